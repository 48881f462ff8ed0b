/- Texts of this claim's proof: small lemmas, walks and plain laws (merged by wip/shake.py). -/
import Derived.Test.YtnpnablnnfekkaaDoorTsM0
import Derived.Test.YtnpnablnnfekkaaDoorTsM1
import Derived.MapKept
import Derived.Carry
import Derived.OwnWalk
import Derived.Maps.OwnOps
import Derived.Maps.OwnSet
namespace Go.Proofs.YtnpnablnnfekkaaDoor.PTr
open Go.RowKit Go.Proofs.YtnpnablnnfekkaaDoorW.PrintWords Go.Proofs.YtnpnablnnfekkaaDoorW.PrintLast Go.Proofs.YtnpnablnnfekkaaDoorW.PrintMore
attribute [local go_sem] max2_int min2_int max_two min_two max_three min_three max_four min_four   -- for this text's walks alone
set_option linter.unusedVariables false
set_option linter.unusedSimpArgs false
mutual
def rehearsalref04_plain.j0 : Nat → Bool → Int → Int → Int → Int → Int → ByteArray → List (S61) → Option (Bool)
 | 0, _, _, _, _, _, _, _, _ => none
 | k + 1, x31, x176000, x176001, x176002, x176003, x176004, x176005, x176006 => if x31 = true then (some false) else (if x176001 = 1 then (if x176005.toList = ([] : List UInt8) then ((rehearsalref04_Entries.f k x176006).bind fun t176 => (some t176)) else (some false)) else (if (x176006.length : Int) > 0 then (some false) else (rehearsalref04_plain.l0 k 0 x176000 x176001 x176002 x176003 x176004 x176005 x176006)))
def rehearsalref04_plain.l0 : Nat → Int → Int → Int → Int → Int → Int → ByteArray → List (S61) → Option (Bool)
 | 0, _, _, _, _, _, _, _, _ => none
 | k + 1, x3, x176000, x176001, x176002, x176003, x176004, x176005, x176006 => if x3 < (x176005.size : Int) then (rehearsalref04_plain.j2 k x3 (x176001 == 3) x176000 x176001 x176002 x176003 x176004 x176005 x176006) else (rehearsalref04_plain.j2 k x3 false x176000 x176001 x176002 x176003 x176004 x176005 x176006)
def rehearsalref04_plain.j2 : Nat → Int → Bool → Int → Int → Int → Int → Int → ByteArray → List (S61) → Option (Bool)
 | 0, _, _, _, _, _, _, _, _, _ => none
 | k + 1, x3, x56, x176000, x176001, x176002, x176003, x176004, x176005, x176006 => if x56 = true then (if 0 ≤ x3 then (if x3 < (x176005.size : Int) then (if (bt x176005 x3) = 0 then (some false) else (rehearsalref04_plain.l0 k (wrap64 (x3 + 1)) x176000 x176001 x176002 x176003 x176004 x176005 x176006)) else (none)) else (none)) else (if x176001 = 2 then (if (x176005.size : Int) ≤ 4096 then (some true) else (if x176001 = 3 then (if (x176005.size : Int) ≥ 1 then (some (decide ((x176005.size : Int) ≤ 256))) else (some false)) else (some false))) else (if x176001 = 3 then (if (x176005.size : Int) ≥ 1 then (some (decide ((x176005.size : Int) ≤ 256))) else (some false)) else (some false)))
end
def rehearsalref04_plain.f (k : Nat) (a0_0 : Int) (a0_1 : Int) (a0_2 : Int) (a0_3 : Int) (a0_4 : Int) (a0_5 : ByteArray) (l0_6 : List (S61)) : Option (Bool) := if a0_2 < 0 then (rehearsalref04_plain.j0 k true a0_0 a0_1 a0_2 a0_3 a0_4 a0_5 l0_6) else (if a0_2 > 511 then (rehearsalref04_plain.j0 k true a0_0 a0_1 a0_2 a0_3 a0_4 a0_5 l0_6) else (if a0_3 < 0 then (rehearsalref04_plain.j0 k true a0_0 a0_1 a0_2 a0_3 a0_4 a0_5 l0_6) else (if a0_3 > 65535 then (rehearsalref04_plain.j0 k true a0_0 a0_1 a0_2 a0_3 a0_4 a0_5 l0_6) else (if a0_4 < 0 then (rehearsalref04_plain.j0 k true a0_0 a0_1 a0_2 a0_3 a0_4 a0_5 l0_6) else (rehearsalref04_plain.j0 k (decide (a0_4 > 1099511627776)) a0_0 a0_1 a0_2 a0_3 a0_4 a0_5 l0_6)))))
set_option maxHeartbeats 8000000 in
set_option maxRecDepth 100000 in
theorem rehearsalref04_plain.calls (k : Nat) (a0_0 : Int) (a0_1 : Int) (a0_2 : Int) (a0_3 : Int) (a0_4 : Int) (a0_5 : ByteArray) (A0_6 : Option Addr) (c0_6 : Nat) (l0_6 : List (S61)) (r : Bool) (w : World) (hr0_6 : Kd.C k61 w A0_6 l0_6.length l0_6) (hc0_6 : l0_6.length ≤ c0_6) (h : rehearsalref04_plain.f k a0_0 a0_1 a0_2 a0_3 a0_4 a0_5 l0_6 = some r) :
  Calls Tryd.prog 60 #[.agg #[.int .i64 a0_0, .int .i64 a0_1, .int .i64 a0_2, .int .i64 a0_3, .int .i64 a0_4, .string a0_5, .slice A0_6 l0_6.length c0_6]] w fun e w' => e = .returned (.bool r) ∧ Below w.heap.size w w' := by
 have hu44 := Tryd.underlying44
 have HR0_6 := Aside0.mk hr0_6
 have HC0_6 := Aside0.mk hc0_6
 clear hr0_6 hc0_6
 have HB := Aside0.mk (Below.refl w.heap.size w)
 have H : (if a0_2 < 0 then (rehearsalref04_plain.j0 k true a0_0 a0_1 a0_2 a0_3 a0_4 a0_5 l0_6) else (if a0_2 > 511 then (rehearsalref04_plain.j0 k true a0_0 a0_1 a0_2 a0_3 a0_4 a0_5 l0_6) else (if a0_3 < 0 then (rehearsalref04_plain.j0 k true a0_0 a0_1 a0_2 a0_3 a0_4 a0_5 l0_6) else (if a0_3 > 65535 then (rehearsalref04_plain.j0 k true a0_0 a0_1 a0_2 a0_3 a0_4 a0_5 l0_6) else (if a0_4 < 0 then (rehearsalref04_plain.j0 k true a0_0 a0_1 a0_2 a0_3 a0_4 a0_5 l0_6) else (rehearsalref04_plain.j0 k (decide (a0_4 > 1099511627776)) a0_0 a0_1 a0_2 a0_3 a0_4 a0_5 l0_6)))))) = some r := h
 clear h
 have HC2 := Aside0.mk H
 clear H
 go_enter Tryd.func60, Tryd.ntmps60
 go_upto_region 1 with (first | ((with_reducible refine gate_dst (N := 1) rfl ?_); (try (refine gate_guard (by rfl) ?_; dsimp only)); refine box_event ?hg (N := 1) ?hd (cs := #[.int .i64 a0_0, .int .i64 a0_1, .int .i64 a0_2, .int .i64 a0_3, .int .i64 a0_4, .string a0_5, .slice A0_6 l0_6.length c0_6]) (t := 44) ?hr ?_; (case hd => rfl); (case hg => rfl); (case hr => first | (go_simp; done) | (go_simp; rfl)); intro gb175 hg w3 hbox hb; have n0_ := Aside0.mk (below_step (by repeat (first | (with_reducible first | exact HB.out | apply below_alloc | apply pw_below_drewN | apply below_drew1) | exact HB.out)) hb); have n1_ := Aside0.mk (hbox); have n2_ := Aside0.mk ((by rw [hg]; exact (below_size (by repeat (first | (with_reducible first | exact HB.out | apply below_alloc | apply pw_below_drewN | apply below_drew1) | exact HB.out))) : w.heap.size ≤ gb175)); have n3_ := Aside0.mk ((by rw [hg]; exact (below_size (by repeat (first | (with_reducible first | exact HB.out | apply below_alloc | apply pw_below_drewN | apply below_drew1) | exact HB.out))) : w.heap.size ≤ gb175)); clear HB; have HB := n0_; have BK175 := n1_; have GW175 := n2_; have GE175 := n3_; clear n0_ n1_ n2_ n3_; clear hb hbox hg))
 (try simp only [Act.put, List.setIfInBounds_toArray, List.set_cons_zero, List.set_cons_succ])
 go_cut [31] (fun v31 wc => ∃ (kq : Nat) (x31_1 : Bool), v31 = .bool x31_1 ∧ Aside0 (rehearsalref04_plain.j0 kq x31_1 a0_0 a0_1 a0_2 a0_3 a0_4 a0_5 l0_6 = some r) ∧ Aside0 (kq ≤ k) ∧ Aside0 (wc.heap[gb175]? = some (.cells #[.int .i64 a0_0, .int .i64 a0_1, .int .i64 a0_2, .int .i64 a0_3, .int .i64 a0_4, .string a0_5, (.slice A0_6 l0_6.length c0_6)] 44 (0, 0))) ∧ Aside0 (Below w.heap.size w wc))
 case first =>
  have H := HC2.out
  clear HC2
  by_cases c4 : a0_2 < 0
  ·
   rw [if_pos c4] at H
   have c4b0 : decide (a0_2 < 0) = true := decide_eq_true c4
   clear c4
   (first | rw [c4b0] | (simp only [i64_w, i32_w]; rw [c4b0]) | skip)
   have H' := Aside0.mk H
   clear H
   have hcz5_0 : w3.cell? ⟨gb175, 0, none⟩ = some (.int .i64 a0_0) := (blk_cell BK175.out 0).trans rfl
   have hcz5_1 : w3.cell? ⟨gb175, 1, none⟩ = some (.int .i64 a0_1) := (blk_cell BK175.out 1).trans rfl
   have hcz5_2 : w3.cell? ⟨gb175, 2, none⟩ = some (.int .i64 a0_2) := (blk_cell BK175.out 2).trans rfl
   have hcz5_3 : w3.cell? ⟨gb175, 3, none⟩ = some (.int .i64 a0_3) := (blk_cell BK175.out 3).trans rfl
   have hcz5_4 : w3.cell? ⟨gb175, 4, none⟩ = some (.int .i64 a0_4) := (blk_cell BK175.out 4).trans rfl
   have hcz5_5 : w3.cell? ⟨gb175, 5, none⟩ = some (.string a0_5) := (blk_cell BK175.out 5).trans rfl
   have hcz5_6 : w3.cell? ⟨gb175, 6, none⟩ = some (.slice A0_6 l0_6.length c0_6) := (blk_cell BK175.out 6).trans rfl
   have hfz5_0 := blk_frozen BK175.out 0
   have hfz5_1 := blk_frozen BK175.out 1
   have hfz5_2 := blk_frozen BK175.out 2
   have hfz5_3 := blk_frozen BK175.out 3
   have hfz5_4 := blk_frozen BK175.out 4
   have hfz5_5 := blk_frozen BK175.out 5
   have hfz5_6 := blk_frozen BK175.out 6
   go_wp2
   go_meet
   case rel => exact ⟨_, (true), (by first | rfl | (simp; done) | (simp [*]; done)), H', ⟨by first | omega | exact Nat.le_refl _⟩, ⟨by (with_reducible repeat (first | refine blk_drewN ?_ _ | refine blk_drew ?_ | refine blk_alloc ?_ _)); exact BK175.out⟩, ⟨by repeat (first | (with_reducible first | exact HB.out | apply below_alloc | apply pw_below_drewN | apply below_drew1 | refine below_set ?_ GE175.out) | exact HB.out)⟩⟩
  ·
   rw [if_neg c4] at H
   have c4b0 : decide (a0_2 < 0) = false := decide_eq_false c4
   clear c4
   (first | rw [c4b0] | (simp only [i64_w, i32_w]; rw [c4b0]) | skip)
   by_cases c6 : a0_2 > 511
   ·
    rw [if_pos c6] at H
    have c6b0 : decide (511 < a0_2) = true := decide_eq_true c6
    clear c6
    have H' := Aside0.mk H
    clear H
    have hcz7_0 : w3.cell? ⟨gb175, 0, none⟩ = some (.int .i64 a0_0) := (blk_cell BK175.out 0).trans rfl
    have hcz7_1 : w3.cell? ⟨gb175, 1, none⟩ = some (.int .i64 a0_1) := (blk_cell BK175.out 1).trans rfl
    have hcz7_2 : w3.cell? ⟨gb175, 2, none⟩ = some (.int .i64 a0_2) := (blk_cell BK175.out 2).trans rfl
    have hcz7_3 : w3.cell? ⟨gb175, 3, none⟩ = some (.int .i64 a0_3) := (blk_cell BK175.out 3).trans rfl
    have hcz7_4 : w3.cell? ⟨gb175, 4, none⟩ = some (.int .i64 a0_4) := (blk_cell BK175.out 4).trans rfl
    have hcz7_5 : w3.cell? ⟨gb175, 5, none⟩ = some (.string a0_5) := (blk_cell BK175.out 5).trans rfl
    have hcz7_6 : w3.cell? ⟨gb175, 6, none⟩ = some (.slice A0_6 l0_6.length c0_6) := (blk_cell BK175.out 6).trans rfl
    have hfz7_0 := blk_frozen BK175.out 0
    have hfz7_1 := blk_frozen BK175.out 1
    have hfz7_2 := blk_frozen BK175.out 2
    have hfz7_3 := blk_frozen BK175.out 3
    have hfz7_4 := blk_frozen BK175.out 4
    have hfz7_5 := blk_frozen BK175.out 5
    have hfz7_6 := blk_frozen BK175.out 6
    go_wp2
    go_meet
    case rel => exact ⟨_, (true), (by first | rfl | (simp; done) | (simp [*]; done)), H', ⟨by first | omega | exact Nat.le_refl _⟩, ⟨by (with_reducible repeat (first | refine blk_drewN ?_ _ | refine blk_drew ?_ | refine blk_alloc ?_ _)); exact BK175.out⟩, ⟨by repeat (first | (with_reducible first | exact HB.out | apply below_alloc | apply pw_below_drewN | apply below_drew1 | refine below_set ?_ GE175.out) | exact HB.out)⟩⟩
   ·
    rw [if_neg c6] at H
    have c6b0 : decide (511 < a0_2) = false := decide_eq_false c6
    clear c6
    by_cases c8 : a0_3 < 0
    ·
     rw [if_pos c8] at H
     have c8b0 : decide (a0_3 < 0) = true := decide_eq_true c8
     clear c8
     have H' := Aside0.mk H
     clear H
     have hcz9_0 : w3.cell? ⟨gb175, 0, none⟩ = some (.int .i64 a0_0) := (blk_cell BK175.out 0).trans rfl
     have hcz9_1 : w3.cell? ⟨gb175, 1, none⟩ = some (.int .i64 a0_1) := (blk_cell BK175.out 1).trans rfl
     have hcz9_2 : w3.cell? ⟨gb175, 2, none⟩ = some (.int .i64 a0_2) := (blk_cell BK175.out 2).trans rfl
     have hcz9_3 : w3.cell? ⟨gb175, 3, none⟩ = some (.int .i64 a0_3) := (blk_cell BK175.out 3).trans rfl
     have hcz9_4 : w3.cell? ⟨gb175, 4, none⟩ = some (.int .i64 a0_4) := (blk_cell BK175.out 4).trans rfl
     have hcz9_5 : w3.cell? ⟨gb175, 5, none⟩ = some (.string a0_5) := (blk_cell BK175.out 5).trans rfl
     have hcz9_6 : w3.cell? ⟨gb175, 6, none⟩ = some (.slice A0_6 l0_6.length c0_6) := (blk_cell BK175.out 6).trans rfl
     have hfz9_0 := blk_frozen BK175.out 0
     have hfz9_1 := blk_frozen BK175.out 1
     have hfz9_2 := blk_frozen BK175.out 2
     have hfz9_3 := blk_frozen BK175.out 3
     have hfz9_4 := blk_frozen BK175.out 4
     have hfz9_5 := blk_frozen BK175.out 5
     have hfz9_6 := blk_frozen BK175.out 6
     go_wp2
     go_meet
     case rel => exact ⟨_, (true), (by first | rfl | (simp; done) | (simp [*]; done)), H', ⟨by first | omega | exact Nat.le_refl _⟩, ⟨by (with_reducible repeat (first | refine blk_drewN ?_ _ | refine blk_drew ?_ | refine blk_alloc ?_ _)); exact BK175.out⟩, ⟨by repeat (first | (with_reducible first | exact HB.out | apply below_alloc | apply pw_below_drewN | apply below_drew1 | refine below_set ?_ GE175.out) | exact HB.out)⟩⟩
    ·
     rw [if_neg c8] at H
     have c8b0 : decide (a0_3 < 0) = false := decide_eq_false c8
     clear c8
     by_cases c10 : a0_3 > 65535
     ·
      rw [if_pos c10] at H
      have c10b0 : decide (65535 < a0_3) = true := decide_eq_true c10
      clear c10
      have H' := Aside0.mk H
      clear H
      have hcz11_0 : w3.cell? ⟨gb175, 0, none⟩ = some (.int .i64 a0_0) := (blk_cell BK175.out 0).trans rfl
      have hcz11_1 : w3.cell? ⟨gb175, 1, none⟩ = some (.int .i64 a0_1) := (blk_cell BK175.out 1).trans rfl
      have hcz11_2 : w3.cell? ⟨gb175, 2, none⟩ = some (.int .i64 a0_2) := (blk_cell BK175.out 2).trans rfl
      have hcz11_3 : w3.cell? ⟨gb175, 3, none⟩ = some (.int .i64 a0_3) := (blk_cell BK175.out 3).trans rfl
      have hcz11_4 : w3.cell? ⟨gb175, 4, none⟩ = some (.int .i64 a0_4) := (blk_cell BK175.out 4).trans rfl
      have hcz11_5 : w3.cell? ⟨gb175, 5, none⟩ = some (.string a0_5) := (blk_cell BK175.out 5).trans rfl
      have hcz11_6 : w3.cell? ⟨gb175, 6, none⟩ = some (.slice A0_6 l0_6.length c0_6) := (blk_cell BK175.out 6).trans rfl
      have hfz11_0 := blk_frozen BK175.out 0
      have hfz11_1 := blk_frozen BK175.out 1
      have hfz11_2 := blk_frozen BK175.out 2
      have hfz11_3 := blk_frozen BK175.out 3
      have hfz11_4 := blk_frozen BK175.out 4
      have hfz11_5 := blk_frozen BK175.out 5
      have hfz11_6 := blk_frozen BK175.out 6
      go_wp2
      go_meet
      case rel => exact ⟨_, (true), (by first | rfl | (simp; done) | (simp [*]; done)), H', ⟨by first | omega | exact Nat.le_refl _⟩, ⟨by (with_reducible repeat (first | refine blk_drewN ?_ _ | refine blk_drew ?_ | refine blk_alloc ?_ _)); exact BK175.out⟩, ⟨by repeat (first | (with_reducible first | exact HB.out | apply below_alloc | apply pw_below_drewN | apply below_drew1 | refine below_set ?_ GE175.out) | exact HB.out)⟩⟩
     ·
      rw [if_neg c10] at H
      have c10b0 : decide (65535 < a0_3) = false := decide_eq_false c10
      clear c10
      by_cases c12 : a0_4 < 0
      ·
       rw [if_pos c12] at H
       have c12b0 : decide (a0_4 < 0) = true := decide_eq_true c12
       clear c12
       have H' := Aside0.mk H
       clear H
       have hcz13_0 : w3.cell? ⟨gb175, 0, none⟩ = some (.int .i64 a0_0) := (blk_cell BK175.out 0).trans rfl
       have hcz13_1 : w3.cell? ⟨gb175, 1, none⟩ = some (.int .i64 a0_1) := (blk_cell BK175.out 1).trans rfl
       have hcz13_2 : w3.cell? ⟨gb175, 2, none⟩ = some (.int .i64 a0_2) := (blk_cell BK175.out 2).trans rfl
       have hcz13_3 : w3.cell? ⟨gb175, 3, none⟩ = some (.int .i64 a0_3) := (blk_cell BK175.out 3).trans rfl
       have hcz13_4 : w3.cell? ⟨gb175, 4, none⟩ = some (.int .i64 a0_4) := (blk_cell BK175.out 4).trans rfl
       have hcz13_5 : w3.cell? ⟨gb175, 5, none⟩ = some (.string a0_5) := (blk_cell BK175.out 5).trans rfl
       have hcz13_6 : w3.cell? ⟨gb175, 6, none⟩ = some (.slice A0_6 l0_6.length c0_6) := (blk_cell BK175.out 6).trans rfl
       have hfz13_0 := blk_frozen BK175.out 0
       have hfz13_1 := blk_frozen BK175.out 1
       have hfz13_2 := blk_frozen BK175.out 2
       have hfz13_3 := blk_frozen BK175.out 3
       have hfz13_4 := blk_frozen BK175.out 4
       have hfz13_5 := blk_frozen BK175.out 5
       have hfz13_6 := blk_frozen BK175.out 6
       go_wp2
       go_meet
       case rel => exact ⟨_, (true), (by first | rfl | (simp; done) | (simp [*]; done)), H', ⟨by first | omega | exact Nat.le_refl _⟩, ⟨by (with_reducible repeat (first | refine blk_drewN ?_ _ | refine blk_drew ?_ | refine blk_alloc ?_ _)); exact BK175.out⟩, ⟨by repeat (first | (with_reducible first | exact HB.out | apply below_alloc | apply pw_below_drewN | apply below_drew1 | refine below_set ?_ GE175.out) | exact HB.out)⟩⟩
      ·
       rw [if_neg c12] at H
       have c12b0 : decide (a0_4 < 0) = false := decide_eq_false c12
       clear c12
       have H' := Aside0.mk H
       clear H
       have hcz14_0 : w3.cell? ⟨gb175, 0, none⟩ = some (.int .i64 a0_0) := (blk_cell BK175.out 0).trans rfl
       have hcz14_1 : w3.cell? ⟨gb175, 1, none⟩ = some (.int .i64 a0_1) := (blk_cell BK175.out 1).trans rfl
       have hcz14_2 : w3.cell? ⟨gb175, 2, none⟩ = some (.int .i64 a0_2) := (blk_cell BK175.out 2).trans rfl
       have hcz14_3 : w3.cell? ⟨gb175, 3, none⟩ = some (.int .i64 a0_3) := (blk_cell BK175.out 3).trans rfl
       have hcz14_4 : w3.cell? ⟨gb175, 4, none⟩ = some (.int .i64 a0_4) := (blk_cell BK175.out 4).trans rfl
       have hcz14_5 : w3.cell? ⟨gb175, 5, none⟩ = some (.string a0_5) := (blk_cell BK175.out 5).trans rfl
       have hcz14_6 : w3.cell? ⟨gb175, 6, none⟩ = some (.slice A0_6 l0_6.length c0_6) := (blk_cell BK175.out 6).trans rfl
       have hfz14_0 := blk_frozen BK175.out 0
       have hfz14_1 := blk_frozen BK175.out 1
       have hfz14_2 := blk_frozen BK175.out 2
       have hfz14_3 := blk_frozen BK175.out 3
       have hfz14_4 := blk_frozen BK175.out 4
       have hfz14_5 := blk_frozen BK175.out 5
       have hfz14_6 := blk_frozen BK175.out 6
       go_wp2
       go_meet
       case rel => exact ⟨_, (decide (a0_4 > 1099511627776)), (by first | rfl | (simp; done) | (simp [*]; done)), H', ⟨by first | omega | exact Nat.le_refl _⟩, ⟨by (with_reducible repeat (first | refine blk_drewN ?_ _ | refine blk_drew ?_ | refine blk_alloc ?_ _)); exact BK175.out⟩, ⟨by repeat (first | (with_reducible first | exact HB.out | apply below_alloc | apply pw_below_drewN | apply below_drew1 | refine below_set ?_ GE175.out) | exact HB.out)⟩⟩
 case rest =>
  clear HC2
  try clear c1
  try clear p2
  try clear c4
  try clear c4b0
  try clear c6
  try clear c6b0
  try clear c8
  try clear c8b0
  try clear c10
  try clear c10b0
  try clear c12
  try clear c12b0
  try clear hcz11_0
  try clear hcz11_1
  try clear hcz11_2
  try clear hcz11_3
  try clear hcz11_4
  try clear hcz11_5
  try clear hcz11_6
  try clear hcz13_0
  try clear hcz13_1
  try clear hcz13_2
  try clear hcz13_3
  try clear hcz13_4
  try clear hcz13_5
  try clear hcz13_6
  try clear hcz14_0
  try clear hcz14_1
  try clear hcz14_2
  try clear hcz14_3
  try clear hcz14_4
  try clear hcz14_5
  try clear hcz14_6
  try clear hcz5_0
  try clear hcz5_1
  try clear hcz5_2
  try clear hcz5_3
  try clear hcz5_4
  try clear hcz5_5
  try clear hcz5_6
  try clear hcz7_0
  try clear hcz7_1
  try clear hcz7_2
  try clear hcz7_3
  try clear hcz7_4
  try clear hcz7_5
  try clear hcz7_6
  try clear hcz9_0
  try clear hcz9_1
  try clear hcz9_2
  try clear hcz9_3
  try clear hcz9_4
  try clear hcz9_5
  try clear hcz9_6
  try clear hfz11_0
  try clear hfz11_1
  try clear hfz11_2
  try clear hfz11_3
  try clear hfz11_4
  try clear hfz11_5
  try clear hfz11_6
  try clear hfz13_0
  try clear hfz13_1
  try clear hfz13_2
  try clear hfz13_3
  try clear hfz13_4
  try clear hfz13_5
  try clear hfz13_6
  try clear hfz14_0
  try clear hfz14_1
  try clear hfz14_2
  try clear hfz14_3
  try clear hfz14_4
  try clear hfz14_5
  try clear hfz14_6
  try clear hfz5_0
  try clear hfz5_1
  try clear hfz5_2
  try clear hfz5_3
  try clear hfz5_4
  try clear hfz5_5
  try clear hfz5_6
  try clear hfz7_0
  try clear hfz7_1
  try clear hfz7_2
  try clear hfz7_3
  try clear hfz7_4
  try clear hfz7_5
  try clear hfz7_6
  try clear hfz9_0
  try clear hfz9_1
  try clear hfz9_2
  try clear hfz9_3
  try clear hfz9_4
  try clear hfz9_5
  try clear hfz9_6
  obtain ⟨kq, x31_1, rfl, HA, HJ1, BK175, HB⟩ := hcut
  cases kq with
  | zero => exact absurd HA.out (by simp [rehearsalref04_plain.j0])
  | succ kj1 =>
   have H := HA.out
   clear HA
   simp only [rehearsalref04_plain.j0] at H
   by_cases c15 : x31_1 = true
   ·
    subst c15
    have H1 : (some false) = some r := by rw [if_pos rfl] at H; exact H
    clear H
    have H := H1
    clear H1
    obtain rfl := Option.some.inj H
    go_wp2
    go_ret
    exact ⟨by first | rfl | (simp [errW_none, errW_some] <;> rfl) | (simp [*, errW_none, errW_some] <;> rfl), by repeat (first | (with_reducible first | exact HB.out | apply below_alloc | apply pw_below_drewN | apply below_drew1 | refine below_set ?_ GE175.out) | exact HB.out)⟩
   ·
    replace c15 := Bool.eq_false_iff.mpr c15
    subst c15
    have H1 : (if a0_1 = 1 then (if a0_5.toList = ([] : List UInt8) then ((rehearsalref04_Entries.f kj1 l0_6).bind fun t176 => (some t176)) else (some false)) else (if (l0_6.length : Int) > 0 then (some false) else (rehearsalref04_plain.l0 kj1 0 a0_0 a0_1 a0_2 a0_3 a0_4 a0_5 l0_6))) = some r := by rw [if_neg (show ¬ (false = true) by decide)] at H; exact H
    clear H
    have H := H1
    clear H1
    by_cases c16 : a0_1 = 1
    ·
     rw [if_pos c16] at H
     have c16b0 : (a0_1 == 1) = true := beq_iff_eq.mpr c16
     have c16b1 : (a0_1 != 1) = false := bne_eq_false_iff_eq.mpr c16
     clear c16
     by_cases c17 : a0_5.toList = ([] : List UInt8)
     ·
      rw [if_pos c17] at H
      have c17b0 : (a0_5.toList == ([] : List UInt8)) = true := beq_iff_eq.mpr c17
      have c17b1 : (a0_5.toList != ([] : List UInt8)) = false := bne_eq_false_iff_eq.mpr c17
      clear c17
      replace H := Option.bind_eq_some_iff.mp H
      obtain ⟨t176, A180, H⟩ := H
      replace H : (some t176) = some r := H
      have A18 := Aside0.mk A180
      clear A180
      obtain rfl := Option.some.inj H
      have hcz19_0 : wc.cell? ⟨gb175, 0, none⟩ = some (.int .i64 a0_0) := (blk_cell BK175.out 0).trans rfl
      have hcz19_1 : wc.cell? ⟨gb175, 1, none⟩ = some (.int .i64 a0_1) := (blk_cell BK175.out 1).trans rfl
      have hcz19_2 : wc.cell? ⟨gb175, 2, none⟩ = some (.int .i64 a0_2) := (blk_cell BK175.out 2).trans rfl
      have hcz19_3 : wc.cell? ⟨gb175, 3, none⟩ = some (.int .i64 a0_3) := (blk_cell BK175.out 3).trans rfl
      have hcz19_4 : wc.cell? ⟨gb175, 4, none⟩ = some (.int .i64 a0_4) := (blk_cell BK175.out 4).trans rfl
      have hcz19_5 : wc.cell? ⟨gb175, 5, none⟩ = some (.string a0_5) := (blk_cell BK175.out 5).trans rfl
      have hcz19_6 : wc.cell? ⟨gb175, 6, none⟩ = some (.slice A0_6 l0_6.length c0_6) := (blk_cell BK175.out 6).trans rfl
      have hfz19_0 := blk_frozen BK175.out 0
      have hfz19_1 := blk_frozen BK175.out 1
      have hfz19_2 := blk_frozen BK175.out 2
      have hfz19_3 := blk_frozen BK175.out 3
      have hfz19_4 := blk_frozen BK175.out 4
      have hfz19_5 := blk_frozen BK175.out 5
      have hfz19_6 := blk_frozen BK175.out 6
      go_wp2_with (first | (go_at_call 39; (with_reducible refine (rehearsalref04_Entries.calls kj1 _ _ l0_6 t176 _ ?side1 ?side2 A18.out).mono ?_); (case side1 => repeat (first | exact (Kd.C_below HR0_6.out HB.out) | (with_reducible refine Kd.C_alloc ?_ _) | (with_reducible refine Kd.C_drewN ?_ _) | (with_reducible refine Kd.C_drew ?_))); (case side2 => exact HC0_6.out); rintro e w' ⟨rfl, ⟨nd, rfl⟩⟩))
      go_ret
      exact ⟨by first | rfl | (simp [errW_none, errW_some] <;> rfl) | (simp [*, errW_none, errW_some] <;> rfl), by repeat (first | (with_reducible first | exact HB.out | apply below_alloc | apply pw_below_drewN | apply below_drew1 | refine below_set ?_ GE175.out) | exact HB.out)⟩
     ·
      rw [if_neg c17] at H
      have c17b0 : (a0_5.toList == ([] : List UInt8)) = false := beq_eq_false_iff_ne.mpr c17
      have c17b1 : (a0_5.toList != ([] : List UInt8)) = true := bne_iff_ne.mpr c17
      obtain rfl := Option.some.inj H
      have hcz20_0 : wc.cell? ⟨gb175, 0, none⟩ = some (.int .i64 a0_0) := (blk_cell BK175.out 0).trans rfl
      have hcz20_1 : wc.cell? ⟨gb175, 1, none⟩ = some (.int .i64 a0_1) := (blk_cell BK175.out 1).trans rfl
      have hcz20_2 : wc.cell? ⟨gb175, 2, none⟩ = some (.int .i64 a0_2) := (blk_cell BK175.out 2).trans rfl
      have hcz20_3 : wc.cell? ⟨gb175, 3, none⟩ = some (.int .i64 a0_3) := (blk_cell BK175.out 3).trans rfl
      have hcz20_4 : wc.cell? ⟨gb175, 4, none⟩ = some (.int .i64 a0_4) := (blk_cell BK175.out 4).trans rfl
      have hcz20_5 : wc.cell? ⟨gb175, 5, none⟩ = some (.string a0_5) := (blk_cell BK175.out 5).trans rfl
      have hcz20_6 : wc.cell? ⟨gb175, 6, none⟩ = some (.slice A0_6 l0_6.length c0_6) := (blk_cell BK175.out 6).trans rfl
      have hfz20_0 := blk_frozen BK175.out 0
      have hfz20_1 := blk_frozen BK175.out 1
      have hfz20_2 := blk_frozen BK175.out 2
      have hfz20_3 := blk_frozen BK175.out 3
      have hfz20_4 := blk_frozen BK175.out 4
      have hfz20_5 := blk_frozen BK175.out 5
      have hfz20_6 := blk_frozen BK175.out 6
      go_wp2
      go_ret
      exact ⟨by first | rfl | (simp [errW_none, errW_some] <;> rfl) | (simp [*, errW_none, errW_some] <;> rfl), by repeat (first | (with_reducible first | exact HB.out | apply below_alloc | apply pw_below_drewN | apply below_drew1 | refine below_set ?_ GE175.out) | exact HB.out)⟩
    ·
     rw [if_neg c16] at H
     have c16b0 : (a0_1 == 1) = false := beq_eq_false_iff_ne.mpr c16
     have c16b1 : (a0_1 != 1) = true := bne_iff_ne.mpr c16
     by_cases c21 : (l0_6.length : Int) > 0
     ·
      rw [if_pos c21] at H
      have c21b0 : decide (0 < (l0_6.length : Int)) = true := decide_eq_true c21
      have c21b1 : decide (0 < l0_6.length) = true := decide_eq_true (by omega)
      clear c21
      obtain rfl := Option.some.inj H
      have hcz22_0 : wc.cell? ⟨gb175, 0, none⟩ = some (.int .i64 a0_0) := (blk_cell BK175.out 0).trans rfl
      have hcz22_1 : wc.cell? ⟨gb175, 1, none⟩ = some (.int .i64 a0_1) := (blk_cell BK175.out 1).trans rfl
      have hcz22_2 : wc.cell? ⟨gb175, 2, none⟩ = some (.int .i64 a0_2) := (blk_cell BK175.out 2).trans rfl
      have hcz22_3 : wc.cell? ⟨gb175, 3, none⟩ = some (.int .i64 a0_3) := (blk_cell BK175.out 3).trans rfl
      have hcz22_4 : wc.cell? ⟨gb175, 4, none⟩ = some (.int .i64 a0_4) := (blk_cell BK175.out 4).trans rfl
      have hcz22_5 : wc.cell? ⟨gb175, 5, none⟩ = some (.string a0_5) := (blk_cell BK175.out 5).trans rfl
      have hcz22_6 : wc.cell? ⟨gb175, 6, none⟩ = some (.slice A0_6 l0_6.length c0_6) := (blk_cell BK175.out 6).trans rfl
      have hfz22_0 := blk_frozen BK175.out 0
      have hfz22_1 := blk_frozen BK175.out 1
      have hfz22_2 := blk_frozen BK175.out 2
      have hfz22_3 := blk_frozen BK175.out 3
      have hfz22_4 := blk_frozen BK175.out 4
      have hfz22_5 := blk_frozen BK175.out 5
      have hfz22_6 := blk_frozen BK175.out 6
      go_wp2
      go_ret
      exact ⟨by first | rfl | (simp [errW_none, errW_some] <;> rfl) | (simp [*, errW_none, errW_some] <;> rfl), by repeat (first | (with_reducible first | exact HB.out | apply below_alloc | apply pw_below_drewN | apply below_drew1 | refine below_set ?_ GE175.out) | exact HB.out)⟩
     ·
      rw [if_neg c21] at H
      have c21b0 : decide (0 < (l0_6.length : Int)) = false := decide_eq_false c21
      have c21b1 : decide (0 < l0_6.length) = false := decide_eq_false (by omega)
      clear c21
      have H' := Aside0.mk H
      clear H
      have hcz23_0 : wc.cell? ⟨gb175, 0, none⟩ = some (.int .i64 a0_0) := (blk_cell BK175.out 0).trans rfl
      have hcz23_1 : wc.cell? ⟨gb175, 1, none⟩ = some (.int .i64 a0_1) := (blk_cell BK175.out 1).trans rfl
      have hcz23_2 : wc.cell? ⟨gb175, 2, none⟩ = some (.int .i64 a0_2) := (blk_cell BK175.out 2).trans rfl
      have hcz23_3 : wc.cell? ⟨gb175, 3, none⟩ = some (.int .i64 a0_3) := (blk_cell BK175.out 3).trans rfl
      have hcz23_4 : wc.cell? ⟨gb175, 4, none⟩ = some (.int .i64 a0_4) := (blk_cell BK175.out 4).trans rfl
      have hcz23_5 : wc.cell? ⟨gb175, 5, none⟩ = some (.string a0_5) := (blk_cell BK175.out 5).trans rfl
      have hcz23_6 : wc.cell? ⟨gb175, 6, none⟩ = some (.slice A0_6 l0_6.length c0_6) := (blk_cell BK175.out 6).trans rfl
      have hfz23_0 := blk_frozen BK175.out 0
      have hfz23_1 := blk_frozen BK175.out 1
      have hfz23_2 := blk_frozen BK175.out 2
      have hfz23_3 := blk_frozen BK175.out 3
      have hfz23_4 := blk_frozen BK175.out 4
      have hfz23_5 := blk_frozen BK175.out 5
      have hfz23_6 := blk_frozen BK175.out 6
      go_wp2
      go_loopg [3] kj1 (fun kq v3 w' => ∃ (x3_2 : Int), v3 = .int .i64 x3_2 ∧ Aside0 (rehearsalref04_plain.l0 kq x3_2 a0_0 a0_1 a0_2 a0_3 a0_4 a0_5 l0_6 = some r) ∧ Aside0 (kq ≤ kj1) ∧ Aside0 (w'.heap[gb175]? = some (.cells #[.int .i64 a0_0, .int .i64 a0_1, .int .i64 a0_2, .int .i64 a0_3, .int .i64 a0_4, .string a0_5, (.slice A0_6 l0_6.length c0_6)] 44 (0, 0))) ∧ Aside0 (Below w.heap.size w w'))
      case atStart => exact ⟨(0), (by first | rfl | (simp; done) | (simp [*]; done)), H', ⟨Nat.le_refl _⟩, ⟨by (with_reducible repeat (first | refine blk_drewN ?_ _ | refine blk_drew ?_ | refine blk_alloc ?_ _)); exact BK175.out⟩, ⟨by repeat (first | (with_reducible first | exact HB.out | apply below_alloc | apply pw_below_drewN | apply below_drew1 | refine below_set ?_ GE175.out) | exact HB.out)⟩⟩
      case round =>
       clear H'
       try clear c1
       try clear c2
       try clear p2
       try clear c4
       try clear c4b0
       try clear c6
       try clear c6b0
       try clear c8
       try clear c8b0
       try clear c10
       try clear c10b0
       try clear c12
       try clear c12b0
       try clear c15
       try clear c16
       try clear c16b0
       try clear c16b1
       try clear c17
       try clear c17b0
       try clear c17b1
       try clear c21
       try clear c21b0
       try clear c21b1
       try clear hcz11_0
       try clear hcz11_1
       try clear hcz11_2
       try clear hcz11_3
       try clear hcz11_4
       try clear hcz11_5
       try clear hcz11_6
       try clear hcz13_0
       try clear hcz13_1
       try clear hcz13_2
       try clear hcz13_3
       try clear hcz13_4
       try clear hcz13_5
       try clear hcz13_6
       try clear hcz14_0
       try clear hcz14_1
       try clear hcz14_2
       try clear hcz14_3
       try clear hcz14_4
       try clear hcz14_5
       try clear hcz14_6
       try clear hcz19_0
       try clear hcz19_1
       try clear hcz19_2
       try clear hcz19_3
       try clear hcz19_4
       try clear hcz19_5
       try clear hcz19_6
       try clear hcz20_0
       try clear hcz20_1
       try clear hcz20_2
       try clear hcz20_3
       try clear hcz20_4
       try clear hcz20_5
       try clear hcz20_6
       try clear hcz22_0
       try clear hcz22_1
       try clear hcz22_2
       try clear hcz22_3
       try clear hcz22_4
       try clear hcz22_5
       try clear hcz22_6
       try clear hcz23_0
       try clear hcz23_1
       try clear hcz23_2
       try clear hcz23_3
       try clear hcz23_4
       try clear hcz23_5
       try clear hcz23_6
       try clear hcz5_0
       try clear hcz5_1
       try clear hcz5_2
       try clear hcz5_3
       try clear hcz5_4
       try clear hcz5_5
       try clear hcz5_6
       try clear hcz7_0
       try clear hcz7_1
       try clear hcz7_2
       try clear hcz7_3
       try clear hcz7_4
       try clear hcz7_5
       try clear hcz7_6
       try clear hcz9_0
       try clear hcz9_1
       try clear hcz9_2
       try clear hcz9_3
       try clear hcz9_4
       try clear hcz9_5
       try clear hcz9_6
       try clear hfz11_0
       try clear hfz11_1
       try clear hfz11_2
       try clear hfz11_3
       try clear hfz11_4
       try clear hfz11_5
       try clear hfz11_6
       try clear hfz13_0
       try clear hfz13_1
       try clear hfz13_2
       try clear hfz13_3
       try clear hfz13_4
       try clear hfz13_5
       try clear hfz13_6
       try clear hfz14_0
       try clear hfz14_1
       try clear hfz14_2
       try clear hfz14_3
       try clear hfz14_4
       try clear hfz14_5
       try clear hfz14_6
       try clear hfz19_0
       try clear hfz19_1
       try clear hfz19_2
       try clear hfz19_3
       try clear hfz19_4
       try clear hfz19_5
       try clear hfz19_6
       try clear hfz20_0
       try clear hfz20_1
       try clear hfz20_2
       try clear hfz20_3
       try clear hfz20_4
       try clear hfz20_5
       try clear hfz20_6
       try clear hfz22_0
       try clear hfz22_1
       try clear hfz22_2
       try clear hfz22_3
       try clear hfz22_4
       try clear hfz22_5
       try clear hfz22_6
       try clear hfz23_0
       try clear hfz23_1
       try clear hfz23_2
       try clear hfz23_3
       try clear hfz23_4
       try clear hfz23_5
       try clear hfz23_6
       try clear hfz5_0
       try clear hfz5_1
       try clear hfz5_2
       try clear hfz5_3
       try clear hfz5_4
       try clear hfz5_5
       try clear hfz5_6
       try clear hfz7_0
       try clear hfz7_1
       try clear hfz7_2
       try clear hfz7_3
       try clear hfz7_4
       try clear hfz7_5
       try clear hfz7_6
       try clear hfz9_0
       try clear hfz9_1
       try clear hfz9_2
       try clear hfz9_3
       try clear hfz9_4
       try clear hfz9_5
       try clear hfz9_6
       try clear p2
       obtain ⟨x3_2, rfl, HA, HK2, BK175, HB⟩ := hrel
       cases gk with
       | zero => exact absurd HA.out (by simp [rehearsalref04_plain.l0])
       | succ k2 =>
        have H := HA.out
        clear HA
        simp only [rehearsalref04_plain.l0] at H
        have HC24 := Aside0.mk H
        clear H
        go_upto_region 8 with (fail)
        go_cut [56] (fun v56 wc => ∃ (kq : Nat) (x56_23 : Bool), v56 = .bool x56_23 ∧ Aside0 (rehearsalref04_plain.j2 kq x3_2 x56_23 a0_0 a0_1 a0_2 a0_3 a0_4 a0_5 l0_6 = some r) ∧ Aside0 (kq ≤ k2) ∧ Aside0 (wc.heap[gb175]? = some (.cells #[.int .i64 a0_0, .int .i64 a0_1, .int .i64 a0_2, .int .i64 a0_3, .int .i64 a0_4, .string a0_5, (.slice A0_6 l0_6.length c0_6)] 44 (0, 0))) ∧ Aside0 (Below w.heap.size w wc))
        case first =>
         have H := HC24.out
         clear HC24
         by_cases c25 : x3_2 < (a0_5.size : Int)
         ·
          rw [if_pos c25] at H
          have c25b0 : decide (x3_2 < (a0_5.size : Int)) = true := decide_eq_true c25
          clear c25
          (first | rw [c25b0] | (simp only [i64_w, i32_w]; rw [c25b0]) | skip)
          have H' := Aside0.mk H
          clear H
          have hcz26_0 : wr.cell? ⟨gb175, 0, none⟩ = some (.int .i64 a0_0) := (blk_cell BK175.out 0).trans rfl
          have hcz26_1 : wr.cell? ⟨gb175, 1, none⟩ = some (.int .i64 a0_1) := (blk_cell BK175.out 1).trans rfl
          have hcz26_2 : wr.cell? ⟨gb175, 2, none⟩ = some (.int .i64 a0_2) := (blk_cell BK175.out 2).trans rfl
          have hcz26_3 : wr.cell? ⟨gb175, 3, none⟩ = some (.int .i64 a0_3) := (blk_cell BK175.out 3).trans rfl
          have hcz26_4 : wr.cell? ⟨gb175, 4, none⟩ = some (.int .i64 a0_4) := (blk_cell BK175.out 4).trans rfl
          have hcz26_5 : wr.cell? ⟨gb175, 5, none⟩ = some (.string a0_5) := (blk_cell BK175.out 5).trans rfl
          have hcz26_6 : wr.cell? ⟨gb175, 6, none⟩ = some (.slice A0_6 l0_6.length c0_6) := (blk_cell BK175.out 6).trans rfl
          have hfz26_0 := blk_frozen BK175.out 0
          have hfz26_1 := blk_frozen BK175.out 1
          have hfz26_2 := blk_frozen BK175.out 2
          have hfz26_3 := blk_frozen BK175.out 3
          have hfz26_4 := blk_frozen BK175.out 4
          have hfz26_5 := blk_frozen BK175.out 5
          have hfz26_6 := blk_frozen BK175.out 6
          go_wp2
          go_meet
          case rel => exact ⟨_, ((a0_1 == 3)), (by first | rfl | (simp; done) | (simp [*]; done)), H', ⟨by have := HJ1.out; have := HK2.out; first | omega | exact Nat.le_refl _⟩, ⟨by (with_reducible repeat (first | refine blk_drewN ?_ _ | refine blk_drew ?_ | refine blk_alloc ?_ _)); exact BK175.out⟩, ⟨by repeat (first | (with_reducible first | exact HB.out | apply below_alloc | apply pw_below_drewN | apply below_drew1 | refine below_set ?_ GE175.out) | exact HB.out)⟩⟩
         ·
          rw [if_neg c25] at H
          have c25b0 : decide (x3_2 < (a0_5.size : Int)) = false := decide_eq_false c25
          clear c25
          (first | rw [c25b0] | (simp only [i64_w, i32_w]; rw [c25b0]) | skip)
          have H' := Aside0.mk H
          clear H
          have hcz27_0 : wr.cell? ⟨gb175, 0, none⟩ = some (.int .i64 a0_0) := (blk_cell BK175.out 0).trans rfl
          have hcz27_1 : wr.cell? ⟨gb175, 1, none⟩ = some (.int .i64 a0_1) := (blk_cell BK175.out 1).trans rfl
          have hcz27_2 : wr.cell? ⟨gb175, 2, none⟩ = some (.int .i64 a0_2) := (blk_cell BK175.out 2).trans rfl
          have hcz27_3 : wr.cell? ⟨gb175, 3, none⟩ = some (.int .i64 a0_3) := (blk_cell BK175.out 3).trans rfl
          have hcz27_4 : wr.cell? ⟨gb175, 4, none⟩ = some (.int .i64 a0_4) := (blk_cell BK175.out 4).trans rfl
          have hcz27_5 : wr.cell? ⟨gb175, 5, none⟩ = some (.string a0_5) := (blk_cell BK175.out 5).trans rfl
          have hcz27_6 : wr.cell? ⟨gb175, 6, none⟩ = some (.slice A0_6 l0_6.length c0_6) := (blk_cell BK175.out 6).trans rfl
          have hfz27_0 := blk_frozen BK175.out 0
          have hfz27_1 := blk_frozen BK175.out 1
          have hfz27_2 := blk_frozen BK175.out 2
          have hfz27_3 := blk_frozen BK175.out 3
          have hfz27_4 := blk_frozen BK175.out 4
          have hfz27_5 := blk_frozen BK175.out 5
          have hfz27_6 := blk_frozen BK175.out 6
          go_wp2
          go_meet
          case rel => exact ⟨_, (false), (by first | rfl | (simp; done) | (simp [*]; done)), H', ⟨by have := HJ1.out; have := HK2.out; first | omega | exact Nat.le_refl _⟩, ⟨by (with_reducible repeat (first | refine blk_drewN ?_ _ | refine blk_drew ?_ | refine blk_alloc ?_ _)); exact BK175.out⟩, ⟨by repeat (first | (with_reducible first | exact HB.out | apply below_alloc | apply pw_below_drewN | apply below_drew1 | refine below_set ?_ GE175.out) | exact HB.out)⟩⟩
        case rest =>
         clear HC24
         try clear c1
         try clear c2
         try clear p2
         try clear c4
         try clear c4b0
         try clear c6
         try clear c6b0
         try clear c8
         try clear c8b0
         try clear c10
         try clear c10b0
         try clear c12
         try clear c12b0
         try clear c15
         try clear c16
         try clear c16b0
         try clear c16b1
         try clear c17
         try clear c17b0
         try clear c17b1
         try clear c21
         try clear c21b0
         try clear c21b1
         try clear c25
         try clear c25b0
         try clear hcz11_0
         try clear hcz11_1
         try clear hcz11_2
         try clear hcz11_3
         try clear hcz11_4
         try clear hcz11_5
         try clear hcz11_6
         try clear hcz13_0
         try clear hcz13_1
         try clear hcz13_2
         try clear hcz13_3
         try clear hcz13_4
         try clear hcz13_5
         try clear hcz13_6
         try clear hcz14_0
         try clear hcz14_1
         try clear hcz14_2
         try clear hcz14_3
         try clear hcz14_4
         try clear hcz14_5
         try clear hcz14_6
         try clear hcz19_0
         try clear hcz19_1
         try clear hcz19_2
         try clear hcz19_3
         try clear hcz19_4
         try clear hcz19_5
         try clear hcz19_6
         try clear hcz20_0
         try clear hcz20_1
         try clear hcz20_2
         try clear hcz20_3
         try clear hcz20_4
         try clear hcz20_5
         try clear hcz20_6
         try clear hcz22_0
         try clear hcz22_1
         try clear hcz22_2
         try clear hcz22_3
         try clear hcz22_4
         try clear hcz22_5
         try clear hcz22_6
         try clear hcz23_0
         try clear hcz23_1
         try clear hcz23_2
         try clear hcz23_3
         try clear hcz23_4
         try clear hcz23_5
         try clear hcz23_6
         try clear hcz26_0
         try clear hcz26_1
         try clear hcz26_2
         try clear hcz26_3
         try clear hcz26_4
         try clear hcz26_5
         try clear hcz26_6
         try clear hcz27_0
         try clear hcz27_1
         try clear hcz27_2
         try clear hcz27_3
         try clear hcz27_4
         try clear hcz27_5
         try clear hcz27_6
         try clear hcz5_0
         try clear hcz5_1
         try clear hcz5_2
         try clear hcz5_3
         try clear hcz5_4
         try clear hcz5_5
         try clear hcz5_6
         try clear hcz7_0
         try clear hcz7_1
         try clear hcz7_2
         try clear hcz7_3
         try clear hcz7_4
         try clear hcz7_5
         try clear hcz7_6
         try clear hcz9_0
         try clear hcz9_1
         try clear hcz9_2
         try clear hcz9_3
         try clear hcz9_4
         try clear hcz9_5
         try clear hcz9_6
         try clear hfz11_0
         try clear hfz11_1
         try clear hfz11_2
         try clear hfz11_3
         try clear hfz11_4
         try clear hfz11_5
         try clear hfz11_6
         try clear hfz13_0
         try clear hfz13_1
         try clear hfz13_2
         try clear hfz13_3
         try clear hfz13_4
         try clear hfz13_5
         try clear hfz13_6
         try clear hfz14_0
         try clear hfz14_1
         try clear hfz14_2
         try clear hfz14_3
         try clear hfz14_4
         try clear hfz14_5
         try clear hfz14_6
         try clear hfz19_0
         try clear hfz19_1
         try clear hfz19_2
         try clear hfz19_3
         try clear hfz19_4
         try clear hfz19_5
         try clear hfz19_6
         try clear hfz20_0
         try clear hfz20_1
         try clear hfz20_2
         try clear hfz20_3
         try clear hfz20_4
         try clear hfz20_5
         try clear hfz20_6
         try clear hfz22_0
         try clear hfz22_1
         try clear hfz22_2
         try clear hfz22_3
         try clear hfz22_4
         try clear hfz22_5
         try clear hfz22_6
         try clear hfz23_0
         try clear hfz23_1
         try clear hfz23_2
         try clear hfz23_3
         try clear hfz23_4
         try clear hfz23_5
         try clear hfz23_6
         try clear hfz26_0
         try clear hfz26_1
         try clear hfz26_2
         try clear hfz26_3
         try clear hfz26_4
         try clear hfz26_5
         try clear hfz26_6
         try clear hfz27_0
         try clear hfz27_1
         try clear hfz27_2
         try clear hfz27_3
         try clear hfz27_4
         try clear hfz27_5
         try clear hfz27_6
         try clear hfz5_0
         try clear hfz5_1
         try clear hfz5_2
         try clear hfz5_3
         try clear hfz5_4
         try clear hfz5_5
         try clear hfz5_6
         try clear hfz7_0
         try clear hfz7_1
         try clear hfz7_2
         try clear hfz7_3
         try clear hfz7_4
         try clear hfz7_5
         try clear hfz7_6
         try clear hfz9_0
         try clear hfz9_1
         try clear hfz9_2
         try clear hfz9_3
         try clear hfz9_4
         try clear hfz9_5
         try clear hfz9_6
         try clear p2
         obtain ⟨kq, x56_23, rfl, HA, HJ23, BK175, HB⟩ := hcut
         cases kq with
         | zero => exact absurd HA.out (by simp [rehearsalref04_plain.j2])
         | succ kj23 =>
          have H := HA.out
          clear HA
          simp only [rehearsalref04_plain.j2] at H
          by_cases c28 : x56_23 = true
          ·
           subst c28
           have H1 : (if 0 ≤ x3_2 then (if x3_2 < (a0_5.size : Int) then (if (bt a0_5 x3_2) = 0 then (some false) else (rehearsalref04_plain.l0 kj23 (wrap64 (x3_2 + 1)) a0_0 a0_1 a0_2 a0_3 a0_4 a0_5 l0_6)) else (none)) else (none)) = some r := by rw [if_pos rfl] at H; exact H
           clear H
           have H := H1
           clear H1
           by_cases c29 : 0 ≤ x3_2
           ·
            rw [if_pos c29] at H
            have c29b0 : decide (0 ≤ x3_2) = true := decide_eq_true c29
            clear c29
            by_cases c30 : x3_2 < (a0_5.size : Int)
            ·
             rw [if_pos c30] at H
             have c30b0 : decide (x3_2 < (a0_5.size : Int)) = true := decide_eq_true c30
             clear c30
             by_cases c32 : (bt a0_5 x3_2) = 0
             ·
              rw [if_pos c32] at H
              have c32b0 : ((bt a0_5 x3_2) == 0) = true := beq_iff_eq.mpr c32
              have c32b1 : ((bt a0_5 x3_2) != 0) = false := bne_eq_false_iff_eq.mpr c32
              clear c32
              obtain rfl := Option.some.inj H
              have hcz33_0 : wc.cell? ⟨gb175, 0, none⟩ = some (.int .i64 a0_0) := (blk_cell BK175.out 0).trans rfl
              have hcz33_1 : wc.cell? ⟨gb175, 1, none⟩ = some (.int .i64 a0_1) := (blk_cell BK175.out 1).trans rfl
              have hcz33_2 : wc.cell? ⟨gb175, 2, none⟩ = some (.int .i64 a0_2) := (blk_cell BK175.out 2).trans rfl
              have hcz33_3 : wc.cell? ⟨gb175, 3, none⟩ = some (.int .i64 a0_3) := (blk_cell BK175.out 3).trans rfl
              have hcz33_4 : wc.cell? ⟨gb175, 4, none⟩ = some (.int .i64 a0_4) := (blk_cell BK175.out 4).trans rfl
              have hcz33_5 : wc.cell? ⟨gb175, 5, none⟩ = some (.string a0_5) := (blk_cell BK175.out 5).trans rfl
              have hcz33_6 : wc.cell? ⟨gb175, 6, none⟩ = some (.slice A0_6 l0_6.length c0_6) := (blk_cell BK175.out 6).trans rfl
              have hfz33_0 := blk_frozen BK175.out 0
              have hfz33_1 := blk_frozen BK175.out 1
              have hfz33_2 := blk_frozen BK175.out 2
              have hfz33_3 := blk_frozen BK175.out 3
              have hfz33_4 := blk_frozen BK175.out 4
              have hfz33_5 := blk_frozen BK175.out 5
              have hfz33_6 := blk_frozen BK175.out 6
              have p31 : 0 ≤ (x3_2 : Int) := of_decide_eq_true (by first | (with_reducible assumption) | assumption)
              have q31 : x3_2 < (a0_5.size : Int) := of_decide_eq_true (by first | (with_reducible assumption) | assumption)
              have hx31 := bt_at a0_5 x3_2
              replace p31 := eq_true p31
              replace q31 := eq_true q31
              go_wp2
              go_ret
              exact ⟨by first | rfl | (simp [errW_none, errW_some] <;> rfl) | (simp [*, errW_none, errW_some] <;> rfl), by repeat (first | (with_reducible first | exact HB.out | apply below_alloc | apply pw_below_drewN | apply below_drew1 | refine below_set ?_ GE175.out) | exact HB.out)⟩
             ·
              rw [if_neg c32] at H
              have c32b0 : ((bt a0_5 x3_2) == 0) = false := beq_eq_false_iff_ne.mpr c32
              have c32b1 : ((bt a0_5 x3_2) != 0) = true := bne_iff_ne.mpr c32
              have H' := Aside0.mk H
              clear H
              have hcz34_0 : wc.cell? ⟨gb175, 0, none⟩ = some (.int .i64 a0_0) := (blk_cell BK175.out 0).trans rfl
              have hcz34_1 : wc.cell? ⟨gb175, 1, none⟩ = some (.int .i64 a0_1) := (blk_cell BK175.out 1).trans rfl
              have hcz34_2 : wc.cell? ⟨gb175, 2, none⟩ = some (.int .i64 a0_2) := (blk_cell BK175.out 2).trans rfl
              have hcz34_3 : wc.cell? ⟨gb175, 3, none⟩ = some (.int .i64 a0_3) := (blk_cell BK175.out 3).trans rfl
              have hcz34_4 : wc.cell? ⟨gb175, 4, none⟩ = some (.int .i64 a0_4) := (blk_cell BK175.out 4).trans rfl
              have hcz34_5 : wc.cell? ⟨gb175, 5, none⟩ = some (.string a0_5) := (blk_cell BK175.out 5).trans rfl
              have hcz34_6 : wc.cell? ⟨gb175, 6, none⟩ = some (.slice A0_6 l0_6.length c0_6) := (blk_cell BK175.out 6).trans rfl
              have hfz34_0 := blk_frozen BK175.out 0
              have hfz34_1 := blk_frozen BK175.out 1
              have hfz34_2 := blk_frozen BK175.out 2
              have hfz34_3 := blk_frozen BK175.out 3
              have hfz34_4 := blk_frozen BK175.out 4
              have hfz34_5 := blk_frozen BK175.out 5
              have hfz34_6 := blk_frozen BK175.out 6
              have p31 : 0 ≤ (x3_2 : Int) := of_decide_eq_true (by first | (with_reducible assumption) | assumption)
              have q31 : x3_2 < (a0_5.size : Int) := of_decide_eq_true (by first | (with_reducible assumption) | assumption)
              have hx31 := bt_at a0_5 x3_2
              replace p31 := eq_true p31
              replace q31 := eq_true q31
              go_wp2
              go_roundg kj23
              case measure => have := HJ1.out; have := HK2.out; have := HJ23.out; omega
              case rel => exact ⟨(wrap64 (x3_2 + 1)), (by first | rfl | (simp; done) | (simp [*]; done)), H', ⟨by have := HJ1.out; have := HK2.out; have := HJ23.out; omega⟩, ⟨by (with_reducible repeat (first | refine blk_drewN ?_ _ | refine blk_drew ?_ | refine blk_alloc ?_ _)); exact BK175.out⟩, ⟨by repeat (first | (with_reducible first | exact HB.out | apply below_alloc | apply pw_below_drewN | apply below_drew1 | refine below_set ?_ GE175.out) | exact HB.out)⟩⟩
            ·
             rw [if_neg c30] at H
             exact absurd H (by simp)
           ·
            rw [if_neg c29] at H
            exact absurd H (by simp)
          ·
           replace c28 := Bool.eq_false_iff.mpr c28
           subst c28
           have H1 : (if a0_1 = 2 then (if (a0_5.size : Int) ≤ 4096 then (some true) else (if a0_1 = 3 then (if (a0_5.size : Int) ≥ 1 then (some (decide ((a0_5.size : Int) ≤ 256))) else (some false)) else (some false))) else (if a0_1 = 3 then (if (a0_5.size : Int) ≥ 1 then (some (decide ((a0_5.size : Int) ≤ 256))) else (some false)) else (some false))) = some r := by rw [if_neg (show ¬ (false = true) by decide)] at H; exact H
           clear H
           have H := H1
           clear H1
           by_cases c35 : a0_1 = 2
           ·
            rw [if_pos c35] at H
            have c35b0 : (a0_1 == 2) = true := beq_iff_eq.mpr c35
            have c35b1 : (a0_1 != 2) = false := bne_eq_false_iff_eq.mpr c35
            clear c35
            by_cases c36 : (a0_5.size : Int) ≤ 4096
            ·
             rw [if_pos c36] at H
             have c36b0 : decide ((a0_5.size : Int) ≤ 4096) = true := decide_eq_true c36
             have c36b1 : decide (a0_5.size ≤ 4096) = true := decide_eq_true (by omega)
             clear c36
             obtain rfl := Option.some.inj H
             have hcz37_0 : wc.cell? ⟨gb175, 0, none⟩ = some (.int .i64 a0_0) := (blk_cell BK175.out 0).trans rfl
             have hcz37_1 : wc.cell? ⟨gb175, 1, none⟩ = some (.int .i64 a0_1) := (blk_cell BK175.out 1).trans rfl
             have hcz37_2 : wc.cell? ⟨gb175, 2, none⟩ = some (.int .i64 a0_2) := (blk_cell BK175.out 2).trans rfl
             have hcz37_3 : wc.cell? ⟨gb175, 3, none⟩ = some (.int .i64 a0_3) := (blk_cell BK175.out 3).trans rfl
             have hcz37_4 : wc.cell? ⟨gb175, 4, none⟩ = some (.int .i64 a0_4) := (blk_cell BK175.out 4).trans rfl
             have hcz37_5 : wc.cell? ⟨gb175, 5, none⟩ = some (.string a0_5) := (blk_cell BK175.out 5).trans rfl
             have hcz37_6 : wc.cell? ⟨gb175, 6, none⟩ = some (.slice A0_6 l0_6.length c0_6) := (blk_cell BK175.out 6).trans rfl
             have hfz37_0 := blk_frozen BK175.out 0
             have hfz37_1 := blk_frozen BK175.out 1
             have hfz37_2 := blk_frozen BK175.out 2
             have hfz37_3 := blk_frozen BK175.out 3
             have hfz37_4 := blk_frozen BK175.out 4
             have hfz37_5 := blk_frozen BK175.out 5
             have hfz37_6 := blk_frozen BK175.out 6
             go_wp2
             go_ret
             exact ⟨by first | rfl | (simp [errW_none, errW_some] <;> rfl) | (simp [*, errW_none, errW_some] <;> rfl), by repeat (first | (with_reducible first | exact HB.out | apply below_alloc | apply pw_below_drewN | apply below_drew1 | refine below_set ?_ GE175.out) | exact HB.out)⟩
            ·
             rw [if_neg c36] at H
             have c36b0 : decide ((a0_5.size : Int) ≤ 4096) = false := decide_eq_false c36
             have c36b1 : decide (a0_5.size ≤ 4096) = false := decide_eq_false (by omega)
             clear c36
             by_cases c38 : a0_1 = 3
             ·
              rw [if_pos c38] at H
              have c38b0 : (a0_1 == 3) = true := beq_iff_eq.mpr c38
              have c38b1 : (a0_1 != 3) = false := bne_eq_false_iff_eq.mpr c38
              clear c38
              by_cases c39 : (a0_5.size : Int) ≥ 1
              ·
               rw [if_pos c39] at H
               have c39b0 : decide (1 ≤ (a0_5.size : Int)) = true := decide_eq_true c39
               have c39b1 : decide (1 ≤ a0_5.size) = true := decide_eq_true (by omega)
               clear c39
               obtain rfl := Option.some.inj H
               have hcz40_0 : wc.cell? ⟨gb175, 0, none⟩ = some (.int .i64 a0_0) := (blk_cell BK175.out 0).trans rfl
               have hcz40_1 : wc.cell? ⟨gb175, 1, none⟩ = some (.int .i64 a0_1) := (blk_cell BK175.out 1).trans rfl
               have hcz40_2 : wc.cell? ⟨gb175, 2, none⟩ = some (.int .i64 a0_2) := (blk_cell BK175.out 2).trans rfl
               have hcz40_3 : wc.cell? ⟨gb175, 3, none⟩ = some (.int .i64 a0_3) := (blk_cell BK175.out 3).trans rfl
               have hcz40_4 : wc.cell? ⟨gb175, 4, none⟩ = some (.int .i64 a0_4) := (blk_cell BK175.out 4).trans rfl
               have hcz40_5 : wc.cell? ⟨gb175, 5, none⟩ = some (.string a0_5) := (blk_cell BK175.out 5).trans rfl
               have hcz40_6 : wc.cell? ⟨gb175, 6, none⟩ = some (.slice A0_6 l0_6.length c0_6) := (blk_cell BK175.out 6).trans rfl
               have hfz40_0 := blk_frozen BK175.out 0
               have hfz40_1 := blk_frozen BK175.out 1
               have hfz40_2 := blk_frozen BK175.out 2
               have hfz40_3 := blk_frozen BK175.out 3
               have hfz40_4 := blk_frozen BK175.out 4
               have hfz40_5 := blk_frozen BK175.out 5
               have hfz40_6 := blk_frozen BK175.out 6
               go_wp2
               go_ret
               exact ⟨by first | rfl | (simp [errW_none, errW_some] <;> rfl) | (simp [*, errW_none, errW_some] <;> rfl), by repeat (first | (with_reducible first | exact HB.out | apply below_alloc | apply pw_below_drewN | apply below_drew1 | refine below_set ?_ GE175.out) | exact HB.out)⟩
              ·
               rw [if_neg c39] at H
               have c39b0 : decide (1 ≤ (a0_5.size : Int)) = false := decide_eq_false c39
               have c39b1 : decide (1 ≤ a0_5.size) = false := decide_eq_false (by omega)
               clear c39
               obtain rfl := Option.some.inj H
               have hcz41_0 : wc.cell? ⟨gb175, 0, none⟩ = some (.int .i64 a0_0) := (blk_cell BK175.out 0).trans rfl
               have hcz41_1 : wc.cell? ⟨gb175, 1, none⟩ = some (.int .i64 a0_1) := (blk_cell BK175.out 1).trans rfl
               have hcz41_2 : wc.cell? ⟨gb175, 2, none⟩ = some (.int .i64 a0_2) := (blk_cell BK175.out 2).trans rfl
               have hcz41_3 : wc.cell? ⟨gb175, 3, none⟩ = some (.int .i64 a0_3) := (blk_cell BK175.out 3).trans rfl
               have hcz41_4 : wc.cell? ⟨gb175, 4, none⟩ = some (.int .i64 a0_4) := (blk_cell BK175.out 4).trans rfl
               have hcz41_5 : wc.cell? ⟨gb175, 5, none⟩ = some (.string a0_5) := (blk_cell BK175.out 5).trans rfl
               have hcz41_6 : wc.cell? ⟨gb175, 6, none⟩ = some (.slice A0_6 l0_6.length c0_6) := (blk_cell BK175.out 6).trans rfl
               have hfz41_0 := blk_frozen BK175.out 0
               have hfz41_1 := blk_frozen BK175.out 1
               have hfz41_2 := blk_frozen BK175.out 2
               have hfz41_3 := blk_frozen BK175.out 3
               have hfz41_4 := blk_frozen BK175.out 4
               have hfz41_5 := blk_frozen BK175.out 5
               have hfz41_6 := blk_frozen BK175.out 6
               go_wp2
               go_ret
               exact ⟨by first | rfl | (simp [errW_none, errW_some] <;> rfl) | (simp [*, errW_none, errW_some] <;> rfl), by repeat (first | (with_reducible first | exact HB.out | apply below_alloc | apply pw_below_drewN | apply below_drew1 | refine below_set ?_ GE175.out) | exact HB.out)⟩
             ·
              rw [if_neg c38] at H
              have c38b0 : (a0_1 == 3) = false := beq_eq_false_iff_ne.mpr c38
              have c38b1 : (a0_1 != 3) = true := bne_iff_ne.mpr c38
              obtain rfl := Option.some.inj H
              have hcz42_0 : wc.cell? ⟨gb175, 0, none⟩ = some (.int .i64 a0_0) := (blk_cell BK175.out 0).trans rfl
              have hcz42_1 : wc.cell? ⟨gb175, 1, none⟩ = some (.int .i64 a0_1) := (blk_cell BK175.out 1).trans rfl
              have hcz42_2 : wc.cell? ⟨gb175, 2, none⟩ = some (.int .i64 a0_2) := (blk_cell BK175.out 2).trans rfl
              have hcz42_3 : wc.cell? ⟨gb175, 3, none⟩ = some (.int .i64 a0_3) := (blk_cell BK175.out 3).trans rfl
              have hcz42_4 : wc.cell? ⟨gb175, 4, none⟩ = some (.int .i64 a0_4) := (blk_cell BK175.out 4).trans rfl
              have hcz42_5 : wc.cell? ⟨gb175, 5, none⟩ = some (.string a0_5) := (blk_cell BK175.out 5).trans rfl
              have hcz42_6 : wc.cell? ⟨gb175, 6, none⟩ = some (.slice A0_6 l0_6.length c0_6) := (blk_cell BK175.out 6).trans rfl
              have hfz42_0 := blk_frozen BK175.out 0
              have hfz42_1 := blk_frozen BK175.out 1
              have hfz42_2 := blk_frozen BK175.out 2
              have hfz42_3 := blk_frozen BK175.out 3
              have hfz42_4 := blk_frozen BK175.out 4
              have hfz42_5 := blk_frozen BK175.out 5
              have hfz42_6 := blk_frozen BK175.out 6
              go_wp2
              go_ret
              exact ⟨by first | rfl | (simp [errW_none, errW_some] <;> rfl) | (simp [*, errW_none, errW_some] <;> rfl), by repeat (first | (with_reducible first | exact HB.out | apply below_alloc | apply pw_below_drewN | apply below_drew1 | refine below_set ?_ GE175.out) | exact HB.out)⟩
           ·
            rw [if_neg c35] at H
            have c35b0 : (a0_1 == 2) = false := beq_eq_false_iff_ne.mpr c35
            have c35b1 : (a0_1 != 2) = true := bne_iff_ne.mpr c35
            by_cases c43 : a0_1 = 3
            ·
             rw [if_pos c43] at H
             have c43b0 : (a0_1 == 3) = true := beq_iff_eq.mpr c43
             have c43b1 : (a0_1 != 3) = false := bne_eq_false_iff_eq.mpr c43
             clear c43
             by_cases c44 : (a0_5.size : Int) ≥ 1
             ·
              rw [if_pos c44] at H
              have c44b0 : decide (1 ≤ (a0_5.size : Int)) = true := decide_eq_true c44
              have c44b1 : decide (1 ≤ a0_5.size) = true := decide_eq_true (by omega)
              clear c44
              obtain rfl := Option.some.inj H
              have hcz45_0 : wc.cell? ⟨gb175, 0, none⟩ = some (.int .i64 a0_0) := (blk_cell BK175.out 0).trans rfl
              have hcz45_1 : wc.cell? ⟨gb175, 1, none⟩ = some (.int .i64 a0_1) := (blk_cell BK175.out 1).trans rfl
              have hcz45_2 : wc.cell? ⟨gb175, 2, none⟩ = some (.int .i64 a0_2) := (blk_cell BK175.out 2).trans rfl
              have hcz45_3 : wc.cell? ⟨gb175, 3, none⟩ = some (.int .i64 a0_3) := (blk_cell BK175.out 3).trans rfl
              have hcz45_4 : wc.cell? ⟨gb175, 4, none⟩ = some (.int .i64 a0_4) := (blk_cell BK175.out 4).trans rfl
              have hcz45_5 : wc.cell? ⟨gb175, 5, none⟩ = some (.string a0_5) := (blk_cell BK175.out 5).trans rfl
              have hcz45_6 : wc.cell? ⟨gb175, 6, none⟩ = some (.slice A0_6 l0_6.length c0_6) := (blk_cell BK175.out 6).trans rfl
              have hfz45_0 := blk_frozen BK175.out 0
              have hfz45_1 := blk_frozen BK175.out 1
              have hfz45_2 := blk_frozen BK175.out 2
              have hfz45_3 := blk_frozen BK175.out 3
              have hfz45_4 := blk_frozen BK175.out 4
              have hfz45_5 := blk_frozen BK175.out 5
              have hfz45_6 := blk_frozen BK175.out 6
              go_wp2
              go_ret
              exact ⟨by first | rfl | (simp [errW_none, errW_some] <;> rfl) | (simp [*, errW_none, errW_some] <;> rfl), by repeat (first | (with_reducible first | exact HB.out | apply below_alloc | apply pw_below_drewN | apply below_drew1 | refine below_set ?_ GE175.out) | exact HB.out)⟩
             ·
              rw [if_neg c44] at H
              have c44b0 : decide (1 ≤ (a0_5.size : Int)) = false := decide_eq_false c44
              have c44b1 : decide (1 ≤ a0_5.size) = false := decide_eq_false (by omega)
              clear c44
              obtain rfl := Option.some.inj H
              have hcz46_0 : wc.cell? ⟨gb175, 0, none⟩ = some (.int .i64 a0_0) := (blk_cell BK175.out 0).trans rfl
              have hcz46_1 : wc.cell? ⟨gb175, 1, none⟩ = some (.int .i64 a0_1) := (blk_cell BK175.out 1).trans rfl
              have hcz46_2 : wc.cell? ⟨gb175, 2, none⟩ = some (.int .i64 a0_2) := (blk_cell BK175.out 2).trans rfl
              have hcz46_3 : wc.cell? ⟨gb175, 3, none⟩ = some (.int .i64 a0_3) := (blk_cell BK175.out 3).trans rfl
              have hcz46_4 : wc.cell? ⟨gb175, 4, none⟩ = some (.int .i64 a0_4) := (blk_cell BK175.out 4).trans rfl
              have hcz46_5 : wc.cell? ⟨gb175, 5, none⟩ = some (.string a0_5) := (blk_cell BK175.out 5).trans rfl
              have hcz46_6 : wc.cell? ⟨gb175, 6, none⟩ = some (.slice A0_6 l0_6.length c0_6) := (blk_cell BK175.out 6).trans rfl
              have hfz46_0 := blk_frozen BK175.out 0
              have hfz46_1 := blk_frozen BK175.out 1
              have hfz46_2 := blk_frozen BK175.out 2
              have hfz46_3 := blk_frozen BK175.out 3
              have hfz46_4 := blk_frozen BK175.out 4
              have hfz46_5 := blk_frozen BK175.out 5
              have hfz46_6 := blk_frozen BK175.out 6
              go_wp2
              go_ret
              exact ⟨by first | rfl | (simp [errW_none, errW_some] <;> rfl) | (simp [*, errW_none, errW_some] <;> rfl), by repeat (first | (with_reducible first | exact HB.out | apply below_alloc | apply pw_below_drewN | apply below_drew1 | refine below_set ?_ GE175.out) | exact HB.out)⟩
            ·
             rw [if_neg c43] at H
             have c43b0 : (a0_1 == 3) = false := beq_eq_false_iff_ne.mpr c43
             have c43b1 : (a0_1 != 3) = true := bne_iff_ne.mpr c43
             obtain rfl := Option.some.inj H
             have hcz47_0 : wc.cell? ⟨gb175, 0, none⟩ = some (.int .i64 a0_0) := (blk_cell BK175.out 0).trans rfl
             have hcz47_1 : wc.cell? ⟨gb175, 1, none⟩ = some (.int .i64 a0_1) := (blk_cell BK175.out 1).trans rfl
             have hcz47_2 : wc.cell? ⟨gb175, 2, none⟩ = some (.int .i64 a0_2) := (blk_cell BK175.out 2).trans rfl
             have hcz47_3 : wc.cell? ⟨gb175, 3, none⟩ = some (.int .i64 a0_3) := (blk_cell BK175.out 3).trans rfl
             have hcz47_4 : wc.cell? ⟨gb175, 4, none⟩ = some (.int .i64 a0_4) := (blk_cell BK175.out 4).trans rfl
             have hcz47_5 : wc.cell? ⟨gb175, 5, none⟩ = some (.string a0_5) := (blk_cell BK175.out 5).trans rfl
             have hcz47_6 : wc.cell? ⟨gb175, 6, none⟩ = some (.slice A0_6 l0_6.length c0_6) := (blk_cell BK175.out 6).trans rfl
             have hfz47_0 := blk_frozen BK175.out 0
             have hfz47_1 := blk_frozen BK175.out 1
             have hfz47_2 := blk_frozen BK175.out 2
             have hfz47_3 := blk_frozen BK175.out 3
             have hfz47_4 := blk_frozen BK175.out 4
             have hfz47_5 := blk_frozen BK175.out 5
             have hfz47_6 := blk_frozen BK175.out 6
             go_wp2
             go_ret
             exact ⟨by first | rfl | (simp [errW_none, errW_some] <;> rfl) | (simp [*, errW_none, errW_some] <;> rfl), by repeat (first | (with_reducible first | exact HB.out | apply below_alloc | apply pw_below_drewN | apply below_drew1 | refine below_set ?_ GE175.out) | exact HB.out)⟩
end Go.Proofs.YtnpnablnnfekkaaDoor.PTr
set_option linter.unusedVariables false
set_option linter.unusedSimpArgs false
namespace Go.Proofs.YtnpnablnnfekkaaDoor.PTr
open Go.RowKit Go.Proofs.YtnpnablnnfekkaaDoor Go.Proofs.YtnpnablnnfekkaaDoorW.PrintWords
abbrev Ent := S61
abbrev Nod := S44
theorem rdE (l : List Ent) (i : Nat) (h : i < l.length) : rd_T61 l (i : Int) = l[i] := by
 unfold rd_T61
 rw [Int.toNat_natCast, List.getD_eq_getElem?_getD, List.getElem?_eq_getElem h]; rfl
theorem rdN (l : List Nod) (i : Nat) (h : i < l.length) : rd_T44 l (i : Int) = l[i] := by
 unfold rd_T44
 rw [Int.toNat_natCast, List.getD_eq_getElem?_getD, List.getElem?_eq_getElem h]; rfl
/-- entries from a place on: names that may be, rising -/
def entAt (l : List Ent) (i : Nat) : Bool := nameB (rd_T61 l i).f0.data.toList && (decide (i = 0) || Op.bytesLess (rd_T61 l ((i - 1 : Nat) : Int)).f0.toList (rd_T61 l i).f0.toList)
def entsB (l : List Ent) : Bool := (List.range l.length).all (entAt l)
theorem range_drop (n i : Nat) (h : i < n) : (List.range n).drop i = i :: (List.range n).drop (i + 1) := by
 rw [List.drop_eq_getElem_cons (by rw [List.length_range]; exact h)]; simp
theorem ents_prog_l0 (l : List Ent) (hl : l.length ≤ 4611686018427387904) : ∀ (d k i : Nat), i + d = l.length → d < k → tree_Entries.l0 k l l (l.length : Int) (i : Int) = some (((List.range l.length).drop i).all (entAt l)) := by
 intro d
 induction d with
 | zero =>
  intro k i h hk
  obtain ⟨k, rfl⟩ : ∃ j, k = j + 1 := ⟨k - 1, by omega⟩
  unfold tree_Entries.l0
  rw [if_neg (by omega), List.drop_of_length_le (by rw [List.length_range]; omega)]; rfl
 | succ d ih =>
  intro k i h hk
  obtain ⟨k, rfl⟩ : ∃ j, k = j + 1 := ⟨k - 1, by omega⟩
  have hi : i < l.length := by omega
  unfold tree_Entries.l0
  obtain ⟨s, hs⟩ := exists_asB (rd_T61 l (i : Int)).f0
  rw [if_pos (by omega), if_pos (by omega), if_pos (by omega), hs, name_prog, Option.bind_some, range_drop _ _ hi, List.all_cons, show wrap64 ((i : Int) + 1) = ((i + 1 : Nat) : Int) from by unfold wrap64; omega, ih k (i + 1) (by omega) (by omega)]
  unfold entAt
  rw [hs, asB_data]
  cases hn : nameB s with
  | false => simp
  | true =>
   simp only [if_true, Bool.true_and]
   by_cases h0 : i = 0
   ·
    subst h0
    simp
   ·
    have e : wrap64 ((i : Int) - 1) = ((i - 1 : Nat) : Int) := by unfold wrap64; omega
    rw [if_pos (by omega : (i : Int) > 0), e, if_pos (by omega), if_pos (by omega)]
    simp only [h0, decide_false, Bool.false_or]
    cases hb : Op.bytesLess (rd_T61 l ((i - 1 : Nat) : Int)).f0.toList (asB s).toList <;> simp
theorem ents_prog (l : List Ent) (hl : l.length ≤ 4611686018427387904) (k : Nat) (hk : l.length < k) : tree_Entries.f k l = some (entsB l) := by
 unfold tree_Entries.f
 rw [show (0 : Int) = ((0 : Nat) : Int) from rfl, ents_prog_l0 l hl l.length k 0 (by omega) hk]; rfl
theorem ents_ref_l0 (l : List Ent) (hl : l.length ≤ 140737488351232) (hz : ∀ x ∈ l, x.f0.size ≤ 140737488351232) : ∀ (d k i : Nat), i + d = l.length → d + 140737488351233 < k → rehearsalref04_Entries.l0 k l (i : Int) = some (((List.range l.length).drop i).all (entAt l)) := by
 intro d
 induction d with
 | zero =>
  intro k i h hk
  obtain ⟨k, rfl⟩ : ∃ j, k = j + 1 := ⟨k - 1, by omega⟩
  unfold rehearsalref04_Entries.l0
  rw [if_neg (by omega), List.drop_of_length_le (by rw [List.length_range]; omega)]; rfl
 | succ d ih =>
  intro k i h hk
  obtain ⟨k, rfl⟩ : ∃ j, k = j + 1 := ⟨k - 1, by omega⟩
  have hi : i < l.length := by omega
  unfold rehearsalref04_Entries.l0
  have hsz := hz l[i] (List.getElem_mem hi)
  rw [← rdE l i hi] at hsz
  obtain ⟨s, hs⟩ := exists_asB (rd_T61 l (i : Int)).f0
  rw [hs, asB_size] at hsz
  rw [if_pos (by omega), if_pos (by omega), hs, name_ref s hsz k (by omega), Option.bind_some, range_drop _ _ hi, List.all_cons, show wrap64 ((i : Int) + 1) = ((i + 1 : Nat) : Int) from by unfold wrap64; omega, ih k (i + 1) (by omega) (by omega)]
  unfold entAt
  rw [hs, asB_data]
  cases hn : nameB s with
  | false => simp
  | true =>
   simp only [if_true, Bool.true_and]
   by_cases h0 : i = 0
   ·
    subst h0
    simp
   ·
    have e : wrap64 ((i : Int) - 1) = ((i - 1 : Nat) : Int) := by unfold wrap64; omega
    rw [if_pos (by omega : (i : Int) > 0), e, if_pos (by omega), if_pos (by omega)]
    simp only [h0, decide_false, Bool.false_or]
    cases hb : Op.bytesLess (rd_T61 l ((i - 1 : Nat) : Int)).f0.toList (asB s).toList <;> simp
theorem ents_ref (l : List Ent) (hl : l.length ≤ 140737488351232) (hz : ∀ x ∈ l, x.f0.size ≤ 140737488351232) (k : Nat) (hk : 300000000000000 < k) : rehearsalref04_Entries.f k l = some (entsB l) := by
 unfold rehearsalref04_Entries.f
 rw [show (0 : Int) = ((0 : Nat) : Int) from rfl, ents_ref_l0 l hl hz l.length k 0 (by omega) (by omega)]; rfl
def noZero (l : List UInt8) : Bool := !(l.any fun x => decide ((x.toNat : Int) = 0))
/-- may a node be, by itself? -/
def plainB (x : Nod) : Bool := decide (0 ≤ x.f2 ∧ x.f2 ≤ 511 ∧ 0 ≤ x.f3 ∧ x.f3 ≤ 65535 ∧ 0 ≤ x.f4 ∧ x.f4 ≤ 1099511627776) &&
 (if x.f1 = 1 then decide (x.f5.size = 0) && entsB x.f6 else if x.f1 = 2 then decide (x.f5.size ≤ 4096) && decide (x.f6.length = 0) else if x.f1 = 3 then decide (1 ≤ x.f5.size) && decide (x.f5.size ≤ 256) && noZero x.f5.data.toList && decide (x.f6.length = 0) else false)
theorem sizeNil (s : ByteArray) : s.toList = ([] : List UInt8) ↔ s.size = 0 := by
 rw [toList_data]
 exact ⟨fun h => by show s.data.size = 0; rw [← Array.length_toList, h]; rfl, fun h => List.eq_nil_of_length_eq_zero (by rw [Array.length_toList]; exact h)⟩
theorem plain_prog (x : Nod) (hl : x.f6.length ≤ 4611686018427387904) (k : Nat) (hk : x.f6.length + 1 < k) : tree_plain.f k x.f0 x.f1 x.f2 x.f3 x.f4 x.f5 x.f6 = some (plainB x) := by
 obtain ⟨k, rfl⟩ : ∃ j, k = j + 1 := ⟨k - 1, by omega⟩
 have hj : ∀ b : Bool, tree_plain.j0 (k + 1) b x.f0 x.f1 x.f2 x.f3 x.f4 x.f5 x.f6 = some (!b && (if x.f1 = 1 then decide (x.f5.size = 0) && entsB x.f6 else if x.f1 = 2 then decide (x.f5.size ≤ 4096) && decide (x.f6.length = 0) else if x.f1 = 3 then decide (1 ≤ x.f5.size) && decide (x.f5.size ≤ 256) && noZero x.f5.data.toList && decide (x.f6.length = 0) else false)) := by
  intro b
  unfold tree_plain.j0
  cases b with
  | true => simp
  | false =>
   simp only [Bool.false_eq_true, if_false, Bool.not_false, Bool.true_and]
   by_cases h1 : x.f1 = 1
   ·
    rw [if_pos h1, if_pos h1]
    by_cases h2 : x.f5.size = 0
    ·
     rw [if_pos ((sizeNil _).2 h2), ents_prog _ hl k (by omega)]; simp [h2]
    ·
     rw [if_neg (fun h => h2 ((sizeNil _).1 h))]; simp [h2]
   ·
    rw [if_neg h1, if_neg h1]
    have el : ((x.f6.length : Int) == 0) = decide (x.f6.length = 0) := by
     by_cases h : x.f6.length = 0
     ·
      rw [h]; rfl
     ·
      have : ¬ ((x.f6.length : Int) = 0) := by omega
      simp [h, this]
    by_cases h3 : x.f1 = 2
    ·
     rw [if_pos h3, if_pos h3, el]
     by_cases h4 : x.f5.size ≤ 4096
     ·
      rw [if_pos (by omega)]; simp [h4]
     ·
      rw [if_neg (by omega)]; simp [h4]
    ·
     rw [if_neg h3, if_neg h3]
     by_cases h5 : x.f1 = 3
     ·
      rw [if_pos h5, if_pos h5]
      by_cases h6 : x.f5.size = 0
      ·
       rw [if_pos ((sizeNil _).2 h6)]; simp [h6]
      ·
       rw [if_neg (fun h => h6 ((sizeNil _).1 h))]
       have h7 : 1 ≤ x.f5.size := by omega
       by_cases h8 : x.f5.size ≤ 256
       ·
        rw [if_pos (by omega)]
        have hix : strings_IndexByte.f x.f5 0 = some (Lib.indexByte x.f5.data.toList 0) := rfl
        rw [hix, Option.bind_some, el]
        have hz := index_any x.f5.data.toList 0
        have hz' : decide (Lib.indexByte x.f5.data.toList 0 < 0) = noZero x.f5.data.toList := hz
        by_cases h9 : Lib.indexByte x.f5.data.toList 0 < 0
        ·
         rw [if_pos h9, ← hz']; simp [h7, h8, h9]
        ·
         rw [if_neg h9, ← hz']; simp [h9]
       ·
        rw [if_neg (by omega)]; simp [h8]
     ·
      rw [if_neg h5, if_neg h5]
 unfold tree_plain.f plainB
 simp only [hj]
 by_cases a1 : x.f2 < 0
 ·
  rw [if_pos a1, decide_eq_false (show ¬ (0 ≤ x.f2 ∧ x.f2 ≤ 511 ∧ 0 ≤ x.f3 ∧ x.f3 ≤ 65535 ∧ 0 ≤ x.f4 ∧ x.f4 ≤ 1099511627776) by omega)]; rfl
 rw [if_neg a1]
 by_cases a2 : x.f2 > 511
 ·
  rw [if_pos a2, decide_eq_false (show ¬ (0 ≤ x.f2 ∧ x.f2 ≤ 511 ∧ 0 ≤ x.f3 ∧ x.f3 ≤ 65535 ∧ 0 ≤ x.f4 ∧ x.f4 ≤ 1099511627776) by omega)]; rfl
 rw [if_neg a2]
 by_cases a3 : x.f3 < 0
 ·
  rw [if_pos a3, decide_eq_false (show ¬ (0 ≤ x.f2 ∧ x.f2 ≤ 511 ∧ 0 ≤ x.f3 ∧ x.f3 ≤ 65535 ∧ 0 ≤ x.f4 ∧ x.f4 ≤ 1099511627776) by omega)]; rfl
 rw [if_neg a3]
 by_cases a4 : x.f3 > 65535
 ·
  rw [if_pos a4, decide_eq_false (show ¬ (0 ≤ x.f2 ∧ x.f2 ≤ 511 ∧ 0 ≤ x.f3 ∧ x.f3 ≤ 65535 ∧ 0 ≤ x.f4 ∧ x.f4 ≤ 1099511627776) by omega)]; rfl
 rw [if_neg a4]
 by_cases a5 : x.f4 < 0
 ·
  rw [if_pos a5, decide_eq_false (show ¬ (0 ≤ x.f2 ∧ x.f2 ≤ 511 ∧ 0 ≤ x.f3 ∧ x.f3 ≤ 65535 ∧ 0 ≤ x.f4 ∧ x.f4 ≤ 1099511627776) by omega)]; rfl
 rw [if_neg a5]
 by_cases a6 : x.f4 > 1099511627776
 ·
  rw [decide_eq_true a6, decide_eq_false (show ¬ (0 ≤ x.f2 ∧ x.f2 ≤ 511 ∧ 0 ≤ x.f3 ∧ x.f3 ≤ 65535 ∧ 0 ≤ x.f4 ∧ x.f4 ≤ 1099511627776) by omega)]; rfl
 ·
  rw [decide_eq_false a6, decide_eq_true (show 0 ≤ x.f2 ∧ x.f2 ≤ 511 ∧ 0 ≤ x.f3 ∧ x.f3 ≤ 65535 ∧ 0 ≤ x.f4 ∧ x.f4 ≤ 1099511627776 by omega)]; rfl
theorem plain_ref_l0 (x : Nod) (l : List UInt8) (hx : x.f5 = asB l) (h1 : x.f1 ≠ 1) (hs : l.length ≤ 140737488351232) (he : x.f6.length = 0) : ∀ (d k i : Nat), i + d = l.length → 2 * d + 2 < k →
  rehearsalref04_plain.l0 k (i : Int) x.f0 x.f1 x.f2 x.f3 x.f4 x.f5 x.f6 = some (if x.f1 = 2 then decide (x.f5.size ≤ 4096) else if x.f1 = 3 then decide (1 ≤ x.f5.size) && decide (x.f5.size ≤ 256) && noZero (l.drop i) else false) := by
 have hz : x.f5.size = l.length := by rw [hx, asB_size]
 have hj : ∀ (k : Nat) (i : Int), rehearsalref04_plain.j2 (k + 1) i false x.f0 x.f1 x.f2 x.f3 x.f4 x.f5 x.f6 = some (if x.f1 = 2 then decide (x.f5.size ≤ 4096) else if x.f1 = 3 then decide (1 ≤ x.f5.size) && decide (x.f5.size ≤ 256) else false) := by
  intro k i
  unfold rehearsalref04_plain.j2
  simp only [Bool.false_eq_true, if_false]
  by_cases h2 : x.f1 = 2
  ·
   have h3 : ¬ x.f1 = 3 := by omega
   rw [if_pos h2, if_pos h2, if_neg h3]
   by_cases h4 : x.f5.size ≤ 4096
   ·
    rw [if_pos (by omega)]; simp [h4]
   ·
    rw [if_neg (by omega)]; simp [h4]
  ·
   rw [if_neg h2, if_neg h2]
   by_cases h3 : x.f1 = 3
   ·
    rw [if_pos h3, if_pos h3]
    by_cases h4 : 1 ≤ x.f5.size
    ·
     rw [if_pos (by omega)]
     have : decide ((x.f5.size : Int) ≤ 256) = decide (x.f5.size ≤ 256) := by by_cases h : x.f5.size ≤ 256 <;> simp [h] <;> omega
     rw [this]; simp [h4]
    ·
     rw [if_neg (by omega)]; simp [h4]
   ·
    rw [if_neg h3, if_neg h3]
 intro d
 induction d with
 | zero =>
  intro k i h hk
  obtain ⟨k, rfl⟩ : ∃ j, k = j + 1 + 1 := ⟨k - 2, by omega⟩
  unfold rehearsalref04_plain.l0
  rw [if_neg (by omega), hj, List.drop_of_length_le (by omega)]
  simp [noZero]
 | succ d ih =>
  intro k i h hk
  obtain ⟨k, rfl⟩ : ∃ j, k = j + 1 + 1 := ⟨k - 2, by omega⟩
  have hi : i < l.length := by omega
  unfold rehearsalref04_plain.l0
  rw [if_pos (by omega)]
  by_cases h3 : x.f1 = 3
  ·
   have e3 : (x.f1 == 3) = true := by rw [h3]; rfl
   rw [e3]
   unfold rehearsalref04_plain.j2
   have hb : bt x.f5 (i : Int) = (l[i].toNat : Int) := by rw [hx, bt_asB l i hi]
   rw [if_pos rfl, if_pos (by omega), if_pos (by omega), hb, show wrap64 ((i : Int) + 1) = ((i + 1 : Nat) : Int) from by unfold wrap64; omega, ih k (i + 1) (by omega) (by omega), List.drop_eq_getElem_cons hi]
   have h2 : ¬ x.f1 = 2 := by omega
   simp only [if_neg h2, if_pos h3]
   by_cases h0 : (l[i].toNat : Int) = 0
   ·
    have hf : noZero (l[i] :: l.drop (i + 1)) = false := by unfold noZero; rw [List.any_cons, decide_eq_true h0]; rfl
    rw [if_pos h0, hf, Bool.and_false]
   ·
    rw [if_neg h0]
    have : noZero (l[i] :: l.drop (i + 1)) = noZero (l.drop (i + 1)) := by unfold noZero; rw [List.any_cons, decide_eq_false h0, Bool.false_or]
    rw [this]
  ·
   have e3 : (x.f1 == 3) = false := by simpa using h3
   rw [e3, hj]
   simp only [if_neg h3]
theorem plain_ref (x : Nod) (hl : x.f6.length ≤ 140737488351232) (hs : x.f5.size ≤ 140737488351232) (hz : ∀ e ∈ x.f6, e.f0.size ≤ 140737488351232) (k : Nat) (hk : 300000000000010 < k) : rehearsalref04_plain.f k x.f0 x.f1 x.f2 x.f3 x.f4 x.f5 x.f6 = some (plainB x) := by
 obtain ⟨k, rfl⟩ : ∃ j, k = j + 1 := ⟨k - 1, by omega⟩
 obtain ⟨l, hx⟩ := exists_asB x.f5
 have hlz : x.f5.size = l.length := by rw [hx, asB_size]
 have hj : ∀ b : Bool, rehearsalref04_plain.j0 (k + 1) b x.f0 x.f1 x.f2 x.f3 x.f4 x.f5 x.f6 = some (!b && (if x.f1 = 1 then decide (x.f5.size = 0) && entsB x.f6 else if x.f1 = 2 then decide (x.f5.size ≤ 4096) && decide (x.f6.length = 0) else if x.f1 = 3 then decide (1 ≤ x.f5.size) && decide (x.f5.size ≤ 256) && noZero x.f5.data.toList && decide (x.f6.length = 0) else false)) := by
  intro b
  unfold rehearsalref04_plain.j0
  cases b with
  | true => simp
  | false =>
   simp only [Bool.false_eq_true, if_false, Bool.not_false, Bool.true_and]
   by_cases h1 : x.f1 = 1
   ·
    rw [if_pos h1, if_pos h1]
    by_cases h2 : x.f5.size = 0
    ·
     rw [if_pos ((sizeNil _).2 h2), ents_ref _ hl hz k (by omega)]; simp [h2]
    ·
     rw [if_neg (fun h => h2 ((sizeNil _).1 h))]; simp [h2]
   ·
    rw [if_neg h1, if_neg h1]
    by_cases h0 : x.f6.length = 0
    ·
     rw [if_neg (by omega), show (0 : Int) = ((0 : Nat) : Int) from rfl, plain_ref_l0 x l hx h1 (by omega) h0 l.length k 0 (by omega) (by omega), List.drop_zero, hx, asB_data, decide_eq_true h0, Bool.and_true, Bool.and_true]
    ·
     rw [if_pos (by omega)]
     simp [h0]
 unfold rehearsalref04_plain.f plainB
 simp only [hj]
 by_cases a1 : x.f2 < 0
 ·
  rw [if_pos a1, decide_eq_false (show ¬ (0 ≤ x.f2 ∧ x.f2 ≤ 511 ∧ 0 ≤ x.f3 ∧ x.f3 ≤ 65535 ∧ 0 ≤ x.f4 ∧ x.f4 ≤ 1099511627776) by omega)]; rfl
 rw [if_neg a1]
 by_cases a2 : x.f2 > 511
 ·
  rw [if_pos a2, decide_eq_false (show ¬ (0 ≤ x.f2 ∧ x.f2 ≤ 511 ∧ 0 ≤ x.f3 ∧ x.f3 ≤ 65535 ∧ 0 ≤ x.f4 ∧ x.f4 ≤ 1099511627776) by omega)]; rfl
 rw [if_neg a2]
 by_cases a3 : x.f3 < 0
 ·
  rw [if_pos a3, decide_eq_false (show ¬ (0 ≤ x.f2 ∧ x.f2 ≤ 511 ∧ 0 ≤ x.f3 ∧ x.f3 ≤ 65535 ∧ 0 ≤ x.f4 ∧ x.f4 ≤ 1099511627776) by omega)]; rfl
 rw [if_neg a3]
 by_cases a4 : x.f3 > 65535
 ·
  rw [if_pos a4, decide_eq_false (show ¬ (0 ≤ x.f2 ∧ x.f2 ≤ 511 ∧ 0 ≤ x.f3 ∧ x.f3 ≤ 65535 ∧ 0 ≤ x.f4 ∧ x.f4 ≤ 1099511627776) by omega)]; rfl
 rw [if_neg a4]
 by_cases a5 : x.f4 < 0
 ·
  rw [if_pos a5, decide_eq_false (show ¬ (0 ≤ x.f2 ∧ x.f2 ≤ 511 ∧ 0 ≤ x.f3 ∧ x.f3 ≤ 65535 ∧ 0 ≤ x.f4 ∧ x.f4 ≤ 1099511627776) by omega)]; rfl
 rw [if_neg a5]
 by_cases a6 : x.f4 > 1099511627776
 ·
  rw [decide_eq_true a6, decide_eq_false (show ¬ (0 ≤ x.f2 ∧ x.f2 ≤ 511 ∧ 0 ≤ x.f3 ∧ x.f3 ≤ 65535 ∧ 0 ≤ x.f4 ∧ x.f4 ≤ 1099511627776) by omega)]; rfl
 ·
  rw [decide_eq_false a6, decide_eq_true (show 0 ≤ x.f2 ∧ x.f2 ≤ 511 ∧ 0 ≤ x.f3 ∧ x.f3 ≤ 65535 ∧ 0 ≤ x.f4 ∧ x.f4 ≤ 1099511627776 by omega)]; rfl
end Go.Proofs.YtnpnablnnfekkaaDoor.PTr
namespace Go.Proofs.YtnpnablnnfekkaaDoor.PTr
open Go.RowKit Go.Proofs.YtnpnablnnfekkaaDoorW.PrintWords Go.Proofs.YtnpnablnnfekkaaDoorW.PrintLast Go.Proofs.YtnpnablnnfekkaaDoorW.PrintMore
attribute [local go_sem] max2_int min2_int max_two min_two max_three min_three max_four min_four   -- for this text's walks alone
set_option linter.unusedVariables false
set_option linter.unusedSimpArgs false
def cmp_isNaN_int.f (a0 : Int) : Option (Bool) := some (a0 != a0)
set_option maxHeartbeats 8000000 in
set_option maxRecDepth 100000 in
theorem cmp_isNaN_int.calls (a0 : Int) (r : Bool) (w : World) (h : cmp_isNaN_int.f a0 = some r) :
  Calls Tryd.prog 94 #[.int .i64 a0] w fun e w' => e = .returned (.bool r) ∧ Drawn0 w w' := by
 have H : (some (a0 != a0)) = some r := h
 clear h
 obtain rfl := Option.some.inj H
 go_enter Tryd.func94, Tryd.ntmps94
 go_wp2
 go_ret
 exact ⟨by first | rfl | (simp; done) | (simp [*]; done), by repeat (first | exact Drawn0.refl _ | apply Drawn0.step)⟩
end Go.Proofs.YtnpnablnnfekkaaDoor.PTr
namespace Go.Proofs.YtnpnablnnfekkaaDoor.PTr
open Go.RowKit Go.Proofs.YtnpnablnnfekkaaDoorW.PrintWords Go.Proofs.YtnpnablnnfekkaaDoorW.PrintLast Go.Proofs.YtnpnablnnfekkaaDoorW.PrintMore
attribute [local go_sem] max2_int min2_int max_two min_two max_three min_three max_four min_four   -- for this text's walks alone
set_option linter.unusedVariables false
set_option linter.unusedSimpArgs false
def cmp_Compare_int.f (a0 : Int) (a1 : Int) : Option (Int) := (cmp_isNaN_int.f a0).bind fun t300 => ((cmp_isNaN_int.f a1).bind fun t301 => (if t300 = true then (if t301 = true then (some 0) else (some (-1))) else (if t301 = true then (some 1) else (if a0 < a1 then (some (-1)) else (if a0 > a1 then (some 1) else (some 0))))))
set_option maxHeartbeats 8000000 in
set_option maxRecDepth 100000 in
theorem cmp_Compare_int.calls (a0 : Int) (a1 : Int) (r : Int) (w : World) (h : cmp_Compare_int.f a0 a1 = some r) :
  Calls Tryd.prog 81 #[.int .i64 a0, .int .i64 a1] w fun e w' => e = .returned (.int .i64 r) ∧ Drawn0 w w' := by
 have H : ((cmp_isNaN_int.f a0).bind fun t300 => ((cmp_isNaN_int.f a1).bind fun t301 => (if t300 = true then (if t301 = true then (some 0) else (some (-1))) else (if t301 = true then (some 1) else (if a0 < a1 then (some (-1)) else (if a0 > a1 then (some 1) else (some 0))))))) = some r := h
 clear h
 replace H := Option.bind_eq_some_iff.mp H
 obtain ⟨t300, A30, H⟩ := H
 replace H : ((cmp_isNaN_int.f a1).bind fun t301 => (if t300 = true then (if t301 = true then (some 0) else (some (-1))) else (if t301 = true then (some 1) else (if a0 < a1 then (some (-1)) else (if a0 > a1 then (some 1) else (some 0)))))) = some r := H
 have A3 := Aside0.mk A30
 clear A30
 replace H := Option.bind_eq_some_iff.mp H
 obtain ⟨t301, A40, H⟩ := H
 replace H : (if t300 = true then (if t301 = true then (some 0) else (some (-1))) else (if t301 = true then (some 1) else (if a0 < a1 then (some (-1)) else (if a0 > a1 then (some 1) else (some 0))))) = some r := H
 have A4 := Aside0.mk A40
 clear A40
 by_cases c5 : t300 = true
 ·
  subst c5
  have H1 : (if t301 = true then (some 0) else (some (-1))) = some r := by rw [if_pos rfl] at H; exact H
  clear H
  have H := H1
  clear H1
  by_cases c6 : t301 = true
  ·
   subst c6
   have H1 : (some 0) = some r := by rw [if_pos rfl] at H; exact H
   clear H
   have H := H1
   clear H1
   obtain rfl := Option.some.inj H
   go_enter Tryd.func81, Tryd.ntmps81
   go_wp2_with (first | ((with_reducible refine gate_callee (f := 94) rfl ?_); refine goesL_ (some 8) rfl rfl Tryd.func94 (by kernel_rfl) rfl #[.int .i64 a0] rfl (by (try simp only [List.map_toArray, List.map_cons, List.map_nil]); first | done | rfl | (simp only [List.length_drop, List.length_take]; rfl)) ?_; (with_reducible refine (cmp_isNaN_int.calls a0 true _ A3.out).mono ?_); rintro e w' ⟨rfl, ⟨nd, rfl⟩⟩; refine ⟨_, rfl, ?_⟩) | ((with_reducible refine gate_callee (f := 94) rfl ?_); refine goesL_ (some 10) rfl rfl Tryd.func94 (by kernel_rfl) rfl #[.int .i64 a1] rfl (by (try simp only [List.map_toArray, List.map_cons, List.map_nil]); first | done | rfl | (simp only [List.length_drop, List.length_take]; rfl)) ?_; (with_reducible refine (cmp_isNaN_int.calls a1 true _ A4.out).mono ?_); rintro e w' ⟨rfl, ⟨nd, rfl⟩⟩; refine ⟨_, rfl, ?_⟩))
   go_ret
   exact ⟨by first | rfl | (simp; done) | (simp [*]; done), by repeat (first | exact Drawn0.refl _ | apply Drawn0.step)⟩
  ·
   replace c6 := Bool.eq_false_iff.mpr c6
   subst c6
   have H1 : (some (-1)) = some r := by rw [if_neg (show ¬ (false = true) by decide)] at H; exact H
   clear H
   have H := H1
   clear H1
   obtain rfl := Option.some.inj H
   go_enter Tryd.func81, Tryd.ntmps81
   go_wp2_with (first | ((with_reducible refine gate_callee (f := 94) rfl ?_); refine goesL_ (some 8) rfl rfl Tryd.func94 (by kernel_rfl) rfl #[.int .i64 a0] rfl (by (try simp only [List.map_toArray, List.map_cons, List.map_nil]); first | done | rfl | (simp only [List.length_drop, List.length_take]; rfl)) ?_; (with_reducible refine (cmp_isNaN_int.calls a0 true _ A3.out).mono ?_); rintro e w' ⟨rfl, ⟨nd, rfl⟩⟩; refine ⟨_, rfl, ?_⟩) | ((with_reducible refine gate_callee (f := 94) rfl ?_); refine goesL_ (some 10) rfl rfl Tryd.func94 (by kernel_rfl) rfl #[.int .i64 a1] rfl (by (try simp only [List.map_toArray, List.map_cons, List.map_nil]); first | done | rfl | (simp only [List.length_drop, List.length_take]; rfl)) ?_; (with_reducible refine (cmp_isNaN_int.calls a1 false _ A4.out).mono ?_); rintro e w' ⟨rfl, ⟨nd, rfl⟩⟩; refine ⟨_, rfl, ?_⟩))
   go_ret
   exact ⟨by first | rfl | (simp; done) | (simp [*]; done), by repeat (first | exact Drawn0.refl _ | apply Drawn0.step)⟩
 ·
  replace c5 := Bool.eq_false_iff.mpr c5
  subst c5
  have H1 : (if t301 = true then (some 1) else (if a0 < a1 then (some (-1)) else (if a0 > a1 then (some 1) else (some 0)))) = some r := by rw [if_neg (show ¬ (false = true) by decide)] at H; exact H
  clear H
  have H := H1
  clear H1
  by_cases c7 : t301 = true
  ·
   subst c7
   have H1 : (some 1) = some r := by rw [if_pos rfl] at H; exact H
   clear H
   have H := H1
   clear H1
   obtain rfl := Option.some.inj H
   go_enter Tryd.func81, Tryd.ntmps81
   go_wp2_with (first | ((with_reducible refine gate_callee (f := 94) rfl ?_); refine goesL_ (some 8) rfl rfl Tryd.func94 (by kernel_rfl) rfl #[.int .i64 a0] rfl (by (try simp only [List.map_toArray, List.map_cons, List.map_nil]); first | done | rfl | (simp only [List.length_drop, List.length_take]; rfl)) ?_; (with_reducible refine (cmp_isNaN_int.calls a0 false _ A3.out).mono ?_); rintro e w' ⟨rfl, ⟨nd, rfl⟩⟩; refine ⟨_, rfl, ?_⟩) | ((with_reducible refine gate_callee (f := 94) rfl ?_); refine goesL_ (some 10) rfl rfl Tryd.func94 (by kernel_rfl) rfl #[.int .i64 a1] rfl (by (try simp only [List.map_toArray, List.map_cons, List.map_nil]); first | done | rfl | (simp only [List.length_drop, List.length_take]; rfl)) ?_; (with_reducible refine (cmp_isNaN_int.calls a1 true _ A4.out).mono ?_); rintro e w' ⟨rfl, ⟨nd, rfl⟩⟩; refine ⟨_, rfl, ?_⟩))
   go_ret
   exact ⟨by first | rfl | (simp; done) | (simp [*]; done), by repeat (first | exact Drawn0.refl _ | apply Drawn0.step)⟩
  ·
   replace c7 := Bool.eq_false_iff.mpr c7
   subst c7
   have H1 : (if a0 < a1 then (some (-1)) else (if a0 > a1 then (some 1) else (some 0))) = some r := by rw [if_neg (show ¬ (false = true) by decide)] at H; exact H
   clear H
   have H := H1
   clear H1
   by_cases c8 : a0 < a1
   ·
    rw [if_pos c8] at H
    have c8b0 : decide (a0 < a1) = true := decide_eq_true c8
    clear c8
    obtain rfl := Option.some.inj H
    go_enter Tryd.func81, Tryd.ntmps81
    go_wp2_with (first | ((with_reducible refine gate_callee (f := 94) rfl ?_); refine goesL_ (some 8) rfl rfl Tryd.func94 (by kernel_rfl) rfl #[.int .i64 a0] rfl (by (try simp only [List.map_toArray, List.map_cons, List.map_nil]); first | done | rfl | (simp only [List.length_drop, List.length_take]; rfl)) ?_; (with_reducible refine (cmp_isNaN_int.calls a0 false _ A3.out).mono ?_); rintro e w' ⟨rfl, ⟨nd, rfl⟩⟩; refine ⟨_, rfl, ?_⟩) | ((with_reducible refine gate_callee (f := 94) rfl ?_); refine goesL_ (some 10) rfl rfl Tryd.func94 (by kernel_rfl) rfl #[.int .i64 a1] rfl (by (try simp only [List.map_toArray, List.map_cons, List.map_nil]); first | done | rfl | (simp only [List.length_drop, List.length_take]; rfl)) ?_; (with_reducible refine (cmp_isNaN_int.calls a1 false _ A4.out).mono ?_); rintro e w' ⟨rfl, ⟨nd, rfl⟩⟩; refine ⟨_, rfl, ?_⟩))
    go_ret
    exact ⟨by first | rfl | (simp; done) | (simp [*]; done), by repeat (first | exact Drawn0.refl _ | apply Drawn0.step)⟩
   ·
    rw [if_neg c8] at H
    have c8b0 : decide (a0 < a1) = false := decide_eq_false c8
    clear c8
    by_cases c9 : a0 > a1
    ·
     rw [if_pos c9] at H
     have c9b0 : decide (a1 < a0) = true := decide_eq_true c9
     clear c9
     obtain rfl := Option.some.inj H
     go_enter Tryd.func81, Tryd.ntmps81
     go_wp2_with (first | ((with_reducible refine gate_callee (f := 94) rfl ?_); refine goesL_ (some 8) rfl rfl Tryd.func94 (by kernel_rfl) rfl #[.int .i64 a0] rfl (by (try simp only [List.map_toArray, List.map_cons, List.map_nil]); first | done | rfl | (simp only [List.length_drop, List.length_take]; rfl)) ?_; (with_reducible refine (cmp_isNaN_int.calls a0 false _ A3.out).mono ?_); rintro e w' ⟨rfl, ⟨nd, rfl⟩⟩; refine ⟨_, rfl, ?_⟩) | ((with_reducible refine gate_callee (f := 94) rfl ?_); refine goesL_ (some 10) rfl rfl Tryd.func94 (by kernel_rfl) rfl #[.int .i64 a1] rfl (by (try simp only [List.map_toArray, List.map_cons, List.map_nil]); first | done | rfl | (simp only [List.length_drop, List.length_take]; rfl)) ?_; (with_reducible refine (cmp_isNaN_int.calls a1 false _ A4.out).mono ?_); rintro e w' ⟨rfl, ⟨nd, rfl⟩⟩; refine ⟨_, rfl, ?_⟩))
     go_ret
     exact ⟨by first | rfl | (simp; done) | (simp [*]; done), by repeat (first | exact Drawn0.refl _ | apply Drawn0.step)⟩
    ·
     rw [if_neg c9] at H
     have c9b0 : decide (a1 < a0) = false := decide_eq_false c9
     clear c9
     obtain rfl := Option.some.inj H
     go_enter Tryd.func81, Tryd.ntmps81
     go_wp2_with (first | ((with_reducible refine gate_callee (f := 94) rfl ?_); refine goesL_ (some 8) rfl rfl Tryd.func94 (by kernel_rfl) rfl #[.int .i64 a0] rfl (by (try simp only [List.map_toArray, List.map_cons, List.map_nil]); first | done | rfl | (simp only [List.length_drop, List.length_take]; rfl)) ?_; (with_reducible refine (cmp_isNaN_int.calls a0 false _ A3.out).mono ?_); rintro e w' ⟨rfl, ⟨nd, rfl⟩⟩; refine ⟨_, rfl, ?_⟩) | ((with_reducible refine gate_callee (f := 94) rfl ?_); refine goesL_ (some 10) rfl rfl Tryd.func94 (by kernel_rfl) rfl #[.int .i64 a1] rfl (by (try simp only [List.map_toArray, List.map_cons, List.map_nil]); first | done | rfl | (simp only [List.length_drop, List.length_take]; rfl)) ?_; (with_reducible refine (cmp_isNaN_int.calls a1 false _ A4.out).mono ?_); rintro e w' ⟨rfl, ⟨nd, rfl⟩⟩; refine ⟨_, rfl, ?_⟩))
     go_ret
     exact ⟨by first | rfl | (simp; done) | (simp [*]; done), by repeat (first | exact Drawn0.refl _ | apply Drawn0.step)⟩
end Go.Proofs.YtnpnablnnfekkaaDoor.PTr
namespace Go.Proofs.YtnpnablnnfekkaaDoor.PTr
open Go.RowKit Go.Proofs.YtnpnablnnfekkaaDoorW.PrintWords Go.Proofs.YtnpnablnnfekkaaDoorW.PrintLast Go.Proofs.YtnpnablnnfekkaaDoorW.PrintMore
attribute [local go_sem] max2_int min2_int max_two min_two max_three min_three max_four min_four   -- for this text's walks alone
set_option linter.unusedVariables false
set_option linter.unusedSimpArgs false
def tree_place_1.f (a0_0 : Int) (a0_1 : Int) (a0_2 : Int) (a0_3 : Int) (a0_4 : Int) (a0_5 : ByteArray) (l0_6 : List (S61)) (a1 : Int) : Option (Int) := (cmp_Compare_int.f a0_0 a1).bind fun t303 => (some t303)
set_option maxHeartbeats 8000000 in
set_option maxRecDepth 100000 in
theorem tree_place_1.calls (a0_0 : Int) (a0_1 : Int) (a0_2 : Int) (a0_3 : Int) (a0_4 : Int) (a0_5 : ByteArray) (A0_6 : Option Addr) (c0_6 : Nat) (l0_6 : List (S61)) (a1 : Int) (r : Int) (w : World) (hr0_6 : Kd.C k61 w A0_6 l0_6.length l0_6) (hc0_6 : l0_6.length ≤ c0_6) (h : tree_place_1.f a0_0 a0_1 a0_2 a0_3 a0_4 a0_5 l0_6 a1 = some r) :
  Calls Tryd.prog 80 #[.agg #[.int .i64 a0_0, .int .i64 a0_1, .int .i64 a0_2, .int .i64 a0_3, .int .i64 a0_4, .string a0_5, .slice A0_6 l0_6.length c0_6], .int .i64 a1] w fun e w' => e = .returned (.int .i64 r) ∧ Below w.heap.size w w' := by
 have hu44 := Tryd.underlying44
 have HR0_6 := Aside0.mk hr0_6
 have HC0_6 := Aside0.mk hc0_6
 clear hr0_6 hc0_6
 have HB := Aside0.mk (Below.refl w.heap.size w)
 have H : ((cmp_Compare_int.f a0_0 a1).bind fun t303 => (some t303)) = some r := h
 clear h
 replace H := Option.bind_eq_some_iff.mp H
 obtain ⟨t303, A30, H⟩ := H
 replace H : (some t303) = some r := H
 have A3 := Aside0.mk A30
 clear A30
 obtain rfl := Option.some.inj H
 go_enter Tryd.func80, Tryd.ntmps80
 go_wp2_with (first | ((with_reducible refine gate_dst (N := 2) rfl ?_); refine box_event ?hg (N := 2) ?hd (cs := #[.int .i64 a0_0, .int .i64 a0_1, .int .i64 a0_2, .int .i64 a0_3, .int .i64 a0_4, .string a0_5, .slice A0_6 l0_6.length c0_6]) (t := 44) ?hr ?_; (case hd => rfl); (case hg => rfl); (case hr => first | (go_simp; done) | (go_simp; rfl)); intro gb302 hg w4 hbox hb; have n0_ := Aside0.mk (below_step (by repeat (first | (with_reducible first | exact HB.out | apply below_alloc | apply pw_below_drewN | apply below_drew1) | exact HB.out)) hb); have n1_ := Aside0.mk (hbox); have n2_ := Aside0.mk ((by rw [hg]; exact (below_size (by repeat (first | (with_reducible first | exact HB.out | apply below_alloc | apply pw_below_drewN | apply below_drew1) | exact HB.out))) : w.heap.size ≤ gb302)); have n3_ := Aside0.mk ((by rw [hg]; exact (below_size (by repeat (first | (with_reducible first | exact HB.out | apply below_alloc | apply pw_below_drewN | apply below_drew1) | exact HB.out))) : w.heap.size ≤ gb302)); clear HB; have HB := n0_; have BK302 := n1_; have GW302 := n2_; have GE302 := n3_; clear n0_ n1_ n2_ n3_; clear hb hbox hg; have hcz5_0 : w4.cell? ⟨gb302, 0, none⟩ = some (.int .i64 a0_0) := (blk_cell BK302.out 0).trans rfl; have hcz5_1 : w4.cell? ⟨gb302, 1, none⟩ = some (.int .i64 a0_1) := (blk_cell BK302.out 1).trans rfl; have hcz5_2 : w4.cell? ⟨gb302, 2, none⟩ = some (.int .i64 a0_2) := (blk_cell BK302.out 2).trans rfl; have hcz5_3 : w4.cell? ⟨gb302, 3, none⟩ = some (.int .i64 a0_3) := (blk_cell BK302.out 3).trans rfl; have hcz5_4 : w4.cell? ⟨gb302, 4, none⟩ = some (.int .i64 a0_4) := (blk_cell BK302.out 4).trans rfl; have hcz5_5 : w4.cell? ⟨gb302, 5, none⟩ = some (.string a0_5) := (blk_cell BK302.out 5).trans rfl; have hcz5_6 : w4.cell? ⟨gb302, 6, none⟩ = some (.slice A0_6 l0_6.length c0_6) := (blk_cell BK302.out 6).trans rfl; have hfz5_0 := blk_frozen BK302.out 0; have hfz5_1 := blk_frozen BK302.out 1; have hfz5_2 := blk_frozen BK302.out 2; have hfz5_3 := blk_frozen BK302.out 3; have hfz5_4 := blk_frozen BK302.out 4; have hfz5_5 := blk_frozen BK302.out 5; have hfz5_6 := blk_frozen BK302.out 6) | ((with_reducible refine gate_callee (f := 81) rfl ?_); refine goesL_ (some 8) rfl rfl Tryd.func81 (by kernel_rfl) rfl #[.int .i64 a0_0, .int .i64 a1] rfl (by (try simp only [List.map_toArray, List.map_cons, List.map_nil]); first | done | rfl | (simp only [List.length_drop, List.length_take]; rfl)) ?_; (with_reducible refine (cmp_Compare_int.calls a0_0 a1 t303 _ A3.out).mono ?_); rintro e w' ⟨rfl, ⟨nd, rfl⟩⟩; refine ⟨_, rfl, ?_⟩))
 go_ret
 exact ⟨by first | rfl | (simp [errW_none, errW_some] <;> rfl) | (simp [*, errW_none, errW_some] <;> rfl), by repeat (first | (with_reducible first | exact HB.out | apply below_alloc | apply pw_below_drewN | apply below_drew1 | refine below_set ?_ GE302.out) | exact HB.out)⟩
end Go.Proofs.YtnpnablnnfekkaaDoor.PTr
namespace Go.Proofs.YtnpnablnnfekkaaDoor.PTr
open Go.RowKit Go.Proofs.YtnpnablnnfekkaaDoorW.PrintWords Go.Proofs.YtnpnablnnfekkaaDoorW.PrintLast Go.Proofs.YtnpnablnnfekkaaDoorW.PrintMore
attribute [local go_sem] max2_int min2_int max_two min_two max_three min_three max_four min_four   -- for this text's walks alone
set_option linter.unusedVariables false
set_option linter.unusedSimpArgs false
def api_Node_int.l0 : Nat → List (S44) → Int → Int → Int → Int → Option (Int × Bool)
 | 0, _, _, _, _, _ => none
 | k + 1, x0, x1, x8, x9, x10 => if x9 < x10 then (if 0 ≤ (wrap64 ((IntKind.u64.wrap (wrap64 (x9 + x10))) / 2)) then (if (wrap64 ((IntKind.u64.wrap (wrap64 (x9 + x10))) / 2)) < (x0.length : Int) then ((tree_place_1.f ((rd_T44 x0 (wrap64 ((IntKind.u64.wrap (wrap64 (x9 + x10))) / 2))).f0) ((rd_T44 x0 (wrap64 ((IntKind.u64.wrap (wrap64 (x9 + x10))) / 2))).f1) ((rd_T44 x0 (wrap64 ((IntKind.u64.wrap (wrap64 (x9 + x10))) / 2))).f2) ((rd_T44 x0 (wrap64 ((IntKind.u64.wrap (wrap64 (x9 + x10))) / 2))).f3) ((rd_T44 x0 (wrap64 ((IntKind.u64.wrap (wrap64 (x9 + x10))) / 2))).f4) ((rd_T44 x0 (wrap64 ((IntKind.u64.wrap (wrap64 (x9 + x10))) / 2))).f5) ((rd_T44 x0 (wrap64 ((IntKind.u64.wrap (wrap64 (x9 + x10))) / 2))).f6) x1).bind fun t305 => (if t305 < 0 then (api_Node_int.l0 k x0 x1 x8 (wrap64 ((wrap64 ((IntKind.u64.wrap (wrap64 (x9 + x10))) / 2)) + 1)) x10) else (api_Node_int.l0 k x0 x1 x8 x9 (wrap64 ((IntKind.u64.wrap (wrap64 (x9 + x10))) / 2))))) else (none)) else (none)) else (if x9 < x8 then (if 0 ≤ x9 then (if x9 < (x0.length : Int) then ((tree_place_1.f ((rd_T44 x0 x9).f0) ((rd_T44 x0 x9).f1) ((rd_T44 x0 x9).f2) ((rd_T44 x0 x9).f3) ((rd_T44 x0 x9).f4) ((rd_T44 x0 x9).f5) ((rd_T44 x0 x9).f6) x1).bind fun t307 => (some (x9, (t307 == 0)))) else (none)) else (none)) else (some (x9, false)))
def api_Node_int.f (k : Nat) (l0 : List (S44)) (a1 : Int) (a2 : Int) : Option (Int × Bool) := api_Node_int.l0 k l0 a1 (l0.length : Int) 0 (l0.length : Int)
theorem api_Node_int.mono_l : ∀ k, (∀ y0 y1 y2 y3 y4, LeO (api_Node_int.l0 k y0 y1 y2 y3 y4) (api_Node_int.l0 (k + 1) y0 y1 y2 y3 y4))
 | 0 => fun _ _ _ _ _ r h => by simp [api_Node_int.l0] at h
 | k + 1 => by
  have ih0 := api_Node_int.mono_l k
  ·
   intro y0 y1 y2 y3 y4
   unfold api_Node_int.l0
   repeat' first
   | (with_reducible exact ih0 _ _ _ _ _)
   | (with_reducible exact LeO.refl _)
   | (with_reducible exact LeO.none _)
   | (with_reducible refine LeO.ite ?_ ?_)
   | (with_reducible refine LeO.bind ?_ (fun _ => ?_))
   | exact ih0 _ _ _ _ _
   | exact LeO.none _
   | refine LeO.ite ?_ ?_
   | refine LeO.bind ?_ (fun _ => ?_)
theorem api_Node_int.mono : ∀ a0 a1 a2 k, LeO (api_Node_int.f k a0 a1 a2) (api_Node_int.f (k + 1) a0 a1 a2) := by
 intro a0 a1 a2 k
 have ih0 := api_Node_int.mono_l k
 unfold api_Node_int.f
 repeat' first
   | (with_reducible exact ih0 _ _ _ _ _)
   | (with_reducible exact LeO.refl _)
   | (with_reducible exact LeO.none _)
   | (with_reducible refine LeO.ite ?_ ?_)
   | (with_reducible refine LeO.bind ?_ (fun _ => ?_))
   | exact ih0 _ _ _ _ _
   | exact LeO.none _
   | refine LeO.ite ?_ ?_
   | refine LeO.bind ?_ (fun _ => ?_)
set_option maxHeartbeats 8000000 in
set_option maxRecDepth 100000 in
theorem api_Node_int.calls (k : Nat) (A0 : Option Addr) (c0 : Nat) (l0 : List (S44)) (a1 : Int) (a2 : Int) (r1 : Int) (r2 : Bool) (w : World) (hr0 : Kd.C k44 w A0 l0.length l0) (hc0 : l0.length ≤ c0) (h : api_Node_int.f k l0 a1 a2 = some (r1, r2)) :
  Calls Tryd.prog 79 #[.slice A0 l0.length c0, .int .i64 a1, .func (.func 80) #[] #[]] w fun e w' => e = .returned (.tuple #[.int .i64 r1, .bool r2]) ∧ Below w.heap.size w w' := by
 have hu44 := Tryd.underlying44
 have HR0 := Aside0.mk hr0
 have HC0 := Aside0.mk hc0
 clear hr0 hc0
 have HB := Aside0.mk (Below.refl w.heap.size w)
 have H : (api_Node_int.l0 k l0 a1 (l0.length : Int) 0 (l0.length : Int)) = some (r1, r2) := h
 clear h
 have H' := Aside0.mk H
 clear H
 go_enter Tryd.func79, Tryd.ntmps79
 go_wp2
 go_loopg [9, 10] k (fun kq v9 v10 w' => ∃ (x9_1 : Int) (x10_1 : Int), v9 = .int .i64 x9_1 ∧ v10 = .int .i64 x10_1 ∧ Aside0 (api_Node_int.l0 kq l0 a1 (l0.length : Int) x9_1 x10_1 = some (r1, r2)) ∧ Aside0 (kq ≤ k) ∧ Aside0 (Below w.heap.size w w'))
 case atStart => exact ⟨(0), ((l0.length : Int)), (by first | rfl | (simp; done) | (simp [*]; done)), (by first | rfl | (simp; done) | (simp [*]; done)), H', ⟨Nat.le_refl _⟩, ⟨by repeat (first | (with_reducible first | exact HB.out | apply below_alloc | apply pw_below_drewN | apply below_drew1) | exact HB.out)⟩⟩
 case round =>
  clear H'
  try clear p2
  obtain ⟨x9_1, x10_1, rfl, rfl, HA, HK1, HB⟩ := hrel
  cases gk with
  | zero => exact absurd HA.out (by simp [api_Node_int.l0])
  | succ k1 =>
   have H := HA.out
   clear HA
   simp only [api_Node_int.l0] at H
   by_cases c4 : x9_1 < x10_1
   ·
    rw [if_pos c4] at H
    have c4b0 : decide (x9_1 < x10_1) = true := decide_eq_true c4
    clear c4
    obtain ⟨ji5, hji5⟩ : ∃ j_ : Int, (wrap64 ((IntKind.u64.wrap (wrap64 (x9_1 + x10_1))) / 2)) = j_ := ⟨_, rfl⟩
    replace H : (if 0 ≤ (ji5) then (if (ji5) < (l0.length : Int) then ((tree_place_1.f ((rd_T44 l0 (ji5)).f0) ((rd_T44 l0 (ji5)).f1) ((rd_T44 l0 (ji5)).f2) ((rd_T44 l0 (ji5)).f3) ((rd_T44 l0 (ji5)).f4) ((rd_T44 l0 (ji5)).f5) ((rd_T44 l0 (ji5)).f6) a1).bind fun t305 => (if t305 < 0 then (api_Node_int.l0 k1 l0 a1 (l0.length : Int) (wrap64 ((ji5) + 1)) x10_1) else (api_Node_int.l0 k1 l0 a1 (l0.length : Int) x9_1 ji5))) else (none)) else (none)) = some (r1, r2) := by first | (rw [hji5] at H; exact H) | (simp only [hji5] at H ⊢; exact H)
    have hji5w : (IntKind.i64.wrap ((IntKind.u64.wrap (wrap64 (x9_1 + x10_1))) / 2)) = ji5 := (i64_w _).trans hji5
    by_cases c6 : 0 ≤ (ji5)
    ·
     rw [if_pos c6] at H
     have c6b0 : decide (0 ≤ (ji5)) = true := decide_eq_true c6
     clear c6
     by_cases c7 : (ji5) < (l0.length : Int)
     ·
      rw [if_pos c7] at H
      have c7b0 : decide ((ji5) < (l0.length : Int)) = true := decide_eq_true c7
      clear c7
      replace H := Option.bind_eq_some_iff.mp H
      obtain ⟨t305, A80, H⟩ := H
      replace H : (if t305 < 0 then (api_Node_int.l0 k1 l0 a1 (l0.length : Int) (wrap64 ((ji5) + 1)) x10_1) else (api_Node_int.l0 k1 l0 a1 (l0.length : Int) x9_1 ji5)) = some (r1, r2) := H
      have A8 := Aside0.mk A80
      clear A80
      by_cases c9 : t305 < 0
      ·
       rw [if_pos c9] at H
       have c9b0 : decide (t305 < 0) = true := decide_eq_true c9
       clear c9
       have H' := Aside0.mk H
       clear H
       have p304 : 0 ≤ ((ji5) : Int) := of_decide_eq_true (by first | (with_reducible assumption) | assumption)
       have q304 : (ji5) < (l0.length : Int) := of_decide_eq_true (by first | (with_reducible assumption) | assumption)
       obtain ⟨ad304, A304_6, c304_6, e304, hx304_0, hx304_1, hx304_2, hx304_3, hx304_4, hx304_5, hx304_6, hl304_6, hi304_6⟩ := at_T44 HR0.out (ji5) p304 q304
       cases e304
       replace hx304_0 := (HB.out.cell (World.block_lt_of_cell? w _ hx304_0)).trans hx304_0
       replace hx304_1 := (HB.out.cell (World.block_lt_of_cell? w _ hx304_1)).trans hx304_1
       replace hx304_2 := (HB.out.cell (World.block_lt_of_cell? w _ hx304_2)).trans hx304_2
       replace hx304_3 := (HB.out.cell (World.block_lt_of_cell? w _ hx304_3)).trans hx304_3
       replace hx304_4 := (HB.out.cell (World.block_lt_of_cell? w _ hx304_4)).trans hx304_4
       replace hx304_5 := (HB.out.cell (World.block_lt_of_cell? w _ hx304_5)).trans hx304_5
       replace hx304_6 := (HB.out.cell (World.block_lt_of_cell? w _ hx304_6)).trans hx304_6
       have HR304_6 := Aside0.mk hi304_6
       have HC304_6 := Aside0.mk hl304_6
       clear hi304_6 hl304_6
       replace p304 := eq_true p304
       replace q304 := eq_true q304
       go_wp2_with (first | (go_at_call 80; (with_reducible refine (tree_place_1.calls ((rd_T44 l0 (ji5)).f0) ((rd_T44 l0 (ji5)).f1) ((rd_T44 l0 (ji5)).f2) ((rd_T44 l0 (ji5)).f3) ((rd_T44 l0 (ji5)).f4) ((rd_T44 l0 (ji5)).f5) _ _ ((rd_T44 l0 (ji5)).f6) a1 t305 _ ?side1 ?side2 A8.out).mono ?_); (case side1 => repeat (first | exact (Kd.C_below HR304_6.out HB.out) | (with_reducible refine Kd.C_alloc ?_ _) | (with_reducible refine Kd.C_drewN ?_ _) | (with_reducible refine Kd.C_drew ?_))); (case side2 => exact HC304_6.out); rintro e w10 ⟨rfl, hb⟩; have n0_ := Aside0.mk (below_step (by repeat (first | (with_reducible first | exact HB.out | apply below_alloc | apply pw_below_drewN | apply below_drew1) | exact HB.out)) hb); clear HB; have HB := n0_; clear n0_; (try clear hb); (try clear hb2); (try clear hk); (try clear hi)))
       go_roundg k1
       case measure => have := HK1.out; omega
       case rel => exact ⟨(wrap64 ((ji5) + 1)), (x10_1), (by first | rfl | (simp; done) | (simp only [← hji5] <;> (first | rfl | simp)) | (simp [*]; done)), (by first | rfl | (simp; done) | (simp [*]; done)), (by first | exact H' | (rw [hji5]; exact H') | (simp only [hji5]; exact H')), ⟨by have := HK1.out; omega⟩, ⟨by repeat (first | (with_reducible first | exact HB.out | apply below_alloc | apply pw_below_drewN | apply below_drew1) | exact HB.out)⟩⟩
      ·
       rw [if_neg c9] at H
       have c9b0 : decide (t305 < 0) = false := decide_eq_false c9
       clear c9
       have H' := Aside0.mk H
       clear H
       have p304 : 0 ≤ ((ji5) : Int) := of_decide_eq_true (by first | (with_reducible assumption) | assumption)
       have q304 : (ji5) < (l0.length : Int) := of_decide_eq_true (by first | (with_reducible assumption) | assumption)
       obtain ⟨ad304, A304_6, c304_6, e304, hx304_0, hx304_1, hx304_2, hx304_3, hx304_4, hx304_5, hx304_6, hl304_6, hi304_6⟩ := at_T44 HR0.out (ji5) p304 q304
       cases e304
       replace hx304_0 := (HB.out.cell (World.block_lt_of_cell? w _ hx304_0)).trans hx304_0
       replace hx304_1 := (HB.out.cell (World.block_lt_of_cell? w _ hx304_1)).trans hx304_1
       replace hx304_2 := (HB.out.cell (World.block_lt_of_cell? w _ hx304_2)).trans hx304_2
       replace hx304_3 := (HB.out.cell (World.block_lt_of_cell? w _ hx304_3)).trans hx304_3
       replace hx304_4 := (HB.out.cell (World.block_lt_of_cell? w _ hx304_4)).trans hx304_4
       replace hx304_5 := (HB.out.cell (World.block_lt_of_cell? w _ hx304_5)).trans hx304_5
       replace hx304_6 := (HB.out.cell (World.block_lt_of_cell? w _ hx304_6)).trans hx304_6
       have HR304_6 := Aside0.mk hi304_6
       have HC304_6 := Aside0.mk hl304_6
       clear hi304_6 hl304_6
       replace p304 := eq_true p304
       replace q304 := eq_true q304
       go_wp2_with (first | (go_at_call 80; (with_reducible refine (tree_place_1.calls ((rd_T44 l0 (ji5)).f0) ((rd_T44 l0 (ji5)).f1) ((rd_T44 l0 (ji5)).f2) ((rd_T44 l0 (ji5)).f3) ((rd_T44 l0 (ji5)).f4) ((rd_T44 l0 (ji5)).f5) _ _ ((rd_T44 l0 (ji5)).f6) a1 t305 _ ?side1 ?side2 A8.out).mono ?_); (case side1 => repeat (first | exact (Kd.C_below HR304_6.out HB.out) | (with_reducible refine Kd.C_alloc ?_ _) | (with_reducible refine Kd.C_drewN ?_ _) | (with_reducible refine Kd.C_drew ?_))); (case side2 => exact HC304_6.out); rintro e w11 ⟨rfl, hb⟩; have n0_ := Aside0.mk (below_step (by repeat (first | (with_reducible first | exact HB.out | apply below_alloc | apply pw_below_drewN | apply below_drew1) | exact HB.out)) hb); clear HB; have HB := n0_; clear n0_; (try clear hb); (try clear hb2); (try clear hk); (try clear hi)))
       go_roundg k1
       case measure => have := HK1.out; omega
       case rel => exact ⟨(x9_1), (ji5), (by first | rfl | (simp; done) | (simp [*]; done)), (by first | rfl | (simp; done) | (simp only [← hji5] <;> (first | rfl | simp)) | (simp [*]; done)), (by first | exact H' | (rw [hji5]; exact H') | (simp only [hji5]; exact H')), ⟨by have := HK1.out; omega⟩, ⟨by repeat (first | (with_reducible first | exact HB.out | apply below_alloc | apply pw_below_drewN | apply below_drew1) | exact HB.out)⟩⟩
     ·
      rw [if_neg c7] at H
      exact absurd H (by simp)
    ·
     rw [if_neg c6] at H
     exact absurd H (by simp)
   ·
    rw [if_neg c4] at H
    have c4b0 : decide (x9_1 < x10_1) = false := decide_eq_false c4
    clear c4
    by_cases c12 : x9_1 < (l0.length : Int)
    ·
     rw [if_pos c12] at H
     have c12b0 : decide (x9_1 < (l0.length : Int)) = true := decide_eq_true c12
     clear c12
     by_cases c13 : 0 ≤ x9_1
     ·
      rw [if_pos c13] at H
      have c13b0 : decide (0 ≤ x9_1) = true := decide_eq_true c13
      clear c13
      by_cases c14 : x9_1 < (l0.length : Int)
      ·
       rw [if_pos c14] at H
       have c14b0 : decide (x9_1 < (l0.length : Int)) = true := decide_eq_true c14
       clear c14
       replace H := Option.bind_eq_some_iff.mp H
       obtain ⟨t307, A150, H⟩ := H
       replace H : (some (x9_1, (t307 == 0))) = some (r1, r2) := H
       have A15 := Aside0.mk A150
       clear A150
       simp only [Option.some.injEq, Prod.mk.injEq] at H
       obtain ⟨rfl, rfl⟩ := H
       have p306 : 0 ≤ (x9_1 : Int) := of_decide_eq_true (by first | (with_reducible assumption) | assumption)
       have q306 : x9_1 < (l0.length : Int) := of_decide_eq_true (by first | (with_reducible assumption) | assumption)
       obtain ⟨ad306, A306_6, c306_6, e306, hx306_0, hx306_1, hx306_2, hx306_3, hx306_4, hx306_5, hx306_6, hl306_6, hi306_6⟩ := at_T44 HR0.out x9_1 p306 q306
       cases e306
       replace hx306_0 := (HB.out.cell (World.block_lt_of_cell? w _ hx306_0)).trans hx306_0
       replace hx306_1 := (HB.out.cell (World.block_lt_of_cell? w _ hx306_1)).trans hx306_1
       replace hx306_2 := (HB.out.cell (World.block_lt_of_cell? w _ hx306_2)).trans hx306_2
       replace hx306_3 := (HB.out.cell (World.block_lt_of_cell? w _ hx306_3)).trans hx306_3
       replace hx306_4 := (HB.out.cell (World.block_lt_of_cell? w _ hx306_4)).trans hx306_4
       replace hx306_5 := (HB.out.cell (World.block_lt_of_cell? w _ hx306_5)).trans hx306_5
       replace hx306_6 := (HB.out.cell (World.block_lt_of_cell? w _ hx306_6)).trans hx306_6
       have HR306_6 := Aside0.mk hi306_6
       have HC306_6 := Aside0.mk hl306_6
       clear hi306_6 hl306_6
       replace p306 := eq_true p306
       replace q306 := eq_true q306
       go_wp2_with (first | (go_at_call 80; (with_reducible refine (tree_place_1.calls ((rd_T44 l0 x9_1).f0) ((rd_T44 l0 x9_1).f1) ((rd_T44 l0 x9_1).f2) ((rd_T44 l0 x9_1).f3) ((rd_T44 l0 x9_1).f4) ((rd_T44 l0 x9_1).f5) _ _ ((rd_T44 l0 x9_1).f6) a1 t307 _ ?side1 ?side2 A15.out).mono ?_); (case side1 => repeat (first | exact (Kd.C_below HR306_6.out HB.out) | (with_reducible refine Kd.C_alloc ?_ _) | (with_reducible refine Kd.C_drewN ?_ _) | (with_reducible refine Kd.C_drew ?_))); (case side2 => exact HC306_6.out); rintro e w16 ⟨rfl, hb⟩; have n0_ := Aside0.mk (below_step (by repeat (first | (with_reducible first | exact HB.out | apply below_alloc | apply pw_below_drewN | apply below_drew1) | exact HB.out)) hb); clear HB; have HB := n0_; clear n0_; (try clear hb); (try clear hb2); (try clear hk); (try clear hi)))
       go_ret2
       exact ⟨by first | rfl | (simp [errW_none, errW_some] <;> rfl) | (simp [*, errW_none, errW_some] <;> rfl), by repeat (first | (with_reducible first | exact HB.out | apply below_alloc | apply pw_below_drewN | apply below_drew1) | exact HB.out)⟩
      ·
       rw [if_neg c14] at H
       exact absurd H (by simp)
     ·
      rw [if_neg c13] at H
      exact absurd H (by simp)
    ·
     rw [if_neg c12] at H
     have c12b0 : decide (x9_1 < (l0.length : Int)) = false := decide_eq_false c12
     clear c12
     simp only [Option.some.injEq, Prod.mk.injEq] at H
     obtain ⟨rfl, rfl⟩ := H
     go_wp2
     go_ret2
     exact ⟨by first | rfl | (simp [errW_none, errW_some] <;> rfl) | (simp [*, errW_none, errW_some] <;> rfl), by repeat (first | (with_reducible first | exact HB.out | apply below_alloc | apply pw_below_drewN | apply below_drew1) | exact HB.out)⟩
end Go.Proofs.YtnpnablnnfekkaaDoor.PTr
namespace Go.Proofs.YtnpnablnnfekkaaDoor.PTr
open Go.RowKit Go.Proofs.YtnpnablnnfekkaaDoorW.PrintWords Go.Proofs.YtnpnablnnfekkaaDoorW.PrintLast Go.Proofs.YtnpnablnnfekkaaDoorW.PrintMore
attribute [local go_sem] max2_int min2_int max_two min_two max_three min_three max_four min_four   -- for this text's walks alone
set_option linter.unusedVariables false
set_option linter.unusedSimpArgs false
def tree_place.f (k : Nat) (l0_0 : List (S44)) (a0_1 : Int) (a0_2 : Int) (a0_3 : Int) (a1 : Int) : Option (Int × Bool) := (api_Node_int.f k l0_0 a1 77700080).bind fun bt309 => (some (bt309.1, bt309.2))
theorem tree_place.mono : ∀ a0 a1 a2 a3 a4 k, LeO (tree_place.f k a0 a1 a2 a3 a4) (tree_place.f (k + 1) a0 a1 a2 a3 a4) := by
 intro a0 a1 a2 a3 a4 k
 unfold tree_place.f
 repeat' first
   | (with_reducible exact api_Node_int.mono _ _ _ _)
   | (with_reducible exact LeO.refl _)
   | (with_reducible exact LeO.none _)
   | (with_reducible refine LeO.ite ?_ ?_)
   | (with_reducible refine LeO.bind ?_ (fun _ => ?_))
   | exact api_Node_int.mono _ _ _ _
   | exact LeO.none _
   | refine LeO.ite ?_ ?_
   | refine LeO.bind ?_ (fun _ => ?_)
set_option maxHeartbeats 8000000 in
set_option maxRecDepth 100000 in
theorem tree_place.calls (k : Nat) (A0_0 : Option Addr) (c0_0 : Nat) (l0_0 : List (S44)) (a0_1 : Int) (a0_2 : Int) (a0_3 : Int) (a1 : Int) (r1 : Int) (r2 : Bool) (w : World) (hr0_0 : Kd.C k44 w A0_0 l0_0.length l0_0) (hc0_0 : l0_0.length ≤ c0_0) (h : tree_place.f k l0_0 a0_1 a0_2 a0_3 a1 = some (r1, r2)) :
  Calls Tryd.prog 59 #[.agg #[.slice A0_0 l0_0.length c0_0, .int .i64 a0_1, .int .i64 a0_2, .int .i64 a0_3], .int .i64 a1] w fun e w' => e = .returned (.tuple #[.int .i64 r1, .bool r2]) ∧ Below w.heap.size w w' := by
 have hu26 := Tryd.underlying26
 have HR0_0 := Aside0.mk hr0_0
 have HC0_0 := Aside0.mk hc0_0
 clear hr0_0 hc0_0
 have HB := Aside0.mk (Below.refl w.heap.size w)
 have H : ((api_Node_int.f k l0_0 a1 77700080).bind fun bt309 => (some (bt309.1, bt309.2))) = some (r1, r2) := h
 clear h
 replace H := Option.bind_eq_some_iff.mp H
 obtain ⟨⟨t309, t310⟩, A30, H⟩ := H
 replace H : (some (t309, t310)) = some (r1, r2) := H
 have A3 := Aside0.mk A30
 clear A30
 simp only [Option.some.injEq, Prod.mk.injEq] at H
 obtain ⟨rfl, rfl⟩ := H
 go_enter Tryd.func59, Tryd.ntmps59
 go_wp2_with (first | ((with_reducible refine gate_dst (N := 2) rfl ?_); refine box_event ?hg (N := 2) ?hd (cs := #[.slice A0_0 l0_0.length c0_0, .int .i64 a0_1, .int .i64 a0_2, .int .i64 a0_3]) (t := 26) ?hr ?_; (case hd => rfl); (case hg => rfl); (case hr => first | (go_simp; done) | (go_simp; rfl)); intro gb308 hg w4 hbox hb; have n0_ := Aside0.mk (below_step (by repeat (first | (with_reducible first | exact HB.out | apply below_alloc | apply pw_below_drewN | apply below_drew1) | exact HB.out)) hb); have n1_ := Aside0.mk (hbox); have n2_ := Aside0.mk ((by rw [hg]; exact (below_size (by repeat (first | (with_reducible first | exact HB.out | apply below_alloc | apply pw_below_drewN | apply below_drew1) | exact HB.out))) : w.heap.size ≤ gb308)); have n3_ := Aside0.mk ((by rw [hg]; exact (below_size (by repeat (first | (with_reducible first | exact HB.out | apply below_alloc | apply pw_below_drewN | apply below_drew1) | exact HB.out))) : w.heap.size ≤ gb308)); clear HB; have HB := n0_; have BK308 := n1_; have GW308 := n2_; have GE308 := n3_; clear n0_ n1_ n2_ n3_; clear hb hbox hg; have hcz5_0 : w4.cell? ⟨gb308, 0, none⟩ = some (.slice A0_0 l0_0.length c0_0) := (blk_cell BK308.out 0).trans rfl; have hcz5_1 : w4.cell? ⟨gb308, 1, none⟩ = some (.int .i64 a0_1) := (blk_cell BK308.out 1).trans rfl; have hcz5_2 : w4.cell? ⟨gb308, 2, none⟩ = some (.int .i64 a0_2) := (blk_cell BK308.out 2).trans rfl; have hcz5_3 : w4.cell? ⟨gb308, 3, none⟩ = some (.int .i64 a0_3) := (blk_cell BK308.out 3).trans rfl; have hfz5_0 := blk_frozen BK308.out 0; have hfz5_1 := blk_frozen BK308.out 1; have hfz5_2 := blk_frozen BK308.out 2; have hfz5_3 := blk_frozen BK308.out 3) | ((with_reducible refine gate_callee (f := 79) rfl ?_); refine goesL_ (some 9) rfl rfl Tryd.func79 (by kernel_rfl) rfl #[.slice A0_0 l0_0.length c0_0, .int .i64 a1, .func (.func 80) #[] #[]] rfl (by (try simp only [List.map_toArray, List.map_cons, List.map_nil]); first | done | rfl | (simp only [List.length_drop, List.length_take]; rfl)) ?_; (with_reducible refine (api_Node_int.calls k _ _ l0_0 a1 77700080 t309 t310 _ ?side1 ?side2 A3.out).mono ?_); (case side1 => repeat (first | exact (Kd.C_below HR0_0.out HB.out) | (with_reducible refine Kd.C_alloc ?_ _) | (with_reducible refine Kd.C_drewN ?_ _) | (with_reducible refine Kd.C_drew ?_))); (case side2 => exact HC0_0.out); rintro e w6 ⟨rfl, hb⟩; refine ⟨_, rfl, ?_⟩; have n0_ := Aside0.mk (blk_below (g := gb308) (o := .cells #[.slice A0_0 l0_0.length c0_0, .int .i64 a0_1, .int .i64 a0_2, .int .i64 a0_3] 26 (0, 0)) (by (with_reducible repeat (first | refine blk_drewN ?_ _ | refine blk_drew ?_ | refine blk_alloc ?_ _)); exact BK308.out) hb); have n1_ := Aside0.mk (below_step (by repeat (first | (with_reducible first | exact HB.out | apply below_alloc | apply pw_below_drewN | apply below_drew1 | refine below_set ?_ GE308.out) | exact HB.out)) hb); clear BK308; clear HB; have BK308 := n0_; have HB := n1_; clear n0_ n1_; (try clear hb); (try clear hb2); (try clear hk); (try clear hi)))
 go_ret2
 exact ⟨by first | rfl | (simp [errW_none, errW_some] <;> rfl) | (simp [*, errW_none, errW_some] <;> rfl), by repeat (first | (with_reducible first | exact HB.out | apply below_alloc | apply pw_below_drewN | apply below_drew1 | refine below_set ?_ GE308.out) | exact HB.out)⟩
end Go.Proofs.YtnpnablnnfekkaaDoor.PTr
set_option linter.unusedVariables false
set_option linter.unusedSimpArgs false
namespace Go.Proofs.YtnpnablnnfekkaaDoor.PTr
open Go.RowKit Go.Proofs.YtnpnablnnfekkaaDoor Go.Proofs.YtnpnablnnfekkaaDoorW.PrintWords
/-- the numbers rise -/
def Rises (l : List Nod) : Prop := ∀ (i j : Nat) (hi : i < l.length) (hj : j < l.length), i < j → l[i].f0 < l[j].f0
theorem cmp_int (a b : Int) : cmp_Compare_int.f a b = some (if a < b then -1 else if a > b then 1 else 0) := by
 unfold cmp_Compare_int.f cmp_isNaN_int.f
 have h : ∀ x : Int, (x != x) = false := fun x => by simp
 simp only [h, Option.bind_some, Bool.false_eq_true, if_false]
 split <;> (try split) <;> rfl
theorem place_l0 (l : List Nod) (id : Int) (hl : l.length ≤ 1000000000000) (hr : Rises l) : ∀ (d k i j : Nat), j - i ≤ d → d < k → i ≤ j → j ≤ l.length → (∀ t (h : t < l.length), t < i → l[t].f0 < id) → (∀ t (h : t < l.length), j ≤ t → id ≤ l[t].f0) →
  ∃ (r : Nat) (b : Bool), api_Node_int.l0 k l id (l.length : Int) (i : Int) (j : Int) = some ((r : Int), b) ∧ (b = true → ∃ h : r < l.length, l[r].f0 = id) ∧ (b = false → ∀ x ∈ l, x.f0 ≠ id) := by
 intro d
 induction d with
 | zero =>
  intro k i j hd hk hij hj h1 h2
  obtain ⟨k, rfl⟩ : ∃ q, k = q + 1 := ⟨k - 1, by omega⟩
  have : i = j := by omega
  subst this
  unfold api_Node_int.l0
  rw [if_neg (by omega)]
  by_cases hi : i < l.length
  ·
   rw [if_pos (by omega), if_pos (by omega), if_pos (by omega), rdN l i hi]
   unfold tree_place_1.f
   rw [cmp_int]
   simp only [Option.bind_some]
   refine ⟨i, _, rfl, fun h => ?_, fun h x hx e => ?_⟩
   ·
    refine ⟨hi, ?_⟩
    have h3 := h2 i hi (Nat.le_refl _)
    simp only [beq_iff_eq] at h
    split at h
    ·
     omega
    ·
     split at h <;> omega
   ·
    obtain ⟨t, ht, rfl⟩ := List.getElem_of_mem hx
    have h3 := h2 i hi (Nat.le_refl _)
    rcases Nat.lt_trichotomy t i with h4 | h4 | h4
    ·
     have := h1 t ht h4; omega
    ·
     subst h4
     simp [e] at h
    ·
     have := hr i t hi ht h4
     omega
  ·
   rw [if_neg (by omega)]
   refine ⟨i, _, rfl, fun h => by simp at h, fun _ x hx e => ?_⟩
   obtain ⟨t, ht, rfl⟩ := List.getElem_of_mem hx
   have := h1 t ht (by omega); omega
 | succ d ih =>
  intro k i j hd hk hij hj h1 h2
  by_cases hlt : i < j
  ·
   obtain ⟨k, rfl⟩ : ∃ q, k = q + 1 := ⟨k - 1, by omega⟩
   have hm : wrap64 ((IntKind.u64.wrap (wrap64 ((i : Int) + (j : Int)))) / 2) = (((i + j) / 2 : Nat) : Int) := by
    rw [show wrap64 ((i : Int) + (j : Int)) = ((i + j : Nat) : Int) from by unfold wrap64; omega]
    rw [show IntKind.u64.wrap ((i + j : Nat) : Int) = ((i + j : Nat) : Int) from by rw [IntKind.wrap_u64]; omega]
    unfold wrap64; omega
   have hml : (i + j) / 2 < l.length := by omega
   unfold api_Node_int.l0
   rw [if_pos (by omega), hm, if_pos (by omega), if_pos (by omega), rdN l _ hml]
   unfold tree_place_1.f
   rw [cmp_int]
   simp only [Option.bind_some]
   by_cases hc : l[(i + j) / 2].f0 < id
   ·
    rw [if_pos hc, if_pos (by omega), show wrap64 ((((i + j) / 2 : Nat) : Int) + 1) = (((i + j) / 2 + 1 : Nat) : Int) from by unfold wrap64; omega]
    refine ih k _ j (by omega) (by omega) (by omega) hj (fun t ht htm => ?_) h2
    rcases Nat.lt_or_ge t ((i + j) / 2) with h4 | h4
    ·
     have := hr t _ ht hml h4; omega
    ·
     have : t = (i + j) / 2 := by omega
     subst this; exact hc
   ·
    rw [if_neg hc, if_neg (by split <;> omega)]
    refine ih k i _ (by omega) (by omega) (by omega) (by omega) h1 (fun t ht htm => ?_)
    rcases Nat.lt_or_ge ((i + j) / 2) t with h4 | h4
    ·
     have := hr _ t hml ht h4; omega
    ·
     have : t = (i + j) / 2 := by omega
     subst this; omega
  ·
   exact (by
    obtain ⟨k, rfl⟩ : ∃ q, k = q + 1 := ⟨k - 1, by omega⟩
    exact (by
     have : i = j := by omega
     subst this
     have := ih (k + 1) i i (by omega) (by omega) (Nat.le_refl _) hj h1 h2
     exact this))
/-- where a node is, if it is there -/
theorem place_any (l : List Nod) (a1 a2 a3 id : Int) (hl : l.length ≤ 1000000000000) (hr : Rises l) (k : Nat) (hk : l.length < k) :
  ∃ (r : Nat) (b : Bool), tree_place.f k l a1 a2 a3 id = some ((r : Int), b) ∧ (b = true → ∃ h : r < l.length, l[r].f0 = id) ∧ (b = false → ∀ x ∈ l, x.f0 ≠ id) := by
 obtain ⟨r, b, h1, h2⟩ := place_l0 l id hl hr l.length k 0 l.length (by omega) hk (by omega) (Nat.le_refl _) (fun t _ h => absurd h (by omega)) (fun t ht h => absurd h (by omega))
 refine ⟨r, b, ?_, h2⟩
 unfold tree_place.f api_Node_int.f
 rw [show (0 : Int) = ((0 : Nat) : Int) from rfl, h1]; rfl
end Go.Proofs.YtnpnablnnfekkaaDoor.PTr
set_option linter.unusedVariables false
namespace Go.Proofs.YtnpnablnnfekkaaDoor.TG
/-- a list without repeats inside another: no longer, and sums no greater -/
theorem sum_le {α : Type} [DecidableEq α] (f : α → Nat) : ∀ (l m : List α), l.Nodup → (∀ x ∈ l, x ∈ m) → (l.map f).sum ≤ (m.map f).sum := by
 intro l
 induction l with
 | nil => intro m _ _; simp
 | cons x r ih =>
  intro m hn hs
  have hx := hs x List.mem_cons_self
  have hp := List.perm_cons_erase hx
  have hs2 : (m.map f).sum = f x + ((m.erase x).map f).sum := by
   have := (hp.map f).sum_nat
   simpa using this
  have := ih (m.erase x) (List.nodup_cons.1 hn).2 (fun y hy => by
   have hne : y ≠ x := fun e => (List.nodup_cons.1 hn).1 (e ▸ hy)
   exact (List.mem_erase_of_ne hne).2 (hs y (List.mem_cons_of_mem _ hy)))
  simp only [List.map_cons, List.sum_cons]
  omega
theorem len_le {α : Type} [DecidableEq α] (l m : List α) (hn : l.Nodup) (hs : ∀ x ∈ l, x ∈ m) : l.length ≤ m.length := by
 have := sum_le (fun _ => 1) l m hn hs
 simpa [List.map_const', List.sum_replicate_nat] using this
theorem all_of_len {α : Type} [DecidableEq α] (l m : List α) (hn : l.Nodup) (_hm : m.Nodup) (hs : ∀ x ∈ l, x ∈ m) (h : m.length ≤ l.length) : ∀ x ∈ m, x ∈ l := by
 intro x hx
 apply Classical.byContradiction
 intro hc
 have := len_le (x :: l) m (List.nodup_cons.2 ⟨hc, hn⟩) (fun y hy => by
  rcases List.mem_cons.1 hy with h | h
  ·
   exact h ▸ hx
  ·
   exact hs y h)
 simp at this
 omega
theorem sum_eq {α : Type} [DecidableEq α] (f : α → Nat) (l m : List α) (hn : l.Nodup) (hm : m.Nodup) (hs : ∀ x ∈ l, x ∈ m) (h : m.length ≤ l.length) : (l.map f).sum = (m.map f).sum :=
 Nat.le_antisymm (sum_le f l m hn hs) (sum_le f m l hm (all_of_len l m hn hm hs h))
variable (ids : List Int) (ents : Int → List Int) (dir : Int → Bool)
/-- a node's entries, in order: each leads to a node; a directory was not met -/
def visit (keys : List Int) : List Int → Option (List Int)
 | [] => some keys
 | e :: r => if e ∈ ids ∧ ¬ (dir e = true ∧ e ∈ keys) then visit (if e ∈ keys then keys else keys ++ [e]) r else none
def bfs : Nat → Nat → List Int → Option (List Int)
 | 0, _, _ => none
 | k + 1, j, keys => match keys[j]? with
  | none => some keys
  | some x => (visit ids dir keys (ents x)).bind fun ks => bfs k (j + 1) ks
/-- how many entries of some nodes lead to one -/
def cnt (l : List Int) (e : Int) : Nat := (l.map fun x => (ents x).count e).sum
def way : Nat → List Int → Int → List Int
 | 0, l, _ => l
 | k + 1, l, id => if id ∈ l then l else if id ∈ ids then (ents id).foldl (way k) (l ++ [id]) else l
theorem visit_ok {keys es ks : List Int} (h : visit ids dir keys es = some ks) (hn : keys.Nodup) (hs : ∀ x ∈ keys, x ∈ ids) :
  ks.Nodup ∧ (∀ x ∈ ks, x ∈ ids) ∧ (∀ x, x ∈ ks ↔ x ∈ keys ∨ x ∈ es) ∧ (∀ e ∈ es, dir e = true → e ∉ keys ∧ es.count e ≤ 1) ∧ ∃ t, ks = keys ++ t := by
 induction es generalizing keys with
 | nil => cases h; exact ⟨hn, hs, by simp, by simp, [], by simp⟩
 | cons e r ih =>
  unfold visit at h
  split at h
  ·
   rename_i hc
   obtain ⟨hc1, hc2⟩ := hc
   have hnk : (if e ∈ keys then keys else keys ++ [e]).Nodup := by
    split
    ·
     exact hn
    ·
     rename_i hm
     rw [List.nodup_append]
     refine ⟨hn, by simp, fun a ha b hb => ?_⟩
     simp at hb; subst hb; intro e2; subst e2; exact hm ha
   have hsk : ∀ x ∈ (if e ∈ keys then keys else keys ++ [e]), x ∈ ids := by
    intro x hx
    split at hx
    ·
     exact hs x hx
    ·
     rcases List.mem_append.1 hx with h1 | h1
     ·
      exact hs x h1
     ·
      simp at h1; subst h1; exact hc1
   have hmem : ∀ x, x ∈ (if e ∈ keys then keys else keys ++ [e]) ↔ x ∈ keys ∨ x = e := by
    intro x
    split
    ·
     rename_i hm
     exact ⟨fun h => .inl h, fun h => h.elim id (fun h => h ▸ hm)⟩
    ·
     simp
   obtain ⟨a1, a2, a3, a4, t, a5⟩ := ih h hnk hsk
   refine ⟨a1, a2, fun x => ?_, fun y hy hd => ?_, ?_⟩
   ·
    rw [a3, hmem, List.mem_cons]; constructor
    ·
     rintro ((h | h) | h) <;> simp [h]
    ·
     rintro (h | h | h) <;> simp [h]
   ·
    by_cases hye : y = e
    ·
     subst hye
     have hk : y ∉ keys := fun h => hc2 ⟨hd, h⟩
     refine ⟨hk, ?_⟩
     have hr : y ∉ r := fun hr => (a4 y hr hd).1 ((hmem y).2 (.inr rfl))
     rw [List.count_cons_self, List.count_eq_zero_of_not_mem hr]; omega
    ·
     have hyr : y ∈ r := by
      rcases List.mem_cons.1 hy with h | h
      ·
       exact absurd h hye
      ·
       exact h
     obtain ⟨b1, b2⟩ := a4 y hyr hd
     refine ⟨fun h => b1 ((hmem y).2 (.inl h)), ?_⟩
     rw [List.count_cons_of_ne (fun h => hye h.symm)]; exact b2
   ·
    by_cases hm : e ∈ keys
    ·
     rw [if_pos hm] at a5; exact ⟨t, a5⟩
    ·
     rw [if_neg hm] at a5; exact ⟨[e] ++ t, by rw [a5, List.append_assoc]⟩
  ·
   cases h
theorem visit_pass {keys es : List Int} (hs : ∀ x ∈ es, x ∈ ids) (hd : ∀ e ∈ es, dir e = true → e ∉ keys ∧ es.count e ≤ 1) : ∃ ks, visit ids dir keys es = some ks := by
 induction es generalizing keys with
 | nil => exact ⟨_, rfl⟩
 | cons e r ih =>
  unfold visit
  rw [if_pos ⟨hs e List.mem_cons_self, fun h => (hd e List.mem_cons_self h.1).1 h.2⟩]
  refine ih (fun x hx => hs x (List.mem_cons_of_mem _ hx)) (fun y hy hy2 => ?_)
  obtain ⟨h1, h2⟩ := hd y (List.mem_cons_of_mem _ hy) hy2
  by_cases hye : y = e
  ·
   subst hye
   rw [List.count_cons_self] at h2
   have := List.count_pos_iff.2 hy
   omega
  ·
   rw [List.count_cons_of_ne (fun h => hye h.symm)] at h2
   refine ⟨?_, h2⟩
   split
   ·
    exact h1
   ·
    simp [h1, hye]
/-- what holds while nodes are gone through: the first j of the keys have been -/
structure Inv (j : Nat) (keys : List Int) : Prop where
 nd : keys.Nodup
 sub : ∀ x ∈ keys, x ∈ ids
 mem : ∀ x, x ∈ keys ↔ x = 1 ∨ ∃ y ∈ keys.take j, x ∈ ents y
 le : j ≤ keys.length
 one : ∀ e, dir e = true → (if e = 1 then 1 else 0) + cnt ents (keys.take j) e ≤ 1
theorem cnt_append (a b : List Int) (e : Int) : cnt ents (a ++ b) e = cnt ents a e + cnt ents b e := by simp [cnt]
theorem cnt_zero {l : List Int} {e : Int} (h : ∀ y ∈ l, e ∉ ents y) : cnt ents l e = 0 := by
 induction l with
 | nil => rfl
 | cons x r ih =>
  simp only [cnt, List.map_cons, List.sum_cons] at ih ⊢
  rw [ih (fun y hy => h y (List.mem_cons_of_mem _ hy)), List.count_eq_zero_of_not_mem (h x List.mem_cons_self)]
theorem cnt_pos {l : List Int} {e y : Int} (hy : y ∈ l) (h : e ∈ ents y) : 0 < cnt ents l e := by
 induction l with
 | nil => cases hy
 | cons x r ih =>
  simp only [cnt, List.map_cons, List.sum_cons] at ih ⊢
  rcases List.mem_cons.1 hy with h1 | h1
  ·
   subst h1; have := List.count_pos_iff.2 h; omega
  ·
   have := ih h1; omega
theorem inv_step {j : Nat} {keys ks : List Int} (hI : Inv ids ents dir j keys) (hj : j < keys.length) (h : visit ids dir keys (ents keys[j]) = some ks) : Inv ids ents dir (j + 1) ks := by
 obtain ⟨a1, a2, a3, a4, t, a5⟩ := visit_ok ids dir h hI.nd hI.sub
 have ht : ks.take (j + 1) = keys.take j ++ [keys[j]] := by
  rw [a5, List.take_append_of_le_length (by omega), List.take_succ_eq_append_getElem hj]
 refine ⟨a1, a2, fun x => ?_, by rw [a5, List.length_append]; omega, fun e hd => ?_⟩
 ·
  rw [a3, hI.mem, ht]
  constructor
  ·
   rintro ((h | ⟨y, hy, hx⟩) | h)
   ·
    exact .inl h
   ·
    exact .inr ⟨y, List.mem_append_left _ hy, hx⟩
   ·
    exact .inr ⟨_, List.mem_append_right _ (by simp), h⟩
  ·
   rintro (h | ⟨y, hy, hx⟩)
   ·
    exact .inl (.inl h)
   ·
    rcases List.mem_append.1 hy with h1 | h1
    ·
     exact .inl (.inr ⟨y, h1, hx⟩)
    ·
     simp at h1; subst h1; exact .inr hx
 ·
  rw [ht, cnt_append]
  have h0 := hI.one e hd
  have e1 : cnt ents [keys[j]] e = (ents keys[j]).count e := by simp [cnt]
  rw [e1]
  by_cases he : e ∈ ents keys[j]
  ·
   obtain ⟨b1, b2⟩ := a4 e he hd
   have n1 : e ≠ 1 := fun h => b1 ((hI.mem e).2 (.inl h))
   have n2 : cnt ents (keys.take j) e = 0 := cnt_zero ents (fun y hy hh => b1 ((hI.mem e).2 (.inr ⟨y, hy, hh⟩)))
   rw [if_neg n1, n2]; omega
  ·
   rw [List.count_eq_zero_of_not_mem he]; omega
theorem bfs_inv (k : Nat) : ∀ {j : Nat} {keys ks : List Int}, Inv ids ents dir j keys → bfs ids ents dir k j keys = some ks → Inv ids ents dir ks.length ks := by
 induction k with
 | zero => intro j keys ks _ h; cases h
 | succ k ih =>
  intro j keys ks hI h
  unfold bfs at h
  cases hj : keys[j]? with
  | none =>
   rw [hj] at h
   cases h
   have := List.getElem?_eq_none_iff.1 hj
   have e : j = keys.length := Nat.le_antisymm hI.le this
   exact e ▸ hI
  | some x =>
   rw [hj] at h
   obtain ⟨hl, rfl⟩ := List.getElem?_eq_some_iff.1 hj
   simp only at h
   cases hv : visit ids dir keys (ents keys[j]) with
   | none => rw [hv] at h; cases h
   | some k2 => rw [hv] at h; exact ih (inv_step ids ents dir hI hl hv) h
theorem inv_start (h1 : (1 : Int) ∈ ids) : Inv ids ents dir 0 [1] :=
 ⟨by simp, by simpa using h1, by simp, by simp, fun e _ => by simp [cnt]; split <;> omega⟩
/-- the way: without repeats, among the nodes; what was there stays ahead -/
theorem way_props (k : Nat) : ∀ (l : List Int) (id : Int), l.Nodup → (∀ x ∈ l, x ∈ ids) → (way ids ents k l id).Nodup ∧ (∀ x ∈ way ids ents k l id, x ∈ ids) ∧ ∃ t, way ids ents k l id = l ++ t := by
 induction k with
 | zero => intro l id h1 h2; exact ⟨h1, h2, [], by simp [way]⟩
 | succ k ih =>
  intro l id h1 h2
  unfold way
  split
  ·
   exact ⟨h1, h2, [], by simp⟩
  ·
   rename_i hm
   split
   ·
    rename_i hi
    have fold : ∀ (es : List Int) (m : List Int), m.Nodup → (∀ x ∈ m, x ∈ ids) → (es.foldl (way ids ents k) m).Nodup ∧ (∀ x ∈ es.foldl (way ids ents k) m, x ∈ ids) ∧ ∃ t, es.foldl (way ids ents k) m = m ++ t := by
     intro es
     induction es with
     | nil => intro m a b; exact ⟨a, b, [], by simp⟩
     | cons e r ihr =>
      intro m a b
      obtain ⟨c1, c2, t, c3⟩ := ih m e a b
      obtain ⟨d1, d2, u, d3⟩ := ihr _ c1 c2
      rw [List.foldl_cons]
      exact ⟨d1, d2, t ++ u, by rw [d3, c3, List.append_assoc]⟩
    obtain ⟨a, b, t, c⟩ := fold (ents id) (l ++ [id]) (by
      rw [List.nodup_append]
      refine ⟨h1, by simp, fun a ha b hb => ?_⟩
      simp at hb; subst hb; intro e; subst e; exact hm ha) (fun x hx => by
      rcases List.mem_append.1 hx with h | h
      ·
       exact h2 x h
      ·
       simp at h; subst h; exact hi)
    exact ⟨a, b, [id] ++ t, by rw [c, List.append_assoc]⟩
   ·
    exact ⟨h1, h2, [], by simp⟩
/-- any set that holds the root of the way and is closed holds the way -/
theorem way_in (S : Int → Prop) (hc : ∀ x, S x → x ∈ ids → ∀ e ∈ ents x, S e) (k : Nat) : ∀ (l : List Int) (id : Int), (∀ x ∈ l, S x) → S id → ∀ x ∈ way ids ents k l id, S x := by
 induction k with
 | zero => intro l id h _ x hx; exact h x hx
 | succ k ih =>
  intro l id h hS x hx
  unfold way at hx
  split at hx
  ·
   exact h x hx
  ·
   split at hx
   ·
    rename_i hi
    have fold : ∀ (es : List Int) (m : List Int), (∀ e ∈ es, S e) → (∀ x ∈ m, S x) → ∀ x ∈ es.foldl (way ids ents k) m, S x := by
     intro es
     induction es with
     | nil => intro m _ b; exact b
     | cons e r ihr =>
      intro m a b
      rw [List.foldl_cons]
      exact ihr _ (fun e he => a e (List.mem_cons_of_mem _ he)) (ih m e b (a e List.mem_cons_self))
    refine fold (ents id) (l ++ [id]) (hc id hS hi) (fun y hy => ?_) x hx
    rcases List.mem_append.1 hy with h1 | h1
    ·
     exact h y h1
    ·
     simp at h1; subst h1; exact hS
   ·
    exact h x hx
/-- with rounds enough the way is closed over what it met, but for what was there -/
theorem way_closed (_hn : ids.Nodup) (k : Nat) : ∀ (l : List Int) (id : Int), l.Nodup → (∀ x ∈ l, x ∈ ids) → id ∈ ids → ids.length < k + l.length → (∀ x ∈ ids, ∀ e ∈ ents x, e ∈ ids) →
  id ∈ way ids ents k l id ∧ ∀ x ∈ way ids ents k l id, x ∉ l → ∀ e ∈ ents x, e ∈ way ids ents k l id := by
 induction k with
 | zero => intro l id a b c d; have := len_le l ids a b; omega
 | succ k ih =>
  intro l id a b c d hcl
  unfold way
  by_cases hm : id ∈ l
  ·
   rw [if_pos hm]; exact ⟨hm, fun x hx h => absurd hx h⟩
  ·
   rw [if_neg hm, if_pos c]
   have hnd : (l ++ [id]).Nodup := by
    rw [List.nodup_append]
    refine ⟨a, by simp, fun a' ha b' hb => ?_⟩
    simp at hb; subst hb; intro e; subst e; exact hm ha
   have hsb : ∀ x ∈ l ++ [id], x ∈ ids := fun x hx => by
    rcases List.mem_append.1 hx with h | h
    ·
     exact b x h
    ·
     simp at h; subst h; exact c
   have fold : ∀ (es : List Int) (m : List Int), m.Nodup → (∀ x ∈ m, x ∈ ids) → (∀ e ∈ es, e ∈ ids) → l.length + 1 ≤ m.length →
     (∀ e ∈ es, e ∈ es.foldl (way ids ents k) m) ∧ (∀ x ∈ m, x ∈ es.foldl (way ids ents k) m) ∧ ∀ x ∈ es.foldl (way ids ents k) m, x ∉ m → ∀ e ∈ ents x, e ∈ es.foldl (way ids ents k) m := by
    intro es
    induction es with
    | nil => intro m _ _ _ _; exact ⟨by simp, fun x hx => hx, fun x hx h => absurd hx h⟩
    | cons e r ihr =>
     intro m p1 p2 p3 p4
     obtain ⟨q1, q2⟩ := ih m e p1 p2 (p3 e List.mem_cons_self) (by omega) hcl
     obtain ⟨c1, c2, t, c3⟩ := way_props ids ents k m e p1 p2
     obtain ⟨r1, r2, r3⟩ := ihr (way ids ents k m e) c1 c2 (fun e he => p3 e (List.mem_cons_of_mem _ he)) (by rw [c3, List.length_append]; omega)
     rw [List.foldl_cons]
     refine ⟨fun y hy => ?_, fun x hx => r2 x (by rw [c3]; exact List.mem_append_left _ hx), fun x hx hxm f hf => ?_⟩
     ·
      rcases List.mem_cons.1 hy with h | h
      ·
       subst h; exact r2 _ q1
      ·
       exact r1 y h
     ·
      by_cases hw : x ∈ way ids ents k m e
      ·
       exact r2 f (q2 x hw hxm f hf)
      ·
       exact r3 x hx hw f hf
   obtain ⟨f1, f2, f3⟩ := fold (ents id) (l ++ [id]) hnd hsb (hcl id c) (by simp)
   refine ⟨f2 id (by simp), fun x hx hxl e he => ?_⟩
   by_cases hxi : x = id
   ·
    subst hxi; exact f1 e he
   ·
    exact f3 x hx (by simp [hxl, hxi]) e he
theorem bfs_in (S : Int → Prop) (hc : ∀ x, S x → ∀ e ∈ ents x, S e) (k : Nat) : ∀ {j : Nat} {keys ks : List Int}, Inv ids ents dir j keys → bfs ids ents dir k j keys = some ks → (∀ x ∈ keys, S x) → ∀ x ∈ ks, S x := by
 induction k with
 | zero => intro j keys ks _ h; cases h
 | succ k ih =>
  intro j keys ks hI h hS
  unfold bfs at h
  cases hj : keys[j]? with
  | none => rw [hj] at h; cases h; exact hS
  | some x =>
   rw [hj] at h
   obtain ⟨hl, rfl⟩ := List.getElem?_eq_some_iff.1 hj
   simp only at h
   cases hv : visit ids dir keys (ents keys[j]) with
   | none => rw [hv] at h; cases h
   | some k2 =>
    rw [hv] at h
    refine ih (inv_step ids ents dir hI hl hv) h (fun x hx => ?_)
    rcases ((visit_ok ids dir hv hI.nd hI.sub).2.2.1 x).1 hx with h1 | h1
    ·
     exact hS x h1
    ·
     exact hc _ (hS _ (List.getElem_mem hl)) x h1
def refOK (k : Nat) : Prop := (∀ x ∈ ids, ∀ e ∈ ents x, e ∈ ids) ∧ cnt ents ids 1 = 0 ∧ (∀ x ∈ ids, x ≠ 1 → 0 < cnt ents ids x) ∧ (∀ x ∈ ids, dir x = true → cnt ents ids x ≤ 1) ∧ (way ids ents k [] 1).length = ids.length
theorem ref_of_prog (hn : ids.Nodup) (h1 : (1 : Int) ∈ ids) (hd1 : dir 1 = true) (k k2 : Nat) (ks : List Int) (h : bfs ids ents dir k 0 [1] = some ks) (hl : ks.length = ids.length) (hk : ids.length < k2) : refOK ids ents dir k2 := by
 have hI := bfs_inv ids ents dir k (inv_start ids ents dir h1) h
 have hall := all_of_len ks ids hI.nd hn hI.sub (by omega)
 have hc : ∀ e, cnt ents ks e = cnt ents ids e := fun e => sum_eq _ ks ids hI.nd hn hI.sub (by omega)
 have hm := hI.mem
 have ho := hI.one
 rw [List.take_length] at hm ho
 have hcl : ∀ x ∈ ids, ∀ e ∈ ents x, e ∈ ids := fun x hx e he => hI.sub e ((hm e).2 (.inr ⟨x, hall x hx, he⟩))
 refine ⟨hcl, ?_, fun x hx hx1 => ?_, fun x hx hd => ?_, ?_⟩
 ·
  have := ho 1 hd1
  rw [if_pos rfl, hc] at this
  omega
 ·
  rw [← hc]
  rcases (hm x).1 (hall x hx) with h | ⟨y, hy, he⟩
  ·
   exact absurd h hx1
  ·
   exact cnt_pos ents hy he
 ·
  have := ho x hd
  rw [hc] at this
  split at this <;> omega
 ·
  obtain ⟨w1, w2, t, w3⟩ := way_props ids ents k2 [] 1 (by simp) (by simp)
  obtain ⟨c1, c2⟩ := way_closed ids ents hn k2 [] 1 (by simp) (by simp) h1 (by simpa using hk) hcl
  refine Nat.le_antisymm (len_le _ _ w1 w2) ?_
  have hS : ∀ x ∈ ks, x ∈ way ids ents k2 [] 1 := bfs_in ids ents dir (fun x => x ∈ way ids ents k2 [] 1) (fun x hx e he => c2 x hx (by simp) e he) k (inv_start ids ents dir h1) h (fun x hx => by
   simp at hx; subst hx; exact c1)
  have := len_le ks _ hI.nd hS
  omega
theorem prog_of_ref (hn : ids.Nodup) (h1 : (1 : Int) ∈ ids) (k k2 : Nat) (hk : ids.length < k) (hr : refOK ids ents dir k2) : ∃ ks, bfs ids ents dir k 0 [1] = some ks ∧ ks.length = ids.length := by
 obtain ⟨hcl, hl0, hl1, hl2, hw⟩ := hr
 have pass : ∀ (k j : Nat) (keys : List Int), Inv ids ents dir j keys → ids.length < k + j → ∃ ks, bfs ids ents dir k j keys = some ks := by
  intro k
  induction k with
  | zero =>
   intro j keys hI hj
   have := len_le keys ids hI.nd hI.sub
   have := hI.le
   omega
  | succ k ih =>
   intro j keys hI hj
   unfold bfs
   cases hg : keys[j]? with
   | none => exact ⟨_, rfl⟩
   | some x =>
    obtain ⟨hl, rfl⟩ := List.getElem?_eq_some_iff.1 hg
    have hxi := hI.sub _ (List.getElem_mem hl)
    have hnd : (keys.take (j + 1)).Nodup := hI.nd.sublist (List.take_sublist _ _)
    have hle : ∀ e, cnt ents (keys.take j) e + (ents keys[j]).count e ≤ cnt ents ids e := fun e => by
     have := sum_le (fun x => (ents x).count e) (keys.take (j + 1)) ids hnd (fun x hx => hI.sub x (List.mem_of_mem_take hx))
     rw [List.take_succ_eq_append_getElem hl] at this
     simp only [cnt, List.map_append, List.sum_append, List.map_cons, List.map_nil, List.sum_cons, List.sum_nil] at this ⊢
     omega
    obtain ⟨k2, hv⟩ := visit_pass ids dir (keys := keys) (es := ents keys[j]) (fun e he => hcl _ hxi e he) (fun e he hd => by
     have hei := hcl _ hxi e he
     have hc := List.count_pos_iff.2 he
     have h2 := hl2 e hei hd
     have h3 := hle e
     refine ⟨fun hm => ?_, by omega⟩
     rcases (hI.mem e).1 hm with h | ⟨y, hy, hye⟩
     ·
      subst h; omega
     ·
      have := cnt_pos ents hy hye; omega)
    obtain ⟨ks, hks⟩ := ih (j + 1) k2 (inv_step ids ents dir hI hl hv) (by omega)
    exact ⟨ks, by simp only; rw [hv]; exact hks⟩
 obtain ⟨ks, hks⟩ := pass k 0 [1] (inv_start ids ents dir h1) (by omega)
 refine ⟨ks, hks, ?_⟩
 have hI := bfs_inv ids ents dir k (inv_start ids ents dir h1) hks
 have hm := hI.mem
 rw [List.take_length] at hm
 have hle := len_le ks ids hI.nd hI.sub
 obtain ⟨w1, w2, t, w3⟩ := way_props ids ents k2 [] 1 (by simp) (by simp)
 have := way_in ids ents (fun x => x ∈ ks) (fun x hx _ e he => (hm e).2 (.inr ⟨x, hx, he⟩)) k2 [] 1 (by simp) ((hm 1).2 (.inl rfl))
 have := len_le _ ks w1 this
 omega
end Go.Proofs.YtnpnablnnfekkaaDoor.TG
set_option linter.unusedVariables false
set_option linter.unusedSimpArgs false
namespace Go.Proofs.YtnpnablnnfekkaaDoor.PTr
open Go.RowKit Go.Proofs.YtnpnablnnfekkaaDoor Go.Proofs.YtnpnablnnfekkaaDoorW.PrintWords
def idsL (l : List Nod) : List Int := l.map (·.f0)
def nodeL (l : List Nod) (id : Int) : Option Nod := l.find? fun x => x.f0 = id
def tgts (l : List Nod) (id : Int) : List Int := ((nodeL l id).map fun x => x.f6.map (·.f1)).getD []
def dirL (l : List Nod) (id : Int) : Bool := ((nodeL l id).map fun x => decide (x.f1 = 1)).getD false
def nodeAt (l : List Nod) (last : Int) (i : Nat) : Bool :=
 plainB (rd_T44 l (i : Int)) && decide ((rd_T44 l (i : Int)).f0 ≤ last) && (decide (i = 0) || decide ((rd_T44 l ((i - 1 : Nat) : Int)).f0 < (rd_T44 l (i : Int)).f0))
def nodesOK (l : List Nod) (last : Int) : Bool := (List.range l.length).all (nodeAt l last)
def headOK (l : List Nod) : Bool := decide (l.length ≠ 0) && decide (l.length ≤ 512) && decide ((rd_T44 l 0).f0 = 1) && decide ((rd_T44 l 0).f1 = 1)
def goneThrough (l : List Nod) : Option (List Int) := TG.bfs (idsL l) (tgts l) (dirL l) (l.length + 2) 0 [1]
def reach (l : List Nod) : Int := match goneThrough l with
 | some ks => if ks.length = l.length then 0 else 80
 | none => 80
def chk (l : List Nod) (last : Int) : Int := if headOK l = true then (if nodesOK l last = true then reach l else 80) else 80
theorem rises_of {l : List Nod} {last : Int} (h : nodesOK l last = true) : Rises l := by
 have step : ∀ (i : Nat) (hi : i + 1 < l.length), l[i].f0 < l[i + 1].f0 := by
  intro i hi
  have := List.all_eq_true.1 h (i + 1) (List.mem_range.2 hi)
  unfold nodeAt at this
  simp only [Bool.and_eq_true, Bool.or_eq_true, decide_eq_true_eq] at this
  obtain ⟨_, h2⟩ := this
  rcases h2 with h2 | h2
  ·
   omega
  ·
   rw [Nat.add_sub_cancel, rdN l i (by omega), rdN l (i + 1) hi] at h2; exact h2
 intro i j hi hj hij
 obtain ⟨d, rfl⟩ : ∃ d, j = i + 1 + d := ⟨j - i - 1, by omega⟩
 clear hij
 induction d with
 | zero => exact step i hj
 | succ d ih => exact Int.lt_trans (ih (by omega)) (step (i + 1 + d) (by omega))
theorem rises_nodup {l : List Nod} (h : Rises l) : (idsL l).Nodup := by
 unfold idsL
 rw [List.nodup_iff_pairwise_ne, List.pairwise_iff_getElem]
 intro i j hi hj hij
 have := h i j (by simpa using hi) (by simpa using hj) hij
 simp only [List.getElem_map]
 omega
theorem nodeL_at {l : List Nod} (h : Rises l) (i : Nat) (hi : i < l.length) : nodeL l l[i].f0 = some l[i] := by
 unfold nodeL
 rw [List.find?_eq_some_iff_getElem]
 refine ⟨by simp, i, hi, rfl, fun j hj => ?_⟩
 have := h j i (by omega) hi hj
 simp; omega
theorem nodeL_none {l : List Nod} {id : Int} (h : ∀ x ∈ l, x.f0 ≠ id) : nodeL l id = none := by
 unfold nodeL
 rw [List.find?_eq_none]
 intro x hx
 simpa using h x hx
theorem tgts_at {l : List Nod} (h : Rises l) (i : Nat) (hi : i < l.length) : tgts l l[i].f0 = l[i].f6.map (·.f1) := by unfold tgts; rw [nodeL_at h i hi]; rfl
theorem dir_at {l : List Nod} (h : Rises l) (i : Nat) (hi : i < l.length) : dirL l l[i].f0 = decide (l[i].f1 = 1) := by unfold dirL; rw [nodeL_at h i hi]; rfl
theorem mem_ids {l : List Nod} {id : Int} : id ∈ idsL l ↔ ∃ x ∈ l, x.f0 = id := by unfold idsL; exact List.mem_map
end Go.Proofs.YtnpnablnnfekkaaDoor.PTr
set_option linter.unusedVariables false
set_option linter.unusedSimpArgs false
namespace Go.Proofs.YtnpnablnnfekkaaDoor
open Go Go.RowKit
open Go.MapKept (Stamped IsKey findNow_spec heap_set stamped_push stamped_modify stamped_empty stamped_erase run_findKey run_checkKey run_setObj_map run_keyThatStays)
def getA {κ α : Type} [DecidableEq κ] : List (κ × α) → κ → Option α
 | [], _ => none
 | p :: r, k => if p.1 = k then some p.2 else getA r k
def putA {κ α : Type} [DecidableEq κ] : List (κ × α) → κ → α → List (κ × α)
 | [], k, v => [(k, v)]
 | p :: r, k, v => if p.1 = k then (k, v) :: r else p :: putA r k v
section
variable {κ α : Type} [DecidableEq κ]
theorem getA_none {l : List (κ × α)} {k : κ} : getA l k = none ↔ k ∉ l.map (·.1) := by
 induction l with
 | nil => simp [getA]
 | cons p r ih =>
  unfold getA
  by_cases h : p.1 = k
  ·
   simp [h]
  ·
   rw [if_neg h, ih]; simp [Ne.symm h]
theorem getA_at {l : List (κ × α)} (hn : (l.map (·.1)).Nodup) {j : Nat} {k : κ} {v : α} (h : l[j]? = some (k, v)) : getA l k = some v := by
 induction l generalizing j with
 | nil => simp at h
 | cons p r ih =>
  rw [List.map_cons, List.nodup_cons] at hn
  unfold getA
  cases j with
  | zero => simp at h; subst h; simp
  | succ j =>
   have h' : r[j]? = some (k, v) := by simpa using h
   have hm : k ∈ r.map (·.1) := List.mem_map.2 ⟨(k, v), List.mem_of_getElem? h', rfl⟩
   rw [if_neg (fun e => hn.1 (by rw [e]; exact hm))]
   exact ih hn.2 h'
theorem putA_none {l : List (κ × α)} {k : κ} (v : α) (h : k ∉ l.map (·.1)) : putA l k v = l ++ [(k, v)] := by
 induction l with
 | nil => rfl
 | cons p r ih =>
  simp only [List.map_cons, List.mem_cons, not_or] at h
  unfold putA
  rw [if_neg (fun e => h.1 e.symm), ih h.2]; rfl
theorem putA_at {l : List (κ × α)} (hn : (l.map (·.1)).Nodup) {j : Nat} {k : κ} {v : α} (u : α) (h : l[j]? = some (k, v)) : putA l k u = l.set j (k, u) := by
 induction l generalizing j with
 | nil => simp at h
 | cons p r ih =>
  rw [List.map_cons, List.nodup_cons] at hn
  unfold putA
  cases j with
  | zero => simp at h; subst h; simp
  | succ j =>
   have h' : r[j]? = some (k, v) := by simpa using h
   have hm : k ∈ r.map (·.1) := List.mem_map.2 ⟨(k, v), List.mem_of_getElem? h', rfl⟩
   rw [if_neg (fun e => hn.1 (by rw [e]; exact hm)), List.set_cons_succ, ih hn.2 h']
theorem getA_put (l : List (κ × α)) (k : κ) (v : α) (k' : κ) : getA (putA l k v) k' = if k = k' then some v else getA l k' := by
 induction l with
 | nil => simp [putA, getA]
 | cons p r ih =>
  unfold putA
  by_cases h : p.1 = k
  ·
   rw [if_pos h]
   simp only [getA, h]
   by_cases h2 : k = k' <;> simp [h2]
  ·
   rw [if_neg h]
   simp only [getA, ih]
   by_cases h2 : p.1 = k'
   ·
    rw [if_pos h2, if_pos h2, if_neg (fun e => h (by rw [h2, e]))]
   ·
    rw [if_neg h2, if_neg h2]
theorem keys_put (l : List (κ × α)) (k : κ) (v : α) : (putA l k v).map (·.1) = if k ∈ l.map (·.1) then l.map (·.1) else l.map (·.1) ++ [k] := by
 induction l with
 | nil => simp [putA]
 | cons p r ih =>
  unfold putA
  by_cases h : p.1 = k
  ·
   simp [h]
  ·
   rw [if_neg h, List.map_cons, ih, List.map_cons]
   by_cases h2 : k ∈ r.map (·.1)
   ·
    rw [if_pos h2, if_pos (List.mem_cons_of_mem _ h2)]
   ·
    rw [if_neg h2, if_neg (by simp only [List.mem_cons, not_or]; exact ⟨fun e => h e.symm, h2⟩)]; rfl
end
/-- block b is a map that reads so; K, E: how keys and what they lead to stand as values -/
def MapA {κ α : Type} (K : κ → Value) (E : α → Value) (w : World) (b : Nat) (l : List (κ × α)) : Prop :=
 ∃ es clock, w.heap[b]? = some (.map es clock) ∧ Stamped es clock ∧ es.toList.map (fun e => (e.key, e.val)) = l.map (fun p => (K p.1, E p.2))
structure KeyA {κ : Type} (P : Program) (kt : TypeId) (d : TypeDesc) (K : κ → Value) : Prop where
 und : P.underlying kt = some d
 isK : ∀ k, IsKey d (K k)
 inj : ∀ k k', K k = K k' → k = k'
section
variable {κ α : Type} {K : κ → Value} {E : α → Value} {w w1 : World} {b : Nat} {l : List (κ × α)} {P : Program} {kt et mt : TypeId} {d : TypeDesc}
theorem MapA.lt (h : MapA K E w b l) : b < w.heap.size := by
 obtain ⟨es, clock, hb, _⟩ := h
 exact (Array.getElem?_eq_some_iff.1 hb).1
theorem MapA.move (h : MapA K E w b l) (hm : w1.heap[b]? = w.heap[b]?) : MapA K E w1 b l := by
 obtain ⟨es, clock, hb, r⟩ := h
 exact ⟨es, clock, hm.trans hb, r⟩
theorem MapA.below (h : MapA K E w b l) (hb : Below w.heap.size w w1) : MapA K E w1 b l := h.move (hb.block b h.lt)
theorem MapA.alloc (h : MapA K E w b l) (o : Obj) : MapA K E (w.alloc o) b l := h.below ((Below.refl _ w).alloc (Nat.le_refl _) o)
theorem MapA.grown (h : MapA K E w b l) {row : Option Nat} (hg : w.grownBy w1 row) (hne : some b ≠ row) : MapA K E w1 b l := h.move (hg.block b h.lt hne)
theorem MapA.setCell (h : MapA K E w b l) {a : Addr} (ha : b ≠ a.block) (u : Value) : MapA K E (w.setCell a u) b l := h.move (Below.heap_setCell w a u b ha)
/-- 'len(m)' -/
theorem MapA.len (h : MapA K E w b l) (hm : P.underlying mt = some (.map kt et)) (ty : TypeId) : (Builtin.len_ #[mt] ty #[.map (some b)]).run P w = .ok (.int .i64 l.length) w := by
 obtain ⟨es, clock, hb, hs, e⟩ := h
 have hl : es.size = l.length := by have := congrArg List.length e; simpa using this
 rw [← hl]
 simp [Builtin.len_, run_underlying hm, Go.MapKept.run_getObj_map hb, goInt, Result.andThen]
theorem MapA.made (w : World) (K : κ → Value) (E : α → Value) : MapA K E (w.alloc (.map #[] 0)) w.heap.size [] := ⟨#[], 0, (Go.MapKept.heap_alloc w _).1, stamped_empty 0, rfl⟩
theorem MapA.nodup (h : MapA K E w b l) : (l.map (·.1)).Nodup := by
 obtain ⟨es, clock, hb, ⟨_, _, hn⟩, e⟩ := h
 have e2 : es.toList.map (·.key) = (l.map (·.1)).map K := by
  have := congrArg (List.map Prod.fst) e
  simpa [List.map_map, Function.comp_def] using this
 rw [e2] at hn
 exact hn.of_map K (fun a b h e => h (by rw [e]))
end
section
variable {κ α : Type} [DecidableEq κ] {K : κ → Value} {E : α → Value} {w w1 : World} {b : Nat} {l : List (κ × α)} {P : Program} {kt et mt : TypeId} {d : TypeDesc}
theorem MapA.find (hK : KeyA P kt d K) {es : Array MapEntry} (hn : (l.map (·.1)).Nodup) (e : es.toList.map (fun e => (e.key, e.val)) = l.map (fun p => (K p.1, E p.2))) (k : κ) :
  (getA l k = none ∧ Instr.findNow d (K k) es.toList 0 = some none ∧ (∀ x ∈ es.toList, x.key ≠ K k)) ∨
  (∃ j x v, getA l k = some v ∧ Instr.findNow d (K k) es.toList 0 = some (some (j, x.val)) ∧ es[j]? = some x ∧ x.key = K k ∧ x.val = E v ∧ l[j]? = some (k, v)) := by
 have hks : ∀ x ∈ es.toList, IsKey d x.key := by
  intro x hx
  have : (x.key, x.val) ∈ es.toList.map (fun e => (e.key, e.val)) := List.mem_map.2 ⟨x, hx, rfl⟩
  rw [e] at this
  obtain ⟨p, _, hp⟩ := List.mem_map.1 this
  have : K p.1 = x.key := congrArg Prod.fst hp
  rw [← this]; exact hK.isK _
 rcases findNow_spec (hK.isK k) es.toList 0 hks with ⟨h1, h2⟩ | ⟨j, x, h1, h2, h3⟩
 ·
  refine .inl ⟨getA_none.2 (fun hm => ?_), h1, h2⟩
  obtain ⟨p, hp, rfl⟩ := List.mem_map.1 hm
  have : (K p.1, E p.2) ∈ l.map (fun p => (K p.1, E p.2)) := List.mem_map.2 ⟨p, hp, rfl⟩
  rw [← e] at this
  obtain ⟨x, hx, he⟩ := List.mem_map.1 this
  exact h2 x hx (congrArg Prod.fst he)
 ·
  have hj : (es.toList.map (fun e => (e.key, e.val)))[j]? = some (x.key, x.val) := by rw [List.getElem?_map, h2]; rfl
  rw [e, List.getElem?_map] at hj
  obtain ⟨p, hp, he⟩ := Option.map_eq_some_iff.1 hj
  have hk : p.1 = k := hK.inj _ _ ((congrArg Prod.fst he).trans h3)
  have hp' : l[j]? = some (k, p.2) := by rw [hp, ← hk]
  exact .inr ⟨j, x, p.2, getA_at hn hp', by rw [h1]; simp, by simpa using h2, h3, (congrArg Prod.snd he).symm, hp'⟩
/-- 'm[k]' and 'v, ok := m[k]' -/
theorem MapA.look (h : MapA K E w b l) (hK : KeyA P kt d K) (hm : P.underlying mt = some (.map kt et)) {z : Value} (hz : (zeroValue et).run P w = .ok z w) (k : κ) (ok : Bool) :
  (Instr.lookup mt (.map (some b)) (K k) ok).run P w = .ok (if ok then .tuple #[(getA l k).elim z E, .bool (getA l k).isSome] else (getA l k).elim z E) w := by
 have hn := h.nodup
 obtain ⟨es, clock, hb, hs, e⟩ := h
 rcases MapA.find hK hn e k with ⟨h1, h2, _⟩ | ⟨j, x, v, h1, h2, _, _, h3, _⟩
 ·
  cases ok <;> simp [Instr.lookup, run_underlying hm, Go.MapKept.run_getObj_map hb, run_checkKey hK.und (hK.isK k), run_findKey hK.und h2, Result.andThen, hz, h1]
 ·
  cases ok <;> simp [Instr.lookup, run_underlying hm, Go.MapKept.run_getObj_map hb, run_checkKey hK.und (hK.isK k), run_findKey hK.und h2, Result.andThen, h1, h3]
/-- 'm[k] = v' -/
theorem MapA.update (h : MapA K E w b l) (hK : KeyA P kt d K) (hm : P.underlying mt = some (.map kt et)) (k : κ) (v : α) :
  ∃ w', (Instr.mapUpdate mt (.map (some b)) (K k) (E v)).run P w = .ok () w' ∧ MapA K E w' b (putA l k v) ∧ w.grownBy w' (some b) := by
 have hn := h.nodup
 obtain ⟨es, clock, hb, hs, e⟩ := h
 rcases MapA.find hK hn e k with ⟨h1, h2, h3⟩ | ⟨j, x, u, h1, h2, hj, hk, h3, hl⟩
 ·
  refine ⟨{ w with heap := w.heap.setIfInBounds b (.map (es.push { key := K k, val := E v, born := clock }) (clock + 1)) }, by simp [Instr.mapUpdate, run_underlying hm, Go.MapKept.run_getObj_map hb, run_checkKey hK.und (hK.isK k), run_findKey hK.und h2, run_setObj_map _ hb, Result.andThen], ⟨_, _, (heap_set hb).1, stamped_push hs h3, ?_⟩, ⟨rfl, rfl, rfl, by simp, fun i _ hi => (heap_set hb).2 i (fun e => hi (by rw [e]))⟩⟩
  rw [Array.toList_push, List.map_append, e, putA_none v (getA_none.1 h1), List.map_append]; rfl
 ·
  have hkey : ∀ e', es[j]? = some e' → ({ e' with key := K k, val := E v } : MapEntry).key = e'.key := fun e' he' => by rw [hj] at he'; cases he'; exact hk.symm
  refine ⟨{ w with heap := w.heap.setIfInBounds b (.map (es.modify j fun e => { e with key := K k, val := E v }) clock) }, by simp [Instr.mapUpdate, run_underlying hm, Go.MapKept.run_getObj_map hb, run_checkKey hK.und (hK.isK k), run_findKey hK.und h2, hj, hk, run_keyThatStays (hK.isK k), run_setObj_map _ hb, Result.andThen], ⟨_, _, (heap_set hb).1, stamped_modify hs _ _ (fun _ _ => rfl) (fun e' _ he' => hkey e' he'), ?_⟩, ⟨rfl, rfl, rfl, by simp, fun i _ hi => (heap_set hb).2 i (fun e => hi (by rw [e]))⟩⟩
  rw [putA_at hn v hl]
  apply List.ext_getElem?
  intro i
  have ei := congrArg (fun l => l[i]?) e
  simp only [List.getElem?_map, Array.getElem?_toList] at ei
  simp only [List.getElem?_map, Array.getElem?_toList, Array.getElem?_modify]
  by_cases hij : j = i
  ·
   subst hij
   rw [List.getElem?_set_self (List.getElem?_eq_some_iff.1 hl).1, hj]; simp
  ·
   rw [List.getElem?_set_ne hij]; simp only [hij, if_false]; exact ei
/-- 'm[k] = v' at the operation -/
theorem mp_put {ops : Array Oper} {rest : List Oper} {o : Oper} {a : Act} {Q : Exit → Act → World → Prop} (hg : o.guard = none) {m x y : Operand} {mt : TypeId} (hop : o.op = Op.mapUpdate mt m x y ∨ o.op = Op.insert mt m x y)
  (h : MapA K E w b l) (hK : KeyA P kt d K) (ht : P.underlying mt = some (.map kt et)) (hm : a.eval m = .map (some b)) (k : κ) (v : α) (hx : a.eval x = K k) (hy : a.eval y = E v)
  (hQ : ∀ w', MapA K E w' b (putA l k v) → w.grownBy w' (some b) → wpList P ops Q rest (a.put o.dst undef) w') : wpList P ops Q (o :: rest) a w := by
 refine wpList_plain hg fun K' hK' => ?_
 obtain ⟨w', hrun, r1, r2⟩ := h.update hK ht k v
 unfold Oper.wp
 rcases hop with hop | hop
 all_goals
  simp [execOp, hop, hm, hx, hy, hrun, Result.andThen]
  exact hK' _ _ (hQ w' r1 r2)
end
end Go.Proofs.YtnpnablnnfekkaaDoor
set_option linter.unusedVariables false
set_option linter.unusedSimpArgs false
namespace Go.Proofs.YtnpnablnnfekkaaDoor
open Go.RowKit Go.Proofs.YtnpnablnnfekkaaDoorW.PrintWords
abbrev MapD := List (Int × Int)
def KI : Int → Value := Value.int .i64
def gI (m : MapD) (k : Int) : Int := (getA m k).getD 0
theorem keyI {P : Program} {t : TypeId} (h : P.underlying t = some (.int .i64)) : KeyA P t (.int .i64) KI := ⟨h, fun _ => rfl, fun a b e => by unfold KI at e; injection e⟩
theorem info3 : (Tryd.prog.info? 3).map (fun i => (i.zero, i.size, i.bytes)) = some (some (.int .i64 0), 1, 8) := by kernel_rfl
theorem zeroI (w : World) : (zeroValue 3).run Tryd.prog w = .ok (.int .i64 0) w := by kernel_rfl
theorem gI_put (m : MapD) (k v : Int) : gI (putA m k v) k = v := by unfold gI; rw [getA_put, if_pos rfl]; rfl
theorem MapA.neC {κ α : Type} {K : κ → Value} {E : α → Value} {w : World} {b g : Nat} {l : List (κ × α)} {cs : Array Value} {t : TypeId} {f : Nat × Nat} (h : MapA K E w b l) (hb : w.heap[g]? = some (.cells cs t f)) : b ≠ g := by
 obtain ⟨es, clock, h, _⟩ := h
 intro e
 subst e
 rw [hb] at h; cases h
theorem MapA.lookI {w : World} {b : Nat} {m : MapD} (h : MapA KI KI w b m) {mt : TypeId} (hm : Tryd.prog.underlying mt = some (.map 3 3)) (hz : ∀ w, (zeroValue 3).run Tryd.prog w = .ok (.int .i64 0) w) (k : Int) :
  (Instr.lookup mt (.map (some b)) (.int .i64 k) false).run Tryd.prog w = .ok (.int .i64 (gI m k)) w := by
 have := h.look (keyI Tryd.underlying3) hm (hz w) k false
 unfold KI at this
 rw [this]
 unfold gI
 cases getA m k <;> rfl
theorem Q_mapped {w w1 : World} {base e gm : Nat} {v : Value} {xs : List Int} {m : MapD} (h : Kd.Q (Kd.int .i64) e w base (fun _ => True) v xs) (hm : MapA KI KI w gm m) (hg : w.grownBy w1 (some gm)) : Kd.Q (Kd.int .i64) e w1 base (fun _ => True) v xs := by
 refine Kd.Q_mono (Kd.Q_grown (Kd.Q_bound h) hg (fun k hk e2 => ?_)) (fun _ _ => trivial)
 obtain ⟨_, _, _, q, _, cells, hc⟩ := hk
 exact hm.neC hc (Option.some.inj e2).symm
theorem Q_neM {w : World} {base e gm : Nat} {ok : Nat → Prop} {v : Value} {xs : List Int} {m : MapD} (h : Kd.Q (Kd.int .i64) e w base ok v xs) (hm : MapA KI KI w gm m) : some gm ≠ v.ownBlock := by
 intro e2
 obtain ⟨_, inner, hq, _⟩ := h
 obtain ⟨_, cells, hc⟩ := q_typed hq gm e2.symm
 exact hm.neC hc rfl
end Go.Proofs.YtnpnablnnfekkaaDoor
set_option linter.unusedVariables false
set_option linter.unusedSimpArgs false
namespace Go.Proofs.YtnpnablnnfekkaaDoor.PTr
open Go.RowKit Go.Proofs.YtnpnablnnfekkaaDoor Go.Proofs.YtnpnablnnfekkaaDoorW.PrintWords
/-- from some number of rounds on -/
def Evt {α : Type} (g : Nat → Option α) (r : α) : Prop := ∃ K, ∀ k, K ≤ k → g k = some r
theorem Evt.succ {α : Type} {g h : Nat → Option α} {r : α} (K : Nat) (he : ∀ k, K ≤ k → g (k + 1) = h k) (hh : Evt h r) : Evt g r := by
 obtain ⟨K2, hK⟩ := hh
 refine ⟨K + K2 + 1, fun k hk => ?_⟩
 obtain ⟨k, rfl⟩ : ∃ j, k = j + 1 := ⟨k - 1, by omega⟩
 rw [he k (by omega), hK k (by omega)]
theorem Evt.const {α : Type} {g : Nat → Option α} {r : α} (K : Nat) (he : ∀ k, K ≤ k → g (k + 1) = some r) : Evt g r := by
 refine ⟨K + 1, fun k hk => ?_⟩
 obtain ⟨k, rfl⟩ : ∃ j, k = j + 1 := ⟨k - 1, by omega⟩
 exact he k (by omega)
theorem evt_of_mono {α : Type} {g : Nat → Option α} {r : α} (hm : ∀ k, LeO (g k) (g (k + 1))) {k : Nat} (h : g k = some r) : Evt g r := by
 refine ⟨k, fun j hj => ?_⟩
 obtain ⟨d, rfl⟩ : ∃ d, j = k + d := ⟨j - k, by omega⟩
 clear hj
 induction d with
 | zero => exact h
 | succ d ih => exact hm (k + d) r ih
theorem place_in (l : List Nod) (a1 a2 a3 : Int) (hl : l.length ≤ 1000000000000) (hr : Rises l) (t : Nat) (ht : t < l.length) : Evt (fun k => tree_place.f k l a1 a2 a3 l[t].f0) ((t : Int), true) := by
 refine ⟨l.length + 1, fun k hk => ?_⟩
 obtain ⟨r, b, h1, h2, h3⟩ := place_any l a1 a2 a3 l[t].f0 hl hr k (by omega)
 cases b with
 | false => exact absurd rfl (h3 rfl l[t] (List.getElem_mem ht))
 | true =>
  obtain ⟨hrl, he⟩ := h2 rfl
  have : r = t := by
   rcases Nat.lt_trichotomy r t with h | h | h
   ·
    have := hr r t hrl ht h; omega
   ·
    exact h
   ·
    have := hr t r ht hrl h; omega
  subst this
  exact h1
theorem place_out (l : List Nod) (a1 a2 a3 id : Int) (hl : l.length ≤ 1000000000000) (hr : Rises l) (h : id ∉ idsL l) : ∃ r : Int, Evt (fun k => tree_place.f k l a1 a2 a3 id) (r, false) := by
 obtain ⟨r, b, h1, h2, h3⟩ := place_any l a1 a2 a3 id hl hr (l.length + 1) (by omega)
 cases b with
 | true =>
  obtain ⟨hrl, he⟩ := h2 rfl
  exact absurd (mem_ids.2 ⟨_, List.getElem_mem hrl, he⟩) h
 | false => exact ⟨r, evt_of_mono (fun k => tree_place.mono _ _ _ _ _ _) h1⟩
theorem gI_zero {m : MapD} {k : Int} : k ∉ m.map (·.1) → gI m k = 0 := fun h => by unfold gI; rw [getA_none.2 h]; rfl
def outcome (l : List Nod) (o : Option (List Int)) : Int := match o with
 | some ks => if ks.length = l.length then 0 else 80
 | none => 80
end Go.Proofs.YtnpnablnnfekkaaDoor.PTr
