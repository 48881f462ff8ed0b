/- Texts of this claim's proof: small lemmas, walks and plain laws (merged by wip/shake.py). -/
import Derived.Test.YtnpnablnnfekkaaDoorTeM0
import Derived.Test.YtnpnablnnfekkaaDoorTeM1
import Derived.Test.YtnpnablnnfekkaaDoorTeM2
import Derived.Test.YtnpnablnnfekkaaDoorTeM3
import Derived.Test.YtnpnablnnfekkaaDoorTeM4
import Derived.Test.YtnpnablnnfekkaaDoorTeM5
import Derived.ChangeArms
import Derived.ChangeSlices
import Derived.WideShapes
import Derived.SizedLaws
import Derived.OpenShut
import Derived.KernelRfl
namespace Go.Proofs.YtnpnablnnfekkaaDoor.PTr
open Go.RowKit Go.Proofs.YtnpnablnnfekkaaDoorW.PrintWords Go.Proofs.YtnpnablnnfekkaaDoorW.PrintLast Go.Proofs.YtnpnablnnfekkaaDoorW.PrintMore
attribute [local go_sem] max2_int min2_int max_two min_two max_three min_three max_four min_four   -- for this text's walks alone
set_option linter.unusedVariables false
set_option linter.unusedSimpArgs false
def rehearsalref04_Child.l0 : Nat → ByteArray → Int → Int → Int → Int → Int → Int → ByteArray → List (S61) → Option (Int)
 | 0, _, _, _, _, _, _, _, _, _ => none
 | k + 1, x1, x5, x335000, x335001, x335002, x335003, x335004, x335005, x335006 => if x5 < (x335006.length : Int) then (if 0 ≤ x5 then (if ((rd_T61 x335006 x5).f0).toList = x1.toList then (some ((rd_T61 x335006 x5).f1)) else (rehearsalref04_Child.l0 k x1 (wrap64 (x5 + 1)) x335000 x335001 x335002 x335003 x335004 x335005 x335006)) else (none)) else (some 0)
def rehearsalref04_Child.f (k : Nat) (a0_0 : Int) (a0_1 : Int) (a0_2 : Int) (a0_3 : Int) (a0_4 : Int) (a0_5 : ByteArray) (l0_6 : List (S61)) (a1 : ByteArray) : Option (Int) := rehearsalref04_Child.l0 k a1 0 a0_0 a0_1 a0_2 a0_3 a0_4 a0_5 l0_6
set_option maxHeartbeats 8000000 in
set_option maxRecDepth 100000 in
theorem rehearsalref04_Child.calls (k : Nat) (a0_0 : Int) (a0_1 : Int) (a0_2 : Int) (a0_3 : Int) (a0_4 : Int) (a0_5 : ByteArray) (A0_6 : Option Addr) (c0_6 : Nat) (l0_6 : List (S61)) (a1 : ByteArray) (r : Int) (w : World) (hr0_6 : Kd.C k61 w A0_6 l0_6.length l0_6) (hc0_6 : l0_6.length ≤ c0_6) (h : rehearsalref04_Child.f k a0_0 a0_1 a0_2 a0_3 a0_4 a0_5 l0_6 a1 = some r) :
  Calls Tryd.prog 29 #[.agg #[.int .i64 a0_0, .int .i64 a0_1, .int .i64 a0_2, .int .i64 a0_3, .int .i64 a0_4, .string a0_5, .slice A0_6 l0_6.length c0_6], .string a1] w fun e w' => e = .returned (.int .i64 r) ∧ Below w.heap.size w w' := by
 have hu44 := Tryd.underlying44
 have HR0_6 := Aside0.mk hr0_6
 have HC0_6 := Aside0.mk hc0_6
 clear hr0_6 hc0_6
 have HB := Aside0.mk (Below.refl w.heap.size w)
 have H : (rehearsalref04_Child.l0 k a1 0 a0_0 a0_1 a0_2 a0_3 a0_4 a0_5 l0_6) = some r := h
 clear h
 have H' := Aside0.mk H
 clear H
 go_enter Tryd.func29, Tryd.ntmps29
 go_wp2_with (first | ((with_reducible refine gate_dst (N := 2) rfl ?_); refine box_event ?hg (N := 2) ?hd (cs := #[.int .i64 a0_0, .int .i64 a0_1, .int .i64 a0_2, .int .i64 a0_3, .int .i64 a0_4, .string a0_5, .slice A0_6 l0_6.length c0_6]) (t := 44) ?hr ?_; (case hd => rfl); (case hg => rfl); (case hr => first | (go_simp; done) | (go_simp; rfl)); intro gb334 hg w3 hbox hb; have n0_ := Aside0.mk (below_step (by repeat (first | (with_reducible first | exact HB.out | apply below_alloc | apply pw_below_drewN | apply below_drew1) | exact HB.out)) hb); have n1_ := Aside0.mk (hbox); have n2_ := Aside0.mk ((by rw [hg]; exact (below_size (by repeat (first | (with_reducible first | exact HB.out | apply below_alloc | apply pw_below_drewN | apply below_drew1) | exact HB.out))) : w.heap.size ≤ gb334)); have n3_ := Aside0.mk ((by rw [hg]; exact (below_size (by repeat (first | (with_reducible first | exact HB.out | apply below_alloc | apply pw_below_drewN | apply below_drew1) | exact HB.out))) : w.heap.size ≤ gb334)); clear HB; have HB := n0_; have BK334 := n1_; have GW334 := n2_; have GE334 := n3_; clear n0_ n1_ n2_ n3_; clear hb hbox hg))
 go_loopg [5] k (fun kq v5 w' => ∃ (x5_1 : Int), v5 = .int .i64 x5_1 ∧ Aside0 (rehearsalref04_Child.l0 kq a1 x5_1 a0_0 a0_1 a0_2 a0_3 a0_4 a0_5 l0_6 = some r) ∧ Aside0 (kq ≤ k) ∧ Aside0 (w'.heap[gb334]? = some (.cells #[.int .i64 a0_0, .int .i64 a0_1, .int .i64 a0_2, .int .i64 a0_3, .int .i64 a0_4, .string a0_5, (.slice A0_6 l0_6.length c0_6)] 44 (0, 0))) ∧ Aside0 (Below w.heap.size w w'))
 case atStart => exact ⟨(0), (by first | rfl | (simp; done) | (simp [*]; done)), H', ⟨Nat.le_refl _⟩, ⟨by (with_reducible repeat (first | refine blk_drewN ?_ _ | refine blk_drew ?_ | refine blk_alloc ?_ _)); exact BK334.out⟩, ⟨by repeat (first | (with_reducible first | exact HB.out | apply below_alloc | apply pw_below_drewN | apply below_drew1 | refine below_set ?_ GE334.out) | exact HB.out)⟩⟩
 case round =>
  clear H'
  try clear c2
  try clear p2
  obtain ⟨x5_1, rfl, HA, HK1, BK334, HB⟩ := hrel
  cases gk with
  | zero => exact absurd HA.out (by simp [rehearsalref04_Child.l0])
  | succ k1 =>
   have H := HA.out
   clear HA
   simp only [rehearsalref04_Child.l0] at H
   by_cases c4 : x5_1 < (l0_6.length : Int)
   ·
    rw [if_pos c4] at H
    have c4b0 : decide (x5_1 < (l0_6.length : Int)) = true := decide_eq_true c4
    clear c4
    by_cases c5 : 0 ≤ x5_1
    ·
     rw [if_pos c5] at H
     have c5b0 : decide (0 ≤ x5_1) = true := decide_eq_true c5
     clear c5
     by_cases c6 : ((rd_T61 l0_6 x5_1).f0).toList = a1.toList
     ·
      rw [if_pos c6] at H
      have c6b0 : (((rd_T61 l0_6 x5_1).f0).toList == a1.toList) = true := beq_iff_eq.mpr c6
      have c6b1 : (((rd_T61 l0_6 x5_1).f0).toList != a1.toList) = false := bne_eq_false_iff_eq.mpr c6
      clear c6
      obtain rfl := Option.some.inj H
      have hcz7_0 : wr.cell? ⟨gb334, 0, none⟩ = some (.int .i64 a0_0) := (blk_cell BK334.out 0).trans rfl
      have hcz7_1 : wr.cell? ⟨gb334, 1, none⟩ = some (.int .i64 a0_1) := (blk_cell BK334.out 1).trans rfl
      have hcz7_2 : wr.cell? ⟨gb334, 2, none⟩ = some (.int .i64 a0_2) := (blk_cell BK334.out 2).trans rfl
      have hcz7_3 : wr.cell? ⟨gb334, 3, none⟩ = some (.int .i64 a0_3) := (blk_cell BK334.out 3).trans rfl
      have hcz7_4 : wr.cell? ⟨gb334, 4, none⟩ = some (.int .i64 a0_4) := (blk_cell BK334.out 4).trans rfl
      have hcz7_5 : wr.cell? ⟨gb334, 5, none⟩ = some (.string a0_5) := (blk_cell BK334.out 5).trans rfl
      have hcz7_6 : wr.cell? ⟨gb334, 6, none⟩ = some (.slice A0_6 l0_6.length c0_6) := (blk_cell BK334.out 6).trans rfl
      have hfz7_0 := blk_frozen BK334.out 0
      have hfz7_1 := blk_frozen BK334.out 1
      have hfz7_2 := blk_frozen BK334.out 2
      have hfz7_3 := blk_frozen BK334.out 3
      have hfz7_4 := blk_frozen BK334.out 4
      have hfz7_5 := blk_frozen BK334.out 5
      have hfz7_6 := blk_frozen BK334.out 6
      have p335 : 0 ≤ (x5_1 : Int) := of_decide_eq_true (by first | (with_reducible assumption) | assumption)
      have q335 : x5_1 < (l0_6.length : Int) := of_decide_eq_true (by first | (with_reducible assumption) | assumption)
      obtain ⟨ad335, e335, hx335_0, hx335_1⟩ := at_T61 HR0_6.out x5_1 p335 q335
      cases e335
      replace hx335_0 := (HB.out.cell (World.block_lt_of_cell? w _ hx335_0)).trans hx335_0
      replace hx335_1 := (HB.out.cell (World.block_lt_of_cell? w _ hx335_1)).trans hx335_1
      replace p335 := eq_true p335
      replace q335 := eq_true q335
      have p336 : 0 ≤ (x5_1 : Int) := of_decide_eq_true (by first | (with_reducible assumption) | assumption)
      have q336 : x5_1 < (l0_6.length : Int) := of_decide_eq_true (by first | (with_reducible assumption) | assumption)
      obtain ⟨ad336, e336, hx336_0, hx336_1⟩ := at_T61 HR0_6.out x5_1 p336 q336
      obtain rfl : ad335 = ad336 := (by injection e336)
      replace hx336_0 := (HB.out.cell (World.block_lt_of_cell? w _ hx336_0)).trans hx336_0
      replace hx336_1 := (HB.out.cell (World.block_lt_of_cell? w _ hx336_1)).trans hx336_1
      replace p336 := eq_true p336
      replace q336 := eq_true q336
      go_wp2
      go_ret
      exact ⟨by first | rfl | (simp [errW_none, errW_some] <;> rfl) | (simp [*, errW_none, errW_some] <;> rfl), by repeat (first | (with_reducible first | exact HB.out | apply below_alloc | apply pw_below_drewN | apply below_drew1 | refine below_set ?_ GE334.out) | exact HB.out)⟩
     ·
      rw [if_neg c6] at H
      have c6b0 : (((rd_T61 l0_6 x5_1).f0).toList == a1.toList) = false := beq_eq_false_iff_ne.mpr c6
      have c6b1 : (((rd_T61 l0_6 x5_1).f0).toList != a1.toList) = true := bne_iff_ne.mpr c6
      have H' := Aside0.mk H
      clear H
      have hcz8_0 : wr.cell? ⟨gb334, 0, none⟩ = some (.int .i64 a0_0) := (blk_cell BK334.out 0).trans rfl
      have hcz8_1 : wr.cell? ⟨gb334, 1, none⟩ = some (.int .i64 a0_1) := (blk_cell BK334.out 1).trans rfl
      have hcz8_2 : wr.cell? ⟨gb334, 2, none⟩ = some (.int .i64 a0_2) := (blk_cell BK334.out 2).trans rfl
      have hcz8_3 : wr.cell? ⟨gb334, 3, none⟩ = some (.int .i64 a0_3) := (blk_cell BK334.out 3).trans rfl
      have hcz8_4 : wr.cell? ⟨gb334, 4, none⟩ = some (.int .i64 a0_4) := (blk_cell BK334.out 4).trans rfl
      have hcz8_5 : wr.cell? ⟨gb334, 5, none⟩ = some (.string a0_5) := (blk_cell BK334.out 5).trans rfl
      have hcz8_6 : wr.cell? ⟨gb334, 6, none⟩ = some (.slice A0_6 l0_6.length c0_6) := (blk_cell BK334.out 6).trans rfl
      have hfz8_0 := blk_frozen BK334.out 0
      have hfz8_1 := blk_frozen BK334.out 1
      have hfz8_2 := blk_frozen BK334.out 2
      have hfz8_3 := blk_frozen BK334.out 3
      have hfz8_4 := blk_frozen BK334.out 4
      have hfz8_5 := blk_frozen BK334.out 5
      have hfz8_6 := blk_frozen BK334.out 6
      have p335 : 0 ≤ (x5_1 : Int) := of_decide_eq_true (by first | (with_reducible assumption) | assumption)
      have q335 : x5_1 < (l0_6.length : Int) := of_decide_eq_true (by first | (with_reducible assumption) | assumption)
      obtain ⟨ad335, e335, hx335_0, hx335_1⟩ := at_T61 HR0_6.out x5_1 p335 q335
      cases e335
      replace hx335_0 := (HB.out.cell (World.block_lt_of_cell? w _ hx335_0)).trans hx335_0
      replace hx335_1 := (HB.out.cell (World.block_lt_of_cell? w _ hx335_1)).trans hx335_1
      replace p335 := eq_true p335
      replace q335 := eq_true q335
      go_wp2
      go_roundg k1
      case measure => have := HK1.out; omega
      case rel => exact ⟨(wrap64 (x5_1 + 1)), (by first | rfl | (simp; done) | (simp [*]; done)), H', ⟨by have := HK1.out; omega⟩, ⟨by (with_reducible repeat (first | refine blk_drewN ?_ _ | refine blk_drew ?_ | refine blk_alloc ?_ _)); exact BK334.out⟩, ⟨by repeat (first | (with_reducible first | exact HB.out | apply below_alloc | apply pw_below_drewN | apply below_drew1 | refine below_set ?_ GE334.out) | exact HB.out)⟩⟩
    ·
     rw [if_neg c5] at H
     exact absurd H (by simp)
   ·
    rw [if_neg c4] at H
    have c4b0 : decide (x5_1 < (l0_6.length : Int)) = false := decide_eq_false c4
    clear c4
    obtain rfl := Option.some.inj H
    have hcz9_0 : wr.cell? ⟨gb334, 0, none⟩ = some (.int .i64 a0_0) := (blk_cell BK334.out 0).trans rfl
    have hcz9_1 : wr.cell? ⟨gb334, 1, none⟩ = some (.int .i64 a0_1) := (blk_cell BK334.out 1).trans rfl
    have hcz9_2 : wr.cell? ⟨gb334, 2, none⟩ = some (.int .i64 a0_2) := (blk_cell BK334.out 2).trans rfl
    have hcz9_3 : wr.cell? ⟨gb334, 3, none⟩ = some (.int .i64 a0_3) := (blk_cell BK334.out 3).trans rfl
    have hcz9_4 : wr.cell? ⟨gb334, 4, none⟩ = some (.int .i64 a0_4) := (blk_cell BK334.out 4).trans rfl
    have hcz9_5 : wr.cell? ⟨gb334, 5, none⟩ = some (.string a0_5) := (blk_cell BK334.out 5).trans rfl
    have hcz9_6 : wr.cell? ⟨gb334, 6, none⟩ = some (.slice A0_6 l0_6.length c0_6) := (blk_cell BK334.out 6).trans rfl
    have hfz9_0 := blk_frozen BK334.out 0
    have hfz9_1 := blk_frozen BK334.out 1
    have hfz9_2 := blk_frozen BK334.out 2
    have hfz9_3 := blk_frozen BK334.out 3
    have hfz9_4 := blk_frozen BK334.out 4
    have hfz9_5 := blk_frozen BK334.out 5
    have hfz9_6 := blk_frozen BK334.out 6
    go_wp2
    go_ret
    exact ⟨by first | rfl | (simp [errW_none, errW_some] <;> rfl) | (simp [*, errW_none, errW_some] <;> rfl), by repeat (first | (with_reducible first | exact HB.out | apply below_alloc | apply pw_below_drewN | apply below_drew1 | refine below_set ?_ GE334.out) | exact HB.out)⟩
end Go.Proofs.YtnpnablnnfekkaaDoor.PTr
namespace Go.Proofs.YtnpnablnnfekkaaDoor.PTr
open Go.RowKit Go.Proofs.YtnpnablnnfekkaaDoorW.PrintWords Go.Proofs.YtnpnablnnfekkaaDoorW.PrintLast Go.Proofs.YtnpnablnnfekkaaDoorW.PrintMore
attribute [local go_sem] max2_int min2_int max_two min_two max_three min_three max_four min_four   -- for this text's walks alone
set_option linter.unusedVariables false
set_option linter.unusedSimpArgs false
def rehearsalref04_Usage.l0 : Nat → Int → Int → List (S44) → Int → Int → Int → Option (Int × Int)
 | 0, _, _, _, _, _, _ => none
 | k + 1, x4, x5, x338000, x338001, x338002, x338003 => if x5 < (x338000.length : Int) then (if 0 ≤ x5 then (rehearsalref04_Usage.l0 k (wrap64 (x4 + (((rd_T44 x338000 x5).f5).size : Int))) (wrap64 (x5 + 1)) x338000 x338001 x338002 x338003) else (none)) else (some ((x338000.length : Int), x4))
def rehearsalref04_Usage.f (k : Nat) (l0_0 : List (S44)) (a0_1 : Int) (a0_2 : Int) (a0_3 : Int) : Option (Int × Int) := rehearsalref04_Usage.l0 k 0 0 l0_0 a0_1 a0_2 a0_3
set_option maxHeartbeats 8000000 in
set_option maxRecDepth 100000 in
theorem rehearsalref04_Usage.calls (k : Nat) (A0_0 : Option Addr) (c0_0 : Nat) (l0_0 : List (S44)) (a0_1 : Int) (a0_2 : Int) (a0_3 : Int) (r1 : Int) (r2 : Int) (w : World) (hr0_0 : Kd.C k44 w A0_0 l0_0.length l0_0) (hc0_0 : l0_0.length ≤ c0_0) (h : rehearsalref04_Usage.f k l0_0 a0_1 a0_2 a0_3 = some (r1, r2)) :
  Calls Tryd.prog 31 #[.agg #[.slice A0_0 l0_0.length c0_0, .int .i64 a0_1, .int .i64 a0_2, .int .i64 a0_3]] w fun e w' => e = .returned (.tuple #[.int .i64 r1, .int .i64 r2]) ∧ Below w.heap.size w w' := by
 have hu26 := Tryd.underlying26
 have HR0_0 := Aside0.mk hr0_0
 have HC0_0 := Aside0.mk hc0_0
 clear hr0_0 hc0_0
 have HB := Aside0.mk (Below.refl w.heap.size w)
 have H : (rehearsalref04_Usage.l0 k 0 0 l0_0 a0_1 a0_2 a0_3) = some (r1, r2) := h
 clear h
 have H' := Aside0.mk H
 clear H
 go_enter Tryd.func31, Tryd.ntmps31
 go_wp2_with (first | ((with_reducible refine gate_dst (N := 1) rfl ?_); refine box_event ?hg (N := 1) ?hd (cs := #[.slice A0_0 l0_0.length c0_0, .int .i64 a0_1, .int .i64 a0_2, .int .i64 a0_3]) (t := 26) ?hr ?_; (case hd => rfl); (case hg => rfl); (case hr => first | (go_simp; done) | (go_simp; rfl)); intro gb337 hg w2 hbox hb; have n0_ := Aside0.mk (below_step (by repeat (first | (with_reducible first | exact HB.out | apply below_alloc | apply pw_below_drewN | apply below_drew1) | exact HB.out)) hb); have n1_ := Aside0.mk (hbox); have n2_ := Aside0.mk ((by rw [hg]; exact (below_size (by repeat (first | (with_reducible first | exact HB.out | apply below_alloc | apply pw_below_drewN | apply below_drew1) | exact HB.out))) : w.heap.size ≤ gb337)); have n3_ := Aside0.mk ((by rw [hg]; exact (below_size (by repeat (first | (with_reducible first | exact HB.out | apply below_alloc | apply pw_below_drewN | apply below_drew1) | exact HB.out))) : w.heap.size ≤ gb337)); clear HB; have HB := n0_; have BK337 := n1_; have GW337 := n2_; have GE337 := n3_; clear n0_ n1_ n2_ n3_; clear hb hbox hg))
 go_loopg [4, 5] k (fun kq v4 v5 w' => ∃ (x4_1 : Int) (x5_1 : Int), v4 = .int .i64 x4_1 ∧ v5 = .int .i64 x5_1 ∧ Aside0 (rehearsalref04_Usage.l0 kq x4_1 x5_1 l0_0 a0_1 a0_2 a0_3 = some (r1, r2)) ∧ Aside0 (kq ≤ k) ∧ Aside0 (w'.heap[gb337]? = some (.cells #[(.slice A0_0 l0_0.length c0_0), .int .i64 a0_1, .int .i64 a0_2, .int .i64 a0_3] 26 (0, 0))) ∧ Aside0 (Below w.heap.size w w'))
 case atStart => exact ⟨(0), (0), (by first | rfl | (simp; done) | (simp [*]; done)), (by first | rfl | (simp; done) | (simp [*]; done)), H', ⟨Nat.le_refl _⟩, ⟨by (with_reducible repeat (first | refine blk_drewN ?_ _ | refine blk_drew ?_ | refine blk_alloc ?_ _)); exact BK337.out⟩, ⟨by repeat (first | (with_reducible first | exact HB.out | apply below_alloc | apply pw_below_drewN | apply below_drew1 | refine below_set ?_ GE337.out) | exact HB.out)⟩⟩
 case round =>
  clear H'
  try clear p2
  obtain ⟨x4_1, x5_1, rfl, rfl, HA, HK1, BK337, HB⟩ := hrel
  cases gk with
  | zero => exact absurd HA.out (by simp [rehearsalref04_Usage.l0])
  | succ k1 =>
   have H := HA.out
   clear HA
   simp only [rehearsalref04_Usage.l0] at H
   by_cases c3 : x5_1 < (l0_0.length : Int)
   ·
    rw [if_pos c3] at H
    have c3b0 : decide (x5_1 < (l0_0.length : Int)) = true := decide_eq_true c3
    clear c3
    by_cases c4 : 0 ≤ x5_1
    ·
     rw [if_pos c4] at H
     have c4b0 : decide (0 ≤ x5_1) = true := decide_eq_true c4
     clear c4
     have H' := Aside0.mk H
     clear H
     have hcz5_0 : wr.cell? ⟨gb337, 0, none⟩ = some (.slice A0_0 l0_0.length c0_0) := (blk_cell BK337.out 0).trans rfl
     have hcz5_1 : wr.cell? ⟨gb337, 1, none⟩ = some (.int .i64 a0_1) := (blk_cell BK337.out 1).trans rfl
     have hcz5_2 : wr.cell? ⟨gb337, 2, none⟩ = some (.int .i64 a0_2) := (blk_cell BK337.out 2).trans rfl
     have hcz5_3 : wr.cell? ⟨gb337, 3, none⟩ = some (.int .i64 a0_3) := (blk_cell BK337.out 3).trans rfl
     have hfz5_0 := blk_frozen BK337.out 0
     have hfz5_1 := blk_frozen BK337.out 1
     have hfz5_2 := blk_frozen BK337.out 2
     have hfz5_3 := blk_frozen BK337.out 3
     have p338 : 0 ≤ (x5_1 : Int) := of_decide_eq_true (by first | (with_reducible assumption) | assumption)
     have q338 : x5_1 < (l0_0.length : Int) := of_decide_eq_true (by first | (with_reducible assumption) | assumption)
     obtain ⟨ad338, A338_6, c338_6, e338, hx338_0, hx338_1, hx338_2, hx338_3, hx338_4, hx338_5, hx338_6, hl338_6, hi338_6⟩ := at_T44 HR0_0.out x5_1 p338 q338
     cases e338
     replace hx338_0 := (HB.out.cell (World.block_lt_of_cell? w _ hx338_0)).trans hx338_0
     replace hx338_1 := (HB.out.cell (World.block_lt_of_cell? w _ hx338_1)).trans hx338_1
     replace hx338_2 := (HB.out.cell (World.block_lt_of_cell? w _ hx338_2)).trans hx338_2
     replace hx338_3 := (HB.out.cell (World.block_lt_of_cell? w _ hx338_3)).trans hx338_3
     replace hx338_4 := (HB.out.cell (World.block_lt_of_cell? w _ hx338_4)).trans hx338_4
     replace hx338_5 := (HB.out.cell (World.block_lt_of_cell? w _ hx338_5)).trans hx338_5
     replace hx338_6 := (HB.out.cell (World.block_lt_of_cell? w _ hx338_6)).trans hx338_6
     have HR338_6 := Aside0.mk hi338_6
     have HC338_6 := Aside0.mk hl338_6
     clear hi338_6 hl338_6
     replace p338 := eq_true p338
     replace q338 := eq_true q338
     go_wp2
     go_roundg k1
     case measure => have := HK1.out; omega
     case rel => exact ⟨(wrap64 (x4_1 + (((rd_T44 l0_0 x5_1).f5).size : Int))), (wrap64 (x5_1 + 1)), (by first | rfl | (simp; done) | (simp [*]; done)), (by first | rfl | (simp; done) | (simp [*]; done)), H', ⟨by have := HK1.out; omega⟩, ⟨by (with_reducible repeat (first | refine blk_drewN ?_ _ | refine blk_drew ?_ | refine blk_alloc ?_ _)); exact BK337.out⟩, ⟨by repeat (first | (with_reducible first | exact HB.out | apply below_alloc | apply pw_below_drewN | apply below_drew1 | refine below_set ?_ GE337.out) | exact HB.out)⟩⟩
    ·
     rw [if_neg c4] at H
     exact absurd H (by simp)
   ·
    rw [if_neg c3] at H
    have c3b0 : decide (x5_1 < (l0_0.length : Int)) = false := decide_eq_false c3
    clear c3
    simp only [Option.some.injEq, Prod.mk.injEq] at H
    obtain ⟨rfl, rfl⟩ := H
    have hcz6_0 : wr.cell? ⟨gb337, 0, none⟩ = some (.slice A0_0 l0_0.length c0_0) := (blk_cell BK337.out 0).trans rfl
    have hcz6_1 : wr.cell? ⟨gb337, 1, none⟩ = some (.int .i64 a0_1) := (blk_cell BK337.out 1).trans rfl
    have hcz6_2 : wr.cell? ⟨gb337, 2, none⟩ = some (.int .i64 a0_2) := (blk_cell BK337.out 2).trans rfl
    have hcz6_3 : wr.cell? ⟨gb337, 3, none⟩ = some (.int .i64 a0_3) := (blk_cell BK337.out 3).trans rfl
    have hfz6_0 := blk_frozen BK337.out 0
    have hfz6_1 := blk_frozen BK337.out 1
    have hfz6_2 := blk_frozen BK337.out 2
    have hfz6_3 := blk_frozen BK337.out 3
    go_wp2
    go_ret2
    exact ⟨by first | rfl | (simp [errW_none, errW_some] <;> rfl) | (simp [*, errW_none, errW_some] <;> rfl), by repeat (first | (with_reducible first | exact HB.out | apply below_alloc | apply pw_below_drewN | apply below_drew1 | refine below_set ?_ GE337.out) | exact HB.out)⟩
end Go.Proofs.YtnpnablnnfekkaaDoor.PTr
set_option linter.unusedVariables false
set_option linter.unusedSimpArgs false
namespace Go.Proofs.YtnpnablnnfekkaaDoor.PTr
open Go.RowKit Go.Proofs.YtnpnablnnfekkaaDoor Go.Proofs.YtnpnablnnfekkaaDoorW.PrintWords
theorem u8_tri {a b : UInt8} (h : ¬ a < b) (h2 : ¬ b < a) : a = b := UInt8.toNat_inj.1 (by have h3 : ¬ a.toNat < b.toNat := h; have h4 : ¬ b.toNat < a.toNat := h2; omega)
theorem u8_irr (a : UInt8) : ¬ a < a := fun h => Nat.lt_irrefl a.toNat h
theorem cb_less : ∀ a b : List UInt8, (Lib.compareBytes a b < 0) ↔ Op.bytesLess a b = true
 | [], [] => by simp [Lib.compareBytes, Op.bytesLess]
 | [], _ :: _ => by simp [Lib.compareBytes, Op.bytesLess]
 | _ :: _, [] => by simp [Lib.compareBytes, Op.bytesLess]
 | a :: x, b :: y => by
  have ih := cb_less x y
  simp only [Lib.compareBytes, Op.bytesLess]
  by_cases h : a < b
  ·
   simp [h]
  ·
   by_cases h2 : b < a
   ·
    have : (a == b) = false := beq_eq_false_iff_ne.2 (fun e => by subst e; exact h h2)
    simp [h, h2, this]
   ·
    have e := u8_tri h h2
    subst e
    rw [if_neg h, if_neg h, ih]; simp [h]
theorem cb_zero : ∀ a b : List UInt8, Lib.compareBytes a b = 0 ↔ a = b
 | [], [] => by simp [Lib.compareBytes]
 | [], _ :: _ => by simp [Lib.compareBytes]
 | _ :: _, [] => by simp [Lib.compareBytes]
 | a :: x, b :: y => by
  have ih := cb_zero x y
  simp only [Lib.compareBytes]
  by_cases h : a < b
  ·
   have : a ≠ b := fun e => by subst e; exact u8_irr _ h
   simp [h, this]
  ·
   by_cases h2 : b < a
   ·
    have : a ≠ b := fun e => by subst e; exact u8_irr _ h2
    simp [h, h2, this]
   ·
    have e := u8_tri h h2
    subst e
    rw [if_neg h, if_neg h, ih]; simp
theorem less_irr : ∀ a : List UInt8, Op.bytesLess a a = false
 | [] => rfl
 | a :: x => by simp [Op.bytesLess, less_irr x]
theorem less_trans : ∀ a b c : List UInt8, Op.bytesLess a b = true → Op.bytesLess b c = true → Op.bytesLess a c = true
 | _, _, [] => by intro _ h; simp [Op.bytesLess] at h
 | _, [], _ :: _ => by intro h; simp [Op.bytesLess] at h
 | [], _ :: _, _ :: _ => by intro _ _; rfl
 | a :: x, b :: y, c :: z => by
  intro h1 h2
  have ih := less_trans x y z
  simp only [Op.bytesLess, Bool.or_eq_true, Bool.and_eq_true, decide_eq_true_eq, beq_iff_eq] at h1 h2 ⊢
  rcases h1 with h1 | ⟨rfl, h1⟩
  ·
   rcases h2 with h2 | ⟨rfl, h2⟩
   ·
    exact .inl (Nat.lt_trans (show a.toNat < b.toNat from h1) h2)
   ·
    exact .inl h1
  ·
   rcases h2 with h2 | ⟨rfl, h2⟩
   ·
    exact .inl h2
   ·
    exact .inr ⟨rfl, ih h1 h2⟩
/-- the names rise -/
def Ordered (es : List Ent) : Prop := ∀ (i j : Nat) (hi : i < es.length) (hj : j < es.length), i < j → Op.bytesLess es[i].f0.data.toList es[j].f0.data.toList = true
theorem ordered_of {es : List Ent} (h : entsB es = true) : Ordered es := by
 have step : ∀ (i : Nat) (hi : i + 1 < es.length), Op.bytesLess es[i].f0.data.toList es[i + 1].f0.data.toList = true := by
  intro i hi
  have := List.all_eq_true.1 h (i + 1) (List.mem_range.2 hi)
  unfold entAt at this
  rw [Bool.and_eq_true, Bool.or_eq_true, decide_eq_true_eq, Nat.add_sub_cancel, rdE _ i (by omega), rdE _ (i + 1) hi, toList_data, toList_data] at this
  rcases this.2 with h' | h'
  ·
   omega
  ·
   exact h'
 intro i j hi hj hij
 obtain ⟨d, rfl⟩ : ∃ d, j = i + 1 + d := ⟨j - i - 1, by omega⟩
 clear hij
 induction d with
 | zero => exact step i hj
 | succ d ih => exact less_trans _ _ _ (ih (by omega)) (step (i + 1 + d) hj)
theorem child_l0 (es : List Ent) (nm : ByteArray) (hl : es.length ≤ 1000000000000000) (hr : Ordered es) : ∀ (d k i j : Nat), j - i ≤ d → d < k → i ≤ j → j ≤ es.length →
  (∀ t (h : t < es.length), t < i → Op.bytesLess es[t].f0.data.toList nm.data.toList = true) → (∀ t (h : t < es.length), j ≤ t → ¬ Op.bytesLess es[t].f0.data.toList nm.data.toList = true) →
  ∃ (r : Nat) (b : Bool), api_Entry_string.l0 k es nm (es.length : Int) (i : Int) (j : Int) = some ((r : Int), b) ∧ (b = true → ∃ h : r < es.length, es[r].f0.data.toList = nm.data.toList) ∧ (b = false → ∀ x ∈ es, x.f0.data.toList ≠ nm.data.toList) := by
 intro d
 induction d with
 | zero =>
  intro k i j hd hk hij hj h1 h2
  obtain ⟨k, rfl⟩ : ∃ q, k = q + 1 := ⟨k - 1, by omega⟩
  have : i = j := by omega
  subst this
  have hne : ∀ t (h : t < es.length), t < i → es[t].f0.data.toList ≠ nm.data.toList := fun t ht hti e => by
   have := h1 t ht hti
   rw [e, less_irr] at this; cases this
  unfold api_Entry_string.l0
  rw [if_neg (by omega)]
  by_cases hi : i < es.length
  ·
   rw [if_pos (by omega), if_pos (by omega), if_pos (by omega), rdE es i hi]
   unfold tree_Child_1.f strings_Compare.f
   simp only [Option.bind_some]
   refine ⟨i, _, rfl, fun h => ⟨hi, (cb_zero _ _).1 (beq_iff_eq.1 h)⟩, fun h x hx e => ?_⟩
   obtain ⟨t, ht, rfl⟩ := List.getElem_of_mem hx
   rcases Nat.lt_trichotomy t i with h4 | h4 | h4
   ·
    exact hne t ht h4 e
   ·
    subst h4
    rw [(cb_zero _ _).2 e] at h; simp at h
   ·
    have := hr i t hi ht h4
    rw [e] at this
    exact h2 i hi (Nat.le_refl _) this
  ·
   rw [if_neg (by omega)]
   refine ⟨i, _, rfl, fun h => by simp at h, fun _ x hx e => ?_⟩
   obtain ⟨t, ht, rfl⟩ := List.getElem_of_mem hx
   exact hne t ht (by omega) e
 | succ d ih =>
  intro k i j hd hk hij hj h1 h2
  by_cases hlt : i < j
  ·
   obtain ⟨k, rfl⟩ : ∃ q, k = q + 1 := ⟨k - 1, by omega⟩
   have hm : wrap64 ((IntKind.u64.wrap (wrap64 ((i : Int) + (j : Int)))) / 2) = (((i + j) / 2 : Nat) : Int) := by
    rw [show wrap64 ((i : Int) + (j : Int)) = ((i + j : Nat) : Int) from by unfold wrap64; omega]
    rw [show IntKind.u64.wrap ((i + j : Nat) : Int) = ((i + j : Nat) : Int) from by rw [IntKind.wrap_u64]; omega]
    unfold wrap64; omega
   have hml : (i + j) / 2 < es.length := by omega
   unfold api_Entry_string.l0
   rw [if_pos (by omega), hm, if_pos (by omega), if_pos (by omega), rdE es _ hml]
   unfold tree_Child_1.f strings_Compare.f
   simp only [Option.bind_some]
   by_cases hc : Lib.compareBytes es[(i + j) / 2].f0.data.toList nm.data.toList < 0
   ·
    rw [if_pos hc, show wrap64 ((((i + j) / 2 : Nat) : Int) + 1) = (((i + j) / 2 + 1 : Nat) : Int) from by unfold wrap64; omega]
    have hcl := (cb_less _ _).1 hc
    refine ih k _ j (by omega) (by omega) (by omega) hj (fun t ht htm => ?_) h2
    rcases Nat.lt_or_ge t ((i + j) / 2) with h4 | h4
    ·
     exact less_trans _ _ _ (hr t _ ht hml h4) hcl
    ·
     have : t = (i + j) / 2 := by omega
     subst this; exact hcl
   ·
    rw [if_neg hc]
    have hcl : ¬ Op.bytesLess es[(i + j) / 2].f0.data.toList nm.data.toList = true := fun h => hc ((cb_less _ _).2 h)
    refine ih k i _ (by omega) (by omega) (by omega) (by omega) h1 (fun t ht htm => ?_)
    rcases Nat.lt_or_ge ((i + j) / 2) t with h4 | h4
    ·
     exact fun h => hcl (less_trans _ _ _ (hr _ t hml ht h4) h)
    ·
     have : t = (i + j) / 2 := by omega
     subst this; exact hcl
  ·
   have : i = j := by omega
   subst this
   exact ih k i i (by omega) (by omega) (Nat.le_refl _) hj h1 h2
/-- the number a name leads to, 0 where there is none -/
def chd (es : List Ent) (nm : ByteArray) : Int := ((es.find? fun e => e.f0.data.toList = nm.data.toList).map (·.f1)).getD 0
theorem rchild_l0 (x0 x1 x2 x3 x4 : Int) (x5 : ByteArray) (es : List Ent) (nm : ByteArray) (hl : es.length ≤ 1000000000000000) : ∀ (d i : Nat), i + d = es.length → (∀ q (h : q < es.length), q < i → es[q].f0.data.toList ≠ nm.data.toList) → Evt (fun k => rehearsalref04_Child.l0 k nm (i : Int) x0 x1 x2 x3 x4 x5 es) (chd es nm) := by
 intro d
 induction d with
 | zero =>
  intro i h hp
  refine Evt.const 0 (fun k _ => ?_)
  simp only [rehearsalref04_Child.l0]
  rw [if_neg (by omega)]
  have : es.find? (fun e => decide (e.f0.data.toList = nm.data.toList)) = none := by
   rw [List.find?_eq_none]
   intro x hx
   obtain ⟨q, hq, rfl⟩ := List.getElem_of_mem hx
   simpa using hp q hq (by omega)
  unfold chd; rw [this]; rfl
 | succ d ih =>
  intro i h hp
  have hi : i < es.length := by omega
  by_cases he : es[i].f0.data.toList = nm.data.toList
  ·
   refine Evt.const 0 (fun k _ => ?_)
   simp only [rehearsalref04_Child.l0]
   rw [if_pos (by omega), if_pos (by omega), rdE es i hi, toList_data, toList_data, if_pos he]
   have : es.find? (fun e => decide (e.f0.data.toList = nm.data.toList)) = some es[i] := by
    rw [List.find?_eq_some_iff_getElem]
    exact ⟨by simpa using he, i, hi, rfl, fun j hj => by simpa using hp j (by omega) hj⟩
   unfold chd; rw [this]; rfl
  ·
   refine Evt.succ 0 (fun k _ => ?_) (ih (i + 1) (by omega) (fun q hq hqi => ?_))
   ·
    simp only [rehearsalref04_Child.l0]
    rw [if_pos (by omega), if_pos (by omega), rdE es i hi, toList_data, toList_data, if_neg he, show wrap64 ((i : Int) + 1) = ((i + 1 : Nat) : Int) from by unfold wrap64; omega]
   ·
    by_cases e : q = i
    ·
     subst e; exact he
    ·
     exact hp q hq (by omega)
theorem rchild_ev (x0 x1 x2 x3 x4 : Int) (x5 : ByteArray) (es : List Ent) (nm : ByteArray) (hl : es.length ≤ 1000000000000000) : Evt (fun k => rehearsalref04_Child.f k x0 x1 x2 x3 x4 x5 es nm) (chd es nm) :=
 rchild_l0 x0 x1 x2 x3 x4 x5 es nm hl es.length 0 (by omega) (fun q _ h => by omega)
theorem pchild_ev (x0 x1 x2 x3 x4 : Int) (x5 : ByteArray) (es : List Ent) (nm : ByteArray) (hl : es.length ≤ 1000000000000000) (hr : Ordered es) (hp : ∀ e ∈ es, 0 < e.f1) : Evt (fun k => tree_Child.f k x0 x1 x2 x3 x4 x5 es nm) (chd es nm, decide (chd es nm > 0)) := by
 refine ⟨es.length + 1, fun k hk => ?_⟩
 obtain ⟨r, b, h1, h2, h3⟩ := child_l0 es nm hl hr es.length k 0 es.length (by omega) (by omega) (by omega) (Nat.le_refl _) (fun t _ h => absurd h (by omega)) (fun t ht h => absurd h (by omega))
 show tree_Child.f k x0 x1 x2 x3 x4 x5 es nm = _
 unfold tree_Child.f api_Entry_string.f
 rw [show (0 : Int) = ((0 : Nat) : Int) from rfl, h1, Option.bind_some]
 cases b with
 | true =>
  obtain ⟨hrl, he⟩ := h2 rfl
  have hf : es.find? (fun e => decide (e.f0.data.toList = nm.data.toList)) = some es[r] := by
   rw [List.find?_eq_some_iff_getElem]
   refine ⟨by simpa using he, r, hrl, rfl, fun j hj => ?_⟩
   have := hr j r (by omega) hrl hj
   simp only [Bool.not_eq_eq_eq_not, Bool.not_true, decide_eq_false_iff_not]
   intro e
   rw [e, he, less_irr] at this; cases this
  have hc : chd es nm = es[r].f1 := by unfold chd; rw [hf]; rfl
  have := hp _ (List.getElem_mem hrl)
  rw [if_pos rfl, if_pos (by show ((0 : Nat) : Int) ≤ (r : Int); omega), if_pos (by show (r : Int) < _; omega), rdE es r hrl, hc]
  rw [decide_eq_true (show es[r].f1 > ((0 : Nat) : Int) from this)]
 | false =>
  have hf : es.find? (fun e => decide (e.f0.data.toList = nm.data.toList)) = none := by
   rw [List.find?_eq_none]
   intro x hx
   simpa using h3 rfl x hx
  have hc : chd es nm = 0 := by unfold chd; rw [hf]; rfl
  rw [if_neg (by simp), hc]; rfl
def nodT (x : Nod) (b : Bool) : Int × Int × Int × Int × Int × ByteArray × List Ent × Bool := (x.f0, x.f1, x.f2, x.f3, x.f4, x.f5, x.f6, b)
def noNod : Nod := ⟨0, 0, 0, 0, 0, (⟨#[]⟩ : ByteArray), []⟩
theorem get_ev (l : List Nod) (a1 a2 a3 id : Int) (hl : l.length ≤ 512) (hr : Rises l) (hb : ∀ x ∈ l, x.f6.length ≤ 1000000000000) :
  ∃ x b, Evt (fun k => tree_Get.f k l a1 a2 a3 id) (nodT x b) ∧ Evt (fun k => rehearsalref04_Get.f k l a1 a2 a3 id) (nodT x b) ∧ ((b = true ∧ x ∈ l ∧ x.f0 = id) ∨ (b = false ∧ x = noNod ∧ id ∉ idsL l)) := by
 by_cases h : id ∈ idsL l
 ·
  obtain ⟨x, hx, rfl⟩ := mem_ids.1 h
  obtain ⟨t, ht, rfl⟩ := List.getElem_of_mem hx
  refine ⟨l[t], true, ⟨l.length + 1, fun k hk => ?_⟩, ⟨l.length + 1, fun k hk => ?_⟩, .inl ⟨rfl, hx, rfl⟩⟩
  ·
   obtain ⟨r, b, h1, h2, h3⟩ := place_any l a1 a2 a3 l[t].f0 (by omega) hr k (by omega)
   cases b with
   | false => exact absurd rfl (h3 rfl _ hx)
   | true =>
    obtain ⟨hrl, he⟩ := h2 rfl
    have : r = t := by
     rcases Nat.lt_trichotomy r t with h4 | h4 | h4
     ·
      have := hr r t hrl ht h4; omega
     ·
      exact h4
     ·
      have := hr t r ht hrl h4; omega
    subst this
    show tree_Get.f k l a1 a2 a3 _ = _
    unfold tree_Get.f
    rw [h1, Option.bind_some, if_pos rfl, if_pos (by show (0 : Int) ≤ (r : Int); omega), if_pos (by show (r : Int) < _; omega), rdN l r ht]
    unfold api_Entry_65.f
    rw [if_pos (hb _ hx)]; rfl
  ·
   show rehearsalref04_Get.f k l a1 a2 a3 _ = _
   unfold rehearsalref04_Get.f
   rw [place_ref l a1 a2 a3 _ (by omega) k (by omega), pl_in hr t ht, Option.bind_some, if_neg (by omega), if_pos (by omega), if_pos (by omega), rdN l t ht]; rfl
 ·
  refine ⟨noNod, false, ⟨l.length + 1, fun k hk => ?_⟩, ⟨l.length + 1, fun k hk => ?_⟩, .inr ⟨rfl, rfl, h⟩⟩
  ·
   obtain ⟨r, b, h1, h2, h3⟩ := place_any l a1 a2 a3 id (by omega) hr k (by omega)
   cases b with
   | true =>
    obtain ⟨hrl, he⟩ := h2 rfl
    exact absurd (mem_ids.2 ⟨_, List.getElem_mem hrl, he⟩) h
   | false =>
    show tree_Get.f k l a1 a2 a3 _ = _
    unfold tree_Get.f
    rw [h1, Option.bind_some, if_neg (by simp)]; rfl
  ·
   show rehearsalref04_Get.f k l a1 a2 a3 _ = _
   unfold rehearsalref04_Get.f
   rw [place_ref l a1 a2 a3 _ (by omega) k (by omega), pl_out h, Option.bind_some, if_pos (by omega)]; rfl
theorem usage_l0 (l : List Nod) (a1 a2 a3 : Int) (hl : l.length ≤ 1000000000000) : ∀ (d i : Nat) (m : Int), i + d = l.length →
  ∃ r, Evt (fun k => tree_Usage.l0 k m l (l.length : Int) (i : Int) l a1 a2 a3) ((l.length : Int), r) ∧ Evt (fun k => rehearsalref04_Usage.l0 k m (i : Int) l a1 a2 a3) ((l.length : Int), r) := by
 intro d
 induction d with
 | zero =>
  intro i m h
  exact ⟨m, Evt.const 0 (fun k _ => by simp only [tree_Usage.l0]; rw [if_neg (by omega)]), Evt.const 0 (fun k _ => by simp only [rehearsalref04_Usage.l0]; rw [if_neg (by omega)])⟩
 | succ d ih =>
  intro i m h
  have hi : i < l.length := by omega
  have hw : wrap64 ((i : Int) + 1) = ((i + 1 : Nat) : Int) := by unfold wrap64; omega
  obtain ⟨r, h1, h2⟩ := ih (i + 1) (wrap64 (m + ((l[i].f5).size : Int))) (by omega)
  refine ⟨r, Evt.succ 0 (fun k _ => ?_) h1, Evt.succ 0 (fun k _ => ?_) h2⟩
  ·
   simp only [tree_Usage.l0]
   rw [if_pos (by omega), if_pos (by omega), if_pos (by omega), rdN l i hi, hw]
  ·
   simp only [rehearsalref04_Usage.l0]
   rw [if_pos (by omega), if_pos (by omega), rdN l i hi, hw]
theorem tlinks_l1 (l : List Nod) (id : Int) (hl : l.length ≤ 512) (i : Nat) (hi : i < l.length) (es : List Ent) (hb : es.length ≤ 140737488351232) (r : Int) :
  ∀ (d q n : Nat), q + d = es.length → n + d ≤ 1000000000000000000 → Evt (fun k => tree_Links.l0 k id ((n + ((es.drop q).map (·.f1)).count id : Nat) : Int) l (l.length : Int) ((i + 1 : Nat) : Int)) r → Evt (fun k => tree_Links.l1 k id (n : Int) l (l.length : Int) (i : Int) es (es.length : Int) (q : Int)) r := by
 intro d
 induction d with
 | zero =>
  intro q n h hn hE
  rw [List.drop_of_length_le (by omega)] at hE
  refine Evt.succ 0 (fun k _ => ?_) hE
  simp only [tree_Links.l1]
  rw [if_neg (by omega), show wrap64 ((i : Int) + 1) = ((i + 1 : Nat) : Int) from by unfold wrap64; omega]
  rfl
 | succ d ih =>
  intro q n h hn hE
  have hq : q < es.length := by omega
  have hs : ∀ k, tree_Links.l1 (k + 1) id (n : Int) l (l.length : Int) (i : Int) es (es.length : Int) (q : Int) = tree_Links.l1 k id ((n + (if es[q].f1 = id then 1 else 0) : Nat) : Int) l (l.length : Int) (i : Int) es (es.length : Int) ((q + 1 : Nat) : Int) := by
   intro k
   simp only [tree_Links.l1]
   rw [if_pos (by omega), if_pos (by omega), if_pos (by omega), rdE _ q hq, show wrap64 ((q : Int) + 1) = ((q + 1 : Nat) : Int) from by unfold wrap64; omega]
   by_cases he : es[q].f1 = id
   ·
    rw [if_pos he, if_pos he, show wrap64 ((n : Int) + 1) = ((n + 1 : Nat) : Int) from by unfold wrap64; omega]
   ·
    rw [if_neg he, if_neg he]; rfl
  refine Evt.succ 0 (fun k _ => hs k) (ih (q + 1) _ (by omega) (by split <;> omega) ?_)
  rw [List.drop_eq_getElem_cons hq, List.map_cons, List.count_cons] at hE
  have e : n + (((es.drop (q + 1)).map (·.f1)).count id + if (es[q].f1 == id) = true then 1 else 0) = n + (if es[q].f1 = id then 1 else 0) + ((es.drop (q + 1)).map (·.f1)).count id := by
   by_cases he : es[q].f1 = id <;> simp [he] <;> omega
  rw [e] at hE
  exact hE
theorem tlinks_l0 (l : List Nod) (id : Int) (hl : l.length ≤ 512) (hb : ∀ x ∈ l, x.f6.length ≤ 140737488351232) :
  ∀ (d i n : Nat), i + d = l.length → n + d * 140737488351232 ≤ 1000000000000000000 → Evt (fun k => tree_Links.l0 k id (n : Int) l (l.length : Int) (i : Int)) ((n + lk (l.drop i) id : Nat) : Int) := by
 intro d
 induction d with
 | zero =>
  intro i n h hn
  refine Evt.const 0 (fun k _ => ?_)
  simp only [tree_Links.l0]
  rw [if_neg (by omega), List.drop_of_length_le (by omega)]; rfl
 | succ d ih =>
  intro i n h hn
  have hi : i < l.length := by omega
  have hbi := hb l[i] (List.getElem_mem hi)
  have hc : (l[i].f6.map (·.f1)).count id ≤ l[i].f6.length := by have := List.count_le_length (a := id) (l := l[i].f6.map (·.f1)); rwa [List.length_map] at this
  refine Evt.succ (h := fun k => tree_Links.l1 k id (n : Int) l (l.length : Int) (i : Int) l[i].f6 (l[i].f6.length : Int) ((0 : Nat) : Int)) 0 (fun k _ => ?_) (tlinks_l1 l id hl i hi l[i].f6 hbi _ l[i].f6.length 0 n (by omega) (by omega) ?_)
  ·
   simp only [tree_Links.l0]
   rw [if_pos (by omega), if_pos (by omega), if_pos (by omega), rdN l i hi]; rfl
  ·
   rw [List.drop_zero]
   have := ih (i + 1) (n + (l[i].f6.map (·.f1)).count id) (by omega) (by omega)
   rw [List.drop_eq_getElem_cons hi]
   have e : n + lk (l[i] :: l.drop (i + 1)) id = n + (l[i].f6.map (·.f1)).count id + lk (l.drop (i + 1)) id := by simp only [lk, List.map_cons, List.sum_cons]; omega
   rw [e]
   exact this
theorem tlinks_ev (l : List Nod) (a1 a2 a3 id : Int) (hl : l.length ≤ 512) (hb : ∀ x ∈ l, x.f6.length ≤ 140737488351232) : Evt (fun k => tree_Links.f k l a1 a2 a3 id) (lk l id : Int) := by
 have := tlinks_l0 l id hl hb l.length 0 0 (by omega) (by omega)
 rw [List.drop_zero, Nat.zero_add] at this
 exact this
theorem ents_of_plain {x : Nod} (h : plainB x = true) : entsB x.f6 = true := by
 unfold plainB at h
 simp only [Bool.and_eq_true] at h
 have h3 := h.2
 split at h3
 ·
  simp only [Bool.and_eq_true] at h3; exact h3.2
 ·
  have h0 : x.f6 = [] := by
   split at h3
   ·
    simp only [Bool.and_eq_true, decide_eq_true_eq] at h3; exact List.eq_nil_of_length_eq_zero (by omega)
   ·
    split at h3
    ·
     simp only [Bool.and_eq_true, decide_eq_true_eq] at h3; exact List.eq_nil_of_length_eq_zero (by omega)
    ·
     cases h3
  rw [h0]; rfl
theorem plain_all {l : List Nod} {a1 : Int} (h : nodesOK l a1 = true) : ∀ y ∈ l, plainB y = true := fun y hy => by
 obtain ⟨i, hi, rfl⟩ := List.getElem_of_mem hy
 have := List.all_eq_true.1 h i (List.mem_range.2 hi)
 unfold nodeAt at this
 rw [Bool.and_eq_true, Bool.and_eq_true, rdN l i hi] at this
 exact this.1.1
theorem ids_pos {l : List Nod} (hh : headOK l = true) (hr : Rises l) : ∀ a ∈ idsL l, 0 < a := by
 intro a ha
 obtain ⟨x, hx, rfl⟩ := mem_ids.1 ha
 obtain ⟨i, hi, rfl⟩ := List.getElem_of_mem hx
 obtain ⟨h0, e0, _⟩ := one_in hh
 by_cases hz : i = 0
 ·
  subst hz; omega
 ·
  have := hr 0 i h0 hi (by omega); omega
end Go.Proofs.YtnpnablnnfekkaaDoor.PTr
set_option linter.unusedVariables false
set_option linter.unusedSimpArgs false
namespace Go.Proofs.YtnpnablnnfekkaaDoor
open Go Go.RowKit Go.ChangeShapes Go.WideShapes Go.Proofs.YtnpnablnnfekkaaDoorW.PrintWords
def Opens (P : Program) {α : Type} (d : Kd α) (t : TypeId) (B : α → Prop) : Prop :=
 ∀ {H : Type} {enc : TypeId × Value → H} {w : World} {base : Nat} {spare : Nat → Bool} {held : Bool} {fuel : Nat} {cs : List Value} {y : DataW H × List MemPlace},
  DataW.trod enc P w base spare held fuel t cs = some y → (∀ n ∈ y.1.weights P t, n ≤ reachBytes) → ∃ x, d.K w x cs ∧ B x
theorem opens_int {P : Program} {t : TypeId} {k : IntKind} (ht : P.underlying t = some (.int k)) : Opens P (Kd.int k) t (fun n => (Lit.int k n).wf = true) := by
 intro H enc w base spare held fuel cs y h _
 obtain ⟨n, rfl, _, hw⟩ := DataW.trod_int ht h
 exact ⟨n, rfl, hw⟩
theorem opens_string {P : Program} {t : TypeId} (ht : P.underlying t = some .string) : Opens P Kd.string t (fun s => s.size ≤ reachBytes) := by
 intro H enc w base spare held fuel cs y h hz
 obtain ⟨s, rfl, rfl, _⟩ := DataW.trod_string ht h
 refine ⟨s, rfl, ?_⟩
 have := hz s.data.toList.length (by simp [DataW.weights])
 rwa [Array.length_toList] at this
theorem mem_wAll {H : Type} {P : Program} {e : TypeId} {l : List (DataW H)} {d : DataW H} (hd : d ∈ l) {n : Nat} (hn : n ∈ d.weights P e) : n ∈ DataW.weightsAll P e l := by
 induction l with
 | nil => cases hd
 | cons x r ih =>
  simp only [DataW.weightsAll, List.mem_append]
  rcases List.mem_cons.1 hd with h | h
  ·
   subst h; exact .inl hn
  ·
   exact .inr (ih h)
theorem pick {α : Type} {Q : Nat → α → Prop} : ∀ (n : Nat), (∀ i, i < n → ∃ x, Q i x) → ∃ xs : List α, xs.length = n ∧ ∀ i x, xs[i]? = some x → Q i x := by
 intro n
 induction n with
 | zero => intro _; exact ⟨[], rfl, fun i x h => by simp at h⟩
 | succ n ih =>
  intro h
  obtain ⟨xs, hl, hx⟩ := ih (fun i hi => h i (by omega))
  obtain ⟨x, hq⟩ := h n (by omega)
  refine ⟨xs ++ [x], by simp [hl], fun i y hy => ?_⟩
  by_cases hi : i < n
  ·
   rw [List.getElem?_append_left (by omega)] at hy; exact hx i y hy
  ·
   have : i < (xs ++ [x]).length := (List.getElem?_eq_some_iff.1 hy).1
   simp only [List.length_append, List.length_cons, List.length_nil] at this
   have hi2 : i = n := by omega
   subst hi2
   rw [List.getElem?_append_right (by omega)] at hy
   simp [hl] at hy
   subst hy; exact hq
theorem opens_slice {P : Program} {α : Type} {d : Kd α} {B : α → Prop} {t e : TypeId} (q : Nat) (ht : P.underlying t = some (.slice e)) (hd : Opens P d e B) (hc : P.cellsOf e = d.sz) :
  Opens P (Kd.slice q d) t (fun xs => xs.length * P.bytesOf e ≤ reachBytes ∧ xs.length ≤ 9223372036854775807 ∧ ∀ x ∈ xs, B x) := by
 intro H enc w base spare held fuel cs y h hz
 rcases DataW.trod_slice ht h with ⟨rfl, rfl⟩ | ⟨a, len, cap, elems, rest, n, _, rfl, rfl, hb, hl, hm, hlen, hel, hsp, hns⟩
 ·
  exact ⟨[], ⟨none, 0, rfl, Nat.le_refl _, rfl, by simp, fun h => absurd h (by simp)⟩, by simp, by simp, fun x hx => by cases hx⟩
 ·
  have hmax : len ≤ 9223372036854775807 := Nat.le_trans (Nat.le_trans hl hm) (by unfold maxLen; decide)
  have hzz : ∀ n ∈ (elems.length + rest.length) * P.bytesOf e :: (DataW.weightsAll P e (elems.map (·.1)) ++ DataW.weightsAll P e (rest.map (·.1))), n ≤ reachBytes := by
   intro n hn
   refine hz n ?_
   simp only [DataW.weights, ht, List.length_map]
   exact hn
  have each : ∀ i, i < len → ∃ x, ∃ c : List Value, c.length = d.sz ∧ d.K w x c ∧ B x ∧ ∀ k u, c[k]? = some u → w.cell? (a.add (i * d.sz + k)) = some u := by
   intro i hi
   have h1 := hel i hi
   have hlt : i < elems.length := by omega
   rw [List.getElem?_eq_getElem hlt, Option.bind_eq_some_iff] at h1
   obtain ⟨c, hcs, hy⟩ := h1
   obtain ⟨_, hcl, hcell⟩ := World.cells?_some hcs
   obtain ⟨x, hK, hB⟩ := hd hy (fun n hn => hzz n (List.mem_cons_of_mem _ (List.mem_append_left _ (mem_wAll (List.mem_map.2 ⟨elems[i], List.getElem_mem hlt, rfl⟩) hn))))
   refine ⟨x, c, d.K_len hK, hK, hB, fun k u hu => ?_⟩
   have hk : k < P.cellsOf e := by have := (List.getElem?_eq_some_iff.1 hu).1; rw [d.K_len hK] at this; omega
   have h2 := hcell k hk
   rw [hc] at h2
   rw [add_add] at h2
   rw [h2, hu]
  obtain ⟨xs, hxl, hxs⟩ := pick (Q := fun i x => ∃ c : List Value, c.length = d.sz ∧ d.K w x c ∧ B x ∧ ∀ k u, c[k]? = some u → w.cell? (a.add (i * d.sz + k)) = some u) len each
  refine ⟨xs, ⟨some a, cap, by rw [hxl], by omega, rfl, by omega, fun _ => ⟨a, rfl, fun j p hp => ?_⟩⟩, ?_, by omega, fun x hx => ?_⟩
  ·
   obtain ⟨c, h1, h2, _, h3⟩ := hxs j p hp
   exact ⟨c, h1, h2, h3⟩
  ·
   have := hzz _ List.mem_cons_self
   rw [hlen] at this
   rw [hxl]
   exact Nat.le_trans (Nat.mul_le_mul_right _ (Nat.le_add_right _ _)) this
  ·
   obtain ⟨i, hi⟩ := List.getElem?_of_mem hx
   obtain ⟨_, _, _, hB, _⟩ := hxs i x hi
   exact hB
/-- cells in a row, read field by field -/
def OpenF (P : Program) {α : Type} (d : Kd α) (ts : List TypeId) (B : α → Prop) : Prop :=
 ∀ {H : Type} {enc : TypeId × Value → H} {w : World} {base : Nat} {spare : Nat → Bool} {held : Bool} {fuel : Nat} {cs : List Value} {ys : List (DataW H × List MemPlace)},
  cs.length = (ts.map P.cellsOf).sum → ys.length = ts.length → (∀ (i : Nat) (t : TypeId), ts[i]? = some t → DataW.trod enc P w base spare held fuel t ((cs.drop ((ts.take i).map P.cellsOf).sum).take (P.cellsOf t)) = ys[i]?) →
  (∀ n ∈ DataW.weightsEach P ts (ys.map (·.1)), n ≤ reachBytes) → ∃ x, d.K w x cs ∧ B x
theorem openF_one {P : Program} {α : Type} {d : Kd α} {t : TypeId} {B : α → Prop} (h : Opens P d t B) : OpenF P d [t] B := by
 intro H enc w base spare held fuel cs ys hl hn hy hz
 obtain ⟨y, rfl⟩ : ∃ y, ys = [y] := by
  match ys, hn with
  | [y], _ => exact ⟨y, rfl⟩
 have h0 := hy 0 t rfl
 simp only [List.map_cons, List.map_nil, List.sum_cons, List.sum_nil, Nat.add_zero] at hl
 rw [List.take_zero, List.map_nil, List.sum_nil, List.drop_zero, List.take_of_length_le (by omega)] at h0
 exact h h0 (fun n hn => hz n (by simpa [DataW.weightsEach] using hn))
theorem openF_cons {P : Program} {α β : Type} {d : Kd α} {d' : Kd β} {t : TypeId} {ts : List TypeId} {B : α → Prop} {B' : β → Prop} (h : Opens P d t B) (h' : OpenF P d' ts B') : OpenF P (Kd.pair d d') (t :: ts) (fun x => B x.1 ∧ B' x.2) := by
 intro H enc w base spare held fuel cs ys hl hn hy hz
 obtain ⟨y, r, rfl⟩ : ∃ y r, ys = y :: r := by
  match ys, hn with
  | y :: r, _ => exact ⟨y, r, rfl⟩
 simp only [List.map_cons, List.sum_cons] at hl
 have h0 := hy 0 t rfl
 rw [List.take_zero, List.map_nil, List.sum_nil, List.drop_zero] at h0
 have hzz : ∀ n ∈ y.1.weights P t ++ DataW.weightsEach P ts (r.map (·.1)), n ≤ reachBytes := fun n hn => hz n (by simpa [DataW.weightsEach] using hn)
 obtain ⟨x, hK, hB⟩ := h h0 (fun n hn => hzz n (List.mem_append_left _ hn))
 obtain ⟨x', hK', hB'⟩ := h' (cs := cs.drop (P.cellsOf t)) (ys := r) (by rw [List.length_drop]; omega) (by simpa using hn) (fun i u hu => by
  have := hy (i + 1) u hu
  simp only [List.take_succ_cons, List.map_cons, List.sum_cons, List.getElem?_cons_succ] at this
  rw [List.drop_drop]
  exact this) (fun n hn => hzz n (List.mem_append_right _ hn))
 exact ⟨(x, x'), ⟨cs.take (P.cellsOf t), cs.drop (P.cellsOf t), (List.take_append_drop _ _).symm, hK, hK'⟩, hB, hB'⟩
theorem opens_struct {P : Program} {α β : Type} {d : Kd α} {B : α → Prop} {t : TypeId} {fs : Array Field} (f : β → α) (g : α → β) (hfg : ∀ a, f (g a) = a) (ht : P.underlying t = some (.struct fs))
  (h : OpenF P d (fs.toList.map (·.type)) B) (ho : ∀ (i : Nat) (x : Field), fs[i]? = some x → x.offset = (((fs.toList.map (·.type)).take i).map P.cellsOf).sum) (hs : P.cellsOf t = ((fs.toList.map (·.type)).map P.cellsOf).sum) :
  Opens P (Kd.iso d f) t (fun b => B (f b)) := by
 intro H enc w base spare held fuel cs y hy hz
 obtain ⟨ys, n, _, rfl, hl, hn, hf⟩ := DataW.trod_struct ht hy
 obtain ⟨x, hK, hB⟩ := h (cs := cs) (ys := ys) (by rw [hl, hs]) (by rw [hn, List.length_map, Array.length_toList]) (fun i u hu => by
  rw [List.getElem?_map, Option.map_eq_some_iff] at hu
  obtain ⟨x, hx, rfl⟩ := hu
  have hx2 : fs[i]? = some x := by simpa using hx
  rw [← ho i x hx2]
  exact hf i x hx2) (fun n hn => hz n (by simp only [DataW.weights, ht]; exact hn))
 exact ⟨g x, by show d.K w (f (g x)) cs; rw [hfg]; exact hK, by show B (f (g x)); rw [hfg]; exact hB⟩
end Go.Proofs.YtnpnablnnfekkaaDoor
set_option linter.unusedVariables false
set_option linter.unusedSimpArgs false
namespace Go.Proofs.YtnpnablnnfekkaaDoor.PTr
open Go Go.RowKit Go.ChangeShapes Go.WideShapes Go.Proofs.YtnpnablnnfekkaaDoor Go.Proofs.YtnpnablnnfekkaaDoorW.PrintWords
def offB (P : Program) (fs : Array Field) : Bool := (List.range fs.size).all fun i => match fs[i]? with
 | some x => decide (x.offset = (((fs.toList.map (·.type)).take i).map P.cellsOf).sum)
 | none => true
theorem off_ok {P : Program} {fs : Array Field} (h : offB P fs = true) : ∀ (i : Nat) (x : Field), fs[i]? = some x → x.offset = (((fs.toList.map (·.type)).take i).map P.cellsOf).sum := by
 intro i x hx
 have hi : i < fs.size := (Array.getElem?_eq_some_iff.1 hx).1
 have := List.all_eq_true.1 h i (List.mem_range.2 hi)
 rw [hx] at this
 exact of_decide_eq_true this
theorem opens_ent : Opens Tryd.prog k61 61 (fun e => e.f0.size ≤ reachBytes ∧ (Lit.int .i64 e.f1).wf = true) :=
 opens_struct (fun x : S61 => (x.f0, x.f1)) (fun p => ⟨p.1, p.2⟩) (fun _ => rfl) Tryd.underlying61
  (openF_cons (opens_string Tryd.underlying9) (openF_one (opens_int Tryd.underlying3))) (off_ok (by kernel_rfl)) (by kernel_rfl)
def NodB (x : Nod) : Prop := (Lit.int .i64 x.f0).wf = true ∧ (Lit.int .i64 x.f1).wf = true ∧ (Lit.int .i64 x.f2).wf = true ∧ (Lit.int .i64 x.f3).wf = true ∧ (Lit.int .i64 x.f4).wf = true ∧ x.f5.size ≤ reachBytes ∧ (x.f6.length * Tryd.prog.bytesOf 61 ≤ reachBytes ∧ x.f6.length ≤ 9223372036854775807 ∧ ∀ e ∈ x.f6, e.f0.size ≤ reachBytes ∧ (Lit.int .i64 e.f1).wf = true)
theorem opens_node : Opens Tryd.prog k44 44 NodB :=
 opens_struct (fun x : S44 => (x.f0, x.f1, x.f2, x.f3, x.f4, x.f5, x.f6)) (fun p => ⟨p.1, p.2.1, p.2.2.1, p.2.2.2.1, p.2.2.2.2.1, p.2.2.2.2.2.1, p.2.2.2.2.2.2⟩) (fun _ => rfl) Tryd.underlying44
  (openF_cons (opens_int Tryd.underlying3) (openF_cons (opens_int Tryd.underlying3) (openF_cons (opens_int Tryd.underlying3) (openF_cons (opens_int Tryd.underlying3) (openF_cons (opens_int Tryd.underlying3) (openF_cons (opens_string Tryd.underlying9)
   (openF_one (opens_slice 61 Tryd.underlying42 opens_ent (by kernel_rfl))))))))) (off_ok (by kernel_rfl)) (by kernel_rfl)
theorem opens_room : Opens Tryd.prog (Kd.iso (Kd.pair (Kd.int .i64) (Kd.int .i64)) (fun x : Int × Int => x)) 24 (fun x => (Lit.int .i64 x.1).wf = true ∧ (Lit.int .i64 x.2).wf = true) :=
 opens_struct (fun x : Int × Int => x) (fun p => p) (fun _ => rfl) Tryd.underlying24 (openF_cons (opens_int Tryd.underlying3) (openF_one (opens_int Tryd.underlying3))) (off_ok (by kernel_rfl)) (by kernel_rfl)
def NodOK (x : Nod) : Prop := (Lit.int .i64 x.f0).wf = true ∧ (Lit.int .i64 x.f1).wf = true ∧ (Lit.int .i64 x.f2).wf = true ∧ (Lit.int .i64 x.f3).wf = true ∧ (Lit.int .i64 x.f4).wf = true ∧ x.f5.size ≤ 140737488351232 ∧ x.f6.length ≤ 140737488351232 ∧ ∀ e ∈ x.f6, e.f0.size ≤ 140737488351232 ∧ (Lit.int .i64 e.f1).wf = true
structure TreeV where
 A : Option Addr
 c : Nat
 l : List Nod
 b1 : Int
 b2 : Int
 b3 : Int
def TreeV.val (t : TreeV) : Value := .agg #[.slice t.A t.l.length t.c, .int .i64 t.b1, .int .i64 t.b2, .int .i64 t.b3]
def TreeV.ok (w : World) (t : TreeV) : Prop := Kd.C k44 w t.A t.l.length t.l ∧ t.l.length ≤ t.c ∧ t.l.length ≤ 140737488351232 ∧ (Lit.int .i64 t.b1).wf = true ∧ (Lit.int .i64 t.b2).wf = true ∧ (Lit.int .i64 t.b3).wf = true ∧ ∀ x ∈ t.l, NodOK x
theorem agg_of {v : Value} {a b : Value} {r : List Value} (h : v.cells.toList = a :: b :: r) : v = .agg (a :: b :: r).toArray := by
 cases v with
 | agg cs => simp only [Value.cells] at h; rw [← h]
 | _ => simp [Value.cells] at h
theorem bytes_le {n b : Nat} (hb : 1 ≤ b) (h : n * b ≤ reachBytes) : n ≤ 140737488351232 := by
 have : n ≤ n * b := Nat.le_mul_of_pos_right n hb
 unfold reachBytes at h
 omega
theorem nod_ok {x : Nod} (h : NodB x) : NodOK x := by
 have hb : 1 ≤ Tryd.prog.bytesOf 61 := of_decide_eq_true (by kernel_rfl)
 obtain ⟨h0, h1, h2, h3, h4, h5, h6, _, h7⟩ := h
 exact ⟨h0, h1, h2, h3, h4, h5, bytes_le hb h6, h7⟩
theorem opens_tree : Opens Tryd.prog (Kd.iso (Kd.pair (Kd.slice 44 k44) (Kd.pair (Kd.int .i64) (Kd.iso (Kd.pair (Kd.int .i64) (Kd.int .i64)) (fun x : Int × Int => x)))) (fun x : List Nod × Int × Int × Int => x)) 26 (fun x => (x.1.length * Tryd.prog.bytesOf 44 ≤ reachBytes ∧ x.1.length ≤ 9223372036854775807 ∧ ∀ y ∈ x.1, NodB y) ∧ (Lit.int .i64 x.2.1).wf = true ∧ (Lit.int .i64 x.2.2.1).wf = true ∧ (Lit.int .i64 x.2.2.2).wf = true) :=
 opens_struct (fun x : List Nod × Int × Int × Int => x) (fun p => p) (fun _ => rfl) Tryd.underlying26 (openF_cons (opens_slice 44 Tryd.underlying22 opens_node (by kernel_rfl)) (openF_cons (opens_int Tryd.underlying3) (openF_one opens_room))) (off_ok (by kernel_rfl)) (by kernel_rfl)
theorem open_tree {H : Type} {enc : TypeId × Value → H} {w : World} {base : Nat} {spare : Nat → Bool} {held : Bool} {v : Value} {d : DataW H} {p : List MemPlace}
  (h : DataW.Trod enc Tryd.prog w base spare held 26 v d p) (hz : ∀ n ∈ d.weights Tryd.prog 26, n ≤ reachBytes) : ∃ t : TreeV, v = t.val ∧ t.ok w := by
 obtain ⟨fuel, hf⟩ := h
 obtain ⟨⟨l, b1, b2, b3⟩, hK, ⟨hl, _, hx⟩, h1, h2, h3⟩ := opens_tree hf hz
 obtain ⟨c0, c1, e, ⟨A, c, rfl, hc, hC⟩, c2, c3, rfl, e2, c4, c5, rfl, e4, e5⟩ := hK
 have e2' : c2 = [.int .i64 b1] := e2
 have e4' : c4 = [.int .i64 b2] := e4
 have e5' : c5 = [.int .i64 b3] := e5
 subst e2' e4' e5'
 have hb : 1 ≤ Tryd.prog.bytesOf 44 := of_decide_eq_true (by kernel_rfl)
 exact ⟨⟨A, c, l, b1, b2, b3⟩, agg_of e, hC, hc, bytes_le hb hl, h1, h2, h3, fun x hx2 => nod_ok (hx x hx2)⟩
structure RoomV where
 b1 : Int
 b2 : Int
def RoomV.val (t : RoomV) : Value := .agg #[.int .i64 t.b1, .int .i64 t.b2]
def RoomV.ok (w : World) (t : RoomV) : Prop := (Lit.int .i64 t.b1).wf = true ∧ (Lit.int .i64 t.b2).wf = true
end Go.Proofs.YtnpnablnnfekkaaDoor.PTr
set_option linter.unusedVariables false
namespace Go.Proofs.YtnpnablnnfekkaaDoor.PTr
open Go.RowKit Go.Proofs.YtnpnablnnfekkaaDoor Go.Proofs.YtnpnablnnfekkaaDoorW.PrintWords
theorem bd_of {w : World} {t : TreeV} (h : t.ok w) : Bd t.l := fun x hx => by
 obtain ⟨_, _, _, _, _, _, hn⟩ := h
 obtain ⟨_, _, _, _, _, h5, h6, he⟩ := hn x hx
 exact ⟨h5, h6, fun e he' => (he e he').1⟩
end Go.Proofs.YtnpnablnnfekkaaDoor.PTr
set_option linter.unusedVariables false
set_option linter.unusedSimpArgs false
namespace Go.Proofs.YtnpnablnnfekkaaDoor.PTr
open Go.RowKit Go.Proofs.YtnpnablnnfekkaaDoor Go.Proofs.YtnpnablnnfekkaaDoorW.PrintWords Go.Proofs.YtnpnablnnfekkaaDoorW.PrintLast Go.Proofs.YtnpnablnnfekkaaDoorW.PrintMore
/-- what the calls of the law come to -/
theorem tells_facts {l : List Nod} (a1 a2 a3 id : Int) (nm : ByteArray) (h : chk l a1 = 0) (hE : eOK l) : ∃ (x : Nod) (b hs : Bool) (d u : Int) (n : Nat) (k : Nat), tree_Get.f k l a1 a2 a3 id = some (nodT x b) ∧ rehearsalref04_Get.f k l a1 a2 a3 id = some (nodT x b) ∧
  tree_Child.f k x.f0 x.f1 x.f2 x.f3 x.f4 x.f5 x.f6 nm = some (d, hs) ∧ rehearsalref04_Child.f k x.f0 x.f1 x.f2 x.f3 x.f4 x.f5 x.f6 nm = some d ∧ decide (0 < d) = hs ∧ tree_Usage.f k l a1 a2 a3 = some ((l.length : Int), u) ∧ rehearsalref04_Usage.f k l a1 a2 a3 = some ((l.length : Int), u) ∧
  rehearsalref04_SameNode.f k x.f0 x.f1 x.f2 x.f3 x.f4 x.f5 x.f6 x.f0 x.f1 x.f2 x.f3 x.f4 x.f5 x.f6 = some true ∧ tree_Links.f k l a1 a2 a3 id = some (n : Int) ∧ rehearsalref04_Links.f k l a1 a2 a3 id = some (n : Int) := by
 obtain ⟨hh, hn, hl, hr, hcl, _, h1⟩ := chk_facts h
 have hb := hE hl
 have hb' : ∀ x ∈ l, x.f6.length ≤ 140737488351232 := fun x hx => by have := hb x hx; omega
 obtain ⟨x, b, ⟨k1, q1⟩, ⟨k2, q2⟩, hx⟩ := get_ev l a1 a2 a3 id hl hr hb
 have hxo : Ordered x.f6 ∧ (∀ e ∈ x.f6, 0 < e.f1) ∧ x.f6.length ≤ 1000000000000 := by
  rcases hx with ⟨_, hx, _⟩ | ⟨_, rfl, _⟩
  ·
   exact ⟨ordered_of (ents_of_plain (plain_all hn x hx)), fun e he => ids_pos hh hr _ (hcl x hx e he), hb x hx⟩
  ·
   exact ⟨fun i j hi => by simp [noNod] at hi, fun e he => by simp [noNod] at he, by simp [noNod]⟩
 obtain ⟨ho, hp, hx6⟩ := hxo
 obtain ⟨u, ⟨k3, q3⟩, ⟨k4, q4⟩⟩ := usage_l0 l a1 a2 a3 (by omega) l.length 0 0 (by omega)
 obtain ⟨k5, q5⟩ := pchild_ev x.f0 x.f1 x.f2 x.f3 x.f4 x.f5 x.f6 nm (by omega) ho hp
 obtain ⟨k6, q6⟩ := rchild_ev x.f0 x.f1 x.f2 x.f3 x.f4 x.f5 x.f6 nm (by omega)
 obtain ⟨k7, q7⟩ := same_f x (by omega)
 obtain ⟨k8, q8⟩ := tlinks_ev l a1 a2 a3 id hl hb'
 obtain ⟨k9, q9⟩ := links_ev l a1 a2 a3 id hl hb'
 have K : ∀ k, k ≤ k1 + k2 + k3 + k4 + k5 + k6 + k7 + k8 + k9 ∨ k1 + k2 + k3 + k4 + k5 + k6 + k7 + k8 + k9 ≤ k := fun k => by omega
 exact ⟨x, b, decide (chd x.f6 nm > 0), chd x.f6 nm, u, lk l id, k1 + k2 + k3 + k4 + k5 + k6 + k7 + k8 + k9, q1 _ (by omega), q2 _ (by omega), q5 _ (by omega), q6 _ (by omega), rfl, q3 _ (by omega), q4 _ (by omega), q7 _ (by omega), q8 _ (by omega), q9 _ (by omega)⟩
/-- the world of the walk: a tree's box, and nothing changed below -/
structure GSt (w0 w : World) (g1 : Nat) (T : Array Value) : Prop where
 hb : Below w0.heap.size w0 w
 b1 : w.heap[g1]? = some (.cells T 26 (0, 0))
theorem GSt.below {w0 w w' : World} {g1 : Nat} {T : Array Value} (h : GSt w0 w g1 T) (hb : Below w.heap.size w w') : GSt w0 w' g1 T := ⟨below_step h.hb hb, blk_below h.b1 hb⟩
/-- a node in a box, its entries held apart -/
structure NdSt (w : World) (g : Nat) (A : Option Addr) (c : Nat) (x : Nod) : Prop where
 b : w.heap[g]? = some (.cells #[.int .i64 x.f0, .int .i64 x.f1, .int .i64 x.f2, .int .i64 x.f3, .int .i64 x.f4, .string x.f5, .slice A x.f6.length c] 44 (0, 0))
 r : Kd.C k61 w A x.f6.length x.f6
 l : x.f6.length ≤ c
theorem NdSt.below {w w' : World} {g : Nat} {A : Option Addr} {c : Nat} {x : Nod} (h : NdSt w g A c x) (hb : Below w.heap.size w w') : NdSt w' g A c x := ⟨blk_below h.b hb, Kd.C_below h.r hb, h.l⟩
set_option maxHeartbeats 8000000 in
set_option maxRecDepth 100000 in
theorem tells_any (l : List Nod) (A : Option Addr) (c : Nat) (a1 a2 a3 id : Int) (nm : ByteArray) (w : World) (hr0 : Kd.C k44 w A l.length l) (hc00 : l.length ≤ c) (hB : Bd l) :
  Calls Tryd.prog 5 #[.agg #[.slice A l.length c, .int .i64 a1, .int .i64 a2, .int .i64 a3], .int .i64 id, .string nm] w fun e w' => e = .returned (.bool true) ∧ Below w.heap.size w w' := by
 have hu26 := Tryd.underlying26
 have hu44 := Tryd.underlying44
 have HR0 := Lib.hid hr0
 have HC0 := Lib.hid hc00
 have HBB := Lib.hid hB
 obtain ⟨sb, ⟨KS, hS⟩, hsm⟩ := small_ev l a1 a2 a3
 have HSM := Lib.hid (hS KS (Nat.le_refl _))
 clear hr0 hc00 hB hS
 cases sb with
 | false =>
  clear hsm
  go_enter Tryd.func5, Tryd.ntmps5
  go_wp2_with (first | ((with_reducible refine gate_dst (N := 3) rfl ?_); refine box_event ?hg (N := 3) ?hd (cs := #[.slice A l.length c, .int .i64 a1, .int .i64 a2, .int .i64 a3]) (t := 26) ?hr ?_; (case hd => rfl); (case hg => rfl); (case hr => first | (go_simp; done) | (go_simp; rfl)); intro g1 hg1 w1 hbox hb; have G : Hid (GSt w w1 g1 #[.slice A l.length c, .int .i64 a1, .int .i64 a2, .int .i64 a3]) := Lib.hid ⟨hb, hbox⟩; clear hbox hb hg1; ((try clear d0 d1 d2 d3); have d0 : _ = some (Value.slice A l.length c) := (blk_cell G.out.b1 0).trans rfl; have d1 : _ = some (Value.int .i64 a1) := (blk_cell G.out.b1 1).trans rfl; have d2 : _ = some (Value.int .i64 a2) := (blk_cell G.out.b1 2).trans rfl; have d3 : _ = some (Value.int .i64 a3) := (blk_cell G.out.b1 3).trans rfl)) | (go_at_call 15; (with_reducible refine (rehearsalref04_Small.calls KS _ _ l a1 a2 a3 _ _ (Kd.C_below HR0.out G.out.hb) HC0.out HSM.out).mono ?_); rintro e w2 ⟨rfl, hb⟩; (have G' := Lib.hid (G.out.below hb); clear G; have G := G'; clear G'; (try (have NA' := Lib.hid (NA.out.below hb); clear NA; have NA := NA'; clear NA')); (try (have NB' := Lib.hid (NB.out.below hb); clear NB; have NB := NB'; clear NB')); clear hb); ((try clear d0 d1 d2 d3); have d0 : _ = some (Value.slice A l.length c) := (blk_cell G.out.b1 0).trans rfl; have d1 : _ = some (Value.int .i64 a1) := (blk_cell G.out.b1 1).trans rfl; have d2 : _ = some (Value.int .i64 a2) := (blk_cell G.out.b1 2).trans rfl; have d3 : _ = some (Value.int .i64 a3) := (blk_cell G.out.b1 3).trans rfl)) | (go_at_call 16; (with_reducible refine (awake_any _).mono ?_); rintro e w4 ⟨rfl, hb⟩; (have G' := Lib.hid (G.out.below hb); clear G; have G := G'; clear G'; (try (have NA' := Lib.hid (NA.out.below hb); clear NA; have NA := NA'; clear NA')); (try (have NB' := Lib.hid (NB.out.below hb); clear NB; have NB := NB'; clear NB')); clear hb)))
  go_ret
  exact ⟨rfl, G.out.hb⟩
 | true =>
  have hE := eB_ok (small_e (hsm rfl))
  clear hsm
  rcases chk_two l a1 with h | h
  case inr =>
   have HCK : Hid (chkR l a1 = 80) := Lib.hid ((chk_same l a1).trans h)
   clear h hE
   go_enter Tryd.func5, Tryd.ntmps5
   go_wp2_with (first | ((with_reducible refine gate_dst (N := 3) rfl ?_); refine box_event ?hg (N := 3) ?hd (cs := #[.slice A l.length c, .int .i64 a1, .int .i64 a2, .int .i64 a3]) (t := 26) ?hr ?_; (case hd => rfl); (case hg => rfl); (case hr => first | (go_simp; done) | (go_simp; rfl)); intro g1 hg1 w1 hbox hb; have G : Hid (GSt w w1 g1 #[.slice A l.length c, .int .i64 a1, .int .i64 a2, .int .i64 a3]) := Lib.hid ⟨hb, hbox⟩; clear hbox hb hg1; ((try clear d0 d1 d2 d3); have d0 : _ = some (Value.slice A l.length c) := (blk_cell G.out.b1 0).trans rfl; have d1 : _ = some (Value.int .i64 a1) := (blk_cell G.out.b1 1).trans rfl; have d2 : _ = some (Value.int .i64 a2) := (blk_cell G.out.b1 2).trans rfl; have d3 : _ = some (Value.int .i64 a3) := (blk_cell G.out.b1 3).trans rfl)) | (go_at_call 15; (with_reducible refine (rehearsalref04_Small.calls KS _ _ l a1 a2 a3 _ _ (Kd.C_below HR0.out G.out.hb) HC0.out HSM.out).mono ?_); rintro e w2 ⟨rfl, hb⟩; (have G' := Lib.hid (G.out.below hb); clear G; have G := G'; clear G'; (try (have NA' := Lib.hid (NA.out.below hb); clear NA; have NA := NA'; clear NA')); (try (have NB' := Lib.hid (NB.out.below hb); clear NB; have NB := NB'; clear NB')); clear hb); ((try clear d0 d1 d2 d3); have d0 : _ = some (Value.slice A l.length c) := (blk_cell G.out.b1 0).trans rfl; have d1 : _ = some (Value.int .i64 a1) := (blk_cell G.out.b1 1).trans rfl; have d2 : _ = some (Value.int .i64 a2) := (blk_cell G.out.b1 2).trans rfl; have d3 : _ = some (Value.int .i64 a3) := (blk_cell G.out.b1 3).trans rfl)) | (go_at_call 18; (with_reducible refine (rcheck_any l _ _ a1 a2 a3 _ (Kd.C_below HR0.out G.out.hb) HC0.out (fun _ => HBB.out)).mono ?_); rintro e w3 ⟨rfl, hb⟩; rw [HCK.out]; (have G' := Lib.hid (G.out.below hb); clear G; have G := G'; clear G'; (try (have NA' := Lib.hid (NA.out.below hb); clear NA; have NA := NA'; clear NA')); (try (have NB' := Lib.hid (NB.out.below hb); clear NB; have NB := NB'; clear NB')); clear hb); ((try clear d0 d1 d2 d3); have d0 : _ = some (Value.slice A l.length c) := (blk_cell G.out.b1 0).trans rfl; have d1 : _ = some (Value.int .i64 a1) := (blk_cell G.out.b1 1).trans rfl; have d2 : _ = some (Value.int .i64 a2) := (blk_cell G.out.b1 2).trans rfl; have d3 : _ = some (Value.int .i64 a3) := (blk_cell G.out.b1 3).trans rfl)) | (go_at_call 16; (with_reducible refine (awake_any _).mono ?_); rintro e w4 ⟨rfl, hb⟩; (have G' := Lib.hid (G.out.below hb); clear G; have G := G'; clear G'; (try (have NA' := Lib.hid (NA.out.below hb); clear NA; have NA := NA'; clear NA')); (try (have NB' := Lib.hid (NB.out.below hb); clear NB; have NB := NB'; clear NB')); clear hb)))
   go_ret
   exact ⟨rfl, G.out.hb⟩
  have HCK : Hid (chkR l a1 = 0) := Lib.hid ((chk_same l a1).trans h)
  obtain ⟨x, b, hs, d, u, n, k, q1, q2, q3, q4, q5, q6, q7, q8, q9, qa⟩ := tells_facts a1 a2 a3 id nm h hE
  have HG : Hid (tree_Get.f k l a1 a2 a3 id = some (x.f0, x.f1, x.f2, x.f3, x.f4, x.f5, x.f6, b)) := Lib.hid q1
  have HG' : Hid (rehearsalref04_Get.f k l a1 a2 a3 id = some (x.f0, x.f1, x.f2, x.f3, x.f4, x.f5, x.f6, b)) := Lib.hid q2
  have HCH := Lib.hid q3
  have HCH' := Lib.hid q4
  have HU := Lib.hid q6
  have HU' := Lib.hid q7
  have HSN := Lib.hid q8
  have HL := Lib.hid q9
  have HL' := Lib.hid qa
  have j0 : (b == b) = true := beq_self_eq_true _
  have j1 : (d == d) = true := beq_self_eq_true _
  have j2 : (hs == hs) = true := beq_self_eq_true _
  have j3 : ((n : Int) == (n : Int)) = true := beq_self_eq_true _
  have j4 : (u == u) = true := beq_self_eq_true _
  have j5 : ((l.length : Int) == (l.length : Int)) = true := beq_self_eq_true _
  clear h hE q1 q2 q3 q4 q6 q7 q8 q9 qa
  go_enter Tryd.func5, Tryd.ntmps5
  go_upto_region 9 with (first | ((with_reducible refine gate_dst (N := 3) rfl ?_); refine box_event ?hg (N := 3) ?hd (cs := #[.slice A l.length c, .int .i64 a1, .int .i64 a2, .int .i64 a3]) (t := 26) ?hr ?_; (case hd => rfl); (case hg => rfl); (case hr => first | (go_simp; done) | (go_simp; rfl)); intro g1 hg1 w1 hbox hb; have G : Hid (GSt w w1 g1 #[.slice A l.length c, .int .i64 a1, .int .i64 a2, .int .i64 a3]) := Lib.hid ⟨hb, hbox⟩; clear hbox hb hg1; ((try clear d0 d1 d2 d3); have d0 : _ = some (Value.slice A l.length c) := (blk_cell G.out.b1 0).trans rfl; have d1 : _ = some (Value.int .i64 a1) := (blk_cell G.out.b1 1).trans rfl; have d2 : _ = some (Value.int .i64 a2) := (blk_cell G.out.b1 2).trans rfl; have d3 : _ = some (Value.int .i64 a3) := (blk_cell G.out.b1 3).trans rfl)) | (go_at_call 15; (with_reducible refine (rehearsalref04_Small.calls KS _ _ l a1 a2 a3 _ _ (Kd.C_below HR0.out G.out.hb) HC0.out HSM.out).mono ?_); rintro e w2 ⟨rfl, hb⟩; (have G' := Lib.hid (G.out.below hb); clear G; have G := G'; clear G'; (try (have NA' := Lib.hid (NA.out.below hb); clear NA; have NA := NA'; clear NA')); (try (have NB' := Lib.hid (NB.out.below hb); clear NB; have NB := NB'; clear NB')); clear hb); ((try clear d0 d1 d2 d3); have d0 : _ = some (Value.slice A l.length c) := (blk_cell G.out.b1 0).trans rfl; have d1 : _ = some (Value.int .i64 a1) := (blk_cell G.out.b1 1).trans rfl; have d2 : _ = some (Value.int .i64 a2) := (blk_cell G.out.b1 2).trans rfl; have d3 : _ = some (Value.int .i64 a3) := (blk_cell G.out.b1 3).trans rfl)) | (go_at_call 18; (with_reducible refine (rcheck_any l _ _ a1 a2 a3 _ (Kd.C_below HR0.out G.out.hb) HC0.out (fun _ => HBB.out)).mono ?_); rintro e w3 ⟨rfl, hb⟩; rw [HCK.out]; (have G' := Lib.hid (G.out.below hb); clear G; have G := G'; clear G'; (try (have NA' := Lib.hid (NA.out.below hb); clear NA; have NA := NA'; clear NA')); (try (have NB' := Lib.hid (NB.out.below hb); clear NB; have NB := NB'; clear NB')); clear hb); ((try clear d0 d1 d2 d3); have d0 : _ = some (Value.slice A l.length c) := (blk_cell G.out.b1 0).trans rfl; have d1 : _ = some (Value.int .i64 a1) := (blk_cell G.out.b1 1).trans rfl; have d2 : _ = some (Value.int .i64 a2) := (blk_cell G.out.b1 2).trans rfl; have d3 : _ = some (Value.int .i64 a3) := (blk_cell G.out.b1 3).trans rfl)) | (go_at_call 26; (with_reducible refine (tree_Get.calls k _ _ l a1 a2 a3 id x.f0 x.f1 x.f2 x.f3 x.f4 x.f5 x.f6 b _ (Kd.C_below HR0.out G.out.hb) HC0.out HG.out).mono ?_); rintro e w5 ⟨v6, rfl, ho, hb⟩; (have G' := Lib.hid (G.out.below hb); clear G; have G := G'; clear G'; (try (have NA' := Lib.hid (NA.out.below hb); clear NA; have NA := NA'; clear NA')); (try (have NB' := Lib.hid (NB.out.below hb); clear NB; have NB := NB'; clear NB')); clear hb); obtain ⟨Aa, ca, ea, hca, hCa⟩ := Kd.R_reads ho; subst ea; have RA := Lib.hid (And.intro hCa hca); clear ho hca hCa; ((try clear d0 d1 d2 d3); have d0 : _ = some (Value.slice A l.length c) := (blk_cell G.out.b1 0).trans rfl; have d1 : _ = some (Value.int .i64 a1) := (blk_cell G.out.b1 1).trans rfl; have d2 : _ = some (Value.int .i64 a2) := (blk_cell G.out.b1 2).trans rfl; have d3 : _ = some (Value.int .i64 a3) := (blk_cell G.out.b1 3).trans rfl)) | ((with_reducible refine gate_dst (N := 7) rfl ?_); refine box_event ?hg (N := 7) ?hd (cs := zN) (t := 44) ?hr ?_; (case hd => rfl); (case hg => rfl); (case hr => first | (go_simp; done) | (go_simp; rfl)); intro g7 hg7 w6 hbox hb; have B7 := Lib.hid hbox; have HB7 := Lib.hid hb; have HG7 := Lib.hid hg7; clear hbox hb hg7) | (refine store_box rfl rfl (.tmp 7) (.tmp 31) rfl (x0 := x.f0) (x1 := x.f1) (x2 := x.f2) (x3 := x.f3) (x4 := x.f4) (x5 := x.f5) rfl rfl B7.out HG7.out HB7.out ?_; intro w7 hb7 hb; have NA' : Hid (NdSt w7 g7 Aa ca x) := Lib.hid ⟨hb7, Kd.C_below RA.out.1 hb, RA.out.2⟩; (have G' := Lib.hid (G.out.below hb); clear G; have G := G'; clear G'; (try (have NA' := Lib.hid (NA.out.below hb); clear NA; have NA := NA'; clear NA')); (try (have NB' := Lib.hid (NB.out.below hb); clear NB; have NB := NB'; clear NB')); clear hb); have NA := NA'; clear NA' B7 HG7 HB7 RA hb7; ((try clear d0 d1 d2 d3); have d0 : _ = some (Value.slice A l.length c) := (blk_cell G.out.b1 0).trans rfl; have d1 : _ = some (Value.int .i64 a1) := (blk_cell G.out.b1 1).trans rfl; have d2 : _ = some (Value.int .i64 a2) := (blk_cell G.out.b1 2).trans rfl; have d3 : _ = some (Value.int .i64 a3) := (blk_cell G.out.b1 3).trans rfl)) | (go_at_call 27; (with_reducible refine (rehearsalref04_Get.calls k (fun _ => True) _ _ l a1 a2 a3 id x.f0 x.f1 x.f2 x.f3 x.f4 x.f5 x.f6 b _ (Kd.V_mono (Kd.V_mk HC0.out (Kd.F_below (Kd.C_F k44_heap HR0.out) G.out.hb)) (fun _ _ => trivial)) HG'.out).mono ?_); rintro e w8 ⟨v6, rfl, ho, hb⟩; (have G' := Lib.hid (G.out.below hb); clear G; have G := G'; clear G'; (try (have NA' := Lib.hid (NA.out.below hb); clear NA; have NA := NA'; clear NA')); (try (have NB' := Lib.hid (NB.out.below hb); clear NB; have NB := NB'; clear NB')); clear hb); obtain ⟨Ab, cb, eb⟩ := Kd.V_slice ho; subst eb; have RB := Lib.hid (Kd.V_reads' ho).2; clear ho; ((try clear d0 d1 d2 d3); have d0 : _ = some (Value.slice A l.length c) := (blk_cell G.out.b1 0).trans rfl; have d1 : _ = some (Value.int .i64 a1) := (blk_cell G.out.b1 1).trans rfl; have d2 : _ = some (Value.int .i64 a2) := (blk_cell G.out.b1 2).trans rfl; have d3 : _ = some (Value.int .i64 a3) := (blk_cell G.out.b1 3).trans rfl)) | ((with_reducible refine gate_dst (N := 9) rfl ?_); refine box_event ?hg (N := 9) ?hd (cs := zN) (t := 44) ?hr ?_; (case hd => rfl); (case hg => rfl); (case hr => first | (go_simp; done) | (go_simp; rfl)); intro g9 hg9 w9 hbox hb; have B9 := Lib.hid hbox; have HB9 := Lib.hid hb; have HG9 := Lib.hid hg9; clear hbox hb hg9) | (refine store_box rfl rfl (.tmp 9) (.tmp 37) rfl (x0 := x.f0) (x1 := x.f1) (x2 := x.f2) (x3 := x.f3) (x4 := x.f4) (x5 := x.f5) rfl rfl B9.out HG9.out HB9.out ?_; intro w10 hb9 hb; have NB' : Hid (NdSt w10 g9 Ab cb x) := Lib.hid ⟨hb9, Kd.C_below RB.out.2 hb, RB.out.1⟩; (have G' := Lib.hid (G.out.below hb); clear G; have G := G'; clear G'; (try (have NA' := Lib.hid (NA.out.below hb); clear NA; have NA := NA'; clear NA')); (try (have NB' := Lib.hid (NB.out.below hb); clear NB; have NB := NB'; clear NB')); clear hb); have NB := NB'; clear NB' B9 HG9 HB9 RB hb9; ((try clear d0 d1 d2 d3); have d0 : _ = some (Value.slice A l.length c) := (blk_cell G.out.b1 0).trans rfl; have d1 : _ = some (Value.int .i64 a1) := (blk_cell G.out.b1 1).trans rfl; have d2 : _ = some (Value.int .i64 a2) := (blk_cell G.out.b1 2).trans rfl; have d3 : _ = some (Value.int .i64 a3) := (blk_cell G.out.b1 3).trans rfl); ((try clear n0 n1 n2 n3 n4 n5 n6); have n0 : _ = some (Value.int .i64 x.f0) := (blk_cell NB.out.b 0).trans rfl; have n1 : _ = some (Value.int .i64 x.f1) := (blk_cell NB.out.b 1).trans rfl; have n2 : _ = some (Value.int .i64 x.f2) := (blk_cell NB.out.b 2).trans rfl; have n3 : _ = some (Value.int .i64 x.f3) := (blk_cell NB.out.b 3).trans rfl; have n4 : _ = some (Value.int .i64 x.f4) := (blk_cell NB.out.b 4).trans rfl; have n5 : _ = some (Value.string x.f5) := (blk_cell NB.out.b 5).trans rfl; have n6 : _ = some (Value.slice Ab x.f6.length cb) := (blk_cell NB.out.b 6).trans rfl)) | (go_at_call 28; (with_reducible refine (tree_Child.calls k x.f0 x.f1 x.f2 x.f3 x.f4 x.f5 _ _ x.f6 nm d hs _ NB.out.r NB.out.l HCH.out).mono ?_); rintro e w11 ⟨rfl, hb⟩; (have G' := Lib.hid (G.out.below hb); clear G; have G := G'; clear G'; (try (have NA' := Lib.hid (NA.out.below hb); clear NA; have NA := NA'; clear NA')); (try (have NB' := Lib.hid (NB.out.below hb); clear NB; have NB := NB'; clear NB')); clear hb); ((try clear d0 d1 d2 d3); have d0 : _ = some (Value.slice A l.length c) := (blk_cell G.out.b1 0).trans rfl; have d1 : _ = some (Value.int .i64 a1) := (blk_cell G.out.b1 1).trans rfl; have d2 : _ = some (Value.int .i64 a2) := (blk_cell G.out.b1 2).trans rfl; have d3 : _ = some (Value.int .i64 a3) := (blk_cell G.out.b1 3).trans rfl); ((try clear n0 n1 n2 n3 n4 n5 n6); have n0 : _ = some (Value.int .i64 x.f0) := (blk_cell NB.out.b 0).trans rfl; have n1 : _ = some (Value.int .i64 x.f1) := (blk_cell NB.out.b 1).trans rfl; have n2 : _ = some (Value.int .i64 x.f2) := (blk_cell NB.out.b 2).trans rfl; have n3 : _ = some (Value.int .i64 x.f3) := (blk_cell NB.out.b 3).trans rfl; have n4 : _ = some (Value.int .i64 x.f4) := (blk_cell NB.out.b 4).trans rfl; have n5 : _ = some (Value.string x.f5) := (blk_cell NB.out.b 5).trans rfl; have n6 : _ = some (Value.slice Ab x.f6.length cb) := (blk_cell NB.out.b 6).trans rfl)) | (go_at_call 29; (with_reducible refine (rehearsalref04_Child.calls k x.f0 x.f1 x.f2 x.f3 x.f4 x.f5 _ _ x.f6 nm d _ NB.out.r NB.out.l HCH'.out).mono ?_); rintro e w12 ⟨rfl, hb⟩; (have G' := Lib.hid (G.out.below hb); clear G; have G := G'; clear G'; (try (have NA' := Lib.hid (NA.out.below hb); clear NA; have NA := NA'; clear NA')); (try (have NB' := Lib.hid (NB.out.below hb); clear NB; have NB := NB'; clear NB')); clear hb); ((try clear d0 d1 d2 d3); have d0 : _ = some (Value.slice A l.length c) := (blk_cell G.out.b1 0).trans rfl; have d1 : _ = some (Value.int .i64 a1) := (blk_cell G.out.b1 1).trans rfl; have d2 : _ = some (Value.int .i64 a2) := (blk_cell G.out.b1 2).trans rfl; have d3 : _ = some (Value.int .i64 a3) := (blk_cell G.out.b1 3).trans rfl)) | (go_at_call 30; (with_reducible refine (tree_Usage.calls k _ _ l a1 a2 a3 _ u _ (Kd.C_below HR0.out G.out.hb) HC0.out HU.out).mono ?_); rintro e w13 ⟨rfl, hb⟩; (have G' := Lib.hid (G.out.below hb); clear G; have G := G'; clear G'; (try (have NA' := Lib.hid (NA.out.below hb); clear NA; have NA := NA'; clear NA')); (try (have NB' := Lib.hid (NB.out.below hb); clear NB; have NB := NB'; clear NB')); clear hb); ((try clear d0 d1 d2 d3); have d0 : _ = some (Value.slice A l.length c) := (blk_cell G.out.b1 0).trans rfl; have d1 : _ = some (Value.int .i64 a1) := (blk_cell G.out.b1 1).trans rfl; have d2 : _ = some (Value.int .i64 a2) := (blk_cell G.out.b1 2).trans rfl; have d3 : _ = some (Value.int .i64 a3) := (blk_cell G.out.b1 3).trans rfl)) | (go_at_call 31; (with_reducible refine (rehearsalref04_Usage.calls k _ _ l a1 a2 a3 _ u _ (Kd.C_below HR0.out G.out.hb) HC0.out HU'.out).mono ?_); rintro e w14 ⟨rfl, hb⟩; (have G' := Lib.hid (G.out.below hb); clear G; have G := G'; clear G'; (try (have NA' := Lib.hid (NA.out.below hb); clear NA; have NA := NA'; clear NA')); (try (have NB' := Lib.hid (NB.out.below hb); clear NB; have NB := NB'; clear NB')); clear hb); ((try clear d0 d1 d2 d3); have d0 : _ = some (Value.slice A l.length c) := (blk_cell G.out.b1 0).trans rfl; have d1 : _ = some (Value.int .i64 a1) := (blk_cell G.out.b1 1).trans rfl; have d2 : _ = some (Value.int .i64 a2) := (blk_cell G.out.b1 2).trans rfl; have d3 : _ = some (Value.int .i64 a3) := (blk_cell G.out.b1 3).trans rfl)))
  have hb : Below w14.heap.size w14 w14.drew := (Below.refl _ w14).drew
  refine start_ (n := 42) (S := (fun w' => w'.cell? ⟨g7, 0, none⟩ = some (.int .i64 x.f0) ∧ w'.cell? ⟨g7, 1, none⟩ = some (.int .i64 x.f1) ∧ w'.cell? ⟨g7, 2, none⟩ = some (.int .i64 x.f2) ∧ w'.cell? ⟨g7, 3, none⟩ = some (.int .i64 x.f3) ∧ w'.cell? ⟨g7, 4, none⟩ = some (.int .i64 x.f4) ∧ w'.cell? ⟨g7, 5, none⟩ = some (.string x.f5) ∧ w'.cell? ⟨g7, 6, none⟩ = some (.slice Aa x.f6.length ca) ∧ w'.cell? ⟨g9, 0, none⟩ = some (.int .i64 x.f0) ∧ w'.cell? ⟨g9, 1, none⟩ = some (.int .i64 x.f1) ∧ w'.cell? ⟨g9, 2, none⟩ = some (.int .i64 x.f2) ∧ w'.cell? ⟨g9, 3, none⟩ = some (.int .i64 x.f3) ∧ w'.cell? ⟨g9, 4, none⟩ = some (.int .i64 x.f4) ∧ w'.cell? ⟨g9, 5, none⟩ = some (.string x.f5) ∧ w'.cell? ⟨g9, 6, none⟩ = some (.slice Ab x.f6.length cb) ∧ w'.cell? ⟨g1, 0, none⟩ = some (.slice A l.length c) ∧ w'.cell? ⟨g1, 1, none⟩ = some (.int .i64 a1) ∧ w'.cell? ⟨g1, 2, none⟩ = some (.int .i64 a2) ∧ w'.cell? ⟨g1, 3, none⟩ = some (.int .i64 a3))) (ds := []) #[false, false, false, false, false, false, false, false, false, false, false, false, false, false, false, false, false, false, false, false, false, false, false, false, false, false, false, false, false, false, false, false, false, false, false, false, false, false, false, false, false, false] (by kernel_rfl) rfl rfl ⟨(blk_cell NA.out.b 0).trans rfl, (blk_cell NA.out.b 1).trans rfl, (blk_cell NA.out.b 2).trans rfl, (blk_cell NA.out.b 3).trans rfl, (blk_cell NA.out.b 4).trans rfl, (blk_cell NA.out.b 5).trans rfl, (blk_cell NA.out.b 6).trans rfl, (blk_cell NB.out.b 0).trans rfl, (blk_cell NB.out.b 1).trans rfl, (blk_cell NB.out.b 2).trans rfl, (blk_cell NB.out.b 3).trans rfl, (blk_cell NB.out.b 4).trans rfl, (blk_cell NB.out.b 5).trans rfl, (blk_cell NB.out.b 6).trans rfl, d0, d1, d2, d3⟩ (fun hHeld => ?_)
  (have G' := Lib.hid (G.out.below hb); clear G; have G := G'; clear G'; (try (have NA' := Lib.hid (NA.out.below hb); clear NA; have NA := NA'; clear NA')); (try (have NB' := Lib.hid (NB.out.below hb); clear NB; have NB := NB'; clear NB')); clear hb)
  clear d0 d1 d2 d3
  (try clear n0 n1 n2 n3 n4 n5 n6)
  generalize World.drew _ = wd at G NA NB hHeld ⊢
  iterate 2 (first | ((first | refine takeS_ 0 (N := some 58) (v := ?_) (a' := ?_) rfl rfl (by decide +kernel) (fun _ _ _ h => h) (Or.inl ⟨by rfl, ?_⟩) hHeld ?_ ?_ | refine takeS_ 1 (N := some 59) (v := ?_) (a' := ?_) rfl rfl (by decide +kernel) (fun _ _ _ h => h) (Or.inl ⟨by rfl, ?_⟩) hHeld ?_ ?_); rotate_left; (rintro w' ⟨s0, s1, s2, s3, s4, s5, s6, t0, t1, t2, t3, t4, t5, t6, u0, u1, u2, u3⟩; go_simp; first | done | (with_reducible rfl) | rfl); rotate_left; (simp only [Act.put, List.setIfInBounds_toArray, List.set_cons_zero, List.set_cons_succ, i64_w, i32_w]; rfl)) | ((first | refine takeS_ 0 (N := some 58) (v := undef) (a' := ?_) rfl rfl (by decide +kernel) (fun _ _ _ h => h) (Or.inr ⟨by rfl, rfl⟩) hHeld ?_ ?_ | refine takeS_ 1 (N := some 59) (v := undef) (a' := ?_) rfl rfl (by decide +kernel) (fun _ _ _ h => h) (Or.inr ⟨by rfl, rfl⟩) hHeld ?_ ?_); rotate_left; (simp only [Act.put, List.setIfInBounds_toArray, List.set_cons_zero, List.set_cons_succ, i64_w, i32_w]; rfl)))
  refine oneS_ 2 (N := some 60) rfl rfl (by kernel_rfl) (by decide) (fun K hK => ?_)
  refine goes_ Tryd.func32 (by kernel_rfl) rfl #[.agg #[.int .i64 x.f0, .int .i64 x.f1, .int .i64 x.f2, .int .i64 x.f3, .int .i64 x.f4, .string x.f5, .slice Aa x.f6.length ca], .agg #[.int .i64 x.f0, .int .i64 x.f1, .int .i64 x.f2, .int .i64 x.f3, .int .i64 x.f4, .string x.f5, .slice Ab x.f6.length cb]] (by rfl) rfl rfl (by first | rfl | (simp [Act.eval]; done) | (simp [Act.eval, Act.put]; done)) ?_
  refine (rehearsalref04_SameNode.calls k x.f0 x.f1 x.f2 x.f3 x.f4 x.f5 _ _ x.f6 x.f0 x.f1 x.f2 x.f3 x.f4 x.f5 _ _ x.f6 _ _ NA.out.r NA.out.l NB.out.r NB.out.l HSN.out).mono ?_
  rintro e v1 ⟨rfl, hb⟩
  refine ⟨_, rfl, ?_⟩
  refine hK.out _ _ (by obtain ⟨s0, s1, s2, s3, s4, s5, s6, t0, t1, t2, t3, t4, t5, t6, u0, u1, u2, u3⟩ := hHeld; exact ⟨cellB s0 hb, cellB s1 hb, cellB s2 hb, cellB s3 hb, cellB s4 hb, cellB s5 hb, cellB s6 hb, cellB t0 hb, cellB t1 hb, cellB t2 hb, cellB t3 hb, cellB t4 hb, cellB t5 hb, cellB t6 hb, cellB u0 hb, cellB u1 hb, cellB u2 hb, cellB u3 hb⟩) (fun hHeld => ?_)
  clear hK K
  (have G' := Lib.hid (G.out.below hb); clear G; have G := G'; clear G'; (try (have NA' := Lib.hid (NA.out.below hb); clear NA; have NA := NA'; clear NA')); (try (have NB' := Lib.hid (NB.out.below hb); clear NB; have NB := NB'; clear NB')); clear hb)
  refine norm_ (a' := ?_) ?_ ?_
  rotate_left
  ·
   show Act.put _ (some 60) _ = _
   simp only [Act.put, List.setIfInBounds_toArray, List.set_cons_zero, List.set_cons_succ, i64_w, i32_w]
   rfl
  iterate 5 (first | ((first | refine takeS_ 3 (N := some 61) (v := ?_) (a' := ?_) rfl rfl (by decide +kernel) (fun _ _ _ h => h) (Or.inl ⟨by rfl, ?_⟩) hHeld ?_ ?_ | refine takeS_ 4 (N := some 62) (v := ?_) (a' := ?_) rfl rfl (by decide +kernel) (fun _ _ _ h => h) (Or.inl ⟨by rfl, ?_⟩) hHeld ?_ ?_ | refine takeS_ 5 (N := some 63) (v := ?_) (a' := ?_) rfl rfl (by decide +kernel) (fun _ _ _ h => h) (Or.inl ⟨by rfl, ?_⟩) hHeld ?_ ?_ | refine takeS_ 6 (N := some 64) (v := ?_) (a' := ?_) rfl rfl (by decide +kernel) (fun _ _ _ h => h) (Or.inl ⟨by rfl, ?_⟩) hHeld ?_ ?_ | refine takeS_ 7 (N := some 65) (v := ?_) (a' := ?_) rfl rfl (by decide +kernel) (fun _ _ _ h => h) (Or.inl ⟨by rfl, ?_⟩) hHeld ?_ ?_); rotate_left; (rintro w' ⟨s0, s1, s2, s3, s4, s5, s6, t0, t1, t2, t3, t4, t5, t6, u0, u1, u2, u3⟩; go_simp; first | done | (with_reducible rfl) | rfl); rotate_left; (simp only [Act.put, List.setIfInBounds_toArray, List.set_cons_zero, List.set_cons_succ, i64_w, i32_w]; rfl)) | ((first | refine takeS_ 3 (N := some 61) (v := undef) (a' := ?_) rfl rfl (by decide +kernel) (fun _ _ _ h => h) (Or.inr ⟨by rfl, rfl⟩) hHeld ?_ ?_ | refine takeS_ 4 (N := some 62) (v := undef) (a' := ?_) rfl rfl (by decide +kernel) (fun _ _ _ h => h) (Or.inr ⟨by rfl, rfl⟩) hHeld ?_ ?_ | refine takeS_ 5 (N := some 63) (v := undef) (a' := ?_) rfl rfl (by decide +kernel) (fun _ _ _ h => h) (Or.inr ⟨by rfl, rfl⟩) hHeld ?_ ?_ | refine takeS_ 6 (N := some 64) (v := undef) (a' := ?_) rfl rfl (by decide +kernel) (fun _ _ _ h => h) (Or.inr ⟨by rfl, rfl⟩) hHeld ?_ ?_ | refine takeS_ 7 (N := some 65) (v := undef) (a' := ?_) rfl rfl (by decide +kernel) (fun _ _ _ h => h) (Or.inr ⟨by rfl, rfl⟩) hHeld ?_ ?_); rotate_left; (simp only [Act.put, List.setIfInBounds_toArray, List.set_cons_zero, List.set_cons_succ, i64_w, i32_w]; rfl)))
  iterate 5 (first | ((first | refine takeS_ 8 (N := some 66) (v := ?_) (a' := ?_) rfl rfl (by decide +kernel) (fun _ _ _ h => h) (Or.inl ⟨by rfl, ?_⟩) hHeld ?_ ?_ | refine takeS_ 9 (N := some 67) (v := ?_) (a' := ?_) rfl rfl (by decide +kernel) (fun _ _ _ h => h) (Or.inl ⟨by rfl, ?_⟩) hHeld ?_ ?_ | refine takeS_ 10 (N := some 68) (v := ?_) (a' := ?_) rfl rfl (by decide +kernel) (fun _ _ _ h => h) (Or.inl ⟨by rfl, ?_⟩) hHeld ?_ ?_ | refine takeS_ 11 (N := some 69) (v := ?_) (a' := ?_) rfl rfl (by decide +kernel) (fun _ _ _ h => h) (Or.inl ⟨by rfl, ?_⟩) hHeld ?_ ?_ | refine takeS_ 12 (N := some 70) (v := ?_) (a' := ?_) rfl rfl (by decide +kernel) (fun _ _ _ h => h) (Or.inl ⟨by rfl, ?_⟩) hHeld ?_ ?_); rotate_left; (rintro w' ⟨s0, s1, s2, s3, s4, s5, s6, t0, t1, t2, t3, t4, t5, t6, u0, u1, u2, u3⟩; go_simp; first | done | (with_reducible rfl) | rfl); rotate_left; (simp only [Act.put, List.setIfInBounds_toArray, List.set_cons_zero, List.set_cons_succ, i64_w, i32_w]; rfl)) | ((first | refine takeS_ 8 (N := some 66) (v := undef) (a' := ?_) rfl rfl (by decide +kernel) (fun _ _ _ h => h) (Or.inr ⟨by rfl, rfl⟩) hHeld ?_ ?_ | refine takeS_ 9 (N := some 67) (v := undef) (a' := ?_) rfl rfl (by decide +kernel) (fun _ _ _ h => h) (Or.inr ⟨by rfl, rfl⟩) hHeld ?_ ?_ | refine takeS_ 10 (N := some 68) (v := undef) (a' := ?_) rfl rfl (by decide +kernel) (fun _ _ _ h => h) (Or.inr ⟨by rfl, rfl⟩) hHeld ?_ ?_ | refine takeS_ 11 (N := some 69) (v := undef) (a' := ?_) rfl rfl (by decide +kernel) (fun _ _ _ h => h) (Or.inr ⟨by rfl, rfl⟩) hHeld ?_ ?_ | refine takeS_ 12 (N := some 70) (v := undef) (a' := ?_) rfl rfl (by decide +kernel) (fun _ _ _ h => h) (Or.inr ⟨by rfl, rfl⟩) hHeld ?_ ?_); rotate_left; (simp only [Act.put, List.setIfInBounds_toArray, List.set_cons_zero, List.set_cons_succ, i64_w, i32_w]; rfl)))
  iterate 5 (first | ((first | refine takeS_ 13 (N := some 71) (v := ?_) (a' := ?_) rfl rfl (by decide +kernel) (fun _ _ _ h => h) (Or.inl ⟨by rfl, ?_⟩) hHeld ?_ ?_ | refine takeS_ 14 (N := some 72) (v := ?_) (a' := ?_) rfl rfl (by decide +kernel) (fun _ _ _ h => h) (Or.inl ⟨by rfl, ?_⟩) hHeld ?_ ?_ | refine takeS_ 15 (N := some 73) (v := ?_) (a' := ?_) rfl rfl (by decide +kernel) (fun _ _ _ h => h) (Or.inl ⟨by rfl, ?_⟩) hHeld ?_ ?_ | refine takeS_ 16 (N := some 74) (v := ?_) (a' := ?_) rfl rfl (by decide +kernel) (fun _ _ _ h => h) (Or.inl ⟨by rfl, ?_⟩) hHeld ?_ ?_ | refine takeS_ 17 (N := some 75) (v := ?_) (a' := ?_) rfl rfl (by decide +kernel) (fun _ _ _ h => h) (Or.inl ⟨by rfl, ?_⟩) hHeld ?_ ?_); rotate_left; (rintro w' ⟨s0, s1, s2, s3, s4, s5, s6, t0, t1, t2, t3, t4, t5, t6, u0, u1, u2, u3⟩; go_simp; first | done | (with_reducible rfl) | rfl); rotate_left; (simp only [Act.put, List.setIfInBounds_toArray, List.set_cons_zero, List.set_cons_succ, i64_w, i32_w]; rfl)) | ((first | refine takeS_ 13 (N := some 71) (v := undef) (a' := ?_) rfl rfl (by decide +kernel) (fun _ _ _ h => h) (Or.inr ⟨by rfl, rfl⟩) hHeld ?_ ?_ | refine takeS_ 14 (N := some 72) (v := undef) (a' := ?_) rfl rfl (by decide +kernel) (fun _ _ _ h => h) (Or.inr ⟨by rfl, rfl⟩) hHeld ?_ ?_ | refine takeS_ 15 (N := some 73) (v := undef) (a' := ?_) rfl rfl (by decide +kernel) (fun _ _ _ h => h) (Or.inr ⟨by rfl, rfl⟩) hHeld ?_ ?_ | refine takeS_ 16 (N := some 74) (v := undef) (a' := ?_) rfl rfl (by decide +kernel) (fun _ _ _ h => h) (Or.inr ⟨by rfl, rfl⟩) hHeld ?_ ?_ | refine takeS_ 17 (N := some 75) (v := undef) (a' := ?_) rfl rfl (by decide +kernel) (fun _ _ _ h => h) (Or.inr ⟨by rfl, rfl⟩) hHeld ?_ ?_); rotate_left; (simp only [Act.put, List.setIfInBounds_toArray, List.set_cons_zero, List.set_cons_succ, i64_w, i32_w]; rfl)))
  iterate 5 (first | ((first | refine takeS_ 18 (N := some 76) (v := ?_) (a' := ?_) rfl rfl (by decide +kernel) (fun _ _ _ h => h) (Or.inl ⟨by rfl, ?_⟩) hHeld ?_ ?_ | refine takeS_ 19 (N := some 77) (v := ?_) (a' := ?_) rfl rfl (by decide +kernel) (fun _ _ _ h => h) (Or.inl ⟨by rfl, ?_⟩) hHeld ?_ ?_ | refine takeS_ 20 (N := some 78) (v := ?_) (a' := ?_) rfl rfl (by decide +kernel) (fun _ _ _ h => h) (Or.inl ⟨by rfl, ?_⟩) hHeld ?_ ?_ | refine takeS_ 21 (N := some 79) (v := ?_) (a' := ?_) rfl rfl (by decide +kernel) (fun _ _ _ h => h) (Or.inl ⟨by rfl, ?_⟩) hHeld ?_ ?_ | refine takeS_ 22 (N := some 80) (v := ?_) (a' := ?_) rfl rfl (by decide +kernel) (fun _ _ _ h => h) (Or.inl ⟨by rfl, ?_⟩) hHeld ?_ ?_); rotate_left; (rintro w' ⟨s0, s1, s2, s3, s4, s5, s6, t0, t1, t2, t3, t4, t5, t6, u0, u1, u2, u3⟩; go_simp; first | done | (with_reducible rfl) | rfl); rotate_left; (simp only [Act.put, List.setIfInBounds_toArray, List.set_cons_zero, List.set_cons_succ, i64_w, i32_w]; rfl)) | ((first | refine takeS_ 18 (N := some 76) (v := undef) (a' := ?_) rfl rfl (by decide +kernel) (fun _ _ _ h => h) (Or.inr ⟨by rfl, rfl⟩) hHeld ?_ ?_ | refine takeS_ 19 (N := some 77) (v := undef) (a' := ?_) rfl rfl (by decide +kernel) (fun _ _ _ h => h) (Or.inr ⟨by rfl, rfl⟩) hHeld ?_ ?_ | refine takeS_ 20 (N := some 78) (v := undef) (a' := ?_) rfl rfl (by decide +kernel) (fun _ _ _ h => h) (Or.inr ⟨by rfl, rfl⟩) hHeld ?_ ?_ | refine takeS_ 21 (N := some 79) (v := undef) (a' := ?_) rfl rfl (by decide +kernel) (fun _ _ _ h => h) (Or.inr ⟨by rfl, rfl⟩) hHeld ?_ ?_ | refine takeS_ 22 (N := some 80) (v := undef) (a' := ?_) rfl rfl (by decide +kernel) (fun _ _ _ h => h) (Or.inr ⟨by rfl, rfl⟩) hHeld ?_ ?_); rotate_left; (simp only [Act.put, List.setIfInBounds_toArray, List.set_cons_zero, List.set_cons_succ, i64_w, i32_w]; rfl)))
  iterate 5 (first | ((first | refine takeS_ 23 (N := some 81) (v := ?_) (a' := ?_) rfl rfl (by decide +kernel) (fun _ _ _ h => h) (Or.inl ⟨by rfl, ?_⟩) hHeld ?_ ?_ | refine takeS_ 24 (N := some 82) (v := ?_) (a' := ?_) rfl rfl (by decide +kernel) (fun _ _ _ h => h) (Or.inl ⟨by rfl, ?_⟩) hHeld ?_ ?_ | refine takeS_ 25 (N := some 83) (v := ?_) (a' := ?_) rfl rfl (by decide +kernel) (fun _ _ _ h => h) (Or.inl ⟨by rfl, ?_⟩) hHeld ?_ ?_ | refine takeS_ 26 (N := some 84) (v := ?_) (a' := ?_) rfl rfl (by decide +kernel) (fun _ _ _ h => h) (Or.inl ⟨by rfl, ?_⟩) hHeld ?_ ?_ | refine takeS_ 27 (N := some 85) (v := ?_) (a' := ?_) rfl rfl (by decide +kernel) (fun _ _ _ h => h) (Or.inl ⟨by rfl, ?_⟩) hHeld ?_ ?_); rotate_left; (rintro w' ⟨s0, s1, s2, s3, s4, s5, s6, t0, t1, t2, t3, t4, t5, t6, u0, u1, u2, u3⟩; go_simp; first | done | (with_reducible rfl) | rfl); rotate_left; (simp only [Act.put, List.setIfInBounds_toArray, List.set_cons_zero, List.set_cons_succ, i64_w, i32_w]; rfl)) | ((first | refine takeS_ 23 (N := some 81) (v := undef) (a' := ?_) rfl rfl (by decide +kernel) (fun _ _ _ h => h) (Or.inr ⟨by rfl, rfl⟩) hHeld ?_ ?_ | refine takeS_ 24 (N := some 82) (v := undef) (a' := ?_) rfl rfl (by decide +kernel) (fun _ _ _ h => h) (Or.inr ⟨by rfl, rfl⟩) hHeld ?_ ?_ | refine takeS_ 25 (N := some 83) (v := undef) (a' := ?_) rfl rfl (by decide +kernel) (fun _ _ _ h => h) (Or.inr ⟨by rfl, rfl⟩) hHeld ?_ ?_ | refine takeS_ 26 (N := some 84) (v := undef) (a' := ?_) rfl rfl (by decide +kernel) (fun _ _ _ h => h) (Or.inr ⟨by rfl, rfl⟩) hHeld ?_ ?_ | refine takeS_ 27 (N := some 85) (v := undef) (a' := ?_) rfl rfl (by decide +kernel) (fun _ _ _ h => h) (Or.inr ⟨by rfl, rfl⟩) hHeld ?_ ?_); rotate_left; (simp only [Act.put, List.setIfInBounds_toArray, List.set_cons_zero, List.set_cons_succ, i64_w, i32_w]; rfl)))
  iterate 5 (first | ((first | refine takeS_ 28 (N := some 86) (v := ?_) (a' := ?_) rfl rfl (by decide +kernel) (fun _ _ _ h => h) (Or.inl ⟨by rfl, ?_⟩) hHeld ?_ ?_ | refine takeS_ 29 (N := some 87) (v := ?_) (a' := ?_) rfl rfl (by decide +kernel) (fun _ _ _ h => h) (Or.inl ⟨by rfl, ?_⟩) hHeld ?_ ?_ | refine takeS_ 31 (N := some 89) (v := ?_) (a' := ?_) rfl rfl (by decide +kernel) (fun _ _ _ h => h) (Or.inl ⟨by rfl, ?_⟩) hHeld ?_ ?_ | refine takeS_ 34 (N := some 92) (v := ?_) (a' := ?_) rfl rfl (by decide +kernel) (fun _ _ _ h => h) (Or.inl ⟨by rfl, ?_⟩) hHeld ?_ ?_ | refine takeS_ 30 (N := some 88) (v := ?_) (a' := ?_) rfl rfl (by decide +kernel) (fun _ _ _ h => h) (Or.inl ⟨by rfl, ?_⟩) hHeld ?_ ?_); rotate_left; (rintro w' ⟨s0, s1, s2, s3, s4, s5, s6, t0, t1, t2, t3, t4, t5, t6, u0, u1, u2, u3⟩; go_simp; first | done | (with_reducible rfl) | rfl); rotate_left; (simp only [Act.put, List.setIfInBounds_toArray, List.set_cons_zero, List.set_cons_succ, i64_w, i32_w]; rfl)) | ((first | refine takeS_ 28 (N := some 86) (v := undef) (a' := ?_) rfl rfl (by decide +kernel) (fun _ _ _ h => h) (Or.inr ⟨by rfl, rfl⟩) hHeld ?_ ?_ | refine takeS_ 29 (N := some 87) (v := undef) (a' := ?_) rfl rfl (by decide +kernel) (fun _ _ _ h => h) (Or.inr ⟨by rfl, rfl⟩) hHeld ?_ ?_ | refine takeS_ 31 (N := some 89) (v := undef) (a' := ?_) rfl rfl (by decide +kernel) (fun _ _ _ h => h) (Or.inr ⟨by rfl, rfl⟩) hHeld ?_ ?_ | refine takeS_ 34 (N := some 92) (v := undef) (a' := ?_) rfl rfl (by decide +kernel) (fun _ _ _ h => h) (Or.inr ⟨by rfl, rfl⟩) hHeld ?_ ?_ | refine takeS_ 30 (N := some 88) (v := undef) (a' := ?_) rfl rfl (by decide +kernel) (fun _ _ _ h => h) (Or.inr ⟨by rfl, rfl⟩) hHeld ?_ ?_); rotate_left; (simp only [Act.put, List.setIfInBounds_toArray, List.set_cons_zero, List.set_cons_succ, i64_w, i32_w]; rfl)))
  iterate 1 (first | ((first | refine takeS_ 33 (N := some 91) (v := ?_) (a' := ?_) rfl rfl (by decide +kernel) (fun _ _ _ h => h) (Or.inl ⟨by rfl, ?_⟩) hHeld ?_ ?_); rotate_left; (rintro w' ⟨s0, s1, s2, s3, s4, s5, s6, t0, t1, t2, t3, t4, t5, t6, u0, u1, u2, u3⟩; go_simp; first | done | (with_reducible rfl) | rfl); rotate_left; (simp only [Act.put, List.setIfInBounds_toArray, List.set_cons_zero, List.set_cons_succ, i64_w, i32_w]; rfl)) | ((first | refine takeS_ 33 (N := some 91) (v := undef) (a' := ?_) rfl rfl (by decide +kernel) (fun _ _ _ h => h) (Or.inr ⟨by rfl, rfl⟩) hHeld ?_ ?_); rotate_left; (simp only [Act.put, List.setIfInBounds_toArray, List.set_cons_zero, List.set_cons_succ, i64_w, i32_w]; rfl)))
  refine oneS_ 32 (N := some 90) rfl rfl (by kernel_rfl) (by decide) (fun K hK => ?_)
  refine goes_ Tryd.func33 (by kernel_rfl) rfl #[.agg #[.slice A l.length c, .int .i64 a1, .int .i64 a2, .int .i64 a3], .int .i64 id] (by rfl) rfl rfl (by first | rfl | (simp [Act.eval]; done) | (simp [Act.eval, Act.put]; done)) ?_
  refine (tree_Links.calls k _ _ l a1 a2 a3 id _ _ (Kd.C_below HR0.out G.out.hb) HC0.out HL.out).mono ?_
  rintro e v2 ⟨rfl, hb⟩
  refine ⟨_, rfl, ?_⟩
  refine hK.out _ _ (by obtain ⟨s0, s1, s2, s3, s4, s5, s6, t0, t1, t2, t3, t4, t5, t6, u0, u1, u2, u3⟩ := hHeld; exact ⟨cellB s0 hb, cellB s1 hb, cellB s2 hb, cellB s3 hb, cellB s4 hb, cellB s5 hb, cellB s6 hb, cellB t0 hb, cellB t1 hb, cellB t2 hb, cellB t3 hb, cellB t4 hb, cellB t5 hb, cellB t6 hb, cellB u0 hb, cellB u1 hb, cellB u2 hb, cellB u3 hb⟩) (fun hHeld => ?_)
  clear hK K
  (have G' := Lib.hid (G.out.below hb); clear G; have G := G'; clear G'; (try (have NA' := Lib.hid (NA.out.below hb); clear NA; have NA := NA'; clear NA')); (try (have NB' := Lib.hid (NB.out.below hb); clear NB; have NB := NB'; clear NB')); clear hb)
  refine norm_ (a' := ?_) ?_ ?_
  rotate_left
  ·
   show Act.put _ (some 90) _ = _
   simp only [Act.put, List.setIfInBounds_toArray, List.set_cons_zero, List.set_cons_succ, i64_w, i32_w]
   rfl
  refine oneS_ 35 (N := some 93) rfl rfl (by kernel_rfl) (by decide) (fun K hK => ?_)
  refine goes_ Tryd.func34 (by kernel_rfl) rfl #[.agg #[.slice A l.length c, .int .i64 a1, .int .i64 a2, .int .i64 a3], .int .i64 id] (by rfl) rfl rfl (by first | rfl | (simp [Act.eval]; done) | (simp [Act.eval, Act.put]; done)) ?_
  refine (rehearsalref04_Links.calls k _ _ l a1 a2 a3 id _ _ (Kd.C_below HR0.out G.out.hb) HC0.out HL'.out).mono ?_
  rintro e v3 ⟨rfl, hb⟩
  refine ⟨_, rfl, ?_⟩
  refine hK.out _ _ (by obtain ⟨s0, s1, s2, s3, s4, s5, s6, t0, t1, t2, t3, t4, t5, t6, u0, u1, u2, u3⟩ := hHeld; exact ⟨cellB s0 hb, cellB s1 hb, cellB s2 hb, cellB s3 hb, cellB s4 hb, cellB s5 hb, cellB s6 hb, cellB t0 hb, cellB t1 hb, cellB t2 hb, cellB t3 hb, cellB t4 hb, cellB t5 hb, cellB t6 hb, cellB u0 hb, cellB u1 hb, cellB u2 hb, cellB u3 hb⟩) (fun hHeld => ?_)
  clear hK K
  (have G' := Lib.hid (G.out.below hb); clear G; have G := G'; clear G'; (try (have NA' := Lib.hid (NA.out.below hb); clear NA; have NA := NA'; clear NA')); (try (have NB' := Lib.hid (NB.out.below hb); clear NB; have NB := NB'; clear NB')); clear hb)
  refine norm_ (a' := ?_) ?_ ?_
  rotate_left
  ·
   show Act.put _ (some 93) _ = _
   simp only [Act.put, List.setIfInBounds_toArray, List.set_cons_zero, List.set_cons_succ, i64_w, i32_w]
   rfl
  iterate 3 (first | ((first | refine takeS_ 36 (N := some 94) (v := ?_) (a' := ?_) rfl rfl (by decide +kernel) (fun _ _ _ h => h) (Or.inl ⟨by rfl, ?_⟩) hHeld ?_ ?_ | refine takeS_ 37 (N := some 95) (v := ?_) (a' := ?_) rfl rfl (by decide +kernel) (fun _ _ _ h => h) (Or.inl ⟨by rfl, ?_⟩) hHeld ?_ ?_ | refine takeS_ 38 (N := some 96) (v := ?_) (a' := ?_) rfl rfl (by decide +kernel) (fun _ _ _ h => h) (Or.inl ⟨by rfl, ?_⟩) hHeld ?_ ?_); rotate_left; (rintro w' ⟨s0, s1, s2, s3, s4, s5, s6, t0, t1, t2, t3, t4, t5, t6, u0, u1, u2, u3⟩; go_simp; first | done | (with_reducible rfl) | rfl); rotate_left; (simp only [Act.put, List.setIfInBounds_toArray, List.set_cons_zero, List.set_cons_succ, i64_w, i32_w]; rfl)) | ((first | refine takeS_ 36 (N := some 94) (v := undef) (a' := ?_) rfl rfl (by decide +kernel) (fun _ _ _ h => h) (Or.inr ⟨by rfl, rfl⟩) hHeld ?_ ?_ | refine takeS_ 37 (N := some 95) (v := undef) (a' := ?_) rfl rfl (by decide +kernel) (fun _ _ _ h => h) (Or.inr ⟨by rfl, rfl⟩) hHeld ?_ ?_ | refine takeS_ 38 (N := some 96) (v := undef) (a' := ?_) rfl rfl (by decide +kernel) (fun _ _ _ h => h) (Or.inr ⟨by rfl, rfl⟩) hHeld ?_ ?_); rotate_left; (simp only [Act.put, List.setIfInBounds_toArray, List.set_cons_zero, List.set_cons_succ, i64_w, i32_w]; rfl)))
  refine oneS_ 39 (N := some 97) rfl rfl (by kernel_rfl) (by decide) (fun K hK => ?_)
  refine goes_ Tryd.func16 (by kernel_rfl) rfl #[] (by rfl) rfl rfl (by first | rfl | (simp [Act.eval]; done) | (simp [Act.eval, Act.put]; done)) ?_
  refine (awake_any _).mono ?_
  rintro e v4 ⟨rfl, hb⟩
  refine ⟨_, rfl, ?_⟩
  refine hK.out _ _ (by obtain ⟨s0, s1, s2, s3, s4, s5, s6, t0, t1, t2, t3, t4, t5, t6, u0, u1, u2, u3⟩ := hHeld; exact ⟨cellB s0 hb, cellB s1 hb, cellB s2 hb, cellB s3 hb, cellB s4 hb, cellB s5 hb, cellB s6 hb, cellB t0 hb, cellB t1 hb, cellB t2 hb, cellB t3 hb, cellB t4 hb, cellB t5 hb, cellB t6 hb, cellB u0 hb, cellB u1 hb, cellB u2 hb, cellB u3 hb⟩) (fun hHeld => ?_)
  clear hK K
  (have G' := Lib.hid (G.out.below hb); clear G; have G := G'; clear G'; (try (have NA' := Lib.hid (NA.out.below hb); clear NA; have NA := NA'; clear NA')); (try (have NB' := Lib.hid (NB.out.below hb); clear NB; have NB := NB'; clear NB')); clear hb)
  refine norm_ (a' := ?_) ?_ ?_
  rotate_left
  ·
   show Act.put _ (some 97) _ = _
   simp only [Act.put, List.setIfInBounds_toArray, List.set_cons_zero, List.set_cons_succ, i64_w, i32_w]
   rfl
  iterate 2 (first | ((first | refine takeS_ 40 (N := some 98) (v := ?_) (a' := ?_) rfl rfl (by decide +kernel) (fun _ _ _ h => h) (Or.inl ⟨by rfl, ?_⟩) hHeld ?_ ?_ | refine takeS_ 41 (N := some 6) (v := ?_) (a' := ?_) rfl rfl (by decide +kernel) (fun _ _ _ h => h) (Or.inl ⟨by rfl, ?_⟩) hHeld ?_ ?_); rotate_left; (rintro w' ⟨s0, s1, s2, s3, s4, s5, s6, t0, t1, t2, t3, t4, t5, t6, u0, u1, u2, u3⟩; go_simp; first | done | (with_reducible rfl) | rfl); rotate_left; (simp only [Act.put, List.setIfInBounds_toArray, List.set_cons_zero, List.set_cons_succ, i64_w, i32_w]; rfl)) | ((first | refine takeS_ 40 (N := some 98) (v := undef) (a' := ?_) rfl rfl (by decide +kernel) (fun _ _ _ h => h) (Or.inr ⟨by rfl, rfl⟩) hHeld ?_ ?_ | refine takeS_ 41 (N := some 6) (v := undef) (a' := ?_) rfl rfl (by decide +kernel) (fun _ _ _ h => h) (Or.inr ⟨by rfl, rfl⟩) hHeld ?_ ?_); rotate_left; (simp only [Act.put, List.setIfInBounds_toArray, List.set_cons_zero, List.set_cons_succ, i64_w, i32_w]; rfl)))
  refine done_ (by kernel_rfl) ?_
  go_wp2
  go_ret
  exact ⟨rfl, G.out.hb⟩
end Go.Proofs.YtnpnablnnfekkaaDoor.PTr
namespace Go.Proofs.YtnpnablnnfekkaaDoor.PTr
open Go.RowKit Go.Proofs.YtnpnablnnfekkaaDoor Go.Proofs.YtnpnablnnfekkaaDoorW.PrintWords
theorem tells_walk (t : TreeV) (id : Int) (nm : ByteArray) (w : World) (h : t.ok w) (_ : -9223372036854775808 ≤ id ∧ id ≤ 9223372036854775807) (_ : nm.size ≤ 140737488351232) : Calls Tryd.prog 5 #[t.val, .int .i64 id, .string nm] w fun e w' => e = .returned (.bool true) ∧ Below w.heap.size w w' :=
 tells_any t.l t.A t.c t.b1 t.b2 t.b3 id nm w h.1 h.2.1 (bd_of h)
end Go.Proofs.YtnpnablnnfekkaaDoor.PTr
