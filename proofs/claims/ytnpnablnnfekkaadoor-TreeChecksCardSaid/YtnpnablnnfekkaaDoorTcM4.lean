/- Texts of this claim's proof: small lemmas, walks and plain laws (merged by wip/shake.py). -/
import Derived.Test.YtnpnablnnfekkaaDoorTcM1
import Derived.Test.YtnpnablnnfekkaaDoorTcM2
import Derived.Test.YtnpnablnnfekkaaDoorTcM3
namespace Go.Proofs.YtnpnablnnfekkaaDoor.PTr
open Go.RowKit Go.Proofs.YtnpnablnnfekkaaDoorW.PrintWords Go.Proofs.YtnpnablnnfekkaaDoorW.PrintLast Go.Proofs.YtnpnablnnfekkaaDoorW.PrintMore
attribute [local go_sem] max2_int min2_int max_two min_two max_three min_three max_four min_four   -- for this text's walks alone
set_option linter.unusedVariables false
set_option linter.unusedSimpArgs false
theorem w64_PTr18 (x : Int) : wrap64 (x % 256) = x % 256 := by unfold wrap64; omega
mutual
def rehearsalref04_Check.j0 : Nat → Bool → List (S44) → Int → Int → Int → Option (Int)
 | 0, _, _, _, _, _ => none
 | k + 1, x33, x196000, x196001, x196002, x196003 => if x33 = true then (some 80) else (rehearsalref04_Check.l0 k 0 x196000 x196001 x196002 x196003)
def rehearsalref04_Check.l0 : Nat → Int → List (S44) → Int → Int → Int → Option (Int)
 | 0, _, _, _, _, _ => none
 | k + 1, x3, x196000, x196001, x196002, x196003 => if x3 < (x196000.length : Int) then (if 0 ≤ x3 then ((rehearsalref04_plain.f k ((rd_T44 x196000 x3).f0) ((rd_T44 x196000 x3).f1) ((rd_T44 x196000 x3).f2) ((rd_T44 x196000 x3).f3) ((rd_T44 x196000 x3).f4) ((rd_T44 x196000 x3).f5) ((rd_T44 x196000 x3).f6)).bind fun t200 => (if t200 = true then (if ((rd_T44 x196000 x3).f0) > x196001 then (rehearsalref04_Check.j2 k x3 true x196000 x196001 x196002 x196003 ((rd_T44 x196000 x3).f0) ((rd_T44 x196000 x3).f1) ((rd_T44 x196000 x3).f2) ((rd_T44 x196000 x3).f3) ((rd_T44 x196000 x3).f4) ((rd_T44 x196000 x3).f5) ((rd_T44 x196000 x3).f6)) else (if x3 > 0 then (if 0 ≤ (wrap64 (x3 - 1)) then (if (wrap64 (x3 - 1)) < (x196000.length : Int) then (rehearsalref04_Check.j2 k x3 (decide (((rd_T44 x196000 x3).f0) ≤ ((rd_T44 x196000 (wrap64 (x3 - 1))).f0))) x196000 x196001 x196002 x196003 ((rd_T44 x196000 x3).f0) ((rd_T44 x196000 x3).f1) ((rd_T44 x196000 x3).f2) ((rd_T44 x196000 x3).f3) ((rd_T44 x196000 x3).f4) ((rd_T44 x196000 x3).f5) ((rd_T44 x196000 x3).f6)) else (none)) else (none)) else (rehearsalref04_Check.j2 k x3 false x196000 x196001 x196002 x196003 ((rd_T44 x196000 x3).f0) ((rd_T44 x196000 x3).f1) ((rd_T44 x196000 x3).f2) ((rd_T44 x196000 x3).f3) ((rd_T44 x196000 x3).f4) ((rd_T44 x196000 x3).f5) ((rd_T44 x196000 x3).f6)))) else (rehearsalref04_Check.j2 k x3 true x196000 x196001 x196002 x196003 ((rd_T44 x196000 x3).f0) ((rd_T44 x196000 x3).f1) ((rd_T44 x196000 x3).f2) ((rd_T44 x196000 x3).f3) ((rd_T44 x196000 x3).f4) ((rd_T44 x196000 x3).f5) ((rd_T44 x196000 x3).f6)))) else (none)) else (rehearsalref04_Check.l2 k 0 x196000 x196001 x196002 x196003)
def rehearsalref04_Check.j2 : Nat → Int → Bool → List (S44) → Int → Int → Int → Int → Int → Int → Int → Int → ByteArray → List (S61) → Option (Int)
 | 0, _, _, _, _, _, _, _, _, _, _, _, _, _ => none
 | k + 1, x3, x71, x196000, x196001, x196002, x196003, x200000, x200001, x200002, x200003, x200004, x200005, x200006 => if x71 = true then (some 80) else (rehearsalref04_Check.l1 k x3 0 x196000 x196001 x196002 x196003 x200000 x200001 x200002 x200003 x200004 x200005 x200006)
def rehearsalref04_Check.l1 : Nat → Int → Int → List (S44) → Int → Int → Int → Int → Int → Int → Int → Int → ByteArray → List (S61) → Option (Int)
 | 0, _, _, _, _, _, _, _, _, _, _, _, _, _ => none
 | k + 1, x3, x5, x196000, x196001, x196002, x196003, x200000, x200001, x200002, x200003, x200004, x200005, x200006 => if x5 < (x200006.length : Int) then (if 0 ≤ x5 then ((rehearsalref04_Place.f k x196000 x196001 x196002 x196003 ((rd_T61 x200006 x5).f1)).bind fun t203 => (if t203 < 0 then (some 80) else (rehearsalref04_Check.l1 k x3 (wrap64 (x5 + 1)) x196000 x196001 x196002 x196003 x200000 x200001 x200002 x200003 x200004 x200005 x200006))) else (none)) else (rehearsalref04_Check.l0 k (wrap64 (x3 + 1)) x196000 x196001 x196002 x196003)
def rehearsalref04_Check.l2 : Nat → Int → List (S44) → Int → Int → Int → Option (Int)
 | 0, _, _, _, _, _ => none
 | k + 1, x6, x196000, x196001, x196002, x196003 => if x6 < (x196000.length : Int) then (if 0 ≤ x6 then ((rehearsalref04_Links.f k x196000 x196001 x196002 x196003 ((rd_T44 x196000 x6).f0)).bind fun t205 => (if x6 = 0 then (if t205 > 0 then (rehearsalref04_Check.j5 k x6 true x196000 x196001 x196002 x196003) else (if x6 > 0 then (if t205 = 0 then (rehearsalref04_Check.j5 k x6 true x196000 x196001 x196002 x196003) else (if ((rd_T44 x196000 x6).f1) = 1 then (rehearsalref04_Check.j5 k x6 (decide (t205 > 1)) x196000 x196001 x196002 x196003) else (rehearsalref04_Check.j5 k x6 false x196000 x196001 x196002 x196003))) else (if ((rd_T44 x196000 x6).f1) = 1 then (rehearsalref04_Check.j5 k x6 (decide (t205 > 1)) x196000 x196001 x196002 x196003) else (rehearsalref04_Check.j5 k x6 false x196000 x196001 x196002 x196003)))) else (if x6 > 0 then (if t205 = 0 then (rehearsalref04_Check.j5 k x6 true x196000 x196001 x196002 x196003) else (if ((rd_T44 x196000 x6).f1) = 1 then (rehearsalref04_Check.j5 k x6 (decide (t205 > 1)) x196000 x196001 x196002 x196003) else (rehearsalref04_Check.j5 k x6 false x196000 x196001 x196002 x196003))) else (if ((rd_T44 x196000 x6).f1) = 1 then (rehearsalref04_Check.j5 k x6 (decide (t205 > 1)) x196000 x196001 x196002 x196003) else (rehearsalref04_Check.j5 k x6 false x196000 x196001 x196002 x196003))))) else (none)) else ((rehearsalref04_Way.f k x196000 x196001 x196002 x196003 1 (⟨#[47]⟩ : ByteArray) ([] : List (S87))).bind fun t210 => (if (t210.length : Int) = (x196000.length : Int) then (some 0) else (some 80)))
def rehearsalref04_Check.j5 : Nat → Int → Bool → List (S44) → Int → Int → Int → Option (Int)
 | 0, _, _, _, _, _, _ => none
 | k + 1, x6, x129, x196000, x196001, x196002, x196003 => if x129 = true then (some 80) else (rehearsalref04_Check.l2 k (wrap64 (x6 + 1)) x196000 x196001 x196002 x196003)
end
def rehearsalref04_Check.f (k : Nat) (l0_0 : List (S44)) (a0_1 : Int) (a0_2 : Int) (a0_3 : Int) : Option (Int) := if (l0_0.length : Int) < 1 then (rehearsalref04_Check.j0 k true l0_0 a0_1 a0_2 a0_3) else (if (l0_0.length : Int) > 512 then (rehearsalref04_Check.j0 k true l0_0 a0_1 a0_2 a0_3) else (if 0 < (l0_0.length : Int) then (if ((rd_T44 l0_0 0).f0) = 1 then (rehearsalref04_Check.j0 k (((rd_T44 l0_0 0).f1) != 1) l0_0 a0_1 a0_2 a0_3) else (rehearsalref04_Check.j0 k true l0_0 a0_1 a0_2 a0_3)) else (none)))
def rehearsalref04_Check.T7 : Bool × List (List Nat × List Nat) := (true, [([], []), ([0], [0]), ([1], [1]), ([2, 1], [2]), ([3], [3]), ([4, 3], [3, 4]), ([3], [3]), ([6, 3], [3, 6]), ([5, 7, 3], [3, 5, 7]), ([3, 8], [3, 8]), ([9, 3], [9]), ([10], [10]), ([11, 10], [10, 11]), ([12, 10, 10], [10, 12]), ([13], [13]), ([14, 13], [13, 14]), ([13], [13]), ([16, 13], [13, 16]), ([13], [13]), ([18, 13], [13, 18]), ([17, 19, 13], [13, 17, 19]), ([20, 13], [13, 20]), ([21, 13], [13, 21]), ([15, 22, 13], [13, 15, 22]), ([13, 23, 10], [10, 13, 23]), ([10, 24], [10, 24])])
def rehearsalref04_Check.B7 : List Nat := [0, 1, 3, 7, 15, 31, 15, 79, 255, 511, 1023, 2047, 4095, 8191, 16383, 32767, 16383, 81919, 16383, 278527, 999423, 2047999, 4145151, 8388607, 16777215, 33554431]
theorem rehearsalref04_Check.tab7 : rtab .any (opsOf Tryd.f18 7) = rehearsalref04_Check.T7 := by kernel_rfl
theorem rehearsalref04_Check.bits7 : waitsOk rehearsalref04_Check.T7.2 rehearsalref04_Check.B7 = true := by kernel_rfl
def rehearsalref04_Check.T12 : Bool × List (List Nat × List Nat) := (true, [([], []), ([], []), ([1], [1]), ([], []), ([2, 3], [2, 3]), ([4], [4]), ([5], [5]), ([0, 6], [0, 6]), ([7], [7])])
def rehearsalref04_Check.B12 : List Nat := [0, 0, 2, 0, 14, 30, 62, 127, 255]
theorem rehearsalref04_Check.tab12 : rtab .any (opsOf Tryd.f18 12) = rehearsalref04_Check.T12 := by kernel_rfl
theorem rehearsalref04_Check.bits12 : waitsOk rehearsalref04_Check.T12.2 rehearsalref04_Check.B12 = true := by kernel_rfl
def rehearsalref04_Check.T17 : Bool × List (List Nat × List Nat) := (true, [([], []), ([], []), ([1], [1]), ([], []), ([2, 3], [2, 3]), ([4], [4]), ([5], [5]), ([0, 6], [0, 6]), ([7, 7, 0, 1, 2, 3, 4, 5, 6, 7], [7])])
def rehearsalref04_Check.B17 : List Nat := [0, 0, 2, 0, 14, 30, 62, 127, 255]
theorem rehearsalref04_Check.tab17 : rtab .any (opsOf Tryd.f18 17) = rehearsalref04_Check.T17 := by kernel_rfl
theorem rehearsalref04_Check.bits17 : waitsOk rehearsalref04_Check.T17.2 rehearsalref04_Check.B17 = true := by kernel_rfl
set_option maxHeartbeats 8000000 in
set_option maxRecDepth 100000 in
theorem rehearsalref04_Check.calls (k : Nat) (A0_0 : Option Addr) (c0_0 : Nat) (l0_0 : List (S44)) (a0_1 : Int) (a0_2 : Int) (a0_3 : Int) (r : Int) (w : World) (hr0_0 : Kd.C k44 w A0_0 l0_0.length l0_0) (hc0_0 : l0_0.length ≤ c0_0) (h : rehearsalref04_Check.f k l0_0 a0_1 a0_2 a0_3 = some r) :
  Calls Tryd.prog 18 #[.agg #[.slice A0_0 l0_0.length c0_0, .int .i64 a0_1, .int .i64 a0_2, .int .i64 a0_3]] w fun e w' => e = .returned (.int .i64 r) ∧ Below w.heap.size w w' := by
 have hu26 := Tryd.underlying26
 have hu44 := Tryd.underlying44
 have HR0_0 := Aside0.mk hr0_0
 have HC0_0 := Aside0.mk hc0_0
 clear hr0_0 hc0_0
 have HB := Aside0.mk (Below.refl w.heap.size w)
 have H : (if (l0_0.length : Int) < 1 then (rehearsalref04_Check.j0 k true l0_0 a0_1 a0_2 a0_3) else (if (l0_0.length : Int) > 512 then (rehearsalref04_Check.j0 k true l0_0 a0_1 a0_2 a0_3) else (if 0 < (l0_0.length : Int) then (if ((rd_T44 l0_0 0).f0) = 1 then (rehearsalref04_Check.j0 k (((rd_T44 l0_0 0).f1) != 1) l0_0 a0_1 a0_2 a0_3) else (rehearsalref04_Check.j0 k true l0_0 a0_1 a0_2 a0_3)) else (none)))) = some r := h
 clear h
 have HC2 := Aside0.mk H
 clear H
 go_enter Tryd.func18, Tryd.ntmps18
 go_upto_region 1 with (first | ((with_reducible refine gate_dst (N := 1) rfl ?_); (try (refine gate_guard (by rfl) ?_; dsimp only)); refine box_event ?hg (N := 1) ?hd (cs := #[.slice A0_0 l0_0.length c0_0, .int .i64 a0_1, .int .i64 a0_2, .int .i64 a0_3]) (t := 26) ?hr ?_; (case hd => rfl); (case hg => rfl); (case hr => first | (go_simp; done) | (go_simp; rfl)); intro gb195 hg w3 hbox hb; have n0_ := Aside0.mk (below_step (by repeat (first | (with_reducible first | exact HB.out | apply below_alloc | apply pw_below_drewN | apply below_drew1) | exact HB.out)) hb); have n1_ := Aside0.mk (hbox); have n2_ := Aside0.mk ((by rw [hg]; exact (below_size (by repeat (first | (with_reducible first | exact HB.out | apply below_alloc | apply pw_below_drewN | apply below_drew1) | exact HB.out))) : w.heap.size ≤ gb195)); have n3_ := Aside0.mk ((by rw [hg]; exact (below_size (by repeat (first | (with_reducible first | exact HB.out | apply below_alloc | apply pw_below_drewN | apply below_drew1) | exact HB.out))) : w.heap.size ≤ gb195)); clear HB; have HB := n0_; have BK195 := n1_; have GW195 := n2_; have GE195 := n3_; clear n0_ n1_ n2_ n3_; clear hb hbox hg))
 (try simp only [Act.put, List.setIfInBounds_toArray, List.set_cons_zero, List.set_cons_succ])
 go_cut [33] (fun v33 wc => ∃ (kq : Nat) (x33_1 : Bool), v33 = .bool x33_1 ∧ Aside0 (rehearsalref04_Check.j0 kq x33_1 l0_0 a0_1 a0_2 a0_3 = some r) ∧ Aside0 (kq ≤ k) ∧ Aside0 (wc.heap[gb195]? = some (.cells #[(.slice A0_0 l0_0.length c0_0), .int .i64 a0_1, .int .i64 a0_2, .int .i64 a0_3] 26 (0, 0))) ∧ Aside0 (Below w.heap.size w wc))
 case first =>
  have H := HC2.out
  clear HC2
  by_cases c4 : (l0_0.length : Int) < 1
  ·
   as_aux_lemma =>
   rw [if_pos c4] at H
   have c4b0 : decide ((l0_0.length : Int) < 1) = true := decide_eq_true c4
   have c4b1 : decide (l0_0.length < 1) = true := decide_eq_true (by omega)
   clear c4
   (first | rw [c4b0] | (simp only [i64_w, i32_w]; rw [c4b0]) | skip)
   have H' := Aside0.mk H
   clear H
   have hcz5_0 : w3.cell? ⟨gb195, 0, none⟩ = some (.slice A0_0 l0_0.length c0_0) := (blk_cell BK195.out 0).trans rfl
   have hcz5_1 : w3.cell? ⟨gb195, 1, none⟩ = some (.int .i64 a0_1) := (blk_cell BK195.out 1).trans rfl
   have hcz5_2 : w3.cell? ⟨gb195, 2, none⟩ = some (.int .i64 a0_2) := (blk_cell BK195.out 2).trans rfl
   have hcz5_3 : w3.cell? ⟨gb195, 3, none⟩ = some (.int .i64 a0_3) := (blk_cell BK195.out 3).trans rfl
   have hfz5_0 := blk_frozen BK195.out 0
   have hfz5_1 := blk_frozen BK195.out 1
   have hfz5_2 := blk_frozen BK195.out 2
   have hfz5_3 := blk_frozen BK195.out 3
   go_wp2
   go_meet
   case rel => exact ⟨_, (true), (by first | rfl | (simp; done) | (simp [*]; done)), H', ⟨by first | omega | exact Nat.le_refl _⟩, ⟨by (with_reducible repeat (first | refine blk_drewN ?_ _ | refine blk_drew ?_ | refine blk_alloc ?_ _)); exact BK195.out⟩, ⟨by repeat (first | (with_reducible first | exact HB.out | apply below_alloc | apply pw_below_drewN | apply below_drew1 | refine below_set ?_ GE195.out) | exact HB.out)⟩⟩
  ·
   as_aux_lemma =>
   rw [if_neg c4] at H
   have c4b0 : decide ((l0_0.length : Int) < 1) = false := decide_eq_false c4
   have c4b1 : decide (l0_0.length < 1) = false := decide_eq_false (by omega)
   clear c4
   (first | rw [c4b0] | (simp only [i64_w, i32_w]; rw [c4b0]) | skip)
   by_cases c6 : (l0_0.length : Int) > 512
   ·
    as_aux_lemma =>
    rw [if_pos c6] at H
    have c6b0 : decide (512 < (l0_0.length : Int)) = true := decide_eq_true c6
    have c6b1 : decide (512 < l0_0.length) = true := decide_eq_true (by omega)
    clear c6
    have H' := Aside0.mk H
    clear H
    have hcz7_0 : w3.cell? ⟨gb195, 0, none⟩ = some (.slice A0_0 l0_0.length c0_0) := (blk_cell BK195.out 0).trans rfl
    have hcz7_1 : w3.cell? ⟨gb195, 1, none⟩ = some (.int .i64 a0_1) := (blk_cell BK195.out 1).trans rfl
    have hcz7_2 : w3.cell? ⟨gb195, 2, none⟩ = some (.int .i64 a0_2) := (blk_cell BK195.out 2).trans rfl
    have hcz7_3 : w3.cell? ⟨gb195, 3, none⟩ = some (.int .i64 a0_3) := (blk_cell BK195.out 3).trans rfl
    have hfz7_0 := blk_frozen BK195.out 0
    have hfz7_1 := blk_frozen BK195.out 1
    have hfz7_2 := blk_frozen BK195.out 2
    have hfz7_3 := blk_frozen BK195.out 3
    go_wp2
    go_meet
    case rel => exact ⟨_, (true), (by first | rfl | (simp; done) | (simp [*]; done)), H', ⟨by first | omega | exact Nat.le_refl _⟩, ⟨by (with_reducible repeat (first | refine blk_drewN ?_ _ | refine blk_drew ?_ | refine blk_alloc ?_ _)); exact BK195.out⟩, ⟨by repeat (first | (with_reducible first | exact HB.out | apply below_alloc | apply pw_below_drewN | apply below_drew1 | refine below_set ?_ GE195.out) | exact HB.out)⟩⟩
   ·
    as_aux_lemma =>
    rw [if_neg c6] at H
    have c6b0 : decide (512 < (l0_0.length : Int)) = false := decide_eq_false c6
    have c6b1 : decide (512 < l0_0.length) = false := decide_eq_false (by omega)
    clear c6
    by_cases c8 : 0 < (l0_0.length : Int)
    ·
     as_aux_lemma =>
     rw [if_pos c8] at H
     have c8b0 : decide (0 < (l0_0.length : Int)) = true := decide_eq_true c8
     have c8b1 : decide (0 < l0_0.length) = true := decide_eq_true (by omega)
     clear c8
     by_cases c9 : ((rd_T44 l0_0 0).f0) = 1
     ·
      as_aux_lemma =>
      rw [if_pos c9] at H
      have c9b0 : (((rd_T44 l0_0 0).f0) == 1) = true := beq_iff_eq.mpr c9
      have c9b1 : (((rd_T44 l0_0 0).f0) != 1) = false := bne_eq_false_iff_eq.mpr c9
      clear c9
      have H' := Aside0.mk H
      clear H
      have hcz10_0 : w3.cell? ⟨gb195, 0, none⟩ = some (.slice A0_0 l0_0.length c0_0) := (blk_cell BK195.out 0).trans rfl
      have hcz10_1 : w3.cell? ⟨gb195, 1, none⟩ = some (.int .i64 a0_1) := (blk_cell BK195.out 1).trans rfl
      have hcz10_2 : w3.cell? ⟨gb195, 2, none⟩ = some (.int .i64 a0_2) := (blk_cell BK195.out 2).trans rfl
      have hcz10_3 : w3.cell? ⟨gb195, 3, none⟩ = some (.int .i64 a0_3) := (blk_cell BK195.out 3).trans rfl
      have hfz10_0 := blk_frozen BK195.out 0
      have hfz10_1 := blk_frozen BK195.out 1
      have hfz10_2 := blk_frozen BK195.out 2
      have hfz10_3 := blk_frozen BK195.out 3
      have p196 : 0 ≤ (0 : Int) := (by omega)
      have q196 : 0 < (l0_0.length : Int) := of_decide_eq_true (by first | (with_reducible assumption) | assumption)
      obtain ⟨ad196, A196_6, c196_6, e196, hx196_0, hx196_1, hx196_2, hx196_3, hx196_4, hx196_5, hx196_6, hl196_6, hi196_6⟩ := at_T44 HR0_0.out 0 p196 q196
      cases e196
      have qi196 : (0 < l0_0.length) = True := eq_true (by omega)
      (try rw [show ((0 : Int)).toNat = 0 from rfl] at hx196_0)
      (try rw [show 0 * 7 = 0 from rfl] at hx196_0)
      (try rw [Addr.add_zero'] at hx196_0)
      (try rw [show ((0 : Int)).toNat = 0 from rfl] at hx196_1)
      (try rw [show 0 * 7 = 0 from rfl] at hx196_1)
      (try rw [Addr.add_zero'] at hx196_1)
      (try rw [show ((0 : Int)).toNat = 0 from rfl] at hx196_2)
      (try rw [show 0 * 7 = 0 from rfl] at hx196_2)
      (try rw [Addr.add_zero'] at hx196_2)
      (try rw [show ((0 : Int)).toNat = 0 from rfl] at hx196_3)
      (try rw [show 0 * 7 = 0 from rfl] at hx196_3)
      (try rw [Addr.add_zero'] at hx196_3)
      (try rw [show ((0 : Int)).toNat = 0 from rfl] at hx196_4)
      (try rw [show 0 * 7 = 0 from rfl] at hx196_4)
      (try rw [Addr.add_zero'] at hx196_4)
      (try rw [show ((0 : Int)).toNat = 0 from rfl] at hx196_5)
      (try rw [show 0 * 7 = 0 from rfl] at hx196_5)
      (try rw [Addr.add_zero'] at hx196_5)
      (try rw [show ((0 : Int)).toNat = 0 from rfl] at hx196_6)
      (try rw [show 0 * 7 = 0 from rfl] at hx196_6)
      (try rw [Addr.add_zero'] at hx196_6)
      replace hx196_0 := (HB.out.cell (World.block_lt_of_cell? w _ hx196_0)).trans hx196_0
      replace hx196_1 := (HB.out.cell (World.block_lt_of_cell? w _ hx196_1)).trans hx196_1
      replace hx196_2 := (HB.out.cell (World.block_lt_of_cell? w _ hx196_2)).trans hx196_2
      replace hx196_3 := (HB.out.cell (World.block_lt_of_cell? w _ hx196_3)).trans hx196_3
      replace hx196_4 := (HB.out.cell (World.block_lt_of_cell? w _ hx196_4)).trans hx196_4
      replace hx196_5 := (HB.out.cell (World.block_lt_of_cell? w _ hx196_5)).trans hx196_5
      replace hx196_6 := (HB.out.cell (World.block_lt_of_cell? w _ hx196_6)).trans hx196_6
      have HR196_6 := Aside0.mk hi196_6
      have HC196_6 := Aside0.mk hl196_6
      clear hi196_6 hl196_6
      replace p196 := eq_true p196
      replace q196 := eq_true q196
      have p197 : 0 ≤ (0 : Int) := (by omega)
      have q197 : 0 < (l0_0.length : Int) := of_decide_eq_true (by first | (with_reducible assumption) | assumption)
      obtain ⟨ad197, A197_6, c197_6, e197, hx197_0, hx197_1, hx197_2, hx197_3, hx197_4, hx197_5, hx197_6, hl197_6, hi197_6⟩ := at_T44 HR0_0.out 0 p197 q197
      obtain rfl : ad196 = ad197 := (by injection e197)
      have qi197 : (0 < l0_0.length) = True := eq_true (by omega)
      (try rw [show ((0 : Int)).toNat = 0 from rfl] at hx197_0)
      (try rw [show 0 * 7 = 0 from rfl] at hx197_0)
      (try rw [Addr.add_zero'] at hx197_0)
      (try rw [show ((0 : Int)).toNat = 0 from rfl] at hx197_1)
      (try rw [show 0 * 7 = 0 from rfl] at hx197_1)
      (try rw [Addr.add_zero'] at hx197_1)
      (try rw [show ((0 : Int)).toNat = 0 from rfl] at hx197_2)
      (try rw [show 0 * 7 = 0 from rfl] at hx197_2)
      (try rw [Addr.add_zero'] at hx197_2)
      (try rw [show ((0 : Int)).toNat = 0 from rfl] at hx197_3)
      (try rw [show 0 * 7 = 0 from rfl] at hx197_3)
      (try rw [Addr.add_zero'] at hx197_3)
      (try rw [show ((0 : Int)).toNat = 0 from rfl] at hx197_4)
      (try rw [show 0 * 7 = 0 from rfl] at hx197_4)
      (try rw [Addr.add_zero'] at hx197_4)
      (try rw [show ((0 : Int)).toNat = 0 from rfl] at hx197_5)
      (try rw [show 0 * 7 = 0 from rfl] at hx197_5)
      (try rw [Addr.add_zero'] at hx197_5)
      (try rw [show ((0 : Int)).toNat = 0 from rfl] at hx197_6)
      (try rw [show 0 * 7 = 0 from rfl] at hx197_6)
      (try rw [Addr.add_zero'] at hx197_6)
      replace hx197_0 := (HB.out.cell (World.block_lt_of_cell? w _ hx197_0)).trans hx197_0
      replace hx197_1 := (HB.out.cell (World.block_lt_of_cell? w _ hx197_1)).trans hx197_1
      replace hx197_2 := (HB.out.cell (World.block_lt_of_cell? w _ hx197_2)).trans hx197_2
      replace hx197_3 := (HB.out.cell (World.block_lt_of_cell? w _ hx197_3)).trans hx197_3
      replace hx197_4 := (HB.out.cell (World.block_lt_of_cell? w _ hx197_4)).trans hx197_4
      replace hx197_5 := (HB.out.cell (World.block_lt_of_cell? w _ hx197_5)).trans hx197_5
      replace hx197_6 := (HB.out.cell (World.block_lt_of_cell? w _ hx197_6)).trans hx197_6
      have HR197_6 := Aside0.mk hi197_6
      have HC197_6 := Aside0.mk hl197_6
      clear hi197_6 hl197_6
      replace p197 := eq_true p197
      replace q197 := eq_true q197
      have ea_ := Option.some.inj (hx196_6.symm.trans hx197_6)
      injection ea_ with ea_ en_ ec_
      subst ea_
      subst ec_
      clear en_
      go_wp2
      go_meet
      case rel => exact ⟨_, ((((rd_T44 l0_0 0).f1) != 1)), (by first | rfl | (simp; done) | (simp [*]; done)), H', ⟨by first | omega | exact Nat.le_refl _⟩, ⟨by (with_reducible repeat (first | refine blk_drewN ?_ _ | refine blk_drew ?_ | refine blk_alloc ?_ _)); exact BK195.out⟩, ⟨by repeat (first | (with_reducible first | exact HB.out | apply below_alloc | apply pw_below_drewN | apply below_drew1 | refine below_set ?_ GE195.out) | exact HB.out)⟩⟩
     ·
      as_aux_lemma =>
      rw [if_neg c9] at H
      have c9b0 : (((rd_T44 l0_0 0).f0) == 1) = false := beq_eq_false_iff_ne.mpr c9
      have c9b1 : (((rd_T44 l0_0 0).f0) != 1) = true := bne_iff_ne.mpr c9
      have H' := Aside0.mk H
      clear H
      have hcz11_0 : w3.cell? ⟨gb195, 0, none⟩ = some (.slice A0_0 l0_0.length c0_0) := (blk_cell BK195.out 0).trans rfl
      have hcz11_1 : w3.cell? ⟨gb195, 1, none⟩ = some (.int .i64 a0_1) := (blk_cell BK195.out 1).trans rfl
      have hcz11_2 : w3.cell? ⟨gb195, 2, none⟩ = some (.int .i64 a0_2) := (blk_cell BK195.out 2).trans rfl
      have hcz11_3 : w3.cell? ⟨gb195, 3, none⟩ = some (.int .i64 a0_3) := (blk_cell BK195.out 3).trans rfl
      have hfz11_0 := blk_frozen BK195.out 0
      have hfz11_1 := blk_frozen BK195.out 1
      have hfz11_2 := blk_frozen BK195.out 2
      have hfz11_3 := blk_frozen BK195.out 3
      have p196 : 0 ≤ (0 : Int) := (by omega)
      have q196 : 0 < (l0_0.length : Int) := of_decide_eq_true (by first | (with_reducible assumption) | assumption)
      obtain ⟨ad196, A196_6, c196_6, e196, hx196_0, hx196_1, hx196_2, hx196_3, hx196_4, hx196_5, hx196_6, hl196_6, hi196_6⟩ := at_T44 HR0_0.out 0 p196 q196
      cases e196
      have qi196 : (0 < l0_0.length) = True := eq_true (by omega)
      (try rw [show ((0 : Int)).toNat = 0 from rfl] at hx196_0)
      (try rw [show 0 * 7 = 0 from rfl] at hx196_0)
      (try rw [Addr.add_zero'] at hx196_0)
      (try rw [show ((0 : Int)).toNat = 0 from rfl] at hx196_1)
      (try rw [show 0 * 7 = 0 from rfl] at hx196_1)
      (try rw [Addr.add_zero'] at hx196_1)
      (try rw [show ((0 : Int)).toNat = 0 from rfl] at hx196_2)
      (try rw [show 0 * 7 = 0 from rfl] at hx196_2)
      (try rw [Addr.add_zero'] at hx196_2)
      (try rw [show ((0 : Int)).toNat = 0 from rfl] at hx196_3)
      (try rw [show 0 * 7 = 0 from rfl] at hx196_3)
      (try rw [Addr.add_zero'] at hx196_3)
      (try rw [show ((0 : Int)).toNat = 0 from rfl] at hx196_4)
      (try rw [show 0 * 7 = 0 from rfl] at hx196_4)
      (try rw [Addr.add_zero'] at hx196_4)
      (try rw [show ((0 : Int)).toNat = 0 from rfl] at hx196_5)
      (try rw [show 0 * 7 = 0 from rfl] at hx196_5)
      (try rw [Addr.add_zero'] at hx196_5)
      (try rw [show ((0 : Int)).toNat = 0 from rfl] at hx196_6)
      (try rw [show 0 * 7 = 0 from rfl] at hx196_6)
      (try rw [Addr.add_zero'] at hx196_6)
      replace hx196_0 := (HB.out.cell (World.block_lt_of_cell? w _ hx196_0)).trans hx196_0
      replace hx196_1 := (HB.out.cell (World.block_lt_of_cell? w _ hx196_1)).trans hx196_1
      replace hx196_2 := (HB.out.cell (World.block_lt_of_cell? w _ hx196_2)).trans hx196_2
      replace hx196_3 := (HB.out.cell (World.block_lt_of_cell? w _ hx196_3)).trans hx196_3
      replace hx196_4 := (HB.out.cell (World.block_lt_of_cell? w _ hx196_4)).trans hx196_4
      replace hx196_5 := (HB.out.cell (World.block_lt_of_cell? w _ hx196_5)).trans hx196_5
      replace hx196_6 := (HB.out.cell (World.block_lt_of_cell? w _ hx196_6)).trans hx196_6
      have HR196_6 := Aside0.mk hi196_6
      have HC196_6 := Aside0.mk hl196_6
      clear hi196_6 hl196_6
      replace p196 := eq_true p196
      replace q196 := eq_true q196
      go_wp2
      go_meet
      case rel => exact ⟨_, (true), (by first | rfl | (simp; done) | (simp [*]; done)), H', ⟨by first | omega | exact Nat.le_refl _⟩, ⟨by (with_reducible repeat (first | refine blk_drewN ?_ _ | refine blk_drew ?_ | refine blk_alloc ?_ _)); exact BK195.out⟩, ⟨by repeat (first | (with_reducible first | exact HB.out | apply below_alloc | apply pw_below_drewN | apply below_drew1 | refine below_set ?_ GE195.out) | exact HB.out)⟩⟩
    ·
     as_aux_lemma =>
     rw [if_neg c8] at H
     exact absurd H (by simp)
 case rest =>
  clear HC2
  try clear c1
  try clear p1
  try clear q1
  try clear hx1
  try clear qi1
  try clear p2
  try clear c4
  try clear c4b0
  try clear c4b1
  try clear c6
  try clear c6b0
  try clear c6b1
  try clear c8
  try clear c8b0
  try clear c8b1
  try clear c9
  try clear c9b0
  try clear c9b1
  try clear hcz10_0
  try clear hcz10_1
  try clear hcz10_2
  try clear hcz10_3
  try clear hcz11_0
  try clear hcz11_1
  try clear hcz11_2
  try clear hcz11_3
  try clear hcz5_0
  try clear hcz5_1
  try clear hcz5_2
  try clear hcz5_3
  try clear hcz7_0
  try clear hcz7_1
  try clear hcz7_2
  try clear hcz7_3
  try clear hfz10_0
  try clear hfz10_1
  try clear hfz10_2
  try clear hfz10_3
  try clear hfz11_0
  try clear hfz11_1
  try clear hfz11_2
  try clear hfz11_3
  try clear hfz5_0
  try clear hfz5_1
  try clear hfz5_2
  try clear hfz5_3
  try clear hfz7_0
  try clear hfz7_1
  try clear hfz7_2
  try clear hfz7_3
  try clear hx196_0
  try clear hx196_1
  try clear hx196_2
  try clear hx196_3
  try clear hx196_4
  try clear hx196_5
  try clear hx196_6
  try clear hx197_0
  try clear hx197_1
  try clear hx197_2
  try clear hx197_3
  try clear hx197_4
  try clear hx197_5
  try clear hx197_6
  try clear p196
  try clear p197
  try clear q196
  try clear q197
  obtain ⟨kq, x33_1, rfl, HA, HJ1, BK195, HB⟩ := hcut
  cases kq with
  | zero => exact absurd HA.out (by simp [rehearsalref04_Check.j0])
  | succ kj1 =>
   have H := HA.out
   clear HA
   simp only [rehearsalref04_Check.j0] at H
   by_cases c12 : x33_1 = true
   ·
    subst c12
    have H1 : (some 80) = some r := by rw [if_pos rfl] at H; exact H
    clear H
    have H := H1
    clear H1
    obtain rfl := Option.some.inj H
    go_wp2
    go_ret
    exact ⟨by first | rfl | (simp [errW_none, errW_some] <;> rfl) | (simp [*, errW_none, errW_some] <;> rfl), by repeat (first | (with_reducible first | exact HB.out | apply below_alloc | apply pw_below_drewN | apply below_drew1 | refine below_set ?_ GE195.out) | exact HB.out)⟩
   ·
    replace c12 := Bool.eq_false_iff.mpr c12
    subst c12
    have H1 : (rehearsalref04_Check.l0 kj1 0 l0_0 a0_1 a0_2 a0_3) = some r := by rw [if_neg (show ¬ (false = true) by decide)] at H; exact H
    clear H
    have H := H1
    clear H1
    have H' := Aside0.mk H
    clear H
    go_wp2
    go_loopg [3] kj1 (fun kq v3 w' => ∃ (x3_2 : Int), v3 = .int .i64 x3_2 ∧ Aside0 (rehearsalref04_Check.l0 kq x3_2 l0_0 a0_1 a0_2 a0_3 = some r) ∧ Aside0 (kq ≤ kj1) ∧ Aside0 (w'.heap[gb195]? = some (.cells #[(.slice A0_0 l0_0.length c0_0), .int .i64 a0_1, .int .i64 a0_2, .int .i64 a0_3] 26 (0, 0))) ∧ Aside0 (Below w.heap.size w w'))
    case atStart => exact ⟨(0), (by first | rfl | (simp; done) | (simp [*]; done)), H', ⟨Nat.le_refl _⟩, ⟨by (with_reducible repeat (first | refine blk_drewN ?_ _ | refine blk_drew ?_ | refine blk_alloc ?_ _)); exact BK195.out⟩, ⟨by repeat (first | (with_reducible first | exact HB.out | apply below_alloc | apply pw_below_drewN | apply below_drew1 | refine below_set ?_ GE195.out) | exact HB.out)⟩⟩
    case round =>
     clear H'
     try clear c1
     try clear p1
     try clear q1
     try clear hx1
     try clear qi1
     try clear p2
     try clear c4
     try clear c4b0
     try clear c4b1
     try clear c6
     try clear c6b0
     try clear c6b1
     try clear c8
     try clear c8b0
     try clear c8b1
     try clear c9
     try clear c9b0
     try clear c9b1
     try clear c12
     try clear hcz10_0
     try clear hcz10_1
     try clear hcz10_2
     try clear hcz10_3
     try clear hcz11_0
     try clear hcz11_1
     try clear hcz11_2
     try clear hcz11_3
     try clear hcz5_0
     try clear hcz5_1
     try clear hcz5_2
     try clear hcz5_3
     try clear hcz7_0
     try clear hcz7_1
     try clear hcz7_2
     try clear hcz7_3
     try clear hfz10_0
     try clear hfz10_1
     try clear hfz10_2
     try clear hfz10_3
     try clear hfz11_0
     try clear hfz11_1
     try clear hfz11_2
     try clear hfz11_3
     try clear hfz5_0
     try clear hfz5_1
     try clear hfz5_2
     try clear hfz5_3
     try clear hfz7_0
     try clear hfz7_1
     try clear hfz7_2
     try clear hfz7_3
     try clear hx196_0
     try clear hx196_1
     try clear hx196_2
     try clear hx196_3
     try clear hx196_4
     try clear hx196_5
     try clear hx196_6
     try clear hx197_0
     try clear hx197_1
     try clear hx197_2
     try clear hx197_3
     try clear hx197_4
     try clear hx197_5
     try clear hx197_6
     try clear p1
     try clear p196
     try clear p197
     try clear p2
     try clear q1
     try clear q196
     try clear q197
     obtain ⟨x3_2, rfl, HA, HK2, BK195, HB⟩ := hrel
     cases gk with
     | zero => exact absurd HA.out (by simp [rehearsalref04_Check.l0])
     | succ k2 =>
      have H := HA.out
      clear HA
      simp only [rehearsalref04_Check.l0] at H
      by_cases c13 : x3_2 < (l0_0.length : Int)
      ·
       as_aux_lemma =>
       rw [if_pos c13] at H
       have c13b0 : decide (x3_2 < (l0_0.length : Int)) = true := decide_eq_true c13
       clear c13
       by_cases c14 : 0 ≤ x3_2
       ·
        as_aux_lemma =>
        rw [if_pos c14] at H
        have c14b0 : decide (0 ≤ x3_2) = true := decide_eq_true c14
        clear c14
        have HC15 := Aside0.mk H
        clear H
        have hcz16_0 : wr.cell? ⟨gb195, 0, none⟩ = some (.slice A0_0 l0_0.length c0_0) := (blk_cell BK195.out 0).trans rfl
        have hcz16_1 : wr.cell? ⟨gb195, 1, none⟩ = some (.int .i64 a0_1) := (blk_cell BK195.out 1).trans rfl
        have hcz16_2 : wr.cell? ⟨gb195, 2, none⟩ = some (.int .i64 a0_2) := (blk_cell BK195.out 2).trans rfl
        have hcz16_3 : wr.cell? ⟨gb195, 3, none⟩ = some (.int .i64 a0_3) := (blk_cell BK195.out 3).trans rfl
        have hfz16_0 := blk_frozen BK195.out 0
        have hfz16_1 := blk_frozen BK195.out 1
        have hfz16_2 := blk_frozen BK195.out 2
        have hfz16_3 := blk_frozen BK195.out 3
        have p198 : 0 ≤ (x3_2 : Int) := of_decide_eq_true (by first | (with_reducible assumption) | assumption)
        have q198 : x3_2 < (l0_0.length : Int) := of_decide_eq_true (by first | (with_reducible assumption) | assumption)
        obtain ⟨ad198, A198_6, c198_6, e198, hx198_0, hx198_1, hx198_2, hx198_3, hx198_4, hx198_5, hx198_6, hl198_6, hi198_6⟩ := at_T44 HR0_0.out x3_2 p198 q198
        cases e198
        replace hx198_0 := (HB.out.cell (World.block_lt_of_cell? w _ hx198_0)).trans hx198_0
        replace hx198_1 := (HB.out.cell (World.block_lt_of_cell? w _ hx198_1)).trans hx198_1
        replace hx198_2 := (HB.out.cell (World.block_lt_of_cell? w _ hx198_2)).trans hx198_2
        replace hx198_3 := (HB.out.cell (World.block_lt_of_cell? w _ hx198_3)).trans hx198_3
        replace hx198_4 := (HB.out.cell (World.block_lt_of_cell? w _ hx198_4)).trans hx198_4
        replace hx198_5 := (HB.out.cell (World.block_lt_of_cell? w _ hx198_5)).trans hx198_5
        replace hx198_6 := (HB.out.cell (World.block_lt_of_cell? w _ hx198_6)).trans hx198_6
        have HR198_6 := Aside0.mk hi198_6
        have HC198_6 := Aside0.mk hl198_6
        clear hi198_6 hl198_6
        replace p198 := eq_true p198
        replace q198 := eq_true q198
        go_upto_region 7 with (first | ((with_reducible refine gate_dst (N := 4) rfl ?_); (try (refine gate_guard (by rfl) ?_; dsimp only)); refine box_event ?hg (N := 4) ?hd (cs := #[.int .i64 0, .int .i64 0, .int .i64 0, .int .i64 0, .int .i64 0, .string (⟨#[]⟩ : ByteArray), .slice none 0 0]) (t := 44) ?hr ?_; (case hd => rfl); (case hg => rfl); (case hr => first | (go_simp; done) | (go_simp; rfl)); intro gb199 hg w17 hbox hb; have n0_ := Aside0.mk (blk_below (g := gb195) (o := .cells #[.slice (some ad198) l0_0.length c0_0, .int .i64 a0_1, .int .i64 a0_2, .int .i64 a0_3] 26 (0, 0)) (by (with_reducible repeat (first | refine blk_drewN ?_ _ | refine blk_drew ?_ | refine blk_alloc ?_ _)); exact BK195.out) hb); have n1_ := Aside0.mk (below_step (by repeat (first | (with_reducible first | exact HB.out | apply below_alloc | apply pw_below_drewN | apply below_drew1 | refine below_set ?_ GE195.out) | exact HB.out)) hb); have n2_ := Aside0.mk (hbox); have n3_ := Aside0.mk ((by rw [hg]; exact (below_size (by repeat (first | (with_reducible first | exact HB.out | apply below_alloc | apply pw_below_drewN | apply below_drew1 | refine below_set ?_ GE195.out) | exact HB.out))) : w.heap.size ≤ gb199)); have n4_ := Aside0.mk ((by rw [hg]; exact (below_size (by repeat (first | (with_reducible first | exact HB.out | apply below_alloc | apply pw_below_drewN | apply below_drew1 | refine below_set ?_ GE195.out) | exact HB.out))) : w.heap.size ≤ gb199)); have n5_ := Aside0.mk ((by rw [hg]; exact Nat.ne_of_lt (blk_lt (g := gb195) (o := .cells #[.slice (some ad198) l0_0.length c0_0, .int .i64 a0_1, .int .i64 a0_2, .int .i64 a0_3] 26 (0, 0)) (by (with_reducible repeat (first | refine blk_drewN ?_ _ | refine blk_drew ?_ | refine blk_alloc ?_ _)); exact BK195.out)) : gb195 ≠ gb199)); have n6_ := Aside0.mk ((by rw [hg]; exact Nat.ne_of_gt (blk_lt (g := gb195) (o := .cells #[.slice (some ad198) l0_0.length c0_0, .int .i64 a0_1, .int .i64 a0_2, .int .i64 a0_3] 26 (0, 0)) (by (with_reducible repeat (first | refine blk_drewN ?_ _ | refine blk_drew ?_ | refine blk_alloc ?_ _)); exact BK195.out)) : gb199 ≠ gb195)); clear BK195; clear HB; have BK195 := n0_; have HB := n1_; have BK199 := n2_; have GW199 := n3_; have GE199 := n4_; have NB195_199 := n5_; have NB199_195 := n6_; clear n0_ n1_ n2_ n3_ n4_ n5_ n6_; clear hb hbox hg; have hnb18 := NB199_195.out; have hnc18 := NB195_199.out; have hcz19_0 : w17.cell? ⟨gb199, 0, none⟩ = some (.int .i64 0) := (blk_cell BK199.out 0).trans rfl; have hcz19_1 : w17.cell? ⟨gb199, 1, none⟩ = some (.int .i64 0) := (blk_cell BK199.out 1).trans rfl; have hcz19_2 : w17.cell? ⟨gb199, 2, none⟩ = some (.int .i64 0) := (blk_cell BK199.out 2).trans rfl; have hcz19_3 : w17.cell? ⟨gb199, 3, none⟩ = some (.int .i64 0) := (blk_cell BK199.out 3).trans rfl; have hcz19_4 : w17.cell? ⟨gb199, 4, none⟩ = some (.int .i64 0) := (blk_cell BK199.out 4).trans rfl; have hcz19_5 : w17.cell? ⟨gb199, 5, none⟩ = some (.string (⟨#[]⟩ : ByteArray)) := (blk_cell BK199.out 5).trans rfl; have hcz19_6 : w17.cell? ⟨gb199, 6, none⟩ = some (.slice none 0 0) := (blk_cell BK199.out 6).trans rfl; have hfz19_0 := blk_frozen BK199.out 0; have hfz19_1 := blk_frozen BK199.out 1; have hfz19_2 := blk_frozen BK199.out 2; have hfz19_3 := blk_frozen BK199.out 3; have hfz19_4 := blk_frozen BK199.out 4; have hfz19_5 := blk_frozen BK199.out 5; have hfz19_6 := blk_frozen BK199.out 6))
        (try simp only [Act.put, List.setIfInBounds_toArray, List.set_cons_zero, List.set_cons_succ])
        go_cut [71] (fun v71 wc => ∃ (kq : Nat) (x71_14 : Bool), v71 = .bool x71_14 ∧ Aside0 (rehearsalref04_Check.j2 kq x3_2 x71_14 l0_0 a0_1 a0_2 a0_3 ((rd_T44 l0_0 x3_2).f0) ((rd_T44 l0_0 x3_2).f1) ((rd_T44 l0_0 x3_2).f2) ((rd_T44 l0_0 x3_2).f3) ((rd_T44 l0_0 x3_2).f4) ((rd_T44 l0_0 x3_2).f5) ((rd_T44 l0_0 x3_2).f6) = some r) ∧ Aside0 (kq ≤ k2) ∧ Aside0 (wc.heap[gb195]? = some (.cells #[(.slice (some ad198) l0_0.length c0_0), .int .i64 a0_1, .int .i64 a0_2, .int .i64 a0_3] 26 (0, 0))) ∧ Aside0 (wc.heap[gb199]? = some (.cells #[.int .i64 ((rd_T44 l0_0 x3_2).f0), .int .i64 ((rd_T44 l0_0 x3_2).f1), .int .i64 ((rd_T44 l0_0 x3_2).f2), .int .i64 ((rd_T44 l0_0 x3_2).f3), .int .i64 ((rd_T44 l0_0 x3_2).f4), .string ((rd_T44 l0_0 x3_2).f5), (.slice A198_6 ((rd_T44 l0_0 x3_2).f6).length c198_6)] 44 (0, 0))) ∧ Aside0 (Below w.heap.size w wc))
        case first =>
         have H := HC15.out
         clear HC15
         replace H := Option.bind_eq_some_iff.mp H
         obtain ⟨t200, A200, H⟩ := H
         replace H : (if t200 = true then (if ((rd_T44 l0_0 x3_2).f0) > a0_1 then (rehearsalref04_Check.j2 k2 x3_2 true l0_0 a0_1 a0_2 a0_3 ((rd_T44 l0_0 x3_2).f0) ((rd_T44 l0_0 x3_2).f1) ((rd_T44 l0_0 x3_2).f2) ((rd_T44 l0_0 x3_2).f3) ((rd_T44 l0_0 x3_2).f4) ((rd_T44 l0_0 x3_2).f5) ((rd_T44 l0_0 x3_2).f6)) else (if x3_2 > 0 then (if 0 ≤ (wrap64 (x3_2 - 1)) then (if (wrap64 (x3_2 - 1)) < (l0_0.length : Int) then (rehearsalref04_Check.j2 k2 x3_2 (decide (((rd_T44 l0_0 x3_2).f0) ≤ ((rd_T44 l0_0 (wrap64 (x3_2 - 1))).f0))) l0_0 a0_1 a0_2 a0_3 ((rd_T44 l0_0 x3_2).f0) ((rd_T44 l0_0 x3_2).f1) ((rd_T44 l0_0 x3_2).f2) ((rd_T44 l0_0 x3_2).f3) ((rd_T44 l0_0 x3_2).f4) ((rd_T44 l0_0 x3_2).f5) ((rd_T44 l0_0 x3_2).f6)) else (none)) else (none)) else (rehearsalref04_Check.j2 k2 x3_2 false l0_0 a0_1 a0_2 a0_3 ((rd_T44 l0_0 x3_2).f0) ((rd_T44 l0_0 x3_2).f1) ((rd_T44 l0_0 x3_2).f2) ((rd_T44 l0_0 x3_2).f3) ((rd_T44 l0_0 x3_2).f4) ((rd_T44 l0_0 x3_2).f5) ((rd_T44 l0_0 x3_2).f6)))) else (rehearsalref04_Check.j2 k2 x3_2 true l0_0 a0_1 a0_2 a0_3 ((rd_T44 l0_0 x3_2).f0) ((rd_T44 l0_0 x3_2).f1) ((rd_T44 l0_0 x3_2).f2) ((rd_T44 l0_0 x3_2).f3) ((rd_T44 l0_0 x3_2).f4) ((rd_T44 l0_0 x3_2).f5) ((rd_T44 l0_0 x3_2).f6))) = some r := H
         have A20 := Aside0.mk A200
         clear A200
         by_cases c21 : t200 = true
         ·
          subst c21
          have H1 : (if ((rd_T44 l0_0 x3_2).f0) > a0_1 then (rehearsalref04_Check.j2 k2 x3_2 true l0_0 a0_1 a0_2 a0_3 ((rd_T44 l0_0 x3_2).f0) ((rd_T44 l0_0 x3_2).f1) ((rd_T44 l0_0 x3_2).f2) ((rd_T44 l0_0 x3_2).f3) ((rd_T44 l0_0 x3_2).f4) ((rd_T44 l0_0 x3_2).f5) ((rd_T44 l0_0 x3_2).f6)) else (if x3_2 > 0 then (if 0 ≤ (wrap64 (x3_2 - 1)) then (if (wrap64 (x3_2 - 1)) < (l0_0.length : Int) then (rehearsalref04_Check.j2 k2 x3_2 (decide (((rd_T44 l0_0 x3_2).f0) ≤ ((rd_T44 l0_0 (wrap64 (x3_2 - 1))).f0))) l0_0 a0_1 a0_2 a0_3 ((rd_T44 l0_0 x3_2).f0) ((rd_T44 l0_0 x3_2).f1) ((rd_T44 l0_0 x3_2).f2) ((rd_T44 l0_0 x3_2).f3) ((rd_T44 l0_0 x3_2).f4) ((rd_T44 l0_0 x3_2).f5) ((rd_T44 l0_0 x3_2).f6)) else (none)) else (none)) else (rehearsalref04_Check.j2 k2 x3_2 false l0_0 a0_1 a0_2 a0_3 ((rd_T44 l0_0 x3_2).f0) ((rd_T44 l0_0 x3_2).f1) ((rd_T44 l0_0 x3_2).f2) ((rd_T44 l0_0 x3_2).f3) ((rd_T44 l0_0 x3_2).f4) ((rd_T44 l0_0 x3_2).f5) ((rd_T44 l0_0 x3_2).f6)))) = some r := by rw [if_pos rfl] at H; exact H
          clear H
          have H := H1
          clear H1
          by_cases c22 : ((rd_T44 l0_0 x3_2).f0) > a0_1
          ·
           as_aux_lemma =>
           rw [if_pos c22] at H
           have c22b0 : decide (a0_1 < ((rd_T44 l0_0 x3_2).f0)) = true := decide_eq_true c22
           clear c22
           (first | rw [c22b0] | (simp only [i64_w, i32_w]; rw [c22b0]) | skip)
           have H' := Aside0.mk H
           clear H
           try go_wp2
           have n0_ : Aside0 ((((((((w17.setCell ⟨gb199, 0, none⟩ (.int .i64 ((rd_T44 l0_0 x3_2).f0))).setCell ⟨gb199, 1, none⟩ (.int .i64 ((rd_T44 l0_0 x3_2).f1))).setCell ⟨gb199, 2, none⟩ (.int .i64 ((rd_T44 l0_0 x3_2).f2))).setCell ⟨gb199, 3, none⟩ (.int .i64 ((rd_T44 l0_0 x3_2).f3))).setCell ⟨gb199, 4, none⟩ (.int .i64 ((rd_T44 l0_0 x3_2).f4))).setCell ⟨gb199, 5, none⟩ (.string ((rd_T44 l0_0 x3_2).f5))).setCell ⟨gb199, 6, none⟩ (.slice A198_6 ((rd_T44 l0_0 x3_2).f6).length c198_6)).heap[gb195]? = some (.cells #[.slice (some ad198) l0_0.length c0_0, .int .i64 a0_1, .int .i64 a0_2, .int .i64 a0_3] 26 (0, 0))) := ⟨by (with_reducible repeat (first | refine blk_drewN ?_ _ | refine blk_drew ?_ | refine blk_alloc ?_ _)); refine blk_far ?_ NB195_199.out _; (with_reducible repeat (first | refine blk_drewN ?_ _ | refine blk_drew ?_ | refine blk_alloc ?_ _)); refine blk_far ?_ NB195_199.out _; (with_reducible repeat (first | refine blk_drewN ?_ _ | refine blk_drew ?_ | refine blk_alloc ?_ _)); refine blk_far ?_ NB195_199.out _; (with_reducible repeat (first | refine blk_drewN ?_ _ | refine blk_drew ?_ | refine blk_alloc ?_ _)); refine blk_far ?_ NB195_199.out _; (with_reducible repeat (first | refine blk_drewN ?_ _ | refine blk_drew ?_ | refine blk_alloc ?_ _)); refine blk_far ?_ NB195_199.out _; (with_reducible repeat (first | refine blk_drewN ?_ _ | refine blk_drew ?_ | refine blk_alloc ?_ _)); refine blk_far ?_ NB195_199.out _; (with_reducible repeat (first | refine blk_drewN ?_ _ | refine blk_drew ?_ | refine blk_alloc ?_ _)); refine blk_far ?_ NB195_199.out _; (with_reducible repeat (first | refine blk_drewN ?_ _ | refine blk_drew ?_ | refine blk_alloc ?_ _)); exact BK195.out⟩
           have n1_ : Aside0 ((((((((w17.setCell ⟨gb199, 0, none⟩ (.int .i64 ((rd_T44 l0_0 x3_2).f0))).setCell ⟨gb199, 1, none⟩ (.int .i64 ((rd_T44 l0_0 x3_2).f1))).setCell ⟨gb199, 2, none⟩ (.int .i64 ((rd_T44 l0_0 x3_2).f2))).setCell ⟨gb199, 3, none⟩ (.int .i64 ((rd_T44 l0_0 x3_2).f3))).setCell ⟨gb199, 4, none⟩ (.int .i64 ((rd_T44 l0_0 x3_2).f4))).setCell ⟨gb199, 5, none⟩ (.string ((rd_T44 l0_0 x3_2).f5))).setCell ⟨gb199, 6, none⟩ (.slice A198_6 ((rd_T44 l0_0 x3_2).f6).length c198_6)).heap[gb199]? = some (.cells #[.int .i64 ((rd_T44 l0_0 x3_2).f0), .int .i64 ((rd_T44 l0_0 x3_2).f1), .int .i64 ((rd_T44 l0_0 x3_2).f2), .int .i64 ((rd_T44 l0_0 x3_2).f3), .int .i64 ((rd_T44 l0_0 x3_2).f4), .string ((rd_T44 l0_0 x3_2).f5), .slice A198_6 ((rd_T44 l0_0 x3_2).f6).length c198_6] 44 (0, 0))) := ⟨by (with_reducible repeat (first | refine blk_drewN ?_ _ | refine blk_drew ?_ | refine blk_alloc ?_ _)); refine blk_put (cs := #[.int .i64 ((rd_T44 l0_0 x3_2).f0), .int .i64 ((rd_T44 l0_0 x3_2).f1), .int .i64 ((rd_T44 l0_0 x3_2).f2), .int .i64 ((rd_T44 l0_0 x3_2).f3), .int .i64 ((rd_T44 l0_0 x3_2).f4), .string ((rd_T44 l0_0 x3_2).f5), .slice none 0 0]) ?_ 6 _ (by first | rfl | (simp only [w64_PTr18]; rfl) | (simp [w64_PTr18]; done)); (with_reducible repeat (first | refine blk_drewN ?_ _ | refine blk_drew ?_ | refine blk_alloc ?_ _)); refine blk_put (cs := #[.int .i64 ((rd_T44 l0_0 x3_2).f0), .int .i64 ((rd_T44 l0_0 x3_2).f1), .int .i64 ((rd_T44 l0_0 x3_2).f2), .int .i64 ((rd_T44 l0_0 x3_2).f3), .int .i64 ((rd_T44 l0_0 x3_2).f4), .string (⟨#[]⟩ : ByteArray), .slice none 0 0]) ?_ 5 _ (by first | rfl | (simp only [w64_PTr18]; rfl) | (simp [w64_PTr18]; done)); (with_reducible repeat (first | refine blk_drewN ?_ _ | refine blk_drew ?_ | refine blk_alloc ?_ _)); refine blk_put (cs := #[.int .i64 ((rd_T44 l0_0 x3_2).f0), .int .i64 ((rd_T44 l0_0 x3_2).f1), .int .i64 ((rd_T44 l0_0 x3_2).f2), .int .i64 ((rd_T44 l0_0 x3_2).f3), .int .i64 0, .string (⟨#[]⟩ : ByteArray), .slice none 0 0]) ?_ 4 _ (by first | rfl | (simp only [w64_PTr18]; rfl) | (simp [w64_PTr18]; done)); (with_reducible repeat (first | refine blk_drewN ?_ _ | refine blk_drew ?_ | refine blk_alloc ?_ _)); refine blk_put (cs := #[.int .i64 ((rd_T44 l0_0 x3_2).f0), .int .i64 ((rd_T44 l0_0 x3_2).f1), .int .i64 ((rd_T44 l0_0 x3_2).f2), .int .i64 0, .int .i64 0, .string (⟨#[]⟩ : ByteArray), .slice none 0 0]) ?_ 3 _ (by first | rfl | (simp only [w64_PTr18]; rfl) | (simp [w64_PTr18]; done)); (with_reducible repeat (first | refine blk_drewN ?_ _ | refine blk_drew ?_ | refine blk_alloc ?_ _)); refine blk_put (cs := #[.int .i64 ((rd_T44 l0_0 x3_2).f0), .int .i64 ((rd_T44 l0_0 x3_2).f1), .int .i64 0, .int .i64 0, .int .i64 0, .string (⟨#[]⟩ : ByteArray), .slice none 0 0]) ?_ 2 _ (by first | rfl | (simp only [w64_PTr18]; rfl) | (simp [w64_PTr18]; done)); (with_reducible repeat (first | refine blk_drewN ?_ _ | refine blk_drew ?_ | refine blk_alloc ?_ _)); refine blk_put (cs := #[.int .i64 ((rd_T44 l0_0 x3_2).f0), .int .i64 0, .int .i64 0, .int .i64 0, .int .i64 0, .string (⟨#[]⟩ : ByteArray), .slice none 0 0]) ?_ 1 _ (by first | rfl | (simp only [w64_PTr18]; rfl) | (simp [w64_PTr18]; done)); (with_reducible repeat (first | refine blk_drewN ?_ _ | refine blk_drew ?_ | refine blk_alloc ?_ _)); refine blk_put (cs := #[.int .i64 0, .int .i64 0, .int .i64 0, .int .i64 0, .int .i64 0, .string (⟨#[]⟩ : ByteArray), .slice none 0 0]) ?_ 0 _ (by first | rfl | (simp only [w64_PTr18]; rfl) | (simp [w64_PTr18]; done)); (with_reducible repeat (first | refine blk_drewN ?_ _ | refine blk_drew ?_ | refine blk_alloc ?_ _)); exact BK199.out⟩
           have n2_ : Aside0 (Below w.heap.size w (((((((w17.setCell ⟨gb199, 0, none⟩ (.int .i64 ((rd_T44 l0_0 x3_2).f0))).setCell ⟨gb199, 1, none⟩ (.int .i64 ((rd_T44 l0_0 x3_2).f1))).setCell ⟨gb199, 2, none⟩ (.int .i64 ((rd_T44 l0_0 x3_2).f2))).setCell ⟨gb199, 3, none⟩ (.int .i64 ((rd_T44 l0_0 x3_2).f3))).setCell ⟨gb199, 4, none⟩ (.int .i64 ((rd_T44 l0_0 x3_2).f4))).setCell ⟨gb199, 5, none⟩ (.string ((rd_T44 l0_0 x3_2).f5))).setCell ⟨gb199, 6, none⟩ (.slice A198_6 ((rd_T44 l0_0 x3_2).f6).length c198_6))) := ⟨by repeat (first | (with_reducible first | exact HB.out | apply below_alloc | apply pw_below_drewN | apply below_drew1 | refine below_set ?_ GE195.out | refine below_set ?_ GE199.out) | exact HB.out)⟩
           (try clear BK195)
           (try clear BK199)
           (try clear HB)
           generalize (((((((w17.setCell ⟨gb199, 0, none⟩ (.int .i64 ((rd_T44 l0_0 x3_2).f0))).setCell ⟨gb199, 1, none⟩ (.int .i64 ((rd_T44 l0_0 x3_2).f1))).setCell ⟨gb199, 2, none⟩ (.int .i64 ((rd_T44 l0_0 x3_2).f2))).setCell ⟨gb199, 3, none⟩ (.int .i64 ((rd_T44 l0_0 x3_2).f3))).setCell ⟨gb199, 4, none⟩ (.int .i64 ((rd_T44 l0_0 x3_2).f4))).setCell ⟨gb199, 5, none⟩ (.string ((rd_T44 l0_0 x3_2).f5))).setCell ⟨gb199, 6, none⟩ (.slice A198_6 ((rd_T44 l0_0 x3_2).f6).length c198_6)) = w23 at n0_ n1_ n2_ ⊢
           have BK195 := n0_
           have BK199 := n1_
           have HB := n2_
           clear n0_ n1_ n2_
           have n0_ := Aside0.mk (blk_drew BK195.out)
           have n1_ := Aside0.mk (blk_drew BK199.out)
           have n2_ := Aside0.mk (below_drew1 HB.out)
           clear BK195
           clear BK199
           clear HB
           have BK195 := n0_
           have BK199 := n1_
           have HB := n2_
           clear n0_ n1_ n2_
           refine start_ (n := 26) (S := fun w' => w'.cell? ⟨gb199, 0, none⟩ = some (.int .i64 ((rd_T44 l0_0 x3_2).f0)) ∧ w'.cell? ⟨gb199, 1, none⟩ = some (.int .i64 ((rd_T44 l0_0 x3_2).f1)) ∧ w'.cell? ⟨gb199, 2, none⟩ = some (.int .i64 ((rd_T44 l0_0 x3_2).f2)) ∧ w'.cell? ⟨gb199, 3, none⟩ = some (.int .i64 ((rd_T44 l0_0 x3_2).f3)) ∧ w'.cell? ⟨gb199, 4, none⟩ = some (.int .i64 ((rd_T44 l0_0 x3_2).f4)) ∧ w'.cell? ⟨gb199, 5, none⟩ = some (.string ((rd_T44 l0_0 x3_2).f5)) ∧ w'.cell? ⟨gb199, 6, none⟩ = some (.slice A198_6 ((rd_T44 l0_0 x3_2).f6).length c198_6) ∧ w'.cell? ⟨gb195, 0, none⟩ = some (.slice (some ad198) l0_0.length c0_0) ∧ w'.cell? ⟨gb195, 1, none⟩ = some (.int .i64 a0_1) ∧ w'.cell? ⟨gb195, 2, none⟩ = some (.int .i64 a0_2) ∧ w'.cell? ⟨gb195, 3, none⟩ = some (.int .i64 a0_3)) (ds := []) #[false, false, false, false, false, false, false, false, false, false, false, false, false, false, false, false, false, false, false, false, false, false, false, false, false, false] (by kernel_rfl) rfl rfl ⟨(blk_cell BK199.out 0).trans rfl, (blk_cell BK199.out 1).trans rfl, (blk_cell BK199.out 2).trans rfl, (blk_cell BK199.out 3).trans rfl, (blk_cell BK199.out 4).trans rfl, (blk_cell BK199.out 5).trans rfl, (blk_cell BK199.out 6).trans rfl, (blk_cell BK195.out 0).trans rfl, (blk_cell BK195.out 1).trans rfl, (blk_cell BK195.out 2).trans rfl, (blk_cell BK195.out 3).trans rfl⟩ (fun hHeld => ?_); refine with_tabW rehearsalref04_Check.tab7 rehearsalref04_Check.bits7 (fun HT_ HW_ => ?_)
           generalize w23.drew = w24 at BK195 BK199 HB hHeld ⊢
           refine take_ (i := 0) (N := some 46) (v := ?_) (a' := ?_) #[true, false, false, false, false, false, false, false, false, false, false, false, false, false, false, false, false, false, false, false, false, false, false, false, false, false] rfl rfl (take_ofW HT_.out HW_.out (by kernel_rfl)) (fun _ _ _ h => h) (Or.inl ⟨by rfl, ?_⟩) hHeld ?_ ?_
           rotate_left
           ·
            rintro w' ⟨s0, s1, s2, s3, s4, s5, s6, s7, s8, s9, s10⟩
            go_simp
            with_reducible rfl
           rotate_left
           ·
            simp only [Act.put, List.setIfInBounds_toArray, List.set_cons_zero, List.set_cons_succ, i64_w, i32_w]
            rfl
           refine one_ (i := 1) (N := some 47) #[true, true, false, false, false, false, false, false, false, false, false, false, false, false, false, false, false, false, false, false, false, false, false, false, false, false] rfl rfl (one_of HT_.out (by kernel_rfl)) (by decide) (fun K hK => ?_)
           refine goes_ Tryd.func60 (by kernel_rfl) rfl #[.agg #[.int .i64 ((rd_T44 l0_0 x3_2).f0), .int .i64 ((rd_T44 l0_0 x3_2).f1), .int .i64 ((rd_T44 l0_0 x3_2).f2), .int .i64 ((rd_T44 l0_0 x3_2).f3), .int .i64 ((rd_T44 l0_0 x3_2).f4), .string ((rd_T44 l0_0 x3_2).f5), .slice A198_6 ((rd_T44 l0_0 x3_2).f6).length c198_6]] (by rfl) rfl rfl (by (try simp only [List.map_toArray, List.map_cons, List.map_nil]); first | done | rfl | (simp only [List.length_drop, List.length_take]; rfl)) ?_
           with_reducible refine (rehearsalref04_plain.calls k2 ((rd_T44 l0_0 x3_2).f0) ((rd_T44 l0_0 x3_2).f1) ((rd_T44 l0_0 x3_2).f2) ((rd_T44 l0_0 x3_2).f3) ((rd_T44 l0_0 x3_2).f4) ((rd_T44 l0_0 x3_2).f5) _ _ ((rd_T44 l0_0 x3_2).f6) true _ ?side1 ?side2 A20.out).mono ?_
           (case side1 => repeat (first | exact (Kd.C_below HR198_6.out HB.out) | (with_reducible refine Kd.C_alloc ?_ _) | (with_reducible refine Kd.C_drewN ?_ _) | (with_reducible refine Kd.C_drew ?_)))
           (case side2 => exact HC198_6.out)
           rintro e w25 ⟨rfl, hb⟩
           refine ⟨_, rfl, ?_⟩
           have n0_ := Aside0.mk (blk_below (g := gb195) (o := .cells #[.slice (some ad198) l0_0.length c0_0, .int .i64 a0_1, .int .i64 a0_2, .int .i64 a0_3] 26 (0, 0)) (by (with_reducible repeat (first | refine blk_drewN ?_ _ | refine blk_drew ?_ | refine blk_alloc ?_ _)); exact BK195.out) hb)
           have n1_ := Aside0.mk (blk_below (g := gb199) (o := .cells #[.int .i64 ((rd_T44 l0_0 x3_2).f0), .int .i64 ((rd_T44 l0_0 x3_2).f1), .int .i64 ((rd_T44 l0_0 x3_2).f2), .int .i64 ((rd_T44 l0_0 x3_2).f3), .int .i64 ((rd_T44 l0_0 x3_2).f4), .string ((rd_T44 l0_0 x3_2).f5), .slice A198_6 ((rd_T44 l0_0 x3_2).f6).length c198_6] 44 (0, 0)) (by (with_reducible repeat (first | refine blk_drewN ?_ _ | refine blk_drew ?_ | refine blk_alloc ?_ _)); exact BK199.out) hb)
           have n2_ := Aside0.mk (below_step (by repeat (first | (with_reducible first | exact HB.out | apply below_alloc | apply pw_below_drewN | apply below_drew1 | refine below_set ?_ GE195.out | refine below_set ?_ GE199.out) | exact HB.out)) hb)
           clear BK195
           clear BK199
           clear HB
           have BK195 := n0_
           have BK199 := n1_
           have HB := n2_
           clear n0_ n1_ n2_
           (try clear hb)
           (try clear hb2)
           (try clear hk)
           (try clear hi)
           refine hK.out _ _ ⟨(blk_cell BK199.out 0).trans rfl, (blk_cell BK199.out 1).trans rfl, (blk_cell BK199.out 2).trans rfl, (blk_cell BK199.out 3).trans rfl, (blk_cell BK199.out 4).trans rfl, (blk_cell BK199.out 5).trans rfl, (blk_cell BK199.out 6).trans rfl, (blk_cell BK195.out 0).trans rfl, (blk_cell BK195.out 1).trans rfl, (blk_cell BK195.out 2).trans rfl, (blk_cell BK195.out 3).trans rfl⟩ (fun hHeld => ?_)
           clear hK K
           refine norm_ (a' := ?_) ?_ ?_
           rotate_left
           ·
            show Act.put _ (some 47) _ = _
            simp only [Act.put, List.setIfInBounds_toArray, List.set_cons_zero, List.set_cons_succ, i64_w, i32_w]
            rfl
           iterate 5 (((first | refine takeS_ 2 (N := some 48) (v := ?_) (a' := ?_) rfl rfl (by decide +kernel) (fun _ _ _ h => h) (Or.inl ⟨by rfl, ?_⟩) hHeld ?_ ?_ | refine takeS_ 3 (N := some 49) (v := ?_) (a' := ?_) rfl rfl (by decide +kernel) (fun _ _ _ h => h) (Or.inl ⟨by rfl, ?_⟩) hHeld ?_ ?_ | refine takeS_ 4 (N := some 50) (v := ?_) (a' := ?_) rfl rfl (by decide +kernel) (fun _ _ _ h => h) (Or.inl ⟨by rfl, ?_⟩) hHeld ?_ ?_ | refine takeS_ 6 (N := some 52) (v := ?_) (a' := ?_) rfl rfl (by decide +kernel) (fun _ _ _ h => h) (Or.inl ⟨by rfl, ?_⟩) hHeld ?_ ?_ | refine takeS_ 5 (N := some 51) (v := ?_) (a' := ?_) rfl rfl (by decide +kernel) (fun _ _ _ h => h) (Or.inl ⟨by rfl, ?_⟩) hHeld ?_ ?_); rotate_left; (rintro w' ⟨s0, s1, s2, s3, s4, s5, s6, s7, s8, s9, s10⟩; go_simp; first | done | (with_reducible rfl) | rfl); rotate_left; (simp only [Act.put, List.setIfInBounds_toArray, List.set_cons_zero, List.set_cons_succ, i64_w, i32_w]; rfl)))
           iterate 5 (first | ((first | refine takeS_ 7 (N := some 53) (v := ?_) (a' := ?_) rfl rfl (by decide +kernel) (fun _ _ _ h => h) (Or.inl ⟨by rfl, ?_⟩) hHeld ?_ ?_ | refine takeS_ 8 (N := some 54) (v := ?_) (a' := ?_) rfl rfl (by decide +kernel) (fun _ _ _ h => h) (Or.inl ⟨by rfl, ?_⟩) hHeld ?_ ?_ | refine takeS_ 9 (N := some 55) (v := ?_) (a' := ?_) rfl rfl (by decide +kernel) (fun _ _ _ h => h) (Or.inl ⟨by rfl, ?_⟩) hHeld ?_ ?_ | refine takeS_ 10 (N := some 56) (v := ?_) (a' := ?_) rfl rfl (by decide +kernel) (fun _ _ _ h => h) (Or.inl ⟨by rfl, ?_⟩) hHeld ?_ ?_); rotate_left; (rintro w' ⟨s0, s1, s2, s3, s4, s5, s6, s7, s8, s9, s10⟩; go_simp; first | done | (with_reducible rfl) | rfl); rotate_left; (simp only [Act.put, List.setIfInBounds_toArray, List.set_cons_zero, List.set_cons_succ, i64_w, i32_w]; rfl)) | ((first | refine takeS_ 11 (N := some 57) (v := undef) (a' := ?_) rfl rfl (by decide +kernel) (fun _ _ _ h => h) (Or.inr ⟨by rfl, rfl⟩) hHeld ?_ ?_); rotate_left; (simp only [Act.put, List.setIfInBounds_toArray, List.set_cons_zero, List.set_cons_succ, i64_w, i32_w]; rfl)))
           iterate 5 (((first | refine takeS_ 12 (N := some 58) (v := undef) (a' := ?_) rfl rfl (by decide +kernel) (fun _ _ _ h => h) (Or.inr ⟨by rfl, rfl⟩) hHeld ?_ ?_ | refine takeS_ 13 (N := some 59) (v := undef) (a' := ?_) rfl rfl (by decide +kernel) (fun _ _ _ h => h) (Or.inr ⟨by rfl, rfl⟩) hHeld ?_ ?_ | refine takeS_ 14 (N := some 60) (v := undef) (a' := ?_) rfl rfl (by decide +kernel) (fun _ _ _ h => h) (Or.inr ⟨by rfl, rfl⟩) hHeld ?_ ?_ | refine takeS_ 15 (N := some 61) (v := undef) (a' := ?_) rfl rfl (by decide +kernel) (fun _ _ _ h => h) (Or.inr ⟨by rfl, rfl⟩) hHeld ?_ ?_ | refine takeS_ 16 (N := some 62) (v := undef) (a' := ?_) rfl rfl (by decide +kernel) (fun _ _ _ h => h) (Or.inr ⟨by rfl, rfl⟩) hHeld ?_ ?_); rotate_left; (simp only [Act.put, List.setIfInBounds_toArray, List.set_cons_zero, List.set_cons_succ, i64_w, i32_w]; rfl)))
           iterate 5 (((first | refine takeS_ 17 (N := some 63) (v := undef) (a' := ?_) rfl rfl (by decide +kernel) (fun _ _ _ h => h) (Or.inr ⟨by rfl, rfl⟩) hHeld ?_ ?_ | refine takeS_ 18 (N := some 64) (v := undef) (a' := ?_) rfl rfl (by decide +kernel) (fun _ _ _ h => h) (Or.inr ⟨by rfl, rfl⟩) hHeld ?_ ?_ | refine takeS_ 19 (N := some 65) (v := undef) (a' := ?_) rfl rfl (by decide +kernel) (fun _ _ _ h => h) (Or.inr ⟨by rfl, rfl⟩) hHeld ?_ ?_ | refine takeS_ 20 (N := some 66) (v := undef) (a' := ?_) rfl rfl (by decide +kernel) (fun _ _ _ h => h) (Or.inr ⟨by rfl, rfl⟩) hHeld ?_ ?_ | refine takeS_ 21 (N := some 67) (v := undef) (a' := ?_) rfl rfl (by decide +kernel) (fun _ _ _ h => h) (Or.inr ⟨by rfl, rfl⟩) hHeld ?_ ?_); rotate_left; (simp only [Act.put, List.setIfInBounds_toArray, List.set_cons_zero, List.set_cons_succ, i64_w, i32_w]; rfl)))
           iterate 4 (first | ((first | refine takeS_ 25 (N := some 71) (v := ?_) (a' := ?_) rfl rfl (by decide +kernel) (fun _ _ _ h => h) (Or.inl ⟨by rfl, ?_⟩) hHeld ?_ ?_); rotate_left; (rintro w' ⟨s0, s1, s2, s3, s4, s5, s6, s7, s8, s9, s10⟩; go_simp; first | done | (with_reducible rfl) | rfl); rotate_left; (simp only [Act.put, List.setIfInBounds_toArray, List.set_cons_zero, List.set_cons_succ, i64_w, i32_w]; rfl)) | ((first | refine takeS_ 22 (N := some 68) (v := undef) (a' := ?_) rfl rfl (by decide +kernel) (fun _ _ _ h => h) (Or.inr ⟨by rfl, rfl⟩) hHeld ?_ ?_ | refine takeS_ 23 (N := some 69) (v := undef) (a' := ?_) rfl rfl (by decide +kernel) (fun _ _ _ h => h) (Or.inr ⟨by rfl, rfl⟩) hHeld ?_ ?_ | refine takeS_ 24 (N := some 70) (v := undef) (a' := ?_) rfl rfl (by decide +kernel) (fun _ _ _ h => h) (Or.inr ⟨by rfl, rfl⟩) hHeld ?_ ?_); rotate_left; (simp only [Act.put, List.setIfInBounds_toArray, List.set_cons_zero, List.set_cons_succ, i64_w, i32_w]; rfl)))
           refine done_ (done_of HT_.out (by kernel_rfl)) ?_
           try go_wp2
           go_meet
           case rel => exact ⟨_, (true), (by first | rfl | (simp; done) | (simp [*]; done)), H', ⟨by have := HJ1.out; have := HK2.out; first | omega | exact Nat.le_refl _⟩, ⟨by (with_reducible repeat (first | refine blk_drewN ?_ _ | refine blk_drew ?_ | refine blk_alloc ?_ _)); exact BK195.out⟩, ⟨by (with_reducible repeat (first | refine blk_drewN ?_ _ | refine blk_drew ?_ | refine blk_alloc ?_ _)); exact BK199.out⟩, ⟨by repeat (first | (with_reducible first | exact HB.out | apply below_alloc | apply pw_below_drewN | apply below_drew1 | refine below_set ?_ GE195.out | refine below_set ?_ GE199.out) | exact HB.out)⟩⟩
          ·
           as_aux_lemma =>
           rw [if_neg c22] at H
           have c22b0 : decide (a0_1 < ((rd_T44 l0_0 x3_2).f0)) = false := decide_eq_false c22
           clear c22
           (first | rw [c22b0] | (simp only [i64_w, i32_w]; rw [c22b0]) | skip)
           by_cases c26 : x3_2 > 0
           ·
            as_aux_lemma =>
            rw [if_pos c26] at H
            have c26b0 : decide (0 < x3_2) = true := decide_eq_true c26
            clear c26
            obtain ⟨ji27, hji27⟩ : ∃ j_ : Int, (wrap64 (x3_2 - 1)) = j_ := ⟨_, rfl⟩
            replace H : (if 0 ≤ (ji27) then (if (ji27) < (l0_0.length : Int) then (rehearsalref04_Check.j2 k2 x3_2 (decide (((rd_T44 l0_0 x3_2).f0) ≤ ((rd_T44 l0_0 (ji27)).f0))) l0_0 a0_1 a0_2 a0_3 ((rd_T44 l0_0 x3_2).f0) ((rd_T44 l0_0 x3_2).f1) ((rd_T44 l0_0 x3_2).f2) ((rd_T44 l0_0 x3_2).f3) ((rd_T44 l0_0 x3_2).f4) ((rd_T44 l0_0 x3_2).f5) ((rd_T44 l0_0 x3_2).f6)) else (none)) else (none)) = some r := by first | (rw [hji27] at H; exact H) | (simp only [hji27] at H ⊢; exact H)
            (try rw [hji27] at A20)
            have hji27w : (IntKind.i64.wrap (x3_2 - 1)) = ji27 := (i64_w _).trans hji27
            by_cases c28 : 0 ≤ (ji27)
            ·
             as_aux_lemma =>
             rw [if_pos c28] at H
             have c28b0 : decide (0 ≤ (ji27)) = true := decide_eq_true c28
             clear c28
             by_cases c29 : (ji27) < (l0_0.length : Int)
             ·
              as_aux_lemma =>
              rw [if_pos c29] at H
              have c29b0 : decide ((ji27) < (l0_0.length : Int)) = true := decide_eq_true c29
              clear c29
              have H' := Aside0.mk H
              clear H
              try go_wp2
              have n0_ : Aside0 ((((((((w17.setCell ⟨gb199, 0, none⟩ (.int .i64 ((rd_T44 l0_0 x3_2).f0))).setCell ⟨gb199, 1, none⟩ (.int .i64 ((rd_T44 l0_0 x3_2).f1))).setCell ⟨gb199, 2, none⟩ (.int .i64 ((rd_T44 l0_0 x3_2).f2))).setCell ⟨gb199, 3, none⟩ (.int .i64 ((rd_T44 l0_0 x3_2).f3))).setCell ⟨gb199, 4, none⟩ (.int .i64 ((rd_T44 l0_0 x3_2).f4))).setCell ⟨gb199, 5, none⟩ (.string ((rd_T44 l0_0 x3_2).f5))).setCell ⟨gb199, 6, none⟩ (.slice A198_6 ((rd_T44 l0_0 x3_2).f6).length c198_6)).heap[gb195]? = some (.cells #[.slice (some ad198) l0_0.length c0_0, .int .i64 a0_1, .int .i64 a0_2, .int .i64 a0_3] 26 (0, 0))) := ⟨by (with_reducible repeat (first | refine blk_drewN ?_ _ | refine blk_drew ?_ | refine blk_alloc ?_ _)); refine blk_far ?_ NB195_199.out _; (with_reducible repeat (first | refine blk_drewN ?_ _ | refine blk_drew ?_ | refine blk_alloc ?_ _)); refine blk_far ?_ NB195_199.out _; (with_reducible repeat (first | refine blk_drewN ?_ _ | refine blk_drew ?_ | refine blk_alloc ?_ _)); refine blk_far ?_ NB195_199.out _; (with_reducible repeat (first | refine blk_drewN ?_ _ | refine blk_drew ?_ | refine blk_alloc ?_ _)); refine blk_far ?_ NB195_199.out _; (with_reducible repeat (first | refine blk_drewN ?_ _ | refine blk_drew ?_ | refine blk_alloc ?_ _)); refine blk_far ?_ NB195_199.out _; (with_reducible repeat (first | refine blk_drewN ?_ _ | refine blk_drew ?_ | refine blk_alloc ?_ _)); refine blk_far ?_ NB195_199.out _; (with_reducible repeat (first | refine blk_drewN ?_ _ | refine blk_drew ?_ | refine blk_alloc ?_ _)); refine blk_far ?_ NB195_199.out _; (with_reducible repeat (first | refine blk_drewN ?_ _ | refine blk_drew ?_ | refine blk_alloc ?_ _)); exact BK195.out⟩
              have n1_ : Aside0 ((((((((w17.setCell ⟨gb199, 0, none⟩ (.int .i64 ((rd_T44 l0_0 x3_2).f0))).setCell ⟨gb199, 1, none⟩ (.int .i64 ((rd_T44 l0_0 x3_2).f1))).setCell ⟨gb199, 2, none⟩ (.int .i64 ((rd_T44 l0_0 x3_2).f2))).setCell ⟨gb199, 3, none⟩ (.int .i64 ((rd_T44 l0_0 x3_2).f3))).setCell ⟨gb199, 4, none⟩ (.int .i64 ((rd_T44 l0_0 x3_2).f4))).setCell ⟨gb199, 5, none⟩ (.string ((rd_T44 l0_0 x3_2).f5))).setCell ⟨gb199, 6, none⟩ (.slice A198_6 ((rd_T44 l0_0 x3_2).f6).length c198_6)).heap[gb199]? = some (.cells #[.int .i64 ((rd_T44 l0_0 x3_2).f0), .int .i64 ((rd_T44 l0_0 x3_2).f1), .int .i64 ((rd_T44 l0_0 x3_2).f2), .int .i64 ((rd_T44 l0_0 x3_2).f3), .int .i64 ((rd_T44 l0_0 x3_2).f4), .string ((rd_T44 l0_0 x3_2).f5), .slice A198_6 ((rd_T44 l0_0 x3_2).f6).length c198_6] 44 (0, 0))) := ⟨by (with_reducible repeat (first | refine blk_drewN ?_ _ | refine blk_drew ?_ | refine blk_alloc ?_ _)); refine blk_put (cs := #[.int .i64 ((rd_T44 l0_0 x3_2).f0), .int .i64 ((rd_T44 l0_0 x3_2).f1), .int .i64 ((rd_T44 l0_0 x3_2).f2), .int .i64 ((rd_T44 l0_0 x3_2).f3), .int .i64 ((rd_T44 l0_0 x3_2).f4), .string ((rd_T44 l0_0 x3_2).f5), .slice none 0 0]) ?_ 6 _ (by first | rfl | (simp only [w64_PTr18]; rfl) | (simp [w64_PTr18]; done)); (with_reducible repeat (first | refine blk_drewN ?_ _ | refine blk_drew ?_ | refine blk_alloc ?_ _)); refine blk_put (cs := #[.int .i64 ((rd_T44 l0_0 x3_2).f0), .int .i64 ((rd_T44 l0_0 x3_2).f1), .int .i64 ((rd_T44 l0_0 x3_2).f2), .int .i64 ((rd_T44 l0_0 x3_2).f3), .int .i64 ((rd_T44 l0_0 x3_2).f4), .string (⟨#[]⟩ : ByteArray), .slice none 0 0]) ?_ 5 _ (by first | rfl | (simp only [w64_PTr18]; rfl) | (simp [w64_PTr18]; done)); (with_reducible repeat (first | refine blk_drewN ?_ _ | refine blk_drew ?_ | refine blk_alloc ?_ _)); refine blk_put (cs := #[.int .i64 ((rd_T44 l0_0 x3_2).f0), .int .i64 ((rd_T44 l0_0 x3_2).f1), .int .i64 ((rd_T44 l0_0 x3_2).f2), .int .i64 ((rd_T44 l0_0 x3_2).f3), .int .i64 0, .string (⟨#[]⟩ : ByteArray), .slice none 0 0]) ?_ 4 _ (by first | rfl | (simp only [w64_PTr18]; rfl) | (simp [w64_PTr18]; done)); (with_reducible repeat (first | refine blk_drewN ?_ _ | refine blk_drew ?_ | refine blk_alloc ?_ _)); refine blk_put (cs := #[.int .i64 ((rd_T44 l0_0 x3_2).f0), .int .i64 ((rd_T44 l0_0 x3_2).f1), .int .i64 ((rd_T44 l0_0 x3_2).f2), .int .i64 0, .int .i64 0, .string (⟨#[]⟩ : ByteArray), .slice none 0 0]) ?_ 3 _ (by first | rfl | (simp only [w64_PTr18]; rfl) | (simp [w64_PTr18]; done)); (with_reducible repeat (first | refine blk_drewN ?_ _ | refine blk_drew ?_ | refine blk_alloc ?_ _)); refine blk_put (cs := #[.int .i64 ((rd_T44 l0_0 x3_2).f0), .int .i64 ((rd_T44 l0_0 x3_2).f1), .int .i64 0, .int .i64 0, .int .i64 0, .string (⟨#[]⟩ : ByteArray), .slice none 0 0]) ?_ 2 _ (by first | rfl | (simp only [w64_PTr18]; rfl) | (simp [w64_PTr18]; done)); (with_reducible repeat (first | refine blk_drewN ?_ _ | refine blk_drew ?_ | refine blk_alloc ?_ _)); refine blk_put (cs := #[.int .i64 ((rd_T44 l0_0 x3_2).f0), .int .i64 0, .int .i64 0, .int .i64 0, .int .i64 0, .string (⟨#[]⟩ : ByteArray), .slice none 0 0]) ?_ 1 _ (by first | rfl | (simp only [w64_PTr18]; rfl) | (simp [w64_PTr18]; done)); (with_reducible repeat (first | refine blk_drewN ?_ _ | refine blk_drew ?_ | refine blk_alloc ?_ _)); refine blk_put (cs := #[.int .i64 0, .int .i64 0, .int .i64 0, .int .i64 0, .int .i64 0, .string (⟨#[]⟩ : ByteArray), .slice none 0 0]) ?_ 0 _ (by first | rfl | (simp only [w64_PTr18]; rfl) | (simp [w64_PTr18]; done)); (with_reducible repeat (first | refine blk_drewN ?_ _ | refine blk_drew ?_ | refine blk_alloc ?_ _)); exact BK199.out⟩
              have n2_ : Aside0 (Below w.heap.size w (((((((w17.setCell ⟨gb199, 0, none⟩ (.int .i64 ((rd_T44 l0_0 x3_2).f0))).setCell ⟨gb199, 1, none⟩ (.int .i64 ((rd_T44 l0_0 x3_2).f1))).setCell ⟨gb199, 2, none⟩ (.int .i64 ((rd_T44 l0_0 x3_2).f2))).setCell ⟨gb199, 3, none⟩ (.int .i64 ((rd_T44 l0_0 x3_2).f3))).setCell ⟨gb199, 4, none⟩ (.int .i64 ((rd_T44 l0_0 x3_2).f4))).setCell ⟨gb199, 5, none⟩ (.string ((rd_T44 l0_0 x3_2).f5))).setCell ⟨gb199, 6, none⟩ (.slice A198_6 ((rd_T44 l0_0 x3_2).f6).length c198_6))) := ⟨by repeat (first | (with_reducible first | exact HB.out | apply below_alloc | apply pw_below_drewN | apply below_drew1 | refine below_set ?_ GE195.out | refine below_set ?_ GE199.out) | exact HB.out)⟩
              (try clear BK195)
              (try clear BK199)
              (try clear HB)
              generalize (((((((w17.setCell ⟨gb199, 0, none⟩ (.int .i64 ((rd_T44 l0_0 x3_2).f0))).setCell ⟨gb199, 1, none⟩ (.int .i64 ((rd_T44 l0_0 x3_2).f1))).setCell ⟨gb199, 2, none⟩ (.int .i64 ((rd_T44 l0_0 x3_2).f2))).setCell ⟨gb199, 3, none⟩ (.int .i64 ((rd_T44 l0_0 x3_2).f3))).setCell ⟨gb199, 4, none⟩ (.int .i64 ((rd_T44 l0_0 x3_2).f4))).setCell ⟨gb199, 5, none⟩ (.string ((rd_T44 l0_0 x3_2).f5))).setCell ⟨gb199, 6, none⟩ (.slice A198_6 ((rd_T44 l0_0 x3_2).f6).length c198_6)) = w30 at n0_ n1_ n2_ ⊢
              have BK195 := n0_
              have BK199 := n1_
              have HB := n2_
              clear n0_ n1_ n2_
              have n0_ := Aside0.mk (blk_drew BK195.out)
              have n1_ := Aside0.mk (blk_drew BK199.out)
              have n2_ := Aside0.mk (below_drew1 HB.out)
              clear BK195
              clear BK199
              clear HB
              have BK195 := n0_
              have BK199 := n1_
              have HB := n2_
              clear n0_ n1_ n2_
              have p201 : 0 ≤ ((ji27) : Int) := of_decide_eq_true (by first | (with_reducible assumption) | assumption)
              have q201 : (ji27) < (l0_0.length : Int) := of_decide_eq_true (by first | (with_reducible assumption) | assumption)
              obtain ⟨ad201, A201_6, c201_6, e201, hx201_0, hx201_1, hx201_2, hx201_3, hx201_4, hx201_5, hx201_6, hl201_6, hi201_6⟩ := at_T44 HR0_0.out (ji27) p201 q201
              have hw201_6 := hx201_6
              have hw201_5 := hx201_5
              have hw201_4 := hx201_4
              have hw201_3 := hx201_3
              have hw201_2 := hx201_2
              have hw201_1 := hx201_1
              have hw201_0 := hx201_0
              obtain rfl : ad198 = ad201 := (by injection e201)
              replace hx201_0 := (HB.out.cell (World.block_lt_of_cell? w _ hx201_0)).trans hx201_0
              replace hx201_1 := (HB.out.cell (World.block_lt_of_cell? w _ hx201_1)).trans hx201_1
              replace hx201_2 := (HB.out.cell (World.block_lt_of_cell? w _ hx201_2)).trans hx201_2
              replace hx201_3 := (HB.out.cell (World.block_lt_of_cell? w _ hx201_3)).trans hx201_3
              replace hx201_4 := (HB.out.cell (World.block_lt_of_cell? w _ hx201_4)).trans hx201_4
              replace hx201_5 := (HB.out.cell (World.block_lt_of_cell? w _ hx201_5)).trans hx201_5
              replace hx201_6 := (HB.out.cell (World.block_lt_of_cell? w _ hx201_6)).trans hx201_6
              have HR201_6 := Aside0.mk hi201_6
              have HC201_6 := Aside0.mk hl201_6
              clear hi201_6 hl201_6
              replace p201 := eq_true p201
              replace q201 := eq_true q201
              refine start_ (n := 26) (S := fun w' => w'.cell? ⟨gb199, 0, none⟩ = some (.int .i64 ((rd_T44 l0_0 x3_2).f0)) ∧ w'.cell? ⟨gb199, 1, none⟩ = some (.int .i64 ((rd_T44 l0_0 x3_2).f1)) ∧ w'.cell? ⟨gb199, 2, none⟩ = some (.int .i64 ((rd_T44 l0_0 x3_2).f2)) ∧ w'.cell? ⟨gb199, 3, none⟩ = some (.int .i64 ((rd_T44 l0_0 x3_2).f3)) ∧ w'.cell? ⟨gb199, 4, none⟩ = some (.int .i64 ((rd_T44 l0_0 x3_2).f4)) ∧ w'.cell? ⟨gb199, 5, none⟩ = some (.string ((rd_T44 l0_0 x3_2).f5)) ∧ w'.cell? ⟨gb199, 6, none⟩ = some (.slice A198_6 ((rd_T44 l0_0 x3_2).f6).length c198_6) ∧ w'.cell? ⟨gb195, 0, none⟩ = some (.slice (some ad198) l0_0.length c0_0) ∧ w'.cell? ⟨gb195, 1, none⟩ = some (.int .i64 a0_1) ∧ w'.cell? ⟨gb195, 2, none⟩ = some (.int .i64 a0_2) ∧ w'.cell? ⟨gb195, 3, none⟩ = some (.int .i64 a0_3) ∧ w'.cell? (ad198.add (((ji27)).toNat * 7)) = some (.int .i64 ((rd_T44 l0_0 (ji27)).f0)) ∧ w'.cell? ⟨(ad198.add (((ji27)).toNat * 7)).block, (ad198.add (((ji27)).toNat * 7)).off + 1, none⟩ = some (.int .i64 ((rd_T44 l0_0 (ji27)).f1)) ∧ w'.cell? ⟨(ad198.add (((ji27)).toNat * 7)).block, (ad198.add (((ji27)).toNat * 7)).off + 2, none⟩ = some (.int .i64 ((rd_T44 l0_0 (ji27)).f2)) ∧ w'.cell? ⟨(ad198.add (((ji27)).toNat * 7)).block, (ad198.add (((ji27)).toNat * 7)).off + 3, none⟩ = some (.int .i64 ((rd_T44 l0_0 (ji27)).f3)) ∧ w'.cell? ⟨(ad198.add (((ji27)).toNat * 7)).block, (ad198.add (((ji27)).toNat * 7)).off + 4, none⟩ = some (.int .i64 ((rd_T44 l0_0 (ji27)).f4)) ∧ w'.cell? ⟨(ad198.add (((ji27)).toNat * 7)).block, (ad198.add (((ji27)).toNat * 7)).off + 5, none⟩ = some (.string ((rd_T44 l0_0 (ji27)).f5)) ∧ w'.cell? ⟨(ad198.add (((ji27)).toNat * 7)).block, (ad198.add (((ji27)).toNat * 7)).off + 6, none⟩ = some (.slice A201_6 ((rd_T44 l0_0 (ji27)).f6).length c201_6)) (ds := []) #[false, false, false, false, false, false, false, false, false, false, false, false, false, false, false, false, false, false, false, false, false, false, false, false, false, false] (by kernel_rfl) rfl rfl ⟨(blk_cell BK199.out 0).trans rfl, (blk_cell BK199.out 1).trans rfl, (blk_cell BK199.out 2).trans rfl, (blk_cell BK199.out 3).trans rfl, (blk_cell BK199.out 4).trans rfl, (blk_cell BK199.out 5).trans rfl, (blk_cell BK199.out 6).trans rfl, (blk_cell BK195.out 0).trans rfl, (blk_cell BK195.out 1).trans rfl, (blk_cell BK195.out 2).trans rfl, (blk_cell BK195.out 3).trans rfl, ((HB.out.cell (World.block_lt_of_cell? w _ hw201_0)).trans hw201_0), ((HB.out.cell (World.block_lt_of_cell? w _ hw201_1)).trans hw201_1), ((HB.out.cell (World.block_lt_of_cell? w _ hw201_2)).trans hw201_2), ((HB.out.cell (World.block_lt_of_cell? w _ hw201_3)).trans hw201_3), ((HB.out.cell (World.block_lt_of_cell? w _ hw201_4)).trans hw201_4), ((HB.out.cell (World.block_lt_of_cell? w _ hw201_5)).trans hw201_5), ((HB.out.cell (World.block_lt_of_cell? w _ hw201_6)).trans hw201_6)⟩ (fun hHeld => ?_); refine with_tabW rehearsalref04_Check.tab7 rehearsalref04_Check.bits7 (fun HT_ HW_ => ?_)
              generalize w30.drew = w31 at BK195 BK199 HB HR201_6 hx201_0 hx201_1 hx201_2 hx201_3 hx201_4 hx201_5 hx201_6 hHeld ⊢
              refine take_ (i := 0) (N := some 46) (v := ?_) (a' := ?_) #[true, false, false, false, false, false, false, false, false, false, false, false, false, false, false, false, false, false, false, false, false, false, false, false, false, false] rfl rfl (take_ofW HT_.out HW_.out (by kernel_rfl)) (fun _ _ _ h => h) (Or.inl ⟨by rfl, ?_⟩) hHeld ?_ ?_
              rotate_left
              ·
               rintro w' ⟨s0, s1, s2, s3, s4, s5, s6, s7, s8, s9, s10, s11, s12, s13, s14, s15, s16, s17⟩
               go_simp
               with_reducible rfl
              rotate_left
              ·
               simp only [Act.put, List.setIfInBounds_toArray, List.set_cons_zero, List.set_cons_succ, i64_w, i32_w]
               rfl
              refine one_ (i := 1) (N := some 47) #[true, true, false, false, false, false, false, false, false, false, false, false, false, false, false, false, false, false, false, false, false, false, false, false, false, false] rfl rfl (one_of HT_.out (by kernel_rfl)) (by decide) (fun K hK => ?_)
              refine goes_ Tryd.func60 (by kernel_rfl) rfl #[.agg #[.int .i64 ((rd_T44 l0_0 x3_2).f0), .int .i64 ((rd_T44 l0_0 x3_2).f1), .int .i64 ((rd_T44 l0_0 x3_2).f2), .int .i64 ((rd_T44 l0_0 x3_2).f3), .int .i64 ((rd_T44 l0_0 x3_2).f4), .string ((rd_T44 l0_0 x3_2).f5), .slice A198_6 ((rd_T44 l0_0 x3_2).f6).length c198_6]] (by rfl) rfl rfl (by (try simp only [List.map_toArray, List.map_cons, List.map_nil]); first | done | rfl | (simp only [List.length_drop, List.length_take]; rfl)) ?_
              with_reducible refine (rehearsalref04_plain.calls k2 ((rd_T44 l0_0 x3_2).f0) ((rd_T44 l0_0 x3_2).f1) ((rd_T44 l0_0 x3_2).f2) ((rd_T44 l0_0 x3_2).f3) ((rd_T44 l0_0 x3_2).f4) ((rd_T44 l0_0 x3_2).f5) _ _ ((rd_T44 l0_0 x3_2).f6) true _ ?side1 ?side2 A20.out).mono ?_
              (case side1 => repeat (first | exact (Kd.C_below HR198_6.out HB.out) | (with_reducible refine Kd.C_alloc ?_ _) | (with_reducible refine Kd.C_drewN ?_ _) | (with_reducible refine Kd.C_drew ?_)))
              (case side2 => exact HC198_6.out)
              rintro e w32 ⟨rfl, hb⟩
              refine ⟨_, rfl, ?_⟩
              have n0_ := Aside0.mk (blk_below (g := gb195) (o := .cells #[.slice (some ad198) l0_0.length c0_0, .int .i64 a0_1, .int .i64 a0_2, .int .i64 a0_3] 26 (0, 0)) (by (with_reducible repeat (first | refine blk_drewN ?_ _ | refine blk_drew ?_ | refine blk_alloc ?_ _)); exact BK195.out) hb)
              have n1_ := Aside0.mk (blk_below (g := gb199) (o := .cells #[.int .i64 ((rd_T44 l0_0 x3_2).f0), .int .i64 ((rd_T44 l0_0 x3_2).f1), .int .i64 ((rd_T44 l0_0 x3_2).f2), .int .i64 ((rd_T44 l0_0 x3_2).f3), .int .i64 ((rd_T44 l0_0 x3_2).f4), .string ((rd_T44 l0_0 x3_2).f5), .slice A198_6 ((rd_T44 l0_0 x3_2).f6).length c198_6] 44 (0, 0)) (by (with_reducible repeat (first | refine blk_drewN ?_ _ | refine blk_drew ?_ | refine blk_alloc ?_ _)); exact BK199.out) hb)
              have n2_ := Aside0.mk (below_step (by repeat (first | (with_reducible first | exact HB.out | apply below_alloc | apply pw_below_drewN | apply below_drew1 | refine below_set ?_ GE195.out | refine below_set ?_ GE199.out) | exact HB.out)) hb)
              clear BK195
              clear BK199
              clear HB
              have BK195 := n0_
              have BK199 := n1_
              have HB := n2_
              clear n0_ n1_ n2_
              (try clear hb)
              (try clear hb2)
              (try clear hk)
              (try clear hi)
              refine hK.out _ _ ⟨(blk_cell BK199.out 0).trans rfl, (blk_cell BK199.out 1).trans rfl, (blk_cell BK199.out 2).trans rfl, (blk_cell BK199.out 3).trans rfl, (blk_cell BK199.out 4).trans rfl, (blk_cell BK199.out 5).trans rfl, (blk_cell BK199.out 6).trans rfl, (blk_cell BK195.out 0).trans rfl, (blk_cell BK195.out 1).trans rfl, (blk_cell BK195.out 2).trans rfl, (blk_cell BK195.out 3).trans rfl, ((HB.out.cell (World.block_lt_of_cell? w _ hw201_0)).trans hw201_0), ((HB.out.cell (World.block_lt_of_cell? w _ hw201_1)).trans hw201_1), ((HB.out.cell (World.block_lt_of_cell? w _ hw201_2)).trans hw201_2), ((HB.out.cell (World.block_lt_of_cell? w _ hw201_3)).trans hw201_3), ((HB.out.cell (World.block_lt_of_cell? w _ hw201_4)).trans hw201_4), ((HB.out.cell (World.block_lt_of_cell? w _ hw201_5)).trans hw201_5), ((HB.out.cell (World.block_lt_of_cell? w _ hw201_6)).trans hw201_6)⟩ (fun hHeld => ?_)
              clear hK K
              refine norm_ (a' := ?_) ?_ ?_
              rotate_left
              ·
               show Act.put _ (some 47) _ = _
               simp only [Act.put, List.setIfInBounds_toArray, List.set_cons_zero, List.set_cons_succ, i64_w, i32_w]
               rfl
              iterate 5 (((first | refine takeS_ 2 (N := some 48) (v := ?_) (a' := ?_) rfl rfl (by decide +kernel) (fun _ _ _ h => h) (Or.inl ⟨by rfl, ?_⟩) hHeld ?_ ?_ | refine takeS_ 3 (N := some 49) (v := ?_) (a' := ?_) rfl rfl (by decide +kernel) (fun _ _ _ h => h) (Or.inl ⟨by rfl, ?_⟩) hHeld ?_ ?_ | refine takeS_ 4 (N := some 50) (v := ?_) (a' := ?_) rfl rfl (by decide +kernel) (fun _ _ _ h => h) (Or.inl ⟨by rfl, ?_⟩) hHeld ?_ ?_ | refine takeS_ 6 (N := some 52) (v := ?_) (a' := ?_) rfl rfl (by decide +kernel) (fun _ _ _ h => h) (Or.inl ⟨by rfl, ?_⟩) hHeld ?_ ?_ | refine takeS_ 5 (N := some 51) (v := ?_) (a' := ?_) rfl rfl (by decide +kernel) (fun _ _ _ h => h) (Or.inl ⟨by rfl, ?_⟩) hHeld ?_ ?_); rotate_left; (rintro w' ⟨s0, s1, s2, s3, s4, s5, s6, s7, s8, s9, s10, s11, s12, s13, s14, s15, s16, s17⟩; go_simp; first | done | (with_reducible rfl) | rfl); rotate_left; (simp only [Act.put, List.setIfInBounds_toArray, List.set_cons_zero, List.set_cons_succ, i64_w, i32_w]; rfl)))
              iterate 5 (((first | refine takeS_ 7 (N := some 53) (v := ?_) (a' := ?_) rfl rfl (by decide +kernel) (fun _ _ _ h => h) (Or.inl ⟨by rfl, ?_⟩) hHeld ?_ ?_ | refine takeS_ 8 (N := some 54) (v := ?_) (a' := ?_) rfl rfl (by decide +kernel) (fun _ _ _ h => h) (Or.inl ⟨by rfl, ?_⟩) hHeld ?_ ?_ | refine takeS_ 9 (N := some 55) (v := ?_) (a' := ?_) rfl rfl (by decide +kernel) (fun _ _ _ h => h) (Or.inl ⟨by rfl, ?_⟩) hHeld ?_ ?_ | refine takeS_ 10 (N := some 56) (v := ?_) (a' := ?_) rfl rfl (by decide +kernel) (fun _ _ _ h => h) (Or.inl ⟨by rfl, ?_⟩) hHeld ?_ ?_ | refine takeS_ 11 (N := some 57) (v := ?_) (a' := ?_) rfl rfl (by decide +kernel) (fun _ _ _ h => h) (Or.inl ⟨by rfl, ?_⟩) hHeld ?_ ?_); rotate_left; (rintro w' ⟨s0, s1, s2, s3, s4, s5, s6, s7, s8, s9, s10, s11, s12, s13, s14, s15, s16, s17⟩; go_simp; first | done | (with_reducible rfl) | rfl); rotate_left; (simp only [Act.put, List.setIfInBounds_toArray, List.set_cons_zero, List.set_cons_succ, i64_w, i32_w]; rfl)))
              iterate 5 (((first | refine takeS_ 12 (N := some 58) (v := ?_) (a' := ?_) rfl rfl (by decide +kernel) (fun _ _ _ h => h) (Or.inl ⟨by rfl, ?_⟩) hHeld ?_ ?_ | refine takeS_ 13 (N := some 59) (v := ?_) (a' := ?_) rfl rfl (by decide +kernel) (fun _ _ _ h => h) (Or.inl ⟨by rfl, ?_⟩) hHeld ?_ ?_ | refine takeS_ 14 (N := some 60) (v := ?_) (a' := ?_) rfl rfl (by decide +kernel) (fun _ _ _ h => h) (Or.inl ⟨by rfl, ?_⟩) hHeld ?_ ?_ | refine takeS_ 16 (N := some 62) (v := ?_) (a' := ?_) rfl rfl (by decide +kernel) (fun _ _ _ h => h) (Or.inl ⟨by rfl, ?_⟩) hHeld ?_ ?_ | refine takeS_ 18 (N := some 64) (v := ?_) (a' := ?_) rfl rfl (by decide +kernel) (fun _ _ _ h => h) (Or.inl ⟨by rfl, ?_⟩) hHeld ?_ ?_); rotate_left; (rintro w' ⟨s0, s1, s2, s3, s4, s5, s6, s7, s8, s9, s10, s11, s12, s13, s14, s15, s16, s17⟩; go_simp; first | done | (with_reducible rfl) | rfl); rotate_left; (simp only [Act.put, List.setIfInBounds_toArray, List.set_cons_zero, List.set_cons_succ, i64_w, i32_w]; rfl)))
              iterate 5 (((first | refine takeS_ 19 (N := some 65) (v := ?_) (a' := ?_) rfl rfl (by decide +kernel) (fun _ _ _ h => h) (Or.inl ⟨by rfl, ?_⟩) hHeld ?_ ?_ | refine takeS_ 15 (N := some 61) (v := ?_) (a' := ?_) rfl rfl (by decide +kernel) (fun _ _ _ h => h) (Or.inl ⟨by rfl, ?_⟩) hHeld ?_ ?_ | refine takeS_ 17 (N := some 63) (v := ?_) (a' := ?_) rfl rfl (by decide +kernel) (fun _ _ _ h => h) (Or.inl ⟨by rfl, ?_⟩) hHeld ?_ ?_ | refine takeS_ 20 (N := some 66) (v := ?_) (a' := ?_) rfl rfl (by decide +kernel) (fun _ _ _ h => h) (Or.inl ⟨by rfl, ?_⟩) hHeld ?_ ?_ | refine takeS_ 21 (N := some 67) (v := ?_) (a' := ?_) rfl rfl (by decide +kernel) (fun _ _ _ h => h) (Or.inl ⟨by rfl, ?_⟩) hHeld ?_ ?_); rotate_left; (rintro w' ⟨s0, s1, s2, s3, s4, s5, s6, s7, s8, s9, s10, s11, s12, s13, s14, s15, s16, s17⟩; go_simp; first | done | (with_reducible rfl) | rfl); rotate_left; (simp only [Act.put, List.setIfInBounds_toArray, List.set_cons_zero, List.set_cons_succ, i64_w, i32_w]; rfl)))
              iterate 4 (((first | refine takeS_ 22 (N := some 68) (v := ?_) (a' := ?_) rfl rfl (by decide +kernel) (fun _ _ _ h => h) (Or.inl ⟨by rfl, ?_⟩) hHeld ?_ ?_ | refine takeS_ 23 (N := some 69) (v := ?_) (a' := ?_) rfl rfl (by decide +kernel) (fun _ _ _ h => h) (Or.inl ⟨by rfl, ?_⟩) hHeld ?_ ?_ | refine takeS_ 24 (N := some 70) (v := ?_) (a' := ?_) rfl rfl (by decide +kernel) (fun _ _ _ h => h) (Or.inl ⟨by rfl, ?_⟩) hHeld ?_ ?_ | refine takeS_ 25 (N := some 71) (v := ?_) (a' := ?_) rfl rfl (by decide +kernel) (fun _ _ _ h => h) (Or.inl ⟨by rfl, ?_⟩) hHeld ?_ ?_); rotate_left; (rintro w' ⟨s0, s1, s2, s3, s4, s5, s6, s7, s8, s9, s10, s11, s12, s13, s14, s15, s16, s17⟩; go_simp; first | done | (with_reducible rfl) | rfl); rotate_left; (simp only [Act.put, List.setIfInBounds_toArray, List.set_cons_zero, List.set_cons_succ, i64_w, i32_w]; rfl)))
              refine done_ (done_of HT_.out (by kernel_rfl)) ?_
              try go_wp2
              go_meet
              case rel => exact ⟨_, (decide (((rd_T44 l0_0 x3_2).f0) ≤ ((rd_T44 l0_0 (ji27)).f0))), (by first | rfl | (simp; done) | (simp only [← hji27] <;> (first | rfl | simp)) | (simp [*]; done)), (by first | exact H' | (rw [hji27]; exact H') | (simp only [hji27]; exact H')), ⟨by have := HJ1.out; have := HK2.out; first | omega | exact Nat.le_refl _⟩, ⟨by (with_reducible repeat (first | refine blk_drewN ?_ _ | refine blk_drew ?_ | refine blk_alloc ?_ _)); exact BK195.out⟩, ⟨by (with_reducible repeat (first | refine blk_drewN ?_ _ | refine blk_drew ?_ | refine blk_alloc ?_ _)); exact BK199.out⟩, ⟨by repeat (first | (with_reducible first | exact HB.out | apply below_alloc | apply pw_below_drewN | apply below_drew1 | refine below_set ?_ GE195.out | refine below_set ?_ GE199.out) | exact HB.out)⟩⟩
             ·
              as_aux_lemma =>
              rw [if_neg c29] at H
              exact absurd H (by simp)
            ·
             as_aux_lemma =>
             rw [if_neg c28] at H
             exact absurd H (by simp)
           ·
            as_aux_lemma =>
            rw [if_neg c26] at H
            have c26b0 : decide (0 < x3_2) = false := decide_eq_false c26
            clear c26
            have H' := Aside0.mk H
            clear H
            try go_wp2
            have n0_ : Aside0 ((((((((w17.setCell ⟨gb199, 0, none⟩ (.int .i64 ((rd_T44 l0_0 x3_2).f0))).setCell ⟨gb199, 1, none⟩ (.int .i64 ((rd_T44 l0_0 x3_2).f1))).setCell ⟨gb199, 2, none⟩ (.int .i64 ((rd_T44 l0_0 x3_2).f2))).setCell ⟨gb199, 3, none⟩ (.int .i64 ((rd_T44 l0_0 x3_2).f3))).setCell ⟨gb199, 4, none⟩ (.int .i64 ((rd_T44 l0_0 x3_2).f4))).setCell ⟨gb199, 5, none⟩ (.string ((rd_T44 l0_0 x3_2).f5))).setCell ⟨gb199, 6, none⟩ (.slice A198_6 ((rd_T44 l0_0 x3_2).f6).length c198_6)).heap[gb195]? = some (.cells #[.slice (some ad198) l0_0.length c0_0, .int .i64 a0_1, .int .i64 a0_2, .int .i64 a0_3] 26 (0, 0))) := ⟨by (with_reducible repeat (first | refine blk_drewN ?_ _ | refine blk_drew ?_ | refine blk_alloc ?_ _)); refine blk_far ?_ NB195_199.out _; (with_reducible repeat (first | refine blk_drewN ?_ _ | refine blk_drew ?_ | refine blk_alloc ?_ _)); refine blk_far ?_ NB195_199.out _; (with_reducible repeat (first | refine blk_drewN ?_ _ | refine blk_drew ?_ | refine blk_alloc ?_ _)); refine blk_far ?_ NB195_199.out _; (with_reducible repeat (first | refine blk_drewN ?_ _ | refine blk_drew ?_ | refine blk_alloc ?_ _)); refine blk_far ?_ NB195_199.out _; (with_reducible repeat (first | refine blk_drewN ?_ _ | refine blk_drew ?_ | refine blk_alloc ?_ _)); refine blk_far ?_ NB195_199.out _; (with_reducible repeat (first | refine blk_drewN ?_ _ | refine blk_drew ?_ | refine blk_alloc ?_ _)); refine blk_far ?_ NB195_199.out _; (with_reducible repeat (first | refine blk_drewN ?_ _ | refine blk_drew ?_ | refine blk_alloc ?_ _)); refine blk_far ?_ NB195_199.out _; (with_reducible repeat (first | refine blk_drewN ?_ _ | refine blk_drew ?_ | refine blk_alloc ?_ _)); exact BK195.out⟩
            have n1_ : Aside0 ((((((((w17.setCell ⟨gb199, 0, none⟩ (.int .i64 ((rd_T44 l0_0 x3_2).f0))).setCell ⟨gb199, 1, none⟩ (.int .i64 ((rd_T44 l0_0 x3_2).f1))).setCell ⟨gb199, 2, none⟩ (.int .i64 ((rd_T44 l0_0 x3_2).f2))).setCell ⟨gb199, 3, none⟩ (.int .i64 ((rd_T44 l0_0 x3_2).f3))).setCell ⟨gb199, 4, none⟩ (.int .i64 ((rd_T44 l0_0 x3_2).f4))).setCell ⟨gb199, 5, none⟩ (.string ((rd_T44 l0_0 x3_2).f5))).setCell ⟨gb199, 6, none⟩ (.slice A198_6 ((rd_T44 l0_0 x3_2).f6).length c198_6)).heap[gb199]? = some (.cells #[.int .i64 ((rd_T44 l0_0 x3_2).f0), .int .i64 ((rd_T44 l0_0 x3_2).f1), .int .i64 ((rd_T44 l0_0 x3_2).f2), .int .i64 ((rd_T44 l0_0 x3_2).f3), .int .i64 ((rd_T44 l0_0 x3_2).f4), .string ((rd_T44 l0_0 x3_2).f5), .slice A198_6 ((rd_T44 l0_0 x3_2).f6).length c198_6] 44 (0, 0))) := ⟨by (with_reducible repeat (first | refine blk_drewN ?_ _ | refine blk_drew ?_ | refine blk_alloc ?_ _)); refine blk_put (cs := #[.int .i64 ((rd_T44 l0_0 x3_2).f0), .int .i64 ((rd_T44 l0_0 x3_2).f1), .int .i64 ((rd_T44 l0_0 x3_2).f2), .int .i64 ((rd_T44 l0_0 x3_2).f3), .int .i64 ((rd_T44 l0_0 x3_2).f4), .string ((rd_T44 l0_0 x3_2).f5), .slice none 0 0]) ?_ 6 _ (by first | rfl | (simp only [w64_PTr18]; rfl) | (simp [w64_PTr18]; done)); (with_reducible repeat (first | refine blk_drewN ?_ _ | refine blk_drew ?_ | refine blk_alloc ?_ _)); refine blk_put (cs := #[.int .i64 ((rd_T44 l0_0 x3_2).f0), .int .i64 ((rd_T44 l0_0 x3_2).f1), .int .i64 ((rd_T44 l0_0 x3_2).f2), .int .i64 ((rd_T44 l0_0 x3_2).f3), .int .i64 ((rd_T44 l0_0 x3_2).f4), .string (⟨#[]⟩ : ByteArray), .slice none 0 0]) ?_ 5 _ (by first | rfl | (simp only [w64_PTr18]; rfl) | (simp [w64_PTr18]; done)); (with_reducible repeat (first | refine blk_drewN ?_ _ | refine blk_drew ?_ | refine blk_alloc ?_ _)); refine blk_put (cs := #[.int .i64 ((rd_T44 l0_0 x3_2).f0), .int .i64 ((rd_T44 l0_0 x3_2).f1), .int .i64 ((rd_T44 l0_0 x3_2).f2), .int .i64 ((rd_T44 l0_0 x3_2).f3), .int .i64 0, .string (⟨#[]⟩ : ByteArray), .slice none 0 0]) ?_ 4 _ (by first | rfl | (simp only [w64_PTr18]; rfl) | (simp [w64_PTr18]; done)); (with_reducible repeat (first | refine blk_drewN ?_ _ | refine blk_drew ?_ | refine blk_alloc ?_ _)); refine blk_put (cs := #[.int .i64 ((rd_T44 l0_0 x3_2).f0), .int .i64 ((rd_T44 l0_0 x3_2).f1), .int .i64 ((rd_T44 l0_0 x3_2).f2), .int .i64 0, .int .i64 0, .string (⟨#[]⟩ : ByteArray), .slice none 0 0]) ?_ 3 _ (by first | rfl | (simp only [w64_PTr18]; rfl) | (simp [w64_PTr18]; done)); (with_reducible repeat (first | refine blk_drewN ?_ _ | refine blk_drew ?_ | refine blk_alloc ?_ _)); refine blk_put (cs := #[.int .i64 ((rd_T44 l0_0 x3_2).f0), .int .i64 ((rd_T44 l0_0 x3_2).f1), .int .i64 0, .int .i64 0, .int .i64 0, .string (⟨#[]⟩ : ByteArray), .slice none 0 0]) ?_ 2 _ (by first | rfl | (simp only [w64_PTr18]; rfl) | (simp [w64_PTr18]; done)); (with_reducible repeat (first | refine blk_drewN ?_ _ | refine blk_drew ?_ | refine blk_alloc ?_ _)); refine blk_put (cs := #[.int .i64 ((rd_T44 l0_0 x3_2).f0), .int .i64 0, .int .i64 0, .int .i64 0, .int .i64 0, .string (⟨#[]⟩ : ByteArray), .slice none 0 0]) ?_ 1 _ (by first | rfl | (simp only [w64_PTr18]; rfl) | (simp [w64_PTr18]; done)); (with_reducible repeat (first | refine blk_drewN ?_ _ | refine blk_drew ?_ | refine blk_alloc ?_ _)); refine blk_put (cs := #[.int .i64 0, .int .i64 0, .int .i64 0, .int .i64 0, .int .i64 0, .string (⟨#[]⟩ : ByteArray), .slice none 0 0]) ?_ 0 _ (by first | rfl | (simp only [w64_PTr18]; rfl) | (simp [w64_PTr18]; done)); (with_reducible repeat (first | refine blk_drewN ?_ _ | refine blk_drew ?_ | refine blk_alloc ?_ _)); exact BK199.out⟩
            have n2_ : Aside0 (Below w.heap.size w (((((((w17.setCell ⟨gb199, 0, none⟩ (.int .i64 ((rd_T44 l0_0 x3_2).f0))).setCell ⟨gb199, 1, none⟩ (.int .i64 ((rd_T44 l0_0 x3_2).f1))).setCell ⟨gb199, 2, none⟩ (.int .i64 ((rd_T44 l0_0 x3_2).f2))).setCell ⟨gb199, 3, none⟩ (.int .i64 ((rd_T44 l0_0 x3_2).f3))).setCell ⟨gb199, 4, none⟩ (.int .i64 ((rd_T44 l0_0 x3_2).f4))).setCell ⟨gb199, 5, none⟩ (.string ((rd_T44 l0_0 x3_2).f5))).setCell ⟨gb199, 6, none⟩ (.slice A198_6 ((rd_T44 l0_0 x3_2).f6).length c198_6))) := ⟨by repeat (first | (with_reducible first | exact HB.out | apply below_alloc | apply pw_below_drewN | apply below_drew1 | refine below_set ?_ GE195.out | refine below_set ?_ GE199.out) | exact HB.out)⟩
            (try clear BK195)
            (try clear BK199)
            (try clear HB)
            generalize (((((((w17.setCell ⟨gb199, 0, none⟩ (.int .i64 ((rd_T44 l0_0 x3_2).f0))).setCell ⟨gb199, 1, none⟩ (.int .i64 ((rd_T44 l0_0 x3_2).f1))).setCell ⟨gb199, 2, none⟩ (.int .i64 ((rd_T44 l0_0 x3_2).f2))).setCell ⟨gb199, 3, none⟩ (.int .i64 ((rd_T44 l0_0 x3_2).f3))).setCell ⟨gb199, 4, none⟩ (.int .i64 ((rd_T44 l0_0 x3_2).f4))).setCell ⟨gb199, 5, none⟩ (.string ((rd_T44 l0_0 x3_2).f5))).setCell ⟨gb199, 6, none⟩ (.slice A198_6 ((rd_T44 l0_0 x3_2).f6).length c198_6)) = w33 at n0_ n1_ n2_ ⊢
            have BK195 := n0_
            have BK199 := n1_
            have HB := n2_
            clear n0_ n1_ n2_
            have n0_ := Aside0.mk (blk_drew BK195.out)
            have n1_ := Aside0.mk (blk_drew BK199.out)
            have n2_ := Aside0.mk (below_drew1 HB.out)
            clear BK195
            clear BK199
            clear HB
            have BK195 := n0_
            have BK199 := n1_
            have HB := n2_
            clear n0_ n1_ n2_
            refine start_ (n := 26) (S := fun w' => w'.cell? ⟨gb199, 0, none⟩ = some (.int .i64 ((rd_T44 l0_0 x3_2).f0)) ∧ w'.cell? ⟨gb199, 1, none⟩ = some (.int .i64 ((rd_T44 l0_0 x3_2).f1)) ∧ w'.cell? ⟨gb199, 2, none⟩ = some (.int .i64 ((rd_T44 l0_0 x3_2).f2)) ∧ w'.cell? ⟨gb199, 3, none⟩ = some (.int .i64 ((rd_T44 l0_0 x3_2).f3)) ∧ w'.cell? ⟨gb199, 4, none⟩ = some (.int .i64 ((rd_T44 l0_0 x3_2).f4)) ∧ w'.cell? ⟨gb199, 5, none⟩ = some (.string ((rd_T44 l0_0 x3_2).f5)) ∧ w'.cell? ⟨gb199, 6, none⟩ = some (.slice A198_6 ((rd_T44 l0_0 x3_2).f6).length c198_6) ∧ w'.cell? ⟨gb195, 0, none⟩ = some (.slice (some ad198) l0_0.length c0_0) ∧ w'.cell? ⟨gb195, 1, none⟩ = some (.int .i64 a0_1) ∧ w'.cell? ⟨gb195, 2, none⟩ = some (.int .i64 a0_2) ∧ w'.cell? ⟨gb195, 3, none⟩ = some (.int .i64 a0_3)) (ds := []) #[false, false, false, false, false, false, false, false, false, false, false, false, false, false, false, false, false, false, false, false, false, false, false, false, false, false] (by kernel_rfl) rfl rfl ⟨(blk_cell BK199.out 0).trans rfl, (blk_cell BK199.out 1).trans rfl, (blk_cell BK199.out 2).trans rfl, (blk_cell BK199.out 3).trans rfl, (blk_cell BK199.out 4).trans rfl, (blk_cell BK199.out 5).trans rfl, (blk_cell BK199.out 6).trans rfl, (blk_cell BK195.out 0).trans rfl, (blk_cell BK195.out 1).trans rfl, (blk_cell BK195.out 2).trans rfl, (blk_cell BK195.out 3).trans rfl⟩ (fun hHeld => ?_); refine with_tabW rehearsalref04_Check.tab7 rehearsalref04_Check.bits7 (fun HT_ HW_ => ?_)
            generalize w33.drew = w34 at BK195 BK199 HB hHeld ⊢
            refine take_ (i := 0) (N := some 46) (v := ?_) (a' := ?_) #[true, false, false, false, false, false, false, false, false, false, false, false, false, false, false, false, false, false, false, false, false, false, false, false, false, false] rfl rfl (take_ofW HT_.out HW_.out (by kernel_rfl)) (fun _ _ _ h => h) (Or.inl ⟨by rfl, ?_⟩) hHeld ?_ ?_
            rotate_left
            ·
             rintro w' ⟨s0, s1, s2, s3, s4, s5, s6, s7, s8, s9, s10⟩
             go_simp
             with_reducible rfl
            rotate_left
            ·
             simp only [Act.put, List.setIfInBounds_toArray, List.set_cons_zero, List.set_cons_succ, i64_w, i32_w]
             rfl
            refine one_ (i := 1) (N := some 47) #[true, true, false, false, false, false, false, false, false, false, false, false, false, false, false, false, false, false, false, false, false, false, false, false, false, false] rfl rfl (one_of HT_.out (by kernel_rfl)) (by decide) (fun K hK => ?_)
            refine goes_ Tryd.func60 (by kernel_rfl) rfl #[.agg #[.int .i64 ((rd_T44 l0_0 x3_2).f0), .int .i64 ((rd_T44 l0_0 x3_2).f1), .int .i64 ((rd_T44 l0_0 x3_2).f2), .int .i64 ((rd_T44 l0_0 x3_2).f3), .int .i64 ((rd_T44 l0_0 x3_2).f4), .string ((rd_T44 l0_0 x3_2).f5), .slice A198_6 ((rd_T44 l0_0 x3_2).f6).length c198_6]] (by rfl) rfl rfl (by (try simp only [List.map_toArray, List.map_cons, List.map_nil]); first | done | rfl | (simp only [List.length_drop, List.length_take]; rfl)) ?_
            with_reducible refine (rehearsalref04_plain.calls k2 ((rd_T44 l0_0 x3_2).f0) ((rd_T44 l0_0 x3_2).f1) ((rd_T44 l0_0 x3_2).f2) ((rd_T44 l0_0 x3_2).f3) ((rd_T44 l0_0 x3_2).f4) ((rd_T44 l0_0 x3_2).f5) _ _ ((rd_T44 l0_0 x3_2).f6) true _ ?side1 ?side2 A20.out).mono ?_
            (case side1 => repeat (first | exact (Kd.C_below HR198_6.out HB.out) | (with_reducible refine Kd.C_alloc ?_ _) | (with_reducible refine Kd.C_drewN ?_ _) | (with_reducible refine Kd.C_drew ?_)))
            (case side2 => exact HC198_6.out)
            rintro e w35 ⟨rfl, hb⟩
            refine ⟨_, rfl, ?_⟩
            have n0_ := Aside0.mk (blk_below (g := gb195) (o := .cells #[.slice (some ad198) l0_0.length c0_0, .int .i64 a0_1, .int .i64 a0_2, .int .i64 a0_3] 26 (0, 0)) (by (with_reducible repeat (first | refine blk_drewN ?_ _ | refine blk_drew ?_ | refine blk_alloc ?_ _)); exact BK195.out) hb)
            have n1_ := Aside0.mk (blk_below (g := gb199) (o := .cells #[.int .i64 ((rd_T44 l0_0 x3_2).f0), .int .i64 ((rd_T44 l0_0 x3_2).f1), .int .i64 ((rd_T44 l0_0 x3_2).f2), .int .i64 ((rd_T44 l0_0 x3_2).f3), .int .i64 ((rd_T44 l0_0 x3_2).f4), .string ((rd_T44 l0_0 x3_2).f5), .slice A198_6 ((rd_T44 l0_0 x3_2).f6).length c198_6] 44 (0, 0)) (by (with_reducible repeat (first | refine blk_drewN ?_ _ | refine blk_drew ?_ | refine blk_alloc ?_ _)); exact BK199.out) hb)
            have n2_ := Aside0.mk (below_step (by repeat (first | (with_reducible first | exact HB.out | apply below_alloc | apply pw_below_drewN | apply below_drew1 | refine below_set ?_ GE195.out | refine below_set ?_ GE199.out) | exact HB.out)) hb)
            clear BK195
            clear BK199
            clear HB
            have BK195 := n0_
            have BK199 := n1_
            have HB := n2_
            clear n0_ n1_ n2_
            (try clear hb)
            (try clear hb2)
            (try clear hk)
            (try clear hi)
            refine hK.out _ _ ⟨(blk_cell BK199.out 0).trans rfl, (blk_cell BK199.out 1).trans rfl, (blk_cell BK199.out 2).trans rfl, (blk_cell BK199.out 3).trans rfl, (blk_cell BK199.out 4).trans rfl, (blk_cell BK199.out 5).trans rfl, (blk_cell BK199.out 6).trans rfl, (blk_cell BK195.out 0).trans rfl, (blk_cell BK195.out 1).trans rfl, (blk_cell BK195.out 2).trans rfl, (blk_cell BK195.out 3).trans rfl⟩ (fun hHeld => ?_)
            clear hK K
            refine norm_ (a' := ?_) ?_ ?_
            rotate_left
            ·
             show Act.put _ (some 47) _ = _
             simp only [Act.put, List.setIfInBounds_toArray, List.set_cons_zero, List.set_cons_succ, i64_w, i32_w]
             rfl
            iterate 5 (((first | refine takeS_ 2 (N := some 48) (v := ?_) (a' := ?_) rfl rfl (by decide +kernel) (fun _ _ _ h => h) (Or.inl ⟨by rfl, ?_⟩) hHeld ?_ ?_ | refine takeS_ 3 (N := some 49) (v := ?_) (a' := ?_) rfl rfl (by decide +kernel) (fun _ _ _ h => h) (Or.inl ⟨by rfl, ?_⟩) hHeld ?_ ?_ | refine takeS_ 4 (N := some 50) (v := ?_) (a' := ?_) rfl rfl (by decide +kernel) (fun _ _ _ h => h) (Or.inl ⟨by rfl, ?_⟩) hHeld ?_ ?_ | refine takeS_ 6 (N := some 52) (v := ?_) (a' := ?_) rfl rfl (by decide +kernel) (fun _ _ _ h => h) (Or.inl ⟨by rfl, ?_⟩) hHeld ?_ ?_ | refine takeS_ 5 (N := some 51) (v := ?_) (a' := ?_) rfl rfl (by decide +kernel) (fun _ _ _ h => h) (Or.inl ⟨by rfl, ?_⟩) hHeld ?_ ?_); rotate_left; (rintro w' ⟨s0, s1, s2, s3, s4, s5, s6, s7, s8, s9, s10⟩; go_simp; first | done | (with_reducible rfl) | rfl); rotate_left; (simp only [Act.put, List.setIfInBounds_toArray, List.set_cons_zero, List.set_cons_succ, i64_w, i32_w]; rfl)))
            iterate 5 (((first | refine takeS_ 7 (N := some 53) (v := ?_) (a' := ?_) rfl rfl (by decide +kernel) (fun _ _ _ h => h) (Or.inl ⟨by rfl, ?_⟩) hHeld ?_ ?_ | refine takeS_ 8 (N := some 54) (v := ?_) (a' := ?_) rfl rfl (by decide +kernel) (fun _ _ _ h => h) (Or.inl ⟨by rfl, ?_⟩) hHeld ?_ ?_ | refine takeS_ 9 (N := some 55) (v := ?_) (a' := ?_) rfl rfl (by decide +kernel) (fun _ _ _ h => h) (Or.inl ⟨by rfl, ?_⟩) hHeld ?_ ?_ | refine takeS_ 10 (N := some 56) (v := ?_) (a' := ?_) rfl rfl (by decide +kernel) (fun _ _ _ h => h) (Or.inl ⟨by rfl, ?_⟩) hHeld ?_ ?_ | refine takeS_ 11 (N := some 57) (v := ?_) (a' := ?_) rfl rfl (by decide +kernel) (fun _ _ _ h => h) (Or.inl ⟨by rfl, ?_⟩) hHeld ?_ ?_); rotate_left; (rintro w' ⟨s0, s1, s2, s3, s4, s5, s6, s7, s8, s9, s10⟩; go_simp; first | done | (with_reducible rfl) | rfl); rotate_left; (simp only [Act.put, List.setIfInBounds_toArray, List.set_cons_zero, List.set_cons_succ, i64_w, i32_w]; rfl)))
            iterate 5 (first | ((first | refine takeS_ 12 (N := some 58) (v := ?_) (a' := ?_) rfl rfl (by decide +kernel) (fun _ _ _ h => h) (Or.inl ⟨by rfl, ?_⟩) hHeld ?_ ?_ | refine takeS_ 13 (N := some 59) (v := ?_) (a' := ?_) rfl rfl (by decide +kernel) (fun _ _ _ h => h) (Or.inl ⟨by rfl, ?_⟩) hHeld ?_ ?_); rotate_left; (rintro w' ⟨s0, s1, s2, s3, s4, s5, s6, s7, s8, s9, s10⟩; go_simp; first | done | (with_reducible rfl) | rfl); rotate_left; (simp only [Act.put, List.setIfInBounds_toArray, List.set_cons_zero, List.set_cons_succ, i64_w, i32_w]; rfl)) | ((first | refine takeS_ 14 (N := some 60) (v := undef) (a' := ?_) rfl rfl (by decide +kernel) (fun _ _ _ h => h) (Or.inr ⟨by rfl, rfl⟩) hHeld ?_ ?_ | refine takeS_ 15 (N := some 61) (v := undef) (a' := ?_) rfl rfl (by decide +kernel) (fun _ _ _ h => h) (Or.inr ⟨by rfl, rfl⟩) hHeld ?_ ?_ | refine takeS_ 16 (N := some 62) (v := undef) (a' := ?_) rfl rfl (by decide +kernel) (fun _ _ _ h => h) (Or.inr ⟨by rfl, rfl⟩) hHeld ?_ ?_); rotate_left; (simp only [Act.put, List.setIfInBounds_toArray, List.set_cons_zero, List.set_cons_succ, i64_w, i32_w]; rfl)))
            iterate 5 (((first | refine takeS_ 17 (N := some 63) (v := undef) (a' := ?_) rfl rfl (by decide +kernel) (fun _ _ _ h => h) (Or.inr ⟨by rfl, rfl⟩) hHeld ?_ ?_ | refine takeS_ 18 (N := some 64) (v := undef) (a' := ?_) rfl rfl (by decide +kernel) (fun _ _ _ h => h) (Or.inr ⟨by rfl, rfl⟩) hHeld ?_ ?_ | refine takeS_ 19 (N := some 65) (v := undef) (a' := ?_) rfl rfl (by decide +kernel) (fun _ _ _ h => h) (Or.inr ⟨by rfl, rfl⟩) hHeld ?_ ?_ | refine takeS_ 20 (N := some 66) (v := undef) (a' := ?_) rfl rfl (by decide +kernel) (fun _ _ _ h => h) (Or.inr ⟨by rfl, rfl⟩) hHeld ?_ ?_ | refine takeS_ 21 (N := some 67) (v := undef) (a' := ?_) rfl rfl (by decide +kernel) (fun _ _ _ h => h) (Or.inr ⟨by rfl, rfl⟩) hHeld ?_ ?_); rotate_left; (simp only [Act.put, List.setIfInBounds_toArray, List.set_cons_zero, List.set_cons_succ, i64_w, i32_w]; rfl)))
            iterate 4 (first | ((first | refine takeS_ 24 (N := some 70) (v := ?_) (a' := ?_) rfl rfl (by decide +kernel) (fun _ _ _ h => h) (Or.inl ⟨by rfl, ?_⟩) hHeld ?_ ?_ | refine takeS_ 25 (N := some 71) (v := ?_) (a' := ?_) rfl rfl (by decide +kernel) (fun _ _ _ h => h) (Or.inl ⟨by rfl, ?_⟩) hHeld ?_ ?_); rotate_left; (rintro w' ⟨s0, s1, s2, s3, s4, s5, s6, s7, s8, s9, s10⟩; go_simp; first | done | (with_reducible rfl) | rfl); rotate_left; (simp only [Act.put, List.setIfInBounds_toArray, List.set_cons_zero, List.set_cons_succ, i64_w, i32_w]; rfl)) | ((first | refine takeS_ 22 (N := some 68) (v := undef) (a' := ?_) rfl rfl (by decide +kernel) (fun _ _ _ h => h) (Or.inr ⟨by rfl, rfl⟩) hHeld ?_ ?_ | refine takeS_ 23 (N := some 69) (v := undef) (a' := ?_) rfl rfl (by decide +kernel) (fun _ _ _ h => h) (Or.inr ⟨by rfl, rfl⟩) hHeld ?_ ?_); rotate_left; (simp only [Act.put, List.setIfInBounds_toArray, List.set_cons_zero, List.set_cons_succ, i64_w, i32_w]; rfl)))
            refine done_ (done_of HT_.out (by kernel_rfl)) ?_
            try go_wp2
            go_meet
            case rel => exact ⟨_, (false), (by first | rfl | (simp; done) | (simp [*]; done)), H', ⟨by have := HJ1.out; have := HK2.out; first | omega | exact Nat.le_refl _⟩, ⟨by (with_reducible repeat (first | refine blk_drewN ?_ _ | refine blk_drew ?_ | refine blk_alloc ?_ _)); exact BK195.out⟩, ⟨by (with_reducible repeat (first | refine blk_drewN ?_ _ | refine blk_drew ?_ | refine blk_alloc ?_ _)); exact BK199.out⟩, ⟨by repeat (first | (with_reducible first | exact HB.out | apply below_alloc | apply pw_below_drewN | apply below_drew1 | refine below_set ?_ GE195.out | refine below_set ?_ GE199.out) | exact HB.out)⟩⟩
         ·
          replace c21 := Bool.eq_false_iff.mpr c21
          subst c21
          have H1 : (rehearsalref04_Check.j2 k2 x3_2 true l0_0 a0_1 a0_2 a0_3 ((rd_T44 l0_0 x3_2).f0) ((rd_T44 l0_0 x3_2).f1) ((rd_T44 l0_0 x3_2).f2) ((rd_T44 l0_0 x3_2).f3) ((rd_T44 l0_0 x3_2).f4) ((rd_T44 l0_0 x3_2).f5) ((rd_T44 l0_0 x3_2).f6)) = some r := by rw [if_neg (show ¬ (false = true) by decide)] at H; exact H
          clear H
          have H := H1
          clear H1
          have H' := Aside0.mk H
          clear H
          try go_wp2
          have n0_ : Aside0 ((((((((w17.setCell ⟨gb199, 0, none⟩ (.int .i64 ((rd_T44 l0_0 x3_2).f0))).setCell ⟨gb199, 1, none⟩ (.int .i64 ((rd_T44 l0_0 x3_2).f1))).setCell ⟨gb199, 2, none⟩ (.int .i64 ((rd_T44 l0_0 x3_2).f2))).setCell ⟨gb199, 3, none⟩ (.int .i64 ((rd_T44 l0_0 x3_2).f3))).setCell ⟨gb199, 4, none⟩ (.int .i64 ((rd_T44 l0_0 x3_2).f4))).setCell ⟨gb199, 5, none⟩ (.string ((rd_T44 l0_0 x3_2).f5))).setCell ⟨gb199, 6, none⟩ (.slice A198_6 ((rd_T44 l0_0 x3_2).f6).length c198_6)).heap[gb195]? = some (.cells #[.slice (some ad198) l0_0.length c0_0, .int .i64 a0_1, .int .i64 a0_2, .int .i64 a0_3] 26 (0, 0))) := ⟨by (with_reducible repeat (first | refine blk_drewN ?_ _ | refine blk_drew ?_ | refine blk_alloc ?_ _)); refine blk_far ?_ NB195_199.out _; (with_reducible repeat (first | refine blk_drewN ?_ _ | refine blk_drew ?_ | refine blk_alloc ?_ _)); refine blk_far ?_ NB195_199.out _; (with_reducible repeat (first | refine blk_drewN ?_ _ | refine blk_drew ?_ | refine blk_alloc ?_ _)); refine blk_far ?_ NB195_199.out _; (with_reducible repeat (first | refine blk_drewN ?_ _ | refine blk_drew ?_ | refine blk_alloc ?_ _)); refine blk_far ?_ NB195_199.out _; (with_reducible repeat (first | refine blk_drewN ?_ _ | refine blk_drew ?_ | refine blk_alloc ?_ _)); refine blk_far ?_ NB195_199.out _; (with_reducible repeat (first | refine blk_drewN ?_ _ | refine blk_drew ?_ | refine blk_alloc ?_ _)); refine blk_far ?_ NB195_199.out _; (with_reducible repeat (first | refine blk_drewN ?_ _ | refine blk_drew ?_ | refine blk_alloc ?_ _)); refine blk_far ?_ NB195_199.out _; (with_reducible repeat (first | refine blk_drewN ?_ _ | refine blk_drew ?_ | refine blk_alloc ?_ _)); exact BK195.out⟩
          have n1_ : Aside0 ((((((((w17.setCell ⟨gb199, 0, none⟩ (.int .i64 ((rd_T44 l0_0 x3_2).f0))).setCell ⟨gb199, 1, none⟩ (.int .i64 ((rd_T44 l0_0 x3_2).f1))).setCell ⟨gb199, 2, none⟩ (.int .i64 ((rd_T44 l0_0 x3_2).f2))).setCell ⟨gb199, 3, none⟩ (.int .i64 ((rd_T44 l0_0 x3_2).f3))).setCell ⟨gb199, 4, none⟩ (.int .i64 ((rd_T44 l0_0 x3_2).f4))).setCell ⟨gb199, 5, none⟩ (.string ((rd_T44 l0_0 x3_2).f5))).setCell ⟨gb199, 6, none⟩ (.slice A198_6 ((rd_T44 l0_0 x3_2).f6).length c198_6)).heap[gb199]? = some (.cells #[.int .i64 ((rd_T44 l0_0 x3_2).f0), .int .i64 ((rd_T44 l0_0 x3_2).f1), .int .i64 ((rd_T44 l0_0 x3_2).f2), .int .i64 ((rd_T44 l0_0 x3_2).f3), .int .i64 ((rd_T44 l0_0 x3_2).f4), .string ((rd_T44 l0_0 x3_2).f5), .slice A198_6 ((rd_T44 l0_0 x3_2).f6).length c198_6] 44 (0, 0))) := ⟨by (with_reducible repeat (first | refine blk_drewN ?_ _ | refine blk_drew ?_ | refine blk_alloc ?_ _)); refine blk_put (cs := #[.int .i64 ((rd_T44 l0_0 x3_2).f0), .int .i64 ((rd_T44 l0_0 x3_2).f1), .int .i64 ((rd_T44 l0_0 x3_2).f2), .int .i64 ((rd_T44 l0_0 x3_2).f3), .int .i64 ((rd_T44 l0_0 x3_2).f4), .string ((rd_T44 l0_0 x3_2).f5), .slice none 0 0]) ?_ 6 _ (by first | rfl | (simp only [w64_PTr18]; rfl) | (simp [w64_PTr18]; done)); (with_reducible repeat (first | refine blk_drewN ?_ _ | refine blk_drew ?_ | refine blk_alloc ?_ _)); refine blk_put (cs := #[.int .i64 ((rd_T44 l0_0 x3_2).f0), .int .i64 ((rd_T44 l0_0 x3_2).f1), .int .i64 ((rd_T44 l0_0 x3_2).f2), .int .i64 ((rd_T44 l0_0 x3_2).f3), .int .i64 ((rd_T44 l0_0 x3_2).f4), .string (⟨#[]⟩ : ByteArray), .slice none 0 0]) ?_ 5 _ (by first | rfl | (simp only [w64_PTr18]; rfl) | (simp [w64_PTr18]; done)); (with_reducible repeat (first | refine blk_drewN ?_ _ | refine blk_drew ?_ | refine blk_alloc ?_ _)); refine blk_put (cs := #[.int .i64 ((rd_T44 l0_0 x3_2).f0), .int .i64 ((rd_T44 l0_0 x3_2).f1), .int .i64 ((rd_T44 l0_0 x3_2).f2), .int .i64 ((rd_T44 l0_0 x3_2).f3), .int .i64 0, .string (⟨#[]⟩ : ByteArray), .slice none 0 0]) ?_ 4 _ (by first | rfl | (simp only [w64_PTr18]; rfl) | (simp [w64_PTr18]; done)); (with_reducible repeat (first | refine blk_drewN ?_ _ | refine blk_drew ?_ | refine blk_alloc ?_ _)); refine blk_put (cs := #[.int .i64 ((rd_T44 l0_0 x3_2).f0), .int .i64 ((rd_T44 l0_0 x3_2).f1), .int .i64 ((rd_T44 l0_0 x3_2).f2), .int .i64 0, .int .i64 0, .string (⟨#[]⟩ : ByteArray), .slice none 0 0]) ?_ 3 _ (by first | rfl | (simp only [w64_PTr18]; rfl) | (simp [w64_PTr18]; done)); (with_reducible repeat (first | refine blk_drewN ?_ _ | refine blk_drew ?_ | refine blk_alloc ?_ _)); refine blk_put (cs := #[.int .i64 ((rd_T44 l0_0 x3_2).f0), .int .i64 ((rd_T44 l0_0 x3_2).f1), .int .i64 0, .int .i64 0, .int .i64 0, .string (⟨#[]⟩ : ByteArray), .slice none 0 0]) ?_ 2 _ (by first | rfl | (simp only [w64_PTr18]; rfl) | (simp [w64_PTr18]; done)); (with_reducible repeat (first | refine blk_drewN ?_ _ | refine blk_drew ?_ | refine blk_alloc ?_ _)); refine blk_put (cs := #[.int .i64 ((rd_T44 l0_0 x3_2).f0), .int .i64 0, .int .i64 0, .int .i64 0, .int .i64 0, .string (⟨#[]⟩ : ByteArray), .slice none 0 0]) ?_ 1 _ (by first | rfl | (simp only [w64_PTr18]; rfl) | (simp [w64_PTr18]; done)); (with_reducible repeat (first | refine blk_drewN ?_ _ | refine blk_drew ?_ | refine blk_alloc ?_ _)); refine blk_put (cs := #[.int .i64 0, .int .i64 0, .int .i64 0, .int .i64 0, .int .i64 0, .string (⟨#[]⟩ : ByteArray), .slice none 0 0]) ?_ 0 _ (by first | rfl | (simp only [w64_PTr18]; rfl) | (simp [w64_PTr18]; done)); (with_reducible repeat (first | refine blk_drewN ?_ _ | refine blk_drew ?_ | refine blk_alloc ?_ _)); exact BK199.out⟩
          have n2_ : Aside0 (Below w.heap.size w (((((((w17.setCell ⟨gb199, 0, none⟩ (.int .i64 ((rd_T44 l0_0 x3_2).f0))).setCell ⟨gb199, 1, none⟩ (.int .i64 ((rd_T44 l0_0 x3_2).f1))).setCell ⟨gb199, 2, none⟩ (.int .i64 ((rd_T44 l0_0 x3_2).f2))).setCell ⟨gb199, 3, none⟩ (.int .i64 ((rd_T44 l0_0 x3_2).f3))).setCell ⟨gb199, 4, none⟩ (.int .i64 ((rd_T44 l0_0 x3_2).f4))).setCell ⟨gb199, 5, none⟩ (.string ((rd_T44 l0_0 x3_2).f5))).setCell ⟨gb199, 6, none⟩ (.slice A198_6 ((rd_T44 l0_0 x3_2).f6).length c198_6))) := ⟨by repeat (first | (with_reducible first | exact HB.out | apply below_alloc | apply pw_below_drewN | apply below_drew1 | refine below_set ?_ GE195.out | refine below_set ?_ GE199.out) | exact HB.out)⟩
          (try clear BK195)
          (try clear BK199)
          (try clear HB)
          generalize (((((((w17.setCell ⟨gb199, 0, none⟩ (.int .i64 ((rd_T44 l0_0 x3_2).f0))).setCell ⟨gb199, 1, none⟩ (.int .i64 ((rd_T44 l0_0 x3_2).f1))).setCell ⟨gb199, 2, none⟩ (.int .i64 ((rd_T44 l0_0 x3_2).f2))).setCell ⟨gb199, 3, none⟩ (.int .i64 ((rd_T44 l0_0 x3_2).f3))).setCell ⟨gb199, 4, none⟩ (.int .i64 ((rd_T44 l0_0 x3_2).f4))).setCell ⟨gb199, 5, none⟩ (.string ((rd_T44 l0_0 x3_2).f5))).setCell ⟨gb199, 6, none⟩ (.slice A198_6 ((rd_T44 l0_0 x3_2).f6).length c198_6)) = w36 at n0_ n1_ n2_ ⊢
          have BK195 := n0_
          have BK199 := n1_
          have HB := n2_
          clear n0_ n1_ n2_
          have n0_ := Aside0.mk (blk_drew BK195.out)
          have n1_ := Aside0.mk (blk_drew BK199.out)
          have n2_ := Aside0.mk (below_drew1 HB.out)
          clear BK195
          clear BK199
          clear HB
          have BK195 := n0_
          have BK199 := n1_
          have HB := n2_
          clear n0_ n1_ n2_
          refine start_ (n := 26) (S := fun w' => w'.cell? ⟨gb199, 0, none⟩ = some (.int .i64 ((rd_T44 l0_0 x3_2).f0)) ∧ w'.cell? ⟨gb199, 1, none⟩ = some (.int .i64 ((rd_T44 l0_0 x3_2).f1)) ∧ w'.cell? ⟨gb199, 2, none⟩ = some (.int .i64 ((rd_T44 l0_0 x3_2).f2)) ∧ w'.cell? ⟨gb199, 3, none⟩ = some (.int .i64 ((rd_T44 l0_0 x3_2).f3)) ∧ w'.cell? ⟨gb199, 4, none⟩ = some (.int .i64 ((rd_T44 l0_0 x3_2).f4)) ∧ w'.cell? ⟨gb199, 5, none⟩ = some (.string ((rd_T44 l0_0 x3_2).f5)) ∧ w'.cell? ⟨gb199, 6, none⟩ = some (.slice A198_6 ((rd_T44 l0_0 x3_2).f6).length c198_6)) (ds := []) #[false, false, false, false, false, false, false, false, false, false, false, false, false, false, false, false, false, false, false, false, false, false, false, false, false, false] (by kernel_rfl) rfl rfl ⟨(blk_cell BK199.out 0).trans rfl, (blk_cell BK199.out 1).trans rfl, (blk_cell BK199.out 2).trans rfl, (blk_cell BK199.out 3).trans rfl, (blk_cell BK199.out 4).trans rfl, (blk_cell BK199.out 5).trans rfl, (blk_cell BK199.out 6).trans rfl⟩ (fun hHeld => ?_); refine with_tabW rehearsalref04_Check.tab7 rehearsalref04_Check.bits7 (fun HT_ HW_ => ?_)
          generalize w36.drew = w37 at BK195 BK199 HB hHeld ⊢
          refine take_ (i := 0) (N := some 46) (v := ?_) (a' := ?_) #[true, false, false, false, false, false, false, false, false, false, false, false, false, false, false, false, false, false, false, false, false, false, false, false, false, false] rfl rfl (take_ofW HT_.out HW_.out (by kernel_rfl)) (fun _ _ _ h => h) (Or.inl ⟨by rfl, ?_⟩) hHeld ?_ ?_
          rotate_left
          ·
           rintro w' ⟨s0, s1, s2, s3, s4, s5, s6⟩
           go_simp
           with_reducible rfl
          rotate_left
          ·
           simp only [Act.put, List.setIfInBounds_toArray, List.set_cons_zero, List.set_cons_succ, i64_w, i32_w]
           rfl
          refine one_ (i := 1) (N := some 47) #[true, true, false, false, false, false, false, false, false, false, false, false, false, false, false, false, false, false, false, false, false, false, false, false, false, false] rfl rfl (one_of HT_.out (by kernel_rfl)) (by decide) (fun K hK => ?_)
          refine goes_ Tryd.func60 (by kernel_rfl) rfl #[.agg #[.int .i64 ((rd_T44 l0_0 x3_2).f0), .int .i64 ((rd_T44 l0_0 x3_2).f1), .int .i64 ((rd_T44 l0_0 x3_2).f2), .int .i64 ((rd_T44 l0_0 x3_2).f3), .int .i64 ((rd_T44 l0_0 x3_2).f4), .string ((rd_T44 l0_0 x3_2).f5), .slice A198_6 ((rd_T44 l0_0 x3_2).f6).length c198_6]] (by rfl) rfl rfl (by (try simp only [List.map_toArray, List.map_cons, List.map_nil]); first | done | rfl | (simp only [List.length_drop, List.length_take]; rfl)) ?_
          with_reducible refine (rehearsalref04_plain.calls k2 ((rd_T44 l0_0 x3_2).f0) ((rd_T44 l0_0 x3_2).f1) ((rd_T44 l0_0 x3_2).f2) ((rd_T44 l0_0 x3_2).f3) ((rd_T44 l0_0 x3_2).f4) ((rd_T44 l0_0 x3_2).f5) _ _ ((rd_T44 l0_0 x3_2).f6) false _ ?side1 ?side2 A20.out).mono ?_
          (case side1 => repeat (first | exact (Kd.C_below HR198_6.out HB.out) | (with_reducible refine Kd.C_alloc ?_ _) | (with_reducible refine Kd.C_drewN ?_ _) | (with_reducible refine Kd.C_drew ?_)))
          (case side2 => exact HC198_6.out)
          rintro e w38 ⟨rfl, hb⟩
          refine ⟨_, rfl, ?_⟩
          have n0_ := Aside0.mk (blk_below (g := gb195) (o := .cells #[.slice (some ad198) l0_0.length c0_0, .int .i64 a0_1, .int .i64 a0_2, .int .i64 a0_3] 26 (0, 0)) (by (with_reducible repeat (first | refine blk_drewN ?_ _ | refine blk_drew ?_ | refine blk_alloc ?_ _)); exact BK195.out) hb)
          have n1_ := Aside0.mk (blk_below (g := gb199) (o := .cells #[.int .i64 ((rd_T44 l0_0 x3_2).f0), .int .i64 ((rd_T44 l0_0 x3_2).f1), .int .i64 ((rd_T44 l0_0 x3_2).f2), .int .i64 ((rd_T44 l0_0 x3_2).f3), .int .i64 ((rd_T44 l0_0 x3_2).f4), .string ((rd_T44 l0_0 x3_2).f5), .slice A198_6 ((rd_T44 l0_0 x3_2).f6).length c198_6] 44 (0, 0)) (by (with_reducible repeat (first | refine blk_drewN ?_ _ | refine blk_drew ?_ | refine blk_alloc ?_ _)); exact BK199.out) hb)
          have n2_ := Aside0.mk (below_step (by repeat (first | (with_reducible first | exact HB.out | apply below_alloc | apply pw_below_drewN | apply below_drew1 | refine below_set ?_ GE195.out | refine below_set ?_ GE199.out) | exact HB.out)) hb)
          clear BK195
          clear BK199
          clear HB
          have BK195 := n0_
          have BK199 := n1_
          have HB := n2_
          clear n0_ n1_ n2_
          (try clear hb)
          (try clear hb2)
          (try clear hk)
          (try clear hi)
          refine hK.out _ _ ⟨(blk_cell BK199.out 0).trans rfl, (blk_cell BK199.out 1).trans rfl, (blk_cell BK199.out 2).trans rfl, (blk_cell BK199.out 3).trans rfl, (blk_cell BK199.out 4).trans rfl, (blk_cell BK199.out 5).trans rfl, (blk_cell BK199.out 6).trans rfl⟩ (fun hHeld => ?_)
          clear hK K
          refine norm_ (a' := ?_) ?_ ?_
          rotate_left
          ·
           show Act.put _ (some 47) _ = _
           simp only [Act.put, List.setIfInBounds_toArray, List.set_cons_zero, List.set_cons_succ, i64_w, i32_w]
           rfl
          iterate 5 (first | ((first | refine pureS_ 2 (N := some 48) (v := ?_) (a' := ?_) rfl rfl (by decide +kernel) (fun _ _ _ h => h) (Or.inl ⟨by rfl, ?_⟩) ?_ ?_ | refine pureS_ 3 (N := some 49) (v := ?_) (a' := ?_) rfl rfl (by decide +kernel) (fun _ _ _ h => h) (Or.inl ⟨by rfl, ?_⟩) ?_ ?_); rotate_left; (intro w'; go_simp; first | done | (with_reducible rfl) | rfl); rotate_left; (simp only [Act.put, List.setIfInBounds_toArray, List.set_cons_zero, List.set_cons_succ, i64_w, i32_w]; rfl)) | ((first | refine pureS_ 4 (N := some 50) (v := undef) (a' := ?_) rfl rfl (by decide +kernel) (fun _ _ _ h => h) (Or.inr ⟨by rfl, rfl⟩) ?_ ?_ | refine pureS_ 5 (N := some 51) (v := undef) (a' := ?_) rfl rfl (by decide +kernel) (fun _ _ _ h => h) (Or.inr ⟨by rfl, rfl⟩) ?_ ?_ | refine pureS_ 6 (N := some 52) (v := undef) (a' := ?_) rfl rfl (by decide +kernel) (fun _ _ _ h => h) (Or.inr ⟨by rfl, rfl⟩) ?_ ?_); rotate_left; (simp only [Act.put, List.setIfInBounds_toArray, List.set_cons_zero, List.set_cons_succ, i64_w, i32_w]; rfl)))
          iterate 5 (first | ((first | refine pureS_ 9 (N := some 55) (v := ?_) (a' := ?_) rfl rfl (by decide +kernel) (fun _ _ _ h => h) (Or.inl ⟨by rfl, ?_⟩) ?_ ?_ | refine pureS_ 10 (N := some 56) (v := ?_) (a' := ?_) rfl rfl (by decide +kernel) (fun _ _ _ h => h) (Or.inl ⟨by rfl, ?_⟩) ?_ ?_); rotate_left; (intro w'; go_simp; first | done | (with_reducible rfl) | rfl); rotate_left; (simp only [Act.put, List.setIfInBounds_toArray, List.set_cons_zero, List.set_cons_succ, i64_w, i32_w]; rfl)) | ((first | refine pureS_ 7 (N := some 53) (v := undef) (a' := ?_) rfl rfl (by decide +kernel) (fun _ _ _ h => h) (Or.inr ⟨by rfl, rfl⟩) ?_ ?_ | refine pureS_ 8 (N := some 54) (v := undef) (a' := ?_) rfl rfl (by decide +kernel) (fun _ _ _ h => h) (Or.inr ⟨by rfl, rfl⟩) ?_ ?_ | refine pureS_ 11 (N := some 57) (v := undef) (a' := ?_) rfl rfl (by decide +kernel) (fun _ _ _ h => h) (Or.inr ⟨by rfl, rfl⟩) ?_ ?_); rotate_left; (simp only [Act.put, List.setIfInBounds_toArray, List.set_cons_zero, List.set_cons_succ, i64_w, i32_w]; rfl)))
          iterate 5 (((first | refine pureS_ 12 (N := some 58) (v := undef) (a' := ?_) rfl rfl (by decide +kernel) (fun _ _ _ h => h) (Or.inr ⟨by rfl, rfl⟩) ?_ ?_ | refine pureS_ 13 (N := some 59) (v := undef) (a' := ?_) rfl rfl (by decide +kernel) (fun _ _ _ h => h) (Or.inr ⟨by rfl, rfl⟩) ?_ ?_ | refine pureS_ 14 (N := some 60) (v := undef) (a' := ?_) rfl rfl (by decide +kernel) (fun _ _ _ h => h) (Or.inr ⟨by rfl, rfl⟩) ?_ ?_ | refine pureS_ 15 (N := some 61) (v := undef) (a' := ?_) rfl rfl (by decide +kernel) (fun _ _ _ h => h) (Or.inr ⟨by rfl, rfl⟩) ?_ ?_ | refine pureS_ 16 (N := some 62) (v := undef) (a' := ?_) rfl rfl (by decide +kernel) (fun _ _ _ h => h) (Or.inr ⟨by rfl, rfl⟩) ?_ ?_); rotate_left; (simp only [Act.put, List.setIfInBounds_toArray, List.set_cons_zero, List.set_cons_succ, i64_w, i32_w]; rfl)))
          iterate 5 (((first | refine pureS_ 17 (N := some 63) (v := undef) (a' := ?_) rfl rfl (by decide +kernel) (fun _ _ _ h => h) (Or.inr ⟨by rfl, rfl⟩) ?_ ?_ | refine pureS_ 18 (N := some 64) (v := undef) (a' := ?_) rfl rfl (by decide +kernel) (fun _ _ _ h => h) (Or.inr ⟨by rfl, rfl⟩) ?_ ?_ | refine pureS_ 19 (N := some 65) (v := undef) (a' := ?_) rfl rfl (by decide +kernel) (fun _ _ _ h => h) (Or.inr ⟨by rfl, rfl⟩) ?_ ?_ | refine pureS_ 20 (N := some 66) (v := undef) (a' := ?_) rfl rfl (by decide +kernel) (fun _ _ _ h => h) (Or.inr ⟨by rfl, rfl⟩) ?_ ?_ | refine pureS_ 21 (N := some 67) (v := undef) (a' := ?_) rfl rfl (by decide +kernel) (fun _ _ _ h => h) (Or.inr ⟨by rfl, rfl⟩) ?_ ?_); rotate_left; (simp only [Act.put, List.setIfInBounds_toArray, List.set_cons_zero, List.set_cons_succ, i64_w, i32_w]; rfl)))
          iterate 4 (first | ((first | refine pureS_ 25 (N := some 71) (v := ?_) (a' := ?_) rfl rfl (by decide +kernel) (fun _ _ _ h => h) (Or.inl ⟨by rfl, ?_⟩) ?_ ?_); rotate_left; (intro w'; go_simp; first | done | (with_reducible rfl) | rfl); rotate_left; (simp only [Act.put, List.setIfInBounds_toArray, List.set_cons_zero, List.set_cons_succ, i64_w, i32_w]; rfl)) | ((first | refine pureS_ 22 (N := some 68) (v := undef) (a' := ?_) rfl rfl (by decide +kernel) (fun _ _ _ h => h) (Or.inr ⟨by rfl, rfl⟩) ?_ ?_ | refine pureS_ 23 (N := some 69) (v := undef) (a' := ?_) rfl rfl (by decide +kernel) (fun _ _ _ h => h) (Or.inr ⟨by rfl, rfl⟩) ?_ ?_ | refine pureS_ 24 (N := some 70) (v := undef) (a' := ?_) rfl rfl (by decide +kernel) (fun _ _ _ h => h) (Or.inr ⟨by rfl, rfl⟩) ?_ ?_); rotate_left; (simp only [Act.put, List.setIfInBounds_toArray, List.set_cons_zero, List.set_cons_succ, i64_w, i32_w]; rfl)))
          refine done_ (done_of HT_.out (by kernel_rfl)) ?_
          try go_wp2
          go_meet
          case rel => exact ⟨_, (true), (by first | rfl | (simp; done) | (simp [*]; done)), H', ⟨by have := HJ1.out; have := HK2.out; first | omega | exact Nat.le_refl _⟩, ⟨by (with_reducible repeat (first | refine blk_drewN ?_ _ | refine blk_drew ?_ | refine blk_alloc ?_ _)); exact BK195.out⟩, ⟨by (with_reducible repeat (first | refine blk_drewN ?_ _ | refine blk_drew ?_ | refine blk_alloc ?_ _)); exact BK199.out⟩, ⟨by repeat (first | (with_reducible first | exact HB.out | apply below_alloc | apply pw_below_drewN | apply below_drew1 | refine below_set ?_ GE195.out | refine below_set ?_ GE199.out) | exact HB.out)⟩⟩
        case rest =>
         clear HC15
         try clear c1
         try clear c2
         try clear p2
         try clear c6
         try clear c19
         try clear c21
         try clear c26
         try clear c26b0
         try clear c28
         try clear c29
         obtain ⟨kq, x71_14, rfl, HA, HJ14, BK195, BK199, HB⟩ := hcut
         cases kq with
         | zero => exact absurd HA.out (by simp [rehearsalref04_Check.j2])
         | succ kj14 =>
          have H := HA.out
          clear HA
          simp only [rehearsalref04_Check.j2] at H
          by_cases c39 : x71_14 = true
          ·
           subst c39
           have H1 : (some 80) = some r := by rw [if_pos rfl] at H; exact H
           clear H
           have H := H1
           clear H1
           obtain rfl := Option.some.inj H
           go_wp2
           go_ret
           exact ⟨by first | rfl | (simp [errW_none, errW_some] <;> rfl) | (simp [*, errW_none, errW_some] <;> rfl), by repeat (first | (with_reducible first | exact HB.out | apply below_alloc | apply pw_below_drewN | apply below_drew1 | refine below_set ?_ GE195.out | refine below_set ?_ GE199.out) | exact HB.out)⟩
          ·
           replace c39 := Bool.eq_false_iff.mpr c39
           subst c39
           have H1 : (rehearsalref04_Check.l1 kj14 x3_2 0 l0_0 a0_1 a0_2 a0_3 ((rd_T44 l0_0 x3_2).f0) ((rd_T44 l0_0 x3_2).f1) ((rd_T44 l0_0 x3_2).f2) ((rd_T44 l0_0 x3_2).f3) ((rd_T44 l0_0 x3_2).f4) ((rd_T44 l0_0 x3_2).f5) ((rd_T44 l0_0 x3_2).f6)) = some r := by rw [if_neg (show ¬ (false = true) by decide)] at H; exact H
           clear H
           have H := H1
           clear H1
           have H' := Aside0.mk H
           clear H
           go_wp2
           go_loopg [5] kj14 (fun kq v5 w' => ∃ (x5_4 : Int), v5 = .int .i64 x5_4 ∧ Aside0 (rehearsalref04_Check.l1 kq x3_2 x5_4 l0_0 a0_1 a0_2 a0_3 ((rd_T44 l0_0 x3_2).f0) ((rd_T44 l0_0 x3_2).f1) ((rd_T44 l0_0 x3_2).f2) ((rd_T44 l0_0 x3_2).f3) ((rd_T44 l0_0 x3_2).f4) ((rd_T44 l0_0 x3_2).f5) ((rd_T44 l0_0 x3_2).f6) = some r) ∧ Aside0 (kq ≤ kj14) ∧ Aside0 (w'.heap[gb195]? = some (.cells #[(.slice (some ad198) l0_0.length c0_0), .int .i64 a0_1, .int .i64 a0_2, .int .i64 a0_3] 26 (0, 0))) ∧ Aside0 (w'.heap[gb199]? = some (.cells #[.int .i64 ((rd_T44 l0_0 x3_2).f0), .int .i64 ((rd_T44 l0_0 x3_2).f1), .int .i64 ((rd_T44 l0_0 x3_2).f2), .int .i64 ((rd_T44 l0_0 x3_2).f3), .int .i64 ((rd_T44 l0_0 x3_2).f4), .string ((rd_T44 l0_0 x3_2).f5), (.slice A198_6 ((rd_T44 l0_0 x3_2).f6).length c198_6)] 44 (0, 0))) ∧ Aside0 (Below w.heap.size w w'))
           case atStart => exact ⟨(0), (by first | rfl | (simp; done) | (simp [*]; done)), H', ⟨Nat.le_refl _⟩, ⟨by (with_reducible repeat (first | refine blk_drewN ?_ _ | refine blk_drew ?_ | refine blk_alloc ?_ _)); exact BK195.out⟩, ⟨by (with_reducible repeat (first | refine blk_drewN ?_ _ | refine blk_drew ?_ | refine blk_alloc ?_ _)); exact BK199.out⟩, ⟨by repeat (first | (with_reducible first | exact HB.out | apply below_alloc | apply pw_below_drewN | apply below_drew1 | refine below_set ?_ GE195.out | refine below_set ?_ GE199.out) | exact HB.out)⟩⟩
           case round =>
            clear H'
            try clear c1
            try clear c2
            try clear p2
            try clear c3
            try clear c6
            try clear c19
            try clear c21
            try clear c26
            try clear c26b0
            try clear c28
            try clear c29
            try clear c39
            try clear p2
            obtain ⟨x5_4, rfl, HA, HK4, BK195, BK199, HB⟩ := hrel
            cases gk with
            | zero => exact absurd HA.out (by simp [rehearsalref04_Check.l1])
            | succ k4 =>
             have H := HA.out
             clear HA
             simp only [rehearsalref04_Check.l1] at H
             by_cases c40 : x5_4 < (((rd_T44 l0_0 x3_2).f6).length : Int)
             ·
              as_aux_lemma =>
              rw [if_pos c40] at H
              have c40b0 : decide (x5_4 < (((rd_T44 l0_0 x3_2).f6).length : Int)) = true := decide_eq_true c40
              clear c40
              by_cases c41 : 0 ≤ x5_4
              ·
               as_aux_lemma =>
               rw [if_pos c41] at H
               have c41b0 : decide (0 ≤ x5_4) = true := decide_eq_true c41
               clear c41
               replace H := Option.bind_eq_some_iff.mp H
               obtain ⟨t203, A420, H⟩ := H
               replace H : (if t203 < 0 then (some 80) else (rehearsalref04_Check.l1 k4 x3_2 (wrap64 (x5_4 + 1)) l0_0 a0_1 a0_2 a0_3 ((rd_T44 l0_0 x3_2).f0) ((rd_T44 l0_0 x3_2).f1) ((rd_T44 l0_0 x3_2).f2) ((rd_T44 l0_0 x3_2).f3) ((rd_T44 l0_0 x3_2).f4) ((rd_T44 l0_0 x3_2).f5) ((rd_T44 l0_0 x3_2).f6))) = some r := H
               have A42 := Aside0.mk A420
               clear A420
               by_cases c43 : t203 < 0
               ·
                as_aux_lemma =>
                rw [if_pos c43] at H
                have c43b0 : decide (t203 < 0) = true := decide_eq_true c43
                clear c43
                obtain rfl := Option.some.inj H
                have hnb44 := NB199_195.out
                have hnc44 := NB195_199.out
                have hcz45_0 : wr.cell? ⟨gb199, 0, none⟩ = some (.int .i64 ((rd_T44 l0_0 x3_2).f0)) := (blk_cell BK199.out 0).trans rfl
                have hcz45_1 : wr.cell? ⟨gb199, 1, none⟩ = some (.int .i64 ((rd_T44 l0_0 x3_2).f1)) := (blk_cell BK199.out 1).trans rfl
                have hcz45_2 : wr.cell? ⟨gb199, 2, none⟩ = some (.int .i64 ((rd_T44 l0_0 x3_2).f2)) := (blk_cell BK199.out 2).trans rfl
                have hcz45_3 : wr.cell? ⟨gb199, 3, none⟩ = some (.int .i64 ((rd_T44 l0_0 x3_2).f3)) := (blk_cell BK199.out 3).trans rfl
                have hcz45_4 : wr.cell? ⟨gb199, 4, none⟩ = some (.int .i64 ((rd_T44 l0_0 x3_2).f4)) := (blk_cell BK199.out 4).trans rfl
                have hcz45_5 : wr.cell? ⟨gb199, 5, none⟩ = some (.string ((rd_T44 l0_0 x3_2).f5)) := (blk_cell BK199.out 5).trans rfl
                have hcz45_6 : wr.cell? ⟨gb199, 6, none⟩ = some (.slice A198_6 ((rd_T44 l0_0 x3_2).f6).length c198_6) := (blk_cell BK199.out 6).trans rfl
                have hfz45_0 := blk_frozen BK199.out 0
                have hfz45_1 := blk_frozen BK199.out 1
                have hfz45_2 := blk_frozen BK199.out 2
                have hfz45_3 := blk_frozen BK199.out 3
                have hfz45_4 := blk_frozen BK199.out 4
                have hfz45_5 := blk_frozen BK199.out 5
                have hfz45_6 := blk_frozen BK199.out 6
                try go_wp2
                have n0_ := Aside0.mk (blk_drew BK195.out)
                have n1_ := Aside0.mk (blk_drew BK199.out)
                have n2_ := Aside0.mk (below_drew1 HB.out)
                clear BK195
                clear BK199
                clear HB
                have BK195 := n0_
                have BK199 := n1_
                have HB := n2_
                clear n0_ n1_ n2_
                have p202 : 0 ≤ (x5_4 : Int) := of_decide_eq_true (by first | (with_reducible assumption) | assumption)
                have q202 : x5_4 < (((rd_T44 l0_0 x3_2).f6).length : Int) := of_decide_eq_true (by first | (with_reducible assumption) | assumption)
                obtain ⟨ad202, e202, hx202_0, hx202_1⟩ := at_T61 HR198_6.out x5_4 p202 q202
                have hw202_1 := hx202_1
                have hw202_0 := hx202_0
                cases e202
                replace hx202_0 := (HB.out.cell (World.block_lt_of_cell? w _ hx202_0)).trans hx202_0
                replace hx202_1 := (HB.out.cell (World.block_lt_of_cell? w _ hx202_1)).trans hx202_1
                replace p202 := eq_true p202
                replace q202 := eq_true q202
                refine start_ (n := 9) (S := fun w' => w'.cell? ⟨gb195, 0, none⟩ = some (.slice (some ad198) l0_0.length c0_0) ∧ w'.cell? ⟨gb195, 1, none⟩ = some (.int .i64 a0_1) ∧ w'.cell? ⟨gb195, 2, none⟩ = some (.int .i64 a0_2) ∧ w'.cell? ⟨gb195, 3, none⟩ = some (.int .i64 a0_3) ∧ w'.cell? ⟨gb199, 0, none⟩ = some (.int .i64 ((rd_T44 l0_0 x3_2).f0)) ∧ w'.cell? ⟨gb199, 1, none⟩ = some (.int .i64 ((rd_T44 l0_0 x3_2).f1)) ∧ w'.cell? ⟨gb199, 2, none⟩ = some (.int .i64 ((rd_T44 l0_0 x3_2).f2)) ∧ w'.cell? ⟨gb199, 3, none⟩ = some (.int .i64 ((rd_T44 l0_0 x3_2).f3)) ∧ w'.cell? ⟨gb199, 4, none⟩ = some (.int .i64 ((rd_T44 l0_0 x3_2).f4)) ∧ w'.cell? ⟨gb199, 5, none⟩ = some (.string ((rd_T44 l0_0 x3_2).f5)) ∧ w'.cell? ⟨gb199, 6, none⟩ = some (.slice (some ad202) ((rd_T44 l0_0 x3_2).f6).length c198_6) ∧ w'.cell? (ad202.add ((x5_4).toNat * 2)) = some (.string ((rd_T61 ((rd_T44 l0_0 x3_2).f6) x5_4).f0)) ∧ w'.cell? ⟨(ad202.add ((x5_4).toNat * 2)).block, (ad202.add ((x5_4).toNat * 2)).off + 1, none⟩ = some (.int .i64 ((rd_T61 ((rd_T44 l0_0 x3_2).f6) x5_4).f1))) (ds := []) #[false, false, false, false, false, false, false, false, false] (by kernel_rfl) rfl rfl ⟨(blk_cell BK195.out 0).trans rfl, (blk_cell BK195.out 1).trans rfl, (blk_cell BK195.out 2).trans rfl, (blk_cell BK195.out 3).trans rfl, (blk_cell BK199.out 0).trans rfl, (blk_cell BK199.out 1).trans rfl, (blk_cell BK199.out 2).trans rfl, (blk_cell BK199.out 3).trans rfl, (blk_cell BK199.out 4).trans rfl, (blk_cell BK199.out 5).trans rfl, (blk_cell BK199.out 6).trans rfl, ((HB.out.cell (World.block_lt_of_cell? w _ hw202_0)).trans hw202_0), ((HB.out.cell (World.block_lt_of_cell? w _ hw202_1)).trans hw202_1)⟩ (fun hHeld => ?_); refine with_tabW rehearsalref04_Check.tab12 rehearsalref04_Check.bits12 (fun HT_ HW_ => ?_)
                generalize wr.drew = w46 at BK195 BK199 HB hx202_0 hx202_1 hHeld ⊢
                iterate 5 (((first | refine takeS_ 1 (N := some 80) (v := ?_) (a' := ?_) rfl rfl (by decide +kernel) (fun _ _ _ h => h) (Or.inl ⟨by rfl, ?_⟩) hHeld ?_ ?_ | refine takeS_ 3 (N := some 82) (v := ?_) (a' := ?_) rfl rfl (by decide +kernel) (fun _ _ _ h => h) (Or.inl ⟨by rfl, ?_⟩) hHeld ?_ ?_ | refine takeS_ 0 (N := some 79) (v := ?_) (a' := ?_) rfl rfl (by decide +kernel) (fun _ _ _ h => h) (Or.inl ⟨by rfl, ?_⟩) hHeld ?_ ?_ | refine takeS_ 2 (N := some 81) (v := ?_) (a' := ?_) rfl rfl (by decide +kernel) (fun _ _ _ h => h) (Or.inl ⟨by rfl, ?_⟩) hHeld ?_ ?_ | refine takeS_ 4 (N := some 83) (v := ?_) (a' := ?_) rfl rfl (by decide +kernel) (fun _ _ _ h => h) (Or.inl ⟨by rfl, ?_⟩) hHeld ?_ ?_); rotate_left; (rintro w' ⟨s0, s1, s2, s3, s4, s5, s6, s7, s8, s9, s10, s11, s12⟩; go_simp; first | done | (with_reducible rfl) | rfl); rotate_left; (simp only [Act.put, List.setIfInBounds_toArray, List.set_cons_zero, List.set_cons_succ, i64_w, i32_w]; rfl)))
                iterate 2 (((first | refine takeS_ 5 (N := some 84) (v := ?_) (a' := ?_) rfl rfl (by decide +kernel) (fun _ _ _ h => h) (Or.inl ⟨by rfl, ?_⟩) hHeld ?_ ?_ | refine takeS_ 6 (N := some 85) (v := ?_) (a' := ?_) rfl rfl (by decide +kernel) (fun _ _ _ h => h) (Or.inl ⟨by rfl, ?_⟩) hHeld ?_ ?_); rotate_left; (rintro w' ⟨s0, s1, s2, s3, s4, s5, s6, s7, s8, s9, s10, s11, s12⟩; go_simp; first | done | (with_reducible rfl) | rfl); rotate_left; (simp only [Act.put, List.setIfInBounds_toArray, List.set_cons_zero, List.set_cons_succ, i64_w, i32_w]; rfl)))
                refine one_ (i := 7) (N := some 86) #[true, true, true, true, true, true, true, true, false] rfl rfl (one_of HT_.out (by kernel_rfl)) (by decide) (fun K hK => ?_)
                refine goes_ Tryd.func61 (by kernel_rfl) rfl #[.agg #[.slice (some ad198) l0_0.length c0_0, .int .i64 a0_1, .int .i64 a0_2, .int .i64 a0_3], .int .i64 ((rd_T61 ((rd_T44 l0_0 x3_2).f6) x5_4).f1)] (by rfl) rfl rfl (by (try simp only [List.map_toArray, List.map_cons, List.map_nil]); first | done | rfl | (simp only [List.length_drop, List.length_take]; rfl)) ?_
                with_reducible refine (rehearsalref04_Place.calls k4 _ _ l0_0 a0_1 a0_2 a0_3 ((rd_T61 ((rd_T44 l0_0 x3_2).f6) x5_4).f1) t203 _ ?side1 ?side2 A42.out).mono ?_
                (case side1 => repeat (first | exact (Kd.C_below HR0_0.out HB.out) | (with_reducible refine Kd.C_alloc ?_ _) | (with_reducible refine Kd.C_drewN ?_ _) | (with_reducible refine Kd.C_drew ?_)))
                (case side2 => exact HC0_0.out)
                rintro e w47 ⟨rfl, hb⟩
                refine ⟨_, rfl, ?_⟩
                have n0_ := Aside0.mk (blk_below (g := gb195) (o := .cells #[.slice (some ad198) l0_0.length c0_0, .int .i64 a0_1, .int .i64 a0_2, .int .i64 a0_3] 26 (0, 0)) (by (with_reducible repeat (first | refine blk_drewN ?_ _ | refine blk_drew ?_ | refine blk_alloc ?_ _)); exact BK195.out) hb)
                have n1_ := Aside0.mk (blk_below (g := gb199) (o := .cells #[.int .i64 ((rd_T44 l0_0 x3_2).f0), .int .i64 ((rd_T44 l0_0 x3_2).f1), .int .i64 ((rd_T44 l0_0 x3_2).f2), .int .i64 ((rd_T44 l0_0 x3_2).f3), .int .i64 ((rd_T44 l0_0 x3_2).f4), .string ((rd_T44 l0_0 x3_2).f5), .slice (some ad202) ((rd_T44 l0_0 x3_2).f6).length c198_6] 44 (0, 0)) (by (with_reducible repeat (first | refine blk_drewN ?_ _ | refine blk_drew ?_ | refine blk_alloc ?_ _)); exact BK199.out) hb)
                have n2_ := Aside0.mk (below_step (by repeat (first | (with_reducible first | exact HB.out | apply below_alloc | apply pw_below_drewN | apply below_drew1 | refine below_set ?_ GE195.out | refine below_set ?_ GE199.out) | exact HB.out)) hb)
                clear BK195
                clear BK199
                clear HB
                have BK195 := n0_
                have BK199 := n1_
                have HB := n2_
                clear n0_ n1_ n2_
                (try clear hb)
                (try clear hb2)
                (try clear hk)
                (try clear hi)
                refine hK.out _ _ ⟨(blk_cell BK195.out 0).trans rfl, (blk_cell BK195.out 1).trans rfl, (blk_cell BK195.out 2).trans rfl, (blk_cell BK195.out 3).trans rfl, (blk_cell BK199.out 0).trans rfl, (blk_cell BK199.out 1).trans rfl, (blk_cell BK199.out 2).trans rfl, (blk_cell BK199.out 3).trans rfl, (blk_cell BK199.out 4).trans rfl, (blk_cell BK199.out 5).trans rfl, (blk_cell BK199.out 6).trans rfl, ((HB.out.cell (World.block_lt_of_cell? w _ hw202_0)).trans hw202_0), ((HB.out.cell (World.block_lt_of_cell? w _ hw202_1)).trans hw202_1)⟩ (fun hHeld => ?_)
                clear hK K
                refine norm_ (a' := ?_) ?_ ?_
                rotate_left
                ·
                 show Act.put _ (some 86) _ = _
                 simp only [Act.put, List.setIfInBounds_toArray, List.set_cons_zero, List.set_cons_succ, i64_w, i32_w]
                 rfl
                refine pure_ (i := 8) (N := some 87) (v := ?_) (a' := ?_) #[true, true, true, true, true, true, true, true, true] rfl rfl (any_of HT_.out (by kernel_rfl)) (fun _ _ _ h => h) (Or.inl ⟨by rfl, ?_⟩) ?_ ?_
                rotate_left
                ·
                 intro w'
                 go_simp
                 with_reducible rfl
                rotate_left
                ·
                 simp only [Act.put, List.setIfInBounds_toArray, List.set_cons_zero, List.set_cons_succ, i64_w, i32_w]
                 rfl
                refine done_ (done_of HT_.out (by kernel_rfl)) ?_
                try go_wp2
                go_ret
                exact ⟨by first | rfl | (simp [errW_none, errW_some] <;> rfl) | (simp [*, errW_none, errW_some] <;> rfl), by repeat (first | (with_reducible first | exact HB.out | apply below_alloc | apply pw_below_drewN | apply below_drew1 | refine below_set ?_ GE195.out | refine below_set ?_ GE199.out) | exact HB.out)⟩
               ·
                as_aux_lemma =>
                rw [if_neg c43] at H
                have c43b0 : decide (t203 < 0) = false := decide_eq_false c43
                clear c43
                have H' := Aside0.mk H
                clear H
                have hnb48 := NB199_195.out
                have hnc48 := NB195_199.out
                have hcz49_0 : wr.cell? ⟨gb199, 0, none⟩ = some (.int .i64 ((rd_T44 l0_0 x3_2).f0)) := (blk_cell BK199.out 0).trans rfl
                have hcz49_1 : wr.cell? ⟨gb199, 1, none⟩ = some (.int .i64 ((rd_T44 l0_0 x3_2).f1)) := (blk_cell BK199.out 1).trans rfl
                have hcz49_2 : wr.cell? ⟨gb199, 2, none⟩ = some (.int .i64 ((rd_T44 l0_0 x3_2).f2)) := (blk_cell BK199.out 2).trans rfl
                have hcz49_3 : wr.cell? ⟨gb199, 3, none⟩ = some (.int .i64 ((rd_T44 l0_0 x3_2).f3)) := (blk_cell BK199.out 3).trans rfl
                have hcz49_4 : wr.cell? ⟨gb199, 4, none⟩ = some (.int .i64 ((rd_T44 l0_0 x3_2).f4)) := (blk_cell BK199.out 4).trans rfl
                have hcz49_5 : wr.cell? ⟨gb199, 5, none⟩ = some (.string ((rd_T44 l0_0 x3_2).f5)) := (blk_cell BK199.out 5).trans rfl
                have hcz49_6 : wr.cell? ⟨gb199, 6, none⟩ = some (.slice A198_6 ((rd_T44 l0_0 x3_2).f6).length c198_6) := (blk_cell BK199.out 6).trans rfl
                have hfz49_0 := blk_frozen BK199.out 0
                have hfz49_1 := blk_frozen BK199.out 1
                have hfz49_2 := blk_frozen BK199.out 2
                have hfz49_3 := blk_frozen BK199.out 3
                have hfz49_4 := blk_frozen BK199.out 4
                have hfz49_5 := blk_frozen BK199.out 5
                have hfz49_6 := blk_frozen BK199.out 6
                try go_wp2
                have n0_ := Aside0.mk (blk_drew BK195.out)
                have n1_ := Aside0.mk (blk_drew BK199.out)
                have n2_ := Aside0.mk (below_drew1 HB.out)
                clear BK195
                clear BK199
                clear HB
                have BK195 := n0_
                have BK199 := n1_
                have HB := n2_
                clear n0_ n1_ n2_
                have p202 : 0 ≤ (x5_4 : Int) := of_decide_eq_true (by first | (with_reducible assumption) | assumption)
                have q202 : x5_4 < (((rd_T44 l0_0 x3_2).f6).length : Int) := of_decide_eq_true (by first | (with_reducible assumption) | assumption)
                obtain ⟨ad202, e202, hx202_0, hx202_1⟩ := at_T61 HR198_6.out x5_4 p202 q202
                have hw202_1 := hx202_1
                have hw202_0 := hx202_0
                cases e202
                replace hx202_0 := (HB.out.cell (World.block_lt_of_cell? w _ hx202_0)).trans hx202_0
                replace hx202_1 := (HB.out.cell (World.block_lt_of_cell? w _ hx202_1)).trans hx202_1
                replace p202 := eq_true p202
                replace q202 := eq_true q202
                refine start_ (n := 9) (S := fun w' => w'.cell? ⟨gb195, 0, none⟩ = some (.slice (some ad198) l0_0.length c0_0) ∧ w'.cell? ⟨gb195, 1, none⟩ = some (.int .i64 a0_1) ∧ w'.cell? ⟨gb195, 2, none⟩ = some (.int .i64 a0_2) ∧ w'.cell? ⟨gb195, 3, none⟩ = some (.int .i64 a0_3) ∧ w'.cell? ⟨gb199, 0, none⟩ = some (.int .i64 ((rd_T44 l0_0 x3_2).f0)) ∧ w'.cell? ⟨gb199, 1, none⟩ = some (.int .i64 ((rd_T44 l0_0 x3_2).f1)) ∧ w'.cell? ⟨gb199, 2, none⟩ = some (.int .i64 ((rd_T44 l0_0 x3_2).f2)) ∧ w'.cell? ⟨gb199, 3, none⟩ = some (.int .i64 ((rd_T44 l0_0 x3_2).f3)) ∧ w'.cell? ⟨gb199, 4, none⟩ = some (.int .i64 ((rd_T44 l0_0 x3_2).f4)) ∧ w'.cell? ⟨gb199, 5, none⟩ = some (.string ((rd_T44 l0_0 x3_2).f5)) ∧ w'.cell? ⟨gb199, 6, none⟩ = some (.slice (some ad202) ((rd_T44 l0_0 x3_2).f6).length c198_6) ∧ w'.cell? (ad202.add ((x5_4).toNat * 2)) = some (.string ((rd_T61 ((rd_T44 l0_0 x3_2).f6) x5_4).f0)) ∧ w'.cell? ⟨(ad202.add ((x5_4).toNat * 2)).block, (ad202.add ((x5_4).toNat * 2)).off + 1, none⟩ = some (.int .i64 ((rd_T61 ((rd_T44 l0_0 x3_2).f6) x5_4).f1))) (ds := []) #[false, false, false, false, false, false, false, false, false] (by kernel_rfl) rfl rfl ⟨(blk_cell BK195.out 0).trans rfl, (blk_cell BK195.out 1).trans rfl, (blk_cell BK195.out 2).trans rfl, (blk_cell BK195.out 3).trans rfl, (blk_cell BK199.out 0).trans rfl, (blk_cell BK199.out 1).trans rfl, (blk_cell BK199.out 2).trans rfl, (blk_cell BK199.out 3).trans rfl, (blk_cell BK199.out 4).trans rfl, (blk_cell BK199.out 5).trans rfl, (blk_cell BK199.out 6).trans rfl, ((HB.out.cell (World.block_lt_of_cell? w _ hw202_0)).trans hw202_0), ((HB.out.cell (World.block_lt_of_cell? w _ hw202_1)).trans hw202_1)⟩ (fun hHeld => ?_); refine with_tabW rehearsalref04_Check.tab12 rehearsalref04_Check.bits12 (fun HT_ HW_ => ?_)
                generalize wr.drew = w50 at BK195 BK199 HB hx202_0 hx202_1 hHeld ⊢
                iterate 5 (((first | refine takeS_ 1 (N := some 80) (v := ?_) (a' := ?_) rfl rfl (by decide +kernel) (fun _ _ _ h => h) (Or.inl ⟨by rfl, ?_⟩) hHeld ?_ ?_ | refine takeS_ 3 (N := some 82) (v := ?_) (a' := ?_) rfl rfl (by decide +kernel) (fun _ _ _ h => h) (Or.inl ⟨by rfl, ?_⟩) hHeld ?_ ?_ | refine takeS_ 0 (N := some 79) (v := ?_) (a' := ?_) rfl rfl (by decide +kernel) (fun _ _ _ h => h) (Or.inl ⟨by rfl, ?_⟩) hHeld ?_ ?_ | refine takeS_ 2 (N := some 81) (v := ?_) (a' := ?_) rfl rfl (by decide +kernel) (fun _ _ _ h => h) (Or.inl ⟨by rfl, ?_⟩) hHeld ?_ ?_ | refine takeS_ 4 (N := some 83) (v := ?_) (a' := ?_) rfl rfl (by decide +kernel) (fun _ _ _ h => h) (Or.inl ⟨by rfl, ?_⟩) hHeld ?_ ?_); rotate_left; (rintro w' ⟨s0, s1, s2, s3, s4, s5, s6, s7, s8, s9, s10, s11, s12⟩; go_simp; first | done | (with_reducible rfl) | rfl); rotate_left; (simp only [Act.put, List.setIfInBounds_toArray, List.set_cons_zero, List.set_cons_succ, i64_w, i32_w]; rfl)))
                iterate 2 (((first | refine takeS_ 5 (N := some 84) (v := ?_) (a' := ?_) rfl rfl (by decide +kernel) (fun _ _ _ h => h) (Or.inl ⟨by rfl, ?_⟩) hHeld ?_ ?_ | refine takeS_ 6 (N := some 85) (v := ?_) (a' := ?_) rfl rfl (by decide +kernel) (fun _ _ _ h => h) (Or.inl ⟨by rfl, ?_⟩) hHeld ?_ ?_); rotate_left; (rintro w' ⟨s0, s1, s2, s3, s4, s5, s6, s7, s8, s9, s10, s11, s12⟩; go_simp; first | done | (with_reducible rfl) | rfl); rotate_left; (simp only [Act.put, List.setIfInBounds_toArray, List.set_cons_zero, List.set_cons_succ, i64_w, i32_w]; rfl)))
                refine one_ (i := 7) (N := some 86) #[true, true, true, true, true, true, true, true, false] rfl rfl (one_of HT_.out (by kernel_rfl)) (by decide) (fun K hK => ?_)
                refine goes_ Tryd.func61 (by kernel_rfl) rfl #[.agg #[.slice (some ad198) l0_0.length c0_0, .int .i64 a0_1, .int .i64 a0_2, .int .i64 a0_3], .int .i64 ((rd_T61 ((rd_T44 l0_0 x3_2).f6) x5_4).f1)] (by rfl) rfl rfl (by (try simp only [List.map_toArray, List.map_cons, List.map_nil]); first | done | rfl | (simp only [List.length_drop, List.length_take]; rfl)) ?_
                with_reducible refine (rehearsalref04_Place.calls k4 _ _ l0_0 a0_1 a0_2 a0_3 ((rd_T61 ((rd_T44 l0_0 x3_2).f6) x5_4).f1) t203 _ ?side1 ?side2 A42.out).mono ?_
                (case side1 => repeat (first | exact (Kd.C_below HR0_0.out HB.out) | (with_reducible refine Kd.C_alloc ?_ _) | (with_reducible refine Kd.C_drewN ?_ _) | (with_reducible refine Kd.C_drew ?_)))
                (case side2 => exact HC0_0.out)
                rintro e w51 ⟨rfl, hb⟩
                refine ⟨_, rfl, ?_⟩
                have n0_ := Aside0.mk (blk_below (g := gb195) (o := .cells #[.slice (some ad198) l0_0.length c0_0, .int .i64 a0_1, .int .i64 a0_2, .int .i64 a0_3] 26 (0, 0)) (by (with_reducible repeat (first | refine blk_drewN ?_ _ | refine blk_drew ?_ | refine blk_alloc ?_ _)); exact BK195.out) hb)
                have n1_ := Aside0.mk (blk_below (g := gb199) (o := .cells #[.int .i64 ((rd_T44 l0_0 x3_2).f0), .int .i64 ((rd_T44 l0_0 x3_2).f1), .int .i64 ((rd_T44 l0_0 x3_2).f2), .int .i64 ((rd_T44 l0_0 x3_2).f3), .int .i64 ((rd_T44 l0_0 x3_2).f4), .string ((rd_T44 l0_0 x3_2).f5), .slice (some ad202) ((rd_T44 l0_0 x3_2).f6).length c198_6] 44 (0, 0)) (by (with_reducible repeat (first | refine blk_drewN ?_ _ | refine blk_drew ?_ | refine blk_alloc ?_ _)); exact BK199.out) hb)
                have n2_ := Aside0.mk (below_step (by repeat (first | (with_reducible first | exact HB.out | apply below_alloc | apply pw_below_drewN | apply below_drew1 | refine below_set ?_ GE195.out | refine below_set ?_ GE199.out) | exact HB.out)) hb)
                clear BK195
                clear BK199
                clear HB
                have BK195 := n0_
                have BK199 := n1_
                have HB := n2_
                clear n0_ n1_ n2_
                (try clear hb)
                (try clear hb2)
                (try clear hk)
                (try clear hi)
                refine hK.out _ _ ⟨(blk_cell BK195.out 0).trans rfl, (blk_cell BK195.out 1).trans rfl, (blk_cell BK195.out 2).trans rfl, (blk_cell BK195.out 3).trans rfl, (blk_cell BK199.out 0).trans rfl, (blk_cell BK199.out 1).trans rfl, (blk_cell BK199.out 2).trans rfl, (blk_cell BK199.out 3).trans rfl, (blk_cell BK199.out 4).trans rfl, (blk_cell BK199.out 5).trans rfl, (blk_cell BK199.out 6).trans rfl, ((HB.out.cell (World.block_lt_of_cell? w _ hw202_0)).trans hw202_0), ((HB.out.cell (World.block_lt_of_cell? w _ hw202_1)).trans hw202_1)⟩ (fun hHeld => ?_)
                clear hK K
                refine norm_ (a' := ?_) ?_ ?_
                rotate_left
                ·
                 show Act.put _ (some 86) _ = _
                 simp only [Act.put, List.setIfInBounds_toArray, List.set_cons_zero, List.set_cons_succ, i64_w, i32_w]
                 rfl
                refine pure_ (i := 8) (N := some 87) (v := ?_) (a' := ?_) #[true, true, true, true, true, true, true, true, true] rfl rfl (any_of HT_.out (by kernel_rfl)) (fun _ _ _ h => h) (Or.inl ⟨by rfl, ?_⟩) ?_ ?_
                rotate_left
                ·
                 intro w'
                 go_simp
                 with_reducible rfl
                rotate_left
                ·
                 simp only [Act.put, List.setIfInBounds_toArray, List.set_cons_zero, List.set_cons_succ, i64_w, i32_w]
                 rfl
                refine done_ (done_of HT_.out (by kernel_rfl)) ?_
                try go_wp2
                go_roundg k4
                case measure => have := HJ1.out; have := HK2.out; have := HJ14.out; have := HK4.out; omega
                case rel => exact ⟨(wrap64 (x5_4 + 1)), (by first | rfl | (simp; done) | (simp [*]; done)), H', ⟨by have := HJ1.out; have := HK2.out; have := HJ14.out; have := HK4.out; omega⟩, ⟨by (with_reducible repeat (first | refine blk_drewN ?_ _ | refine blk_drew ?_ | refine blk_alloc ?_ _)); exact BK195.out⟩, ⟨by (with_reducible repeat (first | refine blk_drewN ?_ _ | refine blk_drew ?_ | refine blk_alloc ?_ _)); exact BK199.out⟩, ⟨by repeat (first | (with_reducible first | exact HB.out | apply below_alloc | apply pw_below_drewN | apply below_drew1 | refine below_set ?_ GE195.out | refine below_set ?_ GE199.out) | exact HB.out)⟩⟩
              ·
               as_aux_lemma =>
               rw [if_neg c41] at H
               exact absurd H (by simp)
             ·
              as_aux_lemma =>
              rw [if_neg c40] at H
              have c40b0 : decide (x5_4 < (((rd_T44 l0_0 x3_2).f6).length : Int)) = false := decide_eq_false c40
              clear c40
              have H' := Aside0.mk H
              clear H
              have hnb52 := NB199_195.out
              have hnc52 := NB195_199.out
              have hcz53_0 : wr.cell? ⟨gb199, 0, none⟩ = some (.int .i64 ((rd_T44 l0_0 x3_2).f0)) := (blk_cell BK199.out 0).trans rfl
              have hcz53_1 : wr.cell? ⟨gb199, 1, none⟩ = some (.int .i64 ((rd_T44 l0_0 x3_2).f1)) := (blk_cell BK199.out 1).trans rfl
              have hcz53_2 : wr.cell? ⟨gb199, 2, none⟩ = some (.int .i64 ((rd_T44 l0_0 x3_2).f2)) := (blk_cell BK199.out 2).trans rfl
              have hcz53_3 : wr.cell? ⟨gb199, 3, none⟩ = some (.int .i64 ((rd_T44 l0_0 x3_2).f3)) := (blk_cell BK199.out 3).trans rfl
              have hcz53_4 : wr.cell? ⟨gb199, 4, none⟩ = some (.int .i64 ((rd_T44 l0_0 x3_2).f4)) := (blk_cell BK199.out 4).trans rfl
              have hcz53_5 : wr.cell? ⟨gb199, 5, none⟩ = some (.string ((rd_T44 l0_0 x3_2).f5)) := (blk_cell BK199.out 5).trans rfl
              have hcz53_6 : wr.cell? ⟨gb199, 6, none⟩ = some (.slice A198_6 ((rd_T44 l0_0 x3_2).f6).length c198_6) := (blk_cell BK199.out 6).trans rfl
              have hfz53_0 := blk_frozen BK199.out 0
              have hfz53_1 := blk_frozen BK199.out 1
              have hfz53_2 := blk_frozen BK199.out 2
              have hfz53_3 := blk_frozen BK199.out 3
              have hfz53_4 := blk_frozen BK199.out 4
              have hfz53_5 := blk_frozen BK199.out 5
              have hfz53_6 := blk_frozen BK199.out 6
              go_wp2
              go_roundg k4
              case measure => have := HJ1.out; have := HK2.out; have := HJ14.out; have := HK4.out; omega
              case rel => exact ⟨(wrap64 (x3_2 + 1)), (by first | rfl | (simp; done) | (simp [*]; done)), H', ⟨by have := HJ1.out; have := HK2.out; have := HJ14.out; have := HK4.out; omega⟩, ⟨by (with_reducible repeat (first | refine blk_drewN ?_ _ | refine blk_drew ?_ | refine blk_alloc ?_ _)); exact BK195.out⟩, ⟨by repeat (first | (with_reducible first | exact HB.out | apply below_alloc | apply pw_below_drewN | apply below_drew1 | refine below_set ?_ GE195.out | refine below_set ?_ GE199.out) | exact HB.out)⟩⟩
       ·
        as_aux_lemma =>
        rw [if_neg c14] at H
        exact absurd H (by simp)
      ·
       as_aux_lemma =>
       rw [if_neg c13] at H
       have c13b0 : decide (x3_2 < (l0_0.length : Int)) = false := decide_eq_false c13
       clear c13
       have H' := Aside0.mk H
       clear H
       have hcz54_0 : wr.cell? ⟨gb195, 0, none⟩ = some (.slice A0_0 l0_0.length c0_0) := (blk_cell BK195.out 0).trans rfl
       have hcz54_1 : wr.cell? ⟨gb195, 1, none⟩ = some (.int .i64 a0_1) := (blk_cell BK195.out 1).trans rfl
       have hcz54_2 : wr.cell? ⟨gb195, 2, none⟩ = some (.int .i64 a0_2) := (blk_cell BK195.out 2).trans rfl
       have hcz54_3 : wr.cell? ⟨gb195, 3, none⟩ = some (.int .i64 a0_3) := (blk_cell BK195.out 3).trans rfl
       have hfz54_0 := blk_frozen BK195.out 0
       have hfz54_1 := blk_frozen BK195.out 1
       have hfz54_2 := blk_frozen BK195.out 2
       have hfz54_3 := blk_frozen BK195.out 3
       go_wp2
       go_loopg [6] k2 (fun kq v6 w' => ∃ (x6_3 : Int), v6 = .int .i64 x6_3 ∧ Aside0 (rehearsalref04_Check.l2 kq x6_3 l0_0 a0_1 a0_2 a0_3 = some r) ∧ Aside0 (kq ≤ k2) ∧ Aside0 (w'.heap[gb195]? = some (.cells #[(.slice A0_0 l0_0.length c0_0), .int .i64 a0_1, .int .i64 a0_2, .int .i64 a0_3] 26 (0, 0))) ∧ Aside0 (Below w.heap.size w w'))
       case atStart => exact ⟨(0), (by first | rfl | (simp; done) | (simp [*]; done)), H', ⟨Nat.le_refl _⟩, ⟨by (with_reducible repeat (first | refine blk_drewN ?_ _ | refine blk_drew ?_ | refine blk_alloc ?_ _)); exact BK195.out⟩, ⟨by repeat (first | (with_reducible first | exact HB.out | apply below_alloc | apply pw_below_drewN | apply below_drew1 | refine below_set ?_ GE195.out) | exact HB.out)⟩⟩
       case round =>
        clear H'
        try clear c1
        try clear c2
        try clear p2
        try clear q2
        try clear hx2
        try clear c3
        try clear c4
        try clear c5
        try clear c6
        try clear p6
        try clear c13
        try clear c13b0
        try clear c14
        try clear c19
        try clear p20
        try clear q20
        try clear hx20
        try clear c21
        try clear c26
        try clear c26b0
        try clear c28
        try clear c29
        try clear c39
        try clear c40
        try clear c40b0
        try clear c41
        try clear c41b0
        try clear c43
        try clear c43b0
        try clear c44
        try clear c48
        try clear c52
        try clear hcz45_0
        try clear hcz45_1
        try clear hcz45_2
        try clear hcz45_3
        try clear hcz45_4
        try clear hcz45_5
        try clear hcz45_6
        try clear hcz49_0
        try clear hcz49_1
        try clear hcz49_2
        try clear hcz49_3
        try clear hcz49_4
        try clear hcz49_5
        try clear hcz49_6
        try clear hcz53_0
        try clear hcz53_1
        try clear hcz53_2
        try clear hcz53_3
        try clear hcz53_4
        try clear hcz53_5
        try clear hcz53_6
        try clear hcz54_0
        try clear hcz54_1
        try clear hcz54_2
        try clear hcz54_3
        try clear hfz45_0
        try clear hfz45_1
        try clear hfz45_2
        try clear hfz45_3
        try clear hfz45_4
        try clear hfz45_5
        try clear hfz45_6
        try clear hfz49_0
        try clear hfz49_1
        try clear hfz49_2
        try clear hfz49_3
        try clear hfz49_4
        try clear hfz49_5
        try clear hfz49_6
        try clear hfz53_0
        try clear hfz53_1
        try clear hfz53_2
        try clear hfz53_3
        try clear hfz53_4
        try clear hfz53_5
        try clear hfz53_6
        try clear hfz54_0
        try clear hfz54_1
        try clear hfz54_2
        try clear hfz54_3
        try clear hx202_0
        try clear hx202_1
        try clear p2
        try clear p202
        try clear q202
        obtain ⟨x6_3, rfl, HA, HK3, BK195, HB⟩ := hrel
        cases gk with
        | zero => exact absurd HA.out (by simp [rehearsalref04_Check.l2])
        | succ k3 =>
         have H := HA.out
         clear HA
         simp only [rehearsalref04_Check.l2] at H
         by_cases c55 : x6_3 < (l0_0.length : Int)
         ·
          as_aux_lemma =>
          rw [if_pos c55] at H
          have c55b0 : decide (x6_3 < (l0_0.length : Int)) = true := decide_eq_true c55
          clear c55
          by_cases c56 : 0 ≤ x6_3
          ·
           as_aux_lemma =>
           rw [if_pos c56] at H
           have c56b0 : decide (0 ≤ x6_3) = true := decide_eq_true c56
           clear c56
           replace H := Option.bind_eq_some_iff.mp H
           obtain ⟨t205, A570, H⟩ := H
           replace H : (if x6_3 = 0 then (if t205 > 0 then (rehearsalref04_Check.j5 k3 x6_3 true l0_0 a0_1 a0_2 a0_3) else (if x6_3 > 0 then (if t205 = 0 then (rehearsalref04_Check.j5 k3 x6_3 true l0_0 a0_1 a0_2 a0_3) else (if ((rd_T44 l0_0 x6_3).f1) = 1 then (rehearsalref04_Check.j5 k3 x6_3 (decide (t205 > 1)) l0_0 a0_1 a0_2 a0_3) else (rehearsalref04_Check.j5 k3 x6_3 false l0_0 a0_1 a0_2 a0_3))) else (if ((rd_T44 l0_0 x6_3).f1) = 1 then (rehearsalref04_Check.j5 k3 x6_3 (decide (t205 > 1)) l0_0 a0_1 a0_2 a0_3) else (rehearsalref04_Check.j5 k3 x6_3 false l0_0 a0_1 a0_2 a0_3)))) else (if x6_3 > 0 then (if t205 = 0 then (rehearsalref04_Check.j5 k3 x6_3 true l0_0 a0_1 a0_2 a0_3) else (if ((rd_T44 l0_0 x6_3).f1) = 1 then (rehearsalref04_Check.j5 k3 x6_3 (decide (t205 > 1)) l0_0 a0_1 a0_2 a0_3) else (rehearsalref04_Check.j5 k3 x6_3 false l0_0 a0_1 a0_2 a0_3))) else (if ((rd_T44 l0_0 x6_3).f1) = 1 then (rehearsalref04_Check.j5 k3 x6_3 (decide (t205 > 1)) l0_0 a0_1 a0_2 a0_3) else (rehearsalref04_Check.j5 k3 x6_3 false l0_0 a0_1 a0_2 a0_3)))) = some r := H
           have A57 := Aside0.mk A570
           clear A570
           have HC58 := Aside0.mk H
           clear H
           have hcz59_0 : wr.cell? ⟨gb195, 0, none⟩ = some (.slice A0_0 l0_0.length c0_0) := (blk_cell BK195.out 0).trans rfl
           have hcz59_1 : wr.cell? ⟨gb195, 1, none⟩ = some (.int .i64 a0_1) := (blk_cell BK195.out 1).trans rfl
           have hcz59_2 : wr.cell? ⟨gb195, 2, none⟩ = some (.int .i64 a0_2) := (blk_cell BK195.out 2).trans rfl
           have hcz59_3 : wr.cell? ⟨gb195, 3, none⟩ = some (.int .i64 a0_3) := (blk_cell BK195.out 3).trans rfl
           have hfz59_0 := blk_frozen BK195.out 0
           have hfz59_1 := blk_frozen BK195.out 1
           have hfz59_2 := blk_frozen BK195.out 2
           have hfz59_3 := blk_frozen BK195.out 3
           try go_wp2
           have n0_ := Aside0.mk (blk_drew BK195.out)
           have n1_ := Aside0.mk (below_drew1 HB.out)
           clear BK195
           clear HB
           have BK195 := n0_
           have HB := n1_
           clear n0_ n1_
           have p204 : 0 ≤ (x6_3 : Int) := of_decide_eq_true (by first | (with_reducible assumption) | assumption)
           have q204 : x6_3 < (l0_0.length : Int) := of_decide_eq_true (by first | (with_reducible assumption) | assumption)
           obtain ⟨ad204, A204_6, c204_6, e204, hx204_0, hx204_1, hx204_2, hx204_3, hx204_4, hx204_5, hx204_6, hl204_6, hi204_6⟩ := at_T44 HR0_0.out x6_3 p204 q204
           have hw204_6 := hx204_6
           have hw204_5 := hx204_5
           have hw204_4 := hx204_4
           have hw204_3 := hx204_3
           have hw204_2 := hx204_2
           have hw204_1 := hx204_1
           have hw204_0 := hx204_0
           cases e204
           replace hx204_0 := (HB.out.cell (World.block_lt_of_cell? w _ hx204_0)).trans hx204_0
           replace hx204_1 := (HB.out.cell (World.block_lt_of_cell? w _ hx204_1)).trans hx204_1
           replace hx204_2 := (HB.out.cell (World.block_lt_of_cell? w _ hx204_2)).trans hx204_2
           replace hx204_3 := (HB.out.cell (World.block_lt_of_cell? w _ hx204_3)).trans hx204_3
           replace hx204_4 := (HB.out.cell (World.block_lt_of_cell? w _ hx204_4)).trans hx204_4
           replace hx204_5 := (HB.out.cell (World.block_lt_of_cell? w _ hx204_5)).trans hx204_5
           replace hx204_6 := (HB.out.cell (World.block_lt_of_cell? w _ hx204_6)).trans hx204_6
           have HR204_6 := Aside0.mk hi204_6
           have HC204_6 := Aside0.mk hl204_6
           clear hi204_6 hl204_6
           replace p204 := eq_true p204
           replace q204 := eq_true q204
           refine start_ (n := 9) (S := fun w' => w'.cell? ⟨gb195, 0, none⟩ = some (.slice (some ad204) l0_0.length c0_0) ∧ w'.cell? ⟨gb195, 1, none⟩ = some (.int .i64 a0_1) ∧ w'.cell? ⟨gb195, 2, none⟩ = some (.int .i64 a0_2) ∧ w'.cell? ⟨gb195, 3, none⟩ = some (.int .i64 a0_3) ∧ w'.cell? (ad204.add ((x6_3).toNat * 7)) = some (.int .i64 ((rd_T44 l0_0 x6_3).f0)) ∧ w'.cell? ⟨(ad204.add ((x6_3).toNat * 7)).block, (ad204.add ((x6_3).toNat * 7)).off + 1, none⟩ = some (.int .i64 ((rd_T44 l0_0 x6_3).f1)) ∧ w'.cell? ⟨(ad204.add ((x6_3).toNat * 7)).block, (ad204.add ((x6_3).toNat * 7)).off + 2, none⟩ = some (.int .i64 ((rd_T44 l0_0 x6_3).f2)) ∧ w'.cell? ⟨(ad204.add ((x6_3).toNat * 7)).block, (ad204.add ((x6_3).toNat * 7)).off + 3, none⟩ = some (.int .i64 ((rd_T44 l0_0 x6_3).f3)) ∧ w'.cell? ⟨(ad204.add ((x6_3).toNat * 7)).block, (ad204.add ((x6_3).toNat * 7)).off + 4, none⟩ = some (.int .i64 ((rd_T44 l0_0 x6_3).f4)) ∧ w'.cell? ⟨(ad204.add ((x6_3).toNat * 7)).block, (ad204.add ((x6_3).toNat * 7)).off + 5, none⟩ = some (.string ((rd_T44 l0_0 x6_3).f5)) ∧ w'.cell? ⟨(ad204.add ((x6_3).toNat * 7)).block, (ad204.add ((x6_3).toNat * 7)).off + 6, none⟩ = some (.slice A204_6 ((rd_T44 l0_0 x6_3).f6).length c204_6)) (ds := []) #[false, false, false, false, false, false, false, false, false] (by kernel_rfl) rfl rfl ⟨(blk_cell BK195.out 0).trans rfl, (blk_cell BK195.out 1).trans rfl, (blk_cell BK195.out 2).trans rfl, (blk_cell BK195.out 3).trans rfl, ((HB.out.cell (World.block_lt_of_cell? w _ hw204_0)).trans hw204_0), ((HB.out.cell (World.block_lt_of_cell? w _ hw204_1)).trans hw204_1), ((HB.out.cell (World.block_lt_of_cell? w _ hw204_2)).trans hw204_2), ((HB.out.cell (World.block_lt_of_cell? w _ hw204_3)).trans hw204_3), ((HB.out.cell (World.block_lt_of_cell? w _ hw204_4)).trans hw204_4), ((HB.out.cell (World.block_lt_of_cell? w _ hw204_5)).trans hw204_5), ((HB.out.cell (World.block_lt_of_cell? w _ hw204_6)).trans hw204_6)⟩ (fun hHeld => ?_); refine with_tabW rehearsalref04_Check.tab17 rehearsalref04_Check.bits17 (fun HT_ HW_ => ?_)
           generalize wr.drew = w60 at BK195 HB HR204_6 hx204_0 hx204_1 hx204_2 hx204_3 hx204_4 hx204_5 hx204_6 hHeld ⊢
           iterate 5 (((first | refine takeS_ 1 (N := some 96) (v := ?_) (a' := ?_) rfl rfl (by decide +kernel) (fun _ _ _ h => h) (Or.inl ⟨by rfl, ?_⟩) hHeld ?_ ?_ | refine takeS_ 3 (N := some 98) (v := ?_) (a' := ?_) rfl rfl (by decide +kernel) (fun _ _ _ h => h) (Or.inl ⟨by rfl, ?_⟩) hHeld ?_ ?_ | refine takeS_ 0 (N := some 95) (v := ?_) (a' := ?_) rfl rfl (by decide +kernel) (fun _ _ _ h => h) (Or.inl ⟨by rfl, ?_⟩) hHeld ?_ ?_ | refine takeS_ 2 (N := some 97) (v := ?_) (a' := ?_) rfl rfl (by decide +kernel) (fun _ _ _ h => h) (Or.inl ⟨by rfl, ?_⟩) hHeld ?_ ?_ | refine takeS_ 4 (N := some 99) (v := ?_) (a' := ?_) rfl rfl (by decide +kernel) (fun _ _ _ h => h) (Or.inl ⟨by rfl, ?_⟩) hHeld ?_ ?_); rotate_left; (rintro w' ⟨s0, s1, s2, s3, s4, s5, s6, s7, s8, s9, s10⟩; go_simp; first | done | (with_reducible rfl) | rfl); rotate_left; (simp only [Act.put, List.setIfInBounds_toArray, List.set_cons_zero, List.set_cons_succ, i64_w, i32_w]; rfl)))
           iterate 2 (((first | refine takeS_ 5 (N := some 100) (v := ?_) (a' := ?_) rfl rfl (by decide +kernel) (fun _ _ _ h => h) (Or.inl ⟨by rfl, ?_⟩) hHeld ?_ ?_ | refine takeS_ 6 (N := some 101) (v := ?_) (a' := ?_) rfl rfl (by decide +kernel) (fun _ _ _ h => h) (Or.inl ⟨by rfl, ?_⟩) hHeld ?_ ?_); rotate_left; (rintro w' ⟨s0, s1, s2, s3, s4, s5, s6, s7, s8, s9, s10⟩; go_simp; first | done | (with_reducible rfl) | rfl); rotate_left; (simp only [Act.put, List.setIfInBounds_toArray, List.set_cons_zero, List.set_cons_succ, i64_w, i32_w]; rfl)))
           refine one_ (i := 7) (N := some 102) #[true, true, true, true, true, true, true, true, false] rfl rfl (one_of HT_.out (by kernel_rfl)) (by decide) (fun K hK => ?_)
           refine goes_ Tryd.func34 (by kernel_rfl) rfl #[.agg #[.slice (some ad204) l0_0.length c0_0, .int .i64 a0_1, .int .i64 a0_2, .int .i64 a0_3], .int .i64 ((rd_T44 l0_0 x6_3).f0)] (by rfl) rfl rfl (by (try simp only [List.map_toArray, List.map_cons, List.map_nil]); first | done | rfl | (simp only [List.length_drop, List.length_take]; rfl)) ?_
           with_reducible refine (rehearsalref04_Links.calls k3 _ _ l0_0 a0_1 a0_2 a0_3 ((rd_T44 l0_0 x6_3).f0) t205 _ ?side1 ?side2 A57.out).mono ?_
           (case side1 => repeat (first | exact (Kd.C_below HR0_0.out HB.out) | (with_reducible refine Kd.C_alloc ?_ _) | (with_reducible refine Kd.C_drewN ?_ _) | (with_reducible refine Kd.C_drew ?_)))
           (case side2 => exact HC0_0.out)
           rintro e w61 ⟨rfl, hb⟩
           refine ⟨_, rfl, ?_⟩
           have n0_ := Aside0.mk (blk_below (g := gb195) (o := .cells #[.slice (some ad204) l0_0.length c0_0, .int .i64 a0_1, .int .i64 a0_2, .int .i64 a0_3] 26 (0, 0)) (by (with_reducible repeat (first | refine blk_drewN ?_ _ | refine blk_drew ?_ | refine blk_alloc ?_ _)); exact BK195.out) hb)
           have n1_ := Aside0.mk (below_step (by repeat (first | (with_reducible first | exact HB.out | apply below_alloc | apply pw_below_drewN | apply below_drew1 | refine below_set ?_ GE195.out) | exact HB.out)) hb)
           clear BK195
           clear HB
           have BK195 := n0_
           have HB := n1_
           clear n0_ n1_
           (try clear hb)
           (try clear hb2)
           (try clear hk)
           (try clear hi)
           refine hK.out _ _ ⟨(blk_cell BK195.out 0).trans rfl, (blk_cell BK195.out 1).trans rfl, (blk_cell BK195.out 2).trans rfl, (blk_cell BK195.out 3).trans rfl, ((HB.out.cell (World.block_lt_of_cell? w _ hw204_0)).trans hw204_0), ((HB.out.cell (World.block_lt_of_cell? w _ hw204_1)).trans hw204_1), ((HB.out.cell (World.block_lt_of_cell? w _ hw204_2)).trans hw204_2), ((HB.out.cell (World.block_lt_of_cell? w _ hw204_3)).trans hw204_3), ((HB.out.cell (World.block_lt_of_cell? w _ hw204_4)).trans hw204_4), ((HB.out.cell (World.block_lt_of_cell? w _ hw204_5)).trans hw204_5), ((HB.out.cell (World.block_lt_of_cell? w _ hw204_6)).trans hw204_6)⟩ (fun hHeld => ?_)
           clear hK K
           refine norm_ (a' := ?_) ?_ ?_
           rotate_left
           ·
            show Act.put _ (some 102) _ = _
            simp only [Act.put, List.setIfInBounds_toArray, List.set_cons_zero, List.set_cons_succ, i64_w, i32_w]
            rfl
           refine pure_ (i := 8) (N := some 7) (v := ?_) (a' := ?_) #[true, true, true, true, true, true, true, true, true] rfl rfl (any_of HT_.out (by kernel_rfl)) (fun _ _ _ h => h) (Or.inl ⟨by rfl, ?_⟩) ?_ ?_
           rotate_left
           ·
            intro w'
            go_simp
            with_reducible rfl
           rotate_left
           ·
            simp only [Act.put, List.setIfInBounds_toArray, List.set_cons_zero, List.set_cons_succ, i64_w, i32_w]
            rfl
           refine done_ (done_of HT_.out (by kernel_rfl)) ?_
           go_upto_region 18 with (fail)
           go_cut [129] (fun v129 wc => ∃ (kq : Nat) (x129_57 : Bool), v129 = .bool x129_57 ∧ Aside0 (rehearsalref04_Check.j5 kq x6_3 x129_57 l0_0 a0_1 a0_2 a0_3 = some r) ∧ Aside0 (kq ≤ k3) ∧ Aside0 (wc.heap[gb195]? = some (.cells #[(.slice (some ad204) l0_0.length c0_0), .int .i64 a0_1, .int .i64 a0_2, .int .i64 a0_3] 26 (0, 0))) ∧ Aside0 (Below w.heap.size w wc))
           case first =>
            have H := HC58.out
            clear HC58
            by_cases c62 : x6_3 = 0
            ·
             as_aux_lemma =>
             rw [if_pos c62] at H
             have c62b0 : (x6_3 == 0) = true := beq_iff_eq.mpr c62
             have c62b1 : (x6_3 != 0) = false := bne_eq_false_iff_eq.mpr c62
             clear c62
             (first | rw [c62b0] | (simp only [i64_w, i32_w]; rw [c62b0]) | skip)
             by_cases c63 : t205 > 0
             ·
              as_aux_lemma =>
              rw [if_pos c63] at H
              have c63b0 : decide (0 < t205) = true := decide_eq_true c63
              clear c63
              have H' := Aside0.mk H
              clear H
              go_wp2
              go_meet
              case rel => exact ⟨_, (true), (by first | rfl | (simp; done) | (simp [*]; done)), H', ⟨by have := HJ1.out; have := HK2.out; have := HK3.out; first | omega | exact Nat.le_refl _⟩, ⟨by (with_reducible repeat (first | refine blk_drewN ?_ _ | refine blk_drew ?_ | refine blk_alloc ?_ _)); exact BK195.out⟩, ⟨by repeat (first | (with_reducible first | exact HB.out | apply below_alloc | apply pw_below_drewN | apply below_drew1 | refine below_set ?_ GE195.out) | exact HB.out)⟩⟩
             ·
              as_aux_lemma =>
              rw [if_neg c63] at H
              have c63b0 : decide (0 < t205) = false := decide_eq_false c63
              clear c63
              by_cases c64 : x6_3 > 0
              ·
               as_aux_lemma =>
               rw [if_pos c64] at H
               have c64b0 : decide (0 < x6_3) = true := decide_eq_true c64
               clear c64
               by_cases c65 : t205 = 0
               ·
                as_aux_lemma =>
                rw [if_pos c65] at H
                have c65b0 : (t205 == 0) = true := beq_iff_eq.mpr c65
                have c65b1 : (t205 != 0) = false := bne_eq_false_iff_eq.mpr c65
                clear c65
                have H' := Aside0.mk H
                clear H
                go_wp2
                go_meet
                case rel => exact ⟨_, (true), (by first | rfl | (simp; done) | (simp [*]; done)), H', ⟨by have := HJ1.out; have := HK2.out; have := HK3.out; first | omega | exact Nat.le_refl _⟩, ⟨by (with_reducible repeat (first | refine blk_drewN ?_ _ | refine blk_drew ?_ | refine blk_alloc ?_ _)); exact BK195.out⟩, ⟨by repeat (first | (with_reducible first | exact HB.out | apply below_alloc | apply pw_below_drewN | apply below_drew1 | refine below_set ?_ GE195.out) | exact HB.out)⟩⟩
               ·
                as_aux_lemma =>
                rw [if_neg c65] at H
                have c65b0 : (t205 == 0) = false := beq_eq_false_iff_ne.mpr c65
                have c65b1 : (t205 != 0) = true := bne_iff_ne.mpr c65
                by_cases c66 : ((rd_T44 l0_0 x6_3).f1) = 1
                ·
                 as_aux_lemma =>
                 rw [if_pos c66] at H
                 have c66b0 : (((rd_T44 l0_0 x6_3).f1) == 1) = true := beq_iff_eq.mpr c66
                 have c66b1 : (((rd_T44 l0_0 x6_3).f1) != 1) = false := bne_eq_false_iff_eq.mpr c66
                 clear c66
                 have H' := Aside0.mk H
                 clear H
                 have hcz67_0 : w61.cell? ⟨gb195, 0, none⟩ = some (.slice (some ad204) l0_0.length c0_0) := (blk_cell BK195.out 0).trans rfl
                 have hcz67_1 : w61.cell? ⟨gb195, 1, none⟩ = some (.int .i64 a0_1) := (blk_cell BK195.out 1).trans rfl
                 have hcz67_2 : w61.cell? ⟨gb195, 2, none⟩ = some (.int .i64 a0_2) := (blk_cell BK195.out 2).trans rfl
                 have hcz67_3 : w61.cell? ⟨gb195, 3, none⟩ = some (.int .i64 a0_3) := (blk_cell BK195.out 3).trans rfl
                 have hfz67_0 := blk_frozen BK195.out 0
                 have hfz67_1 := blk_frozen BK195.out 1
                 have hfz67_2 := blk_frozen BK195.out 2
                 have hfz67_3 := blk_frozen BK195.out 3
                 have p206 : 0 ≤ (x6_3 : Int) := of_decide_eq_true (by first | (with_reducible assumption) | assumption)
                 have q206 : x6_3 < (l0_0.length : Int) := of_decide_eq_true (by first | (with_reducible assumption) | assumption)
                 obtain ⟨ad206, A206_6, c206_6, e206, hx206_0, hx206_1, hx206_2, hx206_3, hx206_4, hx206_5, hx206_6, hl206_6, hi206_6⟩ := at_T44 HR0_0.out x6_3 p206 q206
                 obtain rfl : ad204 = ad206 := (by injection e206)
                 replace hx206_0 := (HB.out.cell (World.block_lt_of_cell? w _ hx206_0)).trans hx206_0
                 replace hx206_1 := (HB.out.cell (World.block_lt_of_cell? w _ hx206_1)).trans hx206_1
                 replace hx206_2 := (HB.out.cell (World.block_lt_of_cell? w _ hx206_2)).trans hx206_2
                 replace hx206_3 := (HB.out.cell (World.block_lt_of_cell? w _ hx206_3)).trans hx206_3
                 replace hx206_4 := (HB.out.cell (World.block_lt_of_cell? w _ hx206_4)).trans hx206_4
                 replace hx206_5 := (HB.out.cell (World.block_lt_of_cell? w _ hx206_5)).trans hx206_5
                 replace hx206_6 := (HB.out.cell (World.block_lt_of_cell? w _ hx206_6)).trans hx206_6
                 have HR206_6 := Aside0.mk hi206_6
                 have HC206_6 := Aside0.mk hl206_6
                 clear hi206_6 hl206_6
                 replace p206 := eq_true p206
                 replace q206 := eq_true q206
                 go_wp2
                 go_meet
                 case rel => exact ⟨_, (decide (t205 > 1)), (by first | rfl | (simp; done) | (simp [*]; done)), H', ⟨by have := HJ1.out; have := HK2.out; have := HK3.out; first | omega | exact Nat.le_refl _⟩, ⟨by (with_reducible repeat (first | refine blk_drewN ?_ _ | refine blk_drew ?_ | refine blk_alloc ?_ _)); exact BK195.out⟩, ⟨by repeat (first | (with_reducible first | exact HB.out | apply below_alloc | apply pw_below_drewN | apply below_drew1 | refine below_set ?_ GE195.out) | exact HB.out)⟩⟩
                ·
                 as_aux_lemma =>
                 rw [if_neg c66] at H
                 have c66b0 : (((rd_T44 l0_0 x6_3).f1) == 1) = false := beq_eq_false_iff_ne.mpr c66
                 have c66b1 : (((rd_T44 l0_0 x6_3).f1) != 1) = true := bne_iff_ne.mpr c66
                 have H' := Aside0.mk H
                 clear H
                 have hcz68_0 : w61.cell? ⟨gb195, 0, none⟩ = some (.slice (some ad204) l0_0.length c0_0) := (blk_cell BK195.out 0).trans rfl
                 have hcz68_1 : w61.cell? ⟨gb195, 1, none⟩ = some (.int .i64 a0_1) := (blk_cell BK195.out 1).trans rfl
                 have hcz68_2 : w61.cell? ⟨gb195, 2, none⟩ = some (.int .i64 a0_2) := (blk_cell BK195.out 2).trans rfl
                 have hcz68_3 : w61.cell? ⟨gb195, 3, none⟩ = some (.int .i64 a0_3) := (blk_cell BK195.out 3).trans rfl
                 have hfz68_0 := blk_frozen BK195.out 0
                 have hfz68_1 := blk_frozen BK195.out 1
                 have hfz68_2 := blk_frozen BK195.out 2
                 have hfz68_3 := blk_frozen BK195.out 3
                 have p206 : 0 ≤ (x6_3 : Int) := of_decide_eq_true (by first | (with_reducible assumption) | assumption)
                 have q206 : x6_3 < (l0_0.length : Int) := of_decide_eq_true (by first | (with_reducible assumption) | assumption)
                 obtain ⟨ad206, A206_6, c206_6, e206, hx206_0, hx206_1, hx206_2, hx206_3, hx206_4, hx206_5, hx206_6, hl206_6, hi206_6⟩ := at_T44 HR0_0.out x6_3 p206 q206
                 obtain rfl : ad204 = ad206 := (by injection e206)
                 replace hx206_0 := (HB.out.cell (World.block_lt_of_cell? w _ hx206_0)).trans hx206_0
                 replace hx206_1 := (HB.out.cell (World.block_lt_of_cell? w _ hx206_1)).trans hx206_1
                 replace hx206_2 := (HB.out.cell (World.block_lt_of_cell? w _ hx206_2)).trans hx206_2
                 replace hx206_3 := (HB.out.cell (World.block_lt_of_cell? w _ hx206_3)).trans hx206_3
                 replace hx206_4 := (HB.out.cell (World.block_lt_of_cell? w _ hx206_4)).trans hx206_4
                 replace hx206_5 := (HB.out.cell (World.block_lt_of_cell? w _ hx206_5)).trans hx206_5
                 replace hx206_6 := (HB.out.cell (World.block_lt_of_cell? w _ hx206_6)).trans hx206_6
                 have HR206_6 := Aside0.mk hi206_6
                 have HC206_6 := Aside0.mk hl206_6
                 clear hi206_6 hl206_6
                 replace p206 := eq_true p206
                 replace q206 := eq_true q206
                 go_wp2
                 go_meet
                 case rel => exact ⟨_, (false), (by first | rfl | (simp; done) | (simp [*]; done)), H', ⟨by have := HJ1.out; have := HK2.out; have := HK3.out; first | omega | exact Nat.le_refl _⟩, ⟨by (with_reducible repeat (first | refine blk_drewN ?_ _ | refine blk_drew ?_ | refine blk_alloc ?_ _)); exact BK195.out⟩, ⟨by repeat (first | (with_reducible first | exact HB.out | apply below_alloc | apply pw_below_drewN | apply below_drew1 | refine below_set ?_ GE195.out) | exact HB.out)⟩⟩
              ·
               as_aux_lemma =>
               rw [if_neg c64] at H
               have c64b0 : decide (0 < x6_3) = false := decide_eq_false c64
               clear c64
               by_cases c69 : ((rd_T44 l0_0 x6_3).f1) = 1
               ·
                as_aux_lemma =>
                rw [if_pos c69] at H
                have c69b0 : (((rd_T44 l0_0 x6_3).f1) == 1) = true := beq_iff_eq.mpr c69
                have c69b1 : (((rd_T44 l0_0 x6_3).f1) != 1) = false := bne_eq_false_iff_eq.mpr c69
                clear c69
                have H' := Aside0.mk H
                clear H
                have hcz70_0 : w61.cell? ⟨gb195, 0, none⟩ = some (.slice (some ad204) l0_0.length c0_0) := (blk_cell BK195.out 0).trans rfl
                have hcz70_1 : w61.cell? ⟨gb195, 1, none⟩ = some (.int .i64 a0_1) := (blk_cell BK195.out 1).trans rfl
                have hcz70_2 : w61.cell? ⟨gb195, 2, none⟩ = some (.int .i64 a0_2) := (blk_cell BK195.out 2).trans rfl
                have hcz70_3 : w61.cell? ⟨gb195, 3, none⟩ = some (.int .i64 a0_3) := (blk_cell BK195.out 3).trans rfl
                have hfz70_0 := blk_frozen BK195.out 0
                have hfz70_1 := blk_frozen BK195.out 1
                have hfz70_2 := blk_frozen BK195.out 2
                have hfz70_3 := blk_frozen BK195.out 3
                have p207 : 0 ≤ (x6_3 : Int) := of_decide_eq_true (by first | (with_reducible assumption) | assumption)
                have q207 : x6_3 < (l0_0.length : Int) := of_decide_eq_true (by first | (with_reducible assumption) | assumption)
                obtain ⟨ad207, A207_6, c207_6, e207, hx207_0, hx207_1, hx207_2, hx207_3, hx207_4, hx207_5, hx207_6, hl207_6, hi207_6⟩ := at_T44 HR0_0.out x6_3 p207 q207
                obtain rfl : ad204 = ad207 := (by injection e207)
                replace hx207_0 := (HB.out.cell (World.block_lt_of_cell? w _ hx207_0)).trans hx207_0
                replace hx207_1 := (HB.out.cell (World.block_lt_of_cell? w _ hx207_1)).trans hx207_1
                replace hx207_2 := (HB.out.cell (World.block_lt_of_cell? w _ hx207_2)).trans hx207_2
                replace hx207_3 := (HB.out.cell (World.block_lt_of_cell? w _ hx207_3)).trans hx207_3
                replace hx207_4 := (HB.out.cell (World.block_lt_of_cell? w _ hx207_4)).trans hx207_4
                replace hx207_5 := (HB.out.cell (World.block_lt_of_cell? w _ hx207_5)).trans hx207_5
                replace hx207_6 := (HB.out.cell (World.block_lt_of_cell? w _ hx207_6)).trans hx207_6
                have HR207_6 := Aside0.mk hi207_6
                have HC207_6 := Aside0.mk hl207_6
                clear hi207_6 hl207_6
                replace p207 := eq_true p207
                replace q207 := eq_true q207
                go_wp2
                go_meet
                case rel => exact ⟨_, (decide (t205 > 1)), (by first | rfl | (simp; done) | (simp [*]; done)), H', ⟨by have := HJ1.out; have := HK2.out; have := HK3.out; first | omega | exact Nat.le_refl _⟩, ⟨by (with_reducible repeat (first | refine blk_drewN ?_ _ | refine blk_drew ?_ | refine blk_alloc ?_ _)); exact BK195.out⟩, ⟨by repeat (first | (with_reducible first | exact HB.out | apply below_alloc | apply pw_below_drewN | apply below_drew1 | refine below_set ?_ GE195.out) | exact HB.out)⟩⟩
               ·
                as_aux_lemma =>
                rw [if_neg c69] at H
                have c69b0 : (((rd_T44 l0_0 x6_3).f1) == 1) = false := beq_eq_false_iff_ne.mpr c69
                have c69b1 : (((rd_T44 l0_0 x6_3).f1) != 1) = true := bne_iff_ne.mpr c69
                have H' := Aside0.mk H
                clear H
                have hcz71_0 : w61.cell? ⟨gb195, 0, none⟩ = some (.slice (some ad204) l0_0.length c0_0) := (blk_cell BK195.out 0).trans rfl
                have hcz71_1 : w61.cell? ⟨gb195, 1, none⟩ = some (.int .i64 a0_1) := (blk_cell BK195.out 1).trans rfl
                have hcz71_2 : w61.cell? ⟨gb195, 2, none⟩ = some (.int .i64 a0_2) := (blk_cell BK195.out 2).trans rfl
                have hcz71_3 : w61.cell? ⟨gb195, 3, none⟩ = some (.int .i64 a0_3) := (blk_cell BK195.out 3).trans rfl
                have hfz71_0 := blk_frozen BK195.out 0
                have hfz71_1 := blk_frozen BK195.out 1
                have hfz71_2 := blk_frozen BK195.out 2
                have hfz71_3 := blk_frozen BK195.out 3
                have p207 : 0 ≤ (x6_3 : Int) := of_decide_eq_true (by first | (with_reducible assumption) | assumption)
                have q207 : x6_3 < (l0_0.length : Int) := of_decide_eq_true (by first | (with_reducible assumption) | assumption)
                obtain ⟨ad207, A207_6, c207_6, e207, hx207_0, hx207_1, hx207_2, hx207_3, hx207_4, hx207_5, hx207_6, hl207_6, hi207_6⟩ := at_T44 HR0_0.out x6_3 p207 q207
                obtain rfl : ad204 = ad207 := (by injection e207)
                replace hx207_0 := (HB.out.cell (World.block_lt_of_cell? w _ hx207_0)).trans hx207_0
                replace hx207_1 := (HB.out.cell (World.block_lt_of_cell? w _ hx207_1)).trans hx207_1
                replace hx207_2 := (HB.out.cell (World.block_lt_of_cell? w _ hx207_2)).trans hx207_2
                replace hx207_3 := (HB.out.cell (World.block_lt_of_cell? w _ hx207_3)).trans hx207_3
                replace hx207_4 := (HB.out.cell (World.block_lt_of_cell? w _ hx207_4)).trans hx207_4
                replace hx207_5 := (HB.out.cell (World.block_lt_of_cell? w _ hx207_5)).trans hx207_5
                replace hx207_6 := (HB.out.cell (World.block_lt_of_cell? w _ hx207_6)).trans hx207_6
                have HR207_6 := Aside0.mk hi207_6
                have HC207_6 := Aside0.mk hl207_6
                clear hi207_6 hl207_6
                replace p207 := eq_true p207
                replace q207 := eq_true q207
                go_wp2
                go_meet
                case rel => exact ⟨_, (false), (by first | rfl | (simp; done) | (simp [*]; done)), H', ⟨by have := HJ1.out; have := HK2.out; have := HK3.out; first | omega | exact Nat.le_refl _⟩, ⟨by (with_reducible repeat (first | refine blk_drewN ?_ _ | refine blk_drew ?_ | refine blk_alloc ?_ _)); exact BK195.out⟩, ⟨by repeat (first | (with_reducible first | exact HB.out | apply below_alloc | apply pw_below_drewN | apply below_drew1 | refine below_set ?_ GE195.out) | exact HB.out)⟩⟩
            ·
             as_aux_lemma =>
             rw [if_neg c62] at H
             have c62b0 : (x6_3 == 0) = false := beq_eq_false_iff_ne.mpr c62
             have c62b1 : (x6_3 != 0) = true := bne_iff_ne.mpr c62
             (first | rw [c62b0] | (simp only [i64_w, i32_w]; rw [c62b0]) | skip)
             by_cases c72 : x6_3 > 0
             ·
              as_aux_lemma =>
              rw [if_pos c72] at H
              have c72b0 : decide (0 < x6_3) = true := decide_eq_true c72
              clear c72
              by_cases c73 : t205 = 0
              ·
               as_aux_lemma =>
               rw [if_pos c73] at H
               have c73b0 : (t205 == 0) = true := beq_iff_eq.mpr c73
               have c73b1 : (t205 != 0) = false := bne_eq_false_iff_eq.mpr c73
               clear c73
               have H' := Aside0.mk H
               clear H
               go_wp2
               go_meet
               case rel => exact ⟨_, (true), (by first | rfl | (simp; done) | (simp [*]; done)), H', ⟨by have := HJ1.out; have := HK2.out; have := HK3.out; first | omega | exact Nat.le_refl _⟩, ⟨by (with_reducible repeat (first | refine blk_drewN ?_ _ | refine blk_drew ?_ | refine blk_alloc ?_ _)); exact BK195.out⟩, ⟨by repeat (first | (with_reducible first | exact HB.out | apply below_alloc | apply pw_below_drewN | apply below_drew1 | refine below_set ?_ GE195.out) | exact HB.out)⟩⟩
              ·
               as_aux_lemma =>
               rw [if_neg c73] at H
               have c73b0 : (t205 == 0) = false := beq_eq_false_iff_ne.mpr c73
               have c73b1 : (t205 != 0) = true := bne_iff_ne.mpr c73
               by_cases c74 : ((rd_T44 l0_0 x6_3).f1) = 1
               ·
                as_aux_lemma =>
                rw [if_pos c74] at H
                have c74b0 : (((rd_T44 l0_0 x6_3).f1) == 1) = true := beq_iff_eq.mpr c74
                have c74b1 : (((rd_T44 l0_0 x6_3).f1) != 1) = false := bne_eq_false_iff_eq.mpr c74
                clear c74
                have H' := Aside0.mk H
                clear H
                have hcz75_0 : w61.cell? ⟨gb195, 0, none⟩ = some (.slice (some ad204) l0_0.length c0_0) := (blk_cell BK195.out 0).trans rfl
                have hcz75_1 : w61.cell? ⟨gb195, 1, none⟩ = some (.int .i64 a0_1) := (blk_cell BK195.out 1).trans rfl
                have hcz75_2 : w61.cell? ⟨gb195, 2, none⟩ = some (.int .i64 a0_2) := (blk_cell BK195.out 2).trans rfl
                have hcz75_3 : w61.cell? ⟨gb195, 3, none⟩ = some (.int .i64 a0_3) := (blk_cell BK195.out 3).trans rfl
                have hfz75_0 := blk_frozen BK195.out 0
                have hfz75_1 := blk_frozen BK195.out 1
                have hfz75_2 := blk_frozen BK195.out 2
                have hfz75_3 := blk_frozen BK195.out 3
                have p208 : 0 ≤ (x6_3 : Int) := of_decide_eq_true (by first | (with_reducible assumption) | assumption)
                have q208 : x6_3 < (l0_0.length : Int) := of_decide_eq_true (by first | (with_reducible assumption) | assumption)
                obtain ⟨ad208, A208_6, c208_6, e208, hx208_0, hx208_1, hx208_2, hx208_3, hx208_4, hx208_5, hx208_6, hl208_6, hi208_6⟩ := at_T44 HR0_0.out x6_3 p208 q208
                obtain rfl : ad204 = ad208 := (by injection e208)
                replace hx208_0 := (HB.out.cell (World.block_lt_of_cell? w _ hx208_0)).trans hx208_0
                replace hx208_1 := (HB.out.cell (World.block_lt_of_cell? w _ hx208_1)).trans hx208_1
                replace hx208_2 := (HB.out.cell (World.block_lt_of_cell? w _ hx208_2)).trans hx208_2
                replace hx208_3 := (HB.out.cell (World.block_lt_of_cell? w _ hx208_3)).trans hx208_3
                replace hx208_4 := (HB.out.cell (World.block_lt_of_cell? w _ hx208_4)).trans hx208_4
                replace hx208_5 := (HB.out.cell (World.block_lt_of_cell? w _ hx208_5)).trans hx208_5
                replace hx208_6 := (HB.out.cell (World.block_lt_of_cell? w _ hx208_6)).trans hx208_6
                have HR208_6 := Aside0.mk hi208_6
                have HC208_6 := Aside0.mk hl208_6
                clear hi208_6 hl208_6
                replace p208 := eq_true p208
                replace q208 := eq_true q208
                go_wp2
                go_meet
                case rel => exact ⟨_, (decide (t205 > 1)), (by first | rfl | (simp; done) | (simp [*]; done)), H', ⟨by have := HJ1.out; have := HK2.out; have := HK3.out; first | omega | exact Nat.le_refl _⟩, ⟨by (with_reducible repeat (first | refine blk_drewN ?_ _ | refine blk_drew ?_ | refine blk_alloc ?_ _)); exact BK195.out⟩, ⟨by repeat (first | (with_reducible first | exact HB.out | apply below_alloc | apply pw_below_drewN | apply below_drew1 | refine below_set ?_ GE195.out) | exact HB.out)⟩⟩
               ·
                as_aux_lemma =>
                rw [if_neg c74] at H
                have c74b0 : (((rd_T44 l0_0 x6_3).f1) == 1) = false := beq_eq_false_iff_ne.mpr c74
                have c74b1 : (((rd_T44 l0_0 x6_3).f1) != 1) = true := bne_iff_ne.mpr c74
                have H' := Aside0.mk H
                clear H
                have hcz76_0 : w61.cell? ⟨gb195, 0, none⟩ = some (.slice (some ad204) l0_0.length c0_0) := (blk_cell BK195.out 0).trans rfl
                have hcz76_1 : w61.cell? ⟨gb195, 1, none⟩ = some (.int .i64 a0_1) := (blk_cell BK195.out 1).trans rfl
                have hcz76_2 : w61.cell? ⟨gb195, 2, none⟩ = some (.int .i64 a0_2) := (blk_cell BK195.out 2).trans rfl
                have hcz76_3 : w61.cell? ⟨gb195, 3, none⟩ = some (.int .i64 a0_3) := (blk_cell BK195.out 3).trans rfl
                have hfz76_0 := blk_frozen BK195.out 0
                have hfz76_1 := blk_frozen BK195.out 1
                have hfz76_2 := blk_frozen BK195.out 2
                have hfz76_3 := blk_frozen BK195.out 3
                have p208 : 0 ≤ (x6_3 : Int) := of_decide_eq_true (by first | (with_reducible assumption) | assumption)
                have q208 : x6_3 < (l0_0.length : Int) := of_decide_eq_true (by first | (with_reducible assumption) | assumption)
                obtain ⟨ad208, A208_6, c208_6, e208, hx208_0, hx208_1, hx208_2, hx208_3, hx208_4, hx208_5, hx208_6, hl208_6, hi208_6⟩ := at_T44 HR0_0.out x6_3 p208 q208
                obtain rfl : ad204 = ad208 := (by injection e208)
                replace hx208_0 := (HB.out.cell (World.block_lt_of_cell? w _ hx208_0)).trans hx208_0
                replace hx208_1 := (HB.out.cell (World.block_lt_of_cell? w _ hx208_1)).trans hx208_1
                replace hx208_2 := (HB.out.cell (World.block_lt_of_cell? w _ hx208_2)).trans hx208_2
                replace hx208_3 := (HB.out.cell (World.block_lt_of_cell? w _ hx208_3)).trans hx208_3
                replace hx208_4 := (HB.out.cell (World.block_lt_of_cell? w _ hx208_4)).trans hx208_4
                replace hx208_5 := (HB.out.cell (World.block_lt_of_cell? w _ hx208_5)).trans hx208_5
                replace hx208_6 := (HB.out.cell (World.block_lt_of_cell? w _ hx208_6)).trans hx208_6
                have HR208_6 := Aside0.mk hi208_6
                have HC208_6 := Aside0.mk hl208_6
                clear hi208_6 hl208_6
                replace p208 := eq_true p208
                replace q208 := eq_true q208
                go_wp2
                go_meet
                case rel => exact ⟨_, (false), (by first | rfl | (simp; done) | (simp [*]; done)), H', ⟨by have := HJ1.out; have := HK2.out; have := HK3.out; first | omega | exact Nat.le_refl _⟩, ⟨by (with_reducible repeat (first | refine blk_drewN ?_ _ | refine blk_drew ?_ | refine blk_alloc ?_ _)); exact BK195.out⟩, ⟨by repeat (first | (with_reducible first | exact HB.out | apply below_alloc | apply pw_below_drewN | apply below_drew1 | refine below_set ?_ GE195.out) | exact HB.out)⟩⟩
             ·
              as_aux_lemma =>
              rw [if_neg c72] at H
              have c72b0 : decide (0 < x6_3) = false := decide_eq_false c72
              clear c72
              by_cases c77 : ((rd_T44 l0_0 x6_3).f1) = 1
              ·
               as_aux_lemma =>
               rw [if_pos c77] at H
               have c77b0 : (((rd_T44 l0_0 x6_3).f1) == 1) = true := beq_iff_eq.mpr c77
               have c77b1 : (((rd_T44 l0_0 x6_3).f1) != 1) = false := bne_eq_false_iff_eq.mpr c77
               clear c77
               have H' := Aside0.mk H
               clear H
               have hcz78_0 : w61.cell? ⟨gb195, 0, none⟩ = some (.slice (some ad204) l0_0.length c0_0) := (blk_cell BK195.out 0).trans rfl
               have hcz78_1 : w61.cell? ⟨gb195, 1, none⟩ = some (.int .i64 a0_1) := (blk_cell BK195.out 1).trans rfl
               have hcz78_2 : w61.cell? ⟨gb195, 2, none⟩ = some (.int .i64 a0_2) := (blk_cell BK195.out 2).trans rfl
               have hcz78_3 : w61.cell? ⟨gb195, 3, none⟩ = some (.int .i64 a0_3) := (blk_cell BK195.out 3).trans rfl
               have hfz78_0 := blk_frozen BK195.out 0
               have hfz78_1 := blk_frozen BK195.out 1
               have hfz78_2 := blk_frozen BK195.out 2
               have hfz78_3 := blk_frozen BK195.out 3
               have p209 : 0 ≤ (x6_3 : Int) := of_decide_eq_true (by first | (with_reducible assumption) | assumption)
               have q209 : x6_3 < (l0_0.length : Int) := of_decide_eq_true (by first | (with_reducible assumption) | assumption)
               obtain ⟨ad209, A209_6, c209_6, e209, hx209_0, hx209_1, hx209_2, hx209_3, hx209_4, hx209_5, hx209_6, hl209_6, hi209_6⟩ := at_T44 HR0_0.out x6_3 p209 q209
               obtain rfl : ad204 = ad209 := (by injection e209)
               replace hx209_0 := (HB.out.cell (World.block_lt_of_cell? w _ hx209_0)).trans hx209_0
               replace hx209_1 := (HB.out.cell (World.block_lt_of_cell? w _ hx209_1)).trans hx209_1
               replace hx209_2 := (HB.out.cell (World.block_lt_of_cell? w _ hx209_2)).trans hx209_2
               replace hx209_3 := (HB.out.cell (World.block_lt_of_cell? w _ hx209_3)).trans hx209_3
               replace hx209_4 := (HB.out.cell (World.block_lt_of_cell? w _ hx209_4)).trans hx209_4
               replace hx209_5 := (HB.out.cell (World.block_lt_of_cell? w _ hx209_5)).trans hx209_5
               replace hx209_6 := (HB.out.cell (World.block_lt_of_cell? w _ hx209_6)).trans hx209_6
               have HR209_6 := Aside0.mk hi209_6
               have HC209_6 := Aside0.mk hl209_6
               clear hi209_6 hl209_6
               replace p209 := eq_true p209
               replace q209 := eq_true q209
               go_wp2
               go_meet
               case rel => exact ⟨_, (decide (t205 > 1)), (by first | rfl | (simp; done) | (simp [*]; done)), H', ⟨by have := HJ1.out; have := HK2.out; have := HK3.out; first | omega | exact Nat.le_refl _⟩, ⟨by (with_reducible repeat (first | refine blk_drewN ?_ _ | refine blk_drew ?_ | refine blk_alloc ?_ _)); exact BK195.out⟩, ⟨by repeat (first | (with_reducible first | exact HB.out | apply below_alloc | apply pw_below_drewN | apply below_drew1 | refine below_set ?_ GE195.out) | exact HB.out)⟩⟩
              ·
               as_aux_lemma =>
               rw [if_neg c77] at H
               have c77b0 : (((rd_T44 l0_0 x6_3).f1) == 1) = false := beq_eq_false_iff_ne.mpr c77
               have c77b1 : (((rd_T44 l0_0 x6_3).f1) != 1) = true := bne_iff_ne.mpr c77
               have H' := Aside0.mk H
               clear H
               have hcz79_0 : w61.cell? ⟨gb195, 0, none⟩ = some (.slice (some ad204) l0_0.length c0_0) := (blk_cell BK195.out 0).trans rfl
               have hcz79_1 : w61.cell? ⟨gb195, 1, none⟩ = some (.int .i64 a0_1) := (blk_cell BK195.out 1).trans rfl
               have hcz79_2 : w61.cell? ⟨gb195, 2, none⟩ = some (.int .i64 a0_2) := (blk_cell BK195.out 2).trans rfl
               have hcz79_3 : w61.cell? ⟨gb195, 3, none⟩ = some (.int .i64 a0_3) := (blk_cell BK195.out 3).trans rfl
               have hfz79_0 := blk_frozen BK195.out 0
               have hfz79_1 := blk_frozen BK195.out 1
               have hfz79_2 := blk_frozen BK195.out 2
               have hfz79_3 := blk_frozen BK195.out 3
               have p209 : 0 ≤ (x6_3 : Int) := of_decide_eq_true (by first | (with_reducible assumption) | assumption)
               have q209 : x6_3 < (l0_0.length : Int) := of_decide_eq_true (by first | (with_reducible assumption) | assumption)
               obtain ⟨ad209, A209_6, c209_6, e209, hx209_0, hx209_1, hx209_2, hx209_3, hx209_4, hx209_5, hx209_6, hl209_6, hi209_6⟩ := at_T44 HR0_0.out x6_3 p209 q209
               obtain rfl : ad204 = ad209 := (by injection e209)
               replace hx209_0 := (HB.out.cell (World.block_lt_of_cell? w _ hx209_0)).trans hx209_0
               replace hx209_1 := (HB.out.cell (World.block_lt_of_cell? w _ hx209_1)).trans hx209_1
               replace hx209_2 := (HB.out.cell (World.block_lt_of_cell? w _ hx209_2)).trans hx209_2
               replace hx209_3 := (HB.out.cell (World.block_lt_of_cell? w _ hx209_3)).trans hx209_3
               replace hx209_4 := (HB.out.cell (World.block_lt_of_cell? w _ hx209_4)).trans hx209_4
               replace hx209_5 := (HB.out.cell (World.block_lt_of_cell? w _ hx209_5)).trans hx209_5
               replace hx209_6 := (HB.out.cell (World.block_lt_of_cell? w _ hx209_6)).trans hx209_6
               have HR209_6 := Aside0.mk hi209_6
               have HC209_6 := Aside0.mk hl209_6
               clear hi209_6 hl209_6
               replace p209 := eq_true p209
               replace q209 := eq_true q209
               go_wp2
               go_meet
               case rel => exact ⟨_, (false), (by first | rfl | (simp; done) | (simp [*]; done)), H', ⟨by have := HJ1.out; have := HK2.out; have := HK3.out; first | omega | exact Nat.le_refl _⟩, ⟨by (with_reducible repeat (first | refine blk_drewN ?_ _ | refine blk_drew ?_ | refine blk_alloc ?_ _)); exact BK195.out⟩, ⟨by repeat (first | (with_reducible first | exact HB.out | apply below_alloc | apply pw_below_drewN | apply below_drew1 | refine below_set ?_ GE195.out) | exact HB.out)⟩⟩
           case rest =>
            clear HC58
            try clear c1
            try clear c2
            try clear p2
            try clear q2
            try clear hx2
            try clear c3
            try clear c4
            try clear c5
            try clear c6
            try clear p6
            try clear c7
            try clear c13
            try clear c13b0
            try clear c14
            try clear c19
            try clear c20
            try clear p20
            try clear q20
            try clear hx20
            try clear c21
            try clear c26
            try clear c26b0
            try clear c28
            try clear c29
            try clear c34
            try clear c39
            try clear c40
            try clear c40b0
            try clear c41
            try clear c41b0
            try clear c43
            try clear c43b0
            try clear c44
            try clear c48
            try clear c52
            try clear c55
            try clear c55b0
            try clear c56
            try clear c56b0
            try clear c62
            try clear c62b0
            try clear c62b1
            try clear c63
            try clear c63b0
            try clear c64
            try clear c64b0
            try clear p64
            try clear c65
            try clear c65b0
            try clear c65b1
            try clear c66
            try clear c66b0
            try clear c66b1
            try clear c69
            try clear c69b0
            try clear c69b1
            try clear c72
            try clear c72b0
            try clear c73
            try clear c73b0
            try clear c73b1
            try clear c74
            try clear c74b0
            try clear c74b1
            try clear c77
            try clear c77b0
            try clear c77b1
            try clear hcz45_0
            try clear hcz45_1
            try clear hcz45_2
            try clear hcz45_3
            try clear hcz45_4
            try clear hcz45_5
            try clear hcz45_6
            try clear hcz49_0
            try clear hcz49_1
            try clear hcz49_2
            try clear hcz49_3
            try clear hcz49_4
            try clear hcz49_5
            try clear hcz49_6
            try clear hcz53_0
            try clear hcz53_1
            try clear hcz53_2
            try clear hcz53_3
            try clear hcz53_4
            try clear hcz53_5
            try clear hcz53_6
            try clear hcz54_0
            try clear hcz54_1
            try clear hcz54_2
            try clear hcz54_3
            try clear hcz59_0
            try clear hcz59_1
            try clear hcz59_2
            try clear hcz59_3
            try clear hcz67_0
            try clear hcz67_1
            try clear hcz67_2
            try clear hcz67_3
            try clear hcz68_0
            try clear hcz68_1
            try clear hcz68_2
            try clear hcz68_3
            try clear hcz70_0
            try clear hcz70_1
            try clear hcz70_2
            try clear hcz70_3
            try clear hcz71_0
            try clear hcz71_1
            try clear hcz71_2
            try clear hcz71_3
            try clear hcz75_0
            try clear hcz75_1
            try clear hcz75_2
            try clear hcz75_3
            try clear hcz76_0
            try clear hcz76_1
            try clear hcz76_2
            try clear hcz76_3
            try clear hcz78_0
            try clear hcz78_1
            try clear hcz78_2
            try clear hcz78_3
            try clear hcz79_0
            try clear hcz79_1
            try clear hcz79_2
            try clear hcz79_3
            try clear hfz45_0
            try clear hfz45_1
            try clear hfz45_2
            try clear hfz45_3
            try clear hfz45_4
            try clear hfz45_5
            try clear hfz45_6
            try clear hfz49_0
            try clear hfz49_1
            try clear hfz49_2
            try clear hfz49_3
            try clear hfz49_4
            try clear hfz49_5
            try clear hfz49_6
            try clear hfz53_0
            try clear hfz53_1
            try clear hfz53_2
            try clear hfz53_3
            try clear hfz53_4
            try clear hfz53_5
            try clear hfz53_6
            try clear hfz54_0
            try clear hfz54_1
            try clear hfz54_2
            try clear hfz54_3
            try clear hfz59_0
            try clear hfz59_1
            try clear hfz59_2
            try clear hfz59_3
            try clear hfz67_0
            try clear hfz67_1
            try clear hfz67_2
            try clear hfz67_3
            try clear hfz68_0
            try clear hfz68_1
            try clear hfz68_2
            try clear hfz68_3
            try clear hfz70_0
            try clear hfz70_1
            try clear hfz70_2
            try clear hfz70_3
            try clear hfz71_0
            try clear hfz71_1
            try clear hfz71_2
            try clear hfz71_3
            try clear hfz75_0
            try clear hfz75_1
            try clear hfz75_2
            try clear hfz75_3
            try clear hfz76_0
            try clear hfz76_1
            try clear hfz76_2
            try clear hfz76_3
            try clear hfz78_0
            try clear hfz78_1
            try clear hfz78_2
            try clear hfz78_3
            try clear hfz79_0
            try clear hfz79_1
            try clear hfz79_2
            try clear hfz79_3
            try clear hx202_0
            try clear hx202_1
            try clear hx204_0
            try clear hx204_1
            try clear hx204_2
            try clear hx204_3
            try clear hx204_4
            try clear hx204_5
            try clear hx204_6
            try clear hx206_0
            try clear hx206_1
            try clear hx206_2
            try clear hx206_3
            try clear hx206_4
            try clear hx206_5
            try clear hx206_6
            try clear hx207_0
            try clear hx207_1
            try clear hx207_2
            try clear hx207_3
            try clear hx207_4
            try clear hx207_5
            try clear hx207_6
            try clear hx208_0
            try clear hx208_1
            try clear hx208_2
            try clear hx208_3
            try clear hx208_4
            try clear hx208_5
            try clear hx208_6
            try clear hx209_0
            try clear hx209_1
            try clear hx209_2
            try clear hx209_3
            try clear hx209_4
            try clear hx209_5
            try clear hx209_6
            try clear p2
            try clear p20
            try clear p202
            try clear p204
            try clear p206
            try clear p207
            try clear p208
            try clear p209
            try clear p6
            try clear q2
            try clear q20
            try clear q202
            try clear q204
            try clear q206
            try clear q207
            try clear q208
            try clear q209
            obtain ⟨kq, x129_57, rfl, HA, HJ57, BK195, HB⟩ := hcut
            cases kq with
            | zero => exact absurd HA.out (by simp [rehearsalref04_Check.j5])
            | succ kj57 =>
             have H := HA.out
             clear HA
             simp only [rehearsalref04_Check.j5] at H
             by_cases c80 : x129_57 = true
             ·
              subst c80
              have H1 : (some 80) = some r := by rw [if_pos rfl] at H; exact H
              clear H
              have H := H1
              clear H1
              obtain rfl := Option.some.inj H
              go_wp2
              go_ret
              exact ⟨by first | rfl | (simp [errW_none, errW_some] <;> rfl) | (simp [*, errW_none, errW_some] <;> rfl), by repeat (first | (with_reducible first | exact HB.out | apply below_alloc | apply pw_below_drewN | apply below_drew1 | refine below_set ?_ GE195.out) | exact HB.out)⟩
             ·
              replace c80 := Bool.eq_false_iff.mpr c80
              subst c80
              have H1 : (rehearsalref04_Check.l2 kj57 (wrap64 (x6_3 + 1)) l0_0 a0_1 a0_2 a0_3) = some r := by rw [if_neg (show ¬ (false = true) by decide)] at H; exact H
              clear H
              have H := H1
              clear H1
              have H' := Aside0.mk H
              clear H
              go_wp2
              go_roundg kj57
              case measure => have := HJ1.out; have := HK2.out; have := HK3.out; have := HJ57.out; omega
              case rel => exact ⟨(wrap64 (x6_3 + 1)), (by first | rfl | (simp; done) | (simp [*]; done)), H', ⟨by have := HJ1.out; have := HK2.out; have := HK3.out; have := HJ57.out; omega⟩, ⟨by (with_reducible repeat (first | refine blk_drewN ?_ _ | refine blk_drew ?_ | refine blk_alloc ?_ _)); exact BK195.out⟩, ⟨by repeat (first | (with_reducible first | exact HB.out | apply below_alloc | apply pw_below_drewN | apply below_drew1 | refine below_set ?_ GE195.out) | exact HB.out)⟩⟩
          ·
           as_aux_lemma =>
           rw [if_neg c56] at H
           exact absurd H (by simp)
         ·
          as_aux_lemma =>
          rw [if_neg c55] at H
          have c55b0 : decide (x6_3 < (l0_0.length : Int)) = false := decide_eq_false c55
          clear c55
          replace H := Option.bind_eq_some_iff.mp H
          obtain ⟨t210, A810, H⟩ := H
          replace H : (if (t210.length : Int) = (l0_0.length : Int) then (some 0) else (some 80)) = some r := H
          have A81 := Aside0.mk A810
          clear A810
          by_cases c82 : (t210.length : Int) = (l0_0.length : Int)
          ·
           as_aux_lemma =>
           rw [if_pos c82] at H
           have c82b0 : ((t210.length : Int) == (l0_0.length : Int)) = true := beq_iff_eq.mpr c82
           have c82b1 : ((t210.length : Int) != (l0_0.length : Int)) = false := bne_eq_false_iff_eq.mpr c82
           have c82b2 : (t210.length == l0_0.length) = true := by first | simpa using c82 | (simp at c82 ⊢; omega)
           clear c82
           obtain rfl := Option.some.inj H
           have hcz83_0 : wr.cell? ⟨gb195, 0, none⟩ = some (.slice A0_0 l0_0.length c0_0) := (blk_cell BK195.out 0).trans rfl
           have hcz83_1 : wr.cell? ⟨gb195, 1, none⟩ = some (.int .i64 a0_1) := (blk_cell BK195.out 1).trans rfl
           have hcz83_2 : wr.cell? ⟨gb195, 2, none⟩ = some (.int .i64 a0_2) := (blk_cell BK195.out 2).trans rfl
           have hcz83_3 : wr.cell? ⟨gb195, 3, none⟩ = some (.int .i64 a0_3) := (blk_cell BK195.out 3).trans rfl
           have hfz83_0 := blk_frozen BK195.out 0
           have hfz83_1 := blk_frozen BK195.out 1
           have hfz83_2 := blk_frozen BK195.out 2
           have hfz83_3 := blk_frozen BK195.out 3
           try go_wp2
           have n0_ := Aside0.mk (blk_drew BK195.out)
           have n1_ := Aside0.mk (below_drew1 HB.out)
           clear BK195
           clear HB
           have BK195 := n0_
           have HB := n1_
           clear n0_ n1_
           refine start_ (n := 7) (S := fun w' => w'.cell? ⟨gb195, 0, none⟩ = some (.slice A0_0 l0_0.length c0_0) ∧ w'.cell? ⟨gb195, 1, none⟩ = some (.int .i64 a0_1) ∧ w'.cell? ⟨gb195, 2, none⟩ = some (.int .i64 a0_2) ∧ w'.cell? ⟨gb195, 3, none⟩ = some (.int .i64 a0_3)) (ds := []) #[false, false, false, false, false, false, false] (by kernel_rfl) rfl rfl ⟨(blk_cell BK195.out 0).trans rfl, (blk_cell BK195.out 1).trans rfl, (blk_cell BK195.out 2).trans rfl, (blk_cell BK195.out 3).trans rfl⟩ (fun hHeld => ?_)
           generalize wr.drew = w84 at BK195 HB hHeld ⊢
           iterate 4 (((first | refine takeS_ 3 (N := some 133) (v := ?_) (a' := ?_) rfl rfl (by decide +kernel) (fun _ _ _ h => h) (Or.inl ⟨by rfl, ?_⟩) hHeld ?_ ?_ | refine takeS_ 0 (N := some 130) (v := ?_) (a' := ?_) rfl rfl (by decide +kernel) (fun _ _ _ h => h) (Or.inl ⟨by rfl, ?_⟩) hHeld ?_ ?_ | refine takeS_ 4 (N := some 134) (v := ?_) (a' := ?_) rfl rfl (by decide +kernel) (fun _ _ _ h => h) (Or.inl ⟨by rfl, ?_⟩) hHeld ?_ ?_ | refine takeS_ 5 (N := some 135) (v := ?_) (a' := ?_) rfl rfl (by decide +kernel) (fun _ _ _ h => h) (Or.inl ⟨by rfl, ?_⟩) hHeld ?_ ?_); rotate_left; (rintro w' ⟨s0, s1, s2, s3⟩; go_simp; first | done | (with_reducible rfl) | rfl); rotate_left; (simp only [Act.put, List.setIfInBounds_toArray, List.set_cons_zero, List.set_cons_succ, i64_w, i32_w]; rfl)))
           refine one_ (i := 1) (N := some 131) #[true, true, false, true, true, true, false] rfl rfl (by kernel_rfl) (by decide) (fun K hK => ?_)
           refine goes_ Tryd.func62 (by kernel_rfl) rfl #[.agg #[.slice A0_0 l0_0.length c0_0, .int .i64 a0_1, .int .i64 a0_2, .int .i64 a0_3], .int .i64 1, .string (⟨#[47]⟩ : ByteArray), .slice none 0 0] (by rfl) rfl rfl (by (try simp only [List.map_toArray, List.map_cons, List.map_nil]); first | done | rfl | (simp only [List.length_drop, List.length_take]; rfl)) ?_
           refine (rehearsalref04_Way.calls k3 _ _ l0_0 a0_1 a0_2 a0_3 1 (⟨#[47]⟩ : ByteArray) (fun k_ => some k_ = (.slice none 0 0 : Value).ownBlock) (.slice none 0 0) ([] : List (S87)) t210 w _ ?side1 ?side2 ?side3 ?side4 A81.out).mono ?_
           (case side1 => repeat (first | (with_reducible first | exact HB.out | apply below_alloc | apply pw_below_drewN | apply below_drew1 | refine below_set ?_ GE195.out) | exact HB.out))
           (case side2 => exact Kd.C_kept_came k44_heap HR0_0.out (by repeat (first | (with_reducible first | exact HB.out | apply below_alloc | apply pw_below_drewN | apply below_drew1 | refine below_set ?_ GE195.out) | exact HB.out)) (fun k_ hs_ => (fun e_ => by simp [Value.ownBlock] at e_) hs_))
           (case side3 => exact HC0_0.out)
           (case side4 => exact Kd.R_nil _ _ _ _ _)
           rintro e w85 ⟨v211, rfl, ho0, hb, hkp⟩
           refine ⟨_, rfl, ?_⟩
           have n0_ := Aside0.mk (blk_kept (by (with_reducible repeat (first | refine blk_drewN ?_ _ | refine blk_drew ?_ | refine blk_alloc ?_ _)); exact BK195.out) hkp (fun hs_ => (fun e_ => by simp [Value.ownBlock] at e_) hs_))
           have n1_ := Aside0.mk (Kd.R_mono (ok' := fun k_ => True) ho0 (fun k_ hk_ => trivial))
           have n2_ := Aside0.mk (hb)
           clear BK195
           clear HB
           have BK195 := n0_
           have HO212 := n1_
           have HB := n2_
           clear n0_ n1_ n2_
           (try clear hb)
           (try clear hkp)
           (try clear ho0)
           obtain ⟨Ao86, co86, eo86⟩ := Kd.R_slice HO212.out
           (first | subst eo86 | (injection eo86 with f1_ f2_ f3_; have f4_ := f1_.symm; have f5_ := f3_.symm; clear f1_ f2_ f3_; subst f4_; subst f5_))
           refine hK.out _ _ ⟨(blk_cell BK195.out 0).trans rfl, (blk_cell BK195.out 1).trans rfl, (blk_cell BK195.out 2).trans rfl, (blk_cell BK195.out 3).trans rfl⟩ (fun hHeld => ?_)
           clear hK K
           refine norm_ (a' := ?_) ?_ ?_
           rotate_left
           ·
            show Act.put _ (some 131) _ = _
            simp only [Act.put, List.setIfInBounds_toArray, List.set_cons_zero, List.set_cons_succ, i64_w, i32_w]
            rfl
           iterate 2 (((first | refine pureS_ 2 (N := some 132) (v := ?_) (a' := ?_) rfl rfl (by decide +kernel) (fun _ _ _ h => h) (Or.inl ⟨by rfl, ?_⟩) ?_ ?_ | refine pureS_ 6 (N := some 136) (v := ?_) (a' := ?_) rfl rfl (by decide +kernel) (fun _ _ _ h => h) (Or.inl ⟨by rfl, ?_⟩) ?_ ?_); rotate_left; (intro w'; go_simp; first | done | (with_reducible rfl) | rfl); rotate_left; (simp only [Act.put, List.setIfInBounds_toArray, List.set_cons_zero, List.set_cons_succ, i64_w, i32_w]; rfl)))
           refine done_ (by kernel_rfl) ?_
           try go_wp2
           go_ret
           exact ⟨by first | rfl | (simp [errW_none, errW_some] <;> rfl) | (simp [*, errW_none, errW_some] <;> rfl), by repeat (first | (with_reducible first | exact HB.out | apply below_alloc | apply pw_below_drewN | apply below_drew1 | refine below_set ?_ GE195.out) | exact HB.out)⟩
          ·
           as_aux_lemma =>
           rw [if_neg c82] at H
           have c82b0 : ((t210.length : Int) == (l0_0.length : Int)) = false := beq_eq_false_iff_ne.mpr c82
           have c82b1 : ((t210.length : Int) != (l0_0.length : Int)) = true := bne_iff_ne.mpr c82
           have c82b2 : (t210.length == l0_0.length) = false := by first | simpa using c82 | (simp at c82 ⊢; omega)
           obtain rfl := Option.some.inj H
           have hcz87_0 : wr.cell? ⟨gb195, 0, none⟩ = some (.slice A0_0 l0_0.length c0_0) := (blk_cell BK195.out 0).trans rfl
           have hcz87_1 : wr.cell? ⟨gb195, 1, none⟩ = some (.int .i64 a0_1) := (blk_cell BK195.out 1).trans rfl
           have hcz87_2 : wr.cell? ⟨gb195, 2, none⟩ = some (.int .i64 a0_2) := (blk_cell BK195.out 2).trans rfl
           have hcz87_3 : wr.cell? ⟨gb195, 3, none⟩ = some (.int .i64 a0_3) := (blk_cell BK195.out 3).trans rfl
           have hfz87_0 := blk_frozen BK195.out 0
           have hfz87_1 := blk_frozen BK195.out 1
           have hfz87_2 := blk_frozen BK195.out 2
           have hfz87_3 := blk_frozen BK195.out 3
           try go_wp2
           have n0_ := Aside0.mk (blk_drew BK195.out)
           have n1_ := Aside0.mk (below_drew1 HB.out)
           clear BK195
           clear HB
           have BK195 := n0_
           have HB := n1_
           clear n0_ n1_
           refine start_ (n := 7) (S := fun w' => w'.cell? ⟨gb195, 0, none⟩ = some (.slice A0_0 l0_0.length c0_0) ∧ w'.cell? ⟨gb195, 1, none⟩ = some (.int .i64 a0_1) ∧ w'.cell? ⟨gb195, 2, none⟩ = some (.int .i64 a0_2) ∧ w'.cell? ⟨gb195, 3, none⟩ = some (.int .i64 a0_3)) (ds := []) #[false, false, false, false, false, false, false] (by kernel_rfl) rfl rfl ⟨(blk_cell BK195.out 0).trans rfl, (blk_cell BK195.out 1).trans rfl, (blk_cell BK195.out 2).trans rfl, (blk_cell BK195.out 3).trans rfl⟩ (fun hHeld => ?_)
           generalize wr.drew = w88 at BK195 HB hHeld ⊢
           iterate 4 (((first | refine takeS_ 3 (N := some 133) (v := ?_) (a' := ?_) rfl rfl (by decide +kernel) (fun _ _ _ h => h) (Or.inl ⟨by rfl, ?_⟩) hHeld ?_ ?_ | refine takeS_ 0 (N := some 130) (v := ?_) (a' := ?_) rfl rfl (by decide +kernel) (fun _ _ _ h => h) (Or.inl ⟨by rfl, ?_⟩) hHeld ?_ ?_ | refine takeS_ 4 (N := some 134) (v := ?_) (a' := ?_) rfl rfl (by decide +kernel) (fun _ _ _ h => h) (Or.inl ⟨by rfl, ?_⟩) hHeld ?_ ?_ | refine takeS_ 5 (N := some 135) (v := ?_) (a' := ?_) rfl rfl (by decide +kernel) (fun _ _ _ h => h) (Or.inl ⟨by rfl, ?_⟩) hHeld ?_ ?_); rotate_left; (rintro w' ⟨s0, s1, s2, s3⟩; go_simp; first | done | (with_reducible rfl) | rfl); rotate_left; (simp only [Act.put, List.setIfInBounds_toArray, List.set_cons_zero, List.set_cons_succ, i64_w, i32_w]; rfl)))
           refine one_ (i := 1) (N := some 131) #[true, true, false, true, true, true, false] rfl rfl (by kernel_rfl) (by decide) (fun K hK => ?_)
           refine goes_ Tryd.func62 (by kernel_rfl) rfl #[.agg #[.slice A0_0 l0_0.length c0_0, .int .i64 a0_1, .int .i64 a0_2, .int .i64 a0_3], .int .i64 1, .string (⟨#[47]⟩ : ByteArray), .slice none 0 0] (by rfl) rfl rfl (by (try simp only [List.map_toArray, List.map_cons, List.map_nil]); first | done | rfl | (simp only [List.length_drop, List.length_take]; rfl)) ?_
           refine (rehearsalref04_Way.calls k3 _ _ l0_0 a0_1 a0_2 a0_3 1 (⟨#[47]⟩ : ByteArray) (fun k_ => some k_ = (.slice none 0 0 : Value).ownBlock) (.slice none 0 0) ([] : List (S87)) t210 w _ ?side1 ?side2 ?side3 ?side4 A81.out).mono ?_
           (case side1 => repeat (first | (with_reducible first | exact HB.out | apply below_alloc | apply pw_below_drewN | apply below_drew1 | refine below_set ?_ GE195.out) | exact HB.out))
           (case side2 => exact Kd.C_kept_came k44_heap HR0_0.out (by repeat (first | (with_reducible first | exact HB.out | apply below_alloc | apply pw_below_drewN | apply below_drew1 | refine below_set ?_ GE195.out) | exact HB.out)) (fun k_ hs_ => (fun e_ => by simp [Value.ownBlock] at e_) hs_))
           (case side3 => exact HC0_0.out)
           (case side4 => exact Kd.R_nil _ _ _ _ _)
           rintro e w89 ⟨v211, rfl, ho0, hb, hkp⟩
           refine ⟨_, rfl, ?_⟩
           have n0_ := Aside0.mk (blk_kept (by (with_reducible repeat (first | refine blk_drewN ?_ _ | refine blk_drew ?_ | refine blk_alloc ?_ _)); exact BK195.out) hkp (fun hs_ => (fun e_ => by simp [Value.ownBlock] at e_) hs_))
           have n1_ := Aside0.mk (Kd.R_mono (ok' := fun k_ => True) ho0 (fun k_ hk_ => trivial))
           have n2_ := Aside0.mk (hb)
           clear BK195
           clear HB
           have BK195 := n0_
           have HO212 := n1_
           have HB := n2_
           clear n0_ n1_ n2_
           (try clear hb)
           (try clear hkp)
           (try clear ho0)
           obtain ⟨Ao90, co90, eo90⟩ := Kd.R_slice HO212.out
           (first | subst eo90 | (injection eo90 with f1_ f2_ f3_; have f4_ := f1_.symm; have f5_ := f3_.symm; clear f1_ f2_ f3_; subst f4_; subst f5_))
           refine hK.out _ _ ⟨(blk_cell BK195.out 0).trans rfl, (blk_cell BK195.out 1).trans rfl, (blk_cell BK195.out 2).trans rfl, (blk_cell BK195.out 3).trans rfl⟩ (fun hHeld => ?_)
           clear hK K
           refine norm_ (a' := ?_) ?_ ?_
           rotate_left
           ·
            show Act.put _ (some 131) _ = _
            simp only [Act.put, List.setIfInBounds_toArray, List.set_cons_zero, List.set_cons_succ, i64_w, i32_w]
            rfl
           iterate 2 (((first | refine pureS_ 2 (N := some 132) (v := ?_) (a' := ?_) rfl rfl (by decide +kernel) (fun _ _ _ h => h) (Or.inl ⟨by rfl, ?_⟩) ?_ ?_ | refine pureS_ 6 (N := some 136) (v := ?_) (a' := ?_) rfl rfl (by decide +kernel) (fun _ _ _ h => h) (Or.inl ⟨by rfl, ?_⟩) ?_ ?_); rotate_left; (intro w'; go_simp; first | done | (with_reducible rfl) | rfl); rotate_left; (simp only [Act.put, List.setIfInBounds_toArray, List.set_cons_zero, List.set_cons_succ, i64_w, i32_w]; rfl)))
           refine done_ (by kernel_rfl) ?_
           try go_wp2
           go_ret
           exact ⟨by first | rfl | (simp [errW_none, errW_some] <;> rfl) | (simp [*, errW_none, errW_some] <;> rfl), by repeat (first | (with_reducible first | exact HB.out | apply below_alloc | apply pw_below_drewN | apply below_drew1 | refine below_set ?_ GE195.out) | exact HB.out)⟩
end Go.Proofs.YtnpnablnnfekkaaDoor.PTr
