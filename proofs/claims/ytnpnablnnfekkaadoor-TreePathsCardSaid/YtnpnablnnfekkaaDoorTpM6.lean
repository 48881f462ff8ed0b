/- Texts of this claim's proof: small lemmas, walks and plain laws (merged by wip/shake.py). -/
import Derived.Test.YtnpnablnnfekkaaDoorTpM1
import Derived.Test.YtnpnablnnfekkaaDoorTpM4
import Derived.Test.YtnpnablnnfekkaaDoorTpM5
namespace Go.Proofs.YtnpnablnnfekkaaDoor.PTr
open Go.RowKit Go.Proofs.YtnpnablnnfekkaaDoorW.PrintWords Go.Proofs.YtnpnablnnfekkaaDoorW.PrintLast Go.Proofs.YtnpnablnnfekkaaDoorW.PrintMore
attribute [local go_sem] max2_int min2_int max_two min_two max_three min_three max_four min_four   -- for this text's walks alone
set_option linter.unusedVariables false
set_option linter.unusedSimpArgs false
attribute [local go_sem high] eqA24
def rehearsalref04_Exact.f (k : Nat) (l0_0 : List (S44)) (a0_1 : Int) (a0_2 : Int) (a0_3 : Int) (l1_0 : List (S44)) (a1_1 : Int) (a1_2 : Int) (a1_3 : Int) : Option (Bool) := if a0_1 = a1_1 then (if (a0_2 == a1_2 && (a0_3 == a1_3)) = true then ((rehearsalref04_Nodes.f k l0_0 l1_0).bind fun t222 => (some t222)) else (some false)) else (some false)
set_option maxHeartbeats 8000000 in
set_option maxRecDepth 100000 in
theorem rehearsalref04_Exact.calls (k : Nat) (A0_0 : Option Addr) (c0_0 : Nat) (l0_0 : List (S44)) (a0_1 : Int) (a0_2 : Int) (a0_3 : Int) (A1_0 : Option Addr) (c1_0 : Nat) (l1_0 : List (S44)) (a1_1 : Int) (a1_2 : Int) (a1_3 : Int) (r : Bool) (w : World) (hr0_0 : Kd.C k44 w A0_0 l0_0.length l0_0) (hc0_0 : l0_0.length ≤ c0_0) (hr1_0 : Kd.C k44 w A1_0 l1_0.length l1_0) (hc1_0 : l1_0.length ≤ c1_0) (h : rehearsalref04_Exact.f k l0_0 a0_1 a0_2 a0_3 l1_0 a1_1 a1_2 a1_3 = some r) :
  Calls Tryd.prog 19 #[.agg #[.slice A0_0 l0_0.length c0_0, .int .i64 a0_1, .int .i64 a0_2, .int .i64 a0_3], .agg #[.slice A1_0 l1_0.length c1_0, .int .i64 a1_1, .int .i64 a1_2, .int .i64 a1_3]] w fun e w' => e = .returned (.bool r) ∧ Below w.heap.size w w' := by
 have hu26 := Tryd.underlying26
 have hu24 := Tryd.underlying24
 have HR0_0 := Aside0.mk hr0_0
 have HC0_0 := Aside0.mk hc0_0
 clear hr0_0 hc0_0
 have HR1_0 := Aside0.mk hr1_0
 have HC1_0 := Aside0.mk hc1_0
 clear hr1_0 hc1_0
 have HB := Aside0.mk (Below.refl w.heap.size w)
 have H : (if a0_1 = a1_1 then (if (a0_2 == a1_2 && (a0_3 == a1_3)) = true then ((rehearsalref04_Nodes.f k l0_0 l1_0).bind fun t222 => (some t222)) else (some false)) else (some false)) = some r := h
 clear h
 by_cases c3 : a0_1 = a1_1
 ·
  rw [if_pos c3] at H
  have c3b0 : (a0_1 == a1_1) = true := beq_iff_eq.mpr c3
  have c3b1 : (a0_1 != a1_1) = false := bne_eq_false_iff_eq.mpr c3
  clear c3
  by_cases c4 : (a0_2 == a1_2 && (a0_3 == a1_3)) = true
  ·
   rw [if_pos c4] at H
   have c4b0 : (a0_2 == a1_2 && (a0_3 == a1_3)) = true := c4
   (try (have c4b1 : decide (a0_2 = a1_2 && (a0_3 == a1_3)) = true := by simpa using c4))
   (try (have c4b2 : (a0_2 == a1_2 && (a0_3 == a1_3)) = true := by simpa using c4))
   clear c4
   replace H := Option.bind_eq_some_iff.mp H
   obtain ⟨t222, A50, H⟩ := H
   replace H : (some t222) = some r := H
   have A5 := Aside0.mk A50
   clear A50
   obtain rfl := Option.some.inj H
   go_enter Tryd.func19, Tryd.ntmps19
   go_wp2_with (first | ((with_reducible refine gate_dst (N := 2) rfl ?_); refine box_event ?hg (N := 2) ?hd (cs := #[.slice A0_0 l0_0.length c0_0, .int .i64 a0_1, .int .i64 a0_2, .int .i64 a0_3]) (t := 26) ?hr ?_; (case hd => rfl); (case hg => rfl); (case hr => first | (go_simp; done) | (go_simp; rfl)); intro gb220 hg w6 hbox hb; have n0_ := Aside0.mk (below_step (by repeat (first | (with_reducible first | exact HB.out | apply below_alloc | apply pw_below_drewN | apply below_drew1) | exact HB.out)) hb); have n1_ := Aside0.mk (hbox); have n2_ := Aside0.mk ((by rw [hg]; exact (below_size (by repeat (first | (with_reducible first | exact HB.out | apply below_alloc | apply pw_below_drewN | apply below_drew1) | exact HB.out))) : w.heap.size ≤ gb220)); have n3_ := Aside0.mk ((by rw [hg]; exact (below_size (by repeat (first | (with_reducible first | exact HB.out | apply below_alloc | apply pw_below_drewN | apply below_drew1) | exact HB.out))) : w.heap.size ≤ gb220)); clear HB; have HB := n0_; have BK220 := n1_; have GW220 := n2_; have GE220 := n3_; clear n0_ n1_ n2_ n3_; clear hb hbox hg) | ((with_reducible refine gate_dst (N := 3) rfl ?_); refine box_event ?hg (N := 3) ?hd (cs := #[.slice A1_0 l1_0.length c1_0, .int .i64 a1_1, .int .i64 a1_2, .int .i64 a1_3]) (t := 26) ?hr ?_; (case hd => rfl); (case hg => rfl); (case hr => first | (go_simp; done) | (go_simp; rfl)); intro gb221 hg w7 hbox hb; have n0_ := Aside0.mk (blk_below (g := gb220) (o := .cells #[.slice A0_0 l0_0.length c0_0, .int .i64 a0_1, .int .i64 a0_2, .int .i64 a0_3] 26 (0, 0)) (by (with_reducible repeat (first | refine blk_drewN ?_ _ | refine blk_drew ?_ | refine blk_alloc ?_ _)); exact BK220.out) hb); have n1_ := Aside0.mk (below_step (by repeat (first | (with_reducible first | exact HB.out | apply below_alloc | apply pw_below_drewN | apply below_drew1 | refine below_set ?_ GE220.out) | exact HB.out)) hb); have n2_ := Aside0.mk (hbox); have n3_ := Aside0.mk ((by rw [hg]; exact (below_size (by repeat (first | (with_reducible first | exact HB.out | apply below_alloc | apply pw_below_drewN | apply below_drew1 | refine below_set ?_ GE220.out) | exact HB.out))) : w.heap.size ≤ gb221)); have n4_ := Aside0.mk ((by rw [hg]; exact (below_size (by repeat (first | (with_reducible first | exact HB.out | apply below_alloc | apply pw_below_drewN | apply below_drew1 | refine below_set ?_ GE220.out) | exact HB.out))) : w.heap.size ≤ gb221)); have n5_ := Aside0.mk ((by rw [hg]; exact Nat.ne_of_lt (blk_lt (g := gb220) (o := .cells #[.slice A0_0 l0_0.length c0_0, .int .i64 a0_1, .int .i64 a0_2, .int .i64 a0_3] 26 (0, 0)) (by (with_reducible repeat (first | refine blk_drewN ?_ _ | refine blk_drew ?_ | refine blk_alloc ?_ _)); exact BK220.out)) : gb220 ≠ gb221)); have n6_ := Aside0.mk ((by rw [hg]; exact Nat.ne_of_gt (blk_lt (g := gb220) (o := .cells #[.slice A0_0 l0_0.length c0_0, .int .i64 a0_1, .int .i64 a0_2, .int .i64 a0_3] 26 (0, 0)) (by (with_reducible repeat (first | refine blk_drewN ?_ _ | refine blk_drew ?_ | refine blk_alloc ?_ _)); exact BK220.out)) : gb221 ≠ gb220)); clear BK220; clear HB; have BK220 := n0_; have HB := n1_; have BK221 := n2_; have GW221 := n3_; have GE221 := n4_; have NB220_221 := n5_; have NB221_220 := n6_; clear n0_ n1_ n2_ n3_ n4_ n5_ n6_; clear hb hbox hg; have hnb8 := NB220_221.out; have hnc8 := NB221_220.out; have hcz9_0 : w7.cell? ⟨gb220, 0, none⟩ = some (.slice A0_0 l0_0.length c0_0) := (blk_cell BK220.out 0).trans rfl; have hcz9_1 : w7.cell? ⟨gb220, 1, none⟩ = some (.int .i64 a0_1) := (blk_cell BK220.out 1).trans rfl; have hcz9_2 : w7.cell? ⟨gb220, 2, none⟩ = some (.int .i64 a0_2) := (blk_cell BK220.out 2).trans rfl; have hcz9_3 : w7.cell? ⟨gb220, 3, none⟩ = some (.int .i64 a0_3) := (blk_cell BK220.out 3).trans rfl; have hfz9_0 := blk_frozen BK220.out 0; have hfz9_1 := blk_frozen BK220.out 1; have hfz9_2 := blk_frozen BK220.out 2; have hfz9_3 := blk_frozen BK220.out 3; have hcz10_0 : w7.cell? ⟨gb221, 0, none⟩ = some (.slice A1_0 l1_0.length c1_0) := (blk_cell BK221.out 0).trans rfl; have hcz10_1 : w7.cell? ⟨gb221, 1, none⟩ = some (.int .i64 a1_1) := (blk_cell BK221.out 1).trans rfl; have hcz10_2 : w7.cell? ⟨gb221, 2, none⟩ = some (.int .i64 a1_2) := (blk_cell BK221.out 2).trans rfl; have hcz10_3 : w7.cell? ⟨gb221, 3, none⟩ = some (.int .i64 a1_3) := (blk_cell BK221.out 3).trans rfl; have hfz10_0 := blk_frozen BK221.out 0; have hfz10_1 := blk_frozen BK221.out 1; have hfz10_2 := blk_frozen BK221.out 2; have hfz10_3 := blk_frozen BK221.out 3) | (go_at_call 63; (with_reducible refine (rehearsalref04_Nodes.calls k _ _ l0_0 _ _ l1_0 t222 _ ?side1 ?side2 ?side3 ?side4 A5.out).mono ?_); (case side1 => repeat (first | exact (Kd.C_below HR0_0.out HB.out) | (with_reducible refine Kd.C_alloc ?_ _) | (with_reducible refine Kd.C_drewN ?_ _) | (with_reducible refine Kd.C_drew ?_))); (case side2 => exact HC0_0.out); (case side3 => repeat (first | exact (Kd.C_below HR1_0.out HB.out) | (with_reducible refine Kd.C_alloc ?_ _) | (with_reducible refine Kd.C_drewN ?_ _) | (with_reducible refine Kd.C_drew ?_))); (case side4 => exact HC1_0.out); rintro e w11 ⟨rfl, hb⟩; have n0_ := Aside0.mk (blk_below (g := gb220) (o := .cells #[.slice A0_0 l0_0.length c0_0, .int .i64 a0_1, .int .i64 a0_2, .int .i64 a0_3] 26 (0, 0)) (by (with_reducible repeat (first | refine blk_drewN ?_ _ | refine blk_drew ?_ | refine blk_alloc ?_ _)); exact BK220.out) hb); have n1_ := Aside0.mk (blk_below (g := gb221) (o := .cells #[.slice A1_0 l1_0.length c1_0, .int .i64 a1_1, .int .i64 a1_2, .int .i64 a1_3] 26 (0, 0)) (by (with_reducible repeat (first | refine blk_drewN ?_ _ | refine blk_drew ?_ | refine blk_alloc ?_ _)); exact BK221.out) hb); have n2_ := Aside0.mk (below_step (by repeat (first | (with_reducible first | exact HB.out | apply below_alloc | apply pw_below_drewN | apply below_drew1 | refine below_set ?_ GE220.out | refine below_set ?_ GE221.out) | exact HB.out)) hb); clear BK220; clear BK221; clear HB; have BK220 := n0_; have BK221 := n1_; have HB := n2_; clear n0_ n1_ n2_; (try clear hb); (try clear hb2); (try clear hk); (try clear hi)))
   go_ret
   exact ⟨by first | rfl | (simp [errW_none, errW_some] <;> rfl) | (simp [*, errW_none, errW_some] <;> rfl), by repeat (first | (with_reducible first | exact HB.out | apply below_alloc | apply pw_below_drewN | apply below_drew1 | refine below_set ?_ GE220.out | refine below_set ?_ GE221.out) | exact HB.out)⟩
  ·
   rw [if_neg c4] at H
   have c4b0 : (a0_2 == a1_2 && (a0_3 == a1_3)) = false := by simpa using c4
   (try (have c4b1 : decide (a0_2 = a1_2 && (a0_3 == a1_3)) = false := by simpa using c4))
   (try (have c4b2 : (a0_2 == a1_2 && (a0_3 == a1_3)) = false := by simpa using c4))
   (try (have c4b3 : ¬ (a0_2 = a1_2 && (a0_3 == a1_3)) := by simpa using c4))
   clear c4
   obtain rfl := Option.some.inj H
   go_enter Tryd.func19, Tryd.ntmps19
   go_wp2_with (first | ((with_reducible refine gate_dst (N := 2) rfl ?_); refine box_event ?hg (N := 2) ?hd (cs := #[.slice A0_0 l0_0.length c0_0, .int .i64 a0_1, .int .i64 a0_2, .int .i64 a0_3]) (t := 26) ?hr ?_; (case hd => rfl); (case hg => rfl); (case hr => first | (go_simp; done) | (go_simp; rfl)); intro gb220 hg w12 hbox hb; have n0_ := Aside0.mk (below_step (by repeat (first | (with_reducible first | exact HB.out | apply below_alloc | apply pw_below_drewN | apply below_drew1) | exact HB.out)) hb); have n1_ := Aside0.mk (hbox); have n2_ := Aside0.mk ((by rw [hg]; exact (below_size (by repeat (first | (with_reducible first | exact HB.out | apply below_alloc | apply pw_below_drewN | apply below_drew1) | exact HB.out))) : w.heap.size ≤ gb220)); have n3_ := Aside0.mk ((by rw [hg]; exact (below_size (by repeat (first | (with_reducible first | exact HB.out | apply below_alloc | apply pw_below_drewN | apply below_drew1) | exact HB.out))) : w.heap.size ≤ gb220)); clear HB; have HB := n0_; have BK220 := n1_; have GW220 := n2_; have GE220 := n3_; clear n0_ n1_ n2_ n3_; clear hb hbox hg) | ((with_reducible refine gate_dst (N := 3) rfl ?_); refine box_event ?hg (N := 3) ?hd (cs := #[.slice A1_0 l1_0.length c1_0, .int .i64 a1_1, .int .i64 a1_2, .int .i64 a1_3]) (t := 26) ?hr ?_; (case hd => rfl); (case hg => rfl); (case hr => first | (go_simp; done) | (go_simp; rfl)); intro gb221 hg w13 hbox hb; have n0_ := Aside0.mk (blk_below (g := gb220) (o := .cells #[.slice A0_0 l0_0.length c0_0, .int .i64 a0_1, .int .i64 a0_2, .int .i64 a0_3] 26 (0, 0)) (by (with_reducible repeat (first | refine blk_drewN ?_ _ | refine blk_drew ?_ | refine blk_alloc ?_ _)); exact BK220.out) hb); have n1_ := Aside0.mk (below_step (by repeat (first | (with_reducible first | exact HB.out | apply below_alloc | apply pw_below_drewN | apply below_drew1 | refine below_set ?_ GE220.out) | exact HB.out)) hb); have n2_ := Aside0.mk (hbox); have n3_ := Aside0.mk ((by rw [hg]; exact (below_size (by repeat (first | (with_reducible first | exact HB.out | apply below_alloc | apply pw_below_drewN | apply below_drew1 | refine below_set ?_ GE220.out) | exact HB.out))) : w.heap.size ≤ gb221)); have n4_ := Aside0.mk ((by rw [hg]; exact (below_size (by repeat (first | (with_reducible first | exact HB.out | apply below_alloc | apply pw_below_drewN | apply below_drew1 | refine below_set ?_ GE220.out) | exact HB.out))) : w.heap.size ≤ gb221)); have n5_ := Aside0.mk ((by rw [hg]; exact Nat.ne_of_lt (blk_lt (g := gb220) (o := .cells #[.slice A0_0 l0_0.length c0_0, .int .i64 a0_1, .int .i64 a0_2, .int .i64 a0_3] 26 (0, 0)) (by (with_reducible repeat (first | refine blk_drewN ?_ _ | refine blk_drew ?_ | refine blk_alloc ?_ _)); exact BK220.out)) : gb220 ≠ gb221)); have n6_ := Aside0.mk ((by rw [hg]; exact Nat.ne_of_gt (blk_lt (g := gb220) (o := .cells #[.slice A0_0 l0_0.length c0_0, .int .i64 a0_1, .int .i64 a0_2, .int .i64 a0_3] 26 (0, 0)) (by (with_reducible repeat (first | refine blk_drewN ?_ _ | refine blk_drew ?_ | refine blk_alloc ?_ _)); exact BK220.out)) : gb221 ≠ gb220)); clear BK220; clear HB; have BK220 := n0_; have HB := n1_; have BK221 := n2_; have GW221 := n3_; have GE221 := n4_; have NB220_221 := n5_; have NB221_220 := n6_; clear n0_ n1_ n2_ n3_ n4_ n5_ n6_; clear hb hbox hg; have hnb14 := NB220_221.out; have hnc14 := NB221_220.out; have hcz15_0 : w13.cell? ⟨gb220, 0, none⟩ = some (.slice A0_0 l0_0.length c0_0) := (blk_cell BK220.out 0).trans rfl; have hcz15_1 : w13.cell? ⟨gb220, 1, none⟩ = some (.int .i64 a0_1) := (blk_cell BK220.out 1).trans rfl; have hcz15_2 : w13.cell? ⟨gb220, 2, none⟩ = some (.int .i64 a0_2) := (blk_cell BK220.out 2).trans rfl; have hcz15_3 : w13.cell? ⟨gb220, 3, none⟩ = some (.int .i64 a0_3) := (blk_cell BK220.out 3).trans rfl; have hfz15_0 := blk_frozen BK220.out 0; have hfz15_1 := blk_frozen BK220.out 1; have hfz15_2 := blk_frozen BK220.out 2; have hfz15_3 := blk_frozen BK220.out 3; have hcz16_0 : w13.cell? ⟨gb221, 0, none⟩ = some (.slice A1_0 l1_0.length c1_0) := (blk_cell BK221.out 0).trans rfl; have hcz16_1 : w13.cell? ⟨gb221, 1, none⟩ = some (.int .i64 a1_1) := (blk_cell BK221.out 1).trans rfl; have hcz16_2 : w13.cell? ⟨gb221, 2, none⟩ = some (.int .i64 a1_2) := (blk_cell BK221.out 2).trans rfl; have hcz16_3 : w13.cell? ⟨gb221, 3, none⟩ = some (.int .i64 a1_3) := (blk_cell BK221.out 3).trans rfl; have hfz16_0 := blk_frozen BK221.out 0; have hfz16_1 := blk_frozen BK221.out 1; have hfz16_2 := blk_frozen BK221.out 2; have hfz16_3 := blk_frozen BK221.out 3))
   go_ret
   exact ⟨by first | rfl | (simp [errW_none, errW_some] <;> rfl) | (simp [*, errW_none, errW_some] <;> rfl), by repeat (first | (with_reducible first | exact HB.out | apply below_alloc | apply pw_below_drewN | apply below_drew1 | refine below_set ?_ GE220.out | refine below_set ?_ GE221.out) | exact HB.out)⟩
 ·
  rw [if_neg c3] at H
  have c3b0 : (a0_1 == a1_1) = false := beq_eq_false_iff_ne.mpr c3
  have c3b1 : (a0_1 != a1_1) = true := bne_iff_ne.mpr c3
  obtain rfl := Option.some.inj H
  go_enter Tryd.func19, Tryd.ntmps19
  go_wp2_with (first | ((with_reducible refine gate_dst (N := 2) rfl ?_); refine box_event ?hg (N := 2) ?hd (cs := #[.slice A0_0 l0_0.length c0_0, .int .i64 a0_1, .int .i64 a0_2, .int .i64 a0_3]) (t := 26) ?hr ?_; (case hd => rfl); (case hg => rfl); (case hr => first | (go_simp; done) | (go_simp; rfl)); intro gb220 hg w17 hbox hb; have n0_ := Aside0.mk (below_step (by repeat (first | (with_reducible first | exact HB.out | apply below_alloc | apply pw_below_drewN | apply below_drew1) | exact HB.out)) hb); have n1_ := Aside0.mk (hbox); have n2_ := Aside0.mk ((by rw [hg]; exact (below_size (by repeat (first | (with_reducible first | exact HB.out | apply below_alloc | apply pw_below_drewN | apply below_drew1) | exact HB.out))) : w.heap.size ≤ gb220)); have n3_ := Aside0.mk ((by rw [hg]; exact (below_size (by repeat (first | (with_reducible first | exact HB.out | apply below_alloc | apply pw_below_drewN | apply below_drew1) | exact HB.out))) : w.heap.size ≤ gb220)); clear HB; have HB := n0_; have BK220 := n1_; have GW220 := n2_; have GE220 := n3_; clear n0_ n1_ n2_ n3_; clear hb hbox hg) | ((with_reducible refine gate_dst (N := 3) rfl ?_); refine box_event ?hg (N := 3) ?hd (cs := #[.slice A1_0 l1_0.length c1_0, .int .i64 a1_1, .int .i64 a1_2, .int .i64 a1_3]) (t := 26) ?hr ?_; (case hd => rfl); (case hg => rfl); (case hr => first | (go_simp; done) | (go_simp; rfl)); intro gb221 hg w18 hbox hb; have n0_ := Aside0.mk (blk_below (g := gb220) (o := .cells #[.slice A0_0 l0_0.length c0_0, .int .i64 a0_1, .int .i64 a0_2, .int .i64 a0_3] 26 (0, 0)) (by (with_reducible repeat (first | refine blk_drewN ?_ _ | refine blk_drew ?_ | refine blk_alloc ?_ _)); exact BK220.out) hb); have n1_ := Aside0.mk (below_step (by repeat (first | (with_reducible first | exact HB.out | apply below_alloc | apply pw_below_drewN | apply below_drew1 | refine below_set ?_ GE220.out) | exact HB.out)) hb); have n2_ := Aside0.mk (hbox); have n3_ := Aside0.mk ((by rw [hg]; exact (below_size (by repeat (first | (with_reducible first | exact HB.out | apply below_alloc | apply pw_below_drewN | apply below_drew1 | refine below_set ?_ GE220.out) | exact HB.out))) : w.heap.size ≤ gb221)); have n4_ := Aside0.mk ((by rw [hg]; exact (below_size (by repeat (first | (with_reducible first | exact HB.out | apply below_alloc | apply pw_below_drewN | apply below_drew1 | refine below_set ?_ GE220.out) | exact HB.out))) : w.heap.size ≤ gb221)); have n5_ := Aside0.mk ((by rw [hg]; exact Nat.ne_of_lt (blk_lt (g := gb220) (o := .cells #[.slice A0_0 l0_0.length c0_0, .int .i64 a0_1, .int .i64 a0_2, .int .i64 a0_3] 26 (0, 0)) (by (with_reducible repeat (first | refine blk_drewN ?_ _ | refine blk_drew ?_ | refine blk_alloc ?_ _)); exact BK220.out)) : gb220 ≠ gb221)); have n6_ := Aside0.mk ((by rw [hg]; exact Nat.ne_of_gt (blk_lt (g := gb220) (o := .cells #[.slice A0_0 l0_0.length c0_0, .int .i64 a0_1, .int .i64 a0_2, .int .i64 a0_3] 26 (0, 0)) (by (with_reducible repeat (first | refine blk_drewN ?_ _ | refine blk_drew ?_ | refine blk_alloc ?_ _)); exact BK220.out)) : gb221 ≠ gb220)); clear BK220; clear HB; have BK220 := n0_; have HB := n1_; have BK221 := n2_; have GW221 := n3_; have GE221 := n4_; have NB220_221 := n5_; have NB221_220 := n6_; clear n0_ n1_ n2_ n3_ n4_ n5_ n6_; clear hb hbox hg; have hnb19 := NB220_221.out; have hnc19 := NB221_220.out; have hcz20_0 : w18.cell? ⟨gb220, 0, none⟩ = some (.slice A0_0 l0_0.length c0_0) := (blk_cell BK220.out 0).trans rfl; have hcz20_1 : w18.cell? ⟨gb220, 1, none⟩ = some (.int .i64 a0_1) := (blk_cell BK220.out 1).trans rfl; have hcz20_2 : w18.cell? ⟨gb220, 2, none⟩ = some (.int .i64 a0_2) := (blk_cell BK220.out 2).trans rfl; have hcz20_3 : w18.cell? ⟨gb220, 3, none⟩ = some (.int .i64 a0_3) := (blk_cell BK220.out 3).trans rfl; have hfz20_0 := blk_frozen BK220.out 0; have hfz20_1 := blk_frozen BK220.out 1; have hfz20_2 := blk_frozen BK220.out 2; have hfz20_3 := blk_frozen BK220.out 3; have hcz21_0 : w18.cell? ⟨gb221, 0, none⟩ = some (.slice A1_0 l1_0.length c1_0) := (blk_cell BK221.out 0).trans rfl; have hcz21_1 : w18.cell? ⟨gb221, 1, none⟩ = some (.int .i64 a1_1) := (blk_cell BK221.out 1).trans rfl; have hcz21_2 : w18.cell? ⟨gb221, 2, none⟩ = some (.int .i64 a1_2) := (blk_cell BK221.out 2).trans rfl; have hcz21_3 : w18.cell? ⟨gb221, 3, none⟩ = some (.int .i64 a1_3) := (blk_cell BK221.out 3).trans rfl; have hfz21_0 := blk_frozen BK221.out 0; have hfz21_1 := blk_frozen BK221.out 1; have hfz21_2 := blk_frozen BK221.out 2; have hfz21_3 := blk_frozen BK221.out 3))
  go_ret
  exact ⟨by first | rfl | (simp [errW_none, errW_some] <;> rfl) | (simp [*, errW_none, errW_some] <;> rfl), by repeat (first | (with_reducible first | exact HB.out | apply below_alloc | apply pw_below_drewN | apply below_drew1 | refine below_set ?_ GE220.out | refine below_set ?_ GE221.out) | exact HB.out)⟩
end Go.Proofs.YtnpnablnnfekkaaDoor.PTr
set_option linter.unusedVariables false
set_option linter.unusedSimpArgs false
namespace Go.Proofs.YtnpnablnnfekkaaDoor.PTr
open Go.RowKit Go.Proofs.YtnpnablnnfekkaaDoor Go.Proofs.YtnpnablnnfekkaaDoorW.PrintWords
theorem Evt.bind0 {α β : Type} {g : Nat → Option β} {p : Nat → Option α} {q : Nat → α → Option β} {x : α} {r : β} (he : ∀ k, g k = (p k).bind (q k)) (hp : Evt p x) (hq : Evt (fun k => q k x) r) : Evt g r := by
 obtain ⟨K, hK⟩ := hp
 obtain ⟨L, hL⟩ := hq
 refine ⟨K + L, fun k hk => ?_⟩
 rw [he, hK k (by omega), Option.bind_some]
 exact hL k (by omega)
theorem Evt.const0 {α : Type} {g : Nat → Option α} {r : α} (he : ∀ k, g k = some r) : Evt g r := ⟨0, fun k _ => he k⟩
theorem rway_ev (l : List Nod) (a1 a2 a3 : Int) (hc : chk l a1 = 0) (hb : ∀ x ∈ l, x.f6.length ≤ 140737488351232) : Evt (fun k => rehearsalref04_Way.f k l a1 a2 a3 1 (⟨#[47]⟩ : ByteArray) []) ((wid l a1).map toW) := by
 obtain ⟨_, _, hl, hr, _, hN, _⟩ := chk_facts hc
 have := way_ev l a1 a2 a3 hl hr hb hN (l.length + 1) [] 1 [47] List.nodup_nil (fun x hx => by cases hx) (by simp) (by simp)
 have hw : wid l a1 = wayP l (l.length + 1) [] 1 [47] := by unfold wid; rw [if_pos hc]
 rw [hw]
 exact this
theorem getA_cons {κ α : Type} [DecidableEq κ] (p : κ × α) (r : List (κ × α)) (k : κ) : getA (p :: r) k = if p.1 = k then some p.2 else getA r k := rfl
theorem rpath_l0 (acc : List (Int × List UInt8)) (id : Int) (hl : acc.length ≤ 1000000) : ∀ (d i : Nat), i + d = acc.length → Evt (fun k => rehearsalref04_Path.l0 k id (acc.map toW) (i : Int)) ((getA ((acc.drop i).map toP) id).getD ⟨#[]⟩, (getA ((acc.drop i).map toP) id).isSome) := by
 intro d
 induction d with
 | zero =>
  intro i h
  rw [List.drop_of_length_le (by omega)]
  refine Evt.const 0 (fun k _ => ?_)
  simp only [rehearsalref04_Path.l0]
  rw [if_neg (by rw [List.length_map]; omega)]; rfl
 | succ d ih =>
  intro i h
  have hi : i < acc.length := by omega
  have hrd : rd_T87 (acc.map toW) (i : Int) = toW acc[i] := by rw [rdW _ i (by rw [List.length_map]; exact hi), List.getElem_map]
  rw [List.drop_eq_getElem_cons hi, List.map_cons, getA_cons]
  by_cases he : acc[i].1 = id
  ·
   rw [if_pos (show (toP acc[i]).1 = id from he)]
   refine Evt.const 0 (fun k _ => ?_)
   simp only [rehearsalref04_Path.l0]
   rw [if_pos (by rw [List.length_map]; omega), if_pos (by omega), hrd, if_pos (show (toW acc[i]).f0 = id from he)]; rfl
  ·
   rw [if_neg (show ¬ (toP acc[i]).1 = id from he)]
   refine Evt.succ 0 (fun k _ => ?_) (ih (i + 1) (by omega))
   simp only [rehearsalref04_Path.l0]
   rw [if_pos (by rw [List.length_map]; omega), if_pos (by omega), hrd, if_neg (show ¬ (toW acc[i]).f0 = id from he), show wrap64 ((i : Int) + 1) = ((i + 1 : Nat) : Int) from by unfold wrap64; omega]
theorem wid_len (l : List Nod) (a1 : Int) : (wid l a1).length ≤ 512 := by
 unfold wid
 split
 ·
  rename_i h0
  obtain ⟨_, _, hl, _⟩ := chk_facts h0
  have hp := TG.way_props (ids := idsL l) (ents := tgts l) (l.length + 1) [] 1 List.nodup_nil (fun x hx => by cases hx)
  have hw := way_map l (l.length + 1) [] 1 [47]
  rw [List.map_nil] at hw
  have := TG.len_le _ _ hp.1 hp.2.1
  rw [← hw, List.length_map] at this
  unfold idsL at this
  rw [List.length_map] at this
  omega
 ·
  simp
theorem rpath_ev (l : List Nod) (a1 a2 a3 id : Int) (hB : l.length ≤ 512 → Bd l) : Evt (fun k => rehearsalref04_Path.f k l a1 a2 a3 id) ((getA ((wid l a1).map toP) id).getD ⟨#[]⟩, (getA ((wid l a1).map toP) id).isSome) := by
 refine Evt.bind0 (p := fun k => rehearsalref04_Check.f k l a1 a2 a3) (fun k => rfl) (rchk_ev l a1 a2 a3 hB) ?_
 rcases chk_two l a1 with h | h
 ·
  obtain ⟨_, _, hl, _⟩ := chk_facts h
  simp only [h, if_true]
  refine Evt.bind0 (p := fun k => rehearsalref04_Way.f k l a1 a2 a3 1 (⟨#[47]⟩ : ByteArray) []) (fun k => rfl) (rway_ev l a1 a2 a3 h (fun x hx => (hB hl x hx).2.1)) ?_
  have := rpath_l0 (wid l a1) id (by have := wid_len l a1; omega) (wid l a1).length 0 (by omega)
  rw [List.drop_zero] at this
  exact this
 ·
  have hw : wid l a1 = [] := by unfold wid; rw [if_neg (by rw [h]; decide)]
  rw [hw]
  refine Evt.const0 (fun k => ?_)
  rw [if_neg (by rw [h]; decide)]; rfl
theorem same_l0 (x0 x1 x2 x3 x4 : Int) (x5 : ByteArray) (es : List Ent) (hl : es.length ≤ 1000000000000000000) : ∀ (d i : Nat), i + d = es.length → Evt (fun k => rehearsalref04_SameNode.l0 k (i : Int) x0 x1 x2 x3 x4 x5 es x0 x1 x2 x3 x4 x5 es) true := by
 intro d
 induction d with
 | zero =>
  intro i h
  refine Evt.const 0 (fun k _ => ?_)
  simp only [rehearsalref04_SameNode.l0]
  rw [if_neg (by omega)]
 | succ d ih =>
  intro i h
  refine Evt.succ 0 (fun k _ => ?_) (ih (i + 1) (by omega))
  simp only [rehearsalref04_SameNode.l0]
  rw [if_pos (by omega), if_pos (by omega), if_pos (by omega), if_neg (by simp), show wrap64 ((i : Int) + 1) = ((i + 1 : Nat) : Int) from by unfold wrap64; omega]
theorem same_f (x : Nod) (hl : x.f6.length ≤ 1000000000000000000) : Evt (fun k => rehearsalref04_SameNode.f k x.f0 x.f1 x.f2 x.f3 x.f4 x.f5 x.f6 x.f0 x.f1 x.f2 x.f3 x.f4 x.f5 x.f6) true := by
 obtain ⟨K, hK⟩ := same_l0 x.f0 x.f1 x.f2 x.f3 x.f4 x.f5 x.f6 hl x.f6.length 0 (by omega)
 refine ⟨K + 1, fun k hk => ?_⟩
 obtain ⟨k, rfl⟩ : ∃ j, k = j + 1 := ⟨k - 1, by omega⟩
 show rehearsalref04_SameNode.f (k + 1) _ _ _ _ _ _ _ _ _ _ _ _ _ _ = _
 unfold rehearsalref04_SameNode.f
 have hb : ((x.f6.length : Int) != (x.f6.length : Int)) = false := bne_eq_false_iff_eq.mpr rfl
 rw [if_pos rfl, if_pos rfl, if_pos rfl, if_pos rfl, if_pos rfl, if_pos rfl, hb]
 simp only [rehearsalref04_SameNode.j0, Bool.false_eq_true, if_false]
 exact hK k (by omega)
theorem nodes_l0 (l : List Nod) (hn : l.length ≤ 1000000000000) (hl : ∀ x ∈ l, x.f6.length ≤ 1000000000000000000) : ∀ (d i : Nat), i + d = l.length → Evt (fun k => rehearsalref04_Nodes.l0 k l l (i : Int)) true := by
 intro d
 induction d with
 | zero =>
  intro i h
  refine Evt.const 0 (fun k _ => ?_)
  simp only [rehearsalref04_Nodes.l0]
  rw [if_neg (by omega)]
 | succ d ih =>
  intro i h
  have hi : i < l.length := by omega
  obtain ⟨K, hK⟩ := same_f l[i] (hl _ (List.getElem_mem hi))
  refine Evt.succ K (fun k hk => ?_) (ih (i + 1) (by omega))
  have h1 := hK k hk
  simp only [rehearsalref04_Nodes.l0]
  rw [if_pos (by omega), if_pos (by omega), if_pos (by omega), rdN l i hi]
  refine Eq.trans (congrArg (fun o => Option.bind o _) h1) ?_
  show (some true).bind _ = _
  rw [Option.bind_some, if_pos rfl, show wrap64 ((i : Int) + 1) = ((i + 1 : Nat) : Int) from by unfold wrap64; omega]
theorem exact_ev (l : List Nod) (a1 a2 a3 : Int) (hn : l.length ≤ 1000000000000) (hl : ∀ x ∈ l, x.f6.length ≤ 1000000000000000000) : Evt (fun k => rehearsalref04_Exact.f k l a1 a2 a3 l a1 a2 a3) true := by
 obtain ⟨K, hK⟩ := nodes_l0 l hn hl l.length 0 (by omega)
 refine ⟨K, fun k hk => ?_⟩
 show rehearsalref04_Exact.f k _ _ _ _ _ _ _ _ = _
 unfold rehearsalref04_Exact.f rehearsalref04_Nodes.f
 rw [if_pos rfl, if_pos (by simp), if_pos rfl]
 have : rehearsalref04_Nodes.l0 k l l 0 = some true := hK k hk
 rw [this]; rfl
end Go.Proofs.YtnpnablnnfekkaaDoor.PTr
set_option linter.unusedVariables false
set_option linter.unusedSimpArgs false
namespace Go.Proofs.YtnpnablnnfekkaaDoor.PTr
open Go.RowKit Go.Proofs.YtnpnablnnfekkaaDoor Go.Proofs.YtnpnablnnfekkaaDoorW.PrintWords
def SmallOK (l : List Nod) : Prop := (l.length ≤ 60 ∧ ∀ x ∈ l, x.f6.length ≤ 200 ∧ x.f5.size ≤ 20000) ∨ 512 < l.length
theorem small_l0 (l : List Nod) (a1 a2 a3 : Int) : ∀ (d i : Nat) (n : Int), i + d = 200 → 0 ≤ n → n ≤ 200 * i → (∀ q (h : q < l.length), q < i → l[q].f6.length ≤ 200 ∧ l[q].f5.size ≤ 20000) →
  ∃ b, Evt (fun k => rehearsalref04_Small.l0 k n (i : Int) l a1 a2 a3) b ∧ (b = true → SmallOK l) := by
 have fin : ∀ (i : Nat) (n : Int), (l.length ≤ 60 → ∀ q (h : q < l.length), l[q].f6.length ≤ 200 ∧ l[q].f5.size ≤ 20000) → ∃ b, (∀ k, rehearsalref04_Small.j1 (k + 1) n (i : Int) false l a1 a2 a3 = some b) ∧ (b = true → SmallOK l) := by
  intro i n hg
  by_cases h60 : (l.length : Int) ≤ 60
  ·
   by_cases hn : n ≤ 200
   ·
    exact ⟨true, fun k => by simp only [rehearsalref04_Small.j1]; rw [if_neg (by decide), if_pos h60, if_pos hn], fun _ => .inl ⟨by omega, fun x hx => by obtain ⟨q, hq, rfl⟩ := List.getElem_of_mem hx; exact hg (by omega) q hq⟩⟩
   ·
    exact ⟨decide ((l.length : Int) > 512), fun k => by simp only [rehearsalref04_Small.j1]; rw [if_neg (by decide), if_pos h60, if_neg hn], fun h => .inr (by have := of_decide_eq_true h; omega)⟩
  ·
   exact ⟨decide ((l.length : Int) > 512), fun k => by simp only [rehearsalref04_Small.j1]; rw [if_neg (by decide), if_neg h60], fun h => .inr (by have := of_decide_eq_true h; omega)⟩
 intro d
 induction d with
 | zero =>
  intro i n hi h0 h1 hg
  obtain ⟨b, hb, hs⟩ := fin i n (fun hl q hq => hg q hq (by omega))
  refine ⟨b, Evt.const 1 (fun k hk => ?_), hs⟩
  obtain ⟨m, rfl⟩ : ∃ m, k = m + 1 := ⟨k - 1, by omega⟩
  simp only [rehearsalref04_Small.l0]
  by_cases hl : (i : Int) < (l.length : Int)
  ·
   rw [if_pos hl, decide_eq_false (show ¬ (i : Int) < 200 from by omega)]; exact hb m
  ·
   rw [if_neg hl]; exact hb m
 | succ d ih =>
  intro i n hi h0 h1 hg
  by_cases hl : i < l.length
  ·
   have hl' : (i : Int) < (l.length : Int) := by omega
   by_cases c1 : l[i].f6.length ≤ 200
   ·
    by_cases c2 : l[i].f5.size ≤ 20000
    ·
     obtain ⟨b, hb, hs⟩ := ih (i + 1) (n + l[i].f6.length) (by omega) (by omega) (by omega) (fun q hq hqi => by
      by_cases e : q = i
      ·
       subst e; exact ⟨c1, c2⟩
      ·
       exact hg q hq (by omega))
     refine ⟨b, Evt.succ 0 (fun k _ => ?_) (Evt.succ 0 (g := fun k => rehearsalref04_Small.j1 k n (i : Int) true l a1 a2 a3) (fun k _ => ?_) hb), hs⟩
     ·
      simp only [rehearsalref04_Small.l0]
      rw [if_pos hl', decide_eq_true (show (i : Int) < 200 from by omega)]
     ·
      simp only [rehearsalref04_Small.j1]
      rw [if_pos trivial, if_pos (by omega), if_pos hl', rdN l i hl, if_neg (by omega), if_neg (by omega), show wrap64 (n + (l[i].f6.length : Int)) = n + (l[i].f6.length : Int) from by unfold wrap64; omega, show wrap64 ((i : Int) + 1) = ((i + 1 : Nat) : Int) from by unfold wrap64; omega]
    ·
     refine ⟨false, Evt.succ 0 (fun k _ => ?_) (Evt.const 0 (g := fun k => rehearsalref04_Small.j1 k n (i : Int) true l a1 a2 a3) (fun k _ => ?_)), fun h => by cases h⟩
     ·
      simp only [rehearsalref04_Small.l0]
      rw [if_pos hl', decide_eq_true (show (i : Int) < 200 from by omega)]
     ·
      simp only [rehearsalref04_Small.j1]
      rw [if_pos trivial, if_pos (by omega), if_pos hl', rdN l i hl, if_neg (by omega), if_pos (by omega)]
   ·
    refine ⟨false, Evt.succ 0 (fun k _ => ?_) (Evt.const 0 (g := fun k => rehearsalref04_Small.j1 k n (i : Int) true l a1 a2 a3) (fun k _ => ?_)), fun h => by cases h⟩
    ·
     simp only [rehearsalref04_Small.l0]
     rw [if_pos hl', decide_eq_true (show (i : Int) < 200 from by omega)]
    ·
     simp only [rehearsalref04_Small.j1]
     rw [if_pos trivial, if_pos (by omega), if_pos hl', rdN l i hl, if_pos (by omega)]
  ·
   obtain ⟨b, hb, hs⟩ := fin i n (fun _ q hq => hg q hq (by omega))
   refine ⟨b, Evt.const 1 (fun k hk => ?_), hs⟩
   obtain ⟨m, rfl⟩ : ∃ m, k = m + 1 := ⟨k - 1, by omega⟩
   simp only [rehearsalref04_Small.l0]
   rw [if_neg (by omega)]; exact hb m
theorem small_ev (l : List Nod) (a1 a2 a3 : Int) : ∃ b, Evt (fun k => rehearsalref04_Small.f k l a1 a2 a3) b ∧ (b = true → SmallOK l) := by
 by_cases h : a1 > 1099511627776
 ·
  exact ⟨false, Evt.const0 (fun k => by unfold rehearsalref04_Small.f; rw [if_pos h]), fun h => by cases h⟩
 ·
  obtain ⟨b, hb, hs⟩ := small_l0 l a1 a2 a3 200 0 0 (by omega) (by omega) (by omega) (fun q _ h => by omega)
  obtain ⟨K, hK⟩ := hb
  exact ⟨b, ⟨K, fun k hk => by show rehearsalref04_Small.f k l a1 a2 a3 = _; unfold rehearsalref04_Small.f; rw [if_neg h]; exact hK k hk⟩, hs⟩
theorem small_e {l : List Nod} (h : SmallOK l) : eB l = true := eB_of (fun h1 x hx => by
 rcases h with ⟨_, h⟩ | h
 ·
  have := (h x hx).1; omega
 ·
  omega)
theorem awake_ev : Evt (fun k => rehearsallaw04_awake.f k) true := Evt.const0 (fun _ => rfl)
end Go.Proofs.YtnpnablnnfekkaaDoor.PTr
set_option linter.unusedVariables false
set_option linter.unusedSimpArgs false
namespace Go.Proofs.YtnpnablnnfekkaaDoor.PTr
open Go.RowKit Go.Proofs.YtnpnablnnfekkaaDoor Go.Proofs.YtnpnablnnfekkaaDoorW.PrintWords
def renE (ρ : Int → Int) (e : Ent) : Ent := ⟨e.f0, ρ e.f1⟩
def renN (ρ : Int → Int) (x : Nod) : Nod := ⟨ρ x.f0, x.f1, x.f2, x.f3, x.f4, x.f5, x.f6.map (renE ρ)⟩
structure Ren (ρ : Int → Int) (l l' : List Nod) : Prop where
 inj : ∀ a ∈ idsL l, ∀ b ∈ idsL l, ρ a = ρ b → a = b
 node : ∀ id ∈ idsL l, nodeL l' (ρ id) = (nodeL l id).map (renN ρ)
 ids : ∀ y, y ∈ idsL l' → ∃ x ∈ idsL l, ρ x = y
 ids' : ∀ x ∈ idsL l, ρ x ∈ idsL l'
 len : l'.length = l.length
 nd : (idsL l).Nodup
 nd' : (idsL l').Nodup
 one : ρ 1 = 1
 cl : ∀ x ∈ l, ∀ e ∈ x.f6, e.f1 ∈ idsL l
theorem nodeL_mem {l : List Nod} {id : Int} {x : Nod} (h : nodeL l id = some x) : x ∈ l ∧ x.f0 = id := by
 unfold nodeL at h
 exact ⟨List.mem_of_find?_eq_some h, by simpa using List.find?_some h⟩
theorem nodeL_some {l : List Nod} {id : Int} (h : id ∈ idsL l) : ∃ x, nodeL l id = some x := by
 cases hn : nodeL l id with
 | some x => exact ⟨x, rfl⟩
 | none =>
  obtain ⟨x, hx, he⟩ := mem_ids.1 h
  unfold nodeL at hn
  rw [List.find?_eq_none] at hn
  have := hn x hx
  simp [he] at this
theorem canN_at {l : List Nod} {a1 : Int} (h : chk l a1 = 0) (i : Nat) (hi : i < ((wid l a1).map (·.1)).length) :
  ∃ x, nodeL l ((wid l a1).map (·.1))[i] = some x ∧ nodN l ((wid l a1).map (·.1)) i = ⟨((i + 1 : Nat) : Int), x.f1, x.f2, x.f3, x.f4, x.f5, x.f6.map (entN ((wid l a1).map (·.1)))⟩ := by
 obtain ⟨hnd, hsub, hlen⟩ := wid_props l a1
 obtain ⟨x, hx⟩ := nodeL_some (hsub _ (List.getElem_mem hi))
 refine ⟨x, hx, ?_⟩
 unfold nodN
 rw [rd_int _ i hi, hx]
 simp only []
 rw [show wrap64 ((i : Int) + 1) = ((i + 1 : Nat) : Int) from by unfold wrap64; omega]
theorem canN_len (l : List Nod) (ids : List Int) : (canN l ids).length = ids.length := by unfold canN; rw [List.length_map, List.length_range]
theorem canN_get (l : List Nod) (ids : List Int) (i : Nat) (hi : i < (canN l ids).length) : (canN l ids)[i] = nodN l ids i := by
 have h : (canN l ids)[i]? = some (nodN l ids i) := by
  unfold canN
  rw [List.getElem?_map, List.getElem?_range (by rw [canN_len] at hi; exact hi)]; rfl
 exact Option.some.inj ((List.getElem?_eq_getElem hi).symm.trans h)
end Go.Proofs.YtnpnablnnfekkaaDoor.PTr
