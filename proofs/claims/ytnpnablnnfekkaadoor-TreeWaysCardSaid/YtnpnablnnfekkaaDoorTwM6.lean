/- Texts of this claim's proof: small lemmas, walks and plain laws (merged by wip/shake.py). -/
import Derived.Test.YtnpnablnnfekkaaDoorTwM1
import Derived.Test.YtnpnablnnfekkaaDoorTwM4
import Derived.Test.YtnpnablnnfekkaaDoorTwM5
namespace Go.Proofs.YtnpnablnnfekkaaDoor.PTr
open Go.RowKit Go.Proofs.YtnpnablnnfekkaaDoorW.PrintWords Go.Proofs.YtnpnablnnfekkaaDoorW.PrintLast Go.Proofs.YtnpnablnnfekkaaDoorW.PrintMore
attribute [local go_sem] max2_int min2_int max_two min_two max_three min_three max_four min_four   -- for this text's walks alone
set_option linter.unusedVariables false
set_option linter.unusedSimpArgs false
theorem w64_PTr40 (x : Int) : wrap64 (x % 256) = x % 256 := by unfold wrap64; omega
mutual
def rehearsallaw04_TreeWays.j0 : Nat → Int → Bool → List (S44) → Int → Int → Int → Option (Bool)
 | 0, _, _, _, _, _, _ => none
 | k + 1, x1, x22, x377000, x377001, x377002, x377003 => if x22 = true then ((rehearsallaw04_awake.f k).bind fun t379 => (some t379)) else (if (IntKind.u64.wrap ((x377000.length : Int))) = 0 then (none) else (if 0 ≤ (Int.tmod x1 (IntKind.u64.wrap ((x377000.length : Int)))) then (if (Int.tmod x1 (IntKind.u64.wrap ((x377000.length : Int)))) < (x377000.length : Int) then ((tree_Path.f x377000 x377001 x377002 x377003 ((rd_T44 x377000 (Int.tmod x1 (IntKind.u64.wrap ((x377000.length : Int))))).f0)).bind fun bt381 => (if bt381.2 = true then ((tree_Links.f k x377000 x377001 x377002 x377003 ((rd_T44 x377000 (Int.tmod x1 (IntKind.u64.wrap ((x377000.length : Int))))).f0)).bind fun t383 => (rehearsallaw04_TreeWays.j1 k ((rd_T44 x377000 (Int.tmod x1 (IntKind.u64.wrap ((x377000.length : Int))))).f0) bt381.1 ((decide (t383 > 0)) != (((rd_T44 x377000 (Int.tmod x1 (IntKind.u64.wrap ((x377000.length : Int))))).f0) != 1)) x377000 x377001 x377002 x377003)) else (rehearsallaw04_TreeWays.j1 k ((rd_T44 x377000 (Int.tmod x1 (IntKind.u64.wrap ((x377000.length : Int))))).f0) bt381.1 true x377000 x377001 x377002 x377003))) else (none)) else (none)))
def rehearsallaw04_TreeWays.j1 : Nat → Int → ByteArray → Bool → List (S44) → Int → Int → Int → Option (Bool)
 | 0, _, _, _, _, _, _, _ => none
 | k + 1, x5, x6, x51, x377000, x377001, x377002, x377003 => if x51 = true then (some false) else (rehearsallaw04_TreeWays.l0 k x5 x6 1 1 x377000 x377001 x377002 x377003)
def rehearsallaw04_TreeWays.l0 : Nat → Int → ByteArray → Int → Int → List (S44) → Int → Int → Int → Option (Bool)
 | 0, _, _, _, _, _, _, _, _ => none
 | k + 1, x5, x6, x8, x9, x377000, x377001, x377002, x377003 => if x9 < (x6.size : Int) then (rehearsallaw04_TreeWays.l1 k x5 x6 x8 x9 x9 x377000 x377001 x377002 x377003) else (if x8 = x5 then ((rehearsallaw04_awake.f k).bind fun t384 => (some t384)) else (some false))
def rehearsallaw04_TreeWays.j4 : Nat → Int → ByteArray → Int → Int → Int → List (S44) → Int → Int → Int → Option (Bool)
 | 0, _, _, _, _, _, _, _, _, _ => none
 | k + 1, x5, x6, x8, x9, x10, x377000, x377001, x377002, x377003 => (tree_Get.f k x377000 x377001 x377002 x377003 x8).bind fun bt385 => (if 0 ≤ x9 then (if x9 ≤ x10 then (if x10 ≤ (x6.size : Int) then ((tree_Child.f k bt385.1 bt385.2.1 bt385.2.2.1 bt385.2.2.2.1 bt385.2.2.2.2.1 bt385.2.2.2.2.2.1 bt385.2.2.2.2.2.2.1 (x6.extract (x9 : Int).toNat (x10 : Int).toNat)).bind fun bt396 => (if bt385.2.2.2.2.2.2.2 = true then (if bt396.2 = true then (rehearsallaw04_TreeWays.l0 k x5 x6 bt396.1 (wrap64 (x10 + 1)) x377000 x377001 x377002 x377003) else (some false)) else (some false))) else (none)) else (none)) else (none))
def rehearsallaw04_TreeWays.l1 : Nat → Int → ByteArray → Int → Int → Int → List (S44) → Int → Int → Int → Option (Bool)
 | 0, _, _, _, _, _, _, _, _, _ => none
 | k + 1, x5, x6, x8, x9, x10, x377000, x377001, x377002, x377003 => if x10 < (x6.size : Int) then (if 0 ≤ x10 then (if (bt x6 x10) = 47 then (rehearsallaw04_TreeWays.j4 k x5 x6 x8 x9 x10 x377000 x377001 x377002 x377003) else (rehearsallaw04_TreeWays.l1 k x5 x6 x8 x9 (wrap64 (x10 + 1)) x377000 x377001 x377002 x377003)) else (none)) else (rehearsallaw04_TreeWays.j4 k x5 x6 x8 x9 x10 x377000 x377001 x377002 x377003)
end
def rehearsallaw04_TreeWays.f (k : Nat) (l0_0 : List (S44)) (a0_1 : Int) (a0_2 : Int) (a0_3 : Int) (a1 : Int) : Option (Bool) := (rehearsalref04_Small.f k l0_0 a0_1 a0_2 a0_3).bind fun t377 => (if t377 = true then ((rehearsalref04_Check.f k l0_0 a0_1 a0_2 a0_3).bind fun t378 => (rehearsallaw04_TreeWays.j0 k a1 (t378 != 0) l0_0 a0_1 a0_2 a0_3)) else (rehearsallaw04_TreeWays.j0 k a1 true l0_0 a0_1 a0_2 a0_3))
def rehearsallaw04_TreeWays.T3 : Bool × List (List Nat × List Nat) := (true, [([], []), ([0], [0]), ([], []), ([], []), ([3], [3]), ([4], [4]), ([5], [5]), ([2, 6], [2, 6]), ([1, 7], [1, 7]), ([8], [8]), ([9], [9]), ([10, 0, 1, 2, 3, 4, 5, 6, 7, 8, 9, 10], [10])])
def rehearsallaw04_TreeWays.B3 : List Nat := [0, 1, 0, 0, 8, 24, 56, 124, 255, 511, 1023, 2047]
theorem rehearsallaw04_TreeWays.tab3 : rtab .any (opsOf Tryd.f6 3) = rehearsallaw04_TreeWays.T3 := by kernel_rfl
theorem rehearsallaw04_TreeWays.bits3 : waitsOk rehearsallaw04_TreeWays.T3.2 rehearsallaw04_TreeWays.B3 = true := by kernel_rfl
def rehearsallaw04_TreeWays.T14 : Bool × List (List Nat × List Nat) := (true, [([], []), ([], []), ([], []), ([], []), ([1, 2, 3], [1, 2, 3]), ([0, 4], [0, 4]), ([5], [5]), ([6], [6]), ([6], [6]), ([7, 5, 0, 1, 2, 3, 4, 5, 6, 7], [7]), ([8, 9, 0, 1, 2, 3, 4, 5, 6, 7, 8, 9], [8])])
def rehearsallaw04_TreeWays.B14 : List Nat := [0, 0, 0, 0, 14, 31, 63, 127, 127, 255, 1023]
theorem rehearsallaw04_TreeWays.tab14 : rtab .any (opsOf Tryd.f6 14) = rehearsallaw04_TreeWays.T14 := by kernel_rfl
theorem rehearsallaw04_TreeWays.bits14 : waitsOk rehearsallaw04_TreeWays.T14.2 rehearsallaw04_TreeWays.B14 = true := by kernel_rfl
set_option maxHeartbeats 8000000 in
set_option maxRecDepth 100000 in
theorem rehearsallaw04_TreeWays.calls (k : Nat) (A0_0 : Option Addr) (c0_0 : Nat) (l0_0 : List (S44)) (a0_1 : Int) (a0_2 : Int) (a0_3 : Int) (a1 : Int) (r : Bool) (w : World) (hr0_0 : Kd.C k44 w A0_0 l0_0.length l0_0) (hc0_0 : l0_0.length ≤ c0_0) (h : rehearsallaw04_TreeWays.f k l0_0 a0_1 a0_2 a0_3 a1 = some r) :
  Calls Tryd.prog 6 #[.agg #[.slice A0_0 l0_0.length c0_0, .int .i64 a0_1, .int .i64 a0_2, .int .i64 a0_3], .int .u64 a1] w fun e w' => e = .returned (.bool r) ∧ Below w.heap.size w w' := by
 have hu26 := Tryd.underlying26
 have hu44 := Tryd.underlying44
 have HR0_0 := Aside0.mk hr0_0
 have HC0_0 := Aside0.mk hc0_0
 clear hr0_0 hc0_0
 have HB := Aside0.mk (Below.refl w.heap.size w)
 have H : ((rehearsalref04_Small.f k l0_0 a0_1 a0_2 a0_3).bind fun t377 => (if t377 = true then ((rehearsalref04_Check.f k l0_0 a0_1 a0_2 a0_3).bind fun t378 => (rehearsallaw04_TreeWays.j0 k a1 (t378 != 0) l0_0 a0_1 a0_2 a0_3)) else (rehearsallaw04_TreeWays.j0 k a1 true l0_0 a0_1 a0_2 a0_3))) = some r := h
 clear h
 have HC3 := Aside0.mk H
 clear H
 go_enter Tryd.func6, Tryd.ntmps6
 go_upto_region 1 with (first | ((with_reducible refine gate_dst (N := 2) rfl ?_); refine box_event ?hg (N := 2) ?hd (cs := #[.slice A0_0 l0_0.length c0_0, .int .i64 a0_1, .int .i64 a0_2, .int .i64 a0_3]) (t := 26) ?hr ?_; (case hd => rfl); (case hg => rfl); (case hr => first | (go_simp; done) | (go_simp; rfl)); intro gb376 hg w4 hbox hb; have n0_ := Aside0.mk (below_step (by repeat (first | (with_reducible first | exact HB.out | apply below_alloc | apply pw_below_drewN | apply below_drew1) | exact HB.out)) hb); have n1_ := Aside0.mk (hbox); have n2_ := Aside0.mk ((by rw [hg]; exact (below_size (by repeat (first | (with_reducible first | exact HB.out | apply below_alloc | apply pw_below_drewN | apply below_drew1) | exact HB.out))) : w.heap.size ≤ gb376)); have n3_ := Aside0.mk ((by rw [hg]; exact (below_size (by repeat (first | (with_reducible first | exact HB.out | apply below_alloc | apply pw_below_drewN | apply below_drew1) | exact HB.out))) : w.heap.size ≤ gb376)); clear HB; have HB := n0_; have BK376 := n1_; have GW376 := n2_; have GE376 := n3_; clear n0_ n1_ n2_ n3_; clear hb hbox hg))
 (try simp only [Act.put, List.setIfInBounds_toArray, List.set_cons_zero, List.set_cons_succ])
 go_cut [22] (fun v22 wc => ∃ (kq : Nat) (x22_2 : Bool), v22 = .bool x22_2 ∧ Aside0 (rehearsallaw04_TreeWays.j0 kq a1 x22_2 l0_0 a0_1 a0_2 a0_3 = some r) ∧ Aside0 (kq ≤ k) ∧ Aside0 (wc.heap[gb376]? = some (.cells #[(.slice A0_0 l0_0.length c0_0), .int .i64 a0_1, .int .i64 a0_2, .int .i64 a0_3] 26 (0, 0))) ∧ Aside0 (Below w.heap.size w wc))
 case first =>
  have H := HC3.out
  clear HC3
  replace H := Option.bind_eq_some_iff.mp H
  obtain ⟨t377, A50, H⟩ := H
  replace H : (if t377 = true then ((rehearsalref04_Check.f k l0_0 a0_1 a0_2 a0_3).bind fun t378 => (rehearsallaw04_TreeWays.j0 k a1 (t378 != 0) l0_0 a0_1 a0_2 a0_3)) else (rehearsallaw04_TreeWays.j0 k a1 true l0_0 a0_1 a0_2 a0_3)) = some r := H
  have A5 := Aside0.mk A50
  clear A50
  by_cases c6 : t377 = true
  ·
   subst c6
   have H1 : ((rehearsalref04_Check.f k l0_0 a0_1 a0_2 a0_3).bind fun t378 => (rehearsallaw04_TreeWays.j0 k a1 (t378 != 0) l0_0 a0_1 a0_2 a0_3)) = some r := by rw [if_pos rfl] at H; exact H
   clear H
   have H := H1
   clear H1
   replace H := Option.bind_eq_some_iff.mp H
   obtain ⟨t378, A70, H⟩ := H
   replace H : (rehearsallaw04_TreeWays.j0 k a1 (t378 != 0) l0_0 a0_1 a0_2 a0_3) = some r := H
   have A7 := Aside0.mk A70
   clear A70
   have H' := Aside0.mk H
   clear H
   have hcz8_0 : w4.cell? ⟨gb376, 0, none⟩ = some (.slice A0_0 l0_0.length c0_0) := (blk_cell BK376.out 0).trans rfl
   have hcz8_1 : w4.cell? ⟨gb376, 1, none⟩ = some (.int .i64 a0_1) := (blk_cell BK376.out 1).trans rfl
   have hcz8_2 : w4.cell? ⟨gb376, 2, none⟩ = some (.int .i64 a0_2) := (blk_cell BK376.out 2).trans rfl
   have hcz8_3 : w4.cell? ⟨gb376, 3, none⟩ = some (.int .i64 a0_3) := (blk_cell BK376.out 3).trans rfl
   have hfz8_0 := blk_frozen BK376.out 0
   have hfz8_1 := blk_frozen BK376.out 1
   have hfz8_2 := blk_frozen BK376.out 2
   have hfz8_3 := blk_frozen BK376.out 3
   go_wp2_with (first | ((with_reducible refine gate_callee (f := 15) rfl ?_); refine goesL_ (some 16) rfl rfl Tryd.func15 (by kernel_rfl) rfl #[.agg #[.slice A0_0 l0_0.length c0_0, .int .i64 a0_1, .int .i64 a0_2, .int .i64 a0_3]] rfl (by (try simp only [List.map_toArray, List.map_cons, List.map_nil]); first | done | rfl | (simp only [List.length_drop, List.length_take]; rfl)) ?_; (with_reducible refine (rehearsalref04_Small.calls k _ _ l0_0 a0_1 a0_2 a0_3 true _ ?side1 ?side2 A5.out).mono ?_); (case side1 => repeat (first | exact (Kd.C_below HR0_0.out HB.out) | (with_reducible refine Kd.C_alloc ?_ _) | (with_reducible refine Kd.C_drewN ?_ _) | (with_reducible refine Kd.C_drew ?_))); (case side2 => exact HC0_0.out); rintro e w9 ⟨rfl, hb⟩; refine ⟨_, rfl, ?_⟩; have n0_ := Aside0.mk (blk_below (g := gb376) (o := .cells #[.slice A0_0 l0_0.length c0_0, .int .i64 a0_1, .int .i64 a0_2, .int .i64 a0_3] 26 (0, 0)) (by (with_reducible repeat (first | refine blk_drewN ?_ _ | refine blk_drew ?_ | refine blk_alloc ?_ _)); exact BK376.out) hb); have n1_ := Aside0.mk (below_step (by repeat (first | (with_reducible first | exact HB.out | apply below_alloc | apply pw_below_drewN | apply below_drew1 | refine below_set ?_ GE376.out) | exact HB.out)) hb); clear BK376; clear HB; have BK376 := n0_; have HB := n1_; clear n0_ n1_; (try clear hb); (try clear hb2); (try clear hk); (try clear hi); have hcz10_0 : w9.cell? ⟨gb376, 0, none⟩ = some (.slice A0_0 l0_0.length c0_0) := (blk_cell BK376.out 0).trans rfl; have hcz10_1 : w9.cell? ⟨gb376, 1, none⟩ = some (.int .i64 a0_1) := (blk_cell BK376.out 1).trans rfl; have hcz10_2 : w9.cell? ⟨gb376, 2, none⟩ = some (.int .i64 a0_2) := (blk_cell BK376.out 2).trans rfl; have hcz10_3 : w9.cell? ⟨gb376, 3, none⟩ = some (.int .i64 a0_3) := (blk_cell BK376.out 3).trans rfl; have hfz10_0 := blk_frozen BK376.out 0; have hfz10_1 := blk_frozen BK376.out 1; have hfz10_2 := blk_frozen BK376.out 2; have hfz10_3 := blk_frozen BK376.out 3) | (go_at_call 18; (with_reducible refine (rehearsalref04_Check.calls k _ _ l0_0 a0_1 a0_2 a0_3 t378 _ ?side1 ?side2 A7.out).mono ?_); (case side1 => repeat (first | exact (Kd.C_below HR0_0.out HB.out) | (with_reducible refine Kd.C_alloc ?_ _) | (with_reducible refine Kd.C_drewN ?_ _) | (with_reducible refine Kd.C_drew ?_))); (case side2 => exact HC0_0.out); rintro e w11 ⟨rfl, hb⟩; have n0_ := Aside0.mk (blk_below (g := gb376) (o := .cells #[.slice A0_0 l0_0.length c0_0, .int .i64 a0_1, .int .i64 a0_2, .int .i64 a0_3] 26 (0, 0)) (by (with_reducible repeat (first | refine blk_drewN ?_ _ | refine blk_drew ?_ | refine blk_alloc ?_ _)); exact BK376.out) hb); have n1_ := Aside0.mk (below_step (by repeat (first | (with_reducible first | exact HB.out | apply below_alloc | apply pw_below_drewN | apply below_drew1 | refine below_set ?_ GE376.out) | exact HB.out)) hb); clear BK376; clear HB; have BK376 := n0_; have HB := n1_; clear n0_ n1_; (try clear hb); (try clear hb2); (try clear hk); (try clear hi)))
   go_meet
   case rel => exact ⟨_, ((t378 != 0)), (by first | rfl | (simp; done) | (simp [*]; done)), H', ⟨by first | omega | exact Nat.le_refl _⟩, ⟨by (with_reducible repeat (first | refine blk_drewN ?_ _ | refine blk_drew ?_ | refine blk_alloc ?_ _)); exact BK376.out⟩, ⟨by repeat (first | (with_reducible first | exact HB.out | apply below_alloc | apply pw_below_drewN | apply below_drew1 | refine below_set ?_ GE376.out) | exact HB.out)⟩⟩
  ·
   replace c6 := Bool.eq_false_iff.mpr c6
   subst c6
   have H1 : (rehearsallaw04_TreeWays.j0 k a1 true l0_0 a0_1 a0_2 a0_3) = some r := by rw [if_neg (show ¬ (false = true) by decide)] at H; exact H
   clear H
   have H := H1
   clear H1
   have H' := Aside0.mk H
   clear H
   have hcz12_0 : w4.cell? ⟨gb376, 0, none⟩ = some (.slice A0_0 l0_0.length c0_0) := (blk_cell BK376.out 0).trans rfl
   have hcz12_1 : w4.cell? ⟨gb376, 1, none⟩ = some (.int .i64 a0_1) := (blk_cell BK376.out 1).trans rfl
   have hcz12_2 : w4.cell? ⟨gb376, 2, none⟩ = some (.int .i64 a0_2) := (blk_cell BK376.out 2).trans rfl
   have hcz12_3 : w4.cell? ⟨gb376, 3, none⟩ = some (.int .i64 a0_3) := (blk_cell BK376.out 3).trans rfl
   have hfz12_0 := blk_frozen BK376.out 0
   have hfz12_1 := blk_frozen BK376.out 1
   have hfz12_2 := blk_frozen BK376.out 2
   have hfz12_3 := blk_frozen BK376.out 3
   go_wp2_with (first | ((with_reducible refine gate_callee (f := 15) rfl ?_); refine goesL_ (some 16) rfl rfl Tryd.func15 (by kernel_rfl) rfl #[.agg #[.slice A0_0 l0_0.length c0_0, .int .i64 a0_1, .int .i64 a0_2, .int .i64 a0_3]] rfl (by (try simp only [List.map_toArray, List.map_cons, List.map_nil]); first | done | rfl | (simp only [List.length_drop, List.length_take]; rfl)) ?_; (with_reducible refine (rehearsalref04_Small.calls k _ _ l0_0 a0_1 a0_2 a0_3 false _ ?side1 ?side2 A5.out).mono ?_); (case side1 => repeat (first | exact (Kd.C_below HR0_0.out HB.out) | (with_reducible refine Kd.C_alloc ?_ _) | (with_reducible refine Kd.C_drewN ?_ _) | (with_reducible refine Kd.C_drew ?_))); (case side2 => exact HC0_0.out); rintro e w13 ⟨rfl, hb⟩; refine ⟨_, rfl, ?_⟩; have n0_ := Aside0.mk (blk_below (g := gb376) (o := .cells #[.slice A0_0 l0_0.length c0_0, .int .i64 a0_1, .int .i64 a0_2, .int .i64 a0_3] 26 (0, 0)) (by (with_reducible repeat (first | refine blk_drewN ?_ _ | refine blk_drew ?_ | refine blk_alloc ?_ _)); exact BK376.out) hb); have n1_ := Aside0.mk (below_step (by repeat (first | (with_reducible first | exact HB.out | apply below_alloc | apply pw_below_drewN | apply below_drew1 | refine below_set ?_ GE376.out) | exact HB.out)) hb); clear BK376; clear HB; have BK376 := n0_; have HB := n1_; clear n0_ n1_; (try clear hb); (try clear hb2); (try clear hk); (try clear hi)))
   go_meet
   case rel => exact ⟨_, (true), (by first | rfl | (simp; done) | (simp [*]; done)), H', ⟨by first | omega | exact Nat.le_refl _⟩, ⟨by (with_reducible repeat (first | refine blk_drewN ?_ _ | refine blk_drew ?_ | refine blk_alloc ?_ _)); exact BK376.out⟩, ⟨by repeat (first | (with_reducible first | exact HB.out | apply below_alloc | apply pw_below_drewN | apply below_drew1 | refine below_set ?_ GE376.out) | exact HB.out)⟩⟩
 case rest =>
  clear HC3
  try clear c1
  try clear p2
  try clear c6
  try clear hcz10_0
  try clear hcz10_1
  try clear hcz10_2
  try clear hcz10_3
  try clear hcz12_0
  try clear hcz12_1
  try clear hcz12_2
  try clear hcz12_3
  try clear hcz8_0
  try clear hcz8_1
  try clear hcz8_2
  try clear hcz8_3
  try clear hfz10_0
  try clear hfz10_1
  try clear hfz10_2
  try clear hfz10_3
  try clear hfz12_0
  try clear hfz12_1
  try clear hfz12_2
  try clear hfz12_3
  try clear hfz8_0
  try clear hfz8_1
  try clear hfz8_2
  try clear hfz8_3
  obtain ⟨kq, x22_2, rfl, HA, HJ2, BK376, HB⟩ := hcut
  cases kq with
  | zero => exact absurd HA.out (by simp [rehearsallaw04_TreeWays.j0])
  | succ kj2 =>
   have H := HA.out
   clear HA
   simp only [rehearsallaw04_TreeWays.j0] at H
   by_cases c14 : x22_2 = true
   ·
    subst c14
    have H1 : ((rehearsallaw04_awake.f kj2).bind fun t379 => (some t379)) = some r := by rw [if_pos rfl] at H; exact H
    clear H
    have H := H1
    clear H1
    replace H := Option.bind_eq_some_iff.mp H
    obtain ⟨t379, A150, H⟩ := H
    replace H : (some t379) = some r := H
    have A15 := Aside0.mk A150
    clear A150
    obtain rfl := Option.some.inj H
    go_wp2_with (first | ((with_reducible refine gate_callee (f := 16) rfl ?_); refine goesL_ (some 23) rfl rfl Tryd.func16 (by kernel_rfl) rfl #[] rfl (by (try simp only [List.map_toArray, List.map_cons, List.map_nil]); first | done | rfl | (simp only [List.length_drop, List.length_take]; rfl)) ?_; (with_reducible refine (rehearsallaw04_awake.calls kj2  t379 _ A15.out).mono ?_); rintro e w16 ⟨rfl, hb⟩; refine ⟨_, rfl, ?_⟩; have n0_ := Aside0.mk (blk_below (g := gb376) (o := .cells #[.slice A0_0 l0_0.length c0_0, .int .i64 a0_1, .int .i64 a0_2, .int .i64 a0_3] 26 (0, 0)) (by (with_reducible repeat (first | refine blk_drewN ?_ _ | refine blk_drew ?_ | refine blk_alloc ?_ _)); exact BK376.out) hb); have n1_ := Aside0.mk (below_step (by repeat (first | (with_reducible first | exact HB.out | apply below_alloc | apply pw_below_drewN | apply below_drew1 | refine below_set ?_ GE376.out) | exact HB.out)) hb); clear BK376; clear HB; have BK376 := n0_; have HB := n1_; clear n0_ n1_; (try clear hb); (try clear hb2); (try clear hk); (try clear hi)))
    go_ret
    exact ⟨by first | rfl | (simp [errW_none, errW_some] <;> rfl) | (simp [*, errW_none, errW_some] <;> rfl), by repeat (first | (with_reducible first | exact HB.out | apply below_alloc | apply pw_below_drewN | apply below_drew1 | refine below_set ?_ GE376.out) | exact HB.out)⟩
   ·
    replace c14 := Bool.eq_false_iff.mpr c14
    subst c14
    have H1 : (if (IntKind.u64.wrap ((l0_0.length : Int))) = 0 then (none) else (if 0 ≤ (Int.tmod a1 (IntKind.u64.wrap ((l0_0.length : Int)))) then (if (Int.tmod a1 (IntKind.u64.wrap ((l0_0.length : Int)))) < (l0_0.length : Int) then ((tree_Path.f l0_0 a0_1 a0_2 a0_3 ((rd_T44 l0_0 (Int.tmod a1 (IntKind.u64.wrap ((l0_0.length : Int))))).f0)).bind fun bt381 => (if bt381.2 = true then ((tree_Links.f kj2 l0_0 a0_1 a0_2 a0_3 ((rd_T44 l0_0 (Int.tmod a1 (IntKind.u64.wrap ((l0_0.length : Int))))).f0)).bind fun t383 => (rehearsallaw04_TreeWays.j1 kj2 ((rd_T44 l0_0 (Int.tmod a1 (IntKind.u64.wrap ((l0_0.length : Int))))).f0) bt381.1 ((decide (t383 > 0)) != (((rd_T44 l0_0 (Int.tmod a1 (IntKind.u64.wrap ((l0_0.length : Int))))).f0) != 1)) l0_0 a0_1 a0_2 a0_3)) else (rehearsallaw04_TreeWays.j1 kj2 ((rd_T44 l0_0 (Int.tmod a1 (IntKind.u64.wrap ((l0_0.length : Int))))).f0) bt381.1 true l0_0 a0_1 a0_2 a0_3))) else (none)) else (none))) = some r := by rw [if_neg (show ¬ (false = true) by decide)] at H; exact H
    clear H
    have H := H1
    clear H1
    by_cases c17 : (IntKind.u64.wrap ((l0_0.length : Int))) = 0
    ·
     rw [if_pos c17] at H
     exact absurd H (by simp)
    ·
     rw [if_neg c17] at H
     have c17b0 : ((IntKind.u64.wrap ((l0_0.length : Int))) == 0) = false := beq_eq_false_iff_ne.mpr c17
     have c17b1 : ((IntKind.u64.wrap ((l0_0.length : Int))) != 0) = true := bne_iff_ne.mpr c17
     obtain ⟨ji18, hji18⟩ : ∃ j_ : Int, (Int.tmod a1 (IntKind.u64.wrap ((l0_0.length : Int)))) = j_ := ⟨_, rfl⟩
     replace H : (if 0 ≤ (ji18) then (if (ji18) < (l0_0.length : Int) then ((tree_Path.f l0_0 a0_1 a0_2 a0_3 ((rd_T44 l0_0 (ji18)).f0)).bind fun bt381 => (if bt381.2 = true then ((tree_Links.f kj2 l0_0 a0_1 a0_2 a0_3 ((rd_T44 l0_0 (ji18)).f0)).bind fun t383 => (rehearsallaw04_TreeWays.j1 kj2 ((rd_T44 l0_0 (ji18)).f0) bt381.1 ((decide (t383 > 0)) != (((rd_T44 l0_0 (ji18)).f0) != 1)) l0_0 a0_1 a0_2 a0_3)) else (rehearsallaw04_TreeWays.j1 kj2 ((rd_T44 l0_0 (ji18)).f0) bt381.1 true l0_0 a0_1 a0_2 a0_3))) else (none)) else (none)) = some r := by first | (rw [hji18] at H; exact H) | (simp only [hji18] at H ⊢; exact H)
     by_cases c19 : 0 ≤ (ji18)
     ·
      rw [if_pos c19] at H
      have c19b0 : decide (0 ≤ (ji18)) = true := decide_eq_true c19
      clear c19
      by_cases c20 : (ji18) < (l0_0.length : Int)
      ·
       rw [if_pos c20] at H
       have c20b0 : decide ((ji18) < (l0_0.length : Int)) = true := decide_eq_true c20
       clear c20
       replace H := Option.bind_eq_some_iff.mp H
       obtain ⟨⟨t381, t382⟩, A210, H⟩ := H
       replace H : (if t382 = true then ((tree_Links.f kj2 l0_0 a0_1 a0_2 a0_3 ((rd_T44 l0_0 (ji18)).f0)).bind fun t383 => (rehearsallaw04_TreeWays.j1 kj2 ((rd_T44 l0_0 (ji18)).f0) t381 ((decide (t383 > 0)) != (((rd_T44 l0_0 (ji18)).f0) != 1)) l0_0 a0_1 a0_2 a0_3)) else (rehearsallaw04_TreeWays.j1 kj2 ((rd_T44 l0_0 (ji18)).f0) t381 true l0_0 a0_1 a0_2 a0_3)) = some r := H
       have A21 := Aside0.mk A210
       clear A210
       have HC22 := Aside0.mk H
       clear H
       try go_wp2
       have n0_ := Aside0.mk (blk_drew BK376.out)
       have n1_ := Aside0.mk (below_drew1 HB.out)
       clear BK376
       clear HB
       have BK376 := n0_
       have HB := n1_
       clear n0_ n1_
       have p380 : 0 ≤ ((ji18) : Int) := of_decide_eq_true (by first | (with_reducible assumption) | assumption)
       have q380 : (ji18) < (l0_0.length : Int) := of_decide_eq_true (by first | (with_reducible assumption) | assumption)
       obtain ⟨ad380, A380_6, c380_6, e380, hx380_0, hx380_1, hx380_2, hx380_3, hx380_4, hx380_5, hx380_6, hl380_6, hi380_6⟩ := at_T44 HR0_0.out (ji18) p380 q380
       have hw380_6 := hx380_6
       have hw380_5 := hx380_5
       have hw380_4 := hx380_4
       have hw380_3 := hx380_3
       have hw380_2 := hx380_2
       have hw380_1 := hx380_1
       have hw380_0 := hx380_0
       cases e380
       replace hx380_0 := (HB.out.cell (World.block_lt_of_cell? w _ hx380_0)).trans hx380_0
       replace hx380_1 := (HB.out.cell (World.block_lt_of_cell? w _ hx380_1)).trans hx380_1
       replace hx380_2 := (HB.out.cell (World.block_lt_of_cell? w _ hx380_2)).trans hx380_2
       replace hx380_3 := (HB.out.cell (World.block_lt_of_cell? w _ hx380_3)).trans hx380_3
       replace hx380_4 := (HB.out.cell (World.block_lt_of_cell? w _ hx380_4)).trans hx380_4
       replace hx380_5 := (HB.out.cell (World.block_lt_of_cell? w _ hx380_5)).trans hx380_5
       replace hx380_6 := (HB.out.cell (World.block_lt_of_cell? w _ hx380_6)).trans hx380_6
       have HR380_6 := Aside0.mk hi380_6
       have HC380_6 := Aside0.mk hl380_6
       clear hi380_6 hl380_6
       replace p380 := eq_true p380
       replace q380 := eq_true q380
       refine start_ (n := 12) (S := fun w' => w'.cell? ⟨gb376, 0, none⟩ = some (.slice (some ad380) l0_0.length c0_0) ∧ w'.cell? ⟨gb376, 1, none⟩ = some (.int .i64 a0_1) ∧ w'.cell? ⟨gb376, 2, none⟩ = some (.int .i64 a0_2) ∧ w'.cell? ⟨gb376, 3, none⟩ = some (.int .i64 a0_3) ∧ w'.cell? (ad380.add (((ji18)).toNat * 7)) = some (.int .i64 ((rd_T44 l0_0 (ji18)).f0)) ∧ w'.cell? ⟨(ad380.add (((ji18)).toNat * 7)).block, (ad380.add (((ji18)).toNat * 7)).off + 1, none⟩ = some (.int .i64 ((rd_T44 l0_0 (ji18)).f1)) ∧ w'.cell? ⟨(ad380.add (((ji18)).toNat * 7)).block, (ad380.add (((ji18)).toNat * 7)).off + 2, none⟩ = some (.int .i64 ((rd_T44 l0_0 (ji18)).f2)) ∧ w'.cell? ⟨(ad380.add (((ji18)).toNat * 7)).block, (ad380.add (((ji18)).toNat * 7)).off + 3, none⟩ = some (.int .i64 ((rd_T44 l0_0 (ji18)).f3)) ∧ w'.cell? ⟨(ad380.add (((ji18)).toNat * 7)).block, (ad380.add (((ji18)).toNat * 7)).off + 4, none⟩ = some (.int .i64 ((rd_T44 l0_0 (ji18)).f4)) ∧ w'.cell? ⟨(ad380.add (((ji18)).toNat * 7)).block, (ad380.add (((ji18)).toNat * 7)).off + 5, none⟩ = some (.string ((rd_T44 l0_0 (ji18)).f5)) ∧ w'.cell? ⟨(ad380.add (((ji18)).toNat * 7)).block, (ad380.add (((ji18)).toNat * 7)).off + 6, none⟩ = some (.slice A380_6 ((rd_T44 l0_0 (ji18)).f6).length c380_6)) (ds := []) #[false, false, false, false, false, false, false, false, false, false, false, false] (by kernel_rfl) rfl rfl ⟨(blk_cell BK376.out 0).trans rfl, (blk_cell BK376.out 1).trans rfl, (blk_cell BK376.out 2).trans rfl, (blk_cell BK376.out 3).trans rfl, ((HB.out.cell (World.block_lt_of_cell? w _ hw380_0)).trans hw380_0), ((HB.out.cell (World.block_lt_of_cell? w _ hw380_1)).trans hw380_1), ((HB.out.cell (World.block_lt_of_cell? w _ hw380_2)).trans hw380_2), ((HB.out.cell (World.block_lt_of_cell? w _ hw380_3)).trans hw380_3), ((HB.out.cell (World.block_lt_of_cell? w _ hw380_4)).trans hw380_4), ((HB.out.cell (World.block_lt_of_cell? w _ hw380_5)).trans hw380_5), ((HB.out.cell (World.block_lt_of_cell? w _ hw380_6)).trans hw380_6)⟩ (fun hHeld => ?_); refine with_tabW rehearsallaw04_TreeWays.tab3 rehearsallaw04_TreeWays.bits3 (fun HT_ HW_ => ?_)
       generalize wc.drew = w23 at BK376 HB HR380_6 hx380_0 hx380_1 hx380_2 hx380_3 hx380_4 hx380_5 hx380_6 hHeld ⊢
       iterate 5 (((first | refine takeS_ 0 (N := some 24) (v := ?_) (a' := ?_) rfl rfl (by decide +kernel) (fun _ _ _ h => h) (Or.inl ⟨by rfl, ?_⟩) hHeld ?_ ?_ | refine takeS_ 2 (N := some 26) (v := ?_) (a' := ?_) rfl rfl (by decide +kernel) (fun _ _ _ h => h) (Or.inl ⟨by rfl, ?_⟩) hHeld ?_ ?_ | refine takeS_ 3 (N := some 27) (v := ?_) (a' := ?_) rfl rfl (by decide +kernel) (fun _ _ _ h => h) (Or.inl ⟨by rfl, ?_⟩) hHeld ?_ ?_ | refine takeS_ 1 (N := some 25) (v := ?_) (a' := ?_) rfl rfl (by decide +kernel) (fun _ _ _ h => h) (Or.inl ⟨by rfl, ?_⟩) hHeld ?_ ?_ | refine takeS_ 4 (N := some 28) (v := ?_) (a' := ?_) rfl rfl (by decide +kernel) (fun _ _ _ h => h) (Or.inl ⟨by rfl, ?_⟩) hHeld ?_ ?_); rotate_left; (rintro w' ⟨s0, s1, s2, s3, s4, s5, s6, s7, s8, s9, s10⟩; go_simp; first | done | (with_reducible rfl) | rfl); rotate_left; (simp only [Act.put, List.setIfInBounds_toArray, List.set_cons_zero, List.set_cons_succ, i64_w, i32_w]; rfl)))
       iterate 5 (((first | refine takeS_ 5 (N := some 29) (v := ?_) (a' := ?_) rfl rfl (by decide +kernel) (fun _ _ _ h => h) (Or.inl ⟨by rfl, ?_⟩) hHeld ?_ ?_ | refine takeS_ 6 (N := some 30) (v := ?_) (a' := ?_) rfl rfl (by decide +kernel) (fun _ _ _ h => h) (Or.inl ⟨by rfl, ?_⟩) hHeld ?_ ?_ | refine takeS_ 7 (N := some 31) (v := ?_) (a' := ?_) rfl rfl (by decide +kernel) (fun _ _ _ h => h) (Or.inl ⟨by rfl, ?_⟩) hHeld ?_ ?_ | refine takeS_ 8 (N := some 32) (v := ?_) (a' := ?_) rfl rfl (by decide +kernel) (fun _ _ _ h => h) (Or.inl ⟨by rfl, ?_⟩) hHeld ?_ ?_ | refine takeS_ 9 (N := some 33) (v := ?_) (a' := ?_) rfl rfl (by decide +kernel) (fun _ _ _ h => h) (Or.inl ⟨by rfl, ?_⟩) hHeld ?_ ?_); rotate_left; (rintro w' ⟨s0, s1, s2, s3, s4, s5, s6, s7, s8, s9, s10⟩; go_simp; first | done | (with_reducible rfl) | rfl); rotate_left; (simp only [Act.put, List.setIfInBounds_toArray, List.set_cons_zero, List.set_cons_succ, i64_w, i32_w]; rfl)))
       iterate 2 (((first | refine takeS_ 10 (N := some 34) (v := ?_) (a' := ?_) rfl rfl (by decide +kernel) (fun _ _ _ h => h) (Or.inl ⟨by rfl, ?_⟩) hHeld ?_ ?_ | refine takeS_ 11 (N := some 5) (v := ?_) (a' := ?_) rfl rfl (by decide +kernel) (fun _ _ _ h => h) (Or.inl ⟨by rfl, ?_⟩) hHeld ?_ ?_); rotate_left; (rintro w' ⟨s0, s1, s2, s3, s4, s5, s6, s7, s8, s9, s10⟩; go_simp; first | done | (with_reducible rfl) | rfl); rotate_left; (simp only [Act.put, List.setIfInBounds_toArray, List.set_cons_zero, List.set_cons_succ, i64_w, i32_w]; rfl)))
       refine done_ (done_of HT_.out (by kernel_rfl)) ?_
       have hcz24_0 : w23.cell? ⟨gb376, 0, none⟩ = some (.slice (some ad380) l0_0.length c0_0) := (blk_cell BK376.out 0).trans rfl
       have hcz24_1 : w23.cell? ⟨gb376, 1, none⟩ = some (.int .i64 a0_1) := (blk_cell BK376.out 1).trans rfl
       have hcz24_2 : w23.cell? ⟨gb376, 2, none⟩ = some (.int .i64 a0_2) := (blk_cell BK376.out 2).trans rfl
       have hcz24_3 : w23.cell? ⟨gb376, 3, none⟩ = some (.int .i64 a0_3) := (blk_cell BK376.out 3).trans rfl
       have hfz24_0 := blk_frozen BK376.out 0
       have hfz24_1 := blk_frozen BK376.out 1
       have hfz24_2 := blk_frozen BK376.out 2
       have hfz24_3 := blk_frozen BK376.out 3
       go_upto_region 5 with (first | ((with_reducible refine gate_callee (f := 22) rfl ?_); refine goesL_ (some 38) rfl rfl Tryd.func22 (by kernel_rfl) rfl #[.agg #[.slice (some ad380) l0_0.length c0_0, .int .i64 a0_1, .int .i64 a0_2, .int .i64 a0_3], .int .i64 ((rd_T44 l0_0 (ji18)).f0)] rfl (by (try simp only [List.map_toArray, List.map_cons, List.map_nil]); first | done | (simp only [hji18]; rfl) | rfl | (simp only [List.length_drop, List.length_take]; rfl)) ?_; (with_reducible refine (tree_Path.calls _ _ l0_0 a0_1 a0_2 a0_3 ((rd_T44 l0_0 (ji18)).f0) t381 t382 _ ?side1 ?side2 A21.out).mono ?_); (case side1 => repeat (first | exact (Kd.C_below HR0_0.out HB.out) | (with_reducible refine Kd.C_alloc ?_ _) | (with_reducible refine Kd.C_drewN ?_ _) | (with_reducible refine Kd.C_drew ?_))); (case side2 => exact HC0_0.out); rintro e w25 ⟨rfl, hb⟩; refine ⟨_, rfl, ?_⟩; have n0_ := Aside0.mk (blk_below (g := gb376) (o := .cells #[.slice (some ad380) l0_0.length c0_0, .int .i64 a0_1, .int .i64 a0_2, .int .i64 a0_3] 26 (0, 0)) (by (with_reducible repeat (first | refine blk_drewN ?_ _ | refine blk_drew ?_ | refine blk_alloc ?_ _)); exact BK376.out) hb); have n1_ := Aside0.mk (below_step (by repeat (first | (with_reducible first | exact HB.out | apply below_alloc | apply pw_below_drewN | apply below_drew1 | refine below_set ?_ GE376.out) | exact HB.out)) hb); clear BK376; clear HB; have BK376 := n0_; have HB := n1_; clear n0_ n1_; (try clear hb); (try clear hb2); (try clear hk); (try clear hi)))
       (try simp only [Act.put, List.setIfInBounds_toArray, List.set_cons_zero, List.set_cons_succ])
       go_cut [51] (fun v51 wc => ∃ (kq : Nat) (x51_21 : Bool), v51 = .bool x51_21 ∧ Aside0 (rehearsallaw04_TreeWays.j1 kq ((rd_T44 l0_0 (ji18)).f0) t381 x51_21 l0_0 a0_1 a0_2 a0_3 = some r) ∧ Aside0 (kq ≤ kj2) ∧ Aside0 (wc.heap[gb376]? = some (.cells #[(.slice (some ad380) l0_0.length c0_0), .int .i64 a0_1, .int .i64 a0_2, .int .i64 a0_3] 26 (0, 0))) ∧ Aside0 (Below w.heap.size w wc))
       case first =>
        have H := HC22.out
        clear HC22
        by_cases c26 : t382 = true
        ·
         subst c26
         have H1 : ((tree_Links.f kj2 l0_0 a0_1 a0_2 a0_3 ((rd_T44 l0_0 (ji18)).f0)).bind fun t383 => (rehearsallaw04_TreeWays.j1 kj2 ((rd_T44 l0_0 (ji18)).f0) t381 ((decide (t383 > 0)) != (((rd_T44 l0_0 (ji18)).f0) != 1)) l0_0 a0_1 a0_2 a0_3)) = some r := by rw [if_pos rfl] at H; exact H
         clear H
         have H := H1
         clear H1
         replace H := Option.bind_eq_some_iff.mp H
         obtain ⟨t383, A270, H⟩ := H
         replace H : (rehearsallaw04_TreeWays.j1 kj2 ((rd_T44 l0_0 (ji18)).f0) t381 ((decide (t383 > 0)) != (((rd_T44 l0_0 (ji18)).f0) != 1)) l0_0 a0_1 a0_2 a0_3) = some r := H
         have A27 := Aside0.mk A270
         clear A270
         have H' := Aside0.mk H
         clear H
         have hcz28_0 : w25.cell? ⟨gb376, 0, none⟩ = some (.slice (some ad380) l0_0.length c0_0) := (blk_cell BK376.out 0).trans rfl
         have hcz28_1 : w25.cell? ⟨gb376, 1, none⟩ = some (.int .i64 a0_1) := (blk_cell BK376.out 1).trans rfl
         have hcz28_2 : w25.cell? ⟨gb376, 2, none⟩ = some (.int .i64 a0_2) := (blk_cell BK376.out 2).trans rfl
         have hcz28_3 : w25.cell? ⟨gb376, 3, none⟩ = some (.int .i64 a0_3) := (blk_cell BK376.out 3).trans rfl
         have hfz28_0 := blk_frozen BK376.out 0
         have hfz28_1 := blk_frozen BK376.out 1
         have hfz28_2 := blk_frozen BK376.out 2
         have hfz28_3 := blk_frozen BK376.out 3
         go_wp2_with (first | (go_at_call 33; (with_reducible refine (tree_Links.calls kj2 _ _ l0_0 a0_1 a0_2 a0_3 ((rd_T44 l0_0 (ji18)).f0) t383 _ ?side1 ?side2 A27.out).mono ?_); (case side1 => repeat (first | exact (Kd.C_below HR0_0.out HB.out) | (with_reducible refine Kd.C_alloc ?_ _) | (with_reducible refine Kd.C_drewN ?_ _) | (with_reducible refine Kd.C_drew ?_))); (case side2 => exact HC0_0.out); rintro e w29 ⟨rfl, hb⟩; have n0_ := Aside0.mk (blk_below (g := gb376) (o := .cells #[.slice (some ad380) l0_0.length c0_0, .int .i64 a0_1, .int .i64 a0_2, .int .i64 a0_3] 26 (0, 0)) (by (with_reducible repeat (first | refine blk_drewN ?_ _ | refine blk_drew ?_ | refine blk_alloc ?_ _)); exact BK376.out) hb); have n1_ := Aside0.mk (below_step (by repeat (first | (with_reducible first | exact HB.out | apply below_alloc | apply pw_below_drewN | apply below_drew1 | refine below_set ?_ GE376.out) | exact HB.out)) hb); clear BK376; clear HB; have BK376 := n0_; have HB := n1_; clear n0_ n1_; (try clear hb); (try clear hb2); (try clear hk); (try clear hi)))
         go_meet
         case rel => exact ⟨_, (((decide (t383 > 0)) != (((rd_T44 l0_0 (ji18)).f0) != 1))), (by first | rfl | (simp; done) | (simp only [← hji18] <;> (first | rfl | simp)) | (simp [*]; done)), (by first | exact H' | (rw [hji18]; exact H') | (simp only [hji18]; exact H')), ⟨by have := HJ2.out; first | omega | exact Nat.le_refl _⟩, ⟨by (with_reducible repeat (first | refine blk_drewN ?_ _ | refine blk_drew ?_ | refine blk_alloc ?_ _)); exact BK376.out⟩, ⟨by repeat (first | (with_reducible first | exact HB.out | apply below_alloc | apply pw_below_drewN | apply below_drew1 | refine below_set ?_ GE376.out) | exact HB.out)⟩⟩
        ·
         replace c26 := Bool.eq_false_iff.mpr c26
         subst c26
         have H1 : (rehearsallaw04_TreeWays.j1 kj2 ((rd_T44 l0_0 (ji18)).f0) t381 true l0_0 a0_1 a0_2 a0_3) = some r := by rw [if_neg (show ¬ (false = true) by decide)] at H; exact H
         clear H
         have H := H1
         clear H1
         have H' := Aside0.mk H
         clear H
         go_wp2
         go_meet
         case rel => exact ⟨_, (true), (by first | rfl | (simp; done) | (simp [*]; done)), H', ⟨by have := HJ2.out; first | omega | exact Nat.le_refl _⟩, ⟨by (with_reducible repeat (first | refine blk_drewN ?_ _ | refine blk_drew ?_ | refine blk_alloc ?_ _)); exact BK376.out⟩, ⟨by repeat (first | (with_reducible first | exact HB.out | apply below_alloc | apply pw_below_drewN | apply below_drew1 | refine below_set ?_ GE376.out) | exact HB.out)⟩⟩
       case rest =>
        clear HC22
        try clear c1
        try clear c2
        try clear p2
        try clear c3
        try clear p3
        try clear q3
        try clear hx3
        try clear c6
        try clear c14
        try clear c15
        try clear c16
        try clear c17
        try clear c17b0
        try clear c17b1
        try clear c19
        try clear c19b0
        try clear c20
        try clear c20b0
        try clear c22
        try clear c26
        try clear hcz10_0
        try clear hcz10_1
        try clear hcz10_2
        try clear hcz10_3
        try clear hcz12_0
        try clear hcz12_1
        try clear hcz12_2
        try clear hcz12_3
        try clear hcz24_0
        try clear hcz24_1
        try clear hcz24_2
        try clear hcz24_3
        try clear hcz28_0
        try clear hcz28_1
        try clear hcz28_2
        try clear hcz28_3
        try clear hcz8_0
        try clear hcz8_1
        try clear hcz8_2
        try clear hcz8_3
        try clear hfz10_0
        try clear hfz10_1
        try clear hfz10_2
        try clear hfz10_3
        try clear hfz12_0
        try clear hfz12_1
        try clear hfz12_2
        try clear hfz12_3
        try clear hfz24_0
        try clear hfz24_1
        try clear hfz24_2
        try clear hfz24_3
        try clear hfz28_0
        try clear hfz28_1
        try clear hfz28_2
        try clear hfz28_3
        try clear hfz8_0
        try clear hfz8_1
        try clear hfz8_2
        try clear hfz8_3
        try clear hx380_0
        try clear hx380_1
        try clear hx380_2
        try clear hx380_3
        try clear hx380_4
        try clear hx380_5
        try clear hx380_6
        try clear p2
        try clear p380
        try clear q380
        obtain ⟨kq, x51_21, rfl, HA, HJ21, BK376, HB⟩ := hcut
        cases kq with
        | zero => exact absurd HA.out (by simp [rehearsallaw04_TreeWays.j1])
        | succ kj21 =>
         have H := HA.out
         clear HA
         simp only [rehearsallaw04_TreeWays.j1] at H
         by_cases c30 : x51_21 = true
         ·
          subst c30
          have H1 : (some false) = some r := by rw [if_pos rfl] at H; exact H
          clear H
          have H := H1
          clear H1
          obtain rfl := Option.some.inj H
          go_wp2
          go_ret
          exact ⟨by first | rfl | (simp [errW_none, errW_some] <;> rfl) | (simp only [← hji18]; first | rfl | (simp [errW_none, errW_some] <;> rfl)) | (simp [*, errW_none, errW_some] <;> rfl), by repeat (first | (with_reducible first | exact HB.out | apply below_alloc | apply pw_below_drewN | apply below_drew1 | refine below_set ?_ GE376.out) | exact HB.out)⟩
         ·
          replace c30 := Bool.eq_false_iff.mpr c30
          subst c30
          have H1 : (rehearsallaw04_TreeWays.l0 kj21 ((rd_T44 l0_0 (ji18)).f0) t381 1 1 l0_0 a0_1 a0_2 a0_3) = some r := by rw [if_neg (show ¬ (false = true) by decide)] at H; exact H
          clear H
          have H := H1
          clear H1
          have H' := Aside0.mk H
          clear H
          go_wp2
          go_loopg [8, 9] kj21 (fun kq v8 v9 w' => ∃ (x8_3 : Int) (x9_3 : Int), v8 = .int .i64 x8_3 ∧ v9 = .int .i64 x9_3 ∧ Aside0 (rehearsallaw04_TreeWays.l0 kq ((rd_T44 l0_0 (ji18)).f0) t381 x8_3 x9_3 l0_0 a0_1 a0_2 a0_3 = some r) ∧ Aside0 (kq ≤ kj21) ∧ Aside0 (w'.heap[gb376]? = some (.cells #[(.slice (some ad380) l0_0.length c0_0), .int .i64 a0_1, .int .i64 a0_2, .int .i64 a0_3] 26 (0, 0))) ∧ Aside0 (Below w.heap.size w w'))
          case atStart => exact ⟨(1), (1), (by first | rfl | (simp; done) | (simp [*]; done)), (by first | rfl | (simp; done) | (simp [*]; done)), H', ⟨Nat.le_refl _⟩, ⟨by (with_reducible repeat (first | refine blk_drewN ?_ _ | refine blk_drew ?_ | refine blk_alloc ?_ _)); exact BK376.out⟩, ⟨by repeat (first | (with_reducible first | exact HB.out | apply below_alloc | apply pw_below_drewN | apply below_drew1 | refine below_set ?_ GE376.out) | exact HB.out)⟩⟩
          case round =>
           clear H'
           try clear c1
           try clear c2
           try clear p2
           try clear c3
           try clear p3
           try clear q3
           try clear hx3
           try clear c6
           try clear c14
           try clear c15
           try clear c16
           try clear c17
           try clear c17b0
           try clear c17b1
           try clear c19
           try clear c19b0
           try clear c20
           try clear c20b0
           try clear c22
           try clear c26
           try clear c30
           try clear hcz10_0
           try clear hcz10_1
           try clear hcz10_2
           try clear hcz10_3
           try clear hcz12_0
           try clear hcz12_1
           try clear hcz12_2
           try clear hcz12_3
           try clear hcz24_0
           try clear hcz24_1
           try clear hcz24_2
           try clear hcz24_3
           try clear hcz28_0
           try clear hcz28_1
           try clear hcz28_2
           try clear hcz28_3
           try clear hcz8_0
           try clear hcz8_1
           try clear hcz8_2
           try clear hcz8_3
           try clear hfz10_0
           try clear hfz10_1
           try clear hfz10_2
           try clear hfz10_3
           try clear hfz12_0
           try clear hfz12_1
           try clear hfz12_2
           try clear hfz12_3
           try clear hfz24_0
           try clear hfz24_1
           try clear hfz24_2
           try clear hfz24_3
           try clear hfz28_0
           try clear hfz28_1
           try clear hfz28_2
           try clear hfz28_3
           try clear hfz8_0
           try clear hfz8_1
           try clear hfz8_2
           try clear hfz8_3
           try clear hx380_0
           try clear hx380_1
           try clear hx380_2
           try clear hx380_3
           try clear hx380_4
           try clear hx380_5
           try clear hx380_6
           try clear p2
           try clear p3
           try clear p380
           try clear q3
           try clear q380
           obtain ⟨x8_3, x9_3, rfl, rfl, HA, HK3, BK376, HB⟩ := hrel
           cases gk with
           | zero => exact absurd HA.out (by simp [rehearsallaw04_TreeWays.l0])
           | succ k3 =>
            have H := HA.out
            clear HA
            simp only [rehearsallaw04_TreeWays.l0] at H
            by_cases c31 : x9_3 < (t381.size : Int)
            ·
             rw [if_pos c31] at H
             have c31b0 : decide (x9_3 < (t381.size : Int)) = true := decide_eq_true c31
             clear c31
             have HC32 := Aside0.mk H
             clear H
             go_upto_block 2 with (fail)
             go_cut [10] (fun v10 wc => ∃ (kq : Nat) (x10_31 : Int), v10 = .int .i64 x10_31 ∧ Aside0 (rehearsallaw04_TreeWays.j4 kq ((rd_T44 l0_0 (ji18)).f0) t381 x8_3 x9_3 x10_31 l0_0 a0_1 a0_2 a0_3 = some r) ∧ Aside0 (kq ≤ k3) ∧ Aside0 (wc.heap[gb376]? = some (.cells #[(.slice (some ad380) l0_0.length c0_0), .int .i64 a0_1, .int .i64 a0_2, .int .i64 a0_3] 26 (0, 0))) ∧ Aside0 (Below w.heap.size w wc))
             case first =>
              have H := HC32.out
              clear HC32
              have H' := Aside0.mk H
              clear H
              go_wp2
              go_loopg [10] k3 (fun kq v10 w' => ∃ (x10_4 : Int), v10 = .int .i64 x10_4 ∧ Aside0 (rehearsallaw04_TreeWays.l1 kq ((rd_T44 l0_0 (ji18)).f0) t381 x8_3 x9_3 x10_4 l0_0 a0_1 a0_2 a0_3 = some r) ∧ Aside0 (kq ≤ k3) ∧ Aside0 (w'.heap[gb376]? = some (.cells #[(.slice (some ad380) l0_0.length c0_0), .int .i64 a0_1, .int .i64 a0_2, .int .i64 a0_3] 26 (0, 0))) ∧ Aside0 (Below w.heap.size w w'))
              case atStart => exact ⟨(x9_3), (by first | rfl | (simp; done) | (simp [*]; done)), H', ⟨Nat.le_refl _⟩, ⟨by (with_reducible repeat (first | refine blk_drewN ?_ _ | refine blk_drew ?_ | refine blk_alloc ?_ _)); exact BK376.out⟩, ⟨by repeat (first | (with_reducible first | exact HB.out | apply below_alloc | apply pw_below_drewN | apply below_drew1 | refine below_set ?_ GE376.out) | exact HB.out)⟩⟩
              case round =>
               clear H'
               try clear c1
               try clear c2
               try clear p2
               try clear c3
               try clear p3
               try clear q3
               try clear hx3
               try clear c6
               try clear c14
               try clear c15
               try clear c16
               try clear c17
               try clear c17b0
               try clear c17b1
               try clear c19
               try clear c19b0
               try clear c20
               try clear c20b0
               try clear c22
               try clear c26
               try clear c30
               try clear c31
               try clear c31b0
               try clear hcz10_0
               try clear hcz10_1
               try clear hcz10_2
               try clear hcz10_3
               try clear hcz12_0
               try clear hcz12_1
               try clear hcz12_2
               try clear hcz12_3
               try clear hcz24_0
               try clear hcz24_1
               try clear hcz24_2
               try clear hcz24_3
               try clear hcz28_0
               try clear hcz28_1
               try clear hcz28_2
               try clear hcz28_3
               try clear hcz8_0
               try clear hcz8_1
               try clear hcz8_2
               try clear hcz8_3
               try clear hfz10_0
               try clear hfz10_1
               try clear hfz10_2
               try clear hfz10_3
               try clear hfz12_0
               try clear hfz12_1
               try clear hfz12_2
               try clear hfz12_3
               try clear hfz24_0
               try clear hfz24_1
               try clear hfz24_2
               try clear hfz24_3
               try clear hfz28_0
               try clear hfz28_1
               try clear hfz28_2
               try clear hfz28_3
               try clear hfz8_0
               try clear hfz8_1
               try clear hfz8_2
               try clear hfz8_3
               try clear hx380_0
               try clear hx380_1
               try clear hx380_2
               try clear hx380_3
               try clear hx380_4
               try clear hx380_5
               try clear hx380_6
               try clear p2
               try clear p3
               try clear p380
               try clear q3
               try clear q380
               obtain ⟨x10_4, rfl, HA, HK4, BK376, HB⟩ := hrel
               cases gk with
               | zero => exact absurd HA.out (by simp [rehearsallaw04_TreeWays.l1])
               | succ k4 =>
                have H := HA.out
                clear HA
                simp only [rehearsallaw04_TreeWays.l1] at H
                by_cases c33 : x10_4 < (t381.size : Int)
                ·
                 rw [if_pos c33] at H
                 have c33b0 : decide (x10_4 < (t381.size : Int)) = true := decide_eq_true c33
                 clear c33
                 (first | rw [c33b0] | (simp only [i64_w, i32_w]; rw [c33b0]) | skip)
                 by_cases c34 : 0 ≤ x10_4
                 ·
                  rw [if_pos c34] at H
                  have c34b0 : decide (0 ≤ x10_4) = true := decide_eq_true c34
                  clear c34
                  by_cases c36 : (bt t381 x10_4) = 47
                  ·
                   rw [if_pos c36] at H
                   have c36b0 : ((bt t381 x10_4) == 47) = true := beq_iff_eq.mpr c36
                   have c36b1 : ((bt t381 x10_4) != 47) = false := bne_eq_false_iff_eq.mpr c36
                   clear c36
                   have H' := Aside0.mk H
                   clear H
                   have p35 : 0 ≤ (x10_4 : Int) := of_decide_eq_true (by first | (with_reducible assumption) | assumption)
                   have q35 : x10_4 < (t381.size : Int) := of_decide_eq_true (by first | (with_reducible assumption) | assumption)
                   have hx35 := bt_at t381 x10_4
                   replace p35 := eq_true p35
                   replace q35 := eq_true q35
                   go_wp2
                   go_meet
                   case rel => exact ⟨_, (x10_4), (by first | rfl | (simp; done) | (simp [*]; done)), H', ⟨by have := HJ2.out; have := HJ21.out; have := HK3.out; have := HK4.out; first | omega | exact Nat.le_refl _⟩, ⟨by (with_reducible repeat (first | refine blk_drewN ?_ _ | refine blk_drew ?_ | refine blk_alloc ?_ _)); exact BK376.out⟩, ⟨by repeat (first | (with_reducible first | exact HB.out | apply below_alloc | apply pw_below_drewN | apply below_drew1 | refine below_set ?_ GE376.out) | exact HB.out)⟩⟩
                  ·
                   rw [if_neg c36] at H
                   have c36b0 : ((bt t381 x10_4) == 47) = false := beq_eq_false_iff_ne.mpr c36
                   have c36b1 : ((bt t381 x10_4) != 47) = true := bne_iff_ne.mpr c36
                   have H' := Aside0.mk H
                   clear H
                   have p35 : 0 ≤ (x10_4 : Int) := of_decide_eq_true (by first | (with_reducible assumption) | assumption)
                   have q35 : x10_4 < (t381.size : Int) := of_decide_eq_true (by first | (with_reducible assumption) | assumption)
                   have hx35 := bt_at t381 x10_4
                   replace p35 := eq_true p35
                   replace q35 := eq_true q35
                   go_wp2
                   go_roundg k4
                   case measure => have := HJ2.out; have := HJ21.out; have := HK3.out; have := HK4.out; omega
                   case rel => exact ⟨(wrap64 (x10_4 + 1)), (by first | rfl | (simp; done) | (simp [*]; done)), H', ⟨by have := HJ2.out; have := HJ21.out; have := HK3.out; have := HK4.out; omega⟩, ⟨by (with_reducible repeat (first | refine blk_drewN ?_ _ | refine blk_drew ?_ | refine blk_alloc ?_ _)); exact BK376.out⟩, ⟨by repeat (first | (with_reducible first | exact HB.out | apply below_alloc | apply pw_below_drewN | apply below_drew1 | refine below_set ?_ GE376.out) | exact HB.out)⟩⟩
                 ·
                  rw [if_neg c34] at H
                  exact absurd H (by simp)
                ·
                 rw [if_neg c33] at H
                 have c33b0 : decide (x10_4 < (t381.size : Int)) = false := decide_eq_false c33
                 clear c33
                 (first | rw [c33b0] | (simp only [i64_w, i32_w]; rw [c33b0]) | skip)
                 have H' := Aside0.mk H
                 clear H
                 go_wp2
                 go_meet
                 case rel => exact ⟨_, (x10_4), (by first | rfl | (simp; done) | (simp [*]; done)), H', ⟨by have := HJ2.out; have := HJ21.out; have := HK3.out; have := HK4.out; first | omega | exact Nat.le_refl _⟩, ⟨by (with_reducible repeat (first | refine blk_drewN ?_ _ | refine blk_drew ?_ | refine blk_alloc ?_ _)); exact BK376.out⟩, ⟨by repeat (first | (with_reducible first | exact HB.out | apply below_alloc | apply pw_below_drewN | apply below_drew1 | refine below_set ?_ GE376.out) | exact HB.out)⟩⟩
             case rest =>
              clear HC32
              try clear c1
              try clear c2
              try clear p2
              try clear c3
              try clear p3
              try clear q3
              try clear hx3
              try clear c6
              try clear p6
              try clear c14
              try clear c15
              try clear c16
              try clear c17
              try clear c17b0
              try clear c17b1
              try clear c19
              try clear c19b0
              try clear c20
              try clear c20b0
              try clear c22
              try clear c26
              try clear c30
              try clear c31
              try clear c31b0
              try clear c33
              try clear c33b0
              try clear c34
              try clear c34b0
              try clear p35
              try clear q35
              try clear hx35
              try clear c36
              try clear c36b0
              try clear c36b1
              try clear hcz10_0
              try clear hcz10_1
              try clear hcz10_2
              try clear hcz10_3
              try clear hcz12_0
              try clear hcz12_1
              try clear hcz12_2
              try clear hcz12_3
              try clear hcz24_0
              try clear hcz24_1
              try clear hcz24_2
              try clear hcz24_3
              try clear hcz28_0
              try clear hcz28_1
              try clear hcz28_2
              try clear hcz28_3
              try clear hcz8_0
              try clear hcz8_1
              try clear hcz8_2
              try clear hcz8_3
              try clear hfz10_0
              try clear hfz10_1
              try clear hfz10_2
              try clear hfz10_3
              try clear hfz12_0
              try clear hfz12_1
              try clear hfz12_2
              try clear hfz12_3
              try clear hfz24_0
              try clear hfz24_1
              try clear hfz24_2
              try clear hfz24_3
              try clear hfz28_0
              try clear hfz28_1
              try clear hfz28_2
              try clear hfz28_3
              try clear hfz8_0
              try clear hfz8_1
              try clear hfz8_2
              try clear hfz8_3
              try clear hx380_0
              try clear hx380_1
              try clear hx380_2
              try clear hx380_3
              try clear hx380_4
              try clear hx380_5
              try clear hx380_6
              try clear p2
              try clear p3
              try clear p35
              try clear p380
              try clear q3
              try clear q35
              try clear q380
              obtain ⟨kq, x10_31, rfl, HA, HJ31, BK376, HB⟩ := hcut
              cases kq with
              | zero => exact absurd HA.out (by simp [rehearsallaw04_TreeWays.j4])
              | succ kj31 =>
               have H := HA.out
               clear HA
               simp only [rehearsallaw04_TreeWays.j4] at H
               replace H := Option.bind_eq_some_iff.mp H
               obtain ⟨⟨t385, t386, t387, t388, t389, t390, t391, t394⟩, A370, H⟩ := H
               replace H : (if 0 ≤ x9_3 then (if x9_3 ≤ x10_31 then (if x10_31 ≤ (t381.size : Int) then ((tree_Child.f kj31 t385 t386 t387 t388 t389 t390 t391 (t381.extract (x9_3 : Int).toNat (x10_31 : Int).toNat)).bind fun bt396 => (if t394 = true then (if bt396.2 = true then (rehearsallaw04_TreeWays.l0 kj31 ((rd_T44 l0_0 (ji18)).f0) t381 bt396.1 (wrap64 (x10_31 + 1)) l0_0 a0_1 a0_2 a0_3) else (some false)) else (some false))) else (none)) else (none)) else (none)) = some r := H
               have A37 := Aside0.mk A370
               clear A370
               by_cases c38 : 0 ≤ x9_3
               ·
                rw [if_pos c38] at H
                have c38b0 := eq_true c38
                have c38b1 : decide (0 ≤ x9_3) = true := decide_eq_true c38
                clear c38
                by_cases c39 : x9_3 ≤ x10_31
                ·
                 rw [if_pos c39] at H
                 have c39b0 := eq_true c39
                 have c39b1 : decide (x9_3 ≤ x10_31) = true := decide_eq_true c39
                 clear c39
                 by_cases c40 : x10_31 ≤ (t381.size : Int)
                 ·
                  rw [if_pos c40] at H
                  have c40b0 := eq_true c40
                  have c40b1 : decide (x10_31 ≤ (t381.size : Int)) = true := decide_eq_true c40
                  clear c40
                  replace H := Option.bind_eq_some_iff.mp H
                  obtain ⟨⟨t396, t397⟩, A410, H⟩ := H
                  replace H : (if t394 = true then (if t397 = true then (rehearsallaw04_TreeWays.l0 kj31 ((rd_T44 l0_0 (ji18)).f0) t381 t396 (wrap64 (x10_31 + 1)) l0_0 a0_1 a0_2 a0_3) else (some false)) else (some false)) = some r := H
                  have A41 := Aside0.mk A410
                  clear A410
                  by_cases c42 : t394 = true
                  ·
                   subst c42
                   have H1 : (if t397 = true then (rehearsallaw04_TreeWays.l0 kj31 ((rd_T44 l0_0 (ji18)).f0) t381 t396 (wrap64 (x10_31 + 1)) l0_0 a0_1 a0_2 a0_3) else (some false)) = some r := by rw [if_pos rfl] at H; exact H
                   clear H
                   have H := H1
                   clear H1
                   by_cases c43 : t397 = true
                   ·
                    subst c43
                    have H1 : (rehearsallaw04_TreeWays.l0 kj31 ((rd_T44 l0_0 (ji18)).f0) t381 t396 (wrap64 (x10_31 + 1)) l0_0 a0_1 a0_2 a0_3) = some r := by rw [if_pos rfl] at H; exact H
                    clear H
                    have H := H1
                    clear H1
                    have H' := Aside0.mk H
                    clear H
                    have hcz44_0 : wc.cell? ⟨gb376, 0, none⟩ = some (.slice (some ad380) l0_0.length c0_0) := (blk_cell BK376.out 0).trans rfl
                    have hcz44_1 : wc.cell? ⟨gb376, 1, none⟩ = some (.int .i64 a0_1) := (blk_cell BK376.out 1).trans rfl
                    have hcz44_2 : wc.cell? ⟨gb376, 2, none⟩ = some (.int .i64 a0_2) := (blk_cell BK376.out 2).trans rfl
                    have hcz44_3 : wc.cell? ⟨gb376, 3, none⟩ = some (.int .i64 a0_3) := (blk_cell BK376.out 3).trans rfl
                    have hfz44_0 := blk_frozen BK376.out 0
                    have hfz44_1 := blk_frozen BK376.out 1
                    have hfz44_2 := blk_frozen BK376.out 2
                    have hfz44_3 := blk_frozen BK376.out 3
                    try go_wp2_with (first | ((with_reducible refine gate_callee (f := 26) rfl ?_); refine goesL_ (some 72) rfl rfl Tryd.func26 (by kernel_rfl) rfl #[.agg #[.slice (some ad380) l0_0.length c0_0, .int .i64 a0_1, .int .i64 a0_2, .int .i64 a0_3], .int .i64 x8_3] rfl (by (try simp only [List.map_toArray, List.map_cons, List.map_nil]); first | done | rfl | (simp only [List.length_drop, List.length_take]; rfl)) ?_; (with_reducible refine (tree_Get.calls kj31 _ _ l0_0 a0_1 a0_2 a0_3 x8_3 t385 t386 t387 t388 t389 t390 t391 true _ ?side1 ?side2 A37.out).mono ?_); (case side1 => repeat (first | exact (Kd.C_below HR0_0.out HB.out) | (with_reducible refine Kd.C_alloc ?_ _) | (with_reducible refine Kd.C_drewN ?_ _) | (with_reducible refine Kd.C_drew ?_))); (case side2 => exact HC0_0.out); rintro e w45 ⟨v392, rfl, ho0, hb⟩; refine ⟨_, rfl, ?_⟩; have n0_ := Aside0.mk (Kd.R_lower ho0 (below_size (by repeat (first | (with_reducible first | exact HB.out | apply below_alloc | apply pw_below_drewN | apply below_drew1 | refine below_set ?_ GE376.out) | exact HB.out)))); have n1_ := Aside0.mk (blk_below (g := gb376) (o := .cells #[.slice (some ad380) l0_0.length c0_0, .int .i64 a0_1, .int .i64 a0_2, .int .i64 a0_3] 26 (0, 0)) (by (with_reducible repeat (first | refine blk_drewN ?_ _ | refine blk_drew ?_ | refine blk_alloc ?_ _)); exact BK376.out) hb); have n2_ := Aside0.mk (below_step (by repeat (first | (with_reducible first | exact HB.out | apply below_alloc | apply pw_below_drewN | apply below_drew1 | refine below_set ?_ GE376.out) | exact HB.out)) hb); clear BK376; clear HB; have HO393 := n0_; have BK376 := n1_; have HB := n2_; clear n0_ n1_ n2_; (try clear hb); (try clear hb2); (try clear hk); (try clear hi); (try clear ho0)) | ((with_reducible refine gate_dst (N := 11) rfl ?_); refine box_event ?hg (N := 11) ?hd (cs := #[.int .i64 0, .int .i64 0, .int .i64 0, .int .i64 0, .int .i64 0, .string (⟨#[]⟩ : ByteArray), .slice none 0 0]) (t := 44) ?hr ?_; (case hd => rfl); (case hg => rfl); (case hr => first | (go_simp; done) | (go_simp; rfl)); intro gb395 hg w46 hbox hb; have n0_ := Aside0.mk (Kd.R_below (by (with_reducible repeat (first | apply Kd.R_alloc | apply Kd.R_drewN | apply Kd.R_drew)); exact HO393.out) hb); have n1_ := Aside0.mk (blk_below (g := gb376) (o := .cells #[.slice (some ad380) l0_0.length c0_0, .int .i64 a0_1, .int .i64 a0_2, .int .i64 a0_3] 26 (0, 0)) (by (with_reducible repeat (first | refine blk_drewN ?_ _ | refine blk_drew ?_ | refine blk_alloc ?_ _)); exact BK376.out) hb); have n2_ := Aside0.mk (below_step (by repeat (first | (with_reducible first | exact HB.out | apply below_alloc | apply pw_below_drewN | apply below_drew1 | refine below_set ?_ GE376.out) | exact HB.out)) hb); have n3_ := Aside0.mk (hbox); have n4_ := Aside0.mk ((by rw [hg]; exact (below_size (by repeat (first | (with_reducible first | exact HB.out | apply below_alloc | apply pw_below_drewN | apply below_drew1 | refine below_set ?_ GE376.out) | exact HB.out))) : w.heap.size ≤ gb395)); have n5_ := Aside0.mk ((by rw [hg]; exact (below_size (by repeat (first | (with_reducible first | exact HB.out | apply below_alloc | apply pw_below_drewN | apply below_drew1 | refine below_set ?_ GE376.out) | exact HB.out))) : w.heap.size ≤ gb395)); have n6_ := Aside0.mk ((by rw [hg]; exact Nat.ne_of_lt (blk_lt (g := gb376) (o := .cells #[.slice (some ad380) l0_0.length c0_0, .int .i64 a0_1, .int .i64 a0_2, .int .i64 a0_3] 26 (0, 0)) (by (with_reducible repeat (first | refine blk_drewN ?_ _ | refine blk_drew ?_ | refine blk_alloc ?_ _)); exact BK376.out)) : gb376 ≠ gb395)); have n7_ := Aside0.mk ((by rw [hg]; exact Nat.ne_of_gt (blk_lt (g := gb376) (o := .cells #[.slice (some ad380) l0_0.length c0_0, .int .i64 a0_1, .int .i64 a0_2, .int .i64 a0_3] 26 (0, 0)) (by (with_reducible repeat (first | refine blk_drewN ?_ _ | refine blk_drew ?_ | refine blk_alloc ?_ _)); exact BK376.out)) : gb395 ≠ gb376)); clear HO393; clear BK376; clear HB; have HO393 := n0_; have BK376 := n1_; have HB := n2_; have BK395 := n3_; have GW395 := n4_; have GE395 := n5_; have NB376_395 := n6_; have NB395_376 := n7_; clear n0_ n1_ n2_ n3_ n4_ n5_ n6_ n7_; clear hb hbox hg; have hnb47 := NB395_376.out; have hnc47 := NB376_395.out; have hcz48_0 : w46.cell? ⟨gb395, 0, none⟩ = some (.int .i64 0) := (blk_cell BK395.out 0).trans rfl; have hcz48_1 : w46.cell? ⟨gb395, 1, none⟩ = some (.int .i64 0) := (blk_cell BK395.out 1).trans rfl; have hcz48_2 : w46.cell? ⟨gb395, 2, none⟩ = some (.int .i64 0) := (blk_cell BK395.out 2).trans rfl; have hcz48_3 : w46.cell? ⟨gb395, 3, none⟩ = some (.int .i64 0) := (blk_cell BK395.out 3).trans rfl; have hcz48_4 : w46.cell? ⟨gb395, 4, none⟩ = some (.int .i64 0) := (blk_cell BK395.out 4).trans rfl; have hcz48_5 : w46.cell? ⟨gb395, 5, none⟩ = some (.string (⟨#[]⟩ : ByteArray)) := (blk_cell BK395.out 5).trans rfl; have hcz48_6 : w46.cell? ⟨gb395, 6, none⟩ = some (.slice none 0 0) := (blk_cell BK395.out 6).trans rfl; have hfz48_0 := blk_frozen BK395.out 0; have hfz48_1 := blk_frozen BK395.out 1; have hfz48_2 := blk_frozen BK395.out 2; have hfz48_3 := blk_frozen BK395.out 3; have hfz48_4 := blk_frozen BK395.out 4; have hfz48_5 := blk_frozen BK395.out 5; have hfz48_6 := blk_frozen BK395.out 6; obtain ⟨Ao49, co49, eo49⟩ := Kd.R_slice HO393.out; subst eo49))
                    have n0_ : Aside0 (Kd.R k61 61 (((((((w46.setCell ⟨gb395, 0, none⟩ (.int .i64 t385)).setCell ⟨gb395, 1, none⟩ (.int .i64 t386)).setCell ⟨gb395, 2, none⟩ (.int .i64 t387)).setCell ⟨gb395, 3, none⟩ (.int .i64 t388)).setCell ⟨gb395, 4, none⟩ (.int .i64 t389)).setCell ⟨gb395, 5, none⟩ (.string t390)).setCell ⟨gb395, 6, none⟩ (.slice Ao49 t391.length co49)) w.heap.size (fun _ => True) (.slice Ao49 t391.length co49) t391) := ⟨by (with_reducible repeat (first | apply Kd.R_alloc | apply Kd.R_drewN | apply Kd.R_drew)); exact Kd.R_mono (Kd.R_far (p := ⟨gb395, 6, none⟩) (Kd.R_far (p := ⟨gb395, 5, none⟩) (Kd.R_far (p := ⟨gb395, 4, none⟩) (Kd.R_far (p := ⟨gb395, 3, none⟩) (Kd.R_far (p := ⟨gb395, 2, none⟩) (Kd.R_far (p := ⟨gb395, 1, none⟩) (Kd.R_far (p := ⟨gb395, 0, none⟩) (Kd.R_types HO393.out BK395.out (by decide)) (fun _ hk => hk.2) (.int .i64 t385)) (fun _ hk => hk.2) (.int .i64 t386)) (fun _ hk => hk.2) (.int .i64 t387)) (fun _ hk => hk.2) (.int .i64 t388)) (fun _ hk => hk.2) (.int .i64 t389)) (fun _ hk => hk.2) (.string t390)) (fun _ hk => hk.2) (.slice Ao49 t391.length co49)) (fun _ hk => trivial)⟩
                    have n1_ : Aside0 ((((((((w46.setCell ⟨gb395, 0, none⟩ (.int .i64 t385)).setCell ⟨gb395, 1, none⟩ (.int .i64 t386)).setCell ⟨gb395, 2, none⟩ (.int .i64 t387)).setCell ⟨gb395, 3, none⟩ (.int .i64 t388)).setCell ⟨gb395, 4, none⟩ (.int .i64 t389)).setCell ⟨gb395, 5, none⟩ (.string t390)).setCell ⟨gb395, 6, none⟩ (.slice Ao49 t391.length co49)).heap[gb376]? = some (.cells #[.slice (some ad380) l0_0.length c0_0, .int .i64 a0_1, .int .i64 a0_2, .int .i64 a0_3] 26 (0, 0))) := ⟨by (with_reducible repeat (first | refine blk_drewN ?_ _ | refine blk_drew ?_ | refine blk_alloc ?_ _)); refine blk_far ?_ NB376_395.out _; (with_reducible repeat (first | refine blk_drewN ?_ _ | refine blk_drew ?_ | refine blk_alloc ?_ _)); refine blk_far ?_ NB376_395.out _; (with_reducible repeat (first | refine blk_drewN ?_ _ | refine blk_drew ?_ | refine blk_alloc ?_ _)); refine blk_far ?_ NB376_395.out _; (with_reducible repeat (first | refine blk_drewN ?_ _ | refine blk_drew ?_ | refine blk_alloc ?_ _)); refine blk_far ?_ NB376_395.out _; (with_reducible repeat (first | refine blk_drewN ?_ _ | refine blk_drew ?_ | refine blk_alloc ?_ _)); refine blk_far ?_ NB376_395.out _; (with_reducible repeat (first | refine blk_drewN ?_ _ | refine blk_drew ?_ | refine blk_alloc ?_ _)); refine blk_far ?_ NB376_395.out _; (with_reducible repeat (first | refine blk_drewN ?_ _ | refine blk_drew ?_ | refine blk_alloc ?_ _)); refine blk_far ?_ NB376_395.out _; (with_reducible repeat (first | refine blk_drewN ?_ _ | refine blk_drew ?_ | refine blk_alloc ?_ _)); exact BK376.out⟩
                    have n2_ : Aside0 ((((((((w46.setCell ⟨gb395, 0, none⟩ (.int .i64 t385)).setCell ⟨gb395, 1, none⟩ (.int .i64 t386)).setCell ⟨gb395, 2, none⟩ (.int .i64 t387)).setCell ⟨gb395, 3, none⟩ (.int .i64 t388)).setCell ⟨gb395, 4, none⟩ (.int .i64 t389)).setCell ⟨gb395, 5, none⟩ (.string t390)).setCell ⟨gb395, 6, none⟩ (.slice Ao49 t391.length co49)).heap[gb395]? = some (.cells #[.int .i64 t385, .int .i64 t386, .int .i64 t387, .int .i64 t388, .int .i64 t389, .string t390, .slice Ao49 t391.length co49] 44 (0, 0))) := ⟨by (with_reducible repeat (first | refine blk_drewN ?_ _ | refine blk_drew ?_ | refine blk_alloc ?_ _)); refine blk_put (cs := #[.int .i64 t385, .int .i64 t386, .int .i64 t387, .int .i64 t388, .int .i64 t389, .string t390, .slice none 0 0]) ?_ 6 _ (by first | rfl | (simp only [w64_PTr40]; rfl) | (simp [w64_PTr40]; done)); (with_reducible repeat (first | refine blk_drewN ?_ _ | refine blk_drew ?_ | refine blk_alloc ?_ _)); refine blk_put (cs := #[.int .i64 t385, .int .i64 t386, .int .i64 t387, .int .i64 t388, .int .i64 t389, .string (⟨#[]⟩ : ByteArray), .slice none 0 0]) ?_ 5 _ (by first | rfl | (simp only [w64_PTr40]; rfl) | (simp [w64_PTr40]; done)); (with_reducible repeat (first | refine blk_drewN ?_ _ | refine blk_drew ?_ | refine blk_alloc ?_ _)); refine blk_put (cs := #[.int .i64 t385, .int .i64 t386, .int .i64 t387, .int .i64 t388, .int .i64 0, .string (⟨#[]⟩ : ByteArray), .slice none 0 0]) ?_ 4 _ (by first | rfl | (simp only [w64_PTr40]; rfl) | (simp [w64_PTr40]; done)); (with_reducible repeat (first | refine blk_drewN ?_ _ | refine blk_drew ?_ | refine blk_alloc ?_ _)); refine blk_put (cs := #[.int .i64 t385, .int .i64 t386, .int .i64 t387, .int .i64 0, .int .i64 0, .string (⟨#[]⟩ : ByteArray), .slice none 0 0]) ?_ 3 _ (by first | rfl | (simp only [w64_PTr40]; rfl) | (simp [w64_PTr40]; done)); (with_reducible repeat (first | refine blk_drewN ?_ _ | refine blk_drew ?_ | refine blk_alloc ?_ _)); refine blk_put (cs := #[.int .i64 t385, .int .i64 t386, .int .i64 0, .int .i64 0, .int .i64 0, .string (⟨#[]⟩ : ByteArray), .slice none 0 0]) ?_ 2 _ (by first | rfl | (simp only [w64_PTr40]; rfl) | (simp [w64_PTr40]; done)); (with_reducible repeat (first | refine blk_drewN ?_ _ | refine blk_drew ?_ | refine blk_alloc ?_ _)); refine blk_put (cs := #[.int .i64 t385, .int .i64 0, .int .i64 0, .int .i64 0, .int .i64 0, .string (⟨#[]⟩ : ByteArray), .slice none 0 0]) ?_ 1 _ (by first | rfl | (simp only [w64_PTr40]; rfl) | (simp [w64_PTr40]; done)); (with_reducible repeat (first | refine blk_drewN ?_ _ | refine blk_drew ?_ | refine blk_alloc ?_ _)); refine blk_put (cs := #[.int .i64 0, .int .i64 0, .int .i64 0, .int .i64 0, .int .i64 0, .string (⟨#[]⟩ : ByteArray), .slice none 0 0]) ?_ 0 _ (by first | rfl | (simp only [w64_PTr40]; rfl) | (simp [w64_PTr40]; done)); (with_reducible repeat (first | refine blk_drewN ?_ _ | refine blk_drew ?_ | refine blk_alloc ?_ _)); exact BK395.out⟩
                    have n3_ : Aside0 (Below w.heap.size w (((((((w46.setCell ⟨gb395, 0, none⟩ (.int .i64 t385)).setCell ⟨gb395, 1, none⟩ (.int .i64 t386)).setCell ⟨gb395, 2, none⟩ (.int .i64 t387)).setCell ⟨gb395, 3, none⟩ (.int .i64 t388)).setCell ⟨gb395, 4, none⟩ (.int .i64 t389)).setCell ⟨gb395, 5, none⟩ (.string t390)).setCell ⟨gb395, 6, none⟩ (.slice Ao49 t391.length co49))) := ⟨by repeat (first | (with_reducible first | exact HB.out | apply below_alloc | apply pw_below_drewN | apply below_drew1 | refine below_set ?_ GE376.out | refine below_set ?_ GE395.out) | exact HB.out)⟩
                    (try clear HO393)
                    (try clear BK376)
                    (try clear BK395)
                    (try clear HB)
                    generalize (((((((w46.setCell ⟨gb395, 0, none⟩ (.int .i64 t385)).setCell ⟨gb395, 1, none⟩ (.int .i64 t386)).setCell ⟨gb395, 2, none⟩ (.int .i64 t387)).setCell ⟨gb395, 3, none⟩ (.int .i64 t388)).setCell ⟨gb395, 4, none⟩ (.int .i64 t389)).setCell ⟨gb395, 5, none⟩ (.string t390)).setCell ⟨gb395, 6, none⟩ (.slice Ao49 t391.length co49)) = w50 at n0_ n1_ n2_ n3_ ⊢
                    have HO393 := n0_
                    have BK376 := n1_
                    have BK395 := n2_
                    have HB := n3_
                    clear n0_ n1_ n2_ n3_
                    have n0_ := Aside0.mk (Kd.R_drew HO393.out)
                    have n1_ := Aside0.mk (blk_drew BK376.out)
                    have n2_ := Aside0.mk (blk_drew BK395.out)
                    have n3_ := Aside0.mk (below_drew1 HB.out)
                    clear HO393
                    clear BK376
                    clear BK395
                    clear HB
                    have HO393 := n0_
                    have BK376 := n1_
                    have BK395 := n2_
                    have HB := n3_
                    clear n0_ n1_ n2_ n3_
                    refine start_ (n := 11) (S := fun w' => w'.cell? ⟨gb395, 0, none⟩ = some (.int .i64 t385) ∧ w'.cell? ⟨gb395, 1, none⟩ = some (.int .i64 t386) ∧ w'.cell? ⟨gb395, 2, none⟩ = some (.int .i64 t387) ∧ w'.cell? ⟨gb395, 3, none⟩ = some (.int .i64 t388) ∧ w'.cell? ⟨gb395, 4, none⟩ = some (.int .i64 t389) ∧ w'.cell? ⟨gb395, 5, none⟩ = some (.string t390) ∧ w'.cell? ⟨gb395, 6, none⟩ = some (.slice Ao49 t391.length co49)) (ds := []) #[false, false, false, false, false, false, false, false, false, false, false] (by kernel_rfl) rfl rfl ⟨(blk_cell BK395.out 0).trans rfl, (blk_cell BK395.out 1).trans rfl, (blk_cell BK395.out 2).trans rfl, (blk_cell BK395.out 3).trans rfl, (blk_cell BK395.out 4).trans rfl, (blk_cell BK395.out 5).trans rfl, (blk_cell BK395.out 6).trans rfl⟩ (fun hHeld => ?_); refine with_tabW rehearsallaw04_TreeWays.tab14 rehearsallaw04_TreeWays.bits14 (fun HT_ HW_ => ?_)
                    generalize w50.drew = w51 at HO393 BK376 BK395 HB hHeld ⊢
                    iterate 5 (((first | refine takeS_ 1 (N := some 77) (v := ?_) (a' := ?_) rfl rfl (by decide +kernel) (fun _ _ _ h => h) (Or.inl ⟨by rfl, ?_⟩) hHeld ?_ ?_ | refine takeS_ 2 (N := some 78) (v := ?_) (a' := ?_) rfl rfl (by decide +kernel) (fun _ _ _ h => h) (Or.inl ⟨by rfl, ?_⟩) hHeld ?_ ?_ | refine takeS_ 3 (N := some 79) (v := ?_) (a' := ?_) rfl rfl (by decide +kernel) (fun _ _ _ h => h) (Or.inl ⟨by rfl, ?_⟩) hHeld ?_ ?_ | refine takeS_ 4 (N := some 80) (v := ?_) (a' := ?_) rfl rfl (by decide +kernel) (fun _ _ _ h => h) (Or.inl ⟨by rfl, ?_⟩) hHeld ?_ ?_ | refine takeS_ 0 (N := some 76) (v := ?_) (a' := ?_) rfl rfl (by decide +kernel) (fun _ _ _ h => h) (Or.inl ⟨by rfl, ?_⟩) hHeld ?_ ?_); rotate_left; (rintro w' ⟨s0, s1, s2, s3, s4, s5, s6⟩; go_simp; first | done | (with_reducible rfl) | rfl); rotate_left; (simp only [Act.put, List.setIfInBounds_toArray, List.set_cons_zero, List.set_cons_succ, i64_w, i32_w]; rfl)))
                    refine one_ (i := 5) (N := some 81) #[true, true, true, true, true, true, false, false, false, false, false] rfl rfl (one_of HT_.out (by kernel_rfl)) (by decide) (fun K hK => ?_)
                    refine goes_ Tryd.func28 (by kernel_rfl) rfl #[.agg #[.int .i64 t385, .int .i64 t386, .int .i64 t387, .int .i64 t388, .int .i64 t389, .string t390, .slice Ao49 t391.length co49], .string (t381.extract (x9_3 : Int).toNat (x10_31 : Int).toNat)] (by rfl) rfl rfl (by (try simp only [List.map_toArray, List.map_cons, List.map_nil]); first | done | rfl | (simp only [List.length_drop, List.length_take]; rfl)) ?_
                    with_reducible refine (tree_Child.calls kj31 t385 t386 t387 t388 t389 t390 _ _ t391 (t381.extract (x9_3 : Int).toNat (x10_31 : Int).toNat) t396 true _ ?side1 ?side2 A41.out).mono ?_
                    (case side1 => repeat (first | exact (Kd.R_reads' HO393.out).2.2 | (with_reducible refine Kd.C_alloc ?_ _) | (with_reducible refine Kd.C_drewN ?_ _) | (with_reducible refine Kd.C_drew ?_)))
                    (case side2 => exact (Kd.R_reads' HO393.out).2.1)
                    rintro e w52 ⟨rfl, hb⟩
                    refine ⟨_, rfl, ?_⟩
                    have n0_ := Aside0.mk (Kd.R_below (by (with_reducible repeat (first | apply Kd.R_alloc | apply Kd.R_drewN | apply Kd.R_drew)); exact HO393.out) hb)
                    have n1_ := Aside0.mk (blk_below (g := gb376) (o := .cells #[.slice (some ad380) l0_0.length c0_0, .int .i64 a0_1, .int .i64 a0_2, .int .i64 a0_3] 26 (0, 0)) (by (with_reducible repeat (first | refine blk_drewN ?_ _ | refine blk_drew ?_ | refine blk_alloc ?_ _)); exact BK376.out) hb)
                    have n2_ := Aside0.mk (blk_below (g := gb395) (o := .cells #[.int .i64 t385, .int .i64 t386, .int .i64 t387, .int .i64 t388, .int .i64 t389, .string t390, .slice Ao49 t391.length co49] 44 (0, 0)) (by (with_reducible repeat (first | refine blk_drewN ?_ _ | refine blk_drew ?_ | refine blk_alloc ?_ _)); exact BK395.out) hb)
                    have n3_ := Aside0.mk (below_step (by repeat (first | (with_reducible first | exact HB.out | apply below_alloc | apply pw_below_drewN | apply below_drew1 | refine below_set ?_ GE376.out | refine below_set ?_ GE395.out) | exact HB.out)) hb)
                    clear HO393
                    clear BK376
                    clear BK395
                    clear HB
                    have HO393 := n0_
                    have BK376 := n1_
                    have BK395 := n2_
                    have HB := n3_
                    clear n0_ n1_ n2_ n3_
                    (try clear hb)
                    (try clear hb2)
                    (try clear hk)
                    (try clear hi)
                    refine hK.out _ _ ⟨(blk_cell BK395.out 0).trans rfl, (blk_cell BK395.out 1).trans rfl, (blk_cell BK395.out 2).trans rfl, (blk_cell BK395.out 3).trans rfl, (blk_cell BK395.out 4).trans rfl, (blk_cell BK395.out 5).trans rfl, (blk_cell BK395.out 6).trans rfl⟩ (fun hHeld => ?_)
                    clear hK K
                    refine norm_ (a' := ?_) ?_ ?_
                    rotate_left
                    ·
                     show Act.put _ (some 81) _ = _
                     simp only [Act.put, List.setIfInBounds_toArray, List.set_cons_zero, List.set_cons_succ, i64_w, i32_w]
                     rfl
                    iterate 5 (((first | refine pureS_ 6 (N := some 75) (v := ?_) (a' := ?_) rfl rfl (by decide +kernel) (fun _ _ _ h => h) (Or.inl ⟨by rfl, ?_⟩) ?_ ?_ | refine pureS_ 7 (N := some 82) (v := ?_) (a' := ?_) rfl rfl (by decide +kernel) (fun _ _ _ h => h) (Or.inl ⟨by rfl, ?_⟩) ?_ ?_ | refine pureS_ 8 (N := some 83) (v := ?_) (a' := ?_) rfl rfl (by decide +kernel) (fun _ _ _ h => h) (Or.inl ⟨by rfl, ?_⟩) ?_ ?_ | refine pureS_ 9 (N := some 13) (v := ?_) (a' := ?_) rfl rfl (by decide +kernel) (fun _ _ _ h => h) (Or.inl ⟨by rfl, ?_⟩) ?_ ?_ | refine pureS_ 10 (N := some 14) (v := ?_) (a' := ?_) rfl rfl (by decide +kernel) (fun _ _ _ h => h) (Or.inl ⟨by rfl, ?_⟩) ?_ ?_); rotate_left; (intro w'; go_simp; first | done | (with_reducible rfl) | rfl); rotate_left; (simp only [Act.put, List.setIfInBounds_toArray, List.set_cons_zero, List.set_cons_succ, i64_w, i32_w]; rfl)))
                    refine done_ (done_of HT_.out (by kernel_rfl)) ?_
                    try go_wp2
                    go_roundg kj31
                    case measure => have := HJ2.out; have := HJ21.out; have := HK3.out; have := HJ31.out; omega
                    case rel => exact ⟨(t396), (wrap64 (x10_31 + 1)), (by first | rfl | (simp; done) | (simp [*]; done)), (by first | rfl | (simp; done) | (simp [*]; done)), H', ⟨by have := HJ2.out; have := HJ21.out; have := HK3.out; have := HJ31.out; omega⟩, ⟨by (with_reducible repeat (first | refine blk_drewN ?_ _ | refine blk_drew ?_ | refine blk_alloc ?_ _)); exact BK376.out⟩, ⟨by repeat (first | (with_reducible first | exact HB.out | apply below_alloc | apply pw_below_drewN | apply below_drew1 | refine below_set ?_ GE376.out | refine below_set ?_ GE395.out) | exact HB.out)⟩⟩
                   ·
                    replace c43 := Bool.eq_false_iff.mpr c43
                    subst c43
                    have H1 : (some false) = some r := by rw [if_neg (show ¬ (false = true) by decide)] at H; exact H
                    clear H
                    have H := H1
                    clear H1
                    obtain rfl := Option.some.inj H
                    have hcz53_0 : wc.cell? ⟨gb376, 0, none⟩ = some (.slice (some ad380) l0_0.length c0_0) := (blk_cell BK376.out 0).trans rfl
                    have hcz53_1 : wc.cell? ⟨gb376, 1, none⟩ = some (.int .i64 a0_1) := (blk_cell BK376.out 1).trans rfl
                    have hcz53_2 : wc.cell? ⟨gb376, 2, none⟩ = some (.int .i64 a0_2) := (blk_cell BK376.out 2).trans rfl
                    have hcz53_3 : wc.cell? ⟨gb376, 3, none⟩ = some (.int .i64 a0_3) := (blk_cell BK376.out 3).trans rfl
                    have hfz53_0 := blk_frozen BK376.out 0
                    have hfz53_1 := blk_frozen BK376.out 1
                    have hfz53_2 := blk_frozen BK376.out 2
                    have hfz53_3 := blk_frozen BK376.out 3
                    try go_wp2_with (first | ((with_reducible refine gate_callee (f := 26) rfl ?_); refine goesL_ (some 72) rfl rfl Tryd.func26 (by kernel_rfl) rfl #[.agg #[.slice (some ad380) l0_0.length c0_0, .int .i64 a0_1, .int .i64 a0_2, .int .i64 a0_3], .int .i64 x8_3] rfl (by (try simp only [List.map_toArray, List.map_cons, List.map_nil]); first | done | rfl | (simp only [List.length_drop, List.length_take]; rfl)) ?_; (with_reducible refine (tree_Get.calls kj31 _ _ l0_0 a0_1 a0_2 a0_3 x8_3 t385 t386 t387 t388 t389 t390 t391 true _ ?side1 ?side2 A37.out).mono ?_); (case side1 => repeat (first | exact (Kd.C_below HR0_0.out HB.out) | (with_reducible refine Kd.C_alloc ?_ _) | (with_reducible refine Kd.C_drewN ?_ _) | (with_reducible refine Kd.C_drew ?_))); (case side2 => exact HC0_0.out); rintro e w54 ⟨v392, rfl, ho0, hb⟩; refine ⟨_, rfl, ?_⟩; have n0_ := Aside0.mk (Kd.R_lower ho0 (below_size (by repeat (first | (with_reducible first | exact HB.out | apply below_alloc | apply pw_below_drewN | apply below_drew1 | refine below_set ?_ GE376.out) | exact HB.out)))); have n1_ := Aside0.mk (blk_below (g := gb376) (o := .cells #[.slice (some ad380) l0_0.length c0_0, .int .i64 a0_1, .int .i64 a0_2, .int .i64 a0_3] 26 (0, 0)) (by (with_reducible repeat (first | refine blk_drewN ?_ _ | refine blk_drew ?_ | refine blk_alloc ?_ _)); exact BK376.out) hb); have n2_ := Aside0.mk (below_step (by repeat (first | (with_reducible first | exact HB.out | apply below_alloc | apply pw_below_drewN | apply below_drew1 | refine below_set ?_ GE376.out) | exact HB.out)) hb); clear BK376; clear HB; have HO393 := n0_; have BK376 := n1_; have HB := n2_; clear n0_ n1_ n2_; (try clear hb); (try clear hb2); (try clear hk); (try clear hi); (try clear ho0)) | ((with_reducible refine gate_dst (N := 11) rfl ?_); refine box_event ?hg (N := 11) ?hd (cs := #[.int .i64 0, .int .i64 0, .int .i64 0, .int .i64 0, .int .i64 0, .string (⟨#[]⟩ : ByteArray), .slice none 0 0]) (t := 44) ?hr ?_; (case hd => rfl); (case hg => rfl); (case hr => first | (go_simp; done) | (go_simp; rfl)); intro gb395 hg w55 hbox hb; have n0_ := Aside0.mk (Kd.R_below (by (with_reducible repeat (first | apply Kd.R_alloc | apply Kd.R_drewN | apply Kd.R_drew)); exact HO393.out) hb); have n1_ := Aside0.mk (blk_below (g := gb376) (o := .cells #[.slice (some ad380) l0_0.length c0_0, .int .i64 a0_1, .int .i64 a0_2, .int .i64 a0_3] 26 (0, 0)) (by (with_reducible repeat (first | refine blk_drewN ?_ _ | refine blk_drew ?_ | refine blk_alloc ?_ _)); exact BK376.out) hb); have n2_ := Aside0.mk (below_step (by repeat (first | (with_reducible first | exact HB.out | apply below_alloc | apply pw_below_drewN | apply below_drew1 | refine below_set ?_ GE376.out) | exact HB.out)) hb); have n3_ := Aside0.mk (hbox); have n4_ := Aside0.mk ((by rw [hg]; exact (below_size (by repeat (first | (with_reducible first | exact HB.out | apply below_alloc | apply pw_below_drewN | apply below_drew1 | refine below_set ?_ GE376.out) | exact HB.out))) : w.heap.size ≤ gb395)); have n5_ := Aside0.mk ((by rw [hg]; exact (below_size (by repeat (first | (with_reducible first | exact HB.out | apply below_alloc | apply pw_below_drewN | apply below_drew1 | refine below_set ?_ GE376.out) | exact HB.out))) : w.heap.size ≤ gb395)); have n6_ := Aside0.mk ((by rw [hg]; exact Nat.ne_of_lt (blk_lt (g := gb376) (o := .cells #[.slice (some ad380) l0_0.length c0_0, .int .i64 a0_1, .int .i64 a0_2, .int .i64 a0_3] 26 (0, 0)) (by (with_reducible repeat (first | refine blk_drewN ?_ _ | refine blk_drew ?_ | refine blk_alloc ?_ _)); exact BK376.out)) : gb376 ≠ gb395)); have n7_ := Aside0.mk ((by rw [hg]; exact Nat.ne_of_gt (blk_lt (g := gb376) (o := .cells #[.slice (some ad380) l0_0.length c0_0, .int .i64 a0_1, .int .i64 a0_2, .int .i64 a0_3] 26 (0, 0)) (by (with_reducible repeat (first | refine blk_drewN ?_ _ | refine blk_drew ?_ | refine blk_alloc ?_ _)); exact BK376.out)) : gb395 ≠ gb376)); clear HO393; clear BK376; clear HB; have HO393 := n0_; have BK376 := n1_; have HB := n2_; have BK395 := n3_; have GW395 := n4_; have GE395 := n5_; have NB376_395 := n6_; have NB395_376 := n7_; clear n0_ n1_ n2_ n3_ n4_ n5_ n6_ n7_; clear hb hbox hg; have hnb56 := NB395_376.out; have hnc56 := NB376_395.out; have hcz57_0 : w55.cell? ⟨gb395, 0, none⟩ = some (.int .i64 0) := (blk_cell BK395.out 0).trans rfl; have hcz57_1 : w55.cell? ⟨gb395, 1, none⟩ = some (.int .i64 0) := (blk_cell BK395.out 1).trans rfl; have hcz57_2 : w55.cell? ⟨gb395, 2, none⟩ = some (.int .i64 0) := (blk_cell BK395.out 2).trans rfl; have hcz57_3 : w55.cell? ⟨gb395, 3, none⟩ = some (.int .i64 0) := (blk_cell BK395.out 3).trans rfl; have hcz57_4 : w55.cell? ⟨gb395, 4, none⟩ = some (.int .i64 0) := (blk_cell BK395.out 4).trans rfl; have hcz57_5 : w55.cell? ⟨gb395, 5, none⟩ = some (.string (⟨#[]⟩ : ByteArray)) := (blk_cell BK395.out 5).trans rfl; have hcz57_6 : w55.cell? ⟨gb395, 6, none⟩ = some (.slice none 0 0) := (blk_cell BK395.out 6).trans rfl; have hfz57_0 := blk_frozen BK395.out 0; have hfz57_1 := blk_frozen BK395.out 1; have hfz57_2 := blk_frozen BK395.out 2; have hfz57_3 := blk_frozen BK395.out 3; have hfz57_4 := blk_frozen BK395.out 4; have hfz57_5 := blk_frozen BK395.out 5; have hfz57_6 := blk_frozen BK395.out 6; obtain ⟨Ao58, co58, eo58⟩ := Kd.R_slice HO393.out; subst eo58))
                    have n0_ : Aside0 (Kd.R k61 61 (((((((w55.setCell ⟨gb395, 0, none⟩ (.int .i64 t385)).setCell ⟨gb395, 1, none⟩ (.int .i64 t386)).setCell ⟨gb395, 2, none⟩ (.int .i64 t387)).setCell ⟨gb395, 3, none⟩ (.int .i64 t388)).setCell ⟨gb395, 4, none⟩ (.int .i64 t389)).setCell ⟨gb395, 5, none⟩ (.string t390)).setCell ⟨gb395, 6, none⟩ (.slice Ao58 t391.length co58)) w.heap.size (fun _ => True) (.slice Ao58 t391.length co58) t391) := ⟨by (with_reducible repeat (first | apply Kd.R_alloc | apply Kd.R_drewN | apply Kd.R_drew)); exact Kd.R_mono (Kd.R_far (p := ⟨gb395, 6, none⟩) (Kd.R_far (p := ⟨gb395, 5, none⟩) (Kd.R_far (p := ⟨gb395, 4, none⟩) (Kd.R_far (p := ⟨gb395, 3, none⟩) (Kd.R_far (p := ⟨gb395, 2, none⟩) (Kd.R_far (p := ⟨gb395, 1, none⟩) (Kd.R_far (p := ⟨gb395, 0, none⟩) (Kd.R_types HO393.out BK395.out (by decide)) (fun _ hk => hk.2) (.int .i64 t385)) (fun _ hk => hk.2) (.int .i64 t386)) (fun _ hk => hk.2) (.int .i64 t387)) (fun _ hk => hk.2) (.int .i64 t388)) (fun _ hk => hk.2) (.int .i64 t389)) (fun _ hk => hk.2) (.string t390)) (fun _ hk => hk.2) (.slice Ao58 t391.length co58)) (fun _ hk => trivial)⟩
                    have n1_ : Aside0 ((((((((w55.setCell ⟨gb395, 0, none⟩ (.int .i64 t385)).setCell ⟨gb395, 1, none⟩ (.int .i64 t386)).setCell ⟨gb395, 2, none⟩ (.int .i64 t387)).setCell ⟨gb395, 3, none⟩ (.int .i64 t388)).setCell ⟨gb395, 4, none⟩ (.int .i64 t389)).setCell ⟨gb395, 5, none⟩ (.string t390)).setCell ⟨gb395, 6, none⟩ (.slice Ao58 t391.length co58)).heap[gb376]? = some (.cells #[.slice (some ad380) l0_0.length c0_0, .int .i64 a0_1, .int .i64 a0_2, .int .i64 a0_3] 26 (0, 0))) := ⟨by (with_reducible repeat (first | refine blk_drewN ?_ _ | refine blk_drew ?_ | refine blk_alloc ?_ _)); refine blk_far ?_ NB376_395.out _; (with_reducible repeat (first | refine blk_drewN ?_ _ | refine blk_drew ?_ | refine blk_alloc ?_ _)); refine blk_far ?_ NB376_395.out _; (with_reducible repeat (first | refine blk_drewN ?_ _ | refine blk_drew ?_ | refine blk_alloc ?_ _)); refine blk_far ?_ NB376_395.out _; (with_reducible repeat (first | refine blk_drewN ?_ _ | refine blk_drew ?_ | refine blk_alloc ?_ _)); refine blk_far ?_ NB376_395.out _; (with_reducible repeat (first | refine blk_drewN ?_ _ | refine blk_drew ?_ | refine blk_alloc ?_ _)); refine blk_far ?_ NB376_395.out _; (with_reducible repeat (first | refine blk_drewN ?_ _ | refine blk_drew ?_ | refine blk_alloc ?_ _)); refine blk_far ?_ NB376_395.out _; (with_reducible repeat (first | refine blk_drewN ?_ _ | refine blk_drew ?_ | refine blk_alloc ?_ _)); refine blk_far ?_ NB376_395.out _; (with_reducible repeat (first | refine blk_drewN ?_ _ | refine blk_drew ?_ | refine blk_alloc ?_ _)); exact BK376.out⟩
                    have n2_ : Aside0 ((((((((w55.setCell ⟨gb395, 0, none⟩ (.int .i64 t385)).setCell ⟨gb395, 1, none⟩ (.int .i64 t386)).setCell ⟨gb395, 2, none⟩ (.int .i64 t387)).setCell ⟨gb395, 3, none⟩ (.int .i64 t388)).setCell ⟨gb395, 4, none⟩ (.int .i64 t389)).setCell ⟨gb395, 5, none⟩ (.string t390)).setCell ⟨gb395, 6, none⟩ (.slice Ao58 t391.length co58)).heap[gb395]? = some (.cells #[.int .i64 t385, .int .i64 t386, .int .i64 t387, .int .i64 t388, .int .i64 t389, .string t390, .slice Ao58 t391.length co58] 44 (0, 0))) := ⟨by (with_reducible repeat (first | refine blk_drewN ?_ _ | refine blk_drew ?_ | refine blk_alloc ?_ _)); refine blk_put (cs := #[.int .i64 t385, .int .i64 t386, .int .i64 t387, .int .i64 t388, .int .i64 t389, .string t390, .slice none 0 0]) ?_ 6 _ (by first | rfl | (simp only [w64_PTr40]; rfl) | (simp [w64_PTr40]; done)); (with_reducible repeat (first | refine blk_drewN ?_ _ | refine blk_drew ?_ | refine blk_alloc ?_ _)); refine blk_put (cs := #[.int .i64 t385, .int .i64 t386, .int .i64 t387, .int .i64 t388, .int .i64 t389, .string (⟨#[]⟩ : ByteArray), .slice none 0 0]) ?_ 5 _ (by first | rfl | (simp only [w64_PTr40]; rfl) | (simp [w64_PTr40]; done)); (with_reducible repeat (first | refine blk_drewN ?_ _ | refine blk_drew ?_ | refine blk_alloc ?_ _)); refine blk_put (cs := #[.int .i64 t385, .int .i64 t386, .int .i64 t387, .int .i64 t388, .int .i64 0, .string (⟨#[]⟩ : ByteArray), .slice none 0 0]) ?_ 4 _ (by first | rfl | (simp only [w64_PTr40]; rfl) | (simp [w64_PTr40]; done)); (with_reducible repeat (first | refine blk_drewN ?_ _ | refine blk_drew ?_ | refine blk_alloc ?_ _)); refine blk_put (cs := #[.int .i64 t385, .int .i64 t386, .int .i64 t387, .int .i64 0, .int .i64 0, .string (⟨#[]⟩ : ByteArray), .slice none 0 0]) ?_ 3 _ (by first | rfl | (simp only [w64_PTr40]; rfl) | (simp [w64_PTr40]; done)); (with_reducible repeat (first | refine blk_drewN ?_ _ | refine blk_drew ?_ | refine blk_alloc ?_ _)); refine blk_put (cs := #[.int .i64 t385, .int .i64 t386, .int .i64 0, .int .i64 0, .int .i64 0, .string (⟨#[]⟩ : ByteArray), .slice none 0 0]) ?_ 2 _ (by first | rfl | (simp only [w64_PTr40]; rfl) | (simp [w64_PTr40]; done)); (with_reducible repeat (first | refine blk_drewN ?_ _ | refine blk_drew ?_ | refine blk_alloc ?_ _)); refine blk_put (cs := #[.int .i64 t385, .int .i64 0, .int .i64 0, .int .i64 0, .int .i64 0, .string (⟨#[]⟩ : ByteArray), .slice none 0 0]) ?_ 1 _ (by first | rfl | (simp only [w64_PTr40]; rfl) | (simp [w64_PTr40]; done)); (with_reducible repeat (first | refine blk_drewN ?_ _ | refine blk_drew ?_ | refine blk_alloc ?_ _)); refine blk_put (cs := #[.int .i64 0, .int .i64 0, .int .i64 0, .int .i64 0, .int .i64 0, .string (⟨#[]⟩ : ByteArray), .slice none 0 0]) ?_ 0 _ (by first | rfl | (simp only [w64_PTr40]; rfl) | (simp [w64_PTr40]; done)); (with_reducible repeat (first | refine blk_drewN ?_ _ | refine blk_drew ?_ | refine blk_alloc ?_ _)); exact BK395.out⟩
                    have n3_ : Aside0 (Below w.heap.size w (((((((w55.setCell ⟨gb395, 0, none⟩ (.int .i64 t385)).setCell ⟨gb395, 1, none⟩ (.int .i64 t386)).setCell ⟨gb395, 2, none⟩ (.int .i64 t387)).setCell ⟨gb395, 3, none⟩ (.int .i64 t388)).setCell ⟨gb395, 4, none⟩ (.int .i64 t389)).setCell ⟨gb395, 5, none⟩ (.string t390)).setCell ⟨gb395, 6, none⟩ (.slice Ao58 t391.length co58))) := ⟨by repeat (first | (with_reducible first | exact HB.out | apply below_alloc | apply pw_below_drewN | apply below_drew1 | refine below_set ?_ GE376.out | refine below_set ?_ GE395.out) | exact HB.out)⟩
                    (try clear HO393)
                    (try clear BK376)
                    (try clear BK395)
                    (try clear HB)
                    generalize (((((((w55.setCell ⟨gb395, 0, none⟩ (.int .i64 t385)).setCell ⟨gb395, 1, none⟩ (.int .i64 t386)).setCell ⟨gb395, 2, none⟩ (.int .i64 t387)).setCell ⟨gb395, 3, none⟩ (.int .i64 t388)).setCell ⟨gb395, 4, none⟩ (.int .i64 t389)).setCell ⟨gb395, 5, none⟩ (.string t390)).setCell ⟨gb395, 6, none⟩ (.slice Ao58 t391.length co58)) = w59 at n0_ n1_ n2_ n3_ ⊢
                    have HO393 := n0_
                    have BK376 := n1_
                    have BK395 := n2_
                    have HB := n3_
                    clear n0_ n1_ n2_ n3_
                    have n0_ := Aside0.mk (Kd.R_drew HO393.out)
                    have n1_ := Aside0.mk (blk_drew BK376.out)
                    have n2_ := Aside0.mk (blk_drew BK395.out)
                    have n3_ := Aside0.mk (below_drew1 HB.out)
                    clear HO393
                    clear BK376
                    clear BK395
                    clear HB
                    have HO393 := n0_
                    have BK376 := n1_
                    have BK395 := n2_
                    have HB := n3_
                    clear n0_ n1_ n2_ n3_
                    refine start_ (n := 11) (S := fun w' => w'.cell? ⟨gb395, 0, none⟩ = some (.int .i64 t385) ∧ w'.cell? ⟨gb395, 1, none⟩ = some (.int .i64 t386) ∧ w'.cell? ⟨gb395, 2, none⟩ = some (.int .i64 t387) ∧ w'.cell? ⟨gb395, 3, none⟩ = some (.int .i64 t388) ∧ w'.cell? ⟨gb395, 4, none⟩ = some (.int .i64 t389) ∧ w'.cell? ⟨gb395, 5, none⟩ = some (.string t390) ∧ w'.cell? ⟨gb395, 6, none⟩ = some (.slice Ao58 t391.length co58)) (ds := []) #[false, false, false, false, false, false, false, false, false, false, false] (by kernel_rfl) rfl rfl ⟨(blk_cell BK395.out 0).trans rfl, (blk_cell BK395.out 1).trans rfl, (blk_cell BK395.out 2).trans rfl, (blk_cell BK395.out 3).trans rfl, (blk_cell BK395.out 4).trans rfl, (blk_cell BK395.out 5).trans rfl, (blk_cell BK395.out 6).trans rfl⟩ (fun hHeld => ?_); refine with_tabW rehearsallaw04_TreeWays.tab14 rehearsallaw04_TreeWays.bits14 (fun HT_ HW_ => ?_)
                    generalize w59.drew = w60 at HO393 BK376 BK395 HB hHeld ⊢
                    iterate 5 (((first | refine takeS_ 1 (N := some 77) (v := ?_) (a' := ?_) rfl rfl (by decide +kernel) (fun _ _ _ h => h) (Or.inl ⟨by rfl, ?_⟩) hHeld ?_ ?_ | refine takeS_ 2 (N := some 78) (v := ?_) (a' := ?_) rfl rfl (by decide +kernel) (fun _ _ _ h => h) (Or.inl ⟨by rfl, ?_⟩) hHeld ?_ ?_ | refine takeS_ 3 (N := some 79) (v := ?_) (a' := ?_) rfl rfl (by decide +kernel) (fun _ _ _ h => h) (Or.inl ⟨by rfl, ?_⟩) hHeld ?_ ?_ | refine takeS_ 4 (N := some 80) (v := ?_) (a' := ?_) rfl rfl (by decide +kernel) (fun _ _ _ h => h) (Or.inl ⟨by rfl, ?_⟩) hHeld ?_ ?_ | refine takeS_ 0 (N := some 76) (v := ?_) (a' := ?_) rfl rfl (by decide +kernel) (fun _ _ _ h => h) (Or.inl ⟨by rfl, ?_⟩) hHeld ?_ ?_); rotate_left; (rintro w' ⟨s0, s1, s2, s3, s4, s5, s6⟩; go_simp; first | done | (with_reducible rfl) | rfl); rotate_left; (simp only [Act.put, List.setIfInBounds_toArray, List.set_cons_zero, List.set_cons_succ, i64_w, i32_w]; rfl)))
                    refine one_ (i := 5) (N := some 81) #[true, true, true, true, true, true, false, false, false, false, false] rfl rfl (one_of HT_.out (by kernel_rfl)) (by decide) (fun K hK => ?_)
                    refine goes_ Tryd.func28 (by kernel_rfl) rfl #[.agg #[.int .i64 t385, .int .i64 t386, .int .i64 t387, .int .i64 t388, .int .i64 t389, .string t390, .slice Ao58 t391.length co58], .string (t381.extract (x9_3 : Int).toNat (x10_31 : Int).toNat)] (by rfl) rfl rfl (by (try simp only [List.map_toArray, List.map_cons, List.map_nil]); first | done | rfl | (simp only [List.length_drop, List.length_take]; rfl)) ?_
                    with_reducible refine (tree_Child.calls kj31 t385 t386 t387 t388 t389 t390 _ _ t391 (t381.extract (x9_3 : Int).toNat (x10_31 : Int).toNat) t396 false _ ?side1 ?side2 A41.out).mono ?_
                    (case side1 => repeat (first | exact (Kd.R_reads' HO393.out).2.2 | (with_reducible refine Kd.C_alloc ?_ _) | (with_reducible refine Kd.C_drewN ?_ _) | (with_reducible refine Kd.C_drew ?_)))
                    (case side2 => exact (Kd.R_reads' HO393.out).2.1)
                    rintro e w61 ⟨rfl, hb⟩
                    refine ⟨_, rfl, ?_⟩
                    have n0_ := Aside0.mk (Kd.R_below (by (with_reducible repeat (first | apply Kd.R_alloc | apply Kd.R_drewN | apply Kd.R_drew)); exact HO393.out) hb)
                    have n1_ := Aside0.mk (blk_below (g := gb376) (o := .cells #[.slice (some ad380) l0_0.length c0_0, .int .i64 a0_1, .int .i64 a0_2, .int .i64 a0_3] 26 (0, 0)) (by (with_reducible repeat (first | refine blk_drewN ?_ _ | refine blk_drew ?_ | refine blk_alloc ?_ _)); exact BK376.out) hb)
                    have n2_ := Aside0.mk (blk_below (g := gb395) (o := .cells #[.int .i64 t385, .int .i64 t386, .int .i64 t387, .int .i64 t388, .int .i64 t389, .string t390, .slice Ao58 t391.length co58] 44 (0, 0)) (by (with_reducible repeat (first | refine blk_drewN ?_ _ | refine blk_drew ?_ | refine blk_alloc ?_ _)); exact BK395.out) hb)
                    have n3_ := Aside0.mk (below_step (by repeat (first | (with_reducible first | exact HB.out | apply below_alloc | apply pw_below_drewN | apply below_drew1 | refine below_set ?_ GE376.out | refine below_set ?_ GE395.out) | exact HB.out)) hb)
                    clear HO393
                    clear BK376
                    clear BK395
                    clear HB
                    have HO393 := n0_
                    have BK376 := n1_
                    have BK395 := n2_
                    have HB := n3_
                    clear n0_ n1_ n2_ n3_
                    (try clear hb)
                    (try clear hb2)
                    (try clear hk)
                    (try clear hi)
                    refine hK.out _ _ ⟨(blk_cell BK395.out 0).trans rfl, (blk_cell BK395.out 1).trans rfl, (blk_cell BK395.out 2).trans rfl, (blk_cell BK395.out 3).trans rfl, (blk_cell BK395.out 4).trans rfl, (blk_cell BK395.out 5).trans rfl, (blk_cell BK395.out 6).trans rfl⟩ (fun hHeld => ?_)
                    clear hK K
                    refine norm_ (a' := ?_) ?_ ?_
                    rotate_left
                    ·
                     show Act.put _ (some 81) _ = _
                     simp only [Act.put, List.setIfInBounds_toArray, List.set_cons_zero, List.set_cons_succ, i64_w, i32_w]
                     rfl
                    iterate 5 (((first | refine pureS_ 6 (N := some 75) (v := ?_) (a' := ?_) rfl rfl (by decide +kernel) (fun _ _ _ h => h) (Or.inl ⟨by rfl, ?_⟩) ?_ ?_ | refine pureS_ 7 (N := some 82) (v := ?_) (a' := ?_) rfl rfl (by decide +kernel) (fun _ _ _ h => h) (Or.inl ⟨by rfl, ?_⟩) ?_ ?_ | refine pureS_ 8 (N := some 83) (v := ?_) (a' := ?_) rfl rfl (by decide +kernel) (fun _ _ _ h => h) (Or.inl ⟨by rfl, ?_⟩) ?_ ?_ | refine pureS_ 9 (N := some 13) (v := ?_) (a' := ?_) rfl rfl (by decide +kernel) (fun _ _ _ h => h) (Or.inl ⟨by rfl, ?_⟩) ?_ ?_ | refine pureS_ 10 (N := some 14) (v := ?_) (a' := ?_) rfl rfl (by decide +kernel) (fun _ _ _ h => h) (Or.inl ⟨by rfl, ?_⟩) ?_ ?_); rotate_left; (intro w'; go_simp; first | done | (with_reducible rfl) | rfl); rotate_left; (simp only [Act.put, List.setIfInBounds_toArray, List.set_cons_zero, List.set_cons_succ, i64_w, i32_w]; rfl)))
                    refine done_ (done_of HT_.out (by kernel_rfl)) ?_
                    try go_wp2
                    go_ret
                    exact ⟨by first | rfl | (simp [errW_none, errW_some] <;> rfl) | (simp only [← hji18]; first | rfl | (simp [errW_none, errW_some] <;> rfl)) | (simp [*, errW_none, errW_some] <;> rfl), by repeat (first | (with_reducible first | exact HB.out | apply below_alloc | apply pw_below_drewN | apply below_drew1 | refine below_set ?_ GE376.out | refine below_set ?_ GE395.out) | exact HB.out)⟩
                  ·
                   replace c42 := Bool.eq_false_iff.mpr c42
                   subst c42
                   have H1 : (some false) = some r := by rw [if_neg (show ¬ (false = true) by decide)] at H; exact H
                   clear H
                   have H := H1
                   clear H1
                   obtain rfl := Option.some.inj H
                   have hcz62_0 : wc.cell? ⟨gb376, 0, none⟩ = some (.slice (some ad380) l0_0.length c0_0) := (blk_cell BK376.out 0).trans rfl
                   have hcz62_1 : wc.cell? ⟨gb376, 1, none⟩ = some (.int .i64 a0_1) := (blk_cell BK376.out 1).trans rfl
                   have hcz62_2 : wc.cell? ⟨gb376, 2, none⟩ = some (.int .i64 a0_2) := (blk_cell BK376.out 2).trans rfl
                   have hcz62_3 : wc.cell? ⟨gb376, 3, none⟩ = some (.int .i64 a0_3) := (blk_cell BK376.out 3).trans rfl
                   have hfz62_0 := blk_frozen BK376.out 0
                   have hfz62_1 := blk_frozen BK376.out 1
                   have hfz62_2 := blk_frozen BK376.out 2
                   have hfz62_3 := blk_frozen BK376.out 3
                   try go_wp2_with (first | ((with_reducible refine gate_callee (f := 26) rfl ?_); refine goesL_ (some 72) rfl rfl Tryd.func26 (by kernel_rfl) rfl #[.agg #[.slice (some ad380) l0_0.length c0_0, .int .i64 a0_1, .int .i64 a0_2, .int .i64 a0_3], .int .i64 x8_3] rfl (by (try simp only [List.map_toArray, List.map_cons, List.map_nil]); first | done | rfl | (simp only [List.length_drop, List.length_take]; rfl)) ?_; (with_reducible refine (tree_Get.calls kj31 _ _ l0_0 a0_1 a0_2 a0_3 x8_3 t385 t386 t387 t388 t389 t390 t391 false _ ?side1 ?side2 A37.out).mono ?_); (case side1 => repeat (first | exact (Kd.C_below HR0_0.out HB.out) | (with_reducible refine Kd.C_alloc ?_ _) | (with_reducible refine Kd.C_drewN ?_ _) | (with_reducible refine Kd.C_drew ?_))); (case side2 => exact HC0_0.out); rintro e w63 ⟨v392, rfl, ho0, hb⟩; refine ⟨_, rfl, ?_⟩; have n0_ := Aside0.mk (Kd.R_lower ho0 (below_size (by repeat (first | (with_reducible first | exact HB.out | apply below_alloc | apply pw_below_drewN | apply below_drew1 | refine below_set ?_ GE376.out) | exact HB.out)))); have n1_ := Aside0.mk (blk_below (g := gb376) (o := .cells #[.slice (some ad380) l0_0.length c0_0, .int .i64 a0_1, .int .i64 a0_2, .int .i64 a0_3] 26 (0, 0)) (by (with_reducible repeat (first | refine blk_drewN ?_ _ | refine blk_drew ?_ | refine blk_alloc ?_ _)); exact BK376.out) hb); have n2_ := Aside0.mk (below_step (by repeat (first | (with_reducible first | exact HB.out | apply below_alloc | apply pw_below_drewN | apply below_drew1 | refine below_set ?_ GE376.out) | exact HB.out)) hb); clear BK376; clear HB; have HO393 := n0_; have BK376 := n1_; have HB := n2_; clear n0_ n1_ n2_; (try clear hb); (try clear hb2); (try clear hk); (try clear hi); (try clear ho0)) | ((with_reducible refine gate_dst (N := 11) rfl ?_); refine box_event ?hg (N := 11) ?hd (cs := #[.int .i64 0, .int .i64 0, .int .i64 0, .int .i64 0, .int .i64 0, .string (⟨#[]⟩ : ByteArray), .slice none 0 0]) (t := 44) ?hr ?_; (case hd => rfl); (case hg => rfl); (case hr => first | (go_simp; done) | (go_simp; rfl)); intro gb395 hg w64 hbox hb; have n0_ := Aside0.mk (Kd.R_below (by (with_reducible repeat (first | apply Kd.R_alloc | apply Kd.R_drewN | apply Kd.R_drew)); exact HO393.out) hb); have n1_ := Aside0.mk (blk_below (g := gb376) (o := .cells #[.slice (some ad380) l0_0.length c0_0, .int .i64 a0_1, .int .i64 a0_2, .int .i64 a0_3] 26 (0, 0)) (by (with_reducible repeat (first | refine blk_drewN ?_ _ | refine blk_drew ?_ | refine blk_alloc ?_ _)); exact BK376.out) hb); have n2_ := Aside0.mk (below_step (by repeat (first | (with_reducible first | exact HB.out | apply below_alloc | apply pw_below_drewN | apply below_drew1 | refine below_set ?_ GE376.out) | exact HB.out)) hb); have n3_ := Aside0.mk (hbox); have n4_ := Aside0.mk ((by rw [hg]; exact (below_size (by repeat (first | (with_reducible first | exact HB.out | apply below_alloc | apply pw_below_drewN | apply below_drew1 | refine below_set ?_ GE376.out) | exact HB.out))) : w.heap.size ≤ gb395)); have n5_ := Aside0.mk ((by rw [hg]; exact (below_size (by repeat (first | (with_reducible first | exact HB.out | apply below_alloc | apply pw_below_drewN | apply below_drew1 | refine below_set ?_ GE376.out) | exact HB.out))) : w.heap.size ≤ gb395)); have n6_ := Aside0.mk ((by rw [hg]; exact Nat.ne_of_lt (blk_lt (g := gb376) (o := .cells #[.slice (some ad380) l0_0.length c0_0, .int .i64 a0_1, .int .i64 a0_2, .int .i64 a0_3] 26 (0, 0)) (by (with_reducible repeat (first | refine blk_drewN ?_ _ | refine blk_drew ?_ | refine blk_alloc ?_ _)); exact BK376.out)) : gb376 ≠ gb395)); have n7_ := Aside0.mk ((by rw [hg]; exact Nat.ne_of_gt (blk_lt (g := gb376) (o := .cells #[.slice (some ad380) l0_0.length c0_0, .int .i64 a0_1, .int .i64 a0_2, .int .i64 a0_3] 26 (0, 0)) (by (with_reducible repeat (first | refine blk_drewN ?_ _ | refine blk_drew ?_ | refine blk_alloc ?_ _)); exact BK376.out)) : gb395 ≠ gb376)); clear HO393; clear BK376; clear HB; have HO393 := n0_; have BK376 := n1_; have HB := n2_; have BK395 := n3_; have GW395 := n4_; have GE395 := n5_; have NB376_395 := n6_; have NB395_376 := n7_; clear n0_ n1_ n2_ n3_ n4_ n5_ n6_ n7_; clear hb hbox hg; have hnb65 := NB395_376.out; have hnc65 := NB376_395.out; have hcz66_0 : w64.cell? ⟨gb395, 0, none⟩ = some (.int .i64 0) := (blk_cell BK395.out 0).trans rfl; have hcz66_1 : w64.cell? ⟨gb395, 1, none⟩ = some (.int .i64 0) := (blk_cell BK395.out 1).trans rfl; have hcz66_2 : w64.cell? ⟨gb395, 2, none⟩ = some (.int .i64 0) := (blk_cell BK395.out 2).trans rfl; have hcz66_3 : w64.cell? ⟨gb395, 3, none⟩ = some (.int .i64 0) := (blk_cell BK395.out 3).trans rfl; have hcz66_4 : w64.cell? ⟨gb395, 4, none⟩ = some (.int .i64 0) := (blk_cell BK395.out 4).trans rfl; have hcz66_5 : w64.cell? ⟨gb395, 5, none⟩ = some (.string (⟨#[]⟩ : ByteArray)) := (blk_cell BK395.out 5).trans rfl; have hcz66_6 : w64.cell? ⟨gb395, 6, none⟩ = some (.slice none 0 0) := (blk_cell BK395.out 6).trans rfl; have hfz66_0 := blk_frozen BK395.out 0; have hfz66_1 := blk_frozen BK395.out 1; have hfz66_2 := blk_frozen BK395.out 2; have hfz66_3 := blk_frozen BK395.out 3; have hfz66_4 := blk_frozen BK395.out 4; have hfz66_5 := blk_frozen BK395.out 5; have hfz66_6 := blk_frozen BK395.out 6; obtain ⟨Ao67, co67, eo67⟩ := Kd.R_slice HO393.out; subst eo67))
                   have n0_ : Aside0 (Kd.R k61 61 (((((((w64.setCell ⟨gb395, 0, none⟩ (.int .i64 t385)).setCell ⟨gb395, 1, none⟩ (.int .i64 t386)).setCell ⟨gb395, 2, none⟩ (.int .i64 t387)).setCell ⟨gb395, 3, none⟩ (.int .i64 t388)).setCell ⟨gb395, 4, none⟩ (.int .i64 t389)).setCell ⟨gb395, 5, none⟩ (.string t390)).setCell ⟨gb395, 6, none⟩ (.slice Ao67 t391.length co67)) w.heap.size (fun _ => True) (.slice Ao67 t391.length co67) t391) := ⟨by (with_reducible repeat (first | apply Kd.R_alloc | apply Kd.R_drewN | apply Kd.R_drew)); exact Kd.R_mono (Kd.R_far (p := ⟨gb395, 6, none⟩) (Kd.R_far (p := ⟨gb395, 5, none⟩) (Kd.R_far (p := ⟨gb395, 4, none⟩) (Kd.R_far (p := ⟨gb395, 3, none⟩) (Kd.R_far (p := ⟨gb395, 2, none⟩) (Kd.R_far (p := ⟨gb395, 1, none⟩) (Kd.R_far (p := ⟨gb395, 0, none⟩) (Kd.R_types HO393.out BK395.out (by decide)) (fun _ hk => hk.2) (.int .i64 t385)) (fun _ hk => hk.2) (.int .i64 t386)) (fun _ hk => hk.2) (.int .i64 t387)) (fun _ hk => hk.2) (.int .i64 t388)) (fun _ hk => hk.2) (.int .i64 t389)) (fun _ hk => hk.2) (.string t390)) (fun _ hk => hk.2) (.slice Ao67 t391.length co67)) (fun _ hk => trivial)⟩
                   have n1_ : Aside0 ((((((((w64.setCell ⟨gb395, 0, none⟩ (.int .i64 t385)).setCell ⟨gb395, 1, none⟩ (.int .i64 t386)).setCell ⟨gb395, 2, none⟩ (.int .i64 t387)).setCell ⟨gb395, 3, none⟩ (.int .i64 t388)).setCell ⟨gb395, 4, none⟩ (.int .i64 t389)).setCell ⟨gb395, 5, none⟩ (.string t390)).setCell ⟨gb395, 6, none⟩ (.slice Ao67 t391.length co67)).heap[gb376]? = some (.cells #[.slice (some ad380) l0_0.length c0_0, .int .i64 a0_1, .int .i64 a0_2, .int .i64 a0_3] 26 (0, 0))) := ⟨by (with_reducible repeat (first | refine blk_drewN ?_ _ | refine blk_drew ?_ | refine blk_alloc ?_ _)); refine blk_far ?_ NB376_395.out _; (with_reducible repeat (first | refine blk_drewN ?_ _ | refine blk_drew ?_ | refine blk_alloc ?_ _)); refine blk_far ?_ NB376_395.out _; (with_reducible repeat (first | refine blk_drewN ?_ _ | refine blk_drew ?_ | refine blk_alloc ?_ _)); refine blk_far ?_ NB376_395.out _; (with_reducible repeat (first | refine blk_drewN ?_ _ | refine blk_drew ?_ | refine blk_alloc ?_ _)); refine blk_far ?_ NB376_395.out _; (with_reducible repeat (first | refine blk_drewN ?_ _ | refine blk_drew ?_ | refine blk_alloc ?_ _)); refine blk_far ?_ NB376_395.out _; (with_reducible repeat (first | refine blk_drewN ?_ _ | refine blk_drew ?_ | refine blk_alloc ?_ _)); refine blk_far ?_ NB376_395.out _; (with_reducible repeat (first | refine blk_drewN ?_ _ | refine blk_drew ?_ | refine blk_alloc ?_ _)); refine blk_far ?_ NB376_395.out _; (with_reducible repeat (first | refine blk_drewN ?_ _ | refine blk_drew ?_ | refine blk_alloc ?_ _)); exact BK376.out⟩
                   have n2_ : Aside0 ((((((((w64.setCell ⟨gb395, 0, none⟩ (.int .i64 t385)).setCell ⟨gb395, 1, none⟩ (.int .i64 t386)).setCell ⟨gb395, 2, none⟩ (.int .i64 t387)).setCell ⟨gb395, 3, none⟩ (.int .i64 t388)).setCell ⟨gb395, 4, none⟩ (.int .i64 t389)).setCell ⟨gb395, 5, none⟩ (.string t390)).setCell ⟨gb395, 6, none⟩ (.slice Ao67 t391.length co67)).heap[gb395]? = some (.cells #[.int .i64 t385, .int .i64 t386, .int .i64 t387, .int .i64 t388, .int .i64 t389, .string t390, .slice Ao67 t391.length co67] 44 (0, 0))) := ⟨by (with_reducible repeat (first | refine blk_drewN ?_ _ | refine blk_drew ?_ | refine blk_alloc ?_ _)); refine blk_put (cs := #[.int .i64 t385, .int .i64 t386, .int .i64 t387, .int .i64 t388, .int .i64 t389, .string t390, .slice none 0 0]) ?_ 6 _ (by first | rfl | (simp only [w64_PTr40]; rfl) | (simp [w64_PTr40]; done)); (with_reducible repeat (first | refine blk_drewN ?_ _ | refine blk_drew ?_ | refine blk_alloc ?_ _)); refine blk_put (cs := #[.int .i64 t385, .int .i64 t386, .int .i64 t387, .int .i64 t388, .int .i64 t389, .string (⟨#[]⟩ : ByteArray), .slice none 0 0]) ?_ 5 _ (by first | rfl | (simp only [w64_PTr40]; rfl) | (simp [w64_PTr40]; done)); (with_reducible repeat (first | refine blk_drewN ?_ _ | refine blk_drew ?_ | refine blk_alloc ?_ _)); refine blk_put (cs := #[.int .i64 t385, .int .i64 t386, .int .i64 t387, .int .i64 t388, .int .i64 0, .string (⟨#[]⟩ : ByteArray), .slice none 0 0]) ?_ 4 _ (by first | rfl | (simp only [w64_PTr40]; rfl) | (simp [w64_PTr40]; done)); (with_reducible repeat (first | refine blk_drewN ?_ _ | refine blk_drew ?_ | refine blk_alloc ?_ _)); refine blk_put (cs := #[.int .i64 t385, .int .i64 t386, .int .i64 t387, .int .i64 0, .int .i64 0, .string (⟨#[]⟩ : ByteArray), .slice none 0 0]) ?_ 3 _ (by first | rfl | (simp only [w64_PTr40]; rfl) | (simp [w64_PTr40]; done)); (with_reducible repeat (first | refine blk_drewN ?_ _ | refine blk_drew ?_ | refine blk_alloc ?_ _)); refine blk_put (cs := #[.int .i64 t385, .int .i64 t386, .int .i64 0, .int .i64 0, .int .i64 0, .string (⟨#[]⟩ : ByteArray), .slice none 0 0]) ?_ 2 _ (by first | rfl | (simp only [w64_PTr40]; rfl) | (simp [w64_PTr40]; done)); (with_reducible repeat (first | refine blk_drewN ?_ _ | refine blk_drew ?_ | refine blk_alloc ?_ _)); refine blk_put (cs := #[.int .i64 t385, .int .i64 0, .int .i64 0, .int .i64 0, .int .i64 0, .string (⟨#[]⟩ : ByteArray), .slice none 0 0]) ?_ 1 _ (by first | rfl | (simp only [w64_PTr40]; rfl) | (simp [w64_PTr40]; done)); (with_reducible repeat (first | refine blk_drewN ?_ _ | refine blk_drew ?_ | refine blk_alloc ?_ _)); refine blk_put (cs := #[.int .i64 0, .int .i64 0, .int .i64 0, .int .i64 0, .int .i64 0, .string (⟨#[]⟩ : ByteArray), .slice none 0 0]) ?_ 0 _ (by first | rfl | (simp only [w64_PTr40]; rfl) | (simp [w64_PTr40]; done)); (with_reducible repeat (first | refine blk_drewN ?_ _ | refine blk_drew ?_ | refine blk_alloc ?_ _)); exact BK395.out⟩
                   have n3_ : Aside0 (Below w.heap.size w (((((((w64.setCell ⟨gb395, 0, none⟩ (.int .i64 t385)).setCell ⟨gb395, 1, none⟩ (.int .i64 t386)).setCell ⟨gb395, 2, none⟩ (.int .i64 t387)).setCell ⟨gb395, 3, none⟩ (.int .i64 t388)).setCell ⟨gb395, 4, none⟩ (.int .i64 t389)).setCell ⟨gb395, 5, none⟩ (.string t390)).setCell ⟨gb395, 6, none⟩ (.slice Ao67 t391.length co67))) := ⟨by repeat (first | (with_reducible first | exact HB.out | apply below_alloc | apply pw_below_drewN | apply below_drew1 | refine below_set ?_ GE376.out | refine below_set ?_ GE395.out) | exact HB.out)⟩
                   (try clear HO393)
                   (try clear BK376)
                   (try clear BK395)
                   (try clear HB)
                   generalize (((((((w64.setCell ⟨gb395, 0, none⟩ (.int .i64 t385)).setCell ⟨gb395, 1, none⟩ (.int .i64 t386)).setCell ⟨gb395, 2, none⟩ (.int .i64 t387)).setCell ⟨gb395, 3, none⟩ (.int .i64 t388)).setCell ⟨gb395, 4, none⟩ (.int .i64 t389)).setCell ⟨gb395, 5, none⟩ (.string t390)).setCell ⟨gb395, 6, none⟩ (.slice Ao67 t391.length co67)) = w68 at n0_ n1_ n2_ n3_ ⊢
                   have HO393 := n0_
                   have BK376 := n1_
                   have BK395 := n2_
                   have HB := n3_
                   clear n0_ n1_ n2_ n3_
                   have n0_ := Aside0.mk (Kd.R_drew HO393.out)
                   have n1_ := Aside0.mk (blk_drew BK376.out)
                   have n2_ := Aside0.mk (blk_drew BK395.out)
                   have n3_ := Aside0.mk (below_drew1 HB.out)
                   clear HO393
                   clear BK376
                   clear BK395
                   clear HB
                   have HO393 := n0_
                   have BK376 := n1_
                   have BK395 := n2_
                   have HB := n3_
                   clear n0_ n1_ n2_ n3_
                   refine start_ (n := 11) (S := fun w' => w'.cell? ⟨gb395, 0, none⟩ = some (.int .i64 t385) ∧ w'.cell? ⟨gb395, 1, none⟩ = some (.int .i64 t386) ∧ w'.cell? ⟨gb395, 2, none⟩ = some (.int .i64 t387) ∧ w'.cell? ⟨gb395, 3, none⟩ = some (.int .i64 t388) ∧ w'.cell? ⟨gb395, 4, none⟩ = some (.int .i64 t389) ∧ w'.cell? ⟨gb395, 5, none⟩ = some (.string t390) ∧ w'.cell? ⟨gb395, 6, none⟩ = some (.slice Ao67 t391.length co67)) (ds := []) #[false, false, false, false, false, false, false, false, false, false, false] (by kernel_rfl) rfl rfl ⟨(blk_cell BK395.out 0).trans rfl, (blk_cell BK395.out 1).trans rfl, (blk_cell BK395.out 2).trans rfl, (blk_cell BK395.out 3).trans rfl, (blk_cell BK395.out 4).trans rfl, (blk_cell BK395.out 5).trans rfl, (blk_cell BK395.out 6).trans rfl⟩ (fun hHeld => ?_); refine with_tabW rehearsallaw04_TreeWays.tab14 rehearsallaw04_TreeWays.bits14 (fun HT_ HW_ => ?_)
                   generalize w68.drew = w69 at HO393 BK376 BK395 HB hHeld ⊢
                   iterate 5 (((first | refine takeS_ 1 (N := some 77) (v := ?_) (a' := ?_) rfl rfl (by decide +kernel) (fun _ _ _ h => h) (Or.inl ⟨by rfl, ?_⟩) hHeld ?_ ?_ | refine takeS_ 2 (N := some 78) (v := ?_) (a' := ?_) rfl rfl (by decide +kernel) (fun _ _ _ h => h) (Or.inl ⟨by rfl, ?_⟩) hHeld ?_ ?_ | refine takeS_ 3 (N := some 79) (v := ?_) (a' := ?_) rfl rfl (by decide +kernel) (fun _ _ _ h => h) (Or.inl ⟨by rfl, ?_⟩) hHeld ?_ ?_ | refine takeS_ 4 (N := some 80) (v := ?_) (a' := ?_) rfl rfl (by decide +kernel) (fun _ _ _ h => h) (Or.inl ⟨by rfl, ?_⟩) hHeld ?_ ?_ | refine takeS_ 0 (N := some 76) (v := ?_) (a' := ?_) rfl rfl (by decide +kernel) (fun _ _ _ h => h) (Or.inl ⟨by rfl, ?_⟩) hHeld ?_ ?_); rotate_left; (rintro w' ⟨s0, s1, s2, s3, s4, s5, s6⟩; go_simp; first | done | (with_reducible rfl) | rfl); rotate_left; (simp only [Act.put, List.setIfInBounds_toArray, List.set_cons_zero, List.set_cons_succ, i64_w, i32_w]; rfl)))
                   refine one_ (i := 5) (N := some 81) #[true, true, true, true, true, true, false, false, false, false, false] rfl rfl (one_of HT_.out (by kernel_rfl)) (by decide) (fun K hK => ?_)
                   refine goes_ Tryd.func28 (by kernel_rfl) rfl #[.agg #[.int .i64 t385, .int .i64 t386, .int .i64 t387, .int .i64 t388, .int .i64 t389, .string t390, .slice Ao67 t391.length co67], .string (t381.extract (x9_3 : Int).toNat (x10_31 : Int).toNat)] (by rfl) rfl rfl (by (try simp only [List.map_toArray, List.map_cons, List.map_nil]); first | done | rfl | (simp only [List.length_drop, List.length_take]; rfl)) ?_
                   with_reducible refine (tree_Child.calls kj31 t385 t386 t387 t388 t389 t390 _ _ t391 (t381.extract (x9_3 : Int).toNat (x10_31 : Int).toNat) t396 t397 _ ?side1 ?side2 A41.out).mono ?_
                   (case side1 => repeat (first | exact (Kd.R_reads' HO393.out).2.2 | (with_reducible refine Kd.C_alloc ?_ _) | (with_reducible refine Kd.C_drewN ?_ _) | (with_reducible refine Kd.C_drew ?_)))
                   (case side2 => exact (Kd.R_reads' HO393.out).2.1)
                   rintro e w70 ⟨rfl, hb⟩
                   refine ⟨_, rfl, ?_⟩
                   have n0_ := Aside0.mk (Kd.R_below (by (with_reducible repeat (first | apply Kd.R_alloc | apply Kd.R_drewN | apply Kd.R_drew)); exact HO393.out) hb)
                   have n1_ := Aside0.mk (blk_below (g := gb376) (o := .cells #[.slice (some ad380) l0_0.length c0_0, .int .i64 a0_1, .int .i64 a0_2, .int .i64 a0_3] 26 (0, 0)) (by (with_reducible repeat (first | refine blk_drewN ?_ _ | refine blk_drew ?_ | refine blk_alloc ?_ _)); exact BK376.out) hb)
                   have n2_ := Aside0.mk (blk_below (g := gb395) (o := .cells #[.int .i64 t385, .int .i64 t386, .int .i64 t387, .int .i64 t388, .int .i64 t389, .string t390, .slice Ao67 t391.length co67] 44 (0, 0)) (by (with_reducible repeat (first | refine blk_drewN ?_ _ | refine blk_drew ?_ | refine blk_alloc ?_ _)); exact BK395.out) hb)
                   have n3_ := Aside0.mk (below_step (by repeat (first | (with_reducible first | exact HB.out | apply below_alloc | apply pw_below_drewN | apply below_drew1 | refine below_set ?_ GE376.out | refine below_set ?_ GE395.out) | exact HB.out)) hb)
                   clear HO393
                   clear BK376
                   clear BK395
                   clear HB
                   have HO393 := n0_
                   have BK376 := n1_
                   have BK395 := n2_
                   have HB := n3_
                   clear n0_ n1_ n2_ n3_
                   (try clear hb)
                   (try clear hb2)
                   (try clear hk)
                   (try clear hi)
                   refine hK.out _ _ ⟨(blk_cell BK395.out 0).trans rfl, (blk_cell BK395.out 1).trans rfl, (blk_cell BK395.out 2).trans rfl, (blk_cell BK395.out 3).trans rfl, (blk_cell BK395.out 4).trans rfl, (blk_cell BK395.out 5).trans rfl, (blk_cell BK395.out 6).trans rfl⟩ (fun hHeld => ?_)
                   clear hK K
                   refine norm_ (a' := ?_) ?_ ?_
                   rotate_left
                   ·
                    show Act.put _ (some 81) _ = _
                    simp only [Act.put, List.setIfInBounds_toArray, List.set_cons_zero, List.set_cons_succ, i64_w, i32_w]
                    rfl
                   iterate 5 (((first | refine pureS_ 6 (N := some 75) (v := ?_) (a' := ?_) rfl rfl (by decide +kernel) (fun _ _ _ h => h) (Or.inl ⟨by rfl, ?_⟩) ?_ ?_ | refine pureS_ 7 (N := some 82) (v := ?_) (a' := ?_) rfl rfl (by decide +kernel) (fun _ _ _ h => h) (Or.inl ⟨by rfl, ?_⟩) ?_ ?_ | refine pureS_ 8 (N := some 83) (v := ?_) (a' := ?_) rfl rfl (by decide +kernel) (fun _ _ _ h => h) (Or.inl ⟨by rfl, ?_⟩) ?_ ?_ | refine pureS_ 9 (N := some 13) (v := ?_) (a' := ?_) rfl rfl (by decide +kernel) (fun _ _ _ h => h) (Or.inl ⟨by rfl, ?_⟩) ?_ ?_ | refine pureS_ 10 (N := some 14) (v := ?_) (a' := ?_) rfl rfl (by decide +kernel) (fun _ _ _ h => h) (Or.inl ⟨by rfl, ?_⟩) ?_ ?_); rotate_left; (intro w'; go_simp; first | done | (with_reducible rfl) | rfl); rotate_left; (simp only [Act.put, List.setIfInBounds_toArray, List.set_cons_zero, List.set_cons_succ, i64_w, i32_w]; rfl)))
                   refine done_ (done_of HT_.out (by kernel_rfl)) ?_
                   try go_wp2
                   go_ret
                   exact ⟨by first | rfl | (simp [errW_none, errW_some] <;> rfl) | (simp only [← hji18]; first | rfl | (simp [errW_none, errW_some] <;> rfl)) | (simp [*, errW_none, errW_some] <;> rfl), by repeat (first | (with_reducible first | exact HB.out | apply below_alloc | apply pw_below_drewN | apply below_drew1 | refine below_set ?_ GE376.out | refine below_set ?_ GE395.out) | exact HB.out)⟩
                 ·
                  rw [if_neg c40] at H
                  exact absurd H (by simp)
                ·
                 rw [if_neg c39] at H
                 exact absurd H (by simp)
               ·
                rw [if_neg c38] at H
                exact absurd H (by simp)
            ·
             rw [if_neg c31] at H
             have c31b0 : decide (x9_3 < (t381.size : Int)) = false := decide_eq_false c31
             clear c31
             by_cases c71 : x8_3 = ((rd_T44 l0_0 (ji18)).f0)
             ·
              rw [if_pos c71] at H
              have c71b0 : (x8_3 == ((rd_T44 l0_0 (ji18)).f0)) = true := beq_iff_eq.mpr c71
              have c71b1 : (x8_3 != ((rd_T44 l0_0 (ji18)).f0)) = false := bne_eq_false_iff_eq.mpr c71
              clear c71
              replace H := Option.bind_eq_some_iff.mp H
              obtain ⟨t384, A720, H⟩ := H
              replace H : (some t384) = some r := H
              have A72 := Aside0.mk A720
              clear A720
              obtain rfl := Option.some.inj H
              go_wp2_with (first | (go_at_call 16; (with_reducible refine (rehearsallaw04_awake.calls k3  t384 _ A72.out).mono ?_); rintro e w73 ⟨rfl, hb⟩; have n0_ := Aside0.mk (blk_below (g := gb376) (o := .cells #[.slice (some ad380) l0_0.length c0_0, .int .i64 a0_1, .int .i64 a0_2, .int .i64 a0_3] 26 (0, 0)) (by (with_reducible repeat (first | refine blk_drewN ?_ _ | refine blk_drew ?_ | refine blk_alloc ?_ _)); exact BK376.out) hb); have n1_ := Aside0.mk (below_step (by repeat (first | (with_reducible first | exact HB.out | apply below_alloc | apply pw_below_drewN | apply below_drew1 | refine below_set ?_ GE376.out) | exact HB.out)) hb); clear BK376; clear HB; have BK376 := n0_; have HB := n1_; clear n0_ n1_; (try clear hb); (try clear hb2); (try clear hk); (try clear hi)))
              go_ret
              exact ⟨by first | rfl | (simp [errW_none, errW_some] <;> rfl) | (simp only [← hji18]; first | rfl | (simp [errW_none, errW_some] <;> rfl)) | (simp [*, errW_none, errW_some] <;> rfl), by repeat (first | (with_reducible first | exact HB.out | apply below_alloc | apply pw_below_drewN | apply below_drew1 | refine below_set ?_ GE376.out) | exact HB.out)⟩
             ·
              rw [if_neg c71] at H
              have c71b0 : (x8_3 == ((rd_T44 l0_0 (ji18)).f0)) = false := beq_eq_false_iff_ne.mpr c71
              have c71b1 : (x8_3 != ((rd_T44 l0_0 (ji18)).f0)) = true := bne_iff_ne.mpr c71
              obtain rfl := Option.some.inj H
              go_wp2
              go_ret
              exact ⟨by first | rfl | (simp [errW_none, errW_some] <;> rfl) | (simp only [← hji18]; first | rfl | (simp [errW_none, errW_some] <;> rfl)) | (simp [*, errW_none, errW_some] <;> rfl), by repeat (first | (with_reducible first | exact HB.out | apply below_alloc | apply pw_below_drewN | apply below_drew1 | refine below_set ?_ GE376.out) | exact HB.out)⟩
      ·
       rw [if_neg c20] at H
       exact absurd H (by simp)
     ·
      rw [if_neg c19] at H
      exact absurd H (by simp)
end Go.Proofs.YtnpnablnnfekkaaDoor.PTr
set_option linter.unusedVariables false
set_option linter.unusedSimpArgs false
namespace Go.Proofs.YtnpnablnnfekkaaDoor.PTr
open Go.RowKit Go.Proofs.YtnpnablnnfekkaaDoor Go.Proofs.YtnpnablnnfekkaaDoorW.PrintWords
theorem wayP_len (l : List Nod) (hN : ∀ x ∈ l, ∀ e ∈ x.f6, e.f0.size ≤ 64) (N : Nat) (k : Nat) : ∀ (acc : List (Int × List UInt8)) (id : Int) (p : List UInt8), (∀ q ∈ acc, q.2.length ≤ N) → p.length + 65 * k ≤ N → ∀ q ∈ wayP l k acc id p, q.2.length ≤ N := by
 induction k with
 | zero => intro acc id p h _ q hq; exact h q hq
 | succ k ih =>
  intro acc id p h hg
  unfold wayP
  split
  ·
   exact h
  ·
   split
   ·
    exact h
   ·
    rename_i x hx
    obtain ⟨hxl, hxi⟩ := nodeL_mem hx
    have fold : ∀ (es : List Ent) (a : List (Int × List UInt8)), (∀ e ∈ es, e ∈ x.f6) → (∀ q ∈ a, q.2.length ≤ N) → ∀ q ∈ es.foldl (fun a e => wayP l k a e.f1 (joinP p e.f0.data.toList)) a, q.2.length ≤ N := by
     intro es
     induction es with
     | nil => intro a _ ha; exact ha
     | cons e r ihr =>
      intro a hs ha
      rw [List.foldl_cons]
      refine ihr _ (fun e' h' => hs e' (List.mem_cons_of_mem _ h')) (ih a _ _ ha ?_)
      have h1 := joinP_len p e.f0.data.toList
      have h2 := hN x hxl e (hs e (List.mem_cons_self ..))
      have h3 : e.f0.data.toList.length = e.f0.size := by rw [Array.length_toList]; rfl
      omega
    refine fold x.f6 _ (fun _ h => h) (fun q hq => ?_)
    rcases List.mem_append.1 hq with h1 | h1
    ·
     exact h q h1
    ·
     rw [List.mem_singleton] at h1
     subst h1; show p.length ≤ N; omega
theorem wid_short {l : List Nod} {a1 : Int} (h : chk l a1 = 0) : ∀ q ∈ wid l a1, q.2.length ≤ 40000 := by
 obtain ⟨_, _, hl, _, _, hN, _⟩ := chk_facts h
 unfold wid
 rw [if_pos h]
 exact wayP_len l hN 40000 _ [] 1 [47] (fun q hq => by cases hq) (by simp; omega)
theorem links_facts {l : List Nod} {a1 : Int} (h : chk l a1 = 0) (i : Nat) (hi : i < l.length) : (0 < lk l l[i].f0) = (l[i].f0 ≠ 1) := by
 obtain ⟨hh, hn, hl, hr, _⟩ := chk_facts h
 rw [← chk_same] at h
 unfold chkR at h
 rw [if_pos hh] at h
 split at h
 ·
  unfold refR at h
  split at h
  ·
   rename_i hlk
   have := List.all_eq_true.1 hlk i (List.mem_range.2 hi)
   unfold lkOK at this
   obtain ⟨h0, e0, _⟩ := one_in hh
   by_cases hz : i = 0
   ·
    subst hz
    rw [if_pos rfl, show (0 : Int) = ((0 : Nat) : Int) from rfl, rdN l 0 hi, decide_eq_true_eq] at this
    rw [this, e0]; simp
   ·
    rw [if_neg hz, rdN l i hi, Bool.and_eq_true, decide_eq_true_eq] at this
    have h1 := hr 0 i h0 hi (by omega)
    have h2 : l[i].f0 ≠ 1 := by omega
    have h3 : 0 < lk l l[i].f0 := Nat.pos_of_ne_zero this.1
    exact propext ⟨fun _ => h2, fun _ => h3⟩
  ·
   cases h
 ·
  cases h
theorem scan_l1 (l : List Nod) (a1 a2 a3 x5 x8 : Int) (pre n rest : List UInt8) (hP : (pre ++ n ++ rest).length ≤ 40000) (hn : ∀ c ∈ n, c ≠ 47) (hr : rest = [] ∨ ∃ r, rest = 47 :: r) (r : Bool) :
  ∀ (d t : Nat), t + d = n.length → Evt (fun k => rehearsallaw04_TreeWays.j4 k x5 (asB (pre ++ n ++ rest)) x8 (pre.length : Int) ((pre.length + n.length : Nat) : Int) l a1 a2 a3) r → Evt (fun k => rehearsallaw04_TreeWays.l1 k x5 (asB (pre ++ n ++ rest)) x8 (pre.length : Int) ((pre.length + t : Nat) : Int) l a1 a2 a3) r := by
 simp only [List.length_append] at hP
 intro d
 induction d with
 | zero =>
  intro t ht hE
  obtain rfl : t = n.length := by omega
  refine Evt.succ 0 (fun k _ => ?_) hE
  simp only [rehearsallaw04_TreeWays.l1]
  rcases hr with rfl | ⟨q, rfl⟩
  ·
   rw [if_neg (by rw [asB_size]; simp only [List.length_append, List.length_nil]; omega)]
  ·
   rw [if_pos (by rw [asB_size]; simp only [List.length_append, List.length_cons]; omega), if_pos (by omega), bt_asB _ _ (by simp only [List.length_append, List.length_cons]; omega), if_pos]
   rw [List.getElem_append_right (by simp)]
   simp
 | succ d ih =>
  intro t ht hE
  refine Evt.succ 0 (fun k _ => ?_) (ih (t + 1) (by omega) hE)
  simp only [rehearsallaw04_TreeWays.l1]
  rw [if_pos (by rw [asB_size]; simp only [List.length_append]; omega), if_pos (by omega), bt_asB _ _ (by simp only [List.length_append]; omega), if_neg, show wrap64 (((pre.length + t : Nat) : Int) + 1) = ((pre.length + (t + 1) : Nat) : Int) from by unfold wrap64; omega]
  have ht' : t < n.length := by omega
  rw [List.getElem_append_left (by simp only [List.length_append]; omega), List.getElem_append_right (by omega)]
  simp only [Nat.add_sub_cancel_left]
  intro e
  refine hn n[t] (List.getElem_mem ht') (UInt8.toNat_inj.1 ?_)
  have : (47 : UInt8).toNat = 47 := rfl
  omega
theorem names_l0 (l : List Nod) (a1 a2 a3 id : Int) (hl : l.length ≤ 512) (hr : Rises l) (hb : ∀ x ∈ l, x.f6.length ≤ 1000000000000) (ho : ∀ x ∈ l, Ordered x.f6) (hp : ∀ x ∈ l, ∀ e ∈ x.f6, 0 < e.f1) :
  ∀ (ns : List (List UInt8)) (P pre : List UInt8) (a : Int), P.length ≤ 40000 → (∀ n ∈ ns, NmOK n) → Leads l a ns id → (ns = [] ∧ P.length ≤ pre.length + 1 ∨ ns ≠ [] ∧ P = pre ++ flatP ns) → pre.length ≤ 40000 → Evt (fun k => rehearsallaw04_TreeWays.l0 k id (asB P) a ((pre.length + 1 : Nat) : Int) l a1 a2 a3) true := by
 intro ns
 induction ns with
 | nil =>
  intro P pre a hP _ hL hc hpl
  obtain rfl : a = id := hL
  have hge : P.length ≤ pre.length + 1 := by
   rcases hc with h | h
   ·
    exact h.2
   ·
    exact absurd rfl h.1
  refine Evt.bind (q := fun _ x => some x) (fun k => ?_) awake_ev (Evt.const0 (fun _ => rfl))
  show rehearsallaw04_TreeWays.l0 (k + 1) a (asB P) a _ l a1 a2 a3 = _
  simp only [rehearsallaw04_TreeWays.l0]
  rw [if_neg (by rw [asB_size]; omega)]
  simp
 | cons n r ih =>
  intro P pre a hP hok hL hc hpl
  have hPe : P = (pre ++ [47]) ++ n ++ flatP r := by
   rcases hc with h | h
   ·
    exact absurd h.1 (by simp)
   ·
    rw [h.2]; simp [flatP]
  obtain ⟨hn0, hn47, hn64⟩ := hok n (by simp)
  have hrest : flatP r = [] ∨ ∃ q, flatP r = 47 :: q := by
   cases r with
   | nil => exact .inl rfl
   | cons m q => exact .inr ⟨_, rfl⟩
  have hpos : 0 < n.length := List.length_pos_iff.2 hn0
  obtain ⟨x, hx, hxa, e, he, hen, hL'⟩ := hL
  have hpl1 : (pre ++ [47]).length = pre.length + 1 := by simp
  have hPl : P.length = pre.length + 1 + n.length + (flatP r).length := by rw [hPe]; simp; omega
  refine Evt.succ 0 (fun k _ => ?_) (scan_l1 l a1 a2 a3 id a (pre ++ [47]) n (flatP r) (by rw [← hPe]; exact hP) hn47 hrest true n.length 0 (by omega) ?_)
  ·
   show rehearsallaw04_TreeWays.l0 (k + 1) id (asB P) a _ l a1 a2 a3 = _
   simp only [rehearsallaw04_TreeWays.l0]
   rw [if_pos (by rw [asB_size]; omega), hpl1, ← hPe]
  ·
   rw [hpl1, ← hPe]
   obtain ⟨y, b, hg, _, hy⟩ := get_ev l a1 a2 a3 a hl hr hb
   have hyx : b = true ∧ y = x := by
    rcases hy with ⟨h1, h2, h3⟩ | ⟨_, _, h3⟩
    ·
     exact ⟨h1, node_one hr h2 hx (by rw [h3, hxa])⟩
    ·
     exact absurd (mem_ids.2 ⟨x, hx, hxa⟩) h3
   obtain ⟨rfl, rfl⟩ := hyx
   have hex : (asB P).extract (((pre.length + 1 : Nat) : Int)).toNat (((pre.length + 1 + n.length : Nat) : Int)).toNat = asB n := by
    rw [Int.toNat_natCast, Int.toNat_natCast, extract_asB', hPe]
    congr 1
    rw [List.take_left' (by simp; omega)]
    exact List.drop_left' hpl1
   have hc := pchild_ev y.f0 y.f1 y.f2 y.f3 y.f4 y.f5 y.f6 (asB n) (by have := hb y hx; omega) (ho y hx) (hp y hx)
   rw [chd_step (ho y hx) he (nm := asB n) (by rw [hen, asB_data])] at hc
   refine Evt.bind (q := fun k bt => if 0 ≤ ((pre.length + 1 : Nat) : Int) then (if ((pre.length + 1 : Nat) : Int) ≤ ((pre.length + 1 + n.length : Nat) : Int) then (if ((pre.length + 1 + n.length : Nat) : Int) ≤ ((asB P).size : Int) then ((tree_Child.f k bt.1 bt.2.1 bt.2.2.1 bt.2.2.2.1 bt.2.2.2.2.1 bt.2.2.2.2.2.1 bt.2.2.2.2.2.2.1 ((asB P).extract (((pre.length + 1 : Nat) : Int)).toNat (((pre.length + 1 + n.length : Nat) : Int)).toNat)).bind fun bt396 => (if bt.2.2.2.2.2.2.2 = true then (if bt396.2 = true then (rehearsallaw04_TreeWays.l0 k id (asB P) bt396.1 (wrap64 (((pre.length + 1 + n.length : Nat) : Int) + 1)) l a1 a2 a3) else (some false)) else (some false))) else (none)) else (none)) else (none)) (fun k => by simp only [rehearsallaw04_TreeWays.j4]) hg ?_
   refine Evt.bind0 (p := fun k => tree_Child.f k y.f0 y.f1 y.f2 y.f3 y.f4 y.f5 y.f6 (asB n)) (q := fun k bt396 => if true = true then (if bt396.2 = true then (rehearsallaw04_TreeWays.l0 k id (asB P) bt396.1 (wrap64 (((pre.length + 1 + n.length : Nat) : Int) + 1)) l a1 a2 a3) else (some false)) else (some false)) (fun k => ?_) hc ?_
   ·
    rw [if_pos (by omega), if_pos (by omega), if_pos (by rw [asB_size]; omega), hex]
    rfl
   ·
    have hpe := hp y hx e he
    have hd : decide (e.f1 > 0) = true := decide_eq_true hpe
    simp only [hd, if_true]
    rw [show wrap64 (((pre.length + 1 + n.length : Nat) : Int) + 1) = (((pre ++ 47 :: n).length + 1 : Nat) : Int) from by simp only [List.length_append, List.length_cons]; unfold wrap64; omega]
    refine ih P (pre ++ 47 :: n) e.f1 hP (fun m hm => hok m (List.mem_cons_of_mem _ hm)) hL' ?_ (by simp only [List.length_append, List.length_cons]; omega)
    by_cases hr0 : r = []
    ·
     subst hr0
     refine .inl ⟨rfl, ?_⟩
     rw [hPl]; simp only [List.length_append, List.length_cons, flatP, List.length_nil]; omega
    ·
     exact .inr ⟨hr0, by rw [hPe]; simp⟩
theorem path_of {l : List Nod} {a1 : Int} (h : chk l a1 = 0) (id : Int) (hi : id ∈ idsL l) : ∃ q ∈ wid l a1, q.1 = id ∧ getA ((wid l a1).map toP) id = some (asB q.2) := by
 obtain ⟨q, hq, rfl⟩ := List.mem_map.1 ((wid_full h).2.1 id hi)
 refine ⟨q, hq, rfl, ?_⟩
 obtain ⟨j, hj, rfl⟩ := List.getElem_of_mem hq
 refine getA_at (j := j) ?_ ?_
 ·
  rw [List.map_map]; exact (wid_props l a1).1
 ·
  rw [List.getElem?_map, List.getElem?_eq_getElem hj]; rfl
theorem ways_ev (l : List Nod) (a1 a2 a3 wh : Int) (hw : 0 ≤ wh) (hB : Bd l) : Evt (fun k => rehearsallaw04_TreeWays.f k l a1 a2 a3 wh) true := by
 have hout : Evt (fun k => rehearsallaw04_TreeWays.j0 k wh true l a1 a2 a3) true :=
  Evt.bind (q := fun _ x => some x) (fun k => by simp only [rehearsallaw04_TreeWays.j0]; rw [if_pos trivial]) awake_ev (Evt.const0 (fun _ => rfl))
 obtain ⟨b, hb, hs⟩ := small_ev l a1 a2 a3
 refine Evt.bind0 (fun k => rfl) hb ?_
 cases b with
 | false => exact hout
 | true =>
  have hE := small_e (hs rfl)
  refine Evt.bind0 (fun k => if_pos rfl) (rchk_ev l a1 a2 a3 (fun _ => hB)) ?_
  rcases chk_two l a1 with h | h
  ·
   rw [h]
   show Evt (fun k => rehearsallaw04_TreeWays.j0 k wh false l a1 a2 a3) true
   obtain ⟨hh, hn, hl, hr, hcl, _, h1⟩ := chk_facts h
   have hbe := eB_ok hE hl
   obtain ⟨h0, _, _⟩ := one_in hh
   have hwl : IntKind.u64.wrap ((l.length : Int)) = (l.length : Int) := by rw [IntKind.wrap_u64]; omega
   have t0 : 0 ≤ Int.tmod wh (l.length : Int) := Int.tmod_nonneg _ hw
   have t1 : Int.tmod wh (l.length : Int) < (l.length : Int) := Int.tmod_lt_of_pos _ (by omega)
   obtain ⟨i, hi⟩ := Int.eq_ofNat_of_zero_le t0
   have hil : i < l.length := by omega
   obtain ⟨q, hq, hqi, hg⟩ := path_of h l[i].f0 (mem_ids.2 ⟨l[i], List.getElem_mem hil, rfl⟩)
   have hp : tree_Path.f l a1 a2 a3 l[i].f0 = some (asB q.2, true) := by
    unfold tree_Path.f; rw [if_pos hE, hg]; rfl
   have hlk := tlinks_ev l a1 a2 a3 l[i].f0 hl (fun x hx => by have := hbe x hx; omega)
   have hfl : ((decide (((lk l l[i].f0 : Nat) : Int) > 0)) != (l[i].f0 != 1)) = false := by
    have := links_facts h i hil
    by_cases h1 : l[i].f0 = 1
    ·
     have h2 : ¬ 0 < lk l l[i].f0 := by rw [this]; simpa using h1
     rw [decide_eq_false (by omega)]; simp [h1]
    ·
     have h2 : 0 < lk l l[i].f0 := by rw [this]; exact h1
     rw [decide_eq_true (by omega)]; simp [h1]
   obtain ⟨ns, e1, e2, e3⟩ := wid_good h q hq
   have hend := names_l0 l a1 a2 a3 l[i].f0 hl hr hbe (fun x hx => ordered_of (ents_of_plain (plain_all hn x hx))) (fun x hx e he => ids_pos hh hr _ (hcl x hx e he)) ns q.2 [] 1 (wid_short h q hq) e2 (by rw [← hqi]; exact e3)
    (by
     rw [e1]
     by_cases hns : ns = []
     ·
      subst hns; exact .inl ⟨rfl, by simp [pathOf]⟩
     ·
      refine .inr ⟨hns, ?_⟩
      unfold pathOf; rw [if_neg hns]; rfl) (by simp)
   refine Evt.bind (p := fun k => tree_Links.f k l a1 a2 a3 l[i].f0) (q := fun k t383 => rehearsallaw04_TreeWays.j1 k l[i].f0 (asB q.2) ((decide (t383 > 0)) != (l[i].f0 != 1)) l a1 a2 a3) (fun k => ?_) hlk ?_
   ·
    show rehearsallaw04_TreeWays.j0 (k + 1) wh false l a1 a2 a3 = _
    simp only [rehearsallaw04_TreeWays.j0]
    rw [if_neg (by simp), hwl, if_neg (by omega), if_pos t0, if_pos t1, hi, rdN l i hil, hp, Option.bind_some, if_pos rfl]
   ·
    rw [hfl]
    refine Evt.succ 0 (fun k _ => ?_) hend
    show rehearsallaw04_TreeWays.j1 (k + 1) _ _ false l a1 a2 a3 = _
    simp only [rehearsallaw04_TreeWays.j1]
    rw [if_neg (by simp)]; rfl
  ·
   rw [h]; exact hout
theorem treeWays_walk (t : TreeV) (wh : Int) (w : World) (h : t.ok w) (hw : 0 ≤ wh ∧ wh ≤ 18446744073709551615) : Calls Tryd.prog 6 #[t.val, .int .u64 wh] w fun e w' => e = .returned (.bool true) ∧ Below w.heap.size w w' := by
 obtain ⟨K, hK⟩ := ways_ev t.l t.b1 t.b2 t.b3 wh hw.1 (bd_of h)
 exact rehearsallaw04_TreeWays.calls K t.A t.c t.l t.b1 t.b2 t.b3 wh true w h.1 h.2.1 (hK K (Nat.le_refl _))
end Go.Proofs.YtnpnablnnfekkaaDoor.PTr
