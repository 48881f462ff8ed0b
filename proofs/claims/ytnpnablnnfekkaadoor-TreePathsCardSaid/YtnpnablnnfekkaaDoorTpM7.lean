/- Texts of this claim's proof: small lemmas, walks and plain laws (merged by wip/shake.py). -/
import Derived.Test.YtnpnablnnfekkaaDoorTpM1
import Derived.Test.YtnpnablnnfekkaaDoorTpM2
import Derived.Test.YtnpnablnnfekkaaDoorTpM3
import Derived.Test.YtnpnablnnfekkaaDoorTpM5
namespace Go.Proofs.YtnpnablnnfekkaaDoor.PTr
open Go.RowKit Go.Proofs.YtnpnablnnfekkaaDoorW.PrintWords Go.Proofs.YtnpnablnnfekkaaDoorW.PrintLast Go.Proofs.YtnpnablnnfekkaaDoorW.PrintMore
attribute [local go_sem] max2_int min2_int max_two min_two max_three min_three max_four min_four   -- for this text's walks alone
set_option linter.unusedVariables false
set_option linter.unusedSimpArgs false
theorem w64_PTr25 (x : Int) : wrap64 (x % 256) = x % 256 := by unfold wrap64; omega
theorem ob_len_PTr25 (A : Option Addr) (n m c d : Nat) : (Value.slice A n c).ownBlock = (Value.slice A m d).ownBlock := by cases A <;> rfl
mutual
def rehearsalref04_Canon.l0 : Nat → List (S87) → Int → List (S44) → Int → Int → Int → List (S44) → Int → Int → Int → Option ((List (S44)) × Int × Int × Int × Int)
 | 0, _, _, _, _, _, _, _, _, _, _ => none
 | k + 1, x4, x6, x256000, x256001, x256002, x256003, x262000, x262001, x262002, x262003 => if x6 < (x4.length : Int) then (if 0 ≤ x6 then ((rehearsalref04_Place.f k x256000 x256001 x256002 x256003 ((rd_T87 x4 x6).f0)).bind fun t263 => (if 0 ≤ t263 then (if t263 < (x256000.length : Int) then (rehearsalref04_Canon.l1 k x4 x6 ([] : List (S61)) 0 x256000 x256001 x256002 x256003 x262000 x262001 x262002 x262003 (wrap64 (x6 + 1)) ((rd_T44 x256000 t263).f1) ((rd_T44 x256000 t263).f2) ((rd_T44 x256000 t263).f3) ((rd_T44 x256000 t263).f4) ((rd_T44 x256000 t263).f5) ((rd_T44 x256000 t263).f6)) else (none)) else (none))) else (none)) else (some (x262000, x262001, x262002, x262003, 0))
def rehearsalref04_Canon.l1 : Nat → List (S87) → Int → List (S61) → Int → List (S44) → Int → Int → Int → List (S44) → Int → Int → Int → Int → Int → Int → Int → Int → ByteArray → List (S61) → Option ((List (S44)) × Int × Int × Int × Int)
 | 0, _, _, _, _, _, _, _, _, _, _, _, _, _, _, _, _, _, _, _ => none
 | k + 1, x4, x6, x8, x9, x256000, x256001, x256002, x256003, x262000, x262001, x262002, x262003, x266000, x266001, x266002, x266003, x266004, x266005, x266006 => if x9 < (x266006.length : Int) then (rehearsalref04_Canon.l2 k x4 x6 x8 x9 0 x256000 x256001 x256002 x256003 x262000 x262001 x262002 x262003 x266000 x266001 x266002 x266003 x266004 x266005 x266006) else (if x262000.length < 1759218604441 then (rehearsalref04_Canon.l0 k x4 (wrap64 (x6 + 1)) x256000 x256001 x256002 x256003 (x262000 ++ [(⟨x266000, x266001, x266002, x266003, x266004, x266005, x8⟩ : S44)]) x262001 x262002 x262003) else (none))
def rehearsalref04_Canon.l2 : Nat → List (S87) → Int → List (S61) → Int → Int → List (S44) → Int → Int → Int → List (S44) → Int → Int → Int → Int → Int → Int → Int → Int → ByteArray → List (S61) → Option ((List (S44)) × Int × Int × Int × Int)
 | 0, _, _, _, _, _, _, _, _, _, _, _, _, _, _, _, _, _, _, _, _ => none
 | k + 1, x4, x6, x8, x9, x10, x256000, x256001, x256002, x256003, x262000, x262001, x262002, x262003, x266000, x266001, x266002, x266003, x266004, x266005, x266006 => if x10 < (x4.length : Int) then (if 0 ≤ x10 then (if 0 ≤ x9 then (if x9 < (x266006.length : Int) then (if ((rd_T87 x4 x10).f0) = ((rd_T61 x266006 x9).f1) then (if x8.length < 5864062014805 then (rehearsalref04_Canon.l2 k x4 x6 (x8 ++ [(⟨(rd_T61 x266006 x9).f0, wrap64 (x10 + 1)⟩ : S61)]) x9 (wrap64 (x10 + 1)) x256000 x256001 x256002 x256003 x262000 x262001 x262002 x262003 x266000 x266001 x266002 x266003 x266004 x266005 x266006) else (none)) else (rehearsalref04_Canon.l2 k x4 x6 x8 x9 (wrap64 (x10 + 1)) x256000 x256001 x256002 x256003 x262000 x262001 x262002 x262003 x266000 x266001 x266002 x266003 x266004 x266005 x266006)) else (none)) else (none)) else (none)) else (rehearsalref04_Canon.l1 k x4 x6 x8 (wrap64 (x9 + 1)) x256000 x256001 x256002 x256003 x262000 x262001 x262002 x262003 x266000 x266001 x266002 x266003 x266004 x266005 x266006)
end
def rehearsalref04_Canon.f (k : Nat) (l0_0 : List (S44)) (a0_1 : Int) (a0_2 : Int) (a0_3 : Int) : Option ((List (S44)) × Int × Int × Int × Int) := (rehearsalref04_Check.f k l0_0 a0_1 a0_2 a0_3).bind fun t257 => (if t257 = 0 then ((rehearsalref04_Way.f k l0_0 a0_1 a0_2 a0_3 1 (⟨#[47]⟩ : ByteArray) ([] : List (S87))).bind fun t258 => (rehearsalref04_Canon.l0 k t258 0 l0_0 a0_1 a0_2 a0_3 ([] : List (S44)) (t258.length : Int) a0_2 a0_3)) else (some (([] : List (S44)), 0, 0, 0, 80)))
def rehearsalref04_Canon.T8 : Bool × List (List Nat × List Nat) := (true, [([], []), ([0], [0]), ([], []), ([], []), ([], []), ([3, 4], [3, 4]), ([5], [5]), ([6], [6]), ([2, 7], [2, 7]), ([1, 8], [1, 8]), ([9], [9]), ([], []), ([11, 10, 8, 0, 1, 2, 3, 4, 5, 6, 7, 8, 9, 10, 11], [10, 11])])
def rehearsalref04_Canon.B8 : List Nat := [0, 1, 0, 0, 0, 24, 56, 120, 252, 511, 1023, 0, 4095]
theorem rehearsalref04_Canon.tab8 : rtab .any (opsOf Tryd.f25 8) = rehearsalref04_Canon.T8 := by kernel_rfl
theorem rehearsalref04_Canon.bits8 : waitsOk rehearsalref04_Canon.T8.2 rehearsalref04_Canon.B8 = true := by kernel_rfl
def rehearsalref04_Canon.T17 : Bool × List (List Nat × List Nat) := (true, [([], []), ([], []), ([0, 1], [0, 1]), ([2], [2]), ([3], [3]), ([], []), ([5], [5]), ([], []), ([6, 7], [6, 7]), ([8], [8]), ([9], [9]), ([4, 10], [4, 10])])
def rehearsalref04_Canon.B17 : List Nat := [0, 0, 3, 7, 15, 0, 32, 0, 224, 480, 992, 2047]
theorem rehearsalref04_Canon.tab17 : rtab .any (opsOf Tryd.f25 17) = rehearsalref04_Canon.T17 := by kernel_rfl
theorem rehearsalref04_Canon.bits17 : waitsOk rehearsalref04_Canon.T17.2 rehearsalref04_Canon.B17 = true := by kernel_rfl
set_option maxHeartbeats 8000000 in
set_option maxRecDepth 100000 in
theorem rehearsalref04_Canon.calls (k : Nat) (A0_0 : Option Addr) (c0_0 : Nat) (l0_0 : List (S44)) (a0_1 : Int) (a0_2 : Int) (a0_3 : Int) (r1 : List (S44)) (r2 : Int) (r3 : Int) (r4 : Int) (r5 : Int) (w : World) (hr0_0 : Kd.C k44 w A0_0 l0_0.length l0_0) (hc0_0 : l0_0.length ≤ c0_0) (h : rehearsalref04_Canon.f k l0_0 a0_1 a0_2 a0_3 = some (r1, r2, r3, r4, r5)) :
  Calls Tryd.prog 25 #[.agg #[.slice A0_0 l0_0.length c0_0, .int .i64 a0_1, .int .i64 a0_2, .int .i64 a0_3]] w fun e w' => ∃ v0_ : Value, e = .returned (.tuple #[.agg #[v0_, .int .i64 r2, .int .i64 r3, .int .i64 r4], .int .i64 r5]) ∧ Kd.S k44 44 w' w.heap.size (fun _ => True) v0_ r1 ∧ Below w.heap.size w w' := by
 have hu26 := Tryd.underlying26
 have hu24 := Tryd.underlying24
 have hu44 := Tryd.underlying44
 have hu61 := Tryd.underlying61
 have HR0_0 := Aside0.mk hr0_0
 have HC0_0 := Aside0.mk hc0_0
 clear hr0_0 hc0_0
 have HB := Aside0.mk (Below.refl w.heap.size w)
 have H : ((rehearsalref04_Check.f k l0_0 a0_1 a0_2 a0_3).bind fun t257 => (if t257 = 0 then ((rehearsalref04_Way.f k l0_0 a0_1 a0_2 a0_3 1 (⟨#[47]⟩ : ByteArray) ([] : List (S87))).bind fun t258 => (rehearsalref04_Canon.l0 k t258 0 l0_0 a0_1 a0_2 a0_3 ([] : List (S44)) (t258.length : Int) a0_2 a0_3)) else (some (([] : List (S44)), 0, 0, 0, 80)))) = some (r1, r2, r3, r4, r5) := h
 clear h
 replace H := Option.bind_eq_some_iff.mp H
 obtain ⟨t257, A20, H⟩ := H
 replace H : (if t257 = 0 then ((rehearsalref04_Way.f k l0_0 a0_1 a0_2 a0_3 1 (⟨#[47]⟩ : ByteArray) ([] : List (S87))).bind fun t258 => (rehearsalref04_Canon.l0 k t258 0 l0_0 a0_1 a0_2 a0_3 ([] : List (S44)) (t258.length : Int) a0_2 a0_3)) else (some (([] : List (S44)), 0, 0, 0, 80))) = some (r1, r2, r3, r4, r5) := H
 have A2 := Aside0.mk A20
 clear A20
 by_cases c3 : t257 = 0
 ·
  rw [if_pos c3] at H
  have c3b0 : (t257 == 0) = true := beq_iff_eq.mpr c3
  have c3b1 : (t257 != 0) = false := bne_eq_false_iff_eq.mpr c3
  clear c3
  replace H := Option.bind_eq_some_iff.mp H
  obtain ⟨t258, A40, H⟩ := H
  replace H : (rehearsalref04_Canon.l0 k t258 0 l0_0 a0_1 a0_2 a0_3 ([] : List (S44)) (t258.length : Int) a0_2 a0_3) = some (r1, r2, r3, r4, r5) := H
  have A4 := Aside0.mk A40
  clear A40
  have H' := Aside0.mk H
  clear H
  go_enter Tryd.func25, Tryd.ntmps25
  go_wp2_with (first | ((with_reducible refine gate_dst (N := 1) rfl ?_); refine box_event ?hg (N := 1) ?hd (cs := #[.slice A0_0 l0_0.length c0_0, .int .i64 a0_1, .int .i64 a0_2, .int .i64 a0_3]) (t := 26) ?hr ?_; (case hd => rfl); (case hg => rfl); (case hr => first | (go_simp; done) | (go_simp; rfl)); intro gb255 hg w5 hbox hb; have n0_ := Aside0.mk (below_step (by repeat (first | (with_reducible first | exact HB.out | apply below_alloc | apply pw_below_drewN | apply below_drew1) | exact HB.out)) hb); have n1_ := Aside0.mk (hbox); have n2_ := Aside0.mk ((by rw [hg]; exact (below_size (by repeat (first | (with_reducible first | exact HB.out | apply below_alloc | apply pw_below_drewN | apply below_drew1) | exact HB.out))) : w.heap.size ≤ gb255)); have n3_ := Aside0.mk ((by rw [hg]; exact (below_size (by repeat (first | (with_reducible first | exact HB.out | apply below_alloc | apply pw_below_drewN | apply below_drew1) | exact HB.out))) : w.heap.size ≤ gb255)); clear HB; have HB := n0_; have BK255 := n1_; have GW255 := n2_; have GE255 := n3_; clear n0_ n1_ n2_ n3_; clear hb hbox hg) | ((with_reducible refine gate_dst (N := 2) rfl ?_); refine box_event ?hg (N := 2) ?hd (cs := #[.slice none 0 0, .int .i64 0, .int .i64 0, .int .i64 0]) (t := 26) ?hr ?_; (case hd => rfl); (case hg => rfl); (case hr => first | (go_simp; done) | (go_simp; rfl)); intro gb256 hg w6 hbox hb; have n0_ := Aside0.mk (blk_below (g := gb255) (o := .cells #[.slice A0_0 l0_0.length c0_0, .int .i64 a0_1, .int .i64 a0_2, .int .i64 a0_3] 26 (0, 0)) (by (with_reducible repeat (first | refine blk_drewN ?_ _ | refine blk_drew ?_ | refine blk_alloc ?_ _)); exact BK255.out) hb); have n1_ := Aside0.mk (below_step (by repeat (first | (with_reducible first | exact HB.out | apply below_alloc | apply pw_below_drewN | apply below_drew1 | refine below_set ?_ GE255.out) | exact HB.out)) hb); have n2_ := Aside0.mk (hbox); have n3_ := Aside0.mk ((by rw [hg]; exact (below_size (by repeat (first | (with_reducible first | exact HB.out | apply below_alloc | apply pw_below_drewN | apply below_drew1 | refine below_set ?_ GE255.out) | exact HB.out))) : w.heap.size ≤ gb256)); have n4_ := Aside0.mk ((by rw [hg]; exact (below_size (by repeat (first | (with_reducible first | exact HB.out | apply below_alloc | apply pw_below_drewN | apply below_drew1 | refine below_set ?_ GE255.out) | exact HB.out))) : w.heap.size ≤ gb256)); have n5_ := Aside0.mk ((by rw [hg]; exact Nat.ne_of_lt (blk_lt (g := gb255) (o := .cells #[.slice A0_0 l0_0.length c0_0, .int .i64 a0_1, .int .i64 a0_2, .int .i64 a0_3] 26 (0, 0)) (by (with_reducible repeat (first | refine blk_drewN ?_ _ | refine blk_drew ?_ | refine blk_alloc ?_ _)); exact BK255.out)) : gb255 ≠ gb256)); have n6_ := Aside0.mk ((by rw [hg]; exact Nat.ne_of_gt (blk_lt (g := gb255) (o := .cells #[.slice A0_0 l0_0.length c0_0, .int .i64 a0_1, .int .i64 a0_2, .int .i64 a0_3] 26 (0, 0)) (by (with_reducible repeat (first | refine blk_drewN ?_ _ | refine blk_drew ?_ | refine blk_alloc ?_ _)); exact BK255.out)) : gb256 ≠ gb255)); clear BK255; clear HB; have BK255 := n0_; have HB := n1_; have BK256 := n2_; have GW256 := n3_; have GE256 := n4_; have NB255_256 := n5_; have NB256_255 := n6_; clear n0_ n1_ n2_ n3_ n4_ n5_ n6_; clear hb hbox hg; have hnb7 := NB255_256.out; have hnc7 := NB256_255.out; have hcz8_0 : w6.cell? ⟨gb255, 0, none⟩ = some (.slice A0_0 l0_0.length c0_0) := (blk_cell BK255.out 0).trans rfl; have hcz8_1 : w6.cell? ⟨gb255, 1, none⟩ = some (.int .i64 a0_1) := (blk_cell BK255.out 1).trans rfl; have hcz8_2 : w6.cell? ⟨gb255, 2, none⟩ = some (.int .i64 a0_2) := (blk_cell BK255.out 2).trans rfl; have hcz8_3 : w6.cell? ⟨gb255, 3, none⟩ = some (.int .i64 a0_3) := (blk_cell BK255.out 3).trans rfl; have hfz8_0 := blk_frozen BK255.out 0; have hfz8_1 := blk_frozen BK255.out 1; have hfz8_2 := blk_frozen BK255.out 2; have hfz8_3 := blk_frozen BK255.out 3) | ((with_reducible refine gate_callee (f := 18) rfl ?_); refine goesL_ (some 12) rfl rfl Tryd.func18 (by kernel_rfl) rfl #[.agg #[.slice A0_0 l0_0.length c0_0, .int .i64 a0_1, .int .i64 a0_2, .int .i64 a0_3]] rfl (by (try simp only [List.map_toArray, List.map_cons, List.map_nil]); first | done | rfl | (simp only [List.length_drop, List.length_take]; rfl)) ?_; (with_reducible refine (rehearsalref04_Check.calls k _ _ l0_0 a0_1 a0_2 a0_3 t257 _ ?side1 ?side2 A2.out).mono ?_); (case side1 => repeat (first | exact (Kd.C_below HR0_0.out HB.out) | (with_reducible refine Kd.C_alloc ?_ _) | (with_reducible refine Kd.C_drewN ?_ _) | (with_reducible refine Kd.C_drew ?_))); (case side2 => exact HC0_0.out); rintro e w9 ⟨rfl, hb⟩; refine ⟨_, rfl, ?_⟩; have n0_ := Aside0.mk (blk_below (g := gb255) (o := .cells #[.slice A0_0 l0_0.length c0_0, .int .i64 a0_1, .int .i64 a0_2, .int .i64 a0_3] 26 (0, 0)) (by (with_reducible repeat (first | refine blk_drewN ?_ _ | refine blk_drew ?_ | refine blk_alloc ?_ _)); exact BK255.out) hb); have n1_ := Aside0.mk (blk_below (g := gb256) (o := .cells #[.slice none 0 0, .int .i64 0, .int .i64 0, .int .i64 0] 26 (0, 0)) (by (with_reducible repeat (first | refine blk_drewN ?_ _ | refine blk_drew ?_ | refine blk_alloc ?_ _)); exact BK256.out) hb); have n2_ := Aside0.mk (below_step (by repeat (first | (with_reducible first | exact HB.out | apply below_alloc | apply pw_below_drewN | apply below_drew1 | refine below_set ?_ GE255.out | refine below_set ?_ GE256.out) | exact HB.out)) hb); clear BK255; clear BK256; clear HB; have BK255 := n0_; have BK256 := n1_; have HB := n2_; clear n0_ n1_ n2_; (try clear hb); (try clear hb2); (try clear hk); (try clear hi); have hcz10_0 : w9.cell? ⟨gb255, 0, none⟩ = some (.slice A0_0 l0_0.length c0_0) := (blk_cell BK255.out 0).trans rfl; have hcz10_1 : w9.cell? ⟨gb255, 1, none⟩ = some (.int .i64 a0_1) := (blk_cell BK255.out 1).trans rfl; have hcz10_2 : w9.cell? ⟨gb255, 2, none⟩ = some (.int .i64 a0_2) := (blk_cell BK255.out 2).trans rfl; have hcz10_3 : w9.cell? ⟨gb255, 3, none⟩ = some (.int .i64 a0_3) := (blk_cell BK255.out 3).trans rfl; have hfz10_0 := blk_frozen BK255.out 0; have hfz10_1 := blk_frozen BK255.out 1; have hfz10_2 := blk_frozen BK255.out 2; have hfz10_3 := blk_frozen BK255.out 3) | ((with_reducible refine gate_callee (f := 62) rfl ?_); refine goesL_ (some 16) rfl rfl Tryd.func62 (by kernel_rfl) rfl #[.agg #[.slice A0_0 l0_0.length c0_0, .int .i64 a0_1, .int .i64 a0_2, .int .i64 a0_3], .int .i64 1, .string (⟨#[47]⟩ : ByteArray), .slice none 0 0] rfl (by (try simp only [List.map_toArray, List.map_cons, List.map_nil]); first | done | rfl | (simp only [List.length_drop, List.length_take]; rfl)) ?_; (refine (rehearsalref04_Way.calls k _ _ l0_0 a0_1 a0_2 a0_3 1 (⟨#[47]⟩ : ByteArray) (fun k_ => some k_ = (.slice none 0 0 : Value).ownBlock) (.slice none 0 0) ([] : List (S87)) t258 w _ ?side1 ?side2 ?side3 ?side4 A4.out).mono ?_); (case side1 => repeat (first | (with_reducible first | exact HB.out | apply below_alloc | apply pw_below_drewN | apply below_drew1 | refine below_set ?_ GE255.out | refine below_set ?_ GE256.out) | exact HB.out)); (case side2 => exact Kd.C_kept_came k44_heap HR0_0.out (by repeat (first | (with_reducible first | exact HB.out | apply below_alloc | apply pw_below_drewN | apply below_drew1 | refine below_set ?_ GE255.out | refine below_set ?_ GE256.out) | exact HB.out)) (fun k_ hs_ => (fun e_ => by simp [Value.ownBlock] at e_) hs_)); (case side3 => exact HC0_0.out); (case side4 => exact Kd.R_nil _ _ _ _ _); rintro e w11 ⟨v259, rfl, ho0, hb, hkp⟩; refine ⟨_, rfl, ?_⟩; have n0_ := Aside0.mk (blk_kept (by (with_reducible repeat (first | refine blk_drewN ?_ _ | refine blk_drew ?_ | refine blk_alloc ?_ _)); exact BK255.out) hkp (fun hs_ => (fun e_ => by simp [Value.ownBlock] at e_) hs_)); have n1_ := Aside0.mk (blk_kept (by (with_reducible repeat (first | refine blk_drewN ?_ _ | refine blk_drew ?_ | refine blk_alloc ?_ _)); exact BK256.out) hkp (fun hs_ => (fun e_ => by simp [Value.ownBlock] at e_) hs_)); have n2_ := Aside0.mk (Kd.R_mono (ok' := fun k_ => True) ho0 (fun k_ hk_ => trivial)); have n3_ := Aside0.mk (hb); clear BK255; clear BK256; clear HB; have BK255 := n0_; have BK256 := n1_; have HO260 := n2_; have HB := n3_; clear n0_ n1_ n2_ n3_; (try clear hb); (try clear hkp); (try clear ho0); obtain ⟨Ao12, co12, eo12⟩ := Kd.R_slice HO260.out; subst eo12; have hcz13_0 : w11.cell? ⟨gb255, 0, none⟩ = some (.slice A0_0 l0_0.length c0_0) := (blk_cell BK255.out 0).trans rfl; have hcz13_1 : w11.cell? ⟨gb255, 1, none⟩ = some (.int .i64 a0_1) := (blk_cell BK255.out 1).trans rfl; have hcz13_2 : w11.cell? ⟨gb255, 2, none⟩ = some (.int .i64 a0_2) := (blk_cell BK255.out 2).trans rfl; have hcz13_3 : w11.cell? ⟨gb255, 3, none⟩ = some (.int .i64 a0_3) := (blk_cell BK255.out 3).trans rfl; have hfz13_0 := blk_frozen BK255.out 0; have hfz13_1 := blk_frozen BK255.out 1; have hfz13_2 := blk_frozen BK255.out 2; have hfz13_3 := blk_frozen BK255.out 3) | ((with_reducible refine gate_dst (N := 5) rfl ?_); refine box_event ?hg (N := 5) ?hd (cs := #[.slice none 0 0, .int .i64 0, .int .i64 0, .int .i64 0]) (t := 26) ?hr ?_; (case hd => rfl); (case hg => rfl); (case hr => first | (go_simp; done) | (go_simp; rfl)); intro gb261 hg w14 hbox hb; have n0_ := Aside0.mk (Kd.R_below (by (with_reducible repeat (first | apply Kd.R_alloc | apply Kd.R_drewN | apply Kd.R_drew)); exact HO260.out) hb); have n1_ := Aside0.mk (blk_below (g := gb255) (o := .cells #[.slice A0_0 l0_0.length c0_0, .int .i64 a0_1, .int .i64 a0_2, .int .i64 a0_3] 26 (0, 0)) (by (with_reducible repeat (first | refine blk_drewN ?_ _ | refine blk_drew ?_ | refine blk_alloc ?_ _)); exact BK255.out) hb); have n2_ := Aside0.mk (blk_below (g := gb256) (o := .cells #[.slice none 0 0, .int .i64 0, .int .i64 0, .int .i64 0] 26 (0, 0)) (by (with_reducible repeat (first | refine blk_drewN ?_ _ | refine blk_drew ?_ | refine blk_alloc ?_ _)); exact BK256.out) hb); have n3_ := Aside0.mk (below_step (by repeat (first | (with_reducible first | exact HB.out | apply below_alloc | apply pw_below_drewN | apply below_drew1 | refine below_set ?_ GE255.out | refine below_set ?_ GE256.out) | exact HB.out)) hb); have n4_ := Aside0.mk (hbox); have n5_ := Aside0.mk ((by rw [hg]; exact (below_size (by repeat (first | (with_reducible first | exact HB.out | apply below_alloc | apply pw_below_drewN | apply below_drew1 | refine below_set ?_ GE255.out | refine below_set ?_ GE256.out) | exact HB.out))) : w.heap.size ≤ gb261)); have n6_ := Aside0.mk ((by rw [hg]; exact (below_size (by repeat (first | (with_reducible first | exact HB.out | apply below_alloc | apply pw_below_drewN | apply below_drew1 | refine below_set ?_ GE255.out | refine below_set ?_ GE256.out) | exact HB.out))) : w.heap.size ≤ gb261)); have n7_ := Aside0.mk ((by rw [hg]; exact Nat.ne_of_lt (blk_lt (g := gb255) (o := .cells #[.slice A0_0 l0_0.length c0_0, .int .i64 a0_1, .int .i64 a0_2, .int .i64 a0_3] 26 (0, 0)) (by (with_reducible repeat (first | refine blk_drewN ?_ _ | refine blk_drew ?_ | refine blk_alloc ?_ _)); exact BK255.out)) : gb255 ≠ gb261)); have n8_ := Aside0.mk ((by rw [hg]; exact Nat.ne_of_gt (blk_lt (g := gb255) (o := .cells #[.slice A0_0 l0_0.length c0_0, .int .i64 a0_1, .int .i64 a0_2, .int .i64 a0_3] 26 (0, 0)) (by (with_reducible repeat (first | refine blk_drewN ?_ _ | refine blk_drew ?_ | refine blk_alloc ?_ _)); exact BK255.out)) : gb261 ≠ gb255)); have n9_ := Aside0.mk ((by rw [hg]; exact Nat.ne_of_lt (blk_lt (g := gb256) (o := .cells #[.slice none 0 0, .int .i64 0, .int .i64 0, .int .i64 0] 26 (0, 0)) (by (with_reducible repeat (first | refine blk_drewN ?_ _ | refine blk_drew ?_ | refine blk_alloc ?_ _)); exact BK256.out)) : gb256 ≠ gb261)); have n10_ := Aside0.mk ((by rw [hg]; exact Nat.ne_of_gt (blk_lt (g := gb256) (o := .cells #[.slice none 0 0, .int .i64 0, .int .i64 0, .int .i64 0] 26 (0, 0)) (by (with_reducible repeat (first | refine blk_drewN ?_ _ | refine blk_drew ?_ | refine blk_alloc ?_ _)); exact BK256.out)) : gb261 ≠ gb256)); clear HO260; clear BK255; clear BK256; clear HB; have HO260 := n0_; have BK255 := n1_; have BK256 := n2_; have HB := n3_; have BK261 := n4_; have GW261 := n5_; have GE261 := n6_; have NB255_261 := n7_; have NB261_255 := n8_; have NB256_261 := n9_; have NB261_256 := n10_; clear n0_ n1_ n2_ n3_ n4_ n5_ n6_ n7_ n8_ n9_ n10_; clear hb hbox hg; have hnb15 := NB261_255.out; have hnc15 := NB255_261.out; have hnb16 := NB261_256.out; have hnc16 := NB256_261.out; have hcz17_0 : w14.cell? ⟨gb261, 0, none⟩ = some (.slice none 0 0) := (blk_cell BK261.out 0).trans rfl; have hcz17_1 : w14.cell? ⟨gb261, 1, none⟩ = some (.int .i64 0) := (blk_cell BK261.out 1).trans rfl; have hcz17_2 : w14.cell? ⟨gb261, 2, none⟩ = some (.int .i64 0) := (blk_cell BK261.out 2).trans rfl; have hcz17_3 : w14.cell? ⟨gb261, 3, none⟩ = some (.int .i64 0) := (blk_cell BK261.out 3).trans rfl; have hfz17_0 := blk_frozen BK261.out 0; have hfz17_1 := blk_frozen BK261.out 1; have hfz17_2 := blk_frozen BK261.out 2; have hfz17_3 := blk_frozen BK261.out 3))
  go_loopg [6] k (fun kq v6 w' => ∃ (x6_1 : Int) (x262000_1 : List (S44)) (u262000 : Value), v6 = .int .i64 x6_1 ∧ Aside0 (rehearsalref04_Canon.l0 kq t258 x6_1 l0_0 a0_1 a0_2 a0_3 x262000_1 (t258.length : Int) a0_2 a0_3 = some (r1, r2, r3, r4, r5)) ∧ Aside0 (kq ≤ k) ∧ Aside0 (Kd.R k87 87 w' w.heap.size (fun _ => True) (.slice Ao12 t258.length co12) t258) ∧ Aside0 (Kd.S k44 44 w' w.heap.size (fun _ => True) u262000 x262000_1) ∧ Aside0 (w'.heap[gb255]? = some (.cells #[(.slice A0_0 l0_0.length c0_0), .int .i64 a0_1, .int .i64 a0_2, .int .i64 a0_3] 26 (0, 0))) ∧ Aside0 (w'.heap[gb256]? = some (.cells #[(.slice none 0 0), .int .i64 0, .int .i64 0, .int .i64 0] 26 (0, 0))) ∧ Aside0 (w'.heap[gb261]? = some (.cells #[u262000, .int .i64 (t258.length : Int), .int .i64 a0_2, .int .i64 a0_3] 26 (0, 0))) ∧ Aside0 (Below w.heap.size w w'))
  case atStart => exact ⟨(0), (([] : List (S44))), (.slice none 0 0), (by first | rfl | (simp; done) | (simp [*]; done)), H', ⟨Nat.le_refl _⟩, ⟨by (with_reducible repeat (first | apply Kd.R_alloc | apply Kd.R_drewN | apply Kd.R_drew)); exact Kd.R_mono (Kd.R_far (p := ⟨gb261, 3, none⟩) (Kd.R_far (p := ⟨gb261, 2, none⟩) (Kd.R_far (p := ⟨gb261, 1, none⟩) (Kd.R_far (p := ⟨gb261, 0, none⟩) (Kd.R_types HO260.out BK261.out (by decide)) (fun _ hk => hk.2) (.slice none 0 0)) (fun _ hk => hk.2) (.int .i64 (t258.length : Int))) (fun _ hk => hk.2) (.int .i64 a0_2)) (fun _ hk => hk.2) (.int .i64 a0_3)) (fun _ hk => trivial)⟩, ⟨by first | exact Kd.S_nil _ _ _ _ _ | exact Kd.N_nil _ _ _ _ _ | exact Kd.V_nil _ _ _ _ _ | exact Kd.Q_nil _ _ _ _ _ | exact Kd.R_nil _ _ _ _ _⟩, ⟨by (with_reducible repeat (first | refine blk_drewN ?_ _ | refine blk_drew ?_ | refine blk_alloc ?_ _)); refine blk_far ?_ NB255_261.out _; (with_reducible repeat (first | refine blk_drewN ?_ _ | refine blk_drew ?_ | refine blk_alloc ?_ _)); refine blk_far ?_ NB255_261.out _; (with_reducible repeat (first | refine blk_drewN ?_ _ | refine blk_drew ?_ | refine blk_alloc ?_ _)); refine blk_far ?_ NB255_261.out _; (with_reducible repeat (first | refine blk_drewN ?_ _ | refine blk_drew ?_ | refine blk_alloc ?_ _)); refine blk_far ?_ NB255_261.out _; (with_reducible repeat (first | refine blk_drewN ?_ _ | refine blk_drew ?_ | refine blk_alloc ?_ _)); exact BK255.out⟩, ⟨by (with_reducible repeat (first | refine blk_drewN ?_ _ | refine blk_drew ?_ | refine blk_alloc ?_ _)); refine blk_far ?_ NB256_261.out _; (with_reducible repeat (first | refine blk_drewN ?_ _ | refine blk_drew ?_ | refine blk_alloc ?_ _)); refine blk_far ?_ NB256_261.out _; (with_reducible repeat (first | refine blk_drewN ?_ _ | refine blk_drew ?_ | refine blk_alloc ?_ _)); refine blk_far ?_ NB256_261.out _; (with_reducible repeat (first | refine blk_drewN ?_ _ | refine blk_drew ?_ | refine blk_alloc ?_ _)); refine blk_far ?_ NB256_261.out _; (with_reducible repeat (first | refine blk_drewN ?_ _ | refine blk_drew ?_ | refine blk_alloc ?_ _)); exact BK256.out⟩, ⟨by (with_reducible repeat (first | refine blk_drewN ?_ _ | refine blk_drew ?_ | refine blk_alloc ?_ _)); refine blk_put (cs := #[.slice none 0 0, .int .i64 (t258.length : Int), .int .i64 a0_2, .int .i64 0]) ?_ 3 _ (by first | rfl | (simp only [w64_PTr25]; rfl) | (simp [w64_PTr25]; done)); (with_reducible repeat (first | refine blk_drewN ?_ _ | refine blk_drew ?_ | refine blk_alloc ?_ _)); refine blk_put (cs := #[.slice none 0 0, .int .i64 (t258.length : Int), .int .i64 0, .int .i64 0]) ?_ 2 _ (by first | rfl | (simp only [w64_PTr25]; rfl) | (simp [w64_PTr25]; done)); (with_reducible repeat (first | refine blk_drewN ?_ _ | refine blk_drew ?_ | refine blk_alloc ?_ _)); refine blk_put (cs := #[.slice none 0 0, .int .i64 0, .int .i64 0, .int .i64 0]) ?_ 1 _ (by first | rfl | (simp only [w64_PTr25]; rfl) | (simp [w64_PTr25]; done)); (with_reducible repeat (first | refine blk_drewN ?_ _ | refine blk_drew ?_ | refine blk_alloc ?_ _)); refine blk_put (cs := #[.slice none 0 0, .int .i64 0, .int .i64 0, .int .i64 0]) ?_ 0 _ (by first | rfl | (simp only [w64_PTr25]; rfl) | (simp [w64_PTr25]; done)); (with_reducible repeat (first | refine blk_drewN ?_ _ | refine blk_drew ?_ | refine blk_alloc ?_ _)); exact BK261.out⟩, ⟨by repeat (first | (with_reducible first | exact HB.out | apply below_alloc | apply pw_below_drewN | apply below_drew1 | refine below_set ?_ GE255.out | refine below_set ?_ GE256.out | refine below_set ?_ GE261.out) | exact HB.out)⟩⟩
  case round =>
   clear H'
   try clear c1
   try clear c2
   try clear p2
   try clear c3
   try clear c3b0
   try clear c3b1
   try clear c6
   try clear c7
   try clear c15
   try clear c16
   try clear hcz10_0
   try clear hcz10_1
   try clear hcz10_2
   try clear hcz10_3
   try clear hcz13_0
   try clear hcz13_1
   try clear hcz13_2
   try clear hcz13_3
   try clear hcz17_0
   try clear hcz17_1
   try clear hcz17_2
   try clear hcz17_3
   try clear hcz8_0
   try clear hcz8_1
   try clear hcz8_2
   try clear hcz8_3
   try clear hfz10_0
   try clear hfz10_1
   try clear hfz10_2
   try clear hfz10_3
   try clear hfz13_0
   try clear hfz13_1
   try clear hfz13_2
   try clear hfz13_3
   try clear hfz17_0
   try clear hfz17_1
   try clear hfz17_2
   try clear hfz17_3
   try clear hfz8_0
   try clear hfz8_1
   try clear hfz8_2
   try clear hfz8_3
   obtain ⟨x6_1, x262000_1, u262000, rfl, HA, HK1, HO_4, HO_262000, BK255, BK256, BK261, HB⟩ := hrel
   cases gk with
   | zero => exact absurd HA.out (by simp [rehearsalref04_Canon.l0])
   | succ k1 =>
    have H := HA.out
    clear HA
    simp only [rehearsalref04_Canon.l0] at H
    by_cases c18 : x6_1 < (t258.length : Int)
    ·
     rw [if_pos c18] at H
     have c18b0 : decide (x6_1 < (t258.length : Int)) = true := decide_eq_true c18
     clear c18
     by_cases c19 : 0 ≤ x6_1
     ·
      rw [if_pos c19] at H
      have c19b0 : decide (0 ≤ x6_1) = true := decide_eq_true c19
      clear c19
      replace H := Option.bind_eq_some_iff.mp H
      obtain ⟨t263, A200, H⟩ := H
      replace H : (if 0 ≤ t263 then (if t263 < (l0_0.length : Int) then (rehearsalref04_Canon.l1 k1 t258 x6_1 ([] : List (S61)) 0 l0_0 a0_1 a0_2 a0_3 x262000_1 (t258.length : Int) a0_2 a0_3 (wrap64 (x6_1 + 1)) ((rd_T44 l0_0 t263).f1) ((rd_T44 l0_0 t263).f2) ((rd_T44 l0_0 t263).f3) ((rd_T44 l0_0 t263).f4) ((rd_T44 l0_0 t263).f5) ((rd_T44 l0_0 t263).f6)) else (none)) else (none)) = some (r1, r2, r3, r4, r5) := H
      have A20 := Aside0.mk A200
      clear A200
      by_cases c21 : 0 ≤ t263
      ·
       rw [if_pos c21] at H
       have c21b0 : decide (0 ≤ t263) = true := decide_eq_true c21
       clear c21
       by_cases c22 : t263 < (l0_0.length : Int)
       ·
        rw [if_pos c22] at H
        have c22b0 : decide (t263 < (l0_0.length : Int)) = true := decide_eq_true c22
        clear c22
        have H' := Aside0.mk H
        clear H
        try go_wp2
        have n0_ := Aside0.mk (Kd.R_drew HO_4.out)
        have n1_ := Aside0.mk (Kd.S_drew HO_262000.out)
        have n2_ := Aside0.mk (blk_drew BK255.out)
        have n3_ := Aside0.mk (blk_drew BK256.out)
        have n4_ := Aside0.mk (blk_drew BK261.out)
        have n5_ := Aside0.mk (below_drew1 HB.out)
        clear HO_4
        clear HO_262000
        clear BK255
        clear BK256
        clear BK261
        clear HB
        have HO_4 := n0_
        have HO_262000 := n1_
        have BK255 := n2_
        have BK256 := n3_
        have BK261 := n4_
        have HB := n5_
        clear n0_ n1_ n2_ n3_ n4_ n5_
        have p262 : 0 ≤ (x6_1 : Int) := of_decide_eq_true (by first | (with_reducible assumption) | assumption)
        have q262 : x6_1 < (t258.length : Int) := of_decide_eq_true (by first | (with_reducible assumption) | assumption)
        obtain ⟨ad262, e262, hx262_0, hx262_1⟩ := at_T87 (Kd.R_reads' HO_4.out).2.2 x6_1 p262 q262
        cases e262
        replace p262 := eq_true p262
        replace q262 := eq_true q262
        have p264 : 0 ≤ (t263 : Int) := of_decide_eq_true (by first | (with_reducible assumption) | assumption)
        have q264 : t263 < (l0_0.length : Int) := of_decide_eq_true (by first | (with_reducible assumption) | assumption)
        obtain ⟨ad264, A264_6, c264_6, e264, hx264_0, hx264_1, hx264_2, hx264_3, hx264_4, hx264_5, hx264_6, hl264_6, hi264_6⟩ := at_T44 HR0_0.out t263 p264 q264
        have hw264_6 := hx264_6
        have hw264_5 := hx264_5
        have hw264_4 := hx264_4
        have hw264_3 := hx264_3
        have hw264_2 := hx264_2
        have hw264_1 := hx264_1
        have hw264_0 := hx264_0
        cases e264
        replace hx264_0 := (HB.out.cell (World.block_lt_of_cell? w _ hx264_0)).trans hx264_0
        replace hx264_1 := (HB.out.cell (World.block_lt_of_cell? w _ hx264_1)).trans hx264_1
        replace hx264_2 := (HB.out.cell (World.block_lt_of_cell? w _ hx264_2)).trans hx264_2
        replace hx264_3 := (HB.out.cell (World.block_lt_of_cell? w _ hx264_3)).trans hx264_3
        replace hx264_4 := (HB.out.cell (World.block_lt_of_cell? w _ hx264_4)).trans hx264_4
        replace hx264_5 := (HB.out.cell (World.block_lt_of_cell? w _ hx264_5)).trans hx264_5
        replace hx264_6 := (HB.out.cell (World.block_lt_of_cell? w _ hx264_6)).trans hx264_6
        have HR264_6 := Aside0.mk hi264_6
        have HC264_6 := Aside0.mk hl264_6
        clear hi264_6 hl264_6
        replace p264 := eq_true p264
        replace q264 := eq_true q264
        refine start_ (n := 13) (S := fun w' => w'.cell? ⟨gb255, 0, none⟩ = some (.slice (some ad264) l0_0.length c0_0) ∧ w'.cell? ⟨gb255, 1, none⟩ = some (.int .i64 a0_1) ∧ w'.cell? ⟨gb255, 2, none⟩ = some (.int .i64 a0_2) ∧ w'.cell? ⟨gb255, 3, none⟩ = some (.int .i64 a0_3) ∧ w'.cell? (ad262.add ((x6_1).toNat * 2)) = some (.int .i64 ((rd_T87 t258 x6_1).f0)) ∧ w'.cell? ⟨(ad262.add ((x6_1).toNat * 2)).block, (ad262.add ((x6_1).toNat * 2)).off + 1, none⟩ = some (.string ((rd_T87 t258 x6_1).f1)) ∧ w'.cell? (ad264.add ((t263).toNat * 7)) = some (.int .i64 ((rd_T44 l0_0 t263).f0)) ∧ w'.cell? ⟨(ad264.add ((t263).toNat * 7)).block, (ad264.add ((t263).toNat * 7)).off + 1, none⟩ = some (.int .i64 ((rd_T44 l0_0 t263).f1)) ∧ w'.cell? ⟨(ad264.add ((t263).toNat * 7)).block, (ad264.add ((t263).toNat * 7)).off + 2, none⟩ = some (.int .i64 ((rd_T44 l0_0 t263).f2)) ∧ w'.cell? ⟨(ad264.add ((t263).toNat * 7)).block, (ad264.add ((t263).toNat * 7)).off + 3, none⟩ = some (.int .i64 ((rd_T44 l0_0 t263).f3)) ∧ w'.cell? ⟨(ad264.add ((t263).toNat * 7)).block, (ad264.add ((t263).toNat * 7)).off + 4, none⟩ = some (.int .i64 ((rd_T44 l0_0 t263).f4)) ∧ w'.cell? ⟨(ad264.add ((t263).toNat * 7)).block, (ad264.add ((t263).toNat * 7)).off + 5, none⟩ = some (.string ((rd_T44 l0_0 t263).f5)) ∧ w'.cell? ⟨(ad264.add ((t263).toNat * 7)).block, (ad264.add ((t263).toNat * 7)).off + 6, none⟩ = some (.slice A264_6 ((rd_T44 l0_0 t263).f6).length c264_6)) (ds := []) #[false, false, false, false, false, false, false, false, false, false, false, false, false] (by kernel_rfl) rfl rfl ⟨(blk_cell BK255.out 0).trans rfl, (blk_cell BK255.out 1).trans rfl, (blk_cell BK255.out 2).trans rfl, (blk_cell BK255.out 3).trans rfl, hx262_0, hx262_1, ((HB.out.cell (World.block_lt_of_cell? w _ hw264_0)).trans hw264_0), ((HB.out.cell (World.block_lt_of_cell? w _ hw264_1)).trans hw264_1), ((HB.out.cell (World.block_lt_of_cell? w _ hw264_2)).trans hw264_2), ((HB.out.cell (World.block_lt_of_cell? w _ hw264_3)).trans hw264_3), ((HB.out.cell (World.block_lt_of_cell? w _ hw264_4)).trans hw264_4), ((HB.out.cell (World.block_lt_of_cell? w _ hw264_5)).trans hw264_5), ((HB.out.cell (World.block_lt_of_cell? w _ hw264_6)).trans hw264_6)⟩ (fun hHeld => ?_); refine with_tabW rehearsalref04_Canon.tab8 rehearsalref04_Canon.bits8 (fun HT_ HW_ => ?_)
        generalize wr.drew = w23 at HO_4 HO_262000 BK255 BK256 BK261 HB HR264_6 hx262_0 hx262_1 hx264_0 hx264_1 hx264_2 hx264_3 hx264_4 hx264_5 hx264_6 hHeld ⊢
        iterate 5 (((first | refine takeS_ 0 (N := some 28) (v := ?_) (a' := ?_) rfl rfl (by decide +kernel) (fun _ _ _ h => h) (Or.inl ⟨by rfl, ?_⟩) hHeld ?_ ?_ | refine takeS_ 3 (N := some 31) (v := ?_) (a' := ?_) rfl rfl (by decide +kernel) (fun _ _ _ h => h) (Or.inl ⟨by rfl, ?_⟩) hHeld ?_ ?_ | refine takeS_ 4 (N := some 32) (v := ?_) (a' := ?_) rfl rfl (by decide +kernel) (fun _ _ _ h => h) (Or.inl ⟨by rfl, ?_⟩) hHeld ?_ ?_ | refine takeS_ 5 (N := some 33) (v := ?_) (a' := ?_) rfl rfl (by decide +kernel) (fun _ _ _ h => h) (Or.inl ⟨by rfl, ?_⟩) hHeld ?_ ?_ | refine takeS_ 6 (N := some 34) (v := ?_) (a' := ?_) rfl rfl (by decide +kernel) (fun _ _ _ h => h) (Or.inl ⟨by rfl, ?_⟩) hHeld ?_ ?_); rotate_left; (rintro w' ⟨s0, s1, s2, s3, s4, s5, s6, s7, s8, s9, s10, s11, s12⟩; go_simp; first | done | (with_reducible rfl) | rfl); rotate_left; (simp only [Act.put, List.setIfInBounds_toArray, List.set_cons_zero, List.set_cons_succ, i64_w, i32_w]; rfl)))
        iterate 3 (((first | refine takeS_ 1 (N := some 29) (v := ?_) (a' := ?_) rfl rfl (by decide +kernel) (fun _ _ _ h => h) (Or.inl ⟨by rfl, ?_⟩) hHeld ?_ ?_ | refine takeS_ 2 (N := some 30) (v := ?_) (a' := ?_) rfl rfl (by decide +kernel) (fun _ _ _ h => h) (Or.inl ⟨by rfl, ?_⟩) hHeld ?_ ?_ | refine takeS_ 7 (N := some 35) (v := ?_) (a' := ?_) rfl rfl (by decide +kernel) (fun _ _ _ h => h) (Or.inl ⟨by rfl, ?_⟩) hHeld ?_ ?_); rotate_left; (rintro w' ⟨s0, s1, s2, s3, s4, s5, s6, s7, s8, s9, s10, s11, s12⟩; go_simp; first | done | (with_reducible rfl) | rfl); rotate_left; (simp only [Act.put, List.setIfInBounds_toArray, List.set_cons_zero, List.set_cons_succ, i64_w, i32_w]; rfl)))
        refine join_ (σ := Nat) 1 #[true, true, true, true, true, true, true, true, true, true, true, true, false] (fun s_ => [(36, .int .i64 t263), (7, .pointer (some ⟨s_, 0, none⟩)), (37, .pointer (some (ad264.add ((t263).toNat * 7)))), (38, .agg #[.int .i64 ((rd_T44 l0_0 t263).f0), .int .i64 ((rd_T44 l0_0 t263).f1), .int .i64 ((rd_T44 l0_0 t263).f2), .int .i64 ((rd_T44 l0_0 t263).f3), .int .i64 ((rd_T44 l0_0 t263).f4), .string ((rd_T44 l0_0 t263).f5), .slice A264_6 ((rd_T44 l0_0 t263).f6).length c264_6])]) (fun s_ w' => (w'.cell? ⟨gb255, 0, none⟩ = some (.slice (some ad264) l0_0.length c0_0) ∧ w'.cell? ⟨gb255, 1, none⟩ = some (.int .i64 a0_1) ∧ w'.cell? ⟨gb255, 2, none⟩ = some (.int .i64 a0_2) ∧ w'.cell? ⟨gb255, 3, none⟩ = some (.int .i64 a0_3) ∧ w'.cell? (ad262.add ((x6_1).toNat * 2)) = some (.int .i64 ((rd_T87 t258 x6_1).f0)) ∧ w'.cell? ⟨(ad262.add ((x6_1).toNat * 2)).block, (ad262.add ((x6_1).toNat * 2)).off + 1, none⟩ = some (.string ((rd_T87 t258 x6_1).f1)) ∧ w'.cell? (ad264.add ((t263).toNat * 7)) = some (.int .i64 ((rd_T44 l0_0 t263).f0)) ∧ w'.cell? ⟨(ad264.add ((t263).toNat * 7)).block, (ad264.add ((t263).toNat * 7)).off + 1, none⟩ = some (.int .i64 ((rd_T44 l0_0 t263).f1)) ∧ w'.cell? ⟨(ad264.add ((t263).toNat * 7)).block, (ad264.add ((t263).toNat * 7)).off + 2, none⟩ = some (.int .i64 ((rd_T44 l0_0 t263).f2)) ∧ w'.cell? ⟨(ad264.add ((t263).toNat * 7)).block, (ad264.add ((t263).toNat * 7)).off + 3, none⟩ = some (.int .i64 ((rd_T44 l0_0 t263).f3)) ∧ w'.cell? ⟨(ad264.add ((t263).toNat * 7)).block, (ad264.add ((t263).toNat * 7)).off + 4, none⟩ = some (.int .i64 ((rd_T44 l0_0 t263).f4)) ∧ w'.cell? ⟨(ad264.add ((t263).toNat * 7)).block, (ad264.add ((t263).toNat * 7)).off + 5, none⟩ = some (.string ((rd_T44 l0_0 t263).f5)) ∧ w'.cell? ⟨(ad264.add ((t263).toNat * 7)).block, (ad264.add ((t263).toNat * 7)).off + 6, none⟩ = some (.slice A264_6 ((rd_T44 l0_0 t263).f6).length c264_6)) ∧ (Kd.S k44 44 w' w.heap.size (fun k_ => k_ ≠ s_) u262000 x262000_1) ∧ (Kd.R k87 87 w' w.heap.size (fun _ => True) (.slice (some ad262) t258.length co12) t258) ∧ (w'.heap[gb255]? = some (.cells #[.slice (some ad264) l0_0.length c0_0, .int .i64 a0_1, .int .i64 a0_2, .int .i64 a0_3] 26 (0, 0))) ∧ (w'.heap[gb256]? = some (.cells #[.slice none 0 0, .int .i64 0, .int .i64 0, .int .i64 0] 26 (0, 0))) ∧ (w'.heap[gb261]? = some (.cells #[u262000, .int .i64 (t258.length : Int), .int .i64 a0_2, .int .i64 a0_3] 26 (0, 0))) ∧ (w'.heap[s_]? = some (.cells #[.int .i64 0, .int .i64 0, .int .i64 0, .int .i64 0, .int .i64 0, .string (⟨#[]⟩ : ByteArray), .slice none 0 0] 44 (0, 0))) ∧ (w.heap.size ≤ s_) ∧ (w.heap.size ≤ s_) ∧ (gb255 ≠ s_) ∧ (s_ ≠ gb255) ∧ (gb256 ≠ s_) ∧ (s_ ≠ gb256) ∧ (gb261 ≠ s_) ∧ (s_ ≠ gb261) ∧ (Below w.heap.size w w')) ?_ ?_
        rotate_left
        ·
         intro hCont
         refine two_ (i := 8) (j := 11) (Ni := some 36) (Nj := some 7) #[true, true, true, true, true, true, true, true, true, false, false, false, false] #[true, true, true, true, true, true, true, true, false, false, false, true, false] rfl rfl rfl rfl (two_of HT_.out (by kernel_rfl)) (by decide) (by decide) (fun K hK => ?_) (fun K hK => ?_)
         ·
          skip
          refine goes_ Tryd.func61 (by kernel_rfl) rfl #[.agg #[.slice (some ad264) l0_0.length c0_0, .int .i64 a0_1, .int .i64 a0_2, .int .i64 a0_3], .int .i64 ((rd_T87 t258 x6_1).f0)] (by rfl) rfl rfl (by (try simp only [List.map_toArray, List.map_cons, List.map_nil]); first | done | rfl | (simp only [List.length_drop, List.length_take]; rfl)) ?_
          with_reducible refine (rehearsalref04_Place.calls k1 _ _ l0_0 a0_1 a0_2 a0_3 ((rd_T87 t258 x6_1).f0) t263 _ ?side1 ?side2 A20.out).mono ?_
          (case side1 => repeat (first | exact (Kd.C_below HR0_0.out HB.out) | (with_reducible refine Kd.C_alloc ?_ _) | (with_reducible refine Kd.C_drewN ?_ _) | (with_reducible refine Kd.C_drew ?_)))
          (case side2 => exact HC0_0.out)
          rintro e w24 ⟨rfl, hb⟩
          have HS4_ := (hb.cell (World.block_lt_of_cell? _ _ (hHeld.2.2.2.2.1))).trans (hHeld.2.2.2.2.1)
          have HS5_ := (hb.cell (World.block_lt_of_cell? _ _ (hHeld.2.2.2.2.2.1))).trans (hHeld.2.2.2.2.2.1)
          refine ⟨_, rfl, ?_⟩
          have n0_ := Aside0.mk (Kd.R_below (by (with_reducible repeat (first | apply Kd.R_alloc | apply Kd.R_drewN | apply Kd.R_drew)); exact HO_4.out) hb)
          have n1_ := Aside0.mk (Kd.S_below (by (with_reducible repeat (first | apply Kd.S_alloc | apply Kd.S_drewN | apply Kd.S_drew)); exact HO_262000.out) hb)
          have n2_ := Aside0.mk (blk_below (g := gb255) (o := .cells #[.slice (some ad264) l0_0.length c0_0, .int .i64 a0_1, .int .i64 a0_2, .int .i64 a0_3] 26 (0, 0)) (by (with_reducible repeat (first | refine blk_drewN ?_ _ | refine blk_drew ?_ | refine blk_alloc ?_ _)); exact BK255.out) hb)
          have n3_ := Aside0.mk (blk_below (g := gb256) (o := .cells #[.slice none 0 0, .int .i64 0, .int .i64 0, .int .i64 0] 26 (0, 0)) (by (with_reducible repeat (first | refine blk_drewN ?_ _ | refine blk_drew ?_ | refine blk_alloc ?_ _)); exact BK256.out) hb)
          have n4_ := Aside0.mk (blk_below (g := gb261) (o := .cells #[u262000, .int .i64 (t258.length : Int), .int .i64 a0_2, .int .i64 a0_3] 26 (0, 0)) (by (with_reducible repeat (first | refine blk_drewN ?_ _ | refine blk_drew ?_ | refine blk_alloc ?_ _)); exact BK261.out) hb)
          have n5_ := Aside0.mk (below_step (by repeat (first | (with_reducible first | exact HB.out | apply below_alloc | apply pw_below_drewN | apply below_drew1 | refine below_set ?_ GE255.out | refine below_set ?_ GE256.out | refine below_set ?_ GE261.out) | exact HB.out)) hb)
          clear HO_4
          clear HO_262000
          clear BK255
          clear BK256
          clear BK261
          clear HB
          have HO_4 := n0_
          have HO_262000 := n1_
          have BK255 := n2_
          have BK256 := n3_
          have BK261 := n4_
          have HB := n5_
          clear n0_ n1_ n2_ n3_ n4_ n5_
          (try clear hb)
          (try clear hb2)
          (try clear hk)
          (try clear hi)
          refine hK.out _ _ ⟨(blk_cell BK255.out 0).trans rfl, (blk_cell BK255.out 1).trans rfl, (blk_cell BK255.out 2).trans rfl, (blk_cell BK255.out 3).trans rfl, HS4_, HS5_, ((HB.out.cell (World.block_lt_of_cell? w _ hw264_0)).trans hw264_0), ((HB.out.cell (World.block_lt_of_cell? w _ hw264_1)).trans hw264_1), ((HB.out.cell (World.block_lt_of_cell? w _ hw264_2)).trans hw264_2), ((HB.out.cell (World.block_lt_of_cell? w _ hw264_3)).trans hw264_3), ((HB.out.cell (World.block_lt_of_cell? w _ hw264_4)).trans hw264_4), ((HB.out.cell (World.block_lt_of_cell? w _ hw264_5)).trans hw264_5), ((HB.out.cell (World.block_lt_of_cell? w _ hw264_6)).trans hw264_6)⟩ (fun hHeld => ?_)
          clear hK K
          refine norm_ (a' := ?_) ?_ ?_
          rotate_left
          ·
           show Act.put _ (some 36) _ = _
           simp only [Act.put, List.setIfInBounds_toArray, List.set_cons_zero, List.set_cons_succ, i64_w, i32_w]
           rfl
          iterate 2 (((first | refine takeS_ 9 (N := some 37) (v := ?_) (a' := ?_) rfl rfl (by decide +kernel) (fun _ _ _ h => h) (Or.inl ⟨by rfl, ?_⟩) hHeld ?_ ?_ | refine takeS_ 10 (N := some 38) (v := ?_) (a' := ?_) rfl rfl (by decide +kernel) (fun _ _ _ h => h) (Or.inl ⟨by rfl, ?_⟩) hHeld ?_ ?_); rotate_left; (rintro w' ⟨s0, s1, s2, s3, s4, s5, s6, s7, s8, s9, s10, s11, s12⟩; go_simp; first | done | (with_reducible rfl) | rfl); rotate_left; (simp only [Act.put, List.setIfInBounds_toArray, List.set_cons_zero, List.set_cons_succ, i64_w, i32_w]; rfl)))
          refine one_ (i := 11) (N := some 7) #[true, true, true, true, true, true, true, true, true, true, true, true, false] rfl rfl (one_of HT_.out (by kernel_rfl)) (by decide) (fun K hK => ?_)
          refine box_step ?hg (N := 7) ?hd (cs := #[.int .i64 0, .int .i64 0, .int .i64 0, .int .i64 0, .int .i64 0, .string (⟨#[]⟩ : ByteArray), .slice none 0 0]) (t := 44) ?hr ?_; (case hd => rfl); (case hg => rfl); (case hr => first | (go_simp; done) | (go_simp; rfl))
          intro gb265 hg w25 hbox hb
          have HS4_ := (hb.cell (World.block_lt_of_cell? _ _ (hHeld.2.2.2.2.1))).trans (hHeld.2.2.2.2.1)
          have HS5_ := (hb.cell (World.block_lt_of_cell? _ _ (hHeld.2.2.2.2.2.1))).trans (hHeld.2.2.2.2.2.1)
          have n0_ := Aside0.mk (Kd.R_below (by (with_reducible repeat (first | apply Kd.R_alloc | apply Kd.R_drewN | apply Kd.R_drew)); exact HO_4.out) hb)
          have n1_ := Aside0.mk (Kd.S_below (Kd.S_elderB (by (with_reducible repeat (first | apply Kd.S_alloc | apply Kd.S_drewN | apply Kd.S_drew)); exact HO_262000.out) gb265 (Nat.le_of_eq hg.symm)) hb)
          have n2_ := Aside0.mk (blk_below (g := gb255) (o := .cells #[.slice (some ad264) l0_0.length c0_0, .int .i64 a0_1, .int .i64 a0_2, .int .i64 a0_3] 26 (0, 0)) (by (with_reducible repeat (first | refine blk_drewN ?_ _ | refine blk_drew ?_ | refine blk_alloc ?_ _)); exact BK255.out) hb)
          have n3_ := Aside0.mk (blk_below (g := gb256) (o := .cells #[.slice none 0 0, .int .i64 0, .int .i64 0, .int .i64 0] 26 (0, 0)) (by (with_reducible repeat (first | refine blk_drewN ?_ _ | refine blk_drew ?_ | refine blk_alloc ?_ _)); exact BK256.out) hb)
          have n4_ := Aside0.mk (blk_below (g := gb261) (o := .cells #[u262000, .int .i64 (t258.length : Int), .int .i64 a0_2, .int .i64 a0_3] 26 (0, 0)) (by (with_reducible repeat (first | refine blk_drewN ?_ _ | refine blk_drew ?_ | refine blk_alloc ?_ _)); exact BK261.out) hb)
          have n5_ := Aside0.mk (below_step (by repeat (first | (with_reducible first | exact HB.out | apply below_alloc | apply pw_below_drewN | apply below_drew1 | refine below_set ?_ GE255.out | refine below_set ?_ GE256.out | refine below_set ?_ GE261.out) | exact HB.out)) hb)
          have n6_ := Aside0.mk (hbox)
          have n7_ := Aside0.mk ((by rw [hg]; exact (below_size (by repeat (first | (with_reducible first | exact HB.out | apply below_alloc | apply pw_below_drewN | apply below_drew1 | refine below_set ?_ GE255.out | refine below_set ?_ GE256.out | refine below_set ?_ GE261.out) | exact HB.out))) : w.heap.size ≤ gb265))
          have n8_ := Aside0.mk ((by rw [hg]; exact (below_size (by repeat (first | (with_reducible first | exact HB.out | apply below_alloc | apply pw_below_drewN | apply below_drew1 | refine below_set ?_ GE255.out | refine below_set ?_ GE256.out | refine below_set ?_ GE261.out) | exact HB.out))) : w.heap.size ≤ gb265))
          have n9_ := Aside0.mk ((by rw [hg]; exact Nat.ne_of_lt (blk_lt (g := gb255) (o := .cells #[.slice (some ad264) l0_0.length c0_0, .int .i64 a0_1, .int .i64 a0_2, .int .i64 a0_3] 26 (0, 0)) (by (with_reducible repeat (first | refine blk_drewN ?_ _ | refine blk_drew ?_ | refine blk_alloc ?_ _)); exact BK255.out)) : gb255 ≠ gb265))
          have n10_ := Aside0.mk ((by rw [hg]; exact Nat.ne_of_gt (blk_lt (g := gb255) (o := .cells #[.slice (some ad264) l0_0.length c0_0, .int .i64 a0_1, .int .i64 a0_2, .int .i64 a0_3] 26 (0, 0)) (by (with_reducible repeat (first | refine blk_drewN ?_ _ | refine blk_drew ?_ | refine blk_alloc ?_ _)); exact BK255.out)) : gb265 ≠ gb255))
          have n11_ := Aside0.mk ((by rw [hg]; exact Nat.ne_of_lt (blk_lt (g := gb256) (o := .cells #[.slice none 0 0, .int .i64 0, .int .i64 0, .int .i64 0] 26 (0, 0)) (by (with_reducible repeat (first | refine blk_drewN ?_ _ | refine blk_drew ?_ | refine blk_alloc ?_ _)); exact BK256.out)) : gb256 ≠ gb265))
          have n12_ := Aside0.mk ((by rw [hg]; exact Nat.ne_of_gt (blk_lt (g := gb256) (o := .cells #[.slice none 0 0, .int .i64 0, .int .i64 0, .int .i64 0] 26 (0, 0)) (by (with_reducible repeat (first | refine blk_drewN ?_ _ | refine blk_drew ?_ | refine blk_alloc ?_ _)); exact BK256.out)) : gb265 ≠ gb256))
          have n13_ := Aside0.mk ((by rw [hg]; exact Nat.ne_of_lt (blk_lt (g := gb261) (o := .cells #[u262000, .int .i64 (t258.length : Int), .int .i64 a0_2, .int .i64 a0_3] 26 (0, 0)) (by (with_reducible repeat (first | refine blk_drewN ?_ _ | refine blk_drew ?_ | refine blk_alloc ?_ _)); exact BK261.out)) : gb261 ≠ gb265))
          have n14_ := Aside0.mk ((by rw [hg]; exact Nat.ne_of_gt (blk_lt (g := gb261) (o := .cells #[u262000, .int .i64 (t258.length : Int), .int .i64 a0_2, .int .i64 a0_3] 26 (0, 0)) (by (with_reducible repeat (first | refine blk_drewN ?_ _ | refine blk_drew ?_ | refine blk_alloc ?_ _)); exact BK261.out)) : gb265 ≠ gb261))
          clear HO_4
          clear HO_262000
          clear BK255
          clear BK256
          clear BK261
          clear HB
          have HO_4 := n0_
          have HO_262000 := n1_
          have BK255 := n2_
          have BK256 := n3_
          have BK261 := n4_
          have HB := n5_
          have BK265 := n6_
          have GW265 := n7_
          have GE265 := n8_
          have NB255_265 := n9_
          have NB265_255 := n10_
          have NB256_265 := n11_
          have NB265_256 := n12_
          have NB261_265 := n13_
          have NB265_261 := n14_
          clear n0_ n1_ n2_ n3_ n4_ n5_ n6_ n7_ n8_ n9_ n10_ n11_ n12_ n13_ n14_
          clear hb hbox hg
          refine hK.out _ _ ⟨(blk_cell BK255.out 0).trans rfl, (blk_cell BK255.out 1).trans rfl, (blk_cell BK255.out 2).trans rfl, (blk_cell BK255.out 3).trans rfl, HS4_, HS5_, ((HB.out.cell (World.block_lt_of_cell? w _ hw264_0)).trans hw264_0), ((HB.out.cell (World.block_lt_of_cell? w _ hw264_1)).trans hw264_1), ((HB.out.cell (World.block_lt_of_cell? w _ hw264_2)).trans hw264_2), ((HB.out.cell (World.block_lt_of_cell? w _ hw264_3)).trans hw264_3), ((HB.out.cell (World.block_lt_of_cell? w _ hw264_4)).trans hw264_4), ((HB.out.cell (World.block_lt_of_cell? w _ hw264_5)).trans hw264_5), ((HB.out.cell (World.block_lt_of_cell? w _ hw264_6)).trans hw264_6)⟩ (fun hHeld => ?_)
          clear hK K
          refine norm_ (a' := ?_) ?_ ?_
          rotate_left
          ·
           show Act.put _ (some 7) _ = _
           simp only [Act.put, List.setIfInBounds_toArray, List.set_cons_zero, List.set_cons_succ, i64_w, i32_w]
           rfl
          exact norm_ (by simp only [putAll, Act.put, List.setIfInBounds_toArray, List.set_cons_zero, List.set_cons_succ]) (hCont (gb265) _ ⟨hHeld, (by (with_reducible repeat (first | apply Kd.S_alloc | apply Kd.S_drewN | apply Kd.S_drew)); exact Kd.S_mono HO_262000.out (fun _ hk => hk.2)), (by (with_reducible repeat (first | apply Kd.R_alloc | apply Kd.R_drewN | apply Kd.R_drew)); exact HO_4.out), (by (with_reducible repeat (first | refine blk_drewN ?_ _ | refine blk_drew ?_ | refine blk_alloc ?_ _)); exact BK255.out), (by (with_reducible repeat (first | refine blk_drewN ?_ _ | refine blk_drew ?_ | refine blk_alloc ?_ _)); exact BK256.out), (by (with_reducible repeat (first | refine blk_drewN ?_ _ | refine blk_drew ?_ | refine blk_alloc ?_ _)); exact BK261.out), (by (with_reducible repeat (first | refine blk_drewN ?_ _ | refine blk_drew ?_ | refine blk_alloc ?_ _)); exact BK265.out), GW265.out, GE265.out, NB255_265.out, NB265_255.out, NB256_265.out, NB265_256.out, NB261_265.out, NB265_261.out, (by repeat (first | (with_reducible first | exact HB.out | apply below_alloc | apply pw_below_drewN | apply below_drew1 | refine below_set ?_ GE255.out | refine below_set ?_ GE256.out | refine below_set ?_ GE261.out | refine below_set ?_ GE265.out) | exact HB.out))⟩)
         ·
          skip
          refine box_step ?hg (N := 7) ?hd (cs := #[.int .i64 0, .int .i64 0, .int .i64 0, .int .i64 0, .int .i64 0, .string (⟨#[]⟩ : ByteArray), .slice none 0 0]) (t := 44) ?hr ?_; (case hd => rfl); (case hg => rfl); (case hr => first | (go_simp; done) | (go_simp; rfl))
          intro gb265 hg w24 hbox hb
          have HS4_ := (hb.cell (World.block_lt_of_cell? _ _ (hHeld.2.2.2.2.1))).trans (hHeld.2.2.2.2.1)
          have HS5_ := (hb.cell (World.block_lt_of_cell? _ _ (hHeld.2.2.2.2.2.1))).trans (hHeld.2.2.2.2.2.1)
          have n0_ := Aside0.mk (Kd.R_below (by (with_reducible repeat (first | apply Kd.R_alloc | apply Kd.R_drewN | apply Kd.R_drew)); exact HO_4.out) hb)
          have n1_ := Aside0.mk (Kd.S_below (Kd.S_elderB (by (with_reducible repeat (first | apply Kd.S_alloc | apply Kd.S_drewN | apply Kd.S_drew)); exact HO_262000.out) gb265 (Nat.le_of_eq hg.symm)) hb)
          have n2_ := Aside0.mk (blk_below (g := gb255) (o := .cells #[.slice (some ad264) l0_0.length c0_0, .int .i64 a0_1, .int .i64 a0_2, .int .i64 a0_3] 26 (0, 0)) (by (with_reducible repeat (first | refine blk_drewN ?_ _ | refine blk_drew ?_ | refine blk_alloc ?_ _)); exact BK255.out) hb)
          have n3_ := Aside0.mk (blk_below (g := gb256) (o := .cells #[.slice none 0 0, .int .i64 0, .int .i64 0, .int .i64 0] 26 (0, 0)) (by (with_reducible repeat (first | refine blk_drewN ?_ _ | refine blk_drew ?_ | refine blk_alloc ?_ _)); exact BK256.out) hb)
          have n4_ := Aside0.mk (blk_below (g := gb261) (o := .cells #[u262000, .int .i64 (t258.length : Int), .int .i64 a0_2, .int .i64 a0_3] 26 (0, 0)) (by (with_reducible repeat (first | refine blk_drewN ?_ _ | refine blk_drew ?_ | refine blk_alloc ?_ _)); exact BK261.out) hb)
          have n5_ := Aside0.mk (below_step (by repeat (first | (with_reducible first | exact HB.out | apply below_alloc | apply pw_below_drewN | apply below_drew1 | refine below_set ?_ GE255.out | refine below_set ?_ GE256.out | refine below_set ?_ GE261.out) | exact HB.out)) hb)
          have n6_ := Aside0.mk (hbox)
          have n7_ := Aside0.mk ((by rw [hg]; exact (below_size (by repeat (first | (with_reducible first | exact HB.out | apply below_alloc | apply pw_below_drewN | apply below_drew1 | refine below_set ?_ GE255.out | refine below_set ?_ GE256.out | refine below_set ?_ GE261.out) | exact HB.out))) : w.heap.size ≤ gb265))
          have n8_ := Aside0.mk ((by rw [hg]; exact (below_size (by repeat (first | (with_reducible first | exact HB.out | apply below_alloc | apply pw_below_drewN | apply below_drew1 | refine below_set ?_ GE255.out | refine below_set ?_ GE256.out | refine below_set ?_ GE261.out) | exact HB.out))) : w.heap.size ≤ gb265))
          have n9_ := Aside0.mk ((by rw [hg]; exact Nat.ne_of_lt (blk_lt (g := gb255) (o := .cells #[.slice (some ad264) l0_0.length c0_0, .int .i64 a0_1, .int .i64 a0_2, .int .i64 a0_3] 26 (0, 0)) (by (with_reducible repeat (first | refine blk_drewN ?_ _ | refine blk_drew ?_ | refine blk_alloc ?_ _)); exact BK255.out)) : gb255 ≠ gb265))
          have n10_ := Aside0.mk ((by rw [hg]; exact Nat.ne_of_gt (blk_lt (g := gb255) (o := .cells #[.slice (some ad264) l0_0.length c0_0, .int .i64 a0_1, .int .i64 a0_2, .int .i64 a0_3] 26 (0, 0)) (by (with_reducible repeat (first | refine blk_drewN ?_ _ | refine blk_drew ?_ | refine blk_alloc ?_ _)); exact BK255.out)) : gb265 ≠ gb255))
          have n11_ := Aside0.mk ((by rw [hg]; exact Nat.ne_of_lt (blk_lt (g := gb256) (o := .cells #[.slice none 0 0, .int .i64 0, .int .i64 0, .int .i64 0] 26 (0, 0)) (by (with_reducible repeat (first | refine blk_drewN ?_ _ | refine blk_drew ?_ | refine blk_alloc ?_ _)); exact BK256.out)) : gb256 ≠ gb265))
          have n12_ := Aside0.mk ((by rw [hg]; exact Nat.ne_of_gt (blk_lt (g := gb256) (o := .cells #[.slice none 0 0, .int .i64 0, .int .i64 0, .int .i64 0] 26 (0, 0)) (by (with_reducible repeat (first | refine blk_drewN ?_ _ | refine blk_drew ?_ | refine blk_alloc ?_ _)); exact BK256.out)) : gb265 ≠ gb256))
          have n13_ := Aside0.mk ((by rw [hg]; exact Nat.ne_of_lt (blk_lt (g := gb261) (o := .cells #[u262000, .int .i64 (t258.length : Int), .int .i64 a0_2, .int .i64 a0_3] 26 (0, 0)) (by (with_reducible repeat (first | refine blk_drewN ?_ _ | refine blk_drew ?_ | refine blk_alloc ?_ _)); exact BK261.out)) : gb261 ≠ gb265))
          have n14_ := Aside0.mk ((by rw [hg]; exact Nat.ne_of_gt (blk_lt (g := gb261) (o := .cells #[u262000, .int .i64 (t258.length : Int), .int .i64 a0_2, .int .i64 a0_3] 26 (0, 0)) (by (with_reducible repeat (first | refine blk_drewN ?_ _ | refine blk_drew ?_ | refine blk_alloc ?_ _)); exact BK261.out)) : gb265 ≠ gb261))
          clear HO_4
          clear HO_262000
          clear BK255
          clear BK256
          clear BK261
          clear HB
          have HO_4 := n0_
          have HO_262000 := n1_
          have BK255 := n2_
          have BK256 := n3_
          have BK261 := n4_
          have HB := n5_
          have BK265 := n6_
          have GW265 := n7_
          have GE265 := n8_
          have NB255_265 := n9_
          have NB265_255 := n10_
          have NB256_265 := n11_
          have NB265_256 := n12_
          have NB261_265 := n13_
          have NB265_261 := n14_
          clear n0_ n1_ n2_ n3_ n4_ n5_ n6_ n7_ n8_ n9_ n10_ n11_ n12_ n13_ n14_
          clear hb hbox hg
          refine hK.out _ _ ⟨(blk_cell BK255.out 0).trans rfl, (blk_cell BK255.out 1).trans rfl, (blk_cell BK255.out 2).trans rfl, (blk_cell BK255.out 3).trans rfl, HS4_, HS5_, ((HB.out.cell (World.block_lt_of_cell? w _ hw264_0)).trans hw264_0), ((HB.out.cell (World.block_lt_of_cell? w _ hw264_1)).trans hw264_1), ((HB.out.cell (World.block_lt_of_cell? w _ hw264_2)).trans hw264_2), ((HB.out.cell (World.block_lt_of_cell? w _ hw264_3)).trans hw264_3), ((HB.out.cell (World.block_lt_of_cell? w _ hw264_4)).trans hw264_4), ((HB.out.cell (World.block_lt_of_cell? w _ hw264_5)).trans hw264_5), ((HB.out.cell (World.block_lt_of_cell? w _ hw264_6)).trans hw264_6)⟩ (fun hHeld => ?_)
          clear hK K
          refine norm_ (a' := ?_) ?_ ?_
          rotate_left
          ·
           show Act.put _ (some 7) _ = _
           simp only [Act.put, List.setIfInBounds_toArray, List.set_cons_zero, List.set_cons_succ, i64_w, i32_w]
           rfl
          refine one_ (i := 8) (N := some 36) #[true, true, true, true, true, true, true, true, true, false, false, true, false] rfl rfl (one_of HT_.out (by kernel_rfl)) (by decide) (fun K hK => ?_)
          refine goes_ Tryd.func61 (by kernel_rfl) rfl #[.agg #[.slice (some ad264) l0_0.length c0_0, .int .i64 a0_1, .int .i64 a0_2, .int .i64 a0_3], .int .i64 ((rd_T87 t258 x6_1).f0)] (by rfl) rfl rfl (by (try simp only [List.map_toArray, List.map_cons, List.map_nil]); first | done | rfl | (simp only [List.length_drop, List.length_take]; rfl)) ?_
          with_reducible refine (rehearsalref04_Place.calls k1 _ _ l0_0 a0_1 a0_2 a0_3 ((rd_T87 t258 x6_1).f0) t263 _ ?side1 ?side2 A20.out).mono ?_
          (case side1 => repeat (first | exact (Kd.C_below HR0_0.out HB.out) | (with_reducible refine Kd.C_alloc ?_ _) | (with_reducible refine Kd.C_drewN ?_ _) | (with_reducible refine Kd.C_drew ?_)))
          (case side2 => exact HC0_0.out)
          rintro e w25 ⟨rfl, hb⟩
          have HS4_ := (hb.cell (World.block_lt_of_cell? _ _ (hHeld.2.2.2.2.1))).trans (hHeld.2.2.2.2.1)
          have HS5_ := (hb.cell (World.block_lt_of_cell? _ _ (hHeld.2.2.2.2.2.1))).trans (hHeld.2.2.2.2.2.1)
          refine ⟨_, rfl, ?_⟩
          have n0_ := Aside0.mk (Kd.R_below (by (with_reducible repeat (first | apply Kd.R_alloc | apply Kd.R_drewN | apply Kd.R_drew)); exact HO_4.out) hb)
          have n1_ := Aside0.mk (Kd.S_below (by (with_reducible repeat (first | apply Kd.S_alloc | apply Kd.S_drewN | apply Kd.S_drew)); exact HO_262000.out) hb)
          have n2_ := Aside0.mk (blk_below (g := gb255) (o := .cells #[.slice (some ad264) l0_0.length c0_0, .int .i64 a0_1, .int .i64 a0_2, .int .i64 a0_3] 26 (0, 0)) (by (with_reducible repeat (first | refine blk_drewN ?_ _ | refine blk_drew ?_ | refine blk_alloc ?_ _)); exact BK255.out) hb)
          have n3_ := Aside0.mk (blk_below (g := gb256) (o := .cells #[.slice none 0 0, .int .i64 0, .int .i64 0, .int .i64 0] 26 (0, 0)) (by (with_reducible repeat (first | refine blk_drewN ?_ _ | refine blk_drew ?_ | refine blk_alloc ?_ _)); exact BK256.out) hb)
          have n4_ := Aside0.mk (blk_below (g := gb261) (o := .cells #[u262000, .int .i64 (t258.length : Int), .int .i64 a0_2, .int .i64 a0_3] 26 (0, 0)) (by (with_reducible repeat (first | refine blk_drewN ?_ _ | refine blk_drew ?_ | refine blk_alloc ?_ _)); exact BK261.out) hb)
          have n5_ := Aside0.mk (blk_below (g := gb265) (o := .cells #[.int .i64 0, .int .i64 0, .int .i64 0, .int .i64 0, .int .i64 0, .string (⟨#[]⟩ : ByteArray), .slice none 0 0] 44 (0, 0)) (by (with_reducible repeat (first | refine blk_drewN ?_ _ | refine blk_drew ?_ | refine blk_alloc ?_ _)); exact BK265.out) hb)
          have n6_ := Aside0.mk (below_step (by repeat (first | (with_reducible first | exact HB.out | apply below_alloc | apply pw_below_drewN | apply below_drew1 | refine below_set ?_ GE255.out | refine below_set ?_ GE256.out | refine below_set ?_ GE261.out | refine below_set ?_ GE265.out) | exact HB.out)) hb)
          clear HO_4
          clear HO_262000
          clear BK255
          clear BK256
          clear BK261
          clear BK265
          clear HB
          have HO_4 := n0_
          have HO_262000 := n1_
          have BK255 := n2_
          have BK256 := n3_
          have BK261 := n4_
          have BK265 := n5_
          have HB := n6_
          clear n0_ n1_ n2_ n3_ n4_ n5_ n6_
          (try clear hb)
          (try clear hb2)
          (try clear hk)
          (try clear hi)
          refine hK.out _ _ ⟨(blk_cell BK255.out 0).trans rfl, (blk_cell BK255.out 1).trans rfl, (blk_cell BK255.out 2).trans rfl, (blk_cell BK255.out 3).trans rfl, HS4_, HS5_, ((HB.out.cell (World.block_lt_of_cell? w _ hw264_0)).trans hw264_0), ((HB.out.cell (World.block_lt_of_cell? w _ hw264_1)).trans hw264_1), ((HB.out.cell (World.block_lt_of_cell? w _ hw264_2)).trans hw264_2), ((HB.out.cell (World.block_lt_of_cell? w _ hw264_3)).trans hw264_3), ((HB.out.cell (World.block_lt_of_cell? w _ hw264_4)).trans hw264_4), ((HB.out.cell (World.block_lt_of_cell? w _ hw264_5)).trans hw264_5), ((HB.out.cell (World.block_lt_of_cell? w _ hw264_6)).trans hw264_6)⟩ (fun hHeld => ?_)
          clear hK K
          refine norm_ (a' := ?_) ?_ ?_
          rotate_left
          ·
           show Act.put _ (some 36) _ = _
           simp only [Act.put, List.setIfInBounds_toArray, List.set_cons_zero, List.set_cons_succ, i64_w, i32_w]
           rfl
          iterate 2 (((first | refine takeS_ 9 (N := some 37) (v := ?_) (a' := ?_) rfl rfl (by decide +kernel) (fun _ _ _ h => h) (Or.inl ⟨by rfl, ?_⟩) hHeld ?_ ?_ | refine takeS_ 10 (N := some 38) (v := ?_) (a' := ?_) rfl rfl (by decide +kernel) (fun _ _ _ h => h) (Or.inl ⟨by rfl, ?_⟩) hHeld ?_ ?_); rotate_left; (rintro w' ⟨s0, s1, s2, s3, s4, s5, s6, s7, s8, s9, s10, s11, s12⟩; go_simp; first | done | (with_reducible rfl) | rfl); rotate_left; (simp only [Act.put, List.setIfInBounds_toArray, List.set_cons_zero, List.set_cons_succ, i64_w, i32_w]; rfl)))
          exact norm_ (by simp only [putAll, Act.put, List.setIfInBounds_toArray, List.set_cons_zero, List.set_cons_succ]) (hCont (gb265) _ ⟨hHeld, (by (with_reducible repeat (first | apply Kd.S_alloc | apply Kd.S_drewN | apply Kd.S_drew)); exact Kd.S_mono HO_262000.out (fun _ hk => hk.2)), (by (with_reducible repeat (first | apply Kd.R_alloc | apply Kd.R_drewN | apply Kd.R_drew)); exact HO_4.out), (by (with_reducible repeat (first | refine blk_drewN ?_ _ | refine blk_drew ?_ | refine blk_alloc ?_ _)); exact BK255.out), (by (with_reducible repeat (first | refine blk_drewN ?_ _ | refine blk_drew ?_ | refine blk_alloc ?_ _)); exact BK256.out), (by (with_reducible repeat (first | refine blk_drewN ?_ _ | refine blk_drew ?_ | refine blk_alloc ?_ _)); exact BK261.out), (by (with_reducible repeat (first | refine blk_drewN ?_ _ | refine blk_drew ?_ | refine blk_alloc ?_ _)); exact BK265.out), GW265.out, GE265.out, NB255_265.out, NB265_255.out, NB256_265.out, NB265_256.out, NB261_265.out, NB265_261.out, (by repeat (first | (with_reducible first | exact HB.out | apply below_alloc | apply pw_below_drewN | apply below_drew1 | refine below_set ?_ GE255.out | refine below_set ?_ GE256.out | refine below_set ?_ GE261.out | refine below_set ?_ GE265.out) | exact HB.out))⟩)
        rintro gb265 w26 ⟨hS_, h0_, h1_, h2_, h3_, h4_, h5_, h6_, h7_, h8_, h9_, h10_, h11_, h12_, h13_, h14_⟩
        have n0_ : Aside0 (Kd.S k44 44 w26 w.heap.size (fun k_ => k_ ≠ gb265) u262000 x262000_1) := ⟨h0_⟩
        have n1_ : Aside0 (Kd.R k87 87 w26 w.heap.size (fun _ => True) (.slice (some ad262) t258.length co12) t258) := ⟨h1_⟩
        have n2_ : Aside0 (w26.heap[gb255]? = some (.cells #[.slice (some ad264) l0_0.length c0_0, .int .i64 a0_1, .int .i64 a0_2, .int .i64 a0_3] 26 (0, 0))) := ⟨h2_⟩
        have n3_ : Aside0 (w26.heap[gb256]? = some (.cells #[.slice none 0 0, .int .i64 0, .int .i64 0, .int .i64 0] 26 (0, 0))) := ⟨h3_⟩
        have n4_ : Aside0 (w26.heap[gb261]? = some (.cells #[u262000, .int .i64 (t258.length : Int), .int .i64 a0_2, .int .i64 a0_3] 26 (0, 0))) := ⟨h4_⟩
        have n5_ : Aside0 (w26.heap[gb265]? = some (.cells #[.int .i64 0, .int .i64 0, .int .i64 0, .int .i64 0, .int .i64 0, .string (⟨#[]⟩ : ByteArray), .slice none 0 0] 44 (0, 0))) := ⟨h5_⟩
        have n6_ : Aside0 (w.heap.size ≤ gb265) := ⟨h6_⟩
        have n7_ : Aside0 (w.heap.size ≤ gb265) := ⟨h7_⟩
        have n8_ : Aside0 (gb255 ≠ gb265) := ⟨h8_⟩
        have n9_ : Aside0 (gb265 ≠ gb255) := ⟨h9_⟩
        have n10_ : Aside0 (gb256 ≠ gb265) := ⟨h10_⟩
        have n11_ : Aside0 (gb265 ≠ gb256) := ⟨h11_⟩
        have n12_ : Aside0 (gb261 ≠ gb265) := ⟨h12_⟩
        have n13_ : Aside0 (gb265 ≠ gb261) := ⟨h13_⟩
        have n14_ : Aside0 (Below w.heap.size w w26) := ⟨h14_⟩
        clear HO_4
        clear HO_262000
        clear BK255
        clear BK256
        clear BK261
        clear HB
        clear h0_ h1_ h2_ h3_ h4_ h5_ h6_ h7_ h8_ h9_ h10_ h11_ h12_ h13_ h14_
        have HO_262000 := n0_
        have HO_4 := n1_
        have BK255 := n2_
        have BK256 := n3_
        have BK261 := n4_
        have BK265 := n5_
        have GW265 := n6_
        have GE265 := n7_
        have NB255_265 := n8_
        have NB265_255 := n9_
        have NB256_265 := n10_
        have NB265_256 := n11_
        have NB261_265 := n12_
        have NB265_261 := n13_
        have HB := n14_
        clear n0_ n1_ n2_ n3_ n4_ n5_ n6_ n7_ n8_ n9_ n10_ n11_ n12_ n13_ n14_
        have hHeld : w26.cell? ⟨gb255, 0, none⟩ = some (.slice (some ad264) l0_0.length c0_0) ∧ w26.cell? ⟨gb255, 1, none⟩ = some (.int .i64 a0_1) ∧ w26.cell? ⟨gb255, 2, none⟩ = some (.int .i64 a0_2) ∧ w26.cell? ⟨gb255, 3, none⟩ = some (.int .i64 a0_3) ∧ w26.cell? (ad262.add ((x6_1).toNat * 2)) = some (.int .i64 ((rd_T87 t258 x6_1).f0)) ∧ w26.cell? ⟨(ad262.add ((x6_1).toNat * 2)).block, (ad262.add ((x6_1).toNat * 2)).off + 1, none⟩ = some (.string ((rd_T87 t258 x6_1).f1)) ∧ w26.cell? (ad264.add ((t263).toNat * 7)) = some (.int .i64 ((rd_T44 l0_0 t263).f0)) ∧ w26.cell? ⟨(ad264.add ((t263).toNat * 7)).block, (ad264.add ((t263).toNat * 7)).off + 1, none⟩ = some (.int .i64 ((rd_T44 l0_0 t263).f1)) ∧ w26.cell? ⟨(ad264.add ((t263).toNat * 7)).block, (ad264.add ((t263).toNat * 7)).off + 2, none⟩ = some (.int .i64 ((rd_T44 l0_0 t263).f2)) ∧ w26.cell? ⟨(ad264.add ((t263).toNat * 7)).block, (ad264.add ((t263).toNat * 7)).off + 3, none⟩ = some (.int .i64 ((rd_T44 l0_0 t263).f3)) ∧ w26.cell? ⟨(ad264.add ((t263).toNat * 7)).block, (ad264.add ((t263).toNat * 7)).off + 4, none⟩ = some (.int .i64 ((rd_T44 l0_0 t263).f4)) ∧ w26.cell? ⟨(ad264.add ((t263).toNat * 7)).block, (ad264.add ((t263).toNat * 7)).off + 5, none⟩ = some (.string ((rd_T44 l0_0 t263).f5)) ∧ w26.cell? ⟨(ad264.add ((t263).toNat * 7)).block, (ad264.add ((t263).toNat * 7)).off + 6, none⟩ = some (.slice A264_6 ((rd_T44 l0_0 t263).f6).length c264_6) := hS_
        refine norm_ (a' := ?_) ?_ ?_
        rotate_left
        ·
         simp only [putAll, Act.put, List.setIfInBounds_toArray, List.set_cons_zero, List.set_cons_succ]
         rfl
        refine one_ (i := 12) (N := none) #[true, true, true, true, true, true, true, true, true, true, true, true, true] rfl rfl (one_of HT_.out (by kernel_rfl)) (by decide) (fun K hK => ?_)
        have hs27 : w26.cell? ⟨gb265, 0, none⟩ = some (.int .i64 0) := (blk_cell BK265.out 0).trans rfl
        have hfs27 := blk_frozen BK265.out 0
        have hns27_0 := NB255_265.out
        have hns27_1 := NB256_265.out
        have hns27_2 := NB261_265.out
        have hms27_0 := NB265_255.out
        have hms27_1 := NB265_256.out
        have hms27_2 := NB265_261.out
        have hs28 : w26.cell? ⟨gb265, 1, none⟩ = some (.int .i64 0) := (blk_cell BK265.out 1).trans rfl
        have hfs28 := blk_frozen BK265.out 1
        have hns28_0 := NB255_265.out
        have hns28_1 := NB256_265.out
        have hns28_2 := NB261_265.out
        have hms28_0 := NB265_255.out
        have hms28_1 := NB265_256.out
        have hms28_2 := NB265_261.out
        have hs29 : w26.cell? ⟨gb265, 2, none⟩ = some (.int .i64 0) := (blk_cell BK265.out 2).trans rfl
        have hfs29 := blk_frozen BK265.out 2
        have hns29_0 := NB255_265.out
        have hns29_1 := NB256_265.out
        have hns29_2 := NB261_265.out
        have hms29_0 := NB265_255.out
        have hms29_1 := NB265_256.out
        have hms29_2 := NB265_261.out
        have hs30 : w26.cell? ⟨gb265, 3, none⟩ = some (.int .i64 0) := (blk_cell BK265.out 3).trans rfl
        have hfs30 := blk_frozen BK265.out 3
        have hns30_0 := NB255_265.out
        have hns30_1 := NB256_265.out
        have hns30_2 := NB261_265.out
        have hms30_0 := NB265_255.out
        have hms30_1 := NB265_256.out
        have hms30_2 := NB265_261.out
        have hs31 : w26.cell? ⟨gb265, 4, none⟩ = some (.int .i64 0) := (blk_cell BK265.out 4).trans rfl
        have hfs31 := blk_frozen BK265.out 4
        have hns31_0 := NB255_265.out
        have hns31_1 := NB256_265.out
        have hns31_2 := NB261_265.out
        have hms31_0 := NB265_255.out
        have hms31_1 := NB265_256.out
        have hms31_2 := NB265_261.out
        have hs32 : w26.cell? ⟨gb265, 5, none⟩ = some (.string (⟨#[]⟩ : ByteArray)) := (blk_cell BK265.out 5).trans rfl
        have hfs32 := blk_frozen BK265.out 5
        have hns32_0 := NB255_265.out
        have hns32_1 := NB256_265.out
        have hns32_2 := NB261_265.out
        have hms32_0 := NB265_255.out
        have hms32_1 := NB265_256.out
        have hms32_2 := NB265_261.out
        have hs33 : w26.cell? ⟨gb265, 6, none⟩ = some (.slice none 0 0) := (blk_cell BK265.out 6).trans rfl
        have hfs33 := blk_frozen BK265.out 6
        have hns33_0 := NB255_265.out
        have hns33_1 := NB256_265.out
        have hns33_2 := NB261_265.out
        have hms33_0 := NB265_255.out
        have hms33_1 := NB265_256.out
        have hms33_2 := NB265_261.out
        refine skip_ (w1 := ?_) (by rfl) rfl ?_ ?_
        rotate_left
        ·
         go_simp
         rfl
        refine hK.out _ _ ⟨((cell_far (p := ⟨gb265, _, none⟩) NB255_265.out _).trans (((cell_far (p := ⟨gb265, _, none⟩) NB255_265.out _).trans (((cell_far (p := ⟨gb265, _, none⟩) NB255_265.out _).trans (((cell_far (p := ⟨gb265, _, none⟩) NB255_265.out _).trans (((cell_far (p := ⟨gb265, _, none⟩) NB255_265.out _).trans (((cell_far (p := ⟨gb265, _, none⟩) NB255_265.out _).trans (((cell_far (p := ⟨gb265, _, none⟩) NB255_265.out _).trans (hHeld.1)))))))))))))), ((cell_far (p := ⟨gb265, _, none⟩) NB255_265.out _).trans (((cell_far (p := ⟨gb265, _, none⟩) NB255_265.out _).trans (((cell_far (p := ⟨gb265, _, none⟩) NB255_265.out _).trans (((cell_far (p := ⟨gb265, _, none⟩) NB255_265.out _).trans (((cell_far (p := ⟨gb265, _, none⟩) NB255_265.out _).trans (((cell_far (p := ⟨gb265, _, none⟩) NB255_265.out _).trans (((cell_far (p := ⟨gb265, _, none⟩) NB255_265.out _).trans (hHeld.2.1)))))))))))))), ((cell_far (p := ⟨gb265, _, none⟩) NB255_265.out _).trans (((cell_far (p := ⟨gb265, _, none⟩) NB255_265.out _).trans (((cell_far (p := ⟨gb265, _, none⟩) NB255_265.out _).trans (((cell_far (p := ⟨gb265, _, none⟩) NB255_265.out _).trans (((cell_far (p := ⟨gb265, _, none⟩) NB255_265.out _).trans (((cell_far (p := ⟨gb265, _, none⟩) NB255_265.out _).trans (((cell_far (p := ⟨gb265, _, none⟩) NB255_265.out _).trans (hHeld.2.2.1)))))))))))))), ((cell_far (p := ⟨gb265, _, none⟩) NB255_265.out _).trans (((cell_far (p := ⟨gb265, _, none⟩) NB255_265.out _).trans (((cell_far (p := ⟨gb265, _, none⟩) NB255_265.out _).trans (((cell_far (p := ⟨gb265, _, none⟩) NB255_265.out _).trans (((cell_far (p := ⟨gb265, _, none⟩) NB255_265.out _).trans (((cell_far (p := ⟨gb265, _, none⟩) NB255_265.out _).trans (((cell_far (p := ⟨gb265, _, none⟩) NB255_265.out _).trans (hHeld.2.2.2.1)))))))))))))), ((cell_far (p := ⟨gb265, _, none⟩) (by first | exact Kd.own_blk (Kd.R_ne HO_4.out BK265.out (by decide)) | (rw [add_block]; exact Kd.own_blk (Kd.R_ne HO_4.out BK265.out (by decide))) | (show (Addr.add _ _).block ≠ _; rw [add_block]; exact Kd.own_blk (Kd.R_ne HO_4.out BK265.out (by decide))) | (dsimp only; exact Kd.own_blk (Kd.R_ne HO_4.out BK265.out (by decide)))) _).trans (((cell_far (p := ⟨gb265, _, none⟩) (by first | exact Kd.own_blk (Kd.R_ne HO_4.out BK265.out (by decide)) | (rw [add_block]; exact Kd.own_blk (Kd.R_ne HO_4.out BK265.out (by decide))) | (show (Addr.add _ _).block ≠ _; rw [add_block]; exact Kd.own_blk (Kd.R_ne HO_4.out BK265.out (by decide))) | (dsimp only; exact Kd.own_blk (Kd.R_ne HO_4.out BK265.out (by decide)))) _).trans (((cell_far (p := ⟨gb265, _, none⟩) (by first | exact Kd.own_blk (Kd.R_ne HO_4.out BK265.out (by decide)) | (rw [add_block]; exact Kd.own_blk (Kd.R_ne HO_4.out BK265.out (by decide))) | (show (Addr.add _ _).block ≠ _; rw [add_block]; exact Kd.own_blk (Kd.R_ne HO_4.out BK265.out (by decide))) | (dsimp only; exact Kd.own_blk (Kd.R_ne HO_4.out BK265.out (by decide)))) _).trans (((cell_far (p := ⟨gb265, _, none⟩) (by first | exact Kd.own_blk (Kd.R_ne HO_4.out BK265.out (by decide)) | (rw [add_block]; exact Kd.own_blk (Kd.R_ne HO_4.out BK265.out (by decide))) | (show (Addr.add _ _).block ≠ _; rw [add_block]; exact Kd.own_blk (Kd.R_ne HO_4.out BK265.out (by decide))) | (dsimp only; exact Kd.own_blk (Kd.R_ne HO_4.out BK265.out (by decide)))) _).trans (((cell_far (p := ⟨gb265, _, none⟩) (by first | exact Kd.own_blk (Kd.R_ne HO_4.out BK265.out (by decide)) | (rw [add_block]; exact Kd.own_blk (Kd.R_ne HO_4.out BK265.out (by decide))) | (show (Addr.add _ _).block ≠ _; rw [add_block]; exact Kd.own_blk (Kd.R_ne HO_4.out BK265.out (by decide))) | (dsimp only; exact Kd.own_blk (Kd.R_ne HO_4.out BK265.out (by decide)))) _).trans (((cell_far (p := ⟨gb265, _, none⟩) (by first | exact Kd.own_blk (Kd.R_ne HO_4.out BK265.out (by decide)) | (rw [add_block]; exact Kd.own_blk (Kd.R_ne HO_4.out BK265.out (by decide))) | (show (Addr.add _ _).block ≠ _; rw [add_block]; exact Kd.own_blk (Kd.R_ne HO_4.out BK265.out (by decide))) | (dsimp only; exact Kd.own_blk (Kd.R_ne HO_4.out BK265.out (by decide)))) _).trans (((cell_far (p := ⟨gb265, _, none⟩) (by first | exact Kd.own_blk (Kd.R_ne HO_4.out BK265.out (by decide)) | (rw [add_block]; exact Kd.own_blk (Kd.R_ne HO_4.out BK265.out (by decide))) | (show (Addr.add _ _).block ≠ _; rw [add_block]; exact Kd.own_blk (Kd.R_ne HO_4.out BK265.out (by decide))) | (dsimp only; exact Kd.own_blk (Kd.R_ne HO_4.out BK265.out (by decide)))) _).trans (hHeld.2.2.2.2.1)))))))))))))), ((cell_far (p := ⟨gb265, _, none⟩) (by first | exact Kd.own_blk (Kd.R_ne HO_4.out BK265.out (by decide)) | (rw [add_block]; exact Kd.own_blk (Kd.R_ne HO_4.out BK265.out (by decide))) | (show (Addr.add _ _).block ≠ _; rw [add_block]; exact Kd.own_blk (Kd.R_ne HO_4.out BK265.out (by decide))) | (dsimp only; exact Kd.own_blk (Kd.R_ne HO_4.out BK265.out (by decide)))) _).trans (((cell_far (p := ⟨gb265, _, none⟩) (by first | exact Kd.own_blk (Kd.R_ne HO_4.out BK265.out (by decide)) | (rw [add_block]; exact Kd.own_blk (Kd.R_ne HO_4.out BK265.out (by decide))) | (show (Addr.add _ _).block ≠ _; rw [add_block]; exact Kd.own_blk (Kd.R_ne HO_4.out BK265.out (by decide))) | (dsimp only; exact Kd.own_blk (Kd.R_ne HO_4.out BK265.out (by decide)))) _).trans (((cell_far (p := ⟨gb265, _, none⟩) (by first | exact Kd.own_blk (Kd.R_ne HO_4.out BK265.out (by decide)) | (rw [add_block]; exact Kd.own_blk (Kd.R_ne HO_4.out BK265.out (by decide))) | (show (Addr.add _ _).block ≠ _; rw [add_block]; exact Kd.own_blk (Kd.R_ne HO_4.out BK265.out (by decide))) | (dsimp only; exact Kd.own_blk (Kd.R_ne HO_4.out BK265.out (by decide)))) _).trans (((cell_far (p := ⟨gb265, _, none⟩) (by first | exact Kd.own_blk (Kd.R_ne HO_4.out BK265.out (by decide)) | (rw [add_block]; exact Kd.own_blk (Kd.R_ne HO_4.out BK265.out (by decide))) | (show (Addr.add _ _).block ≠ _; rw [add_block]; exact Kd.own_blk (Kd.R_ne HO_4.out BK265.out (by decide))) | (dsimp only; exact Kd.own_blk (Kd.R_ne HO_4.out BK265.out (by decide)))) _).trans (((cell_far (p := ⟨gb265, _, none⟩) (by first | exact Kd.own_blk (Kd.R_ne HO_4.out BK265.out (by decide)) | (rw [add_block]; exact Kd.own_blk (Kd.R_ne HO_4.out BK265.out (by decide))) | (show (Addr.add _ _).block ≠ _; rw [add_block]; exact Kd.own_blk (Kd.R_ne HO_4.out BK265.out (by decide))) | (dsimp only; exact Kd.own_blk (Kd.R_ne HO_4.out BK265.out (by decide)))) _).trans (((cell_far (p := ⟨gb265, _, none⟩) (by first | exact Kd.own_blk (Kd.R_ne HO_4.out BK265.out (by decide)) | (rw [add_block]; exact Kd.own_blk (Kd.R_ne HO_4.out BK265.out (by decide))) | (show (Addr.add _ _).block ≠ _; rw [add_block]; exact Kd.own_blk (Kd.R_ne HO_4.out BK265.out (by decide))) | (dsimp only; exact Kd.own_blk (Kd.R_ne HO_4.out BK265.out (by decide)))) _).trans (((cell_far (p := ⟨gb265, _, none⟩) (by first | exact Kd.own_blk (Kd.R_ne HO_4.out BK265.out (by decide)) | (rw [add_block]; exact Kd.own_blk (Kd.R_ne HO_4.out BK265.out (by decide))) | (show (Addr.add _ _).block ≠ _; rw [add_block]; exact Kd.own_blk (Kd.R_ne HO_4.out BK265.out (by decide))) | (dsimp only; exact Kd.own_blk (Kd.R_ne HO_4.out BK265.out (by decide)))) _).trans (hHeld.2.2.2.2.2.1)))))))))))))), ((cell_far (p := ⟨gb265, _, none⟩) (by first | exact Nat.ne_of_lt (Nat.lt_of_lt_of_le (by have := World.block_lt_of_cell? _ _ hw264_0; first | rwa [add_block] at this | exact this) GW265.out) | (rw [add_block]; exact Nat.ne_of_lt (Nat.lt_of_lt_of_le (by have := World.block_lt_of_cell? _ _ hw264_0; first | rwa [add_block] at this | exact this) GW265.out)) | (show (Addr.add _ _).block ≠ _; rw [add_block]; exact Nat.ne_of_lt (Nat.lt_of_lt_of_le (by have := World.block_lt_of_cell? _ _ hw264_0; first | rwa [add_block] at this | exact this) GW265.out)) | (dsimp only; exact Nat.ne_of_lt (Nat.lt_of_lt_of_le (by have := World.block_lt_of_cell? _ _ hw264_0; first | rwa [add_block] at this | exact this) GW265.out))) _).trans (((cell_far (p := ⟨gb265, _, none⟩) (by first | exact Nat.ne_of_lt (Nat.lt_of_lt_of_le (by have := World.block_lt_of_cell? _ _ hw264_0; first | rwa [add_block] at this | exact this) GW265.out) | (rw [add_block]; exact Nat.ne_of_lt (Nat.lt_of_lt_of_le (by have := World.block_lt_of_cell? _ _ hw264_0; first | rwa [add_block] at this | exact this) GW265.out)) | (show (Addr.add _ _).block ≠ _; rw [add_block]; exact Nat.ne_of_lt (Nat.lt_of_lt_of_le (by have := World.block_lt_of_cell? _ _ hw264_0; first | rwa [add_block] at this | exact this) GW265.out)) | (dsimp only; exact Nat.ne_of_lt (Nat.lt_of_lt_of_le (by have := World.block_lt_of_cell? _ _ hw264_0; first | rwa [add_block] at this | exact this) GW265.out))) _).trans (((cell_far (p := ⟨gb265, _, none⟩) (by first | exact Nat.ne_of_lt (Nat.lt_of_lt_of_le (by have := World.block_lt_of_cell? _ _ hw264_0; first | rwa [add_block] at this | exact this) GW265.out) | (rw [add_block]; exact Nat.ne_of_lt (Nat.lt_of_lt_of_le (by have := World.block_lt_of_cell? _ _ hw264_0; first | rwa [add_block] at this | exact this) GW265.out)) | (show (Addr.add _ _).block ≠ _; rw [add_block]; exact Nat.ne_of_lt (Nat.lt_of_lt_of_le (by have := World.block_lt_of_cell? _ _ hw264_0; first | rwa [add_block] at this | exact this) GW265.out)) | (dsimp only; exact Nat.ne_of_lt (Nat.lt_of_lt_of_le (by have := World.block_lt_of_cell? _ _ hw264_0; first | rwa [add_block] at this | exact this) GW265.out))) _).trans (((cell_far (p := ⟨gb265, _, none⟩) (by first | exact Nat.ne_of_lt (Nat.lt_of_lt_of_le (by have := World.block_lt_of_cell? _ _ hw264_0; first | rwa [add_block] at this | exact this) GW265.out) | (rw [add_block]; exact Nat.ne_of_lt (Nat.lt_of_lt_of_le (by have := World.block_lt_of_cell? _ _ hw264_0; first | rwa [add_block] at this | exact this) GW265.out)) | (show (Addr.add _ _).block ≠ _; rw [add_block]; exact Nat.ne_of_lt (Nat.lt_of_lt_of_le (by have := World.block_lt_of_cell? _ _ hw264_0; first | rwa [add_block] at this | exact this) GW265.out)) | (dsimp only; exact Nat.ne_of_lt (Nat.lt_of_lt_of_le (by have := World.block_lt_of_cell? _ _ hw264_0; first | rwa [add_block] at this | exact this) GW265.out))) _).trans (((cell_far (p := ⟨gb265, _, none⟩) (by first | exact Nat.ne_of_lt (Nat.lt_of_lt_of_le (by have := World.block_lt_of_cell? _ _ hw264_0; first | rwa [add_block] at this | exact this) GW265.out) | (rw [add_block]; exact Nat.ne_of_lt (Nat.lt_of_lt_of_le (by have := World.block_lt_of_cell? _ _ hw264_0; first | rwa [add_block] at this | exact this) GW265.out)) | (show (Addr.add _ _).block ≠ _; rw [add_block]; exact Nat.ne_of_lt (Nat.lt_of_lt_of_le (by have := World.block_lt_of_cell? _ _ hw264_0; first | rwa [add_block] at this | exact this) GW265.out)) | (dsimp only; exact Nat.ne_of_lt (Nat.lt_of_lt_of_le (by have := World.block_lt_of_cell? _ _ hw264_0; first | rwa [add_block] at this | exact this) GW265.out))) _).trans (((cell_far (p := ⟨gb265, _, none⟩) (by first | exact Nat.ne_of_lt (Nat.lt_of_lt_of_le (by have := World.block_lt_of_cell? _ _ hw264_0; first | rwa [add_block] at this | exact this) GW265.out) | (rw [add_block]; exact Nat.ne_of_lt (Nat.lt_of_lt_of_le (by have := World.block_lt_of_cell? _ _ hw264_0; first | rwa [add_block] at this | exact this) GW265.out)) | (show (Addr.add _ _).block ≠ _; rw [add_block]; exact Nat.ne_of_lt (Nat.lt_of_lt_of_le (by have := World.block_lt_of_cell? _ _ hw264_0; first | rwa [add_block] at this | exact this) GW265.out)) | (dsimp only; exact Nat.ne_of_lt (Nat.lt_of_lt_of_le (by have := World.block_lt_of_cell? _ _ hw264_0; first | rwa [add_block] at this | exact this) GW265.out))) _).trans (((cell_far (p := ⟨gb265, _, none⟩) (by first | exact Nat.ne_of_lt (Nat.lt_of_lt_of_le (by have := World.block_lt_of_cell? _ _ hw264_0; first | rwa [add_block] at this | exact this) GW265.out) | (rw [add_block]; exact Nat.ne_of_lt (Nat.lt_of_lt_of_le (by have := World.block_lt_of_cell? _ _ hw264_0; first | rwa [add_block] at this | exact this) GW265.out)) | (show (Addr.add _ _).block ≠ _; rw [add_block]; exact Nat.ne_of_lt (Nat.lt_of_lt_of_le (by have := World.block_lt_of_cell? _ _ hw264_0; first | rwa [add_block] at this | exact this) GW265.out)) | (dsimp only; exact Nat.ne_of_lt (Nat.lt_of_lt_of_le (by have := World.block_lt_of_cell? _ _ hw264_0; first | rwa [add_block] at this | exact this) GW265.out))) _).trans (hHeld.2.2.2.2.2.2.1)))))))))))))), ((cell_far (p := ⟨gb265, _, none⟩) (by first | exact Nat.ne_of_lt (Nat.lt_of_lt_of_le (by have := World.block_lt_of_cell? _ _ hw264_1; first | rwa [add_block] at this | exact this) GW265.out) | (rw [add_block]; exact Nat.ne_of_lt (Nat.lt_of_lt_of_le (by have := World.block_lt_of_cell? _ _ hw264_1; first | rwa [add_block] at this | exact this) GW265.out)) | (show (Addr.add _ _).block ≠ _; rw [add_block]; exact Nat.ne_of_lt (Nat.lt_of_lt_of_le (by have := World.block_lt_of_cell? _ _ hw264_1; first | rwa [add_block] at this | exact this) GW265.out)) | (dsimp only; exact Nat.ne_of_lt (Nat.lt_of_lt_of_le (by have := World.block_lt_of_cell? _ _ hw264_1; first | rwa [add_block] at this | exact this) GW265.out))) _).trans (((cell_far (p := ⟨gb265, _, none⟩) (by first | exact Nat.ne_of_lt (Nat.lt_of_lt_of_le (by have := World.block_lt_of_cell? _ _ hw264_1; first | rwa [add_block] at this | exact this) GW265.out) | (rw [add_block]; exact Nat.ne_of_lt (Nat.lt_of_lt_of_le (by have := World.block_lt_of_cell? _ _ hw264_1; first | rwa [add_block] at this | exact this) GW265.out)) | (show (Addr.add _ _).block ≠ _; rw [add_block]; exact Nat.ne_of_lt (Nat.lt_of_lt_of_le (by have := World.block_lt_of_cell? _ _ hw264_1; first | rwa [add_block] at this | exact this) GW265.out)) | (dsimp only; exact Nat.ne_of_lt (Nat.lt_of_lt_of_le (by have := World.block_lt_of_cell? _ _ hw264_1; first | rwa [add_block] at this | exact this) GW265.out))) _).trans (((cell_far (p := ⟨gb265, _, none⟩) (by first | exact Nat.ne_of_lt (Nat.lt_of_lt_of_le (by have := World.block_lt_of_cell? _ _ hw264_1; first | rwa [add_block] at this | exact this) GW265.out) | (rw [add_block]; exact Nat.ne_of_lt (Nat.lt_of_lt_of_le (by have := World.block_lt_of_cell? _ _ hw264_1; first | rwa [add_block] at this | exact this) GW265.out)) | (show (Addr.add _ _).block ≠ _; rw [add_block]; exact Nat.ne_of_lt (Nat.lt_of_lt_of_le (by have := World.block_lt_of_cell? _ _ hw264_1; first | rwa [add_block] at this | exact this) GW265.out)) | (dsimp only; exact Nat.ne_of_lt (Nat.lt_of_lt_of_le (by have := World.block_lt_of_cell? _ _ hw264_1; first | rwa [add_block] at this | exact this) GW265.out))) _).trans (((cell_far (p := ⟨gb265, _, none⟩) (by first | exact Nat.ne_of_lt (Nat.lt_of_lt_of_le (by have := World.block_lt_of_cell? _ _ hw264_1; first | rwa [add_block] at this | exact this) GW265.out) | (rw [add_block]; exact Nat.ne_of_lt (Nat.lt_of_lt_of_le (by have := World.block_lt_of_cell? _ _ hw264_1; first | rwa [add_block] at this | exact this) GW265.out)) | (show (Addr.add _ _).block ≠ _; rw [add_block]; exact Nat.ne_of_lt (Nat.lt_of_lt_of_le (by have := World.block_lt_of_cell? _ _ hw264_1; first | rwa [add_block] at this | exact this) GW265.out)) | (dsimp only; exact Nat.ne_of_lt (Nat.lt_of_lt_of_le (by have := World.block_lt_of_cell? _ _ hw264_1; first | rwa [add_block] at this | exact this) GW265.out))) _).trans (((cell_far (p := ⟨gb265, _, none⟩) (by first | exact Nat.ne_of_lt (Nat.lt_of_lt_of_le (by have := World.block_lt_of_cell? _ _ hw264_1; first | rwa [add_block] at this | exact this) GW265.out) | (rw [add_block]; exact Nat.ne_of_lt (Nat.lt_of_lt_of_le (by have := World.block_lt_of_cell? _ _ hw264_1; first | rwa [add_block] at this | exact this) GW265.out)) | (show (Addr.add _ _).block ≠ _; rw [add_block]; exact Nat.ne_of_lt (Nat.lt_of_lt_of_le (by have := World.block_lt_of_cell? _ _ hw264_1; first | rwa [add_block] at this | exact this) GW265.out)) | (dsimp only; exact Nat.ne_of_lt (Nat.lt_of_lt_of_le (by have := World.block_lt_of_cell? _ _ hw264_1; first | rwa [add_block] at this | exact this) GW265.out))) _).trans (((cell_far (p := ⟨gb265, _, none⟩) (by first | exact Nat.ne_of_lt (Nat.lt_of_lt_of_le (by have := World.block_lt_of_cell? _ _ hw264_1; first | rwa [add_block] at this | exact this) GW265.out) | (rw [add_block]; exact Nat.ne_of_lt (Nat.lt_of_lt_of_le (by have := World.block_lt_of_cell? _ _ hw264_1; first | rwa [add_block] at this | exact this) GW265.out)) | (show (Addr.add _ _).block ≠ _; rw [add_block]; exact Nat.ne_of_lt (Nat.lt_of_lt_of_le (by have := World.block_lt_of_cell? _ _ hw264_1; first | rwa [add_block] at this | exact this) GW265.out)) | (dsimp only; exact Nat.ne_of_lt (Nat.lt_of_lt_of_le (by have := World.block_lt_of_cell? _ _ hw264_1; first | rwa [add_block] at this | exact this) GW265.out))) _).trans (((cell_far (p := ⟨gb265, _, none⟩) (by first | exact Nat.ne_of_lt (Nat.lt_of_lt_of_le (by have := World.block_lt_of_cell? _ _ hw264_1; first | rwa [add_block] at this | exact this) GW265.out) | (rw [add_block]; exact Nat.ne_of_lt (Nat.lt_of_lt_of_le (by have := World.block_lt_of_cell? _ _ hw264_1; first | rwa [add_block] at this | exact this) GW265.out)) | (show (Addr.add _ _).block ≠ _; rw [add_block]; exact Nat.ne_of_lt (Nat.lt_of_lt_of_le (by have := World.block_lt_of_cell? _ _ hw264_1; first | rwa [add_block] at this | exact this) GW265.out)) | (dsimp only; exact Nat.ne_of_lt (Nat.lt_of_lt_of_le (by have := World.block_lt_of_cell? _ _ hw264_1; first | rwa [add_block] at this | exact this) GW265.out))) _).trans (hHeld.2.2.2.2.2.2.2.1)))))))))))))), ((cell_far (p := ⟨gb265, _, none⟩) (by first | exact Nat.ne_of_lt (Nat.lt_of_lt_of_le (by have := World.block_lt_of_cell? _ _ hw264_2; first | rwa [add_block] at this | exact this) GW265.out) | (rw [add_block]; exact Nat.ne_of_lt (Nat.lt_of_lt_of_le (by have := World.block_lt_of_cell? _ _ hw264_2; first | rwa [add_block] at this | exact this) GW265.out)) | (show (Addr.add _ _).block ≠ _; rw [add_block]; exact Nat.ne_of_lt (Nat.lt_of_lt_of_le (by have := World.block_lt_of_cell? _ _ hw264_2; first | rwa [add_block] at this | exact this) GW265.out)) | (dsimp only; exact Nat.ne_of_lt (Nat.lt_of_lt_of_le (by have := World.block_lt_of_cell? _ _ hw264_2; first | rwa [add_block] at this | exact this) GW265.out))) _).trans (((cell_far (p := ⟨gb265, _, none⟩) (by first | exact Nat.ne_of_lt (Nat.lt_of_lt_of_le (by have := World.block_lt_of_cell? _ _ hw264_2; first | rwa [add_block] at this | exact this) GW265.out) | (rw [add_block]; exact Nat.ne_of_lt (Nat.lt_of_lt_of_le (by have := World.block_lt_of_cell? _ _ hw264_2; first | rwa [add_block] at this | exact this) GW265.out)) | (show (Addr.add _ _).block ≠ _; rw [add_block]; exact Nat.ne_of_lt (Nat.lt_of_lt_of_le (by have := World.block_lt_of_cell? _ _ hw264_2; first | rwa [add_block] at this | exact this) GW265.out)) | (dsimp only; exact Nat.ne_of_lt (Nat.lt_of_lt_of_le (by have := World.block_lt_of_cell? _ _ hw264_2; first | rwa [add_block] at this | exact this) GW265.out))) _).trans (((cell_far (p := ⟨gb265, _, none⟩) (by first | exact Nat.ne_of_lt (Nat.lt_of_lt_of_le (by have := World.block_lt_of_cell? _ _ hw264_2; first | rwa [add_block] at this | exact this) GW265.out) | (rw [add_block]; exact Nat.ne_of_lt (Nat.lt_of_lt_of_le (by have := World.block_lt_of_cell? _ _ hw264_2; first | rwa [add_block] at this | exact this) GW265.out)) | (show (Addr.add _ _).block ≠ _; rw [add_block]; exact Nat.ne_of_lt (Nat.lt_of_lt_of_le (by have := World.block_lt_of_cell? _ _ hw264_2; first | rwa [add_block] at this | exact this) GW265.out)) | (dsimp only; exact Nat.ne_of_lt (Nat.lt_of_lt_of_le (by have := World.block_lt_of_cell? _ _ hw264_2; first | rwa [add_block] at this | exact this) GW265.out))) _).trans (((cell_far (p := ⟨gb265, _, none⟩) (by first | exact Nat.ne_of_lt (Nat.lt_of_lt_of_le (by have := World.block_lt_of_cell? _ _ hw264_2; first | rwa [add_block] at this | exact this) GW265.out) | (rw [add_block]; exact Nat.ne_of_lt (Nat.lt_of_lt_of_le (by have := World.block_lt_of_cell? _ _ hw264_2; first | rwa [add_block] at this | exact this) GW265.out)) | (show (Addr.add _ _).block ≠ _; rw [add_block]; exact Nat.ne_of_lt (Nat.lt_of_lt_of_le (by have := World.block_lt_of_cell? _ _ hw264_2; first | rwa [add_block] at this | exact this) GW265.out)) | (dsimp only; exact Nat.ne_of_lt (Nat.lt_of_lt_of_le (by have := World.block_lt_of_cell? _ _ hw264_2; first | rwa [add_block] at this | exact this) GW265.out))) _).trans (((cell_far (p := ⟨gb265, _, none⟩) (by first | exact Nat.ne_of_lt (Nat.lt_of_lt_of_le (by have := World.block_lt_of_cell? _ _ hw264_2; first | rwa [add_block] at this | exact this) GW265.out) | (rw [add_block]; exact Nat.ne_of_lt (Nat.lt_of_lt_of_le (by have := World.block_lt_of_cell? _ _ hw264_2; first | rwa [add_block] at this | exact this) GW265.out)) | (show (Addr.add _ _).block ≠ _; rw [add_block]; exact Nat.ne_of_lt (Nat.lt_of_lt_of_le (by have := World.block_lt_of_cell? _ _ hw264_2; first | rwa [add_block] at this | exact this) GW265.out)) | (dsimp only; exact Nat.ne_of_lt (Nat.lt_of_lt_of_le (by have := World.block_lt_of_cell? _ _ hw264_2; first | rwa [add_block] at this | exact this) GW265.out))) _).trans (((cell_far (p := ⟨gb265, _, none⟩) (by first | exact Nat.ne_of_lt (Nat.lt_of_lt_of_le (by have := World.block_lt_of_cell? _ _ hw264_2; first | rwa [add_block] at this | exact this) GW265.out) | (rw [add_block]; exact Nat.ne_of_lt (Nat.lt_of_lt_of_le (by have := World.block_lt_of_cell? _ _ hw264_2; first | rwa [add_block] at this | exact this) GW265.out)) | (show (Addr.add _ _).block ≠ _; rw [add_block]; exact Nat.ne_of_lt (Nat.lt_of_lt_of_le (by have := World.block_lt_of_cell? _ _ hw264_2; first | rwa [add_block] at this | exact this) GW265.out)) | (dsimp only; exact Nat.ne_of_lt (Nat.lt_of_lt_of_le (by have := World.block_lt_of_cell? _ _ hw264_2; first | rwa [add_block] at this | exact this) GW265.out))) _).trans (((cell_far (p := ⟨gb265, _, none⟩) (by first | exact Nat.ne_of_lt (Nat.lt_of_lt_of_le (by have := World.block_lt_of_cell? _ _ hw264_2; first | rwa [add_block] at this | exact this) GW265.out) | (rw [add_block]; exact Nat.ne_of_lt (Nat.lt_of_lt_of_le (by have := World.block_lt_of_cell? _ _ hw264_2; first | rwa [add_block] at this | exact this) GW265.out)) | (show (Addr.add _ _).block ≠ _; rw [add_block]; exact Nat.ne_of_lt (Nat.lt_of_lt_of_le (by have := World.block_lt_of_cell? _ _ hw264_2; first | rwa [add_block] at this | exact this) GW265.out)) | (dsimp only; exact Nat.ne_of_lt (Nat.lt_of_lt_of_le (by have := World.block_lt_of_cell? _ _ hw264_2; first | rwa [add_block] at this | exact this) GW265.out))) _).trans (hHeld.2.2.2.2.2.2.2.2.1)))))))))))))), ((cell_far (p := ⟨gb265, _, none⟩) (by first | exact Nat.ne_of_lt (Nat.lt_of_lt_of_le (by have := World.block_lt_of_cell? _ _ hw264_3; first | rwa [add_block] at this | exact this) GW265.out) | (rw [add_block]; exact Nat.ne_of_lt (Nat.lt_of_lt_of_le (by have := World.block_lt_of_cell? _ _ hw264_3; first | rwa [add_block] at this | exact this) GW265.out)) | (show (Addr.add _ _).block ≠ _; rw [add_block]; exact Nat.ne_of_lt (Nat.lt_of_lt_of_le (by have := World.block_lt_of_cell? _ _ hw264_3; first | rwa [add_block] at this | exact this) GW265.out)) | (dsimp only; exact Nat.ne_of_lt (Nat.lt_of_lt_of_le (by have := World.block_lt_of_cell? _ _ hw264_3; first | rwa [add_block] at this | exact this) GW265.out))) _).trans (((cell_far (p := ⟨gb265, _, none⟩) (by first | exact Nat.ne_of_lt (Nat.lt_of_lt_of_le (by have := World.block_lt_of_cell? _ _ hw264_3; first | rwa [add_block] at this | exact this) GW265.out) | (rw [add_block]; exact Nat.ne_of_lt (Nat.lt_of_lt_of_le (by have := World.block_lt_of_cell? _ _ hw264_3; first | rwa [add_block] at this | exact this) GW265.out)) | (show (Addr.add _ _).block ≠ _; rw [add_block]; exact Nat.ne_of_lt (Nat.lt_of_lt_of_le (by have := World.block_lt_of_cell? _ _ hw264_3; first | rwa [add_block] at this | exact this) GW265.out)) | (dsimp only; exact Nat.ne_of_lt (Nat.lt_of_lt_of_le (by have := World.block_lt_of_cell? _ _ hw264_3; first | rwa [add_block] at this | exact this) GW265.out))) _).trans (((cell_far (p := ⟨gb265, _, none⟩) (by first | exact Nat.ne_of_lt (Nat.lt_of_lt_of_le (by have := World.block_lt_of_cell? _ _ hw264_3; first | rwa [add_block] at this | exact this) GW265.out) | (rw [add_block]; exact Nat.ne_of_lt (Nat.lt_of_lt_of_le (by have := World.block_lt_of_cell? _ _ hw264_3; first | rwa [add_block] at this | exact this) GW265.out)) | (show (Addr.add _ _).block ≠ _; rw [add_block]; exact Nat.ne_of_lt (Nat.lt_of_lt_of_le (by have := World.block_lt_of_cell? _ _ hw264_3; first | rwa [add_block] at this | exact this) GW265.out)) | (dsimp only; exact Nat.ne_of_lt (Nat.lt_of_lt_of_le (by have := World.block_lt_of_cell? _ _ hw264_3; first | rwa [add_block] at this | exact this) GW265.out))) _).trans (((cell_far (p := ⟨gb265, _, none⟩) (by first | exact Nat.ne_of_lt (Nat.lt_of_lt_of_le (by have := World.block_lt_of_cell? _ _ hw264_3; first | rwa [add_block] at this | exact this) GW265.out) | (rw [add_block]; exact Nat.ne_of_lt (Nat.lt_of_lt_of_le (by have := World.block_lt_of_cell? _ _ hw264_3; first | rwa [add_block] at this | exact this) GW265.out)) | (show (Addr.add _ _).block ≠ _; rw [add_block]; exact Nat.ne_of_lt (Nat.lt_of_lt_of_le (by have := World.block_lt_of_cell? _ _ hw264_3; first | rwa [add_block] at this | exact this) GW265.out)) | (dsimp only; exact Nat.ne_of_lt (Nat.lt_of_lt_of_le (by have := World.block_lt_of_cell? _ _ hw264_3; first | rwa [add_block] at this | exact this) GW265.out))) _).trans (((cell_far (p := ⟨gb265, _, none⟩) (by first | exact Nat.ne_of_lt (Nat.lt_of_lt_of_le (by have := World.block_lt_of_cell? _ _ hw264_3; first | rwa [add_block] at this | exact this) GW265.out) | (rw [add_block]; exact Nat.ne_of_lt (Nat.lt_of_lt_of_le (by have := World.block_lt_of_cell? _ _ hw264_3; first | rwa [add_block] at this | exact this) GW265.out)) | (show (Addr.add _ _).block ≠ _; rw [add_block]; exact Nat.ne_of_lt (Nat.lt_of_lt_of_le (by have := World.block_lt_of_cell? _ _ hw264_3; first | rwa [add_block] at this | exact this) GW265.out)) | (dsimp only; exact Nat.ne_of_lt (Nat.lt_of_lt_of_le (by have := World.block_lt_of_cell? _ _ hw264_3; first | rwa [add_block] at this | exact this) GW265.out))) _).trans (((cell_far (p := ⟨gb265, _, none⟩) (by first | exact Nat.ne_of_lt (Nat.lt_of_lt_of_le (by have := World.block_lt_of_cell? _ _ hw264_3; first | rwa [add_block] at this | exact this) GW265.out) | (rw [add_block]; exact Nat.ne_of_lt (Nat.lt_of_lt_of_le (by have := World.block_lt_of_cell? _ _ hw264_3; first | rwa [add_block] at this | exact this) GW265.out)) | (show (Addr.add _ _).block ≠ _; rw [add_block]; exact Nat.ne_of_lt (Nat.lt_of_lt_of_le (by have := World.block_lt_of_cell? _ _ hw264_3; first | rwa [add_block] at this | exact this) GW265.out)) | (dsimp only; exact Nat.ne_of_lt (Nat.lt_of_lt_of_le (by have := World.block_lt_of_cell? _ _ hw264_3; first | rwa [add_block] at this | exact this) GW265.out))) _).trans (((cell_far (p := ⟨gb265, _, none⟩) (by first | exact Nat.ne_of_lt (Nat.lt_of_lt_of_le (by have := World.block_lt_of_cell? _ _ hw264_3; first | rwa [add_block] at this | exact this) GW265.out) | (rw [add_block]; exact Nat.ne_of_lt (Nat.lt_of_lt_of_le (by have := World.block_lt_of_cell? _ _ hw264_3; first | rwa [add_block] at this | exact this) GW265.out)) | (show (Addr.add _ _).block ≠ _; rw [add_block]; exact Nat.ne_of_lt (Nat.lt_of_lt_of_le (by have := World.block_lt_of_cell? _ _ hw264_3; first | rwa [add_block] at this | exact this) GW265.out)) | (dsimp only; exact Nat.ne_of_lt (Nat.lt_of_lt_of_le (by have := World.block_lt_of_cell? _ _ hw264_3; first | rwa [add_block] at this | exact this) GW265.out))) _).trans (hHeld.2.2.2.2.2.2.2.2.2.1)))))))))))))), ((cell_far (p := ⟨gb265, _, none⟩) (by first | exact Nat.ne_of_lt (Nat.lt_of_lt_of_le (by have := World.block_lt_of_cell? _ _ hw264_4; first | rwa [add_block] at this | exact this) GW265.out) | (rw [add_block]; exact Nat.ne_of_lt (Nat.lt_of_lt_of_le (by have := World.block_lt_of_cell? _ _ hw264_4; first | rwa [add_block] at this | exact this) GW265.out)) | (show (Addr.add _ _).block ≠ _; rw [add_block]; exact Nat.ne_of_lt (Nat.lt_of_lt_of_le (by have := World.block_lt_of_cell? _ _ hw264_4; first | rwa [add_block] at this | exact this) GW265.out)) | (dsimp only; exact Nat.ne_of_lt (Nat.lt_of_lt_of_le (by have := World.block_lt_of_cell? _ _ hw264_4; first | rwa [add_block] at this | exact this) GW265.out))) _).trans (((cell_far (p := ⟨gb265, _, none⟩) (by first | exact Nat.ne_of_lt (Nat.lt_of_lt_of_le (by have := World.block_lt_of_cell? _ _ hw264_4; first | rwa [add_block] at this | exact this) GW265.out) | (rw [add_block]; exact Nat.ne_of_lt (Nat.lt_of_lt_of_le (by have := World.block_lt_of_cell? _ _ hw264_4; first | rwa [add_block] at this | exact this) GW265.out)) | (show (Addr.add _ _).block ≠ _; rw [add_block]; exact Nat.ne_of_lt (Nat.lt_of_lt_of_le (by have := World.block_lt_of_cell? _ _ hw264_4; first | rwa [add_block] at this | exact this) GW265.out)) | (dsimp only; exact Nat.ne_of_lt (Nat.lt_of_lt_of_le (by have := World.block_lt_of_cell? _ _ hw264_4; first | rwa [add_block] at this | exact this) GW265.out))) _).trans (((cell_far (p := ⟨gb265, _, none⟩) (by first | exact Nat.ne_of_lt (Nat.lt_of_lt_of_le (by have := World.block_lt_of_cell? _ _ hw264_4; first | rwa [add_block] at this | exact this) GW265.out) | (rw [add_block]; exact Nat.ne_of_lt (Nat.lt_of_lt_of_le (by have := World.block_lt_of_cell? _ _ hw264_4; first | rwa [add_block] at this | exact this) GW265.out)) | (show (Addr.add _ _).block ≠ _; rw [add_block]; exact Nat.ne_of_lt (Nat.lt_of_lt_of_le (by have := World.block_lt_of_cell? _ _ hw264_4; first | rwa [add_block] at this | exact this) GW265.out)) | (dsimp only; exact Nat.ne_of_lt (Nat.lt_of_lt_of_le (by have := World.block_lt_of_cell? _ _ hw264_4; first | rwa [add_block] at this | exact this) GW265.out))) _).trans (((cell_far (p := ⟨gb265, _, none⟩) (by first | exact Nat.ne_of_lt (Nat.lt_of_lt_of_le (by have := World.block_lt_of_cell? _ _ hw264_4; first | rwa [add_block] at this | exact this) GW265.out) | (rw [add_block]; exact Nat.ne_of_lt (Nat.lt_of_lt_of_le (by have := World.block_lt_of_cell? _ _ hw264_4; first | rwa [add_block] at this | exact this) GW265.out)) | (show (Addr.add _ _).block ≠ _; rw [add_block]; exact Nat.ne_of_lt (Nat.lt_of_lt_of_le (by have := World.block_lt_of_cell? _ _ hw264_4; first | rwa [add_block] at this | exact this) GW265.out)) | (dsimp only; exact Nat.ne_of_lt (Nat.lt_of_lt_of_le (by have := World.block_lt_of_cell? _ _ hw264_4; first | rwa [add_block] at this | exact this) GW265.out))) _).trans (((cell_far (p := ⟨gb265, _, none⟩) (by first | exact Nat.ne_of_lt (Nat.lt_of_lt_of_le (by have := World.block_lt_of_cell? _ _ hw264_4; first | rwa [add_block] at this | exact this) GW265.out) | (rw [add_block]; exact Nat.ne_of_lt (Nat.lt_of_lt_of_le (by have := World.block_lt_of_cell? _ _ hw264_4; first | rwa [add_block] at this | exact this) GW265.out)) | (show (Addr.add _ _).block ≠ _; rw [add_block]; exact Nat.ne_of_lt (Nat.lt_of_lt_of_le (by have := World.block_lt_of_cell? _ _ hw264_4; first | rwa [add_block] at this | exact this) GW265.out)) | (dsimp only; exact Nat.ne_of_lt (Nat.lt_of_lt_of_le (by have := World.block_lt_of_cell? _ _ hw264_4; first | rwa [add_block] at this | exact this) GW265.out))) _).trans (((cell_far (p := ⟨gb265, _, none⟩) (by first | exact Nat.ne_of_lt (Nat.lt_of_lt_of_le (by have := World.block_lt_of_cell? _ _ hw264_4; first | rwa [add_block] at this | exact this) GW265.out) | (rw [add_block]; exact Nat.ne_of_lt (Nat.lt_of_lt_of_le (by have := World.block_lt_of_cell? _ _ hw264_4; first | rwa [add_block] at this | exact this) GW265.out)) | (show (Addr.add _ _).block ≠ _; rw [add_block]; exact Nat.ne_of_lt (Nat.lt_of_lt_of_le (by have := World.block_lt_of_cell? _ _ hw264_4; first | rwa [add_block] at this | exact this) GW265.out)) | (dsimp only; exact Nat.ne_of_lt (Nat.lt_of_lt_of_le (by have := World.block_lt_of_cell? _ _ hw264_4; first | rwa [add_block] at this | exact this) GW265.out))) _).trans (((cell_far (p := ⟨gb265, _, none⟩) (by first | exact Nat.ne_of_lt (Nat.lt_of_lt_of_le (by have := World.block_lt_of_cell? _ _ hw264_4; first | rwa [add_block] at this | exact this) GW265.out) | (rw [add_block]; exact Nat.ne_of_lt (Nat.lt_of_lt_of_le (by have := World.block_lt_of_cell? _ _ hw264_4; first | rwa [add_block] at this | exact this) GW265.out)) | (show (Addr.add _ _).block ≠ _; rw [add_block]; exact Nat.ne_of_lt (Nat.lt_of_lt_of_le (by have := World.block_lt_of_cell? _ _ hw264_4; first | rwa [add_block] at this | exact this) GW265.out)) | (dsimp only; exact Nat.ne_of_lt (Nat.lt_of_lt_of_le (by have := World.block_lt_of_cell? _ _ hw264_4; first | rwa [add_block] at this | exact this) GW265.out))) _).trans (hHeld.2.2.2.2.2.2.2.2.2.2.1)))))))))))))), ((cell_far (p := ⟨gb265, _, none⟩) (by first | exact Nat.ne_of_lt (Nat.lt_of_lt_of_le (by have := World.block_lt_of_cell? _ _ hw264_5; first | rwa [add_block] at this | exact this) GW265.out) | (rw [add_block]; exact Nat.ne_of_lt (Nat.lt_of_lt_of_le (by have := World.block_lt_of_cell? _ _ hw264_5; first | rwa [add_block] at this | exact this) GW265.out)) | (show (Addr.add _ _).block ≠ _; rw [add_block]; exact Nat.ne_of_lt (Nat.lt_of_lt_of_le (by have := World.block_lt_of_cell? _ _ hw264_5; first | rwa [add_block] at this | exact this) GW265.out)) | (dsimp only; exact Nat.ne_of_lt (Nat.lt_of_lt_of_le (by have := World.block_lt_of_cell? _ _ hw264_5; first | rwa [add_block] at this | exact this) GW265.out))) _).trans (((cell_far (p := ⟨gb265, _, none⟩) (by first | exact Nat.ne_of_lt (Nat.lt_of_lt_of_le (by have := World.block_lt_of_cell? _ _ hw264_5; first | rwa [add_block] at this | exact this) GW265.out) | (rw [add_block]; exact Nat.ne_of_lt (Nat.lt_of_lt_of_le (by have := World.block_lt_of_cell? _ _ hw264_5; first | rwa [add_block] at this | exact this) GW265.out)) | (show (Addr.add _ _).block ≠ _; rw [add_block]; exact Nat.ne_of_lt (Nat.lt_of_lt_of_le (by have := World.block_lt_of_cell? _ _ hw264_5; first | rwa [add_block] at this | exact this) GW265.out)) | (dsimp only; exact Nat.ne_of_lt (Nat.lt_of_lt_of_le (by have := World.block_lt_of_cell? _ _ hw264_5; first | rwa [add_block] at this | exact this) GW265.out))) _).trans (((cell_far (p := ⟨gb265, _, none⟩) (by first | exact Nat.ne_of_lt (Nat.lt_of_lt_of_le (by have := World.block_lt_of_cell? _ _ hw264_5; first | rwa [add_block] at this | exact this) GW265.out) | (rw [add_block]; exact Nat.ne_of_lt (Nat.lt_of_lt_of_le (by have := World.block_lt_of_cell? _ _ hw264_5; first | rwa [add_block] at this | exact this) GW265.out)) | (show (Addr.add _ _).block ≠ _; rw [add_block]; exact Nat.ne_of_lt (Nat.lt_of_lt_of_le (by have := World.block_lt_of_cell? _ _ hw264_5; first | rwa [add_block] at this | exact this) GW265.out)) | (dsimp only; exact Nat.ne_of_lt (Nat.lt_of_lt_of_le (by have := World.block_lt_of_cell? _ _ hw264_5; first | rwa [add_block] at this | exact this) GW265.out))) _).trans (((cell_far (p := ⟨gb265, _, none⟩) (by first | exact Nat.ne_of_lt (Nat.lt_of_lt_of_le (by have := World.block_lt_of_cell? _ _ hw264_5; first | rwa [add_block] at this | exact this) GW265.out) | (rw [add_block]; exact Nat.ne_of_lt (Nat.lt_of_lt_of_le (by have := World.block_lt_of_cell? _ _ hw264_5; first | rwa [add_block] at this | exact this) GW265.out)) | (show (Addr.add _ _).block ≠ _; rw [add_block]; exact Nat.ne_of_lt (Nat.lt_of_lt_of_le (by have := World.block_lt_of_cell? _ _ hw264_5; first | rwa [add_block] at this | exact this) GW265.out)) | (dsimp only; exact Nat.ne_of_lt (Nat.lt_of_lt_of_le (by have := World.block_lt_of_cell? _ _ hw264_5; first | rwa [add_block] at this | exact this) GW265.out))) _).trans (((cell_far (p := ⟨gb265, _, none⟩) (by first | exact Nat.ne_of_lt (Nat.lt_of_lt_of_le (by have := World.block_lt_of_cell? _ _ hw264_5; first | rwa [add_block] at this | exact this) GW265.out) | (rw [add_block]; exact Nat.ne_of_lt (Nat.lt_of_lt_of_le (by have := World.block_lt_of_cell? _ _ hw264_5; first | rwa [add_block] at this | exact this) GW265.out)) | (show (Addr.add _ _).block ≠ _; rw [add_block]; exact Nat.ne_of_lt (Nat.lt_of_lt_of_le (by have := World.block_lt_of_cell? _ _ hw264_5; first | rwa [add_block] at this | exact this) GW265.out)) | (dsimp only; exact Nat.ne_of_lt (Nat.lt_of_lt_of_le (by have := World.block_lt_of_cell? _ _ hw264_5; first | rwa [add_block] at this | exact this) GW265.out))) _).trans (((cell_far (p := ⟨gb265, _, none⟩) (by first | exact Nat.ne_of_lt (Nat.lt_of_lt_of_le (by have := World.block_lt_of_cell? _ _ hw264_5; first | rwa [add_block] at this | exact this) GW265.out) | (rw [add_block]; exact Nat.ne_of_lt (Nat.lt_of_lt_of_le (by have := World.block_lt_of_cell? _ _ hw264_5; first | rwa [add_block] at this | exact this) GW265.out)) | (show (Addr.add _ _).block ≠ _; rw [add_block]; exact Nat.ne_of_lt (Nat.lt_of_lt_of_le (by have := World.block_lt_of_cell? _ _ hw264_5; first | rwa [add_block] at this | exact this) GW265.out)) | (dsimp only; exact Nat.ne_of_lt (Nat.lt_of_lt_of_le (by have := World.block_lt_of_cell? _ _ hw264_5; first | rwa [add_block] at this | exact this) GW265.out))) _).trans (((cell_far (p := ⟨gb265, _, none⟩) (by first | exact Nat.ne_of_lt (Nat.lt_of_lt_of_le (by have := World.block_lt_of_cell? _ _ hw264_5; first | rwa [add_block] at this | exact this) GW265.out) | (rw [add_block]; exact Nat.ne_of_lt (Nat.lt_of_lt_of_le (by have := World.block_lt_of_cell? _ _ hw264_5; first | rwa [add_block] at this | exact this) GW265.out)) | (show (Addr.add _ _).block ≠ _; rw [add_block]; exact Nat.ne_of_lt (Nat.lt_of_lt_of_le (by have := World.block_lt_of_cell? _ _ hw264_5; first | rwa [add_block] at this | exact this) GW265.out)) | (dsimp only; exact Nat.ne_of_lt (Nat.lt_of_lt_of_le (by have := World.block_lt_of_cell? _ _ hw264_5; first | rwa [add_block] at this | exact this) GW265.out))) _).trans (hHeld.2.2.2.2.2.2.2.2.2.2.2.1)))))))))))))), ((cell_far (p := ⟨gb265, _, none⟩) (by first | exact Nat.ne_of_lt (Nat.lt_of_lt_of_le (by have := World.block_lt_of_cell? _ _ hw264_6; first | rwa [add_block] at this | exact this) GW265.out) | (rw [add_block]; exact Nat.ne_of_lt (Nat.lt_of_lt_of_le (by have := World.block_lt_of_cell? _ _ hw264_6; first | rwa [add_block] at this | exact this) GW265.out)) | (show (Addr.add _ _).block ≠ _; rw [add_block]; exact Nat.ne_of_lt (Nat.lt_of_lt_of_le (by have := World.block_lt_of_cell? _ _ hw264_6; first | rwa [add_block] at this | exact this) GW265.out)) | (dsimp only; exact Nat.ne_of_lt (Nat.lt_of_lt_of_le (by have := World.block_lt_of_cell? _ _ hw264_6; first | rwa [add_block] at this | exact this) GW265.out))) _).trans (((cell_far (p := ⟨gb265, _, none⟩) (by first | exact Nat.ne_of_lt (Nat.lt_of_lt_of_le (by have := World.block_lt_of_cell? _ _ hw264_6; first | rwa [add_block] at this | exact this) GW265.out) | (rw [add_block]; exact Nat.ne_of_lt (Nat.lt_of_lt_of_le (by have := World.block_lt_of_cell? _ _ hw264_6; first | rwa [add_block] at this | exact this) GW265.out)) | (show (Addr.add _ _).block ≠ _; rw [add_block]; exact Nat.ne_of_lt (Nat.lt_of_lt_of_le (by have := World.block_lt_of_cell? _ _ hw264_6; first | rwa [add_block] at this | exact this) GW265.out)) | (dsimp only; exact Nat.ne_of_lt (Nat.lt_of_lt_of_le (by have := World.block_lt_of_cell? _ _ hw264_6; first | rwa [add_block] at this | exact this) GW265.out))) _).trans (((cell_far (p := ⟨gb265, _, none⟩) (by first | exact Nat.ne_of_lt (Nat.lt_of_lt_of_le (by have := World.block_lt_of_cell? _ _ hw264_6; first | rwa [add_block] at this | exact this) GW265.out) | (rw [add_block]; exact Nat.ne_of_lt (Nat.lt_of_lt_of_le (by have := World.block_lt_of_cell? _ _ hw264_6; first | rwa [add_block] at this | exact this) GW265.out)) | (show (Addr.add _ _).block ≠ _; rw [add_block]; exact Nat.ne_of_lt (Nat.lt_of_lt_of_le (by have := World.block_lt_of_cell? _ _ hw264_6; first | rwa [add_block] at this | exact this) GW265.out)) | (dsimp only; exact Nat.ne_of_lt (Nat.lt_of_lt_of_le (by have := World.block_lt_of_cell? _ _ hw264_6; first | rwa [add_block] at this | exact this) GW265.out))) _).trans (((cell_far (p := ⟨gb265, _, none⟩) (by first | exact Nat.ne_of_lt (Nat.lt_of_lt_of_le (by have := World.block_lt_of_cell? _ _ hw264_6; first | rwa [add_block] at this | exact this) GW265.out) | (rw [add_block]; exact Nat.ne_of_lt (Nat.lt_of_lt_of_le (by have := World.block_lt_of_cell? _ _ hw264_6; first | rwa [add_block] at this | exact this) GW265.out)) | (show (Addr.add _ _).block ≠ _; rw [add_block]; exact Nat.ne_of_lt (Nat.lt_of_lt_of_le (by have := World.block_lt_of_cell? _ _ hw264_6; first | rwa [add_block] at this | exact this) GW265.out)) | (dsimp only; exact Nat.ne_of_lt (Nat.lt_of_lt_of_le (by have := World.block_lt_of_cell? _ _ hw264_6; first | rwa [add_block] at this | exact this) GW265.out))) _).trans (((cell_far (p := ⟨gb265, _, none⟩) (by first | exact Nat.ne_of_lt (Nat.lt_of_lt_of_le (by have := World.block_lt_of_cell? _ _ hw264_6; first | rwa [add_block] at this | exact this) GW265.out) | (rw [add_block]; exact Nat.ne_of_lt (Nat.lt_of_lt_of_le (by have := World.block_lt_of_cell? _ _ hw264_6; first | rwa [add_block] at this | exact this) GW265.out)) | (show (Addr.add _ _).block ≠ _; rw [add_block]; exact Nat.ne_of_lt (Nat.lt_of_lt_of_le (by have := World.block_lt_of_cell? _ _ hw264_6; first | rwa [add_block] at this | exact this) GW265.out)) | (dsimp only; exact Nat.ne_of_lt (Nat.lt_of_lt_of_le (by have := World.block_lt_of_cell? _ _ hw264_6; first | rwa [add_block] at this | exact this) GW265.out))) _).trans (((cell_far (p := ⟨gb265, _, none⟩) (by first | exact Nat.ne_of_lt (Nat.lt_of_lt_of_le (by have := World.block_lt_of_cell? _ _ hw264_6; first | rwa [add_block] at this | exact this) GW265.out) | (rw [add_block]; exact Nat.ne_of_lt (Nat.lt_of_lt_of_le (by have := World.block_lt_of_cell? _ _ hw264_6; first | rwa [add_block] at this | exact this) GW265.out)) | (show (Addr.add _ _).block ≠ _; rw [add_block]; exact Nat.ne_of_lt (Nat.lt_of_lt_of_le (by have := World.block_lt_of_cell? _ _ hw264_6; first | rwa [add_block] at this | exact this) GW265.out)) | (dsimp only; exact Nat.ne_of_lt (Nat.lt_of_lt_of_le (by have := World.block_lt_of_cell? _ _ hw264_6; first | rwa [add_block] at this | exact this) GW265.out))) _).trans (((cell_far (p := ⟨gb265, _, none⟩) (by first | exact Nat.ne_of_lt (Nat.lt_of_lt_of_le (by have := World.block_lt_of_cell? _ _ hw264_6; first | rwa [add_block] at this | exact this) GW265.out) | (rw [add_block]; exact Nat.ne_of_lt (Nat.lt_of_lt_of_le (by have := World.block_lt_of_cell? _ _ hw264_6; first | rwa [add_block] at this | exact this) GW265.out)) | (show (Addr.add _ _).block ≠ _; rw [add_block]; exact Nat.ne_of_lt (Nat.lt_of_lt_of_le (by have := World.block_lt_of_cell? _ _ hw264_6; first | rwa [add_block] at this | exact this) GW265.out)) | (dsimp only; exact Nat.ne_of_lt (Nat.lt_of_lt_of_le (by have := World.block_lt_of_cell? _ _ hw264_6; first | rwa [add_block] at this | exact this) GW265.out))) _).trans (hHeld.2.2.2.2.2.2.2.2.2.2.2.2))))))))))))))⟩ (fun hHeld => ?_)
        clear hK K
        refine done_ (done_of HT_.out (by kernel_rfl)) ?_
        have hnb34 := NB265_255.out
        have hnc34 := NB255_265.out
        have hnb35 := NB265_256.out
        have hnc35 := NB256_265.out
        have hnb36 := NB265_261.out
        have hnc36 := NB261_265.out
        have hcz37_0 : w26.cell? ⟨gb265, 0, none⟩ = some (.int .i64 0) := (blk_cell BK265.out 0).trans rfl
        have hcz37_1 : w26.cell? ⟨gb265, 1, none⟩ = some (.int .i64 0) := (blk_cell BK265.out 1).trans rfl
        have hcz37_2 : w26.cell? ⟨gb265, 2, none⟩ = some (.int .i64 0) := (blk_cell BK265.out 2).trans rfl
        have hcz37_3 : w26.cell? ⟨gb265, 3, none⟩ = some (.int .i64 0) := (blk_cell BK265.out 3).trans rfl
        have hcz37_4 : w26.cell? ⟨gb265, 4, none⟩ = some (.int .i64 0) := (blk_cell BK265.out 4).trans rfl
        have hcz37_5 : w26.cell? ⟨gb265, 5, none⟩ = some (.string (⟨#[]⟩ : ByteArray)) := (blk_cell BK265.out 5).trans rfl
        have hcz37_6 : w26.cell? ⟨gb265, 6, none⟩ = some (.slice none 0 0) := (blk_cell BK265.out 6).trans rfl
        have hfz37_0 := blk_frozen BK265.out 0
        have hfz37_1 := blk_frozen BK265.out 1
        have hfz37_2 := blk_frozen BK265.out 2
        have hfz37_3 := blk_frozen BK265.out 3
        have hfz37_4 := blk_frozen BK265.out 4
        have hfz37_5 := blk_frozen BK265.out 5
        have hfz37_6 := blk_frozen BK265.out 6
        try go_wp2
        go_loopg [8, 9] k1 (fun kq v8 v9 w' => ∃ (x8_2 : List (S61)) (x9_2 : Int), v9 = .int .i64 x9_2 ∧ Aside0 (rehearsalref04_Canon.l1 kq t258 x6_1 x8_2 x9_2 l0_0 a0_1 a0_2 a0_3 x262000_1 (t258.length : Int) a0_2 a0_3 (wrap64 (x6_1 + 1)) ((rd_T44 l0_0 t263).f1) ((rd_T44 l0_0 t263).f2) ((rd_T44 l0_0 t263).f3) ((rd_T44 l0_0 t263).f4) ((rd_T44 l0_0 t263).f5) ((rd_T44 l0_0 t263).f6) = some (r1, r2, r3, r4, r5)) ∧ Aside0 (kq ≤ k1) ∧ Aside0 (Kd.R k87 87 w' w.heap.size (fun _ => True) (.slice (some ad262) t258.length co12) t258) ∧ Aside0 (Kd.R k61 61 w' w.heap.size (fun _ => True) v8 x8_2) ∧ Aside0 (Kd.S k44 44 w' w.heap.size (fun k_ => some k_ ≠ (v8 : Value).ownBlock ∧ k_ ≠ gb265) u262000 x262000_1) ∧ Aside0 (w'.heap[gb255]? = some (.cells #[(.slice (some ad264) l0_0.length c0_0), .int .i64 a0_1, .int .i64 a0_2, .int .i64 a0_3] 26 (0, 0))) ∧ Aside0 (w'.heap[gb256]? = some (.cells #[(.slice none 0 0), .int .i64 0, .int .i64 0, .int .i64 0] 26 (0, 0))) ∧ Aside0 (w'.heap[gb261]? = some (.cells #[u262000, .int .i64 (t258.length : Int), .int .i64 a0_2, .int .i64 a0_3] 26 (0, 0))) ∧ Aside0 (w'.heap[gb265]? = some (.cells #[.int .i64 (wrap64 (x6_1 + 1)), .int .i64 ((rd_T44 l0_0 t263).f1), .int .i64 ((rd_T44 l0_0 t263).f2), .int .i64 ((rd_T44 l0_0 t263).f3), .int .i64 ((rd_T44 l0_0 t263).f4), .string ((rd_T44 l0_0 t263).f5), (.slice A264_6 ((rd_T44 l0_0 t263).f6).length c264_6)] 44 (0, 0))) ∧ Aside0 (Below w.heap.size w w'))
        case atStart => exact ⟨(([] : List (S61))), (0), (by first | rfl | (simp; done) | (simp [*]; done)), H', ⟨Nat.le_refl _⟩, ⟨by (with_reducible repeat (first | apply Kd.R_alloc | apply Kd.R_drewN | apply Kd.R_drew)); exact Kd.R_mono (Kd.R_far (p := ⟨gb265, 0, none⟩) (Kd.R_far (p := ⟨gb265, 6, none⟩) (Kd.R_far (p := ⟨gb265, 5, none⟩) (Kd.R_far (p := ⟨gb265, 4, none⟩) (Kd.R_far (p := ⟨gb265, 3, none⟩) (Kd.R_far (p := ⟨gb265, 2, none⟩) (Kd.R_far (p := ⟨gb265, 1, none⟩) (Kd.R_far (p := ⟨gb265, 0, none⟩) (Kd.R_types HO_4.out BK265.out (by decide)) (fun _ hk => hk.2) (.int .i64 ((rd_T44 l0_0 t263).f0))) (fun _ hk => hk.2) (.int .i64 ((rd_T44 l0_0 t263).f1))) (fun _ hk => hk.2) (.int .i64 ((rd_T44 l0_0 t263).f2))) (fun _ hk => hk.2) (.int .i64 ((rd_T44 l0_0 t263).f3))) (fun _ hk => hk.2) (.int .i64 ((rd_T44 l0_0 t263).f4))) (fun _ hk => hk.2) (.string ((rd_T44 l0_0 t263).f5))) (fun _ hk => hk.2) (.slice A264_6 ((rd_T44 l0_0 t263).f6).length c264_6)) (fun _ hk => hk.2) (.int .i64 (wrap64 (x6_1 + 1)))) (fun _ hk => trivial)⟩, ⟨by first | exact Kd.R_nil _ _ _ _ _ | exact Kd.N_nil _ _ _ _ _ | exact Kd.V_nil _ _ _ _ _ | exact Kd.Q_nil _ _ _ _ _ | exact Kd.S_nil _ _ _ _ _⟩, ⟨by (with_reducible repeat (first | apply Kd.S_alloc | apply Kd.S_drewN | apply Kd.S_drew)); exact Kd.S_mono (Kd.S_far (p := ⟨gb265, 0, none⟩) (Kd.S_far (p := ⟨gb265, 6, none⟩) (Kd.S_far (p := ⟨gb265, 5, none⟩) (Kd.S_far (p := ⟨gb265, 4, none⟩) (Kd.S_far (p := ⟨gb265, 3, none⟩) (Kd.S_far (p := ⟨gb265, 2, none⟩) (Kd.S_far (p := ⟨gb265, 1, none⟩) (Kd.S_far (p := ⟨gb265, 0, none⟩) (Kd.S_mono HO_262000.out (fun k_ hk => (⟨hk, hk⟩ : _ ∧ k_ ≠ gb265))) (fun _ hk => hk.2) (.int .i64 ((rd_T44 l0_0 t263).f0))) (fun _ hk => hk.2) (.int .i64 ((rd_T44 l0_0 t263).f1))) (fun _ hk => hk.2) (.int .i64 ((rd_T44 l0_0 t263).f2))) (fun _ hk => hk.2) (.int .i64 ((rd_T44 l0_0 t263).f3))) (fun _ hk => hk.2) (.int .i64 ((rd_T44 l0_0 t263).f4))) (fun _ hk => hk.2) (.string ((rd_T44 l0_0 t263).f5))) (fun _ hk => hk.2) (.slice A264_6 ((rd_T44 l0_0 t263).f6).length c264_6)) (fun _ hk => hk.2) (.int .i64 (wrap64 (x6_1 + 1)))) (fun _ hk => ⟨(by simp [Value.ownBlock]), hk.1⟩)⟩, ⟨by (with_reducible repeat (first | refine blk_drewN ?_ _ | refine blk_drew ?_ | refine blk_alloc ?_ _)); refine blk_far ?_ NB255_265.out _; (with_reducible repeat (first | refine blk_drewN ?_ _ | refine blk_drew ?_ | refine blk_alloc ?_ _)); refine blk_far ?_ NB255_265.out _; (with_reducible repeat (first | refine blk_drewN ?_ _ | refine blk_drew ?_ | refine blk_alloc ?_ _)); refine blk_far ?_ NB255_265.out _; (with_reducible repeat (first | refine blk_drewN ?_ _ | refine blk_drew ?_ | refine blk_alloc ?_ _)); refine blk_far ?_ NB255_265.out _; (with_reducible repeat (first | refine blk_drewN ?_ _ | refine blk_drew ?_ | refine blk_alloc ?_ _)); refine blk_far ?_ NB255_265.out _; (with_reducible repeat (first | refine blk_drewN ?_ _ | refine blk_drew ?_ | refine blk_alloc ?_ _)); refine blk_far ?_ NB255_265.out _; (with_reducible repeat (first | refine blk_drewN ?_ _ | refine blk_drew ?_ | refine blk_alloc ?_ _)); refine blk_far ?_ NB255_265.out _; (with_reducible repeat (first | refine blk_drewN ?_ _ | refine blk_drew ?_ | refine blk_alloc ?_ _)); refine blk_far ?_ NB255_265.out _; (with_reducible repeat (first | refine blk_drewN ?_ _ | refine blk_drew ?_ | refine blk_alloc ?_ _)); exact BK255.out⟩, ⟨by (with_reducible repeat (first | refine blk_drewN ?_ _ | refine blk_drew ?_ | refine blk_alloc ?_ _)); refine blk_far ?_ NB256_265.out _; (with_reducible repeat (first | refine blk_drewN ?_ _ | refine blk_drew ?_ | refine blk_alloc ?_ _)); refine blk_far ?_ NB256_265.out _; (with_reducible repeat (first | refine blk_drewN ?_ _ | refine blk_drew ?_ | refine blk_alloc ?_ _)); refine blk_far ?_ NB256_265.out _; (with_reducible repeat (first | refine blk_drewN ?_ _ | refine blk_drew ?_ | refine blk_alloc ?_ _)); refine blk_far ?_ NB256_265.out _; (with_reducible repeat (first | refine blk_drewN ?_ _ | refine blk_drew ?_ | refine blk_alloc ?_ _)); refine blk_far ?_ NB256_265.out _; (with_reducible repeat (first | refine blk_drewN ?_ _ | refine blk_drew ?_ | refine blk_alloc ?_ _)); refine blk_far ?_ NB256_265.out _; (with_reducible repeat (first | refine blk_drewN ?_ _ | refine blk_drew ?_ | refine blk_alloc ?_ _)); refine blk_far ?_ NB256_265.out _; (with_reducible repeat (first | refine blk_drewN ?_ _ | refine blk_drew ?_ | refine blk_alloc ?_ _)); refine blk_far ?_ NB256_265.out _; (with_reducible repeat (first | refine blk_drewN ?_ _ | refine blk_drew ?_ | refine blk_alloc ?_ _)); exact BK256.out⟩, ⟨by (with_reducible repeat (first | refine blk_drewN ?_ _ | refine blk_drew ?_ | refine blk_alloc ?_ _)); refine blk_far ?_ NB261_265.out _; (with_reducible repeat (first | refine blk_drewN ?_ _ | refine blk_drew ?_ | refine blk_alloc ?_ _)); refine blk_far ?_ NB261_265.out _; (with_reducible repeat (first | refine blk_drewN ?_ _ | refine blk_drew ?_ | refine blk_alloc ?_ _)); refine blk_far ?_ NB261_265.out _; (with_reducible repeat (first | refine blk_drewN ?_ _ | refine blk_drew ?_ | refine blk_alloc ?_ _)); refine blk_far ?_ NB261_265.out _; (with_reducible repeat (first | refine blk_drewN ?_ _ | refine blk_drew ?_ | refine blk_alloc ?_ _)); refine blk_far ?_ NB261_265.out _; (with_reducible repeat (first | refine blk_drewN ?_ _ | refine blk_drew ?_ | refine blk_alloc ?_ _)); refine blk_far ?_ NB261_265.out _; (with_reducible repeat (first | refine blk_drewN ?_ _ | refine blk_drew ?_ | refine blk_alloc ?_ _)); refine blk_far ?_ NB261_265.out _; (with_reducible repeat (first | refine blk_drewN ?_ _ | refine blk_drew ?_ | refine blk_alloc ?_ _)); refine blk_far ?_ NB261_265.out _; (with_reducible repeat (first | refine blk_drewN ?_ _ | refine blk_drew ?_ | refine blk_alloc ?_ _)); exact BK261.out⟩, ⟨by (with_reducible repeat (first | refine blk_drewN ?_ _ | refine blk_drew ?_ | refine blk_alloc ?_ _)); refine blk_put (cs := #[.int .i64 ((rd_T44 l0_0 t263).f0), .int .i64 ((rd_T44 l0_0 t263).f1), .int .i64 ((rd_T44 l0_0 t263).f2), .int .i64 ((rd_T44 l0_0 t263).f3), .int .i64 ((rd_T44 l0_0 t263).f4), .string ((rd_T44 l0_0 t263).f5), .slice A264_6 ((rd_T44 l0_0 t263).f6).length c264_6]) ?_ 0 _ (by first | rfl | (simp only [w64_PTr25]; rfl) | (simp [w64_PTr25]; done)); (with_reducible repeat (first | refine blk_drewN ?_ _ | refine blk_drew ?_ | refine blk_alloc ?_ _)); refine blk_put (cs := #[.int .i64 ((rd_T44 l0_0 t263).f0), .int .i64 ((rd_T44 l0_0 t263).f1), .int .i64 ((rd_T44 l0_0 t263).f2), .int .i64 ((rd_T44 l0_0 t263).f3), .int .i64 ((rd_T44 l0_0 t263).f4), .string ((rd_T44 l0_0 t263).f5), .slice none 0 0]) ?_ 6 _ (by first | rfl | (simp only [w64_PTr25]; rfl) | (simp [w64_PTr25]; done)); (with_reducible repeat (first | refine blk_drewN ?_ _ | refine blk_drew ?_ | refine blk_alloc ?_ _)); refine blk_put (cs := #[.int .i64 ((rd_T44 l0_0 t263).f0), .int .i64 ((rd_T44 l0_0 t263).f1), .int .i64 ((rd_T44 l0_0 t263).f2), .int .i64 ((rd_T44 l0_0 t263).f3), .int .i64 ((rd_T44 l0_0 t263).f4), .string (⟨#[]⟩ : ByteArray), .slice none 0 0]) ?_ 5 _ (by first | rfl | (simp only [w64_PTr25]; rfl) | (simp [w64_PTr25]; done)); (with_reducible repeat (first | refine blk_drewN ?_ _ | refine blk_drew ?_ | refine blk_alloc ?_ _)); refine blk_put (cs := #[.int .i64 ((rd_T44 l0_0 t263).f0), .int .i64 ((rd_T44 l0_0 t263).f1), .int .i64 ((rd_T44 l0_0 t263).f2), .int .i64 ((rd_T44 l0_0 t263).f3), .int .i64 0, .string (⟨#[]⟩ : ByteArray), .slice none 0 0]) ?_ 4 _ (by first | rfl | (simp only [w64_PTr25]; rfl) | (simp [w64_PTr25]; done)); (with_reducible repeat (first | refine blk_drewN ?_ _ | refine blk_drew ?_ | refine blk_alloc ?_ _)); refine blk_put (cs := #[.int .i64 ((rd_T44 l0_0 t263).f0), .int .i64 ((rd_T44 l0_0 t263).f1), .int .i64 ((rd_T44 l0_0 t263).f2), .int .i64 0, .int .i64 0, .string (⟨#[]⟩ : ByteArray), .slice none 0 0]) ?_ 3 _ (by first | rfl | (simp only [w64_PTr25]; rfl) | (simp [w64_PTr25]; done)); (with_reducible repeat (first | refine blk_drewN ?_ _ | refine blk_drew ?_ | refine blk_alloc ?_ _)); refine blk_put (cs := #[.int .i64 ((rd_T44 l0_0 t263).f0), .int .i64 ((rd_T44 l0_0 t263).f1), .int .i64 0, .int .i64 0, .int .i64 0, .string (⟨#[]⟩ : ByteArray), .slice none 0 0]) ?_ 2 _ (by first | rfl | (simp only [w64_PTr25]; rfl) | (simp [w64_PTr25]; done)); (with_reducible repeat (first | refine blk_drewN ?_ _ | refine blk_drew ?_ | refine blk_alloc ?_ _)); refine blk_put (cs := #[.int .i64 ((rd_T44 l0_0 t263).f0), .int .i64 0, .int .i64 0, .int .i64 0, .int .i64 0, .string (⟨#[]⟩ : ByteArray), .slice none 0 0]) ?_ 1 _ (by first | rfl | (simp only [w64_PTr25]; rfl) | (simp [w64_PTr25]; done)); (with_reducible repeat (first | refine blk_drewN ?_ _ | refine blk_drew ?_ | refine blk_alloc ?_ _)); refine blk_put (cs := #[.int .i64 0, .int .i64 0, .int .i64 0, .int .i64 0, .int .i64 0, .string (⟨#[]⟩ : ByteArray), .slice none 0 0]) ?_ 0 _ (by first | rfl | (simp only [w64_PTr25]; rfl) | (simp [w64_PTr25]; done)); (with_reducible repeat (first | refine blk_drewN ?_ _ | refine blk_drew ?_ | refine blk_alloc ?_ _)); exact BK265.out⟩, ⟨by repeat (first | (with_reducible first | exact HB.out | apply below_alloc | apply pw_below_drewN | apply below_drew1 | refine below_set ?_ GE255.out | refine below_set ?_ GE256.out | refine below_set ?_ GE261.out | refine below_set ?_ GE265.out) | exact HB.out)⟩⟩
        case round =>
         clear H'
         try clear c1
         try clear c2
         try clear p2
         try clear q2
         try clear hx2
         try clear c3
         try clear c3b0
         try clear c3b1
         try clear c6
         try clear p6
         try clear c7
         try clear c15
         try clear c16
         try clear c18
         try clear c18b0
         try clear c19
         try clear c19b0
         try clear c21
         try clear c21b0
         try clear c22
         try clear c22b0
         try clear c25
         try clear c26
         try clear p26
         try clear q26
         try clear hx26
         try clear c34
         try clear c35
         try clear c36
         try clear hcz10_0
         try clear hcz10_1
         try clear hcz10_2
         try clear hcz10_3
         try clear hcz13_0
         try clear hcz13_1
         try clear hcz13_2
         try clear hcz13_3
         try clear hcz17_0
         try clear hcz17_1
         try clear hcz17_2
         try clear hcz17_3
         try clear hcz37_0
         try clear hcz37_1
         try clear hcz37_2
         try clear hcz37_3
         try clear hcz37_4
         try clear hcz37_5
         try clear hcz37_6
         try clear hcz8_0
         try clear hcz8_1
         try clear hcz8_2
         try clear hcz8_3
         try clear hfz10_0
         try clear hfz10_1
         try clear hfz10_2
         try clear hfz10_3
         try clear hfz13_0
         try clear hfz13_1
         try clear hfz13_2
         try clear hfz13_3
         try clear hfz17_0
         try clear hfz17_1
         try clear hfz17_2
         try clear hfz17_3
         try clear hfz37_0
         try clear hfz37_1
         try clear hfz37_2
         try clear hfz37_3
         try clear hfz37_4
         try clear hfz37_5
         try clear hfz37_6
         try clear hfz8_0
         try clear hfz8_1
         try clear hfz8_2
         try clear hfz8_3
         try clear hx262_0
         try clear hx262_1
         try clear hx264_0
         try clear hx264_1
         try clear hx264_2
         try clear hx264_3
         try clear hx264_4
         try clear hx264_5
         try clear hx264_6
         try clear p2
         try clear p262
         try clear p264
         try clear q262
         try clear q264
         obtain ⟨x8_2, x9_2, rfl, HA, HK2, HO_4, HO_8, HO_262000, BK255, BK256, BK261, BK265, HB⟩ := hrel
         cases gk with
         | zero => exact absurd HA.out (by simp [rehearsalref04_Canon.l1])
         | succ k2 =>
          have H := HA.out
          clear HA
          simp only [rehearsalref04_Canon.l1] at H
          by_cases c38 : x9_2 < (((rd_T44 l0_0 t263).f6).length : Int)
          ·
           rw [if_pos c38] at H
           have c38b0 : decide (x9_2 < (((rd_T44 l0_0 t263).f6).length : Int)) = true := decide_eq_true c38
           clear c38
           have H' := Aside0.mk H
           clear H
           have hnb39 := NB265_255.out
           have hnc39 := NB255_265.out
           have hnb40 := NB265_256.out
           have hnc40 := NB256_265.out
           have hnb41 := NB265_261.out
           have hnc41 := NB261_265.out
           have hcz42_0 : wr.cell? ⟨gb265, 0, none⟩ = some (.int .i64 (wrap64 (x6_1 + 1))) := (blk_cell BK265.out 0).trans rfl
           have hcz42_1 : wr.cell? ⟨gb265, 1, none⟩ = some (.int .i64 ((rd_T44 l0_0 t263).f1)) := (blk_cell BK265.out 1).trans rfl
           have hcz42_2 : wr.cell? ⟨gb265, 2, none⟩ = some (.int .i64 ((rd_T44 l0_0 t263).f2)) := (blk_cell BK265.out 2).trans rfl
           have hcz42_3 : wr.cell? ⟨gb265, 3, none⟩ = some (.int .i64 ((rd_T44 l0_0 t263).f3)) := (blk_cell BK265.out 3).trans rfl
           have hcz42_4 : wr.cell? ⟨gb265, 4, none⟩ = some (.int .i64 ((rd_T44 l0_0 t263).f4)) := (blk_cell BK265.out 4).trans rfl
           have hcz42_5 : wr.cell? ⟨gb265, 5, none⟩ = some (.string ((rd_T44 l0_0 t263).f5)) := (blk_cell BK265.out 5).trans rfl
           have hcz42_6 : wr.cell? ⟨gb265, 6, none⟩ = some (.slice A264_6 ((rd_T44 l0_0 t263).f6).length c264_6) := (blk_cell BK265.out 6).trans rfl
           have hfz42_0 := blk_frozen BK265.out 0
           have hfz42_1 := blk_frozen BK265.out 1
           have hfz42_2 := blk_frozen BK265.out 2
           have hfz42_3 := blk_frozen BK265.out 3
           have hfz42_4 := blk_frozen BK265.out 4
           have hfz42_5 := blk_frozen BK265.out 5
           have hfz42_6 := blk_frozen BK265.out 6
           go_wp2
           go_loopg [8, 10] k2 (fun kq v8 v10 w' => ∃ (x8_3 : List (S61)) (x10_3 : Int), v10 = .int .i64 x10_3 ∧ Aside0 (rehearsalref04_Canon.l2 kq t258 x6_1 x8_3 x9_2 x10_3 l0_0 a0_1 a0_2 a0_3 x262000_1 (t258.length : Int) a0_2 a0_3 (wrap64 (x6_1 + 1)) ((rd_T44 l0_0 t263).f1) ((rd_T44 l0_0 t263).f2) ((rd_T44 l0_0 t263).f3) ((rd_T44 l0_0 t263).f4) ((rd_T44 l0_0 t263).f5) ((rd_T44 l0_0 t263).f6) = some (r1, r2, r3, r4, r5)) ∧ Aside0 (kq ≤ k2) ∧ Aside0 (Kd.R k87 87 w' w.heap.size (fun _ => True) (.slice (some ad262) t258.length co12) t258) ∧ Aside0 (Kd.R k61 61 w' w.heap.size (fun _ => True) v8 x8_3) ∧ Aside0 (Kd.S k44 44 w' w.heap.size (fun k_ => some k_ ≠ (v8 : Value).ownBlock ∧ k_ ≠ gb265) u262000 x262000_1) ∧ Aside0 (w'.heap[gb255]? = some (.cells #[(.slice (some ad264) l0_0.length c0_0), .int .i64 a0_1, .int .i64 a0_2, .int .i64 a0_3] 26 (0, 0))) ∧ Aside0 (w'.heap[gb256]? = some (.cells #[(.slice none 0 0), .int .i64 0, .int .i64 0, .int .i64 0] 26 (0, 0))) ∧ Aside0 (w'.heap[gb261]? = some (.cells #[u262000, .int .i64 (t258.length : Int), .int .i64 a0_2, .int .i64 a0_3] 26 (0, 0))) ∧ Aside0 (w'.heap[gb265]? = some (.cells #[.int .i64 (wrap64 (x6_1 + 1)), .int .i64 ((rd_T44 l0_0 t263).f1), .int .i64 ((rd_T44 l0_0 t263).f2), .int .i64 ((rd_T44 l0_0 t263).f3), .int .i64 ((rd_T44 l0_0 t263).f4), .string ((rd_T44 l0_0 t263).f5), (.slice A264_6 ((rd_T44 l0_0 t263).f6).length c264_6)] 44 (0, 0))) ∧ Aside0 (Below w.heap.size w w'))
           case atStart => exact ⟨(x8_2), (0), (by first | rfl | (simp; done) | (simp [*]; done)), H', ⟨Nat.le_refl _⟩, ⟨by (with_reducible repeat (first | apply Kd.R_alloc | apply Kd.R_drewN | apply Kd.R_drew)); (first | exact HO_4.out | exact Kd.R_mono HO_4.out (fun _ hk e => hk (e.trans (ob_len_PTr25 _ _ _ _ _))))⟩, ⟨by (with_reducible repeat (first | apply Kd.R_alloc | apply Kd.R_drewN | apply Kd.R_drew)); (first | exact HO_8.out | exact Kd.R_mono HO_8.out (fun _ hk e => hk (e.trans (ob_len_PTr25 _ _ _ _ _))))⟩, ⟨by (with_reducible repeat (first | apply Kd.S_alloc | apply Kd.S_drewN | apply Kd.S_drew)); (first | exact HO_262000.out | exact Kd.R_mono HO_262000.out (fun _ hk e => hk (e.trans (ob_len_PTr25 _ _ _ _ _))))⟩, ⟨by (with_reducible repeat (first | refine blk_drewN ?_ _ | refine blk_drew ?_ | refine blk_alloc ?_ _)); exact BK255.out⟩, ⟨by (with_reducible repeat (first | refine blk_drewN ?_ _ | refine blk_drew ?_ | refine blk_alloc ?_ _)); exact BK256.out⟩, ⟨by (with_reducible repeat (first | refine blk_drewN ?_ _ | refine blk_drew ?_ | refine blk_alloc ?_ _)); exact BK261.out⟩, ⟨by (with_reducible repeat (first | refine blk_drewN ?_ _ | refine blk_drew ?_ | refine blk_alloc ?_ _)); exact BK265.out⟩, ⟨by repeat (first | (with_reducible first | exact HB.out | apply below_alloc | apply pw_below_drewN | apply below_drew1 | refine below_set ?_ GE255.out | refine below_set ?_ GE256.out | refine below_set ?_ GE261.out | refine below_set ?_ GE265.out) | exact HB.out)⟩⟩
           case round =>
            clear H'
            try clear c1
            try clear c2
            try clear p2
            try clear q2
            try clear hx2
            try clear c3
            try clear c3b0
            try clear c3b1
            try clear c4
            try clear c6
            try clear p6
            try clear c7
            try clear c15
            try clear c16
            try clear c18
            try clear c18b0
            try clear c19
            try clear c19b0
            try clear c21
            try clear c21b0
            try clear c22
            try clear c22b0
            try clear c25
            try clear c26
            try clear p26
            try clear q26
            try clear hx26
            try clear c34
            try clear c35
            try clear c36
            try clear c38
            try clear c38b0
            try clear c39
            try clear c40
            try clear c41
            try clear hcz10_0
            try clear hcz10_1
            try clear hcz10_2
            try clear hcz10_3
            try clear hcz13_0
            try clear hcz13_1
            try clear hcz13_2
            try clear hcz13_3
            try clear hcz17_0
            try clear hcz17_1
            try clear hcz17_2
            try clear hcz17_3
            try clear hcz37_0
            try clear hcz37_1
            try clear hcz37_2
            try clear hcz37_3
            try clear hcz37_4
            try clear hcz37_5
            try clear hcz37_6
            try clear hcz42_0
            try clear hcz42_1
            try clear hcz42_2
            try clear hcz42_3
            try clear hcz42_4
            try clear hcz42_5
            try clear hcz42_6
            try clear hcz8_0
            try clear hcz8_1
            try clear hcz8_2
            try clear hcz8_3
            try clear hfz10_0
            try clear hfz10_1
            try clear hfz10_2
            try clear hfz10_3
            try clear hfz13_0
            try clear hfz13_1
            try clear hfz13_2
            try clear hfz13_3
            try clear hfz17_0
            try clear hfz17_1
            try clear hfz17_2
            try clear hfz17_3
            try clear hfz37_0
            try clear hfz37_1
            try clear hfz37_2
            try clear hfz37_3
            try clear hfz37_4
            try clear hfz37_5
            try clear hfz37_6
            try clear hfz42_0
            try clear hfz42_1
            try clear hfz42_2
            try clear hfz42_3
            try clear hfz42_4
            try clear hfz42_5
            try clear hfz42_6
            try clear hfz8_0
            try clear hfz8_1
            try clear hfz8_2
            try clear hfz8_3
            try clear hx262_0
            try clear hx262_1
            try clear hx264_0
            try clear hx264_1
            try clear hx264_2
            try clear hx264_3
            try clear hx264_4
            try clear hx264_5
            try clear hx264_6
            try clear p2
            try clear p26
            try clear p262
            try clear p264
            try clear p6
            try clear q2
            try clear q26
            try clear q262
            try clear q264
            obtain ⟨x8_3, x10_3, rfl, HA, HK3, HO_4, HO_8, HO_262000, BK255, BK256, BK261, BK265, HB⟩ := hrel
            cases gk with
            | zero => exact absurd HA.out (by simp [rehearsalref04_Canon.l2])
            | succ k3 =>
             have H := HA.out
             clear HA
             simp only [rehearsalref04_Canon.l2] at H
             by_cases c43 : x10_3 < (t258.length : Int)
             ·
              rw [if_pos c43] at H
              have c43b0 : decide (x10_3 < (t258.length : Int)) = true := decide_eq_true c43
              clear c43
              by_cases c44 : 0 ≤ x10_3
              ·
               rw [if_pos c44] at H
               have c44b0 : decide (0 ≤ x10_3) = true := decide_eq_true c44
               clear c44
               by_cases c45 : 0 ≤ x9_2
               ·
                rw [if_pos c45] at H
                have c45b0 : decide (0 ≤ x9_2) = true := decide_eq_true c45
                clear c45
                by_cases c46 : x9_2 < (((rd_T44 l0_0 t263).f6).length : Int)
                ·
                 rw [if_pos c46] at H
                 have c46b0 : decide (x9_2 < (((rd_T44 l0_0 t263).f6).length : Int)) = true := decide_eq_true c46
                 clear c46
                 by_cases c47 : ((rd_T87 t258 x10_3).f0) = ((rd_T61 ((rd_T44 l0_0 t263).f6) x9_2).f1)
                 ·
                  rw [if_pos c47] at H
                  have c47b0 : (((rd_T87 t258 x10_3).f0) == ((rd_T61 ((rd_T44 l0_0 t263).f6) x9_2).f1)) = true := beq_iff_eq.mpr c47
                  have c47b1 : (((rd_T87 t258 x10_3).f0) != ((rd_T61 ((rd_T44 l0_0 t263).f6) x9_2).f1)) = false := bne_eq_false_iff_eq.mpr c47
                  clear c47
                  by_cases c48 : x8_3.length < 5864062014805
                  ·
                   rw [if_pos c48] at H
                   have LMc48 := Aside0.mk c48
                   clear c48
                   obtain ⟨y272, hy272⟩ : ∃ y_ : List (S61), y_ = (x8_3 ++ [(⟨(rd_T61 ((rd_T44 l0_0 t263).f6) x9_2).f0, wrap64 (x10_3 + 1)⟩ : S61)]) := ⟨_, rfl⟩
                   replace H : (rehearsalref04_Canon.l2 k3 t258 x6_1 y272 x9_2 (wrap64 (x10_3 + 1)) l0_0 a0_1 a0_2 a0_3 x262000_1 (t258.length : Int) a0_2 a0_3 (wrap64 (x6_1 + 1)) ((rd_T44 l0_0 t263).f1) ((rd_T44 l0_0 t263).f2) ((rd_T44 l0_0 t263).f3) ((rd_T44 l0_0 t263).f4) ((rd_T44 l0_0 t263).f5) ((rd_T44 l0_0 t263).f6)) = some (r1, r2, r3, r4, r5) := by first | (rw [hy272]; with_reducible exact H) | (have H2_ := (Option.bind_some _ _).symm.trans H; rw [hy272]; with_reducible exact H2_) | (have H2_ := (Option.bind_some _ _).symm.trans H; with_reducible exact H2_) | with_reducible exact H | (rw [hy272]; exact H) | exact H
                   have Ny272 := Aside0.mk hy272
                   clear hy272
                   have H' := Aside0.mk H
                   clear H
                   try go_wp2
                   have n0_ := Aside0.mk (Kd.R_drew HO_4.out)
                   have n1_ := Aside0.mk (Kd.R_drew HO_8.out)
                   have n2_ := Aside0.mk (Kd.S_drew HO_262000.out)
                   have n3_ := Aside0.mk (blk_drew BK255.out)
                   have n4_ := Aside0.mk (blk_drew BK256.out)
                   have n5_ := Aside0.mk (blk_drew BK261.out)
                   have n6_ := Aside0.mk (blk_drew BK265.out)
                   have n7_ := Aside0.mk (below_drew1 HB.out)
                   clear HO_4
                   clear HO_8
                   clear HO_262000
                   clear BK255
                   clear BK256
                   clear BK261
                   clear BK265
                   clear HB
                   have HO_4 := n0_
                   have HO_8 := n1_
                   have HO_262000 := n2_
                   have BK255 := n3_
                   have BK256 := n4_
                   have BK261 := n5_
                   have BK265 := n6_
                   have HB := n7_
                   clear n0_ n1_ n2_ n3_ n4_ n5_ n6_ n7_
                   have p269 : 0 ≤ (x10_3 : Int) := of_decide_eq_true (by first | (with_reducible assumption) | assumption)
                   have q269 : x10_3 < (t258.length : Int) := of_decide_eq_true (by first | (with_reducible assumption) | assumption)
                   obtain ⟨ad269, e269, hx269_0, hx269_1⟩ := at_T87 (Kd.R_reads' HO_4.out).2.2 x10_3 p269 q269
                   obtain rfl : ad262 = ad269 := (by injection e269)
                   replace p269 := eq_true p269
                   replace q269 := eq_true q269
                   have p270 : 0 ≤ (x9_2 : Int) := of_decide_eq_true (by first | (with_reducible assumption) | assumption)
                   have q270 : x9_2 < (((rd_T44 l0_0 t263).f6).length : Int) := of_decide_eq_true (by first | (with_reducible assumption) | assumption)
                   obtain ⟨ad270, e270, hx270_0, hx270_1⟩ := at_T61 HR264_6.out x9_2 p270 q270
                   have hw270_1 := hx270_1
                   have hw270_0 := hx270_0
                   cases e270
                   replace hx270_0 := (HB.out.cell (World.block_lt_of_cell? w _ hx270_0)).trans hx270_0
                   replace hx270_1 := (HB.out.cell (World.block_lt_of_cell? w _ hx270_1)).trans hx270_1
                   replace p270 := eq_true p270
                   replace q270 := eq_true q270
                   refine start_ (n := 12) (S := fun w' => w'.cell? ⟨gb265, 0, none⟩ = some (.int .i64 (wrap64 (x6_1 + 1))) ∧ w'.cell? ⟨gb265, 1, none⟩ = some (.int .i64 ((rd_T44 l0_0 t263).f1)) ∧ w'.cell? ⟨gb265, 2, none⟩ = some (.int .i64 ((rd_T44 l0_0 t263).f2)) ∧ w'.cell? ⟨gb265, 3, none⟩ = some (.int .i64 ((rd_T44 l0_0 t263).f3)) ∧ w'.cell? ⟨gb265, 4, none⟩ = some (.int .i64 ((rd_T44 l0_0 t263).f4)) ∧ w'.cell? ⟨gb265, 5, none⟩ = some (.string ((rd_T44 l0_0 t263).f5)) ∧ w'.cell? ⟨gb265, 6, none⟩ = some (.slice (some ad270) ((rd_T44 l0_0 t263).f6).length c264_6) ∧ w'.cell? (ad262.add ((x10_3).toNat * 2)) = some (.int .i64 ((rd_T87 t258 x10_3).f0)) ∧ w'.cell? ⟨(ad262.add ((x10_3).toNat * 2)).block, (ad262.add ((x10_3).toNat * 2)).off + 1, none⟩ = some (.string ((rd_T87 t258 x10_3).f1)) ∧ w'.cell? (ad270.add ((x9_2).toNat * 2)) = some (.string ((rd_T61 ((rd_T44 l0_0 t263).f6) x9_2).f0)) ∧ w'.cell? ⟨(ad270.add ((x9_2).toNat * 2)).block, (ad270.add ((x9_2).toNat * 2)).off + 1, none⟩ = some (.int .i64 ((rd_T61 ((rd_T44 l0_0 t263).f6) x9_2).f1))) (ds := []) #[false, false, false, false, false, false, false, false, false, false, false, false] (by kernel_rfl) rfl rfl ⟨(blk_cell BK265.out 0).trans rfl, (blk_cell BK265.out 1).trans rfl, (blk_cell BK265.out 2).trans rfl, (blk_cell BK265.out 3).trans rfl, (blk_cell BK265.out 4).trans rfl, (blk_cell BK265.out 5).trans rfl, (blk_cell BK265.out 6).trans rfl, hx269_0, hx269_1, ((HB.out.cell (World.block_lt_of_cell? w _ hw270_0)).trans hw270_0), ((HB.out.cell (World.block_lt_of_cell? w _ hw270_1)).trans hw270_1)⟩ (fun hHeld => ?_); refine with_tabW rehearsalref04_Canon.tab17 rehearsalref04_Canon.bits17 (fun HT_ HW_ => ?_)
                   generalize wr.drew = w49 at HO_4 HO_8 HO_262000 BK255 BK256 BK261 BK265 HB hx269_0 hx269_1 hx270_0 hx270_1 hHeld ⊢
                   iterate 5 (((first | refine takeS_ 0 (N := some 55) (v := ?_) (a' := ?_) rfl rfl (by decide +kernel) (fun _ _ _ h => h) (Or.inl ⟨by rfl, ?_⟩) hHeld ?_ ?_ | refine takeS_ 1 (N := some 56) (v := ?_) (a' := ?_) rfl rfl (by decide +kernel) (fun _ _ _ h => h) (Or.inl ⟨by rfl, ?_⟩) hHeld ?_ ?_ | refine takeS_ 2 (N := some 57) (v := ?_) (a' := ?_) rfl rfl (by decide +kernel) (fun _ _ _ h => h) (Or.inl ⟨by rfl, ?_⟩) hHeld ?_ ?_ | refine takeS_ 3 (N := some 58) (v := ?_) (a' := ?_) rfl rfl (by decide +kernel) (fun _ _ _ h => h) (Or.inl ⟨by rfl, ?_⟩) hHeld ?_ ?_ | refine takeS_ 5 (N := some 60) (v := ?_) (a' := ?_) rfl rfl (by decide +kernel) (fun _ _ _ h => h) (Or.inl ⟨by rfl, ?_⟩) hHeld ?_ ?_); rotate_left; (rintro w' ⟨s0, s1, s2, s3, s4, s5, s6, s7, s8, s9, s10⟩; go_simp; first | done | (with_reducible rfl) | rfl); rotate_left; (simp only [Act.put, List.setIfInBounds_toArray, List.set_cons_zero, List.set_cons_succ, i64_w, i32_w]; rfl)))
                   iterate 5 (((first | refine takeS_ 7 (N := some 62) (v := ?_) (a' := ?_) rfl rfl (by decide +kernel) (fun _ _ _ h => h) (Or.inl ⟨by rfl, ?_⟩) hHeld ?_ ?_ | refine takeS_ 4 (N := some 59) (v := ?_) (a' := ?_) rfl rfl (by decide +kernel) (fun _ _ _ h => h) (Or.inl ⟨by rfl, ?_⟩) hHeld ?_ ?_ | refine takeS_ 6 (N := some 61) (v := ?_) (a' := ?_) rfl rfl (by decide +kernel) (fun _ _ _ h => h) (Or.inl ⟨by rfl, ?_⟩) hHeld ?_ ?_ | refine takeS_ 8 (N := some 63) (v := ?_) (a' := ?_) rfl rfl (by decide +kernel) (fun _ _ _ h => h) (Or.inl ⟨by rfl, ?_⟩) hHeld ?_ ?_ | refine takeS_ 9 (N := some 64) (v := ?_) (a' := ?_) rfl rfl (by decide +kernel) (fun _ _ _ h => h) (Or.inl ⟨by rfl, ?_⟩) hHeld ?_ ?_); rotate_left; (rintro w' ⟨s0, s1, s2, s3, s4, s5, s6, s7, s8, s9, s10⟩; go_simp; first | done | (with_reducible rfl) | rfl); rotate_left; (simp only [Act.put, List.setIfInBounds_toArray, List.set_cons_zero, List.set_cons_succ, i64_w, i32_w]; rfl)))
                   iterate 2 (((first | refine takeS_ 10 (N := some 65) (v := ?_) (a' := ?_) rfl rfl (by decide +kernel) (fun _ _ _ h => h) (Or.inl ⟨by rfl, ?_⟩) hHeld ?_ ?_ | refine takeS_ 11 (N := some 66) (v := ?_) (a' := ?_) rfl rfl (by decide +kernel) (fun _ _ _ h => h) (Or.inl ⟨by rfl, ?_⟩) hHeld ?_ ?_); rotate_left; (rintro w' ⟨s0, s1, s2, s3, s4, s5, s6, s7, s8, s9, s10⟩; go_simp; first | done | (with_reducible rfl) | rfl); rotate_left; (simp only [Act.put, List.setIfInBounds_toArray, List.set_cons_zero, List.set_cons_succ, i64_w, i32_w]; rfl)))
                   refine done_ (done_of HT_.out (by kernel_rfl)) ?_
                   have hnb50 := NB265_255.out
                   have hnc50 := NB255_265.out
                   have hnb51 := NB265_256.out
                   have hnc51 := NB256_265.out
                   have hnb52 := NB265_261.out
                   have hnc52 := NB261_265.out
                   have hcz53_0 : w49.cell? ⟨gb265, 0, none⟩ = some (.int .i64 (wrap64 (x6_1 + 1))) := (blk_cell BK265.out 0).trans rfl
                   have hcz53_1 : w49.cell? ⟨gb265, 1, none⟩ = some (.int .i64 ((rd_T44 l0_0 t263).f1)) := (blk_cell BK265.out 1).trans rfl
                   have hcz53_2 : w49.cell? ⟨gb265, 2, none⟩ = some (.int .i64 ((rd_T44 l0_0 t263).f2)) := (blk_cell BK265.out 2).trans rfl
                   have hcz53_3 : w49.cell? ⟨gb265, 3, none⟩ = some (.int .i64 ((rd_T44 l0_0 t263).f3)) := (blk_cell BK265.out 3).trans rfl
                   have hcz53_4 : w49.cell? ⟨gb265, 4, none⟩ = some (.int .i64 ((rd_T44 l0_0 t263).f4)) := (blk_cell BK265.out 4).trans rfl
                   have hcz53_5 : w49.cell? ⟨gb265, 5, none⟩ = some (.string ((rd_T44 l0_0 t263).f5)) := (blk_cell BK265.out 5).trans rfl
                   have hcz53_6 : w49.cell? ⟨gb265, 6, none⟩ = some (.slice (some ad270) ((rd_T44 l0_0 t263).f6).length c264_6) := (blk_cell BK265.out 6).trans rfl
                   have hfz53_0 := blk_frozen BK265.out 0
                   have hfz53_1 := blk_frozen BK265.out 1
                   have hfz53_2 := blk_frozen BK265.out 2
                   have hfz53_3 := blk_frozen BK265.out 3
                   have hfz53_4 := blk_frozen BK265.out 4
                   have hfz53_5 := blk_frozen BK265.out 5
                   have hfz53_6 := blk_frozen BK265.out 6
                   have p271 : 0 ≤ (x9_2 : Int) := of_decide_eq_true (by first | (with_reducible assumption) | assumption)
                   have q271 : x9_2 < (((rd_T44 l0_0 t263).f6).length : Int) := of_decide_eq_true (by first | (with_reducible assumption) | assumption)
                   obtain ⟨ad271, e271, hx271_0, hx271_1⟩ := at_T61 HR264_6.out x9_2 p271 q271
                   obtain rfl : ad270 = ad271 := (by injection e271)
                   replace hx271_0 := (HB.out.cell (World.block_lt_of_cell? w _ hx271_0)).trans hx271_0
                   replace hx271_1 := (HB.out.cell (World.block_lt_of_cell? w _ hx271_1)).trans hx271_1
                   replace p271 := eq_true p271
                   replace q271 := eq_true q271
                   try go_wp2_with (first | ((with_reducible refine gate_builtin (b := .append) (xs := #[.tmp 67, .tmp 77]) rfl ?_); at_builtin; refine Kd.R_append k61 (w0 := w) w.heap.size rfl (.tmp 67) (.tmp 77) 42 61 (.agg #[(.string ⟨#[]⟩), (.int .i64 0)]) 24 rfl Tryd.underlying42 info61 rfl (by decide) (by omega) u8 x8_3 (⟨(rd_T61 ((rd_T44 l0_0 t263).f6) x9_2).f0, wrap64 (x10_3 + 1)⟩ : S61) [.string ((rd_T61 ((rd_T44 l0_0 t263).f6) x9_2).f0), .int .i64 (wrap64 (x10_3 + 1))] (fun _ => True) (fun _ => False) rfl rfl ?aP (fun _ hk => hk.elim) ?aF ?aO ?aB ?aS ?aL ?_; (case aP => exact k61_mkM _ _ _ (⟨(rd_T61 ((rd_T44 l0_0 t263).f6) x9_2).f0, wrap64 (x10_3 + 1)⟩ : S61)); (case aB => exact (by repeat (first | (with_reducible first | exact HB.out | apply below_alloc | apply pw_below_drewN | apply below_drew1 | refine below_set ?_ GE255.out | refine below_set ?_ GE256.out | refine below_set ?_ GE261.out | refine below_set ?_ GE265.out) | exact HB.out))); (case aF => exact (fun _ _ => trivial)); (case aO => exact (by (with_reducible repeat (first | apply Kd.R_alloc | apply Kd.R_drewN | apply Kd.R_drew)); exact HO_8.out)); (case aS => exact (below_size (by repeat (first | (with_reducible first | exact HB.out | apply below_alloc | apply pw_below_drewN | apply below_drew1 | refine below_set ?_ GE255.out | refine below_set ?_ GE256.out | refine below_set ?_ GE261.out | refine below_set ?_ GE265.out) | exact HB.out)))); (case aL => have := LMc48.out; omega); intro v273 w54 ho hb hg hat; rw [← Ny272.out] at ho; have n0_ := Aside0.mk (Kd.R_over' (by (with_reducible repeat (first | apply Kd.R_alloc | apply Kd.R_drewN | apply Kd.R_drew)); exact HO_4.out) (Kd.R_typed (by (with_reducible repeat (first | apply Kd.R_alloc | apply Kd.R_drewN | apply Kd.R_drew)); exact HO_8.out)) (by decide) hg); have n1_ := Aside0.mk (Kd.S_after (ok := (fun k_ => k_ ≠ gb265)) (by (with_reducible repeat (first | apply Kd.S_alloc | apply Kd.S_drewN | apply Kd.S_drew)); exact Kd.S_mono HO_262000.out (fun _ hk => ⟨hk.2, hk.1⟩)) hg hat); have n2_ := Aside0.mk (blk_grown (g := gb255) (o := .cells #[.slice (some ad264) l0_0.length c0_0, .int .i64 a0_1, .int .i64 a0_2, .int .i64 a0_3] 26 (0, 0)) (by (with_reducible repeat (first | refine blk_drewN ?_ _ | refine blk_drew ?_ | refine blk_alloc ?_ _)); exact BK255.out) hg (Kd.R_ne HO_8.out BK255.out (by decide))); have n3_ := Aside0.mk (blk_grown (g := gb256) (o := .cells #[.slice none 0 0, .int .i64 0, .int .i64 0, .int .i64 0] 26 (0, 0)) (by (with_reducible repeat (first | refine blk_drewN ?_ _ | refine blk_drew ?_ | refine blk_alloc ?_ _)); exact BK256.out) hg (Kd.R_ne HO_8.out BK256.out (by decide))); have n4_ := Aside0.mk (blk_grown (g := gb261) (o := .cells #[u262000, .int .i64 (t258.length : Int), .int .i64 a0_2, .int .i64 a0_3] 26 (0, 0)) (by (with_reducible repeat (first | refine blk_drewN ?_ _ | refine blk_drew ?_ | refine blk_alloc ?_ _)); exact BK261.out) hg (Kd.R_ne HO_8.out BK261.out (by decide))); have n5_ := Aside0.mk (blk_grown (g := gb265) (o := .cells #[.int .i64 (wrap64 (x6_1 + 1)), .int .i64 ((rd_T44 l0_0 t263).f1), .int .i64 ((rd_T44 l0_0 t263).f2), .int .i64 ((rd_T44 l0_0 t263).f3), .int .i64 ((rd_T44 l0_0 t263).f4), .string ((rd_T44 l0_0 t263).f5), .slice (some ad270) ((rd_T44 l0_0 t263).f6).length c264_6] 44 (0, 0)) (by (with_reducible repeat (first | refine blk_drewN ?_ _ | refine blk_drew ?_ | refine blk_alloc ?_ _)); exact BK265.out) hg (Kd.R_ne HO_8.out BK265.out (by decide))); have n6_ := Aside0.mk (hb); have n7_ := Aside0.mk (ho); clear HO_4; clear HO_262000; clear BK255; clear BK256; clear BK261; clear BK265; clear HB; clear HO_8; have HO_4 := n0_; have HO_262000 := n1_; have BK255 := n2_; have BK256 := n3_; have BK261 := n4_; have BK265 := n5_; have HB := n6_; have HO274 := n7_; clear n0_ n1_ n2_ n3_ n4_ n5_ n6_ n7_; clear ho hb hg hat))
                   go_roundg k3
                   case measure => have := HK1.out; have := HK2.out; have := HK3.out; omega
                   case rel => exact ⟨(y272), (wrap64 (x10_3 + 1)), (by first | rfl | (simp; done) | (simp [*]; done)), H', ⟨by have := HK1.out; have := HK2.out; have := HK3.out; omega⟩, ⟨by (with_reducible repeat (first | apply Kd.R_alloc | apply Kd.R_drewN | apply Kd.R_drew)); (first | exact HO_4.out | exact Kd.R_mono HO_4.out (fun _ hk e => hk (e.trans (ob_len_PTr25 _ _ _ _ _))))⟩, ⟨by (with_reducible repeat (first | apply Kd.R_alloc | apply Kd.R_drewN | apply Kd.R_drew)); exact HO274.out⟩, ⟨by (with_reducible repeat (first | apply Kd.S_alloc | apply Kd.S_drewN | apply Kd.S_drew)); exact Kd.S_mono HO_262000.out (fun _ hk => ⟨hk.2, hk.1⟩)⟩, ⟨by (with_reducible repeat (first | refine blk_drewN ?_ _ | refine blk_drew ?_ | refine blk_alloc ?_ _)); exact BK255.out⟩, ⟨by (with_reducible repeat (first | refine blk_drewN ?_ _ | refine blk_drew ?_ | refine blk_alloc ?_ _)); exact BK256.out⟩, ⟨by (with_reducible repeat (first | refine blk_drewN ?_ _ | refine blk_drew ?_ | refine blk_alloc ?_ _)); exact BK261.out⟩, ⟨by (with_reducible repeat (first | refine blk_drewN ?_ _ | refine blk_drew ?_ | refine blk_alloc ?_ _)); exact BK265.out⟩, ⟨by repeat (first | (with_reducible first | exact HB.out | apply below_alloc | apply pw_below_drewN | apply below_drew1 | refine below_set ?_ GE255.out | refine below_set ?_ GE256.out | refine below_set ?_ GE261.out | refine below_set ?_ GE265.out) | exact HB.out)⟩⟩
                  ·
                   rw [if_neg c48] at H
                   exact absurd H (by simp)
                 ·
                  rw [if_neg c47] at H
                  have c47b0 : (((rd_T87 t258 x10_3).f0) == ((rd_T61 ((rd_T44 l0_0 t263).f6) x9_2).f1)) = false := beq_eq_false_iff_ne.mpr c47
                  have c47b1 : (((rd_T87 t258 x10_3).f0) != ((rd_T61 ((rd_T44 l0_0 t263).f6) x9_2).f1)) = true := bne_iff_ne.mpr c47
                  have H' := Aside0.mk H
                  clear H
                  try go_wp2
                  have n0_ := Aside0.mk (Kd.R_drew HO_4.out)
                  have n1_ := Aside0.mk (Kd.R_drew HO_8.out)
                  have n2_ := Aside0.mk (Kd.S_drew HO_262000.out)
                  have n3_ := Aside0.mk (blk_drew BK255.out)
                  have n4_ := Aside0.mk (blk_drew BK256.out)
                  have n5_ := Aside0.mk (blk_drew BK261.out)
                  have n6_ := Aside0.mk (blk_drew BK265.out)
                  have n7_ := Aside0.mk (below_drew1 HB.out)
                  clear HO_4
                  clear HO_8
                  clear HO_262000
                  clear BK255
                  clear BK256
                  clear BK261
                  clear BK265
                  clear HB
                  have HO_4 := n0_
                  have HO_8 := n1_
                  have HO_262000 := n2_
                  have BK255 := n3_
                  have BK256 := n4_
                  have BK261 := n5_
                  have BK265 := n6_
                  have HB := n7_
                  clear n0_ n1_ n2_ n3_ n4_ n5_ n6_ n7_
                  have p269 : 0 ≤ (x10_3 : Int) := of_decide_eq_true (by first | (with_reducible assumption) | assumption)
                  have q269 : x10_3 < (t258.length : Int) := of_decide_eq_true (by first | (with_reducible assumption) | assumption)
                  obtain ⟨ad269, e269, hx269_0, hx269_1⟩ := at_T87 (Kd.R_reads' HO_4.out).2.2 x10_3 p269 q269
                  obtain rfl : ad262 = ad269 := (by injection e269)
                  replace p269 := eq_true p269
                  replace q269 := eq_true q269
                  have p270 : 0 ≤ (x9_2 : Int) := of_decide_eq_true (by first | (with_reducible assumption) | assumption)
                  have q270 : x9_2 < (((rd_T44 l0_0 t263).f6).length : Int) := of_decide_eq_true (by first | (with_reducible assumption) | assumption)
                  obtain ⟨ad270, e270, hx270_0, hx270_1⟩ := at_T61 HR264_6.out x9_2 p270 q270
                  have hw270_1 := hx270_1
                  have hw270_0 := hx270_0
                  cases e270
                  replace hx270_0 := (HB.out.cell (World.block_lt_of_cell? w _ hx270_0)).trans hx270_0
                  replace hx270_1 := (HB.out.cell (World.block_lt_of_cell? w _ hx270_1)).trans hx270_1
                  replace p270 := eq_true p270
                  replace q270 := eq_true q270
                  refine start_ (n := 12) (S := fun w' => w'.cell? ⟨gb265, 0, none⟩ = some (.int .i64 (wrap64 (x6_1 + 1))) ∧ w'.cell? ⟨gb265, 1, none⟩ = some (.int .i64 ((rd_T44 l0_0 t263).f1)) ∧ w'.cell? ⟨gb265, 2, none⟩ = some (.int .i64 ((rd_T44 l0_0 t263).f2)) ∧ w'.cell? ⟨gb265, 3, none⟩ = some (.int .i64 ((rd_T44 l0_0 t263).f3)) ∧ w'.cell? ⟨gb265, 4, none⟩ = some (.int .i64 ((rd_T44 l0_0 t263).f4)) ∧ w'.cell? ⟨gb265, 5, none⟩ = some (.string ((rd_T44 l0_0 t263).f5)) ∧ w'.cell? ⟨gb265, 6, none⟩ = some (.slice (some ad270) ((rd_T44 l0_0 t263).f6).length c264_6) ∧ w'.cell? (ad262.add ((x10_3).toNat * 2)) = some (.int .i64 ((rd_T87 t258 x10_3).f0)) ∧ w'.cell? ⟨(ad262.add ((x10_3).toNat * 2)).block, (ad262.add ((x10_3).toNat * 2)).off + 1, none⟩ = some (.string ((rd_T87 t258 x10_3).f1)) ∧ w'.cell? (ad270.add ((x9_2).toNat * 2)) = some (.string ((rd_T61 ((rd_T44 l0_0 t263).f6) x9_2).f0)) ∧ w'.cell? ⟨(ad270.add ((x9_2).toNat * 2)).block, (ad270.add ((x9_2).toNat * 2)).off + 1, none⟩ = some (.int .i64 ((rd_T61 ((rd_T44 l0_0 t263).f6) x9_2).f1))) (ds := []) #[false, false, false, false, false, false, false, false, false, false, false, false] (by kernel_rfl) rfl rfl ⟨(blk_cell BK265.out 0).trans rfl, (blk_cell BK265.out 1).trans rfl, (blk_cell BK265.out 2).trans rfl, (blk_cell BK265.out 3).trans rfl, (blk_cell BK265.out 4).trans rfl, (blk_cell BK265.out 5).trans rfl, (blk_cell BK265.out 6).trans rfl, hx269_0, hx269_1, ((HB.out.cell (World.block_lt_of_cell? w _ hw270_0)).trans hw270_0), ((HB.out.cell (World.block_lt_of_cell? w _ hw270_1)).trans hw270_1)⟩ (fun hHeld => ?_); refine with_tabW rehearsalref04_Canon.tab17 rehearsalref04_Canon.bits17 (fun HT_ HW_ => ?_)
                  generalize wr.drew = w55 at HO_4 HO_8 HO_262000 BK255 BK256 BK261 BK265 HB hx269_0 hx269_1 hx270_0 hx270_1 hHeld ⊢
                  iterate 5 (((first | refine takeS_ 0 (N := some 55) (v := ?_) (a' := ?_) rfl rfl (by decide +kernel) (fun _ _ _ h => h) (Or.inl ⟨by rfl, ?_⟩) hHeld ?_ ?_ | refine takeS_ 1 (N := some 56) (v := ?_) (a' := ?_) rfl rfl (by decide +kernel) (fun _ _ _ h => h) (Or.inl ⟨by rfl, ?_⟩) hHeld ?_ ?_ | refine takeS_ 2 (N := some 57) (v := ?_) (a' := ?_) rfl rfl (by decide +kernel) (fun _ _ _ h => h) (Or.inl ⟨by rfl, ?_⟩) hHeld ?_ ?_ | refine takeS_ 3 (N := some 58) (v := ?_) (a' := ?_) rfl rfl (by decide +kernel) (fun _ _ _ h => h) (Or.inl ⟨by rfl, ?_⟩) hHeld ?_ ?_ | refine takeS_ 5 (N := some 60) (v := ?_) (a' := ?_) rfl rfl (by decide +kernel) (fun _ _ _ h => h) (Or.inl ⟨by rfl, ?_⟩) hHeld ?_ ?_); rotate_left; (rintro w' ⟨s0, s1, s2, s3, s4, s5, s6, s7, s8, s9, s10⟩; go_simp; first | done | (with_reducible rfl) | rfl); rotate_left; (simp only [Act.put, List.setIfInBounds_toArray, List.set_cons_zero, List.set_cons_succ, i64_w, i32_w]; rfl)))
                  iterate 5 (((first | refine takeS_ 7 (N := some 62) (v := ?_) (a' := ?_) rfl rfl (by decide +kernel) (fun _ _ _ h => h) (Or.inl ⟨by rfl, ?_⟩) hHeld ?_ ?_ | refine takeS_ 4 (N := some 59) (v := ?_) (a' := ?_) rfl rfl (by decide +kernel) (fun _ _ _ h => h) (Or.inl ⟨by rfl, ?_⟩) hHeld ?_ ?_ | refine takeS_ 6 (N := some 61) (v := ?_) (a' := ?_) rfl rfl (by decide +kernel) (fun _ _ _ h => h) (Or.inl ⟨by rfl, ?_⟩) hHeld ?_ ?_ | refine takeS_ 8 (N := some 63) (v := ?_) (a' := ?_) rfl rfl (by decide +kernel) (fun _ _ _ h => h) (Or.inl ⟨by rfl, ?_⟩) hHeld ?_ ?_ | refine takeS_ 9 (N := some 64) (v := ?_) (a' := ?_) rfl rfl (by decide +kernel) (fun _ _ _ h => h) (Or.inl ⟨by rfl, ?_⟩) hHeld ?_ ?_); rotate_left; (rintro w' ⟨s0, s1, s2, s3, s4, s5, s6, s7, s8, s9, s10⟩; go_simp; first | done | (with_reducible rfl) | rfl); rotate_left; (simp only [Act.put, List.setIfInBounds_toArray, List.set_cons_zero, List.set_cons_succ, i64_w, i32_w]; rfl)))
                  iterate 2 (((first | refine takeS_ 10 (N := some 65) (v := ?_) (a' := ?_) rfl rfl (by decide +kernel) (fun _ _ _ h => h) (Or.inl ⟨by rfl, ?_⟩) hHeld ?_ ?_ | refine takeS_ 11 (N := some 66) (v := ?_) (a' := ?_) rfl rfl (by decide +kernel) (fun _ _ _ h => h) (Or.inl ⟨by rfl, ?_⟩) hHeld ?_ ?_); rotate_left; (rintro w' ⟨s0, s1, s2, s3, s4, s5, s6, s7, s8, s9, s10⟩; go_simp; first | done | (with_reducible rfl) | rfl); rotate_left; (simp only [Act.put, List.setIfInBounds_toArray, List.set_cons_zero, List.set_cons_succ, i64_w, i32_w]; rfl)))
                  refine done_ (done_of HT_.out (by kernel_rfl)) ?_
                  try go_wp2
                  go_roundg k3
                  case measure => have := HK1.out; have := HK2.out; have := HK3.out; omega
                  case rel => exact ⟨(x8_3), (wrap64 (x10_3 + 1)), (by first | rfl | (simp; done) | (simp [*]; done)), H', ⟨by have := HK1.out; have := HK2.out; have := HK3.out; omega⟩, ⟨by (with_reducible repeat (first | apply Kd.R_alloc | apply Kd.R_drewN | apply Kd.R_drew)); (first | exact HO_4.out | exact Kd.R_mono HO_4.out (fun _ hk e => hk (e.trans (ob_len_PTr25 _ _ _ _ _))))⟩, ⟨by (with_reducible repeat (first | apply Kd.R_alloc | apply Kd.R_drewN | apply Kd.R_drew)); (first | exact HO_8.out | exact Kd.R_mono HO_8.out (fun _ hk e => hk (e.trans (ob_len_PTr25 _ _ _ _ _))))⟩, ⟨by (with_reducible repeat (first | apply Kd.S_alloc | apply Kd.S_drewN | apply Kd.S_drew)); (first | exact HO_262000.out | exact Kd.R_mono HO_262000.out (fun _ hk e => hk (e.trans (ob_len_PTr25 _ _ _ _ _))))⟩, ⟨by (with_reducible repeat (first | refine blk_drewN ?_ _ | refine blk_drew ?_ | refine blk_alloc ?_ _)); exact BK255.out⟩, ⟨by (with_reducible repeat (first | refine blk_drewN ?_ _ | refine blk_drew ?_ | refine blk_alloc ?_ _)); exact BK256.out⟩, ⟨by (with_reducible repeat (first | refine blk_drewN ?_ _ | refine blk_drew ?_ | refine blk_alloc ?_ _)); exact BK261.out⟩, ⟨by (with_reducible repeat (first | refine blk_drewN ?_ _ | refine blk_drew ?_ | refine blk_alloc ?_ _)); exact BK265.out⟩, ⟨by repeat (first | (with_reducible first | exact HB.out | apply below_alloc | apply pw_below_drewN | apply below_drew1 | refine below_set ?_ GE255.out | refine below_set ?_ GE256.out | refine below_set ?_ GE261.out | refine below_set ?_ GE265.out) | exact HB.out)⟩⟩
                ·
                 rw [if_neg c46] at H
                 exact absurd H (by simp)
               ·
                rw [if_neg c45] at H
                exact absurd H (by simp)
              ·
               rw [if_neg c44] at H
               exact absurd H (by simp)
             ·
              rw [if_neg c43] at H
              have c43b0 : decide (x10_3 < (t258.length : Int)) = false := decide_eq_false c43
              clear c43
              have H' := Aside0.mk H
              clear H
              go_wp2
              go_roundg k3
              case measure => have := HK1.out; have := HK2.out; have := HK3.out; omega
              case rel => exact ⟨(x8_3), (wrap64 (x9_2 + 1)), (by first | rfl | (simp; done) | (simp [*]; done)), H', ⟨by have := HK1.out; have := HK2.out; have := HK3.out; omega⟩, ⟨by (with_reducible repeat (first | apply Kd.R_alloc | apply Kd.R_drewN | apply Kd.R_drew)); (first | exact HO_4.out | exact Kd.R_mono HO_4.out (fun _ hk e => hk (e.trans (ob_len_PTr25 _ _ _ _ _))))⟩, ⟨by (with_reducible repeat (first | apply Kd.R_alloc | apply Kd.R_drewN | apply Kd.R_drew)); (first | exact HO_8.out | exact Kd.R_mono HO_8.out (fun _ hk e => hk (e.trans (ob_len_PTr25 _ _ _ _ _))))⟩, ⟨by (with_reducible repeat (first | apply Kd.S_alloc | apply Kd.S_drewN | apply Kd.S_drew)); (first | exact HO_262000.out | exact Kd.R_mono HO_262000.out (fun _ hk e => hk (e.trans (ob_len_PTr25 _ _ _ _ _))))⟩, ⟨by (with_reducible repeat (first | refine blk_drewN ?_ _ | refine blk_drew ?_ | refine blk_alloc ?_ _)); exact BK255.out⟩, ⟨by (with_reducible repeat (first | refine blk_drewN ?_ _ | refine blk_drew ?_ | refine blk_alloc ?_ _)); exact BK256.out⟩, ⟨by (with_reducible repeat (first | refine blk_drewN ?_ _ | refine blk_drew ?_ | refine blk_alloc ?_ _)); exact BK261.out⟩, ⟨by (with_reducible repeat (first | refine blk_drewN ?_ _ | refine blk_drew ?_ | refine blk_alloc ?_ _)); exact BK265.out⟩, ⟨by repeat (first | (with_reducible first | exact HB.out | apply below_alloc | apply pw_below_drewN | apply below_drew1 | refine below_set ?_ GE255.out | refine below_set ?_ GE256.out | refine below_set ?_ GE261.out | refine below_set ?_ GE265.out) | exact HB.out)⟩⟩
          ·
           rw [if_neg c38] at H
           have c38b0 : decide (x9_2 < (((rd_T44 l0_0 t263).f6).length : Int)) = false := decide_eq_false c38
           clear c38
           by_cases c56 : x262000_1.length < 1759218604441
           ·
            rw [if_pos c56] at H
            have LMc56 := Aside0.mk c56
            clear c56
            obtain ⟨y266, hy266⟩ : ∃ y_ : List (S44), y_ = (x262000_1 ++ [(⟨(wrap64 (x6_1 + 1)), ((rd_T44 l0_0 t263).f1), ((rd_T44 l0_0 t263).f2), ((rd_T44 l0_0 t263).f3), ((rd_T44 l0_0 t263).f4), ((rd_T44 l0_0 t263).f5), x8_2⟩ : S44)]) := ⟨_, rfl⟩
            replace H : (rehearsalref04_Canon.l0 k2 t258 (wrap64 (x6_1 + 1)) l0_0 a0_1 a0_2 a0_3 y266 (t258.length : Int) a0_2 a0_3) = some (r1, r2, r3, r4, r5) := by first | (rw [hy266]; with_reducible exact H) | (have H2_ := (Option.bind_some _ _).symm.trans H; rw [hy266]; with_reducible exact H2_) | (have H2_ := (Option.bind_some _ _).symm.trans H; with_reducible exact H2_) | with_reducible exact H | (rw [hy266]; exact H) | exact H
            have Ny266 := Aside0.mk hy266
            clear hy266
            have H' := Aside0.mk H
            clear H
            have hnb57 := NB265_255.out
            have hnc57 := NB255_265.out
            have hnb58 := NB265_256.out
            have hnc58 := NB256_265.out
            have hnb59 := NB265_261.out
            have hnc59 := NB261_265.out
            have hcz60_0 : wr.cell? ⟨gb265, 0, none⟩ = some (.int .i64 (wrap64 (x6_1 + 1))) := (blk_cell BK265.out 0).trans rfl
            have hcz60_1 : wr.cell? ⟨gb265, 1, none⟩ = some (.int .i64 ((rd_T44 l0_0 t263).f1)) := (blk_cell BK265.out 1).trans rfl
            have hcz60_2 : wr.cell? ⟨gb265, 2, none⟩ = some (.int .i64 ((rd_T44 l0_0 t263).f2)) := (blk_cell BK265.out 2).trans rfl
            have hcz60_3 : wr.cell? ⟨gb265, 3, none⟩ = some (.int .i64 ((rd_T44 l0_0 t263).f3)) := (blk_cell BK265.out 3).trans rfl
            have hcz60_4 : wr.cell? ⟨gb265, 4, none⟩ = some (.int .i64 ((rd_T44 l0_0 t263).f4)) := (blk_cell BK265.out 4).trans rfl
            have hcz60_5 : wr.cell? ⟨gb265, 5, none⟩ = some (.string ((rd_T44 l0_0 t263).f5)) := (blk_cell BK265.out 5).trans rfl
            have hcz60_6 : wr.cell? ⟨gb265, 6, none⟩ = some (.slice A264_6 ((rd_T44 l0_0 t263).f6).length c264_6) := (blk_cell BK265.out 6).trans rfl
            have hfz60_0 := blk_frozen BK265.out 0
            have hfz60_1 := blk_frozen BK265.out 1
            have hfz60_2 := blk_frozen BK265.out 2
            have hfz60_3 := blk_frozen BK265.out 3
            have hfz60_4 := blk_frozen BK265.out 4
            have hfz60_5 := blk_frozen BK265.out 5
            have hfz60_6 := blk_frozen BK265.out 6
            obtain ⟨Ao61, co61, eo61⟩ := Kd.R_slice HO_8.out
            subst eo61
            go_wp2_with (first | ((with_reducible refine gate_store (t := 42) (p := 80) rfl ?_); refine store_event (t := 42) (p := 80) (v := ?vo_w62) (w1 := (wr.setCell ⟨gb265, 6, none⟩ (.slice Ao61 x8_2.length co61))) ?hg ?ho ?hn ?hr ?_; (case ho => rfl); (case hg => rfl); (case hn => rfl); (case hr => first | (go_simp; done) | (go_simp; rfl)); intro w62 hw; have n0_ : Aside0 (Kd.R k87 87 w62 w.heap.size (fun _ => True) (.slice (some ad262) t258.length co12) t258) := ⟨(by rw [hw]; exact (by (with_reducible repeat (first | apply Kd.R_alloc | apply Kd.R_drewN | apply Kd.R_drew)); exact Kd.R_mono (Kd.R_far (p := ⟨gb265, 6, none⟩) (Kd.R_types HO_4.out BK265.out (by decide)) (fun _ hk => hk.2) (.slice Ao61 x8_2.length co61)) (fun _ hk => trivial)))⟩; have n1_ : Aside0 (Kd.R k61 61 w62 w.heap.size (fun _ => True) (.slice Ao61 x8_2.length co61) x8_2) := ⟨(by rw [hw]; exact (by (with_reducible repeat (first | apply Kd.R_alloc | apply Kd.R_drewN | apply Kd.R_drew)); exact Kd.R_mono (Kd.R_far (p := ⟨gb265, 6, none⟩) (Kd.R_types HO_8.out BK265.out (by decide)) (fun _ hk => hk.2) (.slice Ao61 x8_2.length co61)) (fun _ hk => trivial)))⟩; have n2_ : Aside0 (Kd.S k44 44 w62 w.heap.size (fun k_ => some k_ ≠ (.slice Ao61 x8_2.length co61 : Value).ownBlock ∧ k_ ≠ gb265) u262000 x262000_1) := ⟨(by rw [hw]; exact (by (with_reducible repeat (first | apply Kd.S_alloc | apply Kd.S_drewN | apply Kd.S_drew)); exact Kd.S_mono (Kd.S_far (p := ⟨gb265, 6, none⟩) (Kd.S_mono HO_262000.out (fun k_ hk => (⟨hk, hk.2⟩ : _ ∧ k_ ≠ gb265))) (fun _ hk => hk.2) (.slice Ao61 x8_2.length co61)) (fun _ hk => ⟨hk.1.1, hk.1.2⟩)))⟩; have n3_ : Aside0 (w62.heap[gb255]? = some (.cells #[.slice (some ad264) l0_0.length c0_0, .int .i64 a0_1, .int .i64 a0_2, .int .i64 a0_3] 26 (0, 0))) := ⟨(by rw [hw]; exact (by (with_reducible repeat (first | refine blk_drewN ?_ _ | refine blk_drew ?_ | refine blk_alloc ?_ _)); refine blk_far ?_ NB255_265.out _; (with_reducible repeat (first | refine blk_drewN ?_ _ | refine blk_drew ?_ | refine blk_alloc ?_ _)); exact BK255.out))⟩; have n4_ : Aside0 (w62.heap[gb256]? = some (.cells #[.slice none 0 0, .int .i64 0, .int .i64 0, .int .i64 0] 26 (0, 0))) := ⟨(by rw [hw]; exact (by (with_reducible repeat (first | refine blk_drewN ?_ _ | refine blk_drew ?_ | refine blk_alloc ?_ _)); refine blk_far ?_ NB256_265.out _; (with_reducible repeat (first | refine blk_drewN ?_ _ | refine blk_drew ?_ | refine blk_alloc ?_ _)); exact BK256.out))⟩; have n5_ : Aside0 (w62.heap[gb261]? = some (.cells #[u262000, .int .i64 (t258.length : Int), .int .i64 a0_2, .int .i64 a0_3] 26 (0, 0))) := ⟨(by rw [hw]; exact (by (with_reducible repeat (first | refine blk_drewN ?_ _ | refine blk_drew ?_ | refine blk_alloc ?_ _)); refine blk_far ?_ NB261_265.out _; (with_reducible repeat (first | refine blk_drewN ?_ _ | refine blk_drew ?_ | refine blk_alloc ?_ _)); exact BK261.out))⟩; have n6_ : Aside0 (w62.heap[gb265]? = some (.cells #[.int .i64 (wrap64 (x6_1 + 1)), .int .i64 ((rd_T44 l0_0 t263).f1), .int .i64 ((rd_T44 l0_0 t263).f2), .int .i64 ((rd_T44 l0_0 t263).f3), .int .i64 ((rd_T44 l0_0 t263).f4), .string ((rd_T44 l0_0 t263).f5), .slice Ao61 x8_2.length co61] 44 (0, 0))) := ⟨(by rw [hw]; exact (by (with_reducible repeat (first | refine blk_drewN ?_ _ | refine blk_drew ?_ | refine blk_alloc ?_ _)); refine blk_put (cs := #[.int .i64 (wrap64 (x6_1 + 1)), .int .i64 ((rd_T44 l0_0 t263).f1), .int .i64 ((rd_T44 l0_0 t263).f2), .int .i64 ((rd_T44 l0_0 t263).f3), .int .i64 ((rd_T44 l0_0 t263).f4), .string ((rd_T44 l0_0 t263).f5), .slice A264_6 ((rd_T44 l0_0 t263).f6).length c264_6]) ?_ 6 _ (by first | rfl | (simp only [w64_PTr25]; rfl) | (simp [w64_PTr25]; done)); (with_reducible repeat (first | refine blk_drewN ?_ _ | refine blk_drew ?_ | refine blk_alloc ?_ _)); exact BK265.out))⟩; have n7_ : Aside0 (Below w.heap.size w w62) := ⟨(by rw [hw]; exact (by repeat (first | (with_reducible first | exact HB.out | apply below_alloc | apply pw_below_drewN | apply below_drew1 | refine below_set ?_ GE255.out | refine below_set ?_ GE256.out | refine below_set ?_ GE261.out | refine below_set ?_ GE265.out) | exact HB.out)))⟩; clear hw; clear HO_4; clear HO_8; clear HO_262000; clear BK255; clear BK256; clear BK261; clear BK265; clear HB; have HO_4 := n0_; have HO_8 := n1_; have HO_262000 := n2_; have BK255 := n3_; have BK256 := n4_; have BK261 := n5_; have BK265 := n6_; have HB := n7_; clear n0_ n1_ n2_ n3_ n4_ n5_ n6_ n7_; have hnb63 := NB261_255.out; have hnc63 := NB255_261.out; have hnb64 := NB261_256.out; have hnc64 := NB256_261.out; have hcz65_0 : w62.cell? ⟨gb261, 0, none⟩ = some (u262000) := (blk_cell BK261.out 0).trans rfl; have hcz65_1 : w62.cell? ⟨gb261, 1, none⟩ = some (.int .i64 (t258.length : Int)) := (blk_cell BK261.out 1).trans rfl; have hcz65_2 : w62.cell? ⟨gb261, 2, none⟩ = some (.int .i64 a0_2) := (blk_cell BK261.out 2).trans rfl; have hcz65_3 : w62.cell? ⟨gb261, 3, none⟩ = some (.int .i64 a0_3) := (blk_cell BK261.out 3).trans rfl; have hfz65_0 := blk_frozen BK261.out 0; have hfz65_1 := blk_frozen BK261.out 1; have hfz65_2 := blk_frozen BK261.out 2; have hfz65_3 := blk_frozen BK261.out 3; have hcz66_0 : w62.cell? ⟨gb265, 0, none⟩ = some (.int .i64 (wrap64 (x6_1 + 1))) := (blk_cell BK265.out 0).trans rfl; have hcz66_1 : w62.cell? ⟨gb265, 1, none⟩ = some (.int .i64 ((rd_T44 l0_0 t263).f1)) := (blk_cell BK265.out 1).trans rfl; have hcz66_2 : w62.cell? ⟨gb265, 2, none⟩ = some (.int .i64 ((rd_T44 l0_0 t263).f2)) := (blk_cell BK265.out 2).trans rfl; have hcz66_3 : w62.cell? ⟨gb265, 3, none⟩ = some (.int .i64 ((rd_T44 l0_0 t263).f3)) := (blk_cell BK265.out 3).trans rfl; have hcz66_4 : w62.cell? ⟨gb265, 4, none⟩ = some (.int .i64 ((rd_T44 l0_0 t263).f4)) := (blk_cell BK265.out 4).trans rfl; have hcz66_5 : w62.cell? ⟨gb265, 5, none⟩ = some (.string ((rd_T44 l0_0 t263).f5)) := (blk_cell BK265.out 5).trans rfl; have hcz66_6 : w62.cell? ⟨gb265, 6, none⟩ = some (.slice Ao61 x8_2.length co61) := (blk_cell BK265.out 6).trans rfl; have hfz66_0 := blk_frozen BK265.out 0; have hfz66_1 := blk_frozen BK265.out 1; have hfz66_2 := blk_frozen BK265.out 2; have hfz66_3 := blk_frozen BK265.out 3; have hfz66_4 := blk_frozen BK265.out 4; have hfz66_5 := blk_frozen BK265.out 5; have hfz66_6 := blk_frozen BK265.out 6) | ((with_reducible refine gate_builtin (b := .append) (xs := #[.tmp 82, .tmp 84]) rfl ?_); at_builtin; refine Kd.S_append k44 (w0 := w) w.heap.size rfl (.tmp 82) (.tmp 84) 22 44 (.agg #[(.int .i64 0), (.int .i64 0), (.int .i64 0), (.int .i64 0), (.int .i64 0), (.string ⟨#[]⟩), (.slice none 0 0)]) 80 rfl Tryd.underlying22 info44 rfl (by decide) (by omega) u262000 x262000_1 (⟨(wrap64 (x6_1 + 1)), ((rd_T44 l0_0 t263).f1), ((rd_T44 l0_0 t263).f2), ((rd_T44 l0_0 t263).f3), ((rd_T44 l0_0 t263).f4), ((rd_T44 l0_0 t263).f5), x8_2⟩ : S44) [.int .i64 (wrap64 (x6_1 + 1)), .int .i64 ((rd_T44 l0_0 t263).f1), .int .i64 ((rd_T44 l0_0 t263).f2), .int .i64 ((rd_T44 l0_0 t263).f3), .int .i64 ((rd_T44 l0_0 t263).f4), .string ((rd_T44 l0_0 t263).f5), .slice Ao61 x8_2.length co61] (fun k_ => k_ ≠ gb265) (fun k_ => some k_ = (.slice Ao61 x8_2.length co61 : Value).ownBlock) rfl rfl ?aP (fun k_ hk_ => ((Kd.R_mono (ok' := fun k_ => ((fun k_ => k_ ≠ gb265)) k_ ∧ some k_ ≠ (u262000 : Value).ownBlock) (Kd.R_types (Kd.R_apart' (HO_8.out) (Kd.S_typed HO_262000.out) (by decide)) BK265.out (by decide)) (fun k_ hk => ⟨hk.2, hk.1.2⟩))).1 k_ hk_.symm) ?aF ?aO ?aB ?aS ?aL ?_; (case aP => exact k44_mkM _ _ _ (⟨(wrap64 (x6_1 + 1)), ((rd_T44 l0_0 t263).f1), ((rd_T44 l0_0 t263).f2), ((rd_T44 l0_0 t263).f3), ((rd_T44 l0_0 t263).f4), ((rd_T44 l0_0 t263).f5), x8_2⟩ : S44) (Kd.R_mono (Kd.R_tight rfl (Kd.R_mono (ok' := fun k_ => ((fun k_ => k_ ≠ gb265)) k_ ∧ some k_ ≠ (u262000 : Value).ownBlock) (Kd.R_types (Kd.R_apart' (HO_8.out) (Kd.S_typed HO_262000.out) (by decide)) BK265.out (by decide)) (fun k_ hk => ⟨hk.2, hk.1.2⟩))) (fun _ h_ => h_))); (case aB => exact (by repeat (first | (with_reducible first | exact HB.out | apply below_alloc | apply pw_below_drewN | apply below_drew1 | refine below_set ?_ GE255.out | refine below_set ?_ GE256.out | refine below_set ?_ GE261.out | refine below_set ?_ GE265.out) | exact HB.out))); (case aF => exact (fun k_ hk => Kd.freshB (g := gb265) (o := .cells #[.int .i64 (wrap64 (x6_1 + 1)), .int .i64 ((rd_T44 l0_0 t263).f1), .int .i64 ((rd_T44 l0_0 t263).f2), .int .i64 ((rd_T44 l0_0 t263).f3), .int .i64 ((rd_T44 l0_0 t263).f4), .string ((rd_T44 l0_0 t263).f5), .slice Ao61 x8_2.length co61] 44 (0, 0)) (by (with_reducible repeat (first | refine blk_drewN ?_ _ | refine blk_drew ?_ | refine blk_alloc ?_ _)); exact BK265.out) k_ hk)); (case aO => exact (by (with_reducible repeat (first | apply Kd.S_alloc | apply Kd.S_drewN | apply Kd.S_drew)); exact Kd.S_mono HO_262000.out (fun k_ hk => ⟨hk.2, fun e_ => hk.1 e_⟩))); (case aS => exact (below_size (by repeat (first | (with_reducible first | exact HB.out | apply below_alloc | apply pw_below_drewN | apply below_drew1 | refine below_set ?_ GE255.out | refine below_set ?_ GE256.out | refine below_set ?_ GE261.out | refine below_set ?_ GE265.out) | exact HB.out)))); (case aL => have := LMc56.out; omega); intro v267 w67 ho hb hg hat; rw [← Ny266.out] at ho; have n0_ := Aside0.mk (Kd.R_over' (by (with_reducible repeat (first | apply Kd.R_alloc | apply Kd.R_drewN | apply Kd.R_drew)); exact HO_4.out) (Kd.S_typed (by (with_reducible repeat (first | apply Kd.S_alloc | apply Kd.S_drewN | apply Kd.S_drew)); exact HO_262000.out)) (by decide) hg); have n1_ := Aside0.mk (blk_grown (g := gb255) (o := .cells #[.slice (some ad264) l0_0.length c0_0, .int .i64 a0_1, .int .i64 a0_2, .int .i64 a0_3] 26 (0, 0)) (by (with_reducible repeat (first | refine blk_drewN ?_ _ | refine blk_drew ?_ | refine blk_alloc ?_ _)); exact BK255.out) hg (Kd.S_ne HO_262000.out BK255.out (by decide))); have n2_ := Aside0.mk (blk_grown (g := gb256) (o := .cells #[.slice none 0 0, .int .i64 0, .int .i64 0, .int .i64 0] 26 (0, 0)) (by (with_reducible repeat (first | refine blk_drewN ?_ _ | refine blk_drew ?_ | refine blk_alloc ?_ _)); exact BK256.out) hg (Kd.S_ne HO_262000.out BK256.out (by decide))); have n3_ := Aside0.mk (blk_grown (g := gb261) (o := .cells #[u262000, .int .i64 (t258.length : Int), .int .i64 a0_2, .int .i64 a0_3] 26 (0, 0)) (by (with_reducible repeat (first | refine blk_drewN ?_ _ | refine blk_drew ?_ | refine blk_alloc ?_ _)); exact BK261.out) hg (Kd.S_ne HO_262000.out BK261.out (by decide))); have n4_ := Aside0.mk (blk_grown (g := gb265) (o := .cells #[.int .i64 (wrap64 (x6_1 + 1)), .int .i64 ((rd_T44 l0_0 t263).f1), .int .i64 ((rd_T44 l0_0 t263).f2), .int .i64 ((rd_T44 l0_0 t263).f3), .int .i64 ((rd_T44 l0_0 t263).f4), .string ((rd_T44 l0_0 t263).f5), .slice Ao61 x8_2.length co61] 44 (0, 0)) (by (with_reducible repeat (first | refine blk_drewN ?_ _ | refine blk_drew ?_ | refine blk_alloc ?_ _)); exact BK265.out) hg (Kd.S_away HO_262000.out (fun _ hk => hk.2))); have n5_ := Aside0.mk (hb); have n6_ := Aside0.mk (ho); clear HO_4; clear BK255; clear BK256; clear BK261; clear BK265; clear HB; clear HO_262000; clear HO_8; have HO_4 := n0_; have BK255 := n1_; have BK256 := n2_; have BK261 := n3_; have BK265 := n4_; have HB := n5_; have HO268 := n6_; clear n0_ n1_ n2_ n3_ n4_ n5_ n6_; clear ho hb hg hat; obtain ⟨Ao68, co68, eo68⟩ := Kd.S_slice HO268.out; subst eo68; have hcz69_0 : w67.cell? ⟨gb261, 0, none⟩ = some (u262000) := (blk_cell BK261.out 0).trans rfl; have hcz69_1 : w67.cell? ⟨gb261, 1, none⟩ = some (.int .i64 (t258.length : Int)) := (blk_cell BK261.out 1).trans rfl; have hcz69_2 : w67.cell? ⟨gb261, 2, none⟩ = some (.int .i64 a0_2) := (blk_cell BK261.out 2).trans rfl; have hcz69_3 : w67.cell? ⟨gb261, 3, none⟩ = some (.int .i64 a0_3) := (blk_cell BK261.out 3).trans rfl; have hfz69_0 := blk_frozen BK261.out 0; have hfz69_1 := blk_frozen BK261.out 1; have hfz69_2 := blk_frozen BK261.out 2; have hfz69_3 := blk_frozen BK261.out 3))
            go_roundg k2
            case measure => have := HK1.out; have := HK2.out; omega
            case rel => exact ⟨(wrap64 (x6_1 + 1)), (y266), (.slice Ao68 y266.length co68), (by first | rfl | (simp; done) | (simp [*]; done)), H', ⟨by have := HK1.out; have := HK2.out; omega⟩, ⟨by (with_reducible repeat (first | apply Kd.R_alloc | apply Kd.R_drewN | apply Kd.R_drew)); exact Kd.R_mono (Kd.R_far (p := ⟨gb261, 0, none⟩) (Kd.R_types HO_4.out BK261.out (by decide)) (fun _ hk => hk.2) (.slice Ao68 y266.length co68)) (fun _ hk => trivial)⟩, ⟨by (with_reducible repeat (first | apply Kd.S_alloc | apply Kd.S_drewN | apply Kd.S_drew)); exact Kd.S_mono (Kd.S_far (p := ⟨gb261, 0, none⟩) (Kd.S_types HO268.out BK261.out (by decide)) (fun _ hk => hk.2) (.slice Ao68 y266.length co68)) (fun _ hk => trivial)⟩, ⟨by (with_reducible repeat (first | refine blk_drewN ?_ _ | refine blk_drew ?_ | refine blk_alloc ?_ _)); refine blk_far ?_ NB255_261.out _; (with_reducible repeat (first | refine blk_drewN ?_ _ | refine blk_drew ?_ | refine blk_alloc ?_ _)); exact BK255.out⟩, ⟨by (with_reducible repeat (first | refine blk_drewN ?_ _ | refine blk_drew ?_ | refine blk_alloc ?_ _)); refine blk_far ?_ NB256_261.out _; (with_reducible repeat (first | refine blk_drewN ?_ _ | refine blk_drew ?_ | refine blk_alloc ?_ _)); exact BK256.out⟩, ⟨by (with_reducible repeat (first | refine blk_drewN ?_ _ | refine blk_drew ?_ | refine blk_alloc ?_ _)); refine blk_put (cs := #[u262000, .int .i64 (t258.length : Int), .int .i64 a0_2, .int .i64 a0_3]) ?_ 0 _ (by first | rfl | (simp only [w64_PTr25]; rfl) | (simp [w64_PTr25]; done)); (with_reducible repeat (first | refine blk_drewN ?_ _ | refine blk_drew ?_ | refine blk_alloc ?_ _)); exact BK261.out⟩, ⟨by repeat (first | (with_reducible first | exact HB.out | apply below_alloc | apply pw_below_drewN | apply below_drew1 | refine below_set ?_ GE255.out | refine below_set ?_ GE256.out | refine below_set ?_ GE261.out | refine below_set ?_ GE265.out) | exact HB.out)⟩⟩
           ·
            rw [if_neg c56] at H
            exact absurd H (by simp)
       ·
        rw [if_neg c22] at H
        exact absurd H (by simp)
      ·
       rw [if_neg c21] at H
       exact absurd H (by simp)
     ·
      rw [if_neg c19] at H
      exact absurd H (by simp)
    ·
     rw [if_neg c18] at H
     have c18b0 : decide (x6_1 < (t258.length : Int)) = false := decide_eq_false c18
     clear c18
     simp only [Option.some.injEq, Prod.mk.injEq] at H
     obtain ⟨rfl, rfl, rfl, rfl, rfl⟩ := H
     have hnb70 := NB261_255.out
     have hnc70 := NB255_261.out
     have hnb71 := NB261_256.out
     have hnc71 := NB256_261.out
     have hcz72_0 : wr.cell? ⟨gb261, 0, none⟩ = some (u262000) := (blk_cell BK261.out 0).trans rfl
     have hcz72_1 : wr.cell? ⟨gb261, 1, none⟩ = some (.int .i64 (t258.length : Int)) := (blk_cell BK261.out 1).trans rfl
     have hcz72_2 : wr.cell? ⟨gb261, 2, none⟩ = some (.int .i64 a0_2) := (blk_cell BK261.out 2).trans rfl
     have hcz72_3 : wr.cell? ⟨gb261, 3, none⟩ = some (.int .i64 a0_3) := (blk_cell BK261.out 3).trans rfl
     have hfz72_0 := blk_frozen BK261.out 0
     have hfz72_1 := blk_frozen BK261.out 1
     have hfz72_2 := blk_frozen BK261.out 2
     have hfz72_3 := blk_frozen BK261.out 3
     obtain ⟨Ao73, co73, eo73⟩ := Kd.S_slice HO_262000.out
     subst eo73
     have hnb74 := NB256_255.out
     have hnc74 := NB255_256.out
     have hcz75_0 : wr.cell? ⟨gb256, 0, none⟩ = some (.slice none 0 0) := (blk_cell BK256.out 0).trans rfl
     have hcz75_1 : wr.cell? ⟨gb256, 1, none⟩ = some (.int .i64 0) := (blk_cell BK256.out 1).trans rfl
     have hcz75_2 : wr.cell? ⟨gb256, 2, none⟩ = some (.int .i64 0) := (blk_cell BK256.out 2).trans rfl
     have hcz75_3 : wr.cell? ⟨gb256, 3, none⟩ = some (.int .i64 0) := (blk_cell BK256.out 3).trans rfl
     have hfz75_0 := blk_frozen BK256.out 0
     have hfz75_1 := blk_frozen BK256.out 1
     have hfz75_2 := blk_frozen BK256.out 2
     have hfz75_3 := blk_frozen BK256.out 3
     go_wp2
     refine bodyPost_ret (results_ct rfl _ _ gb256 26 #[.slice Ao73 x262000_1.length co73, .int .i64 (t258.length : Int), .int .i64 a0_2, .int .i64 a0_3] (0, 0) _ rfl (by (with_reducible repeat (first | refine blk_drewN ?_ _ | refine blk_drew ?_ | refine blk_alloc ?_ _)); refine blk_put (cs := #[.slice Ao73 x262000_1.length co73, .int .i64 (t258.length : Int), .int .i64 a0_2, .int .i64 0]) ?_ 3 _ (by first | rfl | (simp only [w64_PTr25]; rfl) | (simp [w64_PTr25]; done)); (with_reducible repeat (first | refine blk_drewN ?_ _ | refine blk_drew ?_ | refine blk_alloc ?_ _)); refine blk_put (cs := #[.slice Ao73 x262000_1.length co73, .int .i64 (t258.length : Int), .int .i64 0, .int .i64 0]) ?_ 2 _ (by first | rfl | (simp only [w64_PTr25]; rfl) | (simp [w64_PTr25]; done)); (with_reducible repeat (first | refine blk_drewN ?_ _ | refine blk_drew ?_ | refine blk_alloc ?_ _)); refine blk_put (cs := #[.slice Ao73 x262000_1.length co73, .int .i64 0, .int .i64 0, .int .i64 0]) ?_ 1 _ (by first | rfl | (simp only [w64_PTr25]; rfl) | (simp [w64_PTr25]; done)); (with_reducible repeat (first | refine blk_drewN ?_ _ | refine blk_drew ?_ | refine blk_alloc ?_ _)); refine blk_put (cs := #[.slice none 0 0, .int .i64 0, .int .i64 0, .int .i64 0]) ?_ 0 _ (by first | rfl | (simp only [w64_PTr25]; rfl) | (simp [w64_PTr25]; done)); (with_reducible repeat (first | refine blk_drewN ?_ _ | refine blk_drew ?_ | refine blk_alloc ?_ _)); exact BK256.out) Tryd.underlying26 rfl (by kernel_rfl)) rfl ?_
     exact ⟨_, by first | rfl | (simp [errW_none, errW_some] <;> rfl) | (simp [*, errW_none, errW_some] <;> rfl), by (with_reducible repeat (first | apply Kd.S_alloc | apply Kd.S_drewN | apply Kd.S_drew)); exact Kd.S_mono (Kd.S_far (p := ⟨gb256, 3, none⟩) (Kd.S_far (p := ⟨gb256, 2, none⟩) (Kd.S_far (p := ⟨gb256, 1, none⟩) (Kd.S_far (p := ⟨gb256, 0, none⟩) (Kd.S_types HO_262000.out BK256.out (by decide)) (fun _ hk => hk.2) (.slice Ao73 x262000_1.length co73)) (fun _ hk => hk.2) (.int .i64 (t258.length : Int))) (fun _ hk => hk.2) (.int .i64 a0_2)) (fun _ hk => hk.2) (.int .i64 a0_3)) (fun _ hk => trivial), by repeat (first | (with_reducible first | exact HB.out | apply below_alloc | apply pw_below_drewN | apply below_drew1 | refine below_set ?_ GE255.out | refine below_set ?_ GE256.out | refine below_set ?_ GE261.out) | exact HB.out)⟩
 ·
  rw [if_neg c3] at H
  have c3b0 : (t257 == 0) = false := beq_eq_false_iff_ne.mpr c3
  have c3b1 : (t257 != 0) = true := bne_iff_ne.mpr c3
  simp only [Option.some.injEq, Prod.mk.injEq] at H
  obtain ⟨rfl, rfl, rfl, rfl, rfl⟩ := H
  go_enter Tryd.func25, Tryd.ntmps25
  go_wp2_with (first | ((with_reducible refine gate_dst (N := 1) rfl ?_); refine box_event ?hg (N := 1) ?hd (cs := #[.slice A0_0 l0_0.length c0_0, .int .i64 a0_1, .int .i64 a0_2, .int .i64 a0_3]) (t := 26) ?hr ?_; (case hd => rfl); (case hg => rfl); (case hr => first | (go_simp; done) | (go_simp; rfl)); intro gb255 hg w76 hbox hb; have n0_ := Aside0.mk (below_step (by repeat (first | (with_reducible first | exact HB.out | apply below_alloc | apply pw_below_drewN | apply below_drew1) | exact HB.out)) hb); have n1_ := Aside0.mk (hbox); have n2_ := Aside0.mk ((by rw [hg]; exact (below_size (by repeat (first | (with_reducible first | exact HB.out | apply below_alloc | apply pw_below_drewN | apply below_drew1) | exact HB.out))) : w.heap.size ≤ gb255)); have n3_ := Aside0.mk ((by rw [hg]; exact (below_size (by repeat (first | (with_reducible first | exact HB.out | apply below_alloc | apply pw_below_drewN | apply below_drew1) | exact HB.out))) : w.heap.size ≤ gb255)); clear HB; have HB := n0_; have BK255 := n1_; have GW255 := n2_; have GE255 := n3_; clear n0_ n1_ n2_ n3_; clear hb hbox hg) | ((with_reducible refine gate_dst (N := 2) rfl ?_); refine box_event ?hg (N := 2) ?hd (cs := #[.slice none 0 0, .int .i64 0, .int .i64 0, .int .i64 0]) (t := 26) ?hr ?_; (case hd => rfl); (case hg => rfl); (case hr => first | (go_simp; done) | (go_simp; rfl)); intro gb256 hg w77 hbox hb; have n0_ := Aside0.mk (blk_below (g := gb255) (o := .cells #[.slice A0_0 l0_0.length c0_0, .int .i64 a0_1, .int .i64 a0_2, .int .i64 a0_3] 26 (0, 0)) (by (with_reducible repeat (first | refine blk_drewN ?_ _ | refine blk_drew ?_ | refine blk_alloc ?_ _)); exact BK255.out) hb); have n1_ := Aside0.mk (below_step (by repeat (first | (with_reducible first | exact HB.out | apply below_alloc | apply pw_below_drewN | apply below_drew1 | refine below_set ?_ GE255.out) | exact HB.out)) hb); have n2_ := Aside0.mk (hbox); have n3_ := Aside0.mk ((by rw [hg]; exact (below_size (by repeat (first | (with_reducible first | exact HB.out | apply below_alloc | apply pw_below_drewN | apply below_drew1 | refine below_set ?_ GE255.out) | exact HB.out))) : w.heap.size ≤ gb256)); have n4_ := Aside0.mk ((by rw [hg]; exact (below_size (by repeat (first | (with_reducible first | exact HB.out | apply below_alloc | apply pw_below_drewN | apply below_drew1 | refine below_set ?_ GE255.out) | exact HB.out))) : w.heap.size ≤ gb256)); have n5_ := Aside0.mk ((by rw [hg]; exact Nat.ne_of_lt (blk_lt (g := gb255) (o := .cells #[.slice A0_0 l0_0.length c0_0, .int .i64 a0_1, .int .i64 a0_2, .int .i64 a0_3] 26 (0, 0)) (by (with_reducible repeat (first | refine blk_drewN ?_ _ | refine blk_drew ?_ | refine blk_alloc ?_ _)); exact BK255.out)) : gb255 ≠ gb256)); have n6_ := Aside0.mk ((by rw [hg]; exact Nat.ne_of_gt (blk_lt (g := gb255) (o := .cells #[.slice A0_0 l0_0.length c0_0, .int .i64 a0_1, .int .i64 a0_2, .int .i64 a0_3] 26 (0, 0)) (by (with_reducible repeat (first | refine blk_drewN ?_ _ | refine blk_drew ?_ | refine blk_alloc ?_ _)); exact BK255.out)) : gb256 ≠ gb255)); clear BK255; clear HB; have BK255 := n0_; have HB := n1_; have BK256 := n2_; have GW256 := n3_; have GE256 := n4_; have NB255_256 := n5_; have NB256_255 := n6_; clear n0_ n1_ n2_ n3_ n4_ n5_ n6_; clear hb hbox hg; have hnb78 := NB255_256.out; have hnc78 := NB256_255.out; have hcz79_0 : w77.cell? ⟨gb255, 0, none⟩ = some (.slice A0_0 l0_0.length c0_0) := (blk_cell BK255.out 0).trans rfl; have hcz79_1 : w77.cell? ⟨gb255, 1, none⟩ = some (.int .i64 a0_1) := (blk_cell BK255.out 1).trans rfl; have hcz79_2 : w77.cell? ⟨gb255, 2, none⟩ = some (.int .i64 a0_2) := (blk_cell BK255.out 2).trans rfl; have hcz79_3 : w77.cell? ⟨gb255, 3, none⟩ = some (.int .i64 a0_3) := (blk_cell BK255.out 3).trans rfl; have hfz79_0 := blk_frozen BK255.out 0; have hfz79_1 := blk_frozen BK255.out 1; have hfz79_2 := blk_frozen BK255.out 2; have hfz79_3 := blk_frozen BK255.out 3) | ((with_reducible refine gate_callee (f := 18) rfl ?_); refine goesL_ (some 12) rfl rfl Tryd.func18 (by kernel_rfl) rfl #[.agg #[.slice A0_0 l0_0.length c0_0, .int .i64 a0_1, .int .i64 a0_2, .int .i64 a0_3]] rfl (by (try simp only [List.map_toArray, List.map_cons, List.map_nil]); first | done | rfl | (simp only [List.length_drop, List.length_take]; rfl)) ?_; (with_reducible refine (rehearsalref04_Check.calls k _ _ l0_0 a0_1 a0_2 a0_3 t257 _ ?side1 ?side2 A2.out).mono ?_); (case side1 => repeat (first | exact (Kd.C_below HR0_0.out HB.out) | (with_reducible refine Kd.C_alloc ?_ _) | (with_reducible refine Kd.C_drewN ?_ _) | (with_reducible refine Kd.C_drew ?_))); (case side2 => exact HC0_0.out); rintro e w80 ⟨rfl, hb⟩; refine ⟨_, rfl, ?_⟩; have n0_ := Aside0.mk (blk_below (g := gb255) (o := .cells #[.slice A0_0 l0_0.length c0_0, .int .i64 a0_1, .int .i64 a0_2, .int .i64 a0_3] 26 (0, 0)) (by (with_reducible repeat (first | refine blk_drewN ?_ _ | refine blk_drew ?_ | refine blk_alloc ?_ _)); exact BK255.out) hb); have n1_ := Aside0.mk (blk_below (g := gb256) (o := .cells #[.slice none 0 0, .int .i64 0, .int .i64 0, .int .i64 0] 26 (0, 0)) (by (with_reducible repeat (first | refine blk_drewN ?_ _ | refine blk_drew ?_ | refine blk_alloc ?_ _)); exact BK256.out) hb); have n2_ := Aside0.mk (below_step (by repeat (first | (with_reducible first | exact HB.out | apply below_alloc | apply pw_below_drewN | apply below_drew1 | refine below_set ?_ GE255.out | refine below_set ?_ GE256.out) | exact HB.out)) hb); clear BK255; clear BK256; clear HB; have BK255 := n0_; have BK256 := n1_; have HB := n2_; clear n0_ n1_ n2_; (try clear hb); (try clear hb2); (try clear hk); (try clear hi); have hcz81_0 : w80.cell? ⟨gb256, 0, none⟩ = some (.slice none 0 0) := (blk_cell BK256.out 0).trans rfl; have hcz81_1 : w80.cell? ⟨gb256, 1, none⟩ = some (.int .i64 0) := (blk_cell BK256.out 1).trans rfl; have hcz81_2 : w80.cell? ⟨gb256, 2, none⟩ = some (.int .i64 0) := (blk_cell BK256.out 2).trans rfl; have hcz81_3 : w80.cell? ⟨gb256, 3, none⟩ = some (.int .i64 0) := (blk_cell BK256.out 3).trans rfl; have hfz81_0 := blk_frozen BK256.out 0; have hfz81_1 := blk_frozen BK256.out 1; have hfz81_2 := blk_frozen BK256.out 2; have hfz81_3 := blk_frozen BK256.out 3))
  refine bodyPost_ret (results_ct rfl _ _ gb256 26 #[.slice none 0 0, .int .i64 0, .int .i64 0, .int .i64 0] (0, 0) _ rfl (by (with_reducible repeat (first | refine blk_drewN ?_ _ | refine blk_drew ?_ | refine blk_alloc ?_ _)); refine blk_put (cs := #[.slice none 0 0, .int .i64 0, .int .i64 0, .int .i64 0]) ?_ 3 _ (by first | rfl | (simp only [w64_PTr25]; rfl) | (simp [w64_PTr25]; done)); (with_reducible repeat (first | refine blk_drewN ?_ _ | refine blk_drew ?_ | refine blk_alloc ?_ _)); refine blk_put (cs := #[.slice none 0 0, .int .i64 0, .int .i64 0, .int .i64 0]) ?_ 2 _ (by first | rfl | (simp only [w64_PTr25]; rfl) | (simp [w64_PTr25]; done)); (with_reducible repeat (first | refine blk_drewN ?_ _ | refine blk_drew ?_ | refine blk_alloc ?_ _)); refine blk_put (cs := #[.slice none 0 0, .int .i64 0, .int .i64 0, .int .i64 0]) ?_ 1 _ (by first | rfl | (simp only [w64_PTr25]; rfl) | (simp [w64_PTr25]; done)); (with_reducible repeat (first | refine blk_drewN ?_ _ | refine blk_drew ?_ | refine blk_alloc ?_ _)); refine blk_put (cs := #[.slice none 0 0, .int .i64 0, .int .i64 0, .int .i64 0]) ?_ 0 _ (by first | rfl | (simp only [w64_PTr25]; rfl) | (simp [w64_PTr25]; done)); (with_reducible repeat (first | refine blk_drewN ?_ _ | refine blk_drew ?_ | refine blk_alloc ?_ _)); exact BK256.out) Tryd.underlying26 rfl (by kernel_rfl)) rfl ?_
  exact ⟨_, by first | rfl | (simp [errW_none, errW_some] <;> rfl) | (simp [*, errW_none, errW_some] <;> rfl), by first | exact Kd.S_nil _ _ _ _ _ | exact Kd.N_nil _ _ _ _ _ | exact Kd.V_nil _ _ _ _ _ | exact Kd.Q_nil _ _ _ _ _ | exact Kd.R_nil _ _ _ _ _, by repeat (first | (with_reducible first | exact HB.out | apply below_alloc | apply pw_below_drewN | apply below_drew1 | refine below_set ?_ GE255.out | refine below_set ?_ GE256.out) | exact HB.out)⟩
end Go.Proofs.YtnpnablnnfekkaaDoor.PTr
