/- Texts of this claim's proof: small lemmas, walks and plain laws (merged by wip/shake.py). -/
import Derived.Test.YtgcbipflmhbpcaaQp1
import Derived.Test.YtgcbipflmhbpcaaQp4
import Derived.Test.YtgcbipflmhbpcaaQp5
namespace Go.Proofs.Ytgcbipflmhbpcaa.PV
open Go.RowKit Go.Proofs.YtgcbipflmhbpcaaW.PrintWords Go.Proofs.YtgcbipflmhbpcaaW.PrintLast Go.Proofs.YtgcbipflmhbpcaaW.PrintMore
attribute [local go_sem] max2_int min2_int max_two min_two max_three min_three max_four min_four   -- for this text's walks alone
set_option linter.unusedVariables false
set_option linter.unusedSimpArgs false
theorem w64_PV15 (x : Int) : wrap64 (x % 256) = x % 256 := by unfold wrap64; omega
def rehearsalref11_New.l0 : Nat → List (S26) → List ByteArray → Int → List (S26) → List ByteArray → Int → Option ((List (S26)) × List ByteArray × Int × Int)
  | 0, _, _, _, _, _, _ => none
  | k + 1, x0, x1, x8, x164000, x164001, x164002 => if x8 < (x0.length : Int) then (if 0 ≤ x8 then ((rehearsalref11_Table_Set.f k x164000 x164001 x164002 ((rd_T26 x0 x8).f0) ((rd_T26 x0 x8).f1)).bind fun bt166 => (if bt166.2.2.2 = 0 then (rehearsalref11_New.l0 k x0 x1 (wrap64 (x8 + 1)) bt166.1 bt166.2.1 bt166.2.2.1) else (some (([] : List (S26)), ([] : List ByteArray), 0, bt166.2.2.2)))) else (none)) else ((rehearsalref11_Table_SetArgs.f k x164000 x164001 x164002 x1).bind fun bt174 => (if bt174.2.2.2 = 0 then (some (bt174.1, bt174.2.1, bt174.2.2.1, 0)) else (some (([] : List (S26)), ([] : List ByteArray), 0, bt174.2.2.2))))
def rehearsalref11_New.f (k : Nat) (l0 : List (S26)) (l1 : List ByteArray) : Option ((List (S26)) × List ByteArray × Int × Int) := rehearsalref11_New.l0 k l0 l1 0 ([] : List (S26)) ([] : List ByteArray) 0
def rehearsalref11_New.T6 : Bool × List (List Nat × List Nat) := (true, [([], []), ([], []), ([], []), ([1, 2], [1, 2]), ([3], [3]), ([4], [4]), ([], []), ([], []), ([6, 7], [6, 7]), ([8], [8]), ([9], [9]), ([0, 5, 10], [0, 5, 10]), ([11], [11]), ([12], [12]), ([12], [12]), ([13, 11, 0, 1, 2, 3, 4, 5, 6, 7, 8, 9, 10, 11, 12, 13], [13]), ([14, 15, 0, 1, 2, 3, 4, 5, 6, 7, 8, 9, 10, 11, 12, 13, 14, 15], [14])])
def rehearsalref11_New.B6 : List Nat := [0, 0, 0, 6, 14, 30, 0, 0, 192, 448, 960, 2047, 4095, 8191, 8191, 16383, 65535]
theorem rehearsalref11_New.tab6 : rtab .any (opsOf Try.f9 6) = rehearsalref11_New.T6 := by kernel_rfl
theorem rehearsalref11_New.bits6 : waitsOk rehearsalref11_New.T6.2 rehearsalref11_New.B6 = true := by kernel_rfl
set_option maxHeartbeats 8000000 in
set_option maxRecDepth 100000 in
theorem rehearsalref11_New.calls (k : Nat) (A0 : Option Addr) (c0 : Nat) (l0 : List (S26)) (P1_ : Nat → Prop) (A1 : Option Addr) (c1 : Nat) (l1 : List ByteArray) (r1 : List (S26)) (r2 : List ByteArray) (r3 : Int) (r4 : Int) (w : World) (hr0 : Kd.C k26 w A0 l0.length l0) (hc0 : l0.length ≤ c0) (hs1 : Kd.V Kd.string 9 w w.heap.size (fun k_ => P1_ k_) (.slice A1 l1.length c1) l1) (h : rehearsalref11_New.f k l0 l1 = some (r1, r2, r3, r4)) :
    Calls Try.prog 9 #[.slice A0 l0.length c0, .slice A1 l1.length c1] w fun e w' => ∃ v0_ v1_ : Value, e = .returned (.tuple #[.agg #[v0_, v1_, .int .i64 r3], .int .i64 r4]) ∧ Kd.V k26 26 w' w.heap.size (fun k_ => (P1_ k_ ∨ w.heap.size ≤ k_)) v0_ r1 ∧ Kd.V Kd.string 9 w' w.heap.size (fun k_ => (P1_ k_ ∨ w.heap.size ≤ k_)) v1_ r2 ∧ Below w.heap.size w w' := by
  have hu36 := Try.underlying36
  have HR0 := Aside0.mk hr0
  have HC0 := Aside0.mk hc0
  clear hr0 hc0
  have HO1 := Aside0.mk (show Kd.V Kd.string 9 w w.heap.size (fun k_ => (P1_ k_ ∨ w.heap.size ≤ k_)) (.slice A1 l1.length c1) l1 from Kd.V_mono hs1 (fun k_ hk => .inl hk))
  have HB := Aside0.mk (Below.refl w.heap.size w)
  have H : (rehearsalref11_New.l0 k l0 l1 0 ([] : List (S26)) ([] : List ByteArray) 0) = some (r1, r2, r3, r4) := h
  clear h
  have H' := Aside0.mk H
  clear H
  go_enter Try.func9, Try.ntmps9
  go_wp2_with (first | ((with_reducible refine gate_dst (N := 4) rfl ?_); refine box_event ?hg (N := 4) ?hd (cs := #[.slice none 0 0, .slice none 0 0, .int .i64 0]) (t := 36) ?hr ?_; (case hd => rfl); (case hg => rfl); (case hr => first | (go_simp; done) | (go_simp; rfl)); intro gb162 hg w3 hbox hb; have n0_ := Aside0.mk (Kd.V_below (Kd.V_elderB (by (with_reducible repeat (first | apply Kd.V_alloc | apply Kd.V_drewN | apply Kd.V_drew)); exact HO1.out) gb162 (Nat.le_of_eq hg.symm)) hb); have n1_ := Aside0.mk (below_step (by repeat (first | (with_reducible first | exact HB.out | apply below_alloc | apply pw_below_drewN | apply below_drew1) | exact HB.out)) hb); have n2_ := Aside0.mk (hbox); have n3_ := Aside0.mk ((by rw [hg]; exact (below_size (by repeat (first | (with_reducible first | exact HB.out | apply below_alloc | apply pw_below_drewN | apply below_drew1) | exact HB.out))) : w.heap.size ≤ gb162)); have n4_ := Aside0.mk ((by rw [hg]; exact (below_size (by repeat (first | (with_reducible first | exact HB.out | apply below_alloc | apply pw_below_drewN | apply below_drew1) | exact HB.out))) : w.heap.size ≤ gb162)); clear HO1; clear HB; have HO1 := n0_; have HB := n1_; have BK162 := n2_; have GW162 := n3_; have GE162 := n4_; clear n0_ n1_ n2_ n3_ n4_; clear hb hbox hg) | ((with_reducible refine gate_dst (N := 6) rfl ?_); refine box_event ?hg (N := 6) ?hd (cs := #[.slice none 0 0, .slice none 0 0, .int .i64 0]) (t := 36) ?hr ?_; (case hd => rfl); (case hg => rfl); (case hr => first | (go_simp; done) | (go_simp; rfl)); intro gb163 hg w4 hbox hb; have n0_ := Aside0.mk (Kd.V_below (Kd.V_elderB (by (with_reducible repeat (first | apply Kd.V_alloc | apply Kd.V_drewN | apply Kd.V_drew)); exact HO1.out) gb163 (Nat.le_of_eq hg.symm)) hb); have n1_ := Aside0.mk (blk_below (g := gb162) (o := .cells #[.slice none 0 0, .slice none 0 0, .int .i64 0] 36 (0, 0)) (by (with_reducible repeat (first | refine blk_drewN ?_ _ | refine blk_drew ?_ | refine blk_alloc ?_ _)); exact BK162.out) hb); have n2_ := Aside0.mk (below_step (by repeat (first | (with_reducible first | exact HB.out | apply below_alloc | apply pw_below_drewN | apply below_drew1 | refine below_set ?_ GE162.out) | exact HB.out)) hb); have n3_ := Aside0.mk (hbox); have n4_ := Aside0.mk ((by rw [hg]; exact (below_size (by repeat (first | (with_reducible first | exact HB.out | apply below_alloc | apply pw_below_drewN | apply below_drew1 | refine below_set ?_ GE162.out) | exact HB.out))) : w.heap.size ≤ gb163)); have n5_ := Aside0.mk ((by rw [hg]; exact (below_size (by repeat (first | (with_reducible first | exact HB.out | apply below_alloc | apply pw_below_drewN | apply below_drew1 | refine below_set ?_ GE162.out) | exact HB.out))) : w.heap.size ≤ gb163)); have n6_ := Aside0.mk ((by rw [hg]; exact Nat.ne_of_lt (blk_lt (g := gb162) (o := .cells #[.slice none 0 0, .slice none 0 0, .int .i64 0] 36 (0, 0)) (by (with_reducible repeat (first | refine blk_drewN ?_ _ | refine blk_drew ?_ | refine blk_alloc ?_ _)); exact BK162.out)) : gb162 ≠ gb163)); have n7_ := Aside0.mk ((by rw [hg]; exact Nat.ne_of_gt (blk_lt (g := gb162) (o := .cells #[.slice none 0 0, .slice none 0 0, .int .i64 0] 36 (0, 0)) (by (with_reducible repeat (first | refine blk_drewN ?_ _ | refine blk_drew ?_ | refine blk_alloc ?_ _)); exact BK162.out)) : gb163 ≠ gb162)); clear HO1; clear BK162; clear HB; have HO1 := n0_; have BK162 := n1_; have HB := n2_; have BK163 := n3_; have GW163 := n4_; have GE163 := n5_; have NB162_163 := n6_; have NB163_162 := n7_; clear n0_ n1_ n2_ n3_ n4_ n5_ n6_ n7_; clear hb hbox hg))
  go_loopg [8] k (fun kq v8 w' => ∃ (x8_1 : Int) (x163002_1 : Int) (x164000_1 : List (S26)) (x164001_1 : List ByteArray) (x164002_1 : Int) (u164000 : Value) (u164001 : Value), v8 = .int .i64 x8_1 ∧ Aside0 (rehearsalref11_New.l0 kq l0 l1 x8_1 x164000_1 x164001_1 x164002_1 = some (r1, r2, r3, r4)) ∧ Aside0 (kq ≤ k) ∧ Aside0 (Kd.V Kd.string 9 w' w.heap.size (fun k_ => (P1_ k_ ∨ w.heap.size ≤ k_) ∧ k_ ≠ gb162 ∧ k_ ≠ gb163) (.slice A1 l1.length c1) l1) ∧ Aside0 (Kd.V k26 26 w' w.heap.size (fun k_ => (P1_ k_ ∨ w.heap.size ≤ k_) ∧ k_ ≠ gb162 ∧ k_ ≠ gb163) u164000 x164000_1) ∧ Aside0 (Kd.V Kd.string 9 w' w.heap.size (fun k_ => (P1_ k_ ∨ w.heap.size ≤ k_) ∧ k_ ≠ gb162 ∧ k_ ≠ gb163) u164001 x164001_1) ∧ Aside0 (w'.heap[gb162]? = some (.cells #[(.slice none 0 0), (.slice none 0 0), .int .i64 x163002_1] 36 (0, 0))) ∧ Aside0 (w'.heap[gb163]? = some (.cells #[u164000, u164001, .int .i64 x164002_1] 36 (0, 0))) ∧ Aside0 (Below w.heap.size w w'))
  case atStart => exact ⟨(0), (0), (([] : List (S26))), (([] : List ByteArray)), (0), (.slice none 0 0), (.slice none 0 0), (by first | rfl | (simp; done) | (simp [*]; done)), H', ⟨Nat.le_refl _⟩, ⟨by (with_reducible repeat (first | apply Kd.V_alloc | apply Kd.V_drewN | apply Kd.V_drew)); exact Kd.V_mono HO1.out (fun _ hk => ⟨hk.1.1, ⟨hk.1.2, hk.2⟩⟩)⟩, ⟨(by first | exact Kd.V_nil _ _ _ _ _ | exact Kd.V_mono (Kd.R_V (by first | exact Kd.R_nil _ _ _ _ _ | exact Kd.N_nil _ _ _ _ _ | exact Kd.V_nil _ _ _ _ _ | exact Kd.Q_nil _ _ _ _ _ | exact Kd.S_nil _ _ _ _ _)) (fun k_ hk => by first | exact ⟨(.inr (hk.1)), hk.2⟩ | exact (.inr (hk))))⟩, ⟨(by first | exact Kd.V_nil _ _ _ _ _ | exact Kd.V_mono (Kd.R_V (by first | exact Kd.R_nil _ _ _ _ _ | exact Kd.N_nil _ _ _ _ _ | exact Kd.V_nil _ _ _ _ _ | exact Kd.Q_nil _ _ _ _ _ | exact Kd.S_nil _ _ _ _ _)) (fun k_ hk => by first | exact ⟨(.inr (hk.1)), hk.2⟩ | exact (.inr (hk))))⟩, ⟨by (with_reducible repeat (first | refine blk_drewN ?_ _ | refine blk_drew ?_ | refine blk_alloc ?_ _)); exact BK162.out⟩, ⟨by (with_reducible repeat (first | refine blk_drewN ?_ _ | refine blk_drew ?_ | refine blk_alloc ?_ _)); exact BK163.out⟩, ⟨by repeat (first | (with_reducible first | exact HB.out | apply below_alloc | apply pw_below_drewN | apply below_drew1 | refine below_set ?_ GE162.out | refine below_set ?_ GE163.out) | exact HB.out)⟩⟩
  case round =>
    clear H'
    try clear c1
    try clear p2
    obtain ⟨x8_1, x163002_1, x164000_1, x164001_1, x164002_1, u164000, u164001, rfl, HA, HK1, HO_1, HO_164000, HO_164001, BK162, BK163, HB⟩ := hrel
    cases gk with
    | zero => exact absurd HA.out (by simp [rehearsalref11_New.l0])
    | succ k1 =>
      have H := HA.out
      clear HA
      simp only [rehearsalref11_New.l0] at H
      by_cases c5 : x8_1 < (l0.length : Int)
      · rw [if_pos c5] at H
        have c5b0 : decide (x8_1 < (l0.length : Int)) = true := decide_eq_true c5
        clear c5
        by_cases c6 : 0 ≤ x8_1
        · rw [if_pos c6] at H
          have c6b0 : decide (0 ≤ x8_1) = true := decide_eq_true c6
          clear c6
          replace H := Option.bind_eq_some_iff.mp H
          obtain ⟨⟨t166, t169, t172, t173⟩, A70, H⟩ := H
          replace H : (if t173 = 0 then (rehearsalref11_New.l0 k1 l0 l1 (wrap64 (x8_1 + 1)) t166 t169 t172) else (some (([] : List (S26)), ([] : List ByteArray), 0, t173))) = some (r1, r2, r3, r4) := H
          have A7 := Aside0.mk A70
          clear A70
          by_cases c8 : t173 = 0
          · rw [if_pos c8] at H
            have c8b0 : (t173 == 0) = true := beq_iff_eq.mpr c8
            have c8b1 : (t173 != 0) = false := bne_eq_false_iff_eq.mpr c8
            clear c8
            have H' := Aside0.mk H
            clear H
            try go_wp2
            have n0_ := Aside0.mk (Kd.V_drew HO_1.out)
            have n1_ := Aside0.mk (Kd.V_drew HO_164000.out)
            have n2_ := Aside0.mk (Kd.V_drew HO_164001.out)
            have n3_ := Aside0.mk (blk_drew BK162.out)
            have n4_ := Aside0.mk (blk_drew BK163.out)
            have n5_ := Aside0.mk (below_drew1 HB.out)
            clear HO_1
            clear HO_164000
            clear HO_164001
            clear BK162
            clear BK163
            clear HB
            have HO_1 := n0_
            have HO_164000 := n1_
            have HO_164001 := n2_
            have BK162 := n3_
            have BK163 := n4_
            have HB := n5_
            clear n0_ n1_ n2_ n3_ n4_ n5_
            have p164 : 0 ≤ (x8_1 : Int) := of_decide_eq_true (by first | (with_reducible assumption) | assumption)
            have q164 : x8_1 < (l0.length : Int) := of_decide_eq_true (by first | (with_reducible assumption) | assumption)
            obtain ⟨ad164, e164, hx164_0, hx164_1⟩ := at_T26 HR0.out x8_1 p164 q164
            have hw164_1 := hx164_1
            have hw164_0 := hx164_0
            cases e164
            replace hx164_0 := (HB.out.cell (World.block_lt_of_cell? w _ hx164_0)).trans hx164_0
            replace hx164_1 := (HB.out.cell (World.block_lt_of_cell? w _ hx164_1)).trans hx164_1
            replace p164 := eq_true p164
            replace q164 := eq_true q164
            have p165 : 0 ≤ (x8_1 : Int) := of_decide_eq_true (by first | (with_reducible assumption) | assumption)
            have q165 : x8_1 < (l0.length : Int) := of_decide_eq_true (by first | (with_reducible assumption) | assumption)
            obtain ⟨ad165, e165, hx165_0, hx165_1⟩ := at_T26 HR0.out x8_1 p165 q165
            have hw165_1 := hx165_1
            have hw165_0 := hx165_0
            obtain rfl : ad164 = ad165 := (by injection e165)
            replace hx165_0 := (HB.out.cell (World.block_lt_of_cell? w _ hx165_0)).trans hx165_0
            replace hx165_1 := (HB.out.cell (World.block_lt_of_cell? w _ hx165_1)).trans hx165_1
            replace p165 := eq_true p165
            replace q165 := eq_true q165
            obtain ⟨Ao10, co10, eo10⟩ := Kd.V_slice HO_164000.out
            (first | subst eo10 | (injection eo10 with f1_ f2_ f3_; have f4_ := f1_.symm; have f5_ := f3_.symm; clear f1_ f2_ f3_; subst f4_; subst f5_))
            obtain ⟨Ao11, co11, eo11⟩ := Kd.V_slice HO_164001.out
            (first | subst eo11 | (injection eo11 with f1_ f2_ f3_; have f4_ := f1_.symm; have f5_ := f3_.symm; clear f1_ f2_ f3_; subst f4_; subst f5_))
            refine start_ (n := 17) (S := fun w' => w'.cell? ⟨gb163, 0, none⟩ = some (.slice Ao10 x164000_1.length co10) ∧ w'.cell? ⟨gb163, 1, none⟩ = some (.slice Ao11 x164001_1.length co11) ∧ w'.cell? ⟨gb163, 2, none⟩ = some (.int .i64 x164002_1) ∧ w'.cell? (ad164.add ((x8_1).toNat * 2)) = some (.string ((rd_T26 l0 x8_1).f0)) ∧ w'.cell? ⟨(ad164.add ((x8_1).toNat * 2)).block, (ad164.add ((x8_1).toNat * 2)).off + 1, none⟩ = some (.string ((rd_T26 l0 x8_1).f1)) ∧ w'.cell? (ad164.add ((x8_1).toNat * 2)) = some (.string ((rd_T26 l0 x8_1).f0)) ∧ w'.cell? ⟨(ad164.add ((x8_1).toNat * 2)).block, (ad164.add ((x8_1).toNat * 2)).off + 1, none⟩ = some (.string ((rd_T26 l0 x8_1).f1))) (ds := [15]) #[false, false, false, false, false, false, false, false, false, false, false, false, false, false, false, false, false] (by kernel_rfl) rfl rfl ⟨(blk_cell BK163.out 0).trans rfl, (blk_cell BK163.out 1).trans rfl, (blk_cell BK163.out 2).trans rfl, ((HB.out.cell (World.block_lt_of_cell? w _ hw164_0)).trans hw164_0), ((HB.out.cell (World.block_lt_of_cell? w _ hw164_1)).trans hw164_1), ((HB.out.cell (World.block_lt_of_cell? w _ hw165_0)).trans hw165_0), ((HB.out.cell (World.block_lt_of_cell? w _ hw165_1)).trans hw165_1)⟩ (fun hHeld => ?_); refine with_tabW rehearsalref11_New.tab6 rehearsalref11_New.bits6 (fun HT_ HW_ => ?_)
            generalize wr.drew = w9 at HO_1 HO_164000 HO_164001 BK162 BK163 HB hx164_0 hx164_1 hx165_0 hx165_1 hHeld ⊢
            refine pure_ (i := 1) (N := some 17) (v := ?_) (a' := ?_) #[false, true, false, false, false, false, false, false, false, false, false, false, false, false, false, false, false] rfl rfl (any_of HT_.out (by kernel_rfl)) (fun _ _ _ h => h) (Or.inl ⟨by rfl, ?_⟩) ?_ ?_
            rotate_left
            · intro w'
              go_simp
              with_reducible rfl
            rotate_left
            · simp only [Act.put, List.setIfInBounds_toArray, List.set_cons_zero, List.set_cons_succ, i64_w, i32_w]
              rfl
            refine pure_ (i := 2) (N := some 18) (v := ?_) (a' := ?_) #[false, true, true, false, false, false, false, false, false, false, false, false, false, false, false, false, false] rfl rfl (any_of HT_.out (by kernel_rfl)) (fun _ _ _ h => h) (Or.inl ⟨by rfl, ?_⟩) ?_ ?_
            rotate_left
            · intro w'
              go_simp
              with_reducible rfl
            rotate_left
            · simp only [Act.put, List.setIfInBounds_toArray, List.set_cons_zero, List.set_cons_succ, i64_w, i32_w]
              rfl
            refine pure_ (i := 3) (N := some 19) (v := ?_) (a' := ?_) #[false, true, true, true, false, false, false, false, false, false, false, false, false, false, false, false, false] rfl rfl (any_of HT_.out (by kernel_rfl)) (fun _ _ _ h => h) (Or.inl ⟨by rfl, ?_⟩) ?_ ?_
            rotate_left
            · intro w'
              go_simp
              with_reducible rfl
            rotate_left
            · simp only [Act.put, List.setIfInBounds_toArray, List.set_cons_zero, List.set_cons_succ, i64_w, i32_w]
              rfl
            refine pure_ (i := 4) (N := some 20) (v := ?_) (a' := ?_) #[false, true, true, true, true, false, false, false, false, false, false, false, false, false, false, false, false] rfl rfl (any_of HT_.out (by kernel_rfl)) (fun _ _ _ h => h) (Or.inl ⟨by rfl, ?_⟩) ?_ ?_
            rotate_left
            · intro w'
              go_simp
              with_reducible rfl
            rotate_left
            · simp only [Act.put, List.setIfInBounds_toArray, List.set_cons_zero, List.set_cons_succ, i64_w, i32_w]
              rfl
            refine pure_ (i := 6) (N := some 22) (v := ?_) (a' := ?_) #[false, true, true, true, true, false, true, false, false, false, false, false, false, false, false, false, false] rfl rfl (any_of HT_.out (by kernel_rfl)) (fun _ _ _ h => h) (Or.inl ⟨by rfl, ?_⟩) ?_ ?_
            rotate_left
            · intro w'
              go_simp
              with_reducible rfl
            rotate_left
            · simp only [Act.put, List.setIfInBounds_toArray, List.set_cons_zero, List.set_cons_succ, i64_w, i32_w]
              rfl
            refine pure_ (i := 7) (N := some 23) (v := ?_) (a' := ?_) #[false, true, true, true, true, false, true, true, false, false, false, false, false, false, false, false, false] rfl rfl (any_of HT_.out (by kernel_rfl)) (fun _ _ _ h => h) (Or.inl ⟨by rfl, ?_⟩) ?_ ?_
            rotate_left
            · intro w'
              go_simp
              with_reducible rfl
            rotate_left
            · simp only [Act.put, List.setIfInBounds_toArray, List.set_cons_zero, List.set_cons_succ, i64_w, i32_w]
              rfl
            refine pure_ (i := 8) (N := some 24) (v := ?_) (a' := ?_) #[false, true, true, true, true, false, true, true, true, false, false, false, false, false, false, false, false] rfl rfl (any_of HT_.out (by kernel_rfl)) (fun _ _ _ h => h) (Or.inl ⟨by rfl, ?_⟩) ?_ ?_
            rotate_left
            · intro w'
              go_simp
              with_reducible rfl
            rotate_left
            · simp only [Act.put, List.setIfInBounds_toArray, List.set_cons_zero, List.set_cons_succ, i64_w, i32_w]
              rfl
            refine pure_ (i := 9) (N := some 25) (v := ?_) (a' := ?_) #[false, true, true, true, true, false, true, true, true, true, false, false, false, false, false, false, false] rfl rfl (any_of HT_.out (by kernel_rfl)) (fun _ _ _ h => h) (Or.inl ⟨by rfl, ?_⟩) ?_ ?_
            rotate_left
            · intro w'
              go_simp
              with_reducible rfl
            rotate_left
            · simp only [Act.put, List.setIfInBounds_toArray, List.set_cons_zero, List.set_cons_succ, i64_w, i32_w]
              rfl
            refine take_ (i := 0) (N := some 16) (v := ?_) (a' := ?_) #[true, true, true, true, true, false, true, true, true, true, false, false, false, false, false, false, false] rfl rfl (take_ofW HT_.out HW_.out (by kernel_rfl)) (fun _ _ _ h => h) (Or.inl ⟨by rfl, ?_⟩) hHeld ?_ ?_
            rotate_left
            · rintro w' ⟨s0, s1, s2, s3, s4, s5, s6⟩
              go_simp
              with_reducible rfl
            rotate_left
            · simp only [Act.put, List.setIfInBounds_toArray, List.set_cons_zero, List.set_cons_succ, i64_w, i32_w]
              rfl
            refine take_ (i := 5) (N := some 21) (v := ?_) (a' := ?_) #[true, true, true, true, true, true, true, true, true, true, false, false, false, false, false, false, false] rfl rfl (take_ofW HT_.out HW_.out (by kernel_rfl)) (fun _ _ _ h => h) (Or.inl ⟨by rfl, ?_⟩) hHeld ?_ ?_
            rotate_left
            · rintro w' ⟨s0, s1, s2, s3, s4, s5, s6⟩
              go_simp
              with_reducible rfl
            rotate_left
            · simp only [Act.put, List.setIfInBounds_toArray, List.set_cons_zero, List.set_cons_succ, i64_w, i32_w]
              rfl
            refine take_ (i := 10) (N := some 26) (v := ?_) (a' := ?_) #[true, true, true, true, true, true, true, true, true, true, true, false, false, false, false, false, false] rfl rfl (take_ofW HT_.out HW_.out (by kernel_rfl)) (fun _ _ _ h => h) (Or.inl ⟨by rfl, ?_⟩) hHeld ?_ ?_
            rotate_left
            · rintro w' ⟨s0, s1, s2, s3, s4, s5, s6⟩
              go_simp
              with_reducible rfl
            rotate_left
            · simp only [Act.put, List.setIfInBounds_toArray, List.set_cons_zero, List.set_cons_succ, i64_w, i32_w]
              rfl
            refine one_ (i := 11) (N := some 27) #[true, true, true, true, true, true, true, true, true, true, true, true, false, false, false, false, false] rfl rfl (one_of HT_.out (by kernel_rfl)) (by decide) (fun K hK => ?_)
            refine goes_ Try.func24 (by kernel_rfl) rfl #[.agg #[.slice Ao10 x164000_1.length co10, .slice Ao11 x164001_1.length co11, .int .i64 x164002_1], .string ((rd_T26 l0 x8_1).f0), .string ((rd_T26 l0 x8_1).f1)] (by rfl) rfl rfl (by (try simp only [List.map_toArray, List.map_cons, List.map_nil]); first | done | rfl | (simp only [List.length_drop, List.length_take]; rfl)) ?_
            with_reducible refine (rehearsalref11_Table_Set.calls k1 (fun k_ => ((P1_ k_ ∨ w.heap.size ≤ k_) ∧ (k_ ≠ gb162 ∧ k_ ≠ gb163))) _ _ x164000_1 (fun k_ => ((P1_ k_ ∨ w.heap.size ≤ k_) ∧ (k_ ≠ gb162 ∧ k_ ≠ gb163))) _ _ x164001_1 x164002_1 ((rd_T26 l0 x8_1).f0) ((rd_T26 l0 x8_1).f1) t166 t169 t172 t173 _ ?side1 ?side2 A7.out).mono ?_
            (case side1 => exact HO_164000.out)
            (case side2 => exact HO_164001.out)
            rintro e w12 ⟨v167, v170, rfl, ho0, ho1, hb⟩
            refine ⟨_, rfl, ?_⟩
            have n0_ := Aside0.mk (Kd.V_below (by (with_reducible repeat (first | apply Kd.V_alloc | apply Kd.V_drewN | apply Kd.V_drew)); exact HO_1.out) hb)
            have n1_ := Aside0.mk (Kd.V_below (by (with_reducible repeat (first | apply Kd.V_alloc | apply Kd.V_drewN | apply Kd.V_drew)); exact HO_164000.out) hb)
            have n2_ := Aside0.mk (Kd.V_below (by (with_reducible repeat (first | apply Kd.V_alloc | apply Kd.V_drewN | apply Kd.V_drew)); exact HO_164001.out) hb)
            have n3_ := Aside0.mk (Kd.V_lower (Kd.V_mono (ok' := fun k_ => (P1_ k_ ∨ w.heap.size ≤ k_) ∧ k_ ≠ gb162 ∧ k_ ≠ gb163) ho0 (fun k_ hk_ => ⟨Or.elim hk_ (fun hs_ => Or.elim hs_ (fun hs_ => hs_.1) (fun hs_ => hs_.1)) (fun hn_ => (.inr (Nat.le_trans (below_size (by repeat (first | (with_reducible first | exact HB.out | apply below_alloc | apply pw_below_drewN | apply below_drew1 | refine below_set ?_ GE162.out | refine below_set ?_ GE163.out) | exact HB.out))) hn_))), Or.elim hk_ (fun hs_ => Or.elim hs_ (fun hs_ => hs_.2.1) (fun hs_ => hs_.2.1)) (fun hn_ => (Kd.freshB (g := gb162) (o := .cells #[.slice none 0 0, .slice none 0 0, .int .i64 x163002_1] 36 (0, 0)) (by (with_reducible repeat (first | refine blk_drewN ?_ _ | refine blk_drew ?_ | refine blk_alloc ?_ _)); exact BK162.out) k_ hn_)), Or.elim hk_ (fun hs_ => Or.elim hs_ (fun hs_ => hs_.2.2) (fun hs_ => hs_.2.2)) (fun hn_ => (Kd.freshB (g := gb163) (o := .cells #[.slice Ao10 x164000_1.length co10, .slice Ao11 x164001_1.length co11, .int .i64 x164002_1] 36 (0, 0)) (by (with_reducible repeat (first | refine blk_drewN ?_ _ | refine blk_drew ?_ | refine blk_alloc ?_ _)); exact BK163.out) k_ hn_))⟩)) (below_size (by repeat (first | (with_reducible first | exact HB.out | apply below_alloc | apply pw_below_drewN | apply below_drew1 | refine below_set ?_ GE162.out | refine below_set ?_ GE163.out) | exact HB.out))))
            have n4_ := Aside0.mk (Kd.V_lower (Kd.V_mono (ok' := fun k_ => (P1_ k_ ∨ w.heap.size ≤ k_) ∧ k_ ≠ gb162 ∧ k_ ≠ gb163) ho1 (fun k_ hk_ => ⟨Or.elim hk_ (fun hs_ => Or.elim hs_ (fun hs_ => hs_.1) (fun hs_ => hs_.1)) (fun hn_ => (.inr (Nat.le_trans (below_size (by repeat (first | (with_reducible first | exact HB.out | apply below_alloc | apply pw_below_drewN | apply below_drew1 | refine below_set ?_ GE162.out | refine below_set ?_ GE163.out) | exact HB.out))) hn_))), Or.elim hk_ (fun hs_ => Or.elim hs_ (fun hs_ => hs_.2.1) (fun hs_ => hs_.2.1)) (fun hn_ => (Kd.freshB (g := gb162) (o := .cells #[.slice none 0 0, .slice none 0 0, .int .i64 x163002_1] 36 (0, 0)) (by (with_reducible repeat (first | refine blk_drewN ?_ _ | refine blk_drew ?_ | refine blk_alloc ?_ _)); exact BK162.out) k_ hn_)), Or.elim hk_ (fun hs_ => Or.elim hs_ (fun hs_ => hs_.2.2) (fun hs_ => hs_.2.2)) (fun hn_ => (Kd.freshB (g := gb163) (o := .cells #[.slice Ao10 x164000_1.length co10, .slice Ao11 x164001_1.length co11, .int .i64 x164002_1] 36 (0, 0)) (by (with_reducible repeat (first | refine blk_drewN ?_ _ | refine blk_drew ?_ | refine blk_alloc ?_ _)); exact BK163.out) k_ hn_))⟩)) (below_size (by repeat (first | (with_reducible first | exact HB.out | apply below_alloc | apply pw_below_drewN | apply below_drew1 | refine below_set ?_ GE162.out | refine below_set ?_ GE163.out) | exact HB.out))))
            have n5_ := Aside0.mk (blk_below (g := gb162) (o := .cells #[.slice none 0 0, .slice none 0 0, .int .i64 x163002_1] 36 (0, 0)) (by (with_reducible repeat (first | refine blk_drewN ?_ _ | refine blk_drew ?_ | refine blk_alloc ?_ _)); exact BK162.out) hb)
            have n6_ := Aside0.mk (blk_below (g := gb163) (o := .cells #[.slice Ao10 x164000_1.length co10, .slice Ao11 x164001_1.length co11, .int .i64 x164002_1] 36 (0, 0)) (by (with_reducible repeat (first | refine blk_drewN ?_ _ | refine blk_drew ?_ | refine blk_alloc ?_ _)); exact BK163.out) hb)
            have n7_ := Aside0.mk (below_step (by repeat (first | (with_reducible first | exact HB.out | apply below_alloc | apply pw_below_drewN | apply below_drew1 | refine below_set ?_ GE162.out | refine below_set ?_ GE163.out) | exact HB.out)) hb)
            clear HO_1
            clear HO_164000
            clear HO_164001
            clear BK162
            clear BK163
            clear HB
            have HO_1 := n0_
            have HO_164000 := n1_
            have HO_164001 := n2_
            have HO168 := n3_
            have HO171 := n4_
            have BK162 := n5_
            have BK163 := n6_
            have HB := n7_
            clear n0_ n1_ n2_ n3_ n4_ n5_ n6_ n7_
            (try clear hb)
            (try clear hb2)
            (try clear hk)
            (try clear hi)
            (try clear ho0)
            (try clear ho1)
            obtain ⟨Ao13, co13, eo13⟩ := Kd.V_slice HO168.out
            (first | subst eo13 | (injection eo13 with f1_ f2_ f3_; have f4_ := f1_.symm; have f5_ := f3_.symm; clear f1_ f2_ f3_; subst f4_; subst f5_))
            obtain ⟨Ao15, co15, eo15⟩ := Kd.V_slice HO171.out
            (first | subst eo15 | (injection eo15 with f1_ f2_ f3_; have f4_ := f1_.symm; have f5_ := f3_.symm; clear f1_ f2_ f3_; subst f4_; subst f5_))
            refine hK.out _ _ ⟨(blk_cell BK163.out 0).trans rfl, (blk_cell BK163.out 1).trans rfl, (blk_cell BK163.out 2).trans rfl, ((HB.out.cell (World.block_lt_of_cell? w _ hw164_0)).trans hw164_0), ((HB.out.cell (World.block_lt_of_cell? w _ hw164_1)).trans hw164_1), ((HB.out.cell (World.block_lt_of_cell? w _ hw165_0)).trans hw165_0), ((HB.out.cell (World.block_lt_of_cell? w _ hw165_1)).trans hw165_1)⟩ (fun hHeld => ?_)
            clear hK K
            refine norm_ (a' := ?_) ?_ ?_
            rotate_left
            · show Act.put _ (some 27) _ = _
              simp only [Act.put, List.setIfInBounds_toArray, List.set_cons_zero, List.set_cons_succ, i64_w, i32_w]
              rfl
            refine pure_ (i := 12) (N := some 15) (v := ?_) (a' := ?_) #[true, true, true, true, true, true, true, true, true, true, true, true, true, false, false, false, false] rfl rfl (any_of HT_.out (by kernel_rfl)) (fun _ _ _ h => h) (Or.inl ⟨by rfl, ?_⟩) ?_ ?_
            rotate_left
            · intro w'
              go_simp
              with_reducible rfl
            rotate_left
            · simp only [Act.put, List.setIfInBounds_toArray, List.set_cons_zero, List.set_cons_succ, i64_w, i32_w]
              rfl
            refine pure_ (i := 13) (N := some 28) (v := ?_) (a' := ?_) #[true, true, true, true, true, true, true, true, true, true, true, true, true, true, false, false, false] rfl rfl (any_of HT_.out (by kernel_rfl)) (fun _ _ _ h => h) (Or.inl ⟨by rfl, ?_⟩) ?_ ?_
            rotate_left
            · intro w'
              go_simp
              with_reducible rfl
            rotate_left
            · simp only [Act.put, List.setIfInBounds_toArray, List.set_cons_zero, List.set_cons_succ, i64_w, i32_w]
              rfl
            refine pure_ (i := 14) (N := some 29) (v := ?_) (a' := ?_) #[true, true, true, true, true, true, true, true, true, true, true, true, true, true, true, false, false] rfl rfl (any_of HT_.out (by kernel_rfl)) (fun _ _ _ h => h) (Or.inl ⟨by rfl, ?_⟩) ?_ ?_
            rotate_left
            · intro w'
              go_simp
              with_reducible rfl
            rotate_left
            · simp only [Act.put, List.setIfInBounds_toArray, List.set_cons_zero, List.set_cons_succ, i64_w, i32_w]
              rfl
            refine last_ (i := 15) (N := none) #[true, true, true, true, true, true, true, true, true, true, true, true, true, true, true, true, false] rfl rfl (one_of HT_.out (by kernel_rfl)) (by decide) (fun K hK => ?_)
            have hs14 : w12.cell? ⟨gb163, 0, none⟩ = some (.slice Ao10 x164000_1.length co10) := (blk_cell BK163.out 0).trans rfl
            have hfs14 := blk_frozen BK163.out 0
            have hns14_0 := NB162_163.out
            have hms14_0 := NB163_162.out
            have hs16 : w12.cell? ⟨gb163, 1, none⟩ = some (.slice Ao11 x164001_1.length co11) := (blk_cell BK163.out 1).trans rfl
            have hfs16 := blk_frozen BK163.out 1
            have hns16_0 := NB162_163.out
            have hms16_0 := NB163_162.out
            have hs17 : w12.cell? ⟨gb163, 2, none⟩ = some (.int .i64 x164002_1) := (blk_cell BK163.out 2).trans rfl
            have hfs17 := blk_frozen BK163.out 2
            have hns17_0 := NB162_163.out
            have hms17_0 := NB163_162.out
            refine skip_ (w1 := ?_) (by rfl) rfl ?_ ?_
            rotate_left
            · go_simp
              rfl
            refine hK.out _ _ ?_
            clear hK K
            refine pure_ (i := 16) (N := some 7) (v := ?_) (a' := ?_) #[true, true, true, true, true, true, true, true, true, true, true, true, true, true, true, true, true] rfl rfl (any_of HT_.out (by kernel_rfl)) (fun _ _ _ h => h) (Or.inl ⟨by rfl, ?_⟩) ?_ ?_
            rotate_left
            · intro w'
              go_simp
              with_reducible rfl
            rotate_left
            · simp only [Act.put, List.setIfInBounds_toArray, List.set_cons_zero, List.set_cons_succ, i64_w, i32_w]
              rfl
            refine done_ (done_of HT_.out (by kernel_rfl)) ?_
            try go_wp2
            go_roundg k1
            case measure => have := HK1.out; omega
            case rel => exact ⟨(wrap64 (x8_1 + 1)), (x163002_1), (t166), (t169), (t172), (.slice Ao13 t166.length co13), (.slice Ao15 t169.length co15), (by first | rfl | (simp; done) | (simp [*]; done)), H', ⟨by have := HK1.out; omega⟩, ⟨by (with_reducible repeat (first | apply Kd.V_alloc | apply Kd.V_drewN | apply Kd.V_drew)); exact Kd.V_mono (Kd.V_far (p := ⟨gb163, 2, none⟩) (Kd.V_far (p := ⟨gb163, 1, none⟩) (Kd.V_far (p := ⟨gb163, 0, none⟩) (Kd.V_mono HO_1.out (fun k_ hk => (⟨hk, hk.2.2⟩ : _ ∧ k_ ≠ gb163))) (fun _ hk => hk.2) (.slice Ao13 t166.length co13)) (fun _ hk => hk.2) (.slice Ao15 t169.length co15)) (fun _ hk => hk.2) (.int .i64 t172)) (fun _ hk => ⟨hk.1.1, ⟨hk.1.2.1, hk.1.2.2⟩⟩)⟩, ⟨by (with_reducible repeat (first | apply Kd.V_alloc | apply Kd.V_drewN | apply Kd.V_drew)); exact Kd.V_mono (Kd.V_far (p := ⟨gb163, 2, none⟩) (Kd.V_far (p := ⟨gb163, 1, none⟩) (Kd.V_far (p := ⟨gb163, 0, none⟩) (Kd.V_mono HO168.out (fun k_ hk => (⟨hk, hk.2.2⟩ : _ ∧ k_ ≠ gb163))) (fun _ hk => hk.2) (.slice Ao13 t166.length co13)) (fun _ hk => hk.2) (.slice Ao15 t169.length co15)) (fun _ hk => hk.2) (.int .i64 t172)) (fun _ hk => ⟨hk.1.1, ⟨hk.1.2.1, hk.1.2.2⟩⟩)⟩, ⟨by (with_reducible repeat (first | apply Kd.V_alloc | apply Kd.V_drewN | apply Kd.V_drew)); exact Kd.V_mono (Kd.V_far (p := ⟨gb163, 2, none⟩) (Kd.V_far (p := ⟨gb163, 1, none⟩) (Kd.V_far (p := ⟨gb163, 0, none⟩) (Kd.V_mono HO171.out (fun k_ hk => (⟨hk, hk.2.2⟩ : _ ∧ k_ ≠ gb163))) (fun _ hk => hk.2) (.slice Ao13 t166.length co13)) (fun _ hk => hk.2) (.slice Ao15 t169.length co15)) (fun _ hk => hk.2) (.int .i64 t172)) (fun _ hk => ⟨hk.1.1, ⟨hk.1.2.1, hk.1.2.2⟩⟩)⟩, ⟨by (with_reducible repeat (first | refine blk_drewN ?_ _ | refine blk_drew ?_ | refine blk_alloc ?_ _)); refine blk_far ?_ NB162_163.out _; (with_reducible repeat (first | refine blk_drewN ?_ _ | refine blk_drew ?_ | refine blk_alloc ?_ _)); refine blk_far ?_ NB162_163.out _; (with_reducible repeat (first | refine blk_drewN ?_ _ | refine blk_drew ?_ | refine blk_alloc ?_ _)); refine blk_far ?_ NB162_163.out _; (with_reducible repeat (first | refine blk_drewN ?_ _ | refine blk_drew ?_ | refine blk_alloc ?_ _)); exact BK162.out⟩, ⟨by (with_reducible repeat (first | refine blk_drewN ?_ _ | refine blk_drew ?_ | refine blk_alloc ?_ _)); refine blk_put (cs := #[.slice Ao13 t166.length co13, .slice Ao15 t169.length co15, .int .i64 x164002_1]) ?_ 2 _ (by first | rfl | (simp only [w64_PV15]; rfl) | (simp [w64_PV15]; done)); (with_reducible repeat (first | refine blk_drewN ?_ _ | refine blk_drew ?_ | refine blk_alloc ?_ _)); refine blk_put (cs := #[.slice Ao13 t166.length co13, .slice Ao11 x164001_1.length co11, .int .i64 x164002_1]) ?_ 1 _ (by first | rfl | (simp only [w64_PV15]; rfl) | (simp [w64_PV15]; done)); (with_reducible repeat (first | refine blk_drewN ?_ _ | refine blk_drew ?_ | refine blk_alloc ?_ _)); refine blk_put (cs := #[.slice Ao10 x164000_1.length co10, .slice Ao11 x164001_1.length co11, .int .i64 x164002_1]) ?_ 0 _ (by first | rfl | (simp only [w64_PV15]; rfl) | (simp [w64_PV15]; done)); (with_reducible repeat (first | refine blk_drewN ?_ _ | refine blk_drew ?_ | refine blk_alloc ?_ _)); exact BK163.out⟩, ⟨by repeat (first | (with_reducible first | exact HB.out | apply below_alloc | apply pw_below_drewN | apply below_drew1 | refine below_set ?_ GE162.out | refine below_set ?_ GE163.out) | exact HB.out)⟩⟩
          · rw [if_neg c8] at H
            have c8b0 : (t173 == 0) = false := beq_eq_false_iff_ne.mpr c8
            have c8b1 : (t173 != 0) = true := bne_iff_ne.mpr c8
            simp only [Option.some.injEq, Prod.mk.injEq] at H
            obtain ⟨rfl, rfl, rfl, rfl⟩ := H
            try go_wp2
            have n0_ := Aside0.mk (Kd.V_drew HO_1.out)
            have n1_ := Aside0.mk (Kd.V_drew HO_164000.out)
            have n2_ := Aside0.mk (Kd.V_drew HO_164001.out)
            have n3_ := Aside0.mk (blk_drew BK162.out)
            have n4_ := Aside0.mk (blk_drew BK163.out)
            have n5_ := Aside0.mk (below_drew1 HB.out)
            clear HO_1
            clear HO_164000
            clear HO_164001
            clear BK162
            clear BK163
            clear HB
            have HO_1 := n0_
            have HO_164000 := n1_
            have HO_164001 := n2_
            have BK162 := n3_
            have BK163 := n4_
            have HB := n5_
            clear n0_ n1_ n2_ n3_ n4_ n5_
            have p164 : 0 ≤ (x8_1 : Int) := of_decide_eq_true (by first | (with_reducible assumption) | assumption)
            have q164 : x8_1 < (l0.length : Int) := of_decide_eq_true (by first | (with_reducible assumption) | assumption)
            obtain ⟨ad164, e164, hx164_0, hx164_1⟩ := at_T26 HR0.out x8_1 p164 q164
            have hw164_1 := hx164_1
            have hw164_0 := hx164_0
            cases e164
            replace hx164_0 := (HB.out.cell (World.block_lt_of_cell? w _ hx164_0)).trans hx164_0
            replace hx164_1 := (HB.out.cell (World.block_lt_of_cell? w _ hx164_1)).trans hx164_1
            replace p164 := eq_true p164
            replace q164 := eq_true q164
            have p165 : 0 ≤ (x8_1 : Int) := of_decide_eq_true (by first | (with_reducible assumption) | assumption)
            have q165 : x8_1 < (l0.length : Int) := of_decide_eq_true (by first | (with_reducible assumption) | assumption)
            obtain ⟨ad165, e165, hx165_0, hx165_1⟩ := at_T26 HR0.out x8_1 p165 q165
            have hw165_1 := hx165_1
            have hw165_0 := hx165_0
            obtain rfl : ad164 = ad165 := (by injection e165)
            replace hx165_0 := (HB.out.cell (World.block_lt_of_cell? w _ hx165_0)).trans hx165_0
            replace hx165_1 := (HB.out.cell (World.block_lt_of_cell? w _ hx165_1)).trans hx165_1
            replace p165 := eq_true p165
            replace q165 := eq_true q165
            obtain ⟨Ao19, co19, eo19⟩ := Kd.V_slice HO_164000.out
            (first | subst eo19 | (injection eo19 with f1_ f2_ f3_; have f4_ := f1_.symm; have f5_ := f3_.symm; clear f1_ f2_ f3_; subst f4_; subst f5_))
            obtain ⟨Ao20, co20, eo20⟩ := Kd.V_slice HO_164001.out
            (first | subst eo20 | (injection eo20 with f1_ f2_ f3_; have f4_ := f1_.symm; have f5_ := f3_.symm; clear f1_ f2_ f3_; subst f4_; subst f5_))
            refine start_ (n := 17) (S := fun w' => w'.cell? ⟨gb163, 0, none⟩ = some (.slice Ao19 x164000_1.length co19) ∧ w'.cell? ⟨gb163, 1, none⟩ = some (.slice Ao20 x164001_1.length co20) ∧ w'.cell? ⟨gb163, 2, none⟩ = some (.int .i64 x164002_1) ∧ w'.cell? (ad164.add ((x8_1).toNat * 2)) = some (.string ((rd_T26 l0 x8_1).f0)) ∧ w'.cell? ⟨(ad164.add ((x8_1).toNat * 2)).block, (ad164.add ((x8_1).toNat * 2)).off + 1, none⟩ = some (.string ((rd_T26 l0 x8_1).f1)) ∧ w'.cell? (ad164.add ((x8_1).toNat * 2)) = some (.string ((rd_T26 l0 x8_1).f0)) ∧ w'.cell? ⟨(ad164.add ((x8_1).toNat * 2)).block, (ad164.add ((x8_1).toNat * 2)).off + 1, none⟩ = some (.string ((rd_T26 l0 x8_1).f1))) (ds := [15]) #[false, false, false, false, false, false, false, false, false, false, false, false, false, false, false, false, false] (by kernel_rfl) rfl rfl ⟨(blk_cell BK163.out 0).trans rfl, (blk_cell BK163.out 1).trans rfl, (blk_cell BK163.out 2).trans rfl, ((HB.out.cell (World.block_lt_of_cell? w _ hw164_0)).trans hw164_0), ((HB.out.cell (World.block_lt_of_cell? w _ hw164_1)).trans hw164_1), ((HB.out.cell (World.block_lt_of_cell? w _ hw165_0)).trans hw165_0), ((HB.out.cell (World.block_lt_of_cell? w _ hw165_1)).trans hw165_1)⟩ (fun hHeld => ?_); refine with_tabW rehearsalref11_New.tab6 rehearsalref11_New.bits6 (fun HT_ HW_ => ?_)
            generalize wr.drew = w18 at HO_1 HO_164000 HO_164001 BK162 BK163 HB hx164_0 hx164_1 hx165_0 hx165_1 hHeld ⊢
            refine pure_ (i := 1) (N := some 17) (v := ?_) (a' := ?_) #[false, true, false, false, false, false, false, false, false, false, false, false, false, false, false, false, false] rfl rfl (any_of HT_.out (by kernel_rfl)) (fun _ _ _ h => h) (Or.inl ⟨by rfl, ?_⟩) ?_ ?_
            rotate_left
            · intro w'
              go_simp
              with_reducible rfl
            rotate_left
            · simp only [Act.put, List.setIfInBounds_toArray, List.set_cons_zero, List.set_cons_succ, i64_w, i32_w]
              rfl
            refine pure_ (i := 2) (N := some 18) (v := ?_) (a' := ?_) #[false, true, true, false, false, false, false, false, false, false, false, false, false, false, false, false, false] rfl rfl (any_of HT_.out (by kernel_rfl)) (fun _ _ _ h => h) (Or.inl ⟨by rfl, ?_⟩) ?_ ?_
            rotate_left
            · intro w'
              go_simp
              with_reducible rfl
            rotate_left
            · simp only [Act.put, List.setIfInBounds_toArray, List.set_cons_zero, List.set_cons_succ, i64_w, i32_w]
              rfl
            refine pure_ (i := 3) (N := some 19) (v := ?_) (a' := ?_) #[false, true, true, true, false, false, false, false, false, false, false, false, false, false, false, false, false] rfl rfl (any_of HT_.out (by kernel_rfl)) (fun _ _ _ h => h) (Or.inl ⟨by rfl, ?_⟩) ?_ ?_
            rotate_left
            · intro w'
              go_simp
              with_reducible rfl
            rotate_left
            · simp only [Act.put, List.setIfInBounds_toArray, List.set_cons_zero, List.set_cons_succ, i64_w, i32_w]
              rfl
            refine pure_ (i := 4) (N := some 20) (v := ?_) (a' := ?_) #[false, true, true, true, true, false, false, false, false, false, false, false, false, false, false, false, false] rfl rfl (any_of HT_.out (by kernel_rfl)) (fun _ _ _ h => h) (Or.inl ⟨by rfl, ?_⟩) ?_ ?_
            rotate_left
            · intro w'
              go_simp
              with_reducible rfl
            rotate_left
            · simp only [Act.put, List.setIfInBounds_toArray, List.set_cons_zero, List.set_cons_succ, i64_w, i32_w]
              rfl
            refine pure_ (i := 6) (N := some 22) (v := ?_) (a' := ?_) #[false, true, true, true, true, false, true, false, false, false, false, false, false, false, false, false, false] rfl rfl (any_of HT_.out (by kernel_rfl)) (fun _ _ _ h => h) (Or.inl ⟨by rfl, ?_⟩) ?_ ?_
            rotate_left
            · intro w'
              go_simp
              with_reducible rfl
            rotate_left
            · simp only [Act.put, List.setIfInBounds_toArray, List.set_cons_zero, List.set_cons_succ, i64_w, i32_w]
              rfl
            refine pure_ (i := 7) (N := some 23) (v := ?_) (a' := ?_) #[false, true, true, true, true, false, true, true, false, false, false, false, false, false, false, false, false] rfl rfl (any_of HT_.out (by kernel_rfl)) (fun _ _ _ h => h) (Or.inl ⟨by rfl, ?_⟩) ?_ ?_
            rotate_left
            · intro w'
              go_simp
              with_reducible rfl
            rotate_left
            · simp only [Act.put, List.setIfInBounds_toArray, List.set_cons_zero, List.set_cons_succ, i64_w, i32_w]
              rfl
            refine pure_ (i := 8) (N := some 24) (v := ?_) (a' := ?_) #[false, true, true, true, true, false, true, true, true, false, false, false, false, false, false, false, false] rfl rfl (any_of HT_.out (by kernel_rfl)) (fun _ _ _ h => h) (Or.inl ⟨by rfl, ?_⟩) ?_ ?_
            rotate_left
            · intro w'
              go_simp
              with_reducible rfl
            rotate_left
            · simp only [Act.put, List.setIfInBounds_toArray, List.set_cons_zero, List.set_cons_succ, i64_w, i32_w]
              rfl
            refine pure_ (i := 9) (N := some 25) (v := ?_) (a' := ?_) #[false, true, true, true, true, false, true, true, true, true, false, false, false, false, false, false, false] rfl rfl (any_of HT_.out (by kernel_rfl)) (fun _ _ _ h => h) (Or.inl ⟨by rfl, ?_⟩) ?_ ?_
            rotate_left
            · intro w'
              go_simp
              with_reducible rfl
            rotate_left
            · simp only [Act.put, List.setIfInBounds_toArray, List.set_cons_zero, List.set_cons_succ, i64_w, i32_w]
              rfl
            refine take_ (i := 0) (N := some 16) (v := ?_) (a' := ?_) #[true, true, true, true, true, false, true, true, true, true, false, false, false, false, false, false, false] rfl rfl (take_ofW HT_.out HW_.out (by kernel_rfl)) (fun _ _ _ h => h) (Or.inl ⟨by rfl, ?_⟩) hHeld ?_ ?_
            rotate_left
            · rintro w' ⟨s0, s1, s2, s3, s4, s5, s6⟩
              go_simp
              with_reducible rfl
            rotate_left
            · simp only [Act.put, List.setIfInBounds_toArray, List.set_cons_zero, List.set_cons_succ, i64_w, i32_w]
              rfl
            refine take_ (i := 5) (N := some 21) (v := ?_) (a' := ?_) #[true, true, true, true, true, true, true, true, true, true, false, false, false, false, false, false, false] rfl rfl (take_ofW HT_.out HW_.out (by kernel_rfl)) (fun _ _ _ h => h) (Or.inl ⟨by rfl, ?_⟩) hHeld ?_ ?_
            rotate_left
            · rintro w' ⟨s0, s1, s2, s3, s4, s5, s6⟩
              go_simp
              with_reducible rfl
            rotate_left
            · simp only [Act.put, List.setIfInBounds_toArray, List.set_cons_zero, List.set_cons_succ, i64_w, i32_w]
              rfl
            refine take_ (i := 10) (N := some 26) (v := ?_) (a' := ?_) #[true, true, true, true, true, true, true, true, true, true, true, false, false, false, false, false, false] rfl rfl (take_ofW HT_.out HW_.out (by kernel_rfl)) (fun _ _ _ h => h) (Or.inl ⟨by rfl, ?_⟩) hHeld ?_ ?_
            rotate_left
            · rintro w' ⟨s0, s1, s2, s3, s4, s5, s6⟩
              go_simp
              with_reducible rfl
            rotate_left
            · simp only [Act.put, List.setIfInBounds_toArray, List.set_cons_zero, List.set_cons_succ, i64_w, i32_w]
              rfl
            refine one_ (i := 11) (N := some 27) #[true, true, true, true, true, true, true, true, true, true, true, true, false, false, false, false, false] rfl rfl (one_of HT_.out (by kernel_rfl)) (by decide) (fun K hK => ?_)
            refine goes_ Try.func24 (by kernel_rfl) rfl #[.agg #[.slice Ao19 x164000_1.length co19, .slice Ao20 x164001_1.length co20, .int .i64 x164002_1], .string ((rd_T26 l0 x8_1).f0), .string ((rd_T26 l0 x8_1).f1)] (by rfl) rfl rfl (by (try simp only [List.map_toArray, List.map_cons, List.map_nil]); first | done | rfl | (simp only [List.length_drop, List.length_take]; rfl)) ?_
            with_reducible refine (rehearsalref11_Table_Set.calls k1 (fun k_ => ((P1_ k_ ∨ w.heap.size ≤ k_) ∧ (k_ ≠ gb162 ∧ k_ ≠ gb163))) _ _ x164000_1 (fun k_ => ((P1_ k_ ∨ w.heap.size ≤ k_) ∧ (k_ ≠ gb162 ∧ k_ ≠ gb163))) _ _ x164001_1 x164002_1 ((rd_T26 l0 x8_1).f0) ((rd_T26 l0 x8_1).f1) t166 t169 t172 t173 _ ?side1 ?side2 A7.out).mono ?_
            (case side1 => exact HO_164000.out)
            (case side2 => exact HO_164001.out)
            rintro e w21 ⟨v167, v170, rfl, ho0, ho1, hb⟩
            refine ⟨_, rfl, ?_⟩
            have n0_ := Aside0.mk (Kd.V_below (by (with_reducible repeat (first | apply Kd.V_alloc | apply Kd.V_drewN | apply Kd.V_drew)); exact HO_1.out) hb)
            have n1_ := Aside0.mk (Kd.V_below (by (with_reducible repeat (first | apply Kd.V_alloc | apply Kd.V_drewN | apply Kd.V_drew)); exact HO_164000.out) hb)
            have n2_ := Aside0.mk (Kd.V_below (by (with_reducible repeat (first | apply Kd.V_alloc | apply Kd.V_drewN | apply Kd.V_drew)); exact HO_164001.out) hb)
            have n3_ := Aside0.mk (Kd.V_lower (Kd.V_mono (ok' := fun k_ => (P1_ k_ ∨ w.heap.size ≤ k_) ∧ k_ ≠ gb162 ∧ k_ ≠ gb163) ho0 (fun k_ hk_ => ⟨Or.elim hk_ (fun hs_ => Or.elim hs_ (fun hs_ => hs_.1) (fun hs_ => hs_.1)) (fun hn_ => (.inr (Nat.le_trans (below_size (by repeat (first | (with_reducible first | exact HB.out | apply below_alloc | apply pw_below_drewN | apply below_drew1 | refine below_set ?_ GE162.out | refine below_set ?_ GE163.out) | exact HB.out))) hn_))), Or.elim hk_ (fun hs_ => Or.elim hs_ (fun hs_ => hs_.2.1) (fun hs_ => hs_.2.1)) (fun hn_ => (Kd.freshB (g := gb162) (o := .cells #[.slice none 0 0, .slice none 0 0, .int .i64 x163002_1] 36 (0, 0)) (by (with_reducible repeat (first | refine blk_drewN ?_ _ | refine blk_drew ?_ | refine blk_alloc ?_ _)); exact BK162.out) k_ hn_)), Or.elim hk_ (fun hs_ => Or.elim hs_ (fun hs_ => hs_.2.2) (fun hs_ => hs_.2.2)) (fun hn_ => (Kd.freshB (g := gb163) (o := .cells #[.slice Ao19 x164000_1.length co19, .slice Ao20 x164001_1.length co20, .int .i64 x164002_1] 36 (0, 0)) (by (with_reducible repeat (first | refine blk_drewN ?_ _ | refine blk_drew ?_ | refine blk_alloc ?_ _)); exact BK163.out) k_ hn_))⟩)) (below_size (by repeat (first | (with_reducible first | exact HB.out | apply below_alloc | apply pw_below_drewN | apply below_drew1 | refine below_set ?_ GE162.out | refine below_set ?_ GE163.out) | exact HB.out))))
            have n4_ := Aside0.mk (Kd.V_lower (Kd.V_mono (ok' := fun k_ => (P1_ k_ ∨ w.heap.size ≤ k_) ∧ k_ ≠ gb162 ∧ k_ ≠ gb163) ho1 (fun k_ hk_ => ⟨Or.elim hk_ (fun hs_ => Or.elim hs_ (fun hs_ => hs_.1) (fun hs_ => hs_.1)) (fun hn_ => (.inr (Nat.le_trans (below_size (by repeat (first | (with_reducible first | exact HB.out | apply below_alloc | apply pw_below_drewN | apply below_drew1 | refine below_set ?_ GE162.out | refine below_set ?_ GE163.out) | exact HB.out))) hn_))), Or.elim hk_ (fun hs_ => Or.elim hs_ (fun hs_ => hs_.2.1) (fun hs_ => hs_.2.1)) (fun hn_ => (Kd.freshB (g := gb162) (o := .cells #[.slice none 0 0, .slice none 0 0, .int .i64 x163002_1] 36 (0, 0)) (by (with_reducible repeat (first | refine blk_drewN ?_ _ | refine blk_drew ?_ | refine blk_alloc ?_ _)); exact BK162.out) k_ hn_)), Or.elim hk_ (fun hs_ => Or.elim hs_ (fun hs_ => hs_.2.2) (fun hs_ => hs_.2.2)) (fun hn_ => (Kd.freshB (g := gb163) (o := .cells #[.slice Ao19 x164000_1.length co19, .slice Ao20 x164001_1.length co20, .int .i64 x164002_1] 36 (0, 0)) (by (with_reducible repeat (first | refine blk_drewN ?_ _ | refine blk_drew ?_ | refine blk_alloc ?_ _)); exact BK163.out) k_ hn_))⟩)) (below_size (by repeat (first | (with_reducible first | exact HB.out | apply below_alloc | apply pw_below_drewN | apply below_drew1 | refine below_set ?_ GE162.out | refine below_set ?_ GE163.out) | exact HB.out))))
            have n5_ := Aside0.mk (blk_below (g := gb162) (o := .cells #[.slice none 0 0, .slice none 0 0, .int .i64 x163002_1] 36 (0, 0)) (by (with_reducible repeat (first | refine blk_drewN ?_ _ | refine blk_drew ?_ | refine blk_alloc ?_ _)); exact BK162.out) hb)
            have n6_ := Aside0.mk (blk_below (g := gb163) (o := .cells #[.slice Ao19 x164000_1.length co19, .slice Ao20 x164001_1.length co20, .int .i64 x164002_1] 36 (0, 0)) (by (with_reducible repeat (first | refine blk_drewN ?_ _ | refine blk_drew ?_ | refine blk_alloc ?_ _)); exact BK163.out) hb)
            have n7_ := Aside0.mk (below_step (by repeat (first | (with_reducible first | exact HB.out | apply below_alloc | apply pw_below_drewN | apply below_drew1 | refine below_set ?_ GE162.out | refine below_set ?_ GE163.out) | exact HB.out)) hb)
            clear HO_1
            clear HO_164000
            clear HO_164001
            clear BK162
            clear BK163
            clear HB
            have HO_1 := n0_
            have HO_164000 := n1_
            have HO_164001 := n2_
            have HO168 := n3_
            have HO171 := n4_
            have BK162 := n5_
            have BK163 := n6_
            have HB := n7_
            clear n0_ n1_ n2_ n3_ n4_ n5_ n6_ n7_
            (try clear hb)
            (try clear hb2)
            (try clear hk)
            (try clear hi)
            (try clear ho0)
            (try clear ho1)
            obtain ⟨Ao22, co22, eo22⟩ := Kd.V_slice HO168.out
            (first | subst eo22 | (injection eo22 with f1_ f2_ f3_; have f4_ := f1_.symm; have f5_ := f3_.symm; clear f1_ f2_ f3_; subst f4_; subst f5_))
            obtain ⟨Ao24, co24, eo24⟩ := Kd.V_slice HO171.out
            (first | subst eo24 | (injection eo24 with f1_ f2_ f3_; have f4_ := f1_.symm; have f5_ := f3_.symm; clear f1_ f2_ f3_; subst f4_; subst f5_))
            refine hK.out _ _ ⟨(blk_cell BK163.out 0).trans rfl, (blk_cell BK163.out 1).trans rfl, (blk_cell BK163.out 2).trans rfl, ((HB.out.cell (World.block_lt_of_cell? w _ hw164_0)).trans hw164_0), ((HB.out.cell (World.block_lt_of_cell? w _ hw164_1)).trans hw164_1), ((HB.out.cell (World.block_lt_of_cell? w _ hw165_0)).trans hw165_0), ((HB.out.cell (World.block_lt_of_cell? w _ hw165_1)).trans hw165_1)⟩ (fun hHeld => ?_)
            clear hK K
            refine norm_ (a' := ?_) ?_ ?_
            rotate_left
            · show Act.put _ (some 27) _ = _
              simp only [Act.put, List.setIfInBounds_toArray, List.set_cons_zero, List.set_cons_succ, i64_w, i32_w]
              rfl
            refine pure_ (i := 12) (N := some 15) (v := ?_) (a' := ?_) #[true, true, true, true, true, true, true, true, true, true, true, true, true, false, false, false, false] rfl rfl (any_of HT_.out (by kernel_rfl)) (fun _ _ _ h => h) (Or.inl ⟨by rfl, ?_⟩) ?_ ?_
            rotate_left
            · intro w'
              go_simp
              with_reducible rfl
            rotate_left
            · simp only [Act.put, List.setIfInBounds_toArray, List.set_cons_zero, List.set_cons_succ, i64_w, i32_w]
              rfl
            refine pure_ (i := 13) (N := some 28) (v := ?_) (a' := ?_) #[true, true, true, true, true, true, true, true, true, true, true, true, true, true, false, false, false] rfl rfl (any_of HT_.out (by kernel_rfl)) (fun _ _ _ h => h) (Or.inl ⟨by rfl, ?_⟩) ?_ ?_
            rotate_left
            · intro w'
              go_simp
              with_reducible rfl
            rotate_left
            · simp only [Act.put, List.setIfInBounds_toArray, List.set_cons_zero, List.set_cons_succ, i64_w, i32_w]
              rfl
            refine pure_ (i := 14) (N := some 29) (v := ?_) (a' := ?_) #[true, true, true, true, true, true, true, true, true, true, true, true, true, true, true, false, false] rfl rfl (any_of HT_.out (by kernel_rfl)) (fun _ _ _ h => h) (Or.inl ⟨by rfl, ?_⟩) ?_ ?_
            rotate_left
            · intro w'
              go_simp
              with_reducible rfl
            rotate_left
            · simp only [Act.put, List.setIfInBounds_toArray, List.set_cons_zero, List.set_cons_succ, i64_w, i32_w]
              rfl
            refine last_ (i := 15) (N := none) #[true, true, true, true, true, true, true, true, true, true, true, true, true, true, true, true, false] rfl rfl (one_of HT_.out (by kernel_rfl)) (by decide) (fun K hK => ?_)
            have hs23 : w21.cell? ⟨gb163, 0, none⟩ = some (.slice Ao19 x164000_1.length co19) := (blk_cell BK163.out 0).trans rfl
            have hfs23 := blk_frozen BK163.out 0
            have hns23_0 := NB162_163.out
            have hms23_0 := NB163_162.out
            have hs25 : w21.cell? ⟨gb163, 1, none⟩ = some (.slice Ao20 x164001_1.length co20) := (blk_cell BK163.out 1).trans rfl
            have hfs25 := blk_frozen BK163.out 1
            have hns25_0 := NB162_163.out
            have hms25_0 := NB163_162.out
            have hs26 : w21.cell? ⟨gb163, 2, none⟩ = some (.int .i64 x164002_1) := (blk_cell BK163.out 2).trans rfl
            have hfs26 := blk_frozen BK163.out 2
            have hns26_0 := NB162_163.out
            have hms26_0 := NB163_162.out
            refine skip_ (w1 := ?_) (by rfl) rfl ?_ ?_
            rotate_left
            · go_simp
              rfl
            refine hK.out _ _ ?_
            clear hK K
            refine pure_ (i := 16) (N := some 7) (v := ?_) (a' := ?_) #[true, true, true, true, true, true, true, true, true, true, true, true, true, true, true, true, true] rfl rfl (any_of HT_.out (by kernel_rfl)) (fun _ _ _ h => h) (Or.inl ⟨by rfl, ?_⟩) ?_ ?_
            rotate_left
            · intro w'
              go_simp
              with_reducible rfl
            rotate_left
            · simp only [Act.put, List.setIfInBounds_toArray, List.set_cons_zero, List.set_cons_succ, i64_w, i32_w]
              rfl
            refine done_ (done_of HT_.out (by kernel_rfl)) ?_
            have hnb27 := NB162_163.out
            have hnc27 := NB163_162.out
            have hcz28_0 : w21.cell? ⟨gb162, 0, none⟩ = some (.slice none 0 0) := (blk_cell BK162.out 0).trans rfl
            have hcz28_1 : w21.cell? ⟨gb162, 1, none⟩ = some (.slice none 0 0) := (blk_cell BK162.out 1).trans rfl
            have hcz28_2 : w21.cell? ⟨gb162, 2, none⟩ = some (.int .i64 x163002_1) := (blk_cell BK162.out 2).trans rfl
            have hfz28_0 := blk_frozen BK162.out 0
            have hfz28_1 := blk_frozen BK162.out 1
            have hfz28_2 := blk_frozen BK162.out 2
            try go_wp2
            refine bodyPost_ret (results_ct rfl _ _ gb162 36 #[.slice none 0 0, .slice none 0 0, .int .i64 0] (0, 0) _ rfl (by (with_reducible repeat (first | refine blk_drewN ?_ _ | refine blk_drew ?_ | refine blk_alloc ?_ _)); refine blk_put (cs := #[.slice none 0 0, .slice none 0 0, .int .i64 x163002_1]) ?_ 2 _ (by first | rfl | (simp only [w64_PV15]; rfl) | (simp [w64_PV15]; done)); (with_reducible repeat (first | refine blk_drewN ?_ _ | refine blk_drew ?_ | refine blk_alloc ?_ _)); refine blk_put (cs := #[.slice none 0 0, .slice none 0 0, .int .i64 x163002_1]) ?_ 1 _ (by first | rfl | (simp only [w64_PV15]; rfl) | (simp [w64_PV15]; done)); (with_reducible repeat (first | refine blk_drewN ?_ _ | refine blk_drew ?_ | refine blk_alloc ?_ _)); refine blk_put (cs := #[.slice none 0 0, .slice none 0 0, .int .i64 x163002_1]) ?_ 0 _ (by first | rfl | (simp only [w64_PV15]; rfl) | (simp [w64_PV15]; done)); (with_reducible repeat (first | refine blk_drewN ?_ _ | refine blk_drew ?_ | refine blk_alloc ?_ _)); refine blk_far ?_ NB162_163.out _; (with_reducible repeat (first | refine blk_drewN ?_ _ | refine blk_drew ?_ | refine blk_alloc ?_ _)); refine blk_far ?_ NB162_163.out _; (with_reducible repeat (first | refine blk_drewN ?_ _ | refine blk_drew ?_ | refine blk_alloc ?_ _)); refine blk_far ?_ NB162_163.out _; (with_reducible repeat (first | refine blk_drewN ?_ _ | refine blk_drew ?_ | refine blk_alloc ?_ _)); exact BK162.out) Try.underlying36 rfl (by kernel_rfl)) rfl ?_
            exact ⟨_, _, by first | rfl | (simp [errW_none, errW_some] <;> rfl) | (simp [*, errW_none, errW_some] <;> rfl), (by first | exact Kd.V_nil _ _ _ _ _ | exact Kd.V_mono (Kd.R_V (by first | exact Kd.R_nil _ _ _ _ _ | exact Kd.N_nil _ _ _ _ _ | exact Kd.V_nil _ _ _ _ _ | exact Kd.Q_nil _ _ _ _ _ | exact Kd.S_nil _ _ _ _ _)) (fun k_ hk => by first | exact ⟨(.inr (hk.1)), hk.2⟩ | exact (.inr (hk)))), (by first | exact Kd.V_nil _ _ _ _ _ | exact Kd.V_mono (Kd.R_V (by first | exact Kd.R_nil _ _ _ _ _ | exact Kd.N_nil _ _ _ _ _ | exact Kd.V_nil _ _ _ _ _ | exact Kd.Q_nil _ _ _ _ _ | exact Kd.S_nil _ _ _ _ _)) (fun k_ hk => by first | exact ⟨(.inr (hk.1)), hk.2⟩ | exact (.inr (hk)))), by repeat (first | (with_reducible first | exact HB.out | apply below_alloc | apply pw_below_drewN | apply below_drew1 | refine below_set ?_ GE162.out | refine below_set ?_ GE163.out) | exact HB.out)⟩
        · rw [if_neg c6] at H
          exact absurd H (by simp)
      · rw [if_neg c5] at H
        have c5b0 : decide (x8_1 < (l0.length : Int)) = false := decide_eq_false c5
        clear c5
        replace H := Option.bind_eq_some_iff.mp H
        obtain ⟨⟨t174, t177, t180, t181⟩, A290, H⟩ := H
        replace H : (if t181 = 0 then (some (t174, t177, t180, 0)) else (some (([] : List (S26)), ([] : List ByteArray), 0, t181))) = some (r1, r2, r3, r4) := H
        have A29 := Aside0.mk A290
        clear A290
        by_cases c30 : t181 = 0
        · rw [if_pos c30] at H
          have c30b0 : (t181 == 0) = true := beq_iff_eq.mpr c30
          have c30b1 : (t181 != 0) = false := bne_eq_false_iff_eq.mpr c30
          clear c30
          simp only [Option.some.injEq, Prod.mk.injEq] at H
          obtain ⟨rfl, rfl, rfl, rfl⟩ := H
          have hnb31 := NB163_162.out
          have hnc31 := NB162_163.out
          have hcz32_0 : wr.cell? ⟨gb163, 0, none⟩ = some (u164000) := (blk_cell BK163.out 0).trans rfl
          have hcz32_1 : wr.cell? ⟨gb163, 1, none⟩ = some (u164001) := (blk_cell BK163.out 1).trans rfl
          have hcz32_2 : wr.cell? ⟨gb163, 2, none⟩ = some (.int .i64 x164002_1) := (blk_cell BK163.out 2).trans rfl
          have hfz32_0 := blk_frozen BK163.out 0
          have hfz32_1 := blk_frozen BK163.out 1
          have hfz32_2 := blk_frozen BK163.out 2
          obtain ⟨Ao33, co33, eo33⟩ := Kd.V_slice HO_164000.out
          subst eo33
          obtain ⟨Ao34, co34, eo34⟩ := Kd.V_slice HO_164001.out
          subst eo34
          go_wp2_with (first | ((with_reducible refine gate_callee (f := 25) rfl ?_); refine goesL_ (some 37) rfl rfl Try.func25 (by kernel_rfl) rfl #[.agg #[.slice Ao33 x164000_1.length co33, .slice Ao34 x164001_1.length co34, .int .i64 x164002_1], .slice A1 l1.length c1] rfl (by (try simp only [List.map_toArray, List.map_cons, List.map_nil]); first | done | rfl | (simp only [List.length_drop, List.length_take]; rfl)) ?_; (with_reducible refine (rehearsalref11_Table_SetArgs.calls k1 (fun k_ => ((P1_ k_ ∨ w.heap.size ≤ k_) ∧ (k_ ≠ gb162 ∧ k_ ≠ gb163))) _ _ x164000_1 (fun k_ => ((P1_ k_ ∨ w.heap.size ≤ k_) ∧ (k_ ≠ gb162 ∧ k_ ≠ gb163))) _ _ x164001_1 x164002_1 (fun k_ => ((P1_ k_ ∨ w.heap.size ≤ k_) ∧ (k_ ≠ gb162 ∧ k_ ≠ gb163))) _ _ l1 t174 t177 t180 t181 _ ?side1 ?side2 ?side3 A29.out).mono ?_); (case side1 => exact HO_164000.out); (case side2 => exact HO_164001.out); (case side3 => exact HO_1.out); rintro e w35 ⟨v175, v178, rfl, ho0, ho1, hb⟩; refine ⟨_, rfl, ?_⟩; have n0_ := Aside0.mk (Kd.V_below (by (with_reducible repeat (first | apply Kd.V_alloc | apply Kd.V_drewN | apply Kd.V_drew)); exact HO_1.out) hb); have n1_ := Aside0.mk (Kd.V_below (by (with_reducible repeat (first | apply Kd.V_alloc | apply Kd.V_drewN | apply Kd.V_drew)); exact HO_164000.out) hb); have n2_ := Aside0.mk (Kd.V_below (by (with_reducible repeat (first | apply Kd.V_alloc | apply Kd.V_drewN | apply Kd.V_drew)); exact HO_164001.out) hb); have n3_ := Aside0.mk (Kd.V_lower (Kd.V_mono (ok' := fun k_ => (P1_ k_ ∨ w.heap.size ≤ k_) ∧ k_ ≠ gb162 ∧ k_ ≠ gb163) ho0 (fun k_ hk_ => ⟨Or.elim hk_ (fun hs_ => Or.elim hs_ (fun hs_ => hs_.1) (fun hs_ => Or.elim hs_ (fun hs_ => hs_.1) (fun hs_ => hs_.1))) (fun hn_ => (.inr (Nat.le_trans (below_size (by repeat (first | (with_reducible first | exact HB.out | apply below_alloc | apply pw_below_drewN | apply below_drew1 | refine below_set ?_ GE162.out | refine below_set ?_ GE163.out) | exact HB.out))) hn_))), Or.elim hk_ (fun hs_ => Or.elim hs_ (fun hs_ => hs_.2.1) (fun hs_ => Or.elim hs_ (fun hs_ => hs_.2.1) (fun hs_ => hs_.2.1))) (fun hn_ => (Kd.freshB (g := gb162) (o := .cells #[.slice none 0 0, .slice none 0 0, .int .i64 x163002_1] 36 (0, 0)) (by (with_reducible repeat (first | refine blk_drewN ?_ _ | refine blk_drew ?_ | refine blk_alloc ?_ _)); exact BK162.out) k_ hn_)), Or.elim hk_ (fun hs_ => Or.elim hs_ (fun hs_ => hs_.2.2) (fun hs_ => Or.elim hs_ (fun hs_ => hs_.2.2) (fun hs_ => hs_.2.2))) (fun hn_ => (Kd.freshB (g := gb163) (o := .cells #[.slice Ao33 x164000_1.length co33, .slice Ao34 x164001_1.length co34, .int .i64 x164002_1] 36 (0, 0)) (by (with_reducible repeat (first | refine blk_drewN ?_ _ | refine blk_drew ?_ | refine blk_alloc ?_ _)); exact BK163.out) k_ hn_))⟩)) (below_size (by repeat (first | (with_reducible first | exact HB.out | apply below_alloc | apply pw_below_drewN | apply below_drew1 | refine below_set ?_ GE162.out | refine below_set ?_ GE163.out) | exact HB.out)))); have n4_ := Aside0.mk (Kd.V_lower (Kd.V_mono (ok' := fun k_ => (P1_ k_ ∨ w.heap.size ≤ k_) ∧ k_ ≠ gb162 ∧ k_ ≠ gb163) ho1 (fun k_ hk_ => ⟨Or.elim hk_ (fun hs_ => Or.elim hs_ (fun hs_ => hs_.1) (fun hs_ => Or.elim hs_ (fun hs_ => hs_.1) (fun hs_ => hs_.1))) (fun hn_ => (.inr (Nat.le_trans (below_size (by repeat (first | (with_reducible first | exact HB.out | apply below_alloc | apply pw_below_drewN | apply below_drew1 | refine below_set ?_ GE162.out | refine below_set ?_ GE163.out) | exact HB.out))) hn_))), Or.elim hk_ (fun hs_ => Or.elim hs_ (fun hs_ => hs_.2.1) (fun hs_ => Or.elim hs_ (fun hs_ => hs_.2.1) (fun hs_ => hs_.2.1))) (fun hn_ => (Kd.freshB (g := gb162) (o := .cells #[.slice none 0 0, .slice none 0 0, .int .i64 x163002_1] 36 (0, 0)) (by (with_reducible repeat (first | refine blk_drewN ?_ _ | refine blk_drew ?_ | refine blk_alloc ?_ _)); exact BK162.out) k_ hn_)), Or.elim hk_ (fun hs_ => Or.elim hs_ (fun hs_ => hs_.2.2) (fun hs_ => Or.elim hs_ (fun hs_ => hs_.2.2) (fun hs_ => hs_.2.2))) (fun hn_ => (Kd.freshB (g := gb163) (o := .cells #[.slice Ao33 x164000_1.length co33, .slice Ao34 x164001_1.length co34, .int .i64 x164002_1] 36 (0, 0)) (by (with_reducible repeat (first | refine blk_drewN ?_ _ | refine blk_drew ?_ | refine blk_alloc ?_ _)); exact BK163.out) k_ hn_))⟩)) (below_size (by repeat (first | (with_reducible first | exact HB.out | apply below_alloc | apply pw_below_drewN | apply below_drew1 | refine below_set ?_ GE162.out | refine below_set ?_ GE163.out) | exact HB.out)))); have n5_ := Aside0.mk (blk_below (g := gb162) (o := .cells #[.slice none 0 0, .slice none 0 0, .int .i64 x163002_1] 36 (0, 0)) (by (with_reducible repeat (first | refine blk_drewN ?_ _ | refine blk_drew ?_ | refine blk_alloc ?_ _)); exact BK162.out) hb); have n6_ := Aside0.mk (blk_below (g := gb163) (o := .cells #[.slice Ao33 x164000_1.length co33, .slice Ao34 x164001_1.length co34, .int .i64 x164002_1] 36 (0, 0)) (by (with_reducible repeat (first | refine blk_drewN ?_ _ | refine blk_drew ?_ | refine blk_alloc ?_ _)); exact BK163.out) hb); have n7_ := Aside0.mk (below_step (by repeat (first | (with_reducible first | exact HB.out | apply below_alloc | apply pw_below_drewN | apply below_drew1 | refine below_set ?_ GE162.out | refine below_set ?_ GE163.out) | exact HB.out)) hb); clear HO_1; clear HO_164000; clear HO_164001; clear BK162; clear BK163; clear HB; have HO_1 := n0_; have HO_164000 := n1_; have HO_164001 := n2_; have HO176 := n3_; have HO179 := n4_; have BK162 := n5_; have BK163 := n6_; have HB := n7_; clear n0_ n1_ n2_ n3_ n4_ n5_ n6_ n7_; (try clear hb); (try clear hb2); (try clear hk); (try clear hi); (try clear ho0); (try clear ho1); obtain ⟨Ao36, co36, eo36⟩ := Kd.V_slice HO176.out; subst eo36; have hcz37_0 : w35.cell? ⟨gb163, 0, none⟩ = some (.slice Ao33 x164000_1.length co33) := (blk_cell BK163.out 0).trans rfl; have hcz37_1 : w35.cell? ⟨gb163, 1, none⟩ = some (.slice Ao34 x164001_1.length co34) := (blk_cell BK163.out 1).trans rfl; have hcz37_2 : w35.cell? ⟨gb163, 2, none⟩ = some (.int .i64 x164002_1) := (blk_cell BK163.out 2).trans rfl; have hfz37_0 := blk_frozen BK163.out 0; have hfz37_1 := blk_frozen BK163.out 1; have hfz37_2 := blk_frozen BK163.out 2; obtain ⟨Ao38, co38, eo38⟩ := Kd.V_slice HO179.out; subst eo38; have hcz39_0 : w35.cell? ⟨gb162, 0, none⟩ = some (.slice none 0 0) := (blk_cell BK162.out 0).trans rfl; have hcz39_1 : w35.cell? ⟨gb162, 1, none⟩ = some (.slice none 0 0) := (blk_cell BK162.out 1).trans rfl; have hcz39_2 : w35.cell? ⟨gb162, 2, none⟩ = some (.int .i64 x163002_1) := (blk_cell BK162.out 2).trans rfl; have hfz39_0 := blk_frozen BK162.out 0; have hfz39_1 := blk_frozen BK162.out 1; have hfz39_2 := blk_frozen BK162.out 2))
          refine bodyPost_ret (results_ct rfl _ _ gb162 36 #[.slice Ao36 t174.length co36, .slice Ao38 t177.length co38, .int .i64 t180] (0, 0) _ rfl (by (with_reducible repeat (first | refine blk_drewN ?_ _ | refine blk_drew ?_ | refine blk_alloc ?_ _)); refine blk_put (cs := #[.slice Ao36 t174.length co36, .slice Ao38 t177.length co38, .int .i64 x163002_1]) ?_ 2 _ (by first | rfl | (simp only [w64_PV15]; rfl) | (simp [w64_PV15]; done)); (with_reducible repeat (first | refine blk_drewN ?_ _ | refine blk_drew ?_ | refine blk_alloc ?_ _)); refine blk_put (cs := #[.slice Ao36 t174.length co36, .slice none 0 0, .int .i64 x163002_1]) ?_ 1 _ (by first | rfl | (simp only [w64_PV15]; rfl) | (simp [w64_PV15]; done)); (with_reducible repeat (first | refine blk_drewN ?_ _ | refine blk_drew ?_ | refine blk_alloc ?_ _)); refine blk_put (cs := #[.slice none 0 0, .slice none 0 0, .int .i64 x163002_1]) ?_ 0 _ (by first | rfl | (simp only [w64_PV15]; rfl) | (simp [w64_PV15]; done)); (with_reducible repeat (first | refine blk_drewN ?_ _ | refine blk_drew ?_ | refine blk_alloc ?_ _)); refine blk_far ?_ NB162_163.out _; (with_reducible repeat (first | refine blk_drewN ?_ _ | refine blk_drew ?_ | refine blk_alloc ?_ _)); refine blk_far ?_ NB162_163.out _; (with_reducible repeat (first | refine blk_drewN ?_ _ | refine blk_drew ?_ | refine blk_alloc ?_ _)); refine blk_far ?_ NB162_163.out _; (with_reducible repeat (first | refine blk_drewN ?_ _ | refine blk_drew ?_ | refine blk_alloc ?_ _)); exact BK162.out) Try.underlying36 rfl (by kernel_rfl)) rfl ?_
          exact ⟨_, _, by first | rfl | (simp [errW_none, errW_some] <;> rfl) | (simp [*, errW_none, errW_some] <;> rfl), by (with_reducible repeat (first | apply Kd.V_alloc | apply Kd.V_drewN | apply Kd.V_drew)); exact Kd.V_mono (Kd.V_far (p := ⟨gb162, 2, none⟩) (Kd.V_far (p := ⟨gb162, 1, none⟩) (Kd.V_far (p := ⟨gb162, 0, none⟩) (Kd.V_far (p := ⟨gb163, 2, none⟩) (Kd.V_far (p := ⟨gb163, 1, none⟩) (Kd.V_far (p := ⟨gb163, 0, none⟩) (Kd.V_mono (Kd.V_mono HO176.out (fun k_ hk => (⟨hk, hk.2.2⟩ : _ ∧ k_ ≠ gb163))) (fun k_ hk => (⟨hk, hk.1.2.1⟩ : _ ∧ k_ ≠ gb162))) (fun _ hk => hk.1.2) (.slice Ao36 t174.length co36)) (fun _ hk => hk.1.2) (.slice Ao38 t177.length co38)) (fun _ hk => hk.1.2) (.int .i64 t180)) (fun _ hk => hk.2) (.slice Ao36 t174.length co36)) (fun _ hk => hk.2) (.slice Ao38 t177.length co38)) (fun _ hk => hk.2) (.int .i64 t180)) (fun _ hk => by first | exact hk.1.1.1 | exact hk.1.1 | exact hk.1), by (with_reducible repeat (first | apply Kd.V_alloc | apply Kd.V_drewN | apply Kd.V_drew)); exact Kd.V_mono (Kd.V_far (p := ⟨gb162, 2, none⟩) (Kd.V_far (p := ⟨gb162, 1, none⟩) (Kd.V_far (p := ⟨gb162, 0, none⟩) (Kd.V_far (p := ⟨gb163, 2, none⟩) (Kd.V_far (p := ⟨gb163, 1, none⟩) (Kd.V_far (p := ⟨gb163, 0, none⟩) (Kd.V_mono (Kd.V_mono HO179.out (fun k_ hk => (⟨hk, hk.2.2⟩ : _ ∧ k_ ≠ gb163))) (fun k_ hk => (⟨hk, hk.1.2.1⟩ : _ ∧ k_ ≠ gb162))) (fun _ hk => hk.1.2) (.slice Ao36 t174.length co36)) (fun _ hk => hk.1.2) (.slice Ao38 t177.length co38)) (fun _ hk => hk.1.2) (.int .i64 t180)) (fun _ hk => hk.2) (.slice Ao36 t174.length co36)) (fun _ hk => hk.2) (.slice Ao38 t177.length co38)) (fun _ hk => hk.2) (.int .i64 t180)) (fun _ hk => by first | exact hk.1.1.1 | exact hk.1.1 | exact hk.1), by repeat (first | (with_reducible first | exact HB.out | apply below_alloc | apply pw_below_drewN | apply below_drew1 | refine below_set ?_ GE162.out | refine below_set ?_ GE163.out) | exact HB.out)⟩
        · rw [if_neg c30] at H
          have c30b0 : (t181 == 0) = false := beq_eq_false_iff_ne.mpr c30
          have c30b1 : (t181 != 0) = true := bne_iff_ne.mpr c30
          simp only [Option.some.injEq, Prod.mk.injEq] at H
          obtain ⟨rfl, rfl, rfl, rfl⟩ := H
          have hnb40 := NB163_162.out
          have hnc40 := NB162_163.out
          have hcz41_0 : wr.cell? ⟨gb163, 0, none⟩ = some (u164000) := (blk_cell BK163.out 0).trans rfl
          have hcz41_1 : wr.cell? ⟨gb163, 1, none⟩ = some (u164001) := (blk_cell BK163.out 1).trans rfl
          have hcz41_2 : wr.cell? ⟨gb163, 2, none⟩ = some (.int .i64 x164002_1) := (blk_cell BK163.out 2).trans rfl
          have hfz41_0 := blk_frozen BK163.out 0
          have hfz41_1 := blk_frozen BK163.out 1
          have hfz41_2 := blk_frozen BK163.out 2
          obtain ⟨Ao42, co42, eo42⟩ := Kd.V_slice HO_164000.out
          subst eo42
          obtain ⟨Ao43, co43, eo43⟩ := Kd.V_slice HO_164001.out
          subst eo43
          go_wp2_with (first | ((with_reducible refine gate_callee (f := 25) rfl ?_); refine goesL_ (some 37) rfl rfl Try.func25 (by kernel_rfl) rfl #[.agg #[.slice Ao42 x164000_1.length co42, .slice Ao43 x164001_1.length co43, .int .i64 x164002_1], .slice A1 l1.length c1] rfl (by (try simp only [List.map_toArray, List.map_cons, List.map_nil]); first | done | rfl | (simp only [List.length_drop, List.length_take]; rfl)) ?_; (with_reducible refine (rehearsalref11_Table_SetArgs.calls k1 (fun k_ => ((P1_ k_ ∨ w.heap.size ≤ k_) ∧ (k_ ≠ gb162 ∧ k_ ≠ gb163))) _ _ x164000_1 (fun k_ => ((P1_ k_ ∨ w.heap.size ≤ k_) ∧ (k_ ≠ gb162 ∧ k_ ≠ gb163))) _ _ x164001_1 x164002_1 (fun k_ => ((P1_ k_ ∨ w.heap.size ≤ k_) ∧ (k_ ≠ gb162 ∧ k_ ≠ gb163))) _ _ l1 t174 t177 t180 t181 _ ?side1 ?side2 ?side3 A29.out).mono ?_); (case side1 => exact HO_164000.out); (case side2 => exact HO_164001.out); (case side3 => exact HO_1.out); rintro e w44 ⟨v175, v178, rfl, ho0, ho1, hb⟩; refine ⟨_, rfl, ?_⟩; have n0_ := Aside0.mk (Kd.V_below (by (with_reducible repeat (first | apply Kd.V_alloc | apply Kd.V_drewN | apply Kd.V_drew)); exact HO_1.out) hb); have n1_ := Aside0.mk (Kd.V_below (by (with_reducible repeat (first | apply Kd.V_alloc | apply Kd.V_drewN | apply Kd.V_drew)); exact HO_164000.out) hb); have n2_ := Aside0.mk (Kd.V_below (by (with_reducible repeat (first | apply Kd.V_alloc | apply Kd.V_drewN | apply Kd.V_drew)); exact HO_164001.out) hb); have n3_ := Aside0.mk (Kd.V_lower (Kd.V_mono (ok' := fun k_ => (P1_ k_ ∨ w.heap.size ≤ k_) ∧ k_ ≠ gb162 ∧ k_ ≠ gb163) ho0 (fun k_ hk_ => ⟨Or.elim hk_ (fun hs_ => Or.elim hs_ (fun hs_ => hs_.1) (fun hs_ => Or.elim hs_ (fun hs_ => hs_.1) (fun hs_ => hs_.1))) (fun hn_ => (.inr (Nat.le_trans (below_size (by repeat (first | (with_reducible first | exact HB.out | apply below_alloc | apply pw_below_drewN | apply below_drew1 | refine below_set ?_ GE162.out | refine below_set ?_ GE163.out) | exact HB.out))) hn_))), Or.elim hk_ (fun hs_ => Or.elim hs_ (fun hs_ => hs_.2.1) (fun hs_ => Or.elim hs_ (fun hs_ => hs_.2.1) (fun hs_ => hs_.2.1))) (fun hn_ => (Kd.freshB (g := gb162) (o := .cells #[.slice none 0 0, .slice none 0 0, .int .i64 x163002_1] 36 (0, 0)) (by (with_reducible repeat (first | refine blk_drewN ?_ _ | refine blk_drew ?_ | refine blk_alloc ?_ _)); exact BK162.out) k_ hn_)), Or.elim hk_ (fun hs_ => Or.elim hs_ (fun hs_ => hs_.2.2) (fun hs_ => Or.elim hs_ (fun hs_ => hs_.2.2) (fun hs_ => hs_.2.2))) (fun hn_ => (Kd.freshB (g := gb163) (o := .cells #[.slice Ao42 x164000_1.length co42, .slice Ao43 x164001_1.length co43, .int .i64 x164002_1] 36 (0, 0)) (by (with_reducible repeat (first | refine blk_drewN ?_ _ | refine blk_drew ?_ | refine blk_alloc ?_ _)); exact BK163.out) k_ hn_))⟩)) (below_size (by repeat (first | (with_reducible first | exact HB.out | apply below_alloc | apply pw_below_drewN | apply below_drew1 | refine below_set ?_ GE162.out | refine below_set ?_ GE163.out) | exact HB.out)))); have n4_ := Aside0.mk (Kd.V_lower (Kd.V_mono (ok' := fun k_ => (P1_ k_ ∨ w.heap.size ≤ k_) ∧ k_ ≠ gb162 ∧ k_ ≠ gb163) ho1 (fun k_ hk_ => ⟨Or.elim hk_ (fun hs_ => Or.elim hs_ (fun hs_ => hs_.1) (fun hs_ => Or.elim hs_ (fun hs_ => hs_.1) (fun hs_ => hs_.1))) (fun hn_ => (.inr (Nat.le_trans (below_size (by repeat (first | (with_reducible first | exact HB.out | apply below_alloc | apply pw_below_drewN | apply below_drew1 | refine below_set ?_ GE162.out | refine below_set ?_ GE163.out) | exact HB.out))) hn_))), Or.elim hk_ (fun hs_ => Or.elim hs_ (fun hs_ => hs_.2.1) (fun hs_ => Or.elim hs_ (fun hs_ => hs_.2.1) (fun hs_ => hs_.2.1))) (fun hn_ => (Kd.freshB (g := gb162) (o := .cells #[.slice none 0 0, .slice none 0 0, .int .i64 x163002_1] 36 (0, 0)) (by (with_reducible repeat (first | refine blk_drewN ?_ _ | refine blk_drew ?_ | refine blk_alloc ?_ _)); exact BK162.out) k_ hn_)), Or.elim hk_ (fun hs_ => Or.elim hs_ (fun hs_ => hs_.2.2) (fun hs_ => Or.elim hs_ (fun hs_ => hs_.2.2) (fun hs_ => hs_.2.2))) (fun hn_ => (Kd.freshB (g := gb163) (o := .cells #[.slice Ao42 x164000_1.length co42, .slice Ao43 x164001_1.length co43, .int .i64 x164002_1] 36 (0, 0)) (by (with_reducible repeat (first | refine blk_drewN ?_ _ | refine blk_drew ?_ | refine blk_alloc ?_ _)); exact BK163.out) k_ hn_))⟩)) (below_size (by repeat (first | (with_reducible first | exact HB.out | apply below_alloc | apply pw_below_drewN | apply below_drew1 | refine below_set ?_ GE162.out | refine below_set ?_ GE163.out) | exact HB.out)))); have n5_ := Aside0.mk (blk_below (g := gb162) (o := .cells #[.slice none 0 0, .slice none 0 0, .int .i64 x163002_1] 36 (0, 0)) (by (with_reducible repeat (first | refine blk_drewN ?_ _ | refine blk_drew ?_ | refine blk_alloc ?_ _)); exact BK162.out) hb); have n6_ := Aside0.mk (blk_below (g := gb163) (o := .cells #[.slice Ao42 x164000_1.length co42, .slice Ao43 x164001_1.length co43, .int .i64 x164002_1] 36 (0, 0)) (by (with_reducible repeat (first | refine blk_drewN ?_ _ | refine blk_drew ?_ | refine blk_alloc ?_ _)); exact BK163.out) hb); have n7_ := Aside0.mk (below_step (by repeat (first | (with_reducible first | exact HB.out | apply below_alloc | apply pw_below_drewN | apply below_drew1 | refine below_set ?_ GE162.out | refine below_set ?_ GE163.out) | exact HB.out)) hb); clear HO_1; clear HO_164000; clear HO_164001; clear BK162; clear BK163; clear HB; have HO_1 := n0_; have HO_164000 := n1_; have HO_164001 := n2_; have HO176 := n3_; have HO179 := n4_; have BK162 := n5_; have BK163 := n6_; have HB := n7_; clear n0_ n1_ n2_ n3_ n4_ n5_ n6_ n7_; (try clear hb); (try clear hb2); (try clear hk); (try clear hi); (try clear ho0); (try clear ho1); obtain ⟨Ao45, co45, eo45⟩ := Kd.V_slice HO176.out; subst eo45; have hcz46_0 : w44.cell? ⟨gb163, 0, none⟩ = some (.slice Ao42 x164000_1.length co42) := (blk_cell BK163.out 0).trans rfl; have hcz46_1 : w44.cell? ⟨gb163, 1, none⟩ = some (.slice Ao43 x164001_1.length co43) := (blk_cell BK163.out 1).trans rfl; have hcz46_2 : w44.cell? ⟨gb163, 2, none⟩ = some (.int .i64 x164002_1) := (blk_cell BK163.out 2).trans rfl; have hfz46_0 := blk_frozen BK163.out 0; have hfz46_1 := blk_frozen BK163.out 1; have hfz46_2 := blk_frozen BK163.out 2; obtain ⟨Ao47, co47, eo47⟩ := Kd.V_slice HO179.out; subst eo47; have hcz48_0 : w44.cell? ⟨gb162, 0, none⟩ = some (.slice none 0 0) := (blk_cell BK162.out 0).trans rfl; have hcz48_1 : w44.cell? ⟨gb162, 1, none⟩ = some (.slice none 0 0) := (blk_cell BK162.out 1).trans rfl; have hcz48_2 : w44.cell? ⟨gb162, 2, none⟩ = some (.int .i64 x163002_1) := (blk_cell BK162.out 2).trans rfl; have hfz48_0 := blk_frozen BK162.out 0; have hfz48_1 := blk_frozen BK162.out 1; have hfz48_2 := blk_frozen BK162.out 2))
          refine bodyPost_ret (results_ct rfl _ _ gb162 36 #[.slice none 0 0, .slice none 0 0, .int .i64 0] (0, 0) _ rfl (by (with_reducible repeat (first | refine blk_drewN ?_ _ | refine blk_drew ?_ | refine blk_alloc ?_ _)); refine blk_put (cs := #[.slice none 0 0, .slice none 0 0, .int .i64 x163002_1]) ?_ 2 _ (by first | rfl | (simp only [w64_PV15]; rfl) | (simp [w64_PV15]; done)); (with_reducible repeat (first | refine blk_drewN ?_ _ | refine blk_drew ?_ | refine blk_alloc ?_ _)); refine blk_put (cs := #[.slice none 0 0, .slice none 0 0, .int .i64 x163002_1]) ?_ 1 _ (by first | rfl | (simp only [w64_PV15]; rfl) | (simp [w64_PV15]; done)); (with_reducible repeat (first | refine blk_drewN ?_ _ | refine blk_drew ?_ | refine blk_alloc ?_ _)); refine blk_put (cs := #[.slice none 0 0, .slice none 0 0, .int .i64 x163002_1]) ?_ 0 _ (by first | rfl | (simp only [w64_PV15]; rfl) | (simp [w64_PV15]; done)); (with_reducible repeat (first | refine blk_drewN ?_ _ | refine blk_drew ?_ | refine blk_alloc ?_ _)); refine blk_far ?_ NB162_163.out _; (with_reducible repeat (first | refine blk_drewN ?_ _ | refine blk_drew ?_ | refine blk_alloc ?_ _)); refine blk_far ?_ NB162_163.out _; (with_reducible repeat (first | refine blk_drewN ?_ _ | refine blk_drew ?_ | refine blk_alloc ?_ _)); refine blk_far ?_ NB162_163.out _; (with_reducible repeat (first | refine blk_drewN ?_ _ | refine blk_drew ?_ | refine blk_alloc ?_ _)); exact BK162.out) Try.underlying36 rfl (by kernel_rfl)) rfl ?_
          exact ⟨_, _, by first | rfl | (simp [errW_none, errW_some] <;> rfl) | (simp [*, errW_none, errW_some] <;> rfl), (by first | exact Kd.V_nil _ _ _ _ _ | exact Kd.V_mono (Kd.R_V (by first | exact Kd.R_nil _ _ _ _ _ | exact Kd.N_nil _ _ _ _ _ | exact Kd.V_nil _ _ _ _ _ | exact Kd.Q_nil _ _ _ _ _ | exact Kd.S_nil _ _ _ _ _)) (fun k_ hk => by first | exact ⟨(.inr (hk.1)), hk.2⟩ | exact (.inr (hk)))), (by first | exact Kd.V_nil _ _ _ _ _ | exact Kd.V_mono (Kd.R_V (by first | exact Kd.R_nil _ _ _ _ _ | exact Kd.N_nil _ _ _ _ _ | exact Kd.V_nil _ _ _ _ _ | exact Kd.Q_nil _ _ _ _ _ | exact Kd.S_nil _ _ _ _ _)) (fun k_ hk => by first | exact ⟨(.inr (hk.1)), hk.2⟩ | exact (.inr (hk)))), by repeat (first | (with_reducible first | exact HB.out | apply below_alloc | apply pw_below_drewN | apply below_drew1 | refine below_set ?_ GE162.out | refine below_set ?_ GE163.out) | exact HB.out)⟩
end Go.Proofs.Ytgcbipflmhbpcaa.PV
namespace Go.Proofs.Ytgcbipflmhbpcaa.PV
open Go.RowKit Go.Proofs.YtgcbipflmhbpcaaW.PrintWords Go.Proofs.YtgcbipflmhbpcaaW.PrintLast Go.Proofs.YtgcbipflmhbpcaaW.PrintMore
attribute [local go_sem] max2_int min2_int max_two min_two max_three min_three max_four min_four   -- for this text's walks alone
set_option linter.unusedVariables false
set_option linter.unusedSimpArgs false
theorem eqA26 (d : Nat) (w : World) (x0 y0 : ByteArray) (x1 y1 : ByteArray) :
    (Op.equalIn (d + 2) 26 (.agg #[.string x0, .string x1]) (.agg #[.string y0, .string y1])).run Try.prog w = .ok (x0.toList == y0.toList && (x1.toList == y1.toList)) w := by
  refine eqA_of Try.underlying26 (by kernel_rfl) ?_
  refine eqf_cons (by rfl) (by go_simp; rfl) (by go_simp; rfl) (by go_simp) ?_
  exact eqf_last (by rfl) (by go_simp; rfl) (by go_simp; rfl) (by go_simp)
end Go.Proofs.Ytgcbipflmhbpcaa.PV
namespace Go.Proofs.Ytgcbipflmhbpcaa.PV
open Go.RowKit Go.Proofs.YtgcbipflmhbpcaaW.PrintWords Go.Proofs.YtgcbipflmhbpcaaW.PrintLast Go.Proofs.YtgcbipflmhbpcaaW.PrintMore
attribute [local go_sem] max2_int min2_int max_two min_two max_three min_three max_four min_four   -- for this text's walks alone
set_option linter.unusedVariables false
set_option linter.unusedSimpArgs false
attribute [local go_sem high] eqA26
mutual
def rehearsalref11_Same.j0 : Nat → Bool → List (S26) → List ByteArray → Int → List (S26) → List ByteArray → Int → Option (Bool)
  | 0, _, _, _, _, _, _, _ => none
  | k + 1, x29, x183000, x183001, x183002, x184000, x184001, x184002 => if x29 = true then (some false) else (rehearsalref11_Same.l0 k 0 x183000 x183001 x183002 x184000 x184001 x184002)
def rehearsalref11_Same.l0 : Nat → Int → List (S26) → List ByteArray → Int → List (S26) → List ByteArray → Int → Option (Bool)
  | 0, _, _, _, _, _, _, _ => none
  | k + 1, x5, x183000, x183001, x183002, x184000, x184001, x184002 => if x5 < (x183000.length : Int) then (if 0 ≤ x5 then (if x5 < (x184000.length : Int) then (if (!((((rd_T26 x183000 x5).f0).toList) == (((rd_T26 x184000 x5).f0).toList)) || (!((((rd_T26 x183000 x5).f1).toList) == (((rd_T26 x184000 x5).f1).toList)))) = true then (some false) else (rehearsalref11_Same.l0 k (wrap64 (x5 + 1)) x183000 x183001 x183002 x184000 x184001 x184002)) else (none)) else (none)) else (rehearsalref11_Same.l1 k 0 x183000 x183001 x183002 x184000 x184001 x184002)
def rehearsalref11_Same.l1 : Nat → Int → List (S26) → List ByteArray → Int → List (S26) → List ByteArray → Int → Option (Bool)
  | 0, _, _, _, _, _, _, _ => none
  | k + 1, x6, x183000, x183001, x183002, x184000, x184001, x184002 => if x6 < (x183001.length : Int) then (if 0 ≤ x6 then (if x6 < (x184001.length : Int) then (if (rdOf ByteArray.empty x183001 x6).toList = (rdOf ByteArray.empty x184001 x6).toList then (rehearsalref11_Same.l1 k (wrap64 (x6 + 1)) x183000 x183001 x183002 x184000 x184001 x184002) else (some false)) else (none)) else (none)) else (some true)
end
def rehearsalref11_Same.f (k : Nat) (l0_0 : List (S26)) (l0_1 : List ByteArray) (a0_2 : Int) (l1_0 : List (S26)) (l1_1 : List ByteArray) (a1_2 : Int) : Option (Bool) := if (l0_0.length : Int) = (l1_0.length : Int) then (if (l0_1.length : Int) = (l1_1.length : Int) then (rehearsalref11_Same.j0 k (a0_2 != a1_2) l0_0 l0_1 a0_2 l1_0 l1_1 a1_2) else (rehearsalref11_Same.j0 k true l0_0 l0_1 a0_2 l1_0 l1_1 a1_2)) else (rehearsalref11_Same.j0 k true l0_0 l0_1 a0_2 l1_0 l1_1 a1_2)
set_option maxHeartbeats 8000000 in
set_option maxRecDepth 100000 in
theorem rehearsalref11_Same.calls (k : Nat) (A0_0 : Option Addr) (c0_0 : Nat) (l0_0 : List (S26)) (A0_1 : Option Addr) (c0_1 : Nat) (l0_1 : List ByteArray) (a0_2 : Int) (A1_0 : Option Addr) (c1_0 : Nat) (l1_0 : List (S26)) (A1_1 : Option Addr) (c1_1 : Nat) (l1_1 : List ByteArray) (a1_2 : Int) (r : Bool) (w : World) (hr0_0 : Kd.C k26 w A0_0 l0_0.length l0_0) (hc0_0 : l0_0.length ≤ c0_0) (hr0_1 : Kd.C Kd.string w A0_1 l0_1.length l0_1) (hc0_1 : l0_1.length ≤ c0_1) (hr1_0 : Kd.C k26 w A1_0 l1_0.length l1_0) (hc1_0 : l1_0.length ≤ c1_0) (hr1_1 : Kd.C Kd.string w A1_1 l1_1.length l1_1) (hc1_1 : l1_1.length ≤ c1_1) (h : rehearsalref11_Same.f k l0_0 l0_1 a0_2 l1_0 l1_1 a1_2 = some r) :
    Calls Try.prog 11 #[.agg #[.slice A0_0 l0_0.length c0_0, .slice A0_1 l0_1.length c0_1, .int .i64 a0_2], .agg #[.slice A1_0 l1_0.length c1_0, .slice A1_1 l1_1.length c1_1, .int .i64 a1_2]] w fun e w' => e = .returned (.bool r) ∧ Below w.heap.size w w' := by
  have hu36 := Try.underlying36
  have hu26 := Try.underlying26
  have HR0_0 := Aside0.mk hr0_0
  have HC0_0 := Aside0.mk hc0_0
  clear hr0_0 hc0_0
  have HR0_1 := Aside0.mk hr0_1
  have HC0_1 := Aside0.mk hc0_1
  clear hr0_1 hc0_1
  have HR1_0 := Aside0.mk hr1_0
  have HC1_0 := Aside0.mk hc1_0
  clear hr1_0 hc1_0
  have HR1_1 := Aside0.mk hr1_1
  have HC1_1 := Aside0.mk hc1_1
  clear hr1_1 hc1_1
  have HB := Aside0.mk (Below.refl w.heap.size w)
  have H : (if (l0_0.length : Int) = (l1_0.length : Int) then (if (l0_1.length : Int) = (l1_1.length : Int) then (rehearsalref11_Same.j0 k (a0_2 != a1_2) l0_0 l0_1 a0_2 l1_0 l1_1 a1_2) else (rehearsalref11_Same.j0 k true l0_0 l0_1 a0_2 l1_0 l1_1 a1_2)) else (rehearsalref11_Same.j0 k true l0_0 l0_1 a0_2 l1_0 l1_1 a1_2)) = some r := h
  clear h
  have HC3 := Aside0.mk H
  clear H
  go_enter Try.func11, Try.ntmps11
  go_upto_region 1 with (first | ((with_reducible refine gate_dst (N := 2) rfl ?_); (try (refine gate_guard (by rfl) ?_; dsimp only)); refine box_event ?hg (N := 2) ?hd (cs := #[.slice A0_0 l0_0.length c0_0, .slice A0_1 l0_1.length c0_1, .int .i64 a0_2]) (t := 36) ?hr ?_; (case hd => rfl); (case hg => rfl); (case hr => first | (go_simp; done) | (go_simp; rfl)); intro gb182 hg w4 hbox hb; have n0_ := Aside0.mk (below_step (by repeat (first | (with_reducible first | exact HB.out | apply below_alloc | apply pw_below_drewN | apply below_drew1) | exact HB.out)) hb); have n1_ := Aside0.mk (hbox); have n2_ := Aside0.mk ((by rw [hg]; exact (below_size (by repeat (first | (with_reducible first | exact HB.out | apply below_alloc | apply pw_below_drewN | apply below_drew1) | exact HB.out))) : w.heap.size ≤ gb182)); have n3_ := Aside0.mk ((by rw [hg]; exact (below_size (by repeat (first | (with_reducible first | exact HB.out | apply below_alloc | apply pw_below_drewN | apply below_drew1) | exact HB.out))) : w.heap.size ≤ gb182)); clear HB; have HB := n0_; have BK182 := n1_; have GW182 := n2_; have GE182 := n3_; clear n0_ n1_ n2_ n3_; clear hb hbox hg) | ((with_reducible refine gate_dst (N := 3) rfl ?_); (try (refine gate_guard (by rfl) ?_; dsimp only)); refine box_event ?hg (N := 3) ?hd (cs := #[.slice A1_0 l1_0.length c1_0, .slice A1_1 l1_1.length c1_1, .int .i64 a1_2]) (t := 36) ?hr ?_; (case hd => rfl); (case hg => rfl); (case hr => first | (go_simp; done) | (go_simp; rfl)); intro gb183 hg w5 hbox hb; have n0_ := Aside0.mk (blk_below (g := gb182) (o := .cells #[.slice A0_0 l0_0.length c0_0, .slice A0_1 l0_1.length c0_1, .int .i64 a0_2] 36 (0, 0)) (by (with_reducible repeat (first | refine blk_drewN ?_ _ | refine blk_drew ?_ | refine blk_alloc ?_ _)); exact BK182.out) hb); have n1_ := Aside0.mk (below_step (by repeat (first | (with_reducible first | exact HB.out | apply below_alloc | apply pw_below_drewN | apply below_drew1 | refine below_set ?_ GE182.out) | exact HB.out)) hb); have n2_ := Aside0.mk (hbox); have n3_ := Aside0.mk ((by rw [hg]; exact (below_size (by repeat (first | (with_reducible first | exact HB.out | apply below_alloc | apply pw_below_drewN | apply below_drew1 | refine below_set ?_ GE182.out) | exact HB.out))) : w.heap.size ≤ gb183)); have n4_ := Aside0.mk ((by rw [hg]; exact (below_size (by repeat (first | (with_reducible first | exact HB.out | apply below_alloc | apply pw_below_drewN | apply below_drew1 | refine below_set ?_ GE182.out) | exact HB.out))) : w.heap.size ≤ gb183)); have n5_ := Aside0.mk ((by rw [hg]; exact Nat.ne_of_lt (blk_lt (g := gb182) (o := .cells #[.slice A0_0 l0_0.length c0_0, .slice A0_1 l0_1.length c0_1, .int .i64 a0_2] 36 (0, 0)) (by (with_reducible repeat (first | refine blk_drewN ?_ _ | refine blk_drew ?_ | refine blk_alloc ?_ _)); exact BK182.out)) : gb182 ≠ gb183)); have n6_ := Aside0.mk ((by rw [hg]; exact Nat.ne_of_gt (blk_lt (g := gb182) (o := .cells #[.slice A0_0 l0_0.length c0_0, .slice A0_1 l0_1.length c0_1, .int .i64 a0_2] 36 (0, 0)) (by (with_reducible repeat (first | refine blk_drewN ?_ _ | refine blk_drew ?_ | refine blk_alloc ?_ _)); exact BK182.out)) : gb183 ≠ gb182)); clear BK182; clear HB; have BK182 := n0_; have HB := n1_; have BK183 := n2_; have GW183 := n3_; have GE183 := n4_; have NB182_183 := n5_; have NB183_182 := n6_; clear n0_ n1_ n2_ n3_ n4_ n5_ n6_; clear hb hbox hg))
  repeat (go_quiet (first | ((with_reducible refine gate_dst (N := 2) rfl ?_); (try (refine gate_guard (by rfl) ?_; dsimp only)); refine box_event ?hg (N := 2) ?hd (cs := #[.slice A0_0 l0_0.length c0_0, .slice A0_1 l0_1.length c0_1, .int .i64 a0_2]) (t := 36) ?hr ?_; (case hd => rfl); (case hg => rfl); (case hr => first | (go_simp; done) | (go_simp; rfl)); intro gb182 hg w4 hbox hb; have n0_ := Aside0.mk (below_step (by repeat (first | (with_reducible first | exact HB.out | apply below_alloc | apply pw_below_drewN | apply below_drew1) | exact HB.out)) hb); have n1_ := Aside0.mk (hbox); have n2_ := Aside0.mk ((by rw [hg]; exact (below_size (by repeat (first | (with_reducible first | exact HB.out | apply below_alloc | apply pw_below_drewN | apply below_drew1) | exact HB.out))) : w.heap.size ≤ gb182)); have n3_ := Aside0.mk ((by rw [hg]; exact (below_size (by repeat (first | (with_reducible first | exact HB.out | apply below_alloc | apply pw_below_drewN | apply below_drew1) | exact HB.out))) : w.heap.size ≤ gb182)); clear HB; have HB := n0_; have BK182 := n1_; have GW182 := n2_; have GE182 := n3_; clear n0_ n1_ n2_ n3_; clear hb hbox hg) | ((with_reducible refine gate_dst (N := 3) rfl ?_); (try (refine gate_guard (by rfl) ?_; dsimp only)); refine box_event ?hg (N := 3) ?hd (cs := #[.slice A1_0 l1_0.length c1_0, .slice A1_1 l1_1.length c1_1, .int .i64 a1_2]) (t := 36) ?hr ?_; (case hd => rfl); (case hg => rfl); (case hr => first | (go_simp; done) | (go_simp; rfl)); intro gb183 hg w5 hbox hb; have n0_ := Aside0.mk (blk_below (g := gb182) (o := .cells #[.slice A0_0 l0_0.length c0_0, .slice A0_1 l0_1.length c0_1, .int .i64 a0_2] 36 (0, 0)) (by (with_reducible repeat (first | refine blk_drewN ?_ _ | refine blk_drew ?_ | refine blk_alloc ?_ _)); exact BK182.out) hb); have n1_ := Aside0.mk (below_step (by repeat (first | (with_reducible first | exact HB.out | apply below_alloc | apply pw_below_drewN | apply below_drew1 | refine below_set ?_ GE182.out) | exact HB.out)) hb); have n2_ := Aside0.mk (hbox); have n3_ := Aside0.mk ((by rw [hg]; exact (below_size (by repeat (first | (with_reducible first | exact HB.out | apply below_alloc | apply pw_below_drewN | apply below_drew1 | refine below_set ?_ GE182.out) | exact HB.out))) : w.heap.size ≤ gb183)); have n4_ := Aside0.mk ((by rw [hg]; exact (below_size (by repeat (first | (with_reducible first | exact HB.out | apply below_alloc | apply pw_below_drewN | apply below_drew1 | refine below_set ?_ GE182.out) | exact HB.out))) : w.heap.size ≤ gb183)); have n5_ := Aside0.mk ((by rw [hg]; exact Nat.ne_of_lt (blk_lt (g := gb182) (o := .cells #[.slice A0_0 l0_0.length c0_0, .slice A0_1 l0_1.length c0_1, .int .i64 a0_2] 36 (0, 0)) (by (with_reducible repeat (first | refine blk_drewN ?_ _ | refine blk_drew ?_ | refine blk_alloc ?_ _)); exact BK182.out)) : gb182 ≠ gb183)); have n6_ := Aside0.mk ((by rw [hg]; exact Nat.ne_of_gt (blk_lt (g := gb182) (o := .cells #[.slice A0_0 l0_0.length c0_0, .slice A0_1 l0_1.length c0_1, .int .i64 a0_2] 36 (0, 0)) (by (with_reducible repeat (first | refine blk_drewN ?_ _ | refine blk_drew ?_ | refine blk_alloc ?_ _)); exact BK182.out)) : gb183 ≠ gb182)); clear BK182; clear HB; have BK182 := n0_; have HB := n1_; have BK183 := n2_; have GW183 := n3_; have GE183 := n4_; have NB182_183 := n5_; have NB183_182 := n6_; clear n0_ n1_ n2_ n3_ n4_ n5_ n6_; clear hb hbox hg)); go_upto_region 1 with (first | ((with_reducible refine gate_dst (N := 2) rfl ?_); (try (refine gate_guard (by rfl) ?_; dsimp only)); refine box_event ?hg (N := 2) ?hd (cs := #[.slice A0_0 l0_0.length c0_0, .slice A0_1 l0_1.length c0_1, .int .i64 a0_2]) (t := 36) ?hr ?_; (case hd => rfl); (case hg => rfl); (case hr => first | (go_simp; done) | (go_simp; rfl)); intro gb182 hg w4 hbox hb; have n0_ := Aside0.mk (below_step (by repeat (first | (with_reducible first | exact HB.out | apply below_alloc | apply pw_below_drewN | apply below_drew1) | exact HB.out)) hb); have n1_ := Aside0.mk (hbox); have n2_ := Aside0.mk ((by rw [hg]; exact (below_size (by repeat (first | (with_reducible first | exact HB.out | apply below_alloc | apply pw_below_drewN | apply below_drew1) | exact HB.out))) : w.heap.size ≤ gb182)); have n3_ := Aside0.mk ((by rw [hg]; exact (below_size (by repeat (first | (with_reducible first | exact HB.out | apply below_alloc | apply pw_below_drewN | apply below_drew1) | exact HB.out))) : w.heap.size ≤ gb182)); clear HB; have HB := n0_; have BK182 := n1_; have GW182 := n2_; have GE182 := n3_; clear n0_ n1_ n2_ n3_; clear hb hbox hg) | ((with_reducible refine gate_dst (N := 3) rfl ?_); (try (refine gate_guard (by rfl) ?_; dsimp only)); refine box_event ?hg (N := 3) ?hd (cs := #[.slice A1_0 l1_0.length c1_0, .slice A1_1 l1_1.length c1_1, .int .i64 a1_2]) (t := 36) ?hr ?_; (case hd => rfl); (case hg => rfl); (case hr => first | (go_simp; done) | (go_simp; rfl)); intro gb183 hg w5 hbox hb; have n0_ := Aside0.mk (blk_below (g := gb182) (o := .cells #[.slice A0_0 l0_0.length c0_0, .slice A0_1 l0_1.length c0_1, .int .i64 a0_2] 36 (0, 0)) (by (with_reducible repeat (first | refine blk_drewN ?_ _ | refine blk_drew ?_ | refine blk_alloc ?_ _)); exact BK182.out) hb); have n1_ := Aside0.mk (below_step (by repeat (first | (with_reducible first | exact HB.out | apply below_alloc | apply pw_below_drewN | apply below_drew1 | refine below_set ?_ GE182.out) | exact HB.out)) hb); have n2_ := Aside0.mk (hbox); have n3_ := Aside0.mk ((by rw [hg]; exact (below_size (by repeat (first | (with_reducible first | exact HB.out | apply below_alloc | apply pw_below_drewN | apply below_drew1 | refine below_set ?_ GE182.out) | exact HB.out))) : w.heap.size ≤ gb183)); have n4_ := Aside0.mk ((by rw [hg]; exact (below_size (by repeat (first | (with_reducible first | exact HB.out | apply below_alloc | apply pw_below_drewN | apply below_drew1 | refine below_set ?_ GE182.out) | exact HB.out))) : w.heap.size ≤ gb183)); have n5_ := Aside0.mk ((by rw [hg]; exact Nat.ne_of_lt (blk_lt (g := gb182) (o := .cells #[.slice A0_0 l0_0.length c0_0, .slice A0_1 l0_1.length c0_1, .int .i64 a0_2] 36 (0, 0)) (by (with_reducible repeat (first | refine blk_drewN ?_ _ | refine blk_drew ?_ | refine blk_alloc ?_ _)); exact BK182.out)) : gb182 ≠ gb183)); have n6_ := Aside0.mk ((by rw [hg]; exact Nat.ne_of_gt (blk_lt (g := gb182) (o := .cells #[.slice A0_0 l0_0.length c0_0, .slice A0_1 l0_1.length c0_1, .int .i64 a0_2] 36 (0, 0)) (by (with_reducible repeat (first | refine blk_drewN ?_ _ | refine blk_drew ?_ | refine blk_alloc ?_ _)); exact BK182.out)) : gb183 ≠ gb182)); clear BK182; clear HB; have BK182 := n0_; have HB := n1_; have BK183 := n2_; have GW183 := n3_; have GE183 := n4_; have NB182_183 := n5_; have NB183_182 := n6_; clear n0_ n1_ n2_ n3_ n4_ n5_ n6_; clear hb hbox hg)))
  (try simp only [Act.put, List.setIfInBounds_toArray, List.set_cons_zero, List.set_cons_succ])
  go_cut [29] (fun v29 wc => ∃ (kq : Nat) (x29_2 : Bool), v29 = .bool x29_2 ∧ Aside0 (rehearsalref11_Same.j0 kq x29_2 l0_0 l0_1 a0_2 l1_0 l1_1 a1_2 = some r) ∧ Aside0 (kq ≤ k) ∧ Aside0 (wc.heap[gb182]? = some (.cells #[(.slice A0_0 l0_0.length c0_0), (.slice A0_1 l0_1.length c0_1), .int .i64 a0_2] 36 (0, 0))) ∧ Aside0 (wc.heap[gb183]? = some (.cells #[(.slice A1_0 l1_0.length c1_0), (.slice A1_1 l1_1.length c1_1), .int .i64 a1_2] 36 (0, 0))) ∧ Aside0 (Below w.heap.size w wc))
  case first =>
    have H := HC3.out
    clear HC3
    by_cases c6 : (l0_0.length : Int) = (l1_0.length : Int)
    · rw [if_pos c6] at H
      have c6b0 : ((l0_0.length : Int) == (l1_0.length : Int)) = true := beq_iff_eq.mpr c6
      have c6b1 : ((l0_0.length : Int) != (l1_0.length : Int)) = false := bne_eq_false_iff_eq.mpr c6
      have c6b2 : (l0_0.length == l1_0.length) = true := by first | simpa using c6 | (simp at c6 ⊢; omega)
      clear c6
      (first | rw [c6b0] | (simp only [i64_w, i32_w]; rw [c6b0]) | skip)
      by_cases c7 : (l0_1.length : Int) = (l1_1.length : Int)
      · rw [if_pos c7] at H
        have c7b0 : ((l0_1.length : Int) == (l1_1.length : Int)) = true := beq_iff_eq.mpr c7
        have c7b1 : ((l0_1.length : Int) != (l1_1.length : Int)) = false := bne_eq_false_iff_eq.mpr c7
        have c7b2 : (l0_1.length == l1_1.length) = true := by first | simpa using c7 | (simp at c7 ⊢; omega)
        clear c7
        have H' := Aside0.mk H
        clear H
        have hnb8 := NB182_183.out
        have hnc8 := NB183_182.out
        have hcz9_0 : w5.cell? ⟨gb182, 0, none⟩ = some (.slice A0_0 l0_0.length c0_0) := (blk_cell BK182.out 0).trans rfl
        have hcz9_1 : w5.cell? ⟨gb182, 1, none⟩ = some (.slice A0_1 l0_1.length c0_1) := (blk_cell BK182.out 1).trans rfl
        have hcz9_2 : w5.cell? ⟨gb182, 2, none⟩ = some (.int .i64 a0_2) := (blk_cell BK182.out 2).trans rfl
        have hfz9_0 := blk_frozen BK182.out 0
        have hfz9_1 := blk_frozen BK182.out 1
        have hfz9_2 := blk_frozen BK182.out 2
        have hcz10_0 : w5.cell? ⟨gb183, 0, none⟩ = some (.slice A1_0 l1_0.length c1_0) := (blk_cell BK183.out 0).trans rfl
        have hcz10_1 : w5.cell? ⟨gb183, 1, none⟩ = some (.slice A1_1 l1_1.length c1_1) := (blk_cell BK183.out 1).trans rfl
        have hcz10_2 : w5.cell? ⟨gb183, 2, none⟩ = some (.int .i64 a1_2) := (blk_cell BK183.out 2).trans rfl
        have hfz10_0 := blk_frozen BK183.out 0
        have hfz10_1 := blk_frozen BK183.out 1
        have hfz10_2 := blk_frozen BK183.out 2
        go_wp2
        repeat (go_quiet (fail); try go_wp2)
        go_meet
        case rel => exact ⟨_, ((a0_2 != a1_2)), (by first | rfl | (simp; done) | (simp [*]; done)), H', ⟨by first | omega | exact Nat.le_refl _⟩, ⟨by (with_reducible repeat (first | refine blk_drewN ?_ _ | refine blk_drew ?_ | refine blk_alloc ?_ _)); exact BK182.out⟩, ⟨by (with_reducible repeat (first | refine blk_drewN ?_ _ | refine blk_drew ?_ | refine blk_alloc ?_ _)); exact BK183.out⟩, ⟨by repeat (first | (with_reducible first | exact HB.out | apply below_alloc | apply pw_below_drewN | apply below_drew1 | refine below_set ?_ GE182.out | refine below_set ?_ GE183.out) | exact HB.out)⟩⟩
      · rw [if_neg c7] at H
        have c7b0 : ((l0_1.length : Int) == (l1_1.length : Int)) = false := beq_eq_false_iff_ne.mpr c7
        have c7b1 : ((l0_1.length : Int) != (l1_1.length : Int)) = true := bne_iff_ne.mpr c7
        have c7b2 : (l0_1.length == l1_1.length) = false := by first | simpa using c7 | (simp at c7 ⊢; omega)
        have H' := Aside0.mk H
        clear H
        have hnb11 := NB182_183.out
        have hnc11 := NB183_182.out
        have hcz12_0 : w5.cell? ⟨gb182, 0, none⟩ = some (.slice A0_0 l0_0.length c0_0) := (blk_cell BK182.out 0).trans rfl
        have hcz12_1 : w5.cell? ⟨gb182, 1, none⟩ = some (.slice A0_1 l0_1.length c0_1) := (blk_cell BK182.out 1).trans rfl
        have hcz12_2 : w5.cell? ⟨gb182, 2, none⟩ = some (.int .i64 a0_2) := (blk_cell BK182.out 2).trans rfl
        have hfz12_0 := blk_frozen BK182.out 0
        have hfz12_1 := blk_frozen BK182.out 1
        have hfz12_2 := blk_frozen BK182.out 2
        have hcz13_0 : w5.cell? ⟨gb183, 0, none⟩ = some (.slice A1_0 l1_0.length c1_0) := (blk_cell BK183.out 0).trans rfl
        have hcz13_1 : w5.cell? ⟨gb183, 1, none⟩ = some (.slice A1_1 l1_1.length c1_1) := (blk_cell BK183.out 1).trans rfl
        have hcz13_2 : w5.cell? ⟨gb183, 2, none⟩ = some (.int .i64 a1_2) := (blk_cell BK183.out 2).trans rfl
        have hfz13_0 := blk_frozen BK183.out 0
        have hfz13_1 := blk_frozen BK183.out 1
        have hfz13_2 := blk_frozen BK183.out 2
        go_wp2
        repeat (go_quiet (fail); try go_wp2)
        go_meet
        case rel => exact ⟨_, (true), (by first | rfl | (simp; done) | (simp [*]; done)), H', ⟨by first | omega | exact Nat.le_refl _⟩, ⟨by (with_reducible repeat (first | refine blk_drewN ?_ _ | refine blk_drew ?_ | refine blk_alloc ?_ _)); exact BK182.out⟩, ⟨by (with_reducible repeat (first | refine blk_drewN ?_ _ | refine blk_drew ?_ | refine blk_alloc ?_ _)); exact BK183.out⟩, ⟨by repeat (first | (with_reducible first | exact HB.out | apply below_alloc | apply pw_below_drewN | apply below_drew1 | refine below_set ?_ GE182.out | refine below_set ?_ GE183.out) | exact HB.out)⟩⟩
    · rw [if_neg c6] at H
      have c6b0 : ((l0_0.length : Int) == (l1_0.length : Int)) = false := beq_eq_false_iff_ne.mpr c6
      have c6b1 : ((l0_0.length : Int) != (l1_0.length : Int)) = true := bne_iff_ne.mpr c6
      have c6b2 : (l0_0.length == l1_0.length) = false := by first | simpa using c6 | (simp at c6 ⊢; omega)
      (first | rw [c6b0] | (simp only [i64_w, i32_w]; rw [c6b0]) | skip)
      have H' := Aside0.mk H
      clear H
      have hnb14 := NB182_183.out
      have hnc14 := NB183_182.out
      have hcz15_0 : w5.cell? ⟨gb182, 0, none⟩ = some (.slice A0_0 l0_0.length c0_0) := (blk_cell BK182.out 0).trans rfl
      have hcz15_1 : w5.cell? ⟨gb182, 1, none⟩ = some (.slice A0_1 l0_1.length c0_1) := (blk_cell BK182.out 1).trans rfl
      have hcz15_2 : w5.cell? ⟨gb182, 2, none⟩ = some (.int .i64 a0_2) := (blk_cell BK182.out 2).trans rfl
      have hfz15_0 := blk_frozen BK182.out 0
      have hfz15_1 := blk_frozen BK182.out 1
      have hfz15_2 := blk_frozen BK182.out 2
      have hcz16_0 : w5.cell? ⟨gb183, 0, none⟩ = some (.slice A1_0 l1_0.length c1_0) := (blk_cell BK183.out 0).trans rfl
      have hcz16_1 : w5.cell? ⟨gb183, 1, none⟩ = some (.slice A1_1 l1_1.length c1_1) := (blk_cell BK183.out 1).trans rfl
      have hcz16_2 : w5.cell? ⟨gb183, 2, none⟩ = some (.int .i64 a1_2) := (blk_cell BK183.out 2).trans rfl
      have hfz16_0 := blk_frozen BK183.out 0
      have hfz16_1 := blk_frozen BK183.out 1
      have hfz16_2 := blk_frozen BK183.out 2
      go_wp2
      repeat (go_quiet (fail); try go_wp2)
      go_meet
      case rel => exact ⟨_, (true), (by first | rfl | (simp; done) | (simp [*]; done)), H', ⟨by first | omega | exact Nat.le_refl _⟩, ⟨by (with_reducible repeat (first | refine blk_drewN ?_ _ | refine blk_drew ?_ | refine blk_alloc ?_ _)); exact BK182.out⟩, ⟨by (with_reducible repeat (first | refine blk_drewN ?_ _ | refine blk_drew ?_ | refine blk_alloc ?_ _)); exact BK183.out⟩, ⟨by repeat (first | (with_reducible first | exact HB.out | apply below_alloc | apply pw_below_drewN | apply below_drew1 | refine below_set ?_ GE182.out | refine below_set ?_ GE183.out) | exact HB.out)⟩⟩
  case rest =>
    clear HC3
    try clear c1
    try clear p2
    try clear c6
    try clear c6b0
    try clear c6b1
    try clear c6b2
    try clear c7
    try clear c7b0
    try clear c7b1
    try clear c7b2
    try clear c8
    try clear c11
    try clear c14
    try clear hcz10_0
    try clear hcz10_1
    try clear hcz10_2
    try clear hcz12_0
    try clear hcz12_1
    try clear hcz12_2
    try clear hcz13_0
    try clear hcz13_1
    try clear hcz13_2
    try clear hcz15_0
    try clear hcz15_1
    try clear hcz15_2
    try clear hcz16_0
    try clear hcz16_1
    try clear hcz16_2
    try clear hcz9_0
    try clear hcz9_1
    try clear hcz9_2
    try clear hfz10_0
    try clear hfz10_1
    try clear hfz10_2
    try clear hfz12_0
    try clear hfz12_1
    try clear hfz12_2
    try clear hfz13_0
    try clear hfz13_1
    try clear hfz13_2
    try clear hfz15_0
    try clear hfz15_1
    try clear hfz15_2
    try clear hfz16_0
    try clear hfz16_1
    try clear hfz16_2
    try clear hfz9_0
    try clear hfz9_1
    try clear hfz9_2
    obtain ⟨kq, x29_2, rfl, HA, HJ2, BK182, BK183, HB⟩ := hcut
    cases kq with
    | zero => exact absurd HA.out (by simp [rehearsalref11_Same.j0])
    | succ kj2 =>
      have H := HA.out
      clear HA
      simp only [rehearsalref11_Same.j0] at H
      by_cases c17 : x29_2 = true
      · subst c17
        have H1 : (some false) = some r := by rw [if_pos rfl] at H; exact H
        clear H
        have H := H1
        clear H1
        obtain rfl := Option.some.inj H
        go_wp2
        repeat (go_quiet (fail); try go_wp2)
        go_ret
        exact ⟨by first | rfl | (simp [errW_none, errW_some] <;> rfl) | (simp [*, errW_none, errW_some] <;> rfl), by repeat (first | (with_reducible first | exact HB.out | apply below_alloc | apply pw_below_drewN | apply below_drew1 | refine below_set ?_ GE182.out | refine below_set ?_ GE183.out) | exact HB.out)⟩
      · replace c17 := Bool.eq_false_iff.mpr c17
        subst c17
        have H1 : (rehearsalref11_Same.l0 kj2 0 l0_0 l0_1 a0_2 l1_0 l1_1 a1_2) = some r := by rw [if_neg (show ¬ (false = true) by decide)] at H; exact H
        clear H
        have H := H1
        clear H1
        have H' := Aside0.mk H
        clear H
        go_wp2
        repeat (go_quiet (fail); try go_wp2)
        go_loopg [5] kj2 (fun kq v5 w' => ∃ (x5_2 : Int), v5 = .int .i64 x5_2 ∧ Aside0 (rehearsalref11_Same.l0 kq x5_2 l0_0 l0_1 a0_2 l1_0 l1_1 a1_2 = some r) ∧ Aside0 (kq ≤ kj2) ∧ Aside0 (w'.heap[gb182]? = some (.cells #[(.slice A0_0 l0_0.length c0_0), (.slice A0_1 l0_1.length c0_1), .int .i64 a0_2] 36 (0, 0))) ∧ Aside0 (w'.heap[gb183]? = some (.cells #[(.slice A1_0 l1_0.length c1_0), (.slice A1_1 l1_1.length c1_1), .int .i64 a1_2] 36 (0, 0))) ∧ Aside0 (Below w.heap.size w w'))
        case atStart => exact ⟨(0), (by first | rfl | (simp; done) | (simp [*]; done)), H', ⟨Nat.le_refl _⟩, ⟨by (with_reducible repeat (first | refine blk_drewN ?_ _ | refine blk_drew ?_ | refine blk_alloc ?_ _)); exact BK182.out⟩, ⟨by (with_reducible repeat (first | refine blk_drewN ?_ _ | refine blk_drew ?_ | refine blk_alloc ?_ _)); exact BK183.out⟩, ⟨by repeat (first | (with_reducible first | exact HB.out | apply below_alloc | apply pw_below_drewN | apply below_drew1 | refine below_set ?_ GE182.out | refine below_set ?_ GE183.out) | exact HB.out)⟩⟩
        case round =>
          clear H'
          try clear c1
          try clear p2
          try clear c6
          try clear c6b0
          try clear c6b1
          try clear c6b2
          try clear c7
          try clear c7b0
          try clear c7b1
          try clear c7b2
          try clear c8
          try clear c11
          try clear c14
          try clear c17
          try clear hcz10_0
          try clear hcz10_1
          try clear hcz10_2
          try clear hcz12_0
          try clear hcz12_1
          try clear hcz12_2
          try clear hcz13_0
          try clear hcz13_1
          try clear hcz13_2
          try clear hcz15_0
          try clear hcz15_1
          try clear hcz15_2
          try clear hcz16_0
          try clear hcz16_1
          try clear hcz16_2
          try clear hcz9_0
          try clear hcz9_1
          try clear hcz9_2
          try clear hfz10_0
          try clear hfz10_1
          try clear hfz10_2
          try clear hfz12_0
          try clear hfz12_1
          try clear hfz12_2
          try clear hfz13_0
          try clear hfz13_1
          try clear hfz13_2
          try clear hfz15_0
          try clear hfz15_1
          try clear hfz15_2
          try clear hfz16_0
          try clear hfz16_1
          try clear hfz16_2
          try clear hfz9_0
          try clear hfz9_1
          try clear hfz9_2
          try clear p2
          obtain ⟨x5_2, rfl, HA, HK2, BK182, BK183, HB⟩ := hrel
          cases gk with
          | zero => exact absurd HA.out (by simp [rehearsalref11_Same.l0])
          | succ k2 =>
            have H := HA.out
            clear HA
            simp only [rehearsalref11_Same.l0] at H
            by_cases c18 : x5_2 < (l0_0.length : Int)
            · rw [if_pos c18] at H
              have c18b0 : decide (x5_2 < (l0_0.length : Int)) = true := decide_eq_true c18
              clear c18
              by_cases c19 : 0 ≤ x5_2
              · rw [if_pos c19] at H
                have c19b0 : decide (0 ≤ x5_2) = true := decide_eq_true c19
                clear c19
                by_cases c20 : x5_2 < (l1_0.length : Int)
                · rw [if_pos c20] at H
                  have c20b0 : decide (x5_2 < (l1_0.length : Int)) = true := decide_eq_true c20
                  clear c20
                  by_cases c21 : (!((((rd_T26 l0_0 x5_2).f0).toList) == (((rd_T26 l1_0 x5_2).f0).toList)) || (!((((rd_T26 l0_0 x5_2).f1).toList) == (((rd_T26 l1_0 x5_2).f1).toList)))) = true
                  · rw [if_pos c21] at H
                    have c21b0 : (!((((rd_T26 l0_0 x5_2).f0).toList) == (((rd_T26 l1_0 x5_2).f0).toList)) || (!((((rd_T26 l0_0 x5_2).f1).toList) == (((rd_T26 l1_0 x5_2).f1).toList)))) = true := c21
                    clear c21
                    obtain rfl := Option.some.inj H
                    have hnb22 := NB182_183.out
                    have hnc22 := NB183_182.out
                    have hcz23_0 : wr.cell? ⟨gb182, 0, none⟩ = some (.slice A0_0 l0_0.length c0_0) := (blk_cell BK182.out 0).trans rfl
                    have hcz23_1 : wr.cell? ⟨gb182, 1, none⟩ = some (.slice A0_1 l0_1.length c0_1) := (blk_cell BK182.out 1).trans rfl
                    have hcz23_2 : wr.cell? ⟨gb182, 2, none⟩ = some (.int .i64 a0_2) := (blk_cell BK182.out 2).trans rfl
                    have hfz23_0 := blk_frozen BK182.out 0
                    have hfz23_1 := blk_frozen BK182.out 1
                    have hfz23_2 := blk_frozen BK182.out 2
                    have p184 : 0 ≤ (x5_2 : Int) := of_decide_eq_true (by first | (with_reducible assumption) | assumption)
                    have q184 : x5_2 < (l0_0.length : Int) := of_decide_eq_true (by first | (with_reducible assumption) | assumption)
                    obtain ⟨ad184, e184, hx184_0, hx184_1⟩ := at_T26 HR0_0.out x5_2 p184 q184
                    cases e184
                    replace hx184_0 := (HB.out.cell (World.block_lt_of_cell? w _ hx184_0)).trans hx184_0
                    replace hx184_1 := (HB.out.cell (World.block_lt_of_cell? w _ hx184_1)).trans hx184_1
                    replace p184 := eq_true p184
                    replace q184 := eq_true q184
                    have hcz24_0 : wr.cell? ⟨gb183, 0, none⟩ = some (.slice A1_0 l1_0.length c1_0) := (blk_cell BK183.out 0).trans rfl
                    have hcz24_1 : wr.cell? ⟨gb183, 1, none⟩ = some (.slice A1_1 l1_1.length c1_1) := (blk_cell BK183.out 1).trans rfl
                    have hcz24_2 : wr.cell? ⟨gb183, 2, none⟩ = some (.int .i64 a1_2) := (blk_cell BK183.out 2).trans rfl
                    have hfz24_0 := blk_frozen BK183.out 0
                    have hfz24_1 := blk_frozen BK183.out 1
                    have hfz24_2 := blk_frozen BK183.out 2
                    have p185 : 0 ≤ (x5_2 : Int) := of_decide_eq_true (by first | (with_reducible assumption) | assumption)
                    have q185 : x5_2 < (l1_0.length : Int) := of_decide_eq_true (by first | (with_reducible assumption) | assumption)
                    obtain ⟨ad185, e185, hx185_0, hx185_1⟩ := at_T26 HR1_0.out x5_2 p185 q185
                    cases e185
                    replace hx185_0 := (HB.out.cell (World.block_lt_of_cell? w _ hx185_0)).trans hx185_0
                    replace hx185_1 := (HB.out.cell (World.block_lt_of_cell? w _ hx185_1)).trans hx185_1
                    replace p185 := eq_true p185
                    replace q185 := eq_true q185
                    go_wp2
                    repeat (go_quiet (fail); try go_wp2)
                    go_ret
                    exact ⟨by first | rfl | (simp [errW_none, errW_some] <;> rfl) | (simp [*, errW_none, errW_some] <;> rfl), by repeat (first | (with_reducible first | exact HB.out | apply below_alloc | apply pw_below_drewN | apply below_drew1 | refine below_set ?_ GE182.out | refine below_set ?_ GE183.out) | exact HB.out)⟩
                  · rw [if_neg c21] at H
                    have c21b0 : (!((((rd_T26 l0_0 x5_2).f0).toList) == (((rd_T26 l1_0 x5_2).f0).toList)) || (!((((rd_T26 l0_0 x5_2).f1).toList) == (((rd_T26 l1_0 x5_2).f1).toList)))) = false := by simpa using c21
                    clear c21
                    have H' := Aside0.mk H
                    clear H
                    have hnb25 := NB182_183.out
                    have hnc25 := NB183_182.out
                    have hcz26_0 : wr.cell? ⟨gb182, 0, none⟩ = some (.slice A0_0 l0_0.length c0_0) := (blk_cell BK182.out 0).trans rfl
                    have hcz26_1 : wr.cell? ⟨gb182, 1, none⟩ = some (.slice A0_1 l0_1.length c0_1) := (blk_cell BK182.out 1).trans rfl
                    have hcz26_2 : wr.cell? ⟨gb182, 2, none⟩ = some (.int .i64 a0_2) := (blk_cell BK182.out 2).trans rfl
                    have hfz26_0 := blk_frozen BK182.out 0
                    have hfz26_1 := blk_frozen BK182.out 1
                    have hfz26_2 := blk_frozen BK182.out 2
                    have p184 : 0 ≤ (x5_2 : Int) := of_decide_eq_true (by first | (with_reducible assumption) | assumption)
                    have q184 : x5_2 < (l0_0.length : Int) := of_decide_eq_true (by first | (with_reducible assumption) | assumption)
                    obtain ⟨ad184, e184, hx184_0, hx184_1⟩ := at_T26 HR0_0.out x5_2 p184 q184
                    cases e184
                    replace hx184_0 := (HB.out.cell (World.block_lt_of_cell? w _ hx184_0)).trans hx184_0
                    replace hx184_1 := (HB.out.cell (World.block_lt_of_cell? w _ hx184_1)).trans hx184_1
                    replace p184 := eq_true p184
                    replace q184 := eq_true q184
                    have hcz27_0 : wr.cell? ⟨gb183, 0, none⟩ = some (.slice A1_0 l1_0.length c1_0) := (blk_cell BK183.out 0).trans rfl
                    have hcz27_1 : wr.cell? ⟨gb183, 1, none⟩ = some (.slice A1_1 l1_1.length c1_1) := (blk_cell BK183.out 1).trans rfl
                    have hcz27_2 : wr.cell? ⟨gb183, 2, none⟩ = some (.int .i64 a1_2) := (blk_cell BK183.out 2).trans rfl
                    have hfz27_0 := blk_frozen BK183.out 0
                    have hfz27_1 := blk_frozen BK183.out 1
                    have hfz27_2 := blk_frozen BK183.out 2
                    have p185 : 0 ≤ (x5_2 : Int) := of_decide_eq_true (by first | (with_reducible assumption) | assumption)
                    have q185 : x5_2 < (l1_0.length : Int) := of_decide_eq_true (by first | (with_reducible assumption) | assumption)
                    obtain ⟨ad185, e185, hx185_0, hx185_1⟩ := at_T26 HR1_0.out x5_2 p185 q185
                    cases e185
                    replace hx185_0 := (HB.out.cell (World.block_lt_of_cell? w _ hx185_0)).trans hx185_0
                    replace hx185_1 := (HB.out.cell (World.block_lt_of_cell? w _ hx185_1)).trans hx185_1
                    replace p185 := eq_true p185
                    replace q185 := eq_true q185
                    go_wp2
                    repeat (go_quiet (fail); try go_wp2)
                    go_roundg k2
                    case measure => have := HJ2.out; have := HK2.out; omega
                    case rel => exact ⟨(wrap64 (x5_2 + 1)), (by first | rfl | (simp; done) | (simp [*]; done)), H', ⟨by have := HJ2.out; have := HK2.out; omega⟩, ⟨by (with_reducible repeat (first | refine blk_drewN ?_ _ | refine blk_drew ?_ | refine blk_alloc ?_ _)); exact BK182.out⟩, ⟨by (with_reducible repeat (first | refine blk_drewN ?_ _ | refine blk_drew ?_ | refine blk_alloc ?_ _)); exact BK183.out⟩, ⟨by repeat (first | (with_reducible first | exact HB.out | apply below_alloc | apply pw_below_drewN | apply below_drew1 | refine below_set ?_ GE182.out | refine below_set ?_ GE183.out) | exact HB.out)⟩⟩
                · rw [if_neg c20] at H
                  exact absurd H (by simp)
              · rw [if_neg c19] at H
                exact absurd H (by simp)
            · rw [if_neg c18] at H
              have c18b0 : decide (x5_2 < (l0_0.length : Int)) = false := decide_eq_false c18
              clear c18
              have H' := Aside0.mk H
              clear H
              have hnb28 := NB182_183.out
              have hnc28 := NB183_182.out
              have hcz29_0 : wr.cell? ⟨gb182, 0, none⟩ = some (.slice A0_0 l0_0.length c0_0) := (blk_cell BK182.out 0).trans rfl
              have hcz29_1 : wr.cell? ⟨gb182, 1, none⟩ = some (.slice A0_1 l0_1.length c0_1) := (blk_cell BK182.out 1).trans rfl
              have hcz29_2 : wr.cell? ⟨gb182, 2, none⟩ = some (.int .i64 a0_2) := (blk_cell BK182.out 2).trans rfl
              have hfz29_0 := blk_frozen BK182.out 0
              have hfz29_1 := blk_frozen BK182.out 1
              have hfz29_2 := blk_frozen BK182.out 2
              go_wp2
              repeat (go_quiet (fail); try go_wp2)
              go_loopg [6] k2 (fun kq v6 w' => ∃ (x6_3 : Int), v6 = .int .i64 x6_3 ∧ Aside0 (rehearsalref11_Same.l1 kq x6_3 l0_0 l0_1 a0_2 l1_0 l1_1 a1_2 = some r) ∧ Aside0 (kq ≤ k2) ∧ Aside0 (w'.heap[gb182]? = some (.cells #[(.slice A0_0 l0_0.length c0_0), (.slice A0_1 l0_1.length c0_1), .int .i64 a0_2] 36 (0, 0))) ∧ Aside0 (w'.heap[gb183]? = some (.cells #[(.slice A1_0 l1_0.length c1_0), (.slice A1_1 l1_1.length c1_1), .int .i64 a1_2] 36 (0, 0))) ∧ Aside0 (Below w.heap.size w w'))
              case atStart => exact ⟨(0), (by first | rfl | (simp; done) | (simp [*]; done)), H', ⟨Nat.le_refl _⟩, ⟨by (with_reducible repeat (first | refine blk_drewN ?_ _ | refine blk_drew ?_ | refine blk_alloc ?_ _)); exact BK182.out⟩, ⟨by (with_reducible repeat (first | refine blk_drewN ?_ _ | refine blk_drew ?_ | refine blk_alloc ?_ _)); exact BK183.out⟩, ⟨by repeat (first | (with_reducible first | exact HB.out | apply below_alloc | apply pw_below_drewN | apply below_drew1 | refine below_set ?_ GE182.out | refine below_set ?_ GE183.out) | exact HB.out)⟩⟩
              case round =>
                clear H'
                try clear c1
                try clear p1
                try clear q1
                try clear hx1
                try clear c2
                try clear p2
                try clear c6
                try clear c6b0
                try clear c6b1
                try clear c6b2
                try clear p6
                try clear c7
                try clear c7b0
                try clear c7b1
                try clear c7b2
                try clear c8
                try clear c11
                try clear c14
                try clear c17
                try clear c18
                try clear c18b0
                try clear p18
                try clear q18
                try clear hx18
                try clear c19
                try clear c19b0
                try clear c20
                try clear c20b0
                try clear c21
                try clear c21b0
                try clear c22
                try clear c25
                try clear c28
                try clear hcz10_0
                try clear hcz10_1
                try clear hcz10_2
                try clear hcz12_0
                try clear hcz12_1
                try clear hcz12_2
                try clear hcz13_0
                try clear hcz13_1
                try clear hcz13_2
                try clear hcz15_0
                try clear hcz15_1
                try clear hcz15_2
                try clear hcz16_0
                try clear hcz16_1
                try clear hcz16_2
                try clear hcz23_0
                try clear hcz23_1
                try clear hcz23_2
                try clear hcz24_0
                try clear hcz24_1
                try clear hcz24_2
                try clear hcz26_0
                try clear hcz26_1
                try clear hcz26_2
                try clear hcz27_0
                try clear hcz27_1
                try clear hcz27_2
                try clear hcz29_0
                try clear hcz29_1
                try clear hcz29_2
                try clear hcz9_0
                try clear hcz9_1
                try clear hcz9_2
                try clear hfz10_0
                try clear hfz10_1
                try clear hfz10_2
                try clear hfz12_0
                try clear hfz12_1
                try clear hfz12_2
                try clear hfz13_0
                try clear hfz13_1
                try clear hfz13_2
                try clear hfz15_0
                try clear hfz15_1
                try clear hfz15_2
                try clear hfz16_0
                try clear hfz16_1
                try clear hfz16_2
                try clear hfz23_0
                try clear hfz23_1
                try clear hfz23_2
                try clear hfz24_0
                try clear hfz24_1
                try clear hfz24_2
                try clear hfz26_0
                try clear hfz26_1
                try clear hfz26_2
                try clear hfz27_0
                try clear hfz27_1
                try clear hfz27_2
                try clear hfz29_0
                try clear hfz29_1
                try clear hfz29_2
                try clear hfz9_0
                try clear hfz9_1
                try clear hfz9_2
                try clear hx184_0
                try clear hx184_1
                try clear hx185_0
                try clear hx185_1
                try clear p184
                try clear p185
                try clear p2
                try clear q184
                try clear q185
                obtain ⟨x6_3, rfl, HA, HK3, BK182, BK183, HB⟩ := hrel
                cases gk with
                | zero => exact absurd HA.out (by simp [rehearsalref11_Same.l1])
                | succ k3 =>
                  have H := HA.out
                  clear HA
                  simp only [rehearsalref11_Same.l1] at H
                  by_cases c30 : x6_3 < (l0_1.length : Int)
                  · rw [if_pos c30] at H
                    have c30b0 : decide (x6_3 < (l0_1.length : Int)) = true := decide_eq_true c30
                    clear c30
                    by_cases c31 : 0 ≤ x6_3
                    · rw [if_pos c31] at H
                      have c31b0 : decide (0 ≤ x6_3) = true := decide_eq_true c31
                      clear c31
                      by_cases c32 : x6_3 < (l1_1.length : Int)
                      · rw [if_pos c32] at H
                        have c32b0 : decide (x6_3 < (l1_1.length : Int)) = true := decide_eq_true c32
                        clear c32
                        by_cases c33 : (rdOf ByteArray.empty l0_1 x6_3).toList = (rdOf ByteArray.empty l1_1 x6_3).toList
                        · rw [if_pos c33] at H
                          have c33b0 : ((rdOf ByteArray.empty l0_1 x6_3).toList == (rdOf ByteArray.empty l1_1 x6_3).toList) = true := beq_iff_eq.mpr c33
                          have c33b1 : ((rdOf ByteArray.empty l0_1 x6_3).toList != (rdOf ByteArray.empty l1_1 x6_3).toList) = false := bne_eq_false_iff_eq.mpr c33
                          clear c33
                          have H' := Aside0.mk H
                          clear H
                          have hnb34 := NB182_183.out
                          have hnc34 := NB183_182.out
                          have hcz35_0 : wr.cell? ⟨gb182, 0, none⟩ = some (.slice A0_0 l0_0.length c0_0) := (blk_cell BK182.out 0).trans rfl
                          have hcz35_1 : wr.cell? ⟨gb182, 1, none⟩ = some (.slice A0_1 l0_1.length c0_1) := (blk_cell BK182.out 1).trans rfl
                          have hcz35_2 : wr.cell? ⟨gb182, 2, none⟩ = some (.int .i64 a0_2) := (blk_cell BK182.out 2).trans rfl
                          have hfz35_0 := blk_frozen BK182.out 0
                          have hfz35_1 := blk_frozen BK182.out 1
                          have hfz35_2 := blk_frozen BK182.out 2
                          have p186 : 0 ≤ (x6_3 : Int) := of_decide_eq_true (by first | (with_reducible assumption) | assumption)
                          have q186 : x6_3 < (l0_1.length : Int) := of_decide_eq_true (by first | (with_reducible assumption) | assumption)
                          obtain ⟨ad186, e186, hx186_0⟩ := Kd.at_string HR0_1.out x6_3 p186 q186
                          cases e186
                          replace hx186_0 := (HB.out.cell (World.block_lt_of_cell? w _ hx186_0)).trans hx186_0
                          replace p186 := eq_true p186
                          replace q186 := eq_true q186
                          have hcz36_0 : wr.cell? ⟨gb183, 0, none⟩ = some (.slice A1_0 l1_0.length c1_0) := (blk_cell BK183.out 0).trans rfl
                          have hcz36_1 : wr.cell? ⟨gb183, 1, none⟩ = some (.slice A1_1 l1_1.length c1_1) := (blk_cell BK183.out 1).trans rfl
                          have hcz36_2 : wr.cell? ⟨gb183, 2, none⟩ = some (.int .i64 a1_2) := (blk_cell BK183.out 2).trans rfl
                          have hfz36_0 := blk_frozen BK183.out 0
                          have hfz36_1 := blk_frozen BK183.out 1
                          have hfz36_2 := blk_frozen BK183.out 2
                          have p187 : 0 ≤ (x6_3 : Int) := of_decide_eq_true (by first | (with_reducible assumption) | assumption)
                          have q187 : x6_3 < (l1_1.length : Int) := of_decide_eq_true (by first | (with_reducible assumption) | assumption)
                          obtain ⟨ad187, e187, hx187_0⟩ := Kd.at_string HR1_1.out x6_3 p187 q187
                          cases e187
                          replace hx187_0 := (HB.out.cell (World.block_lt_of_cell? w _ hx187_0)).trans hx187_0
                          replace p187 := eq_true p187
                          replace q187 := eq_true q187
                          go_wp2
                          repeat (go_quiet (fail); try go_wp2)
                          go_roundg k3
                          case measure => have := HJ2.out; have := HK2.out; have := HK3.out; omega
                          case rel => exact ⟨(wrap64 (x6_3 + 1)), (by first | rfl | (simp; done) | (simp [*]; done)), H', ⟨by have := HJ2.out; have := HK2.out; have := HK3.out; omega⟩, ⟨by (with_reducible repeat (first | refine blk_drewN ?_ _ | refine blk_drew ?_ | refine blk_alloc ?_ _)); exact BK182.out⟩, ⟨by (with_reducible repeat (first | refine blk_drewN ?_ _ | refine blk_drew ?_ | refine blk_alloc ?_ _)); exact BK183.out⟩, ⟨by repeat (first | (with_reducible first | exact HB.out | apply below_alloc | apply pw_below_drewN | apply below_drew1 | refine below_set ?_ GE182.out | refine below_set ?_ GE183.out) | exact HB.out)⟩⟩
                        · rw [if_neg c33] at H
                          have c33b0 : ((rdOf ByteArray.empty l0_1 x6_3).toList == (rdOf ByteArray.empty l1_1 x6_3).toList) = false := beq_eq_false_iff_ne.mpr c33
                          have c33b1 : ((rdOf ByteArray.empty l0_1 x6_3).toList != (rdOf ByteArray.empty l1_1 x6_3).toList) = true := bne_iff_ne.mpr c33
                          obtain rfl := Option.some.inj H
                          have hnb37 := NB182_183.out
                          have hnc37 := NB183_182.out
                          have hcz38_0 : wr.cell? ⟨gb182, 0, none⟩ = some (.slice A0_0 l0_0.length c0_0) := (blk_cell BK182.out 0).trans rfl
                          have hcz38_1 : wr.cell? ⟨gb182, 1, none⟩ = some (.slice A0_1 l0_1.length c0_1) := (blk_cell BK182.out 1).trans rfl
                          have hcz38_2 : wr.cell? ⟨gb182, 2, none⟩ = some (.int .i64 a0_2) := (blk_cell BK182.out 2).trans rfl
                          have hfz38_0 := blk_frozen BK182.out 0
                          have hfz38_1 := blk_frozen BK182.out 1
                          have hfz38_2 := blk_frozen BK182.out 2
                          have p186 : 0 ≤ (x6_3 : Int) := of_decide_eq_true (by first | (with_reducible assumption) | assumption)
                          have q186 : x6_3 < (l0_1.length : Int) := of_decide_eq_true (by first | (with_reducible assumption) | assumption)
                          obtain ⟨ad186, e186, hx186_0⟩ := Kd.at_string HR0_1.out x6_3 p186 q186
                          cases e186
                          replace hx186_0 := (HB.out.cell (World.block_lt_of_cell? w _ hx186_0)).trans hx186_0
                          replace p186 := eq_true p186
                          replace q186 := eq_true q186
                          have hcz39_0 : wr.cell? ⟨gb183, 0, none⟩ = some (.slice A1_0 l1_0.length c1_0) := (blk_cell BK183.out 0).trans rfl
                          have hcz39_1 : wr.cell? ⟨gb183, 1, none⟩ = some (.slice A1_1 l1_1.length c1_1) := (blk_cell BK183.out 1).trans rfl
                          have hcz39_2 : wr.cell? ⟨gb183, 2, none⟩ = some (.int .i64 a1_2) := (blk_cell BK183.out 2).trans rfl
                          have hfz39_0 := blk_frozen BK183.out 0
                          have hfz39_1 := blk_frozen BK183.out 1
                          have hfz39_2 := blk_frozen BK183.out 2
                          have p187 : 0 ≤ (x6_3 : Int) := of_decide_eq_true (by first | (with_reducible assumption) | assumption)
                          have q187 : x6_3 < (l1_1.length : Int) := of_decide_eq_true (by first | (with_reducible assumption) | assumption)
                          obtain ⟨ad187, e187, hx187_0⟩ := Kd.at_string HR1_1.out x6_3 p187 q187
                          cases e187
                          replace hx187_0 := (HB.out.cell (World.block_lt_of_cell? w _ hx187_0)).trans hx187_0
                          replace p187 := eq_true p187
                          replace q187 := eq_true q187
                          go_wp2
                          repeat (go_quiet (fail); try go_wp2)
                          go_ret
                          exact ⟨by first | rfl | (simp [errW_none, errW_some] <;> rfl) | (simp [*, errW_none, errW_some] <;> rfl), by repeat (first | (with_reducible first | exact HB.out | apply below_alloc | apply pw_below_drewN | apply below_drew1 | refine below_set ?_ GE182.out | refine below_set ?_ GE183.out) | exact HB.out)⟩
                      · rw [if_neg c32] at H
                        exact absurd H (by simp)
                    · rw [if_neg c31] at H
                      exact absurd H (by simp)
                  · rw [if_neg c30] at H
                    have c30b0 : decide (x6_3 < (l0_1.length : Int)) = false := decide_eq_false c30
                    clear c30
                    obtain rfl := Option.some.inj H
                    have hnb40 := NB182_183.out
                    have hnc40 := NB183_182.out
                    have hcz41_0 : wr.cell? ⟨gb182, 0, none⟩ = some (.slice A0_0 l0_0.length c0_0) := (blk_cell BK182.out 0).trans rfl
                    have hcz41_1 : wr.cell? ⟨gb182, 1, none⟩ = some (.slice A0_1 l0_1.length c0_1) := (blk_cell BK182.out 1).trans rfl
                    have hcz41_2 : wr.cell? ⟨gb182, 2, none⟩ = some (.int .i64 a0_2) := (blk_cell BK182.out 2).trans rfl
                    have hfz41_0 := blk_frozen BK182.out 0
                    have hfz41_1 := blk_frozen BK182.out 1
                    have hfz41_2 := blk_frozen BK182.out 2
                    go_wp2
                    repeat (go_quiet (fail); try go_wp2)
                    go_ret
                    exact ⟨by first | rfl | (simp [errW_none, errW_some] <;> rfl) | (simp [*, errW_none, errW_some] <;> rfl), by repeat (first | (with_reducible first | exact HB.out | apply below_alloc | apply pw_below_drewN | apply below_drew1 | refine below_set ?_ GE182.out | refine below_set ?_ GE183.out) | exact HB.out)⟩
end Go.Proofs.Ytgcbipflmhbpcaa.PV
namespace Go.Proofs.Ytgcbipflmhbpcaa.PV
open Go.RowKit Go.Proofs.YtgcbipflmhbpcaaW.PrintWords Go.Proofs.YtgcbipflmhbpcaaW.PrintLast Go.Proofs.YtgcbipflmhbpcaaW.PrintMore
attribute [local go_sem] max2_int min2_int max_two min_two max_three min_three max_four min_four   -- for this text's walks alone
set_option linter.unusedVariables false
set_option linter.unusedSimpArgs false
def word_Digit.f (a0 : Int) : Option (Bool) := if a0 ≥ 48 then (some (decide (a0 ≤ 57))) else (some false)
set_option maxHeartbeats 8000000 in
set_option maxRecDepth 100000 in
theorem word_Digit.calls (a0 : Int) (r : Bool) (w : World) (h : word_Digit.f a0 = some r) :
    Calls Try.prog 30 #[.int .u8 a0] w fun e w' => e = .returned (.bool r) ∧ Drawn0 w w' := by
  have H : (if a0 ≥ 48 then (some (decide (a0 ≤ 57))) else (some false)) = some r := h
  clear h
  by_cases c2 : a0 ≥ 48
  · rw [if_pos c2] at H
    have c2b0 : decide (48 ≤ a0) = true := decide_eq_true c2
    clear c2
    obtain rfl := Option.some.inj H
    go_enter Try.func30, Try.ntmps30
    go_wp2
    go_ret
    exact ⟨by first | rfl | (simp; done) | (simp [*]; done), by repeat (first | exact Drawn0.refl _ | apply Drawn0.step)⟩
  · rw [if_neg c2] at H
    have c2b0 : decide (48 ≤ a0) = false := decide_eq_false c2
    clear c2
    obtain rfl := Option.some.inj H
    go_enter Try.func30, Try.ntmps30
    go_wp2
    go_ret
    exact ⟨by first | rfl | (simp; done) | (simp [*]; done), by repeat (first | exact Drawn0.refl _ | apply Drawn0.step)⟩
end Go.Proofs.Ytgcbipflmhbpcaa.PV
namespace Go.Proofs.Ytgcbipflmhbpcaa.PV
open Go.RowKit Go.Proofs.YtgcbipflmhbpcaaW.PrintWords Go.Proofs.YtgcbipflmhbpcaaW.PrintLast Go.Proofs.YtgcbipflmhbpcaaW.PrintMore
attribute [local go_sem] max2_int min2_int max_two min_two max_three min_three max_four min_four   -- for this text's walks alone
set_option linter.unusedVariables false
set_option linter.unusedSimpArgs false
def word_Letter.f (a0 : Int) : Option (Bool) := if a0 = 95 then (some true) else (if a0 ≥ 97 then (if a0 ≤ 122 then (some true) else (if a0 ≥ 65 then (some (decide (a0 ≤ 90))) else (some false))) else (if a0 ≥ 65 then (some (decide (a0 ≤ 90))) else (some false)))
set_option maxHeartbeats 8000000 in
set_option maxRecDepth 100000 in
theorem word_Letter.calls (a0 : Int) (r : Bool) (w : World) (h : word_Letter.f a0 = some r) :
    Calls Try.prog 65 #[.int .u8 a0] w fun e w' => e = .returned (.bool r) ∧ Drawn0 w w' := by
  have H : (if a0 = 95 then (some true) else (if a0 ≥ 97 then (if a0 ≤ 122 then (some true) else (if a0 ≥ 65 then (some (decide (a0 ≤ 90))) else (some false))) else (if a0 ≥ 65 then (some (decide (a0 ≤ 90))) else (some false)))) = some r := h
  clear h
  by_cases c2 : a0 = 95
  · rw [if_pos c2] at H
    have c2b0 : (a0 == 95) = true := beq_iff_eq.mpr c2
    have c2b1 : (a0 != 95) = false := bne_eq_false_iff_eq.mpr c2
    clear c2
    obtain rfl := Option.some.inj H
    go_enter Try.func65, Try.ntmps65
    go_wp2
    go_ret
    exact ⟨by first | rfl | (simp; done) | (simp [*]; done), by repeat (first | exact Drawn0.refl _ | apply Drawn0.step)⟩
  · rw [if_neg c2] at H
    have c2b0 : (a0 == 95) = false := beq_eq_false_iff_ne.mpr c2
    have c2b1 : (a0 != 95) = true := bne_iff_ne.mpr c2
    by_cases c3 : a0 ≥ 97
    · rw [if_pos c3] at H
      have c3b0 : decide (97 ≤ a0) = true := decide_eq_true c3
      clear c3
      by_cases c4 : a0 ≤ 122
      · rw [if_pos c4] at H
        have c4b0 : decide (a0 ≤ 122) = true := decide_eq_true c4
        clear c4
        obtain rfl := Option.some.inj H
        go_enter Try.func65, Try.ntmps65
        go_wp2
        go_ret
        exact ⟨by first | rfl | (simp; done) | (simp [*]; done), by repeat (first | exact Drawn0.refl _ | apply Drawn0.step)⟩
      · rw [if_neg c4] at H
        have c4b0 : decide (a0 ≤ 122) = false := decide_eq_false c4
        clear c4
        by_cases c5 : a0 ≥ 65
        · rw [if_pos c5] at H
          have c5b0 : decide (65 ≤ a0) = true := decide_eq_true c5
          clear c5
          obtain rfl := Option.some.inj H
          go_enter Try.func65, Try.ntmps65
          go_wp2
          go_ret
          exact ⟨by first | rfl | (simp; done) | (simp [*]; done), by repeat (first | exact Drawn0.refl _ | apply Drawn0.step)⟩
        · rw [if_neg c5] at H
          have c5b0 : decide (65 ≤ a0) = false := decide_eq_false c5
          clear c5
          obtain rfl := Option.some.inj H
          go_enter Try.func65, Try.ntmps65
          go_wp2
          go_ret
          exact ⟨by first | rfl | (simp; done) | (simp [*]; done), by repeat (first | exact Drawn0.refl _ | apply Drawn0.step)⟩
    · rw [if_neg c3] at H
      have c3b0 : decide (97 ≤ a0) = false := decide_eq_false c3
      clear c3
      by_cases c6 : a0 ≥ 65
      · rw [if_pos c6] at H
        have c6b0 : decide (65 ≤ a0) = true := decide_eq_true c6
        clear c6
        obtain rfl := Option.some.inj H
        go_enter Try.func65, Try.ntmps65
        go_wp2
        go_ret
        exact ⟨by first | rfl | (simp; done) | (simp [*]; done), by repeat (first | exact Drawn0.refl _ | apply Drawn0.step)⟩
      · rw [if_neg c6] at H
        have c6b0 : decide (65 ≤ a0) = false := decide_eq_false c6
        clear c6
        obtain rfl := Option.some.inj H
        go_enter Try.func65, Try.ntmps65
        go_wp2
        go_ret
        exact ⟨by first | rfl | (simp; done) | (simp [*]; done), by repeat (first | exact Drawn0.refl _ | apply Drawn0.step)⟩
end Go.Proofs.Ytgcbipflmhbpcaa.PV
namespace Go.Proofs.Ytgcbipflmhbpcaa.PV
open Go.RowKit Go.Proofs.YtgcbipflmhbpcaaW.PrintWords Go.Proofs.YtgcbipflmhbpcaaW.PrintLast Go.Proofs.YtgcbipflmhbpcaaW.PrintMore
attribute [local go_sem] max2_int min2_int max_two min_two max_three min_three max_four min_four   -- for this text's walks alone
set_option linter.unusedVariables false
set_option linter.unusedSimpArgs false
mutual
def word_named.j0 : Nat → ByteArray → Bool → Option (Int)
  | 0, _, _ => none
  | k + 1, x0, x11 => if x11 = true then (some 0) else (word_named.l0 k x0 1)
def word_named.l0 : Nat → ByteArray → Int → Option (Int)
  | 0, _, _ => none
  | k + 1, x0, x3 => if x3 < (x0.size : Int) then (if 0 ≤ x3 then ((word_Letter.f (bt x0 x3)).bind fun t189 => (if t189 = true then (word_named.l0 k x0 (wrap64 (x3 + 1))) else ((word_Digit.f (bt x0 x3)).bind fun t190 => (if t190 = true then (word_named.l0 k x0 (wrap64 (x3 + 1))) else (some x3))))) else (none)) else (some x3)
end
def word_named.f (k : Nat) (a0 : ByteArray) : Option (Int) := if a0.toList = ([] : List UInt8) then (word_named.j0 k a0 true) else (if 0 < (a0.size : Int) then ((word_Letter.f (bt a0 0)).bind fun t188 => (word_named.j0 k a0 (!t188))) else (none))
set_option maxHeartbeats 8000000 in
set_option maxRecDepth 100000 in
theorem word_named.calls (k : Nat) (a0 : ByteArray) (r : Int) (w : World) (h : word_named.f k a0 = some r) :
    Calls Try.prog 55 #[.string a0] w fun e w' => e = .returned (.int .i64 r) ∧ Drawn0 w w' := by
  have H : (if a0.toList = ([] : List UInt8) then (word_named.j0 k a0 true) else (if 0 < (a0.size : Int) then ((word_Letter.f (bt a0 0)).bind fun t188 => (word_named.j0 k a0 (!t188))) else (none))) = some r := h
  clear h
  have HC2 := Aside0.mk H
  clear H
  go_enter Try.func55, Try.ntmps55
  go_upto_region 1 with (fail)
  go_cut [11] (fun v11 wc => ∃ (kq : Nat) (x11_1 : Bool), v11 = .bool x11_1 ∧ Aside0 (word_named.j0 kq a0 x11_1 = some r) ∧ Aside0 (kq ≤ k) ∧ Drawn0 w wc)
  case first =>
    have H := HC2.out
    clear HC2
    by_cases c3 : a0.toList = ([] : List UInt8)
    · rw [if_pos c3] at H
      have c3b0 : (a0.toList == ([] : List UInt8)) = true := beq_iff_eq.mpr c3
      have c3b1 : (a0.toList != ([] : List UInt8)) = false := bne_eq_false_iff_eq.mpr c3
      clear c3
      (first | rw [c3b0] | (simp only [i64_w, i32_w]; rw [c3b0]) | skip)
      have H' := Aside0.mk H
      clear H
      go_wp2
      go_meet
      case rel => exact ⟨_, (true), (by first | rfl | (simp; done) | (simp [*]; done)), H', ⟨by first | omega | exact Nat.le_refl _⟩, by repeat (first | exact Drawn0.refl _ | apply Drawn0.step)⟩
    · rw [if_neg c3] at H
      have c3b0 : (a0.toList == ([] : List UInt8)) = false := beq_eq_false_iff_ne.mpr c3
      have c3b1 : (a0.toList != ([] : List UInt8)) = true := bne_iff_ne.mpr c3
      (first | rw [c3b0] | (simp only [i64_w, i32_w]; rw [c3b0]) | skip)
      by_cases c4 : 0 < (a0.size : Int)
      · rw [if_pos c4] at H
        have c4b0 : decide (0 < (a0.size : Int)) = true := decide_eq_true c4
        have c4b1 : decide (0 < a0.size) = true := decide_eq_true (by omega)
        clear c4
        replace H := Option.bind_eq_some_iff.mp H
        obtain ⟨t188, A60, H⟩ := H
        replace H : (word_named.j0 k a0 (!t188)) = some r := H
        have A6 := Aside0.mk A60
        clear A60
        have H' := Aside0.mk H
        clear H
        have p5 : 0 ≤ (0 : Int) := (by omega)
        have q5 : 0 < a0.size := (by have : (0 : Int) < (a0.size : Int) := of_decide_eq_true (by first | (with_reducible assumption) | assumption); omega)
        have hx5 : ∀ h : 0 < a0.size, ((a0[0]'h).toNat : Int) = bt a0 0 := bt_at a0 0
        clear p5
        have qi5 : (0 < (a0.size : Int)) = True := eq_true (of_decide_eq_true (by first | (with_reducible assumption) | assumption))
        replace q5 := eq_true q5
        go_wp2_with (first | (go_at_call 65; (with_reducible refine (word_Letter.calls (bt a0 0) t188 _ A6.out).mono ?_); rintro e w' ⟨rfl, ⟨nd, rfl⟩⟩))
        go_meet
        case rel => exact ⟨_, (!t188), (by first | rfl | (simp; done) | (simp [*]; done)), H', ⟨by first | omega | exact Nat.le_refl _⟩, by repeat (first | exact Drawn0.refl _ | apply Drawn0.step)⟩
      · rw [if_neg c4] at H
        exact absurd H (by simp)
  case rest =>
    clear HC2
    try clear p2
    try clear c3
    try clear c3b0
    try clear c3b1
    try clear c4
    try clear c4b0
    try clear c4b1
    try clear c5
    try clear p5
    try clear q5
    try clear hx5
    try clear qi5
    try clear p5
    try clear q5
    obtain ⟨kq, x11_1, rfl, HA, HJ1, ⟨mc1, rfl⟩⟩ := hcut
    cases kq with
    | zero => exact absurd HA.out (by simp [word_named.j0])
    | succ kj1 =>
      have H := HA.out
      clear HA
      simp only [word_named.j0] at H
      by_cases c7 : x11_1 = true
      · subst c7
        have H1 : (some 0) = some r := by rw [if_pos rfl] at H; exact H
        clear H
        have H := H1
        clear H1
        obtain rfl := Option.some.inj H
        go_wp2
        go_ret
        exact ⟨by first | rfl | (simp; done) | (simp [*]; done), by repeat (first | exact Drawn0.refl _ | apply Drawn0.step)⟩
      · replace c7 := Bool.eq_false_iff.mpr c7
        subst c7
        have H1 : (word_named.l0 kj1 a0 1) = some r := by rw [if_neg (show ¬ (false = true) by decide)] at H; exact H
        clear H
        have H := H1
        clear H1
        have H' := Aside0.mk H
        clear H
        go_wp2
        go_loopg [3] kj1 (fun kq v3 w' => ∃ (x3_2 : Int), v3 = .int .i64 x3_2 ∧ Aside0 (word_named.l0 kq a0 x3_2 = some r) ∧ Aside0 (kq ≤ kj1) ∧ Drawn0 w w')
        case atStart => exact ⟨(1), (by first | rfl | (simp; done) | (simp [*]; done)), H', ⟨Nat.le_refl _⟩, by repeat (first | exact Drawn0.refl _ | apply Drawn0.step)⟩
        case round =>
          clear H'
          try clear c1
          try clear p2
          try clear c3
          try clear c3b0
          try clear c3b1
          try clear c4
          try clear c4b0
          try clear c4b1
          try clear c5
          try clear p5
          try clear q5
          try clear hx5
          try clear qi5
          try clear c7
          try clear p2
          try clear p5
          try clear q5
          obtain ⟨x3_2, rfl, HA, HK2, ⟨m2, rfl⟩⟩ := hrel
          cases gk with
          | zero => exact absurd HA.out (by simp [word_named.l0])
          | succ k2 =>
            have H := HA.out
            clear HA
            simp only [word_named.l0] at H
            by_cases c8 : x3_2 < (a0.size : Int)
            · rw [if_pos c8] at H
              have c8b0 : decide (x3_2 < (a0.size : Int)) = true := decide_eq_true c8
              clear c8
              by_cases c9 : 0 ≤ x3_2
              · rw [if_pos c9] at H
                have c9b0 : decide (0 ≤ x3_2) = true := decide_eq_true c9
                clear c9
                replace H := Option.bind_eq_some_iff.mp H
                obtain ⟨t189, A110, H⟩ := H
                replace H : (if t189 = true then (word_named.l0 k2 a0 (wrap64 (x3_2 + 1))) else ((word_Digit.f (bt a0 x3_2)).bind fun t190 => (if t190 = true then (word_named.l0 k2 a0 (wrap64 (x3_2 + 1))) else (some x3_2)))) = some r := H
                have A11 := Aside0.mk A110
                clear A110
                by_cases c12 : t189 = true
                · subst c12
                  have H1 : (word_named.l0 k2 a0 (wrap64 (x3_2 + 1))) = some r := by rw [if_pos rfl] at H; exact H
                  clear H
                  have H := H1
                  clear H1
                  have H' := Aside0.mk H
                  clear H
                  have p10 : 0 ≤ (x3_2 : Int) := of_decide_eq_true (by first | (with_reducible assumption) | assumption)
                  have q10 : x3_2 < (a0.size : Int) := of_decide_eq_true (by first | (with_reducible assumption) | assumption)
                  have hx10 := bt_at a0 x3_2
                  replace p10 := eq_true p10
                  replace q10 := eq_true q10
                  go_wp2_with (first | (go_at_call 65; (with_reducible refine (word_Letter.calls (bt a0 x3_2) true _ A11.out).mono ?_); rintro e w' ⟨rfl, ⟨nd, rfl⟩⟩))
                  go_roundg k2
                  case measure => have := HJ1.out; have := HK2.out; omega
                  case rel => exact ⟨(wrap64 (x3_2 + 1)), (by first | rfl | (simp; done) | (simp [*]; done)), H', ⟨by have := HJ1.out; have := HK2.out; omega⟩, by repeat (first | exact Drawn0.refl _ | apply Drawn0.step)⟩
                · replace c12 := Bool.eq_false_iff.mpr c12
                  subst c12
                  have H1 : ((word_Digit.f (bt a0 x3_2)).bind fun t190 => (if t190 = true then (word_named.l0 k2 a0 (wrap64 (x3_2 + 1))) else (some x3_2))) = some r := by rw [if_neg (show ¬ (false = true) by decide)] at H; exact H
                  clear H
                  have H := H1
                  clear H1
                  replace H := Option.bind_eq_some_iff.mp H
                  obtain ⟨t190, A140, H⟩ := H
                  replace H : (if t190 = true then (word_named.l0 k2 a0 (wrap64 (x3_2 + 1))) else (some x3_2)) = some r := H
                  have A14 := Aside0.mk A140
                  clear A140
                  by_cases c15 : t190 = true
                  · subst c15
                    have H1 : (word_named.l0 k2 a0 (wrap64 (x3_2 + 1))) = some r := by rw [if_pos rfl] at H; exact H
                    clear H
                    have H := H1
                    clear H1
                    have H' := Aside0.mk H
                    clear H
                    have p10 : 0 ≤ (x3_2 : Int) := of_decide_eq_true (by first | (with_reducible assumption) | assumption)
                    have q10 : x3_2 < (a0.size : Int) := of_decide_eq_true (by first | (with_reducible assumption) | assumption)
                    have hx10 := bt_at a0 x3_2
                    replace p10 := eq_true p10
                    replace q10 := eq_true q10
                    go_wp2_with (first | (go_at_call 65; (with_reducible refine (word_Letter.calls (bt a0 x3_2) false _ A11.out).mono ?_); rintro e w' ⟨rfl, ⟨nd, rfl⟩⟩; have p13 : 0 ≤ (x3_2 : Int) := of_decide_eq_true (by first | (with_reducible assumption) | assumption); have q13 : x3_2 < (a0.size : Int) := of_decide_eq_true (by first | (with_reducible assumption) | assumption); have hx13 := bt_at a0 x3_2; replace p13 := eq_true p13; replace q13 := eq_true q13) | (go_at_call 30; (with_reducible refine (word_Digit.calls (bt a0 x3_2) true _ A14.out).mono ?_); rintro e w' ⟨rfl, ⟨nd, rfl⟩⟩))
                    go_roundg k2
                    case measure => have := HJ1.out; have := HK2.out; omega
                    case rel => exact ⟨(wrap64 (x3_2 + 1)), (by first | rfl | (simp; done) | (simp [*]; done)), H', ⟨by have := HJ1.out; have := HK2.out; omega⟩, by repeat (first | exact Drawn0.refl _ | apply Drawn0.step)⟩
                  · replace c15 := Bool.eq_false_iff.mpr c15
                    subst c15
                    have H1 : (some x3_2) = some r := by rw [if_neg (show ¬ (false = true) by decide)] at H; exact H
                    clear H
                    have H := H1
                    clear H1
                    obtain rfl := Option.some.inj H
                    have p10 : 0 ≤ (x3_2 : Int) := of_decide_eq_true (by first | (with_reducible assumption) | assumption)
                    have q10 : x3_2 < (a0.size : Int) := of_decide_eq_true (by first | (with_reducible assumption) | assumption)
                    have hx10 := bt_at a0 x3_2
                    replace p10 := eq_true p10
                    replace q10 := eq_true q10
                    go_wp2_with (first | (go_at_call 65; (with_reducible refine (word_Letter.calls (bt a0 x3_2) false _ A11.out).mono ?_); rintro e w' ⟨rfl, ⟨nd, rfl⟩⟩; have p13 : 0 ≤ (x3_2 : Int) := of_decide_eq_true (by first | (with_reducible assumption) | assumption); have q13 : x3_2 < (a0.size : Int) := of_decide_eq_true (by first | (with_reducible assumption) | assumption); have hx13 := bt_at a0 x3_2; replace p13 := eq_true p13; replace q13 := eq_true q13) | (go_at_call 30; (with_reducible refine (word_Digit.calls (bt a0 x3_2) false _ A14.out).mono ?_); rintro e w' ⟨rfl, ⟨nd, rfl⟩⟩))
                    go_ret
                    exact ⟨by first | rfl | (simp; done) | (simp [*]; done), by repeat (first | exact Drawn0.refl _ | apply Drawn0.step)⟩
              · rw [if_neg c9] at H
                exact absurd H (by simp)
            · rw [if_neg c8] at H
              have c8b0 : decide (x3_2 < (a0.size : Int)) = false := decide_eq_false c8
              clear c8
              obtain rfl := Option.some.inj H
              go_wp2
              go_ret
              exact ⟨by first | rfl | (simp; done) | (simp [*]; done), by repeat (first | exact Drawn0.refl _ | apply Drawn0.step)⟩
end Go.Proofs.Ytgcbipflmhbpcaa.PV
namespace Go.Proofs.Ytgcbipflmhbpcaa.PV
open Go.RowKit Go.Proofs.YtgcbipflmhbpcaaW.PrintWords Go.Proofs.YtgcbipflmhbpcaaW.PrintLast Go.Proofs.YtgcbipflmhbpcaaW.PrintMore
attribute [local go_sem] max2_int min2_int max_two min_two max_three min_three max_four min_four   -- for this text's walks alone
set_option linter.unusedVariables false
set_option linter.unusedSimpArgs false
def word_Name.f (k : Nat) (a0 : ByteArray) : Option (Bool) := if a0.toList = ([] : List UInt8) then (some false) else (if (a0.size : Int) ≤ 64 then ((word_named.f k a0).bind fun t191 => (some (t191 == (a0.size : Int)))) else (some false))
set_option maxHeartbeats 8000000 in
set_option maxRecDepth 100000 in
theorem word_Name.calls (k : Nat) (a0 : ByteArray) (r : Bool) (w : World) (h : word_Name.f k a0 = some r) :
    Calls Try.prog 38 #[.string a0] w fun e w' => e = .returned (.bool r) ∧ Drawn0 w w' := by
  have H : (if a0.toList = ([] : List UInt8) then (some false) else (if (a0.size : Int) ≤ 64 then ((word_named.f k a0).bind fun t191 => (some (t191 == (a0.size : Int)))) else (some false))) = some r := h
  clear h
  by_cases c2 : a0.toList = ([] : List UInt8)
  · rw [if_pos c2] at H
    have c2b0 : (a0.toList == ([] : List UInt8)) = true := beq_iff_eq.mpr c2
    have c2b1 : (a0.toList != ([] : List UInt8)) = false := bne_eq_false_iff_eq.mpr c2
    clear c2
    obtain rfl := Option.some.inj H
    go_enter Try.func38, Try.ntmps38
    go_wp2
    go_ret
    exact ⟨by first | rfl | (simp; done) | (simp [*]; done), by repeat (first | exact Drawn0.refl _ | apply Drawn0.step)⟩
  · rw [if_neg c2] at H
    have c2b0 : (a0.toList == ([] : List UInt8)) = false := beq_eq_false_iff_ne.mpr c2
    have c2b1 : (a0.toList != ([] : List UInt8)) = true := bne_iff_ne.mpr c2
    by_cases c3 : (a0.size : Int) ≤ 64
    · rw [if_pos c3] at H
      have c3b0 : decide ((a0.size : Int) ≤ 64) = true := decide_eq_true c3
      have c3b1 : decide (a0.size ≤ 64) = true := decide_eq_true (by omega)
      clear c3
      replace H := Option.bind_eq_some_iff.mp H
      obtain ⟨t191, A40, H⟩ := H
      replace H : (some (t191 == (a0.size : Int))) = some r := H
      have A4 := Aside0.mk A40
      clear A40
      obtain rfl := Option.some.inj H
      go_enter Try.func38, Try.ntmps38
      go_wp2_with (first | (go_at_call 55; (with_reducible refine (word_named.calls k a0 t191 _ A4.out).mono ?_); rintro e w' ⟨rfl, ⟨nd, rfl⟩⟩))
      go_ret
      exact ⟨by first | rfl | (simp; done) | (simp [*]; done), by repeat (first | exact Drawn0.refl _ | apply Drawn0.step)⟩
    · rw [if_neg c3] at H
      have c3b0 : decide ((a0.size : Int) ≤ 64) = false := decide_eq_false c3
      have c3b1 : decide (a0.size ≤ 64) = false := decide_eq_false (by omega)
      clear c3
      obtain rfl := Option.some.inj H
      go_enter Try.func38, Try.ntmps38
      go_wp2
      go_ret
      exact ⟨by first | rfl | (simp; done) | (simp [*]; done), by repeat (first | exact Drawn0.refl _ | apply Drawn0.step)⟩
end Go.Proofs.Ytgcbipflmhbpcaa.PV
set_option linter.unusedVariables false
set_option linter.unusedSimpArgs false
namespace Go.Proofs.Ytgcbipflmhbpcaa.PV
open Go.RowKit Go.Proofs.Ytgcbipflmhbpcaa Go.Proofs.YtgcbipflmhbpcaaW.PrintWords
def ltr (c : Int) : Bool := (word_Letter.f c).getD false
def dig (c : Int) : Bool := (word_Digit.f c).getD false
theorem wl_ (c : Int) : word_Letter.f c = some (ltr c) := by
  have : ∃ b, word_Letter.f c = some b := by unfold word_Letter.f; repeat' (first | exact ⟨_, rfl⟩ | split)
  obtain ⟨b, h⟩ := this
  unfold ltr; rw [h]; rfl
theorem wd_ (c : Int) : word_Digit.f c = some (dig c) := by
  have : ∃ b, word_Digit.f c = some b := by unfold word_Digit.f; split <;> exact ⟨_, rfl⟩
  obtain ⟨b, h⟩ := this
  unfold dig; rw [h]; rfl
theorem rl_ (c : Int) : rehearsalref07_Letter.f c = some (ltr c) := wl_ c
theorem rd_ (c : Int) : rehearsalref07_Digit.f c = some (dig c) := wd_ c
theorem size_nil {s : ByteArray} : s.toList = ([] : List UInt8) ↔ s.size = 0 := by
  rw [toList_data, ← List.length_eq_zero_iff, Array.length_toList]; rfl
theorem named_l0 (s : ByteArray) (hs : s.size ≤ 64) : ∀ d i : Nat, i + d = s.size → 1 ≤ i → ∃ n : Int, Evt (fun k => word_named.l0 k s (i : Int)) n ∧ Evt (fun k => rehearsalref07_NameAt.l0 k s 0 (i : Int)) n := by
  intro d
  induction d with
  | zero =>
    intro i h h1
    refine ⟨i, Evt.const 0 (fun k _ => ?_), Evt.const 0 (fun k _ => ?_)⟩
    · simp only [word_named.l0]; rw [if_neg (by omega)]
    · simp only [rehearsalref07_NameAt.l0]
      rw [show wrap64 ((0 : Int) + (i : Int)) = (i : Int) from by unfold wrap64; omega, if_neg (by omega)]
  | succ d ih =>
    intro i h h1
    have hw0 : wrap64 ((0 : Int) + (i : Int)) = (i : Int) := by unfold wrap64; omega
    obtain ⟨n, e1, e2⟩ := ih (i + 1) (by omega) (by omega)
    by_cases hc : ltr (bt s (i : Int)) = true ∨ dig (bt s (i : Int)) = true
    · refine ⟨n, Evt.succ 0 (fun k _ => ?_) e1, Evt.succ 0 (fun k _ => ?_) e2⟩
      · simp only [word_named.l0]
        rw [if_pos (by omega), if_pos (by omega), wl_, Option.bind_some, w64 _ (by omega)]
        rcases hc with hc | hc
        · rw [if_pos hc]
        · rw [wd_, Option.bind_some, if_pos hc]; split <;> rfl
      · simp only [rehearsalref07_NameAt.l0]
        rw [hw0, if_pos (by omega), if_pos (by omega), rl_, Option.bind_some, w64 _ (by omega)]
        rcases hc with hc | hc
        · rw [if_pos hc]
        · split
          · rfl
          · rw [if_pos (by omega), rd_, Option.bind_some, if_pos hc]
    · have hn : ¬ ltr (bt s (i : Int)) = true := fun h => hc (.inl h)
      have hd : ¬ dig (bt s (i : Int)) = true := fun h => hc (.inr h)
      refine ⟨i, Evt.const 0 (fun k _ => ?_), Evt.const 0 (fun k _ => ?_)⟩
      · simp only [word_named.l0]
        rw [if_pos (by omega), if_pos (by omega), wl_, Option.bind_some, if_neg hn, wd_, Option.bind_some, if_neg hd]
      · simp only [rehearsalref07_NameAt.l0]
        rw [hw0, if_pos (by omega), if_pos (by omega), rl_, Option.bind_some, if_neg hn, if_pos (by omega), rd_, Option.bind_some, if_neg hd]
theorem names (s : ByteArray) : ∃ b : Bool, Evt (fun k => word_Name.f k s) b ∧ Evt (fun k => rehearsalref07_Name.f k s) b ∧ (b = true → 0 < s.size ∧ s.size ≤ 64 ∧ ltr (bt s 0) = true) := by
  by_cases h0 : s.size = 0
  · refine ⟨false, ⟨0, fun k _ => ?_⟩, ⟨0, fun k _ => ?_⟩, fun h => by cases h⟩
    · show word_Name.f k s = _
      unfold word_Name.f; rw [if_pos (size_nil.2 h0)]
    · show rehearsalref07_Name.f k s = _
      unfold rehearsalref07_Name.f; rw [if_neg (by omega)]
  · have hnn : ¬ s.toList = ([] : List UInt8) := fun e => h0 (size_nil.1 e)
    by_cases h64 : s.size ≤ 64
    · by_cases hc : ltr (bt s 0) = true
      · obtain ⟨n, e1, e2⟩ := named_l0 s h64 (s.size - 1) 1 (by omega) (Nat.le_refl _)
        refine ⟨n == (s.size : Int), ?_, ?_, fun _ => ⟨by omega, h64, hc⟩⟩
        · have e3 : Evt (fun k => word_named.f k s) n := by
            refine Evt.succ (h := fun k => word_named.l0 k s ((1 : Nat) : Int)) 0 (fun k _ => ?_) e1
            show word_named.f (k + 1) s = _
            unfold word_named.f
            rw [if_neg hnn, if_pos (by omega), wl_, Option.bind_some, hc]
            simp only [word_named.j0, Bool.not_true, Bool.false_eq_true, if_false]; rfl
          obtain ⟨K, hK⟩ := e3
          refine ⟨K, fun k hk => ?_⟩
          show word_Name.f k s = _
          unfold word_Name.f
          rw [if_neg hnn, if_pos (by omega), show word_named.f k s = some n from hK k hk, Option.bind_some]
        · have e3 : Evt (fun k => rehearsalref07_NameAt.f k s 0) n := by
            refine Evt.succ (h := fun k => rehearsalref07_NameAt.l0 k s 0 ((1 : Nat) : Int)) 0 (fun k _ => ?_) e2
            show rehearsalref07_NameAt.f (k + 1) s 0 = _
            unfold rehearsalref07_NameAt.f
            simp only [rehearsalref07_NameAt.l0]
            rw [show wrap64 ((0 : Int) + 0) = 0 from by unfold wrap64; omega, if_pos (by omega), if_pos (by omega), rl_, Option.bind_some, if_pos hc, show wrap64 ((0 : Int) + 1) = ((1 : Nat) : Int) from by unfold wrap64; omega]
          obtain ⟨K, hK⟩ := e3
          refine ⟨K, fun k hk => ?_⟩
          show rehearsalref07_Name.f k s = _
          unfold rehearsalref07_Name.f
          rw [if_pos (by omega), if_pos (by omega), show rehearsalref07_NameAt.f k s 0 = some n from hK k hk, Option.bind_some]
      · have hcf : ltr (bt s 0) = false := by simpa using hc
        have hz : ((0 : Int) == (s.size : Int)) = false := beq_eq_false_iff_ne.2 (by omega)
        refine ⟨false, ⟨1, fun k hk => ?_⟩, ⟨1, fun k hk => ?_⟩, fun h => by cases h⟩
        · obtain ⟨k, rfl⟩ : ∃ q, k = q + 1 := ⟨k - 1, by omega⟩
          show word_Name.f (k + 1) s = _
          unfold word_Name.f word_named.f
          rw [if_neg hnn, if_pos (by omega), if_neg hnn, if_pos (by omega), wl_, Option.bind_some, hcf]
          simp only [word_named.j0, Bool.not_false, if_true, Option.bind_some, hz]
        · obtain ⟨k, rfl⟩ : ∃ q, k = q + 1 := ⟨k - 1, by omega⟩
          show rehearsalref07_Name.f (k + 1) s = _
          unfold rehearsalref07_Name.f rehearsalref07_NameAt.f
          simp only [rehearsalref07_NameAt.l0]
          rw [if_pos (by omega), if_pos (by omega), show wrap64 ((0 : Int) + 0) = 0 from by unfold wrap64; omega, if_pos (by omega), if_pos (by omega), rl_, Option.bind_some, if_neg hc, if_neg (by omega), Option.bind_some, hz]
    · refine ⟨false, ⟨0, fun k _ => ?_⟩, ⟨0, fun k _ => ?_⟩, fun h => by cases h⟩
      · show word_Name.f k s = _
        unfold word_Name.f; rw [if_neg hnn, if_neg (by omega)]
      · show rehearsalref07_Name.f k s = _
        unfold rehearsalref07_Name.f; rw [if_pos (by omega), if_neg (by omega)]
/-- may this be a name? -/
noncomputable def nameB (s : ByteArray) : Bool := (names s).choose
theorem name_w (s : ByteArray) : Evt (fun k => word_Name.f k s) (nameB s) := (names s).choose_spec.1
theorem name_r (s : ByteArray) : Evt (fun k => rehearsalref07_Name.f k s) (nameB s) := (names s).choose_spec.2.1
theorem name_facts {s : ByteArray} (h : nameB s = true) : 0 < s.size ∧ s.size ≤ 64 ∧ ltr (bt s 0) = true := (names s).choose_spec.2.2 h
/-- what setting answers -/
noncomputable def setE (V : List S26) (x y : ByteArray) : Int := if nameB x = true then (if 4096 < y.size then 2 else if hasV V x = false ∧ 64 ≤ V.length then 2 else 0) else 70
noncomputable def setT (V : List S26) (x y : ByteArray) : List S26 := if setE V x y = 0 then setV V x y else V
theorem rplace_ev (V : List S26) (A : List ByteArray) (st : Int) (x : ByteArray) (hl : V.length ≤ 1000000) : ∀ (d i : Nat), i + d = V.length → (∀ q (h : q < V.length), q < i → eqV x V[q] = false) →
    ∃ p : Int, Evt (fun k => rehearsalref11_Table_Place.l0 k x (i : Int) V A st) p ∧ ((p < 0 ∧ hasV V x = false ∧ getV V x = (⟨#[]⟩, false)) ∨ ∃ r : Nat, ∃ h : r < V.length, p = r ∧ hasV V x = true ∧ getV V x = (V[r].f1, true)) := by
  intro d
  induction d with
  | zero =>
    intro i h hp
    have hno : ∀ v ∈ V, eqV x v = false := fun v hv => by
      obtain ⟨q, hq, rfl⟩ := List.getElem_of_mem hv
      exact hp q hq (by omega)
    refine ⟨-1, Evt.const 0 (fun k _ => ?_), .inl ⟨by omega, ?_, ?_⟩⟩
    · simp only [rehearsalref11_Table_Place.l0]; rw [if_neg (by omega)]
    · exact Bool.eq_false_iff.2 (fun e => by
        obtain ⟨v, hv, he⟩ := List.any_eq_true.1 e
        rw [hno v hv] at he; cases he)
    · have : V.find? (eqV x) = Option.none := by
        rw [List.find?_eq_none]
        intro v hv; rw [hno v hv]; simp
      unfold getV; rw [this]; rfl
  | succ d ih =>
    intro i h hp
    have hi : i < V.length := by omega
    by_cases he : V[i].f0.toList = x.toList
    · have hq : eqV x V[i] = true := decide_eq_true he
      refine ⟨i, Evt.const 0 (fun k _ => ?_), .inr ⟨i, hi, rfl, List.any_eq_true.2 ⟨_, List.getElem_mem hi, hq⟩, ?_⟩⟩
      · simp only [rehearsalref11_Table_Place.l0]; rw [if_pos (by omega), if_pos (by omega), rdV V i hi, if_pos he]
      · have : V.find? (eqV x) = some V[i] := by
          rw [List.find?_eq_some_iff_getElem]
          exact ⟨hq, i, hi, rfl, fun j hj => by rw [hp j (by omega) hj]; rfl⟩
        unfold getV; rw [this]; rfl
    · obtain ⟨p, h1, h2⟩ := ih (i + 1) (by omega) (fun q hq hqi => by
        by_cases e : q = i
        · subst e; exact decide_eq_false he
        · exact hp q hq (by omega))
      refine ⟨p, Evt.succ 0 (fun k _ => ?_) h1, h2⟩
      simp only [rehearsalref11_Table_Place.l0]; rw [if_pos (by omega), if_pos (by omega), rdV V i hi, if_neg he, w64 _ (by omega)]
theorem rset_l0 (V : List S26) (A : List ByteArray) (st : Int) (x y : ByteArray) (hl : V.length ≤ 1000000) : ∀ (d i : Nat) (acc : List S26) (dn : Bool), i + d = V.length → acc.length ≤ 2 * i + 1 →
    Evt (fun k => rehearsalref11_Table_Set.l0 k x y acc dn (i : Int) V A st) (acc ++ (if dn = true then (V.drop i).filter (fun v => !eqV x v) else setV (V.drop i) x y), A, st, 0) := by
  intro d
  induction d with
  | zero =>
    intro i acc dn h ha
    refine Evt.const 0 (fun k _ => ?_)
    simp only [rehearsalref11_Table_Set.l0]
    rw [if_neg (by omega), List.drop_of_length_le (by omega)]
    cases dn with
    | true => simp
    | false =>
      simp only [Bool.false_eq_true, if_false]
      rw [if_pos (by omega)]; rfl
  | succ d ih =>
    intro i acc dn h ha
    have hi : i < V.length := by omega
    have hdr := List.drop_eq_getElem_cons hi
    cases dn with
    | true =>
      simp only [if_true]
      by_cases he : V[i].f0.toList = x.toList
      · have z := ih (i + 1) acc true (by omega) (by omega)
        simp only [if_true] at z
        rw [hdr, List.filter_cons, show eqV x V[i] = true from decide_eq_true he]
        refine Evt.succ (h := fun k => rehearsalref11_Table_Set.j2 k x y acc true (i : Int) false V A st) 0 (fun k _ => ?_) (Evt.succ 0 (fun k _ => ?_) z)
        · simp only [rehearsalref11_Table_Set.l0]; rw [if_pos (by omega), if_pos (by trivial)]
        · simp only [rehearsalref11_Table_Set.j2, Bool.false_eq_true, if_false]
          rw [if_pos (by omega), if_pos (by omega), rdV V i hi, if_pos he, w64 _ (by omega)]
      · have z := ih (i + 1) (acc ++ [V[i]]) true (by omega) (by rw [List.length_append]; simp; omega)
        simp only [if_true] at z
        rw [hdr, List.filter_cons, show eqV x V[i] = false from decide_eq_false he]
        simp only [Bool.not_false, if_true]
        rw [List.append_assoc] at z
        refine Evt.succ (h := fun k => rehearsalref11_Table_Set.j2 k x y acc true (i : Int) false V A st) 0 (fun k _ => ?_) (Evt.succ 0 (fun k _ => ?_) z)
        · simp only [rehearsalref11_Table_Set.l0]; rw [if_pos (by omega), if_pos (by trivial)]
        · simp only [rehearsalref11_Table_Set.j2, Bool.false_eq_true, if_false]
          rw [if_pos (by omega), if_pos (by omega), rdV V i hi, if_neg he, if_pos (by omega), w64 _ (by omega)]
    | false =>
      simp only [Bool.false_eq_true, if_false]
      cases hls : Op.bytesLess V[i].f0.toList x.toList with
      | true =>
        have he : ¬ V[i].f0.toList = x.toList := fun e => by rw [e, less_irr] at hls; cases hls
        have z := ih (i + 1) (acc ++ [V[i]]) false (by omega) (by rw [List.length_append]; simp; omega)
        simp only [Bool.false_eq_true, if_false] at z
        have : setV (V.drop i) x y = V[i] :: setV (V.drop (i + 1)) x y := by
          rw [hdr]; unfold setV
          rw [List.takeWhile_cons, List.dropWhile_cons, show lsV x V[i] = true from hls]; rfl
        rw [this]
        rw [List.append_assoc] at z
        refine Evt.succ (h := fun k => rehearsalref11_Table_Set.j2 k x y acc false (i : Int) false V A st) 0 (fun k _ => ?_) (Evt.succ 0 (fun k _ => ?_) z)
        · simp only [rehearsalref11_Table_Set.l0]; rw [if_pos (by omega), if_neg (by simp), if_pos (by omega), rdV V i hi, hls]; rfl
        · simp only [rehearsalref11_Table_Set.j2, Bool.false_eq_true, if_false]
          rw [if_pos (by omega), if_pos (by omega), rdV V i hi, if_neg he, if_pos (by omega), w64 _ (by omega)]
      | false =>
        have hset : setV (V.drop i) x y = ⟨x, y⟩ :: (V.drop i).filter (fun v => !eqV x v) := by
          rw [hdr]; unfold setV
          rw [List.takeWhile_cons, List.dropWhile_cons, show lsV x V[i] = false from hls]; rfl
        rw [hset, hdr, List.filter_cons]
        by_cases he : V[i].f0.toList = x.toList
        · have z := ih (i + 1) (acc ++ [⟨x, y⟩]) true (by omega) (by rw [List.length_append]; simp; omega)
          simp only [if_true] at z
          rw [show eqV x V[i] = true from decide_eq_true he]
          rw [List.append_assoc] at z
          refine Evt.succ (h := fun k => rehearsalref11_Table_Set.j2 k x y acc false (i : Int) true V A st) 0 (fun k _ => ?_) (Evt.succ 0 (fun k _ => ?_) z)
          · simp only [rehearsalref11_Table_Set.l0]; rw [if_pos (by omega), if_neg (by simp), if_pos (by omega), rdV V i hi, hls]; rfl
          · simp only [rehearsalref11_Table_Set.j2]
            rw [if_pos trivial, if_pos (by omega), Option.bind_some, if_pos (by omega), if_pos (by omega), rdV V i hi, if_pos he, w64 _ (by omega)]
        · have z := ih (i + 1) (acc ++ [⟨x, y⟩] ++ [V[i]]) true (by omega) (by simp only [List.length_append, List.length_cons, List.length_nil]; omega)
          simp only [if_true] at z
          rw [show eqV x V[i] = false from decide_eq_false he]
          simp only [Bool.not_false, if_true]
          rw [List.append_assoc, List.append_assoc] at z
          refine Evt.succ (h := fun k => rehearsalref11_Table_Set.j2 k x y acc false (i : Int) true V A st) 0 (fun k _ => ?_) (Evt.succ 0 (fun k _ => ?_) z)
          · simp only [rehearsalref11_Table_Set.l0]; rw [if_pos (by omega), if_neg (by simp), if_pos (by omega), rdV V i hi, hls]; rfl
          · simp only [rehearsalref11_Table_Set.j2]
            rw [if_pos trivial, if_pos (by omega), Option.bind_some, if_pos (by omega), if_pos (by omega), rdV V i hi, if_neg he, if_pos (by simp only [List.length_append, List.length_cons, List.length_nil]; omega), w64 _ (by omega), List.append_assoc]
theorem ord_nil : Ord [] := List.Pairwise.nil
theorem rset_ev (V : List S26) (A : List ByteArray) (st : Int) (x y : ByteArray) (hl : V.length ≤ 1000000) : Evt (fun k => rehearsalref11_Table_Set.f k V A st x y) (setT V x y, A, st, setE V x y) := by
  obtain ⟨K1, h1⟩ := name_r x
  have h1 : ∀ k, K1 ≤ k → rehearsalref07_Name.f k x = some (nameB x) := h1
  by_cases hn : nameB x = true
  · obtain ⟨p, hp, hc⟩ := rplace_ev V A st x hl V.length 0 (by omega) (fun q _ h => absurd h (by omega))
    obtain ⟨K2, h2⟩ := hp
    have h2 : ∀ k, K2 ≤ k → rehearsalref11_Table_Place.f k V A st x = some p := h2
    obtain ⟨K3, h3⟩ := rset_l0 V A st x y hl V.length 0 [] false (by omega) (by simp)
    have h3 : ∀ k, K3 ≤ k → rehearsalref11_Table_Set.l0 k x y [] false 0 V A st = some (setV V x y, A, st, 0) := h3
    by_cases hy : 4096 < y.size
    · have e : setE V x y = 2 := by unfold setE; rw [if_pos hn, if_pos hy]
      refine ⟨max (max K1 K2) 1, fun k hk => ?_⟩
      obtain ⟨k, rfl⟩ : ∃ q, k = q + 1 := ⟨k - 1, by omega⟩
      show rehearsalref11_Table_Set.f (k + 1) V A st x y = _
      unfold rehearsalref11_Table_Set.f setT
      rw [h1 _ (by omega), Option.bind_some, if_pos hn, h2 _ (by omega), Option.bind_some, if_pos (by omega), e]
      simp [rehearsalref11_Table_Set.j0]
    · have hj : ∃ b : Bool, (if p < 0 then decide ((V.length : Int) ≥ 64) else false) = b ∧ (b = true ↔ (hasV V x = false ∧ 64 ≤ V.length)) := by
        refine ⟨_, rfl, ?_⟩
        rcases hc with ⟨hp0, hh, _⟩ | ⟨r, hr, e, hh, _⟩
        · rw [if_pos hp0, hh]; simp; omega
        · rw [if_neg (by omega), hh]; simp
      obtain ⟨b, hb, hbi⟩ := hj
      have hjf : ∀ k, max (max K1 K2) (K3 + 1) ≤ k → rehearsalref11_Table_Set.f k V A st x y = rehearsalref11_Table_Set.j0 k x y b V A st := fun k hk => by
        unfold rehearsalref11_Table_Set.f
        rw [h1 _ (by omega), Option.bind_some, if_pos hn, h2 _ (by omega), Option.bind_some, if_neg (by omega), ← hb]
        split <;> rfl
      refine ⟨max (max K1 K2) (K3 + 1), fun k hk => ?_⟩
      show rehearsalref11_Table_Set.f k V A st x y = _
      rw [hjf k hk]
      obtain ⟨k, rfl⟩ : ∃ q, k = q + 1 := ⟨k - 1, by omega⟩
      cases hbv : b with
      | true =>
        have e : setE V x y = 2 := by unfold setE; rw [if_pos hn, if_neg hy, if_pos (hbi.1 hbv)]
        unfold setT; rw [e]
        simp [rehearsalref11_Table_Set.j0]
      | false =>
        have e : setE V x y = 0 := by unfold setE; rw [if_pos hn, if_neg hy, if_neg (fun h => by have := hbi.2 h; rw [hbv] at this; cases this)]
        unfold setT; rw [e, if_pos rfl]
        simp only [rehearsalref11_Table_Set.j0, Bool.false_eq_true, if_false]
        exact h3 k (by omega)
  · have e : setE V x y = 70 := by unfold setE; rw [if_neg hn]
    refine ⟨K1, fun k hk => ?_⟩
    show rehearsalref11_Table_Set.f k V A st x y = _
    unfold rehearsalref11_Table_Set.f setT
    rw [h1 _ hk, Option.bind_some, if_neg hn, e]; rfl
theorem runs_l0 (V : List S26) (A : List ByteArray) (st : Int) (x : ByteArray) (hl : V.length ≤ 1000000) : ∀ (d i : Nat) (acc : List S26), i + d = V.length → acc.length ≤ i →
    Evt (fun k => rehearsalref11_Table_Unset.l0 k x acc (i : Int) V A st) (acc ++ unsV (V.drop i) x, A, st) := by
  intro d
  induction d with
  | zero =>
    intro i acc h ha
    refine Evt.const 0 (fun k _ => ?_)
    simp only [rehearsalref11_Table_Unset.l0]
    rw [if_neg (by omega), List.drop_of_length_le (by omega)]
    simp [unsV]
  | succ d ih =>
    intro i acc h ha
    have hi : i < V.length := by omega
    have hdr := List.drop_eq_getElem_cons hi
    by_cases he : V[i].f0.toList = x.toList
    · have z := ih (i + 1) acc (by omega) (by omega)
      have e : unsV (V.drop i) x = unsV (V.drop (i + 1)) x := by unfold unsV; rw [hdr, List.filter_cons, show eqV x V[i] = true from decide_eq_true he]; rfl
      rw [e]
      refine Evt.succ 0 (fun k _ => ?_) z
      simp only [rehearsalref11_Table_Unset.l0]
      rw [if_pos (by omega), if_pos (by omega), rdV V i hi, if_pos he, w64 _ (by omega)]
    · have z := ih (i + 1) (acc ++ [V[i]]) (by omega) (by rw [List.length_append]; simp; omega)
      have e : unsV (V.drop i) x = V[i] :: unsV (V.drop (i + 1)) x := by unfold unsV; rw [hdr, List.filter_cons, show eqV x V[i] = false from decide_eq_false he]; rfl
      rw [e]
      rw [List.append_assoc] at z
      refine Evt.succ 0 (fun k _ => ?_) z
      simp only [rehearsalref11_Table_Unset.l0]
      rw [if_pos (by omega), if_pos (by omega), rdV V i hi, if_neg he, if_pos (by omega), w64 _ (by omega)]
theorem runs_ev (V : List S26) (A : List ByteArray) (st : Int) (x : ByteArray) (hl : V.length ≤ 1000000) : Evt (fun k => rehearsalref11_Table_Unset.f k V A st x) (unsV V x, A, st) := runs_l0 V A st x hl V.length 0 [] (by omega) (by simp)
theorem rdA (l : List ByteArray) (i : Nat) (h : i < l.length) : rdOf ByteArray.empty l (i : Int) = l[i] := by
  unfold rdOf; rw [Int.toNat_natCast, List.getD_eq_getElem?_getD, List.getElem?_eq_getElem h]; rfl
theorem rargs_l0 (V : List S26) (A l : List ByteArray) (st : Int) (hl : l.length ≤ 256) : ∀ (d i : Nat), i + d = l.length →
    Evt (fun k => rehearsalref11_Table_SetArgs.l0 k l (i : Int) V A st) (if (l.drop i).all (fun s => decide (s.size ≤ 4096)) = true then (V, l, st, 0) else (V, A, st, 2)) := by
  intro d
  induction d with
  | zero =>
    intro i h
    refine Evt.const 0 (fun k _ => ?_)
    simp only [rehearsalref11_Table_SetArgs.l0]
    rw [if_neg (by omega), List.drop_of_length_le (by omega)]; rfl
  | succ d ih =>
    intro i h
    have hi : i < l.length := by omega
    rw [List.drop_eq_getElem_cons hi, List.all_cons]
    by_cases hs : l[i].size ≤ 4096
    · rw [decide_eq_true hs, Bool.true_and]
      refine Evt.succ 0 (fun k _ => ?_) (ih (i + 1) (by omega))
      simp only [rehearsalref11_Table_SetArgs.l0]
      rw [if_pos (by omega), if_pos (by omega), rdA l i hi, if_neg (by omega), w64 _ (by omega)]
    · rw [decide_eq_false hs, Bool.false_and, if_neg (by simp)]
      refine Evt.const 0 (fun k _ => ?_)
      simp only [rehearsalref11_Table_SetArgs.l0]
      rw [if_pos (by omega), if_pos (by omega), rdA l i hi, if_pos (by omega)]
theorem rargs_ev (V : List S26) (A l : List ByteArray) (st : Int) : Evt (fun k => rehearsalref11_Table_SetArgs.f k V A st l) (V, if argsE l = 0 then l else A, st, argsE l) := by
  by_cases h : 256 < l.length
  · have e : argsE l = 2 := by unfold argsE; rw [if_pos h]
    refine ⟨0, fun k _ => ?_⟩
    show rehearsalref11_Table_SetArgs.f k V A st l = _
    unfold rehearsalref11_Table_SetArgs.f
    rw [if_pos (by omega), e]; rfl
  · obtain ⟨K, hK⟩ := rargs_l0 V A l st (by omega) l.length 0 (by omega)
    have hK : ∀ k, K ≤ k → rehearsalref11_Table_SetArgs.l0 k l 0 V A st = _ := hK
    refine ⟨K, fun k hk => ?_⟩
    show rehearsalref11_Table_SetArgs.f k V A st l = _
    unfold rehearsalref11_Table_SetArgs.f argsE
    rw [if_neg (by omega), hK k hk, List.drop_zero, if_neg h]
    by_cases ha : l.all (fun s => decide (s.size ≤ 4096)) = true
    · rw [if_pos ha, if_pos ha]; rfl
    · rw [if_neg ha, if_neg ha]; rfl
/-- variables set one behind the other -/
noncomputable def newV : List S26 → List S26 → List S26 × Int
  | V, [] => (V, 0)
  | V, v :: l => if setE V v.f0 v.f1 = 0 then newV (setV V v.f0 v.f1) l else ([], setE V v.f0 v.f1)
theorem setE_len {V : List S26} {x y : ByteArray} (h : Ord V) (hl : V.length ≤ 64) (he : setE V x y = 0) : (setV V x y).length ≤ 64 := by
  have h1 := setV_len (V := V) (x := x) (y := y)
  cases hh : hasV V x with
  | true => have := h1.2 hh h; omega
  | false =>
    have : ¬ 64 ≤ V.length := fun h64 => by
      unfold setE at he
      split at he
      · split at he
        · cases he
        · rw [if_pos ⟨hh, h64⟩] at he; cases he
      · cases he
    omega
noncomputable def newR (V l : List S26) (A : List ByteArray) : List S26 × List ByteArray × Int × Int := if (newV V l).2 = 0 then (if argsE A = 0 then ((newV V l).1, A, 0, 0) else ([], [], 0, argsE A)) else ([], [], 0, (newV V l).2)
theorem rnew_l0 (l : List S26) (A : List ByteArray) (hl : l.length ≤ 1000000000000000) : ∀ (d i : Nat) (V : List S26), i + d = l.length → Ord V → V.length ≤ 64 →
    Evt (fun k => rehearsalref11_New.l0 k l A (i : Int) V [] 0) (newR V (l.drop i) A) := by
  intro d
  induction d with
  | zero =>
    intro i V h hV hVl
    obtain ⟨K, hK⟩ := rargs_ev V [] A 0
    have hK : ∀ k, K ≤ k → rehearsalref11_Table_SetArgs.f k V [] 0 A = _ := hK
    refine Evt.const K (fun k hk => ?_)
    simp only [rehearsalref11_New.l0]
    rw [if_neg (by omega), hK k hk, Option.bind_some, List.drop_of_length_le (by omega)]
    show (if argsE A = 0 then _ else _) = some (if (0 : Int) = 0 then _ else _)
    rw [if_pos rfl]
    by_cases ha : argsE A = 0
    · rw [if_pos ha, if_pos ha, if_pos ha]; rfl
    · rw [if_neg ha, if_neg ha, if_neg ha]
  | succ d ih =>
    intro i V h hV hVl
    have hi : i < l.length := by omega
    obtain ⟨K, hK⟩ := rset_ev V [] 0 l[i].f0 l[i].f1 (by omega)
    have hK : ∀ k, K ≤ k → rehearsalref11_Table_Set.f k V [] 0 l[i].f0 l[i].f1 = _ := hK
    by_cases he : setE V l[i].f0 l[i].f1 = 0
    · have e : newR V (l.drop i) A = newR (setV V l[i].f0 l[i].f1) (l.drop (i + 1)) A := by
        unfold newR
        rw [List.drop_eq_getElem_cons hi]
        simp only [newV, if_pos he]
      rw [e]
      refine Evt.succ K (fun k hk => ?_) (ih (i + 1) (setV V l[i].f0 l[i].f1) (by omega) (setV_ord hV) (setE_len hV hVl he))
      simp only [rehearsalref11_New.l0]
      rw [if_pos (by omega), if_pos (by omega), rdV l i hi, hK k hk, Option.bind_some, if_pos he, w64 _ (by omega)]
      unfold setT; rw [if_pos he]
    · have e : newR V (l.drop i) A = ([], [], 0, setE V l[i].f0 l[i].f1) := by
        unfold newR
        rw [List.drop_eq_getElem_cons hi]
        simp only [newV, if_neg he]
      rw [e]
      refine Evt.const K (fun k hk => ?_)
      simp only [rehearsalref11_New.l0]
      rw [if_pos (by omega), if_pos (by omega), rdV l i hi, hK k hk, Option.bind_some, if_neg he]
theorem rnew_ev (l : List S26) (A : List ByteArray) (hl : l.length ≤ 1000000000000000) : Evt (fun k => rehearsalref11_New.f k l A) (newR [] l A) := rnew_l0 l A hl l.length 0 [] (by omega) ord_nil (by simp)
theorem rsame_l1 (V : List S26) (A : List ByteArray) (st : Int) (hA : A.length ≤ 1000000) : ∀ (d i : Nat), i + d = A.length → Evt (fun k => rehearsalref11_Same.l1 k (i : Int) V A st V A st) true := by
  intro d
  induction d with
  | zero => intro i h; exact Evt.const 0 (fun k _ => by simp only [rehearsalref11_Same.l1]; rw [if_neg (by omega)])
  | succ d ih =>
    intro i h
    refine Evt.succ 0 (fun k _ => ?_) (ih (i + 1) (by omega))
    simp only [rehearsalref11_Same.l1]
    rw [if_pos (by omega), if_pos (by omega), if_pos (by omega), if_pos (by trivial), w64 _ (by omega)]
theorem rsame_l0 (V : List S26) (A : List ByteArray) (st : Int) (hV : V.length ≤ 1000000) (hA : A.length ≤ 1000000) : ∀ (d i : Nat), i + d = V.length → Evt (fun k => rehearsalref11_Same.l0 k (i : Int) V A st V A st) true := by
  intro d
  induction d with
  | zero =>
    intro i h
    refine Evt.succ 0 (fun k _ => ?_) (rsame_l1 V A st hA A.length 0 (by omega))
    simp only [rehearsalref11_Same.l0]; rw [if_neg (by omega)]; rfl
  | succ d ih =>
    intro i h
    refine Evt.succ 0 (fun k _ => ?_) (ih (i + 1) (by omega))
    simp only [rehearsalref11_Same.l0]
    rw [if_pos (by omega), if_pos (by omega), if_pos (by omega), if_neg (by simp), w64 _ (by omega)]
theorem rsame_ev (V : List S26) (A : List ByteArray) (st : Int) (hV : V.length ≤ 1000000) (hA : A.length ≤ 1000000) : Evt (fun k => rehearsalref11_Same.f k V A st V A st) true := by
  refine Evt.succ (h := fun k => rehearsalref11_Same.l0 k 0 V A st V A st) 0 (fun k _ => ?_) (rsame_l0 V A st hV hA V.length 0 (by omega))
  show rehearsalref11_Same.f (k + 1) V A st V A st = _
  unfold rehearsalref11_Same.f
  rw [if_pos rfl, if_pos rfl]
  simp [rehearsalref11_Same.j0]
end Go.Proofs.Ytgcbipflmhbpcaa.PV
set_option linter.unusedVariables false
set_option linter.unusedSimpArgs false
namespace Go.Proofs.Ytgcbipflmhbpcaa
open Go.RowKit Go.Proofs.YtgcbipflmhbpcaaW.PrintWords Go.Proofs.YtgcbipflmhbpcaaW.PrintLast Go.Proofs.YtgcbipflmhbpcaaW.PrintMore
set_option maxHeartbeats 2000000 in
set_option maxRecDepth 100000 in
theorem wdigit_any (c : Int) (w : World) : Calls Try.prog 30 #[.int .u8 c] w fun e w' => e = .returned (.bool (decide (48 ≤ c) && decide (c ≤ 57))) ∧ w' = w := by
  by_cases h1 : 48 ≤ c
  · have k1 : decide (48 ≤ c) = true := decide_eq_true h1
    go_enter Try.func30, Try.ntmps30
    go_wp2
    go_ret
    exact ⟨by first | rfl | (rw [k1]; rfl), rfl⟩
  · have k1 : decide (48 ≤ c) = false := decide_eq_false h1
    go_enter Try.func30, Try.ntmps30
    go_wp2
    go_ret
    exact ⟨by first | rfl | (rw [k1]; rfl), rfl⟩
theorem wdigit_yes (c : Int) (h : 48 ≤ c ∧ c ≤ 57) (w : World) : Calls Try.prog 30 #[.int .u8 c] w fun e w' => e = .returned (.bool true) ∧ w' = w :=
  (wdigit_any c w).mono (fun e w' h' => ⟨by rw [h'.1, decide_eq_true h.1, decide_eq_true h.2]; rfl, h'.2⟩)
set_option maxHeartbeats 2000000 in
set_option maxRecDepth 100000 in
theorem shift_no (B : Nat) (w : World) (g : Nat) (V : List (ByteArray × ByteArray)) (A : List ByteArray) (st : Int) (vv va : Value) (ht : Tab B w g V A st vv va) (n : Int) (hn : n < 0 ∨ (A.length : Int) < n) :
    Calls Try.prog 20 #[.pointer (some ⟨g, 0, none⟩), .int .i64 n] w fun e w' => e = .returned (.bool false) ∧ w' = w := by
  obtain ⟨A1, c1, rfl⟩ := own_slice ht.oa
  have d1 : w.cell? ⟨g, 1, none⟩ = some (.slice A1 A.length c1) := (blk_cell ht.bt 1).trans rfl
  by_cases h0 : n < 0
  · have k0 : decide (n < 0) = true := decide_eq_true h0
    go_enter Try.func20, Try.ntmps20
    go_wp2
    go_ret
    exact ⟨rfl, rfl⟩
  · have k0 : decide (n < 0) = false := decide_eq_false h0
    have k1 : decide ((A.length : Int) < n) = true := decide_eq_true (by omega)
    go_enter Try.func20, Try.ntmps20
    go_wp2
    go_ret
    exact ⟨rfl, rfl⟩
set_option maxHeartbeats 2000000 in
set_option maxRecDepth 100000 in
theorem shift_ok (B : Nat) (w : World) (g : Nat) (V : List (ByteArray × ByteArray)) (A : List ByteArray) (st : Int) (vv va : Value) (ht : Tab B w g V A st vv va) (hB : B ≤ w.heap.size) (hA : A.length ≤ 1000000000000) (n : Nat) (hn : n ≤ A.length) :
    Calls Try.prog 20 #[.pointer (some ⟨g, 0, none⟩), .int .i64 n] w fun e w' => e = .returned (.bool true) ∧ Frm (fun k => k = g) w w' ∧ ∃ va', Tab B w' g V (A.drop n) st vv va' := by
  obtain ⟨A1, c1, rfl⟩ := own_slice ht.oa
  have d1 : w.cell? ⟨g, 1, none⟩ = some (.slice A1 A.length c1) := (blk_cell ht.bt 1).trans rfl
  have k0 : decide ((n : Int) < 0) = false := decide_eq_false (by omega)
  have k1 : decide ((A.length : Int) < (n : Int)) = false := decide_eq_false (by omega)
  have kn : ¬ A.length < n := by omega
  have HLIE := Lies.of_own ht.oa
  have HC := own_cap ht.oa
  have HT := Lib.hid ht
  have HBB := Lib.hid hB
  have HA := Lib.hid hA
  have HLN : Hid ((A.drop n).length = A.length - n) := Lib.hid (List.length_drop ..)
  by_cases hcn : c1 = n
  · have HLI : Hid (Lies w A1 (cellsS (A.drop n))) := Lib.hid (.inl (by rw [List.drop_of_length_le (by omega)]; rfl))
    have hz : c1 - n = 0 := by omega
    clear ht hB hn hA HLIE HC
    go_enter Try.func20, Try.ntmps20
    go_wp2_with (go_at_call 42; (with_reducible refine (copyS_any A1 (A.length - n) _ (cellsS (A.drop n)) _ ((cellsS_len _).trans HLN.out) HLI.out (cellsS_one _) (by have := HA.out; omega)).mono ?_); rintro e w1 ⟨v1, rfl, ho, hb⟩; obtain ⟨A2, c2, e1⟩ := own_slice ho; subst e1; have HO := Lib.hid (own_weaken ho HBB.out); have HB1 := Lib.hid hb; have HT1 := Lib.hid (HT.out.frm hb); clear ho hb d1; have d1 : w1.cell? ⟨g, 1, none⟩ = some (.slice A1 A.length c1) := (blk_cell HT1.out.bt 1).trans rfl; have f1 := blk_frozen HT1.out.bt 1)
    go_ret
    exact ⟨rfl, (Frm.of_below HB1.out).setCell _ _ (fun _ => rfl), _, HT1.out.setA (by rw [HLN.out]; exact HO.out)⟩
  · have HLI : Hid (Lies w (A1.map fun x => x.add n) (cellsS (A.drop n))) := Lib.hid (by
      have e : cellsS (A.drop n) = (cellsS A).drop n := by unfold cellsS; rw [List.map_drop]
      rw [e]
      cases A1 with
      | none =>
        rcases HLIE with h | ⟨_, e, _⟩
        · left; rw [h]; simp
        · cases e
      | some ad => exact HLIE.drop n)
    clear ht hB hn hA HLIE HC
    go_enter Try.func20, Try.ntmps20
    go_wp2_with (go_at_call 42; (with_reducible refine (copyS_any (A1.map fun x => x.add n) (A.length - n) _ (cellsS (A.drop n)) _ ((cellsS_len _).trans HLN.out) HLI.out (cellsS_one _) (by have := HA.out; omega)).mono ?_); rintro e w1 ⟨v1, rfl, ho, hb⟩; obtain ⟨A2, c2, e1⟩ := own_slice ho; subst e1; have HO := Lib.hid (own_weaken ho HBB.out); have HB1 := Lib.hid hb; have HT1 := Lib.hid (HT.out.frm hb); clear ho hb d1; have d1 : w1.cell? ⟨g, 1, none⟩ = some (.slice A1 A.length c1) := (blk_cell HT1.out.bt 1).trans rfl; have f1 := blk_frozen HT1.out.bt 1)
    go_ret
    exact ⟨rfl, (Frm.of_below HB1.out).setCell _ _ (fun _ => rfl), _, HT1.out.setA (by rw [HLN.out]; exact HO.out)⟩
/-- what a table tells by #, by @, by a number -/
theorem Tab.str {B : Nat} {w : World} {g : Nat} {V : List (ByteArray × ByteArray)} {A : List ByteArray} {st : Int} {vv : Value} {A1 : Option Addr} {c1 : Nat} (h : Tab B w g V A st vv (.slice A1 A.length c1)) : Kd.string.C w A1 A.length A := by
  have := (own_reads_of_le (enc := Value.string) (d := ByteArray.empty) h.oa)
  obtain ⟨A2, c2, e, _, hr⟩ := this
  cases e
  exact Kd.C_of_reads hr
set_option maxHeartbeats 2000000 in
set_option maxRecDepth 100000 in
theorem get_count (B : Nat) (w : World) (g : Nat) (V : List (ByteArray × ByteArray)) (A : List ByteArray) (st : Int) (vv va : Value) (ht : Tab B w g V A st vv va) (hA : A.length ≤ 1000000000000) :
    Calls Try.prog 13 #[.pointer (some ⟨g, 0, none⟩), .string ⟨#[35]⟩] w fun e w' => e = .returned (.tuple #[.string (textS A.length), .bool true]) ∧ Below w.heap.size w w' := by
  obtain ⟨A1, c1, rfl⟩ := own_slice ht.oa
  have d1 : w.cell? ⟨g, 1, none⟩ = some (.slice A1 A.length c1) := (blk_cell ht.bt 1).trans rfl
  have HX : Hid (num_Text.f (A.length : Int) = some (textS A.length)) := Lib.hid (by unfold num_Text.f; rw [if_pos ⟨by omega, by omega⟩])
  clear ht hA
  go_enter Try.func13, Try.ntmps13
  go_wp2_with (go_at_call 28; (with_reducible refine (num_Text.calls _ _ _ HX.out).mono ?_); rintro e w1 ⟨rfl, hb⟩; have HB1 := Lib.hid hb; clear hb)
  go_ret2
  exact ⟨rfl, HB1.out⟩
set_option maxHeartbeats 2000000 in
set_option maxRecDepth 100000 in
theorem get_num (B : Nat) (w : World) (g : Nat) (V : List (ByteArray × ByteArray)) (A : List ByteArray) (st : Int) (vv va : Value) (ht : Tab B w g V A st vv va) (hA : A.length ≤ 1000000000000) (d : UInt8) (k : Nat) (hd : d = 49 ∧ k = 0 ∨ d = 50 ∧ k = 1) (hk : k < A.length) :
    Calls Try.prog 13 #[.pointer (some ⟨g, 0, none⟩), .string ⟨#[d]⟩] w fun e w' => e = .returned (.tuple #[.string A[k], .bool true]) ∧ Below w.heap.size w w' := by
  obtain ⟨A1, c1, rfl⟩ := own_slice ht.oa
  have d1 : w.cell? ⟨g, 1, none⟩ = some (.slice A1 A.length c1) := (blk_cell ht.bt 1).trans rfl
  have HX : Hid (num_Decimal.f ⟨#[d]⟩ = some ((k : Int) + 1, 0)) := Lib.hid (by rcases hd with ⟨rfl, rfl⟩ | ⟨rfl, rfl⟩ <;> (unfold num_Decimal.f; decide +kernel))
  obtain ⟨ad, ea, hx⟩ := Kd.at_string ht.str (k : Int) (by omega) (by omega)
  cases ea
  have hrd : rdOf ByteArray.empty A (k : Int) = A[k] := by
    unfold rdOf; rw [Int.toNat_natCast, List.getD_eq_getElem?_getD, List.getElem?_eq_getElem hk]; rfl
  rw [hrd, Int.toNat_natCast] at hx
  generalize A[k] = s at hx ⊢
  have HA : Hid (A.length ≤ 1000000000000 ∧ k < A.length) := Lib.hid ⟨hA, hk⟩
  rcases hd with ⟨rfl, rfl⟩ | ⟨rfl, rfl⟩
  · have j0 : decide ((1 : Int) < 1) = false := rfl
    have j1 : decide ((A.length : Int) < 1) = false := decide_eq_false (by omega)
    have j2 : decide ((0 : Int) < (A.length : Int)) = true := decide_eq_true (by omega)
    rw [Addr.add_zero'] at hx
    clear ht hA hrd
    go_enter Try.func13, Try.ntmps13
    go_wp2_with (first | (go_at_call 30; (with_reducible refine (wdigit_yes _ (by decide) _).mono ?_); rintro e w1 ⟨rfl, rfl⟩) | (go_at_call 31; (with_reducible refine (num_Decimal.calls _ _ _ _ HX.out).mono ?_); rintro e w1 ⟨rfl, hb⟩; obtain ⟨m, rfl⟩ := hb.out))
    go_ret2
    exact ⟨rfl, rfl, rfl, rfl, Nat.le_refl _, fun _ _ => rfl⟩
  · have j0 : decide ((2 : Int) < 1) = false := rfl
    have j1 : decide ((A.length : Int) < 2) = false := decide_eq_false (by omega)
    have j2 : decide ((1 : Int) < (A.length : Int)) = true := decide_eq_true (by omega)
    have hx' : w.cell? ⟨ad.block, ad.off + 1, none⟩ = some (.string s) := hx
    clear ht hA hrd
    go_enter Try.func13, Try.ntmps13
    go_wp2_with (first | (go_at_call 30; (with_reducible refine (wdigit_yes _ (by decide) _).mono ?_); rintro e w1 ⟨rfl, rfl⟩) | (go_at_call 31; (with_reducible refine (num_Decimal.calls _ _ _ _ HX.out).mono ?_); rintro e w1 ⟨rfl, hb⟩; obtain ⟨m, rfl⟩ := hb.out))
    go_ret2
    exact ⟨rfl, rfl, rfl, rfl, Nat.le_refl _, fun _ _ => rfl⟩
end Go.Proofs.Ytgcbipflmhbpcaa
set_option linter.unusedVariables false
set_option linter.unusedSimpArgs false
namespace Go.Proofs.Ytgcbipflmhbpcaa
open Go.RowKit Go.Proofs.YtgcbipflmhbpcaaW.PrintWords Go.Proofs.YtgcbipflmhbpcaaW.PrintLast
section
variable {P : Program} {md : Region.Mode} {ops : Array Oper} {Q : Exit → Act → World → Prop} {S : World → Prop} {ds : List Nat}
/-- a step of a region that draws its order; what is listed is told by the step -/
theorem takeS_ (i : Nat) {N : Option Tmp} {oi : Oper} {v : Value} {fuel : Nat} {l : Array Bool} {a : Act} {w : World} (hi : ops[i]? = some oi) (hN : oi.dst = N) (hc : takeB md ops ds l (l.setIfInBounds i true) i = true)
    (hQ : ∀ c a w, Q (.panic c) (a.put oi.dst v) w → Q (.panic c) a w) (hy : YieldsIf P ops S oi v a) (hS : S w) {a' : Act} (ha : a.put N v = a')
    (h : wpAnyLast P md ops Q S ds fuel (l.setIfInBounds i true) a' w) : wpAnyLast P md ops Q S ds (fuel + 1) l a w := take_ _ hi hN hc hQ hy hS ha h
theorem pureS_ (i : Nat) {N : Option Tmp} {oi : Oper} {v : Value} {fuel : Nat} {l : Array Bool} {a : Act} {w : World} (hi : ops[i]? = some oi) (hN : oi.dst = N) (hc : anyB md ops l (l.setIfInBounds i true) i = true)
    (hQ : ∀ c a w, Q (.panic c) (a.put oi.dst v) w → Q (.panic c) a w) (hy : Yields P ops oi v a) {a' : Act} (ha : a.put N v = a')
    (h : wpAnyLast P md ops Q S ds fuel (l.setIfInBounds i true) a' w) : wpAnyLast P md ops Q S ds (fuel + 1) l a w := pure_ _ hi hN hc hQ hy ha h
theorem oneS_ (i : Nat) {N : Option Tmp} {oi : Oper} {fuel : Nat} {l : Array Bool} {a : Act} {w : World} (hi : ops[i]? = some oi) (hN : oi.dst = N) (hc : readyB md ops l (l.setIfInBounds i true) i = true) (hd : i ∉ ds)
    (h : ∀ K : Act → World → Prop, Shut (∀ a' w', S w' → (S w' → wpAnyLast P md ops Q S ds fuel (l.setIfInBounds i true) a' w') → K a' w') → if Region.wanted oi (yielded ops a.tmps) = true then Oper.wp P oi a w K Q else K (a.put N undef) w) :
    wpAnyLast P md ops Q S ds (fuel + 1) l a w :=
  one_ (l.setIfInBounds i true) hi hN hc hd h
theorem lastS_ (i : Nat) {N : Option Tmp} {oi : Oper} {fuel : Nat} {l : Array Bool} {a : Act} {w : World} (hi : ops[i]? = some oi) (hN : oi.dst = N) (hc : readyB md ops l (l.setIfInBounds i true) i = true) (hd : i ∈ ds)
    (h : ∀ K : Act → World → Prop, Shut (∀ a' w', wpAnyLast P md ops Q S ds fuel (l.setIfInBounds i true) a' w' → K a' w') → if Region.wanted oi (yielded ops a.tmps) = true then Oper.wp P oi a w K Q else K (a.put N undef) w) :
    wpAnyLast P md ops Q S ds (fuel + 1) l a w :=
  last_ (l.setIfInBounds i true) hi hN hc hd h
end
end Go.Proofs.Ytgcbipflmhbpcaa
