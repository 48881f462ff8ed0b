/- Texts of this claim's proof: small lemmas, walks and plain laws (merged by wip/shake.py). -/
import Derived.Test.YtnpnablnnfekkaaDoorTsM0
import Derived.Test.YtnpnablnnfekkaaDoorTsM1
import Derived.Test.YtnpnablnnfekkaaDoorTsM2
import Derived.Test.YtnpnablnnfekkaaDoorTsM3
import Derived.Test.YtnpnablnnfekkaaDoorTsM4
import Derived.Test.YtnpnablnnfekkaaDoorTsM5
import Derived.ChangeArms
import Derived.ChangeSlices
import Derived.WideShapes
import Derived.SizedLaws
import Derived.OpenShut
import Derived.KernelRfl
namespace Go.Proofs.YtnpnablnnfekkaaDoor.PTr
open Go.RowKit Go.Proofs.YtnpnablnnfekkaaDoorW.PrintWords Go.Proofs.YtnpnablnnfekkaaDoorW.PrintLast Go.Proofs.YtnpnablnnfekkaaDoorW.PrintMore
attribute [local go_sem] max2_int min2_int max_two min_two max_three min_three max_four min_four   -- for this text's walks alone
set_option linter.unusedVariables false
set_option linter.unusedSimpArgs false
def rehearsalref04_Nodes.l0 : Nat → List (S44) → List (S44) → Int → Option (Bool)
 | 0, _, _, _ => none
 | k + 1, x0, x1, x5 => if x5 < (x0.length : Int) then (if 0 ≤ x5 then (if x5 < (x1.length : Int) then ((rehearsalref04_SameNode.f k ((rd_T44 x0 x5).f0) ((rd_T44 x0 x5).f1) ((rd_T44 x0 x5).f2) ((rd_T44 x0 x5).f3) ((rd_T44 x0 x5).f4) ((rd_T44 x0 x5).f5) ((rd_T44 x0 x5).f6) ((rd_T44 x1 x5).f0) ((rd_T44 x1 x5).f1) ((rd_T44 x1 x5).f2) ((rd_T44 x1 x5).f3) ((rd_T44 x1 x5).f4) ((rd_T44 x1 x5).f5) ((rd_T44 x1 x5).f6)).bind fun t219 => (if t219 = true then (rehearsalref04_Nodes.l0 k x0 x1 (wrap64 (x5 + 1))) else (some false))) else (none)) else (none)) else (some true)
def rehearsalref04_Nodes.f (k : Nat) (l0 : List (S44)) (l1 : List (S44)) : Option (Bool) := if (l0.length : Int) = (l1.length : Int) then (rehearsalref04_Nodes.l0 k l0 l1 0) else (some false)
def rehearsalref04_Nodes.T6 : Bool × List (List Nat × List Nat) := (true, [([], []), ([], []), ([0, 1], [0, 1]), ([2], [2]), ([], []), ([], []), ([4, 5], [4, 5]), ([6], [6]), ([3, 7], [3, 7]), ([8], [8])])
def rehearsalref04_Nodes.B6 : List Nat := [0, 0, 3, 7, 0, 0, 48, 112, 255, 511]
theorem rehearsalref04_Nodes.tab6 : rtab .any (opsOf Tryd.f63 6) = rehearsalref04_Nodes.T6 := by kernel_rfl
theorem rehearsalref04_Nodes.bits6 : waitsOk rehearsalref04_Nodes.T6.2 rehearsalref04_Nodes.B6 = true := by kernel_rfl
set_option maxHeartbeats 8000000 in
set_option maxRecDepth 100000 in
theorem rehearsalref04_Nodes.calls (k : Nat) (A0 : Option Addr) (c0 : Nat) (l0 : List (S44)) (A1 : Option Addr) (c1 : Nat) (l1 : List (S44)) (r : Bool) (w : World) (hr0 : Kd.C k44 w A0 l0.length l0) (hc0 : l0.length ≤ c0) (hr1 : Kd.C k44 w A1 l1.length l1) (hc1 : l1.length ≤ c1) (h : rehearsalref04_Nodes.f k l0 l1 = some r) :
  Calls Tryd.prog 63 #[.slice A0 l0.length c0, .slice A1 l1.length c1] w fun e w' => e = .returned (.bool r) ∧ Below w.heap.size w w' := by
 have hu44 := Tryd.underlying44
 have HR0 := Aside0.mk hr0
 have HC0 := Aside0.mk hc0
 clear hr0 hc0
 have HR1 := Aside0.mk hr1
 have HC1 := Aside0.mk hc1
 clear hr1 hc1
 have HB := Aside0.mk (Below.refl w.heap.size w)
 have H : (if (l0.length : Int) = (l1.length : Int) then (rehearsalref04_Nodes.l0 k l0 l1 0) else (some false)) = some r := h
 clear h
 by_cases c3 : (l0.length : Int) = (l1.length : Int)
 ·
  rw [if_pos c3] at H
  have c3b0 : ((l0.length : Int) == (l1.length : Int)) = true := beq_iff_eq.mpr c3
  have c3b1 : ((l0.length : Int) != (l1.length : Int)) = false := bne_eq_false_iff_eq.mpr c3
  have c3b2 : (l0.length == l1.length) = true := by first | simpa using c3 | (simp at c3 ⊢; omega)
  clear c3
  have H' := Aside0.mk H
  clear H
  go_enter Tryd.func63, Tryd.ntmps63
  go_wp2
  go_loopg [5] k (fun kq v5 w' => ∃ (x5_1 : Int), v5 = .int .i64 x5_1 ∧ Aside0 (rehearsalref04_Nodes.l0 kq l0 l1 x5_1 = some r) ∧ Aside0 (kq ≤ k) ∧ Aside0 (Below w.heap.size w w'))
  case atStart => exact ⟨(0), (by first | rfl | (simp; done) | (simp [*]; done)), H', ⟨Nat.le_refl _⟩, ⟨by repeat (first | (with_reducible first | exact HB.out | apply below_alloc | apply pw_below_drewN | apply below_drew1) | exact HB.out)⟩⟩
  case round =>
   clear H'
   try clear c1
   try clear p2
   try clear c3
   try clear c3b0
   try clear c3b1
   try clear c3b2
   obtain ⟨x5_1, rfl, HA, HK1, HB⟩ := hrel
   cases gk with
   | zero => exact absurd HA.out (by simp [rehearsalref04_Nodes.l0])
   | succ k1 =>
    have H := HA.out
    clear HA
    simp only [rehearsalref04_Nodes.l0] at H
    by_cases c4 : x5_1 < (l0.length : Int)
    ·
     rw [if_pos c4] at H
     have c4b0 : decide (x5_1 < (l0.length : Int)) = true := decide_eq_true c4
     clear c4
     by_cases c5 : 0 ≤ x5_1
     ·
      rw [if_pos c5] at H
      have c5b0 : decide (0 ≤ x5_1) = true := decide_eq_true c5
      clear c5
      by_cases c6 : x5_1 < (l1.length : Int)
      ·
       rw [if_pos c6] at H
       have c6b0 : decide (x5_1 < (l1.length : Int)) = true := decide_eq_true c6
       clear c6
       replace H := Option.bind_eq_some_iff.mp H
       obtain ⟨t219, A70, H⟩ := H
       replace H : (if t219 = true then (rehearsalref04_Nodes.l0 k1 l0 l1 (wrap64 (x5_1 + 1))) else (some false)) = some r := H
       have A7 := Aside0.mk A70
       clear A70
       by_cases c8 : t219 = true
       ·
        subst c8
        have H1 : (rehearsalref04_Nodes.l0 k1 l0 l1 (wrap64 (x5_1 + 1))) = some r := by rw [if_pos rfl] at H; exact H
        clear H
        have H := H1
        clear H1
        have H' := Aside0.mk H
        clear H
        try go_wp2
        have n0_ := Aside0.mk (below_drew1 HB.out)
        clear HB
        have HB := n0_
        clear n0_
        have p217 : 0 ≤ (x5_1 : Int) := of_decide_eq_true (by first | (with_reducible assumption) | assumption)
        have q217 : x5_1 < (l0.length : Int) := of_decide_eq_true (by first | (with_reducible assumption) | assumption)
        obtain ⟨ad217, A217_6, c217_6, e217, hx217_0, hx217_1, hx217_2, hx217_3, hx217_4, hx217_5, hx217_6, hl217_6, hi217_6⟩ := at_T44 HR0.out x5_1 p217 q217
        have hw217_6 := hx217_6
        have hw217_5 := hx217_5
        have hw217_4 := hx217_4
        have hw217_3 := hx217_3
        have hw217_2 := hx217_2
        have hw217_1 := hx217_1
        have hw217_0 := hx217_0
        cases e217
        replace hx217_0 := (HB.out.cell (World.block_lt_of_cell? w _ hx217_0)).trans hx217_0
        replace hx217_1 := (HB.out.cell (World.block_lt_of_cell? w _ hx217_1)).trans hx217_1
        replace hx217_2 := (HB.out.cell (World.block_lt_of_cell? w _ hx217_2)).trans hx217_2
        replace hx217_3 := (HB.out.cell (World.block_lt_of_cell? w _ hx217_3)).trans hx217_3
        replace hx217_4 := (HB.out.cell (World.block_lt_of_cell? w _ hx217_4)).trans hx217_4
        replace hx217_5 := (HB.out.cell (World.block_lt_of_cell? w _ hx217_5)).trans hx217_5
        replace hx217_6 := (HB.out.cell (World.block_lt_of_cell? w _ hx217_6)).trans hx217_6
        have HR217_6 := Aside0.mk hi217_6
        have HC217_6 := Aside0.mk hl217_6
        clear hi217_6 hl217_6
        replace p217 := eq_true p217
        replace q217 := eq_true q217
        have p218 : 0 ≤ (x5_1 : Int) := of_decide_eq_true (by first | (with_reducible assumption) | assumption)
        have q218 : x5_1 < (l1.length : Int) := of_decide_eq_true (by first | (with_reducible assumption) | assumption)
        obtain ⟨ad218, A218_6, c218_6, e218, hx218_0, hx218_1, hx218_2, hx218_3, hx218_4, hx218_5, hx218_6, hl218_6, hi218_6⟩ := at_T44 HR1.out x5_1 p218 q218
        have hw218_6 := hx218_6
        have hw218_5 := hx218_5
        have hw218_4 := hx218_4
        have hw218_3 := hx218_3
        have hw218_2 := hx218_2
        have hw218_1 := hx218_1
        have hw218_0 := hx218_0
        cases e218
        replace hx218_0 := (HB.out.cell (World.block_lt_of_cell? w _ hx218_0)).trans hx218_0
        replace hx218_1 := (HB.out.cell (World.block_lt_of_cell? w _ hx218_1)).trans hx218_1
        replace hx218_2 := (HB.out.cell (World.block_lt_of_cell? w _ hx218_2)).trans hx218_2
        replace hx218_3 := (HB.out.cell (World.block_lt_of_cell? w _ hx218_3)).trans hx218_3
        replace hx218_4 := (HB.out.cell (World.block_lt_of_cell? w _ hx218_4)).trans hx218_4
        replace hx218_5 := (HB.out.cell (World.block_lt_of_cell? w _ hx218_5)).trans hx218_5
        replace hx218_6 := (HB.out.cell (World.block_lt_of_cell? w _ hx218_6)).trans hx218_6
        have HR218_6 := Aside0.mk hi218_6
        have HC218_6 := Aside0.mk hl218_6
        clear hi218_6 hl218_6
        replace p218 := eq_true p218
        replace q218 := eq_true q218
        refine start_ (n := 10) (S := fun w' => w'.cell? (ad217.add ((x5_1).toNat * 7)) = some (.int .i64 ((rd_T44 l0 x5_1).f0)) ∧ w'.cell? ⟨(ad217.add ((x5_1).toNat * 7)).block, (ad217.add ((x5_1).toNat * 7)).off + 1, none⟩ = some (.int .i64 ((rd_T44 l0 x5_1).f1)) ∧ w'.cell? ⟨(ad217.add ((x5_1).toNat * 7)).block, (ad217.add ((x5_1).toNat * 7)).off + 2, none⟩ = some (.int .i64 ((rd_T44 l0 x5_1).f2)) ∧ w'.cell? ⟨(ad217.add ((x5_1).toNat * 7)).block, (ad217.add ((x5_1).toNat * 7)).off + 3, none⟩ = some (.int .i64 ((rd_T44 l0 x5_1).f3)) ∧ w'.cell? ⟨(ad217.add ((x5_1).toNat * 7)).block, (ad217.add ((x5_1).toNat * 7)).off + 4, none⟩ = some (.int .i64 ((rd_T44 l0 x5_1).f4)) ∧ w'.cell? ⟨(ad217.add ((x5_1).toNat * 7)).block, (ad217.add ((x5_1).toNat * 7)).off + 5, none⟩ = some (.string ((rd_T44 l0 x5_1).f5)) ∧ w'.cell? ⟨(ad217.add ((x5_1).toNat * 7)).block, (ad217.add ((x5_1).toNat * 7)).off + 6, none⟩ = some (.slice A217_6 ((rd_T44 l0 x5_1).f6).length c217_6) ∧ w'.cell? (ad218.add ((x5_1).toNat * 7)) = some (.int .i64 ((rd_T44 l1 x5_1).f0)) ∧ w'.cell? ⟨(ad218.add ((x5_1).toNat * 7)).block, (ad218.add ((x5_1).toNat * 7)).off + 1, none⟩ = some (.int .i64 ((rd_T44 l1 x5_1).f1)) ∧ w'.cell? ⟨(ad218.add ((x5_1).toNat * 7)).block, (ad218.add ((x5_1).toNat * 7)).off + 2, none⟩ = some (.int .i64 ((rd_T44 l1 x5_1).f2)) ∧ w'.cell? ⟨(ad218.add ((x5_1).toNat * 7)).block, (ad218.add ((x5_1).toNat * 7)).off + 3, none⟩ = some (.int .i64 ((rd_T44 l1 x5_1).f3)) ∧ w'.cell? ⟨(ad218.add ((x5_1).toNat * 7)).block, (ad218.add ((x5_1).toNat * 7)).off + 4, none⟩ = some (.int .i64 ((rd_T44 l1 x5_1).f4)) ∧ w'.cell? ⟨(ad218.add ((x5_1).toNat * 7)).block, (ad218.add ((x5_1).toNat * 7)).off + 5, none⟩ = some (.string ((rd_T44 l1 x5_1).f5)) ∧ w'.cell? ⟨(ad218.add ((x5_1).toNat * 7)).block, (ad218.add ((x5_1).toNat * 7)).off + 6, none⟩ = some (.slice A218_6 ((rd_T44 l1 x5_1).f6).length c218_6)) (ds := []) #[false, false, false, false, false, false, false, false, false, false] (by kernel_rfl) rfl rfl ⟨((HB.out.cell (World.block_lt_of_cell? w _ hw217_0)).trans hw217_0), ((HB.out.cell (World.block_lt_of_cell? w _ hw217_1)).trans hw217_1), ((HB.out.cell (World.block_lt_of_cell? w _ hw217_2)).trans hw217_2), ((HB.out.cell (World.block_lt_of_cell? w _ hw217_3)).trans hw217_3), ((HB.out.cell (World.block_lt_of_cell? w _ hw217_4)).trans hw217_4), ((HB.out.cell (World.block_lt_of_cell? w _ hw217_5)).trans hw217_5), ((HB.out.cell (World.block_lt_of_cell? w _ hw217_6)).trans hw217_6), ((HB.out.cell (World.block_lt_of_cell? w _ hw218_0)).trans hw218_0), ((HB.out.cell (World.block_lt_of_cell? w _ hw218_1)).trans hw218_1), ((HB.out.cell (World.block_lt_of_cell? w _ hw218_2)).trans hw218_2), ((HB.out.cell (World.block_lt_of_cell? w _ hw218_3)).trans hw218_3), ((HB.out.cell (World.block_lt_of_cell? w _ hw218_4)).trans hw218_4), ((HB.out.cell (World.block_lt_of_cell? w _ hw218_5)).trans hw218_5), ((HB.out.cell (World.block_lt_of_cell? w _ hw218_6)).trans hw218_6)⟩ (fun hHeld => ?_); refine with_tabW rehearsalref04_Nodes.tab6 rehearsalref04_Nodes.bits6 (fun HT_ HW_ => ?_)
        generalize wr.drew = w9 at HB HR217_6 HR218_6 hx217_0 hx217_1 hx217_2 hx217_3 hx217_4 hx217_5 hx217_6 hx218_0 hx218_1 hx218_2 hx218_3 hx218_4 hx218_5 hx218_6 hHeld ⊢
        iterate 5 (((first | refine takeS_ 0 (N := some 17) (v := ?_) (a' := ?_) rfl rfl (by decide +kernel) (fun _ _ _ h => h) (Or.inl ⟨by rfl, ?_⟩) hHeld ?_ ?_ | refine takeS_ 1 (N := some 18) (v := ?_) (a' := ?_) rfl rfl (by decide +kernel) (fun _ _ _ h => h) (Or.inl ⟨by rfl, ?_⟩) hHeld ?_ ?_ | refine takeS_ 2 (N := some 19) (v := ?_) (a' := ?_) rfl rfl (by decide +kernel) (fun _ _ _ h => h) (Or.inl ⟨by rfl, ?_⟩) hHeld ?_ ?_ | refine takeS_ 4 (N := some 21) (v := ?_) (a' := ?_) rfl rfl (by decide +kernel) (fun _ _ _ h => h) (Or.inl ⟨by rfl, ?_⟩) hHeld ?_ ?_ | refine takeS_ 5 (N := some 22) (v := ?_) (a' := ?_) rfl rfl (by decide +kernel) (fun _ _ _ h => h) (Or.inl ⟨by rfl, ?_⟩) hHeld ?_ ?_); rotate_left; (rintro w' ⟨s0, s1, s2, s3, s4, s5, s6, s7, s8, s9, s10, s11, s12, s13⟩; go_simp; first | done | (with_reducible rfl) | rfl); rotate_left; (simp only [Act.put, List.setIfInBounds_toArray, List.set_cons_zero, List.set_cons_succ, i64_w, i32_w]; rfl)))
        iterate 3 (((first | refine takeS_ 6 (N := some 23) (v := ?_) (a' := ?_) rfl rfl (by decide +kernel) (fun _ _ _ h => h) (Or.inl ⟨by rfl, ?_⟩) hHeld ?_ ?_ | refine takeS_ 3 (N := some 20) (v := ?_) (a' := ?_) rfl rfl (by decide +kernel) (fun _ _ _ h => h) (Or.inl ⟨by rfl, ?_⟩) hHeld ?_ ?_ | refine takeS_ 7 (N := some 24) (v := ?_) (a' := ?_) rfl rfl (by decide +kernel) (fun _ _ _ h => h) (Or.inl ⟨by rfl, ?_⟩) hHeld ?_ ?_); rotate_left; (rintro w' ⟨s0, s1, s2, s3, s4, s5, s6, s7, s8, s9, s10, s11, s12, s13⟩; go_simp; first | done | (with_reducible rfl) | rfl); rotate_left; (simp only [Act.put, List.setIfInBounds_toArray, List.set_cons_zero, List.set_cons_succ, i64_w, i32_w]; rfl)))
        refine one_ (i := 8) (N := some 25) #[true, true, true, true, true, true, true, true, true, false] rfl rfl (one_of HT_.out (by kernel_rfl)) (by decide) (fun K hK => ?_)
        refine goes_ Tryd.func32 (by kernel_rfl) rfl #[.agg #[.int .i64 ((rd_T44 l0 x5_1).f0), .int .i64 ((rd_T44 l0 x5_1).f1), .int .i64 ((rd_T44 l0 x5_1).f2), .int .i64 ((rd_T44 l0 x5_1).f3), .int .i64 ((rd_T44 l0 x5_1).f4), .string ((rd_T44 l0 x5_1).f5), .slice A217_6 ((rd_T44 l0 x5_1).f6).length c217_6], .agg #[.int .i64 ((rd_T44 l1 x5_1).f0), .int .i64 ((rd_T44 l1 x5_1).f1), .int .i64 ((rd_T44 l1 x5_1).f2), .int .i64 ((rd_T44 l1 x5_1).f3), .int .i64 ((rd_T44 l1 x5_1).f4), .string ((rd_T44 l1 x5_1).f5), .slice A218_6 ((rd_T44 l1 x5_1).f6).length c218_6]] (by rfl) rfl rfl (by (try simp only [List.map_toArray, List.map_cons, List.map_nil]); first | done | rfl | (simp only [List.length_drop, List.length_take]; rfl)) ?_
        with_reducible refine (rehearsalref04_SameNode.calls k1 ((rd_T44 l0 x5_1).f0) ((rd_T44 l0 x5_1).f1) ((rd_T44 l0 x5_1).f2) ((rd_T44 l0 x5_1).f3) ((rd_T44 l0 x5_1).f4) ((rd_T44 l0 x5_1).f5) _ _ ((rd_T44 l0 x5_1).f6) ((rd_T44 l1 x5_1).f0) ((rd_T44 l1 x5_1).f1) ((rd_T44 l1 x5_1).f2) ((rd_T44 l1 x5_1).f3) ((rd_T44 l1 x5_1).f4) ((rd_T44 l1 x5_1).f5) _ _ ((rd_T44 l1 x5_1).f6) true _ ?side1 ?side2 ?side3 ?side4 A7.out).mono ?_
        (case side1 => repeat (first | exact (Kd.C_below HR217_6.out HB.out) | (with_reducible refine Kd.C_alloc ?_ _) | (with_reducible refine Kd.C_drewN ?_ _) | (with_reducible refine Kd.C_drew ?_)))
        (case side2 => exact HC217_6.out)
        (case side3 => repeat (first | exact (Kd.C_below HR218_6.out HB.out) | (with_reducible refine Kd.C_alloc ?_ _) | (with_reducible refine Kd.C_drewN ?_ _) | (with_reducible refine Kd.C_drew ?_)))
        (case side4 => exact HC218_6.out)
        rintro e w10 ⟨rfl, hb⟩
        refine ⟨_, rfl, ?_⟩
        have n0_ := Aside0.mk (below_step (by repeat (first | (with_reducible first | exact HB.out | apply below_alloc | apply pw_below_drewN | apply below_drew1) | exact HB.out)) hb)
        clear HB
        have HB := n0_
        clear n0_
        (try clear hb)
        (try clear hb2)
        (try clear hk)
        (try clear hi)
        refine hK.out _ _ ⟨((HB.out.cell (World.block_lt_of_cell? w _ hw217_0)).trans hw217_0), ((HB.out.cell (World.block_lt_of_cell? w _ hw217_1)).trans hw217_1), ((HB.out.cell (World.block_lt_of_cell? w _ hw217_2)).trans hw217_2), ((HB.out.cell (World.block_lt_of_cell? w _ hw217_3)).trans hw217_3), ((HB.out.cell (World.block_lt_of_cell? w _ hw217_4)).trans hw217_4), ((HB.out.cell (World.block_lt_of_cell? w _ hw217_5)).trans hw217_5), ((HB.out.cell (World.block_lt_of_cell? w _ hw217_6)).trans hw217_6), ((HB.out.cell (World.block_lt_of_cell? w _ hw218_0)).trans hw218_0), ((HB.out.cell (World.block_lt_of_cell? w _ hw218_1)).trans hw218_1), ((HB.out.cell (World.block_lt_of_cell? w _ hw218_2)).trans hw218_2), ((HB.out.cell (World.block_lt_of_cell? w _ hw218_3)).trans hw218_3), ((HB.out.cell (World.block_lt_of_cell? w _ hw218_4)).trans hw218_4), ((HB.out.cell (World.block_lt_of_cell? w _ hw218_5)).trans hw218_5), ((HB.out.cell (World.block_lt_of_cell? w _ hw218_6)).trans hw218_6)⟩ (fun hHeld => ?_)
        clear hK K
        refine norm_ (a' := ?_) ?_ ?_
        rotate_left
        ·
         show Act.put _ (some 25) _ = _
         simp only [Act.put, List.setIfInBounds_toArray, List.set_cons_zero, List.set_cons_succ, i64_w, i32_w]
         rfl
        refine pure_ (i := 9) (N := some 26) (v := ?_) (a' := ?_) #[true, true, true, true, true, true, true, true, true, true] rfl rfl (any_of HT_.out (by kernel_rfl)) (fun _ _ _ h => h) (Or.inl ⟨by rfl, ?_⟩) ?_ ?_
        rotate_left
        ·
         intro w'
         go_simp
         with_reducible rfl
        rotate_left
        ·
         simp only [Act.put, List.setIfInBounds_toArray, List.set_cons_zero, List.set_cons_succ, i64_w, i32_w]
         rfl
        refine done_ (done_of HT_.out (by kernel_rfl)) ?_
        try go_wp2
        go_roundg k1
        case measure => have := HK1.out; omega
        case rel => exact ⟨(wrap64 (x5_1 + 1)), (by first | rfl | (simp; done) | (simp [*]; done)), H', ⟨by have := HK1.out; omega⟩, ⟨by repeat (first | (with_reducible first | exact HB.out | apply below_alloc | apply pw_below_drewN | apply below_drew1) | exact HB.out)⟩⟩
       ·
        replace c8 := Bool.eq_false_iff.mpr c8
        subst c8
        have H1 : (some false) = some r := by rw [if_neg (show ¬ (false = true) by decide)] at H; exact H
        clear H
        have H := H1
        clear H1
        obtain rfl := Option.some.inj H
        try go_wp2
        have n0_ := Aside0.mk (below_drew1 HB.out)
        clear HB
        have HB := n0_
        clear n0_
        have p217 : 0 ≤ (x5_1 : Int) := of_decide_eq_true (by first | (with_reducible assumption) | assumption)
        have q217 : x5_1 < (l0.length : Int) := of_decide_eq_true (by first | (with_reducible assumption) | assumption)
        obtain ⟨ad217, A217_6, c217_6, e217, hx217_0, hx217_1, hx217_2, hx217_3, hx217_4, hx217_5, hx217_6, hl217_6, hi217_6⟩ := at_T44 HR0.out x5_1 p217 q217
        have hw217_6 := hx217_6
        have hw217_5 := hx217_5
        have hw217_4 := hx217_4
        have hw217_3 := hx217_3
        have hw217_2 := hx217_2
        have hw217_1 := hx217_1
        have hw217_0 := hx217_0
        cases e217
        replace hx217_0 := (HB.out.cell (World.block_lt_of_cell? w _ hx217_0)).trans hx217_0
        replace hx217_1 := (HB.out.cell (World.block_lt_of_cell? w _ hx217_1)).trans hx217_1
        replace hx217_2 := (HB.out.cell (World.block_lt_of_cell? w _ hx217_2)).trans hx217_2
        replace hx217_3 := (HB.out.cell (World.block_lt_of_cell? w _ hx217_3)).trans hx217_3
        replace hx217_4 := (HB.out.cell (World.block_lt_of_cell? w _ hx217_4)).trans hx217_4
        replace hx217_5 := (HB.out.cell (World.block_lt_of_cell? w _ hx217_5)).trans hx217_5
        replace hx217_6 := (HB.out.cell (World.block_lt_of_cell? w _ hx217_6)).trans hx217_6
        have HR217_6 := Aside0.mk hi217_6
        have HC217_6 := Aside0.mk hl217_6
        clear hi217_6 hl217_6
        replace p217 := eq_true p217
        replace q217 := eq_true q217
        have p218 : 0 ≤ (x5_1 : Int) := of_decide_eq_true (by first | (with_reducible assumption) | assumption)
        have q218 : x5_1 < (l1.length : Int) := of_decide_eq_true (by first | (with_reducible assumption) | assumption)
        obtain ⟨ad218, A218_6, c218_6, e218, hx218_0, hx218_1, hx218_2, hx218_3, hx218_4, hx218_5, hx218_6, hl218_6, hi218_6⟩ := at_T44 HR1.out x5_1 p218 q218
        have hw218_6 := hx218_6
        have hw218_5 := hx218_5
        have hw218_4 := hx218_4
        have hw218_3 := hx218_3
        have hw218_2 := hx218_2
        have hw218_1 := hx218_1
        have hw218_0 := hx218_0
        cases e218
        replace hx218_0 := (HB.out.cell (World.block_lt_of_cell? w _ hx218_0)).trans hx218_0
        replace hx218_1 := (HB.out.cell (World.block_lt_of_cell? w _ hx218_1)).trans hx218_1
        replace hx218_2 := (HB.out.cell (World.block_lt_of_cell? w _ hx218_2)).trans hx218_2
        replace hx218_3 := (HB.out.cell (World.block_lt_of_cell? w _ hx218_3)).trans hx218_3
        replace hx218_4 := (HB.out.cell (World.block_lt_of_cell? w _ hx218_4)).trans hx218_4
        replace hx218_5 := (HB.out.cell (World.block_lt_of_cell? w _ hx218_5)).trans hx218_5
        replace hx218_6 := (HB.out.cell (World.block_lt_of_cell? w _ hx218_6)).trans hx218_6
        have HR218_6 := Aside0.mk hi218_6
        have HC218_6 := Aside0.mk hl218_6
        clear hi218_6 hl218_6
        replace p218 := eq_true p218
        replace q218 := eq_true q218
        refine start_ (n := 10) (S := fun w' => w'.cell? (ad217.add ((x5_1).toNat * 7)) = some (.int .i64 ((rd_T44 l0 x5_1).f0)) ∧ w'.cell? ⟨(ad217.add ((x5_1).toNat * 7)).block, (ad217.add ((x5_1).toNat * 7)).off + 1, none⟩ = some (.int .i64 ((rd_T44 l0 x5_1).f1)) ∧ w'.cell? ⟨(ad217.add ((x5_1).toNat * 7)).block, (ad217.add ((x5_1).toNat * 7)).off + 2, none⟩ = some (.int .i64 ((rd_T44 l0 x5_1).f2)) ∧ w'.cell? ⟨(ad217.add ((x5_1).toNat * 7)).block, (ad217.add ((x5_1).toNat * 7)).off + 3, none⟩ = some (.int .i64 ((rd_T44 l0 x5_1).f3)) ∧ w'.cell? ⟨(ad217.add ((x5_1).toNat * 7)).block, (ad217.add ((x5_1).toNat * 7)).off + 4, none⟩ = some (.int .i64 ((rd_T44 l0 x5_1).f4)) ∧ w'.cell? ⟨(ad217.add ((x5_1).toNat * 7)).block, (ad217.add ((x5_1).toNat * 7)).off + 5, none⟩ = some (.string ((rd_T44 l0 x5_1).f5)) ∧ w'.cell? ⟨(ad217.add ((x5_1).toNat * 7)).block, (ad217.add ((x5_1).toNat * 7)).off + 6, none⟩ = some (.slice A217_6 ((rd_T44 l0 x5_1).f6).length c217_6) ∧ w'.cell? (ad218.add ((x5_1).toNat * 7)) = some (.int .i64 ((rd_T44 l1 x5_1).f0)) ∧ w'.cell? ⟨(ad218.add ((x5_1).toNat * 7)).block, (ad218.add ((x5_1).toNat * 7)).off + 1, none⟩ = some (.int .i64 ((rd_T44 l1 x5_1).f1)) ∧ w'.cell? ⟨(ad218.add ((x5_1).toNat * 7)).block, (ad218.add ((x5_1).toNat * 7)).off + 2, none⟩ = some (.int .i64 ((rd_T44 l1 x5_1).f2)) ∧ w'.cell? ⟨(ad218.add ((x5_1).toNat * 7)).block, (ad218.add ((x5_1).toNat * 7)).off + 3, none⟩ = some (.int .i64 ((rd_T44 l1 x5_1).f3)) ∧ w'.cell? ⟨(ad218.add ((x5_1).toNat * 7)).block, (ad218.add ((x5_1).toNat * 7)).off + 4, none⟩ = some (.int .i64 ((rd_T44 l1 x5_1).f4)) ∧ w'.cell? ⟨(ad218.add ((x5_1).toNat * 7)).block, (ad218.add ((x5_1).toNat * 7)).off + 5, none⟩ = some (.string ((rd_T44 l1 x5_1).f5)) ∧ w'.cell? ⟨(ad218.add ((x5_1).toNat * 7)).block, (ad218.add ((x5_1).toNat * 7)).off + 6, none⟩ = some (.slice A218_6 ((rd_T44 l1 x5_1).f6).length c218_6)) (ds := []) #[false, false, false, false, false, false, false, false, false, false] (by kernel_rfl) rfl rfl ⟨((HB.out.cell (World.block_lt_of_cell? w _ hw217_0)).trans hw217_0), ((HB.out.cell (World.block_lt_of_cell? w _ hw217_1)).trans hw217_1), ((HB.out.cell (World.block_lt_of_cell? w _ hw217_2)).trans hw217_2), ((HB.out.cell (World.block_lt_of_cell? w _ hw217_3)).trans hw217_3), ((HB.out.cell (World.block_lt_of_cell? w _ hw217_4)).trans hw217_4), ((HB.out.cell (World.block_lt_of_cell? w _ hw217_5)).trans hw217_5), ((HB.out.cell (World.block_lt_of_cell? w _ hw217_6)).trans hw217_6), ((HB.out.cell (World.block_lt_of_cell? w _ hw218_0)).trans hw218_0), ((HB.out.cell (World.block_lt_of_cell? w _ hw218_1)).trans hw218_1), ((HB.out.cell (World.block_lt_of_cell? w _ hw218_2)).trans hw218_2), ((HB.out.cell (World.block_lt_of_cell? w _ hw218_3)).trans hw218_3), ((HB.out.cell (World.block_lt_of_cell? w _ hw218_4)).trans hw218_4), ((HB.out.cell (World.block_lt_of_cell? w _ hw218_5)).trans hw218_5), ((HB.out.cell (World.block_lt_of_cell? w _ hw218_6)).trans hw218_6)⟩ (fun hHeld => ?_); refine with_tabW rehearsalref04_Nodes.tab6 rehearsalref04_Nodes.bits6 (fun HT_ HW_ => ?_)
        generalize wr.drew = w11 at HB HR217_6 HR218_6 hx217_0 hx217_1 hx217_2 hx217_3 hx217_4 hx217_5 hx217_6 hx218_0 hx218_1 hx218_2 hx218_3 hx218_4 hx218_5 hx218_6 hHeld ⊢
        iterate 5 (((first | refine takeS_ 0 (N := some 17) (v := ?_) (a' := ?_) rfl rfl (by decide +kernel) (fun _ _ _ h => h) (Or.inl ⟨by rfl, ?_⟩) hHeld ?_ ?_ | refine takeS_ 1 (N := some 18) (v := ?_) (a' := ?_) rfl rfl (by decide +kernel) (fun _ _ _ h => h) (Or.inl ⟨by rfl, ?_⟩) hHeld ?_ ?_ | refine takeS_ 2 (N := some 19) (v := ?_) (a' := ?_) rfl rfl (by decide +kernel) (fun _ _ _ h => h) (Or.inl ⟨by rfl, ?_⟩) hHeld ?_ ?_ | refine takeS_ 4 (N := some 21) (v := ?_) (a' := ?_) rfl rfl (by decide +kernel) (fun _ _ _ h => h) (Or.inl ⟨by rfl, ?_⟩) hHeld ?_ ?_ | refine takeS_ 5 (N := some 22) (v := ?_) (a' := ?_) rfl rfl (by decide +kernel) (fun _ _ _ h => h) (Or.inl ⟨by rfl, ?_⟩) hHeld ?_ ?_); rotate_left; (rintro w' ⟨s0, s1, s2, s3, s4, s5, s6, s7, s8, s9, s10, s11, s12, s13⟩; go_simp; first | done | (with_reducible rfl) | rfl); rotate_left; (simp only [Act.put, List.setIfInBounds_toArray, List.set_cons_zero, List.set_cons_succ, i64_w, i32_w]; rfl)))
        iterate 3 (((first | refine takeS_ 6 (N := some 23) (v := ?_) (a' := ?_) rfl rfl (by decide +kernel) (fun _ _ _ h => h) (Or.inl ⟨by rfl, ?_⟩) hHeld ?_ ?_ | refine takeS_ 3 (N := some 20) (v := ?_) (a' := ?_) rfl rfl (by decide +kernel) (fun _ _ _ h => h) (Or.inl ⟨by rfl, ?_⟩) hHeld ?_ ?_ | refine takeS_ 7 (N := some 24) (v := ?_) (a' := ?_) rfl rfl (by decide +kernel) (fun _ _ _ h => h) (Or.inl ⟨by rfl, ?_⟩) hHeld ?_ ?_); rotate_left; (rintro w' ⟨s0, s1, s2, s3, s4, s5, s6, s7, s8, s9, s10, s11, s12, s13⟩; go_simp; first | done | (with_reducible rfl) | rfl); rotate_left; (simp only [Act.put, List.setIfInBounds_toArray, List.set_cons_zero, List.set_cons_succ, i64_w, i32_w]; rfl)))
        refine one_ (i := 8) (N := some 25) #[true, true, true, true, true, true, true, true, true, false] rfl rfl (one_of HT_.out (by kernel_rfl)) (by decide) (fun K hK => ?_)
        refine goes_ Tryd.func32 (by kernel_rfl) rfl #[.agg #[.int .i64 ((rd_T44 l0 x5_1).f0), .int .i64 ((rd_T44 l0 x5_1).f1), .int .i64 ((rd_T44 l0 x5_1).f2), .int .i64 ((rd_T44 l0 x5_1).f3), .int .i64 ((rd_T44 l0 x5_1).f4), .string ((rd_T44 l0 x5_1).f5), .slice A217_6 ((rd_T44 l0 x5_1).f6).length c217_6], .agg #[.int .i64 ((rd_T44 l1 x5_1).f0), .int .i64 ((rd_T44 l1 x5_1).f1), .int .i64 ((rd_T44 l1 x5_1).f2), .int .i64 ((rd_T44 l1 x5_1).f3), .int .i64 ((rd_T44 l1 x5_1).f4), .string ((rd_T44 l1 x5_1).f5), .slice A218_6 ((rd_T44 l1 x5_1).f6).length c218_6]] (by rfl) rfl rfl (by (try simp only [List.map_toArray, List.map_cons, List.map_nil]); first | done | rfl | (simp only [List.length_drop, List.length_take]; rfl)) ?_
        with_reducible refine (rehearsalref04_SameNode.calls k1 ((rd_T44 l0 x5_1).f0) ((rd_T44 l0 x5_1).f1) ((rd_T44 l0 x5_1).f2) ((rd_T44 l0 x5_1).f3) ((rd_T44 l0 x5_1).f4) ((rd_T44 l0 x5_1).f5) _ _ ((rd_T44 l0 x5_1).f6) ((rd_T44 l1 x5_1).f0) ((rd_T44 l1 x5_1).f1) ((rd_T44 l1 x5_1).f2) ((rd_T44 l1 x5_1).f3) ((rd_T44 l1 x5_1).f4) ((rd_T44 l1 x5_1).f5) _ _ ((rd_T44 l1 x5_1).f6) false _ ?side1 ?side2 ?side3 ?side4 A7.out).mono ?_
        (case side1 => repeat (first | exact (Kd.C_below HR217_6.out HB.out) | (with_reducible refine Kd.C_alloc ?_ _) | (with_reducible refine Kd.C_drewN ?_ _) | (with_reducible refine Kd.C_drew ?_)))
        (case side2 => exact HC217_6.out)
        (case side3 => repeat (first | exact (Kd.C_below HR218_6.out HB.out) | (with_reducible refine Kd.C_alloc ?_ _) | (with_reducible refine Kd.C_drewN ?_ _) | (with_reducible refine Kd.C_drew ?_)))
        (case side4 => exact HC218_6.out)
        rintro e w12 ⟨rfl, hb⟩
        refine ⟨_, rfl, ?_⟩
        have n0_ := Aside0.mk (below_step (by repeat (first | (with_reducible first | exact HB.out | apply below_alloc | apply pw_below_drewN | apply below_drew1) | exact HB.out)) hb)
        clear HB
        have HB := n0_
        clear n0_
        (try clear hb)
        (try clear hb2)
        (try clear hk)
        (try clear hi)
        refine hK.out _ _ ⟨((HB.out.cell (World.block_lt_of_cell? w _ hw217_0)).trans hw217_0), ((HB.out.cell (World.block_lt_of_cell? w _ hw217_1)).trans hw217_1), ((HB.out.cell (World.block_lt_of_cell? w _ hw217_2)).trans hw217_2), ((HB.out.cell (World.block_lt_of_cell? w _ hw217_3)).trans hw217_3), ((HB.out.cell (World.block_lt_of_cell? w _ hw217_4)).trans hw217_4), ((HB.out.cell (World.block_lt_of_cell? w _ hw217_5)).trans hw217_5), ((HB.out.cell (World.block_lt_of_cell? w _ hw217_6)).trans hw217_6), ((HB.out.cell (World.block_lt_of_cell? w _ hw218_0)).trans hw218_0), ((HB.out.cell (World.block_lt_of_cell? w _ hw218_1)).trans hw218_1), ((HB.out.cell (World.block_lt_of_cell? w _ hw218_2)).trans hw218_2), ((HB.out.cell (World.block_lt_of_cell? w _ hw218_3)).trans hw218_3), ((HB.out.cell (World.block_lt_of_cell? w _ hw218_4)).trans hw218_4), ((HB.out.cell (World.block_lt_of_cell? w _ hw218_5)).trans hw218_5), ((HB.out.cell (World.block_lt_of_cell? w _ hw218_6)).trans hw218_6)⟩ (fun hHeld => ?_)
        clear hK K
        refine norm_ (a' := ?_) ?_ ?_
        rotate_left
        ·
         show Act.put _ (some 25) _ = _
         simp only [Act.put, List.setIfInBounds_toArray, List.set_cons_zero, List.set_cons_succ, i64_w, i32_w]
         rfl
        refine pure_ (i := 9) (N := some 26) (v := ?_) (a' := ?_) #[true, true, true, true, true, true, true, true, true, true] rfl rfl (any_of HT_.out (by kernel_rfl)) (fun _ _ _ h => h) (Or.inl ⟨by rfl, ?_⟩) ?_ ?_
        rotate_left
        ·
         intro w'
         go_simp
         with_reducible rfl
        rotate_left
        ·
         simp only [Act.put, List.setIfInBounds_toArray, List.set_cons_zero, List.set_cons_succ, i64_w, i32_w]
         rfl
        refine done_ (done_of HT_.out (by kernel_rfl)) ?_
        try go_wp2
        go_ret
        exact ⟨by first | rfl | (simp [errW_none, errW_some] <;> rfl) | (simp [*, errW_none, errW_some] <;> rfl), by repeat (first | (with_reducible first | exact HB.out | apply below_alloc | apply pw_below_drewN | apply below_drew1) | exact HB.out)⟩
      ·
       rw [if_neg c6] at H
       exact absurd H (by simp)
     ·
      rw [if_neg c5] at H
      exact absurd H (by simp)
    ·
     rw [if_neg c4] at H
     have c4b0 : decide (x5_1 < (l0.length : Int)) = false := decide_eq_false c4
     clear c4
     obtain rfl := Option.some.inj H
     go_wp2
     go_ret
     exact ⟨by first | rfl | (simp [errW_none, errW_some] <;> rfl) | (simp [*, errW_none, errW_some] <;> rfl), by repeat (first | (with_reducible first | exact HB.out | apply below_alloc | apply pw_below_drewN | apply below_drew1) | exact HB.out)⟩
 ·
  rw [if_neg c3] at H
  have c3b0 : ((l0.length : Int) == (l1.length : Int)) = false := beq_eq_false_iff_ne.mpr c3
  have c3b1 : ((l0.length : Int) != (l1.length : Int)) = true := bne_iff_ne.mpr c3
  have c3b2 : (l0.length == l1.length) = false := by first | simpa using c3 | (simp at c3 ⊢; omega)
  obtain rfl := Option.some.inj H
  go_enter Tryd.func63, Tryd.ntmps63
  go_wp2
  go_ret
  exact ⟨by first | rfl | (simp [errW_none, errW_some] <;> rfl) | (simp [*, errW_none, errW_some] <;> rfl), by repeat (first | (with_reducible first | exact HB.out | apply below_alloc | apply pw_below_drewN | apply below_drew1) | exact HB.out)⟩
end Go.Proofs.YtnpnablnnfekkaaDoor.PTr
set_option linter.unusedVariables false
set_option linter.unusedSimpArgs false
namespace Go.Proofs.YtnpnablnnfekkaaDoor.PTr
open Go.RowKit Go.Proofs.YtnpnablnnfekkaaDoor Go.Proofs.YtnpnablnnfekkaaDoorW.PrintWords
theorem Evt.bind0 {α β : Type} {g : Nat → Option β} {p : Nat → Option α} {q : Nat → α → Option β} {x : α} {r : β} (he : ∀ k, g k = (p k).bind (q k)) (hp : Evt p x) (hq : Evt (fun k => q k x) r) : Evt g r := by
 obtain ⟨K, hK⟩ := hp
 obtain ⟨L, hL⟩ := hq
 refine ⟨K + L, fun k hk => ?_⟩
 rw [he, hK k (by omega), Option.bind_some]
 exact hL k (by omega)
theorem Evt.const0 {α : Type} {g : Nat → Option α} {r : α} (he : ∀ k, g k = some r) : Evt g r := ⟨0, fun k _ => he k⟩
theorem rway_ev (l : List Nod) (a1 a2 a3 : Int) (hc : chk l a1 = 0) (hb : ∀ x ∈ l, x.f6.length ≤ 140737488351232) : Evt (fun k => rehearsalref04_Way.f k l a1 a2 a3 1 (⟨#[47]⟩ : ByteArray) []) ((wid l a1).map toW) := by
 obtain ⟨_, _, hl, hr, _, hN, _⟩ := chk_facts hc
 have := way_ev l a1 a2 a3 hl hr hb hN (l.length + 1) [] 1 [47] List.nodup_nil (fun x hx => by cases hx) (by simp) (by simp)
 have hw : wid l a1 = wayP l (l.length + 1) [] 1 [47] := by unfold wid; rw [if_pos hc]
 rw [hw]
 exact this
end Go.Proofs.YtnpnablnnfekkaaDoor.PTr
set_option linter.unusedVariables false
set_option linter.unusedSimpArgs false
namespace Go.Proofs.YtnpnablnnfekkaaDoor.PTr
open Go.RowKit Go.Proofs.YtnpnablnnfekkaaDoor Go.Proofs.YtnpnablnnfekkaaDoorW.PrintWords
def SmallOK (l : List Nod) : Prop := (l.length ≤ 60 ∧ ∀ x ∈ l, x.f6.length ≤ 200 ∧ x.f5.size ≤ 20000) ∨ 512 < l.length
theorem small_l0 (l : List Nod) (a1 a2 a3 : Int) : ∀ (d i : Nat) (n : Int), i + d = 200 → 0 ≤ n → n ≤ 200 * i → (∀ q (h : q < l.length), q < i → l[q].f6.length ≤ 200 ∧ l[q].f5.size ≤ 20000) →
  ∃ b, Evt (fun k => rehearsalref04_Small.l0 k n (i : Int) l a1 a2 a3) b ∧ (b = true → SmallOK l) := by
 have fin : ∀ (i : Nat) (n : Int), (l.length ≤ 60 → ∀ q (h : q < l.length), l[q].f6.length ≤ 200 ∧ l[q].f5.size ≤ 20000) → ∃ b, (∀ k, rehearsalref04_Small.j1 (k + 1) n (i : Int) false l a1 a2 a3 = some b) ∧ (b = true → SmallOK l) := by
  intro i n hg
  by_cases h60 : (l.length : Int) ≤ 60
  ·
   by_cases hn : n ≤ 200
   ·
    exact ⟨true, fun k => by simp only [rehearsalref04_Small.j1]; rw [if_neg (by decide), if_pos h60, if_pos hn], fun _ => .inl ⟨by omega, fun x hx => by obtain ⟨q, hq, rfl⟩ := List.getElem_of_mem hx; exact hg (by omega) q hq⟩⟩
   ·
    exact ⟨decide ((l.length : Int) > 512), fun k => by simp only [rehearsalref04_Small.j1]; rw [if_neg (by decide), if_pos h60, if_neg hn], fun h => .inr (by have := of_decide_eq_true h; omega)⟩
  ·
   exact ⟨decide ((l.length : Int) > 512), fun k => by simp only [rehearsalref04_Small.j1]; rw [if_neg (by decide), if_neg h60], fun h => .inr (by have := of_decide_eq_true h; omega)⟩
 intro d
 induction d with
 | zero =>
  intro i n hi h0 h1 hg
  obtain ⟨b, hb, hs⟩ := fin i n (fun hl q hq => hg q hq (by omega))
  refine ⟨b, Evt.const 1 (fun k hk => ?_), hs⟩
  obtain ⟨m, rfl⟩ : ∃ m, k = m + 1 := ⟨k - 1, by omega⟩
  simp only [rehearsalref04_Small.l0]
  by_cases hl : (i : Int) < (l.length : Int)
  ·
   rw [if_pos hl, decide_eq_false (show ¬ (i : Int) < 200 from by omega)]; exact hb m
  ·
   rw [if_neg hl]; exact hb m
 | succ d ih =>
  intro i n hi h0 h1 hg
  by_cases hl : i < l.length
  ·
   have hl' : (i : Int) < (l.length : Int) := by omega
   by_cases c1 : l[i].f6.length ≤ 200
   ·
    by_cases c2 : l[i].f5.size ≤ 20000
    ·
     obtain ⟨b, hb, hs⟩ := ih (i + 1) (n + l[i].f6.length) (by omega) (by omega) (by omega) (fun q hq hqi => by
      by_cases e : q = i
      ·
       subst e; exact ⟨c1, c2⟩
      ·
       exact hg q hq (by omega))
     refine ⟨b, Evt.succ 0 (fun k _ => ?_) (Evt.succ 0 (g := fun k => rehearsalref04_Small.j1 k n (i : Int) true l a1 a2 a3) (fun k _ => ?_) hb), hs⟩
     ·
      simp only [rehearsalref04_Small.l0]
      rw [if_pos hl', decide_eq_true (show (i : Int) < 200 from by omega)]
     ·
      simp only [rehearsalref04_Small.j1]
      rw [if_pos trivial, if_pos (by omega), if_pos hl', rdN l i hl, if_neg (by omega), if_neg (by omega), show wrap64 (n + (l[i].f6.length : Int)) = n + (l[i].f6.length : Int) from by unfold wrap64; omega, show wrap64 ((i : Int) + 1) = ((i + 1 : Nat) : Int) from by unfold wrap64; omega]
    ·
     refine ⟨false, Evt.succ 0 (fun k _ => ?_) (Evt.const 0 (g := fun k => rehearsalref04_Small.j1 k n (i : Int) true l a1 a2 a3) (fun k _ => ?_)), fun h => by cases h⟩
     ·
      simp only [rehearsalref04_Small.l0]
      rw [if_pos hl', decide_eq_true (show (i : Int) < 200 from by omega)]
     ·
      simp only [rehearsalref04_Small.j1]
      rw [if_pos trivial, if_pos (by omega), if_pos hl', rdN l i hl, if_neg (by omega), if_pos (by omega)]
   ·
    refine ⟨false, Evt.succ 0 (fun k _ => ?_) (Evt.const 0 (g := fun k => rehearsalref04_Small.j1 k n (i : Int) true l a1 a2 a3) (fun k _ => ?_)), fun h => by cases h⟩
    ·
     simp only [rehearsalref04_Small.l0]
     rw [if_pos hl', decide_eq_true (show (i : Int) < 200 from by omega)]
    ·
     simp only [rehearsalref04_Small.j1]
     rw [if_pos trivial, if_pos (by omega), if_pos hl', rdN l i hl, if_pos (by omega)]
  ·
   obtain ⟨b, hb, hs⟩ := fin i n (fun _ q hq => hg q hq (by omega))
   refine ⟨b, Evt.const 1 (fun k hk => ?_), hs⟩
   obtain ⟨m, rfl⟩ : ∃ m, k = m + 1 := ⟨k - 1, by omega⟩
   simp only [rehearsalref04_Small.l0]
   rw [if_neg (by omega)]; exact hb m
theorem small_ev (l : List Nod) (a1 a2 a3 : Int) : ∃ b, Evt (fun k => rehearsalref04_Small.f k l a1 a2 a3) b ∧ (b = true → SmallOK l) := by
 by_cases h : a1 > 1099511627776
 ·
  exact ⟨false, Evt.const0 (fun k => by unfold rehearsalref04_Small.f; rw [if_pos h]), fun h => by cases h⟩
 ·
  obtain ⟨b, hb, hs⟩ := small_l0 l a1 a2 a3 200 0 0 (by omega) (by omega) (by omega) (fun q _ h => by omega)
  obtain ⟨K, hK⟩ := hb
  exact ⟨b, ⟨K, fun k hk => by show rehearsalref04_Small.f k l a1 a2 a3 = _; unfold rehearsalref04_Small.f; rw [if_neg h]; exact hK k hk⟩, hs⟩
theorem small_e {l : List Nod} (h : SmallOK l) : eB l = true := eB_of (fun h1 x hx => by
 rcases h with ⟨_, h⟩ | h
 ·
  have := (h x hx).1; omega
 ·
  omega)
theorem awake_ev : Evt (fun k => rehearsallaw04_awake.f k) true := Evt.const0 (fun _ => rfl)
end Go.Proofs.YtnpnablnnfekkaaDoor.PTr
set_option linter.unusedVariables false
set_option linter.unusedSimpArgs false
namespace Go.Proofs.YtnpnablnnfekkaaDoor.PTr
open Go.RowKit Go.Proofs.YtnpnablnnfekkaaDoor Go.Proofs.YtnpnablnnfekkaaDoorW.PrintWords
def renE (ρ : Int → Int) (e : Ent) : Ent := ⟨e.f0, ρ e.f1⟩
def renN (ρ : Int → Int) (x : Nod) : Nod := ⟨ρ x.f0, x.f1, x.f2, x.f3, x.f4, x.f5, x.f6.map (renE ρ)⟩
structure Ren (ρ : Int → Int) (l l' : List Nod) : Prop where
 inj : ∀ a ∈ idsL l, ∀ b ∈ idsL l, ρ a = ρ b → a = b
 node : ∀ id ∈ idsL l, nodeL l' (ρ id) = (nodeL l id).map (renN ρ)
 ids : ∀ y, y ∈ idsL l' → ∃ x ∈ idsL l, ρ x = y
 ids' : ∀ x ∈ idsL l, ρ x ∈ idsL l'
 len : l'.length = l.length
 nd : (idsL l).Nodup
 nd' : (idsL l').Nodup
 one : ρ 1 = 1
 cl : ∀ x ∈ l, ∀ e ∈ x.f6, e.f1 ∈ idsL l
theorem nodeL_mem {l : List Nod} {id : Int} {x : Nod} (h : nodeL l id = some x) : x ∈ l ∧ x.f0 = id := by
 unfold nodeL at h
 exact ⟨List.mem_of_find?_eq_some h, by simpa using List.find?_some h⟩
theorem nodeL_some {l : List Nod} {id : Int} (h : id ∈ idsL l) : ∃ x, nodeL l id = some x := by
 cases hn : nodeL l id with
 | some x => exact ⟨x, rfl⟩
 | none =>
  obtain ⟨x, hx, he⟩ := mem_ids.1 h
  unfold nodeL at hn
  rw [List.find?_eq_none] at hn
  have := hn x hx
  simp [he] at this
theorem canN_at {l : List Nod} {a1 : Int} (h : chk l a1 = 0) (i : Nat) (hi : i < ((wid l a1).map (·.1)).length) :
  ∃ x, nodeL l ((wid l a1).map (·.1))[i] = some x ∧ nodN l ((wid l a1).map (·.1)) i = ⟨((i + 1 : Nat) : Int), x.f1, x.f2, x.f3, x.f4, x.f5, x.f6.map (entN ((wid l a1).map (·.1)))⟩ := by
 obtain ⟨hnd, hsub, hlen⟩ := wid_props l a1
 obtain ⟨x, hx⟩ := nodeL_some (hsub _ (List.getElem_mem hi))
 refine ⟨x, hx, ?_⟩
 unfold nodN
 rw [rd_int _ i hi, hx]
 simp only []
 rw [show wrap64 ((i : Int) + 1) = ((i + 1 : Nat) : Int) from by unfold wrap64; omega]
theorem canN_len (l : List Nod) (ids : List Int) : (canN l ids).length = ids.length := by unfold canN; rw [List.length_map, List.length_range]
theorem canN_get (l : List Nod) (ids : List Int) (i : Nat) (hi : i < (canN l ids).length) : (canN l ids)[i] = nodN l ids i := by
 have h : (canN l ids)[i]? = some (nodN l ids i) := by
  unfold canN
  rw [List.getElem?_map, List.getElem?_range (by rw [canN_len] at hi; exact hi)]; rfl
 exact Option.some.inj ((List.getElem?_eq_getElem hi).symm.trans h)
end Go.Proofs.YtnpnablnnfekkaaDoor.PTr
set_option linter.unusedVariables false
set_option linter.unusedSimpArgs false
namespace Go.Proofs.YtnpnablnnfekkaaDoor.PTr
open Go.RowKit Go.Proofs.YtnpnablnnfekkaaDoor Go.Proofs.YtnpnablnnfekkaaDoorW.PrintWords Go.Proofs.YtnpnablnnfekkaaDoorW.PrintLast Go.Proofs.YtnpnablnnfekkaaDoorW.PrintMore
def zTb : Array Value := #[.slice none 0 0, .int .i64 0, .int .i64 0, .int .i64 0]
structure BSt (w0 w : World) (g : Nat) (v : Value) (l : List S44) (b1 b2 b3 : Int) : Prop where
 hb : Below w0.heap.size w0 w
 eg : w0.heap.size ≤ g
 b : w.heap[g]? = some (.cells #[v, .int .i64 b1, .int .i64 b2, .int .i64 b3] 26 (0, 0))
 s : Kd.S k44 44 w w0.heap.size (fun _ => True) v l
theorem BSt.below {w0 w w' : World} {g : Nat} {v : Value} {l : List S44} {b1 b2 b3 : Int} (h : BSt w0 w g v l b1 b2 b3) (hb : Below w.heap.size w w') : BSt w0 w' g v l b1 b2 b3 :=
 ⟨below_step h.hb hb, h.eg, blk_below h.b hb, Kd.S_below h.s hb⟩
theorem put4b {w : World} {g t : Nat} {y0 y1 y2 y3 : Value} (h : w.heap[g]? = some (.cells #[y0, y1, y2, y3] t (0, 0))) (x0 x1 x2 x3 : Value) : ((((w.setCell ⟨g, 0, none⟩ x0).setCell ⟨g, 1, none⟩ x1).setCell ⟨g, 2, none⟩ x2).setCell ⟨g, 3, none⟩ x3).heap[g]? = some (.cells #[x0, x1, x2, x3] t (0, 0)) :=
 blk_put (blk_put (blk_put (blk_put h 0 x0 (cs' := #[x0, y1, y2, y3]) rfl) 1 x1 (cs' := #[x0, x1, y2, y3]) rfl) 2 x2 (cs' := #[x0, x1, x2, y3]) rfl) 3 x3 (cs' := #[x0, x1, x2, x3]) rfl
theorem put4Sb {w : World} {g base : Nat} {y0 y1 y2 y3 u : Value} {out : List S44} (hs : Kd.S k44 44 w base (fun _ => True) u out) (h : w.heap[g]? = some (.cells #[y0, y1, y2, y3] 26 (0, 0))) (x0 x1 x2 x3 : Value) : Kd.S k44 44 ((((w.setCell ⟨g, 0, none⟩ x0).setCell ⟨g, 1, none⟩ x1).setCell ⟨g, 2, none⟩ x2).setCell ⟨g, 3, none⟩ x3) base (fun _ => True) u out := by
 have b1 := blk_put h 0 x0 (cs' := #[x0, y1, y2, y3]) rfl
 have b2 := blk_put b1 1 x1 (cs' := #[x0, x1, y2, y3]) rfl
 have b3 := blk_put b2 2 x2 (cs' := #[x0, x1, x2, y3]) rfl
 exact Kd.S_set (Kd.S_set (Kd.S_set (Kd.S_set hs h (by decide) 0 _) b1 (by decide) 1 _) b2 (by decide) 2 _) b3 (by decide) 3 _
theorem sizeTb : (Tryd.prog.info? 26).map (·.size) = some 4 := by kernel_rfl
theorem celT_one (b1 b2 b3 : Int) (A : Option Addr) (n c : Nat) : (#[.slice A n c, .int .i64 b1, .int .i64 b2, .int .i64 b3] : Array Value).all (·.oneCell') = true := by
 simp only [List.all_toArray]; rfl
theorem BSt.init {w0 w w1 : World} {g : Nat} {v : Value} {l : List S44} (hb : Below w0.heap.size w0 w) (hs : Kd.S k44 44 w w0.heap.size (fun _ => True) v l) (hw : Below w.heap.size w w1) (hz : w1.heap[g]? = some (.cells zTb 26 (0, 0))) (hg : g = w.heap.size) (b1 b2 b3 : Int) :
  BSt w0 (w1.setCells g 0 (#[v, .int .i64 b1, .int .i64 b2, .int .i64 b3] : Array Value).toList) g v l b1 b2 b3 := by
 have e : w0.heap.size ≤ g := by rw [hg]; exact below_size hb
 have h0 : w1.heap[g]? = some (.cells #[.slice none 0 0, .int .i64 0, .int .i64 0, .int .i64 0] 26 (0, 0)) := hz
 exact ⟨below_set (below_set (below_set (below_set (below_step hb hw) e) e) e) e, e, put4b h0 _ _ _ _, put4Sb (Kd.S_below hs hw) h0 _ _ _ _⟩
/-- another box, beside -/
theorem BSt.beside {w0 w w1 : World} {g g' : Nat} {v : Value} {l : List S44} {b1 b2 b3 : Int} (h : BSt w0 w g v l b1 b2 b3) (hw : Below w.heap.size w w1) (hz : w1.heap[g']? = some (.cells zTb 26 (0, 0))) (hg : g' = w.heap.size) (x0 x1 x2 x3 : Value) :
  BSt w0 (w1.setCells g' 0 (#[x0, x1, x2, x3] : Array Value).toList) g v l b1 b2 b3 := by
 have h1 := h.below hw
 have h0 : w1.heap[g']? = some (.cells #[.slice none 0 0, .int .i64 0, .int .i64 0, .int .i64 0] 26 (0, 0)) := hz
 have e : w0.heap.size ≤ g' := by rw [hg]; exact below_size h.hb
 have ne : g ≠ g' := by rw [hg]; exact Nat.ne_of_lt (blk_lt h.b)
 exact ⟨below_set (below_set (below_set (below_set h1.hb e) e) e) e, h1.eg, blk_far (blk_far (blk_far (blk_far h1.b ne _) ne _) ne _) ne _, put4Sb h1.s h0 _ _ _ _⟩
theorem store_tree {ops : Array Oper} {rest : List Oper} {op : Oper} {a : Act} {Q : Exit → Act → World → Prop} {w1 : World} {g : Nat} {b1 b2 b3 : Int} {A : Option Addr} {n c : Nat} (hgd : op.guard = none) (hd : op.dst = none) (x y : Operand) (ho : op.op = .store 26 x y)
  (hx : a.eval x = .pointer (some ⟨g, 0, none⟩)) (hy : a.eval y = .agg #[.slice A n c, .int .i64 b1, .int .i64 b2, .int .i64 b3]) (hz : w1.heap[g]? = some (.cells zTb 26 (0, 0)))
  (h : wpList Tryd.prog ops Q rest (a.put none undef) (w1.setCells g 0 (#[.slice A n c, .int .i64 b1, .int .i64 b2, .int .i64 b3] : Array Value).toList)) : wpList Tryd.prog ops Q (op :: rest) a w1 := by
 refine wpList_store_mid hgd 26 x y ho g 0 (#[.slice A n c, .int .i64 b1, .int .i64 b2, .int .i64 b3]) hx hy (there_of hz (Nat.le_refl 4)) sizeTb (celT_one _ _ _ _ _ _) ?_
 rw [hd]
 exact h
end Go.Proofs.YtnpnablnnfekkaaDoor.PTr
set_option linter.unusedVariables false
set_option linter.unusedSimpArgs false
namespace Go.Proofs.YtnpnablnnfekkaaDoor.PTr
open Go.RowKit Go.Proofs.YtnpnablnnfekkaaDoor Go.Proofs.YtnpnablnnfekkaaDoorW.PrintWords Go.Proofs.YtnpnablnnfekkaaDoorW.PrintLast Go.Proofs.YtnpnablnnfekkaaDoorW.PrintMore
structure RSt (w0 w : World) (g1 g2 : Nat) (T : Array Value) (v4 : Value) (W : List S87) : Prop where
 hb : Below w0.heap.size w0 w
 b1 : w.heap[g1]? = some (.cells T 26 (0, 0))
 b2 : w.heap[g2]? = some (.cells zT 26 (0, 0))
 e1 : w0.heap.size ≤ g1
 e2 : w0.heap.size ≤ g2
 q : Kd.R k87 87 w w0.heap.size (fun _ => True) v4 W
theorem RSt.below {w0 w w' : World} {g1 g2 : Nat} {T : Array Value} {v4 : Value} {W : List S87} (h : RSt w0 w g1 g2 T v4 W) (hb : Below w.heap.size w w') : RSt w0 w' g1 g2 T v4 W :=
 ⟨below_step h.hb hb, blk_below h.b1 hb, blk_below h.b2 hb, h.e1, h.e2, Kd.R_below h.q hb⟩
theorem RSt.grown {w0 w w' : World} {g1 g2 : Nat} {T : Array Value} {v4 : Value} {W : List S87} (h : RSt w0 w g1 g2 T v4 W) {base : Nat} {ok : Nat → Prop} {u : Value} {out : List Nod} (hs : Kd.S k44 44 w base ok u out) (hb : Below w0.heap.size w0 w') (hg : w.grownBy w' u.ownBlock) : RSt w0 w' g1 g2 T v4 W :=
 ⟨hb, blk_grown h.b1 hg (Kd.S_ne hs h.b1 (by decide)), blk_grown h.b2 hg (Kd.S_ne hs h.b2 (by decide)), h.e1, h.e2, Kd.R_over' h.q (Kd.S_typed hs) (by decide) hg⟩
theorem RSt.far {w0 w : World} {g1 g2 : Nat} {T : Array Value} {v4 : Value} {W : List S87} (h : RSt w0 w g1 g2 T v4 W) {g : Nat} {cs : Array Value} (hg : w.heap[g]? = some (.cells cs 26 (0, 0))) (h0 : w0.heap.size ≤ g) (n1 : g1 ≠ g) (n2 : g2 ≠ g) (i : Nat) (x : Value) : RSt w0 (w.setCell ⟨g, i, none⟩ x) g1 g2 T v4 W :=
 ⟨below_set h.hb h0, blk_far h.b1 n1 x, blk_far h.b2 n2 x, h.e1, h.e2, Kd.R_set h.q hg (by decide) i x⟩
structure ROt (w0 w : World) (g1 g2 g5 : Nat) (T : Array Value) (v4 : Value) (W : List S87) (u : Value) (out : List Nod) (n8 r1 r2 : Int) : Prop where
 c : RSt w0 w g1 g2 T v4 W
 b5 : w.heap[g5]? = some (.cells #[u, .int .i64 n8, .int .i64 r1, .int .i64 r2] 26 (0, 0))
 e5 : w0.heap.size ≤ g5
 n1 : g1 ≠ g5
 n2 : g2 ≠ g5
 s : Kd.S k44 44 w w0.heap.size (fun _ => True) u out
theorem ROt.below {w0 w w' : World} {g1 g2 g5 : Nat} {T : Array Value} {v4 u : Value} {W : List S87} {out : List Nod} {n8 r1 r2 : Int} (h : ROt w0 w g1 g2 g5 T v4 W u out n8 r1 r2) (hb : Below w.heap.size w w') : ROt w0 w' g1 g2 g5 T v4 W u out n8 r1 r2 :=
 ⟨h.c.below hb, blk_below h.b5 hb, h.e5, h.n1, h.n2, Kd.S_below h.s hb⟩
theorem ROt.init {w0 w w1 : World} {g1 g2 g5 : Nat} {T : Array Value} {v4 : Value} {W : List S87} (h : RSt w0 w g1 g2 T v4 W) (hw : Below w.heap.size w w1) (hz : w1.heap[g5]? = some (.cells zTb 26 (0, 0))) (hg : g5 = w.heap.size) (n8 r1 r2 : Int) :
  ROt w0 (w1.setCells g5 0 (#[.slice none 0 0, .int .i64 n8, .int .i64 r1, .int .i64 r2] : Array Value).toList) g1 g2 g5 T v4 W (.slice none 0 0) [] n8 r1 r2 := by
 have h0 := h.below hw
 have e5 : w0.heap.size ≤ g5 := by rw [hg]; exact below_size h.hb
 have n1 : g1 ≠ g5 := by rw [hg]; exact Nat.ne_of_lt (blk_lt h.b1)
 have n2 : g2 ≠ g5 := by rw [hg]; exact Nat.ne_of_lt (blk_lt h.b2)
 have b0 : w1.heap[g5]? = some (.cells #[.slice none 0 0, .int .i64 0, .int .i64 0, .int .i64 0] 26 (0, 0)) := hz
 have b1 := blk_put b0 0 (.slice none 0 0) (cs' := #[.slice none 0 0, .int .i64 0, .int .i64 0, .int .i64 0]) rfl
 have b2 := blk_put b1 1 (.int .i64 n8) (cs' := #[.slice none 0 0, .int .i64 n8, .int .i64 0, .int .i64 0]) rfl
 have b3 := blk_put b2 2 (.int .i64 r1) (cs' := #[.slice none 0 0, .int .i64 n8, .int .i64 r1, .int .i64 0]) rfl
 have b4 := blk_put b3 3 (.int .i64 r2) (cs' := #[.slice none 0 0, .int .i64 n8, .int .i64 r1, .int .i64 r2]) rfl
 exact ⟨(((h0.far b0 e5 n1 n2 0 _).far b1 e5 n1 n2 1 _).far b2 e5 n1 n2 2 _).far b3 e5 n1 n2 3 _, b4, e5, n1, n2, Kd.S_nil _ _ _ _ _⟩
theorem ROt.push {w0 w w1 : World} {g1 g2 g5 : Nat} {T : Array Value} {v4 u u1 : Value} {W : List S87} {out out1 : List Nod} {n8 r1 r2 : Int} (h : ROt w0 w g1 g2 g5 T v4 W u out n8 r1 r2) (hs : Kd.S k44 44 w1 w0.heap.size (fun _ => True) u1 out1) (hb : Below w0.heap.size w0 w1) (hg : w.grownBy w1 u.ownBlock) :
  ROt w0 (w1.setCell ⟨g5, 0, none⟩ u1) g1 g2 g5 T v4 W u1 out1 n8 r1 r2 := by
 have b5 := blk_grown h.b5 hg (Kd.S_ne h.s h.b5 (by decide))
 exact ⟨(h.c.grown h.s hb hg).far b5 h.e5 h.n1 h.n2 0 u1, blk_put b5 0 u1 rfl, h.e5, h.n1, h.n2, Kd.S_set hs b5 (by decide) 0 u1⟩
structure RNd (wr w : World) (gb : Nat) (x0 x1 x2 x3 x4 : Int) (x5 : ByteArray) (u6 v8 : Value) (es : List Ent) : Prop where
 hb : Below wr.heap.size wr w
 bn : w.heap[gb]? = some (.cells #[.int .i64 x0, .int .i64 x1, .int .i64 x2, .int .i64 x3, .int .i64 x4, .string x5, u6] 44 (0, 0))
 en : wr.heap.size ≤ gb
 r : Kd.R k61 61 w wr.heap.size (fun _ => True) v8 es
theorem RNd.init {wr w6 : World} {gb : Nat} (hz : w6.heap[gb]? = some (.cells zN 44 (0, 0))) (hb : Below wr.heap.size wr w6) (hg : wr.heap.size ≤ gb) (x0 x1 x2 x3 x4 : Int) (x5 : ByteArray) (u6 : Value) :
  RNd wr (((((((w6.setCell ⟨gb, 0, none⟩ (.int .i64 x0)).setCell ⟨gb, 1, none⟩ (.int .i64 x1)).setCell ⟨gb, 2, none⟩ (.int .i64 x2)).setCell ⟨gb, 3, none⟩ (.int .i64 x3)).setCell ⟨gb, 4, none⟩ (.int .i64 x4)).setCell ⟨gb, 5, none⟩ (.string x5)).setCell ⟨gb, 6, none⟩ u6) gb x0 x1 x2 x3 x4 x5 u6 (.slice none 0 0) [] :=
 ⟨setCells_below (x0 := x0) (x1 := x1) (x2 := x2) (x3 := x3) (x4 := x4) (x5 := x5) (u := u6) hb hg, setCells_blk (x0 := x0) (x1 := x1) (x2 := x2) (x3 := x3) (x4 := x4) (x5 := x5) (u := u6) hz, hg, Kd.R_nil _ _ _ _ _⟩
theorem RNd.below {wr w w' : World} {gb : Nat} {x0 x1 x2 x3 x4 : Int} {x5 : ByteArray} {u6 v8 : Value} {es : List Ent} (h : RNd wr w gb x0 x1 x2 x3 x4 x5 u6 v8 es) (hb : Below w.heap.size w w') : RNd wr w' gb x0 x1 x2 x3 x4 x5 u6 v8 es :=
 ⟨below_step h.hb hb, blk_below h.bn hb, h.en, Kd.R_below h.r hb⟩
theorem RNd.setId {wr w : World} {gb : Nat} {y x1 x2 x3 x4 : Int} {x5 : ByteArray} {u6 v8 : Value} {es : List Ent} (h : RNd wr w gb y x1 x2 x3 x4 x5 u6 v8 es) (x0 : Int) : RNd wr (w.setCell ⟨gb, 0, none⟩ (.int .i64 x0)) gb x0 x1 x2 x3 x4 x5 u6 v8 es :=
 ⟨below_set h.hb h.en, blk_put h.bn 0 (.int .i64 x0) rfl, h.en, Kd.R_set h.r h.bn (by decide) 0 _⟩
theorem RNd.setE {wr w : World} {gb : Nat} {x0 x1 x2 x3 x4 : Int} {x5 : ByteArray} {u6 v8 : Value} {es : List Ent} (h : RNd wr w gb x0 x1 x2 x3 x4 x5 u6 v8 es) : RNd wr (w.setCell ⟨gb, 6, none⟩ v8) gb x0 x1 x2 x3 x4 x5 v8 v8 es :=
 ⟨below_set h.hb h.en, blk_put h.bn 6 v8 rfl, h.en, Kd.R_set h.r h.bn (by decide) 6 _⟩
theorem RNd.grow {wr w w1 : World} {gb : Nat} {x0 x1 x2 x3 x4 : Int} {x5 : ByteArray} {u6 v8 v1 : Value} {es es1 : List Ent} (h : RNd wr w gb x0 x1 x2 x3 x4 x5 u6 v8 es) (hr : Kd.R k61 61 w1 wr.heap.size (fun _ => True) v1 es1) (hb : Below wr.heap.size wr w1) (hg : w.grownBy w1 v8.ownBlock) : RNd wr w1 gb x0 x1 x2 x3 x4 x5 u6 v1 es1 :=
 ⟨hb, blk_grown h.bn hg (Kd.R_ne h.r h.bn (by decide)), h.en, hr⟩
set_option maxHeartbeats 8000000 in
set_option maxRecDepth 100000 in
theorem rcanon_any (A : Option Addr) (c : Nat) (l : List Nod) (a1 a2 a3 : Int) (w : World) (hr0 : Kd.C k44 w A l.length l) (hc00 : l.length ≤ c) (hB : l.length ≤ 512 → Bd l) (hE : eOK l) :
  Calls Tryd.prog 25 #[.agg #[.slice A l.length c, .int .i64 a1, .int .i64 a2, .int .i64 a3]] w fun e w' => ∃ v0_ : Value, e = .returned (.tuple #[.agg #[v0_, .int .i64 (canM l a1 a2 a3).2.1, .int .i64 (canM l a1 a2 a3).2.2.1, .int .i64 (canM l a1 a2 a3).2.2.2.1], .int .i64 (canM l a1 a2 a3).2.2.2.2]) ∧ Kd.S k44 44 w' w.heap.size (fun _ => True) v0_ (canM l a1 a2 a3).1 ∧ Below w.heap.size w w' := by
 have hu26 := Tryd.underlying26
 have hu24 := Tryd.underlying24
 have HC0 := Lib.hid hc00
 have hck : rehearsalref04_Check.f 0 l a1 a2 a3 = some (chk l a1) := by unfold rehearsalref04_Check.f; rw [if_pos hB, chk_same]
 rcases chk_two l a1 with hc | hc
 case inr =>
  have HR0 := Lib.hid hr0
  rw [hc] at hck
  have HCK := Lib.hid hck
  have hcm : canM l a1 a2 a3 = ([], 0, 0, 0, 80) := canM_none (by unfold wid; rw [if_neg (by rw [hc]; decide)]; rfl)
  rw [hcm]
  clear hcm hc hck hr0 hc00 hB hE
  go_enter Tryd.func25, Tryd.ntmps25
  go_wp2_with (first | ((with_reducible refine gate_dst (N := 1) rfl ?_); refine box_event ?hg (N := 1) ?hd (cs := #[.slice A l.length c, .int .i64 a1, .int .i64 a2, .int .i64 a3]) (t := 26) ?hr ?_; (case hd => rfl); (case hg => rfl); (case hr => first | (go_simp; done) | (go_simp; rfl)); intro g1 hg1 w1 hbox hb; have B1 := Lib.hid hbox; have HB1 := Lib.hid (below_step (Below.refl w.heap.size w) hb); have E1 : Hid (w.heap.size ≤ g1) := Lib.hid (by rw [hg1]; exact Nat.le_refl _); clear hbox hb hg1) | ((with_reducible refine gate_dst (N := 2) rfl ?_); refine box_event ?hg (N := 2) ?hd (cs := zT) (t := 26) ?hr ?_; (case hd => rfl); (case hg => rfl); (case hr => first | (go_simp; done) | (go_simp; rfl)); intro g2 hg2 w2 hbox hb; have C1 := Lib.hid (blk_below B1.out hb); have B2 := Lib.hid hbox; have HB2 := Lib.hid (below_step HB1.out hb); have E2 : Hid (w.heap.size ≤ g2) := Lib.hid (by rw [hg2]; exact below_size HB1.out); have d0 : w2.cell? ⟨g1, 0, none⟩ = some (.slice A l.length c) := (blk_cell C1.out 0).trans rfl; have d1 : w2.cell? ⟨g1, 1, none⟩ = some (.int .i64 a1) := (blk_cell C1.out 1).trans rfl; have d2 : w2.cell? ⟨g1, 2, none⟩ = some (.int .i64 a2) := (blk_cell C1.out 2).trans rfl; have d3 : w2.cell? ⟨g1, 3, none⟩ = some (.int .i64 a3) := (blk_cell C1.out 3).trans rfl; clear hbox hb hg2) | (go_at_call 18; (with_reducible refine (rehearsalref04_Check.calls 0 _ _ l a1 a2 a3 80 _ (Kd.C_below HR0.out HB2.out) HC0.out HCK.out).mono ?_); rintro e w3 ⟨rfl, hb⟩; have HB4 := Lib.hid (below_step HB2.out hb); have D2 := Lib.hid (blk_below B2.out hb); clear hb d0 d1 d2 d3; have k0 : w3.cell? ⟨g2, 0, none⟩ = some (.slice none 0 0) := (blk_cell D2.out 0).trans rfl; have k1 : w3.cell? ⟨g2, 1, none⟩ = some (.int .i64 0) := (blk_cell D2.out 1).trans rfl; have k2 : w3.cell? ⟨g2, 2, none⟩ = some (.int .i64 0) := (blk_cell D2.out 2).trans rfl; have k3 : w3.cell? ⟨g2, 3, none⟩ = some (.int .i64 0) := (blk_cell D2.out 3).trans rfl; have f0 := blk_frozen D2.out 0; have f1 := blk_frozen D2.out 1; have f2 := blk_frozen D2.out 2; have f3 := blk_frozen D2.out 3))
  refine bodyPost_ret (results_ct rfl _ _ g2 26 #[.slice none 0 0, .int .i64 0, .int .i64 0, .int .i64 0] (0, 0) _ rfl (put4 D2.out _ _ _ _) Tryd.underlying26 rfl (by kernel_rfl)) rfl ?_
  exact ⟨_, rfl, Kd.S_nil _ _ _ _ _, below_set (below_set (below_set (below_set HB4.out E2.out) E2.out) E2.out) E2.out⟩
 case inl =>
  rw [hc] at hck
  have HCK := Lib.hid hck
  obtain ⟨hfl, hfull, _, htl⟩ := wid_full hc
  obtain ⟨hh, hn, hll, hrs, hcl, hN, h1⟩ := chk_facts hc
  have hpr := wid_props l a1
  obtain ⟨h0l, _, _⟩ := one_in hh
  have hcm := canM_some (l := l) (a1 := a1) (a2 := a2) (a3 := a3) (by rw [htl]; simp)
  obtain ⟨KW, hKW⟩ := rway_ev l a1 a2 a3 hc (fun x hx => (hB hll x hx).2.1)
  have hWi : ∀ j, j < ((wid l a1).map (·.1)).length → (rd_T87 ((wid l a1).map toW) (j : Int)).f0 = rd ((wid l a1).map (·.1)) (j : Int) := fun j h => by
   have h' : j < (wid l a1).length := by simpa using h
   rw [rdW _ j (by simpa using h'), rd_int _ j h, List.getElem_map, List.getElem_map]; rfl
  have hWl : ((wid l a1).map toW).length = ((wid l a1).map (·.1)).length := by rw [List.length_map, List.length_map]
  rw [hcm]
  generalize hids : (wid l a1).map (·.1) = ids at hcm hpr hWi hWl hfull ⊢
  generalize (wid l a1).map toW = W at hKW hWi hWl
  have HWY := Lib.hid (hKW KW (Nat.le_refl _))
  have HWL := Lib.hid hWl
  have HWI := Lib.hid hWi
  have HLN : Hid (ids.length ≤ 512) := Lib.hid hpr.2.2
  have HGET : Hid (∀ i (h : i < ids.length), ∃ (x : Nod) (t : Nat), t < l.length ∧ rd_T44 l (t : Int) = x ∧ rehearsalref04_Place.f (l.length + 1) l a1 a2 a3 (rd ids (i : Int)) = some (t : Int) ∧ nodN l ids i = ⟨wrap64 ((i : Int) + 1), x.f1, x.f2, x.f3, x.f4, x.f5, x.f6.map (entN ids)⟩ ∧ x.f6.length ≤ 1000000000000 ∧ ∀ q (hq : q < x.f6.length), ∃ j0, j0 < ids.length ∧ (∀ j, j < ids.length → (rd ids (j : Int) = x.f6[q].f1 ↔ j = j0)) ∧ entN ids x.f6[q] = ⟨x.f6[q].f0, ((j0 + 1 : Nat) : Int)⟩) :=
   Lib.hid (fun i h => by
    obtain ⟨t, ht, hpl, hnl⟩ := pl_node hrs (hpr.2.1 _ (List.getElem_mem h))
    refine ⟨l[t], t, ht, rdN l t ht, ?_, ?_, hE hll _ (List.getElem_mem ht), fun q hq => ?_⟩
    ·
     rw [rd_int ids i h, place_ref l a1 a2 a3 _ (by omega) _ (by omega), hpl]
    ·
     unfold nodN; rw [rd_int ids i h, hnl]
    ·
     obtain ⟨j0, hj0, hje⟩ := List.getElem_of_mem (hfull _ (hcl _ (List.getElem_mem ht) _ (List.getElem_mem hq)))
     refine ⟨j0, hj0, fun j hj => ?_, ?_⟩
     ·
      rw [rd_int ids j hj, ← hje]
      exact ⟨fun e => nd_inj hpr.1 hj hj0 e, fun e => by subst e; rfl⟩
     ·
      unfold entN
      rw [← hje, toMn_get ids hpr.1 hpr.2.2 ids.length (Nat.le_refl _) j0 hj0 hj0])
  obtain ⟨ad, A0, c0, ea, _⟩ := at_T44 hr0 0 (by omega) (by omega)
  cases ea
  have HR0 := Lib.hid hr0
  have HL0 : Hid (0 < l.length ∧ l.length ≤ 512) := Lib.hid ⟨h0l, hll⟩
  clear hcm hc hck hr0 hc00 hB hE hfl hfull htl hh hn hll hrs hcl hN h1 hpr hKW hWi hWl hids
  go_enter Tryd.func25, Tryd.ntmps25
  go_wp2_with (first | ((with_reducible refine gate_dst (N := 1) rfl ?_); refine box_event ?hg (N := 1) ?hd (cs := #[.slice (some ad) l.length c, .int .i64 a1, .int .i64 a2, .int .i64 a3]) (t := 26) ?hr ?_; (case hd => rfl); (case hg => rfl); (case hr => first | (go_simp; done) | (go_simp; rfl)); intro g1 hg1 w1 hbox hb; have B1 := Lib.hid hbox; have HB1 := Lib.hid (below_step (Below.refl w.heap.size w) hb); have E1 : Hid (w.heap.size ≤ g1) := Lib.hid (by rw [hg1]; exact Nat.le_refl _); clear hbox hb hg1) | ((with_reducible refine gate_dst (N := 2) rfl ?_); refine box_event ?hg (N := 2) ?hd (cs := zT) (t := 26) ?hr ?_; (case hd => rfl); (case hg => rfl); (case hr => first | (go_simp; done) | (go_simp; rfl)); intro g2 hg2 w2 hbox hb; have C1 := Lib.hid (blk_below B1.out hb); have B2 := Lib.hid hbox; have HB2 := Lib.hid (below_step HB1.out hb); have E2 : Hid (w.heap.size ≤ g2) := Lib.hid (by rw [hg2]; exact below_size HB1.out); have d0 : w2.cell? ⟨g1, 0, none⟩ = some (.slice (some ad) l.length c) := (blk_cell C1.out 0).trans rfl; have d1 : w2.cell? ⟨g1, 1, none⟩ = some (.int .i64 a1) := (blk_cell C1.out 1).trans rfl; have d2 : w2.cell? ⟨g1, 2, none⟩ = some (.int .i64 a2) := (blk_cell C1.out 2).trans rfl; have d3 : w2.cell? ⟨g1, 3, none⟩ = some (.int .i64 a3) := (blk_cell C1.out 3).trans rfl; clear hbox hb hg2) | (go_at_call 18; (with_reducible refine (rehearsalref04_Check.calls 0 _ _ l a1 a2 a3 0 _ (Kd.C_below HR0.out HB2.out) HC0.out HCK.out).mono ?_); rintro e w3 ⟨rfl, hb⟩; have HB3 := Lib.hid (below_step HB2.out hb); have C3 := Lib.hid (blk_below C1.out hb); have D3 := Lib.hid (blk_below B2.out hb); clear hb d0 d1 d2 d3 B1 B2 C1 HB1 HB2; have d0 : w3.cell? ⟨g1, 0, none⟩ = some (.slice (some ad) l.length c) := (blk_cell C3.out 0).trans rfl; have d1 : w3.cell? ⟨g1, 1, none⟩ = some (.int .i64 a1) := (blk_cell C3.out 1).trans rfl; have d2 : w3.cell? ⟨g1, 2, none⟩ = some (.int .i64 a2) := (blk_cell C3.out 2).trans rfl; have d3 : w3.cell? ⟨g1, 3, none⟩ = some (.int .i64 a3) := (blk_cell C3.out 3).trans rfl) | (go_at_call 62; (with_reducible refine (rehearsalref04_Way.calls KW _ _ l a1 a2 a3 1 (⟨#[47]⟩ : ByteArray) (fun _ => False) (.slice none 0 0) [] W w _ HB3.out (Kd.C_kept_came k44_heap HR0.out HB3.out (fun _ h => h.elim)) HC0.out (Kd.R_nil _ _ _ _ _) HWY.out).mono ?_); rintro e w4 ⟨v4, rfl, ho4, hb4, hk4⟩; obtain ⟨A4, c4, e4⟩ := Kd.R_slice ho4; rw [HWL.out] at e4; subst e4; have RS : Hid (RSt w w4 g1 g2 #[.slice (some ad) l.length c, .int .i64 a1, .int .i64 a2, .int .i64 a3] (.slice A4 ids.length c4) W) := Lib.hid ⟨hb4, blk_kept C3.out hk4 (fun h => h), blk_kept D3.out hk4 (fun h => h), E1.out, E2.out, Kd.R_mono ho4 (fun _ _ => trivial)⟩; clear ho4 hb4 hk4 C3 D3 HB3 d0 d1 d2 d3; have d2 : w4.cell? ⟨g1, 2, none⟩ = some (.int .i64 a2) := (blk_cell RS.out.b1 2).trans rfl; have d3 : w4.cell? ⟨g1, 3, none⟩ = some (.int .i64 a3) := (blk_cell RS.out.b1 3).trans rfl) | ((with_reducible refine gate_dst (N := 5) rfl ?_); refine box_event ?hg (N := 5) ?hd (cs := zTb) (t := 26) ?hr ?_; (case hd => rfl); (case hg => rfl); (case hr => first | (go_simp; done) | (go_simp; rfl)); intro g5 hg5 w5 hbox hb; refine store_tree rfl rfl (.tmp 5) (.tmp 21) rfl (A := none) (n := 0) (c := 0) (b1 := (ids.length : Int)) (b2 := a2) (b3 := a3) rfl rfl hbox ?_; have HO := Lib.hid (ROt.init RS.out hb hbox hg5 (ids.length : Int) a2 a3); clear hbox hb hg5 RS d2 d3; generalize w5.setCells _ _ _ = w6 at HO ⊢))
  go_loopw [6] (fun s6 wr => ∃ (i : Nat) (u : Value), i ≤ ids.length ∧ s6 = .int .i64 i ∧ Hid (ROt w wr g1 g2 g5 #[.slice (some ad) l.length c, .int .i64 a1, .int .i64 a2, .int .i64 a3] (.slice A4 ids.length c4) W u ((List.range i).map (nodN l ids)) (ids.length : Int) a2 a3)) (fun s6 _ => ids.length - (intOf s6).toNat)
  case atStart => exact ⟨0, .slice none 0 0, Nat.zero_le _, rfl, HO⟩
  case round =>
   clear HO
   obtain ⟨i, u, hi, rfl, HO⟩ := hrel
   by_cases hlt : i < ids.length
   ·
    obtain ⟨x, t, htl, hrd, hpl, hX, hxl, hent⟩ := HGET.out i hlt
    have HX := Lib.hid hX
    have HX6 := Lib.hid hxl
    have HENT := Lib.hid hent
    have HPL : Hid (rehearsalref04_Place.f (l.length + 1) l a1 a2 a3 (rd ids (i : Int)) = some (t : Int)) := Lib.hid hpl
    obtain ⟨ad', A6, c6, ea, x0, x1, x2, x3, x4, x5, x6, hl6, hi6⟩ := at_T44 HR0.out (t : Int) (by omega) (by omega)
    cases ea
    rw [hrd, Int.toNat_natCast] at x0 x1 x2 x3 x4 x5 x6
    rw [hrd] at hl6 hi6
    have HRE := Lib.hid hi6
    replace x0 := cellB x0 HO.out.c.hb
    replace x1 := cellB x1 HO.out.c.hb
    replace x2 := cellB x2 HO.out.c.hb
    replace x3 := cellB x3 HO.out.c.hb
    replace x4 := cellB x4 HO.out.c.hb
    replace x5 := cellB x5 HO.out.c.hb
    replace x6 := cellB x6 HO.out.c.hb
    obtain ⟨am, ea, m0, _⟩ := at_T87 (Kd.R_reads' HO.out.c.q).2.2 (i : Int) (by omega) (by have := HWL.out; omega)
    cases ea
    rw [Int.toNat_natCast, HWI.out i hlt] at m0
    have i0 : decide (0 ≤ (i : Int)) = true := decide_eq_true (by omega)
    have i1 : decide ((i : Int) < (ids.length : Int)) = true := decide_eq_true (by omega)
    have i2 : decide (0 ≤ (t : Int)) = true := decide_eq_true (by omega)
    have i3 : decide ((t : Int) < (l.length : Int)) = true := decide_eq_true (by omega)
    have i1n : (i < ids.length) = True := eq_true hlt
    have i3n : (t < l.length) = True := eq_true htl
    have HWR : Hid (wrap64 ((i : Int) + 1) = ((i + 1 : Nat) : Int)) := Lib.hid (by have := HLN.out; unfold wrap64; omega)
    have HLT := Lib.hid hlt
    have d0 : wr.cell? ⟨g1, 0, none⟩ = some (.slice (some ad) l.length c) := (blk_cell HO.out.c.b1 0).trans rfl
    have d1 : wr.cell? ⟨g1, 1, none⟩ = some (.int .i64 a1) := (blk_cell HO.out.c.b1 1).trans rfl
    have d2 : wr.cell? ⟨g1, 2, none⟩ = some (.int .i64 a2) := (blk_cell HO.out.c.b1 2).trans rfl
    have d3 : wr.cell? ⟨g1, 3, none⟩ = some (.int .i64 a3) := (blk_cell HO.out.c.b1 3).trans rfl
    clear hi hlt htl hrd hpl hX hxl hent hl6 hi6 HGET
    generalize rd ids (i : Int) = idi at m0 HPL
    go_wp2
    refine start_ (n := 13) (S := (fun w' => w'.cell? ⟨g1, 0, none⟩ = some (.slice (some ad) l.length c) ∧ w'.cell? ⟨g1, 1, none⟩ = some (.int .i64 a1) ∧ w'.cell? ⟨g1, 2, none⟩ = some (.int .i64 a2) ∧ w'.cell? ⟨g1, 3, none⟩ = some (.int .i64 a3) ∧ w'.cell? (am.add (i * 2)) = some (.int .i64 idi) ∧ w'.cell? (ad.add (t * 7)) = some (.int .i64 x.f0) ∧ w'.cell? ⟨(ad.add (t * 7)).block, (ad.add (t * 7)).off + 1, none⟩ = some (.int .i64 x.f1) ∧ w'.cell? ⟨(ad.add (t * 7)).block, (ad.add (t * 7)).off + 2, none⟩ = some (.int .i64 x.f2) ∧ w'.cell? ⟨(ad.add (t * 7)).block, (ad.add (t * 7)).off + 3, none⟩ = some (.int .i64 x.f3) ∧ w'.cell? ⟨(ad.add (t * 7)).block, (ad.add (t * 7)).off + 4, none⟩ = some (.int .i64 x.f4) ∧ w'.cell? ⟨(ad.add (t * 7)).block, (ad.add (t * 7)).off + 5, none⟩ = some (.string x.f5) ∧ w'.cell? ⟨(ad.add (t * 7)).block, (ad.add (t * 7)).off + 6, none⟩ = some (.slice A6 x.f6.length c6))) (ds := [12]) #[false, false, false, false, false, false, false, false, false, false, false, false, false] (by kernel_rfl) rfl rfl ⟨d0, d1, d2, d3, m0, x0, x1, x2, x3, x4, x5, x6⟩ (fun hHeld => ?_)
    have HOD := Lib.hid (HO.out.below ((Below.refl _ wr).drew))
    clear HO d0 d1 d2 d3 m0 x0 x1 x2 x3 x4 x5 x6
    generalize World.drew _ = wd at HOD hHeld ⊢
    iterate 5 (first | ((first | refine takeS_ 0 (N := some 28) (v := ?_) (a' := ?_) rfl rfl (by decide +kernel) (fun _ _ _ h => h) (Or.inl ⟨by rfl, ?_⟩) hHeld ?_ ?_ | refine takeS_ 3 (N := some 31) (v := ?_) (a' := ?_) rfl rfl (by decide +kernel) (fun _ _ _ h => h) (Or.inl ⟨by rfl, ?_⟩) hHeld ?_ ?_ | refine takeS_ 4 (N := some 32) (v := ?_) (a' := ?_) rfl rfl (by decide +kernel) (fun _ _ _ h => h) (Or.inl ⟨by rfl, ?_⟩) hHeld ?_ ?_ | refine takeS_ 5 (N := some 33) (v := ?_) (a' := ?_) rfl rfl (by decide +kernel) (fun _ _ _ h => h) (Or.inl ⟨by rfl, ?_⟩) hHeld ?_ ?_ | refine takeS_ 6 (N := some 34) (v := ?_) (a' := ?_) rfl rfl (by decide +kernel) (fun _ _ _ h => h) (Or.inl ⟨by rfl, ?_⟩) hHeld ?_ ?_); rotate_left; (rintro w' ⟨s0, s1, s2, s3, s4, y0, y1, y2, y3, y4, y5, y6⟩; go_simp; first | done | (with_reducible rfl) | rfl); rotate_left; (simp only [Act.put, List.setIfInBounds_toArray, List.set_cons_zero, List.set_cons_succ, i64_w, i32_w]; rfl)) | ((first | refine takeS_ 0 (N := some 28) (v := undef) (a' := ?_) rfl rfl (by decide +kernel) (fun _ _ _ h => h) (Or.inr ⟨by rfl, rfl⟩) hHeld ?_ ?_ | refine takeS_ 3 (N := some 31) (v := undef) (a' := ?_) rfl rfl (by decide +kernel) (fun _ _ _ h => h) (Or.inr ⟨by rfl, rfl⟩) hHeld ?_ ?_ | refine takeS_ 4 (N := some 32) (v := undef) (a' := ?_) rfl rfl (by decide +kernel) (fun _ _ _ h => h) (Or.inr ⟨by rfl, rfl⟩) hHeld ?_ ?_ | refine takeS_ 5 (N := some 33) (v := undef) (a' := ?_) rfl rfl (by decide +kernel) (fun _ _ _ h => h) (Or.inr ⟨by rfl, rfl⟩) hHeld ?_ ?_ | refine takeS_ 6 (N := some 34) (v := undef) (a' := ?_) rfl rfl (by decide +kernel) (fun _ _ _ h => h) (Or.inr ⟨by rfl, rfl⟩) hHeld ?_ ?_); rotate_left; (simp only [Act.put, List.setIfInBounds_toArray, List.set_cons_zero, List.set_cons_succ, i64_w, i32_w]; rfl)))
    iterate 3 (first | ((first | refine takeS_ 1 (N := some 29) (v := ?_) (a' := ?_) rfl rfl (by decide +kernel) (fun _ _ _ h => h) (Or.inl ⟨by rfl, ?_⟩) hHeld ?_ ?_ | refine takeS_ 2 (N := some 30) (v := ?_) (a' := ?_) rfl rfl (by decide +kernel) (fun _ _ _ h => h) (Or.inl ⟨by rfl, ?_⟩) hHeld ?_ ?_ | refine takeS_ 7 (N := some 35) (v := ?_) (a' := ?_) rfl rfl (by decide +kernel) (fun _ _ _ h => h) (Or.inl ⟨by rfl, ?_⟩) hHeld ?_ ?_); rotate_left; (rintro w' ⟨s0, s1, s2, s3, s4, y0, y1, y2, y3, y4, y5, y6⟩; go_simp; first | done | (with_reducible rfl) | rfl); rotate_left; (simp only [Act.put, List.setIfInBounds_toArray, List.set_cons_zero, List.set_cons_succ, i64_w, i32_w]; rfl)) | ((first | refine takeS_ 1 (N := some 29) (v := undef) (a' := ?_) rfl rfl (by decide +kernel) (fun _ _ _ h => h) (Or.inr ⟨by rfl, rfl⟩) hHeld ?_ ?_ | refine takeS_ 2 (N := some 30) (v := undef) (a' := ?_) rfl rfl (by decide +kernel) (fun _ _ _ h => h) (Or.inr ⟨by rfl, rfl⟩) hHeld ?_ ?_ | refine takeS_ 7 (N := some 35) (v := undef) (a' := ?_) rfl rfl (by decide +kernel) (fun _ _ _ h => h) (Or.inr ⟨by rfl, rfl⟩) hHeld ?_ ?_); rotate_left; (simp only [Act.put, List.setIfInBounds_toArray, List.set_cons_zero, List.set_cons_succ, i64_w, i32_w]; rfl)))
    have HBQ : Hid (Below wd.heap.size wd wd) := Lib.hid (Below.refl _ _)
    refine join_ (σ := Nat) 1 #[true, true, true, true, true, true, true, true, true, true, true, true, false] (fun g => [(36, .int .i64 t), (7, .pointer (some ⟨g, 0, none⟩)), (37, .pointer (some (ad.add (t * 7)))), (38, .agg #[.int .i64 x.f0, .int .i64 x.f1, .int .i64 x.f2, .int .i64 x.f3, .int .i64 x.f4, .string x.f5, .slice A6 x.f6.length c6])]) (fun g w' => Below wd.heap.size wd w' ∧ w'.heap[g]? = some (.cells zN 44 (0, 0)) ∧ wd.heap.size ≤ g) ?_ ?_
    rotate_left
    ·
     intro hCont
     refine two_ (i := 8) (j := 11) (Ni := some 36) (Nj := some 7) #[true, true, true, true, true, true, true, true, true, false, false, false, false] #[true, true, true, true, true, true, true, true, false, false, false, true, false] rfl rfl rfl rfl (by decide +kernel) (by decide) (by decide) (fun K hK => ?_) (fun K hK => ?_)
     ·
      refine goes_ Tryd.func61 (by kernel_rfl) rfl #[.agg #[.slice (some ad) l.length c, .int .i64 a1, .int .i64 a2, .int .i64 a3], .int .i64 idi] (by rfl) rfl rfl (by first | rfl | (simp [Act.eval]; done) | (simp [Act.eval, Act.put]; done)) ?_
      refine (rehearsalref04_Place.calls _ _ _ l a1 a2 a3 idi _ _ (Kd.C_below HR0.out HOD.out.c.hb) HC0.out HPL.out).mono ?_
      rintro e w5 ⟨rfl, hb⟩
      refine ⟨_, rfl, ?_⟩
      refine hK.out _ _ (by obtain ⟨s0, s1, s2, s3, s4, y0, y1, y2, y3, y4, y5, y6⟩ := hHeld; exact ⟨cellB s0 hb, cellB s1 hb, cellB s2 hb, cellB s3 hb, cellB s4 hb, cellB y0 hb, cellB y1 hb, cellB y2 hb, cellB y3 hb, cellB y4 hb, cellB y5 hb, cellB y6 hb⟩) (fun hHeld => ?_)
      clear hK K
      have HB5 := Lib.hid hb
      clear hb
      refine norm_ (a' := ?_) ?_ ?_
      rotate_left
      ·
       show Act.put _ (some 36) _ = _
       simp only [Act.put, List.setIfInBounds_toArray, List.set_cons_zero, List.set_cons_succ, i64_w, i32_w]
       rfl
      iterate 2 (first | ((first | refine takeS_ 9 (N := some 37) (v := ?_) (a' := ?_) rfl rfl (by decide +kernel) (fun _ _ _ h => h) (Or.inl ⟨by rfl, ?_⟩) hHeld ?_ ?_ | refine takeS_ 10 (N := some 38) (v := ?_) (a' := ?_) rfl rfl (by decide +kernel) (fun _ _ _ h => h) (Or.inl ⟨by rfl, ?_⟩) hHeld ?_ ?_); rotate_left; (rintro w' ⟨s0, s1, s2, s3, s4, y0, y1, y2, y3, y4, y5, y6⟩; go_simp; first | done | (with_reducible rfl) | rfl); rotate_left; (simp only [Act.put, List.setIfInBounds_toArray, List.set_cons_zero, List.set_cons_succ, i64_w, i32_w]; rfl)) | ((first | refine takeS_ 9 (N := some 37) (v := undef) (a' := ?_) rfl rfl (by decide +kernel) (fun _ _ _ h => h) (Or.inr ⟨by rfl, rfl⟩) hHeld ?_ ?_ | refine takeS_ 10 (N := some 38) (v := undef) (a' := ?_) rfl rfl (by decide +kernel) (fun _ _ _ h => h) (Or.inr ⟨by rfl, rfl⟩) hHeld ?_ ?_); rotate_left; (simp only [Act.put, List.setIfInBounds_toArray, List.set_cons_zero, List.set_cons_succ, i64_w, i32_w]; rfl)))
      refine oneS_ 11 (N := some 7) rfl rfl (by kernel_rfl) (by decide) (fun K hK => ?_)
      refine box_step ?hg (N := 7) ?hd (cs := zN) (t := 44) ?hr ?_; (case hd => rfl); (case hg => rfl); (case hr => first | (go_simp; done) | (go_simp; rfl))
      intro gb hgb w6 hbox hb
      refine hK.out _ _ (by obtain ⟨s0, s1, s2, s3, s4, y0, y1, y2, y3, y4, y5, y6⟩ := hHeld; exact ⟨cellB s0 hb, cellB s1 hb, cellB s2 hb, cellB s3 hb, cellB s4 hb, cellB y0 hb, cellB y1 hb, cellB y2 hb, cellB y3 hb, cellB y4 hb, cellB y5 hb, cellB y6 hb⟩) (fun hHeld => ?_)
      clear hK K
      refine norm_ (a' := ?_) ?_ ?_
      rotate_left
      ·
       show Act.put _ (some 7) _ = _
       simp only [Act.put, List.setIfInBounds_toArray, List.set_cons_zero, List.set_cons_succ, i64_w, i32_w]
       rfl
      exact norm_ (by simp only [putAll, Act.put, List.setIfInBounds_toArray, List.set_cons_zero, List.set_cons_succ]) (hCont gb _ ⟨below_step HB5.out hb, hbox, by rw [hgb]; exact below_size HB5.out⟩)
     ·
      refine box_step ?hg (N := 7) ?hd (cs := zN) (t := 44) ?hr ?_; (case hd => rfl); (case hg => rfl); (case hr => first | (go_simp; done) | (go_simp; rfl))
      intro gb hgb w5 hbox hb
      refine hK.out _ _ (by obtain ⟨s0, s1, s2, s3, s4, y0, y1, y2, y3, y4, y5, y6⟩ := hHeld; exact ⟨cellB s0 hb, cellB s1 hb, cellB s2 hb, cellB s3 hb, cellB s4 hb, cellB y0 hb, cellB y1 hb, cellB y2 hb, cellB y3 hb, cellB y4 hb, cellB y5 hb, cellB y6 hb⟩) (fun hHeld => ?_)
      clear hK K
      have HB5 := Lib.hid hb
      have HZ5 := Lib.hid hbox
      have HG5 : Hid (wd.heap.size ≤ gb) := Lib.hid (by rw [hgb]; exact Nat.le_refl _)
      clear hb hbox hgb
      refine norm_ (a' := ?_) ?_ ?_
      rotate_left
      ·
       show Act.put _ (some 7) _ = _
       simp only [Act.put, List.setIfInBounds_toArray, List.set_cons_zero, List.set_cons_succ, i64_w, i32_w]
       rfl
      refine oneS_ 8 (N := some 36) rfl rfl (by kernel_rfl) (by decide) (fun K hK => ?_)
      refine goes_ Tryd.func61 (by kernel_rfl) rfl #[.agg #[.slice (some ad) l.length c, .int .i64 a1, .int .i64 a2, .int .i64 a3], .int .i64 idi] (by rfl) rfl rfl (by first | rfl | (simp [Act.eval]; done) | (simp [Act.eval, Act.put]; done)) ?_
      refine (rehearsalref04_Place.calls _ _ _ l a1 a2 a3 idi _ _ (Kd.C_below HR0.out (below_step HOD.out.c.hb HB5.out)) HC0.out HPL.out).mono ?_
      rintro e w6 ⟨rfl, hb⟩
      refine ⟨_, rfl, ?_⟩
      refine hK.out _ _ (by obtain ⟨s0, s1, s2, s3, s4, y0, y1, y2, y3, y4, y5, y6⟩ := hHeld; exact ⟨cellB s0 hb, cellB s1 hb, cellB s2 hb, cellB s3 hb, cellB s4 hb, cellB y0 hb, cellB y1 hb, cellB y2 hb, cellB y3 hb, cellB y4 hb, cellB y5 hb, cellB y6 hb⟩) (fun hHeld => ?_)
      clear hK K
      have HB6 := Lib.hid (below_step HB5.out hb)
      have HZ6 := Lib.hid (blk_below HZ5.out hb)
      clear hb
      refine norm_ (a' := ?_) ?_ ?_
      rotate_left
      ·
       show Act.put _ (some 36) _ = _
       simp only [Act.put, List.setIfInBounds_toArray, List.set_cons_zero, List.set_cons_succ, i64_w, i32_w]
       rfl
      iterate 2 (first | ((first | refine takeS_ 9 (N := some 37) (v := ?_) (a' := ?_) rfl rfl (by decide +kernel) (fun _ _ _ h => h) (Or.inl ⟨by rfl, ?_⟩) hHeld ?_ ?_ | refine takeS_ 10 (N := some 38) (v := ?_) (a' := ?_) rfl rfl (by decide +kernel) (fun _ _ _ h => h) (Or.inl ⟨by rfl, ?_⟩) hHeld ?_ ?_); rotate_left; (rintro w' ⟨s0, s1, s2, s3, s4, y0, y1, y2, y3, y4, y5, y6⟩; go_simp; first | done | (with_reducible rfl) | rfl); rotate_left; (simp only [Act.put, List.setIfInBounds_toArray, List.set_cons_zero, List.set_cons_succ, i64_w, i32_w]; rfl)) | ((first | refine takeS_ 9 (N := some 37) (v := undef) (a' := ?_) rfl rfl (by decide +kernel) (fun _ _ _ h => h) (Or.inr ⟨by rfl, rfl⟩) hHeld ?_ ?_ | refine takeS_ 10 (N := some 38) (v := undef) (a' := ?_) rfl rfl (by decide +kernel) (fun _ _ _ h => h) (Or.inr ⟨by rfl, rfl⟩) hHeld ?_ ?_); rotate_left; (simp only [Act.put, List.setIfInBounds_toArray, List.set_cons_zero, List.set_cons_succ, i64_w, i32_w]; rfl)))
      exact norm_ (by simp only [putAll, Act.put, List.setIfInBounds_toArray, List.set_cons_zero, List.set_cons_succ]) (hCont gb _ ⟨HB6.out, HZ6.out, HG5.out⟩)
    rintro gb w6 ⟨hb, hbox, hgb⟩
    have HB6 := Lib.hid hbox
    have HN := Lib.hid (RNd.init hbox hb hgb x.f0 x.f1 x.f2 x.f3 x.f4 x.f5 (.slice A6 x.f6.length c6))
    have HO := HOD
    clear hbox hb hgb HOD HBQ
    refine norm_ (a' := ?_) ?_ ?_
    rotate_left
    ·
     simp only [putAll, Act.put, List.setIfInBounds_toArray, List.set_cons_zero, List.set_cons_succ]
     rfl
    have k0 : w6.cell? ⟨gb, 0, none⟩ = some (.int .i64 0) := (blk_cell HB6.out 0).trans rfl
    have f0 := blk_frozen HB6.out 0
    have k1 : w6.cell? ⟨gb, 1, none⟩ = some (.int .i64 0) := (blk_cell HB6.out 1).trans rfl
    have f1 := blk_frozen HB6.out 1
    have k2 : w6.cell? ⟨gb, 2, none⟩ = some (.int .i64 0) := (blk_cell HB6.out 2).trans rfl
    have f2 := blk_frozen HB6.out 2
    have k3 : w6.cell? ⟨gb, 3, none⟩ = some (.int .i64 0) := (blk_cell HB6.out 3).trans rfl
    have f3 := blk_frozen HB6.out 3
    have k4 : w6.cell? ⟨gb, 4, none⟩ = some (.int .i64 0) := (blk_cell HB6.out 4).trans rfl
    have f4 := blk_frozen HB6.out 4
    have k5 : w6.cell? ⟨gb, 5, none⟩ = some (.string (⟨#[]⟩ : ByteArray)) := (blk_cell HB6.out 5).trans rfl
    have f5 := blk_frozen HB6.out 5
    have k6 : w6.cell? ⟨gb, 6, none⟩ = some (.slice none 0 0) := (blk_cell HB6.out 6).trans rfl
    have f6 := blk_frozen HB6.out 6
    refine lastS_ 12 (N := none) rfl rfl (by kernel_rfl) (by decide) (fun K hK => ?_)
    refine skip_ (w1 := ?_) (by rfl) rfl ?_ ?_
    rotate_left
    ·
     go_simp
     rfl
    refine hK.out _ _ ?_
    clear hK K
    refine done_ (by kernel_rfl) ?_
    clear k0 k1 k2 k3 k4 k5 k6 f0 f1 f2 f3 f4 f5 f6 HB6
    generalize ((((((w6.setCell ⟨gb, 0, none⟩ _).setCell ⟨gb, 1, none⟩ _).setCell ⟨gb, 2, none⟩ _).setCell ⟨gb, 3, none⟩ _).setCell ⟨gb, 4, none⟩ _).setCell ⟨gb, 5, none⟩ _).setCell ⟨gb, 6, none⟩ _ = w7 at HN ⊢
    have z0 : w7.cell? ⟨gb, 0, none⟩ = some (.int .i64 x.f0) := (blk_cell HN.out.bn 0).trans rfl
    have q0 := blk_frozen HN.out.bn 0
    go_upto_region 10 with (fail)
    replace HN := Lib.hid (HN.out.setId (wrap64 ((i : Int) + 1)))
    clear z0 q0
    generalize w7.setCell _ _ = w8 at HN ⊢
    go_wp2
    go_loopw [8, 9] (fun s8 s9 wr => ∃ (q : Nat) (v8 : Value), q ≤ x.f6.length ∧ s8 = v8 ∧ s9 = .int .i64 q ∧ Hid (RNd wd wr gb (wrap64 ((i : Int) + 1)) x.f1 x.f2 x.f3 x.f4 x.f5 (.slice A6 x.f6.length c6) v8 ((x.f6.take q).map (entN ids)))) (fun _ s9 _ => x.f6.length - (intOf s9).toNat)
    case atStart => exact ⟨0, _, Nat.zero_le _, rfl, rfl, HN⟩
    case round =>
     clear HN
     obtain ⟨q, v8, hq, rfl, rfl, HN⟩ := hrel
     have n6 : wr.cell? ⟨gb, 6, none⟩ = some (.slice A6 x.f6.length c6) := (blk_cell HN.out.bn 6).trans rfl
     by_cases hlt : q < x.f6.length
     ·
      obtain ⟨name, node, hen⟩ : ∃ name node, x.f6[q] = ⟨name, node⟩ := ⟨_, _, rfl⟩
      obtain ⟨j0, hj0, hjj, hne⟩ := HENT.out q hlt
      have hrd : rd_T61 x.f6 (q : Int) = ⟨name, node⟩ := (rdE _ q hlt).trans hen
      obtain ⟨ae, ee, e0, e1⟩ := at_T61 HRE.out (q : Int) (by omega) (by omega)
      cases ee
      rw [hrd, Int.toNat_natCast] at e0 e1
      have HTK : Hid ((x.f6.take q).map (entN ids) ++ [(⟨name, ((j0 + 1 : Nat) : Int)⟩ : Ent)] = (x.f6.take (q + 1)).map (entN ids)) := Lib.hid (by
       rw [List.take_succ_eq_append_getElem hlt, List.map_append]
       show _ = _ ++ [entN ids x.f6[q]]
       rw [hne, hen])
      have HJJ : Hid (∀ j, j < ids.length → (rd ids (j : Int) = node ↔ j = j0)) := Lib.hid (by rw [hen] at hjj; exact hjj)
      have HJ0 := Lib.hid hj0
      have HLQ := Lib.hid hlt
      have HWQ : Hid (wrap64 ((q : Int) + 1) = ((q + 1 : Nat) : Int)) := Lib.hid (by have := HX6.out; unfold wrap64; omega)
      have q0 : decide (0 ≤ (q : Int)) = true := decide_eq_true (by omega)
      have q1 : decide ((q : Int) < (x.f6.length : Int)) = true := decide_eq_true (by omega)
      have q1n : (q < x.f6.length) = True := eq_true hlt
      have HE0 := Lib.hid e0
      have HE1 := Lib.hid e1
      clear hq hlt hen hjj hne hrd hj0 e0 e1
      go_wp2
      go_loopw [8, 10] (fun s8 s10 wr => ∃ (j : Nat) (v8 : Value), j ≤ ids.length ∧ s8 = v8 ∧ s10 = .int .i64 j ∧ Hid (RNd wd wr gb (wrap64 ((i : Int) + 1)) x.f1 x.f2 x.f3 x.f4 x.f5 (.slice (some ae) x.f6.length c6) v8 (if j ≤ j0 then (x.f6.take q).map (entN ids) else (x.f6.take (q + 1)).map (entN ids)))) (fun _ s10 _ => ids.length - (intOf s10).toNat)
      case atStart => exact ⟨0, _, Nat.zero_le _, rfl, rfl, Lib.hid (by rw [if_pos (Nat.zero_le _)]; exact HN.out)⟩
      case round =>
       clear HN n6
       obtain ⟨j, v8, hj, rfl, rfl, HN⟩ := hrel
       by_cases hlj : j < ids.length
       ·
        have HOW := Lib.hid (HO.out.below HN.out.hb)
        obtain ⟨am', ea, m0, _⟩ := at_T87 (Kd.R_reads' HOW.out.c.q).2.2 (j : Int) (by omega) (by have := HWL.out; omega)
        cases ea
        rw [Int.toNat_natCast, HWI.out j hlj] at m0
        have e0 := cellB HE0.out HOW.out.c.hb
        have e1 := cellB HE1.out HOW.out.c.hb
        have n6 : wr.cell? ⟨gb, 6, none⟩ = some (.slice (some ae) x.f6.length c6) := (blk_cell HN.out.bn 6).trans rfl
        have j0d : decide (0 ≤ (j : Int)) = true := decide_eq_true (by omega)
        have j1 : decide ((j : Int) < (ids.length : Int)) = true := decide_eq_true (by omega)
        have j1n : (j < ids.length) = True := eq_true hlj
        have hjz := HJJ.out j hlj
        have HLJ := Lib.hid hlj
        have HWJ : Hid (wrap64 ((j : Int) + 1) = ((j + 1 : Nat) : Int)) := Lib.hid (by have := HLN.out; unfold wrap64; omega)
        clear hj hlj HOW
        generalize rd ids (j : Int) = idj at m0 hjz
        by_cases hz : j = j0
        ·
         have kz : (idj == node) = true := beq_iff_eq.mpr (hjz.2 hz)
         have HJZ := Lib.hid hz
         rw [if_pos (Nat.le_of_eq hz)] at HN
         clear hjz hz
         go_wp2
         refine start_ (n := 12) (S := (fun w' => w'.cell? (am.add (j * 2)) = some (.int .i64 idj) ∧ w'.cell? ⟨gb, 6, none⟩ = some (.slice (some ae) x.f6.length c6) ∧ w'.cell? ⟨(ae.add (q * 2)).block, (ae.add (q * 2)).off + 1, none⟩ = some (.int .i64 node) ∧ w'.cell? (ae.add (q * 2)) = some (.string name))) (ds := []) #[false, false, false, false, false, false, false, false, false, false, false, false] (by kernel_rfl) rfl rfl ⟨m0, n6, e1, e0⟩ (fun hHeld => ?_)
         have HND := Lib.hid (HN.out.below ((Below.refl _ wr).drew))
         clear HN m0 n6 e1 e0
         generalize World.drew _ = we at HND hHeld ⊢
         iterate 5 (first | ((first | refine takeS_ 0 (N := some 55) (v := ?_) (a' := ?_) rfl rfl (by decide +kernel) (fun _ _ _ h => h) (Or.inl ⟨by rfl, ?_⟩) hHeld ?_ ?_ | refine takeS_ 1 (N := some 56) (v := ?_) (a' := ?_) rfl rfl (by decide +kernel) (fun _ _ _ h => h) (Or.inl ⟨by rfl, ?_⟩) hHeld ?_ ?_ | refine takeS_ 2 (N := some 57) (v := ?_) (a' := ?_) rfl rfl (by decide +kernel) (fun _ _ _ h => h) (Or.inl ⟨by rfl, ?_⟩) hHeld ?_ ?_ | refine takeS_ 3 (N := some 58) (v := ?_) (a' := ?_) rfl rfl (by decide +kernel) (fun _ _ _ h => h) (Or.inl ⟨by rfl, ?_⟩) hHeld ?_ ?_ | refine takeS_ 5 (N := some 60) (v := ?_) (a' := ?_) rfl rfl (by decide +kernel) (fun _ _ _ h => h) (Or.inl ⟨by rfl, ?_⟩) hHeld ?_ ?_); rotate_left; (rintro w' ⟨t0, t1, t2, t3⟩; go_simp; first | done | (with_reducible rfl) | rfl); rotate_left; (simp only [Act.put, List.setIfInBounds_toArray, List.set_cons_zero, List.set_cons_succ, i64_w, i32_w]; rfl)) | ((first | refine takeS_ 0 (N := some 55) (v := undef) (a' := ?_) rfl rfl (by decide +kernel) (fun _ _ _ h => h) (Or.inr ⟨by rfl, rfl⟩) hHeld ?_ ?_ | refine takeS_ 1 (N := some 56) (v := undef) (a' := ?_) rfl rfl (by decide +kernel) (fun _ _ _ h => h) (Or.inr ⟨by rfl, rfl⟩) hHeld ?_ ?_ | refine takeS_ 2 (N := some 57) (v := undef) (a' := ?_) rfl rfl (by decide +kernel) (fun _ _ _ h => h) (Or.inr ⟨by rfl, rfl⟩) hHeld ?_ ?_ | refine takeS_ 3 (N := some 58) (v := undef) (a' := ?_) rfl rfl (by decide +kernel) (fun _ _ _ h => h) (Or.inr ⟨by rfl, rfl⟩) hHeld ?_ ?_ | refine takeS_ 5 (N := some 60) (v := undef) (a' := ?_) rfl rfl (by decide +kernel) (fun _ _ _ h => h) (Or.inr ⟨by rfl, rfl⟩) hHeld ?_ ?_); rotate_left; (simp only [Act.put, List.setIfInBounds_toArray, List.set_cons_zero, List.set_cons_succ, i64_w, i32_w]; rfl)))
         iterate 5 (first | ((first | refine takeS_ 7 (N := some 62) (v := ?_) (a' := ?_) rfl rfl (by decide +kernel) (fun _ _ _ h => h) (Or.inl ⟨by rfl, ?_⟩) hHeld ?_ ?_ | refine takeS_ 4 (N := some 59) (v := ?_) (a' := ?_) rfl rfl (by decide +kernel) (fun _ _ _ h => h) (Or.inl ⟨by rfl, ?_⟩) hHeld ?_ ?_ | refine takeS_ 6 (N := some 61) (v := ?_) (a' := ?_) rfl rfl (by decide +kernel) (fun _ _ _ h => h) (Or.inl ⟨by rfl, ?_⟩) hHeld ?_ ?_ | refine takeS_ 8 (N := some 63) (v := ?_) (a' := ?_) rfl rfl (by decide +kernel) (fun _ _ _ h => h) (Or.inl ⟨by rfl, ?_⟩) hHeld ?_ ?_ | refine takeS_ 9 (N := some 64) (v := ?_) (a' := ?_) rfl rfl (by decide +kernel) (fun _ _ _ h => h) (Or.inl ⟨by rfl, ?_⟩) hHeld ?_ ?_); rotate_left; (rintro w' ⟨t0, t1, t2, t3⟩; go_simp; first | done | (with_reducible rfl) | rfl); rotate_left; (simp only [Act.put, List.setIfInBounds_toArray, List.set_cons_zero, List.set_cons_succ, i64_w, i32_w]; rfl)) | ((first | refine takeS_ 7 (N := some 62) (v := undef) (a' := ?_) rfl rfl (by decide +kernel) (fun _ _ _ h => h) (Or.inr ⟨by rfl, rfl⟩) hHeld ?_ ?_ | refine takeS_ 4 (N := some 59) (v := undef) (a' := ?_) rfl rfl (by decide +kernel) (fun _ _ _ h => h) (Or.inr ⟨by rfl, rfl⟩) hHeld ?_ ?_ | refine takeS_ 6 (N := some 61) (v := undef) (a' := ?_) rfl rfl (by decide +kernel) (fun _ _ _ h => h) (Or.inr ⟨by rfl, rfl⟩) hHeld ?_ ?_ | refine takeS_ 8 (N := some 63) (v := undef) (a' := ?_) rfl rfl (by decide +kernel) (fun _ _ _ h => h) (Or.inr ⟨by rfl, rfl⟩) hHeld ?_ ?_ | refine takeS_ 9 (N := some 64) (v := undef) (a' := ?_) rfl rfl (by decide +kernel) (fun _ _ _ h => h) (Or.inr ⟨by rfl, rfl⟩) hHeld ?_ ?_); rotate_left; (simp only [Act.put, List.setIfInBounds_toArray, List.set_cons_zero, List.set_cons_succ, i64_w, i32_w]; rfl)))
         iterate 2 (first | ((first | refine takeS_ 10 (N := some 65) (v := ?_) (a' := ?_) rfl rfl (by decide +kernel) (fun _ _ _ h => h) (Or.inl ⟨by rfl, ?_⟩) hHeld ?_ ?_ | refine takeS_ 11 (N := some 66) (v := ?_) (a' := ?_) rfl rfl (by decide +kernel) (fun _ _ _ h => h) (Or.inl ⟨by rfl, ?_⟩) hHeld ?_ ?_); rotate_left; (rintro w' ⟨t0, t1, t2, t3⟩; go_simp; first | done | (with_reducible rfl) | rfl); rotate_left; (simp only [Act.put, List.setIfInBounds_toArray, List.set_cons_zero, List.set_cons_succ, i64_w, i32_w]; rfl)) | ((first | refine takeS_ 10 (N := some 65) (v := undef) (a' := ?_) rfl rfl (by decide +kernel) (fun _ _ _ h => h) (Or.inr ⟨by rfl, rfl⟩) hHeld ?_ ?_ | refine takeS_ 11 (N := some 66) (v := undef) (a' := ?_) rfl rfl (by decide +kernel) (fun _ _ _ h => h) (Or.inr ⟨by rfl, rfl⟩) hHeld ?_ ?_); rotate_left; (simp only [Act.put, List.setIfInBounds_toArray, List.set_cons_zero, List.set_cons_succ, i64_w, i32_w]; rfl)))
         refine done_ (by kernel_rfl) ?_
         have HN := HND
         clear HND
         obtain ⟨m0, n6, e1, e0⟩ := hHeld
         go_wp2_with (first | ((with_reducible refine gate_builtin (b := .append) (xs := #[.tmp 67, .tmp 77]) rfl ?_); at_builtin; refine Kd.R_append k61 (w0 := wd) wd.heap.size rfl (.tmp 67) (.tmp 77) 42 61 (.agg #[(.string ⟨#[]⟩), (.int .i64 0)]) 24 rfl Tryd.underlying42 info61 rfl (by decide) (by omega) _ ((x.f6.take q).map (entN ids)) (⟨name, wrap64 ((j : Int) + 1)⟩ : Ent) [.string name, .int .i64 (wrap64 ((j : Int) + 1))] (fun _ => True) (fun _ => False) rfl rfl ?aP (fun _ hk => hk.elim) ?aF ?aO ?aB ?aS ?aL ?_; (case aP => exact k61_mkM _ _ _ (⟨name, wrap64 ((j : Int) + 1)⟩ : Ent)); (case aB => exact HN.out.hb); (case aF => exact (fun _ _ => trivial)); (case aO => exact HN.out.r); (case aS => exact below_size HN.out.hb); (case aL => have := HX6.out; have := HLQ.out; rw [List.length_map, List.length_take]; omega); intro v1 w7 ho hb hg _; have HN2 := Lib.hid (HN.out.grow ho hb hg); clear ho hb hg))
         go_roundw
         case rel => exact ⟨j + 1, _, HLJ.out, rfl, by rw [HWJ.out], Lib.hid (by rw [if_neg (by have := HJZ.out; omega), ← HTK.out]; have h_ := HN2.out; rw [HWJ.out, HJZ.out] at h_; exact h_)⟩
         case measure => exact meas_ _ _ HWJ.out HLJ.out
        ·
         have kz : (idj == node) = false := beq_eq_false_iff_ne.mpr (fun e => hz (hjz.1 e))
         have HJZ : Hid ((j + 1 ≤ j0) = (j ≤ j0)) := Lib.hid (propext ⟨fun h => by omega, fun h => by omega⟩)
         clear hjz hz
         go_wp2
         refine start_ (n := 12) (S := (fun w' => w'.cell? (am.add (j * 2)) = some (.int .i64 idj) ∧ w'.cell? ⟨gb, 6, none⟩ = some (.slice (some ae) x.f6.length c6) ∧ w'.cell? ⟨(ae.add (q * 2)).block, (ae.add (q * 2)).off + 1, none⟩ = some (.int .i64 node) ∧ w'.cell? (ae.add (q * 2)) = some (.string name))) (ds := []) #[false, false, false, false, false, false, false, false, false, false, false, false] (by kernel_rfl) rfl rfl ⟨m0, n6, e1, e0⟩ (fun hHeld => ?_)
         have HND := Lib.hid (HN.out.below ((Below.refl _ wr).drew))
         clear HN m0 n6 e1 e0
         generalize World.drew _ = we at HND hHeld ⊢
         iterate 5 (first | ((first | refine takeS_ 0 (N := some 55) (v := ?_) (a' := ?_) rfl rfl (by decide +kernel) (fun _ _ _ h => h) (Or.inl ⟨by rfl, ?_⟩) hHeld ?_ ?_ | refine takeS_ 1 (N := some 56) (v := ?_) (a' := ?_) rfl rfl (by decide +kernel) (fun _ _ _ h => h) (Or.inl ⟨by rfl, ?_⟩) hHeld ?_ ?_ | refine takeS_ 2 (N := some 57) (v := ?_) (a' := ?_) rfl rfl (by decide +kernel) (fun _ _ _ h => h) (Or.inl ⟨by rfl, ?_⟩) hHeld ?_ ?_ | refine takeS_ 3 (N := some 58) (v := ?_) (a' := ?_) rfl rfl (by decide +kernel) (fun _ _ _ h => h) (Or.inl ⟨by rfl, ?_⟩) hHeld ?_ ?_ | refine takeS_ 5 (N := some 60) (v := ?_) (a' := ?_) rfl rfl (by decide +kernel) (fun _ _ _ h => h) (Or.inl ⟨by rfl, ?_⟩) hHeld ?_ ?_); rotate_left; (rintro w' ⟨t0, t1, t2, t3⟩; go_simp; first | done | (with_reducible rfl) | rfl); rotate_left; (simp only [Act.put, List.setIfInBounds_toArray, List.set_cons_zero, List.set_cons_succ, i64_w, i32_w]; rfl)) | ((first | refine takeS_ 0 (N := some 55) (v := undef) (a' := ?_) rfl rfl (by decide +kernel) (fun _ _ _ h => h) (Or.inr ⟨by rfl, rfl⟩) hHeld ?_ ?_ | refine takeS_ 1 (N := some 56) (v := undef) (a' := ?_) rfl rfl (by decide +kernel) (fun _ _ _ h => h) (Or.inr ⟨by rfl, rfl⟩) hHeld ?_ ?_ | refine takeS_ 2 (N := some 57) (v := undef) (a' := ?_) rfl rfl (by decide +kernel) (fun _ _ _ h => h) (Or.inr ⟨by rfl, rfl⟩) hHeld ?_ ?_ | refine takeS_ 3 (N := some 58) (v := undef) (a' := ?_) rfl rfl (by decide +kernel) (fun _ _ _ h => h) (Or.inr ⟨by rfl, rfl⟩) hHeld ?_ ?_ | refine takeS_ 5 (N := some 60) (v := undef) (a' := ?_) rfl rfl (by decide +kernel) (fun _ _ _ h => h) (Or.inr ⟨by rfl, rfl⟩) hHeld ?_ ?_); rotate_left; (simp only [Act.put, List.setIfInBounds_toArray, List.set_cons_zero, List.set_cons_succ, i64_w, i32_w]; rfl)))
         iterate 5 (first | ((first | refine takeS_ 7 (N := some 62) (v := ?_) (a' := ?_) rfl rfl (by decide +kernel) (fun _ _ _ h => h) (Or.inl ⟨by rfl, ?_⟩) hHeld ?_ ?_ | refine takeS_ 4 (N := some 59) (v := ?_) (a' := ?_) rfl rfl (by decide +kernel) (fun _ _ _ h => h) (Or.inl ⟨by rfl, ?_⟩) hHeld ?_ ?_ | refine takeS_ 6 (N := some 61) (v := ?_) (a' := ?_) rfl rfl (by decide +kernel) (fun _ _ _ h => h) (Or.inl ⟨by rfl, ?_⟩) hHeld ?_ ?_ | refine takeS_ 8 (N := some 63) (v := ?_) (a' := ?_) rfl rfl (by decide +kernel) (fun _ _ _ h => h) (Or.inl ⟨by rfl, ?_⟩) hHeld ?_ ?_ | refine takeS_ 9 (N := some 64) (v := ?_) (a' := ?_) rfl rfl (by decide +kernel) (fun _ _ _ h => h) (Or.inl ⟨by rfl, ?_⟩) hHeld ?_ ?_); rotate_left; (rintro w' ⟨t0, t1, t2, t3⟩; go_simp; first | done | (with_reducible rfl) | rfl); rotate_left; (simp only [Act.put, List.setIfInBounds_toArray, List.set_cons_zero, List.set_cons_succ, i64_w, i32_w]; rfl)) | ((first | refine takeS_ 7 (N := some 62) (v := undef) (a' := ?_) rfl rfl (by decide +kernel) (fun _ _ _ h => h) (Or.inr ⟨by rfl, rfl⟩) hHeld ?_ ?_ | refine takeS_ 4 (N := some 59) (v := undef) (a' := ?_) rfl rfl (by decide +kernel) (fun _ _ _ h => h) (Or.inr ⟨by rfl, rfl⟩) hHeld ?_ ?_ | refine takeS_ 6 (N := some 61) (v := undef) (a' := ?_) rfl rfl (by decide +kernel) (fun _ _ _ h => h) (Or.inr ⟨by rfl, rfl⟩) hHeld ?_ ?_ | refine takeS_ 8 (N := some 63) (v := undef) (a' := ?_) rfl rfl (by decide +kernel) (fun _ _ _ h => h) (Or.inr ⟨by rfl, rfl⟩) hHeld ?_ ?_ | refine takeS_ 9 (N := some 64) (v := undef) (a' := ?_) rfl rfl (by decide +kernel) (fun _ _ _ h => h) (Or.inr ⟨by rfl, rfl⟩) hHeld ?_ ?_); rotate_left; (simp only [Act.put, List.setIfInBounds_toArray, List.set_cons_zero, List.set_cons_succ, i64_w, i32_w]; rfl)))
         iterate 2 (first | ((first | refine takeS_ 10 (N := some 65) (v := ?_) (a' := ?_) rfl rfl (by decide +kernel) (fun _ _ _ h => h) (Or.inl ⟨by rfl, ?_⟩) hHeld ?_ ?_ | refine takeS_ 11 (N := some 66) (v := ?_) (a' := ?_) rfl rfl (by decide +kernel) (fun _ _ _ h => h) (Or.inl ⟨by rfl, ?_⟩) hHeld ?_ ?_); rotate_left; (rintro w' ⟨t0, t1, t2, t3⟩; go_simp; first | done | (with_reducible rfl) | rfl); rotate_left; (simp only [Act.put, List.setIfInBounds_toArray, List.set_cons_zero, List.set_cons_succ, i64_w, i32_w]; rfl)) | ((first | refine takeS_ 10 (N := some 65) (v := undef) (a' := ?_) rfl rfl (by decide +kernel) (fun _ _ _ h => h) (Or.inr ⟨by rfl, rfl⟩) hHeld ?_ ?_ | refine takeS_ 11 (N := some 66) (v := undef) (a' := ?_) rfl rfl (by decide +kernel) (fun _ _ _ h => h) (Or.inr ⟨by rfl, rfl⟩) hHeld ?_ ?_); rotate_left; (simp only [Act.put, List.setIfInBounds_toArray, List.set_cons_zero, List.set_cons_succ, i64_w, i32_w]; rfl)))
         refine done_ (by kernel_rfl) ?_
         have HN := HND
         clear HND
         obtain ⟨m0, n6, e1, e0⟩ := hHeld
         go_wp2
         go_roundw
         case rel => exact ⟨j + 1, _, HLJ.out, rfl, by rw [HWJ.out], Lib.hid (by simp only [HJZ.out]; exact HN.out)⟩
         case measure => exact meas_ _ _ HWJ.out HLJ.out
       ·
        obtain rfl : j = ids.length := by omega
        rw [if_neg (by have := HJ0.out; omega)] at HN
        clear hj hlj
        go_wp2
        go_roundw
        case rel => exact ⟨q + 1, _, HLQ.out, rfl, by rw [HWQ.out], HN⟩
        case measure => exact meas_ _ _ HWQ.out HLQ.out
     ·
      obtain rfl : q = x.f6.length := by omega
      rw [List.take_length] at HN
      clear hlt hq HENT
      obtain ⟨A8, c8, e8⟩ := Kd.R_slice HN.out.r
      rw [List.length_map] at e8
      subst e8
      have b6 := blk_frozen HN.out.bn 6
      go_upto_region 20 with (fail)
      replace HN := Lib.hid (HN.out.setE)
      clear n6 b6
      generalize World.setCell _ _ _ = w9 at HN ⊢
      have HOW := Lib.hid (HO.out.below HN.out.hb)
      have m0 : w9.cell? ⟨g5, 0, none⟩ = some u := (blk_cell HOW.out.b5 0).trans rfl
      have n0 : w9.cell? ⟨gb, 0, none⟩ = some (.int .i64 (wrap64 ((i : Int) + 1))) := (blk_cell HN.out.bn 0).trans rfl
      have n1 : w9.cell? ⟨gb, 1, none⟩ = some (.int .i64 x.f1) := (blk_cell HN.out.bn 1).trans rfl
      have n2 : w9.cell? ⟨gb, 2, none⟩ = some (.int .i64 x.f2) := (blk_cell HN.out.bn 2).trans rfl
      have n3 : w9.cell? ⟨gb, 3, none⟩ = some (.int .i64 x.f3) := (blk_cell HN.out.bn 3).trans rfl
      have n4 : w9.cell? ⟨gb, 4, none⟩ = some (.int .i64 x.f4) := (blk_cell HN.out.bn 4).trans rfl
      have n5 : w9.cell? ⟨gb, 5, none⟩ = some (.string x.f5) := (blk_cell HN.out.bn 5).trans rfl
      have n6 : w9.cell? ⟨gb, 6, none⟩ = some (.slice A8 x.f6.length c8) := (blk_cell HN.out.bn 6).trans rfl
      have HNX : Hid ((List.range i).map (nodN l ids) ++ [(⟨wrap64 ((i : Int) + 1), x.f1, x.f2, x.f3, x.f4, x.f5, x.f6.map (entN ids)⟩ : Nod)] = (List.range (i + 1)).map (nodN l ids)) := Lib.hid (by rw [List.range_succ, List.map_append, ← HX.out]; rfl)
      go_wp2_with ((with_reducible refine gate_builtin (b := .append) (xs := #[.tmp 82, .tmp 84]) rfl ?_); at_builtin; refine Kd.S_append k44 (w0 := w) w.heap.size rfl (.tmp 82) (.tmp 84) 22 44 (.agg #[(.int .i64 0), (.int .i64 0), (.int .i64 0), (.int .i64 0), (.int .i64 0), (.string ⟨#[]⟩), (.slice none 0 0)]) 80 rfl Tryd.underlying22 info44 rfl (by decide) (by omega) u ((List.range i).map (nodN l ids)) (⟨wrap64 ((i : Int) + 1), x.f1, x.f2, x.f3, x.f4, x.f5, x.f6.map (entN ids)⟩ : Nod) [.int .i64 (wrap64 ((i : Int) + 1)), .int .i64 x.f1, .int .i64 x.f2, .int .i64 x.f3, .int .i64 x.f4, .string x.f5, .slice A8 x.f6.length c8] (fun _ => True) (fun k_ => some k_ = (Value.slice A8 x.f6.length c8).ownBlock) rfl rfl ?aP ?aK (fun _ _ => trivial) ?aO HOW.out.c.hb (below_size HOW.out.c.hb) ?aL ?_; (case aP => exact k44_mkM _ _ _ (⟨wrap64 ((i : Int) + 1), x.f1, x.f2, x.f3, x.f4, x.f5, x.f6.map (entN ids)⟩ : Nod) (Kd.R_tight rfl (Kd.R_lower (by have h_ := HN.out.r; exact h_) (below_size HO.out.c.hb)))); (case aK => exact fun k_ hk_ => ⟨trivial, fun e_ => by have h1 := Kd.R_base HN.out.r k_ hk_.symm; have h2 := Kd.S_lt HO.out.s k_ e_.symm; omega⟩); (case aO => exact Kd.S_mono (Kd.S_old HO.out.s HN.out.hb) (fun k_ hk_ => ⟨trivial, fun e_ => by have h1 := Kd.R_base HN.out.r k_ e_.symm; have h2 := hk_.2; omega⟩)); (case aL => have := HLN.out; have := HLT.out; rw [List.length_map, List.length_range]; omega); intro v1 w9 ho hb9 hg9 _; obtain ⟨A9, c9, e9⟩ := slice_next ho; subst e9; have HO2 := Lib.hid (HOW.out.push ho hb9 hg9); have p0 : w9.cell? ⟨g5, 0, none⟩ = some u := (blk_cell (blk_grown HOW.out.b5 hg9 (Kd.S_ne HOW.out.s HOW.out.b5 (by decide))) 0).trans rfl; have pf := blk_frozen (blk_grown HOW.out.b5 hg9 (Kd.S_ne HOW.out.s HOW.out.b5 (by decide))) 0; clear ho hb9 hg9)
      go_roundw
      case rel =>
       rw [HNX.out] at HO2
       exact ⟨i + 1, _, HLT.out, by rw [HWR.out], HO2⟩
      case measure => exact meas_ _ _ HWR.out HLT.out
   ·
    obtain rfl : i = ids.length := by omega
    clear hlt hi HGET
    have HFI : Hid ((List.range ids.length).map (nodN l ids) = canN l ids) := Lib.hid rfl
    rw [HFI.out] at HO
    obtain ⟨A9, c9, e9⟩ := Kd.S_slice HO.out.s
    subst e9
    have m0 : wr.cell? ⟨g5, 0, none⟩ = some (.slice A9 (canN l ids).length c9) := (blk_cell HO.out.b5 0).trans rfl
    have m1 : wr.cell? ⟨g5, 1, none⟩ = some (.int .i64 (ids.length : Int)) := (blk_cell HO.out.b5 1).trans rfl
    have m2 : wr.cell? ⟨g5, 2, none⟩ = some (.int .i64 a2) := (blk_cell HO.out.b5 2).trans rfl
    have m3 : wr.cell? ⟨g5, 3, none⟩ = some (.int .i64 a3) := (blk_cell HO.out.b5 3).trans rfl
    have k0 : wr.cell? ⟨g2, 0, none⟩ = some (.slice none 0 0) := (blk_cell HO.out.c.b2 0).trans rfl
    have k1 : wr.cell? ⟨g2, 1, none⟩ = some (.int .i64 0) := (blk_cell HO.out.c.b2 1).trans rfl
    have k2 : wr.cell? ⟨g2, 2, none⟩ = some (.int .i64 0) := (blk_cell HO.out.c.b2 2).trans rfl
    have k3 : wr.cell? ⟨g2, 3, none⟩ = some (.int .i64 0) := (blk_cell HO.out.c.b2 3).trans rfl
    have f0 := blk_frozen HO.out.c.b2 0
    have f1 := blk_frozen HO.out.c.b2 1
    have f2 := blk_frozen HO.out.c.b2 2
    have f3 := blk_frozen HO.out.c.b2 3
    have HP := Lib.hid (put4 (w := wr) (g := g2) (t := 26) HO.out.c.b2 (.slice A9 (canN l ids).length c9) (.int .i64 (ids.length : Int)) (.int .i64 a2) (.int .i64 a3))
    have HS := Lib.hid (put4S HO.out.s HO.out.c.b2 (.slice A9 (canN l ids).length c9) (.int .i64 (ids.length : Int)) (.int .i64 a2) (.int .i64 a3))
    go_wp2
    refine bodyPost_ret (results_ct rfl _ _ g2 26 #[.slice A9 (canN l ids).length c9, .int .i64 (ids.length : Int), .int .i64 a2, .int .i64 a3] (0, 0) _ rfl HP.out Tryd.underlying26 rfl (by kernel_rfl)) rfl ?_
    exact ⟨_, rfl, HS.out, below_set (below_set (below_set (below_set HO.out.c.hb HO.out.c.e2) HO.out.c.e2) HO.out.c.e2) HO.out.c.e2⟩
end Go.Proofs.YtnpnablnnfekkaaDoor.PTr
set_option linter.unusedVariables false
namespace Go.Proofs.YtnpnablnnfekkaaDoor.PTr
open Go.RowKit Go.Proofs.YtnpnablnnfekkaaDoor Go.Proofs.YtnpnablnnfekkaaDoorW.PrintWords
def rehearsalref04_Canon.f (k : Nat) (l : List Nod) (a1 a2 a3 : Int) : Option (List Nod × Int × Int × Int × Int) := if (l.length ≤ 512 → Bd l) ∧ eB l = true then some (canM l a1 a2 a3) else none
theorem rehearsalref04_Canon.calls (k : Nat) (A0_0 : Option Addr) (c0_0 : Nat) (l0_0 : List Nod) (a0_1 : Int) (a0_2 : Int) (a0_3 : Int) (r1 : List Nod) (r2 : Int) (r3 : Int) (r4 : Int) (r5 : Int) (w : World) (hr0_0 : Kd.C k44 w A0_0 l0_0.length l0_0) (hc0_0 : l0_0.length ≤ c0_0) (h : rehearsalref04_Canon.f k l0_0 a0_1 a0_2 a0_3 = some (r1, r2, r3, r4, r5)) :
  Calls Tryd.prog 25 #[.agg #[.slice A0_0 l0_0.length c0_0, .int .i64 a0_1, .int .i64 a0_2, .int .i64 a0_3]] w fun e w' => ∃ v0_ : Value, e = .returned (.tuple #[.agg #[v0_, .int .i64 r2, .int .i64 r3, .int .i64 r4], .int .i64 r5]) ∧ Kd.S k44 44 w' w.heap.size (fun _ => True) v0_ r1 ∧ Below w.heap.size w w' := by
 unfold rehearsalref04_Canon.f at h
 split at h
 case isTrue hB =>
  have h := Option.some.inj h
  refine (rcanon_any A0_0 c0_0 l0_0 a0_1 a0_2 a0_3 w hr0_0 hc0_0 hB.1 (eB_ok hB.2)).mono ?_
  rw [h]
  exact fun _ _ h => h
 case isFalse => cases h
theorem rcan_ev (l : List Nod) (a1 a2 a3 : Int) (hB : Bd l) (hE : eOK l) : Evt (fun k => rehearsalref04_Canon.f k l a1 a2 a3) (canM l a1 a2 a3) :=
 Evt.const0 (fun _ => if_pos ⟨fun _ => hB, eB_of hE⟩)
end Go.Proofs.YtnpnablnnfekkaaDoor.PTr
namespace Go.Proofs.YtnpnablnnfekkaaDoor.PTr
open Go.RowKit Go.Proofs.YtnpnablnnfekkaaDoorW.PrintWords Go.Proofs.YtnpnablnnfekkaaDoorW.PrintLast Go.Proofs.YtnpnablnnfekkaaDoorW.PrintMore
attribute [local go_sem] max2_int min2_int max_two min_two max_three min_three max_four min_four   -- for this text's walks alone
set_option linter.unusedVariables false
set_option linter.unusedSimpArgs false
attribute [local go_sem high] eqA61
def api_Entry_69.l0 : Nat → List (S61) → List (S61) → Int → Int → Option (Bool)
 | 0, _, _, _, _ => none
 | k + 1, x0, x1, x12, x13 => if x13 < x12 then (if 0 ≤ x13 then (if x13 < (x0.length : Int) then (if x13 < (x1.length : Int) then (if (!((((rd_T61 x0 x13).f0).toList) == (((rd_T61 x1 x13).f0).toList)) || (!(((rd_T61 x0 x13).f1) == ((rd_T61 x1 x13).f1)))) = true then (some false) else (api_Entry_69.l0 k x0 x1 x12 (wrap64 (x13 + 1)))) else (none)) else (none)) else (none)) else (some true)
def api_Entry_69.f (k : Nat) (l0 : List (S61)) (l1 : List (S61)) : Option (Bool) := if (l0.length : Int) = (l1.length : Int) then (api_Entry_69.l0 k l0 l1 (l0.length : Int) 0) else (some false)
set_option maxHeartbeats 8000000 in
set_option maxRecDepth 100000 in
theorem api_Entry_69.calls (k : Nat) (A0 : Option Addr) (c0 : Nat) (l0 : List (S61)) (A1 : Option Addr) (c1 : Nat) (l1 : List (S61)) (r : Bool) (w : World) (hr0 : Kd.C k61 w A0 l0.length l0) (hc0 : l0.length ≤ c0) (hr1 : Kd.C k61 w A1 l1.length l1) (hc1 : l1.length ≤ c1) (h : api_Entry_69.f k l0 l1 = some r) :
  Calls Tryd.prog 69 #[.slice A0 l0.length c0, .slice A1 l1.length c1] w fun e w' => e = .returned (.bool r) ∧ Drawn0 w w' := by
 have hu61 := Tryd.underlying61
 have HR0 := Aside0.mk hr0
 have HC0 := Aside0.mk hc0
 clear hr0 hc0
 have HR1 := Aside0.mk hr1
 have HC1 := Aside0.mk hc1
 clear hr1 hc1
 have H : (if (l0.length : Int) = (l1.length : Int) then (api_Entry_69.l0 k l0 l1 (l0.length : Int) 0) else (some false)) = some r := h
 clear h
 by_cases c3 : (l0.length : Int) = (l1.length : Int)
 ·
  rw [if_pos c3] at H
  have c3b0 : ((l0.length : Int) == (l1.length : Int)) = true := beq_iff_eq.mpr c3
  have c3b1 : ((l0.length : Int) != (l1.length : Int)) = false := bne_eq_false_iff_eq.mpr c3
  have c3b2 : (l0.length == l1.length) = true := by first | simpa using c3 | (simp at c3 ⊢; omega)
  clear c3
  have H' := Aside0.mk H
  clear H
  go_enter Tryd.func69, Tryd.ntmps69
  go_wp2
  repeat (go_quiet (fail); try go_wp2)
  go_loopg [13] k (fun kq v13 w' => ∃ (x13_1 : Int), v13 = .int .i64 x13_1 ∧ Aside0 (api_Entry_69.l0 kq l0 l1 (l0.length : Int) x13_1 = some r) ∧ Aside0 (kq ≤ k) ∧ Drawn0 w w')
  case atStart => exact ⟨(0), (by first | rfl | (simp; done) | (simp [*]; done)), H', ⟨Nat.le_refl _⟩, by repeat (first | exact Drawn0.refl _ | apply Drawn0.step)⟩
  case round =>
   clear H'
   try clear c1
   try clear p2
   try clear c3
   try clear c3b0
   try clear c3b1
   try clear c3b2
   obtain ⟨x13_1, rfl, HA, HK1, ⟨m1, rfl⟩⟩ := hrel
   cases gk with
   | zero => exact absurd HA.out (by simp [api_Entry_69.l0])
   | succ k1 =>
    have H := HA.out
    clear HA
    simp only [api_Entry_69.l0] at H
    by_cases c4 : x13_1 < (l0.length : Int)
    ·
     rw [if_pos c4] at H
     have c4b0 : decide (x13_1 < (l0.length : Int)) = true := decide_eq_true c4
     clear c4
     by_cases c5 : 0 ≤ x13_1
     ·
      rw [if_pos c5] at H
      have c5b0 : decide (0 ≤ x13_1) = true := decide_eq_true c5
      clear c5
      by_cases c6 : x13_1 < (l0.length : Int)
      ·
       rw [if_pos c6] at H
       have c6b0 : decide (x13_1 < (l0.length : Int)) = true := decide_eq_true c6
       clear c6
       by_cases c7 : x13_1 < (l1.length : Int)
       ·
        rw [if_pos c7] at H
        have c7b0 : decide (x13_1 < (l1.length : Int)) = true := decide_eq_true c7
        clear c7
        by_cases c8 : (!((((rd_T61 l0 x13_1).f0).toList) == (((rd_T61 l1 x13_1).f0).toList)) || (!(((rd_T61 l0 x13_1).f1) == ((rd_T61 l1 x13_1).f1)))) = true
        ·
         rw [if_pos c8] at H
         have c8b0 : (!((((rd_T61 l0 x13_1).f0).toList) == (((rd_T61 l1 x13_1).f0).toList)) || (!(((rd_T61 l0 x13_1).f1) == ((rd_T61 l1 x13_1).f1)))) = true := c8
         clear c8
         obtain rfl := Option.some.inj H
         have p398 : 0 ≤ (x13_1 : Int) := of_decide_eq_true (by first | (with_reducible assumption) | assumption)
         have q398 : x13_1 < (l0.length : Int) := of_decide_eq_true (by first | (with_reducible assumption) | assumption)
         obtain ⟨ad398, e398, hx398_0, hx398_1⟩ := at_T61 HR0.out x13_1 p398 q398
         cases e398
         replace p398 := eq_true p398
         replace q398 := eq_true q398
         have p399 : 0 ≤ (x13_1 : Int) := of_decide_eq_true (by first | (with_reducible assumption) | assumption)
         have q399 : x13_1 < (l1.length : Int) := of_decide_eq_true (by first | (with_reducible assumption) | assumption)
         obtain ⟨ad399, e399, hx399_0, hx399_1⟩ := at_T61 HR1.out x13_1 p399 q399
         cases e399
         replace p399 := eq_true p399
         replace q399 := eq_true q399
         go_wp2
         repeat (go_quiet (fail); try go_wp2)
         go_ret
         exact ⟨by first | rfl | (simp; done) | (simp [*]; done), by repeat (first | exact Drawn0.refl _ | apply Drawn0.step)⟩
        ·
         rw [if_neg c8] at H
         have c8b0 : (!((((rd_T61 l0 x13_1).f0).toList) == (((rd_T61 l1 x13_1).f0).toList)) || (!(((rd_T61 l0 x13_1).f1) == ((rd_T61 l1 x13_1).f1)))) = false := by simpa using c8
         clear c8
         have H' := Aside0.mk H
         clear H
         have p398 : 0 ≤ (x13_1 : Int) := of_decide_eq_true (by first | (with_reducible assumption) | assumption)
         have q398 : x13_1 < (l0.length : Int) := of_decide_eq_true (by first | (with_reducible assumption) | assumption)
         obtain ⟨ad398, e398, hx398_0, hx398_1⟩ := at_T61 HR0.out x13_1 p398 q398
         cases e398
         replace p398 := eq_true p398
         replace q398 := eq_true q398
         have p399 : 0 ≤ (x13_1 : Int) := of_decide_eq_true (by first | (with_reducible assumption) | assumption)
         have q399 : x13_1 < (l1.length : Int) := of_decide_eq_true (by first | (with_reducible assumption) | assumption)
         obtain ⟨ad399, e399, hx399_0, hx399_1⟩ := at_T61 HR1.out x13_1 p399 q399
         cases e399
         replace p399 := eq_true p399
         replace q399 := eq_true q399
         go_wp2
         repeat (go_quiet (fail); try go_wp2)
         go_roundg k1
         case measure => have := HK1.out; omega
         case rel => exact ⟨(wrap64 (x13_1 + 1)), (by first | rfl | (simp; done) | (simp [*]; done)), H', ⟨by have := HK1.out; omega⟩, by repeat (first | exact Drawn0.refl _ | apply Drawn0.step)⟩
       ·
        rw [if_neg c7] at H
        exact absurd H (by simp)
      ·
       rw [if_neg c6] at H
       exact absurd H (by simp)
     ·
      rw [if_neg c5] at H
      exact absurd H (by simp)
    ·
     rw [if_neg c4] at H
     have c4b0 : decide (x13_1 < (l0.length : Int)) = false := decide_eq_false c4
     clear c4
     obtain rfl := Option.some.inj H
     go_wp2
     repeat (go_quiet (fail); try go_wp2)
     go_ret
     exact ⟨by first | rfl | (simp; done) | (simp [*]; done), by repeat (first | exact Drawn0.refl _ | apply Drawn0.step)⟩
 ·
  rw [if_neg c3] at H
  have c3b0 : ((l0.length : Int) == (l1.length : Int)) = false := beq_eq_false_iff_ne.mpr c3
  have c3b1 : ((l0.length : Int) != (l1.length : Int)) = true := bne_iff_ne.mpr c3
  have c3b2 : (l0.length == l1.length) = false := by first | simpa using c3 | (simp at c3 ⊢; omega)
  obtain rfl := Option.some.inj H
  go_enter Tryd.func69, Tryd.ntmps69
  go_wp2
  repeat (go_quiet (fail); try go_wp2)
  go_ret
  exact ⟨by first | rfl | (simp; done) | (simp [*]; done), by repeat (first | exact Drawn0.refl _ | apply Drawn0.step)⟩
end Go.Proofs.YtnpnablnnfekkaaDoor.PTr
set_option linter.unusedVariables false
set_option linter.unusedSimpArgs false
namespace Go.Proofs.YtnpnablnnfekkaaDoor.PTr
open Go.RowKit Go.Proofs.YtnpnablnnfekkaaDoor Go.Proofs.YtnpnablnnfekkaaDoorW.PrintWords Go.Proofs.YtnpnablnnfekkaaDoorW.PrintLast Go.Proofs.YtnpnablnnfekkaaDoorW.PrintMore
def tree_SameNode.f (k : Nat) (a0_0 : Int) (a0_1 : Int) (a0_2 : Int) (a0_3 : Int) (a0_4 : Int) (a0_5 : ByteArray) (l0_6 : List (S61)) (a1_0 : Int) (a1_1 : Int) (a1_2 : Int) (a1_3 : Int) (a1_4 : Int) (a1_5 : ByteArray) (l1_6 : List (S61)) : Option (Bool) := if a0_0 = a1_0 then (if a0_1 = a1_1 then (if a0_2 = a1_2 then (if a0_3 = a1_3 then (if a0_4 = a1_4 then (if a0_5.toList = a1_5.toList then ((api_Entry_69.f k l0_6 l1_6).bind fun t402 => (some t402)) else (some false)) else (some false)) else (some false)) else (some false)) else (some false)) else (some false)
set_option maxHeartbeats 8000000 in
set_option maxRecDepth 100000 in
theorem tree_SameNode.calls (k : Nat) (a0 a1 a2 a3 a4 : Int) (a5 : ByteArray) (A : Option Addr) (c : Nat) (la : List (S61)) (b0 b1 b2 b3 b4 : Int) (b5 : ByteArray) (B : Option Addr) (e : Nat) (lb : List (S61)) (r : Bool) (w : World) (hra : Kd.C k61 w A la.length la) (hca : la.length ≤ c) (hrb : Kd.C k61 w B lb.length lb) (hcb : lb.length ≤ e) (h : tree_SameNode.f k a0 a1 a2 a3 a4 a5 la b0 b1 b2 b3 b4 b5 lb = some r) :
  Calls Tryd.prog 35 #[.agg #[.int .i64 a0, .int .i64 a1, .int .i64 a2, .int .i64 a3, .int .i64 a4, .string a5, .slice A la.length c], .agg #[.int .i64 b0, .int .i64 b1, .int .i64 b2, .int .i64 b3, .int .i64 b4, .string b5, .slice B lb.length e]] w fun e w' => e = .returned (.bool r) ∧ Below w.heap.size w w' := by
 have hu44 := Tryd.underlying44
 have HRA := Lib.hid hra
 have HCA := Lib.hid hca
 have HRB := Lib.hid hrb
 have HCB := Lib.hid hcb
 have H := Lib.hid h
 clear hra hca hrb hcb h
 go_enter Tryd.func35, Tryd.ntmps35
 go_upto_region 1 with (first | ((with_reducible refine gate_dst (N := 2) rfl ?_); refine box_event ?hg (N := 2) ?hd (cs := #[.int .i64 a0, .int .i64 a1, .int .i64 a2, .int .i64 a3, .int .i64 a4, .string a5, .slice A la.length c]) (t := 44) ?hr ?_; (case hd => rfl); (case hg => rfl); (case hr => first | (go_simp; done) | (go_simp; rfl)); intro g1 hgx w1 hbox hb; have B1 := Lib.hid hbox; have HB1 := Lib.hid (below_step (Below.refl w.heap.size w) hb); clear hbox hb hgx) | ((with_reducible refine gate_dst (N := 3) rfl ?_); refine box_event ?hg (N := 3) ?hd (cs := #[.int .i64 b0, .int .i64 b1, .int .i64 b2, .int .i64 b3, .int .i64 b4, .string b5, .slice B lb.length e]) (t := 44) ?hr ?_; (case hd => rfl); (case hg => rfl); (case hr => first | (go_simp; done) | (go_simp; rfl)); intro g2 hgx w2 hbox hb; have B2 := Lib.hid hbox; have C1 := Lib.hid (blk_below B1.out hb); have HB2 := Lib.hid (below_step HB1.out hb); clear hbox hb hgx))
 have x0 : w2.cell? ⟨g1, 0, none⟩ = some (.int .i64 a0) := (blk_cell C1.out 0).trans rfl
 have x1 : w2.cell? ⟨g1, 1, none⟩ = some (.int .i64 a1) := (blk_cell C1.out 1).trans rfl
 have x2 : w2.cell? ⟨g1, 2, none⟩ = some (.int .i64 a2) := (blk_cell C1.out 2).trans rfl
 have x3 : w2.cell? ⟨g1, 3, none⟩ = some (.int .i64 a3) := (blk_cell C1.out 3).trans rfl
 have x4 : w2.cell? ⟨g1, 4, none⟩ = some (.int .i64 a4) := (blk_cell C1.out 4).trans rfl
 have x5 : w2.cell? ⟨g1, 5, none⟩ = some (.string a5) := (blk_cell C1.out 5).trans rfl
 have x6 : w2.cell? ⟨g1, 6, none⟩ = some (.slice A la.length c) := (blk_cell C1.out 6).trans rfl
 have y0 : w2.cell? ⟨g2, 0, none⟩ = some (.int .i64 b0) := (blk_cell B2.out 0).trans rfl
 have y1 : w2.cell? ⟨g2, 1, none⟩ = some (.int .i64 b1) := (blk_cell B2.out 1).trans rfl
 have y2 : w2.cell? ⟨g2, 2, none⟩ = some (.int .i64 b2) := (blk_cell B2.out 2).trans rfl
 have y3 : w2.cell? ⟨g2, 3, none⟩ = some (.int .i64 b3) := (blk_cell B2.out 3).trans rfl
 have y4 : w2.cell? ⟨g2, 4, none⟩ = some (.int .i64 b4) := (blk_cell B2.out 4).trans rfl
 have y5 : w2.cell? ⟨g2, 5, none⟩ = some (.string b5) := (blk_cell B2.out 5).trans rfl
 have y6 : w2.cell? ⟨g2, 6, none⟩ = some (.slice B lb.length e) := (blk_cell B2.out 6).trans rfl
 have h := H.out
 clear H B1 HB1
 unfold tree_SameNode.f at h
 by_cases c0 : a0 = b0
 case neg =>
  rw [if_neg c0] at h
  have z0 : (a0 == b0) = false := beq_eq_false_iff_ne.mpr c0
  obtain rfl := Option.some.inj h
  clear h c0
  go_wp2
  go_ret
  exact ⟨rfl, HB2.out⟩
 rw [if_pos c0] at h
 have z0 : (a0 == b0) = true := beq_iff_eq.mpr c0
 clear c0
 by_cases c1 : a1 = b1
 case neg =>
  rw [if_neg c1] at h
  have z1 : (a1 == b1) = false := beq_eq_false_iff_ne.mpr c1
  obtain rfl := Option.some.inj h
  clear h c1
  go_wp2
  go_ret
  exact ⟨rfl, HB2.out⟩
 rw [if_pos c1] at h
 have z1 : (a1 == b1) = true := beq_iff_eq.mpr c1
 clear c1
 by_cases c2 : a2 = b2
 case neg =>
  rw [if_neg c2] at h
  have z2 : (a2 == b2) = false := beq_eq_false_iff_ne.mpr c2
  obtain rfl := Option.some.inj h
  clear h c2
  go_wp2
  go_ret
  exact ⟨rfl, HB2.out⟩
 rw [if_pos c2] at h
 have z2 : (a2 == b2) = true := beq_iff_eq.mpr c2
 clear c2
 by_cases c3 : a3 = b3
 case neg =>
  rw [if_neg c3] at h
  have z3 : (a3 == b3) = false := beq_eq_false_iff_ne.mpr c3
  obtain rfl := Option.some.inj h
  clear h c3
  go_wp2
  go_ret
  exact ⟨rfl, HB2.out⟩
 rw [if_pos c3] at h
 have z3 : (a3 == b3) = true := beq_iff_eq.mpr c3
 clear c3
 by_cases c4 : a4 = b4
 case neg =>
  rw [if_neg c4] at h
  have z4 : (a4 == b4) = false := beq_eq_false_iff_ne.mpr c4
  obtain rfl := Option.some.inj h
  clear h c4
  go_wp2
  go_ret
  exact ⟨rfl, HB2.out⟩
 rw [if_pos c4] at h
 have z4 : (a4 == b4) = true := beq_iff_eq.mpr c4
 clear c4
 by_cases c5 : a5.toList = b5.toList
 case neg =>
  rw [if_neg c5] at h
  have z5 : (a5.toList == b5.toList) = false := beq_eq_false_iff_ne.mpr c5
  obtain rfl := Option.some.inj h
  clear h c5
  go_wp2
  go_ret
  exact ⟨rfl, HB2.out⟩
 rw [if_pos c5] at h
 have z5 : (a5.toList == b5.toList) = true := beq_iff_eq.mpr c5
 obtain ⟨tt, ht, h⟩ := Option.bind_eq_some_iff.mp h
 obtain rfl := Option.some.inj h
 have HT := Lib.hid ht
 clear h c5 ht
 go_wp2_with (first | (go_at_call 69; (with_reducible refine (api_Entry_69.calls k _ _ la _ _ lb tt _ (Kd.C_below HRA.out HB2.out) HCA.out (Kd.C_below HRB.out HB2.out) HCB.out HT.out).mono ?_); rintro e w3 ⟨rfl, ⟨nd, rfl⟩⟩))
 go_ret
 exact ⟨rfl, pw_below_drewN HB2.out _⟩
end Go.Proofs.YtnpnablnnfekkaaDoor.PTr
set_option linter.unusedVariables false
set_option linter.unusedSimpArgs false
namespace Go.Proofs.YtnpnablnnfekkaaDoor.PTr
open Go.RowKit Go.Proofs.YtnpnablnnfekkaaDoor Go.Proofs.YtnpnablnnfekkaaDoorW.PrintWords Go.Proofs.YtnpnablnnfekkaaDoorW.PrintLast Go.Proofs.YtnpnablnnfekkaaDoorW.PrintMore
def api_Node.l0 : Nat → List (S44) → List (S44) → Int → Int → Option (Bool)
 | 0, _, _, _, _ => none
 | k + 1, x1, x15, x16, x17 => if x17 < x16 then (if 0 ≤ x17 then (if x17 < (x15.length : Int) then (if x17 < (x1.length : Int) then ((tree_SameNode.f k ((rd_T44 x15 x17).f0) ((rd_T44 x15 x17).f1) ((rd_T44 x15 x17).f2) ((rd_T44 x15 x17).f3) ((rd_T44 x15 x17).f4) ((rd_T44 x15 x17).f5) ((rd_T44 x15 x17).f6) ((rd_T44 x1 x17).f0) ((rd_T44 x1 x17).f1) ((rd_T44 x1 x17).f2) ((rd_T44 x1 x17).f3) ((rd_T44 x1 x17).f4) ((rd_T44 x1 x17).f5) ((rd_T44 x1 x17).f6)).bind fun t407 => (if t407 = true then (api_Node.l0 k x1 x15 x16 (wrap64 (x17 + 1))) else (some false))) else (none)) else (none)) else (none)) else (some true)
def api_Node.f (k : Nat) (l0 : List (S44)) (l1 : List (S44)) (a2 : Int) : Option (Bool) := if (l0.length : Int) = (l1.length : Int) then (api_Node.l0 k l1 l0 (l0.length : Int) 0) else (some false)
set_option maxHeartbeats 8000000 in
set_option maxRecDepth 100000 in
theorem api_Node.calls (k : Nat) (A0 : Option Addr) (c0 : Nat) (l0 : List (S44)) (A1 : Option Addr) (c1 : Nat) (l1 : List (S44)) (a2 : Int) (r : Bool) (w : World) (hr0 : Kd.C k44 w A0 l0.length l0) (hc0 : l0.length ≤ c0) (hr1 : Kd.C k44 w A1 l1.length l1) (hc1 : l1.length ≤ c1) (h : api_Node.f k l0 l1 a2 = some r) :
  Calls Tryd.prog 70 #[.slice A0 l0.length c0, .slice A1 l1.length c1, .func (.func 35) #[] #[]] w fun e w' => e = .returned (.bool r) ∧ Below w.heap.size w w' := by
 have HR0 := Lib.hid hr0
 have HR1 := Lib.hid hr1
 unfold api_Node.f at h
 clear hr0 hr1 hc0 hc1
 by_cases hl : (l0.length : Int) = (l1.length : Int)
 case neg =>
  rw [if_neg hl] at h
  obtain rfl := Option.some.inj h
  have b0 : ((l0.length : Int) != (l1.length : Int)) = true := bne_iff_ne.mpr hl
  have b1 : (l0.length != l1.length) = true := bne_iff_ne.mpr (fun e => hl (by rw [e]))
  clear h hl
  go_enter Tryd.func70, Tryd.ntmps70
  go_wp2
  go_ret
  exact ⟨rfl, Below.refl _ _⟩
 case pos =>
  rw [if_pos hl] at h
  have b0 : ((l0.length : Int) != (l1.length : Int)) = false := bne_eq_false_iff_eq.mpr hl
  have b1 : (l0.length != l1.length) = false := bne_eq_false_iff_eq.mpr (by omega)
  have HLL : Hid (l0.length = l1.length) := Lib.hid (by omega)
  have H : Hid (api_Node.l0 k l1 l0 (l0.length : Int) ((0 : Nat) : Int) = some r) := Lib.hid h
  clear h hl
  go_enter Tryd.func70, Tryd.ntmps70
  go_wp2
  go_loopg [17] k (fun kq v17 w' => ∃ i : Nat, v17 = .int .i64 i ∧ i ≤ l0.length ∧ Hid (api_Node.l0 kq l1 l0 (l0.length : Int) (i : Int) = some r) ∧ Hid (Below w.heap.size w w'))
  case atStart => exact ⟨0, rfl, Nat.zero_le _, H, Lib.hid (Below.refl _ _)⟩
  case round =>
   clear H
   obtain ⟨i, rfl, hi, H, HB⟩ := hrel
   cases gk with
   | zero => exact absurd H.out (by simp [api_Node.l0])
   | succ k1 =>
    have h := H.out
    clear H
    simp only [api_Node.l0] at h
    by_cases hlt : i < l0.length
    ·
     have i0 : decide (0 ≤ (i : Int)) = true := decide_eq_true (by omega)
     have i1 : decide ((i : Int) < (l0.length : Int)) = true := decide_eq_true (by omega)
     have i2 : decide ((i : Int) < (l1.length : Int)) = true := decide_eq_true (by have := HLL.out; omega)
     have i1n : (i < l0.length) = True := eq_true hlt
     have i2n : (i < l1.length) = True := eq_true (by have := HLL.out; omega)
     rw [if_pos (of_decide_eq_true i1), if_pos (of_decide_eq_true i0), if_pos (of_decide_eq_true i1), if_pos (of_decide_eq_true i2)] at h
     obtain ⟨ad, A6, c6, ea, x0, x1, x2, x3, x4, x5, x6, hlx, hcx⟩ := at_T44 HR0.out (i : Int) (by omega) (by omega)
     cases ea
     obtain ⟨bd, B6, e6, eb, y0, y1, y2, y3, y4, y5, y6, hly, hcy⟩ := at_T44 HR1.out (i : Int) (by omega) (by have := HLL.out; omega)
     cases eb
     generalize rd_T44 l0 (i : Int) = x at h x0 x1 x2 x3 x4 x5 x6 hlx hcx
     generalize rd_T44 l1 (i : Int) = y at h y0 y1 y2 y3 y4 y5 y6 hly hcy
     rw [Int.toNat_natCast] at x0 x1 x2 x3 x4 x5 x6 y0 y1 y2 y3 y4 y5 y6
     obtain ⟨tt, ht, h⟩ := Option.bind_eq_some_iff.mp h
     have HT := Lib.hid ht
     have HCX := Lib.hid hcx
     have HLX := Lib.hid hlx
     have HCY := Lib.hid hcy
     have HLY := Lib.hid hly
     replace x0 := cellB x0 HB.out
     replace x1 := cellB x1 HB.out
     replace x2 := cellB x2 HB.out
     replace x3 := cellB x3 HB.out
     replace x4 := cellB x4 HB.out
     replace x5 := cellB x5 HB.out
     replace x6 := cellB x6 HB.out
     have Y0 := Lib.hid y0
     have Y1 := Lib.hid y1
     have Y2 := Lib.hid y2
     have Y3 := Lib.hid y3
     have Y4 := Lib.hid y4
     have Y5 := Lib.hid y5
     have Y6 := Lib.hid y6
     have HLT := Lib.hid hlt
     have HWR : Hid (i + 1 ≤ 9223372036854775807 → wrap64 ((i : Int) + 1) = ((i + 1 : Nat) : Int)) := Lib.hid (fun h => by unfold wrap64; omega)
     have hcap : l0.length ≤ 9223372036854775807 := HR0.out.2.1
     have HWI : Hid (wrap64 ((i : Int) + 1) = ((i + 1 : Nat) : Int)) := Lib.hid (HWR.out (by omega))
     clear hcap HWR ht hcx hlx hcy hly y0 y1 y2 y3 y4 y5 y6 hlt hi
     cases tt with
     | true =>
      have h' := (if_pos (rfl : true = true)).symm.trans h
      have H := Lib.hid h'
      clear h h'
      go_upto_region 7 with (first | ((with_reducible refine gate_dst (N := 8) rfl ?_); refine box_event ?hg (N := 8) ?hd (cs := zN) (t := 44) ?hr ?_; (case hd => rfl); (case hg => rfl); (case hr => first | (go_simp; done) | (go_simp; rfl)); intro g8 hgx w2 hbox hb; have BB := Lib.hid hbox; have HBB := Lib.hid hb; have HGG := Lib.hid hgx; clear hbox hb hgx) | (refine store_box rfl rfl (.tmp 8) (.tmp 21) rfl (x0 := x.f0) (x1 := x.f1) (x2 := x.f2) (x3 := x.f3) (x4 := x.f4) (x5 := x.f5) rfl rfl BB.out HGG.out HBB.out ?_; intro w3 hb3 hw3; have BX := Lib.hid hb3; have HB3 := Lib.hid (below_step HB.out hw3); clear hb3 hw3 BB HBB HGG x0 x1 x2 x3 x4 x5 x6; have y0 := cellB Y0.out HB3.out; have y1 := cellB Y1.out HB3.out; have y2 := cellB Y2.out HB3.out; have y3 := cellB Y3.out HB3.out; have y4 := cellB Y4.out HB3.out; have y5 := cellB Y5.out HB3.out; have y6 := cellB Y6.out HB3.out) | ((with_reducible refine gate_dst (N := 9) rfl ?_); refine box_event ?hg (N := 9) ?hd (cs := zN) (t := 44) ?hr ?_; (case hd => rfl); (case hg => rfl); (case hr => first | (go_simp; done) | (go_simp; rfl)); intro g9 hgx w4 hbox hb; have BB := Lib.hid hbox; have HBB := Lib.hid hb; have HGG := Lib.hid hgx; clear hbox hb hgx) | (refine store_box rfl rfl (.tmp 9) (.tmp 25) rfl (x0 := y.f0) (x1 := y.f1) (x2 := y.f2) (x3 := y.f3) (x4 := y.f4) (x5 := y.f5) rfl rfl BB.out HGG.out HBB.out ?_; intro w5 hb5 hw5; have BY := Lib.hid hb5; have HB5 := Lib.hid (below_step HB3.out hw5); replace BX := Lib.hid (blk_below BX.out hw5); clear hb5 hw5 BB HBB HGG y0 y1 y2 y3 y4 y5 y6))
      have n0 : w5.cell? ⟨g8, 0, none⟩ = some (.int .i64 x.f0) := (blk_cell BX.out 0).trans rfl
      have n1 : w5.cell? ⟨g8, 1, none⟩ = some (.int .i64 x.f1) := (blk_cell BX.out 1).trans rfl
      have n2 : w5.cell? ⟨g8, 2, none⟩ = some (.int .i64 x.f2) := (blk_cell BX.out 2).trans rfl
      have n3 : w5.cell? ⟨g8, 3, none⟩ = some (.int .i64 x.f3) := (blk_cell BX.out 3).trans rfl
      have n4 : w5.cell? ⟨g8, 4, none⟩ = some (.int .i64 x.f4) := (blk_cell BX.out 4).trans rfl
      have n5 : w5.cell? ⟨g8, 5, none⟩ = some (.string x.f5) := (blk_cell BX.out 5).trans rfl
      have n6 : w5.cell? ⟨g8, 6, none⟩ = some (.slice A6 x.f6.length c6) := (blk_cell BX.out 6).trans rfl
      have m0 : w5.cell? ⟨g9, 0, none⟩ = some (.int .i64 y.f0) := (blk_cell BY.out 0).trans rfl
      have m1 : w5.cell? ⟨g9, 1, none⟩ = some (.int .i64 y.f1) := (blk_cell BY.out 1).trans rfl
      have m2 : w5.cell? ⟨g9, 2, none⟩ = some (.int .i64 y.f2) := (blk_cell BY.out 2).trans rfl
      have m3 : w5.cell? ⟨g9, 3, none⟩ = some (.int .i64 y.f3) := (blk_cell BY.out 3).trans rfl
      have m4 : w5.cell? ⟨g9, 4, none⟩ = some (.int .i64 y.f4) := (blk_cell BY.out 4).trans rfl
      have m5 : w5.cell? ⟨g9, 5, none⟩ = some (.string y.f5) := (blk_cell BY.out 5).trans rfl
      have m6 : w5.cell? ⟨g9, 6, none⟩ = some (.slice B6 y.f6.length e6) := (blk_cell BY.out 6).trans rfl
      go_wp2_with (first | (go_at_call 35; (with_reducible refine (tree_SameNode.calls k1 x.f0 x.f1 x.f2 x.f3 x.f4 x.f5 A6 c6 x.f6 y.f0 y.f1 y.f2 y.f3 y.f4 y.f5 B6 e6 y.f6 _ _ (Kd.C_below HCX.out HB5.out) HLX.out (Kd.C_below HCY.out HB5.out) HLY.out HT.out).mono ?_); rintro e w6 ⟨rfl, hb⟩; have HB6 := Lib.hid (below_step HB5.out hb); clear hb))
      go_roundg k1
      case measure => omega
      case rel => exact ⟨i + 1, by rw [HWI.out], HLT.out, Lib.hid (by rw [← HWI.out]; exact H.out), HB6⟩
     | false =>
      have h' := (if_neg (by simp : ¬ false = true)).symm.trans h
      obtain rfl := Option.some.inj h'
      clear h h'
      go_upto_region 7 with (first | ((with_reducible refine gate_dst (N := 8) rfl ?_); refine box_event ?hg (N := 8) ?hd (cs := zN) (t := 44) ?hr ?_; (case hd => rfl); (case hg => rfl); (case hr => first | (go_simp; done) | (go_simp; rfl)); intro g8 hgx w2 hbox hb; have BB := Lib.hid hbox; have HBB := Lib.hid hb; have HGG := Lib.hid hgx; clear hbox hb hgx) | (refine store_box rfl rfl (.tmp 8) (.tmp 21) rfl (x0 := x.f0) (x1 := x.f1) (x2 := x.f2) (x3 := x.f3) (x4 := x.f4) (x5 := x.f5) rfl rfl BB.out HGG.out HBB.out ?_; intro w3 hb3 hw3; have BX := Lib.hid hb3; have HB3 := Lib.hid (below_step HB.out hw3); clear hb3 hw3 BB HBB HGG x0 x1 x2 x3 x4 x5 x6; have y0 := cellB Y0.out HB3.out; have y1 := cellB Y1.out HB3.out; have y2 := cellB Y2.out HB3.out; have y3 := cellB Y3.out HB3.out; have y4 := cellB Y4.out HB3.out; have y5 := cellB Y5.out HB3.out; have y6 := cellB Y6.out HB3.out) | ((with_reducible refine gate_dst (N := 9) rfl ?_); refine box_event ?hg (N := 9) ?hd (cs := zN) (t := 44) ?hr ?_; (case hd => rfl); (case hg => rfl); (case hr => first | (go_simp; done) | (go_simp; rfl)); intro g9 hgx w4 hbox hb; have BB := Lib.hid hbox; have HBB := Lib.hid hb; have HGG := Lib.hid hgx; clear hbox hb hgx) | (refine store_box rfl rfl (.tmp 9) (.tmp 25) rfl (x0 := y.f0) (x1 := y.f1) (x2 := y.f2) (x3 := y.f3) (x4 := y.f4) (x5 := y.f5) rfl rfl BB.out HGG.out HBB.out ?_; intro w5 hb5 hw5; have BY := Lib.hid hb5; have HB5 := Lib.hid (below_step HB3.out hw5); replace BX := Lib.hid (blk_below BX.out hw5); clear hb5 hw5 BB HBB HGG y0 y1 y2 y3 y4 y5 y6))
      have n0 : w5.cell? ⟨g8, 0, none⟩ = some (.int .i64 x.f0) := (blk_cell BX.out 0).trans rfl
      have n1 : w5.cell? ⟨g8, 1, none⟩ = some (.int .i64 x.f1) := (blk_cell BX.out 1).trans rfl
      have n2 : w5.cell? ⟨g8, 2, none⟩ = some (.int .i64 x.f2) := (blk_cell BX.out 2).trans rfl
      have n3 : w5.cell? ⟨g8, 3, none⟩ = some (.int .i64 x.f3) := (blk_cell BX.out 3).trans rfl
      have n4 : w5.cell? ⟨g8, 4, none⟩ = some (.int .i64 x.f4) := (blk_cell BX.out 4).trans rfl
      have n5 : w5.cell? ⟨g8, 5, none⟩ = some (.string x.f5) := (blk_cell BX.out 5).trans rfl
      have n6 : w5.cell? ⟨g8, 6, none⟩ = some (.slice A6 x.f6.length c6) := (blk_cell BX.out 6).trans rfl
      have m0 : w5.cell? ⟨g9, 0, none⟩ = some (.int .i64 y.f0) := (blk_cell BY.out 0).trans rfl
      have m1 : w5.cell? ⟨g9, 1, none⟩ = some (.int .i64 y.f1) := (blk_cell BY.out 1).trans rfl
      have m2 : w5.cell? ⟨g9, 2, none⟩ = some (.int .i64 y.f2) := (blk_cell BY.out 2).trans rfl
      have m3 : w5.cell? ⟨g9, 3, none⟩ = some (.int .i64 y.f3) := (blk_cell BY.out 3).trans rfl
      have m4 : w5.cell? ⟨g9, 4, none⟩ = some (.int .i64 y.f4) := (blk_cell BY.out 4).trans rfl
      have m5 : w5.cell? ⟨g9, 5, none⟩ = some (.string y.f5) := (blk_cell BY.out 5).trans rfl
      have m6 : w5.cell? ⟨g9, 6, none⟩ = some (.slice B6 y.f6.length e6) := (blk_cell BY.out 6).trans rfl
      go_wp2_with (first | (go_at_call 35; (with_reducible refine (tree_SameNode.calls k1 x.f0 x.f1 x.f2 x.f3 x.f4 x.f5 A6 c6 x.f6 y.f0 y.f1 y.f2 y.f3 y.f4 y.f5 B6 e6 y.f6 _ _ (Kd.C_below HCX.out HB5.out) HLX.out (Kd.C_below HCY.out HB5.out) HLY.out HT.out).mono ?_); rintro e w6 ⟨rfl, hb⟩; have HB6 := Lib.hid (below_step HB5.out hb); clear hb))
      go_ret
      exact ⟨rfl, HB6.out⟩
    ·
     obtain rfl : i = l0.length := by omega
     rw [if_neg (by omega)] at h
     obtain rfl := Option.some.inj h
     clear h hlt hi
     go_wp2
     go_ret
     exact ⟨rfl, HB.out⟩
end Go.Proofs.YtnpnablnnfekkaaDoor.PTr
set_option linter.unusedVariables false
set_option linter.unusedSimpArgs false
namespace Go.Proofs.YtnpnablnnfekkaaDoor.PTr
open Go.RowKit Go.Proofs.YtnpnablnnfekkaaDoor Go.Proofs.YtnpnablnnfekkaaDoorW.PrintWords Go.Proofs.YtnpnablnnfekkaaDoorW.PrintLast Go.Proofs.YtnpnablnnfekkaaDoorW.PrintMore
def tree_Same.f (k : Nat) (l0_0 : List (S44)) (a0_1 : Int) (a0_2 : Int) (a0_3 : Int) (l1_0 : List (S44)) (a1_1 : Int) (a1_2 : Int) (a1_3 : Int) : Option (Bool) := (tree_Canon.f l0_0 a0_1 a0_2 a0_3).bind fun bt410 => ((tree_Canon.f l1_0 a1_1 a1_2 a1_3).bind fun bt418 => (if bt410.2.2.2.2 = 0 then (if bt418.2.2.2.2 = 0 then ((api_Node.f k bt410.1 bt418.1 77700035).bind fun t426 => (some t426)) else (some false)) else (some false)))
theorem tree_Sameblk {w : World} {g g' t t' : Nat} {cs : Array Value} (hz : w.heap[g']? = some (.cells zTb t' (0, 0))) (h : w.heap[g]? = some (.cells cs t (0, 0))) (ne : g ≠ g') (x0 x1 x2 x3 : Value) : (w.setCells g' 0 (#[x0, x1, x2, x3] : Array Value).toList).heap[g]? = some (.cells cs t (0, 0)) :=
 blk_far (blk_far (blk_far (blk_far h ne _) ne _) ne _) ne _
set_option maxHeartbeats 8000000 in
set_option maxRecDepth 100000 in
theorem tree_Same.calls (k : Nat) (A : Option Addr) (c : Nat) (l : List S44) (a1 : Int) (a2 : Int) (a3 : Int) (A' : Option Addr) (c' : Nat) (l' : List S44) (b1 : Int) (b2 : Int) (b3 : Int) (r : Bool) (w : World) (hr : Kd.C k44 w A l.length l) (hc : l.length ≤ c) (hr' : Kd.C k44 w A' l'.length l') (hc' : l'.length ≤ c') (h : tree_Same.f k l a1 a2 a3 l' b1 b2 b3 = some r) :
  Calls Tryd.prog 36 #[.agg #[.slice A l.length c, .int .i64 a1, .int .i64 a2, .int .i64 a3], .agg #[.slice A' l'.length c', .int .i64 b1, .int .i64 b2, .int .i64 b3]] w fun e w' => e = .returned (.bool r) ∧ Below w.heap.size w w' := by
 have hu26 := Tryd.underlying26
 have HR := Lib.hid hr
 have HC := Lib.hid hc
 have HR' := Lib.hid hr'
 have HC' := Lib.hid hc'
 unfold tree_Same.f at h
 obtain ⟨⟨x0, x1, x2, x3, x4⟩, ha, h⟩ := Option.bind_eq_some_iff.mp h
 obtain ⟨⟨y0, y1, y2, y3, y4⟩, ha', h⟩ := Option.bind_eq_some_iff.mp h
 have HA := Lib.hid ha
 have HA' := Lib.hid ha'
 have H := Lib.hid h
 clear hr hc hr' hc' ha ha' h
 go_enter Tryd.func36, Tryd.ntmps36
 go_upto_region 3 with (first | ((with_reducible refine gate_dst (N := 2) rfl ?_); refine box_event ?hg (N := 2) ?hd (cs := #[.slice A l.length c, .int .i64 a1, .int .i64 a2, .int .i64 a3]) (t := 26) ?hr ?_; (case hd => rfl); (case hg => rfl); (case hr => first | (go_simp; done) | (go_simp; rfl)); intro g1 hg1 w1 hbox hb; have B1 := Lib.hid hbox; have HB1 := Lib.hid (below_step (Below.refl w.heap.size w) hb); clear hbox hb hg1) | ((with_reducible refine gate_dst (N := 3) rfl ?_); refine box_event ?hg (N := 3) ?hd (cs := #[.slice A' l'.length c', .int .i64 b1, .int .i64 b2, .int .i64 b3]) (t := 26) ?hr ?_; (case hd => rfl); (case hg => rfl); (case hr => first | (go_simp; done) | (go_simp; rfl)); intro g2 hg2 w2 hbox hb; have B2 := Lib.hid hbox; have C1 := Lib.hid (blk_below B1.out hb); have HB2 := Lib.hid (below_step HB1.out hb); have d0 : w2.cell? ⟨g1, 0, none⟩ = some (.slice A l.length c) := (blk_cell C1.out 0).trans rfl; have d1 : w2.cell? ⟨g1, 1, none⟩ = some (.int .i64 a1) := (blk_cell C1.out 1).trans rfl; have d2 : w2.cell? ⟨g1, 2, none⟩ = some (.int .i64 a2) := (blk_cell C1.out 2).trans rfl; have d3 : w2.cell? ⟨g1, 3, none⟩ = some (.int .i64 a3) := (blk_cell C1.out 3).trans rfl; clear hbox hb hg2 C1 B1 HB1) | (go_at_call 24; (with_reducible refine (tree_Canon.calls _ _ l a1 a2 a3 x0 x1 x2 x3 x4 _ (Kd.C_below HR.out HB2.out) HC.out HA.out).mono ?_); rintro e w3 ⟨v3, rfl, hs, hb⟩; obtain ⟨A3, c3, e3⟩ := Kd.S_slice hs; subst e3; have HB3 := Lib.hid (below_step HB2.out hb); have S3 := Lib.hid (Kd.S_lower hs (below_size HB2.out)); have B3 := Lib.hid (blk_below B2.out hb); clear hs hb d0 d1 d2 d3 B2) | ((with_reducible refine gate_dst (N := 5) rfl ?_); refine box_event ?hg (N := 5) ?hd (cs := zTb) (t := 26) ?hr ?_; (case hd => rfl); (case hg => rfl); (case hr => first | (go_simp; done) | (go_simp; rfl)); intro g5 hg5 w4 hbox hb; refine store_tree rfl rfl (.tmp 5) (.tmp 12) rfl (b1 := x1) (b2 := x2) (b3 := x3) rfl rfl hbox ?_; have X := Lib.hid (BSt.init HB3.out S3.out hb hbox hg5 x1 x2 x3); have B4 := Lib.hid (tree_Sameblk hbox (blk_below B3.out hb) (by rw [hg5]; exact Nat.ne_of_lt (blk_lt B3.out)) (.slice A3 x0.length c3) (.int .i64 x1) (.int .i64 x2) (.int .i64 x3)); clear hbox hb hg5 HB3 S3 B3 HB2; generalize w4.setCells _ _ _ = w5 at X B4 ⊢; have d0 : w5.cell? ⟨g2, 0, none⟩ = some (.slice A' l'.length c') := (blk_cell B4.out 0).trans rfl; have d1 : w5.cell? ⟨g2, 1, none⟩ = some (.int .i64 b1) := (blk_cell B4.out 1).trans rfl; have d2 : w5.cell? ⟨g2, 2, none⟩ = some (.int .i64 b2) := (blk_cell B4.out 2).trans rfl; have d3 : w5.cell? ⟨g2, 3, none⟩ = some (.int .i64 b3) := (blk_cell B4.out 3).trans rfl; clear B4) | (go_at_call 24; (with_reducible refine (tree_Canon.calls _ _ l' b1 b2 b3 y0 y1 y2 y3 y4 _ (Kd.C_below HR'.out X.out.hb) HC'.out HA'.out).mono ?_); rintro e w6 ⟨v6, rfl, hs, hb⟩; obtain ⟨A6, c6, e6⟩ := Kd.S_slice hs; subst e6; have S6 := Lib.hid (Kd.S_lower hs (below_size X.out.hb)); replace X := Lib.hid (X.out.below hb); clear hs hb d0 d1 d2 d3) | ((with_reducible refine gate_dst (N := 7) rfl ?_); refine box_event ?hg (N := 7) ?hd (cs := zTb) (t := 26) ?hr ?_; (case hd => rfl); (case hg => rfl); (case hr => first | (go_simp; done) | (go_simp; rfl)); intro g7 hg7 w7 hbox hb; refine store_tree rfl rfl (.tmp 7) (.tmp 17) rfl (b1 := y1) (b2 := y2) (b3 := y3) rfl rfl hbox ?_; have Y := Lib.hid (BSt.init X.out.hb S6.out hb hbox hg7 y1 y2 y3); replace X := Lib.hid (X.out.beside hb hbox hg7 (.slice A6 y0.length c6) (.int .i64 y1) (.int .i64 y2) (.int .i64 y3)); clear hbox hb hg7 S6; generalize w7.setCells _ _ _ = w8 at X Y ⊢))
 have f0 : w8.cell? ⟨g5, 0, none⟩ = some (.slice A3 x0.length c3) := (blk_cell X.out.b 0).trans rfl
 have f1 : w8.cell? ⟨g7, 0, none⟩ = some (.slice A6 y0.length c6) := (blk_cell Y.out.b 0).trans rfl
 have h := H.out
 clear H
 by_cases c5 : x4 = 0
 ·
  have k5 : (x4 == 0) = true := beq_iff_eq.mpr c5
  by_cases c6 : y4 = 0
  ·
   have k6 : (y4 == 0) = true := beq_iff_eq.mpr c6
   simp only [c5, c6, if_true] at h
   obtain ⟨t, hq, h⟩ := Option.bind_eq_some_iff.mp h
   obtain rfl := Option.some.inj h
   have HQ := Lib.hid hq
   clear hq h c5 c6
   go_wp2_with (first | (go_at_call 70; (with_reducible refine (api_Node.calls k _ _ x0 _ _ y0 77700035 _ _ (Kd.S_reads' X.out.s).2.2 (Kd.S_reads' X.out.s).2.1 (Kd.S_reads' Y.out.s).2.2 (Kd.S_reads' Y.out.s).2.1 HQ.out).mono ?_); rintro e w9 ⟨rfl, hb⟩; have HB9 := Lib.hid (below_step X.out.hb hb); clear hb))
   go_ret
   exact ⟨rfl, HB9.out⟩
  ·
   have k6 : (y4 == 0) = false := beq_eq_false_iff_ne.mpr c6
   simp only [c5, c6, if_true, if_false] at h
   obtain rfl := Option.some.inj h
   clear h c5 c6
   go_wp2
   go_ret
   exact ⟨rfl, X.out.hb⟩
 ·
  have k5 : (x4 == 0) = false := beq_eq_false_iff_ne.mpr c5
  simp only [c5, if_false] at h
  obtain rfl := Option.some.inj h
  clear h c5
  go_wp2
  go_ret
  exact ⟨rfl, X.out.hb⟩
end Go.Proofs.YtnpnablnnfekkaaDoor.PTr
set_option linter.unusedVariables false
set_option linter.unusedSimpArgs false
namespace Go.Proofs.YtnpnablnnfekkaaDoor.PTr
open Go.RowKit Go.Proofs.YtnpnablnnfekkaaDoor Go.Proofs.YtnpnablnnfekkaaDoorW.PrintWords Go.Proofs.YtnpnablnnfekkaaDoorW.PrintLast Go.Proofs.YtnpnablnnfekkaaDoorW.PrintMore
def rehearsalref04_Same.f (k : Nat) (l0_0 : List (S44)) (a0_1 : Int) (a0_2 : Int) (a0_3 : Int) (l1_0 : List (S44)) (a1_1 : Int) (a1_2 : Int) (a1_3 : Int) : Option (Bool) := (rehearsalref04_Canon.f k l0_0 a0_1 a0_2 a0_3).bind fun bt429 => ((rehearsalref04_Canon.f k l1_0 a1_1 a1_2 a1_3).bind fun bt437 => (if bt429.2.2.2.2 = 0 then (if bt437.2.2.2.2 = 0 then ((rehearsalref04_Nodes.f k bt429.1 bt437.1).bind fun t445 => (some t445)) else (some false)) else (some false)))
theorem rehearsalref04_Sameblk {w : World} {g g' t t' : Nat} {cs : Array Value} (hz : w.heap[g']? = some (.cells zTb t' (0, 0))) (h : w.heap[g]? = some (.cells cs t (0, 0))) (ne : g ≠ g') (x0 x1 x2 x3 : Value) : (w.setCells g' 0 (#[x0, x1, x2, x3] : Array Value).toList).heap[g]? = some (.cells cs t (0, 0)) :=
 blk_far (blk_far (blk_far (blk_far h ne _) ne _) ne _) ne _
set_option maxHeartbeats 8000000 in
set_option maxRecDepth 100000 in
theorem rehearsalref04_Same.calls (k : Nat) (A : Option Addr) (c : Nat) (l : List S44) (a1 : Int) (a2 : Int) (a3 : Int) (A' : Option Addr) (c' : Nat) (l' : List S44) (b1 : Int) (b2 : Int) (b3 : Int) (r : Bool) (w : World) (hr : Kd.C k44 w A l.length l) (hc : l.length ≤ c) (hr' : Kd.C k44 w A' l'.length l') (hc' : l'.length ≤ c') (h : rehearsalref04_Same.f k l a1 a2 a3 l' b1 b2 b3 = some r) :
  Calls Tryd.prog 37 #[.agg #[.slice A l.length c, .int .i64 a1, .int .i64 a2, .int .i64 a3], .agg #[.slice A' l'.length c', .int .i64 b1, .int .i64 b2, .int .i64 b3]] w fun e w' => e = .returned (.bool r) ∧ Below w.heap.size w w' := by
 have hu26 := Tryd.underlying26
 have HR := Lib.hid hr
 have HC := Lib.hid hc
 have HR' := Lib.hid hr'
 have HC' := Lib.hid hc'
 unfold rehearsalref04_Same.f at h
 obtain ⟨⟨x0, x1, x2, x3, x4⟩, ha, h⟩ := Option.bind_eq_some_iff.mp h
 obtain ⟨⟨y0, y1, y2, y3, y4⟩, ha', h⟩ := Option.bind_eq_some_iff.mp h
 have HA := Lib.hid ha
 have HA' := Lib.hid ha'
 have H := Lib.hid h
 clear hr hc hr' hc' ha ha' h
 go_enter Tryd.func37, Tryd.ntmps37
 go_upto_region 3 with (first | ((with_reducible refine gate_dst (N := 2) rfl ?_); refine box_event ?hg (N := 2) ?hd (cs := #[.slice A l.length c, .int .i64 a1, .int .i64 a2, .int .i64 a3]) (t := 26) ?hr ?_; (case hd => rfl); (case hg => rfl); (case hr => first | (go_simp; done) | (go_simp; rfl)); intro g1 hg1 w1 hbox hb; have B1 := Lib.hid hbox; have HB1 := Lib.hid (below_step (Below.refl w.heap.size w) hb); clear hbox hb hg1) | ((with_reducible refine gate_dst (N := 3) rfl ?_); refine box_event ?hg (N := 3) ?hd (cs := #[.slice A' l'.length c', .int .i64 b1, .int .i64 b2, .int .i64 b3]) (t := 26) ?hr ?_; (case hd => rfl); (case hg => rfl); (case hr => first | (go_simp; done) | (go_simp; rfl)); intro g2 hg2 w2 hbox hb; have B2 := Lib.hid hbox; have C1 := Lib.hid (blk_below B1.out hb); have HB2 := Lib.hid (below_step HB1.out hb); have d0 : w2.cell? ⟨g1, 0, none⟩ = some (.slice A l.length c) := (blk_cell C1.out 0).trans rfl; have d1 : w2.cell? ⟨g1, 1, none⟩ = some (.int .i64 a1) := (blk_cell C1.out 1).trans rfl; have d2 : w2.cell? ⟨g1, 2, none⟩ = some (.int .i64 a2) := (blk_cell C1.out 2).trans rfl; have d3 : w2.cell? ⟨g1, 3, none⟩ = some (.int .i64 a3) := (blk_cell C1.out 3).trans rfl; clear hbox hb hg2 C1 B1 HB1) | (go_at_call 25; (with_reducible refine (rehearsalref04_Canon.calls k _ _ l a1 a2 a3 x0 x1 x2 x3 x4 _ (Kd.C_below HR.out HB2.out) HC.out HA.out).mono ?_); rintro e w3 ⟨v3, rfl, hs, hb⟩; obtain ⟨A3, c3, e3⟩ := Kd.S_slice hs; subst e3; have HB3 := Lib.hid (below_step HB2.out hb); have S3 := Lib.hid (Kd.S_lower hs (below_size HB2.out)); have B3 := Lib.hid (blk_below B2.out hb); clear hs hb d0 d1 d2 d3 B2) | ((with_reducible refine gate_dst (N := 5) rfl ?_); refine box_event ?hg (N := 5) ?hd (cs := zTb) (t := 26) ?hr ?_; (case hd => rfl); (case hg => rfl); (case hr => first | (go_simp; done) | (go_simp; rfl)); intro g5 hg5 w4 hbox hb; refine store_tree rfl rfl (.tmp 5) (.tmp 12) rfl (b1 := x1) (b2 := x2) (b3 := x3) rfl rfl hbox ?_; have X := Lib.hid (BSt.init HB3.out S3.out hb hbox hg5 x1 x2 x3); have B4 := Lib.hid (rehearsalref04_Sameblk hbox (blk_below B3.out hb) (by rw [hg5]; exact Nat.ne_of_lt (blk_lt B3.out)) (.slice A3 x0.length c3) (.int .i64 x1) (.int .i64 x2) (.int .i64 x3)); clear hbox hb hg5 HB3 S3 B3 HB2; generalize w4.setCells _ _ _ = w5 at X B4 ⊢; have d0 : w5.cell? ⟨g2, 0, none⟩ = some (.slice A' l'.length c') := (blk_cell B4.out 0).trans rfl; have d1 : w5.cell? ⟨g2, 1, none⟩ = some (.int .i64 b1) := (blk_cell B4.out 1).trans rfl; have d2 : w5.cell? ⟨g2, 2, none⟩ = some (.int .i64 b2) := (blk_cell B4.out 2).trans rfl; have d3 : w5.cell? ⟨g2, 3, none⟩ = some (.int .i64 b3) := (blk_cell B4.out 3).trans rfl; clear B4) | (go_at_call 25; (with_reducible refine (rehearsalref04_Canon.calls k _ _ l' b1 b2 b3 y0 y1 y2 y3 y4 _ (Kd.C_below HR'.out X.out.hb) HC'.out HA'.out).mono ?_); rintro e w6 ⟨v6, rfl, hs, hb⟩; obtain ⟨A6, c6, e6⟩ := Kd.S_slice hs; subst e6; have S6 := Lib.hid (Kd.S_lower hs (below_size X.out.hb)); replace X := Lib.hid (X.out.below hb); clear hs hb d0 d1 d2 d3) | ((with_reducible refine gate_dst (N := 7) rfl ?_); refine box_event ?hg (N := 7) ?hd (cs := zTb) (t := 26) ?hr ?_; (case hd => rfl); (case hg => rfl); (case hr => first | (go_simp; done) | (go_simp; rfl)); intro g7 hg7 w7 hbox hb; refine store_tree rfl rfl (.tmp 7) (.tmp 17) rfl (b1 := y1) (b2 := y2) (b3 := y3) rfl rfl hbox ?_; have Y := Lib.hid (BSt.init X.out.hb S6.out hb hbox hg7 y1 y2 y3); replace X := Lib.hid (X.out.beside hb hbox hg7 (.slice A6 y0.length c6) (.int .i64 y1) (.int .i64 y2) (.int .i64 y3)); clear hbox hb hg7 S6; generalize w7.setCells _ _ _ = w8 at X Y ⊢))
 have f0 : w8.cell? ⟨g5, 0, none⟩ = some (.slice A3 x0.length c3) := (blk_cell X.out.b 0).trans rfl
 have f1 : w8.cell? ⟨g7, 0, none⟩ = some (.slice A6 y0.length c6) := (blk_cell Y.out.b 0).trans rfl
 have h := H.out
 clear H
 by_cases c5 : x4 = 0
 ·
  have k5 : (x4 == 0) = true := beq_iff_eq.mpr c5
  by_cases c6 : y4 = 0
  ·
   have k6 : (y4 == 0) = true := beq_iff_eq.mpr c6
   simp only [c5, c6, if_true] at h
   obtain ⟨t, hq, h⟩ := Option.bind_eq_some_iff.mp h
   obtain rfl := Option.some.inj h
   have HQ := Lib.hid hq
   clear hq h c5 c6
   go_wp2_with (first | (go_at_call 63; (with_reducible refine (rehearsalref04_Nodes.calls k _ _ x0 _ _ y0 _ _ (Kd.S_reads' X.out.s).2.2 (Kd.S_reads' X.out.s).2.1 (Kd.S_reads' Y.out.s).2.2 (Kd.S_reads' Y.out.s).2.1 HQ.out).mono ?_); rintro e w9 ⟨rfl, hb⟩; have HB9 := Lib.hid (below_step X.out.hb hb); clear hb))
   go_ret
   exact ⟨rfl, HB9.out⟩
  ·
   have k6 : (y4 == 0) = false := beq_eq_false_iff_ne.mpr c6
   simp only [c5, c6, if_true, if_false] at h
   obtain rfl := Option.some.inj h
   clear h c5 c6
   go_wp2
   go_ret
   exact ⟨rfl, X.out.hb⟩
 ·
  have k5 : (x4 == 0) = false := beq_eq_false_iff_ne.mpr c5
  simp only [c5, if_false] at h
  obtain rfl := Option.some.inj h
  clear h c5
  go_wp2
  go_ret
  exact ⟨rfl, X.out.hb⟩
end Go.Proofs.YtnpnablnnfekkaaDoor.PTr
set_option linter.unusedVariables false
set_option linter.unusedSimpArgs false
namespace Go.Proofs.YtnpnablnnfekkaaDoor.PTr
open Go.RowKit Go.Proofs.YtnpnablnnfekkaaDoor Go.Proofs.YtnpnablnnfekkaaDoorW.PrintWords
def entEq (a b : Ent) : Bool := (a.f0.toList == b.f0.toList) && (a.f1 == b.f1)
def entsEq (xs ys : List Ent) : Bool := decide (xs.length = ys.length) && (List.range xs.length).all fun i => entEq (rd_T61 xs (i : Int)) (rd_T61 ys (i : Int))
def nodEq (x y : Nod) : Bool := decide (x.f0 = y.f0) && decide (x.f1 = y.f1) && decide (x.f2 = y.f2) && decide (x.f3 = y.f3) && decide (x.f4 = y.f4) && decide (x.f5.toList = y.f5.toList) && entsEq x.f6 y.f6
def nodsEq (a b : List Nod) : Bool := decide (a.length = b.length) && (List.range a.length).all fun i => nodEq (rd_T44 a (i : Int)) (rd_T44 b (i : Int))
theorem ee_not (a b : Ent) : (!(a.f0.toList == b.f0.toList) || !(a.f1 == b.f1)) = !entEq a b := by unfold entEq; cases (a.f0.toList == b.f0.toList) <;> cases (a.f1 == b.f1) <;> rfl
theorem pe_l0 (xs ys : List Ent) (hl : xs.length = ys.length) (hb : xs.length ≤ 1000000000000000) : ∀ (d i : Nat), i + d = xs.length → Evt (fun k => api_Entry_69.l0 k xs ys (xs.length : Int) (i : Int)) (((List.range xs.length).drop i).all fun i => entEq (rd_T61 xs (i : Int)) (rd_T61 ys (i : Int))) := by
 intro d
 induction d with
 | zero =>
  intro i h
  rw [List.drop_of_length_le (by rw [List.length_range]; omega)]
  refine Evt.const 0 (fun k _ => ?_)
  simp only [api_Entry_69.l0]
  rw [if_neg (by omega)]; rfl
 | succ d ih =>
  intro i h
  rw [range_drop _ i (by omega), List.all_cons]
  cases hc : entEq (rd_T61 xs (i : Int)) (rd_T61 ys (i : Int)) with
  | false =>
   refine Evt.const 0 (fun k _ => ?_)
   simp only [api_Entry_69.l0]
   rw [if_pos (by omega), if_pos (by omega), if_pos (by omega), if_pos (by omega), ee_not, hc, if_pos (by decide)]; rfl
  | true =>
   refine Evt.succ 0 (fun k _ => ?_) (ih (i + 1) (by omega))
   simp only [api_Entry_69.l0]
   rw [if_pos (by omega), if_pos (by omega), if_pos (by omega), if_pos (by omega), ee_not, hc, if_neg (by decide), show wrap64 ((i : Int) + 1) = ((i + 1 : Nat) : Int) from by unfold wrap64; omega]
theorem pe_ev (xs ys : List Ent) (hb : xs.length ≤ 1000000000000000) : Evt (fun k => api_Entry_69.f k xs ys) (entsEq xs ys) := by
 by_cases h : xs.length = ys.length
 ·
  obtain ⟨K, hK⟩ := pe_l0 xs ys h hb xs.length 0 (by omega)
  refine ⟨K, fun k hk => ?_⟩
  show api_Entry_69.f k xs ys = _
  unfold api_Entry_69.f entsEq
  rw [if_pos (by omega), decide_eq_true h, Bool.true_and]
  have := hK k hk
  rw [List.drop_zero] at this
  exact this
 ·
  refine Evt.const0 (fun k => ?_)
  unfold api_Entry_69.f entsEq
  rw [if_neg (by omega), decide_eq_false h]; rfl
theorem ps_ev (x y : Nod) (hb : x.f6.length ≤ 1000000000000000) : Evt (fun k => tree_SameNode.f k x.f0 x.f1 x.f2 x.f3 x.f4 x.f5 x.f6 y.f0 y.f1 y.f2 y.f3 y.f4 y.f5 y.f6) (nodEq x y) := by
 obtain ⟨K, hK⟩ := pe_ev x.f6 y.f6 hb
 refine ⟨K, fun k hk => ?_⟩
 have hk2 : api_Entry_69.f k x.f6 y.f6 = some (entsEq x.f6 y.f6) := hK k hk
 show tree_SameNode.f k _ _ _ _ _ _ _ _ _ _ _ _ _ _ = _
 unfold tree_SameNode.f nodEq
 rw [hk2]
 by_cases h0 : x.f0 = y.f0
 ·
  by_cases h1 : x.f1 = y.f1
  ·
   by_cases h2 : x.f2 = y.f2
   ·
    by_cases h3 : x.f3 = y.f3
    ·
     by_cases h4 : x.f4 = y.f4
     ·
      by_cases h5 : x.f5.toList = y.f5.toList
      ·
       simp [h0, h1, h2, h3, h4, h5]
      ·
       simp [h0, h1, h2, h3, h4, h5]
     ·
      simp [h0, h1, h2, h3, h4]
    ·
     simp [h0, h1, h2, h3]
   ·
    simp [h0, h1, h2]
  ·
   simp [h0, h1]
 ·
  simp [h0]
theorem re_l0 (x y : Nod) (hl : x.f6.length = y.f6.length) (hb : x.f6.length ≤ 1000000000000000) : ∀ (d i : Nat), i + d = x.f6.length → Evt (fun k => rehearsalref04_SameNode.l0 k (i : Int) x.f0 x.f1 x.f2 x.f3 x.f4 x.f5 x.f6 y.f0 y.f1 y.f2 y.f3 y.f4 y.f5 y.f6) (((List.range x.f6.length).drop i).all fun i => entEq (rd_T61 x.f6 (i : Int)) (rd_T61 y.f6 (i : Int))) := by
 intro d
 induction d with
 | zero =>
  intro i h
  rw [List.drop_of_length_le (by rw [List.length_range]; omega)]
  refine Evt.const 0 (fun k _ => ?_)
  simp only [rehearsalref04_SameNode.l0]
  rw [if_neg (by omega)]; rfl
 | succ d ih =>
  intro i h
  rw [range_drop _ i (by omega), List.all_cons]
  cases hc : entEq (rd_T61 x.f6 (i : Int)) (rd_T61 y.f6 (i : Int)) with
  | false =>
   refine Evt.const 0 (fun k _ => ?_)
   simp only [rehearsalref04_SameNode.l0]
   rw [if_pos (by omega), if_pos (by omega), if_pos (by omega), ee_not, hc, if_pos (by decide)]; rfl
  | true =>
   refine Evt.succ 0 (fun k _ => ?_) (ih (i + 1) (by omega))
   simp only [rehearsalref04_SameNode.l0]
   rw [if_pos (by omega), if_pos (by omega), if_pos (by omega), ee_not, hc, if_neg (by decide), show wrap64 ((i : Int) + 1) = ((i + 1 : Nat) : Int) from by unfold wrap64; omega]
theorem rs_ev (x y : Nod) (hb : x.f6.length ≤ 1000000000000000) : Evt (fun k => rehearsalref04_SameNode.f k x.f0 x.f1 x.f2 x.f3 x.f4 x.f5 x.f6 y.f0 y.f1 y.f2 y.f3 y.f4 y.f5 y.f6) (nodEq x y) := by
 have hj : ∀ k, rehearsalref04_SameNode.j0 (k + 1) true x.f0 x.f1 x.f2 x.f3 x.f4 x.f5 x.f6 y.f0 y.f1 y.f2 y.f3 y.f4 y.f5 y.f6 = some false := fun k => by simp only [rehearsalref04_SameNode.j0]; rfl
 obtain ⟨K, hK⟩ : Evt (fun k => rehearsalref04_SameNode.j0 k ((x.f6.length : Int) != (y.f6.length : Int)) x.f0 x.f1 x.f2 x.f3 x.f4 x.f5 x.f6 y.f0 y.f1 y.f2 y.f3 y.f4 y.f5 y.f6) (entsEq x.f6 y.f6) := by
  by_cases h : x.f6.length = y.f6.length
  ·
   have hn : ((x.f6.length : Int) != (y.f6.length : Int)) = false := bne_eq_false_iff_eq.mpr (by omega)
   have h0 := re_l0 x y h hb x.f6.length 0 (by omega)
   rw [List.drop_zero] at h0
   unfold entsEq
   rw [hn, decide_eq_true h, Bool.true_and]
   refine Evt.succ 0 (fun k _ => ?_) h0
   simp only [rehearsalref04_SameNode.j0]
   rw [if_neg (by decide)]; rfl
  ·
   have hn : ((x.f6.length : Int) != (y.f6.length : Int)) = true := bne_iff_ne.mpr (by omega)
   unfold entsEq
   rw [hn, decide_eq_false h]
   exact Evt.const 0 (fun k _ => hj k)
 refine ⟨K + 1, fun k hk => ?_⟩
 obtain ⟨k, rfl⟩ : ∃ j, k = j + 1 := ⟨k - 1, by omega⟩
 have hk2 : rehearsalref04_SameNode.j0 (k + 1) ((x.f6.length : Int) != (y.f6.length : Int)) x.f0 x.f1 x.f2 x.f3 x.f4 x.f5 x.f6 y.f0 y.f1 y.f2 y.f3 y.f4 y.f5 y.f6 = some (entsEq x.f6 y.f6) := hK (k + 1) (by omega)
 show rehearsalref04_SameNode.f (k + 1) _ _ _ _ _ _ _ _ _ _ _ _ _ _ = _
 unfold rehearsalref04_SameNode.f nodEq
 rw [hk2, hj k]
 by_cases h0 : x.f0 = y.f0
 ·
  by_cases h1 : x.f1 = y.f1
  ·
   by_cases h2 : x.f2 = y.f2
   ·
    by_cases h3 : x.f3 = y.f3
    ·
     by_cases h4 : x.f4 = y.f4
     ·
      by_cases h5 : x.f5.toList = y.f5.toList
      ·
       simp [h0, h1, h2, h3, h4, h5]
      ·
       simp [h0, h1, h2, h3, h4, h5]
     ·
      simp [h0, h1, h2, h3, h4]
    ·
     simp [h0, h1, h2, h3]
   ·
    simp [h0, h1, h2]
  ·
   simp [h0, h1]
 ·
  simp [h0]
theorem pn_ev (a b : List Nod) (q : Int) (hn : a.length ≤ 1000000000) (hb : ∀ x ∈ a, x.f6.length ≤ 1000000000000000) : Evt (fun k => api_Node.f k a b q) (nodsEq a b) := by
 by_cases h : a.length = b.length
 ·
  have hl : ∀ (d i : Nat), i + d = a.length → Evt (fun k => api_Node.l0 k b a (a.length : Int) (i : Int)) (((List.range a.length).drop i).all fun i => nodEq (rd_T44 a (i : Int)) (rd_T44 b (i : Int))) := by
   intro d
   induction d with
   | zero =>
    intro i h
    rw [List.drop_of_length_le (by rw [List.length_range]; omega)]
    refine Evt.const 0 (fun k _ => ?_)
    simp only [api_Node.l0]
    rw [if_neg (by omega)]; rfl
   | succ d ih =>
    intro i h
    have hi : i < a.length := by omega
    rw [range_drop _ i (by omega), List.all_cons]
    have hs := ps_ev (rd_T44 a (i : Int)) (rd_T44 b (i : Int)) (by rw [rdN a i hi]; exact hb _ (List.getElem_mem hi))
    refine Evt.bind (q := fun k t => if t = true then api_Node.l0 k b a (a.length : Int) (wrap64 ((i : Int) + 1)) else some false) (fun k => ?_) hs ?_
    ·
     simp only [api_Node.l0]
     rw [if_pos (by omega), if_pos (by omega), if_pos (by omega), if_pos (by omega)]
    ·
     rw [show wrap64 ((i : Int) + 1) = ((i + 1 : Nat) : Int) from by unfold wrap64; omega]
     cases hc : nodEq (rd_T44 a (i : Int)) (rd_T44 b (i : Int)) with
     | false => exact Evt.const0 (fun k => rfl)
     | true => exact ih (i + 1) (by omega)
  obtain ⟨K, hK⟩ := hl a.length 0 (by omega)
  refine ⟨K, fun k hk => ?_⟩
  show api_Node.f k a b q = _
  unfold api_Node.f nodsEq
  rw [if_pos (by omega), decide_eq_true h, Bool.true_and]
  have := hK k hk
  rw [List.drop_zero] at this
  exact this
 ·
  refine Evt.const0 (fun k => ?_)
  unfold api_Node.f nodsEq
  rw [if_neg (by omega), decide_eq_false h]; rfl
theorem rn_ev (a b : List Nod) (hn : a.length ≤ 1000000000) (hb : ∀ x ∈ a, x.f6.length ≤ 1000000000000000) : Evt (fun k => rehearsalref04_Nodes.f k a b) (nodsEq a b) := by
 by_cases h : a.length = b.length
 ·
  have hl : ∀ (d i : Nat), i + d = a.length → Evt (fun k => rehearsalref04_Nodes.l0 k a b (i : Int)) (((List.range a.length).drop i).all fun i => nodEq (rd_T44 a (i : Int)) (rd_T44 b (i : Int))) := by
   intro d
   induction d with
   | zero =>
    intro i h
    rw [List.drop_of_length_le (by rw [List.length_range]; omega)]
    refine Evt.const 0 (fun k _ => ?_)
    simp only [rehearsalref04_Nodes.l0]
    rw [if_neg (by omega)]; rfl
   | succ d ih =>
    intro i h
    have hi : i < a.length := by omega
    rw [range_drop _ i (by omega), List.all_cons]
    have hs := rs_ev (rd_T44 a (i : Int)) (rd_T44 b (i : Int)) (by rw [rdN a i hi]; exact hb _ (List.getElem_mem hi))
    refine Evt.bind (q := fun k t => if t = true then rehearsalref04_Nodes.l0 k a b (wrap64 ((i : Int) + 1)) else some false) (fun k => ?_) hs ?_
    ·
     simp only [rehearsalref04_Nodes.l0]
     rw [if_pos (by omega), if_pos (by omega), if_pos (by omega)]
    ·
     rw [show wrap64 ((i : Int) + 1) = ((i + 1 : Nat) : Int) from by unfold wrap64; omega]
     cases hc : nodEq (rd_T44 a (i : Int)) (rd_T44 b (i : Int)) with
     | false => exact Evt.const0 (fun k => rfl)
     | true => exact ih (i + 1) (by omega)
  obtain ⟨K, hK⟩ := hl a.length 0 (by omega)
  refine ⟨K, fun k hk => ?_⟩
  show rehearsalref04_Nodes.f k a b = _
  unfold rehearsalref04_Nodes.f nodsEq
  rw [if_pos (by omega), decide_eq_true h, Bool.true_and]
  have := hK k hk
  rw [List.drop_zero] at this
  exact this
 ·
  refine Evt.const0 (fun k => ?_)
  unfold rehearsalref04_Nodes.f nodsEq
  rw [if_neg (by omega), decide_eq_false h]; rfl
theorem entsEq_refl (xs : List Ent) : entsEq xs xs = true := by
 unfold entsEq entEq
 simp
theorem nodEq_refl (x : Nod) : nodEq x x = true := by
 unfold nodEq
 simp [entsEq_refl]
theorem nodsEq_refl (l : List Nod) : nodsEq l l = true := by
 unfold nodsEq
 simp [nodEq_refl]
end Go.Proofs.YtnpnablnnfekkaaDoor.PTr
set_option linter.unusedVariables false
set_option linter.unusedSimpArgs false
namespace Go.Proofs.YtnpnablnnfekkaaDoor
open Go Go.RowKit Go.ChangeShapes Go.WideShapes Go.Proofs.YtnpnablnnfekkaaDoorW.PrintWords
def Opens (P : Program) {α : Type} (d : Kd α) (t : TypeId) (B : α → Prop) : Prop :=
 ∀ {H : Type} {enc : TypeId × Value → H} {w : World} {base : Nat} {spare : Nat → Bool} {held : Bool} {fuel : Nat} {cs : List Value} {y : DataW H × List MemPlace},
  DataW.trod enc P w base spare held fuel t cs = some y → (∀ n ∈ y.1.weights P t, n ≤ reachBytes) → ∃ x, d.K w x cs ∧ B x
theorem opens_int {P : Program} {t : TypeId} {k : IntKind} (ht : P.underlying t = some (.int k)) : Opens P (Kd.int k) t (fun n => (Lit.int k n).wf = true) := by
 intro H enc w base spare held fuel cs y h _
 obtain ⟨n, rfl, _, hw⟩ := DataW.trod_int ht h
 exact ⟨n, rfl, hw⟩
theorem opens_string {P : Program} {t : TypeId} (ht : P.underlying t = some .string) : Opens P Kd.string t (fun s => s.size ≤ reachBytes) := by
 intro H enc w base spare held fuel cs y h hz
 obtain ⟨s, rfl, rfl, _⟩ := DataW.trod_string ht h
 refine ⟨s, rfl, ?_⟩
 have := hz s.data.toList.length (by simp [DataW.weights])
 rwa [Array.length_toList] at this
theorem mem_wAll {H : Type} {P : Program} {e : TypeId} {l : List (DataW H)} {d : DataW H} (hd : d ∈ l) {n : Nat} (hn : n ∈ d.weights P e) : n ∈ DataW.weightsAll P e l := by
 induction l with
 | nil => cases hd
 | cons x r ih =>
  simp only [DataW.weightsAll, List.mem_append]
  rcases List.mem_cons.1 hd with h | h
  ·
   subst h; exact .inl hn
  ·
   exact .inr (ih h)
theorem pick {α : Type} {Q : Nat → α → Prop} : ∀ (n : Nat), (∀ i, i < n → ∃ x, Q i x) → ∃ xs : List α, xs.length = n ∧ ∀ i x, xs[i]? = some x → Q i x := by
 intro n
 induction n with
 | zero => intro _; exact ⟨[], rfl, fun i x h => by simp at h⟩
 | succ n ih =>
  intro h
  obtain ⟨xs, hl, hx⟩ := ih (fun i hi => h i (by omega))
  obtain ⟨x, hq⟩ := h n (by omega)
  refine ⟨xs ++ [x], by simp [hl], fun i y hy => ?_⟩
  by_cases hi : i < n
  ·
   rw [List.getElem?_append_left (by omega)] at hy; exact hx i y hy
  ·
   have : i < (xs ++ [x]).length := (List.getElem?_eq_some_iff.1 hy).1
   simp only [List.length_append, List.length_cons, List.length_nil] at this
   have hi2 : i = n := by omega
   subst hi2
   rw [List.getElem?_append_right (by omega)] at hy
   simp [hl] at hy
   subst hy; exact hq
theorem opens_slice {P : Program} {α : Type} {d : Kd α} {B : α → Prop} {t e : TypeId} (q : Nat) (ht : P.underlying t = some (.slice e)) (hd : Opens P d e B) (hc : P.cellsOf e = d.sz) :
  Opens P (Kd.slice q d) t (fun xs => xs.length * P.bytesOf e ≤ reachBytes ∧ xs.length ≤ 9223372036854775807 ∧ ∀ x ∈ xs, B x) := by
 intro H enc w base spare held fuel cs y h hz
 rcases DataW.trod_slice ht h with ⟨rfl, rfl⟩ | ⟨a, len, cap, elems, rest, n, _, rfl, rfl, hb, hl, hm, hlen, hel, hsp, hns⟩
 ·
  exact ⟨[], ⟨none, 0, rfl, Nat.le_refl _, rfl, by simp, fun h => absurd h (by simp)⟩, by simp, by simp, fun x hx => by cases hx⟩
 ·
  have hmax : len ≤ 9223372036854775807 := Nat.le_trans (Nat.le_trans hl hm) (by unfold maxLen; decide)
  have hzz : ∀ n ∈ (elems.length + rest.length) * P.bytesOf e :: (DataW.weightsAll P e (elems.map (·.1)) ++ DataW.weightsAll P e (rest.map (·.1))), n ≤ reachBytes := by
   intro n hn
   refine hz n ?_
   simp only [DataW.weights, ht, List.length_map]
   exact hn
  have each : ∀ i, i < len → ∃ x, ∃ c : List Value, c.length = d.sz ∧ d.K w x c ∧ B x ∧ ∀ k u, c[k]? = some u → w.cell? (a.add (i * d.sz + k)) = some u := by
   intro i hi
   have h1 := hel i hi
   have hlt : i < elems.length := by omega
   rw [List.getElem?_eq_getElem hlt, Option.bind_eq_some_iff] at h1
   obtain ⟨c, hcs, hy⟩ := h1
   obtain ⟨_, hcl, hcell⟩ := World.cells?_some hcs
   obtain ⟨x, hK, hB⟩ := hd hy (fun n hn => hzz n (List.mem_cons_of_mem _ (List.mem_append_left _ (mem_wAll (List.mem_map.2 ⟨elems[i], List.getElem_mem hlt, rfl⟩) hn))))
   refine ⟨x, c, d.K_len hK, hK, hB, fun k u hu => ?_⟩
   have hk : k < P.cellsOf e := by have := (List.getElem?_eq_some_iff.1 hu).1; rw [d.K_len hK] at this; omega
   have h2 := hcell k hk
   rw [hc] at h2
   rw [add_add] at h2
   rw [h2, hu]
  obtain ⟨xs, hxl, hxs⟩ := pick (Q := fun i x => ∃ c : List Value, c.length = d.sz ∧ d.K w x c ∧ B x ∧ ∀ k u, c[k]? = some u → w.cell? (a.add (i * d.sz + k)) = some u) len each
  refine ⟨xs, ⟨some a, cap, by rw [hxl], by omega, rfl, by omega, fun _ => ⟨a, rfl, fun j p hp => ?_⟩⟩, ?_, by omega, fun x hx => ?_⟩
  ·
   obtain ⟨c, h1, h2, _, h3⟩ := hxs j p hp
   exact ⟨c, h1, h2, h3⟩
  ·
   have := hzz _ List.mem_cons_self
   rw [hlen] at this
   rw [hxl]
   exact Nat.le_trans (Nat.mul_le_mul_right _ (Nat.le_add_right _ _)) this
  ·
   obtain ⟨i, hi⟩ := List.getElem?_of_mem hx
   obtain ⟨_, _, _, hB, _⟩ := hxs i x hi
   exact hB
/-- cells in a row, read field by field -/
def OpenF (P : Program) {α : Type} (d : Kd α) (ts : List TypeId) (B : α → Prop) : Prop :=
 ∀ {H : Type} {enc : TypeId × Value → H} {w : World} {base : Nat} {spare : Nat → Bool} {held : Bool} {fuel : Nat} {cs : List Value} {ys : List (DataW H × List MemPlace)},
  cs.length = (ts.map P.cellsOf).sum → ys.length = ts.length → (∀ (i : Nat) (t : TypeId), ts[i]? = some t → DataW.trod enc P w base spare held fuel t ((cs.drop ((ts.take i).map P.cellsOf).sum).take (P.cellsOf t)) = ys[i]?) →
  (∀ n ∈ DataW.weightsEach P ts (ys.map (·.1)), n ≤ reachBytes) → ∃ x, d.K w x cs ∧ B x
theorem openF_one {P : Program} {α : Type} {d : Kd α} {t : TypeId} {B : α → Prop} (h : Opens P d t B) : OpenF P d [t] B := by
 intro H enc w base spare held fuel cs ys hl hn hy hz
 obtain ⟨y, rfl⟩ : ∃ y, ys = [y] := by
  match ys, hn with
  | [y], _ => exact ⟨y, rfl⟩
 have h0 := hy 0 t rfl
 simp only [List.map_cons, List.map_nil, List.sum_cons, List.sum_nil, Nat.add_zero] at hl
 rw [List.take_zero, List.map_nil, List.sum_nil, List.drop_zero, List.take_of_length_le (by omega)] at h0
 exact h h0 (fun n hn => hz n (by simpa [DataW.weightsEach] using hn))
theorem openF_cons {P : Program} {α β : Type} {d : Kd α} {d' : Kd β} {t : TypeId} {ts : List TypeId} {B : α → Prop} {B' : β → Prop} (h : Opens P d t B) (h' : OpenF P d' ts B') : OpenF P (Kd.pair d d') (t :: ts) (fun x => B x.1 ∧ B' x.2) := by
 intro H enc w base spare held fuel cs ys hl hn hy hz
 obtain ⟨y, r, rfl⟩ : ∃ y r, ys = y :: r := by
  match ys, hn with
  | y :: r, _ => exact ⟨y, r, rfl⟩
 simp only [List.map_cons, List.sum_cons] at hl
 have h0 := hy 0 t rfl
 rw [List.take_zero, List.map_nil, List.sum_nil, List.drop_zero] at h0
 have hzz : ∀ n ∈ y.1.weights P t ++ DataW.weightsEach P ts (r.map (·.1)), n ≤ reachBytes := fun n hn => hz n (by simpa [DataW.weightsEach] using hn)
 obtain ⟨x, hK, hB⟩ := h h0 (fun n hn => hzz n (List.mem_append_left _ hn))
 obtain ⟨x', hK', hB'⟩ := h' (cs := cs.drop (P.cellsOf t)) (ys := r) (by rw [List.length_drop]; omega) (by simpa using hn) (fun i u hu => by
  have := hy (i + 1) u hu
  simp only [List.take_succ_cons, List.map_cons, List.sum_cons, List.getElem?_cons_succ] at this
  rw [List.drop_drop]
  exact this) (fun n hn => hzz n (List.mem_append_right _ hn))
 exact ⟨(x, x'), ⟨cs.take (P.cellsOf t), cs.drop (P.cellsOf t), (List.take_append_drop _ _).symm, hK, hK'⟩, hB, hB'⟩
theorem opens_struct {P : Program} {α β : Type} {d : Kd α} {B : α → Prop} {t : TypeId} {fs : Array Field} (f : β → α) (g : α → β) (hfg : ∀ a, f (g a) = a) (ht : P.underlying t = some (.struct fs))
  (h : OpenF P d (fs.toList.map (·.type)) B) (ho : ∀ (i : Nat) (x : Field), fs[i]? = some x → x.offset = (((fs.toList.map (·.type)).take i).map P.cellsOf).sum) (hs : P.cellsOf t = ((fs.toList.map (·.type)).map P.cellsOf).sum) :
  Opens P (Kd.iso d f) t (fun b => B (f b)) := by
 intro H enc w base spare held fuel cs y hy hz
 obtain ⟨ys, n, _, rfl, hl, hn, hf⟩ := DataW.trod_struct ht hy
 obtain ⟨x, hK, hB⟩ := h (cs := cs) (ys := ys) (by rw [hl, hs]) (by rw [hn, List.length_map, Array.length_toList]) (fun i u hu => by
  rw [List.getElem?_map, Option.map_eq_some_iff] at hu
  obtain ⟨x, hx, rfl⟩ := hu
  have hx2 : fs[i]? = some x := by simpa using hx
  rw [← ho i x hx2]
  exact hf i x hx2) (fun n hn => hz n (by simp only [DataW.weights, ht]; exact hn))
 exact ⟨g x, by show d.K w (f (g x)) cs; rw [hfg]; exact hK, by show B (f (g x)); rw [hfg]; exact hB⟩
end Go.Proofs.YtnpnablnnfekkaaDoor
set_option linter.unusedVariables false
set_option linter.unusedSimpArgs false
namespace Go.Proofs.YtnpnablnnfekkaaDoor.PTr
open Go Go.RowKit Go.ChangeShapes Go.WideShapes Go.Proofs.YtnpnablnnfekkaaDoor Go.Proofs.YtnpnablnnfekkaaDoorW.PrintWords
def offB (P : Program) (fs : Array Field) : Bool := (List.range fs.size).all fun i => match fs[i]? with
 | some x => decide (x.offset = (((fs.toList.map (·.type)).take i).map P.cellsOf).sum)
 | none => true
theorem off_ok {P : Program} {fs : Array Field} (h : offB P fs = true) : ∀ (i : Nat) (x : Field), fs[i]? = some x → x.offset = (((fs.toList.map (·.type)).take i).map P.cellsOf).sum := by
 intro i x hx
 have hi : i < fs.size := (Array.getElem?_eq_some_iff.1 hx).1
 have := List.all_eq_true.1 h i (List.mem_range.2 hi)
 rw [hx] at this
 exact of_decide_eq_true this
theorem opens_ent : Opens Tryd.prog k61 61 (fun e => e.f0.size ≤ reachBytes ∧ (Lit.int .i64 e.f1).wf = true) :=
 opens_struct (fun x : S61 => (x.f0, x.f1)) (fun p => ⟨p.1, p.2⟩) (fun _ => rfl) Tryd.underlying61
  (openF_cons (opens_string Tryd.underlying9) (openF_one (opens_int Tryd.underlying3))) (off_ok (by kernel_rfl)) (by kernel_rfl)
def NodB (x : Nod) : Prop := (Lit.int .i64 x.f0).wf = true ∧ (Lit.int .i64 x.f1).wf = true ∧ (Lit.int .i64 x.f2).wf = true ∧ (Lit.int .i64 x.f3).wf = true ∧ (Lit.int .i64 x.f4).wf = true ∧ x.f5.size ≤ reachBytes ∧ (x.f6.length * Tryd.prog.bytesOf 61 ≤ reachBytes ∧ x.f6.length ≤ 9223372036854775807 ∧ ∀ e ∈ x.f6, e.f0.size ≤ reachBytes ∧ (Lit.int .i64 e.f1).wf = true)
theorem opens_node : Opens Tryd.prog k44 44 NodB :=
 opens_struct (fun x : S44 => (x.f0, x.f1, x.f2, x.f3, x.f4, x.f5, x.f6)) (fun p => ⟨p.1, p.2.1, p.2.2.1, p.2.2.2.1, p.2.2.2.2.1, p.2.2.2.2.2.1, p.2.2.2.2.2.2⟩) (fun _ => rfl) Tryd.underlying44
  (openF_cons (opens_int Tryd.underlying3) (openF_cons (opens_int Tryd.underlying3) (openF_cons (opens_int Tryd.underlying3) (openF_cons (opens_int Tryd.underlying3) (openF_cons (opens_int Tryd.underlying3) (openF_cons (opens_string Tryd.underlying9)
   (openF_one (opens_slice 61 Tryd.underlying42 opens_ent (by kernel_rfl))))))))) (off_ok (by kernel_rfl)) (by kernel_rfl)
theorem opens_room : Opens Tryd.prog (Kd.iso (Kd.pair (Kd.int .i64) (Kd.int .i64)) (fun x : Int × Int => x)) 24 (fun x => (Lit.int .i64 x.1).wf = true ∧ (Lit.int .i64 x.2).wf = true) :=
 opens_struct (fun x : Int × Int => x) (fun p => p) (fun _ => rfl) Tryd.underlying24 (openF_cons (opens_int Tryd.underlying3) (openF_one (opens_int Tryd.underlying3))) (off_ok (by kernel_rfl)) (by kernel_rfl)
def NodOK (x : Nod) : Prop := (Lit.int .i64 x.f0).wf = true ∧ (Lit.int .i64 x.f1).wf = true ∧ (Lit.int .i64 x.f2).wf = true ∧ (Lit.int .i64 x.f3).wf = true ∧ (Lit.int .i64 x.f4).wf = true ∧ x.f5.size ≤ 140737488351232 ∧ x.f6.length ≤ 140737488351232 ∧ ∀ e ∈ x.f6, e.f0.size ≤ 140737488351232 ∧ (Lit.int .i64 e.f1).wf = true
structure TreeV where
 A : Option Addr
 c : Nat
 l : List Nod
 b1 : Int
 b2 : Int
 b3 : Int
def TreeV.val (t : TreeV) : Value := .agg #[.slice t.A t.l.length t.c, .int .i64 t.b1, .int .i64 t.b2, .int .i64 t.b3]
def TreeV.ok (w : World) (t : TreeV) : Prop := Kd.C k44 w t.A t.l.length t.l ∧ t.l.length ≤ t.c ∧ t.l.length ≤ 140737488351232 ∧ (Lit.int .i64 t.b1).wf = true ∧ (Lit.int .i64 t.b2).wf = true ∧ (Lit.int .i64 t.b3).wf = true ∧ ∀ x ∈ t.l, NodOK x
theorem agg_of {v : Value} {a b : Value} {r : List Value} (h : v.cells.toList = a :: b :: r) : v = .agg (a :: b :: r).toArray := by
 cases v with
 | agg cs => simp only [Value.cells] at h; rw [← h]
 | _ => simp [Value.cells] at h
theorem bytes_le {n b : Nat} (hb : 1 ≤ b) (h : n * b ≤ reachBytes) : n ≤ 140737488351232 := by
 have : n ≤ n * b := Nat.le_mul_of_pos_right n hb
 unfold reachBytes at h
 omega
theorem nod_ok {x : Nod} (h : NodB x) : NodOK x := by
 have hb : 1 ≤ Tryd.prog.bytesOf 61 := of_decide_eq_true (by kernel_rfl)
 obtain ⟨h0, h1, h2, h3, h4, h5, h6, _, h7⟩ := h
 exact ⟨h0, h1, h2, h3, h4, h5, bytes_le hb h6, h7⟩
theorem opens_tree : Opens Tryd.prog (Kd.iso (Kd.pair (Kd.slice 44 k44) (Kd.pair (Kd.int .i64) (Kd.iso (Kd.pair (Kd.int .i64) (Kd.int .i64)) (fun x : Int × Int => x)))) (fun x : List Nod × Int × Int × Int => x)) 26 (fun x => (x.1.length * Tryd.prog.bytesOf 44 ≤ reachBytes ∧ x.1.length ≤ 9223372036854775807 ∧ ∀ y ∈ x.1, NodB y) ∧ (Lit.int .i64 x.2.1).wf = true ∧ (Lit.int .i64 x.2.2.1).wf = true ∧ (Lit.int .i64 x.2.2.2).wf = true) :=
 opens_struct (fun x : List Nod × Int × Int × Int => x) (fun p => p) (fun _ => rfl) Tryd.underlying26 (openF_cons (opens_slice 44 Tryd.underlying22 opens_node (by kernel_rfl)) (openF_cons (opens_int Tryd.underlying3) (openF_one opens_room))) (off_ok (by kernel_rfl)) (by kernel_rfl)
theorem open_tree {H : Type} {enc : TypeId × Value → H} {w : World} {base : Nat} {spare : Nat → Bool} {held : Bool} {v : Value} {d : DataW H} {p : List MemPlace}
  (h : DataW.Trod enc Tryd.prog w base spare held 26 v d p) (hz : ∀ n ∈ d.weights Tryd.prog 26, n ≤ reachBytes) : ∃ t : TreeV, v = t.val ∧ t.ok w := by
 obtain ⟨fuel, hf⟩ := h
 obtain ⟨⟨l, b1, b2, b3⟩, hK, ⟨hl, _, hx⟩, h1, h2, h3⟩ := opens_tree hf hz
 obtain ⟨c0, c1, e, ⟨A, c, rfl, hc, hC⟩, c2, c3, rfl, e2, c4, c5, rfl, e4, e5⟩ := hK
 have e2' : c2 = [.int .i64 b1] := e2
 have e4' : c4 = [.int .i64 b2] := e4
 have e5' : c5 = [.int .i64 b3] := e5
 subst e2' e4' e5'
 have hb : 1 ≤ Tryd.prog.bytesOf 44 := of_decide_eq_true (by kernel_rfl)
 exact ⟨⟨A, c, l, b1, b2, b3⟩, agg_of e, hC, hc, bytes_le hb hl, h1, h2, h3, fun x hx2 => nod_ok (hx x hx2)⟩
structure RoomV where
 b1 : Int
 b2 : Int
def RoomV.val (t : RoomV) : Value := .agg #[.int .i64 t.b1, .int .i64 t.b2]
def RoomV.ok (w : World) (t : RoomV) : Prop := (Lit.int .i64 t.b1).wf = true ∧ (Lit.int .i64 t.b2).wf = true
theorem open_ents {H : Type} {enc : TypeId × Value → H} {w : World} {base : Nat} {spare : Nat → Bool} {held : Bool} {fuel : Nat} {A : Option Addr} {len cap : Nat} {x : DataW H × List MemPlace}
  (h : DataW.trod enc Tryd.prog w base spare held fuel 42 [.slice A len cap] = some x) (hz : ∀ n ∈ x.1.weights Tryd.prog 42, n ≤ reachBytes) :
  ∃ l : List Ent, l.length = len ∧ (Kd.C k61 w A l.length l ∧ l.length ≤ cap ∧ l.length ≤ 140737488351232 ∧ ∀ e ∈ l, e.f0.size ≤ 140737488351232 ∧ (Lit.int .i64 e.f1).wf = true) := by
 obtain ⟨l, ⟨A', c', e, hc, hC⟩, hl, _, hx⟩ := opens_slice 61 Tryd.underlying42 opens_ent (by kernel_rfl) h hz
 have hb : 1 ≤ Tryd.prog.bytesOf 61 := of_decide_eq_true (by kernel_rfl)
 simp only [List.cons.injEq, Value.slice.injEq, and_true] at e
 obtain ⟨rfl, rfl, rfl⟩ := e
 exact ⟨l, rfl, hC, hc, bytes_le hb hl, hx⟩
end Go.Proofs.YtnpnablnnfekkaaDoor.PTr
set_option linter.unusedVariables false
namespace Go.Proofs.YtnpnablnnfekkaaDoor.PTr
open Go.RowKit Go.Proofs.YtnpnablnnfekkaaDoor Go.Proofs.YtnpnablnnfekkaaDoorW.PrintWords
theorem bd_of {w : World} {t : TreeV} (h : t.ok w) : Bd t.l := fun x hx => by
 obtain ⟨_, _, _, _, _, _, hn⟩ := h
 obtain ⟨_, _, _, _, _, h5, h6, he⟩ := hn x hx
 exact ⟨h5, h6, fun e he' => (he e he').1⟩
end Go.Proofs.YtnpnablnnfekkaaDoor.PTr
set_option linter.unusedVariables false
set_option linter.unusedSimpArgs false
namespace Go.Proofs.YtnpnablnnfekkaaDoor.PTr
open Go.RowKit Go.Proofs.YtnpnablnnfekkaaDoor Go.Proofs.YtnpnablnnfekkaaDoorW.PrintWords
theorem canN_bd {l : List Nod} {a1 : Int} (hE : eOK l) (hc : chk l a1 = 0) : ∀ x ∈ canN l ((wid l a1).map (·.1)), x.f6.length ≤ 1000000000000 := by
 intro x hx
 obtain ⟨i, hi, rfl⟩ := List.getElem_of_mem hx
 have hi' : i < ((wid l a1).map (·.1)).length := by rw [canN_len] at hi; exact hi
 obtain ⟨y, hy, e⟩ := canN_at hc i hi'
 rw [canN_get, e]
 show (y.f6.map _).length ≤ _
 rw [List.length_map]
 exact hE (chk_facts hc).2.2.1 y (nodeL_mem hy).1
theorem canM_bd (l : List Nod) (a1 a2 a3 : Int) (hE : eOK l) : (canM l a1 a2 a3).1.length ≤ 512 ∧ ∀ x ∈ (canM l a1 a2 a3).1, x.f6.length ≤ 1000000000000 := by
 unfold canM
 split
 ·
  exact ⟨by simp, fun x hx => by cases hx⟩
 ·
  rename_i hne
  have hc : chk l a1 = 0 := by
   rcases chk_two l a1 with h | h
   ·
    exact h
   ·
    exfalso; apply hne
    unfold wid; rw [if_neg (by rw [h]; decide)]; rfl
  refine ⟨?_, canN_bd hE hc⟩
  show (canN l _).length ≤ 512
  rw [canN_len]
  exact (wid_props l a1).2.2
end Go.Proofs.YtnpnablnnfekkaaDoor.PTr
