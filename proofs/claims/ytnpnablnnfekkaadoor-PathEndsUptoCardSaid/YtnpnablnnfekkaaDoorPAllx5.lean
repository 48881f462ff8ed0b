-- printed for this claim by wip/pr.py (the kit's print tool, with given contracts): Lean checks it
import Derived.Test.YtnpnablnnfekkaaDoorGiv
import Derived.Test.YtnpnablnnfekkaaDoorPAllx0
import Derived.Test.YtnpnablnnfekkaaDoorPAllx1
import Derived.Test.YtnpnablnnfekkaaDoorPAllx2
namespace Go.Proofs.YtnpnablnnfekkaaDoor.PAll
open Go.RowKit Go.Proofs.YtnpnablnnfekkaaDoorW.PrintWords Go.Proofs.YtnpnablnnfekkaaDoorW.PrintLast Go.Proofs.YtnpnablnnfekkaaDoorW.PrintMore
attribute [local go_sem] max2_int min2_int max_two min_two max_three min_three max_four min_four   -- for this text's walks alone
set_option linter.unusedVariables false
set_option linter.unusedSimpArgs false
theorem ob_len_PAll5 (A : Option Addr) (n m c d : Nat) : (Value.slice A n c).ownBlock = (Value.slice A m d).ownBlock := by cases A <;> rfl

/-! ### rehearsallaw03_PathBack: function 13 -/
mutual
def rehearsallaw03_PathBack.j0 : Nat → ByteArray → Bool → Option (Bool)
  | 0, _, _ => none
  | k + 1, x5, x40 => if x40 = true then (some false) else ((path_Parts.f x5).bind fun bt206 => (if bt206.2.2 = 0 then (rehearsallaw03_PathBack.l0 k x5 bt206.1 (⟨#[47]⟩ : ByteArray) 0) else ((rehearsallaw03_awake.f k).bind fun t211 => (some t211))))
def rehearsallaw03_PathBack.l0 : Nat → ByteArray → List ByteArray → ByteArray → Int → Option (Bool)
  | 0, _, _, _, _ => none
  | k + 1, x5, x7, x10, x11 => if x11 < (x7.length : Int) then (if 0 ≤ x11 then ((path_Join.f x10 (rdOf ByteArray.empty x7 x11)).bind fun t213 => (rehearsallaw03_PathBack.l0 k x5 x7 t213 (wrap64 (x11 + 1)))) else (none)) else (if x10.toList = x5.toList then ((rehearsallaw03_awake.f k).bind fun t214 => (some t214)) else (some false))
end
def rehearsallaw03_PathBack.f (k : Nat) (a0 : ByteArray) (a1 : ByteArray) : Option (Bool) := if (a0.size : Int) > 3000 then ((rehearsallaw03_awake.f k).bind fun t199 => (some t199)) else ((path_Clean.f a0).bind fun t200 => ((path_Join.f t200 a1).bind fun t201 => ((path_Name.f a1).bind fun t202 => (if t202 = true then ((path_Base.f t201).bind fun t203 => (if t203.toList = a1.toList then ((path_Up.f t201).bind fun t204 => (if t204.toList = t200.toList then ((path_Clean.f t201).bind fun t205 => (rehearsallaw03_PathBack.j0 k t200 (t205.toList != t201.toList))) else (rehearsallaw03_PathBack.j0 k t200 true))) else (rehearsallaw03_PathBack.j0 k t200 true))) else (rehearsallaw03_PathBack.j0 k t200 false)))))
theorem rehearsallaw03_PathBack.mono_l : ∀ k, (∀ y0 y1, LeO (rehearsallaw03_PathBack.j0 k y0 y1) (rehearsallaw03_PathBack.j0 (k + 1) y0 y1)) ∧ (∀ y0 y1 y2 y3, LeO (rehearsallaw03_PathBack.l0 k y0 y1 y2 y3) (rehearsallaw03_PathBack.l0 (k + 1) y0 y1 y2 y3))
  | 0 => ⟨fun _ _ r h => by simp [rehearsallaw03_PathBack.j0] at h, fun _ _ _ _ r h => by simp [rehearsallaw03_PathBack.l0] at h⟩
  | k + 1 => by
    obtain ⟨ih0, ih1⟩ := rehearsallaw03_PathBack.mono_l k
    refine ⟨?_, ?_⟩
    · intro y0 y1
      unfold rehearsallaw03_PathBack.j0
      repeat' first
      | (with_reducible exact ih0 _ _)
      | (with_reducible exact ih1 _ _ _ _)
      | (with_reducible exact rehearsallaw03_awake.mono _)
      | (with_reducible exact LeO.refl _)
      | (with_reducible exact LeO.none _)
      | (with_reducible refine LeO.ite ?_ ?_)
      | (with_reducible refine LeO.bind ?_ (fun _ => ?_))
      | exact ih0 _ _
      | exact ih1 _ _ _ _
      | exact rehearsallaw03_awake.mono _
      | exact LeO.none _
      | refine LeO.ite ?_ ?_
      | refine LeO.bind ?_ (fun _ => ?_)
    · intro y0 y1 y2 y3
      unfold rehearsallaw03_PathBack.l0
      repeat' first
      | (with_reducible exact ih0 _ _)
      | (with_reducible exact ih1 _ _ _ _)
      | (with_reducible exact rehearsallaw03_awake.mono _)
      | (with_reducible exact LeO.refl _)
      | (with_reducible exact LeO.none _)
      | (with_reducible refine LeO.ite ?_ ?_)
      | (with_reducible refine LeO.bind ?_ (fun _ => ?_))
      | exact ih0 _ _
      | exact ih1 _ _ _ _
      | exact rehearsallaw03_awake.mono _
      | exact LeO.none _
      | refine LeO.ite ?_ ?_
      | refine LeO.bind ?_ (fun _ => ?_)
theorem rehearsallaw03_PathBack.mono : ∀ a0 a1 k, LeO (rehearsallaw03_PathBack.f k a0 a1) (rehearsallaw03_PathBack.f (k + 1) a0 a1) := by
  intro a0 a1 k
  obtain ⟨ih0, ih1⟩ := rehearsallaw03_PathBack.mono_l k
  unfold rehearsallaw03_PathBack.f
  repeat' first
      | (with_reducible exact ih0 _ _)
      | (with_reducible exact ih1 _ _ _ _)
      | (with_reducible exact rehearsallaw03_awake.mono _)
      | (with_reducible exact LeO.refl _)
      | (with_reducible exact LeO.none _)
      | (with_reducible refine LeO.ite ?_ ?_)
      | (with_reducible refine LeO.bind ?_ (fun _ => ?_))
      | exact ih0 _ _
      | exact ih1 _ _ _ _
      | exact rehearsallaw03_awake.mono _
      | exact LeO.none _
      | refine LeO.ite ?_ ?_
      | refine LeO.bind ?_ (fun _ => ?_)
set_option maxHeartbeats 8000000 in
set_option maxRecDepth 100000 in
theorem rehearsallaw03_PathBack.calls (k : Nat) (a0 : ByteArray) (a1 : ByteArray) (r : Bool) (w : World) (h : rehearsallaw03_PathBack.f k a0 a1 = some r) :
    Calls Tryd.prog 13 #[.string a0, .string a1] w fun e w' => e = .returned (.bool r) ∧ Below w.heap.size w w' := by
  have HB := Aside0.mk (Below.refl w.heap.size w)
  have H : (if (a0.size : Int) > 3000 then ((rehearsallaw03_awake.f k).bind fun t199 => (some t199)) else ((path_Clean.f a0).bind fun t200 => ((path_Join.f t200 a1).bind fun t201 => ((path_Name.f a1).bind fun t202 => (if t202 = true then ((path_Base.f t201).bind fun t203 => (if t203.toList = a1.toList then ((path_Up.f t201).bind fun t204 => (if t204.toList = t200.toList then ((path_Clean.f t201).bind fun t205 => (rehearsallaw03_PathBack.j0 k t200 (t205.toList != t201.toList))) else (rehearsallaw03_PathBack.j0 k t200 true))) else (rehearsallaw03_PathBack.j0 k t200 true))) else (rehearsallaw03_PathBack.j0 k t200 false)))))) = some r := h
  clear h
  by_cases c3 : (a0.size : Int) > 3000
  · rw [if_pos c3] at H
    have c3b0 : decide (3000 < (a0.size : Int)) = true := decide_eq_true c3
    have c3b1 : decide (3000 < a0.size) = true := decide_eq_true (by omega)
    clear c3
    replace H := Option.bind_eq_some_iff.mp H
    obtain ⟨t199, A40, H⟩ := H
    replace H : (some t199) = some r := H
    have A4 := Aside0.mk A40
    clear A40
    obtain rfl := Option.some.inj H
    go_enter Tryd.func13, Tryd.ntmps13
    go_wp2_with (first | ((with_reducible refine gate_callee (f := 44) rfl ?_); refine goesL_ (some 15) rfl rfl Tryd.func44 (by kernel_rfl) rfl #[] rfl (by (try simp only [List.map_toArray, List.map_cons, List.map_nil]); first | done | rfl | (simp only [List.length_drop, List.length_take]; rfl)) ?_; (with_reducible refine (rehearsallaw03_awake.calls k  t199 _ A4.out).mono ?_); rintro e w5 ⟨rfl, hb⟩; refine ⟨_, rfl, ?_⟩; have n0_ := Aside0.mk (below_step (by repeat (first | (with_reducible first | exact HB.out | apply below_alloc | apply pw_below_drewN | apply below_drew1) | exact HB.out)) hb); clear HB; have HB := n0_; clear n0_; (try clear hb); (try clear hb2); (try clear hk); (try clear hi)))
    go_ret
    exact ⟨by first | rfl | (simp [errW_none, errW_some] <;> rfl) | (simp [*, errW_none, errW_some] <;> rfl), by repeat (first | (with_reducible first | exact HB.out | apply below_alloc | apply pw_below_drewN | apply below_drew1) | exact HB.out)⟩
  · rw [if_neg c3] at H
    have c3b0 : decide (3000 < (a0.size : Int)) = false := decide_eq_false c3
    have c3b1 : decide (3000 < a0.size) = false := decide_eq_false (by omega)
    clear c3
    replace H := Option.bind_eq_some_iff.mp H
    obtain ⟨t200, A60, H⟩ := H
    replace H : ((path_Join.f t200 a1).bind fun t201 => ((path_Name.f a1).bind fun t202 => (if t202 = true then ((path_Base.f t201).bind fun t203 => (if t203.toList = a1.toList then ((path_Up.f t201).bind fun t204 => (if t204.toList = t200.toList then ((path_Clean.f t201).bind fun t205 => (rehearsallaw03_PathBack.j0 k t200 (t205.toList != t201.toList))) else (rehearsallaw03_PathBack.j0 k t200 true))) else (rehearsallaw03_PathBack.j0 k t200 true))) else (rehearsallaw03_PathBack.j0 k t200 false)))) = some r := H
    have A6 := Aside0.mk A60
    clear A60
    replace H := Option.bind_eq_some_iff.mp H
    obtain ⟨t201, A70, H⟩ := H
    replace H : ((path_Name.f a1).bind fun t202 => (if t202 = true then ((path_Base.f t201).bind fun t203 => (if t203.toList = a1.toList then ((path_Up.f t201).bind fun t204 => (if t204.toList = t200.toList then ((path_Clean.f t201).bind fun t205 => (rehearsallaw03_PathBack.j0 k t200 (t205.toList != t201.toList))) else (rehearsallaw03_PathBack.j0 k t200 true))) else (rehearsallaw03_PathBack.j0 k t200 true))) else (rehearsallaw03_PathBack.j0 k t200 false))) = some r := H
    have A7 := Aside0.mk A70
    clear A70
    have HC8 := Aside0.mk H
    clear H
    go_enter Tryd.func13, Tryd.ntmps13
    go_upto_region 5 with (first | ((with_reducible refine gate_callee (f := 45) rfl ?_); refine goesL_ (some 17) rfl rfl Tryd.func45 (by kernel_rfl) rfl #[.string a0] rfl (by (try simp only [List.map_toArray, List.map_cons, List.map_nil]); first | done | rfl | (simp only [List.length_drop, List.length_take]; rfl)) ?_; (with_reducible refine (path_Clean.calls a0 t200 _ A6.out).mono ?_); rintro e w9 ⟨rfl, hb⟩; refine ⟨_, rfl, ?_⟩; have n0_ := Aside0.mk (below_step (by repeat (first | (with_reducible first | exact HB.out | apply below_alloc | apply pw_below_drewN | apply below_drew1) | exact HB.out)) hb); clear HB; have HB := n0_; clear n0_; (try clear hb); (try clear hb2); (try clear hk); (try clear hi)) | ((with_reducible refine gate_callee (f := 53) rfl ?_); refine goesL_ (some 20) rfl rfl Tryd.func53 (by kernel_rfl) rfl #[.string t200, .string a1] rfl (by (try simp only [List.map_toArray, List.map_cons, List.map_nil]); first | done | rfl | (simp only [List.length_drop, List.length_take]; rfl)) ?_; (with_reducible refine (path_Join.calls t200 a1 t201 _ A7.out).mono ?_); rintro e w' ⟨rfl, ⟨nd, rfl⟩⟩; refine ⟨_, rfl, ?_⟩))
    (try simp only [Act.put, List.setIfInBounds_toArray, List.set_cons_zero, List.set_cons_succ])
    go_cut [40] (fun v40 wc => ∃ (kq : Nat) (x40_7 : Bool), v40 = .bool x40_7 ∧ Aside0 (rehearsallaw03_PathBack.j0 kq t200 x40_7 = some r) ∧ Aside0 (kq ≤ k) ∧ Aside0 (Below w.heap.size w wc))
    case first =>
      have H := HC8.out
      clear HC8
      replace H := Option.bind_eq_some_iff.mp H
      obtain ⟨t202, A100, H⟩ := H
      replace H : (if t202 = true then ((path_Base.f t201).bind fun t203 => (if t203.toList = a1.toList then ((path_Up.f t201).bind fun t204 => (if t204.toList = t200.toList then ((path_Clean.f t201).bind fun t205 => (rehearsallaw03_PathBack.j0 k t200 (t205.toList != t201.toList))) else (rehearsallaw03_PathBack.j0 k t200 true))) else (rehearsallaw03_PathBack.j0 k t200 true))) else (rehearsallaw03_PathBack.j0 k t200 false)) = some r := H
      have A10 := Aside0.mk A100
      clear A100
      by_cases c11 : t202 = true
      · subst c11
        have H1 : ((path_Base.f t201).bind fun t203 => (if t203.toList = a1.toList then ((path_Up.f t201).bind fun t204 => (if t204.toList = t200.toList then ((path_Clean.f t201).bind fun t205 => (rehearsallaw03_PathBack.j0 k t200 (t205.toList != t201.toList))) else (rehearsallaw03_PathBack.j0 k t200 true))) else (rehearsallaw03_PathBack.j0 k t200 true))) = some r := by rw [if_pos rfl] at H; exact H
        clear H
        have H := H1
        clear H1
        replace H := Option.bind_eq_some_iff.mp H
        obtain ⟨t203, A120, H⟩ := H
        replace H : (if t203.toList = a1.toList then ((path_Up.f t201).bind fun t204 => (if t204.toList = t200.toList then ((path_Clean.f t201).bind fun t205 => (rehearsallaw03_PathBack.j0 k t200 (t205.toList != t201.toList))) else (rehearsallaw03_PathBack.j0 k t200 true))) else (rehearsallaw03_PathBack.j0 k t200 true)) = some r := H
        have A12 := Aside0.mk A120
        clear A120
        by_cases c13 : t203.toList = a1.toList
        · rw [if_pos c13] at H
          have c13b0 : (t203.toList == a1.toList) = true := beq_iff_eq.mpr c13
          have c13b1 : (t203.toList != a1.toList) = false := bne_eq_false_iff_eq.mpr c13
          clear c13
          (first | rw [c13b0] | (simp only [i64_w, i32_w]; rw [c13b0]) | skip)
          replace H := Option.bind_eq_some_iff.mp H
          obtain ⟨t204, A140, H⟩ := H
          replace H : (if t204.toList = t200.toList then ((path_Clean.f t201).bind fun t205 => (rehearsallaw03_PathBack.j0 k t200 (t205.toList != t201.toList))) else (rehearsallaw03_PathBack.j0 k t200 true)) = some r := H
          have A14 := Aside0.mk A140
          clear A140
          by_cases c15 : t204.toList = t200.toList
          · rw [if_pos c15] at H
            have c15b0 : (t204.toList == t200.toList) = true := beq_iff_eq.mpr c15
            have c15b1 : (t204.toList != t200.toList) = false := bne_eq_false_iff_eq.mpr c15
            clear c15
            replace H := Option.bind_eq_some_iff.mp H
            obtain ⟨t205, A160, H⟩ := H
            replace H : (rehearsallaw03_PathBack.j0 k t200 (t205.toList != t201.toList)) = some r := H
            have A16 := Aside0.mk A160
            clear A160
            have H' := Aside0.mk H
            clear H
            go_wp2_with (first | ((with_reducible refine gate_callee (f := 51) rfl ?_); refine goesL_ (some 22) rfl rfl Tryd.func51 (by kernel_rfl) rfl #[.string a1] rfl (by (try simp only [List.map_toArray, List.map_cons, List.map_nil]); first | done | rfl | (simp only [List.length_drop, List.length_take]; rfl)) ?_; (with_reducible refine (path_Name.calls a1 true _ A10.out).mono ?_); rintro e w' ⟨rfl, ⟨nd, rfl⟩⟩; refine ⟨_, rfl, ?_⟩) | (go_at_call 47; (with_reducible refine (path_Base.calls t201 t203 _ A12.out).mono ?_); rintro e w' ⟨rfl, ⟨nd, rfl⟩⟩) | (go_at_call 49; (with_reducible refine (path_Up.calls t201 t204 _ A14.out).mono ?_); rintro e w' ⟨rfl, ⟨nd, rfl⟩⟩) | (go_at_call 45; (with_reducible refine (path_Clean.calls t201 t205 _ A16.out).mono ?_); rintro e w17 ⟨rfl, hb⟩; have n0_ := Aside0.mk (below_step (by repeat (first | (with_reducible first | exact HB.out | apply below_alloc | apply pw_below_drewN | apply below_drew1) | exact HB.out)) hb); clear HB; have HB := n0_; clear n0_; (try clear hb); (try clear hb2); (try clear hk); (try clear hi)))
            go_meet
            case rel => exact ⟨_, ((t205.toList != t201.toList)), (by first | rfl | (simp; done) | (simp [*]; done)), H', ⟨by first | omega | exact Nat.le_refl _⟩, ⟨by repeat (first | (with_reducible first | exact HB.out | apply below_alloc | apply pw_below_drewN | apply below_drew1) | exact HB.out)⟩⟩
          · rw [if_neg c15] at H
            have c15b0 : (t204.toList == t200.toList) = false := beq_eq_false_iff_ne.mpr c15
            have c15b1 : (t204.toList != t200.toList) = true := bne_iff_ne.mpr c15
            have H' := Aside0.mk H
            clear H
            go_wp2_with (first | ((with_reducible refine gate_callee (f := 51) rfl ?_); refine goesL_ (some 22) rfl rfl Tryd.func51 (by kernel_rfl) rfl #[.string a1] rfl (by (try simp only [List.map_toArray, List.map_cons, List.map_nil]); first | done | rfl | (simp only [List.length_drop, List.length_take]; rfl)) ?_; (with_reducible refine (path_Name.calls a1 true _ A10.out).mono ?_); rintro e w' ⟨rfl, ⟨nd, rfl⟩⟩; refine ⟨_, rfl, ?_⟩) | (go_at_call 47; (with_reducible refine (path_Base.calls t201 t203 _ A12.out).mono ?_); rintro e w' ⟨rfl, ⟨nd, rfl⟩⟩) | (go_at_call 49; (with_reducible refine (path_Up.calls t201 t204 _ A14.out).mono ?_); rintro e w' ⟨rfl, ⟨nd, rfl⟩⟩))
            go_meet
            case rel => exact ⟨_, (true), (by first | rfl | (simp; done) | (simp [*]; done)), H', ⟨by first | omega | exact Nat.le_refl _⟩, ⟨by repeat (first | (with_reducible first | exact HB.out | apply below_alloc | apply pw_below_drewN | apply below_drew1) | exact HB.out)⟩⟩
        · rw [if_neg c13] at H
          have c13b0 : (t203.toList == a1.toList) = false := beq_eq_false_iff_ne.mpr c13
          have c13b1 : (t203.toList != a1.toList) = true := bne_iff_ne.mpr c13
          (first | rw [c13b0] | (simp only [i64_w, i32_w]; rw [c13b0]) | skip)
          have H' := Aside0.mk H
          clear H
          go_wp2_with (first | ((with_reducible refine gate_callee (f := 51) rfl ?_); refine goesL_ (some 22) rfl rfl Tryd.func51 (by kernel_rfl) rfl #[.string a1] rfl (by (try simp only [List.map_toArray, List.map_cons, List.map_nil]); first | done | rfl | (simp only [List.length_drop, List.length_take]; rfl)) ?_; (with_reducible refine (path_Name.calls a1 true _ A10.out).mono ?_); rintro e w' ⟨rfl, ⟨nd, rfl⟩⟩; refine ⟨_, rfl, ?_⟩) | (go_at_call 47; (with_reducible refine (path_Base.calls t201 t203 _ A12.out).mono ?_); rintro e w' ⟨rfl, ⟨nd, rfl⟩⟩))
          go_meet
          case rel => exact ⟨_, (true), (by first | rfl | (simp; done) | (simp [*]; done)), H', ⟨by first | omega | exact Nat.le_refl _⟩, ⟨by repeat (first | (with_reducible first | exact HB.out | apply below_alloc | apply pw_below_drewN | apply below_drew1) | exact HB.out)⟩⟩
      · replace c11 := Bool.eq_false_iff.mpr c11
        subst c11
        have H1 : (rehearsallaw03_PathBack.j0 k t200 false) = some r := by rw [if_neg (show ¬ (false = true) by decide)] at H; exact H
        clear H
        have H := H1
        clear H1
        have H' := Aside0.mk H
        clear H
        go_wp2_with (first | ((with_reducible refine gate_callee (f := 51) rfl ?_); refine goesL_ (some 22) rfl rfl Tryd.func51 (by kernel_rfl) rfl #[.string a1] rfl (by (try simp only [List.map_toArray, List.map_cons, List.map_nil]); first | done | rfl | (simp only [List.length_drop, List.length_take]; rfl)) ?_; (with_reducible refine (path_Name.calls a1 false _ A10.out).mono ?_); rintro e w' ⟨rfl, ⟨nd, rfl⟩⟩; refine ⟨_, rfl, ?_⟩))
        go_meet
        case rel => exact ⟨_, (false), (by first | rfl | (simp; done) | (simp [*]; done)), H', ⟨by first | omega | exact Nat.le_refl _⟩, ⟨by repeat (first | (with_reducible first | exact HB.out | apply below_alloc | apply pw_below_drewN | apply below_drew1) | exact HB.out)⟩⟩
    case rest =>
      clear HC8
      try clear c1
      try clear p2
      try clear c3
      try clear c3b0
      try clear c3b1
      try clear c4
      try clear c5
      try clear c11
      try clear c13
      try clear c13b0
      try clear c13b1
      try clear c15
      try clear c15b0
      try clear c15b1
      obtain ⟨kq, x40_7, rfl, HA, HJ7, HB⟩ := hcut
      cases kq with
      | zero => exact absurd HA.out (by simp [rehearsallaw03_PathBack.j0])
      | succ kj7 =>
        have H := HA.out
        clear HA
        simp only [rehearsallaw03_PathBack.j0] at H
        by_cases c18 : x40_7 = true
        · subst c18
          have H1 : (some false) = some r := by rw [if_pos rfl] at H; exact H
          clear H
          have H := H1
          clear H1
          obtain rfl := Option.some.inj H
          go_wp2
          go_ret
          exact ⟨by first | rfl | (simp [errW_none, errW_some] <;> rfl) | (simp [*, errW_none, errW_some] <;> rfl), by repeat (first | (with_reducible first | exact HB.out | apply below_alloc | apply pw_below_drewN | apply below_drew1) | exact HB.out)⟩
        · replace c18 := Bool.eq_false_iff.mpr c18
          subst c18
          have H1 : ((path_Parts.f t200).bind fun bt206 => (if bt206.2.2 = 0 then (rehearsallaw03_PathBack.l0 kj7 t200 bt206.1 (⟨#[47]⟩ : ByteArray) 0) else ((rehearsallaw03_awake.f kj7).bind fun t211 => (some t211)))) = some r := by rw [if_neg (show ¬ (false = true) by decide)] at H; exact H
          clear H
          have H := H1
          clear H1
          replace H := Option.bind_eq_some_iff.mp H
          obtain ⟨⟨t206, t207, t208⟩, A190, H⟩ := H
          replace H : (if t208 = 0 then (rehearsallaw03_PathBack.l0 kj7 t200 t206 (⟨#[47]⟩ : ByteArray) 0) else ((rehearsallaw03_awake.f kj7).bind fun t211 => (some t211))) = some r := H
          have A19 := Aside0.mk A190
          clear A190
          by_cases c20 : t208 = 0
          · rw [if_pos c20] at H
            have c20b0 : (t208 == 0) = true := beq_iff_eq.mpr c20
            have c20b1 : (t208 != 0) = false := bne_eq_false_iff_eq.mpr c20
            clear c20
            have H' := Aside0.mk H
            clear H
            go_wp2_with (first | ((with_reducible refine gate_callee (f := 41) rfl ?_); refine goesL_ (some 43) rfl rfl Tryd.func41 (by kernel_rfl) rfl #[.string t200] rfl (by (try simp only [List.map_toArray, List.map_cons, List.map_nil]); first | done | rfl | (simp only [List.length_drop, List.length_take]; rfl)) ?_; (with_reducible refine (path_Parts.calls t200 t206 t207 t208 _ A19.out).mono ?_); rintro e w21 ⟨v209, rfl, ho0, hb⟩; refine ⟨_, rfl, ?_⟩; have n0_ := Aside0.mk (Kd.R_lower ho0 (below_size (by repeat (first | (with_reducible first | exact HB.out | apply below_alloc | apply pw_below_drewN | apply below_drew1) | exact HB.out)))); have n1_ := Aside0.mk (below_step (by repeat (first | (with_reducible first | exact HB.out | apply below_alloc | apply pw_below_drewN | apply below_drew1) | exact HB.out)) hb); clear HB; have HO210 := n0_; have HB := n1_; clear n0_ n1_; (try clear hb); (try clear hb2); (try clear hk); (try clear hi); (try clear ho0)))
            go_loopg [10, 11] kj7 (fun kq v10 v11 w' => ∃ (x10_2 : ByteArray) (x11_2 : Int), v10 = .string x10_2 ∧ v11 = .int .i64 x11_2 ∧ Aside0 (rehearsallaw03_PathBack.l0 kq t200 t206 x10_2 x11_2 = some r) ∧ Aside0 (kq ≤ kj7) ∧ Aside0 (Kd.R Kd.string 9 w' w.heap.size (fun _ => True) v209 t206) ∧ Aside0 (Below w.heap.size w w'))
            case atStart => exact ⟨((⟨#[47]⟩ : ByteArray)), (0), (by first | rfl | (simp; done) | (simp [*]; done)), (by first | rfl | (simp; done) | (simp [*]; done)), H', ⟨Nat.le_refl _⟩, ⟨by (with_reducible repeat (first | apply Kd.R_alloc | apply Kd.R_drewN | apply Kd.R_drew)); exact HO210.out⟩, ⟨by repeat (first | (with_reducible first | exact HB.out | apply below_alloc | apply pw_below_drewN | apply below_drew1) | exact HB.out)⟩⟩
            case round =>
              clear H'
              try clear c1
              try clear c2
              try clear p2
              try clear c3
              try clear c3b0
              try clear c3b1
              try clear c4
              try clear c5
              try clear c11
              try clear c13
              try clear c13b0
              try clear c13b1
              try clear c15
              try clear c15b0
              try clear c15b1
              try clear c18
              try clear c20
              try clear c20b0
              try clear c20b1
              try clear p2
              obtain ⟨x10_2, x11_2, rfl, rfl, HA, HK2, HO_7, HB⟩ := hrel
              cases gk with
              | zero => exact absurd HA.out (by simp [rehearsallaw03_PathBack.l0])
              | succ k2 =>
                have H := HA.out
                clear HA
                simp only [rehearsallaw03_PathBack.l0] at H
                by_cases c22 : x11_2 < (t206.length : Int)
                · rw [if_pos c22] at H
                  have c22b0 : decide (x11_2 < (t206.length : Int)) = true := decide_eq_true c22
                  clear c22
                  by_cases c23 : 0 ≤ x11_2
                  · rw [if_pos c23] at H
                    have c23b0 : decide (0 ≤ x11_2) = true := decide_eq_true c23
                    clear c23
                    replace H := Option.bind_eq_some_iff.mp H
                    obtain ⟨t213, A240, H⟩ := H
                    replace H : (rehearsallaw03_PathBack.l0 k2 t200 t206 t213 (wrap64 (x11_2 + 1))) = some r := H
                    have A24 := Aside0.mk A240
                    clear A240
                    have H' := Aside0.mk H
                    clear H
                    obtain ⟨Ao25, co25, eo25⟩ := Kd.R_slice HO_7.out
                    subst eo25
                    have p212 : 0 ≤ (x11_2 : Int) := of_decide_eq_true (by first | (with_reducible assumption) | assumption)
                    have q212 : x11_2 < (t206.length : Int) := of_decide_eq_true (by first | (with_reducible assumption) | assumption)
                    obtain ⟨ad212, e212, hx212_0⟩ := Kd.at_string (Kd.R_reads' HO_7.out).2.2 x11_2 p212 q212
                    cases e212
                    replace p212 := eq_true p212
                    replace q212 := eq_true q212
                    go_wp2_with (first | ((with_reducible refine gate_callee (f := 53) rfl ?_); refine goesL_ (some 61) rfl rfl Tryd.func53 (by kernel_rfl) rfl #[.string x10_2, .string (rdOf ByteArray.empty t206 x11_2)] rfl (by (try simp only [List.map_toArray, List.map_cons, List.map_nil]); first | done | rfl | (simp only [List.length_drop, List.length_take]; rfl)) ?_; (with_reducible refine (path_Join.calls x10_2 (rdOf ByteArray.empty t206 x11_2) t213 _ A24.out).mono ?_); rintro e w' ⟨rfl, ⟨nd, rfl⟩⟩; refine ⟨_, rfl, ?_⟩))
                    go_roundg k2
                    case measure => have := HJ7.out; have := HK2.out; omega
                    case rel => exact ⟨(t213), (wrap64 (x11_2 + 1)), (by first | rfl | (simp; done) | (simp [*]; done)), (by first | rfl | (simp; done) | (simp [*]; done)), H', ⟨by have := HJ7.out; have := HK2.out; omega⟩, ⟨by (with_reducible repeat (first | apply Kd.R_alloc | apply Kd.R_drewN | apply Kd.R_drew)); (first | exact HO_7.out | exact Kd.R_mono HO_7.out (fun _ hk e => hk (e.trans (ob_len_PAll5 _ _ _ _ _))))⟩, ⟨by repeat (first | (with_reducible first | exact HB.out | apply below_alloc | apply pw_below_drewN | apply below_drew1) | exact HB.out)⟩⟩
                  · rw [if_neg c23] at H
                    exact absurd H (by simp)
                · rw [if_neg c22] at H
                  have c22b0 : decide (x11_2 < (t206.length : Int)) = false := decide_eq_false c22
                  clear c22
                  by_cases c26 : x10_2.toList = t200.toList
                  · rw [if_pos c26] at H
                    have c26b0 : (x10_2.toList == t200.toList) = true := beq_iff_eq.mpr c26
                    have c26b1 : (x10_2.toList != t200.toList) = false := bne_eq_false_iff_eq.mpr c26
                    clear c26
                    replace H := Option.bind_eq_some_iff.mp H
                    obtain ⟨t214, A270, H⟩ := H
                    replace H : (some t214) = some r := H
                    have A27 := Aside0.mk A270
                    clear A270
                    obtain rfl := Option.some.inj H
                    obtain ⟨Ao28, co28, eo28⟩ := Kd.R_slice HO_7.out
                    subst eo28
                    go_wp2_with (first | (go_at_call 44; (with_reducible refine (rehearsallaw03_awake.calls k2  t214 _ A27.out).mono ?_); rintro e w29 ⟨rfl, hb⟩; have n0_ := Aside0.mk (Kd.R_below (by (with_reducible repeat (first | apply Kd.R_alloc | apply Kd.R_drewN | apply Kd.R_drew)); exact HO_7.out) hb); have n1_ := Aside0.mk (below_step (by repeat (first | (with_reducible first | exact HB.out | apply below_alloc | apply pw_below_drewN | apply below_drew1) | exact HB.out)) hb); clear HO_7; clear HB; have HO_7 := n0_; have HB := n1_; clear n0_ n1_; (try clear hb); (try clear hb2); (try clear hk); (try clear hi)))
                    go_ret
                    exact ⟨by first | rfl | (simp [errW_none, errW_some] <;> rfl) | (simp [*, errW_none, errW_some] <;> rfl), by repeat (first | (with_reducible first | exact HB.out | apply below_alloc | apply pw_below_drewN | apply below_drew1) | exact HB.out)⟩
                  · rw [if_neg c26] at H
                    have c26b0 : (x10_2.toList == t200.toList) = false := beq_eq_false_iff_ne.mpr c26
                    have c26b1 : (x10_2.toList != t200.toList) = true := bne_iff_ne.mpr c26
                    obtain rfl := Option.some.inj H
                    obtain ⟨Ao30, co30, eo30⟩ := Kd.R_slice HO_7.out
                    subst eo30
                    go_wp2
                    go_ret
                    exact ⟨by first | rfl | (simp [errW_none, errW_some] <;> rfl) | (simp [*, errW_none, errW_some] <;> rfl), by repeat (first | (with_reducible first | exact HB.out | apply below_alloc | apply pw_below_drewN | apply below_drew1) | exact HB.out)⟩
          · rw [if_neg c20] at H
            have c20b0 : (t208 == 0) = false := beq_eq_false_iff_ne.mpr c20
            have c20b1 : (t208 != 0) = true := bne_iff_ne.mpr c20
            replace H := Option.bind_eq_some_iff.mp H
            obtain ⟨t211, A310, H⟩ := H
            replace H : (some t211) = some r := H
            have A31 := Aside0.mk A310
            clear A310
            obtain rfl := Option.some.inj H
            go_wp2_with (first | ((with_reducible refine gate_callee (f := 41) rfl ?_); refine goesL_ (some 43) rfl rfl Tryd.func41 (by kernel_rfl) rfl #[.string t200] rfl (by (try simp only [List.map_toArray, List.map_cons, List.map_nil]); first | done | rfl | (simp only [List.length_drop, List.length_take]; rfl)) ?_; (with_reducible refine (path_Parts.calls t200 t206 t207 t208 _ A19.out).mono ?_); rintro e w32 ⟨v209, rfl, ho0, hb⟩; refine ⟨_, rfl, ?_⟩; have n0_ := Aside0.mk (Kd.R_lower ho0 (below_size (by repeat (first | (with_reducible first | exact HB.out | apply below_alloc | apply pw_below_drewN | apply below_drew1) | exact HB.out)))); have n1_ := Aside0.mk (below_step (by repeat (first | (with_reducible first | exact HB.out | apply below_alloc | apply pw_below_drewN | apply below_drew1) | exact HB.out)) hb); clear HB; have HO210 := n0_; have HB := n1_; clear n0_ n1_; (try clear hb); (try clear hb2); (try clear hk); (try clear hi); (try clear ho0)) | ((with_reducible refine gate_callee (f := 44) rfl ?_); refine goesL_ (some 49) rfl rfl Tryd.func44 (by kernel_rfl) rfl #[] rfl (by (try simp only [List.map_toArray, List.map_cons, List.map_nil]); first | done | rfl | (simp only [List.length_drop, List.length_take]; rfl)) ?_; (with_reducible refine (rehearsallaw03_awake.calls kj7  t211 _ A31.out).mono ?_); rintro e w33 ⟨rfl, hb⟩; refine ⟨_, rfl, ?_⟩; have n0_ := Aside0.mk (Kd.R_below (by (with_reducible repeat (first | apply Kd.R_alloc | apply Kd.R_drewN | apply Kd.R_drew)); exact HO210.out) hb); have n1_ := Aside0.mk (below_step (by repeat (first | (with_reducible first | exact HB.out | apply below_alloc | apply pw_below_drewN | apply below_drew1) | exact HB.out)) hb); clear HO210; clear HB; have HO210 := n0_; have HB := n1_; clear n0_ n1_; (try clear hb); (try clear hb2); (try clear hk); (try clear hi)))
            go_ret
            exact ⟨by first | rfl | (simp [errW_none, errW_some] <;> rfl) | (simp [*, errW_none, errW_some] <;> rfl), by repeat (first | (with_reducible first | exact HB.out | apply below_alloc | apply pw_below_drewN | apply below_drew1) | exact HB.out)⟩

/-- THE ONE PURE STATEMENT of rehearsallaw03_PathBack: yours. -/
def rehearsallaw03_PathBack.Pure : Prop := ∀ (a0 : ByteArray) (a1 : ByteArray), a0.size ≤ 140737488351232 → a1.size ≤ 140737488351232 → ∃ k, rehearsallaw03_PathBack.f k a0 a1 = some true
theorem rehearsallaw03_PathBack.walk (P : rehearsallaw03_PathBack.Pure) (a0 : ByteArray) (a1 : ByteArray) (w : World) (w0 : a0.size ≤ 140737488351232) (w1 : a1.size ≤ 140737488351232) :
    Calls Tryd.prog 13 #[.string a0, .string a1] w fun e w' => e = .returned (.bool true) ∧ Below w.heap.size w w' := by
  obtain ⟨k, h⟩ := P a0 a1 w0 w1
  refine (rehearsallaw03_PathBack.calls k a0 a1 true w h).mono ?_
  rintro e w' ⟨rfl, hd⟩
  exact ⟨rfl, hd⟩

end Go.Proofs.YtnpnablnnfekkaaDoor.PAll
