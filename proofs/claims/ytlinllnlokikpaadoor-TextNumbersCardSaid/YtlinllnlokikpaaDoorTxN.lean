import Derived.Test.YtlinllnlokikpaaDoorGivA
/- text.Test of three words that two answers: in the print's own form. -/
set_option linter.unusedVariables false
set_option linter.unusedSimpArgs false
namespace Go.Proofs.YtlinllnlokikpaaDoor
open Go.RowKit Go.Proofs.YtlinllnlokikpaaDoorW.PrintWords Go.Proofs.YtlinllnlokikpaaDoorW.PrintLast Go.Proofs.YtlinllnlokikpaaDoorW.PrintMore
set_option maxHeartbeats 2000000 in
set_option maxRecDepth 100000 in
theorem ask_any (x op y : ByteArray) (r : Int) (hT : PTw.text_two.f x op y = some r) (hr : r ≠ 2) (c : Nat) (d : ByteArray) (w : World) (a : Addr) (hb : a.block < w.heap.size) (h0 : w.cell? a = some (.string x)) (h1 : w.cell? ⟨a.block, a.off + 1, none⟩ = some (.string op)) (h2 : w.cell? ⟨a.block, a.off + 2, none⟩ = some (.string y)) :
    Calls Tryd.prog 22 #[.agg #[.pointer none, .string d], .slice (some a) 3 c] w fun e W' => e = .returned (.int .i64 r) ∧ Below w.heap.size w W' := by
  have hB := (Below.refl w.heap.size w).alloc (Nat.le_refl _) (.cells #[.pointer none, .string d] 52)
  have HB := Lib.hid hB
  have k0 := (hB.cell (p := a) hb).trans h0
  have k1 := (hB.cell (p := ⟨a.block, a.off + 1, none⟩) hb).trans h1
  have k2 := (hB.cell (p := ⟨a.block, a.off + 2, none⟩) hb).trans h2
  clear hB h0 h1 h2
  go_enter Tryd.func22, Tryd.ntmps22
  go_wp2_with (fail)
  refine start_ (n := 11) (S := fun w' => w'.cell? a = some (.string x) ∧ w'.cell? ⟨a.block, a.off + 1, none⟩ = some (.string op) ∧ w'.cell? ⟨a.block, a.off + 2, none⟩ = some (.string y)) (ds := [9]) #[false, false, false, false, false, false, false, false, false, false, false] (by kernel_rfl) rfl rfl ⟨k0, k1, k2⟩ (fun hHeld => ?_)
  have HB2 := Lib.hid (HB.out.drew)
  generalize World.drew _ = w3 at HB2 hHeld ⊢
  refine pure_ (i := 0) (N := some 38) (v := ?_) (a' := ?_) #[true, false, false, false, false, false, false, false, false, false, false] rfl rfl (by kernel_rfl) (fun _ _ _ h => h) (Or.inl ⟨by rfl, ?_⟩) ?_ ?_
  rotate_left
  · intro w'
    go_simp
    with_reducible rfl
  rotate_left
  · simp only [Act.put, List.setIfInBounds_toArray, List.set_cons_zero, List.set_cons_succ, i64_w, i32_w]
    rfl
  refine pure_ (i := 1) (N := some 39) (v := ?_) (a' := ?_) #[true, true, false, false, false, false, false, false, false, false, false] rfl rfl (by kernel_rfl) (fun _ _ _ h => h) (Or.inl ⟨by rfl, ?_⟩) ?_ ?_
  rotate_left
  · intro w'
    go_simp
    with_reducible rfl
  rotate_left
  · simp only [Act.put, List.setIfInBounds_toArray, List.set_cons_zero, List.set_cons_succ, i64_w, i32_w]
    rfl
  refine pure_ (i := 3) (N := some 41) (v := ?_) (a' := ?_) #[true, true, false, true, false, false, false, false, false, false, false] rfl rfl (by kernel_rfl) (fun _ _ _ h => h) (Or.inl ⟨by rfl, ?_⟩) ?_ ?_
  rotate_left
  · intro w'
    go_simp
    with_reducible rfl
  rotate_left
  · simp only [Act.put, List.setIfInBounds_toArray, List.set_cons_zero, List.set_cons_succ, i64_w, i32_w]
    rfl
  refine pure_ (i := 4) (N := some 42) (v := ?_) (a' := ?_) #[true, true, false, true, true, false, false, false, false, false, false] rfl rfl (by kernel_rfl) (fun _ _ _ h => h) (Or.inl ⟨by rfl, ?_⟩) ?_ ?_
  rotate_left
  · intro w'
    go_simp
    with_reducible rfl
  rotate_left
  · simp only [Act.put, List.setIfInBounds_toArray, List.set_cons_zero, List.set_cons_succ, i64_w, i32_w]
    rfl
  refine pure_ (i := 6) (N := some 44) (v := ?_) (a' := ?_) #[true, true, false, true, true, false, true, false, false, false, false] rfl rfl (by kernel_rfl) (fun _ _ _ h => h) (Or.inl ⟨by rfl, ?_⟩) ?_ ?_
  rotate_left
  · intro w'
    go_simp
    with_reducible rfl
  rotate_left
  · simp only [Act.put, List.setIfInBounds_toArray, List.set_cons_zero, List.set_cons_succ, i64_w, i32_w]
    rfl
  refine pure_ (i := 7) (N := some 45) (v := ?_) (a' := ?_) #[true, true, false, true, true, false, true, true, false, false, false] rfl rfl (by kernel_rfl) (fun _ _ _ h => h) (Or.inl ⟨by rfl, ?_⟩) ?_ ?_
  rotate_left
  · intro w'
    go_simp
    with_reducible rfl
  rotate_left
  · simp only [Act.put, List.setIfInBounds_toArray, List.set_cons_zero, List.set_cons_succ, i64_w, i32_w]
    rfl
  refine take_ (i := 2) (N := some 40) (v := ?_) (a' := ?_) #[true, true, true, true, true, false, true, true, false, false, false] rfl rfl (by kernel_rfl) (fun _ _ _ h => h) (Or.inl ⟨by rfl, ?_⟩) hHeld ?_ ?_
  rotate_left
  · rintro w' ⟨s0, s1, s2⟩
    go_simp
    with_reducible rfl
  rotate_left
  · simp only [Act.put, List.setIfInBounds_toArray, List.set_cons_zero, List.set_cons_succ, i64_w, i32_w]
    rfl
  refine take_ (i := 5) (N := some 43) (v := ?_) (a' := ?_) #[true, true, true, true, true, true, true, true, false, false, false] rfl rfl (by kernel_rfl) (fun _ _ _ h => h) (Or.inl ⟨by rfl, ?_⟩) hHeld ?_ ?_
  rotate_left
  · rintro w' ⟨s0, s1, s2⟩
    go_simp
    with_reducible rfl
  rotate_left
  · simp only [Act.put, List.setIfInBounds_toArray, List.set_cons_zero, List.set_cons_succ, i64_w, i32_w]
    rfl
  refine take_ (i := 8) (N := some 46) (v := ?_) (a' := ?_) #[true, true, true, true, true, true, true, true, true, false, false] rfl rfl (by kernel_rfl) (fun _ _ _ h => h) (Or.inl ⟨by rfl, ?_⟩) hHeld ?_ ?_
  rotate_left
  · rintro w' ⟨s0, s1, s2⟩
    go_simp
    with_reducible rfl
  rotate_left
  · simp only [Act.put, List.setIfInBounds_toArray, List.set_cons_zero, List.set_cons_succ, i64_w, i32_w]
    rfl
  refine last_ (i := 9) (N := some 47) #[true, true, true, true, true, true, true, true, true, true, false] rfl rfl (by kernel_rfl) (by decide) (fun K hK => ?_)
  refine goes_ Tryd.func35 (by kernel_rfl) rfl #[.string x, .string op, .string y] (by rfl) rfl rfl (by first | rfl | (simp [Act.eval]; done) | (simp [Act.eval, Act.put]; done)) ?_
  refine (PTw.text_two.calls _ _ _ _ _ hT).mono ?_
  rintro e w4 ⟨rfl, hD⟩
  have HC := Lib.hid (HB2.out.trans ((drawn_below hD).mono HB2.out.size))
  have q0 := (drawn_cell hD (a := a)).trans hHeld.1
  clear hD
  refine ⟨_, rfl, ?_⟩
  refine hK.out _ _ ?_
  clear hK K
  refine pure_ (i := 10) (N := some 5) (v := ?_) (a' := ?_) #[true, true, true, true, true, true, true, true, true, true, true] rfl rfl (by kernel_rfl) (fun _ _ _ h => h) (Or.inl ⟨by rfl, ?_⟩) ?_ ?_
  rotate_left
  · intro w'
    go_simp
    with_reducible rfl
  rotate_left
  · simp only [Act.put, List.setIfInBounds_toArray, List.set_cons_zero, List.set_cons_succ, i64_w, i32_w]
    rfl
  refine done_ (by kernel_rfl) ?_
  have r1_ : (r == 2) = false := beq_eq_false_iff_ne.mpr hr
  have r2_ : (r != 2) = true := bne_iff_ne.mpr hr
  have r3_ : decide (r = 2) = false := decide_eq_false hr
  go_wp2
  go_ret
  exact ⟨rfl, HC.out⟩
set_option maxHeartbeats 2000000 in
set_option maxRecDepth 100000 in
theorem test_any (x op y : ByteArray) (r : Int) (hT : PTw.text_two.f x op y = some r) (hr : r ≠ 2) (c : Nat) (d : ByteArray) (w : World) (a : Addr) (hb : a.block < w.heap.size) (h0 : w.cell? a = some (.string x)) (h1 : w.cell? ⟨a.block, a.off + 1, none⟩ = some (.string op)) (h2 : w.cell? ⟨a.block, a.off + 2, none⟩ = some (.string y)) :
    Calls Tryd.prog 14 #[.pointer none, .string d, .slice (some a) 3 c] w fun e W' => e = .returned (.int .i64 r) ∧ Below w.heap.size w W' := by
  have H := Lib.hid (ask_any x op y r hT hr c d w a hb h0 h1 h2)
  clear hb h0 h1 h2
  go_enter Tryd.func14, Tryd.ntmps14
  go_wp2_with (go_at_call 22; refine H.out.mono ?_; rintro e w' ⟨rfl, hD⟩; have HD := Lib.hid hD; clear hD)
  go_ret
  exact ⟨rfl, HD.out⟩
def text_Test.f (a1 : ByteArray) (l2 : List ByteArray) : Option Int := match l2 with
  | [x, op, y] => (PTw.text_two.f x op y).bind fun r => if r = 2 then none else some r
  | _ => none
theorem text_Test.calls (a1 : ByteArray) (A2 : Option Addr) (c2 : Nat) (l2 : List ByteArray) (r : Int) (w : World) (hr2 : Kd.C Kd.string w A2 l2.length l2) (hc2 : l2.length ≤ c2) (h : text_Test.f a1 l2 = some r) :
    Calls Tryd.prog 14 #[.pointer none, .string a1, .slice A2 l2.length c2] w fun e w' => e = .returned (.int .i64 r) ∧ Below w.heap.size w w' := by
  unfold text_Test.f at h
  split at h
  · rename_i x op y
    cases hT : PTw.text_two.f x op y with
    | none => rw [hT] at h; simp at h
    | some q =>
      rw [hT, Option.bind_some] at h
      by_cases hq : q = 2
      · rw [if_pos hq] at h; simp at h
      · rw [if_neg hq] at h
        obtain rfl := Option.some.inj h
        obtain ⟨a, rfl, h0⟩ := Kd.at_string hr2 0 (by omega) (by simp)
        obtain ⟨b, eb, h1⟩ := Kd.at_string hr2 1 (by omega) (by simp)
        obtain ⟨c, ec, h2⟩ := Kd.at_string hr2 2 (by omega) (by simp)
        cases eb
        cases ec
        have hb := World.block_lt_of_cell? w _ h0
        exact test_any x op y q hT hq c2 a1 w a hb h0 h1 h2
  · cases h
end Go.Proofs.YtlinllnlokikpaaDoor
