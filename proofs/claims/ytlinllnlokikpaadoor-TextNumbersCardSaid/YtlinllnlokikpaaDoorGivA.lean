import Derived.Test.YtlinllnlokikpaaDoorOnAll
import Derived.Test.YtlinllnlokikpaaDoorPTwx
/- The law's awake. -/
set_option linter.unusedVariables false
set_option linter.unusedSimpArgs false
namespace Go.Proofs.YtlinllnlokikpaaDoor
open Go.RowKit Go.Proofs.YtlinllnlokikpaaDoorW.PrintWords Go.Proofs.YtlinllnlokikpaaDoorW.PrintLast Go.Proofs.YtlinllnlokikpaaDoorW.PrintMore

theorem dec3 : decD (⟨#[51]⟩ : ByteArray).data.toList = (3, 0) := by decide +kernel
theorem decx : (decD (⟨#[120]⟩ : ByteArray).data.toList).2 ≠ 0 := by decide +kernel
theorem dec10 : decD (⟨#[49, 48]⟩ : ByteArray).data.toList = (10, 0) := by decide +kernel
theorem two3 : PTw.text_two.f ⟨#[51]⟩ ⟨#[45, 108, 116]⟩ ⟨#[49, 48]⟩ = some 0 := by
  unfold PTw.text_two.f PTw.text_truth.f num_Decimal.f
  simp only [ByteArray.toList_eq]
  decide +kernel
theorem twox : PTw.text_two.f ⟨#[120]⟩ ⟨#[45, 108, 116]⟩ ⟨#[49, 48]⟩ = some 2 := by
  unfold PTw.text_two.f PTw.text_truth.f num_Decimal.f
  simp only [ByteArray.toList_eq]
  decide +kernel
theorem printf3 : printfM ⟨#[37, 45, 51, 115, 124, 37, 50, 100, 92, 110]⟩ [⟨#[97]⟩, ⟨#[53]⟩] = (⟨#[97, 32, 32, 124, 32, 53, 10]⟩, true) := by decide +kernel
theorem echo3 : PCon.text_Echo.f [⟨#[97]⟩, ⟨#[98]⟩] = some ⟨#[97, 32, 98, 10]⟩ := by
  unfold PCon.text_Echo.f strings_Join.f
  simp only [ByteArray.toList_eq]
  decide +kernel
theorem drawn_below {w w' : World} (h : Drawn0 w w') : Below w.heap.size w w' := by
  obtain ⟨n, rfl⟩ := h
  exact (Frm.refl (fun _ => False) w).drewN n |>.below (Nat.le_refl _) (fun _ _ k => k)
theorem drawn_cell {w w' : World} (h : Drawn0 w w') {a : Addr} : w'.cell? a = w.cell? a := by
  obtain ⟨n, rfl⟩ := h
  rfl
set_option maxHeartbeats 2000000 in
set_option maxRecDepth 100000 in
theorem ask_lt (d : ByteArray) (w : World) (a : Addr) (hb : a.block < w.heap.size) (h0 : w.cell? a = some (.string ⟨#[51]⟩)) (h1 : w.cell? ⟨a.block, a.off + 1, none⟩ = some (.string ⟨#[45, 108, 116]⟩)) (h2 : w.cell? ⟨a.block, a.off + 2, none⟩ = some (.string ⟨#[49, 48]⟩)) :
    Calls Tryd.prog 22 #[.agg #[.pointer none, .string d], .slice (some a) 3 3] w fun e W' => e = .returned (.int .i64 0) ∧ Below w.heap.size w W' := by
  have hB := (Below.refl w.heap.size w).alloc (Nat.le_refl _) (.cells #[.pointer none, .string d] 52)
  have HB := Lib.hid hB
  have k0 := (hB.cell (p := a) hb).trans h0
  have k1 := (hB.cell (p := ⟨a.block, a.off + 1, none⟩) hb).trans h1
  have k2 := (hB.cell (p := ⟨a.block, a.off + 2, none⟩) hb).trans h2
  clear hB h0 h1 h2
  go_enter Tryd.func22, Tryd.ntmps22
  go_wp2_with (fail)
  refine start_ (n := 11) (S := fun w' => w'.cell? a = some (.string ⟨#[51]⟩) ∧ w'.cell? ⟨a.block, a.off + 1, none⟩ = some (.string ⟨#[45, 108, 116]⟩) ∧ w'.cell? ⟨a.block, a.off + 2, none⟩ = some (.string ⟨#[49, 48]⟩)) (ds := [9]) #[false, false, false, false, false, false, false, false, false, false, false] (by kernel_rfl) rfl rfl ⟨k0, k1, k2⟩ (fun hHeld => ?_)
  have HB2 := Lib.hid (HB.out.drew)
  generalize World.drew _ = w3 at HB2 hHeld ⊢
  refine pure_ (i := 0) (N := some 38) (v := ?_) (a' := ?_) #[true, false, false, false, false, false, false, false, false, false, false] rfl rfl (by kernel_rfl) (fun _ _ _ h => h) (Or.inl ⟨by rfl, ?_⟩) ?_ ?_
  rotate_left
  · intro w'
    go_simp
    with_reducible rfl
  rotate_left
  · simp only [Act.put, List.setIfInBounds_toArray, List.set_cons_zero, List.set_cons_succ, i64_w, i32_w]
    rfl
  refine pure_ (i := 1) (N := some 39) (v := ?_) (a' := ?_) #[true, true, false, false, false, false, false, false, false, false, false] rfl rfl (by kernel_rfl) (fun _ _ _ h => h) (Or.inl ⟨by rfl, ?_⟩) ?_ ?_
  rotate_left
  · intro w'
    go_simp
    with_reducible rfl
  rotate_left
  · simp only [Act.put, List.setIfInBounds_toArray, List.set_cons_zero, List.set_cons_succ, i64_w, i32_w]
    rfl
  refine pure_ (i := 3) (N := some 41) (v := ?_) (a' := ?_) #[true, true, false, true, false, false, false, false, false, false, false] rfl rfl (by kernel_rfl) (fun _ _ _ h => h) (Or.inl ⟨by rfl, ?_⟩) ?_ ?_
  rotate_left
  · intro w'
    go_simp
    with_reducible rfl
  rotate_left
  · simp only [Act.put, List.setIfInBounds_toArray, List.set_cons_zero, List.set_cons_succ, i64_w, i32_w]
    rfl
  refine pure_ (i := 4) (N := some 42) (v := ?_) (a' := ?_) #[true, true, false, true, true, false, false, false, false, false, false] rfl rfl (by kernel_rfl) (fun _ _ _ h => h) (Or.inl ⟨by rfl, ?_⟩) ?_ ?_
  rotate_left
  · intro w'
    go_simp
    with_reducible rfl
  rotate_left
  · simp only [Act.put, List.setIfInBounds_toArray, List.set_cons_zero, List.set_cons_succ, i64_w, i32_w]
    rfl
  refine pure_ (i := 6) (N := some 44) (v := ?_) (a' := ?_) #[true, true, false, true, true, false, true, false, false, false, false] rfl rfl (by kernel_rfl) (fun _ _ _ h => h) (Or.inl ⟨by rfl, ?_⟩) ?_ ?_
  rotate_left
  · intro w'
    go_simp
    with_reducible rfl
  rotate_left
  · simp only [Act.put, List.setIfInBounds_toArray, List.set_cons_zero, List.set_cons_succ, i64_w, i32_w]
    rfl
  refine pure_ (i := 7) (N := some 45) (v := ?_) (a' := ?_) #[true, true, false, true, true, false, true, true, false, false, false] rfl rfl (by kernel_rfl) (fun _ _ _ h => h) (Or.inl ⟨by rfl, ?_⟩) ?_ ?_
  rotate_left
  · intro w'
    go_simp
    with_reducible rfl
  rotate_left
  · simp only [Act.put, List.setIfInBounds_toArray, List.set_cons_zero, List.set_cons_succ, i64_w, i32_w]
    rfl
  refine take_ (i := 2) (N := some 40) (v := ?_) (a' := ?_) #[true, true, true, true, true, false, true, true, false, false, false] rfl rfl (by kernel_rfl) (fun _ _ _ h => h) (Or.inl ⟨by rfl, ?_⟩) hHeld ?_ ?_
  rotate_left
  · rintro w' ⟨s0, s1, s2⟩
    go_simp
    with_reducible rfl
  rotate_left
  · simp only [Act.put, List.setIfInBounds_toArray, List.set_cons_zero, List.set_cons_succ, i64_w, i32_w]
    rfl
  refine take_ (i := 5) (N := some 43) (v := ?_) (a' := ?_) #[true, true, true, true, true, true, true, true, false, false, false] rfl rfl (by kernel_rfl) (fun _ _ _ h => h) (Or.inl ⟨by rfl, ?_⟩) hHeld ?_ ?_
  rotate_left
  · rintro w' ⟨s0, s1, s2⟩
    go_simp
    with_reducible rfl
  rotate_left
  · simp only [Act.put, List.setIfInBounds_toArray, List.set_cons_zero, List.set_cons_succ, i64_w, i32_w]
    rfl
  refine take_ (i := 8) (N := some 46) (v := ?_) (a' := ?_) #[true, true, true, true, true, true, true, true, true, false, false] rfl rfl (by kernel_rfl) (fun _ _ _ h => h) (Or.inl ⟨by rfl, ?_⟩) hHeld ?_ ?_
  rotate_left
  · rintro w' ⟨s0, s1, s2⟩
    go_simp
    with_reducible rfl
  rotate_left
  · simp only [Act.put, List.setIfInBounds_toArray, List.set_cons_zero, List.set_cons_succ, i64_w, i32_w]
    rfl
  refine last_ (i := 9) (N := some 47) #[true, true, true, true, true, true, true, true, true, true, false] rfl rfl (by kernel_rfl) (by decide) (fun K hK => ?_)
  refine goes_ Tryd.func35 (by kernel_rfl) rfl #[.string ⟨#[51]⟩, .string ⟨#[45, 108, 116]⟩, .string ⟨#[49, 48]⟩] (by rfl) rfl rfl (by first | rfl | (simp [Act.eval]; done) | (simp [Act.eval, Act.put]; done)) ?_
  refine (PTw.text_two.calls _ _ _ _ _ two3).mono ?_
  rintro e w4 ⟨rfl, hD⟩
  have HC := Lib.hid (HB2.out.trans ((drawn_below hD).mono HB2.out.size))
  have q0 := (drawn_cell hD (a := a)).trans hHeld.1
  clear hD
  refine ⟨_, rfl, ?_⟩
  refine hK.out _ _ ?_
  clear hK K
  refine pure_ (i := 10) (N := some 5) (v := ?_) (a' := ?_) #[true, true, true, true, true, true, true, true, true, true, true] rfl rfl (by kernel_rfl) (fun _ _ _ h => h) (Or.inl ⟨by rfl, ?_⟩) ?_ ?_
  rotate_left
  · intro w'
    go_simp
    with_reducible rfl
  rotate_left
  · simp only [Act.put, List.setIfInBounds_toArray, List.set_cons_zero, List.set_cons_succ, i64_w, i32_w]
    rfl
  refine done_ (by kernel_rfl) ?_
  go_wp2
  go_ret
  exact ⟨rfl, HC.out⟩
set_option maxHeartbeats 2000000 in
set_option maxRecDepth 100000 in
theorem test_lt (d : ByteArray) (w : World) (a : Addr) (hb : a.block < w.heap.size) (h0 : w.cell? a = some (.string ⟨#[51]⟩)) (h1 : w.cell? ⟨a.block, a.off + 1, none⟩ = some (.string ⟨#[45, 108, 116]⟩)) (h2 : w.cell? ⟨a.block, a.off + 2, none⟩ = some (.string ⟨#[49, 48]⟩)) :
    Calls Tryd.prog 14 #[.pointer none, .string d, .slice (some a) 3 3] w fun e W' => e = .returned (.int .i64 0) ∧ Below w.heap.size w W' := by
  have H := Lib.hid (ask_lt d w a hb h0 h1 h2)
  clear hb h0 h1 h2
  go_enter Tryd.func14, Tryd.ntmps14
  go_wp2_with (go_at_call 22; refine H.out.mono ?_; rintro e w' ⟨rfl, hD⟩; have HD := Lib.hid hD; clear hD)
  go_ret
  exact ⟨rfl, HD.out⟩
set_option maxHeartbeats 2000000 in
set_option maxRecDepth 100000 in
theorem ask_no (d : ByteArray) (w : World) (a : Addr) (hb : a.block < w.heap.size) (h0 : w.cell? a = some (.string ⟨#[120]⟩)) (h1 : w.cell? ⟨a.block, a.off + 1, none⟩ = some (.string ⟨#[45, 108, 116]⟩)) (h2 : w.cell? ⟨a.block, a.off + 2, none⟩ = some (.string ⟨#[49, 48]⟩)) :
    Calls Tryd.prog 22 #[.agg #[.pointer none, .string d], .slice (some a) 3 3] w fun e W' => e = .returned (.int .i64 2) ∧ Below w.heap.size w W' := by
  have hB := (Below.refl w.heap.size w).alloc (Nat.le_refl _) (.cells #[.pointer none, .string d] 52)
  have HB := Lib.hid hB
  have k0 := (hB.cell (p := a) hb).trans h0
  have k1 := (hB.cell (p := ⟨a.block, a.off + 1, none⟩) hb).trans h1
  have k2 := (hB.cell (p := ⟨a.block, a.off + 2, none⟩) hb).trans h2
  clear hB h0 h1 h2
  go_enter Tryd.func22, Tryd.ntmps22
  go_wp2_with (fail)
  refine start_ (n := 11) (S := fun w' => w'.cell? a = some (.string ⟨#[120]⟩) ∧ w'.cell? ⟨a.block, a.off + 1, none⟩ = some (.string ⟨#[45, 108, 116]⟩) ∧ w'.cell? ⟨a.block, a.off + 2, none⟩ = some (.string ⟨#[49, 48]⟩)) (ds := [9]) #[false, false, false, false, false, false, false, false, false, false, false] (by kernel_rfl) rfl rfl ⟨k0, k1, k2⟩ (fun hHeld => ?_)
  have HB2 := Lib.hid (HB.out.drew)
  generalize World.drew _ = w3 at HB2 hHeld ⊢
  refine pure_ (i := 0) (N := some 38) (v := ?_) (a' := ?_) #[true, false, false, false, false, false, false, false, false, false, false] rfl rfl (by kernel_rfl) (fun _ _ _ h => h) (Or.inl ⟨by rfl, ?_⟩) ?_ ?_
  rotate_left
  · intro w'
    go_simp
    with_reducible rfl
  rotate_left
  · simp only [Act.put, List.setIfInBounds_toArray, List.set_cons_zero, List.set_cons_succ, i64_w, i32_w]
    rfl
  refine pure_ (i := 1) (N := some 39) (v := ?_) (a' := ?_) #[true, true, false, false, false, false, false, false, false, false, false] rfl rfl (by kernel_rfl) (fun _ _ _ h => h) (Or.inl ⟨by rfl, ?_⟩) ?_ ?_
  rotate_left
  · intro w'
    go_simp
    with_reducible rfl
  rotate_left
  · simp only [Act.put, List.setIfInBounds_toArray, List.set_cons_zero, List.set_cons_succ, i64_w, i32_w]
    rfl
  refine pure_ (i := 3) (N := some 41) (v := ?_) (a' := ?_) #[true, true, false, true, false, false, false, false, false, false, false] rfl rfl (by kernel_rfl) (fun _ _ _ h => h) (Or.inl ⟨by rfl, ?_⟩) ?_ ?_
  rotate_left
  · intro w'
    go_simp
    with_reducible rfl
  rotate_left
  · simp only [Act.put, List.setIfInBounds_toArray, List.set_cons_zero, List.set_cons_succ, i64_w, i32_w]
    rfl
  refine pure_ (i := 4) (N := some 42) (v := ?_) (a' := ?_) #[true, true, false, true, true, false, false, false, false, false, false] rfl rfl (by kernel_rfl) (fun _ _ _ h => h) (Or.inl ⟨by rfl, ?_⟩) ?_ ?_
  rotate_left
  · intro w'
    go_simp
    with_reducible rfl
  rotate_left
  · simp only [Act.put, List.setIfInBounds_toArray, List.set_cons_zero, List.set_cons_succ, i64_w, i32_w]
    rfl
  refine pure_ (i := 6) (N := some 44) (v := ?_) (a' := ?_) #[true, true, false, true, true, false, true, false, false, false, false] rfl rfl (by kernel_rfl) (fun _ _ _ h => h) (Or.inl ⟨by rfl, ?_⟩) ?_ ?_
  rotate_left
  · intro w'
    go_simp
    with_reducible rfl
  rotate_left
  · simp only [Act.put, List.setIfInBounds_toArray, List.set_cons_zero, List.set_cons_succ, i64_w, i32_w]
    rfl
  refine pure_ (i := 7) (N := some 45) (v := ?_) (a' := ?_) #[true, true, false, true, true, false, true, true, false, false, false] rfl rfl (by kernel_rfl) (fun _ _ _ h => h) (Or.inl ⟨by rfl, ?_⟩) ?_ ?_
  rotate_left
  · intro w'
    go_simp
    with_reducible rfl
  rotate_left
  · simp only [Act.put, List.setIfInBounds_toArray, List.set_cons_zero, List.set_cons_succ, i64_w, i32_w]
    rfl
  refine take_ (i := 2) (N := some 40) (v := ?_) (a' := ?_) #[true, true, true, true, true, false, true, true, false, false, false] rfl rfl (by kernel_rfl) (fun _ _ _ h => h) (Or.inl ⟨by rfl, ?_⟩) hHeld ?_ ?_
  rotate_left
  · rintro w' ⟨s0, s1, s2⟩
    go_simp
    with_reducible rfl
  rotate_left
  · simp only [Act.put, List.setIfInBounds_toArray, List.set_cons_zero, List.set_cons_succ, i64_w, i32_w]
    rfl
  refine take_ (i := 5) (N := some 43) (v := ?_) (a' := ?_) #[true, true, true, true, true, true, true, true, false, false, false] rfl rfl (by kernel_rfl) (fun _ _ _ h => h) (Or.inl ⟨by rfl, ?_⟩) hHeld ?_ ?_
  rotate_left
  · rintro w' ⟨s0, s1, s2⟩
    go_simp
    with_reducible rfl
  rotate_left
  · simp only [Act.put, List.setIfInBounds_toArray, List.set_cons_zero, List.set_cons_succ, i64_w, i32_w]
    rfl
  refine take_ (i := 8) (N := some 46) (v := ?_) (a' := ?_) #[true, true, true, true, true, true, true, true, true, false, false] rfl rfl (by kernel_rfl) (fun _ _ _ h => h) (Or.inl ⟨by rfl, ?_⟩) hHeld ?_ ?_
  rotate_left
  · rintro w' ⟨s0, s1, s2⟩
    go_simp
    with_reducible rfl
  rotate_left
  · simp only [Act.put, List.setIfInBounds_toArray, List.set_cons_zero, List.set_cons_succ, i64_w, i32_w]
    rfl
  refine last_ (i := 9) (N := some 47) #[true, true, true, true, true, true, true, true, true, true, false] rfl rfl (by kernel_rfl) (by decide) (fun K hK => ?_)
  refine goes_ Tryd.func35 (by kernel_rfl) rfl #[.string ⟨#[120]⟩, .string ⟨#[45, 108, 116]⟩, .string ⟨#[49, 48]⟩] (by rfl) rfl rfl (by first | rfl | (simp [Act.eval]; done) | (simp [Act.eval, Act.put]; done)) ?_
  refine (PTw.text_two.calls _ _ _ _ _ twox).mono ?_
  rintro e w4 ⟨rfl, hD⟩
  have HC := Lib.hid (HB2.out.trans ((drawn_below hD).mono HB2.out.size))
  have q0 := (drawn_cell hD (a := a)).trans hHeld.1
  clear hD
  refine ⟨_, rfl, ?_⟩
  refine hK.out _ _ ?_
  clear hK K
  refine pure_ (i := 10) (N := some 5) (v := ?_) (a' := ?_) #[true, true, true, true, true, true, true, true, true, true, true] rfl rfl (by kernel_rfl) (fun _ _ _ h => h) (Or.inl ⟨by rfl, ?_⟩) ?_ ?_
  rotate_left
  · intro w'
    go_simp
    with_reducible rfl
  rotate_left
  · simp only [Act.put, List.setIfInBounds_toArray, List.set_cons_zero, List.set_cons_succ, i64_w, i32_w]
    rfl
  refine done_ (by kernel_rfl) ?_
  go_wp2
  go_ret
  exact ⟨rfl, HC.out⟩
set_option maxHeartbeats 2000000 in
set_option maxRecDepth 100000 in
theorem test_no (d : ByteArray) (w : World) (a : Addr) (hb : a.block < w.heap.size) (h0 : w.cell? a = some (.string ⟨#[120]⟩)) (h1 : w.cell? ⟨a.block, a.off + 1, none⟩ = some (.string ⟨#[45, 108, 116]⟩)) (h2 : w.cell? ⟨a.block, a.off + 2, none⟩ = some (.string ⟨#[49, 48]⟩)) :
    Calls Tryd.prog 14 #[.pointer none, .string d, .slice (some a) 3 3] w fun e W' => e = .returned (.int .i64 2) ∧ Below w.heap.size w W' := by
  have H := Lib.hid (ask_no d w a hb h0 h1 h2)
  clear hb h0 h1 h2
  go_enter Tryd.func14, Tryd.ntmps14
  go_wp2_with (go_at_call 22; refine H.out.mono ?_; rintro e w' ⟨rfl, hD⟩; have HD := Lib.hid hD; clear hD)
  go_ret
  exact ⟨rfl, HD.out⟩
end Go.Proofs.YtlinllnlokikpaaDoor
/- The law's awake, whole. -/
set_option linter.unusedVariables false
set_option linter.unusedSimpArgs false
namespace Go.Proofs.YtlinllnlokikpaaDoor
open Go.RowKit Go.Proofs.YtlinllnlokikpaaDoorW.PrintWords

theorem reads_new {W : World} {g t : Nat} {l : List ByteArray} (h : W.heap[g]? = some (.cells (l.map Value.string).toArray t (0, 0))) (hl : l.length ≤ 1000000) : Kd.C Kd.string W (some ⟨g, 0, none⟩) l.length l := by
  refine ⟨rfl, by omega, fun _ => ⟨_, rfl, fun j y hy => ⟨[.string y], rfl, rfl, fun i u hu => ?_⟩⟩⟩
  have hi : i = 0 := by
    cases i with
    | zero => rfl
    | succ i => simp at hu
  subst hi
  have hu' : u = .string y := by simpa using hu.symm
  subst hu'
  rw [show (Kd.string).sz = 1 from rfl, Nat.mul_one, Nat.add_zero]
  have e : (⟨g, 0, none⟩ : Addr).add j = ⟨g, j, none⟩ := by
    unfold Addr.add
    by_cases hj : j = 0
    · subst hj; rfl
    · simp [hj]
  rw [e, blk_cell h j]
  simp [hy]
set_option maxHeartbeats 2000000 in
set_option maxRecDepth 100000 in
theorem awake_any (w : World) : Calls Tryd.prog 8 #[] w fun e W' => e = .returned (.bool true) ∧ Below w.heap.size w W' := by
  go_enter Tryd.func8, Tryd.ntmps8
  go_wp2_with (first
    | (go_at_call 11; refine (printf_any (args := [⟨#[97]⟩, ⟨#[53]⟩]) _ ⟨reads_new (l := [⟨#[97]⟩, ⟨#[53]⟩]) (bk_new w _) (by decide), by decide⟩ (by decide) (by decide) (by decide)).mono ?_; rw [printf3]; rintro e w1 ⟨rfl, hb⟩; have HB1 := Lib.hid (((Below.refl _ w).alloc (Nat.le_refl _) _).trans (hb.mono (((Below.refl _ w).alloc (Nat.le_refl _) _).size))); clear hb)
    | (go_at_call 14; refine (test_lt _ _ ⟨_, 0, none⟩ (by simp) (cell_blk (i := 0) (bk_new _ _) rfl) (cell_blk (i := 1) (bk_new _ _) rfl) (cell_blk (i := 2) (bk_new _ _) rfl)).mono ?_; rintro e w2 ⟨rfl, hb⟩; have HB2 := Lib.hid ((HB1.out.alloc HB1.out.size _).trans (hb.mono ((HB1.out.alloc HB1.out.size _).size))); clear hb)
    | (go_at_call 14; refine (test_no _ _ ⟨_, 0, none⟩ (by simp) (cell_blk (i := 0) (bk_new _ _) rfl) (cell_blk (i := 1) (bk_new _ _) rfl) (cell_blk (i := 2) (bk_new _ _) rfl)).mono ?_; rintro e w3 ⟨rfl, hb⟩; have HB3 := Lib.hid ((HB2.out.alloc HB2.out.size _).trans (hb.mono ((HB2.out.alloc HB2.out.size _).size))); clear hb)
    | (go_at_call 9; refine (PCon.text_Echo.calls _ 2 [⟨#[97]⟩, ⟨#[98]⟩] _ _ (reads_new (l := [⟨#[97]⟩, ⟨#[98]⟩]) (bk_new _ _) (by decide)) (by decide) echo3).mono ?_; rintro e w4 ⟨rfl, hb⟩; have HB4 := Lib.hid ((HB3.out.alloc HB3.out.size _).trans (hb.mono ((HB3.out.alloc HB3.out.size _).size))); clear hb))
  go_ret
  exact ⟨rfl, HB4.out⟩
end Go.Proofs.YtlinllnlokikpaaDoor
/- awake, Printf: given contracts. -/
namespace Go.Proofs.YtlinllnlokikpaaDoor
open Go.RowKit Go.Proofs.YtlinllnlokikpaaDoorW.PrintWords
def rehearsallaw15_awake.f : Option Bool := some true
theorem rehearsallaw15_awake.calls (r : Bool) (w : World) (h : rehearsallaw15_awake.f = some r) :
    Calls Tryd.prog 8 #[] w fun e w' => e = .returned (.bool r) ∧ Below w.heap.size w w' := by
  cases h
  exact awake_any w
def text_Printf.f (a0 : ByteArray) (l1 : List ByteArray) : Option (ByteArray × Bool) := if a0.size ≤ 10000 ∧ l1.length ≤ 1000000 ∧ ∀ s ∈ l1, s.size ≤ 1000000 then some (printfM a0 l1) else none
theorem text_Printf.calls (a0 : ByteArray) (A1 : Option Addr) (c1 : Nat) (l1 : List ByteArray) (r1 : ByteArray) (r2 : Bool) (w : World) (hr1 : Kd.C Kd.string w A1 l1.length l1) (hc1 : l1.length ≤ c1) (h : text_Printf.f a0 l1 = some (r1, r2)) :
    Calls Tryd.prog 11 #[.string a0, .slice A1 l1.length c1] w fun e w' => e = .returned (.tuple #[.string r1, .bool r2]) ∧ Below w.heap.size w w' := by
  unfold text_Printf.f at h
  split at h
  · rename_i hg
    have h := Option.some.inj h
    have := printf_any a0 ⟨hr1, hc1⟩ hg.1 hg.2.2 hg.2.1
    rw [h] at this
    exact this
  · cases h
end Go.Proofs.YtlinllnlokikpaaDoor
