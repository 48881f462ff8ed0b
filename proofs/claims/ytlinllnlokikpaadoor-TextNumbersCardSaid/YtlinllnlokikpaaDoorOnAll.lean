import Derived.Test.YtlinllnlokikpaaDoorCvAll
/- text.printer's once: a format written once. -/
set_option linter.unusedVariables false
set_option linter.unusedSimpArgs false
namespace Go.Proofs.YtlinllnlokikpaaDoor
open Go.RowKit Go.Proofs.YtlinllnlokikpaaDoorW.PrintWords Go.Proofs.YtlinllnlokikpaaDoorW.PrintLast Go.Proofs.YtlinllnlokikpaaDoorW.PrintMore

theorem u8_ne {c d : UInt8} (h : c ≠ d) : ¬ (c.toNat : Int) = (d.toNat : Int) := fun e => h (UInt8.toNat_inj.1 (by omega))
theorem argAt_len {args : List ByteArray} (h : ∀ s ∈ args, s.size ≤ 1000000) (u : Nat) : (argAt args u).size ≤ 1000000 := by
  unfold argAt
  cases hd : args.drop u with
  | nil => show (0 : Nat) ≤ _; omega
  | cons x l => exact h x (List.mem_of_mem_drop (by rw [hd]; exact List.mem_cons_self))
theorem get_at (f : ByteArray) (i : Nat) (h : i < f.size) : f.data.toList[i]? = some f[i] := by
  rw [List.getElem?_eq_getElem (by rw [Array.length_toList]; exact h)]; rfl
theorem step_plain (f : ByteArray) (args : List ByteArray) (i : Nat) (st : PSt) (h : i < f.size) (h1 : f[i] ≠ 92) (h2 : f[i] ≠ 37) : stepM f.data.toList args i st = (i + 1, { st with out := st.out ++ [f[i]] }) := by
  unfold stepM; rw [get_at f i h]; simp only; rw [if_neg h1]; simp only; rw [if_neg h2]
theorem step_pct0 (f : ByteArray) (args : List ByteArray) (i : Nat) (st : PSt) (h : i < f.size) (h2 : f[i] = 37) (hc : convM (f.data.toList.drop (i + 1)) = none) : stepM f.data.toList args i st = (i + 1, { st with out := st.out ++ [37] }) := by
  unfold stepM; rw [get_at f i h]; simp only; rw [h2, if_neg (by decide)]; simp only; simp only [if_true, hc]
theorem step_pct (f : ByteArray) (args : List ByteArray) (i : Nat) (st : PSt) (h : i < f.size) (h2 : f[i] = 37) {x} (hc : convM (f.data.toList.drop (i + 1)) = some x) : stepM f.data.toList args i st = (i + 1 + x.2.2.2, convertM args st x) := by
  unfold stepM; rw [get_at f i h]; simp only; rw [h2, if_neg (by decide)]; simp only; simp only [if_true, hc]
theorem step_esc (f : ByteArray) (args : List ByteArray) (i : Nat) (st : PSt) (h : i < f.size) (h2 : f[i] = 92) (h3 : i + 1 < f.size) {e} (he : escM f[i + 1] = some e) : stepM f.data.toList args i st = (i + 2, { st with out := st.out ++ [e] }) := by
  unfold stepM; rw [get_at f i h]; simp only; rw [if_pos h2, get_at f (i + 1) h3, Option.bind_some, he]
theorem step_esc0 (f : ByteArray) (args : List ByteArray) (i : Nat) (st : PSt) (h : i < f.size) (h2 : f[i] = 92) (h3 : ∀ h3 : i + 1 < f.size, escM f[i + 1] = none) : stepM f.data.toList args i st = (i + 1, { st with out := st.out ++ [92] }) := by
  unfold stepM; rw [get_at f i h]; simp only
  by_cases h4 : i + 1 < f.size
  · rw [if_pos h2, get_at f (i + 1) h4, Option.bind_some, h3 h4, h2]; simp
  · have : f.data.toList[i + 1]? = none := List.getElem?_eq_none (by rw [Array.length_toList]; show f.size ≤ _; omega)
    rw [if_pos h2, this, h2]; simp
def eIdx (c : UInt8) : Int := Lib.indexByte [110, 116, 92, 34] c
theorem esc_none (c : UInt8) : eIdx c < 0 ↔ escM c = none := by
  have h : ∀ n : Fin 256, decide (eIdx (UInt8.ofNat n.val) < 0) = decide (escM (UInt8.ofNat n.val) = none) := by decide +kernel
  have h2 := h ⟨c.toNat, c.toNat_lt⟩
  rw [show UInt8.ofNat c.toNat = c from UInt8.ofNat_toNat] at h2
  simpa using h2
theorem esc_cases {c : UInt8} {e : UInt8} (h : escM c = some e) : (c = 110 ∧ e = 10 ∧ eIdx c = 0) ∨ (c = 116 ∧ e = 9 ∧ eIdx c = 1) ∨ (c = 92 ∧ e = 92 ∧ eIdx c = 2) ∨ (c = 34 ∧ e = 34 ∧ eIdx c = 3) := by
  unfold escM at h
  split at h
  · rename_i hc; subst hc; cases h; exact .inl ⟨rfl, rfl, by decide⟩
  · split at h
    · rename_i hc; subst hc; cases h; exact .inr (.inl ⟨rfl, rfl, by decide⟩)
    · split at h
      · rename_i hc; subst hc; cases h; exact .inr (.inr (.inl ⟨rfl, rfl, by decide⟩))
      · split at h
        · rename_i hc; subst hc; cases h; exact .inr (.inr (.inr ⟨rfl, rfl, by decide⟩))
        · cases h
theorem esc_index (c : UInt8) (w : World) : Calls Tryd.prog 25 #[.string ⟨#[110, 116, 92, 34]⟩, .int .u8 (c.toNat : Int)] w fun e w' => e = .returned (.int .i64 (eIdx c)) ∧ w' = w := by
  refine (Tryd.strings_IndexByte ⟨#[110, 116, 92, 34]⟩ (c.toNat : Int) w).mono ?_
  rintro e w' ⟨rfl, rfl⟩
  refine ⟨?_, rfl⟩
  have : ((c.toNat : Int)).toNat.toUInt8 = c := by rw [Int.toNat_natCast]; exact UInt8.ofNat_toNat
  rw [this]; rfl
set_option maxHeartbeats 4000000 in
set_option maxRecDepth 100000 in
theorem once_any {w W : World} {g : Nat} {args : List ByteArray} {st : PSt} (f : ByteArray) (h : PI w W g args st) (hf : f.size ≤ 10000) (hargs : ∀ s ∈ args, s.size ≤ 1000000) (hl : st.out.length ≤ 20000) :
    Calls Tryd.prog 18 #[.pointer (some ⟨g, 0, none⟩), .string f] W fun e W' => e = .returned (.tuple #[]) ∧ PI w W' g args (onceM f.data.toList args st) := by
  have hgoal : Hid (onceM f.data.toList args st = fromM f.data.toList args 0 st) := Lib.hid (onceM_from _ _ _)
  obtain ⟨fin, hfin⟩ : ∃ fin, fin = onceM f.data.toList args st := ⟨_, rfl⟩
  rw [← hfin]
  have HF0 : Hid (fromM f.data.toList args 0 st = fin) := Lib.hid (by rw [hfin]; exact hgoal.out.symm)
  have H0 := Lib.hid h
  have HL0 := Lib.hid hl
  have HA := Lib.hid (argAt_len hargs)
  clear h hl hargs hfin hgoal
  go_enter Tryd.func18, Tryd.ntmps18
  go_wp2
  go_loopw [4] (fun v4 wr => ∃ (i : Nat) (s' : PSt), v4 = .int .i64 i ∧ i ≤ f.size ∧ Hid (PI w wr g args s') ∧ Hid (fromM f.data.toList args i s' = fin) ∧ Hid (s'.out.length ≤ 20000 + i * 2000000)) (fun v4 wr => f.size - (intOf v4).toNat)
  case atStart => exact ⟨0, st, rfl, by omega, H0, HF0, Lib.hid (by have := HL0.out; omega)⟩
  case round =>
    obtain ⟨i, s', rfl, hi, HI, HF, HLi⟩ := hrel
    have HLN : Hid (s'.out.length ≤ 100000000000) := Lib.hid (by have := HLi.out; omega)
    by_cases h1 : i < f.size
    · have hfl : f.data.toList.length = f.size := by rw [Array.length_toList]; rfl
      have HF2 := Lib.hid (fromM_step f.data.toList args i s' (by omega))
      have e1 : IntKind.i64.wrap ((i : Int) + 1) = (i : Int) + 1 := IntWalk.i64_in _ (by omega)
      by_cases h92 : f[i] = 92
      · have t92 : (f[i].toNat : Int) = 92 := by rw [h92]; rfl
        by_cases h2 : i + 1 < f.size
        · have e2 : IntKind.i64.wrap ((i : Int) + 1 + 1) = (i : Int) + 1 + 1 := IntWalk.i64_in _ (by omega)
          cases hE : escM f[i + 1] with
          | none =>
            have hk := (esc_none f[i + 1]).2 hE
            have HS := Lib.hid (step_esc0 f args i s' h1 h92 (fun _ => hE))
            clear h92 hE
            go_wp2_with (go_at_call 25; refine (esc_index f[i + 1] _).mono ?_; rintro e w' ⟨rfl, rfl⟩)
            refine start_ (n := 7) (S := fun w' => True) (ds := [6]) #[false, false, false, false, false, false, false] (by kernel_rfl) rfl rfl trivial (fun hHeld => ?_)
            have HD := Lib.hid (HI.out.frm ((Frm.refl _ _).drew))
            generalize World.drew _ = wd5 at HD ⊢
            refine pure_ (i := 0) (N := some 60) (v := ?_) (a' := ?_) #[true, false, false, false, false, false, false] rfl rfl (by kernel_rfl) (fun _ _ _ h => h) (Or.inl ⟨by rfl, ?_⟩) ?_ ?_
            rotate_left
            · intro w'
              go_simp
              with_reducible rfl
            rotate_left
            · simp only [Act.put, List.setIfInBounds_toArray, List.set_cons_zero, List.set_cons_succ, i64_w, i32_w]
              rfl
            refine pure_ (i := 1) (N := some 61) (v := ?_) (a' := ?_) #[true, true, false, false, false, false, false] rfl rfl (by kernel_rfl) (fun _ _ _ h => h) (Or.inl ⟨by rfl, ?_⟩) ?_ ?_
            rotate_left
            · intro w'
              go_simp
              with_reducible rfl
            rotate_left
            · simp only [Act.put, List.setIfInBounds_toArray, List.set_cons_zero, List.set_cons_succ, i64_w, i32_w]
              rfl
            refine pure_ (i := 2) (N := some 62) (v := ?_) (a' := ?_) #[true, true, true, false, false, false, false] rfl rfl (by kernel_rfl) (fun _ _ _ h => h) (Or.inl ⟨by rfl, ?_⟩) ?_ ?_
            rotate_left
            · intro w'
              go_simp
              with_reducible rfl
            rotate_left
            · simp only [Act.put, List.setIfInBounds_toArray, List.set_cons_zero, List.set_cons_succ, i64_w, i32_w]
              rfl
            refine pure_ (i := 3) (N := some 63) (v := ?_) (a' := ?_) #[true, true, true, true, false, false, false] rfl rfl (by kernel_rfl) (fun _ _ _ h => h) (Or.inl ⟨by rfl, ?_⟩) ?_ ?_
            rotate_left
            · intro w'
              go_simp
              with_reducible rfl
            rotate_left
            · simp only [Act.put, List.setIfInBounds_toArray, List.set_cons_zero, List.set_cons_succ, i64_w, i32_w]
              rfl
            refine pure_ (i := 4) (N := some 64) (v := ?_) (a' := ?_) #[true, true, true, true, true, false, false] rfl rfl (by kernel_rfl) (fun _ _ _ h => h) (Or.inl ⟨by rfl, ?_⟩) ?_ ?_
            rotate_left
            · intro w'
              go_simp
              with_reducible rfl
            rotate_left
            · simp only [Act.put, List.setIfInBounds_toArray, List.set_cons_zero, List.set_cons_succ, i64_w, i32_w]
              rfl
            refine pure_ (i := 5) (N := some 65) (v := ?_) (a' := ?_) #[true, true, true, true, true, true, false] rfl rfl (by kernel_rfl) (fun _ _ _ h => h) (Or.inl ⟨by rfl, ?_⟩) ?_ ?_
            rotate_left
            · intro w'
              go_simp
              with_reducible rfl
            rotate_left
            · simp only [Act.put, List.setIfInBounds_toArray, List.set_cons_zero, List.set_cons_succ, i64_w, i32_w]
              rfl
            refine last_ (i := 6) (N := some 66) #[true, true, true, true, true, true, true] rfl rfl (by kernel_rfl) (by decide) (fun K hK => ?_)
            refine goes_ Tryd.func26 (by kernel_rfl) rfl #[.pointer (some ⟨g, 0, none⟩), .int .u8 92] (by rfl) rfl rfl (by first | rfl | (simp [Act.eval]; done) | (simp [Act.eval, Act.put]; done) | (simp [Act.eval]; rfl)) ?_
            refine (HD.out.byte 92 HLN.out).mono ?_
            rintro e w7 ⟨rfl, hp⟩
            have HP := Lib.hid hp
            clear hp
            refine ⟨_, rfl, ?_⟩
            refine hK.out _ _ ?_
            clear hK K
            refine done_ (by kernel_rfl) ?_
            go_wp2
            go_roundw
            case rel => exact ⟨i + 1, _, by go_num, by omega, Lib.hid HP.out, Lib.hid (by rw [← HF.out, HF2.out, HS.out]), Lib.hid (by have := HLi.out; simp only [List.length_append, List.length_singleton]; omega)⟩
            case measure => simp [intOf]; omega
          | some e =>
            have HS := Lib.hid (step_esc f args i s' h1 h92 h2 hE)
            rcases esc_cases hE with ⟨hc, rfl, hk⟩ | ⟨hc, rfl, hk⟩ | ⟨hc, rfl, hk⟩ | ⟨hc, rfl, hk⟩
            · clear h92 hE hc
              go_wp2_with (go_at_call 25; refine (esc_index f[i + 1] _).mono ?_; rintro e w' ⟨rfl, rfl⟩; rw [hk])
              refine start_ (n := 6) (S := fun w' => True) (ds := [5]) #[false, false, false, false, false, false] (by kernel_rfl) rfl rfl trivial (fun hHeld => ?_)
              have HD := Lib.hid (HI.out.frm ((Frm.refl _ _).drew))
              generalize World.drew _ = wd5 at HD ⊢
              refine pure_ (i := 0) (N := some 32) (v := ?_) (a' := ?_) #[true, false, false, false, false, false] rfl rfl (by kernel_rfl) (fun _ _ _ h => h) (Or.inl ⟨by rfl, ?_⟩) ?_ ?_
              rotate_left
              · intro w'
                go_simp
                with_reducible rfl
              rotate_left
              · simp only [Act.put, List.setIfInBounds_toArray, List.set_cons_zero, List.set_cons_succ, i64_w, i32_w]
                rfl
              refine pure_ (i := 1) (N := some 33) (v := ?_) (a' := ?_) #[true, true, false, false, false, false] rfl rfl (by kernel_rfl) (fun _ _ _ h => h) (Or.inl ⟨by rfl, ?_⟩) ?_ ?_
              rotate_left
              · intro w'
                go_simp
                with_reducible rfl
              rotate_left
              · simp only [Act.put, List.setIfInBounds_toArray, List.set_cons_zero, List.set_cons_succ, i64_w, i32_w]
                rfl
              refine pure_ (i := 2) (N := some 34) (v := ?_) (a' := ?_) #[true, true, true, false, false, false] rfl rfl (by kernel_rfl) (fun _ _ _ h => h) (Or.inl ⟨by rfl, ?_⟩) ?_ ?_
              rotate_left
              · intro w'
                go_simp
                with_reducible rfl
              rotate_left
              · simp only [Act.put, List.setIfInBounds_toArray, List.set_cons_zero, List.set_cons_succ, i64_w, i32_w]
                rfl
              refine pure_ (i := 3) (N := some 35) (v := ?_) (a' := ?_) #[true, true, true, true, false, false] rfl rfl (by kernel_rfl) (fun _ _ _ h => h) (Or.inl ⟨by rfl, ?_⟩) ?_ ?_
              rotate_left
              · intro w'
                go_simp
                with_reducible rfl
              rotate_left
              · simp only [Act.put, List.setIfInBounds_toArray, List.set_cons_zero, List.set_cons_succ, i64_w, i32_w]
                rfl
              refine pure_ (i := 4) (N := some 36) (v := ?_) (a' := ?_) #[true, true, true, true, true, false] rfl rfl (by kernel_rfl) (fun _ _ _ h => h) (Or.inl ⟨by rfl, ?_⟩) ?_ ?_
              rotate_left
              · intro w'
                go_simp
                with_reducible rfl
              rotate_left
              · simp only [Act.put, List.setIfInBounds_toArray, List.set_cons_zero, List.set_cons_succ, i64_w, i32_w]
                rfl
              refine last_ (i := 5) (N := some 37) #[true, true, true, true, true, true] rfl rfl (by kernel_rfl) (by decide) (fun K hK => ?_)
              refine goes_ Tryd.func26 (by kernel_rfl) rfl #[.pointer (some ⟨g, 0, none⟩), .int .u8 10] (by rfl) rfl rfl (by first | rfl | (simp [Act.eval]; done) | (simp [Act.eval, Act.put]; done) | (simp [Act.eval]; rfl)) ?_
              refine (HD.out.byte 10 HLN.out).mono ?_
              rintro e w7 ⟨rfl, hp⟩
              have HP := Lib.hid hp
              clear hp
              refine ⟨_, rfl, ?_⟩
              refine hK.out _ _ ?_
              clear hK K
              refine done_ (by kernel_rfl) ?_
              go_wp2
              go_roundw
              case rel => exact ⟨i + 2, _, by go_num, by omega, Lib.hid HP.out, Lib.hid (by rw [← HF.out, HF2.out, HS.out]), Lib.hid (by have := HLi.out; simp only [List.length_append, List.length_singleton]; omega)⟩
              case measure => simp [intOf]; omega
            · clear h92 hE hc
              go_wp2_with (go_at_call 25; refine (esc_index f[i + 1] _).mono ?_; rintro e w' ⟨rfl, rfl⟩; rw [hk])
              refine start_ (n := 6) (S := fun w' => True) (ds := [5]) #[false, false, false, false, false, false] (by kernel_rfl) rfl rfl trivial (fun hHeld => ?_)
              have HD := Lib.hid (HI.out.frm ((Frm.refl _ _).drew))
              generalize World.drew _ = wd5 at HD ⊢
              refine pure_ (i := 0) (N := some 32) (v := ?_) (a' := ?_) #[true, false, false, false, false, false] rfl rfl (by kernel_rfl) (fun _ _ _ h => h) (Or.inl ⟨by rfl, ?_⟩) ?_ ?_
              rotate_left
              · intro w'
                go_simp
                with_reducible rfl
              rotate_left
              · simp only [Act.put, List.setIfInBounds_toArray, List.set_cons_zero, List.set_cons_succ, i64_w, i32_w]
                rfl
              refine pure_ (i := 1) (N := some 33) (v := ?_) (a' := ?_) #[true, true, false, false, false, false] rfl rfl (by kernel_rfl) (fun _ _ _ h => h) (Or.inl ⟨by rfl, ?_⟩) ?_ ?_
              rotate_left
              · intro w'
                go_simp
                with_reducible rfl
              rotate_left
              · simp only [Act.put, List.setIfInBounds_toArray, List.set_cons_zero, List.set_cons_succ, i64_w, i32_w]
                rfl
              refine pure_ (i := 2) (N := some 34) (v := ?_) (a' := ?_) #[true, true, true, false, false, false] rfl rfl (by kernel_rfl) (fun _ _ _ h => h) (Or.inl ⟨by rfl, ?_⟩) ?_ ?_
              rotate_left
              · intro w'
                go_simp
                with_reducible rfl
              rotate_left
              · simp only [Act.put, List.setIfInBounds_toArray, List.set_cons_zero, List.set_cons_succ, i64_w, i32_w]
                rfl
              refine pure_ (i := 3) (N := some 35) (v := ?_) (a' := ?_) #[true, true, true, true, false, false] rfl rfl (by kernel_rfl) (fun _ _ _ h => h) (Or.inl ⟨by rfl, ?_⟩) ?_ ?_
              rotate_left
              · intro w'
                go_simp
                with_reducible rfl
              rotate_left
              · simp only [Act.put, List.setIfInBounds_toArray, List.set_cons_zero, List.set_cons_succ, i64_w, i32_w]
                rfl
              refine pure_ (i := 4) (N := some 36) (v := ?_) (a' := ?_) #[true, true, true, true, true, false] rfl rfl (by kernel_rfl) (fun _ _ _ h => h) (Or.inl ⟨by rfl, ?_⟩) ?_ ?_
              rotate_left
              · intro w'
                go_simp
                with_reducible rfl
              rotate_left
              · simp only [Act.put, List.setIfInBounds_toArray, List.set_cons_zero, List.set_cons_succ, i64_w, i32_w]
                rfl
              refine last_ (i := 5) (N := some 37) #[true, true, true, true, true, true] rfl rfl (by kernel_rfl) (by decide) (fun K hK => ?_)
              refine goes_ Tryd.func26 (by kernel_rfl) rfl #[.pointer (some ⟨g, 0, none⟩), .int .u8 9] (by rfl) rfl rfl (by first | rfl | (simp [Act.eval]; done) | (simp [Act.eval, Act.put]; done) | (simp [Act.eval]; rfl)) ?_
              refine (HD.out.byte 9 HLN.out).mono ?_
              rintro e w7 ⟨rfl, hp⟩
              have HP := Lib.hid hp
              clear hp
              refine ⟨_, rfl, ?_⟩
              refine hK.out _ _ ?_
              clear hK K
              refine done_ (by kernel_rfl) ?_
              go_wp2
              go_roundw
              case rel => exact ⟨i + 2, _, by go_num, by omega, Lib.hid HP.out, Lib.hid (by rw [← HF.out, HF2.out, HS.out]), Lib.hid (by have := HLi.out; simp only [List.length_append, List.length_singleton]; omega)⟩
              case measure => simp [intOf]; omega
            · clear h92 hE hc
              go_wp2_with (go_at_call 25; refine (esc_index f[i + 1] _).mono ?_; rintro e w' ⟨rfl, rfl⟩; rw [hk])
              refine start_ (n := 6) (S := fun w' => True) (ds := [5]) #[false, false, false, false, false, false] (by kernel_rfl) rfl rfl trivial (fun hHeld => ?_)
              have HD := Lib.hid (HI.out.frm ((Frm.refl _ _).drew))
              generalize World.drew _ = wd5 at HD ⊢
              refine pure_ (i := 0) (N := some 32) (v := ?_) (a' := ?_) #[true, false, false, false, false, false] rfl rfl (by kernel_rfl) (fun _ _ _ h => h) (Or.inl ⟨by rfl, ?_⟩) ?_ ?_
              rotate_left
              · intro w'
                go_simp
                with_reducible rfl
              rotate_left
              · simp only [Act.put, List.setIfInBounds_toArray, List.set_cons_zero, List.set_cons_succ, i64_w, i32_w]
                rfl
              refine pure_ (i := 1) (N := some 33) (v := ?_) (a' := ?_) #[true, true, false, false, false, false] rfl rfl (by kernel_rfl) (fun _ _ _ h => h) (Or.inl ⟨by rfl, ?_⟩) ?_ ?_
              rotate_left
              · intro w'
                go_simp
                with_reducible rfl
              rotate_left
              · simp only [Act.put, List.setIfInBounds_toArray, List.set_cons_zero, List.set_cons_succ, i64_w, i32_w]
                rfl
              refine pure_ (i := 2) (N := some 34) (v := ?_) (a' := ?_) #[true, true, true, false, false, false] rfl rfl (by kernel_rfl) (fun _ _ _ h => h) (Or.inl ⟨by rfl, ?_⟩) ?_ ?_
              rotate_left
              · intro w'
                go_simp
                with_reducible rfl
              rotate_left
              · simp only [Act.put, List.setIfInBounds_toArray, List.set_cons_zero, List.set_cons_succ, i64_w, i32_w]
                rfl
              refine pure_ (i := 3) (N := some 35) (v := ?_) (a' := ?_) #[true, true, true, true, false, false] rfl rfl (by kernel_rfl) (fun _ _ _ h => h) (Or.inl ⟨by rfl, ?_⟩) ?_ ?_
              rotate_left
              · intro w'
                go_simp
                with_reducible rfl
              rotate_left
              · simp only [Act.put, List.setIfInBounds_toArray, List.set_cons_zero, List.set_cons_succ, i64_w, i32_w]
                rfl
              refine pure_ (i := 4) (N := some 36) (v := ?_) (a' := ?_) #[true, true, true, true, true, false] rfl rfl (by kernel_rfl) (fun _ _ _ h => h) (Or.inl ⟨by rfl, ?_⟩) ?_ ?_
              rotate_left
              · intro w'
                go_simp
                with_reducible rfl
              rotate_left
              · simp only [Act.put, List.setIfInBounds_toArray, List.set_cons_zero, List.set_cons_succ, i64_w, i32_w]
                rfl
              refine last_ (i := 5) (N := some 37) #[true, true, true, true, true, true] rfl rfl (by kernel_rfl) (by decide) (fun K hK => ?_)
              refine goes_ Tryd.func26 (by kernel_rfl) rfl #[.pointer (some ⟨g, 0, none⟩), .int .u8 92] (by rfl) rfl rfl (by first | rfl | (simp [Act.eval]; done) | (simp [Act.eval, Act.put]; done) | (simp [Act.eval]; rfl)) ?_
              refine (HD.out.byte 92 HLN.out).mono ?_
              rintro e w7 ⟨rfl, hp⟩
              have HP := Lib.hid hp
              clear hp
              refine ⟨_, rfl, ?_⟩
              refine hK.out _ _ ?_
              clear hK K
              refine done_ (by kernel_rfl) ?_
              go_wp2
              go_roundw
              case rel => exact ⟨i + 2, _, by go_num, by omega, Lib.hid HP.out, Lib.hid (by rw [← HF.out, HF2.out, HS.out]), Lib.hid (by have := HLi.out; simp only [List.length_append, List.length_singleton]; omega)⟩
              case measure => simp [intOf]; omega
            · clear h92 hE hc
              go_wp2_with (go_at_call 25; refine (esc_index f[i + 1] _).mono ?_; rintro e w' ⟨rfl, rfl⟩; rw [hk])
              refine start_ (n := 6) (S := fun w' => True) (ds := [5]) #[false, false, false, false, false, false] (by kernel_rfl) rfl rfl trivial (fun hHeld => ?_)
              have HD := Lib.hid (HI.out.frm ((Frm.refl _ _).drew))
              generalize World.drew _ = wd5 at HD ⊢
              refine pure_ (i := 0) (N := some 32) (v := ?_) (a' := ?_) #[true, false, false, false, false, false] rfl rfl (by kernel_rfl) (fun _ _ _ h => h) (Or.inl ⟨by rfl, ?_⟩) ?_ ?_
              rotate_left
              · intro w'
                go_simp
                with_reducible rfl
              rotate_left
              · simp only [Act.put, List.setIfInBounds_toArray, List.set_cons_zero, List.set_cons_succ, i64_w, i32_w]
                rfl
              refine pure_ (i := 1) (N := some 33) (v := ?_) (a' := ?_) #[true, true, false, false, false, false] rfl rfl (by kernel_rfl) (fun _ _ _ h => h) (Or.inl ⟨by rfl, ?_⟩) ?_ ?_
              rotate_left
              · intro w'
                go_simp
                with_reducible rfl
              rotate_left
              · simp only [Act.put, List.setIfInBounds_toArray, List.set_cons_zero, List.set_cons_succ, i64_w, i32_w]
                rfl
              refine pure_ (i := 2) (N := some 34) (v := ?_) (a' := ?_) #[true, true, true, false, false, false] rfl rfl (by kernel_rfl) (fun _ _ _ h => h) (Or.inl ⟨by rfl, ?_⟩) ?_ ?_
              rotate_left
              · intro w'
                go_simp
                with_reducible rfl
              rotate_left
              · simp only [Act.put, List.setIfInBounds_toArray, List.set_cons_zero, List.set_cons_succ, i64_w, i32_w]
                rfl
              refine pure_ (i := 3) (N := some 35) (v := ?_) (a' := ?_) #[true, true, true, true, false, false] rfl rfl (by kernel_rfl) (fun _ _ _ h => h) (Or.inl ⟨by rfl, ?_⟩) ?_ ?_
              rotate_left
              · intro w'
                go_simp
                with_reducible rfl
              rotate_left
              · simp only [Act.put, List.setIfInBounds_toArray, List.set_cons_zero, List.set_cons_succ, i64_w, i32_w]
                rfl
              refine pure_ (i := 4) (N := some 36) (v := ?_) (a' := ?_) #[true, true, true, true, true, false] rfl rfl (by kernel_rfl) (fun _ _ _ h => h) (Or.inl ⟨by rfl, ?_⟩) ?_ ?_
              rotate_left
              · intro w'
                go_simp
                with_reducible rfl
              rotate_left
              · simp only [Act.put, List.setIfInBounds_toArray, List.set_cons_zero, List.set_cons_succ, i64_w, i32_w]
                rfl
              refine last_ (i := 5) (N := some 37) #[true, true, true, true, true, true] rfl rfl (by kernel_rfl) (by decide) (fun K hK => ?_)
              refine goes_ Tryd.func26 (by kernel_rfl) rfl #[.pointer (some ⟨g, 0, none⟩), .int .u8 34] (by rfl) rfl rfl (by first | rfl | (simp [Act.eval]; done) | (simp [Act.eval, Act.put]; done) | (simp [Act.eval]; rfl)) ?_
              refine (HD.out.byte 34 HLN.out).mono ?_
              rintro e w7 ⟨rfl, hp⟩
              have HP := Lib.hid hp
              clear hp
              refine ⟨_, rfl, ?_⟩
              refine hK.out _ _ ?_
              clear hK K
              refine done_ (by kernel_rfl) ?_
              go_wp2
              go_roundw
              case rel => exact ⟨i + 2, _, by go_num, by omega, Lib.hid HP.out, Lib.hid (by rw [← HF.out, HF2.out, HS.out]), Lib.hid (by have := HLi.out; simp only [List.length_append, List.length_singleton]; omega)⟩
              case measure => simp [intOf]; omega
        · have HS := Lib.hid (step_esc0 f args i s' h1 h92 (fun h3 => absurd h3 h2))
          clear h92
          go_wp2
          refine start_ (n := 7) (S := fun w' => True) (ds := [6]) #[false, false, false, false, false, false, false] (by kernel_rfl) rfl rfl trivial (fun hHeld => ?_)
          have HD := Lib.hid (HI.out.frm ((Frm.refl _ _).drew))
          generalize World.drew _ = wd5 at HD ⊢
          refine pure_ (i := 0) (N := some 60) (v := ?_) (a' := ?_) #[true, false, false, false, false, false, false] rfl rfl (by kernel_rfl) (fun _ _ _ h => h) (Or.inl ⟨by rfl, ?_⟩) ?_ ?_
          rotate_left
          · intro w'
            go_simp
            with_reducible rfl
          rotate_left
          · simp only [Act.put, List.setIfInBounds_toArray, List.set_cons_zero, List.set_cons_succ, i64_w, i32_w]
            rfl
          refine pure_ (i := 1) (N := some 61) (v := ?_) (a' := ?_) #[true, true, false, false, false, false, false] rfl rfl (by kernel_rfl) (fun _ _ _ h => h) (Or.inl ⟨by rfl, ?_⟩) ?_ ?_
          rotate_left
          · intro w'
            go_simp
            with_reducible rfl
          rotate_left
          · simp only [Act.put, List.setIfInBounds_toArray, List.set_cons_zero, List.set_cons_succ, i64_w, i32_w]
            rfl
          refine pure_ (i := 2) (N := some 62) (v := ?_) (a' := ?_) #[true, true, true, false, false, false, false] rfl rfl (by kernel_rfl) (fun _ _ _ h => h) (Or.inl ⟨by rfl, ?_⟩) ?_ ?_
          rotate_left
          · intro w'
            go_simp
            with_reducible rfl
          rotate_left
          · simp only [Act.put, List.setIfInBounds_toArray, List.set_cons_zero, List.set_cons_succ, i64_w, i32_w]
            rfl
          refine pure_ (i := 3) (N := some 63) (v := ?_) (a' := ?_) #[true, true, true, true, false, false, false] rfl rfl (by kernel_rfl) (fun _ _ _ h => h) (Or.inl ⟨by rfl, ?_⟩) ?_ ?_
          rotate_left
          · intro w'
            go_simp
            with_reducible rfl
          rotate_left
          · simp only [Act.put, List.setIfInBounds_toArray, List.set_cons_zero, List.set_cons_succ, i64_w, i32_w]
            rfl
          refine pure_ (i := 4) (N := some 64) (v := ?_) (a' := ?_) #[true, true, true, true, true, false, false] rfl rfl (by kernel_rfl) (fun _ _ _ h => h) (Or.inl ⟨by rfl, ?_⟩) ?_ ?_
          rotate_left
          · intro w'
            go_simp
            with_reducible rfl
          rotate_left
          · simp only [Act.put, List.setIfInBounds_toArray, List.set_cons_zero, List.set_cons_succ, i64_w, i32_w]
            rfl
          refine pure_ (i := 5) (N := some 65) (v := ?_) (a' := ?_) #[true, true, true, true, true, true, false] rfl rfl (by kernel_rfl) (fun _ _ _ h => h) (Or.inl ⟨by rfl, ?_⟩) ?_ ?_
          rotate_left
          · intro w'
            go_simp
            with_reducible rfl
          rotate_left
          · simp only [Act.put, List.setIfInBounds_toArray, List.set_cons_zero, List.set_cons_succ, i64_w, i32_w]
            rfl
          refine last_ (i := 6) (N := some 66) #[true, true, true, true, true, true, true] rfl rfl (by kernel_rfl) (by decide) (fun K hK => ?_)
          refine goes_ Tryd.func26 (by kernel_rfl) rfl #[.pointer (some ⟨g, 0, none⟩), .int .u8 92] (by rfl) rfl rfl (by first | rfl | (simp [Act.eval]; done) | (simp [Act.eval, Act.put]; done) | (simp [Act.eval]; rfl)) ?_
          refine (HD.out.byte 92 HLN.out).mono ?_
          rintro e w7 ⟨rfl, hp⟩
          have HP := Lib.hid hp
          clear hp
          refine ⟨_, rfl, ?_⟩
          refine hK.out _ _ ?_
          clear hK K
          refine done_ (by kernel_rfl) ?_
          go_wp2
          go_roundw
          case rel => exact ⟨i + 1, _, by go_num, by omega, Lib.hid HP.out, Lib.hid (by rw [← HF.out, HF2.out, HS.out]), Lib.hid (by have := HLi.out; simp only [List.length_append, List.length_singleton]; omega)⟩
          case measure => simp [intOf]; omega
      · by_cases h37 : f[i] = 37
        · have t37 : (f[i].toNat : Int) = 37 := by rw [h37]; rfl
          have HFL := Lib.hid hfl
          cases hc : convM (f.data.toList.drop (i + 1)) with
          | none =>
            have HS := Lib.hid (step_pct0 f args i s' h1 h37 hc)
            have HC := Lib.hid hc
            clear h92 h37 hc hfl
            go_wp2_with (go_at_call 27; refine (conv_any _ _ (by rw [ByteArray.size_extract]; omega)).mono ?_; rintro e w' ⟨⟨a, b, c, n, rfl, hm⟩, hb⟩; simp only [extract_toList] at hm; rw [List.take_of_length_le (by rw [HFL.out]; omega), HC.out] at hm; subst hm; have HJ := Lib.hid (PI.below HI.out hb); clear hb)
            have PX := Lib.hid (PI.frm HJ.out ((Frm.refl _ w').alloc (.cells #[.bool a, .int .i64 b, .int .u8 c] 62)))
            refine start_ (n := 7) (S := fun w' => True) (ds := [6]) #[false, false, false, false, false, false, false] (by kernel_rfl) rfl rfl trivial (fun hHeld => ?_)
            have HD := Lib.hid (PX.out.frm ((Frm.refl _ _).drew))
            generalize World.drew _ = wd5 at HD ⊢
            refine pure_ (i := 0) (N := some 60) (v := ?_) (a' := ?_) #[true, false, false, false, false, false, false] rfl rfl (by kernel_rfl) (fun _ _ _ h => h) (Or.inl ⟨by rfl, ?_⟩) ?_ ?_
            rotate_left
            · intro w'
              go_simp
              with_reducible rfl
            rotate_left
            · simp only [Act.put, List.setIfInBounds_toArray, List.set_cons_zero, List.set_cons_succ, i64_w, i32_w]
              rfl
            refine pure_ (i := 1) (N := some 61) (v := ?_) (a' := ?_) #[true, true, false, false, false, false, false] rfl rfl (by kernel_rfl) (fun _ _ _ h => h) (Or.inl ⟨by rfl, ?_⟩) ?_ ?_
            rotate_left
            · intro w'
              go_simp
              with_reducible rfl
            rotate_left
            · simp only [Act.put, List.setIfInBounds_toArray, List.set_cons_zero, List.set_cons_succ, i64_w, i32_w]
              rfl
            refine pure_ (i := 2) (N := some 62) (v := ?_) (a' := ?_) #[true, true, true, false, false, false, false] rfl rfl (by kernel_rfl) (fun _ _ _ h => h) (Or.inl ⟨by rfl, ?_⟩) ?_ ?_
            rotate_left
            · intro w'
              go_simp
              with_reducible rfl
            rotate_left
            · simp only [Act.put, List.setIfInBounds_toArray, List.set_cons_zero, List.set_cons_succ, i64_w, i32_w]
              rfl
            refine pure_ (i := 3) (N := some 63) (v := ?_) (a' := ?_) #[true, true, true, true, false, false, false] rfl rfl (by kernel_rfl) (fun _ _ _ h => h) (Or.inl ⟨by rfl, ?_⟩) ?_ ?_
            rotate_left
            · intro w'
              go_simp
              with_reducible rfl
            rotate_left
            · simp only [Act.put, List.setIfInBounds_toArray, List.set_cons_zero, List.set_cons_succ, i64_w, i32_w]
              rfl
            refine pure_ (i := 4) (N := some 64) (v := ?_) (a' := ?_) #[true, true, true, true, true, false, false] rfl rfl (by kernel_rfl) (fun _ _ _ h => h) (Or.inl ⟨by rfl, ?_⟩) ?_ ?_
            rotate_left
            · intro w'
              go_simp
              with_reducible rfl
            rotate_left
            · simp only [Act.put, List.setIfInBounds_toArray, List.set_cons_zero, List.set_cons_succ, i64_w, i32_w]
              rfl
            refine pure_ (i := 5) (N := some 65) (v := ?_) (a' := ?_) #[true, true, true, true, true, true, false] rfl rfl (by kernel_rfl) (fun _ _ _ h => h) (Or.inl ⟨by rfl, ?_⟩) ?_ ?_
            rotate_left
            · intro w'
              go_simp
              with_reducible rfl
            rotate_left
            · simp only [Act.put, List.setIfInBounds_toArray, List.set_cons_zero, List.set_cons_succ, i64_w, i32_w]
              rfl
            refine last_ (i := 6) (N := some 66) #[true, true, true, true, true, true, true] rfl rfl (by kernel_rfl) (by decide) (fun K hK => ?_)
            refine goes_ Tryd.func26 (by kernel_rfl) rfl #[.pointer (some ⟨g, 0, none⟩), .int .u8 37] (by rfl) rfl rfl (by first | rfl | (simp [Act.eval]; done) | (simp [Act.eval, Act.put]; done) | (simp [Act.eval]; rfl)) ?_
            refine (HD.out.byte 37 HLN.out).mono ?_
            rintro e w7 ⟨rfl, hp⟩
            have HP := Lib.hid hp
            clear hp
            refine ⟨_, rfl, ?_⟩
            refine hK.out _ _ ?_
            clear hK K
            refine done_ (by kernel_rfl) ?_
            go_wp2
            go_roundw
            case rel => exact ⟨i + 1, _, by go_num, by omega, Lib.hid HP.out, Lib.hid (by rw [← HF.out, HF2.out, HS.out]), Lib.hid (by have := HLi.out; simp only [List.length_append, List.length_singleton]; omega)⟩
            case measure => simp [intOf]; omega
          | some x =>
            have HS := Lib.hid (step_pct f args i s' h1 h37 hc)
            have HC := Lib.hid hc
            have hok := convM_ok hc
            have HO := Lib.hid hok
            have hx3 : x.2.2.2 ≤ f.size - (i + 1) := by have := hok.2.2.2; rw [List.length_drop, hfl] at this; exact this
            have hx4 := hok.2.2.1
            clear h92 h37 hc hfl hok
            have e3 : IntKind.i64.wrap ((i : Int) + (x.2.2.2 : Int)) = (i : Int) + (x.2.2.2 : Int) := IntWalk.i64_in _ (by omega)
            have e4 : IntKind.i64.wrap ((i : Int) + (x.2.2.2 : Int) + 1) = (i : Int) + (x.2.2.2 : Int) + 1 := IntWalk.i64_in _ (by omega)
            go_wp2_with (first | (go_at_call 27; refine (conv_any _ _ (by rw [ByteArray.size_extract]; omega)).mono ?_; rintro e w' ⟨⟨a, b, c, n, rfl, hm⟩, hb⟩; simp only [extract_toList] at hm; rw [List.take_of_length_le (by rw [HFL.out]; omega), HC.out] at hm; obtain ⟨rfl, rfl, rfl, rfl⟩ := hm; have HJ := Lib.hid (PI.below HI.out hb); clear hb) | (go_at_call 28; refine (convert_any x HO.out.1 HO.out.2.1 (PI.frm HJ.out ((Frm.refl _ _).alloc _)) HLN.out (HA.out _)).mono ?_; rintro e w'' ⟨rfl, hp⟩; have HP := Lib.hid hp; clear hp))
            go_wp2
            go_roundw
            case rel => exact ⟨i + 1 + x.2.2.2, _, by go_num, by omega, Lib.hid HP.out, Lib.hid (by rw [← HF.out, HF2.out, HS.out]), Lib.hid (by have := HLi.out; have := convertM_len args s' x _ HO.out (HA.out _); omega)⟩
            case measure => simp [intOf]; omega
        · have t92 : ¬ (f[i].toNat : Int) = 92 := u8_ne h92
          have t37 : ¬ (f[i].toNat : Int) = 37 := u8_ne h37
          have HS := Lib.hid (step_plain f args i s' h1 h92 h37)
          clear h92 h37
          go_wp2
          refine start_ (n := 7) (S := fun w' => True) (ds := [6]) #[false, false, false, false, false, false, false] (by kernel_rfl) rfl rfl trivial (fun hHeld => ?_)
          have HD := Lib.hid (HI.out.frm ((Frm.refl _ _).drew))
          generalize World.drew _ = wd5 at HD ⊢
          refine pure_ (i := 0) (N := some 60) (v := ?_) (a' := ?_) #[true, false, false, false, false, false, false] rfl rfl (by kernel_rfl) (fun _ _ _ h => h) (Or.inl ⟨by rfl, ?_⟩) ?_ ?_
          rotate_left
          · intro w'
            go_simp
            with_reducible rfl
          rotate_left
          · simp only [Act.put, List.setIfInBounds_toArray, List.set_cons_zero, List.set_cons_succ, i64_w, i32_w]
            rfl
          refine pure_ (i := 1) (N := some 61) (v := ?_) (a' := ?_) #[true, true, false, false, false, false, false] rfl rfl (by kernel_rfl) (fun _ _ _ h => h) (Or.inl ⟨by rfl, ?_⟩) ?_ ?_
          rotate_left
          · intro w'
            go_simp
            with_reducible rfl
          rotate_left
          · simp only [Act.put, List.setIfInBounds_toArray, List.set_cons_zero, List.set_cons_succ, i64_w, i32_w]
            rfl
          refine pure_ (i := 2) (N := some 62) (v := ?_) (a' := ?_) #[true, true, true, false, false, false, false] rfl rfl (by kernel_rfl) (fun _ _ _ h => h) (Or.inl ⟨by rfl, ?_⟩) ?_ ?_
          rotate_left
          · intro w'
            go_simp
            with_reducible rfl
          rotate_left
          · simp only [Act.put, List.setIfInBounds_toArray, List.set_cons_zero, List.set_cons_succ, i64_w, i32_w]
            rfl
          refine pure_ (i := 3) (N := some 63) (v := ?_) (a' := ?_) #[true, true, true, true, false, false, false] rfl rfl (by kernel_rfl) (fun _ _ _ h => h) (Or.inl ⟨by rfl, ?_⟩) ?_ ?_
          rotate_left
          · intro w'
            go_simp
            with_reducible rfl
          rotate_left
          · simp only [Act.put, List.setIfInBounds_toArray, List.set_cons_zero, List.set_cons_succ, i64_w, i32_w]
            rfl
          refine pure_ (i := 4) (N := some 64) (v := ?_) (a' := ?_) #[true, true, true, true, true, false, false] rfl rfl (by kernel_rfl) (fun _ _ _ h => h) (Or.inl ⟨by rfl, ?_⟩) ?_ ?_
          rotate_left
          · intro w'
            go_simp
            with_reducible rfl
          rotate_left
          · simp only [Act.put, List.setIfInBounds_toArray, List.set_cons_zero, List.set_cons_succ, i64_w, i32_w]
            rfl
          refine pure_ (i := 5) (N := some 65) (v := ?_) (a' := ?_) #[true, true, true, true, true, true, false] rfl rfl (by kernel_rfl) (fun _ _ _ h => h) (Or.inl ⟨by rfl, ?_⟩) ?_ ?_
          rotate_left
          · intro w'
            go_simp
            with_reducible rfl
          rotate_left
          · simp only [Act.put, List.setIfInBounds_toArray, List.set_cons_zero, List.set_cons_succ, i64_w, i32_w]
            rfl
          refine last_ (i := 6) (N := some 66) #[true, true, true, true, true, true, true] rfl rfl (by kernel_rfl) (by decide) (fun K hK => ?_)
          refine goes_ Tryd.func26 (by kernel_rfl) rfl #[.pointer (some ⟨g, 0, none⟩), .int .u8 (f[i].toNat : Int)] (by rfl) rfl rfl (by first | rfl | (simp [Act.eval]; done) | (simp [Act.eval, Act.put]; done) | (simp [Act.eval]; rfl)) ?_
          refine (HD.out.byte f[i] HLN.out).mono ?_
          rintro e w7 ⟨rfl, hp⟩
          have HP := Lib.hid hp
          clear hp
          refine ⟨_, rfl, ?_⟩
          refine hK.out _ _ ?_
          clear hK K
          refine done_ (by kernel_rfl) ?_
          go_wp2
          go_roundw
          case rel => exact ⟨i + 1, _, by go_num, by omega, Lib.hid HP.out, Lib.hid (by rw [← HF.out, HF2.out, HS.out]), Lib.hid (by have := HLi.out; simp only [List.length_append, List.length_singleton]; omega)⟩
          case measure => simp [intOf]; omega
    · have hend := fromM_end f.data.toList args i s' (by rw [Array.length_toList]; show f.size ≤ i; omega)
      have HE := Lib.hid hend
      clear hend
      go_wp2
      go_end0
      exact ⟨rfl, by rw [← HF.out, HE.out]; exact HI.out⟩
end Go.Proofs.YtlinllnlokikpaaDoor
/- Printf: its loop, walked. -/
set_option linter.unusedVariables false
set_option linter.unusedSimpArgs false
namespace Go.Proofs.YtlinllnlokikpaaDoor
open Go.RowKit Go.Proofs.YtlinllnlokikpaaDoorW.PrintWords Go.Proofs.YtlinllnlokikpaaDoorW.PrintLast Go.Proofs.YtlinllnlokikpaaDoorW.PrintMore

theorem convertM_u (args : List ByteArray) (x : Bool × Nat × UInt8 × Nat) : ∃ d, ∀ st, (convertM args st x).u = st.u + d := by
  by_cases h : x.2.2.1 = 37
  · exact ⟨0, fun st => by unfold convertM; rw [if_pos h]; rfl⟩
  · exact ⟨1, fun st => by unfold convertM; rw [if_neg h]⟩
theorem stepM_u (f : List UInt8) (args : List ByteArray) (i : Nat) : ∃ j d, ∀ st, (stepM f args i st).1 = j ∧ (stepM f args i st).2.u = st.u + d := by
  unfold stepM
  cases f[i]? with
  | none => exact ⟨i + 1, 0, fun st => ⟨rfl, rfl⟩⟩
  | some c =>
    simp only
    cases (if c = 92 then (f[i + 1]?).bind escM else none) with
    | some e => exact ⟨i + 2, 0, fun st => ⟨rfl, rfl⟩⟩
    | none =>
      simp only
      cases (if c = 37 then convM (f.drop (i + 1)) else none) with
      | some x =>
        obtain ⟨d, hd⟩ := convertM_u args x
        exact ⟨i + 1 + x.2.2.2, d, fun st => ⟨rfl, hd st⟩⟩
      | none => exact ⟨i + 1, 0, fun st => ⟨rfl, rfl⟩⟩
theorem runM_u (f : List UInt8) (args : List ByteArray) : ∀ (k i : Nat), ∃ d, ∀ st, (runM f args k i st).u = st.u + d
  | 0, i => ⟨0, fun _ => rfl⟩
  | k + 1, i => by
    by_cases h : i < f.length
    · obtain ⟨j, d, hd⟩ := stepM_u f args i
      obtain ⟨d2, hd2⟩ := runM_u f args k j
      exact ⟨d + d2, fun st => by rw [runM, if_pos h, (hd st).1, hd2, (hd st).2]; omega⟩
    · exact ⟨0, fun st => by rw [runM, if_neg h]; rfl⟩
theorem onceM_u (f : List UInt8) (args : List ByteArray) : ∃ d, ∀ st, (onceM f args st).u = st.u + d := runM_u f args f.length 0
theorem loopM_stop (f : List UInt8) (args : List ByteArray) (k : Nat) (st : PSt) (h : ¬ (0 < st.u ∧ st.u < args.length ∧ st.out.length ≤ 16384)) : loopM f args k st = st := by
  cases k with
  | zero => rfl
  | succ k => rw [loopM, if_neg h]

theorem PI.new {w : World} {A : Option Addr} {c : Nat} {args : List ByteArray} (h : ArgsAt w A c args) :
    PI w (w.alloc (.cells #[.pointer none, .slice none 0 0, .slice A args.length c, .bool false, .bool false] 43)) w.heap.size args ⟨[], 0, false⟩ :=
  ⟨none, .slice none 0 0, A, c, ⟨bk_new w _, .inl rfl, World.ownsRow_nil _ _ _ _, Nat.le_refl _⟩, h, (Below.refl _ w).alloc (Nat.le_refl _) _⟩
theorem PI.c2 {w W : World} {g : Nat} {args : List ByteArray} {st : PSt} (h : PI w W g args st) : ∃ A c, W.cell? ⟨g, 2, none⟩ = some (.slice A (args.length - st.u) c) := by
  obtain ⟨_, _, A, c, h, _, _⟩ := h
  refine ⟨A, c, ?_⟩
  rw [← List.length_drop]
  exact cell_blk (i := 2) h.head rfl
theorem PI.c3 {w W : World} {g : Nat} {args : List ByteArray} {st : PSt} (h : PI w W g args st) : W.cell? ⟨g, 3, none⟩ = some (.bool (decide (0 < st.u))) := by obtain ⟨_, _, _, _, h, _, _⟩ := h; exact cell_blk (i := 3) h.head rfl
theorem PI.len {w W : World} {g : Nat} {args : List ByteArray} {st : PSt} (h : PI w W g args st) :
    Calls Tryd.prog 19 #[.pointer (some ⟨g, 0, none⟩)] W fun e W' => e = .returned (.int .i64 (st.out.length : Int)) ∧ W' = W := by
  obtain ⟨_, _, _, _, h, _, _⟩ := h; exact pb_len h
theorem PI.text {w W : World} {g : Nat} {args : List ByteArray} {st : PSt} (h : PI w W g args st) :
    Calls Tryd.prog 20 #[.pointer (some ⟨g, 0, none⟩)] W fun e W' => e = .returned (.string (asB st.out)) ∧ W'.cell? ⟨g, 4, none⟩ = some (.bool st.bad) ∧ Below w.heap.size w W' := by
  obtain ⟨_, _, _, _, h, _, hb⟩ := h
  refine (pb_text h hb.size).mono ?_
  rintro e W' ⟨rfl, hbb, hg⟩
  exact ⟨rfl, cell_blk (i := 4) (hg.trans h.head) rfl, hb.trans hbb⟩

theorem cut_out (l : List UInt8) : (asB l).extract 0 (min ((asB l).size : Int) 16384).toNat = asB (l.take 16384) := by
  have hl : (asB l).size = l.length := by show l.toArray.size = _; simp
  rw [← asB_toList ((asB l).extract 0 _), extract_toList, List.drop_zero, hl]
  congr 1
  rw [asB_data']
  by_cases h : l.length ≤ 16384
  · rw [List.take_of_length_le (by omega), List.take_of_length_le h]
  · rw [show (min (l.length : Int) 16384).toNat = 16384 from by omega]
def sLen : Option Value → Nat
  | some (.slice _ n _) => n
  | _ => 0
set_option maxHeartbeats 4000000 in
set_option maxRecDepth 100000 in
theorem printf_any {w : World} {A : Option Addr} {c : Nat} {args : List ByteArray} (f : ByteArray) (h : ArgsAt w A c args) (hf : f.size ≤ 10000) (hargs : ∀ s ∈ args, s.size ≤ 1000000) (hn : args.length ≤ 1000000) :
    Calls Tryd.prog 11 #[.string f, .slice A args.length c] w fun e W' => e = .returned (.tuple #[.string (printfM f args).1, .bool (printfM f args).2]) ∧ Below w.heap.size w W' := by
  obtain ⟨fin, hfin⟩ : ∃ fin, fin = printM f.data.toList args := ⟨_, rfl⟩
  have hres : Hid (printfM f args = (asB (fin.out.take 16384), !fin.bad)) := Lib.hid (by rw [hfin]; rfl)
  have HF0 : Hid (loopM f.data.toList args args.length (onceM f.data.toList args ⟨[], 0, false⟩) = fin) := Lib.hid hfin.symm
  obtain ⟨K, hK⟩ := onceM_u f.data.toList args
  have HK := Lib.hid hK
  have HA := Lib.hid hargs
  have H0 := Lib.hid (PI.new h)
  clear h hargs hfin hK
  go_enter Tryd.func11, Tryd.ntmps11
  go_wp2_with (go_at_call 18; refine (once_any f H0.out hf HA.out (by show (0 : Nat) ≤ _; omega)).mono ?_; rintro e w1 ⟨rfl, hp⟩; have H1 := Lib.hid hp; clear hp)
  go_loopw [] (fun wr => ∃ (k : Nat) (s' : PSt), args.length ≤ s'.u + k ∧ Hid (PI w wr w.heap.size args s') ∧ Hid (loopM f.data.toList args k s' = fin) ∧ Hid (0 < s'.u → 0 < K)) (fun wr => sLen (wr.cell? ⟨w.heap.size, 2, none⟩))
  case atStart => exact ⟨args.length, _, by omega, H1, HF0, Lib.hid (by rw [HK.out]; simp)⟩
  case round =>
    obtain ⟨k, s', hk, HI, HF, HU⟩ := hrel
    obtain ⟨A', c', c2⟩ := HI.out.c2
    have c3 := HI.out.c3
    have ARM : True := trivial
    by_cases h1 : 0 < args.length - s'.u
    · by_cases h2 : 0 < s'.u
      · by_cases h3 : s'.out.length ≤ 16384
        · have h3i : ((s'.out.length : Nat) : Int) ≤ 16384 := by omega
          obtain ⟨k', rfl⟩ : ∃ k', k = k' + 1 := ⟨k - 1, by omega⟩
          have HF2 : Hid (loopM f.data.toList args k' (onceM f.data.toList args s') = fin) := Lib.hid (by rw [← HF.out, loopM, if_pos ⟨h2, by omega, h3⟩])
          have HL : Hid (s'.out.length ≤ 20000) := Lib.hid (by omega)
          have hc3 : decide (0 < s'.u) = true := decide_eq_true h2
          rw [hc3] at c3
          clear hc3
          go_wp2_with (first | (go_at_call 19; refine HI.out.len.mono ?_; rintro e w2 ⟨rfl, rfl⟩) | (go_at_call 18; refine (once_any f HI.out hf HA.out HL.out).mono ?_; rintro e w2 ⟨rfl, hp⟩; have HP := Lib.hid hp; clear hp))
          go_roundw
          case rel => exact ⟨k', _, by rw [HK.out]; have := HU.out h2; omega, HP, HF2, Lib.hid (fun _ => HU.out h2)⟩
          case measure =>
            obtain ⟨A2, c2', hc2⟩ := HP.out.c2
            rw [hc2, c2]
            simp only [sLen]
            rw [HK.out]
            have := HU.out h2
            omega
        · have h3i : ¬ ((s'.out.length : Nat) : Int) ≤ 16384 := by omega
          have hc3 : decide (0 < s'.u) = true := decide_eq_true h2
          rw [hc3] at c3
          clear hc3
          have HE : Hid (s' = fin) := Lib.hid (by rw [← HF.out, loopM_stop _ _ _ _ (fun hh => h3 hh.2.2)])
          clear HF
          go_wp2_with (first | (go_at_call 19; refine HI.out.len.mono ?_; rintro e w2 ⟨rfl, rfl⟩) | (go_at_call 20; refine HI.out.text.mono ?_; rintro e w2 ⟨rfl, q4, hb⟩; have HB := Lib.hid hb; clear hb))
          go_region
          go_wp2
          go_ret2
          exact ⟨by rw [hres.out, ← HE.out]; show Ending.returned (.tuple #[.string ((asB s'.out).extract 0 (min ((asB s'.out).size : Int) 16384).toNat), .bool (!s'.bad)]) = _; rw [cut_out], HB.out.drew⟩
      · have hc3 : decide (0 < s'.u) = false := decide_eq_false h2
        rw [hc3] at c3
        clear hc3
        have HE : Hid (s' = fin) := Lib.hid (by rw [← HF.out, loopM_stop _ _ _ _ (fun hh => h2 hh.1)])
        clear HF
        go_wp2_with (first | (go_at_call 19; refine HI.out.len.mono ?_; rintro e w2 ⟨rfl, rfl⟩) | (go_at_call 20; refine HI.out.text.mono ?_; rintro e w2 ⟨rfl, q4, hb⟩; have HB := Lib.hid hb; clear hb))
        go_region
        go_wp2
        go_ret2
        exact ⟨by rw [hres.out, ← HE.out]; show Ending.returned (.tuple #[.string ((asB s'.out).extract 0 (min ((asB s'.out).size : Int) 16384).toNat), .bool (!s'.bad)]) = _; rw [cut_out], HB.out.drew⟩
    · have h1i : args.length - s'.u = 0 := by omega
      rw [h1i] at c2
      have HE : Hid (s' = fin) := Lib.hid (by rw [← HF.out, loopM_stop _ _ _ _ (fun hh => h1 (by omega))])
      clear HF
      go_wp2_with (first | (go_at_call 19; refine HI.out.len.mono ?_; rintro e w2 ⟨rfl, rfl⟩) | (go_at_call 20; refine HI.out.text.mono ?_; rintro e w2 ⟨rfl, q4, hb⟩; have HB := Lib.hid hb; clear hb))
      go_region
      go_wp2
      go_ret2
      exact ⟨by rw [hres.out, ← HE.out]; show Ending.returned (.tuple #[.string ((asB s'.out).extract 0 (min ((asB s'.out).size : Int) 16384).toNat), .bool (!s'.bad)]) = _; rw [cut_out], HB.out.drew⟩
end Go.Proofs.YtlinllnlokikpaaDoor
