/- Plain words on paths: Base and Up; the chapter's examples; the laws PathNames, PathParts, PathJoins, PathCleans, PathEnds, PathBack, of the printed functions. -/
import Derived.Test.YtnpnablnnfekkaaDoorPathB
set_option linter.unusedVariables false
set_option linter.unusedSimpArgs false
namespace Go.Proofs.YtnpnablnnfekkaaDoor.PAll
open Go.RowKit Go.Proofs.YtnpnablnnfekkaaDoor Go.Proofs.YtnpnablnnfekkaaDoorW.PrintWords

/-! the last slash -/
theorem last_cases (l : List UInt8) : (Lib.lastIndexByte (asB l) 47 = -1 ∧ 47 ∉ l) ∨
    ∃ i : Nat, Lib.lastIndexByte (asB l) 47 = i ∧ i < l.length ∧ l = l.take i ++ 47 :: l.drop (i + 1) ∧ 47 ∉ l.drop (i + 1) := by
  have hget : ∀ j (h : j < l.length), ((asB l).data[j]!) = l[j] := fun j h => by
    show (l.toArray)[j]! = l[j]
    simp [h]
  rcases Lib.lastIndexByte_spec (asB l) 47 with ⟨h1, h2⟩ | ⟨i, hi, h1, h2, h3⟩
  · refine .inl ⟨h1, fun hm => ?_⟩
    obtain ⟨k, hk, e⟩ := List.mem_iff_getElem.1 hm
    have := h2 k (by rw [asB_size]; exact hk)
    rw [hget k hk, e] at this
    exact this rfl
  · rw [asB_size] at hi h3
    rw [hget i hi] at h2
    have h47 : l[i] = 47 := (u8_eq _).1 h2
    refine .inr ⟨i, h1, hi, by have := split_slash l (Nat.zero_le i) hi h47; simpa using this, fun hm => ?_⟩
    obtain ⟨k, hk, e⟩ := List.mem_iff_getElem.1 hm
    rw [List.length_drop] at hk
    have := h3 (i + 1 + k) (by omega) (by omega)
    rw [hget _ (by omega)] at this
    rw [List.getElem_drop] at e
    rw [e] at this
    exact this rfl
def baseL (l : List UInt8) : List UInt8 := (cutAt l).getLast (cutAt_ne l)
theorem baseL_free {l : List UInt8} (h : 47 ∉ l) : baseL l = l := by
  unfold baseL
  have : cutAt l = [l] := cutAt_free l h
  simp [this]
theorem baseL_cut {l : List UInt8} {i : Nat} (h : l = l.take i ++ 47 :: l.drop (i + 1)) (hf : 47 ∉ l.drop (i + 1)) : baseL l = l.drop (i + 1) := by
  unfold baseL
  have : cutAt l = cutAt (l.take i) ++ [l.drop (i + 1)] := by conv => lhs; rw [h, cutAt_append, cutAt_free _ hf]
  simp [this]
theorem base_prog (l : List UInt8) (hl : l.length ≤ 140737488351232) : path_Base.f (asB l) = some (asB (baseL (trimR l))) := by
  unfold path_Base.f strings_LastIndexByte.f
  have ht := trimR_length l
  rw [trim_prog l hl, Option.bind_some, if_pos (by rw [asB_size]; omega), Option.bind_some]
  rcases last_cases (trimR l) with ⟨h1, h2⟩ | ⟨i, h1, hi, h2, h3⟩
  · rw [h1, show wrap64 (-1 + 1) = 0 from wrap_ok (by decide) (by decide), if_pos (Int.le_refl _), if_pos (by omega), baseL_free h2, extract_asB', asB_size]
    simp
  · have hw : wrap64 ((i : Int) + 1) = ((i + 1 : Nat) : Int) := by rw [wrap_ok (by omega) (by omega)]; omega
    rw [h1, hw, if_pos (by omega), if_pos (by rw [asB_size]; omega), baseL_cut h2 h3, extract_asB', asB_size, Int.toNat_natCast, List.take_length]
theorem base_ref (l : List UInt8) (hl : l.length ≤ 10000000) (k : Nat) (hk : l.length < k) : rehearsalref03_Base.f k (asB l) = some (asB (baseL (trimR l))) := by
  unfold rehearsalref03_Base.f
  have ht := trimR_length l
  rw [bare_any l.length k l (Nat.le_refl _) hk (by omega), Option.bind_some, between_any (trimR l) (by omega) k (by omega), Option.bind_some]
  have hpl := pieces_length (asB (trimR l))
  rw [asB_size] at hpl
  have hne := cutAt_ne (trimR l)
  have hlen : 0 < (pieces (asB (trimR l))).length := by rw [pieces_asB, List.length_map]; exact List.length_pos_iff.2 hne
  have hw : wrap64 (((pieces (asB (trimR l))).length : Int) - 1) = (((pieces (asB (trimR l))).length - 1 : Nat) : Int) := by rw [wrap_ok (by omega) (by omega)]; omega
  rw [hw, if_pos (by omega), if_pos (by omega), rdOf_eq _ _ (by omega)]
  congr 1
  have : ∀ (L : List ByteArray) (hL : L = (cutAt (trimR l)).map asB) (h : L.length - 1 < L.length), L[L.length - 1] = asB (baseL (trimR l)) := by
    rintro L rfl h
    rw [← List.getLast_eq_getElem (by intro e; rw [e] at h; simp at h), List.getLast_map]; rfl
  exact this _ (pieces_asB _) _
theorem up_same (l : List UInt8) (hl : l.length ≤ 10000000) (k : Nat) (hk : l.length + 1 < k) : ∃ r, path_Up.f (asB l) = some r ∧ rehearsalref03_Up.f k (asB l) = some r := by
  unfold path_Up.f rehearsalref03_Up.f strings_LastIndexByte.f
  have ht := trimR_length l
  rw [trim_prog l (by omega), Option.bind_some, if_pos (by rw [asB_size]; omega), Option.bind_some, bare_any l.length k l (Nat.le_refl _) (by omega) (by omega), Option.bind_some, base_ref (trimR l) (by omega) k (by omega), Option.bind_some, trimR_idem]
  simp only [asB_size]
  generalize trimR l = t at *
  rcases last_cases t with ⟨h1, h2⟩ | ⟨i, h1, hi, h2, h3⟩
  · rw [h1, if_pos (by decide), baseL_free h2, show ((t.length : Int) - (t.length : Int)) = 0 from by omega, wrap_ok (x := 0) (by decide) (by decide), if_pos rfl]
    exact ⟨_, rfl, rfl⟩
  · have hb := baseL_cut h2 h3
    have hbl : (baseL t).length = t.length - (i + 1) := by rw [hb, List.length_drop]
    have hw : wrap64 ((t.length : Int) - ((baseL t).length : Int)) = ((i + 1 : Nat) : Int) := by rw [hbl, wrap_ok (by omega) (by omega)]; omega
    have h47 : t[i]? = some 47 := by
      rw [h2, List.getElem?_append_right (by simp; omega)]
      simp [Nat.min_eq_left (Nat.le_of_lt hi)]
    have htk : t.take (i + 1) = t.take i ++ [47] := by
      rw [List.take_succ_eq_append_getElem hi, (List.getElem?_eq_some_iff.1 h47).2]
    rw [h1, if_neg (by omega), if_pos (by omega), if_pos (by omega), hw, if_neg (by omega), if_pos (by omega), if_pos (by omega), extract_asB', extract_asB', Int.toNat_natCast, Int.toNat_natCast, List.drop_zero, List.drop_zero]
    have hti : (t.take i).length ≤ t.length := by rw [List.length_take]; omega
    rw [trim_prog (t.take i) (by omega), Option.bind_some, htk, bare_any (t.take i ++ [47]).length k _ (Nat.le_refl _) (by simp; omega) (by simp; omega), Option.bind_some, trimR_slash, toList_asB]
    by_cases hq : trimR (t.take i) = []
    · rw [if_pos hq, if_pos hq]; exact ⟨_, rfl, rfl⟩
    · rw [if_neg hq, if_neg hq]; exact ⟨_, rfl, rfl⟩

/-! the chapter's examples -/
theorem awake_ok : rehearsallaw03_awake.f 20 = some true := by
  decide +kernel
theorem awake_any (k : Nat) (hk : 20 ≤ k) : rehearsallaw03_awake.f k = some true := by
  obtain ⟨d, rfl⟩ := Nat.exists_eq_add_of_le hk
  induction d with
  | zero => exact awake_ok
  | succ d ih => exact rehearsallaw03_awake.mono (20 + d) true (ih (by omega))

theorem PathNames : rehearsallaw03_PathNames.Pure := by
  intro s hs
  obtain ⟨l, rfl⟩ := exists_asB s
  rw [asB_size] at hs
  refine ⟨l.length + 21, ?_⟩
  unfold rehearsallaw03_PathNames.f
  rw [name_prog, Option.bind_some, name_ref l hs _ (by omega), Option.bind_some, beq_self_eq_true, if_pos rfl, awake_any _ (by omega)]; rfl
theorem PathParts : rehearsallaw03_PathParts.Pure := by
  intro s hs
  obtain ⟨l, rfl⟩ := exists_asB s
  rw [asB_size] at hs
  refine ⟨1001, ?_⟩
  unfold rehearsallaw03_PathParts.f path_Parts.f
  have hlen : (partsOf (asB l)).1.length ≤ 257 := by
    unfold partsOf
    rw [asB_size]
    repeat' split
    all_goals first | (simp; done) | skip
    have h1 := full_length (pieces (asB l))
    have h2 := pieces_length (asB l)
    rw [asB_size] at h2
    show (full (pieces (asB l))).length ≤ 257
    omega
  rw [if_pos (by rw [asB_size]; omega), Option.bind_some, parts_ref l hs _ (by omega), Option.bind_some, texts_same _ (by omega) _ (by omega), Option.bind_some, if_pos rfl, beq_self_eq_true, if_pos rfl, if_pos rfl, awake_any _ (by omega)]; rfl
theorem PathJoins : rehearsallaw03_PathJoins.Pure := by
  intro d s hd hs
  obtain ⟨d, rfl⟩ := exists_asB d
  obtain ⟨s, rfl⟩ := exists_asB s
  rw [asB_size] at hd hs
  refine ⟨d.length + 21, ?_⟩
  unfold rehearsallaw03_PathJoins.f
  obtain ⟨r, h1, h2⟩ := abs_same d s hd hs (d.length + 21) (by omega)
  rw [join_prog d s hd hs, Option.bind_some, join_ref d s hd hs _ (by omega), Option.bind_some, if_pos rfl, h1, Option.bind_some, h2, Option.bind_some, if_pos rfl, awake_any _ (by omega)]; rfl
theorem PathEnds (a0 : ByteArray) (h : a0.size ≤ 10000000) : rehearsallaw03_PathEnds.f (a0.size + 21) a0 = some true := by
  obtain ⟨l, rfl⟩ := exists_asB a0
  rw [asB_size] at h ⊢
  unfold rehearsallaw03_PathEnds.f
  obtain ⟨r, h1, h2⟩ := up_same l h (l.length + 21) (by omega)
  rw [base_prog l (by omega), Option.bind_some, base_ref l h _ (by omega), Option.bind_some, if_pos rfl, h1, Option.bind_some, h2, Option.bind_some, if_pos rfl, awake_any _ (by omega)]; rfl
end Go.Proofs.YtnpnablnnfekkaaDoor.PAll
