/- Plain words on paths: what the printed functions of chapter 3 compute. -/
import Derived.Test.YtnpnablnnfekkaaDoorPAllx
set_option linter.unusedVariables false
set_option linter.unusedSimpArgs false
namespace Go.Proofs.YtnpnablnnfekkaaDoor.PAll
open Go.RowKit Go.Proofs.YtnpnablnnfekkaaDoor Go.Proofs.YtnpnablnnfekkaaDoorW.PrintWords

theorem asB_data (l : List UInt8) : (asB l).data.toList = l := by simp [asB]
theorem asB_inj {a b : List UInt8} : asB a = asB b ↔ a = b := ⟨fun h => by rw [← asB_data a, h, asB_data], fun h => by rw [h]⟩
theorem exists_asB (s : ByteArray) : ∃ l, s = asB l := ⟨s.data.toList, (asB_toList s).symm⟩
theorem toList_asB (l : List UInt8) : (asB l).toList = l := by rw [toList_data, asB_data]
theorem bt_asB (l : List UInt8) (i : Nat) (h : i < l.length) : bt (asB l) (i : Int) = (l[i].toNat : Int) := by
  unfold bt
  rw [dif_pos (by rw [asB_size]; simpa using h)]
  congr 2
theorem wrap_ok {x : Int} (h0 : -9223372036854775808 ≤ x) (h1 : x ≤ 9223372036854775807) : wrap64 x = x := by unfold wrap64; omega
theorem extract_asB' (l : List UInt8) (a b : Nat) : (asB l).extract a b = asB ((l.take b).drop a) := by rw [extract_asB, asB_data]
theorem rdOf_eq (l : List ByteArray) (i : Nat) (h : i < l.length) : rdOf ByteArray.empty l (i : Int) = l[i] := by
  unfold rdOf
  rw [Int.toNat_natCast, List.getD_eq_getElem?_getD, List.getElem?_eq_getElem h]; rfl

/-! has -/
theorem has_l0 (l : List UInt8) (c : Int) (hl : l.length ≤ 140737488351232) : ∀ (n k i : Nat), i + n = l.length → n < k → rehearsalref03_has.l0 k (asB l) c (i : Int) = some ((l.drop i).any fun x => decide ((x.toNat : Int) = c))
  | 0, k, i, h, hk => by
    obtain ⟨k, rfl⟩ : ∃ m, k = m + 1 := ⟨k - 1, by omega⟩
    simp only [rehearsalref03_has.l0]
    rw [if_neg (by rw [asB_size]; omega), List.drop_of_length_le (by omega)]
    rfl
  | n + 1, k, i, h, hk => by
    obtain ⟨k, rfl⟩ : ∃ m, k = m + 1 := ⟨k - 1, by omega⟩
    have hi : i < l.length := by omega
    simp only [rehearsalref03_has.l0]
    rw [if_pos (by rw [asB_size]; omega), if_pos (by omega), bt_asB l i hi, List.drop_eq_getElem_cons hi, List.any_cons]
    by_cases hc : (l[i].toNat : Int) = c
    · rw [if_pos hc]; simp [hc]
    · rw [if_neg hc, wrap_ok (by omega) (by omega), show ((i : Int) + 1) = ((i + 1 : Nat) : Int) from by omega, has_l0 l c hl n k (i + 1) (by omega) (by omega)]
      simp [hc]
theorem has_any (l : List UInt8) (c : Int) (hl : l.length ≤ 140737488351232) (k : Nat) (hk : l.length < k) : rehearsalref03_has.f k (asB l) c = some (l.any fun x => decide ((x.toNat : Int) = c)) :=
  has_l0 l c hl l.length k 0 (by omega) hk
theorem index_any (l : List UInt8) (c : UInt8) : decide (Lib.indexByte l c < 0) = !(l.any fun x => decide ((x.toNat : Int) = (c.toNat : Int))) := by
  have h := Lib.indexByte_ge l c
  by_cases hneg : Lib.indexByte l c = -1
  · have h1 := Lib.indexByte_none hneg
    rw [hneg]
    have : (l.any fun x => decide ((x.toNat : Int) = (c.toNat : Int))) = false := by
      rw [List.any_eq_false]
      intro x hx
      obtain ⟨k, hk, e⟩ := List.mem_iff_getElem.1 hx
      have h2 := h1 k
      rw [List.getElem?_eq_getElem hk, e] at h2
      simp only [decide_eq_true_eq]
      intro e2
      apply h2
      congr 1
      exact UInt8.toNat_inj.1 (by omega)
    rw [this]; rfl
  · obtain ⟨o, ho⟩ : ∃ o : Nat, Lib.indexByte l c = o := ⟨(Lib.indexByte l c).toNat, by omega⟩
    have h1 := (Lib.indexByte_some ho).1
    obtain ⟨hk, e⟩ := List.getElem?_eq_some_iff.1 h1
    have : (l.any fun x => decide ((x.toNat : Int) = (c.toNat : Int))) = true := by
      rw [List.any_eq_true]
      exact ⟨l[o], List.getElem_mem hk, by rw [e]; simp⟩
    rw [this, ho]
    simp
theorem index_ge (l : List UInt8) (c : UInt8) : decide (0 ≤ Lib.indexByte l c) = (l.any fun x => decide ((x.toNat : Int) = (c.toNat : Int))) := by
  have := index_any l c
  by_cases h : 0 ≤ Lib.indexByte l c
  · rw [decide_eq_false (by omega)] at this; rw [decide_eq_true h]; simpa using this
  · rw [decide_eq_true (by omega)] at this; rw [decide_eq_false h]; simpa using this

/-! Name -/
def nameB (l : List UInt8) : Bool := decide (l ≠ []) && decide (l ≠ [46]) && decide (l ≠ [46, 46]) && decide (l.length ≤ 64) && !(l.any fun x => decide ((x.toNat : Int) = 47)) && !(l.any fun x => decide ((x.toNat : Int) = 0))
theorem name_prog (l : List UInt8) : path_Name.f (asB l) = some (nameB l) := by
  unfold path_Name.f nameB strings_IndexByte.f
  simp only [toList_asB, asB_size, asB_data, Option.bind_some]
  have h1 := index_any l 47
  have h2 := index_any l 0
  have e1 : ((47 : UInt8).toNat : Int) = 47 := rfl
  have e2 : ((0 : UInt8).toNat : Int) = 0 := rfl
  rw [e1] at h1
  rw [e2] at h2
  have e3 : ((47 : Int).toNat.toUInt8) = 47 := rfl
  have e4 : ((0 : Int).toNat.toUInt8) = 0 := rfl
  simp only [e3, e4]
  by_cases a1 : l = []
  · simp [a1]
  by_cases a2 : l = [46]
  · simp [a2]
  by_cases a3 : l = [46, 46]
  · simp [a3]
  by_cases a4 : l.length ≤ 64
  · rw [if_neg a1, if_neg a2, if_neg a3, if_pos (by omega), ← h1, ← h2]
    by_cases a5 : Lib.indexByte l 47 < 0 <;> simp [a1, a2, a3, a4, a5]
  · rw [if_neg a1, if_neg a2, if_neg a3, if_neg (by omega)]; simp [a1, a2, a3, a4]
theorem name_ref (l : List UInt8) (hl : l.length ≤ 140737488351232) (k : Nat) (hk : l.length < k) : rehearsalref03_Name.f k (asB l) = some (nameB l) := by
  unfold rehearsalref03_Name.f nameB
  simp only [toList_asB, asB_size, has_any l _ hl k hk, Option.bind_some]
  by_cases a1 : l = []
  · simp [a1]
  have hpos : 0 < l.length := List.length_pos_iff.2 a1
  rw [if_pos (by omega)]
  by_cases a4 : l.length ≤ 64
  · rw [if_pos (by omega)]
    cases a5 : (l.any fun x => decide ((x.toNat : Int) = 47)) <;> cases a6 : (l.any fun x => decide ((x.toNat : Int) = 0)) <;> by_cases a2 : l = [46] <;> by_cases a3 : l = [46, 46] <;> simp_all
  · rw [if_neg (by omega)]; simp [a1, a4]

/-! bare, Join, Abs -/
def trimR (l : List UInt8) : List UInt8 := Lib.trimRightB l 47
theorem trimR_nil : trimR [] = [] := rfl
theorem trimR_slash (l : List UInt8) : trimR (l ++ [47]) = trimR l := by simp [trimR, Lib.trimRightB]
theorem trimR_other (l : List UInt8) {c : UInt8} (h : c ≠ 47) : trimR (l ++ [c]) = l ++ [c] := by simp [trimR, Lib.trimRightB, h]
theorem trimR_length (l : List UInt8) : (trimR l).length ≤ l.length := by
  unfold trimR Lib.trimRightB
  have := (List.dropWhile_suffix (fun x : UInt8 => x == 47) (l := l.reverse)).length_le
  simp at this ⊢; omega
theorem dropWhile_twice (p : UInt8 → Bool) : ∀ l : List UInt8, (l.dropWhile p).dropWhile p = l.dropWhile p
  | [] => rfl
  | c :: l => by
    by_cases h : p c = true
    · rw [List.dropWhile_cons_of_pos h, dropWhile_twice p l]
    · rw [List.dropWhile_cons_of_neg h, List.dropWhile_cons_of_neg h]
theorem trimR_idem (l : List UInt8) : trimR (trimR l) = trimR l := by
  unfold trimR Lib.trimRightB
  rw [List.reverse_reverse, dropWhile_twice]
theorem bare_any : ∀ (n k : Nat) (l : List UInt8), l.length ≤ n → n < k → l.length ≤ 140737488351232 → rehearsalref03_bare.f k (asB l) = some (asB (trimR l))
  | 0, k, l, h, hk, _ => by
    obtain ⟨k, rfl⟩ : ∃ m, k = m + 1 := ⟨k - 1, by omega⟩
    have : l = [] := List.length_eq_zero_iff.1 (by omega)
    subst this
    unfold rehearsalref03_bare.f
    simp only [rehearsalref03_bare.l0]
    rw [if_neg (by rw [asB_size]; simp)]; rfl
  | n + 1, k, l, h, hk, hl => by
    obtain ⟨k, rfl⟩ : ∃ m, k = m + 1 := ⟨k - 1, by omega⟩
    unfold rehearsalref03_bare.f
    simp only [rehearsalref03_bare.l0]
    rcases List.eq_nil_or_concat l with rfl | ⟨a, c, rfl⟩
    · rw [if_neg (by rw [asB_size]; simp)]; rfl
    · rw [List.concat_eq_append] at h hl ⊢
      simp only [List.length_append, List.length_cons, List.length_nil] at h hl
      have hw : wrap64 (((asB (a ++ [c])).size : Int) - 1) = (a.length : Int) := by
        rw [asB_size]; simp only [List.length_append, List.length_cons, List.length_nil]; rw [wrap_ok (by omega) (by omega)]; omega
      rw [if_pos (by rw [asB_size]; simp), hw, if_pos (by omega), if_pos (by rw [asB_size]; simp; omega), bt_asB _ a.length (by simp)]
      simp only [List.getElem_concat_length, asB_size, List.length_append, List.length_cons, List.length_nil, Int.toNat_natCast, extract_asB']
      by_cases hc : c = 47
      · subst hc
        rw [if_pos (show (((47 : UInt8).toNat : Nat) : Int) = 47 from rfl), if_pos (by omega), List.drop_zero, List.take_left, trimR_slash]
        exact bare_any n k a (by omega) (by omega) (by omega)
      · rw [if_neg (by intro e; exact hc (UInt8.toNat_inj.1 (by have : (47 : UInt8).toNat = 47 := rfl; omega))), trimR_other _ hc]
theorem trim_prog (l : List UInt8) (hl : l.length ≤ 140737488351232) : strings_TrimRight.f (asB l) ⟨#[47]⟩ = some (asB (trimR l)) := by
  unfold strings_TrimRight.f
  rw [if_pos ⟨rfl, by rw [asB_size]; omega⟩, asB_data]; rfl
theorem append_asB (a b : List UInt8) : asB a ++ asB b = asB (a ++ b) := by
  apply ByteArray.ext
  simp [asB, ByteArray.data_append]
def joinP (d s : List UInt8) : List UInt8 := trimR d ++ 47 :: s
theorem join_prog (d s : List UInt8) (hd : d.length ≤ 140737488351232) (hs : s.length ≤ 140737488351232) : path_Join.f (asB d) (asB s) = some (asB (joinP d s)) := by
  unfold path_Join.f
  have := trimR_length d
  have e : (⟨#[47]⟩ : ByteArray) = asB [47] := rfl
  rw [trim_prog d hd, Option.bind_some, if_pos (by rw [asB_size]; omega), e, append_asB, if_pos (by rw [asB_size, asB_size]; simp; omega), append_asB]
  simp [joinP]
theorem join_ref (d s : List UInt8) (hd : d.length ≤ 140737488351232) (hs : s.length ≤ 140737488351232) (k : Nat) (hk : d.length < k) : rehearsalref03_Join.f k (asB d) (asB s) = some (asB (joinP d s)) := by
  unfold rehearsalref03_Join.f
  have := trimR_length d
  have e : (⟨#[47]⟩ : ByteArray) = asB [47] := rfl
  rw [bare_any d.length k d (Nat.le_refl _) hk hd, Option.bind_some, if_pos (by rw [asB_size]; omega), e, append_asB, if_pos (by rw [asB_size, asB_size]; simp; omega), append_asB]
  simp [joinP]
theorem abs_same (d s : List UInt8) (hd : d.length ≤ 140737488351232) (hs : s.length ≤ 140737488351232) (k : Nat) (hk : d.length < k) : ∃ r, path_Abs.f (asB d) (asB s) = some r ∧ rehearsalref03_Abs.f k (asB d) (asB s) = some r := by
  unfold path_Abs.f rehearsalref03_Abs.f
  rw [join_prog d s hd hs, join_ref d s hd hs k hk]
  by_cases h : s = []
  · exact ⟨asB s, by rw [if_pos (by rw [toList_asB]; exact h)], by rw [if_pos (by rw [toList_asB]; exact h)]⟩
  · have hp : 0 < ((asB s).size : Int) := by rw [asB_size]; have := List.length_pos_iff.2 h; omega
    have hn : ¬ (asB s).toList = [] := by rw [toList_asB]; exact h
    simp only [if_neg hn, if_pos hp]
    by_cases h2 : bt (asB s) 0 = 47
    · simp only [if_pos h2]; exact ⟨_, rfl, rfl⟩
    · simp only [if_neg h2]; exact ⟨_, rfl, rfl⟩
end Go.Proofs.YtnpnablnnfekkaaDoor.PAll
