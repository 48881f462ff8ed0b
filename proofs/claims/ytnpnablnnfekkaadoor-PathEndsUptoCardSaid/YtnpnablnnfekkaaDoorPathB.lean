/- Plain words on paths: between, Parts, Clean, Base, Up, Texts. -/
import Derived.Test.YtnpnablnnfekkaaDoorPathA
set_option linter.unusedVariables false
set_option linter.unusedSimpArgs false
namespace Go.Proofs.YtnpnablnnfekkaaDoor.PAll
open Go.RowKit Go.Proofs.YtnpnablnnfekkaaDoor Go.Proofs.YtnpnablnnfekkaaDoorW.PrintWords

theorem pieces_asB (l : List UInt8) : pieces (asB l) = (cutAt l).map asB := by rw [pieces, asB_data]
theorem u8_eq (c : UInt8) : ((c.toNat : Nat) : Int) = 47 ↔ c = 47 := ⟨fun h => UInt8.toNat_inj.1 (by have : (47 : UInt8).toNat = 47 := rfl; omega), fun h => by rw [h]; rfl⟩
theorem not_mem_drop {l : List UInt8} {a b : Nat} (h : ∀ j, a ≤ j → j < b → l[j]? ≠ some 47) : 47 ∉ (l.take b).drop a := by
  intro hm
  obtain ⟨k, hk, e⟩ := List.mem_iff_getElem.1 hm
  simp only [List.length_drop, List.length_take] at hk
  refine h (a + k) (by omega) (by omega) ?_
  rw [← e, List.getElem_drop, List.getElem_take, List.getElem?_eq_getElem]
theorem split_slash (l : List UInt8) {a i : Nat} (ha : a ≤ i) (hi : i < l.length) (h47 : l[i] = 47) : l.drop a = (l.take i).drop a ++ 47 :: l.drop (i + 1) := by
  have h1 : l = l.take i ++ 47 :: l.drop (i + 1) := by
    have h4 := List.drop_eq_getElem_cons hi
    rw [h47] at h4
    rw [← h4, List.take_append_drop]
  conv => lhs; rw [h1]
  rw [List.drop_append_of_le_length (by simp; omega)]
theorem between_l0 (l : List UInt8) (hl : l.length ≤ 10000000) : ∀ (n k i a : Nat) (acc : List ByteArray), i + n = l.length → n < k → a ≤ i → (∀ j, a ≤ j → j < i → l[j]? ≠ some 47) → acc.length ≤ a →
    rehearsalref03_between.l0 k (asB l) acc (a : Int) (i : Int) = some (acc ++ pieces (asB (l.drop a)))
  | 0, k, i, a, acc, h, hk, ha, hno, hacc => by
    obtain ⟨k, rfl⟩ : ∃ m, k = m + 1 := ⟨k - 1, by omega⟩
    simp only [rehearsalref03_between.l0]
    have hz : (asB l).size = l.length := asB_size l
    rw [if_neg (by omega), if_pos (by omega), if_pos (by omega), if_pos (by omega), hz, extract_asB', Int.toNat_natCast, List.take_length]
    have h47 : 47 ∉ l.drop a := by have := not_mem_drop hno; rwa [show i = l.length from by omega, List.take_length] at this
    rw [pieces_asB, cutAt_free _ h47]; rfl
  | n + 1, k, i, a, acc, h, hk, ha, hno, hacc => by
    obtain ⟨k, rfl⟩ : ∃ m, k = m + 1 := ⟨k - 1, by omega⟩
    have hi : i < l.length := by omega
    have hz : (asB l).size = l.length := asB_size l
    simp only [rehearsalref03_between.l0]
    rw [if_pos (by omega), if_pos (by omega), bt_asB l i hi]
    have hw : wrap64 ((i : Int) + 1) = ((i + 1 : Nat) : Int) := by rw [wrap_ok (by omega) (by omega)]; omega
    by_cases hc : l[i] = 47
    · rw [if_pos ((u8_eq _).2 hc), if_pos (by omega), if_pos (by omega), if_pos (by omega), if_pos (by omega), hw, between_l0 l hl n k (i + 1) (i + 1) _ (by omega) (by omega) (Nat.le_refl _) (fun j h1 h2 => by omega) (by simp; omega)]
      rw [pieces_asB (l.drop a), split_slash l ha hi hc, cutAt_append, cutAt_free _ (not_mem_drop hno), extract_asB', Int.toNat_natCast, Int.toNat_natCast, pieces_asB]
      simp
    · rw [if_neg (fun e => hc ((u8_eq _).1 e)), hw]
      refine between_l0 l hl n k (i + 1) a acc (by omega) (by omega) (by omega) (fun j h1 h2 => ?_) hacc
      by_cases hj : j = i
      · subst hj; rw [List.getElem?_eq_getElem hi]; exact fun e => hc (Option.some.inj e)
      · exact hno j h1 (by omega)
theorem between_any (l : List UInt8) (hl : l.length ≤ 10000000) (k : Nat) (hk : l.length < k) : rehearsalref03_between.f k (asB l) = some (pieces (asB l)) := by
  have := between_l0 l hl l.length k 0 0 [] (by omega) hk (Nat.le_refl _) (fun j h1 h2 => by omega) (Nat.le_refl _)
  rw [List.nil_append, List.drop_zero] at this
  exact this

/-! Texts -/
theorem texts_l0 (L : List ByteArray) (hL : L.length ≤ 140737488351232) : ∀ (n k i : Nat), i + n = L.length → n < k → rehearsalref03_Texts.l0 k L L (i : Int) = some true
  | 0, k, i, h, hk => by
    obtain ⟨k, rfl⟩ : ∃ m, k = m + 1 := ⟨k - 1, by omega⟩
    simp only [rehearsalref03_Texts.l0]
    rw [if_neg (by omega)]
  | n + 1, k, i, h, hk => by
    obtain ⟨k, rfl⟩ : ∃ m, k = m + 1 := ⟨k - 1, by omega⟩
    simp only [rehearsalref03_Texts.l0]
    rw [if_pos (by omega), if_pos (by omega), if_pos (by omega), if_pos trivial, wrap_ok (by omega) (by omega), show ((i : Int) + 1) = ((i + 1 : Nat) : Int) from by omega]
    exact texts_l0 L hL n k (i + 1) (by omega) (by omega)
theorem texts_same (L : List ByteArray) (hL : L.length ≤ 140737488351232) (k : Nat) (hk : L.length < k) : rehearsalref03_Texts.f k L L = some true := by
  unfold rehearsalref03_Texts.f
  rw [if_pos rfl]
  exact texts_l0 L hL L.length k 0 (by omega) hk

/-! Parts -/
theorem full_cons_pos (x : ByteArray) (r : List ByteArray) (h : 0 < x.size) : full (x :: r) = x :: full r := by simp [full, h]
theorem full_cons_zero (x : ByteArray) (r : List ByteArray) (h : ¬ 0 < x.size) : full (x :: r) = full r := by simp [full, h]
theorem empty_toList (x : ByteArray) : x.toList = [] ↔ ¬ 0 < x.size := by
  rw [← List.isEmpty_iff, empty_iff]; omega
theorem parts_l0 (l : List UInt8) (h0 : 0 < l.length) (h256 : l.length ≤ 256) (L : List ByteArray) (hL : L.length ≤ 1000) : ∀ (n k i : Nat) (acc : List ByteArray), i + n = L.length → n < k → acc.length ≤ i →
    rehearsalref03_Parts.l0 k (asB l) acc L (i : Int) = some (if (L.drop i).any (fun x => decide (64 < x.size)) then ([], false, 26) else (acc ++ full (L.drop i), l.getLast? == some 47 && decide (0 < (acc ++ full (L.drop i)).length), 0))
  | 0, k, i, acc, h, hk, hacc => by
    obtain ⟨k, rfl⟩ : ∃ m, k = m + 1 := ⟨k - 1, by omega⟩
    simp only [rehearsalref03_Parts.l0]
    have hw : wrap64 (((asB l).size : Int) - 1) = ((l.length - 1 : Nat) : Int) := by rw [asB_size, wrap_ok (by omega) (by omega)]; omega
    have hf : full ([] : List ByteArray) = [] := rfl
    have hg : l.getLast? = some (l[l.length - 1]'(by omega)) := by rw [List.getLast?_eq_getElem?, List.getElem?_eq_getElem]
    have hany : (([] : List ByteArray).any fun x => decide (64 < x.size)) = false := rfl
    rw [if_neg (by omega), List.drop_of_length_le (by omega), hany, if_neg Bool.false_ne_true, hf, List.append_nil, hg]
    by_cases ha : 0 < acc.length
    · rw [if_pos (by omega), hw, if_pos (show (0 : Int) ≤ ((l.length - 1 : Nat) : Int) by omega), if_pos (by rw [asB_size]; omega), bt_asB l (l.length - 1) (by omega), decide_eq_true ha, Bool.and_true]
      have : (((l[l.length - 1]'(by omega)).toNat : Int) == 47) = (some (l[l.length - 1]'(by omega)) == some 47) := by
        rw [Bool.eq_iff_iff]; simp only [beq_iff_eq, Option.some.injEq, u8_eq]
      rw [this]
    · rw [if_neg (by omega), decide_eq_false ha, Bool.and_false]
  | n + 1, k, i, acc, h, hk, hacc => by
    obtain ⟨k, rfl⟩ : ∃ m, k = m + 1 := ⟨k - 1, by omega⟩
    have hi : i < L.length := by omega
    simp only [rehearsalref03_Parts.l0]
    have hw : wrap64 ((i : Int) + 1) = ((i + 1 : Nat) : Int) := by rw [wrap_ok (by omega) (by omega)]; omega
    rw [if_pos (by omega), if_pos (by omega), rdOf_eq L i hi, List.drop_eq_getElem_cons hi, hw]
    by_cases h64 : 64 < L[i].size
    · rw [if_pos (by omega), List.any_cons, decide_eq_true h64, Bool.true_or, if_pos rfl]
    · rw [if_neg (by omega), List.any_cons, decide_eq_false h64, Bool.false_or]
      by_cases he : 0 < L[i].size
      · rw [if_neg (by rw [empty_toList]; omega), if_pos (by omega), parts_l0 l h0 h256 L hL n k (i + 1) _ (by omega) (by omega) (by simp; omega)]
        rw [full_cons_pos _ _ he, List.append_assoc]; rfl
      · rw [if_pos (by rw [empty_toList]; exact he), parts_l0 l h0 h256 L hL n k (i + 1) _ (by omega) (by omega) (by omega)]
        rw [full_cons_zero _ _ he]
theorem parts_ref (l : List UInt8) (hl : l.length ≤ 140737488351232) (k : Nat) (hk : 1000 < k) : rehearsalref03_Parts.f k (asB l) = some (partsOf (asB l)) := by
  unfold rehearsalref03_Parts.f partsOf
  rw [toList_asB, asB_size, asB_data]
  by_cases h0 : l = []
  · subst h0; rfl
  have hp := List.length_pos_iff.2 h0
  rw [if_neg h0, if_neg (show ¬ l.length = 0 by omega)]
  by_cases h1 : 256 < l.length
  · rw [if_pos (show (l.length : Int) > 256 by omega), if_pos h1]
  rw [if_neg (show ¬ (l.length : Int) > 256 by omega), if_neg h1, if_pos (show 0 < (l.length : Int) by omega), show (0 : Int) = ((0 : Nat) : Int) from rfl, bt_asB l 0 hp]
  have hh : l.head? = some l[0] := by rw [List.head?_eq_getElem?, List.getElem?_eq_getElem hp]
  have hj : ∀ k, rehearsalref03_Parts.j0 (k + 1) (asB l) true = some ([], false, 28) := fun k => by simp [rehearsalref03_Parts.j0]
  obtain ⟨k, rfl⟩ : ∃ m, k = m + 1 := ⟨k - 1, by omega⟩
  by_cases h2 : l[0] = 47
  · rw [if_pos ((u8_eq _).2 h2), has_any l _ hl _ (by omega), Option.bind_some, hh]
    have hz := index_ge l 0
    have e2 : ((0 : UInt8).toNat : Int) = ((0 : Nat) : Int) := rfl
    rw [e2] at hz
    rw [← hz]
    by_cases h3 : 0 ≤ Lib.indexByte l 0
    · rw [decide_eq_true h3, hj, if_pos (.inr h3)]
    · rw [decide_eq_false h3, if_neg (by rw [h2]; simp; omega)]
      simp only [rehearsalref03_Parts.j0]
      rw [if_neg (by simp), between_any l (by omega) k (by omega), Option.bind_some]
      have hpl := pieces_length (asB l)
      rw [asB_size] at hpl
      have := parts_l0 l hp (by omega) (pieces (asB l)) (by omega) (pieces (asB l)).length k 0 [] (by omega) (by omega) (Nat.le_refl _)
      rw [show ((0 : Nat) : Int) = 0 from rfl] at this
      rw [this, List.drop_zero, List.nil_append]; rfl
  · rw [if_neg (fun e => h2 ((u8_eq _).1 e)), hj, if_pos (.inl (by rw [hh]; simpa using h2))]

/-! Clean -/
def flat (L : List ByteArray) : List UInt8 := (L.map fun x => 47 :: x.data.toList).flatten
theorem flat_length (L : List ByteArray) : (flat L).length = L.length + tot L := by
  induction L with
  | nil => rfl
  | cons x L ih => 
    simp only [flat, List.map_cons, List.flatten_cons, List.length_append, List.length_cons] at ih ⊢
    rw [ih]
    simp only [tot, Lib.lens, List.map_cons, List.sum_cons]
    omega
def finish (s : List UInt8) : ByteArray := if s = [] then asB [47] else asB s
theorem clean_l1 (L : List ByteArray) (hL : L.length ≤ 10000000) : ∀ (n k i : Nat) (s : List UInt8), i + n = L.length → n < k → s.length + (flat (L.drop i)).length ≤ 140737488351232 → rehearsalref03_Clean.l1 k L (asB s) (i : Int) = some (finish (s ++ flat (L.drop i)))
  | 0, k, i, s, h, hk, hb => by
    obtain ⟨k, rfl⟩ : ∃ m, k = m + 1 := ⟨k - 1, by omega⟩
    simp only [rehearsalref03_Clean.l1]
    rw [if_neg (by omega), List.drop_of_length_le (by omega)]
    have : flat ([] : List ByteArray) = [] := rfl
    rw [this, List.append_nil, toList_asB]
    unfold finish
    by_cases hs : s = []
    · rw [if_pos hs, if_pos hs]; rfl
    · rw [if_neg hs, if_neg hs]
  | n + 1, k, i, s, h, hk, hb => by
    obtain ⟨k, rfl⟩ : ∃ m, k = m + 1 := ⟨k - 1, by omega⟩
    have hi : i < L.length := by omega
    have hw : wrap64 ((i : Int) + 1) = ((i + 1 : Nat) : Int) := by rw [wrap_ok (by omega) (by omega)]; omega
    have hf : flat (L.drop i) = 47 :: L[i].data.toList ++ flat (L.drop (i + 1)) := by rw [List.drop_eq_getElem_cons hi]; rfl
    have hsz : L[i].size = L[i].data.toList.length := by rw [Array.length_toList]; rfl
    rw [hf] at hb
    simp only [List.length_append, List.length_cons] at hb
    simp only [rehearsalref03_Clean.l1]
    have e : (⟨#[47]⟩ : ByteArray) = asB [47] := rfl
    rw [if_pos (by omega), if_pos (by rw [asB_size]; omega), if_pos (by omega), rdOf_eq L i hi, e, append_asB, if_pos (by rw [asB_size, hsz]; simp; omega), hw]
    conv => lhs; rw [← asB_toList L[i], append_asB]
    rw [clean_l1 L hL n k (i + 1) _ (by omega) (by omega) (by simp; omega), hf]
    congr 2
    simp
theorem size_dots : (⟨#[46, 46]⟩ : ByteArray).size = 2 := rfl
theorem clean_l0 (L : List ByteArray) (hL : L.length ≤ 1000000) (ht : tot L ≤ 1000000) : ∀ (n k i : Nat) (acc : List ByteArray), i + n = L.length → 2 * n + L.length + 2 < k → acc.length ≤ i → tot acc + tot (L.drop i) ≤ tot L →
    rehearsalref03_Clean.l0 k acc L (i : Int) = some (finish (flat ((L.drop i).foldl cleanStep acc)))
  | 0, k, i, acc, h, hk, ha, hb => by
    obtain ⟨k, rfl⟩ : ∃ m, k = m + 1 := ⟨k - 1, by omega⟩
    simp only [rehearsalref03_Clean.l0]
    have e : (⟨#[]⟩ : ByteArray) = asB [] := rfl
    rw [if_neg (by omega), List.drop_of_length_le (by omega), List.foldl_nil, e, show (0 : Int) = ((0 : Nat) : Int) from rfl]
    have hfl := flat_length acc
    rw [clean_l1 acc (by omega) acc.length k 0 [] (by omega) (by omega) (by simp; omega), List.nil_append, List.drop_zero]
  | n + 1, k, i, acc, h, hk, ha, hb => by
    obtain ⟨k, rfl⟩ : ∃ m, k = m + 2 := ⟨k - 2, by omega⟩
    have hi : i < L.length := by omega
    have hw : wrap64 ((i : Int) + 1) = ((i + 1 : Nat) : Int) := by rw [wrap_ok (by omega) (by omega)]; omega
    have htd : tot (L.drop i) = tot [L[i]] + tot (L.drop (i + 1)) := by rw [List.drop_eq_getElem_cons hi]; exact tot_append [L[i]] _
    have hst := tot_step acc L[i]
    have hlen := cleanStep_length acc L[i]
    have ih := clean_l0 L hL ht n k (i + 1) (cleanStep acc L[i]) (by omega) (by omega) (by omega) (by omega)
    rw [List.drop_eq_getElem_cons hi, List.foldl_cons, ← ih]
    simp only [rehearsalref03_Clean.l0, rehearsalref03_Clean.j1]
    rw [if_pos (by omega), if_pos (by omega), rdOf_eq L i hi, hw]
    have hlst : L[i].toList = L[i].data.toList := toList_data _
    have heq : ∀ m : List UInt8, L[i].toList = m ↔ L[i] = asB m := fun m => by rw [hlst]; exact ⟨fun e => by rw [← asB_toList L[i], e], fun e => by rw [e, asB_data]⟩
    by_cases h0 : L[i].toList = []
    · have : ¬ 0 < L[i].size := (empty_toList _).1 h0
      rw [if_pos h0, if_pos trivial, cleanStep, if_neg (fun e => by rw [e] at this; exact this (by decide)), if_neg (fun e => this e.1)]
    · have hpos : 0 < L[i].size := by rw [empty_toList] at h0; omega
      rw [if_neg h0]
      by_cases h1 : L[i] = asB [46]
      · rw [if_pos (by rw [beq_iff_eq, heq]; exact h1), cleanStep, if_neg (by rw [h1]; intro e; exact absurd (asB_inj.1 (e : asB [46] = asB [46, 46])) (by decide)), if_neg (fun e => e.2 h1)]
      · rw [if_neg (by rw [beq_iff_eq, heq]; exact h1), if_pos (by omega), if_pos (by omega)]
        by_cases h2 : L[i] = asB [46, 46]
        · rw [if_pos (by rw [heq]; exact h2), cleanStep, if_pos (show L[i] = ⟨#[46, 46]⟩ from h2)]
          by_cases h3 : 0 < acc.length
          · have hw2 : wrap64 ((acc.length : Int) - 1) = ((acc.length - 1 : Nat) : Int) := by rw [wrap_ok (by omega) (by omega)]; omega
            rw [if_pos (by omega), hw2, if_pos (by omega), if_pos (by omega), Int.toNat_natCast, List.dropLast_eq_take]
          · rw [if_neg (by omega)]
            have : acc = [] := List.length_eq_zero_iff.1 (by omega)
            rw [this]; rfl
        · rw [if_neg (by rw [heq]; exact h2), if_pos (by omega), cleanStep, if_neg (show ¬ L[i] = ⟨#[46, 46]⟩ from h2), if_pos (show 0 < L[i].size ∧ L[i] ≠ ⟨#[46]⟩ from ⟨hpos, h1⟩)]
theorem finish_clean (L : List ByteArray) : finish (flat L) = asB (47 :: Lib.join (L.map (·.data.toList)) [47]) := by
  cases L with
  | nil => rfl
  | cons x r =>
    have : flat (x :: r) = 47 :: Lib.join ((x :: r).map (·.data.toList)) [47] := by
      rw [List.map_cons, Lib.join_cons]
      simp [flat, Lib.joinTail, Function.comp_def]
    rw [this]
    unfold finish
    rw [if_neg (by simp)]
theorem clean_ref (l : List UInt8) (hl : l.length ≤ 100000) (k : Nat) (hk : 1000000 < k) : rehearsalref03_Clean.f k (asB l) = some (cleanOf (asB l)) := by
  unfold rehearsalref03_Clean.f cleanOf
  have hpl := pieces_length (asB l)
  have htp := tot_pieces (asB l)
  rw [asB_size] at hpl htp
  rw [between_any l (by omega) k (by omega), Option.bind_some]
  have := clean_l0 (pieces (asB l)) (by omega) (by omega) (pieces (asB l)).length k 0 [] (by omega) (by omega) (Nat.le_refl _) (by simp [tot, Lib.lens])
  rw [List.drop_zero] at this
  rw [show (0 : Int) = ((0 : Nat) : Int) from rfl, this, finish_clean]; rfl
end Go.Proofs.YtnpnablnnfekkaaDoor.PAll
