/- What stands between the slashes of a text: the plain words. -/
import Derived.Lib.IndexLaws
import Derived.Lib.TrimByte
import Derived.Lib.Join
import Derived.Lib.LastIndexByte
set_option linter.unusedVariables false
set_option linter.unusedSimpArgs false
namespace Go.Proofs.YtlinllnlokikpaaDoor
open Go

def cutAt : List UInt8 → List (List UInt8)
  | [] => [[]]
  | c :: l => if c = 47 then [] :: cutAt l else (c :: (cutAt l).headD []) :: (cutAt l).tail
theorem cutAt_ne : ∀ l, cutAt l ≠ []
  | [] => by simp [cutAt]
  | c :: l => by unfold cutAt; split <;> simp
theorem cutAt_free : ∀ l : List UInt8, 47 ∉ l → cutAt l = [l]
  | [], _ => rfl
  | c :: l, h => by
    have h1 : ¬ c = 47 := fun e => h (by simp [e])
    have h2 : 47 ∉ l := fun e => h (by simp [e])
    rw [cutAt, if_neg h1, cutAt_free l h2]
    rfl
theorem cutAt_append : ∀ a b : List UInt8, cutAt (a ++ 47 :: b) = cutAt a ++ cutAt b
  | [], b => by simp [cutAt]
  | c :: a, b => by
    have ih := cutAt_append a b
    simp only [List.cons_append, cutAt]
    by_cases h : c = 47
    · rw [if_pos h, if_pos h, ih]; rfl
    · rw [if_neg h, if_neg h, ih]
      cases hc : cutAt a with
      | nil => exact absurd hc (cutAt_ne a)
      | cons x xs => rfl
theorem cutAt_none {l : List UInt8} (h : Lib.indexByte l 47 = -1) : cutAt l = [l] :=
  cutAt_free l fun hm => by
    obtain ⟨k, hk, e⟩ := List.mem_iff_getElem.1 hm
    exact Lib.indexByte_none h k (by rw [List.getElem?_eq_getElem hk, e])
theorem cutAt_some {l : List UInt8} {o : Nat} (h : Lib.indexByte l 47 = o) : cutAt l = l.take o :: cutAt (l.drop (o + 1)) := by
  obtain ⟨h1, h2⟩ := Lib.indexByte_some h
  have hl : o < l.length := (List.getElem?_eq_some_iff.1 h1).1
  have e : l = l.take o ++ 47 :: l.drop (o + 1) := by
    have h3 : l[o] = 47 := (List.getElem?_eq_some_iff.1 h1).2
    have h4 := List.drop_eq_getElem_cons hl
    rw [h3] at h4
    rw [← h4, List.take_append_drop]
  have hf : 47 ∉ l.take o := by
    intro hm
    obtain ⟨k, hk, e'⟩ := List.mem_iff_getElem.1 hm
    have hk' : k < o := by simp at hk; omega
    refine h2 k hk' ?_
    rw [← e', List.getElem_take, List.getElem?_eq_getElem]
  conv => lhs; rw [e, cutAt_append, cutAt_free _ hf]
  rfl
def asB (l : List UInt8) : ByteArray := ⟨l.toArray⟩
def pieces (s : ByteArray) : List ByteArray := (cutAt s.data.toList).map asB
theorem asB_toList (s : ByteArray) : asB s.data.toList = s := by cases s; simp [asB]
theorem pieces_none {s : ByteArray} (h : Lib.indexByte s.data.toList 47 = -1) : pieces s = [s] := by rw [pieces, cutAt_none h]; simp [asB_toList]
theorem pieces_some {s : ByteArray} {o : Nat} (h : Lib.indexByte s.data.toList 47 = o) : pieces s = asB (s.data.toList.take o) :: pieces (asB (s.data.toList.drop (o + 1))) := by
  rw [pieces, cutAt_some h]; simp [pieces, asB]
theorem extract_toList (s : ByteArray) (a b : Nat) : (s.extract a b).data.toList = (s.data.toList.take b).drop a := by
  rw [ByteArray.data_extract, Array.toList_extract, List.extract_eq_take_drop, List.drop_take]
theorem extract_asB (s : ByteArray) (a b : Nat) : s.extract a b = asB ((s.data.toList.take b).drop a) := by
  rw [← extract_toList, asB_toList]
theorem pieces_cut {s : ByteArray} {o : Nat} (h : Lib.indexByte s.data.toList 47 = o) : pieces s = s.extract 0 o :: pieces (s.extract (o + 1) s.size) := by
  rw [pieces_some h, extract_asB s 0 o, extract_asB s (o + 1) s.size, List.drop_zero, List.take_of_length_le (i := s.size) (l := s.data.toList) (by simp)]
theorem indexByte_lt {l : List UInt8} {o : Nat} (h : Lib.indexByte l 47 = o) : o < l.length := (List.getElem?_eq_some_iff.1 (Lib.indexByte_some h).1).1
theorem cutAt_length : ∀ l : List UInt8, (cutAt l).length ≤ l.length + 1
  | [] => by simp [cutAt]
  | c :: l => by
    have ih := cutAt_length l
    have := cutAt_ne l
    unfold cutAt
    split
    · simp; omega
    · cases h : cutAt l with
      | nil => exact absurd h this
      | cons x xs => rw [h] at ih; simp at ih ⊢; omega
theorem pieces_length (s : ByteArray) : (pieces s).length ≤ s.size + 1 := by
  have := cutAt_length s.data.toList
  rw [Array.length_toList] at this
  rw [pieces, List.length_map]
  exact this
/-- the pieces that are not empty -/
def full (l : List ByteArray) : List ByteArray := l.filter fun x => 0 < x.size
theorem full_snoc_pos (l : List ByteArray) {x : ByteArray} (h : 0 < x.size) : full (l ++ [x]) = full l ++ [x] := by simp [full, h]
theorem full_snoc_zero (l : List ByteArray) {x : ByteArray} (h : ¬ 0 < x.size) : full (l ++ [x]) = full l := by simp [full, h]
theorem full_length (l : List ByteArray) : (full l).length ≤ l.length := List.length_filter_le _ _
/-- path.Parts -/
def partsOf (p : ByteArray) : List ByteArray × Bool × Int :=
  if p.size = 0 then ([], false, 20) else if 256 < p.size then ([], false, 26)
  else if p.data.toList.head? ≠ some 47 ∨ 0 ≤ Lib.indexByte p.data.toList 0 then ([], false, 28)
  else if (pieces p).any (fun x => decide (64 < x.size)) then ([], false, 26)
  else (full (pieces p), p.data.toList.getLast? == some 47 && decide (0 < (full (pieces p)).length), 0)
end Go.Proofs.YtlinllnlokikpaaDoor
