import Derived.Test.YtlinllnlokikpaaDoorPLnx
import Derived.Test.YtlinllnlokikpaaDoorTxL
import Derived.Test.YtlinllnlokikpaaDoorOpenS
/- TextLines answers true: the plain law of its print. -/
set_option linter.unusedVariables false
set_option linter.unusedSimpArgs false
namespace Go.Proofs.YtlinllnlokikpaaDoor
open Go.RowKit Go.Proofs.YtlinllnlokikpaaDoorW.PrintWords
theorem rdOf_nat (l : List ByteArray) (i : Nat) (h : i < l.length) : rdOf ByteArray.empty l (i : Int) = l[i] := by
  unfold rdOf
  rw [Int.toNat_natCast, List.getD_eq_getElem?_getD, List.getElem?_eq_getElem h]; rfl
theorem lsmall_l0 (l : List ByteArray) (hl : l.length ≤ 140737488355328) (hs : ∀ s ∈ l, s.size ≤ 140737488355328) (k : Nat) : ∀ (i n : Nat), l.length - i < k → n ≤ 281474976710656 → ∃ b, PLn.rehearsallaw15_small.l0 k l (n : Int) (i : Int) = some b ∧ (b = true → n + totL2 (l.drop i) ≤ 2000) := by
  induction k with
  | zero => intro i n h; omega
  | succ k ih =>
    intro i n hk hn
    unfold PLn.rehearsallaw15_small.l0
    by_cases h1 : i < l.length
    · rw [if_pos (by omega : (i : Int) < (l.length : Int))]
      by_cases h2 : n ≤ 2000
      · rw [if_pos (by omega : (n : Int) ≤ 2000), if_pos (by omega : (0 : Int) ≤ (i : Int)), rdOf_nat l i h1]
        have hsz := hs l[i] (List.getElem_mem h1)
        rw [show wrap64 ((n : Int) + (l[i].size : Int)) = ((n + l[i].size : Nat) : Int) from by unfold wrap64; omega, show wrap64 ((i : Int) + 1) = ((i + 1 : Nat) : Int) from by unfold wrap64; omega]
        obtain ⟨b, hb, hbt⟩ := ih (i + 1) (n + l[i].size) (by omega) (by omega)
        refine ⟨b, hb, fun h => ?_⟩
        have := hbt h
        rw [List.drop_eq_getElem_cons h1]
        simp only [totL2, List.map_cons, List.sum_cons] at this ⊢
        omega
      · rw [if_neg (by omega : ¬ (n : Int) ≤ 2000)]
        exact ⟨_, rfl, fun h => by simp at h; omega⟩
    · rw [if_neg (by omega : ¬ (i : Int) < (l.length : Int))]
      refine ⟨_, rfl, fun h => ?_⟩
      rw [List.drop_of_length_le (by omega)]
      simp [totL2] at h ⊢; omega
theorem lsmall_f (l : List ByteArray) (hl : l.length ≤ 140737488355328) (hs : ∀ s ∈ l, s.size ≤ 140737488355328) (k : Nat) (hk : l.length < k) : ∃ b, PLn.rehearsallaw15_small.f k l = some b ∧ (b = true → l.length + totL2 l ≤ 2000) := by
  have := lsmall_l0 l hl hs k 0 l.length (by omega) (by omega)
  rw [List.drop_zero] at this
  exact this
theorem totL2_mem {l : List ByteArray} {s : ByteArray} (h : s ∈ l) : s.size ≤ totL2 l := by
  induction l with
  | nil => cases h
  | cons x r ih =>
    simp only [totL2, List.map_cons, List.sum_cons] at ih ⊢
    rcases List.mem_cons.1 h with h | h
    · subst h; omega
    · have := ih h; omega
theorem asB_sz (l : List UInt8) : (asB l).size = l.length := by show l.toArray.size = _; rw [List.size_toArray]
theorem bt_at (s : ByteArray) (i : Nat) (h : i < s.size) : bt s (i : Int) = ((s.data.toList[i]'(by rw [Array.length_toList]; exact h)).toNat : Int) := by
  unfold bt
  rw [dif_pos (by rw [Int.toNat_natCast]; exact h)]
  simp only [Int.toNat_natCast, Array.getElem_toList]
  rfl
theorem lines_l1 (l : List ByteArray) (p : ByteArray) (hp : p.size ≤ 1000) (hl : l.length ≤ 2000) (ht : ∀ s ∈ l, s.size ≤ 2000) (k : Nat) : ∀ i : Nat, p.size - i < k → (∀ j, j < i → ∀ hj : j < p.data.toList.length, p.data.toList[j] ≠ 37 ∧ p.data.toList[j] ≠ 92) → PLn.rehearsallaw15_TextLines.l1 k l p (i : Int) = some true := by
  have hpl : p.data.toList.length = p.size := by rw [Array.length_toList]; rfl
  induction k with
  | zero => intro i h; omega
  | succ k ih =>
    intro i hk hj
    unfold PLn.rehearsallaw15_TextLines.l1
    by_cases hi : i < p.size
    · rw [if_pos (by omega : (i : Int) < (p.size : Int)), if_pos (by omega : (0 : Int) ≤ (i : Int)), bt_at p i hi]
      by_cases h1 : ((p.data.toList[i]'(by omega)).toNat : Int) = 37
      · rw [if_pos h1]; rfl
      · rw [if_neg h1]
        by_cases h2 : ((p.data.toList[i]'(by omega)).toNat : Int) = 92
        · rw [if_pos h2]; rfl
        · rw [if_neg h2, show wrap64 ((i : Int) + 1) = ((i + 1 : Nat) : Int) from by unfold wrap64; omega]
          refine ih (i + 1) (by omega) fun j hj1 hj2 => ?_
          by_cases hji : j < i
          · exact hj j hji hj2
          · have : j = i := by omega
            subst this
            exact ⟨fun h => h1 (by rw [h]; rfl), fun h => h2 (by rw [h]; rfl)⟩
    · rw [if_neg (by omega : ¬ (i : Int) < (p.size : Int))]
      have hpr : printfM p l = (p, true) := printfM_plain p l (by omega) fun c hc => by
        obtain ⟨j, hj1, rfl⟩ := List.mem_iff_getElem.1 hc
        exact hj j (by omega) hj1
      unfold text_Printf.f
      rw [if_pos ⟨by omega, by omega, fun s hs => by have := ht s hs; omega⟩, hpr]
      simp [rehearsallaw15_awake.f]
theorem lines_l0 (l : List ByteArray) (p : ByteArray) (hp : p.size ≤ 1000) (h0 : l ≠ []) (hl : l.length + totL2 l ≤ 2000) (k : Nat) : ∀ i : Nat, i ≤ l.length → l.length - i + 1010 < k → PLn.rehearsallaw15_TextLines.l0 k l p (asB (linesT (l.take i))) (i : Int) = some true := by
  induction k with
  | zero => intro i _ h; omega
  | succ k ih =>
    intro i hil hk
    unfold PLn.rehearsallaw15_TextLines.l0
    have hm : ∀ s ∈ l, s.size ≤ 2000 := fun s hs => by have := totL2_mem hs; omega
    by_cases hi : i < l.length
    · have hb : (linesT (l.take i)).length ≤ 4000 := by
        rw [linesT_len]
        have := totL2_take l i
        rw [List.length_take]; omega
      have hx := hm l[i] (List.getElem_mem hi)
      have e : asB (linesT (l.take i)) ++ l[i] ++ (⟨#[10]⟩ : ByteArray) = asB (linesT (l.take (i + 1))) := by
        rw [List.take_succ_eq_append_getElem hi, linesT_app]
        apply ByteArray.ext
        apply Array.toList_inj.1
        simp [ByteArray.data_append, asB, linesT]
      rw [if_pos (by omega : (i : Int) < (l.length : Int)), if_pos (by omega : (0 : Int) ≤ (i : Int)), rdOf_nat l i hi, if_pos (by rw [asB_sz]; omega), if_pos (by rw [ByteArray.size_append, asB_sz]; omega), e,
        show wrap64 ((i : Int) + 1) = ((i + 1 : Nat) : Int) from by unfold wrap64; omega]
      exact ih (i + 1) (by omega) (by omega)
    · have hi2 : i = l.length := by omega
      subst hi2
      rw [if_neg (by omega : ¬ (l.length : Int) < (l.length : Int)), List.take_length]
      unfold text_Printf.f
      rw [if_pos ⟨by decide, by omega, fun s hs => by have := hm s hs; omega⟩, printfM_line l h0 (by omega), Option.bind_some, if_pos rfl]
      obtain ⟨k, rfl⟩ : ∃ j, k = j + 1 := ⟨k - 1, by omega⟩
      rw [PLn.rehearsallaw15_TextLines.j2]
      rw [if_neg (by simp)]
      have := lines_l1 l p hp (by omega) hm k 0 (by omega) (fun j h => by omega)
      exact this
theorem lines_f (l : List ByteArray) (p : ByteArray) (hl : l.length ≤ 140737488355328) (hs : ∀ s ∈ l, s.size ≤ 140737488355328) : ∃ k, PLn.rehearsallaw15_TextLines.f k l p = some true := by
  refine ⟨l.length + 1020 + 1, ?_⟩
  obtain ⟨b, hb, hbt⟩ := lsmall_f l hl hs (l.length + 1020 + 1) (by omega)
  unfold PLn.rehearsallaw15_TextLines.f
  rw [hb, Option.bind_some]
  have hj : PLn.rehearsallaw15_TextLines.j0 (l.length + 1020 + 1) l p true = some true := by
    rw [PLn.rehearsallaw15_TextLines.j0]
    rw [if_pos rfl]; rfl
  cases b with
  | false => rw [if_neg (by simp)]; exact hj
  | true =>
    rw [if_pos rfl]
    have hsm := hbt rfl
    by_cases h0 : (l.length : Int) = 0
    · rw [if_pos h0]; exact hj
    · rw [if_neg h0]
      by_cases hp : (p.size : Int) > 1000
      · rw [decide_eq_true hp]; exact hj
      · rw [decide_eq_false hp]
        rw [PLn.rehearsallaw15_TextLines.j0]
        rw [if_neg (by simp)]
        exact lines_l0 l p (by omega) (fun h => h0 (by rw [h]; rfl)) hsm (l.length + 1020) 0 (by omega) (by omega)
theorem lines_walk (A : Option Addr) (cap : Nat) (l : List ByteArray) (a : ByteArray) (W : World) (h : Kd.C Kd.string W A l.length l ∧ l.length ≤ cap ∧ l.length ≤ 140737488355328 ∧ ∀ s ∈ l, s.size ≤ 140737488355328) (h2 : a.size ≤ 140737488351232) :
    Calls Tryd.prog 5 #[.slice A l.length cap, .string a] W fun e W' => e = .returned (.bool true) ∧ Below W.heap.size W W' := by
  obtain ⟨k, hk⟩ := lines_f l a h.2.2.1 h.2.2.2
  exact PLn.rehearsallaw15_TextLines.calls k A cap l a true W h.1 h.2.1 hk
end Go.Proofs.YtlinllnlokikpaaDoor
