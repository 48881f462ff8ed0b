import Derived.Test.YtlinllnlokikpaaDoorPEchx
import Derived.SliceStrings
import Derived.ChangeArms
import Derived.SizedLaws
import Derived.OpenShut
import Derived.Test.YtlinllnlokikpaaDoorGivT
/- echo: what the print says, against the reference. -/
set_option linter.unusedVariables false
set_option linter.unusedSimpArgs false
namespace Go.Proofs.YtlinllnlokikpaaDoor
open Go.RowKit Go.Proofs.YtlinllnlokikpaaDoorW.PrintWords

def totS (l : List ByteArray) : Nat := (l.map (·.size)).sum
theorem rdOf_nat (l : List ByteArray) (i : Nat) (h : i < l.length) : rdOf ByteArray.empty l (i : Int) = l[i] := by
  unfold rdOf
  rw [Int.toNat_natCast, List.getD_eq_getElem?_getD, List.getElem?_eq_getElem h]; rfl
theorem small_l0 (l : List ByteArray) (hl : l.length ≤ 140737488355328) (hs : ∀ s ∈ l, s.size ≤ 140737488355328) (k : Nat) : ∀ (i n : Nat), l.length - i < k → n ≤ 281474976710656 → ∃ b, PEch.rehearsallaw15_small.l0 k l (n : Int) (i : Int) = some b ∧ (b = true → n + totS (l.drop i) ≤ 2000) := by
  induction k with
  | zero => intro i n h; omega
  | succ k ih =>
    intro i n hk hn
    unfold PEch.rehearsallaw15_small.l0
    by_cases h1 : i < l.length
    · rw [if_pos (by omega : (i : Int) < (l.length : Int))]
      by_cases h2 : n ≤ 2000
      · rw [if_pos (by omega : (n : Int) ≤ 2000), if_pos (by omega : (0 : Int) ≤ (i : Int)), rdOf_nat l i h1]
        have hsz := hs l[i] (List.getElem_mem h1)
        rw [show wrap64 ((n : Int) + (l[i].size : Int)) = ((n + l[i].size : Nat) : Int) from by unfold wrap64; omega, show wrap64 ((i : Int) + 1) = ((i + 1 : Nat) : Int) from by unfold wrap64; omega]
        obtain ⟨b, hb, hbt⟩ := ih (i + 1) (n + l[i].size) (by omega) (by omega)
        refine ⟨b, hb, fun h => ?_⟩
        have := hbt h
        rw [List.drop_eq_getElem_cons h1]
        simp only [totS, List.map_cons, List.sum_cons] at this ⊢
        omega
      · rw [if_neg (by omega : ¬ (n : Int) ≤ 2000)]
        exact ⟨_, rfl, fun h => by simp at h; omega⟩
    · rw [if_neg (by omega : ¬ (i : Int) < (l.length : Int))]
      refine ⟨_, rfl, fun h => ?_⟩
      rw [List.drop_of_length_le (by omega)]
      simp [totS] at h ⊢; omega
theorem small_f (l : List ByteArray) (hl : l.length ≤ 140737488355328) (hs : ∀ s ∈ l, s.size ≤ 140737488355328) (k : Nat) (hk : l.length < k) : ∃ b, PEch.rehearsallaw15_small.f k l = some b ∧ (b = true → l.length + totS l ≤ 2000) := by
  have := small_l0 l hl hs k 0 l.length (by omega) (by omega)
  rw [List.drop_zero] at this
  exact this
theorem size_app (a b : ByteArray) : (a ++ b).size = a.size + b.size := ByteArray.size_append
theorem list_app (a b : ByteArray) : (a ++ b).data.toList = a.data.toList ++ b.data.toList := by simp [ByteArray.data_append]
def joinT (sep : List UInt8) (l : List ByteArray) : List UInt8 := (l.map (fun x => sep ++ x.data.toList)).flatten
theorem joined_l0 (l : List ByteArray) (a1 : ByteArray) (h1 : a1.size ≤ 1000) (hl : l.length ≤ 2000) (ht : totS l ≤ 2000) (k : Nat) : ∀ (i : Nat) (acc : ByteArray), l.length - i < k → 0 < i → acc.size + totS (l.drop i) ≤ 3000000 + i * 2000 →
    PEch.rehearsalref11_Joined.l0 k l a1 acc (i : Int) = some (asB (acc.data.toList ++ joinT a1.data.toList (l.drop i))) := by
  induction k with
  | zero => intro i acc h; omega
  | succ k ih =>
    intro i acc hk h0 htot
    unfold PEch.rehearsalref11_Joined.l0
    by_cases hi : i < l.length
    · have hd := List.drop_eq_getElem_cons hi
      have hle : l[i].size + totS (l.drop (i + 1)) = totS (l.drop i) := by rw [hd]; simp only [totS, List.map_cons, List.sum_cons]
      rw [if_pos (by omega : (i : Int) < (l.length : Int)), if_pos (by omega : (i : Int) > 0), if_pos (by omega), if_pos (by omega : (0 : Int) ≤ (i : Int)), rdOf_nat l i hi, size_app, if_pos (by omega),
        show wrap64 ((i : Int) + 1) = ((i + 1 : Nat) : Int) from by unfold wrap64; omega, ih (i + 1) _ (by omega) (by omega) (by rw [size_app, size_app]; omega)]
      rw [list_app, list_app, hd, show joinT a1.data.toList (l[i] :: l.drop (i + 1)) = a1.data.toList ++ l[i].data.toList ++ joinT a1.data.toList (l.drop (i + 1)) from rfl]
      simp only [List.append_assoc]
    · rw [if_neg (by omega : ¬ (i : Int) < (l.length : Int)), List.drop_of_length_le (by omega)]
      simp [joinT, asB_toList]
theorem inter_cons (sep x : List UInt8) (r : List (List UInt8)) : sep.intercalate (x :: r) = x ++ (r.map (fun y => sep ++ y)).flatten := by
  induction r generalizing x with
  | nil => simp [List.intercalate]
  | cons y r ih =>
    have := ih y
    simp only [List.intercalate, List.intersperse, List.flatten_cons, List.map_cons] at this ⊢
    rw [this]; simp [List.append_assoc]
theorem join_len (sep : ByteArray) (hs : sep.size ≤ 1000) (l : List ByteArray) : (joinT sep.data.toList l).length ≤ totS l + l.length * 1000 := by
  induction l with
  | nil => simp [joinT, totS]
  | cons x r ih =>
    have e1 : sep.data.toList.length = sep.size := by rw [Array.length_toList]; rfl
    have e2 : x.data.toList.length = x.size := by rw [Array.length_toList]; rfl
    simp only [joinT, totS, List.map_cons, List.flatten_cons, List.length_append, List.sum_cons, List.length_cons] at ih ⊢
    omega
theorem joined_f (l : List ByteArray) (a1 : ByteArray) (h1 : a1.size ≤ 1000) (hl : l.length ≤ 2000) (ht : totS l ≤ 2000) (k : Nat) (hk : l.length + 1 < k) :
    PEch.rehearsalref11_Joined.f k l a1 = strings_Join.f l a1 ∧ ∃ t, strings_Join.f l a1 = some t ∧ t.size ≤ 100000000 := by
  have key : ∀ t : List UInt8, Lib.join (l.map (·.data.toList)) a1.data.toList = t → t.length ≤ 100000000 → strings_Join.f l a1 = some (asB t) := by
    intro t h2 h3
    unfold strings_Join.f
    rw [h2, if_pos ⟨by omega, by omega⟩]
  obtain ⟨k, rfl⟩ : ∃ j, k = j + 1 := ⟨k - 1, by omega⟩
  unfold PEch.rehearsalref11_Joined.f PEch.rehearsalref11_Joined.l0
  cases l with
  | nil =>
    have := key [] rfl (by simp)
    rw [this, if_neg (by simp)]
    exact ⟨rfl, _, rfl, by simp [asB, ByteArray.size]⟩
  | cons x r =>
    have e2 : x.data.toList.length = x.size := by rw [Array.length_toList]; rfl
    have hx : x.size + totS r ≤ 2000 := by simpa [totS] using ht
    have hj := join_len a1 h1 r
    simp only [List.length_cons] at hl hk
    have hlen : (x.data.toList ++ joinT a1.data.toList r).length ≤ 100000000 := by rw [List.length_append]; omega
    have := key (x.data.toList ++ joinT a1.data.toList r) (by simp only [Lib.join, List.map_cons, inter_cons, joinT, List.map_map]; rfl) hlen
    rw [this, if_pos (by first | (simp; done) | (simp; omega)), if_neg (by omega), if_pos (by omega)]
    have e0 : rdOf ByteArray.empty (x :: r) (0 : Int) = x := rfl
    have e9 : (⟨#[]⟩ : ByteArray) ++ x = x := by apply ByteArray.ext; simp [ByteArray.data_append]
    have e8 : (⟨#[]⟩ : ByteArray).size = 0 := rfl
    rw [e0, e9, e8, if_pos (by omega), show wrap64 ((0 : Int) + 1) = ((1 : Nat) : Int) from by unfold wrap64; omega, joined_l0 (x :: r) a1 h1 (by simp; omega) ht k 1 x (by simp; omega) (by omega) (by simp only [List.drop_one, List.tail_cons]; omega)]
    refine ⟨rfl, _, rfl, ?_⟩
    show (x.data.toList ++ joinT a1.data.toList r).toArray.size ≤ _
    rw [List.size_toArray]; exact hlen
theorem echoes_f (l : List ByteArray) (hl : l.length ≤ 140737488355328) (hs : ∀ s ∈ l, s.size ≤ 140737488355328) : ∃ k, PEch.rehearsallaw15_TextEchoes.f k l = some true := by
  refine ⟨l.length + 9 + 1, ?_⟩
  obtain ⟨b, hb, hbt⟩ := small_f l hl hs (l.length + 9 + 1) (by omega)
  unfold PEch.rehearsallaw15_TextEchoes.f
  rw [hb, Option.bind_some]
  cases b with
  | false => simp [rehearsallaw15_awake.f]
  | true =>
    have hsm := hbt rfl
    rw [if_pos rfl]
    have hsep : (⟨#[32]⟩ : ByteArray).size ≤ 1000 := by decide
    obtain ⟨j1, t1, ht1, hz1⟩ := joined_f l ⟨#[32]⟩ hsep (by omega) (by omega) (l.length + 9) (by omega)
    have main : ∃ t, text_Echo.f l = some t ∧ PEch.rehearsalref15_Echo.f (l.length + 9 + 1) l = some t := by
      have ej : ∀ b, PEch.rehearsalref15_Echo.j0 (l.length + 9 + 1) l b = if b = true then (if 1 ≤ (l.length : Int) then ((PEch.rehearsalref11_Joined.f (l.length + 9) (l.drop 1) (⟨#[32]⟩ : ByteArray)).bind fun t106 => (some t106)) else (none)) else ((PEch.rehearsalref11_Joined.f (l.length + 9) l (⟨#[32]⟩ : ByteArray)).bind fun t107 => (if t107.size + 1 ≤ 9223372036854775807 then (some (t107 ++ (⟨#[10]⟩ : ByteArray))) else (none))) := fun _ => rfl
      unfold text_Echo.f PCon.text_Echo.f PEch.rehearsalref15_Echo.f
      simp only [ej, j1, ht1, Option.bind_some]
      have e3 : t1.size + 1 ≤ 9223372036854775807 := by omega
      by_cases h0 : (l.length : Int) > 0
      · have e1 : 0 < (l.length : Int) := h0
        have e2 : 1 ≤ (l.length : Int) := by omega
        by_cases hn : (rdOf ByteArray.empty l 0).toList = ([45, 110] : List UInt8)
        · have hd : totS (l.drop 1) ≤ totS l := by
            cases l with
            | nil => simp [totS]
            | cons x r => simp [totS]
          obtain ⟨j2, t2, ht2, hz2⟩ := joined_f (l.drop 1) ⟨#[32]⟩ hsep (by rw [List.length_drop]; omega) (by omega) (l.length + 9) (by rw [List.length_drop]; omega)
          have hnb : ((rdOf ByteArray.empty l 0).toList == ([45, 110] : List UInt8)) = true := by rw [hn]; rfl
          exact ⟨t2, by simp only [if_pos h0, if_pos e1, if_pos hn, if_pos e2, ht2, Option.bind_some], by simp only [if_pos h0, if_pos e1, hnb, if_true, if_pos e2, j2, ht2, Option.bind_some]⟩
        · have hnb : ((rdOf ByteArray.empty l 0).toList == ([45, 110] : List UInt8)) = false := by simpa using hn
          exact ⟨t1 ++ ⟨#[10]⟩, by simp only [if_pos h0, if_pos e1, if_neg hn, if_pos e3], by simp only [if_pos h0, if_pos e1, hnb, Bool.false_eq_true, if_false, if_pos e3]⟩
      · exact ⟨t1 ++ ⟨#[10]⟩, by simp only [if_neg h0, if_pos e3], by simp only [if_neg h0, Bool.false_eq_true, if_false, if_pos e3]⟩
    obtain ⟨t, h1, h2⟩ := main
    rw [h1, h2, Option.bind_some, Option.bind_some, if_pos rfl]
    rfl
end Go.Proofs.YtlinllnlokikpaaDoor
/- A slice of texts that is handed in reads as a list of texts. -/
set_option linter.unusedVariables false
set_option linter.unusedSimpArgs false
namespace Go.Proofs.YtlinllnlokikpaaDoor
open Go.RowKit Go.ChangeShapes Go.WideShapes Go.Proofs.YtlinllnlokikpaaDoorW.PrintWords
theorem mem_weightsAll {H : Type} {P : Program} {e : TypeId} {l : List (DataW H)} {d : DataW H} (hd : d ∈ l) {n : Nat} (hn : n ∈ d.weights P e) : n ∈ DataW.weightsAll P e l := by
  induction l with
  | nil => cases hd
  | cons x r ih =>
    simp only [DataW.weightsAll, List.mem_append]
    rcases List.mem_cons.1 hd with h | h
    · subst h; exact .inl hn
    · exact .inr (ih h)
theorem open_strs {H : Type} {enc : TypeId × Value → H} {w : World} {base : Nat} {spare : Nat → Bool} {held : Bool} {fuel : Nat} {A : Option Addr} {len cap : Nat} {x : DataW H × List MemPlace}
    (h : DataW.trod enc Tryd.prog w base spare held fuel 22 [.slice A len cap] = some x) (hz : ∀ n ∈ x.1.weights Tryd.prog 22, n ≤ reachBytes) :
    ∃ l : List ByteArray, l.length = len ∧ (Kd.C Kd.string w A l.length l ∧ l.length ≤ cap ∧ l.length ≤ 140737488355328 ∧ ∀ s ∈ l, s.size ≤ 140737488355328) := by
  have hB : Tryd.prog.bytesOf 9 = 16 := by kernel_rfl
  rcases open_strings Tryd.underlying22 Tryd.underlying9 (by kernel_rfl) h with ⟨hcs, _⟩ | ⟨a, n, c, ss, hcs, hb, hl, hm, hlen, hx, hcell, hsz⟩
  · simp at hcs
    obtain ⟨rfl, rfl, rfl⟩ := hcs
    exact ⟨[], rfl, ⟨rfl, by simp, fun h => absurd h (by simp)⟩, by simp, by simp, fun s hs => by cases hs⟩
  · simp at hcs
    obtain ⟨rfl, rfl, rfl⟩ := hcs
    have hle : len ≤ ss.length := by rw [hlen]; split <;> omega
    have hlt : (ss.take len).length = len := by rw [List.length_take]; omega
    have hbytes : ((strs (H := H) (ss.take len)).length + (strs (H := H) (ss.drop len)).length) * 16 ≤ reachBytes := by
      refine hz _ ?_
      rw [hx]
      simp only [DataW.weights, Tryd.underlying22]
      rw [hB]
      simp
    have hlen2 : len ≤ 140737488355328 := by
      unfold reachBytes at hbytes
      simp only [strs, List.length_map, hlt] at hbytes
      omega
    have hstr : ∀ s ∈ ss.take len, s.size ≤ 140737488355328 := by
      intro s hs
      have hmem : s.data.toList.length ≤ reachBytes := by
        refine hz _ ?_
        rw [hx]
        simp only [DataW.weights, Tryd.underlying22]
        refine List.mem_cons_of_mem _ (List.mem_append_left _ (mem_weightsAll (d := .lit (.string s.data.toList)) (List.mem_map.2 ⟨s, hs, rfl⟩) ?_))
        simp [DataW.weights]
      rw [Array.length_toList] at hmem
      unfold reachBytes at hmem
      have : s.size = s.data.size := rfl
      omega
    refine ⟨ss.take len, hlt, ⟨rfl, by omega, fun _ => ⟨a, rfl, fun j y hy => ⟨[.string y], rfl, rfl, fun i u hu => ?_⟩⟩⟩, by omega, by omega, hstr⟩
    have hi : i = 0 := by
      cases i with
      | zero => rfl
      | succ i => simp at hu
    subst hi
    have hu' : u = .string y := by simpa using hu.symm
    subst hu'
    rw [show (Kd.string).sz = 1 from rfl, Nat.mul_one, Nat.add_zero]
    obtain ⟨hj, hjy⟩ := List.getElem?_eq_some_iff.1 hy
    have hj2 : j < len := by rw [hlt] at hj; exact hj
    rw [hcell j (by omega)]
    rw [List.getElem_take] at hjy
    rw [List.getD_eq_getElem?_getD, List.getElem?_eq_getElem (by omega), Option.getD_some, hjy]
end Go.Proofs.YtlinllnlokikpaaDoor
/- TextEchoes answers true. -/
namespace Go.Proofs.YtlinllnlokikpaaDoor
open Go.RowKit Go.Proofs.YtlinllnlokikpaaDoorW.PrintWords
theorem echoes_walk (A : Option Addr) (cap : Nat) (l : List ByteArray) (W : World) (h : Kd.C Kd.string W A l.length l ∧ l.length ≤ cap ∧ l.length ≤ 140737488355328 ∧ ∀ s ∈ l, s.size ≤ 140737488355328) :
    Calls Tryd.prog 3 #[.slice A l.length cap] W fun e W' => e = .returned (.bool true) ∧ Below W.heap.size W W' := by
  obtain ⟨k, hk⟩ := echoes_f l h.2.2.1 h.2.2.2
  exact PEch.rehearsallaw15_TextEchoes.calls k A cap l true W h.1 h.2.1 hk
end Go.Proofs.YtlinllnlokikpaaDoor
