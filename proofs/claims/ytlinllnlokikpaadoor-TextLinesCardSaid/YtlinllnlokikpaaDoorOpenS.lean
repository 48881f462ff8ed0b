/- A slice of texts that is handed in reads as a list of texts. -/
import Derived.SliceStrings
import Derived.ChangeArms
import Derived.SizedLaws
import Derived.OpenShut
import Derived.Test.YtlinllnlokikpaaDoorGivT
set_option linter.unusedVariables false
set_option linter.unusedSimpArgs false
namespace Go.Proofs.YtlinllnlokikpaaDoor
open Go.RowKit Go.ChangeShapes Go.WideShapes Go.Proofs.YtlinllnlokikpaaDoorW.PrintWords
theorem mem_weightsAll {H : Type} {P : Program} {e : TypeId} {l : List (DataW H)} {d : DataW H} (hd : d ∈ l) {n : Nat} (hn : n ∈ d.weights P e) : n ∈ DataW.weightsAll P e l := by
  induction l with
  | nil => cases hd
  | cons x r ih =>
    simp only [DataW.weightsAll, List.mem_append]
    rcases List.mem_cons.1 hd with h | h
    · subst h; exact .inl hn
    · exact .inr (ih h)
theorem open_strs {H : Type} {enc : TypeId × Value → H} {w : World} {base : Nat} {spare : Nat → Bool} {held : Bool} {fuel : Nat} {A : Option Addr} {len cap : Nat} {x : DataW H × List MemPlace}
    (h : DataW.trod enc Tryd.prog w base spare held fuel 22 [.slice A len cap] = some x) (hz : ∀ n ∈ x.1.weights Tryd.prog 22, n ≤ reachBytes) :
    ∃ l : List ByteArray, l.length = len ∧ (Kd.C Kd.string w A l.length l ∧ l.length ≤ cap ∧ l.length ≤ 140737488355328 ∧ ∀ s ∈ l, s.size ≤ 140737488355328) := by
  have hB : Tryd.prog.bytesOf 9 = 16 := by kernel_rfl
  rcases open_strings Tryd.underlying22 Tryd.underlying9 (by kernel_rfl) h with ⟨hcs, _⟩ | ⟨a, n, c, ss, hcs, hb, hl, hm, hlen, hx, hcell, hsz⟩
  · simp at hcs
    obtain ⟨rfl, rfl, rfl⟩ := hcs
    exact ⟨[], rfl, ⟨rfl, by simp, fun h => absurd h (by simp)⟩, by simp, by simp, fun s hs => by cases hs⟩
  · simp at hcs
    obtain ⟨rfl, rfl, rfl⟩ := hcs
    have hle : len ≤ ss.length := by rw [hlen]; split <;> omega
    have hlt : (ss.take len).length = len := by rw [List.length_take]; omega
    have hbytes : ((strs (H := H) (ss.take len)).length + (strs (H := H) (ss.drop len)).length) * 16 ≤ reachBytes := by
      refine hz _ ?_
      rw [hx]
      simp only [DataW.weights, Tryd.underlying22]
      rw [hB]
      simp
    have hlen2 : len ≤ 140737488355328 := by
      unfold reachBytes at hbytes
      simp only [strs, List.length_map, hlt] at hbytes
      omega
    have hstr : ∀ s ∈ ss.take len, s.size ≤ 140737488355328 := by
      intro s hs
      have hmem : s.data.toList.length ≤ reachBytes := by
        refine hz _ ?_
        rw [hx]
        simp only [DataW.weights, Tryd.underlying22]
        refine List.mem_cons_of_mem _ (List.mem_append_left _ (mem_weightsAll (d := .lit (.string s.data.toList)) (List.mem_map.2 ⟨s, hs, rfl⟩) ?_))
        simp [DataW.weights]
      rw [Array.length_toList] at hmem
      unfold reachBytes at hmem
      have : s.size = s.data.size := rfl
      omega
    refine ⟨ss.take len, hlt, ⟨rfl, by omega, fun _ => ⟨a, rfl, fun j y hy => ⟨[.string y], rfl, rfl, fun i u hu => ?_⟩⟩⟩, by omega, by omega, hstr⟩
    have hi : i = 0 := by
      cases i with
      | zero => rfl
      | succ i => simp at hu
    subst hi
    have hu' : u = .string y := by simpa using hu.symm
    subst hu'
    rw [show (Kd.string).sz = 1 from rfl, Nat.mul_one, Nat.add_zero]
    obtain ⟨hj, hjy⟩ := List.getElem?_eq_some_iff.1 hy
    have hj2 : j < len := by rw [hlt] at hj; exact hj
    rw [hcell j (by omega)]
    rw [List.getElem_take] at hjy
    rw [List.getD_eq_getElem?_getD, List.getElem?_eq_getElem (by omega), Option.getD_some, hjy]
end Go.Proofs.YtlinllnlokikpaaDoor
