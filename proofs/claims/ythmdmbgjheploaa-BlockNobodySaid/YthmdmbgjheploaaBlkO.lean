/- A slice of acts that is handed in reads as a list of acts: each number and each text lies in its bounds. -/
import Derived.Deep.Slices
import Derived.ChangeArms
import Derived.SizedLaws
import Derived.OpenShut
import Derived.Test.YthmdmbgjheploaaBlkL
set_option linter.unusedVariables false
set_option linter.unusedSimpArgs false
namespace Go.Proofs.Ythmdmbgjheploaa
open Go.RowKit Go.ChangeShapes Go.WideShapes Go.Deep

theorem mem_weightsAll {H : Type} {P : Program} {e : TypeId} {l : List (DataW H)} {d : DataW H} (hd : d ∈ l) {n : Nat} (hn : n ∈ d.weights P e) : n ∈ DataW.weightsAll P e l := by
  induction l with
  | nil => cases hd
  | cons x r ih =>
    simp only [DataW.weightsAll, List.mem_append]
    rcases List.mem_cons.1 hd with h | h
    · subst h; exact .inl hn
    · exact .inr (ih h)
theorem sz_list (s : ByteArray) : s.data.toList.length = s.size := by rw [Array.length_toList]; rfl
theorem addr_plain {w : World} {a : Addr} {v : Value} (h : w.cell? a = some v) : a = ⟨a.block, a.off, none⟩ ∧ a.block < w.heap.size := by
  unfold World.cell? at h
  cases hb : w.heap[a.block]? with
  | none => simp [hb] at h
  | some o =>
    refine ⟨?_, blk_lt hb⟩
    cases o <;> simp [hb] at h
    obtain ⟨h1, _⟩ := h
    cases a
    simp_all
theorem add_plain' (b o j : Nat) : (⟨b, o, none⟩ : Addr).add j = ⟨b, o + j, none⟩ := by unfold Addr.add; split <;> simp_all

theorem open_acts {H : Type} {enc : TypeId × Value → H} {w : World} {base : Nat} {spare : Nat → Bool} {held : Bool} {fuel : Nat} {A : Option Addr} {len cap : Nat} {x : DataW H × List MemPlace}
    (h : DataW.trod enc Try.prog w base spare held fuel 34 [.slice A len cap] = some x) (hz : ∀ n ∈ x.1.weights Try.prog 34, n ≤ reachBytes) :
    ∃ l : List ActS, l.length = len ∧ Acts w A l := by
  have hC : Try.prog.cellsOf 39 = 4 := by kernel_rfl
  have hB : Try.prog.bytesOf 39 = 40 := by kernel_rfl
  rcases open_slice Try.underlying34 h with ⟨hcs, _⟩ | ⟨a, n, c, m, f, D, Pl, hcs, hb, hl, hm, hmm, hx, hi⟩
  · simp at hcs
    obtain ⟨rfl, rfl, rfl⟩ := hcs
    exact ⟨[], rfl, by simp, by simp, by simp⟩
  · simp at hcs
    obtain ⟨rfl, rfl, rfl⟩ := hcs
    have hlm : len ≤ m := by rw [hmm]; split <;> omega
    have key : ∀ i, i < len → ∃ r : ActS, r.ok ∧ w.cell? (a.add (i * 4)) = some (.int .i64 r.kind) ∧ w.cell? ((a.add (i * 4)).add 1) = some (.int .i64 r.at_) ∧ w.cell? ((a.add (i * 4)).add 2) = some (.string r.data) ∧ w.cell? ((a.add (i * 4)).add 3) = some (.int .u64 r.mask) := by
      intro i hil
      obtain ⟨cs', hc, ht⟩ := hi i (by omega)
      rw [hC] at hc
      obtain ⟨_, hcl, hat⟩ := World.cells?_some hc
      obtain ⟨xs, n', _, hxx, _, hxl, hf⟩ := DataW.trod_struct Try.underlying39 ht
      match cs', hcl with
      | [c0, c1, c2, c3], _ =>
        have f0 := hf 0 _ rfl
        have f1 := hf 1 _ rfl
        have f2 := hf 2 _ rfl
        have f3 := hf 3 _ rfl
        match xs, hxl with
        | [y0, y1, y2, y3], _ =>
          obtain ⟨k0, e0, q0, b0⟩ := DataW.trod_int Try.underlying3 (cs := [c0]) f0
          obtain ⟨k1, e1, q1, b1⟩ := DataW.trod_int Try.underlying3 (cs := [c1]) f1
          obtain ⟨s2, e2, q2, b2⟩ := DataW.trod_string Try.underlying9 (cs := [c2]) f2
          obtain ⟨k3, e3, q3, b3⟩ := DataW.trod_int Try.underlying22 (cs := [c3]) f3
          simp only [List.cons.injEq, and_true] at e0 e1 e2 e3
          subst e0 e1 e2 e3
          refine ⟨⟨k0, k1, s2, k3⟩, ⟨bounds_i64 b0, bounds_i64 b1, ?_, bounds_u64 b3⟩, hat 0 (by omega), ?_, ?_, ?_⟩
          · have hmem : s2.data.toList.length ∈ x.1.weights Try.prog 34 := by
              rw [hx]
              simp only [DataW.weights, Try.underlying34]
              refine List.mem_cons_of_mem _ (List.mem_append_left _ (mem_weightsAll (d := D i) (List.mem_map.2 ⟨i, List.mem_range.2 hil, rfl⟩) ?_))
              have hD : D i = .agg [y0.1, y1.1, y2.1, y3.1] := by
                have := congrArg Prod.fst hxx
                simpa using this
              rw [hD, q0, q1, q2, q3]
              simp [DataW.weights, DataW.weightsEach, Try.underlying39]
            have := hz _ hmem
            rw [sz_list] at this
            unfold reachBytes at this
            omega
          · simpa [Go.Deep.add_add] using hat 1 (by omega)
          · simpa [Go.Deep.add_add] using hat 2 (by omega)
          · simpa [Go.Deep.add_add] using hat 3 (by omega)
    have hex : ∀ i, ∃ r : ActS, i < len → (r.ok ∧ w.cell? (a.add (i * 4)) = some (.int .i64 r.kind) ∧ w.cell? ((a.add (i * 4)).add 1) = some (.int .i64 r.at_) ∧ w.cell? ((a.add (i * 4)).add 2) = some (.string r.data) ∧ w.cell? ((a.add (i * 4)).add 3) = some (.int .u64 r.mask)) := by
      intro i
      by_cases h : i < len
      · obtain ⟨r, hr⟩ := key i h
        exact ⟨r, fun _ => hr⟩
      · exact ⟨⟨0, 0, ⟨#[]⟩, 0⟩, fun h' => absurd h' h⟩
    obtain ⟨V, hV⟩ : ∃ V : Nat → ActS, ∀ i, i < len → ((V i).ok ∧ w.cell? (a.add (i * 4)) = some (.int .i64 (V i).kind) ∧ w.cell? ((a.add (i * 4)).add 1) = some (.int .i64 (V i).at_) ∧ w.cell? ((a.add (i * 4)).add 2) = some (.string (V i).data) ∧ w.cell? ((a.add (i * 4)).add 3) = some (.int .u64 (V i).mask)) :=
      ⟨fun i => Classical.choose (hex i), fun i hi => Classical.choose_spec (hex i) hi⟩
    have hbytes : (len + (m - len)) * 40 ≤ reachBytes := by
      have hmem : (len + (m - len)) * 40 ∈ x.1.weights Try.prog 34 := by
        rw [hx]
        simp only [DataW.weights, Try.underlying34]
        rw [hB]
        simp
      exact hz _ hmem
    refine ⟨(List.range len).map V, by simp, ?_, ?_, ?_⟩
    · simp only [List.length_map, List.length_range]
      unfold reachBytes at hbytes
      omega
    · intro r hr
      obtain ⟨i, hi', rfl⟩ := List.mem_map.1 hr
      exact (hV i (List.mem_range.1 hi')).1
    · intro hp
      have hp' : 0 < len := by simpa using hp
      have h0 := (hV 0 hp').2.1
      have ha0 : a.add (0 * 4) = a := by simp [Addr.add]
      rw [ha0] at h0
      obtain ⟨ha, hlt⟩ := addr_plain h0
      refine ⟨a.block, a.off, by rw [← ha], hlt, fun k hk => ?_⟩
      have hk' : k < len := by simpa using hk
      have hk4 := (hV k hk').2
      rw [ha] at hk4
      simp only [add_plain'] at hk4
      simpa using hk4
end Go.Proofs.Ythmdmbgjheploaa
