/- What Read answers of a disk in memory: slices.Backward over what was written late, then the safe block. -/
import Derived.RangeFuncBox
import Derived.RangeFuncLeaves
import Derived.RangeFuncFrom
import Derived.RangeFuncNested
import Derived.RangeFuncWrites
import Derived.Shelf.Abstract
import Derived.OwnWalkIn
import Derived.TacticsInMore
import Derived.LoopNIn
import Derived.LoopIn
import Derived.Test.YthmdmbgjheploaaBlkC
set_option linter.unusedVariables false
set_option linter.unusedSimpArgs false
namespace Go.Proofs.Ythmdmbgjheploaa
open Go.RowKit Go.Shelf
attribute [local go_sem] Oper.semAt_some

def fB (l : List (Int × ByteArray)) (j : Nat) : Int × ByteArray := l.getD (l.length - 1 - j) (0, ⟨#[]⟩)
def encB (l : List (Int × ByteArray)) (j : Nat) : Array Value := #[.int .i64 ((l.length : Int) - 1 - j), .agg #[.int .i64 (fB l j).1, .string (fB l j).2]]
/-- the late ones' cells -/
def Lates (n₀ : Nat) (W : World) (v : Value) (l : List (Int × ByteArray)) : Prop :=
  ∃ A c, v = .slice A l.length c ∧ (0 < l.length → ∃ g, A = some ⟨g, 0, none⟩ ∧ g < n₀ ∧ ∀ k (h : k < l.length), W.cell? ⟨g, k * 2, none⟩ = some (.int .i64 (l[k]).1) ∧ W.cell? ⟨g, k * 2 + 1, none⟩ = some (.string (l[k]).2))
theorem Lates.below {n₀ : Nat} {A B : World} {v : Value} {l : List (Int × ByteArray)} (h : Lates n₀ A v l) (hb : Below n₀ A B) : Lates n₀ B v l := by
  obtain ⟨a, c, rfl, h⟩ := h
  refine ⟨a, c, rfl, fun h0 => ?_⟩
  obtain ⟨g, rfl, hg, hc⟩ := h h0
  exact ⟨g, rfl, hg, fun k hk => ⟨(hb.cell (p := ⟨g, k * 2, none⟩) hg).trans (hc k hk).1, (hb.cell (p := ⟨g, k * 2 + 1, none⟩) hg).trans (hc k hk).2⟩⟩

set_option maxRecDepth 100000 in
set_option maxHeartbeats 2000000 in
theorem backward1_in (F : Fence) (n : Nat) (hF : F.fn 50) (hro : F.round = none) (hn : 1 ≤ n) (L Bs n₀ : Nat) (v : Value) (l : List (Int × ByteArray)) (hl : l.length ≤ 1000000) (J Jx : List Nat → World → Prop)
    (hY : ∀ pre x W, J pre W → pre.length < l.length → YieldAt F (n - 1) Try.prog L (encB l x) W fun e W' =>
      (e = .returned (.bool true) ∧ J (pre ++ [x]) W' ∧ Below n₀ W W') ∨ (e = .returned (.bool false) ∧ Jx (pre ++ [x]) W'))
    (W : World) (hBn : Bs < n₀) (hBs : W.cell? ⟨Bs, 0, none⟩ = some v) (hL : Lates n₀ W v l) (h0 : J [] W) :
    CallsIn F n Try.prog 50 #[.func (.yield L) #[] #[], .pointer (some ⟨Bs, 0, none⟩)] W fun e W' => (∃ v, e = .returned v) ∧
      ((∃ ys, ys = List.range l.length ∧ J ys W') ∨ (∃ pre, (∃ k, k < l.length ∧ pre = List.range (k + 1)) ∧ Jx pre W')) := by
  obtain ⟨A, c, rfl, hcs⟩ := hL
  have HC := Lib.hid hcs
  clear hcs
  refine callsIn_of_wp Try.func50 rfl hF ?_ hro
  simp only [Try.ntmps50, List.size_toArray, List.length_cons, List.length_nil, Nat.reduceAdd, Nat.reduceSub, Array.replicate_succ, Array.replicate_zero, List.push_toArray, List.append_toArray, List.nil_append, List.cons_append]
  gi_wp2
  gi_loopw [3] (fun i wr => ∃ (k : Nat) (z : Int), k ≤ l.length ∧ i = .int .i64 z ∧ Hid (z = (l.length : Int) - 1 - k) ∧ Hid (J (List.range k) wr) ∧ Hid (Below n₀ W wr))
    (fun i _ => (intOf i + 1).toNat)
  case atStart => exact ⟨0, _, Nat.zero_le _, rfl, Lib.hid (by omega), Lib.hid (by simpa using h0), Lib.hid (Below.refl _ _)⟩
  case round =>
    obtain ⟨k, z, hk, rfl, hz, hJs, hnx⟩ := hrel
    have hBs' := (hnx.out.cell (p := ⟨Bs, 0, none⟩) hBn).trans hBs
    by_cases hlt : k < l.length
    · obtain ⟨m, rfl⟩ : ∃ m : Nat, z = m := ⟨z.toNat, by have := hz.out; omega⟩
      have hm : m < l.length := by have := hz.out; omega
      have hmk : m = l.length - 1 - k := by have := hz.out; omega
      obtain ⟨g, rfl, hg, hc⟩ := HC.out (by omega)
      have c1 := (hnx.out.cell (p := ⟨g, m * 2, none⟩) hg).trans (hc m hm).1
      have c2 := (hnx.out.cell (p := ⟨g, m * 2 + 1, none⟩) hg).trans (hc m hm).2
      clear hc
      have hfe : fB l k = l[m] := by
        unfold fB
        rw [← hmk, List.getD_eq_getElem?_getD, List.getElem?_eq_getElem hm]
        rfl
      obtain ⟨fn, tmps, assign, body, hy, hR⟩ := hY _ k wr hJs.out (by simpa using hlt)
      unfold encB at hy
      rw [hfe, ← hz.out] at hy
      clear hfe hmk
      gi_wp2
      refine hR.mono ?_
      rintro e W3 (⟨rfl, hJ3, hk3⟩ | ⟨rfl, hJx3⟩)
      · gi_wp2
        go_roundw
        case rel => exact ⟨k + 1, _, by omega, rfl, Lib.hid (by have := hz.out; omega), Lib.hid (by rw [List.range_succ]; exact hJ3), Lib.hid (hnx.out.trans hk3)⟩
        case measure => simp [intOf]
      · gi_wp2
        refine bodyPost_ret (results_none rfl _ _ _) rfl ?_
        exact ⟨⟨_, rfl⟩, .inr ⟨_, ⟨k, hlt, (List.range_succ).symm⟩, hJx3⟩⟩
    · have hkl : k = l.length := by omega
      have hz1 : z < 0 := by have := hz.out; omega
      gi_wp2
      go_end0
      exact ⟨⟨_, rfl⟩, .inl ⟨_, by rw [← hkl], hJs.out⟩⟩
theorem backward_in (F : Fence) (n : Nat) (hF : F.fn 42) (hro : F.round = none) (A : Option Addr) (len cap : Nat) (w : World) :
    CallsIn F n Try.prog 42 #[.slice A len cap] w fun e w' => e = .returned (.func (.func 50) #[] #[.pointer (some ⟨w.heap.size, 0, none⟩)]) ∧ w' = w.alloc (.cells #[.slice A len cap] 52) := by
  refine callsIn_of_wp Try.func42 rfl hF ?_ hro
  simp only [Try.ntmps42, List.size_toArray, List.length_cons, List.length_nil, Nat.reduceAdd, Nat.reduceSub, Array.replicate_succ, Array.replicate_zero, List.push_toArray, List.append_toArray, List.nil_append, List.cons_append]
  gi_wp2
  go_ret
  exact ⟨rfl, rfl⟩
theorem backward_stops (F : Fence) (n : Nat) (hF : F.fn 50) (hro : F.round = none) (hn : 1 ≤ n) (Bs : Nat) (v : Value) (l : List (Int × ByteArray)) (hl : l.length ≤ 1000000) (w : World) (hBs : Bs < w.heap.size)
    (hc : w.cell? ⟨Bs, 0, none⟩ = some v) (hI : Lates w.heap.size w v l) :
    SeqStopsK F n Try.prog 50 #[.pointer (some ⟨Bs, 0, none⟩)] (encB l) (Below w.heap.size) (fun ys => ys = List.range l.length) (fun pre => ∃ k, k < l.length ∧ pre = List.range (k + 1)) l.length w := fun L J Jx W hW _ _ hY h0 =>
  backward1_in F n hF hro hn L Bs w.heap.size v l hl J Jx hY W hBs ((hW.cell (p := ⟨Bs, 0, none⟩) hBs).trans hc) (hI.below hW) h0
end Go.Proofs.Ythmdmbgjheploaa
