/- A disk of eight blocks without a fuse, call by call: what the loops of layer 20's statements hold of it. -/
import Derived.Test.YthmdmbgjheploaaBlkM
import Derived.StillTailTactics
set_option linter.unusedVariables false
set_option linter.unusedSimpArgs false
namespace Go.Proofs.Ythmdmbgjheploaa
open Go.RowKit

structure Dk (B p g k : Nat) (W : World) (v : Value) (d : DiskS) : Prop where
  disk : IsDisk W B p g v d
  n8 : d.safe.length = 8
  free : d.blown = false ∧ d.fuse = -1
  few : d.late.length ≤ k
theorem Dk.start {B p g : Nat} {W : World} (hd : IsDisk W B p g (.slice none 0 0) (newD 8)) : Dk B p g 0 W (.slice none 0 0) (newD 8) := ⟨hd, rfl, ⟨rfl, rfl⟩, by simp [newD]⟩
theorem Dk.below {B p g k : Nat} {W W' : World} {v : Value} {d : DiskS} (h : Dk B p g k W v d) (hb : Below W.heap.size W W') : Dk B p g k W' v d :=
  { h with disk := h.disk.frm (S := fun _ => False) (Frm.of_below hb) (fun _ _ h => h) }
theorem Dk.frm {S : Nat → Prop} {B p g k : Nat} {W W' : World} {v : Value} {d : DiskS} (h : Dk B p g k W v d) (hf : Frm S W W') (hS : ∀ i, DSet p g v i → ¬ S i) : Dk B p g k W' v d :=
  { h with disk := h.disk.frm hf hS }
theorem wr_free (d : DiskS) (hb : d.blown = false) (hf : d.fuse = -1) (a : Int) (s : ByteArray) : ((wrD d a s).1.safe = d.safe ∧ (wrD d a s).1.blown = false ∧ (wrD d a s).1.fuse = -1) ∧ (wrD d a s).1.late.length ≤ d.late.length + 1 := by
  rw [write_free d hb hf]
  split <;> simp [hb, hf]
theorem Dk.wrote {B p g k : Nat} {W W' : World} {v v' : Value} {d : DiskS} (h : Dk B p g k W v d) (a : Int) (s : ByteArray) (hd : IsDisk W' B p g v' (wrD d a s).1) : Dk B p g (k + 1) W' v' (wrD d a s).1 := by
  obtain ⟨⟨e1, e2, e3⟩, e4⟩ := wr_free d h.free.1 h.free.2 a s
  have := h.few
  exact ⟨hd, by rw [e1]; exact h.n8, ⟨e2, e3⟩, by omega⟩
theorem Dk.crashed {B p g k : Nat} {W W' : World} {v v' : Value} {d : DiskS} (h : Dk B p g k W v d) (m : Nat) (hd : IsDisk W' B p g v' (crashD d m)) : Dk B p g 0 W' v' (crashD d m) :=
  ⟨hd, by unfold crashD; rw [keepD_length]; exact h.n8, ⟨rfl, rfl⟩, by simp [crashD]⟩
theorem Dk.synced {B p g k : Nat} {W W' : World} {v v' : Value} {d : DiskS} (h : Dk B p g k W v d) (hd : IsDisk W' B p g v' (syncD d).1) : Dk B p g 0 W' v' (syncD d).1 := by
  rw [sync_free d h.free.1 h.free.2] at hd ⊢
  exact ⟨hd, by rw [keepD_length]; exact h.n8, h.free, by simp⟩
theorem crash_twice (d : DiskS) (a b : Nat) : crashD (crashD d a) b = crashD d a := rfl
theorem cur_crash (d : DiskS) (a j : Nat) : cur (crashD d a) j = (crashD d a).safe.getD j ⟨#[]⟩ := rfl

/-- an array of eight texts, the first of which are the disk's blocks -/
structure Arr8 (bl k : Nat) (W : World) (d : DiskS) (last : List ByteArray) : Prop where
  arr : W.heap[bl]? = some (.cells (last.map Value.string).toArray 37 (0, 0))
  l8 : last.length = 8
  same : ∀ j, j < k → last.getD j ⟨#[]⟩ = cur d j
theorem Arr8.start (W : World) (d : DiskS) : Arr8 W.heap.size 0 (W.alloc (.cells #[.string ⟨#[]⟩, .string ⟨#[]⟩, .string ⟨#[]⟩, .string ⟨#[]⟩, .string ⟨#[]⟩, .string ⟨#[]⟩, .string ⟨#[]⟩, .string ⟨#[]⟩] 37)) d (List.replicate 8 ⟨#[]⟩) :=
  ⟨blk_new W _, rfl, fun j hj => absurd hj (by omega)⟩
theorem Arr8.below {bl k : Nat} {W W' : World} {d : DiskS} {last : List ByteArray} (h : Arr8 bl k W d last) (hb : Below W.heap.size W W') : Arr8 bl k W' d last :=
  ⟨(hb.block _ (blk_lt h.arr)).trans h.arr, h.l8, h.same⟩
theorem Arr8.set {bl k : Nat} {W : World} {d : DiskS} {last : List ByteArray} (h : Arr8 bl k W d last) (hk : k < 8) : Arr8 bl (k + 1) (W.setCell ⟨bl, k, none⟩ (.string (cur d k))) d (last.set k (cur d k)) := by
  refine ⟨?_, by simp [h.l8], fun j hj => ?_⟩
  · rw [blk_set k _ h.arr]; simp [List.map_set]
  · rw [set_getD _ _ _ _ (by rw [h.l8]; exact hk)]
    by_cases e : k = j
    · rw [if_pos e, e]
    · rw [if_neg e]; exact h.same j (by omega)
theorem Arr8.at {bl k : Nat} {W : World} {d : DiskS} {last : List ByteArray} (h : Arr8 bl k W d last) (j : Nat) (hj : j < k) (hj8 : j < 8) : W.cell? ⟨bl, j, none⟩ = some (.string (cur d j)) := by
  have := h.same j hj
  have hl := h.l8
  rw [List.getD_eq_getElem?_getD, List.getElem?_eq_getElem (by omega)] at this
  have this' : last[j] = cur d j := this
  exact cell_blk h.arr (by simp [List.getElem?_eq_getElem (show j < last.length by omega), this'])
/-- two fields of an act -/
theorem Acts.at {w : World} {A : Option Addr} {l : List ActS} (h : Acts w A l) (k : Nat) (hk : k < l.length) : ∃ b off, A = some ⟨b, off, none⟩ ∧ b < w.heap.size ∧ ∃ (xk xa : Int) (xs : ByteArray) (xm : Int), l[k] = ⟨xk, xa, xs, xm⟩ ∧
    w.cell? ⟨b, off + k * 4, none⟩ = some (.int .i64 xk) ∧ w.cell? ⟨b, off + k * 4 + 1, none⟩ = some (.int .i64 xa) ∧ w.cell? ⟨b, off + k * 4 + 2, none⟩ = some (.string xs) ∧ w.cell? ⟨b, off + k * 4 + 3, none⟩ = some (.int .u64 xm) ∧
    -9223372036854775808 ≤ xk ∧ xk ≤ 9223372036854775807 ∧ -9223372036854775808 ≤ xa ∧ xa ≤ 9223372036854775807 ∧ xs.size ≤ 140737488351232 ∧ 0 ≤ xm ∧ xm ≤ 18446744073709551615 := by
  obtain ⟨b, off, e, hb, hc⟩ := h.2.2 (by omega)
  have hok := h.2.1 l[k] (List.getElem_mem hk)
  obtain ⟨c0, c1, c2, c3⟩ := hc k hk
  generalize l[k] = x at *
  obtain ⟨xk, xa, xs, xm⟩ := x
  obtain ⟨⟨o1, o2⟩, ⟨o3, o4⟩, o5, o6, o7⟩ := hok
  exact ⟨b, off, e, hb, xk, xa, xs, xm, rfl, c0, c1, c2, c3, o1, o2, o3, o4, o5, o6, o7⟩
end Go.Proofs.Ythmdmbgjheploaa
