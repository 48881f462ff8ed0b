/- A disk in memory, and what New, Blocks, Fuse and the fuse's spending do with it. -/
import Derived.Test.YthmdmbgjheploaaMem
set_option linter.unusedVariables false
set_option linter.unusedSimpArgs false
namespace Go.Proofs.Ythmdmbgjheploaa
open Go.RowKit

structure DiskS where
  safe : List ByteArray
  late : List (Int × ByteArray)
  fuse : Int
  blown : Bool
def lateCells (l : List (Int × ByteArray)) : List Value := l.flatMap fun x => [.int .i64 x.1, .string x.2]
theorem lateCells_snoc (l : List (Int × ByteArray)) (x : Int × ByteArray) : lateCells (l ++ [x]) = lateCells l ++ [.int .i64 x.1, .string x.2] := by simp [lateCells]
theorem lateCells_length (l : List (Int × ByteArray)) : (lateCells l).length = l.length * 2 := by
  induction l with
  | nil => rfl
  | cons x l ih => simp only [lateCells, List.flatMap_cons, List.length_append] at ih ⊢; rw [ih]; simp; omega
/-- the disk at block p: its safe blocks at block g, its late ones in v -/
structure IsDisk (w : World) (base p g : Nat) (v : Value) (d : DiskS) : Prop where
  head : w.heap[p]? = some (.cells #[.slice (some ⟨g, 0, none⟩) d.safe.length d.safe.length, v, .int .i64 d.fuse, .bool d.blown] 54 (0, 0))
  safe : w.heap[g]? = some (.cells (d.safe.map Value.string).toArray 9 (0, 0))
  late : w.ownsRow base 78 2 v d.late.length (lateCells d.late)
  bp : base ≤ p
  bg : base ≤ g
  n0 : 0 < d.safe.length
  n1 : d.safe.length ≤ 4096
  l1 : d.late.length ≤ 1000000
  at_ : ∀ x ∈ d.late, 0 ≤ x.1 ∧ x.1 < d.safe.length
  f0 : -9223372036854775808 ≤ d.fuse
  f1 : d.fuse ≤ 9223372036854775807
def DSet (p g : Nat) (v : Value) : Nat → Prop := fun i => i = p ∨ i = g ∨ v.ownBlock = some i
theorem IsDisk.frm {S : Nat → Prop} {w w' : World} {base p g : Nat} {v : Value} {d : DiskS} (h : IsDisk w base p g v d) (hf : Frm S w w') (hS : ∀ i, DSet p g v i → ¬ S i) : IsDisk w' base p g v d :=
  { h with head := hf.blk (hS p (.inl rfl)) h.head, safe := hf.blk (hS g (.inr (.inl rfl))) h.safe, late := owns_frm h.late hf (fun k hk => hS k (.inr (.inr hk))) }
/-- the three kinds of a disk's blocks: another block is none of them -/
theorem IsDisk.apart {w : World} {base p g : Nat} {v : Value} {d : DiskS} (h : IsDisk w base p g v d) {k : Nat} {A : Array Value} {t : TypeId} (hk : w.heap[k]? = some (.cells A t (0, 0))) (h1 : t ≠ 54) (h2 : t ≠ 9) (h3 : t ≠ 78) : ¬ DSet p g v k := by
  rintro (rfl | rfl | h4)
  · have := h.head; rw [hk] at this; injection this with this; injection this with _ this; exact h1 this
  · have := h.safe; rw [hk] at this; injection this with this; injection this with _ this; exact h2 this
  · rcases h.late.2 with ⟨rfl, _⟩ | ⟨g', cap, cur, rfl, _, hh, _⟩
    · simp [Value.ownBlock] at h4
    · have : g' = k := by simpa [Value.ownBlock] using h4
      subst this
      rw [hk] at hh; injection hh with hh; injection hh with _ hh; exact h3 hh
theorem IsDisk.pg {w : World} {base p g : Nat} {v : Value} {d : DiskS} (h : IsDisk w base p g v d) : p ≠ g := by
  rintro rfl
  have h1 := h.head; rw [h.safe] at h1; injection h1 with h1; injection h1 with _ h1; exact absurd h1 (by decide)
theorem IsDisk.vp {w : World} {base p g : Nat} {v : Value} {d : DiskS} (h : IsDisk w base p g v d) : v.ownBlock ≠ some p ∧ v.ownBlock ≠ some g := by
  rcases h.late.2 with ⟨rfl, _⟩ | ⟨g', cap, cur, rfl, _, hh, _⟩
  · simp [Value.ownBlock]
  · constructor
    · intro e
      have : g' = p := by simpa [Value.ownBlock] using e
      subst this
      rw [h.head] at hh; injection hh with hh; injection hh with _ hh; exact absurd hh (by decide)
    · intro e
      have : g' = g := by simpa [Value.ownBlock] using e
      subst this
      rw [h.safe] at hh; injection hh with hh; injection hh with _ hh; exact absurd hh (by decide)
theorem IsDisk.lt {w : World} {base p g : Nat} {v : Value} {d : DiskS} (h : IsDisk w base p g v d) : ∀ i, DSet p g v i → i < w.heap.size := by
  rintro i (rfl | rfl | h4)
  · exact blk_lt h.head
  · exact blk_lt h.safe
  · rcases h.late.2 with ⟨rfl, _⟩ | ⟨g', cap, cur, rfl, _, hh, _⟩
    · simp [Value.ownBlock] at h4
    · have : g' = i := by simpa [Value.ownBlock] using h4
      subst this
      exact blk_lt hh
theorem IsDisk.vslice {w : World} {base p g : Nat} {v : Value} {d : DiskS} (h : IsDisk w base p g v d) : ∃ A c, v = .slice A d.late.length c := by
  rcases h.late.2 with ⟨rfl, h0⟩ | ⟨g', cap, cur, rfl, _⟩
  · exact ⟨none, 0, by rw [h0]⟩
  · exact ⟨_, _, rfl⟩

/-! the fuse -/
def spendD (d : DiskS) : DiskS × Int := if d.blown = true ∨ d.fuse = 0 then ({ d with blown := true }, 91) else if 0 < d.fuse then ({ d with fuse := d.fuse - 1 }, 0) else (d, 0)

theorem IsDisk.turned {w : World} {base p g : Nat} {v : Value} {d : DiskS} (h : IsDisk w base p g v d) (b : Bool) (f : Int) (hf0 : -9223372036854775808 ≤ f) (hf1 : f ≤ 9223372036854775807) (w' : World)
    (hh : w'.heap[p]? = some (.cells #[.slice (some ⟨g, 0, none⟩) d.safe.length d.safe.length, v, .int .i64 f, .bool b] 54 (0, 0))) (hf : Frm (fun i => i = p) w w') : IsDisk w' base p g v { d with fuse := f, blown := b } :=
  { h with head := hh, safe := hf.blk (fun e => h.pg e.symm) h.safe, late := owns_frm h.late hf (fun k hk e => h.vp.1 (by rw [hk, e])), f0 := hf0, f1 := hf1 }
theorem eq_nil (W : World) (a : Option Addr) (n c : Nat) : (binOp .eql 45 (.slice a n c) (.slice none 0 0)).run Try.prog W = .ok (.bool a.isNone) W := Lib.run_eql_slice_nil W 45 9 a n c 0 0 Try.underlying45
theorem ne_nil (W : World) (a : Option Addr) (n c : Nat) : (binOp .neq 45 (.slice a n c) (.slice none 0 0)).run Try.prog W = .ok (.bool (!a.isNone)) W := run_neq_slice_nil_any W 45 9 a n c 0 0 Try.underlying45

set_option maxHeartbeats 1600000 in
theorem spend_any (w : World) (base p g : Nat) (v : Value) (d : DiskS) (h : IsDisk w base p g v d) :
    Calls Try.prog 41 #[.pointer (some ⟨p, 0, none⟩)] w fun e w' => e = .returned (.int .i64 (spendD d).2) ∧ IsDisk w' base p g v (spendD d).1 ∧ Frm (fun i => i = p) w w' := by
  have kn := eq_nil
  have c0 := cell_blk (i := 0) h.head rfl
  have c2 := cell_blk (i := 2) h.head rfl
  have c3 := cell_blk (i := 3) h.head rfl
  have z2 := frozen_blk 2 h.head
  have z3 := frozen_blk 3 h.head
  have hf0 := h.f0
  have hf1 := h.f1
  have HS3 := Lib.hid (blk_set 3 (.bool true) h.head)
  have HS2 := Lib.hid (blk_set 2 (.int .i64 (d.fuse - 1)) h.head)
  have H := Lib.hid h
  clear h
  have hfr : ∀ (i : Nat) (x : Value), Frm (fun i => i = p) w (w.setCell ⟨p, i, none⟩ x) := fun i x => (Frm.refl _ w).setCell _ _ (fun _ => rfl)
  have HF := Lib.hid hfr
  clear hfr
  by_cases hb : d.blown = true
  · rw [hb] at c3
    have hD : Hid (spendD d = ({ d with blown := true }, 91)) := by unfold spendD; rw [if_pos (.inl hb)]; exact Lib.hid rfl
    clear hb
    go_enter Try.func41, Try.ntmps41
    go_wp2
    go_ret
    rw [hD.out]
    exact ⟨rfl, H.out.turned true d.fuse hf0 hf1 _ HS3.out (HF.out 3 _), HF.out 3 _⟩
  · have hb' : d.blown = false := by simpa using hb
    rw [hb'] at c3
    by_cases h0 : d.fuse = 0
    · have hD : Hid (spendD d = ({ d with blown := true }, 91)) := by unfold spendD; rw [if_pos (.inr h0)]; exact Lib.hid rfl
      have h0' : (d.fuse == 0) = true := by simpa using h0
      have H0 := Lib.hid h0
      clear hb hb' h0
      go_enter Try.func41, Try.ntmps41
      go_wp2
      go_ret
      rw [hD.out]
      exact ⟨rfl, H.out.turned true d.fuse hf0 hf1 _ HS3.out (HF.out 3 _), HF.out 3 _⟩
    · have h0' : (d.fuse == 0) = false := by simpa using h0
      by_cases h1 : 0 < d.fuse
      · have hD : Hid (spendD d = ({ d with fuse := d.fuse - 1 }, 0)) := by unfold spendD; rw [if_neg (by simp [hb', h0]), if_pos h1]; exact Lib.hid rfl
        have Hb := Lib.hid hb'
        clear hb hb' h0
        go_enter Try.func41, Try.ntmps41
        go_wp2
        go_ret
        rw [hD.out]
        have := H.out.turned d.blown (d.fuse - 1) (by omega) (by omega) _ (by rw [HS2.out]; simp) (HF.out 2 _)
        exact ⟨rfl, this, HF.out 2 _⟩
      · have hD : Hid (spendD d = (d, 0)) := by unfold spendD; rw [if_neg (by simp [hb', h0]), if_neg h1]; exact Lib.hid rfl
        clear hb hb' h0
        go_enter Try.func41, Try.ntmps41
        go_wp2
        go_ret
        rw [hD.out]
        exact ⟨rfl, H.out, Frm.refl _ _⟩
theorem fuse_any (w : World) (base p g : Nat) (v : Value) (d : DiskS) (n : Int) (h : IsDisk w base p g v d) (hn0 : -9223372036854775808 ≤ n) (hn1 : n ≤ 9223372036854775807) :
    Calls Try.prog 30 #[.pointer (some ⟨p, 0, none⟩), .int .i64 n] w fun e w' => e = .returned (.tuple #[]) ∧ IsDisk w' base p g v { d with fuse := n } ∧ Frm (fun i => i = p) w w' := by
  have c2 := cell_blk (i := 2) h.head rfl
  have z2 := frozen_blk 2 h.head
  have HS2 := Lib.hid (blk_set 2 (.int .i64 n) h.head)
  have H := Lib.hid h
  clear h
  have HF := Lib.hid ((Frm.refl (fun i => i = p) w).setCell ⟨p, 2, none⟩ (.int .i64 n) (fun _ => rfl))
  go_enter Try.func30, Try.ntmps30
  go_wp2
  go_end0
  exact ⟨rfl, H.out.turned d.blown n hn0 hn1 _ HS2.out HF.out, HF.out⟩
theorem blocks_any (w : World) (base p g : Nat) (v : Value) (d : DiskS) (h : IsDisk w base p g v d) :
    Calls Try.prog 31 #[.pointer (some ⟨p, 0, none⟩)] w fun e w' => e = .returned (.int .i64 (d.safe.length : Int)) ∧ w' = w := by
  have c0 := cell_blk (i := 0) h.head rfl
  clear h
  go_enter Try.func31, Try.ntmps31
  go_wp2
  go_ret
  exact ⟨rfl, rfl⟩
end Go.Proofs.Ythmdmbgjheploaa
