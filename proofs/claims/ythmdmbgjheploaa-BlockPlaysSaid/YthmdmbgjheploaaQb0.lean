/- Texts of this claim's proof: small lemmas, walks and plain laws (merged by wip/shake.py). -/
import Derived.Test.YthmdmbgjheploaaProg
import Derived.Below
import Derived.OwnWalk
import Derived.Tactics
import Derived.WalkKit
import Derived.KernelRfl
import Derived.RowKit3
import Derived.Deep.LoopGhost
import Derived.Deep.QuietTactic
import Derived.BigQuiet
import Derived.WideLaws
import Derived.Deep.DeepCutAuto
import Derived.Laws.Rows
import Derived.Laws.OwnMore
import Derived.Lib.AppendStr
import Derived.Lib.Hide
import Derived.WalkSpells
import Derived.WalkSmall
import Derived.Maps.AppendAt
import Derived.Deep.AppendLies
import Derived.Outline
import Derived.Deep.OwnRows
import Derived.RangeFuncBox
import Derived.RangeFuncLeaves
import Derived.RangeFuncFrom
import Derived.RangeFuncNested
import Derived.RangeFuncWrites
import Derived.Shelf.Abstract
import Derived.OwnWalkIn
import Derived.TacticsInMore
import Derived.LoopNIn
import Derived.LoopIn
import Derived.RegionIn
import Derived.Deep.Slices
import Derived.ChangeArms
import Derived.SizedLaws
import Derived.OpenShut
set_option linter.unusedVariables false
set_option linter.unusedSimpArgs false
namespace Go.Proofs.Ythmdmbgjheploaa
open Go.RowKit
theorem cell_blk {w : World} {g : Nat} {A : Array Value} {t : TypeId} {i : Nat} {v : Value} (h : w.heap[g]? = some (.cells A t (0, 0))) (hv : A[i]? = some v) : w.cell? ⟨g, i, none⟩ = some v := by
  simp [World.cell?, h, hv]
theorem frozen_blk {w : World} {g : Nat} {A : Array Value} {t : TypeId} (i : Nat) (h : w.heap[g]? = some (.cells A t (0, 0))) : w.frozen? ⟨g, i, none⟩ = false := by
  simp [World.frozen?, h]
theorem bk_set {w : World} {g : Nat} {A : Array Value} {t : TypeId} (i : Nat) (v : Value) (h : w.heap[g]? = some (.cells A t (0, 0))) : (w.setCell ⟨g, i, none⟩ v).heap[g]? = some (.cells (A.setIfInBounds i v) t (0, 0)) := by
  simp only [World.setCell]
  rw [Array.getElem?_modify]
  simp [h]
theorem blk_set_other {w : World} {g k : Nat} {o : Obj} (i : Nat) (v : Value) (hne : k ≠ g) (h : w.heap[k]? = some o) : (w.setCell ⟨g, i, none⟩ v).heap[k]? = some o := by
  simp only [World.setCell]
  rw [Array.getElem?_modify]
  rw [if_neg (fun e => hne e.symm)]
  exact h
theorem bk_alloc {w : World} {k : Nat} {o : Obj} (o' : Obj) (h : w.heap[k]? = some o) : (w.alloc o').heap[k]? = some o := (Below.heap_alloc _ _ _ (Array.getElem?_eq_some_iff.1 h).1).trans h
theorem bk_new (w : World) (o : Obj) : (w.alloc o).heap[w.heap.size]? = some o := heap_alloc_new w o
theorem bk_drew {w : World} {k : Nat} {o : Obj} (h : w.heap[k]? = some o) : w.drew.heap[k]? = some o := h
theorem bk_lt {w : World} {k : Nat} {o : Obj} (h : w.heap[k]? = some o) : k < w.heap.size := (Array.getElem?_eq_some_iff.1 h).1
/-- what a call may have turned: the blocks of S alone, and new ones -/
structure Frm (S : Nat → Prop) (w w' : World) : Prop where
  os : w'.os = w.os
  tape : w'.tape = w.tape
  output : w'.output = w.output
  size : w.heap.size ≤ w'.heap.size
  block : ∀ i, i < w.heap.size → ¬ S i → w'.heap[i]? = w.heap[i]?
theorem Frm.refl (S : Nat → Prop) (w : World) : Frm S w w := ⟨rfl, rfl, rfl, Nat.le_refl _, fun _ _ _ => rfl⟩
theorem Frm.trans {S T : Nat → Prop} {a b c : World} (h : Frm S a b) (k : Frm T b c) (hT : ∀ i, i < a.heap.size → T i → S i) : Frm S a c :=
  ⟨k.os.trans h.os, k.tape.trans h.tape, k.output.trans h.output, Nat.le_trans h.size k.size, fun i hi hs => (k.block i (Nat.lt_of_lt_of_le hi h.size) (fun ht => hs (hT i hi ht))).trans (h.block i hi hs)⟩
theorem Frm.mono {S T : Nat → Prop} {a b : World} (h : Frm S a b) (hT : ∀ i, i < a.heap.size → S i → T i) : Frm T a b := ⟨h.os, h.tape, h.output, h.size, fun i hi hs => h.block i hi (fun k => hs (hT i hi k))⟩
theorem Frm.of_below {S : Nat → Prop} {a b : World} (h : Below a.heap.size a b) : Frm S a b := ⟨h.os, h.tape, h.output, h.size, fun i hi _ => h.block i hi⟩
theorem Frm.below {S : Nat → Prop} {B : Nat} {a b : World} (h : Frm S a b) (hB : B ≤ a.heap.size) (hS : ∀ i, i < B → ¬ S i) : Below B a b := ⟨h.os, h.tape, h.output, h.size, fun i hi => h.block i (Nat.lt_of_lt_of_le hi hB) (hS i hi)⟩
theorem Frm.blk {S : Nat → Prop} {a b : World} {k : Nat} {o : Obj} (h : Frm S a b) (hs : ¬ S k) (ho : a.heap[k]? = some o) : b.heap[k]? = some o := (h.block k (bk_lt ho) hs).trans ho
theorem Frm.drew {S : Nat → Prop} {a b : World} (h : Frm S a b) : Frm S a b.drew := ⟨h.os, h.tape, h.output, h.size, h.block⟩
theorem Frm.drewN {S : Nat → Prop} {a b : World} (h : Frm S a b) (n : Nat) : Frm S a (b.drewN n) := ⟨h.os, h.tape, h.output, h.size, h.block⟩
theorem Frm.alloc {S : Nat → Prop} {a b : World} (h : Frm S a b) (o : Obj) : Frm S a (b.alloc o) :=
  h.trans (Frm.of_below ((Below.refl _ b).alloc (Nat.le_refl _) o) : Frm S b (b.alloc o)) (fun _ _ k => k)
theorem Frm.setCell {S : Nat → Prop} {a b : World} (h : Frm S a b) (x : Addr) (v : Value) (hs : x.block < a.heap.size → S x.block) : Frm S a (b.setCell x v) :=
  ⟨h.os, h.tape, h.output, by simpa [World.setCell] using h.size, fun i hi hn => by
    have hne : i ≠ x.block := fun e => hn (e ▸ hs (e ▸ hi))
    exact (Below.heap_setCell b x v i hne).trans (h.block i hi hn)⟩
theorem Frm.grown {S : Nat → Prop} {a b c : World} {row : Option Nat} (h : Frm S a b) (hg : b.grownBy c row) (hr : ∀ k, row = some k → k < a.heap.size → S k) : Frm S a c :=
  ⟨hg.os.trans h.os, hg.tape.trans h.tape, hg.output.trans h.output, Nat.le_trans h.size hg.size, fun i hi hn => (hg.block i (Nat.lt_of_lt_of_le hi h.size) (fun e => hn (hr i e.symm hi))).trans (h.block i hi hn)⟩
/-- a row that is owned stays so where its block is not turned -/
theorem owns_frm {S : Nat → Prop} {a b : World} {base e size n : Nat} {v : Value} {xs : List Value} (h : a.ownsRow base e size v n xs) (hf : Frm S a b) (hs : ∀ k, v.ownBlock = some k → ¬ S k) : b.ownsRow base e size v n xs := by
  refine ⟨h.1, ?_⟩
  rcases h.2 with h0 | ⟨g, cap, cur, rfl, hb, hh, hrest⟩
  · exact .inl h0
  · exact .inr ⟨g, cap, cur, rfl, hb, hf.blk (hs g rfl) hh, hrest⟩
/-- what is owned and not empty is no nil slice -/
theorem owns_succ {w : World} {base e size n : Nat} {v : Value} {xs : List Value} (h : w.ownsRow base e size v (n + 1) xs) : ∃ g cap, v = .slice (some ⟨g, 0, none⟩) (n + 1) cap := by
  rcases h.2 with ⟨_, h0⟩ | ⟨g, cap, cur, rfl, _⟩
  · omega
  · exact ⟨g, cap, rfl⟩
end Go.Proofs.Ythmdmbgjheploaa
set_option linter.unusedVariables false
set_option linter.unusedSimpArgs false
namespace Go.Proofs.Ythmdmbgjheploaa
open Go.RowKit
structure DiskS where
  safe : List ByteArray
  late : List (Int × ByteArray)
  fuse : Int
  blown : Bool
def lateCells (l : List (Int × ByteArray)) : List Value := l.flatMap fun x => [.int .i64 x.1, .string x.2]
theorem lateCells_snoc (l : List (Int × ByteArray)) (x : Int × ByteArray) : lateCells (l ++ [x]) = lateCells l ++ [.int .i64 x.1, .string x.2] := by simp [lateCells]
/-- the disk at block p: its safe blocks at block g, its late ones in v -/
structure IsDisk (w : World) (base p g : Nat) (v : Value) (d : DiskS) : Prop where
  head : w.heap[p]? = some (.cells #[.slice (some ⟨g, 0, none⟩) d.safe.length d.safe.length, v, .int .i64 d.fuse, .bool d.blown] 54 (0, 0))
  safe : w.heap[g]? = some (.cells (d.safe.map Value.string).toArray 9 (0, 0))
  late : w.ownsRow base 78 2 v d.late.length (lateCells d.late)
  bp : base ≤ p
  bg : base ≤ g
  n0 : 0 < d.safe.length
  n1 : d.safe.length ≤ 4096
  l1 : d.late.length ≤ 1000000
  at_ : ∀ x ∈ d.late, 0 ≤ x.1 ∧ x.1 < d.safe.length
  f0 : -9223372036854775808 ≤ d.fuse
  f1 : d.fuse ≤ 9223372036854775807
def DSet (p g : Nat) (v : Value) : Nat → Prop := fun i => i = p ∨ i = g ∨ v.ownBlock = some i
theorem IsDisk.frm {S : Nat → Prop} {w w' : World} {base p g : Nat} {v : Value} {d : DiskS} (h : IsDisk w base p g v d) (hf : Frm S w w') (hS : ∀ i, DSet p g v i → ¬ S i) : IsDisk w' base p g v d :=
  { h with head := hf.blk (hS p (.inl rfl)) h.head, safe := hf.blk (hS g (.inr (.inl rfl))) h.safe, late := owns_frm h.late hf (fun k hk => hS k (.inr (.inr hk))) }
/-- the three kinds of a disk's blocks: another block is none of them -/
theorem IsDisk.apart {w : World} {base p g : Nat} {v : Value} {d : DiskS} (h : IsDisk w base p g v d) {k : Nat} {A : Array Value} {t : TypeId} (hk : w.heap[k]? = some (.cells A t (0, 0))) (h1 : t ≠ 54) (h2 : t ≠ 9) (h3 : t ≠ 78) : ¬ DSet p g v k := by
  rintro (rfl | rfl | h4)
  · have := h.head; rw [hk] at this; injection this with this; injection this with _ this; exact h1 this
  · have := h.safe; rw [hk] at this; injection this with this; injection this with _ this; exact h2 this
  · rcases h.late.2 with ⟨rfl, _⟩ | ⟨g', cap, cur, rfl, _, hh, _⟩
    · simp [Value.ownBlock] at h4
    · have : g' = k := by simpa [Value.ownBlock] using h4
      subst this
      rw [hk] at hh; injection hh with hh; injection hh with _ hh; exact h3 hh
theorem IsDisk.pg {w : World} {base p g : Nat} {v : Value} {d : DiskS} (h : IsDisk w base p g v d) : p ≠ g := by
  rintro rfl
  have h1 := h.head; rw [h.safe] at h1; injection h1 with h1; injection h1 with _ h1; exact absurd h1 (by decide)
theorem IsDisk.vp {w : World} {base p g : Nat} {v : Value} {d : DiskS} (h : IsDisk w base p g v d) : v.ownBlock ≠ some p ∧ v.ownBlock ≠ some g := by
  rcases h.late.2 with ⟨rfl, _⟩ | ⟨g', cap, cur, rfl, _, hh, _⟩
  · simp [Value.ownBlock]
  · constructor
    · intro e
      have : g' = p := by simpa [Value.ownBlock] using e
      subst this
      rw [h.head] at hh; injection hh with hh; injection hh with _ hh; exact absurd hh (by decide)
    · intro e
      have : g' = g := by simpa [Value.ownBlock] using e
      subst this
      rw [h.safe] at hh; injection hh with hh; injection hh with _ hh; exact absurd hh (by decide)
theorem IsDisk.lt {w : World} {base p g : Nat} {v : Value} {d : DiskS} (h : IsDisk w base p g v d) : ∀ i, DSet p g v i → i < w.heap.size := by
  rintro i (rfl | rfl | h4)
  · exact bk_lt h.head
  · exact bk_lt h.safe
  · rcases h.late.2 with ⟨rfl, _⟩ | ⟨g', cap, cur, rfl, _, hh, _⟩
    · simp [Value.ownBlock] at h4
    · have : g' = i := by simpa [Value.ownBlock] using h4
      subst this
      exact bk_lt hh
theorem IsDisk.vslice {w : World} {base p g : Nat} {v : Value} {d : DiskS} (h : IsDisk w base p g v d) : ∃ A c, v = .slice A d.late.length c := by
  rcases h.late.2 with ⟨rfl, h0⟩ | ⟨g', cap, cur, rfl, _⟩
  · exact ⟨none, 0, by rw [h0]⟩
  · exact ⟨_, _, rfl⟩
def spendD (d : DiskS) : DiskS × Int := if d.blown = true ∨ d.fuse = 0 then ({ d with blown := true }, 91) else if 0 < d.fuse then ({ d with fuse := d.fuse - 1 }, 0) else (d, 0)
theorem IsDisk.turned {w : World} {base p g : Nat} {v : Value} {d : DiskS} (h : IsDisk w base p g v d) (b : Bool) (f : Int) (hf0 : -9223372036854775808 ≤ f) (hf1 : f ≤ 9223372036854775807) (w' : World)
    (hh : w'.heap[p]? = some (.cells #[.slice (some ⟨g, 0, none⟩) d.safe.length d.safe.length, v, .int .i64 f, .bool b] 54 (0, 0))) (hf : Frm (fun i => i = p) w w') : IsDisk w' base p g v { d with fuse := f, blown := b } :=
  { h with head := hh, safe := hf.blk (fun e => h.pg e.symm) h.safe, late := owns_frm h.late hf (fun k hk e => h.vp.1 (by rw [hk, e])), f0 := hf0, f1 := hf1 }
theorem eq_nil (W : World) (a : Option Addr) (n c : Nat) : (binOp .eql 45 (.slice a n c) (.slice none 0 0)).run Try.prog W = .ok (.bool a.isNone) W := Lib.run_eql_slice_nil W 45 9 a n c 0 0 Try.underlying45
theorem ne_nil (W : World) (a : Option Addr) (n c : Nat) : (binOp .neq 45 (.slice a n c) (.slice none 0 0)).run Try.prog W = .ok (.bool (!a.isNone)) W := run_neq_slice_nil_any W 45 9 a n c 0 0 Try.underlying45
set_option maxHeartbeats 1600000 in
theorem spend_any (w : World) (base p g : Nat) (v : Value) (d : DiskS) (h : IsDisk w base p g v d) :
    Calls Try.prog 41 #[.pointer (some ⟨p, 0, none⟩)] w fun e w' => e = .returned (.int .i64 (spendD d).2) ∧ IsDisk w' base p g v (spendD d).1 ∧ Frm (fun i => i = p) w w' := by
  have kn := eq_nil
  have c0 := cell_blk (i := 0) h.head rfl
  have c2 := cell_blk (i := 2) h.head rfl
  have c3 := cell_blk (i := 3) h.head rfl
  have z2 := frozen_blk 2 h.head
  have z3 := frozen_blk 3 h.head
  have hf0 := h.f0
  have hf1 := h.f1
  have HS3 := Lib.hid (bk_set 3 (.bool true) h.head)
  have HS2 := Lib.hid (bk_set 2 (.int .i64 (d.fuse - 1)) h.head)
  have H := Lib.hid h
  clear h
  have hfr : ∀ (i : Nat) (x : Value), Frm (fun i => i = p) w (w.setCell ⟨p, i, none⟩ x) := fun i x => (Frm.refl _ w).setCell _ _ (fun _ => rfl)
  have HF := Lib.hid hfr
  clear hfr
  by_cases hb : d.blown = true
  · rw [hb] at c3
    have hD : Hid (spendD d = ({ d with blown := true }, 91)) := by unfold spendD; rw [if_pos (.inl hb)]; exact Lib.hid rfl
    clear hb
    go_enter Try.func41, Try.ntmps41
    go_wp2
    go_ret
    rw [hD.out]
    exact ⟨rfl, H.out.turned true d.fuse hf0 hf1 _ HS3.out (HF.out 3 _), HF.out 3 _⟩
  · have hb' : d.blown = false := by simpa using hb
    rw [hb'] at c3
    by_cases h0 : d.fuse = 0
    · have hD : Hid (spendD d = ({ d with blown := true }, 91)) := by unfold spendD; rw [if_pos (.inr h0)]; exact Lib.hid rfl
      have h0' : (d.fuse == 0) = true := by simpa using h0
      have H0 := Lib.hid h0
      clear hb hb' h0
      go_enter Try.func41, Try.ntmps41
      go_wp2
      go_ret
      rw [hD.out]
      exact ⟨rfl, H.out.turned true d.fuse hf0 hf1 _ HS3.out (HF.out 3 _), HF.out 3 _⟩
    · have h0' : (d.fuse == 0) = false := by simpa using h0
      by_cases h1 : 0 < d.fuse
      · have hD : Hid (spendD d = ({ d with fuse := d.fuse - 1 }, 0)) := by unfold spendD; rw [if_neg (by simp [hb', h0]), if_pos h1]; exact Lib.hid rfl
        have Hb := Lib.hid hb'
        clear hb hb' h0
        go_enter Try.func41, Try.ntmps41
        go_wp2
        go_ret
        rw [hD.out]
        have := H.out.turned d.blown (d.fuse - 1) (by omega) (by omega) _ (by rw [HS2.out]; simp) (HF.out 2 _)
        exact ⟨rfl, this, HF.out 2 _⟩
      · have hD : Hid (spendD d = (d, 0)) := by unfold spendD; rw [if_neg (by simp [hb', h0]), if_neg h1]; exact Lib.hid rfl
        clear hb hb' h0
        go_enter Try.func41, Try.ntmps41
        go_wp2
        go_ret
        rw [hD.out]
        exact ⟨rfl, H.out, Frm.refl _ _⟩
theorem fuse_any (w : World) (base p g : Nat) (v : Value) (d : DiskS) (n : Int) (h : IsDisk w base p g v d) (hn0 : -9223372036854775808 ≤ n) (hn1 : n ≤ 9223372036854775807) :
    Calls Try.prog 30 #[.pointer (some ⟨p, 0, none⟩), .int .i64 n] w fun e w' => e = .returned (.tuple #[]) ∧ IsDisk w' base p g v { d with fuse := n } ∧ Frm (fun i => i = p) w w' := by
  have c2 := cell_blk (i := 2) h.head rfl
  have z2 := frozen_blk 2 h.head
  have HS2 := Lib.hid (bk_set 2 (.int .i64 n) h.head)
  have H := Lib.hid h
  clear h
  have HF := Lib.hid ((Frm.refl (fun i => i = p) w).setCell ⟨p, 2, none⟩ (.int .i64 n) (fun _ => rfl))
  go_enter Try.func30, Try.ntmps30
  go_wp2
  go_end0
  exact ⟨rfl, H.out.turned d.blown n hn0 hn1 _ HS2.out HF.out, HF.out⟩
theorem blocks_any (w : World) (base p g : Nat) (v : Value) (d : DiskS) (h : IsDisk w base p g v d) :
    Calls Try.prog 31 #[.pointer (some ⟨p, 0, none⟩)] w fun e w' => e = .returned (.int .i64 (d.safe.length : Int)) ∧ w' = w := by
  have c0 := cell_blk (i := 0) h.head rfl
  clear h
  go_enter Try.func31, Try.ntmps31
  go_wp2
  go_ret
  exact ⟨rfl, rfl⟩
end Go.Proofs.Ythmdmbgjheploaa
set_option linter.unusedVariables false
set_option linter.unusedSimpArgs false
namespace Go.Proofs.Ythmdmbgjheploaa
open Go.RowKit
def wrD (d : DiskS) (i : Int) (s : ByteArray) : DiskS × Int :=
  if d.blown = false ∧ ¬ (0 ≤ i ∧ i < d.safe.length ∧ s.size ≤ 256) then (d, 90)
  else if (spendD d).2 = 0 then ({ (spendD d).1 with late := (spendD d).1.late ++ [(i, s)] }, 0) else spendD d
theorem spendD_safe (d : DiskS) : (spendD d).1.safe = d.safe ∧ (spendD d).1.late = d.late := by
  unfold spendD
  split
  · exact ⟨rfl, rfl⟩
  · split <;> exact ⟨rfl, rfl⟩
theorem spendD_val (d : DiskS) : (spendD d).2 = 0 ∨ (spendD d).2 = 91 := by
  unfold spendD
  split
  · exact .inr rfl
  · split <;> exact .inl rfl
theorem Try.infoW : (Try.prog.info? 78).map (fun i => (i.zero, i.size, i.bytes)) = some (some (.agg #[.int .i64 0, .string ⟨#[]⟩]), 2, 24) := by kernel_rfl
/-- the disk behind a write that is taken -/
theorem IsDisk.wrote {w w' : World} {base p g : Nat} {v v' : Value} {d : DiskS} {i : Int} {s : ByteArray} (h : IsDisk w base p g v d) (h1 : d.late.length < 1000000) (hi : 0 ≤ i ∧ i < d.safe.length)
    (hh : w'.heap[p]? = some (.cells #[.slice (some ⟨g, 0, none⟩) d.safe.length d.safe.length, v', .int .i64 d.fuse, .bool d.blown] 54 (0, 0)))
    (hg : w'.heap[g]? = some (.cells (d.safe.map Value.string).toArray 9 (0, 0)))
    (hl : w'.ownsRow base 78 2 v' (d.late.length + 1) (lateCells d.late ++ [.int .i64 i, .string s])) : IsDisk w' base p g v' { d with late := d.late ++ [(i, s)] } :=
  { head := hh, safe := hg, late := by simpa [lateCells_snoc] using hl, bp := h.bp, bg := h.bg, n0 := h.n0, n1 := h.n1, l1 := by simp; omega, f0 := h.f0, f1 := h.f1,
    at_ := by
      intro x hx
      rcases List.mem_append.1 hx with hx | hx
      · exact h.at_ x hx
      · rw [List.mem_singleton] at hx; subst hx; exact hi }
/-- what a call on a disk leaves: its answer, the disk behind it, and that nothing else was turned -/
def DPost (w : World) (base p g : Nat) (v : Value) (r : Value) (d : DiskS) (e : Ending) (w' : World) : Prop :=
  ∃ v', e = .returned r ∧ IsDisk w' base p g v' d ∧ Frm (DSet p g v) w w' ∧ (∀ k, v'.ownBlock = some k → v.ownBlock = some k ∨ w.heap.size ≤ k)
set_option maxHeartbeats 1600000 in
theorem write_any (w : World) (base p g : Nat) (v : Value) (d : DiskS) (i : Int) (s : ByteArray) (h : IsDisk w base p g v d) (hs : s.size ≤ 140737488351232) (hl : d.late.length < 1000000) :
    Calls Try.prog 26 #[.pointer (some ⟨p, 0, none⟩), .int .i64 i, .string s] w (DPost w base p g v (.int .i64 (wrD d i s).2) (wrD d i s).1) := by
  have kn := ne_nil
  have c0 := cell_blk (i := 0) h.head rfl
  have c3 := cell_blk (i := 3) h.head rfl
  have n0 := h.n0
  have n1 := h.n1
  have H := Lib.hid h
  clear h
  by_cases hbad : d.blown = false ∧ ¬ (0 ≤ i ∧ i < d.safe.length ∧ s.size ≤ 256)
  · have hD : Hid (wrD d i s = (d, 90)) := by unfold wrD; rw [if_pos hbad]; exact Lib.hid rfl
    obtain ⟨hb, hbad⟩ := hbad
    rw [hb] at c3
    clear hb
    by_cases h1 : i < 0
    · clear hbad
      go_enter Try.func26, Try.ntmps26
      go_wp2
      go_ret
      rw [hD.out]
      exact ⟨v, rfl, H.out, Frm.refl _ _, fun k hk => .inl hk⟩
    · by_cases h2 : i < d.safe.length
      · have h3 : 256 < (s.size : Int) := by omega
        clear hbad
        go_enter Try.func26, Try.ntmps26
        go_wp2
        go_ret
        rw [hD.out]
        exact ⟨v, rfl, H.out, Frm.refl _ _, fun k hk => .inl hk⟩
      · clear hbad
        go_enter Try.func26, Try.ntmps26
        go_wp2
        go_ret
        rw [hD.out]
        exact ⟨v, rfl, H.out, Frm.refl _ _, fun k hk => .inl hk⟩
  · by_cases hb : d.blown = true
    · have h91 : (spendD d).2 = 91 := by unfold spendD; rw [if_pos (.inl hb)]
      have hD : Hid (wrD d i s = spendD d) := by unfold wrD; rw [if_neg hbad, if_neg (by rw [h91]; decide)]; exact Lib.hid rfl
      have hs1 := Lib.hid (spend_any w base p g v d H.out)
      rw [h91] at hs1
      have h91' := Lib.hid h91
      rw [hb] at c3
      clear hbad hb h91
      go_enter Try.func26, Try.ntmps26
      go_wp2_with fail
      refine hs1.out.mono ?_
      rintro e w1 ⟨rfl, hd1, hf1⟩
      have hd1' := Lib.hid hd1
      clear hd1
      go_wp2
      go_ret
      rw [hD.out, h91'.out]
      exact ⟨v, rfl, hd1'.out, hf1.mono (fun k _ hk => .inl hk), fun k hk => .inl hk⟩
    · have hb' : d.blown = false := by simpa using hb
      have hgood : 0 ≤ i ∧ i < d.safe.length ∧ s.size ≤ 256 := by
        by_cases hg : 0 ≤ i ∧ i < d.safe.length ∧ s.size ≤ 256
        · exact hg
        · exact absurd ⟨hb', hg⟩ hbad
      obtain ⟨hg0, hg1, hg2⟩ := hgood
      rcases spendD_val d with h0 | h91
      · have hD : Hid (wrD d i s = ({ (spendD d).1 with late := (spendD d).1.late ++ [(i, s)] }, 0)) := by unfold wrD; rw [if_neg hbad, if_pos h0]; exact Lib.hid rfl
        have hs1 := Lib.hid (spend_any w base p g v d H.out)
        rw [h0] at hs1
        have hsf := Lib.hid (spendD_safe d)
        rw [hb'] at c3
        clear hbad hb h0 hb'
        obtain ⟨i0, hi, hz0, hz1, hz2⟩ := info_parts Try.infoW
        go_enter Try.func26, Try.ntmps26
        go_wp2_with fail
        refine hs1.out.mono ?_
        rintro e w1 ⟨rfl, hd1, hf1⟩
        generalize hd2 : (spendD d).1 = d1 at *
        have hd2' := Lib.hid hd2
        clear hd2
        have hl1 : d1.late.length ≤ 1000000 := hd1.l1
        have hbp := hd1.bp
        have hlt := bk_lt hd1.head
        have c1 := cell_blk (i := 1) hd1.head rfl
        have hown := hd1.late
        have hd1' := Lib.hid hd1
        have hvs := Lib.hid hd1.vslice
        clear hd1
        go_wp2_with (at_builtin; refine wpList_append_own_at _ rfl (.tmp 51) (.tmp 55) 52 rfl base 78 i0 _ 2 24 Try.underlying52 hi hz0 hz1 hz2 rfl (by decide) _ _ _ rfl (hown.alloc _) ⟨w1.heap.size, 0, none⟩ 1 1 [.int .i64 i, .string s] rfl rfl ?c1 ?c2 ?c3 ?c4 ?c5 ?_)
        case c1 => exact fun j u hu => World.news_of_block (heap_alloc_new w1 _) j u (by simpa using hu)
        case c2 =>
          intro u hu
          simp at hu
          rcases hu with rfl | rfl <;> rfl
        case c3 => unfold maxLen; omega
        case c4 => omega
        case c5 => simp; omega
        · intro v' w2 hown' hgrow _ hat
          have hp2 : w2.heap[p]? = some (.cells #[.slice (some ⟨g, 0, none⟩) d1.safe.length d1.safe.length, v, .int .i64 d1.fuse, .bool d1.blown] 54 (0, 0)) := (hgrow.block p (by simp; omega) (fun e => hd1'.out.vp.1 e.symm)).trans (bk_alloc _ hd1'.out.head)
          have hg2 : w2.heap[g]? = some (.cells (d1.safe.map Value.string).toArray 9 (0, 0)) := (hgrow.block g (by have := bk_lt hd1'.out.safe; simp; omega) (fun e => hd1'.out.vp.2 e.symm)).trans (bk_alloc _ hd1'.out.safe)
          have c1' := cell_blk (i := 1) hp2 rfl
          have z1' := frozen_blk 1 hp2
          have hset := Lib.hid (bk_set 1 v' hp2)
          have hgs := Lib.hid (blk_set_other (g := p) 1 v' (fun e => hd1'.out.pg e.symm) hg2)
          have hfin : Hid (Frm (DSet p g v) w (w2.setCell ⟨p, 1, none⟩ v')) := by
            refine Lib.hid (Frm.setCell (((hf1.mono (fun k _ hk => .inl hk)).alloc _).grown hgrow ?_) _ _ (fun _ => .inl rfl))
            exact fun k hk _ => .inr (.inr hk)
          have hat' : Hid (∀ k, v'.ownBlock = some k → v.ownBlock = some k ∨ w.heap.size ≤ k) := by
            refine Lib.hid ?_
            intro k hk
            rcases hat with h | h
            · exact .inl (by rw [← h]; exact hk)
            · rw [h] at hk
              injection hk with hk
              have := hf1.size
              exact .inr (by omega)
          have hown3 : Hid ((w2.setCell ⟨p, 1, none⟩ v').ownsRow base 78 2 v' (d1.late.length + 1) (lateCells d1.late ++ [.int .i64 i, .string s])) := by
            refine Lib.hid (owns_frm (S := fun k => k = p) hown' ((Frm.refl _ w2).setCell _ _ (fun _ => rfl)) ?_)
            rintro k hk rfl
            rcases hown'.2 with ⟨rfl, h0⟩ | ⟨g', cap, cur, rfl, _, hh, _⟩
            · simp [Value.ownBlock] at hk
            · have : g' = k := by simpa [Value.ownBlock] using hk
              subst this
              rw [hp2] at hh; injection hh with hh; injection hh with _ hh; exact absurd hh (by decide)
          clear hat hgrow hp2 hg2
          obtain ⟨g', cap', rfl⟩ := owns_succ hown'
          clear hown' hown
          go_wp2
          go_ret
          rw [hD.out]
          have hsafe := hsf.out
          refine ⟨_, rfl, hd1'.out.wrote (by rw [hsafe.2]; exact hl) ⟨hg0, by rw [hsafe.1]; exact hg1⟩ ?_ hgs.out hown3.out, hfin.out, hat'.out⟩
          rw [hset.out]
          rfl
      · have hD : Hid (wrD d i s = spendD d) := by unfold wrD; rw [if_neg hbad, if_neg (by rw [h91]; decide)]; exact Lib.hid rfl
        have hs1 := Lib.hid (spend_any w base p g v d H.out)
        rw [h91] at hs1
        have h91' := Lib.hid h91
        rw [hb'] at c3
        clear hbad hb h91 hb'
        go_enter Try.func26, Try.ntmps26
        go_wp2_with fail
        refine hs1.out.mono ?_
        rintro e w1 ⟨rfl, hd1, hf1⟩
        have hd1' := Lib.hid hd1
        clear hd1
        go_wp2
        go_ret
        rw [hD.out, h91'.out]
        exact ⟨v, rfl, hd1'.out, hf1.mono (fun k _ hk => .inl hk), fun k hk => .inl hk⟩
end Go.Proofs.Ythmdmbgjheploaa
set_option linter.unusedVariables false
set_option linter.unusedSimpArgs false
namespace Go.Proofs.Ythmdmbgjheploaa
open Go.RowKit
/-- what is late, in order, those that are kept -/
def keepD (kept : Nat → Bool) (safe : List ByteArray) (l : List (Int × ByteArray)) (k : Nat) : List ByteArray :=
  match l with
  | [] => safe
  | x :: l => keepD kept (if kept k = true then safe.set x.1.toNat x.2 else safe) l (k + 1)
theorem keepD_snoc (kept : Nat → Bool) (l : List (Int × ByteArray)) (x : Int × ByteArray) : ∀ (safe : List ByteArray) (k : Nat), keepD kept safe (l ++ [x]) k = (if kept (k + l.length) = true then (keepD kept safe l k).set x.1.toNat x.2 else keepD kept safe l k) := by
  induction l with
  | nil => intro safe k; simp [keepD]
  | cons y l ih =>
    intro safe k
    simp only [List.cons_append, keepD, ih, List.length_cons]
    rw [show k + 1 + l.length = k + (l.length + 1) by omega]
theorem keepD_length (kept : Nat → Bool) (l : List (Int × ByteArray)) : ∀ (safe : List ByteArray) (k : Nat), (keepD kept safe l k).length = safe.length := by
  induction l with
  | nil => intro safe k; rfl
  | cons y l ih =>
    intro safe k
    simp only [keepD, ih]
    split <;> simp
def syncD (d : DiskS) : DiskS × Int :=
  if (spendD d).2 = 0 then ({ (spendD d).1 with safe := keepD (fun _ => true) (spendD d).1.safe (spendD d).1.late 0, late := [] }, 0) else spendD d
theorem lateCells_get (l : List (Int × ByteArray)) (k : Nat) (h : k < l.length) : (lateCells l)[k * 2]? = some (.int .i64 (l[k]).1) ∧ (lateCells l)[k * 2 + 1]? = some (.string (l[k]).2) := by
  induction l generalizing k with
  | nil => simp at h
  | cons x l ih =>
    cases k with
    | zero => simp [lateCells]
    | succ k =>
      have := ih k (by simpa using h)
      simp only [lateCells, List.flatMap_cons] at this ⊢
      rw [show (k + 1) * 2 = 2 + k * 2 by omega]
      constructor
      · rw [List.getElem?_append_right (by simp)]; simpa using this.1
      · rw [List.getElem?_append_right (by simp; omega)]; simpa [show 2 + k * 2 + 1 - 2 = k * 2 + 1 by omega] using this.2
/-- a late one's two cells -/
theorem IsDisk.lateAt {w : World} {base p g : Nat} {v : Value} {d : DiskS} (h : IsDisk w base p g v d) (gl cap : Nat) (hv : v = .slice (some ⟨gl, 0, none⟩) d.late.length cap) (k : Nat) (hk : k < d.late.length) :
    w.cell? ⟨gl, k * 2, none⟩ = some (.int .i64 (d.late[k]).1) ∧ w.cell? ⟨gl, k * 2 + 1, none⟩ = some (.string (d.late[k]).2) := by
  obtain ⟨h1, h2⟩ := lateCells_get d.late k hk
  have c1 := h.late.cells (g := gl) (by rw [hv]; rfl) _ _ h1
  have c2 := h.late.cells (g := gl) (by rw [hv]; rfl) _ _ h2
  have ha : ∀ j, (⟨gl, 0, none⟩ : Addr).add j = ⟨gl, j, none⟩ := fun j => by unfold Addr.add; split <;> simp_all
  rw [ha] at c1 c2
  exact ⟨c1, c2⟩
theorem IsDisk.vcut {w : World} {base p g : Nat} {v : Value} {d : DiskS} (h : IsDisk w base p g v d) {A : Option Addr} {n c : Nat} (hv : v = .slice A n c) (h0 : 0 < d.late.length) : ∃ gl, A = some ⟨gl, 0, none⟩ ∧ v = .slice (some ⟨gl, 0, none⟩) d.late.length c := by
  rcases h.late.2 with ⟨_, h1⟩ | ⟨gl, cap, cur, hv2, _⟩
  · omega
  · rw [hv] at hv2
    injection hv2 with e1 e2 e3
    exact ⟨gl, e1, by rw [hv, e1, e2, e3]⟩
/-- one of the late ones is laid into the safe ones -/
theorem IsDisk.keepOne {wr w' : World} {base p g : Nat} {v : Value} {d : DiskS} {safe : List ByteArray} (h : IsDisk wr base p g v { d with safe := safe }) (a : Nat) (s : ByteArray) (ha : a < safe.length)
    (hg : w'.heap[g]? = some (.cells ((safe.map Value.string).toArray.setIfInBounds a (.string s)) 9 (0, 0))) (hf : Frm (fun i => i = g) wr w') : IsDisk w' base p g v { d with safe := safe.set a s } :=
  { head := by have := hf.blk h.pg h.head; simpa using this, safe := by rw [hg]; simp [List.map_set], late := owns_frm h.late hf (fun k hk e => h.vp.2 (by rw [hk, e])), bp := h.bp, bg := h.bg,
    n0 := by have := h.n0; simpa using this, n1 := by have := h.n1; simpa using this, l1 := h.l1, at_ := fun x hx => by have := h.at_ x hx; simpa using this, f0 := h.f0, f1 := h.f1 }
theorem take_snoc' {α : Type} (l : List α) (k : Nat) (h : k < l.length) : l.take (k + 1) = l.take k ++ [l[k]] := List.take_succ_eq_append_getElem h
/-- the disk behind the loop: nothing is late -/
theorem IsDisk.empty {w w' : World} {base p g : Nat} {v : Value} {d : DiskS} (h : IsDisk w base p g v d) (b : Bool) (f : Int) (hf0 : -9223372036854775808 ≤ f) (hf1 : f ≤ 9223372036854775807)
    (hh : w'.heap[p]? = some (.cells #[.slice (some ⟨g, 0, none⟩) d.safe.length d.safe.length, .slice none 0 0, .int .i64 f, .bool b] 54 (0, 0))) (hf : Frm (fun i => i = p) w w') : IsDisk w' base p g (.slice none 0 0) { safe := d.safe, late := [], fuse := f, blown := b } :=
  { head := hh, safe := hf.blk (fun e => h.pg e.symm) h.safe, late := ⟨by simp [lateCells], .inl ⟨rfl, rfl⟩⟩, bp := h.bp, bg := h.bg, n0 := h.n0, n1 := h.n1, l1 := by simp, at_ := by simp, f0 := hf0, f1 := hf1 }
set_option maxHeartbeats 1600000 in
theorem sync_any (w : World) (base p g : Nat) (v : Value) (d : DiskS) (h : IsDisk w base p g v d) :
    Calls Try.prog 25 #[.pointer (some ⟨p, 0, none⟩)] w (DPost w base p g v (.int .i64 (syncD d).2) (syncD d).1) := by
  have hs1 := Lib.hid (spend_any w base p g v d h)
  rcases spendD_val d with h0 | h91
  · have hD : Hid (syncD d = ({ (spendD d).1 with safe := keepD (fun _ => true) (spendD d).1.safe (spendD d).1.late 0, late := [] }, 0)) := by unfold syncD; rw [if_pos h0]; exact Lib.hid rfl
    rw [h0] at hs1
    clear h h0
    generalize hd2 : (spendD d).1 = d1 at *
    clear hd2
    go_enter Try.func25, Try.ntmps25
    go_wp2_with fail
    refine hs1.out.mono ?_
    rintro e w1 ⟨rfl, hd1, hf1⟩
    have c1 := cell_blk (i := 1) hd1.head rfl
    have hl1 := hd1.l1
    have H := Lib.hid hd1
    obtain ⟨A, cp, hv⟩ := hd1.vslice
    clear hd1
    have HF1 := Lib.hid (hf1.mono (T := DSet p g v) (fun k _ hk => .inl hk))
    clear hf1
    rw [hv] at c1
    have hv' := Lib.hid hv
    clear hv
    go_wp2
    go_loopw [5, 16, 18] (fun s5 s16 s18 wr => ∃ k : Nat, k ≤ d1.late.length ∧ s16 = .int .i64 k ∧ Hid (IsDisk wr base p g v { d1 with safe := keepD (fun _ => true) d1.safe (d1.late.take k) 0 }) ∧ Hid (Frm (DSet p g v) w wr)) (fun _ s16 _ _ => d1.late.length - (intOf s16).toNat)
    case atStart => exact ⟨0, Nat.zero_le _, rfl, by simpa [keepD] using H, HF1⟩
    case round =>
      obtain ⟨k, hk, rfl, hI, hF⟩ := hrel
      by_cases hlt : k < d1.late.length
      · obtain ⟨gl, rfl, hv2⟩ := hI.out.vcut hv'.out (by simp; omega)
        have hv2' := Lib.hid hv2
        clear hv2
        obtain ⟨l1, l2⟩ := hI.out.lateAt gl cp hv2'.out k hlt
        have cs := cell_blk (i := 0) hI.out.head rfl
        have hat := H.out.at_ (d1.late[k]) (List.getElem_mem hlt)
        have hsn := Lib.hid (keepD_snoc (fun _ => true) (d1.late.take k) (d1.late[k]) d1.safe 0)
        have htk := Lib.hid (take_snoc' d1.late k hlt)
        have hkl := keepD_length (fun _ => true) (d1.late.take k) d1.safe 0
        simp only at l1 l2 cs
        generalize hx : d1.late[k] = x at l1 l2 hat hsn htk
        clear hx
        obtain ⟨xa, xs⟩ := x
        obtain ⟨a, rfl⟩ : ∃ a : Nat, xa = a := ⟨xa.toNat, by have := hat.1; simp at this ⊢; omega⟩
        have ha : a < d1.safe.length := by have := hat.2; simpa using this
        clear hat
        generalize hsf : keepD (fun _ => true) d1.safe (d1.late.take k) 0 = sf at *
        have hsf' := Lib.hid hsf
        clear hsf
        have hkl' := Lib.hid hkl
        rw [hkl] at cs
        have ha' : a < sf.length := by rw [hkl]; exact ha
        clear hkl
        have hgc : ∃ z, wr.cell? ⟨g, a, none⟩ = some z := ⟨_, cell_blk (i := a) hI.out.safe (by simp [ha']; rfl)⟩
        obtain ⟨z, hgc⟩ := hgc
        have hgz := frozen_blk a hI.out.safe
        have cs' := cell_blk (i := 0) (bk_alloc (.cells #[Value.int IntKind.i64 (a : Int), Value.string xs] 78) hI.out.head) rfl
        simp only at cs'
        rw [hkl'.out] at cs'
        have hgc' : ∃ z, (wr.alloc (.cells #[Value.int IntKind.i64 (a : Int), Value.string xs] 78)).cell? ⟨g, a, none⟩ = some z := ⟨_, cell_blk (i := a) (bk_alloc _ hI.out.safe) (by simp [ha']; rfl)⟩
        obtain ⟨z', hgc'⟩ := hgc'
        have hgz' := frozen_blk a (bk_alloc (.cells #[Value.int IntKind.i64 (a : Int), Value.string xs] 78) hI.out.safe)
        have hset := Lib.hid (bk_set a (.string xs) (bk_alloc (.cells #[Value.int IntKind.i64 (a : Int), Value.string xs] 78) hI.out.safe))
        have hfr := Lib.hid (((Frm.refl (fun i => i = g) wr).alloc (.cells #[Value.int IntKind.i64 (a : Int), Value.string xs] 78)).setCell ⟨g, a, none⟩ (.string xs) (fun _ => rfl))
        clear ha'
        go_wp2
        go_region
        all_goals
          go_wp2
          go_roundw
          case rel =>
            refine ⟨k + 1, by omega, by go_num, ?_, ?_⟩
            · rw [htk.out, hsn.out, if_pos trivial]
              exact Lib.hid (hI.out.keepOne a xs (by rw [hkl'.out]; exact ha) (by have := hset.out; exact this) hfr.out.drew)
            · exact Lib.hid ((hF.out.trans hfr.out (fun i _ hi => .inr (.inl hi))).drew)
          case measure => simp [intOf]; omega
      · have hk' : k = d1.late.length := by omega
        have hI2 := hI.out
        rw [List.take_of_length_le (by omega)] at hI2
        have HI := Lib.hid hI2
        clear hI hI2 hk'
        have cp1 := cell_blk (i := 1) HI.out.head rfl
        have zp1 := frozen_blk 1 HI.out.head
        have hset := Lib.hid (bk_set 1 (.slice none 0 0) HI.out.head)
        have hfr := Lib.hid ((Frm.refl (fun i => i = p) wr).setCell ⟨p, 1, none⟩ (.slice none 0 0) (fun _ => rfl))
        simp only at cp1
        rw [hv'.out] at cp1
        go_wp2
        go_ret
        rw [hD.out]
        refine ⟨.slice none 0 0, rfl, HI.out.empty d1.blown d1.fuse HI.out.f0 HI.out.f1 ?_ hfr.out, hF.out.trans hfr.out (fun i _ hi => .inl hi), ?_⟩
        · rw [hset.out]; rfl
        · intro k hk; simp [Value.ownBlock] at hk
  · have hD : Hid (syncD d = spendD d) := by unfold syncD; rw [if_neg (by rw [h91]; decide)]; exact Lib.hid rfl
    rw [h91] at hs1
    have h91' := Lib.hid h91
    clear h h91
    go_enter Try.func25, Try.ntmps25
    go_wp2_with fail
    refine hs1.out.mono ?_
    rintro e w1 ⟨rfl, hd1, hf1⟩
    have hd1' := Lib.hid hd1
    clear hd1
    go_wp2
    go_ret
    rw [hD.out, h91'.out]
    exact ⟨v, rfl, hd1'.out, hf1.mono (fun k _ hk => .inl hk), fun k hk => .inl hk⟩
end Go.Proofs.Ythmdmbgjheploaa
set_option linter.unusedVariables false
set_option linter.unusedSimpArgs false
namespace Go.Proofs.Ythmdmbgjheploaa
open Go.RowKit
def bitAt (mask k : Nat) : Bool := mask / 2 ^ (k % 64) % 2 == 1
def crashD (d : DiskS) (mask : Nat) : DiskS := { safe := keepD (bitAt mask) d.safe d.late 0, late := [], fuse := -1, blown := false }
theorem bit_walk (mask k : Nat) (hm : mask < 18446744073709551616) : (bits BinOp.and IntKind.u64 ((mask : Int) / 2 ^ (k % 64)) 1 == 1) = bitAt mask k := by
  have e : ((mask : Int) / 2 ^ (k % 64)) = ((mask / 2 ^ (k % 64) : Nat) : Int) := by simp
  have hle := Nat.div_le_self mask (2 ^ (k % 64))
  rw [e, and_one_u64 _ (Int.natCast_nonneg _) (by omega)]
  unfold bitAt
  rw [Bool.eq_iff_iff]
  simp
  omega
set_option maxHeartbeats 1600000 in
theorem crash_any (w : World) (base p g : Nat) (v : Value) (d : DiskS) (mask : Nat) (hm : mask < 18446744073709551616) (h : IsDisk w base p g v d) :
    Calls Try.prog 29 #[.pointer (some ⟨p, 0, none⟩), .int .u64 mask] w (DPost w base p g v (.tuple #[]) (crashD d mask)) := by
  have c1 := cell_blk (i := 1) h.head rfl
  have hl1 := h.l1
  have H := Lib.hid h
  obtain ⟨A, cp, hv⟩ := h.vslice
  clear h
  have HF1 := Lib.hid (Frm.refl (DSet p g v) w)
  rw [hv] at c1
  have hv' := Lib.hid hv
  clear hv
  go_enter Try.func29, Try.ntmps29
  go_wp2
  go_loopw [4, 5, 13, 15, 16] (fun s4 s5 s13 s15 s16 wr => ∃ k : Nat, k ≤ d.late.length ∧ s13 = .int .i64 k ∧ Hid (IsDisk wr base p g v { d with safe := keepD (bitAt mask) d.safe (d.late.take k) 0 }) ∧ Hid (Frm (DSet p g v) w wr)) (fun _ _ s13 _ _ _ => d.late.length - (intOf s13).toNat)
  case atStart => exact ⟨0, Nat.zero_le _, rfl, by simpa [keepD] using H, HF1⟩
  case round =>
    obtain ⟨k, hk, rfl, hI, hF⟩ := hrel
    by_cases hlt : k < d.late.length
    · obtain ⟨gl, rfl, hv2⟩ := hI.out.vcut hv'.out (by simp; omega)
      have hv2' := Lib.hid hv2
      clear hv2
      obtain ⟨l1, l2⟩ := hI.out.lateAt gl cp hv2'.out k hlt
      have cs := cell_blk (i := 0) hI.out.head rfl
      have hat := H.out.at_ (d.late[k]) (List.getElem_mem hlt)
      have hsn := Lib.hid (keepD_snoc (bitAt mask) (d.late.take k) (d.late[k]) d.safe 0)
      have htk := Lib.hid (take_snoc' d.late k hlt)
      have hkl := keepD_length (bitAt mask) (d.late.take k) d.safe 0
      simp only at l1 l2 cs
      generalize hx : d.late[k] = x at l1 l2 hat hsn htk
      clear hx
      obtain ⟨xa, xs⟩ := x
      obtain ⟨a, rfl⟩ : ∃ a : Nat, xa = a := ⟨xa.toNat, by have := hat.1; simp at this ⊢; omega⟩
      have ha : a < d.safe.length := by have := hat.2; simpa using this
      clear hat
      generalize hsf : keepD (bitAt mask) d.safe (d.late.take k) 0 = sf at *
      have hsf' := Lib.hid hsf
      clear hsf
      have hkl' := Lib.hid hkl
      rw [hkl] at cs
      have ha' : a < sf.length := by rw [hkl]; exact ha
      clear hkl
      have cs' := cell_blk (i := 0) (bk_alloc (.cells #[Value.int IntKind.i64 (a : Int), Value.string xs] 78) hI.out.head) rfl
      simp only at cs'
      rw [hkl'.out] at cs'
      have hgc' : ∃ z, (wr.alloc (.cells #[Value.int IntKind.i64 (a : Int), Value.string xs] 78)).cell? ⟨g, a, none⟩ = some z := ⟨_, cell_blk (i := a) (bk_alloc _ hI.out.safe) (by simp [ha']; rfl)⟩
      obtain ⟨z', hgc'⟩ := hgc'
      have hgz' := frozen_blk a (bk_alloc (.cells #[Value.int IntKind.i64 (a : Int), Value.string xs] 78) hI.out.safe)
      have hset := Lib.hid (bk_set a (.string xs) (bk_alloc (.cells #[Value.int IntKind.i64 (a : Int), Value.string xs] 78) hI.out.safe))
      have hfr0 := Lib.hid ((Frm.refl (fun i => i = g) wr).alloc (.cells #[Value.int IntKind.i64 (a : Int), Value.string xs] 78))
      have hfr := Lib.hid (((Frm.refl (fun i => i = g) wr).alloc (.cells #[Value.int IntKind.i64 (a : Int), Value.string xs] 78)).setCell ⟨g, a, none⟩ (.string xs) (fun _ => rfl))
      clear ha'
      have hbit := bit_walk mask k hm
      by_cases hkeep : bitAt mask k = true
      · rw [hkeep] at hbit
        have hkeep' := Lib.hid hkeep
        clear hkeep
        go_wp2
        go_region
        all_goals
          go_wp2
          go_roundw
          case rel =>
            refine ⟨k + 1, by omega, by go_num, ?_, ?_⟩
            · rw [htk.out, hsn.out, show 0 + (d.late.take k).length = k by simp; omega, if_pos hkeep'.out]
              exact Lib.hid (hI.out.keepOne a xs (by rw [hkl'.out]; exact ha) (by have := hset.out; exact this) hfr.out.drew)
            · exact Lib.hid ((hF.out.trans hfr.out (fun i _ hi => .inr (.inl hi))).drew)
          case measure => simp [intOf]; omega
      · have hkeep' : bitAt mask k = false := by simpa using hkeep
        rw [hkeep'] at hbit
        have hkeep2 := Lib.hid hkeep'
        clear hkeep hkeep'
        go_wp2
        go_roundw
        case rel =>
          refine ⟨k + 1, by omega, by go_num, ?_, ?_⟩
          · rw [htk.out, hsn.out, show 0 + (d.late.take k).length = k by simp; omega, if_neg (by rw [hkeep2.out]; decide)]
            exact Lib.hid (hI.out.frm (S := fun i => False) (Frm.of_below ((Below.refl _ wr).alloc (Nat.le_refl _) _)) (fun _ _ h => h))
          · exact Lib.hid (hF.out.alloc _)
        case measure => simp [intOf]; omega
    · have hk' : k = d.late.length := by omega
      have hI2 := hI.out
      rw [List.take_of_length_le (by omega)] at hI2
      have HI := Lib.hid hI2
      clear hI hI2 hk'
      have cp1 := cell_blk (i := 1) HI.out.head rfl
      have zp1 := frozen_blk 1 HI.out.head
      have cp2 := cell_blk (i := 2) HI.out.head rfl
      have zp2 := frozen_blk 2 HI.out.head
      have cp3 := cell_blk (i := 3) HI.out.head rfl
      have zp3 := frozen_blk 3 HI.out.head
      have hset := Lib.hid (bk_set 2 (.int .i64 (-1)) (bk_set 3 (.bool false) (bk_set 1 (.slice none 0 0) HI.out.head)))
      have hfr := Lib.hid ((((Frm.refl (fun i => i = p) wr).setCell ⟨p, 1, none⟩ (.slice none 0 0) (fun _ => rfl)).setCell ⟨p, 3, none⟩ (.bool false) (fun _ => rfl)).setCell ⟨p, 2, none⟩ (.int .i64 (-1)) (fun _ => rfl))
      simp only at cp1 cp2 cp3
      rw [hv'.out] at cp1
      go_wp2
      go_end0
      refine ⟨.slice none 0 0, rfl, HI.out.empty false (-1) (by decide) (by decide) ?_ hfr.out, hF.out.trans hfr.out (fun i _ hi => .inl hi), ?_⟩
      · rw [hset.out]; rfl
      · intro k hk; simp [Value.ownBlock] at hk
def newD (n : Nat) : DiskS := { safe := List.replicate n ⟨#[]⟩, late := [], fuse := -1, blown := false }
theorem Try.infoS : (Try.prog.info? 9).map (fun i => (i.zero, i.size, i.bytes)) = some (some (.string ⟨#[]⟩), 1, 16) := by kernel_rfl
theorem make_strs (n : Nat) (hn : n ≤ 1000000) (w : World) : (Instr.makeSlice 45 (.int .i64 (n : Int)) (.int .i64 (n : Int))).run Try.prog w = .ok (.slice (some ⟨w.heap.size, 0, none⟩) n n) (w.alloc (.cells (madeCells #[.string ⟨#[]⟩] n) 9)) :=
  run_make_row' 45 9 (.string ⟨#[]⟩) 16 Try.underlying45 Try.infoS rfl .i64 .i64 n (by omega) (by omega) w
theorem made_strs (n : Nat) : madeCells #[Value.string ⟨#[]⟩] n = ((List.replicate n (⟨#[]⟩ : ByteArray)).map Value.string).toArray := by
  apply Array.ext
  · simp [madeCells]
  · intro i h1 h2
    simp [madeCells, Nat.mod_one]
def NewPost (w : World) (n : Nat) (e : Ending) (w' : World) : Prop :=
  ∃ p g, e = .returned (.tuple #[.pointer (some ⟨p, 0, none⟩), .int .i64 0]) ∧ IsDisk w' w.heap.size p g (.slice none 0 0) (newD n) ∧ Below w.heap.size w w'
theorem new_any (w : World) (n : Nat) (h1 : 1 ≤ n) (h2 : n ≤ 4096) :
    Calls Try.prog 32 #[.int .i64 (n : Int)] w (NewPost w n) := by
  have hmk := make_strs n (by omega)
  go_enter Try.func32, Try.ntmps32
  go_wp2
  go_ret2
  refine ⟨w.heap.size + 1, w.heap.size, rfl, ?_, ((Below.refl _ w).alloc (Nat.le_refl _) _).alloc (by simp) _⟩
  have hp : ((w.alloc (.cells (madeCells #[.string ⟨#[]⟩] n) 9)).alloc (.cells #[.slice (some ⟨w.heap.size, 0, none⟩) n n, .slice none 0 0, .int .i64 (-1), .bool false] 54)).heap[w.heap.size + 1]? = some (.cells #[.slice (some ⟨w.heap.size, 0, none⟩) n n, .slice none 0 0, .int .i64 (-1), .bool false] 54 (0, 0)) := by
    have := bk_new (w.alloc (.cells (madeCells #[.string ⟨#[]⟩] n) 9)) (.cells #[.slice (some ⟨w.heap.size, 0, none⟩) n n, .slice none 0 0, .int .i64 (-1), .bool false] 54)
    rwa [World.size_alloc] at this
  exact { head := by simpa [newD] using hp, safe := by have := bk_alloc (.cells #[.slice (some ⟨w.heap.size, 0, none⟩) n n, .slice none 0 0, .int .i64 (-1), .bool false] 54) (bk_new w (.cells (madeCells #[.string ⟨#[]⟩] n) 9)); rw [made_strs] at this ⊢; exact this, late := ⟨by simp [lateCells, newD], .inl ⟨rfl, rfl⟩⟩, bp := by omega, bg := Nat.le_refl _, n0 := by simp [newD]; omega, n1 := by simp [newD]; omega, l1 := by simp [newD], at_ := by simp [newD], f0 := by simp [newD], f1 := by simp [newD] }
theorem new_bad (w : World) (n : Int) (h : n < 1 ∨ 4096 < n) :
    Calls Try.prog 32 #[.int .i64 n] w fun e w' => e = .returned (.tuple #[.pointer none, .int .i64 1]) ∧ w' = w := by
  by_cases h1 : n < 1
  · clear h
    go_enter Try.func32, Try.ntmps32
    go_wp2
    go_ret2
    exact ⟨rfl, rfl⟩
  · have h2 : 4096 < n := by omega
    clear h
    go_enter Try.func32, Try.ntmps32
    go_wp2
    go_ret2
    exact ⟨rfl, rfl⟩
end Go.Proofs.Ythmdmbgjheploaa
set_option linter.unusedVariables false
set_option linter.unusedSimpArgs false
namespace Go.Proofs.Ythmdmbgjheploaa
open Go.RowKit Go.Shelf
attribute [local go_sem] Oper.semAt_some
def fB (l : List (Int × ByteArray)) (j : Nat) : Int × ByteArray := l.getD (l.length - 1 - j) (0, ⟨#[]⟩)
def encB (l : List (Int × ByteArray)) (j : Nat) : Array Value := #[.int .i64 ((l.length : Int) - 1 - j), .agg #[.int .i64 (fB l j).1, .string (fB l j).2]]
/-- the late ones' cells -/
def Lates (n₀ : Nat) (W : World) (v : Value) (l : List (Int × ByteArray)) : Prop :=
  ∃ A c, v = .slice A l.length c ∧ (0 < l.length → ∃ g, A = some ⟨g, 0, none⟩ ∧ g < n₀ ∧ ∀ k (h : k < l.length), W.cell? ⟨g, k * 2, none⟩ = some (.int .i64 (l[k]).1) ∧ W.cell? ⟨g, k * 2 + 1, none⟩ = some (.string (l[k]).2))
theorem Lates.below {n₀ : Nat} {A B : World} {v : Value} {l : List (Int × ByteArray)} (h : Lates n₀ A v l) (hb : Below n₀ A B) : Lates n₀ B v l := by
  obtain ⟨a, c, rfl, h⟩ := h
  refine ⟨a, c, rfl, fun h0 => ?_⟩
  obtain ⟨g, rfl, hg, hc⟩ := h h0
  exact ⟨g, rfl, hg, fun k hk => ⟨(hb.cell (p := ⟨g, k * 2, none⟩) hg).trans (hc k hk).1, (hb.cell (p := ⟨g, k * 2 + 1, none⟩) hg).trans (hc k hk).2⟩⟩
set_option maxRecDepth 100000 in
set_option maxHeartbeats 2000000 in
theorem backward1_in (F : Fence) (n : Nat) (hF : F.fn 50) (hro : F.round = none) (hn : 1 ≤ n) (L Bs n₀ : Nat) (v : Value) (l : List (Int × ByteArray)) (hl : l.length ≤ 1000000) (J Jx : List Nat → World → Prop)
    (hY : ∀ pre x W, J pre W → pre.length < l.length → YieldAt F (n - 1) Try.prog L (encB l x) W fun e W' =>
      (e = .returned (.bool true) ∧ J (pre ++ [x]) W' ∧ Below n₀ W W') ∨ (e = .returned (.bool false) ∧ Jx (pre ++ [x]) W'))
    (W : World) (hBn : Bs < n₀) (hBs : W.cell? ⟨Bs, 0, none⟩ = some v) (hL : Lates n₀ W v l) (h0 : J [] W) :
    CallsIn F n Try.prog 50 #[.func (.yield L) #[] #[], .pointer (some ⟨Bs, 0, none⟩)] W fun e W' => (∃ v, e = .returned v) ∧
      ((∃ ys, ys = List.range l.length ∧ J ys W') ∨ (∃ pre, (∃ k, k < l.length ∧ pre = List.range (k + 1)) ∧ Jx pre W')) := by
  obtain ⟨A, c, rfl, hcs⟩ := hL
  have HC := Lib.hid hcs
  clear hcs
  refine callsIn_of_wp Try.func50 rfl hF ?_ hro
  simp only [Try.ntmps50, List.size_toArray, List.length_cons, List.length_nil, Nat.reduceAdd, Nat.reduceSub, Array.replicate_succ, Array.replicate_zero, List.push_toArray, List.append_toArray, List.nil_append, List.cons_append]
  gi_wp2
  gi_loopw [3] (fun i wr => ∃ (k : Nat) (z : Int), k ≤ l.length ∧ i = .int .i64 z ∧ Hid (z = (l.length : Int) - 1 - k) ∧ Hid (J (List.range k) wr) ∧ Hid (Below n₀ W wr))
    (fun i _ => (intOf i + 1).toNat)
  case atStart => exact ⟨0, _, Nat.zero_le _, rfl, Lib.hid (by omega), Lib.hid (by simpa using h0), Lib.hid (Below.refl _ _)⟩
  case round =>
    obtain ⟨k, z, hk, rfl, hz, hJs, hnx⟩ := hrel
    have hBs' := (hnx.out.cell (p := ⟨Bs, 0, none⟩) hBn).trans hBs
    by_cases hlt : k < l.length
    · obtain ⟨m, rfl⟩ : ∃ m : Nat, z = m := ⟨z.toNat, by have := hz.out; omega⟩
      have hm : m < l.length := by have := hz.out; omega
      have hmk : m = l.length - 1 - k := by have := hz.out; omega
      obtain ⟨g, rfl, hg, hc⟩ := HC.out (by omega)
      have c1 := (hnx.out.cell (p := ⟨g, m * 2, none⟩) hg).trans (hc m hm).1
      have c2 := (hnx.out.cell (p := ⟨g, m * 2 + 1, none⟩) hg).trans (hc m hm).2
      clear hc
      have hfe : fB l k = l[m] := by
        unfold fB
        rw [← hmk, List.getD_eq_getElem?_getD, List.getElem?_eq_getElem hm]
        rfl
      obtain ⟨fn, tmps, assign, body, hy, hR⟩ := hY _ k wr hJs.out (by simpa using hlt)
      unfold encB at hy
      rw [hfe, ← hz.out] at hy
      clear hfe hmk
      gi_wp2
      refine hR.mono ?_
      rintro e W3 (⟨rfl, hJ3, hk3⟩ | ⟨rfl, hJx3⟩)
      · gi_wp2
        go_roundw
        case rel => exact ⟨k + 1, _, by omega, rfl, Lib.hid (by have := hz.out; omega), Lib.hid (by rw [List.range_succ]; exact hJ3), Lib.hid (hnx.out.trans hk3)⟩
        case measure => simp [intOf]
      · gi_wp2
        refine bodyPost_ret (results_none rfl _ _ _) rfl ?_
        exact ⟨⟨_, rfl⟩, .inr ⟨_, ⟨k, hlt, (List.range_succ).symm⟩, hJx3⟩⟩
    · have hkl : k = l.length := by omega
      have hz1 : z < 0 := by have := hz.out; omega
      gi_wp2
      go_end0
      exact ⟨⟨_, rfl⟩, .inl ⟨_, by rw [← hkl], hJs.out⟩⟩
theorem backward_in (F : Fence) (n : Nat) (hF : F.fn 42) (hro : F.round = none) (A : Option Addr) (len cap : Nat) (w : World) :
    CallsIn F n Try.prog 42 #[.slice A len cap] w fun e w' => e = .returned (.func (.func 50) #[] #[.pointer (some ⟨w.heap.size, 0, none⟩)]) ∧ w' = w.alloc (.cells #[.slice A len cap] 52) := by
  refine callsIn_of_wp Try.func42 rfl hF ?_ hro
  simp only [Try.ntmps42, List.size_toArray, List.length_cons, List.length_nil, Nat.reduceAdd, Nat.reduceSub, Array.replicate_succ, Array.replicate_zero, List.push_toArray, List.append_toArray, List.nil_append, List.cons_append]
  gi_wp2
  go_ret
  exact ⟨rfl, rfl⟩
theorem backward_stops (F : Fence) (n : Nat) (hF : F.fn 50) (hro : F.round = none) (hn : 1 ≤ n) (Bs : Nat) (v : Value) (l : List (Int × ByteArray)) (hl : l.length ≤ 1000000) (w : World) (hBs : Bs < w.heap.size)
    (hc : w.cell? ⟨Bs, 0, none⟩ = some v) (hI : Lates w.heap.size w v l) :
    SeqStopsK F n Try.prog 50 #[.pointer (some ⟨Bs, 0, none⟩)] (encB l) (Below w.heap.size) (fun ys => ys = List.range l.length) (fun pre => ∃ k, k < l.length ∧ pre = List.range (k + 1)) l.length w := fun L J Jx W hW _ _ hY h0 =>
  backward1_in F n hF hro hn L Bs w.heap.size v l hl J Jx hY W hBs ((hW.cell (p := ⟨Bs, 0, none⟩) hBs).trans hc) (hI.below hW) h0
end Go.Proofs.Ythmdmbgjheploaa
set_option linter.unusedVariables false
set_option linter.unusedSimpArgs false
namespace Go.Proofs.Ythmdmbgjheploaa
open Go.RowKit Go.Shelf
attribute [local go_sem] Oper.semAt_some
def lastW (l : List (Int × ByteArray)) (i : Int) : Option ByteArray := (l.reverse.find? fun x => x.1 == i).map (·.2)
def readD (d : DiskS) (i : Int) : ByteArray × Int :=
  if d.blown = true then (⟨#[]⟩, 91) else if ¬ (0 ≤ i ∧ i < d.safe.length) then (⟨#[]⟩, 90) else ((lastW d.late i).getD (d.safe.getD i.toNat ⟨#[]⟩), 0)
theorem rev_fB (l : List (Int × ByteArray)) (k : Nat) (h : k < l.length) : l.reverse[k]'(by simpa using h) = fB l k := by
  unfold fB
  rw [List.getElem_reverse, List.getD_eq_getElem?_getD, List.getElem?_eq_getElem (by omega)]
  rfl
theorem lastW_none (l : List (Int × ByteArray)) (i : Int) (h : ∀ k < l.length, (fB l k).1 ≠ i) : lastW l i = none := by
  unfold lastW
  rw [List.find?_eq_none.2]
  · rfl
  · intro x hx
    obtain ⟨k, hk, rfl⟩ := List.mem_iff_getElem.1 hx
    have hk' : k < l.length := by simpa using hk
    rw [rev_fB l k hk']
    simpa using h k hk'
theorem lastW_some (l : List (Int × ByteArray)) (i : Int) (k : Nat) (hk : k < l.length) (h1 : (fB l k).1 = i) (h : ∀ j < k, (fB l j).1 ≠ i) : lastW l i = some (fB l k).2 := by
  unfold lastW
  have : l.reverse.find? (fun x => x.1 == i) = some (fB l k) := by
    rw [List.find?_eq_some_iff_getElem]
    refine ⟨by simpa using h1, k, by simpa using hk, rev_fB l k hk, fun j hj => ?_⟩
    rw [rev_fB l j (by omega)]
    simpa using h j hj
  rw [this]
  rfl
theorem ret_se {a b : ByteArray} {c d : Int} (h : a = b) (h' : c = d) : Ending.returned (.tuple #[.string a, .int .i64 c]) = .returned (.tuple #[.string b, .int .i64 d]) := by rw [h, h']
set_option maxRecDepth 100000 in
set_option maxHeartbeats 2000000 in
theorem read_any (w : World) (base p g : Nat) (v : Value) (d : DiskS) (i : Int) (h : IsDisk w base p g v d) :
    Calls Try.prog 27 #[.pointer (some ⟨p, 0, none⟩), .int .i64 i] w fun e w' => e = .returned (.tuple #[.string (readD d i).1, .int .i64 (readD d i).2]) ∧ Below w.heap.size w w' := by
  have kn := eq_nil
  have c0 : ∀ o1 o2 o3, (((w.alloc o1).alloc o2).alloc o3).cell? ⟨p, 0, none⟩ = some (.slice (some ⟨g, 0, none⟩) d.safe.length d.safe.length) := fun o1 o2 o3 => cell_blk (bk_alloc o3 (bk_alloc o2 (bk_alloc o1 h.head))) rfl
  have c1 : ∀ o1 o2 o3, (((w.alloc o1).alloc o2).alloc o3).cell? ⟨p, 1, none⟩ = some v := fun o1 o2 o3 => cell_blk (bk_alloc o3 (bk_alloc o2 (bk_alloc o1 h.head))) rfl
  have c3 : ∀ o1 o2 o3, (((w.alloc o1).alloc o2).alloc o3).cell? ⟨p, 3, none⟩ = some (.bool d.blown) := fun o1 o2 o3 => cell_blk (bk_alloc o3 (bk_alloc o2 (bk_alloc o1 h.head))) rfl
  have n0 := h.n0
  have n1 := h.n1
  have l1 := h.l1
  have hlp := bk_lt h.head
  have H := Lib.hid h
  clear h
  have HB : Hid (Below w.heap.size w (((w.alloc (.cells #[.int .i64 i] 3)).alloc (.cells #[.string ⟨#[]⟩] 9)).alloc (.cells #[.int .i64 0] 27))) := Lib.hid ((((Below.refl _ w).alloc (Nat.le_refl _) _).alloc (by simp) _).alloc (by simp; omega) _)
  by_cases hb : d.blown = true
  · simp only [hb] at c3
    have hD : Hid (readD d i = (⟨#[]⟩, 91)) := by unfold readD; rw [if_pos hb]; exact Lib.hid rfl
    clear hb
    go_enter Try.func27, Try.ntmps27
    go_wp2
    refine bodyPost_ret (v := .tuple #[.string ⟨#[]⟩, .int .i64 91]) (by simp [results, Try.f27, go_sem]) rfl ?_
    refine ⟨ret_se (by rw [hD.out]) (by rw [hD.out]), ?_⟩
    exact (((Below.refl _ w).alloc (Nat.le_refl _) _).alloc (by simp) _).alloc (by simp; omega) _
  · have hb' : d.blown = false := by simpa using hb
    simp only [hb'] at c3
    by_cases hi : 0 ≤ i ∧ i < d.safe.length
    · obtain ⟨hi0, hi1⟩ := hi
      refine (callsIn_wide (n := 3)).1 ?_
      refine callsIn_of_wp_marks Try.func27 rfl trivial ?_ rfl
      simp only [Try.ntmps27, List.size_toArray, List.length_cons, List.length_nil, Nat.reduceAdd, Nat.reduceSub, Array.replicate_succ, Array.replicate_zero, List.push_toArray, List.append_toArray, List.nil_append, List.cons_append]
      obtain ⟨A, c, hv⟩ := H.out.vslice
      simp only [hv] at c1
      have HV := Lib.hid hv
      clear hv
      refine wpIn_wide.2 ?_
      go_wp2_with fail
      go_quiet (fail)
      go_wp2_with fail
      refine (callsIn_wide (n := 3)).1 ((backward_in Fence.wide 3 trivial rfl _ _ _ _).mono ?_)
      rintro e w' ⟨rfl, rfl⟩
      go_wp2_with fail
      have hB3 := HB.out
      have b4 : (((w.alloc (.cells #[.int .i64 i] 3)).alloc (.cells #[.string ⟨#[]⟩] 9)).alloc (.cells #[.int .i64 0] 27)).heap[w.heap.size + 1]? = some (.cells #[.string ⟨#[]⟩] 9 (0, 0)) := by
        have := bk_new (w.alloc (.cells #[.int .i64 i] 3)) (.cells #[.string ⟨#[]⟩] 9)
        rw [World.size_alloc] at this
        exact bk_alloc _ this
      have b5 : (((w.alloc (.cells #[.int .i64 i] 3)).alloc (.cells #[.string ⟨#[]⟩] 9)).alloc (.cells #[.int .i64 0] 27)).heap[w.heap.size + 1 + 1]? = some (.cells #[.int .i64 0] 27 (0, 0)) := by
        have := bk_new ((w.alloc (.cells #[.int .i64 i] 3)).alloc (.cells #[.string ⟨#[]⟩] 9)) (.cells #[.int .i64 0] 27)
        rw [World.size_alloc, World.size_alloc] at this
        exact this
      have b3 : (((w.alloc (.cells #[.int .i64 i] 3)).alloc (.cells #[.string ⟨#[]⟩] 9)).alloc (.cells #[.int .i64 0] 27)).heap[w.heap.size]? = some (.cells #[.int .i64 i] 3 (0, 0)) := bk_alloc _ (bk_alloc _ (bk_new w _))
      obtain ⟨W3, hW3⟩ : ∃ W3, (((w.alloc (.cells #[.int .i64 i] 3)).alloc (.cells #[.string ⟨#[]⟩] 9)).alloc (.cells #[.int .i64 0] 27)).drewN nq = W3 := ⟨_, rfl⟩
      have hs3 : W3.heap.size = w.heap.size + 3 := by rw [← hW3]; simp [World.drewN]
      have hB3' : Below w.heap.size w W3 := by rw [← hW3]; exact below_drewN hB3 _
      have b3' : W3.heap[w.heap.size]? = some (.cells #[.int .i64 i] 3 (0, 0)) := by rw [← hW3]; exact b3
      have b4' : W3.heap[w.heap.size + 1]? = some (.cells #[.string ⟨#[]⟩] 9 (0, 0)) := by rw [← hW3]; exact b4
      have b5' : W3.heap[w.heap.size + 1 + 1]? = some (.cells #[.int .i64 0] 27 (0, 0)) := by rw [← hW3]; exact b5
      rw [hW3]
      clear hB3 b3 b4 b5 c0 c1 c3 hW3 HB kn
      obtain ⟨W0, hW0⟩ : ∃ W0, W3.alloc (.cells #[.slice A d.late.length c] 52) = W0 := ⟨_, rfl⟩
      have hs0 : W0.heap.size = w.heap.size + 4 := by rw [← hW0]; simp [hs3]
      have hB0 : Below w.heap.size w W0 := by rw [← hW0]; exact hB3'.alloc (by omega) _
      have d3 : W0.heap[w.heap.size]? = some (.cells #[.int .i64 i] 3 (0, 0)) := by rw [← hW0]; exact bk_alloc _ b3'
      have d4 : W0.heap[w.heap.size + 1]? = some (.cells #[.string ⟨#[]⟩] 9 (0, 0)) := by rw [← hW0]; exact bk_alloc _ b4'
      have d5 : W0.heap[w.heap.size + 1 + 1]? = some (.cells #[.int .i64 0] 27 (0, 0)) := by rw [← hW0]; exact bk_alloc _ b5'
      have d6 : W0.heap[w.heap.size + 1 + 1 + 1]? = some (.cells #[.slice A d.late.length c] 52 (0, 0)) := by
        have := bk_new W3 (.cells #[.slice A d.late.length c] 52)
        rw [hs3] at this
        rw [← hW0]; exact this
      rw [hW0]
      clear b3' b4' b5' hB3' hW0 hs3
      have hI0 : IsDisk W0 base p g v d := H.out.frm (S := fun _ => False) (Frm.of_below hB0) (fun _ _ h => h)
      have hLt : Lates W0.heap.size W0 (.slice A d.late.length c) d.late := by
        refine ⟨A, c, rfl, fun h0 => ?_⟩
        obtain ⟨gl, rfl, hv2⟩ := hI0.vcut HV.out h0
        refine ⟨gl, rfl, ?_, fun k hk => hI0.lateAt gl c hv2 k hk⟩
        exact hI0.lt gl (.inr (.inr (by rw [hv2]; rfl)))
      refine (wpIn_wide (n := 3)).1 (wpIn_rangeFunc_ownH rfl (by omega) (gf := 50) (lb := #[.pointer (some ⟨w.heap.size + 1 + 1 + 1, 0, none⟩)]) rfl trivial (enters_of Try.func50 (by kernel_rfl) rfl)
        (backward_stops Fence.wide (3 - 1) trivial rfl (by omega) (w.heap.size + 1 + 1 + 1) _ d.late l1 W0 (by omega) (cell_blk d6 rfl) hLt) belowK_t (belowK_b (Nat.le_refl _)) (Below.refl _ _) (fun _ => rfl)
        (fun pre W => (∀ y ∈ pre, (fB d.late y).1 ≠ i) ∧ Below W0.heap.size W0 W)
        (fun c pre W => (c = .ret ∧ ∃ pre' x, pre = pre' ++ [x] ∧ (∀ y ∈ pre', (fB d.late y).1 ≠ i) ∧ (fB d.late x).1 = i ∧ W.cell? ⟨w.heap.size + 1, 0, none⟩ = some (.string (fB d.late x).2) ∧ W.cell? ⟨w.heap.size + 1 + 1, 0, none⟩ = some (.int .i64 0)) ∧ Below w.heap.size w W)
        (fun s X Y row hs hg hr => ⟨hs.1, ownFrom_below (β := List Nat) (Nat.le_refl _) (Nat.le_refl _) s X Y row hs.2 hg hr⟩)
        (fun c s X Y row hs hg hr => ⟨⟨hs.1.1, by
          obtain ⟨pre', x, e1, e2, e3, e4, e5⟩ := hs.1.2
          exact ⟨pre', x, e1, e2, e3, cell_kept e4 hg (fun r e => (hr r e).2), cell_kept e5 hg (fun r e => (hr r e).2)⟩⟩, ownFrom_below (β := List Nat) (Nat.le_refl _) (by omega) s X Y row hs.2 hg hr⟩)
        ⟨by simp, Below.refl _ _⟩
        (fun x a' W => ∃ Bx, W0.heap.size ≤ Bx ∧ W.heap[Bx]? = some (.cells #[.int .i64 (fB d.late x).1, .string (fB d.late x).2] 78 (0, 0)) ∧ a' = { tmps := #[.pointer (some ⟨p, 0, none⟩), .int .i64 i, undef, .pointer (some ⟨w.heap.size, 0, none⟩), .pointer (some ⟨w.heap.size + 1, 0, none⟩), .pointer (some ⟨w.heap.size + 1 + 1, 0, none⟩), undef, .pointer (some ⟨Bx, 0, none⟩), .bool false, .pointer (some ⟨p, 0, none⟩), .bool false, .bool false, .pointer (some ⟨p, 0, none⟩), .pointer (some ⟨p, 0, none⟩), .pointer (some ⟨p, 0, none⟩), .slice (some ⟨g, 0, none⟩) d.safe.length d.safe.length, .bool false, .bool false, .bool false, .pointer (some ⟨p, 0, none⟩), .pointer (some ⟨p, 0, none⟩), .pointer (some ⟨p, 3, none⟩), .bool false, .bool (decide (i < 0) || decide ((d.safe.length : Int) ≤ i)), .int .i64 i, .bool (decide (i < 0)), .bool (decide (i < 0)), .int .i64 i, .pointer (some ⟨p, 0, none⟩), .pointer (some ⟨p, 0, none⟩), .pointer (some ⟨p, 0, none⟩), .slice (some ⟨g, 0, none⟩) d.safe.length d.safe.length, .int .i64 (d.safe.length : Int), .bool (decide ((d.safe.length : Int) ≤ i)), .bool (decide (i < 0) || decide ((d.safe.length : Int) ≤ i)), .pointer (some ⟨p, 0, none⟩), .pointer (some ⟨p, 0, none⟩), .pointer (some ⟨p, 1, none⟩), .slice A d.late.length c, .func (.func 50) #[] #[.pointer (some ⟨w.heap.size + 1 + 1 + 1, 0, none⟩)], .int .i64 ((d.late.length : Int) - 1 - x), .agg #[.int .i64 (fB d.late x).1, .string (fB d.late x).2], undef, undef, undef, undef, undef, undef, undef, undef, undef, undef, undef, undef, undef], defers := [] })
        (fun x a' _ X Y row hs hg hr => by
          obtain ⟨Bx, h1, h2, h3⟩ := hs
          exact ⟨Bx, h1, (grownBy_keeps_cells hg (fun r e => (hr r e).2) h2 rfl).trans h2, h3⟩)
        ?assign ?body ?done ?stop)
      case assign =>
        rintro l pre x W K ⟨hne, hBW⟩ hK
        simp only [encB]
        gi_wp2
        exact hK _ _ ((KeepsOthers.alloc _ _).from _) ((Below.refl _ W).alloc hBW.size _) ⟨hne, hBW.alloc hBW.size _⟩ ⟨W.heap.size, hBW.size, bk_new W _, rfl⟩
      case body =>
        rintro l pre x a' W hl ⟨r, hr⟩ ⟨hne, hBW⟩ ⟨Bx, hBx, hcx, rfl⟩ hlt
        have e3 := cell_blk (i := 0) ((hBW.block _ (by omega)).trans d3) rfl
        have e4 := cell_blk (i := 0) ((hBW.block _ (by omega)).trans d4) rfl
        have e5 := cell_blk (i := 0) ((hBW.block _ (by omega)).trans d5) rfl
        have z4 := frozen_blk 0 ((hBW.block _ (by omega)).trans d4)
        have z5 := frozen_blk 0 ((hBW.block _ (by omega)).trans d5)
        have x0 := cell_blk (i := 0) hcx rfl
        have x1 := cell_blk (i := 1) hcx rfl
        have g4 := (hBW.block _ (by omega)).trans d4
        have g5 := (hBW.block _ (by omega)).trans d5
        have r4 := Lib.hid (blk_set_other (g := w.heap.size + 1 + 1) 0 (.int .i64 0) (by omega) (bk_set 0 (.string (fB d.late x).2) g4))
        have r5 := Lib.hid (bk_set 0 (.int .i64 0) (blk_set_other (g := w.heap.size + 1) 0 (.string (fB d.late x).2) (by omega) g5))
        have rB := Lib.hid (((hB0.trans (hBW.mono hB0.size)).setCell (p := ⟨w.heap.size + 1, 0, none⟩) (by simp) (.string (fB d.late x).2)).setCell (p := ⟨w.heap.size + 1 + 1, 0, none⟩) (by simp; omega) (.int .i64 0))
        clear g4 g5
        gi_wp2
        · rename_i hx
          have hx' : (fB d.late x).1 = i := by simpa using hx
          exact ⟨((KeepsOthers.setCell _ _ _).trans (KeepsOthers.setCell _ _ _)).from _, ⟨rfl, pre, x, rfl, hne, hx', cell_blk r4.out rfl, cell_blk r5.out rfl⟩, rB.out⟩
        · rename_i hx
          have hx' : ¬ (fB d.late x).1 = i := by simpa using hx
          refine ⟨KeepsFrom.refl _ _, Below.refl _ _, fun y hy => ?_, hBW⟩
          rcases List.mem_append.1 hy with hy | hy
          · exact hne y hy
          · rw [List.mem_singleton] at hy
            subst hy
            exact hx'
      case done =>
        rintro D ys W hD rfl ⟨hne, hBW⟩ hK
        have hlast := Lib.hid (lastW_none d.late i (fun k hk => hne k (List.mem_range.2 hk)))
        have hR : Hid (readD d i = (d.safe.getD i.toNat ⟨#[]⟩, 0)) := by unfold readD; rw [if_neg hb, if_neg (by omega), hlast.out]; exact Lib.hid rfl
        have hIW : IsDisk W base p g v d := hI0.frm (S := fun _ => False) (Frm.of_below hBW) (fun _ _ h => h)
        have e0 := cell_blk (i := 0) hIW.head rfl
        have e3 := cell_blk (i := 0) ((hBW.block _ (by omega)).trans d3) rfl
        have e4 := cell_blk (i := 0) ((hBW.block _ (by omega)).trans d4) rfl
        have e5 := cell_blk (i := 0) ((hBW.block _ (by omega)).trans d5) rfl
        have z4 := frozen_blk 0 ((hBW.block _ (by omega)).trans d4)
        have z5 := frozen_blk 0 ((hBW.block _ (by omega)).trans d5)
        obtain ⟨m, rfl⟩ := Int.eq_ofNat_of_zero_le hi0
        have hm : m < d.safe.length := by omega
        have eg : W.cell? ⟨g, m, none⟩ = some (.string (d.safe[m])) := cell_blk (i := m) hIW.safe (by simp [hm])
        have hgd : Hid (d.safe.getD (m : Int).toNat ⟨#[]⟩ = d.safe[m]) := by
          refine Lib.hid ?_
          rw [Int.toNat_natCast, List.getD_eq_getElem?_getD, List.getElem?_eq_getElem hm]
          rfl
        go_wp2
        go_region
        all_goals
          go_wp2
          have hK' : (((W.setCell ⟨w.heap.size + 1, 0, none⟩ (.string d.safe[m])).setCell ⟨w.heap.size + 1 + 1, 0, none⟩ (.int .i64 0)).drew).heap[D]? = some (.deferred (some [])) := ((KeepsOthers.setCell W ⟨w.heap.size + 1, 0, none⟩ (.string d.safe[m])).trans (KeepsOthers.setCell _ ⟨w.heap.size + 1 + 1, 0, none⟩ (.int .i64 0))).same D _ hK rfl
          refine ⟨by simp, .inl ⟨_, _, rfl, run_takeDeferred hK', ?_⟩⟩
          have g4 := (hBW.block _ (by omega)).trans d4
          have g5 := (hBW.block _ (by omega)).trans d5
          have r4 := cell_blk (bk_drew (blk_set_other (g := w.heap.size + 1 + 1) 0 (.int .i64 0) (by omega) (bk_set 0 (.string d.safe[m]) g4))) (i := 0) rfl
          have r5 := cell_blk (bk_drew (bk_set 0 (.int .i64 0) (blk_set_other (g := w.heap.size + 1) 0 (.string d.safe[m]) (by omega) g5))) (i := 0) rfl
          have hc4' := cell_kept r4 (grownBy_putObj' _ D (.deferred none)) (fun r e => by cases e; exact ⟨_, hK', rfl⟩)
          have hc5' := cell_kept r5 (grownBy_putObj' _ D (.deferred none)) (fun r e => by cases e; exact ⟨_, hK', rfl⟩)
          have rB := ((hB0.trans (hBW.mono hB0.size)).setCell (p := ⟨w.heap.size + 1, 0, none⟩) (by simp) (.string d.safe[m])).setCell (p := ⟨w.heap.size + 1 + 1, 0, none⟩) (by simp; omega) (.int .i64 0)
          refine ⟨.tuple #[.string d.safe[m], .int .i64 0], ?_, ret_se (by rw [hR.out]; exact hgd.out.symm) (by rw [hR.out]), (rB.drew).trans (belowK_b (w := w) (Nat.le_refl _) _ D _ _ (by omega) hK' rfl rfl)⟩
          simp [results, Try.f27, go_sem, hc4', hc5']
      case stop =>
        rintro D c' pre W hD hpre ⟨⟨rfl, pre', x, rfl, hne, hx, hc4, hc5⟩, hBW⟩ hK
        obtain ⟨k, hk, hpe⟩ := hpre
        rw [List.range_succ] at hpe
        obtain ⟨e1, e2⟩ := List.append_inj' hpe rfl
        have e2' : x = k := by simpa using e2
        subst e1 e2'
        have hlast := Lib.hid (lastW_some d.late i x hk hx (fun j hj => hne j (List.mem_range.2 hj)))
        have hR : Hid (readD d i = ((fB d.late x).2, 0)) := by unfold readD; rw [if_neg hb, if_neg (by omega), hlast.out]; exact Lib.hid rfl
        refine wpIn_wide.2 ?_
        go_wp2
        refine ⟨by simp, .inl ⟨_, _, rfl, run_takeDeferred hK, ?_⟩⟩
        have hc5' := cell_kept hc5 (grownBy_putObj' _ D (.deferred none)) (fun r e => by cases e; exact ⟨_, hK, rfl⟩)
        have hc4' := cell_kept hc4 (grownBy_putObj' _ D (.deferred none)) (fun r e => by cases e; exact ⟨_, hK, rfl⟩)
        refine ⟨.tuple #[.string (fB d.late x).2, .int .i64 0], ?_, ret_se (by rw [hR.out]) (by rw [hR.out]), hBW.trans (belowK_b (w := w) (Nat.le_refl _) W D _ _ (by omega) hK rfl rfl)⟩
        simp [results, Try.f27, go_sem, hc4', hc5']
    · have hD : Hid (readD d i = (⟨#[]⟩, 90)) := by unfold readD; rw [if_neg hb, if_pos hi]; exact Lib.hid rfl
      by_cases h1 : i < 0
      · clear hi
        go_enter Try.func27, Try.ntmps27
        go_wp2_with fail
        go_quiet (fail)
        go_wp2
        refine bodyPost_ret (v := .tuple #[.string ⟨#[]⟩, .int .i64 90]) (by simp [results, Try.f27, go_sem]) rfl ?_
        refine ⟨ret_se (by rw [hD.out]) (by rw [hD.out]), ?_⟩
        exact ((below_drewN HB.out nq).setCell (p := ⟨w.heap.size + 1, 0, none⟩) (by simp) _).setCell (p := ⟨w.heap.size + 1 + 1, 0, none⟩) (by simp; omega) _
      · have h2 : (d.safe.length : Int) ≤ i := by omega
        clear hi
        go_enter Try.func27, Try.ntmps27
        go_wp2_with fail
        go_quiet (fail)
        go_wp2
        refine bodyPost_ret (v := .tuple #[.string ⟨#[]⟩, .int .i64 90]) (by simp [results, Try.f27, go_sem]) rfl ?_
        refine ⟨ret_se (by rw [hD.out]) (by rw [hD.out]), ?_⟩
        exact ((below_drewN HB.out nq).setCell (p := ⟨w.heap.size + 1, 0, none⟩) (by simp) _).setCell (p := ⟨w.heap.size + 1 + 1, 0, none⟩) (by simp; omega) _
end Go.Proofs.Ythmdmbgjheploaa
set_option linter.unusedVariables false
set_option linter.unusedSimpArgs false
namespace Go.Proofs.Ythmdmbgjheploaa
open Go.RowKit
structure ActS where
  kind : Int
  at_ : Int
  data : ByteArray
  mask : Int
def ActS.ok (a : ActS) : Prop := (-9223372036854775808 ≤ a.kind ∧ a.kind ≤ 9223372036854775807) ∧ (-9223372036854775808 ≤ a.at_ ∧ a.at_ ≤ 9223372036854775807) ∧ a.data.size ≤ 140737488351232 ∧ (0 ≤ a.mask ∧ a.mask ≤ 18446744073709551615)
/-- the acts that a slice in memory holds -/
def Acts (w : World) (A : Option Addr) (l : List ActS) : Prop :=
  l.length ≤ 4398046511000 ∧ (∀ a ∈ l, a.ok) ∧ (0 < l.length → ∃ b off, A = some ⟨b, off, none⟩ ∧ b < w.heap.size ∧ ∀ k (h : k < l.length),
    w.cell? ⟨b, off + k * 4, none⟩ = some (.int .i64 (l[k]).kind) ∧ w.cell? ⟨b, off + k * 4 + 1, none⟩ = some (.int .i64 (l[k]).at_) ∧ w.cell? ⟨b, off + k * 4 + 2, none⟩ = some (.string (l[k]).data) ∧ w.cell? ⟨b, off + k * 4 + 3, none⟩ = some (.int .u64 (l[k]).mask))
theorem Acts.below {w w' : World} {A : Option Addr} {l : List ActS} (h : Acts w A l) (hb : Below w.heap.size w w') : Acts w' A l := by
  obtain ⟨h0, h1, h2⟩ := h
  refine ⟨h0, h1, fun hp => ?_⟩
  obtain ⟨b, off, e, hl, hc⟩ := h2 hp
  have hc' : ∀ j, w'.cell? ⟨b, j, none⟩ = w.cell? ⟨b, j, none⟩ := fun j => hb.cell (p := ⟨b, j, none⟩) hl
  exact ⟨b, off, e, Nat.lt_of_lt_of_le hl hb.size, fun k hk => by simp only [hc']; exact hc k hk⟩
def cur (d : DiskS) (j : Nat) : ByteArray := (lastW d.late j).getD (d.safe.getD j ⟨#[]⟩)
theorem lastW_snoc (l : List (Int × ByteArray)) (x : Int × ByteArray) (i : Int) : lastW (l ++ [x]) i = if x.1 = i then some x.2 else lastW l i := by
  unfold lastW
  rw [List.reverse_append, List.reverse_singleton, List.singleton_append, List.find?_cons]
  by_cases h : x.1 = i
  · simp [h]
  · have : (x.1 == i) = false := by simpa using h
    simp [h, this]
theorem list_snoc {α : Type} (l : List α) (h : 0 < l.length) : ∃ l' x, l = l' ++ [x] :=
  ⟨l.dropLast, l.getLast (by intro e; rw [e] at h; simp at h), (List.dropLast_concat_getLast _).symm⟩
theorem keep_all (n : Nat) : ∀ (l : List (Int × ByteArray)) (safe : List ByteArray) (j : Nat), l.length = n → (∀ x ∈ l, 0 ≤ x.1 ∧ x.1 < safe.length) → j < safe.length →
    (keepD (fun _ => true) safe l 0).getD j ⟨#[]⟩ = (lastW l j).getD (safe.getD j ⟨#[]⟩) := by
  induction n with
  | zero =>
    intro l safe j hl _ _
    obtain rfl := List.eq_nil_of_length_eq_zero hl
    rfl
  | succ n ih =>
    intro l safe j hl hx hj
    obtain ⟨l', x, rfl⟩ := list_snoc l (by omega)
    have hl' : l'.length = n := by simpa using hl
    have hkl := keepD_length (fun _ => true) l' safe 0
    have h1 := ih l' safe j hl' (fun y hy => hx y (by simp [hy])) hj
    have hxb := hx x (by simp)
    rw [keepD_snoc, if_pos rfl, lastW_snoc, List.getD_eq_getElem?_getD, List.getElem?_set]
    by_cases h : x.1 = (j : Int)
    · rw [if_pos (by omega), if_pos (by rw [hkl]; omega), if_pos h]
      rfl
    · rw [if_neg (by omega), if_neg h, ← List.getD_eq_getElem?_getD, h1]
theorem spend_free (d : DiskS) (hb : d.blown = false) (hf : d.fuse = -1) : spendD d = (d, 0) := by
  unfold spendD
  rw [if_neg (by rw [hb, hf]; decide), if_neg (by rw [hf]; decide)]
theorem write_free (d : DiskS) (hb : d.blown = false) (hf : d.fuse = -1) (a : Int) (s : ByteArray) : wrD d a s = if 0 ≤ a ∧ a < d.safe.length ∧ s.size ≤ 256 then ({ d with late := d.late ++ [(a, s)] }, 0) else (d, 90) := by
  unfold wrD
  rw [spend_free d hb hf]
  by_cases h : 0 ≤ a ∧ a < d.safe.length ∧ s.size ≤ 256
  · rw [if_neg (fun k => k.2 h), if_pos rfl, if_pos h]
  · rw [if_pos ⟨hb, h⟩, if_neg h]
theorem sync_free (d : DiskS) (hb : d.blown = false) (hf : d.fuse = -1) : syncD d = ({ d with safe := keepD (fun _ => true) d.safe d.late 0, late := [] }, 0) := by
  unfold syncD
  rw [spend_free d hb hf, if_pos rfl]
theorem IsDisk.low {w : World} {base p g : Nat} {v : Value} {d : DiskS} (h : IsDisk w base p g v d) : ∀ i, DSet p g v i → base ≤ i := by
  rintro i (rfl | rfl | h4)
  · exact h.bp
  · exact h.bg
  · rcases h.late.2 with ⟨rfl, _⟩ | ⟨g', cap, cur, rfl, hb, hh, _⟩
    · simp [Value.ownBlock] at h4
    · have : g' = i := by simpa [Value.ownBlock] using h4
      omega
/-- what a call on a disk leaves of what lay ahead of it -/
theorem IsDisk.below {W W' : World} {base p g : Nat} {v : Value} {d : DiskS} (h : IsDisk W base p g v d) (hs : base ≤ W.heap.size) (hf : Frm (DSet p g v) W W') : Below base W W' :=
  hf.below hs (fun i hi hS => by have := h.low i hS; omega)
def exD (safe : List ByteArray) (late : List (Int × ByteArray)) : DiskS := { safe := safe, late := late, fuse := -1, blown := false }
theorem ex0 : newD 1 = exD [⟨#[]⟩] [] := rfl
theorem ex1 : wrD (exD [⟨#[]⟩] []) 0 ⟨#[97]⟩ = (exD [⟨#[]⟩] [(0, ⟨#[97]⟩)], 0) := by rw [write_free _ rfl rfl]; rfl
theorem ex2 : syncD (exD [⟨#[]⟩] [(0, ⟨#[97]⟩)]) = (exD [⟨#[97]⟩] [], 0) := by rw [sync_free _ rfl rfl]; rfl
theorem ex3 : wrD (exD [⟨#[97]⟩] []) 0 ⟨#[98]⟩ = (exD [⟨#[97]⟩] [(0, ⟨#[98]⟩)], 0) := by rw [write_free _ rfl rfl]; rfl
theorem ex4 : crashD (exD [⟨#[97]⟩] [(0, ⟨#[98]⟩)]) 0 = exD [⟨#[97]⟩] [] := rfl
theorem ex5 : crashD (exD [⟨#[97]⟩] [(0, ⟨#[98]⟩)]) 1 = exD [⟨#[98]⟩] [] := rfl
theorem ex6 (s : ByteArray) : readD (exD [s] []) 0 = (s, 0) := rfl
set_option maxHeartbeats 3200000 in
theorem bawake_any (w : World) : Calls Try.prog 28 #[] w fun e w' => e = .returned (.bool true) ∧ Below w.heap.size w w' := by
  have hn := Lib.hid (new_any w 1 (by omega) (by omega))
  go_enter Try.func28, Try.ntmps28
  go_wp2_with fail
  refine hn.out.mono ?_
  rintro e w1 ⟨p, g, rfl, hd, hb⟩
  rw [ex0] at hd
  have hd1 := Lib.hid hd
  clear hd
  go_wp2_with fail
  have c1 := write_any w1 _ p g _ _ 0 ⟨#[97]⟩ hd1.out (by decide) (by decide)
  rw [ex1] at c1
  refine c1.mono ?_
  clear c1
  rintro e w2 ⟨v2, rfl, hd2, hf2, hv2⟩
  have hd2' := Lib.hid hd2
  clear hd2
  go_wp2_with fail
  have c1 := sync_any w2 _ p g _ _ hd2'.out
  rw [ex2] at c1
  refine c1.mono ?_
  clear c1
  rintro e w3 ⟨v3, rfl, hd3, hf3, hv3⟩
  have hd3' := Lib.hid hd3
  clear hd3
  go_wp2_with fail
  have c1 := write_any w3 _ p g _ _ 0 ⟨#[98]⟩ hd3'.out (by decide) (by decide)
  rw [ex3] at c1
  refine c1.mono ?_
  clear c1
  rintro e w4 ⟨v4, rfl, hd4, hf4, hv4⟩
  have hd4' := Lib.hid hd4
  clear hd4
  go_wp2_with fail
  have c1 := crash_any w4 _ p g _ _ 0 (by decide) hd4'.out
  rw [ex4] at c1
  refine c1.mono ?_
  clear c1
  rintro e w5 ⟨v5, rfl, hd5, hf5, hv5⟩
  have hd5' := Lib.hid hd5
  clear hd5
  go_wp2_with fail
  have c1 := read_any w5 _ p g _ _ 0 hd5'.out
  rw [ex6] at c1
  refine c1.mono ?_
  clear c1
  rintro e w6 ⟨rfl, hb6⟩
  have hd6 := Lib.hid (hd5'.out.frm (S := fun _ => False) (Frm.of_below hb6) (fun _ _ h => h))
  go_wp2_with fail
  have c1 := write_any w6 _ p g _ _ 0 ⟨#[98]⟩ hd6.out (by decide) (by decide)
  rw [ex3] at c1
  refine c1.mono ?_
  clear c1
  rintro e w7 ⟨v7, rfl, hd7, hf7, hv7⟩
  have hd7' := Lib.hid hd7
  clear hd7
  go_wp2_with fail
  have c1 := crash_any w7 _ p g _ _ 1 (by decide) hd7'.out
  rw [ex5] at c1
  refine c1.mono ?_
  clear c1
  rintro e w8 ⟨v8, rfl, hd8, hf8, hv8⟩
  have hd8' := Lib.hid hd8
  clear hd8
  go_wp2_with fail
  have c1 := read_any w8 _ p g _ _ 0 hd8'.out
  rw [ex6] at c1
  refine c1.mono ?_
  clear c1
  rintro e w9 ⟨rfl, hb9⟩
  go_wp2
  go_ret
  refine ⟨rfl, ?_⟩
  have low : ∀ {W W' : World} {v : Value} {d : DiskS}, w.heap.size ≤ W.heap.size → IsDisk W w.heap.size p g v d → Frm (DSet p g v) W W' → Below w.heap.size W W' := by
    intro W W' v d hs hI hf
    exact hf.below hs (fun i hi hS => by have := hI.low i hS; omega)
  have s1 := hb.size
  have b2 := hb.trans (low s1 hd1.out hf2)
  have b3 := b2.trans (low b2.size hd2'.out hf3)
  have b4 := b3.trans (low b3.size hd3'.out hf4)
  have b5 := b4.trans (low b4.size hd4'.out hf5)
  have b6 := b5.trans (hb6.mono b5.size)
  have b7 := b6.trans (low b6.size hd6.out hf7)
  have b8 := b7.trans (low b7.size hd7'.out hf8)
  exact b8.trans (hb9.mono b8.size)
end Go.Proofs.Ythmdmbgjheploaa
set_option linter.unusedVariables false
set_option linter.unusedSimpArgs false
namespace Go.Proofs.Ythmdmbgjheploaa
open Go.RowKit Go.ChangeShapes Go.WideShapes Go.Deep
theorem mem_weightsAll {H : Type} {P : Program} {e : TypeId} {l : List (DataW H)} {d : DataW H} (hd : d ∈ l) {n : Nat} (hn : n ∈ d.weights P e) : n ∈ DataW.weightsAll P e l := by
  induction l with
  | nil => cases hd
  | cons x r ih =>
    simp only [DataW.weightsAll, List.mem_append]
    rcases List.mem_cons.1 hd with h | h
    · subst h; exact .inl hn
    · exact .inr (ih h)
theorem sz_list (s : ByteArray) : s.data.toList.length = s.size := by rw [Array.length_toList]; rfl
theorem addr_plain {w : World} {a : Addr} {v : Value} (h : w.cell? a = some v) : a = ⟨a.block, a.off, none⟩ ∧ a.block < w.heap.size := by
  unfold World.cell? at h
  cases hb : w.heap[a.block]? with
  | none => simp [hb] at h
  | some o =>
    refine ⟨?_, bk_lt hb⟩
    cases o <;> simp [hb] at h
    obtain ⟨h1, _⟩ := h
    cases a
    simp_all
theorem add_plain' (b o j : Nat) : (⟨b, o, none⟩ : Addr).add j = ⟨b, o + j, none⟩ := by unfold Addr.add; split <;> simp_all
theorem open_acts {H : Type} {enc : TypeId × Value → H} {w : World} {base : Nat} {spare : Nat → Bool} {held : Bool} {fuel : Nat} {A : Option Addr} {len cap : Nat} {x : DataW H × List MemPlace}
    (h : DataW.trod enc Try.prog w base spare held fuel 34 [.slice A len cap] = some x) (hz : ∀ n ∈ x.1.weights Try.prog 34, n ≤ reachBytes) :
    ∃ l : List ActS, l.length = len ∧ Acts w A l := by
  have hC : Try.prog.cellsOf 39 = 4 := by kernel_rfl
  have hB : Try.prog.bytesOf 39 = 40 := by kernel_rfl
  rcases open_slice Try.underlying34 h with ⟨hcs, _⟩ | ⟨a, n, c, m, f, D, Pl, hcs, hb, hl, hm, hmm, hx, hi⟩
  · simp at hcs
    obtain ⟨rfl, rfl, rfl⟩ := hcs
    exact ⟨[], rfl, by simp, by simp, by simp⟩
  · simp at hcs
    obtain ⟨rfl, rfl, rfl⟩ := hcs
    have hlm : len ≤ m := by rw [hmm]; split <;> omega
    have key : ∀ i, i < len → ∃ r : ActS, r.ok ∧ w.cell? (a.add (i * 4)) = some (.int .i64 r.kind) ∧ w.cell? ((a.add (i * 4)).add 1) = some (.int .i64 r.at_) ∧ w.cell? ((a.add (i * 4)).add 2) = some (.string r.data) ∧ w.cell? ((a.add (i * 4)).add 3) = some (.int .u64 r.mask) := by
      intro i hil
      obtain ⟨cs', hc, ht⟩ := hi i (by omega)
      rw [hC] at hc
      obtain ⟨_, hcl, hat⟩ := World.cells?_some hc
      obtain ⟨xs, n', _, hxx, _, hxl, hf⟩ := DataW.trod_struct Try.underlying39 ht
      match cs', hcl with
      | [c0, c1, c2, c3], _ =>
        have f0 := hf 0 _ rfl
        have f1 := hf 1 _ rfl
        have f2 := hf 2 _ rfl
        have f3 := hf 3 _ rfl
        match xs, hxl with
        | [y0, y1, y2, y3], _ =>
          obtain ⟨k0, e0, q0, b0⟩ := DataW.trod_int Try.underlying3 (cs := [c0]) f0
          obtain ⟨k1, e1, q1, b1⟩ := DataW.trod_int Try.underlying3 (cs := [c1]) f1
          obtain ⟨s2, e2, q2, b2⟩ := DataW.trod_string Try.underlying9 (cs := [c2]) f2
          obtain ⟨k3, e3, q3, b3⟩ := DataW.trod_int Try.underlying22 (cs := [c3]) f3
          simp only [List.cons.injEq, and_true] at e0 e1 e2 e3
          subst e0 e1 e2 e3
          refine ⟨⟨k0, k1, s2, k3⟩, ⟨bounds_i64 b0, bounds_i64 b1, ?_, bounds_u64 b3⟩, hat 0 (by omega), ?_, ?_, ?_⟩
          · have hmem : s2.data.toList.length ∈ x.1.weights Try.prog 34 := by
              rw [hx]
              simp only [DataW.weights, Try.underlying34]
              refine List.mem_cons_of_mem _ (List.mem_append_left _ (mem_weightsAll (d := D i) (List.mem_map.2 ⟨i, List.mem_range.2 hil, rfl⟩) ?_))
              have hD : D i = .agg [y0.1, y1.1, y2.1, y3.1] := by
                have := congrArg Prod.fst hxx
                simpa using this
              rw [hD, q0, q1, q2, q3]
              simp [DataW.weights, DataW.weightsEach, Try.underlying39]
            have := hz _ hmem
            rw [sz_list] at this
            unfold reachBytes at this
            omega
          · simpa [Go.Deep.add_add] using hat 1 (by omega)
          · simpa [Go.Deep.add_add] using hat 2 (by omega)
          · simpa [Go.Deep.add_add] using hat 3 (by omega)
    have hex : ∀ i, ∃ r : ActS, i < len → (r.ok ∧ w.cell? (a.add (i * 4)) = some (.int .i64 r.kind) ∧ w.cell? ((a.add (i * 4)).add 1) = some (.int .i64 r.at_) ∧ w.cell? ((a.add (i * 4)).add 2) = some (.string r.data) ∧ w.cell? ((a.add (i * 4)).add 3) = some (.int .u64 r.mask)) := by
      intro i
      by_cases h : i < len
      · obtain ⟨r, hr⟩ := key i h
        exact ⟨r, fun _ => hr⟩
      · exact ⟨⟨0, 0, ⟨#[]⟩, 0⟩, fun h' => absurd h' h⟩
    obtain ⟨V, hV⟩ : ∃ V : Nat → ActS, ∀ i, i < len → ((V i).ok ∧ w.cell? (a.add (i * 4)) = some (.int .i64 (V i).kind) ∧ w.cell? ((a.add (i * 4)).add 1) = some (.int .i64 (V i).at_) ∧ w.cell? ((a.add (i * 4)).add 2) = some (.string (V i).data) ∧ w.cell? ((a.add (i * 4)).add 3) = some (.int .u64 (V i).mask)) :=
      ⟨fun i => Classical.choose (hex i), fun i hi => Classical.choose_spec (hex i) hi⟩
    have hbytes : (len + (m - len)) * 40 ≤ reachBytes := by
      have hmem : (len + (m - len)) * 40 ∈ x.1.weights Try.prog 34 := by
        rw [hx]
        simp only [DataW.weights, Try.underlying34]
        rw [hB]
        simp
      exact hz _ hmem
    refine ⟨(List.range len).map V, by simp, ?_, ?_, ?_⟩
    · simp only [List.length_map, List.length_range]
      unfold reachBytes at hbytes
      omega
    · intro r hr
      obtain ⟨i, hi', rfl⟩ := List.mem_map.1 hr
      exact (hV i (List.mem_range.1 hi')).1
    · intro hp
      have hp' : 0 < len := by simpa using hp
      have h0 := (hV 0 hp').2.1
      have ha0 : a.add (0 * 4) = a := by simp [Addr.add]
      rw [ha0] at h0
      obtain ⟨ha, hlt⟩ := addr_plain h0
      refine ⟨a.block, a.off, by rw [← ha], hlt, fun k hk => ?_⟩
      have hk' : k < len := by simpa using hk
      have hk4 := (hV k hk').2
      rw [ha] at hk4
      simp only [add_plain'] at hk4
      simpa using hk4
end Go.Proofs.Ythmdmbgjheploaa
set_option linter.unusedVariables false
set_option linter.unusedSimpArgs false
namespace Go.Proofs.Ythmdmbgjheploaa
open Go.RowKit Go.ChangeShapes Go.WideShapes Go.Deep
theorem blocks_nil (w : World) : Calls Try.prog 31 #[.pointer none] w fun e w' => e = .returned (.int .i64 0) ∧ w' = w := by
  go_enter Try.func31, Try.ntmps31
  go_wp2
  go_ret
  exact ⟨rfl, rfl⟩
end Go.Proofs.Ythmdmbgjheploaa
