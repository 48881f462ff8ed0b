/- What is common to the walks of layer 20's statements: the acts that are handed in, a disk of eight blocks, the chapter's example. -/
import Derived.Test.YthmdmbgjheploaaBlkQ
set_option linter.unusedVariables false
set_option linter.unusedSimpArgs false
namespace Go.Proofs.Ythmdmbgjheploaa
open Go.RowKit

structure ActS where
  kind : Int
  at_ : Int
  data : ByteArray
  mask : Int
def ActS.ok (a : ActS) : Prop := (-9223372036854775808 ≤ a.kind ∧ a.kind ≤ 9223372036854775807) ∧ (-9223372036854775808 ≤ a.at_ ∧ a.at_ ≤ 9223372036854775807) ∧ a.data.size ≤ 140737488351232 ∧ (0 ≤ a.mask ∧ a.mask ≤ 18446744073709551615)
/-- the acts that a slice in memory holds -/
def Acts (w : World) (A : Option Addr) (l : List ActS) : Prop :=
  l.length ≤ 4398046511000 ∧ (∀ a ∈ l, a.ok) ∧ (0 < l.length → ∃ b off, A = some ⟨b, off, none⟩ ∧ b < w.heap.size ∧ ∀ k (h : k < l.length),
    w.cell? ⟨b, off + k * 4, none⟩ = some (.int .i64 (l[k]).kind) ∧ w.cell? ⟨b, off + k * 4 + 1, none⟩ = some (.int .i64 (l[k]).at_) ∧ w.cell? ⟨b, off + k * 4 + 2, none⟩ = some (.string (l[k]).data) ∧ w.cell? ⟨b, off + k * 4 + 3, none⟩ = some (.int .u64 (l[k]).mask))
theorem Acts.below {w w' : World} {A : Option Addr} {l : List ActS} (h : Acts w A l) (hb : Below w.heap.size w w') : Acts w' A l := by
  obtain ⟨h0, h1, h2⟩ := h
  refine ⟨h0, h1, fun hp => ?_⟩
  obtain ⟨b, off, e, hl, hc⟩ := h2 hp
  have hc' : ∀ j, w'.cell? ⟨b, j, none⟩ = w.cell? ⟨b, j, none⟩ := fun j => hb.cell (p := ⟨b, j, none⟩) hl
  exact ⟨b, off, e, Nat.lt_of_lt_of_le hl hb.size, fun k hk => by simp only [hc']; exact hc k hk⟩

/-! what a block reads as -/
def cur (d : DiskS) (j : Nat) : ByteArray := (lastW d.late j).getD (d.safe.getD j ⟨#[]⟩)
theorem lastW_snoc (l : List (Int × ByteArray)) (x : Int × ByteArray) (i : Int) : lastW (l ++ [x]) i = if x.1 = i then some x.2 else lastW l i := by
  unfold lastW
  rw [List.reverse_append, List.reverse_singleton, List.singleton_append, List.find?_cons]
  by_cases h : x.1 = i
  · simp [h]
  · have : (x.1 == i) = false := by simpa using h
    simp [h, this]
theorem list_snoc {α : Type} (l : List α) (h : 0 < l.length) : ∃ l' x, l = l' ++ [x] :=
  ⟨l.dropLast, l.getLast (by intro e; rw [e] at h; simp at h), (List.dropLast_concat_getLast _).symm⟩
theorem keep_all (n : Nat) : ∀ (l : List (Int × ByteArray)) (safe : List ByteArray) (j : Nat), l.length = n → (∀ x ∈ l, 0 ≤ x.1 ∧ x.1 < safe.length) → j < safe.length →
    (keepD (fun _ => true) safe l 0).getD j ⟨#[]⟩ = (lastW l j).getD (safe.getD j ⟨#[]⟩) := by
  induction n with
  | zero =>
    intro l safe j hl _ _
    obtain rfl := List.eq_nil_of_length_eq_zero hl
    rfl
  | succ n ih =>
    intro l safe j hl hx hj
    obtain ⟨l', x, rfl⟩ := list_snoc l (by omega)
    have hl' : l'.length = n := by simpa using hl
    have hkl := keepD_length (fun _ => true) l' safe 0
    have h1 := ih l' safe j hl' (fun y hy => hx y (by simp [hy])) hj
    have hxb := hx x (by simp)
    rw [keepD_snoc, if_pos rfl, lastW_snoc, List.getD_eq_getElem?_getD, List.getElem?_set]
    by_cases h : x.1 = (j : Int)
    · rw [if_pos (by omega), if_pos (by rw [hkl]; omega), if_pos h]
      rfl
    · rw [if_neg (by omega), if_neg h, ← List.getD_eq_getElem?_getD, h1]
theorem cur_write (d : DiskS) (a : Nat) (s : ByteArray) (j : Nat) : cur { d with late := d.late ++ [((a : Int), s)] } j = if a = j then s else cur d j := by
  unfold cur
  simp only [lastW_snoc]
  by_cases h : a = j
  · subst h; simp
  · rw [if_neg (by omega), if_neg h]
theorem cur_keep (d : DiskS) (j : Nat) (f : Int) (b : Bool) (hx : ∀ x ∈ d.late, 0 ≤ x.1 ∧ x.1 < d.safe.length) (hj : j < d.safe.length) : cur { safe := keepD (fun _ => true) d.safe d.late 0, late := [], fuse := f, blown := b } j = cur d j := by
  unfold cur
  rw [keep_all d.late.length d.late d.safe j rfl hx hj]
  rfl
theorem read_cur (d : DiskS) (j : Nat) (hb : d.blown = false) (hj : j < d.safe.length) : readD d j = (cur d j, 0) := by
  unfold readD cur
  rw [if_neg (by rw [hb]; decide), if_neg (by omega), Int.toNat_natCast]
theorem spend_free (d : DiskS) (hb : d.blown = false) (hf : d.fuse = -1) : spendD d = (d, 0) := by
  unfold spendD
  rw [if_neg (by rw [hb, hf]; decide), if_neg (by rw [hf]; decide)]
theorem write_free (d : DiskS) (hb : d.blown = false) (hf : d.fuse = -1) (a : Int) (s : ByteArray) : wrD d a s = if 0 ≤ a ∧ a < d.safe.length ∧ s.size ≤ 256 then ({ d with late := d.late ++ [(a, s)] }, 0) else (d, 90) := by
  unfold wrD
  rw [spend_free d hb hf]
  by_cases h : 0 ≤ a ∧ a < d.safe.length ∧ s.size ≤ 256
  · rw [if_neg (fun k => k.2 h), if_pos rfl, if_pos h]
  · rw [if_pos ⟨hb, h⟩, if_neg h]
theorem sync_free (d : DiskS) (hb : d.blown = false) (hf : d.fuse = -1) : syncD d = ({ d with safe := keepD (fun _ => true) d.safe d.late 0, late := [] }, 0) := by
  unfold syncD
  rw [spend_free d hb hf, if_pos rfl]

theorem IsDisk.low {w : World} {base p g : Nat} {v : Value} {d : DiskS} (h : IsDisk w base p g v d) : ∀ i, DSet p g v i → base ≤ i := by
  rintro i (rfl | rfl | h4)
  · exact h.bp
  · exact h.bg
  · rcases h.late.2 with ⟨rfl, _⟩ | ⟨g', cap, cur, rfl, hb, hh, _⟩
    · simp [Value.ownBlock] at h4
    · have : g' = i := by simpa [Value.ownBlock] using h4
      omega
/-- what a call on a disk leaves of what lay ahead of it -/
theorem IsDisk.below {W W' : World} {base p g : Nat} {v : Value} {d : DiskS} (h : IsDisk W base p g v d) (hs : base ≤ W.heap.size) (hf : Frm (DSet p g v) W W') : Below base W W' :=
  hf.below hs (fun i hi hS => by have := h.low i hS; omega)

/-! a disk of eight blocks -/
def SomePost (w : World) (e : Ending) (w' : World) : Prop :=
  ∃ p g, e = .returned (.pointer (some ⟨p, 0, none⟩)) ∧ IsDisk w' w.heap.size p g (.slice none 0 0) (newD 8) ∧ Below w.heap.size w w'
theorem some_any (w : World) : Calls Try.prog 24 #[] w (SomePost w) := by
  have hn := Lib.hid (new_any w 8 (by omega) (by omega))
  go_enter Try.func24, Try.ntmps24
  go_wp2_with fail
  refine hn.out.mono ?_
  rintro e w1 ⟨p, g, rfl, hd, hb⟩
  have hd' := Lib.hid hd
  clear hd
  go_wp2
  go_ret
  exact ⟨p, g, rfl, hd'.out, hb⟩

/-! the chapter's example -/
def exD (safe : List ByteArray) (late : List (Int × ByteArray)) : DiskS := { safe := safe, late := late, fuse := -1, blown := false }
theorem ex0 : newD 1 = exD [⟨#[]⟩] [] := rfl
theorem ex1 : wrD (exD [⟨#[]⟩] []) 0 ⟨#[97]⟩ = (exD [⟨#[]⟩] [(0, ⟨#[97]⟩)], 0) := by rw [write_free _ rfl rfl]; rfl
theorem ex2 : syncD (exD [⟨#[]⟩] [(0, ⟨#[97]⟩)]) = (exD [⟨#[97]⟩] [], 0) := by rw [sync_free _ rfl rfl]; rfl
theorem ex3 : wrD (exD [⟨#[97]⟩] []) 0 ⟨#[98]⟩ = (exD [⟨#[97]⟩] [(0, ⟨#[98]⟩)], 0) := by rw [write_free _ rfl rfl]; rfl
theorem ex4 : crashD (exD [⟨#[97]⟩] [(0, ⟨#[98]⟩)]) 0 = exD [⟨#[97]⟩] [] := rfl
theorem ex5 : crashD (exD [⟨#[97]⟩] [(0, ⟨#[98]⟩)]) 1 = exD [⟨#[98]⟩] [] := rfl
theorem ex6 (s : ByteArray) : readD (exD [s] []) 0 = (s, 0) := rfl
set_option maxHeartbeats 3200000 in
theorem bawake_any (w : World) : Calls Try.prog 28 #[] w fun e w' => e = .returned (.bool true) ∧ Below w.heap.size w w' := by
  have hn := Lib.hid (new_any w 1 (by omega) (by omega))
  go_enter Try.func28, Try.ntmps28
  go_wp2_with fail
  refine hn.out.mono ?_
  rintro e w1 ⟨p, g, rfl, hd, hb⟩
  rw [ex0] at hd
  have hd1 := Lib.hid hd
  clear hd
  go_wp2_with fail
  have c1 := write_any w1 _ p g _ _ 0 ⟨#[97]⟩ hd1.out (by decide) (by decide)
  rw [ex1] at c1
  refine c1.mono ?_
  clear c1
  rintro e w2 ⟨v2, rfl, hd2, hf2, hv2⟩
  have hd2' := Lib.hid hd2
  clear hd2
  go_wp2_with fail
  have c1 := sync_any w2 _ p g _ _ hd2'.out
  rw [ex2] at c1
  refine c1.mono ?_
  clear c1
  rintro e w3 ⟨v3, rfl, hd3, hf3, hv3⟩
  have hd3' := Lib.hid hd3
  clear hd3
  go_wp2_with fail
  have c1 := write_any w3 _ p g _ _ 0 ⟨#[98]⟩ hd3'.out (by decide) (by decide)
  rw [ex3] at c1
  refine c1.mono ?_
  clear c1
  rintro e w4 ⟨v4, rfl, hd4, hf4, hv4⟩
  have hd4' := Lib.hid hd4
  clear hd4
  go_wp2_with fail
  have c1 := crash_any w4 _ p g _ _ 0 (by decide) hd4'.out
  rw [ex4] at c1
  refine c1.mono ?_
  clear c1
  rintro e w5 ⟨v5, rfl, hd5, hf5, hv5⟩
  have hd5' := Lib.hid hd5
  clear hd5
  go_wp2_with fail
  have c1 := read_any w5 _ p g _ _ 0 hd5'.out
  rw [ex6] at c1
  refine c1.mono ?_
  clear c1
  rintro e w6 ⟨rfl, hb6⟩
  have hd6 := Lib.hid (hd5'.out.frm (S := fun _ => False) (Frm.of_below hb6) (fun _ _ h => h))
  go_wp2_with fail
  have c1 := write_any w6 _ p g _ _ 0 ⟨#[98]⟩ hd6.out (by decide) (by decide)
  rw [ex3] at c1
  refine c1.mono ?_
  clear c1
  rintro e w7 ⟨v7, rfl, hd7, hf7, hv7⟩
  have hd7' := Lib.hid hd7
  clear hd7
  go_wp2_with fail
  have c1 := crash_any w7 _ p g _ _ 1 (by decide) hd7'.out
  rw [ex5] at c1
  refine c1.mono ?_
  clear c1
  rintro e w8 ⟨v8, rfl, hd8, hf8, hv8⟩
  have hd8' := Lib.hid hd8
  clear hd8
  go_wp2_with fail
  have c1 := read_any w8 _ p g _ _ 0 hd8'.out
  rw [ex6] at c1
  refine c1.mono ?_
  clear c1
  rintro e w9 ⟨rfl, hb9⟩
  go_wp2
  go_ret
  refine ⟨rfl, ?_⟩
  have low : ∀ {W W' : World} {v : Value} {d : DiskS}, w.heap.size ≤ W.heap.size → IsDisk W w.heap.size p g v d → Frm (DSet p g v) W W' → Below w.heap.size W W' := by
    intro W W' v d hs hI hf
    exact hf.below hs (fun i hi hS => by have := hI.low i hS; omega)
  have s1 := hb.size
  have b2 := hb.trans (low s1 hd1.out hf2)
  have b3 := b2.trans (low b2.size hd2'.out hf3)
  have b4 := b3.trans (low b3.size hd3'.out hf4)
  have b5 := b4.trans (low b4.size hd4'.out hf5)
  have b6 := b5.trans (hb6.mono b5.size)
  have b7 := b6.trans (low b6.size hd6.out hf7)
  have b8 := b7.trans (low b7.size hd7'.out hf8)
  exact b8.trans (hb9.mono b8.size)
end Go.Proofs.Ythmdmbgjheploaa
