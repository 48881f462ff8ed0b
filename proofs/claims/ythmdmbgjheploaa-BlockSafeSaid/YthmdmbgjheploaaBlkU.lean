/- What BlockSafe keeps: eight rows of texts, each the block that is safe and all that was written to it since. -/
import Derived.Test.YthmdmbgjheploaaBlkD
import Derived.Laws.OwnMore
set_option linter.unusedVariables false
set_option linter.unusedSimpArgs false
namespace Go.Proofs.Ythmdmbgjheploaa
open Go.RowKit

def mayOf (S : List ByteArray) (late : List (Int × ByteArray)) (j : Nat) : List ByteArray := S.getD j ⟨#[]⟩ :: (late.filter fun x => x.1 == (j : Int)).map (·.2)
theorem mayOf_snoc (S : List ByteArray) (late : List (Int × ByteArray)) (a : Nat) (s : ByteArray) (j : Nat) : mayOf S (late ++ [((a : Int), s)]) j = if j = a then mayOf S late j ++ [s] else mayOf S late j := by
  unfold mayOf
  rw [List.filter_append]
  by_cases h : j = a
  · subst h; simp
  · have : ((a : Int) == (j : Int)) = false := by simp; omega
    simp [h, this]
theorem mayOf_length (S : List ByteArray) (late : List (Int × ByteArray)) (j : Nat) : 1 ≤ (mayOf S late j).length ∧ (mayOf S late j).length ≤ late.length + 1 := by
  unfold mayOf
  have := List.length_filter_le (fun x : Int × ByteArray => x.1 == (j : Int)) late
  simp; omega
theorem keep_may (bits : Nat → Bool) (n : Nat) : ∀ (l : List (Int × ByteArray)) (S : List ByteArray) (j : Nat), l.length = n → (∀ x ∈ l, 0 ≤ x.1 ∧ x.1 < S.length) → j < S.length → (keepD bits S l 0).getD j ⟨#[]⟩ ∈ mayOf S l j := by
  induction n with
  | zero =>
    intro l S j hl _ _
    obtain rfl := List.eq_nil_of_length_eq_zero hl
    exact List.mem_cons_self
  | succ n ih =>
    intro l S j hl hx hj
    obtain ⟨l', x, rfl⟩ := list_snoc l (by omega)
    have hl' : l'.length = n := by simpa using hl
    have h1 := ih l' S j hl' (fun y hy => hx y (by simp [hy])) hj
    have hxb := hx x (by simp)
    have hkl := keepD_length bits l' S 0
    obtain ⟨xa, xs⟩ := x
    obtain ⟨a, rfl⟩ := Int.eq_ofNat_of_zero_le hxb.1
    have ha : a < S.length := by have := hxb.2; simpa using this
    have hsn := keepD_snoc bits l' ((a : Int), xs) S 0
    rw [mayOf_snoc, hsn]
    have base : (keepD bits S l' 0).getD j ⟨#[]⟩ ∈ (if j = a then mayOf S l' j ++ [xs] else mayOf S l' j) := by
      split
      · exact List.mem_append_left _ h1
      · exact h1
    by_cases hbt : bits (0 + l'.length) = true
    · have ht : ((a : Int), xs).1.toNat = a := Int.toNat_natCast a
      rw [if_pos hbt, ht, set_getD _ _ _ _ (by rw [hkl]; exact ha)]
      by_cases e : a = j
      · rw [if_pos e, if_pos e.symm]; simp
      · rw [if_neg e]
        exact base
    · rw [if_neg hbt]
      exact base
theorem crash_may (d : DiskS) (m j : Nat) (hx : ∀ x ∈ d.late, 0 ≤ x.1 ∧ x.1 < d.safe.length) (hj : j < d.safe.length) : cur (crashD d m) j ∈ mayOf d.safe d.late j := keep_may _ _ d.late d.safe j rfl hx hj

def upd (V : Nat → Value) (a : Nat) (v : Value) (i : Nat) : Value := if i = a then v else V i
structure Mays (bl base k : Nat) (W : World) (S : List ByteArray) (late : List (Int × ByteArray)) (V : Nat → Value) : Prop where
  arr : W.heap[bl]? = some (.cells #[V 0, V 1, V 2, V 3, V 4, V 5, V 6, V 7] 46 (0, 0))
  own : ∀ j, j < k → W.ownsRow base 9 1 (V j) (mayOf S late j).length ((mayOf S late j).map Value.string)
  sep : ∀ i j b, i < k → j < k → i ≠ j → (V i).ownBlock = some b → (V j).ownBlock ≠ some b
  low : bl < base
theorem Mays.block {bl base k : Nat} {W : World} {S : List ByteArray} {late : List (Int × ByteArray)} {V : Nat → Value} (h : Mays bl base k W S late V) (j : Nat) (hj : j < k) : ∃ g cap cur, V j = .slice (some ⟨g, 0, none⟩) (mayOf S late j).length cap ∧ base ≤ g ∧ W.heap[g]? = some (.cells cur 9 (0, 0)) := by
  rcases (h.own j hj).2 with ⟨_, h0⟩ | ⟨g, cap, cur, e, hb, hh, _⟩
  · have := (mayOf_length S late j).1; omega
  · exact ⟨g, cap, cur, e, hb, hh⟩
theorem Mays.frm {T : Nat → Prop} {bl base k : Nat} {W W' : World} {S : List ByteArray} {late : List (Int × ByteArray)} {V : Nat → Value} (h : Mays bl base k W S late V) (hf : Frm T W W') (h1 : ¬ T bl) (h2 : ∀ i cur, base ≤ i → W.heap[i]? = some (.cells cur 9 (0, 0)) → ¬ T i) : Mays bl base k W' S late V :=
  { h with
    arr := hf.blk h1 h.arr
    own := fun j hj => by
      obtain ⟨g, cap, cur, e, hb, hh⟩ := h.block j hj
      refine owns_frm (h.own j hj) hf (fun k' hk' => ?_)
      rw [e] at hk'
      have : g = k' := by simpa [Value.ownBlock] using hk'
      subst this
      exact h2 g cur hb hh }
theorem Mays.below {bl base k : Nat} {W W' : World} {S : List ByteArray} {late : List (Int × ByteArray)} {V : Nat → Value} (h : Mays bl base k W S late V) (hb : Below W.heap.size W W') : Mays bl base k W' S late V :=
  h.frm (T := fun _ => False) (Frm.of_below hb) (fun h => h) (fun _ _ _ _ h => h)
theorem Mays.disk {bl base k B p g : Nat} {W W' : World} {S : List ByteArray} {late : List (Int × ByteArray)} {V : Nat → Value} {v : Value} {d : DiskS} (h : Mays bl base k W S late V) (hd : IsDisk W B p g v d) (hf : Frm (DSet p g v) W W') (hp : p < base) (hg : g < base) : Mays bl base k W' S late V := by
  refine h.frm hf (hd.apart h.arr (by decide) (by decide) (by decide)) (fun i cur hi hh => ?_)
  rintro (rfl | rfl | h4)
  · omega
  · omega
  · rcases hd.late.2 with ⟨rfl, _⟩ | ⟨g', cap, cur', rfl, _, hh', _⟩
    · simp [Value.ownBlock] at h4
    · have : g' = i := by simpa [Value.ownBlock] using h4
      subst this
      rw [hh] at hh'; injection hh' with hh'; injection hh' with _ hh'; exact absurd hh' (by decide)
theorem Mays.start (W : World) (S : List ByteArray) (late : List (Int × ByteArray)) : Mays W.heap.size (W.heap.size + 1) 0 (W.alloc (.cells #[.slice none 0 0, .slice none 0 0, .slice none 0 0, .slice none 0 0, .slice none 0 0, .slice none 0 0, .slice none 0 0, .slice none 0 0] 46)) S late (fun _ => .slice none 0 0) :=
  ⟨blk_new W _, fun j hj => absurd hj (by omega), fun i j b hi => absurd hi (by omega), by omega⟩
theorem arr_upd (V : Nat → Value) (a : Nat) (v : Value) (ha : a < 8) : (#[V 0, V 1, V 2, V 3, V 4, V 5, V 6, V 7] : Array Value).setIfInBounds a v = #[upd V a v 0, upd V a v 1, upd V a v 2, upd V a v 3, upd V a v 4, upd V a v 5, upd V a v 6, upd V a v 7] := by
  match a, ha with
  | 0, _ => rfl
  | 1, _ => rfl
  | 2, _ => rfl
  | 3, _ => rfl
  | 4, _ => rfl
  | 5, _ => rfl
  | 6, _ => rfl
  | 7, _ => rfl
  | n + 8, h => omega
theorem Mays.cell {bl base k : Nat} {W : World} {S : List ByteArray} {late : List (Int × ByteArray)} {V : Nat → Value} (h : Mays bl base k W S late V) (a : Nat) (ha : a < 8) : W.cell? ⟨bl, a, none⟩ = some (V a) := by
  refine cell_blk h.arr ?_
  match a, ha with
  | 0, _ => rfl
  | 1, _ => rfl
  | 2, _ => rfl
  | 3, _ => rfl
  | 4, _ => rfl
  | 5, _ => rfl
  | 6, _ => rfl
  | 7, _ => rfl
  | n + 8, h => omega
/-- the first row of a block: the text that is safe -/
theorem Mays.first {bl base k : Nat} {W : World} {S : List ByteArray} {V : Nat → Value} (h : Mays bl base k W S [] V) (hk : k < 8) (hs : base ≤ W.heap.size) :
    Mays bl base (k + 1) ((W.alloc (.cells #[.string (S.getD k ⟨#[]⟩)] 9)).setCell ⟨bl, k, none⟩ (.slice (some ⟨W.heap.size, 0, none⟩) 1 1)) S [] (upd V k (.slice (some ⟨W.heap.size, 0, none⟩) 1 1)) := by
  have hbl := h.low
  have hfr : ∀ o v, Frm (fun i => i = bl) W ((W.alloc o).setCell ⟨bl, k, none⟩ v) := fun o v => ((Frm.refl (fun i => i = bl) W).alloc o).setCell _ _ (fun _ => rfl)
  have h2 := h.frm (hfr (.cells #[.string (S.getD k ⟨#[]⟩)] 9) (.slice (some ⟨W.heap.size, 0, none⟩) 1 1))
  refine ⟨?_, fun j hj => ?_, fun i j b hi hj hij hb => ?_, h.low⟩
  · have := blk_set k (.slice (some ⟨W.heap.size, 0, none⟩) 1 1) (blk_alloc (.cells #[.string (S.getD k ⟨#[]⟩)] 9) h.arr)
    rw [arr_upd V k _ hk] at this
    exact this
  · by_cases e : j = k
    · subst e
      have hv : upd V j (.slice (some ⟨W.heap.size, 0, none⟩) 1 1) j = .slice (some ⟨W.heap.size, 0, none⟩) 1 1 := if_pos rfl
      rw [hv]
      refine ⟨rfl, .inr ⟨W.heap.size, 1, #[.string (S.getD j ⟨#[]⟩)], rfl, hs, ?_, Nat.le_refl _, by decide, rfl, rfl⟩⟩
      exact blk_set_other _ _ (by omega) (blk_new W _)
    · have hv : upd V k (.slice (some ⟨W.heap.size, 0, none⟩) 1 1) j = V j := if_neg e
      rw [hv]
      obtain ⟨g, cap, cur, e', hb, hh⟩ := h.block j (by omega)
      refine owns_frm (h.own j (by omega)) (hfr _ _) (fun k' hk' => ?_)
      rw [e'] at hk'
      have : g = k' := by simpa [Value.ownBlock] using hk'
      omega
  · unfold upd at hb ⊢
    by_cases e1 : i = k <;> by_cases e2 : j = k
    · omega
    · rw [if_pos e1] at hb
      rw [if_neg e2]
      obtain ⟨g, cap, cur, e', hb', hh⟩ := h.block j (by omega)
      have : W.heap.size = b := by simpa [Value.ownBlock] using hb
      have hlt := blk_lt hh
      rw [e']
      intro hc
      have : g = b := by simpa [Value.ownBlock] using hc
      omega
    · rw [if_neg e1] at hb
      rw [if_pos e2]
      obtain ⟨g, cap, cur, e', hb', hh⟩ := h.block i (by omega)
      have hlt := blk_lt hh
      rw [e'] at hb
      have : g = b := by simpa [Value.ownBlock] using hb
      intro hc
      have : W.heap.size = b := by simpa [Value.ownBlock] using hc
      omega
    · rw [if_neg e1] at hb
      rw [if_neg e2]
      exact h.sep i j b (by omega) (by omega) hij hb
/-- a text behind a row -/
theorem Mays.more {bl base : Nat} {W W' : World} {S : List ByteArray} {late : List (Int × ByteArray)} {V : Nat → Value} (h : Mays bl base 8 W S late V) (a : Nat) (s : ByteArray) (ha : a < 8) {v' : Value}
    (hown : W'.ownsRow base 9 1 v' ((mayOf S late a).length + 1) ((mayOf S late a).map Value.string ++ [.string s])) (hf : Frm (fun i => (V a).ownBlock = some i) W W') (hat : v'.ownBlock = (V a).ownBlock ∨ ∀ b, v'.ownBlock = some b → W.heap.size ≤ b) :
    Mays bl base 8 (W'.setCell ⟨bl, a, none⟩ v') S (late ++ [((a : Int), s)]) (upd V a v') := by
  have hbl := h.low
  obtain ⟨ga, capa, cura, ea, hba, hha⟩ := h.block a ha
  have hga : (V a).ownBlock = some ga := by rw [ea]; rfl
  have harr : W'.heap[bl]? = some (.cells #[V 0, V 1, V 2, V 3, V 4, V 5, V 6, V 7] 46 (0, 0)) := hf.blk (fun e => by rw [hga] at e; injection e; omega) h.arr
  refine ⟨?_, fun j hj => ?_, fun i j b hi hj hij hb => ?_, h.low⟩
  · have := blk_set a v' harr
    rw [arr_upd V a _ ha] at this
    exact this
  · rw [mayOf_snoc]
    by_cases e : j = a
    · subst e
      have hv : upd V j v' j = v' := if_pos rfl
      rw [hv, if_pos rfl]
      refine ownsRow_setCell_below ?_ hbl _
      simpa using hown
    · have hv : upd V a v' j = V j := if_neg e
      rw [hv, if_neg e]
      refine ownsRow_setCell_below ?_ hbl _
      exact owns_frm (h.own j hj) hf (fun k' hk' hc => h.sep j a k' hj ha e hk' hc)
  · unfold upd at hb ⊢
    have old : ∀ i, i < 8 → i ≠ a → ∀ b, (V i).ownBlock = some b → v'.ownBlock ≠ some b := by
      intro i hi hne b hb hc
      rcases hat with he | hn
      · exact h.sep i a b hi ha hne hb (he ▸ hc)
      · obtain ⟨g, cap, cur, e', hb', hh⟩ := h.block i hi
        have hlt := blk_lt hh
        rw [e'] at hb
        have : g = b := by simpa [Value.ownBlock] using hb
        have := hn b hc
        omega
    by_cases e1 : i = a <;> by_cases e2 : j = a
    · omega
    · rw [if_pos e1] at hb
      rw [if_neg e2]
      intro hc
      exact old j hj e2 b hc hb
    · rw [if_neg e1] at hb
      rw [if_pos e2]
      exact old i hi e1 b hb
    · rw [if_neg e1] at hb
      rw [if_neg e2]
      exact h.sep i j b hi hj hij hb
theorem Mays.arrFrm {bl base : Nat} {W W' : World} {S : List ByteArray} {late : List (Int × ByteArray)} {V : Nat → Value} (h : Mays bl base 8 W S late V) (a : Nat) (ha : a < 8) (hf : Frm (fun i => (V a).ownBlock = some i) W W') :
    W'.heap[bl]? = some (.cells #[V 0, V 1, V 2, V 3, V 4, V 5, V 6, V 7] 46 (0, 0)) := by
  have hbl := h.low
  obtain ⟨ga, capa, cura, ea, hba, hha⟩ := h.block a ha
  have hga : (V a).ownBlock = some ga := by rw [ea]; rfl
  exact hf.blk (fun e => by rw [hga] at e; injection e; omega) h.arr
theorem arr_cell {W : World} {bl : Nat} {V : Nat → Value} (h : W.heap[bl]? = some (.cells #[V 0, V 1, V 2, V 3, V 4, V 5, V 6, V 7] 46 (0, 0))) (a : Nat) (ha : a < 8) : W.cell? ⟨bl, a, none⟩ = some (V a) := by
  refine cell_blk h ?_
  match a, ha with
  | 0, _ => rfl
  | 1, _ => rfl
  | 2, _ => rfl
  | 3, _ => rfl
  | 4, _ => rfl
  | 5, _ => rfl
  | 6, _ => rfl
  | 7, _ => rfl
  | n + 8, h => omega
theorem cell_setCell_far {w : World} {b c o : Nat} {y : Nat} {v : Value} (h : b ≠ c) : (w.setCell ⟨c, y, none⟩ v).cell? ⟨b, o, none⟩ = w.cell? ⟨b, o, none⟩ := World.cell?_of_block (Below.heap_setCell w ⟨c, y, none⟩ v b h)
theorem bytes_beq (y x : ByteArray) (h : y ≠ x) : (y.toList == x.toList) = false := by
  rw [beq_eq_false_iff_ne]
  intro e
  rw [ByteArray.toList_eq, ByteArray.toList_eq] at e
  exact h (Go.WideShapes.bytes_inj e)
/-- the disk is none of the rows' -/
theorem Mays.apartDisk {bl base B p g : Nat} {W : World} {S : List ByteArray} {late : List (Int × ByteArray)} {V : Nat → Value} {v : Value} {d : DiskS} (h : Mays bl base 8 W S late V) (hd : IsDisk W B p g v d) (hp : p < base) (hg : g < base) (a : Nat) (ha : a < 8) : ∀ i, DSet p g v i → ¬ (V a).ownBlock = some i := by
  intro i hi he
  obtain ⟨ga, capa, cura, ea, hba, hha⟩ := h.block a ha
  rw [ea] at he
  have : ga = i := by simpa [Value.ownBlock] using he
  subst this
  rcases hi with rfl | rfl | h4
  · omega
  · omega
  · rcases hd.late.2 with ⟨rfl, _⟩ | ⟨g', cap, cur', rfl, _, hh', _⟩
    · simp [Value.ownBlock] at h4
    · have : g' = ga := by simpa [Value.ownBlock] using h4
      subst this
      rw [hha] at hh'; injection hh' with hh'; injection hh' with _ hh'; exact absurd hh' (by decide)
end Go.Proofs.Ythmdmbgjheploaa
