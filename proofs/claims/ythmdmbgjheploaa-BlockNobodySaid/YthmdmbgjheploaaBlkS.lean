/- What Sync and Crash do with a disk in memory. -/
import Derived.Test.YthmdmbgjheploaaBlkW
set_option linter.unusedVariables false
set_option linter.unusedSimpArgs false
namespace Go.Proofs.Ythmdmbgjheploaa
open Go.RowKit

/-- what is late, in order, those that are kept -/
def keepD (kept : Nat → Bool) (safe : List ByteArray) (l : List (Int × ByteArray)) (k : Nat) : List ByteArray :=
  match l with
  | [] => safe
  | x :: l => keepD kept (if kept k = true then safe.set x.1.toNat x.2 else safe) l (k + 1)
theorem keepD_snoc (kept : Nat → Bool) (l : List (Int × ByteArray)) (x : Int × ByteArray) : ∀ (safe : List ByteArray) (k : Nat), keepD kept safe (l ++ [x]) k = (if kept (k + l.length) = true then (keepD kept safe l k).set x.1.toNat x.2 else keepD kept safe l k) := by
  induction l with
  | nil => intro safe k; simp [keepD]
  | cons y l ih =>
    intro safe k
    simp only [List.cons_append, keepD, ih, List.length_cons]
    rw [show k + 1 + l.length = k + (l.length + 1) by omega]
theorem keepD_length (kept : Nat → Bool) (l : List (Int × ByteArray)) : ∀ (safe : List ByteArray) (k : Nat), (keepD kept safe l k).length = safe.length := by
  induction l with
  | nil => intro safe k; rfl
  | cons y l ih =>
    intro safe k
    simp only [keepD, ih]
    split <;> simp
def syncD (d : DiskS) : DiskS × Int :=
  if (spendD d).2 = 0 then ({ (spendD d).1 with safe := keepD (fun _ => true) (spendD d).1.safe (spendD d).1.late 0, late := [] }, 0) else spendD d
theorem lateCells_get (l : List (Int × ByteArray)) (k : Nat) (h : k < l.length) : (lateCells l)[k * 2]? = some (.int .i64 (l[k]).1) ∧ (lateCells l)[k * 2 + 1]? = some (.string (l[k]).2) := by
  induction l generalizing k with
  | nil => simp at h
  | cons x l ih =>
    cases k with
    | zero => simp [lateCells]
    | succ k =>
      have := ih k (by simpa using h)
      simp only [lateCells, List.flatMap_cons] at this ⊢
      rw [show (k + 1) * 2 = 2 + k * 2 by omega]
      constructor
      · rw [List.getElem?_append_right (by simp)]; simpa using this.1
      · rw [List.getElem?_append_right (by simp; omega)]; simpa [show 2 + k * 2 + 1 - 2 = k * 2 + 1 by omega] using this.2
/-- a late one's two cells -/
theorem IsDisk.lateAt {w : World} {base p g : Nat} {v : Value} {d : DiskS} (h : IsDisk w base p g v d) (gl cap : Nat) (hv : v = .slice (some ⟨gl, 0, none⟩) d.late.length cap) (k : Nat) (hk : k < d.late.length) :
    w.cell? ⟨gl, k * 2, none⟩ = some (.int .i64 (d.late[k]).1) ∧ w.cell? ⟨gl, k * 2 + 1, none⟩ = some (.string (d.late[k]).2) := by
  obtain ⟨h1, h2⟩ := lateCells_get d.late k hk
  have c1 := h.late.cells (g := gl) (by rw [hv]; rfl) _ _ h1
  have c2 := h.late.cells (g := gl) (by rw [hv]; rfl) _ _ h2
  have ha : ∀ j, (⟨gl, 0, none⟩ : Addr).add j = ⟨gl, j, none⟩ := fun j => by unfold Addr.add; split <;> simp_all
  rw [ha] at c1 c2
  exact ⟨c1, c2⟩

theorem IsDisk.vcut {w : World} {base p g : Nat} {v : Value} {d : DiskS} (h : IsDisk w base p g v d) {A : Option Addr} {n c : Nat} (hv : v = .slice A n c) (h0 : 0 < d.late.length) : ∃ gl, A = some ⟨gl, 0, none⟩ ∧ v = .slice (some ⟨gl, 0, none⟩) d.late.length c := by
  rcases h.late.2 with ⟨_, h1⟩ | ⟨gl, cap, cur, hv2, _⟩
  · omega
  · rw [hv] at hv2
    injection hv2 with e1 e2 e3
    exact ⟨gl, e1, by rw [hv, e1, e2, e3]⟩
/-- one of the late ones is laid into the safe ones -/
theorem IsDisk.keepOne {wr w' : World} {base p g : Nat} {v : Value} {d : DiskS} {safe : List ByteArray} (h : IsDisk wr base p g v { d with safe := safe }) (a : Nat) (s : ByteArray) (ha : a < safe.length)
    (hg : w'.heap[g]? = some (.cells ((safe.map Value.string).toArray.setIfInBounds a (.string s)) 9 (0, 0))) (hf : Frm (fun i => i = g) wr w') : IsDisk w' base p g v { d with safe := safe.set a s } :=
  { head := by have := hf.blk h.pg h.head; simpa using this, safe := by rw [hg]; simp [List.map_set], late := owns_frm h.late hf (fun k hk e => h.vp.2 (by rw [hk, e])), bp := h.bp, bg := h.bg,
    n0 := by have := h.n0; simpa using this, n1 := by have := h.n1; simpa using this, l1 := h.l1, at_ := fun x hx => by have := h.at_ x hx; simpa using this, f0 := h.f0, f1 := h.f1 }
theorem take_snoc' {α : Type} (l : List α) (k : Nat) (h : k < l.length) : l.take (k + 1) = l.take k ++ [l[k]] := List.take_succ_eq_append_getElem h
/-- the disk behind the loop: nothing is late -/
theorem IsDisk.empty {w w' : World} {base p g : Nat} {v : Value} {d : DiskS} (h : IsDisk w base p g v d) (b : Bool) (f : Int) (hf0 : -9223372036854775808 ≤ f) (hf1 : f ≤ 9223372036854775807)
    (hh : w'.heap[p]? = some (.cells #[.slice (some ⟨g, 0, none⟩) d.safe.length d.safe.length, .slice none 0 0, .int .i64 f, .bool b] 54 (0, 0))) (hf : Frm (fun i => i = p) w w') : IsDisk w' base p g (.slice none 0 0) { safe := d.safe, late := [], fuse := f, blown := b } :=
  { head := hh, safe := hf.blk (fun e => h.pg e.symm) h.safe, late := ⟨by simp [lateCells], .inl ⟨rfl, rfl⟩⟩, bp := h.bp, bg := h.bg, n0 := h.n0, n1 := h.n1, l1 := by simp, at_ := by simp, f0 := hf0, f1 := hf1 }

set_option maxHeartbeats 1600000 in
theorem sync_any (w : World) (base p g : Nat) (v : Value) (d : DiskS) (h : IsDisk w base p g v d) :
    Calls Try.prog 25 #[.pointer (some ⟨p, 0, none⟩)] w (DPost w base p g v (.int .i64 (syncD d).2) (syncD d).1) := by
  have hs1 := Lib.hid (spend_any w base p g v d h)
  rcases spendD_val d with h0 | h91
  · have hD : Hid (syncD d = ({ (spendD d).1 with safe := keepD (fun _ => true) (spendD d).1.safe (spendD d).1.late 0, late := [] }, 0)) := by unfold syncD; rw [if_pos h0]; exact Lib.hid rfl
    rw [h0] at hs1
    clear h h0
    generalize hd2 : (spendD d).1 = d1 at *
    clear hd2
    go_enter Try.func25, Try.ntmps25
    go_wp2_with fail
    refine hs1.out.mono ?_
    rintro e w1 ⟨rfl, hd1, hf1⟩
    have c1 := cell_blk (i := 1) hd1.head rfl
    have hl1 := hd1.l1
    have H := Lib.hid hd1
    obtain ⟨A, cp, hv⟩ := hd1.vslice
    clear hd1
    have HF1 := Lib.hid (hf1.mono (T := DSet p g v) (fun k _ hk => .inl hk))
    clear hf1
    rw [hv] at c1
    have hv' := Lib.hid hv
    clear hv
    go_wp2
    go_loopw [5, 16, 18] (fun s5 s16 s18 wr => ∃ k : Nat, k ≤ d1.late.length ∧ s16 = .int .i64 k ∧ Hid (IsDisk wr base p g v { d1 with safe := keepD (fun _ => true) d1.safe (d1.late.take k) 0 }) ∧ Hid (Frm (DSet p g v) w wr)) (fun _ s16 _ _ => d1.late.length - (intOf s16).toNat)
    case atStart => exact ⟨0, Nat.zero_le _, rfl, by simpa [keepD] using H, HF1⟩
    case round =>
      obtain ⟨k, hk, rfl, hI, hF⟩ := hrel
      by_cases hlt : k < d1.late.length
      · obtain ⟨gl, rfl, hv2⟩ := hI.out.vcut hv'.out (by simp; omega)
        have hv2' := Lib.hid hv2
        clear hv2
        obtain ⟨l1, l2⟩ := hI.out.lateAt gl cp hv2'.out k hlt
        have cs := cell_blk (i := 0) hI.out.head rfl
        have hat := H.out.at_ (d1.late[k]) (List.getElem_mem hlt)
        have hsn := Lib.hid (keepD_snoc (fun _ => true) (d1.late.take k) (d1.late[k]) d1.safe 0)
        have htk := Lib.hid (take_snoc' d1.late k hlt)
        have hkl := keepD_length (fun _ => true) (d1.late.take k) d1.safe 0
        simp only at l1 l2 cs
        generalize hx : d1.late[k] = x at l1 l2 hat hsn htk
        clear hx
        obtain ⟨xa, xs⟩ := x
        obtain ⟨a, rfl⟩ : ∃ a : Nat, xa = a := ⟨xa.toNat, by have := hat.1; simp at this ⊢; omega⟩
        have ha : a < d1.safe.length := by have := hat.2; simpa using this
        clear hat
        generalize hsf : keepD (fun _ => true) d1.safe (d1.late.take k) 0 = sf at *
        have hsf' := Lib.hid hsf
        clear hsf
        have hkl' := Lib.hid hkl
        rw [hkl] at cs
        have ha' : a < sf.length := by rw [hkl]; exact ha
        clear hkl
        have hgc : ∃ z, wr.cell? ⟨g, a, none⟩ = some z := ⟨_, cell_blk (i := a) hI.out.safe (by simp [ha']; rfl)⟩
        obtain ⟨z, hgc⟩ := hgc
        have hgz := frozen_blk a hI.out.safe
        have cs' := cell_blk (i := 0) (blk_alloc (.cells #[Value.int IntKind.i64 (a : Int), Value.string xs] 78) hI.out.head) rfl
        simp only at cs'
        rw [hkl'.out] at cs'
        have hgc' : ∃ z, (wr.alloc (.cells #[Value.int IntKind.i64 (a : Int), Value.string xs] 78)).cell? ⟨g, a, none⟩ = some z := ⟨_, cell_blk (i := a) (blk_alloc _ hI.out.safe) (by simp [ha']; rfl)⟩
        obtain ⟨z', hgc'⟩ := hgc'
        have hgz' := frozen_blk a (blk_alloc (.cells #[Value.int IntKind.i64 (a : Int), Value.string xs] 78) hI.out.safe)
        have hset := Lib.hid (blk_set a (.string xs) (blk_alloc (.cells #[Value.int IntKind.i64 (a : Int), Value.string xs] 78) hI.out.safe))
        have hfr := Lib.hid (((Frm.refl (fun i => i = g) wr).alloc (.cells #[Value.int IntKind.i64 (a : Int), Value.string xs] 78)).setCell ⟨g, a, none⟩ (.string xs) (fun _ => rfl))
        clear ha'
        go_wp2
        go_region
        all_goals
          go_wp2
          go_roundw
          case rel =>
            refine ⟨k + 1, by omega, by go_num, ?_, ?_⟩
            · rw [htk.out, hsn.out, if_pos trivial]
              exact Lib.hid (hI.out.keepOne a xs (by rw [hkl'.out]; exact ha) (by have := hset.out; exact this) hfr.out.drew)
            · exact Lib.hid ((hF.out.trans hfr.out (fun i _ hi => .inr (.inl hi))).drew)
          case measure => simp [intOf]; omega
      · have hk' : k = d1.late.length := by omega
        have hI2 := hI.out
        rw [List.take_of_length_le (by omega)] at hI2
        have HI := Lib.hid hI2
        clear hI hI2 hk'
        have cp1 := cell_blk (i := 1) HI.out.head rfl
        have zp1 := frozen_blk 1 HI.out.head
        have hset := Lib.hid (blk_set 1 (.slice none 0 0) HI.out.head)
        have hfr := Lib.hid ((Frm.refl (fun i => i = p) wr).setCell ⟨p, 1, none⟩ (.slice none 0 0) (fun _ => rfl))
        simp only at cp1
        rw [hv'.out] at cp1
        go_wp2
        go_ret
        rw [hD.out]
        refine ⟨.slice none 0 0, rfl, HI.out.empty d1.blown d1.fuse HI.out.f0 HI.out.f1 ?_ hfr.out, hF.out.trans hfr.out (fun i _ hi => .inl hi), ?_⟩
        · rw [hset.out]; rfl
        · intro k hk; simp [Value.ownBlock] at hk
  · have hD : Hid (syncD d = spendD d) := by unfold syncD; rw [if_neg (by rw [h91]; decide)]; exact Lib.hid rfl
    rw [h91] at hs1
    have h91' := Lib.hid h91
    clear h h91
    go_enter Try.func25, Try.ntmps25
    go_wp2_with fail
    refine hs1.out.mono ?_
    rintro e w1 ⟨rfl, hd1, hf1⟩
    have hd1' := Lib.hid hd1
    clear hd1
    go_wp2
    go_ret
    rw [hD.out, h91'.out]
    exact ⟨v, rfl, hd1'.out, hf1.mono (fun k _ hk => .inl hk), fun k hk => .inl hk⟩
end Go.Proofs.Ythmdmbgjheploaa
