/- What Write does with a disk in memory: what it answers, and the disk behind it. -/
import Derived.Test.YthmdmbgjheploaaBlkA
set_option linter.unusedVariables false
set_option linter.unusedSimpArgs false
namespace Go.Proofs.Ythmdmbgjheploaa
open Go.RowKit

def wrD (d : DiskS) (i : Int) (s : ByteArray) : DiskS × Int :=
  if d.blown = false ∧ ¬ (0 ≤ i ∧ i < d.safe.length ∧ s.size ≤ 256) then (d, 90)
  else if (spendD d).2 = 0 then ({ (spendD d).1 with late := (spendD d).1.late ++ [(i, s)] }, 0) else spendD d
theorem spendD_safe (d : DiskS) : (spendD d).1.safe = d.safe ∧ (spendD d).1.late = d.late := by
  unfold spendD
  split
  · exact ⟨rfl, rfl⟩
  · split <;> exact ⟨rfl, rfl⟩
theorem spendD_ok {d : DiskS} (h : (spendD d).2 = 0) : d.blown = false ∧ d.fuse ≠ 0 := by
  unfold spendD at h
  split at h
  · simp at h
  · rename_i h'; simpa using h'
theorem spendD_val (d : DiskS) : (spendD d).2 = 0 ∨ (spendD d).2 = 91 := by
  unfold spendD
  split
  · exact .inr rfl
  · split <;> exact .inl rfl
theorem Try.infoW : (Try.prog.info? 78).map (fun i => (i.zero, i.size, i.bytes)) = some (some (.agg #[.int .i64 0, .string ⟨#[]⟩]), 2, 24) := by kernel_rfl

/-- the disk behind a write that is taken -/
theorem IsDisk.wrote {w w' : World} {base p g : Nat} {v v' : Value} {d : DiskS} {i : Int} {s : ByteArray} (h : IsDisk w base p g v d) (h1 : d.late.length < 1000000) (hi : 0 ≤ i ∧ i < d.safe.length)
    (hh : w'.heap[p]? = some (.cells #[.slice (some ⟨g, 0, none⟩) d.safe.length d.safe.length, v', .int .i64 d.fuse, .bool d.blown] 54 (0, 0)))
    (hg : w'.heap[g]? = some (.cells (d.safe.map Value.string).toArray 9 (0, 0)))
    (hl : w'.ownsRow base 78 2 v' (d.late.length + 1) (lateCells d.late ++ [.int .i64 i, .string s])) : IsDisk w' base p g v' { d with late := d.late ++ [(i, s)] } :=
  { head := hh, safe := hg, late := by simpa [lateCells_snoc] using hl, bp := h.bp, bg := h.bg, n0 := h.n0, n1 := h.n1, l1 := by simp; omega, f0 := h.f0, f1 := h.f1,
    at_ := by
      intro x hx
      rcases List.mem_append.1 hx with hx | hx
      · exact h.at_ x hx
      · rw [List.mem_singleton] at hx; subst hx; exact hi }

/-- what a call on a disk leaves: its answer, the disk behind it, and that nothing else was turned -/
def DPost (w : World) (base p g : Nat) (v : Value) (r : Value) (d : DiskS) (e : Ending) (w' : World) : Prop :=
  ∃ v', e = .returned r ∧ IsDisk w' base p g v' d ∧ Frm (DSet p g v) w w' ∧ (∀ k, v'.ownBlock = some k → v.ownBlock = some k ∨ w.heap.size ≤ k)
set_option maxHeartbeats 1600000 in
theorem write_any (w : World) (base p g : Nat) (v : Value) (d : DiskS) (i : Int) (s : ByteArray) (h : IsDisk w base p g v d) (hs : s.size ≤ 140737488351232) (hl : d.late.length < 1000000) :
    Calls Try.prog 26 #[.pointer (some ⟨p, 0, none⟩), .int .i64 i, .string s] w (DPost w base p g v (.int .i64 (wrD d i s).2) (wrD d i s).1) := by
  have kn := ne_nil
  have c0 := cell_blk (i := 0) h.head rfl
  have c3 := cell_blk (i := 3) h.head rfl
  have n0 := h.n0
  have n1 := h.n1
  have H := Lib.hid h
  clear h
  by_cases hbad : d.blown = false ∧ ¬ (0 ≤ i ∧ i < d.safe.length ∧ s.size ≤ 256)
  · have hD : Hid (wrD d i s = (d, 90)) := by unfold wrD; rw [if_pos hbad]; exact Lib.hid rfl
    obtain ⟨hb, hbad⟩ := hbad
    rw [hb] at c3
    clear hb
    by_cases h1 : i < 0
    · clear hbad
      go_enter Try.func26, Try.ntmps26
      go_wp2
      go_ret
      rw [hD.out]
      exact ⟨v, rfl, H.out, Frm.refl _ _, fun k hk => .inl hk⟩
    · by_cases h2 : i < d.safe.length
      · have h3 : 256 < (s.size : Int) := by omega
        clear hbad
        go_enter Try.func26, Try.ntmps26
        go_wp2
        go_ret
        rw [hD.out]
        exact ⟨v, rfl, H.out, Frm.refl _ _, fun k hk => .inl hk⟩
      · clear hbad
        go_enter Try.func26, Try.ntmps26
        go_wp2
        go_ret
        rw [hD.out]
        exact ⟨v, rfl, H.out, Frm.refl _ _, fun k hk => .inl hk⟩
  · by_cases hb : d.blown = true
    · have h91 : (spendD d).2 = 91 := by unfold spendD; rw [if_pos (.inl hb)]
      have hD : Hid (wrD d i s = spendD d) := by unfold wrD; rw [if_neg hbad, if_neg (by rw [h91]; decide)]; exact Lib.hid rfl
      have hs1 := Lib.hid (spend_any w base p g v d H.out)
      rw [h91] at hs1
      have h91' := Lib.hid h91
      rw [hb] at c3
      clear hbad hb h91
      go_enter Try.func26, Try.ntmps26
      go_wp2_with fail
      refine hs1.out.mono ?_
      rintro e w1 ⟨rfl, hd1, hf1⟩
      have hd1' := Lib.hid hd1
      clear hd1
      go_wp2
      go_ret
      rw [hD.out, h91'.out]
      exact ⟨v, rfl, hd1'.out, hf1.mono (fun k _ hk => .inl hk), fun k hk => .inl hk⟩
    · have hb' : d.blown = false := by simpa using hb
      have hgood : 0 ≤ i ∧ i < d.safe.length ∧ s.size ≤ 256 := by
        by_cases hg : 0 ≤ i ∧ i < d.safe.length ∧ s.size ≤ 256
        · exact hg
        · exact absurd ⟨hb', hg⟩ hbad
      obtain ⟨hg0, hg1, hg2⟩ := hgood
      rcases spendD_val d with h0 | h91
      · have hD : Hid (wrD d i s = ({ (spendD d).1 with late := (spendD d).1.late ++ [(i, s)] }, 0)) := by unfold wrD; rw [if_neg hbad, if_pos h0]; exact Lib.hid rfl
        have hs1 := Lib.hid (spend_any w base p g v d H.out)
        rw [h0] at hs1
        have hsf := Lib.hid (spendD_safe d)
        rw [hb'] at c3
        clear hbad hb h0 hb'
        obtain ⟨i0, hi, hz0, hz1, hz2⟩ := info_parts Try.infoW
        go_enter Try.func26, Try.ntmps26
        go_wp2_with fail
        refine hs1.out.mono ?_
        rintro e w1 ⟨rfl, hd1, hf1⟩
        generalize hd2 : (spendD d).1 = d1 at *
        have hd2' := Lib.hid hd2
        clear hd2
        have hl1 : d1.late.length ≤ 1000000 := hd1.l1
        have hbp := hd1.bp
        have hlt := blk_lt hd1.head
        have c1 := cell_blk (i := 1) hd1.head rfl
        have hown := hd1.late
        have hd1' := Lib.hid hd1
        have hvs := Lib.hid hd1.vslice
        clear hd1
        go_wp2_with (at_builtin; refine wpList_append_own_at _ rfl (.tmp 51) (.tmp 55) 52 rfl base 78 i0 _ 2 24 Try.underlying52 hi hz0 hz1 hz2 rfl (by decide) _ _ _ rfl (hown.alloc _) ⟨w1.heap.size, 0, none⟩ 1 1 [.int .i64 i, .string s] rfl rfl ?c1 ?c2 ?c3 ?c4 ?c5 ?_)
        case c1 => exact fun j u hu => World.news_of_block (heap_alloc_new w1 _) j u (by simpa using hu)
        case c2 =>
          intro u hu
          simp at hu
          rcases hu with rfl | rfl <;> rfl
        case c3 => unfold maxLen; omega
        case c4 => omega
        case c5 => simp; omega
        · intro v' w2 hown' hgrow _ hat
          have hp2 : w2.heap[p]? = some (.cells #[.slice (some ⟨g, 0, none⟩) d1.safe.length d1.safe.length, v, .int .i64 d1.fuse, .bool d1.blown] 54 (0, 0)) := (hgrow.block p (by simp; omega) (fun e => hd1'.out.vp.1 e.symm)).trans (blk_alloc _ hd1'.out.head)
          have hg2 : w2.heap[g]? = some (.cells (d1.safe.map Value.string).toArray 9 (0, 0)) := (hgrow.block g (by have := blk_lt hd1'.out.safe; simp; omega) (fun e => hd1'.out.vp.2 e.symm)).trans (blk_alloc _ hd1'.out.safe)
          have c1' := cell_blk (i := 1) hp2 rfl
          have z1' := frozen_blk 1 hp2
          have hset := Lib.hid (blk_set 1 v' hp2)
          have hgs := Lib.hid (blk_set_other (g := p) 1 v' (fun e => hd1'.out.pg e.symm) hg2)
          have hfin : Hid (Frm (DSet p g v) w (w2.setCell ⟨p, 1, none⟩ v')) := by
            refine Lib.hid (Frm.setCell (((hf1.mono (fun k _ hk => .inl hk)).alloc _).grown hgrow ?_) _ _ (fun _ => .inl rfl))
            exact fun k hk _ => .inr (.inr hk)
          have hat' : Hid (∀ k, v'.ownBlock = some k → v.ownBlock = some k ∨ w.heap.size ≤ k) := by
            refine Lib.hid ?_
            intro k hk
            rcases hat with h | h
            · exact .inl (by rw [← h]; exact hk)
            · rw [h] at hk
              injection hk with hk
              have := hf1.size
              exact .inr (by omega)
          have hown3 : Hid ((w2.setCell ⟨p, 1, none⟩ v').ownsRow base 78 2 v' (d1.late.length + 1) (lateCells d1.late ++ [.int .i64 i, .string s])) := by
            refine Lib.hid (owns_frm (S := fun k => k = p) hown' ((Frm.refl _ w2).setCell _ _ (fun _ => rfl)) ?_)
            rintro k hk rfl
            rcases hown'.2 with ⟨rfl, h0⟩ | ⟨g', cap, cur, rfl, _, hh, _⟩
            · simp [Value.ownBlock] at hk
            · have : g' = k := by simpa [Value.ownBlock] using hk
              subst this
              rw [hp2] at hh; injection hh with hh; injection hh with _ hh; exact absurd hh (by decide)
          clear hat hgrow hp2 hg2
          obtain ⟨g', cap', rfl⟩ := owns_succ hown'
          clear hown' hown
          go_wp2
          go_ret
          rw [hD.out]
          have hsafe := hsf.out
          refine ⟨_, rfl, hd1'.out.wrote (by rw [hsafe.2]; exact hl) ⟨hg0, by rw [hsafe.1]; exact hg1⟩ ?_ hgs.out hown3.out, hfin.out, hat'.out⟩
          rw [hset.out]
          rfl
      · have hD : Hid (wrD d i s = spendD d) := by unfold wrD; rw [if_neg hbad, if_neg (by rw [h91]; decide)]; exact Lib.hid rfl
        have hs1 := Lib.hid (spend_any w base p g v d H.out)
        rw [h91] at hs1
        have h91' := Lib.hid h91
        rw [hb'] at c3
        clear hbad hb h91 hb'
        go_enter Try.func26, Try.ntmps26
        go_wp2_with fail
        refine hs1.out.mono ?_
        rintro e w1 ⟨rfl, hd1, hf1⟩
        have hd1' := Lib.hid hd1
        clear hd1
        go_wp2
        go_ret
        rw [hD.out, h91'.out]
        exact ⟨v, rfl, hd1'.out, hf1.mono (fun k _ hk => .inl hk), fun k hk => .inl hk⟩
end Go.Proofs.Ythmdmbgjheploaa
