/- A strings.Builder inside text.printer: what writing to it does. -/
import Derived.Test.YtlinllnlokikpaaDoorMem
import Derived.Lib.Strings
import Derived.Lib.Slices
import Derived.Lib.Walk
import Derived.Lib.Builder
import Derived.Lib.AppendStr
import Derived.Lib.UnsafeStr
import Derived.Laws.Externs
import Derived.RegionTactic
import Derived.ChangeAlike
set_option linter.unusedVariables false
set_option linter.unusedSimpArgs false
namespace Go.Proofs.YtlinllnlokikpaaDoor
open Go.RowKit

/-- the printer at block g: its builder's address, its bytes l in v; three more cells -/
structure PB (W : World) (B g : Nat) (ad : Option Addr) (v : Value) (l : List UInt8) (x2 x3 x4 : Value) : Prop where
  head : W.heap[g]? = some (.cells #[.pointer ad, v, x2, x3, x4] 43 (0, 0))
  had : ad = none ∨ ad = some ⟨g, 0, none⟩
  row : W.ownsRow B 5 1 v l.length (Lib.byteCells l)
  bg : B ≤ g
theorem PB.ne {W : World} {B g : Nat} {ad : Option Addr} {v : Value} {l : List UInt8} {x2 x3 x4 : Value} (h : PB W B g ad v l x2 x3 x4) : some g ≠ v.ownBlock := by
  rcases h.row.2 with ⟨rfl, _⟩ | ⟨g', cap, cur, rfl, hb, hh, _⟩
  · simp [Value.ownBlock]
  · intro e
    have : g = g' := by simpa [Value.ownBlock] using e
    subst this
    rw [h.head] at hh; injection hh with hh; injection hh with _ hh; exact absurd hh (by decide)
theorem PB.frm {W W' : World} {B g : Nat} {ad ad' : Option Addr} {v : Value} {l : List UInt8} {x2 x3 x4 y2 y3 y4 : Value} (h : PB W B g ad v l x2 x3 x4) (hf : Frm (fun i => i = g) W W')
    (hh : W'.heap[g]? = some (.cells #[.pointer ad', v, y2, y3, y4] 43 (0, 0))) (ha : ad' = none ∨ ad' = some ⟨g, 0, none⟩) : PB W' B g ad' v l y2 y3 y4 :=
  ⟨hh, ha, owns_frm h.row hf (fun k hk e => h.ne (by rw [hk, e])), h.bg⟩
theorem infoPr : (Tryd.prog.info? 43).map (·.size) = some 5 := by kernel_rfl
theorem infoBu : (Tryd.prog.info? 41).map (·.size) = some 2 := by kernel_rfl
theorem infoBy : (Tryd.prog.info? 5).map (fun i => (i.zero, i.size, i.bytes)) = some (some (.int .u8 0), 1, 1) := by kernel_rfl
theorem liesBu : liesAt Tryd.prog Tryd.prog.depth 43 (5 / Tryd.prog.cellsOf 43) 0 41 1 = true := by kernel_rfl
theorem neq_same (W : World) (a : Addr) : (binOp .neq 38 (.pointer (some a)) (.pointer (some a))).run Tryd.prog W = .ok (.bool false) W := by
  obtain ⟨j, hj, _⟩ := Option.map_eq_some_iff.1 infoBu
  exact Lib.run_neq_ptr_same W _ Tryd.underlying38 hj

set_option maxHeartbeats 1000000 in
set_option maxRecDepth 100000 in
theorem pb_check {W : World} {B g : Nat} {ad : Option Addr} {v : Value} {l : List UInt8} {x2 x3 x4 : Value} (h : PB W B g ad v l x2 x3 x4) :
    Calls Tryd.prog 36 #[.pointer (some ⟨g, 0, none⟩)] W fun e W' => e = .returned (.tuple #[]) ∧ PB W' B g (some ⟨g, 0, none⟩) v l x2 x3 x4 ∧ Below B W W' ∧ W'.heap.size = W.heap.size := by
  have hc0 := cell_blk (i := 0) h.head rfl
  have hz0 := frozen_blk 0 h.head
  have hn := neq_same
  rcases h.had with rfl | rfl
  · have hsh : W.shape? g = some (43, 5) := by simp [World.shape?, h.head]
    obtain ⟨j, hj, hjs⟩ := Option.map_eq_some_iff.1 infoBu
    have HS := Lib.hid (bk_set 0 (.pointer (some ⟨g, 0, none⟩)) h.head)
    have hgo := h
    have H := Lib.hid hgo
    clear hgo h
    go_enter Tryd.func36, Tryd.ntmps36
    go_wp2
    rw [Lib.run_to_unsafe W ⟨g, 0, none⟩ Tryd.underlying38 Tryd.underlying81 hj (by rw [hjs]; decide) hsh (Nat.zero_lt_succ 4)]
    simp only [Result.andThen]
    rw [Oper.upon_value]
    go_wp2
    rw [run_callFunc_extern Tryd.func48 (by kernel_rfl) (by kernel_rfl) (by kernel_rfl) (e := Extern.AbiNoEscape.same) (by kernel_rfl)]
    rw [Lib.run_noEscape]
    simp only [Result.andThen]
    rw [Oper.upon_value]
    go_wp2
    rw [Lib.run_from_unsafe W ⟨g, 0, none⟩ Tryd.underlying81 Tryd.underlying38 hj hsh liesBu]
    simp only [Result.andThen]
    rw [Oper.upon_value]
    go_wp2
    go_end0
    exact ⟨rfl, H.out.frm ((Frm.refl _ W).setCell ⟨g, 0, none⟩ _ (fun _ => rfl)) HS.out (.inr rfl), (Below.refl B W).setCell (p := ⟨g, 0, none⟩) H.out.bg _, by simp [World.setCell]⟩
  · have H := Lib.hid h
    clear h
    go_enter Tryd.func36, Tryd.ntmps36
    go_wp2
    go_end0
    exact ⟨rfl, H.out, Below.refl _ _, rfl⟩

set_option maxHeartbeats 2000000 in
set_option maxRecDepth 100000 in
theorem pb_byte {W : World} {B g : Nat} {ad : Option Addr} {v : Value} {l : List UInt8} {x2 x3 x4 : Value} (c : UInt8) (h : PB W B g ad v l x2 x3 x4) (hl : l.length ≤ 100000000000) (hBW : B ≤ W.heap.size) :
    Calls Tryd.prog 26 #[.pointer (some ⟨g, 0, none⟩), .int .u8 (c.toNat : Int)] W fun e W' => e = .returned .nilIface ∧ (∃ v', PB W' B g (some ⟨g, 0, none⟩) v' (l ++ [c]) x2 x3 x4) ∧ Below B W W' := by
  obtain ⟨i0, hi, hz0, hz1, hz2⟩ := info_parts infoBy
  have H := Lib.hid h
  clear h
  go_enter Tryd.func26, Tryd.ntmps26
  go_wp2_with (go_at_call 36; refine (pb_check H.out).mono ?_)
  rintro e w1 ⟨rfl, h1, hb1, hs1⟩
  have H1 := Lib.hid h1
  have hown := h1.row
  have hhead := h1.head
  have hne := h1.ne
  have hbg := h1.bg
  have Hs1 := Lib.hid hs1
  clear h1 hs1
  have c0 := cell_blk (i := 0) hhead rfl
  have c1 := cell_blk (i := 1) hhead rfl
  go_wp2_with (at_builtin; refine wpList_append_own _ rfl _ _ 39 rfl B 5 i0 (.int .u8 0) 1 1 Tryd.underlying39 hi hz0 hz1 hz2 rfl (by decide) _ _ _ rfl (hown.alloc _) ⟨w1.heap.size, 0, none⟩ 1 1 [.int .u8 (c.toNat : Int)] rfl rfl ?c1 ?c2 ?c3 ?c4 ?c5 ?_)
  case c1 =>
    intro j u hj
    match j, hj with
    | 0, hj => simp at hj; subst hj; simp [Addr.add]
  case c2 => intro u hu; simp at hu; subst hu; rfl
  case c3 => unfold maxLen; omega
  case c4 => omega
  case c5 => have := hb1.size; simp; omega
  intro v' w2 hown' hgrow _
  have hlt : g < w1.heap.size := bk_lt hhead
  have hb2 : w2.heap[g]? = some (.cells #[.pointer (some ⟨g, 0, none⟩), v, x2, x3, x4] 43 (0, 0)) := by
    rw [hgrow.block g (by simp; omega) hne, Lib.alloc_old w1 _ g hlt]
    exact hhead
  have d0 := cell_blk (i := 0) hb2 rfl
  have d1 := cell_blk (i := 1) hb2 rfl
  have f1 := frozen_blk 1 hb2
  obtain ⟨g', cap, rfl⟩ : ∃ g' cap, v' = .slice (some ⟨g', 0, none⟩) (l.length + 1) cap := by
    rcases hown'.2 with ⟨_, h0⟩ | ⟨g', cap, cur, hv, _⟩
    · omega
    · exact ⟨g', cap, hv⟩
  have HS := Lib.hid (bk_set 1 (.slice (some ⟨g', 0, none⟩) (l.length + 1) cap) hb2)
  go_wp2
  go_ret
  have hpb : PB w2 B g (some ⟨g, 0, none⟩) (.slice (some ⟨g', 0, none⟩) (l.length + 1) cap) (l ++ [c]) x2 x3 x4 → True := fun _ => trivial
  have hrow2 : w2.ownsRow B 5 1 (.slice (some ⟨g', 0, none⟩) (l.length + 1) cap) (l ++ [c]).length (Lib.byteCells (l ++ [c])) := by
    rw [List.length_append]
    simpa [Lib.byteCells] using hown'
  have hne2 : some g ≠ (Value.slice (some ⟨g', 0, none⟩) (l.length + 1) cap).ownBlock := by
    rcases hown'.2 with ⟨h0, _⟩ | ⟨g2, cap2, cur2, he, _, hh2, _⟩
    · cases h0
    · injection he with he _ _; injection he with he; injection he with he _ _
      subst he
      intro e
      have : g = g' := by simpa [Value.ownBlock] using e
      subst this
      rw [hb2] at hh2; injection hh2 with hh2; injection hh2 with _ hh2; exact absurd hh2 (by decide)
  refine ⟨rfl, ⟨_, HS.out, .inr rfl, owns_frm hrow2 ((Frm.refl (fun i => i = g) w2).setCell ⟨g, 1, none⟩ _ (fun _ => rfl)) (fun k hk e => hne2 (by rw [hk, e])), hbg⟩, ?_⟩
  exact ((hb1.alloc (by have := Hs1.out; omega) _).grown hgrow (by have := Hs1.out; simp; omega) (fun k hk => (hown.lt k hk).1)).setCell (p := ⟨g, 1, none⟩) hbg _

set_option maxHeartbeats 2000000 in
set_option maxRecDepth 100000 in
theorem pb_string {W : World} {B g : Nat} {ad : Option Addr} {v : Value} {l : List UInt8} {x2 x3 x4 : Value} (s : ByteArray) (h : PB W B g ad v l x2 x3 x4) (hl : l.length ≤ 100000000000) (hs : s.size ≤ 100000000000) (hBW : B ≤ W.heap.size) :
    Calls Tryd.prog 24 #[.pointer (some ⟨g, 0, none⟩), .string s] W fun e W' => (∃ r, e = .returned r) ∧ (∃ v', PB W' B g (some ⟨g, 0, none⟩) v' (l ++ s.data.toList) x2 x3 x4) ∧ Below B W W' := by
  obtain ⟨i0, hi, hz0, hz1, hz2⟩ := info_parts infoBy
  have H := Lib.hid h
  clear h
  go_enter Tryd.func24, Tryd.ntmps24
  go_wp2_with (go_at_call 36; refine (pb_check H.out).mono ?_)
  rintro e w1 ⟨rfl, h1, hb1, hs1⟩
  have H1 := Lib.hid h1
  have hown := h1.row
  have hhead := h1.head
  have hne := h1.ne
  have hbg := h1.bg
  have Hs1 := Lib.hid hs1
  clear h1 hs1
  have c0 := cell_blk (i := 0) hhead rfl
  have c1 := cell_blk (i := 1) hhead rfl
  go_wp2_with (at_builtin; refine Lib.wpList_append_own_string _ rfl _ _ 39 9 rfl B 5 i0 Tryd.underlying39 Tryd.underlying9 hi hz0 hz1 hz2 _ _ _ rfl hown s rfl ?c3 ?c4 ?c5 ?_)
  case c3 => unfold maxLen; omega
  case c4 => omega
  case c5 => have := hb1.size; omega
  intro v' w2 hown' hgrow _
  have hlt : g < w1.heap.size := bk_lt hhead
  have hb2 : w2.heap[g]? = some (.cells #[.pointer (some ⟨g, 0, none⟩), v, x2, x3, x4] 43 (0, 0)) := by
    rw [hgrow.block g hlt hne]
    exact hhead
  have d0 := cell_blk (i := 0) hb2 rfl
  have d1 := cell_blk (i := 1) hb2 rfl
  have f1 := frozen_blk 1 hb2
  obtain ⟨ao, n', cap, rfl⟩ : ∃ ao n' cap, v' = .slice ao n' cap := by
    rcases hown'.2 with ⟨hv, _⟩ | ⟨g', cap, cur, hv, _⟩
    · exact ⟨_, _, _, hv⟩
    · exact ⟨_, _, _, hv⟩
  have HS := Lib.hid (bk_set 1 (.slice ao n' cap) hb2)
  go_wp2
  go_ret2
  have hrow2 : w2.ownsRow B 5 1 (.slice ao n' cap) (l ++ s.data.toList).length (Lib.byteCells (l ++ s.data.toList)) := by
    have e1 : (l ++ s.data.toList).length = l.length + s.size := by rw [List.length_append, Array.length_toList]; rfl
    have e2 : Lib.byteCells (l ++ s.data.toList) = Lib.byteCells l ++ Lib.strCells s := by simp [Lib.byteCells, Lib.strCells]
    rw [e1, e2]
    exact hown'
  have hne2 : some g ≠ (Value.slice ao n' cap).ownBlock := by
    rcases hown'.2 with ⟨h0, _⟩ | ⟨g2, cap2, cur2, he, _, hh2, _⟩
    · rw [h0]; simp [Value.ownBlock]
    · rw [he]
      intro e
      have : g = g2 := by simpa [Value.ownBlock] using e
      subst this
      rw [hb2] at hh2; injection hh2 with hh2; injection hh2 with _ hh2; exact absurd hh2 (by decide)
  refine ⟨⟨_, rfl⟩, ⟨_, HS.out, .inr rfl, owns_frm hrow2 ((Frm.refl (fun i => i = g) w2).setCell ⟨g, 1, none⟩ _ (fun _ => rfl)) (fun k hk e => hne2 (by rw [hk, e])), hbg⟩, ?_⟩
  exact (hb1.grown hgrow (by have := Hs1.out; omega) (fun k hk => (hown.lt k hk).1)).setCell (p := ⟨g, 1, none⟩) hbg _

theorem us_none (W : World) (q : Option Addr) : (Builtin.unsafeString_ #[66, 3] 9 #[.pointer q, .int .i64 0]).run Tryd.prog W = .ok (.string .empty) W :=
  Lib.run_unsafeString_none W _ _ _ q

set_option maxHeartbeats 2000000 in
set_option maxRecDepth 100000 in
theorem pb_text {W : World} {B g : Nat} {ad : Option Addr} {v : Value} {l : List UInt8} {x2 x3 x4 : Value} (h : PB W B g ad v l x2 x3 x4) (hBW : B ≤ W.heap.size) :
    Calls Tryd.prog 20 #[.pointer (some ⟨g, 0, none⟩)] W fun e W' => e = .returned (.string ⟨l.toArray⟩) ∧ Below B W W' ∧ W'.heap[g]? = W.heap[g]? := by
  have hhead := h.head
  have hown := h.row
  have hne := h.ne
  have hlt : g < W.heap.size := bk_lt hhead
  clear h
  by_cases h0 : l = []
  · subst h0
    have hUS := us_none
    rcases hown.2 with ⟨rfl, _⟩ | ⟨g', cap, cur, rfl, hbg, hg, hnc, hcm, hcs, htake⟩
    · have c1 : W.drew.cell? ⟨g, 1, none⟩ = some (.slice none 0 0) := cell_blk (i := 1) (w := W.drew) hhead rfl
      have hSD : (Builtin.unsafeSliceData_ #[39] 66 #[.slice none 0 0]).run Tryd.prog W.drew = .ok (.pointer none) W.drew := rfl
      go_enter Tryd.func20, Tryd.ntmps20
      go_wp2
      go_region
      all_goals (go_wp2; go_ret; exact ⟨rfl, Below.drew (Below.refl B W), rfl⟩)
    · rcases Nat.eq_zero_or_pos cap with rfl | hc0
      · have hSD : (Builtin.unsafeSliceData_ #[39] 66 #[.slice (some ⟨g', 0, none⟩) 0 0]).run Tryd.prog W.drew = .ok (.pointer (some ⟨W.drew.heap.size, 0, none⟩)) (W.drew.alloc (.view ⟨g', 0, none⟩ 5)) :=
          Lib.run_unsafeSliceData_zero W.drew _ _ 5 Tryd.underlying66 ⟨g', 0, none⟩ 0 (5, cur.size) (by have hg' : W.drew.heap[g']? = some (.cells cur 5 (0, 0)) := hg; simp [World.shape?, hg'])
        have c1 : W.drew.cell? ⟨g, 1, none⟩ = some (.slice (some ⟨g', 0, none⟩) 0 0) := cell_blk (i := 1) (w := W.drew) hhead rfl
        have c2 : (W.drew.alloc (.view ⟨g', 0, none⟩ 5)).cell? ⟨g, 1, none⟩ = some (.slice (some ⟨g', 0, none⟩) 0 0) := cell_blk (i := 1) (bk_alloc _ (bk_drew hhead)) rfl
        have c3 : (W.alloc (.view ⟨g', 0, none⟩ 5)).drew.cell? ⟨g, 1, none⟩ = some (.slice (some ⟨g', 0, none⟩) 0 0) := c2
        have c0 : W.cell? ⟨g, 1, none⟩ = some (.slice (some ⟨g', 0, none⟩) 0 0) := c1
        have hfin : (W.alloc (.view ⟨g', 0, none⟩ 5)).heap[g]? = W.heap[g]? := Below.heap_alloc W _ g hlt
        have Hfin := Lib.hid hfin
        clear hfin
        go_enter Tryd.func20, Tryd.ntmps20
        go_wp2
        go_region
        all_goals (go_wp2; go_ret; exact ⟨rfl, (Below.drew (Below.refl B W)).alloc hBW _, Hfin.out⟩)
      · have c1 : W.drew.cell? ⟨g, 1, none⟩ = some (.slice (some ⟨g', 0, none⟩) 0 cap) := cell_blk (i := 1) (w := W.drew) hhead rfl
        have hSD : (Builtin.unsafeSliceData_ #[39] 66 #[.slice (some ⟨g', 0, none⟩) 0 cap]).run Tryd.prog W.drew = .ok (.pointer (some ⟨g', 0, none⟩)) W.drew :=
          Lib.run_unsafeSliceData_row _ _ _ _ _ _ (by omega)
        clear hc0 hnc hcm hcs htake
        go_enter Tryd.func20, Tryd.ntmps20
        go_wp2
        go_region
        all_goals (go_wp2; go_ret; exact ⟨rfl, Below.drew (Below.refl B W), rfl⟩)
  · have hl0 : l.length ≠ 0 := by simpa using h0
    obtain ⟨g', cap, cur, rfl, hbg, hg, hnc, hcm, hcs, htake⟩ : ∃ g' cap cur, v = .slice (some ⟨g', 0, none⟩) l.length cap ∧ B ≤ g' ∧ W.heap[g']? = some (.cells cur 5 (0, 0)) ∧ l.length ≤ cap ∧ cap ≤ maxLen ∧ cur.size = cap * 1 ∧ cur.toList.take (l.length * 1) = Lib.byteCells l := by
      rcases hown.2 with ⟨_, hz⟩ | ⟨g', cap, cur, hv, r⟩
      · exact absurd hz hl0
      · exact ⟨g', cap, cur, hv, r⟩
    have c1 : W.drew.cell? ⟨g, 1, none⟩ = some (.slice (some ⟨g', 0, none⟩) l.length cap) := cell_blk (i := 1) (w := W.drew) hhead rfl
    have hSD : (Builtin.unsafeSliceData_ #[39] 66 #[.slice (some ⟨g', 0, none⟩) l.length cap]).run Tryd.prog W.drew = .ok (.pointer (some ⟨g', 0, none⟩)) W.drew :=
      Lib.run_unsafeSliceData_row _ _ _ _ _ _ (by omega)
    have hUS : (Builtin.unsafeString_ #[66, 3] 9 #[.pointer (some ⟨g', 0, none⟩), .int .i64 l.length]).run Tryd.prog W.drew = .ok (.string ⟨l.toArray⟩) (W.drew.freeze ⟨g', 0, none⟩ l.length) := by
      refine Lib.run_unsafeString_row W.drew 66 3 9 5 Tryd.underlying66 (by kernel_rfl) g' cur.size (by have hg' : W.drew.heap[g']? = some (.cells cur 5 (0, 0)) := hg; simp [World.shape?, hg']) l h0 (by omega) (by unfold maxLen at hcm; omega) ?_
      intro j x hx
      exact hown.cells (g := g') rfl j (.int .u8 x.toNat) (by simp [Lib.byteCells, hx])
    have hgg : g ≠ g' := fun e => hne (by rw [e]; rfl)
    have hfin : Hid ((W.drew.freeze ⟨g', 0, none⟩ l.length).heap[g]? = W.heap[g]?) := by
      refine Lib.hid ?_
      unfold World.freeze
      rw [if_neg hl0]
      show (W.heap.modify g' _)[g]? = W.heap[g]?
      rw [Array.getElem?_modify, if_neg (fun e => hgg e.symm)]
    clear hcm hcs htake hnc hl0
    have H0 := Lib.hid h0
    clear h0
    go_enter Tryd.func20, Tryd.ntmps20
    go_wp2
    go_region
    all_goals (go_wp2; go_ret; exact ⟨rfl, Lib.below_freeze (Below.drew (Below.refl B W)) (p := ⟨g', 0, none⟩) hbg _, hfin.out⟩)
theorem pb_len {W : World} {B g : Nat} {ad : Option Addr} {v : Value} {l : List UInt8} {x2 x3 x4 : Value} (h : PB W B g ad v l x2 x3 x4) :
    Calls Tryd.prog 19 #[.pointer (some ⟨g, 0, none⟩)] W fun e W' => e = .returned (.int .i64 (l.length : Int)) ∧ W' = W := by
  obtain ⟨A, c, rfl⟩ : ∃ A c, v = .slice A l.length c := by
    rcases h.row.2 with ⟨hv, h0⟩ | ⟨g', cap, cur, hv, _⟩
    · exact ⟨none, 0, by rw [hv, h0]⟩
    · exact ⟨_, _, hv⟩
  have c1 := cell_blk (i := 1) h.head rfl
  clear h
  go_enter Tryd.func19, Tryd.ntmps19
  go_wp2
  go_ret
  exact ⟨rfl, rfl⟩
end Go.Proofs.YtlinllnlokikpaaDoor
