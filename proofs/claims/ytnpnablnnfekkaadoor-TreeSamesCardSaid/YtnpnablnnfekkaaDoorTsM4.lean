/- Texts of this claim's proof: small lemmas, walks and plain laws (merged by wip/shake.py). -/
import Derived.Test.YtnpnablnnfekkaaDoorTsM1
import Derived.Test.YtnpnablnnfekkaaDoorTsM2
import Derived.Test.YtnpnablnnfekkaaDoorTsM3
import Derived.Deep.LoopGhost
import Derived.Lib.Walk
import Derived.Lib.SliceRun
import Derived.Shelf.RegionOpenPlain
set_option linter.unusedVariables false
set_option linter.unusedSimpArgs false
namespace Go.Proofs.YtnpnablnnfekkaaDoor.PTr
open Go.RowKit Go.Proofs.YtnpnablnnfekkaaDoor Go.Proofs.YtnpnablnnfekkaaDoorW.PrintWords Go.Proofs.YtnpnablnnfekkaaDoorW.PrintLast Go.Proofs.YtnpnablnnfekkaaDoorW.PrintMore
theorem chkR_head {l : List Nod} {a1 : Int} (h : headOK l = false) : chkR l a1 = 80 := by unfold chkR; rw [h]; rfl
theorem chkR_nodes {l : List Nod} {a1 : Int} {i : Nat} (hi : i < l.length) (h : nodeAt l a1 i = false) : chkR l a1 = 80 := by
 have : nodesOK l a1 = false := by
  rw [Bool.eq_false_iff]
  intro hn
  have := List.all_eq_true.1 hn i (List.mem_range.2 hi)
  rw [h] at this; cases this
 unfold chkR
 split
 ·
  rw [if_neg (by rw [this]; simp)]
 ·
  rfl
theorem tgOK_of {l : List Nod} {i : Nat} (hi : i < l.length) (h : ∀ p (hp : p < l[i].f6.length), l[i].f6[p].f1 ∈ idsL l) : tgOK l i = true := by
 unfold tgOK
 rw [rdN l i hi, List.all_eq_true]
 intro e he
 obtain ⟨p, hp, rfl⟩ := List.getElem_of_mem he
 exact decide_eq_true (h p hp)
theorem chkR_tg {l : List Nod} {a1 : Int} {i : Nat} (hi : i < l.length) (h : ¬ ∀ p (hp : p < l[i].f6.length), l[i].f6[p].f1 ∈ idsL l) : chkR l a1 = 80 := by
 have : ((List.range l.length).all (tgOK l)) = false := by
  rw [Bool.eq_false_iff]
  intro hn
  have := List.all_eq_true.1 hn i (List.mem_range.2 hi)
  unfold tgOK at this
  rw [rdN l i hi, List.all_eq_true] at this
  exact h (fun p hp => of_decide_eq_true (this _ (List.getElem_mem hp)))
 unfold chkR
 split
 ·
  rw [if_neg (by rw [this]; simp)]
 ·
  rfl
theorem refR_lk {l : List Nod} {i : Nat} (hi : i < l.length) (h : lkOK l i = false) : refR l = 80 := by
 have : ((List.range l.length).all (lkOK l)) = false := by
  rw [Bool.eq_false_iff]
  intro hn
  have := List.all_eq_true.1 hn i (List.mem_range.2 hi)
  rw [h] at this; cases this
 unfold refR
 rw [if_neg (by rw [this]; simp)]
/-- the links of a node: bad in three ways, good in three -/
theorem lk_cases {l : List Nod} {a1 : Int} {i : Nat} (hi : i < l.length) (hh : headOK l = true) :
  (lkOK l i = false ∧ ((i = 0 ∧ 0 < lk l l[i].f0) ∨ (0 < i ∧ lk l l[i].f0 = 0) ∨ (0 < i ∧ l[i].f1 = 1 ∧ 1 < lk l l[i].f0))) ∨
  (lkOK l i = true ∧ ((i = 0 ∧ lk l l[i].f0 = 0 ∧ l[i].f1 = 1) ∨ (0 < i ∧ 0 < lk l l[i].f0 ∧ l[i].f1 = 1 ∧ ¬ 1 < lk l l[i].f0) ∨ (0 < i ∧ 0 < lk l l[i].f0 ∧ l[i].f1 ≠ 1))) := by
 obtain ⟨h0, hid, hki⟩ := one_in hh
 unfold lkOK
 by_cases hz : i = 0
 ·
  subst hz
  rw [if_pos rfl, show (0 : Int) = ((0 : Nat) : Int) from rfl, rdN l 0 hi]
  by_cases hn : lk l l[0].f0 = 0
  ·
   right; exact ⟨decide_eq_true hn, .inl ⟨rfl, hn, hki⟩⟩
  ·
   left; exact ⟨decide_eq_false hn, .inl ⟨rfl, by omega⟩⟩
 ·
  rw [if_neg hz, rdN l i hi]
  by_cases hn : lk l l[i].f0 = 0
  ·
   left; exact ⟨by rw [decide_eq_false (by omega), Bool.false_and], .inr (.inl ⟨by omega, hn⟩)⟩
  ·
   rw [decide_eq_true (show lk l l[i].f0 ≠ 0 from hn), Bool.true_and]
   by_cases hk : l[i].f1 = 1
   ·
    by_cases h1 : 1 < lk l l[i].f0
    ·
     left; exact ⟨by rw [decide_eq_false (show ¬ l[i].f1 ≠ 1 from fun h => h hk), decide_eq_false (show ¬ lk l l[i].f0 ≤ 1 from by omega)]; rfl, .inr (.inr ⟨by omega, hk, h1⟩)⟩
    ·
     right; exact ⟨by rw [decide_eq_true (show lk l l[i].f0 ≤ 1 from by omega), Bool.or_true], .inr (.inl ⟨by omega, by omega, hk, h1⟩)⟩
   ·
    right; exact ⟨by rw [decide_eq_true (show l[i].f1 ≠ 1 from hk), Bool.true_or], .inr (.inr ⟨by omega, by omega, hk⟩)⟩
set_option maxHeartbeats 8000000 in
set_option maxRecDepth 100000 in
theorem rcheck_any (l : List Nod) (A : Option Addr) (c : Nat) (a1 a2 a3 : Int) (w : World) (hr0 : Kd.C k44 w A l.length l) (hc00 : l.length ≤ c) (hB : l.length ≤ 512 → Bd l) :
  Calls Tryd.prog 18 #[.agg #[.slice A l.length c, .int .i64 a1, .int .i64 a2, .int .i64 a3]] w fun e w' => e = .returned (.int .i64 (chkR l a1)) ∧ Below w.heap.size w w' := by
 have hu26 := Tryd.underlying26
 have HR0 := Lib.hid hr0
 have HC0 := Lib.hid hc00
 clear hr0 hc00
 by_cases h0 : l.length = 0
 ·
  have hbad : headOK l = false := by unfold headOK; rw [decide_eq_false (by omega)]; rfl
  have b0 : decide ((l.length : Int) < 1) = true := decide_eq_true (by omega)
  clear hB
  (rw [chkR_head hbad]; clear hbad; go_enter Tryd.func18, Tryd.ntmps18; go_wp2_with ((with_reducible refine gate_dst (N := 1) rfl ?_); refine box_event ?hg (N := 1) ?hd (cs := #[.slice A l.length c, .int .i64 a1, .int .i64 a2, .int .i64 a3]) (t := 26) ?hr ?_; (case hd => rfl); (case hg => rfl); (case hr => first | (go_simp; done) | (go_simp; rfl)); intro g1 hg1 w1 hbox hb; have B1 := Lib.hid hbox; have HB1 := Lib.hid hb; have E1 : Hid (w.heap.size ≤ g1) := Lib.hid (by rw [hg1]; exact Nat.le_refl _); have d0 : w1.cell? ⟨g1, 0, none⟩ = some (.slice A l.length c) := (blk_cell B1.out 0).trans rfl; have d1 : w1.cell? ⟨g1, 1, none⟩ = some (.int .i64 a1) := (blk_cell B1.out 1).trans rfl; (try replace z0 := cellB z0 hb); (try replace z1 := cellB z1 hb); clear hbox hb hg1); go_ret; exact ⟨rfl, HB1.out⟩)
 have b0 : decide ((l.length : Int) < 1) = false := decide_eq_false (by omega)
 by_cases h1 : 512 < l.length
 ·
  have hbad : headOK l = false := by unfold headOK; rw [decide_eq_false (show ¬ l.length ≤ 512 from by omega), Bool.and_false]; rfl
  have b1 : decide ((512 : Int) < (l.length : Int)) = true := decide_eq_true (by omega)
  clear hB
  (rw [chkR_head hbad]; clear hbad; go_enter Tryd.func18, Tryd.ntmps18; go_wp2_with ((with_reducible refine gate_dst (N := 1) rfl ?_); refine box_event ?hg (N := 1) ?hd (cs := #[.slice A l.length c, .int .i64 a1, .int .i64 a2, .int .i64 a3]) (t := 26) ?hr ?_; (case hd => rfl); (case hg => rfl); (case hr => first | (go_simp; done) | (go_simp; rfl)); intro g1 hg1 w1 hbox hb; have B1 := Lib.hid hbox; have HB1 := Lib.hid hb; have E1 : Hid (w.heap.size ≤ g1) := Lib.hid (by rw [hg1]; exact Nat.le_refl _); have d0 : w1.cell? ⟨g1, 0, none⟩ = some (.slice A l.length c) := (blk_cell B1.out 0).trans rfl; have d1 : w1.cell? ⟨g1, 1, none⟩ = some (.int .i64 a1) := (blk_cell B1.out 1).trans rfl; (try replace z0 := cellB z0 hb); (try replace z1 := cellB z1 hb); clear hbox hb hg1); go_ret; exact ⟨rfl, HB1.out⟩)
 have b1 : decide ((512 : Int) < (l.length : Int)) = false := decide_eq_false (by omega)
 have hlen : l.length ≤ 512 := by omega
 replace hB := hB hlen
 obtain ⟨ad, A6, c6, ea, x0, x1, x2, x3, x4, x5, x6, _, _⟩ := at_T44 HR0.out 0 (by omega) (by omega)
 cases ea
 have z0 := x0
 have z1 := x1
 simp only [show (0 : Int).toNat = 0 from rfl, Nat.zero_mul, Addr.add_zero'] at z0 z1
 clear x0 x1 x2 x3 x4 x5 x6
 have i0 : decide ((0 : Int) < (l.length : Int)) = true := decide_eq_true (by omega)
 have i0n : (0 < l.length) = True := eq_true (by omega)
 by_cases h2 : (rd_T44 l 0).f0 = 1
 case neg =>
  have hbad : headOK l = false := by unfold headOK; rw [decide_eq_false h2, Bool.and_false]; rfl
  have b2 : ((rd_T44 l 0).f0 != 1) = true := bne_iff_ne.mpr h2
  clear hB
  (rw [chkR_head hbad]; clear hbad; go_enter Tryd.func18, Tryd.ntmps18; go_wp2_with ((with_reducible refine gate_dst (N := 1) rfl ?_); refine box_event ?hg (N := 1) ?hd (cs := #[.slice (some ad) l.length c, .int .i64 a1, .int .i64 a2, .int .i64 a3]) (t := 26) ?hr ?_; (case hd => rfl); (case hg => rfl); (case hr => first | (go_simp; done) | (go_simp; rfl)); intro g1 hg1 w1 hbox hb; have B1 := Lib.hid hbox; have HB1 := Lib.hid hb; have E1 : Hid (w.heap.size ≤ g1) := Lib.hid (by rw [hg1]; exact Nat.le_refl _); have d0 : w1.cell? ⟨g1, 0, none⟩ = some (.slice (some ad) l.length c) := (blk_cell B1.out 0).trans rfl; have d1 : w1.cell? ⟨g1, 1, none⟩ = some (.int .i64 a1) := (blk_cell B1.out 1).trans rfl; (try replace z0 := cellB z0 hb); (try replace z1 := cellB z1 hb); clear hbox hb hg1); go_ret; exact ⟨rfl, HB1.out⟩)
 have b2 : ((rd_T44 l 0).f0 != 1) = false := bne_eq_false_iff_eq.mpr h2
 by_cases h3 : (rd_T44 l 0).f1 = 1
 case neg =>
  have hbad : headOK l = false := by unfold headOK; rw [decide_eq_false h3, Bool.and_false]
  have b3 : ((rd_T44 l 0).f1 != 1) = true := bne_iff_ne.mpr h3
  clear hB
  (rw [chkR_head hbad]; clear hbad; go_enter Tryd.func18, Tryd.ntmps18; go_wp2_with ((with_reducible refine gate_dst (N := 1) rfl ?_); refine box_event ?hg (N := 1) ?hd (cs := #[.slice (some ad) l.length c, .int .i64 a1, .int .i64 a2, .int .i64 a3]) (t := 26) ?hr ?_; (case hd => rfl); (case hg => rfl); (case hr => first | (go_simp; done) | (go_simp; rfl)); intro g1 hg1 w1 hbox hb; have B1 := Lib.hid hbox; have HB1 := Lib.hid hb; have E1 : Hid (w.heap.size ≤ g1) := Lib.hid (by rw [hg1]; exact Nat.le_refl _); have d0 : w1.cell? ⟨g1, 0, none⟩ = some (.slice (some ad) l.length c) := (blk_cell B1.out 0).trans rfl; have d1 : w1.cell? ⟨g1, 1, none⟩ = some (.int .i64 a1) := (blk_cell B1.out 1).trans rfl; (try replace z0 := cellB z0 hb); (try replace z1 := cellB z1 hb); clear hbox hb hg1); go_ret; exact ⟨rfl, HB1.out⟩)
 have b3 : ((rd_T44 l 0).f1 != 1) = false := bne_eq_false_iff_eq.mpr h3
 have HH : Hid (headOK l = true) := Lib.hid (by unfold headOK; rw [decide_eq_true h0, decide_eq_true hlen, decide_eq_true h2, decide_eq_true h3]; rfl)
 have HLN := Lib.hid hlen
 have HBB := Lib.hid hB
 clear hB hlen h0 h1 h2 h3
 go_enter Tryd.func18, Tryd.ntmps18
 go_wp2_with ((with_reducible refine gate_dst (N := 1) rfl ?_); refine box_event ?hg (N := 1) ?hd (cs := #[.slice (some ad) l.length c, .int .i64 a1, .int .i64 a2, .int .i64 a3]) (t := 26) ?hr ?_; (case hd => rfl); (case hg => rfl); (case hr => first | (go_simp; done) | (go_simp; rfl)); intro g1 hg1 w1 hbox hb; have B1 := Lib.hid hbox; have HB1 := Lib.hid hb; have E1 : Hid (w.heap.size ≤ g1) := Lib.hid (by rw [hg1]; exact Nat.le_refl _); have d0 : w1.cell? ⟨g1, 0, none⟩ = some (.slice (some ad) l.length c) := (blk_cell B1.out 0).trans rfl; have d1 : w1.cell? ⟨g1, 1, none⟩ = some (.int .i64 a1) := (blk_cell B1.out 1).trans rfl; (try replace z0 := cellB z0 hb); (try replace z1 := cellB z1 hb); clear hbox hb hg1)
 clear z0 z1 d1
 go_loopw [3] (fun s3 wr => ∃ i : Nat, i ≤ l.length ∧ s3 = .int .i64 i ∧ Hid (∀ q, q < i → nodeAt l a1 q = true ∧ tgOK l q = true) ∧ Hid (Below w.heap.size w wr) ∧ Hid (wr.heap[g1]? = some (.cells #[.slice (some ad) l.length c, .int .i64 a1, .int .i64 a2, .int .i64 a3] 26 (0, 0)))) (fun s3 _ => l.length - (intOf s3).toNat)
 case atStart => exact ⟨0, Nat.zero_le _, rfl, Lib.hid (fun q h => by omega), HB1, B1⟩
 case round =>
  clear HB1 B1 d0
  obtain ⟨i, hi, rfl, HP, HB, B1⟩ := hrel
  have d0 : wr.cell? ⟨g1, 0, none⟩ = some (.slice (some ad) l.length c) := (blk_cell B1.out 0).trans rfl
  by_cases hlt : i < l.length
  ·
   obtain ⟨bp, bi, bz, bv, hp, hbi, hbz, hbv, hcase⟩ := node_cases l a1 i hlt HLN.out
   have hbzn : decide (0 < i) = bz := by rw [← hbz, decide_eq_decide]; omega
   obtain ⟨x, hx⟩ : ∃ x, l[i] = x := ⟨_, rfl⟩
   have hxl : x ∈ l := hx ▸ List.getElem_mem hlt
   rw [hx] at hp hbi hbv
   have hrd : rd_T44 l (i : Int) = x := (rdN l i hlt).trans hx
   obtain ⟨ad', A6, c6, ea, x0, x1, x2, x3, x4, x5, x6, hl6, hi6⟩ := at_T44 HR0.out (i : Int) (by omega) (by omega)
   cases ea
   rw [hrd, Int.toNat_natCast] at x0 x1 x2 x3 x4 x5 x6
   rw [hrd] at hl6 hi6
   have HPL : Hid (rehearsalref04_plain.f 300000000000011 x.f0 x.f1 x.f2 x.f3 x.f4 x.f5 x.f6 = some bp) := Lib.hid (by obtain ⟨h5, h6, he⟩ := HBB.out x hxl; rw [plain_ref x h6 h5 he _ (by omega), hp])
   have HRE := Lib.hid hi6
   have HCE := Lib.hid hl6
   have HXI := Lib.hid hx
   have HX6 : Hid (x.f6.length ≤ 140737488351232) := Lib.hid (HBB.out x hxl).2.1
   have HWR : Hid (wrap64 ((i : Int) + 1) = ((i + 1 : Nat) : Int)) := Lib.hid (by have := HLN.out; unfold wrap64; omega)
   have HLT := Lib.hid hlt
   have HPV : Hid (bz = true → 0 ≤ wrap64 ((i : Int) - 1) ∧ wrap64 ((i : Int) - 1) < (l.length : Int) ∧ w.cell? (ad.add ((wrap64 ((i : Int) - 1)).toNat * 7)) = some (.int .i64 (rd_T44 l (wrap64 ((i : Int) - 1))).f0)) := Lib.hid (fun h => by
    have hz : 0 < (i : Int) := of_decide_eq_true (hbz.trans h)
    have hw : wrap64 ((i : Int) - 1) = ((i - 1 : Nat) : Int) := by have := HLN.out; unfold wrap64; omega
    obtain ⟨ad2, _, _, ea2, y0, _⟩ := at_T44 HR0.out (wrap64 ((i : Int) - 1)) (by omega) (by omega)
    cases ea2
    exact ⟨by omega, by omega, y0⟩)
   replace x0 := cellB x0 HB.out
   replace x1 := cellB x1 HB.out
   replace x2 := cellB x2 HB.out
   replace x3 := cellB x3 HB.out
   replace x4 := cellB x4 HB.out
   replace x5 := cellB x5 HB.out
   replace x6 := cellB x6 HB.out
   have i1 : decide (0 ≤ (i : Int)) = true := decide_eq_true (by omega)
   have i2 : decide ((i : Int) < (l.length : Int)) = true := decide_eq_true (by omega)
   clear hp hrd hl6 hi6 hi
   go_upto_region 7 with (first | ((with_reducible refine gate_dst (N := 4) rfl ?_); refine box_event ?hg (N := 4) ?hd (cs := zN) (t := 44) ?hr ?_; (case hd => rfl); (case hg => rfl); (case hr => first | (go_simp; done) | (go_simp; rfl)); intro g4 hg4 w2 hbox hb; have B4 := Lib.hid hbox; have HB4 := Lib.hid hb; have HG4 := Lib.hid hg4; clear hbox hb hg4) | (refine store_box rfl rfl (.tmp 4) (.tmp 45) rfl (x0 := x.f0) (x1 := x.f1) (x2 := x.f2) (x3 := x.f3) (x4 := x.f4) (x5 := x.f5) rfl rfl B4.out HG4.out HB4.out ?_; intro w3 hb3 hw3; have BN := Lib.hid hb3; have HB3 := Lib.hid (below_step HB.out hw3); have C1 := Lib.hid (blk_below B1.out hw3); clear hb3 hw3 B4 HB4 HG4))
   clear x0 x1 x2 x3 x4 x5 x6 B1 HB
   have d0 : w3.cell? ⟨g1, 0, none⟩ = some (.slice (some ad) l.length c) := (blk_cell C1.out 0).trans rfl
   have d1 : w3.cell? ⟨g1, 1, none⟩ = some (.int .i64 a1) := (blk_cell C1.out 1).trans rfl
   have n0 : w3.cell? ⟨g4, 0, none⟩ = some (.int .i64 x.f0) := (blk_cell BN.out 0).trans rfl
   have n1 : w3.cell? ⟨g4, 1, none⟩ = some (.int .i64 x.f1) := (blk_cell BN.out 1).trans rfl
   have n2 : w3.cell? ⟨g4, 2, none⟩ = some (.int .i64 x.f2) := (blk_cell BN.out 2).trans rfl
   have n3 : w3.cell? ⟨g4, 3, none⟩ = some (.int .i64 x.f3) := (blk_cell BN.out 3).trans rfl
   have n4 : w3.cell? ⟨g4, 4, none⟩ = some (.int .i64 x.f4) := (blk_cell BN.out 4).trans rfl
   have n5 : w3.cell? ⟨g4, 5, none⟩ = some (.string x.f5) := (blk_cell BN.out 5).trans rfl
   have n6 : w3.cell? ⟨g4, 6, none⟩ = some (.slice A6 x.f6.length c6) := (blk_cell BN.out 6).trans rfl
   have HPV3 : Hid (bz = true → 0 ≤ wrap64 ((i : Int) - 1) ∧ wrap64 ((i : Int) - 1) < (l.length : Int) ∧ w3.cell? (ad.add ((wrap64 ((i : Int) - 1)).toNat * 7)) = some (.int .i64 (rd_T44 l (wrap64 ((i : Int) - 1))).f0)) := Lib.hid (fun h => ⟨(HPV.out h).1, (HPV.out h).2.1, cellB (HPV.out h).2.2 HB3.out⟩)
   clear HPV
   rcases hcase with ⟨hna, hbad⟩ | ⟨hna, rfl, rfl, hgood⟩
   ·
    have HC8 : Hid (chkR l a1 = 80) := Lib.hid (chkR_nodes HLT.out hna)
    rcases hbad with rfl | ⟨rfl, rfl⟩ | ⟨rfl, rfl, rfl, rfl⟩
    all_goals
     (try have hbv1 := hbv rfl)
     (try (have q0 : decide (0 ≤ wrap64 ((i : Int) - 1)) = true := decide_eq_true (HPV3.out rfl).1))
     (try (have q1 : decide (wrap64 ((i : Int) - 1) < (l.length : Int)) = true := decide_eq_true (HPV3.out rfl).2.1))
     (have hpv := HPV3.out; (try have q2 := eq_true (hpv rfl).1); (try have q3 := eq_true (hpv rfl).2.1))
     refine start_ (n := 26) (S := (fun w' => w'.cell? ⟨g4, 0, none⟩ = some (.int .i64 x.f0) ∧ w'.cell? ⟨g4, 1, none⟩ = some (.int .i64 x.f1) ∧ w'.cell? ⟨g4, 2, none⟩ = some (.int .i64 x.f2) ∧ w'.cell? ⟨g4, 3, none⟩ = some (.int .i64 x.f3) ∧ w'.cell? ⟨g4, 4, none⟩ = some (.int .i64 x.f4) ∧ w'.cell? ⟨g4, 5, none⟩ = some (.string x.f5) ∧ w'.cell? ⟨g4, 6, none⟩ = some (.slice A6 x.f6.length c6) ∧ w'.cell? ⟨g1, 0, none⟩ = some (.slice (some ad) l.length c) ∧ w'.cell? ⟨g1, 1, none⟩ = some (.int .i64 a1) ∧ (_ = true → w'.cell? (ad.add ((wrap64 ((i : Int) - 1)).toNat * 7)) = some (.int .i64 (rd_T44 l (wrap64 ((i : Int) - 1))).f0)))) (ds := []) #[false, false, false, false, false, false, false, false, false, false, false, false, false, false, false, false, false, false, false, false, false, false, false, false, false, false] (by kernel_rfl) rfl rfl ⟨n0, n1, n2, n3, n4, n5, n6, d0, d1, fun h => (hpv h).2.2⟩ (fun hHeld => ?_)
     (have HBD := Lib.hid (below_step HB3.out (Below.refl _ w3).drew); have CD := Lib.hid (blk_below C1.out (Below.refl _ w3).drew); clear hpv n0 n1 n2 n3 n4 n5 n6 d0 d1 HPV3 C1 HB3 BN; generalize World.drew _ = wd at HBD CD hHeld ⊢)
     iterate 1 (first | ((first | refine takeS_ 0 (N := some 46) (v := ?_) (a' := ?_) rfl rfl (by decide +kernel) (fun _ _ _ h => h) (Or.inl ⟨by rfl, ?_⟩) hHeld ?_ ?_); rotate_left; (rintro w' ⟨s0, s1, s2, s3, s4, s5, s6, t0, t1, sp⟩; go_simp; first | done | (with_reducible rfl) | rfl); rotate_left; (simp only [Act.put, List.setIfInBounds_toArray, List.set_cons_zero, List.set_cons_succ, i64_w, i32_w]; rfl)) | ((first | refine takeS_ 0 (N := some 46) (v := undef) (a' := ?_) rfl rfl (by decide +kernel) (fun _ _ _ h => h) (Or.inr ⟨by rfl, rfl⟩) hHeld ?_ ?_); rotate_left; (simp only [Act.put, List.setIfInBounds_toArray, List.set_cons_zero, List.set_cons_succ, i64_w, i32_w]; rfl)))
     refine oneS_ 1 (N := some 47) rfl rfl (by kernel_rfl) (by decide) (fun K hK => ?_)
     refine goes_ Tryd.func60 (by kernel_rfl) rfl #[.agg #[.int .i64 x.f0, .int .i64 x.f1, .int .i64 x.f2, .int .i64 x.f3, .int .i64 x.f4, .string x.f5, .slice A6 x.f6.length c6]] (by rfl) rfl rfl (by first | rfl | (simp [Act.eval]; done) | (simp [Act.eval, Act.put]; done)) ?_
     refine (rehearsalref04_plain.calls _ x.f0 x.f1 x.f2 x.f3 x.f4 x.f5 A6 c6 x.f6 _ _ (Kd.C_below HRE.out HBD.out) HCE.out HPL.out).mono ?_
     (rintro e w5 ⟨rfl, hb5⟩; have HB5 := Lib.hid (below_step HBD.out hb5); have C5 := Lib.hid (blk_below CD.out hb5))
     refine ⟨_, rfl, ?_⟩
     refine hK.out _ _ (by obtain ⟨s0, s1, s2, s3, s4, s5, s6, t0, t1, sp⟩ := hHeld; exact ⟨cellB s0 hb5, cellB s1 hb5, cellB s2 hb5, cellB s3 hb5, cellB s4 hb5, cellB s5 hb5, cellB s6 hb5, cellB t0 hb5, cellB t1 hb5, fun h => cellB (sp h) hb5⟩) (fun hHeld => ?_)
     clear hK K
     refine norm_ (a' := ?_) ?_ ?_
     rotate_left
     ·
      show Act.put _ (some 47) _ = _
      simp only [Act.put, List.setIfInBounds_toArray, List.set_cons_zero, List.set_cons_succ, i64_w, i32_w]
      rfl
     iterate 5 (first | ((first | refine takeS_ 2 (N := some 48) (v := ?_) (a' := ?_) rfl rfl (by decide +kernel) (fun _ _ _ h => h) (Or.inl ⟨by rfl, ?_⟩) hHeld ?_ ?_ | refine takeS_ 3 (N := some 49) (v := ?_) (a' := ?_) rfl rfl (by decide +kernel) (fun _ _ _ h => h) (Or.inl ⟨by rfl, ?_⟩) hHeld ?_ ?_ | refine takeS_ 4 (N := some 50) (v := ?_) (a' := ?_) rfl rfl (by decide +kernel) (fun _ _ _ h => h) (Or.inl ⟨by rfl, ?_⟩) hHeld ?_ ?_ | refine takeS_ 5 (N := some 51) (v := ?_) (a' := ?_) rfl rfl (by decide +kernel) (fun _ _ _ h => h) (Or.inl ⟨by rfl, ?_⟩) hHeld ?_ ?_ | refine takeS_ 6 (N := some 52) (v := ?_) (a' := ?_) rfl rfl (by decide +kernel) (fun _ _ _ h => h) (Or.inl ⟨by rfl, ?_⟩) hHeld ?_ ?_); rotate_left; (rintro w' ⟨s0, s1, s2, s3, s4, s5, s6, t0, t1, sp⟩; (try have sp := sp rfl); go_simp; first | done | (with_reducible rfl) | rfl); rotate_left; (simp only [Act.put, List.setIfInBounds_toArray, List.set_cons_zero, List.set_cons_succ, i64_w, i32_w]; rfl)) | ((first | refine takeS_ 2 (N := some 48) (v := undef) (a' := ?_) rfl rfl (by decide +kernel) (fun _ _ _ h => h) (Or.inr ⟨by rfl, rfl⟩) hHeld ?_ ?_ | refine takeS_ 3 (N := some 49) (v := undef) (a' := ?_) rfl rfl (by decide +kernel) (fun _ _ _ h => h) (Or.inr ⟨by rfl, rfl⟩) hHeld ?_ ?_ | refine takeS_ 4 (N := some 50) (v := undef) (a' := ?_) rfl rfl (by decide +kernel) (fun _ _ _ h => h) (Or.inr ⟨by rfl, rfl⟩) hHeld ?_ ?_ | refine takeS_ 5 (N := some 51) (v := undef) (a' := ?_) rfl rfl (by decide +kernel) (fun _ _ _ h => h) (Or.inr ⟨by rfl, rfl⟩) hHeld ?_ ?_ | refine takeS_ 6 (N := some 52) (v := undef) (a' := ?_) rfl rfl (by decide +kernel) (fun _ _ _ h => h) (Or.inr ⟨by rfl, rfl⟩) hHeld ?_ ?_); rotate_left; (simp only [Act.put, List.setIfInBounds_toArray, List.set_cons_zero, List.set_cons_succ, i64_w, i32_w]; rfl)))
     iterate 5 (first | ((first | refine takeS_ 7 (N := some 53) (v := ?_) (a' := ?_) rfl rfl (by decide +kernel) (fun _ _ _ h => h) (Or.inl ⟨by rfl, ?_⟩) hHeld ?_ ?_ | refine takeS_ 8 (N := some 54) (v := ?_) (a' := ?_) rfl rfl (by decide +kernel) (fun _ _ _ h => h) (Or.inl ⟨by rfl, ?_⟩) hHeld ?_ ?_ | refine takeS_ 9 (N := some 55) (v := ?_) (a' := ?_) rfl rfl (by decide +kernel) (fun _ _ _ h => h) (Or.inl ⟨by rfl, ?_⟩) hHeld ?_ ?_ | refine takeS_ 10 (N := some 56) (v := ?_) (a' := ?_) rfl rfl (by decide +kernel) (fun _ _ _ h => h) (Or.inl ⟨by rfl, ?_⟩) hHeld ?_ ?_ | refine takeS_ 11 (N := some 57) (v := ?_) (a' := ?_) rfl rfl (by decide +kernel) (fun _ _ _ h => h) (Or.inl ⟨by rfl, ?_⟩) hHeld ?_ ?_); rotate_left; (rintro w' ⟨s0, s1, s2, s3, s4, s5, s6, t0, t1, sp⟩; (try have sp := sp rfl); go_simp; first | done | (with_reducible rfl) | rfl); rotate_left; (simp only [Act.put, List.setIfInBounds_toArray, List.set_cons_zero, List.set_cons_succ, i64_w, i32_w]; rfl)) | ((first | refine takeS_ 7 (N := some 53) (v := undef) (a' := ?_) rfl rfl (by decide +kernel) (fun _ _ _ h => h) (Or.inr ⟨by rfl, rfl⟩) hHeld ?_ ?_ | refine takeS_ 8 (N := some 54) (v := undef) (a' := ?_) rfl rfl (by decide +kernel) (fun _ _ _ h => h) (Or.inr ⟨by rfl, rfl⟩) hHeld ?_ ?_ | refine takeS_ 9 (N := some 55) (v := undef) (a' := ?_) rfl rfl (by decide +kernel) (fun _ _ _ h => h) (Or.inr ⟨by rfl, rfl⟩) hHeld ?_ ?_ | refine takeS_ 10 (N := some 56) (v := undef) (a' := ?_) rfl rfl (by decide +kernel) (fun _ _ _ h => h) (Or.inr ⟨by rfl, rfl⟩) hHeld ?_ ?_ | refine takeS_ 11 (N := some 57) (v := undef) (a' := ?_) rfl rfl (by decide +kernel) (fun _ _ _ h => h) (Or.inr ⟨by rfl, rfl⟩) hHeld ?_ ?_); rotate_left; (simp only [Act.put, List.setIfInBounds_toArray, List.set_cons_zero, List.set_cons_succ, i64_w, i32_w]; rfl)))
     iterate 5 (first | ((first | refine takeS_ 12 (N := some 58) (v := ?_) (a' := ?_) rfl rfl (by decide +kernel) (fun _ _ _ h => h) (Or.inl ⟨by rfl, ?_⟩) hHeld ?_ ?_ | refine takeS_ 13 (N := some 59) (v := ?_) (a' := ?_) rfl rfl (by decide +kernel) (fun _ _ _ h => h) (Or.inl ⟨by rfl, ?_⟩) hHeld ?_ ?_ | refine takeS_ 14 (N := some 60) (v := ?_) (a' := ?_) rfl rfl (by decide +kernel) (fun _ _ _ h => h) (Or.inl ⟨by rfl, ?_⟩) hHeld ?_ ?_ | refine takeS_ 15 (N := some 61) (v := ?_) (a' := ?_) rfl rfl (by decide +kernel) (fun _ _ _ h => h) (Or.inl ⟨by rfl, ?_⟩) hHeld ?_ ?_ | refine takeS_ 16 (N := some 62) (v := ?_) (a' := ?_) rfl rfl (by decide +kernel) (fun _ _ _ h => h) (Or.inl ⟨by rfl, ?_⟩) hHeld ?_ ?_); rotate_left; (rintro w' ⟨s0, s1, s2, s3, s4, s5, s6, t0, t1, sp⟩; (try have sp := sp rfl); go_simp; first | done | (with_reducible rfl) | rfl); rotate_left; (simp only [Act.put, List.setIfInBounds_toArray, List.set_cons_zero, List.set_cons_succ, i64_w, i32_w]; rfl)) | ((first | refine takeS_ 12 (N := some 58) (v := undef) (a' := ?_) rfl rfl (by decide +kernel) (fun _ _ _ h => h) (Or.inr ⟨by rfl, rfl⟩) hHeld ?_ ?_ | refine takeS_ 13 (N := some 59) (v := undef) (a' := ?_) rfl rfl (by decide +kernel) (fun _ _ _ h => h) (Or.inr ⟨by rfl, rfl⟩) hHeld ?_ ?_ | refine takeS_ 14 (N := some 60) (v := undef) (a' := ?_) rfl rfl (by decide +kernel) (fun _ _ _ h => h) (Or.inr ⟨by rfl, rfl⟩) hHeld ?_ ?_ | refine takeS_ 15 (N := some 61) (v := undef) (a' := ?_) rfl rfl (by decide +kernel) (fun _ _ _ h => h) (Or.inr ⟨by rfl, rfl⟩) hHeld ?_ ?_ | refine takeS_ 16 (N := some 62) (v := undef) (a' := ?_) rfl rfl (by decide +kernel) (fun _ _ _ h => h) (Or.inr ⟨by rfl, rfl⟩) hHeld ?_ ?_); rotate_left; (simp only [Act.put, List.setIfInBounds_toArray, List.set_cons_zero, List.set_cons_succ, i64_w, i32_w]; rfl)))
     iterate 5 (first | ((first | refine takeS_ 17 (N := some 63) (v := ?_) (a' := ?_) rfl rfl (by decide +kernel) (fun _ _ _ h => h) (Or.inl ⟨by rfl, ?_⟩) hHeld ?_ ?_ | refine takeS_ 18 (N := some 64) (v := ?_) (a' := ?_) rfl rfl (by decide +kernel) (fun _ _ _ h => h) (Or.inl ⟨by rfl, ?_⟩) hHeld ?_ ?_ | refine takeS_ 19 (N := some 65) (v := ?_) (a' := ?_) rfl rfl (by decide +kernel) (fun _ _ _ h => h) (Or.inl ⟨by rfl, ?_⟩) hHeld ?_ ?_ | refine takeS_ 20 (N := some 66) (v := ?_) (a' := ?_) rfl rfl (by decide +kernel) (fun _ _ _ h => h) (Or.inl ⟨by rfl, ?_⟩) hHeld ?_ ?_ | refine takeS_ 21 (N := some 67) (v := ?_) (a' := ?_) rfl rfl (by decide +kernel) (fun _ _ _ h => h) (Or.inl ⟨by rfl, ?_⟩) hHeld ?_ ?_); rotate_left; (rintro w' ⟨s0, s1, s2, s3, s4, s5, s6, t0, t1, sp⟩; (try have sp := sp rfl); go_simp; first | done | (with_reducible rfl) | rfl); rotate_left; (simp only [Act.put, List.setIfInBounds_toArray, List.set_cons_zero, List.set_cons_succ, i64_w, i32_w]; rfl)) | ((first | refine takeS_ 17 (N := some 63) (v := undef) (a' := ?_) rfl rfl (by decide +kernel) (fun _ _ _ h => h) (Or.inr ⟨by rfl, rfl⟩) hHeld ?_ ?_ | refine takeS_ 18 (N := some 64) (v := undef) (a' := ?_) rfl rfl (by decide +kernel) (fun _ _ _ h => h) (Or.inr ⟨by rfl, rfl⟩) hHeld ?_ ?_ | refine takeS_ 19 (N := some 65) (v := undef) (a' := ?_) rfl rfl (by decide +kernel) (fun _ _ _ h => h) (Or.inr ⟨by rfl, rfl⟩) hHeld ?_ ?_ | refine takeS_ 20 (N := some 66) (v := undef) (a' := ?_) rfl rfl (by decide +kernel) (fun _ _ _ h => h) (Or.inr ⟨by rfl, rfl⟩) hHeld ?_ ?_ | refine takeS_ 21 (N := some 67) (v := undef) (a' := ?_) rfl rfl (by decide +kernel) (fun _ _ _ h => h) (Or.inr ⟨by rfl, rfl⟩) hHeld ?_ ?_); rotate_left; (simp only [Act.put, List.setIfInBounds_toArray, List.set_cons_zero, List.set_cons_succ, i64_w, i32_w]; rfl)))
     iterate 4 (first | ((first | refine takeS_ 22 (N := some 68) (v := ?_) (a' := ?_) rfl rfl (by decide +kernel) (fun _ _ _ h => h) (Or.inl ⟨by rfl, ?_⟩) hHeld ?_ ?_ | refine takeS_ 23 (N := some 69) (v := ?_) (a' := ?_) rfl rfl (by decide +kernel) (fun _ _ _ h => h) (Or.inl ⟨by rfl, ?_⟩) hHeld ?_ ?_ | refine takeS_ 24 (N := some 70) (v := ?_) (a' := ?_) rfl rfl (by decide +kernel) (fun _ _ _ h => h) (Or.inl ⟨by rfl, ?_⟩) hHeld ?_ ?_ | refine takeS_ 25 (N := some 71) (v := ?_) (a' := ?_) rfl rfl (by decide +kernel) (fun _ _ _ h => h) (Or.inl ⟨by rfl, ?_⟩) hHeld ?_ ?_); rotate_left; (rintro w' ⟨s0, s1, s2, s3, s4, s5, s6, t0, t1, sp⟩; (try have sp := sp rfl); go_simp; first | done | (with_reducible rfl) | rfl); rotate_left; (simp only [Act.put, List.setIfInBounds_toArray, List.set_cons_zero, List.set_cons_succ, i64_w, i32_w]; rfl)) | ((first | refine takeS_ 22 (N := some 68) (v := undef) (a' := ?_) rfl rfl (by decide +kernel) (fun _ _ _ h => h) (Or.inr ⟨by rfl, rfl⟩) hHeld ?_ ?_ | refine takeS_ 23 (N := some 69) (v := undef) (a' := ?_) rfl rfl (by decide +kernel) (fun _ _ _ h => h) (Or.inr ⟨by rfl, rfl⟩) hHeld ?_ ?_ | refine takeS_ 24 (N := some 70) (v := undef) (a' := ?_) rfl rfl (by decide +kernel) (fun _ _ _ h => h) (Or.inr ⟨by rfl, rfl⟩) hHeld ?_ ?_ | refine takeS_ 25 (N := some 71) (v := undef) (a' := ?_) rfl rfl (by decide +kernel) (fun _ _ _ h => h) (Or.inr ⟨by rfl, rfl⟩) hHeld ?_ ?_); rotate_left; (simp only [Act.put, List.setIfInBounds_toArray, List.set_cons_zero, List.set_cons_succ, i64_w, i32_w]; rfl)))
     refine done_ (by kernel_rfl) ?_
     go_wp2
     go_ret
     exact ⟨by rw [HC8.out]; rfl, HB5.out⟩
   ·
    rcases hgood with rfl | ⟨rfl, rfl⟩
    all_goals
     (try have hbv1 := hbv rfl)
     (try (have q0 : decide (0 ≤ wrap64 ((i : Int) - 1)) = true := decide_eq_true (HPV3.out rfl).1))
     (try (have q1 : decide (wrap64 ((i : Int) - 1) < (l.length : Int)) = true := decide_eq_true (HPV3.out rfl).2.1))
     (have hpv := HPV3.out; (try have q2 := eq_true (hpv rfl).1); (try have q3 := eq_true (hpv rfl).2.1))
     refine start_ (n := 26) (S := (fun w' => w'.cell? ⟨g4, 0, none⟩ = some (.int .i64 x.f0) ∧ w'.cell? ⟨g4, 1, none⟩ = some (.int .i64 x.f1) ∧ w'.cell? ⟨g4, 2, none⟩ = some (.int .i64 x.f2) ∧ w'.cell? ⟨g4, 3, none⟩ = some (.int .i64 x.f3) ∧ w'.cell? ⟨g4, 4, none⟩ = some (.int .i64 x.f4) ∧ w'.cell? ⟨g4, 5, none⟩ = some (.string x.f5) ∧ w'.cell? ⟨g4, 6, none⟩ = some (.slice A6 x.f6.length c6) ∧ w'.cell? ⟨g1, 0, none⟩ = some (.slice (some ad) l.length c) ∧ w'.cell? ⟨g1, 1, none⟩ = some (.int .i64 a1) ∧ (_ = true → w'.cell? (ad.add ((wrap64 ((i : Int) - 1)).toNat * 7)) = some (.int .i64 (rd_T44 l (wrap64 ((i : Int) - 1))).f0)))) (ds := []) #[false, false, false, false, false, false, false, false, false, false, false, false, false, false, false, false, false, false, false, false, false, false, false, false, false, false] (by kernel_rfl) rfl rfl ⟨n0, n1, n2, n3, n4, n5, n6, d0, d1, fun h => (hpv h).2.2⟩ (fun hHeld => ?_)
     (have HBD := Lib.hid (below_step HB3.out (Below.refl _ w3).drew); have CD := Lib.hid (blk_below C1.out (Below.refl _ w3).drew); clear hpv n0 n1 n2 n3 n4 n5 n6 d0 d1 HPV3 C1 HB3 BN; generalize World.drew _ = wd at HBD CD hHeld ⊢)
     iterate 1 (first | ((first | refine takeS_ 0 (N := some 46) (v := ?_) (a' := ?_) rfl rfl (by decide +kernel) (fun _ _ _ h => h) (Or.inl ⟨by rfl, ?_⟩) hHeld ?_ ?_); rotate_left; (rintro w' ⟨s0, s1, s2, s3, s4, s5, s6, t0, t1, sp⟩; go_simp; first | done | (with_reducible rfl) | rfl); rotate_left; (simp only [Act.put, List.setIfInBounds_toArray, List.set_cons_zero, List.set_cons_succ, i64_w, i32_w]; rfl)) | ((first | refine takeS_ 0 (N := some 46) (v := undef) (a' := ?_) rfl rfl (by decide +kernel) (fun _ _ _ h => h) (Or.inr ⟨by rfl, rfl⟩) hHeld ?_ ?_); rotate_left; (simp only [Act.put, List.setIfInBounds_toArray, List.set_cons_zero, List.set_cons_succ, i64_w, i32_w]; rfl)))
     refine oneS_ 1 (N := some 47) rfl rfl (by kernel_rfl) (by decide) (fun K hK => ?_)
     refine goes_ Tryd.func60 (by kernel_rfl) rfl #[.agg #[.int .i64 x.f0, .int .i64 x.f1, .int .i64 x.f2, .int .i64 x.f3, .int .i64 x.f4, .string x.f5, .slice A6 x.f6.length c6]] (by rfl) rfl rfl (by first | rfl | (simp [Act.eval]; done) | (simp [Act.eval, Act.put]; done)) ?_
     refine (rehearsalref04_plain.calls _ x.f0 x.f1 x.f2 x.f3 x.f4 x.f5 A6 c6 x.f6 _ _ (Kd.C_below HRE.out HBD.out) HCE.out HPL.out).mono ?_
     (rintro e w5 ⟨rfl, hb5⟩; have HB5 := Lib.hid (below_step HBD.out hb5); have C5 := Lib.hid (blk_below CD.out hb5))
     refine ⟨_, rfl, ?_⟩
     refine hK.out _ _ (by obtain ⟨s0, s1, s2, s3, s4, s5, s6, t0, t1, sp⟩ := hHeld; exact ⟨cellB s0 hb5, cellB s1 hb5, cellB s2 hb5, cellB s3 hb5, cellB s4 hb5, cellB s5 hb5, cellB s6 hb5, cellB t0 hb5, cellB t1 hb5, fun h => cellB (sp h) hb5⟩) (fun hHeld => ?_)
     clear hK K
     refine norm_ (a' := ?_) ?_ ?_
     rotate_left
     ·
      show Act.put _ (some 47) _ = _
      simp only [Act.put, List.setIfInBounds_toArray, List.set_cons_zero, List.set_cons_succ, i64_w, i32_w]
      rfl
     iterate 5 (first | ((first | refine takeS_ 2 (N := some 48) (v := ?_) (a' := ?_) rfl rfl (by decide +kernel) (fun _ _ _ h => h) (Or.inl ⟨by rfl, ?_⟩) hHeld ?_ ?_ | refine takeS_ 3 (N := some 49) (v := ?_) (a' := ?_) rfl rfl (by decide +kernel) (fun _ _ _ h => h) (Or.inl ⟨by rfl, ?_⟩) hHeld ?_ ?_ | refine takeS_ 4 (N := some 50) (v := ?_) (a' := ?_) rfl rfl (by decide +kernel) (fun _ _ _ h => h) (Or.inl ⟨by rfl, ?_⟩) hHeld ?_ ?_ | refine takeS_ 5 (N := some 51) (v := ?_) (a' := ?_) rfl rfl (by decide +kernel) (fun _ _ _ h => h) (Or.inl ⟨by rfl, ?_⟩) hHeld ?_ ?_ | refine takeS_ 6 (N := some 52) (v := ?_) (a' := ?_) rfl rfl (by decide +kernel) (fun _ _ _ h => h) (Or.inl ⟨by rfl, ?_⟩) hHeld ?_ ?_); rotate_left; (rintro w' ⟨s0, s1, s2, s3, s4, s5, s6, t0, t1, sp⟩; (try have sp := sp rfl); go_simp; first | done | (with_reducible rfl) | rfl); rotate_left; (simp only [Act.put, List.setIfInBounds_toArray, List.set_cons_zero, List.set_cons_succ, i64_w, i32_w]; rfl)) | ((first | refine takeS_ 2 (N := some 48) (v := undef) (a' := ?_) rfl rfl (by decide +kernel) (fun _ _ _ h => h) (Or.inr ⟨by rfl, rfl⟩) hHeld ?_ ?_ | refine takeS_ 3 (N := some 49) (v := undef) (a' := ?_) rfl rfl (by decide +kernel) (fun _ _ _ h => h) (Or.inr ⟨by rfl, rfl⟩) hHeld ?_ ?_ | refine takeS_ 4 (N := some 50) (v := undef) (a' := ?_) rfl rfl (by decide +kernel) (fun _ _ _ h => h) (Or.inr ⟨by rfl, rfl⟩) hHeld ?_ ?_ | refine takeS_ 5 (N := some 51) (v := undef) (a' := ?_) rfl rfl (by decide +kernel) (fun _ _ _ h => h) (Or.inr ⟨by rfl, rfl⟩) hHeld ?_ ?_ | refine takeS_ 6 (N := some 52) (v := undef) (a' := ?_) rfl rfl (by decide +kernel) (fun _ _ _ h => h) (Or.inr ⟨by rfl, rfl⟩) hHeld ?_ ?_); rotate_left; (simp only [Act.put, List.setIfInBounds_toArray, List.set_cons_zero, List.set_cons_succ, i64_w, i32_w]; rfl)))
     iterate 5 (first | ((first | refine takeS_ 7 (N := some 53) (v := ?_) (a' := ?_) rfl rfl (by decide +kernel) (fun _ _ _ h => h) (Or.inl ⟨by rfl, ?_⟩) hHeld ?_ ?_ | refine takeS_ 8 (N := some 54) (v := ?_) (a' := ?_) rfl rfl (by decide +kernel) (fun _ _ _ h => h) (Or.inl ⟨by rfl, ?_⟩) hHeld ?_ ?_ | refine takeS_ 9 (N := some 55) (v := ?_) (a' := ?_) rfl rfl (by decide +kernel) (fun _ _ _ h => h) (Or.inl ⟨by rfl, ?_⟩) hHeld ?_ ?_ | refine takeS_ 10 (N := some 56) (v := ?_) (a' := ?_) rfl rfl (by decide +kernel) (fun _ _ _ h => h) (Or.inl ⟨by rfl, ?_⟩) hHeld ?_ ?_ | refine takeS_ 11 (N := some 57) (v := ?_) (a' := ?_) rfl rfl (by decide +kernel) (fun _ _ _ h => h) (Or.inl ⟨by rfl, ?_⟩) hHeld ?_ ?_); rotate_left; (rintro w' ⟨s0, s1, s2, s3, s4, s5, s6, t0, t1, sp⟩; (try have sp := sp rfl); go_simp; first | done | (with_reducible rfl) | rfl); rotate_left; (simp only [Act.put, List.setIfInBounds_toArray, List.set_cons_zero, List.set_cons_succ, i64_w, i32_w]; rfl)) | ((first | refine takeS_ 7 (N := some 53) (v := undef) (a' := ?_) rfl rfl (by decide +kernel) (fun _ _ _ h => h) (Or.inr ⟨by rfl, rfl⟩) hHeld ?_ ?_ | refine takeS_ 8 (N := some 54) (v := undef) (a' := ?_) rfl rfl (by decide +kernel) (fun _ _ _ h => h) (Or.inr ⟨by rfl, rfl⟩) hHeld ?_ ?_ | refine takeS_ 9 (N := some 55) (v := undef) (a' := ?_) rfl rfl (by decide +kernel) (fun _ _ _ h => h) (Or.inr ⟨by rfl, rfl⟩) hHeld ?_ ?_ | refine takeS_ 10 (N := some 56) (v := undef) (a' := ?_) rfl rfl (by decide +kernel) (fun _ _ _ h => h) (Or.inr ⟨by rfl, rfl⟩) hHeld ?_ ?_ | refine takeS_ 11 (N := some 57) (v := undef) (a' := ?_) rfl rfl (by decide +kernel) (fun _ _ _ h => h) (Or.inr ⟨by rfl, rfl⟩) hHeld ?_ ?_); rotate_left; (simp only [Act.put, List.setIfInBounds_toArray, List.set_cons_zero, List.set_cons_succ, i64_w, i32_w]; rfl)))
     iterate 5 (first | ((first | refine takeS_ 12 (N := some 58) (v := ?_) (a' := ?_) rfl rfl (by decide +kernel) (fun _ _ _ h => h) (Or.inl ⟨by rfl, ?_⟩) hHeld ?_ ?_ | refine takeS_ 13 (N := some 59) (v := ?_) (a' := ?_) rfl rfl (by decide +kernel) (fun _ _ _ h => h) (Or.inl ⟨by rfl, ?_⟩) hHeld ?_ ?_ | refine takeS_ 14 (N := some 60) (v := ?_) (a' := ?_) rfl rfl (by decide +kernel) (fun _ _ _ h => h) (Or.inl ⟨by rfl, ?_⟩) hHeld ?_ ?_ | refine takeS_ 15 (N := some 61) (v := ?_) (a' := ?_) rfl rfl (by decide +kernel) (fun _ _ _ h => h) (Or.inl ⟨by rfl, ?_⟩) hHeld ?_ ?_ | refine takeS_ 16 (N := some 62) (v := ?_) (a' := ?_) rfl rfl (by decide +kernel) (fun _ _ _ h => h) (Or.inl ⟨by rfl, ?_⟩) hHeld ?_ ?_); rotate_left; (rintro w' ⟨s0, s1, s2, s3, s4, s5, s6, t0, t1, sp⟩; (try have sp := sp rfl); go_simp; first | done | (with_reducible rfl) | rfl); rotate_left; (simp only [Act.put, List.setIfInBounds_toArray, List.set_cons_zero, List.set_cons_succ, i64_w, i32_w]; rfl)) | ((first | refine takeS_ 12 (N := some 58) (v := undef) (a' := ?_) rfl rfl (by decide +kernel) (fun _ _ _ h => h) (Or.inr ⟨by rfl, rfl⟩) hHeld ?_ ?_ | refine takeS_ 13 (N := some 59) (v := undef) (a' := ?_) rfl rfl (by decide +kernel) (fun _ _ _ h => h) (Or.inr ⟨by rfl, rfl⟩) hHeld ?_ ?_ | refine takeS_ 14 (N := some 60) (v := undef) (a' := ?_) rfl rfl (by decide +kernel) (fun _ _ _ h => h) (Or.inr ⟨by rfl, rfl⟩) hHeld ?_ ?_ | refine takeS_ 15 (N := some 61) (v := undef) (a' := ?_) rfl rfl (by decide +kernel) (fun _ _ _ h => h) (Or.inr ⟨by rfl, rfl⟩) hHeld ?_ ?_ | refine takeS_ 16 (N := some 62) (v := undef) (a' := ?_) rfl rfl (by decide +kernel) (fun _ _ _ h => h) (Or.inr ⟨by rfl, rfl⟩) hHeld ?_ ?_); rotate_left; (simp only [Act.put, List.setIfInBounds_toArray, List.set_cons_zero, List.set_cons_succ, i64_w, i32_w]; rfl)))
     iterate 5 (first | ((first | refine takeS_ 17 (N := some 63) (v := ?_) (a' := ?_) rfl rfl (by decide +kernel) (fun _ _ _ h => h) (Or.inl ⟨by rfl, ?_⟩) hHeld ?_ ?_ | refine takeS_ 18 (N := some 64) (v := ?_) (a' := ?_) rfl rfl (by decide +kernel) (fun _ _ _ h => h) (Or.inl ⟨by rfl, ?_⟩) hHeld ?_ ?_ | refine takeS_ 19 (N := some 65) (v := ?_) (a' := ?_) rfl rfl (by decide +kernel) (fun _ _ _ h => h) (Or.inl ⟨by rfl, ?_⟩) hHeld ?_ ?_ | refine takeS_ 20 (N := some 66) (v := ?_) (a' := ?_) rfl rfl (by decide +kernel) (fun _ _ _ h => h) (Or.inl ⟨by rfl, ?_⟩) hHeld ?_ ?_ | refine takeS_ 21 (N := some 67) (v := ?_) (a' := ?_) rfl rfl (by decide +kernel) (fun _ _ _ h => h) (Or.inl ⟨by rfl, ?_⟩) hHeld ?_ ?_); rotate_left; (rintro w' ⟨s0, s1, s2, s3, s4, s5, s6, t0, t1, sp⟩; (try have sp := sp rfl); go_simp; first | done | (with_reducible rfl) | rfl); rotate_left; (simp only [Act.put, List.setIfInBounds_toArray, List.set_cons_zero, List.set_cons_succ, i64_w, i32_w]; rfl)) | ((first | refine takeS_ 17 (N := some 63) (v := undef) (a' := ?_) rfl rfl (by decide +kernel) (fun _ _ _ h => h) (Or.inr ⟨by rfl, rfl⟩) hHeld ?_ ?_ | refine takeS_ 18 (N := some 64) (v := undef) (a' := ?_) rfl rfl (by decide +kernel) (fun _ _ _ h => h) (Or.inr ⟨by rfl, rfl⟩) hHeld ?_ ?_ | refine takeS_ 19 (N := some 65) (v := undef) (a' := ?_) rfl rfl (by decide +kernel) (fun _ _ _ h => h) (Or.inr ⟨by rfl, rfl⟩) hHeld ?_ ?_ | refine takeS_ 20 (N := some 66) (v := undef) (a' := ?_) rfl rfl (by decide +kernel) (fun _ _ _ h => h) (Or.inr ⟨by rfl, rfl⟩) hHeld ?_ ?_ | refine takeS_ 21 (N := some 67) (v := undef) (a' := ?_) rfl rfl (by decide +kernel) (fun _ _ _ h => h) (Or.inr ⟨by rfl, rfl⟩) hHeld ?_ ?_); rotate_left; (simp only [Act.put, List.setIfInBounds_toArray, List.set_cons_zero, List.set_cons_succ, i64_w, i32_w]; rfl)))
     iterate 4 (first | ((first | refine takeS_ 22 (N := some 68) (v := ?_) (a' := ?_) rfl rfl (by decide +kernel) (fun _ _ _ h => h) (Or.inl ⟨by rfl, ?_⟩) hHeld ?_ ?_ | refine takeS_ 23 (N := some 69) (v := ?_) (a' := ?_) rfl rfl (by decide +kernel) (fun _ _ _ h => h) (Or.inl ⟨by rfl, ?_⟩) hHeld ?_ ?_ | refine takeS_ 24 (N := some 70) (v := ?_) (a' := ?_) rfl rfl (by decide +kernel) (fun _ _ _ h => h) (Or.inl ⟨by rfl, ?_⟩) hHeld ?_ ?_ | refine takeS_ 25 (N := some 71) (v := ?_) (a' := ?_) rfl rfl (by decide +kernel) (fun _ _ _ h => h) (Or.inl ⟨by rfl, ?_⟩) hHeld ?_ ?_); rotate_left; (rintro w' ⟨s0, s1, s2, s3, s4, s5, s6, t0, t1, sp⟩; (try have sp := sp rfl); go_simp; first | done | (with_reducible rfl) | rfl); rotate_left; (simp only [Act.put, List.setIfInBounds_toArray, List.set_cons_zero, List.set_cons_succ, i64_w, i32_w]; rfl)) | ((first | refine takeS_ 22 (N := some 68) (v := undef) (a' := ?_) rfl rfl (by decide +kernel) (fun _ _ _ h => h) (Or.inr ⟨by rfl, rfl⟩) hHeld ?_ ?_ | refine takeS_ 23 (N := some 69) (v := undef) (a' := ?_) rfl rfl (by decide +kernel) (fun _ _ _ h => h) (Or.inr ⟨by rfl, rfl⟩) hHeld ?_ ?_ | refine takeS_ 24 (N := some 70) (v := undef) (a' := ?_) rfl rfl (by decide +kernel) (fun _ _ _ h => h) (Or.inr ⟨by rfl, rfl⟩) hHeld ?_ ?_ | refine takeS_ 25 (N := some 71) (v := undef) (a' := ?_) rfl rfl (by decide +kernel) (fun _ _ _ h => h) (Or.inr ⟨by rfl, rfl⟩) hHeld ?_ ?_); rotate_left; (simp only [Act.put, List.setIfInBounds_toArray, List.set_cons_zero, List.set_cons_succ, i64_w, i32_w]; rfl)))
     refine done_ (by kernel_rfl) ?_
     have C6 := Lib.hid hHeld.2.2.2.2.2.2.1
     clear hHeld
     go_wp2
     go_loopw [5] (fun s5 wr => ∃ q : Nat, q ≤ x.f6.length ∧ s5 = .int .i64 q ∧ Hid (∀ p (h : p < x.f6.length), p < q → x.f6[p].f1 ∈ idsL l) ∧ Hid (Below w.heap.size w wr) ∧ Hid (wr.heap[g1]? = some (.cells #[.slice (some ad) l.length c, .int .i64 a1, .int .i64 a2, .int .i64 a3] 26 (0, 0))) ∧ Hid (wr.cell? ⟨g4, 6, none⟩ = some (.slice A6 x.f6.length c6))) (fun s5 _ => x.f6.length - (intOf s5).toNat)
     case atStart => exact ⟨0, Nat.zero_le _, rfl, Lib.hid (fun p _ h => by omega), HB5, C5, C6⟩
     case round =>
      clear HB5 C5 C6
      obtain ⟨q, hq, rfl, HQ, HB, C1, C6⟩ := hrel
      by_cases hlt : q < x.f6.length
      ·
       obtain ⟨name, node, hen⟩ : ∃ name node, x.f6[q] = ⟨name, node⟩ := ⟨_, _, rfl⟩
       have hnode : x.f6[q].f1 = node := by rw [hen]
       have hrd : rd_T61 x.f6 (q : Int) = ⟨name, node⟩ := (rdE _ q hlt).trans hen
       obtain ⟨ae, ee, e0, e1⟩ := at_T61 HRE.out (q : Int) (by omega) (by omega)
       cases ee
       rw [hrd, Int.toNat_natCast] at e1
       replace e1 := cellB e1 HB.out
       have i0 : decide (0 ≤ (q : Int)) = true := decide_eq_true (by omega)
       have i1 : decide ((q : Int) < (x.f6.length : Int)) = true := decide_eq_true (by omega)
       have HWK : Hid (wrap64 ((q : Int) + 1) = ((q + 1 : Nat) : Int)) := Lib.hid (by have := HX6.out; unfold wrap64; omega)
       have HPL2 : Hid (rehearsalref04_Place.f (l.length + 1) l a1 a2 a3 node = some (pl l node)) := Lib.hid (place_ref l a1 a2 a3 node (by have := HLN.out; omega) _ (by omega))
       have HNEG : Hid (∀ p (h : p < x.f6.length), p < q + 1 → node ∈ idsL l → x.f6[p].f1 ∈ idsL l) := Lib.hid (fun p h hp hin => by
        by_cases e : p = q
        ·
         subst e; rw [hnode]; exact hin
        ·
         exact HQ.out p h (by omega))
       have HBADT : Hid (node ∉ idsL l → chkR l a1 = 80) := Lib.hid (fun hno => chkR_tg HLT.out (by rw [HXI.out]; exact fun h => hno (by have := h q hlt; rwa [hnode] at this)))
       have HLK := Lib.hid hlt
       clear hrd hnode hen hq hlt e0
       have d0 : wr.cell? ⟨g1, 0, none⟩ = some (.slice (some ad) l.length c) := (blk_cell C1.out 0).trans rfl
       have d1 : wr.cell? ⟨g1, 1, none⟩ = some (.int .i64 a1) := (blk_cell C1.out 1).trans rfl
       have d2 : wr.cell? ⟨g1, 2, none⟩ = some (.int .i64 a2) := (blk_cell C1.out 2).trans rfl
       have d3 : wr.cell? ⟨g1, 3, none⟩ = some (.int .i64 a3) := (blk_cell C1.out 3).trans rfl
       have n6 := C6.out
       go_wp2
       refine start_ (n := 9) (S := (fun w' => w'.cell? ⟨g1, 0, none⟩ = some (.slice (some ad) l.length c) ∧ w'.cell? ⟨g1, 1, none⟩ = some (.int .i64 a1) ∧ w'.cell? ⟨g1, 2, none⟩ = some (.int .i64 a2) ∧ w'.cell? ⟨g1, 3, none⟩ = some (.int .i64 a3) ∧ w'.cell? ⟨g4, 6, none⟩ = some (.slice (some ae) x.f6.length c6) ∧ w'.cell? ⟨(ae.add (q * 2)).block, (ae.add (q * 2)).off + 1, none⟩ = some (.int .i64 node))) (ds := []) #[false, false, false, false, false, false, false, false, false] (by kernel_rfl) rfl rfl ⟨d0, d1, d2, d3, n6, e1⟩ (fun hHeld => ?_)
       have HBD := Lib.hid (below_step HB.out (Below.refl _ wr).drew)
       have CD := Lib.hid (blk_below C1.out (Below.refl _ wr).drew)
       clear HB C1 C6 d0 d1 d2 d3 n6 e1
       generalize World.drew _ = wd at HBD CD hHeld ⊢
       iterate 5 (first | ((first | refine takeS_ 0 (N := some 79) (v := ?_) (a' := ?_) rfl rfl (by decide +kernel) (fun _ _ _ h => h) (Or.inl ⟨by rfl, ?_⟩) hHeld ?_ ?_ | refine takeS_ 1 (N := some 80) (v := ?_) (a' := ?_) rfl rfl (by decide +kernel) (fun _ _ _ h => h) (Or.inl ⟨by rfl, ?_⟩) hHeld ?_ ?_ | refine takeS_ 2 (N := some 81) (v := ?_) (a' := ?_) rfl rfl (by decide +kernel) (fun _ _ _ h => h) (Or.inl ⟨by rfl, ?_⟩) hHeld ?_ ?_ | refine takeS_ 3 (N := some 82) (v := ?_) (a' := ?_) rfl rfl (by decide +kernel) (fun _ _ _ h => h) (Or.inl ⟨by rfl, ?_⟩) hHeld ?_ ?_ | refine takeS_ 4 (N := some 83) (v := ?_) (a' := ?_) rfl rfl (by decide +kernel) (fun _ _ _ h => h) (Or.inl ⟨by rfl, ?_⟩) hHeld ?_ ?_); rotate_left; (rintro w' ⟨s0, s1, s2, s3, s4, s5⟩; go_simp; first | done | (with_reducible rfl) | rfl); rotate_left; (simp only [Act.put, List.setIfInBounds_toArray, List.set_cons_zero, List.set_cons_succ, i64_w, i32_w]; rfl)) | ((first | refine takeS_ 0 (N := some 79) (v := undef) (a' := ?_) rfl rfl (by decide +kernel) (fun _ _ _ h => h) (Or.inr ⟨by rfl, rfl⟩) hHeld ?_ ?_ | refine takeS_ 1 (N := some 80) (v := undef) (a' := ?_) rfl rfl (by decide +kernel) (fun _ _ _ h => h) (Or.inr ⟨by rfl, rfl⟩) hHeld ?_ ?_ | refine takeS_ 2 (N := some 81) (v := undef) (a' := ?_) rfl rfl (by decide +kernel) (fun _ _ _ h => h) (Or.inr ⟨by rfl, rfl⟩) hHeld ?_ ?_ | refine takeS_ 3 (N := some 82) (v := undef) (a' := ?_) rfl rfl (by decide +kernel) (fun _ _ _ h => h) (Or.inr ⟨by rfl, rfl⟩) hHeld ?_ ?_ | refine takeS_ 4 (N := some 83) (v := undef) (a' := ?_) rfl rfl (by decide +kernel) (fun _ _ _ h => h) (Or.inr ⟨by rfl, rfl⟩) hHeld ?_ ?_); rotate_left; (simp only [Act.put, List.setIfInBounds_toArray, List.set_cons_zero, List.set_cons_succ, i64_w, i32_w]; rfl)))
       iterate 2 (first | ((first | refine takeS_ 5 (N := some 84) (v := ?_) (a' := ?_) rfl rfl (by decide +kernel) (fun _ _ _ h => h) (Or.inl ⟨by rfl, ?_⟩) hHeld ?_ ?_ | refine takeS_ 6 (N := some 85) (v := ?_) (a' := ?_) rfl rfl (by decide +kernel) (fun _ _ _ h => h) (Or.inl ⟨by rfl, ?_⟩) hHeld ?_ ?_); rotate_left; (rintro w' ⟨s0, s1, s2, s3, s4, s5⟩; go_simp; first | done | (with_reducible rfl) | rfl); rotate_left; (simp only [Act.put, List.setIfInBounds_toArray, List.set_cons_zero, List.set_cons_succ, i64_w, i32_w]; rfl)) | ((first | refine takeS_ 5 (N := some 84) (v := undef) (a' := ?_) rfl rfl (by decide +kernel) (fun _ _ _ h => h) (Or.inr ⟨by rfl, rfl⟩) hHeld ?_ ?_ | refine takeS_ 6 (N := some 85) (v := undef) (a' := ?_) rfl rfl (by decide +kernel) (fun _ _ _ h => h) (Or.inr ⟨by rfl, rfl⟩) hHeld ?_ ?_); rotate_left; (simp only [Act.put, List.setIfInBounds_toArray, List.set_cons_zero, List.set_cons_succ, i64_w, i32_w]; rfl)))
       refine oneS_ 7 (N := some 86) rfl rfl (by kernel_rfl) (by decide) (fun K hK => ?_)
       refine goes_ Tryd.func61 (by kernel_rfl) rfl #[.agg #[.slice (some ad) l.length c, .int .i64 a1, .int .i64 a2, .int .i64 a3], .int .i64 node] (by rfl) rfl rfl (by first | rfl | (simp [Act.eval]; done) | (simp [Act.eval, Act.put]; done)) ?_
       refine (rehearsalref04_Place.calls _ _ _ l a1 a2 a3 node _ _ (Kd.C_below HR0.out HBD.out) HC0.out HPL2.out).mono ?_
       rintro e w5 ⟨rfl, hb5⟩
       have HB5 := Lib.hid (below_step HBD.out hb5)
       have C5 := Lib.hid (blk_below CD.out hb5)
       refine ⟨_, rfl, ?_⟩
       refine hK.out _ _ (by obtain ⟨s0, s1, s2, s3, s4, s5⟩ := hHeld; exact ⟨cellB s0 hb5, cellB s1 hb5, cellB s2 hb5, cellB s3 hb5, cellB s4 hb5, cellB s5 hb5⟩) (fun hHeld => ?_)
       clear hK K
       refine norm_ (a' := ?_) ?_ ?_
       rotate_left
       ·
        show Act.put _ (some 86) _ = _
        simp only [Act.put, List.setIfInBounds_toArray, List.set_cons_zero, List.set_cons_succ, i64_w, i32_w]
        rfl
       by_cases hneg : pl l node < 0
       ·
        have b9 : decide (pl l node < 0) = true := decide_eq_true hneg
        have HC8 := Lib.hid (HBADT.out (pl_sign.1 hneg))
        clear hneg
        iterate 1 (first | ((first | refine takeS_ 8 (N := some 87) (v := ?_) (a' := ?_) rfl rfl (by decide +kernel) (fun _ _ _ h => h) (Or.inl ⟨by rfl, ?_⟩) hHeld ?_ ?_); rotate_left; (rintro w' ⟨s0, s1, s2, s3, s4, s5⟩; go_simp; first | done | (with_reducible rfl) | rfl); rotate_left; (simp only [Act.put, List.setIfInBounds_toArray, List.set_cons_zero, List.set_cons_succ, i64_w, i32_w]; rfl)) | ((first | refine takeS_ 8 (N := some 87) (v := undef) (a' := ?_) rfl rfl (by decide +kernel) (fun _ _ _ h => h) (Or.inr ⟨by rfl, rfl⟩) hHeld ?_ ?_); rotate_left; (simp only [Act.put, List.setIfInBounds_toArray, List.set_cons_zero, List.set_cons_succ, i64_w, i32_w]; rfl)))
        refine done_ (by kernel_rfl) ?_
        go_wp2
        go_ret
        exact ⟨by rw [HC8.out]; rfl, HB5.out⟩
       ·
        have b9 : decide (pl l node < 0) = false := decide_eq_false hneg
        have hin : node ∈ idsL l := Decidable.byContradiction (fun h => hneg (pl_sign.2 h))
        clear hneg
        iterate 1 (first | ((first | refine takeS_ 8 (N := some 87) (v := ?_) (a' := ?_) rfl rfl (by decide +kernel) (fun _ _ _ h => h) (Or.inl ⟨by rfl, ?_⟩) hHeld ?_ ?_); rotate_left; (rintro w' ⟨s0, s1, s2, s3, s4, s5⟩; go_simp; first | done | (with_reducible rfl) | rfl); rotate_left; (simp only [Act.put, List.setIfInBounds_toArray, List.set_cons_zero, List.set_cons_succ, i64_w, i32_w]; rfl)) | ((first | refine takeS_ 8 (N := some 87) (v := undef) (a' := ?_) rfl rfl (by decide +kernel) (fun _ _ _ h => h) (Or.inr ⟨by rfl, rfl⟩) hHeld ?_ ?_); rotate_left; (simp only [Act.put, List.setIfInBounds_toArray, List.set_cons_zero, List.set_cons_succ, i64_w, i32_w]; rfl)))
        refine done_ (by kernel_rfl) ?_
        have C6 := Lib.hid hHeld.2.2.2.2.1
        clear hHeld
        go_wp2
        go_roundw
        case rel => exact ⟨q + 1, HLK.out, by rw [HWK.out], Lib.hid (fun p h hp => HNEG.out p h hp hin), HB5, C5, C6⟩
        case measure => exact meas_ _ _ HWK.out HLK.out
      ·
       obtain rfl : q = x.f6.length := by omega
       clear hlt hq
       have d0 : wr.cell? ⟨g1, 0, none⟩ = some (.slice (some ad) l.length c) := (blk_cell C1.out 0).trans rfl
       have HNI : Hid (∀ p, p < i + 1 → nodeAt l a1 p = true ∧ tgOK l p = true) := Lib.hid (fun p hp => by
        by_cases e : p = i
        ·
         subst e; exact ⟨hna, tgOK_of HLT.out (by rw [HXI.out]; exact fun p h => HQ.out p h (by omega))⟩
        ·
         exact HP.out p (by omega))
       have n6 := C6.out
       go_wp2
       go_roundw
       case rel => exact ⟨i + 1, HLT.out, by rw [HWR.out], HNI, HB, C1⟩
       case measure => exact meas_ _ _ HWR.out HLT.out
  ·
   obtain rfl : i = l.length := by omega
   have hn : nodesOK l a1 = true := List.all_eq_true.2 (fun q hq => (HP.out q (List.mem_range.1 hq)).1)
   have htg : ((List.range l.length).all (tgOK l)) = true := List.all_eq_true.2 (fun q hq => (HP.out q (List.mem_range.1 hq)).2)
   have HCR : Hid (chkR l a1 = refR l) := Lib.hid (by unfold chkR; rw [if_pos HH.out, if_pos ⟨hn, htg⟩])
   have HRI := Lib.hid (rises_of hn)
   have HNM := Lib.hid (names64 hn)
   have HL6 : Hid (∀ x ∈ l, x.f6.length ≤ 140737488351232) := Lib.hid (fun x hx => (HBB.out x hx).2.1)
   clear hi hlt HP hn htg
   go_wp2
   go_loopw [6] (fun s6 wr => ∃ i : Nat, i ≤ l.length ∧ s6 = .int .i64 i ∧ Hid (∀ q, q < i → lkOK l q = true) ∧ Hid (Below w.heap.size w wr) ∧ Hid (wr.heap[g1]? = some (.cells #[.slice (some ad) l.length c, .int .i64 a1, .int .i64 a2, .int .i64 a3] 26 (0, 0)))) (fun s6 _ => l.length - (intOf s6).toNat)
   case atStart => exact ⟨0, Nat.zero_le _, rfl, Lib.hid (fun q h => by omega), HB, B1⟩
   case round =>
    clear HB B1 d0
    obtain ⟨i, hi, rfl, HP, HB, B1⟩ := hrel
    have d0 : wr.cell? ⟨g1, 0, none⟩ = some (.slice (some ad) l.length c) := (blk_cell B1.out 0).trans rfl
    by_cases hlt : i < l.length
    ·
     obtain ⟨y, hy⟩ : ∃ y, l[i] = y := ⟨_, rfl⟩
     have hrd : rd_T44 l (i : Int) = y := (rdN l i hlt).trans hy
     obtain ⟨ad', A6, c6, ea, x0, x1, x2, x3, x4, x5, x6, hl6, hi6⟩ := at_T44 HR0.out (i : Int) (by omega) (by omega)
     cases ea
     rw [hrd, Int.toNat_natCast] at x0 x1
     clear x2 x3 x4 x5 x6 hl6 hi6
     replace x0 := cellB x0 HB.out
     replace x1 := cellB x1 HB.out
     obtain ⟨KL, hKL⟩ := links_ev l a1 a2 a3 y.f0 HLN.out HL6.out
     have HLK : Hid (rehearsalref04_Links.f KL l a1 a2 a3 y.f0 = some (lk l y.f0 : Int)) := Lib.hid (hKL KL (Nat.le_refl _))
     have HWR : Hid (wrap64 ((i : Int) + 1) = ((i + 1 : Nat) : Int)) := Lib.hid (by have := HLN.out; unfold wrap64; omega)
     have HLT := Lib.hid hlt
     have hcs := lk_cases (a1 := a1) hlt HH.out
     rw [hy] at hcs
     have i0 : decide (0 ≤ (i : Int)) = true := decide_eq_true (by omega)
     have i1 : decide ((i : Int) < (l.length : Int)) = true := decide_eq_true (by omega)
     have i2 : (i < l.length) = True := eq_true hlt
     have d1 : wr.cell? ⟨g1, 1, none⟩ = some (.int .i64 a1) := (blk_cell B1.out 1).trans rfl
     have d2 : wr.cell? ⟨g1, 2, none⟩ = some (.int .i64 a2) := (blk_cell B1.out 2).trans rfl
     have d3 : wr.cell? ⟨g1, 3, none⟩ = some (.int .i64 a3) := (blk_cell B1.out 3).trans rfl
     clear hrd hKL
     go_wp2
     refine start_ (n := 9) (S := (fun w' => w'.cell? ⟨g1, 0, none⟩ = some (.slice (some ad) l.length c) ∧ w'.cell? ⟨g1, 1, none⟩ = some (.int .i64 a1) ∧ w'.cell? ⟨g1, 2, none⟩ = some (.int .i64 a2) ∧ w'.cell? ⟨g1, 3, none⟩ = some (.int .i64 a3) ∧ w'.cell? (ad.add (i * 7)) = some (.int .i64 y.f0))) (ds := [7]) #[false, false, false, false, false, false, false, false, false] (by kernel_rfl) rfl rfl ⟨d0, d1, d2, d3, x0⟩ (fun hHeld => ?_)
     have HBD := Lib.hid (below_step HB.out (Below.refl _ wr).drew)
     have CD := Lib.hid (blk_below B1.out (Below.refl _ wr).drew)
     replace x1 := cellB x1 (Below.refl _ wr).drew
     clear HB B1 d0 d1 d2 d3 x0
     generalize World.drew _ = wd at HBD CD x1 hHeld ⊢
     iterate 5 (first | ((first | refine takeS_ 0 (N := some 95) (v := ?_) (a' := ?_) rfl rfl (by decide +kernel) (fun _ _ _ h => h) (Or.inl ⟨by rfl, ?_⟩) hHeld ?_ ?_ | refine takeS_ 1 (N := some 96) (v := ?_) (a' := ?_) rfl rfl (by decide +kernel) (fun _ _ _ h => h) (Or.inl ⟨by rfl, ?_⟩) hHeld ?_ ?_ | refine takeS_ 2 (N := some 97) (v := ?_) (a' := ?_) rfl rfl (by decide +kernel) (fun _ _ _ h => h) (Or.inl ⟨by rfl, ?_⟩) hHeld ?_ ?_ | refine takeS_ 3 (N := some 98) (v := ?_) (a' := ?_) rfl rfl (by decide +kernel) (fun _ _ _ h => h) (Or.inl ⟨by rfl, ?_⟩) hHeld ?_ ?_ | refine takeS_ 4 (N := some 99) (v := ?_) (a' := ?_) rfl rfl (by decide +kernel) (fun _ _ _ h => h) (Or.inl ⟨by rfl, ?_⟩) hHeld ?_ ?_); rotate_left; (rintro w' ⟨s0, s1, s2, s3, s4⟩; go_simp; first | done | (with_reducible rfl) | rfl); rotate_left; (simp only [Act.put, List.setIfInBounds_toArray, List.set_cons_zero, List.set_cons_succ, i64_w, i32_w]; rfl)) | ((first | refine takeS_ 0 (N := some 95) (v := undef) (a' := ?_) rfl rfl (by decide +kernel) (fun _ _ _ h => h) (Or.inr ⟨by rfl, rfl⟩) hHeld ?_ ?_ | refine takeS_ 1 (N := some 96) (v := undef) (a' := ?_) rfl rfl (by decide +kernel) (fun _ _ _ h => h) (Or.inr ⟨by rfl, rfl⟩) hHeld ?_ ?_ | refine takeS_ 2 (N := some 97) (v := undef) (a' := ?_) rfl rfl (by decide +kernel) (fun _ _ _ h => h) (Or.inr ⟨by rfl, rfl⟩) hHeld ?_ ?_ | refine takeS_ 3 (N := some 98) (v := undef) (a' := ?_) rfl rfl (by decide +kernel) (fun _ _ _ h => h) (Or.inr ⟨by rfl, rfl⟩) hHeld ?_ ?_ | refine takeS_ 4 (N := some 99) (v := undef) (a' := ?_) rfl rfl (by decide +kernel) (fun _ _ _ h => h) (Or.inr ⟨by rfl, rfl⟩) hHeld ?_ ?_); rotate_left; (simp only [Act.put, List.setIfInBounds_toArray, List.set_cons_zero, List.set_cons_succ, i64_w, i32_w]; rfl)))
     iterate 2 (first | ((first | refine takeS_ 5 (N := some 100) (v := ?_) (a' := ?_) rfl rfl (by decide +kernel) (fun _ _ _ h => h) (Or.inl ⟨by rfl, ?_⟩) hHeld ?_ ?_ | refine takeS_ 6 (N := some 101) (v := ?_) (a' := ?_) rfl rfl (by decide +kernel) (fun _ _ _ h => h) (Or.inl ⟨by rfl, ?_⟩) hHeld ?_ ?_); rotate_left; (rintro w' ⟨s0, s1, s2, s3, s4⟩; go_simp; first | done | (with_reducible rfl) | rfl); rotate_left; (simp only [Act.put, List.setIfInBounds_toArray, List.set_cons_zero, List.set_cons_succ, i64_w, i32_w]; rfl)) | ((first | refine takeS_ 5 (N := some 100) (v := undef) (a' := ?_) rfl rfl (by decide +kernel) (fun _ _ _ h => h) (Or.inr ⟨by rfl, rfl⟩) hHeld ?_ ?_ | refine takeS_ 6 (N := some 101) (v := undef) (a' := ?_) rfl rfl (by decide +kernel) (fun _ _ _ h => h) (Or.inr ⟨by rfl, rfl⟩) hHeld ?_ ?_); rotate_left; (simp only [Act.put, List.setIfInBounds_toArray, List.set_cons_zero, List.set_cons_succ, i64_w, i32_w]; rfl)))
     refine lastS_ 7 (N := some 102) rfl rfl (by kernel_rfl) (by decide) (fun K hK => ?_)
     refine goes_ Tryd.func34 (by kernel_rfl) rfl #[.agg #[.slice (some ad) l.length c, .int .i64 a1, .int .i64 a2, .int .i64 a3], .int .i64 y.f0] (by rfl) rfl rfl (by first | rfl | (simp [Act.eval]; done) | (simp [Act.eval, Act.put]; done)) ?_
     refine (rehearsalref04_Links.calls _ _ _ l a1 a2 a3 y.f0 _ _ (Kd.C_below HR0.out HBD.out) HC0.out HLK.out).mono ?_
     rintro e w5 ⟨rfl, hb5⟩
     have HB5 := Lib.hid (below_step HBD.out hb5)
     have C5 := Lib.hid (blk_below CD.out hb5)
     replace x1 := cellB x1 hb5
     refine ⟨_, rfl, ?_⟩
     refine hK.out _ _ ?_
     clear hK K
     refine norm_ (a' := ?_) ?_ ?_
     rotate_left
     ·
      show Act.put _ (some 102) _ = _
      simp only [Act.put, List.setIfInBounds_toArray, List.set_cons_zero, List.set_cons_succ, i64_w, i32_w]
      rfl
     iterate 1 (first | ((first | refine pureS_ 8 (N := some 7) (v := ?_) (a' := ?_) rfl rfl (by decide +kernel) (fun _ _ _ h => h) (Or.inl ⟨by rfl, ?_⟩) ?_ ?_); rotate_left; (intro w'; go_simp; first | done | (with_reducible rfl) | rfl); rotate_left; (simp only [Act.put, List.setIfInBounds_toArray, List.set_cons_zero, List.set_cons_succ, i64_w, i32_w]; rfl)) | ((first | refine pureS_ 8 (N := some 7) (v := undef) (a' := ?_) rfl rfl (by decide +kernel) (fun _ _ _ h => h) (Or.inr ⟨by rfl, rfl⟩) ?_ ?_); rotate_left; (simp only [Act.put, List.setIfInBounds_toArray, List.set_cons_zero, List.set_cons_succ, i64_w, i32_w]; rfl)))
     refine done_ (by kernel_rfl) ?_
     clear HBD CD hb5
     have d0 : w5.cell? ⟨g1, 0, none⟩ = some (.slice (some ad) l.length c) := (blk_cell C5.out 0).trans rfl
     generalize lk l y.f0 = n at hcs HLK ⊢
     clear HLK
     rcases hcs with ⟨hna, hb⟩ | ⟨hna, hg⟩
     ·
      have HC8 : Hid (chkR l a1 = 80) := Lib.hid (HCR.out.trans (refR_lk HLT.out hna))
      rcases hb with ⟨h1, h2⟩ | ⟨h1, h2⟩ | ⟨h1, h2, h3⟩
      all_goals
       (have f0 : ((i : Int) == 0) = decide (i = 0) := by rw [Bool.eq_iff_iff, beq_iff_eq, decide_eq_true_eq]; omega)
       (have f1 : decide (0 < (i : Int)) = decide (0 < i) := by rw [decide_eq_decide]; omega)
       (have f2 : decide (0 < (n : Int)) = decide (0 < n) := by rw [decide_eq_decide]; omega)
       (have f3 : ((n : Int) == 0) = decide (n = 0) := by rw [Bool.eq_iff_iff, beq_iff_eq, decide_eq_true_eq]; omega)
       (have f4 : decide (1 < (n : Int)) = decide (1 < n) := by rw [decide_eq_decide]; omega)
       ((try have g1 : decide (i = 0) = true := decide_eq_true h1); (try have g1 : decide (i = 0) = false := decide_eq_false (by omega)); (try have g2 : decide (0 < i) = true := decide_eq_true (by omega)); (try have g2 : decide (0 < i) = false := decide_eq_false (by omega)); (try have g3 : decide (0 < n) = true := decide_eq_true (by omega)); (try have g3 : decide (0 < n) = false := decide_eq_false (by omega)); (try have g4 : decide (n = 0) = true := decide_eq_true (by omega)); (try have g4 : decide (n = 0) = false := decide_eq_false (by omega)); (try have g5 : decide (1 < n) = true := decide_eq_true (by omega)); (try have g5 : decide (1 < n) = false := decide_eq_false (by omega)); (try have g6 : (y.f1 == 1) = true := beq_iff_eq.mpr (by omega)); (try have g6 : (y.f1 == 1) = false := beq_eq_false_iff_ne.mpr (by omega)); (try rw [g1] at f0); (try rw [g2] at f1); (try rw [g3] at f2); (try rw [g4] at f3); (try rw [g5] at f4); clear h1 h2; (try clear h3); (try clear h4))
       clear hna
       go_wp2
       go_ret
       exact ⟨by rw [HC8.out]; rfl, HB5.out⟩
     ·
      rcases hg with ⟨h1, h2, h3⟩ | ⟨h1, h2, h3, h4⟩ | ⟨h1, h2, h3⟩
      all_goals
       (have f0 : ((i : Int) == 0) = decide (i = 0) := by rw [Bool.eq_iff_iff, beq_iff_eq, decide_eq_true_eq]; omega)
       (have f1 : decide (0 < (i : Int)) = decide (0 < i) := by rw [decide_eq_decide]; omega)
       (have f2 : decide (0 < (n : Int)) = decide (0 < n) := by rw [decide_eq_decide]; omega)
       (have f3 : ((n : Int) == 0) = decide (n = 0) := by rw [Bool.eq_iff_iff, beq_iff_eq, decide_eq_true_eq]; omega)
       (have f4 : decide (1 < (n : Int)) = decide (1 < n) := by rw [decide_eq_decide]; omega)
       ((try have g1 : decide (i = 0) = true := decide_eq_true h1); (try have g1 : decide (i = 0) = false := decide_eq_false (by omega)); (try have g2 : decide (0 < i) = true := decide_eq_true (by omega)); (try have g2 : decide (0 < i) = false := decide_eq_false (by omega)); (try have g3 : decide (0 < n) = true := decide_eq_true (by omega)); (try have g3 : decide (0 < n) = false := decide_eq_false (by omega)); (try have g4 : decide (n = 0) = true := decide_eq_true (by omega)); (try have g4 : decide (n = 0) = false := decide_eq_false (by omega)); (try have g5 : decide (1 < n) = true := decide_eq_true (by omega)); (try have g5 : decide (1 < n) = false := decide_eq_false (by omega)); (try have g6 : (y.f1 == 1) = true := beq_iff_eq.mpr (by omega)); (try have g6 : (y.f1 == 1) = false := beq_eq_false_iff_ne.mpr (by omega)); (try rw [g1] at f0); (try rw [g2] at f1); (try rw [g3] at f2); (try rw [g4] at f3); (try rw [g5] at f4); clear h1 h2; (try clear h3); (try clear h4))
       have HNI : Hid (∀ q, q < i + 1 → lkOK l q = true) := Lib.hid (fun q hq => by
        by_cases e : q = i
        ·
         subst e; exact hna
        ·
         exact HP.out q (by omega))
       clear hna
       go_wp2
       go_roundw
       case rel => exact ⟨i + 1, HLT.out, by rw [HWR.out], HNI, HB5, C5⟩
       case measure => exact meas_ _ _ HWR.out HLT.out
    ·
     obtain rfl : i = l.length := by omega
     have hlk : ((List.range l.length).all (lkOK l)) = true := List.all_eq_true.2 (fun q hq => HP.out q (List.mem_range.1 hq))
     have HRR : Hid (chkR l a1 = if (wayP l (l.length + 1) [] 1 [47]).length = l.length then 0 else 80) := Lib.hid (by rw [HCR.out]; unfold refR; rw [if_pos hlk])
     obtain ⟨KW, hKW⟩ := way_ev l a1 a2 a3 HLN.out HRI.out HL6.out HNM.out (l.length + 1) [] 1 [47] List.nodup_nil (fun x hx => by cases hx) (by simp) (by simp)
     have HWY : Hid (rehearsalref04_Way.f KW l a1 a2 a3 1 (⟨#[47]⟩ : ByteArray) [] = some ((wayP l (l.length + 1) [] 1 [47]).map toW)) := Lib.hid (hKW KW (Nat.le_refl _))
     clear hlk hKW hi hlt HP
     have d1 : wr.cell? ⟨g1, 1, none⟩ = some (.int .i64 a1) := (blk_cell B1.out 1).trans rfl
     have d2 : wr.cell? ⟨g1, 2, none⟩ = some (.int .i64 a2) := (blk_cell B1.out 2).trans rfl
     have d3 : wr.cell? ⟨g1, 3, none⟩ = some (.int .i64 a3) := (blk_cell B1.out 3).trans rfl
     go_wp2
     refine start_ (n := 7) (S := (fun w' => w'.cell? ⟨g1, 0, none⟩ = some (.slice (some ad) l.length c) ∧ w'.cell? ⟨g1, 1, none⟩ = some (.int .i64 a1) ∧ w'.cell? ⟨g1, 2, none⟩ = some (.int .i64 a2) ∧ w'.cell? ⟨g1, 3, none⟩ = some (.int .i64 a3))) (ds := []) #[false, false, false, false, false, false, false] (by kernel_rfl) rfl rfl ⟨d0, d1, d2, d3⟩ (fun hHeld => ?_)
     have HBD := Lib.hid (below_step HB.out (Below.refl _ wr).drew)
     have CD := Lib.hid (blk_below B1.out (Below.refl _ wr).drew)
     clear HB B1 d0 d1 d2 d3
     generalize World.drew _ = wd at HBD CD hHeld ⊢
     iterate 4 (first | ((first | refine takeS_ 0 (N := some 130) (v := ?_) (a' := ?_) rfl rfl (by decide +kernel) (fun _ _ _ h => h) (Or.inl ⟨by rfl, ?_⟩) hHeld ?_ ?_ | refine takeS_ 3 (N := some 133) (v := ?_) (a' := ?_) rfl rfl (by decide +kernel) (fun _ _ _ h => h) (Or.inl ⟨by rfl, ?_⟩) hHeld ?_ ?_ | refine takeS_ 4 (N := some 134) (v := ?_) (a' := ?_) rfl rfl (by decide +kernel) (fun _ _ _ h => h) (Or.inl ⟨by rfl, ?_⟩) hHeld ?_ ?_ | refine takeS_ 5 (N := some 135) (v := ?_) (a' := ?_) rfl rfl (by decide +kernel) (fun _ _ _ h => h) (Or.inl ⟨by rfl, ?_⟩) hHeld ?_ ?_); rotate_left; (rintro w' ⟨s0, s1, s2, s3⟩; go_simp; first | done | (with_reducible rfl) | rfl); rotate_left; (simp only [Act.put, List.setIfInBounds_toArray, List.set_cons_zero, List.set_cons_succ, i64_w, i32_w]; rfl)) | ((first | refine takeS_ 0 (N := some 130) (v := undef) (a' := ?_) rfl rfl (by decide +kernel) (fun _ _ _ h => h) (Or.inr ⟨by rfl, rfl⟩) hHeld ?_ ?_ | refine takeS_ 3 (N := some 133) (v := undef) (a' := ?_) rfl rfl (by decide +kernel) (fun _ _ _ h => h) (Or.inr ⟨by rfl, rfl⟩) hHeld ?_ ?_ | refine takeS_ 4 (N := some 134) (v := undef) (a' := ?_) rfl rfl (by decide +kernel) (fun _ _ _ h => h) (Or.inr ⟨by rfl, rfl⟩) hHeld ?_ ?_ | refine takeS_ 5 (N := some 135) (v := undef) (a' := ?_) rfl rfl (by decide +kernel) (fun _ _ _ h => h) (Or.inr ⟨by rfl, rfl⟩) hHeld ?_ ?_); rotate_left; (simp only [Act.put, List.setIfInBounds_toArray, List.set_cons_zero, List.set_cons_succ, i64_w, i32_w]; rfl)))
     refine oneS_ 1 (N := some 131) rfl rfl (by kernel_rfl) (by decide) (fun K hK => ?_)
     refine goes_ Tryd.func62 (by kernel_rfl) rfl #[.agg #[.slice (some ad) l.length c, .int .i64 a1, .int .i64 a2, .int .i64 a3], .int .i64 1, .string (⟨#[47]⟩ : ByteArray), .slice none 0 0] (by rfl) rfl rfl (by first | rfl | (simp [Act.eval]; done) | (simp [Act.eval, Act.put]; done)) ?_
     refine (rehearsalref04_Way.calls KW _ _ l a1 a2 a3 1 (⟨#[47]⟩ : ByteArray) (fun _ => False) (.slice none 0 0) [] _ w _ HBD.out (Kd.C_kept_came k44_heap HR0.out HBD.out (fun _ h => h.elim)) HC0.out (Kd.R_nil _ _ _ _ _) HWY.out).mono ?_
     rintro e w5 ⟨v5, rfl, ho5, hb5, hk5⟩
     have HB5 := Lib.hid hb5
     have C5 := Lib.hid (blk_kept CD.out hk5 (fun h => h))
     obtain ⟨A5, c5, e5⟩ := Kd.R_slice ho5
     rw [List.length_map] at e5
     subst e5
     refine ⟨_, rfl, ?_⟩
     refine hK.out _ _ ⟨(blk_cell C5.out 0).trans rfl, (blk_cell C5.out 1).trans rfl, (blk_cell C5.out 2).trans rfl, (blk_cell C5.out 3).trans rfl⟩ (fun hHeld => ?_)
     clear hK K ho5 hk5 hb5
     refine norm_ (a' := ?_) ?_ ?_
     rotate_left
     ·
      show Act.put _ (some 131) _ = _
      simp only [Act.put, List.setIfInBounds_toArray, List.set_cons_zero, List.set_cons_succ, i64_w, i32_w]
      rfl
     by_cases he : (wayP l (l.length + 1) [] 1 [47]).length = l.length
     ·
      have HO := Lib.hid (HRR.out.trans (if_pos he))
      have k0 : (((wayP l (l.length + 1) [] 1 [47]).length : Int) != (l.length : Int)) = false := bne_eq_false_iff_eq.mpr (by omega)
      clear he
      iterate 2 (first | ((first | refine takeS_ 2 (N := some 132) (v := ?_) (a' := ?_) rfl rfl (by decide +kernel) (fun _ _ _ h => h) (Or.inl ⟨by rfl, ?_⟩) hHeld ?_ ?_ | refine takeS_ 6 (N := some 136) (v := ?_) (a' := ?_) rfl rfl (by decide +kernel) (fun _ _ _ h => h) (Or.inl ⟨by rfl, ?_⟩) hHeld ?_ ?_); rotate_left; (rintro w' ⟨s0, s1, s2, s3⟩; go_simp; first | done | (with_reducible rfl) | rfl); rotate_left; (simp only [Act.put, List.setIfInBounds_toArray, List.set_cons_zero, List.set_cons_succ, i64_w, i32_w]; rfl)) | ((first | refine takeS_ 2 (N := some 132) (v := undef) (a' := ?_) rfl rfl (by decide +kernel) (fun _ _ _ h => h) (Or.inr ⟨by rfl, rfl⟩) hHeld ?_ ?_ | refine takeS_ 6 (N := some 136) (v := undef) (a' := ?_) rfl rfl (by decide +kernel) (fun _ _ _ h => h) (Or.inr ⟨by rfl, rfl⟩) hHeld ?_ ?_); rotate_left; (simp only [Act.put, List.setIfInBounds_toArray, List.set_cons_zero, List.set_cons_succ, i64_w, i32_w]; rfl)))
      refine done_ (by kernel_rfl) ?_
      go_wp2
      go_ret
      exact ⟨by rw [HO.out]; rfl, HB5.out⟩
     ·
      have HO := Lib.hid (HRR.out.trans (if_neg he))
      have k0 : (((wayP l (l.length + 1) [] 1 [47]).length : Int) != (l.length : Int)) = true := bne_iff_ne.mpr (by omega)
      clear he
      iterate 2 (first | ((first | refine takeS_ 2 (N := some 132) (v := ?_) (a' := ?_) rfl rfl (by decide +kernel) (fun _ _ _ h => h) (Or.inl ⟨by rfl, ?_⟩) hHeld ?_ ?_ | refine takeS_ 6 (N := some 136) (v := ?_) (a' := ?_) rfl rfl (by decide +kernel) (fun _ _ _ h => h) (Or.inl ⟨by rfl, ?_⟩) hHeld ?_ ?_); rotate_left; (rintro w' ⟨s0, s1, s2, s3⟩; go_simp; first | done | (with_reducible rfl) | rfl); rotate_left; (simp only [Act.put, List.setIfInBounds_toArray, List.set_cons_zero, List.set_cons_succ, i64_w, i32_w]; rfl)) | ((first | refine takeS_ 2 (N := some 132) (v := undef) (a' := ?_) rfl rfl (by decide +kernel) (fun _ _ _ h => h) (Or.inr ⟨by rfl, rfl⟩) hHeld ?_ ?_ | refine takeS_ 6 (N := some 136) (v := undef) (a' := ?_) rfl rfl (by decide +kernel) (fun _ _ _ h => h) (Or.inr ⟨by rfl, rfl⟩) hHeld ?_ ?_); rotate_left; (simp only [Act.put, List.setIfInBounds_toArray, List.set_cons_zero, List.set_cons_succ, i64_w, i32_w]; rfl)))
      refine done_ (by kernel_rfl) ?_
      go_wp2
      go_ret
      exact ⟨by rw [HO.out]; rfl, HB5.out⟩
end Go.Proofs.YtnpnablnnfekkaaDoor.PTr
set_option linter.unusedVariables false
namespace Go.Proofs.YtnpnablnnfekkaaDoor.PTr
open Go.RowKit Go.Proofs.YtnpnablnnfekkaaDoor Go.Proofs.YtnpnablnnfekkaaDoorW.PrintWords
instance Bd_dec (l : List Nod) : Decidable (Bd l) := inferInstanceAs (Decidable (∀ x ∈ l, x.f5.size ≤ 140737488351232 ∧ x.f6.length ≤ 140737488351232 ∧ ∀ e ∈ x.f6, e.f0.size ≤ 140737488351232))
def rehearsalref04_Check.f (k : Nat) (l : List Nod) (a1 a2 a3 : Int) : Option Int := if l.length ≤ 512 → Bd l then some (chkR l a1) else none
theorem rehearsalref04_Check.calls (k : Nat) (A0_0 : Option Addr) (c0_0 : Nat) (l0_0 : List Nod) (a0_1 : Int) (a0_2 : Int) (a0_3 : Int) (r : Int) (w : World) (hr0_0 : Kd.C k44 w A0_0 l0_0.length l0_0) (hc0_0 : l0_0.length ≤ c0_0) (h : rehearsalref04_Check.f k l0_0 a0_1 a0_2 a0_3 = some r) :
  Calls Tryd.prog 18 #[.agg #[.slice A0_0 l0_0.length c0_0, .int .i64 a0_1, .int .i64 a0_2, .int .i64 a0_3]] w fun e w' => e = .returned (.int .i64 r) ∧ Below w.heap.size w w' := by
 unfold rehearsalref04_Check.f at h
 split at h
 case isTrue hB => cases h; exact rcheck_any l0_0 A0_0 c0_0 a0_1 a0_2 a0_3 w hr0_0 hc0_0 hB
 case isFalse => cases h
theorem rchk_ev (l : List Nod) (a1 a2 a3 : Int) (hB : l.length ≤ 512 → Bd l) : Evt (fun k => rehearsalref04_Check.f k l a1 a2 a3) (chk l a1) := by
 rw [← chk_same]
 refine ⟨0, fun k _ => ?_⟩
 show rehearsalref04_Check.f k l a1 a2 a3 = _
 unfold rehearsalref04_Check.f
 rw [if_pos hB]
end Go.Proofs.YtnpnablnnfekkaaDoor.PTr
namespace Go.Proofs.YtnpnablnnfekkaaDoor.PTr
open Go.RowKit Go.Proofs.YtnpnablnnfekkaaDoorW.PrintWords Go.Proofs.YtnpnablnnfekkaaDoorW.PrintLast Go.Proofs.YtnpnablnnfekkaaDoorW.PrintMore
attribute [local go_sem] max2_int min2_int max_two min_two max_three min_three max_four min_four   -- for this text's walks alone
set_option linter.unusedVariables false
set_option linter.unusedSimpArgs false
mutual
def rehearsalref04_Small.l0 : Nat → Int → Int → List (S44) → Int → Int → Int → Option (Bool)
 | 0, _, _, _, _, _, _ => none
 | k + 1, x3, x4, x102000, x102001, x102002, x102003 => if x4 < (x102000.length : Int) then (rehearsalref04_Small.j1 k x3 x4 (decide (x4 < 200)) x102000 x102001 x102002 x102003) else (rehearsalref04_Small.j1 k x3 x4 false x102000 x102001 x102002 x102003)
def rehearsalref04_Small.j1 : Nat → Int → Int → Bool → List (S44) → Int → Int → Int → Option (Bool)
 | 0, _, _, _, _, _, _, _ => none
 | k + 1, x3, x4, x16, x102000, x102001, x102002, x102003 => if x16 = true then (if 0 ≤ x4 then (if x4 < (x102000.length : Int) then (if (((rd_T44 x102000 x4).f6).length : Int) > 200 then (some false) else (if (((rd_T44 x102000 x4).f5).size : Int) > 20000 then (some false) else (rehearsalref04_Small.l0 k (wrap64 (x3 + (((rd_T44 x102000 x4).f6).length : Int))) (wrap64 (x4 + 1)) x102000 x102001 x102002 x102003))) else (none)) else (none)) else (if (x102000.length : Int) ≤ 60 then (if x3 ≤ 200 then (some true) else (some (decide ((x102000.length : Int) > 512)))) else (some (decide ((x102000.length : Int) > 512))))
end
def rehearsalref04_Small.f (k : Nat) (l0_0 : List (S44)) (a0_1 : Int) (a0_2 : Int) (a0_3 : Int) : Option (Bool) := if a0_1 > 1099511627776 then (some false) else (rehearsalref04_Small.l0 k 0 0 l0_0 a0_1 a0_2 a0_3)
set_option maxHeartbeats 8000000 in
set_option maxRecDepth 100000 in
theorem rehearsalref04_Small.calls (k : Nat) (A0_0 : Option Addr) (c0_0 : Nat) (l0_0 : List (S44)) (a0_1 : Int) (a0_2 : Int) (a0_3 : Int) (r : Bool) (w : World) (hr0_0 : Kd.C k44 w A0_0 l0_0.length l0_0) (hc0_0 : l0_0.length ≤ c0_0) (h : rehearsalref04_Small.f k l0_0 a0_1 a0_2 a0_3 = some r) :
  Calls Tryd.prog 15 #[.agg #[.slice A0_0 l0_0.length c0_0, .int .i64 a0_1, .int .i64 a0_2, .int .i64 a0_3]] w fun e w' => e = .returned (.bool r) ∧ Below w.heap.size w w' := by
 have hu26 := Tryd.underlying26
 have HR0_0 := Aside0.mk hr0_0
 have HC0_0 := Aside0.mk hc0_0
 clear hr0_0 hc0_0
 have HB := Aside0.mk (Below.refl w.heap.size w)
 have H : (if a0_1 > 1099511627776 then (some false) else (rehearsalref04_Small.l0 k 0 0 l0_0 a0_1 a0_2 a0_3)) = some r := h
 clear h
 by_cases c2 : a0_1 > 1099511627776
 ·
  rw [if_pos c2] at H
  have c2b0 : decide (1099511627776 < a0_1) = true := decide_eq_true c2
  clear c2
  obtain rfl := Option.some.inj H
  go_enter Tryd.func15, Tryd.ntmps15
  go_wp2_with (first | ((with_reducible refine gate_dst (N := 1) rfl ?_); (try (refine gate_guard (by rfl) ?_; dsimp only)); refine box_event ?hg (N := 1) ?hd (cs := #[.slice A0_0 l0_0.length c0_0, .int .i64 a0_1, .int .i64 a0_2, .int .i64 a0_3]) (t := 26) ?hr ?_; (case hd => rfl); (case hg => rfl); (case hr => first | (go_simp; done) | (go_simp; rfl)); intro gb101 hg w3 hbox hb; have n0_ := Aside0.mk (below_step (by repeat (first | (with_reducible first | exact HB.out | apply below_alloc | apply pw_below_drewN | apply below_drew1) | exact HB.out)) hb); have n1_ := Aside0.mk (hbox); have n2_ := Aside0.mk ((by rw [hg]; exact (below_size (by repeat (first | (with_reducible first | exact HB.out | apply below_alloc | apply pw_below_drewN | apply below_drew1) | exact HB.out))) : w.heap.size ≤ gb101)); have n3_ := Aside0.mk ((by rw [hg]; exact (below_size (by repeat (first | (with_reducible first | exact HB.out | apply below_alloc | apply pw_below_drewN | apply below_drew1) | exact HB.out))) : w.heap.size ≤ gb101)); clear HB; have HB := n0_; have BK101 := n1_; have GW101 := n2_; have GE101 := n3_; clear n0_ n1_ n2_ n3_; clear hb hbox hg; have hcz4_0 : w3.cell? ⟨gb101, 0, none⟩ = some (.slice A0_0 l0_0.length c0_0) := (blk_cell BK101.out 0).trans rfl; have hcz4_1 : w3.cell? ⟨gb101, 1, none⟩ = some (.int .i64 a0_1) := (blk_cell BK101.out 1).trans rfl; have hcz4_2 : w3.cell? ⟨gb101, 2, none⟩ = some (.int .i64 a0_2) := (blk_cell BK101.out 2).trans rfl; have hcz4_3 : w3.cell? ⟨gb101, 3, none⟩ = some (.int .i64 a0_3) := (blk_cell BK101.out 3).trans rfl; have hfz4_0 := blk_frozen BK101.out 0; have hfz4_1 := blk_frozen BK101.out 1; have hfz4_2 := blk_frozen BK101.out 2; have hfz4_3 := blk_frozen BK101.out 3))
  go_ret
  exact ⟨by first | rfl | (simp [errW_none, errW_some] <;> rfl) | (simp [*, errW_none, errW_some] <;> rfl), by repeat (first | (with_reducible first | exact HB.out | apply below_alloc | apply pw_below_drewN | apply below_drew1 | refine below_set ?_ GE101.out) | exact HB.out)⟩
 ·
  rw [if_neg c2] at H
  have c2b0 : decide (1099511627776 < a0_1) = false := decide_eq_false c2
  clear c2
  have H' := Aside0.mk H
  clear H
  go_enter Tryd.func15, Tryd.ntmps15
  go_wp2_with (first | ((with_reducible refine gate_dst (N := 1) rfl ?_); (try (refine gate_guard (by rfl) ?_; dsimp only)); refine box_event ?hg (N := 1) ?hd (cs := #[.slice A0_0 l0_0.length c0_0, .int .i64 a0_1, .int .i64 a0_2, .int .i64 a0_3]) (t := 26) ?hr ?_; (case hd => rfl); (case hg => rfl); (case hr => first | (go_simp; done) | (go_simp; rfl)); intro gb101 hg w5 hbox hb; have n0_ := Aside0.mk (below_step (by repeat (first | (with_reducible first | exact HB.out | apply below_alloc | apply pw_below_drewN | apply below_drew1) | exact HB.out)) hb); have n1_ := Aside0.mk (hbox); have n2_ := Aside0.mk ((by rw [hg]; exact (below_size (by repeat (first | (with_reducible first | exact HB.out | apply below_alloc | apply pw_below_drewN | apply below_drew1) | exact HB.out))) : w.heap.size ≤ gb101)); have n3_ := Aside0.mk ((by rw [hg]; exact (below_size (by repeat (first | (with_reducible first | exact HB.out | apply below_alloc | apply pw_below_drewN | apply below_drew1) | exact HB.out))) : w.heap.size ≤ gb101)); clear HB; have HB := n0_; have BK101 := n1_; have GW101 := n2_; have GE101 := n3_; clear n0_ n1_ n2_ n3_; clear hb hbox hg; have hcz6_0 : w5.cell? ⟨gb101, 0, none⟩ = some (.slice A0_0 l0_0.length c0_0) := (blk_cell BK101.out 0).trans rfl; have hcz6_1 : w5.cell? ⟨gb101, 1, none⟩ = some (.int .i64 a0_1) := (blk_cell BK101.out 1).trans rfl; have hcz6_2 : w5.cell? ⟨gb101, 2, none⟩ = some (.int .i64 a0_2) := (blk_cell BK101.out 2).trans rfl; have hcz6_3 : w5.cell? ⟨gb101, 3, none⟩ = some (.int .i64 a0_3) := (blk_cell BK101.out 3).trans rfl; have hfz6_0 := blk_frozen BK101.out 0; have hfz6_1 := blk_frozen BK101.out 1; have hfz6_2 := blk_frozen BK101.out 2; have hfz6_3 := blk_frozen BK101.out 3))
  go_loopg [3, 4] k (fun kq v3 v4 w' => ∃ (x3_1 : Int) (x4_1 : Int), v3 = .int .i64 x3_1 ∧ v4 = .int .i64 x4_1 ∧ Aside0 (rehearsalref04_Small.l0 kq x3_1 x4_1 l0_0 a0_1 a0_2 a0_3 = some r) ∧ Aside0 (kq ≤ k) ∧ Aside0 (w'.heap[gb101]? = some (.cells #[(.slice A0_0 l0_0.length c0_0), .int .i64 a0_1, .int .i64 a0_2, .int .i64 a0_3] 26 (0, 0))) ∧ Aside0 (Below w.heap.size w w'))
  case atStart => exact ⟨(0), (0), (by first | rfl | (simp; done) | (simp [*]; done)), (by first | rfl | (simp; done) | (simp [*]; done)), H', ⟨Nat.le_refl _⟩, ⟨by (with_reducible repeat (first | refine blk_drewN ?_ _ | refine blk_drew ?_ | refine blk_alloc ?_ _)); exact BK101.out⟩, ⟨by repeat (first | (with_reducible first | exact HB.out | apply below_alloc | apply pw_below_drewN | apply below_drew1 | refine below_set ?_ GE101.out) | exact HB.out)⟩⟩
  case round =>
   clear H'
   try clear c1
   try clear c2
   try clear c2b0
   try clear p2
   try clear hcz4_0
   try clear hcz4_1
   try clear hcz4_2
   try clear hcz4_3
   try clear hcz6_0
   try clear hcz6_1
   try clear hcz6_2
   try clear hcz6_3
   try clear hfz4_0
   try clear hfz4_1
   try clear hfz4_2
   try clear hfz4_3
   try clear hfz6_0
   try clear hfz6_1
   try clear hfz6_2
   try clear hfz6_3
   obtain ⟨x3_1, x4_1, rfl, rfl, HA, HK1, BK101, HB⟩ := hrel
   cases gk with
   | zero => exact absurd HA.out (by simp [rehearsalref04_Small.l0])
   | succ k1 =>
    have H := HA.out
    clear HA
    simp only [rehearsalref04_Small.l0] at H
    have HC7 := Aside0.mk H
    clear H
    go_upto_region 5 with (fail)
    go_cut [16] (fun v16 wc => ∃ (kq : Nat) (x16_6 : Bool), v16 = .bool x16_6 ∧ Aside0 (rehearsalref04_Small.j1 kq x3_1 x4_1 x16_6 l0_0 a0_1 a0_2 a0_3 = some r) ∧ Aside0 (kq ≤ k1) ∧ Aside0 (wc.heap[gb101]? = some (.cells #[(.slice A0_0 l0_0.length c0_0), .int .i64 a0_1, .int .i64 a0_2, .int .i64 a0_3] 26 (0, 0))) ∧ Aside0 (Below w.heap.size w wc))
    case first =>
     have H := HC7.out
     clear HC7
     by_cases c8 : x4_1 < (l0_0.length : Int)
     ·
      rw [if_pos c8] at H
      have c8b0 : decide (x4_1 < (l0_0.length : Int)) = true := decide_eq_true c8
      clear c8
      (first | rw [c8b0] | (simp only [i64_w, i32_w]; rw [c8b0]) | skip)
      have H' := Aside0.mk H
      clear H
      have hcz9_0 : wr.cell? ⟨gb101, 0, none⟩ = some (.slice A0_0 l0_0.length c0_0) := (blk_cell BK101.out 0).trans rfl
      have hcz9_1 : wr.cell? ⟨gb101, 1, none⟩ = some (.int .i64 a0_1) := (blk_cell BK101.out 1).trans rfl
      have hcz9_2 : wr.cell? ⟨gb101, 2, none⟩ = some (.int .i64 a0_2) := (blk_cell BK101.out 2).trans rfl
      have hcz9_3 : wr.cell? ⟨gb101, 3, none⟩ = some (.int .i64 a0_3) := (blk_cell BK101.out 3).trans rfl
      have hfz9_0 := blk_frozen BK101.out 0
      have hfz9_1 := blk_frozen BK101.out 1
      have hfz9_2 := blk_frozen BK101.out 2
      have hfz9_3 := blk_frozen BK101.out 3
      go_wp2
      go_meet
      case rel => exact ⟨_, (decide (x4_1 < 200)), (by first | rfl | (simp; done) | (simp [*]; done)), H', ⟨by have := HK1.out; first | omega | exact Nat.le_refl _⟩, ⟨by (with_reducible repeat (first | refine blk_drewN ?_ _ | refine blk_drew ?_ | refine blk_alloc ?_ _)); exact BK101.out⟩, ⟨by repeat (first | (with_reducible first | exact HB.out | apply below_alloc | apply pw_below_drewN | apply below_drew1 | refine below_set ?_ GE101.out) | exact HB.out)⟩⟩
     ·
      rw [if_neg c8] at H
      have c8b0 : decide (x4_1 < (l0_0.length : Int)) = false := decide_eq_false c8
      clear c8
      (first | rw [c8b0] | (simp only [i64_w, i32_w]; rw [c8b0]) | skip)
      have H' := Aside0.mk H
      clear H
      have hcz10_0 : wr.cell? ⟨gb101, 0, none⟩ = some (.slice A0_0 l0_0.length c0_0) := (blk_cell BK101.out 0).trans rfl
      have hcz10_1 : wr.cell? ⟨gb101, 1, none⟩ = some (.int .i64 a0_1) := (blk_cell BK101.out 1).trans rfl
      have hcz10_2 : wr.cell? ⟨gb101, 2, none⟩ = some (.int .i64 a0_2) := (blk_cell BK101.out 2).trans rfl
      have hcz10_3 : wr.cell? ⟨gb101, 3, none⟩ = some (.int .i64 a0_3) := (blk_cell BK101.out 3).trans rfl
      have hfz10_0 := blk_frozen BK101.out 0
      have hfz10_1 := blk_frozen BK101.out 1
      have hfz10_2 := blk_frozen BK101.out 2
      have hfz10_3 := blk_frozen BK101.out 3
      go_wp2
      go_meet
      case rel => exact ⟨_, (false), (by first | rfl | (simp; done) | (simp [*]; done)), H', ⟨by have := HK1.out; first | omega | exact Nat.le_refl _⟩, ⟨by (with_reducible repeat (first | refine blk_drewN ?_ _ | refine blk_drew ?_ | refine blk_alloc ?_ _)); exact BK101.out⟩, ⟨by repeat (first | (with_reducible first | exact HB.out | apply below_alloc | apply pw_below_drewN | apply below_drew1 | refine below_set ?_ GE101.out) | exact HB.out)⟩⟩
    case rest =>
     clear HC7
     try clear c1
     try clear c2
     try clear c2b0
     try clear p2
     try clear c8
     try clear c8b0
     try clear hcz10_0
     try clear hcz10_1
     try clear hcz10_2
     try clear hcz10_3
     try clear hcz4_0
     try clear hcz4_1
     try clear hcz4_2
     try clear hcz4_3
     try clear hcz6_0
     try clear hcz6_1
     try clear hcz6_2
     try clear hcz6_3
     try clear hcz9_0
     try clear hcz9_1
     try clear hcz9_2
     try clear hcz9_3
     try clear hfz10_0
     try clear hfz10_1
     try clear hfz10_2
     try clear hfz10_3
     try clear hfz4_0
     try clear hfz4_1
     try clear hfz4_2
     try clear hfz4_3
     try clear hfz6_0
     try clear hfz6_1
     try clear hfz6_2
     try clear hfz6_3
     try clear hfz9_0
     try clear hfz9_1
     try clear hfz9_2
     try clear hfz9_3
     try clear p2
     obtain ⟨kq, x16_6, rfl, HA, HJ6, BK101, HB⟩ := hcut
     cases kq with
     | zero => exact absurd HA.out (by simp [rehearsalref04_Small.j1])
     | succ kj6 =>
      have H := HA.out
      clear HA
      simp only [rehearsalref04_Small.j1] at H
      by_cases c11 : x16_6 = true
      ·
       subst c11
       have H1 : (if 0 ≤ x4_1 then (if x4_1 < (l0_0.length : Int) then (if (((rd_T44 l0_0 x4_1).f6).length : Int) > 200 then (some false) else (if (((rd_T44 l0_0 x4_1).f5).size : Int) > 20000 then (some false) else (rehearsalref04_Small.l0 kj6 (wrap64 (x3_1 + (((rd_T44 l0_0 x4_1).f6).length : Int))) (wrap64 (x4_1 + 1)) l0_0 a0_1 a0_2 a0_3))) else (none)) else (none)) = some r := by rw [if_pos rfl] at H; exact H
       clear H
       have H := H1
       clear H1
       by_cases c12 : 0 ≤ x4_1
       ·
        rw [if_pos c12] at H
        have c12b0 : decide (0 ≤ x4_1) = true := decide_eq_true c12
        clear c12
        by_cases c13 : x4_1 < (l0_0.length : Int)
        ·
         rw [if_pos c13] at H
         have c13b0 : decide (x4_1 < (l0_0.length : Int)) = true := decide_eq_true c13
         clear c13
         by_cases c14 : (((rd_T44 l0_0 x4_1).f6).length : Int) > 200
         ·
          rw [if_pos c14] at H
          have c14b0 : decide (200 < (((rd_T44 l0_0 x4_1).f6).length : Int)) = true := decide_eq_true c14
          have c14b1 : decide (200 < ((rd_T44 l0_0 x4_1).f6).length) = true := decide_eq_true (by omega)
          clear c14
          obtain rfl := Option.some.inj H
          have hcz15_0 : wc.cell? ⟨gb101, 0, none⟩ = some (.slice A0_0 l0_0.length c0_0) := (blk_cell BK101.out 0).trans rfl
          have hcz15_1 : wc.cell? ⟨gb101, 1, none⟩ = some (.int .i64 a0_1) := (blk_cell BK101.out 1).trans rfl
          have hcz15_2 : wc.cell? ⟨gb101, 2, none⟩ = some (.int .i64 a0_2) := (blk_cell BK101.out 2).trans rfl
          have hcz15_3 : wc.cell? ⟨gb101, 3, none⟩ = some (.int .i64 a0_3) := (blk_cell BK101.out 3).trans rfl
          have hfz15_0 := blk_frozen BK101.out 0
          have hfz15_1 := blk_frozen BK101.out 1
          have hfz15_2 := blk_frozen BK101.out 2
          have hfz15_3 := blk_frozen BK101.out 3
          have p102 : 0 ≤ (x4_1 : Int) := of_decide_eq_true (by first | (with_reducible assumption) | assumption)
          have q102 : x4_1 < (l0_0.length : Int) := of_decide_eq_true (by first | (with_reducible assumption) | assumption)
          obtain ⟨ad102, A102_6, c102_6, e102, hx102_0, hx102_1, hx102_2, hx102_3, hx102_4, hx102_5, hx102_6, hl102_6, hi102_6⟩ := at_T44 HR0_0.out x4_1 p102 q102
          cases e102
          replace hx102_0 := (HB.out.cell (World.block_lt_of_cell? w _ hx102_0)).trans hx102_0
          replace hx102_1 := (HB.out.cell (World.block_lt_of_cell? w _ hx102_1)).trans hx102_1
          replace hx102_2 := (HB.out.cell (World.block_lt_of_cell? w _ hx102_2)).trans hx102_2
          replace hx102_3 := (HB.out.cell (World.block_lt_of_cell? w _ hx102_3)).trans hx102_3
          replace hx102_4 := (HB.out.cell (World.block_lt_of_cell? w _ hx102_4)).trans hx102_4
          replace hx102_5 := (HB.out.cell (World.block_lt_of_cell? w _ hx102_5)).trans hx102_5
          replace hx102_6 := (HB.out.cell (World.block_lt_of_cell? w _ hx102_6)).trans hx102_6
          have HR102_6 := Aside0.mk hi102_6
          have HC102_6 := Aside0.mk hl102_6
          clear hi102_6 hl102_6
          replace p102 := eq_true p102
          replace q102 := eq_true q102
          go_wp2
          go_ret
          exact ⟨by first | rfl | (simp [errW_none, errW_some] <;> rfl) | (simp [*, errW_none, errW_some] <;> rfl), by repeat (first | (with_reducible first | exact HB.out | apply below_alloc | apply pw_below_drewN | apply below_drew1 | refine below_set ?_ GE101.out) | exact HB.out)⟩
         ·
          rw [if_neg c14] at H
          have c14b0 : decide (200 < (((rd_T44 l0_0 x4_1).f6).length : Int)) = false := decide_eq_false c14
          have c14b1 : decide (200 < ((rd_T44 l0_0 x4_1).f6).length) = false := decide_eq_false (by omega)
          clear c14
          by_cases c16 : (((rd_T44 l0_0 x4_1).f5).size : Int) > 20000
          ·
           rw [if_pos c16] at H
           have c16b0 : decide (20000 < (((rd_T44 l0_0 x4_1).f5).size : Int)) = true := decide_eq_true c16
           have c16b1 : decide (20000 < ((rd_T44 l0_0 x4_1).f5).size) = true := decide_eq_true (by omega)
           clear c16
           obtain rfl := Option.some.inj H
           have hcz17_0 : wc.cell? ⟨gb101, 0, none⟩ = some (.slice A0_0 l0_0.length c0_0) := (blk_cell BK101.out 0).trans rfl
           have hcz17_1 : wc.cell? ⟨gb101, 1, none⟩ = some (.int .i64 a0_1) := (blk_cell BK101.out 1).trans rfl
           have hcz17_2 : wc.cell? ⟨gb101, 2, none⟩ = some (.int .i64 a0_2) := (blk_cell BK101.out 2).trans rfl
           have hcz17_3 : wc.cell? ⟨gb101, 3, none⟩ = some (.int .i64 a0_3) := (blk_cell BK101.out 3).trans rfl
           have hfz17_0 := blk_frozen BK101.out 0
           have hfz17_1 := blk_frozen BK101.out 1
           have hfz17_2 := blk_frozen BK101.out 2
           have hfz17_3 := blk_frozen BK101.out 3
           have p102 : 0 ≤ (x4_1 : Int) := of_decide_eq_true (by first | (with_reducible assumption) | assumption)
           have q102 : x4_1 < (l0_0.length : Int) := of_decide_eq_true (by first | (with_reducible assumption) | assumption)
           obtain ⟨ad102, A102_6, c102_6, e102, hx102_0, hx102_1, hx102_2, hx102_3, hx102_4, hx102_5, hx102_6, hl102_6, hi102_6⟩ := at_T44 HR0_0.out x4_1 p102 q102
           cases e102
           replace hx102_0 := (HB.out.cell (World.block_lt_of_cell? w _ hx102_0)).trans hx102_0
           replace hx102_1 := (HB.out.cell (World.block_lt_of_cell? w _ hx102_1)).trans hx102_1
           replace hx102_2 := (HB.out.cell (World.block_lt_of_cell? w _ hx102_2)).trans hx102_2
           replace hx102_3 := (HB.out.cell (World.block_lt_of_cell? w _ hx102_3)).trans hx102_3
           replace hx102_4 := (HB.out.cell (World.block_lt_of_cell? w _ hx102_4)).trans hx102_4
           replace hx102_5 := (HB.out.cell (World.block_lt_of_cell? w _ hx102_5)).trans hx102_5
           replace hx102_6 := (HB.out.cell (World.block_lt_of_cell? w _ hx102_6)).trans hx102_6
           have HR102_6 := Aside0.mk hi102_6
           have HC102_6 := Aside0.mk hl102_6
           clear hi102_6 hl102_6
           replace p102 := eq_true p102
           replace q102 := eq_true q102
           have p103 : 0 ≤ (x4_1 : Int) := of_decide_eq_true (by first | (with_reducible assumption) | assumption)
           have q103 : x4_1 < (l0_0.length : Int) := of_decide_eq_true (by first | (with_reducible assumption) | assumption)
           obtain ⟨ad103, A103_6, c103_6, e103, hx103_0, hx103_1, hx103_2, hx103_3, hx103_4, hx103_5, hx103_6, hl103_6, hi103_6⟩ := at_T44 HR0_0.out x4_1 p103 q103
           obtain rfl : ad102 = ad103 := (by injection e103)
           replace hx103_0 := (HB.out.cell (World.block_lt_of_cell? w _ hx103_0)).trans hx103_0
           replace hx103_1 := (HB.out.cell (World.block_lt_of_cell? w _ hx103_1)).trans hx103_1
           replace hx103_2 := (HB.out.cell (World.block_lt_of_cell? w _ hx103_2)).trans hx103_2
           replace hx103_3 := (HB.out.cell (World.block_lt_of_cell? w _ hx103_3)).trans hx103_3
           replace hx103_4 := (HB.out.cell (World.block_lt_of_cell? w _ hx103_4)).trans hx103_4
           replace hx103_5 := (HB.out.cell (World.block_lt_of_cell? w _ hx103_5)).trans hx103_5
           replace hx103_6 := (HB.out.cell (World.block_lt_of_cell? w _ hx103_6)).trans hx103_6
           have HR103_6 := Aside0.mk hi103_6
           have HC103_6 := Aside0.mk hl103_6
           clear hi103_6 hl103_6
           replace p103 := eq_true p103
           replace q103 := eq_true q103
           have ea_ := Option.some.inj (hx102_6.symm.trans hx103_6)
           injection ea_ with ea_ en_ ec_
           subst ea_
           subst ec_
           clear en_
           go_wp2
           go_ret
           exact ⟨by first | rfl | (simp [errW_none, errW_some] <;> rfl) | (simp [*, errW_none, errW_some] <;> rfl), by repeat (first | (with_reducible first | exact HB.out | apply below_alloc | apply pw_below_drewN | apply below_drew1 | refine below_set ?_ GE101.out) | exact HB.out)⟩
          ·
           rw [if_neg c16] at H
           have c16b0 : decide (20000 < (((rd_T44 l0_0 x4_1).f5).size : Int)) = false := decide_eq_false c16
           have c16b1 : decide (20000 < ((rd_T44 l0_0 x4_1).f5).size) = false := decide_eq_false (by omega)
           clear c16
           have H' := Aside0.mk H
           clear H
           have hcz18_0 : wc.cell? ⟨gb101, 0, none⟩ = some (.slice A0_0 l0_0.length c0_0) := (blk_cell BK101.out 0).trans rfl
           have hcz18_1 : wc.cell? ⟨gb101, 1, none⟩ = some (.int .i64 a0_1) := (blk_cell BK101.out 1).trans rfl
           have hcz18_2 : wc.cell? ⟨gb101, 2, none⟩ = some (.int .i64 a0_2) := (blk_cell BK101.out 2).trans rfl
           have hcz18_3 : wc.cell? ⟨gb101, 3, none⟩ = some (.int .i64 a0_3) := (blk_cell BK101.out 3).trans rfl
           have hfz18_0 := blk_frozen BK101.out 0
           have hfz18_1 := blk_frozen BK101.out 1
           have hfz18_2 := blk_frozen BK101.out 2
           have hfz18_3 := blk_frozen BK101.out 3
           have p102 : 0 ≤ (x4_1 : Int) := of_decide_eq_true (by first | (with_reducible assumption) | assumption)
           have q102 : x4_1 < (l0_0.length : Int) := of_decide_eq_true (by first | (with_reducible assumption) | assumption)
           obtain ⟨ad102, A102_6, c102_6, e102, hx102_0, hx102_1, hx102_2, hx102_3, hx102_4, hx102_5, hx102_6, hl102_6, hi102_6⟩ := at_T44 HR0_0.out x4_1 p102 q102
           cases e102
           replace hx102_0 := (HB.out.cell (World.block_lt_of_cell? w _ hx102_0)).trans hx102_0
           replace hx102_1 := (HB.out.cell (World.block_lt_of_cell? w _ hx102_1)).trans hx102_1
           replace hx102_2 := (HB.out.cell (World.block_lt_of_cell? w _ hx102_2)).trans hx102_2
           replace hx102_3 := (HB.out.cell (World.block_lt_of_cell? w _ hx102_3)).trans hx102_3
           replace hx102_4 := (HB.out.cell (World.block_lt_of_cell? w _ hx102_4)).trans hx102_4
           replace hx102_5 := (HB.out.cell (World.block_lt_of_cell? w _ hx102_5)).trans hx102_5
           replace hx102_6 := (HB.out.cell (World.block_lt_of_cell? w _ hx102_6)).trans hx102_6
           have HR102_6 := Aside0.mk hi102_6
           have HC102_6 := Aside0.mk hl102_6
           clear hi102_6 hl102_6
           replace p102 := eq_true p102
           replace q102 := eq_true q102
           have p103 : 0 ≤ (x4_1 : Int) := of_decide_eq_true (by first | (with_reducible assumption) | assumption)
           have q103 : x4_1 < (l0_0.length : Int) := of_decide_eq_true (by first | (with_reducible assumption) | assumption)
           obtain ⟨ad103, A103_6, c103_6, e103, hx103_0, hx103_1, hx103_2, hx103_3, hx103_4, hx103_5, hx103_6, hl103_6, hi103_6⟩ := at_T44 HR0_0.out x4_1 p103 q103
           obtain rfl : ad102 = ad103 := (by injection e103)
           replace hx103_0 := (HB.out.cell (World.block_lt_of_cell? w _ hx103_0)).trans hx103_0
           replace hx103_1 := (HB.out.cell (World.block_lt_of_cell? w _ hx103_1)).trans hx103_1
           replace hx103_2 := (HB.out.cell (World.block_lt_of_cell? w _ hx103_2)).trans hx103_2
           replace hx103_3 := (HB.out.cell (World.block_lt_of_cell? w _ hx103_3)).trans hx103_3
           replace hx103_4 := (HB.out.cell (World.block_lt_of_cell? w _ hx103_4)).trans hx103_4
           replace hx103_5 := (HB.out.cell (World.block_lt_of_cell? w _ hx103_5)).trans hx103_5
           replace hx103_6 := (HB.out.cell (World.block_lt_of_cell? w _ hx103_6)).trans hx103_6
           have HR103_6 := Aside0.mk hi103_6
           have HC103_6 := Aside0.mk hl103_6
           clear hi103_6 hl103_6
           replace p103 := eq_true p103
           replace q103 := eq_true q103
           have ea_ := Option.some.inj (hx102_6.symm.trans hx103_6)
           injection ea_ with ea_ en_ ec_
           subst ea_
           subst ec_
           clear en_
           have p104 : 0 ≤ (x4_1 : Int) := of_decide_eq_true (by first | (with_reducible assumption) | assumption)
           have q104 : x4_1 < (l0_0.length : Int) := of_decide_eq_true (by first | (with_reducible assumption) | assumption)
           obtain ⟨ad104, A104_6, c104_6, e104, hx104_0, hx104_1, hx104_2, hx104_3, hx104_4, hx104_5, hx104_6, hl104_6, hi104_6⟩ := at_T44 HR0_0.out x4_1 p104 q104
           obtain rfl : ad102 = ad104 := (by injection e104)
           replace hx104_0 := (HB.out.cell (World.block_lt_of_cell? w _ hx104_0)).trans hx104_0
           replace hx104_1 := (HB.out.cell (World.block_lt_of_cell? w _ hx104_1)).trans hx104_1
           replace hx104_2 := (HB.out.cell (World.block_lt_of_cell? w _ hx104_2)).trans hx104_2
           replace hx104_3 := (HB.out.cell (World.block_lt_of_cell? w _ hx104_3)).trans hx104_3
           replace hx104_4 := (HB.out.cell (World.block_lt_of_cell? w _ hx104_4)).trans hx104_4
           replace hx104_5 := (HB.out.cell (World.block_lt_of_cell? w _ hx104_5)).trans hx104_5
           replace hx104_6 := (HB.out.cell (World.block_lt_of_cell? w _ hx104_6)).trans hx104_6
           have HR104_6 := Aside0.mk hi104_6
           have HC104_6 := Aside0.mk hl104_6
           clear hi104_6 hl104_6
           replace p104 := eq_true p104
           replace q104 := eq_true q104
           have ea_ := Option.some.inj (hx102_6.symm.trans hx104_6)
           injection ea_ with ea_ en_ ec_
           subst ea_
           subst ec_
           clear en_
           go_wp2
           go_roundg kj6
           case measure => have := HK1.out; have := HJ6.out; omega
           case rel => exact ⟨(wrap64 (x3_1 + (((rd_T44 l0_0 x4_1).f6).length : Int))), (wrap64 (x4_1 + 1)), (by first | rfl | (simp; done) | (simp [*]; done)), (by first | rfl | (simp; done) | (simp [*]; done)), H', ⟨by have := HK1.out; have := HJ6.out; omega⟩, ⟨by (with_reducible repeat (first | refine blk_drewN ?_ _ | refine blk_drew ?_ | refine blk_alloc ?_ _)); exact BK101.out⟩, ⟨by repeat (first | (with_reducible first | exact HB.out | apply below_alloc | apply pw_below_drewN | apply below_drew1 | refine below_set ?_ GE101.out) | exact HB.out)⟩⟩
        ·
         rw [if_neg c13] at H
         exact absurd H (by simp)
       ·
        rw [if_neg c12] at H
        exact absurd H (by simp)
      ·
       replace c11 := Bool.eq_false_iff.mpr c11
       subst c11
       have H1 : (if (l0_0.length : Int) ≤ 60 then (if x3_1 ≤ 200 then (some true) else (some (decide ((l0_0.length : Int) > 512)))) else (some (decide ((l0_0.length : Int) > 512)))) = some r := by rw [if_neg (show ¬ (false = true) by decide)] at H; exact H
       clear H
       have H := H1
       clear H1
       by_cases c19 : (l0_0.length : Int) ≤ 60
       ·
        rw [if_pos c19] at H
        have c19b0 : decide ((l0_0.length : Int) ≤ 60) = true := decide_eq_true c19
        have c19b1 : decide (l0_0.length ≤ 60) = true := decide_eq_true (by omega)
        clear c19
        by_cases c20 : x3_1 ≤ 200
        ·
         rw [if_pos c20] at H
         have c20b0 : decide (x3_1 ≤ 200) = true := decide_eq_true c20
         clear c20
         obtain rfl := Option.some.inj H
         have hcz21_0 : wc.cell? ⟨gb101, 0, none⟩ = some (.slice A0_0 l0_0.length c0_0) := (blk_cell BK101.out 0).trans rfl
         have hcz21_1 : wc.cell? ⟨gb101, 1, none⟩ = some (.int .i64 a0_1) := (blk_cell BK101.out 1).trans rfl
         have hcz21_2 : wc.cell? ⟨gb101, 2, none⟩ = some (.int .i64 a0_2) := (blk_cell BK101.out 2).trans rfl
         have hcz21_3 : wc.cell? ⟨gb101, 3, none⟩ = some (.int .i64 a0_3) := (blk_cell BK101.out 3).trans rfl
         have hfz21_0 := blk_frozen BK101.out 0
         have hfz21_1 := blk_frozen BK101.out 1
         have hfz21_2 := blk_frozen BK101.out 2
         have hfz21_3 := blk_frozen BK101.out 3
         go_wp2
         go_ret
         exact ⟨by first | rfl | (simp [errW_none, errW_some] <;> rfl) | (simp [*, errW_none, errW_some] <;> rfl), by repeat (first | (with_reducible first | exact HB.out | apply below_alloc | apply pw_below_drewN | apply below_drew1 | refine below_set ?_ GE101.out) | exact HB.out)⟩
        ·
         rw [if_neg c20] at H
         have c20b0 : decide (x3_1 ≤ 200) = false := decide_eq_false c20
         clear c20
         obtain rfl := Option.some.inj H
         have hcz22_0 : wc.cell? ⟨gb101, 0, none⟩ = some (.slice A0_0 l0_0.length c0_0) := (blk_cell BK101.out 0).trans rfl
         have hcz22_1 : wc.cell? ⟨gb101, 1, none⟩ = some (.int .i64 a0_1) := (blk_cell BK101.out 1).trans rfl
         have hcz22_2 : wc.cell? ⟨gb101, 2, none⟩ = some (.int .i64 a0_2) := (blk_cell BK101.out 2).trans rfl
         have hcz22_3 : wc.cell? ⟨gb101, 3, none⟩ = some (.int .i64 a0_3) := (blk_cell BK101.out 3).trans rfl
         have hfz22_0 := blk_frozen BK101.out 0
         have hfz22_1 := blk_frozen BK101.out 1
         have hfz22_2 := blk_frozen BK101.out 2
         have hfz22_3 := blk_frozen BK101.out 3
         go_wp2
         go_ret
         exact ⟨by first | rfl | (simp [errW_none, errW_some] <;> rfl) | (simp [*, errW_none, errW_some] <;> rfl), by repeat (first | (with_reducible first | exact HB.out | apply below_alloc | apply pw_below_drewN | apply below_drew1 | refine below_set ?_ GE101.out) | exact HB.out)⟩
       ·
        rw [if_neg c19] at H
        have c19b0 : decide ((l0_0.length : Int) ≤ 60) = false := decide_eq_false c19
        have c19b1 : decide (l0_0.length ≤ 60) = false := decide_eq_false (by omega)
        clear c19
        obtain rfl := Option.some.inj H
        have hcz23_0 : wc.cell? ⟨gb101, 0, none⟩ = some (.slice A0_0 l0_0.length c0_0) := (blk_cell BK101.out 0).trans rfl
        have hcz23_1 : wc.cell? ⟨gb101, 1, none⟩ = some (.int .i64 a0_1) := (blk_cell BK101.out 1).trans rfl
        have hcz23_2 : wc.cell? ⟨gb101, 2, none⟩ = some (.int .i64 a0_2) := (blk_cell BK101.out 2).trans rfl
        have hcz23_3 : wc.cell? ⟨gb101, 3, none⟩ = some (.int .i64 a0_3) := (blk_cell BK101.out 3).trans rfl
        have hfz23_0 := blk_frozen BK101.out 0
        have hfz23_1 := blk_frozen BK101.out 1
        have hfz23_2 := blk_frozen BK101.out 2
        have hfz23_3 := blk_frozen BK101.out 3
        go_wp2
        go_ret
        exact ⟨by first | rfl | (simp [errW_none, errW_some] <;> rfl) | (simp [*, errW_none, errW_some] <;> rfl), by repeat (first | (with_reducible first | exact HB.out | apply below_alloc | apply pw_below_drewN | apply below_drew1 | refine below_set ?_ GE101.out) | exact HB.out)⟩
end Go.Proofs.YtnpnablnnfekkaaDoor.PTr
set_option linter.unusedVariables false
set_option linter.unusedSimpArgs false
namespace Go.Proofs.YtnpnablnnfekkaaDoor.PTr
open Go.RowKit Go.Proofs.YtnpnablnnfekkaaDoor Go.Proofs.YtnpnablnnfekkaaDoorW.PrintWords Go.Proofs.YtnpnablnnfekkaaDoorW.PrintLast Go.Proofs.YtnpnablnnfekkaaDoorW.PrintMore
def KS : ByteArray → Value := Value.string
def toP (q : Int × List UInt8) : Int × ByteArray := (q.1, asB q.2)
structure WSt (w0 w : World) (gw gm : Nat) (N : Value) (b1 b2 b3 : Int) (ids : List Int) (acc : List (Int × ByteArray)) (v : Value) : Prop where
 hb : Below w0.heap.size w0 w
 bk : w.heap[gw]? = some (.cells #[N, .int .i64 b1, .int .i64 b2, .int .i64 b3, v, .map (some gm)] 83 (0, 0))
 ge : w0.heap.size ≤ gw
 gem : w0.heap.size ≤ gm
 q : Kd.Q (Kd.int .i64) 3 w w0.heap.size (fun _ => True) v ids
 mp : MapA KI KS w gm acc
theorem WSt.below {w0 w w' : World} {gw gm : Nat} {N : Value} {b1 b2 b3 : Int} {ids : List Int} {acc : List (Int × ByteArray)} {v : Value} (h : WSt w0 w gw gm N b1 b2 b3 ids acc v) (hb : Below w.heap.size w w') : WSt w0 w' gw gm N b1 b2 b3 ids acc v :=
 ⟨below_step h.hb hb, blk_below h.bk hb, h.ge, h.gem, Kd.Q_below h.q hb, h.mp.below hb⟩
theorem WSt.update {w0 w w' : World} {gw gm : Nat} {N : Value} {b1 b2 b3 : Int} {ids : List Int} {acc acc' : List (Int × ByteArray)} {v : Value} (h : WSt w0 w gw gm N b1 b2 b3 ids acc v) (hm : MapA KI KS w' gm acc') (hg : w.grownBy w' (some gm)) : WSt w0 w' gw gm N b1 b2 b3 ids acc' v :=
 ⟨h.hb.grown hg (below_size h.hb) (fun k hk => by cases hk; exact h.gem), blk_grown h.bk hg (fun e => MapA.neC h.mp h.bk (Option.some.inj e).symm), h.ge, h.gem,
 Kd.Q_mono (Kd.Q_grown (Kd.Q_bound h.q) hg (fun k hk e2 => by obtain ⟨_, _, _, q, _, cells, hc⟩ := hk; exact h.mp.neC hc (Option.some.inj e2).symm)) (fun _ _ => trivial), hm⟩
theorem WSt.neM {w0 w : World} {gw gm : Nat} {N : Value} {b1 b2 b3 : Int} {ids : List Int} {acc : List (Int × ByteArray)} {v : Value} (h : WSt w0 w gw gm N b1 b2 b3 ids acc v) : some gm ≠ v.ownBlock := by
 intro e2
 obtain ⟨_, inner, hq, _⟩ := h.q
 obtain ⟨_, cells, hc⟩ := q_typed hq gm e2.symm
 exact h.mp.neC hc rfl
theorem WSt.stored {w0 w w1 : World} {gw gm : Nat} {N : Value} {b1 b2 b3 : Int} {ids ids' : List Int} {acc : List (Int × ByteArray)} {v v1 : Value} (h : WSt w0 w gw gm N b1 b2 b3 ids acc v) (ho : Kd.Q (Kd.int .i64) 3 w1 w0.heap.size (fun _ => True) v1 ids') (hb : Below w0.heap.size w0 w1) (hg : w.grownBy w1 v.ownBlock) :
  WSt w0 (w1.setCell ⟨gw, 4, none⟩ v1) gw gm N b1 b2 b3 ids' acc v1 := by
 have bk1 := blk_grown h.bk hg (Kd.Q_ne h.q h.bk (by decide))
 have m1 := MapA.grown h.mp hg h.neM
 exact ⟨below_set hb h.ge, blk_put bk1 4 v1 rfl, h.ge, h.gem, Kd.Q_mono (Kd.Q_far (p := ⟨gw, 4, none⟩) (Kd.Q_types ho bk1 (by decide)) (fun _ hk => hk.2) v1) (fun _ h_ => h_.1), m1.setCell (m1.neC bk1) v1⟩
theorem lookS {w : World} {b : Nat} {m : List (Int × ByteArray)} (h : MapA KI KS w b m) {mt : TypeId} (hm : Tryd.prog.underlying mt = some (.map 3 9)) (hz : ∀ w, (zeroValue 9).run Tryd.prog w = .ok (.string ⟨#[]⟩) w) (k : Int) :
  (Instr.lookup mt (.map (some b)) (.int .i64 k) true).run Tryd.prog w = .ok (.tuple #[.string ((getA m k).getD ⟨#[]⟩), .bool (getA m k).isSome]) w := by
 have := h.look (keyI Tryd.underlying3) hm (hz w) k true
 unfold KI KS at this
 rw [this]
 cases getA m k <;> rfl
theorem zeroS (w : World) : (zeroValue 9).run Tryd.prog w = .ok (.string ⟨#[]⟩) w := by kernel_rfl
theorem isSome_iff {m : List (Int × ByteArray)} {k : Int} : (getA m k).isSome = true ↔ k ∈ m.map (·.1) := by
 rw [← Decidable.not_iff_not, ← getA_none (l := m)]
 cases getA m k <;> simp
theorem map_toP (acc : List (Int × List UInt8)) : (acc.map toP).map (·.1) = acc.map (·.1) := by rw [List.map_map]; rfl
set_option maxHeartbeats 8000000 in
set_option maxRecDepth 100000 in
theorem walk_any (l : List Nod) (A : Option Addr) (c : Nat) (a1 a2 a3 : Int) (w0 : World) (hr0 : Kd.C k44 w0 A l.length l) (hc00 : l.length ≤ c) (hl : l.length ≤ 512) (hr : Rises l) (hcl : ∀ x ∈ l, ∀ e ∈ x.f6, e.f1 ∈ idsL l)
  (hb : ∀ x ∈ l, x.f6.length ≤ 140737488351232) (hN : ∀ x ∈ l, ∀ e ∈ x.f6, e.f0.size ≤ 64) (gw gm : Nat) :
  ∀ (F : Nat) (acc : List (Int × List UInt8)) (id : Int) (p : List UInt8) (v : Value) (w : World), (acc.map (·.1)).Nodup → (∀ x ∈ acc.map (·.1), x ∈ idsL l) → id ∈ idsL l → l.length < F + acc.length → p.length ≤ 1 + 65 * acc.length →
   WSt w0 w gw gm (.slice A l.length c) a1 a2 a3 (acc.map (·.1)) (acc.map toP) v →
   Calls Tryd.prog 82 #[.pointer (some ⟨gw, 0, none⟩), .int .i64 id, .string (asB p)] w fun e w' => e = .returned (.tuple #[]) ∧ ∃ v', WSt w0 w' gw gm (.slice A l.length c) a1 a2 a3 ((wayP l F acc id p).map (·.1)) ((wayP l F acc id p).map toP) v' := by
 intro F
 induction F with
 | zero =>
  intro acc id p v w hnd hs hid hlen _ _
  exfalso
  have := TG.len_le _ _ hnd hs
  unfold idsL at this
  simp only [List.length_map] at this
  omega
 | succ F ih =>
  intro acc id p v w hnd hs hid hlen hp hst
  have HST := Lib.hid hst
  have hc0 : w.cell? ⟨gw, 0, none⟩ = some (.slice A l.length c) := (blk_cell hst.bk 0).trans rfl
  have hc1 : w.cell? ⟨gw, 1, none⟩ = some (.int .i64 a1) := (blk_cell hst.bk 1).trans rfl
  have hc2 : w.cell? ⟨gw, 2, none⟩ = some (.int .i64 a2) := (blk_cell hst.bk 2).trans rfl
  have hc3 : w.cell? ⟨gw, 3, none⟩ = some (.int .i64 a3) := (blk_cell hst.bk 3).trans rfl
  have hc4 : w.cell? ⟨gw, 4, none⟩ = some v := (blk_cell hst.bk 4).trans rfl
  have hc5 : w.cell? ⟨gw, 5, none⟩ = some (.map (some gm)) := (blk_cell hst.bk 5).trans rfl
  have hlk := lookS hst.mp Tryd.underlying81 zeroS id
  have HH := Lib.hid (And.intro hnd (And.intro hs (And.intro hid (And.intro hlen hp))))
  by_cases hm : id ∈ acc.map (·.1)
  ·
   as_aux_lemma =>
   have hw : wayP l (F + 1) acc id p = acc := by unfold wayP; rw [if_pos hm]
   have hsm : (getA (acc.map toP) id).isSome = true := isSome_iff.2 (by rw [map_toP]; exact hm)
   rw [hsm] at hlk
   have HW := Lib.hid hw
   clear hw hst hnd hs hid hlen hp hm hsm
   go_enter Tryd.func82, Tryd.ntmps82
   go_wp2
   (try simp only [Exit.inBlock, Exit.then])
   refine bodyPost_ret (results_none rfl _ _ _) rfl ?_
   exact ⟨rfl, v, by rw [HW.out]; exact HST.out⟩
  ·
   as_aux_lemma =>
   have hsm : (getA (acc.map toP) id).isSome = false := Bool.eq_false_iff.2 (fun h => hm (by have := isSome_iff.1 h; rwa [map_toP] at this))
   rw [hsm] at hlk
   obtain ⟨x, hx, hxe⟩ := mem_ids.1 hid
   obtain ⟨t, ht, rfl⟩ := List.getElem_of_mem hx
   obtain ⟨K, hK⟩ := place_in l a1 a2 a3 (by omega) hr t ht
   rw [hxe] at hK
   have HPL := Lib.hid (hK K (Nat.le_refl _))
   obtain ⟨x, hxt⟩ : ∃ x, l[t] = x := ⟨_, rfl⟩
   have hrd : rd_T44 l (t : Int) = x := (rdN l t ht).trans hxt
   have hxl : x ∈ l := hxt ▸ hx
   rw [hxt] at hxe
   have hw : wayP l (F + 1) acc id p = x.f6.foldl (fun a e => wayP l F a e.f1 (joinP p e.f0.data.toList)) (acc ++ [(id, p)]) := by
    conv => lhs; unfold wayP
    rw [if_neg hm, ← hxe, ← hxt, nodeL_at hr t ht, hxt]
   have HW := Lib.hid hw
   have HM := Lib.hid hm
   have HT := Lib.hid ht
   have HX := Lib.hid (And.intro hxe (And.intro hrd (And.intro (hcl x hxl) (And.intro (hb x hxl) (hN x hxl)))))
   have t0 : decide (0 ≤ (t : Int)) = true := decide_eq_true (by omega)
   have t1 : decide ((t : Int) < (l.length : Int)) = true := decide_eq_true (by omega)
   have HR0 := Lib.hid hr0
   have HC0 := Lib.hid hc00
   have hput : putA (acc.map toP) id (asB p) = (acc ++ [(id, p)]).map toP := by rw [putA_none _ (by rw [map_toP]; exact hm), List.map_append]; rfl
   have HPT := Lib.hid hput
   have hlen3 : acc.length ≤ 512 := by
    have := TG.len_le _ _ hnd hs
    unfold idsL at this
    simp only [List.length_map] at this
    omega
   have HL3 := Lib.hid hlen3
   clear hw hst hnd hs hid hlen hp hm hsm hx hxe hK hput hlen3 hxt hrd hxl ht
   go_enter Tryd.func82, Tryd.ntmps82
   go_upto_region 4 with (first | (refine mp_put rfl (Or.inl rfl) HST.out.mp (keyI Tryd.underlying3) Tryd.underlying81 rfl id (asB p) (by rfl) (by rfl) ?_; intro wM hM1 hgM; have HST1 := Lib.hid (HST.out.update hM1 hgM); clear hM1 hgM; have hm4 : wM.cell? ⟨gw, 4, none⟩ = some v := (blk_cell HST1.out.bk 4).trans rfl) | ((with_reducible refine gate_builtin (b := .append) (xs := #[.tmp 32, .tmp 34]) rfl ?_); (try (refine gate_guard (by rfl) ?_; dsimp only)); at_builtin; refine Kd.Q_append (Kd.int .i64) (w0 := w0) w0.heap.size rfl (.tmp 32) (.tmp 34) 76 3 (.int .i64 0) 8 rfl Tryd.underlying76 info3 rfl (by decide) (by omega) v (acc.map (·.1)) id [.int .i64 id] (fun _ => True) (fun _ => False) rfl rfl ?aP (fun _ hk => hk.elim) (fun _ _ => trivial) HST1.out.q HST1.out.hb (below_size HST1.out.hb) ?aL ?_; (case aP => exact rfl); (case aL => have := HL3.out; rw [List.length_map]; omega); intro v1 w1 ho hb1 hg1 _; obtain ⟨Ao1, co1, eo1, _⟩ := Kd.Q_slice ho; rw [List.length_append, List.length_map, List.length_singleton] at eo1; subst eo1; have HST2 := Lib.hid (HST1.out.stored ho hb1 hg1); have hn4 : w1.cell? ⟨gw, 4, none⟩ = some v := (blk_cell (blk_grown HST1.out.bk hg1 (Kd.Q_ne HST1.out.q HST1.out.bk (by decide))) 4).trans rfl; have hf4 := blk_frozen (blk_grown HST1.out.bk hg1 (Kd.Q_ne HST1.out.q HST1.out.bk (by decide))) 4; clear ho hb1 hg1))
   (try simp only [Act.put, List.setIfInBounds_toArray, List.set_cons_zero, List.set_cons_succ])
   generalize w1.setCell _ _ = w2 at HST2 ⊢
   rw [HPT.out] at HST2
   clear hn4 hf4 hm4 hlk HST HST1 hc0 hc1 hc2 hc3 hc5
   have hc0 : w2.cell? ⟨gw, 0, none⟩ = some (.slice A l.length c) := (blk_cell HST2.out.bk 0).trans rfl
   have hc1 : w2.cell? ⟨gw, 1, none⟩ = some (.int .i64 a1) := (blk_cell HST2.out.bk 1).trans rfl
   have hc2 : w2.cell? ⟨gw, 2, none⟩ = some (.int .i64 a2) := (blk_cell HST2.out.bk 2).trans rfl
   have hc3 : w2.cell? ⟨gw, 3, none⟩ = some (.int .i64 a3) := (blk_cell HST2.out.bk 3).trans rfl
   go_wp2_with (go_at_call 59; (with_reducible refine (tree_place.calls K _ _ l a1 a2 a3 id (t : Int) true _ (Kd.C_below HR0.out HST2.out.hb) HC0.out HPL.out).mono ?_); rintro e w3 ⟨rfl, hb3⟩; have HST3 := Lib.hid (HST2.out.below hb3); clear hb3; have hd0 : w3.cell? ⟨gw, 0, none⟩ = some (.slice A l.length c) := (blk_cell HST3.out.bk 0).trans rfl; obtain ⟨ad, A6, c6, e134, hx0, hx1, hx2, hx3, hx4, hx5, hx6, hl6, hi6⟩ := at_T44 HR0.out (t : Int) (Int.natCast_nonneg t) (Int.ofNat_lt.2 HT.out); cases e134; rw [HX.out.2.1] at hx6 hl6 hi6; replace hx6 := (HST3.out.hb.cell (World.block_lt_of_cell? _ _ hx6)).trans hx6; clear hx0 hx1 hx2 hx3 hx4 hx5; rw [Int.toNat_natCast] at hx6; have HI6 := Lib.hid hi6; have HL6 := Lib.hid hl6; clear hi6 hl6)
   go_loopw [57] (fun s57 wr => ∃ (i : Nat) (acc' : List (Int × List UInt8)) (v' : Value), i ≤ x.f6.length ∧ s57 = .int .i64 i ∧ Hid (acc' = (x.f6.take i).foldl (fun a e => wayP l F a e.f1 (joinP p e.f0.data.toList)) (acc ++ [(id, p)])) ∧ Hid ((acc'.map (·.1)).Nodup ∧ (∀ y ∈ acc'.map (·.1), y ∈ idsL l) ∧ acc.length + 1 ≤ acc'.length) ∧ Hid (WSt w0 wr gw gm (.slice (some ad) l.length c) a1 a2 a3 (acc'.map (·.1)) (acc'.map toP) v')) (fun s57 _ => x.f6.length - (intOf s57).toNat)
   case atStart =>
    refine ⟨0, acc ++ [(id, p)], .slice Ao1 (acc.length + 1) co1, Nat.zero_le _, rfl, Lib.hid rfl, Lib.hid (And.intro ?_ (And.intro ?_ ?_)), Lib.hid ?_⟩
    ·
     rw [List.map_append]
     refine List.nodup_append.2 ⟨HH.out.1, by simp, fun a ha b hb e => ?_⟩
     simp only [List.map_cons, List.map_nil, List.mem_singleton] at hb
     exact HM.out (by rw [← hb, ← e]; exact ha)
    ·
     intro y hy
     rw [List.map_append] at hy
     rcases List.mem_append.1 hy with h | h
     ·
      exact HH.out.2.1 y h
     ·
      simp only [List.map_cons, List.map_nil, List.mem_singleton] at h
      rw [h]; exact HH.out.2.2.1
    ·
     simp
    ·
     have := HST3.out
     rw [List.map_append]
     exact this
   case round =>
    clear HST3 hd0 hc0 hc1 hc2 hc3 HST2 t0 t1
    obtain ⟨i, acc', v', hi, rfl, HA, HG, HS⟩ := hrel
    by_cases hlt : i < x.f6.length
    ·
     as_aux_lemma =>
     obtain ⟨name, node, hen⟩ : ∃ name node, x.f6[i] = ⟨name, node⟩ := ⟨_, _, rfl⟩
     have hrd : rd_T61 x.f6 (i : Int) = ⟨name, node⟩ := (rdE _ i hlt).trans hen
     obtain ⟨ae, ee, e0, e1⟩ := at_T61 HI6.out (i : Int) (Int.natCast_nonneg i) (Int.ofNat_lt.2 hlt)
     cases ee
     rw [hrd, Int.toNat_natCast] at e0 e1
     replace e0 := (HS.out.hb.cell (World.block_lt_of_cell? _ _ e0)).trans e0
     replace e1 := (HS.out.hb.cell (World.block_lt_of_cell? _ _ e1)).trans e1
     have i0 : decide (0 ≤ (i : Int)) = true := decide_eq_true (by omega)
     have i1 : decide ((i : Int) < (x.f6.length : Int)) = true := decide_eq_true (by omega)
     have hmem : (⟨name, node⟩ : Ent) ∈ x.f6 := hen ▸ List.getElem_mem hlt
     have hnm : name.size ≤ 64 := HX.out.2.2.2.2 _ hmem
     have hnl : name.data.toList.length = name.size := by rw [Array.length_toList]; rfl
     have HJN : Hid (path_Join.f (asB p) name = some (asB (joinP p name.data.toList))) := by
      have h1 := HH.out.2.2.2.2
      have h3 := HL3.out
      have := join_prog p name.data.toList (by omega) (by omega)
      rw [asB_toList] at this
      exact Lib.hid this
     have HCALL : Hid (∀ w7, WSt w0 w7 gw gm (.slice (some ad) l.length c) a1 a2 a3 (acc'.map (·.1)) (acc'.map toP) v' → Calls Tryd.prog 82 #[.pointer (some ⟨gw, 0, none⟩), .int .i64 node, .string (asB (joinP p name.data.toList))] w7 fun e w' => e = .returned (.tuple #[]) ∧ ∃ v'', WSt w0 w' gw gm (.slice (some ad) l.length c) a1 a2 a3 ((wayP l F acc' node (joinP p name.data.toList)).map (·.1)) ((wayP l F acc' node (joinP p name.data.toList)).map toP) v'') :=
      Lib.hid (fun w7 h7 => ih acc' node (joinP p name.data.toList) v' w7 HG.out.1 HG.out.2.1 (HX.out.2.2.1 _ hmem) (by have := HH.out.2.2.2.1; have := HG.out.2.2; omega) (by have := joinP_len p name.data.toList; have := HH.out.2.2.2.2; have := HG.out.2.2; omega) h7)
     have HNX : Hid (wayP l F acc' node (joinP p name.data.toList) = (x.f6.take (i + 1)).foldl (fun a e => wayP l F a e.f1 (joinP p e.f0.data.toList)) (acc ++ [(id, p)])) := by
      rw [List.take_succ_eq_append_getElem hlt, List.foldl_append, ← HA.out, hen]; exact Lib.hid rfl
     have HLT := Lib.hid hlt
     have HWR : Hid (wrap64 ((i : Int) + 1) = ((i + 1 : Nat) : Int)) := Lib.hid (by have := HX.out.2.2.2.1; unfold wrap64; omega)
     clear hnm hnl hmem hen hrd hlt hi
     go_upto_region 8 with (first | ((with_reducible refine gate_dst (N := 11) rfl ?_); (try (refine gate_guard (by rfl) ?_; dsimp only)); refine box_event ?hg (N := 11) ?hd (cs := #[.string (⟨#[]⟩ : ByteArray), .int .i64 0]) (t := 61) ?hr ?_; (case hd => rfl); (case hg => rfl); (case hr => first | (go_simp; done) | (go_simp; rfl)); intro gb hg w4 hbox hb4; have hl_ : wr.heap.size ≤ gb := Nat.le_of_eq hg.symm; have HST5 := Lib.hid (HS.out.below (below_set (j := 1) (v := .int .i64 node) (below_set (j := 0) (v := .string name) hb4 hl_) hl_)); have HB5 := Lib.hid (blk_put (cs' := #[.string name, .int .i64 node]) (blk_put (cs' := #[.string name, .int .i64 0]) hbox 0 (.string name) rfl) 1 (.int .i64 node) rfl); have hcz_0 : w4.cell? ⟨gb, 0, none⟩ = some (.string (⟨#[]⟩ : ByteArray)) := (blk_cell hbox 0).trans rfl; have hcz_1 : w4.cell? ⟨gb, 1, none⟩ = some (.int .i64 0) := (blk_cell hbox 1).trans rfl; have hfz_0 := blk_frozen hbox 0; have hfz_1 := blk_frozen hbox 1; clear hbox hb4 hg hl_))
     (try simp only [Act.put, List.setIfInBounds_toArray, List.set_cons_zero, List.set_cons_succ])
     generalize (w4.setCell ⟨gb, 0, none⟩ (Value.string name)).setCell ⟨gb, 1, none⟩ (Value.int .i64 node) = w5 at HST5 HB5 ⊢
     clear hcz_0 hcz_1 hfz_0 hfz_1
     as_aux_lemma =>
      have k0 : w5.cell? ⟨gb, 0, none⟩ = some (.string name) := (blk_cell HB5.out 0).trans rfl
      have k1 : w5.cell? ⟨gb, 1, none⟩ = some (.int .i64 node) := (blk_cell HB5.out 1).trans rfl
      refine start_ (n := 8) (S := fun w' => w'.cell? ⟨gb, 0, none⟩ = some (.string name) ∧ w'.cell? ⟨gb, 1, none⟩ = some (.int .i64 node)) (ds := [7]) #[false, false, false, false, false, false, false, false] (by kernel_rfl) rfl rfl ⟨k0, k1⟩ (fun hHeld => ?_)
      have HST6 := Lib.hid (HST5.out.below ((Below.refl _ w5).drew))
      generalize World.drew _ = w6 at HST6 hHeld ⊢
      refine pure_ (i := 0) (N := some 61) (v := ?_) (a' := ?_) #[true, false, false, false, false, false, false, false] rfl rfl (by kernel_rfl) (fun _ _ _ h => h) (Or.inl ⟨by rfl, ?_⟩) ?_ ?_
      rotate_left
      ·
       intro w'
       go_simp
       with_reducible rfl
      rotate_left
      ·
       simp only [Act.put, List.setIfInBounds_toArray, List.set_cons_zero, List.set_cons_succ, i64_w, i32_w]
       rfl
      refine pure_ (i := 1) (N := some 62) (v := ?_) (a' := ?_) #[true, true, false, false, false, false, false, false] rfl rfl (by kernel_rfl) (fun _ _ _ h => h) (Or.inl ⟨by rfl, ?_⟩) ?_ ?_
      rotate_left
      ·
       intro w'
       go_simp
       with_reducible rfl
      rotate_left
      ·
       simp only [Act.put, List.setIfInBounds_toArray, List.set_cons_zero, List.set_cons_succ, i64_w, i32_w]
       rfl
      refine pure_ (i := 3) (N := some 64) (v := ?_) (a' := ?_) #[true, true, false, true, false, false, false, false] rfl rfl (by kernel_rfl) (fun _ _ _ h => h) (Or.inl ⟨by rfl, ?_⟩) ?_ ?_
      rotate_left
      ·
       intro w'
       go_simp
       with_reducible rfl
      rotate_left
      ·
       simp only [Act.put, List.setIfInBounds_toArray, List.set_cons_zero, List.set_cons_succ, i64_w, i32_w]
       rfl
      refine pure_ (i := 4) (N := some 65) (v := ?_) (a' := ?_) #[true, true, false, true, true, false, false, false] rfl rfl (by kernel_rfl) (fun _ _ _ h => h) (Or.inl ⟨by rfl, ?_⟩) ?_ ?_
      rotate_left
      ·
       intro w'
       go_simp
       with_reducible rfl
      rotate_left
      ·
       simp only [Act.put, List.setIfInBounds_toArray, List.set_cons_zero, List.set_cons_succ, i64_w, i32_w]
       rfl
      refine take_ (i := 2) (N := some 63) (v := ?_) (a' := ?_) #[true, true, true, true, true, false, false, false] rfl rfl (by kernel_rfl) (fun _ _ _ h => h) (Or.inl ⟨by rfl, ?_⟩) hHeld ?_ ?_
      rotate_left
      ·
       rintro w' ⟨s0, s1⟩
       go_simp
       with_reducible rfl
      rotate_left
      ·
       simp only [Act.put, List.setIfInBounds_toArray, List.set_cons_zero, List.set_cons_succ, i64_w, i32_w]
       rfl
      refine take_ (i := 5) (N := some 66) (v := ?_) (a' := ?_) #[true, true, true, true, true, true, false, false] rfl rfl (by kernel_rfl) (fun _ _ _ h => h) (Or.inl ⟨by rfl, ?_⟩) hHeld ?_ ?_
      rotate_left
      ·
       rintro w' ⟨s0, s1⟩
       go_simp
       with_reducible rfl
      rotate_left
      ·
       simp only [Act.put, List.setIfInBounds_toArray, List.set_cons_zero, List.set_cons_succ, i64_w, i32_w]
       rfl
      refine one_ (i := 6) (N := some 67) #[true, true, true, true, true, true, true, false] rfl rfl (by kernel_rfl) (by decide) (fun K' hK => ?_)
      refine goes_ Tryd.func53 (by kernel_rfl) rfl #[.string (asB p), .string name] (by rfl) rfl rfl (by first | rfl | (simp [Act.eval]; done) | (simp [Act.eval, Act.put]; done)) ?_
      refine (path_Join.calls _ _ _ _ HJN.out).mono ?_
      rintro e w7 ⟨rfl, hD⟩
      have hb7 : Below w6.heap.size w6 w7 := by { obtain ⟨n, rfl⟩ := hD; first | exact pw_below_drewN (Below.refl _ _) n | exact pw_below_drewN (Below.refl _ _) | (apply pw_below_drewN; exact Below.refl _ _) }
      have HST7 := Lib.hid (HST6.out.below hb7)
      have hS7 : w7.cell? ⟨gb, 0, none⟩ = some (.string name) ∧ w7.cell? ⟨gb, 1, none⟩ = some (.int .i64 node) := by obtain ⟨n, rfl⟩ := hD; exact hHeld
      clear hD hb7
      refine ⟨_, rfl, ?_⟩
      refine hK.out _ _ hS7 (fun hHeld => ?_)
      clear hK K'
      refine norm_ (a' := ?_) ?_ ?_
      rotate_left
      ·
       show Act.put _ (some 67) _ = _
       simp only [Act.put, List.setIfInBounds_toArray, List.set_cons_zero, List.set_cons_succ, i64_w, i32_w]
       rfl
      refine last_ (i := 7) (N := some 68) #[true, true, true, true, true, true, true, true] rfl rfl (by kernel_rfl) (by decide) (fun K' hK => ?_)
      refine goes_ Tryd.func82 (by kernel_rfl) rfl #[.pointer (some ⟨gw, 0, none⟩), .int .i64 node, .string (asB (joinP p name.data.toList))] (by rfl) rfl rfl (by first | rfl | (simp [Act.eval]; done) | (simp [Act.eval, Act.put]; done)) ?_
      refine (HCALL.out w7 HST7.out).mono ?_
      rintro e w8 ⟨rfl, v8, hst8⟩
      have HST8 := Lib.hid hst8
      clear hst8
      refine ⟨_, rfl, ?_⟩
      refine hK.out _ _ ?_
      clear hK K'
      refine done_ (by kernel_rfl) ?_
      as_aux_lemma =>
       go_wp2
       go_roundw
       case rel =>
        obtain ⟨t2, ht2⟩ := way_grows l F acc' node (joinP p name.data.toList)
        have hwp := way_map l F acc' node (joinP p name.data.toList)
        have hpr := TG.way_props (ids := idsL l) (ents := tgts l) F (acc'.map (·.1)) node HG.out.1 HG.out.2.1
        rw [← hwp] at hpr
        have hln : acc.length + 1 ≤ (wayP l F acc' node (joinP p name.data.toList)).length := by rw [ht2, List.length_append]; exact Nat.le_trans HG.out.2.2 (Nat.le_add_right _ _)
        exact ⟨i + 1, wayP l F acc' node (joinP p name.data.toList), v8, HLT.out, by rw [HWR.out], HNX, Lib.hid ⟨hpr.1, hpr.2.1, hln⟩, Lib.hid HST8.out⟩
       case measure => exact meas_ _ _ HWR.out HLT.out
    ·
     as_aux_lemma =>
     have hie : i = x.f6.length := by omega
     subst hie
     rw [List.take_length] at HA
     have HE := Lib.hid (HA.out.trans HW.out.symm)
     clear hlt hi
     go_wp2
     refine bodyPost_end (results_none rfl _ _ _) rfl ?_
     exact ⟨rfl, v', by rw [← HE.out]; exact HS.out⟩
end Go.Proofs.YtnpnablnnfekkaaDoor.PTr
set_option linter.unusedVariables false
namespace Go.Proofs.YtnpnablnnfekkaaDoor.PTr
open Go.RowKit Go.Proofs.YtnpnablnnfekkaaDoor Go.Proofs.YtnpnablnnfekkaaDoorW.PrintWords
def tree_Check.f (l : List Nod) (a1 a2 a3 : Int) : Option Int := if (decide (512 < l.length) || l.all (fun x => decide (x.f6.length ≤ 1000000000000))) = true then some (chk l a1) else none
theorem tree_Check.calls (A : Option Addr) (c : Nat) (l : List Nod) (a1 a2 a3 r : Int) (w : World) (hr : Kd.C k44 w A l.length l) (hc : l.length ≤ c) (h : tree_Check.f l a1 a2 a3 = some r) :
  Calls Tryd.prog 17 #[.agg #[.slice A l.length c, .int .i64 a1, .int .i64 a2, .int .i64 a3]] w fun e w' => e = .returned (.int .i64 r) ∧ Below w.heap.size w w' := by
 unfold tree_Check.f at h
 split at h
 ·
  rename_i hs
  cases h
  exact check_any l A c a1 a2 a3 w hr hc (fun h1 x hx => by
   rw [Bool.or_eq_true, decide_eq_true_eq, List.all_eq_true] at hs
   rcases hs with h2 | h2
   ·
    omega
   ·
    exact of_decide_eq_true (h2 x hx))
 ·
  cases h
end Go.Proofs.YtnpnablnnfekkaaDoor.PTr
set_option linter.unusedVariables false
set_option linter.unusedSimpArgs false
namespace Go.Proofs.YtnpnablnnfekkaaDoor.PTr
open Go.RowKit Go.Proofs.YtnpnablnnfekkaaDoor Go.Proofs.YtnpnablnnfekkaaDoorW.PrintWords Go.Proofs.YtnpnablnnfekkaaDoorW.PrintLast Go.Proofs.YtnpnablnnfekkaaDoorW.PrintMore
/-- the nodes as they are met, with the first path to each -/
def wid (l : List Nod) (a1 : Int) : List (Int × List UInt8) := if chk l a1 = 0 then wayP l (l.length + 1) [] 1 [47] else []
theorem chk_facts {l : List Nod} {a1 : Int} (h : chk l a1 = 0) : headOK l = true ∧ nodesOK l a1 = true ∧ l.length ≤ 512 ∧ Rises l ∧ (∀ x ∈ l, ∀ e ∈ x.f6, e.f1 ∈ idsL l) ∧ (∀ x ∈ l, ∀ e ∈ x.f6, e.f0.size ≤ 64) ∧ (1 : Int) ∈ idsL l := by
 have hc := h
 rw [← chk_same] at hc
 unfold chkR at hc
 by_cases hh : headOK l = true
 ·
  rw [if_pos hh] at hc
  by_cases hn : nodesOK l a1 = true ∧ ((List.range l.length).all (tgOK l)) = true
  ·
   obtain ⟨h0, hl, _, _⟩ := head_facts hh
   obtain ⟨_, h1, _⟩ := one_in hh
   refine ⟨hh, hn.1, hl, rises_of hn.1, fun x hx e he => ?_, names64 hn.1, mem_ids.2 ⟨l[0], List.getElem_mem h0, h1⟩⟩
   obtain ⟨i, hi, rfl⟩ := List.getElem_of_mem hx
   have := List.all_eq_true.1 hn.2 i (List.mem_range.2 hi)
   unfold tgOK at this
   rw [rdN l i hi, List.all_eq_true] at this
   exact of_decide_eq_true (this e he)
  ·
   rw [if_neg hn] at hc; cases hc
 ·
  rw [if_neg hh] at hc; cases hc
theorem chk_two (l : List Nod) (a1 : Int) : chk l a1 = 0 ∨ chk l a1 = 80 := by
 unfold chk
 split
 ·
  split
  ·
   exact reach_two l
  ·
   exact .inr rfl
 ·
  exact .inr rfl
def eOK (l : List Nod) : Prop := l.length ≤ 512 → ∀ x ∈ l, x.f6.length ≤ 1000000000000
theorem check_f {l : List Nod} (h : eOK l) (a1 a2 a3 : Int) : tree_Check.f l a1 a2 a3 = some (chk l a1) := by
 unfold tree_Check.f
 rw [if_pos]
 rw [Bool.or_eq_true, decide_eq_true_eq, List.all_eq_true]
 by_cases hl : 512 < l.length
 ·
  exact .inl hl
 ·
  exact .inr fun x hx => decide_eq_true (h (by omega) x hx)
set_option maxHeartbeats 8000000 in
set_option maxRecDepth 100000 in
theorem walked_any (l : List Nod) (A : Option Addr) (c : Nat) (a1 a2 a3 : Int) (w : World) (hr0 : Kd.C k44 w A l.length l) (hc00 : l.length ≤ c) (hE : eOK l) :
  Calls Tryd.prog 64 #[.agg #[.slice A l.length c, .int .i64 a1, .int .i64 a2, .int .i64 a3]] w fun e w' => ∃ gw gm v, e = .returned (.pointer (some ⟨gw, 0, none⟩)) ∧ WSt w w' gw gm (.slice A l.length c) a1 a2 a3 ((wid l a1).map (·.1)) ((wid l a1).map toP) v := by
 have hu81 := Tryd.underlying81
 have hmm := @run_makeMap Tryd.prog
 have HR0 := Lib.hid hr0
 have HC0 := Lib.hid hc00
 have HCK := Lib.hid (check_f hE a1 a2 a3)
 have HEE := Lib.hid hE
 clear hr0 hc00 hE
 go_enter Tryd.func64, Tryd.ntmps64
 go_upto_region 2 with (first | ((with_reducible refine gate_dst (N := 1) rfl ?_); (try (refine gate_guard (by rfl) ?_; dsimp only)); refine box_event ?hg (N := 1) ?hd (cs := #[.slice A l.length c, .int .i64 a1, .int .i64 a2, .int .i64 a3]) (t := 26) ?hr ?_; (case hd => rfl); (case hg => rfl); (case hr => first | (go_simp; done) | (go_simp; rfl)); intro g1 hg1 w1 hbox hb1; have HX1 := Lib.hid hbox; have HB1 := Lib.hid (below_step (Below.refl w.heap.size w) hb1); have hz0 : w1.cell? ⟨g1, 0, none⟩ = some (.slice A l.length c) := (blk_cell hbox 0).trans rfl; have hz1 : w1.cell? ⟨g1, 1, none⟩ = some (.int .i64 a1) := (blk_cell hbox 1).trans rfl; have hz2 : w1.cell? ⟨g1, 2, none⟩ = some (.int .i64 a2) := (blk_cell hbox 2).trans rfl; have hz3 : w1.cell? ⟨g1, 3, none⟩ = some (.int .i64 a3) := (blk_cell hbox 3).trans rfl; clear hbox hb1 hg1) | ((with_reducible refine gate_dst (N := 7) rfl ?_); (try (refine gate_guard (by rfl) ?_; dsimp only)); refine box_event ?hg (N := 7) ?hd (cs := #[.slice A l.length c, .int .i64 a1, .int .i64 a2, .int .i64 a3, .slice none 0 0, .map (some w1.heap.size)]) (t := 83) ?hr ?_; (case hd => rfl); (case hg => rfl); (case hr => first | (go_simp; done) | (go_simp; rfl)); intro gw hgw w2 hbox2 hb2; have HST := Lib.hid (WSt.mk (w0 := w) (below_step (below_alloc HB1.out _) hb2) hbox2 (by rw [hgw]; exact below_size (below_alloc HB1.out _)) (below_size HB1.out) (Kd.Q_nil (Kd.int .i64) 3 w2 w.heap.size (fun _ => True)) ((MapA.made w1 KI KS).below hb2)); have HX2 := Lib.hid (blk_below (blk_alloc HX1.out (.map #[] 0)) hb2); clear hbox2 hb2 hgw))
 (try simp only [Act.put, List.setIfInBounds_toArray, List.set_cons_zero, List.set_cons_succ])
 generalize w1.heap.size = gm at HST ⊢
 have hy0 : w2.cell? ⟨g1, 0, none⟩ = some (.slice A l.length c) := (blk_cell HX2.out 0).trans rfl
 have hy1 : w2.cell? ⟨g1, 1, none⟩ = some (.int .i64 a1) := (blk_cell HX2.out 1).trans rfl
 have hy2 : w2.cell? ⟨g1, 2, none⟩ = some (.int .i64 a2) := (blk_cell HX2.out 2).trans rfl
 have hy3 : w2.cell? ⟨g1, 3, none⟩ = some (.int .i64 a3) := (blk_cell HX2.out 3).trans rfl
 clear hz0 hz1 hz2 hz3
 by_cases h0 : chk l a1 = 0
 ·
  have h0b : (chk l a1 == 0) = true := beq_iff_eq.mpr h0
  obtain ⟨_, _, hl, hr, hcl, hN, h1⟩ := chk_facts h0
  have HW := Lib.hid (show wid l a1 = wayP l (l.length + 1) [] 1 [47] by unfold wid; rw [if_pos h0])
  have hb : ∀ x ∈ l, x.f6.length ≤ 140737488351232 := fun x hx => by have := HEE.out hl x hx; omega
  have HCALL : Hid (∀ w3, WSt w w3 gw gm (.slice A l.length c) a1 a2 a3 [] [] (.slice none 0 0) → Calls Tryd.prog 82 #[.pointer (some ⟨gw, 0, none⟩), .int .i64 1, .string ⟨#[47]⟩] w3 fun e w' => e = .returned (.tuple #[]) ∧ ∃ v', WSt w w' gw gm (.slice A l.length c) a1 a2 a3 ((wid l a1).map (·.1)) ((wid l a1).map toP) v') :=
   Lib.hid (fun w3 h3 => by
    rw [HW.out]
    exact walk_any l A c a1 a2 a3 w HR0.out HC0.out hl hr hcl hb hN gw gm (l.length + 1) [] 1 [47] (.slice none 0 0) w3 List.nodup_nil (fun x hx => by cases hx) h1 (by simp) (by simp) h3)
  clear hl hr hcl hN h1 hb h0
  go_wp2_with (first | (go_at_call 17; (with_reducible refine (tree_Check.calls _ _ l a1 a2 a3 (chk l a1) _ (Kd.C_below HR0.out HST.out.hb) HC0.out HCK.out).mono ?_); rintro e w3 ⟨rfl, hb3⟩; have HST3 := Lib.hid (HST.out.below hb3); clear hb3) | (go_at_call 82; (with_reducible refine (HCALL.out _ HST3.out).mono ?_); rintro e w4 ⟨rfl, v4, hst4⟩; have HST4 := Lib.hid hst4; clear hst4))
  go_ret
  exact ⟨gw, gm, v4, rfl, HST4.out⟩
 ·
  have h0b : (chk l a1 == 0) = false := beq_eq_false_iff_ne.mpr h0
  have HW := Lib.hid (show wid l a1 = [] by unfold wid; rw [if_neg h0])
  clear h0
  go_wp2_with (go_at_call 17; (with_reducible refine (tree_Check.calls _ _ l a1 a2 a3 (chk l a1) _ (Kd.C_below HR0.out HST.out.hb) HC0.out HCK.out).mono ?_); rintro e w3 ⟨rfl, hb3⟩; have HST3 := Lib.hid (HST.out.below hb3); clear hb3)
  go_ret
  exact ⟨gw, gm, _, rfl, by rw [HW.out]; exact HST3.out⟩
end Go.Proofs.YtnpnablnnfekkaaDoor.PTr
set_option linter.unusedVariables false
set_option linter.unusedSimpArgs false
namespace Go.Proofs.YtnpnablnnfekkaaDoor.PTr
open Go.RowKit Go.Proofs.YtnpnablnnfekkaaDoor Go.Proofs.YtnpnablnnfekkaaDoorW.PrintWords Go.Proofs.YtnpnablnnfekkaaDoorW.PrintLast Go.Proofs.YtnpnablnnfekkaaDoorW.PrintMore
def eB (l : List Nod) : Bool := decide (512 < l.length) || l.all (fun x => decide (x.f6.length ≤ 1000000000000))
theorem eB_ok {l : List Nod} (h : eB l = true) : eOK l := by
 intro h1 x hx
 unfold eB at h
 rw [Bool.or_eq_true, decide_eq_true_eq, List.all_eq_true] at h
 rcases h with h2 | h2
 ·
  omega
 ·
  exact of_decide_eq_true (h2 x hx)
theorem eB_of {l : List Nod} (h : eOK l) : eB l = true := by
 unfold eB
 rw [Bool.or_eq_true, decide_eq_true_eq, List.all_eq_true]
 by_cases hl : 512 < l.length
 ·
  exact .inl hl
 ·
  exact .inr fun x hx => decide_eq_true (h (by omega) x hx)
def tree_Path.f (l : List Nod) (a1 a2 a3 id : Int) : Option (ByteArray × Bool) := if eB l = true then some ((getA ((wid l a1).map toP) id).getD ⟨#[]⟩, (getA ((wid l a1).map toP) id).isSome) else none
set_option maxHeartbeats 8000000 in
set_option maxRecDepth 100000 in
theorem tree_Path.calls (A : Option Addr) (c : Nat) (l : List Nod) (a1 a2 a3 id : Int) (r1 : ByteArray) (r2 : Bool) (w : World) (hr0 : Kd.C k44 w A l.length l) (hc00 : l.length ≤ c) (h : tree_Path.f l a1 a2 a3 id = some (r1, r2)) :
  Calls Tryd.prog 22 #[.agg #[.slice A l.length c, .int .i64 a1, .int .i64 a2, .int .i64 a3], .int .i64 id] w fun e w' => e = .returned (.tuple #[.string r1, .bool r2]) ∧ Below w.heap.size w w' := by
 unfold tree_Path.f at h
 split at h
 ·
  rename_i hE
  cases h
  have HR0 := Lib.hid hr0
  have HC0 := Lib.hid hc00
  have HEE := Lib.hid (eB_ok hE)
  have hu81 := Tryd.underlying81
  clear hr0 hc00 hE
  go_enter Tryd.func22, Tryd.ntmps22
  go_wp2_with (first | ((with_reducible refine gate_dst (N := 2) rfl ?_); (try (refine gate_guard (by rfl) ?_; dsimp only)); refine box_event ?hg (N := 2) ?hd (cs := #[.slice A l.length c, .int .i64 a1, .int .i64 a2, .int .i64 a3]) (t := 26) ?hr ?_; (case hd => rfl); (case hg => rfl); (case hr => first | (go_simp; done) | (go_simp; rfl)); intro g1 hg1 w1 hbox hb1; have HX1 := Lib.hid hbox; have HB1 := Lib.hid (below_step (Below.refl w.heap.size w) hb1); have hz0 : w1.cell? ⟨g1, 0, none⟩ = some (.slice A l.length c) := (blk_cell hbox 0).trans rfl; have hz1 : w1.cell? ⟨g1, 1, none⟩ = some (.int .i64 a1) := (blk_cell hbox 1).trans rfl; have hz2 : w1.cell? ⟨g1, 2, none⟩ = some (.int .i64 a2) := (blk_cell hbox 2).trans rfl; have hz3 : w1.cell? ⟨g1, 3, none⟩ = some (.int .i64 a3) := (blk_cell hbox 3).trans rfl; clear hbox hb1 hg1) | (go_at_call 64; (with_reducible refine (walked_any l A c a1 a2 a3 _ (Kd.C_below HR0.out HB1.out) HC0.out HEE.out).mono ?_); rintro e w3 ⟨gw, gm, v, rfl, hst⟩; have HST := Lib.hid hst; have hc5 : w3.cell? ⟨gw, 5, none⟩ = some (.map (some gm)) := (blk_cell hst.bk 5).trans rfl; have hlk := lookS hst.mp Tryd.underlying81 zeroS id; clear hst))
  go_ret2
  exact ⟨rfl, below_step HB1.out HST.out.hb⟩
 ·
  cases h
end Go.Proofs.YtnpnablnnfekkaaDoor.PTr
set_option linter.unusedVariables false
set_option linter.unusedSimpArgs false
namespace Go.Proofs.YtnpnablnnfekkaaDoor.PTr
open Go.RowKit Go.Proofs.YtnpnablnnfekkaaDoor Go.Proofs.YtnpnablnnfekkaaDoorW.PrintWords
/-- the new numbers, by the old -/
def toMn (ids : List Int) : Nat → MapD
 | 0 => []
 | n + 1 => putA (toMn ids n) (rd ids (n : Int)) (wrap64 ((n : Int) + 1))
/-- an entry, its node's number anew -/
def entN (ids : List Int) (e : Ent) : Ent := ⟨e.f0, gI (toMn ids ids.length) e.f1⟩
def nodN (l : List Nod) (ids : List Int) (i : Nat) : Nod := match nodeL l (rd ids (i : Int)) with
 | some x => ⟨wrap64 ((i : Int) + 1), x.f1, x.f2, x.f3, x.f4, x.f5, x.f6.map (entN ids)⟩
 | none => z44
def canN (l : List Nod) (ids : List Int) : List Nod := (List.range ids.length).map (nodN l ids)
def canM (l : List Nod) (a1 a2 a3 : Int) : List Nod × Int × Int × Int × Int :=
 if ((wid l a1).map (·.1)).length = 0 then ([], 0, 0, 0, 80) else (canN l ((wid l a1).map (·.1)), (((wid l a1).map (·.1)).length : Int), a2, a3, 0)
theorem rd_int (ids : List Int) (i : Nat) (h : i < ids.length) : rd ids (i : Int) = ids[i] := by
 unfold rd
 rw [Int.toNat_natCast, List.getD_eq_getElem?_getD, List.getElem?_eq_getElem h]; rfl
theorem wid_props (l : List Nod) (a1 : Int) : ((wid l a1).map (·.1)).Nodup ∧ (∀ x ∈ (wid l a1).map (·.1), x ∈ idsL l) ∧ ((wid l a1).map (·.1)).length ≤ 512 := by
 unfold wid
 split
 ·
  rename_i h0
  obtain ⟨_, _, hl, _⟩ := chk_facts h0
  have hp := TG.way_props (ids := idsL l) (ents := tgts l) (l.length + 1) [] 1 List.nodup_nil (fun x hx => by cases hx)
  have hw := way_map l (l.length + 1) [] 1 [47]
  rw [List.map_nil] at hw
  rw [hw]
  refine ⟨hp.1, hp.2.1, Nat.le_trans (TG.len_le _ _ hp.1 hp.2.1) ?_⟩
  unfold idsL; rw [List.length_map]; exact hl
 ·
  simp
theorem nd_inj {l : List Int} (hn : l.Nodup) {i j : Nat} (hi : i < l.length) (hj : j < l.length) (e : l[i] = l[j]) : i = j := by
 rcases Nat.lt_trichotomy i j with h | h | h
 ·
  exact absurd e (List.pairwise_iff_getElem.1 hn i j hi hj h)
 ·
  exact h
 ·
  exact absurd e.symm (List.pairwise_iff_getElem.1 hn j i hj hi h)
theorem toMn_get (ids : List Int) (hn : ids.Nodup) (hl : ids.length ≤ 512) : ∀ (n : Nat), n ≤ ids.length → ∀ (j : Nat) (h : j < ids.length), j < n → gI (toMn ids n) ids[j] = ((j + 1 : Nat) : Int) := by
 intro n
 induction n with
 | zero => intro _ j _ h; omega
 | succ n ih =>
  intro hle j hj hjn
  have hw : wrap64 ((n : Int) + 1) = ((n + 1 : Nat) : Int) := by unfold wrap64; omega
  unfold toMn gI
  rw [rd_int ids n (by omega), getA_put, hw]
  by_cases e : j = n
  ·
   subst e; rw [if_pos rfl]; rfl
  ·
   rw [if_neg (fun h => e (nd_inj hn hj (by omega) h.symm))]
   exact ih (by omega) j hj (by omega)
theorem wid_full {l : List Nod} {a1 : Int} (h : chk l a1 = 0) : (wid l a1).length = l.length ∧ (∀ x ∈ idsL l, x ∈ (wid l a1).map (·.1)) ∧ ∃ t, wid l a1 = (1, [47]) :: t := by
 obtain ⟨hh, hn, hl, hr, hcl, _, h1⟩ := chk_facts h
 have hre : reach l = 0 := by
  unfold chk at h
  rw [if_pos hh, if_pos hn] at h; exact h
 have hiff := (refs_iff hh hr).1 ((reach_zero hh hr).1 hre)
 have hw : wid l a1 = wayP l (l.length + 1) [] 1 [47] := by unfold wid; rw [if_pos h]
 have hlen : (wid l a1).length = l.length := by rw [hw]; exact hiff.2.2
 obtain ⟨hnd, hsub, _⟩ := wid_props l a1
 refine ⟨hlen, TG.all_of_len _ _ hnd (rises_nodup hr) hsub ?_, ?_⟩
 ·
  rw [List.length_map, hlen]; unfold idsL; rw [List.length_map]; exact Nat.le_refl _
 ·
  rw [hw]
  unfold wayP
  rw [if_neg (by simp)]
  obtain ⟨x, hx, he⟩ := mem_ids.1 h1
  obtain ⟨t, ht, rfl⟩ := List.getElem_of_mem hx
  have : nodeL l 1 = some l[t] := by rw [← he]; exact nodeL_at hr t ht
  rw [this]
  have fold : ∀ (es : List Ent) (a : List (Int × List UInt8)), ∃ t, es.foldl (fun a e => wayP l l.length a e.f1 (joinP [47] e.f0.data.toList)) a = a ++ t := by
   intro es
   induction es with
   | nil => intro a; exact ⟨[], by simp⟩
   | cons e r ihr =>
    intro a
    obtain ⟨t, ht⟩ := way_grows l l.length a e.f1 (joinP [47] e.f0.data.toList)
    obtain ⟨u, hu⟩ := ihr (wayP l l.length a e.f1 (joinP [47] e.f0.data.toList))
    rw [List.foldl_cons, hu, ht]
    exact ⟨t ++ u, by rw [List.append_assoc]⟩
  obtain ⟨u, hu⟩ := fold l[t].f6 ([] ++ [(1, [47])])
  refine ⟨u, ?_⟩
  simp only []
  rw [hu]; rfl
end Go.Proofs.YtnpnablnnfekkaaDoor.PTr
set_option linter.unusedVariables false
set_option linter.unusedSimpArgs false
namespace Go.Proofs.YtnpnablnnfekkaaDoor.PTr
open Go.RowKit Go.Proofs.YtnpnablnnfekkaaDoorW.PrintWords Go.Proofs.YtnpnablnnfekkaaDoor
def cellsE (l : List S61) : List Value := (l.map fun x => [Value.string x.f0, Value.int .i64 x.f1]).flatten
theorem cellsE_len (l : List S61) : (cellsE l).length = l.length * 2 := by
 induction l with
 | nil => rfl
 | cons x r ih => simp only [cellsE, List.map_cons, List.flatten_cons, List.length_append, List.length_cons, List.length_nil] at ih ⊢; omega
theorem cellsE_at (l : List S61) (j : Nat) (u : Value) (h : (cellsE l)[j]? = some u) : ∃ (k i : Nat) (x : S61), j = k * 2 + i ∧ l[k]? = some x ∧ ([Value.string x.f0, Value.int .i64 x.f1] : List Value)[i]? = some u := by
 induction l generalizing j with
 | nil => simp [cellsE] at h
 | cons x r ih =>
  match j, h with
  | 0, h => exact ⟨0, 0, x, rfl, rfl, by simpa [cellsE] using h⟩
  | 1, h => exact ⟨0, 1, x, rfl, rfl, by simpa [cellsE] using h⟩
  | j + 2, h =>
   have h' : (cellsE r)[j]? = some u := by simpa [cellsE] using h
   obtain ⟨k, i, y, e, hy, hu⟩ := ih j h'
   exact ⟨k + 1, i, y, by omega, by simpa using hy, hu⟩
theorem cellsE_reps (l : List S61) (w : World) (base : Nat) (ok : Nat → Prop) : Reps (k61.M w base ok) 2 l (cellsE l) := by
 induction l with
 | nil => exact Reps.none _ _
 | cons x r ih =>
  obtain ⟨h1, h2⟩ := ih
  refine ⟨by rw [cellsE_len], fun j p hj => ?_⟩
  have e : cellsE (x :: r) = Value.string x.f0 :: Value.int .i64 x.f1 :: cellsE r := rfl
  cases j with
  | zero =>
   simp only [List.getElem?_cons_zero, Option.some.injEq] at hj
   subst hj
   rw [e, Nat.zero_mul, List.drop_zero]
   exact k61_mkM w base ok x
  | succ j =>
   have := h2 j p (by simpa using hj)
   rw [e, show (j + 1) * 2 = j * 2 + 1 + 1 from by omega, List.drop_succ_cons, List.drop_succ_cons]
   exact this
theorem infoEn : (Tryd.prog.info? 61).map (fun i => (i.zero, i.size, i.bytes)) = some (some (.agg #[.string ByteArray.empty, .int .i64 0]), 2, 24) := by kernel_rfl
def api_Entry_65.f (l : List S61) : Option (List S61) := if l.length ≤ 1000000000000 then some l else none
set_option maxHeartbeats 2000000 in
set_option maxRecDepth 100000 in
theorem clone_any (A : Option Addr) (c : Nat) (l : List S61) (w : World) (hr : Kd.C k61 w A l.length l) (hl : l.length ≤ 1000000000000) :
  Calls Tryd.prog 65 #[.slice A l.length c] w fun e w' => ∃ v, e = .returned v ∧ w'.ownsRow w.heap.size 61 2 v l.length (cellsE l) ∧ Below w.heap.size w w' := by
 obtain ⟨i0, hi, hz0, hz1, hz2⟩ := info_parts infoEn
 have hle := cellsE_len l
 have qE : ∀ (w : World) (a : Option Addr) (n c n' c' : Nat), (binOp .eql 42 (.slice a n c) (.slice none n' c')).run Tryd.prog w = .ok (.bool a.isNone) w := fun w a n c n' c' => Lib.run_eql_slice_nil w _ _ a n c n' c' Tryd.underlying42
 cases A with
 | none =>
  have h0 : l = [] := by
   cases l with
   | nil => rfl
   | cons x r => obtain ⟨ad, h, _⟩ := hr.2.2 (by simp); cases h
  subst h0
  go_enter Tryd.func65, Tryd.ntmps65
  go_wp2
  go_ret
  exact ⟨_, rfl, World.ownsRow_nil _ _ _ _, Below.refl _ _⟩
 | some ad =>
  have HA : Hid (∀ j u, (cellsE l)[j]? = some u → w.cell? (ad.add j) = some u) := Lib.hid (fun j u hu => by
   obtain ⟨k, i, x, rfl, hx, hu⟩ := cellsE_at l j u hu
   obtain ⟨ad', e, hc⟩ := hr.2.2 (by have := (List.getElem?_eq_some_iff.1 hx).1; omega)
   cases e
   obtain ⟨cs, _, hK, hcc⟩ := hc k x hx
   rw [k61_open hK] at hcc
   exact hcc i u hu)
  clear hr
  go_enter Tryd.func65, Tryd.ntmps65
  go_wp2_with (at_builtin; refine wpList_append_own _ rfl _ _ 42 rfl w.heap.size 61 i0 _ 2 24 Tryd.underlying42 hi hz0 hz1 hz2 rfl (by decide) _ _ _ rfl (World.ownsRow_made w #[] 0 (Nat.le_refl _) (Nat.zero_le _) (by simp)) ad l.length c (cellsE l) rfl ?qc1 ?qc2 ?qc3 ?qc4 ?qc5 ?qc6 ?_)
  case qc1 => exact hle
  case qc2 =>
   intro j u hj
   exact Lib.cell?_alloc_some _ (HA.out j u hj)
  case qc3 =>
   intro u hu
   obtain ⟨j, hj⟩ := List.mem_iff_getElem?.1 hu
   obtain ⟨k, i, x, _, _, hu⟩ := cellsE_at l j u hj
   match i, hu with
   | 0, hu => simp at hu; subst hu; rfl
   | 1, hu => simp at hu; subst hu; rfl
  case qc4 => unfold maxLen; omega
  case qc5 => omega
  case qc6 => simp
  intro v' w1 hown hgrow hnil
  go_wp2
  go_ret
  refine ⟨v', rfl, by simpa using hown, ?_⟩
  exact ((Below.refl _ w).alloc (Nat.le_refl _) _).grown hgrow (by simp) (by intro k hk; simp [Value.ownBlock] at hk; omega)
theorem api_Entry_65.calls (A : Option Addr) (c : Nat) (l r : List S61) (w : World) (hr : Kd.C k61 w A l.length l) (hc : l.length ≤ c) (h : api_Entry_65.f l = some r) :
  Calls Tryd.prog 65 #[.slice A l.length c] w fun e w' => ∃ v, e = .returned v ∧ Kd.R k61 61 w' w.heap.size (fun _ => True) v r ∧ Below w.heap.size w w' := by
 unfold api_Entry_65.f at h
 split at h
 ·
  cases h
  refine (clone_any A c l w hr (by assumption)).mono ?_
  rintro e w' ⟨v, rfl, ho, hb⟩
  exact ⟨v, rfl, ⟨fun _ _ => trivial, _, ho, cellsE_reps l _ _ _⟩, hb⟩
 ·
  cases h
end Go.Proofs.YtnpnablnnfekkaaDoor.PTr
namespace Go.Proofs.YtnpnablnnfekkaaDoor.PTr
open Go.RowKit Go.Proofs.YtnpnablnnfekkaaDoorW.PrintWords Go.Proofs.YtnpnablnnfekkaaDoorW.PrintLast Go.Proofs.YtnpnablnnfekkaaDoorW.PrintMore
attribute [local go_sem] max2_int min2_int max_two min_two max_three min_three max_four min_four   -- for this text's walks alone
set_option linter.unusedVariables false
set_option linter.unusedSimpArgs false
theorem w64_PTr32 (x : Int) : wrap64 (x % 256) = x % 256 := by unfold wrap64; omega
def tree_Get.f (k : Nat) (l0_0 : List (S44)) (a0_1 : Int) (a0_2 : Int) (a0_3 : Int) (a1 : Int) : Option (Int × Int × Int × Int × Int × ByteArray × (List (S61)) × Bool) := (tree_place.f k l0_0 a0_1 a0_2 a0_3 a1).bind fun bt313 => (if bt313.2 = true then (if 0 ≤ bt313.1 then (if bt313.1 < (l0_0.length : Int) then ((api_Entry_65.f ((rd_T44 l0_0 bt313.1).f6)).bind fun t317 => (some ((rd_T44 l0_0 bt313.1).f0, (rd_T44 l0_0 bt313.1).f1, (rd_T44 l0_0 bt313.1).f2, (rd_T44 l0_0 bt313.1).f3, (rd_T44 l0_0 bt313.1).f4, (rd_T44 l0_0 bt313.1).f5, t317, true))) else (none)) else (none)) else (some (0, 0, 0, 0, 0, (⟨#[]⟩ : ByteArray), ([] : List (S61)), false)))
set_option maxHeartbeats 8000000 in
set_option maxRecDepth 100000 in
theorem tree_Get.calls (k : Nat) (A0_0 : Option Addr) (c0_0 : Nat) (l0_0 : List (S44)) (a0_1 : Int) (a0_2 : Int) (a0_3 : Int) (a1 : Int) (r1 : Int) (r2 : Int) (r3 : Int) (r4 : Int) (r5 : Int) (r6 : ByteArray) (r7 : List (S61)) (r8 : Bool) (w : World) (hr0_0 : Kd.C k44 w A0_0 l0_0.length l0_0) (hc0_0 : l0_0.length ≤ c0_0) (h : tree_Get.f k l0_0 a0_1 a0_2 a0_3 a1 = some (r1, r2, r3, r4, r5, r6, r7, r8)) :
  Calls Tryd.prog 26 #[.agg #[.slice A0_0 l0_0.length c0_0, .int .i64 a0_1, .int .i64 a0_2, .int .i64 a0_3], .int .i64 a1] w fun e w' => ∃ v6_ : Value, e = .returned (.tuple #[.agg #[.int .i64 r1, .int .i64 r2, .int .i64 r3, .int .i64 r4, .int .i64 r5, .string r6, v6_], .bool r8]) ∧ Kd.R k61 61 w' w.heap.size (fun _ => True) v6_ r7 ∧ Below w.heap.size w w' := by
 have hu26 := Tryd.underlying26
 have hu44 := Tryd.underlying44
 have HR0_0 := Aside0.mk hr0_0
 have HC0_0 := Aside0.mk hc0_0
 clear hr0_0 hc0_0
 have HB := Aside0.mk (Below.refl w.heap.size w)
 have H : ((tree_place.f k l0_0 a0_1 a0_2 a0_3 a1).bind fun bt313 => (if bt313.2 = true then (if 0 ≤ bt313.1 then (if bt313.1 < (l0_0.length : Int) then ((api_Entry_65.f ((rd_T44 l0_0 bt313.1).f6)).bind fun t317 => (some ((rd_T44 l0_0 bt313.1).f0, (rd_T44 l0_0 bt313.1).f1, (rd_T44 l0_0 bt313.1).f2, (rd_T44 l0_0 bt313.1).f3, (rd_T44 l0_0 bt313.1).f4, (rd_T44 l0_0 bt313.1).f5, t317, true))) else (none)) else (none)) else (some (0, 0, 0, 0, 0, (⟨#[]⟩ : ByteArray), ([] : List (S61)), false)))) = some (r1, r2, r3, r4, r5, r6, r7, r8) := h
 clear h
 replace H := Option.bind_eq_some_iff.mp H
 obtain ⟨⟨t313, t314⟩, A30, H⟩ := H
 replace H : (if t314 = true then (if 0 ≤ t313 then (if t313 < (l0_0.length : Int) then ((api_Entry_65.f ((rd_T44 l0_0 t313).f6)).bind fun t317 => (some ((rd_T44 l0_0 t313).f0, (rd_T44 l0_0 t313).f1, (rd_T44 l0_0 t313).f2, (rd_T44 l0_0 t313).f3, (rd_T44 l0_0 t313).f4, (rd_T44 l0_0 t313).f5, t317, true))) else (none)) else (none)) else (some (0, 0, 0, 0, 0, (⟨#[]⟩ : ByteArray), ([] : List (S61)), false))) = some (r1, r2, r3, r4, r5, r6, r7, r8) := H
 have A3 := Aside0.mk A30
 clear A30
 by_cases c4 : t314 = true
 ·
  subst c4
  have H1 : (if 0 ≤ t313 then (if t313 < (l0_0.length : Int) then ((api_Entry_65.f ((rd_T44 l0_0 t313).f6)).bind fun t317 => (some ((rd_T44 l0_0 t313).f0, (rd_T44 l0_0 t313).f1, (rd_T44 l0_0 t313).f2, (rd_T44 l0_0 t313).f3, (rd_T44 l0_0 t313).f4, (rd_T44 l0_0 t313).f5, t317, true))) else (none)) else (none)) = some (r1, r2, r3, r4, r5, r6, r7, r8) := by rw [if_pos rfl] at H; exact H
  clear H
  have H := H1
  clear H1
  by_cases c5 : 0 ≤ t313
  ·
   rw [if_pos c5] at H
   have c5b0 : decide (0 ≤ t313) = true := decide_eq_true c5
   clear c5
   by_cases c6 : t313 < (l0_0.length : Int)
   ·
    rw [if_pos c6] at H
    have c6b0 : decide (t313 < (l0_0.length : Int)) = true := decide_eq_true c6
    clear c6
    replace H := Option.bind_eq_some_iff.mp H
    obtain ⟨t317, A70, H⟩ := H
    replace H : (some ((rd_T44 l0_0 t313).f0, (rd_T44 l0_0 t313).f1, (rd_T44 l0_0 t313).f2, (rd_T44 l0_0 t313).f3, (rd_T44 l0_0 t313).f4, (rd_T44 l0_0 t313).f5, t317, true)) = some (r1, r2, r3, r4, r5, r6, r7, r8) := H
    have A7 := Aside0.mk A70
    clear A70
    simp only [Option.some.injEq, Prod.mk.injEq] at H
    obtain ⟨rfl, rfl, rfl, rfl, rfl, rfl, rfl, rfl⟩ := H
    go_enter Tryd.func26, Tryd.ntmps26
    go_wp2_with (first | ((with_reducible refine gate_dst (N := 2) rfl ?_); refine box_event ?hg (N := 2) ?hd (cs := #[.slice A0_0 l0_0.length c0_0, .int .i64 a0_1, .int .i64 a0_2, .int .i64 a0_3]) (t := 26) ?hr ?_; (case hd => rfl); (case hg => rfl); (case hr => first | (go_simp; done) | (go_simp; rfl)); intro gb311 hg w8 hbox hb; have n0_ := Aside0.mk (below_step (by repeat (first | (with_reducible first | exact HB.out | apply below_alloc | apply pw_below_drewN | apply below_drew1) | exact HB.out)) hb); have n1_ := Aside0.mk (hbox); have n2_ := Aside0.mk ((by rw [hg]; exact (below_size (by repeat (first | (with_reducible first | exact HB.out | apply below_alloc | apply pw_below_drewN | apply below_drew1) | exact HB.out))) : w.heap.size ≤ gb311)); have n3_ := Aside0.mk ((by rw [hg]; exact (below_size (by repeat (first | (with_reducible first | exact HB.out | apply below_alloc | apply pw_below_drewN | apply below_drew1) | exact HB.out))) : w.heap.size ≤ gb311)); clear HB; have HB := n0_; have BK311 := n1_; have GW311 := n2_; have GE311 := n3_; clear n0_ n1_ n2_ n3_; clear hb hbox hg) | ((with_reducible refine gate_dst (N := 4) rfl ?_); refine box_event ?hg (N := 4) ?hd (cs := #[.int .i64 0, .int .i64 0, .int .i64 0, .int .i64 0, .int .i64 0, .string (⟨#[]⟩ : ByteArray), .slice none 0 0]) (t := 44) ?hr ?_; (case hd => rfl); (case hg => rfl); (case hr => first | (go_simp; done) | (go_simp; rfl)); intro gb312 hg w9 hbox hb; have n0_ := Aside0.mk (blk_below (g := gb311) (o := .cells #[.slice A0_0 l0_0.length c0_0, .int .i64 a0_1, .int .i64 a0_2, .int .i64 a0_3] 26 (0, 0)) (by (with_reducible repeat (first | refine blk_drewN ?_ _ | refine blk_drew ?_ | refine blk_alloc ?_ _)); exact BK311.out) hb); have n1_ := Aside0.mk (below_step (by repeat (first | (with_reducible first | exact HB.out | apply below_alloc | apply pw_below_drewN | apply below_drew1 | refine below_set ?_ GE311.out) | exact HB.out)) hb); have n2_ := Aside0.mk (hbox); have n3_ := Aside0.mk ((by rw [hg]; exact (below_size (by repeat (first | (with_reducible first | exact HB.out | apply below_alloc | apply pw_below_drewN | apply below_drew1 | refine below_set ?_ GE311.out) | exact HB.out))) : w.heap.size ≤ gb312)); have n4_ := Aside0.mk ((by rw [hg]; exact (below_size (by repeat (first | (with_reducible first | exact HB.out | apply below_alloc | apply pw_below_drewN | apply below_drew1 | refine below_set ?_ GE311.out) | exact HB.out))) : w.heap.size ≤ gb312)); have n5_ := Aside0.mk ((by rw [hg]; exact Nat.ne_of_lt (blk_lt (g := gb311) (o := .cells #[.slice A0_0 l0_0.length c0_0, .int .i64 a0_1, .int .i64 a0_2, .int .i64 a0_3] 26 (0, 0)) (by (with_reducible repeat (first | refine blk_drewN ?_ _ | refine blk_drew ?_ | refine blk_alloc ?_ _)); exact BK311.out)) : gb311 ≠ gb312)); have n6_ := Aside0.mk ((by rw [hg]; exact Nat.ne_of_gt (blk_lt (g := gb311) (o := .cells #[.slice A0_0 l0_0.length c0_0, .int .i64 a0_1, .int .i64 a0_2, .int .i64 a0_3] 26 (0, 0)) (by (with_reducible repeat (first | refine blk_drewN ?_ _ | refine blk_drew ?_ | refine blk_alloc ?_ _)); exact BK311.out)) : gb312 ≠ gb311)); clear BK311; clear HB; have BK311 := n0_; have HB := n1_; have BK312 := n2_; have GW312 := n3_; have GE312 := n4_; have NB311_312 := n5_; have NB312_311 := n6_; clear n0_ n1_ n2_ n3_ n4_ n5_ n6_; clear hb hbox hg; have hnb10 := NB311_312.out; have hnc10 := NB312_311.out; have hcz11_0 : w9.cell? ⟨gb311, 0, none⟩ = some (.slice A0_0 l0_0.length c0_0) := (blk_cell BK311.out 0).trans rfl; have hcz11_1 : w9.cell? ⟨gb311, 1, none⟩ = some (.int .i64 a0_1) := (blk_cell BK311.out 1).trans rfl; have hcz11_2 : w9.cell? ⟨gb311, 2, none⟩ = some (.int .i64 a0_2) := (blk_cell BK311.out 2).trans rfl; have hcz11_3 : w9.cell? ⟨gb311, 3, none⟩ = some (.int .i64 a0_3) := (blk_cell BK311.out 3).trans rfl; have hfz11_0 := blk_frozen BK311.out 0; have hfz11_1 := blk_frozen BK311.out 1; have hfz11_2 := blk_frozen BK311.out 2; have hfz11_3 := blk_frozen BK311.out 3) | ((with_reducible refine gate_callee (f := 59) rfl ?_); refine goesL_ (some 12) rfl rfl Tryd.func59 (by kernel_rfl) rfl #[.agg #[.slice A0_0 l0_0.length c0_0, .int .i64 a0_1, .int .i64 a0_2, .int .i64 a0_3], .int .i64 a1] rfl (by (try simp only [List.map_toArray, List.map_cons, List.map_nil]); first | done | rfl | (simp only [List.length_drop, List.length_take]; rfl)) ?_; (with_reducible refine (tree_place.calls k _ _ l0_0 a0_1 a0_2 a0_3 a1 t313 true _ ?side1 ?side2 A3.out).mono ?_); (case side1 => repeat (first | exact (Kd.C_below HR0_0.out HB.out) | (with_reducible refine Kd.C_alloc ?_ _) | (with_reducible refine Kd.C_drewN ?_ _) | (with_reducible refine Kd.C_drew ?_))); (case side2 => exact HC0_0.out); rintro e w12 ⟨rfl, hb⟩; refine ⟨_, rfl, ?_⟩; have n0_ := Aside0.mk (blk_below (g := gb311) (o := .cells #[.slice A0_0 l0_0.length c0_0, .int .i64 a0_1, .int .i64 a0_2, .int .i64 a0_3] 26 (0, 0)) (by (with_reducible repeat (first | refine blk_drewN ?_ _ | refine blk_drew ?_ | refine blk_alloc ?_ _)); exact BK311.out) hb); have n1_ := Aside0.mk (blk_below (g := gb312) (o := .cells #[.int .i64 0, .int .i64 0, .int .i64 0, .int .i64 0, .int .i64 0, .string (⟨#[]⟩ : ByteArray), .slice none 0 0] 44 (0, 0)) (by (with_reducible repeat (first | refine blk_drewN ?_ _ | refine blk_drew ?_ | refine blk_alloc ?_ _)); exact BK312.out) hb); have n2_ := Aside0.mk (below_step (by repeat (first | (with_reducible first | exact HB.out | apply below_alloc | apply pw_below_drewN | apply below_drew1 | refine below_set ?_ GE311.out | refine below_set ?_ GE312.out) | exact HB.out)) hb); clear BK311; clear BK312; clear HB; have BK311 := n0_; have BK312 := n1_; have HB := n2_; clear n0_ n1_ n2_; (try clear hb); (try clear hb2); (try clear hk); (try clear hi); have hcz13_0 : w12.cell? ⟨gb311, 0, none⟩ = some (.slice A0_0 l0_0.length c0_0) := (blk_cell BK311.out 0).trans rfl; have hcz13_1 : w12.cell? ⟨gb311, 1, none⟩ = some (.int .i64 a0_1) := (blk_cell BK311.out 1).trans rfl; have hcz13_2 : w12.cell? ⟨gb311, 2, none⟩ = some (.int .i64 a0_2) := (blk_cell BK311.out 2).trans rfl; have hcz13_3 : w12.cell? ⟨gb311, 3, none⟩ = some (.int .i64 a0_3) := (blk_cell BK311.out 3).trans rfl; have hfz13_0 := blk_frozen BK311.out 0; have hfz13_1 := blk_frozen BK311.out 1; have hfz13_2 := blk_frozen BK311.out 2; have hfz13_3 := blk_frozen BK311.out 3; have p315 : 0 ≤ (t313 : Int) := of_decide_eq_true (by first | (with_reducible assumption) | assumption); have q315 : t313 < (l0_0.length : Int) := of_decide_eq_true (by first | (with_reducible assumption) | assumption); obtain ⟨ad315, A315_6, c315_6, e315, hx315_0, hx315_1, hx315_2, hx315_3, hx315_4, hx315_5, hx315_6, hl315_6, hi315_6⟩ := at_T44 HR0_0.out t313 p315 q315; cases e315; replace hx315_0 := (HB.out.cell (World.block_lt_of_cell? w _ hx315_0)).trans hx315_0; replace hx315_1 := (HB.out.cell (World.block_lt_of_cell? w _ hx315_1)).trans hx315_1; replace hx315_2 := (HB.out.cell (World.block_lt_of_cell? w _ hx315_2)).trans hx315_2; replace hx315_3 := (HB.out.cell (World.block_lt_of_cell? w _ hx315_3)).trans hx315_3; replace hx315_4 := (HB.out.cell (World.block_lt_of_cell? w _ hx315_4)).trans hx315_4; replace hx315_5 := (HB.out.cell (World.block_lt_of_cell? w _ hx315_5)).trans hx315_5; replace hx315_6 := (HB.out.cell (World.block_lt_of_cell? w _ hx315_6)).trans hx315_6; have HR315_6 := Aside0.mk hi315_6; have HC315_6 := Aside0.mk hl315_6; clear hi315_6 hl315_6; replace p315 := eq_true p315; replace q315 := eq_true q315) | ((with_reducible refine gate_dst (N := 8) rfl ?_); refine box_event ?hg (N := 8) ?hd (cs := #[.int .i64 0, .int .i64 0, .int .i64 0, .int .i64 0, .int .i64 0, .string (⟨#[]⟩ : ByteArray), .slice none 0 0]) (t := 44) ?hr ?_; (case hd => rfl); (case hg => rfl); (case hr => first | (go_simp; done) | (go_simp; rfl)); intro gb316 hg w14 hbox hb; have n0_ := Aside0.mk (blk_below (g := gb311) (o := .cells #[.slice (some ad315) l0_0.length c0_0, .int .i64 a0_1, .int .i64 a0_2, .int .i64 a0_3] 26 (0, 0)) (by (with_reducible repeat (first | refine blk_drewN ?_ _ | refine blk_drew ?_ | refine blk_alloc ?_ _)); exact BK311.out) hb); have n1_ := Aside0.mk (blk_below (g := gb312) (o := .cells #[.int .i64 0, .int .i64 0, .int .i64 0, .int .i64 0, .int .i64 0, .string (⟨#[]⟩ : ByteArray), .slice none 0 0] 44 (0, 0)) (by (with_reducible repeat (first | refine blk_drewN ?_ _ | refine blk_drew ?_ | refine blk_alloc ?_ _)); exact BK312.out) hb); have n2_ := Aside0.mk (below_step (by repeat (first | (with_reducible first | exact HB.out | apply below_alloc | apply pw_below_drewN | apply below_drew1 | refine below_set ?_ GE311.out | refine below_set ?_ GE312.out) | exact HB.out)) hb); have n3_ := Aside0.mk (hbox); have n4_ := Aside0.mk ((by rw [hg]; exact (below_size (by repeat (first | (with_reducible first | exact HB.out | apply below_alloc | apply pw_below_drewN | apply below_drew1 | refine below_set ?_ GE311.out | refine below_set ?_ GE312.out) | exact HB.out))) : w.heap.size ≤ gb316)); have n5_ := Aside0.mk ((by rw [hg]; exact (below_size (by repeat (first | (with_reducible first | exact HB.out | apply below_alloc | apply pw_below_drewN | apply below_drew1 | refine below_set ?_ GE311.out | refine below_set ?_ GE312.out) | exact HB.out))) : w.heap.size ≤ gb316)); have n6_ := Aside0.mk ((by rw [hg]; exact Nat.ne_of_lt (blk_lt (g := gb311) (o := .cells #[.slice (some ad315) l0_0.length c0_0, .int .i64 a0_1, .int .i64 a0_2, .int .i64 a0_3] 26 (0, 0)) (by (with_reducible repeat (first | refine blk_drewN ?_ _ | refine blk_drew ?_ | refine blk_alloc ?_ _)); exact BK311.out)) : gb311 ≠ gb316)); have n7_ := Aside0.mk ((by rw [hg]; exact Nat.ne_of_gt (blk_lt (g := gb311) (o := .cells #[.slice (some ad315) l0_0.length c0_0, .int .i64 a0_1, .int .i64 a0_2, .int .i64 a0_3] 26 (0, 0)) (by (with_reducible repeat (first | refine blk_drewN ?_ _ | refine blk_drew ?_ | refine blk_alloc ?_ _)); exact BK311.out)) : gb316 ≠ gb311)); have n8_ := Aside0.mk ((by rw [hg]; exact Nat.ne_of_lt (blk_lt (g := gb312) (o := .cells #[.int .i64 0, .int .i64 0, .int .i64 0, .int .i64 0, .int .i64 0, .string (⟨#[]⟩ : ByteArray), .slice none 0 0] 44 (0, 0)) (by (with_reducible repeat (first | refine blk_drewN ?_ _ | refine blk_drew ?_ | refine blk_alloc ?_ _)); exact BK312.out)) : gb312 ≠ gb316)); have n9_ := Aside0.mk ((by rw [hg]; exact Nat.ne_of_gt (blk_lt (g := gb312) (o := .cells #[.int .i64 0, .int .i64 0, .int .i64 0, .int .i64 0, .int .i64 0, .string (⟨#[]⟩ : ByteArray), .slice none 0 0] 44 (0, 0)) (by (with_reducible repeat (first | refine blk_drewN ?_ _ | refine blk_drew ?_ | refine blk_alloc ?_ _)); exact BK312.out)) : gb316 ≠ gb312)); clear BK311; clear BK312; clear HB; have BK311 := n0_; have BK312 := n1_; have HB := n2_; have BK316 := n3_; have GW316 := n4_; have GE316 := n5_; have NB311_316 := n6_; have NB316_311 := n7_; have NB312_316 := n8_; have NB316_312 := n9_; clear n0_ n1_ n2_ n3_ n4_ n5_ n6_ n7_ n8_ n9_; clear hb hbox hg; have hnb15 := NB316_311.out; have hnc15 := NB311_316.out; have hnb16 := NB316_312.out; have hnc16 := NB312_316.out; have hcz17_0 : w14.cell? ⟨gb316, 0, none⟩ = some (.int .i64 0) := (blk_cell BK316.out 0).trans rfl; have hcz17_1 : w14.cell? ⟨gb316, 1, none⟩ = some (.int .i64 0) := (blk_cell BK316.out 1).trans rfl; have hcz17_2 : w14.cell? ⟨gb316, 2, none⟩ = some (.int .i64 0) := (blk_cell BK316.out 2).trans rfl; have hcz17_3 : w14.cell? ⟨gb316, 3, none⟩ = some (.int .i64 0) := (blk_cell BK316.out 3).trans rfl; have hcz17_4 : w14.cell? ⟨gb316, 4, none⟩ = some (.int .i64 0) := (blk_cell BK316.out 4).trans rfl; have hcz17_5 : w14.cell? ⟨gb316, 5, none⟩ = some (.string (⟨#[]⟩ : ByteArray)) := (blk_cell BK316.out 5).trans rfl; have hcz17_6 : w14.cell? ⟨gb316, 6, none⟩ = some (.slice none 0 0) := (blk_cell BK316.out 6).trans rfl; have hfz17_0 := blk_frozen BK316.out 0; have hfz17_1 := blk_frozen BK316.out 1; have hfz17_2 := blk_frozen BK316.out 2; have hfz17_3 := blk_frozen BK316.out 3; have hfz17_4 := blk_frozen BK316.out 4; have hfz17_5 := blk_frozen BK316.out 5; have hfz17_6 := blk_frozen BK316.out 6) | ((with_reducible refine gate_callee (f := 65) rfl ?_); refine goesL_ (some 25) rfl rfl Tryd.func65 (by kernel_rfl) rfl #[.slice A315_6 ((rd_T44 l0_0 t313).f6).length c315_6] rfl (by (try simp only [List.map_toArray, List.map_cons, List.map_nil]); first | done | rfl | (simp only [List.length_drop, List.length_take]; rfl)) ?_; (with_reducible refine (api_Entry_65.calls _ _ ((rd_T44 l0_0 t313).f6) t317 _ ?side1 ?side2 A7.out).mono ?_); (case side1 => exact Kd.C_below HR315_6.out (by repeat (first | (with_reducible first | exact HB.out | apply below_alloc | apply pw_below_drewN | apply below_drew1 | refine below_set ?_ GE311.out | refine below_set ?_ GE312.out | refine below_set ?_ GE316.out) | exact HB.out))); (case side2 => exact HC315_6.out); rintro e w18 ⟨v318, rfl, ho0, hb⟩; refine ⟨_, rfl, ?_⟩; have n0_ := Aside0.mk (Kd.R_lower ho0 (below_size (by repeat (first | (with_reducible first | exact HB.out | apply below_alloc | apply pw_below_drewN | apply below_drew1 | refine below_set ?_ GE311.out | refine below_set ?_ GE312.out | refine below_set ?_ GE316.out) | exact HB.out)))); have n1_ := Aside0.mk (blk_below (g := gb311) (o := .cells #[.slice (some ad315) l0_0.length c0_0, .int .i64 a0_1, .int .i64 a0_2, .int .i64 a0_3] 26 (0, 0)) (by (with_reducible repeat (first | refine blk_drewN ?_ _ | refine blk_drew ?_ | refine blk_alloc ?_ _)); refine blk_far ?_ NB311_316.out _; (with_reducible repeat (first | refine blk_drewN ?_ _ | refine blk_drew ?_ | refine blk_alloc ?_ _)); refine blk_far ?_ NB311_316.out _; (with_reducible repeat (first | refine blk_drewN ?_ _ | refine blk_drew ?_ | refine blk_alloc ?_ _)); refine blk_far ?_ NB311_316.out _; (with_reducible repeat (first | refine blk_drewN ?_ _ | refine blk_drew ?_ | refine blk_alloc ?_ _)); refine blk_far ?_ NB311_316.out _; (with_reducible repeat (first | refine blk_drewN ?_ _ | refine blk_drew ?_ | refine blk_alloc ?_ _)); refine blk_far ?_ NB311_316.out _; (with_reducible repeat (first | refine blk_drewN ?_ _ | refine blk_drew ?_ | refine blk_alloc ?_ _)); refine blk_far ?_ NB311_316.out _; (with_reducible repeat (first | refine blk_drewN ?_ _ | refine blk_drew ?_ | refine blk_alloc ?_ _)); refine blk_far ?_ NB311_316.out _; (with_reducible repeat (first | refine blk_drewN ?_ _ | refine blk_drew ?_ | refine blk_alloc ?_ _)); exact BK311.out) hb); have n2_ := Aside0.mk (blk_below (g := gb312) (o := .cells #[.int .i64 0, .int .i64 0, .int .i64 0, .int .i64 0, .int .i64 0, .string (⟨#[]⟩ : ByteArray), .slice none 0 0] 44 (0, 0)) (by (with_reducible repeat (first | refine blk_drewN ?_ _ | refine blk_drew ?_ | refine blk_alloc ?_ _)); refine blk_far ?_ NB312_316.out _; (with_reducible repeat (first | refine blk_drewN ?_ _ | refine blk_drew ?_ | refine blk_alloc ?_ _)); refine blk_far ?_ NB312_316.out _; (with_reducible repeat (first | refine blk_drewN ?_ _ | refine blk_drew ?_ | refine blk_alloc ?_ _)); refine blk_far ?_ NB312_316.out _; (with_reducible repeat (first | refine blk_drewN ?_ _ | refine blk_drew ?_ | refine blk_alloc ?_ _)); refine blk_far ?_ NB312_316.out _; (with_reducible repeat (first | refine blk_drewN ?_ _ | refine blk_drew ?_ | refine blk_alloc ?_ _)); refine blk_far ?_ NB312_316.out _; (with_reducible repeat (first | refine blk_drewN ?_ _ | refine blk_drew ?_ | refine blk_alloc ?_ _)); refine blk_far ?_ NB312_316.out _; (with_reducible repeat (first | refine blk_drewN ?_ _ | refine blk_drew ?_ | refine blk_alloc ?_ _)); refine blk_far ?_ NB312_316.out _; (with_reducible repeat (first | refine blk_drewN ?_ _ | refine blk_drew ?_ | refine blk_alloc ?_ _)); exact BK312.out) hb); have n3_ := Aside0.mk (blk_below (g := gb316) (o := .cells #[.int .i64 ((rd_T44 l0_0 t313).f0), .int .i64 ((rd_T44 l0_0 t313).f1), .int .i64 ((rd_T44 l0_0 t313).f2), .int .i64 ((rd_T44 l0_0 t313).f3), .int .i64 ((rd_T44 l0_0 t313).f4), .string ((rd_T44 l0_0 t313).f5), .slice A315_6 ((rd_T44 l0_0 t313).f6).length c315_6] 44 (0, 0)) (by (with_reducible repeat (first | refine blk_drewN ?_ _ | refine blk_drew ?_ | refine blk_alloc ?_ _)); refine blk_put (cs := #[.int .i64 ((rd_T44 l0_0 t313).f0), .int .i64 ((rd_T44 l0_0 t313).f1), .int .i64 ((rd_T44 l0_0 t313).f2), .int .i64 ((rd_T44 l0_0 t313).f3), .int .i64 ((rd_T44 l0_0 t313).f4), .string ((rd_T44 l0_0 t313).f5), .slice none 0 0]) ?_ 6 _ (by first | rfl | (simp only [w64_PTr32]; rfl) | (simp [w64_PTr32]; done)); (with_reducible repeat (first | refine blk_drewN ?_ _ | refine blk_drew ?_ | refine blk_alloc ?_ _)); refine blk_put (cs := #[.int .i64 ((rd_T44 l0_0 t313).f0), .int .i64 ((rd_T44 l0_0 t313).f1), .int .i64 ((rd_T44 l0_0 t313).f2), .int .i64 ((rd_T44 l0_0 t313).f3), .int .i64 ((rd_T44 l0_0 t313).f4), .string (⟨#[]⟩ : ByteArray), .slice none 0 0]) ?_ 5 _ (by first | rfl | (simp only [w64_PTr32]; rfl) | (simp [w64_PTr32]; done)); (with_reducible repeat (first | refine blk_drewN ?_ _ | refine blk_drew ?_ | refine blk_alloc ?_ _)); refine blk_put (cs := #[.int .i64 ((rd_T44 l0_0 t313).f0), .int .i64 ((rd_T44 l0_0 t313).f1), .int .i64 ((rd_T44 l0_0 t313).f2), .int .i64 ((rd_T44 l0_0 t313).f3), .int .i64 0, .string (⟨#[]⟩ : ByteArray), .slice none 0 0]) ?_ 4 _ (by first | rfl | (simp only [w64_PTr32]; rfl) | (simp [w64_PTr32]; done)); (with_reducible repeat (first | refine blk_drewN ?_ _ | refine blk_drew ?_ | refine blk_alloc ?_ _)); refine blk_put (cs := #[.int .i64 ((rd_T44 l0_0 t313).f0), .int .i64 ((rd_T44 l0_0 t313).f1), .int .i64 ((rd_T44 l0_0 t313).f2), .int .i64 0, .int .i64 0, .string (⟨#[]⟩ : ByteArray), .slice none 0 0]) ?_ 3 _ (by first | rfl | (simp only [w64_PTr32]; rfl) | (simp [w64_PTr32]; done)); (with_reducible repeat (first | refine blk_drewN ?_ _ | refine blk_drew ?_ | refine blk_alloc ?_ _)); refine blk_put (cs := #[.int .i64 ((rd_T44 l0_0 t313).f0), .int .i64 ((rd_T44 l0_0 t313).f1), .int .i64 0, .int .i64 0, .int .i64 0, .string (⟨#[]⟩ : ByteArray), .slice none 0 0]) ?_ 2 _ (by first | rfl | (simp only [w64_PTr32]; rfl) | (simp [w64_PTr32]; done)); (with_reducible repeat (first | refine blk_drewN ?_ _ | refine blk_drew ?_ | refine blk_alloc ?_ _)); refine blk_put (cs := #[.int .i64 ((rd_T44 l0_0 t313).f0), .int .i64 0, .int .i64 0, .int .i64 0, .int .i64 0, .string (⟨#[]⟩ : ByteArray), .slice none 0 0]) ?_ 1 _ (by first | rfl | (simp only [w64_PTr32]; rfl) | (simp [w64_PTr32]; done)); (with_reducible repeat (first | refine blk_drewN ?_ _ | refine blk_drew ?_ | refine blk_alloc ?_ _)); refine blk_put (cs := #[.int .i64 0, .int .i64 0, .int .i64 0, .int .i64 0, .int .i64 0, .string (⟨#[]⟩ : ByteArray), .slice none 0 0]) ?_ 0 _ (by first | rfl | (simp only [w64_PTr32]; rfl) | (simp [w64_PTr32]; done)); (with_reducible repeat (first | refine blk_drewN ?_ _ | refine blk_drew ?_ | refine blk_alloc ?_ _)); exact BK316.out) hb); have n4_ := Aside0.mk (below_step (by repeat (first | (with_reducible first | exact HB.out | apply below_alloc | apply pw_below_drewN | apply below_drew1 | refine below_set ?_ GE311.out | refine below_set ?_ GE312.out | refine below_set ?_ GE316.out) | exact HB.out)) hb); clear BK311; clear BK312; clear BK316; clear HB; have HO319 := n0_; have BK311 := n1_; have BK312 := n2_; have BK316 := n3_; have HB := n4_; clear n0_ n1_ n2_ n3_ n4_; (try clear hb); (try clear hb2); (try clear hk); (try clear hi); (try clear ho0); obtain ⟨Ao19, co19, eo19⟩ := Kd.R_slice HO319.out; subst eo19; have hcz20_0 : w18.cell? ⟨gb316, 0, none⟩ = some (.int .i64 ((rd_T44 l0_0 t313).f0)) := (blk_cell BK316.out 0).trans rfl; have hcz20_1 : w18.cell? ⟨gb316, 1, none⟩ = some (.int .i64 ((rd_T44 l0_0 t313).f1)) := (blk_cell BK316.out 1).trans rfl; have hcz20_2 : w18.cell? ⟨gb316, 2, none⟩ = some (.int .i64 ((rd_T44 l0_0 t313).f2)) := (blk_cell BK316.out 2).trans rfl; have hcz20_3 : w18.cell? ⟨gb316, 3, none⟩ = some (.int .i64 ((rd_T44 l0_0 t313).f3)) := (blk_cell BK316.out 3).trans rfl; have hcz20_4 : w18.cell? ⟨gb316, 4, none⟩ = some (.int .i64 ((rd_T44 l0_0 t313).f4)) := (blk_cell BK316.out 4).trans rfl; have hcz20_5 : w18.cell? ⟨gb316, 5, none⟩ = some (.string ((rd_T44 l0_0 t313).f5)) := (blk_cell BK316.out 5).trans rfl; have hcz20_6 : w18.cell? ⟨gb316, 6, none⟩ = some (.slice A315_6 ((rd_T44 l0_0 t313).f6).length c315_6) := (blk_cell BK316.out 6).trans rfl; have hfz20_0 := blk_frozen BK316.out 0; have hfz20_1 := blk_frozen BK316.out 1; have hfz20_2 := blk_frozen BK316.out 2; have hfz20_3 := blk_frozen BK316.out 3; have hfz20_4 := blk_frozen BK316.out 4; have hfz20_5 := blk_frozen BK316.out 5; have hfz20_6 := blk_frozen BK316.out 6; have hcz21_0 : w18.cell? ⟨gb312, 0, none⟩ = some (.int .i64 0) := (blk_cell BK312.out 0).trans rfl; have hcz21_1 : w18.cell? ⟨gb312, 1, none⟩ = some (.int .i64 0) := (blk_cell BK312.out 1).trans rfl; have hcz21_2 : w18.cell? ⟨gb312, 2, none⟩ = some (.int .i64 0) := (blk_cell BK312.out 2).trans rfl; have hcz21_3 : w18.cell? ⟨gb312, 3, none⟩ = some (.int .i64 0) := (blk_cell BK312.out 3).trans rfl; have hcz21_4 : w18.cell? ⟨gb312, 4, none⟩ = some (.int .i64 0) := (blk_cell BK312.out 4).trans rfl; have hcz21_5 : w18.cell? ⟨gb312, 5, none⟩ = some (.string (⟨#[]⟩ : ByteArray)) := (blk_cell BK312.out 5).trans rfl; have hcz21_6 : w18.cell? ⟨gb312, 6, none⟩ = some (.slice none 0 0) := (blk_cell BK312.out 6).trans rfl; have hfz21_0 := blk_frozen BK312.out 0; have hfz21_1 := blk_frozen BK312.out 1; have hfz21_2 := blk_frozen BK312.out 2; have hfz21_3 := blk_frozen BK312.out 3; have hfz21_4 := blk_frozen BK312.out 4; have hfz21_5 := blk_frozen BK312.out 5; have hfz21_6 := blk_frozen BK312.out 6))
    refine bodyPost_ret (results_ct rfl _ _ gb312 44 #[.int .i64 ((rd_T44 l0_0 t313).f0), .int .i64 ((rd_T44 l0_0 t313).f1), .int .i64 ((rd_T44 l0_0 t313).f2), .int .i64 ((rd_T44 l0_0 t313).f3), .int .i64 ((rd_T44 l0_0 t313).f4), .string ((rd_T44 l0_0 t313).f5), .slice Ao19 t317.length co19] (0, 0) _ rfl (by (with_reducible repeat (first | refine blk_drewN ?_ _ | refine blk_drew ?_ | refine blk_alloc ?_ _)); refine blk_put (cs := #[.int .i64 ((rd_T44 l0_0 t313).f0), .int .i64 ((rd_T44 l0_0 t313).f1), .int .i64 ((rd_T44 l0_0 t313).f2), .int .i64 ((rd_T44 l0_0 t313).f3), .int .i64 ((rd_T44 l0_0 t313).f4), .string ((rd_T44 l0_0 t313).f5), .slice none 0 0]) ?_ 6 _ (by first | rfl | (simp only [w64_PTr32]; rfl) | (simp [w64_PTr32]; done)); (with_reducible repeat (first | refine blk_drewN ?_ _ | refine blk_drew ?_ | refine blk_alloc ?_ _)); refine blk_put (cs := #[.int .i64 ((rd_T44 l0_0 t313).f0), .int .i64 ((rd_T44 l0_0 t313).f1), .int .i64 ((rd_T44 l0_0 t313).f2), .int .i64 ((rd_T44 l0_0 t313).f3), .int .i64 ((rd_T44 l0_0 t313).f4), .string (⟨#[]⟩ : ByteArray), .slice none 0 0]) ?_ 5 _ (by first | rfl | (simp only [w64_PTr32]; rfl) | (simp [w64_PTr32]; done)); (with_reducible repeat (first | refine blk_drewN ?_ _ | refine blk_drew ?_ | refine blk_alloc ?_ _)); refine blk_put (cs := #[.int .i64 ((rd_T44 l0_0 t313).f0), .int .i64 ((rd_T44 l0_0 t313).f1), .int .i64 ((rd_T44 l0_0 t313).f2), .int .i64 ((rd_T44 l0_0 t313).f3), .int .i64 0, .string (⟨#[]⟩ : ByteArray), .slice none 0 0]) ?_ 4 _ (by first | rfl | (simp only [w64_PTr32]; rfl) | (simp [w64_PTr32]; done)); (with_reducible repeat (first | refine blk_drewN ?_ _ | refine blk_drew ?_ | refine blk_alloc ?_ _)); refine blk_put (cs := #[.int .i64 ((rd_T44 l0_0 t313).f0), .int .i64 ((rd_T44 l0_0 t313).f1), .int .i64 ((rd_T44 l0_0 t313).f2), .int .i64 0, .int .i64 0, .string (⟨#[]⟩ : ByteArray), .slice none 0 0]) ?_ 3 _ (by first | rfl | (simp only [w64_PTr32]; rfl) | (simp [w64_PTr32]; done)); (with_reducible repeat (first | refine blk_drewN ?_ _ | refine blk_drew ?_ | refine blk_alloc ?_ _)); refine blk_put (cs := #[.int .i64 ((rd_T44 l0_0 t313).f0), .int .i64 ((rd_T44 l0_0 t313).f1), .int .i64 0, .int .i64 0, .int .i64 0, .string (⟨#[]⟩ : ByteArray), .slice none 0 0]) ?_ 2 _ (by first | rfl | (simp only [w64_PTr32]; rfl) | (simp [w64_PTr32]; done)); (with_reducible repeat (first | refine blk_drewN ?_ _ | refine blk_drew ?_ | refine blk_alloc ?_ _)); refine blk_put (cs := #[.int .i64 ((rd_T44 l0_0 t313).f0), .int .i64 0, .int .i64 0, .int .i64 0, .int .i64 0, .string (⟨#[]⟩ : ByteArray), .slice none 0 0]) ?_ 1 _ (by first | rfl | (simp only [w64_PTr32]; rfl) | (simp [w64_PTr32]; done)); (with_reducible repeat (first | refine blk_drewN ?_ _ | refine blk_drew ?_ | refine blk_alloc ?_ _)); refine blk_put (cs := #[.int .i64 0, .int .i64 0, .int .i64 0, .int .i64 0, .int .i64 0, .string (⟨#[]⟩ : ByteArray), .slice none 0 0]) ?_ 0 _ (by first | rfl | (simp only [w64_PTr32]; rfl) | (simp [w64_PTr32]; done)); (with_reducible repeat (first | refine blk_drewN ?_ _ | refine blk_drew ?_ | refine blk_alloc ?_ _)); refine blk_far ?_ NB312_316.out _; (with_reducible repeat (first | refine blk_drewN ?_ _ | refine blk_drew ?_ | refine blk_alloc ?_ _)); exact BK312.out) Tryd.underlying44 rfl (by kernel_rfl)) rfl ?_
    exact ⟨_, by first | rfl | (simp [errW_none, errW_some] <;> rfl) | (simp [*, errW_none, errW_some] <;> rfl), by (with_reducible repeat (first | apply Kd.R_alloc | apply Kd.R_drewN | apply Kd.R_drew)); exact Kd.R_mono (Kd.R_far (p := ⟨gb312, 6, none⟩) (Kd.R_far (p := ⟨gb312, 5, none⟩) (Kd.R_far (p := ⟨gb312, 4, none⟩) (Kd.R_far (p := ⟨gb312, 3, none⟩) (Kd.R_far (p := ⟨gb312, 2, none⟩) (Kd.R_far (p := ⟨gb312, 1, none⟩) (Kd.R_far (p := ⟨gb312, 0, none⟩) (Kd.R_far (p := ⟨gb316, 6, none⟩) (Kd.R_types (Kd.R_types HO319.out BK316.out (by decide)) BK312.out (by decide)) (fun _ hk => hk.1.2) (.slice Ao19 t317.length co19)) (fun _ hk => hk.2) (.int .i64 ((rd_T44 l0_0 t313).f0))) (fun _ hk => hk.2) (.int .i64 ((rd_T44 l0_0 t313).f1))) (fun _ hk => hk.2) (.int .i64 ((rd_T44 l0_0 t313).f2))) (fun _ hk => hk.2) (.int .i64 ((rd_T44 l0_0 t313).f3))) (fun _ hk => hk.2) (.int .i64 ((rd_T44 l0_0 t313).f4))) (fun _ hk => hk.2) (.string ((rd_T44 l0_0 t313).f5))) (fun _ hk => hk.2) (.slice Ao19 t317.length co19)) (fun _ hk => trivial), by repeat (first | (with_reducible first | exact HB.out | apply below_alloc | apply pw_below_drewN | apply below_drew1 | refine below_set ?_ GE311.out | refine below_set ?_ GE312.out | refine below_set ?_ GE316.out) | exact HB.out)⟩
   ·
    rw [if_neg c6] at H
    exact absurd H (by simp)
  ·
   rw [if_neg c5] at H
   exact absurd H (by simp)
 ·
  replace c4 := Bool.eq_false_iff.mpr c4
  subst c4
  have H1 : (some (0, 0, 0, 0, 0, (⟨#[]⟩ : ByteArray), ([] : List (S61)), false)) = some (r1, r2, r3, r4, r5, r6, r7, r8) := by rw [if_neg (show ¬ (false = true) by decide)] at H; exact H
  clear H
  have H := H1
  clear H1
  simp only [Option.some.injEq, Prod.mk.injEq] at H
  obtain ⟨rfl, rfl, rfl, rfl, rfl, rfl, rfl, rfl⟩ := H
  go_enter Tryd.func26, Tryd.ntmps26
  go_wp2_with (first | ((with_reducible refine gate_dst (N := 2) rfl ?_); refine box_event ?hg (N := 2) ?hd (cs := #[.slice A0_0 l0_0.length c0_0, .int .i64 a0_1, .int .i64 a0_2, .int .i64 a0_3]) (t := 26) ?hr ?_; (case hd => rfl); (case hg => rfl); (case hr => first | (go_simp; done) | (go_simp; rfl)); intro gb311 hg w22 hbox hb; have n0_ := Aside0.mk (below_step (by repeat (first | (with_reducible first | exact HB.out | apply below_alloc | apply pw_below_drewN | apply below_drew1) | exact HB.out)) hb); have n1_ := Aside0.mk (hbox); have n2_ := Aside0.mk ((by rw [hg]; exact (below_size (by repeat (first | (with_reducible first | exact HB.out | apply below_alloc | apply pw_below_drewN | apply below_drew1) | exact HB.out))) : w.heap.size ≤ gb311)); have n3_ := Aside0.mk ((by rw [hg]; exact (below_size (by repeat (first | (with_reducible first | exact HB.out | apply below_alloc | apply pw_below_drewN | apply below_drew1) | exact HB.out))) : w.heap.size ≤ gb311)); clear HB; have HB := n0_; have BK311 := n1_; have GW311 := n2_; have GE311 := n3_; clear n0_ n1_ n2_ n3_; clear hb hbox hg) | ((with_reducible refine gate_dst (N := 4) rfl ?_); refine box_event ?hg (N := 4) ?hd (cs := #[.int .i64 0, .int .i64 0, .int .i64 0, .int .i64 0, .int .i64 0, .string (⟨#[]⟩ : ByteArray), .slice none 0 0]) (t := 44) ?hr ?_; (case hd => rfl); (case hg => rfl); (case hr => first | (go_simp; done) | (go_simp; rfl)); intro gb312 hg w23 hbox hb; have n0_ := Aside0.mk (blk_below (g := gb311) (o := .cells #[.slice A0_0 l0_0.length c0_0, .int .i64 a0_1, .int .i64 a0_2, .int .i64 a0_3] 26 (0, 0)) (by (with_reducible repeat (first | refine blk_drewN ?_ _ | refine blk_drew ?_ | refine blk_alloc ?_ _)); exact BK311.out) hb); have n1_ := Aside0.mk (below_step (by repeat (first | (with_reducible first | exact HB.out | apply below_alloc | apply pw_below_drewN | apply below_drew1 | refine below_set ?_ GE311.out) | exact HB.out)) hb); have n2_ := Aside0.mk (hbox); have n3_ := Aside0.mk ((by rw [hg]; exact (below_size (by repeat (first | (with_reducible first | exact HB.out | apply below_alloc | apply pw_below_drewN | apply below_drew1 | refine below_set ?_ GE311.out) | exact HB.out))) : w.heap.size ≤ gb312)); have n4_ := Aside0.mk ((by rw [hg]; exact (below_size (by repeat (first | (with_reducible first | exact HB.out | apply below_alloc | apply pw_below_drewN | apply below_drew1 | refine below_set ?_ GE311.out) | exact HB.out))) : w.heap.size ≤ gb312)); have n5_ := Aside0.mk ((by rw [hg]; exact Nat.ne_of_lt (blk_lt (g := gb311) (o := .cells #[.slice A0_0 l0_0.length c0_0, .int .i64 a0_1, .int .i64 a0_2, .int .i64 a0_3] 26 (0, 0)) (by (with_reducible repeat (first | refine blk_drewN ?_ _ | refine blk_drew ?_ | refine blk_alloc ?_ _)); exact BK311.out)) : gb311 ≠ gb312)); have n6_ := Aside0.mk ((by rw [hg]; exact Nat.ne_of_gt (blk_lt (g := gb311) (o := .cells #[.slice A0_0 l0_0.length c0_0, .int .i64 a0_1, .int .i64 a0_2, .int .i64 a0_3] 26 (0, 0)) (by (with_reducible repeat (first | refine blk_drewN ?_ _ | refine blk_drew ?_ | refine blk_alloc ?_ _)); exact BK311.out)) : gb312 ≠ gb311)); clear BK311; clear HB; have BK311 := n0_; have HB := n1_; have BK312 := n2_; have GW312 := n3_; have GE312 := n4_; have NB311_312 := n5_; have NB312_311 := n6_; clear n0_ n1_ n2_ n3_ n4_ n5_ n6_; clear hb hbox hg; have hnb24 := NB311_312.out; have hnc24 := NB312_311.out; have hcz25_0 : w23.cell? ⟨gb311, 0, none⟩ = some (.slice A0_0 l0_0.length c0_0) := (blk_cell BK311.out 0).trans rfl; have hcz25_1 : w23.cell? ⟨gb311, 1, none⟩ = some (.int .i64 a0_1) := (blk_cell BK311.out 1).trans rfl; have hcz25_2 : w23.cell? ⟨gb311, 2, none⟩ = some (.int .i64 a0_2) := (blk_cell BK311.out 2).trans rfl; have hcz25_3 : w23.cell? ⟨gb311, 3, none⟩ = some (.int .i64 a0_3) := (blk_cell BK311.out 3).trans rfl; have hfz25_0 := blk_frozen BK311.out 0; have hfz25_1 := blk_frozen BK311.out 1; have hfz25_2 := blk_frozen BK311.out 2; have hfz25_3 := blk_frozen BK311.out 3) | ((with_reducible refine gate_callee (f := 59) rfl ?_); refine goesL_ (some 12) rfl rfl Tryd.func59 (by kernel_rfl) rfl #[.agg #[.slice A0_0 l0_0.length c0_0, .int .i64 a0_1, .int .i64 a0_2, .int .i64 a0_3], .int .i64 a1] rfl (by (try simp only [List.map_toArray, List.map_cons, List.map_nil]); first | done | rfl | (simp only [List.length_drop, List.length_take]; rfl)) ?_; (with_reducible refine (tree_place.calls k _ _ l0_0 a0_1 a0_2 a0_3 a1 t313 false _ ?side1 ?side2 A3.out).mono ?_); (case side1 => repeat (first | exact (Kd.C_below HR0_0.out HB.out) | (with_reducible refine Kd.C_alloc ?_ _) | (with_reducible refine Kd.C_drewN ?_ _) | (with_reducible refine Kd.C_drew ?_))); (case side2 => exact HC0_0.out); rintro e w26 ⟨rfl, hb⟩; refine ⟨_, rfl, ?_⟩; have n0_ := Aside0.mk (blk_below (g := gb311) (o := .cells #[.slice A0_0 l0_0.length c0_0, .int .i64 a0_1, .int .i64 a0_2, .int .i64 a0_3] 26 (0, 0)) (by (with_reducible repeat (first | refine blk_drewN ?_ _ | refine blk_drew ?_ | refine blk_alloc ?_ _)); exact BK311.out) hb); have n1_ := Aside0.mk (blk_below (g := gb312) (o := .cells #[.int .i64 0, .int .i64 0, .int .i64 0, .int .i64 0, .int .i64 0, .string (⟨#[]⟩ : ByteArray), .slice none 0 0] 44 (0, 0)) (by (with_reducible repeat (first | refine blk_drewN ?_ _ | refine blk_drew ?_ | refine blk_alloc ?_ _)); exact BK312.out) hb); have n2_ := Aside0.mk (below_step (by repeat (first | (with_reducible first | exact HB.out | apply below_alloc | apply pw_below_drewN | apply below_drew1 | refine below_set ?_ GE311.out | refine below_set ?_ GE312.out) | exact HB.out)) hb); clear BK311; clear BK312; clear HB; have BK311 := n0_; have BK312 := n1_; have HB := n2_; clear n0_ n1_ n2_; (try clear hb); (try clear hb2); (try clear hk); (try clear hi); have hcz27_0 : w26.cell? ⟨gb312, 0, none⟩ = some (.int .i64 0) := (blk_cell BK312.out 0).trans rfl; have hcz27_1 : w26.cell? ⟨gb312, 1, none⟩ = some (.int .i64 0) := (blk_cell BK312.out 1).trans rfl; have hcz27_2 : w26.cell? ⟨gb312, 2, none⟩ = some (.int .i64 0) := (blk_cell BK312.out 2).trans rfl; have hcz27_3 : w26.cell? ⟨gb312, 3, none⟩ = some (.int .i64 0) := (blk_cell BK312.out 3).trans rfl; have hcz27_4 : w26.cell? ⟨gb312, 4, none⟩ = some (.int .i64 0) := (blk_cell BK312.out 4).trans rfl; have hcz27_5 : w26.cell? ⟨gb312, 5, none⟩ = some (.string (⟨#[]⟩ : ByteArray)) := (blk_cell BK312.out 5).trans rfl; have hcz27_6 : w26.cell? ⟨gb312, 6, none⟩ = some (.slice none 0 0) := (blk_cell BK312.out 6).trans rfl; have hfz27_0 := blk_frozen BK312.out 0; have hfz27_1 := blk_frozen BK312.out 1; have hfz27_2 := blk_frozen BK312.out 2; have hfz27_3 := blk_frozen BK312.out 3; have hfz27_4 := blk_frozen BK312.out 4; have hfz27_5 := blk_frozen BK312.out 5; have hfz27_6 := blk_frozen BK312.out 6))
  refine bodyPost_ret (results_ct rfl _ _ gb312 44 #[.int .i64 0, .int .i64 0, .int .i64 0, .int .i64 0, .int .i64 0, .string (⟨#[]⟩ : ByteArray), .slice none 0 0] (0, 0) _ rfl (by (with_reducible repeat (first | refine blk_drewN ?_ _ | refine blk_drew ?_ | refine blk_alloc ?_ _)); refine blk_put (cs := #[.int .i64 0, .int .i64 0, .int .i64 0, .int .i64 0, .int .i64 0, .string (⟨#[]⟩ : ByteArray), .slice none 0 0]) ?_ 6 _ (by first | rfl | (simp only [w64_PTr32]; rfl) | (simp [w64_PTr32]; done)); (with_reducible repeat (first | refine blk_drewN ?_ _ | refine blk_drew ?_ | refine blk_alloc ?_ _)); refine blk_put (cs := #[.int .i64 0, .int .i64 0, .int .i64 0, .int .i64 0, .int .i64 0, .string (⟨#[]⟩ : ByteArray), .slice none 0 0]) ?_ 5 _ (by first | rfl | (simp only [w64_PTr32]; rfl) | (simp [w64_PTr32]; done)); (with_reducible repeat (first | refine blk_drewN ?_ _ | refine blk_drew ?_ | refine blk_alloc ?_ _)); refine blk_put (cs := #[.int .i64 0, .int .i64 0, .int .i64 0, .int .i64 0, .int .i64 0, .string (⟨#[]⟩ : ByteArray), .slice none 0 0]) ?_ 4 _ (by first | rfl | (simp only [w64_PTr32]; rfl) | (simp [w64_PTr32]; done)); (with_reducible repeat (first | refine blk_drewN ?_ _ | refine blk_drew ?_ | refine blk_alloc ?_ _)); refine blk_put (cs := #[.int .i64 0, .int .i64 0, .int .i64 0, .int .i64 0, .int .i64 0, .string (⟨#[]⟩ : ByteArray), .slice none 0 0]) ?_ 3 _ (by first | rfl | (simp only [w64_PTr32]; rfl) | (simp [w64_PTr32]; done)); (with_reducible repeat (first | refine blk_drewN ?_ _ | refine blk_drew ?_ | refine blk_alloc ?_ _)); refine blk_put (cs := #[.int .i64 0, .int .i64 0, .int .i64 0, .int .i64 0, .int .i64 0, .string (⟨#[]⟩ : ByteArray), .slice none 0 0]) ?_ 2 _ (by first | rfl | (simp only [w64_PTr32]; rfl) | (simp [w64_PTr32]; done)); (with_reducible repeat (first | refine blk_drewN ?_ _ | refine blk_drew ?_ | refine blk_alloc ?_ _)); refine blk_put (cs := #[.int .i64 0, .int .i64 0, .int .i64 0, .int .i64 0, .int .i64 0, .string (⟨#[]⟩ : ByteArray), .slice none 0 0]) ?_ 1 _ (by first | rfl | (simp only [w64_PTr32]; rfl) | (simp [w64_PTr32]; done)); (with_reducible repeat (first | refine blk_drewN ?_ _ | refine blk_drew ?_ | refine blk_alloc ?_ _)); refine blk_put (cs := #[.int .i64 0, .int .i64 0, .int .i64 0, .int .i64 0, .int .i64 0, .string (⟨#[]⟩ : ByteArray), .slice none 0 0]) ?_ 0 _ (by first | rfl | (simp only [w64_PTr32]; rfl) | (simp [w64_PTr32]; done)); (with_reducible repeat (first | refine blk_drewN ?_ _ | refine blk_drew ?_ | refine blk_alloc ?_ _)); exact BK312.out) Tryd.underlying44 rfl (by kernel_rfl)) rfl ?_
  exact ⟨_, by first | rfl | (simp [errW_none, errW_some] <;> rfl) | (simp [*, errW_none, errW_some] <;> rfl), by first | exact Kd.R_nil _ _ _ _ _ | exact Kd.N_nil _ _ _ _ _ | exact Kd.V_nil _ _ _ _ _ | exact Kd.Q_nil _ _ _ _ _ | exact Kd.S_nil _ _ _ _ _, by repeat (first | (with_reducible first | exact HB.out | apply below_alloc | apply pw_below_drewN | apply below_drew1 | refine below_set ?_ GE311.out | refine below_set ?_ GE312.out) | exact HB.out)⟩
end Go.Proofs.YtnpnablnnfekkaaDoor.PTr
