/- Texts of this claim's proof: small lemmas, walks and plain laws (merged by wip/shake.py). -/
import Derived.Test.YtnpnablnnfekkaaDoorTwM0
import Derived.Test.YtnpnablnnfekkaaDoorTwM1
import Derived.Test.YtnpnablnnfekkaaDoorTwM2
import Derived.Test.YtnpnablnnfekkaaDoorTwM3
import Derived.Test.YtnpnablnnfekkaaDoorTwM4
import Derived.ChangeArms
import Derived.ChangeSlices
import Derived.WideShapes
import Derived.SizedLaws
import Derived.OpenShut
import Derived.KernelRfl
set_option linter.unusedVariables false
set_option linter.unusedSimpArgs false
namespace Go.Proofs.YtnpnablnnfekkaaDoor.PTr
open Go.RowKit Go.Proofs.YtnpnablnnfekkaaDoor Go.Proofs.YtnpnablnnfekkaaDoorW.PrintWords Go.Proofs.YtnpnablnnfekkaaDoorW.PrintLast Go.Proofs.YtnpnablnnfekkaaDoorW.PrintMore
theorem chkR_head {l : List Nod} {a1 : Int} (h : headOK l = false) : chkR l a1 = 80 := by unfold chkR; rw [h]; rfl
theorem chkR_nodes {l : List Nod} {a1 : Int} {i : Nat} (hi : i < l.length) (h : nodeAt l a1 i = false) : chkR l a1 = 80 := by
 have : nodesOK l a1 = false := by
  rw [Bool.eq_false_iff]
  intro hn
  have := List.all_eq_true.1 hn i (List.mem_range.2 hi)
  rw [h] at this; cases this
 unfold chkR
 split
 ·
  rw [if_neg (by rw [this]; simp)]
 ·
  rfl
theorem tgOK_of {l : List Nod} {i : Nat} (hi : i < l.length) (h : ∀ p (hp : p < l[i].f6.length), l[i].f6[p].f1 ∈ idsL l) : tgOK l i = true := by
 unfold tgOK
 rw [rdN l i hi, List.all_eq_true]
 intro e he
 obtain ⟨p, hp, rfl⟩ := List.getElem_of_mem he
 exact decide_eq_true (h p hp)
theorem chkR_tg {l : List Nod} {a1 : Int} {i : Nat} (hi : i < l.length) (h : ¬ ∀ p (hp : p < l[i].f6.length), l[i].f6[p].f1 ∈ idsL l) : chkR l a1 = 80 := by
 have : ((List.range l.length).all (tgOK l)) = false := by
  rw [Bool.eq_false_iff]
  intro hn
  have := List.all_eq_true.1 hn i (List.mem_range.2 hi)
  unfold tgOK at this
  rw [rdN l i hi, List.all_eq_true] at this
  exact h (fun p hp => of_decide_eq_true (this _ (List.getElem_mem hp)))
 unfold chkR
 split
 ·
  rw [if_neg (by rw [this]; simp)]
 ·
  rfl
theorem refR_lk {l : List Nod} {i : Nat} (hi : i < l.length) (h : lkOK l i = false) : refR l = 80 := by
 have : ((List.range l.length).all (lkOK l)) = false := by
  rw [Bool.eq_false_iff]
  intro hn
  have := List.all_eq_true.1 hn i (List.mem_range.2 hi)
  rw [h] at this; cases this
 unfold refR
 rw [if_neg (by rw [this]; simp)]
/-- the links of a node: bad in three ways, good in three -/
theorem lk_cases {l : List Nod} {a1 : Int} {i : Nat} (hi : i < l.length) (hh : headOK l = true) :
  (lkOK l i = false ∧ ((i = 0 ∧ 0 < lk l l[i].f0) ∨ (0 < i ∧ lk l l[i].f0 = 0) ∨ (0 < i ∧ l[i].f1 = 1 ∧ 1 < lk l l[i].f0))) ∨
  (lkOK l i = true ∧ ((i = 0 ∧ lk l l[i].f0 = 0 ∧ l[i].f1 = 1) ∨ (0 < i ∧ 0 < lk l l[i].f0 ∧ l[i].f1 = 1 ∧ ¬ 1 < lk l l[i].f0) ∨ (0 < i ∧ 0 < lk l l[i].f0 ∧ l[i].f1 ≠ 1))) := by
 obtain ⟨h0, hid, hki⟩ := one_in hh
 unfold lkOK
 by_cases hz : i = 0
 ·
  subst hz
  rw [if_pos rfl, show (0 : Int) = ((0 : Nat) : Int) from rfl, rdN l 0 hi]
  by_cases hn : lk l l[0].f0 = 0
  ·
   right; exact ⟨decide_eq_true hn, .inl ⟨rfl, hn, hki⟩⟩
  ·
   left; exact ⟨decide_eq_false hn, .inl ⟨rfl, by omega⟩⟩
 ·
  rw [if_neg hz, rdN l i hi]
  by_cases hn : lk l l[i].f0 = 0
  ·
   left; exact ⟨by rw [decide_eq_false (by omega), Bool.false_and], .inr (.inl ⟨by omega, hn⟩)⟩
  ·
   rw [decide_eq_true (show lk l l[i].f0 ≠ 0 from hn), Bool.true_and]
   by_cases hk : l[i].f1 = 1
   ·
    by_cases h1 : 1 < lk l l[i].f0
    ·
     left; exact ⟨by rw [decide_eq_false (show ¬ l[i].f1 ≠ 1 from fun h => h hk), decide_eq_false (show ¬ lk l l[i].f0 ≤ 1 from by omega)]; rfl, .inr (.inr ⟨by omega, hk, h1⟩)⟩
    ·
     right; exact ⟨by rw [decide_eq_true (show lk l l[i].f0 ≤ 1 from by omega), Bool.or_true], .inr (.inl ⟨by omega, by omega, hk, h1⟩)⟩
   ·
    right; exact ⟨by rw [decide_eq_true (show l[i].f1 ≠ 1 from hk), Bool.true_or], .inr (.inr ⟨by omega, by omega, hk⟩)⟩
set_option maxHeartbeats 8000000 in
set_option maxRecDepth 100000 in
theorem rcheck_any (l : List Nod) (A : Option Addr) (c : Nat) (a1 a2 a3 : Int) (w : World) (hr0 : Kd.C k44 w A l.length l) (hc00 : l.length ≤ c) (hB : l.length ≤ 512 → Bd l) :
  Calls Tryd.prog 18 #[.agg #[.slice A l.length c, .int .i64 a1, .int .i64 a2, .int .i64 a3]] w fun e w' => e = .returned (.int .i64 (chkR l a1)) ∧ Below w.heap.size w w' := by
 have hu26 := Tryd.underlying26
 have HR0 := Lib.hid hr0
 have HC0 := Lib.hid hc00
 clear hr0 hc00
 by_cases h0 : l.length = 0
 ·
  have hbad : headOK l = false := by unfold headOK; rw [decide_eq_false (by omega)]; rfl
  have b0 : decide ((l.length : Int) < 1) = true := decide_eq_true (by omega)
  clear hB
  (rw [chkR_head hbad]; clear hbad; go_enter Tryd.func18, Tryd.ntmps18; go_wp2_with ((with_reducible refine gate_dst (N := 1) rfl ?_); refine box_event ?hg (N := 1) ?hd (cs := #[.slice A l.length c, .int .i64 a1, .int .i64 a2, .int .i64 a3]) (t := 26) ?hr ?_; (case hd => rfl); (case hg => rfl); (case hr => first | (go_simp; done) | (go_simp; rfl)); intro g1 hg1 w1 hbox hb; have B1 := Lib.hid hbox; have HB1 := Lib.hid hb; have E1 : Hid (w.heap.size ≤ g1) := Lib.hid (by rw [hg1]; exact Nat.le_refl _); have d0 : w1.cell? ⟨g1, 0, none⟩ = some (.slice A l.length c) := (blk_cell B1.out 0).trans rfl; have d1 : w1.cell? ⟨g1, 1, none⟩ = some (.int .i64 a1) := (blk_cell B1.out 1).trans rfl; (try replace z0 := cellB z0 hb); (try replace z1 := cellB z1 hb); clear hbox hb hg1); go_ret; exact ⟨rfl, HB1.out⟩)
 have b0 : decide ((l.length : Int) < 1) = false := decide_eq_false (by omega)
 by_cases h1 : 512 < l.length
 ·
  have hbad : headOK l = false := by unfold headOK; rw [decide_eq_false (show ¬ l.length ≤ 512 from by omega), Bool.and_false]; rfl
  have b1 : decide ((512 : Int) < (l.length : Int)) = true := decide_eq_true (by omega)
  clear hB
  (rw [chkR_head hbad]; clear hbad; go_enter Tryd.func18, Tryd.ntmps18; go_wp2_with ((with_reducible refine gate_dst (N := 1) rfl ?_); refine box_event ?hg (N := 1) ?hd (cs := #[.slice A l.length c, .int .i64 a1, .int .i64 a2, .int .i64 a3]) (t := 26) ?hr ?_; (case hd => rfl); (case hg => rfl); (case hr => first | (go_simp; done) | (go_simp; rfl)); intro g1 hg1 w1 hbox hb; have B1 := Lib.hid hbox; have HB1 := Lib.hid hb; have E1 : Hid (w.heap.size ≤ g1) := Lib.hid (by rw [hg1]; exact Nat.le_refl _); have d0 : w1.cell? ⟨g1, 0, none⟩ = some (.slice A l.length c) := (blk_cell B1.out 0).trans rfl; have d1 : w1.cell? ⟨g1, 1, none⟩ = some (.int .i64 a1) := (blk_cell B1.out 1).trans rfl; (try replace z0 := cellB z0 hb); (try replace z1 := cellB z1 hb); clear hbox hb hg1); go_ret; exact ⟨rfl, HB1.out⟩)
 have b1 : decide ((512 : Int) < (l.length : Int)) = false := decide_eq_false (by omega)
 have hlen : l.length ≤ 512 := by omega
 replace hB := hB hlen
 obtain ⟨ad, A6, c6, ea, x0, x1, x2, x3, x4, x5, x6, _, _⟩ := at_T44 HR0.out 0 (by omega) (by omega)
 cases ea
 have z0 := x0
 have z1 := x1
 simp only [show (0 : Int).toNat = 0 from rfl, Nat.zero_mul, Addr.add_zero'] at z0 z1
 clear x0 x1 x2 x3 x4 x5 x6
 have i0 : decide ((0 : Int) < (l.length : Int)) = true := decide_eq_true (by omega)
 have i0n : (0 < l.length) = True := eq_true (by omega)
 by_cases h2 : (rd_T44 l 0).f0 = 1
 case neg =>
  have hbad : headOK l = false := by unfold headOK; rw [decide_eq_false h2, Bool.and_false]; rfl
  have b2 : ((rd_T44 l 0).f0 != 1) = true := bne_iff_ne.mpr h2
  clear hB
  (rw [chkR_head hbad]; clear hbad; go_enter Tryd.func18, Tryd.ntmps18; go_wp2_with ((with_reducible refine gate_dst (N := 1) rfl ?_); refine box_event ?hg (N := 1) ?hd (cs := #[.slice (some ad) l.length c, .int .i64 a1, .int .i64 a2, .int .i64 a3]) (t := 26) ?hr ?_; (case hd => rfl); (case hg => rfl); (case hr => first | (go_simp; done) | (go_simp; rfl)); intro g1 hg1 w1 hbox hb; have B1 := Lib.hid hbox; have HB1 := Lib.hid hb; have E1 : Hid (w.heap.size ≤ g1) := Lib.hid (by rw [hg1]; exact Nat.le_refl _); have d0 : w1.cell? ⟨g1, 0, none⟩ = some (.slice (some ad) l.length c) := (blk_cell B1.out 0).trans rfl; have d1 : w1.cell? ⟨g1, 1, none⟩ = some (.int .i64 a1) := (blk_cell B1.out 1).trans rfl; (try replace z0 := cellB z0 hb); (try replace z1 := cellB z1 hb); clear hbox hb hg1); go_ret; exact ⟨rfl, HB1.out⟩)
 have b2 : ((rd_T44 l 0).f0 != 1) = false := bne_eq_false_iff_eq.mpr h2
 by_cases h3 : (rd_T44 l 0).f1 = 1
 case neg =>
  have hbad : headOK l = false := by unfold headOK; rw [decide_eq_false h3, Bool.and_false]
  have b3 : ((rd_T44 l 0).f1 != 1) = true := bne_iff_ne.mpr h3
  clear hB
  (rw [chkR_head hbad]; clear hbad; go_enter Tryd.func18, Tryd.ntmps18; go_wp2_with ((with_reducible refine gate_dst (N := 1) rfl ?_); refine box_event ?hg (N := 1) ?hd (cs := #[.slice (some ad) l.length c, .int .i64 a1, .int .i64 a2, .int .i64 a3]) (t := 26) ?hr ?_; (case hd => rfl); (case hg => rfl); (case hr => first | (go_simp; done) | (go_simp; rfl)); intro g1 hg1 w1 hbox hb; have B1 := Lib.hid hbox; have HB1 := Lib.hid hb; have E1 : Hid (w.heap.size ≤ g1) := Lib.hid (by rw [hg1]; exact Nat.le_refl _); have d0 : w1.cell? ⟨g1, 0, none⟩ = some (.slice (some ad) l.length c) := (blk_cell B1.out 0).trans rfl; have d1 : w1.cell? ⟨g1, 1, none⟩ = some (.int .i64 a1) := (blk_cell B1.out 1).trans rfl; (try replace z0 := cellB z0 hb); (try replace z1 := cellB z1 hb); clear hbox hb hg1); go_ret; exact ⟨rfl, HB1.out⟩)
 have b3 : ((rd_T44 l 0).f1 != 1) = false := bne_eq_false_iff_eq.mpr h3
 have HH : Hid (headOK l = true) := Lib.hid (by unfold headOK; rw [decide_eq_true h0, decide_eq_true hlen, decide_eq_true h2, decide_eq_true h3]; rfl)
 have HLN := Lib.hid hlen
 have HBB := Lib.hid hB
 clear hB hlen h0 h1 h2 h3
 go_enter Tryd.func18, Tryd.ntmps18
 go_wp2_with ((with_reducible refine gate_dst (N := 1) rfl ?_); refine box_event ?hg (N := 1) ?hd (cs := #[.slice (some ad) l.length c, .int .i64 a1, .int .i64 a2, .int .i64 a3]) (t := 26) ?hr ?_; (case hd => rfl); (case hg => rfl); (case hr => first | (go_simp; done) | (go_simp; rfl)); intro g1 hg1 w1 hbox hb; have B1 := Lib.hid hbox; have HB1 := Lib.hid hb; have E1 : Hid (w.heap.size ≤ g1) := Lib.hid (by rw [hg1]; exact Nat.le_refl _); have d0 : w1.cell? ⟨g1, 0, none⟩ = some (.slice (some ad) l.length c) := (blk_cell B1.out 0).trans rfl; have d1 : w1.cell? ⟨g1, 1, none⟩ = some (.int .i64 a1) := (blk_cell B1.out 1).trans rfl; (try replace z0 := cellB z0 hb); (try replace z1 := cellB z1 hb); clear hbox hb hg1)
 clear z0 z1 d1
 go_loopw [3] (fun s3 wr => ∃ i : Nat, i ≤ l.length ∧ s3 = .int .i64 i ∧ Hid (∀ q, q < i → nodeAt l a1 q = true ∧ tgOK l q = true) ∧ Hid (Below w.heap.size w wr) ∧ Hid (wr.heap[g1]? = some (.cells #[.slice (some ad) l.length c, .int .i64 a1, .int .i64 a2, .int .i64 a3] 26 (0, 0)))) (fun s3 _ => l.length - (intOf s3).toNat)
 case atStart => exact ⟨0, Nat.zero_le _, rfl, Lib.hid (fun q h => by omega), HB1, B1⟩
 case round =>
  clear HB1 B1 d0
  obtain ⟨i, hi, rfl, HP, HB, B1⟩ := hrel
  have d0 : wr.cell? ⟨g1, 0, none⟩ = some (.slice (some ad) l.length c) := (blk_cell B1.out 0).trans rfl
  by_cases hlt : i < l.length
  ·
   obtain ⟨bp, bi, bz, bv, hp, hbi, hbz, hbv, hcase⟩ := node_cases l a1 i hlt HLN.out
   have hbzn : decide (0 < i) = bz := by rw [← hbz, decide_eq_decide]; omega
   obtain ⟨x, hx⟩ : ∃ x, l[i] = x := ⟨_, rfl⟩
   have hxl : x ∈ l := hx ▸ List.getElem_mem hlt
   rw [hx] at hp hbi hbv
   have hrd : rd_T44 l (i : Int) = x := (rdN l i hlt).trans hx
   obtain ⟨ad', A6, c6, ea, x0, x1, x2, x3, x4, x5, x6, hl6, hi6⟩ := at_T44 HR0.out (i : Int) (by omega) (by omega)
   cases ea
   rw [hrd, Int.toNat_natCast] at x0 x1 x2 x3 x4 x5 x6
   rw [hrd] at hl6 hi6
   have HPL : Hid (rehearsalref04_plain.f 300000000000011 x.f0 x.f1 x.f2 x.f3 x.f4 x.f5 x.f6 = some bp) := Lib.hid (by obtain ⟨h5, h6, he⟩ := HBB.out x hxl; rw [plain_ref x h6 h5 he _ (by omega), hp])
   have HRE := Lib.hid hi6
   have HCE := Lib.hid hl6
   have HXI := Lib.hid hx
   have HX6 : Hid (x.f6.length ≤ 140737488351232) := Lib.hid (HBB.out x hxl).2.1
   have HWR : Hid (wrap64 ((i : Int) + 1) = ((i + 1 : Nat) : Int)) := Lib.hid (by have := HLN.out; unfold wrap64; omega)
   have HLT := Lib.hid hlt
   have HPV : Hid (bz = true → 0 ≤ wrap64 ((i : Int) - 1) ∧ wrap64 ((i : Int) - 1) < (l.length : Int) ∧ w.cell? (ad.add ((wrap64 ((i : Int) - 1)).toNat * 7)) = some (.int .i64 (rd_T44 l (wrap64 ((i : Int) - 1))).f0)) := Lib.hid (fun h => by
    have hz : 0 < (i : Int) := of_decide_eq_true (hbz.trans h)
    have hw : wrap64 ((i : Int) - 1) = ((i - 1 : Nat) : Int) := by have := HLN.out; unfold wrap64; omega
    obtain ⟨ad2, _, _, ea2, y0, _⟩ := at_T44 HR0.out (wrap64 ((i : Int) - 1)) (by omega) (by omega)
    cases ea2
    exact ⟨by omega, by omega, y0⟩)
   replace x0 := cellB x0 HB.out
   replace x1 := cellB x1 HB.out
   replace x2 := cellB x2 HB.out
   replace x3 := cellB x3 HB.out
   replace x4 := cellB x4 HB.out
   replace x5 := cellB x5 HB.out
   replace x6 := cellB x6 HB.out
   have i1 : decide (0 ≤ (i : Int)) = true := decide_eq_true (by omega)
   have i2 : decide ((i : Int) < (l.length : Int)) = true := decide_eq_true (by omega)
   clear hp hrd hl6 hi6 hi
   go_upto_region 7 with (first | ((with_reducible refine gate_dst (N := 4) rfl ?_); refine box_event ?hg (N := 4) ?hd (cs := zN) (t := 44) ?hr ?_; (case hd => rfl); (case hg => rfl); (case hr => first | (go_simp; done) | (go_simp; rfl)); intro g4 hg4 w2 hbox hb; have B4 := Lib.hid hbox; have HB4 := Lib.hid hb; have HG4 := Lib.hid hg4; clear hbox hb hg4) | (refine store_box rfl rfl (.tmp 4) (.tmp 45) rfl (x0 := x.f0) (x1 := x.f1) (x2 := x.f2) (x3 := x.f3) (x4 := x.f4) (x5 := x.f5) rfl rfl B4.out HG4.out HB4.out ?_; intro w3 hb3 hw3; have BN := Lib.hid hb3; have HB3 := Lib.hid (below_step HB.out hw3); have C1 := Lib.hid (blk_below B1.out hw3); clear hb3 hw3 B4 HB4 HG4))
   clear x0 x1 x2 x3 x4 x5 x6 B1 HB
   have d0 : w3.cell? ⟨g1, 0, none⟩ = some (.slice (some ad) l.length c) := (blk_cell C1.out 0).trans rfl
   have d1 : w3.cell? ⟨g1, 1, none⟩ = some (.int .i64 a1) := (blk_cell C1.out 1).trans rfl
   have n0 : w3.cell? ⟨g4, 0, none⟩ = some (.int .i64 x.f0) := (blk_cell BN.out 0).trans rfl
   have n1 : w3.cell? ⟨g4, 1, none⟩ = some (.int .i64 x.f1) := (blk_cell BN.out 1).trans rfl
   have n2 : w3.cell? ⟨g4, 2, none⟩ = some (.int .i64 x.f2) := (blk_cell BN.out 2).trans rfl
   have n3 : w3.cell? ⟨g4, 3, none⟩ = some (.int .i64 x.f3) := (blk_cell BN.out 3).trans rfl
   have n4 : w3.cell? ⟨g4, 4, none⟩ = some (.int .i64 x.f4) := (blk_cell BN.out 4).trans rfl
   have n5 : w3.cell? ⟨g4, 5, none⟩ = some (.string x.f5) := (blk_cell BN.out 5).trans rfl
   have n6 : w3.cell? ⟨g4, 6, none⟩ = some (.slice A6 x.f6.length c6) := (blk_cell BN.out 6).trans rfl
   have HPV3 : Hid (bz = true → 0 ≤ wrap64 ((i : Int) - 1) ∧ wrap64 ((i : Int) - 1) < (l.length : Int) ∧ w3.cell? (ad.add ((wrap64 ((i : Int) - 1)).toNat * 7)) = some (.int .i64 (rd_T44 l (wrap64 ((i : Int) - 1))).f0)) := Lib.hid (fun h => ⟨(HPV.out h).1, (HPV.out h).2.1, cellB (HPV.out h).2.2 HB3.out⟩)
   clear HPV
   rcases hcase with ⟨hna, hbad⟩ | ⟨hna, rfl, rfl, hgood⟩
   ·
    have HC8 : Hid (chkR l a1 = 80) := Lib.hid (chkR_nodes HLT.out hna)
    rcases hbad with rfl | ⟨rfl, rfl⟩ | ⟨rfl, rfl, rfl, rfl⟩
    all_goals
     (try have hbv1 := hbv rfl)
     (try (have q0 : decide (0 ≤ wrap64 ((i : Int) - 1)) = true := decide_eq_true (HPV3.out rfl).1))
     (try (have q1 : decide (wrap64 ((i : Int) - 1) < (l.length : Int)) = true := decide_eq_true (HPV3.out rfl).2.1))
     (have hpv := HPV3.out; (try have q2 := eq_true (hpv rfl).1); (try have q3 := eq_true (hpv rfl).2.1))
     refine start_ (n := 26) (S := (fun w' => w'.cell? ⟨g4, 0, none⟩ = some (.int .i64 x.f0) ∧ w'.cell? ⟨g4, 1, none⟩ = some (.int .i64 x.f1) ∧ w'.cell? ⟨g4, 2, none⟩ = some (.int .i64 x.f2) ∧ w'.cell? ⟨g4, 3, none⟩ = some (.int .i64 x.f3) ∧ w'.cell? ⟨g4, 4, none⟩ = some (.int .i64 x.f4) ∧ w'.cell? ⟨g4, 5, none⟩ = some (.string x.f5) ∧ w'.cell? ⟨g4, 6, none⟩ = some (.slice A6 x.f6.length c6) ∧ w'.cell? ⟨g1, 0, none⟩ = some (.slice (some ad) l.length c) ∧ w'.cell? ⟨g1, 1, none⟩ = some (.int .i64 a1) ∧ (_ = true → w'.cell? (ad.add ((wrap64 ((i : Int) - 1)).toNat * 7)) = some (.int .i64 (rd_T44 l (wrap64 ((i : Int) - 1))).f0)))) (ds := []) #[false, false, false, false, false, false, false, false, false, false, false, false, false, false, false, false, false, false, false, false, false, false, false, false, false, false] (by kernel_rfl) rfl rfl ⟨n0, n1, n2, n3, n4, n5, n6, d0, d1, fun h => (hpv h).2.2⟩ (fun hHeld => ?_)
     (have HBD := Lib.hid (below_step HB3.out (Below.refl _ w3).drew); have CD := Lib.hid (blk_below C1.out (Below.refl _ w3).drew); clear hpv n0 n1 n2 n3 n4 n5 n6 d0 d1 HPV3 C1 HB3 BN; generalize World.drew _ = wd at HBD CD hHeld ⊢)
     iterate 1 (first | ((first | refine takeS_ 0 (N := some 46) (v := ?_) (a' := ?_) rfl rfl (by decide +kernel) (fun _ _ _ h => h) (Or.inl ⟨by rfl, ?_⟩) hHeld ?_ ?_); rotate_left; (rintro w' ⟨s0, s1, s2, s3, s4, s5, s6, t0, t1, sp⟩; go_simp; first | done | (with_reducible rfl) | rfl); rotate_left; (simp only [Act.put, List.setIfInBounds_toArray, List.set_cons_zero, List.set_cons_succ, i64_w, i32_w]; rfl)) | ((first | refine takeS_ 0 (N := some 46) (v := undef) (a' := ?_) rfl rfl (by decide +kernel) (fun _ _ _ h => h) (Or.inr ⟨by rfl, rfl⟩) hHeld ?_ ?_); rotate_left; (simp only [Act.put, List.setIfInBounds_toArray, List.set_cons_zero, List.set_cons_succ, i64_w, i32_w]; rfl)))
     refine oneS_ 1 (N := some 47) rfl rfl (by kernel_rfl) (by decide) (fun K hK => ?_)
     refine goes_ Tryd.func60 (by kernel_rfl) rfl #[.agg #[.int .i64 x.f0, .int .i64 x.f1, .int .i64 x.f2, .int .i64 x.f3, .int .i64 x.f4, .string x.f5, .slice A6 x.f6.length c6]] (by rfl) rfl rfl (by first | rfl | (simp [Act.eval]; done) | (simp [Act.eval, Act.put]; done)) ?_
     refine (rehearsalref04_plain.calls _ x.f0 x.f1 x.f2 x.f3 x.f4 x.f5 A6 c6 x.f6 _ _ (Kd.C_below HRE.out HBD.out) HCE.out HPL.out).mono ?_
     (rintro e w5 ⟨rfl, hb5⟩; have HB5 := Lib.hid (below_step HBD.out hb5); have C5 := Lib.hid (blk_below CD.out hb5))
     refine ⟨_, rfl, ?_⟩
     refine hK.out _ _ (by obtain ⟨s0, s1, s2, s3, s4, s5, s6, t0, t1, sp⟩ := hHeld; exact ⟨cellB s0 hb5, cellB s1 hb5, cellB s2 hb5, cellB s3 hb5, cellB s4 hb5, cellB s5 hb5, cellB s6 hb5, cellB t0 hb5, cellB t1 hb5, fun h => cellB (sp h) hb5⟩) (fun hHeld => ?_)
     clear hK K
     refine norm_ (a' := ?_) ?_ ?_
     rotate_left
     ·
      show Act.put _ (some 47) _ = _
      simp only [Act.put, List.setIfInBounds_toArray, List.set_cons_zero, List.set_cons_succ, i64_w, i32_w]
      rfl
     iterate 5 (first | ((first | refine takeS_ 2 (N := some 48) (v := ?_) (a' := ?_) rfl rfl (by decide +kernel) (fun _ _ _ h => h) (Or.inl ⟨by rfl, ?_⟩) hHeld ?_ ?_ | refine takeS_ 3 (N := some 49) (v := ?_) (a' := ?_) rfl rfl (by decide +kernel) (fun _ _ _ h => h) (Or.inl ⟨by rfl, ?_⟩) hHeld ?_ ?_ | refine takeS_ 4 (N := some 50) (v := ?_) (a' := ?_) rfl rfl (by decide +kernel) (fun _ _ _ h => h) (Or.inl ⟨by rfl, ?_⟩) hHeld ?_ ?_ | refine takeS_ 5 (N := some 51) (v := ?_) (a' := ?_) rfl rfl (by decide +kernel) (fun _ _ _ h => h) (Or.inl ⟨by rfl, ?_⟩) hHeld ?_ ?_ | refine takeS_ 6 (N := some 52) (v := ?_) (a' := ?_) rfl rfl (by decide +kernel) (fun _ _ _ h => h) (Or.inl ⟨by rfl, ?_⟩) hHeld ?_ ?_); rotate_left; (rintro w' ⟨s0, s1, s2, s3, s4, s5, s6, t0, t1, sp⟩; (try have sp := sp rfl); go_simp; first | done | (with_reducible rfl) | rfl); rotate_left; (simp only [Act.put, List.setIfInBounds_toArray, List.set_cons_zero, List.set_cons_succ, i64_w, i32_w]; rfl)) | ((first | refine takeS_ 2 (N := some 48) (v := undef) (a' := ?_) rfl rfl (by decide +kernel) (fun _ _ _ h => h) (Or.inr ⟨by rfl, rfl⟩) hHeld ?_ ?_ | refine takeS_ 3 (N := some 49) (v := undef) (a' := ?_) rfl rfl (by decide +kernel) (fun _ _ _ h => h) (Or.inr ⟨by rfl, rfl⟩) hHeld ?_ ?_ | refine takeS_ 4 (N := some 50) (v := undef) (a' := ?_) rfl rfl (by decide +kernel) (fun _ _ _ h => h) (Or.inr ⟨by rfl, rfl⟩) hHeld ?_ ?_ | refine takeS_ 5 (N := some 51) (v := undef) (a' := ?_) rfl rfl (by decide +kernel) (fun _ _ _ h => h) (Or.inr ⟨by rfl, rfl⟩) hHeld ?_ ?_ | refine takeS_ 6 (N := some 52) (v := undef) (a' := ?_) rfl rfl (by decide +kernel) (fun _ _ _ h => h) (Or.inr ⟨by rfl, rfl⟩) hHeld ?_ ?_); rotate_left; (simp only [Act.put, List.setIfInBounds_toArray, List.set_cons_zero, List.set_cons_succ, i64_w, i32_w]; rfl)))
     iterate 5 (first | ((first | refine takeS_ 7 (N := some 53) (v := ?_) (a' := ?_) rfl rfl (by decide +kernel) (fun _ _ _ h => h) (Or.inl ⟨by rfl, ?_⟩) hHeld ?_ ?_ | refine takeS_ 8 (N := some 54) (v := ?_) (a' := ?_) rfl rfl (by decide +kernel) (fun _ _ _ h => h) (Or.inl ⟨by rfl, ?_⟩) hHeld ?_ ?_ | refine takeS_ 9 (N := some 55) (v := ?_) (a' := ?_) rfl rfl (by decide +kernel) (fun _ _ _ h => h) (Or.inl ⟨by rfl, ?_⟩) hHeld ?_ ?_ | refine takeS_ 10 (N := some 56) (v := ?_) (a' := ?_) rfl rfl (by decide +kernel) (fun _ _ _ h => h) (Or.inl ⟨by rfl, ?_⟩) hHeld ?_ ?_ | refine takeS_ 11 (N := some 57) (v := ?_) (a' := ?_) rfl rfl (by decide +kernel) (fun _ _ _ h => h) (Or.inl ⟨by rfl, ?_⟩) hHeld ?_ ?_); rotate_left; (rintro w' ⟨s0, s1, s2, s3, s4, s5, s6, t0, t1, sp⟩; (try have sp := sp rfl); go_simp; first | done | (with_reducible rfl) | rfl); rotate_left; (simp only [Act.put, List.setIfInBounds_toArray, List.set_cons_zero, List.set_cons_succ, i64_w, i32_w]; rfl)) | ((first | refine takeS_ 7 (N := some 53) (v := undef) (a' := ?_) rfl rfl (by decide +kernel) (fun _ _ _ h => h) (Or.inr ⟨by rfl, rfl⟩) hHeld ?_ ?_ | refine takeS_ 8 (N := some 54) (v := undef) (a' := ?_) rfl rfl (by decide +kernel) (fun _ _ _ h => h) (Or.inr ⟨by rfl, rfl⟩) hHeld ?_ ?_ | refine takeS_ 9 (N := some 55) (v := undef) (a' := ?_) rfl rfl (by decide +kernel) (fun _ _ _ h => h) (Or.inr ⟨by rfl, rfl⟩) hHeld ?_ ?_ | refine takeS_ 10 (N := some 56) (v := undef) (a' := ?_) rfl rfl (by decide +kernel) (fun _ _ _ h => h) (Or.inr ⟨by rfl, rfl⟩) hHeld ?_ ?_ | refine takeS_ 11 (N := some 57) (v := undef) (a' := ?_) rfl rfl (by decide +kernel) (fun _ _ _ h => h) (Or.inr ⟨by rfl, rfl⟩) hHeld ?_ ?_); rotate_left; (simp only [Act.put, List.setIfInBounds_toArray, List.set_cons_zero, List.set_cons_succ, i64_w, i32_w]; rfl)))
     iterate 5 (first | ((first | refine takeS_ 12 (N := some 58) (v := ?_) (a' := ?_) rfl rfl (by decide +kernel) (fun _ _ _ h => h) (Or.inl ⟨by rfl, ?_⟩) hHeld ?_ ?_ | refine takeS_ 13 (N := some 59) (v := ?_) (a' := ?_) rfl rfl (by decide +kernel) (fun _ _ _ h => h) (Or.inl ⟨by rfl, ?_⟩) hHeld ?_ ?_ | refine takeS_ 14 (N := some 60) (v := ?_) (a' := ?_) rfl rfl (by decide +kernel) (fun _ _ _ h => h) (Or.inl ⟨by rfl, ?_⟩) hHeld ?_ ?_ | refine takeS_ 15 (N := some 61) (v := ?_) (a' := ?_) rfl rfl (by decide +kernel) (fun _ _ _ h => h) (Or.inl ⟨by rfl, ?_⟩) hHeld ?_ ?_ | refine takeS_ 16 (N := some 62) (v := ?_) (a' := ?_) rfl rfl (by decide +kernel) (fun _ _ _ h => h) (Or.inl ⟨by rfl, ?_⟩) hHeld ?_ ?_); rotate_left; (rintro w' ⟨s0, s1, s2, s3, s4, s5, s6, t0, t1, sp⟩; (try have sp := sp rfl); go_simp; first | done | (with_reducible rfl) | rfl); rotate_left; (simp only [Act.put, List.setIfInBounds_toArray, List.set_cons_zero, List.set_cons_succ, i64_w, i32_w]; rfl)) | ((first | refine takeS_ 12 (N := some 58) (v := undef) (a' := ?_) rfl rfl (by decide +kernel) (fun _ _ _ h => h) (Or.inr ⟨by rfl, rfl⟩) hHeld ?_ ?_ | refine takeS_ 13 (N := some 59) (v := undef) (a' := ?_) rfl rfl (by decide +kernel) (fun _ _ _ h => h) (Or.inr ⟨by rfl, rfl⟩) hHeld ?_ ?_ | refine takeS_ 14 (N := some 60) (v := undef) (a' := ?_) rfl rfl (by decide +kernel) (fun _ _ _ h => h) (Or.inr ⟨by rfl, rfl⟩) hHeld ?_ ?_ | refine takeS_ 15 (N := some 61) (v := undef) (a' := ?_) rfl rfl (by decide +kernel) (fun _ _ _ h => h) (Or.inr ⟨by rfl, rfl⟩) hHeld ?_ ?_ | refine takeS_ 16 (N := some 62) (v := undef) (a' := ?_) rfl rfl (by decide +kernel) (fun _ _ _ h => h) (Or.inr ⟨by rfl, rfl⟩) hHeld ?_ ?_); rotate_left; (simp only [Act.put, List.setIfInBounds_toArray, List.set_cons_zero, List.set_cons_succ, i64_w, i32_w]; rfl)))
     iterate 5 (first | ((first | refine takeS_ 17 (N := some 63) (v := ?_) (a' := ?_) rfl rfl (by decide +kernel) (fun _ _ _ h => h) (Or.inl ⟨by rfl, ?_⟩) hHeld ?_ ?_ | refine takeS_ 18 (N := some 64) (v := ?_) (a' := ?_) rfl rfl (by decide +kernel) (fun _ _ _ h => h) (Or.inl ⟨by rfl, ?_⟩) hHeld ?_ ?_ | refine takeS_ 19 (N := some 65) (v := ?_) (a' := ?_) rfl rfl (by decide +kernel) (fun _ _ _ h => h) (Or.inl ⟨by rfl, ?_⟩) hHeld ?_ ?_ | refine takeS_ 20 (N := some 66) (v := ?_) (a' := ?_) rfl rfl (by decide +kernel) (fun _ _ _ h => h) (Or.inl ⟨by rfl, ?_⟩) hHeld ?_ ?_ | refine takeS_ 21 (N := some 67) (v := ?_) (a' := ?_) rfl rfl (by decide +kernel) (fun _ _ _ h => h) (Or.inl ⟨by rfl, ?_⟩) hHeld ?_ ?_); rotate_left; (rintro w' ⟨s0, s1, s2, s3, s4, s5, s6, t0, t1, sp⟩; (try have sp := sp rfl); go_simp; first | done | (with_reducible rfl) | rfl); rotate_left; (simp only [Act.put, List.setIfInBounds_toArray, List.set_cons_zero, List.set_cons_succ, i64_w, i32_w]; rfl)) | ((first | refine takeS_ 17 (N := some 63) (v := undef) (a' := ?_) rfl rfl (by decide +kernel) (fun _ _ _ h => h) (Or.inr ⟨by rfl, rfl⟩) hHeld ?_ ?_ | refine takeS_ 18 (N := some 64) (v := undef) (a' := ?_) rfl rfl (by decide +kernel) (fun _ _ _ h => h) (Or.inr ⟨by rfl, rfl⟩) hHeld ?_ ?_ | refine takeS_ 19 (N := some 65) (v := undef) (a' := ?_) rfl rfl (by decide +kernel) (fun _ _ _ h => h) (Or.inr ⟨by rfl, rfl⟩) hHeld ?_ ?_ | refine takeS_ 20 (N := some 66) (v := undef) (a' := ?_) rfl rfl (by decide +kernel) (fun _ _ _ h => h) (Or.inr ⟨by rfl, rfl⟩) hHeld ?_ ?_ | refine takeS_ 21 (N := some 67) (v := undef) (a' := ?_) rfl rfl (by decide +kernel) (fun _ _ _ h => h) (Or.inr ⟨by rfl, rfl⟩) hHeld ?_ ?_); rotate_left; (simp only [Act.put, List.setIfInBounds_toArray, List.set_cons_zero, List.set_cons_succ, i64_w, i32_w]; rfl)))
     iterate 4 (first | ((first | refine takeS_ 22 (N := some 68) (v := ?_) (a' := ?_) rfl rfl (by decide +kernel) (fun _ _ _ h => h) (Or.inl ⟨by rfl, ?_⟩) hHeld ?_ ?_ | refine takeS_ 23 (N := some 69) (v := ?_) (a' := ?_) rfl rfl (by decide +kernel) (fun _ _ _ h => h) (Or.inl ⟨by rfl, ?_⟩) hHeld ?_ ?_ | refine takeS_ 24 (N := some 70) (v := ?_) (a' := ?_) rfl rfl (by decide +kernel) (fun _ _ _ h => h) (Or.inl ⟨by rfl, ?_⟩) hHeld ?_ ?_ | refine takeS_ 25 (N := some 71) (v := ?_) (a' := ?_) rfl rfl (by decide +kernel) (fun _ _ _ h => h) (Or.inl ⟨by rfl, ?_⟩) hHeld ?_ ?_); rotate_left; (rintro w' ⟨s0, s1, s2, s3, s4, s5, s6, t0, t1, sp⟩; (try have sp := sp rfl); go_simp; first | done | (with_reducible rfl) | rfl); rotate_left; (simp only [Act.put, List.setIfInBounds_toArray, List.set_cons_zero, List.set_cons_succ, i64_w, i32_w]; rfl)) | ((first | refine takeS_ 22 (N := some 68) (v := undef) (a' := ?_) rfl rfl (by decide +kernel) (fun _ _ _ h => h) (Or.inr ⟨by rfl, rfl⟩) hHeld ?_ ?_ | refine takeS_ 23 (N := some 69) (v := undef) (a' := ?_) rfl rfl (by decide +kernel) (fun _ _ _ h => h) (Or.inr ⟨by rfl, rfl⟩) hHeld ?_ ?_ | refine takeS_ 24 (N := some 70) (v := undef) (a' := ?_) rfl rfl (by decide +kernel) (fun _ _ _ h => h) (Or.inr ⟨by rfl, rfl⟩) hHeld ?_ ?_ | refine takeS_ 25 (N := some 71) (v := undef) (a' := ?_) rfl rfl (by decide +kernel) (fun _ _ _ h => h) (Or.inr ⟨by rfl, rfl⟩) hHeld ?_ ?_); rotate_left; (simp only [Act.put, List.setIfInBounds_toArray, List.set_cons_zero, List.set_cons_succ, i64_w, i32_w]; rfl)))
     refine done_ (by kernel_rfl) ?_
     go_wp2
     go_ret
     exact ⟨by rw [HC8.out]; rfl, HB5.out⟩
   ·
    rcases hgood with rfl | ⟨rfl, rfl⟩
    all_goals
     (try have hbv1 := hbv rfl)
     (try (have q0 : decide (0 ≤ wrap64 ((i : Int) - 1)) = true := decide_eq_true (HPV3.out rfl).1))
     (try (have q1 : decide (wrap64 ((i : Int) - 1) < (l.length : Int)) = true := decide_eq_true (HPV3.out rfl).2.1))
     (have hpv := HPV3.out; (try have q2 := eq_true (hpv rfl).1); (try have q3 := eq_true (hpv rfl).2.1))
     refine start_ (n := 26) (S := (fun w' => w'.cell? ⟨g4, 0, none⟩ = some (.int .i64 x.f0) ∧ w'.cell? ⟨g4, 1, none⟩ = some (.int .i64 x.f1) ∧ w'.cell? ⟨g4, 2, none⟩ = some (.int .i64 x.f2) ∧ w'.cell? ⟨g4, 3, none⟩ = some (.int .i64 x.f3) ∧ w'.cell? ⟨g4, 4, none⟩ = some (.int .i64 x.f4) ∧ w'.cell? ⟨g4, 5, none⟩ = some (.string x.f5) ∧ w'.cell? ⟨g4, 6, none⟩ = some (.slice A6 x.f6.length c6) ∧ w'.cell? ⟨g1, 0, none⟩ = some (.slice (some ad) l.length c) ∧ w'.cell? ⟨g1, 1, none⟩ = some (.int .i64 a1) ∧ (_ = true → w'.cell? (ad.add ((wrap64 ((i : Int) - 1)).toNat * 7)) = some (.int .i64 (rd_T44 l (wrap64 ((i : Int) - 1))).f0)))) (ds := []) #[false, false, false, false, false, false, false, false, false, false, false, false, false, false, false, false, false, false, false, false, false, false, false, false, false, false] (by kernel_rfl) rfl rfl ⟨n0, n1, n2, n3, n4, n5, n6, d0, d1, fun h => (hpv h).2.2⟩ (fun hHeld => ?_)
     (have HBD := Lib.hid (below_step HB3.out (Below.refl _ w3).drew); have CD := Lib.hid (blk_below C1.out (Below.refl _ w3).drew); clear hpv n0 n1 n2 n3 n4 n5 n6 d0 d1 HPV3 C1 HB3 BN; generalize World.drew _ = wd at HBD CD hHeld ⊢)
     iterate 1 (first | ((first | refine takeS_ 0 (N := some 46) (v := ?_) (a' := ?_) rfl rfl (by decide +kernel) (fun _ _ _ h => h) (Or.inl ⟨by rfl, ?_⟩) hHeld ?_ ?_); rotate_left; (rintro w' ⟨s0, s1, s2, s3, s4, s5, s6, t0, t1, sp⟩; go_simp; first | done | (with_reducible rfl) | rfl); rotate_left; (simp only [Act.put, List.setIfInBounds_toArray, List.set_cons_zero, List.set_cons_succ, i64_w, i32_w]; rfl)) | ((first | refine takeS_ 0 (N := some 46) (v := undef) (a' := ?_) rfl rfl (by decide +kernel) (fun _ _ _ h => h) (Or.inr ⟨by rfl, rfl⟩) hHeld ?_ ?_); rotate_left; (simp only [Act.put, List.setIfInBounds_toArray, List.set_cons_zero, List.set_cons_succ, i64_w, i32_w]; rfl)))
     refine oneS_ 1 (N := some 47) rfl rfl (by kernel_rfl) (by decide) (fun K hK => ?_)
     refine goes_ Tryd.func60 (by kernel_rfl) rfl #[.agg #[.int .i64 x.f0, .int .i64 x.f1, .int .i64 x.f2, .int .i64 x.f3, .int .i64 x.f4, .string x.f5, .slice A6 x.f6.length c6]] (by rfl) rfl rfl (by first | rfl | (simp [Act.eval]; done) | (simp [Act.eval, Act.put]; done)) ?_
     refine (rehearsalref04_plain.calls _ x.f0 x.f1 x.f2 x.f3 x.f4 x.f5 A6 c6 x.f6 _ _ (Kd.C_below HRE.out HBD.out) HCE.out HPL.out).mono ?_
     (rintro e w5 ⟨rfl, hb5⟩; have HB5 := Lib.hid (below_step HBD.out hb5); have C5 := Lib.hid (blk_below CD.out hb5))
     refine ⟨_, rfl, ?_⟩
     refine hK.out _ _ (by obtain ⟨s0, s1, s2, s3, s4, s5, s6, t0, t1, sp⟩ := hHeld; exact ⟨cellB s0 hb5, cellB s1 hb5, cellB s2 hb5, cellB s3 hb5, cellB s4 hb5, cellB s5 hb5, cellB s6 hb5, cellB t0 hb5, cellB t1 hb5, fun h => cellB (sp h) hb5⟩) (fun hHeld => ?_)
     clear hK K
     refine norm_ (a' := ?_) ?_ ?_
     rotate_left
     ·
      show Act.put _ (some 47) _ = _
      simp only [Act.put, List.setIfInBounds_toArray, List.set_cons_zero, List.set_cons_succ, i64_w, i32_w]
      rfl
     iterate 5 (first | ((first | refine takeS_ 2 (N := some 48) (v := ?_) (a' := ?_) rfl rfl (by decide +kernel) (fun _ _ _ h => h) (Or.inl ⟨by rfl, ?_⟩) hHeld ?_ ?_ | refine takeS_ 3 (N := some 49) (v := ?_) (a' := ?_) rfl rfl (by decide +kernel) (fun _ _ _ h => h) (Or.inl ⟨by rfl, ?_⟩) hHeld ?_ ?_ | refine takeS_ 4 (N := some 50) (v := ?_) (a' := ?_) rfl rfl (by decide +kernel) (fun _ _ _ h => h) (Or.inl ⟨by rfl, ?_⟩) hHeld ?_ ?_ | refine takeS_ 5 (N := some 51) (v := ?_) (a' := ?_) rfl rfl (by decide +kernel) (fun _ _ _ h => h) (Or.inl ⟨by rfl, ?_⟩) hHeld ?_ ?_ | refine takeS_ 6 (N := some 52) (v := ?_) (a' := ?_) rfl rfl (by decide +kernel) (fun _ _ _ h => h) (Or.inl ⟨by rfl, ?_⟩) hHeld ?_ ?_); rotate_left; (rintro w' ⟨s0, s1, s2, s3, s4, s5, s6, t0, t1, sp⟩; (try have sp := sp rfl); go_simp; first | done | (with_reducible rfl) | rfl); rotate_left; (simp only [Act.put, List.setIfInBounds_toArray, List.set_cons_zero, List.set_cons_succ, i64_w, i32_w]; rfl)) | ((first | refine takeS_ 2 (N := some 48) (v := undef) (a' := ?_) rfl rfl (by decide +kernel) (fun _ _ _ h => h) (Or.inr ⟨by rfl, rfl⟩) hHeld ?_ ?_ | refine takeS_ 3 (N := some 49) (v := undef) (a' := ?_) rfl rfl (by decide +kernel) (fun _ _ _ h => h) (Or.inr ⟨by rfl, rfl⟩) hHeld ?_ ?_ | refine takeS_ 4 (N := some 50) (v := undef) (a' := ?_) rfl rfl (by decide +kernel) (fun _ _ _ h => h) (Or.inr ⟨by rfl, rfl⟩) hHeld ?_ ?_ | refine takeS_ 5 (N := some 51) (v := undef) (a' := ?_) rfl rfl (by decide +kernel) (fun _ _ _ h => h) (Or.inr ⟨by rfl, rfl⟩) hHeld ?_ ?_ | refine takeS_ 6 (N := some 52) (v := undef) (a' := ?_) rfl rfl (by decide +kernel) (fun _ _ _ h => h) (Or.inr ⟨by rfl, rfl⟩) hHeld ?_ ?_); rotate_left; (simp only [Act.put, List.setIfInBounds_toArray, List.set_cons_zero, List.set_cons_succ, i64_w, i32_w]; rfl)))
     iterate 5 (first | ((first | refine takeS_ 7 (N := some 53) (v := ?_) (a' := ?_) rfl rfl (by decide +kernel) (fun _ _ _ h => h) (Or.inl ⟨by rfl, ?_⟩) hHeld ?_ ?_ | refine takeS_ 8 (N := some 54) (v := ?_) (a' := ?_) rfl rfl (by decide +kernel) (fun _ _ _ h => h) (Or.inl ⟨by rfl, ?_⟩) hHeld ?_ ?_ | refine takeS_ 9 (N := some 55) (v := ?_) (a' := ?_) rfl rfl (by decide +kernel) (fun _ _ _ h => h) (Or.inl ⟨by rfl, ?_⟩) hHeld ?_ ?_ | refine takeS_ 10 (N := some 56) (v := ?_) (a' := ?_) rfl rfl (by decide +kernel) (fun _ _ _ h => h) (Or.inl ⟨by rfl, ?_⟩) hHeld ?_ ?_ | refine takeS_ 11 (N := some 57) (v := ?_) (a' := ?_) rfl rfl (by decide +kernel) (fun _ _ _ h => h) (Or.inl ⟨by rfl, ?_⟩) hHeld ?_ ?_); rotate_left; (rintro w' ⟨s0, s1, s2, s3, s4, s5, s6, t0, t1, sp⟩; (try have sp := sp rfl); go_simp; first | done | (with_reducible rfl) | rfl); rotate_left; (simp only [Act.put, List.setIfInBounds_toArray, List.set_cons_zero, List.set_cons_succ, i64_w, i32_w]; rfl)) | ((first | refine takeS_ 7 (N := some 53) (v := undef) (a' := ?_) rfl rfl (by decide +kernel) (fun _ _ _ h => h) (Or.inr ⟨by rfl, rfl⟩) hHeld ?_ ?_ | refine takeS_ 8 (N := some 54) (v := undef) (a' := ?_) rfl rfl (by decide +kernel) (fun _ _ _ h => h) (Or.inr ⟨by rfl, rfl⟩) hHeld ?_ ?_ | refine takeS_ 9 (N := some 55) (v := undef) (a' := ?_) rfl rfl (by decide +kernel) (fun _ _ _ h => h) (Or.inr ⟨by rfl, rfl⟩) hHeld ?_ ?_ | refine takeS_ 10 (N := some 56) (v := undef) (a' := ?_) rfl rfl (by decide +kernel) (fun _ _ _ h => h) (Or.inr ⟨by rfl, rfl⟩) hHeld ?_ ?_ | refine takeS_ 11 (N := some 57) (v := undef) (a' := ?_) rfl rfl (by decide +kernel) (fun _ _ _ h => h) (Or.inr ⟨by rfl, rfl⟩) hHeld ?_ ?_); rotate_left; (simp only [Act.put, List.setIfInBounds_toArray, List.set_cons_zero, List.set_cons_succ, i64_w, i32_w]; rfl)))
     iterate 5 (first | ((first | refine takeS_ 12 (N := some 58) (v := ?_) (a' := ?_) rfl rfl (by decide +kernel) (fun _ _ _ h => h) (Or.inl ⟨by rfl, ?_⟩) hHeld ?_ ?_ | refine takeS_ 13 (N := some 59) (v := ?_) (a' := ?_) rfl rfl (by decide +kernel) (fun _ _ _ h => h) (Or.inl ⟨by rfl, ?_⟩) hHeld ?_ ?_ | refine takeS_ 14 (N := some 60) (v := ?_) (a' := ?_) rfl rfl (by decide +kernel) (fun _ _ _ h => h) (Or.inl ⟨by rfl, ?_⟩) hHeld ?_ ?_ | refine takeS_ 15 (N := some 61) (v := ?_) (a' := ?_) rfl rfl (by decide +kernel) (fun _ _ _ h => h) (Or.inl ⟨by rfl, ?_⟩) hHeld ?_ ?_ | refine takeS_ 16 (N := some 62) (v := ?_) (a' := ?_) rfl rfl (by decide +kernel) (fun _ _ _ h => h) (Or.inl ⟨by rfl, ?_⟩) hHeld ?_ ?_); rotate_left; (rintro w' ⟨s0, s1, s2, s3, s4, s5, s6, t0, t1, sp⟩; (try have sp := sp rfl); go_simp; first | done | (with_reducible rfl) | rfl); rotate_left; (simp only [Act.put, List.setIfInBounds_toArray, List.set_cons_zero, List.set_cons_succ, i64_w, i32_w]; rfl)) | ((first | refine takeS_ 12 (N := some 58) (v := undef) (a' := ?_) rfl rfl (by decide +kernel) (fun _ _ _ h => h) (Or.inr ⟨by rfl, rfl⟩) hHeld ?_ ?_ | refine takeS_ 13 (N := some 59) (v := undef) (a' := ?_) rfl rfl (by decide +kernel) (fun _ _ _ h => h) (Or.inr ⟨by rfl, rfl⟩) hHeld ?_ ?_ | refine takeS_ 14 (N := some 60) (v := undef) (a' := ?_) rfl rfl (by decide +kernel) (fun _ _ _ h => h) (Or.inr ⟨by rfl, rfl⟩) hHeld ?_ ?_ | refine takeS_ 15 (N := some 61) (v := undef) (a' := ?_) rfl rfl (by decide +kernel) (fun _ _ _ h => h) (Or.inr ⟨by rfl, rfl⟩) hHeld ?_ ?_ | refine takeS_ 16 (N := some 62) (v := undef) (a' := ?_) rfl rfl (by decide +kernel) (fun _ _ _ h => h) (Or.inr ⟨by rfl, rfl⟩) hHeld ?_ ?_); rotate_left; (simp only [Act.put, List.setIfInBounds_toArray, List.set_cons_zero, List.set_cons_succ, i64_w, i32_w]; rfl)))
     iterate 5 (first | ((first | refine takeS_ 17 (N := some 63) (v := ?_) (a' := ?_) rfl rfl (by decide +kernel) (fun _ _ _ h => h) (Or.inl ⟨by rfl, ?_⟩) hHeld ?_ ?_ | refine takeS_ 18 (N := some 64) (v := ?_) (a' := ?_) rfl rfl (by decide +kernel) (fun _ _ _ h => h) (Or.inl ⟨by rfl, ?_⟩) hHeld ?_ ?_ | refine takeS_ 19 (N := some 65) (v := ?_) (a' := ?_) rfl rfl (by decide +kernel) (fun _ _ _ h => h) (Or.inl ⟨by rfl, ?_⟩) hHeld ?_ ?_ | refine takeS_ 20 (N := some 66) (v := ?_) (a' := ?_) rfl rfl (by decide +kernel) (fun _ _ _ h => h) (Or.inl ⟨by rfl, ?_⟩) hHeld ?_ ?_ | refine takeS_ 21 (N := some 67) (v := ?_) (a' := ?_) rfl rfl (by decide +kernel) (fun _ _ _ h => h) (Or.inl ⟨by rfl, ?_⟩) hHeld ?_ ?_); rotate_left; (rintro w' ⟨s0, s1, s2, s3, s4, s5, s6, t0, t1, sp⟩; (try have sp := sp rfl); go_simp; first | done | (with_reducible rfl) | rfl); rotate_left; (simp only [Act.put, List.setIfInBounds_toArray, List.set_cons_zero, List.set_cons_succ, i64_w, i32_w]; rfl)) | ((first | refine takeS_ 17 (N := some 63) (v := undef) (a' := ?_) rfl rfl (by decide +kernel) (fun _ _ _ h => h) (Or.inr ⟨by rfl, rfl⟩) hHeld ?_ ?_ | refine takeS_ 18 (N := some 64) (v := undef) (a' := ?_) rfl rfl (by decide +kernel) (fun _ _ _ h => h) (Or.inr ⟨by rfl, rfl⟩) hHeld ?_ ?_ | refine takeS_ 19 (N := some 65) (v := undef) (a' := ?_) rfl rfl (by decide +kernel) (fun _ _ _ h => h) (Or.inr ⟨by rfl, rfl⟩) hHeld ?_ ?_ | refine takeS_ 20 (N := some 66) (v := undef) (a' := ?_) rfl rfl (by decide +kernel) (fun _ _ _ h => h) (Or.inr ⟨by rfl, rfl⟩) hHeld ?_ ?_ | refine takeS_ 21 (N := some 67) (v := undef) (a' := ?_) rfl rfl (by decide +kernel) (fun _ _ _ h => h) (Or.inr ⟨by rfl, rfl⟩) hHeld ?_ ?_); rotate_left; (simp only [Act.put, List.setIfInBounds_toArray, List.set_cons_zero, List.set_cons_succ, i64_w, i32_w]; rfl)))
     iterate 4 (first | ((first | refine takeS_ 22 (N := some 68) (v := ?_) (a' := ?_) rfl rfl (by decide +kernel) (fun _ _ _ h => h) (Or.inl ⟨by rfl, ?_⟩) hHeld ?_ ?_ | refine takeS_ 23 (N := some 69) (v := ?_) (a' := ?_) rfl rfl (by decide +kernel) (fun _ _ _ h => h) (Or.inl ⟨by rfl, ?_⟩) hHeld ?_ ?_ | refine takeS_ 24 (N := some 70) (v := ?_) (a' := ?_) rfl rfl (by decide +kernel) (fun _ _ _ h => h) (Or.inl ⟨by rfl, ?_⟩) hHeld ?_ ?_ | refine takeS_ 25 (N := some 71) (v := ?_) (a' := ?_) rfl rfl (by decide +kernel) (fun _ _ _ h => h) (Or.inl ⟨by rfl, ?_⟩) hHeld ?_ ?_); rotate_left; (rintro w' ⟨s0, s1, s2, s3, s4, s5, s6, t0, t1, sp⟩; (try have sp := sp rfl); go_simp; first | done | (with_reducible rfl) | rfl); rotate_left; (simp only [Act.put, List.setIfInBounds_toArray, List.set_cons_zero, List.set_cons_succ, i64_w, i32_w]; rfl)) | ((first | refine takeS_ 22 (N := some 68) (v := undef) (a' := ?_) rfl rfl (by decide +kernel) (fun _ _ _ h => h) (Or.inr ⟨by rfl, rfl⟩) hHeld ?_ ?_ | refine takeS_ 23 (N := some 69) (v := undef) (a' := ?_) rfl rfl (by decide +kernel) (fun _ _ _ h => h) (Or.inr ⟨by rfl, rfl⟩) hHeld ?_ ?_ | refine takeS_ 24 (N := some 70) (v := undef) (a' := ?_) rfl rfl (by decide +kernel) (fun _ _ _ h => h) (Or.inr ⟨by rfl, rfl⟩) hHeld ?_ ?_ | refine takeS_ 25 (N := some 71) (v := undef) (a' := ?_) rfl rfl (by decide +kernel) (fun _ _ _ h => h) (Or.inr ⟨by rfl, rfl⟩) hHeld ?_ ?_); rotate_left; (simp only [Act.put, List.setIfInBounds_toArray, List.set_cons_zero, List.set_cons_succ, i64_w, i32_w]; rfl)))
     refine done_ (by kernel_rfl) ?_
     have C6 := Lib.hid hHeld.2.2.2.2.2.2.1
     clear hHeld
     go_wp2
     go_loopw [5] (fun s5 wr => ∃ q : Nat, q ≤ x.f6.length ∧ s5 = .int .i64 q ∧ Hid (∀ p (h : p < x.f6.length), p < q → x.f6[p].f1 ∈ idsL l) ∧ Hid (Below w.heap.size w wr) ∧ Hid (wr.heap[g1]? = some (.cells #[.slice (some ad) l.length c, .int .i64 a1, .int .i64 a2, .int .i64 a3] 26 (0, 0))) ∧ Hid (wr.cell? ⟨g4, 6, none⟩ = some (.slice A6 x.f6.length c6))) (fun s5 _ => x.f6.length - (intOf s5).toNat)
     case atStart => exact ⟨0, Nat.zero_le _, rfl, Lib.hid (fun p _ h => by omega), HB5, C5, C6⟩
     case round =>
      clear HB5 C5 C6
      obtain ⟨q, hq, rfl, HQ, HB, C1, C6⟩ := hrel
      by_cases hlt : q < x.f6.length
      ·
       obtain ⟨name, node, hen⟩ : ∃ name node, x.f6[q] = ⟨name, node⟩ := ⟨_, _, rfl⟩
       have hnode : x.f6[q].f1 = node := by rw [hen]
       have hrd : rd_T61 x.f6 (q : Int) = ⟨name, node⟩ := (rdE _ q hlt).trans hen
       obtain ⟨ae, ee, e0, e1⟩ := at_T61 HRE.out (q : Int) (by omega) (by omega)
       cases ee
       rw [hrd, Int.toNat_natCast] at e1
       replace e1 := cellB e1 HB.out
       have i0 : decide (0 ≤ (q : Int)) = true := decide_eq_true (by omega)
       have i1 : decide ((q : Int) < (x.f6.length : Int)) = true := decide_eq_true (by omega)
       have HWK : Hid (wrap64 ((q : Int) + 1) = ((q + 1 : Nat) : Int)) := Lib.hid (by have := HX6.out; unfold wrap64; omega)
       have HPL2 : Hid (rehearsalref04_Place.f (l.length + 1) l a1 a2 a3 node = some (pl l node)) := Lib.hid (place_ref l a1 a2 a3 node (by have := HLN.out; omega) _ (by omega))
       have HNEG : Hid (∀ p (h : p < x.f6.length), p < q + 1 → node ∈ idsL l → x.f6[p].f1 ∈ idsL l) := Lib.hid (fun p h hp hin => by
        by_cases e : p = q
        ·
         subst e; rw [hnode]; exact hin
        ·
         exact HQ.out p h (by omega))
       have HBADT : Hid (node ∉ idsL l → chkR l a1 = 80) := Lib.hid (fun hno => chkR_tg HLT.out (by rw [HXI.out]; exact fun h => hno (by have := h q hlt; rwa [hnode] at this)))
       have HLK := Lib.hid hlt
       clear hrd hnode hen hq hlt e0
       have d0 : wr.cell? ⟨g1, 0, none⟩ = some (.slice (some ad) l.length c) := (blk_cell C1.out 0).trans rfl
       have d1 : wr.cell? ⟨g1, 1, none⟩ = some (.int .i64 a1) := (blk_cell C1.out 1).trans rfl
       have d2 : wr.cell? ⟨g1, 2, none⟩ = some (.int .i64 a2) := (blk_cell C1.out 2).trans rfl
       have d3 : wr.cell? ⟨g1, 3, none⟩ = some (.int .i64 a3) := (blk_cell C1.out 3).trans rfl
       have n6 := C6.out
       go_wp2
       refine start_ (n := 9) (S := (fun w' => w'.cell? ⟨g1, 0, none⟩ = some (.slice (some ad) l.length c) ∧ w'.cell? ⟨g1, 1, none⟩ = some (.int .i64 a1) ∧ w'.cell? ⟨g1, 2, none⟩ = some (.int .i64 a2) ∧ w'.cell? ⟨g1, 3, none⟩ = some (.int .i64 a3) ∧ w'.cell? ⟨g4, 6, none⟩ = some (.slice (some ae) x.f6.length c6) ∧ w'.cell? ⟨(ae.add (q * 2)).block, (ae.add (q * 2)).off + 1, none⟩ = some (.int .i64 node))) (ds := []) #[false, false, false, false, false, false, false, false, false] (by kernel_rfl) rfl rfl ⟨d0, d1, d2, d3, n6, e1⟩ (fun hHeld => ?_)
       have HBD := Lib.hid (below_step HB.out (Below.refl _ wr).drew)
       have CD := Lib.hid (blk_below C1.out (Below.refl _ wr).drew)
       clear HB C1 C6 d0 d1 d2 d3 n6 e1
       generalize World.drew _ = wd at HBD CD hHeld ⊢
       iterate 5 (first | ((first | refine takeS_ 0 (N := some 79) (v := ?_) (a' := ?_) rfl rfl (by decide +kernel) (fun _ _ _ h => h) (Or.inl ⟨by rfl, ?_⟩) hHeld ?_ ?_ | refine takeS_ 1 (N := some 80) (v := ?_) (a' := ?_) rfl rfl (by decide +kernel) (fun _ _ _ h => h) (Or.inl ⟨by rfl, ?_⟩) hHeld ?_ ?_ | refine takeS_ 2 (N := some 81) (v := ?_) (a' := ?_) rfl rfl (by decide +kernel) (fun _ _ _ h => h) (Or.inl ⟨by rfl, ?_⟩) hHeld ?_ ?_ | refine takeS_ 3 (N := some 82) (v := ?_) (a' := ?_) rfl rfl (by decide +kernel) (fun _ _ _ h => h) (Or.inl ⟨by rfl, ?_⟩) hHeld ?_ ?_ | refine takeS_ 4 (N := some 83) (v := ?_) (a' := ?_) rfl rfl (by decide +kernel) (fun _ _ _ h => h) (Or.inl ⟨by rfl, ?_⟩) hHeld ?_ ?_); rotate_left; (rintro w' ⟨s0, s1, s2, s3, s4, s5⟩; go_simp; first | done | (with_reducible rfl) | rfl); rotate_left; (simp only [Act.put, List.setIfInBounds_toArray, List.set_cons_zero, List.set_cons_succ, i64_w, i32_w]; rfl)) | ((first | refine takeS_ 0 (N := some 79) (v := undef) (a' := ?_) rfl rfl (by decide +kernel) (fun _ _ _ h => h) (Or.inr ⟨by rfl, rfl⟩) hHeld ?_ ?_ | refine takeS_ 1 (N := some 80) (v := undef) (a' := ?_) rfl rfl (by decide +kernel) (fun _ _ _ h => h) (Or.inr ⟨by rfl, rfl⟩) hHeld ?_ ?_ | refine takeS_ 2 (N := some 81) (v := undef) (a' := ?_) rfl rfl (by decide +kernel) (fun _ _ _ h => h) (Or.inr ⟨by rfl, rfl⟩) hHeld ?_ ?_ | refine takeS_ 3 (N := some 82) (v := undef) (a' := ?_) rfl rfl (by decide +kernel) (fun _ _ _ h => h) (Or.inr ⟨by rfl, rfl⟩) hHeld ?_ ?_ | refine takeS_ 4 (N := some 83) (v := undef) (a' := ?_) rfl rfl (by decide +kernel) (fun _ _ _ h => h) (Or.inr ⟨by rfl, rfl⟩) hHeld ?_ ?_); rotate_left; (simp only [Act.put, List.setIfInBounds_toArray, List.set_cons_zero, List.set_cons_succ, i64_w, i32_w]; rfl)))
       iterate 2 (first | ((first | refine takeS_ 5 (N := some 84) (v := ?_) (a' := ?_) rfl rfl (by decide +kernel) (fun _ _ _ h => h) (Or.inl ⟨by rfl, ?_⟩) hHeld ?_ ?_ | refine takeS_ 6 (N := some 85) (v := ?_) (a' := ?_) rfl rfl (by decide +kernel) (fun _ _ _ h => h) (Or.inl ⟨by rfl, ?_⟩) hHeld ?_ ?_); rotate_left; (rintro w' ⟨s0, s1, s2, s3, s4, s5⟩; go_simp; first | done | (with_reducible rfl) | rfl); rotate_left; (simp only [Act.put, List.setIfInBounds_toArray, List.set_cons_zero, List.set_cons_succ, i64_w, i32_w]; rfl)) | ((first | refine takeS_ 5 (N := some 84) (v := undef) (a' := ?_) rfl rfl (by decide +kernel) (fun _ _ _ h => h) (Or.inr ⟨by rfl, rfl⟩) hHeld ?_ ?_ | refine takeS_ 6 (N := some 85) (v := undef) (a' := ?_) rfl rfl (by decide +kernel) (fun _ _ _ h => h) (Or.inr ⟨by rfl, rfl⟩) hHeld ?_ ?_); rotate_left; (simp only [Act.put, List.setIfInBounds_toArray, List.set_cons_zero, List.set_cons_succ, i64_w, i32_w]; rfl)))
       refine oneS_ 7 (N := some 86) rfl rfl (by kernel_rfl) (by decide) (fun K hK => ?_)
       refine goes_ Tryd.func61 (by kernel_rfl) rfl #[.agg #[.slice (some ad) l.length c, .int .i64 a1, .int .i64 a2, .int .i64 a3], .int .i64 node] (by rfl) rfl rfl (by first | rfl | (simp [Act.eval]; done) | (simp [Act.eval, Act.put]; done)) ?_
       refine (rehearsalref04_Place.calls _ _ _ l a1 a2 a3 node _ _ (Kd.C_below HR0.out HBD.out) HC0.out HPL2.out).mono ?_
       rintro e w5 ⟨rfl, hb5⟩
       have HB5 := Lib.hid (below_step HBD.out hb5)
       have C5 := Lib.hid (blk_below CD.out hb5)
       refine ⟨_, rfl, ?_⟩
       refine hK.out _ _ (by obtain ⟨s0, s1, s2, s3, s4, s5⟩ := hHeld; exact ⟨cellB s0 hb5, cellB s1 hb5, cellB s2 hb5, cellB s3 hb5, cellB s4 hb5, cellB s5 hb5⟩) (fun hHeld => ?_)
       clear hK K
       refine norm_ (a' := ?_) ?_ ?_
       rotate_left
       ·
        show Act.put _ (some 86) _ = _
        simp only [Act.put, List.setIfInBounds_toArray, List.set_cons_zero, List.set_cons_succ, i64_w, i32_w]
        rfl
       by_cases hneg : pl l node < 0
       ·
        have b9 : decide (pl l node < 0) = true := decide_eq_true hneg
        have HC8 := Lib.hid (HBADT.out (pl_sign.1 hneg))
        clear hneg
        iterate 1 (first | ((first | refine takeS_ 8 (N := some 87) (v := ?_) (a' := ?_) rfl rfl (by decide +kernel) (fun _ _ _ h => h) (Or.inl ⟨by rfl, ?_⟩) hHeld ?_ ?_); rotate_left; (rintro w' ⟨s0, s1, s2, s3, s4, s5⟩; go_simp; first | done | (with_reducible rfl) | rfl); rotate_left; (simp only [Act.put, List.setIfInBounds_toArray, List.set_cons_zero, List.set_cons_succ, i64_w, i32_w]; rfl)) | ((first | refine takeS_ 8 (N := some 87) (v := undef) (a' := ?_) rfl rfl (by decide +kernel) (fun _ _ _ h => h) (Or.inr ⟨by rfl, rfl⟩) hHeld ?_ ?_); rotate_left; (simp only [Act.put, List.setIfInBounds_toArray, List.set_cons_zero, List.set_cons_succ, i64_w, i32_w]; rfl)))
        refine done_ (by kernel_rfl) ?_
        go_wp2
        go_ret
        exact ⟨by rw [HC8.out]; rfl, HB5.out⟩
       ·
        have b9 : decide (pl l node < 0) = false := decide_eq_false hneg
        have hin : node ∈ idsL l := Decidable.byContradiction (fun h => hneg (pl_sign.2 h))
        clear hneg
        iterate 1 (first | ((first | refine takeS_ 8 (N := some 87) (v := ?_) (a' := ?_) rfl rfl (by decide +kernel) (fun _ _ _ h => h) (Or.inl ⟨by rfl, ?_⟩) hHeld ?_ ?_); rotate_left; (rintro w' ⟨s0, s1, s2, s3, s4, s5⟩; go_simp; first | done | (with_reducible rfl) | rfl); rotate_left; (simp only [Act.put, List.setIfInBounds_toArray, List.set_cons_zero, List.set_cons_succ, i64_w, i32_w]; rfl)) | ((first | refine takeS_ 8 (N := some 87) (v := undef) (a' := ?_) rfl rfl (by decide +kernel) (fun _ _ _ h => h) (Or.inr ⟨by rfl, rfl⟩) hHeld ?_ ?_); rotate_left; (simp only [Act.put, List.setIfInBounds_toArray, List.set_cons_zero, List.set_cons_succ, i64_w, i32_w]; rfl)))
        refine done_ (by kernel_rfl) ?_
        have C6 := Lib.hid hHeld.2.2.2.2.1
        clear hHeld
        go_wp2
        go_roundw
        case rel => exact ⟨q + 1, HLK.out, by rw [HWK.out], Lib.hid (fun p h hp => HNEG.out p h hp hin), HB5, C5, C6⟩
        case measure => exact meas_ _ _ HWK.out HLK.out
      ·
       obtain rfl : q = x.f6.length := by omega
       clear hlt hq
       have d0 : wr.cell? ⟨g1, 0, none⟩ = some (.slice (some ad) l.length c) := (blk_cell C1.out 0).trans rfl
       have HNI : Hid (∀ p, p < i + 1 → nodeAt l a1 p = true ∧ tgOK l p = true) := Lib.hid (fun p hp => by
        by_cases e : p = i
        ·
         subst e; exact ⟨hna, tgOK_of HLT.out (by rw [HXI.out]; exact fun p h => HQ.out p h (by omega))⟩
        ·
         exact HP.out p (by omega))
       have n6 := C6.out
       go_wp2
       go_roundw
       case rel => exact ⟨i + 1, HLT.out, by rw [HWR.out], HNI, HB, C1⟩
       case measure => exact meas_ _ _ HWR.out HLT.out
  ·
   obtain rfl : i = l.length := by omega
   have hn : nodesOK l a1 = true := List.all_eq_true.2 (fun q hq => (HP.out q (List.mem_range.1 hq)).1)
   have htg : ((List.range l.length).all (tgOK l)) = true := List.all_eq_true.2 (fun q hq => (HP.out q (List.mem_range.1 hq)).2)
   have HCR : Hid (chkR l a1 = refR l) := Lib.hid (by unfold chkR; rw [if_pos HH.out, if_pos ⟨hn, htg⟩])
   have HRI := Lib.hid (rises_of hn)
   have HNM := Lib.hid (names64 hn)
   have HL6 : Hid (∀ x ∈ l, x.f6.length ≤ 140737488351232) := Lib.hid (fun x hx => (HBB.out x hx).2.1)
   clear hi hlt HP hn htg
   go_wp2
   go_loopw [6] (fun s6 wr => ∃ i : Nat, i ≤ l.length ∧ s6 = .int .i64 i ∧ Hid (∀ q, q < i → lkOK l q = true) ∧ Hid (Below w.heap.size w wr) ∧ Hid (wr.heap[g1]? = some (.cells #[.slice (some ad) l.length c, .int .i64 a1, .int .i64 a2, .int .i64 a3] 26 (0, 0)))) (fun s6 _ => l.length - (intOf s6).toNat)
   case atStart => exact ⟨0, Nat.zero_le _, rfl, Lib.hid (fun q h => by omega), HB, B1⟩
   case round =>
    clear HB B1 d0
    obtain ⟨i, hi, rfl, HP, HB, B1⟩ := hrel
    have d0 : wr.cell? ⟨g1, 0, none⟩ = some (.slice (some ad) l.length c) := (blk_cell B1.out 0).trans rfl
    by_cases hlt : i < l.length
    ·
     obtain ⟨y, hy⟩ : ∃ y, l[i] = y := ⟨_, rfl⟩
     have hrd : rd_T44 l (i : Int) = y := (rdN l i hlt).trans hy
     obtain ⟨ad', A6, c6, ea, x0, x1, x2, x3, x4, x5, x6, hl6, hi6⟩ := at_T44 HR0.out (i : Int) (by omega) (by omega)
     cases ea
     rw [hrd, Int.toNat_natCast] at x0 x1
     clear x2 x3 x4 x5 x6 hl6 hi6
     replace x0 := cellB x0 HB.out
     replace x1 := cellB x1 HB.out
     obtain ⟨KL, hKL⟩ := links_ev l a1 a2 a3 y.f0 HLN.out HL6.out
     have HLK : Hid (rehearsalref04_Links.f KL l a1 a2 a3 y.f0 = some (lk l y.f0 : Int)) := Lib.hid (hKL KL (Nat.le_refl _))
     have HWR : Hid (wrap64 ((i : Int) + 1) = ((i + 1 : Nat) : Int)) := Lib.hid (by have := HLN.out; unfold wrap64; omega)
     have HLT := Lib.hid hlt
     have hcs := lk_cases (a1 := a1) hlt HH.out
     rw [hy] at hcs
     have i0 : decide (0 ≤ (i : Int)) = true := decide_eq_true (by omega)
     have i1 : decide ((i : Int) < (l.length : Int)) = true := decide_eq_true (by omega)
     have i2 : (i < l.length) = True := eq_true hlt
     have d1 : wr.cell? ⟨g1, 1, none⟩ = some (.int .i64 a1) := (blk_cell B1.out 1).trans rfl
     have d2 : wr.cell? ⟨g1, 2, none⟩ = some (.int .i64 a2) := (blk_cell B1.out 2).trans rfl
     have d3 : wr.cell? ⟨g1, 3, none⟩ = some (.int .i64 a3) := (blk_cell B1.out 3).trans rfl
     clear hrd hKL
     go_wp2
     refine start_ (n := 9) (S := (fun w' => w'.cell? ⟨g1, 0, none⟩ = some (.slice (some ad) l.length c) ∧ w'.cell? ⟨g1, 1, none⟩ = some (.int .i64 a1) ∧ w'.cell? ⟨g1, 2, none⟩ = some (.int .i64 a2) ∧ w'.cell? ⟨g1, 3, none⟩ = some (.int .i64 a3) ∧ w'.cell? (ad.add (i * 7)) = some (.int .i64 y.f0))) (ds := [7]) #[false, false, false, false, false, false, false, false, false] (by kernel_rfl) rfl rfl ⟨d0, d1, d2, d3, x0⟩ (fun hHeld => ?_)
     have HBD := Lib.hid (below_step HB.out (Below.refl _ wr).drew)
     have CD := Lib.hid (blk_below B1.out (Below.refl _ wr).drew)
     replace x1 := cellB x1 (Below.refl _ wr).drew
     clear HB B1 d0 d1 d2 d3 x0
     generalize World.drew _ = wd at HBD CD x1 hHeld ⊢
     iterate 5 (first | ((first | refine takeS_ 0 (N := some 95) (v := ?_) (a' := ?_) rfl rfl (by decide +kernel) (fun _ _ _ h => h) (Or.inl ⟨by rfl, ?_⟩) hHeld ?_ ?_ | refine takeS_ 1 (N := some 96) (v := ?_) (a' := ?_) rfl rfl (by decide +kernel) (fun _ _ _ h => h) (Or.inl ⟨by rfl, ?_⟩) hHeld ?_ ?_ | refine takeS_ 2 (N := some 97) (v := ?_) (a' := ?_) rfl rfl (by decide +kernel) (fun _ _ _ h => h) (Or.inl ⟨by rfl, ?_⟩) hHeld ?_ ?_ | refine takeS_ 3 (N := some 98) (v := ?_) (a' := ?_) rfl rfl (by decide +kernel) (fun _ _ _ h => h) (Or.inl ⟨by rfl, ?_⟩) hHeld ?_ ?_ | refine takeS_ 4 (N := some 99) (v := ?_) (a' := ?_) rfl rfl (by decide +kernel) (fun _ _ _ h => h) (Or.inl ⟨by rfl, ?_⟩) hHeld ?_ ?_); rotate_left; (rintro w' ⟨s0, s1, s2, s3, s4⟩; go_simp; first | done | (with_reducible rfl) | rfl); rotate_left; (simp only [Act.put, List.setIfInBounds_toArray, List.set_cons_zero, List.set_cons_succ, i64_w, i32_w]; rfl)) | ((first | refine takeS_ 0 (N := some 95) (v := undef) (a' := ?_) rfl rfl (by decide +kernel) (fun _ _ _ h => h) (Or.inr ⟨by rfl, rfl⟩) hHeld ?_ ?_ | refine takeS_ 1 (N := some 96) (v := undef) (a' := ?_) rfl rfl (by decide +kernel) (fun _ _ _ h => h) (Or.inr ⟨by rfl, rfl⟩) hHeld ?_ ?_ | refine takeS_ 2 (N := some 97) (v := undef) (a' := ?_) rfl rfl (by decide +kernel) (fun _ _ _ h => h) (Or.inr ⟨by rfl, rfl⟩) hHeld ?_ ?_ | refine takeS_ 3 (N := some 98) (v := undef) (a' := ?_) rfl rfl (by decide +kernel) (fun _ _ _ h => h) (Or.inr ⟨by rfl, rfl⟩) hHeld ?_ ?_ | refine takeS_ 4 (N := some 99) (v := undef) (a' := ?_) rfl rfl (by decide +kernel) (fun _ _ _ h => h) (Or.inr ⟨by rfl, rfl⟩) hHeld ?_ ?_); rotate_left; (simp only [Act.put, List.setIfInBounds_toArray, List.set_cons_zero, List.set_cons_succ, i64_w, i32_w]; rfl)))
     iterate 2 (first | ((first | refine takeS_ 5 (N := some 100) (v := ?_) (a' := ?_) rfl rfl (by decide +kernel) (fun _ _ _ h => h) (Or.inl ⟨by rfl, ?_⟩) hHeld ?_ ?_ | refine takeS_ 6 (N := some 101) (v := ?_) (a' := ?_) rfl rfl (by decide +kernel) (fun _ _ _ h => h) (Or.inl ⟨by rfl, ?_⟩) hHeld ?_ ?_); rotate_left; (rintro w' ⟨s0, s1, s2, s3, s4⟩; go_simp; first | done | (with_reducible rfl) | rfl); rotate_left; (simp only [Act.put, List.setIfInBounds_toArray, List.set_cons_zero, List.set_cons_succ, i64_w, i32_w]; rfl)) | ((first | refine takeS_ 5 (N := some 100) (v := undef) (a' := ?_) rfl rfl (by decide +kernel) (fun _ _ _ h => h) (Or.inr ⟨by rfl, rfl⟩) hHeld ?_ ?_ | refine takeS_ 6 (N := some 101) (v := undef) (a' := ?_) rfl rfl (by decide +kernel) (fun _ _ _ h => h) (Or.inr ⟨by rfl, rfl⟩) hHeld ?_ ?_); rotate_left; (simp only [Act.put, List.setIfInBounds_toArray, List.set_cons_zero, List.set_cons_succ, i64_w, i32_w]; rfl)))
     refine lastS_ 7 (N := some 102) rfl rfl (by kernel_rfl) (by decide) (fun K hK => ?_)
     refine goes_ Tryd.func34 (by kernel_rfl) rfl #[.agg #[.slice (some ad) l.length c, .int .i64 a1, .int .i64 a2, .int .i64 a3], .int .i64 y.f0] (by rfl) rfl rfl (by first | rfl | (simp [Act.eval]; done) | (simp [Act.eval, Act.put]; done)) ?_
     refine (rehearsalref04_Links.calls _ _ _ l a1 a2 a3 y.f0 _ _ (Kd.C_below HR0.out HBD.out) HC0.out HLK.out).mono ?_
     rintro e w5 ⟨rfl, hb5⟩
     have HB5 := Lib.hid (below_step HBD.out hb5)
     have C5 := Lib.hid (blk_below CD.out hb5)
     replace x1 := cellB x1 hb5
     refine ⟨_, rfl, ?_⟩
     refine hK.out _ _ ?_
     clear hK K
     refine norm_ (a' := ?_) ?_ ?_
     rotate_left
     ·
      show Act.put _ (some 102) _ = _
      simp only [Act.put, List.setIfInBounds_toArray, List.set_cons_zero, List.set_cons_succ, i64_w, i32_w]
      rfl
     iterate 1 (first | ((first | refine pureS_ 8 (N := some 7) (v := ?_) (a' := ?_) rfl rfl (by decide +kernel) (fun _ _ _ h => h) (Or.inl ⟨by rfl, ?_⟩) ?_ ?_); rotate_left; (intro w'; go_simp; first | done | (with_reducible rfl) | rfl); rotate_left; (simp only [Act.put, List.setIfInBounds_toArray, List.set_cons_zero, List.set_cons_succ, i64_w, i32_w]; rfl)) | ((first | refine pureS_ 8 (N := some 7) (v := undef) (a' := ?_) rfl rfl (by decide +kernel) (fun _ _ _ h => h) (Or.inr ⟨by rfl, rfl⟩) ?_ ?_); rotate_left; (simp only [Act.put, List.setIfInBounds_toArray, List.set_cons_zero, List.set_cons_succ, i64_w, i32_w]; rfl)))
     refine done_ (by kernel_rfl) ?_
     clear HBD CD hb5
     have d0 : w5.cell? ⟨g1, 0, none⟩ = some (.slice (some ad) l.length c) := (blk_cell C5.out 0).trans rfl
     generalize lk l y.f0 = n at hcs HLK ⊢
     clear HLK
     rcases hcs with ⟨hna, hb⟩ | ⟨hna, hg⟩
     ·
      have HC8 : Hid (chkR l a1 = 80) := Lib.hid (HCR.out.trans (refR_lk HLT.out hna))
      rcases hb with ⟨h1, h2⟩ | ⟨h1, h2⟩ | ⟨h1, h2, h3⟩
      all_goals
       (have f0 : ((i : Int) == 0) = decide (i = 0) := by rw [Bool.eq_iff_iff, beq_iff_eq, decide_eq_true_eq]; omega)
       (have f1 : decide (0 < (i : Int)) = decide (0 < i) := by rw [decide_eq_decide]; omega)
       (have f2 : decide (0 < (n : Int)) = decide (0 < n) := by rw [decide_eq_decide]; omega)
       (have f3 : ((n : Int) == 0) = decide (n = 0) := by rw [Bool.eq_iff_iff, beq_iff_eq, decide_eq_true_eq]; omega)
       (have f4 : decide (1 < (n : Int)) = decide (1 < n) := by rw [decide_eq_decide]; omega)
       ((try have g1 : decide (i = 0) = true := decide_eq_true h1); (try have g1 : decide (i = 0) = false := decide_eq_false (by omega)); (try have g2 : decide (0 < i) = true := decide_eq_true (by omega)); (try have g2 : decide (0 < i) = false := decide_eq_false (by omega)); (try have g3 : decide (0 < n) = true := decide_eq_true (by omega)); (try have g3 : decide (0 < n) = false := decide_eq_false (by omega)); (try have g4 : decide (n = 0) = true := decide_eq_true (by omega)); (try have g4 : decide (n = 0) = false := decide_eq_false (by omega)); (try have g5 : decide (1 < n) = true := decide_eq_true (by omega)); (try have g5 : decide (1 < n) = false := decide_eq_false (by omega)); (try have g6 : (y.f1 == 1) = true := beq_iff_eq.mpr (by omega)); (try have g6 : (y.f1 == 1) = false := beq_eq_false_iff_ne.mpr (by omega)); (try rw [g1] at f0); (try rw [g2] at f1); (try rw [g3] at f2); (try rw [g4] at f3); (try rw [g5] at f4); clear h1 h2; (try clear h3); (try clear h4))
       clear hna
       go_wp2
       go_ret
       exact ⟨by rw [HC8.out]; rfl, HB5.out⟩
     ·
      rcases hg with ⟨h1, h2, h3⟩ | ⟨h1, h2, h3, h4⟩ | ⟨h1, h2, h3⟩
      all_goals
       (have f0 : ((i : Int) == 0) = decide (i = 0) := by rw [Bool.eq_iff_iff, beq_iff_eq, decide_eq_true_eq]; omega)
       (have f1 : decide (0 < (i : Int)) = decide (0 < i) := by rw [decide_eq_decide]; omega)
       (have f2 : decide (0 < (n : Int)) = decide (0 < n) := by rw [decide_eq_decide]; omega)
       (have f3 : ((n : Int) == 0) = decide (n = 0) := by rw [Bool.eq_iff_iff, beq_iff_eq, decide_eq_true_eq]; omega)
       (have f4 : decide (1 < (n : Int)) = decide (1 < n) := by rw [decide_eq_decide]; omega)
       ((try have g1 : decide (i = 0) = true := decide_eq_true h1); (try have g1 : decide (i = 0) = false := decide_eq_false (by omega)); (try have g2 : decide (0 < i) = true := decide_eq_true (by omega)); (try have g2 : decide (0 < i) = false := decide_eq_false (by omega)); (try have g3 : decide (0 < n) = true := decide_eq_true (by omega)); (try have g3 : decide (0 < n) = false := decide_eq_false (by omega)); (try have g4 : decide (n = 0) = true := decide_eq_true (by omega)); (try have g4 : decide (n = 0) = false := decide_eq_false (by omega)); (try have g5 : decide (1 < n) = true := decide_eq_true (by omega)); (try have g5 : decide (1 < n) = false := decide_eq_false (by omega)); (try have g6 : (y.f1 == 1) = true := beq_iff_eq.mpr (by omega)); (try have g6 : (y.f1 == 1) = false := beq_eq_false_iff_ne.mpr (by omega)); (try rw [g1] at f0); (try rw [g2] at f1); (try rw [g3] at f2); (try rw [g4] at f3); (try rw [g5] at f4); clear h1 h2; (try clear h3); (try clear h4))
       have HNI : Hid (∀ q, q < i + 1 → lkOK l q = true) := Lib.hid (fun q hq => by
        by_cases e : q = i
        ·
         subst e; exact hna
        ·
         exact HP.out q (by omega))
       clear hna
       go_wp2
       go_roundw
       case rel => exact ⟨i + 1, HLT.out, by rw [HWR.out], HNI, HB5, C5⟩
       case measure => exact meas_ _ _ HWR.out HLT.out
    ·
     obtain rfl : i = l.length := by omega
     have hlk : ((List.range l.length).all (lkOK l)) = true := List.all_eq_true.2 (fun q hq => HP.out q (List.mem_range.1 hq))
     have HRR : Hid (chkR l a1 = if (wayP l (l.length + 1) [] 1 [47]).length = l.length then 0 else 80) := Lib.hid (by rw [HCR.out]; unfold refR; rw [if_pos hlk])
     obtain ⟨KW, hKW⟩ := way_ev l a1 a2 a3 HLN.out HRI.out HL6.out HNM.out (l.length + 1) [] 1 [47] List.nodup_nil (fun x hx => by cases hx) (by simp) (by simp)
     have HWY : Hid (rehearsalref04_Way.f KW l a1 a2 a3 1 (⟨#[47]⟩ : ByteArray) [] = some ((wayP l (l.length + 1) [] 1 [47]).map toW)) := Lib.hid (hKW KW (Nat.le_refl _))
     clear hlk hKW hi hlt HP
     have d1 : wr.cell? ⟨g1, 1, none⟩ = some (.int .i64 a1) := (blk_cell B1.out 1).trans rfl
     have d2 : wr.cell? ⟨g1, 2, none⟩ = some (.int .i64 a2) := (blk_cell B1.out 2).trans rfl
     have d3 : wr.cell? ⟨g1, 3, none⟩ = some (.int .i64 a3) := (blk_cell B1.out 3).trans rfl
     go_wp2
     refine start_ (n := 7) (S := (fun w' => w'.cell? ⟨g1, 0, none⟩ = some (.slice (some ad) l.length c) ∧ w'.cell? ⟨g1, 1, none⟩ = some (.int .i64 a1) ∧ w'.cell? ⟨g1, 2, none⟩ = some (.int .i64 a2) ∧ w'.cell? ⟨g1, 3, none⟩ = some (.int .i64 a3))) (ds := []) #[false, false, false, false, false, false, false] (by kernel_rfl) rfl rfl ⟨d0, d1, d2, d3⟩ (fun hHeld => ?_)
     have HBD := Lib.hid (below_step HB.out (Below.refl _ wr).drew)
     have CD := Lib.hid (blk_below B1.out (Below.refl _ wr).drew)
     clear HB B1 d0 d1 d2 d3
     generalize World.drew _ = wd at HBD CD hHeld ⊢
     iterate 4 (first | ((first | refine takeS_ 0 (N := some 130) (v := ?_) (a' := ?_) rfl rfl (by decide +kernel) (fun _ _ _ h => h) (Or.inl ⟨by rfl, ?_⟩) hHeld ?_ ?_ | refine takeS_ 3 (N := some 133) (v := ?_) (a' := ?_) rfl rfl (by decide +kernel) (fun _ _ _ h => h) (Or.inl ⟨by rfl, ?_⟩) hHeld ?_ ?_ | refine takeS_ 4 (N := some 134) (v := ?_) (a' := ?_) rfl rfl (by decide +kernel) (fun _ _ _ h => h) (Or.inl ⟨by rfl, ?_⟩) hHeld ?_ ?_ | refine takeS_ 5 (N := some 135) (v := ?_) (a' := ?_) rfl rfl (by decide +kernel) (fun _ _ _ h => h) (Or.inl ⟨by rfl, ?_⟩) hHeld ?_ ?_); rotate_left; (rintro w' ⟨s0, s1, s2, s3⟩; go_simp; first | done | (with_reducible rfl) | rfl); rotate_left; (simp only [Act.put, List.setIfInBounds_toArray, List.set_cons_zero, List.set_cons_succ, i64_w, i32_w]; rfl)) | ((first | refine takeS_ 0 (N := some 130) (v := undef) (a' := ?_) rfl rfl (by decide +kernel) (fun _ _ _ h => h) (Or.inr ⟨by rfl, rfl⟩) hHeld ?_ ?_ | refine takeS_ 3 (N := some 133) (v := undef) (a' := ?_) rfl rfl (by decide +kernel) (fun _ _ _ h => h) (Or.inr ⟨by rfl, rfl⟩) hHeld ?_ ?_ | refine takeS_ 4 (N := some 134) (v := undef) (a' := ?_) rfl rfl (by decide +kernel) (fun _ _ _ h => h) (Or.inr ⟨by rfl, rfl⟩) hHeld ?_ ?_ | refine takeS_ 5 (N := some 135) (v := undef) (a' := ?_) rfl rfl (by decide +kernel) (fun _ _ _ h => h) (Or.inr ⟨by rfl, rfl⟩) hHeld ?_ ?_); rotate_left; (simp only [Act.put, List.setIfInBounds_toArray, List.set_cons_zero, List.set_cons_succ, i64_w, i32_w]; rfl)))
     refine oneS_ 1 (N := some 131) rfl rfl (by kernel_rfl) (by decide) (fun K hK => ?_)
     refine goes_ Tryd.func62 (by kernel_rfl) rfl #[.agg #[.slice (some ad) l.length c, .int .i64 a1, .int .i64 a2, .int .i64 a3], .int .i64 1, .string (⟨#[47]⟩ : ByteArray), .slice none 0 0] (by rfl) rfl rfl (by first | rfl | (simp [Act.eval]; done) | (simp [Act.eval, Act.put]; done)) ?_
     refine (rehearsalref04_Way.calls KW _ _ l a1 a2 a3 1 (⟨#[47]⟩ : ByteArray) (fun _ => False) (.slice none 0 0) [] _ w _ HBD.out (Kd.C_kept_came k44_heap HR0.out HBD.out (fun _ h => h.elim)) HC0.out (Kd.R_nil _ _ _ _ _) HWY.out).mono ?_
     rintro e w5 ⟨v5, rfl, ho5, hb5, hk5⟩
     have HB5 := Lib.hid hb5
     have C5 := Lib.hid (blk_kept CD.out hk5 (fun h => h))
     obtain ⟨A5, c5, e5⟩ := Kd.R_slice ho5
     rw [List.length_map] at e5
     subst e5
     refine ⟨_, rfl, ?_⟩
     refine hK.out _ _ ⟨(blk_cell C5.out 0).trans rfl, (blk_cell C5.out 1).trans rfl, (blk_cell C5.out 2).trans rfl, (blk_cell C5.out 3).trans rfl⟩ (fun hHeld => ?_)
     clear hK K ho5 hk5 hb5
     refine norm_ (a' := ?_) ?_ ?_
     rotate_left
     ·
      show Act.put _ (some 131) _ = _
      simp only [Act.put, List.setIfInBounds_toArray, List.set_cons_zero, List.set_cons_succ, i64_w, i32_w]
      rfl
     by_cases he : (wayP l (l.length + 1) [] 1 [47]).length = l.length
     ·
      have HO := Lib.hid (HRR.out.trans (if_pos he))
      have k0 : (((wayP l (l.length + 1) [] 1 [47]).length : Int) != (l.length : Int)) = false := bne_eq_false_iff_eq.mpr (by omega)
      clear he
      iterate 2 (first | ((first | refine takeS_ 2 (N := some 132) (v := ?_) (a' := ?_) rfl rfl (by decide +kernel) (fun _ _ _ h => h) (Or.inl ⟨by rfl, ?_⟩) hHeld ?_ ?_ | refine takeS_ 6 (N := some 136) (v := ?_) (a' := ?_) rfl rfl (by decide +kernel) (fun _ _ _ h => h) (Or.inl ⟨by rfl, ?_⟩) hHeld ?_ ?_); rotate_left; (rintro w' ⟨s0, s1, s2, s3⟩; go_simp; first | done | (with_reducible rfl) | rfl); rotate_left; (simp only [Act.put, List.setIfInBounds_toArray, List.set_cons_zero, List.set_cons_succ, i64_w, i32_w]; rfl)) | ((first | refine takeS_ 2 (N := some 132) (v := undef) (a' := ?_) rfl rfl (by decide +kernel) (fun _ _ _ h => h) (Or.inr ⟨by rfl, rfl⟩) hHeld ?_ ?_ | refine takeS_ 6 (N := some 136) (v := undef) (a' := ?_) rfl rfl (by decide +kernel) (fun _ _ _ h => h) (Or.inr ⟨by rfl, rfl⟩) hHeld ?_ ?_); rotate_left; (simp only [Act.put, List.setIfInBounds_toArray, List.set_cons_zero, List.set_cons_succ, i64_w, i32_w]; rfl)))
      refine done_ (by kernel_rfl) ?_
      go_wp2
      go_ret
      exact ⟨by rw [HO.out]; rfl, HB5.out⟩
     ·
      have HO := Lib.hid (HRR.out.trans (if_neg he))
      have k0 : (((wayP l (l.length + 1) [] 1 [47]).length : Int) != (l.length : Int)) = true := bne_iff_ne.mpr (by omega)
      clear he
      iterate 2 (first | ((first | refine takeS_ 2 (N := some 132) (v := ?_) (a' := ?_) rfl rfl (by decide +kernel) (fun _ _ _ h => h) (Or.inl ⟨by rfl, ?_⟩) hHeld ?_ ?_ | refine takeS_ 6 (N := some 136) (v := ?_) (a' := ?_) rfl rfl (by decide +kernel) (fun _ _ _ h => h) (Or.inl ⟨by rfl, ?_⟩) hHeld ?_ ?_); rotate_left; (rintro w' ⟨s0, s1, s2, s3⟩; go_simp; first | done | (with_reducible rfl) | rfl); rotate_left; (simp only [Act.put, List.setIfInBounds_toArray, List.set_cons_zero, List.set_cons_succ, i64_w, i32_w]; rfl)) | ((first | refine takeS_ 2 (N := some 132) (v := undef) (a' := ?_) rfl rfl (by decide +kernel) (fun _ _ _ h => h) (Or.inr ⟨by rfl, rfl⟩) hHeld ?_ ?_ | refine takeS_ 6 (N := some 136) (v := undef) (a' := ?_) rfl rfl (by decide +kernel) (fun _ _ _ h => h) (Or.inr ⟨by rfl, rfl⟩) hHeld ?_ ?_); rotate_left; (simp only [Act.put, List.setIfInBounds_toArray, List.set_cons_zero, List.set_cons_succ, i64_w, i32_w]; rfl)))
      refine done_ (by kernel_rfl) ?_
      go_wp2
      go_ret
      exact ⟨by rw [HO.out]; rfl, HB5.out⟩
end Go.Proofs.YtnpnablnnfekkaaDoor.PTr
set_option linter.unusedVariables false
namespace Go.Proofs.YtnpnablnnfekkaaDoor.PTr
open Go.RowKit Go.Proofs.YtnpnablnnfekkaaDoor Go.Proofs.YtnpnablnnfekkaaDoorW.PrintWords
instance Bd_dec (l : List Nod) : Decidable (Bd l) := inferInstanceAs (Decidable (∀ x ∈ l, x.f5.size ≤ 140737488351232 ∧ x.f6.length ≤ 140737488351232 ∧ ∀ e ∈ x.f6, e.f0.size ≤ 140737488351232))
def rehearsalref04_Check.f (k : Nat) (l : List Nod) (a1 a2 a3 : Int) : Option Int := if l.length ≤ 512 → Bd l then some (chkR l a1) else none
theorem rehearsalref04_Check.calls (k : Nat) (A0_0 : Option Addr) (c0_0 : Nat) (l0_0 : List Nod) (a0_1 : Int) (a0_2 : Int) (a0_3 : Int) (r : Int) (w : World) (hr0_0 : Kd.C k44 w A0_0 l0_0.length l0_0) (hc0_0 : l0_0.length ≤ c0_0) (h : rehearsalref04_Check.f k l0_0 a0_1 a0_2 a0_3 = some r) :
  Calls Tryd.prog 18 #[.agg #[.slice A0_0 l0_0.length c0_0, .int .i64 a0_1, .int .i64 a0_2, .int .i64 a0_3]] w fun e w' => e = .returned (.int .i64 r) ∧ Below w.heap.size w w' := by
 unfold rehearsalref04_Check.f at h
 split at h
 case isTrue hB => cases h; exact rcheck_any l0_0 A0_0 c0_0 a0_1 a0_2 a0_3 w hr0_0 hc0_0 hB
 case isFalse => cases h
theorem rchk_ev (l : List Nod) (a1 a2 a3 : Int) (hB : l.length ≤ 512 → Bd l) : Evt (fun k => rehearsalref04_Check.f k l a1 a2 a3) (chk l a1) := by
 rw [← chk_same]
 refine ⟨0, fun k _ => ?_⟩
 show rehearsalref04_Check.f k l a1 a2 a3 = _
 unfold rehearsalref04_Check.f
 rw [if_pos hB]
end Go.Proofs.YtnpnablnnfekkaaDoor.PTr
namespace Go.Proofs.YtnpnablnnfekkaaDoor.PTr
open Go.RowKit Go.Proofs.YtnpnablnnfekkaaDoorW.PrintWords Go.Proofs.YtnpnablnnfekkaaDoorW.PrintLast Go.Proofs.YtnpnablnnfekkaaDoorW.PrintMore
attribute [local go_sem] max2_int min2_int max_two min_two max_three min_three max_four min_four   -- for this text's walks alone
set_option linter.unusedVariables false
set_option linter.unusedSimpArgs false
theorem eqA24 (d : Nat) (w : World) (x0 y0 : Int) (x1 y1 : Int) :
  (Op.equalIn (d + 2) 24 (.agg #[.int .i64 x0, .int .i64 x1]) (.agg #[.int .i64 y0, .int .i64 y1])).run Tryd.prog w = .ok (x0 == y0 && (x1 == y1)) w := by
 refine eqA_of Tryd.underlying24 (by kernel_rfl) ?_
 refine eqf_cons (by rfl) (by go_simp; rfl) (by go_simp; rfl) (by go_simp) ?_
 exact eqf_last (by rfl) (by go_simp; rfl) (by go_simp; rfl) (by go_simp)
end Go.Proofs.YtnpnablnnfekkaaDoor.PTr
namespace Go.Proofs.YtnpnablnnfekkaaDoor.PTr
open Go.RowKit Go.Proofs.YtnpnablnnfekkaaDoorW.PrintWords Go.Proofs.YtnpnablnnfekkaaDoorW.PrintLast Go.Proofs.YtnpnablnnfekkaaDoorW.PrintMore
attribute [local go_sem] max2_int min2_int max_two min_two max_three min_three max_four min_four   -- for this text's walks alone
set_option linter.unusedVariables false
set_option linter.unusedSimpArgs false
theorem eqA61 (d : Nat) (w : World) (x0 y0 : ByteArray) (x1 y1 : Int) :
  (Op.equalIn (d + 2) 61 (.agg #[.string x0, .int .i64 x1]) (.agg #[.string y0, .int .i64 y1])).run Tryd.prog w = .ok (x0.toList == y0.toList && (x1 == y1)) w := by
 refine eqA_of Tryd.underlying61 (by kernel_rfl) ?_
 refine eqf_cons (by rfl) (by go_simp; rfl) (by go_simp; rfl) (by go_simp) ?_
 exact eqf_last (by rfl) (by go_simp; rfl) (by go_simp; rfl) (by go_simp)
end Go.Proofs.YtnpnablnnfekkaaDoor.PTr
set_option linter.unusedVariables false
set_option linter.unusedSimpArgs false
namespace Go.Proofs.YtnpnablnnfekkaaDoor.PTr
open Go.RowKit Go.Proofs.YtnpnablnnfekkaaDoor Go.Proofs.YtnpnablnnfekkaaDoorW.PrintWords
theorem Evt.bind0 {α β : Type} {g : Nat → Option β} {p : Nat → Option α} {q : Nat → α → Option β} {x : α} {r : β} (he : ∀ k, g k = (p k).bind (q k)) (hp : Evt p x) (hq : Evt (fun k => q k x) r) : Evt g r := by
 obtain ⟨K, hK⟩ := hp
 obtain ⟨L, hL⟩ := hq
 refine ⟨K + L, fun k hk => ?_⟩
 rw [he, hK k (by omega), Option.bind_some]
 exact hL k (by omega)
theorem Evt.const0 {α : Type} {g : Nat → Option α} {r : α} (he : ∀ k, g k = some r) : Evt g r := ⟨0, fun k _ => he k⟩
end Go.Proofs.YtnpnablnnfekkaaDoor.PTr
set_option linter.unusedVariables false
set_option linter.unusedSimpArgs false
namespace Go.Proofs.YtnpnablnnfekkaaDoor.PTr
open Go.RowKit Go.Proofs.YtnpnablnnfekkaaDoor Go.Proofs.YtnpnablnnfekkaaDoorW.PrintWords
def SmallOK (l : List Nod) : Prop := (l.length ≤ 60 ∧ ∀ x ∈ l, x.f6.length ≤ 200 ∧ x.f5.size ≤ 20000) ∨ 512 < l.length
theorem small_l0 (l : List Nod) (a1 a2 a3 : Int) : ∀ (d i : Nat) (n : Int), i + d = 200 → 0 ≤ n → n ≤ 200 * i → (∀ q (h : q < l.length), q < i → l[q].f6.length ≤ 200 ∧ l[q].f5.size ≤ 20000) →
  ∃ b, Evt (fun k => rehearsalref04_Small.l0 k n (i : Int) l a1 a2 a3) b ∧ (b = true → SmallOK l) := by
 have fin : ∀ (i : Nat) (n : Int), (l.length ≤ 60 → ∀ q (h : q < l.length), l[q].f6.length ≤ 200 ∧ l[q].f5.size ≤ 20000) → ∃ b, (∀ k, rehearsalref04_Small.j1 (k + 1) n (i : Int) false l a1 a2 a3 = some b) ∧ (b = true → SmallOK l) := by
  intro i n hg
  by_cases h60 : (l.length : Int) ≤ 60
  ·
   by_cases hn : n ≤ 200
   ·
    exact ⟨true, fun k => by simp only [rehearsalref04_Small.j1]; rw [if_neg (by decide), if_pos h60, if_pos hn], fun _ => .inl ⟨by omega, fun x hx => by obtain ⟨q, hq, rfl⟩ := List.getElem_of_mem hx; exact hg (by omega) q hq⟩⟩
   ·
    exact ⟨decide ((l.length : Int) > 512), fun k => by simp only [rehearsalref04_Small.j1]; rw [if_neg (by decide), if_pos h60, if_neg hn], fun h => .inr (by have := of_decide_eq_true h; omega)⟩
  ·
   exact ⟨decide ((l.length : Int) > 512), fun k => by simp only [rehearsalref04_Small.j1]; rw [if_neg (by decide), if_neg h60], fun h => .inr (by have := of_decide_eq_true h; omega)⟩
 intro d
 induction d with
 | zero =>
  intro i n hi h0 h1 hg
  obtain ⟨b, hb, hs⟩ := fin i n (fun hl q hq => hg q hq (by omega))
  refine ⟨b, Evt.const 1 (fun k hk => ?_), hs⟩
  obtain ⟨m, rfl⟩ : ∃ m, k = m + 1 := ⟨k - 1, by omega⟩
  simp only [rehearsalref04_Small.l0]
  by_cases hl : (i : Int) < (l.length : Int)
  ·
   rw [if_pos hl, decide_eq_false (show ¬ (i : Int) < 200 from by omega)]; exact hb m
  ·
   rw [if_neg hl]; exact hb m
 | succ d ih =>
  intro i n hi h0 h1 hg
  by_cases hl : i < l.length
  ·
   have hl' : (i : Int) < (l.length : Int) := by omega
   by_cases c1 : l[i].f6.length ≤ 200
   ·
    by_cases c2 : l[i].f5.size ≤ 20000
    ·
     obtain ⟨b, hb, hs⟩ := ih (i + 1) (n + l[i].f6.length) (by omega) (by omega) (by omega) (fun q hq hqi => by
      by_cases e : q = i
      ·
       subst e; exact ⟨c1, c2⟩
      ·
       exact hg q hq (by omega))
     refine ⟨b, Evt.succ 0 (fun k _ => ?_) (Evt.succ 0 (g := fun k => rehearsalref04_Small.j1 k n (i : Int) true l a1 a2 a3) (fun k _ => ?_) hb), hs⟩
     ·
      simp only [rehearsalref04_Small.l0]
      rw [if_pos hl', decide_eq_true (show (i : Int) < 200 from by omega)]
     ·
      simp only [rehearsalref04_Small.j1]
      rw [if_pos trivial, if_pos (by omega), if_pos hl', rdN l i hl, if_neg (by omega), if_neg (by omega), show wrap64 (n + (l[i].f6.length : Int)) = n + (l[i].f6.length : Int) from by unfold wrap64; omega, show wrap64 ((i : Int) + 1) = ((i + 1 : Nat) : Int) from by unfold wrap64; omega]
    ·
     refine ⟨false, Evt.succ 0 (fun k _ => ?_) (Evt.const 0 (g := fun k => rehearsalref04_Small.j1 k n (i : Int) true l a1 a2 a3) (fun k _ => ?_)), fun h => by cases h⟩
     ·
      simp only [rehearsalref04_Small.l0]
      rw [if_pos hl', decide_eq_true (show (i : Int) < 200 from by omega)]
     ·
      simp only [rehearsalref04_Small.j1]
      rw [if_pos trivial, if_pos (by omega), if_pos hl', rdN l i hl, if_neg (by omega), if_pos (by omega)]
   ·
    refine ⟨false, Evt.succ 0 (fun k _ => ?_) (Evt.const 0 (g := fun k => rehearsalref04_Small.j1 k n (i : Int) true l a1 a2 a3) (fun k _ => ?_)), fun h => by cases h⟩
    ·
     simp only [rehearsalref04_Small.l0]
     rw [if_pos hl', decide_eq_true (show (i : Int) < 200 from by omega)]
    ·
     simp only [rehearsalref04_Small.j1]
     rw [if_pos trivial, if_pos (by omega), if_pos hl', rdN l i hl, if_pos (by omega)]
  ·
   obtain ⟨b, hb, hs⟩ := fin i n (fun _ q hq => hg q hq (by omega))
   refine ⟨b, Evt.const 1 (fun k hk => ?_), hs⟩
   obtain ⟨m, rfl⟩ : ∃ m, k = m + 1 := ⟨k - 1, by omega⟩
   simp only [rehearsalref04_Small.l0]
   rw [if_neg (by omega)]; exact hb m
theorem small_ev (l : List Nod) (a1 a2 a3 : Int) : ∃ b, Evt (fun k => rehearsalref04_Small.f k l a1 a2 a3) b ∧ (b = true → SmallOK l) := by
 by_cases h : a1 > 1099511627776
 ·
  exact ⟨false, Evt.const0 (fun k => by unfold rehearsalref04_Small.f; rw [if_pos h]), fun h => by cases h⟩
 ·
  obtain ⟨b, hb, hs⟩ := small_l0 l a1 a2 a3 200 0 0 (by omega) (by omega) (by omega) (fun q _ h => by omega)
  obtain ⟨K, hK⟩ := hb
  exact ⟨b, ⟨K, fun k hk => by show rehearsalref04_Small.f k l a1 a2 a3 = _; unfold rehearsalref04_Small.f; rw [if_neg h]; exact hK k hk⟩, hs⟩
theorem small_e {l : List Nod} (h : SmallOK l) : eB l = true := eB_of (fun h1 x hx => by
 rcases h with ⟨_, h⟩ | h
 ·
  have := (h x hx).1; omega
 ·
  omega)
theorem awake_ev : Evt (fun k => rehearsallaw04_awake.f k) true := Evt.const0 (fun _ => rfl)
end Go.Proofs.YtnpnablnnfekkaaDoor.PTr
set_option linter.unusedVariables false
set_option linter.unusedSimpArgs false
namespace Go.Proofs.YtnpnablnnfekkaaDoor
open Go Go.RowKit Go.ChangeShapes Go.WideShapes Go.Proofs.YtnpnablnnfekkaaDoorW.PrintWords
def Opens (P : Program) {α : Type} (d : Kd α) (t : TypeId) (B : α → Prop) : Prop :=
 ∀ {H : Type} {enc : TypeId × Value → H} {w : World} {base : Nat} {spare : Nat → Bool} {held : Bool} {fuel : Nat} {cs : List Value} {y : DataW H × List MemPlace},
  DataW.trod enc P w base spare held fuel t cs = some y → (∀ n ∈ y.1.weights P t, n ≤ reachBytes) → ∃ x, d.K w x cs ∧ B x
theorem opens_int {P : Program} {t : TypeId} {k : IntKind} (ht : P.underlying t = some (.int k)) : Opens P (Kd.int k) t (fun n => (Lit.int k n).wf = true) := by
 intro H enc w base spare held fuel cs y h _
 obtain ⟨n, rfl, _, hw⟩ := DataW.trod_int ht h
 exact ⟨n, rfl, hw⟩
theorem opens_string {P : Program} {t : TypeId} (ht : P.underlying t = some .string) : Opens P Kd.string t (fun s => s.size ≤ reachBytes) := by
 intro H enc w base spare held fuel cs y h hz
 obtain ⟨s, rfl, rfl, _⟩ := DataW.trod_string ht h
 refine ⟨s, rfl, ?_⟩
 have := hz s.data.toList.length (by simp [DataW.weights])
 rwa [Array.length_toList] at this
theorem mem_wAll {H : Type} {P : Program} {e : TypeId} {l : List (DataW H)} {d : DataW H} (hd : d ∈ l) {n : Nat} (hn : n ∈ d.weights P e) : n ∈ DataW.weightsAll P e l := by
 induction l with
 | nil => cases hd
 | cons x r ih =>
  simp only [DataW.weightsAll, List.mem_append]
  rcases List.mem_cons.1 hd with h | h
  ·
   subst h; exact .inl hn
  ·
   exact .inr (ih h)
theorem pick {α : Type} {Q : Nat → α → Prop} : ∀ (n : Nat), (∀ i, i < n → ∃ x, Q i x) → ∃ xs : List α, xs.length = n ∧ ∀ i x, xs[i]? = some x → Q i x := by
 intro n
 induction n with
 | zero => intro _; exact ⟨[], rfl, fun i x h => by simp at h⟩
 | succ n ih =>
  intro h
  obtain ⟨xs, hl, hx⟩ := ih (fun i hi => h i (by omega))
  obtain ⟨x, hq⟩ := h n (by omega)
  refine ⟨xs ++ [x], by simp [hl], fun i y hy => ?_⟩
  by_cases hi : i < n
  ·
   rw [List.getElem?_append_left (by omega)] at hy; exact hx i y hy
  ·
   have : i < (xs ++ [x]).length := (List.getElem?_eq_some_iff.1 hy).1
   simp only [List.length_append, List.length_cons, List.length_nil] at this
   have hi2 : i = n := by omega
   subst hi2
   rw [List.getElem?_append_right (by omega)] at hy
   simp [hl] at hy
   subst hy; exact hq
theorem opens_slice {P : Program} {α : Type} {d : Kd α} {B : α → Prop} {t e : TypeId} (q : Nat) (ht : P.underlying t = some (.slice e)) (hd : Opens P d e B) (hc : P.cellsOf e = d.sz) :
  Opens P (Kd.slice q d) t (fun xs => xs.length * P.bytesOf e ≤ reachBytes ∧ xs.length ≤ 9223372036854775807 ∧ ∀ x ∈ xs, B x) := by
 intro H enc w base spare held fuel cs y h hz
 rcases DataW.trod_slice ht h with ⟨rfl, rfl⟩ | ⟨a, len, cap, elems, rest, n, _, rfl, rfl, hb, hl, hm, hlen, hel, hsp, hns⟩
 ·
  exact ⟨[], ⟨none, 0, rfl, Nat.le_refl _, rfl, by simp, fun h => absurd h (by simp)⟩, by simp, by simp, fun x hx => by cases hx⟩
 ·
  have hmax : len ≤ 9223372036854775807 := Nat.le_trans (Nat.le_trans hl hm) (by unfold maxLen; decide)
  have hzz : ∀ n ∈ (elems.length + rest.length) * P.bytesOf e :: (DataW.weightsAll P e (elems.map (·.1)) ++ DataW.weightsAll P e (rest.map (·.1))), n ≤ reachBytes := by
   intro n hn
   refine hz n ?_
   simp only [DataW.weights, ht, List.length_map]
   exact hn
  have each : ∀ i, i < len → ∃ x, ∃ c : List Value, c.length = d.sz ∧ d.K w x c ∧ B x ∧ ∀ k u, c[k]? = some u → w.cell? (a.add (i * d.sz + k)) = some u := by
   intro i hi
   have h1 := hel i hi
   have hlt : i < elems.length := by omega
   rw [List.getElem?_eq_getElem hlt, Option.bind_eq_some_iff] at h1
   obtain ⟨c, hcs, hy⟩ := h1
   obtain ⟨_, hcl, hcell⟩ := World.cells?_some hcs
   obtain ⟨x, hK, hB⟩ := hd hy (fun n hn => hzz n (List.mem_cons_of_mem _ (List.mem_append_left _ (mem_wAll (List.mem_map.2 ⟨elems[i], List.getElem_mem hlt, rfl⟩) hn))))
   refine ⟨x, c, d.K_len hK, hK, hB, fun k u hu => ?_⟩
   have hk : k < P.cellsOf e := by have := (List.getElem?_eq_some_iff.1 hu).1; rw [d.K_len hK] at this; omega
   have h2 := hcell k hk
   rw [hc] at h2
   rw [add_add] at h2
   rw [h2, hu]
  obtain ⟨xs, hxl, hxs⟩ := pick (Q := fun i x => ∃ c : List Value, c.length = d.sz ∧ d.K w x c ∧ B x ∧ ∀ k u, c[k]? = some u → w.cell? (a.add (i * d.sz + k)) = some u) len each
  refine ⟨xs, ⟨some a, cap, by rw [hxl], by omega, rfl, by omega, fun _ => ⟨a, rfl, fun j p hp => ?_⟩⟩, ?_, by omega, fun x hx => ?_⟩
  ·
   obtain ⟨c, h1, h2, _, h3⟩ := hxs j p hp
   exact ⟨c, h1, h2, h3⟩
  ·
   have := hzz _ List.mem_cons_self
   rw [hlen] at this
   rw [hxl]
   exact Nat.le_trans (Nat.mul_le_mul_right _ (Nat.le_add_right _ _)) this
  ·
   obtain ⟨i, hi⟩ := List.getElem?_of_mem hx
   obtain ⟨_, _, _, hB, _⟩ := hxs i x hi
   exact hB
/-- cells in a row, read field by field -/
def OpenF (P : Program) {α : Type} (d : Kd α) (ts : List TypeId) (B : α → Prop) : Prop :=
 ∀ {H : Type} {enc : TypeId × Value → H} {w : World} {base : Nat} {spare : Nat → Bool} {held : Bool} {fuel : Nat} {cs : List Value} {ys : List (DataW H × List MemPlace)},
  cs.length = (ts.map P.cellsOf).sum → ys.length = ts.length → (∀ (i : Nat) (t : TypeId), ts[i]? = some t → DataW.trod enc P w base spare held fuel t ((cs.drop ((ts.take i).map P.cellsOf).sum).take (P.cellsOf t)) = ys[i]?) →
  (∀ n ∈ DataW.weightsEach P ts (ys.map (·.1)), n ≤ reachBytes) → ∃ x, d.K w x cs ∧ B x
theorem openF_one {P : Program} {α : Type} {d : Kd α} {t : TypeId} {B : α → Prop} (h : Opens P d t B) : OpenF P d [t] B := by
 intro H enc w base spare held fuel cs ys hl hn hy hz
 obtain ⟨y, rfl⟩ : ∃ y, ys = [y] := by
  match ys, hn with
  | [y], _ => exact ⟨y, rfl⟩
 have h0 := hy 0 t rfl
 simp only [List.map_cons, List.map_nil, List.sum_cons, List.sum_nil, Nat.add_zero] at hl
 rw [List.take_zero, List.map_nil, List.sum_nil, List.drop_zero, List.take_of_length_le (by omega)] at h0
 exact h h0 (fun n hn => hz n (by simpa [DataW.weightsEach] using hn))
theorem openF_cons {P : Program} {α β : Type} {d : Kd α} {d' : Kd β} {t : TypeId} {ts : List TypeId} {B : α → Prop} {B' : β → Prop} (h : Opens P d t B) (h' : OpenF P d' ts B') : OpenF P (Kd.pair d d') (t :: ts) (fun x => B x.1 ∧ B' x.2) := by
 intro H enc w base spare held fuel cs ys hl hn hy hz
 obtain ⟨y, r, rfl⟩ : ∃ y r, ys = y :: r := by
  match ys, hn with
  | y :: r, _ => exact ⟨y, r, rfl⟩
 simp only [List.map_cons, List.sum_cons] at hl
 have h0 := hy 0 t rfl
 rw [List.take_zero, List.map_nil, List.sum_nil, List.drop_zero] at h0
 have hzz : ∀ n ∈ y.1.weights P t ++ DataW.weightsEach P ts (r.map (·.1)), n ≤ reachBytes := fun n hn => hz n (by simpa [DataW.weightsEach] using hn)
 obtain ⟨x, hK, hB⟩ := h h0 (fun n hn => hzz n (List.mem_append_left _ hn))
 obtain ⟨x', hK', hB'⟩ := h' (cs := cs.drop (P.cellsOf t)) (ys := r) (by rw [List.length_drop]; omega) (by simpa using hn) (fun i u hu => by
  have := hy (i + 1) u hu
  simp only [List.take_succ_cons, List.map_cons, List.sum_cons, List.getElem?_cons_succ] at this
  rw [List.drop_drop]
  exact this) (fun n hn => hzz n (List.mem_append_right _ hn))
 exact ⟨(x, x'), ⟨cs.take (P.cellsOf t), cs.drop (P.cellsOf t), (List.take_append_drop _ _).symm, hK, hK'⟩, hB, hB'⟩
theorem opens_struct {P : Program} {α β : Type} {d : Kd α} {B : α → Prop} {t : TypeId} {fs : Array Field} (f : β → α) (g : α → β) (hfg : ∀ a, f (g a) = a) (ht : P.underlying t = some (.struct fs))
  (h : OpenF P d (fs.toList.map (·.type)) B) (ho : ∀ (i : Nat) (x : Field), fs[i]? = some x → x.offset = (((fs.toList.map (·.type)).take i).map P.cellsOf).sum) (hs : P.cellsOf t = ((fs.toList.map (·.type)).map P.cellsOf).sum) :
  Opens P (Kd.iso d f) t (fun b => B (f b)) := by
 intro H enc w base spare held fuel cs y hy hz
 obtain ⟨ys, n, _, rfl, hl, hn, hf⟩ := DataW.trod_struct ht hy
 obtain ⟨x, hK, hB⟩ := h (cs := cs) (ys := ys) (by rw [hl, hs]) (by rw [hn, List.length_map, Array.length_toList]) (fun i u hu => by
  rw [List.getElem?_map, Option.map_eq_some_iff] at hu
  obtain ⟨x, hx, rfl⟩ := hu
  have hx2 : fs[i]? = some x := by simpa using hx
  rw [← ho i x hx2]
  exact hf i x hx2) (fun n hn => hz n (by simp only [DataW.weights, ht]; exact hn))
 exact ⟨g x, by show d.K w (f (g x)) cs; rw [hfg]; exact hK, by show B (f (g x)); rw [hfg]; exact hB⟩
end Go.Proofs.YtnpnablnnfekkaaDoor
set_option linter.unusedVariables false
set_option linter.unusedSimpArgs false
namespace Go.Proofs.YtnpnablnnfekkaaDoor.PTr
open Go Go.RowKit Go.ChangeShapes Go.WideShapes Go.Proofs.YtnpnablnnfekkaaDoor Go.Proofs.YtnpnablnnfekkaaDoorW.PrintWords
def offB (P : Program) (fs : Array Field) : Bool := (List.range fs.size).all fun i => match fs[i]? with
 | some x => decide (x.offset = (((fs.toList.map (·.type)).take i).map P.cellsOf).sum)
 | none => true
theorem off_ok {P : Program} {fs : Array Field} (h : offB P fs = true) : ∀ (i : Nat) (x : Field), fs[i]? = some x → x.offset = (((fs.toList.map (·.type)).take i).map P.cellsOf).sum := by
 intro i x hx
 have hi : i < fs.size := (Array.getElem?_eq_some_iff.1 hx).1
 have := List.all_eq_true.1 h i (List.mem_range.2 hi)
 rw [hx] at this
 exact of_decide_eq_true this
theorem opens_ent : Opens Tryd.prog k61 61 (fun e => e.f0.size ≤ reachBytes ∧ (Lit.int .i64 e.f1).wf = true) :=
 opens_struct (fun x : S61 => (x.f0, x.f1)) (fun p => ⟨p.1, p.2⟩) (fun _ => rfl) Tryd.underlying61
  (openF_cons (opens_string Tryd.underlying9) (openF_one (opens_int Tryd.underlying3))) (off_ok (by kernel_rfl)) (by kernel_rfl)
def NodB (x : Nod) : Prop := (Lit.int .i64 x.f0).wf = true ∧ (Lit.int .i64 x.f1).wf = true ∧ (Lit.int .i64 x.f2).wf = true ∧ (Lit.int .i64 x.f3).wf = true ∧ (Lit.int .i64 x.f4).wf = true ∧ x.f5.size ≤ reachBytes ∧ (x.f6.length * Tryd.prog.bytesOf 61 ≤ reachBytes ∧ x.f6.length ≤ 9223372036854775807 ∧ ∀ e ∈ x.f6, e.f0.size ≤ reachBytes ∧ (Lit.int .i64 e.f1).wf = true)
theorem opens_node : Opens Tryd.prog k44 44 NodB :=
 opens_struct (fun x : S44 => (x.f0, x.f1, x.f2, x.f3, x.f4, x.f5, x.f6)) (fun p => ⟨p.1, p.2.1, p.2.2.1, p.2.2.2.1, p.2.2.2.2.1, p.2.2.2.2.2.1, p.2.2.2.2.2.2⟩) (fun _ => rfl) Tryd.underlying44
  (openF_cons (opens_int Tryd.underlying3) (openF_cons (opens_int Tryd.underlying3) (openF_cons (opens_int Tryd.underlying3) (openF_cons (opens_int Tryd.underlying3) (openF_cons (opens_int Tryd.underlying3) (openF_cons (opens_string Tryd.underlying9)
   (openF_one (opens_slice 61 Tryd.underlying42 opens_ent (by kernel_rfl))))))))) (off_ok (by kernel_rfl)) (by kernel_rfl)
theorem opens_room : Opens Tryd.prog (Kd.iso (Kd.pair (Kd.int .i64) (Kd.int .i64)) (fun x : Int × Int => x)) 24 (fun x => (Lit.int .i64 x.1).wf = true ∧ (Lit.int .i64 x.2).wf = true) :=
 opens_struct (fun x : Int × Int => x) (fun p => p) (fun _ => rfl) Tryd.underlying24 (openF_cons (opens_int Tryd.underlying3) (openF_one (opens_int Tryd.underlying3))) (off_ok (by kernel_rfl)) (by kernel_rfl)
def NodOK (x : Nod) : Prop := (Lit.int .i64 x.f0).wf = true ∧ (Lit.int .i64 x.f1).wf = true ∧ (Lit.int .i64 x.f2).wf = true ∧ (Lit.int .i64 x.f3).wf = true ∧ (Lit.int .i64 x.f4).wf = true ∧ x.f5.size ≤ 140737488351232 ∧ x.f6.length ≤ 140737488351232 ∧ ∀ e ∈ x.f6, e.f0.size ≤ 140737488351232 ∧ (Lit.int .i64 e.f1).wf = true
structure TreeV where
 A : Option Addr
 c : Nat
 l : List Nod
 b1 : Int
 b2 : Int
 b3 : Int
def TreeV.val (t : TreeV) : Value := .agg #[.slice t.A t.l.length t.c, .int .i64 t.b1, .int .i64 t.b2, .int .i64 t.b3]
def TreeV.ok (w : World) (t : TreeV) : Prop := Kd.C k44 w t.A t.l.length t.l ∧ t.l.length ≤ t.c ∧ t.l.length ≤ 140737488351232 ∧ (Lit.int .i64 t.b1).wf = true ∧ (Lit.int .i64 t.b2).wf = true ∧ (Lit.int .i64 t.b3).wf = true ∧ ∀ x ∈ t.l, NodOK x
theorem agg_of {v : Value} {a b : Value} {r : List Value} (h : v.cells.toList = a :: b :: r) : v = .agg (a :: b :: r).toArray := by
 cases v with
 | agg cs => simp only [Value.cells] at h; rw [← h]
 | _ => simp [Value.cells] at h
theorem bytes_le {n b : Nat} (hb : 1 ≤ b) (h : n * b ≤ reachBytes) : n ≤ 140737488351232 := by
 have : n ≤ n * b := Nat.le_mul_of_pos_right n hb
 unfold reachBytes at h
 omega
theorem nod_ok {x : Nod} (h : NodB x) : NodOK x := by
 have hb : 1 ≤ Tryd.prog.bytesOf 61 := of_decide_eq_true (by kernel_rfl)
 obtain ⟨h0, h1, h2, h3, h4, h5, h6, _, h7⟩ := h
 exact ⟨h0, h1, h2, h3, h4, h5, bytes_le hb h6, h7⟩
theorem opens_tree : Opens Tryd.prog (Kd.iso (Kd.pair (Kd.slice 44 k44) (Kd.pair (Kd.int .i64) (Kd.iso (Kd.pair (Kd.int .i64) (Kd.int .i64)) (fun x : Int × Int => x)))) (fun x : List Nod × Int × Int × Int => x)) 26 (fun x => (x.1.length * Tryd.prog.bytesOf 44 ≤ reachBytes ∧ x.1.length ≤ 9223372036854775807 ∧ ∀ y ∈ x.1, NodB y) ∧ (Lit.int .i64 x.2.1).wf = true ∧ (Lit.int .i64 x.2.2.1).wf = true ∧ (Lit.int .i64 x.2.2.2).wf = true) :=
 opens_struct (fun x : List Nod × Int × Int × Int => x) (fun p => p) (fun _ => rfl) Tryd.underlying26 (openF_cons (opens_slice 44 Tryd.underlying22 opens_node (by kernel_rfl)) (openF_cons (opens_int Tryd.underlying3) (openF_one opens_room))) (off_ok (by kernel_rfl)) (by kernel_rfl)
theorem open_tree {H : Type} {enc : TypeId × Value → H} {w : World} {base : Nat} {spare : Nat → Bool} {held : Bool} {v : Value} {d : DataW H} {p : List MemPlace}
  (h : DataW.Trod enc Tryd.prog w base spare held 26 v d p) (hz : ∀ n ∈ d.weights Tryd.prog 26, n ≤ reachBytes) : ∃ t : TreeV, v = t.val ∧ t.ok w := by
 obtain ⟨fuel, hf⟩ := h
 obtain ⟨⟨l, b1, b2, b3⟩, hK, ⟨hl, _, hx⟩, h1, h2, h3⟩ := opens_tree hf hz
 obtain ⟨c0, c1, e, ⟨A, c, rfl, hc, hC⟩, c2, c3, rfl, e2, c4, c5, rfl, e4, e5⟩ := hK
 have e2' : c2 = [.int .i64 b1] := e2
 have e4' : c4 = [.int .i64 b2] := e4
 have e5' : c5 = [.int .i64 b3] := e5
 subst e2' e4' e5'
 have hb : 1 ≤ Tryd.prog.bytesOf 44 := of_decide_eq_true (by kernel_rfl)
 exact ⟨⟨A, c, l, b1, b2, b3⟩, agg_of e, hC, hc, bytes_le hb hl, h1, h2, h3, fun x hx2 => nod_ok (hx x hx2)⟩
structure RoomV where
 b1 : Int
 b2 : Int
def RoomV.val (t : RoomV) : Value := .agg #[.int .i64 t.b1, .int .i64 t.b2]
def RoomV.ok (w : World) (t : RoomV) : Prop := (Lit.int .i64 t.b1).wf = true ∧ (Lit.int .i64 t.b2).wf = true
end Go.Proofs.YtnpnablnnfekkaaDoor.PTr
set_option linter.unusedVariables false
namespace Go.Proofs.YtnpnablnnfekkaaDoor.PTr
open Go.RowKit Go.Proofs.YtnpnablnnfekkaaDoor Go.Proofs.YtnpnablnnfekkaaDoorW.PrintWords
theorem bd_of {w : World} {t : TreeV} (h : t.ok w) : Bd t.l := fun x hx => by
 obtain ⟨_, _, _, _, _, _, hn⟩ := h
 obtain ⟨_, _, _, _, _, h5, h6, he⟩ := hn x hx
 exact ⟨h5, h6, fun e he' => (he e he').1⟩
end Go.Proofs.YtnpnablnnfekkaaDoor.PTr
namespace Go.Proofs.YtnpnablnnfekkaaDoor.PTr
open Go.RowKit Go.Proofs.YtnpnablnnfekkaaDoorW.PrintWords Go.Proofs.YtnpnablnnfekkaaDoorW.PrintLast Go.Proofs.YtnpnablnnfekkaaDoorW.PrintMore
attribute [local go_sem] max2_int min2_int max_two min_two max_three min_three max_four min_four   -- for this text's walks alone
set_option linter.unusedVariables false
set_option linter.unusedSimpArgs false
def rehearsalref04_Get.f (k : Nat) (l0_0 : List (S44)) (a0_1 : Int) (a0_2 : Int) (a0_3 : Int) (a1 : Int) : Option (Int × Int × Int × Int × Int × ByteArray × (List (S61)) × Bool) := (rehearsalref04_Place.f k l0_0 a0_1 a0_2 a0_3 a1).bind fun t322 => (if t322 < 0 then (some (0, 0, 0, 0, 0, (⟨#[]⟩ : ByteArray), ([] : List (S61)), false)) else (if 0 ≤ t322 then (if t322 < (l0_0.length : Int) then (some ((rd_T44 l0_0 t322).f0, (rd_T44 l0_0 t322).f1, (rd_T44 l0_0 t322).f2, (rd_T44 l0_0 t322).f3, (rd_T44 l0_0 t322).f4, (rd_T44 l0_0 t322).f5, (rd_T44 l0_0 t322).f6, true)) else (none)) else (none)))
end Go.Proofs.YtnpnablnnfekkaaDoor.PTr
namespace Go.Proofs.YtnpnablnnfekkaaDoor.PTr
open Go.RowKit Go.Proofs.YtnpnablnnfekkaaDoorW.PrintWords Go.Proofs.YtnpnablnnfekkaaDoorW.PrintLast Go.Proofs.YtnpnablnnfekkaaDoorW.PrintMore
attribute [local go_sem] max2_int min2_int max_two min_two max_three min_three max_four min_four   -- for this text's walks alone
set_option linter.unusedVariables false
set_option linter.unusedSimpArgs false
def tree_Child_1.f (a0_0 : ByteArray) (a0_1 : Int) (a1 : ByteArray) : Option (Int) := (strings_Compare.f a0_0 a1).bind fun t325 => (some t325)
set_option maxHeartbeats 8000000 in
set_option maxRecDepth 100000 in
theorem tree_Child_1.calls (a0_0 : ByteArray) (a0_1 : Int) (a1 : ByteArray) (r : Int) (w : World) (h : tree_Child_1.f a0_0 a0_1 a1 = some r) :
  Calls Tryd.prog 67 #[.agg #[.string a0_0, .int .i64 a0_1], .string a1] w fun e w' => e = .returned (.int .i64 r) ∧ Below w.heap.size w w' := by
 have hu61 := Tryd.underlying61
 have HB := Aside0.mk (Below.refl w.heap.size w)
 have H : ((strings_Compare.f a0_0 a1).bind fun t325 => (some t325)) = some r := h
 clear h
 replace H := Option.bind_eq_some_iff.mp H
 obtain ⟨t325, A30, H⟩ := H
 replace H : (some t325) = some r := H
 have A3 := Aside0.mk A30
 clear A30
 obtain rfl := Option.some.inj H
 go_enter Tryd.func67, Tryd.ntmps67
 go_wp2_with (first | ((with_reducible refine gate_dst (N := 2) rfl ?_); refine box_event ?hg (N := 2) ?hd (cs := #[.string a0_0, .int .i64 a0_1]) (t := 61) ?hr ?_; (case hd => rfl); (case hg => rfl); (case hr => first | (go_simp; done) | (go_simp; rfl)); intro gb324 hg w4 hbox hb; have n0_ := Aside0.mk (below_step (by repeat (first | (with_reducible first | exact HB.out | apply below_alloc | apply pw_below_drewN | apply below_drew1) | exact HB.out)) hb); have n1_ := Aside0.mk (hbox); have n2_ := Aside0.mk ((by rw [hg]; exact (below_size (by repeat (first | (with_reducible first | exact HB.out | apply below_alloc | apply pw_below_drewN | apply below_drew1) | exact HB.out))) : w.heap.size ≤ gb324)); have n3_ := Aside0.mk ((by rw [hg]; exact (below_size (by repeat (first | (with_reducible first | exact HB.out | apply below_alloc | apply pw_below_drewN | apply below_drew1) | exact HB.out))) : w.heap.size ≤ gb324)); clear HB; have HB := n0_; have BK324 := n1_; have GW324 := n2_; have GE324 := n3_; clear n0_ n1_ n2_ n3_; clear hb hbox hg; have hcz5_0 : w4.cell? ⟨gb324, 0, none⟩ = some (.string a0_0) := (blk_cell BK324.out 0).trans rfl; have hcz5_1 : w4.cell? ⟨gb324, 1, none⟩ = some (.int .i64 a0_1) := (blk_cell BK324.out 1).trans rfl; have hfz5_0 := blk_frozen BK324.out 0; have hfz5_1 := blk_frozen BK324.out 1) | ((with_reducible refine gate_callee (f := 68) rfl ?_); refine goesL_ (some 8) rfl rfl Tryd.func68 (by kernel_rfl) rfl #[.string a0_0, .string a1] rfl (by (try simp only [List.map_toArray, List.map_cons, List.map_nil]); first | done | rfl | (simp only [List.length_drop, List.length_take]; rfl)) ?_; (with_reducible refine (strings_Compare.calls a0_0 a1 t325 _ A3.out).mono ?_); rintro e w' ⟨rfl, ⟨nd, rfl⟩⟩; refine ⟨_, rfl, ?_⟩))
 go_ret
 exact ⟨by first | rfl | (simp [errW_none, errW_some] <;> rfl) | (simp [*, errW_none, errW_some] <;> rfl), by repeat (first | (with_reducible first | exact HB.out | apply below_alloc | apply pw_below_drewN | apply below_drew1 | refine below_set ?_ GE324.out) | exact HB.out)⟩
end Go.Proofs.YtnpnablnnfekkaaDoor.PTr
namespace Go.Proofs.YtnpnablnnfekkaaDoor.PTr
open Go.RowKit Go.Proofs.YtnpnablnnfekkaaDoorW.PrintWords Go.Proofs.YtnpnablnnfekkaaDoorW.PrintLast Go.Proofs.YtnpnablnnfekkaaDoorW.PrintMore
attribute [local go_sem] max2_int min2_int max_two min_two max_three min_three max_four min_four   -- for this text's walks alone
set_option linter.unusedVariables false
set_option linter.unusedSimpArgs false
def api_Entry_string.l0 : Nat → List (S61) → ByteArray → Int → Int → Int → Option (Int × Bool)
 | 0, _, _, _, _, _ => none
 | k + 1, x0, x1, x8, x9, x10 => if x9 < x10 then (if 0 ≤ (wrap64 ((IntKind.u64.wrap (wrap64 (x9 + x10))) / 2)) then (if (wrap64 ((IntKind.u64.wrap (wrap64 (x9 + x10))) / 2)) < (x0.length : Int) then ((tree_Child_1.f ((rd_T61 x0 (wrap64 ((IntKind.u64.wrap (wrap64 (x9 + x10))) / 2))).f0) ((rd_T61 x0 (wrap64 ((IntKind.u64.wrap (wrap64 (x9 + x10))) / 2))).f1) x1).bind fun t327 => (if t327 < 0 then (api_Entry_string.l0 k x0 x1 x8 (wrap64 ((wrap64 ((IntKind.u64.wrap (wrap64 (x9 + x10))) / 2)) + 1)) x10) else (api_Entry_string.l0 k x0 x1 x8 x9 (wrap64 ((IntKind.u64.wrap (wrap64 (x9 + x10))) / 2))))) else (none)) else (none)) else (if x9 < x8 then (if 0 ≤ x9 then (if x9 < (x0.length : Int) then ((tree_Child_1.f ((rd_T61 x0 x9).f0) ((rd_T61 x0 x9).f1) x1).bind fun t329 => (some (x9, (t329 == 0)))) else (none)) else (none)) else (some (x9, false)))
def api_Entry_string.f (k : Nat) (l0 : List (S61)) (a1 : ByteArray) (a2 : Int) : Option (Int × Bool) := api_Entry_string.l0 k l0 a1 (l0.length : Int) 0 (l0.length : Int)
set_option maxHeartbeats 8000000 in
set_option maxRecDepth 100000 in
theorem api_Entry_string.calls (k : Nat) (A0 : Option Addr) (c0 : Nat) (l0 : List (S61)) (a1 : ByteArray) (a2 : Int) (r1 : Int) (r2 : Bool) (w : World) (hr0 : Kd.C k61 w A0 l0.length l0) (hc0 : l0.length ≤ c0) (h : api_Entry_string.f k l0 a1 a2 = some (r1, r2)) :
  Calls Tryd.prog 66 #[.slice A0 l0.length c0, .string a1, .func (.func 67) #[] #[]] w fun e w' => e = .returned (.tuple #[.int .i64 r1, .bool r2]) ∧ Below w.heap.size w w' := by
 have hu61 := Tryd.underlying61
 have HR0 := Aside0.mk hr0
 have HC0 := Aside0.mk hc0
 clear hr0 hc0
 have HB := Aside0.mk (Below.refl w.heap.size w)
 have H : (api_Entry_string.l0 k l0 a1 (l0.length : Int) 0 (l0.length : Int)) = some (r1, r2) := h
 clear h
 have H' := Aside0.mk H
 clear H
 go_enter Tryd.func66, Tryd.ntmps66
 go_wp2
 go_loopg [9, 10] k (fun kq v9 v10 w' => ∃ (x9_1 : Int) (x10_1 : Int), v9 = .int .i64 x9_1 ∧ v10 = .int .i64 x10_1 ∧ Aside0 (api_Entry_string.l0 kq l0 a1 (l0.length : Int) x9_1 x10_1 = some (r1, r2)) ∧ Aside0 (kq ≤ k) ∧ Aside0 (Below w.heap.size w w'))
 case atStart => exact ⟨(0), ((l0.length : Int)), (by first | rfl | (simp; done) | (simp [*]; done)), (by first | rfl | (simp; done) | (simp [*]; done)), H', ⟨Nat.le_refl _⟩, ⟨by repeat (first | (with_reducible first | exact HB.out | apply below_alloc | apply pw_below_drewN | apply below_drew1) | exact HB.out)⟩⟩
 case round =>
  clear H'
  try clear p2
  obtain ⟨x9_1, x10_1, rfl, rfl, HA, HK1, HB⟩ := hrel
  cases gk with
  | zero => exact absurd HA.out (by simp [api_Entry_string.l0])
  | succ k1 =>
   have H := HA.out
   clear HA
   simp only [api_Entry_string.l0] at H
   by_cases c4 : x9_1 < x10_1
   ·
    rw [if_pos c4] at H
    have c4b0 : decide (x9_1 < x10_1) = true := decide_eq_true c4
    clear c4
    obtain ⟨ji5, hji5⟩ : ∃ j_ : Int, (wrap64 ((IntKind.u64.wrap (wrap64 (x9_1 + x10_1))) / 2)) = j_ := ⟨_, rfl⟩
    replace H : (if 0 ≤ (ji5) then (if (ji5) < (l0.length : Int) then ((tree_Child_1.f ((rd_T61 l0 (ji5)).f0) ((rd_T61 l0 (ji5)).f1) a1).bind fun t327 => (if t327 < 0 then (api_Entry_string.l0 k1 l0 a1 (l0.length : Int) (wrap64 ((ji5) + 1)) x10_1) else (api_Entry_string.l0 k1 l0 a1 (l0.length : Int) x9_1 ji5))) else (none)) else (none)) = some (r1, r2) := by first | (rw [hji5] at H; exact H) | (simp only [hji5] at H ⊢; exact H)
    have hji5w : (IntKind.i64.wrap ((IntKind.u64.wrap (wrap64 (x9_1 + x10_1))) / 2)) = ji5 := (i64_w _).trans hji5
    by_cases c6 : 0 ≤ (ji5)
    ·
     rw [if_pos c6] at H
     have c6b0 : decide (0 ≤ (ji5)) = true := decide_eq_true c6
     clear c6
     by_cases c7 : (ji5) < (l0.length : Int)
     ·
      rw [if_pos c7] at H
      have c7b0 : decide ((ji5) < (l0.length : Int)) = true := decide_eq_true c7
      clear c7
      replace H := Option.bind_eq_some_iff.mp H
      obtain ⟨t327, A80, H⟩ := H
      replace H : (if t327 < 0 then (api_Entry_string.l0 k1 l0 a1 (l0.length : Int) (wrap64 ((ji5) + 1)) x10_1) else (api_Entry_string.l0 k1 l0 a1 (l0.length : Int) x9_1 ji5)) = some (r1, r2) := H
      have A8 := Aside0.mk A80
      clear A80
      by_cases c9 : t327 < 0
      ·
       rw [if_pos c9] at H
       have c9b0 : decide (t327 < 0) = true := decide_eq_true c9
       clear c9
       have H' := Aside0.mk H
       clear H
       have p326 : 0 ≤ ((ji5) : Int) := of_decide_eq_true (by first | (with_reducible assumption) | assumption)
       have q326 : (ji5) < (l0.length : Int) := of_decide_eq_true (by first | (with_reducible assumption) | assumption)
       obtain ⟨ad326, e326, hx326_0, hx326_1⟩ := at_T61 HR0.out (ji5) p326 q326
       cases e326
       replace hx326_0 := (HB.out.cell (World.block_lt_of_cell? w _ hx326_0)).trans hx326_0
       replace hx326_1 := (HB.out.cell (World.block_lt_of_cell? w _ hx326_1)).trans hx326_1
       replace p326 := eq_true p326
       replace q326 := eq_true q326
       go_wp2_with (first | (go_at_call 67; (with_reducible refine (tree_Child_1.calls ((rd_T61 l0 (ji5)).f0) ((rd_T61 l0 (ji5)).f1) a1 t327 _ A8.out).mono ?_); rintro e w10 ⟨rfl, hb⟩; have n0_ := Aside0.mk (below_step (by repeat (first | (with_reducible first | exact HB.out | apply below_alloc | apply pw_below_drewN | apply below_drew1) | exact HB.out)) hb); clear HB; have HB := n0_; clear n0_; (try clear hb); (try clear hb2); (try clear hk); (try clear hi)))
       go_roundg k1
       case measure => have := HK1.out; omega
       case rel => exact ⟨(wrap64 ((ji5) + 1)), (x10_1), (by first | rfl | (simp; done) | (simp only [← hji5] <;> (first | rfl | simp)) | (simp [*]; done)), (by first | rfl | (simp; done) | (simp [*]; done)), (by first | exact H' | (rw [hji5]; exact H') | (simp only [hji5]; exact H')), ⟨by have := HK1.out; omega⟩, ⟨by repeat (first | (with_reducible first | exact HB.out | apply below_alloc | apply pw_below_drewN | apply below_drew1) | exact HB.out)⟩⟩
      ·
       rw [if_neg c9] at H
       have c9b0 : decide (t327 < 0) = false := decide_eq_false c9
       clear c9
       have H' := Aside0.mk H
       clear H
       have p326 : 0 ≤ ((ji5) : Int) := of_decide_eq_true (by first | (with_reducible assumption) | assumption)
       have q326 : (ji5) < (l0.length : Int) := of_decide_eq_true (by first | (with_reducible assumption) | assumption)
       obtain ⟨ad326, e326, hx326_0, hx326_1⟩ := at_T61 HR0.out (ji5) p326 q326
       cases e326
       replace hx326_0 := (HB.out.cell (World.block_lt_of_cell? w _ hx326_0)).trans hx326_0
       replace hx326_1 := (HB.out.cell (World.block_lt_of_cell? w _ hx326_1)).trans hx326_1
       replace p326 := eq_true p326
       replace q326 := eq_true q326
       go_wp2_with (first | (go_at_call 67; (with_reducible refine (tree_Child_1.calls ((rd_T61 l0 (ji5)).f0) ((rd_T61 l0 (ji5)).f1) a1 t327 _ A8.out).mono ?_); rintro e w11 ⟨rfl, hb⟩; have n0_ := Aside0.mk (below_step (by repeat (first | (with_reducible first | exact HB.out | apply below_alloc | apply pw_below_drewN | apply below_drew1) | exact HB.out)) hb); clear HB; have HB := n0_; clear n0_; (try clear hb); (try clear hb2); (try clear hk); (try clear hi)))
       go_roundg k1
       case measure => have := HK1.out; omega
       case rel => exact ⟨(x9_1), (ji5), (by first | rfl | (simp; done) | (simp [*]; done)), (by first | rfl | (simp; done) | (simp only [← hji5] <;> (first | rfl | simp)) | (simp [*]; done)), (by first | exact H' | (rw [hji5]; exact H') | (simp only [hji5]; exact H')), ⟨by have := HK1.out; omega⟩, ⟨by repeat (first | (with_reducible first | exact HB.out | apply below_alloc | apply pw_below_drewN | apply below_drew1) | exact HB.out)⟩⟩
     ·
      rw [if_neg c7] at H
      exact absurd H (by simp)
    ·
     rw [if_neg c6] at H
     exact absurd H (by simp)
   ·
    rw [if_neg c4] at H
    have c4b0 : decide (x9_1 < x10_1) = false := decide_eq_false c4
    clear c4
    by_cases c12 : x9_1 < (l0.length : Int)
    ·
     rw [if_pos c12] at H
     have c12b0 : decide (x9_1 < (l0.length : Int)) = true := decide_eq_true c12
     clear c12
     by_cases c13 : 0 ≤ x9_1
     ·
      rw [if_pos c13] at H
      have c13b0 : decide (0 ≤ x9_1) = true := decide_eq_true c13
      clear c13
      by_cases c14 : x9_1 < (l0.length : Int)
      ·
       rw [if_pos c14] at H
       have c14b0 : decide (x9_1 < (l0.length : Int)) = true := decide_eq_true c14
       clear c14
       replace H := Option.bind_eq_some_iff.mp H
       obtain ⟨t329, A150, H⟩ := H
       replace H : (some (x9_1, (t329 == 0))) = some (r1, r2) := H
       have A15 := Aside0.mk A150
       clear A150
       simp only [Option.some.injEq, Prod.mk.injEq] at H
       obtain ⟨rfl, rfl⟩ := H
       have p328 : 0 ≤ (x9_1 : Int) := of_decide_eq_true (by first | (with_reducible assumption) | assumption)
       have q328 : x9_1 < (l0.length : Int) := of_decide_eq_true (by first | (with_reducible assumption) | assumption)
       obtain ⟨ad328, e328, hx328_0, hx328_1⟩ := at_T61 HR0.out x9_1 p328 q328
       cases e328
       replace hx328_0 := (HB.out.cell (World.block_lt_of_cell? w _ hx328_0)).trans hx328_0
       replace hx328_1 := (HB.out.cell (World.block_lt_of_cell? w _ hx328_1)).trans hx328_1
       replace p328 := eq_true p328
       replace q328 := eq_true q328
       go_wp2_with (first | (go_at_call 67; (with_reducible refine (tree_Child_1.calls ((rd_T61 l0 x9_1).f0) ((rd_T61 l0 x9_1).f1) a1 t329 _ A15.out).mono ?_); rintro e w16 ⟨rfl, hb⟩; have n0_ := Aside0.mk (below_step (by repeat (first | (with_reducible first | exact HB.out | apply below_alloc | apply pw_below_drewN | apply below_drew1) | exact HB.out)) hb); clear HB; have HB := n0_; clear n0_; (try clear hb); (try clear hb2); (try clear hk); (try clear hi)))
       go_ret2
       exact ⟨by first | rfl | (simp [errW_none, errW_some] <;> rfl) | (simp [*, errW_none, errW_some] <;> rfl), by repeat (first | (with_reducible first | exact HB.out | apply below_alloc | apply pw_below_drewN | apply below_drew1) | exact HB.out)⟩
      ·
       rw [if_neg c14] at H
       exact absurd H (by simp)
     ·
      rw [if_neg c13] at H
      exact absurd H (by simp)
    ·
     rw [if_neg c12] at H
     have c12b0 : decide (x9_1 < (l0.length : Int)) = false := decide_eq_false c12
     clear c12
     simp only [Option.some.injEq, Prod.mk.injEq] at H
     obtain ⟨rfl, rfl⟩ := H
     go_wp2
     go_ret2
     exact ⟨by first | rfl | (simp [errW_none, errW_some] <;> rfl) | (simp [*, errW_none, errW_some] <;> rfl), by repeat (first | (with_reducible first | exact HB.out | apply below_alloc | apply pw_below_drewN | apply below_drew1) | exact HB.out)⟩
end Go.Proofs.YtnpnablnnfekkaaDoor.PTr
namespace Go.Proofs.YtnpnablnnfekkaaDoor.PTr
open Go.RowKit Go.Proofs.YtnpnablnnfekkaaDoorW.PrintWords Go.Proofs.YtnpnablnnfekkaaDoorW.PrintLast Go.Proofs.YtnpnablnnfekkaaDoorW.PrintMore
attribute [local go_sem] max2_int min2_int max_two min_two max_three min_three max_four min_four   -- for this text's walks alone
set_option linter.unusedVariables false
set_option linter.unusedSimpArgs false
def tree_Child.f (k : Nat) (a0_0 : Int) (a0_1 : Int) (a0_2 : Int) (a0_3 : Int) (a0_4 : Int) (a0_5 : ByteArray) (l0_6 : List (S61)) (a1 : ByteArray) : Option (Int × Bool) := (api_Entry_string.f k l0_6 a1 77700067).bind fun bt331 => (if bt331.2 = true then (if 0 ≤ bt331.1 then (if bt331.1 < (l0_6.length : Int) then (some ((rd_T61 l0_6 bt331.1).f1, true)) else (none)) else (none)) else (some (0, false)))
set_option maxHeartbeats 8000000 in
set_option maxRecDepth 100000 in
theorem tree_Child.calls (k : Nat) (a0_0 : Int) (a0_1 : Int) (a0_2 : Int) (a0_3 : Int) (a0_4 : Int) (a0_5 : ByteArray) (A0_6 : Option Addr) (c0_6 : Nat) (l0_6 : List (S61)) (a1 : ByteArray) (r1 : Int) (r2 : Bool) (w : World) (hr0_6 : Kd.C k61 w A0_6 l0_6.length l0_6) (hc0_6 : l0_6.length ≤ c0_6) (h : tree_Child.f k a0_0 a0_1 a0_2 a0_3 a0_4 a0_5 l0_6 a1 = some (r1, r2)) :
  Calls Tryd.prog 28 #[.agg #[.int .i64 a0_0, .int .i64 a0_1, .int .i64 a0_2, .int .i64 a0_3, .int .i64 a0_4, .string a0_5, .slice A0_6 l0_6.length c0_6], .string a1] w fun e w' => e = .returned (.tuple #[.int .i64 r1, .bool r2]) ∧ Below w.heap.size w w' := by
 have hu44 := Tryd.underlying44
 have HR0_6 := Aside0.mk hr0_6
 have HC0_6 := Aside0.mk hc0_6
 clear hr0_6 hc0_6
 have HB := Aside0.mk (Below.refl w.heap.size w)
 have H : ((api_Entry_string.f k l0_6 a1 77700067).bind fun bt331 => (if bt331.2 = true then (if 0 ≤ bt331.1 then (if bt331.1 < (l0_6.length : Int) then (some ((rd_T61 l0_6 bt331.1).f1, true)) else (none)) else (none)) else (some (0, false)))) = some (r1, r2) := h
 clear h
 replace H := Option.bind_eq_some_iff.mp H
 obtain ⟨⟨t331, t332⟩, A30, H⟩ := H
 replace H : (if t332 = true then (if 0 ≤ t331 then (if t331 < (l0_6.length : Int) then (some ((rd_T61 l0_6 t331).f1, true)) else (none)) else (none)) else (some (0, false))) = some (r1, r2) := H
 have A3 := Aside0.mk A30
 clear A30
 by_cases c4 : t332 = true
 ·
  subst c4
  have H1 : (if 0 ≤ t331 then (if t331 < (l0_6.length : Int) then (some ((rd_T61 l0_6 t331).f1, true)) else (none)) else (none)) = some (r1, r2) := by rw [if_pos rfl] at H; exact H
  clear H
  have H := H1
  clear H1
  by_cases c5 : 0 ≤ t331
  ·
   rw [if_pos c5] at H
   have c5b0 : decide (0 ≤ t331) = true := decide_eq_true c5
   clear c5
   by_cases c6 : t331 < (l0_6.length : Int)
   ·
    rw [if_pos c6] at H
    have c6b0 : decide (t331 < (l0_6.length : Int)) = true := decide_eq_true c6
    clear c6
    simp only [Option.some.injEq, Prod.mk.injEq] at H
    obtain ⟨rfl, rfl⟩ := H
    go_enter Tryd.func28, Tryd.ntmps28
    go_wp2_with (first | ((with_reducible refine gate_dst (N := 2) rfl ?_); refine box_event ?hg (N := 2) ?hd (cs := #[.int .i64 a0_0, .int .i64 a0_1, .int .i64 a0_2, .int .i64 a0_3, .int .i64 a0_4, .string a0_5, .slice A0_6 l0_6.length c0_6]) (t := 44) ?hr ?_; (case hd => rfl); (case hg => rfl); (case hr => first | (go_simp; done) | (go_simp; rfl)); intro gb330 hg w7 hbox hb; have n0_ := Aside0.mk (below_step (by repeat (first | (with_reducible first | exact HB.out | apply below_alloc | apply pw_below_drewN | apply below_drew1) | exact HB.out)) hb); have n1_ := Aside0.mk (hbox); have n2_ := Aside0.mk ((by rw [hg]; exact (below_size (by repeat (first | (with_reducible first | exact HB.out | apply below_alloc | apply pw_below_drewN | apply below_drew1) | exact HB.out))) : w.heap.size ≤ gb330)); have n3_ := Aside0.mk ((by rw [hg]; exact (below_size (by repeat (first | (with_reducible first | exact HB.out | apply below_alloc | apply pw_below_drewN | apply below_drew1) | exact HB.out))) : w.heap.size ≤ gb330)); clear HB; have HB := n0_; have BK330 := n1_; have GW330 := n2_; have GE330 := n3_; clear n0_ n1_ n2_ n3_; clear hb hbox hg; have hcz8_0 : w7.cell? ⟨gb330, 0, none⟩ = some (.int .i64 a0_0) := (blk_cell BK330.out 0).trans rfl; have hcz8_1 : w7.cell? ⟨gb330, 1, none⟩ = some (.int .i64 a0_1) := (blk_cell BK330.out 1).trans rfl; have hcz8_2 : w7.cell? ⟨gb330, 2, none⟩ = some (.int .i64 a0_2) := (blk_cell BK330.out 2).trans rfl; have hcz8_3 : w7.cell? ⟨gb330, 3, none⟩ = some (.int .i64 a0_3) := (blk_cell BK330.out 3).trans rfl; have hcz8_4 : w7.cell? ⟨gb330, 4, none⟩ = some (.int .i64 a0_4) := (blk_cell BK330.out 4).trans rfl; have hcz8_5 : w7.cell? ⟨gb330, 5, none⟩ = some (.string a0_5) := (blk_cell BK330.out 5).trans rfl; have hcz8_6 : w7.cell? ⟨gb330, 6, none⟩ = some (.slice A0_6 l0_6.length c0_6) := (blk_cell BK330.out 6).trans rfl; have hfz8_0 := blk_frozen BK330.out 0; have hfz8_1 := blk_frozen BK330.out 1; have hfz8_2 := blk_frozen BK330.out 2; have hfz8_3 := blk_frozen BK330.out 3; have hfz8_4 := blk_frozen BK330.out 4; have hfz8_5 := blk_frozen BK330.out 5; have hfz8_6 := blk_frozen BK330.out 6) | ((with_reducible refine gate_callee (f := 66) rfl ?_); refine goesL_ (some 12) rfl rfl Tryd.func66 (by kernel_rfl) rfl #[.slice A0_6 l0_6.length c0_6, .string a1, .func (.func 67) #[] #[]] rfl (by (try simp only [List.map_toArray, List.map_cons, List.map_nil]); first | done | rfl | (simp only [List.length_drop, List.length_take]; rfl)) ?_; (with_reducible refine (api_Entry_string.calls k _ _ l0_6 a1 77700067 t331 true _ ?side1 ?side2 A3.out).mono ?_); (case side1 => repeat (first | exact (Kd.C_below HR0_6.out HB.out) | (with_reducible refine Kd.C_alloc ?_ _) | (with_reducible refine Kd.C_drewN ?_ _) | (with_reducible refine Kd.C_drew ?_))); (case side2 => exact HC0_6.out); rintro e w9 ⟨rfl, hb⟩; refine ⟨_, rfl, ?_⟩; have n0_ := Aside0.mk (blk_below (g := gb330) (o := .cells #[.int .i64 a0_0, .int .i64 a0_1, .int .i64 a0_2, .int .i64 a0_3, .int .i64 a0_4, .string a0_5, .slice A0_6 l0_6.length c0_6] 44 (0, 0)) (by (with_reducible repeat (first | refine blk_drewN ?_ _ | refine blk_drew ?_ | refine blk_alloc ?_ _)); exact BK330.out) hb); have n1_ := Aside0.mk (below_step (by repeat (first | (with_reducible first | exact HB.out | apply below_alloc | apply pw_below_drewN | apply below_drew1 | refine below_set ?_ GE330.out) | exact HB.out)) hb); clear BK330; clear HB; have BK330 := n0_; have HB := n1_; clear n0_ n1_; (try clear hb); (try clear hb2); (try clear hk); (try clear hi); have hcz10_0 : w9.cell? ⟨gb330, 0, none⟩ = some (.int .i64 a0_0) := (blk_cell BK330.out 0).trans rfl; have hcz10_1 : w9.cell? ⟨gb330, 1, none⟩ = some (.int .i64 a0_1) := (blk_cell BK330.out 1).trans rfl; have hcz10_2 : w9.cell? ⟨gb330, 2, none⟩ = some (.int .i64 a0_2) := (blk_cell BK330.out 2).trans rfl; have hcz10_3 : w9.cell? ⟨gb330, 3, none⟩ = some (.int .i64 a0_3) := (blk_cell BK330.out 3).trans rfl; have hcz10_4 : w9.cell? ⟨gb330, 4, none⟩ = some (.int .i64 a0_4) := (blk_cell BK330.out 4).trans rfl; have hcz10_5 : w9.cell? ⟨gb330, 5, none⟩ = some (.string a0_5) := (blk_cell BK330.out 5).trans rfl; have hcz10_6 : w9.cell? ⟨gb330, 6, none⟩ = some (.slice A0_6 l0_6.length c0_6) := (blk_cell BK330.out 6).trans rfl; have hfz10_0 := blk_frozen BK330.out 0; have hfz10_1 := blk_frozen BK330.out 1; have hfz10_2 := blk_frozen BK330.out 2; have hfz10_3 := blk_frozen BK330.out 3; have hfz10_4 := blk_frozen BK330.out 4; have hfz10_5 := blk_frozen BK330.out 5; have hfz10_6 := blk_frozen BK330.out 6; have p333 : 0 ≤ (t331 : Int) := of_decide_eq_true (by first | (with_reducible assumption) | assumption); have q333 : t331 < (l0_6.length : Int) := of_decide_eq_true (by first | (with_reducible assumption) | assumption); obtain ⟨ad333, e333, hx333_0, hx333_1⟩ := at_T61 HR0_6.out t331 p333 q333; cases e333; replace hx333_0 := (HB.out.cell (World.block_lt_of_cell? w _ hx333_0)).trans hx333_0; replace hx333_1 := (HB.out.cell (World.block_lt_of_cell? w _ hx333_1)).trans hx333_1; replace p333 := eq_true p333; replace q333 := eq_true q333))
    go_ret2
    exact ⟨by first | rfl | (simp [errW_none, errW_some] <;> rfl) | (simp [*, errW_none, errW_some] <;> rfl), by repeat (first | (with_reducible first | exact HB.out | apply below_alloc | apply pw_below_drewN | apply below_drew1 | refine below_set ?_ GE330.out) | exact HB.out)⟩
   ·
    rw [if_neg c6] at H
    exact absurd H (by simp)
  ·
   rw [if_neg c5] at H
   exact absurd H (by simp)
 ·
  replace c4 := Bool.eq_false_iff.mpr c4
  subst c4
  have H1 : (some (0, false)) = some (r1, r2) := by rw [if_neg (show ¬ (false = true) by decide)] at H; exact H
  clear H
  have H := H1
  clear H1
  simp only [Option.some.injEq, Prod.mk.injEq] at H
  obtain ⟨rfl, rfl⟩ := H
  go_enter Tryd.func28, Tryd.ntmps28
  go_wp2_with (first | ((with_reducible refine gate_dst (N := 2) rfl ?_); refine box_event ?hg (N := 2) ?hd (cs := #[.int .i64 a0_0, .int .i64 a0_1, .int .i64 a0_2, .int .i64 a0_3, .int .i64 a0_4, .string a0_5, .slice A0_6 l0_6.length c0_6]) (t := 44) ?hr ?_; (case hd => rfl); (case hg => rfl); (case hr => first | (go_simp; done) | (go_simp; rfl)); intro gb330 hg w11 hbox hb; have n0_ := Aside0.mk (below_step (by repeat (first | (with_reducible first | exact HB.out | apply below_alloc | apply pw_below_drewN | apply below_drew1) | exact HB.out)) hb); have n1_ := Aside0.mk (hbox); have n2_ := Aside0.mk ((by rw [hg]; exact (below_size (by repeat (first | (with_reducible first | exact HB.out | apply below_alloc | apply pw_below_drewN | apply below_drew1) | exact HB.out))) : w.heap.size ≤ gb330)); have n3_ := Aside0.mk ((by rw [hg]; exact (below_size (by repeat (first | (with_reducible first | exact HB.out | apply below_alloc | apply pw_below_drewN | apply below_drew1) | exact HB.out))) : w.heap.size ≤ gb330)); clear HB; have HB := n0_; have BK330 := n1_; have GW330 := n2_; have GE330 := n3_; clear n0_ n1_ n2_ n3_; clear hb hbox hg; have hcz12_0 : w11.cell? ⟨gb330, 0, none⟩ = some (.int .i64 a0_0) := (blk_cell BK330.out 0).trans rfl; have hcz12_1 : w11.cell? ⟨gb330, 1, none⟩ = some (.int .i64 a0_1) := (blk_cell BK330.out 1).trans rfl; have hcz12_2 : w11.cell? ⟨gb330, 2, none⟩ = some (.int .i64 a0_2) := (blk_cell BK330.out 2).trans rfl; have hcz12_3 : w11.cell? ⟨gb330, 3, none⟩ = some (.int .i64 a0_3) := (blk_cell BK330.out 3).trans rfl; have hcz12_4 : w11.cell? ⟨gb330, 4, none⟩ = some (.int .i64 a0_4) := (blk_cell BK330.out 4).trans rfl; have hcz12_5 : w11.cell? ⟨gb330, 5, none⟩ = some (.string a0_5) := (blk_cell BK330.out 5).trans rfl; have hcz12_6 : w11.cell? ⟨gb330, 6, none⟩ = some (.slice A0_6 l0_6.length c0_6) := (blk_cell BK330.out 6).trans rfl; have hfz12_0 := blk_frozen BK330.out 0; have hfz12_1 := blk_frozen BK330.out 1; have hfz12_2 := blk_frozen BK330.out 2; have hfz12_3 := blk_frozen BK330.out 3; have hfz12_4 := blk_frozen BK330.out 4; have hfz12_5 := blk_frozen BK330.out 5; have hfz12_6 := blk_frozen BK330.out 6) | ((with_reducible refine gate_callee (f := 66) rfl ?_); refine goesL_ (some 12) rfl rfl Tryd.func66 (by kernel_rfl) rfl #[.slice A0_6 l0_6.length c0_6, .string a1, .func (.func 67) #[] #[]] rfl (by (try simp only [List.map_toArray, List.map_cons, List.map_nil]); first | done | rfl | (simp only [List.length_drop, List.length_take]; rfl)) ?_; (with_reducible refine (api_Entry_string.calls k _ _ l0_6 a1 77700067 t331 false _ ?side1 ?side2 A3.out).mono ?_); (case side1 => repeat (first | exact (Kd.C_below HR0_6.out HB.out) | (with_reducible refine Kd.C_alloc ?_ _) | (with_reducible refine Kd.C_drewN ?_ _) | (with_reducible refine Kd.C_drew ?_))); (case side2 => exact HC0_6.out); rintro e w13 ⟨rfl, hb⟩; refine ⟨_, rfl, ?_⟩; have n0_ := Aside0.mk (blk_below (g := gb330) (o := .cells #[.int .i64 a0_0, .int .i64 a0_1, .int .i64 a0_2, .int .i64 a0_3, .int .i64 a0_4, .string a0_5, .slice A0_6 l0_6.length c0_6] 44 (0, 0)) (by (with_reducible repeat (first | refine blk_drewN ?_ _ | refine blk_drew ?_ | refine blk_alloc ?_ _)); exact BK330.out) hb); have n1_ := Aside0.mk (below_step (by repeat (first | (with_reducible first | exact HB.out | apply below_alloc | apply pw_below_drewN | apply below_drew1 | refine below_set ?_ GE330.out) | exact HB.out)) hb); clear BK330; clear HB; have BK330 := n0_; have HB := n1_; clear n0_ n1_; (try clear hb); (try clear hb2); (try clear hk); (try clear hi)))
  go_ret2
  exact ⟨by first | rfl | (simp [errW_none, errW_some] <;> rfl) | (simp [*, errW_none, errW_some] <;> rfl), by repeat (first | (with_reducible first | exact HB.out | apply below_alloc | apply pw_below_drewN | apply below_drew1 | refine below_set ?_ GE330.out) | exact HB.out)⟩
end Go.Proofs.YtnpnablnnfekkaaDoor.PTr
set_option linter.unusedVariables false
set_option linter.unusedSimpArgs false
namespace Go.Proofs.YtnpnablnnfekkaaDoor.PTr
open Go.RowKit Go.Proofs.YtnpnablnnfekkaaDoor Go.Proofs.YtnpnablnnfekkaaDoorW.PrintWords
theorem u8_tri {a b : UInt8} (h : ¬ a < b) (h2 : ¬ b < a) : a = b := UInt8.toNat_inj.1 (by have h3 : ¬ a.toNat < b.toNat := h; have h4 : ¬ b.toNat < a.toNat := h2; omega)
theorem u8_irr (a : UInt8) : ¬ a < a := fun h => Nat.lt_irrefl a.toNat h
theorem cb_less : ∀ a b : List UInt8, (Lib.compareBytes a b < 0) ↔ Op.bytesLess a b = true
 | [], [] => by simp [Lib.compareBytes, Op.bytesLess]
 | [], _ :: _ => by simp [Lib.compareBytes, Op.bytesLess]
 | _ :: _, [] => by simp [Lib.compareBytes, Op.bytesLess]
 | a :: x, b :: y => by
  have ih := cb_less x y
  simp only [Lib.compareBytes, Op.bytesLess]
  by_cases h : a < b
  ·
   simp [h]
  ·
   by_cases h2 : b < a
   ·
    have : (a == b) = false := beq_eq_false_iff_ne.2 (fun e => by subst e; exact h h2)
    simp [h, h2, this]
   ·
    have e := u8_tri h h2
    subst e
    rw [if_neg h, if_neg h, ih]; simp [h]
theorem cb_zero : ∀ a b : List UInt8, Lib.compareBytes a b = 0 ↔ a = b
 | [], [] => by simp [Lib.compareBytes]
 | [], _ :: _ => by simp [Lib.compareBytes]
 | _ :: _, [] => by simp [Lib.compareBytes]
 | a :: x, b :: y => by
  have ih := cb_zero x y
  simp only [Lib.compareBytes]
  by_cases h : a < b
  ·
   have : a ≠ b := fun e => by subst e; exact u8_irr _ h
   simp [h, this]
  ·
   by_cases h2 : b < a
   ·
    have : a ≠ b := fun e => by subst e; exact u8_irr _ h2
    simp [h, h2, this]
   ·
    have e := u8_tri h h2
    subst e
    rw [if_neg h, if_neg h, ih]; simp
theorem less_irr : ∀ a : List UInt8, Op.bytesLess a a = false
 | [] => rfl
 | a :: x => by simp [Op.bytesLess, less_irr x]
theorem less_trans : ∀ a b c : List UInt8, Op.bytesLess a b = true → Op.bytesLess b c = true → Op.bytesLess a c = true
 | _, _, [] => by intro _ h; simp [Op.bytesLess] at h
 | _, [], _ :: _ => by intro h; simp [Op.bytesLess] at h
 | [], _ :: _, _ :: _ => by intro _ _; rfl
 | a :: x, b :: y, c :: z => by
  intro h1 h2
  have ih := less_trans x y z
  simp only [Op.bytesLess, Bool.or_eq_true, Bool.and_eq_true, decide_eq_true_eq, beq_iff_eq] at h1 h2 ⊢
  rcases h1 with h1 | ⟨rfl, h1⟩
  ·
   rcases h2 with h2 | ⟨rfl, h2⟩
   ·
    exact .inl (Nat.lt_trans (show a.toNat < b.toNat from h1) h2)
   ·
    exact .inl h1
  ·
   rcases h2 with h2 | ⟨rfl, h2⟩
   ·
    exact .inl h2
   ·
    exact .inr ⟨rfl, ih h1 h2⟩
/-- the names rise -/
def Ordered (es : List Ent) : Prop := ∀ (i j : Nat) (hi : i < es.length) (hj : j < es.length), i < j → Op.bytesLess es[i].f0.data.toList es[j].f0.data.toList = true
theorem ordered_of {es : List Ent} (h : entsB es = true) : Ordered es := by
 have step : ∀ (i : Nat) (hi : i + 1 < es.length), Op.bytesLess es[i].f0.data.toList es[i + 1].f0.data.toList = true := by
  intro i hi
  have := List.all_eq_true.1 h (i + 1) (List.mem_range.2 hi)
  unfold entAt at this
  rw [Bool.and_eq_true, Bool.or_eq_true, decide_eq_true_eq, Nat.add_sub_cancel, rdE _ i (by omega), rdE _ (i + 1) hi, toList_data, toList_data] at this
  rcases this.2 with h' | h'
  ·
   omega
  ·
   exact h'
 intro i j hi hj hij
 obtain ⟨d, rfl⟩ : ∃ d, j = i + 1 + d := ⟨j - i - 1, by omega⟩
 clear hij
 induction d with
 | zero => exact step i hj
 | succ d ih => exact less_trans _ _ _ (ih (by omega)) (step (i + 1 + d) hj)
theorem child_l0 (es : List Ent) (nm : ByteArray) (hl : es.length ≤ 1000000000000000) (hr : Ordered es) : ∀ (d k i j : Nat), j - i ≤ d → d < k → i ≤ j → j ≤ es.length →
  (∀ t (h : t < es.length), t < i → Op.bytesLess es[t].f0.data.toList nm.data.toList = true) → (∀ t (h : t < es.length), j ≤ t → ¬ Op.bytesLess es[t].f0.data.toList nm.data.toList = true) →
  ∃ (r : Nat) (b : Bool), api_Entry_string.l0 k es nm (es.length : Int) (i : Int) (j : Int) = some ((r : Int), b) ∧ (b = true → ∃ h : r < es.length, es[r].f0.data.toList = nm.data.toList) ∧ (b = false → ∀ x ∈ es, x.f0.data.toList ≠ nm.data.toList) := by
 intro d
 induction d with
 | zero =>
  intro k i j hd hk hij hj h1 h2
  obtain ⟨k, rfl⟩ : ∃ q, k = q + 1 := ⟨k - 1, by omega⟩
  have : i = j := by omega
  subst this
  have hne : ∀ t (h : t < es.length), t < i → es[t].f0.data.toList ≠ nm.data.toList := fun t ht hti e => by
   have := h1 t ht hti
   rw [e, less_irr] at this; cases this
  unfold api_Entry_string.l0
  rw [if_neg (by omega)]
  by_cases hi : i < es.length
  ·
   rw [if_pos (by omega), if_pos (by omega), if_pos (by omega), rdE es i hi]
   unfold tree_Child_1.f strings_Compare.f
   simp only [Option.bind_some]
   refine ⟨i, _, rfl, fun h => ⟨hi, (cb_zero _ _).1 (beq_iff_eq.1 h)⟩, fun h x hx e => ?_⟩
   obtain ⟨t, ht, rfl⟩ := List.getElem_of_mem hx
   rcases Nat.lt_trichotomy t i with h4 | h4 | h4
   ·
    exact hne t ht h4 e
   ·
    subst h4
    rw [(cb_zero _ _).2 e] at h; simp at h
   ·
    have := hr i t hi ht h4
    rw [e] at this
    exact h2 i hi (Nat.le_refl _) this
  ·
   rw [if_neg (by omega)]
   refine ⟨i, _, rfl, fun h => by simp at h, fun _ x hx e => ?_⟩
   obtain ⟨t, ht, rfl⟩ := List.getElem_of_mem hx
   exact hne t ht (by omega) e
 | succ d ih =>
  intro k i j hd hk hij hj h1 h2
  by_cases hlt : i < j
  ·
   obtain ⟨k, rfl⟩ : ∃ q, k = q + 1 := ⟨k - 1, by omega⟩
   have hm : wrap64 ((IntKind.u64.wrap (wrap64 ((i : Int) + (j : Int)))) / 2) = (((i + j) / 2 : Nat) : Int) := by
    rw [show wrap64 ((i : Int) + (j : Int)) = ((i + j : Nat) : Int) from by unfold wrap64; omega]
    rw [show IntKind.u64.wrap ((i + j : Nat) : Int) = ((i + j : Nat) : Int) from by rw [IntKind.wrap_u64]; omega]
    unfold wrap64; omega
   have hml : (i + j) / 2 < es.length := by omega
   unfold api_Entry_string.l0
   rw [if_pos (by omega), hm, if_pos (by omega), if_pos (by omega), rdE es _ hml]
   unfold tree_Child_1.f strings_Compare.f
   simp only [Option.bind_some]
   by_cases hc : Lib.compareBytes es[(i + j) / 2].f0.data.toList nm.data.toList < 0
   ·
    rw [if_pos hc, show wrap64 ((((i + j) / 2 : Nat) : Int) + 1) = (((i + j) / 2 + 1 : Nat) : Int) from by unfold wrap64; omega]
    have hcl := (cb_less _ _).1 hc
    refine ih k _ j (by omega) (by omega) (by omega) hj (fun t ht htm => ?_) h2
    rcases Nat.lt_or_ge t ((i + j) / 2) with h4 | h4
    ·
     exact less_trans _ _ _ (hr t _ ht hml h4) hcl
    ·
     have : t = (i + j) / 2 := by omega
     subst this; exact hcl
   ·
    rw [if_neg hc]
    have hcl : ¬ Op.bytesLess es[(i + j) / 2].f0.data.toList nm.data.toList = true := fun h => hc ((cb_less _ _).2 h)
    refine ih k i _ (by omega) (by omega) (by omega) (by omega) h1 (fun t ht htm => ?_)
    rcases Nat.lt_or_ge ((i + j) / 2) t with h4 | h4
    ·
     exact fun h => hcl (less_trans _ _ _ (hr _ t hml ht h4) h)
    ·
     have : t = (i + j) / 2 := by omega
     subst this; exact hcl
  ·
   have : i = j := by omega
   subst this
   exact ih k i i (by omega) (by omega) (Nat.le_refl _) hj h1 h2
/-- the number a name leads to, 0 where there is none -/
def chd (es : List Ent) (nm : ByteArray) : Int := ((es.find? fun e => e.f0.data.toList = nm.data.toList).map (·.f1)).getD 0
theorem pchild_ev (x0 x1 x2 x3 x4 : Int) (x5 : ByteArray) (es : List Ent) (nm : ByteArray) (hl : es.length ≤ 1000000000000000) (hr : Ordered es) (hp : ∀ e ∈ es, 0 < e.f1) : Evt (fun k => tree_Child.f k x0 x1 x2 x3 x4 x5 es nm) (chd es nm, decide (chd es nm > 0)) := by
 refine ⟨es.length + 1, fun k hk => ?_⟩
 obtain ⟨r, b, h1, h2, h3⟩ := child_l0 es nm hl hr es.length k 0 es.length (by omega) (by omega) (by omega) (Nat.le_refl _) (fun t _ h => absurd h (by omega)) (fun t ht h => absurd h (by omega))
 show tree_Child.f k x0 x1 x2 x3 x4 x5 es nm = _
 unfold tree_Child.f api_Entry_string.f
 rw [show (0 : Int) = ((0 : Nat) : Int) from rfl, h1, Option.bind_some]
 cases b with
 | true =>
  obtain ⟨hrl, he⟩ := h2 rfl
  have hf : es.find? (fun e => decide (e.f0.data.toList = nm.data.toList)) = some es[r] := by
   rw [List.find?_eq_some_iff_getElem]
   refine ⟨by simpa using he, r, hrl, rfl, fun j hj => ?_⟩
   have := hr j r (by omega) hrl hj
   simp only [Bool.not_eq_eq_eq_not, Bool.not_true, decide_eq_false_iff_not]
   intro e
   rw [e, he, less_irr] at this; cases this
  have hc : chd es nm = es[r].f1 := by unfold chd; rw [hf]; rfl
  have := hp _ (List.getElem_mem hrl)
  rw [if_pos rfl, if_pos (by show ((0 : Nat) : Int) ≤ (r : Int); omega), if_pos (by show (r : Int) < _; omega), rdE es r hrl, hc]
  rw [decide_eq_true (show es[r].f1 > ((0 : Nat) : Int) from this)]
 | false =>
  have hf : es.find? (fun e => decide (e.f0.data.toList = nm.data.toList)) = none := by
   rw [List.find?_eq_none]
   intro x hx
   simpa using h3 rfl x hx
  have hc : chd es nm = 0 := by unfold chd; rw [hf]; rfl
  rw [if_neg (by simp), hc]; rfl
def nodT (x : Nod) (b : Bool) : Int × Int × Int × Int × Int × ByteArray × List Ent × Bool := (x.f0, x.f1, x.f2, x.f3, x.f4, x.f5, x.f6, b)
def noNod : Nod := ⟨0, 0, 0, 0, 0, (⟨#[]⟩ : ByteArray), []⟩
theorem get_ev (l : List Nod) (a1 a2 a3 id : Int) (hl : l.length ≤ 512) (hr : Rises l) (hb : ∀ x ∈ l, x.f6.length ≤ 1000000000000) :
  ∃ x b, Evt (fun k => tree_Get.f k l a1 a2 a3 id) (nodT x b) ∧ Evt (fun k => rehearsalref04_Get.f k l a1 a2 a3 id) (nodT x b) ∧ ((b = true ∧ x ∈ l ∧ x.f0 = id) ∨ (b = false ∧ x = noNod ∧ id ∉ idsL l)) := by
 by_cases h : id ∈ idsL l
 ·
  obtain ⟨x, hx, rfl⟩ := mem_ids.1 h
  obtain ⟨t, ht, rfl⟩ := List.getElem_of_mem hx
  refine ⟨l[t], true, ⟨l.length + 1, fun k hk => ?_⟩, ⟨l.length + 1, fun k hk => ?_⟩, .inl ⟨rfl, hx, rfl⟩⟩
  ·
   obtain ⟨r, b, h1, h2, h3⟩ := place_any l a1 a2 a3 l[t].f0 (by omega) hr k (by omega)
   cases b with
   | false => exact absurd rfl (h3 rfl _ hx)
   | true =>
    obtain ⟨hrl, he⟩ := h2 rfl
    have : r = t := by
     rcases Nat.lt_trichotomy r t with h4 | h4 | h4
     ·
      have := hr r t hrl ht h4; omega
     ·
      exact h4
     ·
      have := hr t r ht hrl h4; omega
    subst this
    show tree_Get.f k l a1 a2 a3 _ = _
    unfold tree_Get.f
    rw [h1, Option.bind_some, if_pos rfl, if_pos (by show (0 : Int) ≤ (r : Int); omega), if_pos (by show (r : Int) < _; omega), rdN l r ht]
    unfold api_Entry_65.f
    rw [if_pos (hb _ hx)]; rfl
  ·
   show rehearsalref04_Get.f k l a1 a2 a3 _ = _
   unfold rehearsalref04_Get.f
   rw [place_ref l a1 a2 a3 _ (by omega) k (by omega), pl_in hr t ht, Option.bind_some, if_neg (by omega), if_pos (by omega), if_pos (by omega), rdN l t ht]; rfl
 ·
  refine ⟨noNod, false, ⟨l.length + 1, fun k hk => ?_⟩, ⟨l.length + 1, fun k hk => ?_⟩, .inr ⟨rfl, rfl, h⟩⟩
  ·
   obtain ⟨r, b, h1, h2, h3⟩ := place_any l a1 a2 a3 id (by omega) hr k (by omega)
   cases b with
   | true =>
    obtain ⟨hrl, he⟩ := h2 rfl
    exact absurd (mem_ids.2 ⟨_, List.getElem_mem hrl, he⟩) h
   | false =>
    show tree_Get.f k l a1 a2 a3 _ = _
    unfold tree_Get.f
    rw [h1, Option.bind_some, if_neg (by simp)]; rfl
  ·
   show rehearsalref04_Get.f k l a1 a2 a3 _ = _
   unfold rehearsalref04_Get.f
   rw [place_ref l a1 a2 a3 _ (by omega) k (by omega), pl_out h, Option.bind_some, if_pos (by omega)]; rfl
theorem tlinks_l1 (l : List Nod) (id : Int) (hl : l.length ≤ 512) (i : Nat) (hi : i < l.length) (es : List Ent) (hb : es.length ≤ 140737488351232) (r : Int) :
  ∀ (d q n : Nat), q + d = es.length → n + d ≤ 1000000000000000000 → Evt (fun k => tree_Links.l0 k id ((n + ((es.drop q).map (·.f1)).count id : Nat) : Int) l (l.length : Int) ((i + 1 : Nat) : Int)) r → Evt (fun k => tree_Links.l1 k id (n : Int) l (l.length : Int) (i : Int) es (es.length : Int) (q : Int)) r := by
 intro d
 induction d with
 | zero =>
  intro q n h hn hE
  rw [List.drop_of_length_le (by omega)] at hE
  refine Evt.succ 0 (fun k _ => ?_) hE
  simp only [tree_Links.l1]
  rw [if_neg (by omega), show wrap64 ((i : Int) + 1) = ((i + 1 : Nat) : Int) from by unfold wrap64; omega]
  rfl
 | succ d ih =>
  intro q n h hn hE
  have hq : q < es.length := by omega
  have hs : ∀ k, tree_Links.l1 (k + 1) id (n : Int) l (l.length : Int) (i : Int) es (es.length : Int) (q : Int) = tree_Links.l1 k id ((n + (if es[q].f1 = id then 1 else 0) : Nat) : Int) l (l.length : Int) (i : Int) es (es.length : Int) ((q + 1 : Nat) : Int) := by
   intro k
   simp only [tree_Links.l1]
   rw [if_pos (by omega), if_pos (by omega), if_pos (by omega), rdE _ q hq, show wrap64 ((q : Int) + 1) = ((q + 1 : Nat) : Int) from by unfold wrap64; omega]
   by_cases he : es[q].f1 = id
   ·
    rw [if_pos he, if_pos he, show wrap64 ((n : Int) + 1) = ((n + 1 : Nat) : Int) from by unfold wrap64; omega]
   ·
    rw [if_neg he, if_neg he]; rfl
  refine Evt.succ 0 (fun k _ => hs k) (ih (q + 1) _ (by omega) (by split <;> omega) ?_)
  rw [List.drop_eq_getElem_cons hq, List.map_cons, List.count_cons] at hE
  have e : n + (((es.drop (q + 1)).map (·.f1)).count id + if (es[q].f1 == id) = true then 1 else 0) = n + (if es[q].f1 = id then 1 else 0) + ((es.drop (q + 1)).map (·.f1)).count id := by
   by_cases he : es[q].f1 = id <;> simp [he] <;> omega
  rw [e] at hE
  exact hE
theorem tlinks_l0 (l : List Nod) (id : Int) (hl : l.length ≤ 512) (hb : ∀ x ∈ l, x.f6.length ≤ 140737488351232) :
  ∀ (d i n : Nat), i + d = l.length → n + d * 140737488351232 ≤ 1000000000000000000 → Evt (fun k => tree_Links.l0 k id (n : Int) l (l.length : Int) (i : Int)) ((n + lk (l.drop i) id : Nat) : Int) := by
 intro d
 induction d with
 | zero =>
  intro i n h hn
  refine Evt.const 0 (fun k _ => ?_)
  simp only [tree_Links.l0]
  rw [if_neg (by omega), List.drop_of_length_le (by omega)]; rfl
 | succ d ih =>
  intro i n h hn
  have hi : i < l.length := by omega
  have hbi := hb l[i] (List.getElem_mem hi)
  have hc : (l[i].f6.map (·.f1)).count id ≤ l[i].f6.length := by have := List.count_le_length (a := id) (l := l[i].f6.map (·.f1)); rwa [List.length_map] at this
  refine Evt.succ (h := fun k => tree_Links.l1 k id (n : Int) l (l.length : Int) (i : Int) l[i].f6 (l[i].f6.length : Int) ((0 : Nat) : Int)) 0 (fun k _ => ?_) (tlinks_l1 l id hl i hi l[i].f6 hbi _ l[i].f6.length 0 n (by omega) (by omega) ?_)
  ·
   simp only [tree_Links.l0]
   rw [if_pos (by omega), if_pos (by omega), if_pos (by omega), rdN l i hi]; rfl
  ·
   rw [List.drop_zero]
   have := ih (i + 1) (n + (l[i].f6.map (·.f1)).count id) (by omega) (by omega)
   rw [List.drop_eq_getElem_cons hi]
   have e : n + lk (l[i] :: l.drop (i + 1)) id = n + (l[i].f6.map (·.f1)).count id + lk (l.drop (i + 1)) id := by simp only [lk, List.map_cons, List.sum_cons]; omega
   rw [e]
   exact this
theorem tlinks_ev (l : List Nod) (a1 a2 a3 id : Int) (hl : l.length ≤ 512) (hb : ∀ x ∈ l, x.f6.length ≤ 140737488351232) : Evt (fun k => tree_Links.f k l a1 a2 a3 id) (lk l id : Int) := by
 have := tlinks_l0 l id hl hb l.length 0 0 (by omega) (by omega)
 rw [List.drop_zero, Nat.zero_add] at this
 exact this
theorem ents_of_plain {x : Nod} (h : plainB x = true) : entsB x.f6 = true := by
 unfold plainB at h
 simp only [Bool.and_eq_true] at h
 have h3 := h.2
 split at h3
 ·
  simp only [Bool.and_eq_true] at h3; exact h3.2
 ·
  have h0 : x.f6 = [] := by
   split at h3
   ·
    simp only [Bool.and_eq_true, decide_eq_true_eq] at h3; exact List.eq_nil_of_length_eq_zero (by omega)
   ·
    split at h3
    ·
     simp only [Bool.and_eq_true, decide_eq_true_eq] at h3; exact List.eq_nil_of_length_eq_zero (by omega)
    ·
     cases h3
  rw [h0]; rfl
theorem plain_all {l : List Nod} {a1 : Int} (h : nodesOK l a1 = true) : ∀ y ∈ l, plainB y = true := fun y hy => by
 obtain ⟨i, hi, rfl⟩ := List.getElem_of_mem hy
 have := List.all_eq_true.1 h i (List.mem_range.2 hi)
 unfold nodeAt at this
 rw [Bool.and_eq_true, Bool.and_eq_true, rdN l i hi] at this
 exact this.1.1
theorem ids_pos {l : List Nod} (hh : headOK l = true) (hr : Rises l) : ∀ a ∈ idsL l, 0 < a := by
 intro a ha
 obtain ⟨x, hx, rfl⟩ := mem_ids.1 ha
 obtain ⟨i, hi, rfl⟩ := List.getElem_of_mem hx
 obtain ⟨h0, e0, _⟩ := one_in hh
 by_cases hz : i = 0
 ·
  subst hz; omega
 ·
  have := hr 0 i h0 hi (by omega); omega
end Go.Proofs.YtnpnablnnfekkaaDoor.PTr
set_option linter.unusedVariables false
set_option linter.unusedSimpArgs false
namespace Go.Proofs.YtnpnablnnfekkaaDoor.PTr
open Go.RowKit Go.Proofs.YtnpnablnnfekkaaDoor Go.Proofs.YtnpnablnnfekkaaDoorW.PrintWords
def renE (ρ : Int → Int) (e : Ent) : Ent := ⟨e.f0, ρ e.f1⟩
def renN (ρ : Int → Int) (x : Nod) : Nod := ⟨ρ x.f0, x.f1, x.f2, x.f3, x.f4, x.f5, x.f6.map (renE ρ)⟩
structure Ren (ρ : Int → Int) (l l' : List Nod) : Prop where
 inj : ∀ a ∈ idsL l, ∀ b ∈ idsL l, ρ a = ρ b → a = b
 node : ∀ id ∈ idsL l, nodeL l' (ρ id) = (nodeL l id).map (renN ρ)
 ids : ∀ y, y ∈ idsL l' → ∃ x ∈ idsL l, ρ x = y
 ids' : ∀ x ∈ idsL l, ρ x ∈ idsL l'
 len : l'.length = l.length
 nd : (idsL l).Nodup
 nd' : (idsL l').Nodup
 one : ρ 1 = 1
 cl : ∀ x ∈ l, ∀ e ∈ x.f6, e.f1 ∈ idsL l
theorem nodeL_mem {l : List Nod} {id : Int} {x : Nod} (h : nodeL l id = some x) : x ∈ l ∧ x.f0 = id := by
 unfold nodeL at h
 exact ⟨List.mem_of_find?_eq_some h, by simpa using List.find?_some h⟩
end Go.Proofs.YtnpnablnnfekkaaDoor.PTr
set_option linter.unusedVariables false
set_option linter.unusedSimpArgs false
namespace Go.Proofs.YtnpnablnnfekkaaDoor.PTr
open Go.RowKit Go.Proofs.YtnpnablnnfekkaaDoor Go.Proofs.YtnpnablnnfekkaaDoorW.PrintWords
def flatP : List (List UInt8) → List UInt8
 | [] => []
 | n :: r => 47 :: (n ++ flatP r)
def pathOf (ns : List (List UInt8)) : List UInt8 := if ns = [] then [47] else flatP ns
def NmOK (n : List UInt8) : Prop := n ≠ [] ∧ (∀ c ∈ n, c ≠ 47) ∧ n.length ≤ 64
/-- names lead from a node to another one -/
def Leads (l : List Nod) : Int → List (List UInt8) → Int → Prop
 | a, [], id => a = id
 | a, n :: r, id => ∃ x ∈ l, x.f0 = a ∧ ∃ e ∈ x.f6, e.f0.data.toList = n ∧ Leads l e.f1 r id
theorem flatP_app (ns : List (List UInt8)) (n : List UInt8) : flatP (ns ++ [n]) = flatP ns ++ 47 :: n := by
 induction ns with
 | nil => simp [flatP]
 | cons m r ih => simp [flatP, ih]
theorem leads_app {l : List Nod} {x : Nod} (hx : x ∈ l) {e : Ent} (he : e ∈ x.f6) : ∀ (ns : List (List UInt8)) (a : Int), Leads l a ns x.f0 → Leads l a (ns ++ [e.f0.data.toList]) e.f1
 | [], a, h => ⟨x, hx, h.symm, e, he, rfl, rfl⟩
 | n :: r, a, h => by
  obtain ⟨y, hy, h1, f, hf, h2, h3⟩ := h
  exact ⟨y, hy, h1, f, hf, h2, leads_app hx he r _ h3⟩
theorem trimR_path (ns : List (List UInt8)) (h : ∀ n ∈ ns, NmOK n) : trimR (pathOf ns) = flatP ns := by
 rcases List.eq_nil_or_concat ns with rfl | ⟨a, n, rfl⟩
 ·
  show trimR ([] ++ [47]) = []
  rw [trimR_slash]; rfl
 ·
  rw [List.concat_eq_append] at h ⊢
  have hn := h n (by simp)
  unfold pathOf
  rw [if_neg (by simp), flatP_app]
  rcases List.eq_nil_or_concat n with rfl | ⟨m, c, rfl⟩
  ·
   exact absurd rfl hn.1
  ·
   rw [List.concat_eq_append] at hn ⊢
   have hc := hn.2.1 c (by simp)
   rw [show flatP a ++ 47 :: (m ++ [c]) = (flatP a ++ 47 :: m) ++ [c] by simp, trimR_other _ hc]
theorem join_path (ns : List (List UInt8)) (h : ∀ n ∈ ns, NmOK n) (s : List UInt8) : joinP (pathOf ns) s = pathOf (ns ++ [s]) := by
 unfold joinP
 rw [trimR_path ns h]
 unfold pathOf
 rw [if_neg (by simp), flatP_app]
def GoodP (l : List Nod) (q : Int × List UInt8) : Prop := ∃ ns, q.2 = pathOf ns ∧ (∀ n ∈ ns, NmOK n) ∧ Leads l 1 ns q.1
theorem wayP_good (l : List Nod) (hnm : ∀ x ∈ l, ∀ e ∈ x.f6, NmOK e.f0.data.toList) (k : Nat) : ∀ (acc : List (Int × List UInt8)) (id : Int) (p : List UInt8), (∀ q ∈ acc, GoodP l q) → GoodP l (id, p) → ∀ q ∈ wayP l k acc id p, GoodP l q := by
 induction k with
 | zero => intro acc id p h _ q hq; exact h q hq
 | succ k ih =>
  intro acc id p h hg
  unfold wayP
  split
  ·
   exact h
  ·
   split
   ·
    exact h
   ·
    rename_i x hx
    obtain ⟨hxl, hxi⟩ := nodeL_mem hx
    have fold : ∀ (es : List Ent) (a : List (Int × List UInt8)), (∀ e ∈ es, e ∈ x.f6) → (∀ q ∈ a, GoodP l q) → ∀ q ∈ es.foldl (fun a e => wayP l k a e.f1 (joinP p e.f0.data.toList)) a, GoodP l q := by
     intro es
     induction es with
     | nil => intro a _ ha; exact ha
     | cons e r ihr =>
      intro a hs ha
      rw [List.foldl_cons]
      refine ihr _ (fun e' h' => hs e' (List.mem_cons_of_mem _ h')) (ih a _ _ ha ?_)
      obtain ⟨ns, h1, h2, h3⟩ := hg
      have he := hs e (List.mem_cons_self ..)
      have h1' : p = pathOf ns := h1
      have h3' : Leads l 1 ns id := h3
      refine ⟨ns ++ [e.f0.data.toList], ?_, ?_, ?_⟩
      ·
       show joinP p _ = _
       rw [h1', join_path ns h2]
      ·
       intro n hn
       rcases List.mem_append.1 hn with h4 | h4
       ·
        exact h2 n h4
       ·
        rw [List.mem_singleton] at h4; subst h4; exact hnm x hxl e he
      ·
       exact leads_app hxl he ns 1 (by rw [hxi]; exact h3')
    refine fold x.f6 _ (fun _ h => h) (fun q hq => ?_)
    rcases List.mem_append.1 hq with h1 | h1
    ·
     exact h q h1
    ·
     rw [List.mem_singleton] at h1
     subst h1; exact hg
theorem names_ok {l : List Nod} {a1 : Int} (h : nodesOK l a1 = true) : ∀ x ∈ l, ∀ e ∈ x.f6, NmOK e.f0.data.toList := by
 intro x hx e he
 have h1 := ents_of_plain (plain_all h x hx)
 obtain ⟨q, hq, rfl⟩ := List.getElem_of_mem he
 have h4 := List.all_eq_true.1 h1 q (List.mem_range.2 hq)
 unfold entAt at h4
 rw [rdE _ q hq] at h4
 simp only [Bool.and_eq_true] at h4
 have h5 := h4.1
 unfold nameB at h5
 simp only [Bool.and_eq_true, decide_eq_true_eq, Bool.not_eq_true', List.any_eq_false] at h5
 refine ⟨h5.1.1.1.1.1, fun c hc e => ?_, h5.1.1.2⟩
 have := h5.1.2 c hc
 rw [e] at this
 exact this rfl
theorem wid_good {l : List Nod} {a1 : Int} (h : chk l a1 = 0) : ∀ q ∈ wid l a1, GoodP l q := by
 obtain ⟨hh, hn, _⟩ := chk_facts h
 unfold wid
 rw [if_pos h]
 exact wayP_good l (names_ok hn) _ [] 1 [47] (fun q hq => by cases hq) ⟨[], rfl, fun n hn => (by cases hn), rfl⟩
/-- a step of a name -/
theorem chd_step {es : List Ent} (ho : Ordered es) {e : Ent} (he : e ∈ es) {nm : ByteArray} (hn : e.f0.data.toList = nm.data.toList) : chd es nm = e.f1 := by
 obtain ⟨r, hr, rfl⟩ := List.getElem_of_mem he
 have hf : es.find? (fun e => decide (e.f0.data.toList = nm.data.toList)) = some es[r] := by
  rw [List.find?_eq_some_iff_getElem]
  refine ⟨by simpa using hn, r, hr, rfl, fun j hj => ?_⟩
  have := ho j r (by omega) hr hj
  simp only [Bool.not_eq_eq_eq_not, Bool.not_true, decide_eq_false_iff_not]
  intro e
  rw [e, hn, less_irr] at this; cases this
 unfold chd; rw [hf]; rfl
theorem node_one {l : List Nod} (hr : Rises l) {x y : Nod} (hx : x ∈ l) (hy : y ∈ l) (h : x.f0 = y.f0) : x = y := by
 obtain ⟨i, hi, rfl⟩ := List.getElem_of_mem hx
 obtain ⟨j, hj, rfl⟩ := List.getElem_of_mem hy
 rcases Nat.lt_trichotomy i j with h4 | h4 | h4
 ·
  have := hr i j hi hj h4; omega
 ·
  subst h4; rfl
 ·
  have := hr j i hj hi h4; omega
end Go.Proofs.YtnpnablnnfekkaaDoor.PTr
