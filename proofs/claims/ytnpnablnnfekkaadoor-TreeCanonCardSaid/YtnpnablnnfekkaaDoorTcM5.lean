/- Texts of this claim's proof: small lemmas, walks and plain laws (merged by wip/shake.py). -/
import Derived.Test.YtnpnablnnfekkaaDoorTcM0
import Derived.Test.YtnpnablnnfekkaaDoorTcM1
import Derived.Test.YtnpnablnnfekkaaDoorTcM3
import Derived.Test.YtnpnablnnfekkaaDoorTcM4
import Derived.ChangeArms
import Derived.ChangeSlices
import Derived.WideShapes
import Derived.SizedLaws
import Derived.OpenShut
import Derived.KernelRfl
set_option linter.unusedVariables false
set_option linter.unusedSimpArgs false
namespace Go.Proofs.YtnpnablnnfekkaaDoor.PTr
open Go.RowKit Go.Proofs.YtnpnablnnfekkaaDoor Go.Proofs.YtnpnablnnfekkaaDoorW.PrintWords Go.Proofs.YtnpnablnnfekkaaDoorW.PrintLast Go.Proofs.YtnpnablnnfekkaaDoorW.PrintMore
theorem moved_f (id s : Int) : rehearsallaw04_moved.f id s = some (mvd s id) := by
 unfold rehearsallaw04_moved.f mvd
 split <;> rfl
attribute [local go_sem] max2_int
theorem cnlblk {w : World} {g g' t t' : Nat} {cs : Array Value} (hz : w.heap[g']? = some (.cells zTb t' (0, 0))) (h : w.heap[g]? = some (.cells cs t (0, 0))) (ne : g ≠ g') (x0 x1 x2 x3 : Value) : (w.setCells g' 0 (#[x0, x1, x2, x3] : Array Value).toList).heap[g]? = some (.cells cs t (0, 0)) :=
 blk_far (blk_far (blk_far (blk_far h ne _) ne _) ne _) ne _
theorem canon_facts {l : List Nod} {a1 : Int} (a2 a3 : Int) {s : Int} (hs : 0 ≤ s ∧ s ≤ 255) (hE : eOK l) (h : chk l a1 = 0) : ∃ (c : List Nod) (n : Int) (KX KM : Nat), canM l a1 a2 a3 = (c, n, a2, a3, 0) ∧ c.length ≤ 512 ∧ (∀ x ∈ c, x.f6.length ≤ 5864062014805) ∧ tree_Canon.f c n a2 a3 = some (c, n, a2, a3, 0) ∧
  rehearsalref04_Exact.f KX c n a2 a3 c n a2 a3 = some true ∧ tree_Check.f c n a2 a3 = some 0 ∧ tree_Same.f KM c n a2 a3 l a1 a2 a3 = some true ∧
  ∀ m, (∀ x ∈ c, mvd s x.f0 ≤ m) → tree_Check.f (c.map (renN (mvd s))) m a2 a3 = some 0 ∧ ∃ K, tree_Same.f K (c.map (renN (mvd s))) m a2 a3 l a1 a2 a3 = some true := by
 have hbd := canM_bd l a1 a2 a3 hE
 obtain ⟨_, _, t, ht⟩ := wid_full h
 have e1 : canM l a1 a2 a3 = (canN l ((wid l a1).map (·.1)), (((wid l a1).map (·.1)).length : Int), a2, a3, 0) := canM_some (by rw [ht]; simp)
 rw [e1] at hbd
 have hcc := can_chk h
 have hcn := can_can h
 obtain ⟨c, hc⟩ : ∃ c, canN l ((wid l a1).map (·.1)) = c := ⟨_, rfl⟩
 obtain ⟨n, hn⟩ : ∃ n : Int, (((wid l a1).map (·.1)).length : Int) = n := ⟨_, rfl⟩
 have hmv : ∀ last, (∀ x ∈ c, mvd s x.f0 ≤ last) → chk (c.map (renN (mvd s))) last = 0 ∧ canN (c.map (renN (mvd s))) ((wid (c.map (renN (mvd s))) last).map (·.1)) = c := fun last hl => by
  have := can_moved (last := last) h hs (by rw [hc]; exact hl)
  rw [hc] at this; exact this
 have hlen : ((wid c n).map (·.1)).length = ((wid l a1).map (·.1)).length := by
  have := congrArg List.length hcn
  rw [canN_len, canN_len, hc, hn] at this; exact this
 rw [hc, hn] at hbd hcc hcn e1
 have e2 : canM c n a2 a3 = (c, n, a2, a3, 0) := by
  obtain ⟨_, _, t2, ht2⟩ := wid_full hcc
  rw [canM_some (by rw [ht2]; simp), hcn, hlen, hn]
 have hcE : eOK c := fun _ x hx => hbd.2 x hx
 have hsm : ∀ (m : List Nod) (m1 : Int), (canM m m1 a2 a3).2.2.2.2 = 0 → (canM m m1 a2 a3).1 = c → sameB m m1 a2 a3 l a1 a2 a3 = true := fun m m1 he hm => by
  unfold sameB
  rw [if_pos he, e1, hm, if_pos rfl, nodsEq_refl]
 obtain ⟨KX, hX⟩ := exact_ev c n a2 a3 (by have := hbd.1; show c.length ≤ _; simp only at this; omega) (fun x hx => by have := hbd.2 x hx; omega)
 obtain ⟨KM, hM⟩ := psame_ev c n a2 a3 l a1 a2 a3 hcE hE
 rw [hsm c n (by rw [e2]) (by rw [e2])] at hM
 refine ⟨c, n, KX, KM, e1, hbd.1, hbd.2, (canon_f hcE n a2 a3).trans (congrArg some e2), hX KX (Nat.le_refl _), (check_f hcE n a2 a3).trans (congrArg some hcc), hM KM (Nat.le_refl _), fun m hm => ?_⟩
 obtain ⟨hk, hcm⟩ := hmv m hm
 have hmE : eOK (c.map (renN (mvd s))) := fun _ x hx => by
  obtain ⟨y, hy, rfl⟩ := List.mem_map.1 hx
  show (y.f6.map _).length ≤ _
  rw [List.length_map]; exact hbd.2 y hy
 have e3 : canM (c.map (renN (mvd s))) m a2 a3 = (c, (((wid (c.map (renN (mvd s))) m).map (·.1)).length : Int), a2, a3, 0) := by
  obtain ⟨_, _, t2, ht2⟩ := wid_full hk
  rw [canM_some (by rw [ht2]; simp), hcm]
 obtain ⟨K, hK⟩ := psame_ev (c.map (renN (mvd s))) m a2 a3 l a1 a2 a3 hmE hE
 rw [hsm _ m (by rw [e3]) (by rw [e3])] at hK
 exact ⟨(check_f hmE m a2 a3).trans (congrArg some hk), K, hK K (Nat.le_refl _)⟩
theorem BSt.push {wf w w1 : World} {g : Nat} {u u1 : Value} {out out1 : List Nod} {b1 b2 b3 : Int} (h : BSt wf w g u out b1 b2 b3) (hs : Kd.S k44 44 w1 wf.heap.size (fun _ => True) u1 out1) (hb : Below wf.heap.size wf w1) (hg : w.grownBy w1 u.ownBlock) : BSt wf (w1.setCell ⟨g, 0, none⟩ u1) g u1 out1 b1 b2 b3 := by
 have b := blk_grown h.b hg (Kd.S_ne h.s h.b (by decide))
 exact ⟨below_set hb h.eg, h.eg, blk_put b 0 u1 rfl, Kd.S_set hs b (by decide) 0 u1⟩
theorem BSt.setLast {wf w : World} {g : Nat} {u : Value} {out : List Nod} {b1 b2 b3 : Int} (h : BSt wf w g u out b1 b2 b3) (m : Int) : BSt wf (w.setCell ⟨g, 1, none⟩ (.int .i64 m)) g u out m b2 b3 :=
 ⟨below_set h.hb h.eg, h.eg, blk_put h.b 1 (.int .i64 m) rfl, Kd.S_set h.s h.b (by decide) 1 _⟩
theorem RNd.put {wr w : World} {gb go : Nat} {n c : Nat} {x0 x1 x2 x3 x4 : Int} {x5 : ByteArray} {es : List Ent} (h : RNd wr w gb x0 x1 x2 x3 x4 x5 (.slice (some ⟨go, 0, none⟩) n c) (.slice (some ⟨go, 0, none⟩) n c) es) (k : Nat) (hk : k < es.length) (hn : n = es.length) (name : ByteArray) (node new : Int) (he : es[k] = ⟨name, node⟩) :
  w.cell? ⟨go, k * 2 + 1, none⟩ = some (.int .i64 node) ∧ w.frozen? ⟨go, k * 2 + 1, none⟩ = false ∧ RNd wr (w.setCell ⟨go, k * 2 + 1, none⟩ (.int .i64 new)) gb x0 x1 x2 x3 x4 x5 (.slice (some ⟨go, 0, none⟩) n c) (.slice (some ⟨go, 0, none⟩) n c) (es.set k ⟨name, new⟩) := by
 subst hn
 obtain ⟨go', cg, eg, hgb, hgl, hgc⟩ := Kd.R_form h.r (by omega)
 cases eg
 have hne : gb ≠ go := fun e => by obtain ⟨cells, hc⟩ := hgc; have h1 := h.bn; rw [e, hc] at h1; injection h1 with h1; injection h1 with _ t; exact absurd t (by decide)
 obtain ⟨ce, hcl, hM, hcc, hfr⟩ := Kd.R_elem h.r z61 (k : Int) (by omega) (by omega)
 obtain rfl := k61_openM hM
 have hrd : es.getD (k : Int).toNat z61 = ⟨name, node⟩ := by
  rw [Int.toNat_natCast, List.getD_eq_getElem?_getD, List.getElem?_eq_getElem hk, Option.getD_some, he]
 have hx1 : w.cell? ⟨go, (k : Int).toNat * 2 + 1, none⟩ = some (.int .i64 node) := by have := hcc 1 _ rfl; rw [hrd] at this; exact this
 have hf1 : w.frozen? ⟨go, (k : Int).toNat * 2 + 1, none⟩ = false := hfr 1
 have hseg := (Kd.R_seg h.r (k : Int) (by omega) (by omega) (seg := [.int .i64 new]) (j := 1) hcl hcc (show 2 ≤ 2 from by decide) (x' := (⟨name, new⟩ : Ent)) (by have := k61_mkM w wr.heap.size (fun _ => True) (⟨name, new⟩ : Ent); rw [hrd]; exact this) (fun _ hk => hk)).1
 rw [Int.toNat_natCast] at hx1 hf1 hseg
 exact ⟨hx1, hf1, below_set h.hb hgb, blk_far h.bn hne _, h.en, hseg⟩
set_option maxHeartbeats 8000000 in
set_option maxRecDepth 100000 in
theorem canonlaw_no (l : List Nod) (A : Option Addr) (c0 : Nat) (a1 a2 a3 s : Int) (w : World) (hr : Kd.C k44 w A l.length l) (hc : l.length ≤ c0) (hE : eOK l) (KS : Nat) (b : Bool) (hS : rehearsalref04_Small.f KS l a1 a2 a3 = some b) (hno : b = false ∨ chk l a1 ≠ 0) :
  Calls Tryd.prog 8 #[.agg #[.slice A l.length c0, .int .i64 a1, .int .i64 a2, .int .i64 a3], .int .u8 s] w fun e w' => e = .returned (.bool true) ∧ Below w.heap.size w w' := by
 have hu26 := Tryd.underlying26
 have HR := Lib.hid hr
 have HC := Lib.hid hc
 have HS := Lib.hid hS
 have hx4 := canM_err l a1 a2 a3
 have ha := canon_f hE a1 a2 a3
 generalize canM l a1 a2 a3 = x at hx4 ha
 obtain ⟨X0, X1, X2, X3, X4⟩ := x
 have HA := Lib.hid ha
 have h4 : X4 = chk l a1 := hx4
 clear hr hc hE hS ha hx4
 cases b with
 | false =>
  clear hno h4
  go_enter Tryd.func8, Tryd.ntmps8
  go_wp2_with (first | ((with_reducible refine gate_dst (N := 2) rfl ?_); refine box_event ?hg (N := 2) ?hd (cs := #[.slice A l.length c0, .int .i64 a1, .int .i64 a2, .int .i64 a3]) (t := 26) ?hr ?_; (case hd => rfl); (case hg => rfl); (case hr => first | (go_simp; done) | (go_simp; rfl)); intro g2 hgx w1 hbox hb; have B2 := Lib.hid hbox; have HB := Lib.hid (below_step (Below.refl w.heap.size w) hb); have E2 : Hid (w.heap.size ≤ g2) := Lib.hid (by rw [hgx]; exact Nat.le_refl _); clear hbox hb hgx; have d0 : w1.cell? ⟨g2, 0, none⟩ = some (.slice A l.length c0) := (blk_cell B2.out 0).trans rfl; have d1 : w1.cell? ⟨g2, 1, none⟩ = some (.int .i64 a1) := (blk_cell B2.out 1).trans rfl; have d2 : w1.cell? ⟨g2, 2, none⟩ = some (.int .i64 a2) := (blk_cell B2.out 2).trans rfl; have d3 : w1.cell? ⟨g2, 3, none⟩ = some (.int .i64 a3) := (blk_cell B2.out 3).trans rfl) | (go_at_call 24; (with_reducible refine (tree_Canon.calls _ _ l a1 a2 a3 X0 X1 X2 X3 X4 _ (Kd.C_below HR.out HB.out) HC.out HA.out).mono ?_); rintro e w2 ⟨v2, rfl, hs, hb⟩; obtain ⟨A5, c5, e5⟩ := Kd.S_slice hs; subst e5; have S5 := Lib.hid (Kd.S_lower hs (below_size HB.out)); clear hs; replace B2 := Lib.hid (blk_below B2.out hb); replace HB := Lib.hid (below_step HB.out hb); clear hb d0 d1 d2 d3; have d0 : w2.cell? ⟨g2, 0, none⟩ = some (.slice A l.length c0) := (blk_cell B2.out 0).trans rfl; have d1 : w2.cell? ⟨g2, 1, none⟩ = some (.int .i64 a1) := (blk_cell B2.out 1).trans rfl; have d2 : w2.cell? ⟨g2, 2, none⟩ = some (.int .i64 a2) := (blk_cell B2.out 2).trans rfl; have d3 : w2.cell? ⟨g2, 3, none⟩ = some (.int .i64 a3) := (blk_cell B2.out 3).trans rfl) | ((with_reducible refine gate_dst (N := 5) rfl ?_); refine box_event ?hg (N := 5) ?hd (cs := zTb) (t := 26) ?hr ?_; (case hd => rfl); (case hg => rfl); (case hr => first | (go_simp; done) | (go_simp; rfl)); intro g5 hgx w3 hbox hb; refine store_tree rfl rfl (.tmp 5) (.tmp 16) rfl (b1 := X1) (b2 := X2) (b3 := X3) rfl rfl hbox ?_; have X := Lib.hid (BSt.init HB.out S5.out hb hbox hgx X1 X2 X3); replace B2 := Lib.hid (cnlblk hbox (blk_below B2.out hb) (by rw [hgx]; exact Nat.ne_of_lt (blk_lt B2.out)) (.slice A5 X0.length c5) (.int .i64 X1) (.int .i64 X2) (.int .i64 X3)); clear hbox hb hgx S5 d0 d1 d2 d3; generalize w3.setCells _ _ _ = w4 at X B2 ⊢; replace HB := Lib.hid X.out.hb; have d0 : w4.cell? ⟨g2, 0, none⟩ = some (.slice A l.length c0) := (blk_cell B2.out 0).trans rfl; have d1 : w4.cell? ⟨g2, 1, none⟩ = some (.int .i64 a1) := (blk_cell B2.out 1).trans rfl; have d2 : w4.cell? ⟨g2, 2, none⟩ = some (.int .i64 a2) := (blk_cell B2.out 2).trans rfl; have d3 : w4.cell? ⟨g2, 3, none⟩ = some (.int .i64 a3) := (blk_cell B2.out 3).trans rfl; have f0 : w4.cell? ⟨g5, 0, none⟩ = some (.slice A5 X0.length c5) := (blk_cell X.out.b 0).trans rfl; have f1 : w4.cell? ⟨g5, 1, none⟩ = some (.int .i64 X1) := (blk_cell X.out.b 1).trans rfl; have f2 : w4.cell? ⟨g5, 2, none⟩ = some (.int .i64 X2) := (blk_cell X.out.b 2).trans rfl; have f3 : w4.cell? ⟨g5, 3, none⟩ = some (.int .i64 X3) := (blk_cell X.out.b 3).trans rfl) | (go_at_call 15; (with_reducible refine (rehearsalref04_Small.calls KS _ _ l a1 a2 a3 _ _ (Kd.C_below HR.out HB.out) HC.out HS.out).mono ?_); rintro e w5 ⟨rfl, hb⟩; replace B2 := Lib.hid (blk_below B2.out hb); replace HB := Lib.hid (below_step HB.out hb); replace X := Lib.hid (X.out.below hb); clear hb d0 d1 d2 d3 f0 f1 f2 f3; have d0 : w5.cell? ⟨g2, 0, none⟩ = some (.slice A l.length c0) := (blk_cell B2.out 0).trans rfl; have d1 : w5.cell? ⟨g2, 1, none⟩ = some (.int .i64 a1) := (blk_cell B2.out 1).trans rfl; have d2 : w5.cell? ⟨g2, 2, none⟩ = some (.int .i64 a2) := (blk_cell B2.out 2).trans rfl; have d3 : w5.cell? ⟨g2, 3, none⟩ = some (.int .i64 a3) := (blk_cell B2.out 3).trans rfl; have f0 : w5.cell? ⟨g5, 0, none⟩ = some (.slice A5 X0.length c5) := (blk_cell X.out.b 0).trans rfl; have f1 : w5.cell? ⟨g5, 1, none⟩ = some (.int .i64 X1) := (blk_cell X.out.b 1).trans rfl; have f2 : w5.cell? ⟨g5, 2, none⟩ = some (.int .i64 X2) := (blk_cell X.out.b 2).trans rfl; have f3 : w5.cell? ⟨g5, 3, none⟩ = some (.int .i64 X3) := (blk_cell X.out.b 3).trans rfl) | (go_at_call 16; (with_reducible refine (awake_any _).mono ?_); rintro e w6 ⟨rfl, hb⟩; replace HB := Lib.hid (below_step HB.out hb); clear hb))
  go_ret
  exact ⟨rfl, HB.out⟩
 | true =>
  have k4 : (X4 != 0) = true := bne_iff_ne.mpr (by
   rcases hno with h | h
   ·
    cases h
   ·
    rw [h4]; exact h)
  clear hno h4
  go_enter Tryd.func8, Tryd.ntmps8
  go_wp2_with (first | ((with_reducible refine gate_dst (N := 2) rfl ?_); refine box_event ?hg (N := 2) ?hd (cs := #[.slice A l.length c0, .int .i64 a1, .int .i64 a2, .int .i64 a3]) (t := 26) ?hr ?_; (case hd => rfl); (case hg => rfl); (case hr => first | (go_simp; done) | (go_simp; rfl)); intro g2 hgx w1 hbox hb; have B2 := Lib.hid hbox; have HB := Lib.hid (below_step (Below.refl w.heap.size w) hb); have E2 : Hid (w.heap.size ≤ g2) := Lib.hid (by rw [hgx]; exact Nat.le_refl _); clear hbox hb hgx; have d0 : w1.cell? ⟨g2, 0, none⟩ = some (.slice A l.length c0) := (blk_cell B2.out 0).trans rfl; have d1 : w1.cell? ⟨g2, 1, none⟩ = some (.int .i64 a1) := (blk_cell B2.out 1).trans rfl; have d2 : w1.cell? ⟨g2, 2, none⟩ = some (.int .i64 a2) := (blk_cell B2.out 2).trans rfl; have d3 : w1.cell? ⟨g2, 3, none⟩ = some (.int .i64 a3) := (blk_cell B2.out 3).trans rfl) | (go_at_call 24; (with_reducible refine (tree_Canon.calls _ _ l a1 a2 a3 X0 X1 X2 X3 X4 _ (Kd.C_below HR.out HB.out) HC.out HA.out).mono ?_); rintro e w2 ⟨v2, rfl, hs, hb⟩; obtain ⟨A5, c5, e5⟩ := Kd.S_slice hs; subst e5; have S5 := Lib.hid (Kd.S_lower hs (below_size HB.out)); clear hs; replace B2 := Lib.hid (blk_below B2.out hb); replace HB := Lib.hid (below_step HB.out hb); clear hb d0 d1 d2 d3; have d0 : w2.cell? ⟨g2, 0, none⟩ = some (.slice A l.length c0) := (blk_cell B2.out 0).trans rfl; have d1 : w2.cell? ⟨g2, 1, none⟩ = some (.int .i64 a1) := (blk_cell B2.out 1).trans rfl; have d2 : w2.cell? ⟨g2, 2, none⟩ = some (.int .i64 a2) := (blk_cell B2.out 2).trans rfl; have d3 : w2.cell? ⟨g2, 3, none⟩ = some (.int .i64 a3) := (blk_cell B2.out 3).trans rfl) | ((with_reducible refine gate_dst (N := 5) rfl ?_); refine box_event ?hg (N := 5) ?hd (cs := zTb) (t := 26) ?hr ?_; (case hd => rfl); (case hg => rfl); (case hr => first | (go_simp; done) | (go_simp; rfl)); intro g5 hgx w3 hbox hb; refine store_tree rfl rfl (.tmp 5) (.tmp 16) rfl (b1 := X1) (b2 := X2) (b3 := X3) rfl rfl hbox ?_; have X := Lib.hid (BSt.init HB.out S5.out hb hbox hgx X1 X2 X3); replace B2 := Lib.hid (cnlblk hbox (blk_below B2.out hb) (by rw [hgx]; exact Nat.ne_of_lt (blk_lt B2.out)) (.slice A5 X0.length c5) (.int .i64 X1) (.int .i64 X2) (.int .i64 X3)); clear hbox hb hgx S5 d0 d1 d2 d3; generalize w3.setCells _ _ _ = w4 at X B2 ⊢; replace HB := Lib.hid X.out.hb; have d0 : w4.cell? ⟨g2, 0, none⟩ = some (.slice A l.length c0) := (blk_cell B2.out 0).trans rfl; have d1 : w4.cell? ⟨g2, 1, none⟩ = some (.int .i64 a1) := (blk_cell B2.out 1).trans rfl; have d2 : w4.cell? ⟨g2, 2, none⟩ = some (.int .i64 a2) := (blk_cell B2.out 2).trans rfl; have d3 : w4.cell? ⟨g2, 3, none⟩ = some (.int .i64 a3) := (blk_cell B2.out 3).trans rfl; have f0 : w4.cell? ⟨g5, 0, none⟩ = some (.slice A5 X0.length c5) := (blk_cell X.out.b 0).trans rfl; have f1 : w4.cell? ⟨g5, 1, none⟩ = some (.int .i64 X1) := (blk_cell X.out.b 1).trans rfl; have f2 : w4.cell? ⟨g5, 2, none⟩ = some (.int .i64 X2) := (blk_cell X.out.b 2).trans rfl; have f3 : w4.cell? ⟨g5, 3, none⟩ = some (.int .i64 X3) := (blk_cell X.out.b 3).trans rfl) | (go_at_call 15; (with_reducible refine (rehearsalref04_Small.calls KS _ _ l a1 a2 a3 _ _ (Kd.C_below HR.out HB.out) HC.out HS.out).mono ?_); rintro e w5 ⟨rfl, hb⟩; replace B2 := Lib.hid (blk_below B2.out hb); replace HB := Lib.hid (below_step HB.out hb); replace X := Lib.hid (X.out.below hb); clear hb d0 d1 d2 d3 f0 f1 f2 f3; have d0 : w5.cell? ⟨g2, 0, none⟩ = some (.slice A l.length c0) := (blk_cell B2.out 0).trans rfl; have d1 : w5.cell? ⟨g2, 1, none⟩ = some (.int .i64 a1) := (blk_cell B2.out 1).trans rfl; have d2 : w5.cell? ⟨g2, 2, none⟩ = some (.int .i64 a2) := (blk_cell B2.out 2).trans rfl; have d3 : w5.cell? ⟨g2, 3, none⟩ = some (.int .i64 a3) := (blk_cell B2.out 3).trans rfl; have f0 : w5.cell? ⟨g5, 0, none⟩ = some (.slice A5 X0.length c5) := (blk_cell X.out.b 0).trans rfl; have f1 : w5.cell? ⟨g5, 1, none⟩ = some (.int .i64 X1) := (blk_cell X.out.b 1).trans rfl; have f2 : w5.cell? ⟨g5, 2, none⟩ = some (.int .i64 X2) := (blk_cell X.out.b 2).trans rfl; have f3 : w5.cell? ⟨g5, 3, none⟩ = some (.int .i64 X3) := (blk_cell X.out.b 3).trans rfl) | (go_at_call 16; (with_reducible refine (awake_any _).mono ?_); rintro e w6 ⟨rfl, hb⟩; replace HB := Lib.hid (below_step HB.out hb); clear hb))
  go_ret
  exact ⟨rfl, HB.out⟩
set_option maxHeartbeats 8000000 in
set_option maxRecDepth 100000 in
theorem canonlaw_yes (l : List Nod) (A : Option Addr) (c0 : Nat) (a1 a2 a3 s : Int) (w : World) (hr : Kd.C k44 w A l.length l) (hc : l.length ≤ c0) (hE : eOK l) (hs : 0 ≤ s ∧ s ≤ 255) (KS : Nat) (hS : rehearsalref04_Small.f KS l a1 a2 a3 = some true) (hk : chk l a1 = 0) :
  Calls Tryd.prog 8 #[.agg #[.slice A l.length c0, .int .i64 a1, .int .i64 a2, .int .i64 a3], .int .u8 s] w fun e w' => e = .returned (.bool true) ∧ Below w.heap.size w w' := by
 have hu26 := Tryd.underlying26
 have hu24 := Tryd.underlying24
 have HR := Lib.hid hr
 have HC := Lib.hid hc
 have HS := Lib.hid hS
 obtain ⟨c, n, KX, KM, e1, hcl, hc6, hA2, hX, hK, hM, hfar⟩ := canon_facts a2 a3 hs hE hk
 have ha := canon_f hE a1 a2 a3
 rw [e1] at ha
 have HA := Lib.hid ha
 have HA2 := Lib.hid hA2
 have HX := Lib.hid hX
 have HK := Lib.hid hK
 have HM := Lib.hid hM
 have HFAR := Lib.hid hfar
 have HCL := Lib.hid hcl
 have HC6 := Lib.hid hc6
 clear hr hc hE hS hk hs e1 hcl hc6 hA2 hX hK hM hfar ha
 go_enter Tryd.func8, Tryd.ntmps8
 go_wp2_with (first | ((with_reducible refine gate_dst (N := 2) rfl ?_); refine box_event ?hg (N := 2) ?hd (cs := #[.slice A l.length c0, .int .i64 a1, .int .i64 a2, .int .i64 a3]) (t := 26) ?hr ?_; (case hd => rfl); (case hg => rfl); (case hr => first | (go_simp; done) | (go_simp; rfl)); intro g2 hgx w1 hbox hb; have B2 := Lib.hid hbox; have HB := Lib.hid (below_step (Below.refl w.heap.size w) hb); have E2 : Hid (w.heap.size ≤ g2) := Lib.hid (by rw [hgx]; exact Nat.le_refl _); clear hbox hb hgx; have d0 : w1.cell? ⟨g2, 0, none⟩ = some (.slice A l.length c0) := (blk_cell B2.out 0).trans rfl; have d1 : w1.cell? ⟨g2, 1, none⟩ = some (.int .i64 a1) := (blk_cell B2.out 1).trans rfl; have d2 : w1.cell? ⟨g2, 2, none⟩ = some (.int .i64 a2) := (blk_cell B2.out 2).trans rfl; have d3 : w1.cell? ⟨g2, 3, none⟩ = some (.int .i64 a3) := (blk_cell B2.out 3).trans rfl) | (go_at_call 24; (with_reducible refine (tree_Canon.calls _ _ l a1 a2 a3 c n a2 a3 0 _ (Kd.C_below HR.out HB.out) HC.out HA.out).mono ?_); rintro e w2 ⟨v2, rfl, hs, hb⟩; obtain ⟨A5, c5, e5⟩ := Kd.S_slice hs; subst e5; have S5 := Lib.hid (Kd.S_lower hs (below_size HB.out)); clear hs; replace B2 := Lib.hid (blk_below B2.out hb); replace HB := Lib.hid (below_step HB.out hb); clear hb d0 d1 d2 d3; have d0 : w2.cell? ⟨g2, 0, none⟩ = some (.slice A l.length c0) := (blk_cell B2.out 0).trans rfl; have d1 : w2.cell? ⟨g2, 1, none⟩ = some (.int .i64 a1) := (blk_cell B2.out 1).trans rfl; have d2 : w2.cell? ⟨g2, 2, none⟩ = some (.int .i64 a2) := (blk_cell B2.out 2).trans rfl; have d3 : w2.cell? ⟨g2, 3, none⟩ = some (.int .i64 a3) := (blk_cell B2.out 3).trans rfl) | ((with_reducible refine gate_dst (N := 5) rfl ?_); refine box_event ?hg (N := 5) ?hd (cs := zTb) (t := 26) ?hr ?_; (case hd => rfl); (case hg => rfl); (case hr => first | (go_simp; done) | (go_simp; rfl)); intro g5 hgx w3 hbox hb; refine store_tree rfl rfl (.tmp 5) (.tmp 16) rfl (b1 := n) (b2 := a2) (b3 := a3) rfl rfl hbox ?_; have X := Lib.hid (BSt.init HB.out S5.out hb hbox hgx n a2 a3); replace B2 := Lib.hid (cnlblk hbox (blk_below B2.out hb) (by rw [hgx]; exact Nat.ne_of_lt (blk_lt B2.out)) (.slice A5 c.length c5) (.int .i64 n) (.int .i64 a2) (.int .i64 a3)); clear hbox hb hgx S5 d0 d1 d2 d3; generalize w3.setCells _ _ _ = w4 at X B2 ⊢; replace HB := Lib.hid X.out.hb; have d0 : w4.cell? ⟨g2, 0, none⟩ = some (.slice A l.length c0) := (blk_cell B2.out 0).trans rfl; have d1 : w4.cell? ⟨g2, 1, none⟩ = some (.int .i64 a1) := (blk_cell B2.out 1).trans rfl; have d2 : w4.cell? ⟨g2, 2, none⟩ = some (.int .i64 a2) := (blk_cell B2.out 2).trans rfl; have d3 : w4.cell? ⟨g2, 3, none⟩ = some (.int .i64 a3) := (blk_cell B2.out 3).trans rfl; have f0 : w4.cell? ⟨g5, 0, none⟩ = some (.slice A5 c.length c5) := (blk_cell X.out.b 0).trans rfl; have f1 : w4.cell? ⟨g5, 1, none⟩ = some (.int .i64 n) := (blk_cell X.out.b 1).trans rfl; have f2 : w4.cell? ⟨g5, 2, none⟩ = some (.int .i64 a2) := (blk_cell X.out.b 2).trans rfl; have f3 : w4.cell? ⟨g5, 3, none⟩ = some (.int .i64 a3) := (blk_cell X.out.b 3).trans rfl) | (go_at_call 15; (with_reducible refine (rehearsalref04_Small.calls KS _ _ l a1 a2 a3 _ _ (Kd.C_below HR.out HB.out) HC.out HS.out).mono ?_); rintro e w5 ⟨rfl, hb⟩; replace B2 := Lib.hid (blk_below B2.out hb); replace HB := Lib.hid (below_step HB.out hb); replace X := Lib.hid (X.out.below hb); clear hb d0 d1 d2 d3 f0 f1 f2 f3; have d0 : w5.cell? ⟨g2, 0, none⟩ = some (.slice A l.length c0) := (blk_cell B2.out 0).trans rfl; have d1 : w5.cell? ⟨g2, 1, none⟩ = some (.int .i64 a1) := (blk_cell B2.out 1).trans rfl; have d2 : w5.cell? ⟨g2, 2, none⟩ = some (.int .i64 a2) := (blk_cell B2.out 2).trans rfl; have d3 : w5.cell? ⟨g2, 3, none⟩ = some (.int .i64 a3) := (blk_cell B2.out 3).trans rfl; have f0 : w5.cell? ⟨g5, 0, none⟩ = some (.slice A5 c.length c5) := (blk_cell X.out.b 0).trans rfl; have f1 : w5.cell? ⟨g5, 1, none⟩ = some (.int .i64 n) := (blk_cell X.out.b 1).trans rfl; have f2 : w5.cell? ⟨g5, 2, none⟩ = some (.int .i64 a2) := (blk_cell X.out.b 2).trans rfl; have f3 : w5.cell? ⟨g5, 3, none⟩ = some (.int .i64 a3) := (blk_cell X.out.b 3).trans rfl) | (go_at_call 24; (with_reducible refine (tree_Canon.calls _ _ c n a2 a3 c n a2 a3 0 _ (Kd.S_reads' X.out.s).2.2 (Kd.S_reads' X.out.s).2.1 HA2.out).mono ?_); rintro e w6 ⟨v6, rfl, hs, hb⟩; obtain ⟨A7, c7, e7⟩ := Kd.S_slice hs; subst e7; have S7 := Lib.hid (Kd.S_lower hs (below_size HB.out)); clear hs; replace B2 := Lib.hid (blk_below B2.out hb); replace HB := Lib.hid (below_step HB.out hb); replace X := Lib.hid (X.out.below hb); clear hb d0 d1 d2 d3 f0 f1 f2 f3; have d0 : w6.cell? ⟨g2, 0, none⟩ = some (.slice A l.length c0) := (blk_cell B2.out 0).trans rfl; have d1 : w6.cell? ⟨g2, 1, none⟩ = some (.int .i64 a1) := (blk_cell B2.out 1).trans rfl; have d2 : w6.cell? ⟨g2, 2, none⟩ = some (.int .i64 a2) := (blk_cell B2.out 2).trans rfl; have d3 : w6.cell? ⟨g2, 3, none⟩ = some (.int .i64 a3) := (blk_cell B2.out 3).trans rfl; have f0 : w6.cell? ⟨g5, 0, none⟩ = some (.slice A5 c.length c5) := (blk_cell X.out.b 0).trans rfl; have f1 : w6.cell? ⟨g5, 1, none⟩ = some (.int .i64 n) := (blk_cell X.out.b 1).trans rfl; have f2 : w6.cell? ⟨g5, 2, none⟩ = some (.int .i64 a2) := (blk_cell X.out.b 2).trans rfl; have f3 : w6.cell? ⟨g5, 3, none⟩ = some (.int .i64 a3) := (blk_cell X.out.b 3).trans rfl) | ((with_reducible refine gate_dst (N := 7) rfl ?_); refine box_event ?hg (N := 7) ?hd (cs := zTb) (t := 26) ?hr ?_; (case hd => rfl); (case hg => rfl); (case hr => first | (go_simp; done) | (go_simp; rfl)); intro g7 hgx w7 hbox hb; refine store_tree rfl rfl (.tmp 7) (.tmp 29) rfl (b1 := n) (b2 := a2) (b3 := a3) rfl rfl hbox ?_; have Y := Lib.hid (BSt.init X.out.hb S7.out hb hbox hgx n a2 a3); replace X := Lib.hid (X.out.beside hb hbox hgx (.slice A7 c.length c7) (.int .i64 n) (.int .i64 a2) (.int .i64 a3)); replace B2 := Lib.hid (cnlblk hbox (blk_below B2.out hb) (by rw [hgx]; exact Nat.ne_of_lt (blk_lt B2.out)) (.slice A7 c.length c7) (.int .i64 n) (.int .i64 a2) (.int .i64 a3)); clear hbox hb hgx S7 d0 d1 d2 d3 f0 f1 f2 f3; generalize w7.setCells _ _ _ = w8 at X Y B2 ⊢; replace HB := Lib.hid X.out.hb; have d0 : w8.cell? ⟨g2, 0, none⟩ = some (.slice A l.length c0) := (blk_cell B2.out 0).trans rfl; have d1 : w8.cell? ⟨g2, 1, none⟩ = some (.int .i64 a1) := (blk_cell B2.out 1).trans rfl; have d2 : w8.cell? ⟨g2, 2, none⟩ = some (.int .i64 a2) := (blk_cell B2.out 2).trans rfl; have d3 : w8.cell? ⟨g2, 3, none⟩ = some (.int .i64 a3) := (blk_cell B2.out 3).trans rfl; have f0 : w8.cell? ⟨g5, 0, none⟩ = some (.slice A5 c.length c5) := (blk_cell X.out.b 0).trans rfl; have f1 : w8.cell? ⟨g5, 1, none⟩ = some (.int .i64 n) := (blk_cell X.out.b 1).trans rfl; have f2 : w8.cell? ⟨g5, 2, none⟩ = some (.int .i64 a2) := (blk_cell X.out.b 2).trans rfl; have f3 : w8.cell? ⟨g5, 3, none⟩ = some (.int .i64 a3) := (blk_cell X.out.b 3).trans rfl; have y0 : w8.cell? ⟨g7, 0, none⟩ = some (.slice A7 c.length c7) := (blk_cell Y.out.b 0).trans rfl; have y1 : w8.cell? ⟨g7, 1, none⟩ = some (.int .i64 n) := (blk_cell Y.out.b 1).trans rfl; have y2 : w8.cell? ⟨g7, 2, none⟩ = some (.int .i64 a2) := (blk_cell Y.out.b 2).trans rfl; have y3 : w8.cell? ⟨g7, 3, none⟩ = some (.int .i64 a3) := (blk_cell Y.out.b 3).trans rfl) | (go_at_call 19; (with_reducible refine (rehearsalref04_Exact.calls KX _ _ c n a2 a3 _ _ c n a2 a3 true _ (Kd.S_reads' X.out.s).2.2 (Kd.S_reads' X.out.s).2.1 (Kd.S_reads' Y.out.s).2.2 (Kd.S_reads' Y.out.s).2.1 HX.out).mono ?_); rintro e w9 ⟨rfl, hb⟩; replace B2 := Lib.hid (blk_below B2.out hb); replace HB := Lib.hid (below_step HB.out hb); replace X := Lib.hid (X.out.below hb); replace Y := Lib.hid (Y.out.below hb); clear hb d0 d1 d2 d3 f0 f1 f2 f3 y0 y1 y2 y3; have d0 : w9.cell? ⟨g2, 0, none⟩ = some (.slice A l.length c0) := (blk_cell B2.out 0).trans rfl; have d1 : w9.cell? ⟨g2, 1, none⟩ = some (.int .i64 a1) := (blk_cell B2.out 1).trans rfl; have d2 : w9.cell? ⟨g2, 2, none⟩ = some (.int .i64 a2) := (blk_cell B2.out 2).trans rfl; have d3 : w9.cell? ⟨g2, 3, none⟩ = some (.int .i64 a3) := (blk_cell B2.out 3).trans rfl; have f0 : w9.cell? ⟨g5, 0, none⟩ = some (.slice A5 c.length c5) := (blk_cell X.out.b 0).trans rfl; have f1 : w9.cell? ⟨g5, 1, none⟩ = some (.int .i64 n) := (blk_cell X.out.b 1).trans rfl; have f2 : w9.cell? ⟨g5, 2, none⟩ = some (.int .i64 a2) := (blk_cell X.out.b 2).trans rfl; have f3 : w9.cell? ⟨g5, 3, none⟩ = some (.int .i64 a3) := (blk_cell X.out.b 3).trans rfl; have y0 : w9.cell? ⟨g7, 0, none⟩ = some (.slice A7 c.length c7) := (blk_cell Y.out.b 0).trans rfl; have y1 : w9.cell? ⟨g7, 1, none⟩ = some (.int .i64 n) := (blk_cell Y.out.b 1).trans rfl; have y2 : w9.cell? ⟨g7, 2, none⟩ = some (.int .i64 a2) := (blk_cell Y.out.b 2).trans rfl; have y3 : w9.cell? ⟨g7, 3, none⟩ = some (.int .i64 a3) := (blk_cell Y.out.b 3).trans rfl) | (go_at_call 17; (with_reducible refine (tree_Check.calls _ _ c n a2 a3 0 _ (Kd.S_reads' X.out.s).2.2 (Kd.S_reads' X.out.s).2.1 HK.out).mono ?_); rintro e wa ⟨rfl, hb⟩; replace B2 := Lib.hid (blk_below B2.out hb); replace HB := Lib.hid (below_step HB.out hb); replace X := Lib.hid (X.out.below hb); replace Y := Lib.hid (Y.out.below hb); clear hb d0 d1 d2 d3 f0 f1 f2 f3 y0 y1 y2 y3; have d0 : wa.cell? ⟨g2, 0, none⟩ = some (.slice A l.length c0) := (blk_cell B2.out 0).trans rfl; have d1 : wa.cell? ⟨g2, 1, none⟩ = some (.int .i64 a1) := (blk_cell B2.out 1).trans rfl; have d2 : wa.cell? ⟨g2, 2, none⟩ = some (.int .i64 a2) := (blk_cell B2.out 2).trans rfl; have d3 : wa.cell? ⟨g2, 3, none⟩ = some (.int .i64 a3) := (blk_cell B2.out 3).trans rfl; have f0 : wa.cell? ⟨g5, 0, none⟩ = some (.slice A5 c.length c5) := (blk_cell X.out.b 0).trans rfl; have f1 : wa.cell? ⟨g5, 1, none⟩ = some (.int .i64 n) := (blk_cell X.out.b 1).trans rfl; have f2 : wa.cell? ⟨g5, 2, none⟩ = some (.int .i64 a2) := (blk_cell X.out.b 2).trans rfl; have f3 : wa.cell? ⟨g5, 3, none⟩ = some (.int .i64 a3) := (blk_cell X.out.b 3).trans rfl; have y0 : wa.cell? ⟨g7, 0, none⟩ = some (.slice A7 c.length c7) := (blk_cell Y.out.b 0).trans rfl; have y1 : wa.cell? ⟨g7, 1, none⟩ = some (.int .i64 n) := (blk_cell Y.out.b 1).trans rfl; have y2 : wa.cell? ⟨g7, 2, none⟩ = some (.int .i64 a2) := (blk_cell Y.out.b 2).trans rfl; have y3 : wa.cell? ⟨g7, 3, none⟩ = some (.int .i64 a3) := (blk_cell Y.out.b 3).trans rfl) | (go_at_call 36; (with_reducible refine (tree_Same.calls KM _ _ c n a2 a3 _ _ l a1 a2 a3 true _ (Kd.S_reads' X.out.s).2.2 (Kd.S_reads' X.out.s).2.1 (Kd.C_below HR.out HB.out) HC.out HM.out).mono ?_); rintro e wf ⟨rfl, hb⟩; replace B2 := Lib.hid (blk_below B2.out hb); replace HB := Lib.hid (below_step HB.out hb); replace X := Lib.hid (X.out.below hb); clear hb d0 d1 d2 d3 f0 f1 f2 f3 y0 y1 y2 y3 Y; have E5 := Lib.hid X.out.eg; have d0 : wf.cell? ⟨g2, 0, none⟩ = some (.slice A l.length c0) := (blk_cell B2.out 0).trans rfl; have d1 : wf.cell? ⟨g2, 1, none⟩ = some (.int .i64 a1) := (blk_cell B2.out 1).trans rfl; have d2 : wf.cell? ⟨g2, 2, none⟩ = some (.int .i64 a2) := (blk_cell B2.out 2).trans rfl; have d3 : wf.cell? ⟨g2, 3, none⟩ = some (.int .i64 a3) := (blk_cell B2.out 3).trans rfl; have f0 : wf.cell? ⟨g5, 0, none⟩ = some (.slice A5 c.length c5) := (blk_cell X.out.b 0).trans rfl; have f1 : wf.cell? ⟨g5, 1, none⟩ = some (.int .i64 n) := (blk_cell X.out.b 1).trans rfl; have f2 : wf.cell? ⟨g5, 2, none⟩ = some (.int .i64 a2) := (blk_cell X.out.b 2).trans rfl; have f3 : wf.cell? ⟨g5, 3, none⟩ = some (.int .i64 a3) := (blk_cell X.out.b 3).trans rfl) | ((with_reducible refine gate_dst (N := 9) rfl ?_); refine box_event ?hg (N := 9) ?hd (cs := zTb) (t := 26) ?hr ?_; (case hd => rfl); (case hg => rfl); (case hr => first | (go_simp; done) | (go_simp; rfl)); intro g9 hgx wb hbox hb; refine store_tree rfl rfl (.tmp 9) (.tmp 54) rfl (A := none) (n := 0) (c := 0) (b1 := a1) (b2 := a2) (b3 := a3) rfl rfl hbox ?_; have Z := Lib.hid (BSt.init (Below.refl wf.heap.size wf) (Kd.S_nil _ _ _ _ _) hb hbox hgx a1 a2 a3); clear hbox hb hgx d0 d1 d2 d3 f0 f1 f2 f3; generalize wb.setCells _ _ _ = wc at Z ⊢))
 go_loopw [10] (fun s10 wr => ∃ (i : Nat) (u : Value) (m : Int), i ≤ c.length ∧ s10 = .int .i64 i ∧ Hid (∀ q (h : q < c.length), q < i → mvd s c[q].f0 ≤ m) ∧ Hid (BSt wf wr g9 u ((c.take i).map (renN (mvd s))) m a2 a3)) (fun s10 _ => c.length - (intOf s10).toNat)
 case atStart => exact ⟨0, _, a1, Nat.zero_le _, rfl, Lib.hid (fun q _ h => absurd h (by omega)), Z⟩
 case round =>
  clear Z
  obtain ⟨i, u, m, hi, rfl, HMX, Z⟩ := hrel
  have XW := Lib.hid (X.out.below Z.out.hb)
  have f0 : wr.cell? ⟨g5, 0, none⟩ = some (.slice A5 c.length c5) := (blk_cell XW.out.b 0).trans rfl
  by_cases hlt : i < c.length
  ·
   obtain ⟨ad, A6, c6, ea, y0, y1, y2, y3, y4, y5, y6, hl6, hi6⟩ := at_T44 (Kd.S_reads' XW.out.s).2.2 (i : Int) (by omega) (by omega)
   cases ea
   obtain ⟨y, hy⟩ : ∃ y, c[i] = y := ⟨_, rfl⟩
   have hrd : rd_T44 c (i : Int) = y := (rdN c i hlt).trans hy
   rw [hrd, Int.toNat_natCast] at y0 y1 y2 y3 y4 y5 y6
   rw [hrd] at hl6 hi6
   have HRE := Lib.hid hi6
   have HY6 : Hid (y.f6.length ≤ 5864062014805) := Lib.hid (HC6.out y (hy ▸ List.getElem_mem hlt))
   have HNX : Hid ((c.take i).map (renN (mvd s)) ++ [(⟨mvd s y.f0, y.f1, y.f2, y.f3, y.f4, y.f5, y.f6.map (renE (mvd s))⟩ : Nod)] = (c.take (i + 1)).map (renN (mvd s))) := Lib.hid (by rw [List.take_succ_eq_append_getElem hlt, List.map_append, hy]; rfl)
   have HMN : Hid (∀ q (h : q < c.length), q < i + 1 → mvd s c[q].f0 ≤ max m (mvd s y.f0)) := Lib.hid (fun q hq hqi => by
    by_cases e : q = i
    ·
     subst e; rw [hy]; exact Int.le_max_right _ _
    ·
     exact Int.le_trans (HMX.out q hq (by omega)) (Int.le_max_left _ _))
   have i0 : decide (0 ≤ (i : Int)) = true := decide_eq_true (by omega)
   have i1 : decide ((i : Int) < (c.length : Int)) = true := decide_eq_true (by omega)
   have i1n : (i < c.length) = True := eq_true hlt
   have HWR : Hid (wrap64 ((i : Int) + 1) = ((i + 1 : Nat) : Int)) := Lib.hid (by have := HCL.out; unfold wrap64; omega)
   have HLT := Lib.hid hlt
   clear hi hlt hy hrd hl6 hi6 HMX
   rename World => wq
   go_upto_region 13 with (first | ((with_reducible refine gate_dst (N := 11) rfl ?_); refine box_event ?hg (N := 11) ?hd (cs := zN) (t := 44) ?hr ?_; (case hd => rfl); (case hg => rfl); (case hr => first | (go_simp; done) | (go_simp; rfl)); intro gb hgb w2 hbox hb; refine store_box rfl rfl (.tmp 11) (.tmp 66) rfl (x0 := y.f0) (x1 := y.f1) (x2 := y.f2) (x3 := y.f3) (x4 := y.f4) (x5 := y.f5) rfl rfl hbox hgb hb ?_; intro w3 hb3 hw3; have HN : Hid (RNd wq w3 gb y.f0 y.f1 y.f2 y.f3 y.f4 y.f5 (.slice A6 y.f6.length c6) (.slice none 0 0) []) := Lib.hid ⟨hw3, hb3, by rw [hgb]; exact Nat.le_refl _, Kd.R_nil _ _ _ _ _⟩; clear hb3 hw3 hbox hb hgb y0 y1 y2 y3 y4 y5 y6 f0; have z0 : w3.cell? ⟨gb, 0, none⟩ = some (.int .i64 y.f0) := (blk_cell HN.out.bn 0).trans rfl; have q0 := blk_frozen HN.out.bn 0) | (go_at_call 40; (with_reducible refine (rehearsallaw04_moved.calls y.f0 s (mvd s y.f0) _ (moved_f y.f0 s)).mono ?_); rintro e w4 ⟨rfl, hdr⟩; have hbv : Below w3.heap.size w3 w4 := (by obtain ⟨nd, rfl⟩ := hdr.out; exact ⟨rfl, rfl, rfl, Nat.le_refl _, fun _ _ => rfl⟩); replace HN := Lib.hid (HN.out.below hbv); clear hdr hbv z0 q0; have z0 : w4.cell? ⟨gb, 0, none⟩ = some (.int .i64 y.f0) := (blk_cell HN.out.bn 0).trans rfl; have q0 := blk_frozen HN.out.bn 0))
   replace HN := Lib.hid (HN.out.setId (mvd s y.f0))
   clear z0 q0
   generalize World.setCell _ _ _ = w5 at HN ⊢
   have n6 : ∀ o, (w5.alloc o).cell? ⟨gb, 6, none⟩ = some (.slice A6 y.f6.length c6) := fun o => (blk_cell (blk_alloc HN.out.bn o) 6).trans rfl
   go_upto_region 14 with (first | ((with_reducible refine gate_builtin (b := .append) (xs := #[.tmp 72, .tmp 74]) rfl ?_); at_builtin; refine Kd.R_append_rows k61 (w0 := wq) wq.heap.size rfl (.tmp 72) (.tmp 74) 42 61 (.agg #[(.string ⟨#[]⟩), (.int .i64 0)]) 24 rfl Tryd.underlying42 info61 rfl (by decide) (by omega) (.slice (some ⟨w5.heap.size, 0, none⟩) 0 0) [] y.f6 _ _ _ (fun _ => True) (fun _ => False) rfl rfl ?aO ?aR (fun _ _ h => h) (fun _ h => h.elim) (fun _ _ => trivial) ?aB ?aS ?aL ?_; (case aO => exact ⟨fun _ _ => trivial, [], World.ownsRow_made w5 #[] 0 (below_size HN.out.hb) (Nat.zero_le _) (by simp), Reps.none _ _⟩); (case aR => exact Kd.C_below HRE.out (below_alloc HN.out.hb _)); (case aB => exact below_alloc HN.out.hb _); (case aS => exact below_size (below_alloc HN.out.hb _)); (case aL => have := HY6.out; simp only [List.length_nil]; omega); intro v1 w6 ho hb hg _; rw [List.nil_append] at ho; obtain ⟨A8, c8, e8⟩ := Kd.R_slice ho; subst e8; have HN2 : Hid (RNd wq w6 gb (mvd s y.f0) y.f1 y.f2 y.f3 y.f4 y.f5 (.slice A6 y.f6.length c6) (.slice A8 y.f6.length c8) y.f6) := Lib.hid ⟨hb, blk_grown (blk_alloc HN.out.bn _) hg (fun e => by have h1 := blk_lt HN.out.bn; injection e with e; exact Nat.ne_of_lt h1 e), HN.out.en, ho⟩; clear ho hb hg n6; have n6 : w6.cell? ⟨gb, 6, none⟩ = some (.slice A6 y.f6.length c6) := (blk_cell HN2.out.bn 6).trans rfl; have b6 := blk_frozen HN2.out.bn 6))
   replace HN := Lib.hid (HN2.out.setE)
   clear n6 b6 HN2
   generalize World.setCell _ _ _ = w7 at HN ⊢
   go_wp2
   go_loopw [12] (fun s12 wr => ∃ (k : Nat) (A8 : Option Addr) (c8 : Nat), k ≤ y.f6.length ∧ s12 = .int .i64 k ∧ Hid (RNd wq wr gb (mvd s y.f0) y.f1 y.f2 y.f3 y.f4 y.f5 (.slice A8 y.f6.length c8) (.slice A8 y.f6.length c8) ((y.f6.take k).map (renE (mvd s)) ++ y.f6.drop k))) (fun s12 _ => y.f6.length - (intOf s12).toNat)
   case atStart => exact ⟨0, _, _, Nat.zero_le _, rfl, HN⟩
   case round =>
    clear HN
    obtain ⟨k, A8, c8, hk, rfl, HN⟩ := hrel
    have n6 : wr.cell? ⟨gb, 6, none⟩ = some (.slice A8 y.f6.length c8) := (blk_cell HN.out.bn 6).trans rfl
    by_cases hlt : k < y.f6.length
    ·
     have hxs : ((y.f6.take k).map (renE (mvd s)) ++ y.f6.drop k).length = y.f6.length := by rw [List.length_append, List.length_map, List.length_take, List.length_drop]; omega
     obtain ⟨name, node, hen⟩ : ∃ name node, y.f6[k] = ⟨name, node⟩ := ⟨_, _, rfl⟩
     have hgk : ((y.f6.take k).map (renE (mvd s)) ++ y.f6.drop k)[k]'(by omega) = ⟨name, node⟩ := by
      rw [← hen, List.getElem_append_right (by rw [List.length_map, List.length_take]; omega)]
      simp only [List.length_map, List.length_take, List.getElem_drop]
      congr 1; omega
     have hset := rdE_set y.f6 (renE (mvd s)) k hlt
     rw [hen] at hset
     rw [show renE (mvd s) ⟨name, node⟩ = ⟨name, mvd s node⟩ from rfl] at hset
     obtain ⟨go, cg, eg, _, _, _⟩ := Kd.R_form HN.out.r (by rw [hxs]; omega)
     rw [hxs] at eg
     cases eg
     have hput := fun (wv : World) (hb : Below wr.heap.size wr wv) => (HN.out.below hb).put k (by omega) hxs.symm name node (mvd s node) hgk
     rw [hset] at hput
     have HPUT := Lib.hid hput
     have hx1 := (hput wr (Below.refl _ _)).1
     have i2 : decide (0 ≤ (k : Int)) = true := decide_eq_true (by omega)
     have i3 : decide ((k : Int) < (y.f6.length : Int)) = true := decide_eq_true (by omega)
     have i3n : (k < y.f6.length) = True := eq_true hlt
     have HWK : Hid (wrap64 ((k : Int) + 1) = ((k + 1 : Nat) : Int)) := Lib.hid (by have := HY6.out; unfold wrap64; omega)
     have HLK := Lib.hid hlt
     clear hk hlt hen hgk hset hxs hput HN
     go_wp2
     refine start_ (n := 14) (S := (fun w' => w'.cell? ⟨gb, 6, none⟩ = some (.slice (some ⟨go, 0, none⟩) y.f6.length c8) ∧ w'.cell? ⟨go, k * 2 + 1, none⟩ = some (.int .i64 node))) (ds := [13]) #[false, false, false, false, false, false, false, false, false, false, false, false, false, false] (by kernel_rfl) rfl rfl ⟨n6, hx1⟩ (fun hHeld => ?_)
     have HBD : Hid (Below wr.heap.size wr (World.drew wr)) := Lib.hid ((Below.refl _ wr).drew)
     clear n6 hx1
     generalize World.drew _ = wd at HBD hHeld ⊢
     iterate 5 (first | ((first | refine takeS_ 0 (N := some 84) (v := ?_) (a' := ?_) rfl rfl (by decide +kernel) (fun _ _ _ h => h) (Or.inl ⟨by rfl, ?_⟩) hHeld ?_ ?_ | refine takeS_ 2 (N := some 86) (v := ?_) (a' := ?_) rfl rfl (by decide +kernel) (fun _ _ _ h => h) (Or.inl ⟨by rfl, ?_⟩) hHeld ?_ ?_ | refine takeS_ 3 (N := some 87) (v := ?_) (a' := ?_) rfl rfl (by decide +kernel) (fun _ _ _ h => h) (Or.inl ⟨by rfl, ?_⟩) hHeld ?_ ?_ | refine takeS_ 5 (N := some 89) (v := ?_) (a' := ?_) rfl rfl (by decide +kernel) (fun _ _ _ h => h) (Or.inl ⟨by rfl, ?_⟩) hHeld ?_ ?_ | refine takeS_ 9 (N := some 93) (v := ?_) (a' := ?_) rfl rfl (by decide +kernel) (fun _ _ _ h => h) (Or.inl ⟨by rfl, ?_⟩) hHeld ?_ ?_); rotate_left; (rintro w' ⟨s0, s1⟩; go_simp; first | done | (with_reducible rfl) | rfl); rotate_left; (simp only [Act.put, List.setIfInBounds_toArray, List.set_cons_zero, List.set_cons_succ, i64_w, i32_w]; rfl)) | ((first | refine takeS_ 0 (N := some 84) (v := undef) (a' := ?_) rfl rfl (by decide +kernel) (fun _ _ _ h => h) (Or.inr ⟨by rfl, rfl⟩) hHeld ?_ ?_ | refine takeS_ 2 (N := some 86) (v := undef) (a' := ?_) rfl rfl (by decide +kernel) (fun _ _ _ h => h) (Or.inr ⟨by rfl, rfl⟩) hHeld ?_ ?_ | refine takeS_ 3 (N := some 87) (v := undef) (a' := ?_) rfl rfl (by decide +kernel) (fun _ _ _ h => h) (Or.inr ⟨by rfl, rfl⟩) hHeld ?_ ?_ | refine takeS_ 5 (N := some 89) (v := undef) (a' := ?_) rfl rfl (by decide +kernel) (fun _ _ _ h => h) (Or.inr ⟨by rfl, rfl⟩) hHeld ?_ ?_ | refine takeS_ 9 (N := some 93) (v := undef) (a' := ?_) rfl rfl (by decide +kernel) (fun _ _ _ h => h) (Or.inr ⟨by rfl, rfl⟩) hHeld ?_ ?_); rotate_left; (simp only [Act.put, List.setIfInBounds_toArray, List.set_cons_zero, List.set_cons_succ, i64_w, i32_w]; rfl)))
     iterate 5 (first | ((first | refine takeS_ 1 (N := some 85) (v := ?_) (a' := ?_) rfl rfl (by decide +kernel) (fun _ _ _ h => h) (Or.inl ⟨by rfl, ?_⟩) hHeld ?_ ?_ | refine takeS_ 4 (N := some 88) (v := ?_) (a' := ?_) rfl rfl (by decide +kernel) (fun _ _ _ h => h) (Or.inl ⟨by rfl, ?_⟩) hHeld ?_ ?_ | refine takeS_ 6 (N := some 90) (v := ?_) (a' := ?_) rfl rfl (by decide +kernel) (fun _ _ _ h => h) (Or.inl ⟨by rfl, ?_⟩) hHeld ?_ ?_ | refine takeS_ 7 (N := some 91) (v := ?_) (a' := ?_) rfl rfl (by decide +kernel) (fun _ _ _ h => h) (Or.inl ⟨by rfl, ?_⟩) hHeld ?_ ?_ | refine takeS_ 8 (N := some 92) (v := ?_) (a' := ?_) rfl rfl (by decide +kernel) (fun _ _ _ h => h) (Or.inl ⟨by rfl, ?_⟩) hHeld ?_ ?_); rotate_left; (rintro w' ⟨s0, s1⟩; go_simp; first | done | (with_reducible rfl) | rfl); rotate_left; (simp only [Act.put, List.setIfInBounds_toArray, List.set_cons_zero, List.set_cons_succ, i64_w, i32_w]; rfl)) | ((first | refine takeS_ 1 (N := some 85) (v := undef) (a' := ?_) rfl rfl (by decide +kernel) (fun _ _ _ h => h) (Or.inr ⟨by rfl, rfl⟩) hHeld ?_ ?_ | refine takeS_ 4 (N := some 88) (v := undef) (a' := ?_) rfl rfl (by decide +kernel) (fun _ _ _ h => h) (Or.inr ⟨by rfl, rfl⟩) hHeld ?_ ?_ | refine takeS_ 6 (N := some 90) (v := undef) (a' := ?_) rfl rfl (by decide +kernel) (fun _ _ _ h => h) (Or.inr ⟨by rfl, rfl⟩) hHeld ?_ ?_ | refine takeS_ 7 (N := some 91) (v := undef) (a' := ?_) rfl rfl (by decide +kernel) (fun _ _ _ h => h) (Or.inr ⟨by rfl, rfl⟩) hHeld ?_ ?_ | refine takeS_ 8 (N := some 92) (v := undef) (a' := ?_) rfl rfl (by decide +kernel) (fun _ _ _ h => h) (Or.inr ⟨by rfl, rfl⟩) hHeld ?_ ?_); rotate_left; (simp only [Act.put, List.setIfInBounds_toArray, List.set_cons_zero, List.set_cons_succ, i64_w, i32_w]; rfl)))
     refine oneS_ 10 (N := some 94) rfl rfl (by kernel_rfl) (by decide) (fun K hK => ?_)
     refine goes_ Tryd.func40 (by kernel_rfl) rfl #[.int .i64 node, .int .u8 s] (by rfl) rfl rfl (by first | rfl | (simp [Act.eval]; done) | (simp [Act.eval, Act.put]; done)) ?_
     refine (rehearsallaw04_moved.calls node s (mvd s node) _ (moved_f node s)).mono ?_
     rintro e wv ⟨rfl, hdr⟩
     have hbv : Below wd.heap.size wd wv := by obtain ⟨nd, rfl⟩ := hdr.out; exact ⟨rfl, rfl, rfl, Nat.le_refl _, fun _ _ => rfl⟩
     refine ⟨_, rfl, ?_⟩
     refine hK.out _ _ (by obtain ⟨s0, s1⟩ := hHeld; exact ⟨cellB s0 hbv, cellB s1 hbv⟩) (fun hHeld => ?_)
     clear hK K
     have HPV := Lib.hid (HPUT.out wv ((HBD.out).trans (hbv.mono HBD.out.size)))
     clear hdr hbv HPUT
     refine norm_ (a' := ?_) ?_ ?_
     rotate_left
     ·
      show Act.put _ (some 94) _ = _
      simp only [Act.put, List.setIfInBounds_toArray, List.set_cons_zero, List.set_cons_succ, i64_w, i32_w]
      rfl
     iterate 2 (first | ((first | refine takeS_ 11 (N := some 95) (v := ?_) (a' := ?_) rfl rfl (by decide +kernel) (fun _ _ _ h => h) (Or.inl ⟨by rfl, ?_⟩) hHeld ?_ ?_ | refine takeS_ 12 (N := some 96) (v := ?_) (a' := ?_) rfl rfl (by decide +kernel) (fun _ _ _ h => h) (Or.inl ⟨by rfl, ?_⟩) hHeld ?_ ?_); rotate_left; (rintro w' ⟨s0, s1⟩; go_simp; first | done | (with_reducible rfl) | rfl); rotate_left; (simp only [Act.put, List.setIfInBounds_toArray, List.set_cons_zero, List.set_cons_succ, i64_w, i32_w]; rfl)) | ((first | refine takeS_ 11 (N := some 95) (v := undef) (a' := ?_) rfl rfl (by decide +kernel) (fun _ _ _ h => h) (Or.inr ⟨by rfl, rfl⟩) hHeld ?_ ?_ | refine takeS_ 12 (N := some 96) (v := undef) (a' := ?_) rfl rfl (by decide +kernel) (fun _ _ _ h => h) (Or.inr ⟨by rfl, rfl⟩) hHeld ?_ ?_); rotate_left; (simp only [Act.put, List.setIfInBounds_toArray, List.set_cons_zero, List.set_cons_succ, i64_w, i32_w]; rfl)))
     have hx1 := HPV.out.1
     have hf1 := HPV.out.2.1
     refine lastS_ 13 (N := none) rfl rfl (by kernel_rfl) (by decide) (fun K hK => ?_)
     refine skip_ (w1 := ?_) (by rfl) rfl ?_ ?_
     rotate_left
     ·
      go_simp
      rfl
     refine hK.out _ _ ?_
     clear hK K
     refine done_ (by kernel_rfl) ?_
     have HN := Lib.hid HPV.out.2.2
     clear hx1 hf1 hHeld HPV
     generalize World.setCell _ _ _ = we at HN ⊢
     go_wp2
     go_roundw
     case rel => exact ⟨k + 1, _, _, HLK.out, by rw [HWK.out], HN⟩
     case measure => exact meas_ _ _ HWK.out HLK.out
    ·
     obtain rfl : k = y.f6.length := by omega
     rw [List.take_length, List.drop_length, List.append_nil] at HN
     clear hlt hk
     have ZW := Lib.hid (Z.out.below HN.out.hb)
     have m0 : wr.cell? ⟨g9, 0, none⟩ = some u := (blk_cell ZW.out.b 0).trans rfl
     have n0 : wr.cell? ⟨gb, 0, none⟩ = some (.int .i64 (mvd s y.f0)) := (blk_cell HN.out.bn 0).trans rfl
     have n1 : wr.cell? ⟨gb, 1, none⟩ = some (.int .i64 y.f1) := (blk_cell HN.out.bn 1).trans rfl
     have n2 : wr.cell? ⟨gb, 2, none⟩ = some (.int .i64 y.f2) := (blk_cell HN.out.bn 2).trans rfl
     have n3 : wr.cell? ⟨gb, 3, none⟩ = some (.int .i64 y.f3) := (blk_cell HN.out.bn 3).trans rfl
     have n4 : wr.cell? ⟨gb, 4, none⟩ = some (.int .i64 y.f4) := (blk_cell HN.out.bn 4).trans rfl
     have n5 : wr.cell? ⟨gb, 5, none⟩ = some (.string y.f5) := (blk_cell HN.out.bn 5).trans rfl
     have n6 : wr.cell? ⟨gb, 6, none⟩ = some (.slice A8 y.f6.length c8) := (blk_cell HN.out.bn 6).trans rfl
     go_upto_region 19 with (first | ((with_reducible refine gate_builtin (b := .append) (xs := #[.tmp 98, .tmp 100]) rfl ?_); at_builtin; refine Kd.S_append k44 (w0 := wf) wf.heap.size rfl (.tmp 98) (.tmp 100) 22 44 (.agg #[(.int .i64 0), (.int .i64 0), (.int .i64 0), (.int .i64 0), (.int .i64 0), (.string ⟨#[]⟩), (.slice none 0 0)]) 80 rfl Tryd.underlying22 info44 rfl (by decide) (by omega) u ((c.take i).map (renN (mvd s))) (⟨mvd s y.f0, y.f1, y.f2, y.f3, y.f4, y.f5, y.f6.map (renE (mvd s))⟩ : Nod) [.int .i64 (mvd s y.f0), .int .i64 y.f1, .int .i64 y.f2, .int .i64 y.f3, .int .i64 y.f4, .string y.f5, .slice A8 y.f6.length c8] (fun _ => True) (fun k_ => some k_ = (Value.slice A8 y.f6.length c8).ownBlock) rfl rfl ?aP ?aK (fun _ _ => trivial) ?aO ZW.out.hb (below_size ZW.out.hb) ?aL ?_; (case aP => exact k44_mkM _ _ _ (⟨mvd s y.f0, y.f1, y.f2, y.f3, y.f4, y.f5, y.f6.map (renE (mvd s))⟩ : Nod) (Kd.R_tight rfl (Kd.R_lower (by have h_ := HN.out.r; exact h_) (below_size Z.out.hb)))); (case aK => exact fun k_ hk_ => ⟨trivial, fun e_ => by have h1 := Kd.R_base HN.out.r k_ hk_.symm; have h2 := Kd.S_lt Z.out.s k_ e_.symm; omega⟩); (case aO => exact Kd.S_mono (Kd.S_old Z.out.s HN.out.hb) (fun k_ hk_ => ⟨trivial, fun e_ => by have h1 := Kd.R_base HN.out.r k_ e_.symm; have h2 := hk_.2; omega⟩)); (case aL => have := HCL.out; rw [List.length_map, List.length_take]; omega); intro v1 w9 ho hb9 hg9 _; rw [HNX.out] at ho; obtain ⟨A9, n9, c9, e9⟩ : ∃ A n c, v1 = Value.slice A n c := (by obtain ⟨A, c_, e⟩ := Kd.S_slice ho; exact ⟨A, _, c_, e⟩); subst e9; have ZP := Lib.hid (ZW.out.push ho hb9 hg9); have p0 : w9.cell? ⟨g9, 0, none⟩ = some u := (blk_cell (blk_grown ZW.out.b hg9 (Kd.S_ne ZW.out.s ZW.out.b (by decide))) 0).trans rfl; have pf := blk_frozen (blk_grown ZW.out.b hg9 (Kd.S_ne ZW.out.s ZW.out.b (by decide))) 0; have HN9 := Lib.hid (blk_grown HN.out.bn hg9 (fun e_ => by have h1 := HN.out.en; have h2 := Kd.S_lt Z.out.s gb e_.symm; omega)); have HNP := Lib.hid (blk_far (p := ⟨g9, 0, none⟩) HN9.out (blk_ne HN9.out (blk_grown ZW.out.b hg9 (Kd.S_ne ZW.out.s ZW.out.b (by decide))) (by decide)) (.slice A9 n9 c9)); clear ho hb9 hg9 HN9))
     clear m0 n0 n1 n2 n3 n4 n5 n6 p0 pf ZW
     generalize World.setCell _ _ _ = wp at ZP HNP ⊢
     have r0 : wp.cell? ⟨gb, 0, none⟩ = some (.int .i64 (mvd s y.f0)) := (blk_cell HNP.out 0).trans rfl
     have r1 : wp.cell? ⟨g9, 1, none⟩ = some (.int .i64 m) := (blk_cell ZP.out.b 1).trans rfl
     have rf := blk_frozen ZP.out.b 1
     go_wp2
     go_roundw
     case rel => exact ⟨i + 1, _, max m (mvd s y.f0), HLT.out, by rw [HWR.out], HMN, Lib.hid (ZP.out.setLast _)⟩
     case measure => exact meas_ _ _ HWR.out HLT.out
  ·
   obtain rfl : i = c.length := by omega
   rw [List.take_length] at Z
   have HM1 : Hid (∀ x ∈ c, mvd s x.f0 ≤ m) := Lib.hid (fun x hx => by obtain ⟨q, hq, rfl⟩ := List.getElem_of_mem hx; exact HMX.out q hq hq)
   obtain ⟨hf1, KF, hf2⟩ := HFAR.out m HM1.out
   generalize c.map (renN (mvd s)) = far at Z hf1 hf2
   have HF1 := Lib.hid hf1
   have HF2 := Lib.hid hf2
   clear hlt hi hf1 hf2 HFAR HMX HM1
   replace B2 := Lib.hid (blk_below B2.out Z.out.hb)
   replace HB := Lib.hid (below_step HB.out Z.out.hb)
   replace Z : Hid (BSt wf wr g9 u far m a2 a3) := Z
   obtain ⟨A9, c9, e9⟩ := Kd.S_slice Z.out.s
   subst e9
   have d0 : wr.cell? ⟨g2, 0, none⟩ = some (.slice A l.length c0) := (blk_cell B2.out 0).trans rfl
   have d1 : wr.cell? ⟨g2, 1, none⟩ = some (.int .i64 a1) := (blk_cell B2.out 1).trans rfl
   have d2 : wr.cell? ⟨g2, 2, none⟩ = some (.int .i64 a2) := (blk_cell B2.out 2).trans rfl
   have d3 : wr.cell? ⟨g2, 3, none⟩ = some (.int .i64 a3) := (blk_cell B2.out 3).trans rfl
   have z0 : wr.cell? ⟨g9, 0, none⟩ = some (.slice A9 far.length c9) := (blk_cell Z.out.b 0).trans rfl
   have z1 : wr.cell? ⟨g9, 1, none⟩ = some (.int .i64 m) := (blk_cell Z.out.b 1).trans rfl
   have z2 : wr.cell? ⟨g9, 2, none⟩ = some (.int .i64 a2) := (blk_cell Z.out.b 2).trans rfl
   have z3 : wr.cell? ⟨g9, 3, none⟩ = some (.int .i64 a3) := (blk_cell Z.out.b 3).trans rfl
   go_wp2_with (first | (go_at_call 17; (with_reducible refine (tree_Check.calls _ _ far m a2 a3 0 _ (Kd.S_reads' Z.out.s).2.2 (Kd.S_reads' Z.out.s).2.1 HF1.out).mono ?_); rintro e wg ⟨rfl, hb⟩; replace B2 := Lib.hid (blk_below B2.out hb); replace HB := Lib.hid (below_step HB.out hb); replace Z := Lib.hid (Z.out.below hb); clear hb d0 d1 d2 d3 z0 z1 z2 z3; have d0 : wg.cell? ⟨g2, 0, none⟩ = some (.slice A l.length c0) := (blk_cell B2.out 0).trans rfl; have d1 : wg.cell? ⟨g2, 1, none⟩ = some (.int .i64 a1) := (blk_cell B2.out 1).trans rfl; have d2 : wg.cell? ⟨g2, 2, none⟩ = some (.int .i64 a2) := (blk_cell B2.out 2).trans rfl; have d3 : wg.cell? ⟨g2, 3, none⟩ = some (.int .i64 a3) := (blk_cell B2.out 3).trans rfl; have z0 : wg.cell? ⟨g9, 0, none⟩ = some (.slice A9 far.length c9) := (blk_cell Z.out.b 0).trans rfl; have z1 : wg.cell? ⟨g9, 1, none⟩ = some (.int .i64 m) := (blk_cell Z.out.b 1).trans rfl; have z2 : wg.cell? ⟨g9, 2, none⟩ = some (.int .i64 a2) := (blk_cell Z.out.b 2).trans rfl; have z3 : wg.cell? ⟨g9, 3, none⟩ = some (.int .i64 a3) := (blk_cell Z.out.b 3).trans rfl) | (go_at_call 36; (with_reducible refine (tree_Same.calls KF _ _ far m a2 a3 _ _ l a1 a2 a3 true _ (Kd.S_reads' Z.out.s).2.2 (Kd.S_reads' Z.out.s).2.1 (Kd.C_below HR.out HB.out) HC.out HF2.out).mono ?_); rintro e wh ⟨rfl, hb⟩; replace B2 := Lib.hid (blk_below B2.out hb); replace HB := Lib.hid (below_step HB.out hb); replace Z := Lib.hid (Z.out.below hb); clear hb d0 d1 d2 d3 z0 z1 z2 z3; have d0 : wh.cell? ⟨g2, 0, none⟩ = some (.slice A l.length c0) := (blk_cell B2.out 0).trans rfl; have d1 : wh.cell? ⟨g2, 1, none⟩ = some (.int .i64 a1) := (blk_cell B2.out 1).trans rfl; have d2 : wh.cell? ⟨g2, 2, none⟩ = some (.int .i64 a2) := (blk_cell B2.out 2).trans rfl; have d3 : wh.cell? ⟨g2, 3, none⟩ = some (.int .i64 a3) := (blk_cell B2.out 3).trans rfl; have z0 : wh.cell? ⟨g9, 0, none⟩ = some (.slice A9 far.length c9) := (blk_cell Z.out.b 0).trans rfl; have z1 : wh.cell? ⟨g9, 1, none⟩ = some (.int .i64 m) := (blk_cell Z.out.b 1).trans rfl; have z2 : wh.cell? ⟨g9, 2, none⟩ = some (.int .i64 a2) := (blk_cell Z.out.b 2).trans rfl; have z3 : wh.cell? ⟨g9, 3, none⟩ = some (.int .i64 a3) := (blk_cell Z.out.b 3).trans rfl) | (go_at_call 16; (with_reducible refine (awake_any _).mono ?_); rintro e w6 ⟨rfl, hb⟩; replace HB := Lib.hid (below_step HB.out hb); clear hb))
   go_ret
   exact ⟨rfl, HB.out⟩
end Go.Proofs.YtnpnablnnfekkaaDoor.PTr
set_option linter.unusedVariables false
set_option linter.unusedSimpArgs false
namespace Go.Proofs.YtnpnablnnfekkaaDoor
open Go Go.RowKit Go.ChangeShapes Go.WideShapes Go.Proofs.YtnpnablnnfekkaaDoorW.PrintWords
def Opens (P : Program) {α : Type} (d : Kd α) (t : TypeId) (B : α → Prop) : Prop :=
 ∀ {H : Type} {enc : TypeId × Value → H} {w : World} {base : Nat} {spare : Nat → Bool} {held : Bool} {fuel : Nat} {cs : List Value} {y : DataW H × List MemPlace},
  DataW.trod enc P w base spare held fuel t cs = some y → (∀ n ∈ y.1.weights P t, n ≤ reachBytes) → ∃ x, d.K w x cs ∧ B x
theorem opens_int {P : Program} {t : TypeId} {k : IntKind} (ht : P.underlying t = some (.int k)) : Opens P (Kd.int k) t (fun n => (Lit.int k n).wf = true) := by
 intro H enc w base spare held fuel cs y h _
 obtain ⟨n, rfl, _, hw⟩ := DataW.trod_int ht h
 exact ⟨n, rfl, hw⟩
theorem opens_string {P : Program} {t : TypeId} (ht : P.underlying t = some .string) : Opens P Kd.string t (fun s => s.size ≤ reachBytes) := by
 intro H enc w base spare held fuel cs y h hz
 obtain ⟨s, rfl, rfl, _⟩ := DataW.trod_string ht h
 refine ⟨s, rfl, ?_⟩
 have := hz s.data.toList.length (by simp [DataW.weights])
 rwa [Array.length_toList] at this
theorem mem_wAll {H : Type} {P : Program} {e : TypeId} {l : List (DataW H)} {d : DataW H} (hd : d ∈ l) {n : Nat} (hn : n ∈ d.weights P e) : n ∈ DataW.weightsAll P e l := by
 induction l with
 | nil => cases hd
 | cons x r ih =>
  simp only [DataW.weightsAll, List.mem_append]
  rcases List.mem_cons.1 hd with h | h
  ·
   subst h; exact .inl hn
  ·
   exact .inr (ih h)
theorem pick {α : Type} {Q : Nat → α → Prop} : ∀ (n : Nat), (∀ i, i < n → ∃ x, Q i x) → ∃ xs : List α, xs.length = n ∧ ∀ i x, xs[i]? = some x → Q i x := by
 intro n
 induction n with
 | zero => intro _; exact ⟨[], rfl, fun i x h => by simp at h⟩
 | succ n ih =>
  intro h
  obtain ⟨xs, hl, hx⟩ := ih (fun i hi => h i (by omega))
  obtain ⟨x, hq⟩ := h n (by omega)
  refine ⟨xs ++ [x], by simp [hl], fun i y hy => ?_⟩
  by_cases hi : i < n
  ·
   rw [List.getElem?_append_left (by omega)] at hy; exact hx i y hy
  ·
   have : i < (xs ++ [x]).length := (List.getElem?_eq_some_iff.1 hy).1
   simp only [List.length_append, List.length_cons, List.length_nil] at this
   have hi2 : i = n := by omega
   subst hi2
   rw [List.getElem?_append_right (by omega)] at hy
   simp [hl] at hy
   subst hy; exact hq
theorem opens_slice {P : Program} {α : Type} {d : Kd α} {B : α → Prop} {t e : TypeId} (q : Nat) (ht : P.underlying t = some (.slice e)) (hd : Opens P d e B) (hc : P.cellsOf e = d.sz) :
  Opens P (Kd.slice q d) t (fun xs => xs.length * P.bytesOf e ≤ reachBytes ∧ xs.length ≤ 9223372036854775807 ∧ ∀ x ∈ xs, B x) := by
 intro H enc w base spare held fuel cs y h hz
 rcases DataW.trod_slice ht h with ⟨rfl, rfl⟩ | ⟨a, len, cap, elems, rest, n, _, rfl, rfl, hb, hl, hm, hlen, hel, hsp, hns⟩
 ·
  exact ⟨[], ⟨none, 0, rfl, Nat.le_refl _, rfl, by simp, fun h => absurd h (by simp)⟩, by simp, by simp, fun x hx => by cases hx⟩
 ·
  have hmax : len ≤ 9223372036854775807 := Nat.le_trans (Nat.le_trans hl hm) (by unfold maxLen; decide)
  have hzz : ∀ n ∈ (elems.length + rest.length) * P.bytesOf e :: (DataW.weightsAll P e (elems.map (·.1)) ++ DataW.weightsAll P e (rest.map (·.1))), n ≤ reachBytes := by
   intro n hn
   refine hz n ?_
   simp only [DataW.weights, ht, List.length_map]
   exact hn
  have each : ∀ i, i < len → ∃ x, ∃ c : List Value, c.length = d.sz ∧ d.K w x c ∧ B x ∧ ∀ k u, c[k]? = some u → w.cell? (a.add (i * d.sz + k)) = some u := by
   intro i hi
   have h1 := hel i hi
   have hlt : i < elems.length := by omega
   rw [List.getElem?_eq_getElem hlt, Option.bind_eq_some_iff] at h1
   obtain ⟨c, hcs, hy⟩ := h1
   obtain ⟨_, hcl, hcell⟩ := World.cells?_some hcs
   obtain ⟨x, hK, hB⟩ := hd hy (fun n hn => hzz n (List.mem_cons_of_mem _ (List.mem_append_left _ (mem_wAll (List.mem_map.2 ⟨elems[i], List.getElem_mem hlt, rfl⟩) hn))))
   refine ⟨x, c, d.K_len hK, hK, hB, fun k u hu => ?_⟩
   have hk : k < P.cellsOf e := by have := (List.getElem?_eq_some_iff.1 hu).1; rw [d.K_len hK] at this; omega
   have h2 := hcell k hk
   rw [hc] at h2
   rw [add_add] at h2
   rw [h2, hu]
  obtain ⟨xs, hxl, hxs⟩ := pick (Q := fun i x => ∃ c : List Value, c.length = d.sz ∧ d.K w x c ∧ B x ∧ ∀ k u, c[k]? = some u → w.cell? (a.add (i * d.sz + k)) = some u) len each
  refine ⟨xs, ⟨some a, cap, by rw [hxl], by omega, rfl, by omega, fun _ => ⟨a, rfl, fun j p hp => ?_⟩⟩, ?_, by omega, fun x hx => ?_⟩
  ·
   obtain ⟨c, h1, h2, _, h3⟩ := hxs j p hp
   exact ⟨c, h1, h2, h3⟩
  ·
   have := hzz _ List.mem_cons_self
   rw [hlen] at this
   rw [hxl]
   exact Nat.le_trans (Nat.mul_le_mul_right _ (Nat.le_add_right _ _)) this
  ·
   obtain ⟨i, hi⟩ := List.getElem?_of_mem hx
   obtain ⟨_, _, _, hB, _⟩ := hxs i x hi
   exact hB
/-- cells in a row, read field by field -/
def OpenF (P : Program) {α : Type} (d : Kd α) (ts : List TypeId) (B : α → Prop) : Prop :=
 ∀ {H : Type} {enc : TypeId × Value → H} {w : World} {base : Nat} {spare : Nat → Bool} {held : Bool} {fuel : Nat} {cs : List Value} {ys : List (DataW H × List MemPlace)},
  cs.length = (ts.map P.cellsOf).sum → ys.length = ts.length → (∀ (i : Nat) (t : TypeId), ts[i]? = some t → DataW.trod enc P w base spare held fuel t ((cs.drop ((ts.take i).map P.cellsOf).sum).take (P.cellsOf t)) = ys[i]?) →
  (∀ n ∈ DataW.weightsEach P ts (ys.map (·.1)), n ≤ reachBytes) → ∃ x, d.K w x cs ∧ B x
theorem openF_one {P : Program} {α : Type} {d : Kd α} {t : TypeId} {B : α → Prop} (h : Opens P d t B) : OpenF P d [t] B := by
 intro H enc w base spare held fuel cs ys hl hn hy hz
 obtain ⟨y, rfl⟩ : ∃ y, ys = [y] := by
  match ys, hn with
  | [y], _ => exact ⟨y, rfl⟩
 have h0 := hy 0 t rfl
 simp only [List.map_cons, List.map_nil, List.sum_cons, List.sum_nil, Nat.add_zero] at hl
 rw [List.take_zero, List.map_nil, List.sum_nil, List.drop_zero, List.take_of_length_le (by omega)] at h0
 exact h h0 (fun n hn => hz n (by simpa [DataW.weightsEach] using hn))
theorem openF_cons {P : Program} {α β : Type} {d : Kd α} {d' : Kd β} {t : TypeId} {ts : List TypeId} {B : α → Prop} {B' : β → Prop} (h : Opens P d t B) (h' : OpenF P d' ts B') : OpenF P (Kd.pair d d') (t :: ts) (fun x => B x.1 ∧ B' x.2) := by
 intro H enc w base spare held fuel cs ys hl hn hy hz
 obtain ⟨y, r, rfl⟩ : ∃ y r, ys = y :: r := by
  match ys, hn with
  | y :: r, _ => exact ⟨y, r, rfl⟩
 simp only [List.map_cons, List.sum_cons] at hl
 have h0 := hy 0 t rfl
 rw [List.take_zero, List.map_nil, List.sum_nil, List.drop_zero] at h0
 have hzz : ∀ n ∈ y.1.weights P t ++ DataW.weightsEach P ts (r.map (·.1)), n ≤ reachBytes := fun n hn => hz n (by simpa [DataW.weightsEach] using hn)
 obtain ⟨x, hK, hB⟩ := h h0 (fun n hn => hzz n (List.mem_append_left _ hn))
 obtain ⟨x', hK', hB'⟩ := h' (cs := cs.drop (P.cellsOf t)) (ys := r) (by rw [List.length_drop]; omega) (by simpa using hn) (fun i u hu => by
  have := hy (i + 1) u hu
  simp only [List.take_succ_cons, List.map_cons, List.sum_cons, List.getElem?_cons_succ] at this
  rw [List.drop_drop]
  exact this) (fun n hn => hzz n (List.mem_append_right _ hn))
 exact ⟨(x, x'), ⟨cs.take (P.cellsOf t), cs.drop (P.cellsOf t), (List.take_append_drop _ _).symm, hK, hK'⟩, hB, hB'⟩
theorem opens_struct {P : Program} {α β : Type} {d : Kd α} {B : α → Prop} {t : TypeId} {fs : Array Field} (f : β → α) (g : α → β) (hfg : ∀ a, f (g a) = a) (ht : P.underlying t = some (.struct fs))
  (h : OpenF P d (fs.toList.map (·.type)) B) (ho : ∀ (i : Nat) (x : Field), fs[i]? = some x → x.offset = (((fs.toList.map (·.type)).take i).map P.cellsOf).sum) (hs : P.cellsOf t = ((fs.toList.map (·.type)).map P.cellsOf).sum) :
  Opens P (Kd.iso d f) t (fun b => B (f b)) := by
 intro H enc w base spare held fuel cs y hy hz
 obtain ⟨ys, n, _, rfl, hl, hn, hf⟩ := DataW.trod_struct ht hy
 obtain ⟨x, hK, hB⟩ := h (cs := cs) (ys := ys) (by rw [hl, hs]) (by rw [hn, List.length_map, Array.length_toList]) (fun i u hu => by
  rw [List.getElem?_map, Option.map_eq_some_iff] at hu
  obtain ⟨x, hx, rfl⟩ := hu
  have hx2 : fs[i]? = some x := by simpa using hx
  rw [← ho i x hx2]
  exact hf i x hx2) (fun n hn => hz n (by simp only [DataW.weights, ht]; exact hn))
 exact ⟨g x, by show d.K w (f (g x)) cs; rw [hfg]; exact hK, by show B (f (g x)); rw [hfg]; exact hB⟩
end Go.Proofs.YtnpnablnnfekkaaDoor
set_option linter.unusedVariables false
set_option linter.unusedSimpArgs false
namespace Go.Proofs.YtnpnablnnfekkaaDoor.PTr
open Go Go.RowKit Go.ChangeShapes Go.WideShapes Go.Proofs.YtnpnablnnfekkaaDoor Go.Proofs.YtnpnablnnfekkaaDoorW.PrintWords
def offB (P : Program) (fs : Array Field) : Bool := (List.range fs.size).all fun i => match fs[i]? with
 | some x => decide (x.offset = (((fs.toList.map (·.type)).take i).map P.cellsOf).sum)
 | none => true
theorem off_ok {P : Program} {fs : Array Field} (h : offB P fs = true) : ∀ (i : Nat) (x : Field), fs[i]? = some x → x.offset = (((fs.toList.map (·.type)).take i).map P.cellsOf).sum := by
 intro i x hx
 have hi : i < fs.size := (Array.getElem?_eq_some_iff.1 hx).1
 have := List.all_eq_true.1 h i (List.mem_range.2 hi)
 rw [hx] at this
 exact of_decide_eq_true this
theorem opens_ent : Opens Tryd.prog k61 61 (fun e => e.f0.size ≤ reachBytes ∧ (Lit.int .i64 e.f1).wf = true) :=
 opens_struct (fun x : S61 => (x.f0, x.f1)) (fun p => ⟨p.1, p.2⟩) (fun _ => rfl) Tryd.underlying61
  (openF_cons (opens_string Tryd.underlying9) (openF_one (opens_int Tryd.underlying3))) (off_ok (by kernel_rfl)) (by kernel_rfl)
def NodB (x : Nod) : Prop := (Lit.int .i64 x.f0).wf = true ∧ (Lit.int .i64 x.f1).wf = true ∧ (Lit.int .i64 x.f2).wf = true ∧ (Lit.int .i64 x.f3).wf = true ∧ (Lit.int .i64 x.f4).wf = true ∧ x.f5.size ≤ reachBytes ∧ (x.f6.length * Tryd.prog.bytesOf 61 ≤ reachBytes ∧ x.f6.length ≤ 9223372036854775807 ∧ ∀ e ∈ x.f6, e.f0.size ≤ reachBytes ∧ (Lit.int .i64 e.f1).wf = true)
theorem opens_node : Opens Tryd.prog k44 44 NodB :=
 opens_struct (fun x : S44 => (x.f0, x.f1, x.f2, x.f3, x.f4, x.f5, x.f6)) (fun p => ⟨p.1, p.2.1, p.2.2.1, p.2.2.2.1, p.2.2.2.2.1, p.2.2.2.2.2.1, p.2.2.2.2.2.2⟩) (fun _ => rfl) Tryd.underlying44
  (openF_cons (opens_int Tryd.underlying3) (openF_cons (opens_int Tryd.underlying3) (openF_cons (opens_int Tryd.underlying3) (openF_cons (opens_int Tryd.underlying3) (openF_cons (opens_int Tryd.underlying3) (openF_cons (opens_string Tryd.underlying9)
   (openF_one (opens_slice 61 Tryd.underlying42 opens_ent (by kernel_rfl))))))))) (off_ok (by kernel_rfl)) (by kernel_rfl)
theorem opens_room : Opens Tryd.prog (Kd.iso (Kd.pair (Kd.int .i64) (Kd.int .i64)) (fun x : Int × Int => x)) 24 (fun x => (Lit.int .i64 x.1).wf = true ∧ (Lit.int .i64 x.2).wf = true) :=
 opens_struct (fun x : Int × Int => x) (fun p => p) (fun _ => rfl) Tryd.underlying24 (openF_cons (opens_int Tryd.underlying3) (openF_one (opens_int Tryd.underlying3))) (off_ok (by kernel_rfl)) (by kernel_rfl)
def NodOK (x : Nod) : Prop := (Lit.int .i64 x.f0).wf = true ∧ (Lit.int .i64 x.f1).wf = true ∧ (Lit.int .i64 x.f2).wf = true ∧ (Lit.int .i64 x.f3).wf = true ∧ (Lit.int .i64 x.f4).wf = true ∧ x.f5.size ≤ 140737488351232 ∧ x.f6.length ≤ 140737488351232 ∧ ∀ e ∈ x.f6, e.f0.size ≤ 140737488351232 ∧ (Lit.int .i64 e.f1).wf = true
structure TreeV where
 A : Option Addr
 c : Nat
 l : List Nod
 b1 : Int
 b2 : Int
 b3 : Int
def TreeV.val (t : TreeV) : Value := .agg #[.slice t.A t.l.length t.c, .int .i64 t.b1, .int .i64 t.b2, .int .i64 t.b3]
def TreeV.ok (w : World) (t : TreeV) : Prop := Kd.C k44 w t.A t.l.length t.l ∧ t.l.length ≤ t.c ∧ t.l.length ≤ 140737488351232 ∧ (Lit.int .i64 t.b1).wf = true ∧ (Lit.int .i64 t.b2).wf = true ∧ (Lit.int .i64 t.b3).wf = true ∧ ∀ x ∈ t.l, NodOK x
theorem agg_of {v : Value} {a b : Value} {r : List Value} (h : v.cells.toList = a :: b :: r) : v = .agg (a :: b :: r).toArray := by
 cases v with
 | agg cs => simp only [Value.cells] at h; rw [← h]
 | _ => simp [Value.cells] at h
theorem bytes_le {n b : Nat} (hb : 1 ≤ b) (h : n * b ≤ reachBytes) : n ≤ 140737488351232 := by
 have : n ≤ n * b := Nat.le_mul_of_pos_right n hb
 unfold reachBytes at h
 omega
theorem nod_ok {x : Nod} (h : NodB x) : NodOK x := by
 have hb : 1 ≤ Tryd.prog.bytesOf 61 := of_decide_eq_true (by kernel_rfl)
 obtain ⟨h0, h1, h2, h3, h4, h5, h6, _, h7⟩ := h
 exact ⟨h0, h1, h2, h3, h4, h5, bytes_le hb h6, h7⟩
theorem opens_tree : Opens Tryd.prog (Kd.iso (Kd.pair (Kd.slice 44 k44) (Kd.pair (Kd.int .i64) (Kd.iso (Kd.pair (Kd.int .i64) (Kd.int .i64)) (fun x : Int × Int => x)))) (fun x : List Nod × Int × Int × Int => x)) 26 (fun x => (x.1.length * Tryd.prog.bytesOf 44 ≤ reachBytes ∧ x.1.length ≤ 9223372036854775807 ∧ ∀ y ∈ x.1, NodB y) ∧ (Lit.int .i64 x.2.1).wf = true ∧ (Lit.int .i64 x.2.2.1).wf = true ∧ (Lit.int .i64 x.2.2.2).wf = true) :=
 opens_struct (fun x : List Nod × Int × Int × Int => x) (fun p => p) (fun _ => rfl) Tryd.underlying26 (openF_cons (opens_slice 44 Tryd.underlying22 opens_node (by kernel_rfl)) (openF_cons (opens_int Tryd.underlying3) (openF_one opens_room))) (off_ok (by kernel_rfl)) (by kernel_rfl)
structure RoomV where
 b1 : Int
 b2 : Int
def RoomV.val (t : RoomV) : Value := .agg #[.int .i64 t.b1, .int .i64 t.b2]
def RoomV.ok (w : World) (t : RoomV) : Prop := (Lit.int .i64 t.b1).wf = true ∧ (Lit.int .i64 t.b2).wf = true
end Go.Proofs.YtnpnablnnfekkaaDoor.PTr
set_option linter.unusedVariables false
namespace Go.Proofs.YtnpnablnnfekkaaDoor.PTr
open Go Go.RowKit Go.ChangeShapes Go.WideShapes Go.Proofs.YtnpnablnnfekkaaDoor Go.Proofs.YtnpnablnnfekkaaDoorW.PrintWords
theorem open_treeB {H : Type} {enc : TypeId × Value → H} {w : World} {base : Nat} {spare : Nat → Bool} {held : Bool} {v : Value} {d : DataW H} {p : List MemPlace}
  (h : DataW.Trod enc Tryd.prog w base spare held 26 v d p) (hz : ∀ n ∈ d.weights Tryd.prog 26, n ≤ reachBytes) : ∃ t : TreeV, v = t.val ∧ (t.ok w ∧ ∀ x ∈ t.l, x.f6.length ≤ 5864062014805) := by
 obtain ⟨fuel, hf⟩ := h
 obtain ⟨⟨l, b1, b2, b3⟩, hK, ⟨hl, _, hx⟩, h1, h2, h3⟩ := opens_tree hf hz
 obtain ⟨c0, c1, e, ⟨A, c, rfl, hc, hC⟩, c2, c3, rfl, e2, c4, c5, rfl, e4, e5⟩ := hK
 have e2' : c2 = [.int .i64 b1] := e2
 have e4' : c4 = [.int .i64 b2] := e4
 have e5' : c5 = [.int .i64 b3] := e5
 subst e2' e4' e5'
 have hb : 1 ≤ Tryd.prog.bytesOf 44 := of_decide_eq_true (by kernel_rfl)
 have hq : Tryd.prog.bytesOf 61 = 24 := of_decide_eq_true (by kernel_rfl)
 refine ⟨⟨A, c, l, b1, b2, b3⟩, agg_of e, ⟨hC, hc, bytes_le hb hl, h1, h2, h3, fun x hx2 => nod_ok (hx x hx2)⟩, fun x hx2 => ?_⟩
 have h6 := (hx x hx2).2.2.2.2.2.2.1
 rw [hq] at h6
 unfold reachBytes at h6
 omega
end Go.Proofs.YtnpnablnnfekkaaDoor.PTr
namespace Go.Proofs.YtnpnablnnfekkaaDoor.PTr
open Go.RowKit Go.Proofs.YtnpnablnnfekkaaDoor Go.Proofs.YtnpnablnnfekkaaDoorW.PrintWords
theorem canon_walk (t : TreeV) (s : Int) (w : World) (h : t.ok w ∧ ∀ x ∈ t.l, x.f6.length ≤ 5864062014805) (hs : 0 ≤ s ∧ s ≤ 255) : Calls Tryd.prog 8 #[t.val, .int .u8 s] w fun e w' => e = .returned (.bool true) ∧ Below w.heap.size w w' := by
 have hE : eOK t.l := fun _ x hx => h.2 x hx
 obtain ⟨b, ⟨KS, hS⟩, _⟩ := small_ev t.l t.b1 t.b2 t.b3
 have hS := hS KS (Nat.le_refl _)
 by_cases hg : b = true ∧ chk t.l t.b1 = 0
 ·
  obtain ⟨rfl, hk⟩ := hg
  exact canonlaw_yes t.l t.A t.c t.b1 t.b2 t.b3 s w h.1.1 h.1.2.1 hE hs KS hS hk
 ·
  refine canonlaw_no t.l t.A t.c t.b1 t.b2 t.b3 s w h.1.1 h.1.2.1 hE KS b hS ?_
  cases b with
  | false => exact .inl rfl
  | true => exact .inr (fun e => hg ⟨rfl, e⟩)
end Go.Proofs.YtnpnablnnfekkaaDoor.PTr
