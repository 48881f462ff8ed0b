/- Texts of this claim's proof: small lemmas, walks and plain laws (merged by wip/shake.py). -/
import Derived.Test.YtnpnablnnfekkaaDoorTsM1
import Derived.Test.YtnpnablnnfekkaaDoorTsM2
import Derived.Deep.CutBlock
set_option linter.unusedVariables false
set_option linter.unusedSimpArgs false
namespace Go.Proofs.YtnpnablnnfekkaaDoor.PTr
open Go.RowKit Go.Proofs.YtnpnablnnfekkaaDoor Go.Proofs.YtnpnablnnfekkaaDoorW.PrintWords Go.Proofs.YtnpnablnnfekkaaDoorW.PrintLast Go.Proofs.YtnpnablnnfekkaaDoorW.PrintMore
theorem cellB {w w' : World} {a : Addr} {v : Value} (h : w.cell? a = some v) (hb : Below w.heap.size w w') : w'.cell? a = some v := (hb.cell (World.block_lt_of_cell? w _ h)).trans h
structure KSt (w0 w : World) (g1 gm : Nat) (T : Array Value) (m : MapD) (v : Value) (xs : List Int) : Prop where
 hb : Below w0.heap.size w0 w
 b1 : w.heap[g1]? = some (.cells T 26 (0, 0))
 em : w0.heap.size ≤ gm
 mp : MapA KI KI w gm m
 q : Kd.Q (Kd.int .i64) 3 w w0.heap.size (fun _ => True) v xs
theorem KSt.below {w0 w w' : World} {g1 gm : Nat} {T : Array Value} {m : MapD} {v : Value} {xs : List Int} (h : KSt w0 w g1 gm T m v xs) (hb : Below w.heap.size w w') : KSt w0 w' g1 gm T m v xs :=
 ⟨below_step h.hb hb, blk_below h.b1 hb, h.em, h.mp.below hb, Kd.Q_below h.q hb⟩
theorem KSt.update {w0 w w' : World} {g1 gm : Nat} {T : Array Value} {m m' : MapD} {v : Value} {xs : List Int} (h : KSt w0 w g1 gm T m v xs) (hm : MapA KI KI w' gm m') (hg : w.grownBy w' (some gm)) : KSt w0 w' g1 gm T m' v xs :=
 ⟨h.hb.grown hg (below_size h.hb) (fun k hk => by cases hk; exact h.em), blk_grown h.b1 hg (fun e => MapA.neC h.mp h.b1 (Option.some.inj e).symm), h.em, hm, Q_mapped h.q h.mp hg⟩
theorem KSt.pushed {w0 w w' : World} {g1 gm : Nat} {T : Array Value} {m : MapD} {v v' : Value} {xs xs' : List Int} (h : KSt w0 w g1 gm T m v xs) (hq : Kd.Q (Kd.int .i64) 3 w' w0.heap.size (fun _ => True) v' xs') (hb : Below w0.heap.size w0 w') (hg : w.grownBy w' v.ownBlock) : KSt w0 w' g1 gm T m v' xs' :=
 ⟨hb, blk_grown h.b1 hg (Kd.Q_ne h.q h.b1 (by decide)), h.em, MapA.grown h.mp hg (Q_neM h.q h.mp), hq⟩
theorem head_one {l : List Nod} (h : headOK l = true) : ∃ h0 : 0 < l.length, l[0].f0 = 1 := by
 unfold headOK at h
 simp only [Bool.and_eq_true, decide_eq_true_eq] at h
 have h0 : 0 < l.length := by omega
 have h2 := h.1.2
 rw [show (0 : Int) = ((0 : Nat) : Int) from rfl, rdN l 0 h0] at h2
 exact ⟨h0, h2⟩
theorem head_bad {l : List Nod} {a1 : Int} (h : headOK l = false) : chk l a1 = 80 := by unfold chk; rw [h]; rfl
theorem nodes_bad {l : List Nod} {a1 : Int} {i : Nat} (hi : i < l.length) (h : nodeAt l a1 i = false) : chk l a1 = 80 := by
 have : nodesOK l a1 = false := by
  rw [Bool.eq_false_iff]
  intro hn
  have := List.all_eq_true.1 hn i (List.mem_range.2 hi)
  rw [h] at this; cases this
 unfold chk
 rw [this]
 split
 ·
  rfl
 ·
  rfl
theorem chk_bfs {l : List Nod} {a1 : Int} (h : headOK l = true) (hn : nodesOK l a1 = true) : chk l a1 = outcome l (goneThrough l) := by
 unfold chk; rw [if_pos h, if_pos hn]; rfl
/-- what may come up at a node: bad in three ways, good in two -/
theorem node_cases (l : List Nod) (a1 : Int) (i : Nat) (hi : i < l.length) (hl : l.length ≤ 512) :
  (∃ bp bi bz bv, plainB l[i] = bp ∧ decide (a1 < l[i].f0) = bi ∧ decide (0 < (i : Int)) = bz ∧ (bz = true → decide (l[i].f0 ≤ (rd_T44 l (wrap64 ((i : Int) - 1))).f0) = bv) ∧
   ((nodeAt l a1 i = false ∧ (bp = false ∨ bp = true ∧ bi = true ∨ bp = true ∧ bi = false ∧ bz = true ∧ bv = true)) ∨ (nodeAt l a1 i = true ∧ bp = true ∧ bi = false ∧ (bz = false ∨ bz = true ∧ bv = false)))) := by
 refine ⟨_, _, _, _, rfl, rfl, rfl, fun _ => rfl, ?_⟩
 unfold nodeAt
 rw [rdN l i hi]
 cases hp : plainB l[i] with
 | false => left; exact ⟨by simp, .inl rfl⟩
 | true =>
  by_cases h1 : a1 < l[i].f0
  ·
   left
   rw [decide_eq_true h1, decide_eq_false (show ¬ l[i].f0 ≤ a1 from by omega)]
   exact ⟨by simp, .inr (.inl ⟨rfl, rfl⟩)⟩
  ·
   rw [decide_eq_false h1, decide_eq_true (show l[i].f0 ≤ a1 from by omega)]
   by_cases hz : i = 0
   ·
    right
    rw [decide_eq_true hz, decide_eq_false (show ¬ 0 < (i : Int) from by omega)]
    exact ⟨by simp, rfl, rfl, .inl rfl⟩
   ·
    have hw : wrap64 ((i : Int) - 1) = ((i - 1 : Nat) : Int) := by unfold wrap64; omega
    rw [decide_eq_false hz, decide_eq_true (show 0 < (i : Int) from by omega), hw, rdN l (i - 1) (by omega)]
    by_cases h2 : l[i - 1].f0 < l[i].f0
    ·
     right
     rw [decide_eq_true h2, decide_eq_false (show ¬ l[i].f0 ≤ l[i - 1].f0 from by omega)]
     exact ⟨by simp, rfl, rfl, .inr ⟨rfl, rfl⟩⟩
    ·
     left
     rw [decide_eq_false h2, decide_eq_true (show l[i].f0 ≤ l[i - 1].f0 from by omega)]
     exact ⟨by simp, .inr (.inr ⟨rfl, rfl, rfl, rfl⟩)⟩
/-- what holds while nodes are gone through: the places of the keys, the counts -/
def BInv (l : List Nod) (F j : Nat) (keys : List Int) (m : MapD) : Prop :=
 m.map (·.1) = keys ∧ TG.Inv (idsL l) (tgts l) (dirL l) j keys ∧ (∀ k v, getA m k = some v → 1 ≤ v ∧ v ≤ 1 + (j : Int) * 1000000000000) ∧ l.length + 1 < F + j ∧ outcome l (TG.bfs (idsL l) (tgts l) (dirL l) F j keys) = outcome l (goneThrough l)
theorem inv_len {l : List Nod} {j : Nat} {keys : List Int} (h : TG.Inv (idsL l) (tgts l) (dirL l) j keys) : j ≤ keys.length ∧ keys.length ≤ l.length := by
 have h1 := TG.len_le keys (idsL l) h.nd h.sub
 unfold idsL at h1
 rw [List.length_map] at h1
 exact ⟨h.le, h1⟩
theorem binv_zero (l : List Nod) (j : Nat) (keys : List Int) (m : MapD) : ¬ BInv l 0 j keys m := by
 rintro ⟨_, h, _, h2, _⟩
 have := inv_len h
 omega
theorem binv_node {l : List Nod} {F j : Nat} {keys : List Int} {m : MapD} (h : BInv l F j keys m) (hr : Rises l) (hj : j < keys.length) : ∃ t, ∃ ht : t < l.length, ∃ x, l[t] = x ∧ x.f0 = keys[j] := by
 obtain ⟨y, hy, hye⟩ := mem_ids.1 (h.2.1.sub _ (List.getElem_mem hj))
 obtain ⟨t, ht, rfl⟩ := List.getElem_of_mem hy
 exact ⟨t, ht, _, rfl, hye⟩
def VInv (l : List Nod) (keys : List Int) (j : Nat) (es : List Ent) (q : Nat) (keys' : List Int) (m' : MapD) : Prop :=
 m'.map (·.1) = keys' ∧ keys'.Nodup ∧ (∀ x ∈ keys', x ∈ idsL l) ∧ j < keys'.length ∧ (∀ k v, getA m' k = some v → 1 ≤ v ∧ v ≤ 1 + (j : Int) * 1000000000000 + q) ∧ TG.visit (idsL l) (dirL l) keys' ((es.drop q).map (·.f1)) = TG.visit (idsL l) (dirL l) keys (es.map (·.f1))
theorem vinv_len {l : List Nod} {keys : List Int} {j : Nat} {es : List Ent} {q : Nat} {keys' : List Int} {m' : MapD} (h : VInv l keys j es q keys' m') : j < keys'.length ∧ keys'.length ≤ l.length := by
 have h1 := TG.len_le keys' (idsL l) h.2.1 h.2.2.1
 unfold idsL at h1
 rw [List.length_map] at h1
 exact ⟨h.2.2.2.1, h1⟩
theorem vinv_start {l : List Nod} {F j : Nat} {keys : List Int} {m : MapD} (h : BInv l F j keys m) (hj : j < keys.length) {es : List Ent} : VInv l keys j es 0 keys m :=
 ⟨h.1, h.2.1.nd, h.2.1.sub, hj, fun k v hv => by have := h.2.2.1 k v hv; omega, by rw [List.drop_zero]⟩
theorem binv_fail {l : List Nod} {F j : Nat} {keys : List Int} {m : MapD} (h : BInv l (F + 1) j keys m) (hj : j < keys.length) {es : List Ent} (ht : tgts l keys[j] = es.map (·.f1)) (hv : TG.visit (idsL l) (dirL l) keys (es.map (·.f1)) = none) : outcome l (goneThrough l) = 80 := by
 rw [← h.2.2.2.2]
 unfold TG.bfs
 rw [List.getElem?_eq_getElem hj]
 simp only []
 rw [ht, hv]; rfl
theorem binv_done {l : List Nod} {F j : Nat} {keys : List Int} {m : MapD} (h : BInv l (F + 1) j keys m) (hj : ¬ j < keys.length) : outcome l (goneThrough l) = if keys.length = l.length then 0 else 80 := by
 rw [← h.2.2.2.2]
 unfold TG.bfs
 rw [List.getElem?_eq_none (by omega)]; rfl
theorem vinv_end {l : List Nod} {F j : Nat} {keys keys' : List Int} {m m' : MapD} {es : List Ent} (h : BInv l (F + 1) j keys m) (hv : VInv l keys j es es.length keys' m') (hj : j < keys.length) (ht : tgts l keys[j] = es.map (·.f1)) (hes : es.length ≤ 1000000000000) : BInv l F (j + 1) keys' m' := by
 obtain ⟨v1, v2, v3, v4, v5, v6⟩ := hv
 rw [List.drop_of_length_le (Nat.le_refl _)] at v6
 have hvis : TG.visit (idsL l) (dirL l) keys (tgts l keys[j]) = some keys' := by rw [ht, ← v6]; rfl
 refine ⟨v1, TG.inv_step _ _ _ h.2.1 hj hvis, fun k v hk => by have := v5 k v hk; omega, by have := h.2.2.2.1; omega, ?_⟩
 rw [← h.2.2.2.2]
 conv => rhs; unfold TG.bfs
 rw [List.getElem?_eq_getElem hj]
 simp only []
 rw [hvis]; rfl
theorem vinv_step {l : List Nod} {keys keys' : List Int} {j q : Nat} {es : List Ent} {m' : MapD} (h : VInv l keys j es q keys' m') (hr : Rises l) (hl : l.length ≤ 512) (hes : es.length ≤ 1000000000000) (hq : q < es.length) {e : Int} (he : es[q].f1 = e) {a1 a2 a3 : Int} :
  (∃ p K, tree_place.f K l a1 a2 a3 e = some (p, false) ∧ TG.visit (idsL l) (dirL l) keys (es.map (·.f1)) = none) ∨
  (∃ t, ∃ ht : t < l.length, ∃ y, l[t] = y ∧ ∃ K, tree_place.f K l a1 a2 a3 e = some ((t : Int), true) ∧ (0 ≤ gI m' e ∧ gI m' e ≤ 4000000000000000) ∧
   ((y.f1 = 1 ∧ 0 < gI m' e ∧ TG.visit (idsL l) (dirL l) keys (es.map (·.f1)) = none) ∨
   (y.f1 ≠ 1 ∧ 0 < gI m' e ∧ wrap64 (gI m' e + 1) ≠ 1 ∧ VInv l keys j es (q + 1) keys' (putA m' e (wrap64 (gI m' e + 1)))) ∨
   (y.f1 = 1 ∧ ¬ 0 < gI m' e ∧ wrap64 (gI m' e + 1) = 1 ∧ VInv l keys j es (q + 1) (keys' ++ [e]) (putA m' e (wrap64 (gI m' e + 1)))) ∨
   (y.f1 ≠ 1 ∧ ¬ 0 < gI m' e ∧ wrap64 (gI m' e + 1) = 1 ∧ VInv l keys j es (q + 1) (keys' ++ [e]) (putA m' e (wrap64 (gI m' e + 1)))))) := by
 have hlen := vinv_len h
 obtain ⟨v1, v2, v3, v4, v5, v6⟩ := h
 rw [List.drop_eq_getElem_cons hq, List.map_cons, he] at v6
 conv at v6 => lhs; unfold TG.visit
 by_cases hin : e ∈ idsL l
 ·
  right
  obtain ⟨y, hy, hye⟩ := mem_ids.1 hin
  obtain ⟨t, ht, rfl⟩ := List.getElem_of_mem hy
  obtain ⟨K, hK⟩ := place_in l a1 a2 a3 (by omega) hr t ht
  rw [hye] at hK
  have hdir : dirL l e = decide (l[t].f1 = 1) := by rw [← hye]; exact dir_at hr t ht
  have hgz : e ∉ keys' → gI m' e = 0 := fun hh => gI_zero (by rw [v1]; exact hh)
  have hgp : e ∈ keys' → 1 ≤ gI m' e ∧ gI m' e ≤ 1 + (j : Int) * 1000000000000 + q := fun hh => by
   have hne : getA m' e ≠ none := fun h0 => getA_none.1 h0 (by rw [v1]; exact hh)
   obtain ⟨v, hv0⟩ := Option.ne_none_iff_exists'.1 hne
   unfold gI; rw [hv0]; exact v5 e v hv0
  refine ⟨t, ht, _, rfl, K, hK K (Nat.le_refl _), ?_, ?_⟩
  ·
   by_cases hk : e ∈ keys'
   ·
    have := hgp hk; omega
   ·
    have := hgz hk; omega
  by_cases hbad : dirL l e = true ∧ e ∈ keys'
  ·
   left
   rw [if_neg (fun hh => hh.2 hbad)] at v6
   rw [hdir] at hbad
   exact ⟨of_decide_eq_true hbad.1, by have := hgp hbad.2; omega, v6.symm⟩
  ·
   rw [if_pos ⟨hin, hbad⟩] at v6
   by_cases hk : e ∈ keys'
   ·
    have hg := hgp hk
    have hw : wrap64 (gI m' e + 1) = gI m' e + 1 := by unfold wrap64; omega
    rw [if_pos hk] at v6
    right; left
    refine ⟨fun h1 => hbad ⟨by rw [hdir]; exact decide_eq_true h1, hk⟩, by omega, by omega, ?_, v2, v3, v4, fun k v hkv => ?_, v6⟩
    ·
     rw [keys_put, v1, if_pos hk]
    ·
     rw [getA_put] at hkv
     split at hkv
     ·
      cases hkv; omega
     ·
      have := v5 k v hkv; omega
   ·
    have hg := hgz hk
    have hw : wrap64 (gI m' e + 1) = 1 := by rw [hg]; unfold wrap64; omega
    rw [if_neg hk] at v6
    have hV : VInv l keys j es (q + 1) (keys' ++ [e]) (putA m' e (wrap64 (gI m' e + 1))) := by
     refine ⟨?_, ?_, fun z hz => ?_, by rw [List.length_append]; omega, fun k v hkv => ?_, v6⟩
     ·
      rw [keys_put, v1, if_neg hk]
     ·
      rw [List.nodup_append]
      refine ⟨v2, by simp, fun a ha b hb => ?_⟩
      simp at hb; subst hb; intro e2; subst e2; exact hk ha
     ·
      rcases List.mem_append.1 hz with h | h
      ·
       exact v3 z h
      ·
       simp at h; subst h; exact hin
     ·
      rw [getA_put] at hkv
      split at hkv
      ·
       cases hkv; omega
      ·
       have := v5 k v hkv; omega
    by_cases hd : l[t].f1 = 1
    ·
     right; right; left; exact ⟨hd, by omega, hw, hV⟩
    ·
     right; right; right; exact ⟨hd, by omega, hw, hV⟩
 ·
  left
  rw [if_neg (fun hh => hin hh.1)] at v6
  obtain ⟨p, K, hK⟩ := place_out l a1 a2 a3 e (by omega) hr hin
  exact ⟨p, K, hK K (Nat.le_refl _), v6.symm⟩
set_option maxHeartbeats 8000000 in
set_option maxRecDepth 100000 in
theorem check_any (l : List Nod) (A : Option Addr) (c : Nat) (a1 a2 a3 : Int) (w : World) (hr0 : Kd.C k44 w A l.length l) (hc00 : l.length ≤ c) (hE : l.length ≤ 512 → ∀ x ∈ l, x.f6.length ≤ 1000000000000) :
  Calls Tryd.prog 17 #[.agg #[.slice A l.length c, .int .i64 a1, .int .i64 a2, .int .i64 a3]] w fun e w' => e = .returned (.int .i64 (chk l a1)) ∧ Below w.heap.size w w' := by
 have hu26 := Tryd.underlying26
 have hmm := @run_makeMap Tryd.prog
 have HR0 := Lib.hid hr0
 have HC0 := Lib.hid hc00
 clear hr0 hc00
 by_cases h0 : l.length = 0
 ·
  have hbad : headOK l = false := by unfold headOK; rw [decide_eq_false (by omega)]; rfl
  have b0 : ((l.length : Int) == 0) = true := beq_iff_eq.mpr (by omega)
  clear hE
  (rw [head_bad hbad]; clear hbad; go_enter Tryd.func17, Tryd.ntmps17; go_wp2_with ((with_reducible refine gate_dst (N := 1) rfl ?_); refine box_event ?hg (N := 1) ?hd (cs := #[.slice A l.length c, .int .i64 a1, .int .i64 a2, .int .i64 a3]) (t := 26) ?hr ?_; (case hd => rfl); (case hg => rfl); (case hr => first | (go_simp; done) | (go_simp; rfl)); intro g1 hg1 w1 hbox hb; have B1 := Lib.hid hbox; have HB1 := Lib.hid hb; have E1 : Hid (w.heap.size ≤ g1) := Lib.hid (by rw [hg1]; exact Nat.le_refl _); have d0 : w1.cell? ⟨g1, 0, none⟩ = some (.slice A l.length c) := (blk_cell B1.out 0).trans rfl; have d1 : w1.cell? ⟨g1, 1, none⟩ = some (.int .i64 a1) := (blk_cell B1.out 1).trans rfl; (try replace z0 := cellB z0 hb); (try replace z1 := cellB z1 hb); clear hbox hb hg1); go_ret; exact ⟨rfl, HB1.out⟩)
 have b0 : ((l.length : Int) == 0) = false := beq_eq_false_iff_ne.mpr (by omega)
 by_cases h1 : 512 < l.length
 ·
  have hbad : headOK l = false := by unfold headOK; rw [decide_eq_false (show ¬ l.length ≤ 512 from by omega), Bool.and_false]; rfl
  have b1 : decide ((512 : Int) < (l.length : Int)) = true := decide_eq_true (by omega)
  clear hE
  (rw [head_bad hbad]; clear hbad; go_enter Tryd.func17, Tryd.ntmps17; go_wp2_with ((with_reducible refine gate_dst (N := 1) rfl ?_); refine box_event ?hg (N := 1) ?hd (cs := #[.slice A l.length c, .int .i64 a1, .int .i64 a2, .int .i64 a3]) (t := 26) ?hr ?_; (case hd => rfl); (case hg => rfl); (case hr => first | (go_simp; done) | (go_simp; rfl)); intro g1 hg1 w1 hbox hb; have B1 := Lib.hid hbox; have HB1 := Lib.hid hb; have E1 : Hid (w.heap.size ≤ g1) := Lib.hid (by rw [hg1]; exact Nat.le_refl _); have d0 : w1.cell? ⟨g1, 0, none⟩ = some (.slice A l.length c) := (blk_cell B1.out 0).trans rfl; have d1 : w1.cell? ⟨g1, 1, none⟩ = some (.int .i64 a1) := (blk_cell B1.out 1).trans rfl; (try replace z0 := cellB z0 hb); (try replace z1 := cellB z1 hb); clear hbox hb hg1); go_ret; exact ⟨rfl, HB1.out⟩)
 have b1 : decide ((512 : Int) < (l.length : Int)) = false := decide_eq_false (by omega)
 have hlen : l.length ≤ 512 := by omega
 replace hE := hE hlen
 obtain ⟨ad, A6, c6, ea, x0, x1, x2, x3, x4, x5, x6, _, _⟩ := at_T44 HR0.out 0 (by omega) (by omega)
 cases ea
 have z0 := x0
 have z1 := x1
 simp only [show (0 : Int).toNat = 0 from rfl, Nat.zero_mul, Addr.add_zero'] at z0 z1
 clear x0 x1 x2 x3 x4 x5 x6
 have i0 : decide ((0 : Int) < (l.length : Int)) = true := decide_eq_true (by omega)
 have i0n : (0 < l.length) = True := eq_true (by omega)
 by_cases h2 : (rd_T44 l 0).f0 = 1
 case neg =>
  have hbad : headOK l = false := by unfold headOK; rw [decide_eq_false h2, Bool.and_false]; rfl
  have b2 : ((rd_T44 l 0).f0 != 1) = true := bne_iff_ne.mpr h2
  clear hE
  (rw [head_bad hbad]; clear hbad; go_enter Tryd.func17, Tryd.ntmps17; go_wp2_with ((with_reducible refine gate_dst (N := 1) rfl ?_); refine box_event ?hg (N := 1) ?hd (cs := #[.slice (some ad) l.length c, .int .i64 a1, .int .i64 a2, .int .i64 a3]) (t := 26) ?hr ?_; (case hd => rfl); (case hg => rfl); (case hr => first | (go_simp; done) | (go_simp; rfl)); intro g1 hg1 w1 hbox hb; have B1 := Lib.hid hbox; have HB1 := Lib.hid hb; have E1 : Hid (w.heap.size ≤ g1) := Lib.hid (by rw [hg1]; exact Nat.le_refl _); have d0 : w1.cell? ⟨g1, 0, none⟩ = some (.slice (some ad) l.length c) := (blk_cell B1.out 0).trans rfl; have d1 : w1.cell? ⟨g1, 1, none⟩ = some (.int .i64 a1) := (blk_cell B1.out 1).trans rfl; (try replace z0 := cellB z0 hb); (try replace z1 := cellB z1 hb); clear hbox hb hg1); go_ret; exact ⟨rfl, HB1.out⟩)
 have b2 : ((rd_T44 l 0).f0 != 1) = false := bne_eq_false_iff_eq.mpr h2
 by_cases h3 : (rd_T44 l 0).f1 = 1
 case neg =>
  have hbad : headOK l = false := by unfold headOK; rw [decide_eq_false h3, Bool.and_false]
  have b3 : ((rd_T44 l 0).f1 != 1) = true := bne_iff_ne.mpr h3
  clear hE
  (rw [head_bad hbad]; clear hbad; go_enter Tryd.func17, Tryd.ntmps17; go_wp2_with ((with_reducible refine gate_dst (N := 1) rfl ?_); refine box_event ?hg (N := 1) ?hd (cs := #[.slice (some ad) l.length c, .int .i64 a1, .int .i64 a2, .int .i64 a3]) (t := 26) ?hr ?_; (case hd => rfl); (case hg => rfl); (case hr => first | (go_simp; done) | (go_simp; rfl)); intro g1 hg1 w1 hbox hb; have B1 := Lib.hid hbox; have HB1 := Lib.hid hb; have E1 : Hid (w.heap.size ≤ g1) := Lib.hid (by rw [hg1]; exact Nat.le_refl _); have d0 : w1.cell? ⟨g1, 0, none⟩ = some (.slice (some ad) l.length c) := (blk_cell B1.out 0).trans rfl; have d1 : w1.cell? ⟨g1, 1, none⟩ = some (.int .i64 a1) := (blk_cell B1.out 1).trans rfl; (try replace z0 := cellB z0 hb); (try replace z1 := cellB z1 hb); clear hbox hb hg1); go_ret; exact ⟨rfl, HB1.out⟩)
 have b3 : ((rd_T44 l 0).f1 != 1) = false := bne_eq_false_iff_eq.mpr h3
 have HH : Hid (headOK l = true) := Lib.hid (by unfold headOK; rw [decide_eq_true h0, decide_eq_true hlen, decide_eq_true h2, decide_eq_true h3]; rfl)
 have HLN := Lib.hid hlen
 have HEE := Lib.hid hE
 clear hE hlen h0 h1 h2 h3
 go_enter Tryd.func17, Tryd.ntmps17
 go_wp2_with ((with_reducible refine gate_dst (N := 1) rfl ?_); refine box_event ?hg (N := 1) ?hd (cs := #[.slice (some ad) l.length c, .int .i64 a1, .int .i64 a2, .int .i64 a3]) (t := 26) ?hr ?_; (case hd => rfl); (case hg => rfl); (case hr => first | (go_simp; done) | (go_simp; rfl)); intro g1 hg1 w1 hbox hb; have B1 := Lib.hid hbox; have HB1 := Lib.hid hb; have E1 : Hid (w.heap.size ≤ g1) := Lib.hid (by rw [hg1]; exact Nat.le_refl _); have d0 : w1.cell? ⟨g1, 0, none⟩ = some (.slice (some ad) l.length c) := (blk_cell B1.out 0).trans rfl; have d1 : w1.cell? ⟨g1, 1, none⟩ = some (.int .i64 a1) := (blk_cell B1.out 1).trans rfl; (try replace z0 := cellB z0 hb); (try replace z1 := cellB z1 hb); clear hbox hb hg1)
 clear z0 z1 d1
 go_loopw [42] (fun s42 wr => ∃ i : Nat, i ≤ l.length ∧ s42 = .int .i64 i ∧ Hid (∀ q, q < i → nodeAt l a1 q = true) ∧ Hid (Below w.heap.size w wr) ∧ Hid (wr.heap[g1]? = some (.cells #[.slice (some ad) l.length c, .int .i64 a1, .int .i64 a2, .int .i64 a3] 26 (0, 0)))) (fun s42 _ => l.length - (intOf s42).toNat)
 case atStart => exact ⟨0, Nat.zero_le _, rfl, Lib.hid (fun q h => by omega), HB1, B1⟩
 case round =>
  clear HB1 B1 d0
  obtain ⟨i, hi, rfl, HP, HB, B1⟩ := hrel
  by_cases hlt : i < l.length
  ·
   obtain ⟨bp, bi, bz, bv, hp, hbi, hbz, hbv, hcase⟩ := node_cases l a1 i hlt HLN.out
   have hbzn : decide (0 < i) = bz := by rw [← hbz, decide_eq_decide]; omega
   obtain ⟨x, hx⟩ : ∃ x, l[i] = x := ⟨_, rfl⟩
   have hxl : x ∈ l := hx ▸ List.getElem_mem hlt
   rw [hx] at hp hbi hbv
   have hrd : rd_T44 l (i : Int) = x := (rdN l i hlt).trans hx
   obtain ⟨ad', A6, c6, ea, x0, x1, x2, x3, x4, x5, x6, hl6, hi6⟩ := at_T44 HR0.out (i : Int) (by omega) (by omega)
   cases ea
   rw [hrd, Int.toNat_natCast] at x0 x1 x2 x3 x4 x5 x6
   rw [hrd] at hl6 hi6
   have HPL : Hid (tree_plain.f (x.f6.length + 2) x.f0 x.f1 x.f2 x.f3 x.f4 x.f5 x.f6 = some bp) := Lib.hid (by have := HEE.out x hxl; rw [plain_prog x (by omega) _ (by omega), hp])
   have HRE := Lib.hid hi6
   have HCE := Lib.hid hl6
   have HWR : Hid (wrap64 ((i : Int) + 1) = ((i + 1 : Nat) : Int)) := Lib.hid (by have := HLN.out; unfold wrap64; omega)
   have HLT := Lib.hid hlt
   have HPV : Hid (bz = true → 0 ≤ wrap64 ((i : Int) - 1) ∧ wrap64 ((i : Int) - 1) < (l.length : Int) ∧ w.cell? (ad.add ((wrap64 ((i : Int) - 1)).toNat * 7)) = some (.int .i64 (rd_T44 l (wrap64 ((i : Int) - 1))).f0)) := Lib.hid (fun h => by
    have hz : 0 < (i : Int) := of_decide_eq_true (hbz.trans h)
    have hw : wrap64 ((i : Int) - 1) = ((i - 1 : Nat) : Int) := by have := HLN.out; unfold wrap64; omega
    obtain ⟨ad2, _, _, ea2, y0, _⟩ := at_T44 HR0.out (wrap64 ((i : Int) - 1)) (by omega) (by omega)
    cases ea2
    exact ⟨by omega, by omega, y0⟩)
   replace x0 := cellB x0 HB.out
   replace x1 := cellB x1 HB.out
   replace x2 := cellB x2 HB.out
   replace x3 := cellB x3 HB.out
   replace x4 := cellB x4 HB.out
   replace x5 := cellB x5 HB.out
   replace x6 := cellB x6 HB.out
   have i1 : decide (0 ≤ (i : Int)) = true := decide_eq_true (by omega)
   have i2 : decide ((i : Int) < (l.length : Int)) = true := decide_eq_true (by omega)
   clear hx hp hrd hl6 hi6 hi hlt
   go_upto_region 6 with (first | ((with_reducible refine gate_dst (N := 4) rfl ?_); refine box_event ?hg (N := 4) ?hd (cs := zN) (t := 44) ?hr ?_; (case hd => rfl); (case hg => rfl); (case hr => first | (go_simp; done) | (go_simp; rfl)); intro g4 hg4 w2 hbox hb; have B4 := Lib.hid hbox; have HB4 := Lib.hid hb; have HG4 := Lib.hid hg4; clear hbox hb hg4) | (refine store_box rfl rfl (.tmp 4) (.tmp 46) rfl (x0 := x.f0) (x1 := x.f1) (x2 := x.f2) (x3 := x.f3) (x4 := x.f4) (x5 := x.f5) rfl rfl B4.out HG4.out HB4.out ?_; intro w3 hb3 hw3; have BN := Lib.hid hb3; have HB3 := Lib.hid (below_step HB.out hw3); have C1 := Lib.hid (blk_below B1.out hw3); clear hb3 hw3 B4 HB4 HG4))
   clear x0 x1 x2 x3 x4 x5 x6 B1 HB
   have d0 : w3.cell? ⟨g1, 0, none⟩ = some (.slice (some ad) l.length c) := (blk_cell C1.out 0).trans rfl
   have d1 : w3.cell? ⟨g1, 1, none⟩ = some (.int .i64 a1) := (blk_cell C1.out 1).trans rfl
   have n0 : w3.cell? ⟨g4, 0, none⟩ = some (.int .i64 x.f0) := (blk_cell BN.out 0).trans rfl
   have n1 : w3.cell? ⟨g4, 1, none⟩ = some (.int .i64 x.f1) := (blk_cell BN.out 1).trans rfl
   have n2 : w3.cell? ⟨g4, 2, none⟩ = some (.int .i64 x.f2) := (blk_cell BN.out 2).trans rfl
   have n3 : w3.cell? ⟨g4, 3, none⟩ = some (.int .i64 x.f3) := (blk_cell BN.out 3).trans rfl
   have n4 : w3.cell? ⟨g4, 4, none⟩ = some (.int .i64 x.f4) := (blk_cell BN.out 4).trans rfl
   have n5 : w3.cell? ⟨g4, 5, none⟩ = some (.string x.f5) := (blk_cell BN.out 5).trans rfl
   have n6 : w3.cell? ⟨g4, 6, none⟩ = some (.slice A6 x.f6.length c6) := (blk_cell BN.out 6).trans rfl
   have HPV3 : Hid (bz = true → 0 ≤ wrap64 ((i : Int) - 1) ∧ wrap64 ((i : Int) - 1) < (l.length : Int) ∧ w3.cell? (ad.add ((wrap64 ((i : Int) - 1)).toNat * 7)) = some (.int .i64 (rd_T44 l (wrap64 ((i : Int) - 1))).f0)) := Lib.hid (fun h => ⟨(HPV.out h).1, (HPV.out h).2.1, cellB (HPV.out h).2.2 HB3.out⟩)
   clear HPV
   rcases hcase with ⟨hna, hbad⟩ | ⟨hna, rfl, rfl, hgood⟩
   ·
    have HC8 : Hid (chk l a1 = 80) := Lib.hid (nodes_bad HLT.out hna)
    rcases hbad with rfl | ⟨rfl, rfl⟩ | ⟨rfl, rfl, rfl, rfl⟩
    all_goals
     (try have hbv1 := hbv rfl)
     (try (have q0 : decide (0 ≤ wrap64 ((i : Int) - 1)) = true := decide_eq_true (HPV3.out rfl).1))
     (try (have q1 : decide (wrap64 ((i : Int) - 1) < (l.length : Int)) = true := decide_eq_true (HPV3.out rfl).2.1))
     (have hpv := HPV3.out; (try have q2 := eq_true (hpv rfl).1); (try have q3 := eq_true (hpv rfl).2.1))
     refine start_ (n := 26) (S := (fun w' => w'.cell? ⟨g4, 0, none⟩ = some (.int .i64 x.f0) ∧ w'.cell? ⟨g4, 1, none⟩ = some (.int .i64 x.f1) ∧ w'.cell? ⟨g4, 2, none⟩ = some (.int .i64 x.f2) ∧ w'.cell? ⟨g4, 3, none⟩ = some (.int .i64 x.f3) ∧ w'.cell? ⟨g4, 4, none⟩ = some (.int .i64 x.f4) ∧ w'.cell? ⟨g4, 5, none⟩ = some (.string x.f5) ∧ w'.cell? ⟨g4, 6, none⟩ = some (.slice A6 x.f6.length c6) ∧ w'.cell? ⟨g1, 0, none⟩ = some (.slice (some ad) l.length c) ∧ w'.cell? ⟨g1, 1, none⟩ = some (.int .i64 a1) ∧ (_ = true → w'.cell? (ad.add ((wrap64 ((i : Int) - 1)).toNat * 7)) = some (.int .i64 (rd_T44 l (wrap64 ((i : Int) - 1))).f0)))) (ds := []) #[false, false, false, false, false, false, false, false, false, false, false, false, false, false, false, false, false, false, false, false, false, false, false, false, false, false] (by kernel_rfl) rfl rfl ⟨n0, n1, n2, n3, n4, n5, n6, d0, d1, fun h => (hpv h).2.2⟩ (fun hHeld => ?_)
     (have HBD := Lib.hid (below_step HB3.out (Below.refl _ w3).drew); have CD := Lib.hid (blk_below C1.out (Below.refl _ w3).drew); clear hpv n0 n1 n2 n3 n4 n5 n6 d0 d1 HPV3 C1 HB3 BN; generalize World.drew _ = wd at HBD CD hHeld ⊢)
     iterate 1 (first | ((first | refine takeS_ 0 (N := some 47) (v := ?_) (a' := ?_) rfl rfl (by decide +kernel) (fun _ _ _ h => h) (Or.inl ⟨by rfl, ?_⟩) hHeld ?_ ?_); rotate_left; (rintro w' ⟨s0, s1, s2, s3, s4, s5, s6, t0, t1, sp⟩; go_simp; first | done | (with_reducible rfl) | rfl); rotate_left; (simp only [Act.put, List.setIfInBounds_toArray, List.set_cons_zero, List.set_cons_succ, i64_w, i32_w]; rfl)) | ((first | refine takeS_ 0 (N := some 47) (v := undef) (a' := ?_) rfl rfl (by decide +kernel) (fun _ _ _ h => h) (Or.inr ⟨by rfl, rfl⟩) hHeld ?_ ?_); rotate_left; (simp only [Act.put, List.setIfInBounds_toArray, List.set_cons_zero, List.set_cons_succ, i64_w, i32_w]; rfl)))
     refine oneS_ 1 (N := some 48) rfl rfl (by kernel_rfl) (by decide) (fun K hK => ?_)
     refine goes_ Tryd.func58 (by kernel_rfl) rfl #[.agg #[.int .i64 x.f0, .int .i64 x.f1, .int .i64 x.f2, .int .i64 x.f3, .int .i64 x.f4, .string x.f5, .slice A6 x.f6.length c6]] (by rfl) rfl rfl (by first | rfl | (simp [Act.eval]; done) | (simp [Act.eval, Act.put]; done)) ?_
     refine (tree_plain.calls _ x.f0 x.f1 x.f2 x.f3 x.f4 x.f5 A6 c6 x.f6 _ _ (Kd.C_below HRE.out HBD.out) HCE.out HPL.out).mono ?_
     (rintro e w5 ⟨rfl, hb5⟩; have HB5 := Lib.hid (below_step HBD.out hb5); have C5 := Lib.hid (blk_below CD.out hb5))
     refine ⟨_, rfl, ?_⟩
     refine hK.out _ _ (by obtain ⟨s0, s1, s2, s3, s4, s5, s6, t0, t1, sp⟩ := hHeld; exact ⟨cellB s0 hb5, cellB s1 hb5, cellB s2 hb5, cellB s3 hb5, cellB s4 hb5, cellB s5 hb5, cellB s6 hb5, cellB t0 hb5, cellB t1 hb5, fun h => cellB (sp h) hb5⟩) (fun hHeld => ?_)
     clear hK K
     refine norm_ (a' := ?_) ?_ ?_
     rotate_left
     ·
      show Act.put _ (some 48) _ = _
      simp only [Act.put, List.setIfInBounds_toArray, List.set_cons_zero, List.set_cons_succ, i64_w, i32_w]
      rfl
     iterate 5 (first | ((first | refine takeS_ 2 (N := some 49) (v := ?_) (a' := ?_) rfl rfl (by decide +kernel) (fun _ _ _ h => h) (Or.inl ⟨by rfl, ?_⟩) hHeld ?_ ?_ | refine takeS_ 3 (N := some 50) (v := ?_) (a' := ?_) rfl rfl (by decide +kernel) (fun _ _ _ h => h) (Or.inl ⟨by rfl, ?_⟩) hHeld ?_ ?_ | refine takeS_ 4 (N := some 51) (v := ?_) (a' := ?_) rfl rfl (by decide +kernel) (fun _ _ _ h => h) (Or.inl ⟨by rfl, ?_⟩) hHeld ?_ ?_ | refine takeS_ 5 (N := some 52) (v := ?_) (a' := ?_) rfl rfl (by decide +kernel) (fun _ _ _ h => h) (Or.inl ⟨by rfl, ?_⟩) hHeld ?_ ?_ | refine takeS_ 6 (N := some 53) (v := ?_) (a' := ?_) rfl rfl (by decide +kernel) (fun _ _ _ h => h) (Or.inl ⟨by rfl, ?_⟩) hHeld ?_ ?_); rotate_left; (rintro w' ⟨s0, s1, s2, s3, s4, s5, s6, t0, t1, sp⟩; (try have sp := sp rfl); go_simp; first | done | (with_reducible rfl) | rfl); rotate_left; (simp only [Act.put, List.setIfInBounds_toArray, List.set_cons_zero, List.set_cons_succ, i64_w, i32_w]; rfl)) | ((first | refine takeS_ 2 (N := some 49) (v := undef) (a' := ?_) rfl rfl (by decide +kernel) (fun _ _ _ h => h) (Or.inr ⟨by rfl, rfl⟩) hHeld ?_ ?_ | refine takeS_ 3 (N := some 50) (v := undef) (a' := ?_) rfl rfl (by decide +kernel) (fun _ _ _ h => h) (Or.inr ⟨by rfl, rfl⟩) hHeld ?_ ?_ | refine takeS_ 4 (N := some 51) (v := undef) (a' := ?_) rfl rfl (by decide +kernel) (fun _ _ _ h => h) (Or.inr ⟨by rfl, rfl⟩) hHeld ?_ ?_ | refine takeS_ 5 (N := some 52) (v := undef) (a' := ?_) rfl rfl (by decide +kernel) (fun _ _ _ h => h) (Or.inr ⟨by rfl, rfl⟩) hHeld ?_ ?_ | refine takeS_ 6 (N := some 53) (v := undef) (a' := ?_) rfl rfl (by decide +kernel) (fun _ _ _ h => h) (Or.inr ⟨by rfl, rfl⟩) hHeld ?_ ?_); rotate_left; (simp only [Act.put, List.setIfInBounds_toArray, List.set_cons_zero, List.set_cons_succ, i64_w, i32_w]; rfl)))
     iterate 5 (first | ((first | refine takeS_ 7 (N := some 54) (v := ?_) (a' := ?_) rfl rfl (by decide +kernel) (fun _ _ _ h => h) (Or.inl ⟨by rfl, ?_⟩) hHeld ?_ ?_ | refine takeS_ 8 (N := some 55) (v := ?_) (a' := ?_) rfl rfl (by decide +kernel) (fun _ _ _ h => h) (Or.inl ⟨by rfl, ?_⟩) hHeld ?_ ?_ | refine takeS_ 9 (N := some 56) (v := ?_) (a' := ?_) rfl rfl (by decide +kernel) (fun _ _ _ h => h) (Or.inl ⟨by rfl, ?_⟩) hHeld ?_ ?_ | refine takeS_ 10 (N := some 57) (v := ?_) (a' := ?_) rfl rfl (by decide +kernel) (fun _ _ _ h => h) (Or.inl ⟨by rfl, ?_⟩) hHeld ?_ ?_ | refine takeS_ 11 (N := some 58) (v := ?_) (a' := ?_) rfl rfl (by decide +kernel) (fun _ _ _ h => h) (Or.inl ⟨by rfl, ?_⟩) hHeld ?_ ?_); rotate_left; (rintro w' ⟨s0, s1, s2, s3, s4, s5, s6, t0, t1, sp⟩; (try have sp := sp rfl); go_simp; first | done | (with_reducible rfl) | rfl); rotate_left; (simp only [Act.put, List.setIfInBounds_toArray, List.set_cons_zero, List.set_cons_succ, i64_w, i32_w]; rfl)) | ((first | refine takeS_ 7 (N := some 54) (v := undef) (a' := ?_) rfl rfl (by decide +kernel) (fun _ _ _ h => h) (Or.inr ⟨by rfl, rfl⟩) hHeld ?_ ?_ | refine takeS_ 8 (N := some 55) (v := undef) (a' := ?_) rfl rfl (by decide +kernel) (fun _ _ _ h => h) (Or.inr ⟨by rfl, rfl⟩) hHeld ?_ ?_ | refine takeS_ 9 (N := some 56) (v := undef) (a' := ?_) rfl rfl (by decide +kernel) (fun _ _ _ h => h) (Or.inr ⟨by rfl, rfl⟩) hHeld ?_ ?_ | refine takeS_ 10 (N := some 57) (v := undef) (a' := ?_) rfl rfl (by decide +kernel) (fun _ _ _ h => h) (Or.inr ⟨by rfl, rfl⟩) hHeld ?_ ?_ | refine takeS_ 11 (N := some 58) (v := undef) (a' := ?_) rfl rfl (by decide +kernel) (fun _ _ _ h => h) (Or.inr ⟨by rfl, rfl⟩) hHeld ?_ ?_); rotate_left; (simp only [Act.put, List.setIfInBounds_toArray, List.set_cons_zero, List.set_cons_succ, i64_w, i32_w]; rfl)))
     iterate 5 (first | ((first | refine takeS_ 12 (N := some 59) (v := ?_) (a' := ?_) rfl rfl (by decide +kernel) (fun _ _ _ h => h) (Or.inl ⟨by rfl, ?_⟩) hHeld ?_ ?_ | refine takeS_ 13 (N := some 60) (v := ?_) (a' := ?_) rfl rfl (by decide +kernel) (fun _ _ _ h => h) (Or.inl ⟨by rfl, ?_⟩) hHeld ?_ ?_ | refine takeS_ 14 (N := some 61) (v := ?_) (a' := ?_) rfl rfl (by decide +kernel) (fun _ _ _ h => h) (Or.inl ⟨by rfl, ?_⟩) hHeld ?_ ?_ | refine takeS_ 15 (N := some 62) (v := ?_) (a' := ?_) rfl rfl (by decide +kernel) (fun _ _ _ h => h) (Or.inl ⟨by rfl, ?_⟩) hHeld ?_ ?_ | refine takeS_ 16 (N := some 63) (v := ?_) (a' := ?_) rfl rfl (by decide +kernel) (fun _ _ _ h => h) (Or.inl ⟨by rfl, ?_⟩) hHeld ?_ ?_); rotate_left; (rintro w' ⟨s0, s1, s2, s3, s4, s5, s6, t0, t1, sp⟩; (try have sp := sp rfl); go_simp; first | done | (with_reducible rfl) | rfl); rotate_left; (simp only [Act.put, List.setIfInBounds_toArray, List.set_cons_zero, List.set_cons_succ, i64_w, i32_w]; rfl)) | ((first | refine takeS_ 12 (N := some 59) (v := undef) (a' := ?_) rfl rfl (by decide +kernel) (fun _ _ _ h => h) (Or.inr ⟨by rfl, rfl⟩) hHeld ?_ ?_ | refine takeS_ 13 (N := some 60) (v := undef) (a' := ?_) rfl rfl (by decide +kernel) (fun _ _ _ h => h) (Or.inr ⟨by rfl, rfl⟩) hHeld ?_ ?_ | refine takeS_ 14 (N := some 61) (v := undef) (a' := ?_) rfl rfl (by decide +kernel) (fun _ _ _ h => h) (Or.inr ⟨by rfl, rfl⟩) hHeld ?_ ?_ | refine takeS_ 15 (N := some 62) (v := undef) (a' := ?_) rfl rfl (by decide +kernel) (fun _ _ _ h => h) (Or.inr ⟨by rfl, rfl⟩) hHeld ?_ ?_ | refine takeS_ 16 (N := some 63) (v := undef) (a' := ?_) rfl rfl (by decide +kernel) (fun _ _ _ h => h) (Or.inr ⟨by rfl, rfl⟩) hHeld ?_ ?_); rotate_left; (simp only [Act.put, List.setIfInBounds_toArray, List.set_cons_zero, List.set_cons_succ, i64_w, i32_w]; rfl)))
     iterate 5 (first | ((first | refine takeS_ 17 (N := some 64) (v := ?_) (a' := ?_) rfl rfl (by decide +kernel) (fun _ _ _ h => h) (Or.inl ⟨by rfl, ?_⟩) hHeld ?_ ?_ | refine takeS_ 18 (N := some 65) (v := ?_) (a' := ?_) rfl rfl (by decide +kernel) (fun _ _ _ h => h) (Or.inl ⟨by rfl, ?_⟩) hHeld ?_ ?_ | refine takeS_ 19 (N := some 66) (v := ?_) (a' := ?_) rfl rfl (by decide +kernel) (fun _ _ _ h => h) (Or.inl ⟨by rfl, ?_⟩) hHeld ?_ ?_ | refine takeS_ 20 (N := some 67) (v := ?_) (a' := ?_) rfl rfl (by decide +kernel) (fun _ _ _ h => h) (Or.inl ⟨by rfl, ?_⟩) hHeld ?_ ?_ | refine takeS_ 21 (N := some 68) (v := ?_) (a' := ?_) rfl rfl (by decide +kernel) (fun _ _ _ h => h) (Or.inl ⟨by rfl, ?_⟩) hHeld ?_ ?_); rotate_left; (rintro w' ⟨s0, s1, s2, s3, s4, s5, s6, t0, t1, sp⟩; (try have sp := sp rfl); go_simp; first | done | (with_reducible rfl) | rfl); rotate_left; (simp only [Act.put, List.setIfInBounds_toArray, List.set_cons_zero, List.set_cons_succ, i64_w, i32_w]; rfl)) | ((first | refine takeS_ 17 (N := some 64) (v := undef) (a' := ?_) rfl rfl (by decide +kernel) (fun _ _ _ h => h) (Or.inr ⟨by rfl, rfl⟩) hHeld ?_ ?_ | refine takeS_ 18 (N := some 65) (v := undef) (a' := ?_) rfl rfl (by decide +kernel) (fun _ _ _ h => h) (Or.inr ⟨by rfl, rfl⟩) hHeld ?_ ?_ | refine takeS_ 19 (N := some 66) (v := undef) (a' := ?_) rfl rfl (by decide +kernel) (fun _ _ _ h => h) (Or.inr ⟨by rfl, rfl⟩) hHeld ?_ ?_ | refine takeS_ 20 (N := some 67) (v := undef) (a' := ?_) rfl rfl (by decide +kernel) (fun _ _ _ h => h) (Or.inr ⟨by rfl, rfl⟩) hHeld ?_ ?_ | refine takeS_ 21 (N := some 68) (v := undef) (a' := ?_) rfl rfl (by decide +kernel) (fun _ _ _ h => h) (Or.inr ⟨by rfl, rfl⟩) hHeld ?_ ?_); rotate_left; (simp only [Act.put, List.setIfInBounds_toArray, List.set_cons_zero, List.set_cons_succ, i64_w, i32_w]; rfl)))
     iterate 4 (first | ((first | refine takeS_ 22 (N := some 69) (v := ?_) (a' := ?_) rfl rfl (by decide +kernel) (fun _ _ _ h => h) (Or.inl ⟨by rfl, ?_⟩) hHeld ?_ ?_ | refine takeS_ 23 (N := some 70) (v := ?_) (a' := ?_) rfl rfl (by decide +kernel) (fun _ _ _ h => h) (Or.inl ⟨by rfl, ?_⟩) hHeld ?_ ?_ | refine takeS_ 24 (N := some 71) (v := ?_) (a' := ?_) rfl rfl (by decide +kernel) (fun _ _ _ h => h) (Or.inl ⟨by rfl, ?_⟩) hHeld ?_ ?_ | refine takeS_ 25 (N := some 72) (v := ?_) (a' := ?_) rfl rfl (by decide +kernel) (fun _ _ _ h => h) (Or.inl ⟨by rfl, ?_⟩) hHeld ?_ ?_); rotate_left; (rintro w' ⟨s0, s1, s2, s3, s4, s5, s6, t0, t1, sp⟩; (try have sp := sp rfl); go_simp; first | done | (with_reducible rfl) | rfl); rotate_left; (simp only [Act.put, List.setIfInBounds_toArray, List.set_cons_zero, List.set_cons_succ, i64_w, i32_w]; rfl)) | ((first | refine takeS_ 22 (N := some 69) (v := undef) (a' := ?_) rfl rfl (by decide +kernel) (fun _ _ _ h => h) (Or.inr ⟨by rfl, rfl⟩) hHeld ?_ ?_ | refine takeS_ 23 (N := some 70) (v := undef) (a' := ?_) rfl rfl (by decide +kernel) (fun _ _ _ h => h) (Or.inr ⟨by rfl, rfl⟩) hHeld ?_ ?_ | refine takeS_ 24 (N := some 71) (v := undef) (a' := ?_) rfl rfl (by decide +kernel) (fun _ _ _ h => h) (Or.inr ⟨by rfl, rfl⟩) hHeld ?_ ?_ | refine takeS_ 25 (N := some 72) (v := undef) (a' := ?_) rfl rfl (by decide +kernel) (fun _ _ _ h => h) (Or.inr ⟨by rfl, rfl⟩) hHeld ?_ ?_); rotate_left; (simp only [Act.put, List.setIfInBounds_toArray, List.set_cons_zero, List.set_cons_succ, i64_w, i32_w]; rfl)))
     refine done_ (by kernel_rfl) ?_
     go_wp2
     go_ret
     exact ⟨by rw [HC8.out]; rfl, HB5.out⟩
   ·
    rcases hgood with rfl | ⟨rfl, rfl⟩
    all_goals
     (try have hbv1 := hbv rfl)
     (try (have q0 : decide (0 ≤ wrap64 ((i : Int) - 1)) = true := decide_eq_true (HPV3.out rfl).1))
     (try (have q1 : decide (wrap64 ((i : Int) - 1) < (l.length : Int)) = true := decide_eq_true (HPV3.out rfl).2.1))
     (have hpv := HPV3.out; (try have q2 := eq_true (hpv rfl).1); (try have q3 := eq_true (hpv rfl).2.1))
     refine start_ (n := 26) (S := (fun w' => w'.cell? ⟨g4, 0, none⟩ = some (.int .i64 x.f0) ∧ w'.cell? ⟨g4, 1, none⟩ = some (.int .i64 x.f1) ∧ w'.cell? ⟨g4, 2, none⟩ = some (.int .i64 x.f2) ∧ w'.cell? ⟨g4, 3, none⟩ = some (.int .i64 x.f3) ∧ w'.cell? ⟨g4, 4, none⟩ = some (.int .i64 x.f4) ∧ w'.cell? ⟨g4, 5, none⟩ = some (.string x.f5) ∧ w'.cell? ⟨g4, 6, none⟩ = some (.slice A6 x.f6.length c6) ∧ w'.cell? ⟨g1, 0, none⟩ = some (.slice (some ad) l.length c) ∧ w'.cell? ⟨g1, 1, none⟩ = some (.int .i64 a1) ∧ (_ = true → w'.cell? (ad.add ((wrap64 ((i : Int) - 1)).toNat * 7)) = some (.int .i64 (rd_T44 l (wrap64 ((i : Int) - 1))).f0)))) (ds := []) #[false, false, false, false, false, false, false, false, false, false, false, false, false, false, false, false, false, false, false, false, false, false, false, false, false, false] (by kernel_rfl) rfl rfl ⟨n0, n1, n2, n3, n4, n5, n6, d0, d1, fun h => (hpv h).2.2⟩ (fun hHeld => ?_)
     (have HBD := Lib.hid (below_step HB3.out (Below.refl _ w3).drew); have CD := Lib.hid (blk_below C1.out (Below.refl _ w3).drew); clear hpv n0 n1 n2 n3 n4 n5 n6 d0 d1 HPV3 C1 HB3 BN; generalize World.drew _ = wd at HBD CD hHeld ⊢)
     iterate 1 (first | ((first | refine takeS_ 0 (N := some 47) (v := ?_) (a' := ?_) rfl rfl (by decide +kernel) (fun _ _ _ h => h) (Or.inl ⟨by rfl, ?_⟩) hHeld ?_ ?_); rotate_left; (rintro w' ⟨s0, s1, s2, s3, s4, s5, s6, t0, t1, sp⟩; go_simp; first | done | (with_reducible rfl) | rfl); rotate_left; (simp only [Act.put, List.setIfInBounds_toArray, List.set_cons_zero, List.set_cons_succ, i64_w, i32_w]; rfl)) | ((first | refine takeS_ 0 (N := some 47) (v := undef) (a' := ?_) rfl rfl (by decide +kernel) (fun _ _ _ h => h) (Or.inr ⟨by rfl, rfl⟩) hHeld ?_ ?_); rotate_left; (simp only [Act.put, List.setIfInBounds_toArray, List.set_cons_zero, List.set_cons_succ, i64_w, i32_w]; rfl)))
     refine oneS_ 1 (N := some 48) rfl rfl (by kernel_rfl) (by decide) (fun K hK => ?_)
     refine goes_ Tryd.func58 (by kernel_rfl) rfl #[.agg #[.int .i64 x.f0, .int .i64 x.f1, .int .i64 x.f2, .int .i64 x.f3, .int .i64 x.f4, .string x.f5, .slice A6 x.f6.length c6]] (by rfl) rfl rfl (by first | rfl | (simp [Act.eval]; done) | (simp [Act.eval, Act.put]; done)) ?_
     refine (tree_plain.calls _ x.f0 x.f1 x.f2 x.f3 x.f4 x.f5 A6 c6 x.f6 _ _ (Kd.C_below HRE.out HBD.out) HCE.out HPL.out).mono ?_
     (rintro e w5 ⟨rfl, hb5⟩; have HB5 := Lib.hid (below_step HBD.out hb5); have C5 := Lib.hid (blk_below CD.out hb5))
     refine ⟨_, rfl, ?_⟩
     refine hK.out _ _ (by obtain ⟨s0, s1, s2, s3, s4, s5, s6, t0, t1, sp⟩ := hHeld; exact ⟨cellB s0 hb5, cellB s1 hb5, cellB s2 hb5, cellB s3 hb5, cellB s4 hb5, cellB s5 hb5, cellB s6 hb5, cellB t0 hb5, cellB t1 hb5, fun h => cellB (sp h) hb5⟩) (fun hHeld => ?_)
     clear hK K
     refine norm_ (a' := ?_) ?_ ?_
     rotate_left
     ·
      show Act.put _ (some 48) _ = _
      simp only [Act.put, List.setIfInBounds_toArray, List.set_cons_zero, List.set_cons_succ, i64_w, i32_w]
      rfl
     iterate 5 (first | ((first | refine takeS_ 2 (N := some 49) (v := ?_) (a' := ?_) rfl rfl (by decide +kernel) (fun _ _ _ h => h) (Or.inl ⟨by rfl, ?_⟩) hHeld ?_ ?_ | refine takeS_ 3 (N := some 50) (v := ?_) (a' := ?_) rfl rfl (by decide +kernel) (fun _ _ _ h => h) (Or.inl ⟨by rfl, ?_⟩) hHeld ?_ ?_ | refine takeS_ 4 (N := some 51) (v := ?_) (a' := ?_) rfl rfl (by decide +kernel) (fun _ _ _ h => h) (Or.inl ⟨by rfl, ?_⟩) hHeld ?_ ?_ | refine takeS_ 5 (N := some 52) (v := ?_) (a' := ?_) rfl rfl (by decide +kernel) (fun _ _ _ h => h) (Or.inl ⟨by rfl, ?_⟩) hHeld ?_ ?_ | refine takeS_ 6 (N := some 53) (v := ?_) (a' := ?_) rfl rfl (by decide +kernel) (fun _ _ _ h => h) (Or.inl ⟨by rfl, ?_⟩) hHeld ?_ ?_); rotate_left; (rintro w' ⟨s0, s1, s2, s3, s4, s5, s6, t0, t1, sp⟩; (try have sp := sp rfl); go_simp; first | done | (with_reducible rfl) | rfl); rotate_left; (simp only [Act.put, List.setIfInBounds_toArray, List.set_cons_zero, List.set_cons_succ, i64_w, i32_w]; rfl)) | ((first | refine takeS_ 2 (N := some 49) (v := undef) (a' := ?_) rfl rfl (by decide +kernel) (fun _ _ _ h => h) (Or.inr ⟨by rfl, rfl⟩) hHeld ?_ ?_ | refine takeS_ 3 (N := some 50) (v := undef) (a' := ?_) rfl rfl (by decide +kernel) (fun _ _ _ h => h) (Or.inr ⟨by rfl, rfl⟩) hHeld ?_ ?_ | refine takeS_ 4 (N := some 51) (v := undef) (a' := ?_) rfl rfl (by decide +kernel) (fun _ _ _ h => h) (Or.inr ⟨by rfl, rfl⟩) hHeld ?_ ?_ | refine takeS_ 5 (N := some 52) (v := undef) (a' := ?_) rfl rfl (by decide +kernel) (fun _ _ _ h => h) (Or.inr ⟨by rfl, rfl⟩) hHeld ?_ ?_ | refine takeS_ 6 (N := some 53) (v := undef) (a' := ?_) rfl rfl (by decide +kernel) (fun _ _ _ h => h) (Or.inr ⟨by rfl, rfl⟩) hHeld ?_ ?_); rotate_left; (simp only [Act.put, List.setIfInBounds_toArray, List.set_cons_zero, List.set_cons_succ, i64_w, i32_w]; rfl)))
     iterate 5 (first | ((first | refine takeS_ 7 (N := some 54) (v := ?_) (a' := ?_) rfl rfl (by decide +kernel) (fun _ _ _ h => h) (Or.inl ⟨by rfl, ?_⟩) hHeld ?_ ?_ | refine takeS_ 8 (N := some 55) (v := ?_) (a' := ?_) rfl rfl (by decide +kernel) (fun _ _ _ h => h) (Or.inl ⟨by rfl, ?_⟩) hHeld ?_ ?_ | refine takeS_ 9 (N := some 56) (v := ?_) (a' := ?_) rfl rfl (by decide +kernel) (fun _ _ _ h => h) (Or.inl ⟨by rfl, ?_⟩) hHeld ?_ ?_ | refine takeS_ 10 (N := some 57) (v := ?_) (a' := ?_) rfl rfl (by decide +kernel) (fun _ _ _ h => h) (Or.inl ⟨by rfl, ?_⟩) hHeld ?_ ?_ | refine takeS_ 11 (N := some 58) (v := ?_) (a' := ?_) rfl rfl (by decide +kernel) (fun _ _ _ h => h) (Or.inl ⟨by rfl, ?_⟩) hHeld ?_ ?_); rotate_left; (rintro w' ⟨s0, s1, s2, s3, s4, s5, s6, t0, t1, sp⟩; (try have sp := sp rfl); go_simp; first | done | (with_reducible rfl) | rfl); rotate_left; (simp only [Act.put, List.setIfInBounds_toArray, List.set_cons_zero, List.set_cons_succ, i64_w, i32_w]; rfl)) | ((first | refine takeS_ 7 (N := some 54) (v := undef) (a' := ?_) rfl rfl (by decide +kernel) (fun _ _ _ h => h) (Or.inr ⟨by rfl, rfl⟩) hHeld ?_ ?_ | refine takeS_ 8 (N := some 55) (v := undef) (a' := ?_) rfl rfl (by decide +kernel) (fun _ _ _ h => h) (Or.inr ⟨by rfl, rfl⟩) hHeld ?_ ?_ | refine takeS_ 9 (N := some 56) (v := undef) (a' := ?_) rfl rfl (by decide +kernel) (fun _ _ _ h => h) (Or.inr ⟨by rfl, rfl⟩) hHeld ?_ ?_ | refine takeS_ 10 (N := some 57) (v := undef) (a' := ?_) rfl rfl (by decide +kernel) (fun _ _ _ h => h) (Or.inr ⟨by rfl, rfl⟩) hHeld ?_ ?_ | refine takeS_ 11 (N := some 58) (v := undef) (a' := ?_) rfl rfl (by decide +kernel) (fun _ _ _ h => h) (Or.inr ⟨by rfl, rfl⟩) hHeld ?_ ?_); rotate_left; (simp only [Act.put, List.setIfInBounds_toArray, List.set_cons_zero, List.set_cons_succ, i64_w, i32_w]; rfl)))
     iterate 5 (first | ((first | refine takeS_ 12 (N := some 59) (v := ?_) (a' := ?_) rfl rfl (by decide +kernel) (fun _ _ _ h => h) (Or.inl ⟨by rfl, ?_⟩) hHeld ?_ ?_ | refine takeS_ 13 (N := some 60) (v := ?_) (a' := ?_) rfl rfl (by decide +kernel) (fun _ _ _ h => h) (Or.inl ⟨by rfl, ?_⟩) hHeld ?_ ?_ | refine takeS_ 14 (N := some 61) (v := ?_) (a' := ?_) rfl rfl (by decide +kernel) (fun _ _ _ h => h) (Or.inl ⟨by rfl, ?_⟩) hHeld ?_ ?_ | refine takeS_ 15 (N := some 62) (v := ?_) (a' := ?_) rfl rfl (by decide +kernel) (fun _ _ _ h => h) (Or.inl ⟨by rfl, ?_⟩) hHeld ?_ ?_ | refine takeS_ 16 (N := some 63) (v := ?_) (a' := ?_) rfl rfl (by decide +kernel) (fun _ _ _ h => h) (Or.inl ⟨by rfl, ?_⟩) hHeld ?_ ?_); rotate_left; (rintro w' ⟨s0, s1, s2, s3, s4, s5, s6, t0, t1, sp⟩; (try have sp := sp rfl); go_simp; first | done | (with_reducible rfl) | rfl); rotate_left; (simp only [Act.put, List.setIfInBounds_toArray, List.set_cons_zero, List.set_cons_succ, i64_w, i32_w]; rfl)) | ((first | refine takeS_ 12 (N := some 59) (v := undef) (a' := ?_) rfl rfl (by decide +kernel) (fun _ _ _ h => h) (Or.inr ⟨by rfl, rfl⟩) hHeld ?_ ?_ | refine takeS_ 13 (N := some 60) (v := undef) (a' := ?_) rfl rfl (by decide +kernel) (fun _ _ _ h => h) (Or.inr ⟨by rfl, rfl⟩) hHeld ?_ ?_ | refine takeS_ 14 (N := some 61) (v := undef) (a' := ?_) rfl rfl (by decide +kernel) (fun _ _ _ h => h) (Or.inr ⟨by rfl, rfl⟩) hHeld ?_ ?_ | refine takeS_ 15 (N := some 62) (v := undef) (a' := ?_) rfl rfl (by decide +kernel) (fun _ _ _ h => h) (Or.inr ⟨by rfl, rfl⟩) hHeld ?_ ?_ | refine takeS_ 16 (N := some 63) (v := undef) (a' := ?_) rfl rfl (by decide +kernel) (fun _ _ _ h => h) (Or.inr ⟨by rfl, rfl⟩) hHeld ?_ ?_); rotate_left; (simp only [Act.put, List.setIfInBounds_toArray, List.set_cons_zero, List.set_cons_succ, i64_w, i32_w]; rfl)))
     iterate 5 (first | ((first | refine takeS_ 17 (N := some 64) (v := ?_) (a' := ?_) rfl rfl (by decide +kernel) (fun _ _ _ h => h) (Or.inl ⟨by rfl, ?_⟩) hHeld ?_ ?_ | refine takeS_ 18 (N := some 65) (v := ?_) (a' := ?_) rfl rfl (by decide +kernel) (fun _ _ _ h => h) (Or.inl ⟨by rfl, ?_⟩) hHeld ?_ ?_ | refine takeS_ 19 (N := some 66) (v := ?_) (a' := ?_) rfl rfl (by decide +kernel) (fun _ _ _ h => h) (Or.inl ⟨by rfl, ?_⟩) hHeld ?_ ?_ | refine takeS_ 20 (N := some 67) (v := ?_) (a' := ?_) rfl rfl (by decide +kernel) (fun _ _ _ h => h) (Or.inl ⟨by rfl, ?_⟩) hHeld ?_ ?_ | refine takeS_ 21 (N := some 68) (v := ?_) (a' := ?_) rfl rfl (by decide +kernel) (fun _ _ _ h => h) (Or.inl ⟨by rfl, ?_⟩) hHeld ?_ ?_); rotate_left; (rintro w' ⟨s0, s1, s2, s3, s4, s5, s6, t0, t1, sp⟩; (try have sp := sp rfl); go_simp; first | done | (with_reducible rfl) | rfl); rotate_left; (simp only [Act.put, List.setIfInBounds_toArray, List.set_cons_zero, List.set_cons_succ, i64_w, i32_w]; rfl)) | ((first | refine takeS_ 17 (N := some 64) (v := undef) (a' := ?_) rfl rfl (by decide +kernel) (fun _ _ _ h => h) (Or.inr ⟨by rfl, rfl⟩) hHeld ?_ ?_ | refine takeS_ 18 (N := some 65) (v := undef) (a' := ?_) rfl rfl (by decide +kernel) (fun _ _ _ h => h) (Or.inr ⟨by rfl, rfl⟩) hHeld ?_ ?_ | refine takeS_ 19 (N := some 66) (v := undef) (a' := ?_) rfl rfl (by decide +kernel) (fun _ _ _ h => h) (Or.inr ⟨by rfl, rfl⟩) hHeld ?_ ?_ | refine takeS_ 20 (N := some 67) (v := undef) (a' := ?_) rfl rfl (by decide +kernel) (fun _ _ _ h => h) (Or.inr ⟨by rfl, rfl⟩) hHeld ?_ ?_ | refine takeS_ 21 (N := some 68) (v := undef) (a' := ?_) rfl rfl (by decide +kernel) (fun _ _ _ h => h) (Or.inr ⟨by rfl, rfl⟩) hHeld ?_ ?_); rotate_left; (simp only [Act.put, List.setIfInBounds_toArray, List.set_cons_zero, List.set_cons_succ, i64_w, i32_w]; rfl)))
     iterate 4 (first | ((first | refine takeS_ 22 (N := some 69) (v := ?_) (a' := ?_) rfl rfl (by decide +kernel) (fun _ _ _ h => h) (Or.inl ⟨by rfl, ?_⟩) hHeld ?_ ?_ | refine takeS_ 23 (N := some 70) (v := ?_) (a' := ?_) rfl rfl (by decide +kernel) (fun _ _ _ h => h) (Or.inl ⟨by rfl, ?_⟩) hHeld ?_ ?_ | refine takeS_ 24 (N := some 71) (v := ?_) (a' := ?_) rfl rfl (by decide +kernel) (fun _ _ _ h => h) (Or.inl ⟨by rfl, ?_⟩) hHeld ?_ ?_ | refine takeS_ 25 (N := some 72) (v := ?_) (a' := ?_) rfl rfl (by decide +kernel) (fun _ _ _ h => h) (Or.inl ⟨by rfl, ?_⟩) hHeld ?_ ?_); rotate_left; (rintro w' ⟨s0, s1, s2, s3, s4, s5, s6, t0, t1, sp⟩; (try have sp := sp rfl); go_simp; first | done | (with_reducible rfl) | rfl); rotate_left; (simp only [Act.put, List.setIfInBounds_toArray, List.set_cons_zero, List.set_cons_succ, i64_w, i32_w]; rfl)) | ((first | refine takeS_ 22 (N := some 69) (v := undef) (a' := ?_) rfl rfl (by decide +kernel) (fun _ _ _ h => h) (Or.inr ⟨by rfl, rfl⟩) hHeld ?_ ?_ | refine takeS_ 23 (N := some 70) (v := undef) (a' := ?_) rfl rfl (by decide +kernel) (fun _ _ _ h => h) (Or.inr ⟨by rfl, rfl⟩) hHeld ?_ ?_ | refine takeS_ 24 (N := some 71) (v := undef) (a' := ?_) rfl rfl (by decide +kernel) (fun _ _ _ h => h) (Or.inr ⟨by rfl, rfl⟩) hHeld ?_ ?_ | refine takeS_ 25 (N := some 72) (v := undef) (a' := ?_) rfl rfl (by decide +kernel) (fun _ _ _ h => h) (Or.inr ⟨by rfl, rfl⟩) hHeld ?_ ?_); rotate_left; (simp only [Act.put, List.setIfInBounds_toArray, List.set_cons_zero, List.set_cons_succ, i64_w, i32_w]; rfl)))
     refine done_ (by kernel_rfl) ?_
     go_wp2
     go_roundw
     case rel => exact ⟨i + 1, HLT.out, by rw [HWR.out], Lib.hid (fun q hq => by by_cases e : q = i; exact e ▸ hna; exact HP.out q (by omega)), HB5, C5⟩
     case measure => exact meas_ _ _ HWR.out HLT.out
  ·
   obtain rfl : i = l.length := by omega
   have hn : nodesOK l a1 = true := List.all_eq_true.2 (fun q hq => HP.out q (List.mem_range.1 hq))
   have HBF := Lib.hid (chk_bfs HH.out hn)
   have HRI := Lib.hid (rises_of hn)
   have HIN : Hid (TG.Inv (idsL l) (tgts l) (dirL l) 0 [1]) := Lib.hid (TG.inv_start _ _ _ (by obtain ⟨hz, h1⟩ := head_one HH.out; exact mem_ids.2 ⟨_, List.getElem_mem hz, h1⟩))
   clear hi hlt HP hn
   go_wp2_with (first | (refine mp_put rfl (Or.inr rfl) (MapA.made _ KI KI) (keyI Tryd.underlying3) Tryd.underlying75 rfl (1 : Int) (1 : Int) (by rfl) (by rfl) ?_; intro wM hM1 hgM; have hbM := ((Below.refl wr.heap.size wr).alloc (Nat.le_refl _) (.map #[] 0)).grown hgM (by rw [World.size_alloc]; exact Nat.le_succ _) (fun k_ hk_ => by cases hk_; exact Nat.le_refl _); have HB2 := Lib.hid (below_step HB.out hbM); have C2 := Lib.hid (blk_below B1.out hbM); have em := below_size HB.out; clear hgM hbM HB B1; generalize wr.heap.size = gm at hM1 em ⊢; have MP := Lib.hid hM1; have EM := Lib.hid em; clear hM1 em) | ((with_reducible refine gate_dst (N := 76) rfl ?_); (try (refine gate_guard (by rfl) ?_; dsimp only)); refine Kd.R_lit (Kd.int .i64) _ 3 ?hg (N := 76) ?hd (xs := ([1] : List Int)) (inner := [.int .i64 1]) (ok := fun _ => True) (okp := fun _ => True) ?hr ?hp (fun _ hk => hk) trivial (Below.refl _ _) (Nat.le_refl _) (by simp) ?_; (case hd => rfl); (case hg => rfl); (case hr => first | (go_simp; done) | (go_simp; rfl)); (case hp => exact (Reps.one (show Kd.M (Kd.int .i64) _ _ _ 1 [.int .i64 1] from rfl) (Reps.none _ _))); intro v6 w55 ho56 hb hg_ hnew_; have KS : Hid (KSt w w55 g1 gm #[.slice (some ad) l.length c, .int .i64 a1, .int .i64 a2, .int .i64 a3] [(1, 1)] v6 [1]) := Lib.hid ⟨below_step HB2.out hb, blk_below C2.out hb, EM.out, MP.out.below hb, Kd.Q_of_R (Kd.R_lower ho56 (below_size HB2.out))⟩; clear HB2 C2 MP hb hg_ hnew_ ho56; obtain ⟨A6, c6, e6, _⟩ := Kd.Q_slice KS.out.q; subst e6))
   go_loopg [6] (l.length + 2) (fun F s6 wr => ∃ (j : Nat) (keys : List Int) (m : MapD), Hid (KSt w wr g1 gm #[.slice (some ad) l.length c, .int .i64 a1, .int .i64 a2, .int .i64 a3] m s6 (keys.drop j)) ∧ Hid (BInv l F j keys m))
   case atStart => exact ⟨0, [1], [(1, 1)], KS, Lib.hid ⟨rfl, HIN.out, fun k v h => by simp only [getA] at h; split at h <;> cases h; omega, by omega, rfl⟩⟩
   case round =>
    clear KS
    obtain ⟨j, keys, m, HK, HI⟩ := hrel
    cases gk with
    | zero => exact absurd HI.out (binv_zero _ _ _ _)
    | succ F =>
     obtain ⟨A6, c6, e6, _⟩ := Kd.Q_slice HK.out.q
     rw [List.length_drop] at e6
     subst e6
     by_cases hj : j < keys.length
     ·
      have hdl : (keys.drop j).length = keys.length - j := List.length_drop ..
      obtain ⟨t, ht, x, hxt, hxe⟩ := binv_node HI.out HRI.out hj
      obtain ⟨KP, hKP⟩ := place_in l a1 a2 a3 (by have := HLN.out; omega) HRI.out t ht
      have HPL : Hid (tree_place.f KP l a1 a2 a3 keys[j] = some ((t : Int), true)) := Lib.hid (by have := hKP KP (Nat.le_refl _); rw [hxt, hxe] at this; exact this)
      have hxl : x ∈ l := hxt ▸ List.getElem_mem ht
      have hrd : rd_T44 l (t : Int) = x := (rdN l t ht).trans hxt
      have HX : Hid (x.f6.length ≤ 1000000000000) := Lib.hid (HEE.out x hxl)
      have HTG : Hid (tgts l keys[j] = x.f6.map (·.f1)) := Lib.hid (by rw [← hxe, ← hxt]; exact tgts_at HRI.out t ht)
      obtain ⟨ad6, ea6, y0⟩ := Kd.at_int (Kd.Q_reads' HK.out.q).2.2 0 (by omega) (by omega)
      cases ea6
      rw [show ((0 : Int)).toNat = 0 from rfl, Addr.add_zero', show rd (keys.drop j) 0 = keys[j] from by rw [List.drop_eq_getElem_cons hj]; rfl] at y0
      have j0 : decide ((0 : Int) < ((keys.length - j : Nat) : Int)) = true := decide_eq_true (by omega)
      have j1 : decide (0 < keys.length - j) = true := decide_eq_true (by omega)
      have j2 : (0 < keys.length - j) = True := eq_true (by omega)
      have j3 : decide (j < keys.length) = true := decide_eq_true hj
      have HJ := Lib.hid hj
      have HT := Lib.hid ht
      obtain ⟨ad', A5, c5, ea, x0, x1, x2, x3, x4, x5, x6, hl6, hi6⟩ := at_T44 HR0.out (t : Int) (by omega) (by omega)
      cases ea
      rw [hrd] at x6 hl6 hi6
      rw [Int.toNat_natCast] at x6
      clear x0 x1 x2 x3 x4 x5 hKP hrd hxt hxe hxl ht hdl
      have HE6 := Lib.hid hi6
      have HX6 := Lib.hid x6
      clear hi6 hl6 x6
      have d0 : wr.cell? ⟨g1, 0, none⟩ = some (.slice (some ad) l.length c) := (blk_cell HK.out.b1 0).trans rfl
      have d1 : wr.cell? ⟨g1, 1, none⟩ = some (.int .i64 a1) := (blk_cell HK.out.b1 1).trans rfl
      have d2 : wr.cell? ⟨g1, 2, none⟩ = some (.int .i64 a2) := (blk_cell HK.out.b1 2).trans rfl
      have d3 : wr.cell? ⟨g1, 3, none⟩ = some (.int .i64 a3) := (blk_cell HK.out.b1 3).trans rfl
      go_wp2
      refine start_ (n := 10) (S := (fun w' => w'.cell? ⟨g1, 0, none⟩ = some (.slice (some ad) l.length c) ∧ w'.cell? ⟨g1, 1, none⟩ = some (.int .i64 a1) ∧ w'.cell? ⟨g1, 2, none⟩ = some (.int .i64 a2) ∧ w'.cell? ⟨g1, 3, none⟩ = some (.int .i64 a3) ∧ w'.cell? ad6 = some (.int .i64 keys[j]))) (ds := [4]) #[false, false, false, false, false, false, false, false, false, false] (by kernel_rfl) rfl rfl ⟨d0, d1, d2, d3, y0⟩ (fun hHeld => ?_)
      have HK1 := Lib.hid (HK.out.below (Below.refl _ wr).drew)
      clear HK d0 d1 d2 d3 y0
      generalize World.drew _ = wd at HK1 hHeld ⊢
      iterate 4 (first | ((first | refine takeS_ 0 (N := some 83) (v := ?_) (a' := ?_) rfl rfl (by decide +kernel) (fun _ _ _ h => h) (Or.inl ⟨by rfl, ?_⟩) hHeld ?_ ?_ | refine takeS_ 1 (N := some 84) (v := ?_) (a' := ?_) rfl rfl (by decide +kernel) (fun _ _ _ h => h) (Or.inl ⟨by rfl, ?_⟩) hHeld ?_ ?_ | refine takeS_ 2 (N := some 85) (v := ?_) (a' := ?_) rfl rfl (by decide +kernel) (fun _ _ _ h => h) (Or.inl ⟨by rfl, ?_⟩) hHeld ?_ ?_ | refine takeS_ 3 (N := some 86) (v := ?_) (a' := ?_) rfl rfl (by decide +kernel) (fun _ _ _ h => h) (Or.inl ⟨by rfl, ?_⟩) hHeld ?_ ?_); rotate_left; (rintro w' ⟨s0, s1, s2, s3, s4⟩; go_simp; first | done | (with_reducible rfl) | rfl); rotate_left; (simp only [Act.put, List.setIfInBounds_toArray, List.set_cons_zero, List.set_cons_succ, i64_w, i32_w]; rfl)) | ((first | refine takeS_ 0 (N := some 83) (v := undef) (a' := ?_) rfl rfl (by decide +kernel) (fun _ _ _ h => h) (Or.inr ⟨by rfl, rfl⟩) hHeld ?_ ?_ | refine takeS_ 1 (N := some 84) (v := undef) (a' := ?_) rfl rfl (by decide +kernel) (fun _ _ _ h => h) (Or.inr ⟨by rfl, rfl⟩) hHeld ?_ ?_ | refine takeS_ 2 (N := some 85) (v := undef) (a' := ?_) rfl rfl (by decide +kernel) (fun _ _ _ h => h) (Or.inr ⟨by rfl, rfl⟩) hHeld ?_ ?_ | refine takeS_ 3 (N := some 86) (v := undef) (a' := ?_) rfl rfl (by decide +kernel) (fun _ _ _ h => h) (Or.inr ⟨by rfl, rfl⟩) hHeld ?_ ?_); rotate_left; (simp only [Act.put, List.setIfInBounds_toArray, List.set_cons_zero, List.set_cons_succ, i64_w, i32_w]; rfl)))
      refine lastS_ 4 (N := some 87) rfl rfl (by kernel_rfl) (by decide) (fun K hK => ?_)
      refine goes_ Tryd.func59 (by kernel_rfl) rfl #[.agg #[.slice (some ad) l.length c, .int .i64 a1, .int .i64 a2, .int .i64 a3], .int .i64 keys[j]] (by rfl) rfl rfl (by first | rfl | (simp [Act.eval]; done) | (simp [Act.eval, Act.put]; done)) ?_
      refine (tree_place.calls KP _ _ l a1 a2 a3 keys[j] (t : Int) true _ (Kd.C_below HR0.out HK1.out.hb) HC0.out HPL.out).mono ?_
      rintro e w5 ⟨rfl, hb5⟩
      have HK5 := Lib.hid (HK1.out.below hb5)
      clear HK1 hb5
      refine ⟨_, rfl, ?_⟩
      refine hK.out _ _ ?_
      clear hK K
      refine norm_ (a' := ?_) ?_ ?_
      rotate_left
      ·
       show Act.put _ (some 87) _ = _
       simp only [Act.put, List.setIfInBounds_toArray, List.set_cons_zero, List.set_cons_succ, i64_w, i32_w]
       rfl
      iterate 5 (first | ((first | refine pureS_ 5 (N := some 82) (v := ?_) (a' := ?_) rfl rfl (by decide +kernel) (fun _ _ _ h => h) (Or.inl ⟨by rfl, ?_⟩) ?_ ?_ | refine pureS_ 6 (N := some 88) (v := ?_) (a' := ?_) rfl rfl (by decide +kernel) (fun _ _ _ h => h) (Or.inl ⟨by rfl, ?_⟩) ?_ ?_ | refine pureS_ 7 (N := some 89) (v := ?_) (a' := ?_) rfl rfl (by decide +kernel) (fun _ _ _ h => h) (Or.inl ⟨by rfl, ?_⟩) ?_ ?_ | refine pureS_ 8 (N := some 7) (v := ?_) (a' := ?_) rfl rfl (by decide +kernel) (fun _ _ _ h => h) (Or.inl ⟨by rfl, ?_⟩) ?_ ?_ | refine pureS_ 9 (N := some 8) (v := ?_) (a' := ?_) rfl rfl (by decide +kernel) (fun _ _ _ h => h) (Or.inl ⟨by rfl, ?_⟩) ?_ ?_); rotate_left; (intro w'; go_simp; first | done | (with_reducible rfl) | rfl); rotate_left; (simp only [Act.put, List.setIfInBounds_toArray, List.set_cons_zero, List.set_cons_succ, i64_w, i32_w]; rfl)) | ((first | refine pureS_ 5 (N := some 82) (v := undef) (a' := ?_) rfl rfl (by decide +kernel) (fun _ _ _ h => h) (Or.inr ⟨by rfl, rfl⟩) ?_ ?_ | refine pureS_ 6 (N := some 88) (v := undef) (a' := ?_) rfl rfl (by decide +kernel) (fun _ _ _ h => h) (Or.inr ⟨by rfl, rfl⟩) ?_ ?_ | refine pureS_ 7 (N := some 89) (v := undef) (a' := ?_) rfl rfl (by decide +kernel) (fun _ _ _ h => h) (Or.inr ⟨by rfl, rfl⟩) ?_ ?_ | refine pureS_ 8 (N := some 7) (v := undef) (a' := ?_) rfl rfl (by decide +kernel) (fun _ _ _ h => h) (Or.inr ⟨by rfl, rfl⟩) ?_ ?_ | refine pureS_ 9 (N := some 8) (v := undef) (a' := ?_) rfl rfl (by decide +kernel) (fun _ _ _ h => h) (Or.inr ⟨by rfl, rfl⟩) ?_ ?_); rotate_left; (simp only [Act.put, List.setIfInBounds_toArray, List.set_cons_zero, List.set_cons_succ, i64_w, i32_w]; rfl)))
      refine done_ (by kernel_rfl) ?_
      have d0 : w5.cell? ⟨g1, 0, none⟩ = some (.slice (some ad) l.length c) := (blk_cell HK5.out.b1 0).trans rfl
      have x6 := cellB HX6.out HK5.out.hb
      have t0 : decide (0 ≤ (t : Int)) = true := decide_eq_true (by omega)
      have t1 : decide ((t : Int) < (l.length : Int)) = true := decide_eq_true (by have := HT.out; omega)
      go_wp2
      go_loopw [97, 6] (fun s97 s6 wr => ∃ (q : Nat) (keys' : List Int) (m' : MapD), q ≤ x.f6.length ∧ s97 = .int .i64 q ∧ Hid (KSt w wr g1 gm #[.slice (some ad) l.length c, .int .i64 a1, .int .i64 a2, .int .i64 a3] m' s6 (keys'.drop j)) ∧ Hid (VInv l keys j x.f6 q keys' m')) (fun s97 s6 _ => x.f6.length - (intOf s97).toNat)
      case atStart => exact ⟨0, keys, m, Nat.zero_le _, rfl, HK5, Lib.hid (vinv_start HI.out HJ.out)⟩
      case round =>
       clear HK5 d0 x6
       obtain ⟨q, keys', m', hq, rfl, HK, HV⟩ := hrel
       obtain ⟨A6, c6, e6, _⟩ := Kd.Q_slice HK.out.q
       rw [List.length_drop] at e6
       subst e6
       by_cases hlt : q < x.f6.length
       ·
        obtain ⟨name, node, hen⟩ : ∃ name node, x.f6[q] = ⟨name, node⟩ := ⟨_, _, rfl⟩
        have hnode : x.f6[q].f1 = node := by rw [hen]
        have hrd : rd_T61 x.f6 (q : Int) = ⟨name, node⟩ := (rdE _ q hlt).trans hen
        obtain ⟨ae, ee, e0, e1⟩ := at_T61 HE6.out (q : Int) (by omega) (by omega)
        cases ee
        rw [hrd, Int.toNat_natCast] at e0 e1
        replace e0 := cellB e0 HK.out.hb
        replace e1 := cellB e1 HK.out.hb
        have i0 : decide (0 ≤ (q : Int)) = true := decide_eq_true (by omega)
        have i1 : decide ((q : Int) < (x.f6.length : Int)) = true := decide_eq_true (by omega)
        have HWR : Hid (wrap64 ((q : Int) + 1) = ((q + 1 : Nat) : Int)) := Lib.hid (by have := HX.out; unfold wrap64; omega)
        have HLT := Lib.hid hlt
        have hvc := vinv_step (a1 := a1) (a2 := a2) (a3 := a3) HV.out HRI.out HLN.out HX.out hlt hnode
        clear hrd hen hq hlt hnode
        go_upto_region 17 with ((with_reducible refine gate_dst (N := 10) rfl ?_); refine box_event ?hg (N := 10) ?hd (cs := #[.string (⟨#[]⟩ : ByteArray), .int .i64 0]) (t := 61) ?hr ?_; (case hd => rfl); (case hg => rfl); (case hr => first | (go_simp; done) | (go_simp; rfl)); intro ge hge w4 hbox hb4; have hl_ : wr.heap.size ≤ ge := Nat.le_of_eq hge.symm; have HK4 := Lib.hid (HK.out.below (below_set (j := 1) (v := .int .i64 node) (below_set (j := 0) (v := .string name) hb4 hl_) hl_)); have EB := Lib.hid (blk_put (cs' := #[.string name, .int .i64 node]) (blk_put (cs' := #[.string name, .int .i64 0]) hbox 0 (.string name) rfl) 1 (.int .i64 node) rfl); have z0 : w4.cell? ⟨ge, 0, none⟩ = some (.string (⟨#[]⟩ : ByteArray)) := (blk_cell hbox 0).trans rfl; have z1 : w4.cell? ⟨ge, 1, none⟩ = some (.int .i64 0) := (blk_cell hbox 1).trans rfl; have y0 := blk_frozen hbox 0; have y1 := blk_frozen hbox 1; clear hbox hb4 hge hl_)
        (try simp only [Act.put, List.setIfInBounds_toArray, List.set_cons_zero, List.set_cons_succ])
        clear z0 z1 y0 y1 e0 e1 HK
        generalize (w4.setCell _ _).setCell _ _ = w5 at HK4 EB ⊢
        have d0 : w5.cell? ⟨g1, 0, none⟩ = some (.slice (some ad) l.length c) := (blk_cell HK4.out.b1 0).trans rfl
        have d1 : w5.cell? ⟨g1, 1, none⟩ = some (.int .i64 a1) := (blk_cell HK4.out.b1 1).trans rfl
        have d2 : w5.cell? ⟨g1, 2, none⟩ = some (.int .i64 a2) := (blk_cell HK4.out.b1 2).trans rfl
        have d3 : w5.cell? ⟨g1, 3, none⟩ = some (.int .i64 a3) := (blk_cell HK4.out.b1 3).trans rfl
        have n1 : w5.cell? ⟨ge, 1, none⟩ = some (.int .i64 node) := (blk_cell EB.out 1).trans rfl
        rcases hvc with ⟨p, KQ, hpl, hno⟩ | ⟨t', ht', y, hyt, KQ, hpl, hgi, hcs⟩
        ·
         have HPQ := Lib.hid hpl
         have HNO := Lib.hid (binv_fail HI.out HJ.out HTG.out hno)
         clear hpl hno
         go_wp2_with ((go_at_call 59; (with_reducible refine (tree_place.calls KQ _ _ l a1 a2 a3 node p false _ (Kd.C_below HR0.out HK4.out.hb) HC0.out HPQ.out).mono ?_); rintro e w7 ⟨rfl, hb7⟩; have HK7 := Lib.hid (HK4.out.below hb7); clear d0 d1 d2 d3 n1 hb7))
         go_ret
         exact ⟨by rw [HBF.out, HNO.out]; rfl, HK7.out.hb⟩
        ·
         have HPQ := Lib.hid hpl
         have HGI := Lib.hid hgi
         have t0 : decide (0 ≤ (t' : Int)) = true := decide_eq_true (by omega)
         have t1 : decide ((t' : Int) < (l.length : Int)) = true := decide_eq_true (by omega)
         have t2 : (t' < l.length) = True := eq_true ht'
         have t3 : ((t' : Int) < (l.length : Int)) = True := eq_true (by omega)
         have hrd : rd_T44 l (t' : Int) = y := (rdN l t' ht').trans hyt
         obtain ⟨ad', _, _, ea, _, x1, _, _, _, _, _, _, _⟩ := at_T44 HR0.out (t' : Int) (by omega) (by omega)
         cases ea
         rw [hrd, Int.toNat_natCast] at x1
         have HX1 := Lib.hid x1
         clear hpl hgi hrd hyt x1 ht'
         rcases hcs with ⟨hk1, hg0, hno⟩ | ⟨hk1, hg1, hwn, hv2⟩ | ⟨hk1, hg0, hw1, hv2⟩ | ⟨hk1, hg0, hw1, hv2⟩
         ·
          have k1 : (y.f1 == 1) = true := beq_iff_eq.mpr hk1
          have g0 : decide (0 < gI m' node) = true := decide_eq_true hg0
          have HNO := Lib.hid (binv_fail HI.out HJ.out HTG.out hno)
          clear hno hk1 hg0
          go_wp2_with ((go_at_call 59; (with_reducible refine (tree_place.calls KQ _ _ l a1 a2 a3 node (t' : Int) true _ (Kd.C_below HR0.out HK4.out.hb) HC0.out HPQ.out).mono ?_); rintro e w7 ⟨rfl, hb7⟩; have HK7 := Lib.hid (HK4.out.below hb7); have EB7 := Lib.hid (blk_below EB.out hb7); clear d0 d1 d2 d3 n1 hb7; have d0 : w7.cell? ⟨g1, 0, none⟩ = some (.slice (some ad) l.length c) := (blk_cell HK7.out.b1 0).trans rfl; have n1 : w7.cell? ⟨ge, 1, none⟩ = some (.int .i64 node) := (blk_cell EB7.out 1).trans rfl; have x1 := cellB HX1.out HK7.out.hb; have hlk := MapA.lookI HK7.out.mp Tryd.underlying75 zeroI node))
          go_ret
          exact ⟨by rw [HBF.out, HNO.out]; rfl, HK7.out.hb⟩
         ·
          have k1 : (y.f1 == 1) = false := beq_eq_false_iff_ne.mpr hk1
          have g2 : (wrap64 (gI m' node + 1) == 1) = false := beq_eq_false_iff_ne.mpr hwn
          have HV2 := Lib.hid hv2
          clear hv2 hk1 hg1 hwn
          go_wp2_with (first | ((go_at_call 59; (with_reducible refine (tree_place.calls KQ _ _ l a1 a2 a3 node (t' : Int) true _ (Kd.C_below HR0.out HK4.out.hb) HC0.out HPQ.out).mono ?_); rintro e w7 ⟨rfl, hb7⟩; have HK7 := Lib.hid (HK4.out.below hb7); have EB7 := Lib.hid (blk_below EB.out hb7); clear d0 d1 d2 d3 n1 hb7; have d0 : w7.cell? ⟨g1, 0, none⟩ = some (.slice (some ad) l.length c) := (blk_cell HK7.out.b1 0).trans rfl; have n1 : w7.cell? ⟨ge, 1, none⟩ = some (.int .i64 node) := (blk_cell EB7.out 1).trans rfl; have x1 := cellB HX1.out HK7.out.hb; have hlk := MapA.lookI HK7.out.mp Tryd.underlying75 zeroI node)) | (refine mp_put rfl (Or.inl rfl) HK7.out.mp (keyI Tryd.underlying3) Tryd.underlying75 rfl node (wrap64 (gI m' node + 1)) (by rfl) (by rfl) ?_; intro wM hM1 hgM; have HK8 := Lib.hid (HK7.out.update hM1 hgM); have EB8 := Lib.hid (blk_grown EB7.out hgM (fun e_ => MapA.neC HK7.out.mp EB7.out (Option.some.inj e_).symm)); clear hM1 hgM d0 n1 x1 hlk; have n1 : wM.cell? ⟨ge, 1, none⟩ = some (.int .i64 node) := (blk_cell EB8.out 1).trans rfl; have hlk2 := MapA.lookI HK8.out.mp Tryd.underlying75 zeroI node; rw [gI_put] at hlk2))
          go_roundw
          case rel => exact ⟨q + 1, keys', _, HLT.out, by rw [HWR.out], HK8, HV2⟩
          case measure => exact meas_ _ _ HWR.out HLT.out
         ·
          have k1 : (y.f1 == 1) = true := beq_iff_eq.mpr hk1
          have g0 : decide (0 < gI m' node) = false := decide_eq_false hg0
          have g2 : (wrap64 (gI m' node + 1) == 1) = true := beq_iff_eq.mpr hw1
          have HV2 := Lib.hid hv2
          clear hv2 hk1 hg0 hw1
          go_wp2_with (first | ((go_at_call 59; (with_reducible refine (tree_place.calls KQ _ _ l a1 a2 a3 node (t' : Int) true _ (Kd.C_below HR0.out HK4.out.hb) HC0.out HPQ.out).mono ?_); rintro e w7 ⟨rfl, hb7⟩; have HK7 := Lib.hid (HK4.out.below hb7); have EB7 := Lib.hid (blk_below EB.out hb7); clear d0 d1 d2 d3 n1 hb7; have d0 : w7.cell? ⟨g1, 0, none⟩ = some (.slice (some ad) l.length c) := (blk_cell HK7.out.b1 0).trans rfl; have n1 : w7.cell? ⟨ge, 1, none⟩ = some (.int .i64 node) := (blk_cell EB7.out 1).trans rfl; have x1 := cellB HX1.out HK7.out.hb; have hlk := MapA.lookI HK7.out.mp Tryd.underlying75 zeroI node)) | (refine mp_put rfl (Or.inl rfl) HK7.out.mp (keyI Tryd.underlying3) Tryd.underlying75 rfl node (wrap64 (gI m' node + 1)) (by rfl) (by rfl) ?_; intro wM hM1 hgM; have HK8 := Lib.hid (HK7.out.update hM1 hgM); have EB8 := Lib.hid (blk_grown EB7.out hgM (fun e_ => MapA.neC HK7.out.mp EB7.out (Option.some.inj e_).symm)); clear hM1 hgM d0 n1 x1 hlk; have n1 : wM.cell? ⟨ge, 1, none⟩ = some (.int .i64 node) := (blk_cell EB8.out 1).trans rfl; have hlk2 := MapA.lookI HK8.out.mp Tryd.underlying75 zeroI node; rw [gI_put] at hlk2) | ((with_reducible refine gate_builtin (b := .append) (xs := #[.tmp 136, .tmp 139]) rfl ?_); at_builtin; refine Kd.Q_append (Kd.int .i64) (w0 := w) w.heap.size rfl (.tmp 136) (.tmp 139) 76 3 (.int .i64 0) 8 rfl Tryd.underlying76 info3 rfl (by decide) (by omega) (.slice A6 (keys'.length - j) c6) (keys'.drop j) node [.int .i64 node] (fun _ => True) (fun _ => False) rfl rfl ?aP (fun _ hk => hk.elim) (fun _ _ => trivial) HK8.out.q HK8.out.hb (below_size HK8.out.hb) ?aL ?_; (case aP => exact rfl); (case aL => have := (vinv_len HV.out).2; have := HLN.out; rw [List.length_drop]; omega); intro v1 w9 ho hb9 hg9 _; rw [← List.drop_append_of_le_length (Nat.le_of_lt (vinv_len HV.out).1)] at ho; have HK9 := Lib.hid (HK8.out.pushed ho hb9 hg9); clear ho hb9 hg9))
          go_roundw
          case rel => exact ⟨q + 1, keys' ++ [node], _, HLT.out, by rw [HWR.out], HK9, HV2⟩
          case measure => exact meas_ _ _ HWR.out HLT.out
         ·
          have k1 : (y.f1 == 1) = false := beq_eq_false_iff_ne.mpr hk1
          have g2 : (wrap64 (gI m' node + 1) == 1) = true := beq_iff_eq.mpr hw1
          have HV2 := Lib.hid hv2
          clear hv2 hk1 hg0 hw1
          go_wp2_with (first | ((go_at_call 59; (with_reducible refine (tree_place.calls KQ _ _ l a1 a2 a3 node (t' : Int) true _ (Kd.C_below HR0.out HK4.out.hb) HC0.out HPQ.out).mono ?_); rintro e w7 ⟨rfl, hb7⟩; have HK7 := Lib.hid (HK4.out.below hb7); have EB7 := Lib.hid (blk_below EB.out hb7); clear d0 d1 d2 d3 n1 hb7; have d0 : w7.cell? ⟨g1, 0, none⟩ = some (.slice (some ad) l.length c) := (blk_cell HK7.out.b1 0).trans rfl; have n1 : w7.cell? ⟨ge, 1, none⟩ = some (.int .i64 node) := (blk_cell EB7.out 1).trans rfl; have x1 := cellB HX1.out HK7.out.hb; have hlk := MapA.lookI HK7.out.mp Tryd.underlying75 zeroI node)) | (refine mp_put rfl (Or.inl rfl) HK7.out.mp (keyI Tryd.underlying3) Tryd.underlying75 rfl node (wrap64 (gI m' node + 1)) (by rfl) (by rfl) ?_; intro wM hM1 hgM; have HK8 := Lib.hid (HK7.out.update hM1 hgM); have EB8 := Lib.hid (blk_grown EB7.out hgM (fun e_ => MapA.neC HK7.out.mp EB7.out (Option.some.inj e_).symm)); clear hM1 hgM d0 n1 x1 hlk; have n1 : wM.cell? ⟨ge, 1, none⟩ = some (.int .i64 node) := (blk_cell EB8.out 1).trans rfl; have hlk2 := MapA.lookI HK8.out.mp Tryd.underlying75 zeroI node; rw [gI_put] at hlk2) | ((with_reducible refine gate_builtin (b := .append) (xs := #[.tmp 136, .tmp 139]) rfl ?_); at_builtin; refine Kd.Q_append (Kd.int .i64) (w0 := w) w.heap.size rfl (.tmp 136) (.tmp 139) 76 3 (.int .i64 0) 8 rfl Tryd.underlying76 info3 rfl (by decide) (by omega) (.slice A6 (keys'.length - j) c6) (keys'.drop j) node [.int .i64 node] (fun _ => True) (fun _ => False) rfl rfl ?aP (fun _ hk => hk.elim) (fun _ _ => trivial) HK8.out.q HK8.out.hb (below_size HK8.out.hb) ?aL ?_; (case aP => exact rfl); (case aL => have := (vinv_len HV.out).2; have := HLN.out; rw [List.length_drop]; omega); intro v1 w9 ho hb9 hg9 _; rw [← List.drop_append_of_le_length (Nat.le_of_lt (vinv_len HV.out).1)] at ho; have HK9 := Lib.hid (HK8.out.pushed ho hb9 hg9); clear ho hb9 hg9))
          go_roundw
          case rel => exact ⟨q + 1, keys' ++ [node], _, HLT.out, by rw [HWR.out], HK9, HV2⟩
          case measure => exact meas_ _ _ HWR.out HLT.out
       ·
        obtain rfl : q = x.f6.length := by omega
        have HBI := Lib.hid (vinv_end HI.out HV.out HJ.out HTG.out HX.out)
        have hlen2 : j < keys'.length := HV.out.2.2.2.1
        obtain ⟨i095, hi095, _, hsz95, _⟩ := info_parts info3
        have q95 : (1 : Int) ≤ ((keys'.length - j : Nat) : Int) := by omega
        have hcut95 := cut_from (P := Tryd.prog) 76 3 .i64 Tryd.underlying76 hi095 1 hsz95 A6 (keys'.length - j) c6 1 (by omega) q95
        have hr95 := Kd.Q_drop (k := 1) HK.out.q (by rw [List.length_drop]; omega)
        rw [List.drop_drop, show (Kd.int IntKind.i64).sz = 1 from rfl] at hr95
        rw [show (1 : Int).toNat = 1 from rfl] at hcut95
        generalize (if c6 = 1 then A6 else Option.map (fun x => x.add (1 * 1)) A6) = A95 at hcut95 hr95
        have HKE : Hid (KSt w wr g1 gm #[.slice (some ad) l.length c, .int .i64 a1, .int .i64 a2, .int .i64 a3] m' (.slice A95 (keys'.length - j - 1) (c6 - 1)) (keys'.drop (j + 1))) := Lib.hid ⟨HK.out.hb, HK.out.b1, HK.out.em, HK.out.mp, hr95⟩
        clear hlt hq hi095 hsz95 hr95 hlen2
        go_wp2
        go_roundg F
        case measure => exact Nat.lt_succ_self _
        case rel => exact ⟨j + 1, keys', m', HKE, HBI⟩
     ·
      have hje := binv_done HI.out hj
      have hdl : keys.length - j = 0 := by omega
      rw [hdl] at HK
      have hml : m.length = keys.length := by have := congrArg List.length HI.out.1; rwa [List.length_map] at this
      have d0 : wr.cell? ⟨g1, 0, none⟩ = some (.slice (some ad) l.length c) := (blk_cell HK.out.b1 0).trans rfl
      have hln := fun ty_ : TypeId => MapA.len HK.out.mp Tryd.underlying75 ty_
      rw [hml] at hln
      rw [hdl]
      by_cases he : keys.length = l.length
      ·
       have HO := Lib.hid (hje.trans (if_pos he))
       have k0 : ((keys.length : Int) != (l.length : Int)) = false := bne_eq_false_iff_eq.mpr (by omega)
       clear hje hj hdl hml he
       go_wp2
       go_ret
       exact ⟨by rw [HBF.out, HO.out]; rfl, HK.out.hb⟩
      ·
       have HO := Lib.hid (hje.trans (if_neg he))
       have k0 : ((keys.length : Int) != (l.length : Int)) = true := bne_iff_ne.mpr (by omega)
       clear hje hj hdl hml he
       go_wp2
       go_ret
       exact ⟨by rw [HBF.out, HO.out]; rfl, HK.out.hb⟩
end Go.Proofs.YtnpnablnnfekkaaDoor.PTr
namespace Go.Proofs.YtnpnablnnfekkaaDoor.PTr
open Go.RowKit Go.Proofs.YtnpnablnnfekkaaDoorW.PrintWords Go.Proofs.YtnpnablnnfekkaaDoorW.PrintLast Go.Proofs.YtnpnablnnfekkaaDoorW.PrintMore
attribute [local go_sem] max2_int min2_int max_two min_two max_three min_three max_four min_four   -- for this text's walks alone
set_option linter.unusedVariables false
set_option linter.unusedSimpArgs false
def rehearsalref04_Place.l0 : Nat → Int → Int → List (S44) → Int → Int → Int → Option (Int)
 | 0, _, _, _, _, _, _ => none
 | k + 1, x1, x5, x178000, x178001, x178002, x178003 => if x5 < (x178000.length : Int) then (if 0 ≤ x5 then (if ((rd_T44 x178000 x5).f0) = x1 then (some x5) else (rehearsalref04_Place.l0 k x1 (wrap64 (x5 + 1)) x178000 x178001 x178002 x178003)) else (none)) else (some (-1))
def rehearsalref04_Place.f (k : Nat) (l0_0 : List (S44)) (a0_1 : Int) (a0_2 : Int) (a0_3 : Int) (a1 : Int) : Option (Int) := rehearsalref04_Place.l0 k a1 0 l0_0 a0_1 a0_2 a0_3
set_option maxHeartbeats 8000000 in
set_option maxRecDepth 100000 in
theorem rehearsalref04_Place.calls (k : Nat) (A0_0 : Option Addr) (c0_0 : Nat) (l0_0 : List (S44)) (a0_1 : Int) (a0_2 : Int) (a0_3 : Int) (a1 : Int) (r : Int) (w : World) (hr0_0 : Kd.C k44 w A0_0 l0_0.length l0_0) (hc0_0 : l0_0.length ≤ c0_0) (h : rehearsalref04_Place.f k l0_0 a0_1 a0_2 a0_3 a1 = some r) :
  Calls Tryd.prog 61 #[.agg #[.slice A0_0 l0_0.length c0_0, .int .i64 a0_1, .int .i64 a0_2, .int .i64 a0_3], .int .i64 a1] w fun e w' => e = .returned (.int .i64 r) ∧ Below w.heap.size w w' := by
 have hu26 := Tryd.underlying26
 have HR0_0 := Aside0.mk hr0_0
 have HC0_0 := Aside0.mk hc0_0
 clear hr0_0 hc0_0
 have HB := Aside0.mk (Below.refl w.heap.size w)
 have H : (rehearsalref04_Place.l0 k a1 0 l0_0 a0_1 a0_2 a0_3) = some r := h
 clear h
 have H' := Aside0.mk H
 clear H
 go_enter Tryd.func61, Tryd.ntmps61
 go_wp2_with (first | ((with_reducible refine gate_dst (N := 2) rfl ?_); refine box_event ?hg (N := 2) ?hd (cs := #[.slice A0_0 l0_0.length c0_0, .int .i64 a0_1, .int .i64 a0_2, .int .i64 a0_3]) (t := 26) ?hr ?_; (case hd => rfl); (case hg => rfl); (case hr => first | (go_simp; done) | (go_simp; rfl)); intro gb177 hg w3 hbox hb; have n0_ := Aside0.mk (below_step (by repeat (first | (with_reducible first | exact HB.out | apply below_alloc | apply pw_below_drewN | apply below_drew1) | exact HB.out)) hb); have n1_ := Aside0.mk (hbox); have n2_ := Aside0.mk ((by rw [hg]; exact (below_size (by repeat (first | (with_reducible first | exact HB.out | apply below_alloc | apply pw_below_drewN | apply below_drew1) | exact HB.out))) : w.heap.size ≤ gb177)); have n3_ := Aside0.mk ((by rw [hg]; exact (below_size (by repeat (first | (with_reducible first | exact HB.out | apply below_alloc | apply pw_below_drewN | apply below_drew1) | exact HB.out))) : w.heap.size ≤ gb177)); clear HB; have HB := n0_; have BK177 := n1_; have GW177 := n2_; have GE177 := n3_; clear n0_ n1_ n2_ n3_; clear hb hbox hg))
 go_loopg [5] k (fun kq v5 w' => ∃ (x5_1 : Int), v5 = .int .i64 x5_1 ∧ Aside0 (rehearsalref04_Place.l0 kq a1 x5_1 l0_0 a0_1 a0_2 a0_3 = some r) ∧ Aside0 (kq ≤ k) ∧ Aside0 (w'.heap[gb177]? = some (.cells #[(.slice A0_0 l0_0.length c0_0), .int .i64 a0_1, .int .i64 a0_2, .int .i64 a0_3] 26 (0, 0))) ∧ Aside0 (Below w.heap.size w w'))
 case atStart => exact ⟨(0), (by first | rfl | (simp; done) | (simp [*]; done)), H', ⟨Nat.le_refl _⟩, ⟨by (with_reducible repeat (first | refine blk_drewN ?_ _ | refine blk_drew ?_ | refine blk_alloc ?_ _)); exact BK177.out⟩, ⟨by repeat (first | (with_reducible first | exact HB.out | apply below_alloc | apply pw_below_drewN | apply below_drew1 | refine below_set ?_ GE177.out) | exact HB.out)⟩⟩
 case round =>
  clear H'
  try clear p2
  obtain ⟨x5_1, rfl, HA, HK1, BK177, HB⟩ := hrel
  cases gk with
  | zero => exact absurd HA.out (by simp [rehearsalref04_Place.l0])
  | succ k1 =>
   have H := HA.out
   clear HA
   simp only [rehearsalref04_Place.l0] at H
   by_cases c4 : x5_1 < (l0_0.length : Int)
   ·
    rw [if_pos c4] at H
    have c4b0 : decide (x5_1 < (l0_0.length : Int)) = true := decide_eq_true c4
    clear c4
    by_cases c5 : 0 ≤ x5_1
    ·
     rw [if_pos c5] at H
     have c5b0 : decide (0 ≤ x5_1) = true := decide_eq_true c5
     clear c5
     by_cases c6 : ((rd_T44 l0_0 x5_1).f0) = a1
     ·
      rw [if_pos c6] at H
      have c6b0 : (((rd_T44 l0_0 x5_1).f0) == a1) = true := beq_iff_eq.mpr c6
      have c6b1 : (((rd_T44 l0_0 x5_1).f0) != a1) = false := bne_eq_false_iff_eq.mpr c6
      clear c6
      obtain rfl := Option.some.inj H
      have hcz7_0 : wr.cell? ⟨gb177, 0, none⟩ = some (.slice A0_0 l0_0.length c0_0) := (blk_cell BK177.out 0).trans rfl
      have hcz7_1 : wr.cell? ⟨gb177, 1, none⟩ = some (.int .i64 a0_1) := (blk_cell BK177.out 1).trans rfl
      have hcz7_2 : wr.cell? ⟨gb177, 2, none⟩ = some (.int .i64 a0_2) := (blk_cell BK177.out 2).trans rfl
      have hcz7_3 : wr.cell? ⟨gb177, 3, none⟩ = some (.int .i64 a0_3) := (blk_cell BK177.out 3).trans rfl
      have hfz7_0 := blk_frozen BK177.out 0
      have hfz7_1 := blk_frozen BK177.out 1
      have hfz7_2 := blk_frozen BK177.out 2
      have hfz7_3 := blk_frozen BK177.out 3
      have p178 : 0 ≤ (x5_1 : Int) := of_decide_eq_true (by first | (with_reducible assumption) | assumption)
      have q178 : x5_1 < (l0_0.length : Int) := of_decide_eq_true (by first | (with_reducible assumption) | assumption)
      obtain ⟨ad178, A178_6, c178_6, e178, hx178_0, hx178_1, hx178_2, hx178_3, hx178_4, hx178_5, hx178_6, hl178_6, hi178_6⟩ := at_T44 HR0_0.out x5_1 p178 q178
      cases e178
      replace hx178_0 := (HB.out.cell (World.block_lt_of_cell? w _ hx178_0)).trans hx178_0
      replace hx178_1 := (HB.out.cell (World.block_lt_of_cell? w _ hx178_1)).trans hx178_1
      replace hx178_2 := (HB.out.cell (World.block_lt_of_cell? w _ hx178_2)).trans hx178_2
      replace hx178_3 := (HB.out.cell (World.block_lt_of_cell? w _ hx178_3)).trans hx178_3
      replace hx178_4 := (HB.out.cell (World.block_lt_of_cell? w _ hx178_4)).trans hx178_4
      replace hx178_5 := (HB.out.cell (World.block_lt_of_cell? w _ hx178_5)).trans hx178_5
      replace hx178_6 := (HB.out.cell (World.block_lt_of_cell? w _ hx178_6)).trans hx178_6
      have HR178_6 := Aside0.mk hi178_6
      have HC178_6 := Aside0.mk hl178_6
      clear hi178_6 hl178_6
      replace p178 := eq_true p178
      replace q178 := eq_true q178
      go_wp2
      go_ret
      exact ⟨by first | rfl | (simp [errW_none, errW_some] <;> rfl) | (simp [*, errW_none, errW_some] <;> rfl), by repeat (first | (with_reducible first | exact HB.out | apply below_alloc | apply pw_below_drewN | apply below_drew1 | refine below_set ?_ GE177.out) | exact HB.out)⟩
     ·
      rw [if_neg c6] at H
      have c6b0 : (((rd_T44 l0_0 x5_1).f0) == a1) = false := beq_eq_false_iff_ne.mpr c6
      have c6b1 : (((rd_T44 l0_0 x5_1).f0) != a1) = true := bne_iff_ne.mpr c6
      have H' := Aside0.mk H
      clear H
      have hcz8_0 : wr.cell? ⟨gb177, 0, none⟩ = some (.slice A0_0 l0_0.length c0_0) := (blk_cell BK177.out 0).trans rfl
      have hcz8_1 : wr.cell? ⟨gb177, 1, none⟩ = some (.int .i64 a0_1) := (blk_cell BK177.out 1).trans rfl
      have hcz8_2 : wr.cell? ⟨gb177, 2, none⟩ = some (.int .i64 a0_2) := (blk_cell BK177.out 2).trans rfl
      have hcz8_3 : wr.cell? ⟨gb177, 3, none⟩ = some (.int .i64 a0_3) := (blk_cell BK177.out 3).trans rfl
      have hfz8_0 := blk_frozen BK177.out 0
      have hfz8_1 := blk_frozen BK177.out 1
      have hfz8_2 := blk_frozen BK177.out 2
      have hfz8_3 := blk_frozen BK177.out 3
      have p178 : 0 ≤ (x5_1 : Int) := of_decide_eq_true (by first | (with_reducible assumption) | assumption)
      have q178 : x5_1 < (l0_0.length : Int) := of_decide_eq_true (by first | (with_reducible assumption) | assumption)
      obtain ⟨ad178, A178_6, c178_6, e178, hx178_0, hx178_1, hx178_2, hx178_3, hx178_4, hx178_5, hx178_6, hl178_6, hi178_6⟩ := at_T44 HR0_0.out x5_1 p178 q178
      cases e178
      replace hx178_0 := (HB.out.cell (World.block_lt_of_cell? w _ hx178_0)).trans hx178_0
      replace hx178_1 := (HB.out.cell (World.block_lt_of_cell? w _ hx178_1)).trans hx178_1
      replace hx178_2 := (HB.out.cell (World.block_lt_of_cell? w _ hx178_2)).trans hx178_2
      replace hx178_3 := (HB.out.cell (World.block_lt_of_cell? w _ hx178_3)).trans hx178_3
      replace hx178_4 := (HB.out.cell (World.block_lt_of_cell? w _ hx178_4)).trans hx178_4
      replace hx178_5 := (HB.out.cell (World.block_lt_of_cell? w _ hx178_5)).trans hx178_5
      replace hx178_6 := (HB.out.cell (World.block_lt_of_cell? w _ hx178_6)).trans hx178_6
      have HR178_6 := Aside0.mk hi178_6
      have HC178_6 := Aside0.mk hl178_6
      clear hi178_6 hl178_6
      replace p178 := eq_true p178
      replace q178 := eq_true q178
      go_wp2
      go_roundg k1
      case measure => have := HK1.out; omega
      case rel => exact ⟨(wrap64 (x5_1 + 1)), (by first | rfl | (simp; done) | (simp [*]; done)), H', ⟨by have := HK1.out; omega⟩, ⟨by (with_reducible repeat (first | refine blk_drewN ?_ _ | refine blk_drew ?_ | refine blk_alloc ?_ _)); exact BK177.out⟩, ⟨by repeat (first | (with_reducible first | exact HB.out | apply below_alloc | apply pw_below_drewN | apply below_drew1 | refine below_set ?_ GE177.out) | exact HB.out)⟩⟩
    ·
     rw [if_neg c5] at H
     exact absurd H (by simp)
   ·
    rw [if_neg c4] at H
    have c4b0 : decide (x5_1 < (l0_0.length : Int)) = false := decide_eq_false c4
    clear c4
    obtain rfl := Option.some.inj H
    have hcz9_0 : wr.cell? ⟨gb177, 0, none⟩ = some (.slice A0_0 l0_0.length c0_0) := (blk_cell BK177.out 0).trans rfl
    have hcz9_1 : wr.cell? ⟨gb177, 1, none⟩ = some (.int .i64 a0_1) := (blk_cell BK177.out 1).trans rfl
    have hcz9_2 : wr.cell? ⟨gb177, 2, none⟩ = some (.int .i64 a0_2) := (blk_cell BK177.out 2).trans rfl
    have hcz9_3 : wr.cell? ⟨gb177, 3, none⟩ = some (.int .i64 a0_3) := (blk_cell BK177.out 3).trans rfl
    have hfz9_0 := blk_frozen BK177.out 0
    have hfz9_1 := blk_frozen BK177.out 1
    have hfz9_2 := blk_frozen BK177.out 2
    have hfz9_3 := blk_frozen BK177.out 3
    go_wp2
    go_ret
    exact ⟨by first | rfl | (simp [errW_none, errW_some] <;> rfl) | (simp [*, errW_none, errW_some] <;> rfl), by repeat (first | (with_reducible first | exact HB.out | apply below_alloc | apply pw_below_drewN | apply below_drew1 | refine below_set ?_ GE177.out) | exact HB.out)⟩
end Go.Proofs.YtnpnablnnfekkaaDoor.PTr
namespace Go.Proofs.YtnpnablnnfekkaaDoor.PTr
open Go.RowKit Go.Proofs.YtnpnablnnfekkaaDoorW.PrintWords Go.Proofs.YtnpnablnnfekkaaDoorW.PrintLast Go.Proofs.YtnpnablnnfekkaaDoorW.PrintMore
attribute [local go_sem] max2_int min2_int max_two min_two max_three min_three max_four min_four   -- for this text's walks alone
set_option linter.unusedVariables false
set_option linter.unusedSimpArgs false
mutual
def rehearsalref04_Links.l0 : Nat → Int → Int → Int → List (S44) → Int → Int → Int → Option (Int)
 | 0, _, _, _, _, _, _, _ => none
 | k + 1, x1, x5, x6, x166000, x166001, x166002, x166003 => if x6 < (x166000.length : Int) then (rehearsalref04_Links.l1 k x1 x5 x6 0 x166000 x166001 x166002 x166003) else (some x5)
def rehearsalref04_Links.l1 : Nat → Int → Int → Int → Int → List (S44) → Int → Int → Int → Option (Int)
 | 0, _, _, _, _, _, _, _, _ => none
 | k + 1, x1, x5, x6, x7, x166000, x166001, x166002, x166003 => if 0 ≤ x6 then (if x6 < (x166000.length : Int) then (if x7 < (((rd_T44 x166000 x6).f6).length : Int) then (if 0 ≤ x7 then (if ((rd_T61 ((rd_T44 x166000 x6).f6) x7).f1) = x1 then (rehearsalref04_Links.l1 k x1 (wrap64 (x5 + 1)) x6 (wrap64 (x7 + 1)) x166000 x166001 x166002 x166003) else (rehearsalref04_Links.l1 k x1 x5 x6 (wrap64 (x7 + 1)) x166000 x166001 x166002 x166003)) else (none)) else (rehearsalref04_Links.l0 k x1 x5 (wrap64 (x6 + 1)) x166000 x166001 x166002 x166003)) else (none)) else (none)
end
def rehearsalref04_Links.f (k : Nat) (l0_0 : List (S44)) (a0_1 : Int) (a0_2 : Int) (a0_3 : Int) (a1 : Int) : Option (Int) := rehearsalref04_Links.l0 k a1 0 0 l0_0 a0_1 a0_2 a0_3
set_option maxHeartbeats 8000000 in
set_option maxRecDepth 100000 in
theorem rehearsalref04_Links.calls (k : Nat) (A0_0 : Option Addr) (c0_0 : Nat) (l0_0 : List (S44)) (a0_1 : Int) (a0_2 : Int) (a0_3 : Int) (a1 : Int) (r : Int) (w : World) (hr0_0 : Kd.C k44 w A0_0 l0_0.length l0_0) (hc0_0 : l0_0.length ≤ c0_0) (h : rehearsalref04_Links.f k l0_0 a0_1 a0_2 a0_3 a1 = some r) :
  Calls Tryd.prog 34 #[.agg #[.slice A0_0 l0_0.length c0_0, .int .i64 a0_1, .int .i64 a0_2, .int .i64 a0_3], .int .i64 a1] w fun e w' => e = .returned (.int .i64 r) ∧ Below w.heap.size w w' := by
 have hu26 := Tryd.underlying26
 have HR0_0 := Aside0.mk hr0_0
 have HC0_0 := Aside0.mk hc0_0
 clear hr0_0 hc0_0
 have HB := Aside0.mk (Below.refl w.heap.size w)
 have H : (rehearsalref04_Links.l0 k a1 0 0 l0_0 a0_1 a0_2 a0_3) = some r := h
 clear h
 have H' := Aside0.mk H
 clear H
 go_enter Tryd.func34, Tryd.ntmps34
 go_wp2_with (first | ((with_reducible refine gate_dst (N := 2) rfl ?_); refine box_event ?hg (N := 2) ?hd (cs := #[.slice A0_0 l0_0.length c0_0, .int .i64 a0_1, .int .i64 a0_2, .int .i64 a0_3]) (t := 26) ?hr ?_; (case hd => rfl); (case hg => rfl); (case hr => first | (go_simp; done) | (go_simp; rfl)); intro gb165 hg w3 hbox hb; have n0_ := Aside0.mk (below_step (by repeat (first | (with_reducible first | exact HB.out | apply below_alloc | apply pw_below_drewN | apply below_drew1) | exact HB.out)) hb); have n1_ := Aside0.mk (hbox); have n2_ := Aside0.mk ((by rw [hg]; exact (below_size (by repeat (first | (with_reducible first | exact HB.out | apply below_alloc | apply pw_below_drewN | apply below_drew1) | exact HB.out))) : w.heap.size ≤ gb165)); have n3_ := Aside0.mk ((by rw [hg]; exact (below_size (by repeat (first | (with_reducible first | exact HB.out | apply below_alloc | apply pw_below_drewN | apply below_drew1) | exact HB.out))) : w.heap.size ≤ gb165)); clear HB; have HB := n0_; have BK165 := n1_; have GW165 := n2_; have GE165 := n3_; clear n0_ n1_ n2_ n3_; clear hb hbox hg))
 go_loopg [5, 6] k (fun kq v5 v6 w' => ∃ (x5_1 : Int) (x6_1 : Int), v5 = .int .i64 x5_1 ∧ v6 = .int .i64 x6_1 ∧ Aside0 (rehearsalref04_Links.l0 kq a1 x5_1 x6_1 l0_0 a0_1 a0_2 a0_3 = some r) ∧ Aside0 (kq ≤ k) ∧ Aside0 (w'.heap[gb165]? = some (.cells #[(.slice A0_0 l0_0.length c0_0), .int .i64 a0_1, .int .i64 a0_2, .int .i64 a0_3] 26 (0, 0))) ∧ Aside0 (Below w.heap.size w w'))
 case atStart => exact ⟨(0), (0), (by first | rfl | (simp; done) | (simp [*]; done)), (by first | rfl | (simp; done) | (simp [*]; done)), H', ⟨Nat.le_refl _⟩, ⟨by (with_reducible repeat (first | refine blk_drewN ?_ _ | refine blk_drew ?_ | refine blk_alloc ?_ _)); exact BK165.out⟩, ⟨by repeat (first | (with_reducible first | exact HB.out | apply below_alloc | apply pw_below_drewN | apply below_drew1 | refine below_set ?_ GE165.out) | exact HB.out)⟩⟩
 case round =>
  clear H'
  try clear p2
  try clear c3
  obtain ⟨x5_1, x6_1, rfl, rfl, HA, HK1, BK165, HB⟩ := hrel
  cases gk with
  | zero => exact absurd HA.out (by simp [rehearsalref04_Links.l0])
  | succ k1 =>
   have H := HA.out
   clear HA
   simp only [rehearsalref04_Links.l0] at H
   by_cases c4 : x6_1 < (l0_0.length : Int)
   ·
    rw [if_pos c4] at H
    have c4b0 : decide (x6_1 < (l0_0.length : Int)) = true := decide_eq_true c4
    clear c4
    have H' := Aside0.mk H
    clear H
    have hcz5_0 : wr.cell? ⟨gb165, 0, none⟩ = some (.slice A0_0 l0_0.length c0_0) := (blk_cell BK165.out 0).trans rfl
    have hcz5_1 : wr.cell? ⟨gb165, 1, none⟩ = some (.int .i64 a0_1) := (blk_cell BK165.out 1).trans rfl
    have hcz5_2 : wr.cell? ⟨gb165, 2, none⟩ = some (.int .i64 a0_2) := (blk_cell BK165.out 2).trans rfl
    have hcz5_3 : wr.cell? ⟨gb165, 3, none⟩ = some (.int .i64 a0_3) := (blk_cell BK165.out 3).trans rfl
    have hfz5_0 := blk_frozen BK165.out 0
    have hfz5_1 := blk_frozen BK165.out 1
    have hfz5_2 := blk_frozen BK165.out 2
    have hfz5_3 := blk_frozen BK165.out 3
    go_wp2
    go_loopg [5, 7] k1 (fun kq v5 v7 w' => ∃ (x5_2 : Int) (x7_2 : Int), v5 = .int .i64 x5_2 ∧ v7 = .int .i64 x7_2 ∧ Aside0 (rehearsalref04_Links.l1 kq a1 x5_2 x6_1 x7_2 l0_0 a0_1 a0_2 a0_3 = some r) ∧ Aside0 (kq ≤ k1) ∧ Aside0 (w'.heap[gb165]? = some (.cells #[(.slice A0_0 l0_0.length c0_0), .int .i64 a0_1, .int .i64 a0_2, .int .i64 a0_3] 26 (0, 0))) ∧ Aside0 (Below w.heap.size w w'))
    case atStart => exact ⟨(x5_1), (0), (by first | rfl | (simp; done) | (simp [*]; done)), (by first | rfl | (simp; done) | (simp [*]; done)), H', ⟨Nat.le_refl _⟩, ⟨by (with_reducible repeat (first | refine blk_drewN ?_ _ | refine blk_drew ?_ | refine blk_alloc ?_ _)); exact BK165.out⟩, ⟨by repeat (first | (with_reducible first | exact HB.out | apply below_alloc | apply pw_below_drewN | apply below_drew1 | refine below_set ?_ GE165.out) | exact HB.out)⟩⟩
    case round =>
     clear H'
     try clear p2
     try clear c3
     try clear c4
     try clear c4b0
     try clear hcz5_0
     try clear hcz5_1
     try clear hcz5_2
     try clear hcz5_3
     try clear hfz5_0
     try clear hfz5_1
     try clear hfz5_2
     try clear hfz5_3
     try clear p2
     obtain ⟨x5_2, x7_2, rfl, rfl, HA, HK2, BK165, HB⟩ := hrel
     cases gk with
     | zero => exact absurd HA.out (by simp [rehearsalref04_Links.l1])
     | succ k2 =>
      have H := HA.out
      clear HA
      simp only [rehearsalref04_Links.l1] at H
      by_cases c6 : 0 ≤ x6_1
      ·
       rw [if_pos c6] at H
       have c6b0 : decide (0 ≤ x6_1) = true := decide_eq_true c6
       clear c6
       by_cases c7 : x6_1 < (l0_0.length : Int)
       ·
        rw [if_pos c7] at H
        have c7b0 : decide (x6_1 < (l0_0.length : Int)) = true := decide_eq_true c7
        clear c7
        by_cases c8 : x7_2 < (((rd_T44 l0_0 x6_1).f6).length : Int)
        ·
         rw [if_pos c8] at H
         have c8b0 : decide (x7_2 < (((rd_T44 l0_0 x6_1).f6).length : Int)) = true := decide_eq_true c8
         clear c8
         by_cases c9 : 0 ≤ x7_2
         ·
          rw [if_pos c9] at H
          have c9b0 : decide (0 ≤ x7_2) = true := decide_eq_true c9
          clear c9
          by_cases c10 : ((rd_T61 ((rd_T44 l0_0 x6_1).f6) x7_2).f1) = a1
          ·
           rw [if_pos c10] at H
           have c10b0 : (((rd_T61 ((rd_T44 l0_0 x6_1).f6) x7_2).f1) == a1) = true := beq_iff_eq.mpr c10
           have c10b1 : (((rd_T61 ((rd_T44 l0_0 x6_1).f6) x7_2).f1) != a1) = false := bne_eq_false_iff_eq.mpr c10
           clear c10
           have H' := Aside0.mk H
           clear H
           have hcz11_0 : wr.cell? ⟨gb165, 0, none⟩ = some (.slice A0_0 l0_0.length c0_0) := (blk_cell BK165.out 0).trans rfl
           have hcz11_1 : wr.cell? ⟨gb165, 1, none⟩ = some (.int .i64 a0_1) := (blk_cell BK165.out 1).trans rfl
           have hcz11_2 : wr.cell? ⟨gb165, 2, none⟩ = some (.int .i64 a0_2) := (blk_cell BK165.out 2).trans rfl
           have hcz11_3 : wr.cell? ⟨gb165, 3, none⟩ = some (.int .i64 a0_3) := (blk_cell BK165.out 3).trans rfl
           have hfz11_0 := blk_frozen BK165.out 0
           have hfz11_1 := blk_frozen BK165.out 1
           have hfz11_2 := blk_frozen BK165.out 2
           have hfz11_3 := blk_frozen BK165.out 3
           have p166 : 0 ≤ (x6_1 : Int) := of_decide_eq_true (by first | (with_reducible assumption) | assumption)
           have q166 : x6_1 < (l0_0.length : Int) := of_decide_eq_true (by first | (with_reducible assumption) | assumption)
           obtain ⟨ad166, A166_6, c166_6, e166, hx166_0, hx166_1, hx166_2, hx166_3, hx166_4, hx166_5, hx166_6, hl166_6, hi166_6⟩ := at_T44 HR0_0.out x6_1 p166 q166
           cases e166
           replace hx166_0 := (HB.out.cell (World.block_lt_of_cell? w _ hx166_0)).trans hx166_0
           replace hx166_1 := (HB.out.cell (World.block_lt_of_cell? w _ hx166_1)).trans hx166_1
           replace hx166_2 := (HB.out.cell (World.block_lt_of_cell? w _ hx166_2)).trans hx166_2
           replace hx166_3 := (HB.out.cell (World.block_lt_of_cell? w _ hx166_3)).trans hx166_3
           replace hx166_4 := (HB.out.cell (World.block_lt_of_cell? w _ hx166_4)).trans hx166_4
           replace hx166_5 := (HB.out.cell (World.block_lt_of_cell? w _ hx166_5)).trans hx166_5
           replace hx166_6 := (HB.out.cell (World.block_lt_of_cell? w _ hx166_6)).trans hx166_6
           have HR166_6 := Aside0.mk hi166_6
           have HC166_6 := Aside0.mk hl166_6
           clear hi166_6 hl166_6
           replace p166 := eq_true p166
           replace q166 := eq_true q166
           have p167 : 0 ≤ (x6_1 : Int) := of_decide_eq_true (by first | (with_reducible assumption) | assumption)
           have q167 : x6_1 < (l0_0.length : Int) := of_decide_eq_true (by first | (with_reducible assumption) | assumption)
           obtain ⟨ad167, A167_6, c167_6, e167, hx167_0, hx167_1, hx167_2, hx167_3, hx167_4, hx167_5, hx167_6, hl167_6, hi167_6⟩ := at_T44 HR0_0.out x6_1 p167 q167
           obtain rfl : ad166 = ad167 := (by injection e167)
           replace hx167_0 := (HB.out.cell (World.block_lt_of_cell? w _ hx167_0)).trans hx167_0
           replace hx167_1 := (HB.out.cell (World.block_lt_of_cell? w _ hx167_1)).trans hx167_1
           replace hx167_2 := (HB.out.cell (World.block_lt_of_cell? w _ hx167_2)).trans hx167_2
           replace hx167_3 := (HB.out.cell (World.block_lt_of_cell? w _ hx167_3)).trans hx167_3
           replace hx167_4 := (HB.out.cell (World.block_lt_of_cell? w _ hx167_4)).trans hx167_4
           replace hx167_5 := (HB.out.cell (World.block_lt_of_cell? w _ hx167_5)).trans hx167_5
           replace hx167_6 := (HB.out.cell (World.block_lt_of_cell? w _ hx167_6)).trans hx167_6
           have HR167_6 := Aside0.mk hi167_6
           have HC167_6 := Aside0.mk hl167_6
           clear hi167_6 hl167_6
           replace p167 := eq_true p167
           replace q167 := eq_true q167
           have ea_ := Option.some.inj (hx166_6.symm.trans hx167_6)
           injection ea_ with ea_ en_ ec_
           subst ea_
           subst ec_
           clear en_
           have p168 : 0 ≤ (x7_2 : Int) := of_decide_eq_true (by first | (with_reducible assumption) | assumption)
           have q168 : x7_2 < (((rd_T44 l0_0 x6_1).f6).length : Int) := of_decide_eq_true (by first | (with_reducible assumption) | assumption)
           obtain ⟨ad168, e168, hx168_0, hx168_1⟩ := at_T61 HR167_6.out x7_2 p168 q168
           cases e168
           replace hx168_0 := (HB.out.cell (World.block_lt_of_cell? w _ hx168_0)).trans hx168_0
           replace hx168_1 := (HB.out.cell (World.block_lt_of_cell? w _ hx168_1)).trans hx168_1
           replace p168 := eq_true p168
           replace q168 := eq_true q168
           go_wp2
           go_roundg k2
           case measure => have := HK1.out; have := HK2.out; omega
           case rel => exact ⟨(wrap64 (x5_2 + 1)), (wrap64 (x7_2 + 1)), (by first | rfl | (simp; done) | (simp [*]; done)), (by first | rfl | (simp; done) | (simp [*]; done)), H', ⟨by have := HK1.out; have := HK2.out; omega⟩, ⟨by (with_reducible repeat (first | refine blk_drewN ?_ _ | refine blk_drew ?_ | refine blk_alloc ?_ _)); exact BK165.out⟩, ⟨by repeat (first | (with_reducible first | exact HB.out | apply below_alloc | apply pw_below_drewN | apply below_drew1 | refine below_set ?_ GE165.out) | exact HB.out)⟩⟩
          ·
           rw [if_neg c10] at H
           have c10b0 : (((rd_T61 ((rd_T44 l0_0 x6_1).f6) x7_2).f1) == a1) = false := beq_eq_false_iff_ne.mpr c10
           have c10b1 : (((rd_T61 ((rd_T44 l0_0 x6_1).f6) x7_2).f1) != a1) = true := bne_iff_ne.mpr c10
           have H' := Aside0.mk H
           clear H
           have hcz12_0 : wr.cell? ⟨gb165, 0, none⟩ = some (.slice A0_0 l0_0.length c0_0) := (blk_cell BK165.out 0).trans rfl
           have hcz12_1 : wr.cell? ⟨gb165, 1, none⟩ = some (.int .i64 a0_1) := (blk_cell BK165.out 1).trans rfl
           have hcz12_2 : wr.cell? ⟨gb165, 2, none⟩ = some (.int .i64 a0_2) := (blk_cell BK165.out 2).trans rfl
           have hcz12_3 : wr.cell? ⟨gb165, 3, none⟩ = some (.int .i64 a0_3) := (blk_cell BK165.out 3).trans rfl
           have hfz12_0 := blk_frozen BK165.out 0
           have hfz12_1 := blk_frozen BK165.out 1
           have hfz12_2 := blk_frozen BK165.out 2
           have hfz12_3 := blk_frozen BK165.out 3
           have p166 : 0 ≤ (x6_1 : Int) := of_decide_eq_true (by first | (with_reducible assumption) | assumption)
           have q166 : x6_1 < (l0_0.length : Int) := of_decide_eq_true (by first | (with_reducible assumption) | assumption)
           obtain ⟨ad166, A166_6, c166_6, e166, hx166_0, hx166_1, hx166_2, hx166_3, hx166_4, hx166_5, hx166_6, hl166_6, hi166_6⟩ := at_T44 HR0_0.out x6_1 p166 q166
           cases e166
           replace hx166_0 := (HB.out.cell (World.block_lt_of_cell? w _ hx166_0)).trans hx166_0
           replace hx166_1 := (HB.out.cell (World.block_lt_of_cell? w _ hx166_1)).trans hx166_1
           replace hx166_2 := (HB.out.cell (World.block_lt_of_cell? w _ hx166_2)).trans hx166_2
           replace hx166_3 := (HB.out.cell (World.block_lt_of_cell? w _ hx166_3)).trans hx166_3
           replace hx166_4 := (HB.out.cell (World.block_lt_of_cell? w _ hx166_4)).trans hx166_4
           replace hx166_5 := (HB.out.cell (World.block_lt_of_cell? w _ hx166_5)).trans hx166_5
           replace hx166_6 := (HB.out.cell (World.block_lt_of_cell? w _ hx166_6)).trans hx166_6
           have HR166_6 := Aside0.mk hi166_6
           have HC166_6 := Aside0.mk hl166_6
           clear hi166_6 hl166_6
           replace p166 := eq_true p166
           replace q166 := eq_true q166
           have p167 : 0 ≤ (x6_1 : Int) := of_decide_eq_true (by first | (with_reducible assumption) | assumption)
           have q167 : x6_1 < (l0_0.length : Int) := of_decide_eq_true (by first | (with_reducible assumption) | assumption)
           obtain ⟨ad167, A167_6, c167_6, e167, hx167_0, hx167_1, hx167_2, hx167_3, hx167_4, hx167_5, hx167_6, hl167_6, hi167_6⟩ := at_T44 HR0_0.out x6_1 p167 q167
           obtain rfl : ad166 = ad167 := (by injection e167)
           replace hx167_0 := (HB.out.cell (World.block_lt_of_cell? w _ hx167_0)).trans hx167_0
           replace hx167_1 := (HB.out.cell (World.block_lt_of_cell? w _ hx167_1)).trans hx167_1
           replace hx167_2 := (HB.out.cell (World.block_lt_of_cell? w _ hx167_2)).trans hx167_2
           replace hx167_3 := (HB.out.cell (World.block_lt_of_cell? w _ hx167_3)).trans hx167_3
           replace hx167_4 := (HB.out.cell (World.block_lt_of_cell? w _ hx167_4)).trans hx167_4
           replace hx167_5 := (HB.out.cell (World.block_lt_of_cell? w _ hx167_5)).trans hx167_5
           replace hx167_6 := (HB.out.cell (World.block_lt_of_cell? w _ hx167_6)).trans hx167_6
           have HR167_6 := Aside0.mk hi167_6
           have HC167_6 := Aside0.mk hl167_6
           clear hi167_6 hl167_6
           replace p167 := eq_true p167
           replace q167 := eq_true q167
           have ea_ := Option.some.inj (hx166_6.symm.trans hx167_6)
           injection ea_ with ea_ en_ ec_
           subst ea_
           subst ec_
           clear en_
           have p168 : 0 ≤ (x7_2 : Int) := of_decide_eq_true (by first | (with_reducible assumption) | assumption)
           have q168 : x7_2 < (((rd_T44 l0_0 x6_1).f6).length : Int) := of_decide_eq_true (by first | (with_reducible assumption) | assumption)
           obtain ⟨ad168, e168, hx168_0, hx168_1⟩ := at_T61 HR167_6.out x7_2 p168 q168
           cases e168
           replace hx168_0 := (HB.out.cell (World.block_lt_of_cell? w _ hx168_0)).trans hx168_0
           replace hx168_1 := (HB.out.cell (World.block_lt_of_cell? w _ hx168_1)).trans hx168_1
           replace p168 := eq_true p168
           replace q168 := eq_true q168
           go_wp2
           go_roundg k2
           case measure => have := HK1.out; have := HK2.out; omega
           case rel => exact ⟨(x5_2), (wrap64 (x7_2 + 1)), (by first | rfl | (simp; done) | (simp [*]; done)), (by first | rfl | (simp; done) | (simp [*]; done)), H', ⟨by have := HK1.out; have := HK2.out; omega⟩, ⟨by (with_reducible repeat (first | refine blk_drewN ?_ _ | refine blk_drew ?_ | refine blk_alloc ?_ _)); exact BK165.out⟩, ⟨by repeat (first | (with_reducible first | exact HB.out | apply below_alloc | apply pw_below_drewN | apply below_drew1 | refine below_set ?_ GE165.out) | exact HB.out)⟩⟩
         ·
          rw [if_neg c9] at H
          exact absurd H (by simp)
        ·
         rw [if_neg c8] at H
         have c8b0 : decide (x7_2 < (((rd_T44 l0_0 x6_1).f6).length : Int)) = false := decide_eq_false c8
         clear c8
         have H' := Aside0.mk H
         clear H
         have hcz13_0 : wr.cell? ⟨gb165, 0, none⟩ = some (.slice A0_0 l0_0.length c0_0) := (blk_cell BK165.out 0).trans rfl
         have hcz13_1 : wr.cell? ⟨gb165, 1, none⟩ = some (.int .i64 a0_1) := (blk_cell BK165.out 1).trans rfl
         have hcz13_2 : wr.cell? ⟨gb165, 2, none⟩ = some (.int .i64 a0_2) := (blk_cell BK165.out 2).trans rfl
         have hcz13_3 : wr.cell? ⟨gb165, 3, none⟩ = some (.int .i64 a0_3) := (blk_cell BK165.out 3).trans rfl
         have hfz13_0 := blk_frozen BK165.out 0
         have hfz13_1 := blk_frozen BK165.out 1
         have hfz13_2 := blk_frozen BK165.out 2
         have hfz13_3 := blk_frozen BK165.out 3
         have p166 : 0 ≤ (x6_1 : Int) := of_decide_eq_true (by first | (with_reducible assumption) | assumption)
         have q166 : x6_1 < (l0_0.length : Int) := of_decide_eq_true (by first | (with_reducible assumption) | assumption)
         obtain ⟨ad166, A166_6, c166_6, e166, hx166_0, hx166_1, hx166_2, hx166_3, hx166_4, hx166_5, hx166_6, hl166_6, hi166_6⟩ := at_T44 HR0_0.out x6_1 p166 q166
         cases e166
         replace hx166_0 := (HB.out.cell (World.block_lt_of_cell? w _ hx166_0)).trans hx166_0
         replace hx166_1 := (HB.out.cell (World.block_lt_of_cell? w _ hx166_1)).trans hx166_1
         replace hx166_2 := (HB.out.cell (World.block_lt_of_cell? w _ hx166_2)).trans hx166_2
         replace hx166_3 := (HB.out.cell (World.block_lt_of_cell? w _ hx166_3)).trans hx166_3
         replace hx166_4 := (HB.out.cell (World.block_lt_of_cell? w _ hx166_4)).trans hx166_4
         replace hx166_5 := (HB.out.cell (World.block_lt_of_cell? w _ hx166_5)).trans hx166_5
         replace hx166_6 := (HB.out.cell (World.block_lt_of_cell? w _ hx166_6)).trans hx166_6
         have HR166_6 := Aside0.mk hi166_6
         have HC166_6 := Aside0.mk hl166_6
         clear hi166_6 hl166_6
         replace p166 := eq_true p166
         replace q166 := eq_true q166
         go_wp2
         go_roundg k2
         case measure => have := HK1.out; have := HK2.out; omega
         case rel => exact ⟨(x5_2), (wrap64 (x6_1 + 1)), (by first | rfl | (simp; done) | (simp [*]; done)), (by first | rfl | (simp; done) | (simp [*]; done)), H', ⟨by have := HK1.out; have := HK2.out; omega⟩, ⟨by (with_reducible repeat (first | refine blk_drewN ?_ _ | refine blk_drew ?_ | refine blk_alloc ?_ _)); exact BK165.out⟩, ⟨by repeat (first | (with_reducible first | exact HB.out | apply below_alloc | apply pw_below_drewN | apply below_drew1 | refine below_set ?_ GE165.out) | exact HB.out)⟩⟩
       ·
        rw [if_neg c7] at H
        exact absurd H (by simp)
      ·
       rw [if_neg c6] at H
       exact absurd H (by simp)
   ·
    rw [if_neg c4] at H
    have c4b0 : decide (x6_1 < (l0_0.length : Int)) = false := decide_eq_false c4
    clear c4
    obtain rfl := Option.some.inj H
    have hcz14_0 : wr.cell? ⟨gb165, 0, none⟩ = some (.slice A0_0 l0_0.length c0_0) := (blk_cell BK165.out 0).trans rfl
    have hcz14_1 : wr.cell? ⟨gb165, 1, none⟩ = some (.int .i64 a0_1) := (blk_cell BK165.out 1).trans rfl
    have hcz14_2 : wr.cell? ⟨gb165, 2, none⟩ = some (.int .i64 a0_2) := (blk_cell BK165.out 2).trans rfl
    have hcz14_3 : wr.cell? ⟨gb165, 3, none⟩ = some (.int .i64 a0_3) := (blk_cell BK165.out 3).trans rfl
    have hfz14_0 := blk_frozen BK165.out 0
    have hfz14_1 := blk_frozen BK165.out 1
    have hfz14_2 := blk_frozen BK165.out 2
    have hfz14_3 := blk_frozen BK165.out 3
    go_wp2
    go_ret
    exact ⟨by first | rfl | (simp [errW_none, errW_some] <;> rfl) | (simp [*, errW_none, errW_some] <;> rfl), by repeat (first | (with_reducible first | exact HB.out | apply below_alloc | apply pw_below_drewN | apply below_drew1 | refine below_set ?_ GE165.out) | exact HB.out)⟩
end Go.Proofs.YtnpnablnnfekkaaDoor.PTr
namespace Go.Proofs.YtnpnablnnfekkaaDoor.PTr
open Go.RowKit Go.Proofs.YtnpnablnnfekkaaDoorW.PrintWords Go.Proofs.YtnpnablnnfekkaaDoorW.PrintLast Go.Proofs.YtnpnablnnfekkaaDoorW.PrintMore
attribute [local go_sem] max2_int min2_int max_two min_two max_three min_three max_four min_four   -- for this text's walks alone
set_option linter.unusedVariables false
set_option linter.unusedSimpArgs false
theorem ob_len_PTr17 (A : Option Addr) (n m c d : Nat) : (Value.slice A n c).ownBlock = (Value.slice A m d).ownBlock := by cases A <;> rfl
mutual
def rehearsalref04_Way.l0 : Nat → Int → ByteArray → List (S87) → Int → Int → List (S44) → Int → Int → Int → Option ((List (S87)))
 | 0, _, _, _, _, _, _, _, _, _ => none
 | k + 1, x1, x2, x3, x9, x10, x181000, x181001, x181002, x181003 => if x10 < (x3.length : Int) then (if 0 ≤ x10 then (if ((rd_T87 x3 x10).f0) = x1 then (some x3) else (rehearsalref04_Way.l0 k x1 x2 x3 x9 (wrap64 (x10 + 1)) x181000 x181001 x181002 x181003)) else (none)) else (if x9 < 0 then (some x3) else (if x3.length < 5864062014805 then (rehearsalref04_Way.l1 k x2 (x3 ++ [(⟨x1, x2⟩ : S87)]) x9 0 x181000 x181001 x181002 x181003) else (none)))
def rehearsalref04_Way.l1 : Nat → ByteArray → List (S87) → Int → Int → List (S44) → Int → Int → Int → Option ((List (S87)))
 | 0, _, _, _, _, _, _, _, _ => none
 | k + 1, x2, x3, x9, x11, x181000, x181001, x181002, x181003 => if 0 ≤ x9 then (if x9 < (x181000.length : Int) then (if x11 < (((rd_T44 x181000 x9).f6).length : Int) then (if 0 ≤ x11 then ((rehearsalref03_Join.f k x2 ((rd_T61 ((rd_T44 x181000 x9).f6) x11).f0)).bind fun t191 => ((rehearsalref04_Way.f k x181000 x181001 x181002 x181003 ((rd_T61 ((rd_T44 x181000 x9).f6) x11).f1) t191 x3).bind fun t192 => (rehearsalref04_Way.l1 k x2 t192 x9 (wrap64 (x11 + 1)) x181000 x181001 x181002 x181003))) else (none)) else (some x3)) else (none)) else (none)
def rehearsalref04_Way.f : Nat → List (S44) → Int → Int → Int → Int → ByteArray → List (S87) → Option ((List (S87)))
 | 0, _, _, _, _, _, _, _ => none
 | k + 1, l0_0, a0_1, a0_2, a0_3, a1, a2, l3 => (rehearsalref04_Place.f k l0_0 a0_1 a0_2 a0_3 a1).bind fun t181 => (rehearsalref04_Way.l0 k a1 a2 l3 t181 0 l0_0 a0_1 a0_2 a0_3)
end
def rehearsalref04_Way.T13 : Bool × List (List Nat × List Nat) := (true, [([], []), ([], []), ([1], [1]), ([], []), ([2, 3], [2, 3]), ([4], [4]), ([5], [5]), ([], []), ([6, 7], [6, 7]), ([8], [8]), ([9], [9]), ([], []), ([], []), ([12], [12]), ([], []), ([13, 14], [13, 14]), ([15], [15]), ([16], [16]), ([], []), ([17, 18], [17, 18]), ([19], [19]), ([20], [20]), ([11, 21], [11, 21]), ([], []), ([0, 10, 22, 23, 22], [0, 10, 22, 23]), ([24, 24, 0, 1, 2, 3, 4, 5, 6, 7, 8, 9, 10, 11, 12, 13, 14, 15, 16, 17, 18, 19, 20, 21, 22, 23, 24], [23, 24])])
def rehearsalref04_Way.B13 : List Nat := [0, 0, 2, 0, 14, 30, 62, 0, 254, 510, 1022, 0, 0, 4096, 0, 28672, 61440, 126976, 0, 520192, 1044480, 2093056, 4192256, 0, 16777215, 33554431]
theorem rehearsalref04_Way.tab13 : rtab .any (opsOf Tryd.f62 13) = rehearsalref04_Way.T13 := by kernel_rfl
theorem rehearsalref04_Way.bits13 : waitsOk rehearsalref04_Way.T13.2 rehearsalref04_Way.B13 = true := by kernel_rfl
set_option maxHeartbeats 8000000 in
set_option maxRecDepth 100000 in
theorem rehearsalref04_Way.calls (k : Nat) : ∀ (A0_0 : Option Addr) (c0_0 : Nat) (l0_0 : List (S44)) (a0_1 : Int) (a0_2 : Int) (a0_3 : Int) (a1 : Int) (a2 : ByteArray) (P3_ : Nat → Prop) (u9000_ : Value) (l3 : List (S87)) (r : List (S87)) (w0 w : World) (hB : Below w0.heap.size w0 w) (hr0_0 : ∀ W_, Kept w W_ (fun k_ => P3_ k_) → Kd.C k44 W_ A0_0 l0_0.length l0_0) (hc0_0 : l0_0.length ≤ c0_0) (ho3 : Kd.R k87 87 w w0.heap.size P3_ u9000_ l3) (h : rehearsalref04_Way.f k l0_0 a0_1 a0_2 a0_3 a1 a2 l3 = some r),
  Calls Tryd.prog 62 #[.agg #[.slice A0_0 l0_0.length c0_0, .int .i64 a0_1, .int .i64 a0_2, .int .i64 a0_3], .int .i64 a1, .string a2, u9000_] w fun e w' => ∃ v0_ : Value, e = .returned (v0_) ∧ Kd.R k87 87 w' w0.heap.size (fun k_ => (P3_ k_ ∨ w.heap.size ≤ k_)) v0_ r ∧ Below w0.heap.size w0 w' ∧ Kept w w' (fun k_ => P3_ k_) := by
 induction k using Nat.strongRecOn with
 | _ k ih =>
 intro A0_0 c0_0 l0_0 a0_1 a0_2 a0_3 a1 a2 P3_ u9000_ l3 r w0 w hB hr0_0 hc0_0 ho3 h
 cases k with
 | zero => exact absurd h (by simp [rehearsalref04_Way.f])
 | succ k =>
 simp only [rehearsalref04_Way.f] at h
 have hu26 := Tryd.underlying26
 have hu87 := Tryd.underlying87
 have HR0_0 := Aside0.mk hr0_0
 have HC0_0 := Aside0.mk hc0_0
 clear hr0_0 hc0_0
 have HO3 := Aside0.mk (show Kd.R k87 87 w w0.heap.size (fun k_ => (P3_ k_ ∨ w.heap.size ≤ k_)) u9000_ l3 from Kd.R_mono ho3 (fun k_ hk => (.inl hk)))
 have HK := Aside0.mk (Kept.refl w (fun k_ => P3_ k_))
 have HW0 := Aside0.mk hB.size
 have HB := Aside0.mk hB
 clear hB
 have H : ((rehearsalref04_Place.f k l0_0 a0_1 a0_2 a0_3 a1).bind fun t181 => (rehearsalref04_Way.l0 k a1 a2 l3 t181 0 l0_0 a0_1 a0_2 a0_3)) = some r := h
 clear h
 replace H := Option.bind_eq_some_iff.mp H
 obtain ⟨t181, A50, H⟩ := H
 replace H : (rehearsalref04_Way.l0 k a1 a2 l3 t181 0 l0_0 a0_1 a0_2 a0_3) = some r := H
 have A5 := Aside0.mk A50
 clear A50
 have H' := Aside0.mk H
 clear H
 go_enter Tryd.func62, Tryd.ntmps62
 go_wp2_with (first | ((with_reducible refine gate_dst (N := 4) rfl ?_); refine box_event ?hg (N := 4) ?hd (cs := #[.slice A0_0 l0_0.length c0_0, .int .i64 a0_1, .int .i64 a0_2, .int .i64 a0_3]) (t := 26) ?hr ?_; (case hd => rfl); (case hg => rfl); (case hr => first | (go_simp; done) | (go_simp; rfl)); intro gb180 hg w6 hbox hb; have n0_ := Aside0.mk (Kd.R_below (by (with_reducible repeat (first | apply Kd.R_alloc | apply Kd.R_drewN | apply Kd.R_drew)); exact HO3.out) hb); have n1_ := Aside0.mk (Kept.below (S := (fun k_ => P3_ k_)) (by repeat (first | (with_reducible first | exact HK.out | apply Kept.alloc | apply Kept.drewN | apply Kept.drew) | exact HK.out)) hb); have n2_ := Aside0.mk (below_step (by repeat (first | (with_reducible first | exact HB.out | apply below_alloc | apply pw_below_drewN | apply below_drew1) | exact HB.out)) hb); have n3_ := Aside0.mk (hbox); have n4_ := Aside0.mk ((by rw [hg]; exact (by first | exact HK.out.1 | exact (show Kept w _ (fun k_ => P3_ k_) from by repeat (first | (with_reducible first | exact HK.out | apply Kept.alloc | apply Kept.drewN | apply Kept.drew) | exact HK.out)).1) : w.heap.size ≤ gb180)); have n5_ := Aside0.mk ((by rw [hg]; exact (below_size (by repeat (first | (with_reducible first | exact HB.out | apply below_alloc | apply pw_below_drewN | apply below_drew1) | exact HB.out))) : w0.heap.size ≤ gb180)); clear HO3; clear HK; clear HB; have HO3 := n0_; have HK := n1_; have HB := n2_; have BK180 := n3_; have GW180 := n4_; have GE180 := n5_; clear n0_ n1_ n2_ n3_ n4_ n5_; clear hb hbox hg; have hcz7_0 : w6.cell? ⟨gb180, 0, none⟩ = some (.slice A0_0 l0_0.length c0_0) := (blk_cell BK180.out 0).trans rfl; have hcz7_1 : w6.cell? ⟨gb180, 1, none⟩ = some (.int .i64 a0_1) := (blk_cell BK180.out 1).trans rfl; have hcz7_2 : w6.cell? ⟨gb180, 2, none⟩ = some (.int .i64 a0_2) := (blk_cell BK180.out 2).trans rfl; have hcz7_3 : w6.cell? ⟨gb180, 3, none⟩ = some (.int .i64 a0_3) := (blk_cell BK180.out 3).trans rfl; have hfz7_0 := blk_frozen BK180.out 0; have hfz7_1 := blk_frozen BK180.out 1; have hfz7_2 := blk_frozen BK180.out 2; have hfz7_3 := blk_frozen BK180.out 3) | ((with_reducible refine gate_callee (f := 61) rfl ?_); refine goesL_ (some 14) rfl rfl Tryd.func61 (by kernel_rfl) rfl #[.agg #[.slice A0_0 l0_0.length c0_0, .int .i64 a0_1, .int .i64 a0_2, .int .i64 a0_3], .int .i64 a1] rfl (by (try simp only [List.map_toArray, List.map_cons, List.map_nil]); first | done | rfl | (simp only [List.length_drop, List.length_take]; rfl)) ?_; (with_reducible refine (rehearsalref04_Place.calls k _ _ l0_0 a0_1 a0_2 a0_3 a1 t181 _ ?side1 ?side2 A5.out).mono ?_); (case side1 => exact Kd.C_kept_now HR0_0.out (by repeat (first | (with_reducible first | exact HK.out | apply Kept.alloc | apply Kept.drewN | apply Kept.drew | refine Kept.setCell ?_ (.inr GW180.out) _) | exact HK.out))); (case side2 => exact HC0_0.out); rintro e w8 ⟨rfl, hb⟩; refine ⟨_, rfl, ?_⟩; have n0_ := Aside0.mk (Kd.R_below (by (with_reducible repeat (first | apply Kd.R_alloc | apply Kd.R_drewN | apply Kd.R_drew)); exact HO3.out) hb); have n1_ := Aside0.mk (blk_below (g := gb180) (o := .cells #[.slice A0_0 l0_0.length c0_0, .int .i64 a0_1, .int .i64 a0_2, .int .i64 a0_3] 26 (0, 0)) (by (with_reducible repeat (first | refine blk_drewN ?_ _ | refine blk_drew ?_ | refine blk_alloc ?_ _)); exact BK180.out) hb); have n2_ := Aside0.mk (Kept.below (S := (fun k_ => P3_ k_)) (by repeat (first | (with_reducible first | exact HK.out | apply Kept.alloc | apply Kept.drewN | apply Kept.drew | refine Kept.setCell ?_ (.inr GW180.out) _) | exact HK.out)) hb); have n3_ := Aside0.mk (below_step (by repeat (first | (with_reducible first | exact HB.out | apply below_alloc | apply pw_below_drewN | apply below_drew1 | refine below_set ?_ GE180.out) | exact HB.out)) hb); clear HO3; clear BK180; clear HK; clear HB; have HO3 := n0_; have BK180 := n1_; have HK := n2_; have HB := n3_; clear n0_ n1_ n2_ n3_; (try clear hb); (try clear hb2); (try clear hk); (try clear hi)))
 go_loopg [10] k (fun kq v10 w' => ∃ (x10_1 : Int), v10 = .int .i64 x10_1 ∧ Aside0 (rehearsalref04_Way.l0 kq a1 a2 l3 t181 x10_1 l0_0 a0_1 a0_2 a0_3 = some r) ∧ Aside0 (kq ≤ k) ∧ Aside0 (Kd.R k87 87 w' w0.heap.size (fun k_ => (P3_ k_ ∨ w.heap.size ≤ k_)) u9000_ l3) ∧ Aside0 (w'.heap[gb180]? = some (.cells #[(.slice A0_0 l0_0.length c0_0), .int .i64 a0_1, .int .i64 a0_2, .int .i64 a0_3] 26 (0, 0))) ∧ Aside0 (Kept w w' (fun k_ => P3_ k_)) ∧ Aside0 (Below w0.heap.size w0 w'))
 case atStart => exact ⟨(0), (by first | rfl | (simp; done) | (simp [*]; done)), H', ⟨Nat.le_refl _⟩, ⟨by (with_reducible repeat (first | apply Kd.R_alloc | apply Kd.R_drewN | apply Kd.R_drew)); exact HO3.out⟩, ⟨by (with_reducible repeat (first | refine blk_drewN ?_ _ | refine blk_drew ?_ | refine blk_alloc ?_ _)); exact BK180.out⟩, ⟨by repeat (first | (with_reducible first | exact HK.out | apply Kept.alloc | apply Kept.drewN | apply Kept.drew | refine Kept.setCell ?_ (.inr GW180.out) _) | exact HK.out)⟩, ⟨by repeat (first | (with_reducible first | exact HB.out | apply below_alloc | apply pw_below_drewN | apply below_drew1 | refine below_set ?_ GE180.out) | exact HB.out)⟩⟩
 case round =>
  clear H'
  try clear p2
  try clear c6
  try clear hcz7_0
  try clear hcz7_1
  try clear hcz7_2
  try clear hcz7_3
  try clear hfz7_0
  try clear hfz7_1
  try clear hfz7_2
  try clear hfz7_3
  obtain ⟨x10_1, rfl, HA, HK1, HO_3, BK180, HK, HB⟩ := hrel
  cases gk with
  | zero => exact absurd HA.out (by simp [rehearsalref04_Way.l0])
  | succ k1 =>
   have H := HA.out
   clear HA
   simp only [rehearsalref04_Way.l0] at H
   by_cases c9 : x10_1 < (l3.length : Int)
   ·
    rw [if_pos c9] at H
    have c9b0 : decide (x10_1 < (l3.length : Int)) = true := decide_eq_true c9
    clear c9
    by_cases c10 : 0 ≤ x10_1
    ·
     rw [if_pos c10] at H
     have c10b0 : decide (0 ≤ x10_1) = true := decide_eq_true c10
     clear c10
     by_cases c11 : ((rd_T87 l3 x10_1).f0) = a1
     ·
      rw [if_pos c11] at H
      have c11b0 : (((rd_T87 l3 x10_1).f0) == a1) = true := beq_iff_eq.mpr c11
      have c11b1 : (((rd_T87 l3 x10_1).f0) != a1) = false := bne_eq_false_iff_eq.mpr c11
      clear c11
      obtain rfl := Option.some.inj H
      obtain ⟨Ao12, co12, eo12⟩ := Kd.R_slice HO_3.out
      subst eo12
      have p182 : 0 ≤ (x10_1 : Int) := of_decide_eq_true (by first | (with_reducible assumption) | assumption)
      have q182 : x10_1 < (l3.length : Int) := of_decide_eq_true (by first | (with_reducible assumption) | assumption)
      obtain ⟨ad182, e182, hx182_0, hx182_1⟩ := at_T87 (Kd.R_reads' HO_3.out).2.2 x10_1 p182 q182
      cases e182
      replace p182 := eq_true p182
      replace q182 := eq_true q182
      go_wp2
      go_ret
      exact ⟨_, by first | rfl | (simp [errW_none, errW_some] <;> rfl) | (simp [*, errW_none, errW_some] <;> rfl), by (with_reducible repeat (first | apply Kd.R_alloc | apply Kd.R_drewN | apply Kd.R_drew)); exact HO_3.out, by repeat (first | (with_reducible first | exact HB.out | apply below_alloc | apply pw_below_drewN | apply below_drew1 | refine below_set ?_ GE180.out) | exact HB.out), by repeat (first | (with_reducible first | exact HK.out | apply Kept.alloc | apply Kept.drewN | apply Kept.drew | refine Kept.setCell ?_ (.inr GW180.out) _) | exact HK.out)⟩
     ·
      rw [if_neg c11] at H
      have c11b0 : (((rd_T87 l3 x10_1).f0) == a1) = false := beq_eq_false_iff_ne.mpr c11
      have c11b1 : (((rd_T87 l3 x10_1).f0) != a1) = true := bne_iff_ne.mpr c11
      have H' := Aside0.mk H
      clear H
      obtain ⟨Ao13, co13, eo13⟩ := Kd.R_slice HO_3.out
      subst eo13
      have p182 : 0 ≤ (x10_1 : Int) := of_decide_eq_true (by first | (with_reducible assumption) | assumption)
      have q182 : x10_1 < (l3.length : Int) := of_decide_eq_true (by first | (with_reducible assumption) | assumption)
      obtain ⟨ad182, e182, hx182_0, hx182_1⟩ := at_T87 (Kd.R_reads' HO_3.out).2.2 x10_1 p182 q182
      cases e182
      replace p182 := eq_true p182
      replace q182 := eq_true q182
      go_wp2
      go_roundg k1
      case measure => have := HK1.out; omega
      case rel => exact ⟨(wrap64 (x10_1 + 1)), (by first | rfl | (simp; done) | (simp [*]; done)), H', ⟨by have := HK1.out; omega⟩, ⟨by (with_reducible repeat (first | apply Kd.R_alloc | apply Kd.R_drewN | apply Kd.R_drew)); (first | exact HO_3.out | exact Kd.R_mono HO_3.out (fun _ hk e => hk (e.trans (ob_len_PTr17 _ _ _ _ _))))⟩, ⟨by (with_reducible repeat (first | refine blk_drewN ?_ _ | refine blk_drew ?_ | refine blk_alloc ?_ _)); exact BK180.out⟩, ⟨by repeat (first | (with_reducible first | exact HK.out | apply Kept.alloc | apply Kept.drewN | apply Kept.drew | refine Kept.setCell ?_ (.inr GW180.out) _) | exact HK.out)⟩, ⟨by repeat (first | (with_reducible first | exact HB.out | apply below_alloc | apply pw_below_drewN | apply below_drew1 | refine below_set ?_ GE180.out) | exact HB.out)⟩⟩
    ·
     rw [if_neg c10] at H
     exact absurd H (by simp)
   ·
    rw [if_neg c9] at H
    have c9b0 : decide (x10_1 < (l3.length : Int)) = false := decide_eq_false c9
    clear c9
    by_cases c14 : t181 < 0
    ·
     rw [if_pos c14] at H
     have c14b0 : decide (t181 < 0) = true := decide_eq_true c14
     clear c14
     obtain rfl := Option.some.inj H
     obtain ⟨Ao15, co15, eo15⟩ := Kd.R_slice HO_3.out
     subst eo15
     go_wp2
     go_ret
     exact ⟨_, by first | rfl | (simp [errW_none, errW_some] <;> rfl) | (simp [*, errW_none, errW_some] <;> rfl), by (with_reducible repeat (first | apply Kd.R_alloc | apply Kd.R_drewN | apply Kd.R_drew)); exact HO_3.out, by repeat (first | (with_reducible first | exact HB.out | apply below_alloc | apply pw_below_drewN | apply below_drew1 | refine below_set ?_ GE180.out) | exact HB.out), by repeat (first | (with_reducible first | exact HK.out | apply Kept.alloc | apply Kept.drewN | apply Kept.drew | refine Kept.setCell ?_ (.inr GW180.out) _) | exact HK.out)⟩
    ·
     rw [if_neg c14] at H
     have c14b0 : decide (t181 < 0) = false := decide_eq_false c14
     clear c14
     by_cases c16 : l3.length < 5864062014805
     ·
      rw [if_pos c16] at H
      have LMc16 := Aside0.mk c16
      clear c16
      obtain ⟨y183, hy183⟩ : ∃ y_ : List (S87), y_ = (l3 ++ [(⟨a1, a2⟩ : S87)]) := ⟨_, rfl⟩
      replace H : (rehearsalref04_Way.l1 k1 a2 y183 t181 0 l0_0 a0_1 a0_2 a0_3) = some r := by first | (rw [hy183]; with_reducible exact H) | (have H2_ := (Option.bind_some _ _).symm.trans H; rw [hy183]; with_reducible exact H2_) | (have H2_ := (Option.bind_some _ _).symm.trans H; with_reducible exact H2_) | with_reducible exact H | (rw [hy183]; exact H) | exact H
      have Ny183 := Aside0.mk hy183
      clear hy183
      have H' := Aside0.mk H
      clear H
      obtain ⟨Ao17, co17, eo17⟩ := Kd.R_slice HO_3.out
      subst eo17
      go_wp2_with (first | ((with_reducible refine gate_builtin (b := .append) (xs := #[.tmp 32, .tmp 36]) rfl ?_); at_builtin; refine Kd.R_append k87 (w0 := w0) w0.heap.size rfl (.tmp 32) (.tmp 36) 78 87 (.agg #[(.int .i64 0), (.string ⟨#[]⟩)]) 24 rfl Tryd.underlying78 info87 rfl (by decide) (by omega) (.slice Ao17 l3.length co17) l3 (⟨a1, a2⟩ : S87) [.int .i64 a1, .string a2] (fun k_ => (P3_ k_ ∨ w.heap.size ≤ k_)) (fun _ => False) rfl rfl ?aP (fun _ hk => hk.elim) ?aF ?aO ?aB ?aS ?aL ?_; (case aP => exact k87_mkM _ _ _ (⟨a1, a2⟩ : S87)); (case aB => exact (by repeat (first | (with_reducible first | exact HB.out | apply below_alloc | apply pw_below_drewN | apply below_drew1 | refine below_set ?_ GE180.out) | exact HB.out))); (case aF => exact (fun k_ hk => (.inr (Nat.le_trans (by first | exact HK.out.1 | exact (show Kept w _ (fun k_ => P3_ k_) from by repeat (first | (with_reducible first | exact HK.out | apply Kept.alloc | apply Kept.drewN | apply Kept.drew | refine Kept.setCell ?_ (.inr GW180.out) _) | exact HK.out)).1) hk)))); (case aO => exact (by (with_reducible repeat (first | apply Kd.R_alloc | apply Kd.R_drewN | apply Kd.R_drew)); exact HO_3.out)); (case aS => exact (below_size (by repeat (first | (with_reducible first | exact HB.out | apply below_alloc | apply pw_below_drewN | apply below_drew1 | refine below_set ?_ GE180.out) | exact HB.out)))); (case aL => have := LMc16.out; omega); intro v184 w18 ho hb hg hat; rw [← Ny183.out] at ho; have n0_ := Aside0.mk (blk_grown (g := gb180) (o := .cells #[.slice A0_0 l0_0.length c0_0, .int .i64 a0_1, .int .i64 a0_2, .int .i64 a0_3] 26 (0, 0)) (by (with_reducible repeat (first | refine blk_drewN ?_ _ | refine blk_drew ?_ | refine blk_alloc ?_ _)); exact BK180.out) hg (Kd.R_ne HO_3.out BK180.out (by decide))); have n1_ := Aside0.mk (hb); have n2_ := Aside0.mk (Kept.of_grown (S := (fun k_ => P3_ k_)) hg (by repeat (first | (with_reducible first | exact HK.out | apply Kept.alloc | apply Kept.drewN | apply Kept.drew | refine Kept.setCell ?_ (.inr GW180.out) _) | exact HK.out)) (fun k_ e_ => (HO_3.out.1 k_ e_))); have n3_ := Aside0.mk (ho); clear BK180; clear HB; clear HK; clear HO_3; have BK180 := n0_; have HB := n1_; have HK := n2_; have HO185 := n3_; clear n0_ n1_ n2_ n3_; clear ho hb hg hat))
      go_loopg [3, 11] k1 (fun kq v3 v11 w' => ∃ (x3_2 : List (S87)) (x11_2 : Int), v11 = .int .i64 x11_2 ∧ Aside0 (rehearsalref04_Way.l1 kq a2 x3_2 t181 x11_2 l0_0 a0_1 a0_2 a0_3 = some r) ∧ Aside0 (kq ≤ k1) ∧ Aside0 (Kd.R k87 87 w' w0.heap.size (fun k_ => (P3_ k_ ∨ w.heap.size ≤ k_)) v3 x3_2) ∧ Aside0 (w'.heap[gb180]? = some (.cells #[(.slice A0_0 l0_0.length c0_0), .int .i64 a0_1, .int .i64 a0_2, .int .i64 a0_3] 26 (0, 0))) ∧ Aside0 (Kept w w' (fun k_ => P3_ k_)) ∧ Aside0 (Below w0.heap.size w0 w'))
      case atStart => exact ⟨(y183), (0), (by first | rfl | (simp; done) | (simp [*]; done)), H', ⟨Nat.le_refl _⟩, ⟨by (with_reducible repeat (first | apply Kd.R_alloc | apply Kd.R_drewN | apply Kd.R_drew)); exact HO185.out⟩, ⟨by (with_reducible repeat (first | refine blk_drewN ?_ _ | refine blk_drew ?_ | refine blk_alloc ?_ _)); exact BK180.out⟩, ⟨by repeat (first | (with_reducible first | exact HK.out | apply Kept.alloc | apply Kept.drewN | apply Kept.drew | refine Kept.setCell ?_ (.inr GW180.out) _) | exact HK.out)⟩, ⟨by repeat (first | (with_reducible first | exact HB.out | apply below_alloc | apply pw_below_drewN | apply below_drew1 | refine below_set ?_ GE180.out) | exact HB.out)⟩⟩
      case round =>
       clear H'
       try clear c1
       try clear p1
       try clear q1
       try clear hx1
       try clear p2
       try clear c6
       try clear p6
       try clear c9
       try clear c9b0
       try clear c10
       try clear c10b0
       try clear c11
       try clear c11b0
       try clear c11b1
       try clear c14
       try clear c14b0
       try clear c16
       try clear p18
       try clear q18
       try clear hx18
       try clear hcz7_0
       try clear hcz7_1
       try clear hcz7_2
       try clear hcz7_3
       try clear hfz7_0
       try clear hfz7_1
       try clear hfz7_2
       try clear hfz7_3
       try clear hx182_0
       try clear hx182_1
       try clear p182
       try clear p2
       try clear q182
       obtain ⟨x3_2, x11_2, rfl, HA, HK2, HO_3, BK180, HK, HB⟩ := hrel
       cases gk with
       | zero => exact absurd HA.out (by simp [rehearsalref04_Way.l1])
       | succ k2 =>
        have H := HA.out
        clear HA
        simp only [rehearsalref04_Way.l1] at H
        by_cases c19 : 0 ≤ t181
        ·
         rw [if_pos c19] at H
         have c19b0 : decide (0 ≤ t181) = true := decide_eq_true c19
         clear c19
         by_cases c20 : t181 < (l0_0.length : Int)
         ·
          rw [if_pos c20] at H
          have c20b0 : decide (t181 < (l0_0.length : Int)) = true := decide_eq_true c20
          clear c20
          by_cases c21 : x11_2 < (((rd_T44 l0_0 t181).f6).length : Int)
          ·
           rw [if_pos c21] at H
           have c21b0 : decide (x11_2 < (((rd_T44 l0_0 t181).f6).length : Int)) = true := decide_eq_true c21
           clear c21
           by_cases c22 : 0 ≤ x11_2
           ·
            rw [if_pos c22] at H
            have c22b0 : decide (0 ≤ x11_2) = true := decide_eq_true c22
            clear c22
            replace H := Option.bind_eq_some_iff.mp H
            obtain ⟨t191, A230, H⟩ := H
            replace H : ((rehearsalref04_Way.f k2 l0_0 a0_1 a0_2 a0_3 ((rd_T61 ((rd_T44 l0_0 t181).f6) x11_2).f1) t191 x3_2).bind fun t192 => (rehearsalref04_Way.l1 k2 a2 t192 t181 (wrap64 (x11_2 + 1)) l0_0 a0_1 a0_2 a0_3)) = some r := H
            have A23 := Aside0.mk A230
            clear A230
            replace H := Option.bind_eq_some_iff.mp H
            obtain ⟨t192, A240, H⟩ := H
            replace H : (rehearsalref04_Way.l1 k2 a2 t192 t181 (wrap64 (x11_2 + 1)) l0_0 a0_1 a0_2 a0_3) = some r := H
            have A24 := Aside0.mk A240
            clear A240
            have H' := Aside0.mk H
            clear H
            have hcz25_0 : wr.cell? ⟨gb180, 0, none⟩ = some (.slice A0_0 l0_0.length c0_0) := (blk_cell BK180.out 0).trans rfl
            have hcz25_1 : wr.cell? ⟨gb180, 1, none⟩ = some (.int .i64 a0_1) := (blk_cell BK180.out 1).trans rfl
            have hcz25_2 : wr.cell? ⟨gb180, 2, none⟩ = some (.int .i64 a0_2) := (blk_cell BK180.out 2).trans rfl
            have hcz25_3 : wr.cell? ⟨gb180, 3, none⟩ = some (.int .i64 a0_3) := (blk_cell BK180.out 3).trans rfl
            have hfz25_0 := blk_frozen BK180.out 0
            have hfz25_1 := blk_frozen BK180.out 1
            have hfz25_2 := blk_frozen BK180.out 2
            have hfz25_3 := blk_frozen BK180.out 3
            have p186 : 0 ≤ (t181 : Int) := of_decide_eq_true (by first | (with_reducible assumption) | assumption)
            have q186 : t181 < (l0_0.length : Int) := of_decide_eq_true (by first | (with_reducible assumption) | assumption)
            obtain ⟨ad186, A186_6, c186_6, e186, hx186_0, hx186_1, hx186_2, hx186_3, hx186_4, hx186_5, hx186_6, hl186_6, hi186_6⟩ := at_T44 (Kd.C_kept_now HR0_0.out HK.out) t181 p186 q186
            cases e186
            have HR186_6 := Aside0.mk hi186_6
            have HC186_6 := Aside0.mk hl186_6
            clear hi186_6 hl186_6
            replace p186 := eq_true p186
            replace q186 := eq_true q186
            try go_wp2
            have n0_ := Aside0.mk (Kd.R_drew HO_3.out)
            have n1_ := Aside0.mk (blk_drew BK180.out)
            have n2_ := Aside0.mk (Kd.C_drew HR186_6.out)
            have n3_ := Aside0.mk (Kept.drew HK.out)
            have n4_ := Aside0.mk (below_drew1 HB.out)
            clear HO_3
            clear BK180
            clear HR186_6
            clear HK
            clear HB
            have HO_3 := n0_
            have BK180 := n1_
            have HR186_6 := n2_
            have HK := n3_
            have HB := n4_
            clear n0_ n1_ n2_ n3_ n4_
            have p187 : 0 ≤ (t181 : Int) := of_decide_eq_true (by first | (with_reducible assumption) | assumption)
            have q187 : t181 < (l0_0.length : Int) := of_decide_eq_true (by first | (with_reducible assumption) | assumption)
            obtain ⟨ad187, A187_6, c187_6, e187, hx187_0, hx187_1, hx187_2, hx187_3, hx187_4, hx187_5, hx187_6, hl187_6, hi187_6⟩ := at_T44 (Kd.C_kept_now HR0_0.out HK.out) t181 p187 q187
            have hw187_6 := hx187_6
            have hw187_5 := hx187_5
            have hw187_4 := hx187_4
            have hw187_3 := hx187_3
            have hw187_2 := hx187_2
            have hw187_1 := hx187_1
            have hw187_0 := hx187_0
            obtain rfl : ad186 = ad187 := (by injection e187)
            have HR187_6 := Aside0.mk hi187_6
            have HC187_6 := Aside0.mk hl187_6
            clear hi187_6 hl187_6
            replace p187 := eq_true p187
            replace q187 := eq_true q187
            have p188 : 0 ≤ (x11_2 : Int) := of_decide_eq_true (by first | (with_reducible assumption) | assumption)
            have q188 : x11_2 < (((rd_T44 l0_0 t181).f6).length : Int) := of_decide_eq_true (by first | (with_reducible assumption) | assumption)
            obtain ⟨ad188, e188, hx188_0, hx188_1⟩ := at_T61 (by repeat (first | (with_reducible exact HR187_6.out) | (with_reducible refine Kd.C_alloc ?_ _) | (with_reducible refine Kd.C_drewN ?_ _) | (with_reducible refine Kd.C_drew ?_) | exact HR187_6.out)) x11_2 p188 q188
            cases e188
            replace p188 := eq_true p188
            replace q188 := eq_true q188
            have p189 : 0 ≤ (t181 : Int) := of_decide_eq_true (by first | (with_reducible assumption) | assumption)
            have q189 : t181 < (l0_0.length : Int) := of_decide_eq_true (by first | (with_reducible assumption) | assumption)
            obtain ⟨ad189, A189_6, c189_6, e189, hx189_0, hx189_1, hx189_2, hx189_3, hx189_4, hx189_5, hx189_6, hl189_6, hi189_6⟩ := at_T44 (Kd.C_kept_now HR0_0.out HK.out) t181 p189 q189
            have hw189_6 := hx189_6
            have hw189_5 := hx189_5
            have hw189_4 := hx189_4
            have hw189_3 := hx189_3
            have hw189_2 := hx189_2
            have hw189_1 := hx189_1
            have hw189_0 := hx189_0
            obtain rfl : ad186 = ad189 := (by injection e189)
            have HR189_6 := Aside0.mk hi189_6
            have HC189_6 := Aside0.mk hl189_6
            clear hi189_6 hl189_6
            replace p189 := eq_true p189
            replace q189 := eq_true q189
            have ea_ := Option.some.inj (hx187_6.symm.trans hx189_6)
            injection ea_ with ea_ en_ ec_
            subst ea_
            subst ec_
            clear en_
            have p190 : 0 ≤ (x11_2 : Int) := of_decide_eq_true (by first | (with_reducible assumption) | assumption)
            have q190 : x11_2 < (((rd_T44 l0_0 t181).f6).length : Int) := of_decide_eq_true (by first | (with_reducible assumption) | assumption)
            obtain ⟨ad190, e190, hx190_0, hx190_1⟩ := at_T61 (by repeat (first | (with_reducible exact HR189_6.out) | (with_reducible refine Kd.C_alloc ?_ _) | (with_reducible refine Kd.C_drewN ?_ _) | (with_reducible refine Kd.C_drew ?_) | exact HR189_6.out)) x11_2 p190 q190
            cases e190
            replace p190 := eq_true p190
            replace q190 := eq_true q190
            refine start_ (n := 26) (S := fun w' => w'.cell? ⟨gb180, 0, none⟩ = some (.slice (some ad186) l0_0.length c0_0) ∧ w'.cell? ⟨gb180, 1, none⟩ = some (.int .i64 a0_1) ∧ w'.cell? ⟨gb180, 2, none⟩ = some (.int .i64 a0_2) ∧ w'.cell? ⟨gb180, 3, none⟩ = some (.int .i64 a0_3) ∧ w'.cell? (ad186.add ((t181).toNat * 7)) = some (.int .i64 ((rd_T44 l0_0 t181).f0)) ∧ w'.cell? ⟨(ad186.add ((t181).toNat * 7)).block, (ad186.add ((t181).toNat * 7)).off + 1, none⟩ = some (.int .i64 ((rd_T44 l0_0 t181).f1)) ∧ w'.cell? ⟨(ad186.add ((t181).toNat * 7)).block, (ad186.add ((t181).toNat * 7)).off + 2, none⟩ = some (.int .i64 ((rd_T44 l0_0 t181).f2)) ∧ w'.cell? ⟨(ad186.add ((t181).toNat * 7)).block, (ad186.add ((t181).toNat * 7)).off + 3, none⟩ = some (.int .i64 ((rd_T44 l0_0 t181).f3)) ∧ w'.cell? ⟨(ad186.add ((t181).toNat * 7)).block, (ad186.add ((t181).toNat * 7)).off + 4, none⟩ = some (.int .i64 ((rd_T44 l0_0 t181).f4)) ∧ w'.cell? ⟨(ad186.add ((t181).toNat * 7)).block, (ad186.add ((t181).toNat * 7)).off + 5, none⟩ = some (.string ((rd_T44 l0_0 t181).f5)) ∧ w'.cell? ⟨(ad186.add ((t181).toNat * 7)).block, (ad186.add ((t181).toNat * 7)).off + 6, none⟩ = some (.slice (some ad188) ((rd_T44 l0_0 t181).f6).length c187_6) ∧ w'.cell? (ad188.add ((x11_2).toNat * 2)) = some (.string ((rd_T61 ((rd_T44 l0_0 t181).f6) x11_2).f0)) ∧ w'.cell? ⟨(ad188.add ((x11_2).toNat * 2)).block, (ad188.add ((x11_2).toNat * 2)).off + 1, none⟩ = some (.int .i64 ((rd_T61 ((rd_T44 l0_0 t181).f6) x11_2).f1)) ∧ w'.cell? (ad186.add ((t181).toNat * 7)) = some (.int .i64 ((rd_T44 l0_0 t181).f0)) ∧ w'.cell? ⟨(ad186.add ((t181).toNat * 7)).block, (ad186.add ((t181).toNat * 7)).off + 1, none⟩ = some (.int .i64 ((rd_T44 l0_0 t181).f1)) ∧ w'.cell? ⟨(ad186.add ((t181).toNat * 7)).block, (ad186.add ((t181).toNat * 7)).off + 2, none⟩ = some (.int .i64 ((rd_T44 l0_0 t181).f2)) ∧ w'.cell? ⟨(ad186.add ((t181).toNat * 7)).block, (ad186.add ((t181).toNat * 7)).off + 3, none⟩ = some (.int .i64 ((rd_T44 l0_0 t181).f3)) ∧ w'.cell? ⟨(ad186.add ((t181).toNat * 7)).block, (ad186.add ((t181).toNat * 7)).off + 4, none⟩ = some (.int .i64 ((rd_T44 l0_0 t181).f4)) ∧ w'.cell? ⟨(ad186.add ((t181).toNat * 7)).block, (ad186.add ((t181).toNat * 7)).off + 5, none⟩ = some (.string ((rd_T44 l0_0 t181).f5)) ∧ w'.cell? ⟨(ad186.add ((t181).toNat * 7)).block, (ad186.add ((t181).toNat * 7)).off + 6, none⟩ = some (.slice (some ad188) ((rd_T44 l0_0 t181).f6).length c187_6) ∧ w'.cell? (ad188.add ((x11_2).toNat * 2)) = some (.string ((rd_T61 ((rd_T44 l0_0 t181).f6) x11_2).f0)) ∧ w'.cell? ⟨(ad188.add ((x11_2).toNat * 2)).block, (ad188.add ((x11_2).toNat * 2)).off + 1, none⟩ = some (.int .i64 ((rd_T61 ((rd_T44 l0_0 t181).f6) x11_2).f1))) (ds := [24]) #[false, false, false, false, false, false, false, false, false, false, false, false, false, false, false, false, false, false, false, false, false, false, false, false, false, false] (by kernel_rfl) rfl rfl ⟨(blk_cell BK180.out 0).trans rfl, (blk_cell BK180.out 1).trans rfl, (blk_cell BK180.out 2).trans rfl, (blk_cell BK180.out 3).trans rfl, hx187_0, hx187_1, hx187_2, hx187_3, hx187_4, hx187_5, hx187_6, hx188_0, hx188_1, hx189_0, hx189_1, hx189_2, hx189_3, hx189_4, hx189_5, hx189_6, hx190_0, hx190_1⟩ (fun hHeld => ?_); refine with_tabW rehearsalref04_Way.tab13 rehearsalref04_Way.bits13 (fun HT_ HW_ => ?_)
            generalize wr.drew = w26 at HO_3 BK180 HR186_6 HK HB HR187_6 HR189_6 hx187_0 hx187_1 hx187_2 hx187_3 hx187_4 hx187_5 hx187_6 hx188_0 hx188_1 hx189_0 hx189_1 hx189_2 hx189_3 hx189_4 hx189_5 hx189_6 hx190_0 hx190_1 hHeld ⊢
            iterate 5 (((first | refine takeS_ 1 (N := some 50) (v := ?_) (a' := ?_) rfl rfl (by decide +kernel) (fun _ _ _ h => h) (Or.inl ⟨by rfl, ?_⟩) hHeld ?_ ?_ | refine takeS_ 3 (N := some 52) (v := ?_) (a' := ?_) rfl rfl (by decide +kernel) (fun _ _ _ h => h) (Or.inl ⟨by rfl, ?_⟩) hHeld ?_ ?_ | refine takeS_ 7 (N := some 56) (v := ?_) (a' := ?_) rfl rfl (by decide +kernel) (fun _ _ _ h => h) (Or.inl ⟨by rfl, ?_⟩) hHeld ?_ ?_ | refine takeS_ 11 (N := some 60) (v := ?_) (a' := ?_) rfl rfl (by decide +kernel) (fun _ _ _ h => h) (Or.inl ⟨by rfl, ?_⟩) hHeld ?_ ?_ | refine takeS_ 12 (N := some 61) (v := ?_) (a' := ?_) rfl rfl (by decide +kernel) (fun _ _ _ h => h) (Or.inl ⟨by rfl, ?_⟩) hHeld ?_ ?_); rotate_left; (rintro w' ⟨s0, s1, s2, s3, s4, s5, s6, s7, s8, s9, s10, s11, s12, s13, s14, s15, s16, s17, s18, s19, s20, s21⟩; go_simp; first | done | (with_reducible rfl) | rfl); rotate_left; (simp only [Act.put, List.setIfInBounds_toArray, List.set_cons_zero, List.set_cons_succ, i64_w, i32_w]; rfl)))
            iterate 5 (((first | refine takeS_ 14 (N := some 63) (v := ?_) (a' := ?_) rfl rfl (by decide +kernel) (fun _ _ _ h => h) (Or.inl ⟨by rfl, ?_⟩) hHeld ?_ ?_ | refine takeS_ 18 (N := some 67) (v := ?_) (a' := ?_) rfl rfl (by decide +kernel) (fun _ _ _ h => h) (Or.inl ⟨by rfl, ?_⟩) hHeld ?_ ?_ | refine takeS_ 23 (N := some 72) (v := ?_) (a' := ?_) rfl rfl (by decide +kernel) (fun _ _ _ h => h) (Or.inl ⟨by rfl, ?_⟩) hHeld ?_ ?_ | refine takeS_ 0 (N := some 49) (v := ?_) (a' := ?_) rfl rfl (by decide +kernel) (fun _ _ _ h => h) (Or.inl ⟨by rfl, ?_⟩) hHeld ?_ ?_ | refine takeS_ 2 (N := some 51) (v := ?_) (a' := ?_) rfl rfl (by decide +kernel) (fun _ _ _ h => h) (Or.inl ⟨by rfl, ?_⟩) hHeld ?_ ?_); rotate_left; (rintro w' ⟨s0, s1, s2, s3, s4, s5, s6, s7, s8, s9, s10, s11, s12, s13, s14, s15, s16, s17, s18, s19, s20, s21⟩; go_simp; first | done | (with_reducible rfl) | rfl); rotate_left; (simp only [Act.put, List.setIfInBounds_toArray, List.set_cons_zero, List.set_cons_succ, i64_w, i32_w]; rfl)))
            iterate 5 (((first | refine takeS_ 4 (N := some 53) (v := ?_) (a' := ?_) rfl rfl (by decide +kernel) (fun _ _ _ h => h) (Or.inl ⟨by rfl, ?_⟩) hHeld ?_ ?_ | refine takeS_ 5 (N := some 54) (v := ?_) (a' := ?_) rfl rfl (by decide +kernel) (fun _ _ _ h => h) (Or.inl ⟨by rfl, ?_⟩) hHeld ?_ ?_ | refine takeS_ 6 (N := some 55) (v := ?_) (a' := ?_) rfl rfl (by decide +kernel) (fun _ _ _ h => h) (Or.inl ⟨by rfl, ?_⟩) hHeld ?_ ?_ | refine takeS_ 8 (N := some 57) (v := ?_) (a' := ?_) rfl rfl (by decide +kernel) (fun _ _ _ h => h) (Or.inl ⟨by rfl, ?_⟩) hHeld ?_ ?_ | refine takeS_ 9 (N := some 58) (v := ?_) (a' := ?_) rfl rfl (by decide +kernel) (fun _ _ _ h => h) (Or.inl ⟨by rfl, ?_⟩) hHeld ?_ ?_); rotate_left; (rintro w' ⟨s0, s1, s2, s3, s4, s5, s6, s7, s8, s9, s10, s11, s12, s13, s14, s15, s16, s17, s18, s19, s20, s21⟩; go_simp; first | done | (with_reducible rfl) | rfl); rotate_left; (simp only [Act.put, List.setIfInBounds_toArray, List.set_cons_zero, List.set_cons_succ, i64_w, i32_w]; rfl)))
            iterate 5 (((first | refine takeS_ 10 (N := some 59) (v := ?_) (a' := ?_) rfl rfl (by decide +kernel) (fun _ _ _ h => h) (Or.inl ⟨by rfl, ?_⟩) hHeld ?_ ?_ | refine takeS_ 13 (N := some 62) (v := ?_) (a' := ?_) rfl rfl (by decide +kernel) (fun _ _ _ h => h) (Or.inl ⟨by rfl, ?_⟩) hHeld ?_ ?_ | refine takeS_ 15 (N := some 64) (v := ?_) (a' := ?_) rfl rfl (by decide +kernel) (fun _ _ _ h => h) (Or.inl ⟨by rfl, ?_⟩) hHeld ?_ ?_ | refine takeS_ 16 (N := some 65) (v := ?_) (a' := ?_) rfl rfl (by decide +kernel) (fun _ _ _ h => h) (Or.inl ⟨by rfl, ?_⟩) hHeld ?_ ?_ | refine takeS_ 17 (N := some 66) (v := ?_) (a' := ?_) rfl rfl (by decide +kernel) (fun _ _ _ h => h) (Or.inl ⟨by rfl, ?_⟩) hHeld ?_ ?_); rotate_left; (rintro w' ⟨s0, s1, s2, s3, s4, s5, s6, s7, s8, s9, s10, s11, s12, s13, s14, s15, s16, s17, s18, s19, s20, s21⟩; go_simp; first | done | (with_reducible rfl) | rfl); rotate_left; (simp only [Act.put, List.setIfInBounds_toArray, List.set_cons_zero, List.set_cons_succ, i64_w, i32_w]; rfl)))
            iterate 3 (((first | refine takeS_ 19 (N := some 68) (v := ?_) (a' := ?_) rfl rfl (by decide +kernel) (fun _ _ _ h => h) (Or.inl ⟨by rfl, ?_⟩) hHeld ?_ ?_ | refine takeS_ 20 (N := some 69) (v := ?_) (a' := ?_) rfl rfl (by decide +kernel) (fun _ _ _ h => h) (Or.inl ⟨by rfl, ?_⟩) hHeld ?_ ?_ | refine takeS_ 21 (N := some 70) (v := ?_) (a' := ?_) rfl rfl (by decide +kernel) (fun _ _ _ h => h) (Or.inl ⟨by rfl, ?_⟩) hHeld ?_ ?_); rotate_left; (rintro w' ⟨s0, s1, s2, s3, s4, s5, s6, s7, s8, s9, s10, s11, s12, s13, s14, s15, s16, s17, s18, s19, s20, s21⟩; go_simp; first | done | (with_reducible rfl) | rfl); rotate_left; (simp only [Act.put, List.setIfInBounds_toArray, List.set_cons_zero, List.set_cons_succ, i64_w, i32_w]; rfl)))
            refine one_ (i := 22) (N := some 71) #[true, true, true, true, true, true, true, true, true, true, true, true, true, true, true, true, true, true, true, true, true, true, true, true, false, false] rfl rfl (one_of HT_.out (by kernel_rfl)) (by decide) (fun K hK => ?_)
            refine goes_ Tryd.func54 (by kernel_rfl) rfl #[.string a2, .string ((rd_T61 ((rd_T44 l0_0 t181).f6) x11_2).f0)] (by rfl) rfl rfl (by (try simp only [List.map_toArray, List.map_cons, List.map_nil]); first | done | rfl | (simp only [List.length_drop, List.length_take]; rfl)) ?_
            with_reducible refine (rehearsalref03_Join.calls k2 a2 ((rd_T61 ((rd_T44 l0_0 t181).f6) x11_2).f0) t191 _ A23.out).mono ?_
            rintro e w' ⟨rfl, ⟨nd, rfl⟩⟩
            refine ⟨_, rfl, ?_⟩
            obtain ⟨Ao27, co27, eo27⟩ := Kd.R_slice HO_3.out
            (first | subst eo27 | (injection eo27 with f1_ f2_ f3_; have f4_ := f1_.symm; have f5_ := f3_.symm; clear f1_ f2_ f3_; subst f4_; subst f5_))
            refine hK.out _ _ ⟨(blk_cell BK180.out 0).trans rfl, (blk_cell BK180.out 1).trans rfl, (blk_cell BK180.out 2).trans rfl, (blk_cell BK180.out 3).trans rfl, hHeld.2.2.2.2.1, hHeld.2.2.2.2.2.1, hHeld.2.2.2.2.2.2.1, hHeld.2.2.2.2.2.2.2.1, hHeld.2.2.2.2.2.2.2.2.1, hHeld.2.2.2.2.2.2.2.2.2.1, hHeld.2.2.2.2.2.2.2.2.2.2.1, hHeld.2.2.2.2.2.2.2.2.2.2.2.1, hHeld.2.2.2.2.2.2.2.2.2.2.2.2.1, hHeld.2.2.2.2.2.2.2.2.2.2.2.2.2.1, hHeld.2.2.2.2.2.2.2.2.2.2.2.2.2.2.1, hHeld.2.2.2.2.2.2.2.2.2.2.2.2.2.2.2.1, hHeld.2.2.2.2.2.2.2.2.2.2.2.2.2.2.2.2.1, hHeld.2.2.2.2.2.2.2.2.2.2.2.2.2.2.2.2.2.1, hHeld.2.2.2.2.2.2.2.2.2.2.2.2.2.2.2.2.2.2.1, hHeld.2.2.2.2.2.2.2.2.2.2.2.2.2.2.2.2.2.2.2.1, hHeld.2.2.2.2.2.2.2.2.2.2.2.2.2.2.2.2.2.2.2.2.1, hHeld.2.2.2.2.2.2.2.2.2.2.2.2.2.2.2.2.2.2.2.2.2⟩ (fun hHeld => ?_)
            clear hK K
            refine norm_ (a' := ?_) ?_ ?_
            rotate_left
            ·
             show Act.put _ (some 71) _ = _
             simp only [Act.put, List.setIfInBounds_toArray, List.set_cons_zero, List.set_cons_succ, i64_w, i32_w]
             rfl
            refine last_ (i := 24) (N := some 73) #[true, true, true, true, true, true, true, true, true, true, true, true, true, true, true, true, true, true, true, true, true, true, true, true, true, false] rfl rfl (one_of HT_.out (by kernel_rfl)) (by decide) (fun K hK => ?_)
            refine goes_ Tryd.func62 (by kernel_rfl) rfl #[.agg #[.slice (some ad186) l0_0.length c0_0, .int .i64 a0_1, .int .i64 a0_2, .int .i64 a0_3], .int .i64 ((rd_T61 ((rd_T44 l0_0 t181).f6) x11_2).f1), .string t191, .slice Ao27 x3_2.length co27] (by rfl) rfl rfl (by (try simp only [List.map_toArray, List.map_cons, List.map_nil]); first | done | rfl | (simp only [List.length_drop, List.length_take]; rfl)) ?_
            with_reducible refine (ih k2 (by have := HK1.out; have := HK2.out; omega) _ _ l0_0 a0_1 a0_2 a0_3 ((rd_T61 ((rd_T44 l0_0 t181).f6) x11_2).f1) t191 (fun k_ => some k_ = (.slice Ao27 x3_2.length co27 : Value).ownBlock) (.slice Ao27 x3_2.length co27) x3_2 t192 w0 _ ?side1 ?side2 ?side3 ?side4 A24.out).mono ?_
            (case side1 => repeat (first | (with_reducible first | exact HB.out | apply below_alloc | apply pw_below_drewN | apply below_drew1 | refine below_set ?_ GE180.out) | exact HB.out))
            (case side2 => exact Kd.C_kept_call HR0_0.out (by repeat (first | (with_reducible first | exact HK.out | apply Kept.alloc | apply Kept.drewN | apply Kept.drew | refine Kept.setCell ?_ (.inr GW180.out) _) | exact HK.out)) (fun k_ hs_ => (fun e_ => (HO_3.out.1 k_ e_.symm)) hs_))
            (case side3 => exact HC0_0.out)
            (case side4 => exact Kd.R_tight rfl HO_3.out)
            rintro e w28 ⟨v193, rfl, ho0, hb, hkp⟩
            refine ⟨_, rfl, ?_⟩
            have n0_ := Aside0.mk (blk_kept (by (with_reducible repeat (first | refine blk_drewN ?_ _ | refine blk_drew ?_ | refine blk_alloc ?_ _)); exact BK180.out) hkp (fun hs_ => (fun e_ => (Kd.R_ne HO_3.out BK180.out (by decide)) e_) hs_))
            have n1_ := Aside0.mk (Kd.R_mono (ok' := fun k_ => (P3_ k_ ∨ w.heap.size ≤ k_)) ho0 (fun k_ hk_ => Or.elim hk_ (fun hs_ => (HO_3.out.1 k_ (hs_).symm)) (fun hn_ => (.inr (Nat.le_trans (by first | exact HK.out.1 | exact (show Kept w _ (fun k_ => P3_ k_) from by repeat (first | (with_reducible first | exact HK.out | apply Kept.alloc | apply Kept.drewN | apply Kept.drew | refine Kept.setCell ?_ (.inr GW180.out) _) | exact HK.out)).1) hn_)))))
            have n2_ := Aside0.mk (Kept.then_ (S := (fun k_ => P3_ k_)) (by repeat (first | (with_reducible first | exact HK.out | apply Kept.alloc | apply Kept.drewN | apply Kept.drew | refine Kept.setCell ?_ (.inr GW180.out) _) | exact HK.out)) hkp (fun k_ hs_ => (fun e_ => (HO_3.out.1 k_ e_.symm)) hs_))
            have n3_ := Aside0.mk (hb)
            clear BK180
            clear HK
            clear HB
            clear HO_3
            have BK180 := n0_
            have HO194 := n1_
            have HK := n2_
            have HB := n3_
            clear n0_ n1_ n2_ n3_
            (try clear hb)
            (try clear hkp)
            (try clear ho0)
            refine hK.out _ _ ?_
            clear hK K
            refine norm_ (a' := ?_) ?_ ?_
            rotate_left
            ·
             show Act.put _ (some 73) _ = _
             simp only [Act.put, List.setIfInBounds_toArray, List.set_cons_zero, List.set_cons_succ, i64_w, i32_w]
             rfl
            refine pure_ (i := 25) (N := some 3) (v := ?_) (a' := ?_) #[true, true, true, true, true, true, true, true, true, true, true, true, true, true, true, true, true, true, true, true, true, true, true, true, true, true] rfl rfl (any_of HT_.out (by kernel_rfl)) (fun _ _ _ h => h) (Or.inl ⟨by rfl, ?_⟩) ?_ ?_
            rotate_left
            ·
             intro w'
             go_simp
             with_reducible rfl
            rotate_left
            ·
             simp only [Act.put, List.setIfInBounds_toArray, List.set_cons_zero, List.set_cons_succ, i64_w, i32_w]
             rfl
            refine done_ (done_of HT_.out (by kernel_rfl)) ?_
            try go_wp2
            go_roundg k2
            case measure => have := HK1.out; have := HK2.out; omega
            case rel => exact ⟨(t192), (wrap64 (x11_2 + 1)), (by first | rfl | (simp; done) | (simp [*]; done)), H', ⟨by have := HK1.out; have := HK2.out; omega⟩, ⟨by (with_reducible repeat (first | apply Kd.R_alloc | apply Kd.R_drewN | apply Kd.R_drew)); exact HO194.out⟩, ⟨by (with_reducible repeat (first | refine blk_drewN ?_ _ | refine blk_drew ?_ | refine blk_alloc ?_ _)); exact BK180.out⟩, ⟨by repeat (first | (with_reducible first | exact HK.out | apply Kept.alloc | apply Kept.drewN | apply Kept.drew | refine Kept.setCell ?_ (.inr GW180.out) _) | exact HK.out)⟩, ⟨by repeat (first | (with_reducible first | exact HB.out | apply below_alloc | apply pw_below_drewN | apply below_drew1 | refine below_set ?_ GE180.out) | exact HB.out)⟩⟩
           ·
            rw [if_neg c22] at H
            exact absurd H (by simp)
          ·
           rw [if_neg c21] at H
           have c21b0 : decide (x11_2 < (((rd_T44 l0_0 t181).f6).length : Int)) = false := decide_eq_false c21
           clear c21
           obtain rfl := Option.some.inj H
           have hcz29_0 : wr.cell? ⟨gb180, 0, none⟩ = some (.slice A0_0 l0_0.length c0_0) := (blk_cell BK180.out 0).trans rfl
           have hcz29_1 : wr.cell? ⟨gb180, 1, none⟩ = some (.int .i64 a0_1) := (blk_cell BK180.out 1).trans rfl
           have hcz29_2 : wr.cell? ⟨gb180, 2, none⟩ = some (.int .i64 a0_2) := (blk_cell BK180.out 2).trans rfl
           have hcz29_3 : wr.cell? ⟨gb180, 3, none⟩ = some (.int .i64 a0_3) := (blk_cell BK180.out 3).trans rfl
           have hfz29_0 := blk_frozen BK180.out 0
           have hfz29_1 := blk_frozen BK180.out 1
           have hfz29_2 := blk_frozen BK180.out 2
           have hfz29_3 := blk_frozen BK180.out 3
           have p186 : 0 ≤ (t181 : Int) := of_decide_eq_true (by first | (with_reducible assumption) | assumption)
           have q186 : t181 < (l0_0.length : Int) := of_decide_eq_true (by first | (with_reducible assumption) | assumption)
           obtain ⟨ad186, A186_6, c186_6, e186, hx186_0, hx186_1, hx186_2, hx186_3, hx186_4, hx186_5, hx186_6, hl186_6, hi186_6⟩ := at_T44 (Kd.C_kept_now HR0_0.out HK.out) t181 p186 q186
           cases e186
           have HR186_6 := Aside0.mk hi186_6
           have HC186_6 := Aside0.mk hl186_6
           clear hi186_6 hl186_6
           replace p186 := eq_true p186
           replace q186 := eq_true q186
           go_wp2
           go_ret
           exact ⟨_, by first | rfl | (simp [errW_none, errW_some] <;> rfl) | (simp [*, errW_none, errW_some] <;> rfl), by (with_reducible repeat (first | apply Kd.R_alloc | apply Kd.R_drewN | apply Kd.R_drew)); exact HO_3.out, by repeat (first | (with_reducible first | exact HB.out | apply below_alloc | apply pw_below_drewN | apply below_drew1 | refine below_set ?_ GE180.out) | exact HB.out), by repeat (first | (with_reducible first | exact HK.out | apply Kept.alloc | apply Kept.drewN | apply Kept.drew | refine Kept.setCell ?_ (.inr GW180.out) _) | exact HK.out)⟩
         ·
          rw [if_neg c20] at H
          exact absurd H (by simp)
        ·
         rw [if_neg c19] at H
         exact absurd H (by simp)
     ·
      rw [if_neg c16] at H
      exact absurd H (by simp)
end Go.Proofs.YtnpnablnnfekkaaDoor.PTr
set_option linter.unusedVariables false
set_option linter.unusedSimpArgs false
namespace Go.Proofs.YtnpnablnnfekkaaDoor.PTr
open Go.RowKit Go.Proofs.YtnpnablnnfekkaaDoor Go.Proofs.YtnpnablnnfekkaaDoorW.PrintWords
/-- no text, no list too great for any machine -/
def Bd (l : List Nod) : Prop := ∀ x ∈ l, x.f5.size ≤ 140737488351232 ∧ x.f6.length ≤ 140737488351232 ∧ ∀ e ∈ x.f6, e.f0.size ≤ 140737488351232
/-- where the reference finds a node -/
def pl (l : List Nod) (id : Int) : Int := match l.findIdx? (fun x => x.f0 = id) with
 | some i => (i : Int)
 | none => -1
theorem place_ref_l0 (l : List Nod) (a1 a2 a3 id : Int) (hl : l.length ≤ 140737488351232) : ∀ (d k i : Nat), i + d = l.length → d < k → (∀ q (h : q < l.length), q < i → l[q].f0 ≠ id) → rehearsalref04_Place.l0 k id (i : Int) l a1 a2 a3 = some (pl l id) := by
 intro d
 induction d with
 | zero =>
  intro k i h hk hp
  obtain ⟨k, rfl⟩ : ∃ j, k = j + 1 := ⟨k - 1, by omega⟩
  have : l.findIdx? (fun x => x.f0 = id) = none := by
   rw [List.findIdx?_eq_none_iff]
   intro x hx
   obtain ⟨q, hq, rfl⟩ := List.getElem_of_mem hx
   simpa using hp q hq (by omega)
  simp only [rehearsalref04_Place.l0]
  rw [if_neg (by omega)]
  unfold pl; rw [this]
 | succ d ih =>
  intro k i h hk hp
  obtain ⟨k, rfl⟩ : ∃ j, k = j + 1 := ⟨k - 1, by omega⟩
  have hi : i < l.length := by omega
  simp only [rehearsalref04_Place.l0]
  rw [if_pos (by omega), if_pos (by omega), rdN l i hi]
  by_cases he : l[i].f0 = id
  ·
   have : l.findIdx? (fun x => x.f0 = id) = some i := by
    rw [List.findIdx?_eq_some_iff_getElem]
    exact ⟨hi, by simpa using he, fun j hj => by simpa using hp j (by omega) hj⟩
   rw [if_pos he]
   unfold pl; rw [this]
  ·
   rw [if_neg he, show wrap64 ((i : Int) + 1) = ((i + 1 : Nat) : Int) from by unfold wrap64; omega]
   exact ih k (i + 1) (by omega) (by omega) (fun q hq hlt => by
    by_cases e : q = i
    ·
     subst e; exact he
    ·
     exact hp q hq (by omega))
theorem place_ref (l : List Nod) (a1 a2 a3 id : Int) (hl : l.length ≤ 140737488351232) (k : Nat) (hk : l.length < k) : rehearsalref04_Place.f k l a1 a2 a3 id = some (pl l id) := by
 unfold rehearsalref04_Place.f
 exact place_ref_l0 l a1 a2 a3 id hl l.length k 0 (by omega) hk (fun q _ h => absurd h (by omega))
theorem pl_in {l : List Nod} (hr : Rises l) (t : Nat) (ht : t < l.length) : pl l l[t].f0 = t := by
 have : l.findIdx? (fun x => x.f0 = l[t].f0) = some t := by
  rw [List.findIdx?_eq_some_iff_getElem]
  exact ⟨ht, by simp, fun j hj => by have := hr j t (by omega) ht hj; simp; omega⟩
 unfold pl; rw [this]
theorem pl_out {l : List Nod} {id : Int} (h : id ∉ idsL l) : pl l id = -1 := by
 have : l.findIdx? (fun x => x.f0 = id) = none := by
  rw [List.findIdx?_eq_none_iff]
  intro x hx
  have : x.f0 ≠ id := fun e => h (mem_ids.2 ⟨x, hx, e⟩)
  simpa using this
 unfold pl; rw [this]
theorem pl_sign {l : List Nod} {id : Int} : pl l id < 0 ↔ id ∉ idsL l := by
 constructor
 ·
  intro h hm
  obtain ⟨x, hx, he⟩ := mem_ids.1 hm
  unfold pl at h
  split at h
  ·
   omega
  ·
   rename_i h2
   rw [List.findIdx?_eq_none_iff] at h2
   have := h2 x hx
   simp [he] at this
 ·
  intro h; rw [pl_out h]; omega
/-- how many entries lead to a node -/
def lk (l : List Nod) (id : Int) : Nat := (l.map fun x => (x.f6.map (·.f1)).count id).sum
theorem links_l1 (l : List Nod) (a1 a2 a3 id : Int) (hl : l.length ≤ 512) (i : Nat) (hi : i < l.length) (hb : l[i].f6.length ≤ 140737488351232) (r : Int) :
  ∀ (d q : Nat) (n : Nat), q + d = l[i].f6.length → n + d ≤ 1000000000000000000 → Evt (fun k => rehearsalref04_Links.l0 k id ((n + ((l[i].f6.drop q).map (·.f1)).count id : Nat) : Int) ((i + 1 : Nat) : Int) l a1 a2 a3) r → Evt (fun k => rehearsalref04_Links.l1 k id (n : Int) (i : Int) (q : Int) l a1 a2 a3) r := by
 intro d
 induction d with
 | zero =>
  intro q n h hn hE
  rw [List.drop_of_length_le (by omega)] at hE
  refine Evt.succ 0 (fun k _ => ?_) hE
  simp only [rehearsalref04_Links.l1]
  rw [if_pos (by omega), if_pos (by omega), rdN l i hi, if_neg (by omega), show wrap64 ((i : Int) + 1) = ((i + 1 : Nat) : Int) from by unfold wrap64; omega]
  rfl
 | succ d ih =>
  intro q n h hn hE
  have hq : q < l[i].f6.length := by omega
  have hs : ∀ k, rehearsalref04_Links.l1 (k + 1) id (n : Int) (i : Int) (q : Int) l a1 a2 a3 = rehearsalref04_Links.l1 k id ((n + (if l[i].f6[q].f1 = id then 1 else 0) : Nat) : Int) (i : Int) ((q + 1 : Nat) : Int) l a1 a2 a3 := by
   intro k
   simp only [rehearsalref04_Links.l1]
   rw [if_pos (by omega), if_pos (by omega), rdN l i hi, if_pos (by omega), if_pos (by omega), rdE _ q hq, show wrap64 ((q : Int) + 1) = ((q + 1 : Nat) : Int) from by unfold wrap64; omega]
   by_cases he : l[i].f6[q].f1 = id
   ·
    rw [if_pos he, if_pos he, show wrap64 ((n : Int) + 1) = ((n + 1 : Nat) : Int) from by unfold wrap64; omega]
   ·
    rw [if_neg he, if_neg he]; rfl
  refine Evt.succ 0 (fun k _ => hs k) (ih (q + 1) _ (by omega) (by split <;> omega) ?_)
  rw [List.drop_eq_getElem_cons hq, List.map_cons, List.count_cons] at hE
  have e : n + (((l[i].f6.drop (q + 1)).map (·.f1)).count id + if (l[i].f6[q].f1 == id) = true then 1 else 0) = n + (if l[i].f6[q].f1 = id then 1 else 0) + ((l[i].f6.drop (q + 1)).map (·.f1)).count id := by
   by_cases he : l[i].f6[q].f1 = id <;> simp [he] <;> omega
  rw [e] at hE
  exact hE
theorem links_l0 (l : List Nod) (a1 a2 a3 id : Int) (hl : l.length ≤ 512) (hb : ∀ x ∈ l, x.f6.length ≤ 140737488351232) :
  ∀ (d i n : Nat), i + d = l.length → n + d * 140737488351232 ≤ 1000000000000000000 → Evt (fun k => rehearsalref04_Links.l0 k id (n : Int) (i : Int) l a1 a2 a3) ((n + lk (l.drop i) id : Nat) : Int) := by
 intro d
 induction d with
 | zero =>
  intro i n h hn
  refine Evt.const 0 (fun k _ => ?_)
  simp only [rehearsalref04_Links.l0]
  rw [if_neg (by omega), List.drop_of_length_le (by omega)]; rfl
 | succ d ih =>
  intro i n h hn
  have hi : i < l.length := by omega
  have hbi := hb l[i] (List.getElem_mem hi)
  have hc : (l[i].f6.map (·.f1)).count id ≤ l[i].f6.length := by have := List.count_le_length (a := id) (l := l[i].f6.map (·.f1)); rwa [List.length_map] at this
  refine Evt.succ (h := fun k => rehearsalref04_Links.l1 k id (n : Int) (i : Int) ((0 : Nat) : Int) l a1 a2 a3) 0 (fun k _ => ?_) (links_l1 l a1 a2 a3 id hl i hi hbi _ l[i].f6.length 0 n (by omega) (by omega) ?_)
  ·
   simp only [rehearsalref04_Links.l0]
   rw [if_pos (by omega)]; rfl
  ·
   rw [List.drop_zero]
   have := ih (i + 1) (n + (l[i].f6.map (·.f1)).count id) (by omega) (by omega)
   rw [List.drop_eq_getElem_cons hi]
   have e : n + lk (l[i] :: l.drop (i + 1)) id = n + (l[i].f6.map (·.f1)).count id + lk (l.drop (i + 1)) id := by simp only [lk, List.map_cons, List.sum_cons]; omega
   rw [e]
   exact this
theorem links_ev (l : List Nod) (a1 a2 a3 id : Int) (hl : l.length ≤ 512) (hb : ∀ x ∈ l, x.f6.length ≤ 140737488351232) : Evt (fun k => rehearsalref04_Links.f k l a1 a2 a3 id) (lk l id : Int) := by
 have := links_l0 l a1 a2 a3 id hl hb l.length 0 0 (by omega) (by omega)
 rw [List.drop_zero, Nat.zero_add] at this
 exact this
/-- the way, with the paths -/
def wayP (l : List Nod) : Nat → List (Int × List UInt8) → Int → List UInt8 → List (Int × List UInt8)
 | 0, acc, _, _ => acc
 | k + 1, acc, id, p => if id ∈ acc.map (·.1) then acc else match nodeL l id with
  | none => acc
  | some x => x.f6.foldl (fun a e => wayP l k a e.f1 (joinP p e.f0.data.toList)) (acc ++ [(id, p)])
def toW (q : Int × List UInt8) : S87 := ⟨q.1, asB q.2⟩
theorem rdW (l : List S87) (i : Nat) (h : i < l.length) : rd_T87 l (i : Int) = l[i] := by
 unfold rd_T87
 rw [Int.toNat_natCast, List.getD_eq_getElem?_getD, List.getElem?_eq_getElem h]; rfl
theorem joinP_len (d s : List UInt8) : (joinP d s).length ≤ d.length + 1 + s.length := by
 have := trimR_length d
 unfold joinP
 simp only [List.length_append, List.length_cons]; omega
theorem way_grows (l : List Nod) (k : Nat) : ∀ (acc : List (Int × List UInt8)) (id : Int) (p : List UInt8), ∃ t, wayP l k acc id p = acc ++ t := by
 induction k with
 | zero => intro acc id p; exact ⟨[], by simp [wayP]⟩
 | succ k ih =>
  intro acc id p
  unfold wayP
  split
  ·
   exact ⟨[], by simp⟩
  ·
   split
   ·
    exact ⟨[], by simp⟩
   ·
    rename_i x _
    have fold : ∀ (es : List Ent) (a : List (Int × List UInt8)), ∃ t, es.foldl (fun a e => wayP l k a e.f1 (joinP p e.f0.data.toList)) a = a ++ t := by
     intro es
     induction es with
     | nil => intro a; exact ⟨[], by simp⟩
     | cons e r ihr =>
      intro a
      obtain ⟨t, ht⟩ := ih a e.f1 (joinP p e.f0.data.toList)
      obtain ⟨u, hu⟩ := ihr (wayP l k a e.f1 (joinP p e.f0.data.toList))
      rw [List.foldl_cons, hu, ht]
      exact ⟨t ++ u, by rw [List.append_assoc]⟩
    obtain ⟨t, ht⟩ := fold x.f6 (acc ++ [(id, p)])
    rw [ht]
    exact ⟨[(id, p)] ++ t, by rw [List.append_assoc]⟩
theorem way_map (l : List Nod) (k : Nat) : ∀ (acc : List (Int × List UInt8)) (id : Int) (p : List UInt8), (wayP l k acc id p).map (·.1) = TG.way (idsL l) (tgts l) k (acc.map (·.1)) id := by
 induction k with
 | zero => intro acc id p; rfl
 | succ k ih =>
  intro acc id p
  unfold wayP TG.way
  by_cases hm : id ∈ acc.map (·.1)
  ·
   rw [if_pos hm, if_pos hm]
  ·
   rw [if_neg hm, if_neg hm]
   have fold : ∀ (es : List Ent) (a : List (Int × List UInt8)), (es.foldl (fun a e => wayP l k a e.f1 (joinP p e.f0.data.toList)) a).map (·.1) = (es.map (·.f1)).foldl (TG.way (idsL l) (tgts l) k) (a.map (·.1)) := by
    intro es
    induction es with
    | nil => intro a; rfl
    | cons e r ihr =>
     intro a
     rw [List.foldl_cons, ihr, ih, List.map_cons, List.foldl_cons]
   cases hn : nodeL l id with
   | none =>
    have : id ∉ idsL l := fun h => by
     obtain ⟨x, hx, he⟩ := mem_ids.1 h
     unfold nodeL at hn
     rw [List.find?_eq_none] at hn
     have := hn x hx
     simp [he] at this
    rw [if_neg this]
   | some x =>
    have hx : id ∈ idsL l := by
     unfold nodeL at hn
     have h1 := List.mem_of_find?_eq_some hn
     have h2 := List.find?_some hn
     exact mem_ids.2 ⟨x, h1, by simpa using h2⟩
    rw [if_pos hx]
    simp only []
    rw [fold, List.map_append]
    have : tgts l id = x.f6.map (·.f1) := by unfold tgts; rw [hn]; rfl
    rw [this]; rfl
end Go.Proofs.YtnpnablnnfekkaaDoor.PTr
set_option linter.unusedVariables false
set_option linter.unusedSimpArgs false
namespace Go.Proofs.YtnpnablnnfekkaaDoor.PTr
open Go.RowKit Go.Proofs.YtnpnablnnfekkaaDoor Go.Proofs.YtnpnablnnfekkaaDoorW.PrintWords
theorem pl_node {l : List Nod} (hr : Rises l) {id : Int} (h : id ∈ idsL l) : ∃ t, ∃ ht : t < l.length, pl l id = t ∧ nodeL l id = some l[t] := by
 obtain ⟨x, hx, he⟩ := mem_ids.1 h
 obtain ⟨t, ht, rfl⟩ := List.getElem_of_mem hx
 exact ⟨t, ht, by rw [← he]; exact pl_in hr t ht, by rw [← he]; exact nodeL_at hr t ht⟩
theorem met_ev (l : List Nod) (a1 a2 a3 id t : Int) (p : ByteArray) (acc : List (Int × List UInt8)) (r : List S87) (ha : acc.length ≤ 1000000)
  (hin : id ∈ acc.map (·.1) → r = acc.map toW) (hout : id ∉ acc.map (·.1) → Evt (fun k => if t < 0 then some (acc.map toW) else (if (acc.map toW).length < 5864062014805 then rehearsalref04_Way.l1 k p (acc.map toW ++ [⟨id, p⟩]) t 0 l a1 a2 a3 else none)) r) :
  ∀ (d i : Nat), i + d = acc.length → (∀ q (h : q < acc.length), q < i → acc[q].1 ≠ id) → Evt (fun k => rehearsalref04_Way.l0 k id p (acc.map toW) t (i : Int) l a1 a2 a3) r := by
 intro d
 induction d with
 | zero =>
  intro i h hp
  have hn : id ∉ acc.map (·.1) := fun hm => by
   obtain ⟨x, hx, he⟩ := List.mem_map.1 hm
   obtain ⟨q, hq, rfl⟩ := List.getElem_of_mem hx
   exact hp q hq (by omega) he
  refine Evt.succ 0 (fun k _ => ?_) (hout hn)
  simp only [rehearsalref04_Way.l0]
  rw [if_neg (by rw [List.length_map]; omega)]
 | succ d ih =>
  intro i h hp
  have hi : i < acc.length := by omega
  have hrd : (rd_T87 (acc.map toW) (i : Int)).f0 = acc[i].1 := by rw [rdW _ i (by rw [List.length_map]; exact hi), List.getElem_map]; rfl
  by_cases he : acc[i].1 = id
  ·
   rw [hin (List.mem_map.2 ⟨acc[i], List.getElem_mem hi, he⟩)]
   refine Evt.const 0 (fun k _ => ?_)
   simp only [rehearsalref04_Way.l0]
   rw [if_pos (by rw [List.length_map]; omega), if_pos (by omega), hrd, if_pos he]
  ·
   refine Evt.succ 0 (fun k _ => ?_) (ih (i + 1) (by omega) (fun q hq hlt => by
    by_cases e : q = i
    ·
     subst e; exact he
    ·
     exact hp q hq (by omega)))
   simp only [rehearsalref04_Way.l0]
   rw [if_pos (by rw [List.length_map]; omega), if_pos (by omega), hrd, if_neg he, show wrap64 ((i : Int) + 1) = ((i + 1 : Nat) : Int) from by unfold wrap64; omega]
theorem Evt.bind {α β : Type} {g : Nat → Option β} {p : Nat → Option α} {q : Nat → α → Option β} {x : α} {r : β} (he : ∀ k, g (k + 1) = (p k).bind (q k)) (hp : Evt p x) (hq : Evt (fun k => q k x) r) : Evt g r := by
 obtain ⟨K, hK⟩ := hp
 exact Evt.succ K (fun k hk => by rw [he, hK k hk, Option.bind_some]) hq
theorem way_ev (l : List Nod) (a1 a2 a3 : Int) (hl : l.length ≤ 512) (hr : Rises l) (hb : ∀ x ∈ l, x.f6.length ≤ 140737488351232) (hN : ∀ x ∈ l, ∀ e ∈ x.f6, e.f0.size ≤ 64) :
  ∀ (F : Nat) (acc : List (Int × List UInt8)) (id : Int) (p : List UInt8), (acc.map (·.1)).Nodup → (∀ x ∈ acc.map (·.1), x ∈ idsL l) → l.length < F + acc.length → p.length ≤ 1 + 65 * acc.length →
   Evt (fun k => rehearsalref04_Way.f k l a1 a2 a3 id (asB p) (acc.map toW)) ((wayP l F acc id p).map toW) := by
 intro F
 induction F with
 | zero =>
  intro acc id p hn hs hF _
  have := TG.len_le _ _ hn hs
  unfold idsL at this
  simp only [List.length_map] at this
  omega
 | succ F ih =>
  intro acc id p hn hs hF hp
  have hal : acc.length ≤ 512 := by
   have := TG.len_le _ _ hn hs
   unfold idsL at this
   simp only [List.length_map] at this
   omega
  refine Evt.bind (p := fun k => rehearsalref04_Place.f k l a1 a2 a3 id) (q := fun k t => rehearsalref04_Way.l0 k id (asB p) (acc.map toW) t 0 l a1 a2 a3) (fun k => rfl) ⟨l.length + 1, fun k hk => place_ref l a1 a2 a3 id (by omega) k (by omega)⟩ ?_
  refine met_ev l a1 a2 a3 id (pl l id) (asB p) acc _ (by omega) (fun hm => ?_) (fun hm => ?_) acc.length 0 (by omega) (fun q _ h => absurd h (by omega))
  ·
   unfold wayP; rw [if_pos hm]
  ·
   unfold wayP
   rw [if_neg hm]
   by_cases hin : id ∈ idsL l
   ·
    obtain ⟨t, ht, h1, h2⟩ := pl_node hr hin
    rw [h1, h2]
    simp only []
    have fold : ∀ (d q : Nat) (a : List (Int × List UInt8)), q + d = l[t].f6.length → (a.map (·.1)).Nodup → (∀ x ∈ a.map (·.1), x ∈ idsL l) → acc.length + 1 ≤ a.length →
      Evt (fun k => rehearsalref04_Way.l1 k (asB p) (a.map toW) (t : Int) (q : Int) l a1 a2 a3) (((l[t].f6.drop q).foldl (fun a e => wayP l F a e.f1 (joinP p e.f0.data.toList)) a).map toW) := by
     intro d
     induction d with
     | zero =>
      intro q a h _ _ _
      refine Evt.const 0 (fun k _ => ?_)
      simp only [rehearsalref04_Way.l1]
      rw [if_pos (by omega), if_pos (by omega), rdN l t ht, if_neg (by omega), List.drop_of_length_le (by omega)]; rfl
     | succ d ihd =>
      intro q a h hna hsa hla
      have hq : q < l[t].f6.length := by omega
      have hbt := hb l[t] (List.getElem_mem ht)
      obtain ⟨e, he⟩ : ∃ e, e = l[t].f6[q] := ⟨_, rfl⟩
      have hez : e.f0.size ≤ 64 := hN l[t] (List.getElem_mem ht) e (by rw [he]; exact List.getElem_mem hq)
      have hel : e.f0.data.toList.length = e.f0.size := by rw [Array.length_toList]; rfl
      have hw := ih a e.f1 (joinP p e.f0.data.toList) hna hsa (by omega) (by have := joinP_len p e.f0.data.toList; omega)
      obtain ⟨u, hu⟩ := way_grows l F a e.f1 (joinP p e.f0.data.toList)
      have hwm := way_map l F a e.f1 (joinP p e.f0.data.toList)
      obtain ⟨c1, c2, _⟩ := TG.way_props (idsL l) (tgts l) F (a.map (·.1)) e.f1 hna hsa
      have hrest := ihd (q + 1) (wayP l F a e.f1 (joinP p e.f0.data.toList)) (by omega) (by rw [hwm]; exact c1) (by rw [hwm]; exact c2) (by rw [hu, List.length_append]; omega)
      rw [List.drop_eq_getElem_cons hq, ← he, List.foldl_cons]
      have hjoin : Evt (fun k => rehearsalref03_Join.f k (asB p) e.f0) (asB (joinP p e.f0.data.toList)) := by
       refine ⟨p.length + 1, fun k hk => ?_⟩
       have := join_ref p e.f0.data.toList (by omega) (by omega) k (by omega)
       rw [asB_toList] at this
       exact this
      refine Evt.bind (p := fun k => rehearsalref03_Join.f k (asB p) e.f0) (q := fun k t191 => (rehearsalref04_Way.f k l a1 a2 a3 e.f1 t191 (a.map toW)).bind fun t192 => rehearsalref04_Way.l1 k (asB p) t192 (t : Int) ((q + 1 : Nat) : Int) l a1 a2 a3) (fun k => ?_) hjoin ?_
      ·
       simp only [rehearsalref04_Way.l1]
       rw [if_pos (by omega), if_pos (by omega), rdN l t ht, if_pos (by omega), if_pos (by omega), rdE _ q hq, ← he, show wrap64 ((q : Int) + 1) = ((q + 1 : Nat) : Int) from by unfold wrap64; omega]
      ·
       obtain ⟨K1, hK1⟩ := hw
       obtain ⟨K2, hK2⟩ := hrest
       exact ⟨K1 + K2, fun k hk => by
        have e1 := hK1 k (by omega)
        have e2 := hK2 k (by omega)
        simp only [] at e1 e2 ⊢
        rw [e1, Option.bind_some]; exact e2⟩
    have := fold l[t].f6.length 0 (acc ++ [(id, p)]) (by omega) (by
     rw [List.map_append, List.nodup_append]
     refine ⟨hn, by simp, fun a ha b hb2 => ?_⟩
     simp at hb2; subst hb2; intro e; subst e; exact hm ha) (fun x hx => by
     rw [List.map_append, List.mem_append] at hx
     rcases hx with h | h
     ·
      exact hs x h
     ·
      simp at h; subst h; exact hin) (by rw [List.length_append]; simp)
    rw [List.drop_zero] at this
    obtain ⟨K, hK⟩ := this
    refine ⟨K, fun k hk => ?_⟩
    have e1 := hK k hk
    simp only [] at e1 ⊢
    rw [if_neg (by omega), if_pos (by rw [List.length_map]; omega), ← e1, List.map_append]
    rfl
   ·
    have h0 := pl_sign.2 hin
    have h2 : nodeL l id = none := nodeL_none (fun x hx e => hin (mem_ids.2 ⟨x, hx, e⟩))
    rw [h2]
    simp only [if_pos h0]
    exact ⟨0, fun _ _ => rfl⟩
def tgOK (l : List Nod) (i : Nat) : Bool := ((rd_T44 l (i : Int)).f6).all fun e => decide (e.f1 ∈ idsL l)
def lkOK (l : List Nod) (i : Nat) : Bool := if i = 0 then decide (lk l (rd_T44 l 0).f0 = 0) else decide (lk l (rd_T44 l (i : Int)).f0 ≠ 0) && (decide ((rd_T44 l (i : Int)).f1 ≠ 1) || decide (lk l (rd_T44 l (i : Int)).f0 ≤ 1))
def refR (l : List Nod) : Int := if ((List.range l.length).all (lkOK l)) = true then (if (wayP l (l.length + 1) [] 1 [47]).length = l.length then 0 else 80) else 80
def chkR (l : List Nod) (last : Int) : Int := if headOK l = true then (if nodesOK l last = true ∧ ((List.range l.length).all (tgOK l)) = true then refR l else 80) else 80
/-- targets -/
theorem names64 {l : List Nod} {a1 : Int} (h : nodesOK l a1 = true) : ∀ x ∈ l, ∀ e ∈ x.f6, e.f0.size ≤ 64 := by
 intro x hx e he
 obtain ⟨i, hi, rfl⟩ := List.getElem_of_mem hx
 have h1 := List.all_eq_true.1 h i (List.mem_range.2 hi)
 unfold nodeAt at h1
 rw [rdN l i hi] at h1
 simp only [Bool.and_eq_true] at h1
 have h2 := h1.1.1
 unfold plainB at h2
 simp only [Bool.and_eq_true] at h2
 have h3 := h2.2
 have hpos : 0 < l[i].f6.length := List.length_pos_of_mem he
 split at h3
 ·
  simp only [Bool.and_eq_true] at h3
  obtain ⟨q, hq, rfl⟩ := List.getElem_of_mem he
  have h4 := List.all_eq_true.1 h3.2 q (List.mem_range.2 hq)
  unfold entAt at h4
  rw [rdE _ q hq] at h4
  simp only [Bool.and_eq_true] at h4
  have h5 := h4.1
  unfold nameB at h5
  simp only [Bool.and_eq_true, decide_eq_true_eq] at h5
  have h6 := h5.1.1.2
  rw [Array.length_toList] at h6
  exact h6
 ·
  split at h3
  ·
   simp only [Bool.and_eq_true, decide_eq_true_eq] at h3; omega
  ·
   split at h3
   ·
    simp only [Bool.and_eq_true, decide_eq_true_eq] at h3; omega
   ·
    cases h3
end Go.Proofs.YtnpnablnnfekkaaDoor.PTr
set_option linter.unusedVariables false
set_option linter.unusedSimpArgs false
namespace Go.Proofs.YtnpnablnnfekkaaDoor.PTr
open Go.RowKit Go.Proofs.YtnpnablnnfekkaaDoor Go.Proofs.YtnpnablnnfekkaaDoorW.PrintWords
theorem lk_cnt {l : List Nod} (hr : Rises l) (id : Int) : TG.cnt (tgts l) (idsL l) id = lk l id := by
 unfold TG.cnt lk idsL
 rw [List.map_map]
 congr 1
 apply List.map_congr_left
 intro x hx
 obtain ⟨i, hi, rfl⟩ := List.getElem_of_mem hx
 show (tgts l l[i].f0).count id = _
 rw [tgts_at hr i hi]
theorem head_facts {l : List Nod} (h : headOK l = true) : 0 < l.length ∧ l.length ≤ 512 ∧ (rd_T44 l 0).f0 = 1 ∧ (rd_T44 l 0).f1 = 1 := by
 unfold headOK at h
 simp only [Bool.and_eq_true, decide_eq_true_eq] at h
 exact ⟨by omega, h.1.1.2, h.1.2, h.2⟩
theorem one_in {l : List Nod} (h : headOK l = true) : ∃ h0 : 0 < l.length, l[0].f0 = 1 ∧ l[0].f1 = 1 := by
 obtain ⟨h0, _, h2, h3⟩ := head_facts h
 rw [show (0 : Int) = ((0 : Nat) : Int) from rfl, rdN l 0 h0] at h2 h3
 exact ⟨h0, h2, h3⟩
def TG_ref (l : List Nod) : Prop := TG.refOK (idsL l) (tgts l) (dirL l) (l.length + 1)
theorem refs_iff {l : List Nod} (hh : headOK l = true) (hr : Rises l) : TG_ref l ↔ (((List.range l.length).all (tgOK l)) = true ∧ ((List.range l.length).all (lkOK l)) = true ∧ (wayP l (l.length + 1) [] 1 [47]).length = l.length) := by
 obtain ⟨h0, h1, h2⟩ := one_in hh
 have hidl : (idsL l).length = l.length := by unfold idsL; rw [List.length_map]
 have hw : (wayP l (l.length + 1) [] 1 [47]).length = (TG.way (idsL l) (tgts l) (l.length + 1) [] 1).length := by
  have := congrArg List.length (way_map l (l.length + 1) [] 1 [47])
  rw [List.length_map] at this
  exact this
 unfold TG_ref TG.refOK
 rw [hw, hidl]
 have htg : (∀ x ∈ idsL l, ∀ e ∈ tgts l x, e ∈ idsL l) ↔ ((List.range l.length).all (tgOK l)) = true := by
  rw [List.all_eq_true]
  constructor
  ·
   intro h i hi
   have hi := List.mem_range.1 hi
   unfold tgOK
   rw [rdN l i hi, List.all_eq_true]
   intro e he
   refine decide_eq_true (h l[i].f0 (mem_ids.2 ⟨_, List.getElem_mem hi, rfl⟩) e.f1 ?_)
   rw [tgts_at hr i hi]
   exact List.mem_map.2 ⟨e, he, rfl⟩
  ·
   intro h x hx e he
   obtain ⟨y, hy, rfl⟩ := mem_ids.1 hx
   obtain ⟨i, hi, rfl⟩ := List.getElem_of_mem hy
   rw [tgts_at hr i hi] at he
   obtain ⟨z, hz, rfl⟩ := List.mem_map.1 he
   have := h i (List.mem_range.2 hi)
   unfold tgOK at this
   rw [rdN l i hi, List.all_eq_true] at this
   exact of_decide_eq_true (this z hz)
 have hlk : (TG.cnt (tgts l) (idsL l) 1 = 0 ∧ (∀ x ∈ idsL l, x ≠ 1 → 0 < TG.cnt (tgts l) (idsL l) x) ∧ (∀ x ∈ idsL l, dirL l x = true → TG.cnt (tgts l) (idsL l) x ≤ 1)) ↔ ((List.range l.length).all (lkOK l)) = true := by
  simp only [lk_cnt hr]
  rw [List.all_eq_true]
  constructor
  ·
   rintro ⟨g1, g2, g3⟩ i hi
   have hi := List.mem_range.1 hi
   unfold lkOK
   split
   ·
    rename_i hz
    subst hz
    rw [show (0 : Int) = ((0 : Nat) : Int) from rfl, rdN l 0 hi, h1]
    exact decide_eq_true g1
   ·
    rename_i hz
    rw [rdN l i hi]
    have hm := mem_ids.2 ⟨_, List.getElem_mem hi, rfl⟩
    have hlt := hr 0 i h0 hi (by omega)
    have a1 := g2 l[i].f0 hm (by omega)
    rw [decide_eq_true (show lk l l[i].f0 ≠ 0 by omega), Bool.true_and]
    by_cases hd : l[i].f1 = 1
    ·
     have := g3 l[i].f0 hm (by rw [dir_at hr i hi]; exact decide_eq_true hd)
     rw [decide_eq_true this, Bool.or_true]
    ·
     rw [decide_eq_true (show l[i].f1 ≠ 1 from hd), Bool.true_or]
  ·
   intro h
   have k0 := h 0 (List.mem_range.2 h0)
   unfold lkOK at k0
   rw [if_pos rfl, show (0 : Int) = ((0 : Nat) : Int) from rfl, rdN l 0 h0, h1] at k0
   have k0 := of_decide_eq_true k0
   refine ⟨k0, fun x hx hx1 => ?_, fun x hx hd => ?_⟩
   ·
    obtain ⟨y, hy, rfl⟩ := mem_ids.1 hx
    obtain ⟨i, hi, rfl⟩ := List.getElem_of_mem hy
    have := h i (List.mem_range.2 hi)
    unfold lkOK at this
    rw [if_neg (fun e => by subst e; exact hx1 h1), rdN l i hi] at this
    simp only [Bool.and_eq_true, decide_eq_true_eq] at this
    omega
   ·
    obtain ⟨y, hy, rfl⟩ := mem_ids.1 hx
    obtain ⟨i, hi, rfl⟩ := List.getElem_of_mem hy
    rw [dir_at hr i hi] at hd
    have hd := of_decide_eq_true hd
    by_cases hz : i = 0
    ·
     subst hz; rw [h1]; have k0' : lk l 1 = 0 := k0; omega
    ·
     have := h i (List.mem_range.2 hi)
     unfold lkOK at this
     rw [if_neg hz, rdN l i hi] at this
     simp only [Bool.and_eq_true, Bool.or_eq_true, decide_eq_true_eq] at this
     rcases this.2 with g | g
     ·
      exact absurd hd g
     ·
      exact g
 constructor
 ·
  rintro ⟨g1, g2, g3, g4, g5⟩
  exact ⟨htg.1 g1, hlk.1 ⟨g2, g3, g4⟩, g5⟩
 ·
  rintro ⟨g1, g2, g3⟩
  obtain ⟨k1, k2, k3⟩ := hlk.2 g2
  exact ⟨htg.2 g1, k1, k2, k3, g3⟩
theorem reach_zero {l : List Nod} (hh : headOK l = true) (hr : Rises l) : reach l = 0 ↔ TG_ref l := by
 obtain ⟨h0, h1, h2⟩ := one_in hh
 have hidl : (idsL l).length = l.length := by unfold idsL; rw [List.length_map]
 have hn := rises_nodup hr
 have hi1 : (1 : Int) ∈ idsL l := mem_ids.2 ⟨l[0], List.getElem_mem h0, h1⟩
 have hd1 : dirL l 1 = true := by rw [← h1, dir_at hr 0 h0]; exact decide_eq_true h2
 unfold reach goneThrough TG_ref
 constructor
 ·
  intro h
  split at h
  ·
   rename_i ks hk
   split at h
   ·
    rename_i hl
    exact TG.ref_of_prog _ _ _ hn hi1 hd1 _ _ ks hk (by omega) (by omega)
   ·
    omega
  ·
   omega
 ·
  intro h
  obtain ⟨ks, hk, hl⟩ := TG.prog_of_ref _ _ _ hn hi1 (l.length + 2) (l.length + 1) (by omega) h
  rw [hk]
  simp only []
  rw [if_pos (by omega)]
theorem reach_two (l : List Nod) : reach l = 0 ∨ reach l = 80 := by
 unfold reach
 split
 ·
  split
  ·
   exact .inl rfl
  ·
   exact .inr rfl
 ·
  exact .inr rfl
theorem chk_same (l : List Nod) (last : Int) : chkR l last = chk l last := by
 unfold chk chkR
 by_cases hh : headOK l = true
 ·
  rw [if_pos hh, if_pos hh]
  by_cases hk : nodesOK l last = true
  ·
   rw [if_pos hk]
   have hr := rises_of hk
   have hi := refs_iff hh hr
   have hz := reach_zero hh hr
   by_cases ht : ((List.range l.length).all (tgOK l)) = true
   ·
    rw [if_pos ⟨hk, ht⟩]
    unfold refR
    by_cases hl : ((List.range l.length).all (lkOK l)) = true
    ·
     rw [if_pos hl]
     by_cases hw : (wayP l (l.length + 1) [] 1 [47]).length = l.length
     ·
      rw [if_pos hw, hz.2 (hi.2 ⟨ht, hl, hw⟩)]
     ·
      rw [if_neg hw]
      rcases reach_two l with h | h
      ·
       exact absurd (hi.1 (hz.1 h)).2.2 hw
      ·
       exact h.symm
    ·
     rw [if_neg hl]
     rcases reach_two l with h | h
     ·
      exact absurd (hi.1 (hz.1 h)).2.1 hl
     ·
      exact h.symm
   ·
    rw [if_neg (fun h => ht h.2)]
    rcases reach_two l with h | h
    ·
     exact absurd (hi.1 (hz.1 h)).1 ht
    ·
     exact h.symm
  ·
   rw [if_neg hk, if_neg (fun h => hk h.1)]
 ·
  rw [if_neg hh, if_neg hh]
end Go.Proofs.YtnpnablnnfekkaaDoor.PTr
