/- Texts of this claim's proof: small lemmas, walks and plain laws (merged by wip/shake.py). -/
import Derived.Test.YtnpnablnnfekkaaDoorTsM1
import Derived.Test.YtnpnablnnfekkaaDoorTsM4
set_option linter.unusedVariables false
set_option linter.unusedSimpArgs false
namespace Go.Proofs.YtnpnablnnfekkaaDoor.PTr
open Go.RowKit Go.Proofs.YtnpnablnnfekkaaDoor Go.Proofs.YtnpnablnnfekkaaDoorW.PrintWords Go.Proofs.YtnpnablnnfekkaaDoorW.PrintLast Go.Proofs.YtnpnablnnfekkaaDoorW.PrintMore
theorem MapA.neS {κ α : Type} {K : κ → Value} {E : α → Value} {w : World} {b : Nat} {l : List (κ × α)} {v : Value} {t : TypeId} (h : MapA K E w b l) (hv : ∀ k, v.ownBlock = some k → ∃ cells, w.heap[k]? = some (.cells cells t (0, 0))) : some b ≠ v.ownBlock := by
 intro e
 obtain ⟨cells, hc⟩ := hv b e.symm
 exact h.neC hc rfl
theorem mk_event {P : Program} {ops : Array Oper} {rest : List Oper} {o : Oper} {a : Act} {Q : Exit → Act → World → Prop} {W : World} (hgd : o.guard = none) {N : Tmp} (_hd : o.dst = some N)
  (hrun : (execOp a.eval o).run P W = .ok (.value (.map (some W.heap.size))) (W.alloc (.map #[] 0)))
  (h : ∀ g, g = W.heap.size → ∀ w1, MapA KI KI w1 g [] → Below W.heap.size W w1 → wpList P ops Q rest (a.put o.dst (.map (some g))) w1) : wpList P ops Q (o :: rest) a W :=
 Kd.event_run hgd hrun (h _ rfl _ (MapA.made W KI KI) (below_alloc (Below.refl _ _) _))
theorem rdE_set (es : List Ent) (f : Ent → Ent) (j : Nat) (h : j < es.length) : (((es.take j).map f) ++ es.drop j).set j (f es[j]) = ((es.take (j + 1)).map f) ++ es.drop (j + 1) := by
 have hl : ((es.take j).map f).length = j := by rw [List.length_map, List.length_take]; omega
 rw [List.set_append_right _ _ (by omega), hl, Nat.sub_self, List.drop_eq_getElem_cons h, List.set_cons_zero, List.take_succ_eq_append_getElem h, List.map_append]
 simp
def zT : Array Value := #[.slice none 0 0, .int .i64 0, .int .i64 0, .int .i64 0]
structure CSt (w0 w : World) (g1 g2 gw gmt : Nat) (T W6 : Array Value) (v : Value) (ids : List Int) (n : Nat) : Prop where
 hb : Below w0.heap.size w0 w
 b1 : w.heap[g1]? = some (.cells T 26 (0, 0))
 b2 : w.heap[g2]? = some (.cells zT 26 (0, 0))
 b4 : w.heap[gw]? = some (.cells W6 83 (0, 0))
 e1 : w0.heap.size ≤ g1
 e2 : w0.heap.size ≤ g2
 e4 : w0.heap.size ≤ gw
 em : w0.heap.size ≤ gmt
 q : Kd.Q (Kd.int .i64) 3 w w0.heap.size (fun _ => True) v ids
 mp : MapA KI KI w gmt (toMn ids n)
theorem CSt.below {w0 w w' : World} {g1 g2 gw gmt : Nat} {T W6 : Array Value} {v : Value} {ids : List Int} {n : Nat} (h : CSt w0 w g1 g2 gw gmt T W6 v ids n) (hb : Below w.heap.size w w') : CSt w0 w' g1 g2 gw gmt T W6 v ids n :=
 ⟨below_step h.hb hb, blk_below h.b1 hb, blk_below h.b2 hb, blk_below h.b4 hb, h.e1, h.e2, h.e4, h.em, Kd.Q_below h.q hb, h.mp.below hb⟩
theorem CSt.update {w0 w w' : World} {g1 g2 gw gmt : Nat} {T W6 : Array Value} {v : Value} {ids : List Int} {n m : Nat} (h : CSt w0 w g1 g2 gw gmt T W6 v ids n) (hm : MapA KI KI w' gmt (toMn ids m)) (hg : w.grownBy w' (some gmt)) : CSt w0 w' g1 g2 gw gmt T W6 v ids m :=
 ⟨h.hb.grown hg (below_size h.hb) (fun k hk => by cases hk; exact h.em), blk_grown h.b1 hg (fun e => MapA.neC h.mp h.b1 (Option.some.inj e).symm), blk_grown h.b2 hg (fun e => MapA.neC h.mp h.b2 (Option.some.inj e).symm), blk_grown h.b4 hg (fun e => MapA.neC h.mp h.b4 (Option.some.inj e).symm), h.e1, h.e2, h.e4, h.em, Q_mapped h.q h.mp hg, hm⟩
theorem CSt.grown {w0 w w' : World} {g1 g2 gw gmt : Nat} {T W6 : Array Value} {v : Value} {ids : List Int} {n : Nat} (h : CSt w0 w g1 g2 gw gmt T W6 v ids n) {base : Nat} {ok : Nat → Prop} {u : Value} {out : List Nod} (hs : Kd.S k44 44 w base ok u out) (hb : Below w0.heap.size w0 w') (hg : w.grownBy w' u.ownBlock) : CSt w0 w' g1 g2 gw gmt T W6 v ids n :=
 ⟨hb, blk_grown h.b1 hg (Kd.S_ne hs h.b1 (by decide)), blk_grown h.b2 hg (Kd.S_ne hs h.b2 (by decide)), blk_grown h.b4 hg (Kd.S_ne hs h.b4 (by decide)), h.e1, h.e2, h.e4, h.em, Kd.Q_over' h.q (Kd.S_typed hs) (by decide) hg, MapA.grown h.mp hg (MapA.neS h.mp (Kd.S_typed hs))⟩
theorem CSt.far {w0 w : World} {g1 g2 gw gmt : Nat} {T W6 : Array Value} {v : Value} {ids : List Int} {n : Nat} (h : CSt w0 w g1 g2 gw gmt T W6 v ids n) {g : Nat} {cs : Array Value} (hg : w.heap[g]? = some (.cells cs 26 (0, 0))) (h0 : w0.heap.size ≤ g) (n1 : g1 ≠ g) (n2 : g2 ≠ g) (i : Nat) (x : Value) : CSt w0 (w.setCell ⟨g, i, none⟩ x) g1 g2 gw gmt T W6 v ids n :=
 ⟨below_set h.hb h0, blk_far h.b1 n1 x, blk_far h.b2 n2 x, blk_far h.b4 (fun e => by have := h.b4; rw [e, hg] at this; injection this with this; injection this with _ t; exact absurd t (by decide)) x, h.e1, h.e2, h.e4, h.em,
 Kd.Q_mono (Kd.Q_far (p := ⟨g, i, none⟩) (Kd.Q_types h.q hg (by decide)) (fun _ hk => hk.2) x) (fun _ _ => trivial), h.mp.setCell (h.mp.neC hg) x⟩
structure OSt (w0 w : World) (g1 g2 gw gmt g8 : Nat) (T W6 : Array Value) (v : Value) (ids : List Int) (n : Nat) (u : Value) (out : List Nod) (n8 r1 r2 : Int) : Prop where
 c : CSt w0 w g1 g2 gw gmt T W6 v ids n
 b8 : w.heap[g8]? = some (.cells #[u, .int .i64 n8, .int .i64 r1, .int .i64 r2] 26 (0, 0))
 e8 : w0.heap.size ≤ g8
 n1 : g1 ≠ g8
 n2 : g2 ≠ g8
 s : Kd.S k44 44 w w0.heap.size (fun _ => True) u out
theorem OSt.below {w0 w w' : World} {g1 g2 gw gmt g8 : Nat} {T W6 : Array Value} {v u : Value} {ids : List Int} {n : Nat} {out : List Nod} {n8 r1 r2 : Int} (h : OSt w0 w g1 g2 gw gmt g8 T W6 v ids n u out n8 r1 r2) (hb : Below w.heap.size w w') : OSt w0 w' g1 g2 gw gmt g8 T W6 v ids n u out n8 r1 r2 :=
 ⟨h.c.below hb, blk_below h.b8 hb, h.e8, h.n1, h.n2, Kd.S_below h.s hb⟩
theorem OSt.init {w0 w : World} {g1 g2 gw gmt g8 : Nat} {T W6 : Array Value} {v : Value} {ids : List Int} {n : Nat} (h : CSt w0 w g1 g2 gw gmt T W6 v ids n) (hb : w.heap[g8]? = some (.cells zT 26 (0, 0))) (h8 : w0.heap.size ≤ g8) (n1 : g1 ≠ g8) (n2 : g2 ≠ g8) (n8 r1 r2 : Int) :
  OSt w0 ((((w.setCell ⟨g8, 0, none⟩ (.slice none 0 0)).setCell ⟨g8, 1, none⟩ (.int .i64 n8)).setCell ⟨g8, 2, none⟩ (.int .i64 r1)).setCell ⟨g8, 3, none⟩ (.int .i64 r2)) g1 g2 gw gmt g8 T W6 v ids n (.slice none 0 0) [] n8 r1 r2 := by
 have b0 : w.heap[g8]? = some (.cells #[.slice none 0 0, .int .i64 0, .int .i64 0, .int .i64 0] 26 (0, 0)) := hb
 have b1 := blk_put b0 0 (.slice none 0 0) (cs' := #[.slice none 0 0, .int .i64 0, .int .i64 0, .int .i64 0]) rfl
 have b2 := blk_put b1 1 (.int .i64 n8) (cs' := #[.slice none 0 0, .int .i64 n8, .int .i64 0, .int .i64 0]) rfl
 have b3 := blk_put b2 2 (.int .i64 r1) (cs' := #[.slice none 0 0, .int .i64 n8, .int .i64 r1, .int .i64 0]) rfl
 have b4 := blk_put b3 3 (.int .i64 r2) (cs' := #[.slice none 0 0, .int .i64 n8, .int .i64 r1, .int .i64 r2]) rfl
 exact ⟨(((h.far b0 h8 n1 n2 0 _).far b1 h8 n1 n2 1 _).far b2 h8 n1 n2 2 _).far b3 h8 n1 n2 3 _, b4, h8, n1, n2, Kd.S_nil _ _ _ _ _⟩
theorem OSt.push {w0 w w1 : World} {g1 g2 gw gmt g8 : Nat} {T W6 : Array Value} {v u u1 : Value} {ids : List Int} {n : Nat} {out out1 : List Nod} {n8 r1 r2 : Int} (h : OSt w0 w g1 g2 gw gmt g8 T W6 v ids n u out n8 r1 r2) (hs : Kd.S k44 44 w1 w0.heap.size (fun _ => True) u1 out1) (hb : Below w0.heap.size w0 w1) (hg : w.grownBy w1 u.ownBlock) :
  OSt w0 (w1.setCell ⟨g8, 0, none⟩ u1) g1 g2 gw gmt g8 T W6 v ids n u1 out1 n8 r1 r2 := by
 have b8 := blk_grown h.b8 hg (Kd.S_ne h.s h.b8 (by decide))
 exact ⟨(h.c.grown h.s hb hg).far b8 h.e8 h.n1 h.n2 0 u1, blk_put b8 0 u1 rfl, h.e8, h.n1, h.n2, Kd.S_set hs b8 (by decide) 0 u1⟩
structure NSt (wr w : World) (gb : Nat) (x0 x1 x2 x3 x4 : Int) (x5 : ByteArray) (u : Value) (es : List Ent) : Prop where
 hb : Below wr.heap.size wr w
 bn : w.heap[gb]? = some (.cells #[.int .i64 x0, .int .i64 x1, .int .i64 x2, .int .i64 x3, .int .i64 x4, .string x5, u] 44 (0, 0))
 en : wr.heap.size ≤ gb
 r : Kd.R k61 61 w wr.heap.size (fun _ => True) u es
theorem NSt.below {wr w w' : World} {gb : Nat} {x0 x1 x2 x3 x4 : Int} {x5 : ByteArray} {u : Value} {es : List Ent} (h : NSt wr w gb x0 x1 x2 x3 x4 x5 u es) (hb : Below w.heap.size w w') : NSt wr w' gb x0 x1 x2 x3 x4 x5 u es :=
 ⟨below_step h.hb hb, blk_below h.bn hb, h.en, Kd.R_below h.r hb⟩
theorem NSt.init {wr w w1 : World} {gb : Nat} {x0 x1 x2 x3 x4 : Int} {x5 : ByteArray} {u : Value} {es : List Ent} (hb : Below wr.heap.size wr w) (hr : Kd.R k61 61 w wr.heap.size (fun _ => True) u es) (hw : Below w.heap.size w w1) (hbn : w1.heap[gb]? = some (.cells zN 44 (0, 0))) (hg : gb = w.heap.size) :
  NSt wr (w1.setCells gb 0 (celN x0 x1 x2 x3 x4 x5 u).toList) gb x0 x1 x2 x3 x4 x5 u es := by
 show NSt wr (((((((w1.setCell ⟨gb, 0, none⟩ (.int .i64 x0)).setCell ⟨gb, 1, none⟩ (.int .i64 x1)).setCell ⟨gb, 2, none⟩ (.int .i64 x2)).setCell ⟨gb, 3, none⟩ (.int .i64 x3)).setCell ⟨gb, 4, none⟩ (.int .i64 x4)).setCell ⟨gb, 5, none⟩ (.string x5)).setCell ⟨gb, 6, none⟩ u) gb x0 x1 x2 x3 x4 x5 u es
 have e : wr.heap.size ≤ gb := by rw [hg]; exact below_size hb
 have b0 : w1.heap[gb]? = some (.cells #[.int .i64 0, .int .i64 0, .int .i64 0, .int .i64 0, .int .i64 0, .string (⟨#[]⟩ : ByteArray), .slice none 0 0] 44 (0, 0)) := hbn
 have r0 := Kd.R_below hr hw
 have b1 := blk_put b0 0 (.int .i64 x0) (cs' := #[.int .i64 x0, .int .i64 0, .int .i64 0, .int .i64 0, .int .i64 0, .string (⟨#[]⟩ : ByteArray), .slice none 0 0]) rfl
 have b2 := blk_put b1 1 (.int .i64 x1) (cs' := #[.int .i64 x0, .int .i64 x1, .int .i64 0, .int .i64 0, .int .i64 0, .string (⟨#[]⟩ : ByteArray), .slice none 0 0]) rfl
 have b3 := blk_put b2 2 (.int .i64 x2) (cs' := #[.int .i64 x0, .int .i64 x1, .int .i64 x2, .int .i64 0, .int .i64 0, .string (⟨#[]⟩ : ByteArray), .slice none 0 0]) rfl
 have b4 := blk_put b3 3 (.int .i64 x3) (cs' := #[.int .i64 x0, .int .i64 x1, .int .i64 x2, .int .i64 x3, .int .i64 0, .string (⟨#[]⟩ : ByteArray), .slice none 0 0]) rfl
 have b5 := blk_put b4 4 (.int .i64 x4) (cs' := #[.int .i64 x0, .int .i64 x1, .int .i64 x2, .int .i64 x3, .int .i64 x4, .string (⟨#[]⟩ : ByteArray), .slice none 0 0]) rfl
 have b6 := blk_put b5 5 (.string x5) (cs' := #[.int .i64 x0, .int .i64 x1, .int .i64 x2, .int .i64 x3, .int .i64 x4, .string x5, .slice none 0 0]) rfl
 have b7 := blk_put b6 6 u (cs' := #[.int .i64 x0, .int .i64 x1, .int .i64 x2, .int .i64 x3, .int .i64 x4, .string x5, u]) rfl
 refine ⟨below_set (below_set (below_set (below_set (below_set (below_set (below_set (below_step hb hw) e) e) e) e) e) e) e, b7, e, ?_⟩
 exact Kd.R_set (Kd.R_set (Kd.R_set (Kd.R_set (Kd.R_set (Kd.R_set (Kd.R_set r0 b0 (by decide) 0 _) b1 (by decide) 1 _) b2 (by decide) 2 _) b3 (by decide) 3 _) b4 (by decide) 4 _) b5 (by decide) 5 _) b6 (by decide) 6 _
theorem store_node {ops : Array Oper} {rest : List Oper} {op : Oper} {a : Act} {Q : Exit → Act → World → Prop} {wr w w1 : World} {gb : Nat} {x0 x1 x2 x3 x4 : Int} {x5 : ByteArray} {A : Option Addr} {n c : Nat} {es : List Ent} (hgd : op.guard = none) (hd : op.dst = none) (x y : Operand) (ho : op.op = .store 44 x y)
  (hx : a.eval x = .pointer (some ⟨gb, 0, none⟩)) (hy : a.eval y = .agg (celN x0 x1 x2 x3 x4 x5 (.slice A n c))) (hb : Below wr.heap.size wr w) (hr : Kd.R k61 61 w wr.heap.size (fun _ => True) (.slice A n c) es) (hw : Below w.heap.size w w1) (hbn : w1.heap[gb]? = some (.cells zN 44 (0, 0))) (hg : gb = w.heap.size)
  (h : ∀ w2, NSt wr w2 gb x0 x1 x2 x3 x4 x5 (.slice A n c) es → wpList Tryd.prog ops Q rest (a.put none undef) w2) : wpList Tryd.prog ops Q (op :: rest) a w1 := by
 refine wpList_store_mid hgd 44 x y ho gb 0 (celN x0 x1 x2 x3 x4 x5 (.slice A n c)) hx hy (there_of hbn (Nat.le_refl 7)) sizeN (celN_one _ _ _ _ _ _ _ _ _) ?_
 rw [hd]
 exact h _ (NSt.init hb hr hw hbn hg)
theorem NSt.setId {wr w : World} {gb : Nat} {y x1 x2 x3 x4 : Int} {x5 : ByteArray} {u : Value} {es : List Ent} (h : NSt wr w gb y x1 x2 x3 x4 x5 u es) (x0 : Int) : NSt wr (w.setCell ⟨gb, 0, none⟩ (.int .i64 x0)) gb x0 x1 x2 x3 x4 x5 u es :=
 ⟨below_set h.hb h.en, blk_put h.bn 0 (.int .i64 x0) rfl, h.en, Kd.R_set h.r h.bn (by decide) 0 _⟩
theorem put4 {w : World} {g t : Nat} {y0 y1 y2 y3 : Value} (h : w.heap[g]? = some (.cells #[y0, y1, y2, y3] t (0, 0))) (x0 x1 x2 x3 : Value) : ((((w.setCell ⟨g, 0, none⟩ x0).setCell ⟨g, 1, none⟩ x1).setCell ⟨g, 2, none⟩ x2).setCell ⟨g, 3, none⟩ x3).heap[g]? = some (.cells #[x0, x1, x2, x3] t (0, 0)) :=
 blk_put (blk_put (blk_put (blk_put h 0 x0 (cs' := #[x0, y1, y2, y3]) rfl) 1 x1 (cs' := #[x0, x1, y2, y3]) rfl) 2 x2 (cs' := #[x0, x1, x2, y3]) rfl) 3 x3 (cs' := #[x0, x1, x2, x3]) rfl
theorem get_in (l : List Nod) (a1 a2 a3 : Int) (hl : l.length ≤ 512) (hr : Rises l) (hb : ∀ x ∈ l, x.f6.length ≤ 1000000000000) (id : Int) (h : id ∈ idsL l) :
  ∃ x ∈ l, nodeL l id = some x ∧ Evt (fun k => tree_Get.f k l a1 a2 a3 id) (x.f0, x.f1, x.f2, x.f3, x.f4, x.f5, x.f6, true) := by
 obtain ⟨x, hx, he⟩ := mem_ids.1 h
 obtain ⟨t, ht, rfl⟩ := List.getElem_of_mem hx
 refine ⟨l[t], hx, by rw [← he]; exact nodeL_at hr t ht, ?_⟩
 obtain ⟨K, hK⟩ := place_in l a1 a2 a3 (by omega) hr t ht
 refine ⟨K, fun k hk => ?_⟩
 have h1 : tree_place.f k l a1 a2 a3 id = some ((t : Int), true) := by have := hK k hk; rw [he] at this; exact this
 show tree_Get.f k l a1 a2 a3 id = _
 unfold tree_Get.f
 have hbl := hb _ hx
 rw [h1, Option.bind_some, if_pos rfl, if_pos (by omega), if_pos (by omega), rdN l t ht]
 have : api_Entry_65.f l[t].f6 = some l[t].f6 := by unfold api_Entry_65.f; first | rfl | (rw [if_pos (by omega)])
 rw [this]; rfl
theorem put4S {w : World} {g base : Nat} {y0 y1 y2 y3 u : Value} {out : List Nod} (hs : Kd.S k44 44 w base (fun _ => True) u out) (h : w.heap[g]? = some (.cells #[y0, y1, y2, y3] 26 (0, 0))) (x0 x1 x2 x3 : Value) : Kd.S k44 44 ((((w.setCell ⟨g, 0, none⟩ x0).setCell ⟨g, 1, none⟩ x1).setCell ⟨g, 2, none⟩ x2).setCell ⟨g, 3, none⟩ x3) base (fun _ => True) u out :=
 have b1 := blk_put h 0 x0 (cs' := #[x0, y1, y2, y3]) rfl
 have b2 := blk_put b1 1 x1 (cs' := #[x0, x1, y2, y3]) rfl
 have b3 := blk_put b2 2 x2 (cs' := #[x0, x1, x2, y3]) rfl
 Kd.S_set (Kd.S_set (Kd.S_set (Kd.S_set hs h (by decide) 0 _) b1 (by decide) 1 _) b2 (by decide) 2 _) b3 (by decide) 3 _
theorem slice_next {w : World} {e base : Nat} {ok : Nat → Prop} {v : Value} {l : List Nod} {ids : List Int} {i : Nat} {x : Nod} (h : Kd.S k44 e w base ok v ((List.range i).map (nodN l ids) ++ [x])) : ∃ A c, v = .slice A (i + 1) c := by
 obtain ⟨A, c, e⟩ := Kd.S_slice h
 rw [List.length_append, List.length_map, List.length_range, List.length_singleton] at e
 exact ⟨A, c, e⟩
theorem canM_none {l : List Nod} {a1 a2 a3 : Int} (h : ((wid l a1).map (·.1)).length = 0) : canM l a1 a2 a3 = ([], 0, 0, 0, 80) := by unfold canM; rw [if_pos h]
theorem canM_some {l : List Nod} {a1 a2 a3 : Int} (h : ¬ ((wid l a1).map (·.1)).length = 0) : canM l a1 a2 a3 = (canN l ((wid l a1).map (·.1)), (((wid l a1).map (·.1)).length : Int), a2, a3, 0) := by unfold canM; rw [if_neg h]
set_option maxHeartbeats 8000000 in
set_option maxRecDepth 100000 in
theorem canon_any (A : Option Addr) (c : Nat) (l : List Nod) (a1 a2 a3 : Int) (w : World) (hr0 : Kd.C k44 w A l.length l) (hc00 : l.length ≤ c) (hE : eOK l) :
  Calls Tryd.prog 24 #[.agg #[.slice A l.length c, .int .i64 a1, .int .i64 a2, .int .i64 a3]] w fun e w' => ∃ v0_ : Value, e = .returned (.tuple #[.agg #[v0_, .int .i64 (canM l a1 a2 a3).2.1, .int .i64 (canM l a1 a2 a3).2.2.1, .int .i64 (canM l a1 a2 a3).2.2.2.1], .int .i64 (canM l a1 a2 a3).2.2.2.2]) ∧ Kd.S k44 44 w' w.heap.size (fun _ => True) v0_ (canM l a1 a2 a3).1 ∧ Below w.heap.size w w' := by
 have hu26 := Tryd.underlying26
 have hu83 := Tryd.underlying83
 have hmm := @run_makeMap Tryd.prog
 have HR0 := Lib.hid hr0
 have HC0 := Lib.hid hc00
 have HEE := Lib.hid hE
 have hlen := (wid_props l a1).2.2
 have HPR := Lib.hid (wid_props l a1)
 clear hr0 hc00
 generalize hids : (wid l a1).map (·.1) = ids at hlen HPR
 have HLN := Lib.hid hlen
 by_cases h0 : ids.length = 0
 ·
  rw [canM_none (by rw [hids]; exact h0)]
  have b0 : ((ids.length : Int) == 0) = true := beq_iff_eq.mpr (by omega)
  clear hE hlen h0
  go_enter Tryd.func24, Tryd.ntmps24
  go_wp2_with (first | ((with_reducible refine gate_dst (N := 1) rfl ?_); refine box_event ?hg (N := 1) ?hd (cs := #[.slice A l.length c, .int .i64 a1, .int .i64 a2, .int .i64 a3]) (t := 26) ?hr ?_; (case hd => rfl); (case hg => rfl); (case hr => first | (go_simp; done) | (go_simp; rfl)); intro g1 hg1 w1 hbox hb; have B1 := Lib.hid hbox; have HB1 := Lib.hid (below_step (Below.refl w.heap.size w) hb); have E1 : Hid (w.heap.size ≤ g1) := Lib.hid (by rw [hg1]; exact Nat.le_refl _); clear hbox hb hg1) | ((with_reducible refine gate_dst (N := 2) rfl ?_); refine box_event ?hg (N := 2) ?hd (cs := zT) (t := 26) ?hr ?_; (case hd => rfl); (case hg => rfl); (case hr => first | (go_simp; done) | (go_simp; rfl)); intro g2 hg2 w2 hbox hb; have N12 : Hid (g1 ≠ g2) := Lib.hid (by rw [hg2]; exact Nat.ne_of_lt (blk_lt B1.out)); have C1 := Lib.hid (blk_below B1.out hb); have B2 := Lib.hid hbox; have HB2 := Lib.hid (below_step HB1.out hb); have E2 : Hid (w.heap.size ≤ g2) := Lib.hid (by rw [hg2]; exact below_size HB1.out); have d0 : w2.cell? ⟨g1, 0, none⟩ = some (.slice A l.length c) := (blk_cell C1.out 0).trans rfl; have d1 : w2.cell? ⟨g1, 1, none⟩ = some (.int .i64 a1) := (blk_cell C1.out 1).trans rfl; have d2 : w2.cell? ⟨g1, 2, none⟩ = some (.int .i64 a2) := (blk_cell C1.out 2).trans rfl; have d3 : w2.cell? ⟨g1, 3, none⟩ = some (.int .i64 a3) := (blk_cell C1.out 3).trans rfl; clear hbox hb hg2) | (go_at_call 64; (with_reducible refine (walked_any l A c a1 a2 a3 _ (Kd.C_below HR0.out HB2.out) HC0.out HEE.out).mono ?_); rintro e w3 ⟨gw, gm, v, rfl, hst⟩; rw [hids] at hst; have HST := Lib.hid hst; obtain ⟨A2, c2, ev, _⟩ := Kd.Q_slice hst.q; subst ev; clear hst d0 d1 d2 d3; have f4 : w3.cell? ⟨gw, 4, none⟩ = some (.slice A2 ids.length c2) := (blk_cell HST.out.bk 4).trans rfl; have HB4 := Lib.hid (below_step HB2.out HST.out.hb); have D2 := Lib.hid (blk_below B2.out HST.out.hb); clear HST; have k0 : w3.cell? ⟨g2, 0, none⟩ = some (.slice none 0 0) := (blk_cell D2.out 0).trans rfl; have k1 : w3.cell? ⟨g2, 1, none⟩ = some (.int .i64 0) := (blk_cell D2.out 1).trans rfl; have k2 : w3.cell? ⟨g2, 2, none⟩ = some (.int .i64 0) := (blk_cell D2.out 2).trans rfl; have k3 : w3.cell? ⟨g2, 3, none⟩ = some (.int .i64 0) := (blk_cell D2.out 3).trans rfl; have f0 := blk_frozen D2.out 0; have f1 := blk_frozen D2.out 1; have f2 := blk_frozen D2.out 2; have f3 := blk_frozen D2.out 3))
  refine bodyPost_ret (results_ct rfl _ _ g2 26 #[.slice none 0 0, .int .i64 0, .int .i64 0, .int .i64 0] (0, 0) _ rfl (put4 D2.out _ _ _ _) Tryd.underlying26 rfl (by kernel_rfl)) rfl ?_
  exact ⟨_, rfl, Kd.S_nil _ _ _ _ _, below_set (below_set (below_set (below_set HB4.out E2.out) E2.out) E2.out) E2.out⟩
 ·
  have hc0 : chk l a1 = 0 := by
   rcases chk_two l a1 with h | h
   ·
    exact h
   ·
    exfalso; apply h0
    rw [← hids]
    unfold wid; rw [if_neg (by rw [h]; decide)]; rfl
  have hcm := canM_some (l := l) (a1 := a1) (a2 := a2) (a3 := a3) (by rw [hids]; exact h0)
  rw [hids] at hcm
  rw [hcm]
  have b0 : ((ids.length : Int) == 0) = false := beq_eq_false_iff_ne.mpr (by omega)
  have hcf := chk_facts hc0
  have HGET : Hid (∀ i (h : i < ids.length), ∃ (x : Nod) (K : Nat), nodN l ids i = ⟨wrap64 ((i : Int) + 1), x.f1, x.f2, x.f3, x.f4, x.f5, x.f6.map (entN ids)⟩ ∧ x.f6.length ≤ 1000000000000 ∧ tree_Get.f K l a1 a2 a3 ids[i] = some (x.f0, x.f1, x.f2, x.f3, x.f4, x.f5, x.f6, true)) :=
   Lib.hid (fun i h => by
    obtain ⟨x, hx, hn, K, hK⟩ := get_in l a1 a2 a3 hcf.2.2.1 hcf.2.2.2.1 (fun x hx => hE hcf.2.2.1 x hx) ids[i] (HPR.out.2.1 _ (List.getElem_mem h))
    refine ⟨x, K, ?_, hE hcf.2.2.1 x hx, hK K (Nat.le_refl _)⟩
    unfold nodN; rw [rd_int ids i h, hn])
  clear hE hlen hc0 hcm hcf HPR
  go_enter Tryd.func24, Tryd.ntmps24
  go_wp2_with (first | ((with_reducible refine gate_dst (N := 1) rfl ?_); refine box_event ?hg (N := 1) ?hd (cs := #[.slice A l.length c, .int .i64 a1, .int .i64 a2, .int .i64 a3]) (t := 26) ?hr ?_; (case hd => rfl); (case hg => rfl); (case hr => first | (go_simp; done) | (go_simp; rfl)); intro g1 hg1 w1 hbox hb; have B1 := Lib.hid hbox; have HB1 := Lib.hid (below_step (Below.refl w.heap.size w) hb); have E1 : Hid (w.heap.size ≤ g1) := Lib.hid (by rw [hg1]; exact Nat.le_refl _); clear hbox hb hg1) | ((with_reducible refine gate_dst (N := 2) rfl ?_); refine box_event ?hg (N := 2) ?hd (cs := zT) (t := 26) ?hr ?_; (case hd => rfl); (case hg => rfl); (case hr => first | (go_simp; done) | (go_simp; rfl)); intro g2 hg2 w2 hbox hb; have N12 : Hid (g1 ≠ g2) := Lib.hid (by rw [hg2]; exact Nat.ne_of_lt (blk_lt B1.out)); have C1 := Lib.hid (blk_below B1.out hb); have B2 := Lib.hid hbox; have HB2 := Lib.hid (below_step HB1.out hb); have E2 : Hid (w.heap.size ≤ g2) := Lib.hid (by rw [hg2]; exact below_size HB1.out); have d0 : w2.cell? ⟨g1, 0, none⟩ = some (.slice A l.length c) := (blk_cell C1.out 0).trans rfl; have d1 : w2.cell? ⟨g1, 1, none⟩ = some (.int .i64 a1) := (blk_cell C1.out 1).trans rfl; have d2 : w2.cell? ⟨g1, 2, none⟩ = some (.int .i64 a2) := (blk_cell C1.out 2).trans rfl; have d3 : w2.cell? ⟨g1, 3, none⟩ = some (.int .i64 a3) := (blk_cell C1.out 3).trans rfl; clear hbox hb hg2) | (go_at_call 64; (with_reducible refine (walked_any l A c a1 a2 a3 _ (Kd.C_below HR0.out HB2.out) HC0.out HEE.out).mono ?_); rintro e w3 ⟨gw, gm, v, rfl, hst⟩; rw [hids] at hst; have HST := Lib.hid hst; obtain ⟨A2, c2, ev, _⟩ := Kd.Q_slice hst.q; subst ev; clear hst d0 d1 d2 d3; have f4 : w3.cell? ⟨gw, 4, none⟩ = some (.slice A2 ids.length c2) := (blk_cell HST.out.bk 4).trans rfl) | ((with_reducible refine gate_dst (N := 23) rfl ?_); refine mk_event ?hg (N := 23) ?hd ?hr ?_; (case hd => rfl); (case hg => rfl); (case hr => first | (go_simp; done) | (go_simp; rfl)); intro gmt hgmt w4 hmap hb; have CS : Hid (CSt w w4 g1 g2 gw gmt #[.slice A l.length c, .int .i64 a1, .int .i64 a2, .int .i64 a3] #[.slice A l.length c, .int .i64 a1, .int .i64 a2, .int .i64 a3, .slice A2 ids.length c2, .map (some gm)] (.slice A2 ids.length c2) ids 0) := Lib.hid ⟨below_step (below_step HB2.out HST.out.hb) hb, blk_below (blk_below C1.out HST.out.hb) hb, blk_below (blk_below B2.out HST.out.hb) hb, blk_below HST.out.bk hb, E1.out, E2.out, Nat.le_trans (below_size HB2.out) HST.out.ge, by rw [hgmt]; exact below_size (below_step HB2.out HST.out.hb), Kd.Q_below (Kd.Q_lower HST.out.q (below_size HB2.out)) hb, hmap⟩; clear f4 HST hmap hb hgmt HB1 HB2 B1 B2 C1; have f4 : w4.cell? ⟨gw, 4, none⟩ = some (.slice A2 ids.length c2) := (blk_cell CS.out.b4 4).trans rfl))
  go_loopw [29] (fun s29 wr => ∃ i : Nat, i ≤ ids.length ∧ s29 = .int .i64 i ∧ Hid (CSt w wr g1 g2 gw gmt #[.slice A l.length c, .int .i64 a1, .int .i64 a2, .int .i64 a3] #[.slice A l.length c, .int .i64 a1, .int .i64 a2, .int .i64 a3, .slice A2 ids.length c2, .map (some gm)] (.slice A2 ids.length c2) ids i)) (fun s29 _ => ids.length - (intOf s29).toNat)
  case atStart => exact ⟨0, Nat.zero_le _, rfl, CS⟩
  case round =>
   clear CS f4
   obtain ⟨i, hi, rfl, HC⟩ := hrel
   by_cases hlt : i < ids.length
   ·
    have i0 : decide (0 ≤ (i : Int)) = true := decide_eq_true (by omega)
    have i1 : decide ((i : Int) < (ids.length : Int)) = true := decide_eq_true (by omega)
    obtain ⟨ad, ea, hx⟩ := Kd.at_int (Kd.Q_reads' HC.out.q).2.2 (i : Int) (by omega) (by omega)
    cases ea
    rw [Int.toNat_natCast] at hx
    have HWR : Hid (wrap64 ((i : Int) + 1) = ((i + 1 : Nat) : Int)) := Lib.hid (by have := HLN.out; unfold wrap64; omega)
    have HLT := Lib.hid hlt
    clear hi hlt
    go_wp2_with (refine mp_put rfl (Or.inl rfl) HC.out.mp (keyI Tryd.underlying3) Tryd.underlying75 rfl (rd ids (i : Int)) (wrap64 ((i : Int) + 1)) (by rfl) (by rfl) ?_; intro wM hM1 hgM; have HC2 := Lib.hid (HC.out.update (m := i + 1) hM1 hgM); clear hM1 hgM)
    go_roundw
    case rel => exact ⟨i + 1, HLT.out, by rw [HWR.out], HC2⟩
    case measure => exact meas_ _ _ HWR.out HLT.out
   ·
    obtain rfl : i = ids.length := by omega
    clear hlt hi
    have f4 : wr.cell? ⟨gw, 4, none⟩ = some (.slice A2 ids.length c2) := (blk_cell HC.out.b4 4).trans rfl
    have d2 : wr.cell? ⟨g1, 2, none⟩ = some (.int .i64 a2) := (blk_cell HC.out.b1 2).trans rfl
    have d3 : wr.cell? ⟨g1, 3, none⟩ = some (.int .i64 a3) := (blk_cell HC.out.b1 3).trans rfl
    go_wp2
    refine start_ (n := 10) (S := (fun w' => w'.cell? ⟨gw, 4, none⟩ = some (.slice A2 ids.length c2) ∧ w'.cell? ⟨g1, 2, none⟩ = some (.int .i64 a2) ∧ w'.cell? ⟨g1, 3, none⟩ = some (.int .i64 a3))) (ds := [9]) #[false, false, false, false, false, false, false, false, false, false] (by kernel_rfl) rfl rfl ⟨f4, d2, d3⟩ (fun hHeld => ?_)
    have HCd := Lib.hid (HC.out.below ((Below.refl _ wr).drew))
    clear HC f4 d2 d3
    generalize World.drew _ = wd at HCd hHeld ⊢
    iterate 5 (first | ((first | refine takeS_ 0 (N := some 39) (v := ?_) (a' := ?_) rfl rfl (by decide +kernel) (fun _ _ _ h => h) (Or.inl ⟨by rfl, ?_⟩) hHeld ?_ ?_ | refine takeS_ 1 (N := some 40) (v := ?_) (a' := ?_) rfl rfl (by decide +kernel) (fun _ _ _ h => h) (Or.inl ⟨by rfl, ?_⟩) hHeld ?_ ?_ | refine takeS_ 2 (N := some 41) (v := ?_) (a' := ?_) rfl rfl (by decide +kernel) (fun _ _ _ h => h) (Or.inl ⟨by rfl, ?_⟩) hHeld ?_ ?_ | refine takeS_ 5 (N := some 44) (v := ?_) (a' := ?_) rfl rfl (by decide +kernel) (fun _ _ _ h => h) (Or.inl ⟨by rfl, ?_⟩) hHeld ?_ ?_ | refine takeS_ 3 (N := some 42) (v := ?_) (a' := ?_) rfl rfl (by decide +kernel) (fun _ _ _ h => h) (Or.inl ⟨by rfl, ?_⟩) hHeld ?_ ?_); rotate_left; (rintro w' ⟨s0, s1, s2⟩; go_simp; first | done | (with_reducible rfl) | rfl); rotate_left; (simp only [Act.put, List.setIfInBounds_toArray, List.set_cons_zero, List.set_cons_succ, i64_w, i32_w]; rfl)) | ((first | refine takeS_ 0 (N := some 39) (v := undef) (a' := ?_) rfl rfl (by decide +kernel) (fun _ _ _ h => h) (Or.inr ⟨by rfl, rfl⟩) hHeld ?_ ?_ | refine takeS_ 1 (N := some 40) (v := undef) (a' := ?_) rfl rfl (by decide +kernel) (fun _ _ _ h => h) (Or.inr ⟨by rfl, rfl⟩) hHeld ?_ ?_ | refine takeS_ 2 (N := some 41) (v := undef) (a' := ?_) rfl rfl (by decide +kernel) (fun _ _ _ h => h) (Or.inr ⟨by rfl, rfl⟩) hHeld ?_ ?_ | refine takeS_ 5 (N := some 44) (v := undef) (a' := ?_) rfl rfl (by decide +kernel) (fun _ _ _ h => h) (Or.inr ⟨by rfl, rfl⟩) hHeld ?_ ?_ | refine takeS_ 3 (N := some 42) (v := undef) (a' := ?_) rfl rfl (by decide +kernel) (fun _ _ _ h => h) (Or.inr ⟨by rfl, rfl⟩) hHeld ?_ ?_); rotate_left; (simp only [Act.put, List.setIfInBounds_toArray, List.set_cons_zero, List.set_cons_succ, i64_w, i32_w]; rfl)))
    iterate 3 (first | ((first | refine takeS_ 4 (N := some 43) (v := ?_) (a' := ?_) rfl rfl (by decide +kernel) (fun _ _ _ h => h) (Or.inl ⟨by rfl, ?_⟩) hHeld ?_ ?_ | refine takeS_ 6 (N := some 45) (v := ?_) (a' := ?_) rfl rfl (by decide +kernel) (fun _ _ _ h => h) (Or.inl ⟨by rfl, ?_⟩) hHeld ?_ ?_ | refine takeS_ 7 (N := some 46) (v := ?_) (a' := ?_) rfl rfl (by decide +kernel) (fun _ _ _ h => h) (Or.inl ⟨by rfl, ?_⟩) hHeld ?_ ?_); rotate_left; (rintro w' ⟨s0, s1, s2⟩; go_simp; first | done | (with_reducible rfl) | rfl); rotate_left; (simp only [Act.put, List.setIfInBounds_toArray, List.set_cons_zero, List.set_cons_succ, i64_w, i32_w]; rfl)) | ((first | refine takeS_ 4 (N := some 43) (v := undef) (a' := ?_) rfl rfl (by decide +kernel) (fun _ _ _ h => h) (Or.inr ⟨by rfl, rfl⟩) hHeld ?_ ?_ | refine takeS_ 6 (N := some 45) (v := undef) (a' := ?_) rfl rfl (by decide +kernel) (fun _ _ _ h => h) (Or.inr ⟨by rfl, rfl⟩) hHeld ?_ ?_ | refine takeS_ 7 (N := some 46) (v := undef) (a' := ?_) rfl rfl (by decide +kernel) (fun _ _ _ h => h) (Or.inr ⟨by rfl, rfl⟩) hHeld ?_ ?_); rotate_left; (simp only [Act.put, List.setIfInBounds_toArray, List.set_cons_zero, List.set_cons_succ, i64_w, i32_w]; rfl)))
    refine oneS_ 8 (N := some 8) rfl rfl (by kernel_rfl) (by decide) (fun K hK => ?_)
    refine box_step ?hg (N := 8) ?hd (cs := zT) (t := 26) ?hr ?_; (case hd => rfl); (case hg => rfl); (case hr => first | (go_simp; done) | (go_simp; rfl))
    intro g8 hg8 w5 hbox hb
    have B8 := Lib.hid hbox
    have E8 : Hid (w.heap.size ≤ g8) := Lib.hid (by rw [hg8]; exact below_size HCd.out.hb)
    have N81 : Hid (g1 ≠ g8) := Lib.hid (by rw [hg8]; exact Nat.ne_of_lt (blk_lt HCd.out.b1))
    have N82 : Hid (g2 ≠ g8) := Lib.hid (by rw [hg8]; exact Nat.ne_of_lt (blk_lt HCd.out.b2))
    have HC5 := Lib.hid (HCd.out.below hb)
    clear hbox hb hg8 HCd
    refine hK.out _ _ ⟨(blk_cell HC5.out.b4 4).trans rfl, (blk_cell HC5.out.b1 2).trans rfl, (blk_cell HC5.out.b1 3).trans rfl⟩ (fun hHeld => ?_)
    clear hK K
    refine norm_ (a' := ?_) ?_ ?_
    rotate_left
    ·
     show Act.put _ (some 8) _ = _
     simp only [Act.put, List.setIfInBounds_toArray, List.set_cons_zero, List.set_cons_succ, i64_w, i32_w]
     rfl
    have k0 : w5.cell? ⟨g8, 0, none⟩ = some (.slice none 0 0) := (blk_cell B8.out 0).trans rfl
    have k1 : w5.cell? ⟨g8, 1, none⟩ = some (.int .i64 0) := (blk_cell B8.out 1).trans rfl
    have k2 : w5.cell? ⟨g8, 2, none⟩ = some (.int .i64 0) := (blk_cell B8.out 2).trans rfl
    have k3 : w5.cell? ⟨g8, 3, none⟩ = some (.int .i64 0) := (blk_cell B8.out 3).trans rfl
    have f0 := blk_frozen B8.out 0
    have f1 := blk_frozen B8.out 1
    have f2 := blk_frozen B8.out 2
    have f3 := blk_frozen B8.out 3
    refine lastS_ 9 (N := none) rfl rfl (by kernel_rfl) (by decide) (fun K hK => ?_)
    refine skip_ (w1 := ?_) (by rfl) rfl ?_ ?_
    rotate_left
    ·
     go_simp
     rfl
    refine hK.out _ _ ?_
    clear hK K
    refine done_ (by kernel_rfl) ?_
    have HO := Lib.hid (OSt.init HC5.out B8.out E8.out N81.out N82.out (ids.length : Int) a2 a3)
    clear k0 k1 k2 k3 f0 f1 f2 f3 B8 HC5 hHeld
    generalize (((w5.setCell ⟨g8, 0, none⟩ _).setCell ⟨g8, 1, none⟩ _).setCell ⟨g8, 2, none⟩ _).setCell ⟨g8, 3, none⟩ _ = w6 at HO ⊢
    have f4 : w6.cell? ⟨gw, 4, none⟩ = some (.slice A2 ids.length c2) := (blk_cell HO.out.c.b4 4).trans rfl
    go_wp2
    go_loopw [52] (fun s52 wr => ∃ (i : Nat) (u : Value), i ≤ ids.length ∧ s52 = .int .i64 i ∧ Hid (OSt w wr g1 g2 gw gmt g8 #[.slice A l.length c, .int .i64 a1, .int .i64 a2, .int .i64 a3] #[.slice A l.length c, .int .i64 a1, .int .i64 a2, .int .i64 a3, .slice A2 ids.length c2, .map (some gm)] (.slice A2 ids.length c2) ids ids.length u ((List.range i).map (nodN l ids)) (ids.length : Int) a2 a3)) (fun s52 _ => ids.length - (intOf s52).toNat)
    case atStart => exact ⟨0, .slice none 0 0, Nat.zero_le _, rfl, HO⟩
    case round =>
     clear HO f4
     obtain ⟨i, u, hi, rfl, HO⟩ := hrel
     by_cases hlt : i < ids.length
     ·
      obtain ⟨x, K, hX, hxl, hG⟩ := HGET.out i hlt
      have HX := Lib.hid hX
      have HXL := Lib.hid hxl
      have HG : Hid (tree_Get.f K l a1 a2 a3 (rd ids (i : Int)) = some (x.f0, x.f1, x.f2, x.f3, x.f4, x.f5, x.f6, true)) := Lib.hid (by rw [rd_int ids i hlt]; exact hG)
      have i0 : decide (0 ≤ (i : Int)) = true := decide_eq_true (by omega)
      have i1 : decide ((i : Int) < (ids.length : Int)) = true := decide_eq_true (by omega)
      obtain ⟨ad, ea, hx⟩ := Kd.at_int (Kd.Q_reads' HO.out.c.q).2.2 (i : Int) (by omega) (by omega)
      cases ea
      rw [Int.toNat_natCast] at hx
      have HWR : Hid (wrap64 ((i : Int) + 1) = ((i + 1 : Nat) : Int)) := Lib.hid (by have := HLN.out; unfold wrap64; omega)
      have HLT := Lib.hid hlt
      clear hi hlt hX hxl hG HGET
      have d0 : wr.cell? ⟨g1, 0, none⟩ = some (.slice A l.length c) := (blk_cell HO.out.c.b1 0).trans rfl
      have d1 : wr.cell? ⟨g1, 1, none⟩ = some (.int .i64 a1) := (blk_cell HO.out.c.b1 1).trans rfl
      have d2 : wr.cell? ⟨g1, 2, none⟩ = some (.int .i64 a2) := (blk_cell HO.out.c.b1 2).trans rfl
      have d3 : wr.cell? ⟨g1, 3, none⟩ = some (.int .i64 a3) := (blk_cell HO.out.c.b1 3).trans rfl
      rename World => wq
      go_upto_region 16 with (first | (go_at_call 26; (with_reducible refine (tree_Get.calls K _ _ l a1 a2 a3 (rd ids (i : Int)) x.f0 x.f1 x.f2 x.f3 x.f4 x.f5 x.f6 true _ (Kd.C_below HR0.out HO.out.c.hb) HC0.out HG.out).mono ?_); rintro e w5 ⟨v6, rfl, hr6, hb⟩; obtain ⟨A6, c6, e6⟩ := Kd.R_slice hr6; subst e6; have HB5 := Lib.hid hb; have HR6 := Lib.hid hr6; clear hb hr6 d0 d1 d2 d3) | ((with_reducible refine gate_dst (N := 11) rfl ?_); refine box_event ?hg (N := 11) ?hd (cs := zN) (t := 44) ?hr ?_; (case hd => rfl); (case hg => rfl); (case hr => first | (go_simp; done) | (go_simp; rfl)); intro gb hgb w7 hbox hb; refine store_node rfl rfl (.tmp 11) (.tmp 61) rfl (x0 := x.f0) (x1 := x.f1) (x2 := x.f2) (x3 := x.f3) (x4 := x.f4) (x5 := x.f5) rfl rfl HB5.out HR6.out hb hbox hgb ?_; clear hbox hb hgb HB5 HR6; intro w8 hn0; have HN0 := Lib.hid hn0; clear hn0; have z0 : w8.cell? ⟨gb, 0, none⟩ = some (.int .i64 x.f0) := (blk_cell HN0.out.bn 0).trans rfl; have y0 := blk_frozen HN0.out.bn 0))
      (try simp only [Act.put, List.setIfInBounds_toArray, List.set_cons_zero, List.set_cons_succ])
      have HN := Lib.hid (HN0.out.setId (wrap64 ((i : Int) + 1)))
      clear z0 y0 HN0
      generalize w8.setCell _ _ = w9 at HN ⊢
      have n6 : w9.cell? ⟨gb, 6, none⟩ = some (.slice A6 x.f6.length c6) := (blk_cell HN.out.bn 6).trans rfl
      go_wp2
      go_loopw [69] (fun s69 wr => ∃ (k : Nat) (A6 : Option Addr) (c6 : Nat), k ≤ x.f6.length ∧ s69 = .int .i64 k ∧ Hid (NSt wq wr gb (wrap64 ((i : Int) + 1)) x.f1 x.f2 x.f3 x.f4 x.f5 (.slice A6 x.f6.length c6) (((x.f6.take k).map (entN ids)) ++ x.f6.drop k))) (fun s69 _ => x.f6.length - (intOf s69).toNat)
      case atStart => exact ⟨0, A6, c6, Nat.zero_le _, rfl, Lib.hid (by rw [List.take_zero, List.map_nil, List.nil_append, List.drop_zero]; exact HN.out)⟩
      case round =>
       clear HN n6
       obtain ⟨k, A6, c6, hk, rfl, HN⟩ := hrel
       by_cases hlt : k < x.f6.length
       ·
        have hxs : (((x.f6.take k).map (entN ids)) ++ x.f6.drop k).length = x.f6.length := by rw [List.length_append, List.length_map, List.length_take, List.length_drop]; omega
        have hrd : rd_T61 (((x.f6.take k).map (entN ids)) ++ x.f6.drop k) (k : Int) = x.f6[k] := by
         rw [rdE _ k (by rw [hxs]; exact hlt), List.getElem_append_right (by rw [List.length_map, List.length_take]; omega)]
         simp only [List.length_map, List.length_take, List.getElem_drop]
         congr 1
         omega
        obtain ⟨name, node, hen⟩ : ∃ name node, x.f6[k] = ⟨name, node⟩ := ⟨_, _, rfl⟩
        have hset := rdE_set x.f6 (entN ids) k hlt
        rw [hen] at hrd hset
        rw [show entN ids ⟨name, node⟩ = ⟨name, gI (toMn ids ids.length) node⟩ from rfl] at hset
        have i2 : decide (0 ≤ (k : Int)) = true := decide_eq_true (by omega)
        have i3 : decide ((k : Int) < (x.f6.length : Int)) = true := decide_eq_true (by omega)
        have HWK : Hid (wrap64 ((k : Int) + 1) = ((k + 1 : Nat) : Int)) := Lib.hid (by have := HXL.out; unfold wrap64; omega)
        have HLK := Lib.hid hlt
        obtain ⟨go, cg, eg, hgb, hgl, hgc⟩ := Kd.R_form HN.out.r (by rw [hxs]; omega)
        rw [hxs] at eg
        cases eg
        have HMP := Lib.hid (HO.out.below HN.out.hb).c.mp
        have HND := Lib.hid (HN.out.below ((Below.refl _ wr).drew))
        have HGB := Lib.hid hgb
        have HNE : Hid (gb ≠ go) := Lib.hid (fun e => by obtain ⟨cells, hc⟩ := hgc; have h1 := HN.out.bn; rw [e, hc] at h1; injection h1 with h1; injection h1 with _ t; exact absurd t (by decide))
        clear hgb hgl hgc hk hlt hen
        obtain ⟨ce, hcl, hM, hcc, hfr⟩ := Kd.R_elem HND.out.r z61 (k : Int) (by omega) (by have := HLK.out; omega)
        obtain rfl := k61_openM hM
        have hx1 : (World.drew wr).cell? ⟨go, (k : Int).toNat * 2 + 1, none⟩ = some (.int .i64 node) := by have := hcc 1 _ rfl; rw [show ((((x.f6.take k).map (entN ids)) ++ x.f6.drop k).getD (k : Int).toNat z61) = ⟨name, node⟩ from hrd] at this; exact this
        have hf1 : (World.drew wr).frozen? ⟨go, (k : Int).toNat * 2 + 1, none⟩ = false := hfr 1
        have HSEG := Lib.hid ((Kd.R_seg HND.out.r (k : Int) (by omega) (by have := HLK.out; omega) (seg := [.int .i64 (gI (toMn ids ids.length) node)]) (j := 1) hcl hcc (show 2 ≤ 2 from by decide) (x' := (⟨name, gI (toMn ids ids.length) node⟩ : Ent)) (by have := k61_mkM (World.drew wr) wq.heap.size (fun _ => True) (⟨name, gI (toMn ids ids.length) node⟩ : Ent); rw [show ((((x.f6.take k).map (entN ids)) ++ x.f6.drop k).getD (k : Int).toNat z61) = ⟨name, node⟩ from hrd]; exact this) (fun _ hk => hk)).1)
        rw [Int.toNat_natCast, hset] at HSEG
        rw [Int.toNat_natCast] at hx1 hf1
        clear hcc hfr hM hcl hrd hset
        have n6 : wr.cell? ⟨gb, 6, none⟩ = some (.slice (some ⟨go, 0, none⟩) x.f6.length c6) := (blk_cell HN.out.bn 6).trans rfl
        go_wp2
        refine start_ (n := 14) (S := (fun w' => MapA KI KI w' gmt (toMn ids ids.length) ∧ w'.cell? ⟨gb, 6, none⟩ = some (.slice (some ⟨go, 0, none⟩) x.f6.length c6) ∧ w'.cell? ⟨go, k * 2 + 1, none⟩ = some (.int .i64 node))) (ds := [13]) #[false, false, false, false, false, false, false, false, false, false, false, false, false, false] (by kernel_rfl) rfl rfl ⟨HMP.out, n6, hx1⟩ (fun hHeld => ?_)
        clear n6 HN HMP
        generalize World.drew _ = wd at HND HSEG hx1 hf1 hHeld ⊢
        iterate 5 (first | ((first | refine takeS_ 0 (N := some 72) (v := ?_) (a' := ?_) rfl rfl (by decide +kernel) (fun _ _ _ h => h) (Or.inl ⟨by rfl, ?_⟩) hHeld ?_ ?_ | refine takeS_ 1 (N := some 73) (v := ?_) (a' := ?_) rfl rfl (by decide +kernel) (fun _ _ _ h => h) (Or.inl ⟨by rfl, ?_⟩) hHeld ?_ ?_ | refine takeS_ 2 (N := some 74) (v := ?_) (a' := ?_) rfl rfl (by decide +kernel) (fun _ _ _ h => h) (Or.inl ⟨by rfl, ?_⟩) hHeld ?_ ?_ | refine takeS_ 3 (N := some 75) (v := ?_) (a' := ?_) rfl rfl (by decide +kernel) (fun _ _ _ h => h) (Or.inl ⟨by rfl, ?_⟩) hHeld ?_ ?_ | refine takeS_ 4 (N := some 76) (v := ?_) (a' := ?_) rfl rfl (by decide +kernel) (fun _ _ _ h => h) (Or.inl ⟨by rfl, ?_⟩) hHeld ?_ ?_); rotate_left; (rintro w' ⟨sm, s0, s1⟩; go_simp; first | done | (with_reducible rfl) | rfl); rotate_left; (simp only [Act.put, List.setIfInBounds_toArray, List.set_cons_zero, List.set_cons_succ, i64_w, i32_w]; rfl)) | ((first | refine takeS_ 0 (N := some 72) (v := undef) (a' := ?_) rfl rfl (by decide +kernel) (fun _ _ _ h => h) (Or.inr ⟨by rfl, rfl⟩) hHeld ?_ ?_ | refine takeS_ 1 (N := some 73) (v := undef) (a' := ?_) rfl rfl (by decide +kernel) (fun _ _ _ h => h) (Or.inr ⟨by rfl, rfl⟩) hHeld ?_ ?_ | refine takeS_ 2 (N := some 74) (v := undef) (a' := ?_) rfl rfl (by decide +kernel) (fun _ _ _ h => h) (Or.inr ⟨by rfl, rfl⟩) hHeld ?_ ?_ | refine takeS_ 3 (N := some 75) (v := undef) (a' := ?_) rfl rfl (by decide +kernel) (fun _ _ _ h => h) (Or.inr ⟨by rfl, rfl⟩) hHeld ?_ ?_ | refine takeS_ 4 (N := some 76) (v := undef) (a' := ?_) rfl rfl (by decide +kernel) (fun _ _ _ h => h) (Or.inr ⟨by rfl, rfl⟩) hHeld ?_ ?_); rotate_left; (simp only [Act.put, List.setIfInBounds_toArray, List.set_cons_zero, List.set_cons_succ, i64_w, i32_w]; rfl)))
        iterate 5 (first | ((first | refine takeS_ 5 (N := some 77) (v := ?_) (a' := ?_) rfl rfl (by decide +kernel) (fun _ _ _ h => h) (Or.inl ⟨by rfl, ?_⟩) hHeld ?_ ?_ | refine takeS_ 6 (N := some 78) (v := ?_) (a' := ?_) rfl rfl (by decide +kernel) (fun _ _ _ h => h) (Or.inl ⟨by rfl, ?_⟩) hHeld ?_ ?_ | refine takeS_ 7 (N := some 79) (v := ?_) (a' := ?_) rfl rfl (by decide +kernel) (fun _ _ _ h => h) (Or.inl ⟨by rfl, ?_⟩) hHeld ?_ ?_ | refine takeS_ 8 (N := some 80) (v := ?_) (a' := ?_) rfl rfl (by decide +kernel) (fun _ _ _ h => h) (Or.inl ⟨by rfl, ?_⟩) hHeld ?_ ?_ | refine takeS_ 9 (N := some 81) (v := ?_) (a' := ?_) rfl rfl (by decide +kernel) (fun _ _ _ h => h) (Or.inl ⟨by rfl, ?_⟩) hHeld ?_ ?_); rotate_left; (rintro w' ⟨sm, s0, s1⟩; go_simp; first | done | (with_reducible rfl) | rfl); rotate_left; (simp only [Act.put, List.setIfInBounds_toArray, List.set_cons_zero, List.set_cons_succ, i64_w, i32_w]; rfl)) | ((first | refine takeS_ 5 (N := some 77) (v := undef) (a' := ?_) rfl rfl (by decide +kernel) (fun _ _ _ h => h) (Or.inr ⟨by rfl, rfl⟩) hHeld ?_ ?_ | refine takeS_ 6 (N := some 78) (v := undef) (a' := ?_) rfl rfl (by decide +kernel) (fun _ _ _ h => h) (Or.inr ⟨by rfl, rfl⟩) hHeld ?_ ?_ | refine takeS_ 7 (N := some 79) (v := undef) (a' := ?_) rfl rfl (by decide +kernel) (fun _ _ _ h => h) (Or.inr ⟨by rfl, rfl⟩) hHeld ?_ ?_ | refine takeS_ 8 (N := some 80) (v := undef) (a' := ?_) rfl rfl (by decide +kernel) (fun _ _ _ h => h) (Or.inr ⟨by rfl, rfl⟩) hHeld ?_ ?_ | refine takeS_ 9 (N := some 81) (v := undef) (a' := ?_) rfl rfl (by decide +kernel) (fun _ _ _ h => h) (Or.inr ⟨by rfl, rfl⟩) hHeld ?_ ?_); rotate_left; (simp only [Act.put, List.setIfInBounds_toArray, List.set_cons_zero, List.set_cons_succ, i64_w, i32_w]; rfl)))
        refine takeS_ 10 (N := some 82) (v := .int .i64 (gI (toMn ids ids.length) node)) (a' := ?_) rfl rfl (by kernel_rfl) (fun _ _ _ h => h) (Or.inl ⟨by rfl, ?_⟩) hHeld ?_ ?_
        ·
         rintro w' ⟨sm, s0, s1⟩
         have hlk1 := MapA.lookI sm Tryd.underlying75 zeroI node
         go_simp
         first | done | (with_reducible rfl) | rfl
        rotate_left
        ·
         simp only [Act.put, List.setIfInBounds_toArray, List.set_cons_zero, List.set_cons_succ, i64_w, i32_w]
         rfl
        iterate 2 (first | ((first | refine takeS_ 11 (N := some 83) (v := ?_) (a' := ?_) rfl rfl (by decide +kernel) (fun _ _ _ h => h) (Or.inl ⟨by rfl, ?_⟩) hHeld ?_ ?_ | refine takeS_ 12 (N := some 84) (v := ?_) (a' := ?_) rfl rfl (by decide +kernel) (fun _ _ _ h => h) (Or.inl ⟨by rfl, ?_⟩) hHeld ?_ ?_); rotate_left; (rintro w' ⟨sm, s0, s1⟩; go_simp; first | done | (with_reducible rfl) | rfl); rotate_left; (simp only [Act.put, List.setIfInBounds_toArray, List.set_cons_zero, List.set_cons_succ, i64_w, i32_w]; rfl)) | ((first | refine takeS_ 11 (N := some 83) (v := undef) (a' := ?_) rfl rfl (by decide +kernel) (fun _ _ _ h => h) (Or.inr ⟨by rfl, rfl⟩) hHeld ?_ ?_ | refine takeS_ 12 (N := some 84) (v := undef) (a' := ?_) rfl rfl (by decide +kernel) (fun _ _ _ h => h) (Or.inr ⟨by rfl, rfl⟩) hHeld ?_ ?_); rotate_left; (simp only [Act.put, List.setIfInBounds_toArray, List.set_cons_zero, List.set_cons_succ, i64_w, i32_w]; rfl)))
        refine lastS_ 13 (N := none) rfl rfl (by kernel_rfl) (by decide) (fun K hK => ?_)
        refine skip_ (w1 := ?_) (by rfl) rfl ?_ ?_
        rotate_left
        ·
         go_simp
         rfl
        refine hK.out _ _ ?_
        clear hK K
        refine done_ (by kernel_rfl) ?_
        have HN2 : Hid (NSt wq (wd.setCell ⟨go, k * 2 + 1, none⟩ (.int .i64 (gI (toMn ids ids.length) node))) gb (wrap64 ((i : Int) + 1)) x.f1 x.f2 x.f3 x.f4 x.f5 (.slice (some ⟨go, 0, none⟩) x.f6.length c6) (((x.f6.take (k + 1)).map (entN ids)) ++ x.f6.drop (k + 1))) :=
         Lib.hid ⟨below_set HND.out.hb HGB.out, blk_far HND.out.bn HNE.out _, HND.out.en, HSEG.out⟩
        clear hx1 hf1 hHeld HSEG HND
        generalize wd.setCell _ _ = we at HN2 ⊢
        go_wp2
        go_roundw
        case rel => exact ⟨k + 1, _, _, HLK.out, by rw [HWK.out], HN2⟩
        case measure => exact meas_ _ _ HWK.out HLK.out
       ·
        obtain rfl : k = x.f6.length := by omega
        rw [List.take_length, List.drop_length, List.append_nil] at HN
        clear hlt hk
        have HOW := Lib.hid (HO.out.below HN.out.hb)
        have m0 : wr.cell? ⟨g8, 0, none⟩ = some u := (blk_cell HOW.out.b8 0).trans rfl
        have n0 : wr.cell? ⟨gb, 0, none⟩ = some (.int .i64 (wrap64 ((i : Int) + 1))) := (blk_cell HN.out.bn 0).trans rfl
        have n1 : wr.cell? ⟨gb, 1, none⟩ = some (.int .i64 x.f1) := (blk_cell HN.out.bn 1).trans rfl
        have n2 : wr.cell? ⟨gb, 2, none⟩ = some (.int .i64 x.f2) := (blk_cell HN.out.bn 2).trans rfl
        have n3 : wr.cell? ⟨gb, 3, none⟩ = some (.int .i64 x.f3) := (blk_cell HN.out.bn 3).trans rfl
        have n4 : wr.cell? ⟨gb, 4, none⟩ = some (.int .i64 x.f4) := (blk_cell HN.out.bn 4).trans rfl
        have n5 : wr.cell? ⟨gb, 5, none⟩ = some (.string x.f5) := (blk_cell HN.out.bn 5).trans rfl
        have n6 : wr.cell? ⟨gb, 6, none⟩ = some (.slice A6 x.f6.length c6) := (blk_cell HN.out.bn 6).trans rfl
        have HNX : Hid ((List.range i).map (nodN l ids) ++ [(⟨wrap64 ((i : Int) + 1), x.f1, x.f2, x.f3, x.f4, x.f5, x.f6.map (entN ids)⟩ : Nod)] = (List.range (i + 1)).map (nodN l ids)) := Lib.hid (by rw [List.range_succ, List.map_append, ← HX.out]; rfl)
        go_wp2_with ((with_reducible refine gate_builtin (b := .append) (xs := #[.tmp 87, .tmp 89]) rfl ?_); at_builtin; refine Kd.S_append k44 (w0 := w) w.heap.size rfl (.tmp 87) (.tmp 89) 22 44 (.agg #[(.int .i64 0), (.int .i64 0), (.int .i64 0), (.int .i64 0), (.int .i64 0), (.string ⟨#[]⟩), (.slice none 0 0)]) 80 rfl Tryd.underlying22 info44 rfl (by decide) (by omega) u ((List.range i).map (nodN l ids)) (⟨wrap64 ((i : Int) + 1), x.f1, x.f2, x.f3, x.f4, x.f5, x.f6.map (entN ids)⟩ : Nod) [.int .i64 (wrap64 ((i : Int) + 1)), .int .i64 x.f1, .int .i64 x.f2, .int .i64 x.f3, .int .i64 x.f4, .string x.f5, .slice A6 x.f6.length c6] (fun _ => True) (fun k_ => some k_ = (Value.slice A6 x.f6.length c6).ownBlock) rfl rfl ?aP ?aK (fun _ _ => trivial) ?aO HOW.out.c.hb (below_size HOW.out.c.hb) ?aL ?_; (case aP => exact k44_mkM _ _ _ (⟨wrap64 ((i : Int) + 1), x.f1, x.f2, x.f3, x.f4, x.f5, x.f6.map (entN ids)⟩ : Nod) (Kd.R_tight rfl (Kd.R_lower (by have h_ := HN.out.r; exact h_) (below_size HO.out.c.hb)))); (case aK => exact fun k_ hk_ => ⟨trivial, fun e_ => by have h1 := Kd.R_base HN.out.r k_ hk_.symm; have h2 := Kd.S_lt HO.out.s k_ e_.symm; omega⟩); (case aO => exact Kd.S_mono (Kd.S_old HO.out.s HN.out.hb) (fun k_ hk_ => ⟨trivial, fun e_ => by have h1 := Kd.R_base HN.out.r k_ e_.symm; have h2 := hk_.2; omega⟩)); (case aL => have := HLN.out; have := HLT.out; rw [List.length_map, List.length_range]; omega); intro v1 w9 ho hb9 hg9 _; obtain ⟨A9, c9, e9⟩ := slice_next ho; subst e9; have HO2 := Lib.hid (HOW.out.push ho hb9 hg9); have p0 : w9.cell? ⟨g8, 0, none⟩ = some u := (blk_cell (blk_grown HOW.out.b8 hg9 (Kd.S_ne HOW.out.s HOW.out.b8 (by decide))) 0).trans rfl; have pf := blk_frozen (blk_grown HOW.out.b8 hg9 (Kd.S_ne HOW.out.s HOW.out.b8 (by decide))) 0; clear ho hb9 hg9)
        go_roundw
        case rel =>
         rw [HNX.out] at HO2
         exact ⟨i + 1, _, HLT.out, by rw [HWR.out], HO2⟩
        case measure => exact meas_ _ _ HWR.out HLT.out
     ·
      obtain rfl : i = ids.length := by omega
      clear hlt hi HGET
      have HFI : Hid ((List.range ids.length).map (nodN l ids) = canN l ids) := Lib.hid rfl
      rw [HFI.out] at HO
      obtain ⟨A9, c9, e9⟩ := Kd.S_slice HO.out.s
      subst e9
      have m0 : wr.cell? ⟨g8, 0, none⟩ = some (.slice A9 (canN l ids).length c9) := (blk_cell HO.out.b8 0).trans rfl
      have m1 : wr.cell? ⟨g8, 1, none⟩ = some (.int .i64 (ids.length : Int)) := (blk_cell HO.out.b8 1).trans rfl
      have m2 : wr.cell? ⟨g8, 2, none⟩ = some (.int .i64 a2) := (blk_cell HO.out.b8 2).trans rfl
      have m3 : wr.cell? ⟨g8, 3, none⟩ = some (.int .i64 a3) := (blk_cell HO.out.b8 3).trans rfl
      have k0 : wr.cell? ⟨g2, 0, none⟩ = some (.slice none 0 0) := (blk_cell HO.out.c.b2 0).trans rfl
      have k1 : wr.cell? ⟨g2, 1, none⟩ = some (.int .i64 0) := (blk_cell HO.out.c.b2 1).trans rfl
      have k2 : wr.cell? ⟨g2, 2, none⟩ = some (.int .i64 0) := (blk_cell HO.out.c.b2 2).trans rfl
      have k3 : wr.cell? ⟨g2, 3, none⟩ = some (.int .i64 0) := (blk_cell HO.out.c.b2 3).trans rfl
      have f0 := blk_frozen HO.out.c.b2 0
      have f1 := blk_frozen HO.out.c.b2 1
      have f2 := blk_frozen HO.out.c.b2 2
      have f3 := blk_frozen HO.out.c.b2 3
      have HP := Lib.hid (put4 (w := wr) (g := g2) (t := 26) HO.out.c.b2 (.slice A9 (canN l ids).length c9) (.int .i64 (ids.length : Int)) (.int .i64 a2) (.int .i64 a3))
      have HS := Lib.hid (put4S HO.out.s HO.out.c.b2 (.slice A9 (canN l ids).length c9) (.int .i64 (ids.length : Int)) (.int .i64 a2) (.int .i64 a3))
      go_wp2
      refine bodyPost_ret (results_ct rfl _ _ g2 26 #[.slice A9 (canN l ids).length c9, .int .i64 (ids.length : Int), .int .i64 a2, .int .i64 a3] (0, 0) _ rfl HP.out Tryd.underlying26 rfl (by kernel_rfl)) rfl ?_
      exact ⟨_, rfl, HS.out, below_set (below_set (below_set (below_set HO.out.c.hb HO.out.c.e2) HO.out.c.e2) HO.out.c.e2) HO.out.c.e2⟩
end Go.Proofs.YtnpnablnnfekkaaDoor.PTr
set_option linter.unusedVariables false
namespace Go.Proofs.YtnpnablnnfekkaaDoor.PTr
open Go.RowKit Go.Proofs.YtnpnablnnfekkaaDoor Go.Proofs.YtnpnablnnfekkaaDoorW.PrintWords
def tree_Canon.f (l : List Nod) (a1 a2 a3 : Int) : Option (List Nod × Int × Int × Int × Int) := if eB l = true then some (canM l a1 a2 a3) else none
theorem tree_Canon.calls (A : Option Addr) (c : Nat) (l : List Nod) (a1 a2 a3 : Int) (r1 : List Nod) (r2 r3 r4 r5 : Int) (w : World) (hr0 : Kd.C k44 w A l.length l) (hc00 : l.length ≤ c) (h : tree_Canon.f l a1 a2 a3 = some (r1, r2, r3, r4, r5)) :
  Calls Tryd.prog 24 #[.agg #[.slice A l.length c, .int .i64 a1, .int .i64 a2, .int .i64 a3]] w fun e w' => ∃ v0_ : Value, e = .returned (.tuple #[.agg #[v0_, .int .i64 r2, .int .i64 r3, .int .i64 r4], .int .i64 r5]) ∧ Kd.S k44 44 w' w.heap.size (fun _ => True) v0_ r1 ∧ Below w.heap.size w w' := by
 unfold tree_Canon.f at h
 split at h
 ·
  rename_i hE
  have h := Option.some.inj h
  have hc := canon_any A c l a1 a2 a3 w hr0 hc00 (eB_ok hE)
  rw [h] at hc
  exact hc
 ·
  cases h
end Go.Proofs.YtnpnablnnfekkaaDoor.PTr
namespace Go.Proofs.YtnpnablnnfekkaaDoor.PTr
open Go.RowKit Go.Proofs.YtnpnablnnfekkaaDoorW.PrintWords Go.Proofs.YtnpnablnnfekkaaDoorW.PrintLast Go.Proofs.YtnpnablnnfekkaaDoorW.PrintMore
attribute [local go_sem] max2_int min2_int max_two min_two max_three min_three max_four min_four   -- for this text's walks alone
set_option linter.unusedVariables false
set_option linter.unusedSimpArgs false
theorem w64_PTr4 (x : Int) : wrap64 (x % 256) = x % 256 := by unfold wrap64; omega
def tree_New.f (a0_0 : Int) (a0_1 : Int) : Option ((List (S44)) × Int × Int × Int) := some ((([(⟨1, 1, 493, 0, 0, (⟨#[]⟩ : ByteArray), ([] : List (S61))⟩ : S44)] : List (S44))), 1, a0_0, a0_1)
set_option maxHeartbeats 8000000 in
set_option maxRecDepth 100000 in
theorem tree_New.calls (a0_0 : Int) (a0_1 : Int) (r1 : List (S44)) (r2 : Int) (r3 : Int) (r4 : Int) (w : World) (h : tree_New.f a0_0 a0_1 = some (r1, r2, r3, r4)) :
  Calls Tryd.prog 20 #[.agg #[.int .i64 a0_0, .int .i64 a0_1]] w fun e w' => ∃ v0_ : Value, e = .returned (.agg #[v0_, .int .i64 r2, .int .i64 r3, .int .i64 r4]) ∧ Kd.S k44 44 w' w.heap.size (fun _ => True) v0_ r1 ∧ Below w.heap.size w w' := by
 have hu24 := Tryd.underlying24
 have hu26 := Tryd.underlying26
 have hu44 := Tryd.underlying44
 have HB := Aside0.mk (Below.refl w.heap.size w)
 have H : (some ((([(⟨1, 1, 493, 0, 0, (⟨#[]⟩ : ByteArray), ([] : List (S61))⟩ : S44)] : List (S44))), 1, a0_0, a0_1)) = some (r1, r2, r3, r4) := h
 clear h
 obtain ⟨y107, hy107⟩ : ∃ y_ : List (S44), y_ = (([(⟨1, 1, 493, 0, 0, (⟨#[]⟩ : ByteArray), ([] : List (S61))⟩ : S44)] : List (S44))) := ⟨_, rfl⟩
 replace H : (some (y107, 1, a0_0, a0_1)) = some (r1, r2, r3, r4) := by first | (rw [hy107]; with_reducible exact H) | (have H2_ := (Option.bind_some _ _).symm.trans H; rw [hy107]; with_reducible exact H2_) | (have H2_ := (Option.bind_some _ _).symm.trans H; with_reducible exact H2_) | with_reducible exact H | (rw [hy107]; exact H) | exact H
 have Ny107 := Aside0.mk hy107
 clear hy107
 simp only [Option.some.injEq, Prod.mk.injEq] at H
 obtain ⟨rfl, rfl, rfl, rfl⟩ := H
 go_enter Tryd.func20, Tryd.ntmps20
 go_wp2_with (first | ((with_reducible refine gate_dst (N := 1) rfl ?_); refine box_event ?hg (N := 1) ?hd (cs := #[.int .i64 a0_0, .int .i64 a0_1]) (t := 24) ?hr ?_; (case hd => rfl); (case hg => rfl); (case hr => first | (go_simp; done) | (go_simp; rfl)); intro gb105 hg w2 hbox hb; have n0_ := Aside0.mk (below_step (by repeat (first | (with_reducible first | exact HB.out | apply below_alloc | apply pw_below_drewN | apply below_drew1) | exact HB.out)) hb); have n1_ := Aside0.mk (hbox); have n2_ := Aside0.mk ((by rw [hg]; exact (below_size (by repeat (first | (with_reducible first | exact HB.out | apply below_alloc | apply pw_below_drewN | apply below_drew1) | exact HB.out))) : w.heap.size ≤ gb105)); have n3_ := Aside0.mk ((by rw [hg]; exact (below_size (by repeat (first | (with_reducible first | exact HB.out | apply below_alloc | apply pw_below_drewN | apply below_drew1) | exact HB.out))) : w.heap.size ≤ gb105)); clear HB; have HB := n0_; have BK105 := n1_; have GW105 := n2_; have GE105 := n3_; clear n0_ n1_ n2_ n3_; clear hb hbox hg) | ((with_reducible refine gate_dst (N := 2) rfl ?_); refine box_event ?hg (N := 2) ?hd (cs := #[.slice none 0 0, .int .i64 0, .int .i64 0, .int .i64 0]) (t := 26) ?hr ?_; (case hd => rfl); (case hg => rfl); (case hr => first | (go_simp; done) | (go_simp; rfl)); intro gb106 hg w3 hbox hb; have n0_ := Aside0.mk (blk_below (g := gb105) (o := .cells #[.int .i64 a0_0, .int .i64 a0_1] 24 (0, 0)) (by (with_reducible repeat (first | refine blk_drewN ?_ _ | refine blk_drew ?_ | refine blk_alloc ?_ _)); exact BK105.out) hb); have n1_ := Aside0.mk (below_step (by repeat (first | (with_reducible first | exact HB.out | apply below_alloc | apply pw_below_drewN | apply below_drew1 | refine below_set ?_ GE105.out) | exact HB.out)) hb); have n2_ := Aside0.mk (hbox); have n3_ := Aside0.mk ((by rw [hg]; exact (below_size (by repeat (first | (with_reducible first | exact HB.out | apply below_alloc | apply pw_below_drewN | apply below_drew1 | refine below_set ?_ GE105.out) | exact HB.out))) : w.heap.size ≤ gb106)); have n4_ := Aside0.mk ((by rw [hg]; exact (below_size (by repeat (first | (with_reducible first | exact HB.out | apply below_alloc | apply pw_below_drewN | apply below_drew1 | refine below_set ?_ GE105.out) | exact HB.out))) : w.heap.size ≤ gb106)); have n5_ := Aside0.mk ((by rw [hg]; exact Nat.ne_of_lt (blk_lt (g := gb105) (o := .cells #[.int .i64 a0_0, .int .i64 a0_1] 24 (0, 0)) (by (with_reducible repeat (first | refine blk_drewN ?_ _ | refine blk_drew ?_ | refine blk_alloc ?_ _)); exact BK105.out)) : gb105 ≠ gb106)); have n6_ := Aside0.mk ((by rw [hg]; exact Nat.ne_of_gt (blk_lt (g := gb105) (o := .cells #[.int .i64 a0_0, .int .i64 a0_1] 24 (0, 0)) (by (with_reducible repeat (first | refine blk_drewN ?_ _ | refine blk_drew ?_ | refine blk_alloc ?_ _)); exact BK105.out)) : gb106 ≠ gb105)); clear BK105; clear HB; have BK105 := n0_; have HB := n1_; have BK106 := n2_; have GW106 := n3_; have GE106 := n4_; have NB105_106 := n5_; have NB106_105 := n6_; clear n0_ n1_ n2_ n3_ n4_ n5_ n6_; clear hb hbox hg) | ((with_reducible refine gate_dst (N := 4) rfl ?_); refine Kd.S_lit k44 _ 44 ?hg (N := 4) ?hd (xs := ([(⟨1, 1, 493, 0, 0, (⟨#[]⟩ : ByteArray), ([] : List (S61))⟩ : S44)] : List (S44))) (inner := [.int .i64 1, .int .i64 1, .int .i64 493, .int .i64 0, .int .i64 0, .string (⟨#[]⟩ : ByteArray), .slice none 0 0]) (ok := fun _ => True) (okp := fun _ => True) ?hr ?hp (fun _ hk => hk) trivial (Below.refl _ _) (Nat.le_refl _) (by simp) ?_; (case hd => rfl); (case hg => rfl); (case hr => first | (go_simp; done) | (go_simp; rfl)); (case hp => exact (Reps.c7 (show Kd.M k44 _ _ _ (⟨1, 1, 493, 0, 0, (⟨#[]⟩ : ByteArray), ([] : List (S61))⟩ : S44) [.int .i64 1, .int .i64 1, .int .i64 493, .int .i64 0, .int .i64 0, .string (⟨#[]⟩ : ByteArray), .slice none 0 0] from (k44_mkM _ _ _ (⟨1, 1, 493, 0, 0, (⟨#[]⟩ : ByteArray), ([] : List (S61))⟩ : S44) (Kd.R_nil _ _ _ _ _))) (Reps.none _ _))); intro v108 w4 ho5 hb hg_ hnew_; clear hg_ hnew_; (first | rw [← Ny107.out] at ho5 | (simp only [Int.reduceToNat] at ho5; rw [← Ny107.out] at ho5)); have n0_ := Aside0.mk (Kd.S_lower ho5 (below_size (by repeat (first | (with_reducible first | exact HB.out | apply below_alloc | apply pw_below_drewN | apply below_drew1 | refine below_set ?_ GE105.out | refine below_set ?_ GE106.out) | exact HB.out)))); have n1_ := Aside0.mk (blk_below (g := gb105) (o := .cells #[.int .i64 a0_0, .int .i64 a0_1] 24 (0, 0)) (by (with_reducible repeat (first | refine blk_drewN ?_ _ | refine blk_drew ?_ | refine blk_alloc ?_ _)); exact BK105.out) hb); have n2_ := Aside0.mk (blk_below (g := gb106) (o := .cells #[.slice none 0 0, .int .i64 0, .int .i64 0, .int .i64 0] 26 (0, 0)) (by (with_reducible repeat (first | refine blk_drewN ?_ _ | refine blk_drew ?_ | refine blk_alloc ?_ _)); exact BK106.out) hb); have n3_ := Aside0.mk (below_step (by repeat (first | (with_reducible first | exact HB.out | apply below_alloc | apply pw_below_drewN | apply below_drew1 | refine below_set ?_ GE105.out | refine below_set ?_ GE106.out) | exact HB.out)) hb); clear BK105; clear BK106; clear HB; have HO109 := n0_; have BK105 := n1_; have BK106 := n2_; have HB := n3_; clear n0_ n1_ n2_ n3_; clear hb ho5; have hnb6 := NB105_106.out; have hnc6 := NB106_105.out; have hcz7_0 : w4.cell? ⟨gb105, 0, none⟩ = some (.int .i64 a0_0) := (blk_cell BK105.out 0).trans rfl; have hcz7_1 : w4.cell? ⟨gb105, 1, none⟩ = some (.int .i64 a0_1) := (blk_cell BK105.out 1).trans rfl; have hfz7_0 := blk_frozen BK105.out 0; have hfz7_1 := blk_frozen BK105.out 1; obtain ⟨Ao8, co8, eo8⟩ := Kd.S_slice HO109.out; subst eo8; have hcz9_0 : w4.cell? ⟨gb106, 0, none⟩ = some (.slice none 0 0) := (blk_cell BK106.out 0).trans rfl; have hcz9_1 : w4.cell? ⟨gb106, 1, none⟩ = some (.int .i64 0) := (blk_cell BK106.out 1).trans rfl; have hcz9_2 : w4.cell? ⟨gb106, 2, none⟩ = some (.int .i64 0) := (blk_cell BK106.out 2).trans rfl; have hcz9_3 : w4.cell? ⟨gb106, 3, none⟩ = some (.int .i64 0) := (blk_cell BK106.out 3).trans rfl; have hfz9_0 := blk_frozen BK106.out 0; have hfz9_1 := blk_frozen BK106.out 1; have hfz9_2 := blk_frozen BK106.out 2; have hfz9_3 := blk_frozen BK106.out 3))
 refine bodyPost_ret (results_cell_row rfl _ _ gb106 26 #[.slice Ao8 y107.length co8, .int .i64 1, .int .i64 a0_0, .int .i64 a0_1] (0, 0) _ rfl (by (with_reducible repeat (first | refine blk_drewN ?_ _ | refine blk_drew ?_ | refine blk_alloc ?_ _)); refine blk_put (cs := #[.slice Ao8 y107.length co8, .int .i64 1, .int .i64 a0_0, .int .i64 0]) ?_ 3 _ (by first | rfl | (simp only [w64_PTr4]; rfl) | (simp [w64_PTr4]; done)); (with_reducible repeat (first | refine blk_drewN ?_ _ | refine blk_drew ?_ | refine blk_alloc ?_ _)); refine blk_put (cs := #[.slice Ao8 y107.length co8, .int .i64 1, .int .i64 0, .int .i64 0]) ?_ 2 _ (by first | rfl | (simp only [w64_PTr4]; rfl) | (simp [w64_PTr4]; done)); (with_reducible repeat (first | refine blk_drewN ?_ _ | refine blk_drew ?_ | refine blk_alloc ?_ _)); refine blk_put (cs := #[.slice Ao8 y107.length co8, .int .i64 0, .int .i64 0, .int .i64 0]) ?_ 1 _ (by first | rfl | (simp only [w64_PTr4]; rfl) | (simp [w64_PTr4]; done)); (with_reducible repeat (first | refine blk_drewN ?_ _ | refine blk_drew ?_ | refine blk_alloc ?_ _)); refine blk_put (cs := #[.slice none 0 0, .int .i64 0, .int .i64 0, .int .i64 0]) ?_ 0 _ (by first | rfl | (simp only [w64_PTr4]; rfl) | (simp [w64_PTr4]; done)); (with_reducible repeat (first | refine blk_drewN ?_ _ | refine blk_drew ?_ | refine blk_alloc ?_ _)); exact BK106.out) Tryd.underlying26 rfl (by kernel_rfl)) rfl ?_
 exact ⟨_, by first | rfl | (simp [errW_none, errW_some] <;> rfl) | (simp [*, errW_none, errW_some] <;> rfl), by (with_reducible repeat (first | apply Kd.S_alloc | apply Kd.S_drewN | apply Kd.S_drew)); exact Kd.S_mono (Kd.S_far (p := ⟨gb106, 3, none⟩) (Kd.S_far (p := ⟨gb106, 2, none⟩) (Kd.S_far (p := ⟨gb106, 1, none⟩) (Kd.S_far (p := ⟨gb106, 0, none⟩) (Kd.S_types HO109.out BK106.out (by decide)) (fun _ hk => hk.2) (.slice Ao8 y107.length co8)) (fun _ hk => hk.2) (.int .i64 1)) (fun _ hk => hk.2) (.int .i64 a0_0)) (fun _ hk => hk.2) (.int .i64 a0_1)) (fun _ hk => trivial), by repeat (first | (with_reducible first | exact HB.out | apply below_alloc | apply pw_below_drewN | apply below_drew1 | refine below_set ?_ GE105.out | refine below_set ?_ GE106.out) | exact HB.out)⟩
end Go.Proofs.YtnpnablnnfekkaaDoor.PTr
namespace Go.Proofs.YtnpnablnnfekkaaDoor.PTr
open Go.RowKit Go.Proofs.YtnpnablnnfekkaaDoorW.PrintWords Go.Proofs.YtnpnablnnfekkaaDoorW.PrintLast Go.Proofs.YtnpnablnnfekkaaDoorW.PrintMore
attribute [local go_sem] max2_int min2_int max_two min_two max_three min_three max_four min_four   -- for this text's walks alone
set_option linter.unusedVariables false
set_option linter.unusedSimpArgs false
def tree_Usage.l0 : Nat → Int → List (S44) → Int → Int → List (S44) → Int → Int → Int → Option (Int × Int)
 | 0, _, _, _, _, _, _, _, _ => none
 | k + 1, x4, x8, x9, x10, x111000, x111001, x111002, x111003 => if x10 < x9 then (if 0 ≤ x10 then (if x10 < (x8.length : Int) then (tree_Usage.l0 k (wrap64 (x4 + (((rd_T44 x8 x10).f5).size : Int))) x8 x9 (wrap64 (x10 + 1)) x111000 x111001 x111002 x111003) else (none)) else (none)) else (some ((x111000.length : Int), x4))
def tree_Usage.f (k : Nat) (l0_0 : List (S44)) (a0_1 : Int) (a0_2 : Int) (a0_3 : Int) : Option (Int × Int) := tree_Usage.l0 k 0 l0_0 (l0_0.length : Int) 0 l0_0 a0_1 a0_2 a0_3
set_option maxHeartbeats 8000000 in
set_option maxRecDepth 100000 in
theorem tree_Usage.calls (k : Nat) (A0_0 : Option Addr) (c0_0 : Nat) (l0_0 : List (S44)) (a0_1 : Int) (a0_2 : Int) (a0_3 : Int) (r1 : Int) (r2 : Int) (w : World) (hr0_0 : Kd.C k44 w A0_0 l0_0.length l0_0) (hc0_0 : l0_0.length ≤ c0_0) (h : tree_Usage.f k l0_0 a0_1 a0_2 a0_3 = some (r1, r2)) :
  Calls Tryd.prog 30 #[.agg #[.slice A0_0 l0_0.length c0_0, .int .i64 a0_1, .int .i64 a0_2, .int .i64 a0_3]] w fun e w' => e = .returned (.tuple #[.int .i64 r1, .int .i64 r2]) ∧ Below w.heap.size w w' := by
 have hu26 := Tryd.underlying26
 have hu44 := Tryd.underlying44
 have HR0_0 := Aside0.mk hr0_0
 have HC0_0 := Aside0.mk hc0_0
 clear hr0_0 hc0_0
 have HB := Aside0.mk (Below.refl w.heap.size w)
 have H : (tree_Usage.l0 k 0 l0_0 (l0_0.length : Int) 0 l0_0 a0_1 a0_2 a0_3) = some (r1, r2) := h
 clear h
 have H' := Aside0.mk H
 clear H
 go_enter Tryd.func30, Tryd.ntmps30
 go_wp2_with (first | ((with_reducible refine gate_dst (N := 1) rfl ?_); refine box_event ?hg (N := 1) ?hd (cs := #[.slice A0_0 l0_0.length c0_0, .int .i64 a0_1, .int .i64 a0_2, .int .i64 a0_3]) (t := 26) ?hr ?_; (case hd => rfl); (case hg => rfl); (case hr => first | (go_simp; done) | (go_simp; rfl)); intro gb110 hg w2 hbox hb; have n0_ := Aside0.mk (below_step (by repeat (first | (with_reducible first | exact HB.out | apply below_alloc | apply pw_below_drewN | apply below_drew1) | exact HB.out)) hb); have n1_ := Aside0.mk (hbox); have n2_ := Aside0.mk ((by rw [hg]; exact (below_size (by repeat (first | (with_reducible first | exact HB.out | apply below_alloc | apply pw_below_drewN | apply below_drew1) | exact HB.out))) : w.heap.size ≤ gb110)); have n3_ := Aside0.mk ((by rw [hg]; exact (below_size (by repeat (first | (with_reducible first | exact HB.out | apply below_alloc | apply pw_below_drewN | apply below_drew1) | exact HB.out))) : w.heap.size ≤ gb110)); clear HB; have HB := n0_; have BK110 := n1_; have GW110 := n2_; have GE110 := n3_; clear n0_ n1_ n2_ n3_; clear hb hbox hg; have hcz3_0 : w2.cell? ⟨gb110, 0, none⟩ = some (.slice A0_0 l0_0.length c0_0) := (blk_cell BK110.out 0).trans rfl; have hcz3_1 : w2.cell? ⟨gb110, 1, none⟩ = some (.int .i64 a0_1) := (blk_cell BK110.out 1).trans rfl; have hcz3_2 : w2.cell? ⟨gb110, 2, none⟩ = some (.int .i64 a0_2) := (blk_cell BK110.out 2).trans rfl; have hcz3_3 : w2.cell? ⟨gb110, 3, none⟩ = some (.int .i64 a0_3) := (blk_cell BK110.out 3).trans rfl; have hfz3_0 := blk_frozen BK110.out 0; have hfz3_1 := blk_frozen BK110.out 1; have hfz3_2 := blk_frozen BK110.out 2; have hfz3_3 := blk_frozen BK110.out 3))
 go_loopg [4, 10] k (fun kq v4 v10 w' => ∃ (x4_1 : Int) (x10_1 : Int), v4 = .int .i64 x4_1 ∧ v10 = .int .i64 x10_1 ∧ Aside0 (tree_Usage.l0 kq x4_1 l0_0 (l0_0.length : Int) x10_1 l0_0 a0_1 a0_2 a0_3 = some (r1, r2)) ∧ Aside0 (kq ≤ k) ∧ Aside0 (w'.heap[gb110]? = some (.cells #[(.slice A0_0 l0_0.length c0_0), .int .i64 a0_1, .int .i64 a0_2, .int .i64 a0_3] 26 (0, 0))) ∧ Aside0 (Below w.heap.size w w'))
 case atStart => exact ⟨(0), (0), (by first | rfl | (simp; done) | (simp [*]; done)), (by first | rfl | (simp; done) | (simp [*]; done)), H', ⟨Nat.le_refl _⟩, ⟨by (with_reducible repeat (first | refine blk_drewN ?_ _ | refine blk_drew ?_ | refine blk_alloc ?_ _)); exact BK110.out⟩, ⟨by repeat (first | (with_reducible first | exact HB.out | apply below_alloc | apply pw_below_drewN | apply below_drew1 | refine below_set ?_ GE110.out) | exact HB.out)⟩⟩
 case round =>
  clear H'
  try clear p2
  try clear c3
  try clear hcz3_0
  try clear hcz3_1
  try clear hcz3_2
  try clear hcz3_3
  try clear hfz3_0
  try clear hfz3_1
  try clear hfz3_2
  try clear hfz3_3
  obtain ⟨x4_1, x10_1, rfl, rfl, HA, HK1, BK110, HB⟩ := hrel
  cases gk with
  | zero => exact absurd HA.out (by simp [tree_Usage.l0])
  | succ k1 =>
   have H := HA.out
   clear HA
   simp only [tree_Usage.l0] at H
   by_cases c4 : x10_1 < (l0_0.length : Int)
   ·
    rw [if_pos c4] at H
    have c4b0 : decide (x10_1 < (l0_0.length : Int)) = true := decide_eq_true c4
    clear c4
    by_cases c5 : 0 ≤ x10_1
    ·
     rw [if_pos c5] at H
     have c5b0 : decide (0 ≤ x10_1) = true := decide_eq_true c5
     clear c5
     by_cases c6 : x10_1 < (l0_0.length : Int)
     ·
      rw [if_pos c6] at H
      have c6b0 : decide (x10_1 < (l0_0.length : Int)) = true := decide_eq_true c6
      clear c6
      have H' := Aside0.mk H
      clear H
      have p111 : 0 ≤ (x10_1 : Int) := of_decide_eq_true (by first | (with_reducible assumption) | assumption)
      have q111 : x10_1 < (l0_0.length : Int) := of_decide_eq_true (by first | (with_reducible assumption) | assumption)
      obtain ⟨ad111, A111_6, c111_6, e111, hx111_0, hx111_1, hx111_2, hx111_3, hx111_4, hx111_5, hx111_6, hl111_6, hi111_6⟩ := at_T44 HR0_0.out x10_1 p111 q111
      cases e111
      replace hx111_0 := (HB.out.cell (World.block_lt_of_cell? w _ hx111_0)).trans hx111_0
      replace hx111_1 := (HB.out.cell (World.block_lt_of_cell? w _ hx111_1)).trans hx111_1
      replace hx111_2 := (HB.out.cell (World.block_lt_of_cell? w _ hx111_2)).trans hx111_2
      replace hx111_3 := (HB.out.cell (World.block_lt_of_cell? w _ hx111_3)).trans hx111_3
      replace hx111_4 := (HB.out.cell (World.block_lt_of_cell? w _ hx111_4)).trans hx111_4
      replace hx111_5 := (HB.out.cell (World.block_lt_of_cell? w _ hx111_5)).trans hx111_5
      replace hx111_6 := (HB.out.cell (World.block_lt_of_cell? w _ hx111_6)).trans hx111_6
      have HR111_6 := Aside0.mk hi111_6
      have HC111_6 := Aside0.mk hl111_6
      clear hi111_6 hl111_6
      replace p111 := eq_true p111
      replace q111 := eq_true q111
      go_wp2_with (first | ((with_reducible refine gate_dst (N := 6) rfl ?_); refine box_event ?hg (N := 6) ?hd (cs := #[.int .i64 0, .int .i64 0, .int .i64 0, .int .i64 0, .int .i64 0, .string (⟨#[]⟩ : ByteArray), .slice none 0 0]) (t := 44) ?hr ?_; (case hd => rfl); (case hg => rfl); (case hr => first | (go_simp; done) | (go_simp; rfl)); intro gb112 hg w7 hbox hb; have n0_ := Aside0.mk (blk_below (g := gb110) (o := .cells #[.slice (some ad111) l0_0.length c0_0, .int .i64 a0_1, .int .i64 a0_2, .int .i64 a0_3] 26 (0, 0)) (by (with_reducible repeat (first | refine blk_drewN ?_ _ | refine blk_drew ?_ | refine blk_alloc ?_ _)); exact BK110.out) hb); have n1_ := Aside0.mk (below_step (by repeat (first | (with_reducible first | exact HB.out | apply below_alloc | apply pw_below_drewN | apply below_drew1 | refine below_set ?_ GE110.out) | exact HB.out)) hb); have n2_ := Aside0.mk (hbox); have n3_ := Aside0.mk ((by rw [hg]; exact (below_size (by repeat (first | (with_reducible first | exact HB.out | apply below_alloc | apply pw_below_drewN | apply below_drew1 | refine below_set ?_ GE110.out) | exact HB.out))) : w.heap.size ≤ gb112)); have n4_ := Aside0.mk ((by rw [hg]; exact (below_size (by repeat (first | (with_reducible first | exact HB.out | apply below_alloc | apply pw_below_drewN | apply below_drew1 | refine below_set ?_ GE110.out) | exact HB.out))) : w.heap.size ≤ gb112)); have n5_ := Aside0.mk ((by rw [hg]; exact Nat.ne_of_lt (blk_lt (g := gb110) (o := .cells #[.slice (some ad111) l0_0.length c0_0, .int .i64 a0_1, .int .i64 a0_2, .int .i64 a0_3] 26 (0, 0)) (by (with_reducible repeat (first | refine blk_drewN ?_ _ | refine blk_drew ?_ | refine blk_alloc ?_ _)); exact BK110.out)) : gb110 ≠ gb112)); have n6_ := Aside0.mk ((by rw [hg]; exact Nat.ne_of_gt (blk_lt (g := gb110) (o := .cells #[.slice (some ad111) l0_0.length c0_0, .int .i64 a0_1, .int .i64 a0_2, .int .i64 a0_3] 26 (0, 0)) (by (with_reducible repeat (first | refine blk_drewN ?_ _ | refine blk_drew ?_ | refine blk_alloc ?_ _)); exact BK110.out)) : gb112 ≠ gb110)); clear BK110; clear HB; have BK110 := n0_; have HB := n1_; have BK112 := n2_; have GW112 := n3_; have GE112 := n4_; have NB110_112 := n5_; have NB112_110 := n6_; clear n0_ n1_ n2_ n3_ n4_ n5_ n6_; clear hb hbox hg; have hnb8 := NB112_110.out; have hnc8 := NB110_112.out; have hcz9_0 : w7.cell? ⟨gb112, 0, none⟩ = some (.int .i64 0) := (blk_cell BK112.out 0).trans rfl; have hcz9_1 : w7.cell? ⟨gb112, 1, none⟩ = some (.int .i64 0) := (blk_cell BK112.out 1).trans rfl; have hcz9_2 : w7.cell? ⟨gb112, 2, none⟩ = some (.int .i64 0) := (blk_cell BK112.out 2).trans rfl; have hcz9_3 : w7.cell? ⟨gb112, 3, none⟩ = some (.int .i64 0) := (blk_cell BK112.out 3).trans rfl; have hcz9_4 : w7.cell? ⟨gb112, 4, none⟩ = some (.int .i64 0) := (blk_cell BK112.out 4).trans rfl; have hcz9_5 : w7.cell? ⟨gb112, 5, none⟩ = some (.string (⟨#[]⟩ : ByteArray)) := (blk_cell BK112.out 5).trans rfl; have hcz9_6 : w7.cell? ⟨gb112, 6, none⟩ = some (.slice none 0 0) := (blk_cell BK112.out 6).trans rfl; have hfz9_0 := blk_frozen BK112.out 0; have hfz9_1 := blk_frozen BK112.out 1; have hfz9_2 := blk_frozen BK112.out 2; have hfz9_3 := blk_frozen BK112.out 3; have hfz9_4 := blk_frozen BK112.out 4; have hfz9_5 := blk_frozen BK112.out 5; have hfz9_6 := blk_frozen BK112.out 6))
      go_roundg k1
      case measure => have := HK1.out; omega
      case rel => exact ⟨(wrap64 (x4_1 + (((rd_T44 l0_0 x10_1).f5).size : Int))), (wrap64 (x10_1 + 1)), (by first | rfl | (simp; done) | (simp [*]; done)), (by first | rfl | (simp; done) | (simp [*]; done)), H', ⟨by have := HK1.out; omega⟩, ⟨by (with_reducible repeat (first | refine blk_drewN ?_ _ | refine blk_drew ?_ | refine blk_alloc ?_ _)); refine blk_far ?_ NB110_112.out _; (with_reducible repeat (first | refine blk_drewN ?_ _ | refine blk_drew ?_ | refine blk_alloc ?_ _)); refine blk_far ?_ NB110_112.out _; (with_reducible repeat (first | refine blk_drewN ?_ _ | refine blk_drew ?_ | refine blk_alloc ?_ _)); refine blk_far ?_ NB110_112.out _; (with_reducible repeat (first | refine blk_drewN ?_ _ | refine blk_drew ?_ | refine blk_alloc ?_ _)); refine blk_far ?_ NB110_112.out _; (with_reducible repeat (first | refine blk_drewN ?_ _ | refine blk_drew ?_ | refine blk_alloc ?_ _)); refine blk_far ?_ NB110_112.out _; (with_reducible repeat (first | refine blk_drewN ?_ _ | refine blk_drew ?_ | refine blk_alloc ?_ _)); refine blk_far ?_ NB110_112.out _; (with_reducible repeat (first | refine blk_drewN ?_ _ | refine blk_drew ?_ | refine blk_alloc ?_ _)); refine blk_far ?_ NB110_112.out _; (with_reducible repeat (first | refine blk_drewN ?_ _ | refine blk_drew ?_ | refine blk_alloc ?_ _)); exact BK110.out⟩, ⟨by repeat (first | (with_reducible first | exact HB.out | apply below_alloc | apply pw_below_drewN | apply below_drew1 | refine below_set ?_ GE110.out | refine below_set ?_ GE112.out) | exact HB.out)⟩⟩
     ·
      rw [if_neg c6] at H
      exact absurd H (by simp)
    ·
     rw [if_neg c5] at H
     exact absurd H (by simp)
   ·
    rw [if_neg c4] at H
    have c4b0 : decide (x10_1 < (l0_0.length : Int)) = false := decide_eq_false c4
    clear c4
    simp only [Option.some.injEq, Prod.mk.injEq] at H
    obtain ⟨rfl, rfl⟩ := H
    have hcz10_0 : wr.cell? ⟨gb110, 0, none⟩ = some (.slice A0_0 l0_0.length c0_0) := (blk_cell BK110.out 0).trans rfl
    have hcz10_1 : wr.cell? ⟨gb110, 1, none⟩ = some (.int .i64 a0_1) := (blk_cell BK110.out 1).trans rfl
    have hcz10_2 : wr.cell? ⟨gb110, 2, none⟩ = some (.int .i64 a0_2) := (blk_cell BK110.out 2).trans rfl
    have hcz10_3 : wr.cell? ⟨gb110, 3, none⟩ = some (.int .i64 a0_3) := (blk_cell BK110.out 3).trans rfl
    have hfz10_0 := blk_frozen BK110.out 0
    have hfz10_1 := blk_frozen BK110.out 1
    have hfz10_2 := blk_frozen BK110.out 2
    have hfz10_3 := blk_frozen BK110.out 3
    go_wp2
    go_ret2
    exact ⟨by first | rfl | (simp [errW_none, errW_some] <;> rfl) | (simp [*, errW_none, errW_some] <;> rfl), by repeat (first | (with_reducible first | exact HB.out | apply below_alloc | apply pw_below_drewN | apply below_drew1 | refine below_set ?_ GE110.out) | exact HB.out)⟩
end Go.Proofs.YtnpnablnnfekkaaDoor.PTr
namespace Go.Proofs.YtnpnablnnfekkaaDoor.PTr
open Go.RowKit Go.Proofs.YtnpnablnnfekkaaDoorW.PrintWords Go.Proofs.YtnpnablnnfekkaaDoorW.PrintLast Go.Proofs.YtnpnablnnfekkaaDoorW.PrintMore
attribute [local go_sem] max2_int min2_int max_two min_two max_three min_three max_four min_four   -- for this text's walks alone
set_option linter.unusedVariables false
set_option linter.unusedSimpArgs false
theorem w64_PTr6 (x : Int) : wrap64 (x % 256) = x % 256 := by unfold wrap64; omega
mutual
def tree_Links.l0 : Nat → Int → Int → List (S44) → Int → Int → Option (Int)
 | 0, _, _, _, _, _ => none
 | k + 1, x1, x5, x11, x12, x13 => if x13 < x12 then (if 0 ≤ x13 then (if x13 < (x11.length : Int) then (tree_Links.l1 k x1 x5 x11 x12 x13 ((rd_T44 x11 x13).f6) (((rd_T44 x11 x13).f6).length : Int) 0) else (none)) else (none)) else (some x5)
def tree_Links.l1 : Nat → Int → Int → List (S44) → Int → Int → List (S61) → Int → Int → Option (Int)
 | 0, _, _, _, _, _, _, _, _ => none
 | k + 1, x1, x5, x11, x12, x13, x18, x19, x20 => if x20 < x19 then (if 0 ≤ x20 then (if x20 < (x18.length : Int) then (if ((rd_T61 x18 x20).f1) = x1 then (tree_Links.l1 k x1 (wrap64 (x5 + 1)) x11 x12 x13 x18 x19 (wrap64 (x20 + 1))) else (tree_Links.l1 k x1 x5 x11 x12 x13 x18 x19 (wrap64 (x20 + 1)))) else (none)) else (none)) else (tree_Links.l0 k x1 x5 x11 x12 (wrap64 (x13 + 1)))
end
def tree_Links.f (k : Nat) (l0_0 : List (S44)) (a0_1 : Int) (a0_2 : Int) (a0_3 : Int) (a1 : Int) : Option (Int) := tree_Links.l0 k a1 0 l0_0 (l0_0.length : Int) 0
set_option maxHeartbeats 8000000 in
set_option maxRecDepth 100000 in
theorem tree_Links.calls (k : Nat) (A0_0 : Option Addr) (c0_0 : Nat) (l0_0 : List (S44)) (a0_1 : Int) (a0_2 : Int) (a0_3 : Int) (a1 : Int) (r : Int) (w : World) (hr0_0 : Kd.C k44 w A0_0 l0_0.length l0_0) (hc0_0 : l0_0.length ≤ c0_0) (h : tree_Links.f k l0_0 a0_1 a0_2 a0_3 a1 = some r) :
  Calls Tryd.prog 33 #[.agg #[.slice A0_0 l0_0.length c0_0, .int .i64 a0_1, .int .i64 a0_2, .int .i64 a0_3], .int .i64 a1] w fun e w' => e = .returned (.int .i64 r) ∧ Below w.heap.size w w' := by
 have hu26 := Tryd.underlying26
 have hu44 := Tryd.underlying44
 have hu61 := Tryd.underlying61
 have HR0_0 := Aside0.mk hr0_0
 have HC0_0 := Aside0.mk hc0_0
 clear hr0_0 hc0_0
 have HB := Aside0.mk (Below.refl w.heap.size w)
 have H : (tree_Links.l0 k a1 0 l0_0 (l0_0.length : Int) 0) = some r := h
 clear h
 have H' := Aside0.mk H
 clear H
 go_enter Tryd.func33, Tryd.ntmps33
 go_wp2_with (first | ((with_reducible refine gate_dst (N := 2) rfl ?_); refine box_event ?hg (N := 2) ?hd (cs := #[.slice A0_0 l0_0.length c0_0, .int .i64 a0_1, .int .i64 a0_2, .int .i64 a0_3]) (t := 26) ?hr ?_; (case hd => rfl); (case hg => rfl); (case hr => first | (go_simp; done) | (go_simp; rfl)); intro gb113 hg w3 hbox hb; have n0_ := Aside0.mk (below_step (by repeat (first | (with_reducible first | exact HB.out | apply below_alloc | apply pw_below_drewN | apply below_drew1) | exact HB.out)) hb); have n1_ := Aside0.mk (hbox); have n2_ := Aside0.mk ((by rw [hg]; exact (below_size (by repeat (first | (with_reducible first | exact HB.out | apply below_alloc | apply pw_below_drewN | apply below_drew1) | exact HB.out))) : w.heap.size ≤ gb113)); have n3_ := Aside0.mk ((by rw [hg]; exact (below_size (by repeat (first | (with_reducible first | exact HB.out | apply below_alloc | apply pw_below_drewN | apply below_drew1) | exact HB.out))) : w.heap.size ≤ gb113)); clear HB; have HB := n0_; have BK113 := n1_; have GW113 := n2_; have GE113 := n3_; clear n0_ n1_ n2_ n3_; clear hb hbox hg; have hcz4_0 : w3.cell? ⟨gb113, 0, none⟩ = some (.slice A0_0 l0_0.length c0_0) := (blk_cell BK113.out 0).trans rfl; have hcz4_1 : w3.cell? ⟨gb113, 1, none⟩ = some (.int .i64 a0_1) := (blk_cell BK113.out 1).trans rfl; have hcz4_2 : w3.cell? ⟨gb113, 2, none⟩ = some (.int .i64 a0_2) := (blk_cell BK113.out 2).trans rfl; have hcz4_3 : w3.cell? ⟨gb113, 3, none⟩ = some (.int .i64 a0_3) := (blk_cell BK113.out 3).trans rfl; have hfz4_0 := blk_frozen BK113.out 0; have hfz4_1 := blk_frozen BK113.out 1; have hfz4_2 := blk_frozen BK113.out 2; have hfz4_3 := blk_frozen BK113.out 3))
 go_loopg [5, 13] k (fun kq v5 v13 w' => ∃ (x5_1 : Int) (x13_1 : Int), v5 = .int .i64 x5_1 ∧ v13 = .int .i64 x13_1 ∧ Aside0 (tree_Links.l0 kq a1 x5_1 l0_0 (l0_0.length : Int) x13_1 = some r) ∧ Aside0 (kq ≤ k) ∧ Aside0 (w'.heap[gb113]? = some (.cells #[(.slice A0_0 l0_0.length c0_0), .int .i64 a0_1, .int .i64 a0_2, .int .i64 a0_3] 26 (0, 0))) ∧ Aside0 (Below w.heap.size w w'))
 case atStart => exact ⟨(0), (0), (by first | rfl | (simp; done) | (simp [*]; done)), (by first | rfl | (simp; done) | (simp [*]; done)), H', ⟨Nat.le_refl _⟩, ⟨by (with_reducible repeat (first | refine blk_drewN ?_ _ | refine blk_drew ?_ | refine blk_alloc ?_ _)); exact BK113.out⟩, ⟨by repeat (first | (with_reducible first | exact HB.out | apply below_alloc | apply pw_below_drewN | apply below_drew1 | refine below_set ?_ GE113.out) | exact HB.out)⟩⟩
 case round =>
  clear H'
  try clear p2
  try clear c3
  try clear hcz4_0
  try clear hcz4_1
  try clear hcz4_2
  try clear hcz4_3
  try clear hfz4_0
  try clear hfz4_1
  try clear hfz4_2
  try clear hfz4_3
  obtain ⟨x5_1, x13_1, rfl, rfl, HA, HK1, BK113, HB⟩ := hrel
  cases gk with
  | zero => exact absurd HA.out (by simp [tree_Links.l0])
  | succ k1 =>
   have H := HA.out
   clear HA
   simp only [tree_Links.l0] at H
   by_cases c5 : x13_1 < (l0_0.length : Int)
   ·
    rw [if_pos c5] at H
    have c5b0 : decide (x13_1 < (l0_0.length : Int)) = true := decide_eq_true c5
    clear c5
    by_cases c6 : 0 ≤ x13_1
    ·
     rw [if_pos c6] at H
     have c6b0 : decide (0 ≤ x13_1) = true := decide_eq_true c6
     clear c6
     by_cases c7 : x13_1 < (l0_0.length : Int)
     ·
      rw [if_pos c7] at H
      have c7b0 : decide (x13_1 < (l0_0.length : Int)) = true := decide_eq_true c7
      clear c7
      have H' := Aside0.mk H
      clear H
      have p114 : 0 ≤ (x13_1 : Int) := of_decide_eq_true (by first | (with_reducible assumption) | assumption)
      have q114 : x13_1 < (l0_0.length : Int) := of_decide_eq_true (by first | (with_reducible assumption) | assumption)
      obtain ⟨ad114, A114_6, c114_6, e114, hx114_0, hx114_1, hx114_2, hx114_3, hx114_4, hx114_5, hx114_6, hl114_6, hi114_6⟩ := at_T44 HR0_0.out x13_1 p114 q114
      cases e114
      replace hx114_0 := (HB.out.cell (World.block_lt_of_cell? w _ hx114_0)).trans hx114_0
      replace hx114_1 := (HB.out.cell (World.block_lt_of_cell? w _ hx114_1)).trans hx114_1
      replace hx114_2 := (HB.out.cell (World.block_lt_of_cell? w _ hx114_2)).trans hx114_2
      replace hx114_3 := (HB.out.cell (World.block_lt_of_cell? w _ hx114_3)).trans hx114_3
      replace hx114_4 := (HB.out.cell (World.block_lt_of_cell? w _ hx114_4)).trans hx114_4
      replace hx114_5 := (HB.out.cell (World.block_lt_of_cell? w _ hx114_5)).trans hx114_5
      replace hx114_6 := (HB.out.cell (World.block_lt_of_cell? w _ hx114_6)).trans hx114_6
      have HR114_6 := Aside0.mk hi114_6
      have HC114_6 := Aside0.mk hl114_6
      clear hi114_6 hl114_6
      replace p114 := eq_true p114
      replace q114 := eq_true q114
      go_wp2_with (first | ((with_reducible refine gate_dst (N := 7) rfl ?_); refine box_event ?hg (N := 7) ?hd (cs := #[.int .i64 0, .int .i64 0, .int .i64 0, .int .i64 0, .int .i64 0, .string (⟨#[]⟩ : ByteArray), .slice none 0 0]) (t := 44) ?hr ?_; (case hd => rfl); (case hg => rfl); (case hr => first | (go_simp; done) | (go_simp; rfl)); intro gb115 hg w8 hbox hb; have n0_ := Aside0.mk (blk_below (g := gb113) (o := .cells #[.slice (some ad114) l0_0.length c0_0, .int .i64 a0_1, .int .i64 a0_2, .int .i64 a0_3] 26 (0, 0)) (by (with_reducible repeat (first | refine blk_drewN ?_ _ | refine blk_drew ?_ | refine blk_alloc ?_ _)); exact BK113.out) hb); have n1_ := Aside0.mk (below_step (by repeat (first | (with_reducible first | exact HB.out | apply below_alloc | apply pw_below_drewN | apply below_drew1 | refine below_set ?_ GE113.out) | exact HB.out)) hb); have n2_ := Aside0.mk (hbox); have n3_ := Aside0.mk ((by rw [hg]; exact (below_size (by repeat (first | (with_reducible first | exact HB.out | apply below_alloc | apply pw_below_drewN | apply below_drew1 | refine below_set ?_ GE113.out) | exact HB.out))) : w.heap.size ≤ gb115)); have n4_ := Aside0.mk ((by rw [hg]; exact (below_size (by repeat (first | (with_reducible first | exact HB.out | apply below_alloc | apply pw_below_drewN | apply below_drew1 | refine below_set ?_ GE113.out) | exact HB.out))) : w.heap.size ≤ gb115)); have n5_ := Aside0.mk ((by rw [hg]; exact Nat.ne_of_lt (blk_lt (g := gb113) (o := .cells #[.slice (some ad114) l0_0.length c0_0, .int .i64 a0_1, .int .i64 a0_2, .int .i64 a0_3] 26 (0, 0)) (by (with_reducible repeat (first | refine blk_drewN ?_ _ | refine blk_drew ?_ | refine blk_alloc ?_ _)); exact BK113.out)) : gb113 ≠ gb115)); have n6_ := Aside0.mk ((by rw [hg]; exact Nat.ne_of_gt (blk_lt (g := gb113) (o := .cells #[.slice (some ad114) l0_0.length c0_0, .int .i64 a0_1, .int .i64 a0_2, .int .i64 a0_3] 26 (0, 0)) (by (with_reducible repeat (first | refine blk_drewN ?_ _ | refine blk_drew ?_ | refine blk_alloc ?_ _)); exact BK113.out)) : gb115 ≠ gb113)); clear BK113; clear HB; have BK113 := n0_; have HB := n1_; have BK115 := n2_; have GW115 := n3_; have GE115 := n4_; have NB113_115 := n5_; have NB115_113 := n6_; clear n0_ n1_ n2_ n3_ n4_ n5_ n6_; clear hb hbox hg; have hnb9 := NB115_113.out; have hnc9 := NB113_115.out; have hcz10_0 : w8.cell? ⟨gb115, 0, none⟩ = some (.int .i64 0) := (blk_cell BK115.out 0).trans rfl; have hcz10_1 : w8.cell? ⟨gb115, 1, none⟩ = some (.int .i64 0) := (blk_cell BK115.out 1).trans rfl; have hcz10_2 : w8.cell? ⟨gb115, 2, none⟩ = some (.int .i64 0) := (blk_cell BK115.out 2).trans rfl; have hcz10_3 : w8.cell? ⟨gb115, 3, none⟩ = some (.int .i64 0) := (blk_cell BK115.out 3).trans rfl; have hcz10_4 : w8.cell? ⟨gb115, 4, none⟩ = some (.int .i64 0) := (blk_cell BK115.out 4).trans rfl; have hcz10_5 : w8.cell? ⟨gb115, 5, none⟩ = some (.string (⟨#[]⟩ : ByteArray)) := (blk_cell BK115.out 5).trans rfl; have hcz10_6 : w8.cell? ⟨gb115, 6, none⟩ = some (.slice none 0 0) := (blk_cell BK115.out 6).trans rfl; have hfz10_0 := blk_frozen BK115.out 0; have hfz10_1 := blk_frozen BK115.out 1; have hfz10_2 := blk_frozen BK115.out 2; have hfz10_3 := blk_frozen BK115.out 3; have hfz10_4 := blk_frozen BK115.out 4; have hfz10_5 := blk_frozen BK115.out 5; have hfz10_6 := blk_frozen BK115.out 6))
      go_loopg [5, 20] k1 (fun kq v5 v20 w' => ∃ (x5_2 : Int) (x20_2 : Int), v5 = .int .i64 x5_2 ∧ v20 = .int .i64 x20_2 ∧ Aside0 (tree_Links.l1 kq a1 x5_2 l0_0 (l0_0.length : Int) x13_1 ((rd_T44 l0_0 x13_1).f6) (((rd_T44 l0_0 x13_1).f6).length : Int) x20_2 = some r) ∧ Aside0 (kq ≤ k1) ∧ Aside0 (w'.heap[gb113]? = some (.cells #[(.slice (some ad114) l0_0.length c0_0), .int .i64 a0_1, .int .i64 a0_2, .int .i64 a0_3] 26 (0, 0))) ∧ Aside0 (w'.heap[gb115]? = some (.cells #[.int .i64 ((rd_T44 l0_0 x13_1).f0), .int .i64 ((rd_T44 l0_0 x13_1).f1), .int .i64 ((rd_T44 l0_0 x13_1).f2), .int .i64 ((rd_T44 l0_0 x13_1).f3), .int .i64 ((rd_T44 l0_0 x13_1).f4), .string ((rd_T44 l0_0 x13_1).f5), (.slice A114_6 ((rd_T44 l0_0 x13_1).f6).length c114_6)] 44 (0, 0))) ∧ Aside0 (Below w.heap.size w w'))
      case atStart => exact ⟨(x5_1), (0), (by first | rfl | (simp; done) | (simp [*]; done)), (by first | rfl | (simp; done) | (simp [*]; done)), H', ⟨Nat.le_refl _⟩, ⟨by (with_reducible repeat (first | refine blk_drewN ?_ _ | refine blk_drew ?_ | refine blk_alloc ?_ _)); refine blk_far ?_ NB113_115.out _; (with_reducible repeat (first | refine blk_drewN ?_ _ | refine blk_drew ?_ | refine blk_alloc ?_ _)); refine blk_far ?_ NB113_115.out _; (with_reducible repeat (first | refine blk_drewN ?_ _ | refine blk_drew ?_ | refine blk_alloc ?_ _)); refine blk_far ?_ NB113_115.out _; (with_reducible repeat (first | refine blk_drewN ?_ _ | refine blk_drew ?_ | refine blk_alloc ?_ _)); refine blk_far ?_ NB113_115.out _; (with_reducible repeat (first | refine blk_drewN ?_ _ | refine blk_drew ?_ | refine blk_alloc ?_ _)); refine blk_far ?_ NB113_115.out _; (with_reducible repeat (first | refine blk_drewN ?_ _ | refine blk_drew ?_ | refine blk_alloc ?_ _)); refine blk_far ?_ NB113_115.out _; (with_reducible repeat (first | refine blk_drewN ?_ _ | refine blk_drew ?_ | refine blk_alloc ?_ _)); refine blk_far ?_ NB113_115.out _; (with_reducible repeat (first | refine blk_drewN ?_ _ | refine blk_drew ?_ | refine blk_alloc ?_ _)); exact BK113.out⟩, ⟨by (with_reducible repeat (first | refine blk_drewN ?_ _ | refine blk_drew ?_ | refine blk_alloc ?_ _)); refine blk_put (cs := #[.int .i64 ((rd_T44 l0_0 x13_1).f0), .int .i64 ((rd_T44 l0_0 x13_1).f1), .int .i64 ((rd_T44 l0_0 x13_1).f2), .int .i64 ((rd_T44 l0_0 x13_1).f3), .int .i64 ((rd_T44 l0_0 x13_1).f4), .string ((rd_T44 l0_0 x13_1).f5), .slice none 0 0]) ?_ 6 _ (by first | rfl | (simp only [w64_PTr6]; rfl) | (simp [w64_PTr6]; done)); (with_reducible repeat (first | refine blk_drewN ?_ _ | refine blk_drew ?_ | refine blk_alloc ?_ _)); refine blk_put (cs := #[.int .i64 ((rd_T44 l0_0 x13_1).f0), .int .i64 ((rd_T44 l0_0 x13_1).f1), .int .i64 ((rd_T44 l0_0 x13_1).f2), .int .i64 ((rd_T44 l0_0 x13_1).f3), .int .i64 ((rd_T44 l0_0 x13_1).f4), .string (⟨#[]⟩ : ByteArray), .slice none 0 0]) ?_ 5 _ (by first | rfl | (simp only [w64_PTr6]; rfl) | (simp [w64_PTr6]; done)); (with_reducible repeat (first | refine blk_drewN ?_ _ | refine blk_drew ?_ | refine blk_alloc ?_ _)); refine blk_put (cs := #[.int .i64 ((rd_T44 l0_0 x13_1).f0), .int .i64 ((rd_T44 l0_0 x13_1).f1), .int .i64 ((rd_T44 l0_0 x13_1).f2), .int .i64 ((rd_T44 l0_0 x13_1).f3), .int .i64 0, .string (⟨#[]⟩ : ByteArray), .slice none 0 0]) ?_ 4 _ (by first | rfl | (simp only [w64_PTr6]; rfl) | (simp [w64_PTr6]; done)); (with_reducible repeat (first | refine blk_drewN ?_ _ | refine blk_drew ?_ | refine blk_alloc ?_ _)); refine blk_put (cs := #[.int .i64 ((rd_T44 l0_0 x13_1).f0), .int .i64 ((rd_T44 l0_0 x13_1).f1), .int .i64 ((rd_T44 l0_0 x13_1).f2), .int .i64 0, .int .i64 0, .string (⟨#[]⟩ : ByteArray), .slice none 0 0]) ?_ 3 _ (by first | rfl | (simp only [w64_PTr6]; rfl) | (simp [w64_PTr6]; done)); (with_reducible repeat (first | refine blk_drewN ?_ _ | refine blk_drew ?_ | refine blk_alloc ?_ _)); refine blk_put (cs := #[.int .i64 ((rd_T44 l0_0 x13_1).f0), .int .i64 ((rd_T44 l0_0 x13_1).f1), .int .i64 0, .int .i64 0, .int .i64 0, .string (⟨#[]⟩ : ByteArray), .slice none 0 0]) ?_ 2 _ (by first | rfl | (simp only [w64_PTr6]; rfl) | (simp [w64_PTr6]; done)); (with_reducible repeat (first | refine blk_drewN ?_ _ | refine blk_drew ?_ | refine blk_alloc ?_ _)); refine blk_put (cs := #[.int .i64 ((rd_T44 l0_0 x13_1).f0), .int .i64 0, .int .i64 0, .int .i64 0, .int .i64 0, .string (⟨#[]⟩ : ByteArray), .slice none 0 0]) ?_ 1 _ (by first | rfl | (simp only [w64_PTr6]; rfl) | (simp [w64_PTr6]; done)); (with_reducible repeat (first | refine blk_drewN ?_ _ | refine blk_drew ?_ | refine blk_alloc ?_ _)); refine blk_put (cs := #[.int .i64 0, .int .i64 0, .int .i64 0, .int .i64 0, .int .i64 0, .string (⟨#[]⟩ : ByteArray), .slice none 0 0]) ?_ 0 _ (by first | rfl | (simp only [w64_PTr6]; rfl) | (simp [w64_PTr6]; done)); (with_reducible repeat (first | refine blk_drewN ?_ _ | refine blk_drew ?_ | refine blk_alloc ?_ _)); exact BK115.out⟩, ⟨by repeat (first | (with_reducible first | exact HB.out | apply below_alloc | apply pw_below_drewN | apply below_drew1 | refine below_set ?_ GE113.out | refine below_set ?_ GE115.out) | exact HB.out)⟩⟩
      case round =>
       clear H'
       try clear c1
       try clear p1
       try clear q1
       try clear hx1
       try clear p2
       try clear c3
       try clear c5
       try clear c5b0
       try clear c6
       try clear c6b0
       try clear c7
       try clear c7b0
       try clear c9
       try clear hcz10_0
       try clear hcz10_1
       try clear hcz10_2
       try clear hcz10_3
       try clear hcz10_4
       try clear hcz10_5
       try clear hcz10_6
       try clear hcz4_0
       try clear hcz4_1
       try clear hcz4_2
       try clear hcz4_3
       try clear hfz10_0
       try clear hfz10_1
       try clear hfz10_2
       try clear hfz10_3
       try clear hfz10_4
       try clear hfz10_5
       try clear hfz10_6
       try clear hfz4_0
       try clear hfz4_1
       try clear hfz4_2
       try clear hfz4_3
       try clear hx114_0
       try clear hx114_1
       try clear hx114_2
       try clear hx114_3
       try clear hx114_4
       try clear hx114_5
       try clear hx114_6
       try clear p114
       try clear p2
       try clear q114
       obtain ⟨x5_2, x20_2, rfl, rfl, HA, HK2, BK113, BK115, HB⟩ := hrel
       cases gk with
       | zero => exact absurd HA.out (by simp [tree_Links.l1])
       | succ k2 =>
        have H := HA.out
        clear HA
        simp only [tree_Links.l1] at H
        by_cases c11 : x20_2 < (((rd_T44 l0_0 x13_1).f6).length : Int)
        ·
         rw [if_pos c11] at H
         have c11b0 : decide (x20_2 < (((rd_T44 l0_0 x13_1).f6).length : Int)) = true := decide_eq_true c11
         clear c11
         by_cases c12 : 0 ≤ x20_2
         ·
          rw [if_pos c12] at H
          have c12b0 : decide (0 ≤ x20_2) = true := decide_eq_true c12
          clear c12
          by_cases c13 : x20_2 < (((rd_T44 l0_0 x13_1).f6).length : Int)
          ·
           rw [if_pos c13] at H
           have c13b0 : decide (x20_2 < (((rd_T44 l0_0 x13_1).f6).length : Int)) = true := decide_eq_true c13
           clear c13
           by_cases c14 : ((rd_T61 ((rd_T44 l0_0 x13_1).f6) x20_2).f1) = a1
           ·
            rw [if_pos c14] at H
            have c14b0 : (((rd_T61 ((rd_T44 l0_0 x13_1).f6) x20_2).f1) == a1) = true := beq_iff_eq.mpr c14
            have c14b1 : (((rd_T61 ((rd_T44 l0_0 x13_1).f6) x20_2).f1) != a1) = false := bne_eq_false_iff_eq.mpr c14
            clear c14
            have H' := Aside0.mk H
            clear H
            have p116 : 0 ≤ (x20_2 : Int) := of_decide_eq_true (by first | (with_reducible assumption) | assumption)
            have q116 : x20_2 < (((rd_T44 l0_0 x13_1).f6).length : Int) := of_decide_eq_true (by first | (with_reducible assumption) | assumption)
            obtain ⟨ad116, e116, hx116_0, hx116_1⟩ := at_T61 HR114_6.out x20_2 p116 q116
            cases e116
            replace hx116_0 := (HB.out.cell (World.block_lt_of_cell? w _ hx116_0)).trans hx116_0
            replace hx116_1 := (HB.out.cell (World.block_lt_of_cell? w _ hx116_1)).trans hx116_1
            replace p116 := eq_true p116
            replace q116 := eq_true q116
            go_wp2_with (first | ((with_reducible refine gate_dst (N := 9) rfl ?_); refine box_event ?hg (N := 9) ?hd (cs := #[.string (⟨#[]⟩ : ByteArray), .int .i64 0]) (t := 61) ?hr ?_; (case hd => rfl); (case hg => rfl); (case hr => first | (go_simp; done) | (go_simp; rfl)); intro gb117 hg w15 hbox hb; have n0_ := Aside0.mk (blk_below (g := gb113) (o := .cells #[.slice (some ad114) l0_0.length c0_0, .int .i64 a0_1, .int .i64 a0_2, .int .i64 a0_3] 26 (0, 0)) (by (with_reducible repeat (first | refine blk_drewN ?_ _ | refine blk_drew ?_ | refine blk_alloc ?_ _)); exact BK113.out) hb); have n1_ := Aside0.mk (blk_below (g := gb115) (o := .cells #[.int .i64 ((rd_T44 l0_0 x13_1).f0), .int .i64 ((rd_T44 l0_0 x13_1).f1), .int .i64 ((rd_T44 l0_0 x13_1).f2), .int .i64 ((rd_T44 l0_0 x13_1).f3), .int .i64 ((rd_T44 l0_0 x13_1).f4), .string ((rd_T44 l0_0 x13_1).f5), .slice (some ad116) ((rd_T44 l0_0 x13_1).f6).length c114_6] 44 (0, 0)) (by (with_reducible repeat (first | refine blk_drewN ?_ _ | refine blk_drew ?_ | refine blk_alloc ?_ _)); exact BK115.out) hb); have n2_ := Aside0.mk (below_step (by repeat (first | (with_reducible first | exact HB.out | apply below_alloc | apply pw_below_drewN | apply below_drew1 | refine below_set ?_ GE113.out | refine below_set ?_ GE115.out) | exact HB.out)) hb); have n3_ := Aside0.mk (hbox); have n4_ := Aside0.mk ((by rw [hg]; exact (below_size (by repeat (first | (with_reducible first | exact HB.out | apply below_alloc | apply pw_below_drewN | apply below_drew1 | refine below_set ?_ GE113.out | refine below_set ?_ GE115.out) | exact HB.out))) : w.heap.size ≤ gb117)); have n5_ := Aside0.mk ((by rw [hg]; exact (below_size (by repeat (first | (with_reducible first | exact HB.out | apply below_alloc | apply pw_below_drewN | apply below_drew1 | refine below_set ?_ GE113.out | refine below_set ?_ GE115.out) | exact HB.out))) : w.heap.size ≤ gb117)); have n6_ := Aside0.mk ((by rw [hg]; exact Nat.ne_of_lt (blk_lt (g := gb113) (o := .cells #[.slice (some ad114) l0_0.length c0_0, .int .i64 a0_1, .int .i64 a0_2, .int .i64 a0_3] 26 (0, 0)) (by (with_reducible repeat (first | refine blk_drewN ?_ _ | refine blk_drew ?_ | refine blk_alloc ?_ _)); exact BK113.out)) : gb113 ≠ gb117)); have n7_ := Aside0.mk ((by rw [hg]; exact Nat.ne_of_gt (blk_lt (g := gb113) (o := .cells #[.slice (some ad114) l0_0.length c0_0, .int .i64 a0_1, .int .i64 a0_2, .int .i64 a0_3] 26 (0, 0)) (by (with_reducible repeat (first | refine blk_drewN ?_ _ | refine blk_drew ?_ | refine blk_alloc ?_ _)); exact BK113.out)) : gb117 ≠ gb113)); have n8_ := Aside0.mk ((by rw [hg]; exact Nat.ne_of_lt (blk_lt (g := gb115) (o := .cells #[.int .i64 ((rd_T44 l0_0 x13_1).f0), .int .i64 ((rd_T44 l0_0 x13_1).f1), .int .i64 ((rd_T44 l0_0 x13_1).f2), .int .i64 ((rd_T44 l0_0 x13_1).f3), .int .i64 ((rd_T44 l0_0 x13_1).f4), .string ((rd_T44 l0_0 x13_1).f5), .slice (some ad116) ((rd_T44 l0_0 x13_1).f6).length c114_6] 44 (0, 0)) (by (with_reducible repeat (first | refine blk_drewN ?_ _ | refine blk_drew ?_ | refine blk_alloc ?_ _)); exact BK115.out)) : gb115 ≠ gb117)); have n9_ := Aside0.mk ((by rw [hg]; exact Nat.ne_of_gt (blk_lt (g := gb115) (o := .cells #[.int .i64 ((rd_T44 l0_0 x13_1).f0), .int .i64 ((rd_T44 l0_0 x13_1).f1), .int .i64 ((rd_T44 l0_0 x13_1).f2), .int .i64 ((rd_T44 l0_0 x13_1).f3), .int .i64 ((rd_T44 l0_0 x13_1).f4), .string ((rd_T44 l0_0 x13_1).f5), .slice (some ad116) ((rd_T44 l0_0 x13_1).f6).length c114_6] 44 (0, 0)) (by (with_reducible repeat (first | refine blk_drewN ?_ _ | refine blk_drew ?_ | refine blk_alloc ?_ _)); exact BK115.out)) : gb117 ≠ gb115)); clear BK113; clear BK115; clear HB; have BK113 := n0_; have BK115 := n1_; have HB := n2_; have BK117 := n3_; have GW117 := n4_; have GE117 := n5_; have NB113_117 := n6_; have NB117_113 := n7_; have NB115_117 := n8_; have NB117_115 := n9_; clear n0_ n1_ n2_ n3_ n4_ n5_ n6_ n7_ n8_ n9_; clear hb hbox hg; have hnb16 := NB117_113.out; have hnc16 := NB113_117.out; have hnb17 := NB117_115.out; have hnc17 := NB115_117.out; have hcz18_0 : w15.cell? ⟨gb117, 0, none⟩ = some (.string (⟨#[]⟩ : ByteArray)) := (blk_cell BK117.out 0).trans rfl; have hcz18_1 : w15.cell? ⟨gb117, 1, none⟩ = some (.int .i64 0) := (blk_cell BK117.out 1).trans rfl; have hfz18_0 := blk_frozen BK117.out 0; have hfz18_1 := blk_frozen BK117.out 1))
            go_roundg k2
            case measure => have := HK1.out; have := HK2.out; omega
            case rel => exact ⟨(wrap64 (x5_2 + 1)), (wrap64 (x20_2 + 1)), (by first | rfl | (simp; done) | (simp [*]; done)), (by first | rfl | (simp; done) | (simp [*]; done)), H', ⟨by have := HK1.out; have := HK2.out; omega⟩, ⟨by (with_reducible repeat (first | refine blk_drewN ?_ _ | refine blk_drew ?_ | refine blk_alloc ?_ _)); refine blk_far ?_ NB113_117.out _; (with_reducible repeat (first | refine blk_drewN ?_ _ | refine blk_drew ?_ | refine blk_alloc ?_ _)); refine blk_far ?_ NB113_117.out _; (with_reducible repeat (first | refine blk_drewN ?_ _ | refine blk_drew ?_ | refine blk_alloc ?_ _)); exact BK113.out⟩, ⟨by (with_reducible repeat (first | refine blk_drewN ?_ _ | refine blk_drew ?_ | refine blk_alloc ?_ _)); refine blk_far ?_ NB115_117.out _; (with_reducible repeat (first | refine blk_drewN ?_ _ | refine blk_drew ?_ | refine blk_alloc ?_ _)); refine blk_far ?_ NB115_117.out _; (with_reducible repeat (first | refine blk_drewN ?_ _ | refine blk_drew ?_ | refine blk_alloc ?_ _)); exact BK115.out⟩, ⟨by repeat (first | (with_reducible first | exact HB.out | apply below_alloc | apply pw_below_drewN | apply below_drew1 | refine below_set ?_ GE113.out | refine below_set ?_ GE115.out | refine below_set ?_ GE117.out) | exact HB.out)⟩⟩
           ·
            rw [if_neg c14] at H
            have c14b0 : (((rd_T61 ((rd_T44 l0_0 x13_1).f6) x20_2).f1) == a1) = false := beq_eq_false_iff_ne.mpr c14
            have c14b1 : (((rd_T61 ((rd_T44 l0_0 x13_1).f6) x20_2).f1) != a1) = true := bne_iff_ne.mpr c14
            have H' := Aside0.mk H
            clear H
            have p116 : 0 ≤ (x20_2 : Int) := of_decide_eq_true (by first | (with_reducible assumption) | assumption)
            have q116 : x20_2 < (((rd_T44 l0_0 x13_1).f6).length : Int) := of_decide_eq_true (by first | (with_reducible assumption) | assumption)
            obtain ⟨ad116, e116, hx116_0, hx116_1⟩ := at_T61 HR114_6.out x20_2 p116 q116
            cases e116
            replace hx116_0 := (HB.out.cell (World.block_lt_of_cell? w _ hx116_0)).trans hx116_0
            replace hx116_1 := (HB.out.cell (World.block_lt_of_cell? w _ hx116_1)).trans hx116_1
            replace p116 := eq_true p116
            replace q116 := eq_true q116
            go_wp2_with (first | ((with_reducible refine gate_dst (N := 9) rfl ?_); refine box_event ?hg (N := 9) ?hd (cs := #[.string (⟨#[]⟩ : ByteArray), .int .i64 0]) (t := 61) ?hr ?_; (case hd => rfl); (case hg => rfl); (case hr => first | (go_simp; done) | (go_simp; rfl)); intro gb117 hg w19 hbox hb; have n0_ := Aside0.mk (blk_below (g := gb113) (o := .cells #[.slice (some ad114) l0_0.length c0_0, .int .i64 a0_1, .int .i64 a0_2, .int .i64 a0_3] 26 (0, 0)) (by (with_reducible repeat (first | refine blk_drewN ?_ _ | refine blk_drew ?_ | refine blk_alloc ?_ _)); exact BK113.out) hb); have n1_ := Aside0.mk (blk_below (g := gb115) (o := .cells #[.int .i64 ((rd_T44 l0_0 x13_1).f0), .int .i64 ((rd_T44 l0_0 x13_1).f1), .int .i64 ((rd_T44 l0_0 x13_1).f2), .int .i64 ((rd_T44 l0_0 x13_1).f3), .int .i64 ((rd_T44 l0_0 x13_1).f4), .string ((rd_T44 l0_0 x13_1).f5), .slice (some ad116) ((rd_T44 l0_0 x13_1).f6).length c114_6] 44 (0, 0)) (by (with_reducible repeat (first | refine blk_drewN ?_ _ | refine blk_drew ?_ | refine blk_alloc ?_ _)); exact BK115.out) hb); have n2_ := Aside0.mk (below_step (by repeat (first | (with_reducible first | exact HB.out | apply below_alloc | apply pw_below_drewN | apply below_drew1 | refine below_set ?_ GE113.out | refine below_set ?_ GE115.out) | exact HB.out)) hb); have n3_ := Aside0.mk (hbox); have n4_ := Aside0.mk ((by rw [hg]; exact (below_size (by repeat (first | (with_reducible first | exact HB.out | apply below_alloc | apply pw_below_drewN | apply below_drew1 | refine below_set ?_ GE113.out | refine below_set ?_ GE115.out) | exact HB.out))) : w.heap.size ≤ gb117)); have n5_ := Aside0.mk ((by rw [hg]; exact (below_size (by repeat (first | (with_reducible first | exact HB.out | apply below_alloc | apply pw_below_drewN | apply below_drew1 | refine below_set ?_ GE113.out | refine below_set ?_ GE115.out) | exact HB.out))) : w.heap.size ≤ gb117)); have n6_ := Aside0.mk ((by rw [hg]; exact Nat.ne_of_lt (blk_lt (g := gb113) (o := .cells #[.slice (some ad114) l0_0.length c0_0, .int .i64 a0_1, .int .i64 a0_2, .int .i64 a0_3] 26 (0, 0)) (by (with_reducible repeat (first | refine blk_drewN ?_ _ | refine blk_drew ?_ | refine blk_alloc ?_ _)); exact BK113.out)) : gb113 ≠ gb117)); have n7_ := Aside0.mk ((by rw [hg]; exact Nat.ne_of_gt (blk_lt (g := gb113) (o := .cells #[.slice (some ad114) l0_0.length c0_0, .int .i64 a0_1, .int .i64 a0_2, .int .i64 a0_3] 26 (0, 0)) (by (with_reducible repeat (first | refine blk_drewN ?_ _ | refine blk_drew ?_ | refine blk_alloc ?_ _)); exact BK113.out)) : gb117 ≠ gb113)); have n8_ := Aside0.mk ((by rw [hg]; exact Nat.ne_of_lt (blk_lt (g := gb115) (o := .cells #[.int .i64 ((rd_T44 l0_0 x13_1).f0), .int .i64 ((rd_T44 l0_0 x13_1).f1), .int .i64 ((rd_T44 l0_0 x13_1).f2), .int .i64 ((rd_T44 l0_0 x13_1).f3), .int .i64 ((rd_T44 l0_0 x13_1).f4), .string ((rd_T44 l0_0 x13_1).f5), .slice (some ad116) ((rd_T44 l0_0 x13_1).f6).length c114_6] 44 (0, 0)) (by (with_reducible repeat (first | refine blk_drewN ?_ _ | refine blk_drew ?_ | refine blk_alloc ?_ _)); exact BK115.out)) : gb115 ≠ gb117)); have n9_ := Aside0.mk ((by rw [hg]; exact Nat.ne_of_gt (blk_lt (g := gb115) (o := .cells #[.int .i64 ((rd_T44 l0_0 x13_1).f0), .int .i64 ((rd_T44 l0_0 x13_1).f1), .int .i64 ((rd_T44 l0_0 x13_1).f2), .int .i64 ((rd_T44 l0_0 x13_1).f3), .int .i64 ((rd_T44 l0_0 x13_1).f4), .string ((rd_T44 l0_0 x13_1).f5), .slice (some ad116) ((rd_T44 l0_0 x13_1).f6).length c114_6] 44 (0, 0)) (by (with_reducible repeat (first | refine blk_drewN ?_ _ | refine blk_drew ?_ | refine blk_alloc ?_ _)); exact BK115.out)) : gb117 ≠ gb115)); clear BK113; clear BK115; clear HB; have BK113 := n0_; have BK115 := n1_; have HB := n2_; have BK117 := n3_; have GW117 := n4_; have GE117 := n5_; have NB113_117 := n6_; have NB117_113 := n7_; have NB115_117 := n8_; have NB117_115 := n9_; clear n0_ n1_ n2_ n3_ n4_ n5_ n6_ n7_ n8_ n9_; clear hb hbox hg; have hnb20 := NB117_113.out; have hnc20 := NB113_117.out; have hnb21 := NB117_115.out; have hnc21 := NB115_117.out; have hcz22_0 : w19.cell? ⟨gb117, 0, none⟩ = some (.string (⟨#[]⟩ : ByteArray)) := (blk_cell BK117.out 0).trans rfl; have hcz22_1 : w19.cell? ⟨gb117, 1, none⟩ = some (.int .i64 0) := (blk_cell BK117.out 1).trans rfl; have hfz22_0 := blk_frozen BK117.out 0; have hfz22_1 := blk_frozen BK117.out 1))
            go_roundg k2
            case measure => have := HK1.out; have := HK2.out; omega
            case rel => exact ⟨(x5_2), (wrap64 (x20_2 + 1)), (by first | rfl | (simp; done) | (simp [*]; done)), (by first | rfl | (simp; done) | (simp [*]; done)), H', ⟨by have := HK1.out; have := HK2.out; omega⟩, ⟨by (with_reducible repeat (first | refine blk_drewN ?_ _ | refine blk_drew ?_ | refine blk_alloc ?_ _)); refine blk_far ?_ NB113_117.out _; (with_reducible repeat (first | refine blk_drewN ?_ _ | refine blk_drew ?_ | refine blk_alloc ?_ _)); refine blk_far ?_ NB113_117.out _; (with_reducible repeat (first | refine blk_drewN ?_ _ | refine blk_drew ?_ | refine blk_alloc ?_ _)); exact BK113.out⟩, ⟨by (with_reducible repeat (first | refine blk_drewN ?_ _ | refine blk_drew ?_ | refine blk_alloc ?_ _)); refine blk_far ?_ NB115_117.out _; (with_reducible repeat (first | refine blk_drewN ?_ _ | refine blk_drew ?_ | refine blk_alloc ?_ _)); refine blk_far ?_ NB115_117.out _; (with_reducible repeat (first | refine blk_drewN ?_ _ | refine blk_drew ?_ | refine blk_alloc ?_ _)); exact BK115.out⟩, ⟨by repeat (first | (with_reducible first | exact HB.out | apply below_alloc | apply pw_below_drewN | apply below_drew1 | refine below_set ?_ GE113.out | refine below_set ?_ GE115.out | refine below_set ?_ GE117.out) | exact HB.out)⟩⟩
          ·
           rw [if_neg c13] at H
           exact absurd H (by simp)
         ·
          rw [if_neg c12] at H
          exact absurd H (by simp)
        ·
         rw [if_neg c11] at H
         have c11b0 : decide (x20_2 < (((rd_T44 l0_0 x13_1).f6).length : Int)) = false := decide_eq_false c11
         clear c11
         have H' := Aside0.mk H
         clear H
         go_wp2
         go_roundg k2
         case measure => have := HK1.out; have := HK2.out; omega
         case rel => exact ⟨(x5_2), (wrap64 (x13_1 + 1)), (by first | rfl | (simp; done) | (simp [*]; done)), (by first | rfl | (simp; done) | (simp [*]; done)), H', ⟨by have := HK1.out; have := HK2.out; omega⟩, ⟨by (with_reducible repeat (first | refine blk_drewN ?_ _ | refine blk_drew ?_ | refine blk_alloc ?_ _)); exact BK113.out⟩, ⟨by repeat (first | (with_reducible first | exact HB.out | apply below_alloc | apply pw_below_drewN | apply below_drew1 | refine below_set ?_ GE113.out | refine below_set ?_ GE115.out) | exact HB.out)⟩⟩
     ·
      rw [if_neg c7] at H
      exact absurd H (by simp)
    ·
     rw [if_neg c6] at H
     exact absurd H (by simp)
   ·
    rw [if_neg c5] at H
    have c5b0 : decide (x13_1 < (l0_0.length : Int)) = false := decide_eq_false c5
    clear c5
    obtain rfl := Option.some.inj H
    go_wp2
    go_ret
    exact ⟨by first | rfl | (simp [errW_none, errW_some] <;> rfl) | (simp [*, errW_none, errW_some] <;> rfl), by repeat (first | (with_reducible first | exact HB.out | apply below_alloc | apply pw_below_drewN | apply below_drew1 | refine below_set ?_ GE113.out) | exact HB.out)⟩
end Go.Proofs.YtnpnablnnfekkaaDoor.PTr
namespace Go.Proofs.YtnpnablnnfekkaaDoor.PTr
open Go.RowKit Go.Proofs.YtnpnablnnfekkaaDoorW.PrintWords Go.Proofs.YtnpnablnnfekkaaDoorW.PrintLast Go.Proofs.YtnpnablnnfekkaaDoorW.PrintMore
attribute [local go_sem] max2_int min2_int max_two min_two max_three min_three max_four min_four   -- for this text's walks alone
set_option linter.unusedVariables false
set_option linter.unusedSimpArgs false
theorem w64_PTr7 (x : Int) : wrap64 (x % 256) = x % 256 := by unfold wrap64; omega
def rehearsallaw04_two.f  : Option ((List (S44)) × Int × Int × Int) := some ((([(⟨1, 1, 0, 0, 0, (⟨#[]⟩ : ByteArray), (([(⟨(⟨#[97]⟩ : ByteArray), 5⟩ : S61), (⟨(⟨#[98]⟩ : ByteArray), 5⟩ : S61)] : List (S61)))⟩ : S44), (⟨5, 2, 0, 0, 0, (⟨#[]⟩ : ByteArray), ([] : List (S61))⟩ : S44)] : List (S44))), 9, 0, 0)
set_option maxHeartbeats 8000000 in
set_option maxRecDepth 100000 in
theorem rehearsallaw04_two.calls  (r1 : List (S44)) (r2 : Int) (r3 : Int) (r4 : Int) (w : World) (h : rehearsallaw04_two.f  = some (r1, r2, r3, r4)) :
  Calls Tryd.prog 57 #[] w fun e w' => ∃ v0_ : Value, e = .returned (.agg #[v0_, .int .i64 r2, .int .i64 r3, .int .i64 r4]) ∧ Kd.N k44 44 w' w.heap.size (fun k_ => (w.heap.size ≤ k_)) v0_ r1 ∧ Below w.heap.size w w' := by
 have hu26 := Tryd.underlying26
 have hu61 := Tryd.underlying61
 have hu44 := Tryd.underlying44
 have HB := Aside0.mk (Below.refl w.heap.size w)
 have H : (some ((([(⟨1, 1, 0, 0, 0, (⟨#[]⟩ : ByteArray), (([(⟨(⟨#[97]⟩ : ByteArray), 5⟩ : S61), (⟨(⟨#[98]⟩ : ByteArray), 5⟩ : S61)] : List (S61)))⟩ : S44), (⟨5, 2, 0, 0, 0, (⟨#[]⟩ : ByteArray), ([] : List (S61))⟩ : S44)] : List (S44))), 9, 0, 0)) = some (r1, r2, r3, r4) := h
 clear h
 obtain ⟨y119, hy119⟩ : ∃ y_ : List (S61), y_ = (([(⟨(⟨#[97]⟩ : ByteArray), 5⟩ : S61), (⟨(⟨#[98]⟩ : ByteArray), 5⟩ : S61)] : List (S61))) := ⟨_, rfl⟩
 replace H : (some ((([(⟨1, 1, 0, 0, 0, (⟨#[]⟩ : ByteArray), y119⟩ : S44), (⟨5, 2, 0, 0, 0, (⟨#[]⟩ : ByteArray), ([] : List (S61))⟩ : S44)] : List (S44))), 9, 0, 0)) = some (r1, r2, r3, r4) := by first | (rw [hy119]; with_reducible exact H) | (have H2_ := (Option.bind_some _ _).symm.trans H; rw [hy119]; with_reducible exact H2_) | (have H2_ := (Option.bind_some _ _).symm.trans H; with_reducible exact H2_) | with_reducible exact H | (rw [hy119]; exact H) | exact H
 have Ny119 := Aside0.mk hy119
 clear hy119
 obtain ⟨y122, hy122⟩ : ∃ y_ : List (S44), y_ = (([(⟨1, 1, 0, 0, 0, (⟨#[]⟩ : ByteArray), y119⟩ : S44), (⟨5, 2, 0, 0, 0, (⟨#[]⟩ : ByteArray), ([] : List (S61))⟩ : S44)] : List (S44))) := ⟨_, rfl⟩
 replace H : (some (y122, 9, 0, 0)) = some (r1, r2, r3, r4) := by first | (rw [hy122]; with_reducible exact H) | (have H2_ := (Option.bind_some _ _).symm.trans H; rw [hy122]; with_reducible exact H2_) | (have H2_ := (Option.bind_some _ _).symm.trans H; with_reducible exact H2_) | with_reducible exact H | (rw [hy122]; exact H) | exact H
 have Ny122 := Aside0.mk hy122
 clear hy122
 simp only [Option.some.injEq, Prod.mk.injEq] at H
 obtain ⟨rfl, rfl, rfl, rfl⟩ := H
 go_enter Tryd.func57, Tryd.ntmps57
 go_wp2_with (first | ((with_reducible refine gate_dst (N := 0) rfl ?_); refine box_event ?hg (N := 0) ?hd (cs := #[.slice none 0 0, .int .i64 0, .int .i64 0, .int .i64 0]) (t := 26) ?hr ?_; (case hd => rfl); (case hg => rfl); (case hr => first | (go_simp; done) | (go_simp; rfl)); intro gb118 hg w1 hbox hb; have n0_ := Aside0.mk (below_step (by repeat (first | (with_reducible first | exact HB.out | apply below_alloc | apply pw_below_drewN | apply below_drew1) | exact HB.out)) hb); have n1_ := Aside0.mk (hbox); have n2_ := Aside0.mk ((by rw [hg]; exact (below_size (by repeat (first | (with_reducible first | exact HB.out | apply below_alloc | apply pw_below_drewN | apply below_drew1) | exact HB.out))) : w.heap.size ≤ gb118)); have n3_ := Aside0.mk ((by rw [hg]; exact (below_size (by repeat (first | (with_reducible first | exact HB.out | apply below_alloc | apply pw_below_drewN | apply below_drew1) | exact HB.out))) : w.heap.size ≤ gb118)); clear HB; have HB := n0_; have BK118 := n1_; have GW118 := n2_; have GE118 := n3_; clear n0_ n1_ n2_ n3_; clear hb hbox hg) | ((with_reducible refine gate_dst (N := 3) rfl ?_); refine Kd.R_lit k61 _ 61 ?hg (N := 3) ?hd (xs := ([(⟨(⟨#[97]⟩ : ByteArray), 5⟩ : S61), (⟨(⟨#[98]⟩ : ByteArray), 5⟩ : S61)] : List (S61))) (inner := [.string (⟨#[97]⟩ : ByteArray), .int .i64 5, .string (⟨#[98]⟩ : ByteArray), .int .i64 5]) (ok := fun _ => True) (okp := fun _ => True) ?hr ?hp (fun _ hk => hk) trivial (Below.refl _ _) (Nat.le_refl _) (by simp) ?_; (case hd => rfl); (case hg => rfl); (case hr => first | (go_simp; done) | (go_simp; rfl)); (case hp => exact (Reps.c2 (show Kd.M k61 _ _ _ (⟨(⟨#[97]⟩ : ByteArray), 5⟩ : S61) [.string (⟨#[97]⟩ : ByteArray), .int .i64 5] from (k61_mkM _ _ _ (⟨(⟨#[97]⟩ : ByteArray), 5⟩ : S61) )) (Reps.c2 (show Kd.M k61 _ _ _ (⟨(⟨#[98]⟩ : ByteArray), 5⟩ : S61) [.string (⟨#[98]⟩ : ByteArray), .int .i64 5] from (k61_mkM _ _ _ (⟨(⟨#[98]⟩ : ByteArray), 5⟩ : S61) )) (Reps.none _ _)))); intro v120 w2 ho3 hb hg_ hnew_; clear hg_ hnew_; (first | rw [← Ny119.out] at ho3 | (simp only [Int.reduceToNat] at ho3; rw [← Ny119.out] at ho3)); have n0_ := Aside0.mk (Kd.R_lower (Kd.R_newM (M := fun k_ => (w.heap.size ≤ k_)) ho3 (below_size (by repeat (first | (with_reducible first | exact HB.out | apply below_alloc | apply pw_below_drewN | apply below_drew1 | refine below_set ?_ GE118.out) | exact HB.out))) (fun k_ h_ => h_)) (below_size (by repeat (first | (with_reducible first | exact HB.out | apply below_alloc | apply pw_below_drewN | apply below_drew1 | refine below_set ?_ GE118.out) | exact HB.out)))); have n1_ := Aside0.mk (blk_below (g := gb118) (o := .cells #[.slice none 0 0, .int .i64 0, .int .i64 0, .int .i64 0] 26 (0, 0)) (by (with_reducible repeat (first | refine blk_drewN ?_ _ | refine blk_drew ?_ | refine blk_alloc ?_ _)); exact BK118.out) hb); have n2_ := Aside0.mk (below_step (by repeat (first | (with_reducible first | exact HB.out | apply below_alloc | apply pw_below_drewN | apply below_drew1 | refine below_set ?_ GE118.out) | exact HB.out)) hb); clear BK118; clear HB; have HO121 := n0_; have BK118 := n1_; have HB := n2_; clear n0_ n1_ n2_; clear hb ho3; obtain ⟨Ao4, co4, eo4⟩ := Kd.R_slice HO121.out; subst eo4) | ((with_reducible refine gate_dst (N := 6) rfl ?_); refine Kd.N_lit k44 _ 44 ?hg (N' := 6) ?hd (xs := ([(⟨1, 1, 0, 0, 0, (⟨#[]⟩ : ByteArray), y119⟩ : S44), (⟨5, 2, 0, 0, 0, (⟨#[]⟩ : ByteArray), ([] : List (S61))⟩ : S44)] : List (S44))) (inner := [.int .i64 1, .int .i64 1, .int .i64 0, .int .i64 0, .int .i64 0, .string (⟨#[]⟩ : ByteArray), .slice Ao4 y119.length co4, .int .i64 5, .int .i64 2, .int .i64 0, .int .i64 0, .int .i64 0, .string (⟨#[]⟩ : ByteArray), .slice none 0 0]) (ok := (fun k_ => (w.heap.size ≤ k_) ∧ k_ ≠ gb118)) (okp := (fun k_ => (w.heap.size ≤ k_) ∧ k_ ≠ gb118)) ?hr ?hp (fun _ hk => hk) ((show ∀ k_, w2.heap.size ≤ k_ → (fun k_ => (w.heap.size ≤ k_) ∧ k_ ≠ gb118) k_ from fun k_ hk => ⟨(Nat.le_trans (below_size (by repeat (first | (with_reducible first | exact HB.out | apply below_alloc | apply pw_below_drewN | apply below_drew1 | refine below_set ?_ GE118.out) | exact HB.out))) hk), Kd.freshB (g := gb118) (o := .cells #[.slice none 0 0, .int .i64 0, .int .i64 0, .int .i64 0] 26 (0, 0)) (by (with_reducible repeat (first | refine blk_drewN ?_ _ | refine blk_drew ?_ | refine blk_alloc ?_ _)); exact BK118.out) k_ hk⟩) _ (Nat.le_refl _)) (Below.refl _ _) (Nat.le_refl _) (by simp) ?_; (case hd => rfl); (case hg => rfl); (case hr => first | (go_simp; done) | (go_simp; rfl)); (case hp => exact (Reps.c7 (show Kd.FK k44 _ _ (⟨1, 1, 0, 0, 0, (⟨#[]⟩ : ByteArray), y119⟩ : S44) [.int .i64 1, .int .i64 1, .int .i64 0, .int .i64 0, .int .i64 0, .string (⟨#[]⟩ : ByteArray), .slice Ao4 y119.length co4] from (k44_mkF _ _ (⟨1, 1, 0, 0, 0, (⟨#[]⟩ : ByteArray), y119⟩ : S44) (Kd.R_reads' (Kd.R_mono (ok' := (fun k_ => (w.heap.size ≤ k_) ∧ k_ ≠ gb118)) (Kd.R_types (HO121.out) BK118.out (by decide)) (fun k_ hk => ⟨hk.1.1, hk.2⟩))).2.1 (Kd.R_F (Kd.R_mono (ok' := (fun k_ => (w.heap.size ≤ k_) ∧ k_ ≠ gb118)) (Kd.R_types (HO121.out) BK118.out (by decide)) (fun k_ hk => ⟨hk.1.1, hk.2⟩))))) (Reps.c7 (show Kd.FK k44 _ _ (⟨5, 2, 0, 0, 0, (⟨#[]⟩ : ByteArray), ([] : List (S61))⟩ : S44) [.int .i64 5, .int .i64 2, .int .i64 0, .int .i64 0, .int .i64 0, .string (⟨#[]⟩ : ByteArray), .slice none 0 0] from (k44_mkF _ _ (⟨5, 2, 0, 0, 0, (⟨#[]⟩ : ByteArray), ([] : List (S61))⟩ : S44) (Nat.le_refl _) (Kd.F_nil _ _ _))) (Reps.none _ _)))); intro v123 w5 ho6 hb hg_ hnew_; clear hg_ hnew_; (first | rw [← Ny122.out] at ho6 | (simp only [Int.reduceToNat] at ho6; rw [← Ny122.out] at ho6)); have n0_ := Aside0.mk (Kd.N_lower ho6 (below_size (by repeat (first | (with_reducible first | exact HB.out | apply below_alloc | apply pw_below_drewN | apply below_drew1 | refine below_set ?_ GE118.out) | exact HB.out)))); have n1_ := Aside0.mk (blk_below (g := gb118) (o := .cells #[.slice none 0 0, .int .i64 0, .int .i64 0, .int .i64 0] 26 (0, 0)) (by (with_reducible repeat (first | refine blk_drewN ?_ _ | refine blk_drew ?_ | refine blk_alloc ?_ _)); exact BK118.out) hb); have n2_ := Aside0.mk (below_step (by repeat (first | (with_reducible first | exact HB.out | apply below_alloc | apply pw_below_drewN | apply below_drew1 | refine below_set ?_ GE118.out) | exact HB.out)) hb); clear BK118; clear HB; clear HO121; have HO124 := n0_; have BK118 := n1_; have HB := n2_; clear n0_ n1_ n2_; clear hb ho6; obtain ⟨Ao7, co7, eo7⟩ := Kd.N_slice HO124.out; subst eo7; have hcz8_0 : w5.cell? ⟨gb118, 0, none⟩ = some (.slice none 0 0) := (blk_cell BK118.out 0).trans rfl; have hcz8_1 : w5.cell? ⟨gb118, 1, none⟩ = some (.int .i64 0) := (blk_cell BK118.out 1).trans rfl; have hcz8_2 : w5.cell? ⟨gb118, 2, none⟩ = some (.int .i64 0) := (blk_cell BK118.out 2).trans rfl; have hcz8_3 : w5.cell? ⟨gb118, 3, none⟩ = some (.int .i64 0) := (blk_cell BK118.out 3).trans rfl; have hfz8_0 := blk_frozen BK118.out 0; have hfz8_1 := blk_frozen BK118.out 1; have hfz8_2 := blk_frozen BK118.out 2; have hfz8_3 := blk_frozen BK118.out 3))
 refine bodyPost_ret (results_cell_row rfl _ _ gb118 26 #[.slice Ao7 y122.length co7, .int .i64 9, .int .i64 0, .int .i64 0] (0, 0) _ rfl (by (with_reducible repeat (first | refine blk_drewN ?_ _ | refine blk_drew ?_ | refine blk_alloc ?_ _)); refine blk_put (cs := #[.slice Ao7 y122.length co7, .int .i64 9, .int .i64 0, .int .i64 0]) ?_ 3 _ (by first | rfl | (simp only [w64_PTr7]; rfl) | (simp [w64_PTr7]; done)); (with_reducible repeat (first | refine blk_drewN ?_ _ | refine blk_drew ?_ | refine blk_alloc ?_ _)); refine blk_put (cs := #[.slice Ao7 y122.length co7, .int .i64 9, .int .i64 0, .int .i64 0]) ?_ 2 _ (by first | rfl | (simp only [w64_PTr7]; rfl) | (simp [w64_PTr7]; done)); (with_reducible repeat (first | refine blk_drewN ?_ _ | refine blk_drew ?_ | refine blk_alloc ?_ _)); refine blk_put (cs := #[.slice Ao7 y122.length co7, .int .i64 0, .int .i64 0, .int .i64 0]) ?_ 1 _ (by first | rfl | (simp only [w64_PTr7]; rfl) | (simp [w64_PTr7]; done)); (with_reducible repeat (first | refine blk_drewN ?_ _ | refine blk_drew ?_ | refine blk_alloc ?_ _)); refine blk_put (cs := #[.slice none 0 0, .int .i64 0, .int .i64 0, .int .i64 0]) ?_ 0 _ (by first | rfl | (simp only [w64_PTr7]; rfl) | (simp [w64_PTr7]; done)); (with_reducible repeat (first | refine blk_drewN ?_ _ | refine blk_drew ?_ | refine blk_alloc ?_ _)); exact BK118.out) Tryd.underlying26 rfl (by kernel_rfl)) rfl ?_
 exact ⟨_, by first | rfl | (simp [errW_none, errW_some] <;> rfl) | (simp [*, errW_none, errW_some] <;> rfl), by (with_reducible repeat (first | apply Kd.N_alloc | apply Kd.N_drewN | apply Kd.N_drew)); exact Kd.N_mono (Kd.N_far (p := ⟨gb118, 3, none⟩) (Kd.N_far (p := ⟨gb118, 2, none⟩) (Kd.N_far (p := ⟨gb118, 1, none⟩) (Kd.N_far (p := ⟨gb118, 0, none⟩) (Kd.N_mono HO124.out (fun k_ hk => (⟨hk, hk.2⟩ : _ ∧ k_ ≠ gb118))) (fun _ hk => hk.2) (.slice Ao7 y122.length co7)) (fun _ hk => hk.2) (.int .i64 9)) (fun _ hk => hk.2) (.int .i64 0)) (fun _ hk => hk.2) (.int .i64 0)) (fun _ hk => hk.1.1), by repeat (first | (with_reducible first | exact HB.out | apply below_alloc | apply pw_below_drewN | apply below_drew1 | refine below_set ?_ GE118.out) | exact HB.out)⟩
end Go.Proofs.YtnpnablnnfekkaaDoor.PTr
set_option linter.unusedVariables false
set_option linter.unusedSimpArgs false
namespace Go.Proofs.YtnpnablnnfekkaaDoor.PTr
open Go.RowKit Go.Proofs.YtnpnablnnfekkaaDoor Go.Proofs.YtnpnablnnfekkaaDoorW.PrintWords Go.Proofs.YtnpnablnnfekkaaDoorW.PrintLast Go.Proofs.YtnpnablnnfekkaaDoorW.PrintMore
def newL : List Nod := [⟨1, 1, 493, 0, 0, (⟨#[]⟩ : ByteArray), []⟩]
def twoL : List Nod := [⟨1, 1, 0, 0, 0, (⟨#[]⟩ : ByteArray), [⟨(⟨#[97]⟩ : ByteArray), 5⟩, ⟨(⟨#[98]⟩ : ByteArray), 5⟩]⟩, ⟨5, 2, 0, 0, 0, (⟨#[]⟩ : ByteArray), []⟩]
def canL : List Nod := [⟨1, 1, 0, 0, 0, (⟨#[]⟩ : ByteArray), [⟨(⟨#[97]⟩ : ByteArray), 2⟩, ⟨(⟨#[98]⟩ : ByteArray), 2⟩]⟩, ⟨2, 2, 0, 0, 0, (⟨#[]⟩ : ByteArray), []⟩]
theorem aw_usage : tree_Usage.f 9 newL 1 0 0 = some (1, 0) := by kernel_rfl
theorem aw_links : tree_Links.f 9 twoL 9 0 0 5 = some 2 := by kernel_rfl
theorem aw_path : tree_Path.f twoL 9 0 0 5 = some ((⟨#[47, 97]⟩ : ByteArray), true) := by kernel_rfl
theorem aw_canon : tree_Canon.f twoL 9 0 0 = some (canL, 2, 0, 0, 0) := by kernel_rfl
structure ASt (w0 w : World) (g : Nat) (v : Value) : Prop where
 hb : Below w0.heap.size w0 w
 b : w.heap[g]? = some (.cells #[v, .int .i64 2, .int .i64 0, .int .i64 0] 26 (0, 0))
 s : Kd.S k44 44 w w0.heap.size (fun _ => True) v canL
theorem ASt.below {w0 w w' : World} {g : Nat} {v : Value} (h : ASt w0 w g v) (hb : Below w.heap.size w w') : ASt w0 w' g v := ⟨below_step h.hb hb, blk_below h.b hb, Kd.S_below h.s hb⟩
theorem ASt.init {w0 w w1 : World} {g : Nat} {v : Value} (hb : Below w0.heap.size w0 w) (hs : Kd.S k44 44 w w0.heap.size (fun _ => True) v canL) (hg : g = w.heap.size) (hw : Below w.heap.size w w1) (hx : w1.heap[g]? = some (.cells zT 26 (0, 0))) :
  ASt w0 ((((w1.setCell ⟨g, 0, none⟩ v).setCell ⟨g, 1, none⟩ (.int .i64 2)).setCell ⟨g, 2, none⟩ (.int .i64 0)).setCell ⟨g, 3, none⟩ (.int .i64 0)) g v := by
 have e : w0.heap.size ≤ g := by rw [hg]; exact below_size hb
 have b0 : w1.heap[g]? = some (.cells #[.slice none 0 0, .int .i64 0, .int .i64 0, .int .i64 0] 26 (0, 0)) := hx
 exact ⟨below_set (below_set (below_set (below_set (below_step hb hw) e) e) e) e, put4 b0 _ _ _ _, put4S (Kd.S_below hs hw) b0 _ _ _ _⟩
set_option maxHeartbeats 2000000 in
set_option maxRecDepth 100000 in
theorem awake_any (w : World) : Calls Tryd.prog 16 #[] w fun e w' => e = .returned (.bool true) ∧ Below w.heap.size w w' := by
 have hu24 := Tryd.underlying24
 have hu26 := Tryd.underlying26
 go_enter Tryd.func16, Tryd.ntmps16
 go_upto_region 4 with (first | (go_at_call 20; (with_reducible refine (tree_New.calls 0 0 newL 1 0 0 _ rfl).mono ?_); rintro e w1 ⟨v1, rfl, hs, hb⟩; obtain ⟨A1, c1, e1, hc1, hC1⟩ := Kd.S_reads hs; subst e1; have HB1 := Lib.hid hb; have HC := Lib.hid (And.intro hC1 hc1); clear hs hb hC1 hc1) | (go_at_call 30; (with_reducible refine (tree_Usage.calls 9 _ _ newL 1 0 0 1 0 _ HC.out.1 HC.out.2 aw_usage).mono ?_); rintro e w2 ⟨rfl, hb⟩; have HB := Lib.hid (below_step HB1.out hb); clear hb HC HB1) | (go_at_call 57; (with_reducible refine (rehearsallaw04_two.calls twoL 9 0 0 _ rfl).mono ?_); rintro e w3 ⟨v3, rfl, hs, hb⟩; obtain ⟨A3, c3, e3, hc3, hC3⟩ := Kd.N_reads hs; subst e3; have HB3 := Lib.hid (below_step HB.out hb); clear HB; have HB := HB3; have HC := Lib.hid (And.intro hC3 hc3); clear hs hb hC3 hc3 HB3) | (go_at_call 22; (with_reducible refine (tree_Path.calls _ _ twoL 9 0 0 5 _ _ _ HC.out.1 HC.out.2 aw_path).mono ?_); rintro e w4 ⟨rfl, hb⟩; have HB3 := Lib.hid (below_step HB.out hb); clear HB; have HB := HB3; clear HB3 HC hb) | (go_at_call 24; (with_reducible refine (tree_Canon.calls _ _ twoL 9 0 0 canL 2 0 0 0 _ HC.out.1 HC.out.2 aw_canon).mono ?_); rintro e w5 ⟨v5, rfl, hs, hb⟩; obtain ⟨A5, c5, e5, _, _⟩ := Kd.S_reads hs; subst e5; have HS := Lib.hid (Kd.S_lower hs (below_size HB.out)); have HB3 := Lib.hid (below_step HB.out hb); clear HB; have HB := HB3; clear HB3 HC hb hs) | ((with_reducible refine gate_dst (N := 5) rfl ?_); refine box_event ?hg (N := 5) ?hd (cs := zT) (t := 26) ?hr ?_; (case hd => rfl); (case hg => rfl); (case hr => first | (go_simp; done) | (go_simp; rfl)); intro g hg w6 hbox hb; have AS := Lib.hid (ASt.init HB.out HS.out hg hb hbox); have k0 : w6.cell? ⟨g, 0, none⟩ = some (.slice none 0 0) := (blk_cell hbox 0).trans rfl; have k1 : w6.cell? ⟨g, 1, none⟩ = some (.int .i64 0) := (blk_cell hbox 1).trans rfl; have k2 : w6.cell? ⟨g, 2, none⟩ = some (.int .i64 0) := (blk_cell hbox 2).trans rfl; have k3 : w6.cell? ⟨g, 3, none⟩ = some (.int .i64 0) := (blk_cell hbox 3).trans rfl; have f0 := blk_frozen hbox 0; have f1 := blk_frozen hbox 1; have f2 := blk_frozen hbox 2; have f3 := blk_frozen hbox 3; clear hbox hb hg HB HS))
 (try simp only [Act.put, List.setIfInBounds_toArray, List.set_cons_zero, List.set_cons_succ])
 clear k0 k1 k2 k3 f0 f1 f2 f3
 generalize (((w6.setCell _ _).setCell _ _).setCell _ _).setCell _ _ = w7 at AS ⊢
 go_wp2_with (first | (go_at_call 57; (with_reducible refine (rehearsallaw04_two.calls twoL 9 0 0 _ rfl).mono ?_); rintro e w8 ⟨v3, rfl, hs, hb⟩; obtain ⟨A3, c3, e3, hc3, hC3⟩ := Kd.N_reads hs; subst e3; have AS2 := Lib.hid (AS.out.below hb); clear AS; have HC := Lib.hid (And.intro hC3 hc3); clear hs hb hC3 hc3) | (go_at_call 33; (with_reducible refine (tree_Links.calls 9 _ _ twoL 9 0 0 5 2 _ HC.out.1 HC.out.2 aw_links).mono ?_); rintro e w9 ⟨rfl, hb⟩; have AS3 := Lib.hid (AS2.out.below hb); clear AS2 HC hb; obtain ⟨A5_, c5_, e5_, hl5, hC5⟩ := Kd.S_reads AS3.out.s; obtain ⟨ad1, Aa, ca, ea1, x10, x11, x12, x13, x14, x15, x16, hl1, hi1⟩ := at_T44 hC5 1 (by decide) (by decide); obtain ⟨ad0, A6, c6, ea0, x00, x01, x02, x03, x04, x05, x06, hl0, hi0⟩ := at_T44 hC5 0 (by decide) (by decide); obtain ⟨ade, eae, y0, y1⟩ := at_T61 hi0 1 (by decide) (by decide); cases eae; cases ea0; cases ea1; cases e5_; have z0 : w9.cell? ⟨g, 0, none⟩ = some (.slice (some ad1) 2 c5) := (blk_cell AS3.out.b 0).trans rfl; rw [show (rd_T44 canL 1).f0 = 2 from rfl] at x10; rw [show (rd_T44 canL 0).f6.length = 2 from rfl] at x06; rw [show (rd_T61 (rd_T44 canL 0).f6 1).f1 = 2 from rfl] at y1; simp only [show (1 : Int).toNat = 1 from rfl, show (0 : Int).toNat = 0 from rfl, Nat.reduceMul, Nat.reduceEqDiff, Go.Addr.add, ↓reduceIte] at x10 x06 y1; clear y0 x00 x01 x02 x03 x04 x05 x11 x12 x13 x14 x15 x16 hl1 hi1 hl0 hi0 hC5 hl5))
 go_ret
 exact ⟨rfl, AS3.out.hb⟩
end Go.Proofs.YtnpnablnnfekkaaDoor.PTr
set_option linter.unusedVariables false
namespace Go.Proofs.YtnpnablnnfekkaaDoor.PTr
open Go.RowKit Go.Proofs.YtnpnablnnfekkaaDoor Go.Proofs.YtnpnablnnfekkaaDoorW.PrintWords
def rehearsallaw04_awake.f (k : Nat) : Option Bool := some true
theorem rehearsallaw04_awake.calls (k : Nat) (r : Bool) (w : World) (h : rehearsallaw04_awake.f k = some r) : Calls Tryd.prog 16 #[] w fun e w' => e = .returned (.bool r) ∧ Below w.heap.size w w' := by
 cases h
 exact awake_any w
end Go.Proofs.YtnpnablnnfekkaaDoor.PTr
namespace Go.Proofs.YtnpnablnnfekkaaDoor.PTr
open Go.RowKit Go.Proofs.YtnpnablnnfekkaaDoorW.PrintWords Go.Proofs.YtnpnablnnfekkaaDoorW.PrintLast Go.Proofs.YtnpnablnnfekkaaDoorW.PrintMore
attribute [local go_sem] max2_int min2_int max_two min_two max_three min_three max_four min_four   -- for this text's walks alone
set_option linter.unusedVariables false
set_option linter.unusedSimpArgs false
theorem eqA24 (d : Nat) (w : World) (x0 y0 : Int) (x1 y1 : Int) :
  (Op.equalIn (d + 2) 24 (.agg #[.int .i64 x0, .int .i64 x1]) (.agg #[.int .i64 y0, .int .i64 y1])).run Tryd.prog w = .ok (x0 == y0 && (x1 == y1)) w := by
 refine eqA_of Tryd.underlying24 (by kernel_rfl) ?_
 refine eqf_cons (by rfl) (by go_simp; rfl) (by go_simp; rfl) (by go_simp) ?_
 exact eqf_last (by rfl) (by go_simp; rfl) (by go_simp; rfl) (by go_simp)
end Go.Proofs.YtnpnablnnfekkaaDoor.PTr
namespace Go.Proofs.YtnpnablnnfekkaaDoor.PTr
open Go.RowKit Go.Proofs.YtnpnablnnfekkaaDoorW.PrintWords Go.Proofs.YtnpnablnnfekkaaDoorW.PrintLast Go.Proofs.YtnpnablnnfekkaaDoorW.PrintMore
attribute [local go_sem] max2_int min2_int max_two min_two max_three min_three max_four min_four   -- for this text's walks alone
set_option linter.unusedVariables false
set_option linter.unusedSimpArgs false
theorem eqA61 (d : Nat) (w : World) (x0 y0 : ByteArray) (x1 y1 : Int) :
  (Op.equalIn (d + 2) 61 (.agg #[.string x0, .int .i64 x1]) (.agg #[.string y0, .int .i64 y1])).run Tryd.prog w = .ok (x0.toList == y0.toList && (x1 == y1)) w := by
 refine eqA_of Tryd.underlying61 (by kernel_rfl) ?_
 refine eqf_cons (by rfl) (by go_simp; rfl) (by go_simp; rfl) (by go_simp) ?_
 exact eqf_last (by rfl) (by go_simp; rfl) (by go_simp; rfl) (by go_simp)
end Go.Proofs.YtnpnablnnfekkaaDoor.PTr
namespace Go.Proofs.YtnpnablnnfekkaaDoor.PTr
open Go.RowKit Go.Proofs.YtnpnablnnfekkaaDoorW.PrintWords Go.Proofs.YtnpnablnnfekkaaDoorW.PrintLast Go.Proofs.YtnpnablnnfekkaaDoorW.PrintMore
attribute [local go_sem] max2_int min2_int max_two min_two max_three min_three max_four min_four   -- for this text's walks alone
set_option linter.unusedVariables false
set_option linter.unusedSimpArgs false
attribute [local go_sem high] eqA61
mutual
def rehearsalref04_SameNode.j0 : Nat → Bool → Int → Int → Int → Int → Int → ByteArray → List (S61) → Int → Int → Int → Int → Int → ByteArray → List (S61) → Option (Bool)
 | 0, _, _, _, _, _, _, _, _, _, _, _, _, _, _, _ => none
 | k + 1, x54, x214000, x214001, x214002, x214003, x214004, x214005, x214006, x215000, x215001, x215002, x215003, x215004, x215005, x215006 => if x54 = true then (some false) else (rehearsalref04_SameNode.l0 k 0 x214000 x214001 x214002 x214003 x214004 x214005 x214006 x215000 x215001 x215002 x215003 x215004 x215005 x215006)
def rehearsalref04_SameNode.l0 : Nat → Int → Int → Int → Int → Int → Int → ByteArray → List (S61) → Int → Int → Int → Int → Int → ByteArray → List (S61) → Option (Bool)
 | 0, _, _, _, _, _, _, _, _, _, _, _, _, _, _, _ => none
 | k + 1, x5, x214000, x214001, x214002, x214003, x214004, x214005, x214006, x215000, x215001, x215002, x215003, x215004, x215005, x215006 => if x5 < (x214006.length : Int) then (if 0 ≤ x5 then (if x5 < (x215006.length : Int) then (if (!((((rd_T61 x214006 x5).f0).toList) == (((rd_T61 x215006 x5).f0).toList)) || (!(((rd_T61 x214006 x5).f1) == ((rd_T61 x215006 x5).f1)))) = true then (some false) else (rehearsalref04_SameNode.l0 k (wrap64 (x5 + 1)) x214000 x214001 x214002 x214003 x214004 x214005 x214006 x215000 x215001 x215002 x215003 x215004 x215005 x215006)) else (none)) else (none)) else (some true)
end
def rehearsalref04_SameNode.f (k : Nat) (a0_0 : Int) (a0_1 : Int) (a0_2 : Int) (a0_3 : Int) (a0_4 : Int) (a0_5 : ByteArray) (l0_6 : List (S61)) (a1_0 : Int) (a1_1 : Int) (a1_2 : Int) (a1_3 : Int) (a1_4 : Int) (a1_5 : ByteArray) (l1_6 : List (S61)) : Option (Bool) := if a0_0 = a1_0 then (if a0_1 = a1_1 then (if a0_2 = a1_2 then (if a0_3 = a1_3 then (if a0_4 = a1_4 then (if a0_5.toList = a1_5.toList then (rehearsalref04_SameNode.j0 k ((l0_6.length : Int) != (l1_6.length : Int)) a0_0 a0_1 a0_2 a0_3 a0_4 a0_5 l0_6 a1_0 a1_1 a1_2 a1_3 a1_4 a1_5 l1_6) else (rehearsalref04_SameNode.j0 k true a0_0 a0_1 a0_2 a0_3 a0_4 a0_5 l0_6 a1_0 a1_1 a1_2 a1_3 a1_4 a1_5 l1_6)) else (rehearsalref04_SameNode.j0 k true a0_0 a0_1 a0_2 a0_3 a0_4 a0_5 l0_6 a1_0 a1_1 a1_2 a1_3 a1_4 a1_5 l1_6)) else (rehearsalref04_SameNode.j0 k true a0_0 a0_1 a0_2 a0_3 a0_4 a0_5 l0_6 a1_0 a1_1 a1_2 a1_3 a1_4 a1_5 l1_6)) else (rehearsalref04_SameNode.j0 k true a0_0 a0_1 a0_2 a0_3 a0_4 a0_5 l0_6 a1_0 a1_1 a1_2 a1_3 a1_4 a1_5 l1_6)) else (rehearsalref04_SameNode.j0 k true a0_0 a0_1 a0_2 a0_3 a0_4 a0_5 l0_6 a1_0 a1_1 a1_2 a1_3 a1_4 a1_5 l1_6)) else (rehearsalref04_SameNode.j0 k true a0_0 a0_1 a0_2 a0_3 a0_4 a0_5 l0_6 a1_0 a1_1 a1_2 a1_3 a1_4 a1_5 l1_6)
set_option maxHeartbeats 8000000 in
set_option maxRecDepth 100000 in
theorem rehearsalref04_SameNode.calls (k : Nat) (a0_0 : Int) (a0_1 : Int) (a0_2 : Int) (a0_3 : Int) (a0_4 : Int) (a0_5 : ByteArray) (A0_6 : Option Addr) (c0_6 : Nat) (l0_6 : List (S61)) (a1_0 : Int) (a1_1 : Int) (a1_2 : Int) (a1_3 : Int) (a1_4 : Int) (a1_5 : ByteArray) (A1_6 : Option Addr) (c1_6 : Nat) (l1_6 : List (S61)) (r : Bool) (w : World) (hr0_6 : Kd.C k61 w A0_6 l0_6.length l0_6) (hc0_6 : l0_6.length ≤ c0_6) (hr1_6 : Kd.C k61 w A1_6 l1_6.length l1_6) (hc1_6 : l1_6.length ≤ c1_6) (h : rehearsalref04_SameNode.f k a0_0 a0_1 a0_2 a0_3 a0_4 a0_5 l0_6 a1_0 a1_1 a1_2 a1_3 a1_4 a1_5 l1_6 = some r) :
  Calls Tryd.prog 32 #[.agg #[.int .i64 a0_0, .int .i64 a0_1, .int .i64 a0_2, .int .i64 a0_3, .int .i64 a0_4, .string a0_5, .slice A0_6 l0_6.length c0_6], .agg #[.int .i64 a1_0, .int .i64 a1_1, .int .i64 a1_2, .int .i64 a1_3, .int .i64 a1_4, .string a1_5, .slice A1_6 l1_6.length c1_6]] w fun e w' => e = .returned (.bool r) ∧ Below w.heap.size w w' := by
 have hu44 := Tryd.underlying44
 have hu61 := Tryd.underlying61
 have HR0_6 := Aside0.mk hr0_6
 have HC0_6 := Aside0.mk hc0_6
 clear hr0_6 hc0_6
 have HR1_6 := Aside0.mk hr1_6
 have HC1_6 := Aside0.mk hc1_6
 clear hr1_6 hc1_6
 have HB := Aside0.mk (Below.refl w.heap.size w)
 have H : (if a0_0 = a1_0 then (if a0_1 = a1_1 then (if a0_2 = a1_2 then (if a0_3 = a1_3 then (if a0_4 = a1_4 then (if a0_5.toList = a1_5.toList then (rehearsalref04_SameNode.j0 k ((l0_6.length : Int) != (l1_6.length : Int)) a0_0 a0_1 a0_2 a0_3 a0_4 a0_5 l0_6 a1_0 a1_1 a1_2 a1_3 a1_4 a1_5 l1_6) else (rehearsalref04_SameNode.j0 k true a0_0 a0_1 a0_2 a0_3 a0_4 a0_5 l0_6 a1_0 a1_1 a1_2 a1_3 a1_4 a1_5 l1_6)) else (rehearsalref04_SameNode.j0 k true a0_0 a0_1 a0_2 a0_3 a0_4 a0_5 l0_6 a1_0 a1_1 a1_2 a1_3 a1_4 a1_5 l1_6)) else (rehearsalref04_SameNode.j0 k true a0_0 a0_1 a0_2 a0_3 a0_4 a0_5 l0_6 a1_0 a1_1 a1_2 a1_3 a1_4 a1_5 l1_6)) else (rehearsalref04_SameNode.j0 k true a0_0 a0_1 a0_2 a0_3 a0_4 a0_5 l0_6 a1_0 a1_1 a1_2 a1_3 a1_4 a1_5 l1_6)) else (rehearsalref04_SameNode.j0 k true a0_0 a0_1 a0_2 a0_3 a0_4 a0_5 l0_6 a1_0 a1_1 a1_2 a1_3 a1_4 a1_5 l1_6)) else (rehearsalref04_SameNode.j0 k true a0_0 a0_1 a0_2 a0_3 a0_4 a0_5 l0_6 a1_0 a1_1 a1_2 a1_3 a1_4 a1_5 l1_6)) = some r := h
 clear h
 have HC3 := Aside0.mk H
 clear H
 go_enter Tryd.func32, Tryd.ntmps32
 go_upto_region 1 with (first | ((with_reducible refine gate_dst (N := 2) rfl ?_); (try (refine gate_guard (by rfl) ?_; dsimp only)); refine box_event ?hg (N := 2) ?hd (cs := #[.int .i64 a0_0, .int .i64 a0_1, .int .i64 a0_2, .int .i64 a0_3, .int .i64 a0_4, .string a0_5, .slice A0_6 l0_6.length c0_6]) (t := 44) ?hr ?_; (case hd => rfl); (case hg => rfl); (case hr => first | (go_simp; done) | (go_simp; rfl)); intro gb213 hg w4 hbox hb; have n0_ := Aside0.mk (below_step (by repeat (first | (with_reducible first | exact HB.out | apply below_alloc | apply pw_below_drewN | apply below_drew1) | exact HB.out)) hb); have n1_ := Aside0.mk (hbox); have n2_ := Aside0.mk ((by rw [hg]; exact (below_size (by repeat (first | (with_reducible first | exact HB.out | apply below_alloc | apply pw_below_drewN | apply below_drew1) | exact HB.out))) : w.heap.size ≤ gb213)); have n3_ := Aside0.mk ((by rw [hg]; exact (below_size (by repeat (first | (with_reducible first | exact HB.out | apply below_alloc | apply pw_below_drewN | apply below_drew1) | exact HB.out))) : w.heap.size ≤ gb213)); clear HB; have HB := n0_; have BK213 := n1_; have GW213 := n2_; have GE213 := n3_; clear n0_ n1_ n2_ n3_; clear hb hbox hg) | ((with_reducible refine gate_dst (N := 3) rfl ?_); (try (refine gate_guard (by rfl) ?_; dsimp only)); refine box_event ?hg (N := 3) ?hd (cs := #[.int .i64 a1_0, .int .i64 a1_1, .int .i64 a1_2, .int .i64 a1_3, .int .i64 a1_4, .string a1_5, .slice A1_6 l1_6.length c1_6]) (t := 44) ?hr ?_; (case hd => rfl); (case hg => rfl); (case hr => first | (go_simp; done) | (go_simp; rfl)); intro gb214 hg w5 hbox hb; have n0_ := Aside0.mk (blk_below (g := gb213) (o := .cells #[.int .i64 a0_0, .int .i64 a0_1, .int .i64 a0_2, .int .i64 a0_3, .int .i64 a0_4, .string a0_5, .slice A0_6 l0_6.length c0_6] 44 (0, 0)) (by (with_reducible repeat (first | refine blk_drewN ?_ _ | refine blk_drew ?_ | refine blk_alloc ?_ _)); exact BK213.out) hb); have n1_ := Aside0.mk (below_step (by repeat (first | (with_reducible first | exact HB.out | apply below_alloc | apply pw_below_drewN | apply below_drew1 | refine below_set ?_ GE213.out) | exact HB.out)) hb); have n2_ := Aside0.mk (hbox); have n3_ := Aside0.mk ((by rw [hg]; exact (below_size (by repeat (first | (with_reducible first | exact HB.out | apply below_alloc | apply pw_below_drewN | apply below_drew1 | refine below_set ?_ GE213.out) | exact HB.out))) : w.heap.size ≤ gb214)); have n4_ := Aside0.mk ((by rw [hg]; exact (below_size (by repeat (first | (with_reducible first | exact HB.out | apply below_alloc | apply pw_below_drewN | apply below_drew1 | refine below_set ?_ GE213.out) | exact HB.out))) : w.heap.size ≤ gb214)); have n5_ := Aside0.mk ((by rw [hg]; exact Nat.ne_of_lt (blk_lt (g := gb213) (o := .cells #[.int .i64 a0_0, .int .i64 a0_1, .int .i64 a0_2, .int .i64 a0_3, .int .i64 a0_4, .string a0_5, .slice A0_6 l0_6.length c0_6] 44 (0, 0)) (by (with_reducible repeat (first | refine blk_drewN ?_ _ | refine blk_drew ?_ | refine blk_alloc ?_ _)); exact BK213.out)) : gb213 ≠ gb214)); have n6_ := Aside0.mk ((by rw [hg]; exact Nat.ne_of_gt (blk_lt (g := gb213) (o := .cells #[.int .i64 a0_0, .int .i64 a0_1, .int .i64 a0_2, .int .i64 a0_3, .int .i64 a0_4, .string a0_5, .slice A0_6 l0_6.length c0_6] 44 (0, 0)) (by (with_reducible repeat (first | refine blk_drewN ?_ _ | refine blk_drew ?_ | refine blk_alloc ?_ _)); exact BK213.out)) : gb214 ≠ gb213)); clear BK213; clear HB; have BK213 := n0_; have HB := n1_; have BK214 := n2_; have GW214 := n3_; have GE214 := n4_; have NB213_214 := n5_; have NB214_213 := n6_; clear n0_ n1_ n2_ n3_ n4_ n5_ n6_; clear hb hbox hg))
 repeat (go_quiet (first | ((with_reducible refine gate_dst (N := 2) rfl ?_); (try (refine gate_guard (by rfl) ?_; dsimp only)); refine box_event ?hg (N := 2) ?hd (cs := #[.int .i64 a0_0, .int .i64 a0_1, .int .i64 a0_2, .int .i64 a0_3, .int .i64 a0_4, .string a0_5, .slice A0_6 l0_6.length c0_6]) (t := 44) ?hr ?_; (case hd => rfl); (case hg => rfl); (case hr => first | (go_simp; done) | (go_simp; rfl)); intro gb213 hg w4 hbox hb; have n0_ := Aside0.mk (below_step (by repeat (first | (with_reducible first | exact HB.out | apply below_alloc | apply pw_below_drewN | apply below_drew1) | exact HB.out)) hb); have n1_ := Aside0.mk (hbox); have n2_ := Aside0.mk ((by rw [hg]; exact (below_size (by repeat (first | (with_reducible first | exact HB.out | apply below_alloc | apply pw_below_drewN | apply below_drew1) | exact HB.out))) : w.heap.size ≤ gb213)); have n3_ := Aside0.mk ((by rw [hg]; exact (below_size (by repeat (first | (with_reducible first | exact HB.out | apply below_alloc | apply pw_below_drewN | apply below_drew1) | exact HB.out))) : w.heap.size ≤ gb213)); clear HB; have HB := n0_; have BK213 := n1_; have GW213 := n2_; have GE213 := n3_; clear n0_ n1_ n2_ n3_; clear hb hbox hg) | ((with_reducible refine gate_dst (N := 3) rfl ?_); (try (refine gate_guard (by rfl) ?_; dsimp only)); refine box_event ?hg (N := 3) ?hd (cs := #[.int .i64 a1_0, .int .i64 a1_1, .int .i64 a1_2, .int .i64 a1_3, .int .i64 a1_4, .string a1_5, .slice A1_6 l1_6.length c1_6]) (t := 44) ?hr ?_; (case hd => rfl); (case hg => rfl); (case hr => first | (go_simp; done) | (go_simp; rfl)); intro gb214 hg w5 hbox hb; have n0_ := Aside0.mk (blk_below (g := gb213) (o := .cells #[.int .i64 a0_0, .int .i64 a0_1, .int .i64 a0_2, .int .i64 a0_3, .int .i64 a0_4, .string a0_5, .slice A0_6 l0_6.length c0_6] 44 (0, 0)) (by (with_reducible repeat (first | refine blk_drewN ?_ _ | refine blk_drew ?_ | refine blk_alloc ?_ _)); exact BK213.out) hb); have n1_ := Aside0.mk (below_step (by repeat (first | (with_reducible first | exact HB.out | apply below_alloc | apply pw_below_drewN | apply below_drew1 | refine below_set ?_ GE213.out) | exact HB.out)) hb); have n2_ := Aside0.mk (hbox); have n3_ := Aside0.mk ((by rw [hg]; exact (below_size (by repeat (first | (with_reducible first | exact HB.out | apply below_alloc | apply pw_below_drewN | apply below_drew1 | refine below_set ?_ GE213.out) | exact HB.out))) : w.heap.size ≤ gb214)); have n4_ := Aside0.mk ((by rw [hg]; exact (below_size (by repeat (first | (with_reducible first | exact HB.out | apply below_alloc | apply pw_below_drewN | apply below_drew1 | refine below_set ?_ GE213.out) | exact HB.out))) : w.heap.size ≤ gb214)); have n5_ := Aside0.mk ((by rw [hg]; exact Nat.ne_of_lt (blk_lt (g := gb213) (o := .cells #[.int .i64 a0_0, .int .i64 a0_1, .int .i64 a0_2, .int .i64 a0_3, .int .i64 a0_4, .string a0_5, .slice A0_6 l0_6.length c0_6] 44 (0, 0)) (by (with_reducible repeat (first | refine blk_drewN ?_ _ | refine blk_drew ?_ | refine blk_alloc ?_ _)); exact BK213.out)) : gb213 ≠ gb214)); have n6_ := Aside0.mk ((by rw [hg]; exact Nat.ne_of_gt (blk_lt (g := gb213) (o := .cells #[.int .i64 a0_0, .int .i64 a0_1, .int .i64 a0_2, .int .i64 a0_3, .int .i64 a0_4, .string a0_5, .slice A0_6 l0_6.length c0_6] 44 (0, 0)) (by (with_reducible repeat (first | refine blk_drewN ?_ _ | refine blk_drew ?_ | refine blk_alloc ?_ _)); exact BK213.out)) : gb214 ≠ gb213)); clear BK213; clear HB; have BK213 := n0_; have HB := n1_; have BK214 := n2_; have GW214 := n3_; have GE214 := n4_; have NB213_214 := n5_; have NB214_213 := n6_; clear n0_ n1_ n2_ n3_ n4_ n5_ n6_; clear hb hbox hg)); go_upto_region 1 with (first | ((with_reducible refine gate_dst (N := 2) rfl ?_); (try (refine gate_guard (by rfl) ?_; dsimp only)); refine box_event ?hg (N := 2) ?hd (cs := #[.int .i64 a0_0, .int .i64 a0_1, .int .i64 a0_2, .int .i64 a0_3, .int .i64 a0_4, .string a0_5, .slice A0_6 l0_6.length c0_6]) (t := 44) ?hr ?_; (case hd => rfl); (case hg => rfl); (case hr => first | (go_simp; done) | (go_simp; rfl)); intro gb213 hg w4 hbox hb; have n0_ := Aside0.mk (below_step (by repeat (first | (with_reducible first | exact HB.out | apply below_alloc | apply pw_below_drewN | apply below_drew1) | exact HB.out)) hb); have n1_ := Aside0.mk (hbox); have n2_ := Aside0.mk ((by rw [hg]; exact (below_size (by repeat (first | (with_reducible first | exact HB.out | apply below_alloc | apply pw_below_drewN | apply below_drew1) | exact HB.out))) : w.heap.size ≤ gb213)); have n3_ := Aside0.mk ((by rw [hg]; exact (below_size (by repeat (first | (with_reducible first | exact HB.out | apply below_alloc | apply pw_below_drewN | apply below_drew1) | exact HB.out))) : w.heap.size ≤ gb213)); clear HB; have HB := n0_; have BK213 := n1_; have GW213 := n2_; have GE213 := n3_; clear n0_ n1_ n2_ n3_; clear hb hbox hg) | ((with_reducible refine gate_dst (N := 3) rfl ?_); (try (refine gate_guard (by rfl) ?_; dsimp only)); refine box_event ?hg (N := 3) ?hd (cs := #[.int .i64 a1_0, .int .i64 a1_1, .int .i64 a1_2, .int .i64 a1_3, .int .i64 a1_4, .string a1_5, .slice A1_6 l1_6.length c1_6]) (t := 44) ?hr ?_; (case hd => rfl); (case hg => rfl); (case hr => first | (go_simp; done) | (go_simp; rfl)); intro gb214 hg w5 hbox hb; have n0_ := Aside0.mk (blk_below (g := gb213) (o := .cells #[.int .i64 a0_0, .int .i64 a0_1, .int .i64 a0_2, .int .i64 a0_3, .int .i64 a0_4, .string a0_5, .slice A0_6 l0_6.length c0_6] 44 (0, 0)) (by (with_reducible repeat (first | refine blk_drewN ?_ _ | refine blk_drew ?_ | refine blk_alloc ?_ _)); exact BK213.out) hb); have n1_ := Aside0.mk (below_step (by repeat (first | (with_reducible first | exact HB.out | apply below_alloc | apply pw_below_drewN | apply below_drew1 | refine below_set ?_ GE213.out) | exact HB.out)) hb); have n2_ := Aside0.mk (hbox); have n3_ := Aside0.mk ((by rw [hg]; exact (below_size (by repeat (first | (with_reducible first | exact HB.out | apply below_alloc | apply pw_below_drewN | apply below_drew1 | refine below_set ?_ GE213.out) | exact HB.out))) : w.heap.size ≤ gb214)); have n4_ := Aside0.mk ((by rw [hg]; exact (below_size (by repeat (first | (with_reducible first | exact HB.out | apply below_alloc | apply pw_below_drewN | apply below_drew1 | refine below_set ?_ GE213.out) | exact HB.out))) : w.heap.size ≤ gb214)); have n5_ := Aside0.mk ((by rw [hg]; exact Nat.ne_of_lt (blk_lt (g := gb213) (o := .cells #[.int .i64 a0_0, .int .i64 a0_1, .int .i64 a0_2, .int .i64 a0_3, .int .i64 a0_4, .string a0_5, .slice A0_6 l0_6.length c0_6] 44 (0, 0)) (by (with_reducible repeat (first | refine blk_drewN ?_ _ | refine blk_drew ?_ | refine blk_alloc ?_ _)); exact BK213.out)) : gb213 ≠ gb214)); have n6_ := Aside0.mk ((by rw [hg]; exact Nat.ne_of_gt (blk_lt (g := gb213) (o := .cells #[.int .i64 a0_0, .int .i64 a0_1, .int .i64 a0_2, .int .i64 a0_3, .int .i64 a0_4, .string a0_5, .slice A0_6 l0_6.length c0_6] 44 (0, 0)) (by (with_reducible repeat (first | refine blk_drewN ?_ _ | refine blk_drew ?_ | refine blk_alloc ?_ _)); exact BK213.out)) : gb214 ≠ gb213)); clear BK213; clear HB; have BK213 := n0_; have HB := n1_; have BK214 := n2_; have GW214 := n3_; have GE214 := n4_; have NB213_214 := n5_; have NB214_213 := n6_; clear n0_ n1_ n2_ n3_ n4_ n5_ n6_; clear hb hbox hg)))
 (try simp only [Act.put, List.setIfInBounds_toArray, List.set_cons_zero, List.set_cons_succ])
 go_cut [54] (fun v54 wc => ∃ (kq : Nat) (x54_2 : Bool), v54 = .bool x54_2 ∧ Aside0 (rehearsalref04_SameNode.j0 kq x54_2 a0_0 a0_1 a0_2 a0_3 a0_4 a0_5 l0_6 a1_0 a1_1 a1_2 a1_3 a1_4 a1_5 l1_6 = some r) ∧ Aside0 (kq ≤ k) ∧ Aside0 (wc.heap[gb213]? = some (.cells #[.int .i64 a0_0, .int .i64 a0_1, .int .i64 a0_2, .int .i64 a0_3, .int .i64 a0_4, .string a0_5, (.slice A0_6 l0_6.length c0_6)] 44 (0, 0))) ∧ Aside0 (wc.heap[gb214]? = some (.cells #[.int .i64 a1_0, .int .i64 a1_1, .int .i64 a1_2, .int .i64 a1_3, .int .i64 a1_4, .string a1_5, (.slice A1_6 l1_6.length c1_6)] 44 (0, 0))) ∧ Aside0 (Below w.heap.size w wc))
 case first =>
  have H := HC3.out
  clear HC3
  by_cases c6 : a0_0 = a1_0
  ·
   rw [if_pos c6] at H
   have c6b0 : (a0_0 == a1_0) = true := beq_iff_eq.mpr c6
   have c6b1 : (a0_0 != a1_0) = false := bne_eq_false_iff_eq.mpr c6
   clear c6
   (first | rw [c6b0] | (simp only [i64_w, i32_w]; rw [c6b0]) | skip)
   by_cases c7 : a0_1 = a1_1
   ·
    rw [if_pos c7] at H
    have c7b0 : (a0_1 == a1_1) = true := beq_iff_eq.mpr c7
    have c7b1 : (a0_1 != a1_1) = false := bne_eq_false_iff_eq.mpr c7
    clear c7
    by_cases c8 : a0_2 = a1_2
    ·
     rw [if_pos c8] at H
     have c8b0 : (a0_2 == a1_2) = true := beq_iff_eq.mpr c8
     have c8b1 : (a0_2 != a1_2) = false := bne_eq_false_iff_eq.mpr c8
     clear c8
     by_cases c9 : a0_3 = a1_3
     ·
      rw [if_pos c9] at H
      have c9b0 : (a0_3 == a1_3) = true := beq_iff_eq.mpr c9
      have c9b1 : (a0_3 != a1_3) = false := bne_eq_false_iff_eq.mpr c9
      clear c9
      by_cases c10 : a0_4 = a1_4
      ·
       rw [if_pos c10] at H
       have c10b0 : (a0_4 == a1_4) = true := beq_iff_eq.mpr c10
       have c10b1 : (a0_4 != a1_4) = false := bne_eq_false_iff_eq.mpr c10
       clear c10
       by_cases c11 : a0_5.toList = a1_5.toList
       ·
        rw [if_pos c11] at H
        have c11b0 : (a0_5.toList == a1_5.toList) = true := beq_iff_eq.mpr c11
        have c11b1 : (a0_5.toList != a1_5.toList) = false := bne_eq_false_iff_eq.mpr c11
        clear c11
        have H' := Aside0.mk H
        clear H
        have hnb12 := NB213_214.out
        have hnc12 := NB214_213.out
        have hcz13_0 : w5.cell? ⟨gb213, 0, none⟩ = some (.int .i64 a0_0) := (blk_cell BK213.out 0).trans rfl
        have hcz13_1 : w5.cell? ⟨gb213, 1, none⟩ = some (.int .i64 a0_1) := (blk_cell BK213.out 1).trans rfl
        have hcz13_2 : w5.cell? ⟨gb213, 2, none⟩ = some (.int .i64 a0_2) := (blk_cell BK213.out 2).trans rfl
        have hcz13_3 : w5.cell? ⟨gb213, 3, none⟩ = some (.int .i64 a0_3) := (blk_cell BK213.out 3).trans rfl
        have hcz13_4 : w5.cell? ⟨gb213, 4, none⟩ = some (.int .i64 a0_4) := (blk_cell BK213.out 4).trans rfl
        have hcz13_5 : w5.cell? ⟨gb213, 5, none⟩ = some (.string a0_5) := (blk_cell BK213.out 5).trans rfl
        have hcz13_6 : w5.cell? ⟨gb213, 6, none⟩ = some (.slice A0_6 l0_6.length c0_6) := (blk_cell BK213.out 6).trans rfl
        have hfz13_0 := blk_frozen BK213.out 0
        have hfz13_1 := blk_frozen BK213.out 1
        have hfz13_2 := blk_frozen BK213.out 2
        have hfz13_3 := blk_frozen BK213.out 3
        have hfz13_4 := blk_frozen BK213.out 4
        have hfz13_5 := blk_frozen BK213.out 5
        have hfz13_6 := blk_frozen BK213.out 6
        have hcz14_0 : w5.cell? ⟨gb214, 0, none⟩ = some (.int .i64 a1_0) := (blk_cell BK214.out 0).trans rfl
        have hcz14_1 : w5.cell? ⟨gb214, 1, none⟩ = some (.int .i64 a1_1) := (blk_cell BK214.out 1).trans rfl
        have hcz14_2 : w5.cell? ⟨gb214, 2, none⟩ = some (.int .i64 a1_2) := (blk_cell BK214.out 2).trans rfl
        have hcz14_3 : w5.cell? ⟨gb214, 3, none⟩ = some (.int .i64 a1_3) := (blk_cell BK214.out 3).trans rfl
        have hcz14_4 : w5.cell? ⟨gb214, 4, none⟩ = some (.int .i64 a1_4) := (blk_cell BK214.out 4).trans rfl
        have hcz14_5 : w5.cell? ⟨gb214, 5, none⟩ = some (.string a1_5) := (blk_cell BK214.out 5).trans rfl
        have hcz14_6 : w5.cell? ⟨gb214, 6, none⟩ = some (.slice A1_6 l1_6.length c1_6) := (blk_cell BK214.out 6).trans rfl
        have hfz14_0 := blk_frozen BK214.out 0
        have hfz14_1 := blk_frozen BK214.out 1
        have hfz14_2 := blk_frozen BK214.out 2
        have hfz14_3 := blk_frozen BK214.out 3
        have hfz14_4 := blk_frozen BK214.out 4
        have hfz14_5 := blk_frozen BK214.out 5
        have hfz14_6 := blk_frozen BK214.out 6
        go_wp2
        repeat (go_quiet (fail); try go_wp2)
        go_meet
        case rel => exact ⟨_, (((l0_6.length : Int) != (l1_6.length : Int))), (by first | rfl | (simp; done) | (simp [*]; done)), H', ⟨by first | omega | exact Nat.le_refl _⟩, ⟨by (with_reducible repeat (first | refine blk_drewN ?_ _ | refine blk_drew ?_ | refine blk_alloc ?_ _)); exact BK213.out⟩, ⟨by (with_reducible repeat (first | refine blk_drewN ?_ _ | refine blk_drew ?_ | refine blk_alloc ?_ _)); exact BK214.out⟩, ⟨by repeat (first | (with_reducible first | exact HB.out | apply below_alloc | apply pw_below_drewN | apply below_drew1 | refine below_set ?_ GE213.out | refine below_set ?_ GE214.out) | exact HB.out)⟩⟩
       ·
        rw [if_neg c11] at H
        have c11b0 : (a0_5.toList == a1_5.toList) = false := beq_eq_false_iff_ne.mpr c11
        have c11b1 : (a0_5.toList != a1_5.toList) = true := bne_iff_ne.mpr c11
        have H' := Aside0.mk H
        clear H
        have hnb15 := NB213_214.out
        have hnc15 := NB214_213.out
        have hcz16_0 : w5.cell? ⟨gb213, 0, none⟩ = some (.int .i64 a0_0) := (blk_cell BK213.out 0).trans rfl
        have hcz16_1 : w5.cell? ⟨gb213, 1, none⟩ = some (.int .i64 a0_1) := (blk_cell BK213.out 1).trans rfl
        have hcz16_2 : w5.cell? ⟨gb213, 2, none⟩ = some (.int .i64 a0_2) := (blk_cell BK213.out 2).trans rfl
        have hcz16_3 : w5.cell? ⟨gb213, 3, none⟩ = some (.int .i64 a0_3) := (blk_cell BK213.out 3).trans rfl
        have hcz16_4 : w5.cell? ⟨gb213, 4, none⟩ = some (.int .i64 a0_4) := (blk_cell BK213.out 4).trans rfl
        have hcz16_5 : w5.cell? ⟨gb213, 5, none⟩ = some (.string a0_5) := (blk_cell BK213.out 5).trans rfl
        have hcz16_6 : w5.cell? ⟨gb213, 6, none⟩ = some (.slice A0_6 l0_6.length c0_6) := (blk_cell BK213.out 6).trans rfl
        have hfz16_0 := blk_frozen BK213.out 0
        have hfz16_1 := blk_frozen BK213.out 1
        have hfz16_2 := blk_frozen BK213.out 2
        have hfz16_3 := blk_frozen BK213.out 3
        have hfz16_4 := blk_frozen BK213.out 4
        have hfz16_5 := blk_frozen BK213.out 5
        have hfz16_6 := blk_frozen BK213.out 6
        have hcz17_0 : w5.cell? ⟨gb214, 0, none⟩ = some (.int .i64 a1_0) := (blk_cell BK214.out 0).trans rfl
        have hcz17_1 : w5.cell? ⟨gb214, 1, none⟩ = some (.int .i64 a1_1) := (blk_cell BK214.out 1).trans rfl
        have hcz17_2 : w5.cell? ⟨gb214, 2, none⟩ = some (.int .i64 a1_2) := (blk_cell BK214.out 2).trans rfl
        have hcz17_3 : w5.cell? ⟨gb214, 3, none⟩ = some (.int .i64 a1_3) := (blk_cell BK214.out 3).trans rfl
        have hcz17_4 : w5.cell? ⟨gb214, 4, none⟩ = some (.int .i64 a1_4) := (blk_cell BK214.out 4).trans rfl
        have hcz17_5 : w5.cell? ⟨gb214, 5, none⟩ = some (.string a1_5) := (blk_cell BK214.out 5).trans rfl
        have hcz17_6 : w5.cell? ⟨gb214, 6, none⟩ = some (.slice A1_6 l1_6.length c1_6) := (blk_cell BK214.out 6).trans rfl
        have hfz17_0 := blk_frozen BK214.out 0
        have hfz17_1 := blk_frozen BK214.out 1
        have hfz17_2 := blk_frozen BK214.out 2
        have hfz17_3 := blk_frozen BK214.out 3
        have hfz17_4 := blk_frozen BK214.out 4
        have hfz17_5 := blk_frozen BK214.out 5
        have hfz17_6 := blk_frozen BK214.out 6
        go_wp2
        repeat (go_quiet (fail); try go_wp2)
        go_meet
        case rel => exact ⟨_, (true), (by first | rfl | (simp; done) | (simp [*]; done)), H', ⟨by first | omega | exact Nat.le_refl _⟩, ⟨by (with_reducible repeat (first | refine blk_drewN ?_ _ | refine blk_drew ?_ | refine blk_alloc ?_ _)); exact BK213.out⟩, ⟨by (with_reducible repeat (first | refine blk_drewN ?_ _ | refine blk_drew ?_ | refine blk_alloc ?_ _)); exact BK214.out⟩, ⟨by repeat (first | (with_reducible first | exact HB.out | apply below_alloc | apply pw_below_drewN | apply below_drew1 | refine below_set ?_ GE213.out | refine below_set ?_ GE214.out) | exact HB.out)⟩⟩
      ·
       rw [if_neg c10] at H
       have c10b0 : (a0_4 == a1_4) = false := beq_eq_false_iff_ne.mpr c10
       have c10b1 : (a0_4 != a1_4) = true := bne_iff_ne.mpr c10
       have H' := Aside0.mk H
       clear H
       have hnb18 := NB213_214.out
       have hnc18 := NB214_213.out
       have hcz19_0 : w5.cell? ⟨gb213, 0, none⟩ = some (.int .i64 a0_0) := (blk_cell BK213.out 0).trans rfl
       have hcz19_1 : w5.cell? ⟨gb213, 1, none⟩ = some (.int .i64 a0_1) := (blk_cell BK213.out 1).trans rfl
       have hcz19_2 : w5.cell? ⟨gb213, 2, none⟩ = some (.int .i64 a0_2) := (blk_cell BK213.out 2).trans rfl
       have hcz19_3 : w5.cell? ⟨gb213, 3, none⟩ = some (.int .i64 a0_3) := (blk_cell BK213.out 3).trans rfl
       have hcz19_4 : w5.cell? ⟨gb213, 4, none⟩ = some (.int .i64 a0_4) := (blk_cell BK213.out 4).trans rfl
       have hcz19_5 : w5.cell? ⟨gb213, 5, none⟩ = some (.string a0_5) := (blk_cell BK213.out 5).trans rfl
       have hcz19_6 : w5.cell? ⟨gb213, 6, none⟩ = some (.slice A0_6 l0_6.length c0_6) := (blk_cell BK213.out 6).trans rfl
       have hfz19_0 := blk_frozen BK213.out 0
       have hfz19_1 := blk_frozen BK213.out 1
       have hfz19_2 := blk_frozen BK213.out 2
       have hfz19_3 := blk_frozen BK213.out 3
       have hfz19_4 := blk_frozen BK213.out 4
       have hfz19_5 := blk_frozen BK213.out 5
       have hfz19_6 := blk_frozen BK213.out 6
       have hcz20_0 : w5.cell? ⟨gb214, 0, none⟩ = some (.int .i64 a1_0) := (blk_cell BK214.out 0).trans rfl
       have hcz20_1 : w5.cell? ⟨gb214, 1, none⟩ = some (.int .i64 a1_1) := (blk_cell BK214.out 1).trans rfl
       have hcz20_2 : w5.cell? ⟨gb214, 2, none⟩ = some (.int .i64 a1_2) := (blk_cell BK214.out 2).trans rfl
       have hcz20_3 : w5.cell? ⟨gb214, 3, none⟩ = some (.int .i64 a1_3) := (blk_cell BK214.out 3).trans rfl
       have hcz20_4 : w5.cell? ⟨gb214, 4, none⟩ = some (.int .i64 a1_4) := (blk_cell BK214.out 4).trans rfl
       have hcz20_5 : w5.cell? ⟨gb214, 5, none⟩ = some (.string a1_5) := (blk_cell BK214.out 5).trans rfl
       have hcz20_6 : w5.cell? ⟨gb214, 6, none⟩ = some (.slice A1_6 l1_6.length c1_6) := (blk_cell BK214.out 6).trans rfl
       have hfz20_0 := blk_frozen BK214.out 0
       have hfz20_1 := blk_frozen BK214.out 1
       have hfz20_2 := blk_frozen BK214.out 2
       have hfz20_3 := blk_frozen BK214.out 3
       have hfz20_4 := blk_frozen BK214.out 4
       have hfz20_5 := blk_frozen BK214.out 5
       have hfz20_6 := blk_frozen BK214.out 6
       go_wp2
       repeat (go_quiet (fail); try go_wp2)
       go_meet
       case rel => exact ⟨_, (true), (by first | rfl | (simp; done) | (simp [*]; done)), H', ⟨by first | omega | exact Nat.le_refl _⟩, ⟨by (with_reducible repeat (first | refine blk_drewN ?_ _ | refine blk_drew ?_ | refine blk_alloc ?_ _)); exact BK213.out⟩, ⟨by (with_reducible repeat (first | refine blk_drewN ?_ _ | refine blk_drew ?_ | refine blk_alloc ?_ _)); exact BK214.out⟩, ⟨by repeat (first | (with_reducible first | exact HB.out | apply below_alloc | apply pw_below_drewN | apply below_drew1 | refine below_set ?_ GE213.out | refine below_set ?_ GE214.out) | exact HB.out)⟩⟩
     ·
      rw [if_neg c9] at H
      have c9b0 : (a0_3 == a1_3) = false := beq_eq_false_iff_ne.mpr c9
      have c9b1 : (a0_3 != a1_3) = true := bne_iff_ne.mpr c9
      have H' := Aside0.mk H
      clear H
      have hnb21 := NB213_214.out
      have hnc21 := NB214_213.out
      have hcz22_0 : w5.cell? ⟨gb213, 0, none⟩ = some (.int .i64 a0_0) := (blk_cell BK213.out 0).trans rfl
      have hcz22_1 : w5.cell? ⟨gb213, 1, none⟩ = some (.int .i64 a0_1) := (blk_cell BK213.out 1).trans rfl
      have hcz22_2 : w5.cell? ⟨gb213, 2, none⟩ = some (.int .i64 a0_2) := (blk_cell BK213.out 2).trans rfl
      have hcz22_3 : w5.cell? ⟨gb213, 3, none⟩ = some (.int .i64 a0_3) := (blk_cell BK213.out 3).trans rfl
      have hcz22_4 : w5.cell? ⟨gb213, 4, none⟩ = some (.int .i64 a0_4) := (blk_cell BK213.out 4).trans rfl
      have hcz22_5 : w5.cell? ⟨gb213, 5, none⟩ = some (.string a0_5) := (blk_cell BK213.out 5).trans rfl
      have hcz22_6 : w5.cell? ⟨gb213, 6, none⟩ = some (.slice A0_6 l0_6.length c0_6) := (blk_cell BK213.out 6).trans rfl
      have hfz22_0 := blk_frozen BK213.out 0
      have hfz22_1 := blk_frozen BK213.out 1
      have hfz22_2 := blk_frozen BK213.out 2
      have hfz22_3 := blk_frozen BK213.out 3
      have hfz22_4 := blk_frozen BK213.out 4
      have hfz22_5 := blk_frozen BK213.out 5
      have hfz22_6 := blk_frozen BK213.out 6
      have hcz23_0 : w5.cell? ⟨gb214, 0, none⟩ = some (.int .i64 a1_0) := (blk_cell BK214.out 0).trans rfl
      have hcz23_1 : w5.cell? ⟨gb214, 1, none⟩ = some (.int .i64 a1_1) := (blk_cell BK214.out 1).trans rfl
      have hcz23_2 : w5.cell? ⟨gb214, 2, none⟩ = some (.int .i64 a1_2) := (blk_cell BK214.out 2).trans rfl
      have hcz23_3 : w5.cell? ⟨gb214, 3, none⟩ = some (.int .i64 a1_3) := (blk_cell BK214.out 3).trans rfl
      have hcz23_4 : w5.cell? ⟨gb214, 4, none⟩ = some (.int .i64 a1_4) := (blk_cell BK214.out 4).trans rfl
      have hcz23_5 : w5.cell? ⟨gb214, 5, none⟩ = some (.string a1_5) := (blk_cell BK214.out 5).trans rfl
      have hcz23_6 : w5.cell? ⟨gb214, 6, none⟩ = some (.slice A1_6 l1_6.length c1_6) := (blk_cell BK214.out 6).trans rfl
      have hfz23_0 := blk_frozen BK214.out 0
      have hfz23_1 := blk_frozen BK214.out 1
      have hfz23_2 := blk_frozen BK214.out 2
      have hfz23_3 := blk_frozen BK214.out 3
      have hfz23_4 := blk_frozen BK214.out 4
      have hfz23_5 := blk_frozen BK214.out 5
      have hfz23_6 := blk_frozen BK214.out 6
      go_wp2
      repeat (go_quiet (fail); try go_wp2)
      go_meet
      case rel => exact ⟨_, (true), (by first | rfl | (simp; done) | (simp [*]; done)), H', ⟨by first | omega | exact Nat.le_refl _⟩, ⟨by (with_reducible repeat (first | refine blk_drewN ?_ _ | refine blk_drew ?_ | refine blk_alloc ?_ _)); exact BK213.out⟩, ⟨by (with_reducible repeat (first | refine blk_drewN ?_ _ | refine blk_drew ?_ | refine blk_alloc ?_ _)); exact BK214.out⟩, ⟨by repeat (first | (with_reducible first | exact HB.out | apply below_alloc | apply pw_below_drewN | apply below_drew1 | refine below_set ?_ GE213.out | refine below_set ?_ GE214.out) | exact HB.out)⟩⟩
    ·
     rw [if_neg c8] at H
     have c8b0 : (a0_2 == a1_2) = false := beq_eq_false_iff_ne.mpr c8
     have c8b1 : (a0_2 != a1_2) = true := bne_iff_ne.mpr c8
     have H' := Aside0.mk H
     clear H
     have hnb24 := NB213_214.out
     have hnc24 := NB214_213.out
     have hcz25_0 : w5.cell? ⟨gb213, 0, none⟩ = some (.int .i64 a0_0) := (blk_cell BK213.out 0).trans rfl
     have hcz25_1 : w5.cell? ⟨gb213, 1, none⟩ = some (.int .i64 a0_1) := (blk_cell BK213.out 1).trans rfl
     have hcz25_2 : w5.cell? ⟨gb213, 2, none⟩ = some (.int .i64 a0_2) := (blk_cell BK213.out 2).trans rfl
     have hcz25_3 : w5.cell? ⟨gb213, 3, none⟩ = some (.int .i64 a0_3) := (blk_cell BK213.out 3).trans rfl
     have hcz25_4 : w5.cell? ⟨gb213, 4, none⟩ = some (.int .i64 a0_4) := (blk_cell BK213.out 4).trans rfl
     have hcz25_5 : w5.cell? ⟨gb213, 5, none⟩ = some (.string a0_5) := (blk_cell BK213.out 5).trans rfl
     have hcz25_6 : w5.cell? ⟨gb213, 6, none⟩ = some (.slice A0_6 l0_6.length c0_6) := (blk_cell BK213.out 6).trans rfl
     have hfz25_0 := blk_frozen BK213.out 0
     have hfz25_1 := blk_frozen BK213.out 1
     have hfz25_2 := blk_frozen BK213.out 2
     have hfz25_3 := blk_frozen BK213.out 3
     have hfz25_4 := blk_frozen BK213.out 4
     have hfz25_5 := blk_frozen BK213.out 5
     have hfz25_6 := blk_frozen BK213.out 6
     have hcz26_0 : w5.cell? ⟨gb214, 0, none⟩ = some (.int .i64 a1_0) := (blk_cell BK214.out 0).trans rfl
     have hcz26_1 : w5.cell? ⟨gb214, 1, none⟩ = some (.int .i64 a1_1) := (blk_cell BK214.out 1).trans rfl
     have hcz26_2 : w5.cell? ⟨gb214, 2, none⟩ = some (.int .i64 a1_2) := (blk_cell BK214.out 2).trans rfl
     have hcz26_3 : w5.cell? ⟨gb214, 3, none⟩ = some (.int .i64 a1_3) := (blk_cell BK214.out 3).trans rfl
     have hcz26_4 : w5.cell? ⟨gb214, 4, none⟩ = some (.int .i64 a1_4) := (blk_cell BK214.out 4).trans rfl
     have hcz26_5 : w5.cell? ⟨gb214, 5, none⟩ = some (.string a1_5) := (blk_cell BK214.out 5).trans rfl
     have hcz26_6 : w5.cell? ⟨gb214, 6, none⟩ = some (.slice A1_6 l1_6.length c1_6) := (blk_cell BK214.out 6).trans rfl
     have hfz26_0 := blk_frozen BK214.out 0
     have hfz26_1 := blk_frozen BK214.out 1
     have hfz26_2 := blk_frozen BK214.out 2
     have hfz26_3 := blk_frozen BK214.out 3
     have hfz26_4 := blk_frozen BK214.out 4
     have hfz26_5 := blk_frozen BK214.out 5
     have hfz26_6 := blk_frozen BK214.out 6
     go_wp2
     repeat (go_quiet (fail); try go_wp2)
     go_meet
     case rel => exact ⟨_, (true), (by first | rfl | (simp; done) | (simp [*]; done)), H', ⟨by first | omega | exact Nat.le_refl _⟩, ⟨by (with_reducible repeat (first | refine blk_drewN ?_ _ | refine blk_drew ?_ | refine blk_alloc ?_ _)); exact BK213.out⟩, ⟨by (with_reducible repeat (first | refine blk_drewN ?_ _ | refine blk_drew ?_ | refine blk_alloc ?_ _)); exact BK214.out⟩, ⟨by repeat (first | (with_reducible first | exact HB.out | apply below_alloc | apply pw_below_drewN | apply below_drew1 | refine below_set ?_ GE213.out | refine below_set ?_ GE214.out) | exact HB.out)⟩⟩
   ·
    rw [if_neg c7] at H
    have c7b0 : (a0_1 == a1_1) = false := beq_eq_false_iff_ne.mpr c7
    have c7b1 : (a0_1 != a1_1) = true := bne_iff_ne.mpr c7
    have H' := Aside0.mk H
    clear H
    have hnb27 := NB213_214.out
    have hnc27 := NB214_213.out
    have hcz28_0 : w5.cell? ⟨gb213, 0, none⟩ = some (.int .i64 a0_0) := (blk_cell BK213.out 0).trans rfl
    have hcz28_1 : w5.cell? ⟨gb213, 1, none⟩ = some (.int .i64 a0_1) := (blk_cell BK213.out 1).trans rfl
    have hcz28_2 : w5.cell? ⟨gb213, 2, none⟩ = some (.int .i64 a0_2) := (blk_cell BK213.out 2).trans rfl
    have hcz28_3 : w5.cell? ⟨gb213, 3, none⟩ = some (.int .i64 a0_3) := (blk_cell BK213.out 3).trans rfl
    have hcz28_4 : w5.cell? ⟨gb213, 4, none⟩ = some (.int .i64 a0_4) := (blk_cell BK213.out 4).trans rfl
    have hcz28_5 : w5.cell? ⟨gb213, 5, none⟩ = some (.string a0_5) := (blk_cell BK213.out 5).trans rfl
    have hcz28_6 : w5.cell? ⟨gb213, 6, none⟩ = some (.slice A0_6 l0_6.length c0_6) := (blk_cell BK213.out 6).trans rfl
    have hfz28_0 := blk_frozen BK213.out 0
    have hfz28_1 := blk_frozen BK213.out 1
    have hfz28_2 := blk_frozen BK213.out 2
    have hfz28_3 := blk_frozen BK213.out 3
    have hfz28_4 := blk_frozen BK213.out 4
    have hfz28_5 := blk_frozen BK213.out 5
    have hfz28_6 := blk_frozen BK213.out 6
    have hcz29_0 : w5.cell? ⟨gb214, 0, none⟩ = some (.int .i64 a1_0) := (blk_cell BK214.out 0).trans rfl
    have hcz29_1 : w5.cell? ⟨gb214, 1, none⟩ = some (.int .i64 a1_1) := (blk_cell BK214.out 1).trans rfl
    have hcz29_2 : w5.cell? ⟨gb214, 2, none⟩ = some (.int .i64 a1_2) := (blk_cell BK214.out 2).trans rfl
    have hcz29_3 : w5.cell? ⟨gb214, 3, none⟩ = some (.int .i64 a1_3) := (blk_cell BK214.out 3).trans rfl
    have hcz29_4 : w5.cell? ⟨gb214, 4, none⟩ = some (.int .i64 a1_4) := (blk_cell BK214.out 4).trans rfl
    have hcz29_5 : w5.cell? ⟨gb214, 5, none⟩ = some (.string a1_5) := (blk_cell BK214.out 5).trans rfl
    have hcz29_6 : w5.cell? ⟨gb214, 6, none⟩ = some (.slice A1_6 l1_6.length c1_6) := (blk_cell BK214.out 6).trans rfl
    have hfz29_0 := blk_frozen BK214.out 0
    have hfz29_1 := blk_frozen BK214.out 1
    have hfz29_2 := blk_frozen BK214.out 2
    have hfz29_3 := blk_frozen BK214.out 3
    have hfz29_4 := blk_frozen BK214.out 4
    have hfz29_5 := blk_frozen BK214.out 5
    have hfz29_6 := blk_frozen BK214.out 6
    go_wp2
    repeat (go_quiet (fail); try go_wp2)
    go_meet
    case rel => exact ⟨_, (true), (by first | rfl | (simp; done) | (simp [*]; done)), H', ⟨by first | omega | exact Nat.le_refl _⟩, ⟨by (with_reducible repeat (first | refine blk_drewN ?_ _ | refine blk_drew ?_ | refine blk_alloc ?_ _)); exact BK213.out⟩, ⟨by (with_reducible repeat (first | refine blk_drewN ?_ _ | refine blk_drew ?_ | refine blk_alloc ?_ _)); exact BK214.out⟩, ⟨by repeat (first | (with_reducible first | exact HB.out | apply below_alloc | apply pw_below_drewN | apply below_drew1 | refine below_set ?_ GE213.out | refine below_set ?_ GE214.out) | exact HB.out)⟩⟩
  ·
   rw [if_neg c6] at H
   have c6b0 : (a0_0 == a1_0) = false := beq_eq_false_iff_ne.mpr c6
   have c6b1 : (a0_0 != a1_0) = true := bne_iff_ne.mpr c6
   (first | rw [c6b0] | (simp only [i64_w, i32_w]; rw [c6b0]) | skip)
   have H' := Aside0.mk H
   clear H
   have hnb30 := NB213_214.out
   have hnc30 := NB214_213.out
   have hcz31_0 : w5.cell? ⟨gb213, 0, none⟩ = some (.int .i64 a0_0) := (blk_cell BK213.out 0).trans rfl
   have hcz31_1 : w5.cell? ⟨gb213, 1, none⟩ = some (.int .i64 a0_1) := (blk_cell BK213.out 1).trans rfl
   have hcz31_2 : w5.cell? ⟨gb213, 2, none⟩ = some (.int .i64 a0_2) := (blk_cell BK213.out 2).trans rfl
   have hcz31_3 : w5.cell? ⟨gb213, 3, none⟩ = some (.int .i64 a0_3) := (blk_cell BK213.out 3).trans rfl
   have hcz31_4 : w5.cell? ⟨gb213, 4, none⟩ = some (.int .i64 a0_4) := (blk_cell BK213.out 4).trans rfl
   have hcz31_5 : w5.cell? ⟨gb213, 5, none⟩ = some (.string a0_5) := (blk_cell BK213.out 5).trans rfl
   have hcz31_6 : w5.cell? ⟨gb213, 6, none⟩ = some (.slice A0_6 l0_6.length c0_6) := (blk_cell BK213.out 6).trans rfl
   have hfz31_0 := blk_frozen BK213.out 0
   have hfz31_1 := blk_frozen BK213.out 1
   have hfz31_2 := blk_frozen BK213.out 2
   have hfz31_3 := blk_frozen BK213.out 3
   have hfz31_4 := blk_frozen BK213.out 4
   have hfz31_5 := blk_frozen BK213.out 5
   have hfz31_6 := blk_frozen BK213.out 6
   have hcz32_0 : w5.cell? ⟨gb214, 0, none⟩ = some (.int .i64 a1_0) := (blk_cell BK214.out 0).trans rfl
   have hcz32_1 : w5.cell? ⟨gb214, 1, none⟩ = some (.int .i64 a1_1) := (blk_cell BK214.out 1).trans rfl
   have hcz32_2 : w5.cell? ⟨gb214, 2, none⟩ = some (.int .i64 a1_2) := (blk_cell BK214.out 2).trans rfl
   have hcz32_3 : w5.cell? ⟨gb214, 3, none⟩ = some (.int .i64 a1_3) := (blk_cell BK214.out 3).trans rfl
   have hcz32_4 : w5.cell? ⟨gb214, 4, none⟩ = some (.int .i64 a1_4) := (blk_cell BK214.out 4).trans rfl
   have hcz32_5 : w5.cell? ⟨gb214, 5, none⟩ = some (.string a1_5) := (blk_cell BK214.out 5).trans rfl
   have hcz32_6 : w5.cell? ⟨gb214, 6, none⟩ = some (.slice A1_6 l1_6.length c1_6) := (blk_cell BK214.out 6).trans rfl
   have hfz32_0 := blk_frozen BK214.out 0
   have hfz32_1 := blk_frozen BK214.out 1
   have hfz32_2 := blk_frozen BK214.out 2
   have hfz32_3 := blk_frozen BK214.out 3
   have hfz32_4 := blk_frozen BK214.out 4
   have hfz32_5 := blk_frozen BK214.out 5
   have hfz32_6 := blk_frozen BK214.out 6
   go_wp2
   repeat (go_quiet (fail); try go_wp2)
   go_meet
   case rel => exact ⟨_, (true), (by first | rfl | (simp; done) | (simp [*]; done)), H', ⟨by first | omega | exact Nat.le_refl _⟩, ⟨by (with_reducible repeat (first | refine blk_drewN ?_ _ | refine blk_drew ?_ | refine blk_alloc ?_ _)); exact BK213.out⟩, ⟨by (with_reducible repeat (first | refine blk_drewN ?_ _ | refine blk_drew ?_ | refine blk_alloc ?_ _)); exact BK214.out⟩, ⟨by repeat (first | (with_reducible first | exact HB.out | apply below_alloc | apply pw_below_drewN | apply below_drew1 | refine below_set ?_ GE213.out | refine below_set ?_ GE214.out) | exact HB.out)⟩⟩
 case rest =>
  clear HC3
  try clear c1
  try clear c2
  try clear p2
  try clear c3
  try clear c6
  try clear c6b0
  try clear c6b1
  try clear c7
  try clear c7b0
  try clear c7b1
  try clear c8
  try clear c8b0
  try clear c8b1
  try clear c9
  try clear c9b0
  try clear c9b1
  try clear c10
  try clear c10b0
  try clear c10b1
  try clear c11
  try clear c11b0
  try clear c11b1
  try clear c12
  try clear c15
  try clear c18
  try clear c21
  try clear c24
  try clear c27
  try clear c30
  try clear c32
  try clear hcz13_0
  try clear hcz13_1
  try clear hcz13_2
  try clear hcz13_3
  try clear hcz13_4
  try clear hcz13_5
  try clear hcz13_6
  try clear hcz14_0
  try clear hcz14_1
  try clear hcz14_2
  try clear hcz14_3
  try clear hcz14_4
  try clear hcz14_5
  try clear hcz14_6
  try clear hcz16_0
  try clear hcz16_1
  try clear hcz16_2
  try clear hcz16_3
  try clear hcz16_4
  try clear hcz16_5
  try clear hcz16_6
  try clear hcz17_0
  try clear hcz17_1
  try clear hcz17_2
  try clear hcz17_3
  try clear hcz17_4
  try clear hcz17_5
  try clear hcz17_6
  try clear hcz19_0
  try clear hcz19_1
  try clear hcz19_2
  try clear hcz19_3
  try clear hcz19_4
  try clear hcz19_5
  try clear hcz19_6
  try clear hcz20_0
  try clear hcz20_1
  try clear hcz20_2
  try clear hcz20_3
  try clear hcz20_4
  try clear hcz20_5
  try clear hcz20_6
  try clear hcz22_0
  try clear hcz22_1
  try clear hcz22_2
  try clear hcz22_3
  try clear hcz22_4
  try clear hcz22_5
  try clear hcz22_6
  try clear hcz23_0
  try clear hcz23_1
  try clear hcz23_2
  try clear hcz23_3
  try clear hcz23_4
  try clear hcz23_5
  try clear hcz23_6
  try clear hcz25_0
  try clear hcz25_1
  try clear hcz25_2
  try clear hcz25_3
  try clear hcz25_4
  try clear hcz25_5
  try clear hcz25_6
  try clear hcz26_0
  try clear hcz26_1
  try clear hcz26_2
  try clear hcz26_3
  try clear hcz26_4
  try clear hcz26_5
  try clear hcz26_6
  try clear hcz28_0
  try clear hcz28_1
  try clear hcz28_2
  try clear hcz28_3
  try clear hcz28_4
  try clear hcz28_5
  try clear hcz28_6
  try clear hcz29_0
  try clear hcz29_1
  try clear hcz29_2
  try clear hcz29_3
  try clear hcz29_4
  try clear hcz29_5
  try clear hcz29_6
  try clear hcz31_0
  try clear hcz31_1
  try clear hcz31_2
  try clear hcz31_3
  try clear hcz31_4
  try clear hcz31_5
  try clear hcz31_6
  try clear hcz32_0
  try clear hcz32_1
  try clear hcz32_2
  try clear hcz32_3
  try clear hcz32_4
  try clear hcz32_5
  try clear hcz32_6
  try clear hfz13_0
  try clear hfz13_1
  try clear hfz13_2
  try clear hfz13_3
  try clear hfz13_4
  try clear hfz13_5
  try clear hfz13_6
  try clear hfz14_0
  try clear hfz14_1
  try clear hfz14_2
  try clear hfz14_3
  try clear hfz14_4
  try clear hfz14_5
  try clear hfz14_6
  try clear hfz16_0
  try clear hfz16_1
  try clear hfz16_2
  try clear hfz16_3
  try clear hfz16_4
  try clear hfz16_5
  try clear hfz16_6
  try clear hfz17_0
  try clear hfz17_1
  try clear hfz17_2
  try clear hfz17_3
  try clear hfz17_4
  try clear hfz17_5
  try clear hfz17_6
  try clear hfz19_0
  try clear hfz19_1
  try clear hfz19_2
  try clear hfz19_3
  try clear hfz19_4
  try clear hfz19_5
  try clear hfz19_6
  try clear hfz20_0
  try clear hfz20_1
  try clear hfz20_2
  try clear hfz20_3
  try clear hfz20_4
  try clear hfz20_5
  try clear hfz20_6
  try clear hfz22_0
  try clear hfz22_1
  try clear hfz22_2
  try clear hfz22_3
  try clear hfz22_4
  try clear hfz22_5
  try clear hfz22_6
  try clear hfz23_0
  try clear hfz23_1
  try clear hfz23_2
  try clear hfz23_3
  try clear hfz23_4
  try clear hfz23_5
  try clear hfz23_6
  try clear hfz25_0
  try clear hfz25_1
  try clear hfz25_2
  try clear hfz25_3
  try clear hfz25_4
  try clear hfz25_5
  try clear hfz25_6
  try clear hfz26_0
  try clear hfz26_1
  try clear hfz26_2
  try clear hfz26_3
  try clear hfz26_4
  try clear hfz26_5
  try clear hfz26_6
  try clear hfz28_0
  try clear hfz28_1
  try clear hfz28_2
  try clear hfz28_3
  try clear hfz28_4
  try clear hfz28_5
  try clear hfz28_6
  try clear hfz29_0
  try clear hfz29_1
  try clear hfz29_2
  try clear hfz29_3
  try clear hfz29_4
  try clear hfz29_5
  try clear hfz29_6
  try clear hfz31_0
  try clear hfz31_1
  try clear hfz31_2
  try clear hfz31_3
  try clear hfz31_4
  try clear hfz31_5
  try clear hfz31_6
  try clear hfz32_0
  try clear hfz32_1
  try clear hfz32_2
  try clear hfz32_3
  try clear hfz32_4
  try clear hfz32_5
  try clear hfz32_6
  obtain ⟨kq, x54_2, rfl, HA, HJ2, BK213, BK214, HB⟩ := hcut
  cases kq with
  | zero => exact absurd HA.out (by simp [rehearsalref04_SameNode.j0])
  | succ kj2 =>
   have H := HA.out
   clear HA
   simp only [rehearsalref04_SameNode.j0] at H
   by_cases c33 : x54_2 = true
   ·
    subst c33
    have H1 : (some false) = some r := by rw [if_pos rfl] at H; exact H
    clear H
    have H := H1
    clear H1
    obtain rfl := Option.some.inj H
    go_wp2
    repeat (go_quiet (fail); try go_wp2)
    go_ret
    exact ⟨by first | rfl | (simp [errW_none, errW_some] <;> rfl) | (simp [*, errW_none, errW_some] <;> rfl), by repeat (first | (with_reducible first | exact HB.out | apply below_alloc | apply pw_below_drewN | apply below_drew1 | refine below_set ?_ GE213.out | refine below_set ?_ GE214.out) | exact HB.out)⟩
   ·
    replace c33 := Bool.eq_false_iff.mpr c33
    subst c33
    have H1 : (rehearsalref04_SameNode.l0 kj2 0 a0_0 a0_1 a0_2 a0_3 a0_4 a0_5 l0_6 a1_0 a1_1 a1_2 a1_3 a1_4 a1_5 l1_6) = some r := by rw [if_neg (show ¬ (false = true) by decide)] at H; exact H
    clear H
    have H := H1
    clear H1
    have H' := Aside0.mk H
    clear H
    go_wp2
    repeat (go_quiet (fail); try go_wp2)
    go_loopg [5] kj2 (fun kq v5 w' => ∃ (x5_2 : Int), v5 = .int .i64 x5_2 ∧ Aside0 (rehearsalref04_SameNode.l0 kq x5_2 a0_0 a0_1 a0_2 a0_3 a0_4 a0_5 l0_6 a1_0 a1_1 a1_2 a1_3 a1_4 a1_5 l1_6 = some r) ∧ Aside0 (kq ≤ kj2) ∧ Aside0 (w'.heap[gb213]? = some (.cells #[.int .i64 a0_0, .int .i64 a0_1, .int .i64 a0_2, .int .i64 a0_3, .int .i64 a0_4, .string a0_5, (.slice A0_6 l0_6.length c0_6)] 44 (0, 0))) ∧ Aside0 (w'.heap[gb214]? = some (.cells #[.int .i64 a1_0, .int .i64 a1_1, .int .i64 a1_2, .int .i64 a1_3, .int .i64 a1_4, .string a1_5, (.slice A1_6 l1_6.length c1_6)] 44 (0, 0))) ∧ Aside0 (Below w.heap.size w w'))
    case atStart => exact ⟨(0), (by first | rfl | (simp; done) | (simp [*]; done)), H', ⟨Nat.le_refl _⟩, ⟨by (with_reducible repeat (first | refine blk_drewN ?_ _ | refine blk_drew ?_ | refine blk_alloc ?_ _)); exact BK213.out⟩, ⟨by (with_reducible repeat (first | refine blk_drewN ?_ _ | refine blk_drew ?_ | refine blk_alloc ?_ _)); exact BK214.out⟩, ⟨by repeat (first | (with_reducible first | exact HB.out | apply below_alloc | apply pw_below_drewN | apply below_drew1 | refine below_set ?_ GE213.out | refine below_set ?_ GE214.out) | exact HB.out)⟩⟩
    case round =>
     clear H'
     try clear c1
     try clear c2
     try clear p2
     try clear c3
     try clear c6
     try clear c6b0
     try clear c6b1
     try clear c7
     try clear c7b0
     try clear c7b1
     try clear c8
     try clear c8b0
     try clear c8b1
     try clear c9
     try clear c9b0
     try clear c9b1
     try clear c10
     try clear c10b0
     try clear c10b1
     try clear c11
     try clear c11b0
     try clear c11b1
     try clear c12
     try clear c15
     try clear c18
     try clear c21
     try clear c24
     try clear c27
     try clear c30
     try clear c32
     try clear c33
     try clear hcz13_0
     try clear hcz13_1
     try clear hcz13_2
     try clear hcz13_3
     try clear hcz13_4
     try clear hcz13_5
     try clear hcz13_6
     try clear hcz14_0
     try clear hcz14_1
     try clear hcz14_2
     try clear hcz14_3
     try clear hcz14_4
     try clear hcz14_5
     try clear hcz14_6
     try clear hcz16_0
     try clear hcz16_1
     try clear hcz16_2
     try clear hcz16_3
     try clear hcz16_4
     try clear hcz16_5
     try clear hcz16_6
     try clear hcz17_0
     try clear hcz17_1
     try clear hcz17_2
     try clear hcz17_3
     try clear hcz17_4
     try clear hcz17_5
     try clear hcz17_6
     try clear hcz19_0
     try clear hcz19_1
     try clear hcz19_2
     try clear hcz19_3
     try clear hcz19_4
     try clear hcz19_5
     try clear hcz19_6
     try clear hcz20_0
     try clear hcz20_1
     try clear hcz20_2
     try clear hcz20_3
     try clear hcz20_4
     try clear hcz20_5
     try clear hcz20_6
     try clear hcz22_0
     try clear hcz22_1
     try clear hcz22_2
     try clear hcz22_3
     try clear hcz22_4
     try clear hcz22_5
     try clear hcz22_6
     try clear hcz23_0
     try clear hcz23_1
     try clear hcz23_2
     try clear hcz23_3
     try clear hcz23_4
     try clear hcz23_5
     try clear hcz23_6
     try clear hcz25_0
     try clear hcz25_1
     try clear hcz25_2
     try clear hcz25_3
     try clear hcz25_4
     try clear hcz25_5
     try clear hcz25_6
     try clear hcz26_0
     try clear hcz26_1
     try clear hcz26_2
     try clear hcz26_3
     try clear hcz26_4
     try clear hcz26_5
     try clear hcz26_6
     try clear hcz28_0
     try clear hcz28_1
     try clear hcz28_2
     try clear hcz28_3
     try clear hcz28_4
     try clear hcz28_5
     try clear hcz28_6
     try clear hcz29_0
     try clear hcz29_1
     try clear hcz29_2
     try clear hcz29_3
     try clear hcz29_4
     try clear hcz29_5
     try clear hcz29_6
     try clear hcz31_0
     try clear hcz31_1
     try clear hcz31_2
     try clear hcz31_3
     try clear hcz31_4
     try clear hcz31_5
     try clear hcz31_6
     try clear hcz32_0
     try clear hcz32_1
     try clear hcz32_2
     try clear hcz32_3
     try clear hcz32_4
     try clear hcz32_5
     try clear hcz32_6
     try clear hfz13_0
     try clear hfz13_1
     try clear hfz13_2
     try clear hfz13_3
     try clear hfz13_4
     try clear hfz13_5
     try clear hfz13_6
     try clear hfz14_0
     try clear hfz14_1
     try clear hfz14_2
     try clear hfz14_3
     try clear hfz14_4
     try clear hfz14_5
     try clear hfz14_6
     try clear hfz16_0
     try clear hfz16_1
     try clear hfz16_2
     try clear hfz16_3
     try clear hfz16_4
     try clear hfz16_5
     try clear hfz16_6
     try clear hfz17_0
     try clear hfz17_1
     try clear hfz17_2
     try clear hfz17_3
     try clear hfz17_4
     try clear hfz17_5
     try clear hfz17_6
     try clear hfz19_0
     try clear hfz19_1
     try clear hfz19_2
     try clear hfz19_3
     try clear hfz19_4
     try clear hfz19_5
     try clear hfz19_6
     try clear hfz20_0
     try clear hfz20_1
     try clear hfz20_2
     try clear hfz20_3
     try clear hfz20_4
     try clear hfz20_5
     try clear hfz20_6
     try clear hfz22_0
     try clear hfz22_1
     try clear hfz22_2
     try clear hfz22_3
     try clear hfz22_4
     try clear hfz22_5
     try clear hfz22_6
     try clear hfz23_0
     try clear hfz23_1
     try clear hfz23_2
     try clear hfz23_3
     try clear hfz23_4
     try clear hfz23_5
     try clear hfz23_6
     try clear hfz25_0
     try clear hfz25_1
     try clear hfz25_2
     try clear hfz25_3
     try clear hfz25_4
     try clear hfz25_5
     try clear hfz25_6
     try clear hfz26_0
     try clear hfz26_1
     try clear hfz26_2
     try clear hfz26_3
     try clear hfz26_4
     try clear hfz26_5
     try clear hfz26_6
     try clear hfz28_0
     try clear hfz28_1
     try clear hfz28_2
     try clear hfz28_3
     try clear hfz28_4
     try clear hfz28_5
     try clear hfz28_6
     try clear hfz29_0
     try clear hfz29_1
     try clear hfz29_2
     try clear hfz29_3
     try clear hfz29_4
     try clear hfz29_5
     try clear hfz29_6
     try clear hfz31_0
     try clear hfz31_1
     try clear hfz31_2
     try clear hfz31_3
     try clear hfz31_4
     try clear hfz31_5
     try clear hfz31_6
     try clear hfz32_0
     try clear hfz32_1
     try clear hfz32_2
     try clear hfz32_3
     try clear hfz32_4
     try clear hfz32_5
     try clear hfz32_6
     try clear p2
     obtain ⟨x5_2, rfl, HA, HK2, BK213, BK214, HB⟩ := hrel
     cases gk with
     | zero => exact absurd HA.out (by simp [rehearsalref04_SameNode.l0])
     | succ k2 =>
      have H := HA.out
      clear HA
      simp only [rehearsalref04_SameNode.l0] at H
      by_cases c34 : x5_2 < (l0_6.length : Int)
      ·
       rw [if_pos c34] at H
       have c34b0 : decide (x5_2 < (l0_6.length : Int)) = true := decide_eq_true c34
       clear c34
       by_cases c35 : 0 ≤ x5_2
       ·
        rw [if_pos c35] at H
        have c35b0 : decide (0 ≤ x5_2) = true := decide_eq_true c35
        clear c35
        by_cases c36 : x5_2 < (l1_6.length : Int)
        ·
         rw [if_pos c36] at H
         have c36b0 : decide (x5_2 < (l1_6.length : Int)) = true := decide_eq_true c36
         clear c36
         by_cases c37 : (!((((rd_T61 l0_6 x5_2).f0).toList) == (((rd_T61 l1_6 x5_2).f0).toList)) || (!(((rd_T61 l0_6 x5_2).f1) == ((rd_T61 l1_6 x5_2).f1)))) = true
         ·
          rw [if_pos c37] at H
          have c37b0 : (!((((rd_T61 l0_6 x5_2).f0).toList) == (((rd_T61 l1_6 x5_2).f0).toList)) || (!(((rd_T61 l0_6 x5_2).f1) == ((rd_T61 l1_6 x5_2).f1)))) = true := c37
          clear c37
          obtain rfl := Option.some.inj H
          have hnb38 := NB213_214.out
          have hnc38 := NB214_213.out
          have hcz39_0 : wr.cell? ⟨gb213, 0, none⟩ = some (.int .i64 a0_0) := (blk_cell BK213.out 0).trans rfl
          have hcz39_1 : wr.cell? ⟨gb213, 1, none⟩ = some (.int .i64 a0_1) := (blk_cell BK213.out 1).trans rfl
          have hcz39_2 : wr.cell? ⟨gb213, 2, none⟩ = some (.int .i64 a0_2) := (blk_cell BK213.out 2).trans rfl
          have hcz39_3 : wr.cell? ⟨gb213, 3, none⟩ = some (.int .i64 a0_3) := (blk_cell BK213.out 3).trans rfl
          have hcz39_4 : wr.cell? ⟨gb213, 4, none⟩ = some (.int .i64 a0_4) := (blk_cell BK213.out 4).trans rfl
          have hcz39_5 : wr.cell? ⟨gb213, 5, none⟩ = some (.string a0_5) := (blk_cell BK213.out 5).trans rfl
          have hcz39_6 : wr.cell? ⟨gb213, 6, none⟩ = some (.slice A0_6 l0_6.length c0_6) := (blk_cell BK213.out 6).trans rfl
          have hfz39_0 := blk_frozen BK213.out 0
          have hfz39_1 := blk_frozen BK213.out 1
          have hfz39_2 := blk_frozen BK213.out 2
          have hfz39_3 := blk_frozen BK213.out 3
          have hfz39_4 := blk_frozen BK213.out 4
          have hfz39_5 := blk_frozen BK213.out 5
          have hfz39_6 := blk_frozen BK213.out 6
          have p215 : 0 ≤ (x5_2 : Int) := of_decide_eq_true (by first | (with_reducible assumption) | assumption)
          have q215 : x5_2 < (l0_6.length : Int) := of_decide_eq_true (by first | (with_reducible assumption) | assumption)
          obtain ⟨ad215, e215, hx215_0, hx215_1⟩ := at_T61 HR0_6.out x5_2 p215 q215
          cases e215
          replace hx215_0 := (HB.out.cell (World.block_lt_of_cell? w _ hx215_0)).trans hx215_0
          replace hx215_1 := (HB.out.cell (World.block_lt_of_cell? w _ hx215_1)).trans hx215_1
          replace p215 := eq_true p215
          replace q215 := eq_true q215
          have hcz40_0 : wr.cell? ⟨gb214, 0, none⟩ = some (.int .i64 a1_0) := (blk_cell BK214.out 0).trans rfl
          have hcz40_1 : wr.cell? ⟨gb214, 1, none⟩ = some (.int .i64 a1_1) := (blk_cell BK214.out 1).trans rfl
          have hcz40_2 : wr.cell? ⟨gb214, 2, none⟩ = some (.int .i64 a1_2) := (blk_cell BK214.out 2).trans rfl
          have hcz40_3 : wr.cell? ⟨gb214, 3, none⟩ = some (.int .i64 a1_3) := (blk_cell BK214.out 3).trans rfl
          have hcz40_4 : wr.cell? ⟨gb214, 4, none⟩ = some (.int .i64 a1_4) := (blk_cell BK214.out 4).trans rfl
          have hcz40_5 : wr.cell? ⟨gb214, 5, none⟩ = some (.string a1_5) := (blk_cell BK214.out 5).trans rfl
          have hcz40_6 : wr.cell? ⟨gb214, 6, none⟩ = some (.slice A1_6 l1_6.length c1_6) := (blk_cell BK214.out 6).trans rfl
          have hfz40_0 := blk_frozen BK214.out 0
          have hfz40_1 := blk_frozen BK214.out 1
          have hfz40_2 := blk_frozen BK214.out 2
          have hfz40_3 := blk_frozen BK214.out 3
          have hfz40_4 := blk_frozen BK214.out 4
          have hfz40_5 := blk_frozen BK214.out 5
          have hfz40_6 := blk_frozen BK214.out 6
          have p216 : 0 ≤ (x5_2 : Int) := of_decide_eq_true (by first | (with_reducible assumption) | assumption)
          have q216 : x5_2 < (l1_6.length : Int) := of_decide_eq_true (by first | (with_reducible assumption) | assumption)
          obtain ⟨ad216, e216, hx216_0, hx216_1⟩ := at_T61 HR1_6.out x5_2 p216 q216
          cases e216
          replace hx216_0 := (HB.out.cell (World.block_lt_of_cell? w _ hx216_0)).trans hx216_0
          replace hx216_1 := (HB.out.cell (World.block_lt_of_cell? w _ hx216_1)).trans hx216_1
          replace p216 := eq_true p216
          replace q216 := eq_true q216
          go_wp2
          repeat (go_quiet (fail); try go_wp2)
          go_ret
          exact ⟨by first | rfl | (simp [errW_none, errW_some] <;> rfl) | (simp [*, errW_none, errW_some] <;> rfl), by repeat (first | (with_reducible first | exact HB.out | apply below_alloc | apply pw_below_drewN | apply below_drew1 | refine below_set ?_ GE213.out | refine below_set ?_ GE214.out) | exact HB.out)⟩
         ·
          rw [if_neg c37] at H
          have c37b0 : (!((((rd_T61 l0_6 x5_2).f0).toList) == (((rd_T61 l1_6 x5_2).f0).toList)) || (!(((rd_T61 l0_6 x5_2).f1) == ((rd_T61 l1_6 x5_2).f1)))) = false := by simpa using c37
          clear c37
          have H' := Aside0.mk H
          clear H
          have hnb41 := NB213_214.out
          have hnc41 := NB214_213.out
          have hcz42_0 : wr.cell? ⟨gb213, 0, none⟩ = some (.int .i64 a0_0) := (blk_cell BK213.out 0).trans rfl
          have hcz42_1 : wr.cell? ⟨gb213, 1, none⟩ = some (.int .i64 a0_1) := (blk_cell BK213.out 1).trans rfl
          have hcz42_2 : wr.cell? ⟨gb213, 2, none⟩ = some (.int .i64 a0_2) := (blk_cell BK213.out 2).trans rfl
          have hcz42_3 : wr.cell? ⟨gb213, 3, none⟩ = some (.int .i64 a0_3) := (blk_cell BK213.out 3).trans rfl
          have hcz42_4 : wr.cell? ⟨gb213, 4, none⟩ = some (.int .i64 a0_4) := (blk_cell BK213.out 4).trans rfl
          have hcz42_5 : wr.cell? ⟨gb213, 5, none⟩ = some (.string a0_5) := (blk_cell BK213.out 5).trans rfl
          have hcz42_6 : wr.cell? ⟨gb213, 6, none⟩ = some (.slice A0_6 l0_6.length c0_6) := (blk_cell BK213.out 6).trans rfl
          have hfz42_0 := blk_frozen BK213.out 0
          have hfz42_1 := blk_frozen BK213.out 1
          have hfz42_2 := blk_frozen BK213.out 2
          have hfz42_3 := blk_frozen BK213.out 3
          have hfz42_4 := blk_frozen BK213.out 4
          have hfz42_5 := blk_frozen BK213.out 5
          have hfz42_6 := blk_frozen BK213.out 6
          have p215 : 0 ≤ (x5_2 : Int) := of_decide_eq_true (by first | (with_reducible assumption) | assumption)
          have q215 : x5_2 < (l0_6.length : Int) := of_decide_eq_true (by first | (with_reducible assumption) | assumption)
          obtain ⟨ad215, e215, hx215_0, hx215_1⟩ := at_T61 HR0_6.out x5_2 p215 q215
          cases e215
          replace hx215_0 := (HB.out.cell (World.block_lt_of_cell? w _ hx215_0)).trans hx215_0
          replace hx215_1 := (HB.out.cell (World.block_lt_of_cell? w _ hx215_1)).trans hx215_1
          replace p215 := eq_true p215
          replace q215 := eq_true q215
          have hcz43_0 : wr.cell? ⟨gb214, 0, none⟩ = some (.int .i64 a1_0) := (blk_cell BK214.out 0).trans rfl
          have hcz43_1 : wr.cell? ⟨gb214, 1, none⟩ = some (.int .i64 a1_1) := (blk_cell BK214.out 1).trans rfl
          have hcz43_2 : wr.cell? ⟨gb214, 2, none⟩ = some (.int .i64 a1_2) := (blk_cell BK214.out 2).trans rfl
          have hcz43_3 : wr.cell? ⟨gb214, 3, none⟩ = some (.int .i64 a1_3) := (blk_cell BK214.out 3).trans rfl
          have hcz43_4 : wr.cell? ⟨gb214, 4, none⟩ = some (.int .i64 a1_4) := (blk_cell BK214.out 4).trans rfl
          have hcz43_5 : wr.cell? ⟨gb214, 5, none⟩ = some (.string a1_5) := (blk_cell BK214.out 5).trans rfl
          have hcz43_6 : wr.cell? ⟨gb214, 6, none⟩ = some (.slice A1_6 l1_6.length c1_6) := (blk_cell BK214.out 6).trans rfl
          have hfz43_0 := blk_frozen BK214.out 0
          have hfz43_1 := blk_frozen BK214.out 1
          have hfz43_2 := blk_frozen BK214.out 2
          have hfz43_3 := blk_frozen BK214.out 3
          have hfz43_4 := blk_frozen BK214.out 4
          have hfz43_5 := blk_frozen BK214.out 5
          have hfz43_6 := blk_frozen BK214.out 6
          have p216 : 0 ≤ (x5_2 : Int) := of_decide_eq_true (by first | (with_reducible assumption) | assumption)
          have q216 : x5_2 < (l1_6.length : Int) := of_decide_eq_true (by first | (with_reducible assumption) | assumption)
          obtain ⟨ad216, e216, hx216_0, hx216_1⟩ := at_T61 HR1_6.out x5_2 p216 q216
          cases e216
          replace hx216_0 := (HB.out.cell (World.block_lt_of_cell? w _ hx216_0)).trans hx216_0
          replace hx216_1 := (HB.out.cell (World.block_lt_of_cell? w _ hx216_1)).trans hx216_1
          replace p216 := eq_true p216
          replace q216 := eq_true q216
          go_wp2
          repeat (go_quiet (fail); try go_wp2)
          go_roundg k2
          case measure => have := HJ2.out; have := HK2.out; omega
          case rel => exact ⟨(wrap64 (x5_2 + 1)), (by first | rfl | (simp; done) | (simp [*]; done)), H', ⟨by have := HJ2.out; have := HK2.out; omega⟩, ⟨by (with_reducible repeat (first | refine blk_drewN ?_ _ | refine blk_drew ?_ | refine blk_alloc ?_ _)); exact BK213.out⟩, ⟨by (with_reducible repeat (first | refine blk_drewN ?_ _ | refine blk_drew ?_ | refine blk_alloc ?_ _)); exact BK214.out⟩, ⟨by repeat (first | (with_reducible first | exact HB.out | apply below_alloc | apply pw_below_drewN | apply below_drew1 | refine below_set ?_ GE213.out | refine below_set ?_ GE214.out) | exact HB.out)⟩⟩
        ·
         rw [if_neg c36] at H
         exact absurd H (by simp)
       ·
        rw [if_neg c35] at H
        exact absurd H (by simp)
      ·
       rw [if_neg c34] at H
       have c34b0 : decide (x5_2 < (l0_6.length : Int)) = false := decide_eq_false c34
       clear c34
       obtain rfl := Option.some.inj H
       have hnb44 := NB213_214.out
       have hnc44 := NB214_213.out
       have hcz45_0 : wr.cell? ⟨gb213, 0, none⟩ = some (.int .i64 a0_0) := (blk_cell BK213.out 0).trans rfl
       have hcz45_1 : wr.cell? ⟨gb213, 1, none⟩ = some (.int .i64 a0_1) := (blk_cell BK213.out 1).trans rfl
       have hcz45_2 : wr.cell? ⟨gb213, 2, none⟩ = some (.int .i64 a0_2) := (blk_cell BK213.out 2).trans rfl
       have hcz45_3 : wr.cell? ⟨gb213, 3, none⟩ = some (.int .i64 a0_3) := (blk_cell BK213.out 3).trans rfl
       have hcz45_4 : wr.cell? ⟨gb213, 4, none⟩ = some (.int .i64 a0_4) := (blk_cell BK213.out 4).trans rfl
       have hcz45_5 : wr.cell? ⟨gb213, 5, none⟩ = some (.string a0_5) := (blk_cell BK213.out 5).trans rfl
       have hcz45_6 : wr.cell? ⟨gb213, 6, none⟩ = some (.slice A0_6 l0_6.length c0_6) := (blk_cell BK213.out 6).trans rfl
       have hfz45_0 := blk_frozen BK213.out 0
       have hfz45_1 := blk_frozen BK213.out 1
       have hfz45_2 := blk_frozen BK213.out 2
       have hfz45_3 := blk_frozen BK213.out 3
       have hfz45_4 := blk_frozen BK213.out 4
       have hfz45_5 := blk_frozen BK213.out 5
       have hfz45_6 := blk_frozen BK213.out 6
       go_wp2
       repeat (go_quiet (fail); try go_wp2)
       go_ret
       exact ⟨by first | rfl | (simp [errW_none, errW_some] <;> rfl) | (simp [*, errW_none, errW_some] <;> rfl), by repeat (first | (with_reducible first | exact HB.out | apply below_alloc | apply pw_below_drewN | apply below_drew1 | refine below_set ?_ GE213.out | refine below_set ?_ GE214.out) | exact HB.out)⟩
end Go.Proofs.YtnpnablnnfekkaaDoor.PTr
