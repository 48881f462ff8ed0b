/- Texts of this claim's proof: small lemmas, walks and plain laws (merged by wip/shake.py). -/
import Derived.Test.YtnpnablnnfekkaaDoorTcM1
import Derived.Test.YtnpnablnnfekkaaDoorTcM2
set_option linter.unusedVariables false
set_option linter.unusedSimpArgs false
namespace Go.Proofs.YtnpnablnnfekkaaDoor.PTr
open Go.RowKit Go.Proofs.YtnpnablnnfekkaaDoor Go.Proofs.YtnpnablnnfekkaaDoorW.PrintWords Go.Proofs.YtnpnablnnfekkaaDoorW.PrintLast Go.Proofs.YtnpnablnnfekkaaDoorW.PrintMore
theorem MapA.neS {κ α : Type} {K : κ → Value} {E : α → Value} {w : World} {b : Nat} {l : List (κ × α)} {v : Value} {t : TypeId} (h : MapA K E w b l) (hv : ∀ k, v.ownBlock = some k → ∃ cells, w.heap[k]? = some (.cells cells t (0, 0))) : some b ≠ v.ownBlock := by
 intro e
 obtain ⟨cells, hc⟩ := hv b e.symm
 exact h.neC hc rfl
theorem mk_event {P : Program} {ops : Array Oper} {rest : List Oper} {o : Oper} {a : Act} {Q : Exit → Act → World → Prop} {W : World} (hgd : o.guard = none) {N : Tmp} (_hd : o.dst = some N)
  (hrun : (execOp a.eval o).run P W = .ok (.value (.map (some W.heap.size))) (W.alloc (.map #[] 0)))
  (h : ∀ g, g = W.heap.size → ∀ w1, MapA KI KI w1 g [] → Below W.heap.size W w1 → wpList P ops Q rest (a.put o.dst (.map (some g))) w1) : wpList P ops Q (o :: rest) a W :=
 Kd.event_run hgd hrun (h _ rfl _ (MapA.made W KI KI) (below_alloc (Below.refl _ _) _))
theorem rdE_set (es : List Ent) (f : Ent → Ent) (j : Nat) (h : j < es.length) : (((es.take j).map f) ++ es.drop j).set j (f es[j]) = ((es.take (j + 1)).map f) ++ es.drop (j + 1) := by
 have hl : ((es.take j).map f).length = j := by rw [List.length_map, List.length_take]; omega
 rw [List.set_append_right _ _ (by omega), hl, Nat.sub_self, List.drop_eq_getElem_cons h, List.set_cons_zero, List.take_succ_eq_append_getElem h, List.map_append]
 simp
def zT : Array Value := #[.slice none 0 0, .int .i64 0, .int .i64 0, .int .i64 0]
structure CSt (w0 w : World) (g1 g2 gw gmt : Nat) (T W6 : Array Value) (v : Value) (ids : List Int) (n : Nat) : Prop where
 hb : Below w0.heap.size w0 w
 b1 : w.heap[g1]? = some (.cells T 26 (0, 0))
 b2 : w.heap[g2]? = some (.cells zT 26 (0, 0))
 b4 : w.heap[gw]? = some (.cells W6 83 (0, 0))
 e1 : w0.heap.size ≤ g1
 e2 : w0.heap.size ≤ g2
 e4 : w0.heap.size ≤ gw
 em : w0.heap.size ≤ gmt
 q : Kd.Q (Kd.int .i64) 3 w w0.heap.size (fun _ => True) v ids
 mp : MapA KI KI w gmt (toMn ids n)
theorem CSt.below {w0 w w' : World} {g1 g2 gw gmt : Nat} {T W6 : Array Value} {v : Value} {ids : List Int} {n : Nat} (h : CSt w0 w g1 g2 gw gmt T W6 v ids n) (hb : Below w.heap.size w w') : CSt w0 w' g1 g2 gw gmt T W6 v ids n :=
 ⟨below_step h.hb hb, blk_below h.b1 hb, blk_below h.b2 hb, blk_below h.b4 hb, h.e1, h.e2, h.e4, h.em, Kd.Q_below h.q hb, h.mp.below hb⟩
theorem CSt.update {w0 w w' : World} {g1 g2 gw gmt : Nat} {T W6 : Array Value} {v : Value} {ids : List Int} {n m : Nat} (h : CSt w0 w g1 g2 gw gmt T W6 v ids n) (hm : MapA KI KI w' gmt (toMn ids m)) (hg : w.grownBy w' (some gmt)) : CSt w0 w' g1 g2 gw gmt T W6 v ids m :=
 ⟨h.hb.grown hg (below_size h.hb) (fun k hk => by cases hk; exact h.em), blk_grown h.b1 hg (fun e => MapA.neC h.mp h.b1 (Option.some.inj e).symm), blk_grown h.b2 hg (fun e => MapA.neC h.mp h.b2 (Option.some.inj e).symm), blk_grown h.b4 hg (fun e => MapA.neC h.mp h.b4 (Option.some.inj e).symm), h.e1, h.e2, h.e4, h.em, Q_mapped h.q h.mp hg, hm⟩
theorem CSt.grown {w0 w w' : World} {g1 g2 gw gmt : Nat} {T W6 : Array Value} {v : Value} {ids : List Int} {n : Nat} (h : CSt w0 w g1 g2 gw gmt T W6 v ids n) {base : Nat} {ok : Nat → Prop} {u : Value} {out : List Nod} (hs : Kd.S k44 44 w base ok u out) (hb : Below w0.heap.size w0 w') (hg : w.grownBy w' u.ownBlock) : CSt w0 w' g1 g2 gw gmt T W6 v ids n :=
 ⟨hb, blk_grown h.b1 hg (Kd.S_ne hs h.b1 (by decide)), blk_grown h.b2 hg (Kd.S_ne hs h.b2 (by decide)), blk_grown h.b4 hg (Kd.S_ne hs h.b4 (by decide)), h.e1, h.e2, h.e4, h.em, Kd.Q_over' h.q (Kd.S_typed hs) (by decide) hg, MapA.grown h.mp hg (MapA.neS h.mp (Kd.S_typed hs))⟩
theorem CSt.far {w0 w : World} {g1 g2 gw gmt : Nat} {T W6 : Array Value} {v : Value} {ids : List Int} {n : Nat} (h : CSt w0 w g1 g2 gw gmt T W6 v ids n) {g : Nat} {cs : Array Value} (hg : w.heap[g]? = some (.cells cs 26 (0, 0))) (h0 : w0.heap.size ≤ g) (n1 : g1 ≠ g) (n2 : g2 ≠ g) (i : Nat) (x : Value) : CSt w0 (w.setCell ⟨g, i, none⟩ x) g1 g2 gw gmt T W6 v ids n :=
 ⟨below_set h.hb h0, blk_far h.b1 n1 x, blk_far h.b2 n2 x, blk_far h.b4 (fun e => by have := h.b4; rw [e, hg] at this; injection this with this; injection this with _ t; exact absurd t (by decide)) x, h.e1, h.e2, h.e4, h.em,
 Kd.Q_mono (Kd.Q_far (p := ⟨g, i, none⟩) (Kd.Q_types h.q hg (by decide)) (fun _ hk => hk.2) x) (fun _ _ => trivial), h.mp.setCell (h.mp.neC hg) x⟩
structure OSt (w0 w : World) (g1 g2 gw gmt g8 : Nat) (T W6 : Array Value) (v : Value) (ids : List Int) (n : Nat) (u : Value) (out : List Nod) (n8 r1 r2 : Int) : Prop where
 c : CSt w0 w g1 g2 gw gmt T W6 v ids n
 b8 : w.heap[g8]? = some (.cells #[u, .int .i64 n8, .int .i64 r1, .int .i64 r2] 26 (0, 0))
 e8 : w0.heap.size ≤ g8
 n1 : g1 ≠ g8
 n2 : g2 ≠ g8
 s : Kd.S k44 44 w w0.heap.size (fun _ => True) u out
theorem OSt.below {w0 w w' : World} {g1 g2 gw gmt g8 : Nat} {T W6 : Array Value} {v u : Value} {ids : List Int} {n : Nat} {out : List Nod} {n8 r1 r2 : Int} (h : OSt w0 w g1 g2 gw gmt g8 T W6 v ids n u out n8 r1 r2) (hb : Below w.heap.size w w') : OSt w0 w' g1 g2 gw gmt g8 T W6 v ids n u out n8 r1 r2 :=
 ⟨h.c.below hb, blk_below h.b8 hb, h.e8, h.n1, h.n2, Kd.S_below h.s hb⟩
theorem OSt.init {w0 w : World} {g1 g2 gw gmt g8 : Nat} {T W6 : Array Value} {v : Value} {ids : List Int} {n : Nat} (h : CSt w0 w g1 g2 gw gmt T W6 v ids n) (hb : w.heap[g8]? = some (.cells zT 26 (0, 0))) (h8 : w0.heap.size ≤ g8) (n1 : g1 ≠ g8) (n2 : g2 ≠ g8) (n8 r1 r2 : Int) :
  OSt w0 ((((w.setCell ⟨g8, 0, none⟩ (.slice none 0 0)).setCell ⟨g8, 1, none⟩ (.int .i64 n8)).setCell ⟨g8, 2, none⟩ (.int .i64 r1)).setCell ⟨g8, 3, none⟩ (.int .i64 r2)) g1 g2 gw gmt g8 T W6 v ids n (.slice none 0 0) [] n8 r1 r2 := by
 have b0 : w.heap[g8]? = some (.cells #[.slice none 0 0, .int .i64 0, .int .i64 0, .int .i64 0] 26 (0, 0)) := hb
 have b1 := blk_put b0 0 (.slice none 0 0) (cs' := #[.slice none 0 0, .int .i64 0, .int .i64 0, .int .i64 0]) rfl
 have b2 := blk_put b1 1 (.int .i64 n8) (cs' := #[.slice none 0 0, .int .i64 n8, .int .i64 0, .int .i64 0]) rfl
 have b3 := blk_put b2 2 (.int .i64 r1) (cs' := #[.slice none 0 0, .int .i64 n8, .int .i64 r1, .int .i64 0]) rfl
 have b4 := blk_put b3 3 (.int .i64 r2) (cs' := #[.slice none 0 0, .int .i64 n8, .int .i64 r1, .int .i64 r2]) rfl
 exact ⟨(((h.far b0 h8 n1 n2 0 _).far b1 h8 n1 n2 1 _).far b2 h8 n1 n2 2 _).far b3 h8 n1 n2 3 _, b4, h8, n1, n2, Kd.S_nil _ _ _ _ _⟩
theorem OSt.push {w0 w w1 : World} {g1 g2 gw gmt g8 : Nat} {T W6 : Array Value} {v u u1 : Value} {ids : List Int} {n : Nat} {out out1 : List Nod} {n8 r1 r2 : Int} (h : OSt w0 w g1 g2 gw gmt g8 T W6 v ids n u out n8 r1 r2) (hs : Kd.S k44 44 w1 w0.heap.size (fun _ => True) u1 out1) (hb : Below w0.heap.size w0 w1) (hg : w.grownBy w1 u.ownBlock) :
  OSt w0 (w1.setCell ⟨g8, 0, none⟩ u1) g1 g2 gw gmt g8 T W6 v ids n u1 out1 n8 r1 r2 := by
 have b8 := blk_grown h.b8 hg (Kd.S_ne h.s h.b8 (by decide))
 exact ⟨(h.c.grown h.s hb hg).far b8 h.e8 h.n1 h.n2 0 u1, blk_put b8 0 u1 rfl, h.e8, h.n1, h.n2, Kd.S_set hs b8 (by decide) 0 u1⟩
structure NSt (wr w : World) (gb : Nat) (x0 x1 x2 x3 x4 : Int) (x5 : ByteArray) (u : Value) (es : List Ent) : Prop where
 hb : Below wr.heap.size wr w
 bn : w.heap[gb]? = some (.cells #[.int .i64 x0, .int .i64 x1, .int .i64 x2, .int .i64 x3, .int .i64 x4, .string x5, u] 44 (0, 0))
 en : wr.heap.size ≤ gb
 r : Kd.R k61 61 w wr.heap.size (fun _ => True) u es
theorem NSt.below {wr w w' : World} {gb : Nat} {x0 x1 x2 x3 x4 : Int} {x5 : ByteArray} {u : Value} {es : List Ent} (h : NSt wr w gb x0 x1 x2 x3 x4 x5 u es) (hb : Below w.heap.size w w') : NSt wr w' gb x0 x1 x2 x3 x4 x5 u es :=
 ⟨below_step h.hb hb, blk_below h.bn hb, h.en, Kd.R_below h.r hb⟩
theorem NSt.init {wr w w1 : World} {gb : Nat} {x0 x1 x2 x3 x4 : Int} {x5 : ByteArray} {u : Value} {es : List Ent} (hb : Below wr.heap.size wr w) (hr : Kd.R k61 61 w wr.heap.size (fun _ => True) u es) (hw : Below w.heap.size w w1) (hbn : w1.heap[gb]? = some (.cells zN 44 (0, 0))) (hg : gb = w.heap.size) :
  NSt wr (w1.setCells gb 0 (celN x0 x1 x2 x3 x4 x5 u).toList) gb x0 x1 x2 x3 x4 x5 u es := by
 show NSt wr (((((((w1.setCell ⟨gb, 0, none⟩ (.int .i64 x0)).setCell ⟨gb, 1, none⟩ (.int .i64 x1)).setCell ⟨gb, 2, none⟩ (.int .i64 x2)).setCell ⟨gb, 3, none⟩ (.int .i64 x3)).setCell ⟨gb, 4, none⟩ (.int .i64 x4)).setCell ⟨gb, 5, none⟩ (.string x5)).setCell ⟨gb, 6, none⟩ u) gb x0 x1 x2 x3 x4 x5 u es
 have e : wr.heap.size ≤ gb := by rw [hg]; exact below_size hb
 have b0 : w1.heap[gb]? = some (.cells #[.int .i64 0, .int .i64 0, .int .i64 0, .int .i64 0, .int .i64 0, .string (⟨#[]⟩ : ByteArray), .slice none 0 0] 44 (0, 0)) := hbn
 have r0 := Kd.R_below hr hw
 have b1 := blk_put b0 0 (.int .i64 x0) (cs' := #[.int .i64 x0, .int .i64 0, .int .i64 0, .int .i64 0, .int .i64 0, .string (⟨#[]⟩ : ByteArray), .slice none 0 0]) rfl
 have b2 := blk_put b1 1 (.int .i64 x1) (cs' := #[.int .i64 x0, .int .i64 x1, .int .i64 0, .int .i64 0, .int .i64 0, .string (⟨#[]⟩ : ByteArray), .slice none 0 0]) rfl
 have b3 := blk_put b2 2 (.int .i64 x2) (cs' := #[.int .i64 x0, .int .i64 x1, .int .i64 x2, .int .i64 0, .int .i64 0, .string (⟨#[]⟩ : ByteArray), .slice none 0 0]) rfl
 have b4 := blk_put b3 3 (.int .i64 x3) (cs' := #[.int .i64 x0, .int .i64 x1, .int .i64 x2, .int .i64 x3, .int .i64 0, .string (⟨#[]⟩ : ByteArray), .slice none 0 0]) rfl
 have b5 := blk_put b4 4 (.int .i64 x4) (cs' := #[.int .i64 x0, .int .i64 x1, .int .i64 x2, .int .i64 x3, .int .i64 x4, .string (⟨#[]⟩ : ByteArray), .slice none 0 0]) rfl
 have b6 := blk_put b5 5 (.string x5) (cs' := #[.int .i64 x0, .int .i64 x1, .int .i64 x2, .int .i64 x3, .int .i64 x4, .string x5, .slice none 0 0]) rfl
 have b7 := blk_put b6 6 u (cs' := #[.int .i64 x0, .int .i64 x1, .int .i64 x2, .int .i64 x3, .int .i64 x4, .string x5, u]) rfl
 refine ⟨below_set (below_set (below_set (below_set (below_set (below_set (below_set (below_step hb hw) e) e) e) e) e) e) e, b7, e, ?_⟩
 exact Kd.R_set (Kd.R_set (Kd.R_set (Kd.R_set (Kd.R_set (Kd.R_set (Kd.R_set r0 b0 (by decide) 0 _) b1 (by decide) 1 _) b2 (by decide) 2 _) b3 (by decide) 3 _) b4 (by decide) 4 _) b5 (by decide) 5 _) b6 (by decide) 6 _
theorem store_node {ops : Array Oper} {rest : List Oper} {op : Oper} {a : Act} {Q : Exit → Act → World → Prop} {wr w w1 : World} {gb : Nat} {x0 x1 x2 x3 x4 : Int} {x5 : ByteArray} {A : Option Addr} {n c : Nat} {es : List Ent} (hgd : op.guard = none) (hd : op.dst = none) (x y : Operand) (ho : op.op = .store 44 x y)
  (hx : a.eval x = .pointer (some ⟨gb, 0, none⟩)) (hy : a.eval y = .agg (celN x0 x1 x2 x3 x4 x5 (.slice A n c))) (hb : Below wr.heap.size wr w) (hr : Kd.R k61 61 w wr.heap.size (fun _ => True) (.slice A n c) es) (hw : Below w.heap.size w w1) (hbn : w1.heap[gb]? = some (.cells zN 44 (0, 0))) (hg : gb = w.heap.size)
  (h : ∀ w2, NSt wr w2 gb x0 x1 x2 x3 x4 x5 (.slice A n c) es → wpList Tryd.prog ops Q rest (a.put none undef) w2) : wpList Tryd.prog ops Q (op :: rest) a w1 := by
 refine wpList_store_mid hgd 44 x y ho gb 0 (celN x0 x1 x2 x3 x4 x5 (.slice A n c)) hx hy (there_of hbn (Nat.le_refl 7)) sizeN (celN_one _ _ _ _ _ _ _ _ _) ?_
 rw [hd]
 exact h _ (NSt.init hb hr hw hbn hg)
theorem NSt.setId {wr w : World} {gb : Nat} {y x1 x2 x3 x4 : Int} {x5 : ByteArray} {u : Value} {es : List Ent} (h : NSt wr w gb y x1 x2 x3 x4 x5 u es) (x0 : Int) : NSt wr (w.setCell ⟨gb, 0, none⟩ (.int .i64 x0)) gb x0 x1 x2 x3 x4 x5 u es :=
 ⟨below_set h.hb h.en, blk_put h.bn 0 (.int .i64 x0) rfl, h.en, Kd.R_set h.r h.bn (by decide) 0 _⟩
theorem put4 {w : World} {g t : Nat} {y0 y1 y2 y3 : Value} (h : w.heap[g]? = some (.cells #[y0, y1, y2, y3] t (0, 0))) (x0 x1 x2 x3 : Value) : ((((w.setCell ⟨g, 0, none⟩ x0).setCell ⟨g, 1, none⟩ x1).setCell ⟨g, 2, none⟩ x2).setCell ⟨g, 3, none⟩ x3).heap[g]? = some (.cells #[x0, x1, x2, x3] t (0, 0)) :=
 blk_put (blk_put (blk_put (blk_put h 0 x0 (cs' := #[x0, y1, y2, y3]) rfl) 1 x1 (cs' := #[x0, x1, y2, y3]) rfl) 2 x2 (cs' := #[x0, x1, x2, y3]) rfl) 3 x3 (cs' := #[x0, x1, x2, x3]) rfl
theorem get_in (l : List Nod) (a1 a2 a3 : Int) (hl : l.length ≤ 512) (hr : Rises l) (hb : ∀ x ∈ l, x.f6.length ≤ 5864062014805) (id : Int) (h : id ∈ idsL l) :
  ∃ x ∈ l, nodeL l id = some x ∧ Evt (fun k => tree_Get.f k l a1 a2 a3 id) (x.f0, x.f1, x.f2, x.f3, x.f4, x.f5, x.f6, true) := by
 obtain ⟨x, hx, he⟩ := mem_ids.1 h
 obtain ⟨t, ht, rfl⟩ := List.getElem_of_mem hx
 refine ⟨l[t], hx, by rw [← he]; exact nodeL_at hr t ht, ?_⟩
 obtain ⟨K, hK⟩ := place_in l a1 a2 a3 (by omega) hr t ht
 refine ⟨K, fun k hk => ?_⟩
 have h1 : tree_place.f k l a1 a2 a3 id = some ((t : Int), true) := by have := hK k hk; rw [he] at this; exact this
 show tree_Get.f k l a1 a2 a3 id = _
 unfold tree_Get.f
 have hbl := hb _ hx
 rw [h1, Option.bind_some, if_pos rfl, if_pos (by omega), if_pos (by omega), rdN l t ht]
 have : api_Entry_65.f l[t].f6 = some l[t].f6 := by unfold api_Entry_65.f; first | rfl | (rw [if_pos (by omega)])
 rw [this]; rfl
theorem put4S {w : World} {g base : Nat} {y0 y1 y2 y3 u : Value} {out : List Nod} (hs : Kd.S k44 44 w base (fun _ => True) u out) (h : w.heap[g]? = some (.cells #[y0, y1, y2, y3] 26 (0, 0))) (x0 x1 x2 x3 : Value) : Kd.S k44 44 ((((w.setCell ⟨g, 0, none⟩ x0).setCell ⟨g, 1, none⟩ x1).setCell ⟨g, 2, none⟩ x2).setCell ⟨g, 3, none⟩ x3) base (fun _ => True) u out :=
 have b1 := blk_put h 0 x0 (cs' := #[x0, y1, y2, y3]) rfl
 have b2 := blk_put b1 1 x1 (cs' := #[x0, x1, y2, y3]) rfl
 have b3 := blk_put b2 2 x2 (cs' := #[x0, x1, x2, y3]) rfl
 Kd.S_set (Kd.S_set (Kd.S_set (Kd.S_set hs h (by decide) 0 _) b1 (by decide) 1 _) b2 (by decide) 2 _) b3 (by decide) 3 _
theorem slice_next {w : World} {e base : Nat} {ok : Nat → Prop} {v : Value} {l : List Nod} {ids : List Int} {i : Nat} {x : Nod} (h : Kd.S k44 e w base ok v ((List.range i).map (nodN l ids) ++ [x])) : ∃ A c, v = .slice A (i + 1) c := by
 obtain ⟨A, c, e⟩ := Kd.S_slice h
 rw [List.length_append, List.length_map, List.length_range, List.length_singleton] at e
 exact ⟨A, c, e⟩
theorem canM_none {l : List Nod} {a1 a2 a3 : Int} (h : ((wid l a1).map (·.1)).length = 0) : canM l a1 a2 a3 = ([], 0, 0, 0, 80) := by unfold canM; rw [if_pos h]
theorem canM_some {l : List Nod} {a1 a2 a3 : Int} (h : ¬ ((wid l a1).map (·.1)).length = 0) : canM l a1 a2 a3 = (canN l ((wid l a1).map (·.1)), (((wid l a1).map (·.1)).length : Int), a2, a3, 0) := by unfold canM; rw [if_neg h]
set_option maxHeartbeats 8000000 in
set_option maxRecDepth 100000 in
theorem canon_any (A : Option Addr) (c : Nat) (l : List Nod) (a1 a2 a3 : Int) (w : World) (hr0 : Kd.C k44 w A l.length l) (hc00 : l.length ≤ c) (hE : eOK l) :
  Calls Tryd.prog 24 #[.agg #[.slice A l.length c, .int .i64 a1, .int .i64 a2, .int .i64 a3]] w fun e w' => ∃ v0_ : Value, e = .returned (.tuple #[.agg #[v0_, .int .i64 (canM l a1 a2 a3).2.1, .int .i64 (canM l a1 a2 a3).2.2.1, .int .i64 (canM l a1 a2 a3).2.2.2.1], .int .i64 (canM l a1 a2 a3).2.2.2.2]) ∧ Kd.S k44 44 w' w.heap.size (fun _ => True) v0_ (canM l a1 a2 a3).1 ∧ Below w.heap.size w w' := by
 have hu26 := Tryd.underlying26
 have hu83 := Tryd.underlying83
 have hmm := @run_makeMap Tryd.prog
 have HR0 := Lib.hid hr0
 have HC0 := Lib.hid hc00
 have HEE := Lib.hid hE
 have hlen := (wid_props l a1).2.2
 have HPR := Lib.hid (wid_props l a1)
 clear hr0 hc00
 generalize hids : (wid l a1).map (·.1) = ids at hlen HPR
 have HLN := Lib.hid hlen
 by_cases h0 : ids.length = 0
 ·
  rw [canM_none (by rw [hids]; exact h0)]
  have b0 : ((ids.length : Int) == 0) = true := beq_iff_eq.mpr (by omega)
  clear hE hlen h0
  go_enter Tryd.func24, Tryd.ntmps24
  go_wp2_with (first | ((with_reducible refine gate_dst (N := 1) rfl ?_); refine box_event ?hg (N := 1) ?hd (cs := #[.slice A l.length c, .int .i64 a1, .int .i64 a2, .int .i64 a3]) (t := 26) ?hr ?_; (case hd => rfl); (case hg => rfl); (case hr => first | (go_simp; done) | (go_simp; rfl)); intro g1 hg1 w1 hbox hb; have B1 := Lib.hid hbox; have HB1 := Lib.hid (below_step (Below.refl w.heap.size w) hb); have E1 : Hid (w.heap.size ≤ g1) := Lib.hid (by rw [hg1]; exact Nat.le_refl _); clear hbox hb hg1) | ((with_reducible refine gate_dst (N := 2) rfl ?_); refine box_event ?hg (N := 2) ?hd (cs := zT) (t := 26) ?hr ?_; (case hd => rfl); (case hg => rfl); (case hr => first | (go_simp; done) | (go_simp; rfl)); intro g2 hg2 w2 hbox hb; have N12 : Hid (g1 ≠ g2) := Lib.hid (by rw [hg2]; exact Nat.ne_of_lt (blk_lt B1.out)); have C1 := Lib.hid (blk_below B1.out hb); have B2 := Lib.hid hbox; have HB2 := Lib.hid (below_step HB1.out hb); have E2 : Hid (w.heap.size ≤ g2) := Lib.hid (by rw [hg2]; exact below_size HB1.out); have d0 : w2.cell? ⟨g1, 0, none⟩ = some (.slice A l.length c) := (blk_cell C1.out 0).trans rfl; have d1 : w2.cell? ⟨g1, 1, none⟩ = some (.int .i64 a1) := (blk_cell C1.out 1).trans rfl; have d2 : w2.cell? ⟨g1, 2, none⟩ = some (.int .i64 a2) := (blk_cell C1.out 2).trans rfl; have d3 : w2.cell? ⟨g1, 3, none⟩ = some (.int .i64 a3) := (blk_cell C1.out 3).trans rfl; clear hbox hb hg2) | (go_at_call 64; (with_reducible refine (walked_any l A c a1 a2 a3 _ (Kd.C_below HR0.out HB2.out) HC0.out HEE.out).mono ?_); rintro e w3 ⟨gw, gm, v, rfl, hst⟩; rw [hids] at hst; have HST := Lib.hid hst; obtain ⟨A2, c2, ev, _⟩ := Kd.Q_slice hst.q; subst ev; clear hst d0 d1 d2 d3; have f4 : w3.cell? ⟨gw, 4, none⟩ = some (.slice A2 ids.length c2) := (blk_cell HST.out.bk 4).trans rfl; have HB4 := Lib.hid (below_step HB2.out HST.out.hb); have D2 := Lib.hid (blk_below B2.out HST.out.hb); clear HST; have k0 : w3.cell? ⟨g2, 0, none⟩ = some (.slice none 0 0) := (blk_cell D2.out 0).trans rfl; have k1 : w3.cell? ⟨g2, 1, none⟩ = some (.int .i64 0) := (blk_cell D2.out 1).trans rfl; have k2 : w3.cell? ⟨g2, 2, none⟩ = some (.int .i64 0) := (blk_cell D2.out 2).trans rfl; have k3 : w3.cell? ⟨g2, 3, none⟩ = some (.int .i64 0) := (blk_cell D2.out 3).trans rfl; have f0 := blk_frozen D2.out 0; have f1 := blk_frozen D2.out 1; have f2 := blk_frozen D2.out 2; have f3 := blk_frozen D2.out 3))
  refine bodyPost_ret (results_ct rfl _ _ g2 26 #[.slice none 0 0, .int .i64 0, .int .i64 0, .int .i64 0] (0, 0) _ rfl (put4 D2.out _ _ _ _) Tryd.underlying26 rfl (by kernel_rfl)) rfl ?_
  exact ⟨_, rfl, Kd.S_nil _ _ _ _ _, below_set (below_set (below_set (below_set HB4.out E2.out) E2.out) E2.out) E2.out⟩
 ·
  have hc0 : chk l a1 = 0 := by
   rcases chk_two l a1 with h | h
   ·
    exact h
   ·
    exfalso; apply h0
    rw [← hids]
    unfold wid; rw [if_neg (by rw [h]; decide)]; rfl
  have hcm := canM_some (l := l) (a1 := a1) (a2 := a2) (a3 := a3) (by rw [hids]; exact h0)
  rw [hids] at hcm
  rw [hcm]
  have b0 : ((ids.length : Int) == 0) = false := beq_eq_false_iff_ne.mpr (by omega)
  have hcf := chk_facts hc0
  have HGET : Hid (∀ i (h : i < ids.length), ∃ (x : Nod) (K : Nat), nodN l ids i = ⟨wrap64 ((i : Int) + 1), x.f1, x.f2, x.f3, x.f4, x.f5, x.f6.map (entN ids)⟩ ∧ x.f6.length ≤ 5864062014805 ∧ tree_Get.f K l a1 a2 a3 ids[i] = some (x.f0, x.f1, x.f2, x.f3, x.f4, x.f5, x.f6, true)) :=
   Lib.hid (fun i h => by
    obtain ⟨x, hx, hn, K, hK⟩ := get_in l a1 a2 a3 hcf.2.2.1 hcf.2.2.2.1 (fun x hx => hE hcf.2.2.1 x hx) ids[i] (HPR.out.2.1 _ (List.getElem_mem h))
    refine ⟨x, K, ?_, hE hcf.2.2.1 x hx, hK K (Nat.le_refl _)⟩
    unfold nodN; rw [rd_int ids i h, hn])
  clear hE hlen hc0 hcm hcf HPR
  go_enter Tryd.func24, Tryd.ntmps24
  go_wp2_with (first | ((with_reducible refine gate_dst (N := 1) rfl ?_); refine box_event ?hg (N := 1) ?hd (cs := #[.slice A l.length c, .int .i64 a1, .int .i64 a2, .int .i64 a3]) (t := 26) ?hr ?_; (case hd => rfl); (case hg => rfl); (case hr => first | (go_simp; done) | (go_simp; rfl)); intro g1 hg1 w1 hbox hb; have B1 := Lib.hid hbox; have HB1 := Lib.hid (below_step (Below.refl w.heap.size w) hb); have E1 : Hid (w.heap.size ≤ g1) := Lib.hid (by rw [hg1]; exact Nat.le_refl _); clear hbox hb hg1) | ((with_reducible refine gate_dst (N := 2) rfl ?_); refine box_event ?hg (N := 2) ?hd (cs := zT) (t := 26) ?hr ?_; (case hd => rfl); (case hg => rfl); (case hr => first | (go_simp; done) | (go_simp; rfl)); intro g2 hg2 w2 hbox hb; have N12 : Hid (g1 ≠ g2) := Lib.hid (by rw [hg2]; exact Nat.ne_of_lt (blk_lt B1.out)); have C1 := Lib.hid (blk_below B1.out hb); have B2 := Lib.hid hbox; have HB2 := Lib.hid (below_step HB1.out hb); have E2 : Hid (w.heap.size ≤ g2) := Lib.hid (by rw [hg2]; exact below_size HB1.out); have d0 : w2.cell? ⟨g1, 0, none⟩ = some (.slice A l.length c) := (blk_cell C1.out 0).trans rfl; have d1 : w2.cell? ⟨g1, 1, none⟩ = some (.int .i64 a1) := (blk_cell C1.out 1).trans rfl; have d2 : w2.cell? ⟨g1, 2, none⟩ = some (.int .i64 a2) := (blk_cell C1.out 2).trans rfl; have d3 : w2.cell? ⟨g1, 3, none⟩ = some (.int .i64 a3) := (blk_cell C1.out 3).trans rfl; clear hbox hb hg2) | (go_at_call 64; (with_reducible refine (walked_any l A c a1 a2 a3 _ (Kd.C_below HR0.out HB2.out) HC0.out HEE.out).mono ?_); rintro e w3 ⟨gw, gm, v, rfl, hst⟩; rw [hids] at hst; have HST := Lib.hid hst; obtain ⟨A2, c2, ev, _⟩ := Kd.Q_slice hst.q; subst ev; clear hst d0 d1 d2 d3; have f4 : w3.cell? ⟨gw, 4, none⟩ = some (.slice A2 ids.length c2) := (blk_cell HST.out.bk 4).trans rfl) | ((with_reducible refine gate_dst (N := 23) rfl ?_); refine mk_event ?hg (N := 23) ?hd ?hr ?_; (case hd => rfl); (case hg => rfl); (case hr => first | (go_simp; done) | (go_simp; rfl)); intro gmt hgmt w4 hmap hb; have CS : Hid (CSt w w4 g1 g2 gw gmt #[.slice A l.length c, .int .i64 a1, .int .i64 a2, .int .i64 a3] #[.slice A l.length c, .int .i64 a1, .int .i64 a2, .int .i64 a3, .slice A2 ids.length c2, .map (some gm)] (.slice A2 ids.length c2) ids 0) := Lib.hid ⟨below_step (below_step HB2.out HST.out.hb) hb, blk_below (blk_below C1.out HST.out.hb) hb, blk_below (blk_below B2.out HST.out.hb) hb, blk_below HST.out.bk hb, E1.out, E2.out, Nat.le_trans (below_size HB2.out) HST.out.ge, by rw [hgmt]; exact below_size (below_step HB2.out HST.out.hb), Kd.Q_below (Kd.Q_lower HST.out.q (below_size HB2.out)) hb, hmap⟩; clear f4 HST hmap hb hgmt HB1 HB2 B1 B2 C1; have f4 : w4.cell? ⟨gw, 4, none⟩ = some (.slice A2 ids.length c2) := (blk_cell CS.out.b4 4).trans rfl))
  go_loopw [29] (fun s29 wr => ∃ i : Nat, i ≤ ids.length ∧ s29 = .int .i64 i ∧ Hid (CSt w wr g1 g2 gw gmt #[.slice A l.length c, .int .i64 a1, .int .i64 a2, .int .i64 a3] #[.slice A l.length c, .int .i64 a1, .int .i64 a2, .int .i64 a3, .slice A2 ids.length c2, .map (some gm)] (.slice A2 ids.length c2) ids i)) (fun s29 _ => ids.length - (intOf s29).toNat)
  case atStart => exact ⟨0, Nat.zero_le _, rfl, CS⟩
  case round =>
   clear CS f4
   obtain ⟨i, hi, rfl, HC⟩ := hrel
   by_cases hlt : i < ids.length
   ·
    have i0 : decide (0 ≤ (i : Int)) = true := decide_eq_true (by omega)
    have i1 : decide ((i : Int) < (ids.length : Int)) = true := decide_eq_true (by omega)
    obtain ⟨ad, ea, hx⟩ := Kd.at_int (Kd.Q_reads' HC.out.q).2.2 (i : Int) (by omega) (by omega)
    cases ea
    rw [Int.toNat_natCast] at hx
    have HWR : Hid (wrap64 ((i : Int) + 1) = ((i + 1 : Nat) : Int)) := Lib.hid (by have := HLN.out; unfold wrap64; omega)
    have HLT := Lib.hid hlt
    clear hi hlt
    go_wp2_with (refine mp_put rfl (Or.inl rfl) HC.out.mp (keyI Tryd.underlying3) Tryd.underlying75 rfl (rd ids (i : Int)) (wrap64 ((i : Int) + 1)) (by rfl) (by rfl) ?_; intro wM hM1 hgM; have HC2 := Lib.hid (HC.out.update (m := i + 1) hM1 hgM); clear hM1 hgM)
    go_roundw
    case rel => exact ⟨i + 1, HLT.out, by rw [HWR.out], HC2⟩
    case measure => exact meas_ _ _ HWR.out HLT.out
   ·
    obtain rfl : i = ids.length := by omega
    clear hlt hi
    have f4 : wr.cell? ⟨gw, 4, none⟩ = some (.slice A2 ids.length c2) := (blk_cell HC.out.b4 4).trans rfl
    have d2 : wr.cell? ⟨g1, 2, none⟩ = some (.int .i64 a2) := (blk_cell HC.out.b1 2).trans rfl
    have d3 : wr.cell? ⟨g1, 3, none⟩ = some (.int .i64 a3) := (blk_cell HC.out.b1 3).trans rfl
    go_wp2
    refine start_ (n := 10) (S := (fun w' => w'.cell? ⟨gw, 4, none⟩ = some (.slice A2 ids.length c2) ∧ w'.cell? ⟨g1, 2, none⟩ = some (.int .i64 a2) ∧ w'.cell? ⟨g1, 3, none⟩ = some (.int .i64 a3))) (ds := [9]) #[false, false, false, false, false, false, false, false, false, false] (by kernel_rfl) rfl rfl ⟨f4, d2, d3⟩ (fun hHeld => ?_)
    have HCd := Lib.hid (HC.out.below ((Below.refl _ wr).drew))
    clear HC f4 d2 d3
    generalize World.drew _ = wd at HCd hHeld ⊢
    iterate 5 (first | ((first | refine takeS_ 0 (N := some 39) (v := ?_) (a' := ?_) rfl rfl (by decide +kernel) (fun _ _ _ h => h) (Or.inl ⟨by rfl, ?_⟩) hHeld ?_ ?_ | refine takeS_ 1 (N := some 40) (v := ?_) (a' := ?_) rfl rfl (by decide +kernel) (fun _ _ _ h => h) (Or.inl ⟨by rfl, ?_⟩) hHeld ?_ ?_ | refine takeS_ 2 (N := some 41) (v := ?_) (a' := ?_) rfl rfl (by decide +kernel) (fun _ _ _ h => h) (Or.inl ⟨by rfl, ?_⟩) hHeld ?_ ?_ | refine takeS_ 5 (N := some 44) (v := ?_) (a' := ?_) rfl rfl (by decide +kernel) (fun _ _ _ h => h) (Or.inl ⟨by rfl, ?_⟩) hHeld ?_ ?_ | refine takeS_ 3 (N := some 42) (v := ?_) (a' := ?_) rfl rfl (by decide +kernel) (fun _ _ _ h => h) (Or.inl ⟨by rfl, ?_⟩) hHeld ?_ ?_); rotate_left; (rintro w' ⟨s0, s1, s2⟩; go_simp; first | done | (with_reducible rfl) | rfl); rotate_left; (simp only [Act.put, List.setIfInBounds_toArray, List.set_cons_zero, List.set_cons_succ, i64_w, i32_w]; rfl)) | ((first | refine takeS_ 0 (N := some 39) (v := undef) (a' := ?_) rfl rfl (by decide +kernel) (fun _ _ _ h => h) (Or.inr ⟨by rfl, rfl⟩) hHeld ?_ ?_ | refine takeS_ 1 (N := some 40) (v := undef) (a' := ?_) rfl rfl (by decide +kernel) (fun _ _ _ h => h) (Or.inr ⟨by rfl, rfl⟩) hHeld ?_ ?_ | refine takeS_ 2 (N := some 41) (v := undef) (a' := ?_) rfl rfl (by decide +kernel) (fun _ _ _ h => h) (Or.inr ⟨by rfl, rfl⟩) hHeld ?_ ?_ | refine takeS_ 5 (N := some 44) (v := undef) (a' := ?_) rfl rfl (by decide +kernel) (fun _ _ _ h => h) (Or.inr ⟨by rfl, rfl⟩) hHeld ?_ ?_ | refine takeS_ 3 (N := some 42) (v := undef) (a' := ?_) rfl rfl (by decide +kernel) (fun _ _ _ h => h) (Or.inr ⟨by rfl, rfl⟩) hHeld ?_ ?_); rotate_left; (simp only [Act.put, List.setIfInBounds_toArray, List.set_cons_zero, List.set_cons_succ, i64_w, i32_w]; rfl)))
    iterate 3 (first | ((first | refine takeS_ 4 (N := some 43) (v := ?_) (a' := ?_) rfl rfl (by decide +kernel) (fun _ _ _ h => h) (Or.inl ⟨by rfl, ?_⟩) hHeld ?_ ?_ | refine takeS_ 6 (N := some 45) (v := ?_) (a' := ?_) rfl rfl (by decide +kernel) (fun _ _ _ h => h) (Or.inl ⟨by rfl, ?_⟩) hHeld ?_ ?_ | refine takeS_ 7 (N := some 46) (v := ?_) (a' := ?_) rfl rfl (by decide +kernel) (fun _ _ _ h => h) (Or.inl ⟨by rfl, ?_⟩) hHeld ?_ ?_); rotate_left; (rintro w' ⟨s0, s1, s2⟩; go_simp; first | done | (with_reducible rfl) | rfl); rotate_left; (simp only [Act.put, List.setIfInBounds_toArray, List.set_cons_zero, List.set_cons_succ, i64_w, i32_w]; rfl)) | ((first | refine takeS_ 4 (N := some 43) (v := undef) (a' := ?_) rfl rfl (by decide +kernel) (fun _ _ _ h => h) (Or.inr ⟨by rfl, rfl⟩) hHeld ?_ ?_ | refine takeS_ 6 (N := some 45) (v := undef) (a' := ?_) rfl rfl (by decide +kernel) (fun _ _ _ h => h) (Or.inr ⟨by rfl, rfl⟩) hHeld ?_ ?_ | refine takeS_ 7 (N := some 46) (v := undef) (a' := ?_) rfl rfl (by decide +kernel) (fun _ _ _ h => h) (Or.inr ⟨by rfl, rfl⟩) hHeld ?_ ?_); rotate_left; (simp only [Act.put, List.setIfInBounds_toArray, List.set_cons_zero, List.set_cons_succ, i64_w, i32_w]; rfl)))
    refine oneS_ 8 (N := some 8) rfl rfl (by kernel_rfl) (by decide) (fun K hK => ?_)
    refine box_step ?hg (N := 8) ?hd (cs := zT) (t := 26) ?hr ?_; (case hd => rfl); (case hg => rfl); (case hr => first | (go_simp; done) | (go_simp; rfl))
    intro g8 hg8 w5 hbox hb
    have B8 := Lib.hid hbox
    have E8 : Hid (w.heap.size ≤ g8) := Lib.hid (by rw [hg8]; exact below_size HCd.out.hb)
    have N81 : Hid (g1 ≠ g8) := Lib.hid (by rw [hg8]; exact Nat.ne_of_lt (blk_lt HCd.out.b1))
    have N82 : Hid (g2 ≠ g8) := Lib.hid (by rw [hg8]; exact Nat.ne_of_lt (blk_lt HCd.out.b2))
    have HC5 := Lib.hid (HCd.out.below hb)
    clear hbox hb hg8 HCd
    refine hK.out _ _ ⟨(blk_cell HC5.out.b4 4).trans rfl, (blk_cell HC5.out.b1 2).trans rfl, (blk_cell HC5.out.b1 3).trans rfl⟩ (fun hHeld => ?_)
    clear hK K
    refine norm_ (a' := ?_) ?_ ?_
    rotate_left
    ·
     show Act.put _ (some 8) _ = _
     simp only [Act.put, List.setIfInBounds_toArray, List.set_cons_zero, List.set_cons_succ, i64_w, i32_w]
     rfl
    have k0 : w5.cell? ⟨g8, 0, none⟩ = some (.slice none 0 0) := (blk_cell B8.out 0).trans rfl
    have k1 : w5.cell? ⟨g8, 1, none⟩ = some (.int .i64 0) := (blk_cell B8.out 1).trans rfl
    have k2 : w5.cell? ⟨g8, 2, none⟩ = some (.int .i64 0) := (blk_cell B8.out 2).trans rfl
    have k3 : w5.cell? ⟨g8, 3, none⟩ = some (.int .i64 0) := (blk_cell B8.out 3).trans rfl
    have f0 := blk_frozen B8.out 0
    have f1 := blk_frozen B8.out 1
    have f2 := blk_frozen B8.out 2
    have f3 := blk_frozen B8.out 3
    refine lastS_ 9 (N := none) rfl rfl (by kernel_rfl) (by decide) (fun K hK => ?_)
    refine skip_ (w1 := ?_) (by rfl) rfl ?_ ?_
    rotate_left
    ·
     go_simp
     rfl
    refine hK.out _ _ ?_
    clear hK K
    refine done_ (by kernel_rfl) ?_
    have HO := Lib.hid (OSt.init HC5.out B8.out E8.out N81.out N82.out (ids.length : Int) a2 a3)
    clear k0 k1 k2 k3 f0 f1 f2 f3 B8 HC5 hHeld
    generalize (((w5.setCell ⟨g8, 0, none⟩ _).setCell ⟨g8, 1, none⟩ _).setCell ⟨g8, 2, none⟩ _).setCell ⟨g8, 3, none⟩ _ = w6 at HO ⊢
    have f4 : w6.cell? ⟨gw, 4, none⟩ = some (.slice A2 ids.length c2) := (blk_cell HO.out.c.b4 4).trans rfl
    go_wp2
    go_loopw [52] (fun s52 wr => ∃ (i : Nat) (u : Value), i ≤ ids.length ∧ s52 = .int .i64 i ∧ Hid (OSt w wr g1 g2 gw gmt g8 #[.slice A l.length c, .int .i64 a1, .int .i64 a2, .int .i64 a3] #[.slice A l.length c, .int .i64 a1, .int .i64 a2, .int .i64 a3, .slice A2 ids.length c2, .map (some gm)] (.slice A2 ids.length c2) ids ids.length u ((List.range i).map (nodN l ids)) (ids.length : Int) a2 a3)) (fun s52 _ => ids.length - (intOf s52).toNat)
    case atStart => exact ⟨0, .slice none 0 0, Nat.zero_le _, rfl, HO⟩
    case round =>
     clear HO f4
     obtain ⟨i, u, hi, rfl, HO⟩ := hrel
     by_cases hlt : i < ids.length
     ·
      obtain ⟨x, K, hX, hxl, hG⟩ := HGET.out i hlt
      have HX := Lib.hid hX
      have HXL := Lib.hid hxl
      have HG : Hid (tree_Get.f K l a1 a2 a3 (rd ids (i : Int)) = some (x.f0, x.f1, x.f2, x.f3, x.f4, x.f5, x.f6, true)) := Lib.hid (by rw [rd_int ids i hlt]; exact hG)
      have i0 : decide (0 ≤ (i : Int)) = true := decide_eq_true (by omega)
      have i1 : decide ((i : Int) < (ids.length : Int)) = true := decide_eq_true (by omega)
      obtain ⟨ad, ea, hx⟩ := Kd.at_int (Kd.Q_reads' HO.out.c.q).2.2 (i : Int) (by omega) (by omega)
      cases ea
      rw [Int.toNat_natCast] at hx
      have HWR : Hid (wrap64 ((i : Int) + 1) = ((i + 1 : Nat) : Int)) := Lib.hid (by have := HLN.out; unfold wrap64; omega)
      have HLT := Lib.hid hlt
      clear hi hlt hX hxl hG HGET
      have d0 : wr.cell? ⟨g1, 0, none⟩ = some (.slice A l.length c) := (blk_cell HO.out.c.b1 0).trans rfl
      have d1 : wr.cell? ⟨g1, 1, none⟩ = some (.int .i64 a1) := (blk_cell HO.out.c.b1 1).trans rfl
      have d2 : wr.cell? ⟨g1, 2, none⟩ = some (.int .i64 a2) := (blk_cell HO.out.c.b1 2).trans rfl
      have d3 : wr.cell? ⟨g1, 3, none⟩ = some (.int .i64 a3) := (blk_cell HO.out.c.b1 3).trans rfl
      rename World => wq
      go_upto_region 16 with (first | (go_at_call 26; (with_reducible refine (tree_Get.calls K _ _ l a1 a2 a3 (rd ids (i : Int)) x.f0 x.f1 x.f2 x.f3 x.f4 x.f5 x.f6 true _ (Kd.C_below HR0.out HO.out.c.hb) HC0.out HG.out).mono ?_); rintro e w5 ⟨v6, rfl, hr6, hb⟩; obtain ⟨A6, c6, e6⟩ := Kd.R_slice hr6; subst e6; have HB5 := Lib.hid hb; have HR6 := Lib.hid hr6; clear hb hr6 d0 d1 d2 d3) | ((with_reducible refine gate_dst (N := 11) rfl ?_); refine box_event ?hg (N := 11) ?hd (cs := zN) (t := 44) ?hr ?_; (case hd => rfl); (case hg => rfl); (case hr => first | (go_simp; done) | (go_simp; rfl)); intro gb hgb w7 hbox hb; refine store_node rfl rfl (.tmp 11) (.tmp 61) rfl (x0 := x.f0) (x1 := x.f1) (x2 := x.f2) (x3 := x.f3) (x4 := x.f4) (x5 := x.f5) rfl rfl HB5.out HR6.out hb hbox hgb ?_; clear hbox hb hgb HB5 HR6; intro w8 hn0; have HN0 := Lib.hid hn0; clear hn0; have z0 : w8.cell? ⟨gb, 0, none⟩ = some (.int .i64 x.f0) := (blk_cell HN0.out.bn 0).trans rfl; have y0 := blk_frozen HN0.out.bn 0))
      (try simp only [Act.put, List.setIfInBounds_toArray, List.set_cons_zero, List.set_cons_succ])
      have HN := Lib.hid (HN0.out.setId (wrap64 ((i : Int) + 1)))
      clear z0 y0 HN0
      generalize w8.setCell _ _ = w9 at HN ⊢
      have n6 : w9.cell? ⟨gb, 6, none⟩ = some (.slice A6 x.f6.length c6) := (blk_cell HN.out.bn 6).trans rfl
      go_wp2
      go_loopw [69] (fun s69 wr => ∃ (k : Nat) (A6 : Option Addr) (c6 : Nat), k ≤ x.f6.length ∧ s69 = .int .i64 k ∧ Hid (NSt wq wr gb (wrap64 ((i : Int) + 1)) x.f1 x.f2 x.f3 x.f4 x.f5 (.slice A6 x.f6.length c6) (((x.f6.take k).map (entN ids)) ++ x.f6.drop k))) (fun s69 _ => x.f6.length - (intOf s69).toNat)
      case atStart => exact ⟨0, A6, c6, Nat.zero_le _, rfl, Lib.hid (by rw [List.take_zero, List.map_nil, List.nil_append, List.drop_zero]; exact HN.out)⟩
      case round =>
       clear HN n6
       obtain ⟨k, A6, c6, hk, rfl, HN⟩ := hrel
       by_cases hlt : k < x.f6.length
       ·
        have hxs : (((x.f6.take k).map (entN ids)) ++ x.f6.drop k).length = x.f6.length := by rw [List.length_append, List.length_map, List.length_take, List.length_drop]; omega
        have hrd : rd_T61 (((x.f6.take k).map (entN ids)) ++ x.f6.drop k) (k : Int) = x.f6[k] := by
         rw [rdE _ k (by rw [hxs]; exact hlt), List.getElem_append_right (by rw [List.length_map, List.length_take]; omega)]
         simp only [List.length_map, List.length_take, List.getElem_drop]
         congr 1
         omega
        obtain ⟨name, node, hen⟩ : ∃ name node, x.f6[k] = ⟨name, node⟩ := ⟨_, _, rfl⟩
        have hset := rdE_set x.f6 (entN ids) k hlt
        rw [hen] at hrd hset
        rw [show entN ids ⟨name, node⟩ = ⟨name, gI (toMn ids ids.length) node⟩ from rfl] at hset
        have i2 : decide (0 ≤ (k : Int)) = true := decide_eq_true (by omega)
        have i3 : decide ((k : Int) < (x.f6.length : Int)) = true := decide_eq_true (by omega)
        have HWK : Hid (wrap64 ((k : Int) + 1) = ((k + 1 : Nat) : Int)) := Lib.hid (by have := HXL.out; unfold wrap64; omega)
        have HLK := Lib.hid hlt
        obtain ⟨go, cg, eg, hgb, hgl, hgc⟩ := Kd.R_form HN.out.r (by rw [hxs]; omega)
        rw [hxs] at eg
        cases eg
        have HMP := Lib.hid (HO.out.below HN.out.hb).c.mp
        have HND := Lib.hid (HN.out.below ((Below.refl _ wr).drew))
        have HGB := Lib.hid hgb
        have HNE : Hid (gb ≠ go) := Lib.hid (fun e => by obtain ⟨cells, hc⟩ := hgc; have h1 := HN.out.bn; rw [e, hc] at h1; injection h1 with h1; injection h1 with _ t; exact absurd t (by decide))
        clear hgb hgl hgc hk hlt hen
        obtain ⟨ce, hcl, hM, hcc, hfr⟩ := Kd.R_elem HND.out.r z61 (k : Int) (by omega) (by have := HLK.out; omega)
        obtain rfl := k61_openM hM
        have hx1 : (World.drew wr).cell? ⟨go, (k : Int).toNat * 2 + 1, none⟩ = some (.int .i64 node) := by have := hcc 1 _ rfl; rw [show ((((x.f6.take k).map (entN ids)) ++ x.f6.drop k).getD (k : Int).toNat z61) = ⟨name, node⟩ from hrd] at this; exact this
        have hf1 : (World.drew wr).frozen? ⟨go, (k : Int).toNat * 2 + 1, none⟩ = false := hfr 1
        have HSEG := Lib.hid ((Kd.R_seg HND.out.r (k : Int) (by omega) (by have := HLK.out; omega) (seg := [.int .i64 (gI (toMn ids ids.length) node)]) (j := 1) hcl hcc (show 2 ≤ 2 from by decide) (x' := (⟨name, gI (toMn ids ids.length) node⟩ : Ent)) (by have := k61_mkM (World.drew wr) wq.heap.size (fun _ => True) (⟨name, gI (toMn ids ids.length) node⟩ : Ent); rw [show ((((x.f6.take k).map (entN ids)) ++ x.f6.drop k).getD (k : Int).toNat z61) = ⟨name, node⟩ from hrd]; exact this) (fun _ hk => hk)).1)
        rw [Int.toNat_natCast, hset] at HSEG
        rw [Int.toNat_natCast] at hx1 hf1
        clear hcc hfr hM hcl hrd hset
        have n6 : wr.cell? ⟨gb, 6, none⟩ = some (.slice (some ⟨go, 0, none⟩) x.f6.length c6) := (blk_cell HN.out.bn 6).trans rfl
        go_wp2
        refine start_ (n := 14) (S := (fun w' => MapA KI KI w' gmt (toMn ids ids.length) ∧ w'.cell? ⟨gb, 6, none⟩ = some (.slice (some ⟨go, 0, none⟩) x.f6.length c6) ∧ w'.cell? ⟨go, k * 2 + 1, none⟩ = some (.int .i64 node))) (ds := [13]) #[false, false, false, false, false, false, false, false, false, false, false, false, false, false] (by kernel_rfl) rfl rfl ⟨HMP.out, n6, hx1⟩ (fun hHeld => ?_)
        clear n6 HN HMP
        generalize World.drew _ = wd at HND HSEG hx1 hf1 hHeld ⊢
        iterate 5 (first | ((first | refine takeS_ 0 (N := some 72) (v := ?_) (a' := ?_) rfl rfl (by decide +kernel) (fun _ _ _ h => h) (Or.inl ⟨by rfl, ?_⟩) hHeld ?_ ?_ | refine takeS_ 1 (N := some 73) (v := ?_) (a' := ?_) rfl rfl (by decide +kernel) (fun _ _ _ h => h) (Or.inl ⟨by rfl, ?_⟩) hHeld ?_ ?_ | refine takeS_ 2 (N := some 74) (v := ?_) (a' := ?_) rfl rfl (by decide +kernel) (fun _ _ _ h => h) (Or.inl ⟨by rfl, ?_⟩) hHeld ?_ ?_ | refine takeS_ 3 (N := some 75) (v := ?_) (a' := ?_) rfl rfl (by decide +kernel) (fun _ _ _ h => h) (Or.inl ⟨by rfl, ?_⟩) hHeld ?_ ?_ | refine takeS_ 4 (N := some 76) (v := ?_) (a' := ?_) rfl rfl (by decide +kernel) (fun _ _ _ h => h) (Or.inl ⟨by rfl, ?_⟩) hHeld ?_ ?_); rotate_left; (rintro w' ⟨sm, s0, s1⟩; go_simp; first | done | (with_reducible rfl) | rfl); rotate_left; (simp only [Act.put, List.setIfInBounds_toArray, List.set_cons_zero, List.set_cons_succ, i64_w, i32_w]; rfl)) | ((first | refine takeS_ 0 (N := some 72) (v := undef) (a' := ?_) rfl rfl (by decide +kernel) (fun _ _ _ h => h) (Or.inr ⟨by rfl, rfl⟩) hHeld ?_ ?_ | refine takeS_ 1 (N := some 73) (v := undef) (a' := ?_) rfl rfl (by decide +kernel) (fun _ _ _ h => h) (Or.inr ⟨by rfl, rfl⟩) hHeld ?_ ?_ | refine takeS_ 2 (N := some 74) (v := undef) (a' := ?_) rfl rfl (by decide +kernel) (fun _ _ _ h => h) (Or.inr ⟨by rfl, rfl⟩) hHeld ?_ ?_ | refine takeS_ 3 (N := some 75) (v := undef) (a' := ?_) rfl rfl (by decide +kernel) (fun _ _ _ h => h) (Or.inr ⟨by rfl, rfl⟩) hHeld ?_ ?_ | refine takeS_ 4 (N := some 76) (v := undef) (a' := ?_) rfl rfl (by decide +kernel) (fun _ _ _ h => h) (Or.inr ⟨by rfl, rfl⟩) hHeld ?_ ?_); rotate_left; (simp only [Act.put, List.setIfInBounds_toArray, List.set_cons_zero, List.set_cons_succ, i64_w, i32_w]; rfl)))
        iterate 5 (first | ((first | refine takeS_ 5 (N := some 77) (v := ?_) (a' := ?_) rfl rfl (by decide +kernel) (fun _ _ _ h => h) (Or.inl ⟨by rfl, ?_⟩) hHeld ?_ ?_ | refine takeS_ 6 (N := some 78) (v := ?_) (a' := ?_) rfl rfl (by decide +kernel) (fun _ _ _ h => h) (Or.inl ⟨by rfl, ?_⟩) hHeld ?_ ?_ | refine takeS_ 7 (N := some 79) (v := ?_) (a' := ?_) rfl rfl (by decide +kernel) (fun _ _ _ h => h) (Or.inl ⟨by rfl, ?_⟩) hHeld ?_ ?_ | refine takeS_ 8 (N := some 80) (v := ?_) (a' := ?_) rfl rfl (by decide +kernel) (fun _ _ _ h => h) (Or.inl ⟨by rfl, ?_⟩) hHeld ?_ ?_ | refine takeS_ 9 (N := some 81) (v := ?_) (a' := ?_) rfl rfl (by decide +kernel) (fun _ _ _ h => h) (Or.inl ⟨by rfl, ?_⟩) hHeld ?_ ?_); rotate_left; (rintro w' ⟨sm, s0, s1⟩; go_simp; first | done | (with_reducible rfl) | rfl); rotate_left; (simp only [Act.put, List.setIfInBounds_toArray, List.set_cons_zero, List.set_cons_succ, i64_w, i32_w]; rfl)) | ((first | refine takeS_ 5 (N := some 77) (v := undef) (a' := ?_) rfl rfl (by decide +kernel) (fun _ _ _ h => h) (Or.inr ⟨by rfl, rfl⟩) hHeld ?_ ?_ | refine takeS_ 6 (N := some 78) (v := undef) (a' := ?_) rfl rfl (by decide +kernel) (fun _ _ _ h => h) (Or.inr ⟨by rfl, rfl⟩) hHeld ?_ ?_ | refine takeS_ 7 (N := some 79) (v := undef) (a' := ?_) rfl rfl (by decide +kernel) (fun _ _ _ h => h) (Or.inr ⟨by rfl, rfl⟩) hHeld ?_ ?_ | refine takeS_ 8 (N := some 80) (v := undef) (a' := ?_) rfl rfl (by decide +kernel) (fun _ _ _ h => h) (Or.inr ⟨by rfl, rfl⟩) hHeld ?_ ?_ | refine takeS_ 9 (N := some 81) (v := undef) (a' := ?_) rfl rfl (by decide +kernel) (fun _ _ _ h => h) (Or.inr ⟨by rfl, rfl⟩) hHeld ?_ ?_); rotate_left; (simp only [Act.put, List.setIfInBounds_toArray, List.set_cons_zero, List.set_cons_succ, i64_w, i32_w]; rfl)))
        refine takeS_ 10 (N := some 82) (v := .int .i64 (gI (toMn ids ids.length) node)) (a' := ?_) rfl rfl (by kernel_rfl) (fun _ _ _ h => h) (Or.inl ⟨by rfl, ?_⟩) hHeld ?_ ?_
        ·
         rintro w' ⟨sm, s0, s1⟩
         have hlk1 := MapA.lookI sm Tryd.underlying75 zeroI node
         go_simp
         first | done | (with_reducible rfl) | rfl
        rotate_left
        ·
         simp only [Act.put, List.setIfInBounds_toArray, List.set_cons_zero, List.set_cons_succ, i64_w, i32_w]
         rfl
        iterate 2 (first | ((first | refine takeS_ 11 (N := some 83) (v := ?_) (a' := ?_) rfl rfl (by decide +kernel) (fun _ _ _ h => h) (Or.inl ⟨by rfl, ?_⟩) hHeld ?_ ?_ | refine takeS_ 12 (N := some 84) (v := ?_) (a' := ?_) rfl rfl (by decide +kernel) (fun _ _ _ h => h) (Or.inl ⟨by rfl, ?_⟩) hHeld ?_ ?_); rotate_left; (rintro w' ⟨sm, s0, s1⟩; go_simp; first | done | (with_reducible rfl) | rfl); rotate_left; (simp only [Act.put, List.setIfInBounds_toArray, List.set_cons_zero, List.set_cons_succ, i64_w, i32_w]; rfl)) | ((first | refine takeS_ 11 (N := some 83) (v := undef) (a' := ?_) rfl rfl (by decide +kernel) (fun _ _ _ h => h) (Or.inr ⟨by rfl, rfl⟩) hHeld ?_ ?_ | refine takeS_ 12 (N := some 84) (v := undef) (a' := ?_) rfl rfl (by decide +kernel) (fun _ _ _ h => h) (Or.inr ⟨by rfl, rfl⟩) hHeld ?_ ?_); rotate_left; (simp only [Act.put, List.setIfInBounds_toArray, List.set_cons_zero, List.set_cons_succ, i64_w, i32_w]; rfl)))
        refine lastS_ 13 (N := none) rfl rfl (by kernel_rfl) (by decide) (fun K hK => ?_)
        refine skip_ (w1 := ?_) (by rfl) rfl ?_ ?_
        rotate_left
        ·
         go_simp
         rfl
        refine hK.out _ _ ?_
        clear hK K
        refine done_ (by kernel_rfl) ?_
        have HN2 : Hid (NSt wq (wd.setCell ⟨go, k * 2 + 1, none⟩ (.int .i64 (gI (toMn ids ids.length) node))) gb (wrap64 ((i : Int) + 1)) x.f1 x.f2 x.f3 x.f4 x.f5 (.slice (some ⟨go, 0, none⟩) x.f6.length c6) (((x.f6.take (k + 1)).map (entN ids)) ++ x.f6.drop (k + 1))) :=
         Lib.hid ⟨below_set HND.out.hb HGB.out, blk_far HND.out.bn HNE.out _, HND.out.en, HSEG.out⟩
        clear hx1 hf1 hHeld HSEG HND
        generalize wd.setCell _ _ = we at HN2 ⊢
        go_wp2
        go_roundw
        case rel => exact ⟨k + 1, _, _, HLK.out, by rw [HWK.out], HN2⟩
        case measure => exact meas_ _ _ HWK.out HLK.out
       ·
        obtain rfl : k = x.f6.length := by omega
        rw [List.take_length, List.drop_length, List.append_nil] at HN
        clear hlt hk
        have HOW := Lib.hid (HO.out.below HN.out.hb)
        have m0 : wr.cell? ⟨g8, 0, none⟩ = some u := (blk_cell HOW.out.b8 0).trans rfl
        have n0 : wr.cell? ⟨gb, 0, none⟩ = some (.int .i64 (wrap64 ((i : Int) + 1))) := (blk_cell HN.out.bn 0).trans rfl
        have n1 : wr.cell? ⟨gb, 1, none⟩ = some (.int .i64 x.f1) := (blk_cell HN.out.bn 1).trans rfl
        have n2 : wr.cell? ⟨gb, 2, none⟩ = some (.int .i64 x.f2) := (blk_cell HN.out.bn 2).trans rfl
        have n3 : wr.cell? ⟨gb, 3, none⟩ = some (.int .i64 x.f3) := (blk_cell HN.out.bn 3).trans rfl
        have n4 : wr.cell? ⟨gb, 4, none⟩ = some (.int .i64 x.f4) := (blk_cell HN.out.bn 4).trans rfl
        have n5 : wr.cell? ⟨gb, 5, none⟩ = some (.string x.f5) := (blk_cell HN.out.bn 5).trans rfl
        have n6 : wr.cell? ⟨gb, 6, none⟩ = some (.slice A6 x.f6.length c6) := (blk_cell HN.out.bn 6).trans rfl
        have HNX : Hid ((List.range i).map (nodN l ids) ++ [(⟨wrap64 ((i : Int) + 1), x.f1, x.f2, x.f3, x.f4, x.f5, x.f6.map (entN ids)⟩ : Nod)] = (List.range (i + 1)).map (nodN l ids)) := Lib.hid (by rw [List.range_succ, List.map_append, ← HX.out]; rfl)
        go_wp2_with ((with_reducible refine gate_builtin (b := .append) (xs := #[.tmp 87, .tmp 89]) rfl ?_); at_builtin; refine Kd.S_append k44 (w0 := w) w.heap.size rfl (.tmp 87) (.tmp 89) 22 44 (.agg #[(.int .i64 0), (.int .i64 0), (.int .i64 0), (.int .i64 0), (.int .i64 0), (.string ⟨#[]⟩), (.slice none 0 0)]) 80 rfl Tryd.underlying22 info44 rfl (by decide) (by omega) u ((List.range i).map (nodN l ids)) (⟨wrap64 ((i : Int) + 1), x.f1, x.f2, x.f3, x.f4, x.f5, x.f6.map (entN ids)⟩ : Nod) [.int .i64 (wrap64 ((i : Int) + 1)), .int .i64 x.f1, .int .i64 x.f2, .int .i64 x.f3, .int .i64 x.f4, .string x.f5, .slice A6 x.f6.length c6] (fun _ => True) (fun k_ => some k_ = (Value.slice A6 x.f6.length c6).ownBlock) rfl rfl ?aP ?aK (fun _ _ => trivial) ?aO HOW.out.c.hb (below_size HOW.out.c.hb) ?aL ?_; (case aP => exact k44_mkM _ _ _ (⟨wrap64 ((i : Int) + 1), x.f1, x.f2, x.f3, x.f4, x.f5, x.f6.map (entN ids)⟩ : Nod) (Kd.R_tight rfl (Kd.R_lower (by have h_ := HN.out.r; exact h_) (below_size HO.out.c.hb)))); (case aK => exact fun k_ hk_ => ⟨trivial, fun e_ => by have h1 := Kd.R_base HN.out.r k_ hk_.symm; have h2 := Kd.S_lt HO.out.s k_ e_.symm; omega⟩); (case aO => exact Kd.S_mono (Kd.S_old HO.out.s HN.out.hb) (fun k_ hk_ => ⟨trivial, fun e_ => by have h1 := Kd.R_base HN.out.r k_ e_.symm; have h2 := hk_.2; omega⟩)); (case aL => have := HLN.out; have := HLT.out; rw [List.length_map, List.length_range]; omega); intro v1 w9 ho hb9 hg9 _; obtain ⟨A9, c9, e9⟩ := slice_next ho; subst e9; have HO2 := Lib.hid (HOW.out.push ho hb9 hg9); have p0 : w9.cell? ⟨g8, 0, none⟩ = some u := (blk_cell (blk_grown HOW.out.b8 hg9 (Kd.S_ne HOW.out.s HOW.out.b8 (by decide))) 0).trans rfl; have pf := blk_frozen (blk_grown HOW.out.b8 hg9 (Kd.S_ne HOW.out.s HOW.out.b8 (by decide))) 0; clear ho hb9 hg9)
        go_roundw
        case rel =>
         rw [HNX.out] at HO2
         exact ⟨i + 1, _, HLT.out, by rw [HWR.out], HO2⟩
        case measure => exact meas_ _ _ HWR.out HLT.out
     ·
      obtain rfl : i = ids.length := by omega
      clear hlt hi HGET
      have HFI : Hid ((List.range ids.length).map (nodN l ids) = canN l ids) := Lib.hid rfl
      rw [HFI.out] at HO
      obtain ⟨A9, c9, e9⟩ := Kd.S_slice HO.out.s
      subst e9
      have m0 : wr.cell? ⟨g8, 0, none⟩ = some (.slice A9 (canN l ids).length c9) := (blk_cell HO.out.b8 0).trans rfl
      have m1 : wr.cell? ⟨g8, 1, none⟩ = some (.int .i64 (ids.length : Int)) := (blk_cell HO.out.b8 1).trans rfl
      have m2 : wr.cell? ⟨g8, 2, none⟩ = some (.int .i64 a2) := (blk_cell HO.out.b8 2).trans rfl
      have m3 : wr.cell? ⟨g8, 3, none⟩ = some (.int .i64 a3) := (blk_cell HO.out.b8 3).trans rfl
      have k0 : wr.cell? ⟨g2, 0, none⟩ = some (.slice none 0 0) := (blk_cell HO.out.c.b2 0).trans rfl
      have k1 : wr.cell? ⟨g2, 1, none⟩ = some (.int .i64 0) := (blk_cell HO.out.c.b2 1).trans rfl
      have k2 : wr.cell? ⟨g2, 2, none⟩ = some (.int .i64 0) := (blk_cell HO.out.c.b2 2).trans rfl
      have k3 : wr.cell? ⟨g2, 3, none⟩ = some (.int .i64 0) := (blk_cell HO.out.c.b2 3).trans rfl
      have f0 := blk_frozen HO.out.c.b2 0
      have f1 := blk_frozen HO.out.c.b2 1
      have f2 := blk_frozen HO.out.c.b2 2
      have f3 := blk_frozen HO.out.c.b2 3
      have HP := Lib.hid (put4 (w := wr) (g := g2) (t := 26) HO.out.c.b2 (.slice A9 (canN l ids).length c9) (.int .i64 (ids.length : Int)) (.int .i64 a2) (.int .i64 a3))
      have HS := Lib.hid (put4S HO.out.s HO.out.c.b2 (.slice A9 (canN l ids).length c9) (.int .i64 (ids.length : Int)) (.int .i64 a2) (.int .i64 a3))
      go_wp2
      refine bodyPost_ret (results_ct rfl _ _ g2 26 #[.slice A9 (canN l ids).length c9, .int .i64 (ids.length : Int), .int .i64 a2, .int .i64 a3] (0, 0) _ rfl HP.out Tryd.underlying26 rfl (by kernel_rfl)) rfl ?_
      exact ⟨_, rfl, HS.out, below_set (below_set (below_set (below_set HO.out.c.hb HO.out.c.e2) HO.out.c.e2) HO.out.c.e2) HO.out.c.e2⟩
end Go.Proofs.YtnpnablnnfekkaaDoor.PTr
set_option linter.unusedVariables false
set_option linter.unusedSimpArgs false
namespace Go.Proofs.YtnpnablnnfekkaaDoor.PTr
open Go.RowKit Go.Proofs.YtnpnablnnfekkaaDoor Go.Proofs.YtnpnablnnfekkaaDoorW.PrintWords
def renE (ρ : Int → Int) (e : Ent) : Ent := ⟨e.f0, ρ e.f1⟩
def renN (ρ : Int → Int) (x : Nod) : Nod := ⟨ρ x.f0, x.f1, x.f2, x.f3, x.f4, x.f5, x.f6.map (renE ρ)⟩
structure Ren (ρ : Int → Int) (l l' : List Nod) : Prop where
 inj : ∀ a ∈ idsL l, ∀ b ∈ idsL l, ρ a = ρ b → a = b
 node : ∀ id ∈ idsL l, nodeL l' (ρ id) = (nodeL l id).map (renN ρ)
 ids : ∀ y, y ∈ idsL l' → ∃ x ∈ idsL l, ρ x = y
 ids' : ∀ x ∈ idsL l, ρ x ∈ idsL l'
 len : l'.length = l.length
 nd : (idsL l).Nodup
 nd' : (idsL l').Nodup
 one : ρ 1 = 1
 cl : ∀ x ∈ l, ∀ e ∈ x.f6, e.f1 ∈ idsL l
theorem nodeL_mem {l : List Nod} {id : Int} {x : Nod} (h : nodeL l id = some x) : x ∈ l ∧ x.f0 = id := by
 unfold nodeL at h
 exact ⟨List.mem_of_find?_eq_some h, by simpa using List.find?_some h⟩
theorem nodeL_some {l : List Nod} {id : Int} (h : id ∈ idsL l) : ∃ x, nodeL l id = some x := by
 cases hn : nodeL l id with
 | some x => exact ⟨x, rfl⟩
 | none =>
  obtain ⟨x, hx, he⟩ := mem_ids.1 h
  unfold nodeL at hn
  rw [List.find?_eq_none] at hn
  have := hn x hx
  simp [he] at this
theorem wayP_ids (l : List Nod) (k : Nat) : ∀ (acc : List (Int × List UInt8)) (id : Int) (p : List UInt8), (∀ q ∈ acc, q.1 ∈ idsL l) → ∀ q ∈ wayP l k acc id p, q.1 ∈ idsL l := by
 induction k with
 | zero => intro acc id p h q hq; exact h q hq
 | succ k ih =>
  intro acc id p h
  unfold wayP
  split
  ·
   exact h
  ·
   split
   ·
    exact h
   ·
    rename_i x hx
    have fold : ∀ (es : List Ent) (a : List (Int × List UInt8)), (∀ q ∈ a, q.1 ∈ idsL l) → ∀ q ∈ es.foldl (fun a e => wayP l k a e.f1 (joinP p e.f0.data.toList)) a, q.1 ∈ idsL l := by
     intro es
     induction es with
     | nil => intro a ha; exact ha
     | cons e r ihr => intro a ha; rw [List.foldl_cons]; exact ihr _ (ih a _ _ ha)
    refine fold x.f6 _ (fun q hq => ?_)
    rcases List.mem_append.1 hq with h1 | h1
    ·
     exact h q h1
    ·
     simp only [List.mem_singleton] at h1
     subst h1
     obtain ⟨a, b⟩ := nodeL_mem hx
     exact mem_ids.2 ⟨x, a, b⟩
theorem ren_mem {ρ : Int → Int} {l l' : List Nod} (h : Ren ρ l l') {acc : List (Int × List UInt8)} (ha : ∀ q ∈ acc, q.1 ∈ idsL l) {id : Int} (hi : id ∈ idsL l) : ρ id ∈ (acc.map fun q => (ρ q.1, q.2)).map (·.1) ↔ id ∈ acc.map (·.1) := by
 rw [List.map_map]
 constructor
 ·
  intro hm
  obtain ⟨q, hq, e⟩ := List.mem_map.1 hm
  have := h.inj _ (ha q hq) _ hi e
  exact List.mem_map.2 ⟨q, hq, this⟩
 ·
  intro hm
  obtain ⟨q, hq, e⟩ := List.mem_map.1 hm
  exact List.mem_map.2 ⟨q, hq, by rw [← e]; rfl⟩
theorem ren_way {ρ : Int → Int} {l l' : List Nod} (h : Ren ρ l l') (k : Nat) : ∀ (acc : List (Int × List UInt8)) (id : Int) (p : List UInt8), (∀ q ∈ acc, q.1 ∈ idsL l) → id ∈ idsL l →
  wayP l' k (acc.map fun q => (ρ q.1, q.2)) (ρ id) p = (wayP l k acc id p).map fun q => (ρ q.1, q.2) := by
 induction k with
 | zero => intro acc id p _ _; rfl
 | succ k ih =>
  intro acc id p ha hi
  unfold wayP
  by_cases hm : id ∈ acc.map (·.1)
  ·
   rw [if_pos hm, if_pos ((ren_mem h ha hi).2 hm)]
  ·
   rw [if_neg hm, if_neg (fun q => hm ((ren_mem h ha hi).1 q)), h.node id hi]
   obtain ⟨x, hx⟩ := nodeL_some hi
   rw [hx]
   simp only [Option.map_some]
   obtain ⟨hxl, hxe⟩ := nodeL_mem hx
   have fold : ∀ (es : List Ent) (a : List (Int × List UInt8)), (∀ e ∈ es, e.f1 ∈ idsL l) → (∀ q ∈ a, q.1 ∈ idsL l) →
     (es.map (renE ρ)).foldl (fun a e => wayP l' k a e.f1 (joinP p e.f0.data.toList)) (a.map fun q => (ρ q.1, q.2)) = (es.foldl (fun a e => wayP l k a e.f1 (joinP p e.f0.data.toList)) a).map fun q => (ρ q.1, q.2) := by
    intro es
    induction es with
    | nil => intro a _ _; rfl
    | cons e r ihr =>
     intro a he ha
     rw [List.map_cons, List.foldl_cons, List.foldl_cons]
     show List.foldl _ (wayP l' k (a.map fun q => (ρ q.1, q.2)) (ρ e.f1) (joinP p e.f0.data.toList)) _ = _
     rw [ih a e.f1 _ ha (he e List.mem_cons_self)]
     exact ihr _ (fun e' h' => he e' (List.mem_cons_of_mem _ h')) (wayP_ids l k a _ _ ha)
   have := fold x.f6 (acc ++ [(id, p)]) (h.cl x hxl) (fun q hq => by
    rcases List.mem_append.1 hq with h1 | h1
    ·
     exact ha q h1
    ·
     simp only [List.mem_singleton] at h1; subst h1; exact hi)
   rw [List.map_append] at this
   exact this
theorem ren_tgts {ρ : Int → Int} {l l' : List Nod} (h : Ren ρ l l') {id : Int} (hi : id ∈ idsL l) : tgts l' (ρ id) = (tgts l id).map ρ := by
 obtain ⟨x, hx⟩ := nodeL_some hi
 unfold tgts
 rw [h.node id hi, hx]
 simp only [Option.map_some, Option.getD_some, renN, List.map_map]
 rfl
theorem ren_dir {ρ : Int → Int} {l l' : List Nod} (h : Ren ρ l l') {id : Int} (hi : id ∈ idsL l) : dirL l' (ρ id) = dirL l id := by
 obtain ⟨x, hx⟩ := nodeL_some hi
 unfold dirL
 rw [h.node id hi, hx]; rfl
theorem tgts_cl {ρ : Int → Int} {l l' : List Nod} (h : Ren ρ l l') (id : Int) : ∀ e ∈ tgts l id, e ∈ idsL l := by
 intro e he
 unfold tgts at he
 cases hn : nodeL l id with
 | none => rw [hn] at he; cases he
 | some x =>
  rw [hn] at he
  simp only [Option.map_some, Option.getD_some] at he
  obtain ⟨z, hz, rfl⟩ := List.mem_map.1 he
  exact h.cl x (nodeL_mem hn).1 z hz
theorem count_inj (ρ : Int → Int) (S : Int → Prop) (hi : ∀ a, S a → ∀ b, S b → ρ a = ρ b → a = b) (e : Int) (he : S e) : ∀ (es : List Int), (∀ x ∈ es, S x) → (es.map ρ).count (ρ e) = es.count e := by
 intro es
 induction es with
 | nil => intro _; rfl
 | cons x r ih =>
  intro hs
  rw [List.map_cons, List.count_cons, List.count_cons, ih (fun y hy => hs y (List.mem_cons_of_mem _ hy))]
  congr 1
  by_cases hx : x = e
  ·
   subst hx; simp
  ·
   have : ρ x ≠ ρ e := fun q => hx (hi x (hs x List.mem_cons_self) e he q)
   simp [hx, this]
theorem nodup_map_on (ρ : Int → Int) : ∀ (l : List Int), l.Nodup → (∀ a ∈ l, ∀ b ∈ l, ρ a = ρ b → a = b) → (l.map ρ).Nodup := by
 intro l
 induction l with
 | nil => intro _ _; exact List.nodup_nil
 | cons x r ih =>
  intro hn hi
  rw [List.nodup_cons] at hn
  rw [List.map_cons, List.nodup_cons]
  refine ⟨fun hm => ?_, ih hn.2 (fun a ha b hb => hi a (List.mem_cons_of_mem _ ha) b (List.mem_cons_of_mem _ hb))⟩
  obtain ⟨y, hy, e⟩ := List.mem_map.1 hm
  have := hi y (List.mem_cons_of_mem _ hy) x List.mem_cons_self e
  exact hn.1 (this ▸ hy)
theorem ren_cnt {ρ : Int → Int} {l l' : List Nod} (h : Ren ρ l l') {e : Int} (he : e ∈ idsL l) : TG.cnt (tgts l') (idsL l') (ρ e) = TG.cnt (tgts l) (idsL l) e := by
 have hnm := nodup_map_on ρ (idsL l) h.nd h.inj
 have h1 : ((idsL l').map fun y => (tgts l' y).count (ρ e)).sum = (((idsL l).map ρ).map fun y => (tgts l' y).count (ρ e)).sum :=
  TG.sum_eq _ _ _ h.nd' hnm (fun y hy => by obtain ⟨x, hx, hxy⟩ := h.ids y hy; exact List.mem_map.2 ⟨x, hx, hxy⟩) (by rw [List.length_map]; unfold idsL; rw [List.length_map, List.length_map, h.len]; exact Nat.le_refl _)
 unfold TG.cnt
 rw [h1, List.map_map]
 congr 1
 apply List.map_congr_left
 intro x hx
 show (tgts l' (ρ x)).count (ρ e) = _
 rw [ren_tgts h hx]
 exact count_inj ρ (· ∈ idsL l) (fun a ha b hb => h.inj a ha b hb) e he _ (tgts_cl h x)
theorem ren_ref {ρ : Int → Int} {l l' : List Nod} (h : Ren ρ l l') (h1 : (1 : Int) ∈ idsL l) (hr : TG_ref l) : TG_ref l' := by
 obtain ⟨r1, r2, r3, r4, r5⟩ := hr
 refine ⟨fun y hy e he => ?_, ?_, fun y hy hy1 => ?_, fun y hy hd => ?_, ?_⟩
 ·
  obtain ⟨x, hx, rfl⟩ := h.ids y hy
  rw [ren_tgts h hx] at he
  obtain ⟨z, hz, rfl⟩ := List.mem_map.1 he
  exact h.ids' z (tgts_cl h x z hz)
 ·
  have := ren_cnt h h1
  rw [h.one] at this
  rw [this]; exact r2
 ·
  obtain ⟨x, hx, rfl⟩ := h.ids y hy
  rw [ren_cnt h hx]
  exact r3 x hx (fun e => hy1 (by rw [e]; exact h.one))
 ·
  obtain ⟨x, hx, rfl⟩ := h.ids y hy
  rw [ren_cnt h hx]
  rw [ren_dir h hx] at hd
  exact r4 x hx hd
 ·
  have hw := ren_way h (l.length + 1) [] 1 [47] (fun q hq => by cases hq) h1
  have hm := way_map l (l.length + 1) [] 1 [47]
  have hm' := way_map l' (l.length + 1) [] 1 [47]
  rw [h.one, List.map_nil] at hw
  rw [hw] at hm'
  rw [List.map_nil] at hm hm'
  rw [h.len, ← hm', List.length_map, List.length_map]
  rw [← hm, List.length_map] at r5
  rw [r5]
  unfold idsL
  rw [List.length_map, List.length_map, h.len]
theorem chk_of {l : List Nod} {a1 : Int} (hh : headOK l = true) (hn : nodesOK l a1 = true) (hr : TG_ref l) : chk l a1 = 0 := by
 unfold chk
 rw [if_pos hh, if_pos hn]
 exact (reach_zero hh (rises_of hn)).2 hr
theorem ref_of {l : List Nod} {a1 : Int} (h : chk l a1 = 0) : TG_ref l := by
 obtain ⟨hh, hn, hl, hr, _⟩ := chk_facts h
 unfold chk at h
 rw [if_pos hh, if_pos hn] at h
 exact (reach_zero hh hr).1 h
theorem ren_wid {ρ : Int → Int} {l l' : List Nod} {a1 a1' : Int} (h : Ren ρ l l') (hc : chk l a1 = 0) (hc' : chk l' a1' = 0) : wid l' a1' = (wid l a1).map fun q => (ρ q.1, q.2) := by
 obtain ⟨_, _, _, _, _, _, h1⟩ := chk_facts hc
 have hw := ren_way h (l.length + 1) [] 1 [47] (fun q hq => by cases hq) h1
 unfold wid
 rw [if_pos hc, if_pos hc', h.len, ← hw, h.one]; rfl
theorem ren_can {ρ : Int → Int} {l l' : List Nod} (h : Ren ρ l l') (ids : List Int) (hn : ids.Nodup) (hs : ∀ x ∈ ids, x ∈ idsL l) (hf : ∀ x ∈ idsL l, x ∈ ids) (hl : ids.length ≤ 512) : canN l' (ids.map ρ) = canN l ids := by
 have hn' := nodup_map_on ρ ids hn (fun a ha b hb => h.inj a (hs a ha) b (hs b hb))
 unfold canN
 rw [List.length_map]
 apply List.map_congr_left
 intro i hi
 have hi := List.mem_range.1 hi
 unfold nodN
 rw [rd_int ids i hi, rd_int (ids.map ρ) i (by rw [List.length_map]; exact hi), List.getElem_map, h.node _ (hs _ (List.getElem_mem hi))]
 obtain ⟨x, hx⟩ := nodeL_some (hs _ (List.getElem_mem hi))
 rw [hx]
 simp only [Option.map_some, renN, List.map_map]
 congr 1
 apply List.map_congr_left
 intro e he
 have hein := h.cl x (nodeL_mem hx).1 e he
 obtain ⟨j, hj, hje⟩ := List.getElem_of_mem (hf _ hein)
 have e1 := toMn_get ids hn hl ids.length (Nat.le_refl _) j hj hj
 have e2 := toMn_get (ids.map ρ) hn' (by rw [List.length_map]; exact hl) (ids.map ρ).length (Nat.le_refl _) j (by rw [List.length_map]; exact hj) (by rw [List.length_map]; exact hj)
 rw [List.getElem_map, hje] at e2
 rw [hje] at e1
 show entN (ids.map ρ) (renE ρ e) = entN ids e
 unfold entN renE
 rw [e1, e2]
theorem entsB_ren (ρ : Int → Int) (es : List Ent) : entsB (es.map (renE ρ)) = entsB es := by
 unfold entsB
 rw [List.length_map]
 rw [Bool.eq_iff_iff, List.all_eq_true, List.all_eq_true]
 have hg : ∀ i, i < es.length → (rd_T61 (es.map (renE ρ)) ((i : Nat) : Int)).f0 = (rd_T61 es ((i : Nat) : Int)).f0 := fun i hi => by
  rw [rdE _ i (by rw [List.length_map]; exact hi), rdE _ i hi, List.getElem_map]; rfl
 have : ∀ i ∈ List.range es.length, entAt (es.map (renE ρ)) i = entAt es i := fun i hi => by
  have hi := List.mem_range.1 hi
  unfold entAt
  rw [hg i hi, hg (i - 1) (by omega)]
 exact ⟨fun h i hi => by rw [← this i hi]; exact h i hi, fun h i hi => by rw [this i hi]; exact h i hi⟩
theorem plainB_ren (ρ : Int → Int) (x : Nod) : plainB (renN ρ x) = plainB x := by
 unfold plainB renN
 simp only [entsB_ren, List.length_map]
theorem canN_at {l : List Nod} {a1 : Int} (h : chk l a1 = 0) (i : Nat) (hi : i < ((wid l a1).map (·.1)).length) :
  ∃ x, nodeL l ((wid l a1).map (·.1))[i] = some x ∧ nodN l ((wid l a1).map (·.1)) i = ⟨((i + 1 : Nat) : Int), x.f1, x.f2, x.f3, x.f4, x.f5, x.f6.map (entN ((wid l a1).map (·.1)))⟩ := by
 obtain ⟨hnd, hsub, hlen⟩ := wid_props l a1
 obtain ⟨x, hx⟩ := nodeL_some (hsub _ (List.getElem_mem hi))
 refine ⟨x, hx, ?_⟩
 unfold nodN
 rw [rd_int _ i hi, hx]
 simp only []
 rw [show wrap64 ((i : Int) + 1) = ((i + 1 : Nat) : Int) from by unfold wrap64; omega]
theorem canN_len (l : List Nod) (ids : List Int) : (canN l ids).length = ids.length := by unfold canN; rw [List.length_map, List.length_range]
theorem canN_get (l : List Nod) (ids : List Int) (i : Nat) (hi : i < (canN l ids).length) : (canN l ids)[i] = nodN l ids i := by
 have h : (canN l ids)[i]? = some (nodN l ids i) := by
  unfold canN
  rw [List.getElem?_map, List.getElem?_range (by rw [canN_len] at hi; exact hi)]; rfl
 exact Option.some.inj ((List.getElem?_eq_getElem hi).symm.trans h)
theorem can_id {l : List Nod} {a1 : Int} (h : chk l a1 = 0) (i : Nat) (hi : i < (canN l ((wid l a1).map (·.1))).length) : (canN l ((wid l a1).map (·.1)))[i].f0 = ((i + 1 : Nat) : Int) := by
 obtain ⟨x, _, e⟩ := canN_at h i (by rw [canN_len] at hi; exact hi)
 rw [canN_get, e]
theorem can_rises {l : List Nod} {a1 : Int} (h : chk l a1 = 0) : Rises (canN l ((wid l a1).map (·.1))) := by
 intro i j hi hj hij
 rw [can_id h i hi, can_id h j hj]
 omega
def canR (l : List Nod) (a1 : Int) : Int → Int := fun id => gI (toMn ((wid l a1).map (·.1)) ((wid l a1).map (·.1)).length) id
theorem can_ren {l : List Nod} {a1 : Int} (h : chk l a1 = 0) : Ren (canR l a1) l (canN l ((wid l a1).map (·.1))) := by
 obtain ⟨hnd, hsub, hlen⟩ := wid_props l a1
 obtain ⟨hfl, hfull, t, ht⟩ := wid_full h
 obtain ⟨hh, hn, hl, hr, hcl, _, h1⟩ := chk_facts h
 have hid : ∀ j (hj : j < ((wid l a1).map (·.1)).length), canR l a1 ((wid l a1).map (·.1))[j] = ((j + 1 : Nat) : Int) := fun j hj => toMn_get _ hnd hlen _ (Nat.le_refl _) j hj hj
 have hri := can_rises h
 have hmem : ∀ x ∈ idsL l, ∃ j, ∃ hj : j < ((wid l a1).map (·.1)).length, ((wid l a1).map (·.1))[j] = x := fun x hx => List.getElem_of_mem (hfull x hx)
 refine ⟨fun a ha b hb e => ?_, fun id hi => ?_, fun y hy => ?_, fun x hx => ?_, ?_, rises_nodup hr, rises_nodup hri, ?_, hcl⟩
 ·
  obtain ⟨j, hj, rfl⟩ := hmem a ha
  obtain ⟨k, hk, rfl⟩ := hmem b hb
  rw [hid j hj, hid k hk] at e
  have : j = k := by omega
  subst this; rfl
 ·
  obtain ⟨j, hj, rfl⟩ := hmem id hi
  obtain ⟨x, hx, e⟩ := canN_at h j hj
  have hjc : j < (canN l ((wid l a1).map (·.1))).length := by rw [canN_len]; exact hj
  have hat := nodeL_at hri j hjc
  rw [can_id h j hjc] at hat
  rw [hid j hj, hat, hx, canN_get, e, Option.map_some]
  unfold renN
  have hx0 := (nodeL_mem hx).2
  rw [hx0, hid j hj]; rfl
 ·
  obtain ⟨x, hx, rfl⟩ := mem_ids.1 hy
  obtain ⟨i, hi, rfl⟩ := List.getElem_of_mem hx
  have hi' : i < ((wid l a1).map (·.1)).length := by rw [canN_len] at hi; exact hi
  exact ⟨_, hsub _ (List.getElem_mem hi'), by rw [hid i hi', can_id h i hi]⟩
 ·
  obtain ⟨j, hj, rfl⟩ := hmem x hx
  have hjc : j < (canN l ((wid l a1).map (·.1))).length := by rw [canN_len]; exact hj
  exact mem_ids.2 ⟨_, List.getElem_mem hjc, by rw [hid j hj, can_id h j hjc]⟩
 ·
  rw [canN_len, List.length_map, hfl]
 ·
  have h0 : 0 < ((wid l a1).map (·.1)).length := by rw [List.length_map, ht]; simp
  have := hid 0 h0
  have e0 : ((wid l a1).map (·.1))[0] = 1 := by simp [ht]
  rw [e0] at this
  exact this
/-- a tree numbered anew may be -/
theorem can_chk {l : List Nod} {a1 : Int} (h : chk l a1 = 0) : chk (canN l ((wid l a1).map (·.1))) (((wid l a1).map (·.1)).length : Int) = 0 := by
 obtain ⟨hnd, hsub, hlen⟩ := wid_props l a1
 obtain ⟨hfl, hfull, t, ht⟩ := wid_full h
 obtain ⟨hh, hn, hl, hr, hcl, _, h1⟩ := chk_facts h
 have hR := can_ren h
 have h0 : 0 < ((wid l a1).map (·.1)).length := by rw [List.length_map, ht]; simp
 have h0c : 0 < (canN l ((wid l a1).map (·.1))).length := by rw [canN_len]; exact h0
 obtain ⟨x, hx, e⟩ := canN_at h 0 h0
 have hx1 : x.f1 = 1 := by
  have e0 : ((wid l a1).map (·.1))[0] = 1 := by simp [ht]
  rw [e0] at hx
  obtain ⟨hz, hz0, hz1⟩ := one_in hh
  have := nodeL_at hr 0 hz
  rw [hz0, hx] at this
  cases this; exact hz1
 have hpl : ∀ y ∈ l, plainB y = true := fun y hy => by
  obtain ⟨i, hi, rfl⟩ := List.getElem_of_mem hy
  unfold nodesOK at hn
  have := List.all_eq_true.1 hn i (List.mem_range.2 hi)
  unfold nodeAt at this
  rw [Bool.and_eq_true, Bool.and_eq_true, rdN l i hi] at this
  exact this.1.1
 refine chk_of ?_ ?_ (ren_ref hR h1 (ref_of h))
 ·
  unfold headOK
  rw [show (0 : Int) = ((0 : Nat) : Int) from rfl, rdN _ 0 h0c, canN_get, e, canN_len]
  simp only [Bool.and_eq_true, decide_eq_true_eq]
  exact ⟨⟨⟨by omega, hlen⟩, rfl⟩, hx1⟩
 ·
  unfold nodesOK
  rw [List.all_eq_true]
  intro i hi
  have hi := List.mem_range.1 hi
  have hi' : i < ((wid l a1).map (·.1)).length := by rw [canN_len] at hi; exact hi
  obtain ⟨x, hx, e⟩ := canN_at h i hi'
  have hpx := hpl x (nodeL_mem hx).1
  unfold nodeAt
  rw [rdN _ i hi]
  rw [Bool.and_eq_true, Bool.and_eq_true, decide_eq_true_eq, Bool.or_eq_true, decide_eq_true_eq, decide_eq_true_eq]
  refine ⟨⟨?_, ?_⟩, ?_⟩
  ·
   rw [canN_get, e]
   have hp := plainB_ren (canR l a1) x
   rw [hpx] at hp
   rw [← hp]
   unfold plainB renN
   rfl
  ·
   rw [can_id h i hi]
   omega
  ·
   by_cases hi0 : i = 0
   ·
    exact .inl hi0
   ·
    right
    rw [rdN _ (i - 1) (by omega), can_id h i hi, can_id h (i - 1) (by omega)]
    omega
/-- .. and is numbered so already -/
theorem can_can {l : List Nod} {a1 : Int} (h : chk l a1 = 0) : canN (canN l ((wid l a1).map (·.1))) ((wid (canN l ((wid l a1).map (·.1))) (((wid l a1).map (·.1)).length : Int)).map (·.1)) = canN l ((wid l a1).map (·.1)) := by
 obtain ⟨hnd, hsub, hlen⟩ := wid_props l a1
 obtain ⟨hfl, hfull, t, ht⟩ := wid_full h
 have hR := can_ren h
 rw [ren_wid hR h (can_chk h), List.map_map]
 have := ren_can hR ((wid l a1).map (·.1)) hnd hsub hfull hlen
 rw [List.map_map] at this
 exact this
end Go.Proofs.YtnpnablnnfekkaaDoor.PTr
namespace Go.Proofs.YtnpnablnnfekkaaDoor.PTr
open Go.RowKit Go.Proofs.YtnpnablnnfekkaaDoorW.PrintWords Go.Proofs.YtnpnablnnfekkaaDoorW.PrintLast Go.Proofs.YtnpnablnnfekkaaDoorW.PrintMore
attribute [local go_sem] max2_int min2_int max_two min_two max_three min_three max_four min_four   -- for this text's walks alone
set_option linter.unusedVariables false
set_option linter.unusedSimpArgs false
theorem eqA24 (d : Nat) (w : World) (x0 y0 : Int) (x1 y1 : Int) :
  (Op.equalIn (d + 2) 24 (.agg #[.int .i64 x0, .int .i64 x1]) (.agg #[.int .i64 y0, .int .i64 y1])).run Tryd.prog w = .ok (x0 == y0 && (x1 == y1)) w := by
 refine eqA_of Tryd.underlying24 (by kernel_rfl) ?_
 refine eqf_cons (by rfl) (by go_simp; rfl) (by go_simp; rfl) (by go_simp) ?_
 exact eqf_last (by rfl) (by go_simp; rfl) (by go_simp; rfl) (by go_simp)
end Go.Proofs.YtnpnablnnfekkaaDoor.PTr
namespace Go.Proofs.YtnpnablnnfekkaaDoor.PTr
open Go.RowKit Go.Proofs.YtnpnablnnfekkaaDoorW.PrintWords Go.Proofs.YtnpnablnnfekkaaDoorW.PrintLast Go.Proofs.YtnpnablnnfekkaaDoorW.PrintMore
attribute [local go_sem] max2_int min2_int max_two min_two max_three min_three max_four min_four   -- for this text's walks alone
set_option linter.unusedVariables false
set_option linter.unusedSimpArgs false
theorem eqA61 (d : Nat) (w : World) (x0 y0 : ByteArray) (x1 y1 : Int) :
  (Op.equalIn (d + 2) 61 (.agg #[.string x0, .int .i64 x1]) (.agg #[.string y0, .int .i64 y1])).run Tryd.prog w = .ok (x0.toList == y0.toList && (x1 == y1)) w := by
 refine eqA_of Tryd.underlying61 (by kernel_rfl) ?_
 refine eqf_cons (by rfl) (by go_simp; rfl) (by go_simp; rfl) (by go_simp) ?_
 exact eqf_last (by rfl) (by go_simp; rfl) (by go_simp; rfl) (by go_simp)
end Go.Proofs.YtnpnablnnfekkaaDoor.PTr
namespace Go.Proofs.YtnpnablnnfekkaaDoor.PTr
open Go.RowKit Go.Proofs.YtnpnablnnfekkaaDoorW.PrintWords Go.Proofs.YtnpnablnnfekkaaDoorW.PrintLast Go.Proofs.YtnpnablnnfekkaaDoorW.PrintMore
attribute [local go_sem] max2_int min2_int max_two min_two max_three min_three max_four min_four   -- for this text's walks alone
set_option linter.unusedVariables false
set_option linter.unusedSimpArgs false
attribute [local go_sem high] eqA61
mutual
def rehearsalref04_SameNode.j0 : Nat → Bool → Int → Int → Int → Int → Int → ByteArray → List (S61) → Int → Int → Int → Int → Int → ByteArray → List (S61) → Option (Bool)
 | 0, _, _, _, _, _, _, _, _, _, _, _, _, _, _, _ => none
 | k + 1, x54, x214000, x214001, x214002, x214003, x214004, x214005, x214006, x215000, x215001, x215002, x215003, x215004, x215005, x215006 => if x54 = true then (some false) else (rehearsalref04_SameNode.l0 k 0 x214000 x214001 x214002 x214003 x214004 x214005 x214006 x215000 x215001 x215002 x215003 x215004 x215005 x215006)
def rehearsalref04_SameNode.l0 : Nat → Int → Int → Int → Int → Int → Int → ByteArray → List (S61) → Int → Int → Int → Int → Int → ByteArray → List (S61) → Option (Bool)
 | 0, _, _, _, _, _, _, _, _, _, _, _, _, _, _, _ => none
 | k + 1, x5, x214000, x214001, x214002, x214003, x214004, x214005, x214006, x215000, x215001, x215002, x215003, x215004, x215005, x215006 => if x5 < (x214006.length : Int) then (if 0 ≤ x5 then (if x5 < (x215006.length : Int) then (if (!((((rd_T61 x214006 x5).f0).toList) == (((rd_T61 x215006 x5).f0).toList)) || (!(((rd_T61 x214006 x5).f1) == ((rd_T61 x215006 x5).f1)))) = true then (some false) else (rehearsalref04_SameNode.l0 k (wrap64 (x5 + 1)) x214000 x214001 x214002 x214003 x214004 x214005 x214006 x215000 x215001 x215002 x215003 x215004 x215005 x215006)) else (none)) else (none)) else (some true)
end
def rehearsalref04_SameNode.f (k : Nat) (a0_0 : Int) (a0_1 : Int) (a0_2 : Int) (a0_3 : Int) (a0_4 : Int) (a0_5 : ByteArray) (l0_6 : List (S61)) (a1_0 : Int) (a1_1 : Int) (a1_2 : Int) (a1_3 : Int) (a1_4 : Int) (a1_5 : ByteArray) (l1_6 : List (S61)) : Option (Bool) := if a0_0 = a1_0 then (if a0_1 = a1_1 then (if a0_2 = a1_2 then (if a0_3 = a1_3 then (if a0_4 = a1_4 then (if a0_5.toList = a1_5.toList then (rehearsalref04_SameNode.j0 k ((l0_6.length : Int) != (l1_6.length : Int)) a0_0 a0_1 a0_2 a0_3 a0_4 a0_5 l0_6 a1_0 a1_1 a1_2 a1_3 a1_4 a1_5 l1_6) else (rehearsalref04_SameNode.j0 k true a0_0 a0_1 a0_2 a0_3 a0_4 a0_5 l0_6 a1_0 a1_1 a1_2 a1_3 a1_4 a1_5 l1_6)) else (rehearsalref04_SameNode.j0 k true a0_0 a0_1 a0_2 a0_3 a0_4 a0_5 l0_6 a1_0 a1_1 a1_2 a1_3 a1_4 a1_5 l1_6)) else (rehearsalref04_SameNode.j0 k true a0_0 a0_1 a0_2 a0_3 a0_4 a0_5 l0_6 a1_0 a1_1 a1_2 a1_3 a1_4 a1_5 l1_6)) else (rehearsalref04_SameNode.j0 k true a0_0 a0_1 a0_2 a0_3 a0_4 a0_5 l0_6 a1_0 a1_1 a1_2 a1_3 a1_4 a1_5 l1_6)) else (rehearsalref04_SameNode.j0 k true a0_0 a0_1 a0_2 a0_3 a0_4 a0_5 l0_6 a1_0 a1_1 a1_2 a1_3 a1_4 a1_5 l1_6)) else (rehearsalref04_SameNode.j0 k true a0_0 a0_1 a0_2 a0_3 a0_4 a0_5 l0_6 a1_0 a1_1 a1_2 a1_3 a1_4 a1_5 l1_6)
set_option maxHeartbeats 8000000 in
set_option maxRecDepth 100000 in
theorem rehearsalref04_SameNode.calls (k : Nat) (a0_0 : Int) (a0_1 : Int) (a0_2 : Int) (a0_3 : Int) (a0_4 : Int) (a0_5 : ByteArray) (A0_6 : Option Addr) (c0_6 : Nat) (l0_6 : List (S61)) (a1_0 : Int) (a1_1 : Int) (a1_2 : Int) (a1_3 : Int) (a1_4 : Int) (a1_5 : ByteArray) (A1_6 : Option Addr) (c1_6 : Nat) (l1_6 : List (S61)) (r : Bool) (w : World) (hr0_6 : Kd.C k61 w A0_6 l0_6.length l0_6) (hc0_6 : l0_6.length ≤ c0_6) (hr1_6 : Kd.C k61 w A1_6 l1_6.length l1_6) (hc1_6 : l1_6.length ≤ c1_6) (h : rehearsalref04_SameNode.f k a0_0 a0_1 a0_2 a0_3 a0_4 a0_5 l0_6 a1_0 a1_1 a1_2 a1_3 a1_4 a1_5 l1_6 = some r) :
  Calls Tryd.prog 32 #[.agg #[.int .i64 a0_0, .int .i64 a0_1, .int .i64 a0_2, .int .i64 a0_3, .int .i64 a0_4, .string a0_5, .slice A0_6 l0_6.length c0_6], .agg #[.int .i64 a1_0, .int .i64 a1_1, .int .i64 a1_2, .int .i64 a1_3, .int .i64 a1_4, .string a1_5, .slice A1_6 l1_6.length c1_6]] w fun e w' => e = .returned (.bool r) ∧ Below w.heap.size w w' := by
 have hu44 := Tryd.underlying44
 have hu61 := Tryd.underlying61
 have HR0_6 := Aside0.mk hr0_6
 have HC0_6 := Aside0.mk hc0_6
 clear hr0_6 hc0_6
 have HR1_6 := Aside0.mk hr1_6
 have HC1_6 := Aside0.mk hc1_6
 clear hr1_6 hc1_6
 have HB := Aside0.mk (Below.refl w.heap.size w)
 have H : (if a0_0 = a1_0 then (if a0_1 = a1_1 then (if a0_2 = a1_2 then (if a0_3 = a1_3 then (if a0_4 = a1_4 then (if a0_5.toList = a1_5.toList then (rehearsalref04_SameNode.j0 k ((l0_6.length : Int) != (l1_6.length : Int)) a0_0 a0_1 a0_2 a0_3 a0_4 a0_5 l0_6 a1_0 a1_1 a1_2 a1_3 a1_4 a1_5 l1_6) else (rehearsalref04_SameNode.j0 k true a0_0 a0_1 a0_2 a0_3 a0_4 a0_5 l0_6 a1_0 a1_1 a1_2 a1_3 a1_4 a1_5 l1_6)) else (rehearsalref04_SameNode.j0 k true a0_0 a0_1 a0_2 a0_3 a0_4 a0_5 l0_6 a1_0 a1_1 a1_2 a1_3 a1_4 a1_5 l1_6)) else (rehearsalref04_SameNode.j0 k true a0_0 a0_1 a0_2 a0_3 a0_4 a0_5 l0_6 a1_0 a1_1 a1_2 a1_3 a1_4 a1_5 l1_6)) else (rehearsalref04_SameNode.j0 k true a0_0 a0_1 a0_2 a0_3 a0_4 a0_5 l0_6 a1_0 a1_1 a1_2 a1_3 a1_4 a1_5 l1_6)) else (rehearsalref04_SameNode.j0 k true a0_0 a0_1 a0_2 a0_3 a0_4 a0_5 l0_6 a1_0 a1_1 a1_2 a1_3 a1_4 a1_5 l1_6)) else (rehearsalref04_SameNode.j0 k true a0_0 a0_1 a0_2 a0_3 a0_4 a0_5 l0_6 a1_0 a1_1 a1_2 a1_3 a1_4 a1_5 l1_6)) = some r := h
 clear h
 have HC3 := Aside0.mk H
 clear H
 go_enter Tryd.func32, Tryd.ntmps32
 go_upto_region 1 with (first | ((with_reducible refine gate_dst (N := 2) rfl ?_); (try (refine gate_guard (by rfl) ?_; dsimp only)); refine box_event ?hg (N := 2) ?hd (cs := #[.int .i64 a0_0, .int .i64 a0_1, .int .i64 a0_2, .int .i64 a0_3, .int .i64 a0_4, .string a0_5, .slice A0_6 l0_6.length c0_6]) (t := 44) ?hr ?_; (case hd => rfl); (case hg => rfl); (case hr => first | (go_simp; done) | (go_simp; rfl)); intro gb213 hg w4 hbox hb; have n0_ := Aside0.mk (below_step (by repeat (first | (with_reducible first | exact HB.out | apply below_alloc | apply pw_below_drewN | apply below_drew1) | exact HB.out)) hb); have n1_ := Aside0.mk (hbox); have n2_ := Aside0.mk ((by rw [hg]; exact (below_size (by repeat (first | (with_reducible first | exact HB.out | apply below_alloc | apply pw_below_drewN | apply below_drew1) | exact HB.out))) : w.heap.size ≤ gb213)); have n3_ := Aside0.mk ((by rw [hg]; exact (below_size (by repeat (first | (with_reducible first | exact HB.out | apply below_alloc | apply pw_below_drewN | apply below_drew1) | exact HB.out))) : w.heap.size ≤ gb213)); clear HB; have HB := n0_; have BK213 := n1_; have GW213 := n2_; have GE213 := n3_; clear n0_ n1_ n2_ n3_; clear hb hbox hg) | ((with_reducible refine gate_dst (N := 3) rfl ?_); (try (refine gate_guard (by rfl) ?_; dsimp only)); refine box_event ?hg (N := 3) ?hd (cs := #[.int .i64 a1_0, .int .i64 a1_1, .int .i64 a1_2, .int .i64 a1_3, .int .i64 a1_4, .string a1_5, .slice A1_6 l1_6.length c1_6]) (t := 44) ?hr ?_; (case hd => rfl); (case hg => rfl); (case hr => first | (go_simp; done) | (go_simp; rfl)); intro gb214 hg w5 hbox hb; have n0_ := Aside0.mk (blk_below (g := gb213) (o := .cells #[.int .i64 a0_0, .int .i64 a0_1, .int .i64 a0_2, .int .i64 a0_3, .int .i64 a0_4, .string a0_5, .slice A0_6 l0_6.length c0_6] 44 (0, 0)) (by (with_reducible repeat (first | refine blk_drewN ?_ _ | refine blk_drew ?_ | refine blk_alloc ?_ _)); exact BK213.out) hb); have n1_ := Aside0.mk (below_step (by repeat (first | (with_reducible first | exact HB.out | apply below_alloc | apply pw_below_drewN | apply below_drew1 | refine below_set ?_ GE213.out) | exact HB.out)) hb); have n2_ := Aside0.mk (hbox); have n3_ := Aside0.mk ((by rw [hg]; exact (below_size (by repeat (first | (with_reducible first | exact HB.out | apply below_alloc | apply pw_below_drewN | apply below_drew1 | refine below_set ?_ GE213.out) | exact HB.out))) : w.heap.size ≤ gb214)); have n4_ := Aside0.mk ((by rw [hg]; exact (below_size (by repeat (first | (with_reducible first | exact HB.out | apply below_alloc | apply pw_below_drewN | apply below_drew1 | refine below_set ?_ GE213.out) | exact HB.out))) : w.heap.size ≤ gb214)); have n5_ := Aside0.mk ((by rw [hg]; exact Nat.ne_of_lt (blk_lt (g := gb213) (o := .cells #[.int .i64 a0_0, .int .i64 a0_1, .int .i64 a0_2, .int .i64 a0_3, .int .i64 a0_4, .string a0_5, .slice A0_6 l0_6.length c0_6] 44 (0, 0)) (by (with_reducible repeat (first | refine blk_drewN ?_ _ | refine blk_drew ?_ | refine blk_alloc ?_ _)); exact BK213.out)) : gb213 ≠ gb214)); have n6_ := Aside0.mk ((by rw [hg]; exact Nat.ne_of_gt (blk_lt (g := gb213) (o := .cells #[.int .i64 a0_0, .int .i64 a0_1, .int .i64 a0_2, .int .i64 a0_3, .int .i64 a0_4, .string a0_5, .slice A0_6 l0_6.length c0_6] 44 (0, 0)) (by (with_reducible repeat (first | refine blk_drewN ?_ _ | refine blk_drew ?_ | refine blk_alloc ?_ _)); exact BK213.out)) : gb214 ≠ gb213)); clear BK213; clear HB; have BK213 := n0_; have HB := n1_; have BK214 := n2_; have GW214 := n3_; have GE214 := n4_; have NB213_214 := n5_; have NB214_213 := n6_; clear n0_ n1_ n2_ n3_ n4_ n5_ n6_; clear hb hbox hg))
 repeat (go_quiet (first | ((with_reducible refine gate_dst (N := 2) rfl ?_); (try (refine gate_guard (by rfl) ?_; dsimp only)); refine box_event ?hg (N := 2) ?hd (cs := #[.int .i64 a0_0, .int .i64 a0_1, .int .i64 a0_2, .int .i64 a0_3, .int .i64 a0_4, .string a0_5, .slice A0_6 l0_6.length c0_6]) (t := 44) ?hr ?_; (case hd => rfl); (case hg => rfl); (case hr => first | (go_simp; done) | (go_simp; rfl)); intro gb213 hg w4 hbox hb; have n0_ := Aside0.mk (below_step (by repeat (first | (with_reducible first | exact HB.out | apply below_alloc | apply pw_below_drewN | apply below_drew1) | exact HB.out)) hb); have n1_ := Aside0.mk (hbox); have n2_ := Aside0.mk ((by rw [hg]; exact (below_size (by repeat (first | (with_reducible first | exact HB.out | apply below_alloc | apply pw_below_drewN | apply below_drew1) | exact HB.out))) : w.heap.size ≤ gb213)); have n3_ := Aside0.mk ((by rw [hg]; exact (below_size (by repeat (first | (with_reducible first | exact HB.out | apply below_alloc | apply pw_below_drewN | apply below_drew1) | exact HB.out))) : w.heap.size ≤ gb213)); clear HB; have HB := n0_; have BK213 := n1_; have GW213 := n2_; have GE213 := n3_; clear n0_ n1_ n2_ n3_; clear hb hbox hg) | ((with_reducible refine gate_dst (N := 3) rfl ?_); (try (refine gate_guard (by rfl) ?_; dsimp only)); refine box_event ?hg (N := 3) ?hd (cs := #[.int .i64 a1_0, .int .i64 a1_1, .int .i64 a1_2, .int .i64 a1_3, .int .i64 a1_4, .string a1_5, .slice A1_6 l1_6.length c1_6]) (t := 44) ?hr ?_; (case hd => rfl); (case hg => rfl); (case hr => first | (go_simp; done) | (go_simp; rfl)); intro gb214 hg w5 hbox hb; have n0_ := Aside0.mk (blk_below (g := gb213) (o := .cells #[.int .i64 a0_0, .int .i64 a0_1, .int .i64 a0_2, .int .i64 a0_3, .int .i64 a0_4, .string a0_5, .slice A0_6 l0_6.length c0_6] 44 (0, 0)) (by (with_reducible repeat (first | refine blk_drewN ?_ _ | refine blk_drew ?_ | refine blk_alloc ?_ _)); exact BK213.out) hb); have n1_ := Aside0.mk (below_step (by repeat (first | (with_reducible first | exact HB.out | apply below_alloc | apply pw_below_drewN | apply below_drew1 | refine below_set ?_ GE213.out) | exact HB.out)) hb); have n2_ := Aside0.mk (hbox); have n3_ := Aside0.mk ((by rw [hg]; exact (below_size (by repeat (first | (with_reducible first | exact HB.out | apply below_alloc | apply pw_below_drewN | apply below_drew1 | refine below_set ?_ GE213.out) | exact HB.out))) : w.heap.size ≤ gb214)); have n4_ := Aside0.mk ((by rw [hg]; exact (below_size (by repeat (first | (with_reducible first | exact HB.out | apply below_alloc | apply pw_below_drewN | apply below_drew1 | refine below_set ?_ GE213.out) | exact HB.out))) : w.heap.size ≤ gb214)); have n5_ := Aside0.mk ((by rw [hg]; exact Nat.ne_of_lt (blk_lt (g := gb213) (o := .cells #[.int .i64 a0_0, .int .i64 a0_1, .int .i64 a0_2, .int .i64 a0_3, .int .i64 a0_4, .string a0_5, .slice A0_6 l0_6.length c0_6] 44 (0, 0)) (by (with_reducible repeat (first | refine blk_drewN ?_ _ | refine blk_drew ?_ | refine blk_alloc ?_ _)); exact BK213.out)) : gb213 ≠ gb214)); have n6_ := Aside0.mk ((by rw [hg]; exact Nat.ne_of_gt (blk_lt (g := gb213) (o := .cells #[.int .i64 a0_0, .int .i64 a0_1, .int .i64 a0_2, .int .i64 a0_3, .int .i64 a0_4, .string a0_5, .slice A0_6 l0_6.length c0_6] 44 (0, 0)) (by (with_reducible repeat (first | refine blk_drewN ?_ _ | refine blk_drew ?_ | refine blk_alloc ?_ _)); exact BK213.out)) : gb214 ≠ gb213)); clear BK213; clear HB; have BK213 := n0_; have HB := n1_; have BK214 := n2_; have GW214 := n3_; have GE214 := n4_; have NB213_214 := n5_; have NB214_213 := n6_; clear n0_ n1_ n2_ n3_ n4_ n5_ n6_; clear hb hbox hg)); go_upto_region 1 with (first | ((with_reducible refine gate_dst (N := 2) rfl ?_); (try (refine gate_guard (by rfl) ?_; dsimp only)); refine box_event ?hg (N := 2) ?hd (cs := #[.int .i64 a0_0, .int .i64 a0_1, .int .i64 a0_2, .int .i64 a0_3, .int .i64 a0_4, .string a0_5, .slice A0_6 l0_6.length c0_6]) (t := 44) ?hr ?_; (case hd => rfl); (case hg => rfl); (case hr => first | (go_simp; done) | (go_simp; rfl)); intro gb213 hg w4 hbox hb; have n0_ := Aside0.mk (below_step (by repeat (first | (with_reducible first | exact HB.out | apply below_alloc | apply pw_below_drewN | apply below_drew1) | exact HB.out)) hb); have n1_ := Aside0.mk (hbox); have n2_ := Aside0.mk ((by rw [hg]; exact (below_size (by repeat (first | (with_reducible first | exact HB.out | apply below_alloc | apply pw_below_drewN | apply below_drew1) | exact HB.out))) : w.heap.size ≤ gb213)); have n3_ := Aside0.mk ((by rw [hg]; exact (below_size (by repeat (first | (with_reducible first | exact HB.out | apply below_alloc | apply pw_below_drewN | apply below_drew1) | exact HB.out))) : w.heap.size ≤ gb213)); clear HB; have HB := n0_; have BK213 := n1_; have GW213 := n2_; have GE213 := n3_; clear n0_ n1_ n2_ n3_; clear hb hbox hg) | ((with_reducible refine gate_dst (N := 3) rfl ?_); (try (refine gate_guard (by rfl) ?_; dsimp only)); refine box_event ?hg (N := 3) ?hd (cs := #[.int .i64 a1_0, .int .i64 a1_1, .int .i64 a1_2, .int .i64 a1_3, .int .i64 a1_4, .string a1_5, .slice A1_6 l1_6.length c1_6]) (t := 44) ?hr ?_; (case hd => rfl); (case hg => rfl); (case hr => first | (go_simp; done) | (go_simp; rfl)); intro gb214 hg w5 hbox hb; have n0_ := Aside0.mk (blk_below (g := gb213) (o := .cells #[.int .i64 a0_0, .int .i64 a0_1, .int .i64 a0_2, .int .i64 a0_3, .int .i64 a0_4, .string a0_5, .slice A0_6 l0_6.length c0_6] 44 (0, 0)) (by (with_reducible repeat (first | refine blk_drewN ?_ _ | refine blk_drew ?_ | refine blk_alloc ?_ _)); exact BK213.out) hb); have n1_ := Aside0.mk (below_step (by repeat (first | (with_reducible first | exact HB.out | apply below_alloc | apply pw_below_drewN | apply below_drew1 | refine below_set ?_ GE213.out) | exact HB.out)) hb); have n2_ := Aside0.mk (hbox); have n3_ := Aside0.mk ((by rw [hg]; exact (below_size (by repeat (first | (with_reducible first | exact HB.out | apply below_alloc | apply pw_below_drewN | apply below_drew1 | refine below_set ?_ GE213.out) | exact HB.out))) : w.heap.size ≤ gb214)); have n4_ := Aside0.mk ((by rw [hg]; exact (below_size (by repeat (first | (with_reducible first | exact HB.out | apply below_alloc | apply pw_below_drewN | apply below_drew1 | refine below_set ?_ GE213.out) | exact HB.out))) : w.heap.size ≤ gb214)); have n5_ := Aside0.mk ((by rw [hg]; exact Nat.ne_of_lt (blk_lt (g := gb213) (o := .cells #[.int .i64 a0_0, .int .i64 a0_1, .int .i64 a0_2, .int .i64 a0_3, .int .i64 a0_4, .string a0_5, .slice A0_6 l0_6.length c0_6] 44 (0, 0)) (by (with_reducible repeat (first | refine blk_drewN ?_ _ | refine blk_drew ?_ | refine blk_alloc ?_ _)); exact BK213.out)) : gb213 ≠ gb214)); have n6_ := Aside0.mk ((by rw [hg]; exact Nat.ne_of_gt (blk_lt (g := gb213) (o := .cells #[.int .i64 a0_0, .int .i64 a0_1, .int .i64 a0_2, .int .i64 a0_3, .int .i64 a0_4, .string a0_5, .slice A0_6 l0_6.length c0_6] 44 (0, 0)) (by (with_reducible repeat (first | refine blk_drewN ?_ _ | refine blk_drew ?_ | refine blk_alloc ?_ _)); exact BK213.out)) : gb214 ≠ gb213)); clear BK213; clear HB; have BK213 := n0_; have HB := n1_; have BK214 := n2_; have GW214 := n3_; have GE214 := n4_; have NB213_214 := n5_; have NB214_213 := n6_; clear n0_ n1_ n2_ n3_ n4_ n5_ n6_; clear hb hbox hg)))
 (try simp only [Act.put, List.setIfInBounds_toArray, List.set_cons_zero, List.set_cons_succ])
 go_cut [54] (fun v54 wc => ∃ (kq : Nat) (x54_2 : Bool), v54 = .bool x54_2 ∧ Aside0 (rehearsalref04_SameNode.j0 kq x54_2 a0_0 a0_1 a0_2 a0_3 a0_4 a0_5 l0_6 a1_0 a1_1 a1_2 a1_3 a1_4 a1_5 l1_6 = some r) ∧ Aside0 (kq ≤ k) ∧ Aside0 (wc.heap[gb213]? = some (.cells #[.int .i64 a0_0, .int .i64 a0_1, .int .i64 a0_2, .int .i64 a0_3, .int .i64 a0_4, .string a0_5, (.slice A0_6 l0_6.length c0_6)] 44 (0, 0))) ∧ Aside0 (wc.heap[gb214]? = some (.cells #[.int .i64 a1_0, .int .i64 a1_1, .int .i64 a1_2, .int .i64 a1_3, .int .i64 a1_4, .string a1_5, (.slice A1_6 l1_6.length c1_6)] 44 (0, 0))) ∧ Aside0 (Below w.heap.size w wc))
 case first =>
  have H := HC3.out
  clear HC3
  by_cases c6 : a0_0 = a1_0
  ·
   rw [if_pos c6] at H
   have c6b0 : (a0_0 == a1_0) = true := beq_iff_eq.mpr c6
   have c6b1 : (a0_0 != a1_0) = false := bne_eq_false_iff_eq.mpr c6
   clear c6
   (first | rw [c6b0] | (simp only [i64_w, i32_w]; rw [c6b0]) | skip)
   by_cases c7 : a0_1 = a1_1
   ·
    rw [if_pos c7] at H
    have c7b0 : (a0_1 == a1_1) = true := beq_iff_eq.mpr c7
    have c7b1 : (a0_1 != a1_1) = false := bne_eq_false_iff_eq.mpr c7
    clear c7
    by_cases c8 : a0_2 = a1_2
    ·
     rw [if_pos c8] at H
     have c8b0 : (a0_2 == a1_2) = true := beq_iff_eq.mpr c8
     have c8b1 : (a0_2 != a1_2) = false := bne_eq_false_iff_eq.mpr c8
     clear c8
     by_cases c9 : a0_3 = a1_3
     ·
      rw [if_pos c9] at H
      have c9b0 : (a0_3 == a1_3) = true := beq_iff_eq.mpr c9
      have c9b1 : (a0_3 != a1_3) = false := bne_eq_false_iff_eq.mpr c9
      clear c9
      by_cases c10 : a0_4 = a1_4
      ·
       rw [if_pos c10] at H
       have c10b0 : (a0_4 == a1_4) = true := beq_iff_eq.mpr c10
       have c10b1 : (a0_4 != a1_4) = false := bne_eq_false_iff_eq.mpr c10
       clear c10
       by_cases c11 : a0_5.toList = a1_5.toList
       ·
        rw [if_pos c11] at H
        have c11b0 : (a0_5.toList == a1_5.toList) = true := beq_iff_eq.mpr c11
        have c11b1 : (a0_5.toList != a1_5.toList) = false := bne_eq_false_iff_eq.mpr c11
        clear c11
        have H' := Aside0.mk H
        clear H
        have hnb12 := NB213_214.out
        have hnc12 := NB214_213.out
        have hcz13_0 : w5.cell? ⟨gb213, 0, none⟩ = some (.int .i64 a0_0) := (blk_cell BK213.out 0).trans rfl
        have hcz13_1 : w5.cell? ⟨gb213, 1, none⟩ = some (.int .i64 a0_1) := (blk_cell BK213.out 1).trans rfl
        have hcz13_2 : w5.cell? ⟨gb213, 2, none⟩ = some (.int .i64 a0_2) := (blk_cell BK213.out 2).trans rfl
        have hcz13_3 : w5.cell? ⟨gb213, 3, none⟩ = some (.int .i64 a0_3) := (blk_cell BK213.out 3).trans rfl
        have hcz13_4 : w5.cell? ⟨gb213, 4, none⟩ = some (.int .i64 a0_4) := (blk_cell BK213.out 4).trans rfl
        have hcz13_5 : w5.cell? ⟨gb213, 5, none⟩ = some (.string a0_5) := (blk_cell BK213.out 5).trans rfl
        have hcz13_6 : w5.cell? ⟨gb213, 6, none⟩ = some (.slice A0_6 l0_6.length c0_6) := (blk_cell BK213.out 6).trans rfl
        have hfz13_0 := blk_frozen BK213.out 0
        have hfz13_1 := blk_frozen BK213.out 1
        have hfz13_2 := blk_frozen BK213.out 2
        have hfz13_3 := blk_frozen BK213.out 3
        have hfz13_4 := blk_frozen BK213.out 4
        have hfz13_5 := blk_frozen BK213.out 5
        have hfz13_6 := blk_frozen BK213.out 6
        have hcz14_0 : w5.cell? ⟨gb214, 0, none⟩ = some (.int .i64 a1_0) := (blk_cell BK214.out 0).trans rfl
        have hcz14_1 : w5.cell? ⟨gb214, 1, none⟩ = some (.int .i64 a1_1) := (blk_cell BK214.out 1).trans rfl
        have hcz14_2 : w5.cell? ⟨gb214, 2, none⟩ = some (.int .i64 a1_2) := (blk_cell BK214.out 2).trans rfl
        have hcz14_3 : w5.cell? ⟨gb214, 3, none⟩ = some (.int .i64 a1_3) := (blk_cell BK214.out 3).trans rfl
        have hcz14_4 : w5.cell? ⟨gb214, 4, none⟩ = some (.int .i64 a1_4) := (blk_cell BK214.out 4).trans rfl
        have hcz14_5 : w5.cell? ⟨gb214, 5, none⟩ = some (.string a1_5) := (blk_cell BK214.out 5).trans rfl
        have hcz14_6 : w5.cell? ⟨gb214, 6, none⟩ = some (.slice A1_6 l1_6.length c1_6) := (blk_cell BK214.out 6).trans rfl
        have hfz14_0 := blk_frozen BK214.out 0
        have hfz14_1 := blk_frozen BK214.out 1
        have hfz14_2 := blk_frozen BK214.out 2
        have hfz14_3 := blk_frozen BK214.out 3
        have hfz14_4 := blk_frozen BK214.out 4
        have hfz14_5 := blk_frozen BK214.out 5
        have hfz14_6 := blk_frozen BK214.out 6
        go_wp2
        repeat (go_quiet (fail); try go_wp2)
        go_meet
        case rel => exact ⟨_, (((l0_6.length : Int) != (l1_6.length : Int))), (by first | rfl | (simp; done) | (simp [*]; done)), H', ⟨by first | omega | exact Nat.le_refl _⟩, ⟨by (with_reducible repeat (first | refine blk_drewN ?_ _ | refine blk_drew ?_ | refine blk_alloc ?_ _)); exact BK213.out⟩, ⟨by (with_reducible repeat (first | refine blk_drewN ?_ _ | refine blk_drew ?_ | refine blk_alloc ?_ _)); exact BK214.out⟩, ⟨by repeat (first | (with_reducible first | exact HB.out | apply below_alloc | apply pw_below_drewN | apply below_drew1 | refine below_set ?_ GE213.out | refine below_set ?_ GE214.out) | exact HB.out)⟩⟩
       ·
        rw [if_neg c11] at H
        have c11b0 : (a0_5.toList == a1_5.toList) = false := beq_eq_false_iff_ne.mpr c11
        have c11b1 : (a0_5.toList != a1_5.toList) = true := bne_iff_ne.mpr c11
        have H' := Aside0.mk H
        clear H
        have hnb15 := NB213_214.out
        have hnc15 := NB214_213.out
        have hcz16_0 : w5.cell? ⟨gb213, 0, none⟩ = some (.int .i64 a0_0) := (blk_cell BK213.out 0).trans rfl
        have hcz16_1 : w5.cell? ⟨gb213, 1, none⟩ = some (.int .i64 a0_1) := (blk_cell BK213.out 1).trans rfl
        have hcz16_2 : w5.cell? ⟨gb213, 2, none⟩ = some (.int .i64 a0_2) := (blk_cell BK213.out 2).trans rfl
        have hcz16_3 : w5.cell? ⟨gb213, 3, none⟩ = some (.int .i64 a0_3) := (blk_cell BK213.out 3).trans rfl
        have hcz16_4 : w5.cell? ⟨gb213, 4, none⟩ = some (.int .i64 a0_4) := (blk_cell BK213.out 4).trans rfl
        have hcz16_5 : w5.cell? ⟨gb213, 5, none⟩ = some (.string a0_5) := (blk_cell BK213.out 5).trans rfl
        have hcz16_6 : w5.cell? ⟨gb213, 6, none⟩ = some (.slice A0_6 l0_6.length c0_6) := (blk_cell BK213.out 6).trans rfl
        have hfz16_0 := blk_frozen BK213.out 0
        have hfz16_1 := blk_frozen BK213.out 1
        have hfz16_2 := blk_frozen BK213.out 2
        have hfz16_3 := blk_frozen BK213.out 3
        have hfz16_4 := blk_frozen BK213.out 4
        have hfz16_5 := blk_frozen BK213.out 5
        have hfz16_6 := blk_frozen BK213.out 6
        have hcz17_0 : w5.cell? ⟨gb214, 0, none⟩ = some (.int .i64 a1_0) := (blk_cell BK214.out 0).trans rfl
        have hcz17_1 : w5.cell? ⟨gb214, 1, none⟩ = some (.int .i64 a1_1) := (blk_cell BK214.out 1).trans rfl
        have hcz17_2 : w5.cell? ⟨gb214, 2, none⟩ = some (.int .i64 a1_2) := (blk_cell BK214.out 2).trans rfl
        have hcz17_3 : w5.cell? ⟨gb214, 3, none⟩ = some (.int .i64 a1_3) := (blk_cell BK214.out 3).trans rfl
        have hcz17_4 : w5.cell? ⟨gb214, 4, none⟩ = some (.int .i64 a1_4) := (blk_cell BK214.out 4).trans rfl
        have hcz17_5 : w5.cell? ⟨gb214, 5, none⟩ = some (.string a1_5) := (blk_cell BK214.out 5).trans rfl
        have hcz17_6 : w5.cell? ⟨gb214, 6, none⟩ = some (.slice A1_6 l1_6.length c1_6) := (blk_cell BK214.out 6).trans rfl
        have hfz17_0 := blk_frozen BK214.out 0
        have hfz17_1 := blk_frozen BK214.out 1
        have hfz17_2 := blk_frozen BK214.out 2
        have hfz17_3 := blk_frozen BK214.out 3
        have hfz17_4 := blk_frozen BK214.out 4
        have hfz17_5 := blk_frozen BK214.out 5
        have hfz17_6 := blk_frozen BK214.out 6
        go_wp2
        repeat (go_quiet (fail); try go_wp2)
        go_meet
        case rel => exact ⟨_, (true), (by first | rfl | (simp; done) | (simp [*]; done)), H', ⟨by first | omega | exact Nat.le_refl _⟩, ⟨by (with_reducible repeat (first | refine blk_drewN ?_ _ | refine blk_drew ?_ | refine blk_alloc ?_ _)); exact BK213.out⟩, ⟨by (with_reducible repeat (first | refine blk_drewN ?_ _ | refine blk_drew ?_ | refine blk_alloc ?_ _)); exact BK214.out⟩, ⟨by repeat (first | (with_reducible first | exact HB.out | apply below_alloc | apply pw_below_drewN | apply below_drew1 | refine below_set ?_ GE213.out | refine below_set ?_ GE214.out) | exact HB.out)⟩⟩
      ·
       rw [if_neg c10] at H
       have c10b0 : (a0_4 == a1_4) = false := beq_eq_false_iff_ne.mpr c10
       have c10b1 : (a0_4 != a1_4) = true := bne_iff_ne.mpr c10
       have H' := Aside0.mk H
       clear H
       have hnb18 := NB213_214.out
       have hnc18 := NB214_213.out
       have hcz19_0 : w5.cell? ⟨gb213, 0, none⟩ = some (.int .i64 a0_0) := (blk_cell BK213.out 0).trans rfl
       have hcz19_1 : w5.cell? ⟨gb213, 1, none⟩ = some (.int .i64 a0_1) := (blk_cell BK213.out 1).trans rfl
       have hcz19_2 : w5.cell? ⟨gb213, 2, none⟩ = some (.int .i64 a0_2) := (blk_cell BK213.out 2).trans rfl
       have hcz19_3 : w5.cell? ⟨gb213, 3, none⟩ = some (.int .i64 a0_3) := (blk_cell BK213.out 3).trans rfl
       have hcz19_4 : w5.cell? ⟨gb213, 4, none⟩ = some (.int .i64 a0_4) := (blk_cell BK213.out 4).trans rfl
       have hcz19_5 : w5.cell? ⟨gb213, 5, none⟩ = some (.string a0_5) := (blk_cell BK213.out 5).trans rfl
       have hcz19_6 : w5.cell? ⟨gb213, 6, none⟩ = some (.slice A0_6 l0_6.length c0_6) := (blk_cell BK213.out 6).trans rfl
       have hfz19_0 := blk_frozen BK213.out 0
       have hfz19_1 := blk_frozen BK213.out 1
       have hfz19_2 := blk_frozen BK213.out 2
       have hfz19_3 := blk_frozen BK213.out 3
       have hfz19_4 := blk_frozen BK213.out 4
       have hfz19_5 := blk_frozen BK213.out 5
       have hfz19_6 := blk_frozen BK213.out 6
       have hcz20_0 : w5.cell? ⟨gb214, 0, none⟩ = some (.int .i64 a1_0) := (blk_cell BK214.out 0).trans rfl
       have hcz20_1 : w5.cell? ⟨gb214, 1, none⟩ = some (.int .i64 a1_1) := (blk_cell BK214.out 1).trans rfl
       have hcz20_2 : w5.cell? ⟨gb214, 2, none⟩ = some (.int .i64 a1_2) := (blk_cell BK214.out 2).trans rfl
       have hcz20_3 : w5.cell? ⟨gb214, 3, none⟩ = some (.int .i64 a1_3) := (blk_cell BK214.out 3).trans rfl
       have hcz20_4 : w5.cell? ⟨gb214, 4, none⟩ = some (.int .i64 a1_4) := (blk_cell BK214.out 4).trans rfl
       have hcz20_5 : w5.cell? ⟨gb214, 5, none⟩ = some (.string a1_5) := (blk_cell BK214.out 5).trans rfl
       have hcz20_6 : w5.cell? ⟨gb214, 6, none⟩ = some (.slice A1_6 l1_6.length c1_6) := (blk_cell BK214.out 6).trans rfl
       have hfz20_0 := blk_frozen BK214.out 0
       have hfz20_1 := blk_frozen BK214.out 1
       have hfz20_2 := blk_frozen BK214.out 2
       have hfz20_3 := blk_frozen BK214.out 3
       have hfz20_4 := blk_frozen BK214.out 4
       have hfz20_5 := blk_frozen BK214.out 5
       have hfz20_6 := blk_frozen BK214.out 6
       go_wp2
       repeat (go_quiet (fail); try go_wp2)
       go_meet
       case rel => exact ⟨_, (true), (by first | rfl | (simp; done) | (simp [*]; done)), H', ⟨by first | omega | exact Nat.le_refl _⟩, ⟨by (with_reducible repeat (first | refine blk_drewN ?_ _ | refine blk_drew ?_ | refine blk_alloc ?_ _)); exact BK213.out⟩, ⟨by (with_reducible repeat (first | refine blk_drewN ?_ _ | refine blk_drew ?_ | refine blk_alloc ?_ _)); exact BK214.out⟩, ⟨by repeat (first | (with_reducible first | exact HB.out | apply below_alloc | apply pw_below_drewN | apply below_drew1 | refine below_set ?_ GE213.out | refine below_set ?_ GE214.out) | exact HB.out)⟩⟩
     ·
      rw [if_neg c9] at H
      have c9b0 : (a0_3 == a1_3) = false := beq_eq_false_iff_ne.mpr c9
      have c9b1 : (a0_3 != a1_3) = true := bne_iff_ne.mpr c9
      have H' := Aside0.mk H
      clear H
      have hnb21 := NB213_214.out
      have hnc21 := NB214_213.out
      have hcz22_0 : w5.cell? ⟨gb213, 0, none⟩ = some (.int .i64 a0_0) := (blk_cell BK213.out 0).trans rfl
      have hcz22_1 : w5.cell? ⟨gb213, 1, none⟩ = some (.int .i64 a0_1) := (blk_cell BK213.out 1).trans rfl
      have hcz22_2 : w5.cell? ⟨gb213, 2, none⟩ = some (.int .i64 a0_2) := (blk_cell BK213.out 2).trans rfl
      have hcz22_3 : w5.cell? ⟨gb213, 3, none⟩ = some (.int .i64 a0_3) := (blk_cell BK213.out 3).trans rfl
      have hcz22_4 : w5.cell? ⟨gb213, 4, none⟩ = some (.int .i64 a0_4) := (blk_cell BK213.out 4).trans rfl
      have hcz22_5 : w5.cell? ⟨gb213, 5, none⟩ = some (.string a0_5) := (blk_cell BK213.out 5).trans rfl
      have hcz22_6 : w5.cell? ⟨gb213, 6, none⟩ = some (.slice A0_6 l0_6.length c0_6) := (blk_cell BK213.out 6).trans rfl
      have hfz22_0 := blk_frozen BK213.out 0
      have hfz22_1 := blk_frozen BK213.out 1
      have hfz22_2 := blk_frozen BK213.out 2
      have hfz22_3 := blk_frozen BK213.out 3
      have hfz22_4 := blk_frozen BK213.out 4
      have hfz22_5 := blk_frozen BK213.out 5
      have hfz22_6 := blk_frozen BK213.out 6
      have hcz23_0 : w5.cell? ⟨gb214, 0, none⟩ = some (.int .i64 a1_0) := (blk_cell BK214.out 0).trans rfl
      have hcz23_1 : w5.cell? ⟨gb214, 1, none⟩ = some (.int .i64 a1_1) := (blk_cell BK214.out 1).trans rfl
      have hcz23_2 : w5.cell? ⟨gb214, 2, none⟩ = some (.int .i64 a1_2) := (blk_cell BK214.out 2).trans rfl
      have hcz23_3 : w5.cell? ⟨gb214, 3, none⟩ = some (.int .i64 a1_3) := (blk_cell BK214.out 3).trans rfl
      have hcz23_4 : w5.cell? ⟨gb214, 4, none⟩ = some (.int .i64 a1_4) := (blk_cell BK214.out 4).trans rfl
      have hcz23_5 : w5.cell? ⟨gb214, 5, none⟩ = some (.string a1_5) := (blk_cell BK214.out 5).trans rfl
      have hcz23_6 : w5.cell? ⟨gb214, 6, none⟩ = some (.slice A1_6 l1_6.length c1_6) := (blk_cell BK214.out 6).trans rfl
      have hfz23_0 := blk_frozen BK214.out 0
      have hfz23_1 := blk_frozen BK214.out 1
      have hfz23_2 := blk_frozen BK214.out 2
      have hfz23_3 := blk_frozen BK214.out 3
      have hfz23_4 := blk_frozen BK214.out 4
      have hfz23_5 := blk_frozen BK214.out 5
      have hfz23_6 := blk_frozen BK214.out 6
      go_wp2
      repeat (go_quiet (fail); try go_wp2)
      go_meet
      case rel => exact ⟨_, (true), (by first | rfl | (simp; done) | (simp [*]; done)), H', ⟨by first | omega | exact Nat.le_refl _⟩, ⟨by (with_reducible repeat (first | refine blk_drewN ?_ _ | refine blk_drew ?_ | refine blk_alloc ?_ _)); exact BK213.out⟩, ⟨by (with_reducible repeat (first | refine blk_drewN ?_ _ | refine blk_drew ?_ | refine blk_alloc ?_ _)); exact BK214.out⟩, ⟨by repeat (first | (with_reducible first | exact HB.out | apply below_alloc | apply pw_below_drewN | apply below_drew1 | refine below_set ?_ GE213.out | refine below_set ?_ GE214.out) | exact HB.out)⟩⟩
    ·
     rw [if_neg c8] at H
     have c8b0 : (a0_2 == a1_2) = false := beq_eq_false_iff_ne.mpr c8
     have c8b1 : (a0_2 != a1_2) = true := bne_iff_ne.mpr c8
     have H' := Aside0.mk H
     clear H
     have hnb24 := NB213_214.out
     have hnc24 := NB214_213.out
     have hcz25_0 : w5.cell? ⟨gb213, 0, none⟩ = some (.int .i64 a0_0) := (blk_cell BK213.out 0).trans rfl
     have hcz25_1 : w5.cell? ⟨gb213, 1, none⟩ = some (.int .i64 a0_1) := (blk_cell BK213.out 1).trans rfl
     have hcz25_2 : w5.cell? ⟨gb213, 2, none⟩ = some (.int .i64 a0_2) := (blk_cell BK213.out 2).trans rfl
     have hcz25_3 : w5.cell? ⟨gb213, 3, none⟩ = some (.int .i64 a0_3) := (blk_cell BK213.out 3).trans rfl
     have hcz25_4 : w5.cell? ⟨gb213, 4, none⟩ = some (.int .i64 a0_4) := (blk_cell BK213.out 4).trans rfl
     have hcz25_5 : w5.cell? ⟨gb213, 5, none⟩ = some (.string a0_5) := (blk_cell BK213.out 5).trans rfl
     have hcz25_6 : w5.cell? ⟨gb213, 6, none⟩ = some (.slice A0_6 l0_6.length c0_6) := (blk_cell BK213.out 6).trans rfl
     have hfz25_0 := blk_frozen BK213.out 0
     have hfz25_1 := blk_frozen BK213.out 1
     have hfz25_2 := blk_frozen BK213.out 2
     have hfz25_3 := blk_frozen BK213.out 3
     have hfz25_4 := blk_frozen BK213.out 4
     have hfz25_5 := blk_frozen BK213.out 5
     have hfz25_6 := blk_frozen BK213.out 6
     have hcz26_0 : w5.cell? ⟨gb214, 0, none⟩ = some (.int .i64 a1_0) := (blk_cell BK214.out 0).trans rfl
     have hcz26_1 : w5.cell? ⟨gb214, 1, none⟩ = some (.int .i64 a1_1) := (blk_cell BK214.out 1).trans rfl
     have hcz26_2 : w5.cell? ⟨gb214, 2, none⟩ = some (.int .i64 a1_2) := (blk_cell BK214.out 2).trans rfl
     have hcz26_3 : w5.cell? ⟨gb214, 3, none⟩ = some (.int .i64 a1_3) := (blk_cell BK214.out 3).trans rfl
     have hcz26_4 : w5.cell? ⟨gb214, 4, none⟩ = some (.int .i64 a1_4) := (blk_cell BK214.out 4).trans rfl
     have hcz26_5 : w5.cell? ⟨gb214, 5, none⟩ = some (.string a1_5) := (blk_cell BK214.out 5).trans rfl
     have hcz26_6 : w5.cell? ⟨gb214, 6, none⟩ = some (.slice A1_6 l1_6.length c1_6) := (blk_cell BK214.out 6).trans rfl
     have hfz26_0 := blk_frozen BK214.out 0
     have hfz26_1 := blk_frozen BK214.out 1
     have hfz26_2 := blk_frozen BK214.out 2
     have hfz26_3 := blk_frozen BK214.out 3
     have hfz26_4 := blk_frozen BK214.out 4
     have hfz26_5 := blk_frozen BK214.out 5
     have hfz26_6 := blk_frozen BK214.out 6
     go_wp2
     repeat (go_quiet (fail); try go_wp2)
     go_meet
     case rel => exact ⟨_, (true), (by first | rfl | (simp; done) | (simp [*]; done)), H', ⟨by first | omega | exact Nat.le_refl _⟩, ⟨by (with_reducible repeat (first | refine blk_drewN ?_ _ | refine blk_drew ?_ | refine blk_alloc ?_ _)); exact BK213.out⟩, ⟨by (with_reducible repeat (first | refine blk_drewN ?_ _ | refine blk_drew ?_ | refine blk_alloc ?_ _)); exact BK214.out⟩, ⟨by repeat (first | (with_reducible first | exact HB.out | apply below_alloc | apply pw_below_drewN | apply below_drew1 | refine below_set ?_ GE213.out | refine below_set ?_ GE214.out) | exact HB.out)⟩⟩
   ·
    rw [if_neg c7] at H
    have c7b0 : (a0_1 == a1_1) = false := beq_eq_false_iff_ne.mpr c7
    have c7b1 : (a0_1 != a1_1) = true := bne_iff_ne.mpr c7
    have H' := Aside0.mk H
    clear H
    have hnb27 := NB213_214.out
    have hnc27 := NB214_213.out
    have hcz28_0 : w5.cell? ⟨gb213, 0, none⟩ = some (.int .i64 a0_0) := (blk_cell BK213.out 0).trans rfl
    have hcz28_1 : w5.cell? ⟨gb213, 1, none⟩ = some (.int .i64 a0_1) := (blk_cell BK213.out 1).trans rfl
    have hcz28_2 : w5.cell? ⟨gb213, 2, none⟩ = some (.int .i64 a0_2) := (blk_cell BK213.out 2).trans rfl
    have hcz28_3 : w5.cell? ⟨gb213, 3, none⟩ = some (.int .i64 a0_3) := (blk_cell BK213.out 3).trans rfl
    have hcz28_4 : w5.cell? ⟨gb213, 4, none⟩ = some (.int .i64 a0_4) := (blk_cell BK213.out 4).trans rfl
    have hcz28_5 : w5.cell? ⟨gb213, 5, none⟩ = some (.string a0_5) := (blk_cell BK213.out 5).trans rfl
    have hcz28_6 : w5.cell? ⟨gb213, 6, none⟩ = some (.slice A0_6 l0_6.length c0_6) := (blk_cell BK213.out 6).trans rfl
    have hfz28_0 := blk_frozen BK213.out 0
    have hfz28_1 := blk_frozen BK213.out 1
    have hfz28_2 := blk_frozen BK213.out 2
    have hfz28_3 := blk_frozen BK213.out 3
    have hfz28_4 := blk_frozen BK213.out 4
    have hfz28_5 := blk_frozen BK213.out 5
    have hfz28_6 := blk_frozen BK213.out 6
    have hcz29_0 : w5.cell? ⟨gb214, 0, none⟩ = some (.int .i64 a1_0) := (blk_cell BK214.out 0).trans rfl
    have hcz29_1 : w5.cell? ⟨gb214, 1, none⟩ = some (.int .i64 a1_1) := (blk_cell BK214.out 1).trans rfl
    have hcz29_2 : w5.cell? ⟨gb214, 2, none⟩ = some (.int .i64 a1_2) := (blk_cell BK214.out 2).trans rfl
    have hcz29_3 : w5.cell? ⟨gb214, 3, none⟩ = some (.int .i64 a1_3) := (blk_cell BK214.out 3).trans rfl
    have hcz29_4 : w5.cell? ⟨gb214, 4, none⟩ = some (.int .i64 a1_4) := (blk_cell BK214.out 4).trans rfl
    have hcz29_5 : w5.cell? ⟨gb214, 5, none⟩ = some (.string a1_5) := (blk_cell BK214.out 5).trans rfl
    have hcz29_6 : w5.cell? ⟨gb214, 6, none⟩ = some (.slice A1_6 l1_6.length c1_6) := (blk_cell BK214.out 6).trans rfl
    have hfz29_0 := blk_frozen BK214.out 0
    have hfz29_1 := blk_frozen BK214.out 1
    have hfz29_2 := blk_frozen BK214.out 2
    have hfz29_3 := blk_frozen BK214.out 3
    have hfz29_4 := blk_frozen BK214.out 4
    have hfz29_5 := blk_frozen BK214.out 5
    have hfz29_6 := blk_frozen BK214.out 6
    go_wp2
    repeat (go_quiet (fail); try go_wp2)
    go_meet
    case rel => exact ⟨_, (true), (by first | rfl | (simp; done) | (simp [*]; done)), H', ⟨by first | omega | exact Nat.le_refl _⟩, ⟨by (with_reducible repeat (first | refine blk_drewN ?_ _ | refine blk_drew ?_ | refine blk_alloc ?_ _)); exact BK213.out⟩, ⟨by (with_reducible repeat (first | refine blk_drewN ?_ _ | refine blk_drew ?_ | refine blk_alloc ?_ _)); exact BK214.out⟩, ⟨by repeat (first | (with_reducible first | exact HB.out | apply below_alloc | apply pw_below_drewN | apply below_drew1 | refine below_set ?_ GE213.out | refine below_set ?_ GE214.out) | exact HB.out)⟩⟩
  ·
   rw [if_neg c6] at H
   have c6b0 : (a0_0 == a1_0) = false := beq_eq_false_iff_ne.mpr c6
   have c6b1 : (a0_0 != a1_0) = true := bne_iff_ne.mpr c6
   (first | rw [c6b0] | (simp only [i64_w, i32_w]; rw [c6b0]) | skip)
   have H' := Aside0.mk H
   clear H
   have hnb30 := NB213_214.out
   have hnc30 := NB214_213.out
   have hcz31_0 : w5.cell? ⟨gb213, 0, none⟩ = some (.int .i64 a0_0) := (blk_cell BK213.out 0).trans rfl
   have hcz31_1 : w5.cell? ⟨gb213, 1, none⟩ = some (.int .i64 a0_1) := (blk_cell BK213.out 1).trans rfl
   have hcz31_2 : w5.cell? ⟨gb213, 2, none⟩ = some (.int .i64 a0_2) := (blk_cell BK213.out 2).trans rfl
   have hcz31_3 : w5.cell? ⟨gb213, 3, none⟩ = some (.int .i64 a0_3) := (blk_cell BK213.out 3).trans rfl
   have hcz31_4 : w5.cell? ⟨gb213, 4, none⟩ = some (.int .i64 a0_4) := (blk_cell BK213.out 4).trans rfl
   have hcz31_5 : w5.cell? ⟨gb213, 5, none⟩ = some (.string a0_5) := (blk_cell BK213.out 5).trans rfl
   have hcz31_6 : w5.cell? ⟨gb213, 6, none⟩ = some (.slice A0_6 l0_6.length c0_6) := (blk_cell BK213.out 6).trans rfl
   have hfz31_0 := blk_frozen BK213.out 0
   have hfz31_1 := blk_frozen BK213.out 1
   have hfz31_2 := blk_frozen BK213.out 2
   have hfz31_3 := blk_frozen BK213.out 3
   have hfz31_4 := blk_frozen BK213.out 4
   have hfz31_5 := blk_frozen BK213.out 5
   have hfz31_6 := blk_frozen BK213.out 6
   have hcz32_0 : w5.cell? ⟨gb214, 0, none⟩ = some (.int .i64 a1_0) := (blk_cell BK214.out 0).trans rfl
   have hcz32_1 : w5.cell? ⟨gb214, 1, none⟩ = some (.int .i64 a1_1) := (blk_cell BK214.out 1).trans rfl
   have hcz32_2 : w5.cell? ⟨gb214, 2, none⟩ = some (.int .i64 a1_2) := (blk_cell BK214.out 2).trans rfl
   have hcz32_3 : w5.cell? ⟨gb214, 3, none⟩ = some (.int .i64 a1_3) := (blk_cell BK214.out 3).trans rfl
   have hcz32_4 : w5.cell? ⟨gb214, 4, none⟩ = some (.int .i64 a1_4) := (blk_cell BK214.out 4).trans rfl
   have hcz32_5 : w5.cell? ⟨gb214, 5, none⟩ = some (.string a1_5) := (blk_cell BK214.out 5).trans rfl
   have hcz32_6 : w5.cell? ⟨gb214, 6, none⟩ = some (.slice A1_6 l1_6.length c1_6) := (blk_cell BK214.out 6).trans rfl
   have hfz32_0 := blk_frozen BK214.out 0
   have hfz32_1 := blk_frozen BK214.out 1
   have hfz32_2 := blk_frozen BK214.out 2
   have hfz32_3 := blk_frozen BK214.out 3
   have hfz32_4 := blk_frozen BK214.out 4
   have hfz32_5 := blk_frozen BK214.out 5
   have hfz32_6 := blk_frozen BK214.out 6
   go_wp2
   repeat (go_quiet (fail); try go_wp2)
   go_meet
   case rel => exact ⟨_, (true), (by first | rfl | (simp; done) | (simp [*]; done)), H', ⟨by first | omega | exact Nat.le_refl _⟩, ⟨by (with_reducible repeat (first | refine blk_drewN ?_ _ | refine blk_drew ?_ | refine blk_alloc ?_ _)); exact BK213.out⟩, ⟨by (with_reducible repeat (first | refine blk_drewN ?_ _ | refine blk_drew ?_ | refine blk_alloc ?_ _)); exact BK214.out⟩, ⟨by repeat (first | (with_reducible first | exact HB.out | apply below_alloc | apply pw_below_drewN | apply below_drew1 | refine below_set ?_ GE213.out | refine below_set ?_ GE214.out) | exact HB.out)⟩⟩
 case rest =>
  clear HC3
  try clear c1
  try clear c2
  try clear p2
  try clear c3
  try clear c6
  try clear c6b0
  try clear c6b1
  try clear c7
  try clear c7b0
  try clear c7b1
  try clear c8
  try clear c8b0
  try clear c8b1
  try clear c9
  try clear c9b0
  try clear c9b1
  try clear c10
  try clear c10b0
  try clear c10b1
  try clear c11
  try clear c11b0
  try clear c11b1
  try clear c12
  try clear c15
  try clear c18
  try clear c21
  try clear c24
  try clear c27
  try clear c30
  try clear c32
  try clear hcz13_0
  try clear hcz13_1
  try clear hcz13_2
  try clear hcz13_3
  try clear hcz13_4
  try clear hcz13_5
  try clear hcz13_6
  try clear hcz14_0
  try clear hcz14_1
  try clear hcz14_2
  try clear hcz14_3
  try clear hcz14_4
  try clear hcz14_5
  try clear hcz14_6
  try clear hcz16_0
  try clear hcz16_1
  try clear hcz16_2
  try clear hcz16_3
  try clear hcz16_4
  try clear hcz16_5
  try clear hcz16_6
  try clear hcz17_0
  try clear hcz17_1
  try clear hcz17_2
  try clear hcz17_3
  try clear hcz17_4
  try clear hcz17_5
  try clear hcz17_6
  try clear hcz19_0
  try clear hcz19_1
  try clear hcz19_2
  try clear hcz19_3
  try clear hcz19_4
  try clear hcz19_5
  try clear hcz19_6
  try clear hcz20_0
  try clear hcz20_1
  try clear hcz20_2
  try clear hcz20_3
  try clear hcz20_4
  try clear hcz20_5
  try clear hcz20_6
  try clear hcz22_0
  try clear hcz22_1
  try clear hcz22_2
  try clear hcz22_3
  try clear hcz22_4
  try clear hcz22_5
  try clear hcz22_6
  try clear hcz23_0
  try clear hcz23_1
  try clear hcz23_2
  try clear hcz23_3
  try clear hcz23_4
  try clear hcz23_5
  try clear hcz23_6
  try clear hcz25_0
  try clear hcz25_1
  try clear hcz25_2
  try clear hcz25_3
  try clear hcz25_4
  try clear hcz25_5
  try clear hcz25_6
  try clear hcz26_0
  try clear hcz26_1
  try clear hcz26_2
  try clear hcz26_3
  try clear hcz26_4
  try clear hcz26_5
  try clear hcz26_6
  try clear hcz28_0
  try clear hcz28_1
  try clear hcz28_2
  try clear hcz28_3
  try clear hcz28_4
  try clear hcz28_5
  try clear hcz28_6
  try clear hcz29_0
  try clear hcz29_1
  try clear hcz29_2
  try clear hcz29_3
  try clear hcz29_4
  try clear hcz29_5
  try clear hcz29_6
  try clear hcz31_0
  try clear hcz31_1
  try clear hcz31_2
  try clear hcz31_3
  try clear hcz31_4
  try clear hcz31_5
  try clear hcz31_6
  try clear hcz32_0
  try clear hcz32_1
  try clear hcz32_2
  try clear hcz32_3
  try clear hcz32_4
  try clear hcz32_5
  try clear hcz32_6
  try clear hfz13_0
  try clear hfz13_1
  try clear hfz13_2
  try clear hfz13_3
  try clear hfz13_4
  try clear hfz13_5
  try clear hfz13_6
  try clear hfz14_0
  try clear hfz14_1
  try clear hfz14_2
  try clear hfz14_3
  try clear hfz14_4
  try clear hfz14_5
  try clear hfz14_6
  try clear hfz16_0
  try clear hfz16_1
  try clear hfz16_2
  try clear hfz16_3
  try clear hfz16_4
  try clear hfz16_5
  try clear hfz16_6
  try clear hfz17_0
  try clear hfz17_1
  try clear hfz17_2
  try clear hfz17_3
  try clear hfz17_4
  try clear hfz17_5
  try clear hfz17_6
  try clear hfz19_0
  try clear hfz19_1
  try clear hfz19_2
  try clear hfz19_3
  try clear hfz19_4
  try clear hfz19_5
  try clear hfz19_6
  try clear hfz20_0
  try clear hfz20_1
  try clear hfz20_2
  try clear hfz20_3
  try clear hfz20_4
  try clear hfz20_5
  try clear hfz20_6
  try clear hfz22_0
  try clear hfz22_1
  try clear hfz22_2
  try clear hfz22_3
  try clear hfz22_4
  try clear hfz22_5
  try clear hfz22_6
  try clear hfz23_0
  try clear hfz23_1
  try clear hfz23_2
  try clear hfz23_3
  try clear hfz23_4
  try clear hfz23_5
  try clear hfz23_6
  try clear hfz25_0
  try clear hfz25_1
  try clear hfz25_2
  try clear hfz25_3
  try clear hfz25_4
  try clear hfz25_5
  try clear hfz25_6
  try clear hfz26_0
  try clear hfz26_1
  try clear hfz26_2
  try clear hfz26_3
  try clear hfz26_4
  try clear hfz26_5
  try clear hfz26_6
  try clear hfz28_0
  try clear hfz28_1
  try clear hfz28_2
  try clear hfz28_3
  try clear hfz28_4
  try clear hfz28_5
  try clear hfz28_6
  try clear hfz29_0
  try clear hfz29_1
  try clear hfz29_2
  try clear hfz29_3
  try clear hfz29_4
  try clear hfz29_5
  try clear hfz29_6
  try clear hfz31_0
  try clear hfz31_1
  try clear hfz31_2
  try clear hfz31_3
  try clear hfz31_4
  try clear hfz31_5
  try clear hfz31_6
  try clear hfz32_0
  try clear hfz32_1
  try clear hfz32_2
  try clear hfz32_3
  try clear hfz32_4
  try clear hfz32_5
  try clear hfz32_6
  obtain ⟨kq, x54_2, rfl, HA, HJ2, BK213, BK214, HB⟩ := hcut
  cases kq with
  | zero => exact absurd HA.out (by simp [rehearsalref04_SameNode.j0])
  | succ kj2 =>
   have H := HA.out
   clear HA
   simp only [rehearsalref04_SameNode.j0] at H
   by_cases c33 : x54_2 = true
   ·
    subst c33
    have H1 : (some false) = some r := by rw [if_pos rfl] at H; exact H
    clear H
    have H := H1
    clear H1
    obtain rfl := Option.some.inj H
    go_wp2
    repeat (go_quiet (fail); try go_wp2)
    go_ret
    exact ⟨by first | rfl | (simp [errW_none, errW_some] <;> rfl) | (simp [*, errW_none, errW_some] <;> rfl), by repeat (first | (with_reducible first | exact HB.out | apply below_alloc | apply pw_below_drewN | apply below_drew1 | refine below_set ?_ GE213.out | refine below_set ?_ GE214.out) | exact HB.out)⟩
   ·
    replace c33 := Bool.eq_false_iff.mpr c33
    subst c33
    have H1 : (rehearsalref04_SameNode.l0 kj2 0 a0_0 a0_1 a0_2 a0_3 a0_4 a0_5 l0_6 a1_0 a1_1 a1_2 a1_3 a1_4 a1_5 l1_6) = some r := by rw [if_neg (show ¬ (false = true) by decide)] at H; exact H
    clear H
    have H := H1
    clear H1
    have H' := Aside0.mk H
    clear H
    go_wp2
    repeat (go_quiet (fail); try go_wp2)
    go_loopg [5] kj2 (fun kq v5 w' => ∃ (x5_2 : Int), v5 = .int .i64 x5_2 ∧ Aside0 (rehearsalref04_SameNode.l0 kq x5_2 a0_0 a0_1 a0_2 a0_3 a0_4 a0_5 l0_6 a1_0 a1_1 a1_2 a1_3 a1_4 a1_5 l1_6 = some r) ∧ Aside0 (kq ≤ kj2) ∧ Aside0 (w'.heap[gb213]? = some (.cells #[.int .i64 a0_0, .int .i64 a0_1, .int .i64 a0_2, .int .i64 a0_3, .int .i64 a0_4, .string a0_5, (.slice A0_6 l0_6.length c0_6)] 44 (0, 0))) ∧ Aside0 (w'.heap[gb214]? = some (.cells #[.int .i64 a1_0, .int .i64 a1_1, .int .i64 a1_2, .int .i64 a1_3, .int .i64 a1_4, .string a1_5, (.slice A1_6 l1_6.length c1_6)] 44 (0, 0))) ∧ Aside0 (Below w.heap.size w w'))
    case atStart => exact ⟨(0), (by first | rfl | (simp; done) | (simp [*]; done)), H', ⟨Nat.le_refl _⟩, ⟨by (with_reducible repeat (first | refine blk_drewN ?_ _ | refine blk_drew ?_ | refine blk_alloc ?_ _)); exact BK213.out⟩, ⟨by (with_reducible repeat (first | refine blk_drewN ?_ _ | refine blk_drew ?_ | refine blk_alloc ?_ _)); exact BK214.out⟩, ⟨by repeat (first | (with_reducible first | exact HB.out | apply below_alloc | apply pw_below_drewN | apply below_drew1 | refine below_set ?_ GE213.out | refine below_set ?_ GE214.out) | exact HB.out)⟩⟩
    case round =>
     clear H'
     try clear c1
     try clear c2
     try clear p2
     try clear c3
     try clear c6
     try clear c6b0
     try clear c6b1
     try clear c7
     try clear c7b0
     try clear c7b1
     try clear c8
     try clear c8b0
     try clear c8b1
     try clear c9
     try clear c9b0
     try clear c9b1
     try clear c10
     try clear c10b0
     try clear c10b1
     try clear c11
     try clear c11b0
     try clear c11b1
     try clear c12
     try clear c15
     try clear c18
     try clear c21
     try clear c24
     try clear c27
     try clear c30
     try clear c32
     try clear c33
     try clear hcz13_0
     try clear hcz13_1
     try clear hcz13_2
     try clear hcz13_3
     try clear hcz13_4
     try clear hcz13_5
     try clear hcz13_6
     try clear hcz14_0
     try clear hcz14_1
     try clear hcz14_2
     try clear hcz14_3
     try clear hcz14_4
     try clear hcz14_5
     try clear hcz14_6
     try clear hcz16_0
     try clear hcz16_1
     try clear hcz16_2
     try clear hcz16_3
     try clear hcz16_4
     try clear hcz16_5
     try clear hcz16_6
     try clear hcz17_0
     try clear hcz17_1
     try clear hcz17_2
     try clear hcz17_3
     try clear hcz17_4
     try clear hcz17_5
     try clear hcz17_6
     try clear hcz19_0
     try clear hcz19_1
     try clear hcz19_2
     try clear hcz19_3
     try clear hcz19_4
     try clear hcz19_5
     try clear hcz19_6
     try clear hcz20_0
     try clear hcz20_1
     try clear hcz20_2
     try clear hcz20_3
     try clear hcz20_4
     try clear hcz20_5
     try clear hcz20_6
     try clear hcz22_0
     try clear hcz22_1
     try clear hcz22_2
     try clear hcz22_3
     try clear hcz22_4
     try clear hcz22_5
     try clear hcz22_6
     try clear hcz23_0
     try clear hcz23_1
     try clear hcz23_2
     try clear hcz23_3
     try clear hcz23_4
     try clear hcz23_5
     try clear hcz23_6
     try clear hcz25_0
     try clear hcz25_1
     try clear hcz25_2
     try clear hcz25_3
     try clear hcz25_4
     try clear hcz25_5
     try clear hcz25_6
     try clear hcz26_0
     try clear hcz26_1
     try clear hcz26_2
     try clear hcz26_3
     try clear hcz26_4
     try clear hcz26_5
     try clear hcz26_6
     try clear hcz28_0
     try clear hcz28_1
     try clear hcz28_2
     try clear hcz28_3
     try clear hcz28_4
     try clear hcz28_5
     try clear hcz28_6
     try clear hcz29_0
     try clear hcz29_1
     try clear hcz29_2
     try clear hcz29_3
     try clear hcz29_4
     try clear hcz29_5
     try clear hcz29_6
     try clear hcz31_0
     try clear hcz31_1
     try clear hcz31_2
     try clear hcz31_3
     try clear hcz31_4
     try clear hcz31_5
     try clear hcz31_6
     try clear hcz32_0
     try clear hcz32_1
     try clear hcz32_2
     try clear hcz32_3
     try clear hcz32_4
     try clear hcz32_5
     try clear hcz32_6
     try clear hfz13_0
     try clear hfz13_1
     try clear hfz13_2
     try clear hfz13_3
     try clear hfz13_4
     try clear hfz13_5
     try clear hfz13_6
     try clear hfz14_0
     try clear hfz14_1
     try clear hfz14_2
     try clear hfz14_3
     try clear hfz14_4
     try clear hfz14_5
     try clear hfz14_6
     try clear hfz16_0
     try clear hfz16_1
     try clear hfz16_2
     try clear hfz16_3
     try clear hfz16_4
     try clear hfz16_5
     try clear hfz16_6
     try clear hfz17_0
     try clear hfz17_1
     try clear hfz17_2
     try clear hfz17_3
     try clear hfz17_4
     try clear hfz17_5
     try clear hfz17_6
     try clear hfz19_0
     try clear hfz19_1
     try clear hfz19_2
     try clear hfz19_3
     try clear hfz19_4
     try clear hfz19_5
     try clear hfz19_6
     try clear hfz20_0
     try clear hfz20_1
     try clear hfz20_2
     try clear hfz20_3
     try clear hfz20_4
     try clear hfz20_5
     try clear hfz20_6
     try clear hfz22_0
     try clear hfz22_1
     try clear hfz22_2
     try clear hfz22_3
     try clear hfz22_4
     try clear hfz22_5
     try clear hfz22_6
     try clear hfz23_0
     try clear hfz23_1
     try clear hfz23_2
     try clear hfz23_3
     try clear hfz23_4
     try clear hfz23_5
     try clear hfz23_6
     try clear hfz25_0
     try clear hfz25_1
     try clear hfz25_2
     try clear hfz25_3
     try clear hfz25_4
     try clear hfz25_5
     try clear hfz25_6
     try clear hfz26_0
     try clear hfz26_1
     try clear hfz26_2
     try clear hfz26_3
     try clear hfz26_4
     try clear hfz26_5
     try clear hfz26_6
     try clear hfz28_0
     try clear hfz28_1
     try clear hfz28_2
     try clear hfz28_3
     try clear hfz28_4
     try clear hfz28_5
     try clear hfz28_6
     try clear hfz29_0
     try clear hfz29_1
     try clear hfz29_2
     try clear hfz29_3
     try clear hfz29_4
     try clear hfz29_5
     try clear hfz29_6
     try clear hfz31_0
     try clear hfz31_1
     try clear hfz31_2
     try clear hfz31_3
     try clear hfz31_4
     try clear hfz31_5
     try clear hfz31_6
     try clear hfz32_0
     try clear hfz32_1
     try clear hfz32_2
     try clear hfz32_3
     try clear hfz32_4
     try clear hfz32_5
     try clear hfz32_6
     try clear p2
     obtain ⟨x5_2, rfl, HA, HK2, BK213, BK214, HB⟩ := hrel
     cases gk with
     | zero => exact absurd HA.out (by simp [rehearsalref04_SameNode.l0])
     | succ k2 =>
      have H := HA.out
      clear HA
      simp only [rehearsalref04_SameNode.l0] at H
      by_cases c34 : x5_2 < (l0_6.length : Int)
      ·
       rw [if_pos c34] at H
       have c34b0 : decide (x5_2 < (l0_6.length : Int)) = true := decide_eq_true c34
       clear c34
       by_cases c35 : 0 ≤ x5_2
       ·
        rw [if_pos c35] at H
        have c35b0 : decide (0 ≤ x5_2) = true := decide_eq_true c35
        clear c35
        by_cases c36 : x5_2 < (l1_6.length : Int)
        ·
         rw [if_pos c36] at H
         have c36b0 : decide (x5_2 < (l1_6.length : Int)) = true := decide_eq_true c36
         clear c36
         by_cases c37 : (!((((rd_T61 l0_6 x5_2).f0).toList) == (((rd_T61 l1_6 x5_2).f0).toList)) || (!(((rd_T61 l0_6 x5_2).f1) == ((rd_T61 l1_6 x5_2).f1)))) = true
         ·
          rw [if_pos c37] at H
          have c37b0 : (!((((rd_T61 l0_6 x5_2).f0).toList) == (((rd_T61 l1_6 x5_2).f0).toList)) || (!(((rd_T61 l0_6 x5_2).f1) == ((rd_T61 l1_6 x5_2).f1)))) = true := c37
          clear c37
          obtain rfl := Option.some.inj H
          have hnb38 := NB213_214.out
          have hnc38 := NB214_213.out
          have hcz39_0 : wr.cell? ⟨gb213, 0, none⟩ = some (.int .i64 a0_0) := (blk_cell BK213.out 0).trans rfl
          have hcz39_1 : wr.cell? ⟨gb213, 1, none⟩ = some (.int .i64 a0_1) := (blk_cell BK213.out 1).trans rfl
          have hcz39_2 : wr.cell? ⟨gb213, 2, none⟩ = some (.int .i64 a0_2) := (blk_cell BK213.out 2).trans rfl
          have hcz39_3 : wr.cell? ⟨gb213, 3, none⟩ = some (.int .i64 a0_3) := (blk_cell BK213.out 3).trans rfl
          have hcz39_4 : wr.cell? ⟨gb213, 4, none⟩ = some (.int .i64 a0_4) := (blk_cell BK213.out 4).trans rfl
          have hcz39_5 : wr.cell? ⟨gb213, 5, none⟩ = some (.string a0_5) := (blk_cell BK213.out 5).trans rfl
          have hcz39_6 : wr.cell? ⟨gb213, 6, none⟩ = some (.slice A0_6 l0_6.length c0_6) := (blk_cell BK213.out 6).trans rfl
          have hfz39_0 := blk_frozen BK213.out 0
          have hfz39_1 := blk_frozen BK213.out 1
          have hfz39_2 := blk_frozen BK213.out 2
          have hfz39_3 := blk_frozen BK213.out 3
          have hfz39_4 := blk_frozen BK213.out 4
          have hfz39_5 := blk_frozen BK213.out 5
          have hfz39_6 := blk_frozen BK213.out 6
          have p215 : 0 ≤ (x5_2 : Int) := of_decide_eq_true (by first | (with_reducible assumption) | assumption)
          have q215 : x5_2 < (l0_6.length : Int) := of_decide_eq_true (by first | (with_reducible assumption) | assumption)
          obtain ⟨ad215, e215, hx215_0, hx215_1⟩ := at_T61 HR0_6.out x5_2 p215 q215
          cases e215
          replace hx215_0 := (HB.out.cell (World.block_lt_of_cell? w _ hx215_0)).trans hx215_0
          replace hx215_1 := (HB.out.cell (World.block_lt_of_cell? w _ hx215_1)).trans hx215_1
          replace p215 := eq_true p215
          replace q215 := eq_true q215
          have hcz40_0 : wr.cell? ⟨gb214, 0, none⟩ = some (.int .i64 a1_0) := (blk_cell BK214.out 0).trans rfl
          have hcz40_1 : wr.cell? ⟨gb214, 1, none⟩ = some (.int .i64 a1_1) := (blk_cell BK214.out 1).trans rfl
          have hcz40_2 : wr.cell? ⟨gb214, 2, none⟩ = some (.int .i64 a1_2) := (blk_cell BK214.out 2).trans rfl
          have hcz40_3 : wr.cell? ⟨gb214, 3, none⟩ = some (.int .i64 a1_3) := (blk_cell BK214.out 3).trans rfl
          have hcz40_4 : wr.cell? ⟨gb214, 4, none⟩ = some (.int .i64 a1_4) := (blk_cell BK214.out 4).trans rfl
          have hcz40_5 : wr.cell? ⟨gb214, 5, none⟩ = some (.string a1_5) := (blk_cell BK214.out 5).trans rfl
          have hcz40_6 : wr.cell? ⟨gb214, 6, none⟩ = some (.slice A1_6 l1_6.length c1_6) := (blk_cell BK214.out 6).trans rfl
          have hfz40_0 := blk_frozen BK214.out 0
          have hfz40_1 := blk_frozen BK214.out 1
          have hfz40_2 := blk_frozen BK214.out 2
          have hfz40_3 := blk_frozen BK214.out 3
          have hfz40_4 := blk_frozen BK214.out 4
          have hfz40_5 := blk_frozen BK214.out 5
          have hfz40_6 := blk_frozen BK214.out 6
          have p216 : 0 ≤ (x5_2 : Int) := of_decide_eq_true (by first | (with_reducible assumption) | assumption)
          have q216 : x5_2 < (l1_6.length : Int) := of_decide_eq_true (by first | (with_reducible assumption) | assumption)
          obtain ⟨ad216, e216, hx216_0, hx216_1⟩ := at_T61 HR1_6.out x5_2 p216 q216
          cases e216
          replace hx216_0 := (HB.out.cell (World.block_lt_of_cell? w _ hx216_0)).trans hx216_0
          replace hx216_1 := (HB.out.cell (World.block_lt_of_cell? w _ hx216_1)).trans hx216_1
          replace p216 := eq_true p216
          replace q216 := eq_true q216
          go_wp2
          repeat (go_quiet (fail); try go_wp2)
          go_ret
          exact ⟨by first | rfl | (simp [errW_none, errW_some] <;> rfl) | (simp [*, errW_none, errW_some] <;> rfl), by repeat (first | (with_reducible first | exact HB.out | apply below_alloc | apply pw_below_drewN | apply below_drew1 | refine below_set ?_ GE213.out | refine below_set ?_ GE214.out) | exact HB.out)⟩
         ·
          rw [if_neg c37] at H
          have c37b0 : (!((((rd_T61 l0_6 x5_2).f0).toList) == (((rd_T61 l1_6 x5_2).f0).toList)) || (!(((rd_T61 l0_6 x5_2).f1) == ((rd_T61 l1_6 x5_2).f1)))) = false := by simpa using c37
          clear c37
          have H' := Aside0.mk H
          clear H
          have hnb41 := NB213_214.out
          have hnc41 := NB214_213.out
          have hcz42_0 : wr.cell? ⟨gb213, 0, none⟩ = some (.int .i64 a0_0) := (blk_cell BK213.out 0).trans rfl
          have hcz42_1 : wr.cell? ⟨gb213, 1, none⟩ = some (.int .i64 a0_1) := (blk_cell BK213.out 1).trans rfl
          have hcz42_2 : wr.cell? ⟨gb213, 2, none⟩ = some (.int .i64 a0_2) := (blk_cell BK213.out 2).trans rfl
          have hcz42_3 : wr.cell? ⟨gb213, 3, none⟩ = some (.int .i64 a0_3) := (blk_cell BK213.out 3).trans rfl
          have hcz42_4 : wr.cell? ⟨gb213, 4, none⟩ = some (.int .i64 a0_4) := (blk_cell BK213.out 4).trans rfl
          have hcz42_5 : wr.cell? ⟨gb213, 5, none⟩ = some (.string a0_5) := (blk_cell BK213.out 5).trans rfl
          have hcz42_6 : wr.cell? ⟨gb213, 6, none⟩ = some (.slice A0_6 l0_6.length c0_6) := (blk_cell BK213.out 6).trans rfl
          have hfz42_0 := blk_frozen BK213.out 0
          have hfz42_1 := blk_frozen BK213.out 1
          have hfz42_2 := blk_frozen BK213.out 2
          have hfz42_3 := blk_frozen BK213.out 3
          have hfz42_4 := blk_frozen BK213.out 4
          have hfz42_5 := blk_frozen BK213.out 5
          have hfz42_6 := blk_frozen BK213.out 6
          have p215 : 0 ≤ (x5_2 : Int) := of_decide_eq_true (by first | (with_reducible assumption) | assumption)
          have q215 : x5_2 < (l0_6.length : Int) := of_decide_eq_true (by first | (with_reducible assumption) | assumption)
          obtain ⟨ad215, e215, hx215_0, hx215_1⟩ := at_T61 HR0_6.out x5_2 p215 q215
          cases e215
          replace hx215_0 := (HB.out.cell (World.block_lt_of_cell? w _ hx215_0)).trans hx215_0
          replace hx215_1 := (HB.out.cell (World.block_lt_of_cell? w _ hx215_1)).trans hx215_1
          replace p215 := eq_true p215
          replace q215 := eq_true q215
          have hcz43_0 : wr.cell? ⟨gb214, 0, none⟩ = some (.int .i64 a1_0) := (blk_cell BK214.out 0).trans rfl
          have hcz43_1 : wr.cell? ⟨gb214, 1, none⟩ = some (.int .i64 a1_1) := (blk_cell BK214.out 1).trans rfl
          have hcz43_2 : wr.cell? ⟨gb214, 2, none⟩ = some (.int .i64 a1_2) := (blk_cell BK214.out 2).trans rfl
          have hcz43_3 : wr.cell? ⟨gb214, 3, none⟩ = some (.int .i64 a1_3) := (blk_cell BK214.out 3).trans rfl
          have hcz43_4 : wr.cell? ⟨gb214, 4, none⟩ = some (.int .i64 a1_4) := (blk_cell BK214.out 4).trans rfl
          have hcz43_5 : wr.cell? ⟨gb214, 5, none⟩ = some (.string a1_5) := (blk_cell BK214.out 5).trans rfl
          have hcz43_6 : wr.cell? ⟨gb214, 6, none⟩ = some (.slice A1_6 l1_6.length c1_6) := (blk_cell BK214.out 6).trans rfl
          have hfz43_0 := blk_frozen BK214.out 0
          have hfz43_1 := blk_frozen BK214.out 1
          have hfz43_2 := blk_frozen BK214.out 2
          have hfz43_3 := blk_frozen BK214.out 3
          have hfz43_4 := blk_frozen BK214.out 4
          have hfz43_5 := blk_frozen BK214.out 5
          have hfz43_6 := blk_frozen BK214.out 6
          have p216 : 0 ≤ (x5_2 : Int) := of_decide_eq_true (by first | (with_reducible assumption) | assumption)
          have q216 : x5_2 < (l1_6.length : Int) := of_decide_eq_true (by first | (with_reducible assumption) | assumption)
          obtain ⟨ad216, e216, hx216_0, hx216_1⟩ := at_T61 HR1_6.out x5_2 p216 q216
          cases e216
          replace hx216_0 := (HB.out.cell (World.block_lt_of_cell? w _ hx216_0)).trans hx216_0
          replace hx216_1 := (HB.out.cell (World.block_lt_of_cell? w _ hx216_1)).trans hx216_1
          replace p216 := eq_true p216
          replace q216 := eq_true q216
          go_wp2
          repeat (go_quiet (fail); try go_wp2)
          go_roundg k2
          case measure => have := HJ2.out; have := HK2.out; omega
          case rel => exact ⟨(wrap64 (x5_2 + 1)), (by first | rfl | (simp; done) | (simp [*]; done)), H', ⟨by have := HJ2.out; have := HK2.out; omega⟩, ⟨by (with_reducible repeat (first | refine blk_drewN ?_ _ | refine blk_drew ?_ | refine blk_alloc ?_ _)); exact BK213.out⟩, ⟨by (with_reducible repeat (first | refine blk_drewN ?_ _ | refine blk_drew ?_ | refine blk_alloc ?_ _)); exact BK214.out⟩, ⟨by repeat (first | (with_reducible first | exact HB.out | apply below_alloc | apply pw_below_drewN | apply below_drew1 | refine below_set ?_ GE213.out | refine below_set ?_ GE214.out) | exact HB.out)⟩⟩
        ·
         rw [if_neg c36] at H
         exact absurd H (by simp)
       ·
        rw [if_neg c35] at H
        exact absurd H (by simp)
      ·
       rw [if_neg c34] at H
       have c34b0 : decide (x5_2 < (l0_6.length : Int)) = false := decide_eq_false c34
       clear c34
       obtain rfl := Option.some.inj H
       have hnb44 := NB213_214.out
       have hnc44 := NB214_213.out
       have hcz45_0 : wr.cell? ⟨gb213, 0, none⟩ = some (.int .i64 a0_0) := (blk_cell BK213.out 0).trans rfl
       have hcz45_1 : wr.cell? ⟨gb213, 1, none⟩ = some (.int .i64 a0_1) := (blk_cell BK213.out 1).trans rfl
       have hcz45_2 : wr.cell? ⟨gb213, 2, none⟩ = some (.int .i64 a0_2) := (blk_cell BK213.out 2).trans rfl
       have hcz45_3 : wr.cell? ⟨gb213, 3, none⟩ = some (.int .i64 a0_3) := (blk_cell BK213.out 3).trans rfl
       have hcz45_4 : wr.cell? ⟨gb213, 4, none⟩ = some (.int .i64 a0_4) := (blk_cell BK213.out 4).trans rfl
       have hcz45_5 : wr.cell? ⟨gb213, 5, none⟩ = some (.string a0_5) := (blk_cell BK213.out 5).trans rfl
       have hcz45_6 : wr.cell? ⟨gb213, 6, none⟩ = some (.slice A0_6 l0_6.length c0_6) := (blk_cell BK213.out 6).trans rfl
       have hfz45_0 := blk_frozen BK213.out 0
       have hfz45_1 := blk_frozen BK213.out 1
       have hfz45_2 := blk_frozen BK213.out 2
       have hfz45_3 := blk_frozen BK213.out 3
       have hfz45_4 := blk_frozen BK213.out 4
       have hfz45_5 := blk_frozen BK213.out 5
       have hfz45_6 := blk_frozen BK213.out 6
       go_wp2
       repeat (go_quiet (fail); try go_wp2)
       go_ret
       exact ⟨by first | rfl | (simp [errW_none, errW_some] <;> rfl) | (simp [*, errW_none, errW_some] <;> rfl), by repeat (first | (with_reducible first | exact HB.out | apply below_alloc | apply pw_below_drewN | apply below_drew1 | refine below_set ?_ GE213.out | refine below_set ?_ GE214.out) | exact HB.out)⟩
end Go.Proofs.YtnpnablnnfekkaaDoor.PTr
namespace Go.Proofs.YtnpnablnnfekkaaDoor.PTr
open Go.RowKit Go.Proofs.YtnpnablnnfekkaaDoorW.PrintWords Go.Proofs.YtnpnablnnfekkaaDoorW.PrintLast Go.Proofs.YtnpnablnnfekkaaDoorW.PrintMore
attribute [local go_sem] max2_int min2_int max_two min_two max_three min_three max_four min_four   -- for this text's walks alone
set_option linter.unusedVariables false
set_option linter.unusedSimpArgs false
def rehearsalref04_Nodes.l0 : Nat → List (S44) → List (S44) → Int → Option (Bool)
 | 0, _, _, _ => none
 | k + 1, x0, x1, x5 => if x5 < (x0.length : Int) then (if 0 ≤ x5 then (if x5 < (x1.length : Int) then ((rehearsalref04_SameNode.f k ((rd_T44 x0 x5).f0) ((rd_T44 x0 x5).f1) ((rd_T44 x0 x5).f2) ((rd_T44 x0 x5).f3) ((rd_T44 x0 x5).f4) ((rd_T44 x0 x5).f5) ((rd_T44 x0 x5).f6) ((rd_T44 x1 x5).f0) ((rd_T44 x1 x5).f1) ((rd_T44 x1 x5).f2) ((rd_T44 x1 x5).f3) ((rd_T44 x1 x5).f4) ((rd_T44 x1 x5).f5) ((rd_T44 x1 x5).f6)).bind fun t219 => (if t219 = true then (rehearsalref04_Nodes.l0 k x0 x1 (wrap64 (x5 + 1))) else (some false))) else (none)) else (none)) else (some true)
def rehearsalref04_Nodes.f (k : Nat) (l0 : List (S44)) (l1 : List (S44)) : Option (Bool) := if (l0.length : Int) = (l1.length : Int) then (rehearsalref04_Nodes.l0 k l0 l1 0) else (some false)
def rehearsalref04_Nodes.T6 : Bool × List (List Nat × List Nat) := (true, [([], []), ([], []), ([0, 1], [0, 1]), ([2], [2]), ([], []), ([], []), ([4, 5], [4, 5]), ([6], [6]), ([3, 7], [3, 7]), ([8], [8])])
def rehearsalref04_Nodes.B6 : List Nat := [0, 0, 3, 7, 0, 0, 48, 112, 255, 511]
theorem rehearsalref04_Nodes.tab6 : rtab .any (opsOf Tryd.f63 6) = rehearsalref04_Nodes.T6 := by kernel_rfl
theorem rehearsalref04_Nodes.bits6 : waitsOk rehearsalref04_Nodes.T6.2 rehearsalref04_Nodes.B6 = true := by kernel_rfl
set_option maxHeartbeats 8000000 in
set_option maxRecDepth 100000 in
theorem rehearsalref04_Nodes.calls (k : Nat) (A0 : Option Addr) (c0 : Nat) (l0 : List (S44)) (A1 : Option Addr) (c1 : Nat) (l1 : List (S44)) (r : Bool) (w : World) (hr0 : Kd.C k44 w A0 l0.length l0) (hc0 : l0.length ≤ c0) (hr1 : Kd.C k44 w A1 l1.length l1) (hc1 : l1.length ≤ c1) (h : rehearsalref04_Nodes.f k l0 l1 = some r) :
  Calls Tryd.prog 63 #[.slice A0 l0.length c0, .slice A1 l1.length c1] w fun e w' => e = .returned (.bool r) ∧ Below w.heap.size w w' := by
 have hu44 := Tryd.underlying44
 have HR0 := Aside0.mk hr0
 have HC0 := Aside0.mk hc0
 clear hr0 hc0
 have HR1 := Aside0.mk hr1
 have HC1 := Aside0.mk hc1
 clear hr1 hc1
 have HB := Aside0.mk (Below.refl w.heap.size w)
 have H : (if (l0.length : Int) = (l1.length : Int) then (rehearsalref04_Nodes.l0 k l0 l1 0) else (some false)) = some r := h
 clear h
 by_cases c3 : (l0.length : Int) = (l1.length : Int)
 ·
  rw [if_pos c3] at H
  have c3b0 : ((l0.length : Int) == (l1.length : Int)) = true := beq_iff_eq.mpr c3
  have c3b1 : ((l0.length : Int) != (l1.length : Int)) = false := bne_eq_false_iff_eq.mpr c3
  have c3b2 : (l0.length == l1.length) = true := by first | simpa using c3 | (simp at c3 ⊢; omega)
  clear c3
  have H' := Aside0.mk H
  clear H
  go_enter Tryd.func63, Tryd.ntmps63
  go_wp2
  go_loopg [5] k (fun kq v5 w' => ∃ (x5_1 : Int), v5 = .int .i64 x5_1 ∧ Aside0 (rehearsalref04_Nodes.l0 kq l0 l1 x5_1 = some r) ∧ Aside0 (kq ≤ k) ∧ Aside0 (Below w.heap.size w w'))
  case atStart => exact ⟨(0), (by first | rfl | (simp; done) | (simp [*]; done)), H', ⟨Nat.le_refl _⟩, ⟨by repeat (first | (with_reducible first | exact HB.out | apply below_alloc | apply pw_below_drewN | apply below_drew1) | exact HB.out)⟩⟩
  case round =>
   clear H'
   try clear c1
   try clear p2
   try clear c3
   try clear c3b0
   try clear c3b1
   try clear c3b2
   obtain ⟨x5_1, rfl, HA, HK1, HB⟩ := hrel
   cases gk with
   | zero => exact absurd HA.out (by simp [rehearsalref04_Nodes.l0])
   | succ k1 =>
    have H := HA.out
    clear HA
    simp only [rehearsalref04_Nodes.l0] at H
    by_cases c4 : x5_1 < (l0.length : Int)
    ·
     rw [if_pos c4] at H
     have c4b0 : decide (x5_1 < (l0.length : Int)) = true := decide_eq_true c4
     clear c4
     by_cases c5 : 0 ≤ x5_1
     ·
      rw [if_pos c5] at H
      have c5b0 : decide (0 ≤ x5_1) = true := decide_eq_true c5
      clear c5
      by_cases c6 : x5_1 < (l1.length : Int)
      ·
       rw [if_pos c6] at H
       have c6b0 : decide (x5_1 < (l1.length : Int)) = true := decide_eq_true c6
       clear c6
       replace H := Option.bind_eq_some_iff.mp H
       obtain ⟨t219, A70, H⟩ := H
       replace H : (if t219 = true then (rehearsalref04_Nodes.l0 k1 l0 l1 (wrap64 (x5_1 + 1))) else (some false)) = some r := H
       have A7 := Aside0.mk A70
       clear A70
       by_cases c8 : t219 = true
       ·
        subst c8
        have H1 : (rehearsalref04_Nodes.l0 k1 l0 l1 (wrap64 (x5_1 + 1))) = some r := by rw [if_pos rfl] at H; exact H
        clear H
        have H := H1
        clear H1
        have H' := Aside0.mk H
        clear H
        try go_wp2
        have n0_ := Aside0.mk (below_drew1 HB.out)
        clear HB
        have HB := n0_
        clear n0_
        have p217 : 0 ≤ (x5_1 : Int) := of_decide_eq_true (by first | (with_reducible assumption) | assumption)
        have q217 : x5_1 < (l0.length : Int) := of_decide_eq_true (by first | (with_reducible assumption) | assumption)
        obtain ⟨ad217, A217_6, c217_6, e217, hx217_0, hx217_1, hx217_2, hx217_3, hx217_4, hx217_5, hx217_6, hl217_6, hi217_6⟩ := at_T44 HR0.out x5_1 p217 q217
        have hw217_6 := hx217_6
        have hw217_5 := hx217_5
        have hw217_4 := hx217_4
        have hw217_3 := hx217_3
        have hw217_2 := hx217_2
        have hw217_1 := hx217_1
        have hw217_0 := hx217_0
        cases e217
        replace hx217_0 := (HB.out.cell (World.block_lt_of_cell? w _ hx217_0)).trans hx217_0
        replace hx217_1 := (HB.out.cell (World.block_lt_of_cell? w _ hx217_1)).trans hx217_1
        replace hx217_2 := (HB.out.cell (World.block_lt_of_cell? w _ hx217_2)).trans hx217_2
        replace hx217_3 := (HB.out.cell (World.block_lt_of_cell? w _ hx217_3)).trans hx217_3
        replace hx217_4 := (HB.out.cell (World.block_lt_of_cell? w _ hx217_4)).trans hx217_4
        replace hx217_5 := (HB.out.cell (World.block_lt_of_cell? w _ hx217_5)).trans hx217_5
        replace hx217_6 := (HB.out.cell (World.block_lt_of_cell? w _ hx217_6)).trans hx217_6
        have HR217_6 := Aside0.mk hi217_6
        have HC217_6 := Aside0.mk hl217_6
        clear hi217_6 hl217_6
        replace p217 := eq_true p217
        replace q217 := eq_true q217
        have p218 : 0 ≤ (x5_1 : Int) := of_decide_eq_true (by first | (with_reducible assumption) | assumption)
        have q218 : x5_1 < (l1.length : Int) := of_decide_eq_true (by first | (with_reducible assumption) | assumption)
        obtain ⟨ad218, A218_6, c218_6, e218, hx218_0, hx218_1, hx218_2, hx218_3, hx218_4, hx218_5, hx218_6, hl218_6, hi218_6⟩ := at_T44 HR1.out x5_1 p218 q218
        have hw218_6 := hx218_6
        have hw218_5 := hx218_5
        have hw218_4 := hx218_4
        have hw218_3 := hx218_3
        have hw218_2 := hx218_2
        have hw218_1 := hx218_1
        have hw218_0 := hx218_0
        cases e218
        replace hx218_0 := (HB.out.cell (World.block_lt_of_cell? w _ hx218_0)).trans hx218_0
        replace hx218_1 := (HB.out.cell (World.block_lt_of_cell? w _ hx218_1)).trans hx218_1
        replace hx218_2 := (HB.out.cell (World.block_lt_of_cell? w _ hx218_2)).trans hx218_2
        replace hx218_3 := (HB.out.cell (World.block_lt_of_cell? w _ hx218_3)).trans hx218_3
        replace hx218_4 := (HB.out.cell (World.block_lt_of_cell? w _ hx218_4)).trans hx218_4
        replace hx218_5 := (HB.out.cell (World.block_lt_of_cell? w _ hx218_5)).trans hx218_5
        replace hx218_6 := (HB.out.cell (World.block_lt_of_cell? w _ hx218_6)).trans hx218_6
        have HR218_6 := Aside0.mk hi218_6
        have HC218_6 := Aside0.mk hl218_6
        clear hi218_6 hl218_6
        replace p218 := eq_true p218
        replace q218 := eq_true q218
        refine start_ (n := 10) (S := fun w' => w'.cell? (ad217.add ((x5_1).toNat * 7)) = some (.int .i64 ((rd_T44 l0 x5_1).f0)) ∧ w'.cell? ⟨(ad217.add ((x5_1).toNat * 7)).block, (ad217.add ((x5_1).toNat * 7)).off + 1, none⟩ = some (.int .i64 ((rd_T44 l0 x5_1).f1)) ∧ w'.cell? ⟨(ad217.add ((x5_1).toNat * 7)).block, (ad217.add ((x5_1).toNat * 7)).off + 2, none⟩ = some (.int .i64 ((rd_T44 l0 x5_1).f2)) ∧ w'.cell? ⟨(ad217.add ((x5_1).toNat * 7)).block, (ad217.add ((x5_1).toNat * 7)).off + 3, none⟩ = some (.int .i64 ((rd_T44 l0 x5_1).f3)) ∧ w'.cell? ⟨(ad217.add ((x5_1).toNat * 7)).block, (ad217.add ((x5_1).toNat * 7)).off + 4, none⟩ = some (.int .i64 ((rd_T44 l0 x5_1).f4)) ∧ w'.cell? ⟨(ad217.add ((x5_1).toNat * 7)).block, (ad217.add ((x5_1).toNat * 7)).off + 5, none⟩ = some (.string ((rd_T44 l0 x5_1).f5)) ∧ w'.cell? ⟨(ad217.add ((x5_1).toNat * 7)).block, (ad217.add ((x5_1).toNat * 7)).off + 6, none⟩ = some (.slice A217_6 ((rd_T44 l0 x5_1).f6).length c217_6) ∧ w'.cell? (ad218.add ((x5_1).toNat * 7)) = some (.int .i64 ((rd_T44 l1 x5_1).f0)) ∧ w'.cell? ⟨(ad218.add ((x5_1).toNat * 7)).block, (ad218.add ((x5_1).toNat * 7)).off + 1, none⟩ = some (.int .i64 ((rd_T44 l1 x5_1).f1)) ∧ w'.cell? ⟨(ad218.add ((x5_1).toNat * 7)).block, (ad218.add ((x5_1).toNat * 7)).off + 2, none⟩ = some (.int .i64 ((rd_T44 l1 x5_1).f2)) ∧ w'.cell? ⟨(ad218.add ((x5_1).toNat * 7)).block, (ad218.add ((x5_1).toNat * 7)).off + 3, none⟩ = some (.int .i64 ((rd_T44 l1 x5_1).f3)) ∧ w'.cell? ⟨(ad218.add ((x5_1).toNat * 7)).block, (ad218.add ((x5_1).toNat * 7)).off + 4, none⟩ = some (.int .i64 ((rd_T44 l1 x5_1).f4)) ∧ w'.cell? ⟨(ad218.add ((x5_1).toNat * 7)).block, (ad218.add ((x5_1).toNat * 7)).off + 5, none⟩ = some (.string ((rd_T44 l1 x5_1).f5)) ∧ w'.cell? ⟨(ad218.add ((x5_1).toNat * 7)).block, (ad218.add ((x5_1).toNat * 7)).off + 6, none⟩ = some (.slice A218_6 ((rd_T44 l1 x5_1).f6).length c218_6)) (ds := []) #[false, false, false, false, false, false, false, false, false, false] (by kernel_rfl) rfl rfl ⟨((HB.out.cell (World.block_lt_of_cell? w _ hw217_0)).trans hw217_0), ((HB.out.cell (World.block_lt_of_cell? w _ hw217_1)).trans hw217_1), ((HB.out.cell (World.block_lt_of_cell? w _ hw217_2)).trans hw217_2), ((HB.out.cell (World.block_lt_of_cell? w _ hw217_3)).trans hw217_3), ((HB.out.cell (World.block_lt_of_cell? w _ hw217_4)).trans hw217_4), ((HB.out.cell (World.block_lt_of_cell? w _ hw217_5)).trans hw217_5), ((HB.out.cell (World.block_lt_of_cell? w _ hw217_6)).trans hw217_6), ((HB.out.cell (World.block_lt_of_cell? w _ hw218_0)).trans hw218_0), ((HB.out.cell (World.block_lt_of_cell? w _ hw218_1)).trans hw218_1), ((HB.out.cell (World.block_lt_of_cell? w _ hw218_2)).trans hw218_2), ((HB.out.cell (World.block_lt_of_cell? w _ hw218_3)).trans hw218_3), ((HB.out.cell (World.block_lt_of_cell? w _ hw218_4)).trans hw218_4), ((HB.out.cell (World.block_lt_of_cell? w _ hw218_5)).trans hw218_5), ((HB.out.cell (World.block_lt_of_cell? w _ hw218_6)).trans hw218_6)⟩ (fun hHeld => ?_); refine with_tabW rehearsalref04_Nodes.tab6 rehearsalref04_Nodes.bits6 (fun HT_ HW_ => ?_)
        generalize wr.drew = w9 at HB HR217_6 HR218_6 hx217_0 hx217_1 hx217_2 hx217_3 hx217_4 hx217_5 hx217_6 hx218_0 hx218_1 hx218_2 hx218_3 hx218_4 hx218_5 hx218_6 hHeld ⊢
        iterate 5 (((first | refine takeS_ 0 (N := some 17) (v := ?_) (a' := ?_) rfl rfl (by decide +kernel) (fun _ _ _ h => h) (Or.inl ⟨by rfl, ?_⟩) hHeld ?_ ?_ | refine takeS_ 1 (N := some 18) (v := ?_) (a' := ?_) rfl rfl (by decide +kernel) (fun _ _ _ h => h) (Or.inl ⟨by rfl, ?_⟩) hHeld ?_ ?_ | refine takeS_ 2 (N := some 19) (v := ?_) (a' := ?_) rfl rfl (by decide +kernel) (fun _ _ _ h => h) (Or.inl ⟨by rfl, ?_⟩) hHeld ?_ ?_ | refine takeS_ 4 (N := some 21) (v := ?_) (a' := ?_) rfl rfl (by decide +kernel) (fun _ _ _ h => h) (Or.inl ⟨by rfl, ?_⟩) hHeld ?_ ?_ | refine takeS_ 5 (N := some 22) (v := ?_) (a' := ?_) rfl rfl (by decide +kernel) (fun _ _ _ h => h) (Or.inl ⟨by rfl, ?_⟩) hHeld ?_ ?_); rotate_left; (rintro w' ⟨s0, s1, s2, s3, s4, s5, s6, s7, s8, s9, s10, s11, s12, s13⟩; go_simp; first | done | (with_reducible rfl) | rfl); rotate_left; (simp only [Act.put, List.setIfInBounds_toArray, List.set_cons_zero, List.set_cons_succ, i64_w, i32_w]; rfl)))
        iterate 3 (((first | refine takeS_ 6 (N := some 23) (v := ?_) (a' := ?_) rfl rfl (by decide +kernel) (fun _ _ _ h => h) (Or.inl ⟨by rfl, ?_⟩) hHeld ?_ ?_ | refine takeS_ 3 (N := some 20) (v := ?_) (a' := ?_) rfl rfl (by decide +kernel) (fun _ _ _ h => h) (Or.inl ⟨by rfl, ?_⟩) hHeld ?_ ?_ | refine takeS_ 7 (N := some 24) (v := ?_) (a' := ?_) rfl rfl (by decide +kernel) (fun _ _ _ h => h) (Or.inl ⟨by rfl, ?_⟩) hHeld ?_ ?_); rotate_left; (rintro w' ⟨s0, s1, s2, s3, s4, s5, s6, s7, s8, s9, s10, s11, s12, s13⟩; go_simp; first | done | (with_reducible rfl) | rfl); rotate_left; (simp only [Act.put, List.setIfInBounds_toArray, List.set_cons_zero, List.set_cons_succ, i64_w, i32_w]; rfl)))
        refine one_ (i := 8) (N := some 25) #[true, true, true, true, true, true, true, true, true, false] rfl rfl (one_of HT_.out (by kernel_rfl)) (by decide) (fun K hK => ?_)
        refine goes_ Tryd.func32 (by kernel_rfl) rfl #[.agg #[.int .i64 ((rd_T44 l0 x5_1).f0), .int .i64 ((rd_T44 l0 x5_1).f1), .int .i64 ((rd_T44 l0 x5_1).f2), .int .i64 ((rd_T44 l0 x5_1).f3), .int .i64 ((rd_T44 l0 x5_1).f4), .string ((rd_T44 l0 x5_1).f5), .slice A217_6 ((rd_T44 l0 x5_1).f6).length c217_6], .agg #[.int .i64 ((rd_T44 l1 x5_1).f0), .int .i64 ((rd_T44 l1 x5_1).f1), .int .i64 ((rd_T44 l1 x5_1).f2), .int .i64 ((rd_T44 l1 x5_1).f3), .int .i64 ((rd_T44 l1 x5_1).f4), .string ((rd_T44 l1 x5_1).f5), .slice A218_6 ((rd_T44 l1 x5_1).f6).length c218_6]] (by rfl) rfl rfl (by (try simp only [List.map_toArray, List.map_cons, List.map_nil]); first | done | rfl | (simp only [List.length_drop, List.length_take]; rfl)) ?_
        with_reducible refine (rehearsalref04_SameNode.calls k1 ((rd_T44 l0 x5_1).f0) ((rd_T44 l0 x5_1).f1) ((rd_T44 l0 x5_1).f2) ((rd_T44 l0 x5_1).f3) ((rd_T44 l0 x5_1).f4) ((rd_T44 l0 x5_1).f5) _ _ ((rd_T44 l0 x5_1).f6) ((rd_T44 l1 x5_1).f0) ((rd_T44 l1 x5_1).f1) ((rd_T44 l1 x5_1).f2) ((rd_T44 l1 x5_1).f3) ((rd_T44 l1 x5_1).f4) ((rd_T44 l1 x5_1).f5) _ _ ((rd_T44 l1 x5_1).f6) true _ ?side1 ?side2 ?side3 ?side4 A7.out).mono ?_
        (case side1 => repeat (first | exact (Kd.C_below HR217_6.out HB.out) | (with_reducible refine Kd.C_alloc ?_ _) | (with_reducible refine Kd.C_drewN ?_ _) | (with_reducible refine Kd.C_drew ?_)))
        (case side2 => exact HC217_6.out)
        (case side3 => repeat (first | exact (Kd.C_below HR218_6.out HB.out) | (with_reducible refine Kd.C_alloc ?_ _) | (with_reducible refine Kd.C_drewN ?_ _) | (with_reducible refine Kd.C_drew ?_)))
        (case side4 => exact HC218_6.out)
        rintro e w10 ⟨rfl, hb⟩
        refine ⟨_, rfl, ?_⟩
        have n0_ := Aside0.mk (below_step (by repeat (first | (with_reducible first | exact HB.out | apply below_alloc | apply pw_below_drewN | apply below_drew1) | exact HB.out)) hb)
        clear HB
        have HB := n0_
        clear n0_
        (try clear hb)
        (try clear hb2)
        (try clear hk)
        (try clear hi)
        refine hK.out _ _ ⟨((HB.out.cell (World.block_lt_of_cell? w _ hw217_0)).trans hw217_0), ((HB.out.cell (World.block_lt_of_cell? w _ hw217_1)).trans hw217_1), ((HB.out.cell (World.block_lt_of_cell? w _ hw217_2)).trans hw217_2), ((HB.out.cell (World.block_lt_of_cell? w _ hw217_3)).trans hw217_3), ((HB.out.cell (World.block_lt_of_cell? w _ hw217_4)).trans hw217_4), ((HB.out.cell (World.block_lt_of_cell? w _ hw217_5)).trans hw217_5), ((HB.out.cell (World.block_lt_of_cell? w _ hw217_6)).trans hw217_6), ((HB.out.cell (World.block_lt_of_cell? w _ hw218_0)).trans hw218_0), ((HB.out.cell (World.block_lt_of_cell? w _ hw218_1)).trans hw218_1), ((HB.out.cell (World.block_lt_of_cell? w _ hw218_2)).trans hw218_2), ((HB.out.cell (World.block_lt_of_cell? w _ hw218_3)).trans hw218_3), ((HB.out.cell (World.block_lt_of_cell? w _ hw218_4)).trans hw218_4), ((HB.out.cell (World.block_lt_of_cell? w _ hw218_5)).trans hw218_5), ((HB.out.cell (World.block_lt_of_cell? w _ hw218_6)).trans hw218_6)⟩ (fun hHeld => ?_)
        clear hK K
        refine norm_ (a' := ?_) ?_ ?_
        rotate_left
        ·
         show Act.put _ (some 25) _ = _
         simp only [Act.put, List.setIfInBounds_toArray, List.set_cons_zero, List.set_cons_succ, i64_w, i32_w]
         rfl
        refine pure_ (i := 9) (N := some 26) (v := ?_) (a' := ?_) #[true, true, true, true, true, true, true, true, true, true] rfl rfl (any_of HT_.out (by kernel_rfl)) (fun _ _ _ h => h) (Or.inl ⟨by rfl, ?_⟩) ?_ ?_
        rotate_left
        ·
         intro w'
         go_simp
         with_reducible rfl
        rotate_left
        ·
         simp only [Act.put, List.setIfInBounds_toArray, List.set_cons_zero, List.set_cons_succ, i64_w, i32_w]
         rfl
        refine done_ (done_of HT_.out (by kernel_rfl)) ?_
        try go_wp2
        go_roundg k1
        case measure => have := HK1.out; omega
        case rel => exact ⟨(wrap64 (x5_1 + 1)), (by first | rfl | (simp; done) | (simp [*]; done)), H', ⟨by have := HK1.out; omega⟩, ⟨by repeat (first | (with_reducible first | exact HB.out | apply below_alloc | apply pw_below_drewN | apply below_drew1) | exact HB.out)⟩⟩
       ·
        replace c8 := Bool.eq_false_iff.mpr c8
        subst c8
        have H1 : (some false) = some r := by rw [if_neg (show ¬ (false = true) by decide)] at H; exact H
        clear H
        have H := H1
        clear H1
        obtain rfl := Option.some.inj H
        try go_wp2
        have n0_ := Aside0.mk (below_drew1 HB.out)
        clear HB
        have HB := n0_
        clear n0_
        have p217 : 0 ≤ (x5_1 : Int) := of_decide_eq_true (by first | (with_reducible assumption) | assumption)
        have q217 : x5_1 < (l0.length : Int) := of_decide_eq_true (by first | (with_reducible assumption) | assumption)
        obtain ⟨ad217, A217_6, c217_6, e217, hx217_0, hx217_1, hx217_2, hx217_3, hx217_4, hx217_5, hx217_6, hl217_6, hi217_6⟩ := at_T44 HR0.out x5_1 p217 q217
        have hw217_6 := hx217_6
        have hw217_5 := hx217_5
        have hw217_4 := hx217_4
        have hw217_3 := hx217_3
        have hw217_2 := hx217_2
        have hw217_1 := hx217_1
        have hw217_0 := hx217_0
        cases e217
        replace hx217_0 := (HB.out.cell (World.block_lt_of_cell? w _ hx217_0)).trans hx217_0
        replace hx217_1 := (HB.out.cell (World.block_lt_of_cell? w _ hx217_1)).trans hx217_1
        replace hx217_2 := (HB.out.cell (World.block_lt_of_cell? w _ hx217_2)).trans hx217_2
        replace hx217_3 := (HB.out.cell (World.block_lt_of_cell? w _ hx217_3)).trans hx217_3
        replace hx217_4 := (HB.out.cell (World.block_lt_of_cell? w _ hx217_4)).trans hx217_4
        replace hx217_5 := (HB.out.cell (World.block_lt_of_cell? w _ hx217_5)).trans hx217_5
        replace hx217_6 := (HB.out.cell (World.block_lt_of_cell? w _ hx217_6)).trans hx217_6
        have HR217_6 := Aside0.mk hi217_6
        have HC217_6 := Aside0.mk hl217_6
        clear hi217_6 hl217_6
        replace p217 := eq_true p217
        replace q217 := eq_true q217
        have p218 : 0 ≤ (x5_1 : Int) := of_decide_eq_true (by first | (with_reducible assumption) | assumption)
        have q218 : x5_1 < (l1.length : Int) := of_decide_eq_true (by first | (with_reducible assumption) | assumption)
        obtain ⟨ad218, A218_6, c218_6, e218, hx218_0, hx218_1, hx218_2, hx218_3, hx218_4, hx218_5, hx218_6, hl218_6, hi218_6⟩ := at_T44 HR1.out x5_1 p218 q218
        have hw218_6 := hx218_6
        have hw218_5 := hx218_5
        have hw218_4 := hx218_4
        have hw218_3 := hx218_3
        have hw218_2 := hx218_2
        have hw218_1 := hx218_1
        have hw218_0 := hx218_0
        cases e218
        replace hx218_0 := (HB.out.cell (World.block_lt_of_cell? w _ hx218_0)).trans hx218_0
        replace hx218_1 := (HB.out.cell (World.block_lt_of_cell? w _ hx218_1)).trans hx218_1
        replace hx218_2 := (HB.out.cell (World.block_lt_of_cell? w _ hx218_2)).trans hx218_2
        replace hx218_3 := (HB.out.cell (World.block_lt_of_cell? w _ hx218_3)).trans hx218_3
        replace hx218_4 := (HB.out.cell (World.block_lt_of_cell? w _ hx218_4)).trans hx218_4
        replace hx218_5 := (HB.out.cell (World.block_lt_of_cell? w _ hx218_5)).trans hx218_5
        replace hx218_6 := (HB.out.cell (World.block_lt_of_cell? w _ hx218_6)).trans hx218_6
        have HR218_6 := Aside0.mk hi218_6
        have HC218_6 := Aside0.mk hl218_6
        clear hi218_6 hl218_6
        replace p218 := eq_true p218
        replace q218 := eq_true q218
        refine start_ (n := 10) (S := fun w' => w'.cell? (ad217.add ((x5_1).toNat * 7)) = some (.int .i64 ((rd_T44 l0 x5_1).f0)) ∧ w'.cell? ⟨(ad217.add ((x5_1).toNat * 7)).block, (ad217.add ((x5_1).toNat * 7)).off + 1, none⟩ = some (.int .i64 ((rd_T44 l0 x5_1).f1)) ∧ w'.cell? ⟨(ad217.add ((x5_1).toNat * 7)).block, (ad217.add ((x5_1).toNat * 7)).off + 2, none⟩ = some (.int .i64 ((rd_T44 l0 x5_1).f2)) ∧ w'.cell? ⟨(ad217.add ((x5_1).toNat * 7)).block, (ad217.add ((x5_1).toNat * 7)).off + 3, none⟩ = some (.int .i64 ((rd_T44 l0 x5_1).f3)) ∧ w'.cell? ⟨(ad217.add ((x5_1).toNat * 7)).block, (ad217.add ((x5_1).toNat * 7)).off + 4, none⟩ = some (.int .i64 ((rd_T44 l0 x5_1).f4)) ∧ w'.cell? ⟨(ad217.add ((x5_1).toNat * 7)).block, (ad217.add ((x5_1).toNat * 7)).off + 5, none⟩ = some (.string ((rd_T44 l0 x5_1).f5)) ∧ w'.cell? ⟨(ad217.add ((x5_1).toNat * 7)).block, (ad217.add ((x5_1).toNat * 7)).off + 6, none⟩ = some (.slice A217_6 ((rd_T44 l0 x5_1).f6).length c217_6) ∧ w'.cell? (ad218.add ((x5_1).toNat * 7)) = some (.int .i64 ((rd_T44 l1 x5_1).f0)) ∧ w'.cell? ⟨(ad218.add ((x5_1).toNat * 7)).block, (ad218.add ((x5_1).toNat * 7)).off + 1, none⟩ = some (.int .i64 ((rd_T44 l1 x5_1).f1)) ∧ w'.cell? ⟨(ad218.add ((x5_1).toNat * 7)).block, (ad218.add ((x5_1).toNat * 7)).off + 2, none⟩ = some (.int .i64 ((rd_T44 l1 x5_1).f2)) ∧ w'.cell? ⟨(ad218.add ((x5_1).toNat * 7)).block, (ad218.add ((x5_1).toNat * 7)).off + 3, none⟩ = some (.int .i64 ((rd_T44 l1 x5_1).f3)) ∧ w'.cell? ⟨(ad218.add ((x5_1).toNat * 7)).block, (ad218.add ((x5_1).toNat * 7)).off + 4, none⟩ = some (.int .i64 ((rd_T44 l1 x5_1).f4)) ∧ w'.cell? ⟨(ad218.add ((x5_1).toNat * 7)).block, (ad218.add ((x5_1).toNat * 7)).off + 5, none⟩ = some (.string ((rd_T44 l1 x5_1).f5)) ∧ w'.cell? ⟨(ad218.add ((x5_1).toNat * 7)).block, (ad218.add ((x5_1).toNat * 7)).off + 6, none⟩ = some (.slice A218_6 ((rd_T44 l1 x5_1).f6).length c218_6)) (ds := []) #[false, false, false, false, false, false, false, false, false, false] (by kernel_rfl) rfl rfl ⟨((HB.out.cell (World.block_lt_of_cell? w _ hw217_0)).trans hw217_0), ((HB.out.cell (World.block_lt_of_cell? w _ hw217_1)).trans hw217_1), ((HB.out.cell (World.block_lt_of_cell? w _ hw217_2)).trans hw217_2), ((HB.out.cell (World.block_lt_of_cell? w _ hw217_3)).trans hw217_3), ((HB.out.cell (World.block_lt_of_cell? w _ hw217_4)).trans hw217_4), ((HB.out.cell (World.block_lt_of_cell? w _ hw217_5)).trans hw217_5), ((HB.out.cell (World.block_lt_of_cell? w _ hw217_6)).trans hw217_6), ((HB.out.cell (World.block_lt_of_cell? w _ hw218_0)).trans hw218_0), ((HB.out.cell (World.block_lt_of_cell? w _ hw218_1)).trans hw218_1), ((HB.out.cell (World.block_lt_of_cell? w _ hw218_2)).trans hw218_2), ((HB.out.cell (World.block_lt_of_cell? w _ hw218_3)).trans hw218_3), ((HB.out.cell (World.block_lt_of_cell? w _ hw218_4)).trans hw218_4), ((HB.out.cell (World.block_lt_of_cell? w _ hw218_5)).trans hw218_5), ((HB.out.cell (World.block_lt_of_cell? w _ hw218_6)).trans hw218_6)⟩ (fun hHeld => ?_); refine with_tabW rehearsalref04_Nodes.tab6 rehearsalref04_Nodes.bits6 (fun HT_ HW_ => ?_)
        generalize wr.drew = w11 at HB HR217_6 HR218_6 hx217_0 hx217_1 hx217_2 hx217_3 hx217_4 hx217_5 hx217_6 hx218_0 hx218_1 hx218_2 hx218_3 hx218_4 hx218_5 hx218_6 hHeld ⊢
        iterate 5 (((first | refine takeS_ 0 (N := some 17) (v := ?_) (a' := ?_) rfl rfl (by decide +kernel) (fun _ _ _ h => h) (Or.inl ⟨by rfl, ?_⟩) hHeld ?_ ?_ | refine takeS_ 1 (N := some 18) (v := ?_) (a' := ?_) rfl rfl (by decide +kernel) (fun _ _ _ h => h) (Or.inl ⟨by rfl, ?_⟩) hHeld ?_ ?_ | refine takeS_ 2 (N := some 19) (v := ?_) (a' := ?_) rfl rfl (by decide +kernel) (fun _ _ _ h => h) (Or.inl ⟨by rfl, ?_⟩) hHeld ?_ ?_ | refine takeS_ 4 (N := some 21) (v := ?_) (a' := ?_) rfl rfl (by decide +kernel) (fun _ _ _ h => h) (Or.inl ⟨by rfl, ?_⟩) hHeld ?_ ?_ | refine takeS_ 5 (N := some 22) (v := ?_) (a' := ?_) rfl rfl (by decide +kernel) (fun _ _ _ h => h) (Or.inl ⟨by rfl, ?_⟩) hHeld ?_ ?_); rotate_left; (rintro w' ⟨s0, s1, s2, s3, s4, s5, s6, s7, s8, s9, s10, s11, s12, s13⟩; go_simp; first | done | (with_reducible rfl) | rfl); rotate_left; (simp only [Act.put, List.setIfInBounds_toArray, List.set_cons_zero, List.set_cons_succ, i64_w, i32_w]; rfl)))
        iterate 3 (((first | refine takeS_ 6 (N := some 23) (v := ?_) (a' := ?_) rfl rfl (by decide +kernel) (fun _ _ _ h => h) (Or.inl ⟨by rfl, ?_⟩) hHeld ?_ ?_ | refine takeS_ 3 (N := some 20) (v := ?_) (a' := ?_) rfl rfl (by decide +kernel) (fun _ _ _ h => h) (Or.inl ⟨by rfl, ?_⟩) hHeld ?_ ?_ | refine takeS_ 7 (N := some 24) (v := ?_) (a' := ?_) rfl rfl (by decide +kernel) (fun _ _ _ h => h) (Or.inl ⟨by rfl, ?_⟩) hHeld ?_ ?_); rotate_left; (rintro w' ⟨s0, s1, s2, s3, s4, s5, s6, s7, s8, s9, s10, s11, s12, s13⟩; go_simp; first | done | (with_reducible rfl) | rfl); rotate_left; (simp only [Act.put, List.setIfInBounds_toArray, List.set_cons_zero, List.set_cons_succ, i64_w, i32_w]; rfl)))
        refine one_ (i := 8) (N := some 25) #[true, true, true, true, true, true, true, true, true, false] rfl rfl (one_of HT_.out (by kernel_rfl)) (by decide) (fun K hK => ?_)
        refine goes_ Tryd.func32 (by kernel_rfl) rfl #[.agg #[.int .i64 ((rd_T44 l0 x5_1).f0), .int .i64 ((rd_T44 l0 x5_1).f1), .int .i64 ((rd_T44 l0 x5_1).f2), .int .i64 ((rd_T44 l0 x5_1).f3), .int .i64 ((rd_T44 l0 x5_1).f4), .string ((rd_T44 l0 x5_1).f5), .slice A217_6 ((rd_T44 l0 x5_1).f6).length c217_6], .agg #[.int .i64 ((rd_T44 l1 x5_1).f0), .int .i64 ((rd_T44 l1 x5_1).f1), .int .i64 ((rd_T44 l1 x5_1).f2), .int .i64 ((rd_T44 l1 x5_1).f3), .int .i64 ((rd_T44 l1 x5_1).f4), .string ((rd_T44 l1 x5_1).f5), .slice A218_6 ((rd_T44 l1 x5_1).f6).length c218_6]] (by rfl) rfl rfl (by (try simp only [List.map_toArray, List.map_cons, List.map_nil]); first | done | rfl | (simp only [List.length_drop, List.length_take]; rfl)) ?_
        with_reducible refine (rehearsalref04_SameNode.calls k1 ((rd_T44 l0 x5_1).f0) ((rd_T44 l0 x5_1).f1) ((rd_T44 l0 x5_1).f2) ((rd_T44 l0 x5_1).f3) ((rd_T44 l0 x5_1).f4) ((rd_T44 l0 x5_1).f5) _ _ ((rd_T44 l0 x5_1).f6) ((rd_T44 l1 x5_1).f0) ((rd_T44 l1 x5_1).f1) ((rd_T44 l1 x5_1).f2) ((rd_T44 l1 x5_1).f3) ((rd_T44 l1 x5_1).f4) ((rd_T44 l1 x5_1).f5) _ _ ((rd_T44 l1 x5_1).f6) false _ ?side1 ?side2 ?side3 ?side4 A7.out).mono ?_
        (case side1 => repeat (first | exact (Kd.C_below HR217_6.out HB.out) | (with_reducible refine Kd.C_alloc ?_ _) | (with_reducible refine Kd.C_drewN ?_ _) | (with_reducible refine Kd.C_drew ?_)))
        (case side2 => exact HC217_6.out)
        (case side3 => repeat (first | exact (Kd.C_below HR218_6.out HB.out) | (with_reducible refine Kd.C_alloc ?_ _) | (with_reducible refine Kd.C_drewN ?_ _) | (with_reducible refine Kd.C_drew ?_)))
        (case side4 => exact HC218_6.out)
        rintro e w12 ⟨rfl, hb⟩
        refine ⟨_, rfl, ?_⟩
        have n0_ := Aside0.mk (below_step (by repeat (first | (with_reducible first | exact HB.out | apply below_alloc | apply pw_below_drewN | apply below_drew1) | exact HB.out)) hb)
        clear HB
        have HB := n0_
        clear n0_
        (try clear hb)
        (try clear hb2)
        (try clear hk)
        (try clear hi)
        refine hK.out _ _ ⟨((HB.out.cell (World.block_lt_of_cell? w _ hw217_0)).trans hw217_0), ((HB.out.cell (World.block_lt_of_cell? w _ hw217_1)).trans hw217_1), ((HB.out.cell (World.block_lt_of_cell? w _ hw217_2)).trans hw217_2), ((HB.out.cell (World.block_lt_of_cell? w _ hw217_3)).trans hw217_3), ((HB.out.cell (World.block_lt_of_cell? w _ hw217_4)).trans hw217_4), ((HB.out.cell (World.block_lt_of_cell? w _ hw217_5)).trans hw217_5), ((HB.out.cell (World.block_lt_of_cell? w _ hw217_6)).trans hw217_6), ((HB.out.cell (World.block_lt_of_cell? w _ hw218_0)).trans hw218_0), ((HB.out.cell (World.block_lt_of_cell? w _ hw218_1)).trans hw218_1), ((HB.out.cell (World.block_lt_of_cell? w _ hw218_2)).trans hw218_2), ((HB.out.cell (World.block_lt_of_cell? w _ hw218_3)).trans hw218_3), ((HB.out.cell (World.block_lt_of_cell? w _ hw218_4)).trans hw218_4), ((HB.out.cell (World.block_lt_of_cell? w _ hw218_5)).trans hw218_5), ((HB.out.cell (World.block_lt_of_cell? w _ hw218_6)).trans hw218_6)⟩ (fun hHeld => ?_)
        clear hK K
        refine norm_ (a' := ?_) ?_ ?_
        rotate_left
        ·
         show Act.put _ (some 25) _ = _
         simp only [Act.put, List.setIfInBounds_toArray, List.set_cons_zero, List.set_cons_succ, i64_w, i32_w]
         rfl
        refine pure_ (i := 9) (N := some 26) (v := ?_) (a' := ?_) #[true, true, true, true, true, true, true, true, true, true] rfl rfl (any_of HT_.out (by kernel_rfl)) (fun _ _ _ h => h) (Or.inl ⟨by rfl, ?_⟩) ?_ ?_
        rotate_left
        ·
         intro w'
         go_simp
         with_reducible rfl
        rotate_left
        ·
         simp only [Act.put, List.setIfInBounds_toArray, List.set_cons_zero, List.set_cons_succ, i64_w, i32_w]
         rfl
        refine done_ (done_of HT_.out (by kernel_rfl)) ?_
        try go_wp2
        go_ret
        exact ⟨by first | rfl | (simp [errW_none, errW_some] <;> rfl) | (simp [*, errW_none, errW_some] <;> rfl), by repeat (first | (with_reducible first | exact HB.out | apply below_alloc | apply pw_below_drewN | apply below_drew1) | exact HB.out)⟩
      ·
       rw [if_neg c6] at H
       exact absurd H (by simp)
     ·
      rw [if_neg c5] at H
      exact absurd H (by simp)
    ·
     rw [if_neg c4] at H
     have c4b0 : decide (x5_1 < (l0.length : Int)) = false := decide_eq_false c4
     clear c4
     obtain rfl := Option.some.inj H
     go_wp2
     go_ret
     exact ⟨by first | rfl | (simp [errW_none, errW_some] <;> rfl) | (simp [*, errW_none, errW_some] <;> rfl), by repeat (first | (with_reducible first | exact HB.out | apply below_alloc | apply pw_below_drewN | apply below_drew1) | exact HB.out)⟩
 ·
  rw [if_neg c3] at H
  have c3b0 : ((l0.length : Int) == (l1.length : Int)) = false := beq_eq_false_iff_ne.mpr c3
  have c3b1 : ((l0.length : Int) != (l1.length : Int)) = true := bne_iff_ne.mpr c3
  have c3b2 : (l0.length == l1.length) = false := by first | simpa using c3 | (simp at c3 ⊢; omega)
  obtain rfl := Option.some.inj H
  go_enter Tryd.func63, Tryd.ntmps63
  go_wp2
  go_ret
  exact ⟨by first | rfl | (simp [errW_none, errW_some] <;> rfl) | (simp [*, errW_none, errW_some] <;> rfl), by repeat (first | (with_reducible first | exact HB.out | apply below_alloc | apply pw_below_drewN | apply below_drew1) | exact HB.out)⟩
end Go.Proofs.YtnpnablnnfekkaaDoor.PTr
namespace Go.Proofs.YtnpnablnnfekkaaDoor.PTr
open Go.RowKit Go.Proofs.YtnpnablnnfekkaaDoorW.PrintWords Go.Proofs.YtnpnablnnfekkaaDoorW.PrintLast Go.Proofs.YtnpnablnnfekkaaDoorW.PrintMore
attribute [local go_sem] max2_int min2_int max_two min_two max_three min_three max_four min_four   -- for this text's walks alone
set_option linter.unusedVariables false
set_option linter.unusedSimpArgs false
attribute [local go_sem high] eqA24
def rehearsalref04_Exact.f (k : Nat) (l0_0 : List (S44)) (a0_1 : Int) (a0_2 : Int) (a0_3 : Int) (l1_0 : List (S44)) (a1_1 : Int) (a1_2 : Int) (a1_3 : Int) : Option (Bool) := if a0_1 = a1_1 then (if (a0_2 == a1_2 && (a0_3 == a1_3)) = true then ((rehearsalref04_Nodes.f k l0_0 l1_0).bind fun t222 => (some t222)) else (some false)) else (some false)
set_option maxHeartbeats 8000000 in
set_option maxRecDepth 100000 in
theorem rehearsalref04_Exact.calls (k : Nat) (A0_0 : Option Addr) (c0_0 : Nat) (l0_0 : List (S44)) (a0_1 : Int) (a0_2 : Int) (a0_3 : Int) (A1_0 : Option Addr) (c1_0 : Nat) (l1_0 : List (S44)) (a1_1 : Int) (a1_2 : Int) (a1_3 : Int) (r : Bool) (w : World) (hr0_0 : Kd.C k44 w A0_0 l0_0.length l0_0) (hc0_0 : l0_0.length ≤ c0_0) (hr1_0 : Kd.C k44 w A1_0 l1_0.length l1_0) (hc1_0 : l1_0.length ≤ c1_0) (h : rehearsalref04_Exact.f k l0_0 a0_1 a0_2 a0_3 l1_0 a1_1 a1_2 a1_3 = some r) :
  Calls Tryd.prog 19 #[.agg #[.slice A0_0 l0_0.length c0_0, .int .i64 a0_1, .int .i64 a0_2, .int .i64 a0_3], .agg #[.slice A1_0 l1_0.length c1_0, .int .i64 a1_1, .int .i64 a1_2, .int .i64 a1_3]] w fun e w' => e = .returned (.bool r) ∧ Below w.heap.size w w' := by
 have hu26 := Tryd.underlying26
 have hu24 := Tryd.underlying24
 have HR0_0 := Aside0.mk hr0_0
 have HC0_0 := Aside0.mk hc0_0
 clear hr0_0 hc0_0
 have HR1_0 := Aside0.mk hr1_0
 have HC1_0 := Aside0.mk hc1_0
 clear hr1_0 hc1_0
 have HB := Aside0.mk (Below.refl w.heap.size w)
 have H : (if a0_1 = a1_1 then (if (a0_2 == a1_2 && (a0_3 == a1_3)) = true then ((rehearsalref04_Nodes.f k l0_0 l1_0).bind fun t222 => (some t222)) else (some false)) else (some false)) = some r := h
 clear h
 by_cases c3 : a0_1 = a1_1
 ·
  rw [if_pos c3] at H
  have c3b0 : (a0_1 == a1_1) = true := beq_iff_eq.mpr c3
  have c3b1 : (a0_1 != a1_1) = false := bne_eq_false_iff_eq.mpr c3
  clear c3
  by_cases c4 : (a0_2 == a1_2 && (a0_3 == a1_3)) = true
  ·
   rw [if_pos c4] at H
   have c4b0 : (a0_2 == a1_2 && (a0_3 == a1_3)) = true := c4
   (try (have c4b1 : decide (a0_2 = a1_2 && (a0_3 == a1_3)) = true := by simpa using c4))
   (try (have c4b2 : (a0_2 == a1_2 && (a0_3 == a1_3)) = true := by simpa using c4))
   clear c4
   replace H := Option.bind_eq_some_iff.mp H
   obtain ⟨t222, A50, H⟩ := H
   replace H : (some t222) = some r := H
   have A5 := Aside0.mk A50
   clear A50
   obtain rfl := Option.some.inj H
   go_enter Tryd.func19, Tryd.ntmps19
   go_wp2_with (first | ((with_reducible refine gate_dst (N := 2) rfl ?_); refine box_event ?hg (N := 2) ?hd (cs := #[.slice A0_0 l0_0.length c0_0, .int .i64 a0_1, .int .i64 a0_2, .int .i64 a0_3]) (t := 26) ?hr ?_; (case hd => rfl); (case hg => rfl); (case hr => first | (go_simp; done) | (go_simp; rfl)); intro gb220 hg w6 hbox hb; have n0_ := Aside0.mk (below_step (by repeat (first | (with_reducible first | exact HB.out | apply below_alloc | apply pw_below_drewN | apply below_drew1) | exact HB.out)) hb); have n1_ := Aside0.mk (hbox); have n2_ := Aside0.mk ((by rw [hg]; exact (below_size (by repeat (first | (with_reducible first | exact HB.out | apply below_alloc | apply pw_below_drewN | apply below_drew1) | exact HB.out))) : w.heap.size ≤ gb220)); have n3_ := Aside0.mk ((by rw [hg]; exact (below_size (by repeat (first | (with_reducible first | exact HB.out | apply below_alloc | apply pw_below_drewN | apply below_drew1) | exact HB.out))) : w.heap.size ≤ gb220)); clear HB; have HB := n0_; have BK220 := n1_; have GW220 := n2_; have GE220 := n3_; clear n0_ n1_ n2_ n3_; clear hb hbox hg) | ((with_reducible refine gate_dst (N := 3) rfl ?_); refine box_event ?hg (N := 3) ?hd (cs := #[.slice A1_0 l1_0.length c1_0, .int .i64 a1_1, .int .i64 a1_2, .int .i64 a1_3]) (t := 26) ?hr ?_; (case hd => rfl); (case hg => rfl); (case hr => first | (go_simp; done) | (go_simp; rfl)); intro gb221 hg w7 hbox hb; have n0_ := Aside0.mk (blk_below (g := gb220) (o := .cells #[.slice A0_0 l0_0.length c0_0, .int .i64 a0_1, .int .i64 a0_2, .int .i64 a0_3] 26 (0, 0)) (by (with_reducible repeat (first | refine blk_drewN ?_ _ | refine blk_drew ?_ | refine blk_alloc ?_ _)); exact BK220.out) hb); have n1_ := Aside0.mk (below_step (by repeat (first | (with_reducible first | exact HB.out | apply below_alloc | apply pw_below_drewN | apply below_drew1 | refine below_set ?_ GE220.out) | exact HB.out)) hb); have n2_ := Aside0.mk (hbox); have n3_ := Aside0.mk ((by rw [hg]; exact (below_size (by repeat (first | (with_reducible first | exact HB.out | apply below_alloc | apply pw_below_drewN | apply below_drew1 | refine below_set ?_ GE220.out) | exact HB.out))) : w.heap.size ≤ gb221)); have n4_ := Aside0.mk ((by rw [hg]; exact (below_size (by repeat (first | (with_reducible first | exact HB.out | apply below_alloc | apply pw_below_drewN | apply below_drew1 | refine below_set ?_ GE220.out) | exact HB.out))) : w.heap.size ≤ gb221)); have n5_ := Aside0.mk ((by rw [hg]; exact Nat.ne_of_lt (blk_lt (g := gb220) (o := .cells #[.slice A0_0 l0_0.length c0_0, .int .i64 a0_1, .int .i64 a0_2, .int .i64 a0_3] 26 (0, 0)) (by (with_reducible repeat (first | refine blk_drewN ?_ _ | refine blk_drew ?_ | refine blk_alloc ?_ _)); exact BK220.out)) : gb220 ≠ gb221)); have n6_ := Aside0.mk ((by rw [hg]; exact Nat.ne_of_gt (blk_lt (g := gb220) (o := .cells #[.slice A0_0 l0_0.length c0_0, .int .i64 a0_1, .int .i64 a0_2, .int .i64 a0_3] 26 (0, 0)) (by (with_reducible repeat (first | refine blk_drewN ?_ _ | refine blk_drew ?_ | refine blk_alloc ?_ _)); exact BK220.out)) : gb221 ≠ gb220)); clear BK220; clear HB; have BK220 := n0_; have HB := n1_; have BK221 := n2_; have GW221 := n3_; have GE221 := n4_; have NB220_221 := n5_; have NB221_220 := n6_; clear n0_ n1_ n2_ n3_ n4_ n5_ n6_; clear hb hbox hg; have hnb8 := NB220_221.out; have hnc8 := NB221_220.out; have hcz9_0 : w7.cell? ⟨gb220, 0, none⟩ = some (.slice A0_0 l0_0.length c0_0) := (blk_cell BK220.out 0).trans rfl; have hcz9_1 : w7.cell? ⟨gb220, 1, none⟩ = some (.int .i64 a0_1) := (blk_cell BK220.out 1).trans rfl; have hcz9_2 : w7.cell? ⟨gb220, 2, none⟩ = some (.int .i64 a0_2) := (blk_cell BK220.out 2).trans rfl; have hcz9_3 : w7.cell? ⟨gb220, 3, none⟩ = some (.int .i64 a0_3) := (blk_cell BK220.out 3).trans rfl; have hfz9_0 := blk_frozen BK220.out 0; have hfz9_1 := blk_frozen BK220.out 1; have hfz9_2 := blk_frozen BK220.out 2; have hfz9_3 := blk_frozen BK220.out 3; have hcz10_0 : w7.cell? ⟨gb221, 0, none⟩ = some (.slice A1_0 l1_0.length c1_0) := (blk_cell BK221.out 0).trans rfl; have hcz10_1 : w7.cell? ⟨gb221, 1, none⟩ = some (.int .i64 a1_1) := (blk_cell BK221.out 1).trans rfl; have hcz10_2 : w7.cell? ⟨gb221, 2, none⟩ = some (.int .i64 a1_2) := (blk_cell BK221.out 2).trans rfl; have hcz10_3 : w7.cell? ⟨gb221, 3, none⟩ = some (.int .i64 a1_3) := (blk_cell BK221.out 3).trans rfl; have hfz10_0 := blk_frozen BK221.out 0; have hfz10_1 := blk_frozen BK221.out 1; have hfz10_2 := blk_frozen BK221.out 2; have hfz10_3 := blk_frozen BK221.out 3) | (go_at_call 63; (with_reducible refine (rehearsalref04_Nodes.calls k _ _ l0_0 _ _ l1_0 t222 _ ?side1 ?side2 ?side3 ?side4 A5.out).mono ?_); (case side1 => repeat (first | exact (Kd.C_below HR0_0.out HB.out) | (with_reducible refine Kd.C_alloc ?_ _) | (with_reducible refine Kd.C_drewN ?_ _) | (with_reducible refine Kd.C_drew ?_))); (case side2 => exact HC0_0.out); (case side3 => repeat (first | exact (Kd.C_below HR1_0.out HB.out) | (with_reducible refine Kd.C_alloc ?_ _) | (with_reducible refine Kd.C_drewN ?_ _) | (with_reducible refine Kd.C_drew ?_))); (case side4 => exact HC1_0.out); rintro e w11 ⟨rfl, hb⟩; have n0_ := Aside0.mk (blk_below (g := gb220) (o := .cells #[.slice A0_0 l0_0.length c0_0, .int .i64 a0_1, .int .i64 a0_2, .int .i64 a0_3] 26 (0, 0)) (by (with_reducible repeat (first | refine blk_drewN ?_ _ | refine blk_drew ?_ | refine blk_alloc ?_ _)); exact BK220.out) hb); have n1_ := Aside0.mk (blk_below (g := gb221) (o := .cells #[.slice A1_0 l1_0.length c1_0, .int .i64 a1_1, .int .i64 a1_2, .int .i64 a1_3] 26 (0, 0)) (by (with_reducible repeat (first | refine blk_drewN ?_ _ | refine blk_drew ?_ | refine blk_alloc ?_ _)); exact BK221.out) hb); have n2_ := Aside0.mk (below_step (by repeat (first | (with_reducible first | exact HB.out | apply below_alloc | apply pw_below_drewN | apply below_drew1 | refine below_set ?_ GE220.out | refine below_set ?_ GE221.out) | exact HB.out)) hb); clear BK220; clear BK221; clear HB; have BK220 := n0_; have BK221 := n1_; have HB := n2_; clear n0_ n1_ n2_; (try clear hb); (try clear hb2); (try clear hk); (try clear hi)))
   go_ret
   exact ⟨by first | rfl | (simp [errW_none, errW_some] <;> rfl) | (simp [*, errW_none, errW_some] <;> rfl), by repeat (first | (with_reducible first | exact HB.out | apply below_alloc | apply pw_below_drewN | apply below_drew1 | refine below_set ?_ GE220.out | refine below_set ?_ GE221.out) | exact HB.out)⟩
  ·
   rw [if_neg c4] at H
   have c4b0 : (a0_2 == a1_2 && (a0_3 == a1_3)) = false := by simpa using c4
   (try (have c4b1 : decide (a0_2 = a1_2 && (a0_3 == a1_3)) = false := by simpa using c4))
   (try (have c4b2 : (a0_2 == a1_2 && (a0_3 == a1_3)) = false := by simpa using c4))
   (try (have c4b3 : ¬ (a0_2 = a1_2 && (a0_3 == a1_3)) := by simpa using c4))
   clear c4
   obtain rfl := Option.some.inj H
   go_enter Tryd.func19, Tryd.ntmps19
   go_wp2_with (first | ((with_reducible refine gate_dst (N := 2) rfl ?_); refine box_event ?hg (N := 2) ?hd (cs := #[.slice A0_0 l0_0.length c0_0, .int .i64 a0_1, .int .i64 a0_2, .int .i64 a0_3]) (t := 26) ?hr ?_; (case hd => rfl); (case hg => rfl); (case hr => first | (go_simp; done) | (go_simp; rfl)); intro gb220 hg w12 hbox hb; have n0_ := Aside0.mk (below_step (by repeat (first | (with_reducible first | exact HB.out | apply below_alloc | apply pw_below_drewN | apply below_drew1) | exact HB.out)) hb); have n1_ := Aside0.mk (hbox); have n2_ := Aside0.mk ((by rw [hg]; exact (below_size (by repeat (first | (with_reducible first | exact HB.out | apply below_alloc | apply pw_below_drewN | apply below_drew1) | exact HB.out))) : w.heap.size ≤ gb220)); have n3_ := Aside0.mk ((by rw [hg]; exact (below_size (by repeat (first | (with_reducible first | exact HB.out | apply below_alloc | apply pw_below_drewN | apply below_drew1) | exact HB.out))) : w.heap.size ≤ gb220)); clear HB; have HB := n0_; have BK220 := n1_; have GW220 := n2_; have GE220 := n3_; clear n0_ n1_ n2_ n3_; clear hb hbox hg) | ((with_reducible refine gate_dst (N := 3) rfl ?_); refine box_event ?hg (N := 3) ?hd (cs := #[.slice A1_0 l1_0.length c1_0, .int .i64 a1_1, .int .i64 a1_2, .int .i64 a1_3]) (t := 26) ?hr ?_; (case hd => rfl); (case hg => rfl); (case hr => first | (go_simp; done) | (go_simp; rfl)); intro gb221 hg w13 hbox hb; have n0_ := Aside0.mk (blk_below (g := gb220) (o := .cells #[.slice A0_0 l0_0.length c0_0, .int .i64 a0_1, .int .i64 a0_2, .int .i64 a0_3] 26 (0, 0)) (by (with_reducible repeat (first | refine blk_drewN ?_ _ | refine blk_drew ?_ | refine blk_alloc ?_ _)); exact BK220.out) hb); have n1_ := Aside0.mk (below_step (by repeat (first | (with_reducible first | exact HB.out | apply below_alloc | apply pw_below_drewN | apply below_drew1 | refine below_set ?_ GE220.out) | exact HB.out)) hb); have n2_ := Aside0.mk (hbox); have n3_ := Aside0.mk ((by rw [hg]; exact (below_size (by repeat (first | (with_reducible first | exact HB.out | apply below_alloc | apply pw_below_drewN | apply below_drew1 | refine below_set ?_ GE220.out) | exact HB.out))) : w.heap.size ≤ gb221)); have n4_ := Aside0.mk ((by rw [hg]; exact (below_size (by repeat (first | (with_reducible first | exact HB.out | apply below_alloc | apply pw_below_drewN | apply below_drew1 | refine below_set ?_ GE220.out) | exact HB.out))) : w.heap.size ≤ gb221)); have n5_ := Aside0.mk ((by rw [hg]; exact Nat.ne_of_lt (blk_lt (g := gb220) (o := .cells #[.slice A0_0 l0_0.length c0_0, .int .i64 a0_1, .int .i64 a0_2, .int .i64 a0_3] 26 (0, 0)) (by (with_reducible repeat (first | refine blk_drewN ?_ _ | refine blk_drew ?_ | refine blk_alloc ?_ _)); exact BK220.out)) : gb220 ≠ gb221)); have n6_ := Aside0.mk ((by rw [hg]; exact Nat.ne_of_gt (blk_lt (g := gb220) (o := .cells #[.slice A0_0 l0_0.length c0_0, .int .i64 a0_1, .int .i64 a0_2, .int .i64 a0_3] 26 (0, 0)) (by (with_reducible repeat (first | refine blk_drewN ?_ _ | refine blk_drew ?_ | refine blk_alloc ?_ _)); exact BK220.out)) : gb221 ≠ gb220)); clear BK220; clear HB; have BK220 := n0_; have HB := n1_; have BK221 := n2_; have GW221 := n3_; have GE221 := n4_; have NB220_221 := n5_; have NB221_220 := n6_; clear n0_ n1_ n2_ n3_ n4_ n5_ n6_; clear hb hbox hg; have hnb14 := NB220_221.out; have hnc14 := NB221_220.out; have hcz15_0 : w13.cell? ⟨gb220, 0, none⟩ = some (.slice A0_0 l0_0.length c0_0) := (blk_cell BK220.out 0).trans rfl; have hcz15_1 : w13.cell? ⟨gb220, 1, none⟩ = some (.int .i64 a0_1) := (blk_cell BK220.out 1).trans rfl; have hcz15_2 : w13.cell? ⟨gb220, 2, none⟩ = some (.int .i64 a0_2) := (blk_cell BK220.out 2).trans rfl; have hcz15_3 : w13.cell? ⟨gb220, 3, none⟩ = some (.int .i64 a0_3) := (blk_cell BK220.out 3).trans rfl; have hfz15_0 := blk_frozen BK220.out 0; have hfz15_1 := blk_frozen BK220.out 1; have hfz15_2 := blk_frozen BK220.out 2; have hfz15_3 := blk_frozen BK220.out 3; have hcz16_0 : w13.cell? ⟨gb221, 0, none⟩ = some (.slice A1_0 l1_0.length c1_0) := (blk_cell BK221.out 0).trans rfl; have hcz16_1 : w13.cell? ⟨gb221, 1, none⟩ = some (.int .i64 a1_1) := (blk_cell BK221.out 1).trans rfl; have hcz16_2 : w13.cell? ⟨gb221, 2, none⟩ = some (.int .i64 a1_2) := (blk_cell BK221.out 2).trans rfl; have hcz16_3 : w13.cell? ⟨gb221, 3, none⟩ = some (.int .i64 a1_3) := (blk_cell BK221.out 3).trans rfl; have hfz16_0 := blk_frozen BK221.out 0; have hfz16_1 := blk_frozen BK221.out 1; have hfz16_2 := blk_frozen BK221.out 2; have hfz16_3 := blk_frozen BK221.out 3))
   go_ret
   exact ⟨by first | rfl | (simp [errW_none, errW_some] <;> rfl) | (simp [*, errW_none, errW_some] <;> rfl), by repeat (first | (with_reducible first | exact HB.out | apply below_alloc | apply pw_below_drewN | apply below_drew1 | refine below_set ?_ GE220.out | refine below_set ?_ GE221.out) | exact HB.out)⟩
 ·
  rw [if_neg c3] at H
  have c3b0 : (a0_1 == a1_1) = false := beq_eq_false_iff_ne.mpr c3
  have c3b1 : (a0_1 != a1_1) = true := bne_iff_ne.mpr c3
  obtain rfl := Option.some.inj H
  go_enter Tryd.func19, Tryd.ntmps19
  go_wp2_with (first | ((with_reducible refine gate_dst (N := 2) rfl ?_); refine box_event ?hg (N := 2) ?hd (cs := #[.slice A0_0 l0_0.length c0_0, .int .i64 a0_1, .int .i64 a0_2, .int .i64 a0_3]) (t := 26) ?hr ?_; (case hd => rfl); (case hg => rfl); (case hr => first | (go_simp; done) | (go_simp; rfl)); intro gb220 hg w17 hbox hb; have n0_ := Aside0.mk (below_step (by repeat (first | (with_reducible first | exact HB.out | apply below_alloc | apply pw_below_drewN | apply below_drew1) | exact HB.out)) hb); have n1_ := Aside0.mk (hbox); have n2_ := Aside0.mk ((by rw [hg]; exact (below_size (by repeat (first | (with_reducible first | exact HB.out | apply below_alloc | apply pw_below_drewN | apply below_drew1) | exact HB.out))) : w.heap.size ≤ gb220)); have n3_ := Aside0.mk ((by rw [hg]; exact (below_size (by repeat (first | (with_reducible first | exact HB.out | apply below_alloc | apply pw_below_drewN | apply below_drew1) | exact HB.out))) : w.heap.size ≤ gb220)); clear HB; have HB := n0_; have BK220 := n1_; have GW220 := n2_; have GE220 := n3_; clear n0_ n1_ n2_ n3_; clear hb hbox hg) | ((with_reducible refine gate_dst (N := 3) rfl ?_); refine box_event ?hg (N := 3) ?hd (cs := #[.slice A1_0 l1_0.length c1_0, .int .i64 a1_1, .int .i64 a1_2, .int .i64 a1_3]) (t := 26) ?hr ?_; (case hd => rfl); (case hg => rfl); (case hr => first | (go_simp; done) | (go_simp; rfl)); intro gb221 hg w18 hbox hb; have n0_ := Aside0.mk (blk_below (g := gb220) (o := .cells #[.slice A0_0 l0_0.length c0_0, .int .i64 a0_1, .int .i64 a0_2, .int .i64 a0_3] 26 (0, 0)) (by (with_reducible repeat (first | refine blk_drewN ?_ _ | refine blk_drew ?_ | refine blk_alloc ?_ _)); exact BK220.out) hb); have n1_ := Aside0.mk (below_step (by repeat (first | (with_reducible first | exact HB.out | apply below_alloc | apply pw_below_drewN | apply below_drew1 | refine below_set ?_ GE220.out) | exact HB.out)) hb); have n2_ := Aside0.mk (hbox); have n3_ := Aside0.mk ((by rw [hg]; exact (below_size (by repeat (first | (with_reducible first | exact HB.out | apply below_alloc | apply pw_below_drewN | apply below_drew1 | refine below_set ?_ GE220.out) | exact HB.out))) : w.heap.size ≤ gb221)); have n4_ := Aside0.mk ((by rw [hg]; exact (below_size (by repeat (first | (with_reducible first | exact HB.out | apply below_alloc | apply pw_below_drewN | apply below_drew1 | refine below_set ?_ GE220.out) | exact HB.out))) : w.heap.size ≤ gb221)); have n5_ := Aside0.mk ((by rw [hg]; exact Nat.ne_of_lt (blk_lt (g := gb220) (o := .cells #[.slice A0_0 l0_0.length c0_0, .int .i64 a0_1, .int .i64 a0_2, .int .i64 a0_3] 26 (0, 0)) (by (with_reducible repeat (first | refine blk_drewN ?_ _ | refine blk_drew ?_ | refine blk_alloc ?_ _)); exact BK220.out)) : gb220 ≠ gb221)); have n6_ := Aside0.mk ((by rw [hg]; exact Nat.ne_of_gt (blk_lt (g := gb220) (o := .cells #[.slice A0_0 l0_0.length c0_0, .int .i64 a0_1, .int .i64 a0_2, .int .i64 a0_3] 26 (0, 0)) (by (with_reducible repeat (first | refine blk_drewN ?_ _ | refine blk_drew ?_ | refine blk_alloc ?_ _)); exact BK220.out)) : gb221 ≠ gb220)); clear BK220; clear HB; have BK220 := n0_; have HB := n1_; have BK221 := n2_; have GW221 := n3_; have GE221 := n4_; have NB220_221 := n5_; have NB221_220 := n6_; clear n0_ n1_ n2_ n3_ n4_ n5_ n6_; clear hb hbox hg; have hnb19 := NB220_221.out; have hnc19 := NB221_220.out; have hcz20_0 : w18.cell? ⟨gb220, 0, none⟩ = some (.slice A0_0 l0_0.length c0_0) := (blk_cell BK220.out 0).trans rfl; have hcz20_1 : w18.cell? ⟨gb220, 1, none⟩ = some (.int .i64 a0_1) := (blk_cell BK220.out 1).trans rfl; have hcz20_2 : w18.cell? ⟨gb220, 2, none⟩ = some (.int .i64 a0_2) := (blk_cell BK220.out 2).trans rfl; have hcz20_3 : w18.cell? ⟨gb220, 3, none⟩ = some (.int .i64 a0_3) := (blk_cell BK220.out 3).trans rfl; have hfz20_0 := blk_frozen BK220.out 0; have hfz20_1 := blk_frozen BK220.out 1; have hfz20_2 := blk_frozen BK220.out 2; have hfz20_3 := blk_frozen BK220.out 3; have hcz21_0 : w18.cell? ⟨gb221, 0, none⟩ = some (.slice A1_0 l1_0.length c1_0) := (blk_cell BK221.out 0).trans rfl; have hcz21_1 : w18.cell? ⟨gb221, 1, none⟩ = some (.int .i64 a1_1) := (blk_cell BK221.out 1).trans rfl; have hcz21_2 : w18.cell? ⟨gb221, 2, none⟩ = some (.int .i64 a1_2) := (blk_cell BK221.out 2).trans rfl; have hcz21_3 : w18.cell? ⟨gb221, 3, none⟩ = some (.int .i64 a1_3) := (blk_cell BK221.out 3).trans rfl; have hfz21_0 := blk_frozen BK221.out 0; have hfz21_1 := blk_frozen BK221.out 1; have hfz21_2 := blk_frozen BK221.out 2; have hfz21_3 := blk_frozen BK221.out 3))
  go_ret
  exact ⟨by first | rfl | (simp [errW_none, errW_some] <;> rfl) | (simp [*, errW_none, errW_some] <;> rfl), by repeat (first | (with_reducible first | exact HB.out | apply below_alloc | apply pw_below_drewN | apply below_drew1 | refine below_set ?_ GE220.out | refine below_set ?_ GE221.out) | exact HB.out)⟩
end Go.Proofs.YtnpnablnnfekkaaDoor.PTr
set_option linter.unusedVariables false
set_option linter.unusedSimpArgs false
namespace Go.Proofs.YtnpnablnnfekkaaDoor.PTr
open Go.RowKit Go.Proofs.YtnpnablnnfekkaaDoor Go.Proofs.YtnpnablnnfekkaaDoorW.PrintWords
theorem Evt.bind0 {α β : Type} {g : Nat → Option β} {p : Nat → Option α} {q : Nat → α → Option β} {x : α} {r : β} (he : ∀ k, g k = (p k).bind (q k)) (hp : Evt p x) (hq : Evt (fun k => q k x) r) : Evt g r := by
 obtain ⟨K, hK⟩ := hp
 obtain ⟨L, hL⟩ := hq
 refine ⟨K + L, fun k hk => ?_⟩
 rw [he, hK k (by omega), Option.bind_some]
 exact hL k (by omega)
theorem Evt.const0 {α : Type} {g : Nat → Option α} {r : α} (he : ∀ k, g k = some r) : Evt g r := ⟨0, fun k _ => he k⟩
theorem same_l0 (x0 x1 x2 x3 x4 : Int) (x5 : ByteArray) (es : List Ent) (hl : es.length ≤ 1000000000000000000) : ∀ (d i : Nat), i + d = es.length → Evt (fun k => rehearsalref04_SameNode.l0 k (i : Int) x0 x1 x2 x3 x4 x5 es x0 x1 x2 x3 x4 x5 es) true := by
 intro d
 induction d with
 | zero =>
  intro i h
  refine Evt.const 0 (fun k _ => ?_)
  simp only [rehearsalref04_SameNode.l0]
  rw [if_neg (by omega)]
 | succ d ih =>
  intro i h
  refine Evt.succ 0 (fun k _ => ?_) (ih (i + 1) (by omega))
  simp only [rehearsalref04_SameNode.l0]
  rw [if_pos (by omega), if_pos (by omega), if_pos (by omega), if_neg (by simp), show wrap64 ((i : Int) + 1) = ((i + 1 : Nat) : Int) from by unfold wrap64; omega]
theorem same_f (x : Nod) (hl : x.f6.length ≤ 1000000000000000000) : Evt (fun k => rehearsalref04_SameNode.f k x.f0 x.f1 x.f2 x.f3 x.f4 x.f5 x.f6 x.f0 x.f1 x.f2 x.f3 x.f4 x.f5 x.f6) true := by
 obtain ⟨K, hK⟩ := same_l0 x.f0 x.f1 x.f2 x.f3 x.f4 x.f5 x.f6 hl x.f6.length 0 (by omega)
 refine ⟨K + 1, fun k hk => ?_⟩
 obtain ⟨k, rfl⟩ : ∃ j, k = j + 1 := ⟨k - 1, by omega⟩
 show rehearsalref04_SameNode.f (k + 1) _ _ _ _ _ _ _ _ _ _ _ _ _ _ = _
 unfold rehearsalref04_SameNode.f
 have hb : ((x.f6.length : Int) != (x.f6.length : Int)) = false := bne_eq_false_iff_eq.mpr rfl
 rw [if_pos rfl, if_pos rfl, if_pos rfl, if_pos rfl, if_pos rfl, if_pos rfl, hb]
 simp only [rehearsalref04_SameNode.j0, Bool.false_eq_true, if_false]
 exact hK k (by omega)
theorem nodes_l0 (l : List Nod) (hn : l.length ≤ 5864062014805) (hl : ∀ x ∈ l, x.f6.length ≤ 1000000000000000000) : ∀ (d i : Nat), i + d = l.length → Evt (fun k => rehearsalref04_Nodes.l0 k l l (i : Int)) true := by
 intro d
 induction d with
 | zero =>
  intro i h
  refine Evt.const 0 (fun k _ => ?_)
  simp only [rehearsalref04_Nodes.l0]
  rw [if_neg (by omega)]
 | succ d ih =>
  intro i h
  have hi : i < l.length := by omega
  obtain ⟨K, hK⟩ := same_f l[i] (hl _ (List.getElem_mem hi))
  refine Evt.succ K (fun k hk => ?_) (ih (i + 1) (by omega))
  have h1 := hK k hk
  simp only [rehearsalref04_Nodes.l0]
  rw [if_pos (by omega), if_pos (by omega), if_pos (by omega), rdN l i hi]
  refine Eq.trans (congrArg (fun o => Option.bind o _) h1) ?_
  show (some true).bind _ = _
  rw [Option.bind_some, if_pos rfl, show wrap64 ((i : Int) + 1) = ((i + 1 : Nat) : Int) from by unfold wrap64; omega]
theorem exact_ev (l : List Nod) (a1 a2 a3 : Int) (hn : l.length ≤ 5864062014805) (hl : ∀ x ∈ l, x.f6.length ≤ 1000000000000000000) : Evt (fun k => rehearsalref04_Exact.f k l a1 a2 a3 l a1 a2 a3) true := by
 obtain ⟨K, hK⟩ := nodes_l0 l hn hl l.length 0 (by omega)
 refine ⟨K, fun k hk => ?_⟩
 show rehearsalref04_Exact.f k _ _ _ _ _ _ _ _ = _
 unfold rehearsalref04_Exact.f rehearsalref04_Nodes.f
 rw [if_pos rfl, if_pos (by simp), if_pos rfl]
 have : rehearsalref04_Nodes.l0 k l l 0 = some true := hK k hk
 rw [this]; rfl
end Go.Proofs.YtnpnablnnfekkaaDoor.PTr
set_option linter.unusedVariables false
set_option linter.unusedSimpArgs false
namespace Go.Proofs.YtnpnablnnfekkaaDoor.PTr
open Go.RowKit Go.Proofs.YtnpnablnnfekkaaDoor Go.Proofs.YtnpnablnnfekkaaDoorW.PrintWords Go.Proofs.YtnpnablnnfekkaaDoorW.PrintLast Go.Proofs.YtnpnablnnfekkaaDoorW.PrintMore
structure RSt (w0 w : World) (g1 g2 : Nat) (T : Array Value) (v4 : Value) (W : List S87) : Prop where
 hb : Below w0.heap.size w0 w
 b1 : w.heap[g1]? = some (.cells T 26 (0, 0))
 b2 : w.heap[g2]? = some (.cells zT 26 (0, 0))
 e1 : w0.heap.size ≤ g1
 e2 : w0.heap.size ≤ g2
 q : Kd.R k87 87 w w0.heap.size (fun _ => True) v4 W
theorem RSt.below {w0 w w' : World} {g1 g2 : Nat} {T : Array Value} {v4 : Value} {W : List S87} (h : RSt w0 w g1 g2 T v4 W) (hb : Below w.heap.size w w') : RSt w0 w' g1 g2 T v4 W :=
 ⟨below_step h.hb hb, blk_below h.b1 hb, blk_below h.b2 hb, h.e1, h.e2, Kd.R_below h.q hb⟩
theorem RSt.grown {w0 w w' : World} {g1 g2 : Nat} {T : Array Value} {v4 : Value} {W : List S87} (h : RSt w0 w g1 g2 T v4 W) {base : Nat} {ok : Nat → Prop} {u : Value} {out : List Nod} (hs : Kd.S k44 44 w base ok u out) (hb : Below w0.heap.size w0 w') (hg : w.grownBy w' u.ownBlock) : RSt w0 w' g1 g2 T v4 W :=
 ⟨hb, blk_grown h.b1 hg (Kd.S_ne hs h.b1 (by decide)), blk_grown h.b2 hg (Kd.S_ne hs h.b2 (by decide)), h.e1, h.e2, Kd.R_over' h.q (Kd.S_typed hs) (by decide) hg⟩
theorem RSt.far {w0 w : World} {g1 g2 : Nat} {T : Array Value} {v4 : Value} {W : List S87} (h : RSt w0 w g1 g2 T v4 W) {g : Nat} {cs : Array Value} (hg : w.heap[g]? = some (.cells cs 26 (0, 0))) (h0 : w0.heap.size ≤ g) (n1 : g1 ≠ g) (n2 : g2 ≠ g) (i : Nat) (x : Value) : RSt w0 (w.setCell ⟨g, i, none⟩ x) g1 g2 T v4 W :=
 ⟨below_set h.hb h0, blk_far h.b1 n1 x, blk_far h.b2 n2 x, h.e1, h.e2, Kd.R_set h.q hg (by decide) i x⟩
structure ROt (w0 w : World) (g1 g2 g5 : Nat) (T : Array Value) (v4 : Value) (W : List S87) (u : Value) (out : List Nod) (n8 r1 r2 : Int) : Prop where
 c : RSt w0 w g1 g2 T v4 W
 b5 : w.heap[g5]? = some (.cells #[u, .int .i64 n8, .int .i64 r1, .int .i64 r2] 26 (0, 0))
 e5 : w0.heap.size ≤ g5
 n1 : g1 ≠ g5
 n2 : g2 ≠ g5
 s : Kd.S k44 44 w w0.heap.size (fun _ => True) u out
theorem ROt.below {w0 w w' : World} {g1 g2 g5 : Nat} {T : Array Value} {v4 u : Value} {W : List S87} {out : List Nod} {n8 r1 r2 : Int} (h : ROt w0 w g1 g2 g5 T v4 W u out n8 r1 r2) (hb : Below w.heap.size w w') : ROt w0 w' g1 g2 g5 T v4 W u out n8 r1 r2 :=
 ⟨h.c.below hb, blk_below h.b5 hb, h.e5, h.n1, h.n2, Kd.S_below h.s hb⟩
theorem ROt.init {w0 w w1 : World} {g1 g2 g5 : Nat} {T : Array Value} {v4 : Value} {W : List S87} (h : RSt w0 w g1 g2 T v4 W) (hw : Below w.heap.size w w1) (hz : w1.heap[g5]? = some (.cells zTb 26 (0, 0))) (hg : g5 = w.heap.size) (n8 r1 r2 : Int) :
  ROt w0 (w1.setCells g5 0 (#[.slice none 0 0, .int .i64 n8, .int .i64 r1, .int .i64 r2] : Array Value).toList) g1 g2 g5 T v4 W (.slice none 0 0) [] n8 r1 r2 := by
 have h0 := h.below hw
 have e5 : w0.heap.size ≤ g5 := by rw [hg]; exact below_size h.hb
 have n1 : g1 ≠ g5 := by rw [hg]; exact Nat.ne_of_lt (blk_lt h.b1)
 have n2 : g2 ≠ g5 := by rw [hg]; exact Nat.ne_of_lt (blk_lt h.b2)
 have b0 : w1.heap[g5]? = some (.cells #[.slice none 0 0, .int .i64 0, .int .i64 0, .int .i64 0] 26 (0, 0)) := hz
 have b1 := blk_put b0 0 (.slice none 0 0) (cs' := #[.slice none 0 0, .int .i64 0, .int .i64 0, .int .i64 0]) rfl
 have b2 := blk_put b1 1 (.int .i64 n8) (cs' := #[.slice none 0 0, .int .i64 n8, .int .i64 0, .int .i64 0]) rfl
 have b3 := blk_put b2 2 (.int .i64 r1) (cs' := #[.slice none 0 0, .int .i64 n8, .int .i64 r1, .int .i64 0]) rfl
 have b4 := blk_put b3 3 (.int .i64 r2) (cs' := #[.slice none 0 0, .int .i64 n8, .int .i64 r1, .int .i64 r2]) rfl
 exact ⟨(((h0.far b0 e5 n1 n2 0 _).far b1 e5 n1 n2 1 _).far b2 e5 n1 n2 2 _).far b3 e5 n1 n2 3 _, b4, e5, n1, n2, Kd.S_nil _ _ _ _ _⟩
theorem ROt.push {w0 w w1 : World} {g1 g2 g5 : Nat} {T : Array Value} {v4 u u1 : Value} {W : List S87} {out out1 : List Nod} {n8 r1 r2 : Int} (h : ROt w0 w g1 g2 g5 T v4 W u out n8 r1 r2) (hs : Kd.S k44 44 w1 w0.heap.size (fun _ => True) u1 out1) (hb : Below w0.heap.size w0 w1) (hg : w.grownBy w1 u.ownBlock) :
  ROt w0 (w1.setCell ⟨g5, 0, none⟩ u1) g1 g2 g5 T v4 W u1 out1 n8 r1 r2 := by
 have b5 := blk_grown h.b5 hg (Kd.S_ne h.s h.b5 (by decide))
 exact ⟨(h.c.grown h.s hb hg).far b5 h.e5 h.n1 h.n2 0 u1, blk_put b5 0 u1 rfl, h.e5, h.n1, h.n2, Kd.S_set hs b5 (by decide) 0 u1⟩
structure RNd (wr w : World) (gb : Nat) (x0 x1 x2 x3 x4 : Int) (x5 : ByteArray) (u6 v8 : Value) (es : List Ent) : Prop where
 hb : Below wr.heap.size wr w
 bn : w.heap[gb]? = some (.cells #[.int .i64 x0, .int .i64 x1, .int .i64 x2, .int .i64 x3, .int .i64 x4, .string x5, u6] 44 (0, 0))
 en : wr.heap.size ≤ gb
 r : Kd.R k61 61 w wr.heap.size (fun _ => True) v8 es
theorem RNd.init {wr w6 : World} {gb : Nat} (hz : w6.heap[gb]? = some (.cells zN 44 (0, 0))) (hb : Below wr.heap.size wr w6) (hg : wr.heap.size ≤ gb) (x0 x1 x2 x3 x4 : Int) (x5 : ByteArray) (u6 : Value) :
  RNd wr (((((((w6.setCell ⟨gb, 0, none⟩ (.int .i64 x0)).setCell ⟨gb, 1, none⟩ (.int .i64 x1)).setCell ⟨gb, 2, none⟩ (.int .i64 x2)).setCell ⟨gb, 3, none⟩ (.int .i64 x3)).setCell ⟨gb, 4, none⟩ (.int .i64 x4)).setCell ⟨gb, 5, none⟩ (.string x5)).setCell ⟨gb, 6, none⟩ u6) gb x0 x1 x2 x3 x4 x5 u6 (.slice none 0 0) [] :=
 ⟨setCells_below (x0 := x0) (x1 := x1) (x2 := x2) (x3 := x3) (x4 := x4) (x5 := x5) (u := u6) hb hg, setCells_blk (x0 := x0) (x1 := x1) (x2 := x2) (x3 := x3) (x4 := x4) (x5 := x5) (u := u6) hz, hg, Kd.R_nil _ _ _ _ _⟩
theorem RNd.below {wr w w' : World} {gb : Nat} {x0 x1 x2 x3 x4 : Int} {x5 : ByteArray} {u6 v8 : Value} {es : List Ent} (h : RNd wr w gb x0 x1 x2 x3 x4 x5 u6 v8 es) (hb : Below w.heap.size w w') : RNd wr w' gb x0 x1 x2 x3 x4 x5 u6 v8 es :=
 ⟨below_step h.hb hb, blk_below h.bn hb, h.en, Kd.R_below h.r hb⟩
theorem RNd.setId {wr w : World} {gb : Nat} {y x1 x2 x3 x4 : Int} {x5 : ByteArray} {u6 v8 : Value} {es : List Ent} (h : RNd wr w gb y x1 x2 x3 x4 x5 u6 v8 es) (x0 : Int) : RNd wr (w.setCell ⟨gb, 0, none⟩ (.int .i64 x0)) gb x0 x1 x2 x3 x4 x5 u6 v8 es :=
 ⟨below_set h.hb h.en, blk_put h.bn 0 (.int .i64 x0) rfl, h.en, Kd.R_set h.r h.bn (by decide) 0 _⟩
theorem RNd.setE {wr w : World} {gb : Nat} {x0 x1 x2 x3 x4 : Int} {x5 : ByteArray} {u6 v8 : Value} {es : List Ent} (h : RNd wr w gb x0 x1 x2 x3 x4 x5 u6 v8 es) : RNd wr (w.setCell ⟨gb, 6, none⟩ v8) gb x0 x1 x2 x3 x4 x5 v8 v8 es :=
 ⟨below_set h.hb h.en, blk_put h.bn 6 v8 rfl, h.en, Kd.R_set h.r h.bn (by decide) 6 _⟩
end Go.Proofs.YtnpnablnnfekkaaDoor.PTr
set_option linter.unusedVariables false
set_option linter.unusedSimpArgs false
namespace Go.Proofs.YtnpnablnnfekkaaDoor.PTr
open Go.RowKit Go.Proofs.YtnpnablnnfekkaaDoor Go.Proofs.YtnpnablnnfekkaaDoorW.PrintWords
def mvd (s id : Int) : Int := if id = 1 then 1 else wrap64 (wrap64 (2 * id) + wrap64 s)
theorem mvd_at {s id : Int} (hs : 0 ≤ s ∧ s ≤ 255) (h : 1 ≤ id ∧ id ≤ 512) : mvd s id = if id = 1 then 1 else 2 * id + s := by
 unfold mvd
 split
 ·
  rfl
 ·
  unfold wrap64; omega
theorem map_ren {ρ : Int → Int} {c : List Nod} (hr : Rises c) (hm : ∀ a ∈ idsL c, ∀ b ∈ idsL c, a < b → ρ a < ρ b) (h1 : ρ 1 = 1) (hcl : ∀ x ∈ c, ∀ e ∈ x.f6, e.f1 ∈ idsL c) : Ren ρ c (c.map (renN ρ)) ∧ Rises (c.map (renN ρ)) := by
 have hri : Rises (c.map (renN ρ)) := by
  intro i j hi hj hij
  have hi' : i < c.length := by rw [List.length_map] at hi; exact hi
  have hj' : j < c.length := by rw [List.length_map] at hj; exact hj
  rw [List.getElem_map, List.getElem_map]
  exact hm _ (mem_ids.2 ⟨_, List.getElem_mem hi', rfl⟩) _ (mem_ids.2 ⟨_, List.getElem_mem hj', rfl⟩) (hr i j hi' hj' hij)
 refine ⟨⟨fun a ha b hb e => ?_, fun id hi => ?_, fun y hy => ?_, fun x hx => ?_, List.length_map _, rises_nodup hr, rises_nodup hri, h1, hcl⟩, hri⟩
 ·
  by_cases h : a < b
  ·
   have := hm a ha b hb h; omega
  ·
   by_cases h' : b < a
   ·
    have := hm b hb a ha h'; omega
   ·
    omega
 ·
  obtain ⟨x, hx, rfl⟩ := mem_ids.1 hi
  obtain ⟨j, hj, rfl⟩ := List.getElem_of_mem hx
  have hj' : j < (c.map (renN ρ)).length := by rw [List.length_map]; exact hj
  have hat := nodeL_at hri j hj'
  rw [List.getElem_map] at hat
  rw [nodeL_at hr j hj]
  exact hat
 ·
  obtain ⟨x, hx, rfl⟩ := mem_ids.1 hy
  obtain ⟨z, hz, rfl⟩ := List.mem_map.1 hx
  exact ⟨z.f0, mem_ids.2 ⟨z, hz, rfl⟩, rfl⟩
 ·
  obtain ⟨z, hz, rfl⟩ := mem_ids.1 hx
  exact mem_ids.2 ⟨renN ρ z, List.mem_map.2 ⟨z, hz, rfl⟩, rfl⟩
theorem map_chk {ρ : Int → Int} {c : List Nod} {b last : Int} (h : chk c b = 0) (hm : ∀ a ∈ idsL c, ∀ b ∈ idsL c, a < b → ρ a < ρ b) (h1 : ρ 1 = 1) (hl : ∀ x ∈ c, ρ x.f0 ≤ last) : chk (c.map (renN ρ)) last = 0 := by
 obtain ⟨hh, hn, hlen, hr, hcl, _, hone⟩ := chk_facts h
 obtain ⟨hR, hri⟩ := map_ren hr hm h1 hcl
 obtain ⟨hz, hz0, hz1⟩ := one_in hh
 have hpl : ∀ y ∈ c, plainB y = true := fun y hy => by
  obtain ⟨i, hi, rfl⟩ := List.getElem_of_mem hy
  unfold nodesOK at hn
  have := List.all_eq_true.1 hn i (List.mem_range.2 hi)
  unfold nodeAt at this
  rw [Bool.and_eq_true, Bool.and_eq_true, rdN c i hi] at this
  exact this.1.1
 refine chk_of ?_ ?_ (ren_ref hR hone (ref_of h))
 ·
  have hz' : 0 < (c.map (renN ρ)).length := by rw [List.length_map]; exact hz
  unfold headOK
  rw [List.length_map, show (0 : Int) = ((0 : Nat) : Int) from rfl, rdN _ 0 hz', List.getElem_map]
  simp only [Bool.and_eq_true, decide_eq_true_eq]
  exact ⟨⟨⟨by omega, hlen⟩, by show ρ c[0].f0 = 1; rw [hz0, h1]⟩, hz1⟩
 ·
  unfold nodesOK
  rw [List.all_eq_true]
  intro i hi
  have hi := List.mem_range.1 hi
  have hi' : i < c.length := by rw [List.length_map] at hi; exact hi
  unfold nodeAt
  rw [rdN _ i hi, Bool.and_eq_true, Bool.and_eq_true, decide_eq_true_eq, Bool.or_eq_true, decide_eq_true_eq, decide_eq_true_eq, List.getElem_map]
  refine ⟨⟨(plainB_ren ρ _).trans (hpl _ (List.getElem_mem hi')), hl _ (List.getElem_mem hi')⟩, ?_⟩
  by_cases hi0 : i = 0
  ·
   exact .inl hi0
  ·
   right
   rw [rdN _ (i - 1) (by omega), List.getElem_map]
   have := hri (i - 1) i (by omega) hi (by omega)
   rw [List.getElem_map, List.getElem_map] at this
   exact this
theorem can_ids {l : List Nod} {a1 : Int} (h : chk l a1 = 0) : ∀ a ∈ idsL (canN l ((wid l a1).map (·.1))), 1 ≤ a ∧ a ≤ 512 := by
 intro a ha
 obtain ⟨x, hx, rfl⟩ := mem_ids.1 ha
 obtain ⟨i, hi, rfl⟩ := List.getElem_of_mem hx
 rw [can_id h i hi]
 have := (wid_props l a1).2.2
 rw [canN_len] at hi
 omega
theorem can_mv {l : List Nod} {a1 s : Int} (h : chk l a1 = 0) (hs : 0 ≤ s ∧ s ≤ 255) : ∀ a ∈ idsL (canN l ((wid l a1).map (·.1))), ∀ b ∈ idsL (canN l ((wid l a1).map (·.1))), a < b → mvd s a < mvd s b := by
 intro a ha b hb hab
 have h1 := can_ids h a ha
 have h2 := can_ids h b hb
 rw [mvd_at hs h1, mvd_at hs h2]
 split <;> split <;> omega
/-- numbered anew, it still has the same form -/
theorem can_moved {l : List Nod} {a1 s last : Int} (h : chk l a1 = 0) (hs : 0 ≤ s ∧ s ≤ 255) (hl : ∀ x ∈ canN l ((wid l a1).map (·.1)), mvd s x.f0 ≤ last) :
  chk ((canN l ((wid l a1).map (·.1))).map (renN (mvd s))) last = 0 ∧ canN ((canN l ((wid l a1).map (·.1))).map (renN (mvd s))) ((wid ((canN l ((wid l a1).map (·.1))).map (renN (mvd s))) last).map (·.1)) = canN l ((wid l a1).map (·.1)) := by
 have hc := can_chk h
 have hk := map_chk hc (can_mv h hs) (by unfold mvd; rw [if_pos rfl]) hl
 refine ⟨hk, ?_⟩
 obtain ⟨_, _, _, hr, hcl, _, _⟩ := chk_facts hc
 have hR := (map_ren hr (can_mv h hs) (by unfold mvd; rw [if_pos rfl]) hcl).1
 obtain ⟨hnd, hsub, hlen⟩ := wid_props (canN l ((wid l a1).map (·.1))) (((wid l a1).map (·.1)).length : Int)
 rw [ren_wid hR hc hk, List.map_map]
 have := ren_can hR _ hnd hsub (wid_full hc).2.1 hlen
 rw [List.map_map] at this
 exact this.trans (can_can h)
end Go.Proofs.YtnpnablnnfekkaaDoor.PTr
