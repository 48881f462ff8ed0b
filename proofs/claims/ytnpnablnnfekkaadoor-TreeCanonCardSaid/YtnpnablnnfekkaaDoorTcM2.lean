/- Texts of this claim's proof: small lemmas, walks and plain laws (merged by wip/shake.py). -/
import Derived.Test.YtnpnablnnfekkaaDoorTcM0
import Derived.Test.YtnpnablnnfekkaaDoorTcM1
import Derived.MapKept
import Derived.Carry
import Derived.OwnWalk
import Derived.Maps.OwnOps
import Derived.Maps.OwnSet
import Derived.Deep.CutBlock
import Derived.Deep.LoopGhost
import Derived.Lib.Walk
import Derived.Lib.SliceRun
import Derived.Shelf.RegionOpenPlain
set_option linter.unusedVariables false
set_option linter.unusedSimpArgs false
namespace Go.Proofs.YtnpnablnnfekkaaDoor.PTr
open Go.RowKit Go.Proofs.YtnpnablnnfekkaaDoor Go.Proofs.YtnpnablnnfekkaaDoorW.PrintWords
def idsL (l : List Nod) : List Int := l.map (·.f0)
def nodeL (l : List Nod) (id : Int) : Option Nod := l.find? fun x => x.f0 = id
def tgts (l : List Nod) (id : Int) : List Int := ((nodeL l id).map fun x => x.f6.map (·.f1)).getD []
def dirL (l : List Nod) (id : Int) : Bool := ((nodeL l id).map fun x => decide (x.f1 = 1)).getD false
def nodeAt (l : List Nod) (last : Int) (i : Nat) : Bool :=
 plainB (rd_T44 l (i : Int)) && decide ((rd_T44 l (i : Int)).f0 ≤ last) && (decide (i = 0) || decide ((rd_T44 l ((i - 1 : Nat) : Int)).f0 < (rd_T44 l (i : Int)).f0))
def nodesOK (l : List Nod) (last : Int) : Bool := (List.range l.length).all (nodeAt l last)
def headOK (l : List Nod) : Bool := decide (l.length ≠ 0) && decide (l.length ≤ 512) && decide ((rd_T44 l 0).f0 = 1) && decide ((rd_T44 l 0).f1 = 1)
def goneThrough (l : List Nod) : Option (List Int) := TG.bfs (idsL l) (tgts l) (dirL l) (l.length + 2) 0 [1]
def reach (l : List Nod) : Int := match goneThrough l with
 | some ks => if ks.length = l.length then 0 else 80
 | none => 80
def chk (l : List Nod) (last : Int) : Int := if headOK l = true then (if nodesOK l last = true then reach l else 80) else 80
theorem rises_of {l : List Nod} {last : Int} (h : nodesOK l last = true) : Rises l := by
 have step : ∀ (i : Nat) (hi : i + 1 < l.length), l[i].f0 < l[i + 1].f0 := by
  intro i hi
  have := List.all_eq_true.1 h (i + 1) (List.mem_range.2 hi)
  unfold nodeAt at this
  simp only [Bool.and_eq_true, Bool.or_eq_true, decide_eq_true_eq] at this
  obtain ⟨_, h2⟩ := this
  rcases h2 with h2 | h2
  ·
   omega
  ·
   rw [Nat.add_sub_cancel, rdN l i (by omega), rdN l (i + 1) hi] at h2; exact h2
 intro i j hi hj hij
 obtain ⟨d, rfl⟩ : ∃ d, j = i + 1 + d := ⟨j - i - 1, by omega⟩
 clear hij
 induction d with
 | zero => exact step i hj
 | succ d ih => exact Int.lt_trans (ih (by omega)) (step (i + 1 + d) (by omega))
theorem rises_nodup {l : List Nod} (h : Rises l) : (idsL l).Nodup := by
 unfold idsL
 rw [List.nodup_iff_pairwise_ne, List.pairwise_iff_getElem]
 intro i j hi hj hij
 have := h i j (by simpa using hi) (by simpa using hj) hij
 simp only [List.getElem_map]
 omega
theorem nodeL_at {l : List Nod} (h : Rises l) (i : Nat) (hi : i < l.length) : nodeL l l[i].f0 = some l[i] := by
 unfold nodeL
 rw [List.find?_eq_some_iff_getElem]
 refine ⟨by simp, i, hi, rfl, fun j hj => ?_⟩
 have := h j i (by omega) hi hj
 simp; omega
theorem tgts_at {l : List Nod} (h : Rises l) (i : Nat) (hi : i < l.length) : tgts l l[i].f0 = l[i].f6.map (·.f1) := by unfold tgts; rw [nodeL_at h i hi]; rfl
theorem dir_at {l : List Nod} (h : Rises l) (i : Nat) (hi : i < l.length) : dirL l l[i].f0 = decide (l[i].f1 = 1) := by unfold dirL; rw [nodeL_at h i hi]; rfl
theorem mem_ids {l : List Nod} {id : Int} : id ∈ idsL l ↔ ∃ x ∈ l, x.f0 = id := by unfold idsL; exact List.mem_map
end Go.Proofs.YtnpnablnnfekkaaDoor.PTr
set_option linter.unusedVariables false
set_option linter.unusedSimpArgs false
namespace Go.Proofs.YtnpnablnnfekkaaDoor
open Go Go.RowKit
open Go.MapKept (Stamped IsKey findNow_spec heap_set stamped_push stamped_modify stamped_empty stamped_erase run_findKey run_checkKey run_setObj_map run_keyThatStays)
def getA {κ α : Type} [DecidableEq κ] : List (κ × α) → κ → Option α
 | [], _ => none
 | p :: r, k => if p.1 = k then some p.2 else getA r k
def putA {κ α : Type} [DecidableEq κ] : List (κ × α) → κ → α → List (κ × α)
 | [], k, v => [(k, v)]
 | p :: r, k, v => if p.1 = k then (k, v) :: r else p :: putA r k v
section
variable {κ α : Type} [DecidableEq κ]
theorem getA_none {l : List (κ × α)} {k : κ} : getA l k = none ↔ k ∉ l.map (·.1) := by
 induction l with
 | nil => simp [getA]
 | cons p r ih =>
  unfold getA
  by_cases h : p.1 = k
  ·
   simp [h]
  ·
   rw [if_neg h, ih]; simp [Ne.symm h]
theorem getA_at {l : List (κ × α)} (hn : (l.map (·.1)).Nodup) {j : Nat} {k : κ} {v : α} (h : l[j]? = some (k, v)) : getA l k = some v := by
 induction l generalizing j with
 | nil => simp at h
 | cons p r ih =>
  rw [List.map_cons, List.nodup_cons] at hn
  unfold getA
  cases j with
  | zero => simp at h; subst h; simp
  | succ j =>
   have h' : r[j]? = some (k, v) := by simpa using h
   have hm : k ∈ r.map (·.1) := List.mem_map.2 ⟨(k, v), List.mem_of_getElem? h', rfl⟩
   rw [if_neg (fun e => hn.1 (by rw [e]; exact hm))]
   exact ih hn.2 h'
theorem putA_none {l : List (κ × α)} {k : κ} (v : α) (h : k ∉ l.map (·.1)) : putA l k v = l ++ [(k, v)] := by
 induction l with
 | nil => rfl
 | cons p r ih =>
  simp only [List.map_cons, List.mem_cons, not_or] at h
  unfold putA
  rw [if_neg (fun e => h.1 e.symm), ih h.2]; rfl
theorem putA_at {l : List (κ × α)} (hn : (l.map (·.1)).Nodup) {j : Nat} {k : κ} {v : α} (u : α) (h : l[j]? = some (k, v)) : putA l k u = l.set j (k, u) := by
 induction l generalizing j with
 | nil => simp at h
 | cons p r ih =>
  rw [List.map_cons, List.nodup_cons] at hn
  unfold putA
  cases j with
  | zero => simp at h; subst h; simp
  | succ j =>
   have h' : r[j]? = some (k, v) := by simpa using h
   have hm : k ∈ r.map (·.1) := List.mem_map.2 ⟨(k, v), List.mem_of_getElem? h', rfl⟩
   rw [if_neg (fun e => hn.1 (by rw [e]; exact hm)), List.set_cons_succ, ih hn.2 h']
theorem getA_put (l : List (κ × α)) (k : κ) (v : α) (k' : κ) : getA (putA l k v) k' = if k = k' then some v else getA l k' := by
 induction l with
 | nil => simp [putA, getA]
 | cons p r ih =>
  unfold putA
  by_cases h : p.1 = k
  ·
   rw [if_pos h]
   simp only [getA, h]
   by_cases h2 : k = k' <;> simp [h2]
  ·
   rw [if_neg h]
   simp only [getA, ih]
   by_cases h2 : p.1 = k'
   ·
    rw [if_pos h2, if_pos h2, if_neg (fun e => h (by rw [h2, e]))]
   ·
    rw [if_neg h2, if_neg h2]
theorem keys_put (l : List (κ × α)) (k : κ) (v : α) : (putA l k v).map (·.1) = if k ∈ l.map (·.1) then l.map (·.1) else l.map (·.1) ++ [k] := by
 induction l with
 | nil => simp [putA]
 | cons p r ih =>
  unfold putA
  by_cases h : p.1 = k
  ·
   simp [h]
  ·
   rw [if_neg h, List.map_cons, ih, List.map_cons]
   by_cases h2 : k ∈ r.map (·.1)
   ·
    rw [if_pos h2, if_pos (List.mem_cons_of_mem _ h2)]
   ·
    rw [if_neg h2, if_neg (by simp only [List.mem_cons, not_or]; exact ⟨fun e => h e.symm, h2⟩)]; rfl
end
/-- block b is a map that reads so; K, E: how keys and what they lead to stand as values -/
def MapA {κ α : Type} (K : κ → Value) (E : α → Value) (w : World) (b : Nat) (l : List (κ × α)) : Prop :=
 ∃ es clock, w.heap[b]? = some (.map es clock) ∧ Stamped es clock ∧ es.toList.map (fun e => (e.key, e.val)) = l.map (fun p => (K p.1, E p.2))
structure KeyA {κ : Type} (P : Program) (kt : TypeId) (d : TypeDesc) (K : κ → Value) : Prop where
 und : P.underlying kt = some d
 isK : ∀ k, IsKey d (K k)
 inj : ∀ k k', K k = K k' → k = k'
section
variable {κ α : Type} {K : κ → Value} {E : α → Value} {w w1 : World} {b : Nat} {l : List (κ × α)} {P : Program} {kt et mt : TypeId} {d : TypeDesc}
theorem MapA.lt (h : MapA K E w b l) : b < w.heap.size := by
 obtain ⟨es, clock, hb, _⟩ := h
 exact (Array.getElem?_eq_some_iff.1 hb).1
theorem MapA.move (h : MapA K E w b l) (hm : w1.heap[b]? = w.heap[b]?) : MapA K E w1 b l := by
 obtain ⟨es, clock, hb, r⟩ := h
 exact ⟨es, clock, hm.trans hb, r⟩
theorem MapA.below (h : MapA K E w b l) (hb : Below w.heap.size w w1) : MapA K E w1 b l := h.move (hb.block b h.lt)
theorem MapA.alloc (h : MapA K E w b l) (o : Obj) : MapA K E (w.alloc o) b l := h.below ((Below.refl _ w).alloc (Nat.le_refl _) o)
theorem MapA.grown (h : MapA K E w b l) {row : Option Nat} (hg : w.grownBy w1 row) (hne : some b ≠ row) : MapA K E w1 b l := h.move (hg.block b h.lt hne)
theorem MapA.setCell (h : MapA K E w b l) {a : Addr} (ha : b ≠ a.block) (u : Value) : MapA K E (w.setCell a u) b l := h.move (Below.heap_setCell w a u b ha)
/-- 'len(m)' -/
theorem MapA.len (h : MapA K E w b l) (hm : P.underlying mt = some (.map kt et)) (ty : TypeId) : (Builtin.len_ #[mt] ty #[.map (some b)]).run P w = .ok (.int .i64 l.length) w := by
 obtain ⟨es, clock, hb, hs, e⟩ := h
 have hl : es.size = l.length := by have := congrArg List.length e; simpa using this
 rw [← hl]
 simp [Builtin.len_, run_underlying hm, Go.MapKept.run_getObj_map hb, goInt, Result.andThen]
theorem MapA.made (w : World) (K : κ → Value) (E : α → Value) : MapA K E (w.alloc (.map #[] 0)) w.heap.size [] := ⟨#[], 0, (Go.MapKept.heap_alloc w _).1, stamped_empty 0, rfl⟩
theorem MapA.nodup (h : MapA K E w b l) : (l.map (·.1)).Nodup := by
 obtain ⟨es, clock, hb, ⟨_, _, hn⟩, e⟩ := h
 have e2 : es.toList.map (·.key) = (l.map (·.1)).map K := by
  have := congrArg (List.map Prod.fst) e
  simpa [List.map_map, Function.comp_def] using this
 rw [e2] at hn
 exact hn.of_map K (fun a b h e => h (by rw [e]))
end
section
variable {κ α : Type} [DecidableEq κ] {K : κ → Value} {E : α → Value} {w w1 : World} {b : Nat} {l : List (κ × α)} {P : Program} {kt et mt : TypeId} {d : TypeDesc}
theorem MapA.find (hK : KeyA P kt d K) {es : Array MapEntry} (hn : (l.map (·.1)).Nodup) (e : es.toList.map (fun e => (e.key, e.val)) = l.map (fun p => (K p.1, E p.2))) (k : κ) :
  (getA l k = none ∧ Instr.findNow d (K k) es.toList 0 = some none ∧ (∀ x ∈ es.toList, x.key ≠ K k)) ∨
  (∃ j x v, getA l k = some v ∧ Instr.findNow d (K k) es.toList 0 = some (some (j, x.val)) ∧ es[j]? = some x ∧ x.key = K k ∧ x.val = E v ∧ l[j]? = some (k, v)) := by
 have hks : ∀ x ∈ es.toList, IsKey d x.key := by
  intro x hx
  have : (x.key, x.val) ∈ es.toList.map (fun e => (e.key, e.val)) := List.mem_map.2 ⟨x, hx, rfl⟩
  rw [e] at this
  obtain ⟨p, _, hp⟩ := List.mem_map.1 this
  have : K p.1 = x.key := congrArg Prod.fst hp
  rw [← this]; exact hK.isK _
 rcases findNow_spec (hK.isK k) es.toList 0 hks with ⟨h1, h2⟩ | ⟨j, x, h1, h2, h3⟩
 ·
  refine .inl ⟨getA_none.2 (fun hm => ?_), h1, h2⟩
  obtain ⟨p, hp, rfl⟩ := List.mem_map.1 hm
  have : (K p.1, E p.2) ∈ l.map (fun p => (K p.1, E p.2)) := List.mem_map.2 ⟨p, hp, rfl⟩
  rw [← e] at this
  obtain ⟨x, hx, he⟩ := List.mem_map.1 this
  exact h2 x hx (congrArg Prod.fst he)
 ·
  have hj : (es.toList.map (fun e => (e.key, e.val)))[j]? = some (x.key, x.val) := by rw [List.getElem?_map, h2]; rfl
  rw [e, List.getElem?_map] at hj
  obtain ⟨p, hp, he⟩ := Option.map_eq_some_iff.1 hj
  have hk : p.1 = k := hK.inj _ _ ((congrArg Prod.fst he).trans h3)
  have hp' : l[j]? = some (k, p.2) := by rw [hp, ← hk]
  exact .inr ⟨j, x, p.2, getA_at hn hp', by rw [h1]; simp, by simpa using h2, h3, (congrArg Prod.snd he).symm, hp'⟩
/-- 'm[k]' and 'v, ok := m[k]' -/
theorem MapA.look (h : MapA K E w b l) (hK : KeyA P kt d K) (hm : P.underlying mt = some (.map kt et)) {z : Value} (hz : (zeroValue et).run P w = .ok z w) (k : κ) (ok : Bool) :
  (Instr.lookup mt (.map (some b)) (K k) ok).run P w = .ok (if ok then .tuple #[(getA l k).elim z E, .bool (getA l k).isSome] else (getA l k).elim z E) w := by
 have hn := h.nodup
 obtain ⟨es, clock, hb, hs, e⟩ := h
 rcases MapA.find hK hn e k with ⟨h1, h2, _⟩ | ⟨j, x, v, h1, h2, _, _, h3, _⟩
 ·
  cases ok <;> simp [Instr.lookup, run_underlying hm, Go.MapKept.run_getObj_map hb, run_checkKey hK.und (hK.isK k), run_findKey hK.und h2, Result.andThen, hz, h1]
 ·
  cases ok <;> simp [Instr.lookup, run_underlying hm, Go.MapKept.run_getObj_map hb, run_checkKey hK.und (hK.isK k), run_findKey hK.und h2, Result.andThen, h1, h3]
/-- 'm[k] = v' -/
theorem MapA.update (h : MapA K E w b l) (hK : KeyA P kt d K) (hm : P.underlying mt = some (.map kt et)) (k : κ) (v : α) :
  ∃ w', (Instr.mapUpdate mt (.map (some b)) (K k) (E v)).run P w = .ok () w' ∧ MapA K E w' b (putA l k v) ∧ w.grownBy w' (some b) := by
 have hn := h.nodup
 obtain ⟨es, clock, hb, hs, e⟩ := h
 rcases MapA.find hK hn e k with ⟨h1, h2, h3⟩ | ⟨j, x, u, h1, h2, hj, hk, h3, hl⟩
 ·
  refine ⟨{ w with heap := w.heap.setIfInBounds b (.map (es.push { key := K k, val := E v, born := clock }) (clock + 1)) }, by simp [Instr.mapUpdate, run_underlying hm, Go.MapKept.run_getObj_map hb, run_checkKey hK.und (hK.isK k), run_findKey hK.und h2, run_setObj_map _ hb, Result.andThen], ⟨_, _, (heap_set hb).1, stamped_push hs h3, ?_⟩, ⟨rfl, rfl, rfl, by simp, fun i _ hi => (heap_set hb).2 i (fun e => hi (by rw [e]))⟩⟩
  rw [Array.toList_push, List.map_append, e, putA_none v (getA_none.1 h1), List.map_append]; rfl
 ·
  have hkey : ∀ e', es[j]? = some e' → ({ e' with key := K k, val := E v } : MapEntry).key = e'.key := fun e' he' => by rw [hj] at he'; cases he'; exact hk.symm
  refine ⟨{ w with heap := w.heap.setIfInBounds b (.map (es.modify j fun e => { e with key := K k, val := E v }) clock) }, by simp [Instr.mapUpdate, run_underlying hm, Go.MapKept.run_getObj_map hb, run_checkKey hK.und (hK.isK k), run_findKey hK.und h2, hj, hk, run_keyThatStays (hK.isK k), run_setObj_map _ hb, Result.andThen], ⟨_, _, (heap_set hb).1, stamped_modify hs _ _ (fun _ _ => rfl) (fun e' _ he' => hkey e' he'), ?_⟩, ⟨rfl, rfl, rfl, by simp, fun i _ hi => (heap_set hb).2 i (fun e => hi (by rw [e]))⟩⟩
  rw [putA_at hn v hl]
  apply List.ext_getElem?
  intro i
  have ei := congrArg (fun l => l[i]?) e
  simp only [List.getElem?_map, Array.getElem?_toList] at ei
  simp only [List.getElem?_map, Array.getElem?_toList, Array.getElem?_modify]
  by_cases hij : j = i
  ·
   subst hij
   rw [List.getElem?_set_self (List.getElem?_eq_some_iff.1 hl).1, hj]; simp
  ·
   rw [List.getElem?_set_ne hij]; simp only [hij, if_false]; exact ei
/-- 'm[k] = v' at the operation -/
theorem mp_put {ops : Array Oper} {rest : List Oper} {o : Oper} {a : Act} {Q : Exit → Act → World → Prop} (hg : o.guard = none) {m x y : Operand} {mt : TypeId} (hop : o.op = Op.mapUpdate mt m x y ∨ o.op = Op.insert mt m x y)
  (h : MapA K E w b l) (hK : KeyA P kt d K) (ht : P.underlying mt = some (.map kt et)) (hm : a.eval m = .map (some b)) (k : κ) (v : α) (hx : a.eval x = K k) (hy : a.eval y = E v)
  (hQ : ∀ w', MapA K E w' b (putA l k v) → w.grownBy w' (some b) → wpList P ops Q rest (a.put o.dst undef) w') : wpList P ops Q (o :: rest) a w := by
 refine wpList_plain hg fun K' hK' => ?_
 obtain ⟨w', hrun, r1, r2⟩ := h.update hK ht k v
 unfold Oper.wp
 rcases hop with hop | hop
 all_goals
  simp [execOp, hop, hm, hx, hy, hrun, Result.andThen]
  exact hK' _ _ (hQ w' r1 r2)
end
end Go.Proofs.YtnpnablnnfekkaaDoor
set_option linter.unusedVariables false
set_option linter.unusedSimpArgs false
namespace Go.Proofs.YtnpnablnnfekkaaDoor
open Go.RowKit Go.Proofs.YtnpnablnnfekkaaDoorW.PrintWords
abbrev MapD := List (Int × Int)
def KI : Int → Value := Value.int .i64
def gI (m : MapD) (k : Int) : Int := (getA m k).getD 0
theorem keyI {P : Program} {t : TypeId} (h : P.underlying t = some (.int .i64)) : KeyA P t (.int .i64) KI := ⟨h, fun _ => rfl, fun a b e => by unfold KI at e; injection e⟩
theorem info3 : (Tryd.prog.info? 3).map (fun i => (i.zero, i.size, i.bytes)) = some (some (.int .i64 0), 1, 8) := by kernel_rfl
theorem zeroI (w : World) : (zeroValue 3).run Tryd.prog w = .ok (.int .i64 0) w := by kernel_rfl
theorem gI_put (m : MapD) (k v : Int) : gI (putA m k v) k = v := by unfold gI; rw [getA_put, if_pos rfl]; rfl
theorem MapA.neC {κ α : Type} {K : κ → Value} {E : α → Value} {w : World} {b g : Nat} {l : List (κ × α)} {cs : Array Value} {t : TypeId} {f : Nat × Nat} (h : MapA K E w b l) (hb : w.heap[g]? = some (.cells cs t f)) : b ≠ g := by
 obtain ⟨es, clock, h, _⟩ := h
 intro e
 subst e
 rw [hb] at h; cases h
theorem MapA.lookI {w : World} {b : Nat} {m : MapD} (h : MapA KI KI w b m) {mt : TypeId} (hm : Tryd.prog.underlying mt = some (.map 3 3)) (hz : ∀ w, (zeroValue 3).run Tryd.prog w = .ok (.int .i64 0) w) (k : Int) :
  (Instr.lookup mt (.map (some b)) (.int .i64 k) false).run Tryd.prog w = .ok (.int .i64 (gI m k)) w := by
 have := h.look (keyI Tryd.underlying3) hm (hz w) k false
 unfold KI at this
 rw [this]
 unfold gI
 cases getA m k <;> rfl
theorem Q_mapped {w w1 : World} {base e gm : Nat} {v : Value} {xs : List Int} {m : MapD} (h : Kd.Q (Kd.int .i64) e w base (fun _ => True) v xs) (hm : MapA KI KI w gm m) (hg : w.grownBy w1 (some gm)) : Kd.Q (Kd.int .i64) e w1 base (fun _ => True) v xs := by
 refine Kd.Q_mono (Kd.Q_grown (Kd.Q_bound h) hg (fun k hk e2 => ?_)) (fun _ _ => trivial)
 obtain ⟨_, _, _, q, _, cells, hc⟩ := hk
 exact hm.neC hc (Option.some.inj e2).symm
theorem Q_neM {w : World} {base e gm : Nat} {ok : Nat → Prop} {v : Value} {xs : List Int} {m : MapD} (h : Kd.Q (Kd.int .i64) e w base ok v xs) (hm : MapA KI KI w gm m) : some gm ≠ v.ownBlock := by
 intro e2
 obtain ⟨_, inner, hq, _⟩ := h
 obtain ⟨_, cells, hc⟩ := q_typed hq gm e2.symm
 exact hm.neC hc rfl
end Go.Proofs.YtnpnablnnfekkaaDoor
set_option linter.unusedVariables false
set_option linter.unusedSimpArgs false
namespace Go.Proofs.YtnpnablnnfekkaaDoor.PTr
open Go.RowKit Go.Proofs.YtnpnablnnfekkaaDoor Go.Proofs.YtnpnablnnfekkaaDoorW.PrintWords
/-- from some number of rounds on -/
def Evt {α : Type} (g : Nat → Option α) (r : α) : Prop := ∃ K, ∀ k, K ≤ k → g k = some r
theorem Evt.succ {α : Type} {g h : Nat → Option α} {r : α} (K : Nat) (he : ∀ k, K ≤ k → g (k + 1) = h k) (hh : Evt h r) : Evt g r := by
 obtain ⟨K2, hK⟩ := hh
 refine ⟨K + K2 + 1, fun k hk => ?_⟩
 obtain ⟨k, rfl⟩ : ∃ j, k = j + 1 := ⟨k - 1, by omega⟩
 rw [he k (by omega), hK k (by omega)]
theorem Evt.const {α : Type} {g : Nat → Option α} {r : α} (K : Nat) (he : ∀ k, K ≤ k → g (k + 1) = some r) : Evt g r := by
 refine ⟨K + 1, fun k hk => ?_⟩
 obtain ⟨k, rfl⟩ : ∃ j, k = j + 1 := ⟨k - 1, by omega⟩
 exact he k (by omega)
theorem evt_of_mono {α : Type} {g : Nat → Option α} {r : α} (hm : ∀ k, LeO (g k) (g (k + 1))) {k : Nat} (h : g k = some r) : Evt g r := by
 refine ⟨k, fun j hj => ?_⟩
 obtain ⟨d, rfl⟩ : ∃ d, j = k + d := ⟨j - k, by omega⟩
 clear hj
 induction d with
 | zero => exact h
 | succ d ih => exact hm (k + d) r ih
theorem place_in (l : List Nod) (a1 a2 a3 : Int) (hl : l.length ≤ 5864062014805) (hr : Rises l) (t : Nat) (ht : t < l.length) : Evt (fun k => tree_place.f k l a1 a2 a3 l[t].f0) ((t : Int), true) := by
 refine ⟨l.length + 1, fun k hk => ?_⟩
 obtain ⟨r, b, h1, h2, h3⟩ := place_any l a1 a2 a3 l[t].f0 hl hr k (by omega)
 cases b with
 | false => exact absurd rfl (h3 rfl l[t] (List.getElem_mem ht))
 | true =>
  obtain ⟨hrl, he⟩ := h2 rfl
  have : r = t := by
   rcases Nat.lt_trichotomy r t with h | h | h
   ·
    have := hr r t hrl ht h; omega
   ·
    exact h
   ·
    have := hr t r ht hrl h; omega
  subst this
  exact h1
theorem place_out (l : List Nod) (a1 a2 a3 id : Int) (hl : l.length ≤ 5864062014805) (hr : Rises l) (h : id ∉ idsL l) : ∃ r : Int, Evt (fun k => tree_place.f k l a1 a2 a3 id) (r, false) := by
 obtain ⟨r, b, h1, h2, h3⟩ := place_any l a1 a2 a3 id hl hr (l.length + 1) (by omega)
 cases b with
 | true =>
  obtain ⟨hrl, he⟩ := h2 rfl
  exact absurd (mem_ids.2 ⟨_, List.getElem_mem hrl, he⟩) h
 | false => exact ⟨r, evt_of_mono (fun k => tree_place.mono _ _ _ _ _ _) h1⟩
theorem gI_zero {m : MapD} {k : Int} : k ∉ m.map (·.1) → gI m k = 0 := fun h => by unfold gI; rw [getA_none.2 h]; rfl
def outcome (l : List Nod) (o : Option (List Int)) : Int := match o with
 | some ks => if ks.length = l.length then 0 else 80
 | none => 80
end Go.Proofs.YtnpnablnnfekkaaDoor.PTr
set_option linter.unusedVariables false
set_option linter.unusedSimpArgs false
namespace Go.Proofs.YtnpnablnnfekkaaDoor.PTr
open Go.RowKit Go.Proofs.YtnpnablnnfekkaaDoor Go.Proofs.YtnpnablnnfekkaaDoorW.PrintWords
/-- no text, no list too great for any machine -/
def Bd (l : List Nod) : Prop := ∀ x ∈ l, x.f5.size ≤ 140737488351232 ∧ x.f6.length ≤ 140737488351232 ∧ ∀ e ∈ x.f6, e.f0.size ≤ 140737488351232
/-- how many entries lead to a node -/
def lk (l : List Nod) (id : Int) : Nat := (l.map fun x => (x.f6.map (·.f1)).count id).sum
/-- the way, with the paths -/
def wayP (l : List Nod) : Nat → List (Int × List UInt8) → Int → List UInt8 → List (Int × List UInt8)
 | 0, acc, _, _ => acc
 | k + 1, acc, id, p => if id ∈ acc.map (·.1) then acc else match nodeL l id with
  | none => acc
  | some x => x.f6.foldl (fun a e => wayP l k a e.f1 (joinP p e.f0.data.toList)) (acc ++ [(id, p)])
theorem joinP_len (d s : List UInt8) : (joinP d s).length ≤ d.length + 1 + s.length := by
 have := trimR_length d
 unfold joinP
 simp only [List.length_append, List.length_cons]; omega
theorem way_grows (l : List Nod) (k : Nat) : ∀ (acc : List (Int × List UInt8)) (id : Int) (p : List UInt8), ∃ t, wayP l k acc id p = acc ++ t := by
 induction k with
 | zero => intro acc id p; exact ⟨[], by simp [wayP]⟩
 | succ k ih =>
  intro acc id p
  unfold wayP
  split
  ·
   exact ⟨[], by simp⟩
  ·
   split
   ·
    exact ⟨[], by simp⟩
   ·
    rename_i x _
    have fold : ∀ (es : List Ent) (a : List (Int × List UInt8)), ∃ t, es.foldl (fun a e => wayP l k a e.f1 (joinP p e.f0.data.toList)) a = a ++ t := by
     intro es
     induction es with
     | nil => intro a; exact ⟨[], by simp⟩
     | cons e r ihr =>
      intro a
      obtain ⟨t, ht⟩ := ih a e.f1 (joinP p e.f0.data.toList)
      obtain ⟨u, hu⟩ := ihr (wayP l k a e.f1 (joinP p e.f0.data.toList))
      rw [List.foldl_cons, hu, ht]
      exact ⟨t ++ u, by rw [List.append_assoc]⟩
    obtain ⟨t, ht⟩ := fold x.f6 (acc ++ [(id, p)])
    rw [ht]
    exact ⟨[(id, p)] ++ t, by rw [List.append_assoc]⟩
theorem way_map (l : List Nod) (k : Nat) : ∀ (acc : List (Int × List UInt8)) (id : Int) (p : List UInt8), (wayP l k acc id p).map (·.1) = TG.way (idsL l) (tgts l) k (acc.map (·.1)) id := by
 induction k with
 | zero => intro acc id p; rfl
 | succ k ih =>
  intro acc id p
  unfold wayP TG.way
  by_cases hm : id ∈ acc.map (·.1)
  ·
   rw [if_pos hm, if_pos hm]
  ·
   rw [if_neg hm, if_neg hm]
   have fold : ∀ (es : List Ent) (a : List (Int × List UInt8)), (es.foldl (fun a e => wayP l k a e.f1 (joinP p e.f0.data.toList)) a).map (·.1) = (es.map (·.f1)).foldl (TG.way (idsL l) (tgts l) k) (a.map (·.1)) := by
    intro es
    induction es with
    | nil => intro a; rfl
    | cons e r ihr =>
     intro a
     rw [List.foldl_cons, ihr, ih, List.map_cons, List.foldl_cons]
   cases hn : nodeL l id with
   | none =>
    have : id ∉ idsL l := fun h => by
     obtain ⟨x, hx, he⟩ := mem_ids.1 h
     unfold nodeL at hn
     rw [List.find?_eq_none] at hn
     have := hn x hx
     simp [he] at this
    rw [if_neg this]
   | some x =>
    have hx : id ∈ idsL l := by
     unfold nodeL at hn
     have h1 := List.mem_of_find?_eq_some hn
     have h2 := List.find?_some hn
     exact mem_ids.2 ⟨x, h1, by simpa using h2⟩
    rw [if_pos hx]
    simp only []
    rw [fold, List.map_append]
    have : tgts l id = x.f6.map (·.f1) := by unfold tgts; rw [hn]; rfl
    rw [this]; rfl
end Go.Proofs.YtnpnablnnfekkaaDoor.PTr
set_option linter.unusedVariables false
set_option linter.unusedSimpArgs false
namespace Go.Proofs.YtnpnablnnfekkaaDoor.PTr
open Go.RowKit Go.Proofs.YtnpnablnnfekkaaDoor Go.Proofs.YtnpnablnnfekkaaDoorW.PrintWords
theorem Evt.bind {α β : Type} {g : Nat → Option β} {p : Nat → Option α} {q : Nat → α → Option β} {x : α} {r : β} (he : ∀ k, g (k + 1) = (p k).bind (q k)) (hp : Evt p x) (hq : Evt (fun k => q k x) r) : Evt g r := by
 obtain ⟨K, hK⟩ := hp
 exact Evt.succ K (fun k hk => by rw [he, hK k hk, Option.bind_some]) hq
def tgOK (l : List Nod) (i : Nat) : Bool := ((rd_T44 l (i : Int)).f6).all fun e => decide (e.f1 ∈ idsL l)
def lkOK (l : List Nod) (i : Nat) : Bool := if i = 0 then decide (lk l (rd_T44 l 0).f0 = 0) else decide (lk l (rd_T44 l (i : Int)).f0 ≠ 0) && (decide ((rd_T44 l (i : Int)).f1 ≠ 1) || decide (lk l (rd_T44 l (i : Int)).f0 ≤ 1))
def refR (l : List Nod) : Int := if ((List.range l.length).all (lkOK l)) = true then (if (wayP l (l.length + 1) [] 1 [47]).length = l.length then 0 else 80) else 80
def chkR (l : List Nod) (last : Int) : Int := if headOK l = true then (if nodesOK l last = true ∧ ((List.range l.length).all (tgOK l)) = true then refR l else 80) else 80
/-- targets -/
theorem names64 {l : List Nod} {a1 : Int} (h : nodesOK l a1 = true) : ∀ x ∈ l, ∀ e ∈ x.f6, e.f0.size ≤ 64 := by
 intro x hx e he
 obtain ⟨i, hi, rfl⟩ := List.getElem_of_mem hx
 have h1 := List.all_eq_true.1 h i (List.mem_range.2 hi)
 unfold nodeAt at h1
 rw [rdN l i hi] at h1
 simp only [Bool.and_eq_true] at h1
 have h2 := h1.1.1
 unfold plainB at h2
 simp only [Bool.and_eq_true] at h2
 have h3 := h2.2
 have hpos : 0 < l[i].f6.length := List.length_pos_of_mem he
 split at h3
 ·
  simp only [Bool.and_eq_true] at h3
  obtain ⟨q, hq, rfl⟩ := List.getElem_of_mem he
  have h4 := List.all_eq_true.1 h3.2 q (List.mem_range.2 hq)
  unfold entAt at h4
  rw [rdE _ q hq] at h4
  simp only [Bool.and_eq_true] at h4
  have h5 := h4.1
  unfold nameB at h5
  simp only [Bool.and_eq_true, decide_eq_true_eq] at h5
  have h6 := h5.1.1.2
  rw [Array.length_toList] at h6
  exact h6
 ·
  split at h3
  ·
   simp only [Bool.and_eq_true, decide_eq_true_eq] at h3; omega
  ·
   split at h3
   ·
    simp only [Bool.and_eq_true, decide_eq_true_eq] at h3; omega
   ·
    cases h3
end Go.Proofs.YtnpnablnnfekkaaDoor.PTr
set_option linter.unusedVariables false
set_option linter.unusedSimpArgs false
namespace Go.Proofs.YtnpnablnnfekkaaDoor.PTr
open Go.RowKit Go.Proofs.YtnpnablnnfekkaaDoor Go.Proofs.YtnpnablnnfekkaaDoorW.PrintWords
theorem lk_cnt {l : List Nod} (hr : Rises l) (id : Int) : TG.cnt (tgts l) (idsL l) id = lk l id := by
 unfold TG.cnt lk idsL
 rw [List.map_map]
 congr 1
 apply List.map_congr_left
 intro x hx
 obtain ⟨i, hi, rfl⟩ := List.getElem_of_mem hx
 show (tgts l l[i].f0).count id = _
 rw [tgts_at hr i hi]
theorem head_facts {l : List Nod} (h : headOK l = true) : 0 < l.length ∧ l.length ≤ 512 ∧ (rd_T44 l 0).f0 = 1 ∧ (rd_T44 l 0).f1 = 1 := by
 unfold headOK at h
 simp only [Bool.and_eq_true, decide_eq_true_eq] at h
 exact ⟨by omega, h.1.1.2, h.1.2, h.2⟩
theorem one_in {l : List Nod} (h : headOK l = true) : ∃ h0 : 0 < l.length, l[0].f0 = 1 ∧ l[0].f1 = 1 := by
 obtain ⟨h0, _, h2, h3⟩ := head_facts h
 rw [show (0 : Int) = ((0 : Nat) : Int) from rfl, rdN l 0 h0] at h2 h3
 exact ⟨h0, h2, h3⟩
def TG_ref (l : List Nod) : Prop := TG.refOK (idsL l) (tgts l) (dirL l) (l.length + 1)
theorem refs_iff {l : List Nod} (hh : headOK l = true) (hr : Rises l) : TG_ref l ↔ (((List.range l.length).all (tgOK l)) = true ∧ ((List.range l.length).all (lkOK l)) = true ∧ (wayP l (l.length + 1) [] 1 [47]).length = l.length) := by
 obtain ⟨h0, h1, h2⟩ := one_in hh
 have hidl : (idsL l).length = l.length := by unfold idsL; rw [List.length_map]
 have hw : (wayP l (l.length + 1) [] 1 [47]).length = (TG.way (idsL l) (tgts l) (l.length + 1) [] 1).length := by
  have := congrArg List.length (way_map l (l.length + 1) [] 1 [47])
  rw [List.length_map] at this
  exact this
 unfold TG_ref TG.refOK
 rw [hw, hidl]
 have htg : (∀ x ∈ idsL l, ∀ e ∈ tgts l x, e ∈ idsL l) ↔ ((List.range l.length).all (tgOK l)) = true := by
  rw [List.all_eq_true]
  constructor
  ·
   intro h i hi
   have hi := List.mem_range.1 hi
   unfold tgOK
   rw [rdN l i hi, List.all_eq_true]
   intro e he
   refine decide_eq_true (h l[i].f0 (mem_ids.2 ⟨_, List.getElem_mem hi, rfl⟩) e.f1 ?_)
   rw [tgts_at hr i hi]
   exact List.mem_map.2 ⟨e, he, rfl⟩
  ·
   intro h x hx e he
   obtain ⟨y, hy, rfl⟩ := mem_ids.1 hx
   obtain ⟨i, hi, rfl⟩ := List.getElem_of_mem hy
   rw [tgts_at hr i hi] at he
   obtain ⟨z, hz, rfl⟩ := List.mem_map.1 he
   have := h i (List.mem_range.2 hi)
   unfold tgOK at this
   rw [rdN l i hi, List.all_eq_true] at this
   exact of_decide_eq_true (this z hz)
 have hlk : (TG.cnt (tgts l) (idsL l) 1 = 0 ∧ (∀ x ∈ idsL l, x ≠ 1 → 0 < TG.cnt (tgts l) (idsL l) x) ∧ (∀ x ∈ idsL l, dirL l x = true → TG.cnt (tgts l) (idsL l) x ≤ 1)) ↔ ((List.range l.length).all (lkOK l)) = true := by
  simp only [lk_cnt hr]
  rw [List.all_eq_true]
  constructor
  ·
   rintro ⟨g1, g2, g3⟩ i hi
   have hi := List.mem_range.1 hi
   unfold lkOK
   split
   ·
    rename_i hz
    subst hz
    rw [show (0 : Int) = ((0 : Nat) : Int) from rfl, rdN l 0 hi, h1]
    exact decide_eq_true g1
   ·
    rename_i hz
    rw [rdN l i hi]
    have hm := mem_ids.2 ⟨_, List.getElem_mem hi, rfl⟩
    have hlt := hr 0 i h0 hi (by omega)
    have a1 := g2 l[i].f0 hm (by omega)
    rw [decide_eq_true (show lk l l[i].f0 ≠ 0 by omega), Bool.true_and]
    by_cases hd : l[i].f1 = 1
    ·
     have := g3 l[i].f0 hm (by rw [dir_at hr i hi]; exact decide_eq_true hd)
     rw [decide_eq_true this, Bool.or_true]
    ·
     rw [decide_eq_true (show l[i].f1 ≠ 1 from hd), Bool.true_or]
  ·
   intro h
   have k0 := h 0 (List.mem_range.2 h0)
   unfold lkOK at k0
   rw [if_pos rfl, show (0 : Int) = ((0 : Nat) : Int) from rfl, rdN l 0 h0, h1] at k0
   have k0 := of_decide_eq_true k0
   refine ⟨k0, fun x hx hx1 => ?_, fun x hx hd => ?_⟩
   ·
    obtain ⟨y, hy, rfl⟩ := mem_ids.1 hx
    obtain ⟨i, hi, rfl⟩ := List.getElem_of_mem hy
    have := h i (List.mem_range.2 hi)
    unfold lkOK at this
    rw [if_neg (fun e => by subst e; exact hx1 h1), rdN l i hi] at this
    simp only [Bool.and_eq_true, decide_eq_true_eq] at this
    omega
   ·
    obtain ⟨y, hy, rfl⟩ := mem_ids.1 hx
    obtain ⟨i, hi, rfl⟩ := List.getElem_of_mem hy
    rw [dir_at hr i hi] at hd
    have hd := of_decide_eq_true hd
    by_cases hz : i = 0
    ·
     subst hz; rw [h1]; have k0' : lk l 1 = 0 := k0; omega
    ·
     have := h i (List.mem_range.2 hi)
     unfold lkOK at this
     rw [if_neg hz, rdN l i hi] at this
     simp only [Bool.and_eq_true, Bool.or_eq_true, decide_eq_true_eq] at this
     rcases this.2 with g | g
     ·
      exact absurd hd g
     ·
      exact g
 constructor
 ·
  rintro ⟨g1, g2, g3, g4, g5⟩
  exact ⟨htg.1 g1, hlk.1 ⟨g2, g3, g4⟩, g5⟩
 ·
  rintro ⟨g1, g2, g3⟩
  obtain ⟨k1, k2, k3⟩ := hlk.2 g2
  exact ⟨htg.2 g1, k1, k2, k3, g3⟩
theorem reach_zero {l : List Nod} (hh : headOK l = true) (hr : Rises l) : reach l = 0 ↔ TG_ref l := by
 obtain ⟨h0, h1, h2⟩ := one_in hh
 have hidl : (idsL l).length = l.length := by unfold idsL; rw [List.length_map]
 have hn := rises_nodup hr
 have hi1 : (1 : Int) ∈ idsL l := mem_ids.2 ⟨l[0], List.getElem_mem h0, h1⟩
 have hd1 : dirL l 1 = true := by rw [← h1, dir_at hr 0 h0]; exact decide_eq_true h2
 unfold reach goneThrough TG_ref
 constructor
 ·
  intro h
  split at h
  ·
   rename_i ks hk
   split at h
   ·
    rename_i hl
    exact TG.ref_of_prog _ _ _ hn hi1 hd1 _ _ ks hk (by omega) (by omega)
   ·
    omega
  ·
   omega
 ·
  intro h
  obtain ⟨ks, hk, hl⟩ := TG.prog_of_ref _ _ _ hn hi1 (l.length + 2) (l.length + 1) (by omega) h
  rw [hk]
  simp only []
  rw [if_pos (by omega)]
theorem reach_two (l : List Nod) : reach l = 0 ∨ reach l = 80 := by
 unfold reach
 split
 ·
  split
  ·
   exact .inl rfl
  ·
   exact .inr rfl
 ·
  exact .inr rfl
theorem chk_same (l : List Nod) (last : Int) : chkR l last = chk l last := by
 unfold chk chkR
 by_cases hh : headOK l = true
 ·
  rw [if_pos hh, if_pos hh]
  by_cases hk : nodesOK l last = true
  ·
   rw [if_pos hk]
   have hr := rises_of hk
   have hi := refs_iff hh hr
   have hz := reach_zero hh hr
   by_cases ht : ((List.range l.length).all (tgOK l)) = true
   ·
    rw [if_pos ⟨hk, ht⟩]
    unfold refR
    by_cases hl : ((List.range l.length).all (lkOK l)) = true
    ·
     rw [if_pos hl]
     by_cases hw : (wayP l (l.length + 1) [] 1 [47]).length = l.length
     ·
      rw [if_pos hw, hz.2 (hi.2 ⟨ht, hl, hw⟩)]
     ·
      rw [if_neg hw]
      rcases reach_two l with h | h
      ·
       exact absurd (hi.1 (hz.1 h)).2.2 hw
      ·
       exact h.symm
    ·
     rw [if_neg hl]
     rcases reach_two l with h | h
     ·
      exact absurd (hi.1 (hz.1 h)).2.1 hl
     ·
      exact h.symm
   ·
    rw [if_neg (fun h => ht h.2)]
    rcases reach_two l with h | h
    ·
     exact absurd (hi.1 (hz.1 h)).1 ht
    ·
     exact h.symm
  ·
   rw [if_neg hk, if_neg (fun h => hk h.1)]
 ·
  rw [if_neg hh, if_neg hh]
end Go.Proofs.YtnpnablnnfekkaaDoor.PTr
set_option linter.unusedVariables false
set_option linter.unusedSimpArgs false
namespace Go.Proofs.YtnpnablnnfekkaaDoor.PTr
open Go.RowKit Go.Proofs.YtnpnablnnfekkaaDoor Go.Proofs.YtnpnablnnfekkaaDoorW.PrintWords Go.Proofs.YtnpnablnnfekkaaDoorW.PrintLast Go.Proofs.YtnpnablnnfekkaaDoorW.PrintMore
def KS : ByteArray → Value := Value.string
def toP (q : Int × List UInt8) : Int × ByteArray := (q.1, asB q.2)
structure WSt (w0 w : World) (gw gm : Nat) (N : Value) (b1 b2 b3 : Int) (ids : List Int) (acc : List (Int × ByteArray)) (v : Value) : Prop where
 hb : Below w0.heap.size w0 w
 bk : w.heap[gw]? = some (.cells #[N, .int .i64 b1, .int .i64 b2, .int .i64 b3, v, .map (some gm)] 83 (0, 0))
 ge : w0.heap.size ≤ gw
 gem : w0.heap.size ≤ gm
 q : Kd.Q (Kd.int .i64) 3 w w0.heap.size (fun _ => True) v ids
 mp : MapA KI KS w gm acc
theorem WSt.below {w0 w w' : World} {gw gm : Nat} {N : Value} {b1 b2 b3 : Int} {ids : List Int} {acc : List (Int × ByteArray)} {v : Value} (h : WSt w0 w gw gm N b1 b2 b3 ids acc v) (hb : Below w.heap.size w w') : WSt w0 w' gw gm N b1 b2 b3 ids acc v :=
 ⟨below_step h.hb hb, blk_below h.bk hb, h.ge, h.gem, Kd.Q_below h.q hb, h.mp.below hb⟩
theorem WSt.update {w0 w w' : World} {gw gm : Nat} {N : Value} {b1 b2 b3 : Int} {ids : List Int} {acc acc' : List (Int × ByteArray)} {v : Value} (h : WSt w0 w gw gm N b1 b2 b3 ids acc v) (hm : MapA KI KS w' gm acc') (hg : w.grownBy w' (some gm)) : WSt w0 w' gw gm N b1 b2 b3 ids acc' v :=
 ⟨h.hb.grown hg (below_size h.hb) (fun k hk => by cases hk; exact h.gem), blk_grown h.bk hg (fun e => MapA.neC h.mp h.bk (Option.some.inj e).symm), h.ge, h.gem,
 Kd.Q_mono (Kd.Q_grown (Kd.Q_bound h.q) hg (fun k hk e2 => by obtain ⟨_, _, _, q, _, cells, hc⟩ := hk; exact h.mp.neC hc (Option.some.inj e2).symm)) (fun _ _ => trivial), hm⟩
theorem WSt.neM {w0 w : World} {gw gm : Nat} {N : Value} {b1 b2 b3 : Int} {ids : List Int} {acc : List (Int × ByteArray)} {v : Value} (h : WSt w0 w gw gm N b1 b2 b3 ids acc v) : some gm ≠ v.ownBlock := by
 intro e2
 obtain ⟨_, inner, hq, _⟩ := h.q
 obtain ⟨_, cells, hc⟩ := q_typed hq gm e2.symm
 exact h.mp.neC hc rfl
theorem WSt.stored {w0 w w1 : World} {gw gm : Nat} {N : Value} {b1 b2 b3 : Int} {ids ids' : List Int} {acc : List (Int × ByteArray)} {v v1 : Value} (h : WSt w0 w gw gm N b1 b2 b3 ids acc v) (ho : Kd.Q (Kd.int .i64) 3 w1 w0.heap.size (fun _ => True) v1 ids') (hb : Below w0.heap.size w0 w1) (hg : w.grownBy w1 v.ownBlock) :
  WSt w0 (w1.setCell ⟨gw, 4, none⟩ v1) gw gm N b1 b2 b3 ids' acc v1 := by
 have bk1 := blk_grown h.bk hg (Kd.Q_ne h.q h.bk (by decide))
 have m1 := MapA.grown h.mp hg h.neM
 exact ⟨below_set hb h.ge, blk_put bk1 4 v1 rfl, h.ge, h.gem, Kd.Q_mono (Kd.Q_far (p := ⟨gw, 4, none⟩) (Kd.Q_types ho bk1 (by decide)) (fun _ hk => hk.2) v1) (fun _ h_ => h_.1), m1.setCell (m1.neC bk1) v1⟩
theorem lookS {w : World} {b : Nat} {m : List (Int × ByteArray)} (h : MapA KI KS w b m) {mt : TypeId} (hm : Tryd.prog.underlying mt = some (.map 3 9)) (hz : ∀ w, (zeroValue 9).run Tryd.prog w = .ok (.string ⟨#[]⟩) w) (k : Int) :
  (Instr.lookup mt (.map (some b)) (.int .i64 k) true).run Tryd.prog w = .ok (.tuple #[.string ((getA m k).getD ⟨#[]⟩), .bool (getA m k).isSome]) w := by
 have := h.look (keyI Tryd.underlying3) hm (hz w) k true
 unfold KI KS at this
 rw [this]
 cases getA m k <;> rfl
theorem zeroS (w : World) : (zeroValue 9).run Tryd.prog w = .ok (.string ⟨#[]⟩) w := by kernel_rfl
theorem isSome_iff {m : List (Int × ByteArray)} {k : Int} : (getA m k).isSome = true ↔ k ∈ m.map (·.1) := by
 rw [← Decidable.not_iff_not, ← getA_none (l := m)]
 cases getA m k <;> simp
theorem map_toP (acc : List (Int × List UInt8)) : (acc.map toP).map (·.1) = acc.map (·.1) := by rw [List.map_map]; rfl
set_option maxHeartbeats 8000000 in
set_option maxRecDepth 100000 in
theorem walk_any (l : List Nod) (A : Option Addr) (c : Nat) (a1 a2 a3 : Int) (w0 : World) (hr0 : Kd.C k44 w0 A l.length l) (hc00 : l.length ≤ c) (hl : l.length ≤ 512) (hr : Rises l) (hcl : ∀ x ∈ l, ∀ e ∈ x.f6, e.f1 ∈ idsL l)
  (hb : ∀ x ∈ l, x.f6.length ≤ 140737488351232) (hN : ∀ x ∈ l, ∀ e ∈ x.f6, e.f0.size ≤ 64) (gw gm : Nat) :
  ∀ (F : Nat) (acc : List (Int × List UInt8)) (id : Int) (p : List UInt8) (v : Value) (w : World), (acc.map (·.1)).Nodup → (∀ x ∈ acc.map (·.1), x ∈ idsL l) → id ∈ idsL l → l.length < F + acc.length → p.length ≤ 1 + 65 * acc.length →
   WSt w0 w gw gm (.slice A l.length c) a1 a2 a3 (acc.map (·.1)) (acc.map toP) v →
   Calls Tryd.prog 82 #[.pointer (some ⟨gw, 0, none⟩), .int .i64 id, .string (asB p)] w fun e w' => e = .returned (.tuple #[]) ∧ ∃ v', WSt w0 w' gw gm (.slice A l.length c) a1 a2 a3 ((wayP l F acc id p).map (·.1)) ((wayP l F acc id p).map toP) v' := by
 intro F
 induction F with
 | zero =>
  intro acc id p v w hnd hs hid hlen _ _
  exfalso
  have := TG.len_le _ _ hnd hs
  unfold idsL at this
  simp only [List.length_map] at this
  omega
 | succ F ih =>
  intro acc id p v w hnd hs hid hlen hp hst
  have HST := Lib.hid hst
  have hc0 : w.cell? ⟨gw, 0, none⟩ = some (.slice A l.length c) := (blk_cell hst.bk 0).trans rfl
  have hc1 : w.cell? ⟨gw, 1, none⟩ = some (.int .i64 a1) := (blk_cell hst.bk 1).trans rfl
  have hc2 : w.cell? ⟨gw, 2, none⟩ = some (.int .i64 a2) := (blk_cell hst.bk 2).trans rfl
  have hc3 : w.cell? ⟨gw, 3, none⟩ = some (.int .i64 a3) := (blk_cell hst.bk 3).trans rfl
  have hc4 : w.cell? ⟨gw, 4, none⟩ = some v := (blk_cell hst.bk 4).trans rfl
  have hc5 : w.cell? ⟨gw, 5, none⟩ = some (.map (some gm)) := (blk_cell hst.bk 5).trans rfl
  have hlk := lookS hst.mp Tryd.underlying81 zeroS id
  have HH := Lib.hid (And.intro hnd (And.intro hs (And.intro hid (And.intro hlen hp))))
  by_cases hm : id ∈ acc.map (·.1)
  ·
   as_aux_lemma =>
   have hw : wayP l (F + 1) acc id p = acc := by unfold wayP; rw [if_pos hm]
   have hsm : (getA (acc.map toP) id).isSome = true := isSome_iff.2 (by rw [map_toP]; exact hm)
   rw [hsm] at hlk
   have HW := Lib.hid hw
   clear hw hst hnd hs hid hlen hp hm hsm
   go_enter Tryd.func82, Tryd.ntmps82
   go_wp2
   (try simp only [Exit.inBlock, Exit.then])
   refine bodyPost_ret (results_none rfl _ _ _) rfl ?_
   exact ⟨rfl, v, by rw [HW.out]; exact HST.out⟩
  ·
   as_aux_lemma =>
   have hsm : (getA (acc.map toP) id).isSome = false := Bool.eq_false_iff.2 (fun h => hm (by have := isSome_iff.1 h; rwa [map_toP] at this))
   rw [hsm] at hlk
   obtain ⟨x, hx, hxe⟩ := mem_ids.1 hid
   obtain ⟨t, ht, rfl⟩ := List.getElem_of_mem hx
   obtain ⟨K, hK⟩ := place_in l a1 a2 a3 (by omega) hr t ht
   rw [hxe] at hK
   have HPL := Lib.hid (hK K (Nat.le_refl _))
   obtain ⟨x, hxt⟩ : ∃ x, l[t] = x := ⟨_, rfl⟩
   have hrd : rd_T44 l (t : Int) = x := (rdN l t ht).trans hxt
   have hxl : x ∈ l := hxt ▸ hx
   rw [hxt] at hxe
   have hw : wayP l (F + 1) acc id p = x.f6.foldl (fun a e => wayP l F a e.f1 (joinP p e.f0.data.toList)) (acc ++ [(id, p)]) := by
    conv => lhs; unfold wayP
    rw [if_neg hm, ← hxe, ← hxt, nodeL_at hr t ht, hxt]
   have HW := Lib.hid hw
   have HM := Lib.hid hm
   have HT := Lib.hid ht
   have HX := Lib.hid (And.intro hxe (And.intro hrd (And.intro (hcl x hxl) (And.intro (hb x hxl) (hN x hxl)))))
   have t0 : decide (0 ≤ (t : Int)) = true := decide_eq_true (by omega)
   have t1 : decide ((t : Int) < (l.length : Int)) = true := decide_eq_true (by omega)
   have HR0 := Lib.hid hr0
   have HC0 := Lib.hid hc00
   have hput : putA (acc.map toP) id (asB p) = (acc ++ [(id, p)]).map toP := by rw [putA_none _ (by rw [map_toP]; exact hm), List.map_append]; rfl
   have HPT := Lib.hid hput
   have hlen3 : acc.length ≤ 512 := by
    have := TG.len_le _ _ hnd hs
    unfold idsL at this
    simp only [List.length_map] at this
    omega
   have HL3 := Lib.hid hlen3
   clear hw hst hnd hs hid hlen hp hm hsm hx hxe hK hput hlen3 hxt hrd hxl ht
   go_enter Tryd.func82, Tryd.ntmps82
   go_upto_region 4 with (first | (refine mp_put rfl (Or.inl rfl) HST.out.mp (keyI Tryd.underlying3) Tryd.underlying81 rfl id (asB p) (by rfl) (by rfl) ?_; intro wM hM1 hgM; have HST1 := Lib.hid (HST.out.update hM1 hgM); clear hM1 hgM; have hm4 : wM.cell? ⟨gw, 4, none⟩ = some v := (blk_cell HST1.out.bk 4).trans rfl) | ((with_reducible refine gate_builtin (b := .append) (xs := #[.tmp 32, .tmp 34]) rfl ?_); (try (refine gate_guard (by rfl) ?_; dsimp only)); at_builtin; refine Kd.Q_append (Kd.int .i64) (w0 := w0) w0.heap.size rfl (.tmp 32) (.tmp 34) 76 3 (.int .i64 0) 8 rfl Tryd.underlying76 info3 rfl (by decide) (by omega) v (acc.map (·.1)) id [.int .i64 id] (fun _ => True) (fun _ => False) rfl rfl ?aP (fun _ hk => hk.elim) (fun _ _ => trivial) HST1.out.q HST1.out.hb (below_size HST1.out.hb) ?aL ?_; (case aP => exact rfl); (case aL => have := HL3.out; rw [List.length_map]; omega); intro v1 w1 ho hb1 hg1 _; obtain ⟨Ao1, co1, eo1, _⟩ := Kd.Q_slice ho; rw [List.length_append, List.length_map, List.length_singleton] at eo1; subst eo1; have HST2 := Lib.hid (HST1.out.stored ho hb1 hg1); have hn4 : w1.cell? ⟨gw, 4, none⟩ = some v := (blk_cell (blk_grown HST1.out.bk hg1 (Kd.Q_ne HST1.out.q HST1.out.bk (by decide))) 4).trans rfl; have hf4 := blk_frozen (blk_grown HST1.out.bk hg1 (Kd.Q_ne HST1.out.q HST1.out.bk (by decide))) 4; clear ho hb1 hg1))
   (try simp only [Act.put, List.setIfInBounds_toArray, List.set_cons_zero, List.set_cons_succ])
   generalize w1.setCell _ _ = w2 at HST2 ⊢
   rw [HPT.out] at HST2
   clear hn4 hf4 hm4 hlk HST HST1 hc0 hc1 hc2 hc3 hc5
   have hc0 : w2.cell? ⟨gw, 0, none⟩ = some (.slice A l.length c) := (blk_cell HST2.out.bk 0).trans rfl
   have hc1 : w2.cell? ⟨gw, 1, none⟩ = some (.int .i64 a1) := (blk_cell HST2.out.bk 1).trans rfl
   have hc2 : w2.cell? ⟨gw, 2, none⟩ = some (.int .i64 a2) := (blk_cell HST2.out.bk 2).trans rfl
   have hc3 : w2.cell? ⟨gw, 3, none⟩ = some (.int .i64 a3) := (blk_cell HST2.out.bk 3).trans rfl
   go_wp2_with (go_at_call 59; (with_reducible refine (tree_place.calls K _ _ l a1 a2 a3 id (t : Int) true _ (Kd.C_below HR0.out HST2.out.hb) HC0.out HPL.out).mono ?_); rintro e w3 ⟨rfl, hb3⟩; have HST3 := Lib.hid (HST2.out.below hb3); clear hb3; have hd0 : w3.cell? ⟨gw, 0, none⟩ = some (.slice A l.length c) := (blk_cell HST3.out.bk 0).trans rfl; obtain ⟨ad, A6, c6, e134, hx0, hx1, hx2, hx3, hx4, hx5, hx6, hl6, hi6⟩ := at_T44 HR0.out (t : Int) (Int.natCast_nonneg t) (Int.ofNat_lt.2 HT.out); cases e134; rw [HX.out.2.1] at hx6 hl6 hi6; replace hx6 := (HST3.out.hb.cell (World.block_lt_of_cell? _ _ hx6)).trans hx6; clear hx0 hx1 hx2 hx3 hx4 hx5; rw [Int.toNat_natCast] at hx6; have HI6 := Lib.hid hi6; have HL6 := Lib.hid hl6; clear hi6 hl6)
   go_loopw [57] (fun s57 wr => ∃ (i : Nat) (acc' : List (Int × List UInt8)) (v' : Value), i ≤ x.f6.length ∧ s57 = .int .i64 i ∧ Hid (acc' = (x.f6.take i).foldl (fun a e => wayP l F a e.f1 (joinP p e.f0.data.toList)) (acc ++ [(id, p)])) ∧ Hid ((acc'.map (·.1)).Nodup ∧ (∀ y ∈ acc'.map (·.1), y ∈ idsL l) ∧ acc.length + 1 ≤ acc'.length) ∧ Hid (WSt w0 wr gw gm (.slice (some ad) l.length c) a1 a2 a3 (acc'.map (·.1)) (acc'.map toP) v')) (fun s57 _ => x.f6.length - (intOf s57).toNat)
   case atStart =>
    refine ⟨0, acc ++ [(id, p)], .slice Ao1 (acc.length + 1) co1, Nat.zero_le _, rfl, Lib.hid rfl, Lib.hid (And.intro ?_ (And.intro ?_ ?_)), Lib.hid ?_⟩
    ·
     rw [List.map_append]
     refine List.nodup_append.2 ⟨HH.out.1, by simp, fun a ha b hb e => ?_⟩
     simp only [List.map_cons, List.map_nil, List.mem_singleton] at hb
     exact HM.out (by rw [← hb, ← e]; exact ha)
    ·
     intro y hy
     rw [List.map_append] at hy
     rcases List.mem_append.1 hy with h | h
     ·
      exact HH.out.2.1 y h
     ·
      simp only [List.map_cons, List.map_nil, List.mem_singleton] at h
      rw [h]; exact HH.out.2.2.1
    ·
     simp
    ·
     have := HST3.out
     rw [List.map_append]
     exact this
   case round =>
    clear HST3 hd0 hc0 hc1 hc2 hc3 HST2 t0 t1
    obtain ⟨i, acc', v', hi, rfl, HA, HG, HS⟩ := hrel
    by_cases hlt : i < x.f6.length
    ·
     as_aux_lemma =>
     obtain ⟨name, node, hen⟩ : ∃ name node, x.f6[i] = ⟨name, node⟩ := ⟨_, _, rfl⟩
     have hrd : rd_T61 x.f6 (i : Int) = ⟨name, node⟩ := (rdE _ i hlt).trans hen
     obtain ⟨ae, ee, e0, e1⟩ := at_T61 HI6.out (i : Int) (Int.natCast_nonneg i) (Int.ofNat_lt.2 hlt)
     cases ee
     rw [hrd, Int.toNat_natCast] at e0 e1
     replace e0 := (HS.out.hb.cell (World.block_lt_of_cell? _ _ e0)).trans e0
     replace e1 := (HS.out.hb.cell (World.block_lt_of_cell? _ _ e1)).trans e1
     have i0 : decide (0 ≤ (i : Int)) = true := decide_eq_true (by omega)
     have i1 : decide ((i : Int) < (x.f6.length : Int)) = true := decide_eq_true (by omega)
     have hmem : (⟨name, node⟩ : Ent) ∈ x.f6 := hen ▸ List.getElem_mem hlt
     have hnm : name.size ≤ 64 := HX.out.2.2.2.2 _ hmem
     have hnl : name.data.toList.length = name.size := by rw [Array.length_toList]; rfl
     have HJN : Hid (path_Join.f (asB p) name = some (asB (joinP p name.data.toList))) := by
      have h1 := HH.out.2.2.2.2
      have h3 := HL3.out
      have := join_prog p name.data.toList (by omega) (by omega)
      rw [asB_toList] at this
      exact Lib.hid this
     have HCALL : Hid (∀ w7, WSt w0 w7 gw gm (.slice (some ad) l.length c) a1 a2 a3 (acc'.map (·.1)) (acc'.map toP) v' → Calls Tryd.prog 82 #[.pointer (some ⟨gw, 0, none⟩), .int .i64 node, .string (asB (joinP p name.data.toList))] w7 fun e w' => e = .returned (.tuple #[]) ∧ ∃ v'', WSt w0 w' gw gm (.slice (some ad) l.length c) a1 a2 a3 ((wayP l F acc' node (joinP p name.data.toList)).map (·.1)) ((wayP l F acc' node (joinP p name.data.toList)).map toP) v'') :=
      Lib.hid (fun w7 h7 => ih acc' node (joinP p name.data.toList) v' w7 HG.out.1 HG.out.2.1 (HX.out.2.2.1 _ hmem) (by have := HH.out.2.2.2.1; have := HG.out.2.2; omega) (by have := joinP_len p name.data.toList; have := HH.out.2.2.2.2; have := HG.out.2.2; omega) h7)
     have HNX : Hid (wayP l F acc' node (joinP p name.data.toList) = (x.f6.take (i + 1)).foldl (fun a e => wayP l F a e.f1 (joinP p e.f0.data.toList)) (acc ++ [(id, p)])) := by
      rw [List.take_succ_eq_append_getElem hlt, List.foldl_append, ← HA.out, hen]; exact Lib.hid rfl
     have HLT := Lib.hid hlt
     have HWR : Hid (wrap64 ((i : Int) + 1) = ((i + 1 : Nat) : Int)) := Lib.hid (by have := HX.out.2.2.2.1; unfold wrap64; omega)
     clear hnm hnl hmem hen hrd hlt hi
     go_upto_region 8 with (first | ((with_reducible refine gate_dst (N := 11) rfl ?_); (try (refine gate_guard (by rfl) ?_; dsimp only)); refine box_event ?hg (N := 11) ?hd (cs := #[.string (⟨#[]⟩ : ByteArray), .int .i64 0]) (t := 61) ?hr ?_; (case hd => rfl); (case hg => rfl); (case hr => first | (go_simp; done) | (go_simp; rfl)); intro gb hg w4 hbox hb4; have hl_ : wr.heap.size ≤ gb := Nat.le_of_eq hg.symm; have HST5 := Lib.hid (HS.out.below (below_set (j := 1) (v := .int .i64 node) (below_set (j := 0) (v := .string name) hb4 hl_) hl_)); have HB5 := Lib.hid (blk_put (cs' := #[.string name, .int .i64 node]) (blk_put (cs' := #[.string name, .int .i64 0]) hbox 0 (.string name) rfl) 1 (.int .i64 node) rfl); have hcz_0 : w4.cell? ⟨gb, 0, none⟩ = some (.string (⟨#[]⟩ : ByteArray)) := (blk_cell hbox 0).trans rfl; have hcz_1 : w4.cell? ⟨gb, 1, none⟩ = some (.int .i64 0) := (blk_cell hbox 1).trans rfl; have hfz_0 := blk_frozen hbox 0; have hfz_1 := blk_frozen hbox 1; clear hbox hb4 hg hl_))
     (try simp only [Act.put, List.setIfInBounds_toArray, List.set_cons_zero, List.set_cons_succ])
     generalize (w4.setCell ⟨gb, 0, none⟩ (Value.string name)).setCell ⟨gb, 1, none⟩ (Value.int .i64 node) = w5 at HST5 HB5 ⊢
     clear hcz_0 hcz_1 hfz_0 hfz_1
     as_aux_lemma =>
      have k0 : w5.cell? ⟨gb, 0, none⟩ = some (.string name) := (blk_cell HB5.out 0).trans rfl
      have k1 : w5.cell? ⟨gb, 1, none⟩ = some (.int .i64 node) := (blk_cell HB5.out 1).trans rfl
      refine start_ (n := 8) (S := fun w' => w'.cell? ⟨gb, 0, none⟩ = some (.string name) ∧ w'.cell? ⟨gb, 1, none⟩ = some (.int .i64 node)) (ds := [7]) #[false, false, false, false, false, false, false, false] (by kernel_rfl) rfl rfl ⟨k0, k1⟩ (fun hHeld => ?_)
      have HST6 := Lib.hid (HST5.out.below ((Below.refl _ w5).drew))
      generalize World.drew _ = w6 at HST6 hHeld ⊢
      refine pure_ (i := 0) (N := some 61) (v := ?_) (a' := ?_) #[true, false, false, false, false, false, false, false] rfl rfl (by kernel_rfl) (fun _ _ _ h => h) (Or.inl ⟨by rfl, ?_⟩) ?_ ?_
      rotate_left
      ·
       intro w'
       go_simp
       with_reducible rfl
      rotate_left
      ·
       simp only [Act.put, List.setIfInBounds_toArray, List.set_cons_zero, List.set_cons_succ, i64_w, i32_w]
       rfl
      refine pure_ (i := 1) (N := some 62) (v := ?_) (a' := ?_) #[true, true, false, false, false, false, false, false] rfl rfl (by kernel_rfl) (fun _ _ _ h => h) (Or.inl ⟨by rfl, ?_⟩) ?_ ?_
      rotate_left
      ·
       intro w'
       go_simp
       with_reducible rfl
      rotate_left
      ·
       simp only [Act.put, List.setIfInBounds_toArray, List.set_cons_zero, List.set_cons_succ, i64_w, i32_w]
       rfl
      refine pure_ (i := 3) (N := some 64) (v := ?_) (a' := ?_) #[true, true, false, true, false, false, false, false] rfl rfl (by kernel_rfl) (fun _ _ _ h => h) (Or.inl ⟨by rfl, ?_⟩) ?_ ?_
      rotate_left
      ·
       intro w'
       go_simp
       with_reducible rfl
      rotate_left
      ·
       simp only [Act.put, List.setIfInBounds_toArray, List.set_cons_zero, List.set_cons_succ, i64_w, i32_w]
       rfl
      refine pure_ (i := 4) (N := some 65) (v := ?_) (a' := ?_) #[true, true, false, true, true, false, false, false] rfl rfl (by kernel_rfl) (fun _ _ _ h => h) (Or.inl ⟨by rfl, ?_⟩) ?_ ?_
      rotate_left
      ·
       intro w'
       go_simp
       with_reducible rfl
      rotate_left
      ·
       simp only [Act.put, List.setIfInBounds_toArray, List.set_cons_zero, List.set_cons_succ, i64_w, i32_w]
       rfl
      refine take_ (i := 2) (N := some 63) (v := ?_) (a' := ?_) #[true, true, true, true, true, false, false, false] rfl rfl (by kernel_rfl) (fun _ _ _ h => h) (Or.inl ⟨by rfl, ?_⟩) hHeld ?_ ?_
      rotate_left
      ·
       rintro w' ⟨s0, s1⟩
       go_simp
       with_reducible rfl
      rotate_left
      ·
       simp only [Act.put, List.setIfInBounds_toArray, List.set_cons_zero, List.set_cons_succ, i64_w, i32_w]
       rfl
      refine take_ (i := 5) (N := some 66) (v := ?_) (a' := ?_) #[true, true, true, true, true, true, false, false] rfl rfl (by kernel_rfl) (fun _ _ _ h => h) (Or.inl ⟨by rfl, ?_⟩) hHeld ?_ ?_
      rotate_left
      ·
       rintro w' ⟨s0, s1⟩
       go_simp
       with_reducible rfl
      rotate_left
      ·
       simp only [Act.put, List.setIfInBounds_toArray, List.set_cons_zero, List.set_cons_succ, i64_w, i32_w]
       rfl
      refine one_ (i := 6) (N := some 67) #[true, true, true, true, true, true, true, false] rfl rfl (by kernel_rfl) (by decide) (fun K' hK => ?_)
      refine goes_ Tryd.func53 (by kernel_rfl) rfl #[.string (asB p), .string name] (by rfl) rfl rfl (by first | rfl | (simp [Act.eval]; done) | (simp [Act.eval, Act.put]; done)) ?_
      refine (path_Join.calls _ _ _ _ HJN.out).mono ?_
      rintro e w7 ⟨rfl, hD⟩
      have hb7 : Below w6.heap.size w6 w7 := by { obtain ⟨n, rfl⟩ := hD; first | exact pw_below_drewN (Below.refl _ _) n | exact pw_below_drewN (Below.refl _ _) | (apply pw_below_drewN; exact Below.refl _ _) }
      have HST7 := Lib.hid (HST6.out.below hb7)
      have hS7 : w7.cell? ⟨gb, 0, none⟩ = some (.string name) ∧ w7.cell? ⟨gb, 1, none⟩ = some (.int .i64 node) := by obtain ⟨n, rfl⟩ := hD; exact hHeld
      clear hD hb7
      refine ⟨_, rfl, ?_⟩
      refine hK.out _ _ hS7 (fun hHeld => ?_)
      clear hK K'
      refine norm_ (a' := ?_) ?_ ?_
      rotate_left
      ·
       show Act.put _ (some 67) _ = _
       simp only [Act.put, List.setIfInBounds_toArray, List.set_cons_zero, List.set_cons_succ, i64_w, i32_w]
       rfl
      refine last_ (i := 7) (N := some 68) #[true, true, true, true, true, true, true, true] rfl rfl (by kernel_rfl) (by decide) (fun K' hK => ?_)
      refine goes_ Tryd.func82 (by kernel_rfl) rfl #[.pointer (some ⟨gw, 0, none⟩), .int .i64 node, .string (asB (joinP p name.data.toList))] (by rfl) rfl rfl (by first | rfl | (simp [Act.eval]; done) | (simp [Act.eval, Act.put]; done)) ?_
      refine (HCALL.out w7 HST7.out).mono ?_
      rintro e w8 ⟨rfl, v8, hst8⟩
      have HST8 := Lib.hid hst8
      clear hst8
      refine ⟨_, rfl, ?_⟩
      refine hK.out _ _ ?_
      clear hK K'
      refine done_ (by kernel_rfl) ?_
      as_aux_lemma =>
       go_wp2
       go_roundw
       case rel =>
        obtain ⟨t2, ht2⟩ := way_grows l F acc' node (joinP p name.data.toList)
        have hwp := way_map l F acc' node (joinP p name.data.toList)
        have hpr := TG.way_props (ids := idsL l) (ents := tgts l) F (acc'.map (·.1)) node HG.out.1 HG.out.2.1
        rw [← hwp] at hpr
        have hln : acc.length + 1 ≤ (wayP l F acc' node (joinP p name.data.toList)).length := by rw [ht2, List.length_append]; exact Nat.le_trans HG.out.2.2 (Nat.le_add_right _ _)
        exact ⟨i + 1, wayP l F acc' node (joinP p name.data.toList), v8, HLT.out, by rw [HWR.out], HNX, Lib.hid ⟨hpr.1, hpr.2.1, hln⟩, Lib.hid HST8.out⟩
       case measure => exact meas_ _ _ HWR.out HLT.out
    ·
     as_aux_lemma =>
     have hie : i = x.f6.length := by omega
     subst hie
     rw [List.take_length] at HA
     have HE := Lib.hid (HA.out.trans HW.out.symm)
     clear hlt hi
     go_wp2
     refine bodyPost_end (results_none rfl _ _ _) rfl ?_
     exact ⟨rfl, v', by rw [← HE.out]; exact HS.out⟩
end Go.Proofs.YtnpnablnnfekkaaDoor.PTr
set_option linter.unusedVariables false
set_option linter.unusedSimpArgs false
namespace Go.Proofs.YtnpnablnnfekkaaDoor.PTr
open Go.RowKit Go.Proofs.YtnpnablnnfekkaaDoor Go.Proofs.YtnpnablnnfekkaaDoorW.PrintWords Go.Proofs.YtnpnablnnfekkaaDoorW.PrintLast Go.Proofs.YtnpnablnnfekkaaDoorW.PrintMore
theorem cellB {w w' : World} {a : Addr} {v : Value} (h : w.cell? a = some v) (hb : Below w.heap.size w w') : w'.cell? a = some v := (hb.cell (World.block_lt_of_cell? w _ h)).trans h
structure KSt (w0 w : World) (g1 gm : Nat) (T : Array Value) (m : MapD) (v : Value) (xs : List Int) : Prop where
 hb : Below w0.heap.size w0 w
 b1 : w.heap[g1]? = some (.cells T 26 (0, 0))
 em : w0.heap.size ≤ gm
 mp : MapA KI KI w gm m
 q : Kd.Q (Kd.int .i64) 3 w w0.heap.size (fun _ => True) v xs
theorem KSt.below {w0 w w' : World} {g1 gm : Nat} {T : Array Value} {m : MapD} {v : Value} {xs : List Int} (h : KSt w0 w g1 gm T m v xs) (hb : Below w.heap.size w w') : KSt w0 w' g1 gm T m v xs :=
 ⟨below_step h.hb hb, blk_below h.b1 hb, h.em, h.mp.below hb, Kd.Q_below h.q hb⟩
theorem KSt.update {w0 w w' : World} {g1 gm : Nat} {T : Array Value} {m m' : MapD} {v : Value} {xs : List Int} (h : KSt w0 w g1 gm T m v xs) (hm : MapA KI KI w' gm m') (hg : w.grownBy w' (some gm)) : KSt w0 w' g1 gm T m' v xs :=
 ⟨h.hb.grown hg (below_size h.hb) (fun k hk => by cases hk; exact h.em), blk_grown h.b1 hg (fun e => MapA.neC h.mp h.b1 (Option.some.inj e).symm), h.em, hm, Q_mapped h.q h.mp hg⟩
theorem KSt.pushed {w0 w w' : World} {g1 gm : Nat} {T : Array Value} {m : MapD} {v v' : Value} {xs xs' : List Int} (h : KSt w0 w g1 gm T m v xs) (hq : Kd.Q (Kd.int .i64) 3 w' w0.heap.size (fun _ => True) v' xs') (hb : Below w0.heap.size w0 w') (hg : w.grownBy w' v.ownBlock) : KSt w0 w' g1 gm T m v' xs' :=
 ⟨hb, blk_grown h.b1 hg (Kd.Q_ne h.q h.b1 (by decide)), h.em, MapA.grown h.mp hg (Q_neM h.q h.mp), hq⟩
theorem head_one {l : List Nod} (h : headOK l = true) : ∃ h0 : 0 < l.length, l[0].f0 = 1 := by
 unfold headOK at h
 simp only [Bool.and_eq_true, decide_eq_true_eq] at h
 have h0 : 0 < l.length := by omega
 have h2 := h.1.2
 rw [show (0 : Int) = ((0 : Nat) : Int) from rfl, rdN l 0 h0] at h2
 exact ⟨h0, h2⟩
theorem head_bad {l : List Nod} {a1 : Int} (h : headOK l = false) : chk l a1 = 80 := by unfold chk; rw [h]; rfl
theorem nodes_bad {l : List Nod} {a1 : Int} {i : Nat} (hi : i < l.length) (h : nodeAt l a1 i = false) : chk l a1 = 80 := by
 have : nodesOK l a1 = false := by
  rw [Bool.eq_false_iff]
  intro hn
  have := List.all_eq_true.1 hn i (List.mem_range.2 hi)
  rw [h] at this; cases this
 unfold chk
 rw [this]
 split
 ·
  rfl
 ·
  rfl
theorem chk_bfs {l : List Nod} {a1 : Int} (h : headOK l = true) (hn : nodesOK l a1 = true) : chk l a1 = outcome l (goneThrough l) := by
 unfold chk; rw [if_pos h, if_pos hn]; rfl
/-- what may come up at a node: bad in three ways, good in two -/
theorem node_cases (l : List Nod) (a1 : Int) (i : Nat) (hi : i < l.length) (hl : l.length ≤ 512) :
  (∃ bp bi bz bv, plainB l[i] = bp ∧ decide (a1 < l[i].f0) = bi ∧ decide (0 < (i : Int)) = bz ∧ (bz = true → decide (l[i].f0 ≤ (rd_T44 l (wrap64 ((i : Int) - 1))).f0) = bv) ∧
   ((nodeAt l a1 i = false ∧ (bp = false ∨ bp = true ∧ bi = true ∨ bp = true ∧ bi = false ∧ bz = true ∧ bv = true)) ∨ (nodeAt l a1 i = true ∧ bp = true ∧ bi = false ∧ (bz = false ∨ bz = true ∧ bv = false)))) := by
 refine ⟨_, _, _, _, rfl, rfl, rfl, fun _ => rfl, ?_⟩
 unfold nodeAt
 rw [rdN l i hi]
 cases hp : plainB l[i] with
 | false => left; exact ⟨by simp, .inl rfl⟩
 | true =>
  by_cases h1 : a1 < l[i].f0
  ·
   left
   rw [decide_eq_true h1, decide_eq_false (show ¬ l[i].f0 ≤ a1 from by omega)]
   exact ⟨by simp, .inr (.inl ⟨rfl, rfl⟩)⟩
  ·
   rw [decide_eq_false h1, decide_eq_true (show l[i].f0 ≤ a1 from by omega)]
   by_cases hz : i = 0
   ·
    right
    rw [decide_eq_true hz, decide_eq_false (show ¬ 0 < (i : Int) from by omega)]
    exact ⟨by simp, rfl, rfl, .inl rfl⟩
   ·
    have hw : wrap64 ((i : Int) - 1) = ((i - 1 : Nat) : Int) := by unfold wrap64; omega
    rw [decide_eq_false hz, decide_eq_true (show 0 < (i : Int) from by omega), hw, rdN l (i - 1) (by omega)]
    by_cases h2 : l[i - 1].f0 < l[i].f0
    ·
     right
     rw [decide_eq_true h2, decide_eq_false (show ¬ l[i].f0 ≤ l[i - 1].f0 from by omega)]
     exact ⟨by simp, rfl, rfl, .inr ⟨rfl, rfl⟩⟩
    ·
     left
     rw [decide_eq_false h2, decide_eq_true (show l[i].f0 ≤ l[i - 1].f0 from by omega)]
     exact ⟨by simp, .inr (.inr ⟨rfl, rfl, rfl, rfl⟩)⟩
/-- what holds while nodes are gone through: the places of the keys, the counts -/
def BInv (l : List Nod) (F j : Nat) (keys : List Int) (m : MapD) : Prop :=
 m.map (·.1) = keys ∧ TG.Inv (idsL l) (tgts l) (dirL l) j keys ∧ (∀ k v, getA m k = some v → 1 ≤ v ∧ v ≤ 1 + (j : Int) * 5864062014805) ∧ l.length + 1 < F + j ∧ outcome l (TG.bfs (idsL l) (tgts l) (dirL l) F j keys) = outcome l (goneThrough l)
theorem inv_len {l : List Nod} {j : Nat} {keys : List Int} (h : TG.Inv (idsL l) (tgts l) (dirL l) j keys) : j ≤ keys.length ∧ keys.length ≤ l.length := by
 have h1 := TG.len_le keys (idsL l) h.nd h.sub
 unfold idsL at h1
 rw [List.length_map] at h1
 exact ⟨h.le, h1⟩
theorem binv_zero (l : List Nod) (j : Nat) (keys : List Int) (m : MapD) : ¬ BInv l 0 j keys m := by
 rintro ⟨_, h, _, h2, _⟩
 have := inv_len h
 omega
theorem binv_node {l : List Nod} {F j : Nat} {keys : List Int} {m : MapD} (h : BInv l F j keys m) (hr : Rises l) (hj : j < keys.length) : ∃ t, ∃ ht : t < l.length, ∃ x, l[t] = x ∧ x.f0 = keys[j] := by
 obtain ⟨y, hy, hye⟩ := mem_ids.1 (h.2.1.sub _ (List.getElem_mem hj))
 obtain ⟨t, ht, rfl⟩ := List.getElem_of_mem hy
 exact ⟨t, ht, _, rfl, hye⟩
def VInv (l : List Nod) (keys : List Int) (j : Nat) (es : List Ent) (q : Nat) (keys' : List Int) (m' : MapD) : Prop :=
 m'.map (·.1) = keys' ∧ keys'.Nodup ∧ (∀ x ∈ keys', x ∈ idsL l) ∧ j < keys'.length ∧ (∀ k v, getA m' k = some v → 1 ≤ v ∧ v ≤ 1 + (j : Int) * 5864062014805 + q) ∧ TG.visit (idsL l) (dirL l) keys' ((es.drop q).map (·.f1)) = TG.visit (idsL l) (dirL l) keys (es.map (·.f1))
theorem vinv_len {l : List Nod} {keys : List Int} {j : Nat} {es : List Ent} {q : Nat} {keys' : List Int} {m' : MapD} (h : VInv l keys j es q keys' m') : j < keys'.length ∧ keys'.length ≤ l.length := by
 have h1 := TG.len_le keys' (idsL l) h.2.1 h.2.2.1
 unfold idsL at h1
 rw [List.length_map] at h1
 exact ⟨h.2.2.2.1, h1⟩
theorem vinv_start {l : List Nod} {F j : Nat} {keys : List Int} {m : MapD} (h : BInv l F j keys m) (hj : j < keys.length) {es : List Ent} : VInv l keys j es 0 keys m :=
 ⟨h.1, h.2.1.nd, h.2.1.sub, hj, fun k v hv => by have := h.2.2.1 k v hv; omega, by rw [List.drop_zero]⟩
theorem binv_fail {l : List Nod} {F j : Nat} {keys : List Int} {m : MapD} (h : BInv l (F + 1) j keys m) (hj : j < keys.length) {es : List Ent} (ht : tgts l keys[j] = es.map (·.f1)) (hv : TG.visit (idsL l) (dirL l) keys (es.map (·.f1)) = none) : outcome l (goneThrough l) = 80 := by
 rw [← h.2.2.2.2]
 unfold TG.bfs
 rw [List.getElem?_eq_getElem hj]
 simp only []
 rw [ht, hv]; rfl
theorem binv_done {l : List Nod} {F j : Nat} {keys : List Int} {m : MapD} (h : BInv l (F + 1) j keys m) (hj : ¬ j < keys.length) : outcome l (goneThrough l) = if keys.length = l.length then 0 else 80 := by
 rw [← h.2.2.2.2]
 unfold TG.bfs
 rw [List.getElem?_eq_none (by omega)]; rfl
theorem vinv_end {l : List Nod} {F j : Nat} {keys keys' : List Int} {m m' : MapD} {es : List Ent} (h : BInv l (F + 1) j keys m) (hv : VInv l keys j es es.length keys' m') (hj : j < keys.length) (ht : tgts l keys[j] = es.map (·.f1)) (hes : es.length ≤ 5864062014805) : BInv l F (j + 1) keys' m' := by
 obtain ⟨v1, v2, v3, v4, v5, v6⟩ := hv
 rw [List.drop_of_length_le (Nat.le_refl _)] at v6
 have hvis : TG.visit (idsL l) (dirL l) keys (tgts l keys[j]) = some keys' := by rw [ht, ← v6]; rfl
 refine ⟨v1, TG.inv_step _ _ _ h.2.1 hj hvis, fun k v hk => by have := v5 k v hk; omega, by have := h.2.2.2.1; omega, ?_⟩
 rw [← h.2.2.2.2]
 conv => rhs; unfold TG.bfs
 rw [List.getElem?_eq_getElem hj]
 simp only []
 rw [hvis]; rfl
theorem vinv_step {l : List Nod} {keys keys' : List Int} {j q : Nat} {es : List Ent} {m' : MapD} (h : VInv l keys j es q keys' m') (hr : Rises l) (hl : l.length ≤ 512) (hes : es.length ≤ 5864062014805) (hq : q < es.length) {e : Int} (he : es[q].f1 = e) {a1 a2 a3 : Int} :
  (∃ p K, tree_place.f K l a1 a2 a3 e = some (p, false) ∧ TG.visit (idsL l) (dirL l) keys (es.map (·.f1)) = none) ∨
  (∃ t, ∃ ht : t < l.length, ∃ y, l[t] = y ∧ ∃ K, tree_place.f K l a1 a2 a3 e = some ((t : Int), true) ∧ (0 ≤ gI m' e ∧ gI m' e ≤ 4000000000000000) ∧
   ((y.f1 = 1 ∧ 0 < gI m' e ∧ TG.visit (idsL l) (dirL l) keys (es.map (·.f1)) = none) ∨
   (y.f1 ≠ 1 ∧ 0 < gI m' e ∧ wrap64 (gI m' e + 1) ≠ 1 ∧ VInv l keys j es (q + 1) keys' (putA m' e (wrap64 (gI m' e + 1)))) ∨
   (y.f1 = 1 ∧ ¬ 0 < gI m' e ∧ wrap64 (gI m' e + 1) = 1 ∧ VInv l keys j es (q + 1) (keys' ++ [e]) (putA m' e (wrap64 (gI m' e + 1)))) ∨
   (y.f1 ≠ 1 ∧ ¬ 0 < gI m' e ∧ wrap64 (gI m' e + 1) = 1 ∧ VInv l keys j es (q + 1) (keys' ++ [e]) (putA m' e (wrap64 (gI m' e + 1)))))) := by
 have hlen := vinv_len h
 obtain ⟨v1, v2, v3, v4, v5, v6⟩ := h
 rw [List.drop_eq_getElem_cons hq, List.map_cons, he] at v6
 conv at v6 => lhs; unfold TG.visit
 by_cases hin : e ∈ idsL l
 ·
  right
  obtain ⟨y, hy, hye⟩ := mem_ids.1 hin
  obtain ⟨t, ht, rfl⟩ := List.getElem_of_mem hy
  obtain ⟨K, hK⟩ := place_in l a1 a2 a3 (by omega) hr t ht
  rw [hye] at hK
  have hdir : dirL l e = decide (l[t].f1 = 1) := by rw [← hye]; exact dir_at hr t ht
  have hgz : e ∉ keys' → gI m' e = 0 := fun hh => gI_zero (by rw [v1]; exact hh)
  have hgp : e ∈ keys' → 1 ≤ gI m' e ∧ gI m' e ≤ 1 + (j : Int) * 5864062014805 + q := fun hh => by
   have hne : getA m' e ≠ none := fun h0 => getA_none.1 h0 (by rw [v1]; exact hh)
   obtain ⟨v, hv0⟩ := Option.ne_none_iff_exists'.1 hne
   unfold gI; rw [hv0]; exact v5 e v hv0
  refine ⟨t, ht, _, rfl, K, hK K (Nat.le_refl _), ?_, ?_⟩
  ·
   by_cases hk : e ∈ keys'
   ·
    have := hgp hk; omega
   ·
    have := hgz hk; omega
  by_cases hbad : dirL l e = true ∧ e ∈ keys'
  ·
   left
   rw [if_neg (fun hh => hh.2 hbad)] at v6
   rw [hdir] at hbad
   exact ⟨of_decide_eq_true hbad.1, by have := hgp hbad.2; omega, v6.symm⟩
  ·
   rw [if_pos ⟨hin, hbad⟩] at v6
   by_cases hk : e ∈ keys'
   ·
    have hg := hgp hk
    have hw : wrap64 (gI m' e + 1) = gI m' e + 1 := by unfold wrap64; omega
    rw [if_pos hk] at v6
    right; left
    refine ⟨fun h1 => hbad ⟨by rw [hdir]; exact decide_eq_true h1, hk⟩, by omega, by omega, ?_, v2, v3, v4, fun k v hkv => ?_, v6⟩
    ·
     rw [keys_put, v1, if_pos hk]
    ·
     rw [getA_put] at hkv
     split at hkv
     ·
      cases hkv; omega
     ·
      have := v5 k v hkv; omega
   ·
    have hg := hgz hk
    have hw : wrap64 (gI m' e + 1) = 1 := by rw [hg]; unfold wrap64; omega
    rw [if_neg hk] at v6
    have hV : VInv l keys j es (q + 1) (keys' ++ [e]) (putA m' e (wrap64 (gI m' e + 1))) := by
     refine ⟨?_, ?_, fun z hz => ?_, by rw [List.length_append]; omega, fun k v hkv => ?_, v6⟩
     ·
      rw [keys_put, v1, if_neg hk]
     ·
      rw [List.nodup_append]
      refine ⟨v2, by simp, fun a ha b hb => ?_⟩
      simp at hb; subst hb; intro e2; subst e2; exact hk ha
     ·
      rcases List.mem_append.1 hz with h | h
      ·
       exact v3 z h
      ·
       simp at h; subst h; exact hin
     ·
      rw [getA_put] at hkv
      split at hkv
      ·
       cases hkv; omega
      ·
       have := v5 k v hkv; omega
    by_cases hd : l[t].f1 = 1
    ·
     right; right; left; exact ⟨hd, by omega, hw, hV⟩
    ·
     right; right; right; exact ⟨hd, by omega, hw, hV⟩
 ·
  left
  rw [if_neg (fun hh => hin hh.1)] at v6
  obtain ⟨p, K, hK⟩ := place_out l a1 a2 a3 e (by omega) hr hin
  exact ⟨p, K, hK K (Nat.le_refl _), v6.symm⟩
set_option maxHeartbeats 8000000 in
set_option maxRecDepth 100000 in
theorem check_any (l : List Nod) (A : Option Addr) (c : Nat) (a1 a2 a3 : Int) (w : World) (hr0 : Kd.C k44 w A l.length l) (hc00 : l.length ≤ c) (hE : l.length ≤ 512 → ∀ x ∈ l, x.f6.length ≤ 5864062014805) :
  Calls Tryd.prog 17 #[.agg #[.slice A l.length c, .int .i64 a1, .int .i64 a2, .int .i64 a3]] w fun e w' => e = .returned (.int .i64 (chk l a1)) ∧ Below w.heap.size w w' := by
 have hu26 := Tryd.underlying26
 have hmm := @run_makeMap Tryd.prog
 have HR0 := Lib.hid hr0
 have HC0 := Lib.hid hc00
 clear hr0 hc00
 by_cases h0 : l.length = 0
 ·
  have hbad : headOK l = false := by unfold headOK; rw [decide_eq_false (by omega)]; rfl
  have b0 : ((l.length : Int) == 0) = true := beq_iff_eq.mpr (by omega)
  clear hE
  (rw [head_bad hbad]; clear hbad; go_enter Tryd.func17, Tryd.ntmps17; go_wp2_with ((with_reducible refine gate_dst (N := 1) rfl ?_); refine box_event ?hg (N := 1) ?hd (cs := #[.slice A l.length c, .int .i64 a1, .int .i64 a2, .int .i64 a3]) (t := 26) ?hr ?_; (case hd => rfl); (case hg => rfl); (case hr => first | (go_simp; done) | (go_simp; rfl)); intro g1 hg1 w1 hbox hb; have B1 := Lib.hid hbox; have HB1 := Lib.hid hb; have E1 : Hid (w.heap.size ≤ g1) := Lib.hid (by rw [hg1]; exact Nat.le_refl _); have d0 : w1.cell? ⟨g1, 0, none⟩ = some (.slice A l.length c) := (blk_cell B1.out 0).trans rfl; have d1 : w1.cell? ⟨g1, 1, none⟩ = some (.int .i64 a1) := (blk_cell B1.out 1).trans rfl; (try replace z0 := cellB z0 hb); (try replace z1 := cellB z1 hb); clear hbox hb hg1); go_ret; exact ⟨rfl, HB1.out⟩)
 have b0 : ((l.length : Int) == 0) = false := beq_eq_false_iff_ne.mpr (by omega)
 by_cases h1 : 512 < l.length
 ·
  have hbad : headOK l = false := by unfold headOK; rw [decide_eq_false (show ¬ l.length ≤ 512 from by omega), Bool.and_false]; rfl
  have b1 : decide ((512 : Int) < (l.length : Int)) = true := decide_eq_true (by omega)
  clear hE
  (rw [head_bad hbad]; clear hbad; go_enter Tryd.func17, Tryd.ntmps17; go_wp2_with ((with_reducible refine gate_dst (N := 1) rfl ?_); refine box_event ?hg (N := 1) ?hd (cs := #[.slice A l.length c, .int .i64 a1, .int .i64 a2, .int .i64 a3]) (t := 26) ?hr ?_; (case hd => rfl); (case hg => rfl); (case hr => first | (go_simp; done) | (go_simp; rfl)); intro g1 hg1 w1 hbox hb; have B1 := Lib.hid hbox; have HB1 := Lib.hid hb; have E1 : Hid (w.heap.size ≤ g1) := Lib.hid (by rw [hg1]; exact Nat.le_refl _); have d0 : w1.cell? ⟨g1, 0, none⟩ = some (.slice A l.length c) := (blk_cell B1.out 0).trans rfl; have d1 : w1.cell? ⟨g1, 1, none⟩ = some (.int .i64 a1) := (blk_cell B1.out 1).trans rfl; (try replace z0 := cellB z0 hb); (try replace z1 := cellB z1 hb); clear hbox hb hg1); go_ret; exact ⟨rfl, HB1.out⟩)
 have b1 : decide ((512 : Int) < (l.length : Int)) = false := decide_eq_false (by omega)
 have hlen : l.length ≤ 512 := by omega
 replace hE := hE hlen
 obtain ⟨ad, A6, c6, ea, x0, x1, x2, x3, x4, x5, x6, _, _⟩ := at_T44 HR0.out 0 (by omega) (by omega)
 cases ea
 have z0 := x0
 have z1 := x1
 simp only [show (0 : Int).toNat = 0 from rfl, Nat.zero_mul, Addr.add_zero'] at z0 z1
 clear x0 x1 x2 x3 x4 x5 x6
 have i0 : decide ((0 : Int) < (l.length : Int)) = true := decide_eq_true (by omega)
 have i0n : (0 < l.length) = True := eq_true (by omega)
 by_cases h2 : (rd_T44 l 0).f0 = 1
 case neg =>
  have hbad : headOK l = false := by unfold headOK; rw [decide_eq_false h2, Bool.and_false]; rfl
  have b2 : ((rd_T44 l 0).f0 != 1) = true := bne_iff_ne.mpr h2
  clear hE
  (rw [head_bad hbad]; clear hbad; go_enter Tryd.func17, Tryd.ntmps17; go_wp2_with ((with_reducible refine gate_dst (N := 1) rfl ?_); refine box_event ?hg (N := 1) ?hd (cs := #[.slice (some ad) l.length c, .int .i64 a1, .int .i64 a2, .int .i64 a3]) (t := 26) ?hr ?_; (case hd => rfl); (case hg => rfl); (case hr => first | (go_simp; done) | (go_simp; rfl)); intro g1 hg1 w1 hbox hb; have B1 := Lib.hid hbox; have HB1 := Lib.hid hb; have E1 : Hid (w.heap.size ≤ g1) := Lib.hid (by rw [hg1]; exact Nat.le_refl _); have d0 : w1.cell? ⟨g1, 0, none⟩ = some (.slice (some ad) l.length c) := (blk_cell B1.out 0).trans rfl; have d1 : w1.cell? ⟨g1, 1, none⟩ = some (.int .i64 a1) := (blk_cell B1.out 1).trans rfl; (try replace z0 := cellB z0 hb); (try replace z1 := cellB z1 hb); clear hbox hb hg1); go_ret; exact ⟨rfl, HB1.out⟩)
 have b2 : ((rd_T44 l 0).f0 != 1) = false := bne_eq_false_iff_eq.mpr h2
 by_cases h3 : (rd_T44 l 0).f1 = 1
 case neg =>
  have hbad : headOK l = false := by unfold headOK; rw [decide_eq_false h3, Bool.and_false]
  have b3 : ((rd_T44 l 0).f1 != 1) = true := bne_iff_ne.mpr h3
  clear hE
  (rw [head_bad hbad]; clear hbad; go_enter Tryd.func17, Tryd.ntmps17; go_wp2_with ((with_reducible refine gate_dst (N := 1) rfl ?_); refine box_event ?hg (N := 1) ?hd (cs := #[.slice (some ad) l.length c, .int .i64 a1, .int .i64 a2, .int .i64 a3]) (t := 26) ?hr ?_; (case hd => rfl); (case hg => rfl); (case hr => first | (go_simp; done) | (go_simp; rfl)); intro g1 hg1 w1 hbox hb; have B1 := Lib.hid hbox; have HB1 := Lib.hid hb; have E1 : Hid (w.heap.size ≤ g1) := Lib.hid (by rw [hg1]; exact Nat.le_refl _); have d0 : w1.cell? ⟨g1, 0, none⟩ = some (.slice (some ad) l.length c) := (blk_cell B1.out 0).trans rfl; have d1 : w1.cell? ⟨g1, 1, none⟩ = some (.int .i64 a1) := (blk_cell B1.out 1).trans rfl; (try replace z0 := cellB z0 hb); (try replace z1 := cellB z1 hb); clear hbox hb hg1); go_ret; exact ⟨rfl, HB1.out⟩)
 have b3 : ((rd_T44 l 0).f1 != 1) = false := bne_eq_false_iff_eq.mpr h3
 have HH : Hid (headOK l = true) := Lib.hid (by unfold headOK; rw [decide_eq_true h0, decide_eq_true hlen, decide_eq_true h2, decide_eq_true h3]; rfl)
 have HLN := Lib.hid hlen
 have HEE := Lib.hid hE
 clear hE hlen h0 h1 h2 h3
 go_enter Tryd.func17, Tryd.ntmps17
 go_wp2_with ((with_reducible refine gate_dst (N := 1) rfl ?_); refine box_event ?hg (N := 1) ?hd (cs := #[.slice (some ad) l.length c, .int .i64 a1, .int .i64 a2, .int .i64 a3]) (t := 26) ?hr ?_; (case hd => rfl); (case hg => rfl); (case hr => first | (go_simp; done) | (go_simp; rfl)); intro g1 hg1 w1 hbox hb; have B1 := Lib.hid hbox; have HB1 := Lib.hid hb; have E1 : Hid (w.heap.size ≤ g1) := Lib.hid (by rw [hg1]; exact Nat.le_refl _); have d0 : w1.cell? ⟨g1, 0, none⟩ = some (.slice (some ad) l.length c) := (blk_cell B1.out 0).trans rfl; have d1 : w1.cell? ⟨g1, 1, none⟩ = some (.int .i64 a1) := (blk_cell B1.out 1).trans rfl; (try replace z0 := cellB z0 hb); (try replace z1 := cellB z1 hb); clear hbox hb hg1)
 clear z0 z1 d1
 go_loopw [42] (fun s42 wr => ∃ i : Nat, i ≤ l.length ∧ s42 = .int .i64 i ∧ Hid (∀ q, q < i → nodeAt l a1 q = true) ∧ Hid (Below w.heap.size w wr) ∧ Hid (wr.heap[g1]? = some (.cells #[.slice (some ad) l.length c, .int .i64 a1, .int .i64 a2, .int .i64 a3] 26 (0, 0)))) (fun s42 _ => l.length - (intOf s42).toNat)
 case atStart => exact ⟨0, Nat.zero_le _, rfl, Lib.hid (fun q h => by omega), HB1, B1⟩
 case round =>
  clear HB1 B1 d0
  obtain ⟨i, hi, rfl, HP, HB, B1⟩ := hrel
  by_cases hlt : i < l.length
  ·
   obtain ⟨bp, bi, bz, bv, hp, hbi, hbz, hbv, hcase⟩ := node_cases l a1 i hlt HLN.out
   have hbzn : decide (0 < i) = bz := by rw [← hbz, decide_eq_decide]; omega
   obtain ⟨x, hx⟩ : ∃ x, l[i] = x := ⟨_, rfl⟩
   have hxl : x ∈ l := hx ▸ List.getElem_mem hlt
   rw [hx] at hp hbi hbv
   have hrd : rd_T44 l (i : Int) = x := (rdN l i hlt).trans hx
   obtain ⟨ad', A6, c6, ea, x0, x1, x2, x3, x4, x5, x6, hl6, hi6⟩ := at_T44 HR0.out (i : Int) (by omega) (by omega)
   cases ea
   rw [hrd, Int.toNat_natCast] at x0 x1 x2 x3 x4 x5 x6
   rw [hrd] at hl6 hi6
   have HPL : Hid (tree_plain.f (x.f6.length + 2) x.f0 x.f1 x.f2 x.f3 x.f4 x.f5 x.f6 = some bp) := Lib.hid (by have := HEE.out x hxl; rw [plain_prog x (by omega) _ (by omega), hp])
   have HRE := Lib.hid hi6
   have HCE := Lib.hid hl6
   have HWR : Hid (wrap64 ((i : Int) + 1) = ((i + 1 : Nat) : Int)) := Lib.hid (by have := HLN.out; unfold wrap64; omega)
   have HLT := Lib.hid hlt
   have HPV : Hid (bz = true → 0 ≤ wrap64 ((i : Int) - 1) ∧ wrap64 ((i : Int) - 1) < (l.length : Int) ∧ w.cell? (ad.add ((wrap64 ((i : Int) - 1)).toNat * 7)) = some (.int .i64 (rd_T44 l (wrap64 ((i : Int) - 1))).f0)) := Lib.hid (fun h => by
    have hz : 0 < (i : Int) := of_decide_eq_true (hbz.trans h)
    have hw : wrap64 ((i : Int) - 1) = ((i - 1 : Nat) : Int) := by have := HLN.out; unfold wrap64; omega
    obtain ⟨ad2, _, _, ea2, y0, _⟩ := at_T44 HR0.out (wrap64 ((i : Int) - 1)) (by omega) (by omega)
    cases ea2
    exact ⟨by omega, by omega, y0⟩)
   replace x0 := cellB x0 HB.out
   replace x1 := cellB x1 HB.out
   replace x2 := cellB x2 HB.out
   replace x3 := cellB x3 HB.out
   replace x4 := cellB x4 HB.out
   replace x5 := cellB x5 HB.out
   replace x6 := cellB x6 HB.out
   have i1 : decide (0 ≤ (i : Int)) = true := decide_eq_true (by omega)
   have i2 : decide ((i : Int) < (l.length : Int)) = true := decide_eq_true (by omega)
   clear hx hp hrd hl6 hi6 hi hlt
   go_upto_region 6 with (first | ((with_reducible refine gate_dst (N := 4) rfl ?_); refine box_event ?hg (N := 4) ?hd (cs := zN) (t := 44) ?hr ?_; (case hd => rfl); (case hg => rfl); (case hr => first | (go_simp; done) | (go_simp; rfl)); intro g4 hg4 w2 hbox hb; have B4 := Lib.hid hbox; have HB4 := Lib.hid hb; have HG4 := Lib.hid hg4; clear hbox hb hg4) | (refine store_box rfl rfl (.tmp 4) (.tmp 46) rfl (x0 := x.f0) (x1 := x.f1) (x2 := x.f2) (x3 := x.f3) (x4 := x.f4) (x5 := x.f5) rfl rfl B4.out HG4.out HB4.out ?_; intro w3 hb3 hw3; have BN := Lib.hid hb3; have HB3 := Lib.hid (below_step HB.out hw3); have C1 := Lib.hid (blk_below B1.out hw3); clear hb3 hw3 B4 HB4 HG4))
   clear x0 x1 x2 x3 x4 x5 x6 B1 HB
   have d0 : w3.cell? ⟨g1, 0, none⟩ = some (.slice (some ad) l.length c) := (blk_cell C1.out 0).trans rfl
   have d1 : w3.cell? ⟨g1, 1, none⟩ = some (.int .i64 a1) := (blk_cell C1.out 1).trans rfl
   have n0 : w3.cell? ⟨g4, 0, none⟩ = some (.int .i64 x.f0) := (blk_cell BN.out 0).trans rfl
   have n1 : w3.cell? ⟨g4, 1, none⟩ = some (.int .i64 x.f1) := (blk_cell BN.out 1).trans rfl
   have n2 : w3.cell? ⟨g4, 2, none⟩ = some (.int .i64 x.f2) := (blk_cell BN.out 2).trans rfl
   have n3 : w3.cell? ⟨g4, 3, none⟩ = some (.int .i64 x.f3) := (blk_cell BN.out 3).trans rfl
   have n4 : w3.cell? ⟨g4, 4, none⟩ = some (.int .i64 x.f4) := (blk_cell BN.out 4).trans rfl
   have n5 : w3.cell? ⟨g4, 5, none⟩ = some (.string x.f5) := (blk_cell BN.out 5).trans rfl
   have n6 : w3.cell? ⟨g4, 6, none⟩ = some (.slice A6 x.f6.length c6) := (blk_cell BN.out 6).trans rfl
   have HPV3 : Hid (bz = true → 0 ≤ wrap64 ((i : Int) - 1) ∧ wrap64 ((i : Int) - 1) < (l.length : Int) ∧ w3.cell? (ad.add ((wrap64 ((i : Int) - 1)).toNat * 7)) = some (.int .i64 (rd_T44 l (wrap64 ((i : Int) - 1))).f0)) := Lib.hid (fun h => ⟨(HPV.out h).1, (HPV.out h).2.1, cellB (HPV.out h).2.2 HB3.out⟩)
   clear HPV
   rcases hcase with ⟨hna, hbad⟩ | ⟨hna, rfl, rfl, hgood⟩
   ·
    have HC8 : Hid (chk l a1 = 80) := Lib.hid (nodes_bad HLT.out hna)
    rcases hbad with rfl | ⟨rfl, rfl⟩ | ⟨rfl, rfl, rfl, rfl⟩
    all_goals
     (try have hbv1 := hbv rfl)
     (try (have q0 : decide (0 ≤ wrap64 ((i : Int) - 1)) = true := decide_eq_true (HPV3.out rfl).1))
     (try (have q1 : decide (wrap64 ((i : Int) - 1) < (l.length : Int)) = true := decide_eq_true (HPV3.out rfl).2.1))
     (have hpv := HPV3.out; (try have q2 := eq_true (hpv rfl).1); (try have q3 := eq_true (hpv rfl).2.1))
     refine start_ (n := 26) (S := (fun w' => w'.cell? ⟨g4, 0, none⟩ = some (.int .i64 x.f0) ∧ w'.cell? ⟨g4, 1, none⟩ = some (.int .i64 x.f1) ∧ w'.cell? ⟨g4, 2, none⟩ = some (.int .i64 x.f2) ∧ w'.cell? ⟨g4, 3, none⟩ = some (.int .i64 x.f3) ∧ w'.cell? ⟨g4, 4, none⟩ = some (.int .i64 x.f4) ∧ w'.cell? ⟨g4, 5, none⟩ = some (.string x.f5) ∧ w'.cell? ⟨g4, 6, none⟩ = some (.slice A6 x.f6.length c6) ∧ w'.cell? ⟨g1, 0, none⟩ = some (.slice (some ad) l.length c) ∧ w'.cell? ⟨g1, 1, none⟩ = some (.int .i64 a1) ∧ (_ = true → w'.cell? (ad.add ((wrap64 ((i : Int) - 1)).toNat * 7)) = some (.int .i64 (rd_T44 l (wrap64 ((i : Int) - 1))).f0)))) (ds := []) #[false, false, false, false, false, false, false, false, false, false, false, false, false, false, false, false, false, false, false, false, false, false, false, false, false, false] (by kernel_rfl) rfl rfl ⟨n0, n1, n2, n3, n4, n5, n6, d0, d1, fun h => (hpv h).2.2⟩ (fun hHeld => ?_)
     (have HBD := Lib.hid (below_step HB3.out (Below.refl _ w3).drew); have CD := Lib.hid (blk_below C1.out (Below.refl _ w3).drew); clear hpv n0 n1 n2 n3 n4 n5 n6 d0 d1 HPV3 C1 HB3 BN; generalize World.drew _ = wd at HBD CD hHeld ⊢)
     iterate 1 (first | ((first | refine takeS_ 0 (N := some 47) (v := ?_) (a' := ?_) rfl rfl (by decide +kernel) (fun _ _ _ h => h) (Or.inl ⟨by rfl, ?_⟩) hHeld ?_ ?_); rotate_left; (rintro w' ⟨s0, s1, s2, s3, s4, s5, s6, t0, t1, sp⟩; go_simp; first | done | (with_reducible rfl) | rfl); rotate_left; (simp only [Act.put, List.setIfInBounds_toArray, List.set_cons_zero, List.set_cons_succ, i64_w, i32_w]; rfl)) | ((first | refine takeS_ 0 (N := some 47) (v := undef) (a' := ?_) rfl rfl (by decide +kernel) (fun _ _ _ h => h) (Or.inr ⟨by rfl, rfl⟩) hHeld ?_ ?_); rotate_left; (simp only [Act.put, List.setIfInBounds_toArray, List.set_cons_zero, List.set_cons_succ, i64_w, i32_w]; rfl)))
     refine oneS_ 1 (N := some 48) rfl rfl (by kernel_rfl) (by decide) (fun K hK => ?_)
     refine goes_ Tryd.func58 (by kernel_rfl) rfl #[.agg #[.int .i64 x.f0, .int .i64 x.f1, .int .i64 x.f2, .int .i64 x.f3, .int .i64 x.f4, .string x.f5, .slice A6 x.f6.length c6]] (by rfl) rfl rfl (by first | rfl | (simp [Act.eval]; done) | (simp [Act.eval, Act.put]; done)) ?_
     refine (tree_plain.calls _ x.f0 x.f1 x.f2 x.f3 x.f4 x.f5 A6 c6 x.f6 _ _ (Kd.C_below HRE.out HBD.out) HCE.out HPL.out).mono ?_
     (rintro e w5 ⟨rfl, hb5⟩; have HB5 := Lib.hid (below_step HBD.out hb5); have C5 := Lib.hid (blk_below CD.out hb5))
     refine ⟨_, rfl, ?_⟩
     refine hK.out _ _ (by obtain ⟨s0, s1, s2, s3, s4, s5, s6, t0, t1, sp⟩ := hHeld; exact ⟨cellB s0 hb5, cellB s1 hb5, cellB s2 hb5, cellB s3 hb5, cellB s4 hb5, cellB s5 hb5, cellB s6 hb5, cellB t0 hb5, cellB t1 hb5, fun h => cellB (sp h) hb5⟩) (fun hHeld => ?_)
     clear hK K
     refine norm_ (a' := ?_) ?_ ?_
     rotate_left
     ·
      show Act.put _ (some 48) _ = _
      simp only [Act.put, List.setIfInBounds_toArray, List.set_cons_zero, List.set_cons_succ, i64_w, i32_w]
      rfl
     iterate 5 (first | ((first | refine takeS_ 2 (N := some 49) (v := ?_) (a' := ?_) rfl rfl (by decide +kernel) (fun _ _ _ h => h) (Or.inl ⟨by rfl, ?_⟩) hHeld ?_ ?_ | refine takeS_ 3 (N := some 50) (v := ?_) (a' := ?_) rfl rfl (by decide +kernel) (fun _ _ _ h => h) (Or.inl ⟨by rfl, ?_⟩) hHeld ?_ ?_ | refine takeS_ 4 (N := some 51) (v := ?_) (a' := ?_) rfl rfl (by decide +kernel) (fun _ _ _ h => h) (Or.inl ⟨by rfl, ?_⟩) hHeld ?_ ?_ | refine takeS_ 5 (N := some 52) (v := ?_) (a' := ?_) rfl rfl (by decide +kernel) (fun _ _ _ h => h) (Or.inl ⟨by rfl, ?_⟩) hHeld ?_ ?_ | refine takeS_ 6 (N := some 53) (v := ?_) (a' := ?_) rfl rfl (by decide +kernel) (fun _ _ _ h => h) (Or.inl ⟨by rfl, ?_⟩) hHeld ?_ ?_); rotate_left; (rintro w' ⟨s0, s1, s2, s3, s4, s5, s6, t0, t1, sp⟩; (try have sp := sp rfl); go_simp; first | done | (with_reducible rfl) | rfl); rotate_left; (simp only [Act.put, List.setIfInBounds_toArray, List.set_cons_zero, List.set_cons_succ, i64_w, i32_w]; rfl)) | ((first | refine takeS_ 2 (N := some 49) (v := undef) (a' := ?_) rfl rfl (by decide +kernel) (fun _ _ _ h => h) (Or.inr ⟨by rfl, rfl⟩) hHeld ?_ ?_ | refine takeS_ 3 (N := some 50) (v := undef) (a' := ?_) rfl rfl (by decide +kernel) (fun _ _ _ h => h) (Or.inr ⟨by rfl, rfl⟩) hHeld ?_ ?_ | refine takeS_ 4 (N := some 51) (v := undef) (a' := ?_) rfl rfl (by decide +kernel) (fun _ _ _ h => h) (Or.inr ⟨by rfl, rfl⟩) hHeld ?_ ?_ | refine takeS_ 5 (N := some 52) (v := undef) (a' := ?_) rfl rfl (by decide +kernel) (fun _ _ _ h => h) (Or.inr ⟨by rfl, rfl⟩) hHeld ?_ ?_ | refine takeS_ 6 (N := some 53) (v := undef) (a' := ?_) rfl rfl (by decide +kernel) (fun _ _ _ h => h) (Or.inr ⟨by rfl, rfl⟩) hHeld ?_ ?_); rotate_left; (simp only [Act.put, List.setIfInBounds_toArray, List.set_cons_zero, List.set_cons_succ, i64_w, i32_w]; rfl)))
     iterate 5 (first | ((first | refine takeS_ 7 (N := some 54) (v := ?_) (a' := ?_) rfl rfl (by decide +kernel) (fun _ _ _ h => h) (Or.inl ⟨by rfl, ?_⟩) hHeld ?_ ?_ | refine takeS_ 8 (N := some 55) (v := ?_) (a' := ?_) rfl rfl (by decide +kernel) (fun _ _ _ h => h) (Or.inl ⟨by rfl, ?_⟩) hHeld ?_ ?_ | refine takeS_ 9 (N := some 56) (v := ?_) (a' := ?_) rfl rfl (by decide +kernel) (fun _ _ _ h => h) (Or.inl ⟨by rfl, ?_⟩) hHeld ?_ ?_ | refine takeS_ 10 (N := some 57) (v := ?_) (a' := ?_) rfl rfl (by decide +kernel) (fun _ _ _ h => h) (Or.inl ⟨by rfl, ?_⟩) hHeld ?_ ?_ | refine takeS_ 11 (N := some 58) (v := ?_) (a' := ?_) rfl rfl (by decide +kernel) (fun _ _ _ h => h) (Or.inl ⟨by rfl, ?_⟩) hHeld ?_ ?_); rotate_left; (rintro w' ⟨s0, s1, s2, s3, s4, s5, s6, t0, t1, sp⟩; (try have sp := sp rfl); go_simp; first | done | (with_reducible rfl) | rfl); rotate_left; (simp only [Act.put, List.setIfInBounds_toArray, List.set_cons_zero, List.set_cons_succ, i64_w, i32_w]; rfl)) | ((first | refine takeS_ 7 (N := some 54) (v := undef) (a' := ?_) rfl rfl (by decide +kernel) (fun _ _ _ h => h) (Or.inr ⟨by rfl, rfl⟩) hHeld ?_ ?_ | refine takeS_ 8 (N := some 55) (v := undef) (a' := ?_) rfl rfl (by decide +kernel) (fun _ _ _ h => h) (Or.inr ⟨by rfl, rfl⟩) hHeld ?_ ?_ | refine takeS_ 9 (N := some 56) (v := undef) (a' := ?_) rfl rfl (by decide +kernel) (fun _ _ _ h => h) (Or.inr ⟨by rfl, rfl⟩) hHeld ?_ ?_ | refine takeS_ 10 (N := some 57) (v := undef) (a' := ?_) rfl rfl (by decide +kernel) (fun _ _ _ h => h) (Or.inr ⟨by rfl, rfl⟩) hHeld ?_ ?_ | refine takeS_ 11 (N := some 58) (v := undef) (a' := ?_) rfl rfl (by decide +kernel) (fun _ _ _ h => h) (Or.inr ⟨by rfl, rfl⟩) hHeld ?_ ?_); rotate_left; (simp only [Act.put, List.setIfInBounds_toArray, List.set_cons_zero, List.set_cons_succ, i64_w, i32_w]; rfl)))
     iterate 5 (first | ((first | refine takeS_ 12 (N := some 59) (v := ?_) (a' := ?_) rfl rfl (by decide +kernel) (fun _ _ _ h => h) (Or.inl ⟨by rfl, ?_⟩) hHeld ?_ ?_ | refine takeS_ 13 (N := some 60) (v := ?_) (a' := ?_) rfl rfl (by decide +kernel) (fun _ _ _ h => h) (Or.inl ⟨by rfl, ?_⟩) hHeld ?_ ?_ | refine takeS_ 14 (N := some 61) (v := ?_) (a' := ?_) rfl rfl (by decide +kernel) (fun _ _ _ h => h) (Or.inl ⟨by rfl, ?_⟩) hHeld ?_ ?_ | refine takeS_ 15 (N := some 62) (v := ?_) (a' := ?_) rfl rfl (by decide +kernel) (fun _ _ _ h => h) (Or.inl ⟨by rfl, ?_⟩) hHeld ?_ ?_ | refine takeS_ 16 (N := some 63) (v := ?_) (a' := ?_) rfl rfl (by decide +kernel) (fun _ _ _ h => h) (Or.inl ⟨by rfl, ?_⟩) hHeld ?_ ?_); rotate_left; (rintro w' ⟨s0, s1, s2, s3, s4, s5, s6, t0, t1, sp⟩; (try have sp := sp rfl); go_simp; first | done | (with_reducible rfl) | rfl); rotate_left; (simp only [Act.put, List.setIfInBounds_toArray, List.set_cons_zero, List.set_cons_succ, i64_w, i32_w]; rfl)) | ((first | refine takeS_ 12 (N := some 59) (v := undef) (a' := ?_) rfl rfl (by decide +kernel) (fun _ _ _ h => h) (Or.inr ⟨by rfl, rfl⟩) hHeld ?_ ?_ | refine takeS_ 13 (N := some 60) (v := undef) (a' := ?_) rfl rfl (by decide +kernel) (fun _ _ _ h => h) (Or.inr ⟨by rfl, rfl⟩) hHeld ?_ ?_ | refine takeS_ 14 (N := some 61) (v := undef) (a' := ?_) rfl rfl (by decide +kernel) (fun _ _ _ h => h) (Or.inr ⟨by rfl, rfl⟩) hHeld ?_ ?_ | refine takeS_ 15 (N := some 62) (v := undef) (a' := ?_) rfl rfl (by decide +kernel) (fun _ _ _ h => h) (Or.inr ⟨by rfl, rfl⟩) hHeld ?_ ?_ | refine takeS_ 16 (N := some 63) (v := undef) (a' := ?_) rfl rfl (by decide +kernel) (fun _ _ _ h => h) (Or.inr ⟨by rfl, rfl⟩) hHeld ?_ ?_); rotate_left; (simp only [Act.put, List.setIfInBounds_toArray, List.set_cons_zero, List.set_cons_succ, i64_w, i32_w]; rfl)))
     iterate 5 (first | ((first | refine takeS_ 17 (N := some 64) (v := ?_) (a' := ?_) rfl rfl (by decide +kernel) (fun _ _ _ h => h) (Or.inl ⟨by rfl, ?_⟩) hHeld ?_ ?_ | refine takeS_ 18 (N := some 65) (v := ?_) (a' := ?_) rfl rfl (by decide +kernel) (fun _ _ _ h => h) (Or.inl ⟨by rfl, ?_⟩) hHeld ?_ ?_ | refine takeS_ 19 (N := some 66) (v := ?_) (a' := ?_) rfl rfl (by decide +kernel) (fun _ _ _ h => h) (Or.inl ⟨by rfl, ?_⟩) hHeld ?_ ?_ | refine takeS_ 20 (N := some 67) (v := ?_) (a' := ?_) rfl rfl (by decide +kernel) (fun _ _ _ h => h) (Or.inl ⟨by rfl, ?_⟩) hHeld ?_ ?_ | refine takeS_ 21 (N := some 68) (v := ?_) (a' := ?_) rfl rfl (by decide +kernel) (fun _ _ _ h => h) (Or.inl ⟨by rfl, ?_⟩) hHeld ?_ ?_); rotate_left; (rintro w' ⟨s0, s1, s2, s3, s4, s5, s6, t0, t1, sp⟩; (try have sp := sp rfl); go_simp; first | done | (with_reducible rfl) | rfl); rotate_left; (simp only [Act.put, List.setIfInBounds_toArray, List.set_cons_zero, List.set_cons_succ, i64_w, i32_w]; rfl)) | ((first | refine takeS_ 17 (N := some 64) (v := undef) (a' := ?_) rfl rfl (by decide +kernel) (fun _ _ _ h => h) (Or.inr ⟨by rfl, rfl⟩) hHeld ?_ ?_ | refine takeS_ 18 (N := some 65) (v := undef) (a' := ?_) rfl rfl (by decide +kernel) (fun _ _ _ h => h) (Or.inr ⟨by rfl, rfl⟩) hHeld ?_ ?_ | refine takeS_ 19 (N := some 66) (v := undef) (a' := ?_) rfl rfl (by decide +kernel) (fun _ _ _ h => h) (Or.inr ⟨by rfl, rfl⟩) hHeld ?_ ?_ | refine takeS_ 20 (N := some 67) (v := undef) (a' := ?_) rfl rfl (by decide +kernel) (fun _ _ _ h => h) (Or.inr ⟨by rfl, rfl⟩) hHeld ?_ ?_ | refine takeS_ 21 (N := some 68) (v := undef) (a' := ?_) rfl rfl (by decide +kernel) (fun _ _ _ h => h) (Or.inr ⟨by rfl, rfl⟩) hHeld ?_ ?_); rotate_left; (simp only [Act.put, List.setIfInBounds_toArray, List.set_cons_zero, List.set_cons_succ, i64_w, i32_w]; rfl)))
     iterate 4 (first | ((first | refine takeS_ 22 (N := some 69) (v := ?_) (a' := ?_) rfl rfl (by decide +kernel) (fun _ _ _ h => h) (Or.inl ⟨by rfl, ?_⟩) hHeld ?_ ?_ | refine takeS_ 23 (N := some 70) (v := ?_) (a' := ?_) rfl rfl (by decide +kernel) (fun _ _ _ h => h) (Or.inl ⟨by rfl, ?_⟩) hHeld ?_ ?_ | refine takeS_ 24 (N := some 71) (v := ?_) (a' := ?_) rfl rfl (by decide +kernel) (fun _ _ _ h => h) (Or.inl ⟨by rfl, ?_⟩) hHeld ?_ ?_ | refine takeS_ 25 (N := some 72) (v := ?_) (a' := ?_) rfl rfl (by decide +kernel) (fun _ _ _ h => h) (Or.inl ⟨by rfl, ?_⟩) hHeld ?_ ?_); rotate_left; (rintro w' ⟨s0, s1, s2, s3, s4, s5, s6, t0, t1, sp⟩; (try have sp := sp rfl); go_simp; first | done | (with_reducible rfl) | rfl); rotate_left; (simp only [Act.put, List.setIfInBounds_toArray, List.set_cons_zero, List.set_cons_succ, i64_w, i32_w]; rfl)) | ((first | refine takeS_ 22 (N := some 69) (v := undef) (a' := ?_) rfl rfl (by decide +kernel) (fun _ _ _ h => h) (Or.inr ⟨by rfl, rfl⟩) hHeld ?_ ?_ | refine takeS_ 23 (N := some 70) (v := undef) (a' := ?_) rfl rfl (by decide +kernel) (fun _ _ _ h => h) (Or.inr ⟨by rfl, rfl⟩) hHeld ?_ ?_ | refine takeS_ 24 (N := some 71) (v := undef) (a' := ?_) rfl rfl (by decide +kernel) (fun _ _ _ h => h) (Or.inr ⟨by rfl, rfl⟩) hHeld ?_ ?_ | refine takeS_ 25 (N := some 72) (v := undef) (a' := ?_) rfl rfl (by decide +kernel) (fun _ _ _ h => h) (Or.inr ⟨by rfl, rfl⟩) hHeld ?_ ?_); rotate_left; (simp only [Act.put, List.setIfInBounds_toArray, List.set_cons_zero, List.set_cons_succ, i64_w, i32_w]; rfl)))
     refine done_ (by kernel_rfl) ?_
     go_wp2
     go_ret
     exact ⟨by rw [HC8.out]; rfl, HB5.out⟩
   ·
    rcases hgood with rfl | ⟨rfl, rfl⟩
    all_goals
     (try have hbv1 := hbv rfl)
     (try (have q0 : decide (0 ≤ wrap64 ((i : Int) - 1)) = true := decide_eq_true (HPV3.out rfl).1))
     (try (have q1 : decide (wrap64 ((i : Int) - 1) < (l.length : Int)) = true := decide_eq_true (HPV3.out rfl).2.1))
     (have hpv := HPV3.out; (try have q2 := eq_true (hpv rfl).1); (try have q3 := eq_true (hpv rfl).2.1))
     refine start_ (n := 26) (S := (fun w' => w'.cell? ⟨g4, 0, none⟩ = some (.int .i64 x.f0) ∧ w'.cell? ⟨g4, 1, none⟩ = some (.int .i64 x.f1) ∧ w'.cell? ⟨g4, 2, none⟩ = some (.int .i64 x.f2) ∧ w'.cell? ⟨g4, 3, none⟩ = some (.int .i64 x.f3) ∧ w'.cell? ⟨g4, 4, none⟩ = some (.int .i64 x.f4) ∧ w'.cell? ⟨g4, 5, none⟩ = some (.string x.f5) ∧ w'.cell? ⟨g4, 6, none⟩ = some (.slice A6 x.f6.length c6) ∧ w'.cell? ⟨g1, 0, none⟩ = some (.slice (some ad) l.length c) ∧ w'.cell? ⟨g1, 1, none⟩ = some (.int .i64 a1) ∧ (_ = true → w'.cell? (ad.add ((wrap64 ((i : Int) - 1)).toNat * 7)) = some (.int .i64 (rd_T44 l (wrap64 ((i : Int) - 1))).f0)))) (ds := []) #[false, false, false, false, false, false, false, false, false, false, false, false, false, false, false, false, false, false, false, false, false, false, false, false, false, false] (by kernel_rfl) rfl rfl ⟨n0, n1, n2, n3, n4, n5, n6, d0, d1, fun h => (hpv h).2.2⟩ (fun hHeld => ?_)
     (have HBD := Lib.hid (below_step HB3.out (Below.refl _ w3).drew); have CD := Lib.hid (blk_below C1.out (Below.refl _ w3).drew); clear hpv n0 n1 n2 n3 n4 n5 n6 d0 d1 HPV3 C1 HB3 BN; generalize World.drew _ = wd at HBD CD hHeld ⊢)
     iterate 1 (first | ((first | refine takeS_ 0 (N := some 47) (v := ?_) (a' := ?_) rfl rfl (by decide +kernel) (fun _ _ _ h => h) (Or.inl ⟨by rfl, ?_⟩) hHeld ?_ ?_); rotate_left; (rintro w' ⟨s0, s1, s2, s3, s4, s5, s6, t0, t1, sp⟩; go_simp; first | done | (with_reducible rfl) | rfl); rotate_left; (simp only [Act.put, List.setIfInBounds_toArray, List.set_cons_zero, List.set_cons_succ, i64_w, i32_w]; rfl)) | ((first | refine takeS_ 0 (N := some 47) (v := undef) (a' := ?_) rfl rfl (by decide +kernel) (fun _ _ _ h => h) (Or.inr ⟨by rfl, rfl⟩) hHeld ?_ ?_); rotate_left; (simp only [Act.put, List.setIfInBounds_toArray, List.set_cons_zero, List.set_cons_succ, i64_w, i32_w]; rfl)))
     refine oneS_ 1 (N := some 48) rfl rfl (by kernel_rfl) (by decide) (fun K hK => ?_)
     refine goes_ Tryd.func58 (by kernel_rfl) rfl #[.agg #[.int .i64 x.f0, .int .i64 x.f1, .int .i64 x.f2, .int .i64 x.f3, .int .i64 x.f4, .string x.f5, .slice A6 x.f6.length c6]] (by rfl) rfl rfl (by first | rfl | (simp [Act.eval]; done) | (simp [Act.eval, Act.put]; done)) ?_
     refine (tree_plain.calls _ x.f0 x.f1 x.f2 x.f3 x.f4 x.f5 A6 c6 x.f6 _ _ (Kd.C_below HRE.out HBD.out) HCE.out HPL.out).mono ?_
     (rintro e w5 ⟨rfl, hb5⟩; have HB5 := Lib.hid (below_step HBD.out hb5); have C5 := Lib.hid (blk_below CD.out hb5))
     refine ⟨_, rfl, ?_⟩
     refine hK.out _ _ (by obtain ⟨s0, s1, s2, s3, s4, s5, s6, t0, t1, sp⟩ := hHeld; exact ⟨cellB s0 hb5, cellB s1 hb5, cellB s2 hb5, cellB s3 hb5, cellB s4 hb5, cellB s5 hb5, cellB s6 hb5, cellB t0 hb5, cellB t1 hb5, fun h => cellB (sp h) hb5⟩) (fun hHeld => ?_)
     clear hK K
     refine norm_ (a' := ?_) ?_ ?_
     rotate_left
     ·
      show Act.put _ (some 48) _ = _
      simp only [Act.put, List.setIfInBounds_toArray, List.set_cons_zero, List.set_cons_succ, i64_w, i32_w]
      rfl
     iterate 5 (first | ((first | refine takeS_ 2 (N := some 49) (v := ?_) (a' := ?_) rfl rfl (by decide +kernel) (fun _ _ _ h => h) (Or.inl ⟨by rfl, ?_⟩) hHeld ?_ ?_ | refine takeS_ 3 (N := some 50) (v := ?_) (a' := ?_) rfl rfl (by decide +kernel) (fun _ _ _ h => h) (Or.inl ⟨by rfl, ?_⟩) hHeld ?_ ?_ | refine takeS_ 4 (N := some 51) (v := ?_) (a' := ?_) rfl rfl (by decide +kernel) (fun _ _ _ h => h) (Or.inl ⟨by rfl, ?_⟩) hHeld ?_ ?_ | refine takeS_ 5 (N := some 52) (v := ?_) (a' := ?_) rfl rfl (by decide +kernel) (fun _ _ _ h => h) (Or.inl ⟨by rfl, ?_⟩) hHeld ?_ ?_ | refine takeS_ 6 (N := some 53) (v := ?_) (a' := ?_) rfl rfl (by decide +kernel) (fun _ _ _ h => h) (Or.inl ⟨by rfl, ?_⟩) hHeld ?_ ?_); rotate_left; (rintro w' ⟨s0, s1, s2, s3, s4, s5, s6, t0, t1, sp⟩; (try have sp := sp rfl); go_simp; first | done | (with_reducible rfl) | rfl); rotate_left; (simp only [Act.put, List.setIfInBounds_toArray, List.set_cons_zero, List.set_cons_succ, i64_w, i32_w]; rfl)) | ((first | refine takeS_ 2 (N := some 49) (v := undef) (a' := ?_) rfl rfl (by decide +kernel) (fun _ _ _ h => h) (Or.inr ⟨by rfl, rfl⟩) hHeld ?_ ?_ | refine takeS_ 3 (N := some 50) (v := undef) (a' := ?_) rfl rfl (by decide +kernel) (fun _ _ _ h => h) (Or.inr ⟨by rfl, rfl⟩) hHeld ?_ ?_ | refine takeS_ 4 (N := some 51) (v := undef) (a' := ?_) rfl rfl (by decide +kernel) (fun _ _ _ h => h) (Or.inr ⟨by rfl, rfl⟩) hHeld ?_ ?_ | refine takeS_ 5 (N := some 52) (v := undef) (a' := ?_) rfl rfl (by decide +kernel) (fun _ _ _ h => h) (Or.inr ⟨by rfl, rfl⟩) hHeld ?_ ?_ | refine takeS_ 6 (N := some 53) (v := undef) (a' := ?_) rfl rfl (by decide +kernel) (fun _ _ _ h => h) (Or.inr ⟨by rfl, rfl⟩) hHeld ?_ ?_); rotate_left; (simp only [Act.put, List.setIfInBounds_toArray, List.set_cons_zero, List.set_cons_succ, i64_w, i32_w]; rfl)))
     iterate 5 (first | ((first | refine takeS_ 7 (N := some 54) (v := ?_) (a' := ?_) rfl rfl (by decide +kernel) (fun _ _ _ h => h) (Or.inl ⟨by rfl, ?_⟩) hHeld ?_ ?_ | refine takeS_ 8 (N := some 55) (v := ?_) (a' := ?_) rfl rfl (by decide +kernel) (fun _ _ _ h => h) (Or.inl ⟨by rfl, ?_⟩) hHeld ?_ ?_ | refine takeS_ 9 (N := some 56) (v := ?_) (a' := ?_) rfl rfl (by decide +kernel) (fun _ _ _ h => h) (Or.inl ⟨by rfl, ?_⟩) hHeld ?_ ?_ | refine takeS_ 10 (N := some 57) (v := ?_) (a' := ?_) rfl rfl (by decide +kernel) (fun _ _ _ h => h) (Or.inl ⟨by rfl, ?_⟩) hHeld ?_ ?_ | refine takeS_ 11 (N := some 58) (v := ?_) (a' := ?_) rfl rfl (by decide +kernel) (fun _ _ _ h => h) (Or.inl ⟨by rfl, ?_⟩) hHeld ?_ ?_); rotate_left; (rintro w' ⟨s0, s1, s2, s3, s4, s5, s6, t0, t1, sp⟩; (try have sp := sp rfl); go_simp; first | done | (with_reducible rfl) | rfl); rotate_left; (simp only [Act.put, List.setIfInBounds_toArray, List.set_cons_zero, List.set_cons_succ, i64_w, i32_w]; rfl)) | ((first | refine takeS_ 7 (N := some 54) (v := undef) (a' := ?_) rfl rfl (by decide +kernel) (fun _ _ _ h => h) (Or.inr ⟨by rfl, rfl⟩) hHeld ?_ ?_ | refine takeS_ 8 (N := some 55) (v := undef) (a' := ?_) rfl rfl (by decide +kernel) (fun _ _ _ h => h) (Or.inr ⟨by rfl, rfl⟩) hHeld ?_ ?_ | refine takeS_ 9 (N := some 56) (v := undef) (a' := ?_) rfl rfl (by decide +kernel) (fun _ _ _ h => h) (Or.inr ⟨by rfl, rfl⟩) hHeld ?_ ?_ | refine takeS_ 10 (N := some 57) (v := undef) (a' := ?_) rfl rfl (by decide +kernel) (fun _ _ _ h => h) (Or.inr ⟨by rfl, rfl⟩) hHeld ?_ ?_ | refine takeS_ 11 (N := some 58) (v := undef) (a' := ?_) rfl rfl (by decide +kernel) (fun _ _ _ h => h) (Or.inr ⟨by rfl, rfl⟩) hHeld ?_ ?_); rotate_left; (simp only [Act.put, List.setIfInBounds_toArray, List.set_cons_zero, List.set_cons_succ, i64_w, i32_w]; rfl)))
     iterate 5 (first | ((first | refine takeS_ 12 (N := some 59) (v := ?_) (a' := ?_) rfl rfl (by decide +kernel) (fun _ _ _ h => h) (Or.inl ⟨by rfl, ?_⟩) hHeld ?_ ?_ | refine takeS_ 13 (N := some 60) (v := ?_) (a' := ?_) rfl rfl (by decide +kernel) (fun _ _ _ h => h) (Or.inl ⟨by rfl, ?_⟩) hHeld ?_ ?_ | refine takeS_ 14 (N := some 61) (v := ?_) (a' := ?_) rfl rfl (by decide +kernel) (fun _ _ _ h => h) (Or.inl ⟨by rfl, ?_⟩) hHeld ?_ ?_ | refine takeS_ 15 (N := some 62) (v := ?_) (a' := ?_) rfl rfl (by decide +kernel) (fun _ _ _ h => h) (Or.inl ⟨by rfl, ?_⟩) hHeld ?_ ?_ | refine takeS_ 16 (N := some 63) (v := ?_) (a' := ?_) rfl rfl (by decide +kernel) (fun _ _ _ h => h) (Or.inl ⟨by rfl, ?_⟩) hHeld ?_ ?_); rotate_left; (rintro w' ⟨s0, s1, s2, s3, s4, s5, s6, t0, t1, sp⟩; (try have sp := sp rfl); go_simp; first | done | (with_reducible rfl) | rfl); rotate_left; (simp only [Act.put, List.setIfInBounds_toArray, List.set_cons_zero, List.set_cons_succ, i64_w, i32_w]; rfl)) | ((first | refine takeS_ 12 (N := some 59) (v := undef) (a' := ?_) rfl rfl (by decide +kernel) (fun _ _ _ h => h) (Or.inr ⟨by rfl, rfl⟩) hHeld ?_ ?_ | refine takeS_ 13 (N := some 60) (v := undef) (a' := ?_) rfl rfl (by decide +kernel) (fun _ _ _ h => h) (Or.inr ⟨by rfl, rfl⟩) hHeld ?_ ?_ | refine takeS_ 14 (N := some 61) (v := undef) (a' := ?_) rfl rfl (by decide +kernel) (fun _ _ _ h => h) (Or.inr ⟨by rfl, rfl⟩) hHeld ?_ ?_ | refine takeS_ 15 (N := some 62) (v := undef) (a' := ?_) rfl rfl (by decide +kernel) (fun _ _ _ h => h) (Or.inr ⟨by rfl, rfl⟩) hHeld ?_ ?_ | refine takeS_ 16 (N := some 63) (v := undef) (a' := ?_) rfl rfl (by decide +kernel) (fun _ _ _ h => h) (Or.inr ⟨by rfl, rfl⟩) hHeld ?_ ?_); rotate_left; (simp only [Act.put, List.setIfInBounds_toArray, List.set_cons_zero, List.set_cons_succ, i64_w, i32_w]; rfl)))
     iterate 5 (first | ((first | refine takeS_ 17 (N := some 64) (v := ?_) (a' := ?_) rfl rfl (by decide +kernel) (fun _ _ _ h => h) (Or.inl ⟨by rfl, ?_⟩) hHeld ?_ ?_ | refine takeS_ 18 (N := some 65) (v := ?_) (a' := ?_) rfl rfl (by decide +kernel) (fun _ _ _ h => h) (Or.inl ⟨by rfl, ?_⟩) hHeld ?_ ?_ | refine takeS_ 19 (N := some 66) (v := ?_) (a' := ?_) rfl rfl (by decide +kernel) (fun _ _ _ h => h) (Or.inl ⟨by rfl, ?_⟩) hHeld ?_ ?_ | refine takeS_ 20 (N := some 67) (v := ?_) (a' := ?_) rfl rfl (by decide +kernel) (fun _ _ _ h => h) (Or.inl ⟨by rfl, ?_⟩) hHeld ?_ ?_ | refine takeS_ 21 (N := some 68) (v := ?_) (a' := ?_) rfl rfl (by decide +kernel) (fun _ _ _ h => h) (Or.inl ⟨by rfl, ?_⟩) hHeld ?_ ?_); rotate_left; (rintro w' ⟨s0, s1, s2, s3, s4, s5, s6, t0, t1, sp⟩; (try have sp := sp rfl); go_simp; first | done | (with_reducible rfl) | rfl); rotate_left; (simp only [Act.put, List.setIfInBounds_toArray, List.set_cons_zero, List.set_cons_succ, i64_w, i32_w]; rfl)) | ((first | refine takeS_ 17 (N := some 64) (v := undef) (a' := ?_) rfl rfl (by decide +kernel) (fun _ _ _ h => h) (Or.inr ⟨by rfl, rfl⟩) hHeld ?_ ?_ | refine takeS_ 18 (N := some 65) (v := undef) (a' := ?_) rfl rfl (by decide +kernel) (fun _ _ _ h => h) (Or.inr ⟨by rfl, rfl⟩) hHeld ?_ ?_ | refine takeS_ 19 (N := some 66) (v := undef) (a' := ?_) rfl rfl (by decide +kernel) (fun _ _ _ h => h) (Or.inr ⟨by rfl, rfl⟩) hHeld ?_ ?_ | refine takeS_ 20 (N := some 67) (v := undef) (a' := ?_) rfl rfl (by decide +kernel) (fun _ _ _ h => h) (Or.inr ⟨by rfl, rfl⟩) hHeld ?_ ?_ | refine takeS_ 21 (N := some 68) (v := undef) (a' := ?_) rfl rfl (by decide +kernel) (fun _ _ _ h => h) (Or.inr ⟨by rfl, rfl⟩) hHeld ?_ ?_); rotate_left; (simp only [Act.put, List.setIfInBounds_toArray, List.set_cons_zero, List.set_cons_succ, i64_w, i32_w]; rfl)))
     iterate 4 (first | ((first | refine takeS_ 22 (N := some 69) (v := ?_) (a' := ?_) rfl rfl (by decide +kernel) (fun _ _ _ h => h) (Or.inl ⟨by rfl, ?_⟩) hHeld ?_ ?_ | refine takeS_ 23 (N := some 70) (v := ?_) (a' := ?_) rfl rfl (by decide +kernel) (fun _ _ _ h => h) (Or.inl ⟨by rfl, ?_⟩) hHeld ?_ ?_ | refine takeS_ 24 (N := some 71) (v := ?_) (a' := ?_) rfl rfl (by decide +kernel) (fun _ _ _ h => h) (Or.inl ⟨by rfl, ?_⟩) hHeld ?_ ?_ | refine takeS_ 25 (N := some 72) (v := ?_) (a' := ?_) rfl rfl (by decide +kernel) (fun _ _ _ h => h) (Or.inl ⟨by rfl, ?_⟩) hHeld ?_ ?_); rotate_left; (rintro w' ⟨s0, s1, s2, s3, s4, s5, s6, t0, t1, sp⟩; (try have sp := sp rfl); go_simp; first | done | (with_reducible rfl) | rfl); rotate_left; (simp only [Act.put, List.setIfInBounds_toArray, List.set_cons_zero, List.set_cons_succ, i64_w, i32_w]; rfl)) | ((first | refine takeS_ 22 (N := some 69) (v := undef) (a' := ?_) rfl rfl (by decide +kernel) (fun _ _ _ h => h) (Or.inr ⟨by rfl, rfl⟩) hHeld ?_ ?_ | refine takeS_ 23 (N := some 70) (v := undef) (a' := ?_) rfl rfl (by decide +kernel) (fun _ _ _ h => h) (Or.inr ⟨by rfl, rfl⟩) hHeld ?_ ?_ | refine takeS_ 24 (N := some 71) (v := undef) (a' := ?_) rfl rfl (by decide +kernel) (fun _ _ _ h => h) (Or.inr ⟨by rfl, rfl⟩) hHeld ?_ ?_ | refine takeS_ 25 (N := some 72) (v := undef) (a' := ?_) rfl rfl (by decide +kernel) (fun _ _ _ h => h) (Or.inr ⟨by rfl, rfl⟩) hHeld ?_ ?_); rotate_left; (simp only [Act.put, List.setIfInBounds_toArray, List.set_cons_zero, List.set_cons_succ, i64_w, i32_w]; rfl)))
     refine done_ (by kernel_rfl) ?_
     go_wp2
     go_roundw
     case rel => exact ⟨i + 1, HLT.out, by rw [HWR.out], Lib.hid (fun q hq => by by_cases e : q = i; exact e ▸ hna; exact HP.out q (by omega)), HB5, C5⟩
     case measure => exact meas_ _ _ HWR.out HLT.out
  ·
   obtain rfl : i = l.length := by omega
   have hn : nodesOK l a1 = true := List.all_eq_true.2 (fun q hq => HP.out q (List.mem_range.1 hq))
   have HBF := Lib.hid (chk_bfs HH.out hn)
   have HRI := Lib.hid (rises_of hn)
   have HIN : Hid (TG.Inv (idsL l) (tgts l) (dirL l) 0 [1]) := Lib.hid (TG.inv_start _ _ _ (by obtain ⟨hz, h1⟩ := head_one HH.out; exact mem_ids.2 ⟨_, List.getElem_mem hz, h1⟩))
   clear hi hlt HP hn
   go_wp2_with (first | (refine mp_put rfl (Or.inr rfl) (MapA.made _ KI KI) (keyI Tryd.underlying3) Tryd.underlying75 rfl (1 : Int) (1 : Int) (by rfl) (by rfl) ?_; intro wM hM1 hgM; have hbM := ((Below.refl wr.heap.size wr).alloc (Nat.le_refl _) (.map #[] 0)).grown hgM (by rw [World.size_alloc]; exact Nat.le_succ _) (fun k_ hk_ => by cases hk_; exact Nat.le_refl _); have HB2 := Lib.hid (below_step HB.out hbM); have C2 := Lib.hid (blk_below B1.out hbM); have em := below_size HB.out; clear hgM hbM HB B1; generalize wr.heap.size = gm at hM1 em ⊢; have MP := Lib.hid hM1; have EM := Lib.hid em; clear hM1 em) | ((with_reducible refine gate_dst (N := 76) rfl ?_); (try (refine gate_guard (by rfl) ?_; dsimp only)); refine Kd.R_lit (Kd.int .i64) _ 3 ?hg (N := 76) ?hd (xs := ([1] : List Int)) (inner := [.int .i64 1]) (ok := fun _ => True) (okp := fun _ => True) ?hr ?hp (fun _ hk => hk) trivial (Below.refl _ _) (Nat.le_refl _) (by simp) ?_; (case hd => rfl); (case hg => rfl); (case hr => first | (go_simp; done) | (go_simp; rfl)); (case hp => exact (Reps.one (show Kd.M (Kd.int .i64) _ _ _ 1 [.int .i64 1] from rfl) (Reps.none _ _))); intro v6 w55 ho56 hb hg_ hnew_; have KS : Hid (KSt w w55 g1 gm #[.slice (some ad) l.length c, .int .i64 a1, .int .i64 a2, .int .i64 a3] [(1, 1)] v6 [1]) := Lib.hid ⟨below_step HB2.out hb, blk_below C2.out hb, EM.out, MP.out.below hb, Kd.Q_of_R (Kd.R_lower ho56 (below_size HB2.out))⟩; clear HB2 C2 MP hb hg_ hnew_ ho56; obtain ⟨A6, c6, e6, _⟩ := Kd.Q_slice KS.out.q; subst e6))
   go_loopg [6] (l.length + 2) (fun F s6 wr => ∃ (j : Nat) (keys : List Int) (m : MapD), Hid (KSt w wr g1 gm #[.slice (some ad) l.length c, .int .i64 a1, .int .i64 a2, .int .i64 a3] m s6 (keys.drop j)) ∧ Hid (BInv l F j keys m))
   case atStart => exact ⟨0, [1], [(1, 1)], KS, Lib.hid ⟨rfl, HIN.out, fun k v h => by simp only [getA] at h; split at h <;> cases h; omega, by omega, rfl⟩⟩
   case round =>
    clear KS
    obtain ⟨j, keys, m, HK, HI⟩ := hrel
    cases gk with
    | zero => exact absurd HI.out (binv_zero _ _ _ _)
    | succ F =>
     obtain ⟨A6, c6, e6, _⟩ := Kd.Q_slice HK.out.q
     rw [List.length_drop] at e6
     subst e6
     by_cases hj : j < keys.length
     ·
      have hdl : (keys.drop j).length = keys.length - j := List.length_drop ..
      obtain ⟨t, ht, x, hxt, hxe⟩ := binv_node HI.out HRI.out hj
      obtain ⟨KP, hKP⟩ := place_in l a1 a2 a3 (by have := HLN.out; omega) HRI.out t ht
      have HPL : Hid (tree_place.f KP l a1 a2 a3 keys[j] = some ((t : Int), true)) := Lib.hid (by have := hKP KP (Nat.le_refl _); rw [hxt, hxe] at this; exact this)
      have hxl : x ∈ l := hxt ▸ List.getElem_mem ht
      have hrd : rd_T44 l (t : Int) = x := (rdN l t ht).trans hxt
      have HX : Hid (x.f6.length ≤ 5864062014805) := Lib.hid (HEE.out x hxl)
      have HTG : Hid (tgts l keys[j] = x.f6.map (·.f1)) := Lib.hid (by rw [← hxe, ← hxt]; exact tgts_at HRI.out t ht)
      obtain ⟨ad6, ea6, y0⟩ := Kd.at_int (Kd.Q_reads' HK.out.q).2.2 0 (by omega) (by omega)
      cases ea6
      rw [show ((0 : Int)).toNat = 0 from rfl, Addr.add_zero', show rd (keys.drop j) 0 = keys[j] from by rw [List.drop_eq_getElem_cons hj]; rfl] at y0
      have j0 : decide ((0 : Int) < ((keys.length - j : Nat) : Int)) = true := decide_eq_true (by omega)
      have j1 : decide (0 < keys.length - j) = true := decide_eq_true (by omega)
      have j2 : (0 < keys.length - j) = True := eq_true (by omega)
      have j3 : decide (j < keys.length) = true := decide_eq_true hj
      have HJ := Lib.hid hj
      have HT := Lib.hid ht
      obtain ⟨ad', A5, c5, ea, x0, x1, x2, x3, x4, x5, x6, hl6, hi6⟩ := at_T44 HR0.out (t : Int) (by omega) (by omega)
      cases ea
      rw [hrd] at x6 hl6 hi6
      rw [Int.toNat_natCast] at x6
      clear x0 x1 x2 x3 x4 x5 hKP hrd hxt hxe hxl ht hdl
      have HE6 := Lib.hid hi6
      have HX6 := Lib.hid x6
      clear hi6 hl6 x6
      have d0 : wr.cell? ⟨g1, 0, none⟩ = some (.slice (some ad) l.length c) := (blk_cell HK.out.b1 0).trans rfl
      have d1 : wr.cell? ⟨g1, 1, none⟩ = some (.int .i64 a1) := (blk_cell HK.out.b1 1).trans rfl
      have d2 : wr.cell? ⟨g1, 2, none⟩ = some (.int .i64 a2) := (blk_cell HK.out.b1 2).trans rfl
      have d3 : wr.cell? ⟨g1, 3, none⟩ = some (.int .i64 a3) := (blk_cell HK.out.b1 3).trans rfl
      go_wp2
      refine start_ (n := 10) (S := (fun w' => w'.cell? ⟨g1, 0, none⟩ = some (.slice (some ad) l.length c) ∧ w'.cell? ⟨g1, 1, none⟩ = some (.int .i64 a1) ∧ w'.cell? ⟨g1, 2, none⟩ = some (.int .i64 a2) ∧ w'.cell? ⟨g1, 3, none⟩ = some (.int .i64 a3) ∧ w'.cell? ad6 = some (.int .i64 keys[j]))) (ds := [4]) #[false, false, false, false, false, false, false, false, false, false] (by kernel_rfl) rfl rfl ⟨d0, d1, d2, d3, y0⟩ (fun hHeld => ?_)
      have HK1 := Lib.hid (HK.out.below (Below.refl _ wr).drew)
      clear HK d0 d1 d2 d3 y0
      generalize World.drew _ = wd at HK1 hHeld ⊢
      iterate 4 (first | ((first | refine takeS_ 0 (N := some 83) (v := ?_) (a' := ?_) rfl rfl (by decide +kernel) (fun _ _ _ h => h) (Or.inl ⟨by rfl, ?_⟩) hHeld ?_ ?_ | refine takeS_ 1 (N := some 84) (v := ?_) (a' := ?_) rfl rfl (by decide +kernel) (fun _ _ _ h => h) (Or.inl ⟨by rfl, ?_⟩) hHeld ?_ ?_ | refine takeS_ 2 (N := some 85) (v := ?_) (a' := ?_) rfl rfl (by decide +kernel) (fun _ _ _ h => h) (Or.inl ⟨by rfl, ?_⟩) hHeld ?_ ?_ | refine takeS_ 3 (N := some 86) (v := ?_) (a' := ?_) rfl rfl (by decide +kernel) (fun _ _ _ h => h) (Or.inl ⟨by rfl, ?_⟩) hHeld ?_ ?_); rotate_left; (rintro w' ⟨s0, s1, s2, s3, s4⟩; go_simp; first | done | (with_reducible rfl) | rfl); rotate_left; (simp only [Act.put, List.setIfInBounds_toArray, List.set_cons_zero, List.set_cons_succ, i64_w, i32_w]; rfl)) | ((first | refine takeS_ 0 (N := some 83) (v := undef) (a' := ?_) rfl rfl (by decide +kernel) (fun _ _ _ h => h) (Or.inr ⟨by rfl, rfl⟩) hHeld ?_ ?_ | refine takeS_ 1 (N := some 84) (v := undef) (a' := ?_) rfl rfl (by decide +kernel) (fun _ _ _ h => h) (Or.inr ⟨by rfl, rfl⟩) hHeld ?_ ?_ | refine takeS_ 2 (N := some 85) (v := undef) (a' := ?_) rfl rfl (by decide +kernel) (fun _ _ _ h => h) (Or.inr ⟨by rfl, rfl⟩) hHeld ?_ ?_ | refine takeS_ 3 (N := some 86) (v := undef) (a' := ?_) rfl rfl (by decide +kernel) (fun _ _ _ h => h) (Or.inr ⟨by rfl, rfl⟩) hHeld ?_ ?_); rotate_left; (simp only [Act.put, List.setIfInBounds_toArray, List.set_cons_zero, List.set_cons_succ, i64_w, i32_w]; rfl)))
      refine lastS_ 4 (N := some 87) rfl rfl (by kernel_rfl) (by decide) (fun K hK => ?_)
      refine goes_ Tryd.func59 (by kernel_rfl) rfl #[.agg #[.slice (some ad) l.length c, .int .i64 a1, .int .i64 a2, .int .i64 a3], .int .i64 keys[j]] (by rfl) rfl rfl (by first | rfl | (simp [Act.eval]; done) | (simp [Act.eval, Act.put]; done)) ?_
      refine (tree_place.calls KP _ _ l a1 a2 a3 keys[j] (t : Int) true _ (Kd.C_below HR0.out HK1.out.hb) HC0.out HPL.out).mono ?_
      rintro e w5 ⟨rfl, hb5⟩
      have HK5 := Lib.hid (HK1.out.below hb5)
      clear HK1 hb5
      refine ⟨_, rfl, ?_⟩
      refine hK.out _ _ ?_
      clear hK K
      refine norm_ (a' := ?_) ?_ ?_
      rotate_left
      ·
       show Act.put _ (some 87) _ = _
       simp only [Act.put, List.setIfInBounds_toArray, List.set_cons_zero, List.set_cons_succ, i64_w, i32_w]
       rfl
      iterate 5 (first | ((first | refine pureS_ 5 (N := some 82) (v := ?_) (a' := ?_) rfl rfl (by decide +kernel) (fun _ _ _ h => h) (Or.inl ⟨by rfl, ?_⟩) ?_ ?_ | refine pureS_ 6 (N := some 88) (v := ?_) (a' := ?_) rfl rfl (by decide +kernel) (fun _ _ _ h => h) (Or.inl ⟨by rfl, ?_⟩) ?_ ?_ | refine pureS_ 7 (N := some 89) (v := ?_) (a' := ?_) rfl rfl (by decide +kernel) (fun _ _ _ h => h) (Or.inl ⟨by rfl, ?_⟩) ?_ ?_ | refine pureS_ 8 (N := some 7) (v := ?_) (a' := ?_) rfl rfl (by decide +kernel) (fun _ _ _ h => h) (Or.inl ⟨by rfl, ?_⟩) ?_ ?_ | refine pureS_ 9 (N := some 8) (v := ?_) (a' := ?_) rfl rfl (by decide +kernel) (fun _ _ _ h => h) (Or.inl ⟨by rfl, ?_⟩) ?_ ?_); rotate_left; (intro w'; go_simp; first | done | (with_reducible rfl) | rfl); rotate_left; (simp only [Act.put, List.setIfInBounds_toArray, List.set_cons_zero, List.set_cons_succ, i64_w, i32_w]; rfl)) | ((first | refine pureS_ 5 (N := some 82) (v := undef) (a' := ?_) rfl rfl (by decide +kernel) (fun _ _ _ h => h) (Or.inr ⟨by rfl, rfl⟩) ?_ ?_ | refine pureS_ 6 (N := some 88) (v := undef) (a' := ?_) rfl rfl (by decide +kernel) (fun _ _ _ h => h) (Or.inr ⟨by rfl, rfl⟩) ?_ ?_ | refine pureS_ 7 (N := some 89) (v := undef) (a' := ?_) rfl rfl (by decide +kernel) (fun _ _ _ h => h) (Or.inr ⟨by rfl, rfl⟩) ?_ ?_ | refine pureS_ 8 (N := some 7) (v := undef) (a' := ?_) rfl rfl (by decide +kernel) (fun _ _ _ h => h) (Or.inr ⟨by rfl, rfl⟩) ?_ ?_ | refine pureS_ 9 (N := some 8) (v := undef) (a' := ?_) rfl rfl (by decide +kernel) (fun _ _ _ h => h) (Or.inr ⟨by rfl, rfl⟩) ?_ ?_); rotate_left; (simp only [Act.put, List.setIfInBounds_toArray, List.set_cons_zero, List.set_cons_succ, i64_w, i32_w]; rfl)))
      refine done_ (by kernel_rfl) ?_
      have d0 : w5.cell? ⟨g1, 0, none⟩ = some (.slice (some ad) l.length c) := (blk_cell HK5.out.b1 0).trans rfl
      have x6 := cellB HX6.out HK5.out.hb
      have t0 : decide (0 ≤ (t : Int)) = true := decide_eq_true (by omega)
      have t1 : decide ((t : Int) < (l.length : Int)) = true := decide_eq_true (by have := HT.out; omega)
      go_wp2
      go_loopw [97, 6] (fun s97 s6 wr => ∃ (q : Nat) (keys' : List Int) (m' : MapD), q ≤ x.f6.length ∧ s97 = .int .i64 q ∧ Hid (KSt w wr g1 gm #[.slice (some ad) l.length c, .int .i64 a1, .int .i64 a2, .int .i64 a3] m' s6 (keys'.drop j)) ∧ Hid (VInv l keys j x.f6 q keys' m')) (fun s97 s6 _ => x.f6.length - (intOf s97).toNat)
      case atStart => exact ⟨0, keys, m, Nat.zero_le _, rfl, HK5, Lib.hid (vinv_start HI.out HJ.out)⟩
      case round =>
       clear HK5 d0 x6
       obtain ⟨q, keys', m', hq, rfl, HK, HV⟩ := hrel
       obtain ⟨A6, c6, e6, _⟩ := Kd.Q_slice HK.out.q
       rw [List.length_drop] at e6
       subst e6
       by_cases hlt : q < x.f6.length
       ·
        obtain ⟨name, node, hen⟩ : ∃ name node, x.f6[q] = ⟨name, node⟩ := ⟨_, _, rfl⟩
        have hnode : x.f6[q].f1 = node := by rw [hen]
        have hrd : rd_T61 x.f6 (q : Int) = ⟨name, node⟩ := (rdE _ q hlt).trans hen
        obtain ⟨ae, ee, e0, e1⟩ := at_T61 HE6.out (q : Int) (by omega) (by omega)
        cases ee
        rw [hrd, Int.toNat_natCast] at e0 e1
        replace e0 := cellB e0 HK.out.hb
        replace e1 := cellB e1 HK.out.hb
        have i0 : decide (0 ≤ (q : Int)) = true := decide_eq_true (by omega)
        have i1 : decide ((q : Int) < (x.f6.length : Int)) = true := decide_eq_true (by omega)
        have HWR : Hid (wrap64 ((q : Int) + 1) = ((q + 1 : Nat) : Int)) := Lib.hid (by have := HX.out; unfold wrap64; omega)
        have HLT := Lib.hid hlt
        have hvc := vinv_step (a1 := a1) (a2 := a2) (a3 := a3) HV.out HRI.out HLN.out HX.out hlt hnode
        clear hrd hen hq hlt hnode
        go_upto_region 17 with ((with_reducible refine gate_dst (N := 10) rfl ?_); refine box_event ?hg (N := 10) ?hd (cs := #[.string (⟨#[]⟩ : ByteArray), .int .i64 0]) (t := 61) ?hr ?_; (case hd => rfl); (case hg => rfl); (case hr => first | (go_simp; done) | (go_simp; rfl)); intro ge hge w4 hbox hb4; have hl_ : wr.heap.size ≤ ge := Nat.le_of_eq hge.symm; have HK4 := Lib.hid (HK.out.below (below_set (j := 1) (v := .int .i64 node) (below_set (j := 0) (v := .string name) hb4 hl_) hl_)); have EB := Lib.hid (blk_put (cs' := #[.string name, .int .i64 node]) (blk_put (cs' := #[.string name, .int .i64 0]) hbox 0 (.string name) rfl) 1 (.int .i64 node) rfl); have z0 : w4.cell? ⟨ge, 0, none⟩ = some (.string (⟨#[]⟩ : ByteArray)) := (blk_cell hbox 0).trans rfl; have z1 : w4.cell? ⟨ge, 1, none⟩ = some (.int .i64 0) := (blk_cell hbox 1).trans rfl; have y0 := blk_frozen hbox 0; have y1 := blk_frozen hbox 1; clear hbox hb4 hge hl_)
        (try simp only [Act.put, List.setIfInBounds_toArray, List.set_cons_zero, List.set_cons_succ])
        clear z0 z1 y0 y1 e0 e1 HK
        generalize (w4.setCell _ _).setCell _ _ = w5 at HK4 EB ⊢
        have d0 : w5.cell? ⟨g1, 0, none⟩ = some (.slice (some ad) l.length c) := (blk_cell HK4.out.b1 0).trans rfl
        have d1 : w5.cell? ⟨g1, 1, none⟩ = some (.int .i64 a1) := (blk_cell HK4.out.b1 1).trans rfl
        have d2 : w5.cell? ⟨g1, 2, none⟩ = some (.int .i64 a2) := (blk_cell HK4.out.b1 2).trans rfl
        have d3 : w5.cell? ⟨g1, 3, none⟩ = some (.int .i64 a3) := (blk_cell HK4.out.b1 3).trans rfl
        have n1 : w5.cell? ⟨ge, 1, none⟩ = some (.int .i64 node) := (blk_cell EB.out 1).trans rfl
        rcases hvc with ⟨p, KQ, hpl, hno⟩ | ⟨t', ht', y, hyt, KQ, hpl, hgi, hcs⟩
        ·
         have HPQ := Lib.hid hpl
         have HNO := Lib.hid (binv_fail HI.out HJ.out HTG.out hno)
         clear hpl hno
         go_wp2_with ((go_at_call 59; (with_reducible refine (tree_place.calls KQ _ _ l a1 a2 a3 node p false _ (Kd.C_below HR0.out HK4.out.hb) HC0.out HPQ.out).mono ?_); rintro e w7 ⟨rfl, hb7⟩; have HK7 := Lib.hid (HK4.out.below hb7); clear d0 d1 d2 d3 n1 hb7))
         go_ret
         exact ⟨by rw [HBF.out, HNO.out]; rfl, HK7.out.hb⟩
        ·
         have HPQ := Lib.hid hpl
         have HGI := Lib.hid hgi
         have t0 : decide (0 ≤ (t' : Int)) = true := decide_eq_true (by omega)
         have t1 : decide ((t' : Int) < (l.length : Int)) = true := decide_eq_true (by omega)
         have t2 : (t' < l.length) = True := eq_true ht'
         have t3 : ((t' : Int) < (l.length : Int)) = True := eq_true (by omega)
         have hrd : rd_T44 l (t' : Int) = y := (rdN l t' ht').trans hyt
         obtain ⟨ad', _, _, ea, _, x1, _, _, _, _, _, _, _⟩ := at_T44 HR0.out (t' : Int) (by omega) (by omega)
         cases ea
         rw [hrd, Int.toNat_natCast] at x1
         have HX1 := Lib.hid x1
         clear hpl hgi hrd hyt x1 ht'
         rcases hcs with ⟨hk1, hg0, hno⟩ | ⟨hk1, hg1, hwn, hv2⟩ | ⟨hk1, hg0, hw1, hv2⟩ | ⟨hk1, hg0, hw1, hv2⟩
         ·
          have k1 : (y.f1 == 1) = true := beq_iff_eq.mpr hk1
          have g0 : decide (0 < gI m' node) = true := decide_eq_true hg0
          have HNO := Lib.hid (binv_fail HI.out HJ.out HTG.out hno)
          clear hno hk1 hg0
          go_wp2_with ((go_at_call 59; (with_reducible refine (tree_place.calls KQ _ _ l a1 a2 a3 node (t' : Int) true _ (Kd.C_below HR0.out HK4.out.hb) HC0.out HPQ.out).mono ?_); rintro e w7 ⟨rfl, hb7⟩; have HK7 := Lib.hid (HK4.out.below hb7); have EB7 := Lib.hid (blk_below EB.out hb7); clear d0 d1 d2 d3 n1 hb7; have d0 : w7.cell? ⟨g1, 0, none⟩ = some (.slice (some ad) l.length c) := (blk_cell HK7.out.b1 0).trans rfl; have n1 : w7.cell? ⟨ge, 1, none⟩ = some (.int .i64 node) := (blk_cell EB7.out 1).trans rfl; have x1 := cellB HX1.out HK7.out.hb; have hlk := MapA.lookI HK7.out.mp Tryd.underlying75 zeroI node))
          go_ret
          exact ⟨by rw [HBF.out, HNO.out]; rfl, HK7.out.hb⟩
         ·
          have k1 : (y.f1 == 1) = false := beq_eq_false_iff_ne.mpr hk1
          have g2 : (wrap64 (gI m' node + 1) == 1) = false := beq_eq_false_iff_ne.mpr hwn
          have HV2 := Lib.hid hv2
          clear hv2 hk1 hg1 hwn
          go_wp2_with (first | ((go_at_call 59; (with_reducible refine (tree_place.calls KQ _ _ l a1 a2 a3 node (t' : Int) true _ (Kd.C_below HR0.out HK4.out.hb) HC0.out HPQ.out).mono ?_); rintro e w7 ⟨rfl, hb7⟩; have HK7 := Lib.hid (HK4.out.below hb7); have EB7 := Lib.hid (blk_below EB.out hb7); clear d0 d1 d2 d3 n1 hb7; have d0 : w7.cell? ⟨g1, 0, none⟩ = some (.slice (some ad) l.length c) := (blk_cell HK7.out.b1 0).trans rfl; have n1 : w7.cell? ⟨ge, 1, none⟩ = some (.int .i64 node) := (blk_cell EB7.out 1).trans rfl; have x1 := cellB HX1.out HK7.out.hb; have hlk := MapA.lookI HK7.out.mp Tryd.underlying75 zeroI node)) | (refine mp_put rfl (Or.inl rfl) HK7.out.mp (keyI Tryd.underlying3) Tryd.underlying75 rfl node (wrap64 (gI m' node + 1)) (by rfl) (by rfl) ?_; intro wM hM1 hgM; have HK8 := Lib.hid (HK7.out.update hM1 hgM); have EB8 := Lib.hid (blk_grown EB7.out hgM (fun e_ => MapA.neC HK7.out.mp EB7.out (Option.some.inj e_).symm)); clear hM1 hgM d0 n1 x1 hlk; have n1 : wM.cell? ⟨ge, 1, none⟩ = some (.int .i64 node) := (blk_cell EB8.out 1).trans rfl; have hlk2 := MapA.lookI HK8.out.mp Tryd.underlying75 zeroI node; rw [gI_put] at hlk2))
          go_roundw
          case rel => exact ⟨q + 1, keys', _, HLT.out, by rw [HWR.out], HK8, HV2⟩
          case measure => exact meas_ _ _ HWR.out HLT.out
         ·
          have k1 : (y.f1 == 1) = true := beq_iff_eq.mpr hk1
          have g0 : decide (0 < gI m' node) = false := decide_eq_false hg0
          have g2 : (wrap64 (gI m' node + 1) == 1) = true := beq_iff_eq.mpr hw1
          have HV2 := Lib.hid hv2
          clear hv2 hk1 hg0 hw1
          go_wp2_with (first | ((go_at_call 59; (with_reducible refine (tree_place.calls KQ _ _ l a1 a2 a3 node (t' : Int) true _ (Kd.C_below HR0.out HK4.out.hb) HC0.out HPQ.out).mono ?_); rintro e w7 ⟨rfl, hb7⟩; have HK7 := Lib.hid (HK4.out.below hb7); have EB7 := Lib.hid (blk_below EB.out hb7); clear d0 d1 d2 d3 n1 hb7; have d0 : w7.cell? ⟨g1, 0, none⟩ = some (.slice (some ad) l.length c) := (blk_cell HK7.out.b1 0).trans rfl; have n1 : w7.cell? ⟨ge, 1, none⟩ = some (.int .i64 node) := (blk_cell EB7.out 1).trans rfl; have x1 := cellB HX1.out HK7.out.hb; have hlk := MapA.lookI HK7.out.mp Tryd.underlying75 zeroI node)) | (refine mp_put rfl (Or.inl rfl) HK7.out.mp (keyI Tryd.underlying3) Tryd.underlying75 rfl node (wrap64 (gI m' node + 1)) (by rfl) (by rfl) ?_; intro wM hM1 hgM; have HK8 := Lib.hid (HK7.out.update hM1 hgM); have EB8 := Lib.hid (blk_grown EB7.out hgM (fun e_ => MapA.neC HK7.out.mp EB7.out (Option.some.inj e_).symm)); clear hM1 hgM d0 n1 x1 hlk; have n1 : wM.cell? ⟨ge, 1, none⟩ = some (.int .i64 node) := (blk_cell EB8.out 1).trans rfl; have hlk2 := MapA.lookI HK8.out.mp Tryd.underlying75 zeroI node; rw [gI_put] at hlk2) | ((with_reducible refine gate_builtin (b := .append) (xs := #[.tmp 136, .tmp 139]) rfl ?_); at_builtin; refine Kd.Q_append (Kd.int .i64) (w0 := w) w.heap.size rfl (.tmp 136) (.tmp 139) 76 3 (.int .i64 0) 8 rfl Tryd.underlying76 info3 rfl (by decide) (by omega) (.slice A6 (keys'.length - j) c6) (keys'.drop j) node [.int .i64 node] (fun _ => True) (fun _ => False) rfl rfl ?aP (fun _ hk => hk.elim) (fun _ _ => trivial) HK8.out.q HK8.out.hb (below_size HK8.out.hb) ?aL ?_; (case aP => exact rfl); (case aL => have := (vinv_len HV.out).2; have := HLN.out; rw [List.length_drop]; omega); intro v1 w9 ho hb9 hg9 _; rw [← List.drop_append_of_le_length (Nat.le_of_lt (vinv_len HV.out).1)] at ho; have HK9 := Lib.hid (HK8.out.pushed ho hb9 hg9); clear ho hb9 hg9))
          go_roundw
          case rel => exact ⟨q + 1, keys' ++ [node], _, HLT.out, by rw [HWR.out], HK9, HV2⟩
          case measure => exact meas_ _ _ HWR.out HLT.out
         ·
          have k1 : (y.f1 == 1) = false := beq_eq_false_iff_ne.mpr hk1
          have g2 : (wrap64 (gI m' node + 1) == 1) = true := beq_iff_eq.mpr hw1
          have HV2 := Lib.hid hv2
          clear hv2 hk1 hg0 hw1
          go_wp2_with (first | ((go_at_call 59; (with_reducible refine (tree_place.calls KQ _ _ l a1 a2 a3 node (t' : Int) true _ (Kd.C_below HR0.out HK4.out.hb) HC0.out HPQ.out).mono ?_); rintro e w7 ⟨rfl, hb7⟩; have HK7 := Lib.hid (HK4.out.below hb7); have EB7 := Lib.hid (blk_below EB.out hb7); clear d0 d1 d2 d3 n1 hb7; have d0 : w7.cell? ⟨g1, 0, none⟩ = some (.slice (some ad) l.length c) := (blk_cell HK7.out.b1 0).trans rfl; have n1 : w7.cell? ⟨ge, 1, none⟩ = some (.int .i64 node) := (blk_cell EB7.out 1).trans rfl; have x1 := cellB HX1.out HK7.out.hb; have hlk := MapA.lookI HK7.out.mp Tryd.underlying75 zeroI node)) | (refine mp_put rfl (Or.inl rfl) HK7.out.mp (keyI Tryd.underlying3) Tryd.underlying75 rfl node (wrap64 (gI m' node + 1)) (by rfl) (by rfl) ?_; intro wM hM1 hgM; have HK8 := Lib.hid (HK7.out.update hM1 hgM); have EB8 := Lib.hid (blk_grown EB7.out hgM (fun e_ => MapA.neC HK7.out.mp EB7.out (Option.some.inj e_).symm)); clear hM1 hgM d0 n1 x1 hlk; have n1 : wM.cell? ⟨ge, 1, none⟩ = some (.int .i64 node) := (blk_cell EB8.out 1).trans rfl; have hlk2 := MapA.lookI HK8.out.mp Tryd.underlying75 zeroI node; rw [gI_put] at hlk2) | ((with_reducible refine gate_builtin (b := .append) (xs := #[.tmp 136, .tmp 139]) rfl ?_); at_builtin; refine Kd.Q_append (Kd.int .i64) (w0 := w) w.heap.size rfl (.tmp 136) (.tmp 139) 76 3 (.int .i64 0) 8 rfl Tryd.underlying76 info3 rfl (by decide) (by omega) (.slice A6 (keys'.length - j) c6) (keys'.drop j) node [.int .i64 node] (fun _ => True) (fun _ => False) rfl rfl ?aP (fun _ hk => hk.elim) (fun _ _ => trivial) HK8.out.q HK8.out.hb (below_size HK8.out.hb) ?aL ?_; (case aP => exact rfl); (case aL => have := (vinv_len HV.out).2; have := HLN.out; rw [List.length_drop]; omega); intro v1 w9 ho hb9 hg9 _; rw [← List.drop_append_of_le_length (Nat.le_of_lt (vinv_len HV.out).1)] at ho; have HK9 := Lib.hid (HK8.out.pushed ho hb9 hg9); clear ho hb9 hg9))
          go_roundw
          case rel => exact ⟨q + 1, keys' ++ [node], _, HLT.out, by rw [HWR.out], HK9, HV2⟩
          case measure => exact meas_ _ _ HWR.out HLT.out
       ·
        obtain rfl : q = x.f6.length := by omega
        have HBI := Lib.hid (vinv_end HI.out HV.out HJ.out HTG.out HX.out)
        have hlen2 : j < keys'.length := HV.out.2.2.2.1
        obtain ⟨i095, hi095, _, hsz95, _⟩ := info_parts info3
        have q95 : (1 : Int) ≤ ((keys'.length - j : Nat) : Int) := by omega
        have hcut95 := cut_from (P := Tryd.prog) 76 3 .i64 Tryd.underlying76 hi095 1 hsz95 A6 (keys'.length - j) c6 1 (by omega) q95
        have hr95 := Kd.Q_drop (k := 1) HK.out.q (by rw [List.length_drop]; omega)
        rw [List.drop_drop, show (Kd.int IntKind.i64).sz = 1 from rfl] at hr95
        rw [show (1 : Int).toNat = 1 from rfl] at hcut95
        generalize (if c6 = 1 then A6 else Option.map (fun x => x.add (1 * 1)) A6) = A95 at hcut95 hr95
        have HKE : Hid (KSt w wr g1 gm #[.slice (some ad) l.length c, .int .i64 a1, .int .i64 a2, .int .i64 a3] m' (.slice A95 (keys'.length - j - 1) (c6 - 1)) (keys'.drop (j + 1))) := Lib.hid ⟨HK.out.hb, HK.out.b1, HK.out.em, HK.out.mp, hr95⟩
        clear hlt hq hi095 hsz95 hr95 hlen2
        go_wp2
        go_roundg F
        case measure => exact Nat.lt_succ_self _
        case rel => exact ⟨j + 1, keys', m', HKE, HBI⟩
     ·
      have hje := binv_done HI.out hj
      have hdl : keys.length - j = 0 := by omega
      rw [hdl] at HK
      have hml : m.length = keys.length := by have := congrArg List.length HI.out.1; rwa [List.length_map] at this
      have d0 : wr.cell? ⟨g1, 0, none⟩ = some (.slice (some ad) l.length c) := (blk_cell HK.out.b1 0).trans rfl
      have hln := fun ty_ : TypeId => MapA.len HK.out.mp Tryd.underlying75 ty_
      rw [hml] at hln
      rw [hdl]
      by_cases he : keys.length = l.length
      ·
       have HO := Lib.hid (hje.trans (if_pos he))
       have k0 : ((keys.length : Int) != (l.length : Int)) = false := bne_eq_false_iff_eq.mpr (by omega)
       clear hje hj hdl hml he
       go_wp2
       go_ret
       exact ⟨by rw [HBF.out, HO.out]; rfl, HK.out.hb⟩
      ·
       have HO := Lib.hid (hje.trans (if_neg he))
       have k0 : ((keys.length : Int) != (l.length : Int)) = true := bne_iff_ne.mpr (by omega)
       clear hje hj hdl hml he
       go_wp2
       go_ret
       exact ⟨by rw [HBF.out, HO.out]; rfl, HK.out.hb⟩
end Go.Proofs.YtnpnablnnfekkaaDoor.PTr
set_option linter.unusedVariables false
namespace Go.Proofs.YtnpnablnnfekkaaDoor.PTr
open Go.RowKit Go.Proofs.YtnpnablnnfekkaaDoor Go.Proofs.YtnpnablnnfekkaaDoorW.PrintWords
def tree_Check.f (l : List Nod) (a1 a2 a3 : Int) : Option Int := if (decide (512 < l.length) || l.all (fun x => decide (x.f6.length ≤ 5864062014805))) = true then some (chk l a1) else none
theorem tree_Check.calls (A : Option Addr) (c : Nat) (l : List Nod) (a1 a2 a3 r : Int) (w : World) (hr : Kd.C k44 w A l.length l) (hc : l.length ≤ c) (h : tree_Check.f l a1 a2 a3 = some r) :
  Calls Tryd.prog 17 #[.agg #[.slice A l.length c, .int .i64 a1, .int .i64 a2, .int .i64 a3]] w fun e w' => e = .returned (.int .i64 r) ∧ Below w.heap.size w w' := by
 unfold tree_Check.f at h
 split at h
 ·
  rename_i hs
  cases h
  exact check_any l A c a1 a2 a3 w hr hc (fun h1 x hx => by
   rw [Bool.or_eq_true, decide_eq_true_eq, List.all_eq_true] at hs
   rcases hs with h2 | h2
   ·
    omega
   ·
    exact of_decide_eq_true (h2 x hx))
 ·
  cases h
end Go.Proofs.YtnpnablnnfekkaaDoor.PTr
set_option linter.unusedVariables false
set_option linter.unusedSimpArgs false
namespace Go.Proofs.YtnpnablnnfekkaaDoor.PTr
open Go.RowKit Go.Proofs.YtnpnablnnfekkaaDoor Go.Proofs.YtnpnablnnfekkaaDoorW.PrintWords Go.Proofs.YtnpnablnnfekkaaDoorW.PrintLast Go.Proofs.YtnpnablnnfekkaaDoorW.PrintMore
/-- the nodes as they are met, with the first path to each -/
def wid (l : List Nod) (a1 : Int) : List (Int × List UInt8) := if chk l a1 = 0 then wayP l (l.length + 1) [] 1 [47] else []
theorem chk_facts {l : List Nod} {a1 : Int} (h : chk l a1 = 0) : headOK l = true ∧ nodesOK l a1 = true ∧ l.length ≤ 512 ∧ Rises l ∧ (∀ x ∈ l, ∀ e ∈ x.f6, e.f1 ∈ idsL l) ∧ (∀ x ∈ l, ∀ e ∈ x.f6, e.f0.size ≤ 64) ∧ (1 : Int) ∈ idsL l := by
 have hc := h
 rw [← chk_same] at hc
 unfold chkR at hc
 by_cases hh : headOK l = true
 ·
  rw [if_pos hh] at hc
  by_cases hn : nodesOK l a1 = true ∧ ((List.range l.length).all (tgOK l)) = true
  ·
   obtain ⟨h0, hl, _, _⟩ := head_facts hh
   obtain ⟨_, h1, _⟩ := one_in hh
   refine ⟨hh, hn.1, hl, rises_of hn.1, fun x hx e he => ?_, names64 hn.1, mem_ids.2 ⟨l[0], List.getElem_mem h0, h1⟩⟩
   obtain ⟨i, hi, rfl⟩ := List.getElem_of_mem hx
   have := List.all_eq_true.1 hn.2 i (List.mem_range.2 hi)
   unfold tgOK at this
   rw [rdN l i hi, List.all_eq_true] at this
   exact of_decide_eq_true (this e he)
  ·
   rw [if_neg hn] at hc; cases hc
 ·
  rw [if_neg hh] at hc; cases hc
theorem chk_two (l : List Nod) (a1 : Int) : chk l a1 = 0 ∨ chk l a1 = 80 := by
 unfold chk
 split
 ·
  split
  ·
   exact reach_two l
  ·
   exact .inr rfl
 ·
  exact .inr rfl
def eOK (l : List Nod) : Prop := l.length ≤ 512 → ∀ x ∈ l, x.f6.length ≤ 5864062014805
theorem check_f {l : List Nod} (h : eOK l) (a1 a2 a3 : Int) : tree_Check.f l a1 a2 a3 = some (chk l a1) := by
 unfold tree_Check.f
 rw [if_pos]
 rw [Bool.or_eq_true, decide_eq_true_eq, List.all_eq_true]
 by_cases hl : 512 < l.length
 ·
  exact .inl hl
 ·
  exact .inr fun x hx => decide_eq_true (h (by omega) x hx)
set_option maxHeartbeats 8000000 in
set_option maxRecDepth 100000 in
theorem walked_any (l : List Nod) (A : Option Addr) (c : Nat) (a1 a2 a3 : Int) (w : World) (hr0 : Kd.C k44 w A l.length l) (hc00 : l.length ≤ c) (hE : eOK l) :
  Calls Tryd.prog 64 #[.agg #[.slice A l.length c, .int .i64 a1, .int .i64 a2, .int .i64 a3]] w fun e w' => ∃ gw gm v, e = .returned (.pointer (some ⟨gw, 0, none⟩)) ∧ WSt w w' gw gm (.slice A l.length c) a1 a2 a3 ((wid l a1).map (·.1)) ((wid l a1).map toP) v := by
 have hu81 := Tryd.underlying81
 have hmm := @run_makeMap Tryd.prog
 have HR0 := Lib.hid hr0
 have HC0 := Lib.hid hc00
 have HCK := Lib.hid (check_f hE a1 a2 a3)
 have HEE := Lib.hid hE
 clear hr0 hc00 hE
 go_enter Tryd.func64, Tryd.ntmps64
 go_upto_region 2 with (first | ((with_reducible refine gate_dst (N := 1) rfl ?_); (try (refine gate_guard (by rfl) ?_; dsimp only)); refine box_event ?hg (N := 1) ?hd (cs := #[.slice A l.length c, .int .i64 a1, .int .i64 a2, .int .i64 a3]) (t := 26) ?hr ?_; (case hd => rfl); (case hg => rfl); (case hr => first | (go_simp; done) | (go_simp; rfl)); intro g1 hg1 w1 hbox hb1; have HX1 := Lib.hid hbox; have HB1 := Lib.hid (below_step (Below.refl w.heap.size w) hb1); have hz0 : w1.cell? ⟨g1, 0, none⟩ = some (.slice A l.length c) := (blk_cell hbox 0).trans rfl; have hz1 : w1.cell? ⟨g1, 1, none⟩ = some (.int .i64 a1) := (blk_cell hbox 1).trans rfl; have hz2 : w1.cell? ⟨g1, 2, none⟩ = some (.int .i64 a2) := (blk_cell hbox 2).trans rfl; have hz3 : w1.cell? ⟨g1, 3, none⟩ = some (.int .i64 a3) := (blk_cell hbox 3).trans rfl; clear hbox hb1 hg1) | ((with_reducible refine gate_dst (N := 7) rfl ?_); (try (refine gate_guard (by rfl) ?_; dsimp only)); refine box_event ?hg (N := 7) ?hd (cs := #[.slice A l.length c, .int .i64 a1, .int .i64 a2, .int .i64 a3, .slice none 0 0, .map (some w1.heap.size)]) (t := 83) ?hr ?_; (case hd => rfl); (case hg => rfl); (case hr => first | (go_simp; done) | (go_simp; rfl)); intro gw hgw w2 hbox2 hb2; have HST := Lib.hid (WSt.mk (w0 := w) (below_step (below_alloc HB1.out _) hb2) hbox2 (by rw [hgw]; exact below_size (below_alloc HB1.out _)) (below_size HB1.out) (Kd.Q_nil (Kd.int .i64) 3 w2 w.heap.size (fun _ => True)) ((MapA.made w1 KI KS).below hb2)); have HX2 := Lib.hid (blk_below (blk_alloc HX1.out (.map #[] 0)) hb2); clear hbox2 hb2 hgw))
 (try simp only [Act.put, List.setIfInBounds_toArray, List.set_cons_zero, List.set_cons_succ])
 generalize w1.heap.size = gm at HST ⊢
 have hy0 : w2.cell? ⟨g1, 0, none⟩ = some (.slice A l.length c) := (blk_cell HX2.out 0).trans rfl
 have hy1 : w2.cell? ⟨g1, 1, none⟩ = some (.int .i64 a1) := (blk_cell HX2.out 1).trans rfl
 have hy2 : w2.cell? ⟨g1, 2, none⟩ = some (.int .i64 a2) := (blk_cell HX2.out 2).trans rfl
 have hy3 : w2.cell? ⟨g1, 3, none⟩ = some (.int .i64 a3) := (blk_cell HX2.out 3).trans rfl
 clear hz0 hz1 hz2 hz3
 by_cases h0 : chk l a1 = 0
 ·
  have h0b : (chk l a1 == 0) = true := beq_iff_eq.mpr h0
  obtain ⟨_, _, hl, hr, hcl, hN, h1⟩ := chk_facts h0
  have HW := Lib.hid (show wid l a1 = wayP l (l.length + 1) [] 1 [47] by unfold wid; rw [if_pos h0])
  have hb : ∀ x ∈ l, x.f6.length ≤ 140737488351232 := fun x hx => by have := HEE.out hl x hx; omega
  have HCALL : Hid (∀ w3, WSt w w3 gw gm (.slice A l.length c) a1 a2 a3 [] [] (.slice none 0 0) → Calls Tryd.prog 82 #[.pointer (some ⟨gw, 0, none⟩), .int .i64 1, .string ⟨#[47]⟩] w3 fun e w' => e = .returned (.tuple #[]) ∧ ∃ v', WSt w w' gw gm (.slice A l.length c) a1 a2 a3 ((wid l a1).map (·.1)) ((wid l a1).map toP) v') :=
   Lib.hid (fun w3 h3 => by
    rw [HW.out]
    exact walk_any l A c a1 a2 a3 w HR0.out HC0.out hl hr hcl hb hN gw gm (l.length + 1) [] 1 [47] (.slice none 0 0) w3 List.nodup_nil (fun x hx => by cases hx) h1 (by simp) (by simp) h3)
  clear hl hr hcl hN h1 hb h0
  go_wp2_with (first | (go_at_call 17; (with_reducible refine (tree_Check.calls _ _ l a1 a2 a3 (chk l a1) _ (Kd.C_below HR0.out HST.out.hb) HC0.out HCK.out).mono ?_); rintro e w3 ⟨rfl, hb3⟩; have HST3 := Lib.hid (HST.out.below hb3); clear hb3) | (go_at_call 82; (with_reducible refine (HCALL.out _ HST3.out).mono ?_); rintro e w4 ⟨rfl, v4, hst4⟩; have HST4 := Lib.hid hst4; clear hst4))
  go_ret
  exact ⟨gw, gm, v4, rfl, HST4.out⟩
 ·
  have h0b : (chk l a1 == 0) = false := beq_eq_false_iff_ne.mpr h0
  have HW := Lib.hid (show wid l a1 = [] by unfold wid; rw [if_neg h0])
  clear h0
  go_wp2_with (go_at_call 17; (with_reducible refine (tree_Check.calls _ _ l a1 a2 a3 (chk l a1) _ (Kd.C_below HR0.out HST.out.hb) HC0.out HCK.out).mono ?_); rintro e w3 ⟨rfl, hb3⟩; have HST3 := Lib.hid (HST.out.below hb3); clear hb3)
  go_ret
  exact ⟨gw, gm, _, rfl, by rw [HW.out]; exact HST3.out⟩
end Go.Proofs.YtnpnablnnfekkaaDoor.PTr
set_option linter.unusedVariables false
set_option linter.unusedSimpArgs false
namespace Go.Proofs.YtnpnablnnfekkaaDoor.PTr
open Go.RowKit Go.Proofs.YtnpnablnnfekkaaDoor Go.Proofs.YtnpnablnnfekkaaDoorW.PrintWords Go.Proofs.YtnpnablnnfekkaaDoorW.PrintLast Go.Proofs.YtnpnablnnfekkaaDoorW.PrintMore
def eB (l : List Nod) : Bool := decide (512 < l.length) || l.all (fun x => decide (x.f6.length ≤ 5864062014805))
theorem eB_ok {l : List Nod} (h : eB l = true) : eOK l := by
 intro h1 x hx
 unfold eB at h
 rw [Bool.or_eq_true, decide_eq_true_eq, List.all_eq_true] at h
 rcases h with h2 | h2
 ·
  omega
 ·
  exact of_decide_eq_true (h2 x hx)
theorem eB_of {l : List Nod} (h : eOK l) : eB l = true := by
 unfold eB
 rw [Bool.or_eq_true, decide_eq_true_eq, List.all_eq_true]
 by_cases hl : 512 < l.length
 ·
  exact .inl hl
 ·
  exact .inr fun x hx => decide_eq_true (h (by omega) x hx)
def tree_Path.f (l : List Nod) (a1 a2 a3 id : Int) : Option (ByteArray × Bool) := if eB l = true then some ((getA ((wid l a1).map toP) id).getD ⟨#[]⟩, (getA ((wid l a1).map toP) id).isSome) else none
set_option maxHeartbeats 8000000 in
set_option maxRecDepth 100000 in
theorem tree_Path.calls (A : Option Addr) (c : Nat) (l : List Nod) (a1 a2 a3 id : Int) (r1 : ByteArray) (r2 : Bool) (w : World) (hr0 : Kd.C k44 w A l.length l) (hc00 : l.length ≤ c) (h : tree_Path.f l a1 a2 a3 id = some (r1, r2)) :
  Calls Tryd.prog 22 #[.agg #[.slice A l.length c, .int .i64 a1, .int .i64 a2, .int .i64 a3], .int .i64 id] w fun e w' => e = .returned (.tuple #[.string r1, .bool r2]) ∧ Below w.heap.size w w' := by
 unfold tree_Path.f at h
 split at h
 ·
  rename_i hE
  cases h
  have HR0 := Lib.hid hr0
  have HC0 := Lib.hid hc00
  have HEE := Lib.hid (eB_ok hE)
  have hu81 := Tryd.underlying81
  clear hr0 hc00 hE
  go_enter Tryd.func22, Tryd.ntmps22
  go_wp2_with (first | ((with_reducible refine gate_dst (N := 2) rfl ?_); (try (refine gate_guard (by rfl) ?_; dsimp only)); refine box_event ?hg (N := 2) ?hd (cs := #[.slice A l.length c, .int .i64 a1, .int .i64 a2, .int .i64 a3]) (t := 26) ?hr ?_; (case hd => rfl); (case hg => rfl); (case hr => first | (go_simp; done) | (go_simp; rfl)); intro g1 hg1 w1 hbox hb1; have HX1 := Lib.hid hbox; have HB1 := Lib.hid (below_step (Below.refl w.heap.size w) hb1); have hz0 : w1.cell? ⟨g1, 0, none⟩ = some (.slice A l.length c) := (blk_cell hbox 0).trans rfl; have hz1 : w1.cell? ⟨g1, 1, none⟩ = some (.int .i64 a1) := (blk_cell hbox 1).trans rfl; have hz2 : w1.cell? ⟨g1, 2, none⟩ = some (.int .i64 a2) := (blk_cell hbox 2).trans rfl; have hz3 : w1.cell? ⟨g1, 3, none⟩ = some (.int .i64 a3) := (blk_cell hbox 3).trans rfl; clear hbox hb1 hg1) | (go_at_call 64; (with_reducible refine (walked_any l A c a1 a2 a3 _ (Kd.C_below HR0.out HB1.out) HC0.out HEE.out).mono ?_); rintro e w3 ⟨gw, gm, v, rfl, hst⟩; have HST := Lib.hid hst; have hc5 : w3.cell? ⟨gw, 5, none⟩ = some (.map (some gm)) := (blk_cell hst.bk 5).trans rfl; have hlk := lookS hst.mp Tryd.underlying81 zeroS id; clear hst))
  go_ret2
  exact ⟨rfl, below_step HB1.out HST.out.hb⟩
 ·
  cases h
end Go.Proofs.YtnpnablnnfekkaaDoor.PTr
set_option linter.unusedVariables false
set_option linter.unusedSimpArgs false
namespace Go.Proofs.YtnpnablnnfekkaaDoor.PTr
open Go.RowKit Go.Proofs.YtnpnablnnfekkaaDoor Go.Proofs.YtnpnablnnfekkaaDoorW.PrintWords
/-- the new numbers, by the old -/
def toMn (ids : List Int) : Nat → MapD
 | 0 => []
 | n + 1 => putA (toMn ids n) (rd ids (n : Int)) (wrap64 ((n : Int) + 1))
/-- an entry, its node's number anew -/
def entN (ids : List Int) (e : Ent) : Ent := ⟨e.f0, gI (toMn ids ids.length) e.f1⟩
def nodN (l : List Nod) (ids : List Int) (i : Nat) : Nod := match nodeL l (rd ids (i : Int)) with
 | some x => ⟨wrap64 ((i : Int) + 1), x.f1, x.f2, x.f3, x.f4, x.f5, x.f6.map (entN ids)⟩
 | none => z44
def canN (l : List Nod) (ids : List Int) : List Nod := (List.range ids.length).map (nodN l ids)
def canM (l : List Nod) (a1 a2 a3 : Int) : List Nod × Int × Int × Int × Int :=
 if ((wid l a1).map (·.1)).length = 0 then ([], 0, 0, 0, 80) else (canN l ((wid l a1).map (·.1)), (((wid l a1).map (·.1)).length : Int), a2, a3, 0)
theorem rd_int (ids : List Int) (i : Nat) (h : i < ids.length) : rd ids (i : Int) = ids[i] := by
 unfold rd
 rw [Int.toNat_natCast, List.getD_eq_getElem?_getD, List.getElem?_eq_getElem h]; rfl
theorem wid_props (l : List Nod) (a1 : Int) : ((wid l a1).map (·.1)).Nodup ∧ (∀ x ∈ (wid l a1).map (·.1), x ∈ idsL l) ∧ ((wid l a1).map (·.1)).length ≤ 512 := by
 unfold wid
 split
 ·
  rename_i h0
  obtain ⟨_, _, hl, _⟩ := chk_facts h0
  have hp := TG.way_props (ids := idsL l) (ents := tgts l) (l.length + 1) [] 1 List.nodup_nil (fun x hx => by cases hx)
  have hw := way_map l (l.length + 1) [] 1 [47]
  rw [List.map_nil] at hw
  rw [hw]
  refine ⟨hp.1, hp.2.1, Nat.le_trans (TG.len_le _ _ hp.1 hp.2.1) ?_⟩
  unfold idsL; rw [List.length_map]; exact hl
 ·
  simp
theorem nd_inj {l : List Int} (hn : l.Nodup) {i j : Nat} (hi : i < l.length) (hj : j < l.length) (e : l[i] = l[j]) : i = j := by
 rcases Nat.lt_trichotomy i j with h | h | h
 ·
  exact absurd e (List.pairwise_iff_getElem.1 hn i j hi hj h)
 ·
  exact h
 ·
  exact absurd e.symm (List.pairwise_iff_getElem.1 hn j i hj hi h)
theorem toMn_get (ids : List Int) (hn : ids.Nodup) (hl : ids.length ≤ 512) : ∀ (n : Nat), n ≤ ids.length → ∀ (j : Nat) (h : j < ids.length), j < n → gI (toMn ids n) ids[j] = ((j + 1 : Nat) : Int) := by
 intro n
 induction n with
 | zero => intro _ j _ h; omega
 | succ n ih =>
  intro hle j hj hjn
  have hw : wrap64 ((n : Int) + 1) = ((n + 1 : Nat) : Int) := by unfold wrap64; omega
  unfold toMn gI
  rw [rd_int ids n (by omega), getA_put, hw]
  by_cases e : j = n
  ·
   subst e; rw [if_pos rfl]; rfl
  ·
   rw [if_neg (fun h => e (nd_inj hn hj (by omega) h.symm))]
   exact ih (by omega) j hj (by omega)
theorem wid_full {l : List Nod} {a1 : Int} (h : chk l a1 = 0) : (wid l a1).length = l.length ∧ (∀ x ∈ idsL l, x ∈ (wid l a1).map (·.1)) ∧ ∃ t, wid l a1 = (1, [47]) :: t := by
 obtain ⟨hh, hn, hl, hr, hcl, _, h1⟩ := chk_facts h
 have hre : reach l = 0 := by
  unfold chk at h
  rw [if_pos hh, if_pos hn] at h; exact h
 have hiff := (refs_iff hh hr).1 ((reach_zero hh hr).1 hre)
 have hw : wid l a1 = wayP l (l.length + 1) [] 1 [47] := by unfold wid; rw [if_pos h]
 have hlen : (wid l a1).length = l.length := by rw [hw]; exact hiff.2.2
 obtain ⟨hnd, hsub, _⟩ := wid_props l a1
 refine ⟨hlen, TG.all_of_len _ _ hnd (rises_nodup hr) hsub ?_, ?_⟩
 ·
  rw [List.length_map, hlen]; unfold idsL; rw [List.length_map]; exact Nat.le_refl _
 ·
  rw [hw]
  unfold wayP
  rw [if_neg (by simp)]
  obtain ⟨x, hx, he⟩ := mem_ids.1 h1
  obtain ⟨t, ht, rfl⟩ := List.getElem_of_mem hx
  have : nodeL l 1 = some l[t] := by rw [← he]; exact nodeL_at hr t ht
  rw [this]
  have fold : ∀ (es : List Ent) (a : List (Int × List UInt8)), ∃ t, es.foldl (fun a e => wayP l l.length a e.f1 (joinP [47] e.f0.data.toList)) a = a ++ t := by
   intro es
   induction es with
   | nil => intro a; exact ⟨[], by simp⟩
   | cons e r ihr =>
    intro a
    obtain ⟨t, ht⟩ := way_grows l l.length a e.f1 (joinP [47] e.f0.data.toList)
    obtain ⟨u, hu⟩ := ihr (wayP l l.length a e.f1 (joinP [47] e.f0.data.toList))
    rw [List.foldl_cons, hu, ht]
    exact ⟨t ++ u, by rw [List.append_assoc]⟩
  obtain ⟨u, hu⟩ := fold l[t].f6 ([] ++ [(1, [47])])
  refine ⟨u, ?_⟩
  simp only []
  rw [hu]; rfl
end Go.Proofs.YtnpnablnnfekkaaDoor.PTr
set_option linter.unusedVariables false
set_option linter.unusedSimpArgs false
namespace Go.Proofs.YtnpnablnnfekkaaDoor.PTr
open Go.RowKit Go.Proofs.YtnpnablnnfekkaaDoorW.PrintWords Go.Proofs.YtnpnablnnfekkaaDoor
def cellsE (l : List S61) : List Value := (l.map fun x => [Value.string x.f0, Value.int .i64 x.f1]).flatten
theorem cellsE_len (l : List S61) : (cellsE l).length = l.length * 2 := by
 induction l with
 | nil => rfl
 | cons x r ih => simp only [cellsE, List.map_cons, List.flatten_cons, List.length_append, List.length_cons, List.length_nil] at ih ⊢; omega
theorem cellsE_at (l : List S61) (j : Nat) (u : Value) (h : (cellsE l)[j]? = some u) : ∃ (k i : Nat) (x : S61), j = k * 2 + i ∧ l[k]? = some x ∧ ([Value.string x.f0, Value.int .i64 x.f1] : List Value)[i]? = some u := by
 induction l generalizing j with
 | nil => simp [cellsE] at h
 | cons x r ih =>
  match j, h with
  | 0, h => exact ⟨0, 0, x, rfl, rfl, by simpa [cellsE] using h⟩
  | 1, h => exact ⟨0, 1, x, rfl, rfl, by simpa [cellsE] using h⟩
  | j + 2, h =>
   have h' : (cellsE r)[j]? = some u := by simpa [cellsE] using h
   obtain ⟨k, i, y, e, hy, hu⟩ := ih j h'
   exact ⟨k + 1, i, y, by omega, by simpa using hy, hu⟩
theorem cellsE_reps (l : List S61) (w : World) (base : Nat) (ok : Nat → Prop) : Reps (k61.M w base ok) 2 l (cellsE l) := by
 induction l with
 | nil => exact Reps.none _ _
 | cons x r ih =>
  obtain ⟨h1, h2⟩ := ih
  refine ⟨by rw [cellsE_len], fun j p hj => ?_⟩
  have e : cellsE (x :: r) = Value.string x.f0 :: Value.int .i64 x.f1 :: cellsE r := rfl
  cases j with
  | zero =>
   simp only [List.getElem?_cons_zero, Option.some.injEq] at hj
   subst hj
   rw [e, Nat.zero_mul, List.drop_zero]
   exact k61_mkM w base ok x
  | succ j =>
   have := h2 j p (by simpa using hj)
   rw [e, show (j + 1) * 2 = j * 2 + 1 + 1 from by omega, List.drop_succ_cons, List.drop_succ_cons]
   exact this
theorem infoEn : (Tryd.prog.info? 61).map (fun i => (i.zero, i.size, i.bytes)) = some (some (.agg #[.string ByteArray.empty, .int .i64 0]), 2, 24) := by kernel_rfl
def api_Entry_65.f (l : List S61) : Option (List S61) := if l.length ≤ 5864062014805 then some l else none
set_option maxHeartbeats 2000000 in
set_option maxRecDepth 100000 in
theorem clone_any (A : Option Addr) (c : Nat) (l : List S61) (w : World) (hr : Kd.C k61 w A l.length l) (hl : l.length ≤ 5864062014805) :
  Calls Tryd.prog 65 #[.slice A l.length c] w fun e w' => ∃ v, e = .returned v ∧ w'.ownsRow w.heap.size 61 2 v l.length (cellsE l) ∧ Below w.heap.size w w' := by
 obtain ⟨i0, hi, hz0, hz1, hz2⟩ := info_parts infoEn
 have hle := cellsE_len l
 have qE : ∀ (w : World) (a : Option Addr) (n c n' c' : Nat), (binOp .eql 42 (.slice a n c) (.slice none n' c')).run Tryd.prog w = .ok (.bool a.isNone) w := fun w a n c n' c' => Lib.run_eql_slice_nil w _ _ a n c n' c' Tryd.underlying42
 cases A with
 | none =>
  have h0 : l = [] := by
   cases l with
   | nil => rfl
   | cons x r => obtain ⟨ad, h, _⟩ := hr.2.2 (by simp); cases h
  subst h0
  go_enter Tryd.func65, Tryd.ntmps65
  go_wp2
  go_ret
  exact ⟨_, rfl, World.ownsRow_nil _ _ _ _, Below.refl _ _⟩
 | some ad =>
  have HA : Hid (∀ j u, (cellsE l)[j]? = some u → w.cell? (ad.add j) = some u) := Lib.hid (fun j u hu => by
   obtain ⟨k, i, x, rfl, hx, hu⟩ := cellsE_at l j u hu
   obtain ⟨ad', e, hc⟩ := hr.2.2 (by have := (List.getElem?_eq_some_iff.1 hx).1; omega)
   cases e
   obtain ⟨cs, _, hK, hcc⟩ := hc k x hx
   rw [k61_open hK] at hcc
   exact hcc i u hu)
  clear hr
  go_enter Tryd.func65, Tryd.ntmps65
  go_wp2_with (at_builtin; refine wpList_append_own _ rfl _ _ 42 rfl w.heap.size 61 i0 _ 2 24 Tryd.underlying42 hi hz0 hz1 hz2 rfl (by decide) _ _ _ rfl (World.ownsRow_made w #[] 0 (Nat.le_refl _) (Nat.zero_le _) (by simp)) ad l.length c (cellsE l) rfl ?qc1 ?qc2 ?qc3 ?qc4 ?qc5 ?qc6 ?_)
  case qc1 => exact hle
  case qc2 =>
   intro j u hj
   exact Lib.cell?_alloc_some _ (HA.out j u hj)
  case qc3 =>
   intro u hu
   obtain ⟨j, hj⟩ := List.mem_iff_getElem?.1 hu
   obtain ⟨k, i, x, _, _, hu⟩ := cellsE_at l j u hj
   match i, hu with
   | 0, hu => simp at hu; subst hu; rfl
   | 1, hu => simp at hu; subst hu; rfl
  case qc4 => unfold maxLen; omega
  case qc5 => omega
  case qc6 => simp
  intro v' w1 hown hgrow hnil
  go_wp2
  go_ret
  refine ⟨v', rfl, by simpa using hown, ?_⟩
  exact ((Below.refl _ w).alloc (Nat.le_refl _) _).grown hgrow (by simp) (by intro k hk; simp [Value.ownBlock] at hk; omega)
theorem api_Entry_65.calls (A : Option Addr) (c : Nat) (l r : List S61) (w : World) (hr : Kd.C k61 w A l.length l) (hc : l.length ≤ c) (h : api_Entry_65.f l = some r) :
  Calls Tryd.prog 65 #[.slice A l.length c] w fun e w' => ∃ v, e = .returned v ∧ Kd.R k61 61 w' w.heap.size (fun _ => True) v r ∧ Below w.heap.size w w' := by
 unfold api_Entry_65.f at h
 split at h
 ·
  cases h
  refine (clone_any A c l w hr (by assumption)).mono ?_
  rintro e w' ⟨v, rfl, ho, hb⟩
  exact ⟨v, rfl, ⟨fun _ _ => trivial, _, ho, cellsE_reps l _ _ _⟩, hb⟩
 ·
  cases h
end Go.Proofs.YtnpnablnnfekkaaDoor.PTr
namespace Go.Proofs.YtnpnablnnfekkaaDoor.PTr
open Go.RowKit Go.Proofs.YtnpnablnnfekkaaDoorW.PrintWords Go.Proofs.YtnpnablnnfekkaaDoorW.PrintLast Go.Proofs.YtnpnablnnfekkaaDoorW.PrintMore
attribute [local go_sem] max2_int min2_int max_two min_two max_three min_three max_four min_four   -- for this text's walks alone
set_option linter.unusedVariables false
set_option linter.unusedSimpArgs false
theorem w64_PTr32 (x : Int) : wrap64 (x % 256) = x % 256 := by unfold wrap64; omega
def tree_Get.f (k : Nat) (l0_0 : List (S44)) (a0_1 : Int) (a0_2 : Int) (a0_3 : Int) (a1 : Int) : Option (Int × Int × Int × Int × Int × ByteArray × (List (S61)) × Bool) := (tree_place.f k l0_0 a0_1 a0_2 a0_3 a1).bind fun bt313 => (if bt313.2 = true then (if 0 ≤ bt313.1 then (if bt313.1 < (l0_0.length : Int) then ((api_Entry_65.f ((rd_T44 l0_0 bt313.1).f6)).bind fun t317 => (some ((rd_T44 l0_0 bt313.1).f0, (rd_T44 l0_0 bt313.1).f1, (rd_T44 l0_0 bt313.1).f2, (rd_T44 l0_0 bt313.1).f3, (rd_T44 l0_0 bt313.1).f4, (rd_T44 l0_0 bt313.1).f5, t317, true))) else (none)) else (none)) else (some (0, 0, 0, 0, 0, (⟨#[]⟩ : ByteArray), ([] : List (S61)), false)))
set_option maxHeartbeats 8000000 in
set_option maxRecDepth 100000 in
theorem tree_Get.calls (k : Nat) (A0_0 : Option Addr) (c0_0 : Nat) (l0_0 : List (S44)) (a0_1 : Int) (a0_2 : Int) (a0_3 : Int) (a1 : Int) (r1 : Int) (r2 : Int) (r3 : Int) (r4 : Int) (r5 : Int) (r6 : ByteArray) (r7 : List (S61)) (r8 : Bool) (w : World) (hr0_0 : Kd.C k44 w A0_0 l0_0.length l0_0) (hc0_0 : l0_0.length ≤ c0_0) (h : tree_Get.f k l0_0 a0_1 a0_2 a0_3 a1 = some (r1, r2, r3, r4, r5, r6, r7, r8)) :
  Calls Tryd.prog 26 #[.agg #[.slice A0_0 l0_0.length c0_0, .int .i64 a0_1, .int .i64 a0_2, .int .i64 a0_3], .int .i64 a1] w fun e w' => ∃ v6_ : Value, e = .returned (.tuple #[.agg #[.int .i64 r1, .int .i64 r2, .int .i64 r3, .int .i64 r4, .int .i64 r5, .string r6, v6_], .bool r8]) ∧ Kd.R k61 61 w' w.heap.size (fun _ => True) v6_ r7 ∧ Below w.heap.size w w' := by
 have hu26 := Tryd.underlying26
 have hu44 := Tryd.underlying44
 have HR0_0 := Aside0.mk hr0_0
 have HC0_0 := Aside0.mk hc0_0
 clear hr0_0 hc0_0
 have HB := Aside0.mk (Below.refl w.heap.size w)
 have H : ((tree_place.f k l0_0 a0_1 a0_2 a0_3 a1).bind fun bt313 => (if bt313.2 = true then (if 0 ≤ bt313.1 then (if bt313.1 < (l0_0.length : Int) then ((api_Entry_65.f ((rd_T44 l0_0 bt313.1).f6)).bind fun t317 => (some ((rd_T44 l0_0 bt313.1).f0, (rd_T44 l0_0 bt313.1).f1, (rd_T44 l0_0 bt313.1).f2, (rd_T44 l0_0 bt313.1).f3, (rd_T44 l0_0 bt313.1).f4, (rd_T44 l0_0 bt313.1).f5, t317, true))) else (none)) else (none)) else (some (0, 0, 0, 0, 0, (⟨#[]⟩ : ByteArray), ([] : List (S61)), false)))) = some (r1, r2, r3, r4, r5, r6, r7, r8) := h
 clear h
 replace H := Option.bind_eq_some_iff.mp H
 obtain ⟨⟨t313, t314⟩, A30, H⟩ := H
 replace H : (if t314 = true then (if 0 ≤ t313 then (if t313 < (l0_0.length : Int) then ((api_Entry_65.f ((rd_T44 l0_0 t313).f6)).bind fun t317 => (some ((rd_T44 l0_0 t313).f0, (rd_T44 l0_0 t313).f1, (rd_T44 l0_0 t313).f2, (rd_T44 l0_0 t313).f3, (rd_T44 l0_0 t313).f4, (rd_T44 l0_0 t313).f5, t317, true))) else (none)) else (none)) else (some (0, 0, 0, 0, 0, (⟨#[]⟩ : ByteArray), ([] : List (S61)), false))) = some (r1, r2, r3, r4, r5, r6, r7, r8) := H
 have A3 := Aside0.mk A30
 clear A30
 by_cases c4 : t314 = true
 ·
  subst c4
  have H1 : (if 0 ≤ t313 then (if t313 < (l0_0.length : Int) then ((api_Entry_65.f ((rd_T44 l0_0 t313).f6)).bind fun t317 => (some ((rd_T44 l0_0 t313).f0, (rd_T44 l0_0 t313).f1, (rd_T44 l0_0 t313).f2, (rd_T44 l0_0 t313).f3, (rd_T44 l0_0 t313).f4, (rd_T44 l0_0 t313).f5, t317, true))) else (none)) else (none)) = some (r1, r2, r3, r4, r5, r6, r7, r8) := by rw [if_pos rfl] at H; exact H
  clear H
  have H := H1
  clear H1
  by_cases c5 : 0 ≤ t313
  ·
   rw [if_pos c5] at H
   have c5b0 : decide (0 ≤ t313) = true := decide_eq_true c5
   clear c5
   by_cases c6 : t313 < (l0_0.length : Int)
   ·
    rw [if_pos c6] at H
    have c6b0 : decide (t313 < (l0_0.length : Int)) = true := decide_eq_true c6
    clear c6
    replace H := Option.bind_eq_some_iff.mp H
    obtain ⟨t317, A70, H⟩ := H
    replace H : (some ((rd_T44 l0_0 t313).f0, (rd_T44 l0_0 t313).f1, (rd_T44 l0_0 t313).f2, (rd_T44 l0_0 t313).f3, (rd_T44 l0_0 t313).f4, (rd_T44 l0_0 t313).f5, t317, true)) = some (r1, r2, r3, r4, r5, r6, r7, r8) := H
    have A7 := Aside0.mk A70
    clear A70
    simp only [Option.some.injEq, Prod.mk.injEq] at H
    obtain ⟨rfl, rfl, rfl, rfl, rfl, rfl, rfl, rfl⟩ := H
    go_enter Tryd.func26, Tryd.ntmps26
    go_wp2_with (first | ((with_reducible refine gate_dst (N := 2) rfl ?_); refine box_event ?hg (N := 2) ?hd (cs := #[.slice A0_0 l0_0.length c0_0, .int .i64 a0_1, .int .i64 a0_2, .int .i64 a0_3]) (t := 26) ?hr ?_; (case hd => rfl); (case hg => rfl); (case hr => first | (go_simp; done) | (go_simp; rfl)); intro gb311 hg w8 hbox hb; have n0_ := Aside0.mk (below_step (by repeat (first | (with_reducible first | exact HB.out | apply below_alloc | apply pw_below_drewN | apply below_drew1) | exact HB.out)) hb); have n1_ := Aside0.mk (hbox); have n2_ := Aside0.mk ((by rw [hg]; exact (below_size (by repeat (first | (with_reducible first | exact HB.out | apply below_alloc | apply pw_below_drewN | apply below_drew1) | exact HB.out))) : w.heap.size ≤ gb311)); have n3_ := Aside0.mk ((by rw [hg]; exact (below_size (by repeat (first | (with_reducible first | exact HB.out | apply below_alloc | apply pw_below_drewN | apply below_drew1) | exact HB.out))) : w.heap.size ≤ gb311)); clear HB; have HB := n0_; have BK311 := n1_; have GW311 := n2_; have GE311 := n3_; clear n0_ n1_ n2_ n3_; clear hb hbox hg) | ((with_reducible refine gate_dst (N := 4) rfl ?_); refine box_event ?hg (N := 4) ?hd (cs := #[.int .i64 0, .int .i64 0, .int .i64 0, .int .i64 0, .int .i64 0, .string (⟨#[]⟩ : ByteArray), .slice none 0 0]) (t := 44) ?hr ?_; (case hd => rfl); (case hg => rfl); (case hr => first | (go_simp; done) | (go_simp; rfl)); intro gb312 hg w9 hbox hb; have n0_ := Aside0.mk (blk_below (g := gb311) (o := .cells #[.slice A0_0 l0_0.length c0_0, .int .i64 a0_1, .int .i64 a0_2, .int .i64 a0_3] 26 (0, 0)) (by (with_reducible repeat (first | refine blk_drewN ?_ _ | refine blk_drew ?_ | refine blk_alloc ?_ _)); exact BK311.out) hb); have n1_ := Aside0.mk (below_step (by repeat (first | (with_reducible first | exact HB.out | apply below_alloc | apply pw_below_drewN | apply below_drew1 | refine below_set ?_ GE311.out) | exact HB.out)) hb); have n2_ := Aside0.mk (hbox); have n3_ := Aside0.mk ((by rw [hg]; exact (below_size (by repeat (first | (with_reducible first | exact HB.out | apply below_alloc | apply pw_below_drewN | apply below_drew1 | refine below_set ?_ GE311.out) | exact HB.out))) : w.heap.size ≤ gb312)); have n4_ := Aside0.mk ((by rw [hg]; exact (below_size (by repeat (first | (with_reducible first | exact HB.out | apply below_alloc | apply pw_below_drewN | apply below_drew1 | refine below_set ?_ GE311.out) | exact HB.out))) : w.heap.size ≤ gb312)); have n5_ := Aside0.mk ((by rw [hg]; exact Nat.ne_of_lt (blk_lt (g := gb311) (o := .cells #[.slice A0_0 l0_0.length c0_0, .int .i64 a0_1, .int .i64 a0_2, .int .i64 a0_3] 26 (0, 0)) (by (with_reducible repeat (first | refine blk_drewN ?_ _ | refine blk_drew ?_ | refine blk_alloc ?_ _)); exact BK311.out)) : gb311 ≠ gb312)); have n6_ := Aside0.mk ((by rw [hg]; exact Nat.ne_of_gt (blk_lt (g := gb311) (o := .cells #[.slice A0_0 l0_0.length c0_0, .int .i64 a0_1, .int .i64 a0_2, .int .i64 a0_3] 26 (0, 0)) (by (with_reducible repeat (first | refine blk_drewN ?_ _ | refine blk_drew ?_ | refine blk_alloc ?_ _)); exact BK311.out)) : gb312 ≠ gb311)); clear BK311; clear HB; have BK311 := n0_; have HB := n1_; have BK312 := n2_; have GW312 := n3_; have GE312 := n4_; have NB311_312 := n5_; have NB312_311 := n6_; clear n0_ n1_ n2_ n3_ n4_ n5_ n6_; clear hb hbox hg; have hnb10 := NB311_312.out; have hnc10 := NB312_311.out; have hcz11_0 : w9.cell? ⟨gb311, 0, none⟩ = some (.slice A0_0 l0_0.length c0_0) := (blk_cell BK311.out 0).trans rfl; have hcz11_1 : w9.cell? ⟨gb311, 1, none⟩ = some (.int .i64 a0_1) := (blk_cell BK311.out 1).trans rfl; have hcz11_2 : w9.cell? ⟨gb311, 2, none⟩ = some (.int .i64 a0_2) := (blk_cell BK311.out 2).trans rfl; have hcz11_3 : w9.cell? ⟨gb311, 3, none⟩ = some (.int .i64 a0_3) := (blk_cell BK311.out 3).trans rfl; have hfz11_0 := blk_frozen BK311.out 0; have hfz11_1 := blk_frozen BK311.out 1; have hfz11_2 := blk_frozen BK311.out 2; have hfz11_3 := blk_frozen BK311.out 3) | ((with_reducible refine gate_callee (f := 59) rfl ?_); refine goesL_ (some 12) rfl rfl Tryd.func59 (by kernel_rfl) rfl #[.agg #[.slice A0_0 l0_0.length c0_0, .int .i64 a0_1, .int .i64 a0_2, .int .i64 a0_3], .int .i64 a1] rfl (by (try simp only [List.map_toArray, List.map_cons, List.map_nil]); first | done | rfl | (simp only [List.length_drop, List.length_take]; rfl)) ?_; (with_reducible refine (tree_place.calls k _ _ l0_0 a0_1 a0_2 a0_3 a1 t313 true _ ?side1 ?side2 A3.out).mono ?_); (case side1 => repeat (first | exact (Kd.C_below HR0_0.out HB.out) | (with_reducible refine Kd.C_alloc ?_ _) | (with_reducible refine Kd.C_drewN ?_ _) | (with_reducible refine Kd.C_drew ?_))); (case side2 => exact HC0_0.out); rintro e w12 ⟨rfl, hb⟩; refine ⟨_, rfl, ?_⟩; have n0_ := Aside0.mk (blk_below (g := gb311) (o := .cells #[.slice A0_0 l0_0.length c0_0, .int .i64 a0_1, .int .i64 a0_2, .int .i64 a0_3] 26 (0, 0)) (by (with_reducible repeat (first | refine blk_drewN ?_ _ | refine blk_drew ?_ | refine blk_alloc ?_ _)); exact BK311.out) hb); have n1_ := Aside0.mk (blk_below (g := gb312) (o := .cells #[.int .i64 0, .int .i64 0, .int .i64 0, .int .i64 0, .int .i64 0, .string (⟨#[]⟩ : ByteArray), .slice none 0 0] 44 (0, 0)) (by (with_reducible repeat (first | refine blk_drewN ?_ _ | refine blk_drew ?_ | refine blk_alloc ?_ _)); exact BK312.out) hb); have n2_ := Aside0.mk (below_step (by repeat (first | (with_reducible first | exact HB.out | apply below_alloc | apply pw_below_drewN | apply below_drew1 | refine below_set ?_ GE311.out | refine below_set ?_ GE312.out) | exact HB.out)) hb); clear BK311; clear BK312; clear HB; have BK311 := n0_; have BK312 := n1_; have HB := n2_; clear n0_ n1_ n2_; (try clear hb); (try clear hb2); (try clear hk); (try clear hi); have hcz13_0 : w12.cell? ⟨gb311, 0, none⟩ = some (.slice A0_0 l0_0.length c0_0) := (blk_cell BK311.out 0).trans rfl; have hcz13_1 : w12.cell? ⟨gb311, 1, none⟩ = some (.int .i64 a0_1) := (blk_cell BK311.out 1).trans rfl; have hcz13_2 : w12.cell? ⟨gb311, 2, none⟩ = some (.int .i64 a0_2) := (blk_cell BK311.out 2).trans rfl; have hcz13_3 : w12.cell? ⟨gb311, 3, none⟩ = some (.int .i64 a0_3) := (blk_cell BK311.out 3).trans rfl; have hfz13_0 := blk_frozen BK311.out 0; have hfz13_1 := blk_frozen BK311.out 1; have hfz13_2 := blk_frozen BK311.out 2; have hfz13_3 := blk_frozen BK311.out 3; have p315 : 0 ≤ (t313 : Int) := of_decide_eq_true (by first | (with_reducible assumption) | assumption); have q315 : t313 < (l0_0.length : Int) := of_decide_eq_true (by first | (with_reducible assumption) | assumption); obtain ⟨ad315, A315_6, c315_6, e315, hx315_0, hx315_1, hx315_2, hx315_3, hx315_4, hx315_5, hx315_6, hl315_6, hi315_6⟩ := at_T44 HR0_0.out t313 p315 q315; cases e315; replace hx315_0 := (HB.out.cell (World.block_lt_of_cell? w _ hx315_0)).trans hx315_0; replace hx315_1 := (HB.out.cell (World.block_lt_of_cell? w _ hx315_1)).trans hx315_1; replace hx315_2 := (HB.out.cell (World.block_lt_of_cell? w _ hx315_2)).trans hx315_2; replace hx315_3 := (HB.out.cell (World.block_lt_of_cell? w _ hx315_3)).trans hx315_3; replace hx315_4 := (HB.out.cell (World.block_lt_of_cell? w _ hx315_4)).trans hx315_4; replace hx315_5 := (HB.out.cell (World.block_lt_of_cell? w _ hx315_5)).trans hx315_5; replace hx315_6 := (HB.out.cell (World.block_lt_of_cell? w _ hx315_6)).trans hx315_6; have HR315_6 := Aside0.mk hi315_6; have HC315_6 := Aside0.mk hl315_6; clear hi315_6 hl315_6; replace p315 := eq_true p315; replace q315 := eq_true q315) | ((with_reducible refine gate_dst (N := 8) rfl ?_); refine box_event ?hg (N := 8) ?hd (cs := #[.int .i64 0, .int .i64 0, .int .i64 0, .int .i64 0, .int .i64 0, .string (⟨#[]⟩ : ByteArray), .slice none 0 0]) (t := 44) ?hr ?_; (case hd => rfl); (case hg => rfl); (case hr => first | (go_simp; done) | (go_simp; rfl)); intro gb316 hg w14 hbox hb; have n0_ := Aside0.mk (blk_below (g := gb311) (o := .cells #[.slice (some ad315) l0_0.length c0_0, .int .i64 a0_1, .int .i64 a0_2, .int .i64 a0_3] 26 (0, 0)) (by (with_reducible repeat (first | refine blk_drewN ?_ _ | refine blk_drew ?_ | refine blk_alloc ?_ _)); exact BK311.out) hb); have n1_ := Aside0.mk (blk_below (g := gb312) (o := .cells #[.int .i64 0, .int .i64 0, .int .i64 0, .int .i64 0, .int .i64 0, .string (⟨#[]⟩ : ByteArray), .slice none 0 0] 44 (0, 0)) (by (with_reducible repeat (first | refine blk_drewN ?_ _ | refine blk_drew ?_ | refine blk_alloc ?_ _)); exact BK312.out) hb); have n2_ := Aside0.mk (below_step (by repeat (first | (with_reducible first | exact HB.out | apply below_alloc | apply pw_below_drewN | apply below_drew1 | refine below_set ?_ GE311.out | refine below_set ?_ GE312.out) | exact HB.out)) hb); have n3_ := Aside0.mk (hbox); have n4_ := Aside0.mk ((by rw [hg]; exact (below_size (by repeat (first | (with_reducible first | exact HB.out | apply below_alloc | apply pw_below_drewN | apply below_drew1 | refine below_set ?_ GE311.out | refine below_set ?_ GE312.out) | exact HB.out))) : w.heap.size ≤ gb316)); have n5_ := Aside0.mk ((by rw [hg]; exact (below_size (by repeat (first | (with_reducible first | exact HB.out | apply below_alloc | apply pw_below_drewN | apply below_drew1 | refine below_set ?_ GE311.out | refine below_set ?_ GE312.out) | exact HB.out))) : w.heap.size ≤ gb316)); have n6_ := Aside0.mk ((by rw [hg]; exact Nat.ne_of_lt (blk_lt (g := gb311) (o := .cells #[.slice (some ad315) l0_0.length c0_0, .int .i64 a0_1, .int .i64 a0_2, .int .i64 a0_3] 26 (0, 0)) (by (with_reducible repeat (first | refine blk_drewN ?_ _ | refine blk_drew ?_ | refine blk_alloc ?_ _)); exact BK311.out)) : gb311 ≠ gb316)); have n7_ := Aside0.mk ((by rw [hg]; exact Nat.ne_of_gt (blk_lt (g := gb311) (o := .cells #[.slice (some ad315) l0_0.length c0_0, .int .i64 a0_1, .int .i64 a0_2, .int .i64 a0_3] 26 (0, 0)) (by (with_reducible repeat (first | refine blk_drewN ?_ _ | refine blk_drew ?_ | refine blk_alloc ?_ _)); exact BK311.out)) : gb316 ≠ gb311)); have n8_ := Aside0.mk ((by rw [hg]; exact Nat.ne_of_lt (blk_lt (g := gb312) (o := .cells #[.int .i64 0, .int .i64 0, .int .i64 0, .int .i64 0, .int .i64 0, .string (⟨#[]⟩ : ByteArray), .slice none 0 0] 44 (0, 0)) (by (with_reducible repeat (first | refine blk_drewN ?_ _ | refine blk_drew ?_ | refine blk_alloc ?_ _)); exact BK312.out)) : gb312 ≠ gb316)); have n9_ := Aside0.mk ((by rw [hg]; exact Nat.ne_of_gt (blk_lt (g := gb312) (o := .cells #[.int .i64 0, .int .i64 0, .int .i64 0, .int .i64 0, .int .i64 0, .string (⟨#[]⟩ : ByteArray), .slice none 0 0] 44 (0, 0)) (by (with_reducible repeat (first | refine blk_drewN ?_ _ | refine blk_drew ?_ | refine blk_alloc ?_ _)); exact BK312.out)) : gb316 ≠ gb312)); clear BK311; clear BK312; clear HB; have BK311 := n0_; have BK312 := n1_; have HB := n2_; have BK316 := n3_; have GW316 := n4_; have GE316 := n5_; have NB311_316 := n6_; have NB316_311 := n7_; have NB312_316 := n8_; have NB316_312 := n9_; clear n0_ n1_ n2_ n3_ n4_ n5_ n6_ n7_ n8_ n9_; clear hb hbox hg; have hnb15 := NB316_311.out; have hnc15 := NB311_316.out; have hnb16 := NB316_312.out; have hnc16 := NB312_316.out; have hcz17_0 : w14.cell? ⟨gb316, 0, none⟩ = some (.int .i64 0) := (blk_cell BK316.out 0).trans rfl; have hcz17_1 : w14.cell? ⟨gb316, 1, none⟩ = some (.int .i64 0) := (blk_cell BK316.out 1).trans rfl; have hcz17_2 : w14.cell? ⟨gb316, 2, none⟩ = some (.int .i64 0) := (blk_cell BK316.out 2).trans rfl; have hcz17_3 : w14.cell? ⟨gb316, 3, none⟩ = some (.int .i64 0) := (blk_cell BK316.out 3).trans rfl; have hcz17_4 : w14.cell? ⟨gb316, 4, none⟩ = some (.int .i64 0) := (blk_cell BK316.out 4).trans rfl; have hcz17_5 : w14.cell? ⟨gb316, 5, none⟩ = some (.string (⟨#[]⟩ : ByteArray)) := (blk_cell BK316.out 5).trans rfl; have hcz17_6 : w14.cell? ⟨gb316, 6, none⟩ = some (.slice none 0 0) := (blk_cell BK316.out 6).trans rfl; have hfz17_0 := blk_frozen BK316.out 0; have hfz17_1 := blk_frozen BK316.out 1; have hfz17_2 := blk_frozen BK316.out 2; have hfz17_3 := blk_frozen BK316.out 3; have hfz17_4 := blk_frozen BK316.out 4; have hfz17_5 := blk_frozen BK316.out 5; have hfz17_6 := blk_frozen BK316.out 6) | ((with_reducible refine gate_callee (f := 65) rfl ?_); refine goesL_ (some 25) rfl rfl Tryd.func65 (by kernel_rfl) rfl #[.slice A315_6 ((rd_T44 l0_0 t313).f6).length c315_6] rfl (by (try simp only [List.map_toArray, List.map_cons, List.map_nil]); first | done | rfl | (simp only [List.length_drop, List.length_take]; rfl)) ?_; (with_reducible refine (api_Entry_65.calls _ _ ((rd_T44 l0_0 t313).f6) t317 _ ?side1 ?side2 A7.out).mono ?_); (case side1 => exact Kd.C_below HR315_6.out (by repeat (first | (with_reducible first | exact HB.out | apply below_alloc | apply pw_below_drewN | apply below_drew1 | refine below_set ?_ GE311.out | refine below_set ?_ GE312.out | refine below_set ?_ GE316.out) | exact HB.out))); (case side2 => exact HC315_6.out); rintro e w18 ⟨v318, rfl, ho0, hb⟩; refine ⟨_, rfl, ?_⟩; have n0_ := Aside0.mk (Kd.R_lower ho0 (below_size (by repeat (first | (with_reducible first | exact HB.out | apply below_alloc | apply pw_below_drewN | apply below_drew1 | refine below_set ?_ GE311.out | refine below_set ?_ GE312.out | refine below_set ?_ GE316.out) | exact HB.out)))); have n1_ := Aside0.mk (blk_below (g := gb311) (o := .cells #[.slice (some ad315) l0_0.length c0_0, .int .i64 a0_1, .int .i64 a0_2, .int .i64 a0_3] 26 (0, 0)) (by (with_reducible repeat (first | refine blk_drewN ?_ _ | refine blk_drew ?_ | refine blk_alloc ?_ _)); refine blk_far ?_ NB311_316.out _; (with_reducible repeat (first | refine blk_drewN ?_ _ | refine blk_drew ?_ | refine blk_alloc ?_ _)); refine blk_far ?_ NB311_316.out _; (with_reducible repeat (first | refine blk_drewN ?_ _ | refine blk_drew ?_ | refine blk_alloc ?_ _)); refine blk_far ?_ NB311_316.out _; (with_reducible repeat (first | refine blk_drewN ?_ _ | refine blk_drew ?_ | refine blk_alloc ?_ _)); refine blk_far ?_ NB311_316.out _; (with_reducible repeat (first | refine blk_drewN ?_ _ | refine blk_drew ?_ | refine blk_alloc ?_ _)); refine blk_far ?_ NB311_316.out _; (with_reducible repeat (first | refine blk_drewN ?_ _ | refine blk_drew ?_ | refine blk_alloc ?_ _)); refine blk_far ?_ NB311_316.out _; (with_reducible repeat (first | refine blk_drewN ?_ _ | refine blk_drew ?_ | refine blk_alloc ?_ _)); refine blk_far ?_ NB311_316.out _; (with_reducible repeat (first | refine blk_drewN ?_ _ | refine blk_drew ?_ | refine blk_alloc ?_ _)); exact BK311.out) hb); have n2_ := Aside0.mk (blk_below (g := gb312) (o := .cells #[.int .i64 0, .int .i64 0, .int .i64 0, .int .i64 0, .int .i64 0, .string (⟨#[]⟩ : ByteArray), .slice none 0 0] 44 (0, 0)) (by (with_reducible repeat (first | refine blk_drewN ?_ _ | refine blk_drew ?_ | refine blk_alloc ?_ _)); refine blk_far ?_ NB312_316.out _; (with_reducible repeat (first | refine blk_drewN ?_ _ | refine blk_drew ?_ | refine blk_alloc ?_ _)); refine blk_far ?_ NB312_316.out _; (with_reducible repeat (first | refine blk_drewN ?_ _ | refine blk_drew ?_ | refine blk_alloc ?_ _)); refine blk_far ?_ NB312_316.out _; (with_reducible repeat (first | refine blk_drewN ?_ _ | refine blk_drew ?_ | refine blk_alloc ?_ _)); refine blk_far ?_ NB312_316.out _; (with_reducible repeat (first | refine blk_drewN ?_ _ | refine blk_drew ?_ | refine blk_alloc ?_ _)); refine blk_far ?_ NB312_316.out _; (with_reducible repeat (first | refine blk_drewN ?_ _ | refine blk_drew ?_ | refine blk_alloc ?_ _)); refine blk_far ?_ NB312_316.out _; (with_reducible repeat (first | refine blk_drewN ?_ _ | refine blk_drew ?_ | refine blk_alloc ?_ _)); refine blk_far ?_ NB312_316.out _; (with_reducible repeat (first | refine blk_drewN ?_ _ | refine blk_drew ?_ | refine blk_alloc ?_ _)); exact BK312.out) hb); have n3_ := Aside0.mk (blk_below (g := gb316) (o := .cells #[.int .i64 ((rd_T44 l0_0 t313).f0), .int .i64 ((rd_T44 l0_0 t313).f1), .int .i64 ((rd_T44 l0_0 t313).f2), .int .i64 ((rd_T44 l0_0 t313).f3), .int .i64 ((rd_T44 l0_0 t313).f4), .string ((rd_T44 l0_0 t313).f5), .slice A315_6 ((rd_T44 l0_0 t313).f6).length c315_6] 44 (0, 0)) (by (with_reducible repeat (first | refine blk_drewN ?_ _ | refine blk_drew ?_ | refine blk_alloc ?_ _)); refine blk_put (cs := #[.int .i64 ((rd_T44 l0_0 t313).f0), .int .i64 ((rd_T44 l0_0 t313).f1), .int .i64 ((rd_T44 l0_0 t313).f2), .int .i64 ((rd_T44 l0_0 t313).f3), .int .i64 ((rd_T44 l0_0 t313).f4), .string ((rd_T44 l0_0 t313).f5), .slice none 0 0]) ?_ 6 _ (by first | rfl | (simp only [w64_PTr32]; rfl) | (simp [w64_PTr32]; done)); (with_reducible repeat (first | refine blk_drewN ?_ _ | refine blk_drew ?_ | refine blk_alloc ?_ _)); refine blk_put (cs := #[.int .i64 ((rd_T44 l0_0 t313).f0), .int .i64 ((rd_T44 l0_0 t313).f1), .int .i64 ((rd_T44 l0_0 t313).f2), .int .i64 ((rd_T44 l0_0 t313).f3), .int .i64 ((rd_T44 l0_0 t313).f4), .string (⟨#[]⟩ : ByteArray), .slice none 0 0]) ?_ 5 _ (by first | rfl | (simp only [w64_PTr32]; rfl) | (simp [w64_PTr32]; done)); (with_reducible repeat (first | refine blk_drewN ?_ _ | refine blk_drew ?_ | refine blk_alloc ?_ _)); refine blk_put (cs := #[.int .i64 ((rd_T44 l0_0 t313).f0), .int .i64 ((rd_T44 l0_0 t313).f1), .int .i64 ((rd_T44 l0_0 t313).f2), .int .i64 ((rd_T44 l0_0 t313).f3), .int .i64 0, .string (⟨#[]⟩ : ByteArray), .slice none 0 0]) ?_ 4 _ (by first | rfl | (simp only [w64_PTr32]; rfl) | (simp [w64_PTr32]; done)); (with_reducible repeat (first | refine blk_drewN ?_ _ | refine blk_drew ?_ | refine blk_alloc ?_ _)); refine blk_put (cs := #[.int .i64 ((rd_T44 l0_0 t313).f0), .int .i64 ((rd_T44 l0_0 t313).f1), .int .i64 ((rd_T44 l0_0 t313).f2), .int .i64 0, .int .i64 0, .string (⟨#[]⟩ : ByteArray), .slice none 0 0]) ?_ 3 _ (by first | rfl | (simp only [w64_PTr32]; rfl) | (simp [w64_PTr32]; done)); (with_reducible repeat (first | refine blk_drewN ?_ _ | refine blk_drew ?_ | refine blk_alloc ?_ _)); refine blk_put (cs := #[.int .i64 ((rd_T44 l0_0 t313).f0), .int .i64 ((rd_T44 l0_0 t313).f1), .int .i64 0, .int .i64 0, .int .i64 0, .string (⟨#[]⟩ : ByteArray), .slice none 0 0]) ?_ 2 _ (by first | rfl | (simp only [w64_PTr32]; rfl) | (simp [w64_PTr32]; done)); (with_reducible repeat (first | refine blk_drewN ?_ _ | refine blk_drew ?_ | refine blk_alloc ?_ _)); refine blk_put (cs := #[.int .i64 ((rd_T44 l0_0 t313).f0), .int .i64 0, .int .i64 0, .int .i64 0, .int .i64 0, .string (⟨#[]⟩ : ByteArray), .slice none 0 0]) ?_ 1 _ (by first | rfl | (simp only [w64_PTr32]; rfl) | (simp [w64_PTr32]; done)); (with_reducible repeat (first | refine blk_drewN ?_ _ | refine blk_drew ?_ | refine blk_alloc ?_ _)); refine blk_put (cs := #[.int .i64 0, .int .i64 0, .int .i64 0, .int .i64 0, .int .i64 0, .string (⟨#[]⟩ : ByteArray), .slice none 0 0]) ?_ 0 _ (by first | rfl | (simp only [w64_PTr32]; rfl) | (simp [w64_PTr32]; done)); (with_reducible repeat (first | refine blk_drewN ?_ _ | refine blk_drew ?_ | refine blk_alloc ?_ _)); exact BK316.out) hb); have n4_ := Aside0.mk (below_step (by repeat (first | (with_reducible first | exact HB.out | apply below_alloc | apply pw_below_drewN | apply below_drew1 | refine below_set ?_ GE311.out | refine below_set ?_ GE312.out | refine below_set ?_ GE316.out) | exact HB.out)) hb); clear BK311; clear BK312; clear BK316; clear HB; have HO319 := n0_; have BK311 := n1_; have BK312 := n2_; have BK316 := n3_; have HB := n4_; clear n0_ n1_ n2_ n3_ n4_; (try clear hb); (try clear hb2); (try clear hk); (try clear hi); (try clear ho0); obtain ⟨Ao19, co19, eo19⟩ := Kd.R_slice HO319.out; subst eo19; have hcz20_0 : w18.cell? ⟨gb316, 0, none⟩ = some (.int .i64 ((rd_T44 l0_0 t313).f0)) := (blk_cell BK316.out 0).trans rfl; have hcz20_1 : w18.cell? ⟨gb316, 1, none⟩ = some (.int .i64 ((rd_T44 l0_0 t313).f1)) := (blk_cell BK316.out 1).trans rfl; have hcz20_2 : w18.cell? ⟨gb316, 2, none⟩ = some (.int .i64 ((rd_T44 l0_0 t313).f2)) := (blk_cell BK316.out 2).trans rfl; have hcz20_3 : w18.cell? ⟨gb316, 3, none⟩ = some (.int .i64 ((rd_T44 l0_0 t313).f3)) := (blk_cell BK316.out 3).trans rfl; have hcz20_4 : w18.cell? ⟨gb316, 4, none⟩ = some (.int .i64 ((rd_T44 l0_0 t313).f4)) := (blk_cell BK316.out 4).trans rfl; have hcz20_5 : w18.cell? ⟨gb316, 5, none⟩ = some (.string ((rd_T44 l0_0 t313).f5)) := (blk_cell BK316.out 5).trans rfl; have hcz20_6 : w18.cell? ⟨gb316, 6, none⟩ = some (.slice A315_6 ((rd_T44 l0_0 t313).f6).length c315_6) := (blk_cell BK316.out 6).trans rfl; have hfz20_0 := blk_frozen BK316.out 0; have hfz20_1 := blk_frozen BK316.out 1; have hfz20_2 := blk_frozen BK316.out 2; have hfz20_3 := blk_frozen BK316.out 3; have hfz20_4 := blk_frozen BK316.out 4; have hfz20_5 := blk_frozen BK316.out 5; have hfz20_6 := blk_frozen BK316.out 6; have hcz21_0 : w18.cell? ⟨gb312, 0, none⟩ = some (.int .i64 0) := (blk_cell BK312.out 0).trans rfl; have hcz21_1 : w18.cell? ⟨gb312, 1, none⟩ = some (.int .i64 0) := (blk_cell BK312.out 1).trans rfl; have hcz21_2 : w18.cell? ⟨gb312, 2, none⟩ = some (.int .i64 0) := (blk_cell BK312.out 2).trans rfl; have hcz21_3 : w18.cell? ⟨gb312, 3, none⟩ = some (.int .i64 0) := (blk_cell BK312.out 3).trans rfl; have hcz21_4 : w18.cell? ⟨gb312, 4, none⟩ = some (.int .i64 0) := (blk_cell BK312.out 4).trans rfl; have hcz21_5 : w18.cell? ⟨gb312, 5, none⟩ = some (.string (⟨#[]⟩ : ByteArray)) := (blk_cell BK312.out 5).trans rfl; have hcz21_6 : w18.cell? ⟨gb312, 6, none⟩ = some (.slice none 0 0) := (blk_cell BK312.out 6).trans rfl; have hfz21_0 := blk_frozen BK312.out 0; have hfz21_1 := blk_frozen BK312.out 1; have hfz21_2 := blk_frozen BK312.out 2; have hfz21_3 := blk_frozen BK312.out 3; have hfz21_4 := blk_frozen BK312.out 4; have hfz21_5 := blk_frozen BK312.out 5; have hfz21_6 := blk_frozen BK312.out 6))
    refine bodyPost_ret (results_ct rfl _ _ gb312 44 #[.int .i64 ((rd_T44 l0_0 t313).f0), .int .i64 ((rd_T44 l0_0 t313).f1), .int .i64 ((rd_T44 l0_0 t313).f2), .int .i64 ((rd_T44 l0_0 t313).f3), .int .i64 ((rd_T44 l0_0 t313).f4), .string ((rd_T44 l0_0 t313).f5), .slice Ao19 t317.length co19] (0, 0) _ rfl (by (with_reducible repeat (first | refine blk_drewN ?_ _ | refine blk_drew ?_ | refine blk_alloc ?_ _)); refine blk_put (cs := #[.int .i64 ((rd_T44 l0_0 t313).f0), .int .i64 ((rd_T44 l0_0 t313).f1), .int .i64 ((rd_T44 l0_0 t313).f2), .int .i64 ((rd_T44 l0_0 t313).f3), .int .i64 ((rd_T44 l0_0 t313).f4), .string ((rd_T44 l0_0 t313).f5), .slice none 0 0]) ?_ 6 _ (by first | rfl | (simp only [w64_PTr32]; rfl) | (simp [w64_PTr32]; done)); (with_reducible repeat (first | refine blk_drewN ?_ _ | refine blk_drew ?_ | refine blk_alloc ?_ _)); refine blk_put (cs := #[.int .i64 ((rd_T44 l0_0 t313).f0), .int .i64 ((rd_T44 l0_0 t313).f1), .int .i64 ((rd_T44 l0_0 t313).f2), .int .i64 ((rd_T44 l0_0 t313).f3), .int .i64 ((rd_T44 l0_0 t313).f4), .string (⟨#[]⟩ : ByteArray), .slice none 0 0]) ?_ 5 _ (by first | rfl | (simp only [w64_PTr32]; rfl) | (simp [w64_PTr32]; done)); (with_reducible repeat (first | refine blk_drewN ?_ _ | refine blk_drew ?_ | refine blk_alloc ?_ _)); refine blk_put (cs := #[.int .i64 ((rd_T44 l0_0 t313).f0), .int .i64 ((rd_T44 l0_0 t313).f1), .int .i64 ((rd_T44 l0_0 t313).f2), .int .i64 ((rd_T44 l0_0 t313).f3), .int .i64 0, .string (⟨#[]⟩ : ByteArray), .slice none 0 0]) ?_ 4 _ (by first | rfl | (simp only [w64_PTr32]; rfl) | (simp [w64_PTr32]; done)); (with_reducible repeat (first | refine blk_drewN ?_ _ | refine blk_drew ?_ | refine blk_alloc ?_ _)); refine blk_put (cs := #[.int .i64 ((rd_T44 l0_0 t313).f0), .int .i64 ((rd_T44 l0_0 t313).f1), .int .i64 ((rd_T44 l0_0 t313).f2), .int .i64 0, .int .i64 0, .string (⟨#[]⟩ : ByteArray), .slice none 0 0]) ?_ 3 _ (by first | rfl | (simp only [w64_PTr32]; rfl) | (simp [w64_PTr32]; done)); (with_reducible repeat (first | refine blk_drewN ?_ _ | refine blk_drew ?_ | refine blk_alloc ?_ _)); refine blk_put (cs := #[.int .i64 ((rd_T44 l0_0 t313).f0), .int .i64 ((rd_T44 l0_0 t313).f1), .int .i64 0, .int .i64 0, .int .i64 0, .string (⟨#[]⟩ : ByteArray), .slice none 0 0]) ?_ 2 _ (by first | rfl | (simp only [w64_PTr32]; rfl) | (simp [w64_PTr32]; done)); (with_reducible repeat (first | refine blk_drewN ?_ _ | refine blk_drew ?_ | refine blk_alloc ?_ _)); refine blk_put (cs := #[.int .i64 ((rd_T44 l0_0 t313).f0), .int .i64 0, .int .i64 0, .int .i64 0, .int .i64 0, .string (⟨#[]⟩ : ByteArray), .slice none 0 0]) ?_ 1 _ (by first | rfl | (simp only [w64_PTr32]; rfl) | (simp [w64_PTr32]; done)); (with_reducible repeat (first | refine blk_drewN ?_ _ | refine blk_drew ?_ | refine blk_alloc ?_ _)); refine blk_put (cs := #[.int .i64 0, .int .i64 0, .int .i64 0, .int .i64 0, .int .i64 0, .string (⟨#[]⟩ : ByteArray), .slice none 0 0]) ?_ 0 _ (by first | rfl | (simp only [w64_PTr32]; rfl) | (simp [w64_PTr32]; done)); (with_reducible repeat (first | refine blk_drewN ?_ _ | refine blk_drew ?_ | refine blk_alloc ?_ _)); refine blk_far ?_ NB312_316.out _; (with_reducible repeat (first | refine blk_drewN ?_ _ | refine blk_drew ?_ | refine blk_alloc ?_ _)); exact BK312.out) Tryd.underlying44 rfl (by kernel_rfl)) rfl ?_
    exact ⟨_, by first | rfl | (simp [errW_none, errW_some] <;> rfl) | (simp [*, errW_none, errW_some] <;> rfl), by (with_reducible repeat (first | apply Kd.R_alloc | apply Kd.R_drewN | apply Kd.R_drew)); exact Kd.R_mono (Kd.R_far (p := ⟨gb312, 6, none⟩) (Kd.R_far (p := ⟨gb312, 5, none⟩) (Kd.R_far (p := ⟨gb312, 4, none⟩) (Kd.R_far (p := ⟨gb312, 3, none⟩) (Kd.R_far (p := ⟨gb312, 2, none⟩) (Kd.R_far (p := ⟨gb312, 1, none⟩) (Kd.R_far (p := ⟨gb312, 0, none⟩) (Kd.R_far (p := ⟨gb316, 6, none⟩) (Kd.R_types (Kd.R_types HO319.out BK316.out (by decide)) BK312.out (by decide)) (fun _ hk => hk.1.2) (.slice Ao19 t317.length co19)) (fun _ hk => hk.2) (.int .i64 ((rd_T44 l0_0 t313).f0))) (fun _ hk => hk.2) (.int .i64 ((rd_T44 l0_0 t313).f1))) (fun _ hk => hk.2) (.int .i64 ((rd_T44 l0_0 t313).f2))) (fun _ hk => hk.2) (.int .i64 ((rd_T44 l0_0 t313).f3))) (fun _ hk => hk.2) (.int .i64 ((rd_T44 l0_0 t313).f4))) (fun _ hk => hk.2) (.string ((rd_T44 l0_0 t313).f5))) (fun _ hk => hk.2) (.slice Ao19 t317.length co19)) (fun _ hk => trivial), by repeat (first | (with_reducible first | exact HB.out | apply below_alloc | apply pw_below_drewN | apply below_drew1 | refine below_set ?_ GE311.out | refine below_set ?_ GE312.out | refine below_set ?_ GE316.out) | exact HB.out)⟩
   ·
    rw [if_neg c6] at H
    exact absurd H (by simp)
  ·
   rw [if_neg c5] at H
   exact absurd H (by simp)
 ·
  replace c4 := Bool.eq_false_iff.mpr c4
  subst c4
  have H1 : (some (0, 0, 0, 0, 0, (⟨#[]⟩ : ByteArray), ([] : List (S61)), false)) = some (r1, r2, r3, r4, r5, r6, r7, r8) := by rw [if_neg (show ¬ (false = true) by decide)] at H; exact H
  clear H
  have H := H1
  clear H1
  simp only [Option.some.injEq, Prod.mk.injEq] at H
  obtain ⟨rfl, rfl, rfl, rfl, rfl, rfl, rfl, rfl⟩ := H
  go_enter Tryd.func26, Tryd.ntmps26
  go_wp2_with (first | ((with_reducible refine gate_dst (N := 2) rfl ?_); refine box_event ?hg (N := 2) ?hd (cs := #[.slice A0_0 l0_0.length c0_0, .int .i64 a0_1, .int .i64 a0_2, .int .i64 a0_3]) (t := 26) ?hr ?_; (case hd => rfl); (case hg => rfl); (case hr => first | (go_simp; done) | (go_simp; rfl)); intro gb311 hg w22 hbox hb; have n0_ := Aside0.mk (below_step (by repeat (first | (with_reducible first | exact HB.out | apply below_alloc | apply pw_below_drewN | apply below_drew1) | exact HB.out)) hb); have n1_ := Aside0.mk (hbox); have n2_ := Aside0.mk ((by rw [hg]; exact (below_size (by repeat (first | (with_reducible first | exact HB.out | apply below_alloc | apply pw_below_drewN | apply below_drew1) | exact HB.out))) : w.heap.size ≤ gb311)); have n3_ := Aside0.mk ((by rw [hg]; exact (below_size (by repeat (first | (with_reducible first | exact HB.out | apply below_alloc | apply pw_below_drewN | apply below_drew1) | exact HB.out))) : w.heap.size ≤ gb311)); clear HB; have HB := n0_; have BK311 := n1_; have GW311 := n2_; have GE311 := n3_; clear n0_ n1_ n2_ n3_; clear hb hbox hg) | ((with_reducible refine gate_dst (N := 4) rfl ?_); refine box_event ?hg (N := 4) ?hd (cs := #[.int .i64 0, .int .i64 0, .int .i64 0, .int .i64 0, .int .i64 0, .string (⟨#[]⟩ : ByteArray), .slice none 0 0]) (t := 44) ?hr ?_; (case hd => rfl); (case hg => rfl); (case hr => first | (go_simp; done) | (go_simp; rfl)); intro gb312 hg w23 hbox hb; have n0_ := Aside0.mk (blk_below (g := gb311) (o := .cells #[.slice A0_0 l0_0.length c0_0, .int .i64 a0_1, .int .i64 a0_2, .int .i64 a0_3] 26 (0, 0)) (by (with_reducible repeat (first | refine blk_drewN ?_ _ | refine blk_drew ?_ | refine blk_alloc ?_ _)); exact BK311.out) hb); have n1_ := Aside0.mk (below_step (by repeat (first | (with_reducible first | exact HB.out | apply below_alloc | apply pw_below_drewN | apply below_drew1 | refine below_set ?_ GE311.out) | exact HB.out)) hb); have n2_ := Aside0.mk (hbox); have n3_ := Aside0.mk ((by rw [hg]; exact (below_size (by repeat (first | (with_reducible first | exact HB.out | apply below_alloc | apply pw_below_drewN | apply below_drew1 | refine below_set ?_ GE311.out) | exact HB.out))) : w.heap.size ≤ gb312)); have n4_ := Aside0.mk ((by rw [hg]; exact (below_size (by repeat (first | (with_reducible first | exact HB.out | apply below_alloc | apply pw_below_drewN | apply below_drew1 | refine below_set ?_ GE311.out) | exact HB.out))) : w.heap.size ≤ gb312)); have n5_ := Aside0.mk ((by rw [hg]; exact Nat.ne_of_lt (blk_lt (g := gb311) (o := .cells #[.slice A0_0 l0_0.length c0_0, .int .i64 a0_1, .int .i64 a0_2, .int .i64 a0_3] 26 (0, 0)) (by (with_reducible repeat (first | refine blk_drewN ?_ _ | refine blk_drew ?_ | refine blk_alloc ?_ _)); exact BK311.out)) : gb311 ≠ gb312)); have n6_ := Aside0.mk ((by rw [hg]; exact Nat.ne_of_gt (blk_lt (g := gb311) (o := .cells #[.slice A0_0 l0_0.length c0_0, .int .i64 a0_1, .int .i64 a0_2, .int .i64 a0_3] 26 (0, 0)) (by (with_reducible repeat (first | refine blk_drewN ?_ _ | refine blk_drew ?_ | refine blk_alloc ?_ _)); exact BK311.out)) : gb312 ≠ gb311)); clear BK311; clear HB; have BK311 := n0_; have HB := n1_; have BK312 := n2_; have GW312 := n3_; have GE312 := n4_; have NB311_312 := n5_; have NB312_311 := n6_; clear n0_ n1_ n2_ n3_ n4_ n5_ n6_; clear hb hbox hg; have hnb24 := NB311_312.out; have hnc24 := NB312_311.out; have hcz25_0 : w23.cell? ⟨gb311, 0, none⟩ = some (.slice A0_0 l0_0.length c0_0) := (blk_cell BK311.out 0).trans rfl; have hcz25_1 : w23.cell? ⟨gb311, 1, none⟩ = some (.int .i64 a0_1) := (blk_cell BK311.out 1).trans rfl; have hcz25_2 : w23.cell? ⟨gb311, 2, none⟩ = some (.int .i64 a0_2) := (blk_cell BK311.out 2).trans rfl; have hcz25_3 : w23.cell? ⟨gb311, 3, none⟩ = some (.int .i64 a0_3) := (blk_cell BK311.out 3).trans rfl; have hfz25_0 := blk_frozen BK311.out 0; have hfz25_1 := blk_frozen BK311.out 1; have hfz25_2 := blk_frozen BK311.out 2; have hfz25_3 := blk_frozen BK311.out 3) | ((with_reducible refine gate_callee (f := 59) rfl ?_); refine goesL_ (some 12) rfl rfl Tryd.func59 (by kernel_rfl) rfl #[.agg #[.slice A0_0 l0_0.length c0_0, .int .i64 a0_1, .int .i64 a0_2, .int .i64 a0_3], .int .i64 a1] rfl (by (try simp only [List.map_toArray, List.map_cons, List.map_nil]); first | done | rfl | (simp only [List.length_drop, List.length_take]; rfl)) ?_; (with_reducible refine (tree_place.calls k _ _ l0_0 a0_1 a0_2 a0_3 a1 t313 false _ ?side1 ?side2 A3.out).mono ?_); (case side1 => repeat (first | exact (Kd.C_below HR0_0.out HB.out) | (with_reducible refine Kd.C_alloc ?_ _) | (with_reducible refine Kd.C_drewN ?_ _) | (with_reducible refine Kd.C_drew ?_))); (case side2 => exact HC0_0.out); rintro e w26 ⟨rfl, hb⟩; refine ⟨_, rfl, ?_⟩; have n0_ := Aside0.mk (blk_below (g := gb311) (o := .cells #[.slice A0_0 l0_0.length c0_0, .int .i64 a0_1, .int .i64 a0_2, .int .i64 a0_3] 26 (0, 0)) (by (with_reducible repeat (first | refine blk_drewN ?_ _ | refine blk_drew ?_ | refine blk_alloc ?_ _)); exact BK311.out) hb); have n1_ := Aside0.mk (blk_below (g := gb312) (o := .cells #[.int .i64 0, .int .i64 0, .int .i64 0, .int .i64 0, .int .i64 0, .string (⟨#[]⟩ : ByteArray), .slice none 0 0] 44 (0, 0)) (by (with_reducible repeat (first | refine blk_drewN ?_ _ | refine blk_drew ?_ | refine blk_alloc ?_ _)); exact BK312.out) hb); have n2_ := Aside0.mk (below_step (by repeat (first | (with_reducible first | exact HB.out | apply below_alloc | apply pw_below_drewN | apply below_drew1 | refine below_set ?_ GE311.out | refine below_set ?_ GE312.out) | exact HB.out)) hb); clear BK311; clear BK312; clear HB; have BK311 := n0_; have BK312 := n1_; have HB := n2_; clear n0_ n1_ n2_; (try clear hb); (try clear hb2); (try clear hk); (try clear hi); have hcz27_0 : w26.cell? ⟨gb312, 0, none⟩ = some (.int .i64 0) := (blk_cell BK312.out 0).trans rfl; have hcz27_1 : w26.cell? ⟨gb312, 1, none⟩ = some (.int .i64 0) := (blk_cell BK312.out 1).trans rfl; have hcz27_2 : w26.cell? ⟨gb312, 2, none⟩ = some (.int .i64 0) := (blk_cell BK312.out 2).trans rfl; have hcz27_3 : w26.cell? ⟨gb312, 3, none⟩ = some (.int .i64 0) := (blk_cell BK312.out 3).trans rfl; have hcz27_4 : w26.cell? ⟨gb312, 4, none⟩ = some (.int .i64 0) := (blk_cell BK312.out 4).trans rfl; have hcz27_5 : w26.cell? ⟨gb312, 5, none⟩ = some (.string (⟨#[]⟩ : ByteArray)) := (blk_cell BK312.out 5).trans rfl; have hcz27_6 : w26.cell? ⟨gb312, 6, none⟩ = some (.slice none 0 0) := (blk_cell BK312.out 6).trans rfl; have hfz27_0 := blk_frozen BK312.out 0; have hfz27_1 := blk_frozen BK312.out 1; have hfz27_2 := blk_frozen BK312.out 2; have hfz27_3 := blk_frozen BK312.out 3; have hfz27_4 := blk_frozen BK312.out 4; have hfz27_5 := blk_frozen BK312.out 5; have hfz27_6 := blk_frozen BK312.out 6))
  refine bodyPost_ret (results_ct rfl _ _ gb312 44 #[.int .i64 0, .int .i64 0, .int .i64 0, .int .i64 0, .int .i64 0, .string (⟨#[]⟩ : ByteArray), .slice none 0 0] (0, 0) _ rfl (by (with_reducible repeat (first | refine blk_drewN ?_ _ | refine blk_drew ?_ | refine blk_alloc ?_ _)); refine blk_put (cs := #[.int .i64 0, .int .i64 0, .int .i64 0, .int .i64 0, .int .i64 0, .string (⟨#[]⟩ : ByteArray), .slice none 0 0]) ?_ 6 _ (by first | rfl | (simp only [w64_PTr32]; rfl) | (simp [w64_PTr32]; done)); (with_reducible repeat (first | refine blk_drewN ?_ _ | refine blk_drew ?_ | refine blk_alloc ?_ _)); refine blk_put (cs := #[.int .i64 0, .int .i64 0, .int .i64 0, .int .i64 0, .int .i64 0, .string (⟨#[]⟩ : ByteArray), .slice none 0 0]) ?_ 5 _ (by first | rfl | (simp only [w64_PTr32]; rfl) | (simp [w64_PTr32]; done)); (with_reducible repeat (first | refine blk_drewN ?_ _ | refine blk_drew ?_ | refine blk_alloc ?_ _)); refine blk_put (cs := #[.int .i64 0, .int .i64 0, .int .i64 0, .int .i64 0, .int .i64 0, .string (⟨#[]⟩ : ByteArray), .slice none 0 0]) ?_ 4 _ (by first | rfl | (simp only [w64_PTr32]; rfl) | (simp [w64_PTr32]; done)); (with_reducible repeat (first | refine blk_drewN ?_ _ | refine blk_drew ?_ | refine blk_alloc ?_ _)); refine blk_put (cs := #[.int .i64 0, .int .i64 0, .int .i64 0, .int .i64 0, .int .i64 0, .string (⟨#[]⟩ : ByteArray), .slice none 0 0]) ?_ 3 _ (by first | rfl | (simp only [w64_PTr32]; rfl) | (simp [w64_PTr32]; done)); (with_reducible repeat (first | refine blk_drewN ?_ _ | refine blk_drew ?_ | refine blk_alloc ?_ _)); refine blk_put (cs := #[.int .i64 0, .int .i64 0, .int .i64 0, .int .i64 0, .int .i64 0, .string (⟨#[]⟩ : ByteArray), .slice none 0 0]) ?_ 2 _ (by first | rfl | (simp only [w64_PTr32]; rfl) | (simp [w64_PTr32]; done)); (with_reducible repeat (first | refine blk_drewN ?_ _ | refine blk_drew ?_ | refine blk_alloc ?_ _)); refine blk_put (cs := #[.int .i64 0, .int .i64 0, .int .i64 0, .int .i64 0, .int .i64 0, .string (⟨#[]⟩ : ByteArray), .slice none 0 0]) ?_ 1 _ (by first | rfl | (simp only [w64_PTr32]; rfl) | (simp [w64_PTr32]; done)); (with_reducible repeat (first | refine blk_drewN ?_ _ | refine blk_drew ?_ | refine blk_alloc ?_ _)); refine blk_put (cs := #[.int .i64 0, .int .i64 0, .int .i64 0, .int .i64 0, .int .i64 0, .string (⟨#[]⟩ : ByteArray), .slice none 0 0]) ?_ 0 _ (by first | rfl | (simp only [w64_PTr32]; rfl) | (simp [w64_PTr32]; done)); (with_reducible repeat (first | refine blk_drewN ?_ _ | refine blk_drew ?_ | refine blk_alloc ?_ _)); exact BK312.out) Tryd.underlying44 rfl (by kernel_rfl)) rfl ?_
  exact ⟨_, by first | rfl | (simp [errW_none, errW_some] <;> rfl) | (simp [*, errW_none, errW_some] <;> rfl), by first | exact Kd.R_nil _ _ _ _ _ | exact Kd.N_nil _ _ _ _ _ | exact Kd.V_nil _ _ _ _ _ | exact Kd.Q_nil _ _ _ _ _ | exact Kd.S_nil _ _ _ _ _, by repeat (first | (with_reducible first | exact HB.out | apply below_alloc | apply pw_below_drewN | apply below_drew1 | refine below_set ?_ GE311.out | refine below_set ?_ GE312.out) | exact HB.out)⟩
end Go.Proofs.YtnpnablnnfekkaaDoor.PTr
