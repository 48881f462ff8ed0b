/- Texts of this claim's proof: small lemmas, walks and plain laws (merged by wip/shake.py). -/
import Derived.Test.YtgcbipflmhbpcaaVnM0
import Derived.ChangeArms
import Derived.ChangeSlices
import Derived.WideShapes
import Derived.SizedLaws
import Derived.OpenShut
import Derived.Test.YtgcbipflmhbpcaaProg
import Derived.Below
import Derived.OwnWalk
import Derived.Tactics
import Derived.WalkKit
import Derived.KernelRfl
import Derived.RowKit3
import Derived.Deep.LoopGhost
import Derived.Deep.QuietTactic
import Derived.BigQuiet
import Derived.WideLaws
import Derived.Deep.DeepCutAuto
import Derived.Laws.Rows
import Derived.Laws.OwnMore
import Derived.Lib.AppendStr
import Derived.Lib.Hide
import Derived.WalkSpells
import Derived.WalkSmall
import Derived.Maps.AppendAt
import Derived.Deep.AppendLies
import Derived.Outline
set_option linter.unusedVariables false
set_option linter.unusedSimpArgs false
namespace Go.Proofs.Ytgcbipflmhbpcaa
open Go Go.RowKit Go.ChangeShapes Go.WideShapes Go.Proofs.YtgcbipflmhbpcaaW.PrintWords
def Opens (P : Program) {α : Type} (d : Kd α) (t : TypeId) (B : α → Prop) : Prop :=
  ∀ {H : Type} {enc : TypeId × Value → H} {w : World} {base : Nat} {spare : Nat → Bool} {held : Bool} {fuel : Nat} {cs : List Value} {y : DataW H × List MemPlace},
    DataW.trod enc P w base spare held fuel t cs = some y → (∀ n ∈ y.1.weights P t, n ≤ reachBytes) → ∃ x, d.K w x cs ∧ B x
theorem opens_int {P : Program} {t : TypeId} {k : IntKind} (ht : P.underlying t = some (.int k)) : Opens P (Kd.int k) t (fun n => (Lit.int k n).wf = true) := by
  intro H enc w base spare held fuel cs y h _
  obtain ⟨n, rfl, _, hw⟩ := DataW.trod_int ht h
  exact ⟨n, rfl, hw⟩
theorem opens_string {P : Program} {t : TypeId} (ht : P.underlying t = some .string) : Opens P Kd.string t (fun s => s.size ≤ reachBytes) := by
  intro H enc w base spare held fuel cs y h hz
  obtain ⟨s, rfl, rfl, _⟩ := DataW.trod_string ht h
  refine ⟨s, rfl, ?_⟩
  have := hz s.data.toList.length (by simp [DataW.weights])
  rwa [Array.length_toList] at this
theorem mem_wAll {H : Type} {P : Program} {e : TypeId} {l : List (DataW H)} {d : DataW H} (hd : d ∈ l) {n : Nat} (hn : n ∈ d.weights P e) : n ∈ DataW.weightsAll P e l := by
  induction l with
  | nil => cases hd
  | cons x r ih =>
    simp only [DataW.weightsAll, List.mem_append]
    rcases List.mem_cons.1 hd with h | h
    · subst h; exact .inl hn
    · exact .inr (ih h)
theorem pick {α : Type} {Q : Nat → α → Prop} : ∀ (n : Nat), (∀ i, i < n → ∃ x, Q i x) → ∃ xs : List α, xs.length = n ∧ ∀ i x, xs[i]? = some x → Q i x := by
  intro n
  induction n with
  | zero => intro _; exact ⟨[], rfl, fun i x h => by simp at h⟩
  | succ n ih =>
    intro h
    obtain ⟨xs, hl, hx⟩ := ih (fun i hi => h i (by omega))
    obtain ⟨x, hq⟩ := h n (by omega)
    refine ⟨xs ++ [x], by simp [hl], fun i y hy => ?_⟩
    by_cases hi : i < n
    · rw [List.getElem?_append_left (by omega)] at hy; exact hx i y hy
    · have : i < (xs ++ [x]).length := (List.getElem?_eq_some_iff.1 hy).1
      simp only [List.length_append, List.length_cons, List.length_nil] at this
      have hi2 : i = n := by omega
      subst hi2
      rw [List.getElem?_append_right (by omega)] at hy
      simp [hl] at hy
      subst hy; exact hq
theorem opens_slice {P : Program} {α : Type} {d : Kd α} {B : α → Prop} {t e : TypeId} (q : Nat) (ht : P.underlying t = some (.slice e)) (hd : Opens P d e B) (hc : P.cellsOf e = d.sz) :
    Opens P (Kd.slice q d) t (fun xs => xs.length * P.bytesOf e ≤ reachBytes ∧ xs.length ≤ 9223372036854775807 ∧ ∀ x ∈ xs, B x) := by
  intro H enc w base spare held fuel cs y h hz
  rcases DataW.trod_slice ht h with ⟨rfl, rfl⟩ | ⟨a, len, cap, elems, rest, n, _, rfl, rfl, hb, hl, hm, hlen, hel, hsp, hns⟩
  · exact ⟨[], ⟨none, 0, rfl, Nat.le_refl _, rfl, by simp, fun h => absurd h (by simp)⟩, by simp, by simp, fun x hx => by cases hx⟩
  · have hmax : len ≤ 9223372036854775807 := Nat.le_trans (Nat.le_trans hl hm) (by unfold maxLen; decide)
    have hzz : ∀ n ∈ (elems.length + rest.length) * P.bytesOf e :: (DataW.weightsAll P e (elems.map (·.1)) ++ DataW.weightsAll P e (rest.map (·.1))), n ≤ reachBytes := by
      intro n hn
      refine hz n ?_
      simp only [DataW.weights, ht, List.length_map]
      exact hn
    have each : ∀ i, i < len → ∃ x, ∃ c : List Value, c.length = d.sz ∧ d.K w x c ∧ B x ∧ ∀ k u, c[k]? = some u → w.cell? (a.add (i * d.sz + k)) = some u := by
      intro i hi
      have h1 := hel i hi
      have hlt : i < elems.length := by omega
      rw [List.getElem?_eq_getElem hlt, Option.bind_eq_some_iff] at h1
      obtain ⟨c, hcs, hy⟩ := h1
      obtain ⟨_, hcl, hcell⟩ := World.cells?_some hcs
      obtain ⟨x, hK, hB⟩ := hd hy (fun n hn => hzz n (List.mem_cons_of_mem _ (List.mem_append_left _ (mem_wAll (List.mem_map.2 ⟨elems[i], List.getElem_mem hlt, rfl⟩) hn))))
      refine ⟨x, c, d.K_len hK, hK, hB, fun k u hu => ?_⟩
      have hk : k < P.cellsOf e := by have := (List.getElem?_eq_some_iff.1 hu).1; rw [d.K_len hK] at this; omega
      have h2 := hcell k hk
      rw [hc] at h2
      rw [add_add] at h2
      rw [h2, hu]
    obtain ⟨xs, hxl, hxs⟩ := pick (Q := fun i x => ∃ c : List Value, c.length = d.sz ∧ d.K w x c ∧ B x ∧ ∀ k u, c[k]? = some u → w.cell? (a.add (i * d.sz + k)) = some u) len each
    refine ⟨xs, ⟨some a, cap, by rw [hxl], by omega, rfl, by omega, fun _ => ⟨a, rfl, fun j p hp => ?_⟩⟩, ?_, by omega, fun x hx => ?_⟩
    · obtain ⟨c, h1, h2, _, h3⟩ := hxs j p hp
      exact ⟨c, h1, h2, h3⟩
    · have := hzz _ List.mem_cons_self
      rw [hlen] at this
      rw [hxl]
      exact Nat.le_trans (Nat.mul_le_mul_right _ (Nat.le_add_right _ _)) this
    · obtain ⟨i, hi⟩ := List.getElem?_of_mem hx
      obtain ⟨_, _, _, hB, _⟩ := hxs i x hi
      exact hB
/-- cells in a row, read field by field -/
def OpenF (P : Program) {α : Type} (d : Kd α) (ts : List TypeId) (B : α → Prop) : Prop :=
  ∀ {H : Type} {enc : TypeId × Value → H} {w : World} {base : Nat} {spare : Nat → Bool} {held : Bool} {fuel : Nat} {cs : List Value} {ys : List (DataW H × List MemPlace)},
    cs.length = (ts.map P.cellsOf).sum → ys.length = ts.length → (∀ (i : Nat) (t : TypeId), ts[i]? = some t → DataW.trod enc P w base spare held fuel t ((cs.drop ((ts.take i).map P.cellsOf).sum).take (P.cellsOf t)) = ys[i]?) →
    (∀ n ∈ DataW.weightsEach P ts (ys.map (·.1)), n ≤ reachBytes) → ∃ x, d.K w x cs ∧ B x
theorem openF_one {P : Program} {α : Type} {d : Kd α} {t : TypeId} {B : α → Prop} (h : Opens P d t B) : OpenF P d [t] B := by
  intro H enc w base spare held fuel cs ys hl hn hy hz
  obtain ⟨y, rfl⟩ : ∃ y, ys = [y] := by
    match ys, hn with
    | [y], _ => exact ⟨y, rfl⟩
  have h0 := hy 0 t rfl
  simp only [List.map_cons, List.map_nil, List.sum_cons, List.sum_nil, Nat.add_zero] at hl
  rw [List.take_zero, List.map_nil, List.sum_nil, List.drop_zero, List.take_of_length_le (by omega)] at h0
  exact h h0 (fun n hn => hz n (by simpa [DataW.weightsEach] using hn))
theorem openF_cons {P : Program} {α β : Type} {d : Kd α} {d' : Kd β} {t : TypeId} {ts : List TypeId} {B : α → Prop} {B' : β → Prop} (h : Opens P d t B) (h' : OpenF P d' ts B') : OpenF P (Kd.pair d d') (t :: ts) (fun x => B x.1 ∧ B' x.2) := by
  intro H enc w base spare held fuel cs ys hl hn hy hz
  obtain ⟨y, r, rfl⟩ : ∃ y r, ys = y :: r := by
    match ys, hn with
    | y :: r, _ => exact ⟨y, r, rfl⟩
  simp only [List.map_cons, List.sum_cons] at hl
  have h0 := hy 0 t rfl
  rw [List.take_zero, List.map_nil, List.sum_nil, List.drop_zero] at h0
  have hzz : ∀ n ∈ y.1.weights P t ++ DataW.weightsEach P ts (r.map (·.1)), n ≤ reachBytes := fun n hn => hz n (by simpa [DataW.weightsEach] using hn)
  obtain ⟨x, hK, hB⟩ := h h0 (fun n hn => hzz n (List.mem_append_left _ hn))
  obtain ⟨x', hK', hB'⟩ := h' (cs := cs.drop (P.cellsOf t)) (ys := r) (by rw [List.length_drop]; omega) (by simpa using hn) (fun i u hu => by
    have := hy (i + 1) u hu
    simp only [List.take_succ_cons, List.map_cons, List.sum_cons, List.getElem?_cons_succ] at this
    rw [List.drop_drop]
    exact this) (fun n hn => hzz n (List.mem_append_right _ hn))
  exact ⟨(x, x'), ⟨cs.take (P.cellsOf t), cs.drop (P.cellsOf t), (List.take_append_drop _ _).symm, hK, hK'⟩, hB, hB'⟩
theorem opens_struct {P : Program} {α β : Type} {d : Kd α} {B : α → Prop} {t : TypeId} {fs : Array Field} (f : β → α) (g : α → β) (hfg : ∀ a, f (g a) = a) (ht : P.underlying t = some (.struct fs))
    (h : OpenF P d (fs.toList.map (·.type)) B) (ho : ∀ (i : Nat) (x : Field), fs[i]? = some x → x.offset = (((fs.toList.map (·.type)).take i).map P.cellsOf).sum) (hs : P.cellsOf t = ((fs.toList.map (·.type)).map P.cellsOf).sum) :
    Opens P (Kd.iso d f) t (fun b => B (f b)) := by
  intro H enc w base spare held fuel cs y hy hz
  obtain ⟨ys, n, _, rfl, hl, hn, hf⟩ := DataW.trod_struct ht hy
  obtain ⟨x, hK, hB⟩ := h (cs := cs) (ys := ys) (by rw [hl, hs]) (by rw [hn, List.length_map, Array.length_toList]) (fun i u hu => by
    rw [List.getElem?_map, Option.map_eq_some_iff] at hu
    obtain ⟨x, hx, rfl⟩ := hu
    have hx2 : fs[i]? = some x := by simpa using hx
    rw [← ho i x hx2]
    exact hf i x hx2) (fun n hn => hz n (by simp only [DataW.weights, ht]; exact hn))
  exact ⟨g x, by show d.K w (f (g x)) cs; rw [hfg]; exact hK, by show B (f (g x)); rw [hfg]; exact hB⟩
end Go.Proofs.Ytgcbipflmhbpcaa
set_option linter.unusedVariables false
set_option linter.unusedSimpArgs false
namespace Go.Proofs.Ytgcbipflmhbpcaa
open Go.RowKit
theorem bk_new (w : World) (o : Obj) : (w.alloc o).heap[w.heap.size]? = some o := heap_alloc_new w o
theorem bk_lt {w : World} {k : Nat} {o : Obj} (h : w.heap[k]? = some o) : k < w.heap.size := (Array.getElem?_eq_some_iff.1 h).1
/-- what a call may have turned: the blocks of S alone, and new ones -/
structure Frm (S : Nat → Prop) (w w' : World) : Prop where
  os : w'.os = w.os
  tape : w'.tape = w.tape
  output : w'.output = w.output
  size : w.heap.size ≤ w'.heap.size
  block : ∀ i, i < w.heap.size → ¬ S i → w'.heap[i]? = w.heap[i]?
theorem Frm.refl (S : Nat → Prop) (w : World) : Frm S w w := ⟨rfl, rfl, rfl, Nat.le_refl _, fun _ _ _ => rfl⟩
theorem Frm.trans {S T : Nat → Prop} {a b c : World} (h : Frm S a b) (k : Frm T b c) (hT : ∀ i, i < a.heap.size → T i → S i) : Frm S a c :=
  ⟨k.os.trans h.os, k.tape.trans h.tape, k.output.trans h.output, Nat.le_trans h.size k.size, fun i hi hs => (k.block i (Nat.lt_of_lt_of_le hi h.size) (fun ht => hs (hT i hi ht))).trans (h.block i hi hs)⟩
theorem Frm.of_below {S : Nat → Prop} {a b : World} (h : Below a.heap.size a b) : Frm S a b := ⟨h.os, h.tape, h.output, h.size, fun i hi _ => h.block i hi⟩
theorem Frm.below {S : Nat → Prop} {B : Nat} {a b : World} (h : Frm S a b) (hB : B ≤ a.heap.size) (hS : ∀ i, i < B → ¬ S i) : Below B a b := ⟨h.os, h.tape, h.output, h.size, fun i hi => h.block i (Nat.lt_of_lt_of_le hi hB) (hS i hi)⟩
theorem Frm.blk {S : Nat → Prop} {a b : World} {k : Nat} {o : Obj} (h : Frm S a b) (hs : ¬ S k) (ho : a.heap[k]? = some o) : b.heap[k]? = some o := (h.block k (bk_lt ho) hs).trans ho
theorem Frm.drew {S : Nat → Prop} {a b : World} (h : Frm S a b) : Frm S a b.drew := ⟨h.os, h.tape, h.output, h.size, h.block⟩
theorem Frm.drewN {S : Nat → Prop} {a b : World} (h : Frm S a b) (n : Nat) : Frm S a (b.drewN n) := ⟨h.os, h.tape, h.output, h.size, h.block⟩
theorem Frm.alloc {S : Nat → Prop} {a b : World} (h : Frm S a b) (o : Obj) : Frm S a (b.alloc o) :=
  h.trans (Frm.of_below ((Below.refl _ b).alloc (Nat.le_refl _) o) : Frm S b (b.alloc o)) (fun _ _ k => k)
theorem Frm.setCell {S : Nat → Prop} {a b : World} (h : Frm S a b) (x : Addr) (v : Value) (hs : x.block < a.heap.size → S x.block) : Frm S a (b.setCell x v) :=
  ⟨h.os, h.tape, h.output, by simpa [World.setCell] using h.size, fun i hi hn => by
    have hne : i ≠ x.block := fun e => hn (e ▸ hs (e ▸ hi))
    exact (Below.heap_setCell b x v i hne).trans (h.block i hi hn)⟩
theorem Frm.grown {S : Nat → Prop} {a b c : World} {row : Option Nat} (h : Frm S a b) (hg : b.grownBy c row) (hr : ∀ k, row = some k → k < a.heap.size → S k) : Frm S a c :=
  ⟨hg.os.trans h.os, hg.tape.trans h.tape, hg.output.trans h.output, Nat.le_trans h.size hg.size, fun i hi hn => (hg.block i (Nat.lt_of_lt_of_le hi h.size) (fun e => hn (hr i e.symm hi))).trans (h.block i hi hn)⟩
end Go.Proofs.Ytgcbipflmhbpcaa
