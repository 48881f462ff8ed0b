/- A range over a function that keeps its state in a variable of its own: the law of the loop, and strings.SplitSeq at a slash. -/
import Derived.RangeFuncNested
import Derived.RangeFuncBound
import Derived.RangeFuncCalls
import Derived.RangeFuncLeaves
import Derived.RangeFuncBox
import Derived.Shelf.Abstract
import Derived.Shelf.RegionOpen
import Derived.WalkKit
import Derived.OwnWalkIn
import Derived.TacticsInMore
import Derived.LoopNIn
import Derived.LoopIn
import Derived.Maps.AppendAt
import Derived.Lib.Hide
import Derived.Outline
import Derived.Test.YtnpnablnnfekkaaDoorShelf
set_option linter.unusedVariables false
set_option linter.unusedSimpArgs false
namespace Go.Proofs.YtnpnablnnfekkaaDoor
open Go.RowKit Go.Shelf

attribute [local go_sem] Oper.semAt_some

/-- An iterator that hands over all of 'all', one behind the other, or stops behind a round that says so; between two rounds it turns the cell of block bs, which holds a text. -/
def SeqC (F : Fence) (n : Nat) (P : Program) (g : Nat) (lb : Array Value) (Kp : World → World → Prop) (bs : Nat) (all : List ByteArray) (w : World) : Prop :=
  ∀ (l : Nat) (J Jx : List ByteArray → World → Prop) (W : World), Below w.heap.size w W →
    (∀ s A x, J s A → J s (A.setCell ⟨bs, 0, none⟩ (.string x))) →
    (∀ pre x W1, pre ++ [x] <+: all → J pre W1 → YieldAt F (n - 1) P l #[.string x] W1 fun e W' =>
      (e = .returned (.bool true) ∧ J (pre ++ [x]) W' ∧ Kp W1 W') ∨ (e = .returned (.bool false) ∧ Jx (pre ++ [x]) W')) →
    J [] W →
    CallsIn F n P g (#[.func (.yield l) #[] #[]] ++ lb) W fun e W' => (∃ v, e = .returned v) ∧ (J all W' ∨ (∃ pre, pre <+: all ∧ Jx pre W'))

/-- how the body of a round may be left -/
def leftBy (Kp : World → World → Prop) (B : Nat) (I : List ByteArray → World → Prop) (Ix : Code → List ByteArray → World → Prop) (xs : List ByteArray) (W : World) : Exit → Act → World → Prop
  | .normal, _, W' => KeepsFrom B W W' ∧ Kp W W' ∧ I xs W'
  | .ret, _, W' => KeepsFrom B W W' ∧ Ix .ret xs W'
  | .exit id, _, W' => KeepsFrom B W W' ∧ Ix (.exit id) xs W'
  | .goto t, _, W' => KeepsFrom B W W' ∧ Ix (.goto t) xs W'
  | .panic _, _, _ => False
  | .outgrown, _, _ => False

theorem setCell_other {w : World} {k b : Nat} {o : Obj} (v : Value) (hne : k ≠ b) (h : w.heap[k]? = some o) : (w.setCell ⟨b, 0, none⟩ v).heap[k]? = some o :=
  (Below.heap_setCell w ⟨b, 0, none⟩ v k hne).trans h

theorem range_state {F : Fence} {n : Nat} {P : Program} {g : Operand} {t : Tmp} {assign body : Code} {Q : Exit → Act → World → Prop} {a : Act} {w : World}
    (hro : F.round = none) (h1 : 1 ≤ n) {gf : Nat} {lb : Array Value} (hg : a.eval g = .func (.func gf) #[] lb) (hFg : F.fn gf) (eg : ∀ args w, (callFunc gf args).run P w = .ok (.enter gf args) w)
    {Kp : World → World → Prop} {bs : Nat} {all : List ByteArray} {w0 : World} (hseq : SeqC F (n - 1) P gf lb Kp bs all w0) (hbs : bs < w.heap.size)
    (hKt : ∀ {A B C : World}, Kp A B → Kp B C → Kp A C) (hKb : ∀ (W : World) (l : Nat) (o : Obj), w.heap.size ≤ l → Kp W (W.putObj l o)) (hb0 : Below w0.heap.size w0 w)
    (I : List ByteArray → World → Prop) (Ix : Code → List ByteArray → World → Prop) (hI : OwnFrom w.heap.size I) (hIx : ∀ c, OwnFrom w.heap.size (Ix c)) (hIc : ∀ s A x, I s A → I s (A.setCell ⟨bs, 0, none⟩ (.string x))) (h0 : I [] w)
    (hround : ∀ (l : Nat) (pre : List ByteArray) (x : ByteArray) (W : World), pre ++ [x] <+: all → I pre W →
      assign.wpIn (F.inRound l) (n - 1 - 1) P (Exit.then (fun a₁ w₁ => W = w₁ ∧ ∀ W', I pre W' → body.wpIn (F.inRound l) (n - 1 - 1) P (leftBy Kp w.heap.size I Ix (pre ++ [x]) W') a₁ W') (fun _ _ _ => False)) { tmps := a.tmps.setIfInBounds t (.string x), defers := [] } W)
    (hdone : ∀ (D : Nat) (W : World), w.heap.size ≤ D → I all W → W.heap[D]? = some (.deferred (some [])) → Q .normal { a with defers := { target := .collected D, args := #[] } :: a.defers } W)
    (hstop : ∀ (D : Nat) (c : Code) (pre : List ByteArray) (W : World), w.heap.size ≤ D → pre <+: all → Ix c pre W → W.heap[D]? = some (.deferred (some [])) → c.wpIn F n P Q { a with defers := { target := .collected D, args := #[] } :: a.defers } W) :
    (Code.rangeFunc g #[t] assign body).wpIn F n P Q a w := by
  refine wpIn_rangeFunc fun fn hfn => ?_
  rw [hro]
  -- the record, as the loop has it, and the two blocks that the statement lays
  let rec_ : LoopState → Option Code → Loop := fun st pe => { state := st, pending := pe, fn, tmps := a.tmps, params := #[t], assign, body, defers := w.heap.size }
  have e1 := run_enterLoop_outer (P := P) (w := w) fn a.tmps #[t] assign body
  generalize hW1 : (w.alloc (.deferred (some []))).alloc (.loop { state := .ready, pending := none, fn, tmps := a.tmps, params := #[t], assign, body, defers := w.heap.size }) = W1 at e1
  have sz1 : W1.heap.size = w.heap.size + 2 := by rw [← hW1]; simp
  have rL : W1.heap[w.heap.size + 1]? = some (.loop (rec_ .ready none)) := by
    rw [← hW1]; have := World.alloc_heap_new (w.alloc (.deferred (some []))) (.loop (rec_ .ready none)); rwa [World.size_alloc] at this
  have rD : W1.heap[w.heap.size]? = some (.deferred (some [])) := by
    rw [← hW1]; exact (Below.heap_alloc _ _ _ (by simp)).trans (World.alloc_heap_new w _)
  have rI : I [] W1 := by rw [← hW1]; exact hI.alloc _ (hI.alloc _ h0)
  have rB : Below w0.heap.size w0 W1 := by
    rw [← hW1]; exact hb0.trans ((((Below.refl _ w).alloc (Nat.le_refl _) _).alloc (by simp) _).mono hb0.size)
  clear hW1
  let book : LoopState → Option Code → World → Prop := fun st pe W => W.heap[w.heap.size + 1]? = some (.loop (rec_ st pe)) ∧ W.heap[w.heap.size]? = some (.deferred (some []))
  have turn : ∀ {st pe W} (st' : LoopState) (pe' : Option Code), book st pe W → book st' pe' (W.putObj (w.heap.size + 1) (.loop (rec_ st' pe'))) := fun st' pe' h =>
    ⟨World.putObj_heap_same (Array.getElem?_eq_some_iff.1 h.1).1, (World.putObj_heap_other (by omega)).trans h.2⟩
  have kept : ∀ {st pe A B}, book st pe A → KeepsFrom w.heap.size A B → book st pe B := fun h hk => ⟨hk.same _ _ (by omega) h.1 rfl, hk.same _ _ (Nat.le_refl _) h.2 rfl⟩
  refine ⟨w.heap.size + 1, [{ target := .collected w.heap.size, args := #[] }], W1, { target := .fn (.func gf) lb, args := #[.func (.yield (w.heap.size + 1)) #[] #[]] }, W1, gf,
    #[.func (.yield (w.heap.size + 1)) #[] #[]] ++ lb, W1, e1, ?_, ?_, ?_, fun _ => h1, ?_⟩
  · simp only [resolve, hg]
    simp [go_sem]
  · intro f' hf'; simp [Target.leads] at hf'; subst hf'; exact hFg
  · simp [invoke, go_sem, eg]
  refine (hseq (w.heap.size + 1) (fun pre W => I pre W ∧ book .ready none W) (fun pre W => ∃ c, Ix c pre W ∧ book .done (some c) W) W1 rB
    (fun s A x h => ⟨hIc s A x h.1, setCell_other _ (by omega) h.2.1, setCell_other _ (by omega) h.2.2⟩) ?round ⟨rI, rL, rD⟩).mono ?behind
  case round =>
    rintro pre x W hpre ⟨hi, hb⟩
    have hy : (Instr.yield (w.heap.size + 1) #[.string x]).run P W = .ok (.round (w.heap.size + 1) fn (a.tmps.setIfInBounds t (.string x)) assign body) W := by
      have := run_yield (P := P) (args := #[.string x]) hb.1 rfl
      simpa [rec_] using this
    have hb2 := turn .busy none hb
    refine ⟨fn, _, assign, body, hy, roundIn_of_wpIn hfn (wpIn_mono (hround (w.heap.size + 1) pre x W hpre hi) ?_)⟩
    rintro e a₁ w₁ he
    cases e with
    | ret => exact he
    | exit id => exact he
    | goto u => exact he
    | panic ch => exact he
    | outgrown => exact he
    | normal =>
    obtain ⟨rfl, hbody⟩ := he
    refine ⟨_, run_beginRound hb.1 rfl, ?_⟩
    refine wpIn_mono (hbody _ (hI.putObj _ hi (by omega) hb.1 rfl)) ?_
    have out : ∀ (jump : Option Code) (W3 : World), KeepsFrom w.heap.size (W.putObj (w.heap.size + 1) (.loop (rec_ .busy none))) W3 →
        (Instr.endRound (w.heap.size + 1) jump).run P W3 = .ok (.bool jump.isNone) (W3.putObj (w.heap.size + 1) (.loop (rec_ (if jump.isNone then .ready else .done) jump))) ∧ book .busy none W3 := fun jump W3 hk =>
      ⟨run_endRound (P := P) jump (kept hb2 hk).1, kept hb2 hk⟩
    have stop : ∀ (c : Code) (W3 : World), KeepsFrom w.heap.size (W.putObj (w.heap.size + 1) (.loop (rec_ .busy none))) W3 → Ix c (pre ++ [x]) W3 →
        ∃ v w', (Instr.endRound (w.heap.size + 1) (some c)).run P W3 = .ok v w' ∧
          ((Ending.returned v = .returned (.bool true) ∧ (I (pre ++ [x]) w' ∧ book .ready none w') ∧ Kp W w') ∨ (Ending.returned v = .returned (.bool false) ∧ ∃ c, Ix c (pre ++ [x]) w' ∧ book .done (some c) w')) := fun c W3 hk hx =>
      ⟨_, _, (out (some c) W3 hk).1, .inr ⟨rfl, c, (hIx c).putObj _ hx (by omega) (out (some c) W3 hk).2.1 rfl, turn .done (some c) (out (some c) W3 hk).2⟩⟩
    rintro e a3 W3 hp
    cases e with
    | normal =>
      obtain ⟨hk, hkp, hi3⟩ := hp
      exact ⟨_, _, (out none W3 hk).1, .inl ⟨rfl, ⟨hI.putObj _ hi3 (by omega) (out none W3 hk).2.1 rfl, turn .ready none (out none W3 hk).2⟩, hKt (hKt (hKb _ _ _ (by omega)) hkp) (hKb _ _ _ (by omega))⟩⟩
    | ret => exact stop .ret W3 hp.1 hp.2
    | exit id => exact stop (.exit id) W3 hp.1 hp.2
    | goto u => exact stop (.goto u) W3 hp.1 hp.2
    | panic ch => exact hp.elim
    | outgrown => exact hp.elim
  case behind =>
    rintro e W2 ⟨⟨v, rfl⟩, (⟨hi, hb⟩ | ⟨pre, hpre, c, hi, hb⟩)⟩
    · exact ⟨none, _, run_endLoop (P := P) hb.1 (by simp [rec_]), hdone _ _ (Nat.le_refl _) (hI.putObj _ hi (by omega) hb.1 rfl) ((World.putObj_heap_other (by omega)).trans hb.2)⟩
    · exact ⟨some c, _, run_endLoop (P := P) hb.1 (by simp [rec_]), hstop _ c pre _ (Nat.le_refl _) hpre ((hIx c).putObj _ hi (by omega) hb.1 rfl) ((World.putObj_heap_other (by omega)).trans hb.2)⟩
end Go.Proofs.YtnpnablnnfekkaaDoor
