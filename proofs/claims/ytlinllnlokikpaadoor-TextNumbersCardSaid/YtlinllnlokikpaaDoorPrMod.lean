/- printf in plain words: a format written once; written till the arguments are used up. -/
import Derived.Test.YtlinllnlokikpaaDoorNumT
import Derived.Test.YtlinllnlokikpaaDoorCut
set_option linter.unusedVariables false
set_option linter.unusedSimpArgs false
namespace Go.Proofs.YtlinllnlokikpaaDoor
open Go

def isDig (c : UInt8) : Bool := 48 ≤ c && c ≤ 57
def isVerb (c : UInt8) : Bool := c == 115 || c == 100 || c == 120 || c == 111 || c == 99 || c == 37
def convFin (left : Bool) (w : Nat) (i : Nat) : List UInt8 → Option (Bool × Nat × UInt8 × Nat)
  | [] => none
  | c :: _ => if isVerb c then some (left, w, c, i + 1) else none
/-- a width's digits, two at the most; then what it is converted by -/
def convGo (left : Bool) : Nat → Nat → Nat → List UInt8 → Option (Bool × Nat × UInt8 × Nat)
  | _, _, _, [] => none
  | w, n, i, c :: r => if isDig c ∧ n < 2 then convGo left (10 * w + (c.toNat - 48)) (n + 1) (i + 1) r else convFin left w i (c :: r)
/-- a conversion behind its %: whether to the left, how wide, by what, and how long it is -/
def convM (l : List UInt8) : Option (Bool × Nat × UInt8 × Nat) := if l.head? = some 45 then convGo true 0 0 1 l.tail else convGo false 0 0 0 l
theorem convFin_len {left : Bool} {w i : Nat} {l : List UInt8} {x : Bool × Nat × UInt8 × Nat} (h : convFin left w i l = some x) : i + 1 = x.2.2.2 ∧ 1 ≤ l.length := by
  cases l with
  | nil => cases h
  | cons c r =>
    simp only [convFin] at h
    split at h
    · cases h; simp
    · cases h
/-- what has been written, how many arguments were asked for, whether one was bad -/
structure PSt where
  out : List UInt8
  u : Nat
  bad : Bool
def padM (left : Bool) (w : Nat) (s : List UInt8) : List UInt8 := if left then s ++ List.replicate (w - s.length) 32 else List.replicate (w - s.length) 32 ++ s
def numOf (s : ByteArray) : Int := (decD s.data.toList).1
def badOf (s : ByteArray) : Bool := decide (s.size ≠ 0) && decide ((decD s.data.toList).2 ≠ 0)
/-- an argument by a conversion -/
def argM (s : ByteArray) (verb : UInt8) : List UInt8 × Bool :=
  if verb = 115 then (s.data.toList, false) else if verb = 99 then (s.data.toList.take 1, false)
  else if verb = 120 then ((baseS 16 (numOf s % 18446744073709551616).toNat).data.toList, badOf s)
  else if verb = 111 then ((baseS 8 (numOf s % 18446744073709551616).toNat).data.toList, badOf s)
  else ((textS (numOf s)).data.toList, badOf s)
def argAt (args : List ByteArray) (u : Nat) : ByteArray := (args.drop u).headD ⟨#[]⟩
def convertM (args : List ByteArray) (st : PSt) (x : Bool × Nat × UInt8 × Nat) : PSt :=
  if x.2.2.1 = 37 then { st with out := st.out ++ [37] }
  else { out := st.out ++ padM x.1 x.2.1 (argM (argAt args st.u) x.2.2.1).1, u := st.u + 1, bad := st.bad || (argM (argAt args st.u) x.2.2.1).2 }
def escM (c : UInt8) : Option UInt8 := if c = 110 then some 10 else if c = 116 then some 9 else if c = 92 then some 92 else if c = 34 then some 34 else none
/-- one step of a format from a place on: where it goes on, and what it leaves -/
def stepM (f : List UInt8) (args : List ByteArray) (i : Nat) (st : PSt) : Nat × PSt :=
  match f[i]? with
  | none => (i + 1, st)
  | some c =>
    match (if c = 92 then (f[i + 1]?).bind escM else none) with
    | some e => (i + 2, { st with out := st.out ++ [e] })
    | none =>
      match (if c = 37 then convM (f.drop (i + 1)) else none) with
      | some x => (i + 1 + x.2.2.2, convertM args st x)
      | none => (i + 1, { st with out := st.out ++ [c] })
theorem stepM_gt (f : List UInt8) (args : List ByteArray) (i : Nat) (st : PSt) : i < (stepM f args i st).1 := by
  unfold stepM
  split
  · simp
  · split
    · simp
    · split
      · simp; omega
      · simp
def runM (f : List UInt8) (args : List ByteArray) : Nat → Nat → PSt → PSt
  | 0, _, st => st
  | k + 1, i, st => if i < f.length then runM f args k (stepM f args i st).1 (stepM f args i st).2 else st
theorem runM_end (f : List UInt8) (args : List ByteArray) : ∀ (k i : Nat) (st : PSt), f.length ≤ i → runM f args k i st = st
  | 0, _, _, _ => rfl
  | k + 1, i, st, h => by rw [runM, if_neg (by omega)]
theorem runM_more (f : List UInt8) (args : List ByteArray) : ∀ (k i : Nat) (st : PSt), f.length ≤ i + k → runM f args (k + 1) i st = runM f args k i st
  | 0, i, st, h => by rw [runM_end _ _ _ _ _ (by omega)]; rfl
  | k + 1, i, st, h => by
    show (if i < f.length then runM f args (k + 1) (stepM f args i st).1 (stepM f args i st).2 else st) = (if i < f.length then runM f args k (stepM f args i st).1 (stepM f args i st).2 else st)
    have hg := stepM_gt f args i st
    rw [runM_more f args k (stepM f args i st).1 (stepM f args i st).2 (by omega)]
def onceM (f : List UInt8) (args : List ByteArray) (st : PSt) : PSt := runM f args f.length 0 st
/-- from a place on -/
def fromM (f : List UInt8) (args : List ByteArray) (i : Nat) (st : PSt) : PSt := runM f args (f.length - i) i st
theorem runM_enough (f : List UInt8) (args : List ByteArray) : ∀ (d k i : Nat) (st : PSt), f.length ≤ i + k → runM f args (k + d) i st = runM f args k i st
  | 0, _, _, _, _ => rfl
  | d + 1, k, i, st, h => by rw [← Nat.add_assoc, runM_more _ _ _ _ _ (by omega), runM_enough f args d k i st h]
theorem fromM_step (f : List UInt8) (args : List ByteArray) (i : Nat) (st : PSt) (h : i < f.length) : fromM f args i st = fromM f args (stepM f args i st).1 (stepM f args i st).2 := by
  unfold fromM
  obtain ⟨d, hd⟩ : ∃ d, f.length - i = d + 1 := ⟨f.length - i - 1, by omega⟩
  have hg := stepM_gt f args i st
  rw [hd, runM, if_pos h]
  have e : d = (f.length - (stepM f args i st).1) + (d - (f.length - (stepM f args i st).1)) := by omega
  conv => lhs; rw [e]
  exact runM_enough _ _ _ _ _ _ (by omega)
theorem fromM_end (f : List UInt8) (args : List ByteArray) (i : Nat) (st : PSt) (h : f.length ≤ i) : fromM f args i st = st := runM_end _ _ _ _ _ h
theorem onceM_from (f : List UInt8) (args : List ByteArray) (st : PSt) : onceM f args st = fromM f args 0 st := rfl

/-- till the arguments are used up -/
def loopM (f : List UInt8) (args : List ByteArray) : Nat → PSt → PSt
  | 0, st => st
  | k + 1, st => if 0 < st.u ∧ st.u < args.length ∧ st.out.length ≤ 16384 then loopM f args k (onceM f args st) else st
def printM (f : List UInt8) (args : List ByteArray) : PSt := loopM f args args.length (onceM f args ⟨[], 0, false⟩)
/-- printf -/
def printfM (f : ByteArray) (args : List ByteArray) : ByteArray × Bool := (asB ((printM f.data.toList args).out.take 16384), !(printM f.data.toList args).bad)
end Go.Proofs.YtlinllnlokikpaaDoor
