/- What printf writes of a format that asks for each argument on a line, of one that asks for nothing, and of two numbers. -/
import Derived.Test.YtlinllnlokikpaaDoorPrMod
set_option linter.unusedVariables false
set_option linter.unusedSimpArgs false
namespace Go.Proofs.YtlinllnlokikpaaDoor
open Go
theorem onceM_line (args : List ByteArray) (st : PSt) : onceM [37, 115, 92, 110] args st = ⟨st.out ++ (argAt args st.u).data.toList ++ [10], st.u + 1, st.bad⟩ := by
  simp [onceM, runM, stepM, convM, convGo, convFin, isDig, isVerb, convertM, padM, argM, escM]
def linesT (l : List ByteArray) : List UInt8 := (l.map (fun x => x.data.toList ++ [10])).flatten
def totL2 (l : List ByteArray) : Nat := (l.map (·.size)).sum
theorem linesT_len (l : List ByteArray) : (linesT l).length = totL2 l + l.length := by
  induction l with
  | nil => rfl
  | cons x r ih =>
    have e2 : x.data.toList.length = x.size := by rw [Array.length_toList]; rfl
    simp only [linesT, totL2, List.map_cons, List.flatten_cons, List.length_append, List.sum_cons, List.length_cons, List.length_nil] at ih ⊢
    omega
theorem linesT_app (a b : List ByteArray) : linesT (a ++ b) = linesT a ++ linesT b := by simp [linesT]
theorem totL2_take (l : List ByteArray) (n : Nat) : totL2 (l.take n) ≤ totL2 l := by
  induction l generalizing n with
  | nil => simp [totL2]
  | cons x r ih =>
    cases n with
    | zero => simp [totL2]
    | succ n => have := ih n; simp only [totL2, List.take_succ_cons, List.map_cons, List.sum_cons] at this ⊢; omega
theorem loopM_line (args : List ByteArray) (ht : totL2 args + args.length ≤ 16384) : ∀ (k u : Nat), args.length ≤ u + k → 0 < u → u ≤ args.length →
    loopM [37, 115, 92, 110] args k ⟨linesT (args.take u), u, false⟩ = ⟨linesT args, args.length, false⟩ := by
  intro k
  induction k with
  | zero =>
    intro u h h0 h1
    have : u = args.length := by omega
    subst this
    rw [List.take_length]; rfl
  | succ k ih =>
    intro u h h0 h1
    unfold loopM
    by_cases hu : u < args.length
    · have hl := linesT_len (args.take u)
      have hl2 := totL2_take args u
      rw [List.length_take] at hl
      rw [if_pos ⟨h0, hu, by simp only; omega⟩, onceM_line]
      have e : argAt args u = args[u] := by unfold argAt; rw [List.drop_eq_getElem_cons hu]; rfl
      have e2 : linesT (args.take u) ++ (argAt args u).data.toList ++ [10] = linesT (args.take (u + 1)) := by
        rw [List.take_succ_eq_append_getElem hu, linesT_app, e]; simp [linesT]
      simp only [e2]
      exact ih (u + 1) (by omega) (by omega) (by omega)
    · have : u = args.length := by omega
      subst this
      rw [if_neg (by simp), List.take_length]
theorem printM_line (args : List ByteArray) (h0 : args ≠ []) (ht : totL2 args + args.length ≤ 16384) : printM [37, 115, 92, 110] args = ⟨linesT args, args.length, false⟩ := by
  have hp := List.length_pos_iff.2 h0
  unfold printM
  rw [onceM_line]
  have e : argAt args 0 = args[0] := by unfold argAt; rw [List.drop_eq_getElem_cons hp]; rfl
  have e2 : ([] : List UInt8) ++ (argAt args 0).data.toList ++ [10] = linesT (args.take 1) := by
    rw [List.take_one, e]; cases args with
    | nil => exact absurd rfl h0
    | cons x r => simp [linesT]
  simp only [e2]
  exact loopM_line args ht args.length 1 (by omega) (by omega) (by omega)
theorem runM_plain (f : List UInt8) (args : List ByteArray) (hf : ∀ c ∈ f, c ≠ 37 ∧ c ≠ 92) : ∀ (k i : Nat) (st : PSt), f.length ≤ i + k → runM f args k i st = { st with out := st.out ++ f.drop i } := by
  intro k
  induction k with
  | zero => intro i st h; rw [List.drop_of_length_le (by omega)]; simp [runM]
  | succ k ih =>
    intro i st h
    unfold runM
    by_cases hi : i < f.length
    · obtain ⟨h1, h2⟩ := hf f[i] (List.getElem_mem hi)
      have e : stepM f args i st = (i + 1, { st with out := st.out ++ [f[i]] }) := by
        unfold stepM
        rw [List.getElem?_eq_getElem hi]
        simp only [if_neg h1, if_neg h2]
      rw [if_pos hi, e, ih (i + 1) _ (by omega), List.drop_eq_getElem_cons hi]
      simp
    · rw [if_neg hi, List.drop_of_length_le (by omega)]; simp
theorem printM_plain (f : List UInt8) (args : List ByteArray) (hf : ∀ c ∈ f, c ≠ 37 ∧ c ≠ 92) : printM f args = ⟨f, 0, false⟩ := by
  unfold printM onceM
  rw [runM_plain f args hf f.length 0 _ (by omega)]
  simp only [List.drop_zero, List.nil_append]
  cases args.length with
  | zero => rfl
  | succ n => unfold loopM; simp
theorem printfM_line (args : List ByteArray) (h0 : args ≠ []) (ht : totL2 args + args.length ≤ 16384) : printfM ⟨#[37, 115, 92, 110]⟩ args = (asB (linesT args), true) := by
  have e : (⟨#[37, 115, 92, 110]⟩ : ByteArray).data.toList = [37, 115, 92, 110] := rfl
  have hl := linesT_len args
  unfold printfM
  rw [e, printM_line args h0 ht]
  simp only [List.take_of_length_le (show (linesT args).length ≤ 16384 by omega), Bool.not_false]
theorem printfM_plain (f : ByteArray) (args : List ByteArray) (hs : f.size ≤ 16384) (hf : ∀ c ∈ f.data.toList, c ≠ 37 ∧ c ≠ 92) : printfM f args = (f, true) := by
  have hl : f.data.toList.length = f.size := by rw [Array.length_toList]; rfl
  unfold printfM
  rw [printM_plain _ args hf]
  simp only [List.take_of_length_le (show f.data.toList.length ≤ 16384 by omega), Bool.not_false]
  rfl
theorem once_num (a b : ByteArray) (st : PSt) : onceM [37, 100, 44, 37, 120] [a, b] ⟨[], 0, false⟩ = ⟨(textS (numOf a)).data.toList ++ [44] ++ (baseS 16 (numOf b % 18446744073709551616).toNat).data.toList, 2, badOf a || badOf b⟩ := by
  simp [onceM, runM, stepM, convM, convGo, convFin, isDig, isVerb, convertM, padM, argM, escM, argAt]
theorem printfM_num (a b : ByteArray) (x y : Int) (ha : decD a.data.toList = (x, 0)) (hb : decD b.data.toList = (y, 0)) (hs : (textS x).size ≤ 100) (hs2 : (baseS 16 (y % 18446744073709551616).toNat).size ≤ 100) :
    printfM ⟨#[37, 100, 44, 37, 120]⟩ [a, b] = (asB ((textS x).data.toList ++ [44] ++ (baseS 16 (y % 18446744073709551616).toNat).data.toList), true) := by
  have e : (⟨#[37, 100, 44, 37, 120]⟩ : ByteArray).data.toList = [37, 100, 44, 37, 120] := rfl
  have na : numOf a = x := by unfold numOf; rw [ha]
  have nb : numOf b = y := by unfold numOf; rw [hb]
  have ba : badOf a = false := by unfold badOf; rw [ha]; simp
  have bb : badOf b = false := by unfold badOf; rw [hb]; simp
  have l1 : (textS x).data.toList.length = (textS x).size := by rw [Array.length_toList]; rfl
  have l2 : (baseS 16 (y % 18446744073709551616).toNat).data.toList.length = (baseS 16 (y % 18446744073709551616).toNat).size := by rw [Array.length_toList]; rfl
  have hp : printM [37, 100, 44, 37, 120] [a, b] = ⟨(textS x).data.toList ++ [44] ++ (baseS 16 (y % 18446744073709551616).toNat).data.toList, 2, false⟩ := by
    unfold printM
    rw [once_num a b ⟨[], 0, false⟩, na, nb, ba, bb]
    simp [loopM]
  unfold printfM
  rw [e, hp]
  simp only [Bool.not_false]
  rw [List.take_of_length_le (by simp only [List.length_append, List.length_cons, List.length_nil]; omega)]
end Go.Proofs.YtlinllnlokikpaaDoor
