/- Text of the program and of the reference come to one plain function each; the examples of the chapter hold. -/
import Derived.Test.YtlinllnlokikpaaDoorNumE
set_option linter.unusedVariables false
set_option linter.unusedSimpArgs false
namespace Go.Proofs.YtlinllnlokikpaaDoor
open Go.RowKit

theorem below_drewN {B : Nat} {a w : World} (h : Below B a w) (n : Nat) : Below B a (w.drewN n) := ⟨h.os, h.tape, h.output, h.size, h.block⟩
theorem digs_len (b : Nat) (hb : 2 ≤ b) (k : Nat) : ∀ n, n < 2 ^ (k + 1) → (digs b n).length ≤ k + 1 := by
  induction k with
  | zero =>
    intro n hn
    rw [digs]
    rw [if_pos (by omega)]
    simp
  | succ k ih =>
    intro n hn
    rw [digs]
    split
    · simp
    · rw [List.length_append]
      have : n / b < 2 ^ (k + 1) := by
        have h1 : n / b ≤ n / 2 := Nat.div_le_div_left hb (by omega)
        rw [Nat.pow_succ] at hn
        omega
      have := ih _ this
      simp
      omega
theorem baseS_size (b n : Nat) (hn : n < 18446744073709551616) : (baseS b n).size ≤ 64 := by
  unfold baseS
  split
  · simp [ByteArray.size]
  · rw [strOfNums_size]
    exact digs_len b (by omega) 63 n hn

def textS (n : Int) : ByteArray := if n < 0 then ⟨#[45]⟩ ++ baseS 10 n.natAbs else baseS 10 n.natAbs
theorem base_lit (n b : Int) (k c : Nat) (w : World) (hn : n = k) (hb : b = c) (h1 : k < 18446744073709551616) :
    Calls Tryd.prog 43 #[.int .u64 n, .int .i64 b] w fun e w' => e = .returned (.string (baseS c k)) ∧ Below w.heap.size w w' := by
  subst hn hb
  exact base_any k c w h1
set_option maxHeartbeats 800000 in
theorem text_any (n : Int) (w : World) (h1 : -9223372036854775808 ≤ n) (h2 : n ≤ 9223372036854775807) :
    Calls Tryd.prog 44 #[.int .i64 n] w fun e w' => e = .returned (.string (textS n)) ∧ Below w.heap.size w w' := by
  by_cases h : n < 0
  · have hD : Hid (textS n = ⟨#[45]⟩ ++ baseS 10 n.natAbs) := by unfold textS; rw [if_pos h]; exact Lib.hid rfl
    have hsz := baseS_size 10 n.natAbs (by omega)
    go_enter Tryd.func44, Tryd.ntmps44
    go_wp2_with fail
    refine (base_lit _ _ n.natAbs 10 _ (by omega) rfl (by omega)).mono ?_
    rintro e w' ⟨rfl, hb⟩
    go_wp2
    go_ret
    exact ⟨ret_str hD.out.symm, hb⟩
  · have hD : Hid (textS n = baseS 10 n.natAbs) := by unfold textS; rw [if_neg h]; exact Lib.hid rfl
    go_enter Tryd.func44, Tryd.ntmps44
    go_wp2_with fail
    refine (base_lit _ _ n.natAbs 10 _ (by omega) rfl (by omega)).mono ?_
    rintro e w' ⟨rfl, hb⟩
    go_wp2
    go_ret
    exact ⟨ret_str hD.out.symm, hb⟩

theorem byteArray_inj {a b : ByteArray} (h : a.data.toList = b.data.toList) : a = b := by
  obtain ⟨⟨a⟩⟩ := a
  obtain ⟨⟨b⟩⟩ := b
  simp at h
  rw [h]
theorem signs_cut (d : Nat) (h : d < 16) : (⟨#[48, 49, 50, 51, 52, 53, 54, 55, 56, 57, 97, 98, 99, 100, 101, 102]⟩ : ByteArray).extract d (d + 1) = strOfNums [chr d] := by
  have : ∀ d : Fin 16, ((⟨#[48, 49, 50, 51, 52, 53, 54, 55, 56, 57, 97, 98, 99, 100, 101, 102]⟩ : ByteArray).extract d.val (d.val + 1)).data.toList = (strOfNums [chr d.val]).data.toList := by decide
  have := this ⟨d, h⟩
  exact byteArray_inj this
theorem strOfNums_append (a b : List Int) : strOfNums a ++ strOfNums b = strOfNums (a ++ b) := by
  apply byteArray_inj
  simp [strOfNums]

set_option maxHeartbeats 800000 in
theorem rbase_any (n : Nat) : ∀ (b : Int) (w : World), n < 18446744073709551616 →
    Calls Tryd.prog 15 #[.int .u64 n, .int .i64 b] w fun e w' => e = .returned (.string (baseS b.toNat n)) ∧ Below w.heap.size w w' := by
  induction n using Nat.strongRecOn with
  | ind n ih =>
  intro b w h1
  by_cases hb : b < 2 ∨ b > 16
  · have HE : Hid (baseS b.toNat n = ⟨#[]⟩) := by
      refine Lib.hid ?_
      unfold baseS
      rw [if_pos (by omega)]
    clear ih
    by_cases hb2 : b < 2
    · go_enter Tryd.func15, Tryd.ntmps15
      go_wp2
      go_ret
      exact ⟨ret_str HE.out.symm, Below.refl _ _⟩
    · have : 16 < b := by omega
      go_enter Tryd.func15, Tryd.ntmps15
      go_wp2
      go_ret
      exact ⟨ret_str HE.out.symm, Below.refl _ _⟩
  · obtain ⟨b, rfl⟩ : ∃ c : Nat, b = c := ⟨b.toNat, by omega⟩
    have hb1 : (2 : Int) ≤ b := by omega
    have hb2 : (b : Int) ≤ 16 := by omega
    have HE : Hid (∀ m, baseS (b : Int).toNat m = strOfNums (digs b m)) := by
      refine Lib.hid ?_
      intro m
      unfold baseS
      rw [if_neg (by omega)]
      simp
    clear hb
    have hmb0 : 0 ≤ ((n : Int) % (b : Int)) := Int.emod_nonneg _ (by omega)
    have hmb : ((n : Int) % (b : Int)) < 16 := by
      have := Int.emod_lt_of_pos (n : Int) (show (0 : Int) < b by omega); omega
    have hx : n % b < 16 := by have := Nat.mod_lt n (show b > 0 by omega); omega
    have hcut := Lib.hid (signs_cut (n % b) hx)
    have hto : ((n : Int) % (b : Int)).toNat = n % b := by rw [show ((n : Int) % (b : Int)) = ((n % b : Nat) : Int) by simp]; rfl
    have hto1 : ((n : Int) % (b : Int) + 1).toNat = n % b + 1 := by omega
    by_cases hlt : n < b
    · have hD : Hid (strOfNums (digs b n) = strOfNums [chr (n % b)]) := by
        rw [digs, if_pos (.inl hlt)]
        exact Lib.hid rfl
      clear ih
      go_enter Tryd.func15, Tryd.ntmps15
      go_wp2_with fail
      go_quiet (fail)
      go_wp2_with fail
      go_ret
      exact ⟨ret_str (by rw [HE.out, hD.out, hcut.out]), below_drewN (Below.refl _ _) _⟩
    · have hD : Hid (strOfNums (digs b n) = strOfNums (digs b (n / b)) ++ strOfNums [chr (n % b)]) := by
        rw [digs, if_neg (by omega), strOfNums_append]
        exact Lib.hid rfl
      have hq0 : 0 ≤ (n : Int) / (b : Int) := Int.ediv_nonneg (by omega) (by omega)
      have hq1 : (n : Int) / (b : Int) ≤ n := Int.ediv_le_self _ (by omega)
      have hqe := Lib.hid (show ((n : Int) / (b : Int)) = ((n / b : Nat) : Int) by simp)
      have hih := Lib.hid (ih (n / b) (Nat.div_lt_self (by omega) (by omega)) (b : Int))
      have hsz : (strOfNums (digs b (n / b))).size ≤ 64 := by have := baseS_size b (n / b) (by have := Nat.div_le_self n b; omega); rw [← HE.out]; simpa using this
      have hsz2 : ((⟨#[48, 49, 50, 51, 52, 53, 54, 55, 56, 57, 97, 98, 99, 100, 101, 102]⟩ : ByteArray).extract (n % b) (n % b + 1)).size ≤ 1 := by rw [hcut.out, strOfNums_size]; simp
      clear ih
      go_enter Tryd.func15, Tryd.ntmps15
      go_wp2_with fail
      go_quiet (fail)
      go_wp2_with fail
      refine (show Calls _ _ _ _ _ from (by rw [hqe.out]; exact hih.out _ (by have := Nat.div_le_self n b; omega)) : Calls Tryd.prog 15 #[.int .u64 ((n : Int) / (b : Int)), .int .i64 (b : Int)] _ fun e w' => e = .returned (.string (baseS (b : Int).toNat (n / b))) ∧ Below _ _ w').mono ?_
      rintro e w' ⟨rfl, hbw⟩
      rw [HE.out]
      go_wp2
      go_ret
      exact ⟨ret_str (by rw [HE.out, hD.out, hcut.out]), (below_drewN (Below.refl _ _) _).trans hbw⟩

theorem rbase_lit (n b : Int) (k c : Nat) (w : World) (hn : n = k) (hb : b = c) (h1 : k < 18446744073709551616) :
    Calls Tryd.prog 15 #[.int .u64 n, .int .i64 b] w fun e w' => e = .returned (.string (baseS c k)) ∧ Below w.heap.size w w' := by
  subst hn hb
  exact rbase_any k c w h1
set_option maxHeartbeats 800000 in
theorem rtext_any (n : Int) (w : World) (h1 : -9223372036854775808 ≤ n) (h2 : n ≤ 9223372036854775807) :
    Calls Tryd.prog 13 #[.int .i64 n] w fun e w' => e = .returned (.string (textS n)) ∧ Below w.heap.size w w' := by
  by_cases h : n < 0
  · have hD : Hid (textS n = ⟨#[45]⟩ ++ baseS 10 n.natAbs) := by unfold textS; rw [if_pos h]; exact Lib.hid rfl
    have hsz := baseS_size 10 n.natAbs (by omega)
    go_enter Tryd.func13, Tryd.ntmps13
    go_wp2_with fail
    refine (rbase_lit _ _ n.natAbs 10 _ (by simp only [IntKind.wrap_u64]; omega) rfl (by omega)).mono ?_
    rintro e w' ⟨rfl, hb⟩
    go_wp2
    go_ret
    exact ⟨ret_str hD.out.symm, hb⟩
  · have hD : Hid (textS n = baseS 10 n.natAbs) := by unfold textS; rw [if_neg h]; exact Lib.hid rfl
    go_enter Tryd.func13, Tryd.ntmps13
    go_wp2_with fail
    refine (rbase_lit _ _ n.natAbs 10 _ (by omega) rfl (by omega)).mono ?_
    rintro e w' ⟨rfl, hb⟩
    go_wp2
    go_ret
    exact ⟨ret_str hD.out.symm, hb⟩

end Go.Proofs.YtlinllnlokikpaaDoor
