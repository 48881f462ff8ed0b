/- Mode and Text of the program and of the reference come to one plain function each; the examples of the chapter hold. -/
import Derived.Test.YthmdmbgjheploaaNumF
set_option linter.unusedVariables false
set_option linter.unusedSimpArgs false
namespace Go.Proofs.Ythmdmbgjheploaa
open Go.RowKit

def modD (l : List UInt8) : Int × Int := if 4 < l.length then (0, 40) else ((rdN 8 511 l : Int), rdE 8 511 l)
theorem int_of_511 (l : List UInt8) : wrap64 (rdN 8 511 l : Int) = rdN 8 511 l := by
  have := rdN_le 8 511 l
  exact IntWalk.wrap64_in _ ⟨by omega, by omega⟩
set_option maxHeartbeats 800000 in
theorem mode_any (s : ByteArray) (w : World) (hs : s.size ≤ 9223372036854775807) :
    Calls Try.prog 22 #[.string s] w fun e w' => e = .returned (.tuple #[.int .i64 (modD s.data.toList).1, .int .i64 (modD s.data.toList).2]) ∧ Below w.heap.size w w' := by
  by_cases h : 4 < s.size
  · have hD : Hid (modD s.data.toList = (0, 40)) := by
      unfold modD
      rw [if_pos (by rw [len_size]; exact h)]
      exact Lib.hid rfl
    go_enter Try.func22, Try.ntmps22
    go_wp2_with fail
    refine (read_lit _ _ _ 8 511 _ _ hs rfl rfl (by omega) (by omega) (by decide) (by decide) rfl).mono ?_
    rintro e w' ⟨rfl, rfl⟩
    go_wp2
    go_ret2
    exact ⟨ret_ii (by rw [hD.out]) (by rw [hD.out]), Below.refl _ _⟩
  · have hD : Hid (modD s.data.toList = ((rdN 8 511 s.data.toList : Int), rdE 8 511 s.data.toList)) := by
      unfold modD
      rw [if_neg (by rw [len_size]; exact h)]
      exact Lib.hid rfl
    go_enter Try.func22, Try.ntmps22
    go_wp2_with fail
    refine (read_lit _ _ _ 8 511 _ _ hs rfl rfl (by omega) (by omega) (by decide) (by decide) rfl).mono ?_
    rintro e w' ⟨rfl, rfl⟩
    go_wp2
    go_ret2
    exact ⟨ret_ii (by rw [hD.out]; exact int_of_511 _) (by rw [hD.out]), Below.refl _ _⟩
set_option maxHeartbeats 800000 in
theorem rmode_any (s : ByteArray) (w : World) (hs : s.size ≤ 9223372036854775807) :
    Calls Try.prog 23 #[.string s] w fun e w' => e = .returned (.tuple #[.int .i64 (modD s.data.toList).1, .int .i64 (modD s.data.toList).2]) ∧ Below w.heap.size w w' := by
  by_cases h : 4 < s.size
  · have hD : Hid (modD s.data.toList = (0, 40)) := by
      unfold modD
      rw [if_pos (by rw [len_size]; exact h)]
      exact Lib.hid rfl
    go_enter Try.func23, Try.ntmps23
    go_wp2
    go_ret2
    exact ⟨ret_ii (by rw [hD.out]) (by rw [hD.out]), Below.refl _ _⟩
  · have hD : Hid (modD s.data.toList = ((rdN 8 511 s.data.toList : Int), rdE 8 511 s.data.toList)) := by
      unfold modD
      rw [if_neg (by rw [len_size]; exact h)]
      exact Lib.hid rfl
    go_enter Try.func23, Try.ntmps23
    go_wp2_with fail
    refine (digits_lit _ _ _ 8 511 _ _ hs rfl rfl (by omega) (by omega) (by decide) (by decide) rfl).mono ?_
    rintro e w' ⟨rfl, rfl⟩
    go_wp2
    go_ret2
    exact ⟨ret_ii (by rw [hD.out]; exact int_of_511 _) (by rw [hD.out]), Below.refl _ _⟩

theorem digs_len (b : Nat) (hb : 2 ≤ b) (k : Nat) : ∀ n, n < 2 ^ (k + 1) → (digs b n).length ≤ k + 1 := by
  induction k with
  | zero =>
    intro n hn
    rw [digs]
    rw [if_pos (by omega)]
    simp
  | succ k ih =>
    intro n hn
    rw [digs]
    split
    · simp
    · rw [List.length_append]
      have : n / b < 2 ^ (k + 1) := by
        have h1 : n / b ≤ n / 2 := Nat.div_le_div_left hb (by omega)
        rw [Nat.pow_succ] at hn
        omega
      have := ih _ this
      simp
      omega
theorem baseS_size (b n : Nat) (hn : n < 18446744073709551616) : (baseS b n).size ≤ 64 := by
  unfold baseS
  split
  · simp [ByteArray.size]
  · rw [strOfNums_size]
    exact digs_len b (by omega) 63 n hn

def textS (n : Int) : ByteArray := if n < 0 then ⟨#[45]⟩ ++ baseS 10 n.natAbs else baseS 10 n.natAbs
theorem base_lit (n b : Int) (k c : Nat) (w : World) (hn : n = k) (hb : b = c) (h1 : k < 18446744073709551616) :
    Calls Try.prog 17 #[.int .u64 n, .int .i64 b] w fun e w' => e = .returned (.string (baseS c k)) ∧ Below w.heap.size w w' := by
  subst hn hb
  exact base_any k c w h1
set_option maxHeartbeats 800000 in
theorem text_any (n : Int) (w : World) (h1 : -9223372036854775808 ≤ n) (h2 : n ≤ 9223372036854775807) :
    Calls Try.prog 15 #[.int .i64 n] w fun e w' => e = .returned (.string (textS n)) ∧ Below w.heap.size w w' := by
  by_cases h : n < 0
  · have hD : Hid (textS n = ⟨#[45]⟩ ++ baseS 10 n.natAbs) := by unfold textS; rw [if_pos h]; exact Lib.hid rfl
    have hsz := baseS_size 10 n.natAbs (by omega)
    go_enter Try.func15, Try.ntmps15
    go_wp2_with fail
    refine (base_lit _ _ n.natAbs 10 _ (by omega) rfl (by omega)).mono ?_
    rintro e w' ⟨rfl, hb⟩
    go_wp2
    go_ret
    exact ⟨ret_str hD.out.symm, hb⟩
  · have hD : Hid (textS n = baseS 10 n.natAbs) := by unfold textS; rw [if_neg h]; exact Lib.hid rfl
    go_enter Try.func15, Try.ntmps15
    go_wp2_with fail
    refine (base_lit _ _ n.natAbs 10 _ (by omega) rfl (by omega)).mono ?_
    rintro e w' ⟨rfl, hb⟩
    go_wp2
    go_ret
    exact ⟨ret_str hD.out.symm, hb⟩

theorem byteArray_inj {a b : ByteArray} (h : a.data.toList = b.data.toList) : a = b := by
  obtain ⟨⟨a⟩⟩ := a
  obtain ⟨⟨b⟩⟩ := b
  simp at h
  rw [h]
theorem signs_cut (d : Nat) (h : d < 16) : (⟨#[48, 49, 50, 51, 52, 53, 54, 55, 56, 57, 97, 98, 99, 100, 101, 102]⟩ : ByteArray).extract d (d + 1) = strOfNums [chr d] := by
  have : ∀ d : Fin 16, ((⟨#[48, 49, 50, 51, 52, 53, 54, 55, 56, 57, 97, 98, 99, 100, 101, 102]⟩ : ByteArray).extract d.val (d.val + 1)).data.toList = (strOfNums [chr d.val]).data.toList := by decide
  have := this ⟨d, h⟩
  exact byteArray_inj this
theorem strOfNums_append (a b : List Int) : strOfNums a ++ strOfNums b = strOfNums (a ++ b) := by
  apply byteArray_inj
  simp [strOfNums]

set_option maxHeartbeats 800000 in
theorem rbase_any (n : Nat) : ∀ (b : Int) (w : World), n < 18446744073709551616 →
    Calls Try.prog 18 #[.int .u64 n, .int .i64 b] w fun e w' => e = .returned (.string (baseS b.toNat n)) ∧ Below w.heap.size w w' := by
  induction n using Nat.strongRecOn with
  | ind n ih =>
  intro b w h1
  by_cases hb : b < 2 ∨ b > 16
  · have HE : Hid (baseS b.toNat n = ⟨#[]⟩) := by
      refine Lib.hid ?_
      unfold baseS
      rw [if_pos (by omega)]
    clear ih
    by_cases hb2 : b < 2
    · go_enter Try.func18, Try.ntmps18
      go_wp2
      go_ret
      exact ⟨ret_str HE.out.symm, Below.refl _ _⟩
    · have : 16 < b := by omega
      go_enter Try.func18, Try.ntmps18
      go_wp2
      go_ret
      exact ⟨ret_str HE.out.symm, Below.refl _ _⟩
  · obtain ⟨b, rfl⟩ : ∃ c : Nat, b = c := ⟨b.toNat, by omega⟩
    have hb1 : (2 : Int) ≤ b := by omega
    have hb2 : (b : Int) ≤ 16 := by omega
    have HE : Hid (∀ m, baseS (b : Int).toNat m = strOfNums (digs b m)) := by
      refine Lib.hid ?_
      intro m
      unfold baseS
      rw [if_neg (by omega)]
      simp
    clear hb
    have hmb0 : 0 ≤ ((n : Int) % (b : Int)) := Int.emod_nonneg _ (by omega)
    have hmb : ((n : Int) % (b : Int)) < 16 := by
      have := Int.emod_lt_of_pos (n : Int) (show (0 : Int) < b by omega); omega
    have hx : n % b < 16 := by have := Nat.mod_lt n (show b > 0 by omega); omega
    have hcut := Lib.hid (signs_cut (n % b) hx)
    have hto : ((n : Int) % (b : Int)).toNat = n % b := by rw [show ((n : Int) % (b : Int)) = ((n % b : Nat) : Int) by simp]; rfl
    have hto1 : ((n : Int) % (b : Int) + 1).toNat = n % b + 1 := by omega
    by_cases hlt : n < b
    · have hD : Hid (strOfNums (digs b n) = strOfNums [chr (n % b)]) := by
        rw [digs, if_pos (.inl hlt)]
        exact Lib.hid rfl
      clear ih
      go_enter Try.func18, Try.ntmps18
      go_wp2_with fail
      go_quiet (fail)
      go_wp2_with fail
      go_ret
      exact ⟨ret_str (by rw [HE.out, hD.out, hcut.out]), below_drewN (Below.refl _ _) _⟩
    · have hD : Hid (strOfNums (digs b n) = strOfNums (digs b (n / b)) ++ strOfNums [chr (n % b)]) := by
        rw [digs, if_neg (by omega), strOfNums_append]
        exact Lib.hid rfl
      have hq0 : 0 ≤ (n : Int) / (b : Int) := Int.ediv_nonneg (by omega) (by omega)
      have hq1 : (n : Int) / (b : Int) ≤ n := Int.ediv_le_self _ (by omega)
      have hqe := Lib.hid (show ((n : Int) / (b : Int)) = ((n / b : Nat) : Int) by simp)
      have hih := Lib.hid (ih (n / b) (Nat.div_lt_self (by omega) (by omega)) (b : Int))
      have hsz : (strOfNums (digs b (n / b))).size ≤ 64 := by have := baseS_size b (n / b) (by have := Nat.div_le_self n b; omega); rw [← HE.out]; simpa using this
      have hsz2 : ((⟨#[48, 49, 50, 51, 52, 53, 54, 55, 56, 57, 97, 98, 99, 100, 101, 102]⟩ : ByteArray).extract (n % b) (n % b + 1)).size ≤ 1 := by rw [hcut.out, strOfNums_size]; simp
      clear ih
      go_enter Try.func18, Try.ntmps18
      go_wp2_with fail
      go_quiet (fail)
      go_wp2_with fail
      refine (show Calls _ _ _ _ _ from (by rw [hqe.out]; exact hih.out _ (by have := Nat.div_le_self n b; omega)) : Calls Try.prog 18 #[.int .u64 ((n : Int) / (b : Int)), .int .i64 (b : Int)] _ fun e w' => e = .returned (.string (baseS (b : Int).toNat (n / b))) ∧ Below _ _ w').mono ?_
      rintro e w' ⟨rfl, hbw⟩
      rw [HE.out]
      go_wp2
      go_ret
      exact ⟨ret_str (by rw [HE.out, hD.out, hcut.out]), (below_drewN (Below.refl _ _) _).trans hbw⟩

theorem rbase_lit (n b : Int) (k c : Nat) (w : World) (hn : n = k) (hb : b = c) (h1 : k < 18446744073709551616) :
    Calls Try.prog 18 #[.int .u64 n, .int .i64 b] w fun e w' => e = .returned (.string (baseS c k)) ∧ Below w.heap.size w w' := by
  subst hn hb
  exact rbase_any k c w h1
set_option maxHeartbeats 800000 in
theorem rtext_any (n : Int) (w : World) (h1 : -9223372036854775808 ≤ n) (h2 : n ≤ 9223372036854775807) :
    Calls Try.prog 16 #[.int .i64 n] w fun e w' => e = .returned (.string (textS n)) ∧ Below w.heap.size w w' := by
  by_cases h : n < 0
  · have hD : Hid (textS n = ⟨#[45]⟩ ++ baseS 10 n.natAbs) := by unfold textS; rw [if_pos h]; exact Lib.hid rfl
    have hsz := baseS_size 10 n.natAbs (by omega)
    go_enter Try.func16, Try.ntmps16
    go_wp2_with fail
    refine (rbase_lit _ _ n.natAbs 10 _ (by simp only [IntKind.wrap_u64]; omega) rfl (by omega)).mono ?_
    rintro e w' ⟨rfl, hb⟩
    go_wp2
    go_ret
    exact ⟨ret_str hD.out.symm, hb⟩
  · have hD : Hid (textS n = baseS 10 n.natAbs) := by unfold textS; rw [if_neg h]; exact Lib.hid rfl
    go_enter Try.func16, Try.ntmps16
    go_wp2_with fail
    refine (rbase_lit _ _ n.natAbs 10 _ (by omega) rfl (by omega)).mono ?_
    rintro e w' ⟨rfl, hb⟩
    go_wp2
    go_ret
    exact ⟨ret_str hD.out.symm, hb⟩

theorem aw1 : conD [48, 49, 48] = (8, 0) := by decide +kernel
theorem aw2 : conD [48, 120, 49, 70] = (31, 0) := by decide +kernel
theorem aw3 : conD [48, 56] = (0, 40) := by decide +kernel
theorem aw4 : modD [48, 54, 52, 52] = (420, 0) := by decide +kernel
theorem aw5 : modD [49, 48, 48, 48] = (0, 41) := by decide +kernel
theorem digs5 : digs 10 5 = [53] := by rw [digs, if_pos (by omega)]; rfl
theorem aw6 : textS (-5) = ⟨#[45, 53]⟩ := by
  unfold textS baseS
  rw [if_pos (by omega)]
  show ⟨#[45]⟩ ++ (if 10 < 2 ∨ 16 < 10 then _ else strOfNums (digs 10 5)) = _
  rw [if_neg (by omega), digs5]
  exact byteArray_inj rfl
theorem const_lit (s : ByteArray) (l : List UInt8) (a b : Int) (w : World) (hl : s.data.toList = l) (hs : l.length ≤ 100) (hc : conD l = (a, b)) :
    Calls Try.prog 20 #[.string s] w fun e w' => e = .returned (.tuple #[.int .i64 a, .int .i64 b]) ∧ Below w.heap.size w w' := by
  have h := constant_any s w (by rw [← len_size, hl]; omega)
  rw [hl, hc] at h
  exact h
theorem mode_lit (s : ByteArray) (l : List UInt8) (a b : Int) (w : World) (hl : s.data.toList = l) (hs : l.length ≤ 100) (hc : modD l = (a, b)) :
    Calls Try.prog 22 #[.string s] w fun e w' => e = .returned (.tuple #[.int .i64 a, .int .i64 b]) ∧ Below w.heap.size w w' := by
  have h := mode_any s w (by rw [← len_size, hl]; omega)
  rw [hl, hc] at h
  exact h
set_option maxHeartbeats 1600000 in
theorem awake_any (w : World) : Calls Try.prog 19 #[] w fun e w' => e = .returned (.bool true) ∧ Below w.heap.size w w' := by
  go_enter Try.func19, Try.ntmps19
  go_wp2_with fail
  refine (const_lit _ _ _ _ _ rfl (by decide) aw1).mono ?_
  rintro e w1 ⟨rfl, hb1⟩
  go_wp2_with fail
  refine (const_lit _ _ _ _ _ rfl (by decide) aw2).mono ?_
  rintro e w2 ⟨rfl, hb2⟩
  go_wp2_with fail
  refine (const_lit _ _ _ _ _ rfl (by decide) aw3).mono ?_
  rintro e w3 ⟨rfl, hb3⟩
  go_wp2_with fail
  refine (mode_lit _ _ _ _ _ rfl (by decide) aw4).mono ?_
  rintro e w4 ⟨rfl, hb4⟩
  go_wp2_with fail
  refine (mode_lit _ _ _ _ _ rfl (by decide) aw5).mono ?_
  rintro e w5 ⟨rfl, hb5⟩
  go_wp2_with fail
  have ht := text_any (-5) w5 (by omega) (by omega)
  rw [aw6] at ht
  refine ht.mono ?_
  clear ht
  rintro e w6 ⟨rfl, hb6⟩
  go_wp2
  go_ret
  have h12 := hb1.trans (hb2.mono hb1.size)
  have h13 := h12.trans (hb3.mono h12.size)
  have h14 := h13.trans (hb4.mono h13.size)
  have h15 := h14.trans (hb5.mono h14.size)
  exact ⟨rfl, h15.trans (hb6.mono h15.size)⟩
end Go.Proofs.Ythmdmbgjheploaa
