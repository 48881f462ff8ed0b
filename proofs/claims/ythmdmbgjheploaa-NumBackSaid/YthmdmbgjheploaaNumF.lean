/- Constant of the program and of the reference come to one plain function, at every text. -/
import Derived.Test.YthmdmbgjheploaaNumE
import Derived.WalkSmall
set_option linter.unusedVariables false
set_option linter.unusedSimpArgs false
namespace Go.Proofs.Ythmdmbgjheploaa
open Go.RowKit

def fD (b : Nat) (t : List UInt8) : Int × Int := ((rdN b L63 t : Int), rdE b L63 t)
/-- what Constant comes to -/
def conD (l : List UInt8) : Int × Int :=
  if 2 ≤ l.length ∧ l.getD 0 0 = 48 then (if l.getD 1 0 = 120 ∨ l.getD 1 0 = 88 then fD 16 (l.drop 2) else fD 8 l.tail) else fD 10 l
theorem getD_get (s : ByteArray) (i : Nat) (h : i < s.size) : s.data.toList.getD i 0 = s[i]'h := by
  have hlen : s.data.toList.length = s.size := by rw [Array.length_toList]; rfl
  rw [List.getD_eq_getElem?_getD, List.getElem?_eq_getElem (by omega)]
  rfl
theorem len_size (s : ByteArray) : s.data.toList.length = s.size := by rw [Array.length_toList]; rfl
theorem ext_list (s : ByteArray) (k : Nat) : (s.extract k s.size).data.toList = s.data.toList.drop k := by
  rw [Lib.extract_data, List.take_of_length_le (by rw [List.length_drop, len_size]; omega)]
theorem ext_size (s : ByteArray) (k : Nat) : (s.extract k s.size).size ≤ s.size := by
  rw [← len_size, ext_list, List.length_drop, len_size]; omega
theorem hp2 (l : List UInt8) (a b : UInt8) : Lib.hasPrefix l [a, b] = decide (2 ≤ l.length ∧ l.getD 0 0 = a ∧ l.getD 1 0 = b) := by
  unfold Lib.hasPrefix
  match l with
  | [] => simp
  | [x] => simp [List.isPrefixOf]
  | x :: y :: t =>
    simp only [List.isPrefixOf, List.length_cons, List.getD_cons_zero, List.getD_cons_succ, Bool.and_true]
    rw [Bool.eq_iff_iff]
    simp
    exact ⟨fun ⟨h, k⟩ => ⟨h.symm, k.symm⟩, fun ⟨h, k⟩ => ⟨h.symm, k.symm⟩⟩

set_option maxHeartbeats 800000 in
theorem rconstant_any (s : ByteArray) (w : World) (hs : s.size ≤ 9223372036854775807) :
    Calls Try.prog 21 #[.string s] w fun e w' => e = .returned (.tuple #[.int .i64 (conD s.data.toList).1, .int .i64 (conD s.data.toList).2]) ∧ Below w.heap.size w w' := by
  have hn := Lib.hid (fun b => rdN_le b L63)
  have hlen := Lib.hid (len_size s)
  by_cases h2 : 2 ≤ s.size
  · have hg0 := getD_get s 0 (by omega)
    have hg1 := getD_get s 1 (by omega)
    by_cases h0 : (s[0]'(by omega)).toNat = 48
    · have h0' : (((s[0]'(by omega)).toNat : Int) == 48) = true := by rw [beq_iff_eq]; omega
      by_cases h1 : (s[1]'(by omega)).toNat = 120 ∨ (s[1]'(by omega)).toNat = 88
      · have hD : Hid (conD s.data.toList = fD 16 (s.data.toList.drop 2)) := by
          refine Lib.hid ?_
          unfold conD
          rw [if_pos ⟨by rw [hlen.out]; exact h2, by rw [hg0]; exact byte_eq h0⟩, if_pos (by rw [hg1]; rcases h1 with h | h; exact .inl (byte_eq h); exact .inr (byte_eq h))]
        have he := Lib.hid (ext_list s 2)
        have hz := ext_size s 2
        clear hg0 hg1 h0
        rcases h1 with h1 | h1
        · have h1' : (((s[1]'(by omega)).toNat : Int) == 120) = true := by rw [beq_iff_eq]; omega
          clear h1
          go_enter Try.func21, Try.ntmps21
          go_wp2_with fail
          go_quiet (fail)
          go_wp2_with fail
          refine (digits_lit _ _ _ 16 L63 _ _ (by omega) rfl rfl (by omega) (by omega) (by decide) (by decide) he.out).mono ?_
          rintro e w' ⟨rfl, rfl⟩
          go_wp2
          go_ret2
          exact ⟨ret_ii (by rw [hD.out]; exact int_of_u64 _ (hn.out _ _)) (by rw [hD.out]; rfl), by first | exact Below.refl _ _ | exact below_drewN (Below.refl _ _) _⟩
        · have h1' : (((s[1]'(by omega)).toNat : Int) == 120) = false := by rw [beq_eq_false_iff_ne]; omega
          have h1'' : (((s[1]'(by omega)).toNat : Int) == 88) = true := by rw [beq_iff_eq]; omega
          clear h1
          go_enter Try.func21, Try.ntmps21
          go_wp2_with fail
          go_quiet (fail)
          go_wp2_with fail
          refine (digits_lit _ _ _ 16 L63 _ _ (by omega) rfl rfl (by omega) (by omega) (by decide) (by decide) he.out).mono ?_
          rintro e w' ⟨rfl, rfl⟩
          go_wp2
          go_ret2
          exact ⟨ret_ii (by rw [hD.out]; exact int_of_u64 _ (hn.out _ _)) (by rw [hD.out]; rfl), by first | exact Below.refl _ _ | exact below_drewN (Below.refl _ _) _⟩
      · have hD : Hid (conD s.data.toList = fD 8 s.data.toList.tail) := by
          refine Lib.hid ?_
          unfold conD
          rw [if_pos ⟨by rw [hlen.out]; exact h2, by rw [hg0]; exact byte_eq h0⟩, if_neg (by rw [hg1]; rintro (h | h); exact h1 (.inl (by rw [h]; rfl)); exact h1 (.inr (by rw [h]; rfl)))]
        have he := Lib.hid ((ext_list s 1).trans List.drop_one)
        have hz := ext_size s 1
        have h1' : (((s[1]'(by omega)).toNat : Int) == 120) = false := by rw [beq_eq_false_iff_ne]; omega
        have h1'' : (((s[1]'(by omega)).toNat : Int) == 88) = false := by rw [beq_eq_false_iff_ne]; omega
        clear hg0 hg1 h0 h1
        go_enter Try.func21, Try.ntmps21
        go_wp2_with fail
        go_quiet (fail)
        go_wp2_with fail
        refine (digits_lit _ _ _ 8 L63 _ _ (by omega) rfl rfl (by omega) (by omega) (by decide) (by decide) he.out).mono ?_
        rintro e w' ⟨rfl, rfl⟩
        go_wp2
        go_ret2
        exact ⟨ret_ii (by rw [hD.out]; exact int_of_u64 _ (hn.out _ _)) (by rw [hD.out]; rfl), by first | exact Below.refl _ _ | exact below_drewN (Below.refl _ _) _⟩
    · have h0' : (((s[0]'(by omega)).toNat : Int) == 48) = false := by rw [beq_eq_false_iff_ne]; omega
      have hD : Hid (conD s.data.toList = fD 10 s.data.toList) := by
        refine Lib.hid ?_
        unfold conD
        rw [if_neg]
        rintro ⟨_, h⟩
        rw [hg0] at h
        exact h0 (by rw [h]; rfl)
      clear hg0 hg1 h0
      go_enter Try.func21, Try.ntmps21
      go_wp2_with fail
      refine (digits_lit _ _ _ 10 L63 _ _ (by omega) rfl rfl (by omega) (by omega) (by decide) (by decide) rfl).mono ?_
      rintro e w' ⟨rfl, rfl⟩
      go_wp2
      go_ret2
      exact ⟨ret_ii (by rw [hD.out]; exact int_of_u64 _ (hn.out _ _)) (by rw [hD.out]; rfl), by first | exact Below.refl _ _ | exact below_drewN (Below.refl _ _) _⟩
  · have hD : Hid (conD s.data.toList = fD 10 s.data.toList) := by
      refine Lib.hid ?_
      unfold conD
      rw [if_neg]
      rintro ⟨h, _⟩
      rw [hlen.out] at h
      exact h2 h
    have h2' : (s.size : Int) < 2 := by omega
    go_enter Try.func21, Try.ntmps21
    go_wp2_with fail
    refine (digits_lit _ _ _ 10 L63 _ _ (by omega) rfl rfl (by omega) (by omega) (by decide) (by decide) rfl).mono ?_
    rintro e w' ⟨rfl, rfl⟩
    go_wp2
    go_ret2
    exact ⟨ret_ii (by rw [hD.out]; exact int_of_u64 _ (hn.out _ _)) (by rw [hD.out]; rfl), by first | exact Below.refl _ _ | exact below_drewN (Below.refl _ _) _⟩

set_option maxHeartbeats 800000 in
theorem constant_any (s : ByteArray) (w : World) (hs : s.size ≤ 9223372036854775807) :
    Calls Try.prog 20 #[.string s] w fun e w' => e = .returned (.tuple #[.int .i64 (conD s.data.toList).1, .int .i64 (conD s.data.toList).2]) ∧ Below w.heap.size w w' := by
  have hn := Lib.hid (fun b => rdN_le b L63)
  have hlen := Lib.hid (len_size s)
  by_cases hx : Lib.hasPrefix s.data.toList [48, 120] = true ∨ Lib.hasPrefix s.data.toList [48, 88] = true
  · have h3 : 2 ≤ s.size ∧ conD s.data.toList = fD 16 (s.data.toList.drop 2) := by
      rw [hp2, hp2, decide_eq_true_eq, decide_eq_true_eq, hlen.out] at hx
      rcases hx with ⟨h1, h2, h3⟩ | ⟨h1, h2, h3⟩
      · exact ⟨h1, by unfold conD; rw [if_pos ⟨by rw [hlen.out]; exact h1, h2⟩, if_pos (.inl h3)]⟩
      · exact ⟨h1, by unfold conD; rw [if_pos ⟨by rw [hlen.out]; exact h1, h2⟩, if_pos (.inr h3)]⟩
    obtain ⟨h2, hD⟩ := h3
    have hD' := Lib.hid hD
    clear hD
    have he := Lib.hid (ext_list s 2)
    have hz := ext_size s 2
    have hx' := Lib.hid hx
    clear hx
    by_cases hx1 : Lib.hasPrefix s.data.toList [48, 120] = true
    · go_enter Try.func20, Try.ntmps20
      go_wp2_with fail
      refine (Try.strings_HasPrefix _ _ _).mono ?_
      rintro e w' ⟨rfl, rfl⟩
      rw [show (⟨#[48, 120]⟩ : ByteArray).data.toList = [48, 120] from rfl, hx1]
      go_wp2_with fail
      go_quiet (fail)
      go_wp2_with fail
      refine (read_lit _ _ _ 16 L63 _ _ (by omega) rfl rfl (by omega) (by omega) (by decide) (by decide) he.out).mono ?_
      rintro e w' ⟨rfl, rfl⟩
      go_wp2
      go_ret2
      exact ⟨ret_ii (by rw [hD'.out]; exact int_of_u64 _ (hn.out _ _)) (by rw [hD'.out]; rfl), by first | exact Below.refl _ _ | exact below_drewN (Below.refl _ _) _⟩
    · have hx2 : Lib.hasPrefix s.data.toList [48, 88] = true := hx'.out.resolve_left hx1
      have hx1' : Lib.hasPrefix s.data.toList [48, 120] = false := by simpa using hx1
      clear hx1
      go_enter Try.func20, Try.ntmps20
      go_wp2_with fail
      refine (Try.strings_HasPrefix _ _ _).mono ?_
      rintro e w' ⟨rfl, rfl⟩
      rw [show (⟨#[48, 120]⟩ : ByteArray).data.toList = [48, 120] from rfl, hx1']
      go_wp2_with fail
      refine (Try.strings_HasPrefix _ _ _).mono ?_
      rintro e w' ⟨rfl, rfl⟩
      rw [show (⟨#[48, 88]⟩ : ByteArray).data.toList = [48, 88] from rfl, hx2]
      go_wp2_with fail
      go_quiet (fail)
      go_wp2_with fail
      refine (read_lit _ _ _ 16 L63 _ _ (by omega) rfl rfl (by omega) (by omega) (by decide) (by decide) he.out).mono ?_
      rintro e w' ⟨rfl, rfl⟩
      go_wp2
      go_ret2
      exact ⟨ret_ii (by rw [hD'.out]; exact int_of_u64 _ (hn.out _ _)) (by rw [hD'.out]; rfl), by first | exact Below.refl _ _ | exact below_drewN (Below.refl _ _) _⟩
  · have hx1 : Lib.hasPrefix s.data.toList [48, 120] = false := by simpa using fun h => hx (.inl h)
    have hx2 : Lib.hasPrefix s.data.toList [48, 88] = false := by simpa using fun h => hx (.inr h)
    rw [hp2, hp2, decide_eq_true_eq, decide_eq_true_eq, hlen.out] at hx
    by_cases h2 : 2 ≤ s.size
    · have hg0 := getD_get s 0 (by omega)
      by_cases h0 : (s[0]'(by omega)).toNat = 48
      · have h0' : (((s[0]'(by omega)).toNat : Int) == 48) = true := by rw [beq_iff_eq]; omega
        have hD : Hid (conD s.data.toList = fD 8 s.data.toList.tail) := by
          refine Lib.hid ?_
          unfold conD
          rw [if_pos ⟨by rw [hlen.out]; exact h2, by rw [hg0]; exact byte_eq h0⟩, if_neg]
          rintro (h | h)
          · exact hx (.inl ⟨h2, by rw [hg0]; exact byte_eq h0, h⟩)
          · exact hx (.inr ⟨h2, by rw [hg0]; exact byte_eq h0, h⟩)
        have he := Lib.hid ((ext_list s 1).trans List.drop_one)
        have hz := ext_size s 1
        clear hg0 h0 hx
        go_enter Try.func20, Try.ntmps20
        go_wp2_with fail
        refine (Try.strings_HasPrefix _ _ _).mono ?_
        rintro e w' ⟨rfl, rfl⟩
        rw [show (⟨#[48, 120]⟩ : ByteArray).data.toList = [48, 120] from rfl, hx1]
        go_wp2_with fail
        refine (Try.strings_HasPrefix _ _ _).mono ?_
        rintro e w' ⟨rfl, rfl⟩
        rw [show (⟨#[48, 88]⟩ : ByteArray).data.toList = [48, 88] from rfl, hx2]
        go_wp2_with fail
        go_quiet (fail)
        go_wp2_with fail
        refine (read_lit _ _ _ 8 L63 _ _ (by omega) rfl rfl (by omega) (by omega) (by decide) (by decide) he.out).mono ?_
        rintro e w' ⟨rfl, rfl⟩
        go_wp2
        go_ret2
        exact ⟨ret_ii (by rw [hD.out]; exact int_of_u64 _ (hn.out _ _)) (by rw [hD.out]; rfl), by first | exact Below.refl _ _ | exact below_drewN (Below.refl _ _) _⟩
      · have h0' : (((s[0]'(by omega)).toNat : Int) == 48) = false := by rw [beq_eq_false_iff_ne]; omega
        have hD : Hid (conD s.data.toList = fD 10 s.data.toList) := by
          refine Lib.hid ?_
          unfold conD
          rw [if_neg]
          rintro ⟨_, h⟩
          rw [hg0] at h
          exact h0 (by rw [h]; rfl)
        clear hg0 h0 hx
        go_enter Try.func20, Try.ntmps20
        go_wp2_with fail
        refine (Try.strings_HasPrefix _ _ _).mono ?_
        rintro e w' ⟨rfl, rfl⟩
        rw [show (⟨#[48, 120]⟩ : ByteArray).data.toList = [48, 120] from rfl, hx1]
        go_wp2_with fail
        refine (Try.strings_HasPrefix _ _ _).mono ?_
        rintro e w' ⟨rfl, rfl⟩
        rw [show (⟨#[48, 88]⟩ : ByteArray).data.toList = [48, 88] from rfl, hx2]
        go_wp2_with fail
        refine (read_lit _ _ _ 10 L63 _ _ (by omega) rfl rfl (by omega) (by omega) (by decide) (by decide) rfl).mono ?_
        rintro e w' ⟨rfl, rfl⟩
        go_wp2
        go_ret2
        exact ⟨ret_ii (by rw [hD.out]; exact int_of_u64 _ (hn.out _ _)) (by rw [hD.out]; rfl), by first | exact Below.refl _ _ | exact below_drewN (Below.refl _ _) _⟩
    · have hD : Hid (conD s.data.toList = fD 10 s.data.toList) := by
        refine Lib.hid ?_
        unfold conD
        rw [if_neg]
        rintro ⟨h, _⟩
        rw [hlen.out] at h
        exact h2 h
      have h2' : (s.size : Int) ≤ 1 := by omega
      clear hx
      go_enter Try.func20, Try.ntmps20
      go_wp2_with fail
      refine (Try.strings_HasPrefix _ _ _).mono ?_
      rintro e w' ⟨rfl, rfl⟩
      rw [show (⟨#[48, 120]⟩ : ByteArray).data.toList = [48, 120] from rfl, hx1]
      go_wp2_with fail
      refine (Try.strings_HasPrefix _ _ _).mono ?_
      rintro e w' ⟨rfl, rfl⟩
      rw [show (⟨#[48, 88]⟩ : ByteArray).data.toList = [48, 88] from rfl, hx2]
      go_wp2_with fail
      refine (read_lit _ _ _ 10 L63 _ _ (by omega) rfl rfl (by omega) (by omega) (by decide) (by decide) rfl).mono ?_
      rintro e w' ⟨rfl, rfl⟩
      go_wp2
      go_ret2
      exact ⟨ret_ii (by rw [hD.out]; exact int_of_u64 _ (hn.out _ _)) (by rw [hD.out]; rfl), by first | exact Below.refl _ _ | exact below_drewN (Below.refl _ _) _⟩
end Go.Proofs.Ythmdmbgjheploaa
