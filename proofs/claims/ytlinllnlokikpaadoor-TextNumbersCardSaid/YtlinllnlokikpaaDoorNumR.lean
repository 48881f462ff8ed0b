/- What a sign is worth as a digit, by the program and by the reference, at every byte. -/
import Derived.Test.YtlinllnlokikpaaDoorNumB
import Derived.Test.YtlinllnlokikpaaDoorShelf
set_option linter.unusedVariables false
set_option linter.unusedSimpArgs false
namespace Go.Proofs.YtlinllnlokikpaaDoor
open Go.RowKit

def valC (c : Nat) : Int := if 48 ≤ c ∧ c ≤ 57 then (c : Int) - 48 else if 97 ≤ c ∧ c ≤ 102 then (c : Int) - 87 else if 65 ≤ c ∧ c ≤ 70 then (c : Int) - 55 else -1

theorem valC_index : ∀ c : Fin 256, Lib.indexByte [48, 49, 50, 51, 52, 53, 54, 55, 56, 57, 97, 98, 99, 100, 101, 102] ((if 65 ≤ c.val ∧ c.val ≤ 70 then c.val + 32 else c.val).toUInt8) = valC c.val := by decide +kernel

theorem ret_i64 {a b : Int} (h : a = b) : Ending.returned (.int .i64 a) = .returned (.int .i64 b) := by rw [h]

theorem value_any (c : Nat) (w : World) (h : c < 256) :
    Calls Tryd.prog 59 #[.int .u8 c] w fun e w' => e = .returned (.int .i64 (valC c)) ∧ w' = w := by
  have hv := Lib.hid (valC_index ⟨c, h⟩)
  by_cases h1 : 65 ≤ c ∧ c ≤ 70
  · obtain ⟨h1, h2⟩ := h1
    have h3 : (65 : Int) ≤ c := by omega
    have h4 : (c : Int) ≤ 70 := by omega
    go_enter Tryd.func59, Tryd.ntmps59
    go_wp2_with fail
    refine (Tryd.strings_IndexByte _ _ _).mono ?_
    rintro e w' ⟨rfl, rfl⟩
    go_wp2
    go_ret
    refine ⟨ret_i64 ?_, rfl⟩
    rw [← hv.out]
    simp only [h1, h2, and_self, if_true]
    congr 1
  · go_enter Tryd.func59, Tryd.ntmps59
    by_cases h3 : 65 ≤ (c : Int)
    · have h4 : 70 < (c : Int) := by omega
      go_wp2_with fail
      refine (Tryd.strings_IndexByte _ _ _).mono ?_
      rintro e w' ⟨rfl, rfl⟩
      go_wp2
      go_ret
      refine ⟨ret_i64 ?_, rfl⟩
      rw [← hv.out]
      simp [h1]
    · go_wp2_with fail
      refine (Tryd.strings_IndexByte _ _ _).mono ?_
      rintro e w' ⟨rfl, rfl⟩
      go_wp2
      go_ret
      refine ⟨ret_i64 ?_, rfl⟩
      rw [← hv.out]
      simp [h1]

/-- the reference's digit: 16 for none -/
def digR (c : Nat) : Int := if valC c = -1 then 16 else valC c
theorem digR_le (c : Nat) : 0 ≤ digR c ∧ digR c ≤ 16 := by
  unfold digR valC
  repeat' split
  all_goals omega

def sg (i : Nat) : Nat := if i < 10 then 48 + i else 87 + i
theorem sg_at : ∀ (i : Nat) (h : i < 16), ((⟨#[48, 49, 50, 51, 52, 53, 54, 55, 56, 57, 97, 98, 99, 100, 101, 102]⟩ : ByteArray)[i]'(by exact h)).toNat = sg i := by
  have : ∀ i : Fin 16, ((⟨#[48, 49, 50, 51, 52, 53, 54, 55, 56, 57, 97, 98, 99, 100, 101, 102]⟩ : ByteArray)[i.val]'(by exact i.isLt)).toNat = sg i.val := by decide
  exact fun i h => this ⟨i, h⟩
theorem digR_iff : ∀ (c : Fin 256) (i : Fin 16), digR c.val = (i.val : Int) ↔ c.val = sg i.val ∨ (10 ≤ i.val ∧ (c.val + 32) % 256 = sg i.val ∧ c.val < 97) := by decide +kernel

set_option maxHeartbeats 1600000 in
theorem digit_any (c : Nat) (w : World) (h : c < 256) :
    Calls Tryd.prog 61 #[.int .u8 c] w fun e w' => e = .returned (.int .i64 (digR c)) ∧ w' = w := by
  go_enter Tryd.func61, Tryd.ntmps61
  go_wp2
  go_loop [3] (fun s3 => ∃ i : Nat, i ≤ 16 ∧ s3 = .int .i64 i ∧ Hid ((i : Int) ≤ digR c)) (fun s3 => 16 - (intOf s3).toNat)
  case atStart => exact ⟨0, by omega, rfl, Lib.hid (digR_le c).1⟩
  case round =>
    obtain ⟨i, hi, rfl, hd⟩ := hrel
    by_cases h16 : i = 16
    · subst h16
      go_wp2
      go_ret
      have h1 := hd.out
      have h2 := (digR_le c).2
      exact ⟨ret_i64 (by omega), rfl⟩
    · have hcs : i = 0 ∨ i = 1 ∨ i = 2 ∨ i = 3 ∨ i = 4 ∨ i = 5 ∨ i = 6 ∨ i = 7 ∨ i = 8 ∨ i = 9 ∨ i = 10 ∨ i = 11 ∨ i = 12 ∨ i = 13 ∨ i = 14 ∨ i = 15 := by omega
      rcases hcs with rfl | rfl | rfl | rfl | rfl | rfl | rfl | rfl | rfl | rfl | rfl | rfl | rfl | rfl | rfl | rfl
      · have hiff := Lib.hid (digR_iff ⟨c, h⟩ ⟨0, by decide⟩)
        have hsg := Lib.hid (sg_at 0 (by decide))
        clear hi h16
        go_wp2
        all_goals
          have h1 := hd.out
          have h2 := hiff.out
          have h3 := hsg.out
          simp only [sg, Nat.reduceAdd, Nat.reduceLT, reduceIte, Nat.reduceLeDiff, false_and, or_false, true_and] at h2 h3
          try simp only [beq_iff_eq, beq_eq_false_iff_ne] at *
          first
          | (go_ret; exact ⟨ret_i64 (by omega), rfl⟩)
          | (go_round
             case rel => exact ⟨1, by omega, rfl, Lib.hid (by omega)⟩
             case measure => simp [intOf])
      · have hiff := Lib.hid (digR_iff ⟨c, h⟩ ⟨1, by decide⟩)
        have hsg := Lib.hid (sg_at 1 (by decide))
        clear hi h16
        go_wp2
        all_goals
          have h1 := hd.out
          have h2 := hiff.out
          have h3 := hsg.out
          simp only [sg, Nat.reduceAdd, Nat.reduceLT, reduceIte, Nat.reduceLeDiff, false_and, or_false, true_and] at h2 h3
          try simp only [beq_iff_eq, beq_eq_false_iff_ne] at *
          first
          | (go_ret; exact ⟨ret_i64 (by omega), rfl⟩)
          | (go_round
             case rel => exact ⟨2, by omega, rfl, Lib.hid (by omega)⟩
             case measure => simp [intOf])
      · have hiff := Lib.hid (digR_iff ⟨c, h⟩ ⟨2, by decide⟩)
        have hsg := Lib.hid (sg_at 2 (by decide))
        clear hi h16
        go_wp2
        all_goals
          have h1 := hd.out
          have h2 := hiff.out
          have h3 := hsg.out
          simp only [sg, Nat.reduceAdd, Nat.reduceLT, reduceIte, Nat.reduceLeDiff, false_and, or_false, true_and] at h2 h3
          try simp only [beq_iff_eq, beq_eq_false_iff_ne] at *
          first
          | (go_ret; exact ⟨ret_i64 (by omega), rfl⟩)
          | (go_round
             case rel => exact ⟨3, by omega, rfl, Lib.hid (by omega)⟩
             case measure => simp [intOf])
      · have hiff := Lib.hid (digR_iff ⟨c, h⟩ ⟨3, by decide⟩)
        have hsg := Lib.hid (sg_at 3 (by decide))
        clear hi h16
        go_wp2
        all_goals
          have h1 := hd.out
          have h2 := hiff.out
          have h3 := hsg.out
          simp only [sg, Nat.reduceAdd, Nat.reduceLT, reduceIte, Nat.reduceLeDiff, false_and, or_false, true_and] at h2 h3
          try simp only [beq_iff_eq, beq_eq_false_iff_ne] at *
          first
          | (go_ret; exact ⟨ret_i64 (by omega), rfl⟩)
          | (go_round
             case rel => exact ⟨4, by omega, rfl, Lib.hid (by omega)⟩
             case measure => simp [intOf])
      · have hiff := Lib.hid (digR_iff ⟨c, h⟩ ⟨4, by decide⟩)
        have hsg := Lib.hid (sg_at 4 (by decide))
        clear hi h16
        go_wp2
        all_goals
          have h1 := hd.out
          have h2 := hiff.out
          have h3 := hsg.out
          simp only [sg, Nat.reduceAdd, Nat.reduceLT, reduceIte, Nat.reduceLeDiff, false_and, or_false, true_and] at h2 h3
          try simp only [beq_iff_eq, beq_eq_false_iff_ne] at *
          first
          | (go_ret; exact ⟨ret_i64 (by omega), rfl⟩)
          | (go_round
             case rel => exact ⟨5, by omega, rfl, Lib.hid (by omega)⟩
             case measure => simp [intOf])
      · have hiff := Lib.hid (digR_iff ⟨c, h⟩ ⟨5, by decide⟩)
        have hsg := Lib.hid (sg_at 5 (by decide))
        clear hi h16
        go_wp2
        all_goals
          have h1 := hd.out
          have h2 := hiff.out
          have h3 := hsg.out
          simp only [sg, Nat.reduceAdd, Nat.reduceLT, reduceIte, Nat.reduceLeDiff, false_and, or_false, true_and] at h2 h3
          try simp only [beq_iff_eq, beq_eq_false_iff_ne] at *
          first
          | (go_ret; exact ⟨ret_i64 (by omega), rfl⟩)
          | (go_round
             case rel => exact ⟨6, by omega, rfl, Lib.hid (by omega)⟩
             case measure => simp [intOf])
      · have hiff := Lib.hid (digR_iff ⟨c, h⟩ ⟨6, by decide⟩)
        have hsg := Lib.hid (sg_at 6 (by decide))
        clear hi h16
        go_wp2
        all_goals
          have h1 := hd.out
          have h2 := hiff.out
          have h3 := hsg.out
          simp only [sg, Nat.reduceAdd, Nat.reduceLT, reduceIte, Nat.reduceLeDiff, false_and, or_false, true_and] at h2 h3
          try simp only [beq_iff_eq, beq_eq_false_iff_ne] at *
          first
          | (go_ret; exact ⟨ret_i64 (by omega), rfl⟩)
          | (go_round
             case rel => exact ⟨7, by omega, rfl, Lib.hid (by omega)⟩
             case measure => simp [intOf])
      · have hiff := Lib.hid (digR_iff ⟨c, h⟩ ⟨7, by decide⟩)
        have hsg := Lib.hid (sg_at 7 (by decide))
        clear hi h16
        go_wp2
        all_goals
          have h1 := hd.out
          have h2 := hiff.out
          have h3 := hsg.out
          simp only [sg, Nat.reduceAdd, Nat.reduceLT, reduceIte, Nat.reduceLeDiff, false_and, or_false, true_and] at h2 h3
          try simp only [beq_iff_eq, beq_eq_false_iff_ne] at *
          first
          | (go_ret; exact ⟨ret_i64 (by omega), rfl⟩)
          | (go_round
             case rel => exact ⟨8, by omega, rfl, Lib.hid (by omega)⟩
             case measure => simp [intOf])
      · have hiff := Lib.hid (digR_iff ⟨c, h⟩ ⟨8, by decide⟩)
        have hsg := Lib.hid (sg_at 8 (by decide))
        clear hi h16
        go_wp2
        all_goals
          have h1 := hd.out
          have h2 := hiff.out
          have h3 := hsg.out
          simp only [sg, Nat.reduceAdd, Nat.reduceLT, reduceIte, Nat.reduceLeDiff, false_and, or_false, true_and] at h2 h3
          try simp only [beq_iff_eq, beq_eq_false_iff_ne] at *
          first
          | (go_ret; exact ⟨ret_i64 (by omega), rfl⟩)
          | (go_round
             case rel => exact ⟨9, by omega, rfl, Lib.hid (by omega)⟩
             case measure => simp [intOf])
      · have hiff := Lib.hid (digR_iff ⟨c, h⟩ ⟨9, by decide⟩)
        have hsg := Lib.hid (sg_at 9 (by decide))
        clear hi h16
        go_wp2
        all_goals
          have h1 := hd.out
          have h2 := hiff.out
          have h3 := hsg.out
          simp only [sg, Nat.reduceAdd, Nat.reduceLT, reduceIte, Nat.reduceLeDiff, false_and, or_false, true_and] at h2 h3
          try simp only [beq_iff_eq, beq_eq_false_iff_ne] at *
          first
          | (go_ret; exact ⟨ret_i64 (by omega), rfl⟩)
          | (go_round
             case rel => exact ⟨10, by omega, rfl, Lib.hid (by omega)⟩
             case measure => simp [intOf])
      · have hiff := Lib.hid (digR_iff ⟨c, h⟩ ⟨10, by decide⟩)
        have hsg := Lib.hid (sg_at 10 (by decide))
        clear hi h16
        go_wp2
        all_goals
          have h1 := hd.out
          have h2 := hiff.out
          have h3 := hsg.out
          simp only [sg, Nat.reduceAdd, Nat.reduceLT, reduceIte, Nat.reduceLeDiff, false_and, or_false, true_and] at h2 h3
          try simp only [beq_iff_eq, beq_eq_false_iff_ne] at *
          first
          | (go_ret; exact ⟨ret_i64 (by omega), rfl⟩)
          | (go_round
             case rel => exact ⟨11, by omega, rfl, Lib.hid (by omega)⟩
             case measure => simp [intOf])
      · have hiff := Lib.hid (digR_iff ⟨c, h⟩ ⟨11, by decide⟩)
        have hsg := Lib.hid (sg_at 11 (by decide))
        clear hi h16
        go_wp2
        all_goals
          have h1 := hd.out
          have h2 := hiff.out
          have h3 := hsg.out
          simp only [sg, Nat.reduceAdd, Nat.reduceLT, reduceIte, Nat.reduceLeDiff, false_and, or_false, true_and] at h2 h3
          try simp only [beq_iff_eq, beq_eq_false_iff_ne] at *
          first
          | (go_ret; exact ⟨ret_i64 (by omega), rfl⟩)
          | (go_round
             case rel => exact ⟨12, by omega, rfl, Lib.hid (by omega)⟩
             case measure => simp [intOf])
      · have hiff := Lib.hid (digR_iff ⟨c, h⟩ ⟨12, by decide⟩)
        have hsg := Lib.hid (sg_at 12 (by decide))
        clear hi h16
        go_wp2
        all_goals
          have h1 := hd.out
          have h2 := hiff.out
          have h3 := hsg.out
          simp only [sg, Nat.reduceAdd, Nat.reduceLT, reduceIte, Nat.reduceLeDiff, false_and, or_false, true_and] at h2 h3
          try simp only [beq_iff_eq, beq_eq_false_iff_ne] at *
          first
          | (go_ret; exact ⟨ret_i64 (by omega), rfl⟩)
          | (go_round
             case rel => exact ⟨13, by omega, rfl, Lib.hid (by omega)⟩
             case measure => simp [intOf])
      · have hiff := Lib.hid (digR_iff ⟨c, h⟩ ⟨13, by decide⟩)
        have hsg := Lib.hid (sg_at 13 (by decide))
        clear hi h16
        go_wp2
        all_goals
          have h1 := hd.out
          have h2 := hiff.out
          have h3 := hsg.out
          simp only [sg, Nat.reduceAdd, Nat.reduceLT, reduceIte, Nat.reduceLeDiff, false_and, or_false, true_and] at h2 h3
          try simp only [beq_iff_eq, beq_eq_false_iff_ne] at *
          first
          | (go_ret; exact ⟨ret_i64 (by omega), rfl⟩)
          | (go_round
             case rel => exact ⟨14, by omega, rfl, Lib.hid (by omega)⟩
             case measure => simp [intOf])
      · have hiff := Lib.hid (digR_iff ⟨c, h⟩ ⟨14, by decide⟩)
        have hsg := Lib.hid (sg_at 14 (by decide))
        clear hi h16
        go_wp2
        all_goals
          have h1 := hd.out
          have h2 := hiff.out
          have h3 := hsg.out
          simp only [sg, Nat.reduceAdd, Nat.reduceLT, reduceIte, Nat.reduceLeDiff, false_and, or_false, true_and] at h2 h3
          try simp only [beq_iff_eq, beq_eq_false_iff_ne] at *
          first
          | (go_ret; exact ⟨ret_i64 (by omega), rfl⟩)
          | (go_round
             case rel => exact ⟨15, by omega, rfl, Lib.hid (by omega)⟩
             case measure => simp [intOf])
      · have hiff := Lib.hid (digR_iff ⟨c, h⟩ ⟨15, by decide⟩)
        have hsg := Lib.hid (sg_at 15 (by decide))
        clear hi h16
        go_wp2
        all_goals
          have h1 := hd.out
          have h2 := hiff.out
          have h3 := hsg.out
          simp only [sg, Nat.reduceAdd, Nat.reduceLT, reduceIte, Nat.reduceLeDiff, false_and, or_false, true_and] at h2 h3
          try simp only [beq_iff_eq, beq_eq_false_iff_ne] at *
          first
          | (go_ret; exact ⟨ret_i64 (by omega), rfl⟩)
          | (go_round
             case rel => exact ⟨16, by omega, rfl, Lib.hid (by omega)⟩
             case measure => simp [intOf])
end Go.Proofs.YtlinllnlokikpaaDoor
