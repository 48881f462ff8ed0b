/- Decimal of the program and of the reference come to one plain function, at every text. -/
import Derived.Test.YtlinllnlokikpaaDoorNumD
set_option linter.unusedVariables false
set_option linter.unusedSimpArgs false
namespace Go.Proofs.YtlinllnlokikpaaDoor
open Go.RowKit

theorem read_lit (s : ByteArray) (b m : Int) (base most : Nat) (w : World) (l : List UInt8) (hs : s.size ≤ 9223372036854775807) (eb : b = base) (em : m = most) (hb : 2 ≤ base) (hb2 : base ≤ 16) (hm : 16 ≤ most) (hm2 : most < 18446744073709551616) (hl : s.data.toList = l) :
    Calls Tryd.prog 53 #[.string s, .int .i64 b, .int .u64 m] w fun e w' =>
      e = .returned (.tuple #[.int .u64 (rdN base most l : Nat), .int .i64 (rdE base most l)]) ∧ w' = w := by
  subst eb em hl
  exact read_any s base most w hs hb hb2 hm hm2
theorem digits_lit (s : ByteArray) (b m : Int) (base most : Nat) (w : World) (l : List UInt8) (hs : s.size ≤ 9223372036854775807) (eb : b = base) (em : m = most) (hb : 2 ≤ base) (hb2 : base ≤ 16) (hm : 16 ≤ most) (hm2 : most < 18446744073709551616) (hl : s.data.toList = l) :
    Calls Tryd.prog 55 #[.string s, .int .i64 b, .int .u64 m] w fun e w' =>
      e = .returned (.tuple #[.int .u64 (rdN base most l : Nat), .int .i64 (rdE base most l)]) ∧ w' = w := by
  subst eb em hl
  exact digits_any s base most w hs hb hb2 hm hm2

def M63 : Nat := 9223372036854775808
def L63 : Nat := 9223372036854775807
/-- what Decimal comes to -/
def decD : List UInt8 → Int × Int
  | [] => (0, 40)
  | c :: t => if c = 45 then (-(rdN 10 M63 t : Int), rdE 10 M63 t) else if c = 43 then ((rdN 10 L63 t : Int), rdE 10 L63 t) else ((rdN 10 L63 (c :: t) : Int), rdE 10 L63 (c :: t))

theorem rdN_le (base most : Nat) (l : List UInt8) : rdN base most l ≤ most := by
  unfold rdN rdE
  repeat' split
  all_goals first | omega | simp_all
theorem str_nil_or (s : ByteArray) : (s.size = 0 ∧ s.data.toList = []) ∨ ∃ (h : 0 < s.size) (t : List UInt8), s.data.toList = (s[0]'h) :: t ∧ (s.extract 1 s.size).data.toList = t ∧ (s.extract 1 s.size).size ≤ s.size := by
  have hlen : s.data.toList.length = s.size := by rw [Array.length_toList]; rfl
  rcases Nat.eq_zero_or_pos s.size with h | h
  · exact .inl ⟨h, List.eq_nil_of_length_eq_zero (by omega)⟩
  · refine .inr ⟨h, s.data.toList.tail, ?_, ?_, ?_⟩
    · cases hc : s.data.toList with
      | nil => rw [hc] at hlen; simp at hlen; omega
      | cons c t =>
        have : s[0]'h = s.data.toList[0]'(by omega) := rfl
        rw [this]
        simp [hc]
    · rw [Lib.extract_data]
      have e : s.data.toList.drop 1 = s.data.toList.tail := by cases s.data.toList <;> rfl
      rw [e, List.take_of_length_le (by simp [hlen])]
    · have : (s.extract 1 s.size).data.toList.length = (s.extract 1 s.size).size := by rw [Array.length_toList]; rfl
      rw [← this, Lib.extract_data]
      simp only [List.length_take, List.length_drop]
      omega
theorem int_of_u64 (n : Nat) (h : n ≤ L63) : wrap64 (n : Int) = n := by unfold L63 at h; exact IntWalk.wrap64_in _ ⟨by omega, by omega⟩
theorem neg_u64 (n : Nat) (h : n ≤ M63) : wrap64 (IntKind.u64.wrap (-(n : Int))) = -(n : Int) := by
  unfold M63 at h
  simp only [IntKind.wrap_u64, wrap64]
  omega
theorem ret_ii {a b c d : Int} (h : a = c) (h' : b = d) : Ending.returned (.tuple #[.int .i64 a, .int .i64 b]) = .returned (.tuple #[.int .i64 c, .int .i64 d]) := by rw [h, h']
theorem byte_ne {c : UInt8} {k : Nat} (hk : k < 256) (h : ¬ c.toNat = k) : ¬ c = UInt8.ofNat k := by
  intro e
  rw [e] at h
  apply h
  simp
  omega
theorem byte_eq {c : UInt8} {k : Nat} (h : c.toNat = k) : c = UInt8.ofNat k := by
  rw [← h]; simp

theorem decD_nil {l : List UInt8} (h : l = []) : decD l = (0, 40) := by rw [h]; rfl
theorem decD_minus {l t : List UInt8} {c : UInt8} (hl : l = c :: t) (h : c.toNat = 45) : decD l = (-(rdN 10 M63 t : Int), rdE 10 M63 t) := by
  rw [hl]
  show (if c = 45 then _ else _) = _
  rw [if_pos (show c = 45 from byte_eq h)]
theorem decD_plus {l t : List UInt8} {c : UInt8} (hl : l = c :: t) (h : c.toNat = 43) : decD l = ((rdN 10 L63 t : Int), rdE 10 L63 t) := by
  rw [hl]
  show (if c = 45 then _ else _) = _
  rw [if_neg (show ¬ c = 45 from byte_ne (k := 45) (by omega) (by omega)), if_pos (show c = 43 from byte_eq h)]
theorem decD_other {l t : List UInt8} {c : UInt8} (hl : l = c :: t) (h : ¬ c.toNat = 45) (h2 : ¬ c.toNat = 43) : decD l = ((rdN 10 L63 l : Int), rdE 10 L63 l) := by
  rw [hl]
  show (if c = 45 then _ else _) = _
  rw [if_neg (show ¬ c = 45 from byte_ne (k := 45) (by omega) h), if_neg (show ¬ c = 43 from byte_ne (k := 43) (by omega) h2)]
set_option maxHeartbeats 800000 in
theorem rdecimal_any (s : ByteArray) (w : World) (hs : s.size ≤ 9223372036854775807) :
    Calls Tryd.prog 46 #[.string s] w fun e w' => e = .returned (.tuple #[.int .i64 (decD s.data.toList).1, .int .i64 (decD s.data.toList).2]) ∧ w' = w := by
  have hn1 := rdN_le 10 L63
  have hn2 := rdN_le 10 M63
  have hn1' := Lib.hid hn1
  have hn2' := Lib.hid hn2
  clear hn1 hn2
  rcases str_nil_or s with ⟨h0, hl⟩ | ⟨h0, t, hl, ht, hts⟩
  · have hD := Lib.hid (decD_nil hl)
    have hr := rd_nil 10 L63
    have hr' := Lib.hid hr
    have hl' := Lib.hid hl
    clear hr hl
    have h0' : ¬ 0 < s.size := by omega
    go_enter Tryd.func46, Tryd.ntmps46
    go_wp2_with fail
    refine (digits_lit _ _ _ 10 L63 _ [] hs rfl rfl (by omega) (by omega) (by decide) (by decide) hl'.out).mono ?_
    rintro e w' ⟨rfl, rfl⟩
    go_wp2
    go_ret2
    exact ⟨ret_ii (by rw [hD.out, hr'.out.2]; simp [wrap64]) (by rw [hD.out, hr'.out.1]), rfl⟩
  · have hl' := Lib.hid hl
    have ht' := Lib.hid ht
    clear hl ht
    by_cases h1 : (s[0]'h0).toNat = 45
    · have h1' : (((s[0]'h0).toNat : Int) == 45) = true := by rw [beq_iff_eq]; omega
      have hD := Lib.hid (decD_minus hl'.out h1)
      clear h1
      go_enter Tryd.func46, Tryd.ntmps46
      go_wp2_with fail
      refine (digits_lit _ _ _ 10 M63 _ t (by omega) rfl rfl (by omega) (by omega) (by decide) (by decide) ht'.out).mono ?_
      rintro e w' ⟨rfl, rfl⟩
      go_wp2
      go_ret2
      exact ⟨ret_ii (by rw [hD.out]; exact neg_u64 _ (hn2'.out t)) (by rw [hD.out]), rfl⟩
    · have h1' : (((s[0]'h0).toNat : Int) == 45) = false := by rw [beq_eq_false_iff_ne]; omega
      by_cases h2 : (s[0]'h0).toNat = 43
      · have h2' : (((s[0]'h0).toNat : Int) == 43) = true := by rw [beq_iff_eq]; omega
        have hD := Lib.hid (decD_plus hl'.out h2)
        clear h1 h2
        go_enter Tryd.func46, Tryd.ntmps46
        go_wp2_with fail
        refine (digits_lit _ _ _ 10 L63 _ t (by omega) rfl rfl (by omega) (by omega) (by decide) (by decide) ht'.out).mono ?_
        rintro e w' ⟨rfl, rfl⟩
        go_wp2
        go_ret2
        exact ⟨ret_ii (by rw [hD.out]; exact int_of_u64 _ (hn1'.out t)) (by rw [hD.out]), rfl⟩
      · have h2' : (((s[0]'h0).toNat : Int) == 43) = false := by rw [beq_eq_false_iff_ne]; omega
        have hD := Lib.hid (decD_other hl'.out h1 h2)
        clear h1 h2
        go_enter Tryd.func46, Tryd.ntmps46
        go_wp2_with fail
        refine (digits_lit _ _ _ 10 L63 _ s.data.toList (by omega) rfl rfl (by omega) (by omega) (by decide) (by decide) rfl).mono ?_
        rintro e w' ⟨rfl, rfl⟩
        go_wp2
        go_ret2
        exact ⟨ret_ii (by rw [hD.out]; exact int_of_u64 _ (hn1'.out _)) (by rw [hD.out]), rfl⟩

set_option maxHeartbeats 800000 in
theorem decimal_any (s : ByteArray) (w : World) (hs : s.size ≤ 9223372036854775807) :
    Calls Tryd.prog 42 #[.string s] w fun e w' => e = .returned (.tuple #[.int .i64 (decD s.data.toList).1, .int .i64 (decD s.data.toList).2]) ∧ w' = w := by
  have hn1' := Lib.hid (rdN_le 10 L63)
  have hn2' := Lib.hid (rdN_le 10 M63)
  have hlen : s.data.toList.length = s.size := by rw [Array.length_toList]; rfl
  have hcut : ∀ l : List UInt8, ((⟨l.toArray⟩ : ByteArray).data.toList = l ∧ (⟨l.toArray⟩ : ByteArray).size = l.length) := fun l => ⟨rfl, rfl⟩
  by_cases h1 : Lib.hasPrefix s.data.toList [45] = true
  · have hD : Hid (decD s.data.toList = (-(rdN 10 M63 (s.data.toList.tail) : Int), rdE 10 M63 (s.data.toList.tail)) ∧ Lib.trimPrefix s.data.toList [45] = s.data.toList.tail) := by
      refine Lib.hid ⟨?_, by unfold Lib.trimPrefix; rw [if_pos h1]; exact List.drop_one⟩
      cases hc : s.data.toList with
      | nil => rw [hc] at h1; simp [Lib.hasPrefix] at h1
      | cons c t =>
        rw [hc] at h1
        simp [Lib.hasPrefix] at h1
        exact decD_minus rfl (by rw [← h1]; rfl)
    have hsz : (s.data.toList.tail).length ≤ 9223372036854775807 := by simp only [List.length_tail]; omega
    go_enter Tryd.func42, Tryd.ntmps42
    go_wp2_with fail
    refine (Tryd.strings_CutPrefix _ _ _).mono ?_
    rintro e w' ⟨rfl, rfl⟩
    rw [show (⟨#[45]⟩ : ByteArray).data.toList = [45] from rfl, h1, hD.out.2]
    go_wp2_with fail
    refine (read_lit ⟨(s.data.toList.tail).toArray⟩ _ _ 10 M63 _ (s.data.toList.tail) hsz rfl rfl (by omega) (by omega) (by decide) (by decide) rfl).mono ?_
    rintro e w' ⟨rfl, rfl⟩
    go_wp2
    go_ret2
    exact ⟨ret_ii (by rw [hD.out.1]; exact neg_u64 _ (hn2'.out _)) (by rw [hD.out.1]), rfl⟩
  · have h1' : Lib.hasPrefix s.data.toList [45] = false := by simpa using h1
    have hT1 : Hid (Lib.trimPrefix s.data.toList [45] = s.data.toList) := by unfold Lib.trimPrefix; rw [if_neg h1]; exact Lib.hid rfl
    have hn45 : ∀ c t, s.data.toList = c :: t → ¬ c.toNat = 45 := by
      intro c t hc h
      rw [hc] at h1
      apply h1
      rw [byte_eq h]
      simp [Lib.hasPrefix]
    have hn45' := Lib.hid hn45
    clear hn45
    by_cases h2 : Lib.hasPrefix s.data.toList [43] = true
    · have hD : Hid (decD s.data.toList = ((rdN 10 L63 (s.data.toList.tail) : Int), rdE 10 L63 (s.data.toList.tail)) ∧ Lib.trimPrefix s.data.toList [43] = s.data.toList.tail) := by
        refine Lib.hid ⟨?_, by unfold Lib.trimPrefix; rw [if_pos h2]; exact List.drop_one⟩
        cases hc : s.data.toList with
        | nil => rw [hc] at h2; simp [Lib.hasPrefix] at h2
        | cons c t =>
          rw [hc] at h2
          simp [Lib.hasPrefix] at h2
          exact decD_plus rfl (by rw [← h2]; rfl)
      have hsz : (s.data.toList.tail).length ≤ 9223372036854775807 := by simp only [List.length_tail]; omega
      clear h1
      go_enter Tryd.func42, Tryd.ntmps42
      go_wp2_with fail
      refine (Tryd.strings_CutPrefix _ _ _).mono ?_
      rintro e w' ⟨rfl, rfl⟩
      rw [show (⟨#[45]⟩ : ByteArray).data.toList = [45] from rfl, h1', hT1.out]
      go_wp2_with fail
      refine (Tryd.strings_CutPrefix _ _ _).mono ?_
      rintro e w' ⟨rfl, rfl⟩
      rw [show (⟨#[43]⟩ : ByteArray).data.toList = [43] from rfl, h2, hD.out.2]
      go_wp2_with fail
      refine (read_lit ⟨(s.data.toList.tail).toArray⟩ _ _ 10 L63 _ (s.data.toList.tail) hsz rfl rfl (by omega) (by omega) (by decide) (by decide) rfl).mono ?_
      rintro e w' ⟨rfl, rfl⟩
      go_wp2
      go_ret2
      exact ⟨ret_ii (by rw [hD.out.1]; exact int_of_u64 _ (hn1'.out _)) (by rw [hD.out.1]), rfl⟩
    · have h2' : Lib.hasPrefix s.data.toList [43] = false := by simpa using h2
      have hT2 : Hid (Lib.trimPrefix s.data.toList [43] = s.data.toList) := by unfold Lib.trimPrefix; rw [if_neg h2]; exact Lib.hid rfl
      have hD : Hid (decD s.data.toList = ((rdN 10 L63 s.data.toList : Int), rdE 10 L63 s.data.toList)) := by
        refine Lib.hid ?_
        cases hc : s.data.toList with
        | nil => rw [decD_nil rfl, (rd_nil 10 L63).1, (rd_nil 10 L63).2]; rfl
        | cons c t =>
          refine decD_other rfl (hn45'.out c t hc) ?_
          intro h
          rw [hc] at h2
          apply h2
          rw [byte_eq h]
          simp [Lib.hasPrefix]
      have hsz : (s.data.toList).length ≤ 9223372036854775807 := by omega
      clear h1 h2
      go_enter Tryd.func42, Tryd.ntmps42
      go_wp2_with fail
      refine (Tryd.strings_CutPrefix _ _ _).mono ?_
      rintro e w' ⟨rfl, rfl⟩
      rw [show (⟨#[45]⟩ : ByteArray).data.toList = [45] from rfl, h1', hT1.out]
      go_wp2_with fail
      refine (Tryd.strings_CutPrefix _ _ _).mono ?_
      rintro e w' ⟨rfl, rfl⟩
      rw [show (⟨#[43]⟩ : ByteArray).data.toList = [43] from rfl, h2', hT2.out]
      go_wp2_with fail
      refine (read_lit _ _ _ 10 L63 _ s.data.toList hsz rfl rfl (by omega) (by omega) (by decide) (by decide) rfl).mono ?_
      rintro e w' ⟨rfl, rfl⟩
      go_wp2
      go_ret2
      exact ⟨ret_ii (by rw [hD.out]; exact int_of_u64 _ (hn1'.out _)) (by rw [hD.out]), rfl⟩
end Go.Proofs.YtlinllnlokikpaaDoor
