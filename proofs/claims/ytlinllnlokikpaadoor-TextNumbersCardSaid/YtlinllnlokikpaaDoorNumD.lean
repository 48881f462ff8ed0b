/- Digits read by the program and by the reference come to one plain number and one error, at every text. -/
import Derived.Test.YtlinllnlokikpaaDoorNumR
set_option linter.unusedVariables false
set_option linter.unusedSimpArgs false
namespace Go.Proofs.YtlinllnlokikpaaDoor
open Go.RowKit

/-! the plain reading of digits -/
def okD (base : Nat) (c : UInt8) : Bool := decide (0 ≤ valC c.toNat) && decide (valC c.toNat < base)
def stepD (base : Nat) (n : Nat) (c : UInt8) : Nat := n * base + (valC c.toNat).toNat
def numD (base : Nat) (l : List UInt8) : Nat := l.foldl (stepD base) 0
def rdE (base most : Nat) (l : List UInt8) : Int := if l = [] ∨ l.all (okD base) = false then 40 else if most < numD base l then 41 else 0
def rdN (base most : Nat) (l : List UInt8) : Nat := if rdE base most l = 0 then numD base l else 0

theorem numD_snoc (base : Nat) (l : List UInt8) (c : UInt8) : numD base (l ++ [c]) = numD base l * base + (valC c.toNat).toNat := by simp [numD, stepD]
theorem stepD_le (base : Nat) (hb : 1 ≤ base) (l : List UInt8) (n : Nat) : n ≤ l.foldl (stepD base) n := by
  induction l generalizing n with
  | nil => exact Nat.le_refl _
  | cons c l ih =>
    refine Nat.le_trans ?_ (ih _)
    unfold stepD
    have := Nat.le_mul_of_pos_right n (show 0 < base by omega)
    omega
theorem numD_mono (base : Nat) (hb : 1 ≤ base) (l m : List UInt8) : numD base l ≤ numD base (l ++ m) := by
  unfold numD
  rw [List.foldl_append]
  exact stepD_le base hb m _
theorem take_succ_get (l : List UInt8) (k : Nat) (h : k < l.length) : l.take (k + 1) = l.take k ++ [l[k]] := List.take_succ_eq_append_getElem h
theorem valC_bound (c : Nat) : -1 ≤ valC c ∧ valC c ≤ 15 := by
  unfold valC
  repeat' split
  all_goals omega

/-- what the loop of num.read holds: the digits so far are good, the number, whether it is beyond the greatest -/
def RInv (base most : Nat) (l : List UInt8) (n : Nat) (over : Bool) : Prop :=
  l.all (okD base) = true ∧ n < 18446744073709551616 ∧ (over = false → n = numD base l ∧ n ≤ most) ∧ (over = true → most < numD base l)

theorem RInv_step {base most : Nat} {l : List UInt8} {n : Nat} {over : Bool} {c : UInt8} (hb : 2 ≤ base) (hb2 : base ≤ 16) (hm : 16 ≤ most) (hm2 : most < 18446744073709551616)
    (h : RInv base most l n over) (hc : okD base c = true) :
    RInv base most (l ++ [c]) ((n * base + (valC c.toNat).toNat) % 18446744073709551616) (over || decide ((most - (valC c.toNat).toNat) / base < n)) := by
  obtain ⟨h1, h2, h3, h4⟩ := h
  have hv := valC_bound c.toNat
  refine ⟨by simp [h1, hc], Nat.mod_lt _ (by omega), ?_, ?_⟩
  · intro ho
    simp only [Bool.or_eq_false_iff, decide_eq_false_iff_not] at ho
    obtain ⟨rfl, hlt⟩ := ho
    obtain ⟨h5, h6⟩ := h3 rfl
    rw [numD_snoc, ← h5]
    have hle : n ≤ (most - (valC c.toNat).toNat) / base := by omega
    have := (Nat.le_div_iff_mul_le (by omega)).1 hle
    rw [Nat.mod_eq_of_lt (by omega)]
    exact ⟨rfl, by omega⟩
  · intro ho
    rw [numD_snoc]
    cases over with
    | true =>
      have h5 := h4 rfl
      have := Nat.le_mul_of_pos_right (numD base l) (show 0 < base by omega)
      omega
    | false =>
      simp only [Bool.false_or, decide_eq_true_eq] at ho
      obtain ⟨h5, h6⟩ := h3 rfl
      rw [← h5]
      have := (Nat.div_lt_iff_lt_mul (by omega)).1 ho
      omega

theorem rd_bad {base most : Nat} {l : List UInt8} {k : Nat} (hk : k < l.length) (h : okD base l[k] = false) : rdE base most l = 40 ∧ rdN base most l = 0 := by
  have h1 : l.all (okD base) = false := by
    rw [Bool.eq_false_iff]
    intro h'
    rw [List.all_eq_true] at h'
    have := h' l[k] (List.getElem_mem hk)
    rw [h] at this
    cases this
  have e : rdE base most l = 40 := by unfold rdE; rw [if_pos (Or.inr h1)]
  exact ⟨e, by unfold rdN; rw [e]; rfl⟩
theorem rd_nil (base most : Nat) : rdE base most [] = 40 ∧ rdN base most [] = 0 := by
  have e : rdE base most [] = 40 := by unfold rdE; rw [if_pos (Or.inl rfl)]
  exact ⟨e, by unfold rdN; rw [e]; rfl⟩
theorem rd_end {base most : Nat} {l : List UInt8} {n : Nat} {over : Bool} (hl : l ≠ []) (h : RInv base most l n over) : rdE base most l = (if over = true then 41 else 0) ∧ rdN base most l = (if over = true then 0 else n) := by
  obtain ⟨h1, h2, h3, h4⟩ := h
  cases over with
  | true =>
    have e : rdE base most l = 41 := by unfold rdE; rw [if_neg (by simp [hl, h1]), if_pos (h4 rfl)]
    exact ⟨e, by unfold rdN; rw [e]; rfl⟩
  | false =>
    obtain ⟨h5, h6⟩ := h3 rfl
    have e : rdE base most l = 0 := by unfold rdE; rw [if_neg (by simp [hl, h1]), if_neg (by omega)]
    exact ⟨e, by unfold rdN; rw [e]; simp [h5]⟩
/-- the reference goes out at the first number beyond the greatest -/
theorem rd_over {base most : Nat} {l : List UInt8} {k : Nat} (hb : 1 ≤ base) (h : l.all (okD base) = true) (hl : l ≠ []) (h1 : most < numD base (l.take k)) : rdE base most l = 41 ∧ rdN base most l = 0 := by
  have h2 := numD_mono base hb (l.take k) (l.drop k)
  rw [List.take_append_drop] at h2
  have e : rdE base most l = 41 := by unfold rdE; rw [if_neg (by simp [hl, h]), if_pos (by omega)]
  exact ⟨e, by unfold rdN; rw [e]; rfl⟩
theorem wrap_step (n base : Nat) (v : Int) (h0 : 0 ≤ v) : IntKind.u64.wrap (IntKind.u64.wrap ((n : Int) * (base : Int)) + v) = (((n * base + v.toNat) % 18446744073709551616 : Nat) : Int) := by
  obtain ⟨v, rfl⟩ := Int.eq_ofNat_of_zero_le h0
  have h : ∀ x : Int, IntKind.u64.wrap x = x % 18446744073709551616 := fun x => by simp [IntKind.wrap_u64]
  rw [h, h]
  simp
theorem over_step (n most base : Nat) (v : Int) (h0 : 0 ≤ v) (h1 : v ≤ most) : decide (((most : Int) - v) / (base : Int) < (n : Int)) = decide ((most - v.toNat) / base < n) := by
  obtain ⟨v, rfl⟩ := Int.eq_ofNat_of_zero_le h0
  have e : ((most : Int) - (v : Int)) / (base : Int) = (((most - v) / base : Nat) : Int) := by
    rw [show ((most : Int) - (v : Int)) = ((most - v : Nat) : Int) by omega]; simp
  rw [e]
  exact decide_eq_decide.2 Int.ofNat_lt
theorem ret_rd {a b c d : Int} (h : a = c) (h' : b = d) : Ending.returned (.tuple #[.int .u64 a, .int .i64 b]) = .returned (.tuple #[.int .u64 c, .int .i64 d]) := by rw [h, h']

set_option maxHeartbeats 800000 in
theorem read_any (s : ByteArray) (base most : Nat) (w : World) (hs : s.size ≤ 9223372036854775807) (hb : 2 ≤ base) (hb2 : base ≤ 16) (hm : 16 ≤ most) (hm2 : most < 18446744073709551616) :
    Calls Tryd.prog 53 #[.string s, .int .i64 base, .int .u64 most] w fun e w' =>
      e = .returned (.tuple #[.int .u64 (rdN base most s.data.toList : Nat), .int .i64 (rdE base most s.data.toList)]) ∧ w' = w := by
  by_cases h0 : s.toList = []
  · have hs0 : s.data.toList = [] := by rw [← ByteArray.toList_eq]; exact h0
    have hr := Lib.hid (rd_nil base most)
    rw [← hs0] at hr
    have h0' : s.toList.isEmpty = true := by rw [h0]; rfl
    clear hs0
    go_enter Tryd.func53, Tryd.ntmps53
    go_wp2
    go_ret2
    exact ⟨ret_rd (by rw [hr.out.2]; rfl) hr.out.1.symm, rfl⟩
  · have hl : Hid (s.data.toList ≠ []) := by rw [← ByteArray.toList_eq]; exact Lib.hid h0
    have h0' : s.toList.isEmpty = false := by simpa using h0
    have hlen : s.data.toList.length = s.size := by rw [Array.length_toList]; rfl
    have hlen' := Lib.hid hlen
    clear hlen
    go_enter Tryd.func53, Tryd.ntmps53
    go_wp2
    clear h0 h0'
    go_loop [8, 9, 16] (fun s8 s9 s16 => ∃ (k n : Nat) (over : Bool), k ≤ s.size ∧ s8 = .int .u64 n ∧ s9 = .bool over ∧ s16 = .int .i64 k ∧ Hid (RInv base most (s.data.toList.take k) n over)) (fun _ _ s16 => s.size - (intOf s16).toNat)
    case atStart => exact ⟨0, 0, false, by omega, rfl, rfl, rfl, Lib.hid ⟨by simp, by omega, by simp [numD], by simp⟩⟩
    case round =>
      obtain ⟨k, n, over, hk, rfl, rfl, rfl, hI⟩ := hrel
      have hn : n < 18446744073709551616 := hI.out.2.1
      by_cases hlt : k < s.size
      · have hkl : k < s.data.toList.length := by rw [hlen'.out]; exact hlt
        have hvb := valC_bound (s[k]'hlt).toNat
        by_cases hv : 0 ≤ valC (s[k]'hlt).toNat ∧ valC (s[k]'hlt).toNat < base
        · obtain ⟨hv1, hv2⟩ := hv
          obtain ⟨_, hvb⟩ := hvb
          have hc : okD base (s.data.toList[k]) = true := by
            unfold okD
            simp
            exact ⟨hv1, hv2⟩
          have hS : Hid (RInv base most (s.data.toList.take k ++ [s[k]'hlt]) ((n * base + (valC (s[k]'hlt).toNat).toNat) % 18446744073709551616) (over || decide ((most - (valC (s[k]'hlt).toNat).toNat) / base < n))) := Lib.hid (RInv_step hb hb2 hm hm2 hI.out hc)
          have hT : Hid (s.data.toList.take (k + 1) = s.data.toList.take k ++ [s[k]'hlt]) := Lib.hid (take_succ_get _ _ hkl)
          have hW := Lib.hid (wrap_step n base (valC (s[k]'hlt).toNat) hv1)
          have hO := Lib.hid (over_step n most base (valC (s[k]'hlt).toNat) hv1 (by omega))
          clear hc
          go_wp2_with fail
          refine (value_any _ _ (by exact (s[k]'hlt).toNat_lt)).mono ?_
          rintro e w' ⟨rfl, rfl⟩
          go_wp2
          all_goals
            go_round
            case rel =>
              refine ⟨k + 1, _, _, by omega, by rw [hW.out], rfl, by go_num, ?_⟩
              have := hS.out
              rw [hT.out]
              refine Lib.hid ?_
              first
              | (have ho : over = true := by assumption
                 subst ho
                 exact this)
              | (have ho : ¬ over = true := by assumption
                 have ho' : over = false := by simpa using ho
                 subst ho'
                 rw [hO.out]
                 exact this)
            case measure => simp [intOf]; omega
        · have hb' := Lib.hid (rd_bad (base := base) (most := most) hkl (by unfold okD; simp; intro h; have h' : ¬ valC (s[k]'hlt).toNat < base := fun h2 => hv ⟨h, h2⟩; exact Int.not_lt.1 h'))
          go_wp2_with fail
          refine (value_any _ _ (by exact (s[k]'hlt).toNat_lt)).mono ?_
          rintro e w' ⟨rfl, rfl⟩
          go_wp2
          all_goals
            go_ret2
            exact ⟨ret_rd (by rw [hb'.out.2]; rfl) hb'.out.1.symm, rfl⟩
      · have hk' : k = s.size := by omega
        have he : Hid (rdE base most s.data.toList = (if over = true then 41 else 0) ∧ rdN base most s.data.toList = (if over = true then 0 else n)) := by
          refine Lib.hid (rd_end hl.out ?_)
          have := hI.out
          rwa [List.take_of_length_le (by rw [hlen'.out]; omega)] at this
        clear hk'
        cases over
        · go_wp2
          go_ret2
          exact ⟨ret_rd (by rw [he.out.2]; rfl) (by rw [he.out.1]; rfl), rfl⟩
        · go_wp2
          go_ret2
          exact ⟨ret_rd (by rw [he.out.2]; rfl) (by rw [he.out.1]; rfl), rfl⟩

theorem digit_good (c : Nat) (w : World) (h : c < 256) (hv : 0 ≤ valC c) :
    Calls Tryd.prog 61 #[.int .u8 c] w fun e w' => e = .returned (.int .i64 (valC c)) ∧ w' = w := by
  have e : digR c = valC c := by
    unfold digR
    rw [if_neg (by omega)]
  rw [← e]
  exact digit_any c w h
theorem not_over {n base most : Nat} {v : Int} (hb : 2 ≤ base) (h0 : 0 ≤ v) (h : n * base + v.toNat ≤ most) : (n : Int) ≤ (most : Int) / (base : Int) ∧ (n : Int) * (base : Int) ≤ (most : Int) - v ∧ 0 ≤ (n : Int) * (base : Int) := by
  have h1 : n ≤ most / base := (Nat.le_div_iff_mul_le (by omega)).2 (by omega)
  refine ⟨by exact_mod_cast h1, ?_, by exact_mod_cast Nat.zero_le (n * base)⟩
  have : ((n * base : Nat) : Int) + v ≤ most := by omega
  simp only [Int.natCast_mul] at this
  omega

set_option maxHeartbeats 1600000 in
theorem digits_any (s : ByteArray) (base most : Nat) (w : World) (hs : s.size ≤ 9223372036854775807) (hb : 2 ≤ base) (hb2 : base ≤ 16) (hm : 16 ≤ most) (hm2 : most < 18446744073709551616) :
    Calls Tryd.prog 55 #[.string s, .int .i64 base, .int .u64 most] w fun e w' =>
      e = .returned (.tuple #[.int .u64 (rdN base most s.data.toList : Nat), .int .i64 (rdE base most s.data.toList)]) ∧ w' = w := by
  have hlen : s.data.toList.length = s.size := by rw [Array.length_toList]; rfl
  have hlen' := Lib.hid hlen
  by_cases h0 : s.size = 0
  · have hs0 : s.data.toList = [] := List.eq_nil_of_length_eq_zero (by omega)
    have hr := Lib.hid (rd_nil base most)
    rw [← hs0] at hr
    clear hs0 hlen
    go_enter Tryd.func55, Tryd.ntmps55
    go_wp2
    go_ret2
    exact ⟨ret_rd (by rw [hr.out.2]; rfl) hr.out.1.symm, rfl⟩
  · have hl : Hid (s.data.toList ≠ []) := by
      refine Lib.hid ?_
      intro h
      rw [h] at hlen
      exact h0 hlen.symm
    clear hlen
    have hz : ((s.size : Int) == 0) = false := by rw [beq_eq_false_iff_ne]; omega
    go_enter Tryd.func55, Tryd.ntmps55
    go_wp2
    go_loop [8] (fun s8 => ∃ k : Nat, k ≤ s.size ∧ s8 = .int .i64 k ∧ Hid ((s.data.toList.take k).all (okD base) = true)) (fun s8 => s.size - (intOf s8).toNat)
    case atStart => exact ⟨0, by omega, rfl, Lib.hid (by simp)⟩
    case round =>
      obtain ⟨k, hk, rfl, hI⟩ := hrel
      by_cases hlt : k < s.size
      · have hkl : k < s.data.toList.length := by rw [hlen'.out]; exact hlt
        have hvb := valC_bound (s[k]'hlt).toNat
        by_cases hv : 0 ≤ valC (s[k]'hlt).toNat ∧ valC (s[k]'hlt).toNat < base
        · obtain ⟨hv1, hv2⟩ := hv
          have hdg : digR (s[k]'hlt).toNat < (base : Int) := by
            unfold digR
            rw [if_neg (by omega)]
            exact hv2
          have hS : Hid ((s.data.toList.take (k + 1)).all (okD base) = true) := by
            refine Lib.hid ?_
            rw [take_succ_get _ _ hkl, List.all_append, hI.out]
            simp [okD]
            exact ⟨hv1, hv2⟩
          clear hv1 hv2 hvb
          go_wp2_with fail
          refine (digit_any _ _ (by exact (s[k]'hlt).toNat_lt)).mono ?_
          rintro e w' ⟨rfl, rfl⟩
          go_wp2
          all_goals
            go_round
            case rel => exact ⟨k + 1, by omega, by go_num, hS⟩
            case measure => simp [intOf]; omega
        · have hb' := Lib.hid (rd_bad (base := base) (most := most) hkl (by unfold okD; simp; intro h; have h' : ¬ valC (s[k]'hlt).toNat < base := fun h2 => hv ⟨h, h2⟩; exact Int.not_lt.1 h'))
          have hdg : (base : Int) ≤ digR (s[k]'hlt).toNat := by
            unfold digR
            split <;> omega
          clear hv hvb
          go_wp2_with fail
          refine (digit_any _ _ (by exact (s[k]'hlt).toNat_lt)).mono ?_
          rintro e w' ⟨rfl, rfl⟩
          go_wp2
          all_goals
            go_ret2
            exact ⟨ret_rd (by rw [hb'.out.2]; rfl) hb'.out.1.symm, rfl⟩
      · have hk' : k = s.size := by omega
        have hall : Hid (s.data.toList.all (okD base) = true) := by
          have := hI.out
          rw [List.take_of_length_le (by rw [hlen'.out]; omega)] at this
          exact Lib.hid this
        clear hk' hI
        go_wp2
        go_loop [9, 10] (fun s9 s10 => ∃ (k n : Nat), k ≤ s.size ∧ s9 = .int .u64 n ∧ s10 = .int .i64 k ∧ Hid (RInv base most (s.data.toList.take k) n false)) (fun _ s10 => s.size - (intOf s10).toNat)
        case atStart => exact ⟨0, 0, by omega, rfl, rfl, Lib.hid ⟨by simp, by omega, by simp [numD], by simp⟩⟩
        case round =>
          obtain ⟨k, n, hk, rfl, rfl, hI⟩ := hrel
          have hn : n < 18446744073709551616 := hI.out.2.1
          by_cases hlt : k < s.size
          · have hkl : k < s.data.toList.length := by rw [hlen'.out]; exact hlt
            have hc : okD base (s.data.toList[k]) = true := by
              have := hall.out
              rw [List.all_eq_true] at this
              exact this _ (List.getElem_mem hkl)
            have hv : 0 ≤ valC (s[k]'hlt).toNat ∧ valC (s[k]'hlt).toNat < base := by
              unfold okD at hc
              simp at hc
              exact hc
            have hvb := valC_bound (s[k]'hlt).toNat
            obtain ⟨hv1, hv2⟩ := hv
            obtain ⟨_, hvb⟩ := hvb
            have hS : Hid (RInv base most (s.data.toList.take k ++ [s[k]'hlt]) ((n * base + (valC (s[k]'hlt).toNat).toNat) % 18446744073709551616) (false || decide ((most - (valC (s[k]'hlt).toNat).toNat) / base < n))) := Lib.hid (RInv_step hb hb2 hm hm2 hI.out hc)
            have hT : Hid (s.data.toList.take (k + 1) = s.data.toList.take k ++ [s[k]'hlt]) := Lib.hid (take_succ_get _ _ hkl)
            clear hc
            have hq0 : 0 ≤ (most : Int) / (base : Int) := Int.ediv_nonneg (by omega) (by omega)
            have hq1 : (most : Int) / (base : Int) ≤ most := Int.ediv_le_self _ (by omega)
            by_cases hov : n * base + (valC (s[k]'hlt).toNat).toNat ≤ most
            · obtain ⟨ho1, ho2, ho3⟩ := not_over hb hv1 hov
              have hmod : Hid ((n * base + (valC (s[k]'hlt).toNat).toNat) % 18446744073709551616 = n * base + (valC (s[k]'hlt).toNat).toNat) := Lib.hid (Nat.mod_eq_of_lt (by omega))
              have hdec : Hid (decide ((most - (valC (s[k]'hlt).toNat).toNat) / base < n) = false) := by
                refine Lib.hid (decide_eq_false ?_)
                have := (Nat.le_div_iff_mul_le (show 0 < base by omega)).2 (show n * base ≤ most - (valC (s[k]'hlt).toNat).toNat by omega)
                omega
              have hcast : Hid ((n : Int) * (base : Int) + valC (s[k]'hlt).toNat = ((n * base + (valC (s[k]'hlt).toNat).toNat : Nat) : Int)) := by
                refine Lib.hid ?_
                rw [Int.natCast_add, Int.natCast_mul]
                omega
              clear hov
              go_wp2_with fail
              refine (digit_good _ _ (by exact (s[k]'hlt).toNat_lt) hv1).mono ?_
              rintro e w' ⟨rfl, rfl⟩
              go_wp2
              go_round
              case rel =>
                refine ⟨k + 1, n * base + (valC (s[k]'hlt).toNat).toNat, by omega, by rw [← hcast.out], by go_num, ?_⟩
                have := hS.out
                rw [hmod.out, hdec.out] at this
                rw [hT.out]
                exact Lib.hid this
              case measure => simp [intOf]; omega
            · have hbig : Hid (rdE base most s.data.toList = 41 ∧ rdN base most s.data.toList = 0) := by
                refine Lib.hid (rd_over (k := k + 1) (by omega) hall.out hl.out ?_)
                rw [hT.out, numD_snoc, ← (hI.out.2.2.1 rfl).1]
                exact Nat.not_le.1 hov
              have hge : (most : Int) / (base : Int) < n ∨ (most : Int) - valC (s[k]'hlt).toNat < (n : Int) * (base : Int) := by
                by_cases h1 : (most : Int) / (base : Int) < n
                · exact .inl h1
                · refine .inr ?_
                  have : (most : Int) < ((n * base : Nat) : Int) + valC (s[k]'hlt).toNat := by omega
                  rw [Int.natCast_mul] at this
                  omega
              have hnb : Hid ((n : Int) ≤ (most : Int) / (base : Int) → (n : Int) * (base : Int) ≤ most) := by
                refine Lib.hid fun h => ?_
                have h2 : n ≤ most / base := by exact_mod_cast h
                have h3 := (Nat.le_div_iff_mul_le (show 0 < base by omega)).1 h2
                exact_mod_cast h3
              have hnb0 : 0 ≤ (n : Int) * (base : Int) := by exact_mod_cast Nat.zero_le (n * base)
              clear hov
              by_cases h1 : (most : Int) / (base : Int) < n
              · clear hge
                go_wp2_with fail
                refine (digit_good _ _ (by exact (s[k]'hlt).toNat_lt) hv1).mono ?_
                rintro e w' ⟨rfl, rfl⟩
                go_wp2
                go_ret2
                exact ⟨ret_rd (by rw [hbig.out.2]; rfl) hbig.out.1.symm, rfl⟩
              · have h2 : (most : Int) - valC (s[k]'hlt).toNat < (n : Int) * (base : Int) := by omega
                have h3 := hnb.out (by omega)
                clear hge
                go_wp2_with fail
                refine (digit_good _ _ (by exact (s[k]'hlt).toNat_lt) hv1).mono ?_
                rintro e w' ⟨rfl, rfl⟩
                go_wp2
                go_ret2
                exact ⟨ret_rd (by rw [hbig.out.2]; rfl) hbig.out.1.symm, rfl⟩
          · have hk' : k = s.size := by omega
            have he := rd_end hl.out (by have := hI.out; rwa [List.take_of_length_le (by rw [hlen'.out]; omega)] at this)
            have he' := Lib.hid he
            clear he hk'
            go_wp2
            go_ret2
            exact ⟨ret_rd (by rw [he'.out.2]; rfl) (by rw [he'.out.1]; rfl), rfl⟩
end Go.Proofs.YtlinllnlokikpaaDoor
