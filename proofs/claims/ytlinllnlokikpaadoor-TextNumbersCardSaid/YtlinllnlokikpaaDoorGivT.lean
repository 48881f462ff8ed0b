/- Contracts of functions that the print does not take, in the print's own form: numbers, and the library's texts. -/
import Derived.Test.YtlinllnlokikpaaDoorNumT
import Derived.Test.YtlinllnlokikpaaDoorCut
import Derived.Test.YtlinllnlokikpaaDoorWWords
import Derived.Test.YtlinllnlokikpaaDoorMem
namespace Go.Proofs.YtlinllnlokikpaaDoor
open Go.RowKit Go.Proofs.YtlinllnlokikpaaDoorW.PrintWords

def strings_IndexByte.f (a0 : ByteArray) (a1 : Int) : Option Int := some (Lib.indexByte a0.data.toList a1.toNat.toUInt8)
theorem strings_IndexByte.calls (a0 : ByteArray) (a1 : Int) (r : Int) (w : World) (h : strings_IndexByte.f a0 a1 = some r) :
    Calls Tryd.prog 25 #[.string a0, .int .u8 a1] w fun e w' => e = .returned (.int .i64 r) ∧ Drawn0 w w' := by
  cases h
  refine (Tryd.strings_IndexByte a0 a1 w).mono ?_
  rintro e w' ⟨rfl, rfl⟩
  exact ⟨rfl, Drawn0.refl _⟩
def num_Decimal.f (a0 : ByteArray) : Option (Int × Int) := if a0.size ≤ 9223372036854775807 then some (decD a0.data.toList) else none
theorem num_Decimal.calls (a0 : ByteArray) (r1 r2 : Int) (w : World) (h : num_Decimal.f a0 = some (r1, r2)) :
    Calls Tryd.prog 42 #[.string a0] w fun e w' => e = .returned (.tuple #[.int .i64 r1, .int .i64 r2]) ∧ Drawn0 w w' := by
  unfold num_Decimal.f at h
  split at h
  · rename_i hs
    have h := Option.some.inj h
    refine (decimal_any a0 w hs).mono ?_
    rw [h]
    rintro e w' ⟨rfl, rfl⟩
    exact ⟨rfl, Drawn0.refl _⟩
  · cases h
def rehearsalref01_Decimal.f (a0 : ByteArray) : Option (Int × Int) := if a0.size ≤ 9223372036854775807 then some (decD a0.data.toList) else none
theorem rehearsalref01_Decimal.calls (a0 : ByteArray) (r1 r2 : Int) (w : World) (h : rehearsalref01_Decimal.f a0 = some (r1, r2)) :
    Calls Tryd.prog 46 #[.string a0] w fun e w' => e = .returned (.tuple #[.int .i64 r1, .int .i64 r2]) ∧ Drawn0 w w' := by
  unfold rehearsalref01_Decimal.f at h
  split at h
  · rename_i hs
    have h := Option.some.inj h
    refine (rdecimal_any a0 w hs).mono ?_
    rw [h]
    rintro e w' ⟨rfl, rfl⟩
    exact ⟨rfl, Drawn0.refl _⟩
  · cases h
def num_Text.f (a0 : Int) : Option ByteArray := if -9223372036854775808 ≤ a0 ∧ a0 ≤ 9223372036854775807 then some (textS a0) else none
theorem num_Text.calls (a0 : Int) (r : ByteArray) (w : World) (h : num_Text.f a0 = some r) :
    Calls Tryd.prog 44 #[.int .i64 a0] w fun e w' => e = .returned (.string r) ∧ Below w.heap.size w w' := by
  unfold num_Text.f at h
  split at h
  · rename_i hs
    cases h
    exact text_any a0 w hs.1 hs.2
  · cases h
def rehearsalref01_Text.f (a0 : Int) : Option ByteArray := if -9223372036854775808 ≤ a0 ∧ a0 ≤ 9223372036854775807 then some (textS a0) else none
theorem rehearsalref01_Text.calls (a0 : Int) (r : ByteArray) (w : World) (h : rehearsalref01_Text.f a0 = some r) :
    Calls Tryd.prog 13 #[.int .i64 a0] w fun e w' => e = .returned (.string r) ∧ Below w.heap.size w w' := by
  unfold rehearsalref01_Text.f at h
  split at h
  · rename_i hs
    cases h
    exact rtext_any a0 w hs.1 hs.2
  · cases h
def num_Base.f (a0 a1 : Int) : Option ByteArray := if 0 ≤ a0 ∧ a0 < 18446744073709551616 then some (baseS a1.toNat a0.toNat) else none
theorem num_Base.calls (a0 a1 : Int) (r : ByteArray) (w : World) (h : num_Base.f a0 a1 = some r) :
    Calls Tryd.prog 43 #[.int .u64 a0, .int .i64 a1] w fun e w' => e = .returned (.string r) ∧ Below w.heap.size w w' := by
  unfold num_Base.f at h
  split at h
  · rename_i hs
    cases h
    obtain ⟨n, rfl⟩ := Int.eq_ofNat_of_zero_le hs.1
    exact base_any n a1 w (by omega)
  · cases h
def rehearsalref01_Base.f (a0 a1 : Int) : Option ByteArray := if 0 ≤ a0 ∧ a0 < 18446744073709551616 then some (baseS a1.toNat a0.toNat) else none
theorem rehearsalref01_Base.calls (a0 a1 : Int) (r : ByteArray) (w : World) (h : rehearsalref01_Base.f a0 a1 = some r) :
    Calls Tryd.prog 15 #[.int .u64 a0, .int .i64 a1] w fun e w' => e = .returned (.string r) ∧ Below w.heap.size w w' := by
  unfold rehearsalref01_Base.f at h
  split at h
  · rename_i hs
    cases h
    obtain ⟨n, rfl⟩ := Int.eq_ofNat_of_zero_le hs.1
    exact rbase_any n a1 w (by omega)
  · cases h
def strings_HasPrefix.f (a0 a1 : ByteArray) : Option Bool := some (Lib.hasPrefix a0.data.toList a1.data.toList)
theorem strings_HasPrefix.calls (a0 a1 : ByteArray) (r : Bool) (w : World) (h : strings_HasPrefix.f a0 a1 = some r) :
    Calls Tryd.prog 39 #[.string a0, .string a1] w fun e w' => e = .returned (.bool r) ∧ Drawn0 w w' := by
  cases h
  refine (Tryd.strings_HasPrefix a0 a1 w).mono ?_
  rintro e w' ⟨rfl, rfl⟩
  exact ⟨rfl, Drawn0.refl _⟩
def strings_Repeat.f (a0 : ByteArray) (a1 : Int) : Option ByteArray := if 0 ≤ a1 ∧ a1 ≤ 1000000 ∧ a0.size ≤ 1000000 then some (asB (Lib.repeatL a0.data.toList a1.toNat)) else none
theorem strings_Repeat.calls (a0 : ByteArray) (a1 : Int) (r : ByteArray) (w : World) (h : strings_Repeat.f a0 a1 = some r) :
    Calls Tryd.prog 54 #[.string a0, .int .i64 a1] w fun e w' => e = .returned (.string r) ∧ Below w.heap.size w w' := by
  unfold strings_Repeat.f at h
  split at h
  · rename_i hs
    cases h
    obtain ⟨h1, h2, h3⟩ := hs
    obtain ⟨n, rfl⟩ := Int.eq_ofNat_of_zero_le h1
    exact Tryd.strings_Repeat a0 n w (by omega) (Nat.le_trans (Nat.mul_le_mul h3 (show n ≤ 1000000 by omega)) (by decide))
  · cases h
def strings_Join.f (l0 : List ByteArray) (a1 : ByteArray) : Option ByteArray :=
  if l0.length ≤ 140737488355328 ∧ (Lib.join (l0.map (·.data.toList)) a1.data.toList).length ≤ 140737488355328 then some (asB (Lib.join (l0.map (·.data.toList)) a1.data.toList)) else none
theorem strings_Join.calls (A0 : Option Addr) (c0 : Nat) (l0 : List ByteArray) (a1 : ByteArray) (r : ByteArray) (w : World) (hr0 : Kd.C Kd.string w A0 l0.length l0) (hc0 : l0.length ≤ c0) (h : strings_Join.f l0 a1 = some r) :
    Calls Tryd.prog 16 #[.slice A0 l0.length c0, .string a1] w fun e w' => e = .returned (.string r) ∧ Below w.heap.size w w' := by
  unfold strings_Join.f at h
  split at h
  · rename_i hs
    cases h
    by_cases h0 : l0 = []
    · subst h0
      refine (Tryd.strings_Join_none A0 c0 a1 w).mono ?_
      rintro e w' ⟨rfl, rfl⟩
      exact ⟨rfl, Below.refl _ _⟩
    · have hpos := List.length_pos_iff.2 h0
      obtain ⟨ad, rfl, hcell⟩ := hr0.2.2 hpos
      have hat : ∀ (j : Nat) x, l0[j]? = some x → w.cell? (ad.add j) = some (.string x) := fun j x hx => by
        obtain ⟨c, _, hc, hu⟩ := hcell j x hx
        have hc' : c = [Value.string x] := hc
        have h1 := hu 0 (.string x) (by rw [hc']; rfl)
        rw [show (Kd.string).sz = 1 from rfl, Nat.mul_one, Nat.add_zero] at h1
        exact h1
      obtain ⟨x0, hx0⟩ : ∃ x0, l0[0]? = some x0 := ⟨l0[0], List.getElem?_eq_getElem hpos⟩
      have h00 := hat 0 x0 hx0
      have hsp : ad.spot = none ∧ ad.block < w.heap.size := by
        simp only [Addr.add, if_true, World.cell?] at h00
        split at h00
        · rename_i c t f hb
          cases hsq : ad.spot with
          | none => exact ⟨rfl, (Array.getElem?_eq_some_iff.1 hb).1⟩
          | some z => rw [hsq] at h00; simp at h00
        · cases h00
      obtain ⟨b, o, sp⟩ := ad
      obtain ⟨rfl, hb⟩ := hsp
      refine Tryd.strings_Join b o c0 l0 a1 w (fun j x hx => ?_) hb hs.1 hc0 hs.2
      have := hat j x hx
      unfold Addr.add at this
      split at this
      · rename_i hj; subst hj; exact this
      · exact this
  · cases h
end Go.Proofs.YtlinllnlokikpaaDoor
