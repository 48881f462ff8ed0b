/- Base writes a number of 64 bits in the digits of its base, at every number and base: no conditions but that the number is one. -/
import Derived.Test.YtlinllnlokikpaaDoorProg
import Derived.Below
import Derived.OwnWalk
import Derived.Laws.BytesArg
import Derived.Tactics
import Derived.Lib.ConvBytes
import Derived.WalkKit
import Derived.KernelRfl
import Derived.RowKit3
import Derived.Deep.LoopGhost
import Derived.Deep.QuietTactic
import Derived.BigQuiet
import Derived.WideLaws
import Derived.Deep.DeepCutAuto
import Derived.Laws.Rows
import Derived.Lib.AppendStr
import Derived.Lib.Hide
import Derived.WalkSpells
import Derived.Outline
set_option linter.unusedVariables false
set_option linter.unusedSimpArgs false
namespace Go.Proofs.YtlinllnlokikpaaDoor
open Go.RowKit



def chr (d : Nat) : Int := if d < 10 then (48 + d : Nat) else (87 + d : Nat)
def digs (b n : Nat) : List Int :=
  if n < b ∨ b < 2 then [chr (n % b)] else digs b (n / b) ++ [chr (n % b)]
termination_by n
decreasing_by exact Nat.div_lt_self (by omega) (by omega)

def DInv (b n m : Nat) (first : Bool) (l : List Int) : Prop :=
  (first = true ∧ m = n ∧ l = []) ∨ (first = false ∧ l ≠ [] ∧ ((0 < m ∧ digs b n = digs b m ++ l) ∨ (m = 0 ∧ digs b n = l)))

theorem DInv_step {b n m : Nat} {first : Bool} {l : List Int} (hb : 2 ≤ b) (h : DInv b n m first l) (hg : first = true ∨ 0 < m) :
    DInv b n (m / b) false (chr (m % b) :: l) := by
  have key : ∀ q l, digs b n = digs b q ++ l → (0 < q / b ∧ digs b n = digs b (q / b) ++ (chr (q % b) :: l)) ∨ (q / b = 0 ∧ digs b n = chr (q % b) :: l) := by
    intro q l hq
    rw [digs.eq_1 b q] at hq
    by_cases hlt : q < b
    · rw [if_pos (Or.inl hlt)] at hq
      exact .inr ⟨Nat.div_eq_of_lt hlt, by simpa using hq⟩
    · rw [if_neg (by omega)] at hq
      exact .inl ⟨Nat.div_pos (by omega) (by omega), by simpa using hq⟩
  refine .inr ⟨rfl, by simp, ?_⟩
  rcases h with ⟨_, rfl, rfl⟩ | ⟨rfl, _, h⟩
  · exact key m [] (by simp)
  · rcases h with ⟨hm, h⟩ | ⟨rfl, h⟩
    · exact key m l h
    · rcases hg with hg | hg
      · cases hg
      · omega

def DArr (A : Array Value) (l : List Int) : Prop := A.size = 64 ∧ ∀ j, j < l.length → A[64 - l.length + j]? = some (.int .u8 (l.getD j 0))

theorem DArr_nil (A : Array Value) (h : A.size = 64) : DArr A [] := ⟨h, fun j hj => absurd hj (by simp)⟩
theorem DArr_step {A : Array Value} {l : List Int} (c : Int) (h : DArr A l) (hl : l.length < 64) :
    DArr (A.setIfInBounds (64 - l.length - 1) (.int .u8 c)) (c :: l) := by
  refine ⟨by simpa using h.1, fun j hj => ?_⟩
  rw [Array.getElem?_setIfInBounds]
  simp only [List.length_cons] at hj ⊢
  by_cases h0 : j = 0
  · subst h0
    rw [if_pos (by omega), if_pos (by rw [h.1]; omega)]; simp
  · rw [if_neg (by omega)]
    have := h.2 (j - 1) (by omega)
    rw [show 64 - (l.length + 1) + j = 64 - l.length + (j - 1) by omega, this]
    obtain ⟨i, rfl⟩ : ∃ i, j = i + 1 := ⟨j - 1, by omega⟩
    simp

theorem chr_at (d : Nat) (h : d < 16) (h' : d < (⟨#[48, 49, 50, 51, 52, 53, 54, 55, 56, 57, 97, 98, 99, 100, 101, 102]⟩ : ByteArray).size) :
    (((⟨#[48, 49, 50, 51, 52, 53, 54, 55, 56, 57, 97, 98, 99, 100, 101, 102]⟩ : ByteArray)[d]'h').toNat : Int) = chr d := by
  have : ∀ d : Fin 16, (((⟨#[48, 49, 50, 51, 52, 53, 54, 55, 56, 57, 97, 98, 99, 100, 101, 102]⟩ : ByteArray)[d.val]'(by exact d.isLt)).toNat : Int) = chr d.val := by decide
  exact this ⟨d, h⟩


theorem cell_of_blk {w : World} {g : Nat} {A : Array Value} {t : TypeId} {i : Nat} {v : Value} (h : w.heap[g]? = some (.cells A t (0, 0))) (hv : A[i]? = some v) : w.cell? ⟨g, i, none⟩ = some v := by
  simp [World.cell?, h, hv]
theorem frozen_of_blk {w : World} {g : Nat} {A : Array Value} {t : TypeId} (i : Nat) (h : w.heap[g]? = some (.cells A t (0, 0))) : w.frozen? ⟨g, i, none⟩ = false := by
  simp [World.frozen?, h]
theorem blk_setCell {w : World} {g : Nat} {A : Array Value} {t : TypeId} (i : Nat) (v : Value) (h : w.heap[g]? = some (.cells A t (0, 0))) : (w.setCell ⟨g, i, none⟩ v).heap[g]? = some (.cells (A.setIfInBounds i v) t (0, 0)) := by
  simp only [World.setCell]
  rw [Array.getElem?_modify]
  simp [h]

theorem ret_str {a b : ByteArray} (h : a = b) : Ending.returned (.string a) = .returned (.string b) := by rw [h]

def baseS (b n : Nat) : ByteArray := if b < 2 ∨ 16 < b then ⟨#[]⟩ else strOfNums (digs b n)

theorem slice_b (w : World) (g k : Nat) (hk : k < 64) :
    (Instr.sliceAt 87 (.pointer (some ⟨g, 0, none⟩)) (some (.int .i64 (k : Nat))) none none).run Tryd.prog w = .ok (.slice (some ⟨g, k, none⟩) (64 - k) (64 - k)) w := by
  have ha : Tryd.prog.arrayLen 87 = 64 := by kernel_rfl
  have hs : (sizeOf (Tryd.prog.elem 87)).run Tryd.prog w = .ok 1 w := by kernel_rfl
  rw [run_sliceAt_array_l w 87 _ (by kernel_rfl) .i64 _ (by omega) (by rw [ha]; omega), hs, ha]
  simp only [Result.andThen_ok, slicedAt, Int.toNat_natCast]
  rw [if_neg (by omega)]
  unfold Addr.add
  by_cases h : k = 0 <;> simp [h]

theorem pow_room {m k n : Nat} (hm : 0 < m) (h : m * 2 ^ k ≤ n) (hn : n < 18446744073709551616) : k < 64 := by
  rcases Nat.lt_or_ge k 64 with h' | h'
  · exact h'
  · have : 2 ^ 64 ≤ 2 ^ k := Nat.pow_le_pow_right (by omega) h'
    have : 2 ^ k ≤ m * 2 ^ k := Nat.le_mul_of_pos_left _ hm
    omega
theorem div_pow {m b k n : Nat} (hb : 2 ≤ b) (h : m * 2 ^ k ≤ n) : m / b * 2 ^ (k + 1) ≤ n := by
  have h1 : m / b * b ≤ m := Nat.div_mul_le_self m b
  have h2 : m / b * 2 ≤ m / b * b := Nat.mul_le_mul_left _ hb
  have h3 : m / b * 2 * 2 ^ k ≤ m * 2 ^ k := Nat.mul_le_mul_right _ (by omega)
  rw [Nat.pow_succ, Nat.mul_comm (2 ^ k) 2, ← Nat.mul_assoc]
  omega
theorem u64_wrap_nat (m b : Nat) (h : m < 18446744073709551616) : IntKind.u64.wrap ((m : Int) / (b : Int)) = ((m / b : Nat) : Int) := by
  have : m / b ≤ m := Nat.div_le_self m b
  have e : (m : Int) / (b : Int) = ((m / b : Nat) : Int) := by simp
  rw [e]
  exact IntWalk.u64_in _ ⟨by exact Int.natCast_nonneg _, by omega⟩

set_option maxHeartbeats 400000 in
theorem base_any (n : Nat) (b : Int) (w : World) (h1 : n < 18446744073709551616) :
    Calls Tryd.prog 43 #[.int .u64 n, .int .i64 b] w fun e w' => e = .returned (.string (baseS b.toNat n)) ∧ Below w.heap.size w w' := by
  by_cases hb : b < 2 ∨ b > 16
  · have HE : Hid (baseS b.toNat n = ⟨#[]⟩) := by
      refine Lib.hid ?_
      unfold baseS
      rw [if_pos (by omega)]
    go_enter Tryd.func43, Tryd.ntmps43
    by_cases hb2 : b < 2
    · go_wp2
      go_ret
      exact ⟨ret_str HE.out.symm, Below.refl _ _⟩
    · have : 16 < b := by omega
      go_wp2
      go_ret
      exact ⟨ret_str HE.out.symm, Below.refl _ _⟩
  · obtain ⟨b, rfl⟩ : ∃ c : Nat, b = c := ⟨b.toNat, by omega⟩
    have hb1 : (2 : Int) ≤ b := by omega
    have hb2 : (b : Int) ≤ 16 := by omega
    have HE : Hid (baseS (b : Int).toNat n = strOfNums (digs b n)) := by
      refine Lib.hid ?_
      unfold baseS
      rw [if_neg (by omega)]
      simp
    clear hb
    go_enter Tryd.func43, Tryd.ntmps43
    go_wp2
    go_loopw [0, 6, 7] (fun s0 s6 s7 wr => ∃ (m : Nat) (first : Bool) (l : List Int) (A : Array Value), s0 = .int .u64 m ∧ s6 = .int .i64 (64 - l.length : Nat) ∧ s7 = .bool first ∧ l.length ≤ 64 ∧ m * 2 ^ l.length ≤ n ∧ Hid (DInv b n m first l) ∧
       Hid (DArr A l) ∧ Hid (wr.heap[w.heap.size]? = some (.cells A 87 (0, 0))) ∧ Below w.heap.size w wr)
      (fun s0 s6 s7 _ => (intOf s0).toNat * 2 + (match s7 with | .bool true => 1 | _ => 0))
    case atStart => exact ⟨n, true, [], _, rfl, rfl, rfl, by simp, by simp, Lib.hid (.inl ⟨rfl, rfl, rfl⟩), Lib.hid (DArr_nil _ rfl), Lib.hid (heap_alloc_new _ _), (Below.refl _ _).alloc (Nat.le_refl _) _⟩
    case round =>
      obtain ⟨m, first, l, A, rfl, rfl, rfl, hl64, hm, hD, hA, hblk, hB⟩ := hrel
      have hmn : m ≤ n := Nat.le_trans (Nat.le_mul_of_pos_right _ (Nat.pow_pos (by omega))) hm
      by_cases hgo : first = true ∨ 0 < m
      · have hl : l.length < 64 := by
          rcases hD.out with ⟨_, _, rfl⟩ | ⟨_, _, h⟩
          · simp
          · rcases h with ⟨hm0, _⟩ | ⟨rfl, _⟩
            · exact pow_room hm0 hm h1
            · rcases hgo with hgo | hgo
              · simp_all
              · omega
        have hD' : Hid (DInv b n (m / b) false (chr (m % b) :: l)) := Lib.hid (DInv_step (by omega) hD.out hgo)
        have hA' : Hid (DArr (A.setIfInBounds (64 - l.length - 1) (.int .u8 (chr (m % b)))) (chr (m % b) :: l)) := Lib.hid (DArr_step _ hA.out hl)
        have hm' : Hid (m / b * 2 ^ (l.length + 1) ≤ n) := Lib.hid (div_pow (by omega) hm)
        have hw' : Hid (IntKind.u64.wrap ((m : Int) / (b : Int)) = ((m / b : Nat) : Int)) := Lib.hid (u64_wrap_nat m b (by omega))
        have hblk' : Hid ((wr.setCell ⟨w.heap.size, 64 - l.length - 1, none⟩ (.int .u8 (chr (m % b)))).heap[w.heap.size]? = some (.cells (A.setIfInBounds (64 - l.length - 1) (.int .u8 (chr (m % b)))) 87 (0, 0))) := Lib.hid (blk_setCell _ _ hblk.out)
        have hc1 : ∃ v, wr.cell? ⟨w.heap.size, 64 - l.length - 1, none⟩ = some v := by
          have : 64 - l.length - 1 < A.size := by rw [hA.out.1]; omega
          exact ⟨_, cell_of_blk hblk.out (Array.getElem?_eq_getElem this)⟩
        obtain ⟨v, hc1⟩ := hc1
        have hf1 : wr.frozen? ⟨w.heap.size, 64 - l.length - 1, none⟩ = false := frozen_of_blk _ hblk.out
        have hmb0 : 0 ≤ ((m : Int) % (b : Int)) := Int.emod_nonneg _ (by omega)
        have hmb : ((m : Int) % (b : Int)) < 16 := by
          have := Int.emod_lt_of_pos (m : Int) (show (0 : Int) < b by omega); omega
        have hx : m % b < 16 := by have := Nat.mod_lt m (show b > 0 by omega); omega
        have hch := Lib.hid (chr_at (m % b) hx)
        have hmeas : Hid (m / b * 2 < m * 2 + (match Value.bool first with | .bool true => 1 | _ => 0)) := by
          refine Lib.hid ?_
          rcases Nat.eq_zero_or_pos m with h0 | h0
          · subst h0
            have : first = true := by simpa using hgo
            subst this; simp
          · have := Nat.div_lt_self h0 (show 1 < b by omega)
            omega
        clear hx
        cases first
        all_goals
          first | (have hm0 : 0 < m := by simpa using hgo) | skip
          go_wp2
          go_roundw
          case rel =>
            refine ⟨m / b, false, chr (m % b) :: l, _, by rw [hw'.out], by simp; omega, rfl, by simp; omega, by simpa using hm'.out, hD', hA', ?_, ?_⟩
            · rw [hch.out]; exact hblk'
            · exact hB.setCell (Nat.le_refl _) _
          case measure =>
            rw [hw'.out]
            simp only [intOf, Int.toNat_natCast]
            have := hmeas.out
            simp at this ⊢
            omega
      · have hm0 : m = 0 := by omega
        have hfirst : first = false := by simpa using fun h => hgo (Or.inl h)
        subst hfirst
        subst hm0
        have hdl : Hid (digs b n = l ∧ l ≠ []) := by
          refine Lib.hid ?_
          rcases hD.out with ⟨h, _⟩ | ⟨_, h2, ⟨h3, _⟩ | ⟨_, h3⟩⟩
          · cases h
          · omega
          · exact ⟨h3, h2⟩
        have hlp : 0 < l.length := List.length_pos_iff.2 hdl.out.2
        have hlen : 64 - (64 - l.length) = l.length := by omega
        have ks := slice_b wr w.heap.size (64 - l.length) (by omega)
        rw [hlen] at ks
        have hlen' := Lib.hid hlen
        clear hlen
        have kc := run_convert_bytes_arg (P := Tryd.prog) wr 39 5 Tryd.underlying39 Tryd.underlying5 w.heap.size (64 - l.length) l.length l.length l rfl (fun i hi => cell_of_blk hblk.out (hA.out.2 i hi)) 9 Tryd.underlying9
        go_wp2
        go_ret
        exact ⟨ret_str (by rw [HE.out, hdl.out.1]), hB⟩
end Go.Proofs.YtlinllnlokikpaaDoor
