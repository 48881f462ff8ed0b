/- text.printer: next, convert, once, and Printf itself. -/
import Derived.Test.YtlinllnlokikpaaDoorPrBuf
import Derived.Test.YtlinllnlokikpaaDoorPrMod
import Derived.Test.YtlinllnlokikpaaDoorGivT
import Derived.Test.YtlinllnlokikpaaDoorPCvx
import Derived.StillTailTactics
import Derived.Deep.RegionHeld3
import Derived.IntWalk
set_option linter.unusedVariables false
set_option linter.unusedSimpArgs false
namespace Go.Proofs.YtlinllnlokikpaaDoor
open Go.RowKit Go.Proofs.YtlinllnlokikpaaDoorW.PrintWords

/-- the arguments that are left, as they are read -/
structure ArgsAt (w : World) (A : Option Addr) (c : Nat) (l : List ByteArray) : Prop where
  reads : Kd.C Kd.string w A l.length l
  cap : l.length ≤ c
theorem ArgsAt.tail {w : World} {A : Option Addr} {c : Nat} {x : ByteArray} {l : List ByteArray} (h : ArgsAt w A c (x :: l)) : ∃ ad, A = some ad ∧ ad.block < w.heap.size ∧ w.cell? ad = some (.string x) ∧ ArgsAt w (some (ad.add 1)) (c - 1) l ∧ (l = [] → ∀ B, ArgsAt w B (c - 1) l) := by
  obtain ⟨ad, rfl, hcell⟩ := h.reads.2.2 (by simp)
  have hat : ∀ (j : Nat) y, (x :: l)[j]? = some y → w.cell? (ad.add j) = some (.string y) := fun j y hy => by
    obtain ⟨c, _, hc, hu⟩ := hcell j y hy
    have hc' : c = [Value.string y] := hc
    have h1 := hu 0 (.string y) (by rw [hc']; rfl)
    rw [show (Kd.string).sz = 1 from rfl, Nat.mul_one, Nat.add_zero] at h1
    exact h1
  have h0 : w.cell? ad = some (.string x) := hat 0 x rfl
  have hb : ad.block < w.heap.size := by
    unfold World.cell? at h0
    split at h0
    · rename_i c t f hb; exact (Array.getElem?_eq_some_iff.1 hb).1
    · cases h0
  have hcap := h.cap
  simp only [List.length_cons] at hcap
  refine ⟨ad, rfl, hb, h0, ⟨⟨rfl, by have := h.reads.2.1; simp only [List.length_cons] at this; omega, fun _ => ⟨_, rfl, fun j y hy => ⟨[.string y], rfl, rfl, fun i u hu => ?_⟩⟩⟩, by omega⟩, fun hl B => ?_⟩
  · have hi : i = 0 := by
      cases i with
      | zero => rfl
      | succ i => simp at hu
    subst hi
    have hu' : u = .string y := by simpa using hu.symm
    subst hu'
    have := hat (j + 1) y (by simpa using hy)
    rw [show (Kd.string).sz = 1 from rfl, Nat.mul_one, Nat.add_zero]
    have e : (ad.add 1).add j = ad.add (j + 1) := by
      unfold Addr.add
      by_cases hj : j = 0
      · subst hj; simp
      · simp [hj, Nat.add_comm, Nat.add_left_comm, Nat.add_assoc]
    rw [e]; exact this
  · subst hl
    exact ⟨⟨rfl, by simp, fun h => by simp at h⟩, by simp⟩

set_option maxHeartbeats 1600000 in
theorem next_any {w W : World} {g : Nat} {ad : Option Addr} {v : Value} {out : List UInt8} {A : Option Addr} {c : Nat} {rem : List ByteArray} {used bad : Bool} (h : PB W w.heap.size g ad v out (.slice A rem.length c) (.bool used) (.bool bad)) (hB : Below w.heap.size w W) (hA : ArgsAt w A c rem) :
    Calls Tryd.prog 41 #[.pointer (some ⟨g, 0, none⟩)] W fun e W' => e = .returned (.string (rem.headD ⟨#[]⟩)) ∧ Below w.heap.size w W' ∧ Frm (fun i => i = g) W W' ∧
      ∃ A' c', PB W' w.heap.size g ad v out (.slice A' rem.tail.length c') (.bool true) (.bool bad) ∧ ArgsAt w A' c' rem.tail := by
  have c2 := cell_blk (i := 2) h.head rfl
  have c3 := cell_blk (i := 3) h.head rfl
  have z3 := frozen_blk 3 h.head
  have z2 := frozen_blk 2 h.head
  have HS3 := Lib.hid (bk_set 3 (.bool true) h.head)
  cases rem with
  | nil =>
    have H := Lib.hid h
    have HA := Lib.hid hA
    have HB := Lib.hid hB
    clear h hA hB
    go_enter Tryd.func41, Tryd.ntmps41
    go_wp2
    go_ret
    refine ⟨rfl, HB.out.setCell (p := ⟨g, 3, none⟩) H.out.bg _, (Frm.refl _ W).setCell ⟨g, 3, none⟩ _ (fun _ => rfl), A, c, H.out.frm ((Frm.refl _ W).setCell ⟨g, 3, none⟩ _ (fun _ => rfl)) HS3.out H.out.had, HA.out⟩
  | cons x l =>
    obtain ⟨a, rfl, hb, hx, ht, ht0⟩ := hA.tail
    have hxW : W.cell? a = some (.string x) := (hB.cell hb).trans hx
    have hag : a.block ≠ g := by have := h.bg; omega
    have hcap := hA.cap
    have H := Lib.hid h
    have HB := Lib.hid hB
    have HT := Lib.hid ht
    have HT0 := Lib.hid ht0
    clear h hA hB ht ht0 hx
    have hx1 : (W.setCell ⟨g, 3, none⟩ (.bool true)).cell? a = some (.string x) := by
      have : (W.setCell ⟨g, 3, none⟩ (.bool true)).heap[a.block]? = W.heap[a.block]? := Below.heap_setCell W ⟨g, 3, none⟩ _ a.block hag
      exact (World.cell?_of_block this).trans hxW
    simp only [List.length_cons] at c2 hcap
    by_cases h1 : c = 1
    · subst h1
      have hl : l = [] := List.length_eq_zero_iff.1 (by omega)
      subst hl
      have HS2 := Lib.hid (bk_set 2 (.slice (some a) 0 0) HS3.out)
      go_enter Tryd.func41, Tryd.ntmps41
      go_wp2
      go_ret
      exact ⟨rfl, (HB.out.setCell (p := ⟨g, 3, none⟩) H.out.bg _).setCell (p := ⟨g, 2, none⟩) H.out.bg _, ((Frm.refl (fun i => i = g) W).setCell ⟨g, 3, none⟩ _ (fun _ => rfl)).setCell ⟨g, 2, none⟩ _ (fun _ => rfl), some a, 0, H.out.frm (((Frm.refl (fun i => i = g) W).setCell ⟨g, 3, none⟩ _ (fun _ => rfl)).setCell ⟨g, 2, none⟩ _ (fun _ => rfl)) HS2.out H.out.had, HT0.out trivial (some a)⟩
    · have HS2 := Lib.hid (bk_set 2 (.slice (some ⟨a.block, a.off + 1, none⟩) l.length (c - 1)) HS3.out)
      go_enter Tryd.func41, Tryd.ntmps41
      go_wp2
      go_ret
      exact ⟨rfl, (HB.out.setCell (p := ⟨g, 3, none⟩) H.out.bg _).setCell (p := ⟨g, 2, none⟩) H.out.bg _, ((Frm.refl (fun i => i = g) W).setCell ⟨g, 3, none⟩ _ (fun _ => rfl)).setCell ⟨g, 2, none⟩ _ (fun _ => rfl), some ⟨a.block, a.off + 1, none⟩, c - 1, H.out.frm (((Frm.refl (fun i => i = g) W).setCell ⟨g, 3, none⟩ _ (fun _ => rfl)).setCell ⟨g, 2, none⟩ _ (fun _ => rfl)) HS2.out H.out.had, HT.out⟩

/-! a conversion: the print's term against the plain one -/
theorem isDig_iff (c : UInt8) : isDig c = true ↔ 48 ≤ (c.toNat : Int) ∧ (c.toNat : Int) ≤ 57 := by
  simp [isDig, UInt8.le_iff_toNat_le]; omega
theorem isVerb_index (c : UInt8) : Lib.indexByte [115, 100, 120, 111, 99, 37] c < 0 ↔ isVerb c = false := by
  have h : ∀ n : Fin 256, decide (Lib.indexByte [115, 100, 120, 111, 99, 37] (UInt8.ofNat n.val) < 0) = !isVerb (UInt8.ofNat n.val) := by decide +kernel
  have h2 := h ⟨c.toNat, c.toNat_lt⟩
  rw [show UInt8.ofNat c.toNat = c from UInt8.ofNat_toNat] at h2
  cases hv : isVerb c <;> rw [hv] at h2 <;> simpa using h2
theorem drop_at (s : ByteArray) (i : Nat) (h : i < s.size) : s.data.toList.drop i = s[i] :: s.data.toList.drop (i + 1) := by
  have h' : i < s.data.toList.length := by rw [Array.length_toList]; exact h
  rw [List.drop_eq_getElem_cons h']; rfl
theorem drop_end (s : ByteArray) (i : Nat) (h : s.size ≤ i) : s.data.toList.drop i = [] := List.drop_of_length_le (by rw [Array.length_toList]; exact h)
theorem head_size {s : ByteArray} (h : s.data.toList.head? = some 45) : 1 ≤ s.size := by
  have h2 : s.data.toList.length = s.size := by rw [Array.length_toList]; rfl
  cases hc : s.data.toList with
  | nil => rw [hc] at h; cases h
  | cons c r => rw [hc] at h2; simp at h2; omega
def CR (m : Option (Bool × Nat × UInt8 × Nat)) (r : Option (Bool × Int × Int × Int)) : Prop :=
  ∃ (a : Bool) (b c n : Int), r = some (a, b, c, n) ∧
    match m with
    | none => n = 0
    | some x => a = x.1 ∧ b = x.2.1 ∧ c = x.2.2.1.toNat ∧ n = x.2.2.2
theorem bt_nat (s : ByteArray) (i : Nat) (h : i < s.size) : bt s (i : Int) = (s[i].toNat : Int) := (bt_at s (i : Int) (by simpa using h)).symm
theorem digit_f (c : UInt8) : PCv.word_Digit.f (c.toNat : Int) = some (isDig c) := by
  unfold PCv.word_Digit.f
  have := isDig_iff c
  cases hc : isDig c <;> rw [hc] at this <;> split <;> simp at this ⊢ <;> omega
theorem verb_f (c : UInt8) : strings_IndexByte.f ⟨#[115, 100, 120, 111, 99, 37]⟩ (c.toNat : Int) = some (Lib.indexByte [115, 100, 120, 111, 99, 37] c) := by
  unfold strings_IndexByte.f
  rw [Int.toNat_natCast, show c.toNat.toUInt8 = c from UInt8.ofNat_toNat]
theorem wd_step (wd t : Nat) (h : wd ≤ 9) (h1 : 48 ≤ t) (h2 : t ≤ 57) : wrap64 (wrap64 (10 * (wd : Int)) + ((t : Int) - 48) % 256) = ((10 * wd + (t - 48) : Nat) : Int) := by unfold wrap64; omega
theorem up_step (i : Nat) (h : i ≤ 1000000) : wrap64 ((i : Int) + 1) = ((i + 1 : Nat) : Int) := by unfold wrap64; omega
theorem conv_l0 (s : ByteArray) (hs : s.size ≤ 1000000) (k : Nat) : ∀ (i n wd : Nat) (left : Bool), s.size - i < k → i ≤ s.size → n ≤ 2 → (n < 2 → wd ≤ 9) → (n < 1 → wd ≤ 0) → wd ≤ 99 →
    CR (convGo left wd n i (s.data.toList.drop i)) (PCv.text_conversion.l0 k s (i : Int) (n : Int) left (wd : Int) 0) := by
  induction k with
  | zero => intro i n wd left h; omega
  | succ k ih =>
    intro i n wd left hk hi hn h9 h0 h99
    unfold PCv.text_conversion.l0
    by_cases h1 : i < s.size
    · have e1 : (i : Int) < (s.size : Int) := by omega
      have e2 : (0 : Int) ≤ (i : Int) := by omega
      have e5 : ¬ (i : Int) = (s.size : Int) := by omega
      rw [if_pos e1, if_pos e2, bt_nat s i h1, digit_f s[i], verb_f s[i], drop_at s i h1]
      have hdg := isDig_iff s[i]
      have hvx := isVerb_index s[i]
      generalize s[i] = c at *
      rw [Option.bind_some, Option.bind_some]
      by_cases hg : isDig c = true ∧ n < 2
      · have hd := hdg.1 hg.1
        rw [if_pos hg.1, if_pos (by omega), convGo, if_pos hg, up_step i (by omega), up_step n (by omega), wd_step wd c.toNat (h9 hg.2) (by omega) (by omega)]
        exact ih (i + 1) (n + 1) _ left (by omega) (by omega) (by omega) (by have := h9 hg.2; have := h0; omega) (by omega) (by have := h9 hg.2; omega)
      · rw [convGo, if_neg hg, if_neg e5]
        have key : CR (convFin left wd i (c :: s.data.toList.drop (i + 1))) (if Lib.indexByte [115, 100, 120, 111, 99, 37] c < 0 then some (left, (wd : Int), 0, 0) else some (left, (wd : Int), (c.toNat : Int), wrap64 ((i : Int) + 1))) := by
          cases hv : isVerb c with
          | true =>
            rw [if_neg (fun h => by rw [hvx.1 h] at hv; cases hv), convFin, if_pos hv, up_step i (by omega)]
            exact ⟨_, _, _, _, rfl, rfl, rfl, rfl, rfl⟩
          | false =>
            rw [if_pos (hvx.2 hv), convFin, if_neg (by rw [hv]; simp)]
            exact ⟨_, _, _, _, rfl, rfl⟩
        by_cases hd : isDig c = true
        · have hn2 : ¬ n < 2 := fun h => hg ⟨hd, h⟩
          rw [if_pos hd, if_neg (by omega)]; exact key
        · rw [if_neg hd]; exact key
    · rw [if_neg (by omega : ¬ (i : Int) < (s.size : Int)), if_pos (by omega : (i : Int) = (s.size : Int)), drop_end s i (by omega)]
      exact ⟨_, _, _, _, rfl, rfl⟩
theorem conv_f (s : ByteArray) (hs : s.size ≤ 1000000) : CR (convM s.data.toList) (PCv.text_conversion.f (s.size + 1) s) := by
  have hp : strings_HasPrefix.f s ⟨#[45]⟩ = some (decide (s.data.toList.head? = some 45)) := by
    unfold strings_HasPrefix.f
    congr 1
    cases h : s.data.toList with
    | nil => rfl
    | cons c r =>
      simp only [Lib.hasPrefix, List.isPrefixOf, List.head?_cons, Option.some.injEq, Bool.and_true]
      rw [Bool.eq_iff_iff, beq_iff_eq, decide_eq_true_eq]
      exact eq_comm
  unfold PCv.text_conversion.f
  rw [hp, Option.bind_some]
  by_cases hh : s.data.toList.head? = some 45
  · rw [if_pos (by simpa using hh), convM, if_pos hh, ← List.drop_one]
    exact conv_l0 s hs (s.size + 1) 1 0 0 true (by omega) (head_size hh) (by omega) (by omega) (by omega) (by omega)
  · rw [if_neg (by simpa using hh), convM, if_neg hh, ← List.drop_zero (l := s.data.toList)]
    exact conv_l0 s hs (s.size + 1) 0 0 0 false (by omega) (by omega) (by omega) (by omega) (by omega) (by omega)
/-- what a conversion's answer says -/
theorem conv_any (s : ByteArray) (w : World) (hs : s.size ≤ 1000000) :
    Calls Tryd.prog 27 #[.string s] w fun e W' => (∃ (a : Bool) (b c n : Int), e = .returned (.tuple #[.agg #[.bool a, .int .i64 b, .int .u8 c], .int .i64 n]) ∧ match convM s.data.toList with
      | none => n = 0
      | some x => a = x.1 ∧ b = x.2.1 ∧ c = x.2.2.1.toNat ∧ n = x.2.2.2) ∧ Below w.heap.size w W' := by
  obtain ⟨a, b, c, n, hr, hm⟩ := conv_f s hs
  refine (PCv.text_conversion.calls (s.size + 1) s a b c n w hr).mono ?_
  rintro e W' ⟨he, hb⟩
  exact ⟨⟨a, b, c, n, he, hm⟩, hb⟩
end Go.Proofs.YtlinllnlokikpaaDoor
