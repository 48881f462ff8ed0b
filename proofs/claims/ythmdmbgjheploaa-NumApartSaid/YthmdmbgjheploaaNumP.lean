/- The plain laws of layer 1's digits: a number's digits read back to it; they begin with no nought; numbers of one size are in the order of their digits. -/
import Derived.Test.YthmdmbgjheploaaNumL
set_option linter.unusedVariables false
set_option linter.unusedSimpArgs false
namespace Go.Proofs.Ythmdmbgjheploaa
open Go.RowKit

def dl (b n : Nat) : List UInt8 := (digs b n).map fun x => UInt8.ofNat x.toNat
def cb (d : Nat) : UInt8 := UInt8.ofNat (chr d).toNat
theorem valC_cb : ∀ d : Fin 16, valC (cb d.val).toNat = (d.val : Int) := by decide +kernel
theorem cb_low : ∀ d : Fin 16, 48 ≤ (cb d.val).toNat := by decide +kernel
theorem cb_dec : ∀ d : Fin 8, ¬ cb d.val = 120 ∧ ¬ cb d.val = 88 := by decide +kernel
theorem cb_nz : ∀ d : Fin 16, cb d.val = 48 → d.val = 0 := by decide +kernel
theorem cb_lt : ∀ d e : Fin 16, (cb d.val < cb e.val) ↔ d.val < e.val := by decide +kernel
theorem cb_inj : ∀ d e : Fin 16, cb d.val = cb e.val → d.val = e.val := by decide +kernel
theorem base_list (b n : Nat) (hb : 2 ≤ b) (hb2 : b ≤ 16) : (baseS b n).data.toList = dl b n := by
  unfold baseS
  rw [if_neg (by omega), strOfNums_data]
  rfl
theorem dl_low (b n : Nat) (h : n < b) : dl b n = [cb n] := by
  unfold dl
  rw [digs, if_pos (.inl h), Nat.mod_eq_of_lt h]
  rfl
theorem dl_high (b n : Nat) (hb : 2 ≤ b) (h : b ≤ n) : dl b n = dl b (n / b) ++ [cb (n % b)] := by
  unfold dl
  rw [digs, if_neg (by omega), List.map_append]
  rfl
theorem dl_ne (b n : Nat) (hb : 2 ≤ b) : dl b n ≠ [] := by
  rcases Nat.lt_or_ge n b with h | h
  · rw [dl_low b n h]; simp
  · rw [dl_high b n hb h]; simp
theorem okD_cb (b d : Nat) (hd : d < b) (hb2 : b ≤ 16) : okD b (cb d) = true := by
  unfold okD
  rw [valC_cb ⟨d, by omega⟩]
  simp
  omega
theorem dl_read (b : Nat) (hb : 2 ≤ b) (hb2 : b ≤ 16) (n : Nat) : (dl b n).all (okD b) = true ∧ numD b (dl b n) = n := by
  induction n using Nat.strongRecOn with
  | ind n ih =>
    rcases Nat.lt_or_ge n b with h | h
    · rw [dl_low b n h]
      refine ⟨by simp [okD_cb b n h hb2], ?_⟩
      simp only [numD, List.foldl_cons, List.foldl_nil, stepD]
      rw [valC_cb ⟨n, by omega⟩]
      simp
    · have hlt : n / b < n := Nat.div_lt_self (by omega) (by omega)
      have hm : n % b < b := Nat.mod_lt n (by omega)
      obtain ⟨h1, h2⟩ := ih _ hlt
      rw [dl_high b n hb h]
      refine ⟨by simp only [List.all_append, h1, List.all_cons, okD_cb b _ hm hb2, List.all_nil, Bool.and_self], ?_⟩
      have hv : (valC (cb (n % b)).toNat).toNat = n % b := by rw [valC_cb ⟨n % b, by omega⟩]; exact Int.toNat_natCast _
      rw [numD_snoc, h2, hv]
      have := Nat.div_add_mod n b
      rw [Nat.mul_comm] at this
      exact this
theorem rd_dl (b most n : Nat) (hb : 2 ≤ b) (hb2 : b ≤ 16) (h : n ≤ most) : rdE b most (dl b n) = 0 ∧ rdN b most (dl b n) = n := by
  obtain ⟨h1, h2⟩ := dl_read b hb hb2 n
  have e : rdE b most (dl b n) = 0 := by
    unfold rdE
    rw [if_neg (by simp [dl_ne b n hb, h1]), if_neg (by omega)]
  exact ⟨e, by unfold rdN; rw [e, h2]; simp⟩
/-- the first digit: one of the base; no nought, if more follow -/
theorem dl_head (b : Nat) (hb : 2 ≤ b) (n : Nat) : ∃ d t, d < b ∧ dl b n = cb d :: t ∧ (d = 0 → n = 0) := by
  induction n using Nat.strongRecOn with
  | ind n ih =>
    rcases Nat.lt_or_ge n b with h | h
    · exact ⟨n, [], h, dl_low b n h, id⟩
    · have hlt : n / b < n := Nat.div_lt_self (by omega) (by omega)
      obtain ⟨d, t, h1, h2, h3⟩ := ih _ hlt
      refine ⟨d, t ++ [cb (n % b)], h1, by rw [dl_high b n hb h, h2]; rfl, fun h0 => ?_⟩
      have : n / b = 0 := h3 h0
      have : 0 < n / b := Nat.div_pos h (by omega)
      omega
theorem text_list (n : Int) : (textS n).data.toList = if n < 0 then 45 :: dl 10 n.natAbs else dl 10 n.natAbs := by
  unfold textS
  split
  · rw [← base_list 10 _ (by omega) (by omega)]; simp
  · exact base_list 10 _ (by omega) (by omega)
theorem dec_text (n : Int) (h1 : -9223372036854775808 ≤ n) (h2 : n ≤ 9223372036854775807) : decD (textS n).data.toList = (n, 0) := by
  rw [text_list]
  by_cases h : n < 0
  · rw [if_pos h]
    obtain ⟨e1, e2⟩ := rd_dl 10 M63 n.natAbs (by omega) (by omega) (by unfold M63; omega)
    rw [decD_minus rfl rfl, e1, e2]
    simp
    omega
  · rw [if_neg h]
    obtain ⟨e1, e2⟩ := rd_dl 10 L63 n.natAbs (by omega) (by omega) (by unfold L63; omega)
    obtain ⟨d, t, hd, hl, _⟩ := dl_head 10 (by omega) n.natAbs
    have := cb_low ⟨d, by omega⟩
    rw [decD_other hl (by simp at this; omega) (by simp at this; omega), e1, e2]
    simp
    omega
theorem con_text (n : Int) (h1 : 0 ≤ n) (h2 : n ≤ 9223372036854775807) : conD (textS n).data.toList = (n, 0) := by
  rw [text_list, if_neg (by omega)]
  obtain ⟨e1, e2⟩ := rd_dl 10 L63 n.natAbs (by omega) (by omega) (by unfold L63; omega)
  have hf : fD 10 (dl 10 n.natAbs) = (n, 0) := by
    unfold fD
    rw [e1, e2]
    simp
    omega
  unfold conD
  rw [if_neg, hf]
  rintro ⟨hlen, h0⟩
  obtain ⟨d, t, hd, hl, hz⟩ := dl_head 10 (by omega) n.natAbs
  rw [hl] at h0
  have hd0 := cb_nz ⟨d, by omega⟩ (by simpa using h0)
  have hn0 := hz hd0
  rw [hn0, dl_low 10 0 (by omega)] at hlen
  simp at hlen
theorem con_oct (n : Nat) (h2 : n ≤ 9223372036854775807) : conD (48 :: dl 8 n) = ((n : Int), 0) := by
  obtain ⟨e1, e2⟩ := rd_dl 8 L63 n (by omega) (by omega) (by unfold L63; omega)
  obtain ⟨d, t, hd, hl, _⟩ := dl_head 8 (by omega) n
  have hx := cb_dec ⟨d, hd⟩
  unfold conD
  rw [if_pos ⟨by rw [hl]; simp, by simp⟩, if_neg (by rw [hl]; simpa using hx)]
  unfold fD
  rw [List.tail_cons, e1, e2]
theorem con_hex (n : Nat) (h2 : n ≤ 9223372036854775807) : conD (48 :: 120 :: dl 16 n) = ((n : Int), 0) := by
  obtain ⟨e1, e2⟩ := rd_dl 16 L63 n (by omega) (by omega) (by unfold L63; omega)
  unfold conD
  rw [if_pos ⟨by simp, by simp⟩, if_pos (by simp)]
  unfold fD
  simp only [List.drop_succ_cons, List.drop_zero]
  rw [e1, e2]

/-! numbers of unlike sizes; of one size -/
theorem dl_len (b : Nat) (hb : 2 ≤ b) (n : Nat) : ∀ m, n ≤ m → (dl b n).length ≤ (dl b m).length := by
  induction n using Nat.strongRecOn with
  | ind n ih =>
    intro m hm
    rcases Nat.lt_or_ge n b with h | h
    · rw [dl_low b n h]
      exact List.length_pos_iff.2 (dl_ne b m hb)
    · have hlt : n / b < n := Nat.div_lt_self (by omega) (by omega)
      rw [dl_high b n hb h, dl_high b m hb (by omega)]
      have := ih _ hlt (m / b) (Nat.div_le_div_right hm)
      simpa using this
theorem less_snoc (x y : List UInt8) (h : x.length = y.length) (a c : UInt8) : Op.bytesLess (x ++ [a]) (y ++ [c]) = (Op.bytesLess x y || (x == y && decide (a < c))) := by
  induction x generalizing y with
  | nil =>
    obtain rfl : y = [] := List.eq_nil_of_length_eq_zero (by simpa using h.symm)
    simp [Op.bytesLess]
  | cons u x ih =>
    cases y with
    | nil => simp at h
    | cons v y =>
      have := ih y (by simpa using h)
      simp only [List.cons_append, Op.bytesLess, this]
      by_cases huv : u = v
      · subst huv; simp
      · have : (u == v) = false := by simpa using huv
        simp [this]
theorem dl_order (b : Nat) (hb : 2 ≤ b) (hb2 : b ≤ 16) (n : Nat) : ∀ m, (dl b n).length = (dl b m).length → (Op.bytesLess (dl b n) (dl b m) = decide (n < m)) ∧ ((dl b n = dl b m) ↔ n = m) := by
  induction n using Nat.strongRecOn with
  | ind n ih =>
    intro m hl
    rcases Nat.lt_or_ge n b with h | h
    · rcases Nat.lt_or_ge m b with h' | h'
      · rw [dl_low b n h, dl_low b m h']
        have h1 := cb_lt ⟨n, by omega⟩ ⟨m, by omega⟩
        have h2 := cb_inj ⟨n, by omega⟩ ⟨m, by omega⟩
        refine ⟨?_, ⟨fun e => h2 (by simpa using e), fun e => by rw [e]⟩⟩
        simp only [Op.bytesLess, Bool.and_false, Bool.or_false]
        exact decide_eq_decide.2 h1
      · rw [dl_low b n h, dl_high b m hb h'] at hl
        have := List.length_pos_iff.2 (dl_ne b (m / b) hb)
        simp at hl
        exact absurd hl (dl_ne b (m / b) hb)
    · rcases Nat.lt_or_ge m b with h' | h'
      · rw [dl_low b m h', dl_high b n hb h] at hl
        simp at hl
        exact absurd hl (dl_ne b (n / b) hb)
      · have hlt : n / b < n := Nat.div_lt_self (by omega) (by omega)
        rw [dl_high b n hb h, dl_high b m hb h'] at hl ⊢
        obtain ⟨h1, h2⟩ := ih _ hlt (m / b) (by simpa using hl)
        have hn := Nat.mod_lt n (show b > 0 by omega)
        have hm := Nat.mod_lt m (show b > 0 by omega)
        have h3 := cb_lt ⟨n % b, by omega⟩ ⟨m % b, by omega⟩
        have h4 := cb_inj ⟨n % b, by omega⟩ ⟨m % b, by omega⟩
        have en := Nat.div_add_mod n b
        have em := Nat.div_add_mod m b
        constructor
        · rw [less_snoc _ _ (by simpa using hl), h1]
          have e3 : decide (cb (n % b) < cb (m % b)) = decide (n % b < m % b) := decide_eq_decide.2 h3
          rw [e3]
          have e4 : (dl b (n / b) == dl b (m / b)) = decide (n / b = m / b) := by
            rw [Bool.eq_iff_iff]; simpa using h2
          rw [e4, Bool.eq_iff_iff]
          simp only [Bool.or_eq_true, Bool.and_eq_true, decide_eq_true_eq]
          constructor
          · rintro (hq | ⟨hq, hr⟩)
            · have : b * (n / b + 1) ≤ b * (m / b) := Nat.mul_le_mul_left b hq
              rw [Nat.mul_add] at this
              omega
            · rw [hq] at en
              omega
          · intro hnm
            rcases Nat.lt_or_ge (n / b) (m / b) with hq | hq
            · exact .inl hq
            · have hq' : n / b = m / b := by
                have : n / b ≤ m / b := Nat.div_le_div_right (by omega)
                omega
              refine .inr ⟨hq', ?_⟩
              rw [hq'] at en
              omega
        · constructor
          · intro e
            have e' := List.append_inj e (by simpa using hl)
            have q := h2.1 e'.1
            have r := h4 (by simpa using e'.2)
            simp only at r
            rw [q, r] at en
            omega
          · intro e; rw [e]
end Go.Proofs.Ythmdmbgjheploaa
