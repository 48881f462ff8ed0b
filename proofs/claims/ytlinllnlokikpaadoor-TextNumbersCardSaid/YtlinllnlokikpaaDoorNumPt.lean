/- A number's text reads back to it. (the first part of NumP, over NumT) -/
import Derived.Test.YtlinllnlokikpaaDoorNumT
set_option linter.unusedVariables false
namespace Go.Proofs.YtlinllnlokikpaaDoor
open Go.RowKit
def dl (b n : Nat) : List UInt8 := (digs b n).map fun x => UInt8.ofNat x.toNat
def cb (d : Nat) : UInt8 := UInt8.ofNat (chr d).toNat
theorem valC_cb : ∀ d : Fin 16, valC (cb d.val).toNat = (d.val : Int) := by decide +kernel
theorem cb_low : ∀ d : Fin 16, 48 ≤ (cb d.val).toNat := by decide +kernel
theorem cb_dec : ∀ d : Fin 8, ¬ cb d.val = 120 ∧ ¬ cb d.val = 88 := by decide +kernel
theorem cb_nz : ∀ d : Fin 16, cb d.val = 48 → d.val = 0 := by decide +kernel
theorem cb_lt : ∀ d e : Fin 16, (cb d.val < cb e.val) ↔ d.val < e.val := by decide +kernel
theorem cb_inj : ∀ d e : Fin 16, cb d.val = cb e.val → d.val = e.val := by decide +kernel
theorem base_list (b n : Nat) (hb : 2 ≤ b) (hb2 : b ≤ 16) : (baseS b n).data.toList = dl b n := by
  unfold baseS
  rw [if_neg (by omega), strOfNums_data]
  rfl
theorem dl_low (b n : Nat) (h : n < b) : dl b n = [cb n] := by
  unfold dl
  rw [digs, if_pos (.inl h), Nat.mod_eq_of_lt h]
  rfl
theorem dl_high (b n : Nat) (hb : 2 ≤ b) (h : b ≤ n) : dl b n = dl b (n / b) ++ [cb (n % b)] := by
  unfold dl
  rw [digs, if_neg (by omega), List.map_append]
  rfl
theorem dl_ne (b n : Nat) (hb : 2 ≤ b) : dl b n ≠ [] := by
  rcases Nat.lt_or_ge n b with h | h
  · rw [dl_low b n h]; simp
  · rw [dl_high b n hb h]; simp
theorem okD_cb (b d : Nat) (hd : d < b) (hb2 : b ≤ 16) : okD b (cb d) = true := by
  unfold okD
  rw [valC_cb ⟨d, by omega⟩]
  simp
  omega
theorem dl_read (b : Nat) (hb : 2 ≤ b) (hb2 : b ≤ 16) (n : Nat) : (dl b n).all (okD b) = true ∧ numD b (dl b n) = n := by
  induction n using Nat.strongRecOn with
  | ind n ih =>
    rcases Nat.lt_or_ge n b with h | h
    · rw [dl_low b n h]
      refine ⟨by simp [okD_cb b n h hb2], ?_⟩
      simp only [numD, List.foldl_cons, List.foldl_nil, stepD]
      rw [valC_cb ⟨n, by omega⟩]
      simp
    · have hlt : n / b < n := Nat.div_lt_self (by omega) (by omega)
      have hm : n % b < b := Nat.mod_lt n (by omega)
      obtain ⟨h1, h2⟩ := ih _ hlt
      rw [dl_high b n hb h]
      refine ⟨by simp only [List.all_append, h1, List.all_cons, okD_cb b _ hm hb2, List.all_nil, Bool.and_self], ?_⟩
      have hv : (valC (cb (n % b)).toNat).toNat = n % b := by rw [valC_cb ⟨n % b, by omega⟩]; exact Int.toNat_natCast _
      rw [numD_snoc, h2, hv]
      have := Nat.div_add_mod n b
      rw [Nat.mul_comm] at this
      exact this
theorem rd_dl (b most n : Nat) (hb : 2 ≤ b) (hb2 : b ≤ 16) (h : n ≤ most) : rdE b most (dl b n) = 0 ∧ rdN b most (dl b n) = n := by
  obtain ⟨h1, h2⟩ := dl_read b hb hb2 n
  have e : rdE b most (dl b n) = 0 := by
    unfold rdE
    rw [if_neg (by simp [dl_ne b n hb, h1]), if_neg (by omega)]
  exact ⟨e, by unfold rdN; rw [e, h2]; simp⟩
/-- the first digit: one of the base; no nought, if more follow -/
theorem dl_head (b : Nat) (hb : 2 ≤ b) (n : Nat) : ∃ d t, d < b ∧ dl b n = cb d :: t ∧ (d = 0 → n = 0) := by
  induction n using Nat.strongRecOn with
  | ind n ih =>
    rcases Nat.lt_or_ge n b with h | h
    · exact ⟨n, [], h, dl_low b n h, id⟩
    · have hlt : n / b < n := Nat.div_lt_self (by omega) (by omega)
      obtain ⟨d, t, h1, h2, h3⟩ := ih _ hlt
      refine ⟨d, t ++ [cb (n % b)], h1, by rw [dl_high b n hb h, h2]; rfl, fun h0 => ?_⟩
      have : n / b = 0 := h3 h0
      have : 0 < n / b := Nat.div_pos h (by omega)
      omega
theorem text_list (n : Int) : (textS n).data.toList = if n < 0 then 45 :: dl 10 n.natAbs else dl 10 n.natAbs := by
  unfold textS
  split
  · rw [← base_list 10 _ (by omega) (by omega)]; simp
  · exact base_list 10 _ (by omega) (by omega)
theorem dec_text (n : Int) (h1 : -9223372036854775808 ≤ n) (h2 : n ≤ 9223372036854775807) : decD (textS n).data.toList = (n, 0) := by
  rw [text_list]
  by_cases h : n < 0
  · rw [if_pos h]
    obtain ⟨e1, e2⟩ := rd_dl 10 M63 n.natAbs (by omega) (by omega) (by unfold M63; omega)
    rw [decD_minus rfl rfl, e1, e2]
    simp
    omega
  · rw [if_neg h]
    obtain ⟨e1, e2⟩ := rd_dl 10 L63 n.natAbs (by omega) (by omega) (by unfold L63; omega)
    obtain ⟨d, t, hd, hl, _⟩ := dl_head 10 (by omega) n.natAbs
    have := cb_low ⟨d, by omega⟩
    rw [decD_other hl (by simp at this; omega) (by simp at this; omega), e1, e2]
    simp
    omega
end Go.Proofs.YtlinllnlokikpaaDoor
