import Derived.Test.YtlinllnlokikpaaDoorPNux
import Derived.Test.YtlinllnlokikpaaDoorTxL
import Derived.Test.YtlinllnlokikpaaDoorNumPt
import Derived.OpenShut
/- TextNumbers answers true: the plain law of its print. -/
set_option linter.unusedVariables false
set_option linter.unusedSimpArgs false
namespace Go.Proofs.YtlinllnlokikpaaDoor
open Go.RowKit Go.Proofs.YtlinllnlokikpaaDoorW.PrintWords
theorem tx_size (n : Int) (h1 : -9223372036854775808 ≤ n) (h2 : n ≤ 9223372036854775807) : (textS n).size ≤ 65 := by
  unfold textS
  have := baseS_size 10 n.natAbs (by omega)
  split
  · rw [ByteArray.size_append]; show 1 + _ ≤ _; omega
  · omega
theorem decim (n : Int) (h1 : -9223372036854775808 ≤ n) (h2 : n ≤ 9223372036854775807) : num_Decimal.f (textS n) = some (n, 0) := by
  have := tx_size n h1 h2
  unfold num_Decimal.f
  rw [if_pos (by omega), dec_text n h1 h2]
theorem truth_f (b : Bool) : PTw.text_truth.f b = some (if b = true then 0 else 1) := by
  unfold PTw.text_truth.f; cases b <;> rfl
/-- the six asks, by their place -/
def askL (a b : Int) : List Bool := [(a == b), (a != b), decide (a < b), decide (a ≤ b), decide (a > b), decide (a ≥ b)]
def opL : List ByteArray := [⟨#[45, 101, 113]⟩, ⟨#[45, 110, 101]⟩, ⟨#[45, 108, 116]⟩, ⟨#[45, 108, 101]⟩, ⟨#[45, 103, 116]⟩, ⟨#[45, 103, 101]⟩]
theorem two_ops (a b : Int) (a1 : -9223372036854775808 ≤ a) (a2 : a ≤ 9223372036854775807) (b1 : -9223372036854775808 ≤ b) (b2 : b ≤ 9223372036854775807) (i : Nat) (hi : i < opL.length) (hi2 : i < (askL a b).length) :
    text_Test.f (⟨#[]⟩ : ByteArray) [textS a, opL[i], textS b] = some (if (askL a b)[i] = true then 0 else 1) := by
  have hi6 : i < 6 := hi
  have key : PTw.text_two.f (textS a) opL[i] (textS b) = some (if (askL a b)[i] = true then 0 else 1) := by
    unfold PTw.text_two.f
    simp only [ByteArray.toList_eq, decim a a1 a2, decim b b1 b2, Option.bind_some, truth_f]
    match i, hi6 with
    | 0, _ => rfl
    | 1, _ => rfl
    | 2, _ => rfl
    | 3, _ => rfl
    | 4, _ => rfl
    | 5, _ => rfl
  show (PTw.text_two.f (textS a) opL[i] (textS b)).bind _ = _
  rw [key, Option.bind_some, if_neg (by split <;> decide)]
  first | done | rfl | (congr 1; done) | (simp; done)
theorem rdOf_at (l : List ByteArray) (i : Nat) (h : i < l.length) : rdOf ByteArray.empty l (i : Int) = l[i] := by
  unfold rdOf
  rw [Int.toNat_natCast, List.getD_eq_getElem?_getD, List.getElem?_eq_getElem h]; rfl
theorem rdOf_b (l : List Bool) (i : Nat) (h : i < l.length) : rdOf false l (i : Int) = l[i] := by
  unfold rdOf
  rw [Int.toNat_natCast, List.getD_eq_getElem?_getD, List.getElem?_eq_getElem h]; rfl
theorem num_l0 (a b : Int) (a1 : -9223372036854775808 ≤ a) (a2 : a ≤ 9223372036854775807) (b1 : -9223372036854775808 ≤ b) (b2 : b ≤ 9223372036854775807) :
    ∀ (d k i : Nat), i + d = 6 → d < k → PNu.rehearsallaw15_TextNumbers.l0 k b (textS a) (textS b) opL (askL a b) (i : Int) = some true := by
  intro d
  induction d with
  | zero =>
    intro k i hi hk
    obtain ⟨k, rfl⟩ : ∃ j, k = j + 1 := ⟨k - 1, by omega⟩
    have ha := tx_size a a1 a2
    have hb := tx_size b b1 b2
    have hw : IntKind.u64.wrap b = b % 18446744073709551616 := rfl
    have hm : (b % 18446744073709551616).toNat < 18446744073709551616 := by omega
    have hz := baseS_size 16 (b % 18446744073709551616).toNat hm
    simp only [PNu.rehearsallaw15_TextNumbers.l0]
    rw [if_neg (by omega)]
    unfold text_Printf.f
    rw [if_pos ⟨by decide, by simp, fun s hs => by
      rcases List.mem_cons.1 hs with h | h
      · subst h; omega
      · rcases List.mem_cons.1 h with h | h
        · subst h; omega
        · cases h⟩, printfM_num _ _ a b (dec_text a a1 a2) (dec_text b b1 b2) (by omega) (by omega), Option.bind_some, if_pos rfl, if_pos (by omega), hw]
    unfold rehearsalref01_Base.f
    rw [if_pos (by omega), Option.bind_some]
    have e16 : (16 : Int).toNat = 16 := rfl
    rw [e16, if_pos (by rw [ByteArray.size_append]; show (textS a).size + 1 + _ ≤ _; omega), if_pos (by simp [ByteArray.toList_eq, asB, ByteArray.data_append])]
    rfl
  | succ d ih =>
    intro k i hi hk
    obtain ⟨k, rfl⟩ : ∃ j, k = j + 1 := ⟨k - 1, by omega⟩
    simp only [PNu.rehearsallaw15_TextNumbers.l0]
    have hl1 : opL.length = 6 := rfl
    have hl2 : (askL a b).length = 6 := rfl
    rw [if_pos (by omega), if_pos (by omega), if_pos (by rw [hl1]; omega), rdOf_at opL i (by omega)]
    have e2 := two_ops a b a1 a2 b1 b2 i (by omega) (by omega)
    refine Eq.trans (congrArg (fun o => Option.bind o _) e2) ?_
    show (some _).bind _ = _
    rw [Option.bind_some, if_pos (by rw [hl2]; omega), rdOf_b (askL a b) i (by omega)]
    have hx : ((((if (askL a b)[i] = true then 0 else 1 : Int) == 0) != (askL a b)[i]) = true) = False := by
      cases (askL a b)[i] <;> simp
    rw [if_neg (by rw [hx]; exact id), show wrap64 ((i : Int) + 1) = ((i + 1 : Nat) : Int) from by unfold wrap64; omega]
    exact ih k (i + 1) (by omega) (by omega)
theorem numbers_pure : PNu.rehearsallaw15_TextNumbers.Pure := by
  intro a b ha hb
  obtain ⟨a1, a2⟩ := bounds_i64 ha
  obtain ⟨b1, b2⟩ := bounds_i64 hb
  refine ⟨7, ?_⟩
  unfold PNu.rehearsallaw15_TextNumbers.f rehearsalref01_Text.f
  rw [if_pos ⟨a1, a2⟩, Option.bind_some, if_pos ⟨b1, b2⟩, Option.bind_some]
  exact num_l0 a b a1 a2 b1 b2 6 7 0 rfl (by omega)
theorem numbers_walk (a b : Int) (W : World) (ha : -9223372036854775808 ≤ a ∧ a ≤ 9223372036854775807) (hb : -9223372036854775808 ≤ b ∧ b ≤ 9223372036854775807) :
    Calls Tryd.prog 6 #[.int .i64 a, .int .i64 b] W fun e W' => e = .returned (.bool true) ∧ Below W.heap.size W W' := by
  obtain ⟨k, hk⟩ := numbers_pure a b (by simp only [Lit.wf, Bool.and_eq_true, decide_eq_true_eq]; exact ha) (by simp only [Lit.wf, Bool.and_eq_true, decide_eq_true_eq]; exact hb)
  exact PNu.rehearsallaw15_TextNumbers.calls k a b true W hk
end Go.Proofs.YtlinllnlokikpaaDoor
