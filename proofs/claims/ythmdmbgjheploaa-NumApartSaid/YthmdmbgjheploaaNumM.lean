/- The walks of NumBack and NumApart: each comes to true, and leaves the memory below as it was. -/
import Derived.Test.YthmdmbgjheploaaNumP
set_option linter.unusedVariables false
set_option linter.unusedSimpArgs false
namespace Go.Proofs.Ythmdmbgjheploaa
open Go.RowKit

theorem con_call (s : ByteArray) (a b : Int) (w : World) (hs : s.size ≤ 9223372036854775807) (hc : conD s.data.toList = (a, b)) :
    Calls Try.prog 20 #[.string s] w fun e w' => e = .returned (.tuple #[.int .i64 a, .int .i64 b]) ∧ Below w.heap.size w w' := by
  have h := constant_any s w hs
  rw [hc] at h
  exact h
theorem dec_call (s : ByteArray) (a b : Int) (w : World) (hs : s.size ≤ 9223372036854775807) (hc : decD s.data.toList = (a, b)) :
    Calls Try.prog 36 #[.string s] w fun e w' => e = .returned (.tuple #[.int .i64 a, .int .i64 b]) ∧ w' = w := by
  have h := decimal_any s w hs
  rw [hc] at h
  exact h
theorem textS_size (n : Int) (h1 : -9223372036854775808 ≤ n) (h2 : n ≤ 9223372036854775807) : (textS n).size ≤ 65 := by
  have := baseS_size 10 n.natAbs (by omega)
  unfold textS
  split
  · rw [← len_size]
    simp only [ByteArray.data_append, Array.toList_append, List.length_append, len_size]
    rw [← len_size] at this
    simp at this ⊢
    omega
  · omega
set_option maxHeartbeats 1600000 in
theorem NumBack.walk (n : Int) (w : World) (hn : -9223372036854775808 ≤ n ∧ n ≤ 9223372036854775807) :
    Calls Try.prog 14 #[.int .i64 n] w fun e w' => e = .returned (.bool true) ∧ Below w.heap.size w w' := by
  obtain ⟨h1, h2⟩ := hn
  have hsz := textS_size n h1 h2
  have hdec := Lib.hid (dec_text n h1 h2)
  by_cases h : n < 0
  · go_enter Try.func14, Try.ntmps14
    go_wp2_with fail
    refine (text_any n _ (by omega) (by omega)).mono ?_
    rintro e w1 ⟨rfl, hb1⟩
    go_wp2_with fail
    refine (dec_call _ n 0 _ (by omega) hdec.out).mono ?_
    rintro e w2 ⟨rfl, rfl⟩
    go_wp2_with fail
    refine (awake_any _).mono ?_
    rintro e w3 ⟨rfl, hb3⟩
    go_wp2
    go_ret
    exact ⟨rfl, below_next hb1 hb1.size hb3⟩
  · have hcon := Lib.hid (con_text n (by omega) h2)
    have ho := Lib.hid (show conD ((⟨#[48]⟩ : ByteArray) ++ baseS 8 n.natAbs).data.toList = (n, 0) by
      have e : ((⟨#[48]⟩ : ByteArray) ++ baseS 8 n.natAbs).data.toList = 48 :: dl 8 n.natAbs := by
        rw [← base_list 8 _ (by omega) (by omega)]; simp
      rw [e, con_oct _ (by omega)]
      simp
      omega)
    have hx := Lib.hid (show conD ((⟨#[48, 120]⟩ : ByteArray) ++ baseS 16 n.natAbs).data.toList = (n, 0) by
      have e : ((⟨#[48, 120]⟩ : ByteArray) ++ baseS 16 n.natAbs).data.toList = 48 :: 120 :: dl 16 n.natAbs := by
        rw [← base_list 16 _ (by omega) (by omega)]; simp
      rw [e, con_hex _ (by omega)]
      simp
      omega)
    have hs8 := baseS_size 8 n.natAbs (by omega)
    have hs16 := baseS_size 16 n.natAbs (by omega)
    have ho2 : ((⟨#[48]⟩ : ByteArray) ++ baseS 8 n.natAbs).size ≤ 100 := by
      rw [← len_size]
      simp only [ByteArray.data_append, Array.toList_append, List.length_append, len_size]
      simp
      omega
    have hx2 : ((⟨#[48, 120]⟩ : ByteArray) ++ baseS 16 n.natAbs).size ≤ 100 := by
      rw [← len_size]
      simp only [ByteArray.data_append, Array.toList_append, List.length_append, len_size]
      simp
      omega
    go_enter Try.func14, Try.ntmps14
    go_wp2_with fail
    refine (text_any n _ (by omega) (by omega)).mono ?_
    rintro e w1 ⟨rfl, hb1⟩
    go_wp2_with fail
    refine (dec_call _ n 0 _ (by omega) hdec.out).mono ?_
    rintro e w2 ⟨rfl, rfl⟩
    go_wp2_with fail
    refine (text_any n _ (by omega) (by omega)).mono ?_
    rintro e w2 ⟨rfl, hb2⟩
    go_wp2_with fail
    refine (con_call _ n 0 _ (by omega) hcon.out).mono ?_
    rintro e w3 ⟨rfl, hb3⟩
    go_wp2_with fail
    refine (base_lit _ _ n.natAbs 8 _ (by omega) rfl (by omega)).mono ?_
    rintro e w4 ⟨rfl, hb4⟩
    go_wp2_with fail
    refine (con_call _ n 0 _ (by omega) ho.out).mono ?_
    rintro e w5 ⟨rfl, hb5⟩
    go_wp2_with fail
    refine (base_lit _ _ n.natAbs 16 _ (by omega) rfl (by omega)).mono ?_
    rintro e w6 ⟨rfl, hb6⟩
    go_wp2_with fail
    refine (con_call _ n 0 _ (by omega) hx.out).mono ?_
    rintro e w7 ⟨rfl, hb7⟩
    go_wp2_with fail
    refine (awake_any _).mono ?_
    rintro e w8 ⟨rfl, hb8⟩
    go_wp2
    go_ret
    have g2 := below_next hb1 hb1.size hb2
    have g3 := below_next g2 g2.size hb3
    have g4 := below_next g3 g3.size hb4
    have g5 := below_next g4 g4.size hb5
    have g6 := below_next g5 g5.size hb6
    have g7 := below_next g6 g6.size hb7
    exact ⟨rfl, below_next g7 g7.size hb8⟩
set_option maxHeartbeats 1600000 in
theorem NumApart.walk (n m b : Int) (w : World) (hn : 0 ≤ n ∧ n ≤ 18446744073709551615) (hm : 0 ≤ m ∧ m ≤ 18446744073709551615) (hb : -9223372036854775808 ≤ b ∧ b ≤ 9223372036854775807) :
    Calls Try.prog 6 #[.int .u64 n, .int .u64 m, .int .i64 b] w fun e w' => e = .returned (.bool true) ∧ Below w.heap.size w w' := by
  obtain ⟨n, rfl⟩ := Int.eq_ofNat_of_zero_le hn.1
  obtain ⟨m, rfl⟩ := Int.eq_ofNat_of_zero_le hm.1
  clear hb
  by_cases hbad : b < 2 ∨ b > 16
  · have he := Lib.hid (show ∀ k, baseS b.toNat k = ⟨#[]⟩ by
      intro k
      unfold baseS
      rw [if_pos (by omega)])
    by_cases hb2 : b < 2
    · clear hbad
      go_enter Try.func6, Try.ntmps6
      go_wp2_with fail
      refine (base_any n b _ (by omega)).mono ?_
      rintro e w1 ⟨rfl, hb1⟩
      go_wp2_with fail
      refine (base_any m b _ (by omega)).mono ?_
      rintro e w2 ⟨rfl, hb2⟩
      rw [he.out, he.out]
      go_wp2_with fail
      refine (awake_any _).mono ?_
      rintro e w3 ⟨rfl, hb3⟩
      go_wp2
      go_ret
      have g2 := below_next hb1 hb1.size hb2
      exact ⟨rfl, below_next g2 g2.size hb3⟩
    · have hb3 : 16 < b := by omega
      clear hbad
      go_enter Try.func6, Try.ntmps6
      go_wp2_with fail
      refine (base_any n b _ (by omega)).mono ?_
      rintro e w1 ⟨rfl, hb1⟩
      go_wp2_with fail
      refine (base_any m b _ (by omega)).mono ?_
      rintro e w2 ⟨rfl, hb2⟩
      rw [he.out, he.out]
      go_wp2_with fail
      refine (awake_any _).mono ?_
      rintro e w3 ⟨rfl, hb3⟩
      go_wp2
      go_ret
      have g2 := below_next hb1 hb1.size hb2
      exact ⟨rfl, below_next g2 g2.size hb3⟩
  · have hb1 : (2 : Int) ≤ b := by omega
    have hb2 : b ≤ 16 := by omega
    clear hbad
    have l1 := base_list b.toNat n (by omega) (by omega)
    have l2 := base_list b.toNat m (by omega) (by omega)
    have hz1 := baseS_size b.toNat n (by omega)
    have hz2 := baseS_size b.toNat m (by omega)
    have hs1 := len_size (baseS b.toNat n)
    have hs2 := len_size (baseS b.toNat m)
    rw [l1] at hs1
    rw [l2] at hs2
    have hnm := dl_len b.toNat (by omega) n m
    have hmn := dl_len b.toNat (by omega) m n
    by_cases hlen : (baseS b.toNat n).size = (baseS b.toNat m).size
    · have ho := dl_order b.toNat (by omega) (by omega) n m (by omega)
      have e1 : (baseS b.toNat n).toList = dl b.toNat n := by rw [ByteArray.toList_eq, l1]
      have e2 : (baseS b.toNat m).toList = dl b.toNat m := by rw [ByteArray.toList_eq, l2]
      have hL : Op.bytesLess (baseS b.toNat n).toList (baseS b.toNat m).toList = decide ((n : Int) < (m : Int)) := by
        rw [e1, e2, ho.1]; exact decide_eq_decide.2 (by omega)
      have hE : ((baseS b.toNat n).toList == (baseS b.toNat m).toList) = ((n : Int) == (m : Int)) := by
        rw [e1, e2, Bool.eq_iff_iff]; simp [ho.2]; omega
      have hS : (((baseS b.toNat n).size : Int) != ((baseS b.toNat m).size : Int)) = false := by simp [hlen]
      have hL' : decide (n < m) = Op.bytesLess (baseS b.toNat n).toList (baseS b.toNat m).toList := by rw [hL]; exact decide_eq_decide.2 (by omega)
      have hE' := hE.symm
      clear hL hE hlen ho e1 e2 hnm hmn hs1 hs2 l1 l2
      go_enter Try.func6, Try.ntmps6
      go_wp2_with fail
      refine (base_any n b _ (by omega)).mono ?_
      rintro e w1 ⟨rfl, hb1⟩
      go_wp2_with fail
      refine (base_any m b _ (by omega)).mono ?_
      rintro e w2 ⟨rfl, hb2⟩
      go_wp2_with fail
      refine (awake_any _).mono ?_
      rintro e w3 ⟨rfl, hb3⟩
      go_wp2
      go_ret
      have g2 := below_next hb1 hb1.size hb2
      exact ⟨rfl, below_next g2 g2.size hb3⟩
    · have hS : (((baseS b.toNat n).size : Int) != ((baseS b.toNat m).size : Int)) = true := by simp; omega
      have hL' : decide (n < m) = decide ((baseS b.toNat n).size < (baseS b.toNat m).size) := by
        refine decide_eq_decide.2 ?_
        constructor
        · intro h; have := hnm (by omega); omega
        · intro h
          rcases Nat.lt_or_ge n m with h' | h'
          · exact h'
          · have := hmn h'; omega
      clear hlen hnm hmn hs1 hs2 l1 l2
      go_enter Try.func6, Try.ntmps6
      go_wp2_with fail
      refine (base_any n b _ (by omega)).mono ?_
      rintro e w1 ⟨rfl, hb1⟩
      go_wp2_with fail
      refine (base_any m b _ (by omega)).mono ?_
      rintro e w2 ⟨rfl, hb2⟩
      go_wp2_with fail
      refine (awake_any _).mono ?_
      rintro e w3 ⟨rfl, hb3⟩
      go_wp2
      go_ret
      have g2 := below_next hb1 hb1.size hb2
      exact ⟨rfl, below_next g2 g2.size hb3⟩
end Go.Proofs.Ythmdmbgjheploaa
