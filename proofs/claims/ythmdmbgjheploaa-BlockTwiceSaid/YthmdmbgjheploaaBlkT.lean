/- BlockTwice: a crash behind a crash changes nothing more. -/
import Derived.Test.YthmdmbgjheploaaBlkD
set_option linter.unusedVariables false
set_option linter.unusedSimpArgs false
namespace Go.Proofs.Ythmdmbgjheploaa
open Go.RowKit

set_option maxRecDepth 100000 in
set_option maxHeartbeats 3200000 in
theorem BlockTwice.walk (A : Option Addr) (cap : Nat) (l : List ActS) (ma mb : Int) (w : World) (hA : Acts w A l) (hm : 0 ≤ ma ∧ ma ≤ 18446744073709551615) (hn : 0 ≤ mb ∧ mb ≤ 18446744073709551615) :
    Calls Try.prog 9 #[.slice A l.length cap, .int .u64 ma, .int .u64 mb] w fun e w' => e = .returned (.bool true) ∧ Below w.heap.size w w' := by
  obtain ⟨a, rfl⟩ := Int.eq_ofNat_of_zero_le hm.1
  obtain ⟨b, rfl⟩ := Int.eq_ofNat_of_zero_le hn.1
  have ha : a < 18446744073709551616 := by omega
  have hb : b < 18446744073709551616 := by omega
  have hs0 := Lib.hid (some_any w)
  have hll : l.length ≤ 4398046511000 := hA.1
  have HA := Lib.hid hA
  clear hA hm hn
  go_enter Try.func9, Try.ntmps9
  go_wp2_with fail
  refine hs0.out.mono ?_
  rintro e w1 ⟨p, g, rfl, hd, hb1⟩
  have hI0 := Lib.hid (Dk.start hd)
  have HB0 := Lib.hid hb1
  clear hd hb1
  go_wp2
  go_loopw [8] (fun s8 wr => ∃ (k : Nat) (v : Value) (d : DiskS), k ≤ 100 ∧ k ≤ l.length ∧ s8 = .int .i64 k ∧ Hid (Dk w.heap.size p g k wr v d) ∧ Hid (Below w.heap.size w wr)) (fun s8 _ => 100 - (intOf s8).toNat)
  case atStart => exact ⟨0, _, _, by omega, by omega, rfl, hI0, HB0⟩
  case round =>
    obtain ⟨k, v, d, hk, hkl, rfl, hI, hB⟩ := hrel
    by_cases hlt : k < l.length ∧ k < 100
    · obtain ⟨hlt, hk2⟩ := hlt
      obtain ⟨bb, off, rfl, hbl, xk, xa, xs, xm, hx, a0, a1, a2, a3, o1, o2, o3, o4, o5, o6, o7⟩ := (HA.out.below hB.out).at k hlt
      clear hx
      go_wp2_with fail
      go_still_tail 11, (by kernel_rfl)
      change wpList _ _ _ _ _ wr.drew
      have hI1 := Lib.hid (hI.out.below (Below.refl _ wr).drew)
      have hB1 := Lib.hid hB.out.drew
      clear hI hB a0 a1 a2 a3 hbl
      generalize wr.drew = wr2 at hI1 hB1 ⊢
      have hfew := hI1.out.few
      go_wp2_with fail
      refine (write_any _ _ p g _ _ xa xs hI1.out.disk o5 (by omega)).mono ?_
      rintro e w2 ⟨v2, rfl, hd2, hf2, hv2⟩
      have hI2 := Lib.hid (hI1.out.wrote xa xs hd2)
      have hB2 := Lib.hid (hB1.out.trans (hI1.out.disk.below hB1.out.size hf2))
      generalize (wrD d xa xs).1 = d2 at *
      clear hd2 hf2 hv2
      go_wp2
      go_roundw
      case rel => exact ⟨k + 1, v2, d2, by omega, by omega, by go_num, hI2, hB2⟩
      case measure => simp [intOf]; omega
    · have hend : Hid (¬ (k < l.length ∧ k < 100)) := Lib.hid hlt
      have ho : k < l.length ∧ (100 : Int) ≤ k ∨ ¬ k < l.length := by omega
      clear hlt
      rcases ho with ⟨hkl2, hk2⟩ | hkl2
      all_goals
        go_wp2_with fail
        refine (crash_any _ _ p g _ _ a ha hI.out.disk).mono ?_
        rintro e w2 ⟨v2, rfl, hd2, hf2, hv2⟩
        have hI2 := Lib.hid (hI.out.crashed a hd2)
        have hB2 := Lib.hid (hB.out.trans (hI.out.disk.below hB.out.size hf2))
        have hE : Hid (∀ m, crashD (crashD d a) m = crashD d a) := Lib.hid (fun m => rfl)
        generalize crashD d a = d2 at *
        clear hd2 hf2 hv2 hI hB
        have hI3 := Lib.hid (hI2.out.below ((Below.refl _ w2).alloc (Nat.le_refl _) (.cells #[.string ⟨#[]⟩, .string ⟨#[]⟩, .string ⟨#[]⟩, .string ⟨#[]⟩, .string ⟨#[]⟩, .string ⟨#[]⟩, .string ⟨#[]⟩, .string ⟨#[]⟩] 37)))
        have hR3 := Lib.hid (Arr8.start w2 d2)
        have hB3 := Lib.hid (hB2.out.alloc (B := w.heap.size) hB2.out.size (.cells #[.string ⟨#[]⟩, .string ⟨#[]⟩, .string ⟨#[]⟩, .string ⟨#[]⟩, .string ⟨#[]⟩, .string ⟨#[]⟩, .string ⟨#[]⟩, .string ⟨#[]⟩] 37))
        have hsz := hB2.out.size
        go_wp2
        go_loopw [10, 11, 12] (fun s10 s11 s12 wq => ∃ (j : Nat) (was : List ByteArray), j ≤ 8 ∧ s10 = .int .i64 j ∧ Hid (Dk w.heap.size p g 0 wq v2 d2) ∧ Hid (Arr8 w2.heap.size j wq d2 was) ∧ Hid (Below w.heap.size w wq)) (fun s10 _ _ _ => 8 - (intOf s10).toNat)
        case atStart => exact ⟨0, _, by omega, rfl, hI3, hR3, hB3⟩
        case round =>
          obtain ⟨j, was, hj, rfl, hI4, hR4, hB4⟩ := hrel
          by_cases hj8 : j < 8
          · have c1 := read_any _ _ p g _ _ (j : Int) hI4.out.disk
            rw [read_cur d2 j hI4.out.free.1 (by rw [hI4.out.n8]; exact hj8)] at c1
            have c1' := Lib.hid c1
            have hS : Hid (∀ W d2 last, Arr8 w2.heap.size j W d2 last → Arr8 w2.heap.size (j + 1) (W.setCell ⟨w2.heap.size, j, none⟩ (.string (cur d2 j))) d2 (last.set j (cur d2 j))) := Lib.hid (fun _ _ _ h => h.set hj8)
            clear c1
            go_wp2_with fail
            refine c1'.out.mono ?_
            rintro e w5 ⟨rfl, hb5⟩
            have hI5 := Lib.hid (hI4.out.below hb5)
            have hR5 := Lib.hid (hR4.out.below hb5)
            have hB5 := Lib.hid (hB4.out.trans (hb5.mono hB4.out.size))
            clear hb5
            have ca : ∃ z, w5.cell? ⟨w2.heap.size, j, none⟩ = some z := ⟨_, cell_blk (i := j) hR5.out.arr (by simp [hR5.out.l8, hj8]; rfl)⟩
            obtain ⟨z, ca⟩ := ca
            have za := frozen_blk j hR5.out.arr
            have hR6 := Lib.hid (hS.out _ _ _ hR5.out)
            have hI6 := Lib.hid (hI5.out.frm (S := fun i => i = w2.heap.size) ((Frm.refl _ w5).setCell ⟨w2.heap.size, j, none⟩ (.string (cur d2 j)) (fun _ => rfl)) (fun i hi e => hI5.out.disk.apart hR5.out.arr (by decide) (by decide) (by decide) (e ▸ hi)))
            have hB6 := Lib.hid (hB5.out.setCell (p := ⟨w2.heap.size, j, none⟩) hsz (.string (cur d2 j)))
            clear hS hI4 hR4 hB4 hI5 hB5
            generalize cur d2 j = x at *
            go_wp2
            go_roundw
            case rel => exact ⟨j + 1, _, by omega, by go_num, hI6, hR6, hB6⟩
            case measure => simp [intOf]; omega
          · obtain rfl : j = 8 := by omega
            go_wp2_with fail
            have c1 := crash_any _ _ p g _ _ b hb hI4.out.disk
            rw [hE.out] at c1
            refine c1.mono ?_
            clear c1
            rintro e w6 ⟨v6, rfl, hd6, hf6, hv6⟩
            have hI6 : Hid (Dk w.heap.size p g 0 w6 v6 d2) := Lib.hid { hI4.out with disk := hd6 }
            have hR6 : Hid (Arr8 w2.heap.size 8 w6 d2 was) := Lib.hid { hR4.out with arr := hf6.blk (hI4.out.disk.apart hR4.out.arr (by decide) (by decide) (by decide)) hR4.out.arr }
            have hB6 := Lib.hid (hB4.out.trans (hI4.out.disk.below hB4.out.size hf6))
            clear hd6 hf6 hv6 hI4 hR4 hB4
            go_wp2
            go_loopw [13, 14, 15] (fun s13 s14 s15 wz => ∃ (i : Nat), i ≤ 8 ∧ s13 = .int .i64 i ∧ Hid (Dk w.heap.size p g 0 wz v6 d2) ∧ Hid (Arr8 w2.heap.size 8 wz d2 was) ∧ Hid (Below w.heap.size w wz)) (fun s13 _ _ _ => 8 - (intOf s13).toNat)
            case atStart => exact ⟨0, by omega, rfl, hI6, hR6, hB6⟩
            case round =>
              obtain ⟨i, hi, rfl, hI7, hR7, hB7⟩ := hrel
              by_cases hi8 : i < 8
              · have c1 := read_any _ _ p g _ _ (i : Int) hI7.out.disk
                rw [read_cur d2 i hI7.out.free.1 (by rw [hI7.out.n8]; exact hi8)] at c1
                have c1' := Lib.hid c1
                clear c1
                go_wp2_with fail
                refine c1'.out.mono ?_
                rintro e w8 ⟨rfl, hb8⟩
                have hI8 := Lib.hid (hI7.out.below hb8)
                have hR8 := Lib.hid (hR7.out.below hb8)
                have hB8 := Lib.hid (hB7.out.trans (hb8.mono hB7.out.size))
                have ca := hR8.out.at i hi8 hi8
                clear hb8
                generalize cur d2 i = x at *
                go_wp2
                go_roundw
                case rel => exact ⟨i + 1, by omega, by go_num, hI8, hR8, hB8⟩
                case measure => simp [intOf]; omega
              · go_wp2_with fail
                refine (bawake_any _).mono ?_
                rintro e w9 ⟨rfl, hb9⟩
                go_wp2
                go_ret
                exact ⟨rfl, hB7.out.trans (hb9.mono hB7.out.size)⟩
end Go.Proofs.Ythmdmbgjheploaa
