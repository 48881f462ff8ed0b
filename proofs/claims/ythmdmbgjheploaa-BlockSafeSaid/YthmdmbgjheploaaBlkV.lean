/- BlockSafe: what is synced is safe from every crash, and each block is then the safe one, or one of those that were written to it since. -/
import Derived.Test.YthmdmbgjheploaaBlkU
import Derived.Test.YthmdmbgjheploaaLast
import Derived.Deep.RegionHeld3
import Derived.BigRegion
set_option linter.unusedVariables false
set_option linter.unusedSimpArgs false
namespace Go.Proofs.Ythmdmbgjheploaa
open Go.RowKit Go.Proofs.Ythmdmbgjheploaa.PrintLast

set_option maxRecDepth 100000 in
set_option maxHeartbeats 6400000 in
theorem BlockSafe.walk (A : Option Addr) (cap : Nat) (l : List ActS) (A1 : Option Addr) (cap1 : Nat) (l1 : List ActS) (ma : Int) (w : World) (hA : Acts w A l) (hA1 : Acts w A1 l1) (hm : 0 ≤ ma ∧ ma ≤ 18446744073709551615) :
    Calls Try.prog 8 #[.slice A l.length cap, .slice A1 l1.length cap1, .int .u64 ma] w fun e w' => e = .returned (.bool true) ∧ Below w.heap.size w w' := by
  obtain ⟨a, rfl⟩ := Int.eq_ofNat_of_zero_le hm.1
  have ha : a < 18446744073709551616 := by omega
  have hs0 := Lib.hid (some_any w)
  have hll : l.length ≤ 4398046511000 := hA.1
  have hll1 : l1.length ≤ 4398046511000 := hA1.1
  have HA := Lib.hid hA
  have HA1 := Lib.hid hA1
  clear hA hm hA1
  obtain ⟨i0, hi, hz0, hz1, hz2⟩ := info_parts Try.infoS
  go_enter Try.func8, Try.ntmps8
  go_wp2_with fail
  refine hs0.out.mono ?_
  rintro e w1 ⟨p, g, rfl, hd, hb1⟩
  have hI0 := Lib.hid (Dk.start hd)
  have HB0 := Lib.hid hb1
  clear hd hb1
  go_wp2
  go_loopw [8] (fun s8 wr => ∃ (k : Nat) (v : Value) (d : DiskS), k ≤ 100 ∧ k ≤ l.length ∧ s8 = .int .i64 k ∧ Hid (Dk w.heap.size p g k wr v d) ∧ Hid (Below w.heap.size w wr)) (fun s8 _ => 100 - (intOf s8).toNat)
  case atStart => exact ⟨0, _, _, by omega, by omega, rfl, hI0, HB0⟩
  case round =>
    obtain ⟨k, v, d, hk, hkl, rfl, hI, hB⟩ := hrel
    by_cases hlt : k < l.length ∧ k < 100
    · obtain ⟨hlt, hk2⟩ := hlt
      obtain ⟨bb, off, rfl, hbl, xk, xa, xs, xm, hx, a0, a1, a2, a3, o1, o2, o3, o4, o5, o6, o7⟩ := (HA.out.below hB.out).at k hlt
      clear hx
      go_wp2_with fail
      go_still_tail 11, (by kernel_rfl)
      change wpList _ _ _ _ _ wr.drew
      have hI1 := Lib.hid (hI.out.below (Below.refl _ wr).drew)
      have hB1 := Lib.hid (hB.out.drew)
      clear hI hB a0 a1 a2 a3 hbl
      generalize wr.drew = wr2 at hI1 hB1 ⊢
      have hfew := hI1.out.few
      go_wp2_with fail
      refine (write_any _ _ p g _ _ xa xs hI1.out.disk o5 (by omega)).mono ?_
      rintro e w2 ⟨v2, rfl, hd2, hf2, hv2⟩
      have hI2 := Lib.hid (hI1.out.wrote xa xs hd2)
      have hB2 := Lib.hid (hB1.out.trans (hI1.out.disk.below hB1.out.size hf2))
      generalize (wrD d xa xs).1 = d2 at *
      clear hd2 hf2 hv2
      go_wp2
      go_roundw
      case rel => exact ⟨k + 1, v2, d2, by omega, by omega, by go_num, hI2, hB2⟩
      case measure => simp [intOf]; omega
    · have hend : Hid (¬ (k < l.length ∧ k < 100)) := Lib.hid hlt
      have ho : k < l.length ∧ (100 : Int) ≤ k ∨ ¬ k < l.length := by omega
      clear hlt
      rcases ho with ⟨hkl2, hk2⟩ | hkl2
      all_goals
        have c1 := sync_any _ _ p g _ _ hI.out.disk
        have hr0 : (syncD d).2 = 0 := by rw [sync_free d hI.out.free.1 hI.out.free.2]
        have hlate : (syncD d).1.late = [] := by rw [sync_free d hI.out.free.1 hI.out.free.2]
        rw [hr0] at c1
        have c1' := Lib.hid c1
        have hlate' := Lib.hid hlate
        clear c1 hr0 hlate
        go_wp2_with fail
        refine c1'.out.mono ?_
        rintro e w2 ⟨v2, rfl, hd2, hf2, hv2⟩
        have hI2 := Lib.hid (hI.out.synced hd2)
        have hB2 := Lib.hid (hB.out.trans (hI.out.disk.below hB.out.size hf2))
        generalize (syncD d).1 = d2 at *
        clear hd2 hf2 hv2 hI hB c1'
        have hpg := hI2.out.disk.lt
        have hp : p < w2.heap.size + 1 := by have := hpg p (.inl rfl); omega
        have hg : g < w2.heap.size + 1 := by have := hpg g (.inr (.inl rfl)); omega
        clear hpg
        have hI3 := Lib.hid (hI2.out.below ((Below.refl _ w2).alloc (Nat.le_refl _) (.cells #[.slice none 0 0, .slice none 0 0, .slice none 0 0, .slice none 0 0, .slice none 0 0, .slice none 0 0, .slice none 0 0, .slice none 0 0] 46)))
        have hR3 := Lib.hid (Mays.start w2 d2.safe [])
        have hB3 := Lib.hid (hB2.out.alloc (B := w.heap.size) hB2.out.size (.cells #[.slice none 0 0, .slice none 0 0, .slice none 0 0, .slice none 0 0, .slice none 0 0, .slice none 0 0, .slice none 0 0, .slice none 0 0] 46))
        have hsz := hB2.out.size
        go_wp2
        go_loopw [10, 11, 12] (fun s10 s11 s12 wq => ∃ (j : Nat) (V : Nat → Value), j ≤ 8 ∧ s10 = .int .i64 j ∧ Hid (Dk w.heap.size p g 0 wq v2 d2) ∧ Hid (Mays w2.heap.size (w2.heap.size + 1) j wq d2.safe [] V) ∧ Hid (Below w.heap.size w wq)) (fun s10 _ _ _ => 8 - (intOf s10).toNat)
        case atStart => exact ⟨0, _, by omega, rfl, hI3, hR3, hB3⟩
        case round =>
          obtain ⟨j, V, hj, rfl, hI4, hR4, hB4⟩ := hrel
          by_cases hj8 : j < 8
          · have c1 := read_any _ _ p g _ _ (j : Int) hI4.out.disk
            have hcur : cur d2 j = d2.safe.getD j ⟨#[]⟩ := by unfold cur; rw [hlate'.out]; rfl
            rw [read_cur d2 j hI4.out.free.1 (by rw [hI4.out.n8]; exact hj8), hcur] at c1
            have c1' := Lib.hid c1
            clear c1 hcur
            go_wp2_with fail
            refine c1'.out.mono ?_
            rintro e w5 ⟨rfl, hb5⟩
            have hI5 := Lib.hid (hI4.out.below hb5)
            have hR5 := Lib.hid (hR4.out.below hb5)
            have hB5 := Lib.hid (hB4.out.trans (hb5.mono hB4.out.size))
            have hs5 : w2.heap.size + 1 ≤ w5.heap.size := by have := blk_lt hR5.out.arr; omega
            clear hb5
            have hR6 := Lib.hid (hR5.out.first hj8 hs5)
            have ca := (hR5.out.below ((Below.refl _ w5).alloc (Nat.le_refl _) (.cells #[.string (d2.safe.getD j ⟨#[]⟩)] 9))).cell j hj8
            have za := frozen_blk j (blk_alloc (.cells #[.string (d2.safe.getD j ⟨#[]⟩)] 9) hR5.out.arr)
            have hI6 := Lib.hid (hI5.out.frm (S := fun i => i = w2.heap.size) (((Frm.refl _ w5).alloc (.cells #[.string (d2.safe.getD j ⟨#[]⟩)] 9)).setCell ⟨w2.heap.size, j, none⟩ (.slice (some ⟨w5.heap.size, 0, none⟩) 1 1) (fun _ => rfl)) (fun i hi e => hI5.out.disk.apart hR5.out.arr (by decide) (by decide) (by decide) (e ▸ hi)))
            have hB6 := Lib.hid ((hB5.out.alloc (B := w.heap.size) hB5.out.size (.cells #[.string (d2.safe.getD j ⟨#[]⟩)] 9)).setCell (p := ⟨w2.heap.size, j, none⟩) hsz (.slice (some ⟨w5.heap.size, 0, none⟩) 1 1))
            clear hI4 hR4 hB4 hI5 hB5 hR5
            generalize d2.safe.getD j ⟨#[]⟩ = x at *
            go_wp2
            go_roundw
            case rel => exact ⟨j + 1, _, by omega, by go_num, hI6, hR6, hB6⟩
            case measure => simp [intOf]; omega
          · have h8 : j = 8 := by omega
            have hR4' : Hid (Mays w2.heap.size (w2.heap.size + 1) 8 wr d2.safe [] V) := h8 ▸ hR4
            clear h8 hR4
            go_wp2
            obtain ⟨wo, hwo⟩ : ∃ wo : World, wo = wr := ⟨_, rfl⟩
            subst hwo
            go_loopw [13] (fun s13 wz => ∃ (i : Nat) (v3 : Value) (d3 : DiskS) (V3 : Nat → Value), i ≤ 100 ∧ i ≤ l1.length ∧ s13 = .int .i64 i ∧ Hid (d3.safe = d2.safe) ∧ Hid (Dk w.heap.size p g i wz v3 d3) ∧ Hid (Mays w2.heap.size (w2.heap.size + 1) 8 wz d2.safe d3.late V3) ∧ Hid (Below w.heap.size w wz)) (fun s13 _ => 100 - (intOf s13).toNat)
            case atStart => exact ⟨0, _, _, _, by omega, by omega, rfl, Lib.hid rfl, hI4, by rw [hlate'.out]; exact hR4', hB4⟩
            case round =>
              obtain ⟨i, v3, d3, V3, hi1, hi2, rfl, hS, hI5, hR5, hB5⟩ := hrel
              by_cases hlt : i < l1.length ∧ i < 100
              · obtain ⟨hlt, hk2⟩ := hlt
                obtain ⟨bb, off, rfl, hbl, xk, xa, xs, xm, hx, b0, b1, b2, b3, o1, o2, o3, o4, o5, o6, o7⟩ := HA1.out.at i hlt
                have a1 := (hB5.out.cell hbl).trans b1
                have a2 := (hB5.out.cell hbl).trans b2
                have hbl' := Lib.hid hbl
                have b1' := Lib.hid b1
                have b2' := Lib.hid b2
                clear hx b0 b1 b2 b3
                go_wp2_with fail
                go_still_tail 11, (by kernel_rfl)
                change wpList _ _ _ _ _ wr.drew
                have hI6 := Lib.hid (hI5.out.below (Below.refl _ wr).drew)
                have hR6 := Lib.hid (hR5.out.below (Below.refl _ wr).drew)
                have hB6 := Lib.hid (hB5.out.drew)
                clear hI5 hR5 hB5 a1 a2 hbl
                generalize wr.drew = wz2 at hI6 hR6 hB6 ⊢
                have hfew := hI6.out.few
                have c1 := write_any wz2 _ p g _ _ xa xs hI6.out.disk o5 (by omega)
                have hw := write_free d3 hI6.out.free.1 hI6.out.free.2 xa xs
                rw [hI6.out.n8] at hw
                by_cases hg3 : 0 ≤ xa ∧ xa < (8 : Nat) ∧ xs.size ≤ 256
                · rw [if_pos hg3] at hw
                  have hwl : (wrD d3 xa xs).1.late = d3.late ++ [(xa, xs)] := by rw [hw]
                  have hws : (wrD d3 xa xs).1.safe = d3.safe := by rw [hw]
                  have hw0 : (wrD d3 xa xs).2 = 0 := by rw [hw]
                  rw [hw0] at c1
                  have c1' := Lib.hid c1
                  have hwl' := Lib.hid hwl
                  have hws' := Lib.hid (hws.trans hS.out)
                  obtain ⟨y, rfl⟩ := Int.eq_ofNat_of_zero_le hg3.1
                  have hy : y < 8 := by omega
                  clear c1 hw hw0 hwl hws hg3
                  go_wp2_with fail
                  refine c1'.out.mono ?_
                  rintro e w7 ⟨v7, rfl, hd7, hf7, hv7⟩
                  have hI7 := Lib.hid (hI6.out.wrote y xs hd7)
                  have hR7 := Lib.hid (hR6.out.disk hI6.out.disk hf7 hp hg)
                  have hB7 := Lib.hid (hB6.out.trans (hI6.out.disk.below hB6.out.size hf7))
                  generalize (wrD d3 y xs).1 = d7 at *
                  clear hd7 hf7 hv7 hI6 hR6 hB6 c1'
                  have a1 := (hB7.out.cell hbl'.out).trans b1'.out
                  have a2 := (hB7.out.cell hbl'.out).trans b2'.out
                  have b7 := (hB7.out.alloc (B := w.heap.size) hB7.out.size (.cells #[.string xs] 9))
                  have a1' := (b7.cell hbl'.out).trans b1'.out
                  have hn1 := Lib.hid (mayOf_length d2.safe d3.late y)
                  have ca := hR7.out.cell y hy
                  have hown := Lib.hid (hR7.out.own y hy)
                  have harr := Lib.hid hR7.out.arr
                  have hyi : (y : Int) < 8 := by omega
                  have hyj : (0 : Int) ≤ y := by omega
                  have hs7 : w2.heap.size + 1 ≤ w7.heap.size := by have := blk_lt hR7.out.arr; omega
                  have a2' := ((hB7.out.alloc (B := w.heap.size) hB7.out.size (.cells #[.string xs] 9)).cell hbl'.out).trans b2'.out
                  have ca' := (hR7.out.below ((Below.refl _ w7).alloc (Nat.le_refl _) (.cells #[.string xs] 9))).cell y hy
                  clear b7
                  have hlow : Hid (∀ i, i < w.heap.size → ¬ (V3 y).ownBlock = some i) := Lib.hid (fun i hi he => by
                    obtain ⟨ga, capa, cura, ea, hba, hha⟩ := hR7.out.block y hy
                    rw [ea] at he
                    have : ga = i := by simpa [Value.ownBlock] using he
                    omega)
                  go_wp2_with fail
                  have hg1 := hn1.out
                  have hm1 : (mayOf d2.safe d3.late y).length + 1 ≤ maxLen := by unfold maxLen; omega
                  have hm2 : ((mayOf d2.safe d3.late y).length + 1) * 16 ≤ 140737488355328 := by omega
                  have hb0 : w2.heap.size + 1 ≤ (w7.alloc (.cells #[.string xs] 9)).heap.size := by simp; omega
                  have za := frozen_blk y harr.out
                  have nb1 : (V3 y).ownBlock ≠ some bb := fun e => hlow.out bb hbl'.out e
                  have nb2 : (V3 y).ownBlock ≠ some w2.heap.size := fun e => by
                    obtain ⟨ga, capa, cura, ea, hba, hha⟩ := hR7.out.block y hy
                    rw [ea] at e
                    have : ga = w2.heap.size := by simpa [Value.ownBlock] using e
                    omega
                  have lb1 : bb < w7.heap.size := by have h1 := hB7.out.size; have h2 := hbl'.out; omega
                  have lb2 : w2.heap.size < w7.heap.size := by omega
                  have zb : (w7.alloc (.cells #[.string xs] 9)).drew.frozen? ⟨w2.heap.size, y, none⟩ = false := frozen_blk y (blk_alloc (.cells #[.string xs] 9) harr.out)
                  clear hg1
                  have hne : bb ≠ w2.heap.size := by have := hbl'.out; omega
                  have ca'' : (w7.alloc (.cells #[.string xs] 9)).drew.cell? ⟨w2.heap.size, y, none⟩ = some (V3 y) := ca'
                  refine start_ (n := 21) (S := fun w' => w'.cell? ⟨bb, off + i * 4 + 1, none⟩ = some (.int .i64 y) ∧ w'.cell? ⟨bb, off + i * 4 + 2, none⟩ = some (.string xs) ∧ w'.cell? ⟨w2.heap.size, y, none⟩ = some (V3 y)) (ds := [20]) #[false, false, false, false, false, false, false, false, false, false, false, false, false, false, false, false, false, false, false, false, false] (by kernel_rfl) rfl rfl ⟨a1, a2, ca⟩ (fun hHeld => ?_)
                  refine pure_ (i := 0) (N := some 84) (v := ?_) (a' := ?_) #[true, false, false, false, false, false, false, false, false, false, false, false, false, false, false, false, false, false, false, false, false] rfl rfl (by kernel_rfl) (fun _ _ _ h => h) (Or.inl ⟨by rfl, ?_⟩) ?_ ?_
                  rotate_left
                  · intro w'
                    go_simp
                    with_reducible rfl
                  rotate_left
                  · simp only [Act.put, List.setIfInBounds_toArray, List.set_cons_zero, List.set_cons_succ, i64_w, i32_w]
                    rfl
                  refine pure_ (i := 1) (N := some 85) (v := ?_) (a' := ?_) #[true, true, false, false, false, false, false, false, false, false, false, false, false, false, false, false, false, false, false, false, false] rfl rfl (by kernel_rfl) (fun _ _ _ h => h) (Or.inl ⟨by rfl, ?_⟩) ?_ ?_
                  rotate_left
                  · intro w'
                    go_simp
                    with_reducible rfl
                  rotate_left
                  · simp only [Act.put, List.setIfInBounds_toArray, List.set_cons_zero, List.set_cons_succ, i64_w, i32_w]
                    rfl
                  refine pure_ (i := 2) (N := some 86) (v := ?_) (a' := ?_) #[true, true, true, false, false, false, false, false, false, false, false, false, false, false, false, false, false, false, false, false, false] rfl rfl (by kernel_rfl) (fun _ _ _ h => h) (Or.inl ⟨by rfl, ?_⟩) ?_ ?_
                  rotate_left
                  · intro w'
                    go_simp
                    with_reducible rfl
                  rotate_left
                  · simp only [Act.put, List.setIfInBounds_toArray, List.set_cons_zero, List.set_cons_succ, i64_w, i32_w]
                    rfl
                  refine pure_ (i := 3) (N := some 87) (v := ?_) (a' := ?_) #[true, true, true, true, false, false, false, false, false, false, false, false, false, false, false, false, false, false, false, false, false] rfl rfl (by kernel_rfl) (fun _ _ _ h => h) (Or.inl ⟨by rfl, ?_⟩) ?_ ?_
                  rotate_left
                  · intro w'
                    go_simp
                    with_reducible rfl
                  rotate_left
                  · simp only [Act.put, List.setIfInBounds_toArray, List.set_cons_zero, List.set_cons_succ, i64_w, i32_w]
                    rfl
                  refine pure_ (i := 5) (N := some 89) (v := ?_) (a' := ?_) #[true, true, true, true, false, true, false, false, false, false, false, false, false, false, false, false, false, false, false, false, false] rfl rfl (by kernel_rfl) (fun _ _ _ h => h) (Or.inl ⟨by rfl, ?_⟩) ?_ ?_
                  rotate_left
                  · intro w'
                    go_simp
                    with_reducible rfl
                  rotate_left
                  · simp only [Act.put, List.setIfInBounds_toArray, List.set_cons_zero, List.set_cons_succ, i64_w, i32_w]
                    rfl
                  refine pure_ (i := 6) (N := some 90) (v := ?_) (a' := ?_) #[true, true, true, true, false, true, true, false, false, false, false, false, false, false, false, false, false, false, false, false, false] rfl rfl (by kernel_rfl) (fun _ _ _ h => h) (Or.inl ⟨by rfl, ?_⟩) ?_ ?_
                  rotate_left
                  · intro w'
                    go_simp
                    with_reducible rfl
                  rotate_left
                  · simp only [Act.put, List.setIfInBounds_toArray, List.set_cons_zero, List.set_cons_succ, i64_w, i32_w]
                    rfl
                  refine pure_ (i := 7) (N := some 91) (v := ?_) (a' := ?_) #[true, true, true, true, false, true, true, true, false, false, false, false, false, false, false, false, false, false, false, false, false] rfl rfl (by kernel_rfl) (fun _ _ _ h => h) (Or.inl ⟨by rfl, ?_⟩) ?_ ?_
                  rotate_left
                  · intro w'
                    go_simp
                    with_reducible rfl
                  rotate_left
                  · simp only [Act.put, List.setIfInBounds_toArray, List.set_cons_zero, List.set_cons_succ, i64_w, i32_w]
                    rfl
                  refine pure_ (i := 8) (N := some 92) (v := ?_) (a' := ?_) #[true, true, true, true, false, true, true, true, true, false, false, false, false, false, false, false, false, false, false, false, false] rfl rfl (by kernel_rfl) (fun _ _ _ h => h) (Or.inl ⟨by rfl, ?_⟩) ?_ ?_
                  rotate_left
                  · intro w'
                    go_simp
                    with_reducible rfl
                  rotate_left
                  · simp only [Act.put, List.setIfInBounds_toArray, List.set_cons_zero, List.set_cons_succ, i64_w, i32_w]
                    rfl
                  refine pure_ (i := 12) (N := some 96) (v := ?_) (a' := ?_) #[true, true, true, true, false, true, true, true, true, false, false, false, true, false, false, false, false, false, false, false, false] rfl rfl (by kernel_rfl) (fun _ _ _ h => h) (Or.inl ⟨by rfl, ?_⟩) ?_ ?_
                  rotate_left
                  · intro w'
                    go_simp
                    with_reducible rfl
                  rotate_left
                  · simp only [Act.put, List.setIfInBounds_toArray, List.set_cons_zero, List.set_cons_succ, i64_w, i32_w]
                    rfl
                  refine pure_ (i := 13) (N := some 97) (v := ?_) (a' := ?_) #[true, true, true, true, false, true, true, true, true, false, false, false, true, true, false, false, false, false, false, false, false] rfl rfl (by kernel_rfl) (fun _ _ _ h => h) (Or.inl ⟨by rfl, ?_⟩) ?_ ?_
                  rotate_left
                  · intro w'
                    go_simp
                    with_reducible rfl
                  rotate_left
                  · simp only [Act.put, List.setIfInBounds_toArray, List.set_cons_zero, List.set_cons_succ, i64_w, i32_w]
                    rfl
                  refine pure_ (i := 14) (N := some 98) (v := ?_) (a' := ?_) #[true, true, true, true, false, true, true, true, true, false, false, false, true, true, true, false, false, false, false, false, false] rfl rfl (by kernel_rfl) (fun _ _ _ h => h) (Or.inl ⟨by rfl, ?_⟩) ?_ ?_
                  rotate_left
                  · intro w'
                    go_simp
                    with_reducible rfl
                  rotate_left
                  · simp only [Act.put, List.setIfInBounds_toArray, List.set_cons_zero, List.set_cons_succ, i64_w, i32_w]
                    rfl
                  refine pure_ (i := 15) (N := some 99) (v := ?_) (a' := ?_) #[true, true, true, true, false, true, true, true, true, false, false, false, true, true, true, true, false, false, false, false, false] rfl rfl (by kernel_rfl) (fun _ _ _ h => h) (Or.inl ⟨by rfl, ?_⟩) ?_ ?_
                  rotate_left
                  · intro w'
                    go_simp
                    with_reducible rfl
                  rotate_left
                  · simp only [Act.put, List.setIfInBounds_toArray, List.set_cons_zero, List.set_cons_succ, i64_w, i32_w]
                    rfl
                  refine take_ (i := 4) (N := some 88) (v := ?_) (a' := ?_) #[true, true, true, true, true, true, true, true, true, false, false, false, true, true, true, true, false, false, false, false, false] rfl rfl (by kernel_rfl) (fun _ _ _ h => h) (Or.inl ⟨by rfl, ?_⟩) hHeld ?_ ?_
                  rotate_left
                  · rintro w' ⟨s0, s1, s2⟩
                    go_simp
                    with_reducible rfl
                  rotate_left
                  · simp only [Act.put, List.setIfInBounds_toArray, List.set_cons_zero, List.set_cons_succ, i64_w, i32_w]
                    rfl
                  refine take_ (i := 9) (N := some 93) (v := ?_) (a' := ?_) #[true, true, true, true, true, true, true, true, true, true, false, false, true, true, true, true, false, false, false, false, false] rfl rfl (by kernel_rfl) (fun _ _ _ h => h) (Or.inl ⟨by rfl, ?_⟩) hHeld ?_ ?_
                  rotate_left
                  · rintro w' ⟨s0, s1, s2⟩
                    go_simp
                    with_reducible rfl
                  rotate_left
                  · simp only [Act.put, List.setIfInBounds_toArray, List.set_cons_zero, List.set_cons_succ, i64_w, i32_w]
                    rfl
                  refine pure_ (i := 10) (N := some 94) (v := ?_) (a' := ?_) #[true, true, true, true, true, true, true, true, true, true, true, false, true, true, true, true, false, false, false, false, false] rfl rfl (by kernel_rfl) (fun _ _ _ h => h) (Or.inl ⟨by rfl, ?_⟩) ?_ ?_
                  rotate_left
                  · intro w'
                    go_simp
                    with_reducible rfl
                  rotate_left
                  · simp only [Act.put, List.setIfInBounds_toArray, List.set_cons_zero, List.set_cons_succ, i64_w, i32_w]
                    rfl
                  refine take_ (i := 11) (N := some 95) (v := ?_) (a' := ?_) #[true, true, true, true, true, true, true, true, true, true, true, true, true, true, true, true, false, false, false, false, false] rfl rfl (by kernel_rfl) (fun _ _ _ h => h) (Or.inl ⟨by rfl, ?_⟩) hHeld ?_ ?_
                  rotate_left
                  · rintro w' ⟨s0, s1, s2⟩
                    go_simp
                    with_reducible rfl
                  rotate_left
                  · simp only [Act.put, List.setIfInBounds_toArray, List.set_cons_zero, List.set_cons_succ, i64_w, i32_w]
                    rfl
                  refine take_ (i := 16) (N := some 100) (v := ?_) (a' := ?_) #[true, true, true, true, true, true, true, true, true, true, true, true, true, true, true, true, true, false, false, false, false] rfl rfl (by kernel_rfl) (fun _ _ _ h => h) (Or.inl ⟨by rfl, ?_⟩) hHeld ?_ ?_
                  rotate_left
                  · rintro w' ⟨s0, s1, s2⟩
                    go_simp
                    with_reducible rfl
                  rotate_left
                  · simp only [Act.put, List.setIfInBounds_toArray, List.set_cons_zero, List.set_cons_succ, i64_w, i32_w]
                    rfl
                  refine one_ (i := 17) (N := some 101) #[true, true, true, true, true, true, true, true, true, true, true, true, true, true, true, true, true, true, false, false, false] rfl rfl (by kernel_rfl) (by decide) (fun K hK => ?_)
                  refine value_ (w1 := ?_) (v := ?_) (by rfl) rfl ?_ ?_
                  rotate_left 2
                  · go_simp
                    constructor
                    · rfl
                    · rfl
                  refine hK.out _ _ ⟨a1', a2', ca'⟩ (fun hHeld => ?_)
                  clear hK K
                  refine norm_ (a' := ?_) ?_ ?_
                  rotate_left
                  · show Act.put _ (some 101) _ = _
                    simp only [Act.put, List.setIfInBounds_toArray, List.set_cons_zero, List.set_cons_succ, i64_w, i32_w]
                    rfl
                  refine one_ (i := 18) (N := some 102) #[true, true, true, true, true, true, true, true, true, true, true, true, true, true, true, true, true, true, true, false, false] rfl rfl (by kernel_rfl) (by decide) (fun K hK => ?_)
                  refine step_append_lies _ (by rfl) _ _ _ (by rfl) (w2.heap.size + 1) 9 i0 _ 1 16 Try.underlying45 hi hz0 hz1 hz2 rfl (by omega) (V3 y) _ _ (by rfl) ((hown.out.alloc _).drew) ⟨w7.heap.size, 0, none⟩ 1 1 [.string xs] (by rfl) (by rfl) (World.news_of_block (cs := #[.string xs]) (t := 9) (fr := (0, 0)) (heap_alloc_new w7 _)) (by simp [Value.oneCell']) (by omega) hm1 hm2 hb0 (w7.heap.size + 1) (by simp) ?_
                  intro g8 cap8 w8 hown8 hgrow hat8 hlt8
                  have hf8 : Hid (Frm (fun i => (V3 y).ownBlock = some i) w7 w8) := Lib.hid (((Frm.refl _ w7).drew.alloc _).grown hgrow (fun k hk _ => hk))
                  have hB8 := Lib.hid (hB7.out.trans (hf8.out.below hB7.out.size (hlow.out)))
                  have harr8 := Lib.hid (hR7.out.arrFrm y hy hf8.out)
                  have ca8 := arr_cell harr8.out y hy
                  have za8 := frozen_blk y harr8.out
                  refine hK.out _ _ ⟨(hB8.out.cell hbl'.out).trans b1'.out, (hB8.out.cell hbl'.out).trans b2'.out, ca8⟩ (fun hHeld => ?_)
                  clear hK K
                  refine norm_ (a' := ?_) ?_ ?_
                  rotate_left
                  · show Act.put _ (some 102) _ = _
                    simp only [Act.put, List.setIfInBounds_toArray, List.set_cons_zero, List.set_cons_succ, i64_w, i32_w]
                    rfl
                  refine pure_ (i := 19) (N := some 103) (v := ?_) (a' := ?_) #[true, true, true, true, true, true, true, true, true, true, true, true, true, true, true, true, true, true, true, true, false] rfl rfl (by kernel_rfl) (fun _ _ _ h => h) (Or.inl ⟨by rfl, ?_⟩) ?_ ?_
                  rotate_left
                  · intro w'
                    go_simp
                    with_reducible rfl
                  rotate_left
                  · simp only [Act.put, List.setIfInBounds_toArray, List.set_cons_zero, List.set_cons_succ, i64_w, i32_w]
                    rfl
                  refine last_ (i := 20) (N := none) #[true, true, true, true, true, true, true, true, true, true, true, true, true, true, true, true, true, true, true, true, true] rfl rfl (by kernel_rfl) (by decide) (fun K hK => ?_)
                  refine skip_ (w1 := ?_) (by rfl) rfl ?_ ?_
                  rotate_left
                  · go_simp
                    rfl
                  refine hK.out _ _ ?_
                  clear hK K
                  refine done_ (by kernel_rfl) ?_
                  have hat : (Value.slice (some ⟨g8, 0, none⟩) ((mayOf d2.safe d3.late y).length + 1) cap8).ownBlock = (V3 y).ownBlock ∨ ∀ b, (Value.slice (some ⟨g8, 0, none⟩) ((mayOf d2.safe d3.late y).length + 1) cap8).ownBlock = some b → w7.heap.size ≤ b := by
                    rcases hat8 with h | h
                    · exact .inl h.symm
                    · refine .inr (fun b hb => ?_)
                      have : g8 = b := by simpa [Value.ownBlock] using hb
                      omega
                  have hR9 := hR7.out.more y xs hy hown8 hf8.out hat
                  rw [← hwl'.out] at hR9
                  have hR9' := Lib.hid hR9
                  have hap := hR7.out.apartDisk hI7.out.disk hp hg y hy
                  have hI8 := Lib.hid (hI7.out.frm hf8.out hap)
                  have hI9 := Lib.hid (hI8.out.frm (S := fun i => i = w2.heap.size) ((Frm.refl _ w8).setCell ⟨w2.heap.size, y, none⟩ (.slice (some ⟨g8, 0, none⟩) ((mayOf d2.safe d3.late y).length + 1) cap8) (fun _ => rfl)) (fun i hi e => hI8.out.disk.apart harr8.out (by decide) (by decide) (by decide) (e ▸ hi)))
                  have hB9 := Lib.hid (hB8.out.setCell (p := ⟨w2.heap.size, y, none⟩) hsz (.slice (some ⟨g8, 0, none⟩) ((mayOf d2.safe d3.late y).length + 1) cap8))
                  clear hR9 hat hap
                  go_wp2
                  go_roundw
                  case rel => exact ⟨i + 1, v7, _, _, by omega, by omega, by go_num, hws', hI9, hR9', hB9⟩
                  case measure => simp [intOf]; omega
                · rw [if_neg hg3] at hw
                  have hwd : (wrD d3 xa xs).1 = d3 := by rw [hw]
                  have hw0 : (wrD d3 xa xs).2 = 90 := by rw [hw]
                  rw [hw0] at c1
                  have c1' := Lib.hid c1
                  have hwd' := Lib.hid hwd
                  clear c1 hw hw0 hwd hg3
                  go_wp2_with fail
                  refine c1'.out.mono ?_
                  rintro e w7 ⟨v7, rfl, hd7, hf7, hv7⟩
                  have hI7 := hI6.out.wrote xa xs hd7
                  rw [hwd'.out] at hI7
                  have hI7' := Lib.hid hI7
                  have hR7 := Lib.hid (hR6.out.disk hI6.out.disk hf7 hp hg)
                  have hB7 := Lib.hid (hB6.out.trans (hI6.out.disk.below hB6.out.size hf7))
                  clear hd7 hf7 hv7 hI6 hR6 hB6 c1' hI7
                  go_wp2
                  go_roundw
                  case rel => exact ⟨i + 1, v7, _, _, by omega, by omega, by go_num, hS, hI7', hR7, hB7⟩
                  case measure => simp [intOf]; omega
              · have hend2 : Hid (¬ (i < l1.length ∧ i < 100)) := Lib.hid hlt
                have ho2 : i < l1.length ∧ (100 : Int) ≤ i ∨ ¬ i < l1.length := by omega
                clear hlt
                rcases ho2 with ⟨hkl3, hk3⟩ | hkl3
                all_goals
                  go_wp2_with fail
                  refine (crash_any _ _ p g _ _ a ha hI5.out.disk).mono ?_
                  rintro e w8 ⟨v8, rfl, hd8, hf8, hv8⟩
                  have hI8 := Lib.hid (hI5.out.crashed a hd8)
                  have hlen : Hid (d3.late.length ≤ 100) := Lib.hid (by have := hI5.out.few; omega)
                  have hR8 := Lib.hid (hR5.out.disk hI5.out.disk hf8 hp hg)
                  have hB8 := Lib.hid (hB5.out.trans (hI5.out.disk.below hB5.out.size hf8))
                  have hM : Hid (∀ j, j < 8 → cur (crashD d3 a) j ∈ mayOf d2.safe d3.late j) := Lib.hid (fun j hj => by
                    have := crash_may d3 a j hI5.out.disk.at_ (by rw [hI5.out.n8]; exact hj)
                    rw [hS.out] at this
                    exact this)
                  generalize crashD d3 a = d8 at *
                  clear hd8 hf8 hv8 hI5 hR5 hB5
                  go_wp2
                  go_loopw [14, 15, 16, 17, 18] (fun s14 s15 s16 s17 s18 wz => ∃ (j2 : Nat), j2 ≤ 8 ∧ s14 = .int .i64 j2 ∧ Hid (Dk w.heap.size p g 0 wz v8 d8) ∧ Hid (Mays w2.heap.size (w2.heap.size + 1) 8 wz d2.safe d3.late V3) ∧ Hid (Below w.heap.size w wz)) (fun s14 _ _ _ _ _ => 8 - (intOf s14).toNat)
                  case atStart => exact ⟨0, by omega, rfl, hI8, hR8, hB8⟩
                  case round =>
                    obtain ⟨j2, hj2, rfl, hI9, hR9, hB9⟩ := hrel
                    by_cases hj28 : j2 < 8
                    · have c1 := read_any _ _ p g _ _ (j2 : Int) hI9.out.disk
                      rw [read_cur d8 j2 hI9.out.free.1 (by rw [hI9.out.n8]; exact hj28)] at c1
                      have hm2 := Lib.hid (hM.out j2 hj28)
                      have c1' := Lib.hid c1
                      clear c1
                      generalize hxx : cur d8 j2 = x at *
                      clear hxx
                      go_wp2_with fail
                      refine c1'.out.mono ?_
                      rintro e w10 ⟨rfl, hb10⟩
                      have hI10 := Lib.hid (hI9.out.below hb10)
                      have hR10 := Lib.hid (hR9.out.below hb10)
                      have hB10 := Lib.hid (hB9.out.trans (hb10.mono hB9.out.size))
                      clear hb10 hI9 hR9 hB9
                      obtain ⟨gb, capb, curb, hV, _, _⟩ := hR10.out.block j2 hj28
                      have ca := hR10.out.cell j2 hj28
                      have hown := hR10.out.own j2 hj28
                      rw [hV] at ca hown
                      have hcell : ∀ q (hq : q < (mayOf d2.safe d3.late j2).length), w10.cell? ⟨gb, q, none⟩ = some (.string ((mayOf d2.safe d3.late j2)[q])) := fun q hq => by
                        rw [hown.cellAt q (by omega)]
                        simp [hq]
                      have hcell' := Lib.hid hcell
                      have hml := (mayOf_length d2.safe d3.late j2).2
                      have hfew := hR10.out.low
                      clear hcell hown hV
                      generalize mayOf d2.safe d3.late j2 = ys at *
                      have hyl : ys.length ≤ 1000000 := by have := hlen.out; omega
                      clear hml
                      go_wp2
                      obtain ⟨wo, hwo⟩ : ∃ wo : World, wo = w10 := ⟨_, rfl⟩
                      subst hwo
                      go_loopw [17, 18] (fun s17 s18 wy => ∃ (q : Nat) (f : Bool), q ≤ ys.length ∧ s17 = .bool f ∧ s18 = .int .i64 q ∧ Hid (f = true ↔ x ∈ ys.take q) ∧ wy = wo) (fun _ s18 _ => ys.length - (intOf s18).toNat)
                      case atStart => exact ⟨0, false, by omega, rfl, rfl, Lib.hid (by simp), rfl⟩
                      case round =>
                        obtain ⟨q, f, hq, rfl, rfl, hf, rfl⟩ := hrel
                        by_cases hq8 : q < ys.length
                        · have cb := hcell'.out q hq8
                          have ht : Hid (ys.take (q + 1) = ys.take q ++ [ys[q]]) := Lib.hid (by rw [List.take_append_getElem])
                          generalize ys[q] = y at *
                          cases f with
                          | true =>
                            go_wp2
                            go_roundw
                            case rel => exact ⟨q + 1, true, by omega, rfl, by go_num, Lib.hid (by rw [ht.out]; simp [hf.out.1 rfl]), trivial⟩
                            case measure => simp [intOf]; omega
                          | false =>
                            have hnf : Hid (x ∉ ys.take q) := Lib.hid (fun h => absurd (hf.out.2 h) (by decide))
                            by_cases hxy : y = x
                            · subst hxy
                              go_wp2
                              go_roundw
                              case rel => exact ⟨q + 1, true, by omega, rfl, by go_num, Lib.hid (by rw [ht.out]; simp), trivial⟩
                              case measure => simp [intOf]; omega
                            · go_wp2
                              go_roundw
                              case rel => exact ⟨q + 1, (y.toList == x.toList), by omega, rfl, by go_num, Lib.hid (by rw [ht.out, bytes_beq y x hxy]; simp [hnf.out, Ne.symm hxy]), trivial⟩
                              case measure => simp [intOf]; omega
                        · have hft : f = true := hf.out.2 (by rw [List.take_of_length_le (by omega)]; exact hm2.out)
                          subst hft
                          go_wp2
                          go_roundw
                          case rel => exact ⟨j2 + 1, by omega, by go_num, hI10, hR10, hB10⟩
                          case measure => simp [intOf]; omega
                    · go_wp2_with fail
                      refine (bawake_any _).mono ?_
                      rintro e w9 ⟨rfl, hb9⟩
                      go_wp2
                      go_ret
                      exact ⟨rfl, hB9.out.trans (hb9.mono hB9.out.size)⟩
end Go.Proofs.Ythmdmbgjheploaa
