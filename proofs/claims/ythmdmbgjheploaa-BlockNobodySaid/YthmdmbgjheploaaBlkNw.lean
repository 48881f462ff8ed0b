/- BlockNobody's walk: no disk has no blocks, and takes nothing. -/
import Derived.Test.YthmdmbgjheploaaBlkN
set_option linter.unusedVariables false
set_option linter.unusedSimpArgs false
namespace Go.Proofs.Ythmdmbgjheploaa
open Go.RowKit

structure NbI (w : World) (a : ActS) (W : World) : Prop where
  act : W.heap[w.heap.size]? = some (.cells #[.int .i64 a.kind, .int .i64 a.at_, .string a.data, .int .u64 a.mask] 39 (0, 0))
  sl : W.heap[w.heap.size + 1 + 1]? = some (.cells #[.pointer none, .pointer (some ⟨w.heap.size + 1, 0, none⟩)] 35 (0, 0))
  z : ∃ f, IsZero W (w.heap.size + 1) f
  bel : Below w.heap.size w W
theorem NbI.below {w W W' : World} {a : ActS} (h : NbI w a W) (hb : Below W.heap.size W W') : NbI w a W' := by
  obtain ⟨f, hz⟩ := h.z
  exact ⟨(hb.block _ (blk_lt h.act)).trans h.act, (hb.block _ (blk_lt h.sl)).trans h.sl, ⟨f, (hb.block _ (blk_lt hz)).trans hz⟩, h.bel.trans (hb.mono h.bel.size)⟩
theorem NbI.crashed {w W W' : World} {a : ActS} (h : NbI w a W) (hz : IsZero W' (w.heap.size + 1) (-1)) (hf : Frm (fun i => i = w.heap.size + 1) W W') : NbI w a W' :=
  ⟨hf.blk (by omega) h.act, hf.blk (by omega) h.sl, ⟨_, hz⟩, h.bel.trans (hf.below h.bel.size (fun i hi e => by omega))⟩
theorem NbI.start (w : World) (a : ActS) : NbI w a (((w.alloc (.cells #[.int .i64 a.kind, .int .i64 a.at_, .string a.data, .int .u64 a.mask] 39)).alloc (.cells #[.slice none 0 0, .slice none 0 0, .int .i64 0, .bool false] 54)).alloc (.cells #[.pointer none, .pointer (some ⟨w.heap.size + 1, 0, none⟩)] 35)) := by
  have h1 := blk_new (w.alloc (.cells #[.int .i64 a.kind, .int .i64 a.at_, .string a.data, .int .u64 a.mask] 39)) (.cells #[.slice none 0 0, .slice none 0 0, .int .i64 0, .bool false] 54)
  have h2 := blk_new ((w.alloc (.cells #[.int .i64 a.kind, .int .i64 a.at_, .string a.data, .int .u64 a.mask] 39)).alloc (.cells #[.slice none 0 0, .slice none 0 0, .int .i64 0, .bool false] 54)) (.cells #[.pointer none, .pointer (some ⟨w.heap.size + 1, 0, none⟩)] 35)
  simp only [World.size_alloc] at h1 h2
  exact ⟨blk_alloc _ (blk_alloc _ (blk_new w _)), h2, ⟨0, blk_alloc _ h1⟩, (((Below.refl _ w).alloc (Nat.le_refl _) _).alloc (by simp) _).alloc (by simp; omega) _⟩

set_option maxRecDepth 100000 in
set_option maxHeartbeats 3200000 in
theorem BlockNobody.walk (a : ActS) (w : World) (ok : a.ok) :
    Calls Try.prog 11 #[.agg #[.int .i64 a.kind, .int .i64 a.at_, .string a.data, .int .u64 a.mask]] w fun e w' => e = .returned (.bool true) ∧ Below w.heap.size w w' := by
  have hI0 := Lib.hid (NbI.start w a)
  clear ok
  go_enter Try.func11, Try.ntmps11
  go_wp2
  go_loopw [4, 5, 6, 7, 8, 13] (fun s4 s5 s6 s7 s8 s13 wr => ∃ (k : Nat), k ≤ 2 ∧ s13 = .int .i64 k ∧ Hid (NbI w a wr)) (fun _ _ _ _ _ s13 _ => 2 - (intOf s13).toNat)
  case atStart => exact ⟨0, by omega, rfl, hI0⟩
  case round =>
    obtain ⟨k, hk, rfl, hI⟩ := hrel
    by_cases hk2 : k < 2
    · have b1 := cell_blk (i := 1) hI.out.act rfl
      have cs : ∃ q, wr.cell? ⟨w.heap.size + 1 + 1, k, none⟩ = some (.pointer q) ∧ (q = none ∨ q = some ⟨w.heap.size + 1, 0, none⟩) := by
        match k, hk2 with
        | 0, _ => exact ⟨_, cell_blk (i := 0) hI.out.sl rfl, .inl rfl⟩
        | 1, _ => exact ⟨_, cell_blk (i := 1) hI.out.sl rfl, .inr rfl⟩
      obtain ⟨q, cs, hq⟩ := cs
      rcases hq with rfl | rfl
      · go_wp2_with fail
        refine (read_nil _ _).mono ?_
        rintro e w1 ⟨rfl, hb1⟩
        have hI1 := Lib.hid (hI.out.below hb1)
        have b1 := cell_blk (i := 1) hI1.out.act rfl
        have b2 := cell_blk (i := 2) hI1.out.act rfl
        have b3 := cell_blk (i := 3) hI1.out.act rfl
        clear hb1
        go_wp2_with fail
        refine (write_nil _ _ _).mono ?_
        rintro e w2 ⟨rfl, rfl⟩
        go_wp2_with fail
        refine (sync_nil _).mono ?_
        rintro e w2 ⟨rfl, rfl⟩
        go_wp2_with fail
        refine (crash_nil _ _).mono ?_
        rintro e w2 ⟨rfl, rfl⟩
        go_wp2_with fail
        refine (blocks_nil _).mono ?_
        rintro e w2 ⟨rfl, rfl⟩
        go_wp2
        go_roundw
        case rel => exact ⟨k + 1, by omega, by go_num, hI1⟩
        case measure => simp [intOf]; omega
      · obtain ⟨f, hz⟩ := hI.out.z
        have hz' := Lib.hid hz
        clear hz
        go_wp2_with fail
        refine (read_zero _ _ f _ hz'.out).mono ?_
        rintro e w1 ⟨rfl, hb1⟩
        have hI1 := Lib.hid (hI.out.below hb1)
        have hz1 : Hid (IsZero w1 (w.heap.size + 1) f) := Lib.hid ((hb1.block _ (blk_lt hz'.out)).trans hz'.out)
        have b1 := cell_blk (i := 1) hI1.out.act rfl
        have b2 := cell_blk (i := 2) hI1.out.act rfl
        have b3 := cell_blk (i := 3) hI1.out.act rfl
        clear hb1
        go_wp2_with fail
        refine (write_zero _ _ f _ _ hz1.out).mono ?_
        rintro e w2 ⟨rfl, rfl⟩
        go_wp2_with fail
        refine (sync_zero _ _ f hz1.out).mono ?_
        rintro e w2 ⟨rfl, rfl⟩
        go_wp2_with fail
        refine (crash_zero _ _ f _ hz1.out).mono ?_
        rintro e w2 ⟨rfl, hz2, hf2⟩
        have hI2 := Lib.hid (hI1.out.crashed hz2 hf2)
        have hz2' := Lib.hid hz2
        clear hz2 hf2
        go_wp2_with fail
        refine (blocks_zero _ _ _ hz2'.out).mono ?_
        rintro e w2 ⟨rfl, rfl⟩
        go_wp2
        go_roundw
        case rel => exact ⟨k + 1, by omega, by go_num, hI2⟩
        case measure => simp [intOf]; omega
    · go_wp2_with fail
      refine (bawake_any _).mono ?_
      rintro e w9 ⟨rfl, hb9⟩
      go_wp2
      go_ret
      exact ⟨rfl, hI.out.bel.trans (hb9.mono hI.out.bel.size)⟩
end Go.Proofs.Ythmdmbgjheploaa
