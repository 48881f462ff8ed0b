/- What Crash and New do. -/
import Derived.Test.YthmdmbgjheploaaBlkS
import Derived.Deep.OwnRows
set_option linter.unusedVariables false
set_option linter.unusedSimpArgs false
namespace Go.Proofs.Ythmdmbgjheploaa
open Go.RowKit

def bitAt (mask k : Nat) : Bool := mask / 2 ^ (k % 64) % 2 == 1
def crashD (d : DiskS) (mask : Nat) : DiskS := { safe := keepD (bitAt mask) d.safe d.late 0, late := [], fuse := -1, blown := false }

theorem bit_walk (mask k : Nat) (hm : mask < 18446744073709551616) : (bits BinOp.and IntKind.u64 ((mask : Int) / 2 ^ (k % 64)) 1 == 1) = bitAt mask k := by
  have e : ((mask : Int) / 2 ^ (k % 64)) = ((mask / 2 ^ (k % 64) : Nat) : Int) := by simp
  have hle := Nat.div_le_self mask (2 ^ (k % 64))
  rw [e, and_one_u64 _ (Int.natCast_nonneg _) (by omega)]
  unfold bitAt
  rw [Bool.eq_iff_iff]
  simp
  omega
set_option maxHeartbeats 1600000 in
theorem crash_any (w : World) (base p g : Nat) (v : Value) (d : DiskS) (mask : Nat) (hm : mask < 18446744073709551616) (h : IsDisk w base p g v d) :
    Calls Try.prog 29 #[.pointer (some ⟨p, 0, none⟩), .int .u64 mask] w (DPost w base p g v (.tuple #[]) (crashD d mask)) := by
  have c1 := cell_blk (i := 1) h.head rfl
  have hl1 := h.l1
  have H := Lib.hid h
  obtain ⟨A, cp, hv⟩ := h.vslice
  clear h
  have HF1 := Lib.hid (Frm.refl (DSet p g v) w)
  rw [hv] at c1
  have hv' := Lib.hid hv
  clear hv
  go_enter Try.func29, Try.ntmps29
  go_wp2
  go_loopw [4, 5, 13, 15, 16] (fun s4 s5 s13 s15 s16 wr => ∃ k : Nat, k ≤ d.late.length ∧ s13 = .int .i64 k ∧ Hid (IsDisk wr base p g v { d with safe := keepD (bitAt mask) d.safe (d.late.take k) 0 }) ∧ Hid (Frm (DSet p g v) w wr)) (fun _ _ s13 _ _ _ => d.late.length - (intOf s13).toNat)
  case atStart => exact ⟨0, Nat.zero_le _, rfl, by simpa [keepD] using H, HF1⟩
  case round =>
    obtain ⟨k, hk, rfl, hI, hF⟩ := hrel
    by_cases hlt : k < d.late.length
    · obtain ⟨gl, rfl, hv2⟩ := hI.out.vcut hv'.out (by simp; omega)
      have hv2' := Lib.hid hv2
      clear hv2
      obtain ⟨l1, l2⟩ := hI.out.lateAt gl cp hv2'.out k hlt
      have cs := cell_blk (i := 0) hI.out.head rfl
      have hat := H.out.at_ (d.late[k]) (List.getElem_mem hlt)
      have hsn := Lib.hid (keepD_snoc (bitAt mask) (d.late.take k) (d.late[k]) d.safe 0)
      have htk := Lib.hid (take_snoc' d.late k hlt)
      have hkl := keepD_length (bitAt mask) (d.late.take k) d.safe 0
      simp only at l1 l2 cs
      generalize hx : d.late[k] = x at l1 l2 hat hsn htk
      clear hx
      obtain ⟨xa, xs⟩ := x
      obtain ⟨a, rfl⟩ : ∃ a : Nat, xa = a := ⟨xa.toNat, by have := hat.1; simp at this ⊢; omega⟩
      have ha : a < d.safe.length := by have := hat.2; simpa using this
      clear hat
      generalize hsf : keepD (bitAt mask) d.safe (d.late.take k) 0 = sf at *
      have hsf' := Lib.hid hsf
      clear hsf
      have hkl' := Lib.hid hkl
      rw [hkl] at cs
      have ha' : a < sf.length := by rw [hkl]; exact ha
      clear hkl
      have cs' := cell_blk (i := 0) (blk_alloc (.cells #[Value.int IntKind.i64 (a : Int), Value.string xs] 78) hI.out.head) rfl
      simp only at cs'
      rw [hkl'.out] at cs'
      have hgc' : ∃ z, (wr.alloc (.cells #[Value.int IntKind.i64 (a : Int), Value.string xs] 78)).cell? ⟨g, a, none⟩ = some z := ⟨_, cell_blk (i := a) (blk_alloc _ hI.out.safe) (by simp [ha']; rfl)⟩
      obtain ⟨z', hgc'⟩ := hgc'
      have hgz' := frozen_blk a (blk_alloc (.cells #[Value.int IntKind.i64 (a : Int), Value.string xs] 78) hI.out.safe)
      have hset := Lib.hid (blk_set a (.string xs) (blk_alloc (.cells #[Value.int IntKind.i64 (a : Int), Value.string xs] 78) hI.out.safe))
      have hfr0 := Lib.hid ((Frm.refl (fun i => i = g) wr).alloc (.cells #[Value.int IntKind.i64 (a : Int), Value.string xs] 78))
      have hfr := Lib.hid (((Frm.refl (fun i => i = g) wr).alloc (.cells #[Value.int IntKind.i64 (a : Int), Value.string xs] 78)).setCell ⟨g, a, none⟩ (.string xs) (fun _ => rfl))
      clear ha'
      have hbit := bit_walk mask k hm
      by_cases hkeep : bitAt mask k = true
      · rw [hkeep] at hbit
        have hkeep' := Lib.hid hkeep
        clear hkeep
        go_wp2
        go_region
        all_goals
          go_wp2
          go_roundw
          case rel =>
            refine ⟨k + 1, by omega, by go_num, ?_, ?_⟩
            · rw [htk.out, hsn.out, show 0 + (d.late.take k).length = k by simp; omega, if_pos hkeep'.out]
              exact Lib.hid (hI.out.keepOne a xs (by rw [hkl'.out]; exact ha) (by have := hset.out; exact this) hfr.out.drew)
            · exact Lib.hid ((hF.out.trans hfr.out (fun i _ hi => .inr (.inl hi))).drew)
          case measure => simp [intOf]; omega
      · have hkeep' : bitAt mask k = false := by simpa using hkeep
        rw [hkeep'] at hbit
        have hkeep2 := Lib.hid hkeep'
        clear hkeep hkeep'
        go_wp2
        go_roundw
        case rel =>
          refine ⟨k + 1, by omega, by go_num, ?_, ?_⟩
          · rw [htk.out, hsn.out, show 0 + (d.late.take k).length = k by simp; omega, if_neg (by rw [hkeep2.out]; decide)]
            exact Lib.hid (hI.out.frm (S := fun i => False) (Frm.of_below ((Below.refl _ wr).alloc (Nat.le_refl _) _)) (fun _ _ h => h))
          · exact Lib.hid (hF.out.alloc _)
        case measure => simp [intOf]; omega
    · have hk' : k = d.late.length := by omega
      have hI2 := hI.out
      rw [List.take_of_length_le (by omega)] at hI2
      have HI := Lib.hid hI2
      clear hI hI2 hk'
      have cp1 := cell_blk (i := 1) HI.out.head rfl
      have zp1 := frozen_blk 1 HI.out.head
      have cp2 := cell_blk (i := 2) HI.out.head rfl
      have zp2 := frozen_blk 2 HI.out.head
      have cp3 := cell_blk (i := 3) HI.out.head rfl
      have zp3 := frozen_blk 3 HI.out.head
      have hset := Lib.hid (blk_set 2 (.int .i64 (-1)) (blk_set 3 (.bool false) (blk_set 1 (.slice none 0 0) HI.out.head)))
      have hfr := Lib.hid ((((Frm.refl (fun i => i = p) wr).setCell ⟨p, 1, none⟩ (.slice none 0 0) (fun _ => rfl)).setCell ⟨p, 3, none⟩ (.bool false) (fun _ => rfl)).setCell ⟨p, 2, none⟩ (.int .i64 (-1)) (fun _ => rfl))
      simp only at cp1 cp2 cp3
      rw [hv'.out] at cp1
      go_wp2
      go_end0
      refine ⟨.slice none 0 0, rfl, HI.out.empty false (-1) (by decide) (by decide) ?_ hfr.out, hF.out.trans hfr.out (fun i _ hi => .inl hi), ?_⟩
      · rw [hset.out]; rfl
      · intro k hk; simp [Value.ownBlock] at hk

def newD (n : Nat) : DiskS := { safe := List.replicate n ⟨#[]⟩, late := [], fuse := -1, blown := false }
theorem Try.infoS : (Try.prog.info? 9).map (fun i => (i.zero, i.size, i.bytes)) = some (some (.string ⟨#[]⟩), 1, 16) := by kernel_rfl
theorem make_strs (n : Nat) (hn : n ≤ 1000000) (w : World) : (Instr.makeSlice 45 (.int .i64 (n : Int)) (.int .i64 (n : Int))).run Try.prog w = .ok (.slice (some ⟨w.heap.size, 0, none⟩) n n) (w.alloc (.cells (madeCells #[.string ⟨#[]⟩] n) 9)) :=
  run_make_row' 45 9 (.string ⟨#[]⟩) 16 Try.underlying45 Try.infoS rfl .i64 .i64 n (by omega) (by omega) w
theorem made_strs (n : Nat) : madeCells #[Value.string ⟨#[]⟩] n = ((List.replicate n (⟨#[]⟩ : ByteArray)).map Value.string).toArray := by
  apply Array.ext
  · simp [madeCells]
  · intro i h1 h2
    simp [madeCells, Nat.mod_one]
def NewPost (w : World) (n : Nat) (e : Ending) (w' : World) : Prop :=
  ∃ p g, e = .returned (.tuple #[.pointer (some ⟨p, 0, none⟩), .int .i64 0]) ∧ IsDisk w' w.heap.size p g (.slice none 0 0) (newD n) ∧ Below w.heap.size w w'
theorem new_any (w : World) (n : Nat) (h1 : 1 ≤ n) (h2 : n ≤ 4096) :
    Calls Try.prog 32 #[.int .i64 (n : Int)] w (NewPost w n) := by
  have hmk := make_strs n (by omega)
  go_enter Try.func32, Try.ntmps32
  go_wp2
  go_ret2
  refine ⟨w.heap.size + 1, w.heap.size, rfl, ?_, ((Below.refl _ w).alloc (Nat.le_refl _) _).alloc (by simp) _⟩
  have hp : ((w.alloc (.cells (madeCells #[.string ⟨#[]⟩] n) 9)).alloc (.cells #[.slice (some ⟨w.heap.size, 0, none⟩) n n, .slice none 0 0, .int .i64 (-1), .bool false] 54)).heap[w.heap.size + 1]? = some (.cells #[.slice (some ⟨w.heap.size, 0, none⟩) n n, .slice none 0 0, .int .i64 (-1), .bool false] 54 (0, 0)) := by
    have := blk_new (w.alloc (.cells (madeCells #[.string ⟨#[]⟩] n) 9)) (.cells #[.slice (some ⟨w.heap.size, 0, none⟩) n n, .slice none 0 0, .int .i64 (-1), .bool false] 54)
    rwa [World.size_alloc] at this
  exact { head := by simpa [newD] using hp, safe := by have := blk_alloc (.cells #[.slice (some ⟨w.heap.size, 0, none⟩) n n, .slice none 0 0, .int .i64 (-1), .bool false] 54) (blk_new w (.cells (madeCells #[.string ⟨#[]⟩] n) 9)); rw [made_strs] at this ⊢; exact this, late := ⟨by simp [lateCells, newD], .inl ⟨rfl, rfl⟩⟩, bp := by omega, bg := Nat.le_refl _, n0 := by simp [newD]; omega, n1 := by simp [newD]; omega, l1 := by simp [newD], at_ := by simp [newD], f0 := by simp [newD], f1 := by simp [newD] }
theorem new_bad (w : World) (n : Int) (h : n < 1 ∨ 4096 < n) :
    Calls Try.prog 32 #[.int .i64 n] w fun e w' => e = .returned (.tuple #[.pointer none, .int .i64 1]) ∧ w' = w := by
  by_cases h1 : n < 1
  · clear h
    go_enter Try.func32, Try.ntmps32
    go_wp2
    go_ret2
    exact ⟨rfl, rfl⟩
  · have h2 : 4096 < n := by omega
    clear h
    go_enter Try.func32, Try.ntmps32
    go_wp2
    go_ret2
    exact ⟨rfl, rfl⟩
end Go.Proofs.Ythmdmbgjheploaa
