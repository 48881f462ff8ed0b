/- BlockLast: without a crash every block is what was written last. -/
import Derived.Test.YthmdmbgjheploaaBlkL
set_option linter.unusedVariables false
set_option linter.unusedSimpArgs false
namespace Go.Proofs.Ythmdmbgjheploaa
open Go.RowKit

/-- what the first loop holds: the disk's blocks are those of the array -/
structure LastI (B p g bl : Nat) (k : Nat) (wr : World) (v : Value) (d : DiskS) (last : List ByteArray) : Prop where
  disk : IsDisk wr B p g v d
  arr : wr.heap[bl]? = some (.cells (last.map Value.string).toArray 37 (0, 0))
  n8 : d.safe.length = 8
  l8 : last.length = 8
  free : d.blown = false ∧ d.fuse = -1
  few : d.late.length ≤ k
  same : ∀ j, j < 8 → cur d j = last.getD j ⟨#[]⟩

theorem LastI.start {B p g : Nat} {w1 : World} (hd : IsDisk w1 B p g (.slice none 0 0) (newD 8)) :
    LastI B p g w1.heap.size 0 (w1.alloc (.cells #[.string ⟨#[]⟩, .string ⟨#[]⟩, .string ⟨#[]⟩, .string ⟨#[]⟩, .string ⟨#[]⟩, .string ⟨#[]⟩, .string ⟨#[]⟩, .string ⟨#[]⟩] 37)) (.slice none 0 0) (newD 8) (List.replicate 8 ⟨#[]⟩) := by
  refine { disk := hd.frm (S := fun _ => False) (Frm.of_below ((Below.refl _ _).alloc (Nat.le_refl _) _)) (fun _ _ h => h), arr := blk_new w1 _, n8 := rfl, l8 := rfl, free := ⟨rfl, rfl⟩, few := by simp [newD], same := ?_ }
  intro j hj
  rfl
theorem LastI.apart {B p g bl k : Nat} {wr : World} {v : Value} {d : DiskS} {last : List ByteArray} (h : LastI B p g bl k wr v d last) : ¬ DSet p g v bl := h.disk.apart h.arr (by decide) (by decide) (by decide)
theorem LastI.alloc {B p g bl k : Nat} {wr : World} {v : Value} {d : DiskS} {last : List ByteArray} (h : LastI B p g bl k wr v d last) (o : Obj) : LastI B p g bl k (wr.alloc o) v d last :=
  { h with disk := h.disk.frm (S := fun _ => False) (Frm.of_below ((Below.refl _ _).alloc (Nat.le_refl _) _)) (fun _ _ h => h), arr := blk_alloc _ h.arr }
/-- a call on the disk that leaves what its blocks read as -/
theorem LastI.step {B p g bl k k' : Nat} {W W' : World} {v v' : Value} {d d' : DiskS} {last : List ByteArray} (h : LastI B p g bl k W v d last) (hd : IsDisk W' B p g v' d') (hf : Frm (DSet p g v) W W') (n8 : d'.safe.length = 8)
    (free : d'.blown = false ∧ d'.fuse = -1) (few : d'.late.length ≤ k') (same : ∀ j, j < 8 → cur d' j = cur d j) : LastI B p g bl k' W' v' d' last :=
  { disk := hd, arr := hf.blk h.apart h.arr, n8 := n8, l8 := h.l8, free := free, few := few, same := fun j hj => (same j hj).trans (h.same j hj) }
theorem set_getD (l : List ByteArray) (a j : Nat) (s : ByteArray) (ha : a < l.length) : (l.set a s).getD j ⟨#[]⟩ = if a = j then s else l.getD j ⟨#[]⟩ := by
  rw [List.getD_eq_getElem?_getD, List.getElem?_set]
  by_cases h : a = j
  · subst h; simp [ha]
  · rw [if_neg h, if_neg h, List.getD_eq_getElem?_getD]
/-- a write that is taken, and noted in the array -/
theorem LastI.wrote {B p g bl k : Nat} {W W' : World} {v v' : Value} {d : DiskS} {last : List ByteArray} (a : Nat) (s : ByteArray) (h : LastI B p g bl k W v d last) (ha : a < 8) (hd : IsDisk W' B p g v' { d with late := d.late ++ [((a : Int), s)] }) (hf : Frm (DSet p g v) W W') :
    LastI B p g bl (k + 1) (W'.setCell ⟨bl, a, none⟩ (.string s)) v' { d with late := d.late ++ [((a : Int), s)] } (last.set a s) := by
  have ha2 := hf.blk h.apart h.arr
  have hap := hd.apart ha2 (by decide) (by decide) (by decide)
  refine { disk := hd.frm (S := fun i => i = bl) ((Frm.refl _ W').setCell _ _ (fun _ => rfl)) (fun i hi e => hap (e ▸ hi)), arr := ?_, n8 := h.n8, l8 := by simp [h.l8], free := h.free, few := by have := h.few; simp; omega, same := ?_ }
  · rw [blk_set a _ ha2]; simp [List.map_set]
  · intro j hj
    rw [cur_write, set_getD _ _ _ _ (by rw [h.l8]; exact ha), h.same j hj]
set_option maxRecDepth 100000 in
set_option maxHeartbeats 3200000 in
theorem BlockLast.walk (A : Option Addr) (cap : Nat) (l : List ActS) (w : World) (hA : Acts w A l) :
    Calls Try.prog 7 #[.slice A l.length cap] w fun e w' => e = .returned (.bool true) ∧ Below w.heap.size w w' := by
  have hs0 := Lib.hid (some_any w)
  have hll : l.length ≤ 4398046511000 := hA.1
  have HA := Lib.hid hA
  clear hA
  go_enter Try.func7, Try.ntmps7
  go_wp2_with fail
  refine hs0.out.mono ?_
  rintro e w1 ⟨p, g, rfl, hd, hb⟩
  have hd1 := Lib.hid hd
  have hb1 := Lib.hid hb
  have hsz := hb.size
  clear hd hb
  have hI0 := Lib.hid (LastI.start hd1.out)
  have HB0 := Lib.hid (hb1.out.alloc (B := w.heap.size) hsz (.cells #[.string ⟨#[]⟩, .string ⟨#[]⟩, .string ⟨#[]⟩, .string ⟨#[]⟩, .string ⟨#[]⟩, .string ⟨#[]⟩, .string ⟨#[]⟩, .string ⟨#[]⟩] 37))
  go_wp2
  go_loopw [5, 6, 7, 8] (fun s5 s6 s7 s8 wr => ∃ (k : Nat) (v : Value) (d : DiskS) (last : List ByteArray), k ≤ 200 ∧ k ≤ l.length ∧ s5 = .int .i64 k ∧ Hid (LastI w.heap.size p g w1.heap.size k wr v d last) ∧ Hid (Below w.heap.size w wr)) (fun s5 _ _ _ _ => 200 - (intOf s5).toNat)
  case atStart => exact ⟨0, _, _, _, by omega, by omega, rfl, hI0, HB0⟩
  case round =>
    obtain ⟨k, v, d, last, hk, hkl, rfl, hI, hB⟩ := hrel
    by_cases hlt : k < l.length ∧ k < 200
    · obtain ⟨hlt, hk2⟩ := hlt
      obtain ⟨_, hoks, hac⟩ := HA.out.below (hB.out)
      obtain ⟨b, off, rfl, hbl, hc⟩ := hac (by omega)
      obtain ⟨a0, a1, a2, a3⟩ := hc k hlt
      have hok := hoks (l[k]) (List.getElem_mem hlt)
      generalize hx : l[k] = x at *
      clear hx hoks hc hac
      obtain ⟨xk, xa, xs, xm⟩ := x
      obtain ⟨⟨o1, o2⟩, ⟨o3, o4⟩, o5, o6, o7⟩ := hok
      simp only at a0 a1 a2 a3 o1 o2 o3 o4 o5 o6 o7
      by_cases h1 : xk = 1
      · subst h1
        have hJ := Lib.hid (hI.out.alloc (.cells #[.int .i64 1, .int .i64 xa, .string xs, .int .u64 xm] 39))
        go_wp2_with fail
        have c1 := sync_any _ _ p g _ _ hJ.out.disk
        rw [sync_free _ hJ.out.free.1 hJ.out.free.2] at c1
        refine c1.mono ?_
        clear c1
        rintro e w2 ⟨v2, rfl, hd2, hf2, hv2⟩
        have hJ2 := Lib.hid (hJ.out.step (k' := k + 1) hd2 hf2 (by rw [keepD_length]; exact hJ.out.n8) hJ.out.free (by simp) (fun j hj => cur_keep d j _ _ hJ.out.disk.at_ (by rw [hJ.out.n8]; exact hj)))
        have hB2 := Lib.hid ((hB.out.alloc (B := w.heap.size) hB.out.size (.cells #[.int .i64 1, .int .i64 xa, .string xs, .int .u64 xm] 39)).trans (hJ.out.disk.below (by have := hB.out.size; simp; omega) hf2))
        clear hd2 hf2
        go_wp2
        go_roundw
        case rel => exact ⟨k + 1, v2, _, last, by omega, by omega, by go_num, hJ2, hB2⟩
        case measure => simp [intOf]; omega
      · have hJ := Lib.hid (hI.out.alloc (.cells #[.int .i64 xk, .int .i64 xa, .string xs, .int .u64 xm] 39))
        have hfew := hI.out.few
        have h1' : (xk == 1) = false := by simpa using h1
        have h1h := Lib.hid h1
        clear h1
        by_cases hg : 0 ≤ xa ∧ xa < 8 ∧ xs.size ≤ 256
        · obtain ⟨g1, g2, g3⟩ := hg
          obtain ⟨a, rfl⟩ := Int.eq_ofNat_of_zero_le g1
          have ha : a < 8 := by omega
          go_wp2_with fail
          have c1 := write_any _ _ p g _ _ (a : Int) xs hJ.out.disk o5 (by omega)
          rw [write_free _ hJ.out.free.1 hJ.out.free.2, if_pos ⟨by omega, by rw [hJ.out.n8]; omega, g3⟩] at c1
          refine c1.mono ?_
          clear c1
          rintro e w2 ⟨v2, rfl, hd2, hf2, hv2⟩
          have hJ2 := Lib.hid (hJ.out.wrote a xs ha hd2 hf2)
          have hJa := hf2.blk hJ.out.apart hJ.out.arr
          have ca : ∃ z, w2.cell? ⟨w1.heap.size, a, none⟩ = some z := ⟨_, cell_blk (i := a) hJa (by simp [hJ.out.l8, ha]; rfl)⟩
          obtain ⟨z, ca⟩ := ca
          have za := frozen_blk a hJa
          have hbx : ¬ DSet p g v wr.heap.size := fun h => by have := hI.out.disk.lt _ h; omega
          have hx := hf2.blk hbx (blk_new wr (.cells #[.int .i64 xk, .int .i64 (a : Int), .string xs, .int .u64 xm] 39))
          have x1 := cell_blk (i := 1) hx rfl
          have x2 := cell_blk (i := 2) hx rfl
          have hB2 := Lib.hid (((hB.out.alloc (B := w.heap.size) hB.out.size (.cells #[.int .i64 xk, .int .i64 (a : Int), .string xs, .int .u64 xm] 39)).trans (hJ.out.disk.below (by have := hB.out.size; simp; omega) hf2)).setCell (p := ⟨w1.heap.size, a, none⟩) hsz (.string xs))
          clear hd2 hf2 hJa hx
          have gd : decide ((xs.size : Int) ≤ 256) = true := by simp; omega
          go_wp2
          go_roundw
          case rel => exact ⟨k + 1, v2, _, last.set a xs, by omega, by omega, by go_num, hJ2, hB2⟩
          case measure => simp [intOf]; omega
        · have hgood : ¬ (0 ≤ xa ∧ xa < d.safe.length ∧ xs.size ≤ 256) := by rw [hJ.out.n8]; exact hg
          have c1 := write_any _ _ p g _ _ xa xs hJ.out.disk o5 (by omega)
          rw [write_free _ hJ.out.free.1 hJ.out.free.2, if_neg hgood] at c1
          have c1' := Lib.hid c1
          clear c1 hgood
          have bad : ∀ (w2 : World) (v2 : Value), IsDisk w2 w.heap.size p g v2 d → Frm (DSet p g v) (wr.alloc (.cells #[.int .i64 xk, .int .i64 xa, .string xs, .int .u64 xm] 39)) w2 →
              Hid (LastI w.heap.size p g w1.heap.size (k + 1) w2 v2 d last) ∧ Hid (Below w.heap.size w w2) ∧ w2.heap[wr.heap.size]? = some (.cells #[.int .i64 xk, .int .i64 xa, .string xs, .int .u64 xm] 39 (0, 0)) := by
            intro w2 v2 hd2 hf2
            have hbx : ¬ DSet p g v wr.heap.size := fun h => by have := hI.out.disk.lt _ h; omega
            exact ⟨Lib.hid (hJ.out.step (k' := k + 1) hd2 hf2 hJ.out.n8 hJ.out.free (by omega) (fun j hj => rfl)),
              Lib.hid ((hB.out.alloc (B := w.heap.size) hB.out.size (.cells #[.int .i64 xk, .int .i64 xa, .string xs, .int .u64 xm] 39)).trans (hJ.out.disk.below (by have := hB.out.size; simp; omega) hf2)),
              hf2.blk hbx (blk_new wr (.cells #[.int .i64 xk, .int .i64 xa, .string xs, .int .u64 xm] 39))⟩
          have bad' := Lib.hid bad
          clear bad
          by_cases g1 : 0 ≤ xa
          · by_cases g2 : xa < 8
            · have g3 : 256 < (xs.size : Int) := by omega
              have gd : decide ((xs.size : Int) ≤ 256) = false := by simp; omega
              clear hg
              go_wp2_with fail
              refine c1'.out.mono ?_
              rintro e w2 ⟨v2, rfl, hd2, hf2, hv2⟩
              obtain ⟨hJ2, hB2, hx⟩ := bad'.out w2 v2 hd2 hf2
              have x1 := cell_blk (i := 1) hx rfl
              have x2 := cell_blk (i := 2) hx rfl
              clear hd2 hf2 hx
              go_wp2
              go_roundw
              case rel => exact ⟨k + 1, v2, _, last, by omega, by omega, by go_num, hJ2, hB2⟩
              case measure => simp [intOf]; omega
            · clear hg
              go_wp2_with fail
              refine c1'.out.mono ?_
              rintro e w2 ⟨v2, rfl, hd2, hf2, hv2⟩
              obtain ⟨hJ2, hB2, hx⟩ := bad'.out w2 v2 hd2 hf2
              have x1 := cell_blk (i := 1) hx rfl
              have x2 := cell_blk (i := 2) hx rfl
              clear hd2 hf2 hx
              go_wp2
              go_roundw
              case rel => exact ⟨k + 1, v2, _, last, by omega, by omega, by go_num, hJ2, hB2⟩
              case measure => simp [intOf]; omega
          · clear hg
            go_wp2_with fail
            refine c1'.out.mono ?_
            rintro e w2 ⟨v2, rfl, hd2, hf2, hv2⟩
            obtain ⟨hJ2, hB2, hx⟩ := bad'.out w2 v2 hd2 hf2
            have x1 := cell_blk (i := 1) hx rfl
            have x2 := cell_blk (i := 2) hx rfl
            clear hd2 hf2 hx
            go_wp2
            go_roundw
            case rel => exact ⟨k + 1, v2, _, last, by omega, by omega, by go_num, hJ2, hB2⟩
            case measure => simp [intOf]; omega
    · have hend : Hid (¬ (k < l.length ∧ k < 200)) := Lib.hid hlt
      by_cases hkl2 : k < l.length
      · have hk2 : (200 : Int) ≤ k := by have := hend.out; omega
        clear hlt
        go_wp2
        obtain ⟨wo, hwo⟩ : ∃ wo : World, wo = wr := ⟨_, rfl⟩
        subst hwo
        go_loopw [9, 10, 11] (fun s9 s10 s11 wq => ∃ (j : Nat), j ≤ 8 ∧ s9 = .int .i64 j ∧ Hid (LastI w.heap.size p g w1.heap.size k wq v d last) ∧ Hid (Below w.heap.size w wq)) (fun s9 _ _ _ => 8 - (intOf s9).toNat)
        case atStart => exact ⟨0, by omega, rfl, hI, hB⟩
        case round =>
          obtain ⟨j, hj, rfl, hI2, hB2⟩ := hrel
          by_cases hj8 : j < 8
          · have c1 := read_any _ _ p g _ _ (j : Int) hI2.out.disk
            obtain ⟨x, hx⟩ : ∃ x, last.getD j ⟨#[]⟩ = x := ⟨_, rfl⟩
            have hlx : last[j]? = some x := by
              have hl8 := hI2.out.l8
              rw [← hx, List.getD_eq_getElem?_getD, List.getElem?_eq_getElem (by omega)]
              rfl
            rw [read_cur d j hI2.out.free.1 (by rw [hI2.out.n8]; exact hj8), hI2.out.same j hj8, hx] at c1
            have hlx' := Lib.hid hlx
            clear hx hlx
            have c1' := Lib.hid c1
            clear c1
            go_wp2_with fail
            refine c1'.out.mono ?_
            rintro e w3 ⟨rfl, hb3⟩
            have hI3 : Hid (LastI w.heap.size p g w1.heap.size k w3 v d last) := Lib.hid { hI2.out with disk := hI2.out.disk.frm (S := fun _ => False) (Frm.of_below hb3) (fun _ _ h => h), arr := (hb3.block _ (blk_lt hI2.out.arr)).trans hI2.out.arr }
            have hB3 := Lib.hid (hB2.out.trans (hb3.mono hB2.out.size))
            have ca : w3.cell? ⟨w1.heap.size, j, none⟩ = some (.string x) := cell_blk (i := j) hI3.out.arr (by simp [hlx'.out])
            clear hb3
            go_wp2
            go_roundw
            case rel => exact ⟨j + 1, by omega, by go_num, hI3, hB3⟩
            case measure => simp [intOf]; omega
          · go_wp2_with fail
            refine (bawake_any _).mono ?_
            rintro e w3 ⟨rfl, hb3⟩
            go_wp2
            go_ret
            exact ⟨rfl, hB2.out.trans (hb3.mono hB2.out.size)⟩
      · clear hlt
        go_wp2
        obtain ⟨wo, hwo⟩ : ∃ wo : World, wo = wr := ⟨_, rfl⟩
        subst hwo
        go_loopw [9, 10, 11] (fun s9 s10 s11 wq => ∃ (j : Nat), j ≤ 8 ∧ s9 = .int .i64 j ∧ Hid (LastI w.heap.size p g w1.heap.size k wq v d last) ∧ Hid (Below w.heap.size w wq)) (fun s9 _ _ _ => 8 - (intOf s9).toNat)
        case atStart => exact ⟨0, by omega, rfl, hI, hB⟩
        case round =>
          obtain ⟨j, hj, rfl, hI2, hB2⟩ := hrel
          by_cases hj8 : j < 8
          · have c1 := read_any _ _ p g _ _ (j : Int) hI2.out.disk
            obtain ⟨x, hx⟩ : ∃ x, last.getD j ⟨#[]⟩ = x := ⟨_, rfl⟩
            have hlx : last[j]? = some x := by
              have hl8 := hI2.out.l8
              rw [← hx, List.getD_eq_getElem?_getD, List.getElem?_eq_getElem (by omega)]
              rfl
            rw [read_cur d j hI2.out.free.1 (by rw [hI2.out.n8]; exact hj8), hI2.out.same j hj8, hx] at c1
            have hlx' := Lib.hid hlx
            clear hx hlx
            have c1' := Lib.hid c1
            clear c1
            go_wp2_with fail
            refine c1'.out.mono ?_
            rintro e w3 ⟨rfl, hb3⟩
            have hI3 : Hid (LastI w.heap.size p g w1.heap.size k w3 v d last) := Lib.hid { hI2.out with disk := hI2.out.disk.frm (S := fun _ => False) (Frm.of_below hb3) (fun _ _ h => h), arr := (hb3.block _ (blk_lt hI2.out.arr)).trans hI2.out.arr }
            have hB3 := Lib.hid (hB2.out.trans (hb3.mono hB2.out.size))
            have ca : w3.cell? ⟨w1.heap.size, j, none⟩ = some (.string x) := cell_blk (i := j) hI3.out.arr (by simp [hlx'.out])
            clear hb3
            go_wp2
            go_roundw
            case rel => exact ⟨j + 1, by omega, by go_num, hI3, hB3⟩
            case measure => simp [intOf]; omega
          · go_wp2_with fail
            refine (bawake_any _).mono ?_
            rintro e w3 ⟨rfl, hb3⟩
            go_wp2
            go_ret
            exact ⟨rfl, hB2.out.trans (hb3.mono hB2.out.size)⟩
end Go.Proofs.Ythmdmbgjheploaa
