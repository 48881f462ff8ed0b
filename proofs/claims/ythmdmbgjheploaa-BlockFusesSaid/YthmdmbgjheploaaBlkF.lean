/- BlockFuses: a disk takes just as many calls that write or sync as its fuse says, and then none, till a crash. -/
import Derived.Test.YthmdmbgjheploaaBlkD
set_option linter.unusedVariables false
set_option linter.unusedSimpArgs false
namespace Go.Proofs.Ythmdmbgjheploaa
open Go.RowKit

structure Fz (B p g n i : Nat) (W : World) (v : Value) (d : DiskS) : Prop where
  disk : IsDisk W B p g v d
  n8 : d.safe.length = 8
  few : d.late.length ≤ i
  at3 : ∀ x ∈ d.late, x.1 = 3
  s0 : d.safe.getD 0 ⟨#[]⟩ = ⟨#[]⟩
  on : i ≤ n → d.blown = false ∧ d.fuse = (n : Int) - i
  off : n < i → d.blown = true
theorem keep3 (n : Nat) : ∀ (l : List (Int × ByteArray)) (S : List ByteArray), l.length = n → (∀ x ∈ l, x.1 = 3) → S.length = 8 → (keepD (fun _ => true) S l 0).getD 0 ⟨#[]⟩ = S.getD 0 ⟨#[]⟩ := by
  induction n with
  | zero =>
    intro l S hl _ _
    obtain rfl := List.eq_nil_of_length_eq_zero hl
    rfl
  | succ n ih =>
    intro l S hl hx hj
    obtain ⟨l', x, rfl⟩ := list_snoc l (by omega)
    have hl' : l'.length = n := by simpa using hl
    have h1 := ih l' S hl' (fun y hy => hx y (by simp [hy])) hj
    have hxb := hx x (by simp)
    have ht : x.1.toNat = 3 := by rw [hxb]; rfl
    rw [keepD_snoc, if_pos rfl, ht, set_getD _ _ _ _ (by rw [keepD_length, hj]; decide), if_neg (by decide), h1]
theorem Fz.spend {B p g n i : Nat} {W : World} {v : Value} {d : DiskS} (h : Fz B p g n i W v d) : (i < n ∧ (spendD d).2 = 0 ∧ (spendD d).1 = { d with fuse := (n : Int) - i - 1 }) ∨ (n ≤ i ∧ (spendD d).2 = 91 ∧ (spendD d).1 = { d with blown := true }) := by
  rcases Nat.lt_or_ge i n with hi | hi
  · obtain ⟨h1, h2⟩ := h.on (by omega)
    have e : spendD d = ({ d with fuse := d.fuse - 1 }, 0) := by
      unfold spendD
      rw [if_neg (by rw [h1, h2]; simp; omega), if_pos (by omega)]
    exact .inl ⟨hi, by rw [e], by rw [e, h2]⟩
  · have hb : d.blown = true ∨ d.fuse = 0 := by
      rcases Nat.lt_or_ge n i with hi2 | hi2
      · exact .inl (h.off hi2)
      · exact .inr (by have := (h.on hi2).2; omega)
    have e : spendD d = ({ d with blown := true }, 91) := by
      unfold spendD
      rw [if_pos hb]
    exact .inr ⟨hi, by rw [e], by rw [e]⟩
/-- what a call on it answers, and leaves -/
def FPost (B p g n i : Nat) (d' : DiskS) (r : Int) (W W' : World) (v v' : Value) : Prop :=
  r = (if i < n then 0 else 91) ∧ Fz B p g n (i + 1) W' v' d' ∧ (d'.blown = true ↔ n ≤ i)
theorem Fz.wrote {B p g n i : Nat} {W W' : World} {v v' : Value} {d : DiskS} (h : Fz B p g n i W v d) (s : ByteArray) (hs : s.size ≤ 256) (hd : IsDisk W' B p g v' (wrD d 3 s).1) : FPost B p g n i (wrD d 3 s).1 (wrD d 3 s).2 W W' v v' := by
  have hgood : ¬ (d.blown = false ∧ ¬ (0 ≤ (3 : Int) ∧ (3 : Int) < d.safe.length ∧ s.size ≤ 256)) := by rw [h.n8]; intro hc; exact hc.2 ⟨by decide, by decide, hs⟩
  have hf := h.few
  rcases h.spend with ⟨hi, h0, he⟩ | ⟨hi, h91, he⟩
  · have hb := (h.on (by omega)).1
    have e : wrD d 3 s = ({ { d with fuse := (n : Int) - i - 1 } with late := d.late ++ [(3, s)] }, 0) := by
      unfold wrD
      rw [if_neg hgood, if_pos h0, he]
    rw [e] at hd ⊢
    refine ⟨by rw [if_pos hi], ⟨hd, h.n8, by simp; omega, ?_, h.s0, fun _ => ⟨hb, by simp; omega⟩, fun h' => absurd h' (by omega)⟩, ?_⟩
    · intro x hx
      rcases List.mem_append.1 hx with hx | hx
      · exact h.at3 x hx
      · simp at hx; rw [hx]
    · simp [hb]; omega
  · have e : wrD d 3 s = ({ d with blown := true }, 91) := by
      unfold wrD
      rw [if_neg hgood, if_neg (by rw [h91]; decide), ← he, ← h91]
    rw [e] at hd ⊢
    exact ⟨by rw [if_neg (by omega)], ⟨hd, h.n8, by simp; omega, h.at3, h.s0, fun h' => absurd h' (by omega), fun _ => rfl⟩, by simp; omega⟩
theorem Fz.synced {B p g n i : Nat} {W W' : World} {v v' : Value} {d : DiskS} (h : Fz B p g n i W v d) (hd : IsDisk W' B p g v' (syncD d).1) : FPost B p g n i (syncD d).1 (syncD d).2 W W' v v' := by
  have hf := h.few
  rcases h.spend with ⟨hi, h0, he⟩ | ⟨hi, h91, he⟩
  · have hb := (h.on (by omega)).1
    have e : syncD d = ({ { d with fuse := (n : Int) - i - 1 } with safe := keepD (fun _ => true) d.safe d.late 0, late := [] }, 0) := by
      unfold syncD
      rw [if_pos h0, he]
    rw [e] at hd ⊢
    refine ⟨by rw [if_pos hi], ⟨hd, by simp [keepD_length, h.n8], by simp, by simp, ?_, fun _ => ⟨hb, by simp; omega⟩, fun h' => absurd h' (by omega)⟩, ?_⟩
    · exact (keep3 _ d.late d.safe rfl h.at3 h.n8).trans h.s0
    · simp [hb]; omega
  · have e : syncD d = ({ d with blown := true }, 91) := by
      unfold syncD
      rw [if_neg (by rw [h91]; decide), ← he, ← h91]
    rw [e] at hd ⊢
    exact ⟨by rw [if_neg (by omega)], ⟨hd, h.n8, by simp; omega, h.at3, h.s0, fun h' => absurd h' (by omega), fun _ => rfl⟩, by simp; omega⟩
theorem Fz.start {B p g n : Nat} {W : World} (hd : IsDisk W B p g (.slice none 0 0) { newD 8 with fuse := n }) : Fz B p g n 0 W (.slice none 0 0) { newD 8 with fuse := n } :=
  ⟨hd, rfl, by simp [newD], by simp [newD], rfl, fun _ => ⟨rfl, by simp⟩, fun h => absurd h (by omega)⟩
theorem Fz.below {B p g n i : Nat} {W W' : World} {v : Value} {d : DiskS} (h : Fz B p g n i W v d) (hb : Below W.heap.size W W') : Fz B p g n i W' v d :=
  { h with disk := h.disk.frm (S := fun _ => False) (Frm.of_below hb) (fun _ _ h => h) }
theorem Fz.crashed {B p g n i : Nat} {W W' : World} {v v' : Value} {d : DiskS} (h : Fz B p g n i W v d) (hd : IsDisk W' B p g v' (crashD d 0)) : ∃ S, S.length = 8 ∧ S.getD 0 ⟨#[]⟩ = ⟨#[]⟩ ∧ crashD d 0 = exD S [] := by
  have hk : ∀ (l : List (Int × ByteArray)) (S : List ByteArray) (k : Nat), keepD (bitAt 0) S l k = S := by
    intro l
    induction l with
    | nil => intro S k; rfl
    | cons x l ih => intro S k; rw [keepD, ih, if_neg (by unfold bitAt; simp)]
  refine ⟨d.safe, h.n8, h.s0, ?_⟩
  unfold crashD exD
  rw [hk]

set_option maxRecDepth 100000 in
set_option maxHeartbeats 3200000 in
theorem BlockFuses.walk (n : Int) (A : Option Addr) (cap : Nat) (l : List ActS) (w : World) (hn : -9223372036854775808 ≤ n ∧ n ≤ 9223372036854775807) (hA : Acts w A l) :
    Calls Try.prog 10 #[.int .i64 n, .slice A l.length cap] w fun e w' => e = .returned (.bool true) ∧ Below w.heap.size w w' := by
  have hs0 := Lib.hid (some_any w)
  have hll : l.length ≤ 4398046511000 := hA.1
  have HA := Lib.hid hA
  obtain ⟨hn0, hn1⟩ := hn
  clear hA
  go_enter Try.func10, Try.ntmps10
  go_wp2_with fail
  refine hs0.out.mono ?_
  rintro e w1 ⟨p, g, rfl, hd, hb1⟩
  have hd0 := Lib.hid hd
  have HB0 := Lib.hid hb1
  clear hd hb1
  by_cases hneg : n < 0
  · go_wp2_with fail
    refine (bawake_any _).mono ?_
    rintro e w9 ⟨rfl, hb9⟩
    go_wp2
    go_ret
    exact ⟨rfl, HB0.out.trans (hb9.mono HB0.out.size)⟩
  · obtain ⟨N, rfl⟩ := Int.eq_ofNat_of_zero_le (show 0 ≤ n by omega)
    have hf0 := Lib.hid (fuse_any w1 _ p g _ _ (N : Int) hd0.out hn0 hn1)
    clear hneg hn0
    go_wp2_with fail
    refine hf0.out.mono ?_
    rintro e w2 ⟨rfl, hd2, hf2⟩
    have hI0 := Lib.hid (Fz.start hd2)
    have HB2 := Lib.hid (HB0.out.trans (hd0.out.below HB0.out.size (hf2.mono (fun _ _ h => .inl h))))
    clear hd2 hf2 hf0
    go_wp2
    go_loopw [6, 7, 8, 9] (fun s6 s7 s8 s9 wr => ∃ (k : Nat) (v : Value) (d : DiskS), k ≤ 100 ∧ k ≤ l.length ∧ s6 = .int .i64 k ∧ Hid (Fz w.heap.size p g N k wr v d) ∧ Hid (Below w.heap.size w wr)) (fun s6 _ _ _ _ => 100 - (intOf s6).toNat)
    case atStart => exact ⟨0, _, _, by omega, by omega, rfl, hI0, HB2⟩
    case round =>
      obtain ⟨k, v, d, hk, hkl, rfl, hI, hB⟩ := hrel
      by_cases hlt : k < l.length ∧ k < 100
      · obtain ⟨hlt, hk2⟩ := hlt
        obtain ⟨bb, off, rfl, hbl, xk, xa, xs, xm, hx, a0, a1, a2, a3, o1, o2, o3, o4, o5, o6, o7⟩ := (HA.out.below hB.out).at k hlt
        clear hx a1 a2 a3 o3 o4 o5 o6 o7
        have hfew := hI.out.few
        have step : ∀ (W' : World) (v' : Value) (d' : DiskS) (r : Int), FPost w.heap.size p g N k d' r wr W' v v' → Frm (DSet p g v) wr W' → Hid (r = (if k < N then 0 else 91)) ∧ Hid (Fz w.heap.size p g N (k + 1) W' v' d') ∧ Hid (d'.blown = true ↔ N ≤ k) ∧ Hid (Below w.heap.size w W') := fun W' v' d' r hp hf =>
          ⟨Lib.hid hp.1, Lib.hid hp.2.1, Lib.hid hp.2.2, Lib.hid (hB.out.trans (hI.out.disk.below hB.out.size hf))⟩
        have step' := Lib.hid step
        clear step
        have hrd : ∀ (W' : World) (v' : Value) (d' : DiskS), Fz w.heap.size p g N (k + 1) W' v' d' → (d'.blown = true ↔ N ≤ k) → ∃ s, readD d' 3 = (s, if k < N then 0 else 91) := fun W' v' d' hz hb => by
          unfold readD
          by_cases h : k < N
          · have : d'.blown = false := by
              cases hbb : d'.blown with
              | false => rfl
              | true => have := hb.1 hbb; omega
            rw [if_neg (by rw [this]; decide), if_neg (by rw [hz.n8]; decide), if_pos h]
            exact ⟨_, rfl⟩
          · rw [if_pos (hb.2 (by omega)), if_neg h]
            exact ⟨_, rfl⟩
        have hrd' := Lib.hid hrd
        clear hrd
        rcases Decidable.em (xk = 1) with h1 | h1
        all_goals
          first
            | (subst h1
               go_wp2_with fail
               refine (sync_any _ _ p g _ _ hI.out.disk).mono ?_
               rintro e w3 ⟨v3, rfl, hd3, hf3, hv3⟩
               obtain ⟨hr, hI3, hbl3, hB3⟩ := step'.out _ _ _ _ (hI.out.synced hd3) hf3
               generalize (syncD d).1 = d3 at *
               generalize (syncD d).2 = r3 at *
               clear hd3 hf3 hv3)
            | (go_wp2_with fail
               refine (write_any _ _ p g _ _ 3 ⟨#[120]⟩ hI.out.disk (by decide) (by omega)).mono ?_
               rintro e w3 ⟨v3, rfl, hd3, hf3, hv3⟩
               obtain ⟨hr, hI3, hbl3, hB3⟩ := step'.out _ _ _ _ (hI.out.wrote ⟨#[120]⟩ (by decide) hd3) hf3
               generalize (wrD d 3 ⟨#[120]⟩).1 = d3 at *
               generalize (wrD d 3 ⟨#[120]⟩).2 = r3 at *
               clear hd3 hf3 hv3)
          obtain ⟨s3, hs3⟩ := hrd'.out _ _ _ hI3.out hbl3.out
          have c1 := read_any w3 _ p g _ _ 3 hI3.out.disk
          rw [hs3] at c1
          have hr' := hr.out
          rcases Nat.lt_or_ge k N with hkn | hkn
          all_goals
            first
              | rw [if_pos hkn] at hr' c1
              | rw [if_neg (by omega)] at hr' c1
            subst hr'
            have c1' := Lib.hid c1
            have hki : (k : Int) < N ∨ (N : Int) ≤ k := by omega
            clear c1 hs3 hr
            go_wp2_with fail
            refine c1'.out.mono ?_
            rintro e w4 ⟨rfl, hb4⟩
            have hI4 := Lib.hid (hI3.out.below hb4)
            have hB4 := Lib.hid (hB3.out.trans (hb4.mono hB3.out.size))
            clear hb4
            go_wp2
            go_roundw
            case rel => exact ⟨k + 1, _, _, by omega, by omega, by go_num, hI4, hB4⟩
            case measure => simp [intOf]; omega
      · have ho : k < l.length ∧ (100 : Int) ≤ k ∨ ¬ k < l.length := by omega
        clear hlt
        rcases ho with ⟨hkl2, hk2⟩ | hkl2
        all_goals
          go_wp2_with fail
          refine (crash_any _ _ p g _ _ 0 (by decide) hI.out.disk).mono ?_
          rintro e w3 ⟨v3, rfl, hd3, hf3, hv3⟩
          have hB3 := Lib.hid (hB.out.trans (hI.out.disk.below hB.out.size hf3))
          obtain ⟨S, hS8, hS0, hSe⟩ := hI.out.crashed hd3
          rw [hSe] at hd3
          have hd3' := Lib.hid hd3
          have c1 := read_any w3 _ p g _ _ 0 hd3
          have hr0 : readD (exD S []) 0 = (⟨#[]⟩, 0) := by
            unfold readD exD
            rw [if_neg (by simp), if_neg (by simp [hS8])]
            show ((none : Option ByteArray).getD _, _) = _
            rw [show (0 : Int).toNat = 0 from rfl, hS0]
            rfl
          rw [hr0] at c1
          have c1' := Lib.hid c1
          have hS8' := Lib.hid hS8
          clear c1 hd3 hf3 hv3 hr0 hSe hS0 hS8
          go_wp2_with fail
          refine c1'.out.mono ?_
          rintro e w4 ⟨rfl, hb4⟩
          have hd4 := Lib.hid (hd3'.out.frm (S := fun _ => False) (Frm.of_below hb4) (fun _ _ h => h))
          have hB4 := Lib.hid (hB3.out.trans (hb4.mono hB3.out.size))
          clear hb4
          have c2 := write_any w4 _ p g _ _ 0 ⟨#[121]⟩ hd4.out (by decide) (by show (0 : Nat) < 1000000; decide)
          rw [write_free _ rfl rfl, if_pos ⟨by decide, by show (0 : Int) < (S.length : Int); rw [hS8'.out]; decide, by decide⟩] at c2
          have c2' := Lib.hid c2
          clear c2
          go_wp2_with fail
          refine c2'.out.mono ?_
          rintro e w5 ⟨v5, rfl, hd5, hf5, hv5⟩
          have hB5 := Lib.hid (hB4.out.trans (hd4.out.below hB4.out.size hf5))
          have c3 := sync_any w5 _ p g _ _ hd5
          rw [sync_free _ rfl rfl] at c3
          have c3' := Lib.hid c3
          have hd5' := Lib.hid hd5
          clear c3 hd5 hf5 hv5
          go_wp2_with fail
          refine c3'.out.mono ?_
          rintro e w6 ⟨v6, rfl, hd6, hf6, hv6⟩
          have hB6 := Lib.hid (hB5.out.trans (hd5'.out.below hB5.out.size hf6))
          clear hd6 hf6 hv6
          go_wp2_with fail
          refine (bawake_any _).mono ?_
          rintro e w9 ⟨rfl, hb9⟩
          go_wp2
          go_ret
          exact ⟨rfl, hB6.out.trans (hb9.mono hB6.out.size)⟩
end Go.Proofs.Ythmdmbgjheploaa
