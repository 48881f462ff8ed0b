/- path.Parts: the names of a path, or what is wrong with it. -/
import Derived.Test.YtnpnablnnfekkaaDoorSplit
import Derived.Test.YtnpnablnnfekkaaDoorMem
import Derived.Test.YtnpnablnnfekkaaDoorWWords
import Derived.RegionTactic
import Derived.ChangeAlike
import Derived.IntWalk
set_option linter.unusedVariables false
set_option linter.unusedSimpArgs false
namespace Go.Proofs.YtnpnablnnfekkaaDoor
open Go.RowKit Go.Shelf Go.Proofs.YtnpnablnnfekkaaDoorW.PrintWords

attribute [local go_sem] Oper.semAt_some
theorem infoStr : (Tryd.prog.info? 9).map (fun i => (i.zero, i.size, i.bytes)) = some (some (.string ⟨#[]⟩), 1, 16) := by kernel_rfl

/-- a list of texts that a value owns, as the print has it -/
theorem own_R {w : World} {base : Nat} {v : Value} {l : List ByteArray} (h : w.ownsRow base 9 1 v l.length (l.map Value.string)) : Kd.R Kd.string 9 w base (fun _ => True) v l :=
  
  ⟨fun _ _ => trivial, l.map Value.string, h, by simp [Kd.string, Kd.scalar], fun j p hj => by
    show ((l.map Value.string).drop (j * 1)).take 1 = [.string p]
    have hl : j < l.length := (List.getElem?_eq_some_iff.1 hj).1
    rw [Nat.mul_one, List.drop_eq_getElem_cons (by simpa using hl), List.take_succ_cons, List.take_zero, List.getElem_map]
    rw [(List.getElem?_eq_some_iff.1 hj).2]⟩
theorem R_own_str {w : World} {base : Nat} {ok : Nat → Prop} {v : Value} {l : List ByteArray} (h : Kd.R Kd.string 9 w base ok v l) : w.ownsRow base 9 1 v l.length (l.map Value.string) := by
  obtain ⟨_, inner, ho, hlen, hr⟩ := h
  have hlen' : inner.length = l.length := by rw [hlen]; exact Nat.mul_one _
  have : inner = l.map Value.string := by
    refine List.ext_getElem (by simpa using hlen') fun j h1 h2 => ?_
    have hl : j < l.length := by omega
    have h3 : ((inner.drop (j * 1)).take 1) = [.string l[j]] := hr j l[j] (List.getElem?_eq_getElem hl)
    rw [Nat.mul_one, List.drop_eq_getElem_cons h1, List.take_succ_cons, List.take_zero] at h3
    simpa using h3
  rw [← this]
  exact ho

theorem toList_data (p : ByteArray) : p.toList = p.data.toList := by
  cases p with
  | mk d => rw [← Array.toArray_toList (xs := d), ByteArray.toList_mk]
theorem empty_iff (p : ByteArray) : p.toList.isEmpty = true ↔ p.size = 0 := by
  rw [toList_data, List.isEmpty_iff, ← List.length_eq_zero_iff, Array.length_toList]; rfl
theorem head_at (p : ByteArray) (h : 0 < p.size) : p.data.toList.head? = some p[0] := by
  have h' : 0 < p.data.toList.length := by rw [Array.length_toList]; exact h
  rw [List.head?_eq_getElem?, List.getElem?_eq_getElem h']; rfl

theorem last_at (p : ByteArray) (h : 0 < p.size) : p.data.toList.getLast? = some p[p.size - 1] := by
  have h' : p.data.toList.length = p.size := by rw [Array.length_toList]; rfl
  rw [List.getLast?_eq_getElem?, h', List.getElem?_eq_getElem (by omega)]; rfl
set_option maxHeartbeats 1000000 in
theorem parts_bad (p : ByteArray) (w : World) (hp : p.size ≤ maxLen) (h : p.size = 0 ∨ 256 < p.size ∨ p.data.toList.head? ≠ some 47 ∨ 0 ≤ Lib.indexByte p.data.toList 0) :
    Calls Tryd.prog 41 #[.string p] w fun e w' => ∃ v, e = .returned (.tuple #[v, .bool (partsOf p).2.1, .int .i64 (partsOf p).2.2]) ∧ v = .slice none 0 0 ∧ (partsOf p).1 = [] ∧ Below w.heap.size w w' := by
  unfold maxLen at hp
  by_cases h0 : p.size = 0
  · have hf : Hid (partsOf p = ([], false, 20)) := Lib.hid (by unfold partsOf; rw [if_pos h0])
    have he := (empty_iff p).2 h0
    clear h h0
    go_enter Tryd.func41, Tryd.ntmps41
    go_wp2
    rw [hf.out]
    exact bodyPost_ret (v := .tuple #[.slice none 0 0, .bool false, .int .i64 20]) (by simp [results, Tryd.results41, go_sem]) rfl ⟨_, rfl, rfl, rfl, (((Below.refl _ _).alloc (Nat.le_refl _) _).alloc (by simp) _).alloc (by simp; omega) _⟩
  have he : p.toList.isEmpty = false := by rw [← Bool.not_eq_true, empty_iff]; exact h0
  by_cases h1 : 256 < p.size
  · have hf : Hid (partsOf p = ([], false, 26)) := Lib.hid (by unfold partsOf; rw [if_neg h0, if_pos h1])
    clear h h0
    go_enter Tryd.func41, Tryd.ntmps41
    go_wp2
    rw [hf.out]
    exact bodyPost_ret (v := .tuple #[.slice none 0 0, .bool false, .int .i64 26]) (by simp [results, Tryd.results41, go_sem]) rfl ⟨_, rfl, rfl, rfl, (((Below.refl _ _).alloc (Nat.le_refl _) _).alloc (by simp) _).alloc (by simp; omega) _⟩
  have hpos : 0 < p.size := by omega
  have h2 : p.data.toList.head? ≠ some 47 ∨ 0 ≤ Lib.indexByte p.data.toList 0 := by rcases h with h | h | h; exact absurd h h0; exact absurd h h1; exact h
  have hf : Hid (partsOf p = ([], false, 28)) := Lib.hid (by unfold partsOf; rw [if_neg h0, if_neg h1, if_pos h2])
  by_cases h3 : p.data.toList.head? = some 47
  · have h4 : 0 ≤ Lib.indexByte p.data.toList 0 := by rcases h2 with h2 | h2; exact absurd h3 h2; exact h2
    rw [head_at p hpos] at h3
    have h5 : ((p[0].toNat : Int) != 47) = false := by rw [Option.some.inj h3]; rfl
    clear h h0 h2 h3
    go_enter Tryd.func41, Tryd.ntmps41
    go_wp2_with (go_at_call 71; refine (Tryd.strings_IndexByte p 0 _).mono ?_; rintro e w' ⟨rfl, rfl⟩)
    rw [hf.out]
    exact bodyPost_ret (v := .tuple #[.slice none 0 0, .bool false, .int .i64 28]) (by simp [results, Tryd.results41, go_sem]) rfl ⟨_, rfl, rfl, rfl, (((Below.refl _ _).alloc (Nat.le_refl _) _).alloc (by simp) _).alloc (by simp; omega) _⟩
  · rw [head_at p hpos] at h3
    have h5 : ((p[0].toNat : Int) != 47) = true := by
      rw [bne_iff_ne]; intro e; apply h3; congr 1; apply UInt8.toNat_inj.1; have : (47 : UInt8).toNat = 47 := rfl; omega
    clear h h0 h2 h3
    go_enter Tryd.func41, Tryd.ntmps41
    go_wp2_with fail
    rw [hf.out]
    exact bodyPost_ret (v := .tuple #[.slice none 0 0, .bool false, .int .i64 28]) (by simp [results, Tryd.results41, go_sem]) rfl ⟨_, rfl, rfl, rfl, (((Below.refl _ _).alloc (Nat.le_refl _) _).alloc (by simp) _).alloc (by simp; omega) _⟩

/-- between two rounds: the names so far in the variable; the results as they lay -/
def PI (w : World) (pre : List ByteArray) (W : World) : Prop :=
  (((((∃ v, Boxed W (w.heap.size + 3) 63 v ∧ W.ownsRow (w.heap.size + 7) 9 1 v (full pre).length ((full pre).map Value.string) ∧ pre.any (fun x => decide (64 < x.size)) = false) ∧ Boxed W w.heap.size 63 (.slice none 0 0)) ∧ Boxed W (w.heap.size + 1) 4 (.bool false)) ∧ Boxed W (w.heap.size + 2) 29 (.int .i64 0)) ∧ w.heap.size + 7 ≤ W.heap.size) ∧ Below w.heap.size w W
def PX (w : World) (c : Code) (pre : List ByteArray) (W : World) : Prop :=
  ((((c = .ret ∧ pre.any (fun x => decide (64 < x.size)) = true) ∧ Boxed W w.heap.size 63 (.slice none 0 0)) ∧ Boxed W (w.heap.size + 1) 4 (.bool false)) ∧ Boxed W (w.heap.size + 2) 29 (.int .i64 26)) ∧ Below w.heap.size w W
theorem ownFrom_size {β : Type} (B k : Nat) : OwnFrom B (fun (_ : β) W => k ≤ W.heap.size) := fun _ _ _ _ hs hg _ => Nat.le_trans hs hg.size
theorem PI_own (w : World) (B : Nat) (hB : w.heap.size ≤ B) : OwnFrom B (PI w) :=
  ((OwnFrom.and (OwnFrom.and (OwnFrom.and (Own.from (holdsRow_own (w.heap.size + 7) (w.heap.size + 3) 63 9 1 (fun pre : List ByteArray => (full pre).length) (fun pre => (full pre).map Value.string) (fun pre _ => pre.any (fun x => decide (64 < x.size)) = false)) _) (Own.from (boxed_own _ _ _) _)) (Own.from (boxed_own _ _ _) _)) (Own.from (boxed_own _ _ _) _)).and (ownFrom_size _ _)).and (ownFrom_below (Nat.le_refl _) hB)
theorem PX_own (w : World) (B : Nat) (hB : w.heap.size ≤ B) (c : Code) : OwnFrom B (PX w c) :=
  (OwnFrom.and (OwnFrom.and (OwnFrom.and (ownFrom_pure _ _) (Own.from (boxed_own _ _ _) _)) (Own.from (boxed_own _ _ _) _)) (Own.from (boxed_own _ _ _) _)).and (ownFrom_below (Nat.le_refl _) hB)
theorem own_apart {w : World} {base k : Nat} {e : TypeId} {size n : Nat} {v : Value} {xs : List Value} (h : w.ownsRow base e size v n xs) (hk : k < base) : v.ownBlock ≠ some k := by
  rcases h.2 with ⟨rfl, _⟩ | ⟨g, cap, cur, rfl, hb, _⟩
  · simp [Value.ownBlock]
  · intro e'; have : g = k := by simpa [Value.ownBlock] using e'
    omega
theorem PI_cell (w : World) : ∀ s A x, PI w s A → PI w s (A.setCell ⟨w.heap.size + 4, 0, none⟩ (.string x)) := by
  rintro s A x ⟨⟨⟨⟨⟨⟨v, h1, h2, hsm⟩, h3⟩, h4⟩, h5⟩, h7⟩, h6⟩
  exact ⟨⟨⟨⟨⟨⟨v, h1.other (by omega) _, h2.kept (grownBy_setCell' A _ _) (.inr (own_apart h2 (by omega))), hsm⟩, h3.other (by omega) _⟩, h4.other (by omega) _⟩, h5.other (by omega) _⟩, by simpa [World.setCell] using h7⟩, h6.setCell (p := ⟨w.heap.size + 4, 0, none⟩) (by simp) _⟩

theorem prefix_length {pre : List ByteArray} {x : ByteArray} {p : ByteArray} (h : pre ++ [x] <+: pieces p) : pre.length ≤ p.size := by
  have h1 := h.length_le
  have h2 := pieces_length p
  simp at h1
  omega

theorem boxed_putObj {W : World} {B D : Nat} {t : TypeId} {v : Value} (h : Boxed W B t v) (hne : B ≠ D) (o : Obj) : Boxed (W.putObj D o) B t v := (World.putObj_heap_other hne).trans h
theorem parts_fin {W : World} {h D : Nat} {v : Value} {b : Bool} {k : Int} {tmps : Array Value} {R : Ending → World → Prop} (h0 : Boxed W h 63 v) (h1 : Boxed W (h + 1) 4 (.bool b)) (h2 : Boxed W (h + 2) 29 (.int .i64 k))
    (hv : ∃ A n c, v = .slice A n c) (hK : W.heap[D]? = some (.deferred (some []))) (hD : h + 7 ≤ D) (t2 : tmps[2]?.getD undef = .pointer (some ⟨h, 0, none⟩)) (t3 : tmps[3]?.getD undef = .pointer (some ⟨h + 1, 0, none⟩)) (t4 : tmps[4]?.getD undef = .pointer (some ⟨h + 2, 0, none⟩))
    (hR : R (.returned (.tuple #[v, .bool b, .int .i64 k])) (W.putObj D (.deferred none))) :
    bodyPostM Fence.wide 6 Tryd.prog Tryd.f41 R .ret { tmps := tmps, defers := [{ target := .collected D, args := #[] }] } W := by
  refine ⟨by simp, .inl ⟨_, _, rfl, run_takeDeferred hK, ?_⟩⟩
  have c0 := (boxed_putObj h0 (D := D) (by omega) (.deferred none)).cell
  have c1 := (boxed_putObj h1 (D := D) (by omega) (.deferred none)).cell
  have c2 := (boxed_putObj h2 (D := D) (by omega) (.deferred none)).cell
  obtain ⟨A, n, c, rfl⟩ := hv
  refine ⟨.tuple #[.slice A n c, .bool b, .int .i64 k], ?_, hR⟩
  simp [results, Tryd.results41, go_sem, t2, t3, t4, c0, c1, c2]
theorem row_end {w W : World} {D n : Nat} {v : Value} {xs : List Value} (hrow : W.ownsRow (w.heap.size + 7) 9 1 v n xs) (hne : ∀ k, k = w.heap.size ∨ k = w.heap.size + 1 ∨ k = w.heap.size + 2 → v.ownBlock ≠ some k) (x y z : Value) (hK : W.heap[D]? = some (.deferred (some []))) :
    ((((W.setCell ⟨w.heap.size, 0, none⟩ x).setCell ⟨w.heap.size + 1, 0, none⟩ y).setCell ⟨w.heap.size + 2, 0, none⟩ z).drew.putObj D (.deferred none)).ownsRow w.heap.size 9 1 v n xs := by
  have h1 := ((hrow.kept (grownBy_setCell' W w.heap.size x) (.inr (hne _ (.inl rfl)))).kept (grownBy_setCell' _ (w.heap.size + 1) y) (.inr (hne _ (.inr (.inl rfl))))).kept (grownBy_setCell' _ (w.heap.size + 2) z) (.inr (hne _ (.inr (.inr rfl))))
  have h2 : ((((W.setCell ⟨w.heap.size, 0, none⟩ x).setCell ⟨w.heap.size + 1, 0, none⟩ y).setCell ⟨w.heap.size + 2, 0, none⟩ z).drew).ownsRow (w.heap.size + 7) 9 1 v n xs := h1
  refine own_weaken (ownsRow_putObj h2 _ (o := .deferred (some [])) ?_ rfl) (Nat.le_add_right _ 7)
  exact ((KeepsOthers.setCell W ⟨w.heap.size, 0, none⟩ x).trans ((KeepsOthers.setCell _ ⟨w.heap.size + 1, 0, none⟩ y).trans (KeepsOthers.setCell _ ⟨w.heap.size + 2, 0, none⟩ z))).same D _ hK rfl

set_option maxRecDepth 100000 in
set_option maxHeartbeats 2000000 in
theorem parts_good (p : ByteArray) (w : World) (hp0 : p.size ≠ 0) (hp : p.size ≤ 256) (hh : p.data.toList.head? = some 47) (hz : Lib.indexByte p.data.toList 0 < 0) :
    Calls Tryd.prog 41 #[.string p] w fun e w' => ∃ v, e = .returned (.tuple #[v, .bool (partsOf p).2.1, .int .i64 (partsOf p).2.2]) ∧ w'.ownsRow w.heap.size 9 1 v (partsOf p).1.length ((partsOf p).1.map Value.string) ∧ Below w.heap.size w w' := by
  have hpos : 0 < p.size := by omega
  have hpart : Hid (partsOf p = if (pieces p).any (fun x => decide (64 < x.size)) then ([], false, 26) else (full (pieces p), p.data.toList.getLast? == some 47 && decide (0 < (full (pieces p)).length), 0)) :=
    Lib.hid (by unfold partsOf; rw [if_neg hp0, if_neg (by omega), if_neg (by rw [hh]; simp; omega)])
  have he : p.toList.isEmpty = false := by rw [← Bool.not_eq_true, empty_iff]; exact hp0
  have hhd : ((p[0].toNat : Int) != 47) = false := by rw [head_at p hpos] at hh; rw [Option.some.inj hh]; rfl
  obtain ⟨i0, hi, hz0, hz1, hz2⟩ := info_parts infoStr
  clear hh hp0
  refine (callsIn_wide (n := 6)).1 ?_
  refine callsIn_of_wp_marks Tryd.func41 rfl trivial ?_ rfl
  simp only [Tryd.ntmps41, List.size_toArray, List.length_cons, List.length_nil, Nat.reduceAdd, Nat.reduceSub, Array.replicate_succ, Array.replicate_zero, List.push_toArray, List.append_toArray, List.nil_append, List.cons_append]
  gi_wp2_with (first | (refine ⟨trivial, ?_⟩; gi_at_call 71; refine (callsIn_wide.2 (Tryd.strings_IndexByte p 0 _)).mono ?_; rintro e w' ⟨rfl, rfl⟩) | (refine ⟨trivial, ?_⟩; gi_at_call 72; refine (callsIn_wide.2 (splitSeq_call p _)).mono ?_; rintro e w' ⟨rfl, rfl⟩))
  have hv3 := vars3_new p (((w.alloc (.cells #[.slice none 0 0] 63)).alloc (.cells #[.bool false] 4)).alloc (.cells #[.int .i64 0] 29) |>.alloc (.cells #[.slice none 0 0] 63))
  have b0 := Boxed.new w 63 (.slice none 0 0)
  have b1 := Boxed.new (w.alloc (.cells #[.slice none 0 0] 63)) 4 (.bool false)
  have b2 := Boxed.new ((w.alloc (.cells #[.slice none 0 0] 63)).alloc (.cells #[.bool false] 4)) 29 (.int .i64 0)
  have b3 := Boxed.new (((w.alloc (.cells #[.slice none 0 0] 63)).alloc (.cells #[.bool false] 4)).alloc (.cells #[.int .i64 0] 29)) 63 (.slice none 0 0)
  simp only [World.size_alloc, Nat.add_assoc, Nat.reduceAdd] at hv3 b1 b2 b3 ⊢
  have hB0 : Below w.heap.size w (((((((w.alloc (.cells #[.slice none 0 0] 63)).alloc (.cells #[.bool false] 4)).alloc (.cells #[.int .i64 0] 29)).alloc (.cells #[.slice none 0 0] 63)).alloc (.cells #[.string p] 9)).alloc (.cells #[.string ⟨#[47]⟩] 9)).alloc (.cells #[.int .i64 0] 3)) :=
    ((((((((Below.refl _ w).alloc (Nat.le_refl _) _).alloc (by simp) _).alloc (by simp; omega) _).alloc (by simp; omega) _).alloc (by simp; omega) _).alloc (by simp; omega) _).alloc (by simp; omega) _)
  have hPI : PI w [] (((((((w.alloc (.cells #[.slice none 0 0] 63)).alloc (.cells #[.bool false] 4)).alloc (.cells #[.int .i64 0] 29)).alloc (.cells #[.slice none 0 0] 63)).alloc (.cells #[.string p] 9)).alloc (.cells #[.string ⟨#[47]⟩] 9)).alloc (.cells #[.int .i64 0] 3)) :=
    ⟨⟨⟨⟨⟨⟨_, ((b3.alloc _).alloc _).alloc _, World.ownsRow_nil _ _ _ _, rfl⟩, (((((b0.alloc _).alloc _).alloc _).alloc _).alloc _).alloc _⟩, ((((b1.alloc _).alloc _).alloc _).alloc _).alloc _⟩, (((b2.alloc _).alloc _).alloc _).alloc _⟩, by simp⟩, hB0⟩
  have hsz : (((((((w.alloc (.cells #[.slice none 0 0] 63)).alloc (.cells #[.bool false] 4)).alloc (.cells #[.int .i64 0] 29)).alloc (.cells #[.slice none 0 0] 63)).alloc (.cells #[.string p] 9)).alloc (.cells #[.string ⟨#[47]⟩] 9)).alloc (.cells #[.int .i64 0] 3)).heap.size = w.heap.size + 7 := by simp
  clear b0 b1 b2 b3
  generalize (((((((w.alloc (.cells #[.slice none 0 0] 63)).alloc (.cells #[.bool false] 4)).alloc (.cells #[.int .i64 0] 29)).alloc (.cells #[.slice none 0 0] 63)).alloc (.cells #[.string p] 9)).alloc (.cells #[.string ⟨#[47]⟩] 9)).alloc (.cells #[.int .i64 0] 3)) = W0 at hv3 hB0 hPI hsz ⊢
  have Hsz := Lib.hid hsz
  clear hsz
  refine range_state (gf := 97) (lb := #[.pointer (some ⟨w.heap.size + 5, 0, none⟩), .pointer (some ⟨w.heap.size + 4, 0, none⟩), .pointer (some ⟨w.heap.size + 6, 0, none⟩)]) rfl (by omega) rfl trivial (enters_of Tryd.func97 (by kernel_rfl) rfl)
    (split1 5 (w.heap.size + 4) p W0 (by omega) (by have := Hsz.out; omega) (by unfold maxLen; omega) hv3) (by have := Hsz.out; omega) (fun h k => Kp3.trans h k) (fun W l o hl => fun k h1 h2 => World.putObj_heap_other (by have := Hsz.out; omega)) (Below.refl _ _)
    (PI w) (PX w) (PI_own w _ (by have := Hsz.out; omega)) (PX_own w _ (by have := Hsz.out; omega)) (PI_cell w) hPI ?round ?done ?stop
  case round =>
    rintro l pre x W hpre hI
    gi_wp2
    refine ⟨trivial, ?_⟩
    clear hI W
    rintro W ⟨⟨⟨⟨⟨⟨v, hv, hrow, hsm⟩, bx0⟩, bx1⟩, bx2⟩, hW7⟩, hB⟩
    have hc := hv.cell
    have c0 := bx0.cell
    have c1 := bx1.cell
    have c2 := bx2.cell
    have z0 := bx0.frozen
    have z1 := bx1.frozen
    have z2 := bx2.frozen
    have Hsm := Lib.hid hsm
    clear hsm
    have hpl := full_length pre
    have hpl2 := prefix_length hpre
    by_cases hbig : 64 < x.size
    · gi_wp2
      exact ⟨(((KeepsOthers.setCell _ _ _).trans (KeepsOthers.setCell _ _ _)).trans (KeepsOthers.setCell _ _ _)).from _,
        ⟨⟨⟨⟨rfl, by simp [hbig]⟩, ((bx0.set _).other (by omega) _).other (by omega) _⟩, ((bx1.other (by omega) _).set _).other (by omega) _⟩, ((bx2.other (by omega) _).other (by omega) _).set _⟩,
        ((hB.setCell (p := ⟨w.heap.size, 0, none⟩) (by simp) _).setCell (p := ⟨w.heap.size + 1, 0, none⟩) (by simp) _).setCell (p := ⟨w.heap.size + 2, 0, none⟩) (by simp) _⟩
    by_cases hx : 0 < x.size
    · have hxe : x.toList.isEmpty = false := by rw [← Bool.not_eq_true, empty_iff]; omega
      gi_wp2_with (gi_at_builtin; refine wpListIn_append_own _ rfl _ _ 63 rfl (w.heap.size + 7) 9 i0 (.string ⟨#[]⟩) 1 16 Tryd.underlying63 hi hz0 hz1 hz2 rfl (by decide) _ _ _ rfl (hrow.alloc _) ⟨W.heap.size, 0, none⟩ 1 1 [.string x] rfl rfl (cell_one_new _ _ _) (by simp [Value.oneCell']) (by unfold maxLen; omega) (by omega) (by simp; omega) ?_; intro v' w1 hown' hgrow _; obtain ⟨g', cap', rfl⟩ := ownsRow_succ hown'; obtain ⟨hv1, hv2, _, hk2, hb2⟩ := hv.appended (by decide) (own_weaken hrow (Nat.le_add_right _ 7)) hB.size (by omega) (own_weaken hown' (Nat.le_add_right _ 7)) hgrow; have hc1 := hv1.cell; have hf1 := hv1.frozen)
      have hgo : ∀ k, k < W.heap.size → k ≠ w.heap.size + 3 → v.ownBlock ≠ some k → (w1.setCell ⟨w.heap.size + 3, 0, none⟩ (.slice (some ⟨g', 0, none⟩) ((full pre).length + 1) cap')).heap[k]? = W.heap[k]? := fun k hk h3 hk2 =>
        ((Below.heap_setCell _ _ _ k h3).trans (hgrow.block k (by simp; omega) (fun e => hk2 e.symm))).trans (Below.heap_alloc W _ k hk)
      have hn1 : v.ownBlock ≠ some w.heap.size := own_apart hrow (by omega)
      have hn2 : v.ownBlock ≠ some (w.heap.size + 1) := own_apart hrow (by omega)
      have hn3 : v.ownBlock ≠ some (w.heap.size + 2) := own_apart hrow (by omega)
      have hfs := full_snoc_pos pre hx
      refine ⟨hk2.from _, fun k h1 h2 => hgo k (by omega) (by omega) (own_apart hrow (by omega)), ⟨⟨⟨⟨⟨⟨_, hv2, ?_, by simp [Hsm.out, hbig]⟩, (hgo _ bx0.lt (by omega) hn1).trans bx0⟩, (hgo _ bx1.lt (by omega) hn2).trans bx1⟩, (hgo _ bx2.lt (by omega) hn3).trans bx2⟩, Nat.le_trans hW7 hb2.size⟩, hB.trans hb2⟩⟩
      have := hown'.kept (grownBy_setCell' w1 (w.heap.size + 3) (.slice (some ⟨g', 0, none⟩) ((full pre).length + 1) cap')) (.inr (hv1.not_row (by decide) hown').symm)
      rw [hfs]
      simpa using this
    · have hxe : x.toList.isEmpty = true := by rw [empty_iff]; omega
      gi_wp2
      have hfs := full_snoc_zero pre hx
      exact ⟨KeepsFrom.refl _ _, fun k _ _ => rfl, ⟨⟨⟨⟨⟨⟨_, hv, by rw [hfs]; exact hrow, by simp [Hsm.out, hbig]⟩, bx0⟩, bx1⟩, bx2⟩, hW7⟩, hB⟩⟩
  case done =>
    rintro D W hD ⟨⟨⟨⟨⟨⟨v, hv, hrow, hsm⟩, bx0⟩, bx1⟩, bx2⟩, hW7⟩, hB⟩ hK
    obtain ⟨A, c, rfl⟩ := own_slice hrow
    have hc := hv.cell
    have c0 := bx0.cell
    have c1 := bx1.cell
    have c2 := bx2.cell
    have z0 := bx0.frozen
    have z1 := bx1.frozen
    have z2 := bx2.frozen
    have hfl := full_length (pieces p)
    have hpl := pieces_length p
    gi_wp2
    refine wpIn_wide.2 ?_
    have i1 : (0 : Int) ≤ (p.size : Int) - 1 := by omega
    have i2 : ((p.size : Int) - 1).toNat = p.size - 1 := by omega
    have i3 : p.size - 1 < p.size := by omega
    have i4 : (1 : Int) ≤ (p.size : Int) := by omega
    have i5 : (p.size : Int) - 1 < (p.size : Int) := by omega
    have i6 : (0 : Int) < (p.size : Int) := by omega
    have hw : IntKind.i64.wrap ((p.size : Int) - 1) = (p.size : Int) - 1 := IntWalk.i64_in _ (by omega)
    have hany := Lib.hid hsm
    clear hsm
    have hlst := Lib.hid (last_at p hpos)
    have fin : ∀ (b : Bool), (p.data.toList.getLast? == some 47 && decide (0 < (full (pieces p)).length)) = b → ∀ (tmps : Array Value), tmps[2]?.getD undef = .pointer (some ⟨w.heap.size, 0, none⟩) → tmps[3]?.getD undef = .pointer (some ⟨w.heap.size + 1, 0, none⟩) → tmps[4]?.getD undef = .pointer (some ⟨w.heap.size + 2, 0, none⟩) →
        bodyPostM Fence.wide 6 Tryd.prog Tryd.f41 (fun e w' => ∃ v, e = .returned (.tuple #[v, .bool (partsOf p).2.1, .int .i64 (partsOf p).2.2]) ∧ w'.ownsRow w.heap.size 9 1 v (partsOf p).1.length ((partsOf p).1.map Value.string) ∧ Below w.heap.size w w') .ret { tmps := tmps, defers := [{ target := .collected D, args := #[] }] }
          (((W.setCell ⟨w.heap.size, 0, none⟩ (.slice A (full (pieces p)).length c)).setCell ⟨w.heap.size + 1, 0, none⟩ (.bool b)).setCell ⟨w.heap.size + 2, 0, none⟩ (.int .i64 0)).drew := by
      intro b hb tmps t2 t3 t4
      have hD7 : w.heap.size + 7 ≤ D := by have := Hsz.out; omega
      refine parts_fin (h := w.heap.size) (v := .slice A (full (pieces p)).length c) (b := b) (k := 0) (((bx0.set _).other (by omega) _).other (by omega) _) (((bx1.other (by omega) _).set _).other (by omega) _) (((bx2.other (by omega) _).other (by omega) _).set _) ⟨_, _, _, rfl⟩
        (((KeepsOthers.setCell W ⟨w.heap.size, 0, none⟩ _).trans ((KeepsOthers.setCell _ ⟨w.heap.size + 1, 0, none⟩ _).trans (KeepsOthers.setCell _ ⟨w.heap.size + 2, 0, none⟩ _))).same D _ hK rfl) hD7 t2 t3 t4 ⟨.slice A (full (pieces p)).length c, ?_⟩
      rw [hpart.out, hany.out, if_neg (by simp)]
      refine ⟨by rw [← hb], row_end hrow (fun k hk => own_apart hrow (by omega)) _ _ _ hK, ?_⟩
      exact (((hB.setCell (p := ⟨w.heap.size, 0, none⟩) (by simp) _).setCell (p := ⟨w.heap.size + 1, 0, none⟩) (by simp) _).setCell (p := ⟨w.heap.size + 2, 0, none⟩) (by simp) _).drew.trans (belowK_b (w := w) (Nat.le_refl _) _ D _ _ (by omega) (((KeepsOthers.setCell W ⟨w.heap.size, 0, none⟩ _).trans ((KeepsOthers.setCell _ ⟨w.heap.size + 1, 0, none⟩ _).trans (KeepsOthers.setCell _ ⟨w.heap.size + 2, 0, none⟩ _))).same D _ hK rfl) rfl rfl)
    have FIN := Lib.hid fin
    clear fin
    by_cases hlast : ((p[p.size - 1].toNat : Int) == 47) = true
    · have hgl : Hid ((p.data.toList.getLast? == some 47 && decide (0 < (full (pieces p)).length)) = decide (0 < (full (pieces p)).length)) := by
        rw [hlst.out, show p[p.size - 1] = 47 from UInt8.toNat_inj.1 (by have : (47 : UInt8).toNat = 47 := rfl; rw [beq_iff_eq] at hlast; omega)]
        exact Lib.hid (by simp)
      go_region
      gi_wp2
      exact FIN.out _ hgl.out _ rfl rfl rfl
    · have hlast' : ((p[p.size - 1].toNat : Int) == 47) = false := by simpa using hlast
      have hgl : Hid ((p.data.toList.getLast? == some 47 && decide (0 < (full (pieces p)).length)) = false) := by
        rw [hlst.out]
        refine Lib.hid ?_
        have : p[p.size - 1] ≠ 47 := fun e => by rw [e] at hlast; exact hlast rfl
        simp [this]
      clear hlast
      go_region
      gi_wp2
      exact FIN.out _ hgl.out _ rfl rfl rfl
  case stop =>
    rintro D c pre W hD hpre ⟨⟨⟨⟨⟨rfl, hany⟩, bx0⟩, bx1⟩, bx2⟩, hB⟩ hK
    have hD7 : w.heap.size + 7 ≤ D := by have := Hsz.out; omega
    have hany2 : Hid ((pieces p).any (fun x => decide (64 < x.size)) = true) := by
      obtain ⟨t, ht⟩ := hpre
      rw [← ht, List.any_append, hany]
      exact Lib.hid rfl
    gi_wp2
    refine parts_fin (h := w.heap.size) (v := .slice none 0 0) (b := false) (k := 26) bx0 bx1 bx2 ⟨_, _, _, rfl⟩ hK hD7 rfl rfl rfl ⟨.slice none 0 0, ?_⟩
    rw [hpart.out, hany2.out, if_pos rfl]
    exact ⟨rfl, World.ownsRow_nil _ _ _ _, hB.trans (belowK_b (w := w) (Nat.le_refl _) _ D _ _ (by omega) hK rfl rfl)⟩

theorem parts_any (p : ByteArray) (w : World) (hp : p.size ≤ maxLen) :
    Calls Tryd.prog 41 #[.string p] w fun e w' => ∃ v, e = .returned (.tuple #[v, .bool (partsOf p).2.1, .int .i64 (partsOf p).2.2]) ∧ Kd.R Kd.string 9 w' w.heap.size (fun _ => True) v (partsOf p).1 ∧ Below w.heap.size w w' := by
  by_cases h : p.size = 0 ∨ 256 < p.size ∨ p.data.toList.head? ≠ some 47 ∨ 0 ≤ Lib.indexByte p.data.toList 0
  · refine (parts_bad p w hp h).mono ?_
    rintro e w' ⟨v, he, rfl, hn, hb⟩
    refine ⟨_, he, ?_, hb⟩
    rw [hn]
    exact Kd.R_nil _ _ _ _ _
  · simp only [not_or, Decidable.not_not, Nat.not_lt, Int.not_le] at h
    obtain ⟨h0, h1, h2, h3⟩ := h
    refine (parts_good p w h0 h1 h2 h3).mono ?_
    rintro e w' ⟨v, he, hr, hb⟩
    exact ⟨v, he, own_R hr, hb⟩
end Go.Proofs.YtnpnablnnfekkaaDoor
