/- path.Clean: a path without dots and without slashes that are too many. -/
import Derived.Test.YtnpnablnnfekkaaDoorParts
import Derived.Lib.FJoinFns
set_option linter.unusedVariables false
set_option linter.unusedSimpArgs false
namespace Go.Proofs.YtnpnablnnfekkaaDoor
open Go.RowKit Go.Shelf Go.Proofs.YtnpnablnnfekkaaDoorW.PrintWords

attribute [local go_sem] Oper.semAt_some

/-- one piece more -/
def cleanStep (l : List ByteArray) (x : ByteArray) : List ByteArray :=
  if x = ⟨#[46, 46]⟩ then l.dropLast else if 0 < x.size ∧ x ≠ ⟨#[46]⟩ then l ++ [x] else l
def cleanL (l : List ByteArray) : List ByteArray := l.foldl cleanStep []
theorem cleanL_snoc (l : List ByteArray) (x : ByteArray) : cleanL (l ++ [x]) = cleanStep (cleanL l) x := by simp [cleanL]
theorem cleanStep_length (l : List ByteArray) (x : ByteArray) : (cleanStep l x).length ≤ l.length + 1 := by
  unfold cleanStep
  split
  · simp; omega
  · split <;> simp
theorem foldl_clean_length : ∀ (l acc : List ByteArray), (l.foldl cleanStep acc).length ≤ acc.length + l.length
  | [], acc => by simp
  | x :: l, acc => by
    have h1 := cleanStep_length acc x
    have h2 := foldl_clean_length l (cleanStep acc x)
    simp only [List.foldl_cons, List.length_cons]
    omega
theorem cleanL_length (l : List ByteArray) : (cleanL l).length ≤ l.length := by
  have := foldl_clean_length l []
  simpa [cleanL] using this
def cleanOf (p : ByteArray) : ByteArray := asB (47 :: Lib.join ((cleanL (pieces p)).map (·.data.toList)) [47])

/-- how many bytes there are in all -/
def tot (l : List ByteArray) : Nat := Lib.lens (l.map (·.data.toList))
theorem tot_append (a b : List ByteArray) : tot (a ++ b) = tot a + tot b := by simp [tot, Lib.lens]
theorem tot_dropLast (l : List ByteArray) : tot l.dropLast ≤ tot l := by
  rcases List.eq_nil_or_concat l with rfl | ⟨a, x, rfl⟩
  · simp
  · simp only [List.concat_eq_append, List.dropLast_concat, tot_append]; omega
theorem tot_step (l : List ByteArray) (x : ByteArray) : tot (cleanStep l x) ≤ tot l + tot [x] := by
  unfold cleanStep
  split
  · have := tot_dropLast l; omega
  · split
    · rw [tot_append]; omega
    · omega
theorem tot_foldl : ∀ (l acc : List ByteArray), tot (l.foldl cleanStep acc) ≤ tot acc + tot l
  | [], acc => by simp
  | x :: l, acc => by
    have h1 := tot_step acc x
    have h2 := tot_foldl l (cleanStep acc x)
    have h3 : tot (x :: l) = tot [x] + tot l := tot_append [x] l
    simp only [List.foldl_cons]
    omega
theorem tot_cut : ∀ l : List UInt8, Lib.lens (cutAt l) ≤ l.length
  | [] => by simp [cutAt, Lib.lens]
  | c :: l => by
    have ih := tot_cut l
    have hne := cutAt_ne l
    unfold cutAt
    split
    · simp [Lib.lens] at ih ⊢; omega
    · cases h : cutAt l with
      | nil => exact absurd h hne
      | cons x xs => rw [h] at ih; simp [Lib.lens] at ih ⊢; omega
theorem tot_pieces (p : ByteArray) : tot (pieces p) ≤ p.size := by
  have := tot_cut p.data.toList
  have e : (pieces p).map (·.data.toList) = cutAt p.data.toList := by rw [pieces, List.map_map]; exact (List.map_congr_left (fun l _ => by simp [asB])).trans (List.map_id _)
  rw [tot, e]
  rw [Array.length_toList] at this
  exact this
theorem clean_len (p : ByteArray) : (Lib.join ((cleanL (pieces p)).map (·.data.toList)) [47]).length ≤ 2 * p.size + 1 := by
  have h1 := Lib.Pa.join_len_le ((cleanL (pieces p)).map (·.data.toList))
  have h2 : tot (cleanL (pieces p)) ≤ tot [] + tot (pieces p) := tot_foldl (pieces p) []
  have h3 := tot_pieces p
  have h4 := cleanL_length (pieces p)
  have h5 := pieces_length p
  have h6 : tot [] = 0 := rfl
  rw [List.length_map] at h1
  unfold tot at h2 h3 h6
  omega
theorem own_cells {w : World} {base g n c : Nat} {l : List ByteArray} (h : w.ownsRow base 9 1 (.slice (some ⟨g, 0, none⟩) n c) n (l.map Value.string)) : ∀ (j : Nat) x, l[j]? = some x → w.cell? ⟨g, 0 + j, none⟩ = some (.string x) := by
  intro j x hx
  rcases h.2 with ⟨h1, _⟩ | ⟨g', cap, cur, h1, hb, hh, hl, hm, hs, ht⟩
  · cases h1
  · injection h1 with h1 _ _; injection h1 with h1; injection h1 with h1 _ _
    subst h1
    rw [Nat.zero_add]
    refine cell_blk hh ?_
    have e : (cur.toList.take (n * 1))[j]? = some (.string x) := by rw [ht]; simp [hx]
    rw [← Array.getElem?_toList]
    by_cases hj : j < n * 1
    · rwa [List.getElem?_take_of_lt hj] at e
    · rw [List.getElem?_eq_none (by simp; omega)] at e; cases e

theorem slash_asB (l : List UInt8) : (⟨#[47]⟩ : ByteArray) ++ asB l = asB (47 :: l) := by
  apply ByteArray.ext
  simp [asB, ByteArray.data_append]

def CI (w : World) (pre : List ByteArray) (W : World) : Prop :=
  ((∃ v, Boxed W w.heap.size 63 v ∧ W.ownsRow (w.heap.size + 4) 9 1 v (cleanL pre).length ((cleanL pre).map Value.string) ∧ True) ∧ w.heap.size + 4 ≤ W.heap.size) ∧ Below w.heap.size w W
theorem CI_own (w : World) (B : Nat) (hB : w.heap.size ≤ B) : OwnFrom B (CI w) :=
  (OwnFrom.and (Own.from (holdsRow_own (w.heap.size + 4) w.heap.size 63 9 1 (fun pre : List ByteArray => (cleanL pre).length) (fun pre => (cleanL pre).map Value.string) (fun _ _ => True)) _) (ownFrom_size _ _)).and (ownFrom_below (Nat.le_refl _) hB)
theorem CI_cell (w : World) : ∀ s A x, CI w s A → CI w s (A.setCell ⟨w.heap.size + 1, 0, none⟩ (.string x)) := by
  rintro s A x ⟨⟨⟨v, h1, h2, _⟩, h7⟩, h6⟩
  exact ⟨⟨⟨v, h1.other (by omega) _, h2.kept (grownBy_setCell' A _ _) (.inr (own_apart h2 (by omega))), trivial⟩, by simpa [World.setCell] using h7⟩, h6.setCell (p := ⟨w.heap.size + 1, 0, none⟩) (by simp) _⟩

set_option maxRecDepth 100000 in
set_option maxHeartbeats 2000000 in
theorem clean_any (p : ByteArray) (w : World) (hp : p.size ≤ 1000000) :
    Calls Tryd.prog 45 #[.string p] w fun e w' => e = .returned (.string (cleanOf p)) ∧ Below w.heap.size w w' := by
  obtain ⟨i0, hi, hz0, hz1, hz2⟩ := info_parts infoStr
  refine (callsIn_wide (n := 6)).1 ?_
  refine callsIn_of_wp_marks Tryd.func45 rfl trivial ?_ rfl
  simp only [Tryd.ntmps45, List.size_toArray, List.length_cons, List.length_nil, Nat.reduceAdd, Nat.reduceSub, Array.replicate_succ, Array.replicate_zero, List.push_toArray, List.append_toArray, List.nil_append, List.cons_append]
  gi_wp2_with (refine ⟨trivial, ?_⟩; gi_at_call 72; refine (callsIn_wide.2 (splitSeq_call p _)).mono ?_; rintro e w' ⟨rfl, rfl⟩)
  have hv3 := vars3_new p (w.alloc (.cells #[.slice none 0 0] 63))
  have b0 := Boxed.new w 63 (.slice none 0 0)
  simp only [World.size_alloc, Nat.add_assoc, Nat.reduceAdd] at hv3 ⊢
  have hB0 : Below w.heap.size w ((((w.alloc (.cells #[.slice none 0 0] 63)).alloc (.cells #[.string p] 9)).alloc (.cells #[.string ⟨#[47]⟩] 9)).alloc (.cells #[.int .i64 0] 3)) :=
    (((((Below.refl _ w).alloc (Nat.le_refl _) _).alloc (by simp) _).alloc (by simp; omega) _).alloc (by simp; omega) _)
  have hCI : CI w [] ((((w.alloc (.cells #[.slice none 0 0] 63)).alloc (.cells #[.string p] 9)).alloc (.cells #[.string ⟨#[47]⟩] 9)).alloc (.cells #[.int .i64 0] 3)) :=
    ⟨⟨⟨_, ((b0.alloc _).alloc _).alloc _, World.ownsRow_nil _ _ _ _, trivial⟩, by simp⟩, hB0⟩
  have hsz : ((((w.alloc (.cells #[.slice none 0 0] 63)).alloc (.cells #[.string p] 9)).alloc (.cells #[.string ⟨#[47]⟩] 9)).alloc (.cells #[.int .i64 0] 3)).heap.size = w.heap.size + 4 := by simp
  clear b0
  generalize ((((w.alloc (.cells #[.slice none 0 0] 63)).alloc (.cells #[.string p] 9)).alloc (.cells #[.string ⟨#[47]⟩] 9)).alloc (.cells #[.int .i64 0] 3)) = W0 at hv3 hB0 hCI hsz ⊢
  have Hsz := Lib.hid hsz
  clear hsz
  refine range_state (gf := 97) (lb := #[.pointer (some ⟨w.heap.size + 2, 0, none⟩), .pointer (some ⟨w.heap.size + 1, 0, none⟩), .pointer (some ⟨w.heap.size + 3, 0, none⟩)]) rfl (by omega) rfl trivial (enters_of Tryd.func97 (by kernel_rfl) rfl)
    (split1 5 (w.heap.size + 1) p W0 (by omega) (by have := Hsz.out; omega) (by unfold maxLen; omega) hv3) (by have := Hsz.out; omega) (fun h k => Kp3.trans h k) (fun W l o hl => fun k h1 h2 => World.putObj_heap_other (by have := Hsz.out; omega)) (Below.refl _ _)
    (CI w) (fun _ _ _ => False) (CI_own w _ (by have := Hsz.out; omega)) (fun _ _ _ _ _ hs _ _ => hs) (CI_cell w) hCI ?round ?done ?stop
  case round =>
    rintro l pre x W hpre hI
    gi_wp2
    refine ⟨trivial, ?_⟩
    clear hI W
    rintro W ⟨⟨⟨v, hv, hrow, _⟩, hW4⟩, hB⟩
    have hpl := cleanL_length pre
    have hpl2 := prefix_length hpre
    obtain ⟨A, c, rfl⟩ := own_slice hrow
    have hcl := own_le hrow
    have hc := hv.cell
    have zc := hv.frozen
    by_cases h1 : x = ⟨#[46, 46]⟩
    · subst h1
      have hcs : cleanL (pre ++ [⟨#[46, 46]⟩]) = (cleanL pre).take ((cleanL pre).length - 1) := by
        rw [cleanL_snoc, cleanStep, if_pos rfl, List.dropLast_eq_take]
      have hmx : Hid ((max 0 (((cleanL pre).length : Int) - 1)).toNat = (cleanL pre).length - 1) := Lib.hid (by omega)
      have Hcs := Lib.hid hcs
      clear hcs
      gi_wp2
      refine ⟨(KeepsOthers.setCell _ _ _).from _, fun k h1 h2 => Below.heap_setCell _ _ _ k (by simp; omega), ⟨⟨⟨_, hv.set _, ?_, trivial⟩, by simpa [World.setCell] using hW4⟩, hB.setCell (p := ⟨w.heap.size, 0, none⟩) (by simp) _⟩⟩
      rw [hmx.out, Hcs.out]
      have h3 := own_take hrow (Nat.sub_le (cleanL pre).length 1)
      have h4 := own_setCell h3 (p := ⟨w.heap.size, 0, none⟩) (fun e => own_apart (k := w.heap.size) h3 (by omega) e.symm) (.slice A ((cleanL pre).length - 1) c)
      rw [List.length_take, Nat.min_eq_left (Nat.sub_le _ _), List.map_take]
      rwa [Nat.mul_one] at h4
    have h1' : (x.toList == [46, 46]) = false := by
      rw [toList_data]
      apply Bool.eq_false_iff.2
      intro e
      apply h1
      rw [← asB_toList x, eq_of_beq e]; rfl
    by_cases h2 : 0 < x.size ∧ x ≠ ⟨#[46]⟩
    · obtain ⟨h2, h3⟩ := h2
      have hxe : x.toList.isEmpty = false := by rw [← Bool.not_eq_true, empty_iff]; omega
      have h3' : (x.toList == [46]) = false := by
        rw [toList_data]
        apply Bool.eq_false_iff.2
        intro e
        apply h3
        rw [← asB_toList x, eq_of_beq e]; rfl
      have Hcs : Hid (cleanL (pre ++ [x]) = cleanL pre ++ [x]) := Lib.hid (by rw [cleanL_snoc, cleanStep, if_neg h1, if_pos ⟨h2, h3⟩])
      gi_wp2_with (gi_at_builtin; refine wpListIn_append_own _ rfl _ _ 63 rfl (w.heap.size + 4) 9 i0 (.string ⟨#[]⟩) 1 16 Tryd.underlying63 hi hz0 hz1 hz2 rfl (by decide) _ _ _ rfl (hrow.alloc _) ⟨W.heap.size, 0, none⟩ 1 1 [.string x] rfl rfl (cell_one_new _ _ _) (by simp [Value.oneCell']) (by unfold maxLen; omega) (by omega) (by simp; omega) ?_; intro v' w1 hown' hgrow _; obtain ⟨g', cap', rfl⟩ := ownsRow_succ hown'; obtain ⟨hv1, hv2, _, hk2, hb2⟩ := hv.appended (by decide) (own_weaken hrow (Nat.le_add_right _ 4)) hB.size (by omega) (own_weaken hown' (Nat.le_add_right _ 4)) hgrow; have hc1 := hv1.cell; have hf1 := hv1.frozen)
      have hgo : ∀ k, k < W.heap.size → k ≠ w.heap.size → (Value.slice A (cleanL pre).length c).ownBlock ≠ some k → (w1.setCell ⟨w.heap.size, 0, none⟩ (.slice (some ⟨g', 0, none⟩) ((cleanL pre).length + 1) cap')).heap[k]? = W.heap[k]? := fun k hk h3 hk2 =>
        ((Below.heap_setCell _ _ _ k h3).trans (hgrow.block k (by simp; omega) (fun e => hk2 e.symm))).trans (Below.heap_alloc W _ k hk)
      refine ⟨hk2.from _, fun k h1 h2 => hgo k (by omega) (by omega) (own_apart hrow (by omega)), ⟨⟨⟨_, hv2, ?_, trivial⟩, Nat.le_trans hW4 hb2.size⟩, hB.trans hb2⟩⟩
      have := hown'.kept (grownBy_setCell' w1 w.heap.size (.slice (some ⟨g', 0, none⟩) ((cleanL pre).length + 1) cap')) (.inr (hv1.not_row (by decide) hown').symm)
      rw [Hcs.out]
      simpa using this
    · have Hcs : Hid (cleanL (pre ++ [x]) = cleanL pre) := Lib.hid (by rw [cleanL_snoc, cleanStep, if_neg h1, if_neg h2])
      by_cases h2' : 0 < x.size
      · have h3 : x = ⟨#[46]⟩ := Decidable.not_not.1 fun e => h2 ⟨h2', e⟩
        subst h3
        clear h1' h2 h1
        gi_wp2
        exact ⟨KeepsFrom.refl _ _, fun k _ _ => rfl, ⟨⟨⟨_, hv, by rw [Hcs.out]; exact hrow, trivial⟩, hW4⟩, hB⟩⟩
      · have hxe : x.toList.isEmpty = true := by rw [empty_iff]; omega
        gi_wp2
        exact ⟨KeepsFrom.refl _ _, fun k _ _ => rfl, ⟨⟨⟨_, hv, by rw [Hcs.out]; exact hrow, trivial⟩, hW4⟩, hB⟩⟩
  case done =>
    rintro D W hD ⟨⟨⟨v, hv, hrow, _⟩, hW4⟩, hB⟩ hK
    obtain ⟨A, c, rfl⟩ := own_slice hrow
    have hcl := own_le hrow
    have hc := hv.cell
    have hD4 : w.heap.size + 4 ≤ D := by have := Hsz.out; omega
    by_cases h0 : (cleanL (pieces p)).length = 0
    · rw [h0] at hc hv
      gi_wp2_with (refine ⟨trivial, ?_⟩; gi_at_call 75; refine (callsIn_wide.2 (Tryd.strings_Join_none _ _ _ _)).mono ?_; rintro e w' ⟨rfl, rfl⟩)
      have hcn : cleanL (pieces p) = [] := List.length_eq_zero_iff.1 h0
      refine ⟨by simp, .inl ⟨_, _, rfl, run_takeDeferred hK, ?_⟩⟩
      exact ⟨_, results_tmp rfl _ _ _, by unfold cleanOf; rw [hcn]; rfl, hB.trans (belowK_b (w := w) (Nat.le_refl _) _ D _ _ (by omega) hK rfl rfl)⟩
    · obtain ⟨g, hg⟩ : ∃ g, A = some ⟨g, 0, none⟩ := by
        obtain ⟨k, hk⟩ := Nat.exists_eq_succ_of_ne_zero h0
        have hrow' := hrow
        rw [hk] at hrow'
        obtain ⟨g, cap, he⟩ := owns_succ hrow'
        injection he with he _ _
        exact ⟨g, he⟩
      subst hg
      have hcells := Lib.hid (own_cells hrow)
      have hgl : g < W.heap.size := by
        rcases hrow.2 with ⟨h1, _⟩ | ⟨g', cap, cur, h1, hb, hh, _⟩
        · cases h1
        · injection h1 with h1 _ _; injection h1 with h1; injection h1 with h1 _ _
          subst h1
          exact blk_lt hh
      have hcp := clean_len p
      have hlp := cleanL_length (pieces p)
      have hpp := pieces_length p
      have hDl := (Array.getElem?_eq_some_iff.1 hK).1
      gi_wp2_with (refine ⟨trivial, ?_⟩; gi_at_call 75; refine (callsIn_wide.2 (Tryd.strings_Join g 0 c (cleanL (pieces p)) ⟨#[47]⟩ _ hcells.out hgl (by omega) hcl (by show (Lib.join _ [47]).length ≤ _; omega))).mono ?_; rintro e w' ⟨rfl, hbj⟩)
      have hK' := (hbj.block D hDl).trans hK
      refine ⟨by simp, .inl ⟨_, _, rfl, run_takeDeferred hK', ?_⟩⟩
      refine ⟨_, results_tmp rfl _ _ _, ?_, (hB.trans (hbj.mono hB.size)).trans (belowK_b (w := w) (Nat.le_refl _) _ D _ _ (by omega) hK' rfl rfl)⟩
      show Ending.returned (.string (⟨#[47]⟩ ++ asB (Lib.join ((cleanL (pieces p)).map (·.data.toList)) [47]))) = _
      unfold cleanOf
      rw [slash_asB]
  case stop =>
    rintro D c pre W hD hpre h hK
    exact h.elim
end Go.Proofs.YtnpnablnnfekkaaDoor
