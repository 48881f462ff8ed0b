/- What Read answers of a disk in memory. -/
import Derived.RegionIn
import Derived.Test.YthmdmbgjheploaaBlkR
set_option linter.unusedVariables false
set_option linter.unusedSimpArgs false
namespace Go.Proofs.Ythmdmbgjheploaa
open Go.RowKit Go.Shelf
attribute [local go_sem] Oper.semAt_some

def lastW (l : List (Int × ByteArray)) (i : Int) : Option ByteArray := (l.reverse.find? fun x => x.1 == i).map (·.2)
def readD (d : DiskS) (i : Int) : ByteArray × Int :=
  if d.blown = true then (⟨#[]⟩, 91) else if ¬ (0 ≤ i ∧ i < d.safe.length) then (⟨#[]⟩, 90) else ((lastW d.late i).getD (d.safe.getD i.toNat ⟨#[]⟩), 0)
theorem rev_fB (l : List (Int × ByteArray)) (k : Nat) (h : k < l.length) : l.reverse[k]'(by simpa using h) = fB l k := by
  unfold fB
  rw [List.getElem_reverse, List.getD_eq_getElem?_getD, List.getElem?_eq_getElem (by omega)]
  rfl
theorem lastW_none (l : List (Int × ByteArray)) (i : Int) (h : ∀ k < l.length, (fB l k).1 ≠ i) : lastW l i = none := by
  unfold lastW
  rw [List.find?_eq_none.2]
  · rfl
  · intro x hx
    obtain ⟨k, hk, rfl⟩ := List.mem_iff_getElem.1 hx
    have hk' : k < l.length := by simpa using hk
    rw [rev_fB l k hk']
    simpa using h k hk'
theorem lastW_some (l : List (Int × ByteArray)) (i : Int) (k : Nat) (hk : k < l.length) (h1 : (fB l k).1 = i) (h : ∀ j < k, (fB l j).1 ≠ i) : lastW l i = some (fB l k).2 := by
  unfold lastW
  have : l.reverse.find? (fun x => x.1 == i) = some (fB l k) := by
    rw [List.find?_eq_some_iff_getElem]
    refine ⟨by simpa using h1, k, by simpa using hk, rev_fB l k hk, fun j hj => ?_⟩
    rw [rev_fB l j (by omega)]
    simpa using h j hj
  rw [this]
  rfl
theorem ret_se {a b : ByteArray} {c d : Int} (h : a = b) (h' : c = d) : Ending.returned (.tuple #[.string a, .int .i64 c]) = .returned (.tuple #[.string b, .int .i64 d]) := by rw [h, h']

set_option maxRecDepth 100000 in
set_option maxHeartbeats 2000000 in
theorem read_any (w : World) (base p g : Nat) (v : Value) (d : DiskS) (i : Int) (h : IsDisk w base p g v d) :
    Calls Try.prog 27 #[.pointer (some ⟨p, 0, none⟩), .int .i64 i] w fun e w' => e = .returned (.tuple #[.string (readD d i).1, .int .i64 (readD d i).2]) ∧ Below w.heap.size w w' := by
  have kn := eq_nil
  have c0 : ∀ o1 o2 o3, (((w.alloc o1).alloc o2).alloc o3).cell? ⟨p, 0, none⟩ = some (.slice (some ⟨g, 0, none⟩) d.safe.length d.safe.length) := fun o1 o2 o3 => cell_blk (blk_alloc o3 (blk_alloc o2 (blk_alloc o1 h.head))) rfl
  have c1 : ∀ o1 o2 o3, (((w.alloc o1).alloc o2).alloc o3).cell? ⟨p, 1, none⟩ = some v := fun o1 o2 o3 => cell_blk (blk_alloc o3 (blk_alloc o2 (blk_alloc o1 h.head))) rfl
  have c3 : ∀ o1 o2 o3, (((w.alloc o1).alloc o2).alloc o3).cell? ⟨p, 3, none⟩ = some (.bool d.blown) := fun o1 o2 o3 => cell_blk (blk_alloc o3 (blk_alloc o2 (blk_alloc o1 h.head))) rfl
  have n0 := h.n0
  have n1 := h.n1
  have l1 := h.l1
  have hlp := blk_lt h.head
  have H := Lib.hid h
  clear h
  have HB : Hid (Below w.heap.size w (((w.alloc (.cells #[.int .i64 i] 3)).alloc (.cells #[.string ⟨#[]⟩] 9)).alloc (.cells #[.int .i64 0] 27))) := Lib.hid ((((Below.refl _ w).alloc (Nat.le_refl _) _).alloc (by simp) _).alloc (by simp; omega) _)
  by_cases hb : d.blown = true
  · simp only [hb] at c3
    have hD : Hid (readD d i = (⟨#[]⟩, 91)) := by unfold readD; rw [if_pos hb]; exact Lib.hid rfl
    clear hb
    go_enter Try.func27, Try.ntmps27
    go_wp2
    refine bodyPost_ret (v := .tuple #[.string ⟨#[]⟩, .int .i64 91]) (by simp [results, Try.f27, go_sem]) rfl ?_
    refine ⟨ret_se (by rw [hD.out]) (by rw [hD.out]), ?_⟩
    exact (((Below.refl _ w).alloc (Nat.le_refl _) _).alloc (by simp) _).alloc (by simp; omega) _
  · have hb' : d.blown = false := by simpa using hb
    simp only [hb'] at c3
    by_cases hi : 0 ≤ i ∧ i < d.safe.length
    · obtain ⟨hi0, hi1⟩ := hi
      refine (callsIn_wide (n := 3)).1 ?_
      refine callsIn_of_wp_marks Try.func27 rfl trivial ?_ rfl
      simp only [Try.ntmps27, List.size_toArray, List.length_cons, List.length_nil, Nat.reduceAdd, Nat.reduceSub, Array.replicate_succ, Array.replicate_zero, List.push_toArray, List.append_toArray, List.nil_append, List.cons_append]
      obtain ⟨A, c, hv⟩ := H.out.vslice
      simp only [hv] at c1
      have HV := Lib.hid hv
      clear hv
      refine wpIn_wide.2 ?_
      go_wp2_with fail
      go_quiet (fail)
      go_wp2_with fail
      refine (callsIn_wide (n := 3)).1 ((backward_in Fence.wide 3 trivial rfl _ _ _ _).mono ?_)
      rintro e w' ⟨rfl, rfl⟩
      go_wp2_with fail
      have hB3 := HB.out
      have b4 : (((w.alloc (.cells #[.int .i64 i] 3)).alloc (.cells #[.string ⟨#[]⟩] 9)).alloc (.cells #[.int .i64 0] 27)).heap[w.heap.size + 1]? = some (.cells #[.string ⟨#[]⟩] 9 (0, 0)) := by
        have := blk_new (w.alloc (.cells #[.int .i64 i] 3)) (.cells #[.string ⟨#[]⟩] 9)
        rw [World.size_alloc] at this
        exact blk_alloc _ this
      have b5 : (((w.alloc (.cells #[.int .i64 i] 3)).alloc (.cells #[.string ⟨#[]⟩] 9)).alloc (.cells #[.int .i64 0] 27)).heap[w.heap.size + 1 + 1]? = some (.cells #[.int .i64 0] 27 (0, 0)) := by
        have := blk_new ((w.alloc (.cells #[.int .i64 i] 3)).alloc (.cells #[.string ⟨#[]⟩] 9)) (.cells #[.int .i64 0] 27)
        rw [World.size_alloc, World.size_alloc] at this
        exact this
      have b3 : (((w.alloc (.cells #[.int .i64 i] 3)).alloc (.cells #[.string ⟨#[]⟩] 9)).alloc (.cells #[.int .i64 0] 27)).heap[w.heap.size]? = some (.cells #[.int .i64 i] 3 (0, 0)) := blk_alloc _ (blk_alloc _ (blk_new w _))
      obtain ⟨W3, hW3⟩ : ∃ W3, (((w.alloc (.cells #[.int .i64 i] 3)).alloc (.cells #[.string ⟨#[]⟩] 9)).alloc (.cells #[.int .i64 0] 27)).drewN nq = W3 := ⟨_, rfl⟩
      have hs3 : W3.heap.size = w.heap.size + 3 := by rw [← hW3]; simp [World.drewN]
      have hB3' : Below w.heap.size w W3 := by rw [← hW3]; exact below_drewN hB3 _
      have b3' : W3.heap[w.heap.size]? = some (.cells #[.int .i64 i] 3 (0, 0)) := by rw [← hW3]; exact b3
      have b4' : W3.heap[w.heap.size + 1]? = some (.cells #[.string ⟨#[]⟩] 9 (0, 0)) := by rw [← hW3]; exact b4
      have b5' : W3.heap[w.heap.size + 1 + 1]? = some (.cells #[.int .i64 0] 27 (0, 0)) := by rw [← hW3]; exact b5
      rw [hW3]
      clear hB3 b3 b4 b5 c0 c1 c3 hW3 HB kn
      obtain ⟨W0, hW0⟩ : ∃ W0, W3.alloc (.cells #[.slice A d.late.length c] 52) = W0 := ⟨_, rfl⟩
      have hs0 : W0.heap.size = w.heap.size + 4 := by rw [← hW0]; simp [hs3]
      have hB0 : Below w.heap.size w W0 := by rw [← hW0]; exact hB3'.alloc (by omega) _
      have d3 : W0.heap[w.heap.size]? = some (.cells #[.int .i64 i] 3 (0, 0)) := by rw [← hW0]; exact blk_alloc _ b3'
      have d4 : W0.heap[w.heap.size + 1]? = some (.cells #[.string ⟨#[]⟩] 9 (0, 0)) := by rw [← hW0]; exact blk_alloc _ b4'
      have d5 : W0.heap[w.heap.size + 1 + 1]? = some (.cells #[.int .i64 0] 27 (0, 0)) := by rw [← hW0]; exact blk_alloc _ b5'
      have d6 : W0.heap[w.heap.size + 1 + 1 + 1]? = some (.cells #[.slice A d.late.length c] 52 (0, 0)) := by
        have := blk_new W3 (.cells #[.slice A d.late.length c] 52)
        rw [hs3] at this
        rw [← hW0]; exact this
      rw [hW0]
      clear b3' b4' b5' hB3' hW0 hs3
      have hI0 : IsDisk W0 base p g v d := H.out.frm (S := fun _ => False) (Frm.of_below hB0) (fun _ _ h => h)
      have hLt : Lates W0.heap.size W0 (.slice A d.late.length c) d.late := by
        refine ⟨A, c, rfl, fun h0 => ?_⟩
        obtain ⟨gl, rfl, hv2⟩ := hI0.vcut HV.out h0
        refine ⟨gl, rfl, ?_, fun k hk => hI0.lateAt gl c hv2 k hk⟩
        exact hI0.lt gl (.inr (.inr (by rw [hv2]; rfl)))
      refine (wpIn_wide (n := 3)).1 (wpIn_rangeFunc_ownH rfl (by omega) (gf := 50) (lb := #[.pointer (some ⟨w.heap.size + 1 + 1 + 1, 0, none⟩)]) rfl trivial (enters_of Try.func50 (by kernel_rfl) rfl)
        (backward_stops Fence.wide (3 - 1) trivial rfl (by omega) (w.heap.size + 1 + 1 + 1) _ d.late l1 W0 (by omega) (cell_blk d6 rfl) hLt) belowK_t (belowK_b (Nat.le_refl _)) (Below.refl _ _) (fun _ => rfl)
        (fun pre W => (∀ y ∈ pre, (fB d.late y).1 ≠ i) ∧ Below W0.heap.size W0 W)
        (fun c pre W => (c = .ret ∧ ∃ pre' x, pre = pre' ++ [x] ∧ (∀ y ∈ pre', (fB d.late y).1 ≠ i) ∧ (fB d.late x).1 = i ∧ W.cell? ⟨w.heap.size + 1, 0, none⟩ = some (.string (fB d.late x).2) ∧ W.cell? ⟨w.heap.size + 1 + 1, 0, none⟩ = some (.int .i64 0)) ∧ Below w.heap.size w W)
        (fun s X Y row hs hg hr => ⟨hs.1, ownFrom_below (β := List Nat) (Nat.le_refl _) (Nat.le_refl _) s X Y row hs.2 hg hr⟩)
        (fun c s X Y row hs hg hr => ⟨⟨hs.1.1, by
          obtain ⟨pre', x, e1, e2, e3, e4, e5⟩ := hs.1.2
          exact ⟨pre', x, e1, e2, e3, cell_kept e4 hg (fun r e => (hr r e).2), cell_kept e5 hg (fun r e => (hr r e).2)⟩⟩, ownFrom_below (β := List Nat) (Nat.le_refl _) (by omega) s X Y row hs.2 hg hr⟩)
        ⟨by simp, Below.refl _ _⟩
        (fun x a' W => ∃ Bx, W0.heap.size ≤ Bx ∧ W.heap[Bx]? = some (.cells #[.int .i64 (fB d.late x).1, .string (fB d.late x).2] 78 (0, 0)) ∧ a' = { tmps := #[.pointer (some ⟨p, 0, none⟩), .int .i64 i, undef, .pointer (some ⟨w.heap.size, 0, none⟩), .pointer (some ⟨w.heap.size + 1, 0, none⟩), .pointer (some ⟨w.heap.size + 1 + 1, 0, none⟩), undef, .pointer (some ⟨Bx, 0, none⟩), .bool false, .pointer (some ⟨p, 0, none⟩), .bool false, .bool false, .pointer (some ⟨p, 0, none⟩), .pointer (some ⟨p, 0, none⟩), .pointer (some ⟨p, 0, none⟩), .slice (some ⟨g, 0, none⟩) d.safe.length d.safe.length, .bool false, .bool false, .bool false, .pointer (some ⟨p, 0, none⟩), .pointer (some ⟨p, 0, none⟩), .pointer (some ⟨p, 3, none⟩), .bool false, .bool (decide (i < 0) || decide ((d.safe.length : Int) ≤ i)), .int .i64 i, .bool (decide (i < 0)), .bool (decide (i < 0)), .int .i64 i, .pointer (some ⟨p, 0, none⟩), .pointer (some ⟨p, 0, none⟩), .pointer (some ⟨p, 0, none⟩), .slice (some ⟨g, 0, none⟩) d.safe.length d.safe.length, .int .i64 (d.safe.length : Int), .bool (decide ((d.safe.length : Int) ≤ i)), .bool (decide (i < 0) || decide ((d.safe.length : Int) ≤ i)), .pointer (some ⟨p, 0, none⟩), .pointer (some ⟨p, 0, none⟩), .pointer (some ⟨p, 1, none⟩), .slice A d.late.length c, .func (.func 50) #[] #[.pointer (some ⟨w.heap.size + 1 + 1 + 1, 0, none⟩)], .int .i64 ((d.late.length : Int) - 1 - x), .agg #[.int .i64 (fB d.late x).1, .string (fB d.late x).2], undef, undef, undef, undef, undef, undef, undef, undef, undef, undef, undef, undef, undef], defers := [] })
        (fun x a' _ X Y row hs hg hr => by
          obtain ⟨Bx, h1, h2, h3⟩ := hs
          exact ⟨Bx, h1, (grownBy_keeps_cells hg (fun r e => (hr r e).2) h2 rfl).trans h2, h3⟩)
        ?assign ?body ?done ?stop)
      case assign =>
        rintro l pre x W K ⟨hne, hBW⟩ hK
        simp only [encB]
        gi_wp2
        exact hK _ _ ((KeepsOthers.alloc _ _).from _) ((Below.refl _ W).alloc hBW.size _) ⟨hne, hBW.alloc hBW.size _⟩ ⟨W.heap.size, hBW.size, blk_new W _, rfl⟩
      case body =>
        rintro l pre x a' W hl ⟨r, hr⟩ ⟨hne, hBW⟩ ⟨Bx, hBx, hcx, rfl⟩ hlt
        have e3 := cell_blk (i := 0) ((hBW.block _ (by omega)).trans d3) rfl
        have e4 := cell_blk (i := 0) ((hBW.block _ (by omega)).trans d4) rfl
        have e5 := cell_blk (i := 0) ((hBW.block _ (by omega)).trans d5) rfl
        have z4 := frozen_blk 0 ((hBW.block _ (by omega)).trans d4)
        have z5 := frozen_blk 0 ((hBW.block _ (by omega)).trans d5)
        have x0 := cell_blk (i := 0) hcx rfl
        have x1 := cell_blk (i := 1) hcx rfl
        have g4 := (hBW.block _ (by omega)).trans d4
        have g5 := (hBW.block _ (by omega)).trans d5
        have r4 := Lib.hid (blk_set_other (g := w.heap.size + 1 + 1) 0 (.int .i64 0) (by omega) (blk_set 0 (.string (fB d.late x).2) g4))
        have r5 := Lib.hid (blk_set 0 (.int .i64 0) (blk_set_other (g := w.heap.size + 1) 0 (.string (fB d.late x).2) (by omega) g5))
        have rB := Lib.hid (((hB0.trans (hBW.mono hB0.size)).setCell (p := ⟨w.heap.size + 1, 0, none⟩) (by simp) (.string (fB d.late x).2)).setCell (p := ⟨w.heap.size + 1 + 1, 0, none⟩) (by simp; omega) (.int .i64 0))
        clear g4 g5
        gi_wp2
        · rename_i hx
          have hx' : (fB d.late x).1 = i := by simpa using hx
          exact ⟨((KeepsOthers.setCell _ _ _).trans (KeepsOthers.setCell _ _ _)).from _, ⟨rfl, pre, x, rfl, hne, hx', cell_blk r4.out rfl, cell_blk r5.out rfl⟩, rB.out⟩
        · rename_i hx
          have hx' : ¬ (fB d.late x).1 = i := by simpa using hx
          refine ⟨KeepsFrom.refl _ _, Below.refl _ _, fun y hy => ?_, hBW⟩
          rcases List.mem_append.1 hy with hy | hy
          · exact hne y hy
          · rw [List.mem_singleton] at hy
            subst hy
            exact hx'
      case done =>
        rintro D ys W hD rfl ⟨hne, hBW⟩ hK
        have hlast := Lib.hid (lastW_none d.late i (fun k hk => hne k (List.mem_range.2 hk)))
        have hR : Hid (readD d i = (d.safe.getD i.toNat ⟨#[]⟩, 0)) := by unfold readD; rw [if_neg hb, if_neg (by omega), hlast.out]; exact Lib.hid rfl
        have hIW : IsDisk W base p g v d := hI0.frm (S := fun _ => False) (Frm.of_below hBW) (fun _ _ h => h)
        have e0 := cell_blk (i := 0) hIW.head rfl
        have e3 := cell_blk (i := 0) ((hBW.block _ (by omega)).trans d3) rfl
        have e4 := cell_blk (i := 0) ((hBW.block _ (by omega)).trans d4) rfl
        have e5 := cell_blk (i := 0) ((hBW.block _ (by omega)).trans d5) rfl
        have z4 := frozen_blk 0 ((hBW.block _ (by omega)).trans d4)
        have z5 := frozen_blk 0 ((hBW.block _ (by omega)).trans d5)
        obtain ⟨m, rfl⟩ := Int.eq_ofNat_of_zero_le hi0
        have hm : m < d.safe.length := by omega
        have eg : W.cell? ⟨g, m, none⟩ = some (.string (d.safe[m])) := cell_blk (i := m) hIW.safe (by simp [hm])
        have hgd : Hid (d.safe.getD (m : Int).toNat ⟨#[]⟩ = d.safe[m]) := by
          refine Lib.hid ?_
          rw [Int.toNat_natCast, List.getD_eq_getElem?_getD, List.getElem?_eq_getElem hm]
          rfl
        go_wp2
        go_region
        all_goals
          go_wp2
          have hK' : (((W.setCell ⟨w.heap.size + 1, 0, none⟩ (.string d.safe[m])).setCell ⟨w.heap.size + 1 + 1, 0, none⟩ (.int .i64 0)).drew).heap[D]? = some (.deferred (some [])) := ((KeepsOthers.setCell W ⟨w.heap.size + 1, 0, none⟩ (.string d.safe[m])).trans (KeepsOthers.setCell _ ⟨w.heap.size + 1 + 1, 0, none⟩ (.int .i64 0))).same D _ hK rfl
          refine ⟨by simp, .inl ⟨_, _, rfl, run_takeDeferred hK', ?_⟩⟩
          have g4 := (hBW.block _ (by omega)).trans d4
          have g5 := (hBW.block _ (by omega)).trans d5
          have r4 := cell_blk (blk_drew (blk_set_other (g := w.heap.size + 1 + 1) 0 (.int .i64 0) (by omega) (blk_set 0 (.string d.safe[m]) g4))) (i := 0) rfl
          have r5 := cell_blk (blk_drew (blk_set 0 (.int .i64 0) (blk_set_other (g := w.heap.size + 1) 0 (.string d.safe[m]) (by omega) g5))) (i := 0) rfl
          have hc4' := cell_kept r4 (grownBy_putObj' _ D (.deferred none)) (fun r e => by cases e; exact ⟨_, hK', rfl⟩)
          have hc5' := cell_kept r5 (grownBy_putObj' _ D (.deferred none)) (fun r e => by cases e; exact ⟨_, hK', rfl⟩)
          have rB := ((hB0.trans (hBW.mono hB0.size)).setCell (p := ⟨w.heap.size + 1, 0, none⟩) (by simp) (.string d.safe[m])).setCell (p := ⟨w.heap.size + 1 + 1, 0, none⟩) (by simp; omega) (.int .i64 0)
          refine ⟨.tuple #[.string d.safe[m], .int .i64 0], ?_, ret_se (by rw [hR.out]; exact hgd.out.symm) (by rw [hR.out]), (rB.drew).trans (belowK_b (w := w) (Nat.le_refl _) _ D _ _ (by omega) hK' rfl rfl)⟩
          simp [results, Try.f27, go_sem, hc4', hc5']
      case stop =>
        rintro D c' pre W hD hpre ⟨⟨rfl, pre', x, rfl, hne, hx, hc4, hc5⟩, hBW⟩ hK
        obtain ⟨k, hk, hpe⟩ := hpre
        rw [List.range_succ] at hpe
        obtain ⟨e1, e2⟩ := List.append_inj' hpe rfl
        have e2' : x = k := by simpa using e2
        subst e1 e2'
        have hlast := Lib.hid (lastW_some d.late i x hk hx (fun j hj => hne j (List.mem_range.2 hj)))
        have hR : Hid (readD d i = ((fB d.late x).2, 0)) := by unfold readD; rw [if_neg hb, if_neg (by omega), hlast.out]; exact Lib.hid rfl
        refine wpIn_wide.2 ?_
        go_wp2
        refine ⟨by simp, .inl ⟨_, _, rfl, run_takeDeferred hK, ?_⟩⟩
        have hc5' := cell_kept hc5 (grownBy_putObj' _ D (.deferred none)) (fun r e => by cases e; exact ⟨_, hK, rfl⟩)
        have hc4' := cell_kept hc4 (grownBy_putObj' _ D (.deferred none)) (fun r e => by cases e; exact ⟨_, hK, rfl⟩)
        refine ⟨.tuple #[.string (fB d.late x).2, .int .i64 0], ?_, ret_se (by rw [hR.out]) (by rw [hR.out]), hBW.trans (belowK_b (w := w) (Nat.le_refl _) W D _ _ (by omega) hK rfl rfl)⟩
        simp [results, Try.f27, go_sem, hc4', hc5']
    · have hD : Hid (readD d i = (⟨#[]⟩, 90)) := by unfold readD; rw [if_neg hb, if_pos hi]; exact Lib.hid rfl
      by_cases h1 : i < 0
      · clear hi
        go_enter Try.func27, Try.ntmps27
        go_wp2_with fail
        go_quiet (fail)
        go_wp2
        refine bodyPost_ret (v := .tuple #[.string ⟨#[]⟩, .int .i64 90]) (by simp [results, Try.f27, go_sem]) rfl ?_
        refine ⟨ret_se (by rw [hD.out]) (by rw [hD.out]), ?_⟩
        exact ((below_drewN HB.out nq).setCell (p := ⟨w.heap.size + 1, 0, none⟩) (by simp) _).setCell (p := ⟨w.heap.size + 1 + 1, 0, none⟩) (by simp; omega) _
      · have h2 : (d.safe.length : Int) ≤ i := by omega
        clear hi
        go_enter Try.func27, Try.ntmps27
        go_wp2_with fail
        go_quiet (fail)
        go_wp2
        refine bodyPost_ret (v := .tuple #[.string ⟨#[]⟩, .int .i64 90]) (by simp [results, Try.f27, go_sem]) rfl ?_
        refine ⟨ret_se (by rw [hD.out]) (by rw [hD.out]), ?_⟩
        exact ((below_drewN HB.out nq).setCell (p := ⟨w.heap.size + 1, 0, none⟩) (by simp) _).setCell (p := ⟨w.heap.size + 1 + 1, 0, none⟩) (by simp; omega) _
end Go.Proofs.Ythmdmbgjheploaa
