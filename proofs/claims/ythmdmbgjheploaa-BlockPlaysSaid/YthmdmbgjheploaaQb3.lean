/- Texts of this claim's proof: small lemmas, walks and plain laws (merged by wip/shake.py). -/
import Derived.Test.YthmdmbgjheploaaQb0
import Derived.Test.YthmdmbgjheploaaQb1
import Derived.Test.YthmdmbgjheploaaQb2
import Derived.Deep.MidRow
namespace Go.Proofs.Ythmdmbgjheploaa.PB
open Go.RowKit Go.Proofs.YthmdmbgjheploaaW.PrintWords Go.Proofs.YthmdmbgjheploaaW.PrintLast Go.Proofs.YthmdmbgjheploaaW.PrintMore
attribute [local go_sem] max2_int min2_int max_two min_two max_three min_three max_four min_four   -- for this text's walks alone
set_option linter.unusedVariables false
set_option linter.unusedSimpArgs false
mutual
def rehearsalref20_Disk_Read.j0 : Nat → Int → Bool → List ByteArray → List (S87) → Int → Bool → Option (ByteArray × Int)
  | 0, _, _, _, _, _, _ => none
  | k + 1, x1, x18, x148000, x148001, x148002, x148003 => if x18 = true then (some ((⟨#[]⟩ : ByteArray), 90)) else (if 0 ≤ x1 then (if x1 < (x148000.length : Int) then (rehearsalref20_Disk_Read.l0 k x1 (rdOf ByteArray.empty x148000 x1) 0 x148000 x148001 x148002 x148003) else (none)) else (none))
def rehearsalref20_Disk_Read.l0 : Nat → Int → ByteArray → Int → List ByteArray → List (S87) → Int → Bool → Option (ByteArray × Int)
  | 0, _, _, _, _, _, _, _ => none
  | k + 1, x1, x6, x7, x148000, x148001, x148002, x148003 => if x7 < (x148001.length : Int) then (if 0 ≤ x7 then (if ((rd_T87 x148001 x7).f0) = x1 then (rehearsalref20_Disk_Read.l0 k x1 ((rd_T87 x148001 x7).f1) (wrap64 (x7 + 1)) x148000 x148001 x148002 x148003) else (rehearsalref20_Disk_Read.l0 k x1 x6 (wrap64 (x7 + 1)) x148000 x148001 x148002 x148003)) else (none)) else (some (x6, 0))
end
def rehearsalref20_Disk_Read.f (k : Nat) (l0_0 : List ByteArray) (l0_1 : List (S87)) (a0_2 : Int) (a0_3 : Bool) (a1 : Int) : Option (ByteArray × Int) := if a0_3 = true then (some ((⟨#[]⟩ : ByteArray), 91)) else (if a1 < 0 then (rehearsalref20_Disk_Read.j0 k a1 true l0_0 l0_1 a0_2 a0_3) else (rehearsalref20_Disk_Read.j0 k a1 (decide (a1 ≥ (l0_0.length : Int))) l0_0 l0_1 a0_2 a0_3))
set_option maxHeartbeats 8000000 in
set_option maxRecDepth 100000 in
theorem rehearsalref20_Disk_Read.calls (k : Nat) (A0_0 : Option Addr) (c0_0 : Nat) (l0_0 : List ByteArray) (A0_1 : Option Addr) (c0_1 : Nat) (l0_1 : List (S87)) (a0_2 : Int) (a0_3 : Bool) (a1 : Int) (r1 : ByteArray) (r2 : Int) (w : World) (hr0_0 : Kd.C Kd.string w A0_0 l0_0.length l0_0) (hc0_0 : l0_0.length ≤ c0_0) (hr0_1 : Kd.C k87 w A0_1 l0_1.length l0_1) (hc0_1 : l0_1.length ≤ c0_1) (h : rehearsalref20_Disk_Read.f k l0_0 l0_1 a0_2 a0_3 a1 = some (r1, r2)) :
    Calls Try.prog 35 #[.agg #[.slice A0_0 l0_0.length c0_0, .slice A0_1 l0_1.length c0_1, .int .i64 a0_2, .bool a0_3], .int .i64 a1] w fun e w' => e = .returned (.tuple #[.string r1, .int .i64 r2]) ∧ Below w.heap.size w w' := by
  have hu62 := Try.underlying62
  have HR0_0 := Aside0.mk hr0_0
  have HC0_0 := Aside0.mk hc0_0
  clear hr0_0 hc0_0
  have HR0_1 := Aside0.mk hr0_1
  have HC0_1 := Aside0.mk hc0_1
  clear hr0_1 hc0_1
  have HB := Aside0.mk (Below.refl w.heap.size w)
  have H : (if a0_3 = true then (some ((⟨#[]⟩ : ByteArray), 91)) else (if a1 < 0 then (rehearsalref20_Disk_Read.j0 k a1 true l0_0 l0_1 a0_2 a0_3) else (rehearsalref20_Disk_Read.j0 k a1 (decide (a1 ≥ (l0_0.length : Int))) l0_0 l0_1 a0_2 a0_3))) = some (r1, r2) := h
  clear h
  by_cases c3 : a0_3 = true
  · subst c3
    have H1 : (some ((⟨#[]⟩ : ByteArray), 91)) = some (r1, r2) := by rw [if_pos rfl] at H; exact H
    clear H
    have H := H1
    clear H1
    simp only [Option.some.injEq, Prod.mk.injEq] at H
    obtain ⟨rfl, rfl⟩ := H
    go_enter Try.func35, Try.ntmps35
    go_wp2_with (first | ((with_reducible refine gate_dst (N := 2) rfl ?_); (try (refine gate_guard (by rfl) ?_; dsimp only)); refine box_event ?hg (N := 2) ?hd (cs := #[.slice A0_0 l0_0.length c0_0, .slice A0_1 l0_1.length c0_1, .int .i64 a0_2, .bool true]) (t := 62) ?hr ?_; (case hd => rfl); (case hg => rfl); (case hr => first | (go_simp; done) | (go_simp; rfl)); intro gb147 hg w4 hbox hb; have n0_ := Aside0.mk (below_step (by repeat (first | (with_reducible first | exact HB.out | apply below_alloc | apply pw_below_drewN | apply below_drew1) | exact HB.out)) hb); have n1_ := Aside0.mk (hbox); have n2_ := Aside0.mk ((by rw [hg]; exact (below_size (by repeat (first | (with_reducible first | exact HB.out | apply below_alloc | apply pw_below_drewN | apply below_drew1) | exact HB.out))) : w.heap.size ≤ gb147)); have n3_ := Aside0.mk ((by rw [hg]; exact (below_size (by repeat (first | (with_reducible first | exact HB.out | apply below_alloc | apply pw_below_drewN | apply below_drew1) | exact HB.out))) : w.heap.size ≤ gb147)); clear HB; have HB := n0_; have BK147 := n1_; have GW147 := n2_; have GE147 := n3_; clear n0_ n1_ n2_ n3_; clear hb hbox hg; have hcz5_0 : w4.cell? ⟨gb147, 0, none⟩ = some (.slice A0_0 l0_0.length c0_0) := (blk_cell BK147.out 0).trans rfl; have hcz5_1 : w4.cell? ⟨gb147, 1, none⟩ = some (.slice A0_1 l0_1.length c0_1) := (blk_cell BK147.out 1).trans rfl; have hcz5_2 : w4.cell? ⟨gb147, 2, none⟩ = some (.int .i64 a0_2) := (blk_cell BK147.out 2).trans rfl; have hcz5_3 : w4.cell? ⟨gb147, 3, none⟩ = some (.bool true) := (blk_cell BK147.out 3).trans rfl; have hfz5_0 := blk_frozen BK147.out 0; have hfz5_1 := blk_frozen BK147.out 1; have hfz5_2 := blk_frozen BK147.out 2; have hfz5_3 := blk_frozen BK147.out 3))
    go_ret2
    exact ⟨by first | rfl | (simp [errW_none, errW_some] <;> rfl) | (simp [*, errW_none, errW_some] <;> rfl), by repeat (first | (with_reducible first | exact HB.out | apply below_alloc | apply pw_below_drewN | apply below_drew1 | refine below_set ?_ GE147.out) | exact HB.out)⟩
  · replace c3 := Bool.eq_false_iff.mpr c3
    subst c3
    have H1 : (if a1 < 0 then (rehearsalref20_Disk_Read.j0 k a1 true l0_0 l0_1 a0_2 false) else (rehearsalref20_Disk_Read.j0 k a1 (decide (a1 ≥ (l0_0.length : Int))) l0_0 l0_1 a0_2 false)) = some (r1, r2) := by rw [if_neg (show ¬ (false = true) by decide)] at H; exact H
    clear H
    have H := H1
    clear H1
    have HC6 := Aside0.mk H
    clear H
    go_enter Try.func35, Try.ntmps35
    go_upto_region 3 with (first | ((with_reducible refine gate_dst (N := 2) rfl ?_); (try (refine gate_guard (by rfl) ?_; dsimp only)); refine box_event ?hg (N := 2) ?hd (cs := #[.slice A0_0 l0_0.length c0_0, .slice A0_1 l0_1.length c0_1, .int .i64 a0_2, .bool false]) (t := 62) ?hr ?_; (case hd => rfl); (case hg => rfl); (case hr => first | (go_simp; done) | (go_simp; rfl)); intro gb147 hg w7 hbox hb; have n0_ := Aside0.mk (below_step (by repeat (first | (with_reducible first | exact HB.out | apply below_alloc | apply pw_below_drewN | apply below_drew1) | exact HB.out)) hb); have n1_ := Aside0.mk (hbox); have n2_ := Aside0.mk ((by rw [hg]; exact (below_size (by repeat (first | (with_reducible first | exact HB.out | apply below_alloc | apply pw_below_drewN | apply below_drew1) | exact HB.out))) : w.heap.size ≤ gb147)); have n3_ := Aside0.mk ((by rw [hg]; exact (below_size (by repeat (first | (with_reducible first | exact HB.out | apply below_alloc | apply pw_below_drewN | apply below_drew1) | exact HB.out))) : w.heap.size ≤ gb147)); clear HB; have HB := n0_; have BK147 := n1_; have GW147 := n2_; have GE147 := n3_; clear n0_ n1_ n2_ n3_; clear hb hbox hg; have hcz8_0 : w7.cell? ⟨gb147, 0, none⟩ = some (.slice A0_0 l0_0.length c0_0) := (blk_cell BK147.out 0).trans rfl; have hcz8_1 : w7.cell? ⟨gb147, 1, none⟩ = some (.slice A0_1 l0_1.length c0_1) := (blk_cell BK147.out 1).trans rfl; have hcz8_2 : w7.cell? ⟨gb147, 2, none⟩ = some (.int .i64 a0_2) := (blk_cell BK147.out 2).trans rfl; have hcz8_3 : w7.cell? ⟨gb147, 3, none⟩ = some (.bool false) := (blk_cell BK147.out 3).trans rfl; have hfz8_0 := blk_frozen BK147.out 0; have hfz8_1 := blk_frozen BK147.out 1; have hfz8_2 := blk_frozen BK147.out 2; have hfz8_3 := blk_frozen BK147.out 3))
    (try simp only [Act.put, List.setIfInBounds_toArray, List.set_cons_zero, List.set_cons_succ])
    go_cut [18] (fun v18 wc => ∃ (kq : Nat) (x18_5 : Bool), v18 = .bool x18_5 ∧ Aside0 (rehearsalref20_Disk_Read.j0 kq a1 x18_5 l0_0 l0_1 a0_2 false = some (r1, r2)) ∧ Aside0 (kq ≤ k) ∧ Aside0 (wc.heap[gb147]? = some (.cells #[(.slice A0_0 l0_0.length c0_0), (.slice A0_1 l0_1.length c0_1), .int .i64 a0_2, .bool false] 62 (0, 0))) ∧ Aside0 (Below w.heap.size w wc))
    case first =>
      have H := HC6.out
      clear HC6
      by_cases c9 : a1 < 0
      · rw [if_pos c9] at H
        have c9b0 : decide (a1 < 0) = true := decide_eq_true c9
        clear c9
        (first | rw [c9b0] | (simp only [i64_w, i32_w]; rw [c9b0]) | skip)
        have H' := Aside0.mk H
        clear H
        go_wp2
        go_meet
        case rel => exact ⟨_, (true), (by first | rfl | (simp; done) | (simp [*]; done)), H', ⟨by first | omega | exact Nat.le_refl _⟩, ⟨by (with_reducible repeat (first | refine blk_drewN ?_ _ | refine blk_drew ?_ | refine blk_alloc ?_ _)); exact BK147.out⟩, ⟨by repeat (first | (with_reducible first | exact HB.out | apply below_alloc | apply pw_below_drewN | apply below_drew1 | refine below_set ?_ GE147.out) | exact HB.out)⟩⟩
      · rw [if_neg c9] at H
        have c9b0 : decide (a1 < 0) = false := decide_eq_false c9
        clear c9
        (first | rw [c9b0] | (simp only [i64_w, i32_w]; rw [c9b0]) | skip)
        have H' := Aside0.mk H
        clear H
        have hcz10_0 : w7.cell? ⟨gb147, 0, none⟩ = some (.slice A0_0 l0_0.length c0_0) := (blk_cell BK147.out 0).trans rfl
        have hcz10_1 : w7.cell? ⟨gb147, 1, none⟩ = some (.slice A0_1 l0_1.length c0_1) := (blk_cell BK147.out 1).trans rfl
        have hcz10_2 : w7.cell? ⟨gb147, 2, none⟩ = some (.int .i64 a0_2) := (blk_cell BK147.out 2).trans rfl
        have hcz10_3 : w7.cell? ⟨gb147, 3, none⟩ = some (.bool false) := (blk_cell BK147.out 3).trans rfl
        have hfz10_0 := blk_frozen BK147.out 0
        have hfz10_1 := blk_frozen BK147.out 1
        have hfz10_2 := blk_frozen BK147.out 2
        have hfz10_3 := blk_frozen BK147.out 3
        go_wp2
        go_meet
        case rel => exact ⟨_, (decide (a1 ≥ (l0_0.length : Int))), (by first | rfl | (simp; done) | (simp [*]; done)), H', ⟨by first | omega | exact Nat.le_refl _⟩, ⟨by (with_reducible repeat (first | refine blk_drewN ?_ _ | refine blk_drew ?_ | refine blk_alloc ?_ _)); exact BK147.out⟩, ⟨by repeat (first | (with_reducible first | exact HB.out | apply below_alloc | apply pw_below_drewN | apply below_drew1 | refine below_set ?_ GE147.out) | exact HB.out)⟩⟩
    case rest =>
      clear HC6
      try clear p2
      try clear c3
      try clear c9
      try clear c9b0
      try clear hcz10_0
      try clear hcz10_1
      try clear hcz10_2
      try clear hcz10_3
      try clear hcz5_0
      try clear hcz5_1
      try clear hcz5_2
      try clear hcz5_3
      try clear hcz8_0
      try clear hcz8_1
      try clear hcz8_2
      try clear hcz8_3
      try clear hfz10_0
      try clear hfz10_1
      try clear hfz10_2
      try clear hfz10_3
      try clear hfz5_0
      try clear hfz5_1
      try clear hfz5_2
      try clear hfz5_3
      try clear hfz8_0
      try clear hfz8_1
      try clear hfz8_2
      try clear hfz8_3
      obtain ⟨kq, x18_5, rfl, HA, HJ5, BK147, HB⟩ := hcut
      cases kq with
      | zero => exact absurd HA.out (by simp [rehearsalref20_Disk_Read.j0])
      | succ kj5 =>
        have H := HA.out
        clear HA
        simp only [rehearsalref20_Disk_Read.j0] at H
        by_cases c11 : x18_5 = true
        · subst c11
          have H1 : (some ((⟨#[]⟩ : ByteArray), 90)) = some (r1, r2) := by rw [if_pos rfl] at H; exact H
          clear H
          have H := H1
          clear H1
          simp only [Option.some.injEq, Prod.mk.injEq] at H
          obtain ⟨rfl, rfl⟩ := H
          go_wp2
          go_ret2
          exact ⟨by first | rfl | (simp [errW_none, errW_some] <;> rfl) | (simp [*, errW_none, errW_some] <;> rfl), by repeat (first | (with_reducible first | exact HB.out | apply below_alloc | apply pw_below_drewN | apply below_drew1 | refine below_set ?_ GE147.out) | exact HB.out)⟩
        · replace c11 := Bool.eq_false_iff.mpr c11
          subst c11
          have H1 : (if 0 ≤ a1 then (if a1 < (l0_0.length : Int) then (rehearsalref20_Disk_Read.l0 kj5 a1 (rdOf ByteArray.empty l0_0 a1) 0 l0_0 l0_1 a0_2 false) else (none)) else (none)) = some (r1, r2) := by rw [if_neg (show ¬ (false = true) by decide)] at H; exact H
          clear H
          have H := H1
          clear H1
          by_cases c12 : 0 ≤ a1
          · rw [if_pos c12] at H
            have c12b0 : decide (0 ≤ a1) = true := decide_eq_true c12
            clear c12
            by_cases c13 : a1 < (l0_0.length : Int)
            · rw [if_pos c13] at H
              have c13b0 : decide (a1 < (l0_0.length : Int)) = true := decide_eq_true c13
              clear c13
              have H' := Aside0.mk H
              clear H
              have hcz14_0 : wc.cell? ⟨gb147, 0, none⟩ = some (.slice A0_0 l0_0.length c0_0) := (blk_cell BK147.out 0).trans rfl
              have hcz14_1 : wc.cell? ⟨gb147, 1, none⟩ = some (.slice A0_1 l0_1.length c0_1) := (blk_cell BK147.out 1).trans rfl
              have hcz14_2 : wc.cell? ⟨gb147, 2, none⟩ = some (.int .i64 a0_2) := (blk_cell BK147.out 2).trans rfl
              have hcz14_3 : wc.cell? ⟨gb147, 3, none⟩ = some (.bool false) := (blk_cell BK147.out 3).trans rfl
              have hfz14_0 := blk_frozen BK147.out 0
              have hfz14_1 := blk_frozen BK147.out 1
              have hfz14_2 := blk_frozen BK147.out 2
              have hfz14_3 := blk_frozen BK147.out 3
              have p148 : 0 ≤ (a1 : Int) := of_decide_eq_true (by first | (with_reducible assumption) | assumption)
              have q148 : a1 < (l0_0.length : Int) := of_decide_eq_true (by first | (with_reducible assumption) | assumption)
              obtain ⟨ad148, e148, hx148_0⟩ := Kd.at_string HR0_0.out a1 p148 q148
              cases e148
              replace hx148_0 := (HB.out.cell (World.block_lt_of_cell? w _ hx148_0)).trans hx148_0
              replace p148 := eq_true p148
              replace q148 := eq_true q148
              go_wp2
              go_loopg [6, 7] kj5 (fun kq v6 v7 w' => ∃ (x6_2 : ByteArray) (x7_2 : Int), v6 = .string x6_2 ∧ v7 = .int .i64 x7_2 ∧ Aside0 (rehearsalref20_Disk_Read.l0 kq a1 x6_2 x7_2 l0_0 l0_1 a0_2 false = some (r1, r2)) ∧ Aside0 (kq ≤ kj5) ∧ Aside0 (w'.heap[gb147]? = some (.cells #[(.slice (some ad148) l0_0.length c0_0), (.slice A0_1 l0_1.length c0_1), .int .i64 a0_2, .bool false] 62 (0, 0))) ∧ Aside0 (Below w.heap.size w w'))
              case atStart => exact ⟨(rdOf ByteArray.empty l0_0 a1), (0), (by first | rfl | (simp; done) | (simp [*]; done)), (by first | rfl | (simp; done) | (simp [*]; done)), H', ⟨Nat.le_refl _⟩, ⟨by (with_reducible repeat (first | refine blk_drewN ?_ _ | refine blk_drew ?_ | refine blk_alloc ?_ _)); exact BK147.out⟩, ⟨by repeat (first | (with_reducible first | exact HB.out | apply below_alloc | apply pw_below_drewN | apply below_drew1 | refine below_set ?_ GE147.out) | exact HB.out)⟩⟩
              case round =>
                clear H'
                try clear c1
                try clear p1
                try clear q1
                try clear hx1
                try clear p2
                try clear c3
                try clear c9
                try clear c9b0
                try clear c11
                try clear c12
                try clear c12b0
                try clear c13
                try clear c13b0
                try clear p14
                try clear q14
                try clear hx14
                try clear hcz10_0
                try clear hcz10_1
                try clear hcz10_2
                try clear hcz10_3
                try clear hcz14_0
                try clear hcz14_1
                try clear hcz14_2
                try clear hcz14_3
                try clear hcz5_0
                try clear hcz5_1
                try clear hcz5_2
                try clear hcz5_3
                try clear hcz8_0
                try clear hcz8_1
                try clear hcz8_2
                try clear hcz8_3
                try clear hfz10_0
                try clear hfz10_1
                try clear hfz10_2
                try clear hfz10_3
                try clear hfz14_0
                try clear hfz14_1
                try clear hfz14_2
                try clear hfz14_3
                try clear hfz5_0
                try clear hfz5_1
                try clear hfz5_2
                try clear hfz5_3
                try clear hfz8_0
                try clear hfz8_1
                try clear hfz8_2
                try clear hfz8_3
                try clear hx148_0
                try clear p148
                try clear p2
                try clear q148
                obtain ⟨x6_2, x7_2, rfl, rfl, HA, HK2, BK147, HB⟩ := hrel
                cases gk with
                | zero => exact absurd HA.out (by simp [rehearsalref20_Disk_Read.l0])
                | succ k2 =>
                  have H := HA.out
                  clear HA
                  simp only [rehearsalref20_Disk_Read.l0] at H
                  by_cases c15 : x7_2 < (l0_1.length : Int)
                  · rw [if_pos c15] at H
                    have c15b0 : decide (x7_2 < (l0_1.length : Int)) = true := decide_eq_true c15
                    clear c15
                    by_cases c16 : 0 ≤ x7_2
                    · rw [if_pos c16] at H
                      have c16b0 : decide (0 ≤ x7_2) = true := decide_eq_true c16
                      clear c16
                      by_cases c17 : ((rd_T87 l0_1 x7_2).f0) = a1
                      · rw [if_pos c17] at H
                        have c17b0 : (((rd_T87 l0_1 x7_2).f0) == a1) = true := beq_iff_eq.mpr c17
                        have c17b1 : (((rd_T87 l0_1 x7_2).f0) != a1) = false := bne_eq_false_iff_eq.mpr c17
                        clear c17
                        have H' := Aside0.mk H
                        clear H
                        have hcz18_0 : wr.cell? ⟨gb147, 0, none⟩ = some (.slice (some ad148) l0_0.length c0_0) := (blk_cell BK147.out 0).trans rfl
                        have hcz18_1 : wr.cell? ⟨gb147, 1, none⟩ = some (.slice A0_1 l0_1.length c0_1) := (blk_cell BK147.out 1).trans rfl
                        have hcz18_2 : wr.cell? ⟨gb147, 2, none⟩ = some (.int .i64 a0_2) := (blk_cell BK147.out 2).trans rfl
                        have hcz18_3 : wr.cell? ⟨gb147, 3, none⟩ = some (.bool false) := (blk_cell BK147.out 3).trans rfl
                        have hfz18_0 := blk_frozen BK147.out 0
                        have hfz18_1 := blk_frozen BK147.out 1
                        have hfz18_2 := blk_frozen BK147.out 2
                        have hfz18_3 := blk_frozen BK147.out 3
                        have p149 : 0 ≤ (x7_2 : Int) := of_decide_eq_true (by first | (with_reducible assumption) | assumption)
                        have q149 : x7_2 < (l0_1.length : Int) := of_decide_eq_true (by first | (with_reducible assumption) | assumption)
                        obtain ⟨ad149, e149, hx149_0, hx149_1⟩ := at_T87 HR0_1.out x7_2 p149 q149
                        cases e149
                        replace hx149_0 := (HB.out.cell (World.block_lt_of_cell? w _ hx149_0)).trans hx149_0
                        replace hx149_1 := (HB.out.cell (World.block_lt_of_cell? w _ hx149_1)).trans hx149_1
                        replace p149 := eq_true p149
                        replace q149 := eq_true q149
                        have p150 : 0 ≤ (x7_2 : Int) := of_decide_eq_true (by first | (with_reducible assumption) | assumption)
                        have q150 : x7_2 < (l0_1.length : Int) := of_decide_eq_true (by first | (with_reducible assumption) | assumption)
                        obtain ⟨ad150, e150, hx150_0, hx150_1⟩ := at_T87 HR0_1.out x7_2 p150 q150
                        obtain rfl : ad149 = ad150 := (by injection e150)
                        replace hx150_0 := (HB.out.cell (World.block_lt_of_cell? w _ hx150_0)).trans hx150_0
                        replace hx150_1 := (HB.out.cell (World.block_lt_of_cell? w _ hx150_1)).trans hx150_1
                        replace p150 := eq_true p150
                        replace q150 := eq_true q150
                        go_wp2
                        go_roundg k2
                        case measure => have := HJ5.out; have := HK2.out; omega
                        case rel => exact ⟨((rd_T87 l0_1 x7_2).f1), (wrap64 (x7_2 + 1)), (by first | rfl | (simp; done) | (simp [*]; done)), (by first | rfl | (simp; done) | (simp [*]; done)), H', ⟨by have := HJ5.out; have := HK2.out; omega⟩, ⟨by (with_reducible repeat (first | refine blk_drewN ?_ _ | refine blk_drew ?_ | refine blk_alloc ?_ _)); exact BK147.out⟩, ⟨by repeat (first | (with_reducible first | exact HB.out | apply below_alloc | apply pw_below_drewN | apply below_drew1 | refine below_set ?_ GE147.out) | exact HB.out)⟩⟩
                      · rw [if_neg c17] at H
                        have c17b0 : (((rd_T87 l0_1 x7_2).f0) == a1) = false := beq_eq_false_iff_ne.mpr c17
                        have c17b1 : (((rd_T87 l0_1 x7_2).f0) != a1) = true := bne_iff_ne.mpr c17
                        have H' := Aside0.mk H
                        clear H
                        have hcz19_0 : wr.cell? ⟨gb147, 0, none⟩ = some (.slice (some ad148) l0_0.length c0_0) := (blk_cell BK147.out 0).trans rfl
                        have hcz19_1 : wr.cell? ⟨gb147, 1, none⟩ = some (.slice A0_1 l0_1.length c0_1) := (blk_cell BK147.out 1).trans rfl
                        have hcz19_2 : wr.cell? ⟨gb147, 2, none⟩ = some (.int .i64 a0_2) := (blk_cell BK147.out 2).trans rfl
                        have hcz19_3 : wr.cell? ⟨gb147, 3, none⟩ = some (.bool false) := (blk_cell BK147.out 3).trans rfl
                        have hfz19_0 := blk_frozen BK147.out 0
                        have hfz19_1 := blk_frozen BK147.out 1
                        have hfz19_2 := blk_frozen BK147.out 2
                        have hfz19_3 := blk_frozen BK147.out 3
                        have p149 : 0 ≤ (x7_2 : Int) := of_decide_eq_true (by first | (with_reducible assumption) | assumption)
                        have q149 : x7_2 < (l0_1.length : Int) := of_decide_eq_true (by first | (with_reducible assumption) | assumption)
                        obtain ⟨ad149, e149, hx149_0, hx149_1⟩ := at_T87 HR0_1.out x7_2 p149 q149
                        cases e149
                        replace hx149_0 := (HB.out.cell (World.block_lt_of_cell? w _ hx149_0)).trans hx149_0
                        replace hx149_1 := (HB.out.cell (World.block_lt_of_cell? w _ hx149_1)).trans hx149_1
                        replace p149 := eq_true p149
                        replace q149 := eq_true q149
                        go_wp2
                        go_roundg k2
                        case measure => have := HJ5.out; have := HK2.out; omega
                        case rel => exact ⟨(x6_2), (wrap64 (x7_2 + 1)), (by first | rfl | (simp; done) | (simp [*]; done)), (by first | rfl | (simp; done) | (simp [*]; done)), H', ⟨by have := HJ5.out; have := HK2.out; omega⟩, ⟨by (with_reducible repeat (first | refine blk_drewN ?_ _ | refine blk_drew ?_ | refine blk_alloc ?_ _)); exact BK147.out⟩, ⟨by repeat (first | (with_reducible first | exact HB.out | apply below_alloc | apply pw_below_drewN | apply below_drew1 | refine below_set ?_ GE147.out) | exact HB.out)⟩⟩
                    · rw [if_neg c16] at H
                      exact absurd H (by simp)
                  · rw [if_neg c15] at H
                    have c15b0 : decide (x7_2 < (l0_1.length : Int)) = false := decide_eq_false c15
                    clear c15
                    simp only [Option.some.injEq, Prod.mk.injEq] at H
                    obtain ⟨rfl, rfl⟩ := H
                    have hcz20_0 : wr.cell? ⟨gb147, 0, none⟩ = some (.slice (some ad148) l0_0.length c0_0) := (blk_cell BK147.out 0).trans rfl
                    have hcz20_1 : wr.cell? ⟨gb147, 1, none⟩ = some (.slice A0_1 l0_1.length c0_1) := (blk_cell BK147.out 1).trans rfl
                    have hcz20_2 : wr.cell? ⟨gb147, 2, none⟩ = some (.int .i64 a0_2) := (blk_cell BK147.out 2).trans rfl
                    have hcz20_3 : wr.cell? ⟨gb147, 3, none⟩ = some (.bool false) := (blk_cell BK147.out 3).trans rfl
                    have hfz20_0 := blk_frozen BK147.out 0
                    have hfz20_1 := blk_frozen BK147.out 1
                    have hfz20_2 := blk_frozen BK147.out 2
                    have hfz20_3 := blk_frozen BK147.out 3
                    go_wp2
                    go_ret2
                    exact ⟨by first | rfl | (simp [errW_none, errW_some] <;> rfl) | (simp [*, errW_none, errW_some] <;> rfl), by repeat (first | (with_reducible first | exact HB.out | apply below_alloc | apply pw_below_drewN | apply below_drew1 | refine below_set ?_ GE147.out) | exact HB.out)⟩
            · rw [if_neg c13] at H
              exact absurd H (by simp)
          · rw [if_neg c12] at H
            exact absurd H (by simp)
end Go.Proofs.Ythmdmbgjheploaa.PB
namespace Go.Proofs.Ythmdmbgjheploaa.PB
open Go.RowKit Go.Proofs.YthmdmbgjheploaaW.PrintWords Go.Proofs.YthmdmbgjheploaaW.PrintLast Go.Proofs.YthmdmbgjheploaaW.PrintMore
attribute [local go_sem] max2_int min2_int max_two min_two max_three min_three max_four min_four   -- for this text's walks alone
set_option linter.unusedVariables false
set_option linter.unusedSimpArgs false
theorem w64_PB6 (x : Int) : wrap64 (x % 256) = x % 256 := by unfold wrap64; omega
def rehearsalref20_Disk_Crash.f (k : Nat) (l0_0 : List ByteArray) (l0_1 : List (S87)) (a0_2 : Int) (a0_3 : Bool) (a1 : Int) : Option (List ByteArray × (List (S87)) × Int × Bool) := (rehearsalref20_Disk_kept.f k l0_0 l0_1 a0_2 a0_3 a1).bind fun t153 => (some (t153, ([] : List (S87)), (-1), false))
set_option maxHeartbeats 8000000 in
set_option maxRecDepth 100000 in
theorem rehearsalref20_Disk_Crash.calls (k : Nat) (A0_0 : Option Addr) (c0_0 : Nat) (l0_0 : List ByteArray) (A0_1 : Option Addr) (c0_1 : Nat) (l0_1 : List (S87)) (a0_2 : Int) (a0_3 : Bool) (a1 : Int) (r1 : List ByteArray) (r2 : List (S87)) (r3 : Int) (r4 : Bool) (w : World) (hr0_0 : Kd.C Kd.string w A0_0 l0_0.length l0_0) (hc0_0 : l0_0.length ≤ c0_0) (hr0_1 : Kd.C k87 w A0_1 l0_1.length l0_1) (hc0_1 : l0_1.length ≤ c0_1) (h : rehearsalref20_Disk_Crash.f k l0_0 l0_1 a0_2 a0_3 a1 = some (r1, r2, r3, r4)) :
    Calls Try.prog 45 #[.agg #[.slice A0_0 l0_0.length c0_0, .slice A0_1 l0_1.length c0_1, .int .i64 a0_2, .bool a0_3], .int .u64 a1] w fun e w' => ∃ v0_ v1_ : Value, e = .returned (.agg #[v0_, v1_, .int .i64 r3, .bool r4]) ∧ Kd.R Kd.string 9 w' w.heap.size (fun _ => True) v0_ r1 ∧ Kd.R k87 87 w' w.heap.size (fun _ => True) v1_ r2 ∧ Below w.heap.size w w' := by
  have hu62 := Try.underlying62
  have HR0_0 := Aside0.mk hr0_0
  have HC0_0 := Aside0.mk hc0_0
  clear hr0_0 hc0_0
  have HR0_1 := Aside0.mk hr0_1
  have HC0_1 := Aside0.mk hc0_1
  clear hr0_1 hc0_1
  have HB := Aside0.mk (Below.refl w.heap.size w)
  have H : ((rehearsalref20_Disk_kept.f k l0_0 l0_1 a0_2 a0_3 a1).bind fun t153 => (some (t153, ([] : List (S87)), (-1), false))) = some (r1, r2, r3, r4) := h
  clear h
  replace H := Option.bind_eq_some_iff.mp H
  obtain ⟨t153, A30, H⟩ := H
  replace H : (some (t153, ([] : List (S87)), (-1), false)) = some (r1, r2, r3, r4) := H
  have A3 := Aside0.mk A30
  clear A30
  simp only [Option.some.injEq, Prod.mk.injEq] at H
  obtain ⟨rfl, rfl, rfl, rfl⟩ := H
  go_enter Try.func45, Try.ntmps45
  go_wp2_with (first | ((with_reducible refine gate_dst (N := 2) rfl ?_); refine box_event ?hg (N := 2) ?hd (cs := #[.slice A0_0 l0_0.length c0_0, .slice A0_1 l0_1.length c0_1, .int .i64 a0_2, .bool a0_3]) (t := 62) ?hr ?_; (case hd => rfl); (case hg => rfl); (case hr => first | (go_simp; done) | (go_simp; rfl)); intro gb151 hg w4 hbox hb; have n0_ := Aside0.mk (below_step (by repeat (first | (with_reducible first | exact HB.out | apply below_alloc | apply pw_below_drewN | apply below_drew1) | exact HB.out)) hb); have n1_ := Aside0.mk (hbox); have n2_ := Aside0.mk ((by rw [hg]; exact (below_size (by repeat (first | (with_reducible first | exact HB.out | apply below_alloc | apply pw_below_drewN | apply below_drew1) | exact HB.out))) : w.heap.size ≤ gb151)); have n3_ := Aside0.mk ((by rw [hg]; exact (below_size (by repeat (first | (with_reducible first | exact HB.out | apply below_alloc | apply pw_below_drewN | apply below_drew1) | exact HB.out))) : w.heap.size ≤ gb151)); clear HB; have HB := n0_; have BK151 := n1_; have GW151 := n2_; have GE151 := n3_; clear n0_ n1_ n2_ n3_; clear hb hbox hg) | ((with_reducible refine gate_dst (N := 4) rfl ?_); refine box_event ?hg (N := 4) ?hd (cs := #[.slice none 0 0, .slice none 0 0, .int .i64 0, .bool false]) (t := 62) ?hr ?_; (case hd => rfl); (case hg => rfl); (case hr => first | (go_simp; done) | (go_simp; rfl)); intro gb152 hg w5 hbox hb; have n0_ := Aside0.mk (blk_below (g := gb151) (o := .cells #[.slice A0_0 l0_0.length c0_0, .slice A0_1 l0_1.length c0_1, .int .i64 a0_2, .bool a0_3] 62 (0, 0)) (by (with_reducible repeat (first | refine blk_drewN ?_ _ | refine blk_drew ?_ | refine blk_alloc ?_ _)); exact BK151.out) hb); have n1_ := Aside0.mk (below_step (by repeat (first | (with_reducible first | exact HB.out | apply below_alloc | apply pw_below_drewN | apply below_drew1 | refine below_set ?_ GE151.out) | exact HB.out)) hb); have n2_ := Aside0.mk (hbox); have n3_ := Aside0.mk ((by rw [hg]; exact (below_size (by repeat (first | (with_reducible first | exact HB.out | apply below_alloc | apply pw_below_drewN | apply below_drew1 | refine below_set ?_ GE151.out) | exact HB.out))) : w.heap.size ≤ gb152)); have n4_ := Aside0.mk ((by rw [hg]; exact (below_size (by repeat (first | (with_reducible first | exact HB.out | apply below_alloc | apply pw_below_drewN | apply below_drew1 | refine below_set ?_ GE151.out) | exact HB.out))) : w.heap.size ≤ gb152)); have n5_ := Aside0.mk ((by rw [hg]; exact Nat.ne_of_lt (blk_lt (g := gb151) (o := .cells #[.slice A0_0 l0_0.length c0_0, .slice A0_1 l0_1.length c0_1, .int .i64 a0_2, .bool a0_3] 62 (0, 0)) (by (with_reducible repeat (first | refine blk_drewN ?_ _ | refine blk_drew ?_ | refine blk_alloc ?_ _)); exact BK151.out)) : gb151 ≠ gb152)); have n6_ := Aside0.mk ((by rw [hg]; exact Nat.ne_of_gt (blk_lt (g := gb151) (o := .cells #[.slice A0_0 l0_0.length c0_0, .slice A0_1 l0_1.length c0_1, .int .i64 a0_2, .bool a0_3] 62 (0, 0)) (by (with_reducible repeat (first | refine blk_drewN ?_ _ | refine blk_drew ?_ | refine blk_alloc ?_ _)); exact BK151.out)) : gb152 ≠ gb151)); clear BK151; clear HB; have BK151 := n0_; have HB := n1_; have BK152 := n2_; have GW152 := n3_; have GE152 := n4_; have NB151_152 := n5_; have NB152_151 := n6_; clear n0_ n1_ n2_ n3_ n4_ n5_ n6_; clear hb hbox hg; have hnb6 := NB151_152.out; have hnc6 := NB152_151.out; have hcz7_0 : w5.cell? ⟨gb151, 0, none⟩ = some (.slice A0_0 l0_0.length c0_0) := (blk_cell BK151.out 0).trans rfl; have hcz7_1 : w5.cell? ⟨gb151, 1, none⟩ = some (.slice A0_1 l0_1.length c0_1) := (blk_cell BK151.out 1).trans rfl; have hcz7_2 : w5.cell? ⟨gb151, 2, none⟩ = some (.int .i64 a0_2) := (blk_cell BK151.out 2).trans rfl; have hcz7_3 : w5.cell? ⟨gb151, 3, none⟩ = some (.bool a0_3) := (blk_cell BK151.out 3).trans rfl; have hfz7_0 := blk_frozen BK151.out 0; have hfz7_1 := blk_frozen BK151.out 1; have hfz7_2 := blk_frozen BK151.out 2; have hfz7_3 := blk_frozen BK151.out 3) | ((with_reducible refine gate_callee (f := 52) rfl ?_); refine goesL_ (some 7) rfl rfl Try.func52 (by kernel_rfl) rfl #[.agg #[.slice A0_0 l0_0.length c0_0, .slice A0_1 l0_1.length c0_1, .int .i64 a0_2, .bool a0_3], .int .u64 a1] rfl (by (try simp only [List.map_toArray, List.map_cons, List.map_nil]); first | done | rfl | (simp only [List.length_drop, List.length_take]; rfl)) ?_; (with_reducible refine (rehearsalref20_Disk_kept.calls k _ _ l0_0 _ _ l0_1 a0_2 a0_3 a1 t153 _ ?side1 ?side2 ?side3 ?side4 A3.out).mono ?_); (case side1 => repeat (first | exact (Kd.C_below HR0_0.out HB.out) | (with_reducible refine Kd.C_alloc ?_ _) | (with_reducible refine Kd.C_drewN ?_ _) | (with_reducible refine Kd.C_drew ?_))); (case side2 => exact HC0_0.out); (case side3 => repeat (first | exact (Kd.C_below HR0_1.out HB.out) | (with_reducible refine Kd.C_alloc ?_ _) | (with_reducible refine Kd.C_drewN ?_ _) | (with_reducible refine Kd.C_drew ?_))); (case side4 => exact HC0_1.out); rintro e w8 ⟨v154, rfl, ho0, hb⟩; refine ⟨_, rfl, ?_⟩; have n0_ := Aside0.mk (Kd.R_lower ho0 (below_size (by repeat (first | (with_reducible first | exact HB.out | apply below_alloc | apply pw_below_drewN | apply below_drew1 | refine below_set ?_ GE151.out | refine below_set ?_ GE152.out) | exact HB.out)))); have n1_ := Aside0.mk (blk_below (g := gb151) (o := .cells #[.slice A0_0 l0_0.length c0_0, .slice A0_1 l0_1.length c0_1, .int .i64 a0_2, .bool a0_3] 62 (0, 0)) (by (with_reducible repeat (first | refine blk_drewN ?_ _ | refine blk_drew ?_ | refine blk_alloc ?_ _)); exact BK151.out) hb); have n2_ := Aside0.mk (blk_below (g := gb152) (o := .cells #[.slice none 0 0, .slice none 0 0, .int .i64 0, .bool false] 62 (0, 0)) (by (with_reducible repeat (first | refine blk_drewN ?_ _ | refine blk_drew ?_ | refine blk_alloc ?_ _)); exact BK152.out) hb); have n3_ := Aside0.mk (below_step (by repeat (first | (with_reducible first | exact HB.out | apply below_alloc | apply pw_below_drewN | apply below_drew1 | refine below_set ?_ GE151.out | refine below_set ?_ GE152.out) | exact HB.out)) hb); clear BK151; clear BK152; clear HB; have HO155 := n0_; have BK151 := n1_; have BK152 := n2_; have HB := n3_; clear n0_ n1_ n2_ n3_; (try clear hb); (try clear hb2); (try clear hk); (try clear hi); (try clear ho0); obtain ⟨Ao9, co9, eo9⟩ := Kd.R_slice HO155.out; subst eo9; have hcz10_0 : w8.cell? ⟨gb152, 0, none⟩ = some (.slice none 0 0) := (blk_cell BK152.out 0).trans rfl; have hcz10_1 : w8.cell? ⟨gb152, 1, none⟩ = some (.slice none 0 0) := (blk_cell BK152.out 1).trans rfl; have hcz10_2 : w8.cell? ⟨gb152, 2, none⟩ = some (.int .i64 0) := (blk_cell BK152.out 2).trans rfl; have hcz10_3 : w8.cell? ⟨gb152, 3, none⟩ = some (.bool false) := (blk_cell BK152.out 3).trans rfl; have hfz10_0 := blk_frozen BK152.out 0; have hfz10_1 := blk_frozen BK152.out 1; have hfz10_2 := blk_frozen BK152.out 2; have hfz10_3 := blk_frozen BK152.out 3))
  refine bodyPost_ret (results_cell_row rfl _ _ gb152 62 #[.slice Ao9 t153.length co9, .slice none 0 0, .int .i64 (-1), .bool false] (0, 0) _ rfl (by (with_reducible repeat (first | refine blk_drewN ?_ _ | refine blk_drew ?_ | refine blk_alloc ?_ _)); refine blk_put (cs := #[.slice Ao9 t153.length co9, .slice none 0 0, .int .i64 (-1), .bool false]) ?_ 3 _ (by first | rfl | (simp only [w64_PB6]; rfl) | (simp [w64_PB6]; done)); (with_reducible repeat (first | refine blk_drewN ?_ _ | refine blk_drew ?_ | refine blk_alloc ?_ _)); refine blk_put (cs := #[.slice Ao9 t153.length co9, .slice none 0 0, .int .i64 0, .bool false]) ?_ 2 _ (by first | rfl | (simp only [w64_PB6]; rfl) | (simp [w64_PB6]; done)); (with_reducible repeat (first | refine blk_drewN ?_ _ | refine blk_drew ?_ | refine blk_alloc ?_ _)); refine blk_put (cs := #[.slice Ao9 t153.length co9, .slice none 0 0, .int .i64 0, .bool false]) ?_ 1 _ (by first | rfl | (simp only [w64_PB6]; rfl) | (simp [w64_PB6]; done)); (with_reducible repeat (first | refine blk_drewN ?_ _ | refine blk_drew ?_ | refine blk_alloc ?_ _)); refine blk_put (cs := #[.slice none 0 0, .slice none 0 0, .int .i64 0, .bool false]) ?_ 0 _ (by first | rfl | (simp only [w64_PB6]; rfl) | (simp [w64_PB6]; done)); (with_reducible repeat (first | refine blk_drewN ?_ _ | refine blk_drew ?_ | refine blk_alloc ?_ _)); exact BK152.out) Try.underlying62 rfl (by kernel_rfl)) rfl ?_
  exact ⟨_, _, by first | rfl | (simp [errW_none, errW_some] <;> rfl) | (simp [*, errW_none, errW_some] <;> rfl), by (with_reducible repeat (first | apply Kd.R_alloc | apply Kd.R_drewN | apply Kd.R_drew)); exact Kd.R_mono (Kd.R_far (p := ⟨gb152, 3, none⟩) (Kd.R_far (p := ⟨gb152, 2, none⟩) (Kd.R_far (p := ⟨gb152, 1, none⟩) (Kd.R_far (p := ⟨gb152, 0, none⟩) (Kd.R_types HO155.out BK152.out (by decide)) (fun _ hk => hk.2) (.slice Ao9 t153.length co9)) (fun _ hk => hk.2) (.slice none 0 0)) (fun _ hk => hk.2) (.int .i64 (-1))) (fun _ hk => hk.2) (.bool false)) (fun _ hk => trivial), by first | exact Kd.R_nil _ _ _ _ _ | exact Kd.N_nil _ _ _ _ _ | exact Kd.V_nil _ _ _ _ _ | exact Kd.Q_nil _ _ _ _ _ | exact Kd.S_nil _ _ _ _ _, by repeat (first | (with_reducible first | exact HB.out | apply below_alloc | apply pw_below_drewN | apply below_drew1 | refine below_set ?_ GE151.out | refine below_set ?_ GE152.out) | exact HB.out)⟩
end Go.Proofs.Ythmdmbgjheploaa.PB
namespace Go.Proofs.Ythmdmbgjheploaa.PB
open Go.RowKit Go.Proofs.YthmdmbgjheploaaW.PrintWords Go.Proofs.YthmdmbgjheploaaW.PrintLast Go.Proofs.YthmdmbgjheploaaW.PrintMore
attribute [local go_sem] max2_int min2_int max_two min_two max_three min_three max_four min_four   -- for this text's walks alone
set_option linter.unusedVariables false
set_option linter.unusedSimpArgs false
theorem w64_PB7 (x : Int) : wrap64 (x % 256) = x % 256 := by unfold wrap64; omega
mutual
def rehearsalref20_New.j0 : Nat → Int → Bool → Option (List ByteArray × (List (S87)) × Int × Bool × Int)
  | 0, _, _ => none
  | k + 1, x0, x11 => if x11 = true then (some (([] : List ByteArray), ([] : List (S87)), 0, false, 1)) else (rehearsalref20_New.l0 k x0 0 ([] : List ByteArray) (-1) false)
def rehearsalref20_New.l0 : Nat → Int → Int → List ByteArray → Int → Bool → Option (List ByteArray × (List (S87)) × Int × Bool × Int)
  | 0, _, _, _, _, _ => none
  | k + 1, x0, x5, x158000, x158002, x158003 => if x5 < x0 then (if x158000.length < 8796093022208 then (rehearsalref20_New.l0 k x0 (wrap64 (x5 + 1)) (x158000 ++ [(⟨#[]⟩ : ByteArray)]) x158002 x158003) else (none)) else (some (x158000, ([] : List (S87)), x158002, x158003, 0))
end
def rehearsalref20_New.f (k : Nat) (a0 : Int) : Option (List ByteArray × (List (S87)) × Int × Bool × Int) := if a0 < 1 then (rehearsalref20_New.j0 k a0 true) else (rehearsalref20_New.j0 k a0 (decide (a0 > 4096)))
set_option maxHeartbeats 8000000 in
set_option maxRecDepth 100000 in
theorem rehearsalref20_New.calls (k : Nat) (a0 : Int) (r1 : List ByteArray) (r2 : List (S87)) (r3 : Int) (r4 : Bool) (r5 : Int) (w : World) (h : rehearsalref20_New.f k a0 = some (r1, r2, r3, r4, r5)) :
    Calls Try.prog 33 #[.int .i64 a0] w fun e w' => ∃ v0_ v1_ : Value, e = .returned (.tuple #[.agg #[v0_, v1_, .int .i64 r3, .bool r4], .int .i64 r5]) ∧ Kd.R Kd.string 9 w' w.heap.size (fun _ => True) v0_ r1 ∧ Kd.R k87 87 w' w.heap.size (fun _ => True) v1_ r2 ∧ Below w.heap.size w w' := by
  have hu62 := Try.underlying62
  have HB := Aside0.mk (Below.refl w.heap.size w)
  have H : (if a0 < 1 then (rehearsalref20_New.j0 k a0 true) else (rehearsalref20_New.j0 k a0 (decide (a0 > 4096)))) = some (r1, r2, r3, r4, r5) := h
  clear h
  have HC2 := Aside0.mk H
  clear H
  go_enter Try.func33, Try.ntmps33
  go_upto_region 1 with (first | ((with_reducible refine gate_dst (N := 2) rfl ?_); refine box_event ?hg (N := 2) ?hd (cs := #[.slice none 0 0, .slice none 0 0, .int .i64 0, .bool false]) (t := 62) ?hr ?_; (case hd => rfl); (case hg => rfl); (case hr => first | (go_simp; done) | (go_simp; rfl)); intro gb156 hg w3 hbox hb; have n0_ := Aside0.mk (below_step (by repeat (first | (with_reducible first | exact HB.out | apply below_alloc | apply pw_below_drewN | apply below_drew1) | exact HB.out)) hb); have n1_ := Aside0.mk (hbox); have n2_ := Aside0.mk ((by rw [hg]; exact (below_size (by repeat (first | (with_reducible first | exact HB.out | apply below_alloc | apply pw_below_drewN | apply below_drew1) | exact HB.out))) : w.heap.size ≤ gb156)); have n3_ := Aside0.mk ((by rw [hg]; exact (below_size (by repeat (first | (with_reducible first | exact HB.out | apply below_alloc | apply pw_below_drewN | apply below_drew1) | exact HB.out))) : w.heap.size ≤ gb156)); clear HB; have HB := n0_; have BK156 := n1_; have GW156 := n2_; have GE156 := n3_; clear n0_ n1_ n2_ n3_; clear hb hbox hg))
  (try simp only [Act.put, List.setIfInBounds_toArray, List.set_cons_zero, List.set_cons_succ])
  go_cut [11] (fun v11 wc => ∃ (kq : Nat) (x11_1 : Bool), v11 = .bool x11_1 ∧ Aside0 (rehearsalref20_New.j0 kq a0 x11_1 = some (r1, r2, r3, r4, r5)) ∧ Aside0 (kq ≤ k) ∧ Aside0 (wc.heap[gb156]? = some (.cells #[(.slice none 0 0), (.slice none 0 0), .int .i64 0, .bool false] 62 (0, 0))) ∧ Aside0 (Below w.heap.size w wc))
  case first =>
    have H := HC2.out
    clear HC2
    by_cases c4 : a0 < 1
    · rw [if_pos c4] at H
      have c4b0 : decide (a0 < 1) = true := decide_eq_true c4
      clear c4
      (first | rw [c4b0] | (simp only [i64_w, i32_w]; rw [c4b0]) | skip)
      have H' := Aside0.mk H
      clear H
      go_wp2
      go_meet
      case rel => exact ⟨_, (true), (by first | rfl | (simp; done) | (simp [*]; done)), H', ⟨by first | omega | exact Nat.le_refl _⟩, ⟨by (with_reducible repeat (first | refine blk_drewN ?_ _ | refine blk_drew ?_ | refine blk_alloc ?_ _)); exact BK156.out⟩, ⟨by repeat (first | (with_reducible first | exact HB.out | apply below_alloc | apply pw_below_drewN | apply below_drew1 | refine below_set ?_ GE156.out) | exact HB.out)⟩⟩
    · rw [if_neg c4] at H
      have c4b0 : decide (a0 < 1) = false := decide_eq_false c4
      clear c4
      (first | rw [c4b0] | (simp only [i64_w, i32_w]; rw [c4b0]) | skip)
      have H' := Aside0.mk H
      clear H
      go_wp2
      go_meet
      case rel => exact ⟨_, (decide (a0 > 4096)), (by first | rfl | (simp; done) | (simp [*]; done)), H', ⟨by first | omega | exact Nat.le_refl _⟩, ⟨by (with_reducible repeat (first | refine blk_drewN ?_ _ | refine blk_drew ?_ | refine blk_alloc ?_ _)); exact BK156.out⟩, ⟨by repeat (first | (with_reducible first | exact HB.out | apply below_alloc | apply pw_below_drewN | apply below_drew1 | refine below_set ?_ GE156.out) | exact HB.out)⟩⟩
  case rest =>
    clear HC2
    try clear p2
    try clear c3
    try clear c4
    try clear c4b0
    obtain ⟨kq, x11_1, rfl, HA, HJ1, BK156, HB⟩ := hcut
    cases kq with
    | zero => exact absurd HA.out (by simp [rehearsalref20_New.j0])
    | succ kj1 =>
      have H := HA.out
      clear HA
      simp only [rehearsalref20_New.j0] at H
      by_cases c5 : x11_1 = true
      · subst c5
        have H1 : (some (([] : List ByteArray), ([] : List (S87)), 0, false, 1)) = some (r1, r2, r3, r4, r5) := by rw [if_pos rfl] at H; exact H
        clear H
        have H := H1
        clear H1
        simp only [Option.some.injEq, Prod.mk.injEq] at H
        obtain ⟨rfl, rfl, rfl, rfl, rfl⟩ := H
        have hcz6_0 : wc.cell? ⟨gb156, 0, none⟩ = some (.slice none 0 0) := (blk_cell BK156.out 0).trans rfl
        have hcz6_1 : wc.cell? ⟨gb156, 1, none⟩ = some (.slice none 0 0) := (blk_cell BK156.out 1).trans rfl
        have hcz6_2 : wc.cell? ⟨gb156, 2, none⟩ = some (.int .i64 0) := (blk_cell BK156.out 2).trans rfl
        have hcz6_3 : wc.cell? ⟨gb156, 3, none⟩ = some (.bool false) := (blk_cell BK156.out 3).trans rfl
        have hfz6_0 := blk_frozen BK156.out 0
        have hfz6_1 := blk_frozen BK156.out 1
        have hfz6_2 := blk_frozen BK156.out 2
        have hfz6_3 := blk_frozen BK156.out 3
        go_wp2
        refine bodyPost_ret (results_ct rfl _ _ gb156 62 #[.slice none 0 0, .slice none 0 0, .int .i64 0, .bool false] (0, 0) _ rfl (by (with_reducible repeat (first | refine blk_drewN ?_ _ | refine blk_drew ?_ | refine blk_alloc ?_ _)); refine blk_put (cs := #[.slice none 0 0, .slice none 0 0, .int .i64 0, .bool false]) ?_ 3 _ (by first | rfl | (simp only [w64_PB7]; rfl) | (simp [w64_PB7]; done)); (with_reducible repeat (first | refine blk_drewN ?_ _ | refine blk_drew ?_ | refine blk_alloc ?_ _)); refine blk_put (cs := #[.slice none 0 0, .slice none 0 0, .int .i64 0, .bool false]) ?_ 2 _ (by first | rfl | (simp only [w64_PB7]; rfl) | (simp [w64_PB7]; done)); (with_reducible repeat (first | refine blk_drewN ?_ _ | refine blk_drew ?_ | refine blk_alloc ?_ _)); refine blk_put (cs := #[.slice none 0 0, .slice none 0 0, .int .i64 0, .bool false]) ?_ 1 _ (by first | rfl | (simp only [w64_PB7]; rfl) | (simp [w64_PB7]; done)); (with_reducible repeat (first | refine blk_drewN ?_ _ | refine blk_drew ?_ | refine blk_alloc ?_ _)); refine blk_put (cs := #[.slice none 0 0, .slice none 0 0, .int .i64 0, .bool false]) ?_ 0 _ (by first | rfl | (simp only [w64_PB7]; rfl) | (simp [w64_PB7]; done)); (with_reducible repeat (first | refine blk_drewN ?_ _ | refine blk_drew ?_ | refine blk_alloc ?_ _)); exact BK156.out) Try.underlying62 rfl (by kernel_rfl)) rfl ?_
        exact ⟨_, _, by first | rfl | (simp [errW_none, errW_some] <;> rfl) | (simp [*, errW_none, errW_some] <;> rfl), by first | exact Kd.R_nil _ _ _ _ _ | exact Kd.N_nil _ _ _ _ _ | exact Kd.V_nil _ _ _ _ _ | exact Kd.Q_nil _ _ _ _ _ | exact Kd.S_nil _ _ _ _ _, by first | exact Kd.R_nil _ _ _ _ _ | exact Kd.N_nil _ _ _ _ _ | exact Kd.V_nil _ _ _ _ _ | exact Kd.Q_nil _ _ _ _ _ | exact Kd.S_nil _ _ _ _ _, by repeat (first | (with_reducible first | exact HB.out | apply below_alloc | apply pw_below_drewN | apply below_drew1 | refine below_set ?_ GE156.out) | exact HB.out)⟩
      · replace c5 := Bool.eq_false_iff.mpr c5
        subst c5
        have H1 : (rehearsalref20_New.l0 kj1 a0 0 ([] : List ByteArray) (-1) false) = some (r1, r2, r3, r4, r5) := by rw [if_neg (show ¬ (false = true) by decide)] at H; exact H
        clear H
        have H := H1
        clear H1
        have H' := Aside0.mk H
        clear H
        go_wp2_with (first | ((with_reducible refine gate_dst (N := 4) rfl ?_); refine box_event ?hg (N := 4) ?hd (cs := #[.slice none 0 0, .slice none 0 0, .int .i64 0, .bool false]) (t := 62) ?hr ?_; (case hd => rfl); (case hg => rfl); (case hr => first | (go_simp; done) | (go_simp; rfl)); intro gb157 hg w7 hbox hb; have n0_ := Aside0.mk (blk_below (g := gb156) (o := .cells #[.slice none 0 0, .slice none 0 0, .int .i64 0, .bool false] 62 (0, 0)) (by (with_reducible repeat (first | refine blk_drewN ?_ _ | refine blk_drew ?_ | refine blk_alloc ?_ _)); exact BK156.out) hb); have n1_ := Aside0.mk (below_step (by repeat (first | (with_reducible first | exact HB.out | apply below_alloc | apply pw_below_drewN | apply below_drew1 | refine below_set ?_ GE156.out) | exact HB.out)) hb); have n2_ := Aside0.mk (hbox); have n3_ := Aside0.mk ((by rw [hg]; exact (below_size (by repeat (first | (with_reducible first | exact HB.out | apply below_alloc | apply pw_below_drewN | apply below_drew1 | refine below_set ?_ GE156.out) | exact HB.out))) : w.heap.size ≤ gb157)); have n4_ := Aside0.mk ((by rw [hg]; exact (below_size (by repeat (first | (with_reducible first | exact HB.out | apply below_alloc | apply pw_below_drewN | apply below_drew1 | refine below_set ?_ GE156.out) | exact HB.out))) : w.heap.size ≤ gb157)); have n5_ := Aside0.mk ((by rw [hg]; exact Nat.ne_of_lt (blk_lt (g := gb156) (o := .cells #[.slice none 0 0, .slice none 0 0, .int .i64 0, .bool false] 62 (0, 0)) (by (with_reducible repeat (first | refine blk_drewN ?_ _ | refine blk_drew ?_ | refine blk_alloc ?_ _)); exact BK156.out)) : gb156 ≠ gb157)); have n6_ := Aside0.mk ((by rw [hg]; exact Nat.ne_of_gt (blk_lt (g := gb156) (o := .cells #[.slice none 0 0, .slice none 0 0, .int .i64 0, .bool false] 62 (0, 0)) (by (with_reducible repeat (first | refine blk_drewN ?_ _ | refine blk_drew ?_ | refine blk_alloc ?_ _)); exact BK156.out)) : gb157 ≠ gb156)); clear BK156; clear HB; have BK156 := n0_; have HB := n1_; have BK157 := n2_; have GW157 := n3_; have GE157 := n4_; have NB156_157 := n5_; have NB157_156 := n6_; clear n0_ n1_ n2_ n3_ n4_ n5_ n6_; clear hb hbox hg; have hnb8 := NB157_156.out; have hnc8 := NB156_157.out; have hcz9_0 : w7.cell? ⟨gb157, 0, none⟩ = some (.slice none 0 0) := (blk_cell BK157.out 0).trans rfl; have hcz9_1 : w7.cell? ⟨gb157, 1, none⟩ = some (.slice none 0 0) := (blk_cell BK157.out 1).trans rfl; have hcz9_2 : w7.cell? ⟨gb157, 2, none⟩ = some (.int .i64 0) := (blk_cell BK157.out 2).trans rfl; have hcz9_3 : w7.cell? ⟨gb157, 3, none⟩ = some (.bool false) := (blk_cell BK157.out 3).trans rfl; have hfz9_0 := blk_frozen BK157.out 0; have hfz9_1 := blk_frozen BK157.out 1; have hfz9_2 := blk_frozen BK157.out 2; have hfz9_3 := blk_frozen BK157.out 3))
        go_loopg [5] kj1 (fun kq v5 w' => ∃ (x5_2 : Int) (x158000_2 : List ByteArray) (u158000 : Value), v5 = .int .i64 x5_2 ∧ Aside0 (rehearsalref20_New.l0 kq a0 x5_2 x158000_2 (-1) false = some (r1, r2, r3, r4, r5)) ∧ Aside0 (kq ≤ kj1) ∧ Aside0 (Kd.R Kd.string 9 w' w.heap.size (fun _ => True) u158000 x158000_2) ∧ Aside0 (w'.heap[gb156]? = some (.cells #[(.slice none 0 0), (.slice none 0 0), .int .i64 0, .bool false] 62 (0, 0))) ∧ Aside0 (w'.heap[gb157]? = some (.cells #[u158000, (.slice none 0 0), .int .i64 (-1), .bool false] 62 (0, 0))) ∧ Aside0 (Below w.heap.size w w'))
        case atStart => exact ⟨(0), (([] : List ByteArray)), (.slice none 0 0), (by first | rfl | (simp; done) | (simp [*]; done)), H', ⟨Nat.le_refl _⟩, ⟨by first | exact Kd.R_nil _ _ _ _ _ | exact Kd.N_nil _ _ _ _ _ | exact Kd.V_nil _ _ _ _ _ | exact Kd.Q_nil _ _ _ _ _ | exact Kd.S_nil _ _ _ _ _⟩, ⟨by (with_reducible repeat (first | refine blk_drewN ?_ _ | refine blk_drew ?_ | refine blk_alloc ?_ _)); refine blk_far ?_ NB156_157.out _; (with_reducible repeat (first | refine blk_drewN ?_ _ | refine blk_drew ?_ | refine blk_alloc ?_ _)); refine blk_far ?_ NB156_157.out _; (with_reducible repeat (first | refine blk_drewN ?_ _ | refine blk_drew ?_ | refine blk_alloc ?_ _)); refine blk_far ?_ NB156_157.out _; (with_reducible repeat (first | refine blk_drewN ?_ _ | refine blk_drew ?_ | refine blk_alloc ?_ _)); refine blk_far ?_ NB156_157.out _; (with_reducible repeat (first | refine blk_drewN ?_ _ | refine blk_drew ?_ | refine blk_alloc ?_ _)); exact BK156.out⟩, ⟨by (with_reducible repeat (first | refine blk_drewN ?_ _ | refine blk_drew ?_ | refine blk_alloc ?_ _)); refine blk_put (cs := #[.slice none 0 0, .slice none 0 0, .int .i64 (-1), .bool false]) ?_ 3 _ (by first | rfl | (simp only [w64_PB7]; rfl) | (simp [w64_PB7]; done)); (with_reducible repeat (first | refine blk_drewN ?_ _ | refine blk_drew ?_ | refine blk_alloc ?_ _)); refine blk_put (cs := #[.slice none 0 0, .slice none 0 0, .int .i64 0, .bool false]) ?_ 2 _ (by first | rfl | (simp only [w64_PB7]; rfl) | (simp [w64_PB7]; done)); (with_reducible repeat (first | refine blk_drewN ?_ _ | refine blk_drew ?_ | refine blk_alloc ?_ _)); refine blk_put (cs := #[.slice none 0 0, .slice none 0 0, .int .i64 0, .bool false]) ?_ 1 _ (by first | rfl | (simp only [w64_PB7]; rfl) | (simp [w64_PB7]; done)); (with_reducible repeat (first | refine blk_drewN ?_ _ | refine blk_drew ?_ | refine blk_alloc ?_ _)); refine blk_put (cs := #[.slice none 0 0, .slice none 0 0, .int .i64 0, .bool false]) ?_ 0 _ (by first | rfl | (simp only [w64_PB7]; rfl) | (simp [w64_PB7]; done)); (with_reducible repeat (first | refine blk_drewN ?_ _ | refine blk_drew ?_ | refine blk_alloc ?_ _)); exact BK157.out⟩, ⟨by repeat (first | (with_reducible first | exact HB.out | apply below_alloc | apply pw_below_drewN | apply below_drew1 | refine below_set ?_ GE156.out | refine below_set ?_ GE157.out) | exact HB.out)⟩⟩
        case round =>
          clear H'
          try clear p2
          try clear c3
          try clear c4
          try clear c4b0
          try clear c5
          try clear c8
          try clear hcz6_0
          try clear hcz6_1
          try clear hcz6_2
          try clear hcz6_3
          try clear hcz9_0
          try clear hcz9_1
          try clear hcz9_2
          try clear hcz9_3
          try clear hfz6_0
          try clear hfz6_1
          try clear hfz6_2
          try clear hfz6_3
          try clear hfz9_0
          try clear hfz9_1
          try clear hfz9_2
          try clear hfz9_3
          try clear p2
          obtain ⟨x5_2, x158000_2, u158000, rfl, HA, HK2, HO_158000, BK156, BK157, HB⟩ := hrel
          cases gk with
          | zero => exact absurd HA.out (by simp [rehearsalref20_New.l0])
          | succ k2 =>
            have H := HA.out
            clear HA
            simp only [rehearsalref20_New.l0] at H
            by_cases c10 : x5_2 < a0
            · rw [if_pos c10] at H
              have c10b0 : decide (x5_2 < a0) = true := decide_eq_true c10
              clear c10
              by_cases c11 : x158000_2.length < 8796093022208
              · rw [if_pos c11] at H
                have LMc11 := Aside0.mk c11
                clear c11
                obtain ⟨y158, hy158⟩ : ∃ y_ : List ByteArray, y_ = (x158000_2 ++ [(⟨#[]⟩ : ByteArray)]) := ⟨_, rfl⟩
                replace H : (rehearsalref20_New.l0 k2 a0 (wrap64 (x5_2 + 1)) y158 (-1) false) = some (r1, r2, r3, r4, r5) := by first | (rw [hy158]; with_reducible exact H) | (have H2_ := (Option.bind_some _ _).symm.trans H; rw [hy158]; with_reducible exact H2_) | (have H2_ := (Option.bind_some _ _).symm.trans H; with_reducible exact H2_) | with_reducible exact H | (rw [hy158]; exact H) | exact H
                have Ny158 := Aside0.mk hy158
                clear hy158
                have H' := Aside0.mk H
                clear H
                have hnb12 := NB157_156.out
                have hnc12 := NB156_157.out
                have hcz13_0 : wr.cell? ⟨gb157, 0, none⟩ = some (u158000) := (blk_cell BK157.out 0).trans rfl
                have hcz13_1 : wr.cell? ⟨gb157, 1, none⟩ = some (.slice none 0 0) := (blk_cell BK157.out 1).trans rfl
                have hcz13_2 : wr.cell? ⟨gb157, 2, none⟩ = some (.int .i64 (-1)) := (blk_cell BK157.out 2).trans rfl
                have hcz13_3 : wr.cell? ⟨gb157, 3, none⟩ = some (.bool false) := (blk_cell BK157.out 3).trans rfl
                have hfz13_0 := blk_frozen BK157.out 0
                have hfz13_1 := blk_frozen BK157.out 1
                have hfz13_2 := blk_frozen BK157.out 2
                have hfz13_3 := blk_frozen BK157.out 3
                go_wp2_with (first | ((with_reducible refine gate_builtin (b := .append) (xs := #[.tmp 20, .tmp 21]) rfl ?_); at_builtin; refine Kd.R_append Kd.string (w0 := w) w.heap.size rfl (.tmp 20) (.tmp 21) 45 9 (.string ⟨#[]⟩) 16 rfl Try.underlying45 info9 rfl (by decide) (by omega) u158000 x158000_2 (⟨#[]⟩ : ByteArray) [.string (⟨#[]⟩ : ByteArray)] (fun _ => True) (fun _ => False) rfl rfl ?aP (fun _ hk => hk.elim) ?aF ?aO ?aB ?aS ?aL ?_; (case aP => exact rfl); (case aB => exact (by repeat (first | (with_reducible first | exact HB.out | apply below_alloc | apply pw_below_drewN | apply below_drew1 | refine below_set ?_ GE156.out | refine below_set ?_ GE157.out) | exact HB.out))); (case aF => exact (fun _ _ => trivial)); (case aO => exact (by (with_reducible repeat (first | apply Kd.R_alloc | apply Kd.R_drewN | apply Kd.R_drew)); exact HO_158000.out)); (case aS => exact (below_size (by repeat (first | (with_reducible first | exact HB.out | apply below_alloc | apply pw_below_drewN | apply below_drew1 | refine below_set ?_ GE156.out | refine below_set ?_ GE157.out) | exact HB.out)))); (case aL => have := LMc11.out; omega); intro v159 w14 ho hb hg hat; rw [← Ny158.out] at ho; have n0_ := Aside0.mk (blk_grown (g := gb156) (o := .cells #[.slice none 0 0, .slice none 0 0, .int .i64 0, .bool false] 62 (0, 0)) (by (with_reducible repeat (first | refine blk_drewN ?_ _ | refine blk_drew ?_ | refine blk_alloc ?_ _)); exact BK156.out) hg (Kd.R_ne HO_158000.out BK156.out (by decide))); have n1_ := Aside0.mk (blk_grown (g := gb157) (o := .cells #[u158000, .slice none 0 0, .int .i64 (-1), .bool false] 62 (0, 0)) (by (with_reducible repeat (first | refine blk_drewN ?_ _ | refine blk_drew ?_ | refine blk_alloc ?_ _)); exact BK157.out) hg (Kd.R_ne HO_158000.out BK157.out (by decide))); have n2_ := Aside0.mk (hb); have n3_ := Aside0.mk (ho); clear BK156; clear BK157; clear HB; clear HO_158000; have BK156 := n0_; have BK157 := n1_; have HB := n2_; have HO160 := n3_; clear n0_ n1_ n2_ n3_; clear ho hb hg hat; obtain ⟨Ao15, co15, eo15⟩ := Kd.R_slice HO160.out; subst eo15; have hcz16_0 : w14.cell? ⟨gb157, 0, none⟩ = some (u158000) := (blk_cell BK157.out 0).trans rfl; have hcz16_1 : w14.cell? ⟨gb157, 1, none⟩ = some (.slice none 0 0) := (blk_cell BK157.out 1).trans rfl; have hcz16_2 : w14.cell? ⟨gb157, 2, none⟩ = some (.int .i64 (-1)) := (blk_cell BK157.out 2).trans rfl; have hcz16_3 : w14.cell? ⟨gb157, 3, none⟩ = some (.bool false) := (blk_cell BK157.out 3).trans rfl; have hfz16_0 := blk_frozen BK157.out 0; have hfz16_1 := blk_frozen BK157.out 1; have hfz16_2 := blk_frozen BK157.out 2; have hfz16_3 := blk_frozen BK157.out 3))
                go_roundg k2
                case measure => have := HJ1.out; have := HK2.out; omega
                case rel => exact ⟨(wrap64 (x5_2 + 1)), (y158), (.slice Ao15 y158.length co15), (by first | rfl | (simp; done) | (simp [*]; done)), H', ⟨by have := HJ1.out; have := HK2.out; omega⟩, ⟨by (with_reducible repeat (first | apply Kd.R_alloc | apply Kd.R_drewN | apply Kd.R_drew)); exact Kd.R_mono (Kd.R_far (p := ⟨gb157, 0, none⟩) (Kd.R_types HO160.out BK157.out (by decide)) (fun _ hk => hk.2) (.slice Ao15 y158.length co15)) (fun _ hk => trivial)⟩, ⟨by (with_reducible repeat (first | refine blk_drewN ?_ _ | refine blk_drew ?_ | refine blk_alloc ?_ _)); refine blk_far ?_ NB156_157.out _; (with_reducible repeat (first | refine blk_drewN ?_ _ | refine blk_drew ?_ | refine blk_alloc ?_ _)); exact BK156.out⟩, ⟨by (with_reducible repeat (first | refine blk_drewN ?_ _ | refine blk_drew ?_ | refine blk_alloc ?_ _)); refine blk_put (cs := #[u158000, .slice none 0 0, .int .i64 (-1), .bool false]) ?_ 0 _ (by first | rfl | (simp only [w64_PB7]; rfl) | (simp [w64_PB7]; done)); (with_reducible repeat (first | refine blk_drewN ?_ _ | refine blk_drew ?_ | refine blk_alloc ?_ _)); exact BK157.out⟩, ⟨by repeat (first | (with_reducible first | exact HB.out | apply below_alloc | apply pw_below_drewN | apply below_drew1 | refine below_set ?_ GE156.out | refine below_set ?_ GE157.out) | exact HB.out)⟩⟩
              · rw [if_neg c11] at H
                exact absurd H (by simp)
            · rw [if_neg c10] at H
              have c10b0 : decide (x5_2 < a0) = false := decide_eq_false c10
              clear c10
              simp only [Option.some.injEq, Prod.mk.injEq] at H
              obtain ⟨rfl, rfl, rfl, rfl, rfl⟩ := H
              have hnb17 := NB157_156.out
              have hnc17 := NB156_157.out
              have hcz18_0 : wr.cell? ⟨gb157, 0, none⟩ = some (u158000) := (blk_cell BK157.out 0).trans rfl
              have hcz18_1 : wr.cell? ⟨gb157, 1, none⟩ = some (.slice none 0 0) := (blk_cell BK157.out 1).trans rfl
              have hcz18_2 : wr.cell? ⟨gb157, 2, none⟩ = some (.int .i64 (-1)) := (blk_cell BK157.out 2).trans rfl
              have hcz18_3 : wr.cell? ⟨gb157, 3, none⟩ = some (.bool false) := (blk_cell BK157.out 3).trans rfl
              have hfz18_0 := blk_frozen BK157.out 0
              have hfz18_1 := blk_frozen BK157.out 1
              have hfz18_2 := blk_frozen BK157.out 2
              have hfz18_3 := blk_frozen BK157.out 3
              obtain ⟨Ao19, co19, eo19⟩ := Kd.R_slice HO_158000.out
              subst eo19
              have hcz20_0 : wr.cell? ⟨gb156, 0, none⟩ = some (.slice none 0 0) := (blk_cell BK156.out 0).trans rfl
              have hcz20_1 : wr.cell? ⟨gb156, 1, none⟩ = some (.slice none 0 0) := (blk_cell BK156.out 1).trans rfl
              have hcz20_2 : wr.cell? ⟨gb156, 2, none⟩ = some (.int .i64 0) := (blk_cell BK156.out 2).trans rfl
              have hcz20_3 : wr.cell? ⟨gb156, 3, none⟩ = some (.bool false) := (blk_cell BK156.out 3).trans rfl
              have hfz20_0 := blk_frozen BK156.out 0
              have hfz20_1 := blk_frozen BK156.out 1
              have hfz20_2 := blk_frozen BK156.out 2
              have hfz20_3 := blk_frozen BK156.out 3
              go_wp2
              refine bodyPost_ret (results_ct rfl _ _ gb156 62 #[.slice Ao19 x158000_2.length co19, .slice none 0 0, .int .i64 (-1), .bool false] (0, 0) _ rfl (by (with_reducible repeat (first | refine blk_drewN ?_ _ | refine blk_drew ?_ | refine blk_alloc ?_ _)); refine blk_put (cs := #[.slice Ao19 x158000_2.length co19, .slice none 0 0, .int .i64 (-1), .bool false]) ?_ 3 _ (by first | rfl | (simp only [w64_PB7]; rfl) | (simp [w64_PB7]; done)); (with_reducible repeat (first | refine blk_drewN ?_ _ | refine blk_drew ?_ | refine blk_alloc ?_ _)); refine blk_put (cs := #[.slice Ao19 x158000_2.length co19, .slice none 0 0, .int .i64 0, .bool false]) ?_ 2 _ (by first | rfl | (simp only [w64_PB7]; rfl) | (simp [w64_PB7]; done)); (with_reducible repeat (first | refine blk_drewN ?_ _ | refine blk_drew ?_ | refine blk_alloc ?_ _)); refine blk_put (cs := #[.slice Ao19 x158000_2.length co19, .slice none 0 0, .int .i64 0, .bool false]) ?_ 1 _ (by first | rfl | (simp only [w64_PB7]; rfl) | (simp [w64_PB7]; done)); (with_reducible repeat (first | refine blk_drewN ?_ _ | refine blk_drew ?_ | refine blk_alloc ?_ _)); refine blk_put (cs := #[.slice none 0 0, .slice none 0 0, .int .i64 0, .bool false]) ?_ 0 _ (by first | rfl | (simp only [w64_PB7]; rfl) | (simp [w64_PB7]; done)); (with_reducible repeat (first | refine blk_drewN ?_ _ | refine blk_drew ?_ | refine blk_alloc ?_ _)); exact BK156.out) Try.underlying62 rfl (by kernel_rfl)) rfl ?_
              exact ⟨_, _, by first | rfl | (simp [errW_none, errW_some] <;> rfl) | (simp [*, errW_none, errW_some] <;> rfl), by (with_reducible repeat (first | apply Kd.R_alloc | apply Kd.R_drewN | apply Kd.R_drew)); exact Kd.R_mono (Kd.R_far (p := ⟨gb156, 3, none⟩) (Kd.R_far (p := ⟨gb156, 2, none⟩) (Kd.R_far (p := ⟨gb156, 1, none⟩) (Kd.R_far (p := ⟨gb156, 0, none⟩) (Kd.R_types HO_158000.out BK156.out (by decide)) (fun _ hk => hk.2) (.slice Ao19 x158000_2.length co19)) (fun _ hk => hk.2) (.slice none 0 0)) (fun _ hk => hk.2) (.int .i64 (-1))) (fun _ hk => hk.2) (.bool false)) (fun _ hk => trivial), by first | exact Kd.R_nil _ _ _ _ _ | exact Kd.N_nil _ _ _ _ _ | exact Kd.V_nil _ _ _ _ _ | exact Kd.Q_nil _ _ _ _ _ | exact Kd.S_nil _ _ _ _ _, by repeat (first | (with_reducible first | exact HB.out | apply below_alloc | apply pw_below_drewN | apply below_drew1 | refine below_set ?_ GE156.out | refine below_set ?_ GE157.out) | exact HB.out)⟩
end Go.Proofs.Ythmdmbgjheploaa.PB
set_option linter.unusedVariables false
set_option linter.unusedSimpArgs false
namespace Go.Proofs.Ythmdmbgjheploaa.PB
open Go Go.RowKit Go.Proofs.Ythmdmbgjheploaa Go.Proofs.YthmdmbgjheploaaW.PrintWords
abbrev LT := S87
def Evt {α : Type} (g : Nat → Option α) (r : α) : Prop := ∃ K, ∀ k, K ≤ k → g k = some r
theorem Evt.succ {α : Type} {g h : Nat → Option α} {r : α} (K : Nat) (he : ∀ k, K ≤ k → g (k + 1) = h k) (hh : Evt h r) : Evt g r := by
  obtain ⟨K2, h2⟩ := hh
  refine ⟨max K K2 + 1, fun k hk => ?_⟩
  obtain ⟨k, rfl⟩ : ∃ q, k = q + 1 := ⟨k - 1, by omega⟩
  rw [he k (by omega)]; exact h2 k (by omega)
theorem Evt.const {α : Type} {g : Nat → Option α} {r : α} (K : Nat) (he : ∀ k, K ≤ k → g (k + 1) = some r) : Evt g r := by
  refine ⟨K + 1, fun k hk => ?_⟩
  obtain ⟨k, rfl⟩ : ∃ q, k = q + 1 := ⟨k - 1, by omega⟩
  exact he k (by omega)
theorem w64 (i : Nat) (h : i ≤ 1000000000000000000) : wrap64 ((i : Int) + 1) = ((i + 1 : Nat) : Int) := by unfold wrap64; omega
def toL (l : List (Int × ByteArray)) : List LT := l.map (fun x => ⟨x.1, x.2⟩)
theorem toL_len (l : List (Int × ByteArray)) : (toL l).length = l.length := List.length_map ..
theorem toL_app (l m : List (Int × ByteArray)) : toL (l ++ m) = toL l ++ toL m := List.map_append ..
theorem toL_at (l : List (Int × ByteArray)) (i : Nat) (h : i < l.length) : rd_T87 (toL l) (i : Int) = ⟨(l[i]).1, (l[i]).2⟩ := by
  unfold rd_T87 toL
  rw [Int.toNat_natCast, List.getD_eq_getElem?_getD, List.getElem?_map, List.getElem?_eq_getElem h]; rfl
theorem rdS (l : List ByteArray) (i : Nat) (h : i < l.length) : rdOf ByteArray.empty l (i : Int) = l[i] := by
  unfold rdOf; rw [Int.toNat_natCast, List.getD_eq_getElem?_getD, List.getElem?_eq_getElem h]; rfl
/-- a disk that may be -/
structure OkD (d : DiskS) : Prop where
  n1 : d.safe.length ≤ 4096
  l1 : d.late.length ≤ 1000000
  at_ : ∀ x ∈ d.late, 0 ≤ x.1 ∧ x.1 < d.safe.length
  f0 : -9223372036854775808 ≤ d.fuse
  f1 : d.fuse ≤ 9223372036854775807
def tup (d : DiskS) (e : Int) : List ByteArray × List LT × Int × Bool × Int := (d.safe, toL d.late, d.fuse, d.blown, e)
theorem rburn_ev (d : DiskS) (hd : OkD d) : ∀ k, 1 ≤ k → rehearsalref20_Disk_burn.f k d.safe (toL d.late) d.fuse d.blown = some (tup (spendD d).1 (spendD d).2) := by
  intro k hk
  obtain ⟨k, rfl⟩ : ∃ q, k = q + 1 := ⟨k - 1, by omega⟩
  have f0 := hd.f0
  have f1 := hd.f1
  have hj : rehearsalref20_Disk_burn.f (k + 1) d.safe (toL d.late) d.fuse d.blown = rehearsalref20_Disk_burn.j0 (k + 1) (d.blown || (d.fuse == 0)) d.safe (toL d.late) d.fuse d.blown := by
    unfold rehearsalref20_Disk_burn.f
    cases d.blown <;> rfl
  rw [hj]
  simp only [rehearsalref20_Disk_burn.j0]
  unfold spendD
  by_cases h : d.blown = true ∨ d.fuse = 0
  · have hb : (d.blown || (d.fuse == 0)) = true := by
      rcases h with h | h
      · rw [h]; rfl
      · rw [beq_iff_eq.2 h]; simp
    rw [if_pos hb, if_pos h]; rfl
  · have hb : (d.blown || (d.fuse == 0)) = false := by
      rw [not_or] at h
      rw [beq_eq_false_iff_ne.2 h.2, Bool.or_false]; simpa using h.1
    rw [if_neg (by rw [hb]; simp), if_neg h]
    by_cases hp : 0 < d.fuse
    · have hw : wrap64 (d.fuse - 1) = d.fuse - 1 := by unfold wrap64; omega
      rw [if_pos hp, if_pos hp, hw]; rfl
    · rw [if_neg hp, if_neg hp]; rfl
theorem okD_spend {d : DiskS} (h : OkD d) : OkD (spendD d).1 := by
  have h2 := spendD_safe d
  have f0 := h.f0
  have f1 := h.f1
  refine ⟨by rw [h2.1]; exact h.n1, by rw [h2.2]; exact h.l1, by rw [h2.1, h2.2]; exact h.at_, ?_, ?_⟩
  all_goals (unfold spendD; split; exact (by first | exact f0 | exact f1); split <;> simp <;> omega)
theorem rwrite_ev (d : DiskS) (hd : OkD d) (hl : d.late.length < 1000000) (i : Int) (s : ByteArray) : Evt (fun k => rehearsalref20_Disk_Write.f k d.safe (toL d.late) d.fuse d.blown i s) (tup (wrD d i s).1 (wrD d i s).2) := by
  refine ⟨2, fun k hk => ?_⟩
  obtain ⟨k, rfl⟩ : ∃ q, k = q + 2 := ⟨k - 2, by omega⟩
  have n1 := hd.n1
  have hj : rehearsalref20_Disk_Write.f (k + 2) d.safe (toL d.late) d.fuse d.blown i s = rehearsalref20_Disk_Write.j0 (k + 2) i s (decide (d.blown = false ∧ ¬ (0 ≤ i ∧ i < d.safe.length ∧ s.size ≤ 256))) d.safe (toL d.late) d.fuse d.blown := by
    unfold rehearsalref20_Disk_Write.f
    by_cases hb : d.blown = true
    · rw [if_pos hb, decide_eq_false (fun h => by rw [hb] at h; cases h.1)]
    · have hb' : d.blown = false := by simpa using hb
      rw [if_neg hb]
      by_cases h1 : i < 0
      · rw [if_pos h1, decide_eq_true ⟨hb', by omega⟩]
      · rw [if_neg h1]
        by_cases h2 : i ≥ (d.safe.length : Int)
        · rw [if_pos h2, decide_eq_true ⟨hb', by omega⟩]
        · rw [if_neg h2]
          congr 1
          rw [decide_eq_decide]
          exact ⟨fun h => ⟨hb', by omega⟩, fun h => by have := h.2; omega⟩
  show rehearsalref20_Disk_Write.f (k + 2) d.safe (toL d.late) d.fuse d.blown i s = _
  rw [hj]
  simp only [rehearsalref20_Disk_Write.j0]
  unfold wrD
  by_cases h : d.blown = false ∧ ¬ (0 ≤ i ∧ i < d.safe.length ∧ s.size ≤ 256)
  · rw [decide_eq_true h, if_pos rfl, if_pos h]; rfl
  · have h2 := spendD_safe d
    rw [decide_eq_false h, if_neg (by simp), if_neg h, rburn_ev d hd (k + 1) (by omega), Option.bind_some]
    unfold tup
    simp only
    by_cases h0 : (spendD d).2 = 0
    · rw [if_pos h0, if_pos h0, Option.bind_some, if_pos (by rw [toL_len, h2.2]; simp; omega), Option.bind_some, if_pos (by rw [List.nil_append, toL_len, h2.2]; omega), List.nil_append, toL_app, h0]
      rfl
    · rw [if_neg h0, if_neg h0]
theorem bit_at (m j : Nat) : (Int.tmod ((m / 2 ^ j : Nat) : Int) 2 = 1) ↔ (m / 2 ^ j % 2 == 1) = true := by
  rw [Int.tmod_eq_emod_of_nonneg (Int.natCast_nonneg _), beq_iff_eq]
  omega
theorem half_at (m j : Nat) (hm : m < 18446744073709551616) : IntKind.u64.wrap (Int.tdiv ((m / 2 ^ j : Nat) : Int) 2) = ((m / 2 ^ (j + 1) : Nat) : Int) := by
  have h1 : m / 2 ^ j ≤ m := Nat.div_le_self _ _
  have h2 : m / 2 ^ (j + 1) = m / 2 ^ j / 2 := by rw [Nat.pow_succ, Nat.div_div_eq_div_mul]
  rw [h2, Int.tdiv_eq_ediv_of_nonneg (Int.natCast_nonneg _)]
  generalize m / 2 ^ j = a at *
  have h3 : ((a : Int) / 2) = ((a / 2 : Nat) : Int) := by omega
  rw [h3]
  unfold IntKind.wrap
  simp [IntKind.signed, IntKind.bits]
  omega
theorem kept_l1 (m : Nat) (hm : m < 18446744073709551616) (S0 : List ByteArray) (L : List (Int × ByteArray)) (f : Int) (b : Bool) (i : Nat) (hi : i < L.length) (hl : L.length ≤ 1000000) (acc : List ByteArray) (hat : 0 ≤ (L[i]).1 ∧ (L[i]).1 < acc.length) (r : List ByteArray)
    (hn : Evt (fun k => rehearsalref20_Disk_kept.l0 k (m : Int) (if bitAt m i = true then acc.set (L[i]).1.toNat (L[i]).2 else acc) ((i + 1 : Nat) : Int) S0 (toL L) f b) r) :
    ∀ (e j : Nat), j + e = i % 64 → Evt (fun k => rehearsalref20_Disk_kept.l1 k (m : Int) acc (i : Int) ((m / 2 ^ j : Nat) : Int) (j : Int) S0 (toL L) f b) r := by
  have hmod : Int.tmod (i : Int) 64 = ((i % 64 : Nat) : Int) := by rw [Int.tmod_eq_emod_of_nonneg (Int.natCast_nonneg _)]; omega
  intro e
  induction e with
  | zero =>
    intro j hj
    have hj : j = i % 64 := by omega
    refine Evt.succ 0 (fun k _ => ?_) hn
    simp only [rehearsalref20_Disk_kept.l1]
    rw [hmod, if_neg (by omega), w64 i (by omega)]
    by_cases hb : bitAt m i = true
    · have hb2 : (m / 2 ^ j % 2 == 1) = true := by unfold bitAt at hb; rw [hj]; exact hb
      rw [if_pos ((bit_at m j).2 hb2), if_pos (by omega), if_pos (by rw [toL_len]; omega), toL_at L i hi]
      simp only
      rw [if_pos hat.1, if_pos hat.2, if_pos hb]
    · have hb2 : ¬ (m / 2 ^ j % 2 == 1) = true := by unfold bitAt at hb; rw [hj]; exact hb
      rw [if_neg (fun h => hb2 ((bit_at m j).1 h)), if_neg hb]
  | succ e ih =>
    intro j hj
    refine Evt.succ 0 (fun k _ => ?_) (ih (j + 1) (by omega))
    simp only [rehearsalref20_Disk_kept.l1]
    rw [hmod, if_pos (by omega), half_at m j hm, w64 j (by omega)]
theorem kept_l0 (m : Nat) (hm : m < 18446744073709551616) (S0 : List ByteArray) (L : List (Int × ByteArray)) (f : Int) (b : Bool) (hl : L.length ≤ 1000000) : ∀ (e i : Nat) (acc : List ByteArray), i + e = L.length → (∀ x ∈ L, 0 ≤ x.1 ∧ x.1 < acc.length) →
    Evt (fun k => rehearsalref20_Disk_kept.l0 k (m : Int) acc (i : Int) S0 (toL L) f b) (keepD (bitAt m) acc (L.drop i) i) := by
  intro e
  induction e with
  | zero =>
    intro i acc h ha
    refine Evt.const 0 (fun k _ => ?_)
    simp only [rehearsalref20_Disk_kept.l0]
    rw [if_neg (by rw [toL_len]; omega), List.drop_of_length_le (by omega)]; rfl
  | succ e ih =>
    intro i acc h ha
    have hi : i < L.length := by omega
    have hat := ha _ (List.getElem_mem hi)
    have ha2 : ∀ x ∈ L, 0 ≤ x.1 ∧ x.1 < (if bitAt m i = true then acc.set (L[i]).1.toNat (L[i]).2 else acc).length := fun x hx => by
      have h := ha x hx
      by_cases hq : bitAt m i = true
      · rw [if_pos hq, List.length_set]; exact h
      · rw [if_neg hq]; exact h
    have z := ih (i + 1) (if bitAt m i = true then acc.set (L[i]).1.toNat (L[i]).2 else acc) (by omega) ha2
    rw [List.drop_eq_getElem_cons hi]
    unfold keepD
    refine Evt.succ (h := fun k => rehearsalref20_Disk_kept.l1 k (m : Int) acc (i : Int) ((m / 2 ^ 0 : Nat) : Int) ((0 : Nat) : Int) S0 (toL L) f b) 0 (fun k _ => ?_) (kept_l1 m hm S0 L f b i hi hl acc hat _ z (i % 64) 0 (by omega))
    simp only [rehearsalref20_Disk_kept.l0]
    rw [if_pos (by rw [toL_len]; omega), Nat.pow_zero, Nat.div_one]; rfl
theorem kept_ev (m : Nat) (hm : m < 18446744073709551616) (d : DiskS) (hd : OkD d) : Evt (fun k => rehearsalref20_Disk_kept.f k d.safe (toL d.late) d.fuse d.blown (m : Int)) (keepD (bitAt m) d.safe d.late 0) := by
  obtain ⟨K, hK⟩ := kept_l0 m hm d.safe d.late d.fuse d.blown hd.l1 d.late.length 0 d.safe (by omega) hd.at_
  refine ⟨K, fun k hk => ?_⟩
  have n1 := hd.n1
  show rehearsalref20_Disk_kept.f k d.safe (toL d.late) d.fuse d.blown (m : Int) = _
  unfold rehearsalref20_Disk_kept.f
  rw [Option.bind_some, if_pos (by rw [List.length_nil]; omega), List.nil_append]
  exact hK k hk
theorem bit_all (k : Nat) : bitAt 18446744073709551615 k = true := by
  unfold bitAt
  have h : k % 64 < 64 := Nat.mod_lt _ (by decide)
  generalize k % 64 = j at h
  have : ∀ j : Fin 64, (18446744073709551615 / 2 ^ j.val % 2 == 1) = true := by decide
  exact this ⟨j, h⟩
theorem keep_all (safe : List ByteArray) (l : List (Int × ByteArray)) : ∀ k, keepD (bitAt 18446744073709551615) safe l k = keepD (fun _ => true) safe l k := by
  have h : bitAt 18446744073709551615 = fun _ => true := funext bit_all
  intro k; rw [h]
theorem rsync_ev (d : DiskS) (hd : OkD d) : Evt (fun k => rehearsalref20_Disk_Sync.f k d.safe (toL d.late) d.fuse d.blown) (tup (syncD d).1 (syncD d).2) := by
  have h2 := spendD_safe d
  obtain ⟨K, hK⟩ := kept_ev 18446744073709551615 (by decide) (spendD d).1 (okD_spend hd)
  refine ⟨K + 1, fun k hk => ?_⟩
  show rehearsalref20_Disk_Sync.f k d.safe (toL d.late) d.fuse d.blown = _
  unfold rehearsalref20_Disk_Sync.f syncD
  rw [rburn_ev d hd k (by omega), Option.bind_some]
  unfold tup
  simp only
  by_cases h0 : (spendD d).2 = 0
  · have hk2 : rehearsalref20_Disk_kept.f k (spendD d).1.safe (toL (spendD d).1.late) (spendD d).1.fuse (spendD d).1.blown 18446744073709551615 = _ := hK k (by omega)
    rw [if_pos h0, if_pos h0, hk2, Option.bind_some, keep_all, h0]; rfl
  · rw [if_neg h0, if_neg h0]
theorem rcrash_ev (d : DiskS) (hd : OkD d) (m : Nat) (hm : m < 18446744073709551616) : Evt (fun k => rehearsalref20_Disk_Crash.f k d.safe (toL d.late) d.fuse d.blown (m : Int)) ((crashD d m).safe, toL (crashD d m).late, (crashD d m).fuse, (crashD d m).blown) := by
  obtain ⟨K, hK⟩ := kept_ev m hm d hd
  refine ⟨K, fun k hk => ?_⟩
  show rehearsalref20_Disk_Crash.f k d.safe (toL d.late) d.fuse d.blown (m : Int) = _
  unfold rehearsalref20_Disk_Crash.f
  have hk2 : rehearsalref20_Disk_kept.f k d.safe (toL d.late) d.fuse d.blown (m : Int) = _ := hK k hk
  rw [hk2, Option.bind_some]; rfl
theorem lastW_cons (x : Int × ByteArray) (l : List (Int × ByteArray)) (i : Int) : lastW (x :: l) i = (lastW l i).or (if x.1 = i then some x.2 else none) := by
  unfold lastW
  rw [List.reverse_cons, List.find?_append]
  cases h : l.reverse.find? (fun x => x.1 == i) with
  | some y => simp
  | none =>
    by_cases hx : x.1 = i
    · simp [hx]
    · have : (x.1 == i) = false := by simpa using hx
      simp [hx, this]
theorem rread_l0 (d : DiskS) (hd : OkD d) (i : Int) : ∀ (e j : Nat) (s : ByteArray), j + e = d.late.length → Evt (fun k => rehearsalref20_Disk_Read.l0 k i s (j : Int) d.safe (toL d.late) d.fuse d.blown) ((lastW (d.late.drop j) i).getD s, 0) := by
  have l1 := hd.l1
  intro e
  induction e with
  | zero =>
    intro j s h
    refine Evt.const 0 (fun k _ => ?_)
    simp only [rehearsalref20_Disk_Read.l0]
    rw [if_neg (by rw [toL_len]; omega), List.drop_of_length_le (by omega)]; rfl
  | succ e ih =>
    intro j s h
    have hj : j < d.late.length := by omega
    rw [List.drop_eq_getElem_cons hj, lastW_cons]
    by_cases hx : (d.late[j]).1 = i
    · have z := ih (j + 1) (d.late[j]).2 (by omega)
      have e1 : ((lastW (d.late.drop (j + 1)) i).or (if (d.late[j]).1 = i then some (d.late[j]).2 else none)).getD s = (lastW (d.late.drop (j + 1)) i).getD (d.late[j]).2 := by
        rw [if_pos hx]; cases lastW (d.late.drop (j + 1)) i <;> rfl
      rw [e1]
      refine Evt.succ 0 (fun k _ => ?_) z
      simp only [rehearsalref20_Disk_Read.l0]
      rw [if_pos (by rw [toL_len]; omega), if_pos (by omega), toL_at _ j hj]
      simp only
      rw [if_pos hx, w64 j (by omega)]
    · have z := ih (j + 1) s (by omega)
      have e1 : ((lastW (d.late.drop (j + 1)) i).or (if (d.late[j]).1 = i then some (d.late[j]).2 else none)).getD s = (lastW (d.late.drop (j + 1)) i).getD s := by
        rw [if_neg hx]; cases lastW (d.late.drop (j + 1)) i <;> rfl
      rw [e1]
      refine Evt.succ 0 (fun k _ => ?_) z
      simp only [rehearsalref20_Disk_Read.l0]
      rw [if_pos (by rw [toL_len]; omega), if_pos (by omega), toL_at _ j hj]
      simp only
      rw [if_neg hx, w64 j (by omega)]
theorem rread_ev (d : DiskS) (hd : OkD d) (i : Int) : Evt (fun k => rehearsalref20_Disk_Read.f k d.safe (toL d.late) d.fuse d.blown i) (readD d i) := by
  have n1 := hd.n1
  unfold readD
  by_cases hb : d.blown = true
  · rw [if_pos hb]
    exact ⟨0, fun k _ => by show rehearsalref20_Disk_Read.f k d.safe (toL d.late) d.fuse d.blown i = _; unfold rehearsalref20_Disk_Read.f; rw [if_pos hb]⟩
  · rw [if_neg hb]
    have hj : ∀ k, rehearsalref20_Disk_Read.f k d.safe (toL d.late) d.fuse d.blown i = rehearsalref20_Disk_Read.j0 k i (decide (¬ (0 ≤ i ∧ i < d.safe.length))) d.safe (toL d.late) d.fuse d.blown := fun k => by
      unfold rehearsalref20_Disk_Read.f
      rw [if_neg hb]
      by_cases h1 : i < 0
      · rw [if_pos h1, decide_eq_true (by omega)]
      · rw [if_neg h1]
        congr 1
        rw [decide_eq_decide]; omega
    by_cases hi : 0 ≤ i ∧ i < d.safe.length
    · rw [if_neg (fun h => h hi)]
      obtain ⟨q, rfl⟩ : ∃ q : Nat, i = q := ⟨i.toNat, by omega⟩
      have hq : q < d.safe.length := by omega
      obtain ⟨K, hK⟩ := rread_l0 d hd q d.late.length 0 (d.safe[q]) (by omega)
      refine ⟨K + 1, fun k hk => ?_⟩
      obtain ⟨k, rfl⟩ : ∃ q, k = q + 1 := ⟨k - 1, by omega⟩
      simp only [hj]
      rw [decide_eq_false (fun h => h hi)]
      simp only [rehearsalref20_Disk_Read.j0]
      rw [if_neg (by simp), if_pos (by omega), if_pos (by omega), rdS _ q hq]
      have := hK k (by omega)
      simp only [List.drop_zero] at this
      rw [show ((0 : Nat) : Int) = 0 from rfl] at this
      rw [this, Int.toNat_natCast, List.getD_eq_getElem?_getD, List.getElem?_eq_getElem hq]; rfl
    · rw [if_pos hi]
      refine ⟨1, fun k hk => ?_⟩
      obtain ⟨k, rfl⟩ : ∃ q, k = q + 1 := ⟨k - 1, by omega⟩
      simp only [hj]
      rw [decide_eq_true hi]
      simp only [rehearsalref20_Disk_Read.j0]
      first | rw [if_pos rfl] | rw [if_pos trivial]
theorem rnew_l0 (n : Nat) (hn : n ≤ 4096) : ∀ (e i : Nat), i + e = n → Evt (fun k => rehearsalref20_New.l0 k (n : Int) (i : Int) (List.replicate i ⟨#[]⟩) (-1) false) (tup (newD n) 0) := by
  intro e
  induction e with
  | zero =>
    intro i h
    obtain rfl : i = n := by omega
    refine Evt.const 0 (fun k _ => ?_)
    simp only [rehearsalref20_New.l0]
    rw [if_neg (by omega)]; rfl
  | succ e ih =>
    intro i h
    refine Evt.succ 0 (fun k _ => ?_) (ih (i + 1) (by omega))
    simp only [rehearsalref20_New.l0]
    rw [if_pos (by omega), if_pos (by simp; omega), w64 i (by omega), List.replicate_succ']
theorem rnew_ev (n : Nat) (h1 : 1 ≤ n) (h2 : n ≤ 4096) : Evt (fun k => rehearsalref20_New.f k (n : Int)) (tup (newD n) 0) := by
  obtain ⟨K, hK⟩ := rnew_l0 n h2 n 0 (by omega)
  refine ⟨K + 1, fun k hk => ?_⟩
  obtain ⟨k, rfl⟩ : ∃ q, k = q + 1 := ⟨k - 1, by omega⟩
  show rehearsalref20_New.f (k + 1) (n : Int) = _
  unfold rehearsalref20_New.f
  rw [if_neg (by omega), decide_eq_false (by omega)]
  simp only [rehearsalref20_New.j0]
  rw [if_neg (by simp)]
  exact hK k (by omega)
theorem rnew_bad (n : Int) (h : n < 1 ∨ 4096 < n) : rehearsalref20_New.f 1 n = some ([], [], 0, false, 1) := by
  unfold rehearsalref20_New.f
  by_cases h1 : n < 1
  · rw [if_pos h1]; simp only [rehearsalref20_New.j0]; first | rw [if_pos rfl] | rw [if_pos trivial]
  · rw [if_neg h1, decide_eq_true (by omega)]; simp only [rehearsalref20_New.j0]; first | rw [if_pos rfl] | rw [if_pos trivial]
end Go.Proofs.Ythmdmbgjheploaa.PB
set_option linter.unusedVariables false
set_option linter.unusedSimpArgs false
namespace Go.Proofs.Ythmdmbgjheploaa
open Go.RowKit Go.Proofs.YthmdmbgjheploaaW.PrintWords Go.Proofs.YthmdmbgjheploaaW.PrintLast
section
variable {P : Program} {md : Region.Mode} {ops : Array Oper} {Q : Exit → Act → World → Prop} {S : World → Prop} {ds : List Nat}
/-- a step of a region that draws its order; what is listed is told by the step -/
theorem takeS_ (i : Nat) {N : Option Tmp} {oi : Oper} {v : Value} {fuel : Nat} {l : Array Bool} {a : Act} {w : World} (hi : ops[i]? = some oi) (hN : oi.dst = N) (hc : takeB md ops ds l (l.setIfInBounds i true) i = true)
    (hQ : ∀ c a w, Q (.panic c) (a.put oi.dst v) w → Q (.panic c) a w) (hy : YieldsIf P ops S oi v a) (hS : S w) {a' : Act} (ha : a.put N v = a')
    (h : wpAnyLast P md ops Q S ds fuel (l.setIfInBounds i true) a' w) : wpAnyLast P md ops Q S ds (fuel + 1) l a w := take_ _ hi hN hc hQ hy hS ha h
theorem pureS_ (i : Nat) {N : Option Tmp} {oi : Oper} {v : Value} {fuel : Nat} {l : Array Bool} {a : Act} {w : World} (hi : ops[i]? = some oi) (hN : oi.dst = N) (hc : anyB md ops l (l.setIfInBounds i true) i = true)
    (hQ : ∀ c a w, Q (.panic c) (a.put oi.dst v) w → Q (.panic c) a w) (hy : Yields P ops oi v a) {a' : Act} (ha : a.put N v = a')
    (h : wpAnyLast P md ops Q S ds fuel (l.setIfInBounds i true) a' w) : wpAnyLast P md ops Q S ds (fuel + 1) l a w := pure_ _ hi hN hc hQ hy ha h
theorem oneS_ (i : Nat) {N : Option Tmp} {oi : Oper} {fuel : Nat} {l : Array Bool} {a : Act} {w : World} (hi : ops[i]? = some oi) (hN : oi.dst = N) (hc : readyB md ops l (l.setIfInBounds i true) i = true) (hd : i ∉ ds)
    (h : ∀ K : Act → World → Prop, Shut (∀ a' w', S w' → (S w' → wpAnyLast P md ops Q S ds fuel (l.setIfInBounds i true) a' w') → K a' w') → if Region.wanted oi (yielded ops a.tmps) = true then Oper.wp P oi a w K Q else K (a.put N undef) w) :
    wpAnyLast P md ops Q S ds (fuel + 1) l a w :=
  one_ (l.setIfInBounds i true) hi hN hc hd h
theorem lastS_ (i : Nat) {N : Option Tmp} {oi : Oper} {fuel : Nat} {l : Array Bool} {a : Act} {w : World} (hi : ops[i]? = some oi) (hN : oi.dst = N) (hc : readyB md ops l (l.setIfInBounds i true) i = true) (hd : i ∈ ds)
    (h : ∀ K : Act → World → Prop, Shut (∀ a' w', wpAnyLast P md ops Q S ds fuel (l.setIfInBounds i true) a' w' → K a' w') → if Region.wanted oi (yielded ops a.tmps) = true then Oper.wp P oi a w K Q else K (a.put N undef) w) :
    wpAnyLast P md ops Q S ds (fuel + 1) l a w :=
  last_ (l.setIfInBounds i true) hi hN hc hd h
end
end Go.Proofs.Ythmdmbgjheploaa
set_option linter.unusedVariables false
set_option linter.unusedSimpArgs false
namespace Go.Proofs.Ythmdmbgjheploaa.PB
open Go Go.RowKit Go.Proofs.Ythmdmbgjheploaa Go.Proofs.YthmdmbgjheploaaW.PrintWords Go.Proofs.YthmdmbgjheploaaW.PrintLast Go.Proofs.YthmdmbgjheploaaW.PrintMore
theorem cellB {w w' : World} {a : Addr} {v : Value} (h : w.cell? a = some v) (hb : Below w.heap.size w w') : w'.cell? a = some v := by
  have hlt : a.block < w.heap.size := by
    cases hh : w.heap[a.block]? with
    | some o => exact (Array.getElem?_eq_some_iff.1 hh).1
    | none => simp [World.cell?, hh] at h
  exact (World.cell?_of_block (w := w) (hb.block _ hlt)).trans h
theorem cell_far {T : Nat → Prop} {w w' : World} {a : Addr} (hf : Frm T w w') (h : a.block < w.heap.size ∧ ¬ T a.block) : w'.cell? a = w.cell? a := World.cell?_of_block (w := w) (hf.block _ h.1 h.2)
theorem frm_one {S : Nat → Prop} (w : World) (g j : Nat) (v : Value) (h : S g) : Frm S w (w.setCell ⟨g, j, none⟩ v) := (Frm.refl S w).setCell _ _ (fun _ => h)
theorem new_box {w1 w2 w3 : World} {gn : Nat} (hg : gn = w1.heap.size) (h2 : Below w1.heap.size w1 w2) (h3 : Frm (fun k => k = gn) w2 w3) : Below w1.heap.size w1 w3 :=
  h2.trans (h3.below h2.size (fun i hi e => by have e : i = gn := e; omega))
theorem box_step {w w5 w6 : World} {gn : Nat} (hg : w.heap.size ≤ gn) (h5 : Below w.heap.size w w5) (h6 : Frm (fun k => k = gn) w5 w6) : Below w.heap.size w w6 :=
  h5.trans (h6.below h5.size (fun i hi e => by have e : i = gn := e; omega))
theorem frmB {B : Nat} {S : Nat → Prop} {w w' : World} (hf : Frm S w w') (hB : B ≤ w.heap.size) (hS : ∀ k, S k → B ≤ k) : Below B w w' := hf.below hB (fun i hi e => by have := hS i e; omega)
theorem four_put {w : World} {g t : Nat} {a b c d x y z u : Value} (h : w.heap[g]? = some (.cells #[a, b, c, d] t (0, 0))) : ((((w.setCell ⟨g, 0, none⟩ x).setCell ⟨g, 1, none⟩ y).setCell ⟨g, 2, none⟩ z).setCell ⟨g, 3, none⟩ u).heap[g]? = some (.cells #[x, y, z, u] t (0, 0)) :=
  blk_put (blk_put (blk_put (blk_put h 0 x rfl) 1 y rfl) 2 z rfl) 3 u rfl
theorem four_frm (w : World) (gb : Nat) (x y z u : Value) : Frm (fun k => k = gb) w ((((w.setCell ⟨gb, 0, none⟩ x).setCell ⟨gb, 1, none⟩ y).setCell ⟨gb, 2, none⟩ z).setCell ⟨gb, 3, none⟩ u) :=
  ((((Frm.refl (fun k => k = gb) w).setCell _ _ (fun _ => rfl)).setCell _ _ (fun _ => rfl)).setCell _ _ (fun _ => rfl)).setCell _ _ (fun _ => rfl)
theorem there_of {w : World} {g t n : Nat} {cs : Array Value} (h : w.heap[g]? = some (.cells cs t (0, 0))) (hn : n ≤ cs.size) : w.there g 0 n := fun j hj => by
  rw [Nat.zero_add]
  exact ⟨by rw [blk_cell h j, Array.getElem?_eq_getElem (by omega)]; rfl, blk_frozen h j⟩
/-- a disk's box, stored whole -/
theorem store_dsk {ops : Array Oper} {rest : List Oper} {op : Oper} {a : Act} {Q : Exit → Act → World → Prop} {w1 : World} {gb : Nat} {A0 A1 : Option Addr} {n0 c0 n1 c1 : Nat} {f : Int} {bl : Bool} {o0 o1 o2 o3 : Value} (hgd : op.guard = none) (hd : op.dst = none) (x y : Operand) (ho : op.op = .store 62 x y)
    (hx : a.eval x = .pointer (some ⟨gb, 0, none⟩)) (hy : a.eval y = .agg #[.slice A0 n0 c0, .slice A1 n1 c1, .int .i64 f, .bool bl]) (hbn : w1.heap[gb]? = some (.cells #[o0, o1, o2, o3] 62 (0, 0)))
    (h : ∀ w2, w2.heap[gb]? = some (.cells #[.slice A0 n0 c0, .slice A1 n1 c1, .int .i64 f, .bool bl] 62 (0, 0)) → Frm (fun k => k = gb) w1 w2 → wpList Try.prog ops Q rest (a.put none undef) w2) : wpList Try.prog ops Q (op :: rest) a w1 := by
  refine wpList_store_mid hgd 62 x y ho gb 0 #[.slice A0 n0 c0, .slice A1 n1 c1, .int .i64 f, .bool bl] hx hy (there_of hbn (Nat.le_refl 4)) (by kernel_rfl) (by simp [Value.oneCell']) ?_
  rw [hd]
  exact h _ (four_put hbn) (four_frm _ _ _ _ _ _)
/-- the program's disk, and the blocks that are its own -/
def DX (B : Nat) (S : Nat → Prop) (w : World) (p g : Nat) (d : DiskS) : Prop := ∃ v, IsDisk w B p g v d ∧ ∀ i, DSet p g v i → S i
theorem DX.step {B : Nat} {S T : Nat → Prop} {w w' : World} {p g : Nat} {d : DiskS} (h : DX B S w p g d) (hf : Frm T w w') (hT : ∀ k, S k → ¬ T k) : DX B S w' p g d := by
  obtain ⟨v, h, hs⟩ := h
  exact ⟨v, h.frm hf (fun i hi => hT i (hs i hi)), hs⟩
theorem DX.frm {B : Nat} {S : Nat → Prop} {w w' : World} {p g : Nat} {d : DiskS} (h : DX B S w p g d) (hb : Below w.heap.size w w') : DX B S w' p g d := h.step (Frm.of_below hb : Frm (fun _ => False) w w') (fun _ _ h => h)
theorem DX.bound {B : Nat} {S : Nat → Prop} {w : World} {p g : Nat} {d : DiskS} (h : DX B S w p g d) : DX B (fun k => S k ∧ k < w.heap.size) w p g d := by
  obtain ⟨v, h, hs⟩ := h
  exact ⟨v, h, fun i hi => ⟨hs i hi, h.lt i hi⟩⟩
theorem DX.ok {B : Nat} {S : Nat → Prop} {w : World} {p g : Nat} {d : DiskS} (h : DX B S w p g d) : OkD d ∧ 0 < d.safe.length := by
  obtain ⟨v, h, _⟩ := h
  exact ⟨⟨h.n1, h.l1, h.at_, h.f0, h.f1⟩, h.n0⟩
theorem post_x {B : Nat} {S : Nat → Prop} {w w' : World} {p g : Nat} {v r : Value} {d' : DiskS} {e : Ending} (hs : ∀ i, DSet p g v i → S i) (h : DPost w B p g v r d' e w') : e = .returned r ∧ Frm S w w' ∧ DX B (fun k => S k ∨ w.heap.size ≤ k) w' p g d' := by
  obtain ⟨v', he, hd, hf, hn⟩ := h
  refine ⟨he, hf.mono (fun i _ hi => hs i hi), v', hd, fun i hi => ?_⟩
  rcases hi with hi | hi | hi
  · exact .inl (hs i (.inl hi))
  · exact .inl (hs i (.inr (.inl hi)))
  · exact (hn i hi).imp (fun h => hs i (.inr (.inr h))) (fun h => h)
theorem writeX (B : Nat) (S : Nat → Prop) (w : World) (p g : Nat) (d : DiskS) (i : Int) (s : ByteArray) (h : DX B S w p g d) (hs : s.size ≤ 140737488351232) (hl : d.late.length < 1000000) :
    Calls Try.prog 26 #[.pointer (some ⟨p, 0, none⟩), .int .i64 i, .string s] w fun e w' => e = .returned (.int .i64 (wrD d i s).2) ∧ Frm S w w' ∧ DX B (fun k => S k ∨ w.heap.size ≤ k) w' p g (wrD d i s).1 := by
  obtain ⟨v, h, hS⟩ := h
  exact (write_any w B p g v d i s h hs hl).mono (fun e w' hp => post_x hS hp)
theorem syncX (B : Nat) (S : Nat → Prop) (w : World) (p g : Nat) (d : DiskS) (h : DX B S w p g d) :
    Calls Try.prog 25 #[.pointer (some ⟨p, 0, none⟩)] w fun e w' => e = .returned (.int .i64 (syncD d).2) ∧ Frm S w w' ∧ DX B (fun k => S k ∨ w.heap.size ≤ k) w' p g (syncD d).1 := by
  obtain ⟨v, h, hS⟩ := h
  exact (sync_any w B p g v d h).mono (fun e w' hp => post_x hS hp)
theorem crashX (B : Nat) (S : Nat → Prop) (w : World) (p g : Nat) (d : DiskS) (m : Nat) (hm : m < 18446744073709551616) (h : DX B S w p g d) :
    Calls Try.prog 29 #[.pointer (some ⟨p, 0, none⟩), .int .u64 m] w fun e w' => e = .returned (.tuple #[]) ∧ Frm S w w' ∧ DX B (fun k => S k ∨ w.heap.size ≤ k) w' p g (crashD d m) := by
  obtain ⟨v, h, hS⟩ := h
  exact (crash_any w B p g v d m hm h).mono (fun e w' hp => post_x hS hp)
theorem fuseX (B : Nat) (S : Nat → Prop) (w : World) (p g : Nat) (d : DiskS) (n : Int) (h : DX B S w p g d) (hn : -9223372036854775808 ≤ n ∧ n ≤ 9223372036854775807) :
    Calls Try.prog 30 #[.pointer (some ⟨p, 0, none⟩), .int .i64 n] w fun e w' => e = .returned (.tuple #[]) ∧ Frm S w w' ∧ DX B (fun k => S k ∨ w.heap.size ≤ k) w' p g { d with fuse := n } := by
  obtain ⟨v, h, hS⟩ := h
  refine (fuse_any w B p g v d n h hn.1 hn.2).mono ?_
  rintro e w' ⟨he, hd, hf⟩
  exact ⟨he, hf.mono (fun i _ e => hS i (.inl e)), v, hd, fun i hi => .inl (hS i hi)⟩
theorem readX (B : Nat) (S : Nat → Prop) (w : World) (p g : Nat) (d : DiskS) (i : Int) (h : DX B S w p g d) :
    Calls Try.prog 27 #[.pointer (some ⟨p, 0, none⟩), .int .i64 i] w fun e w' => e = .returned (.tuple #[.string (readD d i).1, .int .i64 (readD d i).2]) ∧ Below w.heap.size w w' := by
  obtain ⟨v, h, hS⟩ := h
  exact read_any w B p g v d i h
/-- the reference's disk in a box gn: what it reads lies apart from the program's, from gr and from gn -/
structure RQ (P S : Nat → Prop) (w : World) (gr gn : Nat) (d : DiskS) (v0 v1 : Value) : Prop where
  b : w.heap[gn]? = some (.cells #[v0, v1, .int .i64 d.fuse, .bool d.blown] 62 (0, 0))
  v : Kd.V Kd.string 9 w 0 P v0 d.safe
  a : Kd.V k87 87 w 0 P v1 (toL d.late)
  p : ∀ k, P k → k < w.heap.size ∧ ¬ S k ∧ k ≠ gr ∧ k ≠ gn
structure Inv (B : Nat) (S : Nat → Prop) (w : World) (p g gr : Nat) (d : DiskS) : Prop where
  t : DX B S w p g d
  s : ∀ k, S k → B ≤ k ∧ k < w.heap.size
  r : ∃ P v0 v1, RQ P S w gr gr d v0 v1
  g : ¬ S gr
  B0 : B ≤ w.heap.size
  B1 : B ≤ gr
theorem RQ.frm {P S T : Nat → Prop} {w w' : World} {gr gn : Nat} {d : DiskS} {v0 v1 : Value} (h : RQ P S w gr gn d v0 v1) (hf : Frm T w w') (hT : ∀ k, P k → ¬ T k) (hgn : ¬ T gn) : RQ P S w' gr gn d v0 v1 :=
  ⟨(hf.block gn (blk_lt h.b) hgn).trans h.b, Kd.V_step h.v (fun k hk hlt => hf.block k hlt (hT k hk)), Kd.V_step h.a (fun k hk hlt => hf.block k hlt (hT k hk)), fun k hk => ⟨Nat.lt_of_lt_of_le (h.p k hk).1 hf.size, (h.p k hk).2⟩⟩
theorem RQ.below {P S : Nat → Prop} {w w' : World} {gr gn : Nat} {d : DiskS} {v0 v1 : Value} (h : RQ P S w gr gn d v0 v1) (hb : Below w.heap.size w w') : RQ P S w' gr gn d v0 v1 :=
  ⟨blk_below h.b hb, Kd.V_below h.v hb, Kd.V_below h.a hb, fun k hk => ⟨Nat.lt_of_lt_of_le (h.p k hk).1 hb.size, (h.p k hk).2⟩⟩
theorem Inv.below {B : Nat} {S : Nat → Prop} {w w' : World} {p g gr : Nat} {d : DiskS} (h : Inv B S w p g gr d) (hb : Below w.heap.size w w') : Inv B S w' p g gr d := by
  obtain ⟨P, v0, v1, hr⟩ := h.r
  exact ⟨h.t.frm hb, fun k hk => ⟨(h.s k hk).1, Nat.lt_of_lt_of_le (h.s k hk).2 hb.size⟩, ⟨P, v0, v1, hr.below hb⟩, h.g, Nat.le_trans h.B0 hb.size, h.B1⟩
theorem does_end {B : Nat} {S P : Nat → Prop} {w w6 w7 w8 : World} {p g gr gn : Nat} {d d' : DiskS} {v0 v1 : Value} (hi : Inv B S w p g gr d) (h6 : Below w.heap.size w w6) (hq : RQ P S w6 gr gn d' v0 v1) (hgn : w.heap.size ≤ gn) (hf : Frm S w6 w7) (ht : DX B (fun k => S k ∨ w6.heap.size ≤ k) w7 p g d')
    (hb : w8.heap[gr]? = some (.cells #[v0, v1, .int .i64 d'.fuse, .bool d'.blown] 62 (0, 0))) (hf8 : Frm (fun k => k = gr) w7 w8) : Below B w w8 ∧ ∃ S', Inv B S' w8 p g gr d' := by
  obtain ⟨P0, u0, u1, hr⟩ := hi.r
  have hgr : gr < w.heap.size := blk_lt hr.b
  have s67 := hf.size
  have s78 := hf8.size
  have s06 := h6.size
  have B0 := hi.B0
  have hq7 : RQ P S w7 gr gn d' v0 v1 := hq.frm hf (fun k hk => (hq.p k hk).2.1) (fun h => by have := (hi.s gn h).2; omega)
  have hb68 : Below B w w7 := (h6.mono hi.B0).trans (frmB hf (Nat.le_trans hi.B0 s06) (fun k hk => (hi.s k hk).1))
  refine ⟨hb68.trans (frmB hf8 (Nat.le_trans hi.B0 (Nat.le_trans s06 s67)) (fun k hk => by have hk : k = gr := hk; subst hk; exact hi.B1)), fun k => (S k ∨ w6.heap.size ≤ k) ∧ k < w8.heap.size, ?_⟩
  have hnS : ¬ (S gr ∨ w6.heap.size ≤ gr) := fun h => h.elim hi.g (fun h => by omega)
  have ht8 : DX B (fun k => S k ∨ w6.heap.size ≤ k) w8 p g d' := ht.step hf8 (fun k hk e => hnS (by have e : k = gr := e; subst e; exact hk))
  refine ⟨ht8.bound, fun k hk => ⟨hk.1.elim (fun h => (hi.s k h).1) (fun h => Nat.le_trans (Nat.le_trans hi.B0 s06) h), hk.2⟩, ⟨P, v0, v1, hb, Kd.V_step hq7.v (fun k hk hlt => hf8.block k hlt (hq.p k hk).2.2.1), Kd.V_step hq7.a (fun k hk hlt => hf8.block k hlt (hq.p k hk).2.2.1), fun k hk => ?_⟩, fun h => hnS h.1, by omega, hi.B1⟩
  have hk6 := hq.p k hk
  exact ⟨by omega, fun h => h.1.elim hk6.2.1 (fun h => by omega), hk6.2.2.1, hk6.2.2.1⟩
/-- a new box with what a call of the reference has given -/
theorem rq_new {S P P' : Nat → Prop} {w w4 w5 w6 : World} {gr gn : Nat} {d' : DiskS} {v0 v1 : Value} {b0 b1 : Nat} (hs : ∀ k, S k → k < w.heap.size) (hgr : gr < w.heap.size) (hp : ∀ k, P k → k < w.heap.size ∧ ¬ S k ∧ k ≠ gr) (hgn : w.heap.size ≤ gn) (hgn4 : gn < w4.heap.size ∨ w5.heap.size ≤ gn) (h4 : w.heap.size ≤ w4.heap.size)
    (hP : ∀ k, P' k → P k ∨ w4.heap.size ≤ k) (hv : Kd.V Kd.string 9 w5 b0 P' v0 d'.safe) (ha : Kd.V k87 87 w5 b1 P' v1 (toL d'.late)) (hb : w6.heap[gn]? = some (.cells #[v0, v1, .int .i64 d'.fuse, .bool d'.blown] 62 (0, 0))) (hf : Frm (fun k => k = gn) w5 w6) (h45 : w4.heap.size ≤ w5.heap.size) : ∃ P2, RQ P2 S w6 gr gn d' v0 v1 := by
  have hne : ∀ k, P' k ∧ k < w5.heap.size → k ≠ gn := fun k hk e => by
    rcases hP k hk.1 with h | h
    · have := (hp k h).1; omega
    · omega
  have s56 := hf.size
  refine ⟨fun k => P' k ∧ k < w5.heap.size, hb, Kd.V_step (Kd.V_bound hv) (fun k hk hlt => hf.block k hlt (hne k hk)), Kd.V_step (Kd.V_bound ha) (fun k hk hlt => hf.block k hlt (hne k hk)), fun k hk => ?_⟩
  refine ⟨by omega, ?_, ?_, hne k hk⟩
  · intro h
    rcases hP k hk.1 with h' | h'
    · exact (hp k h').2.1 h
    · have := hs k h; omega
  · intro e
    rcases hP k hk.1 with h' | h'
    · exact (hp k h').2.2 e
    · omega
theorem R_V2 {α : Type} {d : Kd α} {e base b2 : Nat} {ok : Nat → Prop} {w : World} {v : Value} {xs : List α} (h : d.R e w base ok v xs) : Kd.V d e w b2 (fun k => base ≤ k) v xs := Kd.V_mono (Kd.R_V (Kd.R_bound h)) (fun k hk => hk.2.1)
set_option maxHeartbeats 4000000 in
set_option maxRecDepth 100000 in
theorem does_write (B : Nat) (S : Nat → Prop) (w : World) (p g gr : Nat) (d : DiskS) (at_ : Int) (dt : ByteArray) (mk : Int) (hi : Inv B S w p g gr d) (hds : dt.size ≤ 140737488351232) (hlt : d.late.length < 1000000) :
    Calls Try.prog 34 #[.pointer (some ⟨p, 0, none⟩), .pointer (some ⟨gr, 0, none⟩), .agg #[.int .i64 0, .int .i64 at_, .string dt, .int .u64 mk]] w fun e w' => e = .returned (.bool true) ∧ Below B w w' ∧ ∃ S', Inv B S' w' p g gr ((wrD d at_ dt).1) := by
  have huD := Try.underlying62
  have huA := Try.underlying39
  have hok := hi.t.ok
  obtain ⟨kf, hkf⟩ := rwrite_ev d hok.1 hlt at_ dt
  have hkf2 := hkf kf (Nat.le_refl _)
  obtain ⟨⟨d2, E⟩, hwr⟩ : ∃ r, wrD d at_ dt = r := ⟨_, rfl⟩
  simp only [hwr] at hkf2 ⊢
  have HE := Lib.hid hwr
  have KF := Lib.hid hkf2
  have HDS := Lib.hid hds
  have HLT := Lib.hid hlt
  clear hkf hkf2 hwr hds hlt
  obtain ⟨P, v0, v1, hr⟩ := hi.r
  obtain ⟨A0, c0, rfl⟩ := Kd.V_slice hr.v
  obtain ⟨A1, c1, rfl⟩ := Kd.V_slice hr.a
  have HI := Lib.hid hi
  have HR := Lib.hid hr
  have r0 : w.cell? ⟨gr, 0, none⟩ = some (.slice A0 d.safe.length c0) := (blk_cell hr.b 0).trans rfl
  have r1 : w.cell? ⟨gr, 1, none⟩ = some (.slice A1 (toL d.late).length c1) := (blk_cell hr.b 1).trans rfl
  have r2 : w.cell? ⟨gr, 2, none⟩ = some (.int .i64 d.fuse) := (blk_cell hr.b 2).trans rfl
  have r3 : w.cell? ⟨gr, 3, none⟩ = some (.bool d.blown) := (blk_cell hr.b 3).trans rfl
  clear hr hi hok
  go_enter Try.func34, Try.ntmps34
  go_upto_region 7 with (first | ((with_reducible refine gate_dst (N := 5) rfl ?_); refine box_event ?hg (N := 5) ?hd (cs := #[.int .i64 0, .int .i64 at_, .string dt, .int .u64 mk]) (t := 39) ?hr ?_; (case hd => rfl); (case hg => rfl); (case hr => first | (go_simp; done) | (go_simp; rfl)); intro ga hg w1 hbox hb; have GA := Lib.hid hg; have BA := Lib.hid hbox; have HW := Lib.hid hb; have x0 : w1.cell? ⟨ga, 0, none⟩ = some (.int .i64 0) := (blk_cell hbox 0).trans rfl; have x1 : w1.cell? ⟨ga, 1, none⟩ = some (.int .i64 at_) := (blk_cell hbox 1).trans rfl; have x2 : w1.cell? ⟨ga, 2, none⟩ = some (.string dt) := (blk_cell hbox 2).trans rfl; have x3 : w1.cell? ⟨ga, 3, none⟩ = some (.int .u64 mk) := (blk_cell hbox 3).trans rfl; replace r0 := cellB r0 hb; replace r1 := cellB r1 hb; replace r2 := cellB r2 hb; replace r3 := cellB r3 hb; clear hg hbox hb) | ((with_reducible refine gate_dst (N := 9) rfl ?_); refine box_event ?hg (N := 9) ?hd (cs := #[.slice none 0 0, .slice none 0 0, .int .i64 0, .bool false]) (t := 62) ?hr ?_; (case hd => rfl); (case hg => rfl); (case hr => first | (go_simp; done) | (go_simp; rfl)); intro gn hg w2 hbox hb; have BN := Lib.hid hbox; have GN := Lib.hid hg; have HW2 := Lib.hid hb; clear hg hbox hb) | (refine store_dsk rfl rfl (.tmp 9) (.tmp 16) rfl (A0 := A0) (n0 := d.safe.length) (c0 := c0) (A1 := A1) (n1 := (toL d.late).length) (c1 := c1) (f := d.fuse) (bl := d.blown) rfl rfl BN.out ?_; intro w3 hb3 hw3; replace BN := Lib.hid hb3; have HW3 := Lib.hid (new_box GN.out HW2.out hw3); replace x0 := cellB x0 HW3.out; replace x1 := cellB x1 HW3.out; replace x2 := cellB x2 HW3.out; replace x3 := cellB x3 HW3.out; replace r0 := cellB r0 HW3.out; replace r1 := cellB r1 HW3.out; replace r2 := cellB r2 HW3.out; replace r3 := cellB r3 HW3.out; clear hb3 hw3 HW2))
  have HGN : Hid (w.heap.size ≤ gn) := Lib.hid (by have := HW.out.size; have := GN.out; omega)
  have HGA : Hid (ga < gn) := Lib.hid (by have := blk_lt BA.out; have := GN.out; omega)
  refine start_ (n := 13) (S := (fun w' => w'.cell? ⟨gr, 0, none⟩ = some (.slice A0 d.safe.length c0) ∧ w'.cell? ⟨gr, 1, none⟩ = some (.slice A1 (toL d.late).length c1) ∧ w'.cell? ⟨gr, 2, none⟩ = some (.int .i64 d.fuse) ∧ w'.cell? ⟨gr, 3, none⟩ = some (.bool d.blown) ∧ w'.cell? ⟨ga, 1, none⟩ = some (.int .i64 at_) ∧ w'.cell? ⟨ga, 2, none⟩ = some (.string dt))) (ds := [11]) #[false, false, false, false, false, false, false, false, false, false, false, false, false] (by kernel_rfl) rfl rfl ⟨r0, r1, r2, r3, x1, x2⟩ (fun hHeld => ?_)
  have HBD : Hid (Below w3.heap.size w3 (World.drew w3)) := Lib.hid ((Below.refl _ w3).drew)
  clear r0 r1 r2 r3
  generalize World.drew _ = wd at HBD hHeld ⊢
  iterate 5 (first | ((first | refine takeS_ 0 (N := some 32) (v := ?_) (a' := ?_) rfl rfl (by decide +kernel) (fun _ _ _ h => h) (Or.inl ⟨by rfl, ?_⟩) hHeld ?_ ?_ | refine takeS_ 1 (N := some 33) (v := ?_) (a' := ?_) rfl rfl (by decide +kernel) (fun _ _ _ h => h) (Or.inl ⟨by rfl, ?_⟩) hHeld ?_ ?_ | refine takeS_ 2 (N := some 34) (v := ?_) (a' := ?_) rfl rfl (by decide +kernel) (fun _ _ _ h => h) (Or.inl ⟨by rfl, ?_⟩) hHeld ?_ ?_ | refine takeS_ 3 (N := some 35) (v := ?_) (a' := ?_) rfl rfl (by decide +kernel) (fun _ _ _ h => h) (Or.inl ⟨by rfl, ?_⟩) hHeld ?_ ?_ | refine takeS_ 4 (N := some 36) (v := ?_) (a' := ?_) rfl rfl (by decide +kernel) (fun _ _ _ h => h) (Or.inl ⟨by rfl, ?_⟩) hHeld ?_ ?_); rotate_left; (rintro w' ⟨r0, r1, r2, r3, x1, x2⟩; go_simp; first | done | (with_reducible rfl) | rfl); rotate_left; (simp only [Act.put, List.setIfInBounds_toArray, List.set_cons_zero, List.set_cons_succ, i64_w, i32_w]; rfl)) | ((first | refine takeS_ 0 (N := some 32) (v := undef) (a' := ?_) rfl rfl (by decide +kernel) (fun _ _ _ h => h) (Or.inr ⟨by rfl, rfl⟩) hHeld ?_ ?_ | refine takeS_ 1 (N := some 33) (v := undef) (a' := ?_) rfl rfl (by decide +kernel) (fun _ _ _ h => h) (Or.inr ⟨by rfl, rfl⟩) hHeld ?_ ?_ | refine takeS_ 2 (N := some 34) (v := undef) (a' := ?_) rfl rfl (by decide +kernel) (fun _ _ _ h => h) (Or.inr ⟨by rfl, rfl⟩) hHeld ?_ ?_ | refine takeS_ 3 (N := some 35) (v := undef) (a' := ?_) rfl rfl (by decide +kernel) (fun _ _ _ h => h) (Or.inr ⟨by rfl, rfl⟩) hHeld ?_ ?_ | refine takeS_ 4 (N := some 36) (v := undef) (a' := ?_) rfl rfl (by decide +kernel) (fun _ _ _ h => h) (Or.inr ⟨by rfl, rfl⟩) hHeld ?_ ?_); rotate_left; (simp only [Act.put, List.setIfInBounds_toArray, List.set_cons_zero, List.set_cons_succ, i64_w, i32_w]; rfl)))
  iterate 2 (first | ((first | refine takeS_ 5 (N := some 37) (v := ?_) (a' := ?_) rfl rfl (by decide +kernel) (fun _ _ _ h => h) (Or.inl ⟨by rfl, ?_⟩) hHeld ?_ ?_ | refine takeS_ 6 (N := some 38) (v := ?_) (a' := ?_) rfl rfl (by decide +kernel) (fun _ _ _ h => h) (Or.inl ⟨by rfl, ?_⟩) hHeld ?_ ?_); rotate_left; (rintro w' ⟨r0, r1, r2, r3, x1, x2⟩; go_simp; first | done | (with_reducible rfl) | rfl); rotate_left; (simp only [Act.put, List.setIfInBounds_toArray, List.set_cons_zero, List.set_cons_succ, i64_w, i32_w]; rfl)) | ((first | refine takeS_ 5 (N := some 37) (v := undef) (a' := ?_) rfl rfl (by decide +kernel) (fun _ _ _ h => h) (Or.inr ⟨by rfl, rfl⟩) hHeld ?_ ?_ | refine takeS_ 6 (N := some 38) (v := undef) (a' := ?_) rfl rfl (by decide +kernel) (fun _ _ _ h => h) (Or.inr ⟨by rfl, rfl⟩) hHeld ?_ ?_); rotate_left; (simp only [Act.put, List.setIfInBounds_toArray, List.set_cons_zero, List.set_cons_succ, i64_w, i32_w]; rfl)))
  refine oneS_ 7 (N := some 39) rfl rfl (by kernel_rfl) (by decide) (fun K hK => ?_)
  refine goes_ Try.func43 (by kernel_rfl) rfl #[.agg #[.slice A0 d.safe.length c0, .slice A1 (toL d.late).length c1, .int .i64 d.fuse, .bool d.blown], .int .i64 at_, .string dt] (by rfl) rfl rfl (by first | rfl | (simp [Act.eval]; done) | (simp [Act.eval, Act.put]; done)) ?_
  have HWD := Lib.hid (below_step (below_step HW.out HW3.out) HBD.out)
  have HRD := Lib.hid (HR.out.below HWD.out)
  refine (rehearsalref20_Disk_Write.calls kf P A0 c0 d.safe P A1 c1 (toL d.late) d.fuse d.blown at_ dt d2.safe (toL d2.late) d2.fuse d2.blown E wd HRD.out.v HRD.out.a KF.out).mono ?_
  rintro e w5 ⟨v0, v1, rfl, hv0, hv1, hb⟩
  obtain ⟨A2, c2, rfl⟩ := Kd.V_slice hv0
  obtain ⟨A3, c3, rfl⟩ := Kd.V_slice hv1
  refine ⟨_, rfl, ?_⟩
  refine hK.out _ _ ⟨cellB hHeld.1 hb, cellB hHeld.2.1 hb, cellB hHeld.2.2.1 hb, cellB hHeld.2.2.2.1 hb, cellB hHeld.2.2.2.2.1 hb, cellB hHeld.2.2.2.2.2 hb⟩ (fun hHeld => ?_)
  clear hK K
  have HN5 := Lib.hid (blk_below (blk_below BN.out HBD.out) hb)
  have HW5 := Lib.hid (below_step HWD.out hb)
  have X0 := Lib.hid hv0
  have X1 := Lib.hid hv1
  have HSZ := Lib.hid hb.size
  have HZ := Lib.hid (below_step HBD.out hb)
  have HNA1 : Hid (ga < w5.heap.size ∧ ¬ ga = gn) := Lib.hid ⟨Nat.lt_of_lt_of_le (blk_lt (blk_below BA.out HW3.out)) HZ.out.size, fun e => by have := HGA.out; omega⟩
  clear hv0 hv1 hb
  refine norm_ (a' := ?_) ?_ ?_
  rotate_left
  · show Act.put _ (some 39) _ = _
    simp only [Act.put, List.setIfInBounds_toArray, List.set_cons_zero, List.set_cons_succ, i64_w, i32_w]
    rfl
  iterate 2 (first | ((first | refine takeS_ 8 (N := some 31) (v := ?_) (a' := ?_) rfl rfl (by decide +kernel) (fun _ _ _ h => h) (Or.inl ⟨by rfl, ?_⟩) hHeld ?_ ?_ | refine takeS_ 9 (N := some 40) (v := ?_) (a' := ?_) rfl rfl (by decide +kernel) (fun _ _ _ h => h) (Or.inl ⟨by rfl, ?_⟩) hHeld ?_ ?_); rotate_left; (rintro w' _; go_simp; first | done | (with_reducible rfl) | rfl); rotate_left; (simp only [Act.put, List.setIfInBounds_toArray, List.set_cons_zero, List.set_cons_succ, i64_w, i32_w]; rfl)) | ((first | refine takeS_ 8 (N := some 31) (v := undef) (a' := ?_) rfl rfl (by decide +kernel) (fun _ _ _ h => h) (Or.inr ⟨by rfl, rfl⟩) hHeld ?_ ?_ | refine takeS_ 9 (N := some 40) (v := undef) (a' := ?_) rfl rfl (by decide +kernel) (fun _ _ _ h => h) (Or.inr ⟨by rfl, rfl⟩) hHeld ?_ ?_); rotate_left; (simp only [Act.put, List.setIfInBounds_toArray, List.set_cons_zero, List.set_cons_succ, i64_w, i32_w]; rfl)))
  iterate 1 (first | ((first | refine pureS_ 10 (N := some 41) (v := ?_) (a' := ?_) rfl rfl (by decide +kernel) (fun _ _ _ h => h) (Or.inl ⟨by rfl, ?_⟩) ?_ ?_); rotate_left; (intro w'; go_simp; first | done | (with_reducible rfl) | rfl); rotate_left; (simp only [Act.put, List.setIfInBounds_toArray, List.set_cons_zero, List.set_cons_succ, i64_w, i32_w]; rfl)) | ((first | refine pureS_ 10 (N := some 41) (v := undef) (a' := ?_) rfl rfl (by decide +kernel) (fun _ _ _ h => h) (Or.inr ⟨by rfl, rfl⟩) ?_ ?_); rotate_left; (simp only [Act.put, List.setIfInBounds_toArray, List.set_cons_zero, List.set_cons_succ, i64_w, i32_w]; rfl)))
  have y0 : w5.cell? ⟨gn, 0, none⟩ = some (.slice A0 d.safe.length c0) := (blk_cell HN5.out 0).trans rfl
  have y1 : w5.cell? ⟨gn, 1, none⟩ = some (.slice A1 (toL d.late).length c1) := (blk_cell HN5.out 1).trans rfl
  have y2 : w5.cell? ⟨gn, 2, none⟩ = some (.int .i64 d.fuse) := (blk_cell HN5.out 2).trans rfl
  have y3 : w5.cell? ⟨gn, 3, none⟩ = some (.bool d.blown) := (blk_cell HN5.out 3).trans rfl
  have f0 := blk_frozen HN5.out 0
  have f1 := blk_frozen HN5.out 1
  have f2 := blk_frozen HN5.out 2
  have f3 := blk_frozen HN5.out 3
  clear hHeld
  refine lastS_ 11 (N := none) rfl rfl (by kernel_rfl) (by decide) (fun K hK => ?_)
  refine skip_ (w1 := ?_) (by rfl) rfl ?_ ?_
  rotate_left
  · go_simp
    rfl
  refine hK.out _ _ ?_
  clear hK K
  iterate 1 (first | ((first | refine pureS_ 12 (N := some 7) (v := ?_) (a' := ?_) rfl rfl (by decide +kernel) (fun _ _ _ h => h) (Or.inl ⟨by rfl, ?_⟩) ?_ ?_); rotate_left; (intro w'; go_simp; first | done | (with_reducible rfl) | rfl); rotate_left; (simp only [Act.put, List.setIfInBounds_toArray, List.set_cons_zero, List.set_cons_succ, i64_w, i32_w]; rfl)) | ((first | refine pureS_ 12 (N := some 7) (v := undef) (a' := ?_) rfl rfl (by decide +kernel) (fun _ _ _ h => h) (Or.inr ⟨by rfl, rfl⟩) ?_ ?_); rotate_left; (simp only [Act.put, List.setIfInBounds_toArray, List.set_cons_zero, List.set_cons_succ, i64_w, i32_w]; rfl)))
  refine done_ (by kernel_rfl) ?_
  clear y0 y1 y2 y3 f0 f1 f2 f3
  have BN6 := Lib.hid (four_put (x := .slice A2 d2.safe.length c2) (y := .slice A3 (toL d2.late).length c3) (z := .int .i64 d2.fuse) (u := .bool d2.blown) HN5.out)
  have HF6 := Lib.hid (four_frm w5 gn (.slice A2 d2.safe.length c2) (.slice A3 (toL d2.late).length c3) (.int .i64 d2.fuse) (.bool d2.blown))
  generalize ((((w5.setCell ⟨gn, 0, none⟩ (.slice A2 d2.safe.length c2)).setCell ⟨gn, 1, none⟩ (.slice A3 (toL d2.late).length c3)).setCell ⟨gn, 2, none⟩ (.int .i64 d2.fuse)).setCell ⟨gn, 3, none⟩ (.bool d2.blown)) = w6 at BN6 HF6 ⊢
  have HW6 := Lib.hid (box_step HGN.out HW5.out HF6.out)
  obtain ⟨P2, hq⟩ := rq_new (P := P) (d' := d2) (fun k hk => (HI.out.s k hk).2) (blk_lt HR.out.b) (fun k hk => ⟨(HR.out.p k hk).1, (HR.out.p k hk).2.1, (HR.out.p k hk).2.2.1⟩) HGN.out (.inl (Nat.lt_of_lt_of_le (blk_lt BN.out) HBD.out.size)) HWD.out.size (fun k hk => hk.elim (fun h => .inl (h.elim id id)) .inr) X0.out X1.out BN6.out HF6.out HSZ.out
  have HQ := Lib.hid hq
  have HNA := HNA1.out
  have z1 : w6.cell? ⟨ga, 1, none⟩ = some (.int .i64 at_) := (cell_far HF6.out HNA).trans (cellB x1 HZ.out)
  have z2 : w6.cell? ⟨ga, 2, none⟩ = some (.string dt) := (cell_far HF6.out HNA).trans (cellB x2 HZ.out)
  clear hq X0 X1 HSZ HN5 HW5 HWD HRD HNA
  go_wp2_with (first | (go_at_call 26; (with_reducible refine (writeX B S w6 p g d at_ dt (HI.out.t.frm HW6.out) HDS.out HLT.out).mono ?_); rw [HE.out]; rintro e w7 ⟨rfl, hf, ht⟩; have HF7 := Lib.hid hf; have HT7 := Lib.hid ht; have HQ7 := Lib.hid (HQ.out.frm hf (fun k hk => (HQ.out.p k hk).2.1) (fun h => Nat.lt_irrefl _ (Nat.lt_of_lt_of_le (HI.out.s gn h).2 HGN.out))); have HR7 := Lib.hid ((HR.out.below HW6.out).frm hf (fun k hk => (HR.out.p k hk).2.1) HI.out.g); have y0 := blk_cell HQ7.out.b 0; have y1 := blk_cell HQ7.out.b 1; have y2 := blk_cell HQ7.out.b 2; have y3 := blk_cell HQ7.out.b 3; clear hf ht) | (refine store_dsk rfl rfl (.tmp 96) (.tmp 95) rfl (A0 := A2) (c0 := c2) (A1 := A3) (c1 := c3) rfl rfl HR7.out.b ?_; intro w8 hb8 hw8; have HB8 := Lib.hid hb8; have HF8 := Lib.hid hw8; clear hb8 hw8))
  go_ret
  exact ⟨by first | rfl | simp, does_end HI.out HW6.out HQ.out HGN.out HF7.out HT7.out HB8.out HF8.out⟩
set_option maxHeartbeats 4000000 in
set_option maxRecDepth 100000 in
theorem does_crash (B : Nat) (S : Nat → Prop) (w : World) (p g gr : Nat) (d : DiskS) (at_ : Int) (dt : ByteArray) (mk : Int) (hi : Inv B S w p g gr d) (m : Nat) (hm : m < 18446744073709551616) (hmk : mk = (m : Int)) (kd : Int) (k0 : kd ≠ 0) (k1 : kd ≠ 1) (k2 : kd ≠ 2) (k3 : kd ≠ 3) :
    Calls Try.prog 34 #[.pointer (some ⟨p, 0, none⟩), .pointer (some ⟨gr, 0, none⟩), .agg #[.int .i64 kd, .int .i64 at_, .string dt, .int .u64 mk]] w fun e w' => e = .returned (.bool true) ∧ Below B w w' ∧ ∃ S', Inv B S' w' p g gr (crashD d m) := by
  have huD := Try.underlying62
  have huA := Try.underlying39
  have hok := hi.t.ok
  have b0 : (kd == 0) = false := beq_eq_false_iff_ne.2 k0
  have b1 : (kd == 1) = false := beq_eq_false_iff_ne.2 k1
  have b2 : (kd == 2) = false := beq_eq_false_iff_ne.2 k2
  have b3 : (kd == 3) = false := beq_eq_false_iff_ne.2 k3
  replace k0 := eq_false k0
  replace k1 := eq_false k1
  replace k2 := eq_false k2
  replace k3 := eq_false k3
  obtain ⟨kf, hkf⟩ := rcrash_ev d hok.1 m hm
  have hkf2 := hkf kf (Nat.le_refl _)
  obtain ⟨d2, hwr⟩ : ∃ r, crashD d m = r := ⟨_, rfl⟩
  simp only [hwr] at hkf2 ⊢
  subst hmk
  have HE := Lib.hid hwr
  have KF := Lib.hid hkf2
  have HM := Lib.hid hm
  clear hkf hkf2 hwr hm
  obtain ⟨P, v0, v1, hr⟩ := hi.r
  obtain ⟨A0, c0, rfl⟩ := Kd.V_slice hr.v
  obtain ⟨A1, c1, rfl⟩ := Kd.V_slice hr.a
  have HI := Lib.hid hi
  have HR := Lib.hid hr
  have r0 : w.cell? ⟨gr, 0, none⟩ = some (.slice A0 d.safe.length c0) := (blk_cell hr.b 0).trans rfl
  have r1 : w.cell? ⟨gr, 1, none⟩ = some (.slice A1 (toL d.late).length c1) := (blk_cell hr.b 1).trans rfl
  have r2 : w.cell? ⟨gr, 2, none⟩ = some (.int .i64 d.fuse) := (blk_cell hr.b 2).trans rfl
  have r3 : w.cell? ⟨gr, 3, none⟩ = some (.bool d.blown) := (blk_cell hr.b 3).trans rfl
  clear hr hi hok
  go_enter Try.func34, Try.ntmps34
  go_upto_region 4 with (first | ((with_reducible refine gate_dst (N := 5) rfl ?_); refine box_event ?hg (N := 5) ?hd (cs := #[.int .i64 kd, .int .i64 at_, .string dt, .int .u64 (m : Int)]) (t := 39) ?hr ?_; (case hd => rfl); (case hg => rfl); (case hr => first | (go_simp; done) | (go_simp; rfl)); intro ga hg w1 hbox hb; have GA := Lib.hid hg; have BA := Lib.hid hbox; have HW := Lib.hid hb; have x0 : w1.cell? ⟨ga, 0, none⟩ = some (.int .i64 kd) := (blk_cell hbox 0).trans rfl; have x1 : w1.cell? ⟨ga, 1, none⟩ = some (.int .i64 at_) := (blk_cell hbox 1).trans rfl; have x2 : w1.cell? ⟨ga, 2, none⟩ = some (.string dt) := (blk_cell hbox 2).trans rfl; have x3 : w1.cell? ⟨ga, 3, none⟩ = some (.int .u64 (m : Int)) := (blk_cell hbox 3).trans rfl; replace r0 := cellB r0 hb; replace r1 := cellB r1 hb; replace r2 := cellB r2 hb; replace r3 := cellB r3 hb; clear hg hbox hb) | ((with_reducible refine gate_dst (N := 9) rfl ?_); refine box_event ?hg (N := 9) ?hd (cs := #[.slice none 0 0, .slice none 0 0, .int .i64 0, .bool false]) (t := 62) ?hr ?_; (case hd => rfl); (case hg => rfl); (case hr => first | (go_simp; done) | (go_simp; rfl)); intro gn hg w2 hbox hb; have BN := Lib.hid hbox; have GN := Lib.hid hg; have HW2 := Lib.hid hb; clear hg hbox hb) | (refine store_dsk rfl rfl (.tmp 9) (.tmp 16) rfl (A0 := A0) (n0 := d.safe.length) (c0 := c0) (A1 := A1) (n1 := (toL d.late).length) (c1 := c1) (f := d.fuse) (bl := d.blown) rfl rfl BN.out ?_; intro w3 hb3 hw3; replace BN := Lib.hid hb3; have HW3 := Lib.hid (new_box GN.out HW2.out hw3); replace x0 := cellB x0 HW3.out; replace x1 := cellB x1 HW3.out; replace x2 := cellB x2 HW3.out; replace x3 := cellB x3 HW3.out; replace r0 := cellB r0 HW3.out; replace r1 := cellB r1 HW3.out; replace r2 := cellB r2 HW3.out; replace r3 := cellB r3 HW3.out; clear hb3 hw3 HW2))
  have HGN : Hid (w.heap.size ≤ gn) := Lib.hid (by have := HW.out.size; have := GN.out; omega)
  have HGA : Hid (ga < gn) := Lib.hid (by have := blk_lt BA.out; have := GN.out; omega)
  refine start_ (n := 7) (S := (fun w' => w'.cell? ⟨gr, 0, none⟩ = some (.slice A0 d.safe.length c0) ∧ w'.cell? ⟨gr, 1, none⟩ = some (.slice A1 (toL d.late).length c1) ∧ w'.cell? ⟨gr, 2, none⟩ = some (.int .i64 d.fuse) ∧ w'.cell? ⟨gr, 3, none⟩ = some (.bool d.blown) ∧ w'.cell? ⟨ga, 3, none⟩ = some (.int .u64 (m : Int)))) (ds := [6]) #[false, false, false, false, false, false, false] (by kernel_rfl) rfl rfl ⟨r0, r1, r2, r3, x3⟩ (fun hHeld => ?_)
  have HBD : Hid (Below w3.heap.size w3 (World.drew w3)) := Lib.hid ((Below.refl _ w3).drew)
  clear r0 r1 r2 r3
  generalize World.drew _ = wd at HBD hHeld ⊢
  iterate 5 (first | ((first | refine takeS_ 0 (N := some 19) (v := ?_) (a' := ?_) rfl rfl (by decide +kernel) (fun _ _ _ h => h) (Or.inl ⟨by rfl, ?_⟩) hHeld ?_ ?_ | refine takeS_ 1 (N := some 20) (v := ?_) (a' := ?_) rfl rfl (by decide +kernel) (fun _ _ _ h => h) (Or.inl ⟨by rfl, ?_⟩) hHeld ?_ ?_ | refine takeS_ 2 (N := some 21) (v := ?_) (a' := ?_) rfl rfl (by decide +kernel) (fun _ _ _ h => h) (Or.inl ⟨by rfl, ?_⟩) hHeld ?_ ?_ | refine takeS_ 3 (N := some 22) (v := ?_) (a' := ?_) rfl rfl (by decide +kernel) (fun _ _ _ h => h) (Or.inl ⟨by rfl, ?_⟩) hHeld ?_ ?_ | refine takeS_ 4 (N := some 23) (v := ?_) (a' := ?_) rfl rfl (by decide +kernel) (fun _ _ _ h => h) (Or.inl ⟨by rfl, ?_⟩) hHeld ?_ ?_); rotate_left; (rintro w' ⟨r0, r1, r2, r3, x3⟩; go_simp; first | done | (with_reducible rfl) | rfl); rotate_left; (simp only [Act.put, List.setIfInBounds_toArray, List.set_cons_zero, List.set_cons_succ, i64_w, i32_w]; rfl)) | ((first | refine takeS_ 0 (N := some 19) (v := undef) (a' := ?_) rfl rfl (by decide +kernel) (fun _ _ _ h => h) (Or.inr ⟨by rfl, rfl⟩) hHeld ?_ ?_ | refine takeS_ 1 (N := some 20) (v := undef) (a' := ?_) rfl rfl (by decide +kernel) (fun _ _ _ h => h) (Or.inr ⟨by rfl, rfl⟩) hHeld ?_ ?_ | refine takeS_ 2 (N := some 21) (v := undef) (a' := ?_) rfl rfl (by decide +kernel) (fun _ _ _ h => h) (Or.inr ⟨by rfl, rfl⟩) hHeld ?_ ?_ | refine takeS_ 3 (N := some 22) (v := undef) (a' := ?_) rfl rfl (by decide +kernel) (fun _ _ _ h => h) (Or.inr ⟨by rfl, rfl⟩) hHeld ?_ ?_ | refine takeS_ 4 (N := some 23) (v := undef) (a' := ?_) rfl rfl (by decide +kernel) (fun _ _ _ h => h) (Or.inr ⟨by rfl, rfl⟩) hHeld ?_ ?_); rotate_left; (simp only [Act.put, List.setIfInBounds_toArray, List.set_cons_zero, List.set_cons_succ, i64_w, i32_w]; rfl)))
  refine oneS_ 5 (N := some 24) rfl rfl (by kernel_rfl) (by decide) (fun K hK => ?_)
  refine goes_ Try.func45 (by kernel_rfl) rfl #[.agg #[.slice A0 d.safe.length c0, .slice A1 (toL d.late).length c1, .int .i64 d.fuse, .bool d.blown], .int .u64 (m : Int)] (by rfl) rfl rfl (by first | rfl | (simp [Act.eval]; done) | (simp [Act.eval, Act.put]; done)) ?_
  have HWD := Lib.hid (below_step (below_step HW.out HW3.out) HBD.out)
  have HRD := Lib.hid (HR.out.below HWD.out)
  refine (rehearsalref20_Disk_Crash.calls kf A0 c0 d.safe A1 c1 (toL d.late) d.fuse d.blown (m : Int) d2.safe (toL d2.late) d2.fuse d2.blown wd (Kd.V_reads' HRD.out.v).2.2 (Kd.V_reads' HRD.out.v).2.1 (Kd.V_reads' HRD.out.a).2.2 (Kd.V_reads' HRD.out.a).2.1 KF.out).mono ?_
  rintro e w5 ⟨v0, v1, rfl, hv0, hv1, hb⟩
  replace hv0 := R_V2 (b2 := 0) hv0
  replace hv1 := R_V2 (b2 := 0) hv1
  obtain ⟨A2, c2, rfl⟩ := Kd.V_slice hv0
  obtain ⟨A3, c3, rfl⟩ := Kd.V_slice hv1
  refine ⟨_, rfl, ?_⟩
  refine hK.out _ _ ⟨cellB hHeld.1 hb, cellB hHeld.2.1 hb, cellB hHeld.2.2.1 hb, cellB hHeld.2.2.2.1 hb, cellB hHeld.2.2.2.2 hb⟩ (fun hHeld => ?_)
  clear hK K
  have HN5 := Lib.hid (blk_below (blk_below BN.out HBD.out) hb)
  have HW5 := Lib.hid (below_step HWD.out hb)
  have X0 := Lib.hid hv0
  have X1 := Lib.hid hv1
  have HSZ := Lib.hid hb.size
  have HZ := Lib.hid (below_step HBD.out hb)
  have HNA1 : Hid (ga < w5.heap.size ∧ ¬ ga = gn) := Lib.hid ⟨Nat.lt_of_lt_of_le (blk_lt (blk_below BA.out HW3.out)) HZ.out.size, fun e => by have := HGA.out; omega⟩
  clear hv0 hv1 hb
  refine norm_ (a' := ?_) ?_ ?_
  rotate_left
  · show Act.put _ (some 24) _ = _
    simp only [Act.put, List.setIfInBounds_toArray, List.set_cons_zero, List.set_cons_succ, i64_w, i32_w]
    rfl
  have y0 : w5.cell? ⟨gn, 0, none⟩ = some (.slice A0 d.safe.length c0) := (blk_cell HN5.out 0).trans rfl
  have y1 : w5.cell? ⟨gn, 1, none⟩ = some (.slice A1 (toL d.late).length c1) := (blk_cell HN5.out 1).trans rfl
  have y2 : w5.cell? ⟨gn, 2, none⟩ = some (.int .i64 d.fuse) := (blk_cell HN5.out 2).trans rfl
  have y3 : w5.cell? ⟨gn, 3, none⟩ = some (.bool d.blown) := (blk_cell HN5.out 3).trans rfl
  have f0 := blk_frozen HN5.out 0
  have f1 := blk_frozen HN5.out 1
  have f2 := blk_frozen HN5.out 2
  have f3 := blk_frozen HN5.out 3
  clear hHeld
  refine lastS_ 6 (N := none) rfl rfl (by kernel_rfl) (by decide) (fun K hK => ?_)
  refine skip_ (w1 := ?_) (by rfl) rfl ?_ ?_
  rotate_left
  · go_simp
    rfl
  refine hK.out _ _ ?_
  clear hK K
  refine done_ (by kernel_rfl) ?_
  clear y0 y1 y2 y3 f0 f1 f2 f3
  have BN6 := Lib.hid (four_put (x := .slice A2 d2.safe.length c2) (y := .slice A3 (toL d2.late).length c3) (z := .int .i64 d2.fuse) (u := .bool d2.blown) HN5.out)
  have HF6 := Lib.hid (four_frm w5 gn (.slice A2 d2.safe.length c2) (.slice A3 (toL d2.late).length c3) (.int .i64 d2.fuse) (.bool d2.blown))
  generalize ((((w5.setCell ⟨gn, 0, none⟩ (.slice A2 d2.safe.length c2)).setCell ⟨gn, 1, none⟩ (.slice A3 (toL d2.late).length c3)).setCell ⟨gn, 2, none⟩ (.int .i64 d2.fuse)).setCell ⟨gn, 3, none⟩ (.bool d2.blown)) = w6 at BN6 HF6 ⊢
  have HW6 := Lib.hid (box_step HGN.out HW5.out HF6.out)
  obtain ⟨P2, hq⟩ := rq_new (P := P) (d' := d2) (fun k hk => (HI.out.s k hk).2) (blk_lt HR.out.b) (fun k hk => ⟨(HR.out.p k hk).1, (HR.out.p k hk).2.1, (HR.out.p k hk).2.2.1⟩) HGN.out (.inl (Nat.lt_of_lt_of_le (blk_lt BN.out) HBD.out.size)) HWD.out.size (fun k hk => .inr hk) X0.out X1.out BN6.out HF6.out HSZ.out
  have HQ := Lib.hid hq
  have HNA := HNA1.out
  have z3 : w6.cell? ⟨ga, 3, none⟩ = some (.int .u64 (m : Int)) := (cell_far HF6.out HNA).trans (cellB x3 HZ.out)
  clear hq X0 X1 HSZ HN5 HW5 HWD HRD HNA
  go_wp2_with (first | (go_at_call 29; (with_reducible refine (crashX B S w6 p g d m HM.out (HI.out.t.frm HW6.out)).mono ?_); rw [HE.out]; rintro e w7 ⟨rfl, hf, ht⟩; have HF7 := Lib.hid hf; have HT7 := Lib.hid ht; have HQ7 := Lib.hid (HQ.out.frm hf (fun k hk => (HQ.out.p k hk).2.1) (fun h => Nat.lt_irrefl _ (Nat.lt_of_lt_of_le (HI.out.s gn h).2 HGN.out))); have HR7 := Lib.hid ((HR.out.below HW6.out).frm hf (fun k hk => (HR.out.p k hk).2.1) HI.out.g); have y0 := blk_cell HQ7.out.b 0; have y1 := blk_cell HQ7.out.b 1; have y2 := blk_cell HQ7.out.b 2; have y3 := blk_cell HQ7.out.b 3; clear hf ht) | (refine store_dsk rfl rfl (.tmp 96) (.tmp 95) rfl (A0 := A2) (c0 := c2) (A1 := A3) (c1 := c3) rfl rfl HR7.out.b ?_; intro w8 hb8 hw8; have HB8 := Lib.hid hb8; have HF8 := Lib.hid hw8; clear hb8 hw8))
  go_ret
  exact ⟨by first | rfl | simp, does_end HI.out HW6.out HQ.out HGN.out HF7.out HT7.out HB8.out HF8.out⟩
set_option maxHeartbeats 4000000 in
set_option maxRecDepth 100000 in
theorem does_sync (B : Nat) (S : Nat → Prop) (w : World) (p g gr : Nat) (d : DiskS) (at_ : Int) (dt : ByteArray) (mk : Int) (hi : Inv B S w p g gr d) :
    Calls Try.prog 34 #[.pointer (some ⟨p, 0, none⟩), .pointer (some ⟨gr, 0, none⟩), .agg #[.int .i64 1, .int .i64 at_, .string dt, .int .u64 mk]] w fun e w' => e = .returned (.bool true) ∧ Below B w w' ∧ ∃ S', Inv B S' w' p g gr ((syncD d).1) := by
  have huD := Try.underlying62
  have huA := Try.underlying39
  have hok := hi.t.ok
  obtain ⟨kf, hkf⟩ := rsync_ev d hok.1
  have hkf2 := hkf kf (Nat.le_refl _)
  obtain ⟨⟨d2, E⟩, hwr⟩ : ∃ r, syncD d = r := ⟨_, rfl⟩
  simp only [hwr] at hkf2 ⊢
  have HE := Lib.hid hwr
  have KF := Lib.hid hkf2
  clear hkf hkf2 hwr
  obtain ⟨P, v0, v1, hr⟩ := hi.r
  obtain ⟨A0, c0, rfl⟩ := Kd.V_slice hr.v
  obtain ⟨A1, c1, rfl⟩ := Kd.V_slice hr.a
  have HI := Lib.hid hi
  have HR := Lib.hid hr
  have r0 : w.cell? ⟨gr, 0, none⟩ = some (.slice A0 d.safe.length c0) := (blk_cell hr.b 0).trans rfl
  have r1 : w.cell? ⟨gr, 1, none⟩ = some (.slice A1 (toL d.late).length c1) := (blk_cell hr.b 1).trans rfl
  have r2 : w.cell? ⟨gr, 2, none⟩ = some (.int .i64 d.fuse) := (blk_cell hr.b 2).trans rfl
  have r3 : w.cell? ⟨gr, 3, none⟩ = some (.bool d.blown) := (blk_cell hr.b 3).trans rfl
  clear hr hi hok
  go_enter Try.func34, Try.ntmps34
  go_upto_region 10 with (first | ((with_reducible refine gate_dst (N := 5) rfl ?_); refine box_event ?hg (N := 5) ?hd (cs := #[.int .i64 1, .int .i64 at_, .string dt, .int .u64 mk]) (t := 39) ?hr ?_; (case hd => rfl); (case hg => rfl); (case hr => first | (go_simp; done) | (go_simp; rfl)); intro ga hg w1 hbox hb; have GA := Lib.hid hg; have BA := Lib.hid hbox; have HW := Lib.hid hb; have x0 : w1.cell? ⟨ga, 0, none⟩ = some (.int .i64 1) := (blk_cell hbox 0).trans rfl; have x1 : w1.cell? ⟨ga, 1, none⟩ = some (.int .i64 at_) := (blk_cell hbox 1).trans rfl; have x2 : w1.cell? ⟨ga, 2, none⟩ = some (.string dt) := (blk_cell hbox 2).trans rfl; have x3 : w1.cell? ⟨ga, 3, none⟩ = some (.int .u64 mk) := (blk_cell hbox 3).trans rfl; replace r0 := cellB r0 hb; replace r1 := cellB r1 hb; replace r2 := cellB r2 hb; replace r3 := cellB r3 hb; clear hg hbox hb) | ((with_reducible refine gate_dst (N := 9) rfl ?_); refine box_event ?hg (N := 9) ?hd (cs := #[.slice none 0 0, .slice none 0 0, .int .i64 0, .bool false]) (t := 62) ?hr ?_; (case hd => rfl); (case hg => rfl); (case hr => first | (go_simp; done) | (go_simp; rfl)); intro gn hg w2 hbox hb; have BN := Lib.hid hbox; have GN := Lib.hid hg; have HW2 := Lib.hid hb; clear hg hbox hb) | (refine store_dsk rfl rfl (.tmp 9) (.tmp 16) rfl (A0 := A0) (n0 := d.safe.length) (c0 := c0) (A1 := A1) (n1 := (toL d.late).length) (c1 := c1) (f := d.fuse) (bl := d.blown) rfl rfl BN.out ?_; intro w3 hb3 hw3; replace BN := Lib.hid hb3; have HW3 := Lib.hid (new_box GN.out HW2.out hw3); replace x0 := cellB x0 HW3.out; replace x1 := cellB x1 HW3.out; replace x2 := cellB x2 HW3.out; replace x3 := cellB x3 HW3.out; replace r0 := cellB r0 HW3.out; replace r1 := cellB r1 HW3.out; replace r2 := cellB r2 HW3.out; replace r3 := cellB r3 HW3.out; clear hb3 hw3 HW2))
  have HGN : Hid (w.heap.size ≤ gn) := Lib.hid (by have := HW.out.size; have := GN.out; omega)
  have HGA : Hid (ga < gn) := Lib.hid (by have := blk_lt BA.out; have := GN.out; omega)
  have HWD := Lib.hid (below_step HW.out HW3.out)
  have HR3 := Lib.hid (HR.out.below HWD.out)
  go_upto_region 11 with (first | (go_at_call 44; (refine (rehearsalref20_Disk_Sync.calls kf P A0 c0 d.safe P A1 c1 (toL d.late) d.fuse d.blown d2.safe (toL d2.late) d2.fuse d2.blown E w3 HR3.out.v HR3.out.a KF.out).mono ?_); rintro e w5 ⟨v0, v1, rfl, hv0, hv1, hb⟩; obtain ⟨A2, c2, rfl⟩ := Kd.V_slice hv0; obtain ⟨A3, c3, rfl⟩ := Kd.V_slice hv1; have HN5 := Lib.hid (blk_below BN.out hb); have HW5 := Lib.hid (below_step HWD.out hb); have X0 := Lib.hid hv0; have X1 := Lib.hid hv1; have HSZ := Lib.hid hb.size; clear hv0 hv1 hb) | (refine store_dsk rfl rfl (.tmp 9) (.tmp 55) rfl (A0 := A2) (n0 := d2.safe.length) (c0 := c2) (A1 := A3) (n1 := (toL d2.late).length) (c1 := c3) (f := d2.fuse) (bl := d2.blown) rfl rfl HN5.out ?_; intro w6 hb6 hw6; have BN6 := Lib.hid hb6; have HF6 := Lib.hid hw6; clear hb6 hw6))
  have HW6 := Lib.hid (box_step HGN.out HW5.out HF6.out)
  obtain ⟨P2, hq⟩ := rq_new (P := P) (d' := d2) (fun k hk => (HI.out.s k hk).2) (blk_lt HR.out.b) (fun k hk => ⟨(HR.out.p k hk).1, (HR.out.p k hk).2.1, (HR.out.p k hk).2.2.1⟩) HGN.out (.inl (blk_lt BN.out)) HWD.out.size (fun k hk => hk.elim (fun h => .inl (h.elim id id)) .inr) X0.out X1.out BN6.out HF6.out HSZ.out
  have HQ := Lib.hid hq
  clear hq X0 X1 HSZ HN5 HW5
  go_wp2_with (first | (go_at_call 25; (with_reducible refine (syncX B S w6 p g d (HI.out.t.frm HW6.out)).mono ?_); rw [HE.out]; rintro e w7 ⟨rfl, hf, ht⟩; have HF7 := Lib.hid hf; have HT7 := Lib.hid ht; have HQ7 := Lib.hid (HQ.out.frm hf (fun k hk => (HQ.out.p k hk).2.1) (fun h => Nat.lt_irrefl _ (Nat.lt_of_lt_of_le (HI.out.s gn h).2 HGN.out))); have HR7 := Lib.hid ((HR.out.below HW6.out).frm hf (fun k hk => (HR.out.p k hk).2.1) HI.out.g); have y0 := blk_cell HQ7.out.b 0; have y1 := blk_cell HQ7.out.b 1; have y2 := blk_cell HQ7.out.b 2; have y3 := blk_cell HQ7.out.b 3; clear hf ht) | (refine store_dsk rfl rfl (.tmp 96) (.tmp 95) rfl (A0 := A2) (c0 := c2) (A1 := A3) (c1 := c3) rfl rfl HR7.out.b ?_; intro w8 hb8 hw8; have HB8 := Lib.hid hb8; have HF8 := Lib.hid hw8; clear hb8 hw8))
  go_ret
  exact ⟨by first | rfl | simp, does_end HI.out HW6.out HQ.out HGN.out HF7.out HT7.out HB8.out HF8.out⟩
set_option maxHeartbeats 4000000 in
set_option maxRecDepth 100000 in
theorem does_read (B : Nat) (S : Nat → Prop) (w : World) (p g gr : Nat) (d : DiskS) (at_ : Int) (dt : ByteArray) (mk : Int) (hi : Inv B S w p g gr d) :
    Calls Try.prog 34 #[.pointer (some ⟨p, 0, none⟩), .pointer (some ⟨gr, 0, none⟩), .agg #[.int .i64 2, .int .i64 at_, .string dt, .int .u64 mk]] w fun e w' => e = .returned (.bool true) ∧ Below B w w' ∧ ∃ S', Inv B S' w' p g gr (d) := by
  have huD := Try.underlying62
  have huA := Try.underlying39
  have hok := hi.t.ok
  obtain ⟨kf, hkf⟩ := rread_ev d hok.1 at_
  have hkf2 := hkf kf (Nat.le_refl _)
  obtain ⟨⟨s2, E⟩, hwr⟩ : ∃ r, readD d at_ = r := ⟨_, rfl⟩
  simp only [hwr] at hkf2 ⊢
  have HE := Lib.hid hwr
  have KF := Lib.hid hkf2
  clear hkf hkf2 hwr
  obtain ⟨P, v0, v1, hr⟩ := hi.r
  obtain ⟨A0, c0, rfl⟩ := Kd.V_slice hr.v
  obtain ⟨A1, c1, rfl⟩ := Kd.V_slice hr.a
  have HI := Lib.hid hi
  have HR := Lib.hid hr
  have r0 : w.cell? ⟨gr, 0, none⟩ = some (.slice A0 d.safe.length c0) := (blk_cell hr.b 0).trans rfl
  have r1 : w.cell? ⟨gr, 1, none⟩ = some (.slice A1 (toL d.late).length c1) := (blk_cell hr.b 1).trans rfl
  have r2 : w.cell? ⟨gr, 2, none⟩ = some (.int .i64 d.fuse) := (blk_cell hr.b 2).trans rfl
  have r3 : w.cell? ⟨gr, 3, none⟩ = some (.bool d.blown) := (blk_cell hr.b 3).trans rfl
  clear hr hi hok
  go_enter Try.func34, Try.ntmps34
  go_upto_region 13 with (first | ((with_reducible refine gate_dst (N := 5) rfl ?_); refine box_event ?hg (N := 5) ?hd (cs := #[.int .i64 2, .int .i64 at_, .string dt, .int .u64 mk]) (t := 39) ?hr ?_; (case hd => rfl); (case hg => rfl); (case hr => first | (go_simp; done) | (go_simp; rfl)); intro ga hg w1 hbox hb; have GA := Lib.hid hg; have BA := Lib.hid hbox; have HW := Lib.hid hb; have x0 : w1.cell? ⟨ga, 0, none⟩ = some (.int .i64 2) := (blk_cell hbox 0).trans rfl; have x1 : w1.cell? ⟨ga, 1, none⟩ = some (.int .i64 at_) := (blk_cell hbox 1).trans rfl; have x2 : w1.cell? ⟨ga, 2, none⟩ = some (.string dt) := (blk_cell hbox 2).trans rfl; have x3 : w1.cell? ⟨ga, 3, none⟩ = some (.int .u64 mk) := (blk_cell hbox 3).trans rfl; replace r0 := cellB r0 hb; replace r1 := cellB r1 hb; replace r2 := cellB r2 hb; replace r3 := cellB r3 hb; clear hg hbox hb) | ((with_reducible refine gate_dst (N := 9) rfl ?_); refine box_event ?hg (N := 9) ?hd (cs := #[.slice none 0 0, .slice none 0 0, .int .i64 0, .bool false]) (t := 62) ?hr ?_; (case hd => rfl); (case hg => rfl); (case hr => first | (go_simp; done) | (go_simp; rfl)); intro gn hg w2 hbox hb; have BN := Lib.hid hbox; have GN := Lib.hid hg; have HW2 := Lib.hid hb; clear hg hbox hb) | (refine store_dsk rfl rfl (.tmp 9) (.tmp 16) rfl (A0 := A0) (n0 := d.safe.length) (c0 := c0) (A1 := A1) (n1 := (toL d.late).length) (c1 := c1) (f := d.fuse) (bl := d.blown) rfl rfl BN.out ?_; intro w3 hb3 hw3; replace BN := Lib.hid hb3; have HW3 := Lib.hid (new_box GN.out HW2.out hw3); replace x0 := cellB x0 HW3.out; replace x1 := cellB x1 HW3.out; replace x2 := cellB x2 HW3.out; replace x3 := cellB x3 HW3.out; replace r0 := cellB r0 HW3.out; replace r1 := cellB r1 HW3.out; replace r2 := cellB r2 HW3.out; replace r3 := cellB r3 HW3.out; clear hb3 hw3 HW2))
  have HGN : Hid (w.heap.size ≤ gn) := Lib.hid (by have := HW.out.size; have := GN.out; omega)
  have HGA : Hid (ga < gn) := Lib.hid (by have := blk_lt BA.out; have := GN.out; omega)
  refine start_ (n := 11) (S := (fun w' => w'.cell? ⟨gr, 0, none⟩ = some (.slice A0 d.safe.length c0) ∧ w'.cell? ⟨gr, 1, none⟩ = some (.slice A1 (toL d.late).length c1) ∧ w'.cell? ⟨gr, 2, none⟩ = some (.int .i64 d.fuse) ∧ w'.cell? ⟨gr, 3, none⟩ = some (.bool d.blown) ∧ w'.cell? ⟨ga, 1, none⟩ = some (.int .i64 at_))) (ds := []) #[false, false, false, false, false, false, false, false, false, false, false] (by kernel_rfl) rfl rfl ⟨r0, r1, r2, r3, x1⟩ (fun hHeld => ?_)
  have HBD : Hid (Below w3.heap.size w3 (World.drew w3)) := Lib.hid ((Below.refl _ w3).drew)
  clear r0 r1 r2 r3 x1
  generalize World.drew _ = wd at HBD hHeld ⊢
  iterate 5 (first | ((first | refine takeS_ 0 (N := some 62) (v := ?_) (a' := ?_) rfl rfl (by decide +kernel) (fun _ _ _ h => h) (Or.inl ⟨by rfl, ?_⟩) hHeld ?_ ?_ | refine takeS_ 1 (N := some 63) (v := ?_) (a' := ?_) rfl rfl (by decide +kernel) (fun _ _ _ h => h) (Or.inl ⟨by rfl, ?_⟩) hHeld ?_ ?_ | refine takeS_ 2 (N := some 64) (v := ?_) (a' := ?_) rfl rfl (by decide +kernel) (fun _ _ _ h => h) (Or.inl ⟨by rfl, ?_⟩) hHeld ?_ ?_ | refine takeS_ 3 (N := some 65) (v := ?_) (a' := ?_) rfl rfl (by decide +kernel) (fun _ _ _ h => h) (Or.inl ⟨by rfl, ?_⟩) hHeld ?_ ?_ | refine takeS_ 4 (N := some 66) (v := ?_) (a' := ?_) rfl rfl (by decide +kernel) (fun _ _ _ h => h) (Or.inl ⟨by rfl, ?_⟩) hHeld ?_ ?_); rotate_left; (rintro w' ⟨r0, r1, r2, r3, x1⟩; go_simp; first | done | (with_reducible rfl) | rfl); rotate_left; (simp only [Act.put, List.setIfInBounds_toArray, List.set_cons_zero, List.set_cons_succ, i64_w, i32_w]; rfl)) | ((first | refine takeS_ 0 (N := some 62) (v := undef) (a' := ?_) rfl rfl (by decide +kernel) (fun _ _ _ h => h) (Or.inr ⟨by rfl, rfl⟩) hHeld ?_ ?_ | refine takeS_ 1 (N := some 63) (v := undef) (a' := ?_) rfl rfl (by decide +kernel) (fun _ _ _ h => h) (Or.inr ⟨by rfl, rfl⟩) hHeld ?_ ?_ | refine takeS_ 2 (N := some 64) (v := undef) (a' := ?_) rfl rfl (by decide +kernel) (fun _ _ _ h => h) (Or.inr ⟨by rfl, rfl⟩) hHeld ?_ ?_ | refine takeS_ 3 (N := some 65) (v := undef) (a' := ?_) rfl rfl (by decide +kernel) (fun _ _ _ h => h) (Or.inr ⟨by rfl, rfl⟩) hHeld ?_ ?_ | refine takeS_ 4 (N := some 66) (v := undef) (a' := ?_) rfl rfl (by decide +kernel) (fun _ _ _ h => h) (Or.inr ⟨by rfl, rfl⟩) hHeld ?_ ?_); rotate_left; (simp only [Act.put, List.setIfInBounds_toArray, List.set_cons_zero, List.set_cons_succ, i64_w, i32_w]; rfl)))
  refine oneS_ 5 (N := some 67) rfl rfl (by kernel_rfl) (by decide) (fun K hK => ?_)
  refine goes_ Try.func35 (by kernel_rfl) rfl #[.agg #[.slice A0 d.safe.length c0, .slice A1 (toL d.late).length c1, .int .i64 d.fuse, .bool d.blown], .int .i64 at_] (by rfl) rfl rfl (by first | rfl | (simp [Act.eval]; done) | (simp [Act.eval, Act.put]; done)) ?_
  have HWD := Lib.hid (below_step (below_step HW.out HW3.out) HBD.out)
  have HRD := Lib.hid (HR.out.below HWD.out)
  refine (rehearsalref20_Disk_Read.calls kf A0 c0 d.safe A1 c1 (toL d.late) d.fuse d.blown at_ s2 E wd (Kd.V_reads' HRD.out.v).2.2 (Kd.V_reads' HRD.out.v).2.1 (Kd.V_reads' HRD.out.a).2.2 (Kd.V_reads' HRD.out.a).2.1 KF.out).mono ?_
  rintro e w6 ⟨rfl, hb⟩
  refine ⟨_, rfl, ?_⟩
  refine hK.out _ _ ⟨cellB hHeld.1 hb, cellB hHeld.2.1 hb, cellB hHeld.2.2.1 hb, cellB hHeld.2.2.2.1 hb, cellB hHeld.2.2.2.2 hb⟩ (fun hHeld => ?_)
  clear hK K
  have HW6 := Lib.hid (below_step HWD.out hb)
  have z1 : w6.cell? ⟨ga, 1, none⟩ = some (.int .i64 at_) := hHeld.2.2.2.2
  clear hb hHeld HWD HRD
  refine norm_ (a' := ?_) ?_ ?_
  rotate_left
  · show Act.put _ (some 67) _ = _
    simp only [Act.put, List.setIfInBounds_toArray, List.set_cons_zero, List.set_cons_succ, i64_w, i32_w]
    rfl
  iterate 5 (first | ((first | refine pureS_ 6 (N := some 61) (v := ?_) (a' := ?_) rfl rfl (by decide +kernel) (fun _ _ _ h => h) (Or.inl ⟨by rfl, ?_⟩) ?_ ?_ | refine pureS_ 7 (N := some 68) (v := ?_) (a' := ?_) rfl rfl (by decide +kernel) (fun _ _ _ h => h) (Or.inl ⟨by rfl, ?_⟩) ?_ ?_ | refine pureS_ 8 (N := some 69) (v := ?_) (a' := ?_) rfl rfl (by decide +kernel) (fun _ _ _ h => h) (Or.inl ⟨by rfl, ?_⟩) ?_ ?_ | refine pureS_ 9 (N := some 10) (v := ?_) (a' := ?_) rfl rfl (by decide +kernel) (fun _ _ _ h => h) (Or.inl ⟨by rfl, ?_⟩) ?_ ?_ | refine pureS_ 10 (N := some 11) (v := ?_) (a' := ?_) rfl rfl (by decide +kernel) (fun _ _ _ h => h) (Or.inl ⟨by rfl, ?_⟩) ?_ ?_); rotate_left; (intro w'; go_simp; first | done | (with_reducible rfl) | rfl); rotate_left; (simp only [Act.put, List.setIfInBounds_toArray, List.set_cons_zero, List.set_cons_succ, i64_w, i32_w]; rfl)) | ((first | refine pureS_ 6 (N := some 61) (v := undef) (a' := ?_) rfl rfl (by decide +kernel) (fun _ _ _ h => h) (Or.inr ⟨by rfl, rfl⟩) ?_ ?_ | refine pureS_ 7 (N := some 68) (v := undef) (a' := ?_) rfl rfl (by decide +kernel) (fun _ _ _ h => h) (Or.inr ⟨by rfl, rfl⟩) ?_ ?_ | refine pureS_ 8 (N := some 69) (v := undef) (a' := ?_) rfl rfl (by decide +kernel) (fun _ _ _ h => h) (Or.inr ⟨by rfl, rfl⟩) ?_ ?_ | refine pureS_ 9 (N := some 10) (v := undef) (a' := ?_) rfl rfl (by decide +kernel) (fun _ _ _ h => h) (Or.inr ⟨by rfl, rfl⟩) ?_ ?_ | refine pureS_ 10 (N := some 11) (v := undef) (a' := ?_) rfl rfl (by decide +kernel) (fun _ _ _ h => h) (Or.inr ⟨by rfl, rfl⟩) ?_ ?_); rotate_left; (simp only [Act.put, List.setIfInBounds_toArray, List.set_cons_zero, List.set_cons_succ, i64_w, i32_w]; rfl)))
  refine done_ (by kernel_rfl) ?_
  go_wp2_with (go_at_call 27; (with_reducible refine (readX B S w6 p g d at_ (HI.out.t.frm HW6.out)).mono ?_); rw [HE.out]; rintro e w7 ⟨rfl, hb⟩; have HB7 := Lib.hid (below_step HW6.out hb); clear hb)
  go_ret
  exact ⟨by first | rfl | simp, HB7.out.mono HI.out.B0, S, HI.out.below HB7.out⟩
set_option maxHeartbeats 4000000 in
set_option maxRecDepth 100000 in
theorem does_fuse (B : Nat) (S : Nat → Prop) (w : World) (p g gr : Nat) (d : DiskS) (at_ : Int) (dt : ByteArray) (mk : Int) (hi : Inv B S w p g gr d) (hat : -9223372036854775808 ≤ at_ ∧ at_ ≤ 9223372036854775807) :
    Calls Try.prog 34 #[.pointer (some ⟨p, 0, none⟩), .pointer (some ⟨gr, 0, none⟩), .agg #[.int .i64 3, .int .i64 at_, .string dt, .int .u64 mk]] w fun e w' => e = .returned (.bool true) ∧ Below B w w' ∧ ∃ S', Inv B S' w' p g gr ({ d with fuse := at_ }) := by
  have huD := Try.underlying62
  have huA := Try.underlying39
  have hok := hi.t.ok
  have HAT := Lib.hid hat
  clear hat
  obtain ⟨P, v0, v1, hr⟩ := hi.r
  obtain ⟨A0, c0, rfl⟩ := Kd.V_slice hr.v
  obtain ⟨A1, c1, rfl⟩ := Kd.V_slice hr.a
  have HI := Lib.hid hi
  have HR := Lib.hid hr
  have r0 : w.cell? ⟨gr, 0, none⟩ = some (.slice A0 d.safe.length c0) := (blk_cell hr.b 0).trans rfl
  have r1 : w.cell? ⟨gr, 1, none⟩ = some (.slice A1 (toL d.late).length c1) := (blk_cell hr.b 1).trans rfl
  have r2 : w.cell? ⟨gr, 2, none⟩ = some (.int .i64 d.fuse) := (blk_cell hr.b 2).trans rfl
  have r3 : w.cell? ⟨gr, 3, none⟩ = some (.bool d.blown) := (blk_cell hr.b 3).trans rfl
  clear hr hi hok
  go_enter Try.func34, Try.ntmps34
  go_upto_region 17 with (first | ((with_reducible refine gate_dst (N := 5) rfl ?_); refine box_event ?hg (N := 5) ?hd (cs := #[.int .i64 3, .int .i64 at_, .string dt, .int .u64 mk]) (t := 39) ?hr ?_; (case hd => rfl); (case hg => rfl); (case hr => first | (go_simp; done) | (go_simp; rfl)); intro ga hg w1 hbox hb; have GA := Lib.hid hg; have BA := Lib.hid hbox; have HW := Lib.hid hb; have x0 : w1.cell? ⟨ga, 0, none⟩ = some (.int .i64 3) := (blk_cell hbox 0).trans rfl; have x1 : w1.cell? ⟨ga, 1, none⟩ = some (.int .i64 at_) := (blk_cell hbox 1).trans rfl; have x2 : w1.cell? ⟨ga, 2, none⟩ = some (.string dt) := (blk_cell hbox 2).trans rfl; have x3 : w1.cell? ⟨ga, 3, none⟩ = some (.int .u64 mk) := (blk_cell hbox 3).trans rfl; replace r0 := cellB r0 hb; replace r1 := cellB r1 hb; replace r2 := cellB r2 hb; replace r3 := cellB r3 hb; clear hg hbox hb) | ((with_reducible refine gate_dst (N := 9) rfl ?_); refine box_event ?hg (N := 9) ?hd (cs := #[.slice none 0 0, .slice none 0 0, .int .i64 0, .bool false]) (t := 62) ?hr ?_; (case hd => rfl); (case hg => rfl); (case hr => first | (go_simp; done) | (go_simp; rfl)); intro gn hg w2 hbox hb; have BN := Lib.hid hbox; have GN := Lib.hid hg; have HW2 := Lib.hid hb; clear hg hbox hb) | (refine store_dsk rfl rfl (.tmp 9) (.tmp 16) rfl (A0 := A0) (n0 := d.safe.length) (c0 := c0) (A1 := A1) (n1 := (toL d.late).length) (c1 := c1) (f := d.fuse) (bl := d.blown) rfl rfl BN.out ?_; intro w3 hb3 hw3; replace BN := Lib.hid hb3; have HW3 := Lib.hid (new_box GN.out HW2.out hw3); replace x0 := cellB x0 HW3.out; replace x1 := cellB x1 HW3.out; replace x2 := cellB x2 HW3.out; replace x3 := cellB x3 HW3.out; replace r0 := cellB r0 HW3.out; replace r1 := cellB r1 HW3.out; replace r2 := cellB r2 HW3.out; replace r3 := cellB r3 HW3.out; clear hb3 hw3 HW2))
  have HGN : Hid (w.heap.size ≤ gn) := Lib.hid (by have := HW.out.size; have := GN.out; omega)
  have HGA : Hid (ga < gn) := Lib.hid (by have := blk_lt BA.out; have := GN.out; omega)
  have y2 : w3.cell? ⟨gn, 2, none⟩ = some (.int .i64 d.fuse) := (blk_cell BN.out 2).trans rfl
  have f2 := blk_frozen BN.out 2
  clear r0 r1 r2 r3 x0 x2 x3
  go_upto_region 18 with fail
  clear y2 f2
  have BN6 := Lib.hid (blk_put BN.out 2 (.int .i64 at_) rfl)
  have HF6 := Lib.hid (frm_one (S := fun k => k = gn) w3 gn 2 (.int .i64 at_) rfl)
  generalize w3.setCell ⟨gn, 2, none⟩ (.int .i64 at_) = w6 at BN6 HF6 ⊢
  have HW6 := Lib.hid (box_step HGN.out (below_step HW.out HW3.out) HF6.out)
  have z1 : w6.cell? ⟨ga, 1, none⟩ = some (.int .i64 at_) := (cell_far HF6.out ⟨blk_lt (blk_below BA.out HW3.out), fun e => by have e : ga = gn := e; have := HGA.out; omega⟩).trans x1
  have HR6 := Lib.hid (HR.out.below HW6.out)
  have HQ : Hid (RQ P S w6 gr gn { d with fuse := at_ } (.slice A0 d.safe.length c0) (.slice A1 (toL d.late).length c1)) := Lib.hid ⟨BN6.out, HR6.out.v, HR6.out.a, fun k hk => ⟨(HR6.out.p k hk).1, (HR6.out.p k hk).2.1, (HR6.out.p k hk).2.2.1, fun e => by have := (HR.out.p k hk).1; have := HGN.out; omega⟩⟩
  clear x1
  go_wp2_with (first | (go_at_call 30; (with_reducible refine (fuseX B S w6 p g d at_ (HI.out.t.frm HW6.out) HAT.out).mono ?_); rintro e w7 ⟨rfl, hf, ht⟩; have HF7 := Lib.hid hf; have HT7 := Lib.hid ht; have HQ7 := Lib.hid (HQ.out.frm hf (fun k hk => (HQ.out.p k hk).2.1) (fun h => Nat.lt_irrefl _ (Nat.lt_of_lt_of_le (HI.out.s gn h).2 HGN.out))); have HR7 := Lib.hid ((HR.out.below HW6.out).frm hf (fun k hk => (HR.out.p k hk).2.1) HI.out.g); have y0 := blk_cell HQ7.out.b 0; have y1 := blk_cell HQ7.out.b 1; have y2 := blk_cell HQ7.out.b 2; have y3 := blk_cell HQ7.out.b 3; clear hf ht) | (refine store_dsk rfl rfl (.tmp 96) (.tmp 95) rfl (A0 := A0) (c0 := c0) (A1 := A1) (c1 := c1) rfl rfl HR7.out.b ?_; intro w8 hb8 hw8; have HB8 := Lib.hid hb8; have HF8 := Lib.hid hw8; clear hb8 hw8))
  go_ret
  exact ⟨by first | rfl | simp, does_end HI.out HW6.out HQ.out HGN.out HF7.out HT7.out HB8.out HF8.out⟩
/-- what a call makes of a disk -/
def doD (d : DiskS) (k at_ : Int) (dt : ByteArray) (m : Nat) : DiskS := if k = 0 then (wrD d at_ dt).1 else if k = 1 then (syncD d).1 else if k = 2 then d else if k = 3 then { d with fuse := at_ } else crashD d m
theorem does_calls (B : Nat) (S : Nat → Prop) (w : World) (p g gr : Nat) (d : DiskS) (k at_ : Int) (dt : ByteArray) (mk : Int) (hi : Inv B S w p g gr d) (hds : dt.size ≤ 140737488351232) (hlt : d.late.length < 1000000) (hat : -9223372036854775808 ≤ at_ ∧ at_ ≤ 9223372036854775807) (hm : 0 ≤ mk ∧ mk ≤ 18446744073709551615) :
    Calls Try.prog 34 #[.pointer (some ⟨p, 0, none⟩), .pointer (some ⟨gr, 0, none⟩), .agg #[.int .i64 k, .int .i64 at_, .string dt, .int .u64 mk]] w fun e w' => e = .returned (.bool true) ∧ Below B w w' ∧ ∃ S', Inv B S' w' p g gr (doD d k at_ dt mk.toNat) := by
  unfold doD
  by_cases k0 : k = 0
  · subst k0; rw [if_pos rfl]; exact does_write B S w p g gr d at_ dt mk hi hds hlt
  rw [if_neg k0]
  by_cases k1 : k = 1
  · subst k1; rw [if_pos rfl]; exact does_sync B S w p g gr d at_ dt mk hi
  rw [if_neg k1]
  by_cases k2 : k = 2
  · subst k2; rw [if_pos rfl]; exact does_read B S w p g gr d at_ dt mk hi
  rw [if_neg k2]
  by_cases k3 : k = 3
  · subst k3; rw [if_pos rfl]; exact does_fuse B S w p g gr d at_ dt mk hi hat
  rw [if_neg k3]
  exact does_crash B S w p g gr d at_ dt mk hi mk.toNat (by omega) (by omega) k k0 k1 k2 k3
end Go.Proofs.Ythmdmbgjheploaa.PB
set_option linter.unusedVariables false
set_option linter.unusedSimpArgs false
namespace Go.Proofs.Ythmdmbgjheploaa.PB
open Go Go.RowKit Go.Proofs.Ythmdmbgjheploaa Go.Proofs.YthmdmbgjheploaaW.PrintWords Go.Proofs.YthmdmbgjheploaaW.PrintLast Go.Proofs.YthmdmbgjheploaaW.PrintMore
theorem doD_late (d : DiskS) (k at_ : Int) (dt : ByteArray) (m : Nat) : (doD d k at_ dt m).late.length ≤ d.late.length + 1 := by
  have h2 := spendD_safe d
  unfold doD
  split
  · unfold wrD
    split
    · exact Nat.le_succ _
    · split
      · rw [List.length_append, h2.2]; exact Nat.le_refl _
      · rw [h2.2]; exact Nat.le_succ _
  split
  · unfold syncD
    split
    · exact Nat.zero_le _
    · rw [h2.2]; exact Nat.le_succ _
  split
  · exact Nat.le_succ _
  split
  · exact Nat.le_succ _
  · exact Nat.zero_le _
theorem inv_start {w w1 w2 w4 : World} {p g gr : Nat} {v : Value} {d : DiskS} {v0 v1 : Value} (h1 : Below w.heap.size w w1) (hd : IsDisk w1 w.heap.size p g v d) (h2 : Below w1.heap.size w1 w2)
    (hv : Kd.R Kd.string 9 w2 w1.heap.size (fun _ => True) v0 d.safe) (ha : Kd.R k87 87 w2 w1.heap.size (fun _ => True) v1 (toL d.late)) (hg : gr = w2.heap.size) (h4 : Below w2.heap.size w2 w4) (hb : w4.heap[gr]? = some (.cells #[v0, v1, .int .i64 d.fuse, .bool d.blown] 62 (0, 0))) :
    Inv w.heap.size (fun k => w.heap.size ≤ k ∧ k < w1.heap.size) w4 p g gr d := by
  have s1 := h1.size
  have s2 := h2.size
  have s4 := h4.size
  have hx : DX w.heap.size (fun k => w.heap.size ≤ k ∧ k < w1.heap.size) w1 p g d := ⟨v, hd, fun i hi => ⟨hd.low i hi, hd.lt i hi⟩⟩
  refine ⟨hx.frm (below_step h2 h4), fun k hk => ⟨hk.1, by omega⟩, ⟨_, v0, v1, hb, Kd.V_below (Kd.V_bound (R_V2 hv)) h4, Kd.V_below (Kd.V_bound (R_V2 ha)) h4, fun k hk => ⟨by omega, fun h => by omega, by omega, by omega⟩⟩, fun h => by omega, by omega, by omega⟩
set_option maxHeartbeats 4000000 in
set_option maxRecDepth 100000 in
theorem plays_mid (n : Int) (A : Option Addr) (cap : Nat) (l : List ActS) (w : World) (hn : 20 < n ∧ n ≤ 4096) :
    Calls Try.prog 12 #[.int .i64 n, .slice A l.length cap] w fun e w' => e = .returned (.bool true) ∧ Below w.heap.size w w' := by
  have i1 : decide ((20 : Int) < n) = true := decide_eq_true hn.1
  have i2 : decide (n ≤ 4096) = true := decide_eq_true hn.2
  have i1n : ((20 : Int) < n) = True := eq_true hn.1
  have i2n : (n ≤ 4096) = True := eq_true hn.2
  clear hn
  go_enter Try.func12, Try.ntmps12
  go_wp2_with (go_at_call 28; (with_reducible refine (bawake_any _).mono ?_); rintro e wk ⟨rfl, hb⟩; have HBK := Lib.hid hb; clear hb)
  go_ret
  exact ⟨rfl, HBK.out⟩
set_option maxHeartbeats 4000000 in
set_option maxRecDepth 100000 in
theorem plays_bad (n : Int) (A : Option Addr) (cap : Nat) (l : List ActS) (w : World) (hn : n < 1 ∨ 4096 < n) (hl : l.length ≤ 4398046511000) :
    Calls Try.prog 12 #[.int .i64 n, .slice A l.length cap] w fun e w' => e = .returned (.bool true) ∧ Below w.heap.size w w' := by
  have huD := Try.underlying62
  have HN := Lib.hid hn
  have HLL := Lib.hid hl
  obtain ⟨kn, hkn⟩ : ∃ kn, kn = 1 := ⟨1, rfl⟩
  have KN : Hid (rehearsalref20_New.f kn n = some ([], [], 0, false, 1)) := Lib.hid (by rw [hkn]; exact rnew_bad n hn)
  have hq : (decide ((20 : Int) < n) && decide (n ≤ 4096)) = false := by
    rcases hn with h | h
    · rw [decide_eq_false (by omega : ¬ (20 : Int) < n)]; rfl
    · rw [decide_eq_false (by omega : ¬ n ≤ 4096), Bool.and_false]
  clear hkn hl
  by_cases h20 : (20 : Int) < n
  all_goals
    first
    | (have i1 : decide ((20 : Int) < n) = true := decide_eq_true h20
       have i1n : ((20 : Int) < n) = True := eq_true h20
       have i2 : decide (n ≤ 4096) = false := decide_eq_false (by omega)
       have i2n : (n ≤ 4096) = False := eq_false (by omega))
    | (have i1 : decide ((20 : Int) < n) = false := decide_eq_false h20
       have i1n : ((20 : Int) < n) = False := eq_false h20)
    clear hn hq h20
    go_enter Try.func12, Try.ntmps12
    go_upto_region 5 with (first | (go_at_call 32; (with_reducible refine (new_bad w n HN.out).mono ?_); rintro e w1 ⟨rfl, rfl⟩) | (go_at_call 33; (with_reducible refine (rehearsalref20_New.calls kn n _ _ _ _ _ _ KN.out).mono ?_); rintro e w3 ⟨v0, v1, rfl, hv0, hv1, hb⟩; obtain ⟨A4, c4, rfl⟩ := Kd.R_slice hv0; obtain ⟨A5, c5, rfl⟩ := Kd.R_slice hv1; have HB23 := Lib.hid hb; have HV0 := Lib.hid hv0; have HV1 := Lib.hid hv1; clear hb hv0 hv1) | ((with_reducible refine gate_dst (N := 7) rfl ?_); refine box_event ?hg (N := 7) ?hd (cs := #[.slice none 0 0, .slice none 0 0, .int .i64 0, .bool false]) (t := 62) ?hr ?_; (case hd => rfl); (case hg => rfl); (case hr => first | (go_simp; done) | (go_simp; rfl)); intro gr hg w4 hbox hb; have BN := Lib.hid hbox; have GN := Lib.hid hg; have HW4 := Lib.hid hb; clear hg hbox hb) | (refine store_dsk rfl rfl (.tmp 7) (.tmp 30) rfl (A0 := A4) (n0 := 0) (c0 := c4) (A1 := A5) (n1 := 0) (c1 := c5) (f := 0) (bl := false) rfl rfl BN.out ?_; intro w5 hb5 hw5; replace BN := Lib.hid hb5; have HB5 := Lib.hid (below_step HB23.out (new_box GN.out HW4.out hw5)); clear hb5 hw5))
    have r0 : w5.cell? ⟨gr, 0, none⟩ = some (.slice A4 0 c4) := (blk_cell BN.out 0).trans rfl
    refine start_ (n := 18) (S := (fun w' => w'.cell? ⟨gr, 0, none⟩ = some (.slice A4 0 c4))) (ds := []) #[false, false, false, false, false, false, false, false, false, false, false, false, false, false, false, false, false, false] (by kernel_rfl) rfl rfl r0 (fun hHeld => ?_)
    replace HB5 := Lib.hid (below_step HB5.out ((Below.refl w5.heap.size w5).drew))
    clear r0
    generalize World.drew _ = wd at HB5 hHeld ⊢
    iterate 5 (first | ((first | refine takeS_ 0 (N := some 32) (v := ?_) (a' := ?_) rfl rfl (by decide +kernel) (fun _ _ _ h => h) (Or.inl ⟨by rfl, ?_⟩) hHeld ?_ ?_ | refine takeS_ 1 (N := some 33) (v := ?_) (a' := ?_) rfl rfl (by decide +kernel) (fun _ _ _ h => h) (Or.inl ⟨by rfl, ?_⟩) hHeld ?_ ?_ | refine takeS_ 2 (N := some 34) (v := ?_) (a' := ?_) rfl rfl (by decide +kernel) (fun _ _ _ h => h) (Or.inl ⟨by rfl, ?_⟩) hHeld ?_ ?_ | refine takeS_ 3 (N := some 35) (v := ?_) (a' := ?_) rfl rfl (by decide +kernel) (fun _ _ _ h => h) (Or.inl ⟨by rfl, ?_⟩) hHeld ?_ ?_ | refine takeS_ 4 (N := some 36) (v := ?_) (a' := ?_) rfl rfl (by decide +kernel) (fun _ _ _ h => h) (Or.inl ⟨by rfl, ?_⟩) hHeld ?_ ?_); rotate_left; (rintro w' (s0); go_simp; first | done | (with_reducible rfl) | rfl); rotate_left; (simp only [Act.put, List.setIfInBounds_toArray, List.set_cons_zero, List.set_cons_succ, i64_w, i32_w]; rfl)) | ((first | refine takeS_ 0 (N := some 32) (v := undef) (a' := ?_) rfl rfl (by decide +kernel) (fun _ _ _ h => h) (Or.inr ⟨by rfl, rfl⟩) hHeld ?_ ?_ | refine takeS_ 1 (N := some 33) (v := undef) (a' := ?_) rfl rfl (by decide +kernel) (fun _ _ _ h => h) (Or.inr ⟨by rfl, rfl⟩) hHeld ?_ ?_ | refine takeS_ 2 (N := some 34) (v := undef) (a' := ?_) rfl rfl (by decide +kernel) (fun _ _ _ h => h) (Or.inr ⟨by rfl, rfl⟩) hHeld ?_ ?_ | refine takeS_ 3 (N := some 35) (v := undef) (a' := ?_) rfl rfl (by decide +kernel) (fun _ _ _ h => h) (Or.inr ⟨by rfl, rfl⟩) hHeld ?_ ?_ | refine takeS_ 4 (N := some 36) (v := undef) (a' := ?_) rfl rfl (by decide +kernel) (fun _ _ _ h => h) (Or.inr ⟨by rfl, rfl⟩) hHeld ?_ ?_); rotate_left; (simp only [Act.put, List.setIfInBounds_toArray, List.set_cons_zero, List.set_cons_succ, i64_w, i32_w]; rfl)))
    iterate 5 (first | ((first | refine takeS_ 5 (N := some 37) (v := ?_) (a' := ?_) rfl rfl (by decide +kernel) (fun _ _ _ h => h) (Or.inl ⟨by rfl, ?_⟩) hHeld ?_ ?_ | refine takeS_ 6 (N := some 38) (v := ?_) (a' := ?_) rfl rfl (by decide +kernel) (fun _ _ _ h => h) (Or.inl ⟨by rfl, ?_⟩) hHeld ?_ ?_ | refine takeS_ 7 (N := some 39) (v := ?_) (a' := ?_) rfl rfl (by decide +kernel) (fun _ _ _ h => h) (Or.inl ⟨by rfl, ?_⟩) hHeld ?_ ?_ | refine takeS_ 8 (N := some 40) (v := ?_) (a' := ?_) rfl rfl (by decide +kernel) (fun _ _ _ h => h) (Or.inl ⟨by rfl, ?_⟩) hHeld ?_ ?_ | refine takeS_ 9 (N := some 41) (v := ?_) (a' := ?_) rfl rfl (by decide +kernel) (fun _ _ _ h => h) (Or.inl ⟨by rfl, ?_⟩) hHeld ?_ ?_); rotate_left; (rintro w' (s0); go_simp; first | done | (with_reducible rfl) | rfl); rotate_left; (simp only [Act.put, List.setIfInBounds_toArray, List.set_cons_zero, List.set_cons_succ, i64_w, i32_w]; rfl)) | ((first | refine takeS_ 5 (N := some 37) (v := undef) (a' := ?_) rfl rfl (by decide +kernel) (fun _ _ _ h => h) (Or.inr ⟨by rfl, rfl⟩) hHeld ?_ ?_ | refine takeS_ 6 (N := some 38) (v := undef) (a' := ?_) rfl rfl (by decide +kernel) (fun _ _ _ h => h) (Or.inr ⟨by rfl, rfl⟩) hHeld ?_ ?_ | refine takeS_ 7 (N := some 39) (v := undef) (a' := ?_) rfl rfl (by decide +kernel) (fun _ _ _ h => h) (Or.inr ⟨by rfl, rfl⟩) hHeld ?_ ?_ | refine takeS_ 8 (N := some 40) (v := undef) (a' := ?_) rfl rfl (by decide +kernel) (fun _ _ _ h => h) (Or.inr ⟨by rfl, rfl⟩) hHeld ?_ ?_ | refine takeS_ 9 (N := some 41) (v := undef) (a' := ?_) rfl rfl (by decide +kernel) (fun _ _ _ h => h) (Or.inr ⟨by rfl, rfl⟩) hHeld ?_ ?_); rotate_left; (simp only [Act.put, List.setIfInBounds_toArray, List.set_cons_zero, List.set_cons_succ, i64_w, i32_w]; rfl)))
    iterate 5 (first | ((first | refine takeS_ 10 (N := some 42) (v := ?_) (a' := ?_) rfl rfl (by decide +kernel) (fun _ _ _ h => h) (Or.inl ⟨by rfl, ?_⟩) hHeld ?_ ?_ | refine takeS_ 11 (N := some 43) (v := ?_) (a' := ?_) rfl rfl (by decide +kernel) (fun _ _ _ h => h) (Or.inl ⟨by rfl, ?_⟩) hHeld ?_ ?_ | refine takeS_ 13 (N := some 45) (v := ?_) (a' := ?_) rfl rfl (by decide +kernel) (fun _ _ _ h => h) (Or.inl ⟨by rfl, ?_⟩) hHeld ?_ ?_ | refine takeS_ 14 (N := some 46) (v := ?_) (a' := ?_) rfl rfl (by decide +kernel) (fun _ _ _ h => h) (Or.inl ⟨by rfl, ?_⟩) hHeld ?_ ?_ | refine takeS_ 15 (N := some 47) (v := ?_) (a' := ?_) rfl rfl (by decide +kernel) (fun _ _ _ h => h) (Or.inl ⟨by rfl, ?_⟩) hHeld ?_ ?_); rotate_left; (rintro w' (s0); go_simp; first | done | (with_reducible rfl) | rfl); rotate_left; (simp only [Act.put, List.setIfInBounds_toArray, List.set_cons_zero, List.set_cons_succ, i64_w, i32_w]; rfl)) | ((first | refine takeS_ 10 (N := some 42) (v := undef) (a' := ?_) rfl rfl (by decide +kernel) (fun _ _ _ h => h) (Or.inr ⟨by rfl, rfl⟩) hHeld ?_ ?_ | refine takeS_ 11 (N := some 43) (v := undef) (a' := ?_) rfl rfl (by decide +kernel) (fun _ _ _ h => h) (Or.inr ⟨by rfl, rfl⟩) hHeld ?_ ?_ | refine takeS_ 13 (N := some 45) (v := undef) (a' := ?_) rfl rfl (by decide +kernel) (fun _ _ _ h => h) (Or.inr ⟨by rfl, rfl⟩) hHeld ?_ ?_ | refine takeS_ 14 (N := some 46) (v := undef) (a' := ?_) rfl rfl (by decide +kernel) (fun _ _ _ h => h) (Or.inr ⟨by rfl, rfl⟩) hHeld ?_ ?_ | refine takeS_ 15 (N := some 47) (v := undef) (a' := ?_) rfl rfl (by decide +kernel) (fun _ _ _ h => h) (Or.inr ⟨by rfl, rfl⟩) hHeld ?_ ?_); rotate_left; (simp only [Act.put, List.setIfInBounds_toArray, List.set_cons_zero, List.set_cons_succ, i64_w, i32_w]; rfl)))
    refine oneS_ 12 (N := some 44) rfl rfl (by kernel_rfl) (by decide) (fun K hK => ?_)
    refine goes_ Try.func31 (by kernel_rfl) rfl #[.pointer none] (by rfl) rfl rfl (by first | rfl | (simp [Act.eval]; done) | (simp [Act.eval, Act.put]; done)) ?_
    refine (blocks_nil wd).mono ?_
    rintro e w6 ⟨rfl, rfl⟩
    refine ⟨_, rfl, ?_⟩
    refine hK.out _ _ hHeld (fun hHeld => ?_)
    clear hK K hHeld
    refine norm_ (a' := ?_) ?_ ?_
    rotate_left
    · show Act.put _ (some 44) _ = _
      simp only [Act.put, List.setIfInBounds_toArray, List.set_cons_zero, List.set_cons_succ, i64_w, i32_w]
      rfl
    iterate 2 (first | ((first | refine pureS_ 16 (N := some 48) (v := ?_) (a' := ?_) rfl rfl (by decide +kernel) (fun _ _ _ h => h) (Or.inl ⟨by rfl, ?_⟩) ?_ ?_ | refine pureS_ 17 (N := some 49) (v := ?_) (a' := ?_) rfl rfl (by decide +kernel) (fun _ _ _ h => h) (Or.inl ⟨by rfl, ?_⟩) ?_ ?_); rotate_left; (intro w'; go_simp; first | done | (with_reducible rfl) | rfl); rotate_left; (simp only [Act.put, List.setIfInBounds_toArray, List.set_cons_zero, List.set_cons_succ, i64_w, i32_w]; rfl)) | ((first | refine pureS_ 16 (N := some 48) (v := undef) (a' := ?_) rfl rfl (by decide +kernel) (fun _ _ _ h => h) (Or.inr ⟨by rfl, rfl⟩) ?_ ?_ | refine pureS_ 17 (N := some 49) (v := undef) (a' := ?_) rfl rfl (by decide +kernel) (fun _ _ _ h => h) (Or.inr ⟨by rfl, rfl⟩) ?_ ?_); rotate_left; (simp only [Act.put, List.setIfInBounds_toArray, List.set_cons_zero, List.set_cons_succ, i64_w, i32_w]; rfl)))
    refine done_ (by kernel_rfl) ?_
    go_wp2_with fail
    go_loopw [9] (fun s9 wr => s9 = .int .i64 0 ∧ wr = w6) (fun s9 _ => 0)
    case atStart => exact ⟨rfl, rfl⟩
    case round =>
      obtain ⟨rfl, rfl⟩ := hrel
      by_cases hlt : 0 < l.length
      · have j1 : decide ((0 : Int) < (l.length : Int)) = true := decide_eq_true (by omega)
        have j1n : (0 < l.length) = True := eq_true hlt
        clear hlt
        go_wp2_with (go_at_call 28; (with_reducible refine (bawake_any _).mono ?_); rintro e wk ⟨rfl, hb⟩; have HBK := Lib.hid hb; clear hb)
        go_ret
        exact ⟨rfl, below_step HB5.out HBK.out⟩
      · have j1 : decide ((0 : Int) < (l.length : Int)) = false := decide_eq_false (by omega)
        have j1n : (0 < l.length) = False := eq_false hlt
        clear hlt
        go_wp2_with (go_at_call 28; (with_reducible refine (bawake_any _).mono ?_); rintro e wk ⟨rfl, hb⟩; have HBK := Lib.hid hb; clear hb)
        go_ret
        exact ⟨rfl, below_step HB5.out HBK.out⟩
set_option maxHeartbeats 4000000 in
set_option maxRecDepth 100000 in
theorem plays_good (n : Nat) (A : Option Addr) (cap : Nat) (l : List ActS) (w : World) (h1 : 1 ≤ n) (h2 : n ≤ 20) (hA : Acts w A l) :
    Calls Try.prog 12 #[.int .i64 (n : Int), .slice A l.length cap] w fun e w' => e = .returned (.bool true) ∧ Below w.heap.size w w' := by
  have huD := Try.underlying62
  have huA := Try.underlying39
  have hll : l.length ≤ 4398046511000 := hA.1
  have HA := Lib.hid hA
  have HN1 := Lib.hid h1
  have HN2 := Lib.hid h2
  obtain ⟨kn, hkn⟩ := rnew_ev n h1 (by omega)
  have hkn2 := hkn kn (Nat.le_refl _)
  have KN : Hid (rehearsalref20_New.f kn (n : Int) = some ((newD n).safe, toL (newD n).late, (newD n).fuse, (newD n).blown, 0)) := Lib.hid hkn2
  have HNW := Lib.hid (fun W => new_any W n h1 (by omega))
  have HL0 : Hid ((newD n).late.length = 0 ∧ (newD n).safe.length = n) := Lib.hid ⟨rfl, List.length_replicate ..⟩
  have i1 : decide ((20 : Int) < (n : Int)) = false := decide_eq_false (by omega)
  have i1n : (20 < n) = False := eq_false (by omega)
  unfold NewPost at HNW
  clear hA h1 h2 hkn hkn2
  generalize newD n = d0 at KN HNW HL0
  go_enter Try.func12, Try.ntmps12
  go_upto_region 5 with (first | (go_at_call 32; (refine (HNW.out w).mono ?_); rintro e w1 ⟨p, g, rfl, hd, hb⟩; have HD := Lib.hid hd; have HB1 := Lib.hid hb; clear hd hb) | (go_at_call 33; (with_reducible refine (rehearsalref20_New.calls kn (n : Int) _ _ _ _ _ _ KN.out).mono ?_); rintro e w3 ⟨v0, v1, rfl, hv0, hv1, hb⟩; obtain ⟨A4, c4, rfl⟩ := Kd.R_slice hv0; obtain ⟨A5, c5, rfl⟩ := Kd.R_slice hv1; have HB23 := Lib.hid hb; have HV0 := Lib.hid hv0; have HV1 := Lib.hid hv1; clear hb hv0 hv1) | ((with_reducible refine gate_dst (N := 7) rfl ?_); refine box_event ?hg (N := 7) ?hd (cs := #[.slice none 0 0, .slice none 0 0, .int .i64 0, .bool false]) (t := 62) ?hr ?_; (case hd => rfl); (case hg => rfl); (case hr => first | (go_simp; done) | (go_simp; rfl)); intro gr hg w4 hbox hb; have BN := Lib.hid hbox; have GN := Lib.hid hg; have HW4 := Lib.hid hb; clear hg hbox hb) | (refine store_dsk rfl rfl (.tmp 7) (.tmp 30) rfl (A0 := A4) (n0 := d0.safe.length) (c0 := c4) (A1 := A5) (n1 := (toL d0.late).length) (c1 := c5) (f := d0.fuse) (bl := d0.blown) rfl rfl BN.out ?_; intro w5 hb5 hw5; replace BN := Lib.hid hb5; have HB45 := Lib.hid (new_box GN.out HW4.out hw5); have HB5 := Lib.hid (below_step (below_step HB1.out HB23.out) HB45.out); clear hb5 hw5))
  have hinv : ∃ S, Inv w.heap.size S w5 p g gr d0 := ⟨_, inv_start HB1.out HD.out HB23.out HV0.out HV1.out GN.out HB45.out BN.out⟩
  obtain ⟨S0, hinv⟩ := hinv
  have r0 : w5.cell? ⟨gr, 0, none⟩ = some (.slice A4 d0.safe.length c4) := (blk_cell BN.out 0).trans rfl
  have HI0 := Lib.hid (hinv.below ((Below.refl w5.heap.size w5).drew))
  have HB0 := Lib.hid (below_step HB5.out ((Below.refl w5.heap.size w5).drew))
  clear hinv HD HB1 HB23 HV0 HV1 HB45 BN GN HW4 HB5 KN HNW
  refine start_ (n := 18) (S := (fun w' => w'.cell? ⟨gr, 0, none⟩ = some (.slice A4 d0.safe.length c4))) (ds := []) #[false, false, false, false, false, false, false, false, false, false, false, false, false, false, false, false, false, false] (by kernel_rfl) rfl rfl r0 (fun hHeld => ?_)
  clear r0
  generalize World.drew _ = wd at HI0 HB0 hHeld ⊢
  iterate 5 (first | ((first | refine takeS_ 0 (N := some 32) (v := ?_) (a' := ?_) rfl rfl (by decide +kernel) (fun _ _ _ h => h) (Or.inl ⟨by rfl, ?_⟩) hHeld ?_ ?_ | refine takeS_ 1 (N := some 33) (v := ?_) (a' := ?_) rfl rfl (by decide +kernel) (fun _ _ _ h => h) (Or.inl ⟨by rfl, ?_⟩) hHeld ?_ ?_ | refine takeS_ 2 (N := some 34) (v := ?_) (a' := ?_) rfl rfl (by decide +kernel) (fun _ _ _ h => h) (Or.inl ⟨by rfl, ?_⟩) hHeld ?_ ?_ | refine takeS_ 3 (N := some 35) (v := ?_) (a' := ?_) rfl rfl (by decide +kernel) (fun _ _ _ h => h) (Or.inl ⟨by rfl, ?_⟩) hHeld ?_ ?_ | refine takeS_ 4 (N := some 36) (v := ?_) (a' := ?_) rfl rfl (by decide +kernel) (fun _ _ _ h => h) (Or.inl ⟨by rfl, ?_⟩) hHeld ?_ ?_); rotate_left; (rintro w' (s0); go_simp; first | done | (with_reducible rfl) | rfl); rotate_left; (simp only [Act.put, List.setIfInBounds_toArray, List.set_cons_zero, List.set_cons_succ, i64_w, i32_w]; rfl)) | ((first | refine takeS_ 0 (N := some 32) (v := undef) (a' := ?_) rfl rfl (by decide +kernel) (fun _ _ _ h => h) (Or.inr ⟨by rfl, rfl⟩) hHeld ?_ ?_ | refine takeS_ 1 (N := some 33) (v := undef) (a' := ?_) rfl rfl (by decide +kernel) (fun _ _ _ h => h) (Or.inr ⟨by rfl, rfl⟩) hHeld ?_ ?_ | refine takeS_ 2 (N := some 34) (v := undef) (a' := ?_) rfl rfl (by decide +kernel) (fun _ _ _ h => h) (Or.inr ⟨by rfl, rfl⟩) hHeld ?_ ?_ | refine takeS_ 3 (N := some 35) (v := undef) (a' := ?_) rfl rfl (by decide +kernel) (fun _ _ _ h => h) (Or.inr ⟨by rfl, rfl⟩) hHeld ?_ ?_ | refine takeS_ 4 (N := some 36) (v := undef) (a' := ?_) rfl rfl (by decide +kernel) (fun _ _ _ h => h) (Or.inr ⟨by rfl, rfl⟩) hHeld ?_ ?_); rotate_left; (simp only [Act.put, List.setIfInBounds_toArray, List.set_cons_zero, List.set_cons_succ, i64_w, i32_w]; rfl)))
  iterate 5 (first | ((first | refine takeS_ 5 (N := some 37) (v := ?_) (a' := ?_) rfl rfl (by decide +kernel) (fun _ _ _ h => h) (Or.inl ⟨by rfl, ?_⟩) hHeld ?_ ?_ | refine takeS_ 6 (N := some 38) (v := ?_) (a' := ?_) rfl rfl (by decide +kernel) (fun _ _ _ h => h) (Or.inl ⟨by rfl, ?_⟩) hHeld ?_ ?_ | refine takeS_ 7 (N := some 39) (v := ?_) (a' := ?_) rfl rfl (by decide +kernel) (fun _ _ _ h => h) (Or.inl ⟨by rfl, ?_⟩) hHeld ?_ ?_ | refine takeS_ 8 (N := some 40) (v := ?_) (a' := ?_) rfl rfl (by decide +kernel) (fun _ _ _ h => h) (Or.inl ⟨by rfl, ?_⟩) hHeld ?_ ?_ | refine takeS_ 9 (N := some 41) (v := ?_) (a' := ?_) rfl rfl (by decide +kernel) (fun _ _ _ h => h) (Or.inl ⟨by rfl, ?_⟩) hHeld ?_ ?_); rotate_left; (rintro w' (s0); go_simp; first | done | (with_reducible rfl) | rfl); rotate_left; (simp only [Act.put, List.setIfInBounds_toArray, List.set_cons_zero, List.set_cons_succ, i64_w, i32_w]; rfl)) | ((first | refine takeS_ 5 (N := some 37) (v := undef) (a' := ?_) rfl rfl (by decide +kernel) (fun _ _ _ h => h) (Or.inr ⟨by rfl, rfl⟩) hHeld ?_ ?_ | refine takeS_ 6 (N := some 38) (v := undef) (a' := ?_) rfl rfl (by decide +kernel) (fun _ _ _ h => h) (Or.inr ⟨by rfl, rfl⟩) hHeld ?_ ?_ | refine takeS_ 7 (N := some 39) (v := undef) (a' := ?_) rfl rfl (by decide +kernel) (fun _ _ _ h => h) (Or.inr ⟨by rfl, rfl⟩) hHeld ?_ ?_ | refine takeS_ 8 (N := some 40) (v := undef) (a' := ?_) rfl rfl (by decide +kernel) (fun _ _ _ h => h) (Or.inr ⟨by rfl, rfl⟩) hHeld ?_ ?_ | refine takeS_ 9 (N := some 41) (v := undef) (a' := ?_) rfl rfl (by decide +kernel) (fun _ _ _ h => h) (Or.inr ⟨by rfl, rfl⟩) hHeld ?_ ?_); rotate_left; (simp only [Act.put, List.setIfInBounds_toArray, List.set_cons_zero, List.set_cons_succ, i64_w, i32_w]; rfl)))
  iterate 5 (first | ((first | refine takeS_ 10 (N := some 42) (v := ?_) (a' := ?_) rfl rfl (by decide +kernel) (fun _ _ _ h => h) (Or.inl ⟨by rfl, ?_⟩) hHeld ?_ ?_ | refine takeS_ 11 (N := some 43) (v := ?_) (a' := ?_) rfl rfl (by decide +kernel) (fun _ _ _ h => h) (Or.inl ⟨by rfl, ?_⟩) hHeld ?_ ?_ | refine takeS_ 13 (N := some 45) (v := ?_) (a' := ?_) rfl rfl (by decide +kernel) (fun _ _ _ h => h) (Or.inl ⟨by rfl, ?_⟩) hHeld ?_ ?_ | refine takeS_ 14 (N := some 46) (v := ?_) (a' := ?_) rfl rfl (by decide +kernel) (fun _ _ _ h => h) (Or.inl ⟨by rfl, ?_⟩) hHeld ?_ ?_ | refine takeS_ 15 (N := some 47) (v := ?_) (a' := ?_) rfl rfl (by decide +kernel) (fun _ _ _ h => h) (Or.inl ⟨by rfl, ?_⟩) hHeld ?_ ?_); rotate_left; (rintro w' (s0); go_simp; first | done | (with_reducible rfl) | rfl); rotate_left; (simp only [Act.put, List.setIfInBounds_toArray, List.set_cons_zero, List.set_cons_succ, i64_w, i32_w]; rfl)) | ((first | refine takeS_ 10 (N := some 42) (v := undef) (a' := ?_) rfl rfl (by decide +kernel) (fun _ _ _ h => h) (Or.inr ⟨by rfl, rfl⟩) hHeld ?_ ?_ | refine takeS_ 11 (N := some 43) (v := undef) (a' := ?_) rfl rfl (by decide +kernel) (fun _ _ _ h => h) (Or.inr ⟨by rfl, rfl⟩) hHeld ?_ ?_ | refine takeS_ 13 (N := some 45) (v := undef) (a' := ?_) rfl rfl (by decide +kernel) (fun _ _ _ h => h) (Or.inr ⟨by rfl, rfl⟩) hHeld ?_ ?_ | refine takeS_ 14 (N := some 46) (v := undef) (a' := ?_) rfl rfl (by decide +kernel) (fun _ _ _ h => h) (Or.inr ⟨by rfl, rfl⟩) hHeld ?_ ?_ | refine takeS_ 15 (N := some 47) (v := undef) (a' := ?_) rfl rfl (by decide +kernel) (fun _ _ _ h => h) (Or.inr ⟨by rfl, rfl⟩) hHeld ?_ ?_); rotate_left; (simp only [Act.put, List.setIfInBounds_toArray, List.set_cons_zero, List.set_cons_succ, i64_w, i32_w]; rfl)))
  refine oneS_ 12 (N := some 44) rfl rfl (by kernel_rfl) (by decide) (fun K hK => ?_)
  refine goes_ Try.func31 (by kernel_rfl) rfl #[.pointer (some ⟨p, 0, none⟩)] (by rfl) rfl rfl (by first | rfl | (simp [Act.eval]; done) | (simp [Act.eval, Act.put]; done)) ?_
  refine (show Calls Try.prog 31 #[.pointer (some ⟨p, 0, none⟩)] wd (fun e w' => e = .returned (.int .i64 (d0.safe.length : Int)) ∧ w' = wd) from (by obtain ⟨v, hd, _⟩ := HI0.out.t; exact blocks_any wd w.heap.size p g v d0 hd)).mono ?_
  rintro e w6 ⟨rfl, rfl⟩
  refine ⟨_, rfl, ?_⟩
  refine hK.out _ _ hHeld (fun hHeld => ?_)
  clear hK K hHeld
  refine norm_ (a' := ?_) ?_ ?_
  rotate_left
  · show Act.put _ (some 44) _ = _
    simp only [Act.put, List.setIfInBounds_toArray, List.set_cons_zero, List.set_cons_succ, i64_w, i32_w]
    rfl
  iterate 2 (first | ((first | refine pureS_ 16 (N := some 48) (v := ?_) (a' := ?_) rfl rfl (by decide +kernel) (fun _ _ _ h => h) (Or.inl ⟨by rfl, ?_⟩) ?_ ?_ | refine pureS_ 17 (N := some 49) (v := ?_) (a' := ?_) rfl rfl (by decide +kernel) (fun _ _ _ h => h) (Or.inl ⟨by rfl, ?_⟩) ?_ ?_); rotate_left; (intro w'; go_simp; first | done | (with_reducible rfl) | rfl); rotate_left; (simp only [Act.put, List.setIfInBounds_toArray, List.set_cons_zero, List.set_cons_succ, i64_w, i32_w]; rfl)) | ((first | refine pureS_ 16 (N := some 48) (v := undef) (a' := ?_) rfl rfl (by decide +kernel) (fun _ _ _ h => h) (Or.inr ⟨by rfl, rfl⟩) ?_ ?_ | refine pureS_ 17 (N := some 49) (v := undef) (a' := ?_) rfl rfl (by decide +kernel) (fun _ _ _ h => h) (Or.inr ⟨by rfl, rfl⟩) ?_ ?_); rotate_left; (simp only [Act.put, List.setIfInBounds_toArray, List.set_cons_zero, List.set_cons_succ, i64_w, i32_w]; rfl)))
  refine done_ (by kernel_rfl) ?_
  go_wp2_with fail
  go_loopw [9] (fun s9 wr => ∃ (i : Nat) (S : Nat → Prop) (d : DiskS), i ≤ 100 ∧ s9 = .int .i64 i ∧ Hid (Inv w.heap.size S wr p g gr d) ∧ Hid (d.late.length ≤ i) ∧ Hid (Below w.heap.size w wr)) (fun s9 _ => 100 - (intOf s9).toNat)
  case atStart => exact ⟨0, S0, d0, by omega, rfl, HI0, Lib.hid (by rw [HL0.out.1]; exact Nat.le_refl _), HB0⟩
  case round =>
    obtain ⟨i, S, d, hi, rfl, HI, HLT, HB⟩ := hrel
    clear HI0 HB0 HL0
    by_cases hlt : i < l.length
    · have j1 : decide ((i : Int) < (l.length : Int)) = true := decide_eq_true (by omega)
      have j1n : (i < l.length) = True := eq_true hlt
      have j0 : decide (0 ≤ (i : Int)) = true := decide_eq_true (by omega)
      by_cases h4 : i < 100
      · have j2 : decide ((i : Int) < 100) = true := decide_eq_true (by omega)
        have j2n : (i < 100) = True := eq_true h4
        have HWR : Hid (wrap64 ((i : Int) + 1) = ((i + 1 : Nat) : Int)) := Lib.hid (by unfold wrap64; omega)
        have HL4 := Lib.hid h4
        obtain ⟨b, off, ea, hbl, hc⟩ := HA.out.2.2 (by omega)
        obtain ⟨x0, x1, x2, x3⟩ := hc i hlt
        have hok := HA.out.2.1 _ (List.getElem_mem hlt)
        generalize l[i] = a at x0 x1 x2 x3 hok
        obtain ⟨ak, aa, ad, am⟩ := a
        obtain ⟨q0, q1, q2, q3⟩ := hok
        have Q1 := Lib.hid q1
        have Q2 := Lib.hid q2
        have Q3 := Lib.hid q3
        cases ea
        replace x0 := cellB x0 HB.out
        replace x1 := cellB x1 HB.out
        replace x2 := cellB x2 HB.out
        replace x3 := cellB x3 HB.out
        clear hi hlt h4 q0 q1 q2 q3 hbl hc
        go_upto_region 12 with (go_at_call 34; (with_reducible refine (does_calls w.heap.size S _ p g gr d ak aa ad am HI.out Q2.out (Nat.lt_of_le_of_lt HLT.out (Nat.lt_of_lt_of_le HL4.out (by decide))) Q1.out Q3.out).mono ?_); rintro e w7 ⟨rfl, hb, S2, hi2⟩; have HI7 := Lib.hid hi2; have HB7 := Lib.hid (HB.out.trans hb); clear hb hi2)
        have hd2 : (doD d ak aa ad am.toNat).late.length ≤ i + 1 := Nat.le_trans (doD_late d ak aa ad am.toNat) (Nat.succ_le_succ HLT.out)
        generalize doD d ak aa ad am.toNat = d2 at HI7 hd2
        have HD2 := Lib.hid hd2
        clear hd2 x0 x1 x2 x3 HI HB
        go_wp2_with fail
        go_loopw [10] (fun s10 wr => ∃ (j : Nat), j ≤ n + 2 ∧ s10 = .int .i64 ((j : Int) - 1) ∧ Hid (Inv w.heap.size S2 wr p g gr d2) ∧ Hid (Below w.heap.size w wr)) (fun s10 _ => n + 2 - (intOf s10 + 1).toNat)
        case atStart => exact ⟨0, by omega, rfl, HI7, HB7⟩
        case round =>
          obtain ⟨j, hj, rfl, HI8, HB8⟩ := hrel
          clear HI7 HB7
          by_cases hjn : j ≤ n + 1
          · have m1 : decide (((j : Int) - 1) ≤ (n : Int)) = true := decide_eq_true (by omega)
            have m1n : (((j : Int) - 1) ≤ (n : Int)) = True := eq_true (by omega)
            have HW2 : Hid (wrap64 (j : Int) = (((j + 1 : Nat) : Int) - 1)) := Lib.hid (by have := HN2.out; unfold wrap64; omega)
            have HJ := Lib.hid hjn
            obtain ⟨P, v0, v1, hr⟩ := HI8.out.r
            obtain ⟨A6, c6, rfl⟩ := Kd.V_slice hr.v
            obtain ⟨A7, c7, rfl⟩ := Kd.V_slice hr.a
            have hok := HI8.out.t.ok.1
            obtain ⟨k9, hk9⟩ := rread_ev d2 hok ((j : Int) - 1)
            have hk9' := hk9 k9 (Nat.le_refl _)
            obtain ⟨⟨s2, E⟩, hm⟩ : ∃ m, readD d2 ((j : Int) - 1) = m := ⟨_, rfl⟩
            rw [hm] at hk9'
            have K9 : Hid (rehearsalref20_Disk_Read.f k9 d2.safe (toL d2.late) d2.fuse d2.blown ((j : Int) - 1) = some (s2, E)) := Lib.hid hk9'
            have HM := Lib.hid hm
            have HC6 := Lib.hid (Kd.V_reads' hr.v)
            have HC7 := Lib.hid (Kd.V_reads' hr.a)
            have r0 : wr.cell? ⟨gr, 0, none⟩ = some (.slice A6 d2.safe.length c6) := (blk_cell hr.b 0).trans rfl
            have r1 : wr.cell? ⟨gr, 1, none⟩ = some (.slice A7 (toL d2.late).length c7) := (blk_cell hr.b 1).trans rfl
            have r2 : wr.cell? ⟨gr, 2, none⟩ = some (.int .i64 d2.fuse) := (blk_cell hr.b 2).trans rfl
            have r3 : wr.cell? ⟨gr, 3, none⟩ = some (.bool d2.blown) := (blk_cell hr.b 3).trans rfl
            clear hr hok hk9 hk9' hm hj hjn
            go_wp2_with (first | (go_at_call 27; (with_reducible refine (readX w.heap.size S2 _ p g d2 _ HI8.out.t).mono ?_); rw [HM.out]; rintro e wk ⟨rfl, hb⟩; have HI9 := Lib.hid (HI8.out.below hb); have HB9 := Lib.hid (below_step HB8.out hb); have HC6' := Lib.hid (Kd.C_below HC6.out.2.2 hb); have HC7' := Lib.hid (Kd.C_below HC7.out.2.2 hb); replace r0 := cellB r0 hb; replace r1 := cellB r1 hb; replace r2 := cellB r2 hb; replace r3 := cellB r3 hb; clear hb) | (go_at_call 35; (with_reducible refine (rehearsalref20_Disk_Read.calls k9 A6 c6 d2.safe A7 c7 (toL d2.late) d2.fuse d2.blown _ s2 E _ HC6'.out HC6.out.2.1 HC7'.out HC7.out.2.1 K9.out).mono ?_); rintro e wl ⟨rfl, hb⟩; have HI10 := Lib.hid (HI9.out.below hb); have HB10 := Lib.hid (below_step HB9.out hb); clear hb))
            go_roundw
            case rel => exact ⟨j + 1, by have := HJ.out; omega, by rw [HW2.out], HI10, HB10⟩
            case measure => rw [HW2.out]; show n + 2 - ((((j + 1 : Nat) : Int) - 1) + 1).toNat < n + 2 - (((j : Int) - 1) + 1).toNat; have := HJ.out; omega
          · have m1 : decide (((j : Int) - 1) ≤ (n : Int)) = false := decide_eq_false (by omega)
            have m1n : (((j : Int) - 1) ≤ (n : Int)) = False := eq_false (by omega)
            clear hj hjn
            go_wp2_with fail
            go_roundw
            case rel => exact ⟨i + 1, S2, d2, by have := HL4.out; omega, by rw [HWR.out], HI8, HD2, HB8⟩
            case measure => rw [HWR.out]; show 100 - ((i + 1 : Nat) : Int).toNat < 100 - (i : Int).toNat; have := HL4.out; omega
      · have j2 : decide ((i : Int) < 100) = false := decide_eq_false (by omega)
        have j2n : (i < 100) = False := eq_false h4
        clear hi hlt h4
        go_wp2_with (go_at_call 28; (with_reducible refine (bawake_any _).mono ?_); rintro e wk ⟨rfl, hb⟩; have HBK := Lib.hid hb; clear hb)
        go_ret
        exact ⟨rfl, below_step HB.out HBK.out⟩
    · have j1 : decide ((i : Int) < (l.length : Int)) = false := decide_eq_false (by omega)
      have j1n : (i < l.length) = False := eq_false hlt
      clear hi hlt
      go_wp2_with (go_at_call 28; (with_reducible refine (bawake_any _).mono ?_); rintro e wk ⟨rfl, hb⟩; have HBK := Lib.hid hb; clear hb)
      go_ret
      exact ⟨rfl, below_step HB.out HBK.out⟩
theorem BlockPlays.walk (n : Int) (A : Option Addr) (cap : Nat) (l : List ActS) (w : World) (hn : -9223372036854775808 ≤ n ∧ n ≤ 9223372036854775807) (hA : Acts w A l) :
    Calls Try.prog 12 #[.int .i64 n, .slice A l.length cap] w fun e w' => e = .returned (.bool true) ∧ Below w.heap.size w w' := by
  by_cases h1 : 20 < n ∧ n ≤ 4096
  · exact plays_mid n A cap l w h1
  · by_cases h2 : n < 1 ∨ 4096 < n
    · exact plays_bad n A cap l w h2 hA.1
    · obtain ⟨m, rfl⟩ : ∃ m : Nat, n = m := ⟨n.toNat, by omega⟩
      exact plays_good m A cap l w (by omega) (by omega) hA
end Go.Proofs.Ythmdmbgjheploaa.PB
