/- Texts of this claim's proof: small lemmas, walks and plain laws (merged by wip/shake.py). -/
import Derived.Test.YtnpnablnnfekkaaDoorTcM1
import Derived.Test.YtnpnablnnfekkaaDoorTcM2
import Derived.Test.YtnpnablnnfekkaaDoorTcM3
namespace Go.Proofs.YtnpnablnnfekkaaDoor.PTr
open Go.RowKit Go.Proofs.YtnpnablnnfekkaaDoorW.PrintWords Go.Proofs.YtnpnablnnfekkaaDoorW.PrintLast Go.Proofs.YtnpnablnnfekkaaDoorW.PrintMore
attribute [local go_sem] max2_int min2_int max_two min_two max_three min_three max_four min_four   -- for this text's walks alone
set_option linter.unusedVariables false
set_option linter.unusedSimpArgs false
mutual
def rehearsalref04_Small.l0 : Nat → Int → Int → List (S44) → Int → Int → Int → Option (Bool)
 | 0, _, _, _, _, _, _ => none
 | k + 1, x3, x4, x102000, x102001, x102002, x102003 => if x4 < (x102000.length : Int) then (rehearsalref04_Small.j1 k x3 x4 (decide (x4 < 200)) x102000 x102001 x102002 x102003) else (rehearsalref04_Small.j1 k x3 x4 false x102000 x102001 x102002 x102003)
def rehearsalref04_Small.j1 : Nat → Int → Int → Bool → List (S44) → Int → Int → Int → Option (Bool)
 | 0, _, _, _, _, _, _, _ => none
 | k + 1, x3, x4, x16, x102000, x102001, x102002, x102003 => if x16 = true then (if 0 ≤ x4 then (if x4 < (x102000.length : Int) then (if (((rd_T44 x102000 x4).f6).length : Int) > 200 then (some false) else (if (((rd_T44 x102000 x4).f5).size : Int) > 20000 then (some false) else (rehearsalref04_Small.l0 k (wrap64 (x3 + (((rd_T44 x102000 x4).f6).length : Int))) (wrap64 (x4 + 1)) x102000 x102001 x102002 x102003))) else (none)) else (none)) else (if (x102000.length : Int) ≤ 60 then (if x3 ≤ 200 then (some true) else (some (decide ((x102000.length : Int) > 512)))) else (some (decide ((x102000.length : Int) > 512))))
end
def rehearsalref04_Small.f (k : Nat) (l0_0 : List (S44)) (a0_1 : Int) (a0_2 : Int) (a0_3 : Int) : Option (Bool) := if a0_1 > 1099511627776 then (some false) else (rehearsalref04_Small.l0 k 0 0 l0_0 a0_1 a0_2 a0_3)
set_option maxHeartbeats 8000000 in
set_option maxRecDepth 100000 in
theorem rehearsalref04_Small.calls (k : Nat) (A0_0 : Option Addr) (c0_0 : Nat) (l0_0 : List (S44)) (a0_1 : Int) (a0_2 : Int) (a0_3 : Int) (r : Bool) (w : World) (hr0_0 : Kd.C k44 w A0_0 l0_0.length l0_0) (hc0_0 : l0_0.length ≤ c0_0) (h : rehearsalref04_Small.f k l0_0 a0_1 a0_2 a0_3 = some r) :
  Calls Tryd.prog 15 #[.agg #[.slice A0_0 l0_0.length c0_0, .int .i64 a0_1, .int .i64 a0_2, .int .i64 a0_3]] w fun e w' => e = .returned (.bool r) ∧ Below w.heap.size w w' := by
 have hu26 := Tryd.underlying26
 have HR0_0 := Aside0.mk hr0_0
 have HC0_0 := Aside0.mk hc0_0
 clear hr0_0 hc0_0
 have HB := Aside0.mk (Below.refl w.heap.size w)
 have H : (if a0_1 > 1099511627776 then (some false) else (rehearsalref04_Small.l0 k 0 0 l0_0 a0_1 a0_2 a0_3)) = some r := h
 clear h
 by_cases c2 : a0_1 > 1099511627776
 ·
  rw [if_pos c2] at H
  have c2b0 : decide (1099511627776 < a0_1) = true := decide_eq_true c2
  clear c2
  obtain rfl := Option.some.inj H
  go_enter Tryd.func15, Tryd.ntmps15
  go_wp2_with (first | ((with_reducible refine gate_dst (N := 1) rfl ?_); (try (refine gate_guard (by rfl) ?_; dsimp only)); refine box_event ?hg (N := 1) ?hd (cs := #[.slice A0_0 l0_0.length c0_0, .int .i64 a0_1, .int .i64 a0_2, .int .i64 a0_3]) (t := 26) ?hr ?_; (case hd => rfl); (case hg => rfl); (case hr => first | (go_simp; done) | (go_simp; rfl)); intro gb101 hg w3 hbox hb; have n0_ := Aside0.mk (below_step (by repeat (first | (with_reducible first | exact HB.out | apply below_alloc | apply pw_below_drewN | apply below_drew1) | exact HB.out)) hb); have n1_ := Aside0.mk (hbox); have n2_ := Aside0.mk ((by rw [hg]; exact (below_size (by repeat (first | (with_reducible first | exact HB.out | apply below_alloc | apply pw_below_drewN | apply below_drew1) | exact HB.out))) : w.heap.size ≤ gb101)); have n3_ := Aside0.mk ((by rw [hg]; exact (below_size (by repeat (first | (with_reducible first | exact HB.out | apply below_alloc | apply pw_below_drewN | apply below_drew1) | exact HB.out))) : w.heap.size ≤ gb101)); clear HB; have HB := n0_; have BK101 := n1_; have GW101 := n2_; have GE101 := n3_; clear n0_ n1_ n2_ n3_; clear hb hbox hg; have hcz4_0 : w3.cell? ⟨gb101, 0, none⟩ = some (.slice A0_0 l0_0.length c0_0) := (blk_cell BK101.out 0).trans rfl; have hcz4_1 : w3.cell? ⟨gb101, 1, none⟩ = some (.int .i64 a0_1) := (blk_cell BK101.out 1).trans rfl; have hcz4_2 : w3.cell? ⟨gb101, 2, none⟩ = some (.int .i64 a0_2) := (blk_cell BK101.out 2).trans rfl; have hcz4_3 : w3.cell? ⟨gb101, 3, none⟩ = some (.int .i64 a0_3) := (blk_cell BK101.out 3).trans rfl; have hfz4_0 := blk_frozen BK101.out 0; have hfz4_1 := blk_frozen BK101.out 1; have hfz4_2 := blk_frozen BK101.out 2; have hfz4_3 := blk_frozen BK101.out 3))
  go_ret
  exact ⟨by first | rfl | (simp [errW_none, errW_some] <;> rfl) | (simp [*, errW_none, errW_some] <;> rfl), by repeat (first | (with_reducible first | exact HB.out | apply below_alloc | apply pw_below_drewN | apply below_drew1 | refine below_set ?_ GE101.out) | exact HB.out)⟩
 ·
  rw [if_neg c2] at H
  have c2b0 : decide (1099511627776 < a0_1) = false := decide_eq_false c2
  clear c2
  have H' := Aside0.mk H
  clear H
  go_enter Tryd.func15, Tryd.ntmps15
  go_wp2_with (first | ((with_reducible refine gate_dst (N := 1) rfl ?_); (try (refine gate_guard (by rfl) ?_; dsimp only)); refine box_event ?hg (N := 1) ?hd (cs := #[.slice A0_0 l0_0.length c0_0, .int .i64 a0_1, .int .i64 a0_2, .int .i64 a0_3]) (t := 26) ?hr ?_; (case hd => rfl); (case hg => rfl); (case hr => first | (go_simp; done) | (go_simp; rfl)); intro gb101 hg w5 hbox hb; have n0_ := Aside0.mk (below_step (by repeat (first | (with_reducible first | exact HB.out | apply below_alloc | apply pw_below_drewN | apply below_drew1) | exact HB.out)) hb); have n1_ := Aside0.mk (hbox); have n2_ := Aside0.mk ((by rw [hg]; exact (below_size (by repeat (first | (with_reducible first | exact HB.out | apply below_alloc | apply pw_below_drewN | apply below_drew1) | exact HB.out))) : w.heap.size ≤ gb101)); have n3_ := Aside0.mk ((by rw [hg]; exact (below_size (by repeat (first | (with_reducible first | exact HB.out | apply below_alloc | apply pw_below_drewN | apply below_drew1) | exact HB.out))) : w.heap.size ≤ gb101)); clear HB; have HB := n0_; have BK101 := n1_; have GW101 := n2_; have GE101 := n3_; clear n0_ n1_ n2_ n3_; clear hb hbox hg; have hcz6_0 : w5.cell? ⟨gb101, 0, none⟩ = some (.slice A0_0 l0_0.length c0_0) := (blk_cell BK101.out 0).trans rfl; have hcz6_1 : w5.cell? ⟨gb101, 1, none⟩ = some (.int .i64 a0_1) := (blk_cell BK101.out 1).trans rfl; have hcz6_2 : w5.cell? ⟨gb101, 2, none⟩ = some (.int .i64 a0_2) := (blk_cell BK101.out 2).trans rfl; have hcz6_3 : w5.cell? ⟨gb101, 3, none⟩ = some (.int .i64 a0_3) := (blk_cell BK101.out 3).trans rfl; have hfz6_0 := blk_frozen BK101.out 0; have hfz6_1 := blk_frozen BK101.out 1; have hfz6_2 := blk_frozen BK101.out 2; have hfz6_3 := blk_frozen BK101.out 3))
  go_loopg [3, 4] k (fun kq v3 v4 w' => ∃ (x3_1 : Int) (x4_1 : Int), v3 = .int .i64 x3_1 ∧ v4 = .int .i64 x4_1 ∧ Aside0 (rehearsalref04_Small.l0 kq x3_1 x4_1 l0_0 a0_1 a0_2 a0_3 = some r) ∧ Aside0 (kq ≤ k) ∧ Aside0 (w'.heap[gb101]? = some (.cells #[(.slice A0_0 l0_0.length c0_0), .int .i64 a0_1, .int .i64 a0_2, .int .i64 a0_3] 26 (0, 0))) ∧ Aside0 (Below w.heap.size w w'))
  case atStart => exact ⟨(0), (0), (by first | rfl | (simp; done) | (simp [*]; done)), (by first | rfl | (simp; done) | (simp [*]; done)), H', ⟨Nat.le_refl _⟩, ⟨by (with_reducible repeat (first | refine blk_drewN ?_ _ | refine blk_drew ?_ | refine blk_alloc ?_ _)); exact BK101.out⟩, ⟨by repeat (first | (with_reducible first | exact HB.out | apply below_alloc | apply pw_below_drewN | apply below_drew1 | refine below_set ?_ GE101.out) | exact HB.out)⟩⟩
  case round =>
   clear H'
   try clear c1
   try clear c2
   try clear c2b0
   try clear p2
   try clear hcz4_0
   try clear hcz4_1
   try clear hcz4_2
   try clear hcz4_3
   try clear hcz6_0
   try clear hcz6_1
   try clear hcz6_2
   try clear hcz6_3
   try clear hfz4_0
   try clear hfz4_1
   try clear hfz4_2
   try clear hfz4_3
   try clear hfz6_0
   try clear hfz6_1
   try clear hfz6_2
   try clear hfz6_3
   obtain ⟨x3_1, x4_1, rfl, rfl, HA, HK1, BK101, HB⟩ := hrel
   cases gk with
   | zero => exact absurd HA.out (by simp [rehearsalref04_Small.l0])
   | succ k1 =>
    have H := HA.out
    clear HA
    simp only [rehearsalref04_Small.l0] at H
    have HC7 := Aside0.mk H
    clear H
    go_upto_region 5 with (fail)
    go_cut [16] (fun v16 wc => ∃ (kq : Nat) (x16_6 : Bool), v16 = .bool x16_6 ∧ Aside0 (rehearsalref04_Small.j1 kq x3_1 x4_1 x16_6 l0_0 a0_1 a0_2 a0_3 = some r) ∧ Aside0 (kq ≤ k1) ∧ Aside0 (wc.heap[gb101]? = some (.cells #[(.slice A0_0 l0_0.length c0_0), .int .i64 a0_1, .int .i64 a0_2, .int .i64 a0_3] 26 (0, 0))) ∧ Aside0 (Below w.heap.size w wc))
    case first =>
     have H := HC7.out
     clear HC7
     by_cases c8 : x4_1 < (l0_0.length : Int)
     ·
      rw [if_pos c8] at H
      have c8b0 : decide (x4_1 < (l0_0.length : Int)) = true := decide_eq_true c8
      clear c8
      (first | rw [c8b0] | (simp only [i64_w, i32_w]; rw [c8b0]) | skip)
      have H' := Aside0.mk H
      clear H
      have hcz9_0 : wr.cell? ⟨gb101, 0, none⟩ = some (.slice A0_0 l0_0.length c0_0) := (blk_cell BK101.out 0).trans rfl
      have hcz9_1 : wr.cell? ⟨gb101, 1, none⟩ = some (.int .i64 a0_1) := (blk_cell BK101.out 1).trans rfl
      have hcz9_2 : wr.cell? ⟨gb101, 2, none⟩ = some (.int .i64 a0_2) := (blk_cell BK101.out 2).trans rfl
      have hcz9_3 : wr.cell? ⟨gb101, 3, none⟩ = some (.int .i64 a0_3) := (blk_cell BK101.out 3).trans rfl
      have hfz9_0 := blk_frozen BK101.out 0
      have hfz9_1 := blk_frozen BK101.out 1
      have hfz9_2 := blk_frozen BK101.out 2
      have hfz9_3 := blk_frozen BK101.out 3
      go_wp2
      go_meet
      case rel => exact ⟨_, (decide (x4_1 < 200)), (by first | rfl | (simp; done) | (simp [*]; done)), H', ⟨by have := HK1.out; first | omega | exact Nat.le_refl _⟩, ⟨by (with_reducible repeat (first | refine blk_drewN ?_ _ | refine blk_drew ?_ | refine blk_alloc ?_ _)); exact BK101.out⟩, ⟨by repeat (first | (with_reducible first | exact HB.out | apply below_alloc | apply pw_below_drewN | apply below_drew1 | refine below_set ?_ GE101.out) | exact HB.out)⟩⟩
     ·
      rw [if_neg c8] at H
      have c8b0 : decide (x4_1 < (l0_0.length : Int)) = false := decide_eq_false c8
      clear c8
      (first | rw [c8b0] | (simp only [i64_w, i32_w]; rw [c8b0]) | skip)
      have H' := Aside0.mk H
      clear H
      have hcz10_0 : wr.cell? ⟨gb101, 0, none⟩ = some (.slice A0_0 l0_0.length c0_0) := (blk_cell BK101.out 0).trans rfl
      have hcz10_1 : wr.cell? ⟨gb101, 1, none⟩ = some (.int .i64 a0_1) := (blk_cell BK101.out 1).trans rfl
      have hcz10_2 : wr.cell? ⟨gb101, 2, none⟩ = some (.int .i64 a0_2) := (blk_cell BK101.out 2).trans rfl
      have hcz10_3 : wr.cell? ⟨gb101, 3, none⟩ = some (.int .i64 a0_3) := (blk_cell BK101.out 3).trans rfl
      have hfz10_0 := blk_frozen BK101.out 0
      have hfz10_1 := blk_frozen BK101.out 1
      have hfz10_2 := blk_frozen BK101.out 2
      have hfz10_3 := blk_frozen BK101.out 3
      go_wp2
      go_meet
      case rel => exact ⟨_, (false), (by first | rfl | (simp; done) | (simp [*]; done)), H', ⟨by have := HK1.out; first | omega | exact Nat.le_refl _⟩, ⟨by (with_reducible repeat (first | refine blk_drewN ?_ _ | refine blk_drew ?_ | refine blk_alloc ?_ _)); exact BK101.out⟩, ⟨by repeat (first | (with_reducible first | exact HB.out | apply below_alloc | apply pw_below_drewN | apply below_drew1 | refine below_set ?_ GE101.out) | exact HB.out)⟩⟩
    case rest =>
     clear HC7
     try clear c1
     try clear c2
     try clear c2b0
     try clear p2
     try clear c8
     try clear c8b0
     try clear hcz10_0
     try clear hcz10_1
     try clear hcz10_2
     try clear hcz10_3
     try clear hcz4_0
     try clear hcz4_1
     try clear hcz4_2
     try clear hcz4_3
     try clear hcz6_0
     try clear hcz6_1
     try clear hcz6_2
     try clear hcz6_3
     try clear hcz9_0
     try clear hcz9_1
     try clear hcz9_2
     try clear hcz9_3
     try clear hfz10_0
     try clear hfz10_1
     try clear hfz10_2
     try clear hfz10_3
     try clear hfz4_0
     try clear hfz4_1
     try clear hfz4_2
     try clear hfz4_3
     try clear hfz6_0
     try clear hfz6_1
     try clear hfz6_2
     try clear hfz6_3
     try clear hfz9_0
     try clear hfz9_1
     try clear hfz9_2
     try clear hfz9_3
     try clear p2
     obtain ⟨kq, x16_6, rfl, HA, HJ6, BK101, HB⟩ := hcut
     cases kq with
     | zero => exact absurd HA.out (by simp [rehearsalref04_Small.j1])
     | succ kj6 =>
      have H := HA.out
      clear HA
      simp only [rehearsalref04_Small.j1] at H
      by_cases c11 : x16_6 = true
      ·
       subst c11
       have H1 : (if 0 ≤ x4_1 then (if x4_1 < (l0_0.length : Int) then (if (((rd_T44 l0_0 x4_1).f6).length : Int) > 200 then (some false) else (if (((rd_T44 l0_0 x4_1).f5).size : Int) > 20000 then (some false) else (rehearsalref04_Small.l0 kj6 (wrap64 (x3_1 + (((rd_T44 l0_0 x4_1).f6).length : Int))) (wrap64 (x4_1 + 1)) l0_0 a0_1 a0_2 a0_3))) else (none)) else (none)) = some r := by rw [if_pos rfl] at H; exact H
       clear H
       have H := H1
       clear H1
       by_cases c12 : 0 ≤ x4_1
       ·
        rw [if_pos c12] at H
        have c12b0 : decide (0 ≤ x4_1) = true := decide_eq_true c12
        clear c12
        by_cases c13 : x4_1 < (l0_0.length : Int)
        ·
         rw [if_pos c13] at H
         have c13b0 : decide (x4_1 < (l0_0.length : Int)) = true := decide_eq_true c13
         clear c13
         by_cases c14 : (((rd_T44 l0_0 x4_1).f6).length : Int) > 200
         ·
          rw [if_pos c14] at H
          have c14b0 : decide (200 < (((rd_T44 l0_0 x4_1).f6).length : Int)) = true := decide_eq_true c14
          have c14b1 : decide (200 < ((rd_T44 l0_0 x4_1).f6).length) = true := decide_eq_true (by omega)
          clear c14
          obtain rfl := Option.some.inj H
          have hcz15_0 : wc.cell? ⟨gb101, 0, none⟩ = some (.slice A0_0 l0_0.length c0_0) := (blk_cell BK101.out 0).trans rfl
          have hcz15_1 : wc.cell? ⟨gb101, 1, none⟩ = some (.int .i64 a0_1) := (blk_cell BK101.out 1).trans rfl
          have hcz15_2 : wc.cell? ⟨gb101, 2, none⟩ = some (.int .i64 a0_2) := (blk_cell BK101.out 2).trans rfl
          have hcz15_3 : wc.cell? ⟨gb101, 3, none⟩ = some (.int .i64 a0_3) := (blk_cell BK101.out 3).trans rfl
          have hfz15_0 := blk_frozen BK101.out 0
          have hfz15_1 := blk_frozen BK101.out 1
          have hfz15_2 := blk_frozen BK101.out 2
          have hfz15_3 := blk_frozen BK101.out 3
          have p102 : 0 ≤ (x4_1 : Int) := of_decide_eq_true (by first | (with_reducible assumption) | assumption)
          have q102 : x4_1 < (l0_0.length : Int) := of_decide_eq_true (by first | (with_reducible assumption) | assumption)
          obtain ⟨ad102, A102_6, c102_6, e102, hx102_0, hx102_1, hx102_2, hx102_3, hx102_4, hx102_5, hx102_6, hl102_6, hi102_6⟩ := at_T44 HR0_0.out x4_1 p102 q102
          cases e102
          replace hx102_0 := (HB.out.cell (World.block_lt_of_cell? w _ hx102_0)).trans hx102_0
          replace hx102_1 := (HB.out.cell (World.block_lt_of_cell? w _ hx102_1)).trans hx102_1
          replace hx102_2 := (HB.out.cell (World.block_lt_of_cell? w _ hx102_2)).trans hx102_2
          replace hx102_3 := (HB.out.cell (World.block_lt_of_cell? w _ hx102_3)).trans hx102_3
          replace hx102_4 := (HB.out.cell (World.block_lt_of_cell? w _ hx102_4)).trans hx102_4
          replace hx102_5 := (HB.out.cell (World.block_lt_of_cell? w _ hx102_5)).trans hx102_5
          replace hx102_6 := (HB.out.cell (World.block_lt_of_cell? w _ hx102_6)).trans hx102_6
          have HR102_6 := Aside0.mk hi102_6
          have HC102_6 := Aside0.mk hl102_6
          clear hi102_6 hl102_6
          replace p102 := eq_true p102
          replace q102 := eq_true q102
          go_wp2
          go_ret
          exact ⟨by first | rfl | (simp [errW_none, errW_some] <;> rfl) | (simp [*, errW_none, errW_some] <;> rfl), by repeat (first | (with_reducible first | exact HB.out | apply below_alloc | apply pw_below_drewN | apply below_drew1 | refine below_set ?_ GE101.out) | exact HB.out)⟩
         ·
          rw [if_neg c14] at H
          have c14b0 : decide (200 < (((rd_T44 l0_0 x4_1).f6).length : Int)) = false := decide_eq_false c14
          have c14b1 : decide (200 < ((rd_T44 l0_0 x4_1).f6).length) = false := decide_eq_false (by omega)
          clear c14
          by_cases c16 : (((rd_T44 l0_0 x4_1).f5).size : Int) > 20000
          ·
           rw [if_pos c16] at H
           have c16b0 : decide (20000 < (((rd_T44 l0_0 x4_1).f5).size : Int)) = true := decide_eq_true c16
           have c16b1 : decide (20000 < ((rd_T44 l0_0 x4_1).f5).size) = true := decide_eq_true (by omega)
           clear c16
           obtain rfl := Option.some.inj H
           have hcz17_0 : wc.cell? ⟨gb101, 0, none⟩ = some (.slice A0_0 l0_0.length c0_0) := (blk_cell BK101.out 0).trans rfl
           have hcz17_1 : wc.cell? ⟨gb101, 1, none⟩ = some (.int .i64 a0_1) := (blk_cell BK101.out 1).trans rfl
           have hcz17_2 : wc.cell? ⟨gb101, 2, none⟩ = some (.int .i64 a0_2) := (blk_cell BK101.out 2).trans rfl
           have hcz17_3 : wc.cell? ⟨gb101, 3, none⟩ = some (.int .i64 a0_3) := (blk_cell BK101.out 3).trans rfl
           have hfz17_0 := blk_frozen BK101.out 0
           have hfz17_1 := blk_frozen BK101.out 1
           have hfz17_2 := blk_frozen BK101.out 2
           have hfz17_3 := blk_frozen BK101.out 3
           have p102 : 0 ≤ (x4_1 : Int) := of_decide_eq_true (by first | (with_reducible assumption) | assumption)
           have q102 : x4_1 < (l0_0.length : Int) := of_decide_eq_true (by first | (with_reducible assumption) | assumption)
           obtain ⟨ad102, A102_6, c102_6, e102, hx102_0, hx102_1, hx102_2, hx102_3, hx102_4, hx102_5, hx102_6, hl102_6, hi102_6⟩ := at_T44 HR0_0.out x4_1 p102 q102
           cases e102
           replace hx102_0 := (HB.out.cell (World.block_lt_of_cell? w _ hx102_0)).trans hx102_0
           replace hx102_1 := (HB.out.cell (World.block_lt_of_cell? w _ hx102_1)).trans hx102_1
           replace hx102_2 := (HB.out.cell (World.block_lt_of_cell? w _ hx102_2)).trans hx102_2
           replace hx102_3 := (HB.out.cell (World.block_lt_of_cell? w _ hx102_3)).trans hx102_3
           replace hx102_4 := (HB.out.cell (World.block_lt_of_cell? w _ hx102_4)).trans hx102_4
           replace hx102_5 := (HB.out.cell (World.block_lt_of_cell? w _ hx102_5)).trans hx102_5
           replace hx102_6 := (HB.out.cell (World.block_lt_of_cell? w _ hx102_6)).trans hx102_6
           have HR102_6 := Aside0.mk hi102_6
           have HC102_6 := Aside0.mk hl102_6
           clear hi102_6 hl102_6
           replace p102 := eq_true p102
           replace q102 := eq_true q102
           have p103 : 0 ≤ (x4_1 : Int) := of_decide_eq_true (by first | (with_reducible assumption) | assumption)
           have q103 : x4_1 < (l0_0.length : Int) := of_decide_eq_true (by first | (with_reducible assumption) | assumption)
           obtain ⟨ad103, A103_6, c103_6, e103, hx103_0, hx103_1, hx103_2, hx103_3, hx103_4, hx103_5, hx103_6, hl103_6, hi103_6⟩ := at_T44 HR0_0.out x4_1 p103 q103
           obtain rfl : ad102 = ad103 := (by injection e103)
           replace hx103_0 := (HB.out.cell (World.block_lt_of_cell? w _ hx103_0)).trans hx103_0
           replace hx103_1 := (HB.out.cell (World.block_lt_of_cell? w _ hx103_1)).trans hx103_1
           replace hx103_2 := (HB.out.cell (World.block_lt_of_cell? w _ hx103_2)).trans hx103_2
           replace hx103_3 := (HB.out.cell (World.block_lt_of_cell? w _ hx103_3)).trans hx103_3
           replace hx103_4 := (HB.out.cell (World.block_lt_of_cell? w _ hx103_4)).trans hx103_4
           replace hx103_5 := (HB.out.cell (World.block_lt_of_cell? w _ hx103_5)).trans hx103_5
           replace hx103_6 := (HB.out.cell (World.block_lt_of_cell? w _ hx103_6)).trans hx103_6
           have HR103_6 := Aside0.mk hi103_6
           have HC103_6 := Aside0.mk hl103_6
           clear hi103_6 hl103_6
           replace p103 := eq_true p103
           replace q103 := eq_true q103
           have ea_ := Option.some.inj (hx102_6.symm.trans hx103_6)
           injection ea_ with ea_ en_ ec_
           subst ea_
           subst ec_
           clear en_
           go_wp2
           go_ret
           exact ⟨by first | rfl | (simp [errW_none, errW_some] <;> rfl) | (simp [*, errW_none, errW_some] <;> rfl), by repeat (first | (with_reducible first | exact HB.out | apply below_alloc | apply pw_below_drewN | apply below_drew1 | refine below_set ?_ GE101.out) | exact HB.out)⟩
          ·
           rw [if_neg c16] at H
           have c16b0 : decide (20000 < (((rd_T44 l0_0 x4_1).f5).size : Int)) = false := decide_eq_false c16
           have c16b1 : decide (20000 < ((rd_T44 l0_0 x4_1).f5).size) = false := decide_eq_false (by omega)
           clear c16
           have H' := Aside0.mk H
           clear H
           have hcz18_0 : wc.cell? ⟨gb101, 0, none⟩ = some (.slice A0_0 l0_0.length c0_0) := (blk_cell BK101.out 0).trans rfl
           have hcz18_1 : wc.cell? ⟨gb101, 1, none⟩ = some (.int .i64 a0_1) := (blk_cell BK101.out 1).trans rfl
           have hcz18_2 : wc.cell? ⟨gb101, 2, none⟩ = some (.int .i64 a0_2) := (blk_cell BK101.out 2).trans rfl
           have hcz18_3 : wc.cell? ⟨gb101, 3, none⟩ = some (.int .i64 a0_3) := (blk_cell BK101.out 3).trans rfl
           have hfz18_0 := blk_frozen BK101.out 0
           have hfz18_1 := blk_frozen BK101.out 1
           have hfz18_2 := blk_frozen BK101.out 2
           have hfz18_3 := blk_frozen BK101.out 3
           have p102 : 0 ≤ (x4_1 : Int) := of_decide_eq_true (by first | (with_reducible assumption) | assumption)
           have q102 : x4_1 < (l0_0.length : Int) := of_decide_eq_true (by first | (with_reducible assumption) | assumption)
           obtain ⟨ad102, A102_6, c102_6, e102, hx102_0, hx102_1, hx102_2, hx102_3, hx102_4, hx102_5, hx102_6, hl102_6, hi102_6⟩ := at_T44 HR0_0.out x4_1 p102 q102
           cases e102
           replace hx102_0 := (HB.out.cell (World.block_lt_of_cell? w _ hx102_0)).trans hx102_0
           replace hx102_1 := (HB.out.cell (World.block_lt_of_cell? w _ hx102_1)).trans hx102_1
           replace hx102_2 := (HB.out.cell (World.block_lt_of_cell? w _ hx102_2)).trans hx102_2
           replace hx102_3 := (HB.out.cell (World.block_lt_of_cell? w _ hx102_3)).trans hx102_3
           replace hx102_4 := (HB.out.cell (World.block_lt_of_cell? w _ hx102_4)).trans hx102_4
           replace hx102_5 := (HB.out.cell (World.block_lt_of_cell? w _ hx102_5)).trans hx102_5
           replace hx102_6 := (HB.out.cell (World.block_lt_of_cell? w _ hx102_6)).trans hx102_6
           have HR102_6 := Aside0.mk hi102_6
           have HC102_6 := Aside0.mk hl102_6
           clear hi102_6 hl102_6
           replace p102 := eq_true p102
           replace q102 := eq_true q102
           have p103 : 0 ≤ (x4_1 : Int) := of_decide_eq_true (by first | (with_reducible assumption) | assumption)
           have q103 : x4_1 < (l0_0.length : Int) := of_decide_eq_true (by first | (with_reducible assumption) | assumption)
           obtain ⟨ad103, A103_6, c103_6, e103, hx103_0, hx103_1, hx103_2, hx103_3, hx103_4, hx103_5, hx103_6, hl103_6, hi103_6⟩ := at_T44 HR0_0.out x4_1 p103 q103
           obtain rfl : ad102 = ad103 := (by injection e103)
           replace hx103_0 := (HB.out.cell (World.block_lt_of_cell? w _ hx103_0)).trans hx103_0
           replace hx103_1 := (HB.out.cell (World.block_lt_of_cell? w _ hx103_1)).trans hx103_1
           replace hx103_2 := (HB.out.cell (World.block_lt_of_cell? w _ hx103_2)).trans hx103_2
           replace hx103_3 := (HB.out.cell (World.block_lt_of_cell? w _ hx103_3)).trans hx103_3
           replace hx103_4 := (HB.out.cell (World.block_lt_of_cell? w _ hx103_4)).trans hx103_4
           replace hx103_5 := (HB.out.cell (World.block_lt_of_cell? w _ hx103_5)).trans hx103_5
           replace hx103_6 := (HB.out.cell (World.block_lt_of_cell? w _ hx103_6)).trans hx103_6
           have HR103_6 := Aside0.mk hi103_6
           have HC103_6 := Aside0.mk hl103_6
           clear hi103_6 hl103_6
           replace p103 := eq_true p103
           replace q103 := eq_true q103
           have ea_ := Option.some.inj (hx102_6.symm.trans hx103_6)
           injection ea_ with ea_ en_ ec_
           subst ea_
           subst ec_
           clear en_
           have p104 : 0 ≤ (x4_1 : Int) := of_decide_eq_true (by first | (with_reducible assumption) | assumption)
           have q104 : x4_1 < (l0_0.length : Int) := of_decide_eq_true (by first | (with_reducible assumption) | assumption)
           obtain ⟨ad104, A104_6, c104_6, e104, hx104_0, hx104_1, hx104_2, hx104_3, hx104_4, hx104_5, hx104_6, hl104_6, hi104_6⟩ := at_T44 HR0_0.out x4_1 p104 q104
           obtain rfl : ad102 = ad104 := (by injection e104)
           replace hx104_0 := (HB.out.cell (World.block_lt_of_cell? w _ hx104_0)).trans hx104_0
           replace hx104_1 := (HB.out.cell (World.block_lt_of_cell? w _ hx104_1)).trans hx104_1
           replace hx104_2 := (HB.out.cell (World.block_lt_of_cell? w _ hx104_2)).trans hx104_2
           replace hx104_3 := (HB.out.cell (World.block_lt_of_cell? w _ hx104_3)).trans hx104_3
           replace hx104_4 := (HB.out.cell (World.block_lt_of_cell? w _ hx104_4)).trans hx104_4
           replace hx104_5 := (HB.out.cell (World.block_lt_of_cell? w _ hx104_5)).trans hx104_5
           replace hx104_6 := (HB.out.cell (World.block_lt_of_cell? w _ hx104_6)).trans hx104_6
           have HR104_6 := Aside0.mk hi104_6
           have HC104_6 := Aside0.mk hl104_6
           clear hi104_6 hl104_6
           replace p104 := eq_true p104
           replace q104 := eq_true q104
           have ea_ := Option.some.inj (hx102_6.symm.trans hx104_6)
           injection ea_ with ea_ en_ ec_
           subst ea_
           subst ec_
           clear en_
           go_wp2
           go_roundg kj6
           case measure => have := HK1.out; have := HJ6.out; omega
           case rel => exact ⟨(wrap64 (x3_1 + (((rd_T44 l0_0 x4_1).f6).length : Int))), (wrap64 (x4_1 + 1)), (by first | rfl | (simp; done) | (simp [*]; done)), (by first | rfl | (simp; done) | (simp [*]; done)), H', ⟨by have := HK1.out; have := HJ6.out; omega⟩, ⟨by (with_reducible repeat (first | refine blk_drewN ?_ _ | refine blk_drew ?_ | refine blk_alloc ?_ _)); exact BK101.out⟩, ⟨by repeat (first | (with_reducible first | exact HB.out | apply below_alloc | apply pw_below_drewN | apply below_drew1 | refine below_set ?_ GE101.out) | exact HB.out)⟩⟩
        ·
         rw [if_neg c13] at H
         exact absurd H (by simp)
       ·
        rw [if_neg c12] at H
        exact absurd H (by simp)
      ·
       replace c11 := Bool.eq_false_iff.mpr c11
       subst c11
       have H1 : (if (l0_0.length : Int) ≤ 60 then (if x3_1 ≤ 200 then (some true) else (some (decide ((l0_0.length : Int) > 512)))) else (some (decide ((l0_0.length : Int) > 512)))) = some r := by rw [if_neg (show ¬ (false = true) by decide)] at H; exact H
       clear H
       have H := H1
       clear H1
       by_cases c19 : (l0_0.length : Int) ≤ 60
       ·
        rw [if_pos c19] at H
        have c19b0 : decide ((l0_0.length : Int) ≤ 60) = true := decide_eq_true c19
        have c19b1 : decide (l0_0.length ≤ 60) = true := decide_eq_true (by omega)
        clear c19
        by_cases c20 : x3_1 ≤ 200
        ·
         rw [if_pos c20] at H
         have c20b0 : decide (x3_1 ≤ 200) = true := decide_eq_true c20
         clear c20
         obtain rfl := Option.some.inj H
         have hcz21_0 : wc.cell? ⟨gb101, 0, none⟩ = some (.slice A0_0 l0_0.length c0_0) := (blk_cell BK101.out 0).trans rfl
         have hcz21_1 : wc.cell? ⟨gb101, 1, none⟩ = some (.int .i64 a0_1) := (blk_cell BK101.out 1).trans rfl
         have hcz21_2 : wc.cell? ⟨gb101, 2, none⟩ = some (.int .i64 a0_2) := (blk_cell BK101.out 2).trans rfl
         have hcz21_3 : wc.cell? ⟨gb101, 3, none⟩ = some (.int .i64 a0_3) := (blk_cell BK101.out 3).trans rfl
         have hfz21_0 := blk_frozen BK101.out 0
         have hfz21_1 := blk_frozen BK101.out 1
         have hfz21_2 := blk_frozen BK101.out 2
         have hfz21_3 := blk_frozen BK101.out 3
         go_wp2
         go_ret
         exact ⟨by first | rfl | (simp [errW_none, errW_some] <;> rfl) | (simp [*, errW_none, errW_some] <;> rfl), by repeat (first | (with_reducible first | exact HB.out | apply below_alloc | apply pw_below_drewN | apply below_drew1 | refine below_set ?_ GE101.out) | exact HB.out)⟩
        ·
         rw [if_neg c20] at H
         have c20b0 : decide (x3_1 ≤ 200) = false := decide_eq_false c20
         clear c20
         obtain rfl := Option.some.inj H
         have hcz22_0 : wc.cell? ⟨gb101, 0, none⟩ = some (.slice A0_0 l0_0.length c0_0) := (blk_cell BK101.out 0).trans rfl
         have hcz22_1 : wc.cell? ⟨gb101, 1, none⟩ = some (.int .i64 a0_1) := (blk_cell BK101.out 1).trans rfl
         have hcz22_2 : wc.cell? ⟨gb101, 2, none⟩ = some (.int .i64 a0_2) := (blk_cell BK101.out 2).trans rfl
         have hcz22_3 : wc.cell? ⟨gb101, 3, none⟩ = some (.int .i64 a0_3) := (blk_cell BK101.out 3).trans rfl
         have hfz22_0 := blk_frozen BK101.out 0
         have hfz22_1 := blk_frozen BK101.out 1
         have hfz22_2 := blk_frozen BK101.out 2
         have hfz22_3 := blk_frozen BK101.out 3
         go_wp2
         go_ret
         exact ⟨by first | rfl | (simp [errW_none, errW_some] <;> rfl) | (simp [*, errW_none, errW_some] <;> rfl), by repeat (first | (with_reducible first | exact HB.out | apply below_alloc | apply pw_below_drewN | apply below_drew1 | refine below_set ?_ GE101.out) | exact HB.out)⟩
       ·
        rw [if_neg c19] at H
        have c19b0 : decide ((l0_0.length : Int) ≤ 60) = false := decide_eq_false c19
        have c19b1 : decide (l0_0.length ≤ 60) = false := decide_eq_false (by omega)
        clear c19
        obtain rfl := Option.some.inj H
        have hcz23_0 : wc.cell? ⟨gb101, 0, none⟩ = some (.slice A0_0 l0_0.length c0_0) := (blk_cell BK101.out 0).trans rfl
        have hcz23_1 : wc.cell? ⟨gb101, 1, none⟩ = some (.int .i64 a0_1) := (blk_cell BK101.out 1).trans rfl
        have hcz23_2 : wc.cell? ⟨gb101, 2, none⟩ = some (.int .i64 a0_2) := (blk_cell BK101.out 2).trans rfl
        have hcz23_3 : wc.cell? ⟨gb101, 3, none⟩ = some (.int .i64 a0_3) := (blk_cell BK101.out 3).trans rfl
        have hfz23_0 := blk_frozen BK101.out 0
        have hfz23_1 := blk_frozen BK101.out 1
        have hfz23_2 := blk_frozen BK101.out 2
        have hfz23_3 := blk_frozen BK101.out 3
        go_wp2
        go_ret
        exact ⟨by first | rfl | (simp [errW_none, errW_some] <;> rfl) | (simp [*, errW_none, errW_some] <;> rfl), by repeat (first | (with_reducible first | exact HB.out | apply below_alloc | apply pw_below_drewN | apply below_drew1 | refine below_set ?_ GE101.out) | exact HB.out)⟩
end Go.Proofs.YtnpnablnnfekkaaDoor.PTr
set_option linter.unusedVariables false
namespace Go.Proofs.YtnpnablnnfekkaaDoor.PTr
open Go.RowKit Go.Proofs.YtnpnablnnfekkaaDoor Go.Proofs.YtnpnablnnfekkaaDoorW.PrintWords
def tree_Canon.f (l : List Nod) (a1 a2 a3 : Int) : Option (List Nod × Int × Int × Int × Int) := if eB l = true then some (canM l a1 a2 a3) else none
theorem tree_Canon.calls (A : Option Addr) (c : Nat) (l : List Nod) (a1 a2 a3 : Int) (r1 : List Nod) (r2 r3 r4 r5 : Int) (w : World) (hr0 : Kd.C k44 w A l.length l) (hc00 : l.length ≤ c) (h : tree_Canon.f l a1 a2 a3 = some (r1, r2, r3, r4, r5)) :
  Calls Tryd.prog 24 #[.agg #[.slice A l.length c, .int .i64 a1, .int .i64 a2, .int .i64 a3]] w fun e w' => ∃ v0_ : Value, e = .returned (.tuple #[.agg #[v0_, .int .i64 r2, .int .i64 r3, .int .i64 r4], .int .i64 r5]) ∧ Kd.S k44 44 w' w.heap.size (fun _ => True) v0_ r1 ∧ Below w.heap.size w w' := by
 unfold tree_Canon.f at h
 split at h
 ·
  rename_i hE
  have h := Option.some.inj h
  have hc := canon_any A c l a1 a2 a3 w hr0 hc00 (eB_ok hE)
  rw [h] at hc
  exact hc
 ·
  cases h
end Go.Proofs.YtnpnablnnfekkaaDoor.PTr
namespace Go.Proofs.YtnpnablnnfekkaaDoor.PTr
open Go.RowKit Go.Proofs.YtnpnablnnfekkaaDoorW.PrintWords Go.Proofs.YtnpnablnnfekkaaDoorW.PrintLast Go.Proofs.YtnpnablnnfekkaaDoorW.PrintMore
attribute [local go_sem] max2_int min2_int max_two min_two max_three min_three max_four min_four   -- for this text's walks alone
set_option linter.unusedVariables false
set_option linter.unusedSimpArgs false
theorem w64_PTr4 (x : Int) : wrap64 (x % 256) = x % 256 := by unfold wrap64; omega
def tree_New.f (a0_0 : Int) (a0_1 : Int) : Option ((List (S44)) × Int × Int × Int) := some ((([(⟨1, 1, 493, 0, 0, (⟨#[]⟩ : ByteArray), ([] : List (S61))⟩ : S44)] : List (S44))), 1, a0_0, a0_1)
set_option maxHeartbeats 8000000 in
set_option maxRecDepth 100000 in
theorem tree_New.calls (a0_0 : Int) (a0_1 : Int) (r1 : List (S44)) (r2 : Int) (r3 : Int) (r4 : Int) (w : World) (h : tree_New.f a0_0 a0_1 = some (r1, r2, r3, r4)) :
  Calls Tryd.prog 20 #[.agg #[.int .i64 a0_0, .int .i64 a0_1]] w fun e w' => ∃ v0_ : Value, e = .returned (.agg #[v0_, .int .i64 r2, .int .i64 r3, .int .i64 r4]) ∧ Kd.S k44 44 w' w.heap.size (fun _ => True) v0_ r1 ∧ Below w.heap.size w w' := by
 have hu24 := Tryd.underlying24
 have hu26 := Tryd.underlying26
 have hu44 := Tryd.underlying44
 have HB := Aside0.mk (Below.refl w.heap.size w)
 have H : (some ((([(⟨1, 1, 493, 0, 0, (⟨#[]⟩ : ByteArray), ([] : List (S61))⟩ : S44)] : List (S44))), 1, a0_0, a0_1)) = some (r1, r2, r3, r4) := h
 clear h
 obtain ⟨y107, hy107⟩ : ∃ y_ : List (S44), y_ = (([(⟨1, 1, 493, 0, 0, (⟨#[]⟩ : ByteArray), ([] : List (S61))⟩ : S44)] : List (S44))) := ⟨_, rfl⟩
 replace H : (some (y107, 1, a0_0, a0_1)) = some (r1, r2, r3, r4) := by first | (rw [hy107]; with_reducible exact H) | (have H2_ := (Option.bind_some _ _).symm.trans H; rw [hy107]; with_reducible exact H2_) | (have H2_ := (Option.bind_some _ _).symm.trans H; with_reducible exact H2_) | with_reducible exact H | (rw [hy107]; exact H) | exact H
 have Ny107 := Aside0.mk hy107
 clear hy107
 simp only [Option.some.injEq, Prod.mk.injEq] at H
 obtain ⟨rfl, rfl, rfl, rfl⟩ := H
 go_enter Tryd.func20, Tryd.ntmps20
 go_wp2_with (first | ((with_reducible refine gate_dst (N := 1) rfl ?_); refine box_event ?hg (N := 1) ?hd (cs := #[.int .i64 a0_0, .int .i64 a0_1]) (t := 24) ?hr ?_; (case hd => rfl); (case hg => rfl); (case hr => first | (go_simp; done) | (go_simp; rfl)); intro gb105 hg w2 hbox hb; have n0_ := Aside0.mk (below_step (by repeat (first | (with_reducible first | exact HB.out | apply below_alloc | apply pw_below_drewN | apply below_drew1) | exact HB.out)) hb); have n1_ := Aside0.mk (hbox); have n2_ := Aside0.mk ((by rw [hg]; exact (below_size (by repeat (first | (with_reducible first | exact HB.out | apply below_alloc | apply pw_below_drewN | apply below_drew1) | exact HB.out))) : w.heap.size ≤ gb105)); have n3_ := Aside0.mk ((by rw [hg]; exact (below_size (by repeat (first | (with_reducible first | exact HB.out | apply below_alloc | apply pw_below_drewN | apply below_drew1) | exact HB.out))) : w.heap.size ≤ gb105)); clear HB; have HB := n0_; have BK105 := n1_; have GW105 := n2_; have GE105 := n3_; clear n0_ n1_ n2_ n3_; clear hb hbox hg) | ((with_reducible refine gate_dst (N := 2) rfl ?_); refine box_event ?hg (N := 2) ?hd (cs := #[.slice none 0 0, .int .i64 0, .int .i64 0, .int .i64 0]) (t := 26) ?hr ?_; (case hd => rfl); (case hg => rfl); (case hr => first | (go_simp; done) | (go_simp; rfl)); intro gb106 hg w3 hbox hb; have n0_ := Aside0.mk (blk_below (g := gb105) (o := .cells #[.int .i64 a0_0, .int .i64 a0_1] 24 (0, 0)) (by (with_reducible repeat (first | refine blk_drewN ?_ _ | refine blk_drew ?_ | refine blk_alloc ?_ _)); exact BK105.out) hb); have n1_ := Aside0.mk (below_step (by repeat (first | (with_reducible first | exact HB.out | apply below_alloc | apply pw_below_drewN | apply below_drew1 | refine below_set ?_ GE105.out) | exact HB.out)) hb); have n2_ := Aside0.mk (hbox); have n3_ := Aside0.mk ((by rw [hg]; exact (below_size (by repeat (first | (with_reducible first | exact HB.out | apply below_alloc | apply pw_below_drewN | apply below_drew1 | refine below_set ?_ GE105.out) | exact HB.out))) : w.heap.size ≤ gb106)); have n4_ := Aside0.mk ((by rw [hg]; exact (below_size (by repeat (first | (with_reducible first | exact HB.out | apply below_alloc | apply pw_below_drewN | apply below_drew1 | refine below_set ?_ GE105.out) | exact HB.out))) : w.heap.size ≤ gb106)); have n5_ := Aside0.mk ((by rw [hg]; exact Nat.ne_of_lt (blk_lt (g := gb105) (o := .cells #[.int .i64 a0_0, .int .i64 a0_1] 24 (0, 0)) (by (with_reducible repeat (first | refine blk_drewN ?_ _ | refine blk_drew ?_ | refine blk_alloc ?_ _)); exact BK105.out)) : gb105 ≠ gb106)); have n6_ := Aside0.mk ((by rw [hg]; exact Nat.ne_of_gt (blk_lt (g := gb105) (o := .cells #[.int .i64 a0_0, .int .i64 a0_1] 24 (0, 0)) (by (with_reducible repeat (first | refine blk_drewN ?_ _ | refine blk_drew ?_ | refine blk_alloc ?_ _)); exact BK105.out)) : gb106 ≠ gb105)); clear BK105; clear HB; have BK105 := n0_; have HB := n1_; have BK106 := n2_; have GW106 := n3_; have GE106 := n4_; have NB105_106 := n5_; have NB106_105 := n6_; clear n0_ n1_ n2_ n3_ n4_ n5_ n6_; clear hb hbox hg) | ((with_reducible refine gate_dst (N := 4) rfl ?_); refine Kd.S_lit k44 _ 44 ?hg (N := 4) ?hd (xs := ([(⟨1, 1, 493, 0, 0, (⟨#[]⟩ : ByteArray), ([] : List (S61))⟩ : S44)] : List (S44))) (inner := [.int .i64 1, .int .i64 1, .int .i64 493, .int .i64 0, .int .i64 0, .string (⟨#[]⟩ : ByteArray), .slice none 0 0]) (ok := fun _ => True) (okp := fun _ => True) ?hr ?hp (fun _ hk => hk) trivial (Below.refl _ _) (Nat.le_refl _) (by simp) ?_; (case hd => rfl); (case hg => rfl); (case hr => first | (go_simp; done) | (go_simp; rfl)); (case hp => exact (Reps.c7 (show Kd.M k44 _ _ _ (⟨1, 1, 493, 0, 0, (⟨#[]⟩ : ByteArray), ([] : List (S61))⟩ : S44) [.int .i64 1, .int .i64 1, .int .i64 493, .int .i64 0, .int .i64 0, .string (⟨#[]⟩ : ByteArray), .slice none 0 0] from (k44_mkM _ _ _ (⟨1, 1, 493, 0, 0, (⟨#[]⟩ : ByteArray), ([] : List (S61))⟩ : S44) (Kd.R_nil _ _ _ _ _))) (Reps.none _ _))); intro v108 w4 ho5 hb hg_ hnew_; clear hg_ hnew_; (first | rw [← Ny107.out] at ho5 | (simp only [Int.reduceToNat] at ho5; rw [← Ny107.out] at ho5)); have n0_ := Aside0.mk (Kd.S_lower ho5 (below_size (by repeat (first | (with_reducible first | exact HB.out | apply below_alloc | apply pw_below_drewN | apply below_drew1 | refine below_set ?_ GE105.out | refine below_set ?_ GE106.out) | exact HB.out)))); have n1_ := Aside0.mk (blk_below (g := gb105) (o := .cells #[.int .i64 a0_0, .int .i64 a0_1] 24 (0, 0)) (by (with_reducible repeat (first | refine blk_drewN ?_ _ | refine blk_drew ?_ | refine blk_alloc ?_ _)); exact BK105.out) hb); have n2_ := Aside0.mk (blk_below (g := gb106) (o := .cells #[.slice none 0 0, .int .i64 0, .int .i64 0, .int .i64 0] 26 (0, 0)) (by (with_reducible repeat (first | refine blk_drewN ?_ _ | refine blk_drew ?_ | refine blk_alloc ?_ _)); exact BK106.out) hb); have n3_ := Aside0.mk (below_step (by repeat (first | (with_reducible first | exact HB.out | apply below_alloc | apply pw_below_drewN | apply below_drew1 | refine below_set ?_ GE105.out | refine below_set ?_ GE106.out) | exact HB.out)) hb); clear BK105; clear BK106; clear HB; have HO109 := n0_; have BK105 := n1_; have BK106 := n2_; have HB := n3_; clear n0_ n1_ n2_ n3_; clear hb ho5; have hnb6 := NB105_106.out; have hnc6 := NB106_105.out; have hcz7_0 : w4.cell? ⟨gb105, 0, none⟩ = some (.int .i64 a0_0) := (blk_cell BK105.out 0).trans rfl; have hcz7_1 : w4.cell? ⟨gb105, 1, none⟩ = some (.int .i64 a0_1) := (blk_cell BK105.out 1).trans rfl; have hfz7_0 := blk_frozen BK105.out 0; have hfz7_1 := blk_frozen BK105.out 1; obtain ⟨Ao8, co8, eo8⟩ := Kd.S_slice HO109.out; subst eo8; have hcz9_0 : w4.cell? ⟨gb106, 0, none⟩ = some (.slice none 0 0) := (blk_cell BK106.out 0).trans rfl; have hcz9_1 : w4.cell? ⟨gb106, 1, none⟩ = some (.int .i64 0) := (blk_cell BK106.out 1).trans rfl; have hcz9_2 : w4.cell? ⟨gb106, 2, none⟩ = some (.int .i64 0) := (blk_cell BK106.out 2).trans rfl; have hcz9_3 : w4.cell? ⟨gb106, 3, none⟩ = some (.int .i64 0) := (blk_cell BK106.out 3).trans rfl; have hfz9_0 := blk_frozen BK106.out 0; have hfz9_1 := blk_frozen BK106.out 1; have hfz9_2 := blk_frozen BK106.out 2; have hfz9_3 := blk_frozen BK106.out 3))
 refine bodyPost_ret (results_cell_row rfl _ _ gb106 26 #[.slice Ao8 y107.length co8, .int .i64 1, .int .i64 a0_0, .int .i64 a0_1] (0, 0) _ rfl (by (with_reducible repeat (first | refine blk_drewN ?_ _ | refine blk_drew ?_ | refine blk_alloc ?_ _)); refine blk_put (cs := #[.slice Ao8 y107.length co8, .int .i64 1, .int .i64 a0_0, .int .i64 0]) ?_ 3 _ (by first | rfl | (simp only [w64_PTr4]; rfl) | (simp [w64_PTr4]; done)); (with_reducible repeat (first | refine blk_drewN ?_ _ | refine blk_drew ?_ | refine blk_alloc ?_ _)); refine blk_put (cs := #[.slice Ao8 y107.length co8, .int .i64 1, .int .i64 0, .int .i64 0]) ?_ 2 _ (by first | rfl | (simp only [w64_PTr4]; rfl) | (simp [w64_PTr4]; done)); (with_reducible repeat (first | refine blk_drewN ?_ _ | refine blk_drew ?_ | refine blk_alloc ?_ _)); refine blk_put (cs := #[.slice Ao8 y107.length co8, .int .i64 0, .int .i64 0, .int .i64 0]) ?_ 1 _ (by first | rfl | (simp only [w64_PTr4]; rfl) | (simp [w64_PTr4]; done)); (with_reducible repeat (first | refine blk_drewN ?_ _ | refine blk_drew ?_ | refine blk_alloc ?_ _)); refine blk_put (cs := #[.slice none 0 0, .int .i64 0, .int .i64 0, .int .i64 0]) ?_ 0 _ (by first | rfl | (simp only [w64_PTr4]; rfl) | (simp [w64_PTr4]; done)); (with_reducible repeat (first | refine blk_drewN ?_ _ | refine blk_drew ?_ | refine blk_alloc ?_ _)); exact BK106.out) Tryd.underlying26 rfl (by kernel_rfl)) rfl ?_
 exact ⟨_, by first | rfl | (simp [errW_none, errW_some] <;> rfl) | (simp [*, errW_none, errW_some] <;> rfl), by (with_reducible repeat (first | apply Kd.S_alloc | apply Kd.S_drewN | apply Kd.S_drew)); exact Kd.S_mono (Kd.S_far (p := ⟨gb106, 3, none⟩) (Kd.S_far (p := ⟨gb106, 2, none⟩) (Kd.S_far (p := ⟨gb106, 1, none⟩) (Kd.S_far (p := ⟨gb106, 0, none⟩) (Kd.S_types HO109.out BK106.out (by decide)) (fun _ hk => hk.2) (.slice Ao8 y107.length co8)) (fun _ hk => hk.2) (.int .i64 1)) (fun _ hk => hk.2) (.int .i64 a0_0)) (fun _ hk => hk.2) (.int .i64 a0_1)) (fun _ hk => trivial), by repeat (first | (with_reducible first | exact HB.out | apply below_alloc | apply pw_below_drewN | apply below_drew1 | refine below_set ?_ GE105.out | refine below_set ?_ GE106.out) | exact HB.out)⟩
end Go.Proofs.YtnpnablnnfekkaaDoor.PTr
namespace Go.Proofs.YtnpnablnnfekkaaDoor.PTr
open Go.RowKit Go.Proofs.YtnpnablnnfekkaaDoorW.PrintWords Go.Proofs.YtnpnablnnfekkaaDoorW.PrintLast Go.Proofs.YtnpnablnnfekkaaDoorW.PrintMore
attribute [local go_sem] max2_int min2_int max_two min_two max_three min_three max_four min_four   -- for this text's walks alone
set_option linter.unusedVariables false
set_option linter.unusedSimpArgs false
def tree_Usage.l0 : Nat → Int → List (S44) → Int → Int → List (S44) → Int → Int → Int → Option (Int × Int)
 | 0, _, _, _, _, _, _, _, _ => none
 | k + 1, x4, x8, x9, x10, x111000, x111001, x111002, x111003 => if x10 < x9 then (if 0 ≤ x10 then (if x10 < (x8.length : Int) then (tree_Usage.l0 k (wrap64 (x4 + (((rd_T44 x8 x10).f5).size : Int))) x8 x9 (wrap64 (x10 + 1)) x111000 x111001 x111002 x111003) else (none)) else (none)) else (some ((x111000.length : Int), x4))
def tree_Usage.f (k : Nat) (l0_0 : List (S44)) (a0_1 : Int) (a0_2 : Int) (a0_3 : Int) : Option (Int × Int) := tree_Usage.l0 k 0 l0_0 (l0_0.length : Int) 0 l0_0 a0_1 a0_2 a0_3
set_option maxHeartbeats 8000000 in
set_option maxRecDepth 100000 in
theorem tree_Usage.calls (k : Nat) (A0_0 : Option Addr) (c0_0 : Nat) (l0_0 : List (S44)) (a0_1 : Int) (a0_2 : Int) (a0_3 : Int) (r1 : Int) (r2 : Int) (w : World) (hr0_0 : Kd.C k44 w A0_0 l0_0.length l0_0) (hc0_0 : l0_0.length ≤ c0_0) (h : tree_Usage.f k l0_0 a0_1 a0_2 a0_3 = some (r1, r2)) :
  Calls Tryd.prog 30 #[.agg #[.slice A0_0 l0_0.length c0_0, .int .i64 a0_1, .int .i64 a0_2, .int .i64 a0_3]] w fun e w' => e = .returned (.tuple #[.int .i64 r1, .int .i64 r2]) ∧ Below w.heap.size w w' := by
 have hu26 := Tryd.underlying26
 have hu44 := Tryd.underlying44
 have HR0_0 := Aside0.mk hr0_0
 have HC0_0 := Aside0.mk hc0_0
 clear hr0_0 hc0_0
 have HB := Aside0.mk (Below.refl w.heap.size w)
 have H : (tree_Usage.l0 k 0 l0_0 (l0_0.length : Int) 0 l0_0 a0_1 a0_2 a0_3) = some (r1, r2) := h
 clear h
 have H' := Aside0.mk H
 clear H
 go_enter Tryd.func30, Tryd.ntmps30
 go_wp2_with (first | ((with_reducible refine gate_dst (N := 1) rfl ?_); refine box_event ?hg (N := 1) ?hd (cs := #[.slice A0_0 l0_0.length c0_0, .int .i64 a0_1, .int .i64 a0_2, .int .i64 a0_3]) (t := 26) ?hr ?_; (case hd => rfl); (case hg => rfl); (case hr => first | (go_simp; done) | (go_simp; rfl)); intro gb110 hg w2 hbox hb; have n0_ := Aside0.mk (below_step (by repeat (first | (with_reducible first | exact HB.out | apply below_alloc | apply pw_below_drewN | apply below_drew1) | exact HB.out)) hb); have n1_ := Aside0.mk (hbox); have n2_ := Aside0.mk ((by rw [hg]; exact (below_size (by repeat (first | (with_reducible first | exact HB.out | apply below_alloc | apply pw_below_drewN | apply below_drew1) | exact HB.out))) : w.heap.size ≤ gb110)); have n3_ := Aside0.mk ((by rw [hg]; exact (below_size (by repeat (first | (with_reducible first | exact HB.out | apply below_alloc | apply pw_below_drewN | apply below_drew1) | exact HB.out))) : w.heap.size ≤ gb110)); clear HB; have HB := n0_; have BK110 := n1_; have GW110 := n2_; have GE110 := n3_; clear n0_ n1_ n2_ n3_; clear hb hbox hg; have hcz3_0 : w2.cell? ⟨gb110, 0, none⟩ = some (.slice A0_0 l0_0.length c0_0) := (blk_cell BK110.out 0).trans rfl; have hcz3_1 : w2.cell? ⟨gb110, 1, none⟩ = some (.int .i64 a0_1) := (blk_cell BK110.out 1).trans rfl; have hcz3_2 : w2.cell? ⟨gb110, 2, none⟩ = some (.int .i64 a0_2) := (blk_cell BK110.out 2).trans rfl; have hcz3_3 : w2.cell? ⟨gb110, 3, none⟩ = some (.int .i64 a0_3) := (blk_cell BK110.out 3).trans rfl; have hfz3_0 := blk_frozen BK110.out 0; have hfz3_1 := blk_frozen BK110.out 1; have hfz3_2 := blk_frozen BK110.out 2; have hfz3_3 := blk_frozen BK110.out 3))
 go_loopg [4, 10] k (fun kq v4 v10 w' => ∃ (x4_1 : Int) (x10_1 : Int), v4 = .int .i64 x4_1 ∧ v10 = .int .i64 x10_1 ∧ Aside0 (tree_Usage.l0 kq x4_1 l0_0 (l0_0.length : Int) x10_1 l0_0 a0_1 a0_2 a0_3 = some (r1, r2)) ∧ Aside0 (kq ≤ k) ∧ Aside0 (w'.heap[gb110]? = some (.cells #[(.slice A0_0 l0_0.length c0_0), .int .i64 a0_1, .int .i64 a0_2, .int .i64 a0_3] 26 (0, 0))) ∧ Aside0 (Below w.heap.size w w'))
 case atStart => exact ⟨(0), (0), (by first | rfl | (simp; done) | (simp [*]; done)), (by first | rfl | (simp; done) | (simp [*]; done)), H', ⟨Nat.le_refl _⟩, ⟨by (with_reducible repeat (first | refine blk_drewN ?_ _ | refine blk_drew ?_ | refine blk_alloc ?_ _)); exact BK110.out⟩, ⟨by repeat (first | (with_reducible first | exact HB.out | apply below_alloc | apply pw_below_drewN | apply below_drew1 | refine below_set ?_ GE110.out) | exact HB.out)⟩⟩
 case round =>
  clear H'
  try clear p2
  try clear c3
  try clear hcz3_0
  try clear hcz3_1
  try clear hcz3_2
  try clear hcz3_3
  try clear hfz3_0
  try clear hfz3_1
  try clear hfz3_2
  try clear hfz3_3
  obtain ⟨x4_1, x10_1, rfl, rfl, HA, HK1, BK110, HB⟩ := hrel
  cases gk with
  | zero => exact absurd HA.out (by simp [tree_Usage.l0])
  | succ k1 =>
   have H := HA.out
   clear HA
   simp only [tree_Usage.l0] at H
   by_cases c4 : x10_1 < (l0_0.length : Int)
   ·
    rw [if_pos c4] at H
    have c4b0 : decide (x10_1 < (l0_0.length : Int)) = true := decide_eq_true c4
    clear c4
    by_cases c5 : 0 ≤ x10_1
    ·
     rw [if_pos c5] at H
     have c5b0 : decide (0 ≤ x10_1) = true := decide_eq_true c5
     clear c5
     by_cases c6 : x10_1 < (l0_0.length : Int)
     ·
      rw [if_pos c6] at H
      have c6b0 : decide (x10_1 < (l0_0.length : Int)) = true := decide_eq_true c6
      clear c6
      have H' := Aside0.mk H
      clear H
      have p111 : 0 ≤ (x10_1 : Int) := of_decide_eq_true (by first | (with_reducible assumption) | assumption)
      have q111 : x10_1 < (l0_0.length : Int) := of_decide_eq_true (by first | (with_reducible assumption) | assumption)
      obtain ⟨ad111, A111_6, c111_6, e111, hx111_0, hx111_1, hx111_2, hx111_3, hx111_4, hx111_5, hx111_6, hl111_6, hi111_6⟩ := at_T44 HR0_0.out x10_1 p111 q111
      cases e111
      replace hx111_0 := (HB.out.cell (World.block_lt_of_cell? w _ hx111_0)).trans hx111_0
      replace hx111_1 := (HB.out.cell (World.block_lt_of_cell? w _ hx111_1)).trans hx111_1
      replace hx111_2 := (HB.out.cell (World.block_lt_of_cell? w _ hx111_2)).trans hx111_2
      replace hx111_3 := (HB.out.cell (World.block_lt_of_cell? w _ hx111_3)).trans hx111_3
      replace hx111_4 := (HB.out.cell (World.block_lt_of_cell? w _ hx111_4)).trans hx111_4
      replace hx111_5 := (HB.out.cell (World.block_lt_of_cell? w _ hx111_5)).trans hx111_5
      replace hx111_6 := (HB.out.cell (World.block_lt_of_cell? w _ hx111_6)).trans hx111_6
      have HR111_6 := Aside0.mk hi111_6
      have HC111_6 := Aside0.mk hl111_6
      clear hi111_6 hl111_6
      replace p111 := eq_true p111
      replace q111 := eq_true q111
      go_wp2_with (first | ((with_reducible refine gate_dst (N := 6) rfl ?_); refine box_event ?hg (N := 6) ?hd (cs := #[.int .i64 0, .int .i64 0, .int .i64 0, .int .i64 0, .int .i64 0, .string (⟨#[]⟩ : ByteArray), .slice none 0 0]) (t := 44) ?hr ?_; (case hd => rfl); (case hg => rfl); (case hr => first | (go_simp; done) | (go_simp; rfl)); intro gb112 hg w7 hbox hb; have n0_ := Aside0.mk (blk_below (g := gb110) (o := .cells #[.slice (some ad111) l0_0.length c0_0, .int .i64 a0_1, .int .i64 a0_2, .int .i64 a0_3] 26 (0, 0)) (by (with_reducible repeat (first | refine blk_drewN ?_ _ | refine blk_drew ?_ | refine blk_alloc ?_ _)); exact BK110.out) hb); have n1_ := Aside0.mk (below_step (by repeat (first | (with_reducible first | exact HB.out | apply below_alloc | apply pw_below_drewN | apply below_drew1 | refine below_set ?_ GE110.out) | exact HB.out)) hb); have n2_ := Aside0.mk (hbox); have n3_ := Aside0.mk ((by rw [hg]; exact (below_size (by repeat (first | (with_reducible first | exact HB.out | apply below_alloc | apply pw_below_drewN | apply below_drew1 | refine below_set ?_ GE110.out) | exact HB.out))) : w.heap.size ≤ gb112)); have n4_ := Aside0.mk ((by rw [hg]; exact (below_size (by repeat (first | (with_reducible first | exact HB.out | apply below_alloc | apply pw_below_drewN | apply below_drew1 | refine below_set ?_ GE110.out) | exact HB.out))) : w.heap.size ≤ gb112)); have n5_ := Aside0.mk ((by rw [hg]; exact Nat.ne_of_lt (blk_lt (g := gb110) (o := .cells #[.slice (some ad111) l0_0.length c0_0, .int .i64 a0_1, .int .i64 a0_2, .int .i64 a0_3] 26 (0, 0)) (by (with_reducible repeat (first | refine blk_drewN ?_ _ | refine blk_drew ?_ | refine blk_alloc ?_ _)); exact BK110.out)) : gb110 ≠ gb112)); have n6_ := Aside0.mk ((by rw [hg]; exact Nat.ne_of_gt (blk_lt (g := gb110) (o := .cells #[.slice (some ad111) l0_0.length c0_0, .int .i64 a0_1, .int .i64 a0_2, .int .i64 a0_3] 26 (0, 0)) (by (with_reducible repeat (first | refine blk_drewN ?_ _ | refine blk_drew ?_ | refine blk_alloc ?_ _)); exact BK110.out)) : gb112 ≠ gb110)); clear BK110; clear HB; have BK110 := n0_; have HB := n1_; have BK112 := n2_; have GW112 := n3_; have GE112 := n4_; have NB110_112 := n5_; have NB112_110 := n6_; clear n0_ n1_ n2_ n3_ n4_ n5_ n6_; clear hb hbox hg; have hnb8 := NB112_110.out; have hnc8 := NB110_112.out; have hcz9_0 : w7.cell? ⟨gb112, 0, none⟩ = some (.int .i64 0) := (blk_cell BK112.out 0).trans rfl; have hcz9_1 : w7.cell? ⟨gb112, 1, none⟩ = some (.int .i64 0) := (blk_cell BK112.out 1).trans rfl; have hcz9_2 : w7.cell? ⟨gb112, 2, none⟩ = some (.int .i64 0) := (blk_cell BK112.out 2).trans rfl; have hcz9_3 : w7.cell? ⟨gb112, 3, none⟩ = some (.int .i64 0) := (blk_cell BK112.out 3).trans rfl; have hcz9_4 : w7.cell? ⟨gb112, 4, none⟩ = some (.int .i64 0) := (blk_cell BK112.out 4).trans rfl; have hcz9_5 : w7.cell? ⟨gb112, 5, none⟩ = some (.string (⟨#[]⟩ : ByteArray)) := (blk_cell BK112.out 5).trans rfl; have hcz9_6 : w7.cell? ⟨gb112, 6, none⟩ = some (.slice none 0 0) := (blk_cell BK112.out 6).trans rfl; have hfz9_0 := blk_frozen BK112.out 0; have hfz9_1 := blk_frozen BK112.out 1; have hfz9_2 := blk_frozen BK112.out 2; have hfz9_3 := blk_frozen BK112.out 3; have hfz9_4 := blk_frozen BK112.out 4; have hfz9_5 := blk_frozen BK112.out 5; have hfz9_6 := blk_frozen BK112.out 6))
      go_roundg k1
      case measure => have := HK1.out; omega
      case rel => exact ⟨(wrap64 (x4_1 + (((rd_T44 l0_0 x10_1).f5).size : Int))), (wrap64 (x10_1 + 1)), (by first | rfl | (simp; done) | (simp [*]; done)), (by first | rfl | (simp; done) | (simp [*]; done)), H', ⟨by have := HK1.out; omega⟩, ⟨by (with_reducible repeat (first | refine blk_drewN ?_ _ | refine blk_drew ?_ | refine blk_alloc ?_ _)); refine blk_far ?_ NB110_112.out _; (with_reducible repeat (first | refine blk_drewN ?_ _ | refine blk_drew ?_ | refine blk_alloc ?_ _)); refine blk_far ?_ NB110_112.out _; (with_reducible repeat (first | refine blk_drewN ?_ _ | refine blk_drew ?_ | refine blk_alloc ?_ _)); refine blk_far ?_ NB110_112.out _; (with_reducible repeat (first | refine blk_drewN ?_ _ | refine blk_drew ?_ | refine blk_alloc ?_ _)); refine blk_far ?_ NB110_112.out _; (with_reducible repeat (first | refine blk_drewN ?_ _ | refine blk_drew ?_ | refine blk_alloc ?_ _)); refine blk_far ?_ NB110_112.out _; (with_reducible repeat (first | refine blk_drewN ?_ _ | refine blk_drew ?_ | refine blk_alloc ?_ _)); refine blk_far ?_ NB110_112.out _; (with_reducible repeat (first | refine blk_drewN ?_ _ | refine blk_drew ?_ | refine blk_alloc ?_ _)); refine blk_far ?_ NB110_112.out _; (with_reducible repeat (first | refine blk_drewN ?_ _ | refine blk_drew ?_ | refine blk_alloc ?_ _)); exact BK110.out⟩, ⟨by repeat (first | (with_reducible first | exact HB.out | apply below_alloc | apply pw_below_drewN | apply below_drew1 | refine below_set ?_ GE110.out | refine below_set ?_ GE112.out) | exact HB.out)⟩⟩
     ·
      rw [if_neg c6] at H
      exact absurd H (by simp)
    ·
     rw [if_neg c5] at H
     exact absurd H (by simp)
   ·
    rw [if_neg c4] at H
    have c4b0 : decide (x10_1 < (l0_0.length : Int)) = false := decide_eq_false c4
    clear c4
    simp only [Option.some.injEq, Prod.mk.injEq] at H
    obtain ⟨rfl, rfl⟩ := H
    have hcz10_0 : wr.cell? ⟨gb110, 0, none⟩ = some (.slice A0_0 l0_0.length c0_0) := (blk_cell BK110.out 0).trans rfl
    have hcz10_1 : wr.cell? ⟨gb110, 1, none⟩ = some (.int .i64 a0_1) := (blk_cell BK110.out 1).trans rfl
    have hcz10_2 : wr.cell? ⟨gb110, 2, none⟩ = some (.int .i64 a0_2) := (blk_cell BK110.out 2).trans rfl
    have hcz10_3 : wr.cell? ⟨gb110, 3, none⟩ = some (.int .i64 a0_3) := (blk_cell BK110.out 3).trans rfl
    have hfz10_0 := blk_frozen BK110.out 0
    have hfz10_1 := blk_frozen BK110.out 1
    have hfz10_2 := blk_frozen BK110.out 2
    have hfz10_3 := blk_frozen BK110.out 3
    go_wp2
    go_ret2
    exact ⟨by first | rfl | (simp [errW_none, errW_some] <;> rfl) | (simp [*, errW_none, errW_some] <;> rfl), by repeat (first | (with_reducible first | exact HB.out | apply below_alloc | apply pw_below_drewN | apply below_drew1 | refine below_set ?_ GE110.out) | exact HB.out)⟩
end Go.Proofs.YtnpnablnnfekkaaDoor.PTr
namespace Go.Proofs.YtnpnablnnfekkaaDoor.PTr
open Go.RowKit Go.Proofs.YtnpnablnnfekkaaDoorW.PrintWords Go.Proofs.YtnpnablnnfekkaaDoorW.PrintLast Go.Proofs.YtnpnablnnfekkaaDoorW.PrintMore
attribute [local go_sem] max2_int min2_int max_two min_two max_three min_three max_four min_four   -- for this text's walks alone
set_option linter.unusedVariables false
set_option linter.unusedSimpArgs false
theorem w64_PTr6 (x : Int) : wrap64 (x % 256) = x % 256 := by unfold wrap64; omega
mutual
def tree_Links.l0 : Nat → Int → Int → List (S44) → Int → Int → Option (Int)
 | 0, _, _, _, _, _ => none
 | k + 1, x1, x5, x11, x12, x13 => if x13 < x12 then (if 0 ≤ x13 then (if x13 < (x11.length : Int) then (tree_Links.l1 k x1 x5 x11 x12 x13 ((rd_T44 x11 x13).f6) (((rd_T44 x11 x13).f6).length : Int) 0) else (none)) else (none)) else (some x5)
def tree_Links.l1 : Nat → Int → Int → List (S44) → Int → Int → List (S61) → Int → Int → Option (Int)
 | 0, _, _, _, _, _, _, _, _ => none
 | k + 1, x1, x5, x11, x12, x13, x18, x19, x20 => if x20 < x19 then (if 0 ≤ x20 then (if x20 < (x18.length : Int) then (if ((rd_T61 x18 x20).f1) = x1 then (tree_Links.l1 k x1 (wrap64 (x5 + 1)) x11 x12 x13 x18 x19 (wrap64 (x20 + 1))) else (tree_Links.l1 k x1 x5 x11 x12 x13 x18 x19 (wrap64 (x20 + 1)))) else (none)) else (none)) else (tree_Links.l0 k x1 x5 x11 x12 (wrap64 (x13 + 1)))
end
def tree_Links.f (k : Nat) (l0_0 : List (S44)) (a0_1 : Int) (a0_2 : Int) (a0_3 : Int) (a1 : Int) : Option (Int) := tree_Links.l0 k a1 0 l0_0 (l0_0.length : Int) 0
set_option maxHeartbeats 8000000 in
set_option maxRecDepth 100000 in
theorem tree_Links.calls (k : Nat) (A0_0 : Option Addr) (c0_0 : Nat) (l0_0 : List (S44)) (a0_1 : Int) (a0_2 : Int) (a0_3 : Int) (a1 : Int) (r : Int) (w : World) (hr0_0 : Kd.C k44 w A0_0 l0_0.length l0_0) (hc0_0 : l0_0.length ≤ c0_0) (h : tree_Links.f k l0_0 a0_1 a0_2 a0_3 a1 = some r) :
  Calls Tryd.prog 33 #[.agg #[.slice A0_0 l0_0.length c0_0, .int .i64 a0_1, .int .i64 a0_2, .int .i64 a0_3], .int .i64 a1] w fun e w' => e = .returned (.int .i64 r) ∧ Below w.heap.size w w' := by
 have hu26 := Tryd.underlying26
 have hu44 := Tryd.underlying44
 have hu61 := Tryd.underlying61
 have HR0_0 := Aside0.mk hr0_0
 have HC0_0 := Aside0.mk hc0_0
 clear hr0_0 hc0_0
 have HB := Aside0.mk (Below.refl w.heap.size w)
 have H : (tree_Links.l0 k a1 0 l0_0 (l0_0.length : Int) 0) = some r := h
 clear h
 have H' := Aside0.mk H
 clear H
 go_enter Tryd.func33, Tryd.ntmps33
 go_wp2_with (first | ((with_reducible refine gate_dst (N := 2) rfl ?_); refine box_event ?hg (N := 2) ?hd (cs := #[.slice A0_0 l0_0.length c0_0, .int .i64 a0_1, .int .i64 a0_2, .int .i64 a0_3]) (t := 26) ?hr ?_; (case hd => rfl); (case hg => rfl); (case hr => first | (go_simp; done) | (go_simp; rfl)); intro gb113 hg w3 hbox hb; have n0_ := Aside0.mk (below_step (by repeat (first | (with_reducible first | exact HB.out | apply below_alloc | apply pw_below_drewN | apply below_drew1) | exact HB.out)) hb); have n1_ := Aside0.mk (hbox); have n2_ := Aside0.mk ((by rw [hg]; exact (below_size (by repeat (first | (with_reducible first | exact HB.out | apply below_alloc | apply pw_below_drewN | apply below_drew1) | exact HB.out))) : w.heap.size ≤ gb113)); have n3_ := Aside0.mk ((by rw [hg]; exact (below_size (by repeat (first | (with_reducible first | exact HB.out | apply below_alloc | apply pw_below_drewN | apply below_drew1) | exact HB.out))) : w.heap.size ≤ gb113)); clear HB; have HB := n0_; have BK113 := n1_; have GW113 := n2_; have GE113 := n3_; clear n0_ n1_ n2_ n3_; clear hb hbox hg; have hcz4_0 : w3.cell? ⟨gb113, 0, none⟩ = some (.slice A0_0 l0_0.length c0_0) := (blk_cell BK113.out 0).trans rfl; have hcz4_1 : w3.cell? ⟨gb113, 1, none⟩ = some (.int .i64 a0_1) := (blk_cell BK113.out 1).trans rfl; have hcz4_2 : w3.cell? ⟨gb113, 2, none⟩ = some (.int .i64 a0_2) := (blk_cell BK113.out 2).trans rfl; have hcz4_3 : w3.cell? ⟨gb113, 3, none⟩ = some (.int .i64 a0_3) := (blk_cell BK113.out 3).trans rfl; have hfz4_0 := blk_frozen BK113.out 0; have hfz4_1 := blk_frozen BK113.out 1; have hfz4_2 := blk_frozen BK113.out 2; have hfz4_3 := blk_frozen BK113.out 3))
 go_loopg [5, 13] k (fun kq v5 v13 w' => ∃ (x5_1 : Int) (x13_1 : Int), v5 = .int .i64 x5_1 ∧ v13 = .int .i64 x13_1 ∧ Aside0 (tree_Links.l0 kq a1 x5_1 l0_0 (l0_0.length : Int) x13_1 = some r) ∧ Aside0 (kq ≤ k) ∧ Aside0 (w'.heap[gb113]? = some (.cells #[(.slice A0_0 l0_0.length c0_0), .int .i64 a0_1, .int .i64 a0_2, .int .i64 a0_3] 26 (0, 0))) ∧ Aside0 (Below w.heap.size w w'))
 case atStart => exact ⟨(0), (0), (by first | rfl | (simp; done) | (simp [*]; done)), (by first | rfl | (simp; done) | (simp [*]; done)), H', ⟨Nat.le_refl _⟩, ⟨by (with_reducible repeat (first | refine blk_drewN ?_ _ | refine blk_drew ?_ | refine blk_alloc ?_ _)); exact BK113.out⟩, ⟨by repeat (first | (with_reducible first | exact HB.out | apply below_alloc | apply pw_below_drewN | apply below_drew1 | refine below_set ?_ GE113.out) | exact HB.out)⟩⟩
 case round =>
  clear H'
  try clear p2
  try clear c3
  try clear hcz4_0
  try clear hcz4_1
  try clear hcz4_2
  try clear hcz4_3
  try clear hfz4_0
  try clear hfz4_1
  try clear hfz4_2
  try clear hfz4_3
  obtain ⟨x5_1, x13_1, rfl, rfl, HA, HK1, BK113, HB⟩ := hrel
  cases gk with
  | zero => exact absurd HA.out (by simp [tree_Links.l0])
  | succ k1 =>
   have H := HA.out
   clear HA
   simp only [tree_Links.l0] at H
   by_cases c5 : x13_1 < (l0_0.length : Int)
   ·
    rw [if_pos c5] at H
    have c5b0 : decide (x13_1 < (l0_0.length : Int)) = true := decide_eq_true c5
    clear c5
    by_cases c6 : 0 ≤ x13_1
    ·
     rw [if_pos c6] at H
     have c6b0 : decide (0 ≤ x13_1) = true := decide_eq_true c6
     clear c6
     by_cases c7 : x13_1 < (l0_0.length : Int)
     ·
      rw [if_pos c7] at H
      have c7b0 : decide (x13_1 < (l0_0.length : Int)) = true := decide_eq_true c7
      clear c7
      have H' := Aside0.mk H
      clear H
      have p114 : 0 ≤ (x13_1 : Int) := of_decide_eq_true (by first | (with_reducible assumption) | assumption)
      have q114 : x13_1 < (l0_0.length : Int) := of_decide_eq_true (by first | (with_reducible assumption) | assumption)
      obtain ⟨ad114, A114_6, c114_6, e114, hx114_0, hx114_1, hx114_2, hx114_3, hx114_4, hx114_5, hx114_6, hl114_6, hi114_6⟩ := at_T44 HR0_0.out x13_1 p114 q114
      cases e114
      replace hx114_0 := (HB.out.cell (World.block_lt_of_cell? w _ hx114_0)).trans hx114_0
      replace hx114_1 := (HB.out.cell (World.block_lt_of_cell? w _ hx114_1)).trans hx114_1
      replace hx114_2 := (HB.out.cell (World.block_lt_of_cell? w _ hx114_2)).trans hx114_2
      replace hx114_3 := (HB.out.cell (World.block_lt_of_cell? w _ hx114_3)).trans hx114_3
      replace hx114_4 := (HB.out.cell (World.block_lt_of_cell? w _ hx114_4)).trans hx114_4
      replace hx114_5 := (HB.out.cell (World.block_lt_of_cell? w _ hx114_5)).trans hx114_5
      replace hx114_6 := (HB.out.cell (World.block_lt_of_cell? w _ hx114_6)).trans hx114_6
      have HR114_6 := Aside0.mk hi114_6
      have HC114_6 := Aside0.mk hl114_6
      clear hi114_6 hl114_6
      replace p114 := eq_true p114
      replace q114 := eq_true q114
      go_wp2_with (first | ((with_reducible refine gate_dst (N := 7) rfl ?_); refine box_event ?hg (N := 7) ?hd (cs := #[.int .i64 0, .int .i64 0, .int .i64 0, .int .i64 0, .int .i64 0, .string (⟨#[]⟩ : ByteArray), .slice none 0 0]) (t := 44) ?hr ?_; (case hd => rfl); (case hg => rfl); (case hr => first | (go_simp; done) | (go_simp; rfl)); intro gb115 hg w8 hbox hb; have n0_ := Aside0.mk (blk_below (g := gb113) (o := .cells #[.slice (some ad114) l0_0.length c0_0, .int .i64 a0_1, .int .i64 a0_2, .int .i64 a0_3] 26 (0, 0)) (by (with_reducible repeat (first | refine blk_drewN ?_ _ | refine blk_drew ?_ | refine blk_alloc ?_ _)); exact BK113.out) hb); have n1_ := Aside0.mk (below_step (by repeat (first | (with_reducible first | exact HB.out | apply below_alloc | apply pw_below_drewN | apply below_drew1 | refine below_set ?_ GE113.out) | exact HB.out)) hb); have n2_ := Aside0.mk (hbox); have n3_ := Aside0.mk ((by rw [hg]; exact (below_size (by repeat (first | (with_reducible first | exact HB.out | apply below_alloc | apply pw_below_drewN | apply below_drew1 | refine below_set ?_ GE113.out) | exact HB.out))) : w.heap.size ≤ gb115)); have n4_ := Aside0.mk ((by rw [hg]; exact (below_size (by repeat (first | (with_reducible first | exact HB.out | apply below_alloc | apply pw_below_drewN | apply below_drew1 | refine below_set ?_ GE113.out) | exact HB.out))) : w.heap.size ≤ gb115)); have n5_ := Aside0.mk ((by rw [hg]; exact Nat.ne_of_lt (blk_lt (g := gb113) (o := .cells #[.slice (some ad114) l0_0.length c0_0, .int .i64 a0_1, .int .i64 a0_2, .int .i64 a0_3] 26 (0, 0)) (by (with_reducible repeat (first | refine blk_drewN ?_ _ | refine blk_drew ?_ | refine blk_alloc ?_ _)); exact BK113.out)) : gb113 ≠ gb115)); have n6_ := Aside0.mk ((by rw [hg]; exact Nat.ne_of_gt (blk_lt (g := gb113) (o := .cells #[.slice (some ad114) l0_0.length c0_0, .int .i64 a0_1, .int .i64 a0_2, .int .i64 a0_3] 26 (0, 0)) (by (with_reducible repeat (first | refine blk_drewN ?_ _ | refine blk_drew ?_ | refine blk_alloc ?_ _)); exact BK113.out)) : gb115 ≠ gb113)); clear BK113; clear HB; have BK113 := n0_; have HB := n1_; have BK115 := n2_; have GW115 := n3_; have GE115 := n4_; have NB113_115 := n5_; have NB115_113 := n6_; clear n0_ n1_ n2_ n3_ n4_ n5_ n6_; clear hb hbox hg; have hnb9 := NB115_113.out; have hnc9 := NB113_115.out; have hcz10_0 : w8.cell? ⟨gb115, 0, none⟩ = some (.int .i64 0) := (blk_cell BK115.out 0).trans rfl; have hcz10_1 : w8.cell? ⟨gb115, 1, none⟩ = some (.int .i64 0) := (blk_cell BK115.out 1).trans rfl; have hcz10_2 : w8.cell? ⟨gb115, 2, none⟩ = some (.int .i64 0) := (blk_cell BK115.out 2).trans rfl; have hcz10_3 : w8.cell? ⟨gb115, 3, none⟩ = some (.int .i64 0) := (blk_cell BK115.out 3).trans rfl; have hcz10_4 : w8.cell? ⟨gb115, 4, none⟩ = some (.int .i64 0) := (blk_cell BK115.out 4).trans rfl; have hcz10_5 : w8.cell? ⟨gb115, 5, none⟩ = some (.string (⟨#[]⟩ : ByteArray)) := (blk_cell BK115.out 5).trans rfl; have hcz10_6 : w8.cell? ⟨gb115, 6, none⟩ = some (.slice none 0 0) := (blk_cell BK115.out 6).trans rfl; have hfz10_0 := blk_frozen BK115.out 0; have hfz10_1 := blk_frozen BK115.out 1; have hfz10_2 := blk_frozen BK115.out 2; have hfz10_3 := blk_frozen BK115.out 3; have hfz10_4 := blk_frozen BK115.out 4; have hfz10_5 := blk_frozen BK115.out 5; have hfz10_6 := blk_frozen BK115.out 6))
      go_loopg [5, 20] k1 (fun kq v5 v20 w' => ∃ (x5_2 : Int) (x20_2 : Int), v5 = .int .i64 x5_2 ∧ v20 = .int .i64 x20_2 ∧ Aside0 (tree_Links.l1 kq a1 x5_2 l0_0 (l0_0.length : Int) x13_1 ((rd_T44 l0_0 x13_1).f6) (((rd_T44 l0_0 x13_1).f6).length : Int) x20_2 = some r) ∧ Aside0 (kq ≤ k1) ∧ Aside0 (w'.heap[gb113]? = some (.cells #[(.slice (some ad114) l0_0.length c0_0), .int .i64 a0_1, .int .i64 a0_2, .int .i64 a0_3] 26 (0, 0))) ∧ Aside0 (w'.heap[gb115]? = some (.cells #[.int .i64 ((rd_T44 l0_0 x13_1).f0), .int .i64 ((rd_T44 l0_0 x13_1).f1), .int .i64 ((rd_T44 l0_0 x13_1).f2), .int .i64 ((rd_T44 l0_0 x13_1).f3), .int .i64 ((rd_T44 l0_0 x13_1).f4), .string ((rd_T44 l0_0 x13_1).f5), (.slice A114_6 ((rd_T44 l0_0 x13_1).f6).length c114_6)] 44 (0, 0))) ∧ Aside0 (Below w.heap.size w w'))
      case atStart => exact ⟨(x5_1), (0), (by first | rfl | (simp; done) | (simp [*]; done)), (by first | rfl | (simp; done) | (simp [*]; done)), H', ⟨Nat.le_refl _⟩, ⟨by (with_reducible repeat (first | refine blk_drewN ?_ _ | refine blk_drew ?_ | refine blk_alloc ?_ _)); refine blk_far ?_ NB113_115.out _; (with_reducible repeat (first | refine blk_drewN ?_ _ | refine blk_drew ?_ | refine blk_alloc ?_ _)); refine blk_far ?_ NB113_115.out _; (with_reducible repeat (first | refine blk_drewN ?_ _ | refine blk_drew ?_ | refine blk_alloc ?_ _)); refine blk_far ?_ NB113_115.out _; (with_reducible repeat (first | refine blk_drewN ?_ _ | refine blk_drew ?_ | refine blk_alloc ?_ _)); refine blk_far ?_ NB113_115.out _; (with_reducible repeat (first | refine blk_drewN ?_ _ | refine blk_drew ?_ | refine blk_alloc ?_ _)); refine blk_far ?_ NB113_115.out _; (with_reducible repeat (first | refine blk_drewN ?_ _ | refine blk_drew ?_ | refine blk_alloc ?_ _)); refine blk_far ?_ NB113_115.out _; (with_reducible repeat (first | refine blk_drewN ?_ _ | refine blk_drew ?_ | refine blk_alloc ?_ _)); refine blk_far ?_ NB113_115.out _; (with_reducible repeat (first | refine blk_drewN ?_ _ | refine blk_drew ?_ | refine blk_alloc ?_ _)); exact BK113.out⟩, ⟨by (with_reducible repeat (first | refine blk_drewN ?_ _ | refine blk_drew ?_ | refine blk_alloc ?_ _)); refine blk_put (cs := #[.int .i64 ((rd_T44 l0_0 x13_1).f0), .int .i64 ((rd_T44 l0_0 x13_1).f1), .int .i64 ((rd_T44 l0_0 x13_1).f2), .int .i64 ((rd_T44 l0_0 x13_1).f3), .int .i64 ((rd_T44 l0_0 x13_1).f4), .string ((rd_T44 l0_0 x13_1).f5), .slice none 0 0]) ?_ 6 _ (by first | rfl | (simp only [w64_PTr6]; rfl) | (simp [w64_PTr6]; done)); (with_reducible repeat (first | refine blk_drewN ?_ _ | refine blk_drew ?_ | refine blk_alloc ?_ _)); refine blk_put (cs := #[.int .i64 ((rd_T44 l0_0 x13_1).f0), .int .i64 ((rd_T44 l0_0 x13_1).f1), .int .i64 ((rd_T44 l0_0 x13_1).f2), .int .i64 ((rd_T44 l0_0 x13_1).f3), .int .i64 ((rd_T44 l0_0 x13_1).f4), .string (⟨#[]⟩ : ByteArray), .slice none 0 0]) ?_ 5 _ (by first | rfl | (simp only [w64_PTr6]; rfl) | (simp [w64_PTr6]; done)); (with_reducible repeat (first | refine blk_drewN ?_ _ | refine blk_drew ?_ | refine blk_alloc ?_ _)); refine blk_put (cs := #[.int .i64 ((rd_T44 l0_0 x13_1).f0), .int .i64 ((rd_T44 l0_0 x13_1).f1), .int .i64 ((rd_T44 l0_0 x13_1).f2), .int .i64 ((rd_T44 l0_0 x13_1).f3), .int .i64 0, .string (⟨#[]⟩ : ByteArray), .slice none 0 0]) ?_ 4 _ (by first | rfl | (simp only [w64_PTr6]; rfl) | (simp [w64_PTr6]; done)); (with_reducible repeat (first | refine blk_drewN ?_ _ | refine blk_drew ?_ | refine blk_alloc ?_ _)); refine blk_put (cs := #[.int .i64 ((rd_T44 l0_0 x13_1).f0), .int .i64 ((rd_T44 l0_0 x13_1).f1), .int .i64 ((rd_T44 l0_0 x13_1).f2), .int .i64 0, .int .i64 0, .string (⟨#[]⟩ : ByteArray), .slice none 0 0]) ?_ 3 _ (by first | rfl | (simp only [w64_PTr6]; rfl) | (simp [w64_PTr6]; done)); (with_reducible repeat (first | refine blk_drewN ?_ _ | refine blk_drew ?_ | refine blk_alloc ?_ _)); refine blk_put (cs := #[.int .i64 ((rd_T44 l0_0 x13_1).f0), .int .i64 ((rd_T44 l0_0 x13_1).f1), .int .i64 0, .int .i64 0, .int .i64 0, .string (⟨#[]⟩ : ByteArray), .slice none 0 0]) ?_ 2 _ (by first | rfl | (simp only [w64_PTr6]; rfl) | (simp [w64_PTr6]; done)); (with_reducible repeat (first | refine blk_drewN ?_ _ | refine blk_drew ?_ | refine blk_alloc ?_ _)); refine blk_put (cs := #[.int .i64 ((rd_T44 l0_0 x13_1).f0), .int .i64 0, .int .i64 0, .int .i64 0, .int .i64 0, .string (⟨#[]⟩ : ByteArray), .slice none 0 0]) ?_ 1 _ (by first | rfl | (simp only [w64_PTr6]; rfl) | (simp [w64_PTr6]; done)); (with_reducible repeat (first | refine blk_drewN ?_ _ | refine blk_drew ?_ | refine blk_alloc ?_ _)); refine blk_put (cs := #[.int .i64 0, .int .i64 0, .int .i64 0, .int .i64 0, .int .i64 0, .string (⟨#[]⟩ : ByteArray), .slice none 0 0]) ?_ 0 _ (by first | rfl | (simp only [w64_PTr6]; rfl) | (simp [w64_PTr6]; done)); (with_reducible repeat (first | refine blk_drewN ?_ _ | refine blk_drew ?_ | refine blk_alloc ?_ _)); exact BK115.out⟩, ⟨by repeat (first | (with_reducible first | exact HB.out | apply below_alloc | apply pw_below_drewN | apply below_drew1 | refine below_set ?_ GE113.out | refine below_set ?_ GE115.out) | exact HB.out)⟩⟩
      case round =>
       clear H'
       try clear c1
       try clear p1
       try clear q1
       try clear hx1
       try clear p2
       try clear c3
       try clear c5
       try clear c5b0
       try clear c6
       try clear c6b0
       try clear c7
       try clear c7b0
       try clear c9
       try clear hcz10_0
       try clear hcz10_1
       try clear hcz10_2
       try clear hcz10_3
       try clear hcz10_4
       try clear hcz10_5
       try clear hcz10_6
       try clear hcz4_0
       try clear hcz4_1
       try clear hcz4_2
       try clear hcz4_3
       try clear hfz10_0
       try clear hfz10_1
       try clear hfz10_2
       try clear hfz10_3
       try clear hfz10_4
       try clear hfz10_5
       try clear hfz10_6
       try clear hfz4_0
       try clear hfz4_1
       try clear hfz4_2
       try clear hfz4_3
       try clear hx114_0
       try clear hx114_1
       try clear hx114_2
       try clear hx114_3
       try clear hx114_4
       try clear hx114_5
       try clear hx114_6
       try clear p114
       try clear p2
       try clear q114
       obtain ⟨x5_2, x20_2, rfl, rfl, HA, HK2, BK113, BK115, HB⟩ := hrel
       cases gk with
       | zero => exact absurd HA.out (by simp [tree_Links.l1])
       | succ k2 =>
        have H := HA.out
        clear HA
        simp only [tree_Links.l1] at H
        by_cases c11 : x20_2 < (((rd_T44 l0_0 x13_1).f6).length : Int)
        ·
         rw [if_pos c11] at H
         have c11b0 : decide (x20_2 < (((rd_T44 l0_0 x13_1).f6).length : Int)) = true := decide_eq_true c11
         clear c11
         by_cases c12 : 0 ≤ x20_2
         ·
          rw [if_pos c12] at H
          have c12b0 : decide (0 ≤ x20_2) = true := decide_eq_true c12
          clear c12
          by_cases c13 : x20_2 < (((rd_T44 l0_0 x13_1).f6).length : Int)
          ·
           rw [if_pos c13] at H
           have c13b0 : decide (x20_2 < (((rd_T44 l0_0 x13_1).f6).length : Int)) = true := decide_eq_true c13
           clear c13
           by_cases c14 : ((rd_T61 ((rd_T44 l0_0 x13_1).f6) x20_2).f1) = a1
           ·
            rw [if_pos c14] at H
            have c14b0 : (((rd_T61 ((rd_T44 l0_0 x13_1).f6) x20_2).f1) == a1) = true := beq_iff_eq.mpr c14
            have c14b1 : (((rd_T61 ((rd_T44 l0_0 x13_1).f6) x20_2).f1) != a1) = false := bne_eq_false_iff_eq.mpr c14
            clear c14
            have H' := Aside0.mk H
            clear H
            have p116 : 0 ≤ (x20_2 : Int) := of_decide_eq_true (by first | (with_reducible assumption) | assumption)
            have q116 : x20_2 < (((rd_T44 l0_0 x13_1).f6).length : Int) := of_decide_eq_true (by first | (with_reducible assumption) | assumption)
            obtain ⟨ad116, e116, hx116_0, hx116_1⟩ := at_T61 HR114_6.out x20_2 p116 q116
            cases e116
            replace hx116_0 := (HB.out.cell (World.block_lt_of_cell? w _ hx116_0)).trans hx116_0
            replace hx116_1 := (HB.out.cell (World.block_lt_of_cell? w _ hx116_1)).trans hx116_1
            replace p116 := eq_true p116
            replace q116 := eq_true q116
            go_wp2_with (first | ((with_reducible refine gate_dst (N := 9) rfl ?_); refine box_event ?hg (N := 9) ?hd (cs := #[.string (⟨#[]⟩ : ByteArray), .int .i64 0]) (t := 61) ?hr ?_; (case hd => rfl); (case hg => rfl); (case hr => first | (go_simp; done) | (go_simp; rfl)); intro gb117 hg w15 hbox hb; have n0_ := Aside0.mk (blk_below (g := gb113) (o := .cells #[.slice (some ad114) l0_0.length c0_0, .int .i64 a0_1, .int .i64 a0_2, .int .i64 a0_3] 26 (0, 0)) (by (with_reducible repeat (first | refine blk_drewN ?_ _ | refine blk_drew ?_ | refine blk_alloc ?_ _)); exact BK113.out) hb); have n1_ := Aside0.mk (blk_below (g := gb115) (o := .cells #[.int .i64 ((rd_T44 l0_0 x13_1).f0), .int .i64 ((rd_T44 l0_0 x13_1).f1), .int .i64 ((rd_T44 l0_0 x13_1).f2), .int .i64 ((rd_T44 l0_0 x13_1).f3), .int .i64 ((rd_T44 l0_0 x13_1).f4), .string ((rd_T44 l0_0 x13_1).f5), .slice (some ad116) ((rd_T44 l0_0 x13_1).f6).length c114_6] 44 (0, 0)) (by (with_reducible repeat (first | refine blk_drewN ?_ _ | refine blk_drew ?_ | refine blk_alloc ?_ _)); exact BK115.out) hb); have n2_ := Aside0.mk (below_step (by repeat (first | (with_reducible first | exact HB.out | apply below_alloc | apply pw_below_drewN | apply below_drew1 | refine below_set ?_ GE113.out | refine below_set ?_ GE115.out) | exact HB.out)) hb); have n3_ := Aside0.mk (hbox); have n4_ := Aside0.mk ((by rw [hg]; exact (below_size (by repeat (first | (with_reducible first | exact HB.out | apply below_alloc | apply pw_below_drewN | apply below_drew1 | refine below_set ?_ GE113.out | refine below_set ?_ GE115.out) | exact HB.out))) : w.heap.size ≤ gb117)); have n5_ := Aside0.mk ((by rw [hg]; exact (below_size (by repeat (first | (with_reducible first | exact HB.out | apply below_alloc | apply pw_below_drewN | apply below_drew1 | refine below_set ?_ GE113.out | refine below_set ?_ GE115.out) | exact HB.out))) : w.heap.size ≤ gb117)); have n6_ := Aside0.mk ((by rw [hg]; exact Nat.ne_of_lt (blk_lt (g := gb113) (o := .cells #[.slice (some ad114) l0_0.length c0_0, .int .i64 a0_1, .int .i64 a0_2, .int .i64 a0_3] 26 (0, 0)) (by (with_reducible repeat (first | refine blk_drewN ?_ _ | refine blk_drew ?_ | refine blk_alloc ?_ _)); exact BK113.out)) : gb113 ≠ gb117)); have n7_ := Aside0.mk ((by rw [hg]; exact Nat.ne_of_gt (blk_lt (g := gb113) (o := .cells #[.slice (some ad114) l0_0.length c0_0, .int .i64 a0_1, .int .i64 a0_2, .int .i64 a0_3] 26 (0, 0)) (by (with_reducible repeat (first | refine blk_drewN ?_ _ | refine blk_drew ?_ | refine blk_alloc ?_ _)); exact BK113.out)) : gb117 ≠ gb113)); have n8_ := Aside0.mk ((by rw [hg]; exact Nat.ne_of_lt (blk_lt (g := gb115) (o := .cells #[.int .i64 ((rd_T44 l0_0 x13_1).f0), .int .i64 ((rd_T44 l0_0 x13_1).f1), .int .i64 ((rd_T44 l0_0 x13_1).f2), .int .i64 ((rd_T44 l0_0 x13_1).f3), .int .i64 ((rd_T44 l0_0 x13_1).f4), .string ((rd_T44 l0_0 x13_1).f5), .slice (some ad116) ((rd_T44 l0_0 x13_1).f6).length c114_6] 44 (0, 0)) (by (with_reducible repeat (first | refine blk_drewN ?_ _ | refine blk_drew ?_ | refine blk_alloc ?_ _)); exact BK115.out)) : gb115 ≠ gb117)); have n9_ := Aside0.mk ((by rw [hg]; exact Nat.ne_of_gt (blk_lt (g := gb115) (o := .cells #[.int .i64 ((rd_T44 l0_0 x13_1).f0), .int .i64 ((rd_T44 l0_0 x13_1).f1), .int .i64 ((rd_T44 l0_0 x13_1).f2), .int .i64 ((rd_T44 l0_0 x13_1).f3), .int .i64 ((rd_T44 l0_0 x13_1).f4), .string ((rd_T44 l0_0 x13_1).f5), .slice (some ad116) ((rd_T44 l0_0 x13_1).f6).length c114_6] 44 (0, 0)) (by (with_reducible repeat (first | refine blk_drewN ?_ _ | refine blk_drew ?_ | refine blk_alloc ?_ _)); exact BK115.out)) : gb117 ≠ gb115)); clear BK113; clear BK115; clear HB; have BK113 := n0_; have BK115 := n1_; have HB := n2_; have BK117 := n3_; have GW117 := n4_; have GE117 := n5_; have NB113_117 := n6_; have NB117_113 := n7_; have NB115_117 := n8_; have NB117_115 := n9_; clear n0_ n1_ n2_ n3_ n4_ n5_ n6_ n7_ n8_ n9_; clear hb hbox hg; have hnb16 := NB117_113.out; have hnc16 := NB113_117.out; have hnb17 := NB117_115.out; have hnc17 := NB115_117.out; have hcz18_0 : w15.cell? ⟨gb117, 0, none⟩ = some (.string (⟨#[]⟩ : ByteArray)) := (blk_cell BK117.out 0).trans rfl; have hcz18_1 : w15.cell? ⟨gb117, 1, none⟩ = some (.int .i64 0) := (blk_cell BK117.out 1).trans rfl; have hfz18_0 := blk_frozen BK117.out 0; have hfz18_1 := blk_frozen BK117.out 1))
            go_roundg k2
            case measure => have := HK1.out; have := HK2.out; omega
            case rel => exact ⟨(wrap64 (x5_2 + 1)), (wrap64 (x20_2 + 1)), (by first | rfl | (simp; done) | (simp [*]; done)), (by first | rfl | (simp; done) | (simp [*]; done)), H', ⟨by have := HK1.out; have := HK2.out; omega⟩, ⟨by (with_reducible repeat (first | refine blk_drewN ?_ _ | refine blk_drew ?_ | refine blk_alloc ?_ _)); refine blk_far ?_ NB113_117.out _; (with_reducible repeat (first | refine blk_drewN ?_ _ | refine blk_drew ?_ | refine blk_alloc ?_ _)); refine blk_far ?_ NB113_117.out _; (with_reducible repeat (first | refine blk_drewN ?_ _ | refine blk_drew ?_ | refine blk_alloc ?_ _)); exact BK113.out⟩, ⟨by (with_reducible repeat (first | refine blk_drewN ?_ _ | refine blk_drew ?_ | refine blk_alloc ?_ _)); refine blk_far ?_ NB115_117.out _; (with_reducible repeat (first | refine blk_drewN ?_ _ | refine blk_drew ?_ | refine blk_alloc ?_ _)); refine blk_far ?_ NB115_117.out _; (with_reducible repeat (first | refine blk_drewN ?_ _ | refine blk_drew ?_ | refine blk_alloc ?_ _)); exact BK115.out⟩, ⟨by repeat (first | (with_reducible first | exact HB.out | apply below_alloc | apply pw_below_drewN | apply below_drew1 | refine below_set ?_ GE113.out | refine below_set ?_ GE115.out | refine below_set ?_ GE117.out) | exact HB.out)⟩⟩
           ·
            rw [if_neg c14] at H
            have c14b0 : (((rd_T61 ((rd_T44 l0_0 x13_1).f6) x20_2).f1) == a1) = false := beq_eq_false_iff_ne.mpr c14
            have c14b1 : (((rd_T61 ((rd_T44 l0_0 x13_1).f6) x20_2).f1) != a1) = true := bne_iff_ne.mpr c14
            have H' := Aside0.mk H
            clear H
            have p116 : 0 ≤ (x20_2 : Int) := of_decide_eq_true (by first | (with_reducible assumption) | assumption)
            have q116 : x20_2 < (((rd_T44 l0_0 x13_1).f6).length : Int) := of_decide_eq_true (by first | (with_reducible assumption) | assumption)
            obtain ⟨ad116, e116, hx116_0, hx116_1⟩ := at_T61 HR114_6.out x20_2 p116 q116
            cases e116
            replace hx116_0 := (HB.out.cell (World.block_lt_of_cell? w _ hx116_0)).trans hx116_0
            replace hx116_1 := (HB.out.cell (World.block_lt_of_cell? w _ hx116_1)).trans hx116_1
            replace p116 := eq_true p116
            replace q116 := eq_true q116
            go_wp2_with (first | ((with_reducible refine gate_dst (N := 9) rfl ?_); refine box_event ?hg (N := 9) ?hd (cs := #[.string (⟨#[]⟩ : ByteArray), .int .i64 0]) (t := 61) ?hr ?_; (case hd => rfl); (case hg => rfl); (case hr => first | (go_simp; done) | (go_simp; rfl)); intro gb117 hg w19 hbox hb; have n0_ := Aside0.mk (blk_below (g := gb113) (o := .cells #[.slice (some ad114) l0_0.length c0_0, .int .i64 a0_1, .int .i64 a0_2, .int .i64 a0_3] 26 (0, 0)) (by (with_reducible repeat (first | refine blk_drewN ?_ _ | refine blk_drew ?_ | refine blk_alloc ?_ _)); exact BK113.out) hb); have n1_ := Aside0.mk (blk_below (g := gb115) (o := .cells #[.int .i64 ((rd_T44 l0_0 x13_1).f0), .int .i64 ((rd_T44 l0_0 x13_1).f1), .int .i64 ((rd_T44 l0_0 x13_1).f2), .int .i64 ((rd_T44 l0_0 x13_1).f3), .int .i64 ((rd_T44 l0_0 x13_1).f4), .string ((rd_T44 l0_0 x13_1).f5), .slice (some ad116) ((rd_T44 l0_0 x13_1).f6).length c114_6] 44 (0, 0)) (by (with_reducible repeat (first | refine blk_drewN ?_ _ | refine blk_drew ?_ | refine blk_alloc ?_ _)); exact BK115.out) hb); have n2_ := Aside0.mk (below_step (by repeat (first | (with_reducible first | exact HB.out | apply below_alloc | apply pw_below_drewN | apply below_drew1 | refine below_set ?_ GE113.out | refine below_set ?_ GE115.out) | exact HB.out)) hb); have n3_ := Aside0.mk (hbox); have n4_ := Aside0.mk ((by rw [hg]; exact (below_size (by repeat (first | (with_reducible first | exact HB.out | apply below_alloc | apply pw_below_drewN | apply below_drew1 | refine below_set ?_ GE113.out | refine below_set ?_ GE115.out) | exact HB.out))) : w.heap.size ≤ gb117)); have n5_ := Aside0.mk ((by rw [hg]; exact (below_size (by repeat (first | (with_reducible first | exact HB.out | apply below_alloc | apply pw_below_drewN | apply below_drew1 | refine below_set ?_ GE113.out | refine below_set ?_ GE115.out) | exact HB.out))) : w.heap.size ≤ gb117)); have n6_ := Aside0.mk ((by rw [hg]; exact Nat.ne_of_lt (blk_lt (g := gb113) (o := .cells #[.slice (some ad114) l0_0.length c0_0, .int .i64 a0_1, .int .i64 a0_2, .int .i64 a0_3] 26 (0, 0)) (by (with_reducible repeat (first | refine blk_drewN ?_ _ | refine blk_drew ?_ | refine blk_alloc ?_ _)); exact BK113.out)) : gb113 ≠ gb117)); have n7_ := Aside0.mk ((by rw [hg]; exact Nat.ne_of_gt (blk_lt (g := gb113) (o := .cells #[.slice (some ad114) l0_0.length c0_0, .int .i64 a0_1, .int .i64 a0_2, .int .i64 a0_3] 26 (0, 0)) (by (with_reducible repeat (first | refine blk_drewN ?_ _ | refine blk_drew ?_ | refine blk_alloc ?_ _)); exact BK113.out)) : gb117 ≠ gb113)); have n8_ := Aside0.mk ((by rw [hg]; exact Nat.ne_of_lt (blk_lt (g := gb115) (o := .cells #[.int .i64 ((rd_T44 l0_0 x13_1).f0), .int .i64 ((rd_T44 l0_0 x13_1).f1), .int .i64 ((rd_T44 l0_0 x13_1).f2), .int .i64 ((rd_T44 l0_0 x13_1).f3), .int .i64 ((rd_T44 l0_0 x13_1).f4), .string ((rd_T44 l0_0 x13_1).f5), .slice (some ad116) ((rd_T44 l0_0 x13_1).f6).length c114_6] 44 (0, 0)) (by (with_reducible repeat (first | refine blk_drewN ?_ _ | refine blk_drew ?_ | refine blk_alloc ?_ _)); exact BK115.out)) : gb115 ≠ gb117)); have n9_ := Aside0.mk ((by rw [hg]; exact Nat.ne_of_gt (blk_lt (g := gb115) (o := .cells #[.int .i64 ((rd_T44 l0_0 x13_1).f0), .int .i64 ((rd_T44 l0_0 x13_1).f1), .int .i64 ((rd_T44 l0_0 x13_1).f2), .int .i64 ((rd_T44 l0_0 x13_1).f3), .int .i64 ((rd_T44 l0_0 x13_1).f4), .string ((rd_T44 l0_0 x13_1).f5), .slice (some ad116) ((rd_T44 l0_0 x13_1).f6).length c114_6] 44 (0, 0)) (by (with_reducible repeat (first | refine blk_drewN ?_ _ | refine blk_drew ?_ | refine blk_alloc ?_ _)); exact BK115.out)) : gb117 ≠ gb115)); clear BK113; clear BK115; clear HB; have BK113 := n0_; have BK115 := n1_; have HB := n2_; have BK117 := n3_; have GW117 := n4_; have GE117 := n5_; have NB113_117 := n6_; have NB117_113 := n7_; have NB115_117 := n8_; have NB117_115 := n9_; clear n0_ n1_ n2_ n3_ n4_ n5_ n6_ n7_ n8_ n9_; clear hb hbox hg; have hnb20 := NB117_113.out; have hnc20 := NB113_117.out; have hnb21 := NB117_115.out; have hnc21 := NB115_117.out; have hcz22_0 : w19.cell? ⟨gb117, 0, none⟩ = some (.string (⟨#[]⟩ : ByteArray)) := (blk_cell BK117.out 0).trans rfl; have hcz22_1 : w19.cell? ⟨gb117, 1, none⟩ = some (.int .i64 0) := (blk_cell BK117.out 1).trans rfl; have hfz22_0 := blk_frozen BK117.out 0; have hfz22_1 := blk_frozen BK117.out 1))
            go_roundg k2
            case measure => have := HK1.out; have := HK2.out; omega
            case rel => exact ⟨(x5_2), (wrap64 (x20_2 + 1)), (by first | rfl | (simp; done) | (simp [*]; done)), (by first | rfl | (simp; done) | (simp [*]; done)), H', ⟨by have := HK1.out; have := HK2.out; omega⟩, ⟨by (with_reducible repeat (first | refine blk_drewN ?_ _ | refine blk_drew ?_ | refine blk_alloc ?_ _)); refine blk_far ?_ NB113_117.out _; (with_reducible repeat (first | refine blk_drewN ?_ _ | refine blk_drew ?_ | refine blk_alloc ?_ _)); refine blk_far ?_ NB113_117.out _; (with_reducible repeat (first | refine blk_drewN ?_ _ | refine blk_drew ?_ | refine blk_alloc ?_ _)); exact BK113.out⟩, ⟨by (with_reducible repeat (first | refine blk_drewN ?_ _ | refine blk_drew ?_ | refine blk_alloc ?_ _)); refine blk_far ?_ NB115_117.out _; (with_reducible repeat (first | refine blk_drewN ?_ _ | refine blk_drew ?_ | refine blk_alloc ?_ _)); refine blk_far ?_ NB115_117.out _; (with_reducible repeat (first | refine blk_drewN ?_ _ | refine blk_drew ?_ | refine blk_alloc ?_ _)); exact BK115.out⟩, ⟨by repeat (first | (with_reducible first | exact HB.out | apply below_alloc | apply pw_below_drewN | apply below_drew1 | refine below_set ?_ GE113.out | refine below_set ?_ GE115.out | refine below_set ?_ GE117.out) | exact HB.out)⟩⟩
          ·
           rw [if_neg c13] at H
           exact absurd H (by simp)
         ·
          rw [if_neg c12] at H
          exact absurd H (by simp)
        ·
         rw [if_neg c11] at H
         have c11b0 : decide (x20_2 < (((rd_T44 l0_0 x13_1).f6).length : Int)) = false := decide_eq_false c11
         clear c11
         have H' := Aside0.mk H
         clear H
         go_wp2
         go_roundg k2
         case measure => have := HK1.out; have := HK2.out; omega
         case rel => exact ⟨(x5_2), (wrap64 (x13_1 + 1)), (by first | rfl | (simp; done) | (simp [*]; done)), (by first | rfl | (simp; done) | (simp [*]; done)), H', ⟨by have := HK1.out; have := HK2.out; omega⟩, ⟨by (with_reducible repeat (first | refine blk_drewN ?_ _ | refine blk_drew ?_ | refine blk_alloc ?_ _)); exact BK113.out⟩, ⟨by repeat (first | (with_reducible first | exact HB.out | apply below_alloc | apply pw_below_drewN | apply below_drew1 | refine below_set ?_ GE113.out | refine below_set ?_ GE115.out) | exact HB.out)⟩⟩
     ·
      rw [if_neg c7] at H
      exact absurd H (by simp)
    ·
     rw [if_neg c6] at H
     exact absurd H (by simp)
   ·
    rw [if_neg c5] at H
    have c5b0 : decide (x13_1 < (l0_0.length : Int)) = false := decide_eq_false c5
    clear c5
    obtain rfl := Option.some.inj H
    go_wp2
    go_ret
    exact ⟨by first | rfl | (simp [errW_none, errW_some] <;> rfl) | (simp [*, errW_none, errW_some] <;> rfl), by repeat (first | (with_reducible first | exact HB.out | apply below_alloc | apply pw_below_drewN | apply below_drew1 | refine below_set ?_ GE113.out) | exact HB.out)⟩
end Go.Proofs.YtnpnablnnfekkaaDoor.PTr
namespace Go.Proofs.YtnpnablnnfekkaaDoor.PTr
open Go.RowKit Go.Proofs.YtnpnablnnfekkaaDoorW.PrintWords Go.Proofs.YtnpnablnnfekkaaDoorW.PrintLast Go.Proofs.YtnpnablnnfekkaaDoorW.PrintMore
attribute [local go_sem] max2_int min2_int max_two min_two max_three min_three max_four min_four   -- for this text's walks alone
set_option linter.unusedVariables false
set_option linter.unusedSimpArgs false
theorem w64_PTr7 (x : Int) : wrap64 (x % 256) = x % 256 := by unfold wrap64; omega
def rehearsallaw04_two.f  : Option ((List (S44)) × Int × Int × Int) := some ((([(⟨1, 1, 0, 0, 0, (⟨#[]⟩ : ByteArray), (([(⟨(⟨#[97]⟩ : ByteArray), 5⟩ : S61), (⟨(⟨#[98]⟩ : ByteArray), 5⟩ : S61)] : List (S61)))⟩ : S44), (⟨5, 2, 0, 0, 0, (⟨#[]⟩ : ByteArray), ([] : List (S61))⟩ : S44)] : List (S44))), 9, 0, 0)
set_option maxHeartbeats 8000000 in
set_option maxRecDepth 100000 in
theorem rehearsallaw04_two.calls  (r1 : List (S44)) (r2 : Int) (r3 : Int) (r4 : Int) (w : World) (h : rehearsallaw04_two.f  = some (r1, r2, r3, r4)) :
  Calls Tryd.prog 57 #[] w fun e w' => ∃ v0_ : Value, e = .returned (.agg #[v0_, .int .i64 r2, .int .i64 r3, .int .i64 r4]) ∧ Kd.N k44 44 w' w.heap.size (fun k_ => (w.heap.size ≤ k_)) v0_ r1 ∧ Below w.heap.size w w' := by
 have hu26 := Tryd.underlying26
 have hu61 := Tryd.underlying61
 have hu44 := Tryd.underlying44
 have HB := Aside0.mk (Below.refl w.heap.size w)
 have H : (some ((([(⟨1, 1, 0, 0, 0, (⟨#[]⟩ : ByteArray), (([(⟨(⟨#[97]⟩ : ByteArray), 5⟩ : S61), (⟨(⟨#[98]⟩ : ByteArray), 5⟩ : S61)] : List (S61)))⟩ : S44), (⟨5, 2, 0, 0, 0, (⟨#[]⟩ : ByteArray), ([] : List (S61))⟩ : S44)] : List (S44))), 9, 0, 0)) = some (r1, r2, r3, r4) := h
 clear h
 obtain ⟨y119, hy119⟩ : ∃ y_ : List (S61), y_ = (([(⟨(⟨#[97]⟩ : ByteArray), 5⟩ : S61), (⟨(⟨#[98]⟩ : ByteArray), 5⟩ : S61)] : List (S61))) := ⟨_, rfl⟩
 replace H : (some ((([(⟨1, 1, 0, 0, 0, (⟨#[]⟩ : ByteArray), y119⟩ : S44), (⟨5, 2, 0, 0, 0, (⟨#[]⟩ : ByteArray), ([] : List (S61))⟩ : S44)] : List (S44))), 9, 0, 0)) = some (r1, r2, r3, r4) := by first | (rw [hy119]; with_reducible exact H) | (have H2_ := (Option.bind_some _ _).symm.trans H; rw [hy119]; with_reducible exact H2_) | (have H2_ := (Option.bind_some _ _).symm.trans H; with_reducible exact H2_) | with_reducible exact H | (rw [hy119]; exact H) | exact H
 have Ny119 := Aside0.mk hy119
 clear hy119
 obtain ⟨y122, hy122⟩ : ∃ y_ : List (S44), y_ = (([(⟨1, 1, 0, 0, 0, (⟨#[]⟩ : ByteArray), y119⟩ : S44), (⟨5, 2, 0, 0, 0, (⟨#[]⟩ : ByteArray), ([] : List (S61))⟩ : S44)] : List (S44))) := ⟨_, rfl⟩
 replace H : (some (y122, 9, 0, 0)) = some (r1, r2, r3, r4) := by first | (rw [hy122]; with_reducible exact H) | (have H2_ := (Option.bind_some _ _).symm.trans H; rw [hy122]; with_reducible exact H2_) | (have H2_ := (Option.bind_some _ _).symm.trans H; with_reducible exact H2_) | with_reducible exact H | (rw [hy122]; exact H) | exact H
 have Ny122 := Aside0.mk hy122
 clear hy122
 simp only [Option.some.injEq, Prod.mk.injEq] at H
 obtain ⟨rfl, rfl, rfl, rfl⟩ := H
 go_enter Tryd.func57, Tryd.ntmps57
 go_wp2_with (first | ((with_reducible refine gate_dst (N := 0) rfl ?_); refine box_event ?hg (N := 0) ?hd (cs := #[.slice none 0 0, .int .i64 0, .int .i64 0, .int .i64 0]) (t := 26) ?hr ?_; (case hd => rfl); (case hg => rfl); (case hr => first | (go_simp; done) | (go_simp; rfl)); intro gb118 hg w1 hbox hb; have n0_ := Aside0.mk (below_step (by repeat (first | (with_reducible first | exact HB.out | apply below_alloc | apply pw_below_drewN | apply below_drew1) | exact HB.out)) hb); have n1_ := Aside0.mk (hbox); have n2_ := Aside0.mk ((by rw [hg]; exact (below_size (by repeat (first | (with_reducible first | exact HB.out | apply below_alloc | apply pw_below_drewN | apply below_drew1) | exact HB.out))) : w.heap.size ≤ gb118)); have n3_ := Aside0.mk ((by rw [hg]; exact (below_size (by repeat (first | (with_reducible first | exact HB.out | apply below_alloc | apply pw_below_drewN | apply below_drew1) | exact HB.out))) : w.heap.size ≤ gb118)); clear HB; have HB := n0_; have BK118 := n1_; have GW118 := n2_; have GE118 := n3_; clear n0_ n1_ n2_ n3_; clear hb hbox hg) | ((with_reducible refine gate_dst (N := 3) rfl ?_); refine Kd.R_lit k61 _ 61 ?hg (N := 3) ?hd (xs := ([(⟨(⟨#[97]⟩ : ByteArray), 5⟩ : S61), (⟨(⟨#[98]⟩ : ByteArray), 5⟩ : S61)] : List (S61))) (inner := [.string (⟨#[97]⟩ : ByteArray), .int .i64 5, .string (⟨#[98]⟩ : ByteArray), .int .i64 5]) (ok := fun _ => True) (okp := fun _ => True) ?hr ?hp (fun _ hk => hk) trivial (Below.refl _ _) (Nat.le_refl _) (by simp) ?_; (case hd => rfl); (case hg => rfl); (case hr => first | (go_simp; done) | (go_simp; rfl)); (case hp => exact (Reps.c2 (show Kd.M k61 _ _ _ (⟨(⟨#[97]⟩ : ByteArray), 5⟩ : S61) [.string (⟨#[97]⟩ : ByteArray), .int .i64 5] from (k61_mkM _ _ _ (⟨(⟨#[97]⟩ : ByteArray), 5⟩ : S61) )) (Reps.c2 (show Kd.M k61 _ _ _ (⟨(⟨#[98]⟩ : ByteArray), 5⟩ : S61) [.string (⟨#[98]⟩ : ByteArray), .int .i64 5] from (k61_mkM _ _ _ (⟨(⟨#[98]⟩ : ByteArray), 5⟩ : S61) )) (Reps.none _ _)))); intro v120 w2 ho3 hb hg_ hnew_; clear hg_ hnew_; (first | rw [← Ny119.out] at ho3 | (simp only [Int.reduceToNat] at ho3; rw [← Ny119.out] at ho3)); have n0_ := Aside0.mk (Kd.R_lower (Kd.R_newM (M := fun k_ => (w.heap.size ≤ k_)) ho3 (below_size (by repeat (first | (with_reducible first | exact HB.out | apply below_alloc | apply pw_below_drewN | apply below_drew1 | refine below_set ?_ GE118.out) | exact HB.out))) (fun k_ h_ => h_)) (below_size (by repeat (first | (with_reducible first | exact HB.out | apply below_alloc | apply pw_below_drewN | apply below_drew1 | refine below_set ?_ GE118.out) | exact HB.out)))); have n1_ := Aside0.mk (blk_below (g := gb118) (o := .cells #[.slice none 0 0, .int .i64 0, .int .i64 0, .int .i64 0] 26 (0, 0)) (by (with_reducible repeat (first | refine blk_drewN ?_ _ | refine blk_drew ?_ | refine blk_alloc ?_ _)); exact BK118.out) hb); have n2_ := Aside0.mk (below_step (by repeat (first | (with_reducible first | exact HB.out | apply below_alloc | apply pw_below_drewN | apply below_drew1 | refine below_set ?_ GE118.out) | exact HB.out)) hb); clear BK118; clear HB; have HO121 := n0_; have BK118 := n1_; have HB := n2_; clear n0_ n1_ n2_; clear hb ho3; obtain ⟨Ao4, co4, eo4⟩ := Kd.R_slice HO121.out; subst eo4) | ((with_reducible refine gate_dst (N := 6) rfl ?_); refine Kd.N_lit k44 _ 44 ?hg (N' := 6) ?hd (xs := ([(⟨1, 1, 0, 0, 0, (⟨#[]⟩ : ByteArray), y119⟩ : S44), (⟨5, 2, 0, 0, 0, (⟨#[]⟩ : ByteArray), ([] : List (S61))⟩ : S44)] : List (S44))) (inner := [.int .i64 1, .int .i64 1, .int .i64 0, .int .i64 0, .int .i64 0, .string (⟨#[]⟩ : ByteArray), .slice Ao4 y119.length co4, .int .i64 5, .int .i64 2, .int .i64 0, .int .i64 0, .int .i64 0, .string (⟨#[]⟩ : ByteArray), .slice none 0 0]) (ok := (fun k_ => (w.heap.size ≤ k_) ∧ k_ ≠ gb118)) (okp := (fun k_ => (w.heap.size ≤ k_) ∧ k_ ≠ gb118)) ?hr ?hp (fun _ hk => hk) ((show ∀ k_, w2.heap.size ≤ k_ → (fun k_ => (w.heap.size ≤ k_) ∧ k_ ≠ gb118) k_ from fun k_ hk => ⟨(Nat.le_trans (below_size (by repeat (first | (with_reducible first | exact HB.out | apply below_alloc | apply pw_below_drewN | apply below_drew1 | refine below_set ?_ GE118.out) | exact HB.out))) hk), Kd.freshB (g := gb118) (o := .cells #[.slice none 0 0, .int .i64 0, .int .i64 0, .int .i64 0] 26 (0, 0)) (by (with_reducible repeat (first | refine blk_drewN ?_ _ | refine blk_drew ?_ | refine blk_alloc ?_ _)); exact BK118.out) k_ hk⟩) _ (Nat.le_refl _)) (Below.refl _ _) (Nat.le_refl _) (by simp) ?_; (case hd => rfl); (case hg => rfl); (case hr => first | (go_simp; done) | (go_simp; rfl)); (case hp => exact (Reps.c7 (show Kd.FK k44 _ _ (⟨1, 1, 0, 0, 0, (⟨#[]⟩ : ByteArray), y119⟩ : S44) [.int .i64 1, .int .i64 1, .int .i64 0, .int .i64 0, .int .i64 0, .string (⟨#[]⟩ : ByteArray), .slice Ao4 y119.length co4] from (k44_mkF _ _ (⟨1, 1, 0, 0, 0, (⟨#[]⟩ : ByteArray), y119⟩ : S44) (Kd.R_reads' (Kd.R_mono (ok' := (fun k_ => (w.heap.size ≤ k_) ∧ k_ ≠ gb118)) (Kd.R_types (HO121.out) BK118.out (by decide)) (fun k_ hk => ⟨hk.1.1, hk.2⟩))).2.1 (Kd.R_F (Kd.R_mono (ok' := (fun k_ => (w.heap.size ≤ k_) ∧ k_ ≠ gb118)) (Kd.R_types (HO121.out) BK118.out (by decide)) (fun k_ hk => ⟨hk.1.1, hk.2⟩))))) (Reps.c7 (show Kd.FK k44 _ _ (⟨5, 2, 0, 0, 0, (⟨#[]⟩ : ByteArray), ([] : List (S61))⟩ : S44) [.int .i64 5, .int .i64 2, .int .i64 0, .int .i64 0, .int .i64 0, .string (⟨#[]⟩ : ByteArray), .slice none 0 0] from (k44_mkF _ _ (⟨5, 2, 0, 0, 0, (⟨#[]⟩ : ByteArray), ([] : List (S61))⟩ : S44) (Nat.le_refl _) (Kd.F_nil _ _ _))) (Reps.none _ _)))); intro v123 w5 ho6 hb hg_ hnew_; clear hg_ hnew_; (first | rw [← Ny122.out] at ho6 | (simp only [Int.reduceToNat] at ho6; rw [← Ny122.out] at ho6)); have n0_ := Aside0.mk (Kd.N_lower ho6 (below_size (by repeat (first | (with_reducible first | exact HB.out | apply below_alloc | apply pw_below_drewN | apply below_drew1 | refine below_set ?_ GE118.out) | exact HB.out)))); have n1_ := Aside0.mk (blk_below (g := gb118) (o := .cells #[.slice none 0 0, .int .i64 0, .int .i64 0, .int .i64 0] 26 (0, 0)) (by (with_reducible repeat (first | refine blk_drewN ?_ _ | refine blk_drew ?_ | refine blk_alloc ?_ _)); exact BK118.out) hb); have n2_ := Aside0.mk (below_step (by repeat (first | (with_reducible first | exact HB.out | apply below_alloc | apply pw_below_drewN | apply below_drew1 | refine below_set ?_ GE118.out) | exact HB.out)) hb); clear BK118; clear HB; clear HO121; have HO124 := n0_; have BK118 := n1_; have HB := n2_; clear n0_ n1_ n2_; clear hb ho6; obtain ⟨Ao7, co7, eo7⟩ := Kd.N_slice HO124.out; subst eo7; have hcz8_0 : w5.cell? ⟨gb118, 0, none⟩ = some (.slice none 0 0) := (blk_cell BK118.out 0).trans rfl; have hcz8_1 : w5.cell? ⟨gb118, 1, none⟩ = some (.int .i64 0) := (blk_cell BK118.out 1).trans rfl; have hcz8_2 : w5.cell? ⟨gb118, 2, none⟩ = some (.int .i64 0) := (blk_cell BK118.out 2).trans rfl; have hcz8_3 : w5.cell? ⟨gb118, 3, none⟩ = some (.int .i64 0) := (blk_cell BK118.out 3).trans rfl; have hfz8_0 := blk_frozen BK118.out 0; have hfz8_1 := blk_frozen BK118.out 1; have hfz8_2 := blk_frozen BK118.out 2; have hfz8_3 := blk_frozen BK118.out 3))
 refine bodyPost_ret (results_cell_row rfl _ _ gb118 26 #[.slice Ao7 y122.length co7, .int .i64 9, .int .i64 0, .int .i64 0] (0, 0) _ rfl (by (with_reducible repeat (first | refine blk_drewN ?_ _ | refine blk_drew ?_ | refine blk_alloc ?_ _)); refine blk_put (cs := #[.slice Ao7 y122.length co7, .int .i64 9, .int .i64 0, .int .i64 0]) ?_ 3 _ (by first | rfl | (simp only [w64_PTr7]; rfl) | (simp [w64_PTr7]; done)); (with_reducible repeat (first | refine blk_drewN ?_ _ | refine blk_drew ?_ | refine blk_alloc ?_ _)); refine blk_put (cs := #[.slice Ao7 y122.length co7, .int .i64 9, .int .i64 0, .int .i64 0]) ?_ 2 _ (by first | rfl | (simp only [w64_PTr7]; rfl) | (simp [w64_PTr7]; done)); (with_reducible repeat (first | refine blk_drewN ?_ _ | refine blk_drew ?_ | refine blk_alloc ?_ _)); refine blk_put (cs := #[.slice Ao7 y122.length co7, .int .i64 0, .int .i64 0, .int .i64 0]) ?_ 1 _ (by first | rfl | (simp only [w64_PTr7]; rfl) | (simp [w64_PTr7]; done)); (with_reducible repeat (first | refine blk_drewN ?_ _ | refine blk_drew ?_ | refine blk_alloc ?_ _)); refine blk_put (cs := #[.slice none 0 0, .int .i64 0, .int .i64 0, .int .i64 0]) ?_ 0 _ (by first | rfl | (simp only [w64_PTr7]; rfl) | (simp [w64_PTr7]; done)); (with_reducible repeat (first | refine blk_drewN ?_ _ | refine blk_drew ?_ | refine blk_alloc ?_ _)); exact BK118.out) Tryd.underlying26 rfl (by kernel_rfl)) rfl ?_
 exact ⟨_, by first | rfl | (simp [errW_none, errW_some] <;> rfl) | (simp [*, errW_none, errW_some] <;> rfl), by (with_reducible repeat (first | apply Kd.N_alloc | apply Kd.N_drewN | apply Kd.N_drew)); exact Kd.N_mono (Kd.N_far (p := ⟨gb118, 3, none⟩) (Kd.N_far (p := ⟨gb118, 2, none⟩) (Kd.N_far (p := ⟨gb118, 1, none⟩) (Kd.N_far (p := ⟨gb118, 0, none⟩) (Kd.N_mono HO124.out (fun k_ hk => (⟨hk, hk.2⟩ : _ ∧ k_ ≠ gb118))) (fun _ hk => hk.2) (.slice Ao7 y122.length co7)) (fun _ hk => hk.2) (.int .i64 9)) (fun _ hk => hk.2) (.int .i64 0)) (fun _ hk => hk.2) (.int .i64 0)) (fun _ hk => hk.1.1), by repeat (first | (with_reducible first | exact HB.out | apply below_alloc | apply pw_below_drewN | apply below_drew1 | refine below_set ?_ GE118.out) | exact HB.out)⟩
end Go.Proofs.YtnpnablnnfekkaaDoor.PTr
set_option linter.unusedVariables false
set_option linter.unusedSimpArgs false
namespace Go.Proofs.YtnpnablnnfekkaaDoor.PTr
open Go.RowKit Go.Proofs.YtnpnablnnfekkaaDoor Go.Proofs.YtnpnablnnfekkaaDoorW.PrintWords Go.Proofs.YtnpnablnnfekkaaDoorW.PrintLast Go.Proofs.YtnpnablnnfekkaaDoorW.PrintMore
def newL : List Nod := [⟨1, 1, 493, 0, 0, (⟨#[]⟩ : ByteArray), []⟩]
def twoL : List Nod := [⟨1, 1, 0, 0, 0, (⟨#[]⟩ : ByteArray), [⟨(⟨#[97]⟩ : ByteArray), 5⟩, ⟨(⟨#[98]⟩ : ByteArray), 5⟩]⟩, ⟨5, 2, 0, 0, 0, (⟨#[]⟩ : ByteArray), []⟩]
def canL : List Nod := [⟨1, 1, 0, 0, 0, (⟨#[]⟩ : ByteArray), [⟨(⟨#[97]⟩ : ByteArray), 2⟩, ⟨(⟨#[98]⟩ : ByteArray), 2⟩]⟩, ⟨2, 2, 0, 0, 0, (⟨#[]⟩ : ByteArray), []⟩]
theorem aw_usage : tree_Usage.f 9 newL 1 0 0 = some (1, 0) := by kernel_rfl
theorem aw_links : tree_Links.f 9 twoL 9 0 0 5 = some 2 := by kernel_rfl
theorem aw_path : tree_Path.f twoL 9 0 0 5 = some ((⟨#[47, 97]⟩ : ByteArray), true) := by kernel_rfl
theorem aw_canon : tree_Canon.f twoL 9 0 0 = some (canL, 2, 0, 0, 0) := by kernel_rfl
structure ASt (w0 w : World) (g : Nat) (v : Value) : Prop where
 hb : Below w0.heap.size w0 w
 b : w.heap[g]? = some (.cells #[v, .int .i64 2, .int .i64 0, .int .i64 0] 26 (0, 0))
 s : Kd.S k44 44 w w0.heap.size (fun _ => True) v canL
theorem ASt.below {w0 w w' : World} {g : Nat} {v : Value} (h : ASt w0 w g v) (hb : Below w.heap.size w w') : ASt w0 w' g v := ⟨below_step h.hb hb, blk_below h.b hb, Kd.S_below h.s hb⟩
theorem ASt.init {w0 w w1 : World} {g : Nat} {v : Value} (hb : Below w0.heap.size w0 w) (hs : Kd.S k44 44 w w0.heap.size (fun _ => True) v canL) (hg : g = w.heap.size) (hw : Below w.heap.size w w1) (hx : w1.heap[g]? = some (.cells zT 26 (0, 0))) :
  ASt w0 ((((w1.setCell ⟨g, 0, none⟩ v).setCell ⟨g, 1, none⟩ (.int .i64 2)).setCell ⟨g, 2, none⟩ (.int .i64 0)).setCell ⟨g, 3, none⟩ (.int .i64 0)) g v := by
 have e : w0.heap.size ≤ g := by rw [hg]; exact below_size hb
 have b0 : w1.heap[g]? = some (.cells #[.slice none 0 0, .int .i64 0, .int .i64 0, .int .i64 0] 26 (0, 0)) := hx
 exact ⟨below_set (below_set (below_set (below_set (below_step hb hw) e) e) e) e, put4 b0 _ _ _ _, put4S (Kd.S_below hs hw) b0 _ _ _ _⟩
set_option maxHeartbeats 2000000 in
set_option maxRecDepth 100000 in
theorem awake_any (w : World) : Calls Tryd.prog 16 #[] w fun e w' => e = .returned (.bool true) ∧ Below w.heap.size w w' := by
 have hu24 := Tryd.underlying24
 have hu26 := Tryd.underlying26
 go_enter Tryd.func16, Tryd.ntmps16
 go_upto_region 4 with (first | (go_at_call 20; (with_reducible refine (tree_New.calls 0 0 newL 1 0 0 _ rfl).mono ?_); rintro e w1 ⟨v1, rfl, hs, hb⟩; obtain ⟨A1, c1, e1, hc1, hC1⟩ := Kd.S_reads hs; subst e1; have HB1 := Lib.hid hb; have HC := Lib.hid (And.intro hC1 hc1); clear hs hb hC1 hc1) | (go_at_call 30; (with_reducible refine (tree_Usage.calls 9 _ _ newL 1 0 0 1 0 _ HC.out.1 HC.out.2 aw_usage).mono ?_); rintro e w2 ⟨rfl, hb⟩; have HB := Lib.hid (below_step HB1.out hb); clear hb HC HB1) | (go_at_call 57; (with_reducible refine (rehearsallaw04_two.calls twoL 9 0 0 _ rfl).mono ?_); rintro e w3 ⟨v3, rfl, hs, hb⟩; obtain ⟨A3, c3, e3, hc3, hC3⟩ := Kd.N_reads hs; subst e3; have HB3 := Lib.hid (below_step HB.out hb); clear HB; have HB := HB3; have HC := Lib.hid (And.intro hC3 hc3); clear hs hb hC3 hc3 HB3) | (go_at_call 22; (with_reducible refine (tree_Path.calls _ _ twoL 9 0 0 5 _ _ _ HC.out.1 HC.out.2 aw_path).mono ?_); rintro e w4 ⟨rfl, hb⟩; have HB3 := Lib.hid (below_step HB.out hb); clear HB; have HB := HB3; clear HB3 HC hb) | (go_at_call 24; (with_reducible refine (tree_Canon.calls _ _ twoL 9 0 0 canL 2 0 0 0 _ HC.out.1 HC.out.2 aw_canon).mono ?_); rintro e w5 ⟨v5, rfl, hs, hb⟩; obtain ⟨A5, c5, e5, _, _⟩ := Kd.S_reads hs; subst e5; have HS := Lib.hid (Kd.S_lower hs (below_size HB.out)); have HB3 := Lib.hid (below_step HB.out hb); clear HB; have HB := HB3; clear HB3 HC hb hs) | ((with_reducible refine gate_dst (N := 5) rfl ?_); refine box_event ?hg (N := 5) ?hd (cs := zT) (t := 26) ?hr ?_; (case hd => rfl); (case hg => rfl); (case hr => first | (go_simp; done) | (go_simp; rfl)); intro g hg w6 hbox hb; have AS := Lib.hid (ASt.init HB.out HS.out hg hb hbox); have k0 : w6.cell? ⟨g, 0, none⟩ = some (.slice none 0 0) := (blk_cell hbox 0).trans rfl; have k1 : w6.cell? ⟨g, 1, none⟩ = some (.int .i64 0) := (blk_cell hbox 1).trans rfl; have k2 : w6.cell? ⟨g, 2, none⟩ = some (.int .i64 0) := (blk_cell hbox 2).trans rfl; have k3 : w6.cell? ⟨g, 3, none⟩ = some (.int .i64 0) := (blk_cell hbox 3).trans rfl; have f0 := blk_frozen hbox 0; have f1 := blk_frozen hbox 1; have f2 := blk_frozen hbox 2; have f3 := blk_frozen hbox 3; clear hbox hb hg HB HS))
 (try simp only [Act.put, List.setIfInBounds_toArray, List.set_cons_zero, List.set_cons_succ])
 clear k0 k1 k2 k3 f0 f1 f2 f3
 generalize (((w6.setCell _ _).setCell _ _).setCell _ _).setCell _ _ = w7 at AS ⊢
 go_wp2_with (first | (go_at_call 57; (with_reducible refine (rehearsallaw04_two.calls twoL 9 0 0 _ rfl).mono ?_); rintro e w8 ⟨v3, rfl, hs, hb⟩; obtain ⟨A3, c3, e3, hc3, hC3⟩ := Kd.N_reads hs; subst e3; have AS2 := Lib.hid (AS.out.below hb); clear AS; have HC := Lib.hid (And.intro hC3 hc3); clear hs hb hC3 hc3) | (go_at_call 33; (with_reducible refine (tree_Links.calls 9 _ _ twoL 9 0 0 5 2 _ HC.out.1 HC.out.2 aw_links).mono ?_); rintro e w9 ⟨rfl, hb⟩; have AS3 := Lib.hid (AS2.out.below hb); clear AS2 HC hb; obtain ⟨A5_, c5_, e5_, hl5, hC5⟩ := Kd.S_reads AS3.out.s; obtain ⟨ad1, Aa, ca, ea1, x10, x11, x12, x13, x14, x15, x16, hl1, hi1⟩ := at_T44 hC5 1 (by decide) (by decide); obtain ⟨ad0, A6, c6, ea0, x00, x01, x02, x03, x04, x05, x06, hl0, hi0⟩ := at_T44 hC5 0 (by decide) (by decide); obtain ⟨ade, eae, y0, y1⟩ := at_T61 hi0 1 (by decide) (by decide); cases eae; cases ea0; cases ea1; cases e5_; have z0 : w9.cell? ⟨g, 0, none⟩ = some (.slice (some ad1) 2 c5) := (blk_cell AS3.out.b 0).trans rfl; rw [show (rd_T44 canL 1).f0 = 2 from rfl] at x10; rw [show (rd_T44 canL 0).f6.length = 2 from rfl] at x06; rw [show (rd_T61 (rd_T44 canL 0).f6 1).f1 = 2 from rfl] at y1; simp only [show (1 : Int).toNat = 1 from rfl, show (0 : Int).toNat = 0 from rfl, Nat.reduceMul, Nat.reduceEqDiff, Go.Addr.add, ↓reduceIte] at x10 x06 y1; clear y0 x00 x01 x02 x03 x04 x05 x11 x12 x13 x14 x15 x16 hl1 hi1 hl0 hi0 hC5 hl5))
 go_ret
 exact ⟨rfl, AS3.out.hb⟩
end Go.Proofs.YtnpnablnnfekkaaDoor.PTr
set_option linter.unusedVariables false
set_option linter.unusedSimpArgs false
namespace Go.Proofs.YtnpnablnnfekkaaDoor.PTr
open Go.RowKit Go.Proofs.YtnpnablnnfekkaaDoor Go.Proofs.YtnpnablnnfekkaaDoorW.PrintWords
def SmallOK (l : List Nod) : Prop := (l.length ≤ 60 ∧ ∀ x ∈ l, x.f6.length ≤ 200 ∧ x.f5.size ≤ 20000) ∨ 512 < l.length
theorem small_l0 (l : List Nod) (a1 a2 a3 : Int) : ∀ (d i : Nat) (n : Int), i + d = 200 → 0 ≤ n → n ≤ 200 * i → (∀ q (h : q < l.length), q < i → l[q].f6.length ≤ 200 ∧ l[q].f5.size ≤ 20000) →
  ∃ b, Evt (fun k => rehearsalref04_Small.l0 k n (i : Int) l a1 a2 a3) b ∧ (b = true → SmallOK l) := by
 have fin : ∀ (i : Nat) (n : Int), (l.length ≤ 60 → ∀ q (h : q < l.length), l[q].f6.length ≤ 200 ∧ l[q].f5.size ≤ 20000) → ∃ b, (∀ k, rehearsalref04_Small.j1 (k + 1) n (i : Int) false l a1 a2 a3 = some b) ∧ (b = true → SmallOK l) := by
  intro i n hg
  by_cases h60 : (l.length : Int) ≤ 60
  ·
   by_cases hn : n ≤ 200
   ·
    exact ⟨true, fun k => by simp only [rehearsalref04_Small.j1]; rw [if_neg (by decide), if_pos h60, if_pos hn], fun _ => .inl ⟨by omega, fun x hx => by obtain ⟨q, hq, rfl⟩ := List.getElem_of_mem hx; exact hg (by omega) q hq⟩⟩
   ·
    exact ⟨decide ((l.length : Int) > 512), fun k => by simp only [rehearsalref04_Small.j1]; rw [if_neg (by decide), if_pos h60, if_neg hn], fun h => .inr (by have := of_decide_eq_true h; omega)⟩
  ·
   exact ⟨decide ((l.length : Int) > 512), fun k => by simp only [rehearsalref04_Small.j1]; rw [if_neg (by decide), if_neg h60], fun h => .inr (by have := of_decide_eq_true h; omega)⟩
 intro d
 induction d with
 | zero =>
  intro i n hi h0 h1 hg
  obtain ⟨b, hb, hs⟩ := fin i n (fun hl q hq => hg q hq (by omega))
  refine ⟨b, Evt.const 1 (fun k hk => ?_), hs⟩
  obtain ⟨m, rfl⟩ : ∃ m, k = m + 1 := ⟨k - 1, by omega⟩
  simp only [rehearsalref04_Small.l0]
  by_cases hl : (i : Int) < (l.length : Int)
  ·
   rw [if_pos hl, decide_eq_false (show ¬ (i : Int) < 200 from by omega)]; exact hb m
  ·
   rw [if_neg hl]; exact hb m
 | succ d ih =>
  intro i n hi h0 h1 hg
  by_cases hl : i < l.length
  ·
   have hl' : (i : Int) < (l.length : Int) := by omega
   by_cases c1 : l[i].f6.length ≤ 200
   ·
    by_cases c2 : l[i].f5.size ≤ 20000
    ·
     obtain ⟨b, hb, hs⟩ := ih (i + 1) (n + l[i].f6.length) (by omega) (by omega) (by omega) (fun q hq hqi => by
      by_cases e : q = i
      ·
       subst e; exact ⟨c1, c2⟩
      ·
       exact hg q hq (by omega))
     refine ⟨b, Evt.succ 0 (fun k _ => ?_) (Evt.succ 0 (g := fun k => rehearsalref04_Small.j1 k n (i : Int) true l a1 a2 a3) (fun k _ => ?_) hb), hs⟩
     ·
      simp only [rehearsalref04_Small.l0]
      rw [if_pos hl', decide_eq_true (show (i : Int) < 200 from by omega)]
     ·
      simp only [rehearsalref04_Small.j1]
      rw [if_pos trivial, if_pos (by omega), if_pos hl', rdN l i hl, if_neg (by omega), if_neg (by omega), show wrap64 (n + (l[i].f6.length : Int)) = n + (l[i].f6.length : Int) from by unfold wrap64; omega, show wrap64 ((i : Int) + 1) = ((i + 1 : Nat) : Int) from by unfold wrap64; omega]
    ·
     refine ⟨false, Evt.succ 0 (fun k _ => ?_) (Evt.const 0 (g := fun k => rehearsalref04_Small.j1 k n (i : Int) true l a1 a2 a3) (fun k _ => ?_)), fun h => by cases h⟩
     ·
      simp only [rehearsalref04_Small.l0]
      rw [if_pos hl', decide_eq_true (show (i : Int) < 200 from by omega)]
     ·
      simp only [rehearsalref04_Small.j1]
      rw [if_pos trivial, if_pos (by omega), if_pos hl', rdN l i hl, if_neg (by omega), if_pos (by omega)]
   ·
    refine ⟨false, Evt.succ 0 (fun k _ => ?_) (Evt.const 0 (g := fun k => rehearsalref04_Small.j1 k n (i : Int) true l a1 a2 a3) (fun k _ => ?_)), fun h => by cases h⟩
    ·
     simp only [rehearsalref04_Small.l0]
     rw [if_pos hl', decide_eq_true (show (i : Int) < 200 from by omega)]
    ·
     simp only [rehearsalref04_Small.j1]
     rw [if_pos trivial, if_pos (by omega), if_pos hl', rdN l i hl, if_pos (by omega)]
  ·
   obtain ⟨b, hb, hs⟩ := fin i n (fun _ q hq => hg q hq (by omega))
   refine ⟨b, Evt.const 1 (fun k hk => ?_), hs⟩
   obtain ⟨m, rfl⟩ : ∃ m, k = m + 1 := ⟨k - 1, by omega⟩
   simp only [rehearsalref04_Small.l0]
   rw [if_neg (by omega)]; exact hb m
theorem small_ev (l : List Nod) (a1 a2 a3 : Int) : ∃ b, Evt (fun k => rehearsalref04_Small.f k l a1 a2 a3) b ∧ (b = true → SmallOK l) := by
 by_cases h : a1 > 1099511627776
 ·
  exact ⟨false, Evt.const0 (fun k => by unfold rehearsalref04_Small.f; rw [if_pos h]), fun h => by cases h⟩
 ·
  obtain ⟨b, hb, hs⟩ := small_l0 l a1 a2 a3 200 0 0 (by omega) (by omega) (by omega) (fun q _ h => by omega)
  obtain ⟨K, hK⟩ := hb
  exact ⟨b, ⟨K, fun k hk => by show rehearsalref04_Small.f k l a1 a2 a3 = _; unfold rehearsalref04_Small.f; rw [if_neg h]; exact hK k hk⟩, hs⟩
end Go.Proofs.YtnpnablnnfekkaaDoor.PTr
namespace Go.Proofs.YtnpnablnnfekkaaDoor.PTr
open Go.RowKit Go.Proofs.YtnpnablnnfekkaaDoorW.PrintWords Go.Proofs.YtnpnablnnfekkaaDoorW.PrintLast Go.Proofs.YtnpnablnnfekkaaDoorW.PrintMore
attribute [local go_sem] max2_int min2_int max_two min_two max_three min_three max_four min_four   -- for this text's walks alone
set_option linter.unusedVariables false
set_option linter.unusedSimpArgs false
attribute [local go_sem high] eqA61
def api_Entry_69.l0 : Nat → List (S61) → List (S61) → Int → Int → Option (Bool)
 | 0, _, _, _, _ => none
 | k + 1, x0, x1, x12, x13 => if x13 < x12 then (if 0 ≤ x13 then (if x13 < (x0.length : Int) then (if x13 < (x1.length : Int) then (if (!((((rd_T61 x0 x13).f0).toList) == (((rd_T61 x1 x13).f0).toList)) || (!(((rd_T61 x0 x13).f1) == ((rd_T61 x1 x13).f1)))) = true then (some false) else (api_Entry_69.l0 k x0 x1 x12 (wrap64 (x13 + 1)))) else (none)) else (none)) else (none)) else (some true)
def api_Entry_69.f (k : Nat) (l0 : List (S61)) (l1 : List (S61)) : Option (Bool) := if (l0.length : Int) = (l1.length : Int) then (api_Entry_69.l0 k l0 l1 (l0.length : Int) 0) else (some false)
set_option maxHeartbeats 8000000 in
set_option maxRecDepth 100000 in
theorem api_Entry_69.calls (k : Nat) (A0 : Option Addr) (c0 : Nat) (l0 : List (S61)) (A1 : Option Addr) (c1 : Nat) (l1 : List (S61)) (r : Bool) (w : World) (hr0 : Kd.C k61 w A0 l0.length l0) (hc0 : l0.length ≤ c0) (hr1 : Kd.C k61 w A1 l1.length l1) (hc1 : l1.length ≤ c1) (h : api_Entry_69.f k l0 l1 = some r) :
  Calls Tryd.prog 69 #[.slice A0 l0.length c0, .slice A1 l1.length c1] w fun e w' => e = .returned (.bool r) ∧ Drawn0 w w' := by
 have hu61 := Tryd.underlying61
 have HR0 := Aside0.mk hr0
 have HC0 := Aside0.mk hc0
 clear hr0 hc0
 have HR1 := Aside0.mk hr1
 have HC1 := Aside0.mk hc1
 clear hr1 hc1
 have H : (if (l0.length : Int) = (l1.length : Int) then (api_Entry_69.l0 k l0 l1 (l0.length : Int) 0) else (some false)) = some r := h
 clear h
 by_cases c3 : (l0.length : Int) = (l1.length : Int)
 ·
  rw [if_pos c3] at H
  have c3b0 : ((l0.length : Int) == (l1.length : Int)) = true := beq_iff_eq.mpr c3
  have c3b1 : ((l0.length : Int) != (l1.length : Int)) = false := bne_eq_false_iff_eq.mpr c3
  have c3b2 : (l0.length == l1.length) = true := by first | simpa using c3 | (simp at c3 ⊢; omega)
  clear c3
  have H' := Aside0.mk H
  clear H
  go_enter Tryd.func69, Tryd.ntmps69
  go_wp2
  repeat (go_quiet (fail); try go_wp2)
  go_loopg [13] k (fun kq v13 w' => ∃ (x13_1 : Int), v13 = .int .i64 x13_1 ∧ Aside0 (api_Entry_69.l0 kq l0 l1 (l0.length : Int) x13_1 = some r) ∧ Aside0 (kq ≤ k) ∧ Drawn0 w w')
  case atStart => exact ⟨(0), (by first | rfl | (simp; done) | (simp [*]; done)), H', ⟨Nat.le_refl _⟩, by repeat (first | exact Drawn0.refl _ | apply Drawn0.step)⟩
  case round =>
   clear H'
   try clear c1
   try clear p2
   try clear c3
   try clear c3b0
   try clear c3b1
   try clear c3b2
   obtain ⟨x13_1, rfl, HA, HK1, ⟨m1, rfl⟩⟩ := hrel
   cases gk with
   | zero => exact absurd HA.out (by simp [api_Entry_69.l0])
   | succ k1 =>
    have H := HA.out
    clear HA
    simp only [api_Entry_69.l0] at H
    by_cases c4 : x13_1 < (l0.length : Int)
    ·
     rw [if_pos c4] at H
     have c4b0 : decide (x13_1 < (l0.length : Int)) = true := decide_eq_true c4
     clear c4
     by_cases c5 : 0 ≤ x13_1
     ·
      rw [if_pos c5] at H
      have c5b0 : decide (0 ≤ x13_1) = true := decide_eq_true c5
      clear c5
      by_cases c6 : x13_1 < (l0.length : Int)
      ·
       rw [if_pos c6] at H
       have c6b0 : decide (x13_1 < (l0.length : Int)) = true := decide_eq_true c6
       clear c6
       by_cases c7 : x13_1 < (l1.length : Int)
       ·
        rw [if_pos c7] at H
        have c7b0 : decide (x13_1 < (l1.length : Int)) = true := decide_eq_true c7
        clear c7
        by_cases c8 : (!((((rd_T61 l0 x13_1).f0).toList) == (((rd_T61 l1 x13_1).f0).toList)) || (!(((rd_T61 l0 x13_1).f1) == ((rd_T61 l1 x13_1).f1)))) = true
        ·
         rw [if_pos c8] at H
         have c8b0 : (!((((rd_T61 l0 x13_1).f0).toList) == (((rd_T61 l1 x13_1).f0).toList)) || (!(((rd_T61 l0 x13_1).f1) == ((rd_T61 l1 x13_1).f1)))) = true := c8
         clear c8
         obtain rfl := Option.some.inj H
         have p398 : 0 ≤ (x13_1 : Int) := of_decide_eq_true (by first | (with_reducible assumption) | assumption)
         have q398 : x13_1 < (l0.length : Int) := of_decide_eq_true (by first | (with_reducible assumption) | assumption)
         obtain ⟨ad398, e398, hx398_0, hx398_1⟩ := at_T61 HR0.out x13_1 p398 q398
         cases e398
         replace p398 := eq_true p398
         replace q398 := eq_true q398
         have p399 : 0 ≤ (x13_1 : Int) := of_decide_eq_true (by first | (with_reducible assumption) | assumption)
         have q399 : x13_1 < (l1.length : Int) := of_decide_eq_true (by first | (with_reducible assumption) | assumption)
         obtain ⟨ad399, e399, hx399_0, hx399_1⟩ := at_T61 HR1.out x13_1 p399 q399
         cases e399
         replace p399 := eq_true p399
         replace q399 := eq_true q399
         go_wp2
         repeat (go_quiet (fail); try go_wp2)
         go_ret
         exact ⟨by first | rfl | (simp; done) | (simp [*]; done), by repeat (first | exact Drawn0.refl _ | apply Drawn0.step)⟩
        ·
         rw [if_neg c8] at H
         have c8b0 : (!((((rd_T61 l0 x13_1).f0).toList) == (((rd_T61 l1 x13_1).f0).toList)) || (!(((rd_T61 l0 x13_1).f1) == ((rd_T61 l1 x13_1).f1)))) = false := by simpa using c8
         clear c8
         have H' := Aside0.mk H
         clear H
         have p398 : 0 ≤ (x13_1 : Int) := of_decide_eq_true (by first | (with_reducible assumption) | assumption)
         have q398 : x13_1 < (l0.length : Int) := of_decide_eq_true (by first | (with_reducible assumption) | assumption)
         obtain ⟨ad398, e398, hx398_0, hx398_1⟩ := at_T61 HR0.out x13_1 p398 q398
         cases e398
         replace p398 := eq_true p398
         replace q398 := eq_true q398
         have p399 : 0 ≤ (x13_1 : Int) := of_decide_eq_true (by first | (with_reducible assumption) | assumption)
         have q399 : x13_1 < (l1.length : Int) := of_decide_eq_true (by first | (with_reducible assumption) | assumption)
         obtain ⟨ad399, e399, hx399_0, hx399_1⟩ := at_T61 HR1.out x13_1 p399 q399
         cases e399
         replace p399 := eq_true p399
         replace q399 := eq_true q399
         go_wp2
         repeat (go_quiet (fail); try go_wp2)
         go_roundg k1
         case measure => have := HK1.out; omega
         case rel => exact ⟨(wrap64 (x13_1 + 1)), (by first | rfl | (simp; done) | (simp [*]; done)), H', ⟨by have := HK1.out; omega⟩, by repeat (first | exact Drawn0.refl _ | apply Drawn0.step)⟩
       ·
        rw [if_neg c7] at H
        exact absurd H (by simp)
      ·
       rw [if_neg c6] at H
       exact absurd H (by simp)
     ·
      rw [if_neg c5] at H
      exact absurd H (by simp)
    ·
     rw [if_neg c4] at H
     have c4b0 : decide (x13_1 < (l0.length : Int)) = false := decide_eq_false c4
     clear c4
     obtain rfl := Option.some.inj H
     go_wp2
     repeat (go_quiet (fail); try go_wp2)
     go_ret
     exact ⟨by first | rfl | (simp; done) | (simp [*]; done), by repeat (first | exact Drawn0.refl _ | apply Drawn0.step)⟩
 ·
  rw [if_neg c3] at H
  have c3b0 : ((l0.length : Int) == (l1.length : Int)) = false := beq_eq_false_iff_ne.mpr c3
  have c3b1 : ((l0.length : Int) != (l1.length : Int)) = true := bne_iff_ne.mpr c3
  have c3b2 : (l0.length == l1.length) = false := by first | simpa using c3 | (simp at c3 ⊢; omega)
  obtain rfl := Option.some.inj H
  go_enter Tryd.func69, Tryd.ntmps69
  go_wp2
  repeat (go_quiet (fail); try go_wp2)
  go_ret
  exact ⟨by first | rfl | (simp; done) | (simp [*]; done), by repeat (first | exact Drawn0.refl _ | apply Drawn0.step)⟩
end Go.Proofs.YtnpnablnnfekkaaDoor.PTr
set_option linter.unusedVariables false
set_option linter.unusedSimpArgs false
namespace Go.Proofs.YtnpnablnnfekkaaDoor.PTr
open Go.RowKit Go.Proofs.YtnpnablnnfekkaaDoor Go.Proofs.YtnpnablnnfekkaaDoorW.PrintWords Go.Proofs.YtnpnablnnfekkaaDoorW.PrintLast Go.Proofs.YtnpnablnnfekkaaDoorW.PrintMore
def tree_SameNode.f (k : Nat) (a0_0 : Int) (a0_1 : Int) (a0_2 : Int) (a0_3 : Int) (a0_4 : Int) (a0_5 : ByteArray) (l0_6 : List (S61)) (a1_0 : Int) (a1_1 : Int) (a1_2 : Int) (a1_3 : Int) (a1_4 : Int) (a1_5 : ByteArray) (l1_6 : List (S61)) : Option (Bool) := if a0_0 = a1_0 then (if a0_1 = a1_1 then (if a0_2 = a1_2 then (if a0_3 = a1_3 then (if a0_4 = a1_4 then (if a0_5.toList = a1_5.toList then ((api_Entry_69.f k l0_6 l1_6).bind fun t402 => (some t402)) else (some false)) else (some false)) else (some false)) else (some false)) else (some false)) else (some false)
set_option maxHeartbeats 8000000 in
set_option maxRecDepth 100000 in
theorem tree_SameNode.calls (k : Nat) (a0 a1 a2 a3 a4 : Int) (a5 : ByteArray) (A : Option Addr) (c : Nat) (la : List (S61)) (b0 b1 b2 b3 b4 : Int) (b5 : ByteArray) (B : Option Addr) (e : Nat) (lb : List (S61)) (r : Bool) (w : World) (hra : Kd.C k61 w A la.length la) (hca : la.length ≤ c) (hrb : Kd.C k61 w B lb.length lb) (hcb : lb.length ≤ e) (h : tree_SameNode.f k a0 a1 a2 a3 a4 a5 la b0 b1 b2 b3 b4 b5 lb = some r) :
  Calls Tryd.prog 35 #[.agg #[.int .i64 a0, .int .i64 a1, .int .i64 a2, .int .i64 a3, .int .i64 a4, .string a5, .slice A la.length c], .agg #[.int .i64 b0, .int .i64 b1, .int .i64 b2, .int .i64 b3, .int .i64 b4, .string b5, .slice B lb.length e]] w fun e w' => e = .returned (.bool r) ∧ Below w.heap.size w w' := by
 have hu44 := Tryd.underlying44
 have HRA := Lib.hid hra
 have HCA := Lib.hid hca
 have HRB := Lib.hid hrb
 have HCB := Lib.hid hcb
 have H := Lib.hid h
 clear hra hca hrb hcb h
 go_enter Tryd.func35, Tryd.ntmps35
 go_upto_region 1 with (first | ((with_reducible refine gate_dst (N := 2) rfl ?_); refine box_event ?hg (N := 2) ?hd (cs := #[.int .i64 a0, .int .i64 a1, .int .i64 a2, .int .i64 a3, .int .i64 a4, .string a5, .slice A la.length c]) (t := 44) ?hr ?_; (case hd => rfl); (case hg => rfl); (case hr => first | (go_simp; done) | (go_simp; rfl)); intro g1 hgx w1 hbox hb; have B1 := Lib.hid hbox; have HB1 := Lib.hid (below_step (Below.refl w.heap.size w) hb); clear hbox hb hgx) | ((with_reducible refine gate_dst (N := 3) rfl ?_); refine box_event ?hg (N := 3) ?hd (cs := #[.int .i64 b0, .int .i64 b1, .int .i64 b2, .int .i64 b3, .int .i64 b4, .string b5, .slice B lb.length e]) (t := 44) ?hr ?_; (case hd => rfl); (case hg => rfl); (case hr => first | (go_simp; done) | (go_simp; rfl)); intro g2 hgx w2 hbox hb; have B2 := Lib.hid hbox; have C1 := Lib.hid (blk_below B1.out hb); have HB2 := Lib.hid (below_step HB1.out hb); clear hbox hb hgx))
 have x0 : w2.cell? ⟨g1, 0, none⟩ = some (.int .i64 a0) := (blk_cell C1.out 0).trans rfl
 have x1 : w2.cell? ⟨g1, 1, none⟩ = some (.int .i64 a1) := (blk_cell C1.out 1).trans rfl
 have x2 : w2.cell? ⟨g1, 2, none⟩ = some (.int .i64 a2) := (blk_cell C1.out 2).trans rfl
 have x3 : w2.cell? ⟨g1, 3, none⟩ = some (.int .i64 a3) := (blk_cell C1.out 3).trans rfl
 have x4 : w2.cell? ⟨g1, 4, none⟩ = some (.int .i64 a4) := (blk_cell C1.out 4).trans rfl
 have x5 : w2.cell? ⟨g1, 5, none⟩ = some (.string a5) := (blk_cell C1.out 5).trans rfl
 have x6 : w2.cell? ⟨g1, 6, none⟩ = some (.slice A la.length c) := (blk_cell C1.out 6).trans rfl
 have y0 : w2.cell? ⟨g2, 0, none⟩ = some (.int .i64 b0) := (blk_cell B2.out 0).trans rfl
 have y1 : w2.cell? ⟨g2, 1, none⟩ = some (.int .i64 b1) := (blk_cell B2.out 1).trans rfl
 have y2 : w2.cell? ⟨g2, 2, none⟩ = some (.int .i64 b2) := (blk_cell B2.out 2).trans rfl
 have y3 : w2.cell? ⟨g2, 3, none⟩ = some (.int .i64 b3) := (blk_cell B2.out 3).trans rfl
 have y4 : w2.cell? ⟨g2, 4, none⟩ = some (.int .i64 b4) := (blk_cell B2.out 4).trans rfl
 have y5 : w2.cell? ⟨g2, 5, none⟩ = some (.string b5) := (blk_cell B2.out 5).trans rfl
 have y6 : w2.cell? ⟨g2, 6, none⟩ = some (.slice B lb.length e) := (blk_cell B2.out 6).trans rfl
 have h := H.out
 clear H B1 HB1
 unfold tree_SameNode.f at h
 by_cases c0 : a0 = b0
 case neg =>
  rw [if_neg c0] at h
  have z0 : (a0 == b0) = false := beq_eq_false_iff_ne.mpr c0
  obtain rfl := Option.some.inj h
  clear h c0
  go_wp2
  go_ret
  exact ⟨rfl, HB2.out⟩
 rw [if_pos c0] at h
 have z0 : (a0 == b0) = true := beq_iff_eq.mpr c0
 clear c0
 by_cases c1 : a1 = b1
 case neg =>
  rw [if_neg c1] at h
  have z1 : (a1 == b1) = false := beq_eq_false_iff_ne.mpr c1
  obtain rfl := Option.some.inj h
  clear h c1
  go_wp2
  go_ret
  exact ⟨rfl, HB2.out⟩
 rw [if_pos c1] at h
 have z1 : (a1 == b1) = true := beq_iff_eq.mpr c1
 clear c1
 by_cases c2 : a2 = b2
 case neg =>
  rw [if_neg c2] at h
  have z2 : (a2 == b2) = false := beq_eq_false_iff_ne.mpr c2
  obtain rfl := Option.some.inj h
  clear h c2
  go_wp2
  go_ret
  exact ⟨rfl, HB2.out⟩
 rw [if_pos c2] at h
 have z2 : (a2 == b2) = true := beq_iff_eq.mpr c2
 clear c2
 by_cases c3 : a3 = b3
 case neg =>
  rw [if_neg c3] at h
  have z3 : (a3 == b3) = false := beq_eq_false_iff_ne.mpr c3
  obtain rfl := Option.some.inj h
  clear h c3
  go_wp2
  go_ret
  exact ⟨rfl, HB2.out⟩
 rw [if_pos c3] at h
 have z3 : (a3 == b3) = true := beq_iff_eq.mpr c3
 clear c3
 by_cases c4 : a4 = b4
 case neg =>
  rw [if_neg c4] at h
  have z4 : (a4 == b4) = false := beq_eq_false_iff_ne.mpr c4
  obtain rfl := Option.some.inj h
  clear h c4
  go_wp2
  go_ret
  exact ⟨rfl, HB2.out⟩
 rw [if_pos c4] at h
 have z4 : (a4 == b4) = true := beq_iff_eq.mpr c4
 clear c4
 by_cases c5 : a5.toList = b5.toList
 case neg =>
  rw [if_neg c5] at h
  have z5 : (a5.toList == b5.toList) = false := beq_eq_false_iff_ne.mpr c5
  obtain rfl := Option.some.inj h
  clear h c5
  go_wp2
  go_ret
  exact ⟨rfl, HB2.out⟩
 rw [if_pos c5] at h
 have z5 : (a5.toList == b5.toList) = true := beq_iff_eq.mpr c5
 obtain ⟨tt, ht, h⟩ := Option.bind_eq_some_iff.mp h
 obtain rfl := Option.some.inj h
 have HT := Lib.hid ht
 clear h c5 ht
 go_wp2_with (first | (go_at_call 69; (with_reducible refine (api_Entry_69.calls k _ _ la _ _ lb tt _ (Kd.C_below HRA.out HB2.out) HCA.out (Kd.C_below HRB.out HB2.out) HCB.out HT.out).mono ?_); rintro e w3 ⟨rfl, ⟨nd, rfl⟩⟩))
 go_ret
 exact ⟨rfl, pw_below_drewN HB2.out _⟩
end Go.Proofs.YtnpnablnnfekkaaDoor.PTr
set_option linter.unusedVariables false
set_option linter.unusedSimpArgs false
namespace Go.Proofs.YtnpnablnnfekkaaDoor.PTr
open Go.RowKit Go.Proofs.YtnpnablnnfekkaaDoor Go.Proofs.YtnpnablnnfekkaaDoorW.PrintWords Go.Proofs.YtnpnablnnfekkaaDoorW.PrintLast Go.Proofs.YtnpnablnnfekkaaDoorW.PrintMore
def api_Node.l0 : Nat → List (S44) → List (S44) → Int → Int → Option (Bool)
 | 0, _, _, _, _ => none
 | k + 1, x1, x15, x16, x17 => if x17 < x16 then (if 0 ≤ x17 then (if x17 < (x15.length : Int) then (if x17 < (x1.length : Int) then ((tree_SameNode.f k ((rd_T44 x15 x17).f0) ((rd_T44 x15 x17).f1) ((rd_T44 x15 x17).f2) ((rd_T44 x15 x17).f3) ((rd_T44 x15 x17).f4) ((rd_T44 x15 x17).f5) ((rd_T44 x15 x17).f6) ((rd_T44 x1 x17).f0) ((rd_T44 x1 x17).f1) ((rd_T44 x1 x17).f2) ((rd_T44 x1 x17).f3) ((rd_T44 x1 x17).f4) ((rd_T44 x1 x17).f5) ((rd_T44 x1 x17).f6)).bind fun t407 => (if t407 = true then (api_Node.l0 k x1 x15 x16 (wrap64 (x17 + 1))) else (some false))) else (none)) else (none)) else (none)) else (some true)
def api_Node.f (k : Nat) (l0 : List (S44)) (l1 : List (S44)) (a2 : Int) : Option (Bool) := if (l0.length : Int) = (l1.length : Int) then (api_Node.l0 k l1 l0 (l0.length : Int) 0) else (some false)
set_option maxHeartbeats 8000000 in
set_option maxRecDepth 100000 in
theorem api_Node.calls (k : Nat) (A0 : Option Addr) (c0 : Nat) (l0 : List (S44)) (A1 : Option Addr) (c1 : Nat) (l1 : List (S44)) (a2 : Int) (r : Bool) (w : World) (hr0 : Kd.C k44 w A0 l0.length l0) (hc0 : l0.length ≤ c0) (hr1 : Kd.C k44 w A1 l1.length l1) (hc1 : l1.length ≤ c1) (h : api_Node.f k l0 l1 a2 = some r) :
  Calls Tryd.prog 70 #[.slice A0 l0.length c0, .slice A1 l1.length c1, .func (.func 35) #[] #[]] w fun e w' => e = .returned (.bool r) ∧ Below w.heap.size w w' := by
 have HR0 := Lib.hid hr0
 have HR1 := Lib.hid hr1
 unfold api_Node.f at h
 clear hr0 hr1 hc0 hc1
 by_cases hl : (l0.length : Int) = (l1.length : Int)
 case neg =>
  rw [if_neg hl] at h
  obtain rfl := Option.some.inj h
  have b0 : ((l0.length : Int) != (l1.length : Int)) = true := bne_iff_ne.mpr hl
  have b1 : (l0.length != l1.length) = true := bne_iff_ne.mpr (fun e => hl (by rw [e]))
  clear h hl
  go_enter Tryd.func70, Tryd.ntmps70
  go_wp2
  go_ret
  exact ⟨rfl, Below.refl _ _⟩
 case pos =>
  rw [if_pos hl] at h
  have b0 : ((l0.length : Int) != (l1.length : Int)) = false := bne_eq_false_iff_eq.mpr hl
  have b1 : (l0.length != l1.length) = false := bne_eq_false_iff_eq.mpr (by omega)
  have HLL : Hid (l0.length = l1.length) := Lib.hid (by omega)
  have H : Hid (api_Node.l0 k l1 l0 (l0.length : Int) ((0 : Nat) : Int) = some r) := Lib.hid h
  clear h hl
  go_enter Tryd.func70, Tryd.ntmps70
  go_wp2
  go_loopg [17] k (fun kq v17 w' => ∃ i : Nat, v17 = .int .i64 i ∧ i ≤ l0.length ∧ Hid (api_Node.l0 kq l1 l0 (l0.length : Int) (i : Int) = some r) ∧ Hid (Below w.heap.size w w'))
  case atStart => exact ⟨0, rfl, Nat.zero_le _, H, Lib.hid (Below.refl _ _)⟩
  case round =>
   clear H
   obtain ⟨i, rfl, hi, H, HB⟩ := hrel
   cases gk with
   | zero => exact absurd H.out (by simp [api_Node.l0])
   | succ k1 =>
    have h := H.out
    clear H
    simp only [api_Node.l0] at h
    by_cases hlt : i < l0.length
    ·
     have i0 : decide (0 ≤ (i : Int)) = true := decide_eq_true (by omega)
     have i1 : decide ((i : Int) < (l0.length : Int)) = true := decide_eq_true (by omega)
     have i2 : decide ((i : Int) < (l1.length : Int)) = true := decide_eq_true (by have := HLL.out; omega)
     have i1n : (i < l0.length) = True := eq_true hlt
     have i2n : (i < l1.length) = True := eq_true (by have := HLL.out; omega)
     rw [if_pos (of_decide_eq_true i1), if_pos (of_decide_eq_true i0), if_pos (of_decide_eq_true i1), if_pos (of_decide_eq_true i2)] at h
     obtain ⟨ad, A6, c6, ea, x0, x1, x2, x3, x4, x5, x6, hlx, hcx⟩ := at_T44 HR0.out (i : Int) (by omega) (by omega)
     cases ea
     obtain ⟨bd, B6, e6, eb, y0, y1, y2, y3, y4, y5, y6, hly, hcy⟩ := at_T44 HR1.out (i : Int) (by omega) (by have := HLL.out; omega)
     cases eb
     generalize rd_T44 l0 (i : Int) = x at h x0 x1 x2 x3 x4 x5 x6 hlx hcx
     generalize rd_T44 l1 (i : Int) = y at h y0 y1 y2 y3 y4 y5 y6 hly hcy
     rw [Int.toNat_natCast] at x0 x1 x2 x3 x4 x5 x6 y0 y1 y2 y3 y4 y5 y6
     obtain ⟨tt, ht, h⟩ := Option.bind_eq_some_iff.mp h
     have HT := Lib.hid ht
     have HCX := Lib.hid hcx
     have HLX := Lib.hid hlx
     have HCY := Lib.hid hcy
     have HLY := Lib.hid hly
     replace x0 := cellB x0 HB.out
     replace x1 := cellB x1 HB.out
     replace x2 := cellB x2 HB.out
     replace x3 := cellB x3 HB.out
     replace x4 := cellB x4 HB.out
     replace x5 := cellB x5 HB.out
     replace x6 := cellB x6 HB.out
     have Y0 := Lib.hid y0
     have Y1 := Lib.hid y1
     have Y2 := Lib.hid y2
     have Y3 := Lib.hid y3
     have Y4 := Lib.hid y4
     have Y5 := Lib.hid y5
     have Y6 := Lib.hid y6
     have HLT := Lib.hid hlt
     have HWR : Hid (i + 1 ≤ 9223372036854775807 → wrap64 ((i : Int) + 1) = ((i + 1 : Nat) : Int)) := Lib.hid (fun h => by unfold wrap64; omega)
     have hcap : l0.length ≤ 9223372036854775807 := HR0.out.2.1
     have HWI : Hid (wrap64 ((i : Int) + 1) = ((i + 1 : Nat) : Int)) := Lib.hid (HWR.out (by omega))
     clear hcap HWR ht hcx hlx hcy hly y0 y1 y2 y3 y4 y5 y6 hlt hi
     cases tt with
     | true =>
      have h' := (if_pos (rfl : true = true)).symm.trans h
      have H := Lib.hid h'
      clear h h'
      go_upto_region 7 with (first | ((with_reducible refine gate_dst (N := 8) rfl ?_); refine box_event ?hg (N := 8) ?hd (cs := zN) (t := 44) ?hr ?_; (case hd => rfl); (case hg => rfl); (case hr => first | (go_simp; done) | (go_simp; rfl)); intro g8 hgx w2 hbox hb; have BB := Lib.hid hbox; have HBB := Lib.hid hb; have HGG := Lib.hid hgx; clear hbox hb hgx) | (refine store_box rfl rfl (.tmp 8) (.tmp 21) rfl (x0 := x.f0) (x1 := x.f1) (x2 := x.f2) (x3 := x.f3) (x4 := x.f4) (x5 := x.f5) rfl rfl BB.out HGG.out HBB.out ?_; intro w3 hb3 hw3; have BX := Lib.hid hb3; have HB3 := Lib.hid (below_step HB.out hw3); clear hb3 hw3 BB HBB HGG x0 x1 x2 x3 x4 x5 x6; have y0 := cellB Y0.out HB3.out; have y1 := cellB Y1.out HB3.out; have y2 := cellB Y2.out HB3.out; have y3 := cellB Y3.out HB3.out; have y4 := cellB Y4.out HB3.out; have y5 := cellB Y5.out HB3.out; have y6 := cellB Y6.out HB3.out) | ((with_reducible refine gate_dst (N := 9) rfl ?_); refine box_event ?hg (N := 9) ?hd (cs := zN) (t := 44) ?hr ?_; (case hd => rfl); (case hg => rfl); (case hr => first | (go_simp; done) | (go_simp; rfl)); intro g9 hgx w4 hbox hb; have BB := Lib.hid hbox; have HBB := Lib.hid hb; have HGG := Lib.hid hgx; clear hbox hb hgx) | (refine store_box rfl rfl (.tmp 9) (.tmp 25) rfl (x0 := y.f0) (x1 := y.f1) (x2 := y.f2) (x3 := y.f3) (x4 := y.f4) (x5 := y.f5) rfl rfl BB.out HGG.out HBB.out ?_; intro w5 hb5 hw5; have BY := Lib.hid hb5; have HB5 := Lib.hid (below_step HB3.out hw5); replace BX := Lib.hid (blk_below BX.out hw5); clear hb5 hw5 BB HBB HGG y0 y1 y2 y3 y4 y5 y6))
      have n0 : w5.cell? ⟨g8, 0, none⟩ = some (.int .i64 x.f0) := (blk_cell BX.out 0).trans rfl
      have n1 : w5.cell? ⟨g8, 1, none⟩ = some (.int .i64 x.f1) := (blk_cell BX.out 1).trans rfl
      have n2 : w5.cell? ⟨g8, 2, none⟩ = some (.int .i64 x.f2) := (blk_cell BX.out 2).trans rfl
      have n3 : w5.cell? ⟨g8, 3, none⟩ = some (.int .i64 x.f3) := (blk_cell BX.out 3).trans rfl
      have n4 : w5.cell? ⟨g8, 4, none⟩ = some (.int .i64 x.f4) := (blk_cell BX.out 4).trans rfl
      have n5 : w5.cell? ⟨g8, 5, none⟩ = some (.string x.f5) := (blk_cell BX.out 5).trans rfl
      have n6 : w5.cell? ⟨g8, 6, none⟩ = some (.slice A6 x.f6.length c6) := (blk_cell BX.out 6).trans rfl
      have m0 : w5.cell? ⟨g9, 0, none⟩ = some (.int .i64 y.f0) := (blk_cell BY.out 0).trans rfl
      have m1 : w5.cell? ⟨g9, 1, none⟩ = some (.int .i64 y.f1) := (blk_cell BY.out 1).trans rfl
      have m2 : w5.cell? ⟨g9, 2, none⟩ = some (.int .i64 y.f2) := (blk_cell BY.out 2).trans rfl
      have m3 : w5.cell? ⟨g9, 3, none⟩ = some (.int .i64 y.f3) := (blk_cell BY.out 3).trans rfl
      have m4 : w5.cell? ⟨g9, 4, none⟩ = some (.int .i64 y.f4) := (blk_cell BY.out 4).trans rfl
      have m5 : w5.cell? ⟨g9, 5, none⟩ = some (.string y.f5) := (blk_cell BY.out 5).trans rfl
      have m6 : w5.cell? ⟨g9, 6, none⟩ = some (.slice B6 y.f6.length e6) := (blk_cell BY.out 6).trans rfl
      go_wp2_with (first | (go_at_call 35; (with_reducible refine (tree_SameNode.calls k1 x.f0 x.f1 x.f2 x.f3 x.f4 x.f5 A6 c6 x.f6 y.f0 y.f1 y.f2 y.f3 y.f4 y.f5 B6 e6 y.f6 _ _ (Kd.C_below HCX.out HB5.out) HLX.out (Kd.C_below HCY.out HB5.out) HLY.out HT.out).mono ?_); rintro e w6 ⟨rfl, hb⟩; have HB6 := Lib.hid (below_step HB5.out hb); clear hb))
      go_roundg k1
      case measure => omega
      case rel => exact ⟨i + 1, by rw [HWI.out], HLT.out, Lib.hid (by rw [← HWI.out]; exact H.out), HB6⟩
     | false =>
      have h' := (if_neg (by simp : ¬ false = true)).symm.trans h
      obtain rfl := Option.some.inj h'
      clear h h'
      go_upto_region 7 with (first | ((with_reducible refine gate_dst (N := 8) rfl ?_); refine box_event ?hg (N := 8) ?hd (cs := zN) (t := 44) ?hr ?_; (case hd => rfl); (case hg => rfl); (case hr => first | (go_simp; done) | (go_simp; rfl)); intro g8 hgx w2 hbox hb; have BB := Lib.hid hbox; have HBB := Lib.hid hb; have HGG := Lib.hid hgx; clear hbox hb hgx) | (refine store_box rfl rfl (.tmp 8) (.tmp 21) rfl (x0 := x.f0) (x1 := x.f1) (x2 := x.f2) (x3 := x.f3) (x4 := x.f4) (x5 := x.f5) rfl rfl BB.out HGG.out HBB.out ?_; intro w3 hb3 hw3; have BX := Lib.hid hb3; have HB3 := Lib.hid (below_step HB.out hw3); clear hb3 hw3 BB HBB HGG x0 x1 x2 x3 x4 x5 x6; have y0 := cellB Y0.out HB3.out; have y1 := cellB Y1.out HB3.out; have y2 := cellB Y2.out HB3.out; have y3 := cellB Y3.out HB3.out; have y4 := cellB Y4.out HB3.out; have y5 := cellB Y5.out HB3.out; have y6 := cellB Y6.out HB3.out) | ((with_reducible refine gate_dst (N := 9) rfl ?_); refine box_event ?hg (N := 9) ?hd (cs := zN) (t := 44) ?hr ?_; (case hd => rfl); (case hg => rfl); (case hr => first | (go_simp; done) | (go_simp; rfl)); intro g9 hgx w4 hbox hb; have BB := Lib.hid hbox; have HBB := Lib.hid hb; have HGG := Lib.hid hgx; clear hbox hb hgx) | (refine store_box rfl rfl (.tmp 9) (.tmp 25) rfl (x0 := y.f0) (x1 := y.f1) (x2 := y.f2) (x3 := y.f3) (x4 := y.f4) (x5 := y.f5) rfl rfl BB.out HGG.out HBB.out ?_; intro w5 hb5 hw5; have BY := Lib.hid hb5; have HB5 := Lib.hid (below_step HB3.out hw5); replace BX := Lib.hid (blk_below BX.out hw5); clear hb5 hw5 BB HBB HGG y0 y1 y2 y3 y4 y5 y6))
      have n0 : w5.cell? ⟨g8, 0, none⟩ = some (.int .i64 x.f0) := (blk_cell BX.out 0).trans rfl
      have n1 : w5.cell? ⟨g8, 1, none⟩ = some (.int .i64 x.f1) := (blk_cell BX.out 1).trans rfl
      have n2 : w5.cell? ⟨g8, 2, none⟩ = some (.int .i64 x.f2) := (blk_cell BX.out 2).trans rfl
      have n3 : w5.cell? ⟨g8, 3, none⟩ = some (.int .i64 x.f3) := (blk_cell BX.out 3).trans rfl
      have n4 : w5.cell? ⟨g8, 4, none⟩ = some (.int .i64 x.f4) := (blk_cell BX.out 4).trans rfl
      have n5 : w5.cell? ⟨g8, 5, none⟩ = some (.string x.f5) := (blk_cell BX.out 5).trans rfl
      have n6 : w5.cell? ⟨g8, 6, none⟩ = some (.slice A6 x.f6.length c6) := (blk_cell BX.out 6).trans rfl
      have m0 : w5.cell? ⟨g9, 0, none⟩ = some (.int .i64 y.f0) := (blk_cell BY.out 0).trans rfl
      have m1 : w5.cell? ⟨g9, 1, none⟩ = some (.int .i64 y.f1) := (blk_cell BY.out 1).trans rfl
      have m2 : w5.cell? ⟨g9, 2, none⟩ = some (.int .i64 y.f2) := (blk_cell BY.out 2).trans rfl
      have m3 : w5.cell? ⟨g9, 3, none⟩ = some (.int .i64 y.f3) := (blk_cell BY.out 3).trans rfl
      have m4 : w5.cell? ⟨g9, 4, none⟩ = some (.int .i64 y.f4) := (blk_cell BY.out 4).trans rfl
      have m5 : w5.cell? ⟨g9, 5, none⟩ = some (.string y.f5) := (blk_cell BY.out 5).trans rfl
      have m6 : w5.cell? ⟨g9, 6, none⟩ = some (.slice B6 y.f6.length e6) := (blk_cell BY.out 6).trans rfl
      go_wp2_with (first | (go_at_call 35; (with_reducible refine (tree_SameNode.calls k1 x.f0 x.f1 x.f2 x.f3 x.f4 x.f5 A6 c6 x.f6 y.f0 y.f1 y.f2 y.f3 y.f4 y.f5 B6 e6 y.f6 _ _ (Kd.C_below HCX.out HB5.out) HLX.out (Kd.C_below HCY.out HB5.out) HLY.out HT.out).mono ?_); rintro e w6 ⟨rfl, hb⟩; have HB6 := Lib.hid (below_step HB5.out hb); clear hb))
      go_ret
      exact ⟨rfl, HB6.out⟩
    ·
     obtain rfl : i = l0.length := by omega
     rw [if_neg (by omega)] at h
     obtain rfl := Option.some.inj h
     clear h hlt hi
     go_wp2
     go_ret
     exact ⟨rfl, HB.out⟩
end Go.Proofs.YtnpnablnnfekkaaDoor.PTr
set_option linter.unusedVariables false
set_option linter.unusedSimpArgs false
namespace Go.Proofs.YtnpnablnnfekkaaDoor.PTr
open Go.RowKit Go.Proofs.YtnpnablnnfekkaaDoor Go.Proofs.YtnpnablnnfekkaaDoorW.PrintWords Go.Proofs.YtnpnablnnfekkaaDoorW.PrintLast Go.Proofs.YtnpnablnnfekkaaDoorW.PrintMore
def tree_Same.f (k : Nat) (l0_0 : List (S44)) (a0_1 : Int) (a0_2 : Int) (a0_3 : Int) (l1_0 : List (S44)) (a1_1 : Int) (a1_2 : Int) (a1_3 : Int) : Option (Bool) := (tree_Canon.f l0_0 a0_1 a0_2 a0_3).bind fun bt410 => ((tree_Canon.f l1_0 a1_1 a1_2 a1_3).bind fun bt418 => (if bt410.2.2.2.2 = 0 then (if bt418.2.2.2.2 = 0 then ((api_Node.f k bt410.1 bt418.1 77700035).bind fun t426 => (some t426)) else (some false)) else (some false)))
theorem tree_Sameblk {w : World} {g g' t t' : Nat} {cs : Array Value} (hz : w.heap[g']? = some (.cells zTb t' (0, 0))) (h : w.heap[g]? = some (.cells cs t (0, 0))) (ne : g ≠ g') (x0 x1 x2 x3 : Value) : (w.setCells g' 0 (#[x0, x1, x2, x3] : Array Value).toList).heap[g]? = some (.cells cs t (0, 0)) :=
 blk_far (blk_far (blk_far (blk_far h ne _) ne _) ne _) ne _
set_option maxHeartbeats 8000000 in
set_option maxRecDepth 100000 in
theorem tree_Same.calls (k : Nat) (A : Option Addr) (c : Nat) (l : List S44) (a1 : Int) (a2 : Int) (a3 : Int) (A' : Option Addr) (c' : Nat) (l' : List S44) (b1 : Int) (b2 : Int) (b3 : Int) (r : Bool) (w : World) (hr : Kd.C k44 w A l.length l) (hc : l.length ≤ c) (hr' : Kd.C k44 w A' l'.length l') (hc' : l'.length ≤ c') (h : tree_Same.f k l a1 a2 a3 l' b1 b2 b3 = some r) :
  Calls Tryd.prog 36 #[.agg #[.slice A l.length c, .int .i64 a1, .int .i64 a2, .int .i64 a3], .agg #[.slice A' l'.length c', .int .i64 b1, .int .i64 b2, .int .i64 b3]] w fun e w' => e = .returned (.bool r) ∧ Below w.heap.size w w' := by
 have hu26 := Tryd.underlying26
 have HR := Lib.hid hr
 have HC := Lib.hid hc
 have HR' := Lib.hid hr'
 have HC' := Lib.hid hc'
 unfold tree_Same.f at h
 obtain ⟨⟨x0, x1, x2, x3, x4⟩, ha, h⟩ := Option.bind_eq_some_iff.mp h
 obtain ⟨⟨y0, y1, y2, y3, y4⟩, ha', h⟩ := Option.bind_eq_some_iff.mp h
 have HA := Lib.hid ha
 have HA' := Lib.hid ha'
 have H := Lib.hid h
 clear hr hc hr' hc' ha ha' h
 go_enter Tryd.func36, Tryd.ntmps36
 go_upto_region 3 with (first | ((with_reducible refine gate_dst (N := 2) rfl ?_); refine box_event ?hg (N := 2) ?hd (cs := #[.slice A l.length c, .int .i64 a1, .int .i64 a2, .int .i64 a3]) (t := 26) ?hr ?_; (case hd => rfl); (case hg => rfl); (case hr => first | (go_simp; done) | (go_simp; rfl)); intro g1 hg1 w1 hbox hb; have B1 := Lib.hid hbox; have HB1 := Lib.hid (below_step (Below.refl w.heap.size w) hb); clear hbox hb hg1) | ((with_reducible refine gate_dst (N := 3) rfl ?_); refine box_event ?hg (N := 3) ?hd (cs := #[.slice A' l'.length c', .int .i64 b1, .int .i64 b2, .int .i64 b3]) (t := 26) ?hr ?_; (case hd => rfl); (case hg => rfl); (case hr => first | (go_simp; done) | (go_simp; rfl)); intro g2 hg2 w2 hbox hb; have B2 := Lib.hid hbox; have C1 := Lib.hid (blk_below B1.out hb); have HB2 := Lib.hid (below_step HB1.out hb); have d0 : w2.cell? ⟨g1, 0, none⟩ = some (.slice A l.length c) := (blk_cell C1.out 0).trans rfl; have d1 : w2.cell? ⟨g1, 1, none⟩ = some (.int .i64 a1) := (blk_cell C1.out 1).trans rfl; have d2 : w2.cell? ⟨g1, 2, none⟩ = some (.int .i64 a2) := (blk_cell C1.out 2).trans rfl; have d3 : w2.cell? ⟨g1, 3, none⟩ = some (.int .i64 a3) := (blk_cell C1.out 3).trans rfl; clear hbox hb hg2 C1 B1 HB1) | (go_at_call 24; (with_reducible refine (tree_Canon.calls _ _ l a1 a2 a3 x0 x1 x2 x3 x4 _ (Kd.C_below HR.out HB2.out) HC.out HA.out).mono ?_); rintro e w3 ⟨v3, rfl, hs, hb⟩; obtain ⟨A3, c3, e3⟩ := Kd.S_slice hs; subst e3; have HB3 := Lib.hid (below_step HB2.out hb); have S3 := Lib.hid (Kd.S_lower hs (below_size HB2.out)); have B3 := Lib.hid (blk_below B2.out hb); clear hs hb d0 d1 d2 d3 B2) | ((with_reducible refine gate_dst (N := 5) rfl ?_); refine box_event ?hg (N := 5) ?hd (cs := zTb) (t := 26) ?hr ?_; (case hd => rfl); (case hg => rfl); (case hr => first | (go_simp; done) | (go_simp; rfl)); intro g5 hg5 w4 hbox hb; refine store_tree rfl rfl (.tmp 5) (.tmp 12) rfl (b1 := x1) (b2 := x2) (b3 := x3) rfl rfl hbox ?_; have X := Lib.hid (BSt.init HB3.out S3.out hb hbox hg5 x1 x2 x3); have B4 := Lib.hid (tree_Sameblk hbox (blk_below B3.out hb) (by rw [hg5]; exact Nat.ne_of_lt (blk_lt B3.out)) (.slice A3 x0.length c3) (.int .i64 x1) (.int .i64 x2) (.int .i64 x3)); clear hbox hb hg5 HB3 S3 B3 HB2; generalize w4.setCells _ _ _ = w5 at X B4 ⊢; have d0 : w5.cell? ⟨g2, 0, none⟩ = some (.slice A' l'.length c') := (blk_cell B4.out 0).trans rfl; have d1 : w5.cell? ⟨g2, 1, none⟩ = some (.int .i64 b1) := (blk_cell B4.out 1).trans rfl; have d2 : w5.cell? ⟨g2, 2, none⟩ = some (.int .i64 b2) := (blk_cell B4.out 2).trans rfl; have d3 : w5.cell? ⟨g2, 3, none⟩ = some (.int .i64 b3) := (blk_cell B4.out 3).trans rfl; clear B4) | (go_at_call 24; (with_reducible refine (tree_Canon.calls _ _ l' b1 b2 b3 y0 y1 y2 y3 y4 _ (Kd.C_below HR'.out X.out.hb) HC'.out HA'.out).mono ?_); rintro e w6 ⟨v6, rfl, hs, hb⟩; obtain ⟨A6, c6, e6⟩ := Kd.S_slice hs; subst e6; have S6 := Lib.hid (Kd.S_lower hs (below_size X.out.hb)); replace X := Lib.hid (X.out.below hb); clear hs hb d0 d1 d2 d3) | ((with_reducible refine gate_dst (N := 7) rfl ?_); refine box_event ?hg (N := 7) ?hd (cs := zTb) (t := 26) ?hr ?_; (case hd => rfl); (case hg => rfl); (case hr => first | (go_simp; done) | (go_simp; rfl)); intro g7 hg7 w7 hbox hb; refine store_tree rfl rfl (.tmp 7) (.tmp 17) rfl (b1 := y1) (b2 := y2) (b3 := y3) rfl rfl hbox ?_; have Y := Lib.hid (BSt.init X.out.hb S6.out hb hbox hg7 y1 y2 y3); replace X := Lib.hid (X.out.beside hb hbox hg7 (.slice A6 y0.length c6) (.int .i64 y1) (.int .i64 y2) (.int .i64 y3)); clear hbox hb hg7 S6; generalize w7.setCells _ _ _ = w8 at X Y ⊢))
 have f0 : w8.cell? ⟨g5, 0, none⟩ = some (.slice A3 x0.length c3) := (blk_cell X.out.b 0).trans rfl
 have f1 : w8.cell? ⟨g7, 0, none⟩ = some (.slice A6 y0.length c6) := (blk_cell Y.out.b 0).trans rfl
 have h := H.out
 clear H
 by_cases c5 : x4 = 0
 ·
  have k5 : (x4 == 0) = true := beq_iff_eq.mpr c5
  by_cases c6 : y4 = 0
  ·
   have k6 : (y4 == 0) = true := beq_iff_eq.mpr c6
   simp only [c5, c6, if_true] at h
   obtain ⟨t, hq, h⟩ := Option.bind_eq_some_iff.mp h
   obtain rfl := Option.some.inj h
   have HQ := Lib.hid hq
   clear hq h c5 c6
   go_wp2_with (first | (go_at_call 70; (with_reducible refine (api_Node.calls k _ _ x0 _ _ y0 77700035 _ _ (Kd.S_reads' X.out.s).2.2 (Kd.S_reads' X.out.s).2.1 (Kd.S_reads' Y.out.s).2.2 (Kd.S_reads' Y.out.s).2.1 HQ.out).mono ?_); rintro e w9 ⟨rfl, hb⟩; have HB9 := Lib.hid (below_step X.out.hb hb); clear hb))
   go_ret
   exact ⟨rfl, HB9.out⟩
  ·
   have k6 : (y4 == 0) = false := beq_eq_false_iff_ne.mpr c6
   simp only [c5, c6, if_true, if_false] at h
   obtain rfl := Option.some.inj h
   clear h c5 c6
   go_wp2
   go_ret
   exact ⟨rfl, X.out.hb⟩
 ·
  have k5 : (x4 == 0) = false := beq_eq_false_iff_ne.mpr c5
  simp only [c5, if_false] at h
  obtain rfl := Option.some.inj h
  clear h c5
  go_wp2
  go_ret
  exact ⟨rfl, X.out.hb⟩
end Go.Proofs.YtnpnablnnfekkaaDoor.PTr
set_option linter.unusedVariables false
set_option linter.unusedSimpArgs false
namespace Go.Proofs.YtnpnablnnfekkaaDoor.PTr
open Go.RowKit Go.Proofs.YtnpnablnnfekkaaDoor Go.Proofs.YtnpnablnnfekkaaDoorW.PrintWords
def entEq (a b : Ent) : Bool := (a.f0.toList == b.f0.toList) && (a.f1 == b.f1)
def entsEq (xs ys : List Ent) : Bool := decide (xs.length = ys.length) && (List.range xs.length).all fun i => entEq (rd_T61 xs (i : Int)) (rd_T61 ys (i : Int))
def nodEq (x y : Nod) : Bool := decide (x.f0 = y.f0) && decide (x.f1 = y.f1) && decide (x.f2 = y.f2) && decide (x.f3 = y.f3) && decide (x.f4 = y.f4) && decide (x.f5.toList = y.f5.toList) && entsEq x.f6 y.f6
def nodsEq (a b : List Nod) : Bool := decide (a.length = b.length) && (List.range a.length).all fun i => nodEq (rd_T44 a (i : Int)) (rd_T44 b (i : Int))
theorem ee_not (a b : Ent) : (!(a.f0.toList == b.f0.toList) || !(a.f1 == b.f1)) = !entEq a b := by unfold entEq; cases (a.f0.toList == b.f0.toList) <;> cases (a.f1 == b.f1) <;> rfl
theorem pe_l0 (xs ys : List Ent) (hl : xs.length = ys.length) (hb : xs.length ≤ 1000000000000000) : ∀ (d i : Nat), i + d = xs.length → Evt (fun k => api_Entry_69.l0 k xs ys (xs.length : Int) (i : Int)) (((List.range xs.length).drop i).all fun i => entEq (rd_T61 xs (i : Int)) (rd_T61 ys (i : Int))) := by
 intro d
 induction d with
 | zero =>
  intro i h
  rw [List.drop_of_length_le (by rw [List.length_range]; omega)]
  refine Evt.const 0 (fun k _ => ?_)
  simp only [api_Entry_69.l0]
  rw [if_neg (by omega)]; rfl
 | succ d ih =>
  intro i h
  rw [range_drop _ i (by omega), List.all_cons]
  cases hc : entEq (rd_T61 xs (i : Int)) (rd_T61 ys (i : Int)) with
  | false =>
   refine Evt.const 0 (fun k _ => ?_)
   simp only [api_Entry_69.l0]
   rw [if_pos (by omega), if_pos (by omega), if_pos (by omega), if_pos (by omega), ee_not, hc, if_pos (by decide)]; rfl
  | true =>
   refine Evt.succ 0 (fun k _ => ?_) (ih (i + 1) (by omega))
   simp only [api_Entry_69.l0]
   rw [if_pos (by omega), if_pos (by omega), if_pos (by omega), if_pos (by omega), ee_not, hc, if_neg (by decide), show wrap64 ((i : Int) + 1) = ((i + 1 : Nat) : Int) from by unfold wrap64; omega]
theorem pe_ev (xs ys : List Ent) (hb : xs.length ≤ 1000000000000000) : Evt (fun k => api_Entry_69.f k xs ys) (entsEq xs ys) := by
 by_cases h : xs.length = ys.length
 ·
  obtain ⟨K, hK⟩ := pe_l0 xs ys h hb xs.length 0 (by omega)
  refine ⟨K, fun k hk => ?_⟩
  show api_Entry_69.f k xs ys = _
  unfold api_Entry_69.f entsEq
  rw [if_pos (by omega), decide_eq_true h, Bool.true_and]
  have := hK k hk
  rw [List.drop_zero] at this
  exact this
 ·
  refine Evt.const0 (fun k => ?_)
  unfold api_Entry_69.f entsEq
  rw [if_neg (by omega), decide_eq_false h]; rfl
theorem ps_ev (x y : Nod) (hb : x.f6.length ≤ 1000000000000000) : Evt (fun k => tree_SameNode.f k x.f0 x.f1 x.f2 x.f3 x.f4 x.f5 x.f6 y.f0 y.f1 y.f2 y.f3 y.f4 y.f5 y.f6) (nodEq x y) := by
 obtain ⟨K, hK⟩ := pe_ev x.f6 y.f6 hb
 refine ⟨K, fun k hk => ?_⟩
 have hk2 : api_Entry_69.f k x.f6 y.f6 = some (entsEq x.f6 y.f6) := hK k hk
 show tree_SameNode.f k _ _ _ _ _ _ _ _ _ _ _ _ _ _ = _
 unfold tree_SameNode.f nodEq
 rw [hk2]
 by_cases h0 : x.f0 = y.f0
 ·
  by_cases h1 : x.f1 = y.f1
  ·
   by_cases h2 : x.f2 = y.f2
   ·
    by_cases h3 : x.f3 = y.f3
    ·
     by_cases h4 : x.f4 = y.f4
     ·
      by_cases h5 : x.f5.toList = y.f5.toList
      ·
       simp [h0, h1, h2, h3, h4, h5]
      ·
       simp [h0, h1, h2, h3, h4, h5]
     ·
      simp [h0, h1, h2, h3, h4]
    ·
     simp [h0, h1, h2, h3]
   ·
    simp [h0, h1, h2]
  ·
   simp [h0, h1]
 ·
  simp [h0]
theorem pn_ev (a b : List Nod) (q : Int) (hn : a.length ≤ 1000000000) (hb : ∀ x ∈ a, x.f6.length ≤ 1000000000000000) : Evt (fun k => api_Node.f k a b q) (nodsEq a b) := by
 by_cases h : a.length = b.length
 ·
  have hl : ∀ (d i : Nat), i + d = a.length → Evt (fun k => api_Node.l0 k b a (a.length : Int) (i : Int)) (((List.range a.length).drop i).all fun i => nodEq (rd_T44 a (i : Int)) (rd_T44 b (i : Int))) := by
   intro d
   induction d with
   | zero =>
    intro i h
    rw [List.drop_of_length_le (by rw [List.length_range]; omega)]
    refine Evt.const 0 (fun k _ => ?_)
    simp only [api_Node.l0]
    rw [if_neg (by omega)]; rfl
   | succ d ih =>
    intro i h
    have hi : i < a.length := by omega
    rw [range_drop _ i (by omega), List.all_cons]
    have hs := ps_ev (rd_T44 a (i : Int)) (rd_T44 b (i : Int)) (by rw [rdN a i hi]; exact hb _ (List.getElem_mem hi))
    refine Evt.bind (q := fun k t => if t = true then api_Node.l0 k b a (a.length : Int) (wrap64 ((i : Int) + 1)) else some false) (fun k => ?_) hs ?_
    ·
     simp only [api_Node.l0]
     rw [if_pos (by omega), if_pos (by omega), if_pos (by omega), if_pos (by omega)]
    ·
     rw [show wrap64 ((i : Int) + 1) = ((i + 1 : Nat) : Int) from by unfold wrap64; omega]
     cases hc : nodEq (rd_T44 a (i : Int)) (rd_T44 b (i : Int)) with
     | false => exact Evt.const0 (fun k => rfl)
     | true => exact ih (i + 1) (by omega)
  obtain ⟨K, hK⟩ := hl a.length 0 (by omega)
  refine ⟨K, fun k hk => ?_⟩
  show api_Node.f k a b q = _
  unfold api_Node.f nodsEq
  rw [if_pos (by omega), decide_eq_true h, Bool.true_and]
  have := hK k hk
  rw [List.drop_zero] at this
  exact this
 ·
  refine Evt.const0 (fun k => ?_)
  unfold api_Node.f nodsEq
  rw [if_neg (by omega), decide_eq_false h]; rfl
theorem entsEq_refl (xs : List Ent) : entsEq xs xs = true := by
 unfold entsEq entEq
 simp
theorem nodEq_refl (x : Nod) : nodEq x x = true := by
 unfold nodEq
 simp [entsEq_refl]
theorem nodsEq_refl (l : List Nod) : nodsEq l l = true := by
 unfold nodsEq
 simp [nodEq_refl]
end Go.Proofs.YtnpnablnnfekkaaDoor.PTr
set_option linter.unusedVariables false
set_option linter.unusedSimpArgs false
namespace Go.Proofs.YtnpnablnnfekkaaDoor.PTr
open Go.RowKit Go.Proofs.YtnpnablnnfekkaaDoor Go.Proofs.YtnpnablnnfekkaaDoorW.PrintWords
theorem canN_bd {l : List Nod} {a1 : Int} (hE : eOK l) (hc : chk l a1 = 0) : ∀ x ∈ canN l ((wid l a1).map (·.1)), x.f6.length ≤ 5864062014805 := by
 intro x hx
 obtain ⟨i, hi, rfl⟩ := List.getElem_of_mem hx
 have hi' : i < ((wid l a1).map (·.1)).length := by rw [canN_len] at hi; exact hi
 obtain ⟨y, hy, e⟩ := canN_at hc i hi'
 rw [canN_get, e]
 show (y.f6.map _).length ≤ _
 rw [List.length_map]
 exact hE (chk_facts hc).2.2.1 y (nodeL_mem hy).1
theorem canM_bd (l : List Nod) (a1 a2 a3 : Int) (hE : eOK l) : (canM l a1 a2 a3).1.length ≤ 512 ∧ ∀ x ∈ (canM l a1 a2 a3).1, x.f6.length ≤ 5864062014805 := by
 unfold canM
 split
 ·
  exact ⟨by simp, fun x hx => by cases hx⟩
 ·
  rename_i hne
  have hc : chk l a1 = 0 := by
   rcases chk_two l a1 with h | h
   ·
    exact h
   ·
    exfalso; apply hne
    unfold wid; rw [if_neg (by rw [h]; decide)]; rfl
  refine ⟨?_, canN_bd hE hc⟩
  show (canN l _).length ≤ 512
  rw [canN_len]
  exact (wid_props l a1).2.2
def sameB (a : List Nod) (a1 a2 a3 : Int) (b : List Nod) (b1 b2 b3 : Int) : Bool := if (canM a a1 a2 a3).2.2.2.2 = 0 then (if (canM b b1 b2 b3).2.2.2.2 = 0 then nodsEq (canM a a1 a2 a3).1 (canM b b1 b2 b3).1 else false) else false
theorem canon_f {l : List Nod} (hE : eOK l) (a1 a2 a3 : Int) : tree_Canon.f l a1 a2 a3 = some (canM l a1 a2 a3) := by unfold tree_Canon.f; rw [if_pos (eB_of hE)]
theorem psame_ev (a : List Nod) (a1 a2 a3 : Int) (b : List Nod) (b1 b2 b3 : Int) (hA : eOK a) (hB : eOK b) : Evt (fun k => tree_Same.f k a a1 a2 a3 b b1 b2 b3) (sameB a a1 a2 a3 b b1 b2 b3) := by
 have hbd := canM_bd a a1 a2 a3 hA
 refine Evt.bind0 (p := fun _ => tree_Canon.f a a1 a2 a3) (fun k => rfl) (Evt.const0 (fun _ => canon_f hA a1 a2 a3)) ?_
 refine Evt.bind0 (p := fun _ => tree_Canon.f b b1 b2 b3) (fun k => rfl) (Evt.const0 (fun _ => canon_f hB b1 b2 b3)) ?_
 unfold sameB
 by_cases h1 : (canM a a1 a2 a3).2.2.2.2 = 0
 ·
  by_cases h2 : (canM b b1 b2 b3).2.2.2.2 = 0
  ·
   rw [if_pos h1, if_pos h2]
   exact Evt.bind0 (g := fun k => _) (q := fun _ x => some x) (fun k => (if_pos h1).trans (if_pos h2)) (pn_ev (canM a a1 a2 a3).1 (canM b b1 b2 b3).1 _ (by omega) (fun x hx => by have := hbd.2 x hx; omega)) (Evt.const0 (fun _ => rfl))
  ·
   rw [if_pos h1, if_neg h2]
   exact Evt.const0 (fun k => (if_pos h1).trans (if_neg h2))
 ·
  rw [if_neg h1]
  exact Evt.const0 (fun k => if_neg h1)
theorem canM_err (l : List Nod) (a1 a2 a3 : Int) : (canM l a1 a2 a3).2.2.2.2 = chk l a1 := by
 rcases chk_two l a1 with h | h
 ·
  obtain ⟨_, _, t, ht⟩ := wid_full h
  rw [canM_some (by rw [ht]; simp), h]
 ·
  rw [canM_none (by unfold wid; rw [if_neg (by rw [h]; decide)]; rfl), h]
end Go.Proofs.YtnpnablnnfekkaaDoor.PTr
namespace Go.Proofs.YtnpnablnnfekkaaDoor.PTr
open Go.RowKit Go.Proofs.YtnpnablnnfekkaaDoorW.PrintWords Go.Proofs.YtnpnablnnfekkaaDoorW.PrintLast Go.Proofs.YtnpnablnnfekkaaDoorW.PrintMore
attribute [local go_sem] max2_int min2_int max_two min_two max_three min_three max_four min_four   -- for this text's walks alone
set_option linter.unusedVariables false
set_option linter.unusedSimpArgs false
def rehearsallaw04_moved.f (a0 : Int) (a1 : Int) : Option (Int) := if a0 = 1 then (some 1) else (some (wrap64 ((wrap64 (2 * a0)) + (wrap64 (a1)))))
set_option maxHeartbeats 8000000 in
set_option maxRecDepth 100000 in
theorem rehearsallaw04_moved.calls (a0 : Int) (a1 : Int) (r : Int) (w : World) (h : rehearsallaw04_moved.f a0 a1 = some r) :
  Calls Tryd.prog 40 #[.int .i64 a0, .int .u8 a1] w fun e w' => e = .returned (.int .i64 r) ∧ Drawn0 w w' := by
 have H : (if a0 = 1 then (some 1) else (some (wrap64 ((wrap64 (2 * a0)) + (wrap64 (a1)))))) = some r := h
 clear h
 by_cases c3 : a0 = 1
 ·
  rw [if_pos c3] at H
  have c3b0 : (a0 == 1) = true := beq_iff_eq.mpr c3
  have c3b1 : (a0 != 1) = false := bne_eq_false_iff_eq.mpr c3
  clear c3
  obtain rfl := Option.some.inj H
  go_enter Tryd.func40, Tryd.ntmps40
  go_wp2
  go_ret
  exact ⟨by first | rfl | (simp; done) | (simp [*]; done), by repeat (first | exact Drawn0.refl _ | apply Drawn0.step)⟩
 ·
  rw [if_neg c3] at H
  have c3b0 : (a0 == 1) = false := beq_eq_false_iff_ne.mpr c3
  have c3b1 : (a0 != 1) = true := bne_iff_ne.mpr c3
  obtain rfl := Option.some.inj H
  go_enter Tryd.func40, Tryd.ntmps40
  go_wp2
  go_ret
  exact ⟨by first | rfl | (simp; done) | (simp [*]; done), by repeat (first | exact Drawn0.refl _ | apply Drawn0.step)⟩
end Go.Proofs.YtnpnablnnfekkaaDoor.PTr
