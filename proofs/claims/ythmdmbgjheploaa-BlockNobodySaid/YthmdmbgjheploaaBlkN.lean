/- BlockNobody: no disk has no blocks, and takes nothing; and an act that is handed in. -/
import Derived.Test.YthmdmbgjheploaaBlkO
set_option linter.unusedVariables false
set_option linter.unusedSimpArgs false
namespace Go.Proofs.Ythmdmbgjheploaa
open Go.RowKit Go.ChangeShapes Go.WideShapes Go.Deep

theorem open_act {H : Type} {enc : TypeId × Value → H} {w : World} {base : Nat} {spare : Nat → Bool} {held : Bool} {v : Value} {d : DataW H} {ps : List MemPlace}
    (h : DataW.Trod enc Try.prog w base spare held 39 v d ps) (hz : ∀ n ∈ d.weights Try.prog 39, n ≤ reachBytes) :
    ∃ a : ActS, v = .agg #[.int .i64 a.kind, .int .i64 a.at_, .string a.data, .int .u64 a.mask] ∧ a.ok := by
  obtain ⟨fuel, ht⟩ := h
  obtain ⟨xs, n', _, hxx, hcl, hxl, hf⟩ := DataW.trod_struct Try.underlying39 ht
  have hC : Try.prog.cellsOf 39 = 4 := by kernel_rfl
  rw [hC] at hcl
  match v, hcl, hf with
  | .agg ⟨[c0, c1, c2, c3]⟩, _, hf =>
    have f0 := hf 0 _ rfl
    have f1 := hf 1 _ rfl
    have f2 := hf 2 _ rfl
    have f3 := hf 3 _ rfl
    match xs, hxl with
    | [y0, y1, y2, y3], _ =>
      obtain ⟨k0, e0, q0, b0⟩ := DataW.trod_int Try.underlying3 (cs := [c0]) f0
      obtain ⟨k1, e1, q1, b1⟩ := DataW.trod_int Try.underlying3 (cs := [c1]) f1
      obtain ⟨s2, e2, q2, b2⟩ := DataW.trod_string Try.underlying9 (cs := [c2]) f2
      obtain ⟨k3, e3, q3, b3⟩ := DataW.trod_int Try.underlying22 (cs := [c3]) f3
      simp only [List.cons.injEq, and_true] at e0 e1 e2 e3
      subst e0 e1 e2 e3
      refine ⟨⟨k0, k1, s2, k3⟩, rfl, bounds_i64 b0, bounds_i64 b1, ?_, bounds_u64 b3⟩
      have hmem : s2.data.toList.length ∈ d.weights Try.prog 39 := by
        have hD : d = .agg [y0.1, y1.1, y2.1, y3.1] := by
          have := congrArg Prod.fst hxx
          simpa using this
        rw [hD, q0, q1, q2, q3]
        simp [DataW.weights, DataW.weightsEach, Try.underlying39]
      have := hz _ hmem
      rw [sz_list] at this
      unfold reachBytes at this
      omega

def actZero : Value := .agg #[.int .i64 0, .int .i64 0, .string ByteArray.empty, .int .u64 0]

/-! a disk of no blocks: no pointer, or one of zeros -/
def IsZero (w : World) (p : Nat) (f : Int) : Prop := w.heap[p]? = some (.cells #[.slice none 0 0, .slice none 0 0, .int .i64 f, .bool false] 54 (0, 0))
theorem spend_nil (w : World) : Calls Try.prog 41 #[.pointer none] w fun e w' => e = .returned (.int .i64 3) ∧ w' = w := by
  go_enter Try.func41, Try.ntmps41
  go_wp2
  go_ret
  exact ⟨rfl, rfl⟩
theorem spend_zero (w : World) (p : Nat) (f : Int) (h : IsZero w p f) : Calls Try.prog 41 #[.pointer (some ⟨p, 0, none⟩)] w fun e w' => e = .returned (.int .i64 3) ∧ w' = w := by
  have kn := eq_nil
  have c0 := cell_blk (i := 0) h rfl
  clear h
  go_enter Try.func41, Try.ntmps41
  go_wp2
  go_ret
  exact ⟨rfl, rfl⟩
theorem sync_nil (w : World) : Calls Try.prog 25 #[.pointer none] w fun e w' => e = .returned (.int .i64 3) ∧ w' = w := by
  go_enter Try.func25, Try.ntmps25
  go_wp2_with fail
  refine (spend_nil w).mono ?_
  rintro e w1 ⟨rfl, rfl⟩
  go_wp2
  go_ret
  exact ⟨rfl, rfl⟩
theorem sync_zero (w : World) (p : Nat) (f : Int) (h : IsZero w p f) : Calls Try.prog 25 #[.pointer (some ⟨p, 0, none⟩)] w fun e w' => e = .returned (.int .i64 3) ∧ w' = w := by
  have h' := Lib.hid h
  clear h
  go_enter Try.func25, Try.ntmps25
  go_wp2_with fail
  refine (spend_zero w p f h'.out).mono ?_
  rintro e w1 ⟨rfl, rfl⟩
  go_wp2
  go_ret
  exact ⟨rfl, rfl⟩
theorem write_nil (w : World) (i : Int) (s : ByteArray) : Calls Try.prog 26 #[.pointer none, .int .i64 i, .string s] w fun e w' => e = .returned (.int .i64 3) ∧ w' = w := by
  go_enter Try.func26, Try.ntmps26
  go_wp2_with fail
  refine (spend_nil w).mono ?_
  rintro e w1 ⟨rfl, rfl⟩
  go_wp2
  go_ret
  exact ⟨rfl, rfl⟩
theorem write_zero (w : World) (p : Nat) (f : Int) (i : Int) (s : ByteArray) (h : IsZero w p f) : Calls Try.prog 26 #[.pointer (some ⟨p, 0, none⟩), .int .i64 i, .string s] w fun e w' => e = .returned (.int .i64 3) ∧ w' = w := by
  have kn := ne_nil
  have c0 := cell_blk (i := 0) h rfl
  have h' := Lib.hid h
  clear h
  go_enter Try.func26, Try.ntmps26
  go_wp2_with fail
  refine (spend_zero w p f h'.out).mono ?_
  rintro e w1 ⟨rfl, rfl⟩
  go_wp2
  go_ret
  exact ⟨rfl, rfl⟩
theorem blocks_nil (w : World) : Calls Try.prog 31 #[.pointer none] w fun e w' => e = .returned (.int .i64 0) ∧ w' = w := by
  go_enter Try.func31, Try.ntmps31
  go_wp2
  go_ret
  exact ⟨rfl, rfl⟩
theorem blocks_zero (w : World) (p : Nat) (f : Int) (h : IsZero w p f) : Calls Try.prog 31 #[.pointer (some ⟨p, 0, none⟩)] w fun e w' => e = .returned (.int .i64 0) ∧ w' = w := by
  have c0 := cell_blk (i := 0) h rfl
  clear h
  go_enter Try.func31, Try.ntmps31
  go_wp2
  go_ret
  exact ⟨rfl, rfl⟩
theorem read_nil (w : World) (i : Int) : Calls Try.prog 27 #[.pointer none, .int .i64 i] w fun e w' => e = .returned (.tuple #[.string ⟨#[]⟩, .int .i64 3]) ∧ Below w.heap.size w w' := by
  go_enter Try.func27, Try.ntmps27
  go_wp2
  refine bodyPost_ret (v := .tuple #[.string ⟨#[]⟩, .int .i64 3]) (by simp [results, Try.f27, go_sem]) rfl ?_
  refine ⟨rfl, ?_⟩
  exact (((Below.refl _ w).alloc (Nat.le_refl _) _).alloc (by simp) _).alloc (by simp; omega) _
theorem read_zero (w : World) (p : Nat) (f : Int) (i : Int) (h : IsZero w p f) : Calls Try.prog 27 #[.pointer (some ⟨p, 0, none⟩), .int .i64 i] w fun e w' => e = .returned (.tuple #[.string ⟨#[]⟩, .int .i64 3]) ∧ Below w.heap.size w w' := by
  have kn := eq_nil
  have c0 : ∀ o1 o2 o3, (((w.alloc o1).alloc o2).alloc o3).cell? ⟨p, 0, none⟩ = some (.slice none 0 0) := fun o1 o2 o3 => cell_blk (blk_alloc o3 (blk_alloc o2 (blk_alloc o1 h))) rfl
  clear h
  go_enter Try.func27, Try.ntmps27
  go_wp2
  refine bodyPost_ret (v := .tuple #[.string ⟨#[]⟩, .int .i64 3]) (by simp [results, Try.f27, go_sem]) rfl ?_
  refine ⟨rfl, ?_⟩
  exact (((Below.refl _ w).alloc (Nat.le_refl _) _).alloc (by simp) _).alloc (by simp; omega) _
theorem crash_nil (w : World) (m : Int) : Calls Try.prog 29 #[.pointer none, .int .u64 m] w fun e w' => e = .returned (.tuple #[]) ∧ w' = w := by
  go_enter Try.func29, Try.ntmps29
  go_wp2
  refine bodyPost_ret (v := .tuple #[]) (by simp [results, Try.f29, go_sem]) rfl ?_
  exact ⟨rfl, rfl⟩
set_option maxHeartbeats 1600000 in
theorem crash_zero (w : World) (p : Nat) (f : Int) (m : Int) (h : IsZero w p f) : Calls Try.prog 29 #[.pointer (some ⟨p, 0, none⟩), .int .u64 m] w fun e w' => e = .returned (.tuple #[]) ∧ IsZero w' p (-1) ∧ Frm (fun i => i = p) w w' := by
  have c1 := cell_blk (i := 1) h rfl
  have z1 := frozen_blk 1 h
  have z2 := frozen_blk 2 h
  have z3 := frozen_blk 3 h
  have h' := Lib.hid h
  clear h
  go_enter Try.func29, Try.ntmps29
  go_wp2
  go_loopw [4, 5, 13, 15, 16] (fun s4 s5 s13 s15 s16 wr => s13 = .int .i64 0 ∧ wr = w) (fun _ _ s13 _ _ _ => 0)
  case atStart => exact ⟨rfl, rfl⟩
  case round =>
    obtain ⟨rfl, rfl⟩ := hrel
    have cp1 := cell_blk (i := 1) h'.out rfl
    have zp1 := frozen_blk 1 h'.out
    have cp2 := cell_blk (i := 2) h'.out rfl
    have zp2 := frozen_blk 2 h'.out
    have cp3 := cell_blk (i := 3) h'.out rfl
    have zp3 := frozen_blk 3 h'.out
    have hset := Lib.hid (blk_set 2 (.int .i64 (-1)) (blk_set 3 (.bool false) (blk_set 1 (.slice none 0 0) h'.out)))
    have hfr := Lib.hid ((((Frm.refl (fun i => i = p) wr).setCell ⟨p, 1, none⟩ (.slice none 0 0) (fun _ => rfl)).setCell ⟨p, 3, none⟩ (.bool false) (fun _ => rfl)).setCell ⟨p, 2, none⟩ (.int .i64 (-1)) (fun _ => rfl))
    clear c1 z1 z2 z3
    go_wp2
    go_end0
    exact ⟨rfl, hset.out, hfr.out⟩
end Go.Proofs.Ythmdmbgjheploaa
