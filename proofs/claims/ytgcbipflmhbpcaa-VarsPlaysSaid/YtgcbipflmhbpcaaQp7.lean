/- Texts of this claim's proof: small lemmas, walks and plain laws (merged by wip/shake.py). -/
import Derived.Test.YtgcbipflmhbpcaaQp4
import Derived.Test.YtgcbipflmhbpcaaQp6
set_option linter.unusedVariables false
set_option linter.unusedSimpArgs false
namespace Go.Proofs.Ytgcbipflmhbpcaa
open Go.RowKit Go.Proofs.YtgcbipflmhbpcaaW.PrintWords Go.Proofs.YtgcbipflmhbpcaaW.PrintLast Go.Proofs.YtgcbipflmhbpcaaW.PrintMore
set_option maxHeartbeats 2000000 in
set_option maxRecDepth 100000 in
theorem get_all (B : Nat) (w : World) (g : Nat) (V : List (ByteArray × ByteArray)) (A : List ByteArray) (st : Int) (vv va : Value) (ht : Tab B w g V A st vv va) (r : ByteArray) (hr : strings_Join.f A ⟨#[32]⟩ = some r) (hpos : 0 < A.length) :
    Calls Try.prog 13 #[.pointer (some ⟨g, 0, none⟩), .string ⟨#[64]⟩] w fun e w' => e = .returned (.tuple #[.string r, .bool true]) ∧ Below w.heap.size w w' := by
  obtain ⟨A1, c1, rfl⟩ := own_slice ht.oa
  have HS := Lib.hid ht.str
  have HC := Lib.hid (own_cap ht.oa)
  have HT := Lib.hid ht
  have HR := Lib.hid hr
  have j0 : decide (0 < A.length) = true := decide_eq_true hpos
  have d1 : w.cell? ⟨g, 1, none⟩ = some (.slice A1 A.length c1) := (blk_cell ht.bt 1).trans rfl
  clear ht hr hpos
  go_enter Try.func13, Try.ntmps13
  go_wp2
  refine start_ (n := 13) (S := (fun w' => w'.cell? ⟨g, 1, none⟩ = some (.slice A1 A.length c1))) (ds := []) #[false, false, false, false, false, false, false, false, false, false, false, false, false] (by kernel_rfl) rfl rfl d1 (fun hHeld => ?_)
  iterate 5 (first | ((first | refine takeS_ 0 (N := some 38) (v := ?_) (a' := ?_) rfl rfl (by decide +kernel) (fun _ _ _ h => h) (Or.inl ⟨by rfl, ?_⟩) hHeld ?_ ?_ | refine takeS_ 1 (N := some 39) (v := ?_) (a' := ?_) rfl rfl (by decide +kernel) (fun _ _ _ h => h) (Or.inl ⟨by rfl, ?_⟩) hHeld ?_ ?_ | refine takeS_ 2 (N := some 40) (v := ?_) (a' := ?_) rfl rfl (by decide +kernel) (fun _ _ _ h => h) (Or.inl ⟨by rfl, ?_⟩) hHeld ?_ ?_ | refine takeS_ 3 (N := some 41) (v := ?_) (a' := ?_) rfl rfl (by decide +kernel) (fun _ _ _ h => h) (Or.inl ⟨by rfl, ?_⟩) hHeld ?_ ?_ | refine takeS_ 5 (N := some 43) (v := ?_) (a' := ?_) rfl rfl (by decide +kernel) (fun _ _ _ h => h) (Or.inl ⟨by rfl, ?_⟩) hHeld ?_ ?_); rotate_left; (rintro w' (s0); go_simp; first | done | (with_reducible rfl) | rfl); rotate_left; (simp only [Act.put, List.setIfInBounds_toArray, List.set_cons_zero, List.set_cons_succ, i64_w, i32_w]; rfl)) | ((first | refine takeS_ 0 (N := some 38) (v := undef) (a' := ?_) rfl rfl (by decide +kernel) (fun _ _ _ h => h) (Or.inr ⟨by rfl, rfl⟩) hHeld ?_ ?_ | refine takeS_ 1 (N := some 39) (v := undef) (a' := ?_) rfl rfl (by decide +kernel) (fun _ _ _ h => h) (Or.inr ⟨by rfl, rfl⟩) hHeld ?_ ?_ | refine takeS_ 2 (N := some 40) (v := undef) (a' := ?_) rfl rfl (by decide +kernel) (fun _ _ _ h => h) (Or.inr ⟨by rfl, rfl⟩) hHeld ?_ ?_ | refine takeS_ 3 (N := some 41) (v := undef) (a' := ?_) rfl rfl (by decide +kernel) (fun _ _ _ h => h) (Or.inr ⟨by rfl, rfl⟩) hHeld ?_ ?_ | refine takeS_ 5 (N := some 43) (v := undef) (a' := ?_) rfl rfl (by decide +kernel) (fun _ _ _ h => h) (Or.inr ⟨by rfl, rfl⟩) hHeld ?_ ?_); rotate_left; (simp only [Act.put, List.setIfInBounds_toArray, List.set_cons_zero, List.set_cons_succ, i64_w, i32_w]; rfl)))
  iterate 5 (first | ((first | refine takeS_ 6 (N := some 44) (v := ?_) (a' := ?_) rfl rfl (by decide +kernel) (fun _ _ _ h => h) (Or.inl ⟨by rfl, ?_⟩) hHeld ?_ ?_ | refine takeS_ 7 (N := some 45) (v := ?_) (a' := ?_) rfl rfl (by decide +kernel) (fun _ _ _ h => h) (Or.inl ⟨by rfl, ?_⟩) hHeld ?_ ?_ | refine takeS_ 8 (N := some 46) (v := ?_) (a' := ?_) rfl rfl (by decide +kernel) (fun _ _ _ h => h) (Or.inl ⟨by rfl, ?_⟩) hHeld ?_ ?_ | refine takeS_ 9 (N := some 47) (v := ?_) (a' := ?_) rfl rfl (by decide +kernel) (fun _ _ _ h => h) (Or.inl ⟨by rfl, ?_⟩) hHeld ?_ ?_ | refine takeS_ 10 (N := some 48) (v := ?_) (a' := ?_) rfl rfl (by decide +kernel) (fun _ _ _ h => h) (Or.inl ⟨by rfl, ?_⟩) hHeld ?_ ?_); rotate_left; (rintro w' (s0); go_simp; first | done | (with_reducible rfl) | rfl); rotate_left; (simp only [Act.put, List.setIfInBounds_toArray, List.set_cons_zero, List.set_cons_succ, i64_w, i32_w]; rfl)) | ((first | refine takeS_ 6 (N := some 44) (v := undef) (a' := ?_) rfl rfl (by decide +kernel) (fun _ _ _ h => h) (Or.inr ⟨by rfl, rfl⟩) hHeld ?_ ?_ | refine takeS_ 7 (N := some 45) (v := undef) (a' := ?_) rfl rfl (by decide +kernel) (fun _ _ _ h => h) (Or.inr ⟨by rfl, rfl⟩) hHeld ?_ ?_ | refine takeS_ 8 (N := some 46) (v := undef) (a' := ?_) rfl rfl (by decide +kernel) (fun _ _ _ h => h) (Or.inr ⟨by rfl, rfl⟩) hHeld ?_ ?_ | refine takeS_ 9 (N := some 47) (v := undef) (a' := ?_) rfl rfl (by decide +kernel) (fun _ _ _ h => h) (Or.inr ⟨by rfl, rfl⟩) hHeld ?_ ?_ | refine takeS_ 10 (N := some 48) (v := undef) (a' := ?_) rfl rfl (by decide +kernel) (fun _ _ _ h => h) (Or.inr ⟨by rfl, rfl⟩) hHeld ?_ ?_); rotate_left; (simp only [Act.put, List.setIfInBounds_toArray, List.set_cons_zero, List.set_cons_succ, i64_w, i32_w]; rfl)))
  refine oneS_ 4 (N := some 42) rfl rfl (by kernel_rfl) (by decide) (fun K hK => ?_)
  refine goes_ Try.func29 (by kernel_rfl) rfl #[.slice A1 A.length c1, .string ⟨#[32]⟩] (by rfl) rfl rfl (by first | rfl | (simp [Act.eval]; done) | (simp [Act.eval, Act.put]; done)) ?_
  refine (strings_Join.calls A1 c1 A ⟨#[32]⟩ r _ (Kd.C_below HS.out (Below.refl _ w).drew) HC.out HR.out).mono ?_
  rintro e v1 ⟨rfl, hb⟩
  refine ⟨_, rfl, ?_⟩
  have HB1 := Lib.hid (below_step ((Below.refl _ w).drew) hb)
  refine hK.out _ _ ((blk_cell (HT.out.frm HB1.out).bt 1).trans rfl) (fun hHeld => ?_)
  clear hK K
  refine norm_ (a' := ?_) ?_ ?_
  rotate_left
  · show Act.put _ (some 42) _ = _
    simp only [Act.put, List.setIfInBounds_toArray, List.set_cons_zero, List.set_cons_succ, i64_w, i32_w]
    rfl
  iterate 2 (first | ((first | refine takeS_ 11 (N := some 4) (v := ?_) (a' := ?_) rfl rfl (by decide +kernel) (fun _ _ _ h => h) (Or.inl ⟨by rfl, ?_⟩) hHeld ?_ ?_ | refine takeS_ 12 (N := some 5) (v := ?_) (a' := ?_) rfl rfl (by decide +kernel) (fun _ _ _ h => h) (Or.inl ⟨by rfl, ?_⟩) hHeld ?_ ?_); rotate_left; (rintro w' (s0); go_simp; first | done | (with_reducible rfl) | rfl); rotate_left; (simp only [Act.put, List.setIfInBounds_toArray, List.set_cons_zero, List.set_cons_succ, i64_w, i32_w]; rfl)) | ((first | refine takeS_ 11 (N := some 4) (v := undef) (a' := ?_) rfl rfl (by decide +kernel) (fun _ _ _ h => h) (Or.inr ⟨by rfl, rfl⟩) hHeld ?_ ?_ | refine takeS_ 12 (N := some 5) (v := undef) (a' := ?_) rfl rfl (by decide +kernel) (fun _ _ _ h => h) (Or.inr ⟨by rfl, rfl⟩) hHeld ?_ ?_); rotate_left; (simp only [Act.put, List.setIfInBounds_toArray, List.set_cons_zero, List.set_cons_succ, i64_w, i32_w]; rfl)))
  refine done_ (by kernel_rfl) ?_
  go_wp2
  go_ret2
  exact ⟨rfl, HB1.out⟩
theorem setArgs_ok (B : Nat) (w : World) (g : Nat) (V : List (ByteArray × ByteArray)) (A l : List ByteArray) (st : Int) (vv va : Value) (P : Option Addr) (c : Nat) (ht : Tab B w g V A st vv va) (hB : B ≤ w.heap.size) (hl : Kd.string.C w P l.length l) (he : argsE l = 0) :
    Calls Try.prog 19 #[.pointer (some ⟨g, 0, none⟩), .slice P l.length c] w fun e w' => e = .returned (.int .i64 0) ∧ Frm (fun k => k = g) w w' ∧ ∃ va', Tab B w' g V l st vv va' := by
  refine (setArgs_any B w g V A l st vv va P c ht hB hl).mono ?_
  rintro e w' ⟨rfl, hf, va', A', ht', h1, _⟩
  obtain rfl := h1 he
  exact ⟨by rw [he], hf, va', ht'⟩
set_option maxHeartbeats 2000000 in
set_option maxRecDepth 100000 in
theorem new_nil (w : World) (P : Option Addr) (c : Nat) (l : List ByteArray) (hl : Kd.string.C w P l.length l) (he : argsE l = 0) :
    Calls Try.prog 8 #[.slice none 0 0, .slice P l.length c] w fun e w' => ∃ g va, e = .returned (.tuple #[.pointer (some ⟨g, 0, none⟩), .int .i64 0]) ∧ Below w.heap.size w w' ∧ Tab w.heap.size w' g [] l 0 (.slice none 0 0) va := by
  have hu57 := Try.underlying57
  have HL := Lib.hid hl
  have HE := Lib.hid he
  clear hl he
  go_enter Try.func8, Try.ntmps8
  go_wp2_with (first | ((with_reducible refine gate_dst (N := 12) rfl ?_); refine box_event ?hg (N := 12) ?hd (cs := #[.slice none 0 0, .slice none 0 0, .int .i64 0]) (t := 57) ?hr ?_; (case hd => rfl); (case hg => rfl); (case hr => first | (go_simp; done) | (go_simp; rfl)); intro g hg w1 hbox hb; have HB1 := Lib.hid hb; have E1 : Hid (w.heap.size ≤ g) := Lib.hid (by rw [hg]; exact Nat.le_refl _); have HT1 : Hid (Tab w.heap.size w1 g [] [] 0 (.slice none 0 0) (.slice none 0 0)) := Lib.hid ⟨hbox, E1.out, World.ownsRow_nil _ _ _ _, World.ownsRow_nil _ _ _ _⟩; clear hbox hb hg))
  go_loopw [15] (fun s15 wr => s15 = .int .i64 0 ∧ wr = w1) (fun _ _ => 0)
  case atStart => exact ⟨rfl, rfl⟩
  case round =>
    obtain ⟨rfl, rfl⟩ := hrel
    go_wp2_with (first | (go_at_call 19; (with_reducible refine (setArgs_ok w.heap.size _ g [] [] l 0 _ _ P c HT1.out HB1.out.size (Kd.C_below HL.out HB1.out) HE.out).mono ?_); rintro e w2 ⟨rfl, hf, va, ht⟩; have HT2 := Lib.hid ht; have HB2 : Hid (Below w.heap.size w w2) := Lib.hid ((HB1.out).trans (hf.below HB1.out.size (fun i hi e => by have := E1.out; omega))); clear hf ht))
    go_ret2
    exact ⟨g, va, rfl, HB2.out, HT2.out⟩
end Go.Proofs.Ytgcbipflmhbpcaa
set_option linter.unusedVariables false
set_option linter.unusedSimpArgs false
namespace Go.Proofs.Ytgcbipflmhbpcaa
open Go.RowKit Go.Proofs.YtgcbipflmhbpcaaW.PrintWords Go.Proofs.YtgcbipflmhbpcaaW.PrintLast Go.Proofs.YtgcbipflmhbpcaaW.PrintMore
theorem reads_new {W : World} {g t : Nat} {l : List ByteArray} (h : W.heap[g]? = some (.cells (l.map Value.string).toArray t (0, 0))) (hl : l.length ≤ 1000000) : Kd.C Kd.string W (some ⟨g, 0, none⟩) l.length l := by
  refine ⟨rfl, by omega, fun _ => ⟨_, rfl, fun j y hy => ⟨[.string y], rfl, rfl, fun i u hu => ?_⟩⟩⟩
  have hi : i = 0 := by
    cases i with
    | zero => rfl
    | succ i => simp at hu
  subst hi
  have hu' : u = .string y := by simpa using hu.symm
  subst hu'
  rw [show (Kd.string).sz = 1 from rfl, Nat.mul_one, Nat.add_zero]
  have e : (⟨g, 0, none⟩ : Addr).add j = ⟨g, j, none⟩ := by
    unfold Addr.add
    by_cases hj : j = 0
    · subst hj; rfl
    · simp [hj]
  rw [e, blk_cell h j]
  simp [hy]
theorem Tab.weak {B B' : Nat} {w : World} {g : Nat} {V : List (ByteArray × ByteArray)} {A : List ByteArray} {st : Int} {vv va : Value} (h : Tab B w g V A st vv va) (hb : B' ≤ B) : Tab B' w g V A st vv va :=
  ⟨h.bt, Nat.le_trans hb h.eg, own_weaken h.ov hb, own_weaken h.oa hb⟩
def abS : List ByteArray := [⟨#[97]⟩, ⟨#[98]⟩]
theorem join_ab : strings_Join.f abS ⟨#[32]⟩ = some ⟨#[97, 32, 98]⟩ := by unfold strings_Join.f abS; decide +kernel
theorem text_two : textS 2 = ⟨#[50]⟩ := by decide +kernel
theorem get2 {B : Nat} {w : World} {g : Nat} {vv va : Value} (h : Tab B w g [] abS 0 vv va) : Calls Try.prog 13 #[.pointer (some ⟨g, 0, none⟩), .string ⟨#[50]⟩] w fun e w' => e = .returned (.tuple #[.string ⟨#[98]⟩, .bool true]) ∧ Below w.heap.size w w' := get_num B w g [] abS 0 vv va h (by decide) 50 1 (.inr ⟨rfl, rfl⟩) (by decide)
theorem getA {B : Nat} {w : World} {g : Nat} {vv va : Value} (h : Tab B w g [] abS 0 vv va) : Calls Try.prog 13 #[.pointer (some ⟨g, 0, none⟩), .string ⟨#[64]⟩] w fun e w' => e = .returned (.tuple #[.string ⟨#[97, 32, 98]⟩, .bool true]) ∧ Below w.heap.size w w' := get_all B w g [] abS 0 vv va h _ join_ab (by decide)
theorem getC {B : Nat} {w : World} {g : Nat} {vv va : Value} (h : Tab B w g [] abS 0 vv va) : Calls Try.prog 13 #[.pointer (some ⟨g, 0, none⟩), .string ⟨#[35]⟩] w fun e w' => e = .returned (.tuple #[.string ⟨#[50]⟩, .bool true]) ∧ Below w.heap.size w w' := by
  have := get_count B w g [] abS 0 vv va h (by decide)
  rw [show ((abS.length : Nat) : Int) = 2 from rfl, text_two] at this
  exact this
theorem get1 {B : Nat} {w : World} {g : Nat} {vv va : Value} (h : Tab B w g [] (abS.drop 1) 0 vv va) : Calls Try.prog 13 #[.pointer (some ⟨g, 0, none⟩), .string ⟨#[49]⟩] w fun e w' => e = .returned (.tuple #[.string ⟨#[98]⟩, .bool true]) ∧ Below w.heap.size w w' := get_num B w g [] (abS.drop 1) 0 vv va h (by decide) 49 0 (.inl ⟨rfl, rfl⟩) (by decide)
theorem shift1 {B : Nat} {w : World} {g : Nat} {vv va : Value} (h : Tab B w g [] abS 0 vv va) (hB : B ≤ w.heap.size) : Calls Try.prog 20 #[.pointer (some ⟨g, 0, none⟩), .int .i64 1] w fun e w' => e = .returned (.bool true) ∧ Frm (fun k => k = g) w w' ∧ ∃ va', Tab B w' g [] (abS.drop 1) 0 vv va' :=
  shift_ok B w g [] abS 0 vv va h hB (by decide) 1 (by decide)
set_option maxHeartbeats 4000000 in
set_option maxRecDepth 100000 in
theorem awake_any (w : World) : Calls Try.prog 6 #[] w fun e W' => e = .returned (.bool true) ∧ Below w.heap.size w W' := by
  go_enter Try.func6, Try.ntmps6
  go_wp2_with (first | (go_at_call 8; refine (new_nil _ (some ⟨w.heap.size, 0, none⟩) 2 abS (reads_new (l := abS) (bk_new w _) (by decide)) (by decide +kernel)).mono ?_; rintro e w1 ⟨g, va, rfl, hb, ht⟩; have HT := Lib.hid (ht.weak (B' := w.heap.size) (by simp)); have HB := Lib.hid (((Below.refl w.heap.size w).alloc (Nat.le_refl _) _).trans (hb.mono (((Below.refl w.heap.size w).alloc (Nat.le_refl _) (.cells #[.string ⟨#[97]⟩, .string ⟨#[98]⟩] 9)).size))); clear hb ht) | (go_at_call 13; (with_reducible refine (get2 HT.out).mono ?_); rintro e w2 ⟨rfl, hb⟩; replace HT := Lib.hid (HT.out.frm hb); replace HB := Lib.hid (HB.out.trans (hb.mono HB.out.size)); clear hb) | (go_at_call 13; (with_reducible refine (getA HT.out).mono ?_); rintro e w2 ⟨rfl, hb⟩; replace HT := Lib.hid (HT.out.frm hb); replace HB := Lib.hid (HB.out.trans (hb.mono HB.out.size)); clear hb) | (go_at_call 13; (with_reducible refine (getC HT.out).mono ?_); rintro e w2 ⟨rfl, hb⟩; replace HT := Lib.hid (HT.out.frm hb); replace HB := Lib.hid (HB.out.trans (hb.mono HB.out.size)); clear hb) | (go_at_call 20; (with_reducible refine (shift1 HT.out HB.out.size).mono ?_); rintro e w2 ⟨rfl, hf, va2, ht⟩; replace HB : Hid (Below w.heap.size w w2) := Lib.hid (HB.out.trans (hf.below HB.out.size (fun i hi e => by have := HT.out.eg; omega))); replace HT := Lib.hid ht; clear hf ht) | (go_at_call 13; (with_reducible refine (get1 HT.out).mono ?_); rintro e w2 ⟨rfl, hb⟩; replace HT := Lib.hid (HT.out.frm hb); replace HB := Lib.hid (HB.out.trans (hb.mono HB.out.size)); clear hb))
  go_ret
  exact ⟨rfl, HB.out⟩
end Go.Proofs.Ytgcbipflmhbpcaa
set_option linter.unusedVariables false
set_option linter.unusedSimpArgs false
namespace Go.Proofs.Ytgcbipflmhbpcaa.PV
open Go Go.RowKit Go.Proofs.Ytgcbipflmhbpcaa Go.Proofs.YtgcbipflmhbpcaaW.PrintWords Go.Proofs.YtgcbipflmhbpcaaW.PrintLast Go.Proofs.YtgcbipflmhbpcaaW.PrintMore
def pv (V : List S26) : List (ByteArray × ByteArray) := V.map (fun x => (x.f0, x.f1))
def cV (V : List S26) : List Value := cellsV (pv V)
theorem cV_cons (x : S26) (V : List S26) : cV (x :: V) = .string x.f0 :: .string x.f1 :: cV V := rfl
theorem cV_nil : cV [] = [] := rfl
theorem cV_append (V U : List S26) : cV (V ++ U) = cV V ++ cV U := by
  induction V with
  | nil => rfl
  | cons x V ih => rw [List.cons_append, cV_cons, ih, cV_cons]; rfl
theorem cV_len (V : List S26) : (cV V).length = V.length * 2 := by
  induction V with
  | nil => rfl
  | cons x V ih => rw [cV_cons, List.length_cons, List.length_cons, ih, List.length_cons]; omega
theorem pv_len (V : List S26) : (pv V).length = V.length := List.length_map ..
theorem cV_take (V : List S26) (r : Nat) : (cV V).take (r * 2) = cV (V.take r) := by
  induction V generalizing r with
  | nil => simp [cV_nil]
  | cons x V ih =>
    cases r with
    | zero => simp [cV_nil]
    | succ r => rw [cV_cons, show (r + 1) * 2 = r * 2 + 2 from by omega, List.take_succ_cons, List.take_succ_cons, ih, List.take_succ_cons, cV_cons]
theorem cV_drop (V : List S26) (r : Nat) : (cV V).drop (r * 2) = cV (V.drop r) := by
  induction V generalizing r with
  | nil => simp [cV_nil]
  | cons x V ih =>
    cases r with
    | zero => simp
    | succ r => rw [cV_cons, show (r + 1) * 2 = r * 2 + 2 from by omega, List.drop_succ_cons, List.drop_succ_cons, ih, List.drop_succ_cons]
theorem cV_one (V : List S26) : ∀ u ∈ cV V, u.oneCell' = true := by
  induction V with
  | nil => intro u hu; cases hu
  | cons x V ih =>
    intro u hu
    rw [cV_cons] at hu
    rcases List.mem_cons.1 hu with rfl | hu
    · rfl
    · rcases List.mem_cons.1 hu with rfl | hu
      · rfl
      · exact ih u hu
theorem reps_V {R : S26 → List Value → Prop} (hR : ∀ x, R x [.string x.f0, .string x.f1]) (V : List S26) : Reps R 2 V (cV V) := by
  refine ⟨cV_len V, fun j p hj => ?_⟩
  obtain ⟨hlt, rfl⟩ := List.getElem?_eq_some_iff.1 hj
  rw [cV_drop, List.drop_eq_getElem_cons hlt, cV_cons, List.take_succ_cons, List.take_succ_cons, List.take_zero]
  exact hR _
theorem own_C {w : World} {B c : Nat} {A : Option Addr} {V : List S26} (h : w.ownsRow B 26 2 (.slice A (pv V).length c) (pv V).length (cV V)) : Kd.C k26 w A V.length V := by
  rw [pv_len] at h
  obtain ⟨A', c', e, hr⟩ := own_reads_row (R := k26.K w) h (reps_V (fun x => k26_mk w x) V) rfl
  cases e
  exact hr
theorem own_R {w : World} {B : Nat} {v : Value} {V : List S26} (h : w.ownsRow B 26 2 v (pv V).length (cV V)) : Kd.R k26 26 w B (fun _ => True) v V := by
  rw [pv_len] at h
  exact ⟨fun _ _ => trivial, cV V, h, reps_V (fun x => k26_mkM w B _ x) V⟩
theorem reps_cV {R : S26 → List Value → Prop} (hR : ∀ x c, R x c → c = [.string x.f0, .string x.f1]) : ∀ (V : List S26) (cs : List Value), Reps R 2 V cs → cs = cV V
  | [], cs, h => by have := h.1; exact List.eq_nil_of_length_eq_zero (by simpa using this)
  | x :: V, cs, h => by
    have h0 := hR _ _ (h.2 0 x rfl)
    rw [Nat.zero_mul, List.drop_zero] at h0
    have h1 : Reps R 2 V (cs.drop 2) := ⟨by rw [List.length_drop, h.1, List.length_cons]; omega, fun j p hj => by
      have := h.2 (j + 1) p (by rw [List.getElem?_cons_succ]; exact hj)
      rw [List.drop_drop, show 2 + j * 2 = (j + 1) * 2 from by omega]
      exact this⟩
    have h2 := reps_cV hR V _ h1
    rw [cV_cons, ← List.take_append_drop 2 cs, h0, h2]; rfl
theorem R_own {w : World} {B : Nat} {v : Value} {V : List S26} {ok : Nat → Prop} (h : Kd.R k26 26 w B ok v V) : w.ownsRow B 26 2 v (pv V).length (cV V) := by
  obtain ⟨_, inner, ho, hr⟩ := h
  rw [pv_len]
  have := reps_cV (fun x c hc => k26_openM hc) V inner hr
  rw [← this]; exact ho
theorem insert_any (B : Nat) (w : World) (n i : Nat) (v : Value) (cs : List Value) (nm vl : ByteArray) (gv : Nat) (hB : B ≤ w.heap.size) (ho : w.ownsRow B 26 2 v n cs) (h1 : ∀ u ∈ cs, u.oneCell' = true) (hv : w.heap[gv]? = some (.cells #[.string nm, .string vl] 26 (0, 0))) (hne : some gv ≠ v.ownBlock) (hi : i ≤ n) (hn : n ≤ 1000) :
    Calls Try.prog 39 #[v, .int .i64 i, .slice (some ⟨gv, 0, none⟩) 1 1] w fun e w' => ∃ v', e = .returned v' ∧ w'.ownsRow B 26 2 v' (n + 1) (cs.take (i * 2) ++ [.string nm, .string vl] ++ cs.drop (i * 2)) ∧ w.grownBy w' v.ownBlock ∧ (v'.ownBlock = v.ownBlock ∨ ∃ b, v'.ownBlock = some b ∧ w.heap.size ≤ b) := by
  have hlen := ho.1
  by_cases hin : i = n
  · subst hin
    rw [List.take_of_length_le (by omega), List.drop_of_length_le (by omega), List.append_nil]
    exact insert_end B 0 w i v cs nm vl gv hB ho hv hn
  · rcases ho.2 with ⟨_, h0⟩ | ⟨g, cap, cur, rfl, hb, hh, hnc, hm, hs, ht⟩
    · omega
    · by_cases hr : n + 1 ≤ cap
      · refine (insert_room B g cap w n i cur nm vl gv (by omega) hn hr (by unfold maxLen at hm; omega) hs hh hv (fun e => hne (by rw [e]; rfl)) (by rw [ht]; exact h1)).mono ?_
        rintro e w' ⟨rfl, cur', k1, k2, k3, k4⟩
        refine ⟨_, rfl, ⟨?_, .inr ⟨g, cap, cur', rfl, hb, k1, hr, hm, k2, ?_⟩⟩, k4, .inl rfl⟩
        · simp only [List.length_append, List.length_take, List.length_drop, List.length_cons, List.length_nil]; omega
        · rw [k3, ht]
      · have hcn : cap = n := by omega
        subst hcn
        have hcur : cur.toList = cs := by rw [← ht, List.take_of_length_le (by rw [Array.length_toList]; omega)]
        refine (insert_grow g w cap i cur nm vl gv (by omega) hn hs hh hv (by rw [hcur]; exact h1)).mono ?_
        rintro e w' ⟨c', rfl, q1, q2, cur', k1, k2, k3, k4⟩
        refine ⟨_, rfl, ⟨?_, .inr ⟨w.heap.size, c', cur', rfl, hB, k1, q1, q2, k2, ?_⟩⟩, grown_of_below k4 _, .inr ⟨_, rfl, Nat.le_refl _⟩⟩
        · simp only [List.length_append, List.length_take, List.length_drop, List.length_cons, List.length_nil]; omega
        · rw [k3, hcur]
set_option maxHeartbeats 2000000 in
set_option maxRecDepth 100000 in
theorem place_calls (B : Nat) (w : World) (g : Nat) (V : List S26) (A : List ByteArray) (st : Int) (vv va : Value) (x : ByteArray) (ht : Tab B w g (pv V) A st vv va) (hl : V.length ≤ 1000) (hr : Ord V) :
    Calls Try.prog 32 #[.pointer (some ⟨g, 0, none⟩), .string x] w fun e w' => ∃ (r : Nat) (b : Bool), e = .returned (.tuple #[.int .i64 (r : Int), .bool b]) ∧ At V x r b ∧ Below w.heap.size w w' := by
  obtain ⟨A1, c1, rfl⟩ := own_slice ht.ov
  have hcap := own_cap ht.ov
  have hC := own_C ht.ov
  have d0 : w.cell? ⟨g, 0, none⟩ = some (.slice A1 V.length c1) := by rw [← pv_len V]; exact (blk_cell ht.bt 0).trans rfl
  rw [pv_len] at hcap
  obtain ⟨r, b, hf, hat⟩ := place_any V x 0 (by omega) hr
  have HF := Lib.hid hf
  have HAT := Lib.hid hat
  have HCC := Lib.hid hC
  have HCAP := Lib.hid hcap
  clear ht hl hr hf hat hC hcap
  go_enter Try.func32, Try.ntmps32
  go_wp2_with (go_at_call 50; (with_reducible refine (api_Var_string.calls (V.length + 1) A1 c1 V x 0 (r : Int) b _ HCC.out HCAP.out HF.out).mono ?_); rintro e w1 ⟨rfl, hb⟩; have HB1 := Lib.hid hb; clear hb)
  go_ret2
  exact ⟨r, b, rfl, HAT.out, HB1.out⟩
end Go.Proofs.Ytgcbipflmhbpcaa.PV
set_option linter.unusedVariables false
set_option linter.unusedSimpArgs false
namespace Go.Proofs.Ytgcbipflmhbpcaa.PV
open Go Go.RowKit Go.Proofs.Ytgcbipflmhbpcaa Go.Proofs.YtgcbipflmhbpcaaW.PrintWords Go.Proofs.YtgcbipflmhbpcaaW.PrintLast Go.Proofs.YtgcbipflmhbpcaaW.PrintMore
theorem At.uniq {V : List S26} {x : ByteArray} {r r' : Nat} {b b' : Bool} (h : At V x r b) (h' : At V x r' b') : r = r' ∧ b = b' := by
  refine ⟨?_, by rw [← h.has, ← h'.has]⟩
  rcases Nat.lt_trichotomy r r' with k | k | k
  · have hl : r < V.length := Nat.lt_of_lt_of_le k h'.le
    have := h'.lo r hl k
    rw [h.hi r hl (Nat.le_refl _)] at this; cases this
  · exact k
  · have hl : r' < V.length := Nat.lt_of_lt_of_le k h.le
    have := h.lo r' hl k
    rw [h'.hi r' hl (Nat.le_refl _)] at this; cases this
theorem at_ex (V : List S26) (x : ByteArray) (hl : V.length ≤ 1000) (hr : Ord V) : ∃ r b, At V x r b := by
  obtain ⟨r, b, _, h⟩ := place_any V x 0 (by omega) hr
  exact ⟨r, b, h⟩
theorem place_at {B : Nat} {w : World} {g : Nat} {V : List S26} {A : List ByteArray} {st : Int} {vv va : Value} {x : ByteArray} {r : Nat} {b : Bool} (ht : Tab B w g (pv V) A st vv va) (hl : V.length ≤ 1000) (hr : Ord V) (hat : At V x r b) :
    Calls Try.prog 32 #[.pointer (some ⟨g, 0, none⟩), .string x] w fun e w' => e = .returned (.tuple #[.int .i64 (r : Int), .bool b]) ∧ Below w.heap.size w w' :=
  (place_calls B w g V A st vv va x ht hl hr).mono (fun e w' ⟨r', b', he, h', hb⟩ => by
    obtain ⟨rfl, rfl⟩ := hat.uniq h'
    exact ⟨he, hb⟩)
def TB (B : Nat) (w : World) (g : Nat) (V : List S26) (A : List ByteArray) (st : Int) : Prop := ∃ vv va, Tab B w g (pv V) A st vv va
theorem frm_grown {S : Nat → Prop} {w w' : World} {row : Option Nat} (h : w.grownBy w' row) (hS : ∀ k, row = some k → S k) : Frm S w w' :=
  ⟨h.os, h.tape, h.output, h.size, fun i hi hs => h.block i hi (fun e => hs (hS i e.symm))⟩
/-- other variables -/
theorem Tab.setRow {B : Nat} {w w' : World} {g : Nat} {V V' : List (ByteArray × ByteArray)} {A : List ByteArray} {st : Int} {vv va vv' : Value} (h : Tab B w g V A st vv va) (hg : w.grownBy w' vv.ownBlock) (ho : w'.ownsRow B 26 2 vv' V'.length (cellsV V')) : Tab B (w'.setCell ⟨g, 0, none⟩ vv') g V' A st vv' va ∧ w'.heap[g]? = some (.cells #[vv, va, .int .i64 st] 57 (0, 0)) := by
  have hbt : w'.heap[g]? = some (.cells #[vv, va, .int .i64 st] 57 (0, 0)) := (hg.block g (blk_lt h.bt) (own_ne h.ov h.bt (by decide))).trans h.bt
  have hoa := own_other h.oa hg (own_type_ne h.oa h.ov (by decide))
  exact ⟨⟨blk_put hbt 0 vv' rfl, h.eg, own_setCell ho (own_ne ho hbt (by decide)) _, own_setCell hoa (own_ne hoa hbt (by decide)) _⟩, hbt⟩
theorem Tab.keepRow {B : Nat} {w w' : World} {g : Nat} {V V' : List (ByteArray × ByteArray)} {A : List ByteArray} {st : Int} {vv va : Value} (h : Tab B w g V A st vv va) (hg : w.grownBy w' vv.ownBlock) (ho : w'.ownsRow B 26 2 vv V'.length (cellsV V')) : Tab B w' g V' A st vv va :=
  ⟨(hg.block g (blk_lt h.bt) (own_ne h.ov h.bt (by decide))).trans h.bt, h.eg, ho, own_other h.oa hg (own_type_ne h.oa h.ov (by decide))⟩
theorem own_ge {w : World} {B e s n : Nat} {v : Value} {xs : List Value} (h : w.ownsRow B e s v n xs) (k : Nat) (hk : v.ownBlock = some k) : B ≤ k := by
  rcases h.2 with ⟨rfl, _⟩ | ⟨g, cap, cur, rfl, hb, _⟩
  · simp [Value.ownBlock] at hk
  · have : g = k := by simpa [Value.ownBlock] using hk
    omega
theorem cV_set (V : List S26) (r : Nat) (h : r < V.length) (y : ByteArray) : (cV V).set (r * 2 + 1) (.string y) = cV (V.set r ⟨V[r].f0, y⟩) := by
  induction V generalizing r with
  | nil => simp at h
  | cons x V ih =>
    cases r with
    | zero => rfl
    | succ r =>
      rw [cV_cons, show (r + 1) * 2 + 1 = r * 2 + 1 + 1 + 1 from by omega, List.set_cons_succ, List.set_cons_succ, ih r (by simpa using h)]
      simp only [List.getElem_cons_succ, List.set_cons_succ, cV_cons]
theorem cV_at (V : List S26) (r : Nat) (h : r < V.length) : (cV V)[r * 2 + 1]? = some (.string V[r].f1) := by
  induction V generalizing r with
  | nil => simp at h
  | cons x V ih =>
    cases r with
    | zero => rfl
    | succ r =>
      rw [cV_cons, show (r + 1) * 2 + 1 = r * 2 + 1 + 1 + 1 from by omega, List.getElem?_cons_succ, List.getElem?_cons_succ]
      exact ih r (by simpa using h)
/-- where the value of a variable lies; another value -/
theorem own_at {w : World} {B : Nat} {vv : Value} {V : List S26} (ho : w.ownsRow B 26 2 vv (pv V).length (cV V)) (r : Nat) (hr : r < V.length) (y : ByteArray) :
    ∃ b c, vv = .slice (some ⟨b, 0, none⟩) V.length c ∧ B ≤ b ∧ w.cell? ⟨b, r * 2 + 1, none⟩ = some (.string V[r].f1) ∧ w.frozen? ⟨b, r * 2 + 1, none⟩ = false ∧ (w.setCell ⟨b, r * 2 + 1, none⟩ (.string y)).ownsRow B 26 2 vv (pv (V.set r ⟨V[r].f0, y⟩)).length (cV (V.set r ⟨V[r].f0, y⟩)) ∧ w.grownBy (w.setCell ⟨b, r * 2 + 1, none⟩ (.string y)) vv.ownBlock := by
  have hl := pv_len V
  rcases ho.2 with ⟨_, h0⟩ | ⟨b, cap, cur, rfl, hb, hh, hn, hm, hs, ht⟩
  · omega
  · refine ⟨b, cap, by rw [hl], hb, ?_, blk_frozen hh _, ⟨?_, .inr ⟨b, cap, cur.setIfInBounds (r * 2 + 1) (.string y), ?_, hb, blk_put hh _ _ rfl, ?_, hm, by rw [Array.size_setIfInBounds]; exact hs, ?_⟩⟩, ?_⟩
    · rw [blk_cell hh, ← cV_at V r hr, ← ht, List.getElem?_take_of_lt (by omega), Array.getElem?_toList]
    · rw [cV_len, pv_len]
    · rw [pv_len, pv_len, List.length_set]
    · rw [pv_len, List.length_set]; omega
    · rw [Array.toList_setIfInBounds, List.take_set, pv_len, List.length_set, ← hl, ht, cV_set V r hr]
    · exact ⟨rfl, rfl, rfl, by simp [World.setCell], fun k hk hne => Below.heap_setCell _ _ _ k (fun e => hne (by rw [e]; rfl))⟩
theorem ins_at {B : Nat} {w2 : World} {g : Nat} {V : List S26} {A : List ByteArray} {st : Int} {vv va : Value} {x y : ByteArray} {r : Nat} (ht : Tab B w2 g (pv V) A st vv va) (hB : B ≤ w2.heap.size) (hr : r ≤ V.length) (hl : V.length ≤ 1000) :
    Calls Try.prog 39 #[vv, .int .i64 r, .slice (some ⟨w2.heap.size, 0, none⟩) 1 1] (w2.alloc (.cells #[.string x, .string y] 26 (0, 0))) fun e w3 => ∃ v', e = .returned v' ∧ (∃ A2 n2 c2, v' = .slice A2 n2 c2) ∧ Tab B (w3.setCell ⟨g, 0, none⟩ v') g (pv (V.take r ++ ⟨x, y⟩ :: V.drop r)) A st v' va ∧ w3.cell? ⟨g, 0, none⟩ = some vv ∧ w3.frozen? ⟨g, 0, none⟩ = false ∧ Frm (fun k => B ≤ k) w2 (w3.setCell ⟨g, 0, none⟩ v') := by
  have hal : Below w2.heap.size w2 (w2.alloc (.cells #[.string x, .string y] 26 (0, 0))) := below_alloc (Below.refl _ _) _
  have ht1 := ht.frm hal
  have hp := pv_len V
  have ho : (w2.alloc (.cells #[.string x, .string y] 26 (0, 0))).ownsRow B 26 2 vv V.length (cV V) := by rw [← hp]; exact ht1.ov
  refine (insert_any B _ V.length r vv (cV V) x y w2.heap.size (Nat.le_trans hB hal.size) ho (cV_one V) (blk_new _ _) (by have := own_ne_new ht.ov 0; exact this) hr hl).mono ?_
  rintro e w3 ⟨v', rfl, k1, k2, k2at⟩
  have k1' : w3.ownsRow B 26 2 v' (pv (V.take r ++ ⟨x, y⟩ :: V.drop r)).length (cellsV (pv (V.take r ++ ⟨x, y⟩ :: V.drop r))) := by
    have e1 : (pv (V.take r ++ ⟨x, y⟩ :: V.drop r)).length = V.length + 1 := by rw [pv_len, List.length_append, List.length_cons, List.length_take, List.length_drop]; omega
    have e2 : cellsV (pv (V.take r ++ ⟨x, y⟩ :: V.drop r)) = (cV V).take (r * 2) ++ [.string x, .string y] ++ (cV V).drop (r * 2) := by
      show cV _ = _
      rw [cV_append, cV_cons, cV_take, cV_drop, List.append_assoc]; rfl
    rw [e1, e2]; exact k1
  have k3 := Tab.setRow ht1 k2 k1'
  refine ⟨v', rfl, (by obtain ⟨A2, c2, e⟩ := own_slice k1; exact ⟨_, _, _, e⟩), k3.1, (blk_cell k3.2 0).trans rfl, blk_frozen k3.2 _, ?_⟩
  refine (((Frm.of_below hal).grown k2 (fun k hk _ => own_ge ho k hk)) : Frm (fun k => B ≤ k) w2 w3).setCell _ _ (fun _ => ht.eg)
set_option maxHeartbeats 4000000 in
set_option maxRecDepth 100000 in
theorem set_calls (B : Nat) (w : World) (g : Nat) (V : List S26) (A : List ByteArray) (st : Int) (x y : ByteArray) (ht : TB B w g V A st) (hB : B ≤ w.heap.size) (hV : Ord V) (hl : V.length ≤ 64) :
    Calls Try.prog 15 #[.pointer (some ⟨g, 0, none⟩), .string x, .string y] w fun e w' => e = .returned (.int .i64 (setE V x y)) ∧ Frm (fun k => B ≤ k) w w' ∧ TB B w' g (setT V x y) A st := by
  obtain ⟨vv, va, ht⟩ := ht
  obtain ⟨K, hK⟩ := name_w x
  have HN : Hid (word_Name.f K x = some (nameB x)) := Lib.hid (hK K (Nat.le_refl _))
  clear hK
  by_cases hn : nameB x = true
  · rw [hn] at HN
    by_cases hy : 4096 < y.size
    · have e : setE V x y = 2 := by unfold setE; rw [if_pos hn, if_pos hy]
      have HE : Hid (setT V x y = V) := Lib.hid (by unfold setT; rw [e]; rfl)
      have HT := Lib.hid ht
      rw [e]
      have c0 : decide ((4096 : Int) < (y.size : Int)) = true := decide_eq_true (by omega)
      clear e hn hy ht hV hl hB
      go_enter Try.func15, Try.ntmps15
      go_wp2_with (go_at_call 38; (with_reducible refine (word_Name.calls K x true _ HN.out).mono ?_); rintro e w1 ⟨rfl, hb⟩; obtain ⟨m, rfl⟩ := hb.out; have HB1 : Hid (Below w.heap.size w (w.drewN m)) := Lib.hid ⟨rfl, rfl, rfl, Nat.le_refl _, fun _ _ => rfl⟩)
      go_ret
      exact ⟨rfl, Frm.of_below HB1.out, by rw [HE.out]; exact ⟨vv, va, HT.out.frm HB1.out⟩⟩
    · have c0 : decide ((4096 : Int) < (y.size : Int)) = false := decide_eq_false (by omega)
      obtain ⟨r, b, hat⟩ := at_ex V x (by omega) hV
      obtain ⟨A1, c1, rfl⟩ := own_slice ht.ov
      rw [pv_len] at ht
      cases b with
      | true =>
        have e : setE V x y = 0 := by unfold setE; rw [if_pos hn, if_neg hy, if_neg (fun h => by have := hat.has; rw [h.1] at this; cases this)]
        obtain ⟨hr, he, hset, k1, k2⟩ := hat.old (y := y) hV
        have HE : Hid (setT V x y = V.set r ⟨V[r].f0, y⟩) := Lib.hid (by unfold setT; rw [if_pos e, hset])
        rw [e]
        have HT := Lib.hid ht
        have HBB := Lib.hid hB
        have HP := Lib.hid hat
        have HV := Lib.hid hV
        have HL := Lib.hid hl
        obtain ⟨b', c', hvv, hb', k3⟩ := own_at ht.ov r hr y
        injection hvv with hvv
        subst hvv
        have HR : Hid (r < V.length) := Lib.hid hr
        have j0 : decide (0 ≤ (r : Int)) = true := decide_eq_true (by omega)
        have j1 : decide ((r : Int) < (V.length : Int)) = true := decide_eq_true (by omega)
        have HBL : Hid (B ≤ b') := Lib.hid hb'
        clear k1 k2 k3 e hn hy ht hV hl hB hat he hset hb'
        go_enter Try.func15, Try.ntmps15
        go_wp2_with (first | (go_at_call 38; (with_reducible refine (word_Name.calls K x true _ HN.out).mono ?_); rintro e w1 ⟨rfl, hb⟩; have HB1 : Hid (Below w.heap.size w w1) := Lib.hid (by obtain ⟨m, rfl⟩ := hb.out; exact ⟨rfl, rfl, rfl, Nat.le_refl _, fun _ _ => rfl⟩); clear hb) | (go_at_call 32; (with_reducible refine (place_at (HT.out.frm HB1.out) (Nat.le_trans HL.out (by decide)) HV.out HP.out).mono ?_); rintro e w2 ⟨rfl, hb⟩; have HB2 : Hid (Below w.heap.size w w2) := Lib.hid (below_step HB1.out hb); clear hb; have HT2 := Lib.hid (HT.out.frm HB2.out); have d0 : w2.cell? ⟨g, 0, none⟩ = some (.slice (some ⟨b', 0, none⟩) V.length c1) := (blk_cell HT2.out.bt 0).trans rfl; obtain ⟨_, _, e0, _, d1, f1, o1, g1⟩ := own_at HT2.out.ov r HR.out y; cases e0; have O1 := Lib.hid o1; have G1 := Lib.hid g1; clear o1 g1))
        go_ret
        refine ⟨rfl, (Frm.of_below HB2.out).grown G1.out (fun k hk _ => by injection hk with hk; subst hk; exact HBL.out), ?_⟩
        rw [HE.out]
        exact ⟨_, va, Tab.keepRow HT2.out G1.out O1.out⟩
      | false =>
        have hnew := hat.new (y := y)
        have hh := hat.has
        by_cases h64 : 64 ≤ V.length
        · have e : setE V x y = 2 := by unfold setE; rw [if_pos hn, if_neg hy, if_pos ⟨hh, h64⟩]
          have HE : Hid (setT V x y = V) := Lib.hid (by unfold setT; rw [e]; rfl)
          rw [e]
          have HT := Lib.hid ht
          have HP := Lib.hid hat
          have HV := Lib.hid hV
          have HL := Lib.hid hl
          have j2 : decide ((64 : Int) ≤ (V.length : Int)) = true := decide_eq_true (by omega)
          clear e hn hy ht hV hl hB hat hnew hh h64
          go_enter Try.func15, Try.ntmps15
          go_wp2_with (first | (go_at_call 38; (with_reducible refine (word_Name.calls K x true _ HN.out).mono ?_); rintro e w1 ⟨rfl, hb⟩; have HB1 : Hid (Below w.heap.size w w1) := Lib.hid (by obtain ⟨m, rfl⟩ := hb.out; exact ⟨rfl, rfl, rfl, Nat.le_refl _, fun _ _ => rfl⟩); clear hb) | (go_at_call 32; (with_reducible refine (place_at (HT.out.frm HB1.out) (Nat.le_trans HL.out (by decide)) HV.out HP.out).mono ?_); rintro e w2 ⟨rfl, hb⟩; have HB2 : Hid (Below w.heap.size w w2) := Lib.hid (below_step HB1.out hb); clear hb; have HT2 := Lib.hid (HT.out.frm HB2.out); have d0 : w2.cell? ⟨g, 0, none⟩ = some (.slice A1 V.length c1) := (blk_cell HT2.out.bt 0).trans rfl))
          go_ret
          exact ⟨rfl, Frm.of_below HB2.out, by rw [HE.out]; exact ⟨_, va, HT2.out⟩⟩
        · have e : setE V x y = 0 := by unfold setE; rw [if_pos hn, if_neg hy, if_neg (fun h => h64 h.2)]
          have HE : Hid (setT V x y = V.take r ++ ⟨x, y⟩ :: V.drop r) := Lib.hid (by unfold setT; rw [if_pos e, hnew])
          rw [e]
          have HT := Lib.hid ht
          have HP := Lib.hid hat
          have HV := Lib.hid hV
          have HL := Lib.hid hl
          have HBB := Lib.hid hB
          have HRL := Lib.hid hat.le
          have j2 : decide ((64 : Int) ≤ (V.length : Int)) = false := decide_eq_false (by omega)
          clear e hn hy ht hV hl hB hat hnew hh h64
          go_enter Try.func15, Try.ntmps15
          go_wp2_with (first | (go_at_call 38; (with_reducible refine (word_Name.calls K x true _ HN.out).mono ?_); rintro e w1 ⟨rfl, hb⟩; have HB1 : Hid (Below w.heap.size w w1) := Lib.hid (by obtain ⟨m, rfl⟩ := hb.out; exact ⟨rfl, rfl, rfl, Nat.le_refl _, fun _ _ => rfl⟩); clear hb) | (go_at_call 32; (with_reducible refine (place_at (HT.out.frm HB1.out) (Nat.le_trans HL.out (by decide)) HV.out HP.out).mono ?_); rintro e w2 ⟨rfl, hb⟩; have HB2 : Hid (Below w.heap.size w w2) := Lib.hid (below_step HB1.out hb); clear hb; have HT2 := Lib.hid (HT.out.frm HB2.out); have d0 : w2.cell? ⟨g, 0, none⟩ = some (.slice A1 V.length c1) := (blk_cell HT2.out.bt 0).trans rfl) | (go_at_call 39; (with_reducible refine (ins_at HT2.out (Nat.le_trans HBB.out HB2.out.size) HRL.out (Nat.le_trans HL.out (by decide))).mono ?_); rintro e w3 ⟨v', rfl, ⟨A2, n2, c2, rfl⟩, ht3, d3, f3, hf3⟩; have HT3 := Lib.hid ht3; have HF3 := Lib.hid hf3; clear ht3 hf3))
          go_ret
          exact ⟨rfl, (Frm.of_below HB2.out).trans HF3.out (fun _ _ h => h), by rw [HE.out]; exact ⟨_, va, HT3.out⟩⟩
  · have hnf : nameB x = false := by simpa using hn
    rw [hnf] at HN
    have e : setE V x y = 70 := by unfold setE; rw [if_neg hn]
    have HE : Hid (setT V x y = V) := Lib.hid (by unfold setT; rw [e]; rfl)
    have HT := Lib.hid ht
    rw [e]
    clear e hn ht hV hl hB hnf
    go_enter Try.func15, Try.ntmps15
    go_wp2_with (go_at_call 38; (with_reducible refine (word_Name.calls K x false _ HN.out).mono ?_); rintro e w1 ⟨rfl, hb⟩; obtain ⟨m, rfl⟩ := hb.out; have HB1 : Hid (Below w.heap.size w (w.drewN m)) := Lib.hid ⟨rfl, rfl, rfl, Nat.le_refl _, fun _ _ => rfl⟩)
    go_ret
    exact ⟨rfl, Frm.of_below HB1.out, by rw [HE.out]; exact ⟨vv, va, HT.out.frm HB1.out⟩⟩
end Go.Proofs.Ytgcbipflmhbpcaa.PV
set_option linter.unusedVariables false
set_option linter.unusedSimpArgs false
namespace Go.Proofs.Ytgcbipflmhbpcaa.PV
open Go Go.RowKit Go.Proofs.Ytgcbipflmhbpcaa Go.Proofs.YtgcbipflmhbpcaaW.PrintWords Go.Proofs.YtgcbipflmhbpcaaW.PrintLast Go.Proofs.YtgcbipflmhbpcaaW.PrintMore
set_option maxHeartbeats 2000000 in
set_option maxRecDepth 100000 in
theorem copyV_any (A : Option Addr) (n c : Nat) (cs : List Value) (w : World) (hn : cs.length = n * 2) (h : Lies w A cs) (h1 : ∀ u ∈ cs, u.oneCell' = true) (hl : n ≤ 1000000000000) :
    Calls Try.prog 43 #[.slice A n c] w fun e w' => ∃ v, e = .returned v ∧ w'.ownsRow w.heap.size 26 2 v n cs ∧ Below w.heap.size w w' := by
  obtain ⟨i0, hi, hz0, hz1, hz2⟩ := info_split infoVar
  cases A with
  | none =>
    have h0 : cs = [] := by
      rcases h with h | ⟨ad, e, _⟩
      · exact h
      · cases e
    subst h0
    have hn0 : n = 0 := by simp at hn; omega
    subst hn0
    go_enter Try.func43, Try.ntmps43
    go_wp2
    go_ret
    exact ⟨_, rfl, World.ownsRow_nil _ _ _ _, Below.refl _ _⟩
  | some ad =>
    have hc : ∀ j u, cs[j]? = some u → w.cell? (ad.add j) = some u := by
      rcases h with rfl | ⟨a, e, hc⟩
      · intro j u hj; simp at hj
      · injection e with e; subst e; exact hc
    have HC := Lib.hid hc
    have H1 := Lib.hid h1
    clear hc h1
    go_enter Try.func43, Try.ntmps43
    go_wp2_with (at_builtin; refine wpList_append_own _ rfl _ _ 22 rfl w.heap.size 26 i0 _ 2 32 Try.underlying22 hi hz0 hz1 hz2 rfl (by decide) _ _ _ rfl (World.ownsRow_nil _ _ _ _) ad n c cs rfl ?qc1 ?qc2 ?qc3 ?qc4 ?qc5 ?qc6 ?_)
    case qc1 => omega
    case qc2 => exact fun j u hj => HC.out j u hj
    case qc3 => exact H1.out
    case qc4 => unfold maxLen; omega
    case qc5 => omega
    case qc6 => simp
    intro v' w1 hown hgrow hnil
    go_wp2
    go_ret
    refine ⟨v', rfl, by simpa using hown, ?_⟩
    exact (Below.refl _ w).grown hgrow (by simp) (by intro k hk; simp [Value.ownBlock] at hk)
theorem own_adr {W : World} {base n c sz : Nat} {e : TypeId} {A : Option Addr} {xs : List Value} (h : W.ownsRow base e sz (.slice A n c) n xs) : ∀ ad, A = some ad → base ≤ ad.block := by
  intro ad ea
  subst ea
  rcases h.2 with ⟨h1, _⟩ | ⟨g, cap, cur, h1, h2, _⟩
  · cases h1
  · injection h1 with h1; injection h1 with h1; subst h1; exact h2
set_option maxHeartbeats 2000000 in
set_option maxRecDepth 100000 in
theorem vars_calls (B : Nat) (w : World) (g : Nat) (V : List S26) (A : List ByteArray) (st : Int) (ht : TB B w g V A st) (hl : V.length ≤ 1000) :
    Calls Try.prog 22 #[.pointer (some ⟨g, 0, none⟩)] w fun e w' => ∃ A2 c2, e = .returned (.slice A2 V.length c2) ∧ (∀ ad, A2 = some ad → w.heap.size ≤ ad.block) ∧ V.length ≤ c2 ∧ Kd.C k26 w' A2 V.length V ∧ Below w.heap.size w w' := by
  obtain ⟨vv, va, ht⟩ := ht
  obtain ⟨A1, c1, rfl⟩ := own_slice ht.ov
  have d0 : w.cell? ⟨g, 0, none⟩ = some (.slice A1 (pv V).length c1) := (blk_cell ht.bt 0).trans rfl
  have HX := Lib.hid (Lies.of_own ht.ov)
  have HP : Hid ((cellsV (pv V)).length = (pv V).length * 2) := Lib.hid (by have := cV_len V; rw [pv_len]; exact this)
  have H1 : Hid (∀ u ∈ cellsV (pv V), u.oneCell' = true) := Lib.hid (cV_one V)
  have HL : Hid ((pv V).length ≤ 1000000000000) := Lib.hid (by rw [pv_len]; omega)
  clear ht hl
  go_enter Try.func22, Try.ntmps22
  go_wp2_with (go_at_call 43; (with_reducible refine (copyV_any A1 (pv V).length c1 (cellsV (pv V)) _ HP.out HX.out H1.out HL.out).mono ?_); rintro e w1 ⟨v, rfl, ho, hb⟩; obtain ⟨A2, c2, rfl⟩ := own_slice ho; have HO := Lib.hid ho; have HB := Lib.hid hb; clear ho hb)
  go_ret
  exact ⟨A2, c2, by rw [pv_len]; rfl, own_adr HO.out, by have := own_cap HO.out; rwa [pv_len] at this, own_C HO.out, HB.out⟩
set_option maxHeartbeats 2000000 in
set_option maxRecDepth 100000 in
theorem args_calls (B : Nat) (w : World) (g : Nat) (V : List S26) (A : List ByteArray) (st : Int) (ht : TB B w g V A st) (hl : A.length ≤ 1000) :
    Calls Try.prog 23 #[.pointer (some ⟨g, 0, none⟩)] w fun e w' => ∃ A2 c2, e = .returned (.slice A2 A.length c2) ∧ (∀ ad, A2 = some ad → w.heap.size ≤ ad.block) ∧ A.length ≤ c2 ∧ Kd.C Kd.string w' A2 A.length A ∧ Below w.heap.size w w' := by
  obtain ⟨vv, va, ht⟩ := ht
  obtain ⟨A1, c1, rfl⟩ := own_slice ht.oa
  have d0 : w.cell? ⟨g, 1, none⟩ = some (.slice A1 A.length c1) := (blk_cell ht.bt 1).trans rfl
  have HX := Lib.hid (Lies.of_own ht.oa)
  have HP : Hid ((cellsS A).length = A.length) := Lib.hid (cellsS_len A)
  have H1 := Lib.hid (cellsS_one A)
  have HL : Hid (A.length ≤ 1000000000000) := Lib.hid (by omega)
  clear ht hl
  go_enter Try.func23, Try.ntmps23
  go_wp2_with (go_at_call 42; (with_reducible refine (copyS_any A1 A.length c1 (cellsS A) _ HP.out HX.out H1.out HL.out).mono ?_); rintro e w1 ⟨v, rfl, ho, hb⟩; obtain ⟨A2, c2, rfl⟩ := own_slice ho; have HO := Lib.hid ho; have HB := Lib.hid hb; clear ho hb)
  go_ret
  refine ⟨A2, c2, rfl, own_adr HO.out, own_cap HO.out, ?_, HB.out⟩
  obtain ⟨A3, c3, e, _, hr⟩ := own_reads_of_le (enc := Value.string) (d := ByteArray.empty) HO.out
  cases e
  exact Kd.C_of_reads hr
end Go.Proofs.Ytgcbipflmhbpcaa.PV
set_option linter.unusedVariables false
set_option linter.unusedSimpArgs false
namespace Go.Proofs.Ytgcbipflmhbpcaa.PV
open Go Go.RowKit Go.Proofs.Ytgcbipflmhbpcaa Go.Proofs.YtgcbipflmhbpcaaW.PrintWords Go.Proofs.YtgcbipflmhbpcaaW.PrintLast Go.Proofs.YtgcbipflmhbpcaaW.PrintMore
theorem newV_ok : ∀ (l V : List S26), Ord V → V.length ≤ 64 → (newV V l).2 = 0 → Ord (newV V l).1 ∧ (newV V l).1.length ≤ 64
  | [], V, h, hl, _ => ⟨h, hl⟩
  | v :: l, V, h, hl, he => by
    unfold newV at he ⊢
    by_cases h0 : setE V v.f0 v.f1 = 0
    · rw [if_pos h0] at he ⊢
      exact newV_ok l _ (setV_ord h) (setE_len h hl h0) he
    · rw [if_neg h0] at he; exact absurd he h0
theorem newV_step (l V : List S26) (i : Nat) (h : i < l.length) : newV V (l.drop i) = if setE V l[i].f0 l[i].f1 = 0 then newV (setV V l[i].f0 l[i].f1) (l.drop (i + 1)) else ([], setE V l[i].f0 l[i].f1) := by
  rw [List.drop_eq_getElem_cons h]; rfl
theorem TB.frm {B : Nat} {w w' : World} {g : Nat} {V : List S26} {A : List ByteArray} {st : Int} (h : TB B w g V A st) (hb : Below w.heap.size w w') : TB B w' g V A st := by
  obtain ⟨vv, va, h⟩ := h
  exact ⟨vv, va, h.frm hb⟩
theorem setArgs_calls (B : Nat) (w : World) (g : Nat) (V : List S26) (A l : List ByteArray) (st : Int) (P : Option Addr) (c : Nat) (ht : TB B w g V A st) (hB : B ≤ w.heap.size) (hl : Kd.string.C w P l.length l) :
    Calls Try.prog 19 #[.pointer (some ⟨g, 0, none⟩), .slice P l.length c] w fun e w' => e = .returned (.int .i64 (argsE l)) ∧ Frm (fun k => B ≤ k) w w' ∧ TB B w' g V (if argsE l = 0 then l else A) st := by
  obtain ⟨vv, va, ht⟩ := ht
  refine (setArgs_any B w g (pv V) A l st vv va P c ht hB hl).mono ?_
  rintro e w' ⟨rfl, hf, va', A', ht', h1, h2⟩
  refine ⟨rfl, hf.mono (fun i _ h => by rw [h]; exact ht.eg), vv, va', ?_⟩
  by_cases h0 : argsE l = 0
  · rw [if_pos h0, ← h1 h0]; exact ht'
  · rw [if_neg h0, ← h2 h0]; exact ht'
set_option maxHeartbeats 4000000 in
set_option maxRecDepth 100000 in
theorem new_calls (w : World) (l : List S26) (A1 : Option Addr) (c1 : Nat) (a : List ByteArray) (P : Option Addr) (c : Nat) (hl : Kd.C k26 w A1 l.length l) (ha : Kd.string.C w P a.length a) :
    Calls Try.prog 8 #[.slice A1 l.length c1, .slice P a.length c] w fun e w' => Below w.heap.size w w' ∧ (((newV [] l).2 = 0 ∧ argsE a = 0 ∧ ∃ g, e = .returned (.tuple #[.pointer (some ⟨g, 0, none⟩), .int .i64 0]) ∧ TB w.heap.size w' g (newV [] l).1 a 0) ∨ ∃ E, E ≠ 0 ∧ (newR [] l a).2.2.2 = E ∧ e = .returned (.tuple #[.pointer none, .int .i64 E])) := by
  have hu57 := Try.underlying57
  have HL := Lib.hid hl
  have HA := Lib.hid ha
  have HM : Hid (l.length ≤ 9223372036854775807) := Lib.hid hl.2.1
  clear hl ha
  go_enter Try.func8, Try.ntmps8
  go_wp2_with (first | ((with_reducible refine gate_dst (N := 12) rfl ?_); refine box_event ?hg (N := 12) ?hd (cs := #[.slice none 0 0, .slice none 0 0, .int .i64 0]) (t := 57) ?hr ?_; (case hd => rfl); (case hg => rfl); (case hr => first | (go_simp; done) | (go_simp; rfl)); intro g hg w1 hbox hb; have HB1 := Lib.hid hb; have E1 : Hid (w.heap.size ≤ g) := Lib.hid (by rw [hg]; exact Nat.le_refl _); have HT1 : Hid (TB w.heap.size w1 g [] [] 0) := Lib.hid ⟨_, _, hbox, E1.out, World.ownsRow_nil _ _ _ _, World.ownsRow_nil _ _ _ _⟩; clear hbox hb hg))
  go_loopw [15] (fun s15 wr => ∃ (i : Nat) (V : List S26), i ≤ l.length ∧ s15 = .int .i64 i ∧ Hid (TB w.heap.size wr g V [] 0) ∧ Hid (Ord V) ∧ Hid (V.length ≤ 64) ∧ Hid (newV [] l = newV V (l.drop i)) ∧ Hid (Below w.heap.size w wr)) (fun s15 _ => l.length - (intOf s15).toNat)
  case atStart => exact ⟨0, [], Nat.zero_le _, rfl, HT1, Lib.hid ord_nil, Lib.hid (by decide), Lib.hid rfl, HB1⟩
  case round =>
    obtain ⟨i, V, hi, rfl, HT, HO, HV, HN, HB⟩ := hrel
    clear HT1 HB1
    by_cases hlt : i < l.length
    · obtain ⟨ad, ea, hx0, hx1⟩ := at_T26 (Kd.C_below HL.out HB.out) (i : Int) (by omega) (by omega)
      cases ea
      rw [rdV l i hlt, Int.toNat_natCast] at hx0 hx1
      have hst := newV_step l V i hlt
      generalize hp : l[i].f0 = p at hx0 hst
      generalize hq : l[i].f1 = q at hx1 hst
      have i0 : decide (0 ≤ (i : Int)) = true := decide_eq_true (by omega)
      have i1 : decide ((i : Int) < (l.length : Int)) = true := decide_eq_true (by omega)
      have HWR : Hid (wrap64 ((i : Int) + 1) = ((i + 1 : Nat) : Int)) := Lib.hid (by have := HM.out; unfold wrap64; omega)
      have HLT := Lib.hid hlt
      have HST := Lib.hid hst
      have HSet := Lib.hid (fun (W : World) (h : TB w.heap.size W g V [] 0) (hB : w.heap.size ≤ W.heap.size) => set_calls w.heap.size W g V [] 0 p q h hB HO.out HV.out)
      by_cases he : setE V p q = 0
      · have HE := Lib.hid he
        rw [he] at HSet
        clear hi hp hq hst hlt he
        go_wp2_with (first | (go_at_call 15; (refine (HSet.out _ (TB.frm HT.out (below_alloc (Below.refl _ _) _)) (Nat.le_trans HB.out.size (below_alloc (Below.refl _ _) _ : Below wr.heap.size wr _).size)).mono ?_); rintro e w2 ⟨rfl, hf, ht⟩; have HT2 := Lib.hid ht; have HB2 : Hid (Below w.heap.size w w2) := Lib.hid (HB.out.trans (((Frm.of_below (below_alloc (Below.refl _ _) _) : Frm (fun k => w.heap.size ≤ k) wr _).trans hf (fun _ _ h => h)).below HB.out.size (fun i hi h => by omega))); clear hf ht))
        go_roundw
        case rel =>
          refine ⟨i + 1, setV V p q, HLT.out, by rw [HWR.out], ?_, Lib.hid (setV_ord HO.out), Lib.hid (setE_len HO.out HV.out HE.out), Lib.hid (by rw [HN.out, HST.out, if_pos HE.out]), HB2⟩
          have := HT2.out
          unfold setT at this
          rw [if_pos HE.out] at this
          exact Lib.hid this
        case measure => exact meas_ _ _ HWR.out HLT.out
      · have HE := Lib.hid he
        generalize hE : setE V p q = E at HSet HE he hst
        have HF : Hid ((newR [] l a).2.2.2 = E) := Lib.hid (by
          have : newV [] l = ([], E) := by rw [HN.out, hst, if_neg HE.out]
          unfold newR; rw [this, if_neg HE.out])
        have b0 : (E == 0) = false := beq_eq_false_iff_ne.2 he
        clear hE HST hi hp hq hst hlt
        go_wp2_with (first | (go_at_call 15; (refine (HSet.out _ (TB.frm HT.out (below_alloc (Below.refl _ _) _)) (Nat.le_trans HB.out.size (below_alloc (Below.refl _ _) _ : Below wr.heap.size wr _).size)).mono ?_); rintro e w2 ⟨rfl, hf, ht⟩; have HB2 : Hid (Below w.heap.size w w2) := Lib.hid (HB.out.trans (((Frm.of_below (below_alloc (Below.refl _ _) _) : Frm (fun k => w.heap.size ≤ k) wr _).trans hf (fun _ _ h => h)).below HB.out.size (fun i hi h => by omega))); clear hf ht))
        go_ret2
        exact ⟨HB2.out, .inr ⟨E, HE.out, HF.out, rfl⟩⟩
    · obtain rfl : i = l.length := by omega
      have hN : newV [] l = (V, 0) := by rw [HN.out, List.drop_of_length_le (Nat.le_refl _)]; rfl
      have HNN := Lib.hid hN
      by_cases he : argsE a = 0
      · have HE := Lib.hid he
        have HSA := Lib.hid (setArgs_calls w.heap.size wr g V [] a 0 P c HT.out HB.out.size (Kd.C_below HA.out HB.out))
        rw [he] at HSA
        clear hi hN hlt he
        go_wp2_with (first | (go_at_call 19; (refine HSA.out.mono ?_); rintro e w2 ⟨rfl, hf, ht⟩; have HT2 := Lib.hid ht; have HB2 : Hid (Below w.heap.size w w2) := Lib.hid (HB.out.trans (hf.below HB.out.size (fun i hi h => by omega))); clear hf ht))
        go_ret2
        refine ⟨HB2.out, .inl ⟨by rw [HNN.out], HE.out, g, rfl, ?_⟩⟩
        rw [HNN.out]
        exact HT2.out
      · have HE := Lib.hid he
        have HSA := Lib.hid (setArgs_calls w.heap.size wr g V [] a 0 P c HT.out HB.out.size (Kd.C_below HA.out HB.out))
        have HF : Hid ((newR [] l a).2.2.2 = argsE a) := Lib.hid (by unfold newR; rw [hN, if_pos rfl, if_neg he])
        generalize argsE a = E at HSA HE he HF
        have b0 : (E == 0) = false := beq_eq_false_iff_ne.2 he
        clear hi hN hlt
        go_wp2_with (first | (go_at_call 19; (refine HSA.out.mono ?_); rintro e w2 ⟨rfl, hf, ht⟩; have HB2 : Hid (Below w.heap.size w w2) := Lib.hid (HB.out.trans (hf.below HB.out.size (fun i hi h => by omega))); clear hf ht))
        go_ret2
        exact ⟨HB2.out, .inr ⟨E, HE.out, HF.out, rfl⟩⟩
end Go.Proofs.Ytgcbipflmhbpcaa.PV
set_option linter.unusedVariables false
set_option linter.unusedSimpArgs false
namespace Go.Proofs.Ytgcbipflmhbpcaa.PV
open Go Go.RowKit Go.Proofs.Ytgcbipflmhbpcaa Go.Proofs.YtgcbipflmhbpcaaW.PrintWords Go.Proofs.YtgcbipflmhbpcaaW.PrintLast Go.Proofs.YtgcbipflmhbpcaaW.PrintMore
def joinB (A : List ByteArray) : ByteArray := (strings_Join.f A ⟨#[32]⟩).getD ⟨#[]⟩
def numA (A : List ByteArray) (x : ByteArray) : ByteArray × Bool := if (decD x.data.toList).2 = 0 ∧ 1 ≤ (decD x.data.toList).1 ∧ (decD x.data.toList).1 ≤ A.length then (rdOf ByteArray.empty A ((decD x.data.toList).1 - 1), true) else (⟨#[]⟩, false)
/-- what a table tells -/
def getM (V : List S26) (A : List ByteArray) (st : Int) (x : ByteArray) : ByteArray × Bool :=
  if x.toList = [] then (⟨#[]⟩, false) else if x.toList = [35] then (textS A.length, true) else if x.toList = [63] then (textS st, true) else if x.toList = [64] ∨ x.toList = [42] then (joinB A, decide (0 < A.length)) else if dig (bt x 0) = true then numA A x else getV V x
set_option maxHeartbeats 4000000 in
set_option maxRecDepth 100000 in
theorem get_hash (B : Nat) (w : World) (g : Nat) (V : List S26) (A : List ByteArray) (st : Int) (x : ByteArray) (ht : TB B w g V A st) (hA : A.length ≤ 1000) (e0 : (x.toList == ([] : List UInt8)) = false) (e1 : (x.toList == ([35] : List UInt8)) = true) :
    Calls Try.prog 13 #[.pointer (some ⟨g, 0, none⟩), .string x] w fun e w' => e = .returned (.tuple #[.string (textS A.length), .bool true]) ∧ Below w.heap.size w w' := by
  obtain ⟨vv, va, ht⟩ := ht
  obtain ⟨A1, c1, rfl⟩ := own_slice ht.oa
  have d1 : w.cell? ⟨g, 1, none⟩ = some (.slice A1 A.length c1) := (blk_cell ht.bt 1).trans rfl
  have HX : Hid (num_Text.f (A.length : Int) = some (textS A.length)) := Lib.hid (by unfold num_Text.f; rw [if_pos ⟨by omega, by omega⟩])
  clear ht hA
  go_enter Try.func13, Try.ntmps13
  go_wp2_with (go_at_call 28; (with_reducible refine (num_Text.calls _ _ _ HX.out).mono ?_); rintro e w1 ⟨rfl, hb⟩; have HB1 := Lib.hid hb; clear hb)
  go_ret2
  exact ⟨rfl, HB1.out⟩
set_option maxHeartbeats 4000000 in
set_option maxRecDepth 100000 in
theorem get_ask (B : Nat) (w : World) (g : Nat) (V : List S26) (A : List ByteArray) (st : Int) (x : ByteArray) (ht : TB B w g V A st) (hst : -9223372036854775808 ≤ st ∧ st ≤ 9223372036854775807) (e0 : (x.toList == ([] : List UInt8)) = false) (e1 : (x.toList == ([35] : List UInt8)) = false) (e2 : (x.toList == ([63] : List UInt8)) = true) :
    Calls Try.prog 13 #[.pointer (some ⟨g, 0, none⟩), .string x] w fun e w' => e = .returned (.tuple #[.string (textS st), .bool true]) ∧ Below w.heap.size w w' := by
  obtain ⟨vv, va, ht⟩ := ht
  have d1 : w.cell? ⟨g, 2, none⟩ = some (.int .i64 st) := (blk_cell ht.bt 2).trans rfl
  have HX : Hid (num_Text.f st = some (textS st)) := Lib.hid (by unfold num_Text.f; rw [if_pos hst])
  clear ht hst
  go_enter Try.func13, Try.ntmps13
  go_wp2_with (go_at_call 28; (with_reducible refine (num_Text.calls _ _ _ HX.out).mono ?_); rintro e w1 ⟨rfl, hb⟩; have HB1 := Lib.hid hb; clear hb)
  go_ret2
  exact ⟨rfl, HB1.out⟩
set_option maxHeartbeats 4000000 in
set_option maxRecDepth 100000 in
theorem get_none (g : Nat) (w : World) (x : ByteArray) (e0 : (x.toList == ([] : List UInt8)) = true) :
    Calls Try.prog 13 #[.pointer (some ⟨g, 0, none⟩), .string x] w fun e w' => e = .returned (.tuple #[.string ⟨#[]⟩, .bool false]) ∧ Below w.heap.size w w' := by
  go_enter Try.func13, Try.ntmps13
  go_wp2
  go_ret2
  exact ⟨rfl, Below.refl _ _⟩
set_option maxHeartbeats 4000000 in
set_option maxRecDepth 100000 in
theorem get_name (B : Nat) (w : World) (g : Nat) (V : List S26) (A : List ByteArray) (st : Int) (x : ByteArray) (ht : TB B w g V A st) (hV : Ord V) (hl : V.length ≤ 64) (e0 : (x.toList == ([] : List UInt8)) = false) (e1 : (x.toList == ([35] : List UInt8)) = false) (e2 : (x.toList == ([63] : List UInt8)) = false) (e3 : (x.toList == ([64] : List UInt8)) = false) (e4 : (x.toList == ([42] : List UInt8)) = false) (hd : dig (bt x 0) = false) :
    Calls Try.prog 13 #[.pointer (some ⟨g, 0, none⟩), .string x] w fun e w' => e = .returned (.tuple #[.string (getV V x).1, .bool (getV V x).2]) ∧ Below w.heap.size w w' := by
  have hpos : 0 < x.size := Nat.pos_of_ne_zero (fun h => by have := beq_eq_false_iff_ne.1 e0; exact this (size_nil.2 h))
  have q22 : (0 < x.size) = True := eq_true hpos
  have qi22 : (0 < (x.size : Int)) = True := eq_true (by omega)
  have hx22 : ∀ h : 0 < x.size, ((x[0]'h).toNat : Int) = bt x 0 := bt_at x 0
  have HD : Hid (word_Digit.f (bt x 0) = some false) := Lib.hid (by rw [wd_, hd])
  obtain ⟨vv, va, ht⟩ := ht
  obtain ⟨r, b, hat⟩ := at_ex V x (by omega) hV
  obtain ⟨A1, c1, rfl⟩ := own_slice ht.ov
  rw [pv_len] at ht
  have HT := Lib.hid ht
  have HP := Lib.hid hat
  have HV := Lib.hid hV
  have HL := Lib.hid hl
  cases b with
  | false =>
    have HG := Lib.hid hat.none.2.1
    clear ht hat hV hl hd hpos
    go_enter Try.func13, Try.ntmps13
    go_wp2_with (first | (go_at_call 30; (with_reducible refine (word_Digit.calls (bt x 0) false _ HD.out).mono ?_); rintro e w1 ⟨rfl, hb⟩; have HB1 : Hid (Below w.heap.size w w1) := Lib.hid (by obtain ⟨m, rfl⟩ := hb.out; exact ⟨rfl, rfl, rfl, Nat.le_refl _, fun _ _ => rfl⟩); clear hb) | (go_at_call 32; (with_reducible refine (place_at (HT.out.frm HB1.out) (Nat.le_trans HL.out (by decide)) HV.out HP.out).mono ?_); rintro e w2 ⟨rfl, hb⟩; have HB2 : Hid (Below w.heap.size w w2) := Lib.hid (below_step HB1.out hb); clear hb))
    go_ret2
    exact ⟨by rw [HG.out]; rfl, HB2.out⟩
  | true =>
    obtain ⟨hr, k1, k2, k3, hg⟩ := hat.old (y := x) hV
    have HG := Lib.hid hg
    have HR := Lib.hid hr
    obtain ⟨b', c', hvv, hb', k4⟩ := own_at ht.ov r hr x
    injection hvv with hvv
    subst hvv
    have j0 : decide (0 ≤ (r : Int)) = true := decide_eq_true (by omega)
    have j1 : decide ((r : Int) < (V.length : Int)) = true := decide_eq_true (by omega)
    have HV1 : Hid (∃ z, z = V[r].f1) := Lib.hid ⟨_, rfl⟩
    clear k1 k2 k3 k4 hb' hg ht hat hV hl hd hpos
    go_enter Try.func13, Try.ntmps13
    go_wp2_with (first | (go_at_call 30; (with_reducible refine (word_Digit.calls (bt x 0) false _ HD.out).mono ?_); rintro e w1 ⟨rfl, hb⟩; have HB1 : Hid (Below w.heap.size w w1) := Lib.hid (by obtain ⟨m, rfl⟩ := hb.out; exact ⟨rfl, rfl, rfl, Nat.le_refl _, fun _ _ => rfl⟩); clear hb) | (go_at_call 32; (with_reducible refine (place_at (HT.out.frm HB1.out) (Nat.le_trans HL.out (by decide)) HV.out HP.out).mono ?_); rintro e w2 ⟨rfl, hb⟩; have HB2 : Hid (Below w.heap.size w w2) := Lib.hid (below_step HB1.out hb); clear hb; have HT2 := Lib.hid (HT.out.frm HB2.out); have d0 : w2.cell? ⟨g, 0, none⟩ = some (.slice (some ⟨b', 0, none⟩) V.length c1) := (blk_cell HT2.out.bt 0).trans rfl; obtain ⟨_, _, e5, _, d1, _⟩ := own_at HT2.out.ov r HR.out x; cases e5))
    go_ret2
    exact ⟨by rw [HG.out]; rfl, HB2.out⟩
set_option maxHeartbeats 4000000 in
set_option maxRecDepth 100000 in
theorem get_join (B : Nat) (w : World) (g : Nat) (V : List S26) (A : List ByteArray) (st : Int) (x : ByteArray) (ht : TB B w g V A st) (hj : strings_Join.f A ⟨#[32]⟩ = some (joinB A)) (bb : Bool) (hb0 : decide (0 < A.length) = bb) (e0 : (x.toList == ([] : List UInt8)) = false) (e1 : (x.toList == ([35] : List UInt8)) = false) (e2 : (x.toList == ([63] : List UInt8)) = false) (b3 b4 : Bool) (e3 : (x.toList == ([64] : List UInt8)) = b3) (e4 : (x.toList == ([42] : List UInt8)) = b4) (e34 : b3 = true ∨ b4 = true) :
    Calls Try.prog 13 #[.pointer (some ⟨g, 0, none⟩), .string x] w fun e w' => e = .returned (.tuple #[.string (joinB A), .bool bb]) ∧ Below w.heap.size w w' := by
  obtain ⟨vv, va, ht⟩ := ht
  generalize hr0 : joinB A = r at hj
  obtain ⟨A1, c1, rfl⟩ := own_slice ht.oa
  have HS := Lib.hid ht.str
  have HC := Lib.hid (own_cap ht.oa)
  have HT := Lib.hid ht
  have HR := Lib.hid hj
  have j0 : decide (0 < (A.length : Int)) = bb := by rw [← hb0]; exact decide_eq_decide.2 (by omega)
  have d1 : w.cell? ⟨g, 1, none⟩ = some (.slice A1 A.length c1) := (blk_cell ht.bt 1).trans rfl
  clear ht hj hr0
  cases b3 with
  | true =>
    clear e34 e4
    go_enter Try.func13, Try.ntmps13
    go_wp2
    refine start_ (n := 13) (S := (fun w' => w'.cell? ⟨g, 1, none⟩ = some (.slice A1 A.length c1))) (ds := []) #[false, false, false, false, false, false, false, false, false, false, false, false, false] (by kernel_rfl) rfl rfl d1 (fun hHeld => ?_)
    iterate 5 (first | ((first | refine takeS_ 0 (N := some 38) (v := ?_) (a' := ?_) rfl rfl (by decide +kernel) (fun _ _ _ h => h) (Or.inl ⟨by rfl, ?_⟩) hHeld ?_ ?_ | refine takeS_ 1 (N := some 39) (v := ?_) (a' := ?_) rfl rfl (by decide +kernel) (fun _ _ _ h => h) (Or.inl ⟨by rfl, ?_⟩) hHeld ?_ ?_ | refine takeS_ 2 (N := some 40) (v := ?_) (a' := ?_) rfl rfl (by decide +kernel) (fun _ _ _ h => h) (Or.inl ⟨by rfl, ?_⟩) hHeld ?_ ?_ | refine takeS_ 3 (N := some 41) (v := ?_) (a' := ?_) rfl rfl (by decide +kernel) (fun _ _ _ h => h) (Or.inl ⟨by rfl, ?_⟩) hHeld ?_ ?_ | refine takeS_ 5 (N := some 43) (v := ?_) (a' := ?_) rfl rfl (by decide +kernel) (fun _ _ _ h => h) (Or.inl ⟨by rfl, ?_⟩) hHeld ?_ ?_); rotate_left; (rintro w' (s0); go_simp; first | done | (with_reducible rfl) | rfl); rotate_left; (simp only [Act.put, List.setIfInBounds_toArray, List.set_cons_zero, List.set_cons_succ, i64_w, i32_w]; rfl)) | ((first | refine takeS_ 0 (N := some 38) (v := undef) (a' := ?_) rfl rfl (by decide +kernel) (fun _ _ _ h => h) (Or.inr ⟨by rfl, rfl⟩) hHeld ?_ ?_ | refine takeS_ 1 (N := some 39) (v := undef) (a' := ?_) rfl rfl (by decide +kernel) (fun _ _ _ h => h) (Or.inr ⟨by rfl, rfl⟩) hHeld ?_ ?_ | refine takeS_ 2 (N := some 40) (v := undef) (a' := ?_) rfl rfl (by decide +kernel) (fun _ _ _ h => h) (Or.inr ⟨by rfl, rfl⟩) hHeld ?_ ?_ | refine takeS_ 3 (N := some 41) (v := undef) (a' := ?_) rfl rfl (by decide +kernel) (fun _ _ _ h => h) (Or.inr ⟨by rfl, rfl⟩) hHeld ?_ ?_ | refine takeS_ 5 (N := some 43) (v := undef) (a' := ?_) rfl rfl (by decide +kernel) (fun _ _ _ h => h) (Or.inr ⟨by rfl, rfl⟩) hHeld ?_ ?_); rotate_left; (simp only [Act.put, List.setIfInBounds_toArray, List.set_cons_zero, List.set_cons_succ, i64_w, i32_w]; rfl)))
    iterate 5 (first | ((first | refine takeS_ 6 (N := some 44) (v := ?_) (a' := ?_) rfl rfl (by decide +kernel) (fun _ _ _ h => h) (Or.inl ⟨by rfl, ?_⟩) hHeld ?_ ?_ | refine takeS_ 7 (N := some 45) (v := ?_) (a' := ?_) rfl rfl (by decide +kernel) (fun _ _ _ h => h) (Or.inl ⟨by rfl, ?_⟩) hHeld ?_ ?_ | refine takeS_ 8 (N := some 46) (v := ?_) (a' := ?_) rfl rfl (by decide +kernel) (fun _ _ _ h => h) (Or.inl ⟨by rfl, ?_⟩) hHeld ?_ ?_ | refine takeS_ 9 (N := some 47) (v := ?_) (a' := ?_) rfl rfl (by decide +kernel) (fun _ _ _ h => h) (Or.inl ⟨by rfl, ?_⟩) hHeld ?_ ?_ | refine takeS_ 10 (N := some 48) (v := ?_) (a' := ?_) rfl rfl (by decide +kernel) (fun _ _ _ h => h) (Or.inl ⟨by rfl, ?_⟩) hHeld ?_ ?_); rotate_left; (rintro w' (s0); go_simp; first | done | (with_reducible rfl) | rfl); rotate_left; (simp only [Act.put, List.setIfInBounds_toArray, List.set_cons_zero, List.set_cons_succ, i64_w, i32_w]; rfl)) | ((first | refine takeS_ 6 (N := some 44) (v := undef) (a' := ?_) rfl rfl (by decide +kernel) (fun _ _ _ h => h) (Or.inr ⟨by rfl, rfl⟩) hHeld ?_ ?_ | refine takeS_ 7 (N := some 45) (v := undef) (a' := ?_) rfl rfl (by decide +kernel) (fun _ _ _ h => h) (Or.inr ⟨by rfl, rfl⟩) hHeld ?_ ?_ | refine takeS_ 8 (N := some 46) (v := undef) (a' := ?_) rfl rfl (by decide +kernel) (fun _ _ _ h => h) (Or.inr ⟨by rfl, rfl⟩) hHeld ?_ ?_ | refine takeS_ 9 (N := some 47) (v := undef) (a' := ?_) rfl rfl (by decide +kernel) (fun _ _ _ h => h) (Or.inr ⟨by rfl, rfl⟩) hHeld ?_ ?_ | refine takeS_ 10 (N := some 48) (v := undef) (a' := ?_) rfl rfl (by decide +kernel) (fun _ _ _ h => h) (Or.inr ⟨by rfl, rfl⟩) hHeld ?_ ?_); rotate_left; (simp only [Act.put, List.setIfInBounds_toArray, List.set_cons_zero, List.set_cons_succ, i64_w, i32_w]; rfl)))
    refine oneS_ 4 (N := some 42) rfl rfl (by kernel_rfl) (by decide) (fun K hK => ?_)
    refine goes_ Try.func29 (by kernel_rfl) rfl #[.slice A1 A.length c1, .string ⟨#[32]⟩] (by rfl) rfl rfl (by first | rfl | (simp [Act.eval]; done) | (simp [Act.eval, Act.put]; done)) ?_
    refine (strings_Join.calls A1 c1 A ⟨#[32]⟩ r _ (Kd.C_below HS.out (Below.refl _ w).drew) HC.out HR.out).mono ?_
    rintro e v1 ⟨rfl, hb⟩
    refine ⟨_, rfl, ?_⟩
    have HB1 := Lib.hid (below_step ((Below.refl _ w).drew) hb)
    refine hK.out _ _ ((blk_cell (HT.out.frm HB1.out).bt 1).trans rfl) (fun hHeld => ?_)
    clear hK K
    refine norm_ (a' := ?_) ?_ ?_
    rotate_left
    · show Act.put _ (some 42) _ = _
      simp only [Act.put, List.setIfInBounds_toArray, List.set_cons_zero, List.set_cons_succ, i64_w, i32_w]
      rfl
    iterate 2 (first | ((first | refine takeS_ 11 (N := some 4) (v := ?_) (a' := ?_) rfl rfl (by decide +kernel) (fun _ _ _ h => h) (Or.inl ⟨by rfl, ?_⟩) hHeld ?_ ?_ | refine takeS_ 12 (N := some 5) (v := ?_) (a' := ?_) rfl rfl (by decide +kernel) (fun _ _ _ h => h) (Or.inl ⟨by rfl, ?_⟩) hHeld ?_ ?_); rotate_left; (rintro w' (s0); go_simp; first | done | (with_reducible rfl) | rfl); rotate_left; (simp only [Act.put, List.setIfInBounds_toArray, List.set_cons_zero, List.set_cons_succ, i64_w, i32_w]; rfl)) | ((first | refine takeS_ 11 (N := some 4) (v := undef) (a' := ?_) rfl rfl (by decide +kernel) (fun _ _ _ h => h) (Or.inr ⟨by rfl, rfl⟩) hHeld ?_ ?_ | refine takeS_ 12 (N := some 5) (v := undef) (a' := ?_) rfl rfl (by decide +kernel) (fun _ _ _ h => h) (Or.inr ⟨by rfl, rfl⟩) hHeld ?_ ?_); rotate_left; (simp only [Act.put, List.setIfInBounds_toArray, List.set_cons_zero, List.set_cons_succ, i64_w, i32_w]; rfl)))
    refine done_ (by kernel_rfl) ?_
    go_wp2
    go_ret2
    exact ⟨rfl, HB1.out⟩
  | false =>
    obtain rfl : b4 = true := e34.resolve_left (by decide)
    clear e34
    go_enter Try.func13, Try.ntmps13
    go_wp2
    refine start_ (n := 13) (S := (fun w' => w'.cell? ⟨g, 1, none⟩ = some (.slice A1 A.length c1))) (ds := []) #[false, false, false, false, false, false, false, false, false, false, false, false, false] (by kernel_rfl) rfl rfl d1 (fun hHeld => ?_)
    iterate 5 (first | ((first | refine takeS_ 0 (N := some 38) (v := ?_) (a' := ?_) rfl rfl (by decide +kernel) (fun _ _ _ h => h) (Or.inl ⟨by rfl, ?_⟩) hHeld ?_ ?_ | refine takeS_ 1 (N := some 39) (v := ?_) (a' := ?_) rfl rfl (by decide +kernel) (fun _ _ _ h => h) (Or.inl ⟨by rfl, ?_⟩) hHeld ?_ ?_ | refine takeS_ 2 (N := some 40) (v := ?_) (a' := ?_) rfl rfl (by decide +kernel) (fun _ _ _ h => h) (Or.inl ⟨by rfl, ?_⟩) hHeld ?_ ?_ | refine takeS_ 3 (N := some 41) (v := ?_) (a' := ?_) rfl rfl (by decide +kernel) (fun _ _ _ h => h) (Or.inl ⟨by rfl, ?_⟩) hHeld ?_ ?_ | refine takeS_ 5 (N := some 43) (v := ?_) (a' := ?_) rfl rfl (by decide +kernel) (fun _ _ _ h => h) (Or.inl ⟨by rfl, ?_⟩) hHeld ?_ ?_); rotate_left; (rintro w' (s0); go_simp; first | done | (with_reducible rfl) | rfl); rotate_left; (simp only [Act.put, List.setIfInBounds_toArray, List.set_cons_zero, List.set_cons_succ, i64_w, i32_w]; rfl)) | ((first | refine takeS_ 0 (N := some 38) (v := undef) (a' := ?_) rfl rfl (by decide +kernel) (fun _ _ _ h => h) (Or.inr ⟨by rfl, rfl⟩) hHeld ?_ ?_ | refine takeS_ 1 (N := some 39) (v := undef) (a' := ?_) rfl rfl (by decide +kernel) (fun _ _ _ h => h) (Or.inr ⟨by rfl, rfl⟩) hHeld ?_ ?_ | refine takeS_ 2 (N := some 40) (v := undef) (a' := ?_) rfl rfl (by decide +kernel) (fun _ _ _ h => h) (Or.inr ⟨by rfl, rfl⟩) hHeld ?_ ?_ | refine takeS_ 3 (N := some 41) (v := undef) (a' := ?_) rfl rfl (by decide +kernel) (fun _ _ _ h => h) (Or.inr ⟨by rfl, rfl⟩) hHeld ?_ ?_ | refine takeS_ 5 (N := some 43) (v := undef) (a' := ?_) rfl rfl (by decide +kernel) (fun _ _ _ h => h) (Or.inr ⟨by rfl, rfl⟩) hHeld ?_ ?_); rotate_left; (simp only [Act.put, List.setIfInBounds_toArray, List.set_cons_zero, List.set_cons_succ, i64_w, i32_w]; rfl)))
    iterate 5 (first | ((first | refine takeS_ 6 (N := some 44) (v := ?_) (a' := ?_) rfl rfl (by decide +kernel) (fun _ _ _ h => h) (Or.inl ⟨by rfl, ?_⟩) hHeld ?_ ?_ | refine takeS_ 7 (N := some 45) (v := ?_) (a' := ?_) rfl rfl (by decide +kernel) (fun _ _ _ h => h) (Or.inl ⟨by rfl, ?_⟩) hHeld ?_ ?_ | refine takeS_ 8 (N := some 46) (v := ?_) (a' := ?_) rfl rfl (by decide +kernel) (fun _ _ _ h => h) (Or.inl ⟨by rfl, ?_⟩) hHeld ?_ ?_ | refine takeS_ 9 (N := some 47) (v := ?_) (a' := ?_) rfl rfl (by decide +kernel) (fun _ _ _ h => h) (Or.inl ⟨by rfl, ?_⟩) hHeld ?_ ?_ | refine takeS_ 10 (N := some 48) (v := ?_) (a' := ?_) rfl rfl (by decide +kernel) (fun _ _ _ h => h) (Or.inl ⟨by rfl, ?_⟩) hHeld ?_ ?_); rotate_left; (rintro w' (s0); go_simp; first | done | (with_reducible rfl) | rfl); rotate_left; (simp only [Act.put, List.setIfInBounds_toArray, List.set_cons_zero, List.set_cons_succ, i64_w, i32_w]; rfl)) | ((first | refine takeS_ 6 (N := some 44) (v := undef) (a' := ?_) rfl rfl (by decide +kernel) (fun _ _ _ h => h) (Or.inr ⟨by rfl, rfl⟩) hHeld ?_ ?_ | refine takeS_ 7 (N := some 45) (v := undef) (a' := ?_) rfl rfl (by decide +kernel) (fun _ _ _ h => h) (Or.inr ⟨by rfl, rfl⟩) hHeld ?_ ?_ | refine takeS_ 8 (N := some 46) (v := undef) (a' := ?_) rfl rfl (by decide +kernel) (fun _ _ _ h => h) (Or.inr ⟨by rfl, rfl⟩) hHeld ?_ ?_ | refine takeS_ 9 (N := some 47) (v := undef) (a' := ?_) rfl rfl (by decide +kernel) (fun _ _ _ h => h) (Or.inr ⟨by rfl, rfl⟩) hHeld ?_ ?_ | refine takeS_ 10 (N := some 48) (v := undef) (a' := ?_) rfl rfl (by decide +kernel) (fun _ _ _ h => h) (Or.inr ⟨by rfl, rfl⟩) hHeld ?_ ?_); rotate_left; (simp only [Act.put, List.setIfInBounds_toArray, List.set_cons_zero, List.set_cons_succ, i64_w, i32_w]; rfl)))
    refine oneS_ 4 (N := some 42) rfl rfl (by kernel_rfl) (by decide) (fun K hK => ?_)
    refine goes_ Try.func29 (by kernel_rfl) rfl #[.slice A1 A.length c1, .string ⟨#[32]⟩] (by rfl) rfl rfl (by first | rfl | (simp [Act.eval]; done) | (simp [Act.eval, Act.put]; done)) ?_
    refine (strings_Join.calls A1 c1 A ⟨#[32]⟩ r _ (Kd.C_below HS.out (Below.refl _ w).drew) HC.out HR.out).mono ?_
    rintro e v1 ⟨rfl, hb⟩
    refine ⟨_, rfl, ?_⟩
    have HB1 := Lib.hid (below_step ((Below.refl _ w).drew) hb)
    refine hK.out _ _ ((blk_cell (HT.out.frm HB1.out).bt 1).trans rfl) (fun hHeld => ?_)
    clear hK K
    refine norm_ (a' := ?_) ?_ ?_
    rotate_left
    · show Act.put _ (some 42) _ = _
      simp only [Act.put, List.setIfInBounds_toArray, List.set_cons_zero, List.set_cons_succ, i64_w, i32_w]
      rfl
    iterate 2 (first | ((first | refine takeS_ 11 (N := some 4) (v := ?_) (a' := ?_) rfl rfl (by decide +kernel) (fun _ _ _ h => h) (Or.inl ⟨by rfl, ?_⟩) hHeld ?_ ?_ | refine takeS_ 12 (N := some 5) (v := ?_) (a' := ?_) rfl rfl (by decide +kernel) (fun _ _ _ h => h) (Or.inl ⟨by rfl, ?_⟩) hHeld ?_ ?_); rotate_left; (rintro w' (s0); go_simp; first | done | (with_reducible rfl) | rfl); rotate_left; (simp only [Act.put, List.setIfInBounds_toArray, List.set_cons_zero, List.set_cons_succ, i64_w, i32_w]; rfl)) | ((first | refine takeS_ 11 (N := some 4) (v := undef) (a' := ?_) rfl rfl (by decide +kernel) (fun _ _ _ h => h) (Or.inr ⟨by rfl, rfl⟩) hHeld ?_ ?_ | refine takeS_ 12 (N := some 5) (v := undef) (a' := ?_) rfl rfl (by decide +kernel) (fun _ _ _ h => h) (Or.inr ⟨by rfl, rfl⟩) hHeld ?_ ?_); rotate_left; (simp only [Act.put, List.setIfInBounds_toArray, List.set_cons_zero, List.set_cons_succ, i64_w, i32_w]; rfl)))
    refine done_ (by kernel_rfl) ?_
    go_wp2
    go_ret2
    exact ⟨rfl, HB1.out⟩
end Go.Proofs.Ytgcbipflmhbpcaa.PV
set_option linter.unusedVariables false
set_option linter.unusedSimpArgs false
namespace Go.Proofs.Ytgcbipflmhbpcaa.PV
open Go Go.RowKit Go.Proofs.Ytgcbipflmhbpcaa Go.Proofs.YtgcbipflmhbpcaaW.PrintWords Go.Proofs.YtgcbipflmhbpcaaW.PrintLast Go.Proofs.YtgcbipflmhbpcaaW.PrintMore
set_option maxHeartbeats 4000000 in
set_option maxRecDepth 100000 in
theorem get_digit (B : Nat) (w : World) (g : Nat) (V : List S26) (A : List ByteArray) (st : Int) (x : ByteArray) (ht : TB B w g V A st) (hA : A.length ≤ 1000) (hxs : x.size ≤ 9223372036854775807) (e0 : (x.toList == ([] : List UInt8)) = false) (e1 : (x.toList == ([35] : List UInt8)) = false) (e2 : (x.toList == ([63] : List UInt8)) = false) (e3 : (x.toList == ([64] : List UInt8)) = false) (e4 : (x.toList == ([42] : List UInt8)) = false) (hd : dig (bt x 0) = true) :
    Calls Try.prog 13 #[.pointer (some ⟨g, 0, none⟩), .string x] w fun e w' => e = .returned (.tuple #[.string (numA A x).1, .bool (numA A x).2]) ∧ Below w.heap.size w w' := by
  have hpos : 0 < x.size := Nat.pos_of_ne_zero (fun h => by have := beq_eq_false_iff_ne.1 e0; exact this (size_nil.2 h))
  have q22 : (0 < x.size) = True := eq_true hpos
  have qi22 : (0 < (x.size : Int)) = True := eq_true (by omega)
  have hx22 : ∀ h : 0 < x.size, ((x[0]'h).toNat : Int) = bt x 0 := bt_at x 0
  have HD : Hid (word_Digit.f (bt x 0) = some true) := Lib.hid (by rw [wd_, hd])
  obtain ⟨vv, va, ht⟩ := ht
  obtain ⟨A1, c1, rfl⟩ := own_slice ht.oa
  have HT := Lib.hid ht
  have d1 : w.cell? ⟨g, 1, none⟩ = some (.slice A1 A.length c1) := (blk_cell ht.bt 1).trans rfl
  obtain ⟨n, E, hnE⟩ : ∃ n E, decD x.data.toList = (n, E) := ⟨_, _, rfl⟩
  have HX : Hid (num_Decimal.f x = some (n, E)) := Lib.hid (by unfold num_Decimal.f; rw [if_pos hxs, hnE])
  by_cases hE : E = 0
  · subst hE
    by_cases h1 : n < 1
    · have HN : Hid (numA A x = (⟨#[]⟩, false)) := Lib.hid (by unfold numA; rw [hnE, if_neg (by simp; omega)])
      have j1 : decide (n < 1) = true := decide_eq_true h1
      clear ht hA hxs hd hpos hnE h1
      go_enter Try.func13, Try.ntmps13
      go_wp2_with (first | (go_at_call 30; (with_reducible refine (word_Digit.calls (bt x 0) true _ HD.out).mono ?_); rintro e w1 ⟨rfl, hb⟩; have HB1 : Hid (Below w.heap.size w w1) := Lib.hid (by obtain ⟨m, rfl⟩ := hb.out; exact ⟨rfl, rfl, rfl, Nat.le_refl _, fun _ _ => rfl⟩); clear hb) | (go_at_call 31; (with_reducible refine (num_Decimal.calls _ _ _ _ HX.out).mono ?_); rintro e w2 ⟨rfl, hb⟩; have HB2 : Hid (Below w.heap.size w w2) := Lib.hid (below_step HB1.out (by obtain ⟨m, rfl⟩ := hb.out; exact ⟨rfl, rfl, rfl, Nat.le_refl _, fun _ _ => rfl⟩)); clear hb; have d2 : w2.cell? ⟨g, 1, none⟩ = some (.slice A1 A.length c1) := (blk_cell (HT.out.frm HB2.out).bt 1).trans rfl))
      go_ret2
      exact ⟨by rw [HN.out]; rfl, HB2.out⟩
    · have j1 : decide (n < 1) = false := decide_eq_false h1
      by_cases h2 : (A.length : Int) < n
      · have HN : Hid (numA A x = (⟨#[]⟩, false)) := Lib.hid (by unfold numA; rw [hnE, if_neg (by simp; omega)])
        have j2 : decide ((A.length : Int) < n) = true := decide_eq_true h2
        clear ht hA hxs hd hpos hnE h1 h2
        go_enter Try.func13, Try.ntmps13
        go_wp2_with (first | (go_at_call 30; (with_reducible refine (word_Digit.calls (bt x 0) true _ HD.out).mono ?_); rintro e w1 ⟨rfl, hb⟩; have HB1 : Hid (Below w.heap.size w w1) := Lib.hid (by obtain ⟨m, rfl⟩ := hb.out; exact ⟨rfl, rfl, rfl, Nat.le_refl _, fun _ _ => rfl⟩); clear hb) | (go_at_call 31; (with_reducible refine (num_Decimal.calls _ _ _ _ HX.out).mono ?_); rintro e w2 ⟨rfl, hb⟩; have HB2 : Hid (Below w.heap.size w w2) := Lib.hid (below_step HB1.out (by obtain ⟨m, rfl⟩ := hb.out; exact ⟨rfl, rfl, rfl, Nat.le_refl _, fun _ _ => rfl⟩)); clear hb; have d2 : w2.cell? ⟨g, 1, none⟩ = some (.slice A1 A.length c1) := (blk_cell (HT.out.frm HB2.out).bt 1).trans rfl))
        go_ret2
        exact ⟨by rw [HN.out]; rfl, HB2.out⟩
      · obtain ⟨m, hnm⟩ : ∃ m : Nat, n = ((m + 1 : Nat) : Int) := ⟨(n - 1).toNat, by omega⟩
        have hm : m < A.length := by omega
        have j2 : decide ((A.length : Int) < n) = false := decide_eq_false h2
        have W1 : wrap64 (n - 1) = (m : Int) := by unfold wrap64; omega
        have j3 : decide (0 ≤ (m : Int)) = true := decide_eq_true (by omega)
        have j4 : decide ((m : Int) < (A.length : Int)) = true := decide_eq_true (by omega)
        have j5 : (m < A.length) = True := eq_true hm
        obtain ⟨ad, ea, hx⟩ := Kd.at_string ht.str (m : Int) (by omega) (by omega)
        cases ea
        rw [rdA A m hm, Int.toNat_natCast] at hx
        have HN : Hid (numA A x = (A[m], true)) := Lib.hid (by unfold numA; rw [hnE, if_pos ⟨rfl, by omega, by show n ≤ _; omega⟩, show n - 1 = (m : Int) from by omega, rdA A m hm])
        generalize A[m] = s at hx HN
        have HXC := Lib.hid hx
        have HLT : Hid ((ad.add m).block < w.heap.size) := Lib.hid (by
          cases hh : w.heap[(ad.add m).block]? with
          | some o => exact (Array.getElem?_eq_some_iff.1 hh).1
          | none => simp [World.cell?, hh] at hx)
        clear ht hA hxs hd hpos hnE h1 h2 hx hm hnm
        go_enter Try.func13, Try.ntmps13
        go_wp2_with (first | (go_at_call 30; (with_reducible refine (word_Digit.calls (bt x 0) true _ HD.out).mono ?_); rintro e w1 ⟨rfl, hb⟩; have HB1 : Hid (Below w.heap.size w w1) := Lib.hid (by obtain ⟨m, rfl⟩ := hb.out; exact ⟨rfl, rfl, rfl, Nat.le_refl _, fun _ _ => rfl⟩); clear hb) | (go_at_call 31; (with_reducible refine (num_Decimal.calls _ _ _ _ HX.out).mono ?_); rintro e w2 ⟨rfl, hb⟩; have HB2 : Hid (Below w.heap.size w w2) := Lib.hid (below_step HB1.out (by obtain ⟨m, rfl⟩ := hb.out; exact ⟨rfl, rfl, rfl, Nat.le_refl _, fun _ _ => rfl⟩)); clear hb; have d2 : w2.cell? ⟨g, 1, none⟩ = some (.slice (some ad) A.length c1) := (blk_cell (HT.out.frm HB2.out).bt 1).trans rfl; have d3 : w2.cell? (ad.add m) = some (.string s) := (World.cell?_of_block (w := w) (HB2.out.block _ HLT.out)).trans HXC.out))
        go_ret2
        exact ⟨by rw [HN.out]; rfl, HB2.out⟩
  · have HN : Hid (numA A x = (⟨#[]⟩, false)) := Lib.hid (by unfold numA; rw [hnE, if_neg (by simp; omega)])
    have b0 : (E == 0) = false := beq_eq_false_iff_ne.2 hE
    clear ht hA hxs hd hpos hnE
    go_enter Try.func13, Try.ntmps13
    go_wp2_with (first | (go_at_call 30; (with_reducible refine (word_Digit.calls (bt x 0) true _ HD.out).mono ?_); rintro e w1 ⟨rfl, hb⟩; have HB1 : Hid (Below w.heap.size w w1) := Lib.hid (by obtain ⟨m, rfl⟩ := hb.out; exact ⟨rfl, rfl, rfl, Nat.le_refl _, fun _ _ => rfl⟩); clear hb) | (go_at_call 31; (with_reducible refine (num_Decimal.calls _ _ _ _ HX.out).mono ?_); rintro e w2 ⟨rfl, hb⟩; have HB2 : Hid (Below w.heap.size w w2) := Lib.hid (below_step HB1.out (by obtain ⟨m, rfl⟩ := hb.out; exact ⟨rfl, rfl, rfl, Nat.le_refl _, fun _ _ => rfl⟩)); clear hb; have d2 : w2.cell? ⟨g, 1, none⟩ = some (.slice A1 A.length c1) := (blk_cell (HT.out.frm HB2.out).bt 1).trans rfl))
    go_ret2
    exact ⟨by rw [HN.out]; rfl, HB2.out⟩
theorem get_calls (B : Nat) (w : World) (g : Nat) (V : List S26) (A : List ByteArray) (st : Int) (x : ByteArray) (ht : TB B w g V A st) (hV : Ord V) (hl : V.length ≤ 64) (hA : A.length ≤ 1000) (hj : strings_Join.f A ⟨#[32]⟩ = some (joinB A)) (hst : -9223372036854775808 ≤ st ∧ st ≤ 9223372036854775807) (hxs : x.size ≤ 9223372036854775807) :
    Calls Try.prog 13 #[.pointer (some ⟨g, 0, none⟩), .string x] w fun e w' => e = .returned (.tuple #[.string (getM V A st x).1, .bool (getM V A st x).2]) ∧ Below w.heap.size w w' := by
  unfold getM
  by_cases e0 : x.toList = []
  · rw [if_pos e0]; exact get_none g w x (beq_iff_eq.2 e0)
  · rw [if_neg e0]
    have e0 := beq_eq_false_iff_ne.2 e0
    by_cases e1 : x.toList = [35]
    · rw [if_pos e1]; exact get_hash B w g V A st x ht hA e0 (beq_iff_eq.2 e1)
    · rw [if_neg e1]
      have e1 := beq_eq_false_iff_ne.2 e1
      by_cases e2 : x.toList = [63]
      · rw [if_pos e2]; exact get_ask B w g V A st x ht hst e0 e1 (beq_iff_eq.2 e2)
      · rw [if_neg e2]
        have e2 := beq_eq_false_iff_ne.2 e2
        by_cases e3 : x.toList = [64] ∨ x.toList = [42]
        · rw [if_pos e3]
          exact get_join B w g V A st x ht hj _ rfl e0 e1 e2 _ _ rfl rfl (e3.imp beq_iff_eq.2 beq_iff_eq.2)
        · rw [if_neg e3]
          have e4 := beq_eq_false_iff_ne.2 (fun h => e3 (.inr h))
          have e3 := beq_eq_false_iff_ne.2 (fun h => e3 (.inl h))
          by_cases hd : dig (bt x 0) = true
          · rw [if_pos hd]; exact get_digit B w g V A st x ht hA hxs e0 e1 e2 e3 e4 hd
          · rw [if_neg hd]; exact get_name B w g V A st x ht hV hl e0 e1 e2 e3 e4 (by simpa using hd)
end Go.Proofs.Ytgcbipflmhbpcaa.PV
set_option linter.unusedVariables false
set_option linter.unusedSimpArgs false
namespace Go.Proofs.Ytgcbipflmhbpcaa.PV
open Go Go.RowKit Go.Proofs.Ytgcbipflmhbpcaa Go.Proofs.YtgcbipflmhbpcaaW.PrintWords Go.Proofs.YtgcbipflmhbpcaaW.PrintLast Go.Proofs.YtgcbipflmhbpcaaW.PrintMore
theorem setE_name {V : List S26} {x y : ByteArray} (h : setE V x y = 0) : nameB x = true := by
  cases hn : nameB x with
  | true => rfl
  | false => unfold setE at h; rw [hn] at h; simp at h
theorem setT_ord {V : List S26} {x y : ByteArray} (h : Ord V) : Ord (setT V x y) := by
  unfold setT; split
  · exact setV_ord h
  · exact h
theorem setT_len {V : List S26} {x y : ByteArray} (h : Ord V) (hl : V.length ≤ 64) : (setT V x y).length ≤ 64 := by
  unfold setT; split
  · rename_i he; exact setE_len h hl he
  · exact hl
theorem unsV_len {V : List S26} {x : ByteArray} : (unsV V x).length ≤ V.length := List.length_filter_le _ _
theorem join_nil : strings_Join.f [] ⟨#[32]⟩ = some (joinB []) := by
  have h : ∃ r, strings_Join.f [] ⟨#[32]⟩ = some r := by unfold strings_Join.f; exact ⟨_, rfl⟩
  obtain ⟨r, h⟩ := h
  unfold joinB; rw [h]; rfl
theorem same_ev (V : List S26) (A : List ByteArray) (st : Int) (hV : V.length ≤ 1000000) (hA : A.length ≤ 1000000) : ∃ k, rehearsalref11_Same.f k V A st V A st = some true := by
  obtain ⟨K, hK⟩ := rsame_ev V A st hV hA
  exact ⟨K, hK K (Nat.le_refl _)⟩
end Go.Proofs.Ytgcbipflmhbpcaa.PV
set_option linter.unusedVariables false
set_option linter.unusedSimpArgs false
namespace Go.Proofs.Ytgcbipflmhbpcaa.PV
open Go Go.RowKit Go.Proofs.Ytgcbipflmhbpcaa Go.Proofs.YtgcbipflmhbpcaaW.PrintWords Go.Proofs.YtgcbipflmhbpcaaW.PrintLast Go.Proofs.YtgcbipflmhbpcaaW.PrintMore
/-- a table, and the blocks that are its own -/
structure TF (B : Nat) (S : Nat → Prop) (w : World) (g : Nat) (V : List S26) (A : List ByteArray) (st : Int) (vv va : Value) : Prop where
  t : Tab B w g (pv V) A st vv va
  g0 : S g
  v0 : ∀ k, vv.ownBlock = some k → S k
  a0 : ∀ k, va.ownBlock = some k → S k
def TX (B : Nat) (S : Nat → Prop) (w : World) (g : Nat) (V : List S26) (A : List ByteArray) (st : Int) : Prop := ∃ vv va, TF B S w g V A st vv va
theorem TX.tb {B : Nat} {S : Nat → Prop} {w : World} {g : Nat} {V : List S26} {A : List ByteArray} {st : Int} (h : TX B S w g V A st) : TB B w g V A st := by obtain ⟨vv, va, h⟩ := h; exact ⟨vv, va, h.t⟩
theorem TX.frm {B : Nat} {S : Nat → Prop} {w w' : World} {g : Nat} {V : List S26} {A : List ByteArray} {st : Int} (h : TX B S w g V A st) (hb : Below w.heap.size w w') : TX B S w' g V A st := by obtain ⟨vv, va, h⟩ := h; exact ⟨vv, va, h.t.frm hb, h.g0, h.v0, h.a0⟩
theorem TX.mono {B : Nat} {S S' : Nat → Prop} {w : World} {g : Nat} {V : List S26} {A : List ByteArray} {st : Int} (h : TX B S w g V A st) (hs : ∀ k, S k → S' k) : TX B S' w g V A st := by obtain ⟨vv, va, h⟩ := h; exact ⟨vv, va, h.t, hs _ h.g0, fun k hk => hs k (h.v0 k hk), fun k hk => hs k (h.a0 k hk)⟩
theorem insX_at {B : Nat} {w2 : World} {g : Nat} {V : List S26} {A : List ByteArray} {st : Int} {vv va : Value} {x y : ByteArray} {r : Nat} (ht : Tab B w2 g (pv V) A st vv va) (hB : B ≤ w2.heap.size) (hr : r ≤ V.length) (hl : V.length ≤ 1000) :
    Calls Try.prog 39 #[vv, .int .i64 r, .slice (some ⟨w2.heap.size, 0, none⟩) 1 1] (w2.alloc (.cells #[.string x, .string y] 26 (0, 0))) fun e w3 => ∃ v', e = .returned v' ∧ (∃ A2 n2 c2, v' = .slice A2 n2 c2) ∧ Tab B (w3.setCell ⟨g, 0, none⟩ v') g (pv (V.take r ++ ⟨x, y⟩ :: V.drop r)) A st v' va ∧ w3.cell? ⟨g, 0, none⟩ = some vv ∧ w3.frozen? ⟨g, 0, none⟩ = false ∧ Frm (fun k => k = g ∨ vv.ownBlock = some k) w2 (w3.setCell ⟨g, 0, none⟩ v') ∧ (∀ k, v'.ownBlock = some k → vv.ownBlock = some k ∨ w2.heap.size ≤ k) := by
  have hal : Below w2.heap.size w2 (w2.alloc (.cells #[.string x, .string y] 26 (0, 0))) := below_alloc (Below.refl _ _) _
  have ht1 := ht.frm hal
  have hp := pv_len V
  have ho : (w2.alloc (.cells #[.string x, .string y] 26 (0, 0))).ownsRow B 26 2 vv V.length (cV V) := by rw [← hp]; exact ht1.ov
  refine (insert_any B _ V.length r vv (cV V) x y w2.heap.size (Nat.le_trans hB hal.size) ho (cV_one V) (blk_new _ _) (by have := own_ne_new ht.ov 0; exact this) hr hl).mono ?_
  rintro e w3 ⟨v', rfl, k1, k2, k2at⟩
  have k1' : w3.ownsRow B 26 2 v' (pv (V.take r ++ ⟨x, y⟩ :: V.drop r)).length (cellsV (pv (V.take r ++ ⟨x, y⟩ :: V.drop r))) := by
    have e1 : (pv (V.take r ++ ⟨x, y⟩ :: V.drop r)).length = V.length + 1 := by rw [pv_len, List.length_append, List.length_cons, List.length_take, List.length_drop]; omega
    have e2 : cellsV (pv (V.take r ++ ⟨x, y⟩ :: V.drop r)) = (cV V).take (r * 2) ++ [.string x, .string y] ++ (cV V).drop (r * 2) := by
      show cV _ = _
      rw [cV_append, cV_cons, cV_take, cV_drop, List.append_assoc]; rfl
    rw [e1, e2]; exact k1
  have k3 := Tab.setRow ht1 k2 k1'
  refine ⟨v', rfl, (by obtain ⟨A2, c2, e⟩ := own_slice k1; exact ⟨_, _, _, e⟩), k3.1, (blk_cell k3.2 0).trans rfl, blk_frozen k3.2 _, ?_, ?_⟩
  · exact (((Frm.of_below hal).grown k2 (fun k hk _ => .inr hk)) : Frm (fun k => k = g ∨ vv.ownBlock = some k) w2 w3).setCell _ _ (fun _ => .inl rfl)
  · intro k hk
    rcases k2at with h | ⟨b, h, hb⟩
    · exact .inl (h ▸ hk)
    · rw [h] at hk; injection hk with hk; subst hk; exact .inr (Nat.le_trans hal.size hb)
set_option maxHeartbeats 4000000 in
set_option maxRecDepth 100000 in
theorem setX_calls (B : Nat) (S : Nat → Prop) (w : World) (g : Nat) (V : List S26) (A : List ByteArray) (st : Int) (x y : ByteArray) (ht : TX B S w g V A st) (hB : B ≤ w.heap.size) (hV : Ord V) (hl : V.length ≤ 64) :
    Calls Try.prog 15 #[.pointer (some ⟨g, 0, none⟩), .string x, .string y] w fun e w' => e = .returned (.int .i64 (setE V x y)) ∧ Frm S w w' ∧ TX B (fun k => S k ∨ w.heap.size ≤ k) w' g (setT V x y) A st := by
  obtain ⟨vv, va, ht, hg0, hv0, ha0⟩ := ht
  have G0 := Lib.hid hg0
  have A0 := Lib.hid ha0
  clear hg0 ha0
  obtain ⟨K, hK⟩ := name_w x
  have HN : Hid (word_Name.f K x = some (nameB x)) := Lib.hid (hK K (Nat.le_refl _))
  clear hK
  by_cases hn : nameB x = true
  · rw [hn] at HN
    by_cases hy : 4096 < y.size
    · have e : setE V x y = 2 := by unfold setE; rw [if_pos hn, if_pos hy]
      have HE : Hid (setT V x y = V) := Lib.hid (by unfold setT; rw [e]; rfl)
      have HT := Lib.hid ht
      have V0 := Lib.hid hv0
      rw [e]
      have c0 : decide ((4096 : Int) < (y.size : Int)) = true := decide_eq_true (by omega)
      clear e hn hy ht hv0 hV hl hB
      go_enter Try.func15, Try.ntmps15
      go_wp2_with (go_at_call 38; (with_reducible refine (word_Name.calls K x true _ HN.out).mono ?_); rintro e w1 ⟨rfl, hb⟩; obtain ⟨m, rfl⟩ := hb.out; have HB1 : Hid (Below w.heap.size w (w.drewN m)) := Lib.hid ⟨rfl, rfl, rfl, Nat.le_refl _, fun _ _ => rfl⟩)
      go_ret
      exact ⟨rfl, Frm.of_below HB1.out, by rw [HE.out]; exact ⟨vv, va, HT.out.frm HB1.out, .inl G0.out, fun k hk => .inl (V0.out k hk), fun k hk => .inl (A0.out k hk)⟩⟩
    · have c0 : decide ((4096 : Int) < (y.size : Int)) = false := decide_eq_false (by omega)
      obtain ⟨r, b, hat⟩ := at_ex V x (by omega) hV
      obtain ⟨A1, c1, rfl⟩ := own_slice ht.ov
      rw [pv_len] at ht hv0
      cases b with
      | true =>
        have e : setE V x y = 0 := by unfold setE; rw [if_pos hn, if_neg hy, if_neg (fun h => by have := hat.has; rw [h.1] at this; cases this)]
        obtain ⟨hr, he, hset, k1, k2⟩ := hat.old (y := y) hV
        have HE : Hid (setT V x y = V.set r ⟨V[r].f0, y⟩) := Lib.hid (by unfold setT; rw [if_pos e, hset])
        rw [e]
        have HT := Lib.hid ht
        have V0 := Lib.hid hv0
        have HBB := Lib.hid hB
        have HP := Lib.hid hat
        have HV := Lib.hid hV
        have HL := Lib.hid hl
        obtain ⟨b', c', hvv, hb', k3⟩ := own_at ht.ov r hr y
        injection hvv with hvv
        subst hvv
        have HR : Hid (r < V.length) := Lib.hid hr
        have j0 : decide (0 ≤ (r : Int)) = true := decide_eq_true (by omega)
        have j1 : decide ((r : Int) < (V.length : Int)) = true := decide_eq_true (by omega)
        have HBL : Hid (B ≤ b') := Lib.hid hb'
        clear k1 k2 k3 e hn hy ht hv0 hV hl hB hat he hset hb'
        go_enter Try.func15, Try.ntmps15
        go_wp2_with (first | (go_at_call 38; (with_reducible refine (word_Name.calls K x true _ HN.out).mono ?_); rintro e w1 ⟨rfl, hb⟩; have HB1 : Hid (Below w.heap.size w w1) := Lib.hid (by obtain ⟨m, rfl⟩ := hb.out; exact ⟨rfl, rfl, rfl, Nat.le_refl _, fun _ _ => rfl⟩); clear hb) | (go_at_call 32; (with_reducible refine (place_at (HT.out.frm HB1.out) (Nat.le_trans HL.out (by decide)) HV.out HP.out).mono ?_); rintro e w2 ⟨rfl, hb⟩; have HB2 : Hid (Below w.heap.size w w2) := Lib.hid (below_step HB1.out hb); clear hb; have HT2 := Lib.hid (HT.out.frm HB2.out); have d0 : w2.cell? ⟨g, 0, none⟩ = some (.slice (some ⟨b', 0, none⟩) V.length c1) := (blk_cell HT2.out.bt 0).trans rfl; obtain ⟨_, _, e0, _, d1, f1, o1, g1⟩ := own_at HT2.out.ov r HR.out y; cases e0; have O1 := Lib.hid o1; have G1 := Lib.hid g1; clear o1 g1))
        go_ret
        refine ⟨rfl, (Frm.of_below HB2.out).grown G1.out (fun k hk _ => V0.out k hk), ?_⟩
        rw [HE.out]
        exact ⟨_, va, Tab.keepRow HT2.out G1.out O1.out, .inl G0.out, fun k hk => .inl (V0.out k hk), fun k hk => .inl (A0.out k hk)⟩
      | false =>
        have hnew := hat.new (y := y)
        have hh := hat.has
        by_cases h64 : 64 ≤ V.length
        · have e : setE V x y = 2 := by unfold setE; rw [if_pos hn, if_neg hy, if_pos ⟨hh, h64⟩]
          have HE : Hid (setT V x y = V) := Lib.hid (by unfold setT; rw [e]; rfl)
          rw [e]
          have HT := Lib.hid ht
          have V0 := Lib.hid hv0
          have HP := Lib.hid hat
          have HV := Lib.hid hV
          have HL := Lib.hid hl
          have j2 : decide ((64 : Int) ≤ (V.length : Int)) = true := decide_eq_true (by omega)
          clear e hn hy ht hv0 hV hl hB hat hnew hh h64
          go_enter Try.func15, Try.ntmps15
          go_wp2_with (first | (go_at_call 38; (with_reducible refine (word_Name.calls K x true _ HN.out).mono ?_); rintro e w1 ⟨rfl, hb⟩; have HB1 : Hid (Below w.heap.size w w1) := Lib.hid (by obtain ⟨m, rfl⟩ := hb.out; exact ⟨rfl, rfl, rfl, Nat.le_refl _, fun _ _ => rfl⟩); clear hb) | (go_at_call 32; (with_reducible refine (place_at (HT.out.frm HB1.out) (Nat.le_trans HL.out (by decide)) HV.out HP.out).mono ?_); rintro e w2 ⟨rfl, hb⟩; have HB2 : Hid (Below w.heap.size w w2) := Lib.hid (below_step HB1.out hb); clear hb; have HT2 := Lib.hid (HT.out.frm HB2.out); have d0 : w2.cell? ⟨g, 0, none⟩ = some (.slice A1 V.length c1) := (blk_cell HT2.out.bt 0).trans rfl))
          go_ret
          exact ⟨rfl, Frm.of_below HB2.out, by rw [HE.out]; exact ⟨_, va, HT2.out, .inl G0.out, fun k hk => .inl (V0.out k hk), fun k hk => .inl (A0.out k hk)⟩⟩
        · have e : setE V x y = 0 := by unfold setE; rw [if_pos hn, if_neg hy, if_neg (fun h => h64 h.2)]
          have HE : Hid (setT V x y = V.take r ++ ⟨x, y⟩ :: V.drop r) := Lib.hid (by unfold setT; rw [if_pos e, hnew])
          rw [e]
          have HT := Lib.hid ht
          have V0 := Lib.hid hv0
          have HP := Lib.hid hat
          have HV := Lib.hid hV
          have HL := Lib.hid hl
          have HBB := Lib.hid hB
          have HRL := Lib.hid hat.le
          have j2 : decide ((64 : Int) ≤ (V.length : Int)) = false := decide_eq_false (by omega)
          clear e hn hy ht hv0 hV hl hB hat hnew hh h64
          go_enter Try.func15, Try.ntmps15
          go_wp2_with (first | (go_at_call 38; (with_reducible refine (word_Name.calls K x true _ HN.out).mono ?_); rintro e w1 ⟨rfl, hb⟩; have HB1 : Hid (Below w.heap.size w w1) := Lib.hid (by obtain ⟨m, rfl⟩ := hb.out; exact ⟨rfl, rfl, rfl, Nat.le_refl _, fun _ _ => rfl⟩); clear hb) | (go_at_call 32; (with_reducible refine (place_at (HT.out.frm HB1.out) (Nat.le_trans HL.out (by decide)) HV.out HP.out).mono ?_); rintro e w2 ⟨rfl, hb⟩; have HB2 : Hid (Below w.heap.size w w2) := Lib.hid (below_step HB1.out hb); clear hb; have HT2 := Lib.hid (HT.out.frm HB2.out); have d0 : w2.cell? ⟨g, 0, none⟩ = some (.slice A1 V.length c1) := (blk_cell HT2.out.bt 0).trans rfl) | (go_at_call 39; (with_reducible refine (insX_at HT2.out (Nat.le_trans HBB.out HB2.out.size) HRL.out (Nat.le_trans HL.out (by decide))).mono ?_); rintro e w3 ⟨v', rfl, ⟨A2, n2, c2, rfl⟩, ht3, d3, f3, hf3, hn3⟩; have HT3 := Lib.hid ht3; have HF3 := Lib.hid hf3; have HN3 := Lib.hid hn3; clear ht3 hf3 hn3))
          go_ret
          exact ⟨rfl, (Frm.of_below HB2.out).trans HF3.out (fun k _ h => h.elim (fun e => e ▸ G0.out) (fun h => V0.out k h)), by rw [HE.out]; exact ⟨_, va, HT3.out, .inl G0.out, fun k hk => (HN3.out k hk).imp (fun h => V0.out k h) (fun h => Nat.le_trans HB2.out.size h), fun k hk => .inl (A0.out k hk)⟩⟩
  · have hnf : nameB x = false := by simpa using hn
    rw [hnf] at HN
    have e : setE V x y = 70 := by unfold setE; rw [if_neg hn]
    have HE : Hid (setT V x y = V) := Lib.hid (by unfold setT; rw [e]; rfl)
    have HT := Lib.hid ht
    have V0 := Lib.hid hv0
    rw [e]
    clear e hn ht hv0 hV hl hB hnf
    go_enter Try.func15, Try.ntmps15
    go_wp2_with (go_at_call 38; (with_reducible refine (word_Name.calls K x false _ HN.out).mono ?_); rintro e w1 ⟨rfl, hb⟩; obtain ⟨m, rfl⟩ := hb.out; have HB1 : Hid (Below w.heap.size w (w.drewN m)) := Lib.hid ⟨rfl, rfl, rfl, Nat.le_refl _, fun _ _ => rfl⟩)
    go_ret
    exact ⟨rfl, Frm.of_below HB1.out, by rw [HE.out]; exact ⟨vv, va, HT.out.frm HB1.out, .inl G0.out, fun k hk => .inl (V0.out k hk), fun k hk => .inl (A0.out k hk)⟩⟩
theorem delX_at {B : Nat} {w2 : World} {g : Nat} {V : List S26} {A : List ByteArray} {st : Int} {A1 : Option Addr} {n1 c1 : Nat} {va : Value} {r : Nat} (ht : Tab B w2 g (pv V) A st (.slice A1 n1 c1) va) (hB : B ≤ w2.heap.size) (hr : r < V.length) (hl : V.length ≤ 1000) :
    Calls Try.prog 40 #[.slice A1 n1 c1, .int .i64 r, .int .i64 ((r + 1 : Nat) : Int)] w2 fun e w3 => ∃ A2 n2 c2, e = .returned (.slice A2 n2 c2) ∧ Tab B (w3.setCell ⟨g, 0, none⟩ (.slice A2 n2 c2)) g (pv (V.eraseIdx r)) A st (.slice A2 n2 c2) va ∧ w3.cell? ⟨g, 0, none⟩ = some (.slice A1 n1 c1) ∧ w3.frozen? ⟨g, 0, none⟩ = false ∧ Frm (fun k => k = g ∨ (Value.slice A1 n1 c1).ownBlock = some k) w2 (w3.setCell ⟨g, 0, none⟩ (.slice A2 n2 c2)) ∧ (Value.slice A2 n2 c2).ownBlock = (Value.slice A1 n1 c1).ownBlock := by
  have hp := pv_len V
  obtain ⟨b, c, e, hb, _⟩ := own_at ht.ov r hr ByteArray.empty
  injection e with e1 e2 e3
  subst e1 e2 e3
  refine (delete_one B b _ V.length r w2 V hB hr hl (own_R ht.ov)).mono ?_
  rintro e w3 ⟨rfl, k1, k2⟩
  have k3 := Tab.setRow ht k2 (V' := pv (V.eraseIdx r)) (R_own k1)
  refine ⟨_, _, _, rfl, k3.1, (blk_cell k3.2 0).trans rfl, blk_frozen k3.2 _, ?_, rfl⟩
  exact ((frm_grown k2 (fun k hk => .inr hk) : Frm (fun k => k = g ∨ _ = some k) w2 w3)).setCell _ _ (fun _ => .inl rfl)
set_option maxHeartbeats 4000000 in
set_option maxRecDepth 100000 in
theorem unsetX_calls (B : Nat) (S : Nat → Prop) (w : World) (g : Nat) (V : List S26) (A : List ByteArray) (st : Int) (x : ByteArray) (ht : TX B S w g V A st) (hB : B ≤ w.heap.size) (hV : Ord V) (hl : V.length ≤ 64) :
    Calls Try.prog 17 #[.pointer (some ⟨g, 0, none⟩), .string x] w fun e w' => e = .returned (.tuple #[]) ∧ Frm S w w' ∧ TX B (fun k => S k ∨ w.heap.size ≤ k) w' g (unsV V x) A st := by
  obtain ⟨vv, va, ht, hg0, hv0, ha0⟩ := ht
  have G0 := Lib.hid hg0
  have A0 := Lib.hid ha0
  clear hg0 ha0
  obtain ⟨r, b, hat⟩ := at_ex V x (by omega) hV
  obtain ⟨A1, c1, rfl⟩ := own_slice ht.ov
  cases b with
  | true =>
    obtain ⟨hr, k1, k2, hset, k3⟩ := hat.old (y := x) hV
    have HE : Hid (unsV V x = V.eraseIdx r) := Lib.hid hset
    have HT := Lib.hid ht
    have V0 := Lib.hid hv0
    have HBB := Lib.hid hB
    have HP := Lib.hid hat
    have HV := Lib.hid hV
    have HL := Lib.hid hl
    have HR : Hid (r < V.length) := Lib.hid hr
    have W1 : wrap64 ((r : Int) + 1) = ((r + 1 : Nat) : Int) := w64 r (by omega)
    clear k1 k2 k3 ht hv0 hV hl hB hat hset hr
    go_enter Try.func17, Try.ntmps17
    go_wp2_with (first | (go_at_call 32; (with_reducible refine (place_at HT.out (Nat.le_trans HL.out (by decide)) HV.out HP.out).mono ?_); rintro e w2 ⟨rfl, hb⟩; have HB2 : Hid (Below w.heap.size w w2) := Lib.hid hb; clear hb; have HT2 := Lib.hid (HT.out.frm HB2.out); have d0 : w2.cell? ⟨g, 0, none⟩ = some (.slice A1 (pv V).length c1) := (blk_cell HT2.out.bt 0).trans rfl) | (go_at_call 40; go_loud (refine (delX_at HT2.out (Nat.le_trans HBB.out HB2.out.size) HR.out (Nat.le_trans HL.out (by decide))).mono ?_); rintro e w3 ⟨A2, n2, c2, rfl, ht3, d3, f3, hf3, hn3⟩; have HT3 := Lib.hid ht3; have HF3 := Lib.hid hf3; have HN3 := Lib.hid hn3; clear ht3 hf3 hn3))
    refine bodyPost_end (results_none rfl _ _ _) rfl ?_
    exact ⟨rfl, (Frm.of_below HB2.out).trans HF3.out (fun k _ h => h.elim (fun e => e ▸ G0.out) (fun h => V0.out k h)), by rw [HE.out]; exact ⟨_, va, HT3.out, .inl G0.out, fun k hk => .inl (V0.out k (HN3.out ▸ hk)), fun k hk => .inl (A0.out k hk)⟩⟩
  | false =>
    have HE : Hid (unsV V x = V) := Lib.hid hat.none.1
    have HT := Lib.hid ht
    have V0 := Lib.hid hv0
    have HP := Lib.hid hat
    have HV := Lib.hid hV
    have HL := Lib.hid hl
    clear ht hv0 hV hl hB hat
    go_enter Try.func17, Try.ntmps17
    go_wp2_with (first | (go_at_call 32; (with_reducible refine (place_at HT.out (Nat.le_trans HL.out (by decide)) HV.out HP.out).mono ?_); rintro e w2 ⟨rfl, hb⟩; have HB2 : Hid (Below w.heap.size w w2) := Lib.hid hb; clear hb; have HT2 := Lib.hid (HT.out.frm HB2.out)))
    refine bodyPost_end (results_none rfl _ _ _) rfl ?_
    exact ⟨rfl, Frm.of_below HB2.out, by rw [HE.out]; exact ⟨_, va, HT2.out, .inl G0.out, fun k hk => .inl (V0.out k hk), fun k hk => .inl (A0.out k hk)⟩⟩
set_option maxHeartbeats 2000000 in
set_option maxRecDepth 100000 in
theorem setArgsX_any (B : Nat) (w : World) (g : Nat) (V : List (ByteArray × ByteArray)) (A l : List ByteArray) (st : Int) (vv va : Value) (P : Option Addr) (c : Nat) (ht : Tab B w g V A st vv va) (hB : B ≤ w.heap.size) (hl : Kd.string.C w P l.length l) :
    Calls Try.prog 19 #[.pointer (some ⟨g, 0, none⟩), .slice P l.length c] w fun e w' => e = .returned (.int .i64 (argsE l)) ∧ Frm (fun k => k = g) w w' ∧ ∃ va' A', Tab B w' g V A' st vv va' ∧ (∀ k, va'.ownBlock = some k → va.ownBlock = some k ∨ w.heap.size ≤ k) ∧ (argsE l = 0 → A' = l) ∧ (argsE l ≠ 0 → A' = A) := by
  by_cases h256 : 256 < l.length
  · have he : argsE l = 2 := by unfold argsE; rw [if_pos h256]
    have c0 : decide ((256 : Int) < (l.length : Int)) = true := decide_eq_true (by omega)
    rw [he]
    clear he
    go_enter Try.func19, Try.ntmps19
    go_wp2
    go_ret
    exact ⟨rfl, Frm.refl _ _, va, A, ht, fun _ h => .inl h, fun h => absurd h (by decide), fun _ => rfl⟩
  · have HT := Lib.hid ht
    have HL := Lib.hid hl
    have HBB := Lib.hid hB
    have c0 : decide ((256 : Int) < (l.length : Int)) = false := decide_eq_false (by omega)
    have HLN : Hid (l.length ≤ 256) := Lib.hid (by omega)
    clear ht hl hB h256
    go_enter Try.func19, Try.ntmps19
    go_wp2
    go_loopw [14] (fun s14 wr => ∃ i : Nat, i ≤ l.length ∧ s14 = .int .i64 i ∧ wr = w ∧ ∀ j (h : j < l.length), j < i → l[j].size ≤ 4096) (fun s14 _ => l.length - (intOf s14).toNat)
    case atStart => exact ⟨0, Nat.zero_le _, rfl, rfl, fun _ _ h => absurd h (by omega)⟩
    case round =>
      obtain ⟨i, hi, rfl, rfl, hall⟩ := hrel
      have HALL := Lib.hid hall
      by_cases hlt : i < l.length
      · obtain ⟨ad, ea, hx⟩ := Kd.at_string HL.out (i : Int) (by omega) (by omega)
        cases ea
        rw [Int.toNat_natCast] at hx
        have hrd : rdOf ByteArray.empty l (i : Int) = l[i] := by
          unfold rdOf; rw [Int.toNat_natCast, List.getD_eq_getElem?_getD, List.getElem?_eq_getElem hlt]; rfl
        rw [hrd] at hx
        generalize hsj : l[i] = sj at hx hrd
        have i0 : decide (0 ≤ (i : Int)) = true := decide_eq_true (by omega)
        have i1 : decide ((i : Int) < (l.length : Int)) = true := decide_eq_true (by omega)
        have HWR : Hid (wrap64 ((i : Int) + 1) = ((i + 1 : Nat) : Int)) := Lib.hid (by have := HLN.out; unfold wrap64; omega)
        have HLT := Lib.hid hlt
        by_cases hs : sj.size ≤ 4096
        · have c1 : decide ((4096 : Int) < (sj.size : Int)) = false := decide_eq_false (by omega)
          have HS : Hid (l[i].size ≤ 4096) := Lib.hid (hsj ▸ hs)
          clear hi hall hrd hsj hlt hs
          go_wp2
          go_roundw
          case rel =>
            refine ⟨i + 1, HLT.out, by rw [HWR.out], by first | rfl | trivial, fun j hj hji => ?_⟩
            by_cases e : j = i
            · subst e; exact HS.out
            · exact HALL.out j hj (by omega)
          case measure => exact meas_ _ _ HWR.out HLT.out
        · have c1 : decide ((4096 : Int) < (sj.size : Int)) = true := decide_eq_true (by omega)
          have he : argsE l = 2 := by
            unfold argsE
            rw [if_neg (by have := HLN.out; omega), if_neg]
            intro h
            have := of_decide_eq_true (List.all_eq_true.1 h _ (List.getElem_mem hlt))
            rw [hsj] at this
            exact hs this
          have HE := Lib.hid he
          clear hi hall hrd hsj hlt hs he
          go_wp2
          go_ret
          exact ⟨by rw [HE.out]; rfl, Frm.refl _ _, va, A, HT.out, fun _ h => .inl h, fun h => absurd (HE.out.symm.trans h) (by decide), fun _ => rfl⟩
      · obtain rfl : i = l.length := by omega
        have he : argsE l = 0 := by
          unfold argsE
          rw [if_neg (by have := HLN.out; omega), if_pos]
          rw [List.all_eq_true]
          intro x hx
          obtain ⟨j, hj, rfl⟩ := List.getElem_of_mem hx
          exact decide_eq_true (HALL.out j hj hj)
        have HE := Lib.hid he
        clear hi hall hlt he
        have HLI : Hid (Lies wr P (cellsS l)) := Lib.hid (by
          by_cases h0 : l = []
          · subst h0; exact .inl rfl
          · obtain ⟨ad, ea, _⟩ := Kd.at_string HL.out 0 (by omega) (by have := List.length_pos_iff.2 h0; omega)
            subst ea
            refine .inr ⟨ad, rfl, fun j u hj => ?_⟩
            have hjl : j < l.length := by have := (List.getElem?_eq_some_iff.1 hj).1; rwa [cellsS_len] at this
            obtain ⟨ad', e', hx⟩ := Kd.at_string HL.out (j : Int) (by omega) (by omega)
            injection e' with e'; subst e'
            rw [Int.toNat_natCast] at hx
            rw [hx, ← hj]
            unfold cellsS rdOf
            rw [List.getElem?_map, Int.toNat_natCast, List.getD_eq_getElem?_getD, List.getElem?_eq_getElem hjl]; rfl)
        go_wp2_with (go_at_call 42; (with_reducible refine (copyS_any P l.length c (cellsS l) _ (cellsS_len l) HLI.out (cellsS_one l) (by have := HLN.out; omega)).mono ?_); rintro e w1 ⟨v1, rfl, ho, hb⟩; obtain ⟨A1, c1, e1⟩ := own_slice ho; subst e1; have HO := Lib.hid (own_weaken ho HBB.out); have HOG := Lib.hid (own_ge ho); have HB1 := Lib.hid hb; have HT1 := Lib.hid (HT.out.frm hb); clear ho hb; have d1 : w1.cell? ⟨g, 1, none⟩ = some va := (blk_cell HT1.out.bt 1).trans rfl; have f1 := blk_frozen HT1.out.bt 1)
        go_ret
        exact ⟨by rw [HE.out]; rfl, (Frm.of_below HB1.out).setCell _ _ (fun _ => rfl), _, l, HT1.out.setA HO.out, fun k h => .inr (HOG.out k h), fun _ => rfl, fun h => absurd HE.out h⟩
set_option maxHeartbeats 2000000 in
set_option maxRecDepth 100000 in
theorem shiftX_ok (B : Nat) (w : World) (g : Nat) (V : List (ByteArray × ByteArray)) (A : List ByteArray) (st : Int) (vv va : Value) (ht : Tab B w g V A st vv va) (hB : B ≤ w.heap.size) (hA : A.length ≤ 1000000000000) (n : Nat) (hn : n ≤ A.length) :
    Calls Try.prog 20 #[.pointer (some ⟨g, 0, none⟩), .int .i64 n] w fun e w' => e = .returned (.bool true) ∧ Frm (fun k => k = g) w w' ∧ ∃ va', Tab B w' g V (A.drop n) st vv va' ∧ (∀ k, va'.ownBlock = some k → va.ownBlock = some k ∨ w.heap.size ≤ k) := by
  obtain ⟨A1, c1, rfl⟩ := own_slice ht.oa
  have d1 : w.cell? ⟨g, 1, none⟩ = some (.slice A1 A.length c1) := (blk_cell ht.bt 1).trans rfl
  have k0 : decide ((n : Int) < 0) = false := decide_eq_false (by omega)
  have k1 : decide ((A.length : Int) < (n : Int)) = false := decide_eq_false (by omega)
  have kn : ¬ A.length < n := by omega
  have HLIE := Lies.of_own ht.oa
  have HC := own_cap ht.oa
  have HT := Lib.hid ht
  have HBB := Lib.hid hB
  have HA := Lib.hid hA
  have HLN : Hid ((A.drop n).length = A.length - n) := Lib.hid (List.length_drop ..)
  by_cases hcn : c1 = n
  · have HLI : Hid (Lies w A1 (cellsS (A.drop n))) := Lib.hid (.inl (by rw [List.drop_of_length_le (by omega)]; rfl))
    have hz : c1 - n = 0 := by omega
    clear ht hB hn hA HLIE HC
    go_enter Try.func20, Try.ntmps20
    go_wp2_with (go_at_call 42; (with_reducible refine (copyS_any A1 (A.length - n) _ (cellsS (A.drop n)) _ ((cellsS_len _).trans HLN.out) HLI.out (cellsS_one _) (by have := HA.out; omega)).mono ?_); rintro e w1 ⟨v1, rfl, ho, hb⟩; obtain ⟨A2, c2, e1⟩ := own_slice ho; subst e1; have HO := Lib.hid (own_weaken ho HBB.out); have HOG := Lib.hid (own_ge ho); have HB1 := Lib.hid hb; have HT1 := Lib.hid (HT.out.frm hb); clear ho hb d1; have d1 : w1.cell? ⟨g, 1, none⟩ = some (.slice A1 A.length c1) := (blk_cell HT1.out.bt 1).trans rfl; have f1 := blk_frozen HT1.out.bt 1)
    go_ret
    exact ⟨rfl, (Frm.of_below HB1.out).setCell _ _ (fun _ => rfl), _, HT1.out.setA (by rw [HLN.out]; exact HO.out), fun k h => .inr (HOG.out k h)⟩
  · have HLI : Hid (Lies w (A1.map fun x => x.add n) (cellsS (A.drop n))) := Lib.hid (by
      have e : cellsS (A.drop n) = (cellsS A).drop n := by unfold cellsS; rw [List.map_drop]
      rw [e]
      cases A1 with
      | none =>
        rcases HLIE with h | ⟨_, e, _⟩
        · left; rw [h]; simp
        · cases e
      | some ad => exact HLIE.drop n)
    clear ht hB hn hA HLIE HC
    go_enter Try.func20, Try.ntmps20
    go_wp2_with (go_at_call 42; (with_reducible refine (copyS_any (A1.map fun x => x.add n) (A.length - n) _ (cellsS (A.drop n)) _ ((cellsS_len _).trans HLN.out) HLI.out (cellsS_one _) (by have := HA.out; omega)).mono ?_); rintro e w1 ⟨v1, rfl, ho, hb⟩; obtain ⟨A2, c2, e1⟩ := own_slice ho; subst e1; have HO := Lib.hid (own_weaken ho HBB.out); have HOG := Lib.hid (own_ge ho); have HB1 := Lib.hid hb; have HT1 := Lib.hid (HT.out.frm hb); clear ho hb d1; have d1 : w1.cell? ⟨g, 1, none⟩ = some (.slice A1 A.length c1) := (blk_cell HT1.out.bt 1).trans rfl; have f1 := blk_frozen HT1.out.bt 1)
    go_ret
    exact ⟨rfl, (Frm.of_below HB1.out).setCell _ _ (fun _ => rfl), _, HT1.out.setA (by rw [HLN.out]; exact HO.out), fun k h => .inr (HOG.out k h)⟩
theorem setArgsX_calls (B : Nat) (S : Nat → Prop) (w : World) (g : Nat) (V : List S26) (A l : List ByteArray) (st : Int) (P : Option Addr) (c : Nat) (ht : TX B S w g V A st) (hB : B ≤ w.heap.size) (hl : Kd.string.C w P l.length l) :
    Calls Try.prog 19 #[.pointer (some ⟨g, 0, none⟩), .slice P l.length c] w fun e w' => e = .returned (.int .i64 (argsE l)) ∧ Frm S w w' ∧ TX B (fun k => S k ∨ w.heap.size ≤ k) w' g V (if argsE l = 0 then l else A) st := by
  obtain ⟨vv, va, ht, hg, hv, ha⟩ := ht
  refine (setArgsX_any B w g (pv V) A l st vv va P c ht hB hl).mono ?_
  rintro e w' ⟨rfl, hf, va', A', ht', hat, h1, h2⟩
  refine ⟨rfl, hf.mono (fun i _ e => e ▸ hg), vv, va', ?_, .inl hg, fun k hk => .inl (hv k hk), fun k hk => (hat k hk).imp (ha k) (fun h => h)⟩
  by_cases h0 : argsE l = 0
  · rw [if_pos h0, ← h1 h0]; exact ht'
  · rw [if_neg h0, ← h2 h0]; exact ht'
theorem shiftX_calls (B : Nat) (S : Nat → Prop) (w : World) (g : Nat) (V : List S26) (A : List ByteArray) (st : Int) (n : Int) (ht : TX B S w g V A st) (hB : B ≤ w.heap.size) (hA : A.length ≤ 1000) :
    Calls Try.prog 20 #[.pointer (some ⟨g, 0, none⟩), .int .i64 n] w fun e w' => e = .returned (.bool (decide (0 ≤ n ∧ n ≤ A.length))) ∧ Frm S w w' ∧ TX B (fun k => S k ∨ w.heap.size ≤ k) w' g V (if 0 ≤ n ∧ n ≤ A.length then A.drop n.toNat else A) st := by
  obtain ⟨vv, va, ht, hg, hv, ha⟩ := ht
  by_cases h : 0 ≤ n ∧ n ≤ A.length
  · rw [if_pos h, decide_eq_true h]
    obtain ⟨m, rfl⟩ : ∃ m : Nat, n = m := ⟨n.toNat, by omega⟩
    refine (shiftX_ok B w g (pv V) A st vv va ht hB (by omega) m (by omega)).mono ?_
    rintro e w' ⟨rfl, hf, va', ht', hat⟩
    exact ⟨rfl, hf.mono (fun i _ e => e ▸ hg), vv, va', ht', .inl hg, fun k hk => .inl (hv k hk), fun k hk => (hat k hk).imp (ha k) (fun h => h)⟩
  · rw [if_neg h, decide_eq_false h]
    refine (shift_no B w g (pv V) A st vv va ht n (by omega)).mono ?_
    rintro e w' ⟨rfl, rfl⟩
    exact ⟨rfl, Frm.refl _ _, vv, va, ht, .inl hg, fun k hk => .inl (hv k hk), fun k hk => .inl (ha k hk)⟩
end Go.Proofs.Ytgcbipflmhbpcaa.PV
set_option linter.unusedVariables false
set_option linter.unusedSimpArgs false
namespace Go.Proofs.Ytgcbipflmhbpcaa.PV
open Go Go.RowKit Go.Proofs.Ytgcbipflmhbpcaa Go.Proofs.YtgcbipflmhbpcaaW.PrintWords Go.Proofs.YtgcbipflmhbpcaaW.PrintLast Go.Proofs.YtgcbipflmhbpcaaW.PrintMore
theorem cellB {w w' : World} {a : Addr} {v : Value} (h : w.cell? a = some v) (hb : Below w.heap.size w w') : w'.cell? a = some v := by
  have hlt : a.block < w.heap.size := by
    cases hh : w.heap[a.block]? with
    | some o => exact (Array.getElem?_eq_some_iff.1 hh).1
    | none => simp [World.cell?, hh] at h
  exact (World.cell?_of_block (w := w) (hb.block _ hlt)).trans h
theorem three_put {w : World} {g t : Nat} {a b c x y z : Value} (h : w.heap[g]? = some (.cells #[a, b, c] t (0, 0))) : (((w.setCell ⟨g, 0, none⟩ x).setCell ⟨g, 1, none⟩ y).setCell ⟨g, 2, none⟩ z).heap[g]? = some (.cells #[x, y, z] t (0, 0)) :=
  blk_put (blk_put (blk_put h 0 x rfl) 1 y rfl) 2 z rfl
set_option maxHeartbeats 4000000 in
set_option maxRecDepth 100000 in
theorem shown_calls (B : Nat) (w : World) (g : Nat) (V : List S26) (A : List ByteArray) (st : Int) (ht : TB B w g V A st) (hl : V.length ≤ 1000) (hA : A.length ≤ 1000) :
    Calls Try.prog 12 #[.pointer (some ⟨g, 0, none⟩)] w fun e w' => ∃ A2 c2 A3 c3, e = .returned (.agg #[.slice A2 V.length c2, .slice A3 A.length c3, .int .i64 st]) ∧ V.length ≤ c2 ∧ A.length ≤ c3 ∧ Kd.C k26 w' A2 V.length V ∧ Kd.C Kd.string w' A3 A.length A ∧ Below w.heap.size w w' := by
  have hu36 := Try.underlying36
  have HT := Lib.hid ht
  have d2 : w.cell? ⟨g, 2, none⟩ = some (.int .i64 st) := by obtain ⟨vv, va, h⟩ := ht; exact (blk_cell h.bt 2).trans rfl
  have HL := Lib.hid hl
  have HA := Lib.hid hA
  clear ht hl hA
  go_enter Try.func12, Try.ntmps12
  go_upto_region 1 with (first | ((with_reducible refine gate_dst (N := 2) rfl ?_); refine box_event ?hg (N := 2) ?hd (cs := #[.slice none 0 0, .slice none 0 0, .int .i64 0]) (t := 36) ?hr ?_; (case hd => rfl); (case hg => rfl); (case hr => first | (go_simp; done) | (go_simp; rfl)); intro gb hg w1 hbox hb; have HB1 := Lib.hid hb; have BX := Lib.hid hbox; have E1 : Hid (w.heap.size ≤ gb) := Lib.hid (by rw [hg]; exact Nat.le_refl _); have HT1 := Lib.hid (TB.frm HT.out hb); have s2 := cellB d2 hb; clear hbox hb hg))
  refine start_ (n := 10) (S := (fun w' => w'.cell? ⟨g, 2, none⟩ = some (.int .i64 st))) (ds := [9]) #[false, false, false, false, false, false, false, false, false, false] (by kernel_rfl) rfl rfl s2 (fun hHeld => ?_)
  have HBD : Hid (Below w1.heap.size w1 (World.drew w1)) := Lib.hid ((Below.refl _ w1).drew)
  clear s2 d2
  generalize World.drew _ = wd at HBD hHeld ⊢
  iterate 5 (first | ((first | refine takeS_ 0 (N := some 3) (v := ?_) (a' := ?_) rfl rfl (by decide +kernel) (fun _ _ _ h => h) (Or.inl ⟨by rfl, ?_⟩) hHeld ?_ ?_ | refine takeS_ 2 (N := some 5) (v := ?_) (a' := ?_) rfl rfl (by decide +kernel) (fun _ _ _ h => h) (Or.inl ⟨by rfl, ?_⟩) hHeld ?_ ?_ | refine takeS_ 4 (N := some 7) (v := ?_) (a' := ?_) rfl rfl (by decide +kernel) (fun _ _ _ h => h) (Or.inl ⟨by rfl, ?_⟩) hHeld ?_ ?_ | refine takeS_ 5 (N := some 8) (v := ?_) (a' := ?_) rfl rfl (by decide +kernel) (fun _ _ _ h => h) (Or.inl ⟨by rfl, ?_⟩) hHeld ?_ ?_ | refine takeS_ 6 (N := some 9) (v := ?_) (a' := ?_) rfl rfl (by decide +kernel) (fun _ _ _ h => h) (Or.inl ⟨by rfl, ?_⟩) hHeld ?_ ?_); rotate_left; (rintro w' (s0); go_simp; first | done | (with_reducible rfl) | rfl); rotate_left; (simp only [Act.put, List.setIfInBounds_toArray, List.set_cons_zero, List.set_cons_succ, i64_w, i32_w]; rfl)) | ((first | refine takeS_ 0 (N := some 3) (v := undef) (a' := ?_) rfl rfl (by decide +kernel) (fun _ _ _ h => h) (Or.inr ⟨by rfl, rfl⟩) hHeld ?_ ?_ | refine takeS_ 2 (N := some 5) (v := undef) (a' := ?_) rfl rfl (by decide +kernel) (fun _ _ _ h => h) (Or.inr ⟨by rfl, rfl⟩) hHeld ?_ ?_ | refine takeS_ 4 (N := some 7) (v := undef) (a' := ?_) rfl rfl (by decide +kernel) (fun _ _ _ h => h) (Or.inr ⟨by rfl, rfl⟩) hHeld ?_ ?_ | refine takeS_ 5 (N := some 8) (v := undef) (a' := ?_) rfl rfl (by decide +kernel) (fun _ _ _ h => h) (Or.inr ⟨by rfl, rfl⟩) hHeld ?_ ?_ | refine takeS_ 6 (N := some 9) (v := undef) (a' := ?_) rfl rfl (by decide +kernel) (fun _ _ _ h => h) (Or.inr ⟨by rfl, rfl⟩) hHeld ?_ ?_); rotate_left; (simp only [Act.put, List.setIfInBounds_toArray, List.set_cons_zero, List.set_cons_succ, i64_w, i32_w]; rfl)))
  iterate 1 (first | ((first | refine takeS_ 7 (N := some 10) (v := ?_) (a' := ?_) rfl rfl (by decide +kernel) (fun _ _ _ h => h) (Or.inl ⟨by rfl, ?_⟩) hHeld ?_ ?_); rotate_left; (rintro w' (s0); go_simp; first | done | (with_reducible rfl) | rfl); rotate_left; (simp only [Act.put, List.setIfInBounds_toArray, List.set_cons_zero, List.set_cons_succ, i64_w, i32_w]; rfl)) | ((first | refine takeS_ 7 (N := some 10) (v := undef) (a' := ?_) rfl rfl (by decide +kernel) (fun _ _ _ h => h) (Or.inr ⟨by rfl, rfl⟩) hHeld ?_ ?_); rotate_left; (simp only [Act.put, List.setIfInBounds_toArray, List.set_cons_zero, List.set_cons_succ, i64_w, i32_w]; rfl)))
  refine oneS_ 1 (N := some 4) rfl rfl (by kernel_rfl) (by decide) (fun K hK => ?_)
  refine goes_ Try.func22 (by kernel_rfl) rfl #[.pointer (some ⟨g, 0, none⟩)] (by rfl) rfl rfl (by first | rfl | (simp [Act.eval]; done) | (simp [Act.eval, Act.put]; done)) ?_
  refine (vars_calls B wd g V A st (TB.frm HT1.out HBD.out) HL.out).mono ?_
  rintro e wv ⟨A2, c2, rfl, hn2, hc2, hC2, hbv⟩
  have HN2 : Hid (∀ ad, A2 = some ad → w1.heap.size ≤ ad.block) := Lib.hid (fun ad e => Nat.le_trans HBD.out.size (hn2 ad e))
  refine ⟨_, rfl, ?_⟩
  refine hK.out _ _ (cellB hHeld hbv) (fun hHeld => ?_)
  clear hK K
  have HBV := Lib.hid (below_step HBD.out hbv)
  have HBV2 := Lib.hid hbv
  have HC2 := Lib.hid hC2
  have HE2 := Lib.hid hc2
  clear hbv hC2 hc2 hn2
  refine norm_ (a' := ?_) ?_ ?_
  rotate_left
  · show Act.put _ (some 4) _ = _
    simp only [Act.put, List.setIfInBounds_toArray, List.set_cons_zero, List.set_cons_succ, i64_w, i32_w]
    rfl
  refine oneS_ 3 (N := some 6) rfl rfl (by kernel_rfl) (by decide) (fun K hK => ?_)
  refine goes_ Try.func23 (by kernel_rfl) rfl #[.pointer (some ⟨g, 0, none⟩)] (by rfl) rfl rfl (by first | rfl | (simp [Act.eval]; done) | (simp [Act.eval, Act.put]; done)) ?_
  refine (args_calls B wv g V A st (TB.frm HT1.out HBV.out) HA.out).mono ?_
  rintro e wx ⟨A3, c3, rfl, hn3, hc3, hC3, hbv⟩
  have HN3 : Hid (∀ ad, A3 = some ad → w1.heap.size ≤ ad.block) := Lib.hid (fun ad e => Nat.le_trans HBV.out.size (hn3 ad e))
  refine ⟨_, rfl, ?_⟩
  refine hK.out _ _ (cellB hHeld hbv) (fun hHeld => ?_)
  clear hK K
  have HBX := Lib.hid (below_step HBV.out hbv)
  have HC2' := Lib.hid (Kd.C_below HC2.out hbv)
  have HC3 := Lib.hid hC3
  have HE3 := Lib.hid hc3
  clear hbv hC3 hc3 hn3 HBV2 HC2 HBV
  refine norm_ (a' := ?_) ?_ ?_
  rotate_left
  · show Act.put _ (some 6) _ = _
    simp only [Act.put, List.setIfInBounds_toArray, List.set_cons_zero, List.set_cons_succ, i64_w, i32_w]
    rfl
  iterate 1 (first | ((first | refine takeS_ 8 (N := some 11) (v := ?_) (a' := ?_) rfl rfl (by decide +kernel) (fun _ _ _ h => h) (Or.inl ⟨by rfl, ?_⟩) hHeld ?_ ?_); rotate_left; (rintro w' (s0); go_simp; first | done | (with_reducible rfl) | rfl); rotate_left; (simp only [Act.put, List.setIfInBounds_toArray, List.set_cons_zero, List.set_cons_succ, i64_w, i32_w]; rfl)) | ((first | refine takeS_ 8 (N := some 11) (v := undef) (a' := ?_) rfl rfl (by decide +kernel) (fun _ _ _ h => h) (Or.inr ⟨by rfl, rfl⟩) hHeld ?_ ?_); rotate_left; (simp only [Act.put, List.setIfInBounds_toArray, List.set_cons_zero, List.set_cons_succ, i64_w, i32_w]; rfl)))
  have BX2 := Lib.hid (blk_below BX.out HBX.out)
  have x0 : wx.cell? ⟨gb, 0, none⟩ = some (.slice none 0 0) := (blk_cell BX2.out 0).trans rfl
  have x1 : wx.cell? ⟨gb, 1, none⟩ = some (.slice none 0 0) := (blk_cell BX2.out 1).trans rfl
  have x2 : wx.cell? ⟨gb, 2, none⟩ = some (.int .i64 0) := (blk_cell BX2.out 2).trans rfl
  have f0 := blk_frozen BX2.out 0
  have f1 := blk_frozen BX2.out 1
  have f2 := blk_frozen BX2.out 2
  clear hHeld
  refine lastS_ 9 (N := none) rfl rfl (by kernel_rfl) (by decide) (fun K hK => ?_)
  refine skip_ (w1 := ?_) (by rfl) rfl ?_ ?_
  rotate_left
  · go_simp
    rfl
  refine hK.out _ _ ?_
  clear hK K
  refine done_ (by kernel_rfl) ?_
  go_wp2
  have BX3 := three_put (x := .slice A2 V.length c2) (y := .slice A3 A.length c3) (z := .int .i64 st) BX2.out
  have HB3 : Below w.heap.size w (((wx.setCell ⟨gb, 0, none⟩ (.slice A2 V.length c2)).setCell ⟨gb, 1, none⟩ (.slice A3 A.length c3)).setCell ⟨gb, 2, none⟩ (.int .i64 st)) :=
    (((below_step HB1.out HBX.out).setCell E1.out _).setCell E1.out _).setCell E1.out _
  have HK : KeepBut wx (((wx.setCell ⟨gb, 0, none⟩ (.slice A2 V.length c2)).setCell ⟨gb, 1, none⟩ (.slice A3 A.length c3)).setCell ⟨gb, 2, none⟩ (.int .i64 st)) gb none := (((KeepBut.refl _ _ _).set_ 0 _).set_ 1 _).set_ 2 _
  have HLT : gb < w1.heap.size := blk_lt BX.out
  have HC2'' := Kd.C_foot_ne (fun h => h) HC2'.out (fun ad e _ => by have := HN2.out ad e; omega) _ HK
  have HC3'' := Kd.C_foot_ne (fun h => h) HC3.out (fun ad e _ => by have := HN3.out ad e; omega) _ HK
  generalize (((wx.setCell ⟨gb, 0, none⟩ (.slice A2 V.length c2)).setCell ⟨gb, 1, none⟩ (.slice A3 A.length c3)).setCell ⟨gb, 2, none⟩ (.int .i64 st)) = wz at *
  refine bodyPost_ret (results_cell_row rfl _ _ gb 36 #[.slice A2 V.length c2, .slice A3 A.length c3, .int .i64 st] (0, 0) _ rfl BX3 hu36 rfl (by kernel_rfl)) rfl ?_
  exact ⟨A2, c2, A3, c3, rfl, HE2.out, HE3.out, HC2'', HC3'', HB3⟩
end Go.Proofs.Ytgcbipflmhbpcaa.PV
namespace Go.Proofs.Ytgcbipflmhbpcaa.PV
open Go.RowKit Go.Proofs.YtgcbipflmhbpcaaW.PrintWords Go.Proofs.YtgcbipflmhbpcaaW.PrintLast Go.Proofs.YtgcbipflmhbpcaaW.PrintMore
attribute [local go_sem] max2_int min2_int max_two min_two max_three min_three max_four min_four   -- for this text's walks alone
set_option linter.unusedVariables false
set_option linter.unusedSimpArgs false
theorem w64_PV13 (x : Int) : wrap64 (x % 256) = x % 256 := by unfold wrap64; omega
def rehearsalref11_Table_Shift.f (l0_0 : List (S26)) (l0_1 : List ByteArray) (a0_2 : Int) (a1 : Int) : Option ((List (S26)) × List ByteArray × Int × Bool) := if a1 < 0 then (some (l0_0, l0_1, a0_2, false)) else (if a1 > (l0_1.length : Int) then (some (l0_0, l0_1, a0_2, false)) else (if 0 ≤ a1 then (if a1 ≤ (l0_1.length : Int) then (some (l0_0, (l0_1.drop (a1 : Int).toNat), a0_2, true)) else (none)) else (none)))
set_option maxHeartbeats 8000000 in
set_option maxRecDepth 100000 in
theorem rehearsalref11_Table_Shift.calls (P0_0_ : Nat → Prop) (A0_0 : Option Addr) (c0_0 : Nat) (l0_0 : List (S26)) (P0_1_ : Nat → Prop) (A0_1 : Option Addr) (c0_1 : Nat) (l0_1 : List ByteArray) (a0_2 : Int) (a1 : Int) (r1 : List (S26)) (r2 : List ByteArray) (r3 : Int) (r4 : Bool) (w : World) (hs0_0 : Kd.V k26 26 w w.heap.size (fun k_ => P0_0_ k_) (.slice A0_0 l0_0.length c0_0) l0_0) (hs0_1 : Kd.V Kd.string 9 w w.heap.size (fun k_ => P0_1_ k_) (.slice A0_1 l0_1.length c0_1) l0_1) (h : rehearsalref11_Table_Shift.f l0_0 l0_1 a0_2 a1 = some (r1, r2, r3, r4)) :
    Calls Try.prog 27 #[.agg #[.slice A0_0 l0_0.length c0_0, .slice A0_1 l0_1.length c0_1, .int .i64 a0_2], .int .i64 a1] w fun e w' => ∃ v0_ v1_ : Value, e = .returned (.tuple #[.agg #[v0_, v1_, .int .i64 r3], .bool r4]) ∧ Kd.V k26 26 w' w.heap.size (fun k_ => ((P0_0_ k_ ∨ P0_1_ k_) ∨ w.heap.size ≤ k_)) v0_ r1 ∧ Kd.V Kd.string 9 w' w.heap.size (fun k_ => ((P0_0_ k_ ∨ P0_1_ k_) ∨ w.heap.size ≤ k_)) v1_ r2 ∧ Below w.heap.size w w' := by
  have hu36 := Try.underlying36
  have HO0_0 := Aside0.mk (show Kd.V k26 26 w w.heap.size (fun k_ => ((P0_0_ k_ ∨ P0_1_ k_) ∨ w.heap.size ≤ k_)) (.slice A0_0 l0_0.length c0_0) l0_0 from Kd.V_mono hs0_0 (fun k_ hk => .inl (.inl hk)))
  have HO0_1 := Aside0.mk (show Kd.V Kd.string 9 w w.heap.size (fun k_ => ((P0_0_ k_ ∨ P0_1_ k_) ∨ w.heap.size ≤ k_)) (.slice A0_1 l0_1.length c0_1) l0_1 from Kd.V_mono hs0_1 (fun k_ hk => .inl (.inr hk)))
  have HB := Aside0.mk (Below.refl w.heap.size w)
  have H : (if a1 < 0 then (some (l0_0, l0_1, a0_2, false)) else (if a1 > (l0_1.length : Int) then (some (l0_0, l0_1, a0_2, false)) else (if 0 ≤ a1 then (if a1 ≤ (l0_1.length : Int) then (some (l0_0, (l0_1.drop (a1 : Int).toNat), a0_2, true)) else (none)) else (none)))) = some (r1, r2, r3, r4) := h
  clear h
  by_cases c3 : a1 < 0
  · rw [if_pos c3] at H
    have c3b0 : decide (a1 < 0) = true := decide_eq_true c3
    clear c3
    simp only [Option.some.injEq, Prod.mk.injEq] at H
    obtain ⟨rfl, rfl, rfl, rfl⟩ := H
    go_enter Try.func27, Try.ntmps27
    go_wp2_with (first | ((with_reducible refine gate_dst (N := 2) rfl ?_); (try (refine gate_guard (by rfl) ?_; dsimp only)); refine box_event ?hg (N := 2) ?hd (cs := #[.slice A0_0 l0_0.length c0_0, .slice A0_1 l0_1.length c0_1, .int .i64 a0_2]) (t := 36) ?hr ?_; (case hd => rfl); (case hg => rfl); (case hr => first | (go_simp; done) | (go_simp; rfl)); intro gb152 hg w4 hbox hb; have n0_ := Aside0.mk (Kd.V_below (Kd.V_elderB (by (with_reducible repeat (first | apply Kd.V_alloc | apply Kd.V_drewN | apply Kd.V_drew)); exact HO0_0.out) gb152 (Nat.le_of_eq hg.symm)) hb); have n1_ := Aside0.mk (Kd.V_below (Kd.V_elderB (by (with_reducible repeat (first | apply Kd.V_alloc | apply Kd.V_drewN | apply Kd.V_drew)); exact HO0_1.out) gb152 (Nat.le_of_eq hg.symm)) hb); have n2_ := Aside0.mk (below_step (by repeat (first | (with_reducible first | exact HB.out | apply below_alloc | apply pw_below_drewN | apply below_drew1) | exact HB.out)) hb); have n3_ := Aside0.mk (hbox); have n4_ := Aside0.mk ((by rw [hg]; exact (below_size (by repeat (first | (with_reducible first | exact HB.out | apply below_alloc | apply pw_below_drewN | apply below_drew1) | exact HB.out))) : w.heap.size ≤ gb152)); have n5_ := Aside0.mk ((by rw [hg]; exact (below_size (by repeat (first | (with_reducible first | exact HB.out | apply below_alloc | apply pw_below_drewN | apply below_drew1) | exact HB.out))) : w.heap.size ≤ gb152)); clear HO0_0; clear HO0_1; clear HB; have HO0_0 := n0_; have HO0_1 := n1_; have HB := n2_; have BK152 := n3_; have GW152 := n4_; have GE152 := n5_; clear n0_ n1_ n2_ n3_ n4_ n5_; clear hb hbox hg) | ((with_reducible refine gate_dst (N := 4) rfl ?_); (try (refine gate_guard (by rfl) ?_; dsimp only)); refine box_event ?hg (N := 4) ?hd (cs := #[.slice none 0 0, .slice none 0 0, .int .i64 0]) (t := 36) ?hr ?_; (case hd => rfl); (case hg => rfl); (case hr => first | (go_simp; done) | (go_simp; rfl)); intro gb153 hg w5 hbox hb; have n0_ := Aside0.mk (Kd.V_below (Kd.V_elderB (by (with_reducible repeat (first | apply Kd.V_alloc | apply Kd.V_drewN | apply Kd.V_drew)); exact HO0_0.out) gb153 (Nat.le_of_eq hg.symm)) hb); have n1_ := Aside0.mk (Kd.V_below (Kd.V_elderB (by (with_reducible repeat (first | apply Kd.V_alloc | apply Kd.V_drewN | apply Kd.V_drew)); exact HO0_1.out) gb153 (Nat.le_of_eq hg.symm)) hb); have n2_ := Aside0.mk (blk_below (g := gb152) (o := .cells #[.slice A0_0 l0_0.length c0_0, .slice A0_1 l0_1.length c0_1, .int .i64 a0_2] 36 (0, 0)) (by (with_reducible repeat (first | refine blk_drewN ?_ _ | refine blk_drew ?_ | refine blk_alloc ?_ _)); exact BK152.out) hb); have n3_ := Aside0.mk (below_step (by repeat (first | (with_reducible first | exact HB.out | apply below_alloc | apply pw_below_drewN | apply below_drew1 | refine below_set ?_ GE152.out) | exact HB.out)) hb); have n4_ := Aside0.mk (hbox); have n5_ := Aside0.mk ((by rw [hg]; exact (below_size (by repeat (first | (with_reducible first | exact HB.out | apply below_alloc | apply pw_below_drewN | apply below_drew1 | refine below_set ?_ GE152.out) | exact HB.out))) : w.heap.size ≤ gb153)); have n6_ := Aside0.mk ((by rw [hg]; exact (below_size (by repeat (first | (with_reducible first | exact HB.out | apply below_alloc | apply pw_below_drewN | apply below_drew1 | refine below_set ?_ GE152.out) | exact HB.out))) : w.heap.size ≤ gb153)); have n7_ := Aside0.mk ((by rw [hg]; exact Nat.ne_of_lt (blk_lt (g := gb152) (o := .cells #[.slice A0_0 l0_0.length c0_0, .slice A0_1 l0_1.length c0_1, .int .i64 a0_2] 36 (0, 0)) (by (with_reducible repeat (first | refine blk_drewN ?_ _ | refine blk_drew ?_ | refine blk_alloc ?_ _)); exact BK152.out)) : gb152 ≠ gb153)); have n8_ := Aside0.mk ((by rw [hg]; exact Nat.ne_of_gt (blk_lt (g := gb152) (o := .cells #[.slice A0_0 l0_0.length c0_0, .slice A0_1 l0_1.length c0_1, .int .i64 a0_2] 36 (0, 0)) (by (with_reducible repeat (first | refine blk_drewN ?_ _ | refine blk_drew ?_ | refine blk_alloc ?_ _)); exact BK152.out)) : gb153 ≠ gb152)); clear HO0_0; clear HO0_1; clear BK152; clear HB; have HO0_0 := n0_; have HO0_1 := n1_; have BK152 := n2_; have HB := n3_; have BK153 := n4_; have GW153 := n5_; have GE153 := n6_; have NB152_153 := n7_; have NB153_152 := n8_; clear n0_ n1_ n2_ n3_ n4_ n5_ n6_ n7_ n8_; clear hb hbox hg; have hnb6 := NB152_153.out; have hnc6 := NB153_152.out; have hcz7_0 : w5.cell? ⟨gb152, 0, none⟩ = some (.slice A0_0 l0_0.length c0_0) := (blk_cell BK152.out 0).trans rfl; have hcz7_1 : w5.cell? ⟨gb152, 1, none⟩ = some (.slice A0_1 l0_1.length c0_1) := (blk_cell BK152.out 1).trans rfl; have hcz7_2 : w5.cell? ⟨gb152, 2, none⟩ = some (.int .i64 a0_2) := (blk_cell BK152.out 2).trans rfl; have hfz7_0 := blk_frozen BK152.out 0; have hfz7_1 := blk_frozen BK152.out 1; have hfz7_2 := blk_frozen BK152.out 2; have hcz8_0 : w5.cell? ⟨gb153, 0, none⟩ = some (.slice none 0 0) := (blk_cell BK153.out 0).trans rfl; have hcz8_1 : w5.cell? ⟨gb153, 1, none⟩ = some (.slice none 0 0) := (blk_cell BK153.out 1).trans rfl; have hcz8_2 : w5.cell? ⟨gb153, 2, none⟩ = some (.int .i64 0) := (blk_cell BK153.out 2).trans rfl; have hfz8_0 := blk_frozen BK153.out 0; have hfz8_1 := blk_frozen BK153.out 1; have hfz8_2 := blk_frozen BK153.out 2))
    refine bodyPost_ret (results_ct rfl _ _ gb153 36 #[.slice A0_0 l0_0.length c0_0, .slice A0_1 l0_1.length c0_1, .int .i64 a0_2] (0, 0) _ rfl (by (with_reducible repeat (first | refine blk_drewN ?_ _ | refine blk_drew ?_ | refine blk_alloc ?_ _)); refine blk_put (cs := #[.slice A0_0 l0_0.length c0_0, .slice A0_1 l0_1.length c0_1, .int .i64 0]) ?_ 2 _ (by first | rfl | (simp only [w64_PV13]; rfl) | (simp [w64_PV13]; done)); (with_reducible repeat (first | refine blk_drewN ?_ _ | refine blk_drew ?_ | refine blk_alloc ?_ _)); refine blk_put (cs := #[.slice A0_0 l0_0.length c0_0, .slice none 0 0, .int .i64 0]) ?_ 1 _ (by first | rfl | (simp only [w64_PV13]; rfl) | (simp [w64_PV13]; done)); (with_reducible repeat (first | refine blk_drewN ?_ _ | refine blk_drew ?_ | refine blk_alloc ?_ _)); refine blk_put (cs := #[.slice none 0 0, .slice none 0 0, .int .i64 0]) ?_ 0 _ (by first | rfl | (simp only [w64_PV13]; rfl) | (simp [w64_PV13]; done)); (with_reducible repeat (first | refine blk_drewN ?_ _ | refine blk_drew ?_ | refine blk_alloc ?_ _)); exact BK153.out) Try.underlying36 rfl (by kernel_rfl)) rfl ?_
    exact ⟨_, _, by first | rfl | (simp [errW_none, errW_some] <;> rfl) | (simp [*, errW_none, errW_some] <;> rfl), by (with_reducible repeat (first | apply Kd.V_alloc | apply Kd.V_drewN | apply Kd.V_drew)); exact Kd.V_mono (Kd.V_far (p := ⟨gb153, 2, none⟩) (Kd.V_far (p := ⟨gb153, 1, none⟩) (Kd.V_far (p := ⟨gb153, 0, none⟩) (Kd.V_mono HO0_0.out (fun k_ hk => (⟨hk, by first | exact hk.2 | exact hk.2.2 | exact hk.2.1⟩ : _ ∧ k_ ≠ gb153))) (fun _ hk => hk.2) (.slice A0_0 l0_0.length c0_0)) (fun _ hk => hk.2) (.slice A0_1 l0_1.length c0_1)) (fun _ hk => hk.2) (.int .i64 a0_2)) (fun _ hk => by first | exact hk.1.1.1 | exact hk.1.1 | exact hk.1), by (with_reducible repeat (first | apply Kd.V_alloc | apply Kd.V_drewN | apply Kd.V_drew)); exact Kd.V_mono (Kd.V_far (p := ⟨gb153, 2, none⟩) (Kd.V_far (p := ⟨gb153, 1, none⟩) (Kd.V_far (p := ⟨gb153, 0, none⟩) (Kd.V_mono HO0_1.out (fun k_ hk => (⟨hk, by first | exact hk.2 | exact hk.2.2 | exact hk.2.1⟩ : _ ∧ k_ ≠ gb153))) (fun _ hk => hk.2) (.slice A0_0 l0_0.length c0_0)) (fun _ hk => hk.2) (.slice A0_1 l0_1.length c0_1)) (fun _ hk => hk.2) (.int .i64 a0_2)) (fun _ hk => by first | exact hk.1.1.1 | exact hk.1.1 | exact hk.1), by repeat (first | (with_reducible first | exact HB.out | apply below_alloc | apply pw_below_drewN | apply below_drew1 | refine below_set ?_ GE152.out | refine below_set ?_ GE153.out) | exact HB.out)⟩
  · rw [if_neg c3] at H
    have c3b0 : decide (a1 < 0) = false := decide_eq_false c3
    clear c3
    by_cases c9 : a1 > (l0_1.length : Int)
    · rw [if_pos c9] at H
      have c9b0 : decide ((l0_1.length : Int) < a1) = true := decide_eq_true c9
      clear c9
      simp only [Option.some.injEq, Prod.mk.injEq] at H
      obtain ⟨rfl, rfl, rfl, rfl⟩ := H
      go_enter Try.func27, Try.ntmps27
      go_wp2_with (first | ((with_reducible refine gate_dst (N := 2) rfl ?_); (try (refine gate_guard (by rfl) ?_; dsimp only)); refine box_event ?hg (N := 2) ?hd (cs := #[.slice A0_0 l0_0.length c0_0, .slice A0_1 l0_1.length c0_1, .int .i64 a0_2]) (t := 36) ?hr ?_; (case hd => rfl); (case hg => rfl); (case hr => first | (go_simp; done) | (go_simp; rfl)); intro gb152 hg w10 hbox hb; have n0_ := Aside0.mk (Kd.V_below (Kd.V_elderB (by (with_reducible repeat (first | apply Kd.V_alloc | apply Kd.V_drewN | apply Kd.V_drew)); exact HO0_0.out) gb152 (Nat.le_of_eq hg.symm)) hb); have n1_ := Aside0.mk (Kd.V_below (Kd.V_elderB (by (with_reducible repeat (first | apply Kd.V_alloc | apply Kd.V_drewN | apply Kd.V_drew)); exact HO0_1.out) gb152 (Nat.le_of_eq hg.symm)) hb); have n2_ := Aside0.mk (below_step (by repeat (first | (with_reducible first | exact HB.out | apply below_alloc | apply pw_below_drewN | apply below_drew1) | exact HB.out)) hb); have n3_ := Aside0.mk (hbox); have n4_ := Aside0.mk ((by rw [hg]; exact (below_size (by repeat (first | (with_reducible first | exact HB.out | apply below_alloc | apply pw_below_drewN | apply below_drew1) | exact HB.out))) : w.heap.size ≤ gb152)); have n5_ := Aside0.mk ((by rw [hg]; exact (below_size (by repeat (first | (with_reducible first | exact HB.out | apply below_alloc | apply pw_below_drewN | apply below_drew1) | exact HB.out))) : w.heap.size ≤ gb152)); clear HO0_0; clear HO0_1; clear HB; have HO0_0 := n0_; have HO0_1 := n1_; have HB := n2_; have BK152 := n3_; have GW152 := n4_; have GE152 := n5_; clear n0_ n1_ n2_ n3_ n4_ n5_; clear hb hbox hg) | ((with_reducible refine gate_dst (N := 4) rfl ?_); (try (refine gate_guard (by rfl) ?_; dsimp only)); refine box_event ?hg (N := 4) ?hd (cs := #[.slice none 0 0, .slice none 0 0, .int .i64 0]) (t := 36) ?hr ?_; (case hd => rfl); (case hg => rfl); (case hr => first | (go_simp; done) | (go_simp; rfl)); intro gb153 hg w11 hbox hb; have n0_ := Aside0.mk (Kd.V_below (Kd.V_elderB (by (with_reducible repeat (first | apply Kd.V_alloc | apply Kd.V_drewN | apply Kd.V_drew)); exact HO0_0.out) gb153 (Nat.le_of_eq hg.symm)) hb); have n1_ := Aside0.mk (Kd.V_below (Kd.V_elderB (by (with_reducible repeat (first | apply Kd.V_alloc | apply Kd.V_drewN | apply Kd.V_drew)); exact HO0_1.out) gb153 (Nat.le_of_eq hg.symm)) hb); have n2_ := Aside0.mk (blk_below (g := gb152) (o := .cells #[.slice A0_0 l0_0.length c0_0, .slice A0_1 l0_1.length c0_1, .int .i64 a0_2] 36 (0, 0)) (by (with_reducible repeat (first | refine blk_drewN ?_ _ | refine blk_drew ?_ | refine blk_alloc ?_ _)); exact BK152.out) hb); have n3_ := Aside0.mk (below_step (by repeat (first | (with_reducible first | exact HB.out | apply below_alloc | apply pw_below_drewN | apply below_drew1 | refine below_set ?_ GE152.out) | exact HB.out)) hb); have n4_ := Aside0.mk (hbox); have n5_ := Aside0.mk ((by rw [hg]; exact (below_size (by repeat (first | (with_reducible first | exact HB.out | apply below_alloc | apply pw_below_drewN | apply below_drew1 | refine below_set ?_ GE152.out) | exact HB.out))) : w.heap.size ≤ gb153)); have n6_ := Aside0.mk ((by rw [hg]; exact (below_size (by repeat (first | (with_reducible first | exact HB.out | apply below_alloc | apply pw_below_drewN | apply below_drew1 | refine below_set ?_ GE152.out) | exact HB.out))) : w.heap.size ≤ gb153)); have n7_ := Aside0.mk ((by rw [hg]; exact Nat.ne_of_lt (blk_lt (g := gb152) (o := .cells #[.slice A0_0 l0_0.length c0_0, .slice A0_1 l0_1.length c0_1, .int .i64 a0_2] 36 (0, 0)) (by (with_reducible repeat (first | refine blk_drewN ?_ _ | refine blk_drew ?_ | refine blk_alloc ?_ _)); exact BK152.out)) : gb152 ≠ gb153)); have n8_ := Aside0.mk ((by rw [hg]; exact Nat.ne_of_gt (blk_lt (g := gb152) (o := .cells #[.slice A0_0 l0_0.length c0_0, .slice A0_1 l0_1.length c0_1, .int .i64 a0_2] 36 (0, 0)) (by (with_reducible repeat (first | refine blk_drewN ?_ _ | refine blk_drew ?_ | refine blk_alloc ?_ _)); exact BK152.out)) : gb153 ≠ gb152)); clear HO0_0; clear HO0_1; clear BK152; clear HB; have HO0_0 := n0_; have HO0_1 := n1_; have BK152 := n2_; have HB := n3_; have BK153 := n4_; have GW153 := n5_; have GE153 := n6_; have NB152_153 := n7_; have NB153_152 := n8_; clear n0_ n1_ n2_ n3_ n4_ n5_ n6_ n7_ n8_; clear hb hbox hg; have hnb12 := NB152_153.out; have hnc12 := NB153_152.out; have hcz13_0 : w11.cell? ⟨gb152, 0, none⟩ = some (.slice A0_0 l0_0.length c0_0) := (blk_cell BK152.out 0).trans rfl; have hcz13_1 : w11.cell? ⟨gb152, 1, none⟩ = some (.slice A0_1 l0_1.length c0_1) := (blk_cell BK152.out 1).trans rfl; have hcz13_2 : w11.cell? ⟨gb152, 2, none⟩ = some (.int .i64 a0_2) := (blk_cell BK152.out 2).trans rfl; have hfz13_0 := blk_frozen BK152.out 0; have hfz13_1 := blk_frozen BK152.out 1; have hfz13_2 := blk_frozen BK152.out 2; have hcz14_0 : w11.cell? ⟨gb153, 0, none⟩ = some (.slice none 0 0) := (blk_cell BK153.out 0).trans rfl; have hcz14_1 : w11.cell? ⟨gb153, 1, none⟩ = some (.slice none 0 0) := (blk_cell BK153.out 1).trans rfl; have hcz14_2 : w11.cell? ⟨gb153, 2, none⟩ = some (.int .i64 0) := (blk_cell BK153.out 2).trans rfl; have hfz14_0 := blk_frozen BK153.out 0; have hfz14_1 := blk_frozen BK153.out 1; have hfz14_2 := blk_frozen BK153.out 2))
      refine bodyPost_ret (results_ct rfl _ _ gb153 36 #[.slice A0_0 l0_0.length c0_0, .slice A0_1 l0_1.length c0_1, .int .i64 a0_2] (0, 0) _ rfl (by (with_reducible repeat (first | refine blk_drewN ?_ _ | refine blk_drew ?_ | refine blk_alloc ?_ _)); refine blk_put (cs := #[.slice A0_0 l0_0.length c0_0, .slice A0_1 l0_1.length c0_1, .int .i64 0]) ?_ 2 _ (by first | rfl | (simp only [w64_PV13]; rfl) | (simp [w64_PV13]; done)); (with_reducible repeat (first | refine blk_drewN ?_ _ | refine blk_drew ?_ | refine blk_alloc ?_ _)); refine blk_put (cs := #[.slice A0_0 l0_0.length c0_0, .slice none 0 0, .int .i64 0]) ?_ 1 _ (by first | rfl | (simp only [w64_PV13]; rfl) | (simp [w64_PV13]; done)); (with_reducible repeat (first | refine blk_drewN ?_ _ | refine blk_drew ?_ | refine blk_alloc ?_ _)); refine blk_put (cs := #[.slice none 0 0, .slice none 0 0, .int .i64 0]) ?_ 0 _ (by first | rfl | (simp only [w64_PV13]; rfl) | (simp [w64_PV13]; done)); (with_reducible repeat (first | refine blk_drewN ?_ _ | refine blk_drew ?_ | refine blk_alloc ?_ _)); exact BK153.out) Try.underlying36 rfl (by kernel_rfl)) rfl ?_
      exact ⟨_, _, by first | rfl | (simp [errW_none, errW_some] <;> rfl) | (simp [*, errW_none, errW_some] <;> rfl), by (with_reducible repeat (first | apply Kd.V_alloc | apply Kd.V_drewN | apply Kd.V_drew)); exact Kd.V_mono (Kd.V_far (p := ⟨gb153, 2, none⟩) (Kd.V_far (p := ⟨gb153, 1, none⟩) (Kd.V_far (p := ⟨gb153, 0, none⟩) (Kd.V_mono HO0_0.out (fun k_ hk => (⟨hk, by first | exact hk.2 | exact hk.2.2 | exact hk.2.1⟩ : _ ∧ k_ ≠ gb153))) (fun _ hk => hk.2) (.slice A0_0 l0_0.length c0_0)) (fun _ hk => hk.2) (.slice A0_1 l0_1.length c0_1)) (fun _ hk => hk.2) (.int .i64 a0_2)) (fun _ hk => by first | exact hk.1.1.1 | exact hk.1.1 | exact hk.1), by (with_reducible repeat (first | apply Kd.V_alloc | apply Kd.V_drewN | apply Kd.V_drew)); exact Kd.V_mono (Kd.V_far (p := ⟨gb153, 2, none⟩) (Kd.V_far (p := ⟨gb153, 1, none⟩) (Kd.V_far (p := ⟨gb153, 0, none⟩) (Kd.V_mono HO0_1.out (fun k_ hk => (⟨hk, by first | exact hk.2 | exact hk.2.2 | exact hk.2.1⟩ : _ ∧ k_ ≠ gb153))) (fun _ hk => hk.2) (.slice A0_0 l0_0.length c0_0)) (fun _ hk => hk.2) (.slice A0_1 l0_1.length c0_1)) (fun _ hk => hk.2) (.int .i64 a0_2)) (fun _ hk => by first | exact hk.1.1.1 | exact hk.1.1 | exact hk.1), by repeat (first | (with_reducible first | exact HB.out | apply below_alloc | apply pw_below_drewN | apply below_drew1 | refine below_set ?_ GE152.out | refine below_set ?_ GE153.out) | exact HB.out)⟩
    · rw [if_neg c9] at H
      have c9b0 : decide ((l0_1.length : Int) < a1) = false := decide_eq_false c9
      clear c9
      by_cases c15 : 0 ≤ a1
      · rw [if_pos c15] at H
        have c15b0 := eq_true c15
        have c15b1 : decide (0 ≤ a1) = true := decide_eq_true c15
        clear c15
        by_cases c16 : a1 ≤ (l0_1.length : Int)
        · rw [if_pos c16] at H
          have c16b0 := eq_true c16
          have c16b1 : decide (a1 ≤ (l0_1.length : Int)) = true := decide_eq_true c16
          clear c16
          obtain ⟨y154, hy154⟩ : ∃ y_ : List ByteArray, y_ = (l0_1.drop (a1 : Int).toNat) := ⟨_, rfl⟩
          replace H : (some (l0_0, y154, a0_2, true)) = some (r1, r2, r3, r4) := by first | (rw [hy154]; with_reducible exact H) | (have H2_ := (Option.bind_some _ _).symm.trans H; rw [hy154]; with_reducible exact H2_) | (have H2_ := (Option.bind_some _ _).symm.trans H; with_reducible exact H2_) | with_reducible exact H | (rw [hy154]; exact H) | exact H
          have Ny154 := Aside0.mk hy154
          clear hy154
          simp only [Option.some.injEq, Prod.mk.injEq] at H
          obtain ⟨rfl, rfl, rfl, rfl⟩ := H
          go_enter Try.func27, Try.ntmps27
          go_wp2_with (first | ((with_reducible refine gate_dst (N := 2) rfl ?_); (try (refine gate_guard (by rfl) ?_; dsimp only)); refine box_event ?hg (N := 2) ?hd (cs := #[.slice A0_0 l0_0.length c0_0, .slice A0_1 l0_1.length c0_1, .int .i64 a0_2]) (t := 36) ?hr ?_; (case hd => rfl); (case hg => rfl); (case hr => first | (go_simp; done) | (go_simp; rfl)); intro gb152 hg w17 hbox hb; have n0_ := Aside0.mk (Kd.V_below (Kd.V_elderB (by (with_reducible repeat (first | apply Kd.V_alloc | apply Kd.V_drewN | apply Kd.V_drew)); exact HO0_0.out) gb152 (Nat.le_of_eq hg.symm)) hb); have n1_ := Aside0.mk (Kd.V_below (Kd.V_elderB (by (with_reducible repeat (first | apply Kd.V_alloc | apply Kd.V_drewN | apply Kd.V_drew)); exact HO0_1.out) gb152 (Nat.le_of_eq hg.symm)) hb); have n2_ := Aside0.mk (below_step (by repeat (first | (with_reducible first | exact HB.out | apply below_alloc | apply pw_below_drewN | apply below_drew1) | exact HB.out)) hb); have n3_ := Aside0.mk (hbox); have n4_ := Aside0.mk ((by rw [hg]; exact (below_size (by repeat (first | (with_reducible first | exact HB.out | apply below_alloc | apply pw_below_drewN | apply below_drew1) | exact HB.out))) : w.heap.size ≤ gb152)); have n5_ := Aside0.mk ((by rw [hg]; exact (below_size (by repeat (first | (with_reducible first | exact HB.out | apply below_alloc | apply pw_below_drewN | apply below_drew1) | exact HB.out))) : w.heap.size ≤ gb152)); clear HO0_0; clear HO0_1; clear HB; have HO0_0 := n0_; have HO0_1 := n1_; have HB := n2_; have BK152 := n3_; have GW152 := n4_; have GE152 := n5_; clear n0_ n1_ n2_ n3_ n4_ n5_; clear hb hbox hg) | ((with_reducible refine gate_dst (N := 4) rfl ?_); (try (refine gate_guard (by rfl) ?_; dsimp only)); refine box_event ?hg (N := 4) ?hd (cs := #[.slice none 0 0, .slice none 0 0, .int .i64 0]) (t := 36) ?hr ?_; (case hd => rfl); (case hg => rfl); (case hr => first | (go_simp; done) | (go_simp; rfl)); intro gb153 hg w18 hbox hb; have n0_ := Aside0.mk (Kd.V_below (Kd.V_elderB (by (with_reducible repeat (first | apply Kd.V_alloc | apply Kd.V_drewN | apply Kd.V_drew)); exact HO0_0.out) gb153 (Nat.le_of_eq hg.symm)) hb); have n1_ := Aside0.mk (Kd.V_below (Kd.V_elderB (by (with_reducible repeat (first | apply Kd.V_alloc | apply Kd.V_drewN | apply Kd.V_drew)); exact HO0_1.out) gb153 (Nat.le_of_eq hg.symm)) hb); have n2_ := Aside0.mk (blk_below (g := gb152) (o := .cells #[.slice A0_0 l0_0.length c0_0, .slice A0_1 l0_1.length c0_1, .int .i64 a0_2] 36 (0, 0)) (by (with_reducible repeat (first | refine blk_drewN ?_ _ | refine blk_drew ?_ | refine blk_alloc ?_ _)); exact BK152.out) hb); have n3_ := Aside0.mk (below_step (by repeat (first | (with_reducible first | exact HB.out | apply below_alloc | apply pw_below_drewN | apply below_drew1 | refine below_set ?_ GE152.out) | exact HB.out)) hb); have n4_ := Aside0.mk (hbox); have n5_ := Aside0.mk ((by rw [hg]; exact (below_size (by repeat (first | (with_reducible first | exact HB.out | apply below_alloc | apply pw_below_drewN | apply below_drew1 | refine below_set ?_ GE152.out) | exact HB.out))) : w.heap.size ≤ gb153)); have n6_ := Aside0.mk ((by rw [hg]; exact (below_size (by repeat (first | (with_reducible first | exact HB.out | apply below_alloc | apply pw_below_drewN | apply below_drew1 | refine below_set ?_ GE152.out) | exact HB.out))) : w.heap.size ≤ gb153)); have n7_ := Aside0.mk ((by rw [hg]; exact Nat.ne_of_lt (blk_lt (g := gb152) (o := .cells #[.slice A0_0 l0_0.length c0_0, .slice A0_1 l0_1.length c0_1, .int .i64 a0_2] 36 (0, 0)) (by (with_reducible repeat (first | refine blk_drewN ?_ _ | refine blk_drew ?_ | refine blk_alloc ?_ _)); exact BK152.out)) : gb152 ≠ gb153)); have n8_ := Aside0.mk ((by rw [hg]; exact Nat.ne_of_gt (blk_lt (g := gb152) (o := .cells #[.slice A0_0 l0_0.length c0_0, .slice A0_1 l0_1.length c0_1, .int .i64 a0_2] 36 (0, 0)) (by (with_reducible repeat (first | refine blk_drewN ?_ _ | refine blk_drew ?_ | refine blk_alloc ?_ _)); exact BK152.out)) : gb153 ≠ gb152)); clear HO0_0; clear HO0_1; clear BK152; clear HB; have HO0_0 := n0_; have HO0_1 := n1_; have BK152 := n2_; have HB := n3_; have BK153 := n4_; have GW153 := n5_; have GE153 := n6_; have NB152_153 := n7_; have NB153_152 := n8_; clear n0_ n1_ n2_ n3_ n4_ n5_ n6_ n7_ n8_; clear hb hbox hg; have hnb19 := NB152_153.out; have hnc19 := NB153_152.out; have hcz20_0 : w18.cell? ⟨gb152, 0, none⟩ = some (.slice A0_0 l0_0.length c0_0) := (blk_cell BK152.out 0).trans rfl; have hcz20_1 : w18.cell? ⟨gb152, 1, none⟩ = some (.slice A0_1 l0_1.length c0_1) := (blk_cell BK152.out 1).trans rfl; have hcz20_2 : w18.cell? ⟨gb152, 2, none⟩ = some (.int .i64 a0_2) := (blk_cell BK152.out 2).trans rfl; have hfz20_0 := blk_frozen BK152.out 0; have hfz20_1 := blk_frozen BK152.out 1; have hfz20_2 := blk_frozen BK152.out 2; have q21 : (a1 : Int) ≤ ((l0_1.length : Int) : Int) := of_decide_eq_true (by first | (with_reducible assumption) | assumption); obtain ⟨i021, hi021, _, hsz21, _⟩ := info_parts info9; have hroom21 : l0_1.length ≤ c0_1 := (Kd.V_reads' HO0_1.out).2.1; have hC21 : Kd.F Kd.string _ _ A0_1 l0_1.length l0_1 := (Kd.V_at (base := w.heap.size) HO0_1.out).2.2; have q021 : (0 : Int) ≤ (a1 : Int) := of_decide_eq_true (by first | (with_reducible assumption) | assumption); have hcut21 := cut_from (P := Try.prog) 23 9 .i64 Try.underlying23 hi021 1 hsz21 A0_1 l0_1.length c0_1 a1 q021 q21; have hr21 := Kd.F_cut (m := (a1 : Int).toNat) (c := c0_1) hC21 (by omega) hroom21; obtain ⟨A21, hA21⟩ : ∃ A1, A1 = (if c0_1 = (a1 : Int).toNat then A0_1 else (A0_1 : Option Addr).map (·.add ((a1 : Int).toNat * 1))) := ⟨_, rfl⟩; obtain ⟨c21, hc21⟩ : ∃ c1, c1 = c0_1 - (a1 : Int).toNat := ⟨_, rfl⟩; have hy21 : y154.length = l0_1.length - (a1 : Int).toNat := (by rw [Ny154.out, List.length_drop] <;> omega); rw [show (l0_1).drop (a1 : Int).toNat = y154 from Ny154.out.symm] at hr21; replace hr21 : Kd.F Kd.string _ _ A21 y154.length y154 := (by rw [hA21]; exact hr21); rw [← hy21, ← hA21, ← hc21] at hcut21; have HO158 := Aside0.mk (show Kd.V Kd.string 9 _ w.heap.size _ (.slice A21 y154.length c21) y154 from Kd.V_mk (by rw [hy21, hc21]; exact Nat.sub_le_sub_right hroom21 _) hr21); have HC158 := Aside0.mk (show y154.length ≤ c21 from by rw [hy21, hc21]; exact Nat.sub_le_sub_right hroom21 _); clear hr21 hC21 hroom21 hi021 hsz21 hc21; have KY21 := Aside0.mk hy21; have KA21 := Aside0.mk hA21; clear hy21 hA21; replace q21 := eq_true q21; have hcz22_0 : w18.cell? ⟨gb153, 0, none⟩ = some (.slice none 0 0) := (blk_cell BK153.out 0).trans rfl; have hcz22_1 : w18.cell? ⟨gb153, 1, none⟩ = some (.slice none 0 0) := (blk_cell BK153.out 1).trans rfl; have hcz22_2 : w18.cell? ⟨gb153, 2, none⟩ = some (.int .i64 0) := (blk_cell BK153.out 2).trans rfl; have hfz22_0 := blk_frozen BK153.out 0; have hfz22_1 := blk_frozen BK153.out 1; have hfz22_2 := blk_frozen BK153.out 2))
          refine bodyPost_ret (results_ct rfl _ _ gb153 36 #[.slice A0_0 l0_0.length c0_0, .slice A21 y154.length c21, .int .i64 a0_2] (0, 0) _ rfl (by (with_reducible repeat (first | refine blk_drewN ?_ _ | refine blk_drew ?_ | refine blk_alloc ?_ _)); refine blk_put (cs := #[.slice A0_0 l0_0.length c0_0, .slice A21 y154.length c21, .int .i64 0]) ?_ 2 _ (by first | rfl | (simp only [w64_PV13]; rfl) | (simp [w64_PV13]; done)); (with_reducible repeat (first | refine blk_drewN ?_ _ | refine blk_drew ?_ | refine blk_alloc ?_ _)); refine blk_put (cs := #[.slice A0_0 l0_0.length c0_0, .slice none 0 0, .int .i64 0]) ?_ 1 _ (by first | rfl | (simp only [w64_PV13]; rfl) | (simp [w64_PV13]; done)); (with_reducible repeat (first | refine blk_drewN ?_ _ | refine blk_drew ?_ | refine blk_alloc ?_ _)); refine blk_put (cs := #[.slice none 0 0, .slice none 0 0, .int .i64 0]) ?_ 0 _ (by first | rfl | (simp only [w64_PV13]; rfl) | (simp [w64_PV13]; done)); (with_reducible repeat (first | refine blk_drewN ?_ _ | refine blk_drew ?_ | refine blk_alloc ?_ _)); refine blk_far ?_ NB153_152.out _; (with_reducible repeat (first | refine blk_drewN ?_ _ | refine blk_drew ?_ | refine blk_alloc ?_ _)); exact BK153.out) Try.underlying36 rfl (by kernel_rfl)) rfl ?_
          exact ⟨_, _, by first | rfl | (simp [errW_none, errW_some] <;> rfl) | (simp [*, errW_none, errW_some] <;> rfl), by (with_reducible repeat (first | apply Kd.V_alloc | apply Kd.V_drewN | apply Kd.V_drew)); exact Kd.V_mono (Kd.V_far (p := ⟨gb153, 2, none⟩) (Kd.V_far (p := ⟨gb153, 1, none⟩) (Kd.V_far (p := ⟨gb153, 0, none⟩) (Kd.V_far (p := ⟨gb152, 1, none⟩) (Kd.V_mono (Kd.V_mono HO0_0.out (fun k_ hk => (⟨hk, hk.1.2⟩ : _ ∧ k_ ≠ gb152))) (fun k_ hk => (⟨hk, hk.1.2⟩ : _ ∧ k_ ≠ gb153))) (fun _ hk => hk.1.2) (.slice A21 y154.length c21)) (fun _ hk => hk.2) (.slice A0_0 l0_0.length c0_0)) (fun _ hk => hk.2) (.slice A21 y154.length c21)) (fun _ hk => hk.2) (.int .i64 a0_2)) (fun _ hk => hk.1.1.1.1), by (with_reducible repeat (first | apply Kd.V_alloc | apply Kd.V_drewN | apply Kd.V_drew)); exact Kd.V_mono (Kd.V_far (p := ⟨gb153, 2, none⟩) (Kd.V_far (p := ⟨gb153, 1, none⟩) (Kd.V_far (p := ⟨gb153, 0, none⟩) (Kd.V_far (p := ⟨gb152, 1, none⟩) (Kd.V_mono (Kd.V_mono HO158.out (fun k_ hk => (⟨hk, hk.1.2⟩ : _ ∧ k_ ≠ gb152))) (fun k_ hk => (⟨hk, hk.1.2⟩ : _ ∧ k_ ≠ gb153))) (fun _ hk => hk.1.2) (.slice A21 y154.length c21)) (fun _ hk => hk.2) (.slice A0_0 l0_0.length c0_0)) (fun _ hk => hk.2) (.slice A21 y154.length c21)) (fun _ hk => hk.2) (.int .i64 a0_2)) (fun _ hk => hk.1.1.1.1), by repeat (first | (with_reducible first | exact HB.out | apply below_alloc | apply pw_below_drewN | apply below_drew1 | refine below_set ?_ GE152.out | refine below_set ?_ GE153.out) | exact HB.out)⟩
        · rw [if_neg c16] at H
          exact absurd H (by simp)
      · rw [if_neg c15] at H
        exact absurd H (by simp)
end Go.Proofs.Ytgcbipflmhbpcaa.PV
set_option linter.unusedVariables false
set_option linter.unusedSimpArgs false
namespace Go.Proofs.Ytgcbipflmhbpcaa.PV
open Go Go.RowKit Go.Proofs.Ytgcbipflmhbpcaa Go.Proofs.YtgcbipflmhbpcaaW.PrintWords Go.Proofs.YtgcbipflmhbpcaaW.PrintLast Go.Proofs.YtgcbipflmhbpcaaW.PrintMore
theorem TX.bound {B : Nat} {S : Nat → Prop} {w : World} {g : Nat} {V : List S26} {A : List ByteArray} {st : Int} (h : TX B S w g V A st) : TX B (fun k => S k ∧ k < w.heap.size) w g V A st := by
  obtain ⟨vv, va, ht, hg, hv, ha⟩ := h
  refine ⟨vv, va, ht, ⟨hg, blk_lt ht.bt⟩, fun k hk => ⟨hv k hk, ?_⟩, fun k hk => ⟨ha k hk, ?_⟩⟩
  · rcases ht.ov.2 with ⟨e, _⟩ | ⟨b, _, _, e, _, hh, _⟩
    · rw [e] at hk; simp [Value.ownBlock] at hk
    · rw [e] at hk; have : b = k := by simpa [Value.ownBlock] using hk
      subst this; exact blk_lt hh
  · rcases ht.oa.2 with ⟨e, _⟩ | ⟨b, _, _, e, _, hh, _⟩
    · rw [e] at hk; simp [Value.ownBlock] at hk
    · rw [e] at hk; have : b = k := by simpa [Value.ownBlock] using hk
      subst this; exact blk_lt hh
/-- the reference's table in a box gn: what it reads lies apart from the program's, from gr and from gn -/
structure RQ (P S : Nat → Prop) (w : World) (gr gn : Nat) (V : List S26) (A : List ByteArray) (st : Int) (v0 v1 : Value) : Prop where
  b : w.heap[gn]? = some (.cells #[v0, v1, .int .i64 st] 36 (0, 0))
  v : Kd.V k26 26 w 0 P v0 V
  a : Kd.V Kd.string 9 w 0 P v1 A
  p : ∀ k, P k → k < w.heap.size ∧ ¬ S k ∧ k ≠ gr ∧ k ≠ gn
structure Inv (B : Nat) (S : Nat → Prop) (w : World) (g gr : Nat) (V : List S26) (A : List ByteArray) (st : Int) : Prop where
  t : TX B S w g V A st
  s : ∀ k, S k → B ≤ k ∧ k < w.heap.size
  r : ∃ P v0 v1, RQ P S w gr gr V A st v0 v1
  g : ¬ S gr
  B0 : B ≤ w.heap.size
  B1 : B ≤ gr
theorem RQ.frm {P S T : Nat → Prop} {w w' : World} {gr gn : Nat} {V : List S26} {A : List ByteArray} {st : Int} {v0 v1 : Value} (h : RQ P S w gr gn V A st v0 v1) (hf : Frm T w w') (hT : ∀ k, P k → ¬ T k) (hgn : ¬ T gn) : RQ P S w' gr gn V A st v0 v1 :=
  ⟨(hf.block gn (blk_lt h.b) hgn).trans h.b, Kd.V_step h.v (fun k hk hlt => hf.block k hlt (hT k hk)), Kd.V_step h.a (fun k hk hlt => hf.block k hlt (hT k hk)), fun k hk => ⟨Nat.lt_of_lt_of_le (h.p k hk).1 hf.size, (h.p k hk).2⟩⟩
theorem RQ.below {P S : Nat → Prop} {w w' : World} {gr gn : Nat} {V : List S26} {A : List ByteArray} {st : Int} {v0 v1 : Value} (h : RQ P S w gr gn V A st v0 v1) (hb : Below w.heap.size w w') : RQ P S w' gr gn V A st v0 v1 :=
  ⟨blk_below h.b hb, Kd.V_below h.v hb, Kd.V_below h.a hb, fun k hk => ⟨Nat.lt_of_lt_of_le (h.p k hk).1 hb.size, (h.p k hk).2⟩⟩
theorem Inv.below {B : Nat} {S : Nat → Prop} {w w' : World} {g gr : Nat} {V : List S26} {A : List ByteArray} {st : Int} (h : Inv B S w g gr V A st) (hb : Below w.heap.size w w') : Inv B S w' g gr V A st := by
  obtain ⟨P, v0, v1, hr⟩ := h.r
  exact ⟨h.t.frm hb, fun k hk => ⟨(h.s k hk).1, Nat.lt_of_lt_of_le (h.s k hk).2 hb.size⟩, ⟨P, v0, v1, hr.below hb⟩, h.g, Nat.le_trans h.B0 hb.size, h.B1⟩
theorem own_step {w w' : World} {B e sz n : Nat} {v : Value} {xs : List Value} (h : w.ownsRow B e sz v n xs) (hm : ∀ k, v.ownBlock = some k → w'.heap[k]? = w.heap[k]?) : w'.ownsRow B e sz v n xs := by
  refine ⟨h.1, ?_⟩
  rcases h.2 with h | ⟨g, cap, cur, e0, h1, h2, h3⟩
  · exact .inl h
  · exact .inr ⟨g, cap, cur, e0, h1, (hm g (by rw [e0]; rfl)).trans h2, h3⟩
theorem TX.step {B : Nat} {S T : Nat → Prop} {w w' : World} {g : Nat} {V : List S26} {A : List ByteArray} {st : Int} (h : TX B S w g V A st) (hf : Frm T w w') (hT : ∀ k, S k → ¬ T k) : TX B S w' g V A st := by
  obtain ⟨vv, va, ht, hg, hv, ha⟩ := h
  have lv : ∀ k, vv.ownBlock = some k → k < w.heap.size := fun k hk => by
    rcases ht.ov.2 with ⟨e, _⟩ | ⟨b, _, _, e, _, hh, _⟩
    · rw [e] at hk; simp [Value.ownBlock] at hk
    · rw [e] at hk; have : b = k := by simpa [Value.ownBlock] using hk
      subst this; exact blk_lt hh
  have la : ∀ k, va.ownBlock = some k → k < w.heap.size := fun k hk => by
    rcases ht.oa.2 with ⟨e, _⟩ | ⟨b, _, _, e, _, hh, _⟩
    · rw [e] at hk; simp [Value.ownBlock] at hk
    · rw [e] at hk; have : b = k := by simpa [Value.ownBlock] using hk
      subst this; exact blk_lt hh
  exact ⟨vv, va, ⟨(hf.block g (blk_lt ht.bt) (hT g hg)).trans ht.bt, ht.eg, own_step ht.ov (fun k hk => hf.block k (lv k hk) (hT k (hv k hk))), own_step ht.oa (fun k hk => hf.block k (la k hk) (hT k (ha k hk)))⟩, hg, hv, ha⟩
theorem box_step {w w5 w6 : World} {gn : Nat} (hg : w.heap.size ≤ gn) (h5 : Below w.heap.size w w5) (h6 : Frm (fun k => k = gn) w5 w6) : Below w.heap.size w w6 :=
  h5.trans (h6.below h5.size (fun i hi e => by have e : i = gn := e; omega))
theorem cell_far {T : Nat → Prop} {w w' : World} {a : Addr} (hf : Frm T w w') (h : a.block < w.heap.size ∧ ¬ T a.block) : w'.cell? a = w.cell? a := World.cell?_of_block (w := w) (hf.block _ h.1 h.2)
theorem frmB {B : Nat} {S : Nat → Prop} {w w' : World} (hf : Frm S w w') (hB : B ≤ w.heap.size) (hS : ∀ k, S k → B ≤ k) : Below B w w' := hf.below hB (fun i hi e => by have := hS i e; omega)
theorem does_end {B : Nat} {S P : Nat → Prop} {w w6 w7 w8 : World} {g gr gn : Nat} {V V' : List S26} {A A' : List ByteArray} {st st' : Int} {v0 v1 : Value} (hi : Inv B S w g gr V A st) (h6 : Below w.heap.size w w6) (hq : RQ P S w6 gr gn V' A' st' v0 v1) (hgn : w.heap.size ≤ gn) (hf : Frm S w6 w7) (ht : TX B (fun k => S k ∨ w6.heap.size ≤ k) w7 g V' A' st')
    (hb : w8.heap[gr]? = some (.cells #[v0, v1, .int .i64 st'] 36 (0, 0))) (hf8 : Frm (fun k => k = gr) w7 w8) : Below B w w8 ∧ ∃ S', Inv B S' w8 g gr V' A' st' := by
  obtain ⟨P0, u0, u1, hr⟩ := hi.r
  have hgr : gr < w.heap.size := blk_lt hr.b
  have s67 := hf.size
  have s78 := hf8.size
  have s06 := h6.size
  have B0 := hi.B0
  have hq7 : RQ P S w7 gr gn V' A' st' v0 v1 := hq.frm hf (fun k hk => (hq.p k hk).2.1) (fun h => by have := (hi.s gn h).2; omega)
  have hb68 : Below B w w7 := (h6.mono hi.B0).trans (frmB hf (Nat.le_trans hi.B0 s06) (fun k hk => (hi.s k hk).1))
  refine ⟨hb68.trans (frmB hf8 (Nat.le_trans hi.B0 (Nat.le_trans s06 s67)) (fun k hk => by have hk : k = gr := hk; subst hk; exact hi.B1)), fun k => (S k ∨ w6.heap.size ≤ k) ∧ k < w8.heap.size, ?_⟩
  have hnS : ¬ (S gr ∨ w6.heap.size ≤ gr) := fun h => h.elim hi.g (fun h => by omega)
  have ht8 : TX B (fun k => S k ∨ w6.heap.size ≤ k) w8 g V' A' st' := ht.step hf8 (fun k hk e => hnS (by have e : k = gr := e; subst e; exact hk))
  refine ⟨ht8.bound, fun k hk => ⟨hk.1.elim (fun h => (hi.s k h).1) (fun h => Nat.le_trans (Nat.le_trans hi.B0 s06) h), hk.2⟩, ⟨P, v0, v1, hb, Kd.V_step hq7.v (fun k hk hlt => hf8.block k hlt (hq.p k hk).2.2.1), Kd.V_step hq7.a (fun k hk hlt => hf8.block k hlt (hq.p k hk).2.2.1), fun k hk => ?_⟩, fun h => hnS h.1, by omega, hi.B1⟩
  have hk6 := hq.p k hk
  have := hi.B0
  exact ⟨by omega, fun h => h.1.elim hk6.2.1 (fun h => by omega), hk6.2.2.1, hk6.2.2.1⟩
theorem does_end2 {B : Nat} {S P : Nat → Prop} {w w6 w7 w8 : World} {g gr gn : Nat} {V V' : List S26} {A A' : List ByteArray} {st st' : Int} {v0 v1 : Value} (hi : Inv B S w g gr V A st) (h6 : Below w.heap.size w w6) (hq : RQ P S w6 gr gn V' A' st' v0 v1)
    (hb : w7.heap[gr]? = some (.cells #[v0, v1, .int .i64 st'] 36 (0, 0))) (hf7 : Frm (fun k => k = gr) w6 w7) (hf : Frm S w7 w8) (ht : TX B (fun k => S k ∨ w7.heap.size ≤ k) w8 g V' A' st') : Below B w w8 ∧ ∃ S', Inv B S' w8 g gr V' A' st' := by
  obtain ⟨P0, u0, u1, hr⟩ := hi.r
  have hgr : gr < w.heap.size := blk_lt hr.b
  have s67 := hf7.size
  have s78 := hf.size
  have s06 := h6.size
  have B0 := hi.B0
  refine ⟨((h6.mono hi.B0).trans (frmB hf7 (by omega) (fun k hk => by have hk : k = gr := hk; subst hk; exact hi.B1))).trans (frmB hf (by omega) (fun k hk => (hi.s k hk).1)), fun k => (S k ∨ w7.heap.size ≤ k) ∧ k < w8.heap.size, ?_⟩
  refine ⟨ht.bound, fun k hk => ⟨hk.1.elim (fun h => (hi.s k h).1) (fun h => by omega), hk.2⟩, ⟨P, v0, v1, (hf.block gr (blk_lt hb) hi.g).trans hb, Kd.V_step (Kd.V_step hq.v (fun k hk hlt => hf7.block k hlt (hq.p k hk).2.2.1)) (fun k hk hlt => hf.block k hlt (hq.p k hk).2.1), Kd.V_step (Kd.V_step hq.a (fun k hk hlt => hf7.block k hlt (hq.p k hk).2.2.1)) (fun k hk hlt => hf.block k hlt (hq.p k hk).2.1), fun k hk => ?_⟩, fun h => h.1.elim hi.g (fun h => by omega), by omega, hi.B1⟩
  have hk6 := hq.p k hk
  exact ⟨by omega, fun h => h.1.elim hk6.2.1 (fun h => by omega), hk6.2.2.1, hk6.2.2.1⟩
/-- a new box with what a call of the reference has given -/
theorem rq_new {S P P' : Nat → Prop} {w w4 w5 w6 : World} {gr gn : Nat} {V' : List S26} {A' : List ByteArray} {st' : Int} {v0 v1 : Value} (hs : ∀ k, S k → k < w.heap.size) (hgr : gr < w.heap.size) (hp : ∀ k, P k → k < w.heap.size ∧ ¬ S k ∧ k ≠ gr) (hgn : w.heap.size ≤ gn) (hgn4 : gn < w4.heap.size ∨ w5.heap.size ≤ gn) (h4 : w.heap.size ≤ w4.heap.size)
    (hP : ∀ k, P' k → P k ∨ w4.heap.size ≤ k) (hv : Kd.V k26 26 w5 0 P' v0 V') (ha : Kd.V Kd.string 9 w5 0 P' v1 A') (hb : w6.heap[gn]? = some (.cells #[v0, v1, .int .i64 st'] 36 (0, 0))) (hf : Frm (fun k => k = gn) w5 w6) (h45 : w4.heap.size ≤ w5.heap.size) : ∃ P2, RQ P2 S w6 gr gn V' A' st' v0 v1 := by
  have hne : ∀ k, P' k ∧ k < w5.heap.size → k ≠ gn := fun k hk e => by
    rcases hP k hk.1 with h | h
    · have := (hp k h).1; omega
    · omega
  refine ⟨fun k => P' k ∧ k < w5.heap.size, hb, Kd.V_step (Kd.V_bound hv) (fun k hk hlt => hf.block k hlt (hne k hk)), Kd.V_step (Kd.V_bound ha) (fun k hk hlt => hf.block k hlt (hne k hk)), fun k hk => ?_⟩
  have s56 := hf.size
  refine ⟨by omega, ?_, ?_, hne k hk⟩
  · intro h
    rcases hP k hk.1 with h' | h'
    · exact (hp k h').2.1 h
    · have := hs k h; omega
  · intro e
    rcases hP k hk.1 with h' | h'
    · exact (hp k h').2.2 e
    · omega
theorem there_of {w : World} {g t n : Nat} {cs : Array Value} (h : w.heap[g]? = some (.cells cs t (0, 0))) (hn : n ≤ cs.size) : w.there g 0 n := fun j hj => by
  rw [Nat.zero_add]
  exact ⟨by rw [blk_cell h j, Array.getElem?_eq_getElem (by omega)]; rfl, blk_frozen h j⟩
theorem new_box {w1 w2 w3 : World} {gn : Nat} (hg : gn = w1.heap.size) (h2 : Below w1.heap.size w1 w2) (h3 : Frm (fun k => k = gn) w2 w3) : Below w1.heap.size w1 w3 :=
  h2.trans (h3.below h2.size (fun i hi e => by have e : i = gn := e; omega))
theorem three_frm (w : World) (gb : Nat) (x y z : Value) : Frm (fun k => k = gb) w (((w.setCell ⟨gb, 0, none⟩ x).setCell ⟨gb, 1, none⟩ y).setCell ⟨gb, 2, none⟩ z) :=
  (((Frm.refl (fun k => k = gb) w).setCell _ _ (fun _ => rfl)).setCell _ _ (fun _ => rfl)).setCell _ _ (fun _ => rfl)
/-- the three cells of a table's box, stored whole -/
theorem store_tab {ops : Array Oper} {rest : List Oper} {op : Oper} {a : Act} {Q : Exit → Act → World → Prop} {w1 : World} {gb : Nat} {A0 A1 : Option Addr} {n0 c0 n1 c1 : Nat} {st : Int} {o0 o1 o2 : Value} (hgd : op.guard = none) (hd : op.dst = none) (x y : Operand) (ho : op.op = .store 36 x y)
    (hx : a.eval x = .pointer (some ⟨gb, 0, none⟩)) (hy : a.eval y = .agg #[.slice A0 n0 c0, .slice A1 n1 c1, .int .i64 st]) (hbn : w1.heap[gb]? = some (.cells #[o0, o1, o2] 36 (0, 0)))
    (h : ∀ w2, w2.heap[gb]? = some (.cells #[.slice A0 n0 c0, .slice A1 n1 c1, .int .i64 st] 36 (0, 0)) → Frm (fun k => k = gb) w1 w2 → wpList Try.prog ops Q rest (a.put none undef) w2) : wpList Try.prog ops Q (op :: rest) a w1 := by
  refine wpList_store_mid hgd 36 x y ho gb 0 #[.slice A0 n0 c0, .slice A1 n1 c1, .int .i64 st] hx hy (there_of hbn (Nat.le_refl 3)) (by kernel_rfl) (by simp [Value.oneCell']) ?_
  rw [hd]
  exact h _ (three_put hbn) ((((Frm.refl (fun k => k = gb) w1).setCell _ _ (fun _ => rfl)).setCell _ _ (fun _ => rfl)).setCell _ _ (fun _ => rfl))
set_option maxHeartbeats 4000000 in
set_option maxRecDepth 100000 in
theorem does_set (B : Nat) (S : Nat → Prop) (w : World) (g gr : Nat) (V : List S26) (A : List ByteArray) (st : Int) (nm vl : ByteArray) (P1 : Option Addr) (n1 c1 : Nat) (q : Int) (hi : Inv B S w g gr V A st) (hV : Ord V) (hl : V.length ≤ 64) (hA : A.length ≤ 1000) :
    Calls Try.prog 10 #[.pointer (some ⟨g, 0, none⟩), .pointer (some ⟨gr, 0, none⟩), .agg #[.int .i64 0, .string nm, .string vl, .slice P1 n1 c1, .int .i64 q]] w fun e w' => e = .returned (.bool true) ∧ Below B w w' ∧ ∃ S', Inv B S' w' g gr (setT V nm vl) A st := by
  have hu36 := Try.underlying36
  have hu30 := Try.underlying30
  obtain ⟨kf, hkf⟩ := rset_ev V A st nm vl (by omega)
  have KF := Lib.hid (hkf kf (Nat.le_refl _))
  obtain ⟨P, v0, v1, hr⟩ := hi.r
  obtain ⟨A0, c0, rfl⟩ := Kd.V_slice hr.v
  obtain ⟨A1, c1', rfl⟩ := Kd.V_slice hr.a
  have HI := Lib.hid hi
  have HR := Lib.hid hr
  have HV := Lib.hid (And.intro hV hl)
  have r0 := blk_cell hr.b 0
  have r1 := blk_cell hr.b 1
  have r2 := blk_cell hr.b 2
  replace r0 : w.cell? ⟨gr, 0, none⟩ = some (.slice A0 V.length c0) := r0.trans rfl
  replace r1 : w.cell? ⟨gr, 1, none⟩ = some (.slice A1 A.length c1') := r1.trans rfl
  replace r2 : w.cell? ⟨gr, 2, none⟩ = some (.int .i64 st) := r2.trans rfl
  clear hkf hr hi hV hl hA
  go_enter Try.func10, Try.ntmps10
  go_upto_region 6 with (first | ((with_reducible refine gate_dst (N := 5) rfl ?_); refine box_event ?hg (N := 5) ?hd (cs := #[.int .i64 0, .string nm, .string vl, .slice P1 n1 c1, .int .i64 q]) (t := 30) ?hr ?_; (case hd => rfl); (case hg => rfl); (case hr => first | (go_simp; done) | (go_simp; rfl)); intro ga hg w1 hbox hb; have GA := Lib.hid hg; have BA := Lib.hid hbox; have HW := Lib.hid hb; have x0 : w1.cell? ⟨ga, 0, none⟩ = some (.int .i64 0) := (blk_cell hbox 0).trans rfl; have x1 : w1.cell? ⟨ga, 1, none⟩ = some (.string nm) := (blk_cell hbox 1).trans rfl; have x2 : w1.cell? ⟨ga, 2, none⟩ = some (.string vl) := (blk_cell hbox 2).trans rfl; replace r0 := cellB r0 hb; replace r1 := cellB r1 hb; replace r2 := cellB r2 hb; clear hg hbox hb) | ((with_reducible refine gate_dst (N := 7) rfl ?_); refine box_event ?hg (N := 7) ?hd (cs := #[.slice none 0 0, .slice none 0 0, .int .i64 0]) (t := 36) ?hr ?_; (case hd => rfl); (case hg => rfl); (case hr => first | (go_simp; done) | (go_simp; rfl)); intro gn hg w2 hbox hb; have BN := Lib.hid hbox; have GN := Lib.hid hg; have HW2 := Lib.hid hb; clear hg hbox hb) | (refine store_tab rfl rfl (.tmp 7) (.tmp 14) rfl (A0 := A0) (n0 := V.length) (c0 := c0) (A1 := A1) (n1 := A.length) (c1 := c1') (st := st) rfl rfl BN.out ?_; intro w3 hb3 hw3; replace BN := Lib.hid hb3; have HW3 := Lib.hid (new_box GN.out HW2.out hw3); replace x0 := cellB x0 HW3.out; replace x1 := cellB x1 HW3.out; replace x2 := cellB x2 HW3.out; replace r0 := cellB r0 HW3.out; replace r1 := cellB r1 HW3.out; replace r2 := cellB r2 HW3.out; clear hb3 hw3 HW2))
  refine start_ (n := 13) (S := (fun w' => w'.cell? ⟨gr, 0, none⟩ = some (.slice A0 V.length c0) ∧ w'.cell? ⟨gr, 1, none⟩ = some (.slice A1 A.length c1') ∧ w'.cell? ⟨gr, 2, none⟩ = some (.int .i64 st) ∧ w'.cell? ⟨ga, 1, none⟩ = some (.string nm) ∧ w'.cell? ⟨ga, 2, none⟩ = some (.string vl))) (ds := [11]) #[false, false, false, false, false, false, false, false, false, false, false, false, false] (by kernel_rfl) rfl rfl ⟨r0, r1, r2, x1, x2⟩ (fun hHeld => ?_)
  have HBD : Hid (Below w3.heap.size w3 (World.drew w3)) := Lib.hid ((Below.refl _ w3).drew)
  have HGN : Hid (w.heap.size ≤ gn) := Lib.hid (by have := HW.out.size; have := GN.out; omega)
  have HGA : Hid (ga < gn) := Lib.hid (by have := blk_lt BA.out; have := GN.out; omega)
  clear r0 r1 r2
  generalize World.drew _ = wd at HBD hHeld ⊢
  iterate 5 (first | ((first | refine takeS_ 0 (N := some 28) (v := ?_) (a' := ?_) rfl rfl (by decide +kernel) (fun _ _ _ h => h) (Or.inl ⟨by rfl, ?_⟩) hHeld ?_ ?_ | refine takeS_ 1 (N := some 29) (v := ?_) (a' := ?_) rfl rfl (by decide +kernel) (fun _ _ _ h => h) (Or.inl ⟨by rfl, ?_⟩) hHeld ?_ ?_ | refine takeS_ 2 (N := some 30) (v := ?_) (a' := ?_) rfl rfl (by decide +kernel) (fun _ _ _ h => h) (Or.inl ⟨by rfl, ?_⟩) hHeld ?_ ?_ | refine takeS_ 3 (N := some 31) (v := ?_) (a' := ?_) rfl rfl (by decide +kernel) (fun _ _ _ h => h) (Or.inl ⟨by rfl, ?_⟩) hHeld ?_ ?_ | refine takeS_ 4 (N := some 32) (v := ?_) (a' := ?_) rfl rfl (by decide +kernel) (fun _ _ _ h => h) (Or.inl ⟨by rfl, ?_⟩) hHeld ?_ ?_); rotate_left; (rintro w' ⟨r0, r1, r2, x1, x2⟩; go_simp; first | done | (with_reducible rfl) | rfl); rotate_left; (simp only [Act.put, List.setIfInBounds_toArray, List.set_cons_zero, List.set_cons_succ, i64_w, i32_w]; rfl)) | ((first | refine takeS_ 0 (N := some 28) (v := undef) (a' := ?_) rfl rfl (by decide +kernel) (fun _ _ _ h => h) (Or.inr ⟨by rfl, rfl⟩) hHeld ?_ ?_ | refine takeS_ 1 (N := some 29) (v := undef) (a' := ?_) rfl rfl (by decide +kernel) (fun _ _ _ h => h) (Or.inr ⟨by rfl, rfl⟩) hHeld ?_ ?_ | refine takeS_ 2 (N := some 30) (v := undef) (a' := ?_) rfl rfl (by decide +kernel) (fun _ _ _ h => h) (Or.inr ⟨by rfl, rfl⟩) hHeld ?_ ?_ | refine takeS_ 3 (N := some 31) (v := undef) (a' := ?_) rfl rfl (by decide +kernel) (fun _ _ _ h => h) (Or.inr ⟨by rfl, rfl⟩) hHeld ?_ ?_ | refine takeS_ 4 (N := some 32) (v := undef) (a' := ?_) rfl rfl (by decide +kernel) (fun _ _ _ h => h) (Or.inr ⟨by rfl, rfl⟩) hHeld ?_ ?_); rotate_left; (simp only [Act.put, List.setIfInBounds_toArray, List.set_cons_zero, List.set_cons_succ, i64_w, i32_w]; rfl)))
  iterate 2 (first | ((first | refine takeS_ 5 (N := some 33) (v := ?_) (a' := ?_) rfl rfl (by decide +kernel) (fun _ _ _ h => h) (Or.inl ⟨by rfl, ?_⟩) hHeld ?_ ?_ | refine takeS_ 6 (N := some 34) (v := ?_) (a' := ?_) rfl rfl (by decide +kernel) (fun _ _ _ h => h) (Or.inl ⟨by rfl, ?_⟩) hHeld ?_ ?_); rotate_left; (rintro w' ⟨r0, r1, r2, x1, x2⟩; go_simp; first | done | (with_reducible rfl) | rfl); rotate_left; (simp only [Act.put, List.setIfInBounds_toArray, List.set_cons_zero, List.set_cons_succ, i64_w, i32_w]; rfl)) | ((first | refine takeS_ 5 (N := some 33) (v := undef) (a' := ?_) rfl rfl (by decide +kernel) (fun _ _ _ h => h) (Or.inr ⟨by rfl, rfl⟩) hHeld ?_ ?_ | refine takeS_ 6 (N := some 34) (v := undef) (a' := ?_) rfl rfl (by decide +kernel) (fun _ _ _ h => h) (Or.inr ⟨by rfl, rfl⟩) hHeld ?_ ?_); rotate_left; (simp only [Act.put, List.setIfInBounds_toArray, List.set_cons_zero, List.set_cons_succ, i64_w, i32_w]; rfl)))
  refine oneS_ 7 (N := some 35) rfl rfl (by kernel_rfl) (by decide) (fun K hK => ?_)
  refine goes_ Try.func24 (by kernel_rfl) rfl #[.agg #[.slice A0 V.length c0, .slice A1 A.length c1', .int .i64 st], .string nm, .string vl] (by rfl) rfl rfl (by first | rfl | (simp [Act.eval]; done) | (simp [Act.eval, Act.put]; done)) ?_
  have HWD := Lib.hid (below_step (below_step HW.out HW3.out) HBD.out)
  have HRD := Lib.hid (HR.out.below HWD.out)
  refine (rehearsalref11_Table_Set.calls kf P A0 c0 V P A1 c1' A st nm vl _ _ _ _ wd HRD.out.v HRD.out.a KF.out).mono ?_
  rintro e w5 ⟨v0, v1, rfl, hv0, hv1, hb⟩
  obtain ⟨A2, c2, rfl⟩ := Kd.V_slice hv0
  obtain ⟨A3, c3, rfl⟩ := Kd.V_slice hv1
  refine ⟨_, rfl, ?_⟩
  refine hK.out _ _ ⟨cellB hHeld.1 hb, cellB hHeld.2.1 hb, cellB hHeld.2.2.1 hb, cellB hHeld.2.2.2.1 hb, cellB hHeld.2.2.2.2 hb⟩ (fun hHeld => ?_)
  clear hK K
  have HN5 := Lib.hid (blk_below (blk_below BN.out HBD.out) hb)
  have HW5 := Lib.hid (below_step HWD.out hb)
  have X0 := Lib.hid hv0
  have X1 := Lib.hid hv1
  have HSZ := Lib.hid hb.size
  have HZ := Lib.hid (below_step HBD.out hb)
  have HNA1 : Hid (ga < w5.heap.size ∧ ¬ ga = gn) := Lib.hid ⟨Nat.lt_of_lt_of_le (blk_lt (blk_below BA.out HW3.out)) HZ.out.size, fun e => by have := HGA.out; omega⟩
  clear hv0 hv1 hb
  refine norm_ (a' := ?_) ?_ ?_
  rotate_left
  · show Act.put _ (some 35) _ = _
    simp only [Act.put, List.setIfInBounds_toArray, List.set_cons_zero, List.set_cons_succ, i64_w, i32_w]
    rfl
  iterate 2 (first | ((first | refine takeS_ 8 (N := some 27) (v := ?_) (a' := ?_) rfl rfl (by decide +kernel) (fun _ _ _ h => h) (Or.inl ⟨by rfl, ?_⟩) hHeld ?_ ?_ | refine takeS_ 9 (N := some 36) (v := ?_) (a' := ?_) rfl rfl (by decide +kernel) (fun _ _ _ h => h) (Or.inl ⟨by rfl, ?_⟩) hHeld ?_ ?_); rotate_left; (rintro w' _; go_simp; first | done | (with_reducible rfl) | rfl); rotate_left; (simp only [Act.put, List.setIfInBounds_toArray, List.set_cons_zero, List.set_cons_succ, i64_w, i32_w]; rfl)) | ((first | refine takeS_ 8 (N := some 27) (v := undef) (a' := ?_) rfl rfl (by decide +kernel) (fun _ _ _ h => h) (Or.inr ⟨by rfl, rfl⟩) hHeld ?_ ?_ | refine takeS_ 9 (N := some 36) (v := undef) (a' := ?_) rfl rfl (by decide +kernel) (fun _ _ _ h => h) (Or.inr ⟨by rfl, rfl⟩) hHeld ?_ ?_); rotate_left; (simp only [Act.put, List.setIfInBounds_toArray, List.set_cons_zero, List.set_cons_succ, i64_w, i32_w]; rfl)))
  iterate 1 (first | ((first | refine pureS_ 10 (N := some 37) (v := ?_) (a' := ?_) rfl rfl (by decide +kernel) (fun _ _ _ h => h) (Or.inl ⟨by rfl, ?_⟩) ?_ ?_); rotate_left; (intro w'; go_simp; first | done | (with_reducible rfl) | rfl); rotate_left; (simp only [Act.put, List.setIfInBounds_toArray, List.set_cons_zero, List.set_cons_succ, i64_w, i32_w]; rfl)) | ((first | refine pureS_ 10 (N := some 37) (v := undef) (a' := ?_) rfl rfl (by decide +kernel) (fun _ _ _ h => h) (Or.inr ⟨by rfl, rfl⟩) ?_ ?_); rotate_left; (simp only [Act.put, List.setIfInBounds_toArray, List.set_cons_zero, List.set_cons_succ, i64_w, i32_w]; rfl)))
  have y0 : w5.cell? ⟨gn, 0, none⟩ = some (.slice A0 V.length c0) := (blk_cell HN5.out 0).trans rfl
  have y1 : w5.cell? ⟨gn, 1, none⟩ = some (.slice A1 A.length c1') := (blk_cell HN5.out 1).trans rfl
  have y2 : w5.cell? ⟨gn, 2, none⟩ = some (.int .i64 st) := (blk_cell HN5.out 2).trans rfl
  have f0 := blk_frozen HN5.out 0
  have f1 := blk_frozen HN5.out 1
  have f2 := blk_frozen HN5.out 2
  clear hHeld
  refine lastS_ 11 (N := none) rfl rfl (by kernel_rfl) (by decide) (fun K hK => ?_)
  refine skip_ (w1 := ?_) (by rfl) rfl ?_ ?_
  rotate_left
  · go_simp
    rfl
  refine hK.out _ _ ?_
  clear hK K
  iterate 1 (first | ((first | refine pureS_ 12 (N := some 8) (v := ?_) (a' := ?_) rfl rfl (by decide +kernel) (fun _ _ _ h => h) (Or.inl ⟨by rfl, ?_⟩) ?_ ?_); rotate_left; (intro w'; go_simp; first | done | (with_reducible rfl) | rfl); rotate_left; (simp only [Act.put, List.setIfInBounds_toArray, List.set_cons_zero, List.set_cons_succ, i64_w, i32_w]; rfl)) | ((first | refine pureS_ 12 (N := some 8) (v := undef) (a' := ?_) rfl rfl (by decide +kernel) (fun _ _ _ h => h) (Or.inr ⟨by rfl, rfl⟩) ?_ ?_); rotate_left; (simp only [Act.put, List.setIfInBounds_toArray, List.set_cons_zero, List.set_cons_succ, i64_w, i32_w]; rfl)))
  refine done_ (by kernel_rfl) ?_
  clear y0 y1 y2 f0 f1 f2
  have BN6 := Lib.hid (three_put (x := .slice A2 (setT V nm vl).length c2) (y := .slice A3 A.length c3) (z := .int .i64 st) HN5.out)
  have HF6 := Lib.hid (three_frm w5 gn (.slice A2 (setT V nm vl).length c2) (.slice A3 A.length c3) (.int .i64 st))
  generalize (((w5.setCell ⟨gn, 0, none⟩ (.slice A2 (setT V nm vl).length c2)).setCell ⟨gn, 1, none⟩ (.slice A3 A.length c3)).setCell ⟨gn, 2, none⟩ (.int .i64 st)) = w6 at BN6 HF6 ⊢
  have HW6 := Lib.hid (box_step HGN.out HW5.out HF6.out)
  obtain ⟨P2, hq⟩ := rq_new (fun k hk => (HI.out.s k hk).2) (blk_lt HR.out.b) (fun k hk => ⟨(HR.out.p k hk).1, (HR.out.p k hk).2.1, (HR.out.p k hk).2.2.1⟩) HGN.out (.inl (Nat.lt_of_lt_of_le (blk_lt BN.out) HBD.out.size)) HWD.out.size (fun k hk => hk.elim (fun h => .inl (h.elim id id)) .inr) X0.out X1.out BN6.out HF6.out HSZ.out
  have HQ := Lib.hid hq
  have HNA := HNA1.out
  have z1 : w6.cell? ⟨ga, 1, none⟩ = some (.string nm) := (cell_far HF6.out HNA).trans (cellB x1 HZ.out)
  have z2 : w6.cell? ⟨ga, 2, none⟩ = some (.string vl) := (cell_far HF6.out HNA).trans (cellB x2 HZ.out)
  clear hq X0 X1 HSZ HN5 HW5 HWD HRD HNA
  go_wp2_with (first | (go_at_call 15; (with_reducible refine (setX_calls B S w6 g V A st nm vl (HI.out.t.frm HW6.out) (Nat.le_trans HI.out.B0 HW6.out.size) HV.out.1 HV.out.2).mono ?_); rintro e w7 ⟨rfl, hf, ht⟩; have HF7 := Lib.hid hf; have HT7 := Lib.hid ht; have HQ7 := Lib.hid (HQ.out.frm hf (fun k hk => (HQ.out.p k hk).2.1) (fun h => Nat.lt_irrefl _ (Nat.lt_of_lt_of_le (HI.out.s gn h).2 HGN.out))); have HR7 := Lib.hid ((HR.out.below HW6.out).frm hf (fun k hk => (HR.out.p k hk).2.1) HI.out.g); have y0 := blk_cell HQ7.out.b 0; have y1 := blk_cell HQ7.out.b 1; have y2 := blk_cell HQ7.out.b 2; clear hf ht) | (refine store_tab rfl rfl (.tmp 93) (.tmp 92) rfl (A0 := A2) (c0 := c2) (A1 := A3) (c1 := c3) rfl rfl HR7.out.b ?_; intro w8 hb8 hw8; have HB8 := Lib.hid hb8; have HF8 := Lib.hid hw8; clear hb8 hw8))
  go_ret
  exact ⟨by first | rfl | simp, does_end HI.out HW6.out HQ.out HGN.out HF7.out HT7.out HB8.out HF8.out⟩
end Go.Proofs.Ytgcbipflmhbpcaa.PV
