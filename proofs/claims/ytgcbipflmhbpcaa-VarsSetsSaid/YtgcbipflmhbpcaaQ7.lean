/- Texts of this claim's proof: small lemmas, walks and plain laws (merged by wip/shake.py). -/
import Derived.Test.YtgcbipflmhbpcaaQ1
import Derived.Test.YtgcbipflmhbpcaaQ4
import Derived.Test.YtgcbipflmhbpcaaQ6
import Derived.ChangeArms
import Derived.ChangeSlices
import Derived.WideShapes
import Derived.SizedLaws
import Derived.OpenShut
import Derived.KernelRfl
set_option linter.unusedVariables false
set_option linter.unusedSimpArgs false
namespace Go.Proofs.Ytgcbipflmhbpcaa
open Go.RowKit Go.Proofs.YtgcbipflmhbpcaaW.PrintWords Go.Proofs.YtgcbipflmhbpcaaW.PrintLast Go.Proofs.YtgcbipflmhbpcaaW.PrintMore
set_option maxHeartbeats 2000000 in
set_option maxRecDepth 100000 in
theorem get_all (B : Nat) (w : World) (g : Nat) (V : List (ByteArray × ByteArray)) (A : List ByteArray) (st : Int) (vv va : Value) (ht : Tab B w g V A st vv va) (r : ByteArray) (hr : strings_Join.f A ⟨#[32]⟩ = some r) (hpos : 0 < A.length) :
    Calls Try.prog 13 #[.pointer (some ⟨g, 0, none⟩), .string ⟨#[64]⟩] w fun e w' => e = .returned (.tuple #[.string r, .bool true]) ∧ Below w.heap.size w w' := by
  obtain ⟨A1, c1, rfl⟩ := own_slice ht.oa
  have HS := Lib.hid ht.str
  have HC := Lib.hid (own_cap ht.oa)
  have HT := Lib.hid ht
  have HR := Lib.hid hr
  have j0 : decide (0 < A.length) = true := decide_eq_true hpos
  have d1 : w.cell? ⟨g, 1, none⟩ = some (.slice A1 A.length c1) := (blk_cell ht.bt 1).trans rfl
  clear ht hr hpos
  go_enter Try.func13, Try.ntmps13
  go_wp2
  refine start_ (n := 13) (S := (fun w' => w'.cell? ⟨g, 1, none⟩ = some (.slice A1 A.length c1))) (ds := []) #[false, false, false, false, false, false, false, false, false, false, false, false, false] (by kernel_rfl) rfl rfl d1 (fun hHeld => ?_)
  iterate 5 (first | ((first | refine takeS_ 0 (N := some 38) (v := ?_) (a' := ?_) rfl rfl (by decide +kernel) (fun _ _ _ h => h) (Or.inl ⟨by rfl, ?_⟩) hHeld ?_ ?_ | refine takeS_ 1 (N := some 39) (v := ?_) (a' := ?_) rfl rfl (by decide +kernel) (fun _ _ _ h => h) (Or.inl ⟨by rfl, ?_⟩) hHeld ?_ ?_ | refine takeS_ 2 (N := some 40) (v := ?_) (a' := ?_) rfl rfl (by decide +kernel) (fun _ _ _ h => h) (Or.inl ⟨by rfl, ?_⟩) hHeld ?_ ?_ | refine takeS_ 3 (N := some 41) (v := ?_) (a' := ?_) rfl rfl (by decide +kernel) (fun _ _ _ h => h) (Or.inl ⟨by rfl, ?_⟩) hHeld ?_ ?_ | refine takeS_ 5 (N := some 43) (v := ?_) (a' := ?_) rfl rfl (by decide +kernel) (fun _ _ _ h => h) (Or.inl ⟨by rfl, ?_⟩) hHeld ?_ ?_); rotate_left; (rintro w' (s0); go_simp; first | done | (with_reducible rfl) | rfl); rotate_left; (simp only [Act.put, List.setIfInBounds_toArray, List.set_cons_zero, List.set_cons_succ, i64_w, i32_w]; rfl)) | ((first | refine takeS_ 0 (N := some 38) (v := undef) (a' := ?_) rfl rfl (by decide +kernel) (fun _ _ _ h => h) (Or.inr ⟨by rfl, rfl⟩) hHeld ?_ ?_ | refine takeS_ 1 (N := some 39) (v := undef) (a' := ?_) rfl rfl (by decide +kernel) (fun _ _ _ h => h) (Or.inr ⟨by rfl, rfl⟩) hHeld ?_ ?_ | refine takeS_ 2 (N := some 40) (v := undef) (a' := ?_) rfl rfl (by decide +kernel) (fun _ _ _ h => h) (Or.inr ⟨by rfl, rfl⟩) hHeld ?_ ?_ | refine takeS_ 3 (N := some 41) (v := undef) (a' := ?_) rfl rfl (by decide +kernel) (fun _ _ _ h => h) (Or.inr ⟨by rfl, rfl⟩) hHeld ?_ ?_ | refine takeS_ 5 (N := some 43) (v := undef) (a' := ?_) rfl rfl (by decide +kernel) (fun _ _ _ h => h) (Or.inr ⟨by rfl, rfl⟩) hHeld ?_ ?_); rotate_left; (simp only [Act.put, List.setIfInBounds_toArray, List.set_cons_zero, List.set_cons_succ, i64_w, i32_w]; rfl)))
  iterate 5 (first | ((first | refine takeS_ 6 (N := some 44) (v := ?_) (a' := ?_) rfl rfl (by decide +kernel) (fun _ _ _ h => h) (Or.inl ⟨by rfl, ?_⟩) hHeld ?_ ?_ | refine takeS_ 7 (N := some 45) (v := ?_) (a' := ?_) rfl rfl (by decide +kernel) (fun _ _ _ h => h) (Or.inl ⟨by rfl, ?_⟩) hHeld ?_ ?_ | refine takeS_ 8 (N := some 46) (v := ?_) (a' := ?_) rfl rfl (by decide +kernel) (fun _ _ _ h => h) (Or.inl ⟨by rfl, ?_⟩) hHeld ?_ ?_ | refine takeS_ 9 (N := some 47) (v := ?_) (a' := ?_) rfl rfl (by decide +kernel) (fun _ _ _ h => h) (Or.inl ⟨by rfl, ?_⟩) hHeld ?_ ?_ | refine takeS_ 10 (N := some 48) (v := ?_) (a' := ?_) rfl rfl (by decide +kernel) (fun _ _ _ h => h) (Or.inl ⟨by rfl, ?_⟩) hHeld ?_ ?_); rotate_left; (rintro w' (s0); go_simp; first | done | (with_reducible rfl) | rfl); rotate_left; (simp only [Act.put, List.setIfInBounds_toArray, List.set_cons_zero, List.set_cons_succ, i64_w, i32_w]; rfl)) | ((first | refine takeS_ 6 (N := some 44) (v := undef) (a' := ?_) rfl rfl (by decide +kernel) (fun _ _ _ h => h) (Or.inr ⟨by rfl, rfl⟩) hHeld ?_ ?_ | refine takeS_ 7 (N := some 45) (v := undef) (a' := ?_) rfl rfl (by decide +kernel) (fun _ _ _ h => h) (Or.inr ⟨by rfl, rfl⟩) hHeld ?_ ?_ | refine takeS_ 8 (N := some 46) (v := undef) (a' := ?_) rfl rfl (by decide +kernel) (fun _ _ _ h => h) (Or.inr ⟨by rfl, rfl⟩) hHeld ?_ ?_ | refine takeS_ 9 (N := some 47) (v := undef) (a' := ?_) rfl rfl (by decide +kernel) (fun _ _ _ h => h) (Or.inr ⟨by rfl, rfl⟩) hHeld ?_ ?_ | refine takeS_ 10 (N := some 48) (v := undef) (a' := ?_) rfl rfl (by decide +kernel) (fun _ _ _ h => h) (Or.inr ⟨by rfl, rfl⟩) hHeld ?_ ?_); rotate_left; (simp only [Act.put, List.setIfInBounds_toArray, List.set_cons_zero, List.set_cons_succ, i64_w, i32_w]; rfl)))
  refine oneS_ 4 (N := some 42) rfl rfl (by kernel_rfl) (by decide) (fun K hK => ?_)
  refine goes_ Try.func29 (by kernel_rfl) rfl #[.slice A1 A.length c1, .string ⟨#[32]⟩] (by rfl) rfl rfl (by first | rfl | (simp [Act.eval]; done) | (simp [Act.eval, Act.put]; done)) ?_
  refine (strings_Join.calls A1 c1 A ⟨#[32]⟩ r _ (Kd.C_below HS.out (Below.refl _ w).drew) HC.out HR.out).mono ?_
  rintro e v1 ⟨rfl, hb⟩
  refine ⟨_, rfl, ?_⟩
  have HB1 := Lib.hid (below_step ((Below.refl _ w).drew) hb)
  refine hK.out _ _ ((blk_cell (HT.out.frm HB1.out).bt 1).trans rfl) (fun hHeld => ?_)
  clear hK K
  refine norm_ (a' := ?_) ?_ ?_
  rotate_left
  · show Act.put _ (some 42) _ = _
    simp only [Act.put, List.setIfInBounds_toArray, List.set_cons_zero, List.set_cons_succ, i64_w, i32_w]
    rfl
  iterate 2 (first | ((first | refine takeS_ 11 (N := some 4) (v := ?_) (a' := ?_) rfl rfl (by decide +kernel) (fun _ _ _ h => h) (Or.inl ⟨by rfl, ?_⟩) hHeld ?_ ?_ | refine takeS_ 12 (N := some 5) (v := ?_) (a' := ?_) rfl rfl (by decide +kernel) (fun _ _ _ h => h) (Or.inl ⟨by rfl, ?_⟩) hHeld ?_ ?_); rotate_left; (rintro w' (s0); go_simp; first | done | (with_reducible rfl) | rfl); rotate_left; (simp only [Act.put, List.setIfInBounds_toArray, List.set_cons_zero, List.set_cons_succ, i64_w, i32_w]; rfl)) | ((first | refine takeS_ 11 (N := some 4) (v := undef) (a' := ?_) rfl rfl (by decide +kernel) (fun _ _ _ h => h) (Or.inr ⟨by rfl, rfl⟩) hHeld ?_ ?_ | refine takeS_ 12 (N := some 5) (v := undef) (a' := ?_) rfl rfl (by decide +kernel) (fun _ _ _ h => h) (Or.inr ⟨by rfl, rfl⟩) hHeld ?_ ?_); rotate_left; (simp only [Act.put, List.setIfInBounds_toArray, List.set_cons_zero, List.set_cons_succ, i64_w, i32_w]; rfl)))
  refine done_ (by kernel_rfl) ?_
  go_wp2
  go_ret2
  exact ⟨rfl, HB1.out⟩
theorem setArgs_ok (B : Nat) (w : World) (g : Nat) (V : List (ByteArray × ByteArray)) (A l : List ByteArray) (st : Int) (vv va : Value) (P : Option Addr) (c : Nat) (ht : Tab B w g V A st vv va) (hB : B ≤ w.heap.size) (hl : Kd.string.C w P l.length l) (he : argsE l = 0) :
    Calls Try.prog 19 #[.pointer (some ⟨g, 0, none⟩), .slice P l.length c] w fun e w' => e = .returned (.int .i64 0) ∧ Frm (fun k => k = g) w w' ∧ ∃ va', Tab B w' g V l st vv va' := by
  refine (setArgs_any B w g V A l st vv va P c ht hB hl).mono ?_
  rintro e w' ⟨rfl, hf, va', A', ht', h1, _⟩
  obtain rfl := h1 he
  exact ⟨by rw [he], hf, va', ht'⟩
set_option maxHeartbeats 2000000 in
set_option maxRecDepth 100000 in
theorem new_nil (w : World) (P : Option Addr) (c : Nat) (l : List ByteArray) (hl : Kd.string.C w P l.length l) (he : argsE l = 0) :
    Calls Try.prog 8 #[.slice none 0 0, .slice P l.length c] w fun e w' => ∃ g va, e = .returned (.tuple #[.pointer (some ⟨g, 0, none⟩), .int .i64 0]) ∧ Below w.heap.size w w' ∧ Tab w.heap.size w' g [] l 0 (.slice none 0 0) va := by
  have hu57 := Try.underlying57
  have HL := Lib.hid hl
  have HE := Lib.hid he
  clear hl he
  go_enter Try.func8, Try.ntmps8
  go_wp2_with (first | ((with_reducible refine gate_dst (N := 12) rfl ?_); refine box_event ?hg (N := 12) ?hd (cs := #[.slice none 0 0, .slice none 0 0, .int .i64 0]) (t := 57) ?hr ?_; (case hd => rfl); (case hg => rfl); (case hr => first | (go_simp; done) | (go_simp; rfl)); intro g hg w1 hbox hb; have HB1 := Lib.hid hb; have E1 : Hid (w.heap.size ≤ g) := Lib.hid (by rw [hg]; exact Nat.le_refl _); have HT1 : Hid (Tab w.heap.size w1 g [] [] 0 (.slice none 0 0) (.slice none 0 0)) := Lib.hid ⟨hbox, E1.out, World.ownsRow_nil _ _ _ _, World.ownsRow_nil _ _ _ _⟩; clear hbox hb hg))
  go_loopw [15] (fun s15 wr => s15 = .int .i64 0 ∧ wr = w1) (fun _ _ => 0)
  case atStart => exact ⟨rfl, rfl⟩
  case round =>
    obtain ⟨rfl, rfl⟩ := hrel
    go_wp2_with (first | (go_at_call 19; (with_reducible refine (setArgs_ok w.heap.size _ g [] [] l 0 _ _ P c HT1.out HB1.out.size (Kd.C_below HL.out HB1.out) HE.out).mono ?_); rintro e w2 ⟨rfl, hf, va, ht⟩; have HT2 := Lib.hid ht; have HB2 : Hid (Below w.heap.size w w2) := Lib.hid ((HB1.out).trans (hf.below HB1.out.size (fun i hi e => by have := E1.out; omega))); clear hf ht))
    go_ret2
    exact ⟨g, va, rfl, HB2.out, HT2.out⟩
end Go.Proofs.Ytgcbipflmhbpcaa
set_option linter.unusedVariables false
set_option linter.unusedSimpArgs false
namespace Go.Proofs.Ytgcbipflmhbpcaa
open Go.RowKit Go.Proofs.YtgcbipflmhbpcaaW.PrintWords Go.Proofs.YtgcbipflmhbpcaaW.PrintLast Go.Proofs.YtgcbipflmhbpcaaW.PrintMore
theorem reads_new {W : World} {g t : Nat} {l : List ByteArray} (h : W.heap[g]? = some (.cells (l.map Value.string).toArray t (0, 0))) (hl : l.length ≤ 1000000) : Kd.C Kd.string W (some ⟨g, 0, none⟩) l.length l := by
  refine ⟨rfl, by omega, fun _ => ⟨_, rfl, fun j y hy => ⟨[.string y], rfl, rfl, fun i u hu => ?_⟩⟩⟩
  have hi : i = 0 := by
    cases i with
    | zero => rfl
    | succ i => simp at hu
  subst hi
  have hu' : u = .string y := by simpa using hu.symm
  subst hu'
  rw [show (Kd.string).sz = 1 from rfl, Nat.mul_one, Nat.add_zero]
  have e : (⟨g, 0, none⟩ : Addr).add j = ⟨g, j, none⟩ := by
    unfold Addr.add
    by_cases hj : j = 0
    · subst hj; rfl
    · simp [hj]
  rw [e, blk_cell h j]
  simp [hy]
theorem Tab.weak {B B' : Nat} {w : World} {g : Nat} {V : List (ByteArray × ByteArray)} {A : List ByteArray} {st : Int} {vv va : Value} (h : Tab B w g V A st vv va) (hb : B' ≤ B) : Tab B' w g V A st vv va :=
  ⟨h.bt, Nat.le_trans hb h.eg, own_weaken h.ov hb, own_weaken h.oa hb⟩
def abS : List ByteArray := [⟨#[97]⟩, ⟨#[98]⟩]
theorem join_ab : strings_Join.f abS ⟨#[32]⟩ = some ⟨#[97, 32, 98]⟩ := by unfold strings_Join.f abS; decide +kernel
theorem text_two : textS 2 = ⟨#[50]⟩ := by decide +kernel
theorem get2 {B : Nat} {w : World} {g : Nat} {vv va : Value} (h : Tab B w g [] abS 0 vv va) : Calls Try.prog 13 #[.pointer (some ⟨g, 0, none⟩), .string ⟨#[50]⟩] w fun e w' => e = .returned (.tuple #[.string ⟨#[98]⟩, .bool true]) ∧ Below w.heap.size w w' := get_num B w g [] abS 0 vv va h (by decide) 50 1 (.inr ⟨rfl, rfl⟩) (by decide)
theorem getA {B : Nat} {w : World} {g : Nat} {vv va : Value} (h : Tab B w g [] abS 0 vv va) : Calls Try.prog 13 #[.pointer (some ⟨g, 0, none⟩), .string ⟨#[64]⟩] w fun e w' => e = .returned (.tuple #[.string ⟨#[97, 32, 98]⟩, .bool true]) ∧ Below w.heap.size w w' := get_all B w g [] abS 0 vv va h _ join_ab (by decide)
theorem getC {B : Nat} {w : World} {g : Nat} {vv va : Value} (h : Tab B w g [] abS 0 vv va) : Calls Try.prog 13 #[.pointer (some ⟨g, 0, none⟩), .string ⟨#[35]⟩] w fun e w' => e = .returned (.tuple #[.string ⟨#[50]⟩, .bool true]) ∧ Below w.heap.size w w' := by
  have := get_count B w g [] abS 0 vv va h (by decide)
  rw [show ((abS.length : Nat) : Int) = 2 from rfl, text_two] at this
  exact this
theorem get1 {B : Nat} {w : World} {g : Nat} {vv va : Value} (h : Tab B w g [] (abS.drop 1) 0 vv va) : Calls Try.prog 13 #[.pointer (some ⟨g, 0, none⟩), .string ⟨#[49]⟩] w fun e w' => e = .returned (.tuple #[.string ⟨#[98]⟩, .bool true]) ∧ Below w.heap.size w w' := get_num B w g [] (abS.drop 1) 0 vv va h (by decide) 49 0 (.inl ⟨rfl, rfl⟩) (by decide)
theorem shift1 {B : Nat} {w : World} {g : Nat} {vv va : Value} (h : Tab B w g [] abS 0 vv va) (hB : B ≤ w.heap.size) : Calls Try.prog 20 #[.pointer (some ⟨g, 0, none⟩), .int .i64 1] w fun e w' => e = .returned (.bool true) ∧ Frm (fun k => k = g) w w' ∧ ∃ va', Tab B w' g [] (abS.drop 1) 0 vv va' :=
  shift_ok B w g [] abS 0 vv va h hB (by decide) 1 (by decide)
set_option maxHeartbeats 4000000 in
set_option maxRecDepth 100000 in
theorem awake_any (w : World) : Calls Try.prog 6 #[] w fun e W' => e = .returned (.bool true) ∧ Below w.heap.size w W' := by
  go_enter Try.func6, Try.ntmps6
  go_wp2_with (first | (go_at_call 8; refine (new_nil _ (some ⟨w.heap.size, 0, none⟩) 2 abS (reads_new (l := abS) (bk_new w _) (by decide)) (by decide +kernel)).mono ?_; rintro e w1 ⟨g, va, rfl, hb, ht⟩; have HT := Lib.hid (ht.weak (B' := w.heap.size) (by simp)); have HB := Lib.hid (((Below.refl w.heap.size w).alloc (Nat.le_refl _) _).trans (hb.mono (((Below.refl w.heap.size w).alloc (Nat.le_refl _) (.cells #[.string ⟨#[97]⟩, .string ⟨#[98]⟩] 9)).size))); clear hb ht) | (go_at_call 13; (with_reducible refine (get2 HT.out).mono ?_); rintro e w2 ⟨rfl, hb⟩; replace HT := Lib.hid (HT.out.frm hb); replace HB := Lib.hid (HB.out.trans (hb.mono HB.out.size)); clear hb) | (go_at_call 13; (with_reducible refine (getA HT.out).mono ?_); rintro e w2 ⟨rfl, hb⟩; replace HT := Lib.hid (HT.out.frm hb); replace HB := Lib.hid (HB.out.trans (hb.mono HB.out.size)); clear hb) | (go_at_call 13; (with_reducible refine (getC HT.out).mono ?_); rintro e w2 ⟨rfl, hb⟩; replace HT := Lib.hid (HT.out.frm hb); replace HB := Lib.hid (HB.out.trans (hb.mono HB.out.size)); clear hb) | (go_at_call 20; (with_reducible refine (shift1 HT.out HB.out.size).mono ?_); rintro e w2 ⟨rfl, hf, va2, ht⟩; replace HB : Hid (Below w.heap.size w w2) := Lib.hid (HB.out.trans (hf.below HB.out.size (fun i hi e => by have := HT.out.eg; omega))); replace HT := Lib.hid ht; clear hf ht) | (go_at_call 13; (with_reducible refine (get1 HT.out).mono ?_); rintro e w2 ⟨rfl, hb⟩; replace HT := Lib.hid (HT.out.frm hb); replace HB := Lib.hid (HB.out.trans (hb.mono HB.out.size)); clear hb))
  go_ret
  exact ⟨rfl, HB.out⟩
end Go.Proofs.Ytgcbipflmhbpcaa
set_option linter.unusedVariables false
set_option linter.unusedSimpArgs false
namespace Go.Proofs.Ytgcbipflmhbpcaa.PV
open Go Go.RowKit Go.Proofs.Ytgcbipflmhbpcaa Go.Proofs.YtgcbipflmhbpcaaW.PrintWords Go.Proofs.YtgcbipflmhbpcaaW.PrintLast Go.Proofs.YtgcbipflmhbpcaaW.PrintMore
def pv (V : List S26) : List (ByteArray × ByteArray) := V.map (fun x => (x.f0, x.f1))
def cV (V : List S26) : List Value := cellsV (pv V)
theorem cV_cons (x : S26) (V : List S26) : cV (x :: V) = .string x.f0 :: .string x.f1 :: cV V := rfl
theorem cV_nil : cV [] = [] := rfl
theorem cV_append (V U : List S26) : cV (V ++ U) = cV V ++ cV U := by
  induction V with
  | nil => rfl
  | cons x V ih => rw [List.cons_append, cV_cons, ih, cV_cons]; rfl
theorem cV_len (V : List S26) : (cV V).length = V.length * 2 := by
  induction V with
  | nil => rfl
  | cons x V ih => rw [cV_cons, List.length_cons, List.length_cons, ih, List.length_cons]; omega
theorem pv_len (V : List S26) : (pv V).length = V.length := List.length_map ..
theorem cV_take (V : List S26) (r : Nat) : (cV V).take (r * 2) = cV (V.take r) := by
  induction V generalizing r with
  | nil => simp [cV_nil]
  | cons x V ih =>
    cases r with
    | zero => simp [cV_nil]
    | succ r => rw [cV_cons, show (r + 1) * 2 = r * 2 + 2 from by omega, List.take_succ_cons, List.take_succ_cons, ih, List.take_succ_cons, cV_cons]
theorem cV_drop (V : List S26) (r : Nat) : (cV V).drop (r * 2) = cV (V.drop r) := by
  induction V generalizing r with
  | nil => simp [cV_nil]
  | cons x V ih =>
    cases r with
    | zero => simp
    | succ r => rw [cV_cons, show (r + 1) * 2 = r * 2 + 2 from by omega, List.drop_succ_cons, List.drop_succ_cons, ih, List.drop_succ_cons]
theorem cV_one (V : List S26) : ∀ u ∈ cV V, u.oneCell' = true := by
  induction V with
  | nil => intro u hu; cases hu
  | cons x V ih =>
    intro u hu
    rw [cV_cons] at hu
    rcases List.mem_cons.1 hu with rfl | hu
    · rfl
    · rcases List.mem_cons.1 hu with rfl | hu
      · rfl
      · exact ih u hu
theorem reps_V {R : S26 → List Value → Prop} (hR : ∀ x, R x [.string x.f0, .string x.f1]) (V : List S26) : Reps R 2 V (cV V) := by
  refine ⟨cV_len V, fun j p hj => ?_⟩
  obtain ⟨hlt, rfl⟩ := List.getElem?_eq_some_iff.1 hj
  rw [cV_drop, List.drop_eq_getElem_cons hlt, cV_cons, List.take_succ_cons, List.take_succ_cons, List.take_zero]
  exact hR _
theorem own_C {w : World} {B c : Nat} {A : Option Addr} {V : List S26} (h : w.ownsRow B 26 2 (.slice A (pv V).length c) (pv V).length (cV V)) : Kd.C k26 w A V.length V := by
  rw [pv_len] at h
  obtain ⟨A', c', e, hr⟩ := own_reads_row (R := k26.K w) h (reps_V (fun x => k26_mk w x) V) rfl
  cases e
  exact hr
theorem own_R {w : World} {B : Nat} {v : Value} {V : List S26} (h : w.ownsRow B 26 2 v (pv V).length (cV V)) : Kd.R k26 26 w B (fun _ => True) v V := by
  rw [pv_len] at h
  exact ⟨fun _ _ => trivial, cV V, h, reps_V (fun x => k26_mkM w B _ x) V⟩
theorem reps_cV {R : S26 → List Value → Prop} (hR : ∀ x c, R x c → c = [.string x.f0, .string x.f1]) : ∀ (V : List S26) (cs : List Value), Reps R 2 V cs → cs = cV V
  | [], cs, h => by have := h.1; exact List.eq_nil_of_length_eq_zero (by simpa using this)
  | x :: V, cs, h => by
    have h0 := hR _ _ (h.2 0 x rfl)
    rw [Nat.zero_mul, List.drop_zero] at h0
    have h1 : Reps R 2 V (cs.drop 2) := ⟨by rw [List.length_drop, h.1, List.length_cons]; omega, fun j p hj => by
      have := h.2 (j + 1) p (by rw [List.getElem?_cons_succ]; exact hj)
      rw [List.drop_drop, show 2 + j * 2 = (j + 1) * 2 from by omega]
      exact this⟩
    have h2 := reps_cV hR V _ h1
    rw [cV_cons, ← List.take_append_drop 2 cs, h0, h2]; rfl
theorem R_own {w : World} {B : Nat} {v : Value} {V : List S26} {ok : Nat → Prop} (h : Kd.R k26 26 w B ok v V) : w.ownsRow B 26 2 v (pv V).length (cV V) := by
  obtain ⟨_, inner, ho, hr⟩ := h
  rw [pv_len]
  have := reps_cV (fun x c hc => k26_openM hc) V inner hr
  rw [← this]; exact ho
theorem insert_any (B : Nat) (w : World) (n i : Nat) (v : Value) (cs : List Value) (nm vl : ByteArray) (gv : Nat) (hB : B ≤ w.heap.size) (ho : w.ownsRow B 26 2 v n cs) (h1 : ∀ u ∈ cs, u.oneCell' = true) (hv : w.heap[gv]? = some (.cells #[.string nm, .string vl] 26 (0, 0))) (hne : some gv ≠ v.ownBlock) (hi : i ≤ n) (hn : n ≤ 1000) :
    Calls Try.prog 39 #[v, .int .i64 i, .slice (some ⟨gv, 0, none⟩) 1 1] w fun e w' => ∃ v', e = .returned v' ∧ w'.ownsRow B 26 2 v' (n + 1) (cs.take (i * 2) ++ [.string nm, .string vl] ++ cs.drop (i * 2)) ∧ w.grownBy w' v.ownBlock ∧ (v'.ownBlock = v.ownBlock ∨ ∃ b, v'.ownBlock = some b ∧ w.heap.size ≤ b) := by
  have hlen := ho.1
  by_cases hin : i = n
  · subst hin
    rw [List.take_of_length_le (by omega), List.drop_of_length_le (by omega), List.append_nil]
    exact insert_end B 0 w i v cs nm vl gv hB ho hv hn
  · rcases ho.2 with ⟨_, h0⟩ | ⟨g, cap, cur, rfl, hb, hh, hnc, hm, hs, ht⟩
    · omega
    · by_cases hr : n + 1 ≤ cap
      · refine (insert_room B g cap w n i cur nm vl gv (by omega) hn hr (by unfold maxLen at hm; omega) hs hh hv (fun e => hne (by rw [e]; rfl)) (by rw [ht]; exact h1)).mono ?_
        rintro e w' ⟨rfl, cur', k1, k2, k3, k4⟩
        refine ⟨_, rfl, ⟨?_, .inr ⟨g, cap, cur', rfl, hb, k1, hr, hm, k2, ?_⟩⟩, k4, .inl rfl⟩
        · simp only [List.length_append, List.length_take, List.length_drop, List.length_cons, List.length_nil]; omega
        · rw [k3, ht]
      · have hcn : cap = n := by omega
        subst hcn
        have hcur : cur.toList = cs := by rw [← ht, List.take_of_length_le (by rw [Array.length_toList]; omega)]
        refine (insert_grow g w cap i cur nm vl gv (by omega) hn hs hh hv (by rw [hcur]; exact h1)).mono ?_
        rintro e w' ⟨c', rfl, q1, q2, cur', k1, k2, k3, k4⟩
        refine ⟨_, rfl, ⟨?_, .inr ⟨w.heap.size, c', cur', rfl, hB, k1, q1, q2, k2, ?_⟩⟩, grown_of_below k4 _, .inr ⟨_, rfl, Nat.le_refl _⟩⟩
        · simp only [List.length_append, List.length_take, List.length_drop, List.length_cons, List.length_nil]; omega
        · rw [k3, hcur]
set_option maxHeartbeats 2000000 in
set_option maxRecDepth 100000 in
theorem place_calls (B : Nat) (w : World) (g : Nat) (V : List S26) (A : List ByteArray) (st : Int) (vv va : Value) (x : ByteArray) (ht : Tab B w g (pv V) A st vv va) (hl : V.length ≤ 1000) (hr : Ord V) :
    Calls Try.prog 32 #[.pointer (some ⟨g, 0, none⟩), .string x] w fun e w' => ∃ (r : Nat) (b : Bool), e = .returned (.tuple #[.int .i64 (r : Int), .bool b]) ∧ At V x r b ∧ Below w.heap.size w w' := by
  obtain ⟨A1, c1, rfl⟩ := own_slice ht.ov
  have hcap := own_cap ht.ov
  have hC := own_C ht.ov
  have d0 : w.cell? ⟨g, 0, none⟩ = some (.slice A1 V.length c1) := by rw [← pv_len V]; exact (blk_cell ht.bt 0).trans rfl
  rw [pv_len] at hcap
  obtain ⟨r, b, hf, hat⟩ := place_any V x 0 (by omega) hr
  have HF := Lib.hid hf
  have HAT := Lib.hid hat
  have HCC := Lib.hid hC
  have HCAP := Lib.hid hcap
  clear ht hl hr hf hat hC hcap
  go_enter Try.func32, Try.ntmps32
  go_wp2_with (go_at_call 50; (with_reducible refine (api_Var_string.calls (V.length + 1) A1 c1 V x 0 (r : Int) b _ HCC.out HCAP.out HF.out).mono ?_); rintro e w1 ⟨rfl, hb⟩; have HB1 := Lib.hid hb; clear hb)
  go_ret2
  exact ⟨r, b, rfl, HAT.out, HB1.out⟩
end Go.Proofs.Ytgcbipflmhbpcaa.PV
set_option linter.unusedVariables false
set_option linter.unusedSimpArgs false
namespace Go.Proofs.Ytgcbipflmhbpcaa.PV
open Go Go.RowKit Go.Proofs.Ytgcbipflmhbpcaa Go.Proofs.YtgcbipflmhbpcaaW.PrintWords Go.Proofs.YtgcbipflmhbpcaaW.PrintLast Go.Proofs.YtgcbipflmhbpcaaW.PrintMore
theorem At.uniq {V : List S26} {x : ByteArray} {r r' : Nat} {b b' : Bool} (h : At V x r b) (h' : At V x r' b') : r = r' ∧ b = b' := by
  refine ⟨?_, by rw [← h.has, ← h'.has]⟩
  rcases Nat.lt_trichotomy r r' with k | k | k
  · have hl : r < V.length := Nat.lt_of_lt_of_le k h'.le
    have := h'.lo r hl k
    rw [h.hi r hl (Nat.le_refl _)] at this; cases this
  · exact k
  · have hl : r' < V.length := Nat.lt_of_lt_of_le k h.le
    have := h.lo r' hl k
    rw [h'.hi r' hl (Nat.le_refl _)] at this; cases this
theorem at_ex (V : List S26) (x : ByteArray) (hl : V.length ≤ 1000) (hr : Ord V) : ∃ r b, At V x r b := by
  obtain ⟨r, b, _, h⟩ := place_any V x 0 (by omega) hr
  exact ⟨r, b, h⟩
theorem place_at {B : Nat} {w : World} {g : Nat} {V : List S26} {A : List ByteArray} {st : Int} {vv va : Value} {x : ByteArray} {r : Nat} {b : Bool} (ht : Tab B w g (pv V) A st vv va) (hl : V.length ≤ 1000) (hr : Ord V) (hat : At V x r b) :
    Calls Try.prog 32 #[.pointer (some ⟨g, 0, none⟩), .string x] w fun e w' => e = .returned (.tuple #[.int .i64 (r : Int), .bool b]) ∧ Below w.heap.size w w' :=
  (place_calls B w g V A st vv va x ht hl hr).mono (fun e w' ⟨r', b', he, h', hb⟩ => by
    obtain ⟨rfl, rfl⟩ := hat.uniq h'
    exact ⟨he, hb⟩)
def TB (B : Nat) (w : World) (g : Nat) (V : List S26) (A : List ByteArray) (st : Int) : Prop := ∃ vv va, Tab B w g (pv V) A st vv va
theorem frm_grown {S : Nat → Prop} {w w' : World} {row : Option Nat} (h : w.grownBy w' row) (hS : ∀ k, row = some k → S k) : Frm S w w' :=
  ⟨h.os, h.tape, h.output, h.size, fun i hi hs => h.block i hi (fun e => hs (hS i e.symm))⟩
/-- other variables -/
theorem Tab.setRow {B : Nat} {w w' : World} {g : Nat} {V V' : List (ByteArray × ByteArray)} {A : List ByteArray} {st : Int} {vv va vv' : Value} (h : Tab B w g V A st vv va) (hg : w.grownBy w' vv.ownBlock) (ho : w'.ownsRow B 26 2 vv' V'.length (cellsV V')) : Tab B (w'.setCell ⟨g, 0, none⟩ vv') g V' A st vv' va ∧ w'.heap[g]? = some (.cells #[vv, va, .int .i64 st] 57 (0, 0)) := by
  have hbt : w'.heap[g]? = some (.cells #[vv, va, .int .i64 st] 57 (0, 0)) := (hg.block g (blk_lt h.bt) (own_ne h.ov h.bt (by decide))).trans h.bt
  have hoa := own_other h.oa hg (own_type_ne h.oa h.ov (by decide))
  exact ⟨⟨blk_put hbt 0 vv' rfl, h.eg, own_setCell ho (own_ne ho hbt (by decide)) _, own_setCell hoa (own_ne hoa hbt (by decide)) _⟩, hbt⟩
theorem Tab.keepRow {B : Nat} {w w' : World} {g : Nat} {V V' : List (ByteArray × ByteArray)} {A : List ByteArray} {st : Int} {vv va : Value} (h : Tab B w g V A st vv va) (hg : w.grownBy w' vv.ownBlock) (ho : w'.ownsRow B 26 2 vv V'.length (cellsV V')) : Tab B w' g V' A st vv va :=
  ⟨(hg.block g (blk_lt h.bt) (own_ne h.ov h.bt (by decide))).trans h.bt, h.eg, ho, own_other h.oa hg (own_type_ne h.oa h.ov (by decide))⟩
theorem own_ge {w : World} {B e s n : Nat} {v : Value} {xs : List Value} (h : w.ownsRow B e s v n xs) (k : Nat) (hk : v.ownBlock = some k) : B ≤ k := by
  rcases h.2 with ⟨rfl, _⟩ | ⟨g, cap, cur, rfl, hb, _⟩
  · simp [Value.ownBlock] at hk
  · have : g = k := by simpa [Value.ownBlock] using hk
    omega
theorem cV_set (V : List S26) (r : Nat) (h : r < V.length) (y : ByteArray) : (cV V).set (r * 2 + 1) (.string y) = cV (V.set r ⟨V[r].f0, y⟩) := by
  induction V generalizing r with
  | nil => simp at h
  | cons x V ih =>
    cases r with
    | zero => rfl
    | succ r =>
      rw [cV_cons, show (r + 1) * 2 + 1 = r * 2 + 1 + 1 + 1 from by omega, List.set_cons_succ, List.set_cons_succ, ih r (by simpa using h)]
      simp only [List.getElem_cons_succ, List.set_cons_succ, cV_cons]
theorem cV_at (V : List S26) (r : Nat) (h : r < V.length) : (cV V)[r * 2 + 1]? = some (.string V[r].f1) := by
  induction V generalizing r with
  | nil => simp at h
  | cons x V ih =>
    cases r with
    | zero => rfl
    | succ r =>
      rw [cV_cons, show (r + 1) * 2 + 1 = r * 2 + 1 + 1 + 1 from by omega, List.getElem?_cons_succ, List.getElem?_cons_succ]
      exact ih r (by simpa using h)
/-- where the value of a variable lies; another value -/
theorem own_at {w : World} {B : Nat} {vv : Value} {V : List S26} (ho : w.ownsRow B 26 2 vv (pv V).length (cV V)) (r : Nat) (hr : r < V.length) (y : ByteArray) :
    ∃ b c, vv = .slice (some ⟨b, 0, none⟩) V.length c ∧ B ≤ b ∧ w.cell? ⟨b, r * 2 + 1, none⟩ = some (.string V[r].f1) ∧ w.frozen? ⟨b, r * 2 + 1, none⟩ = false ∧ (w.setCell ⟨b, r * 2 + 1, none⟩ (.string y)).ownsRow B 26 2 vv (pv (V.set r ⟨V[r].f0, y⟩)).length (cV (V.set r ⟨V[r].f0, y⟩)) ∧ w.grownBy (w.setCell ⟨b, r * 2 + 1, none⟩ (.string y)) vv.ownBlock := by
  have hl := pv_len V
  rcases ho.2 with ⟨_, h0⟩ | ⟨b, cap, cur, rfl, hb, hh, hn, hm, hs, ht⟩
  · omega
  · refine ⟨b, cap, by rw [hl], hb, ?_, blk_frozen hh _, ⟨?_, .inr ⟨b, cap, cur.setIfInBounds (r * 2 + 1) (.string y), ?_, hb, blk_put hh _ _ rfl, ?_, hm, by rw [Array.size_setIfInBounds]; exact hs, ?_⟩⟩, ?_⟩
    · rw [blk_cell hh, ← cV_at V r hr, ← ht, List.getElem?_take_of_lt (by omega), Array.getElem?_toList]
    · rw [cV_len, pv_len]
    · rw [pv_len, pv_len, List.length_set]
    · rw [pv_len, List.length_set]; omega
    · rw [Array.toList_setIfInBounds, List.take_set, pv_len, List.length_set, ← hl, ht, cV_set V r hr]
    · exact ⟨rfl, rfl, rfl, by simp [World.setCell], fun k hk hne => Below.heap_setCell _ _ _ k (fun e => hne (by rw [e]; rfl))⟩
theorem ins_at {B : Nat} {w2 : World} {g : Nat} {V : List S26} {A : List ByteArray} {st : Int} {vv va : Value} {x y : ByteArray} {r : Nat} (ht : Tab B w2 g (pv V) A st vv va) (hB : B ≤ w2.heap.size) (hr : r ≤ V.length) (hl : V.length ≤ 1000) :
    Calls Try.prog 39 #[vv, .int .i64 r, .slice (some ⟨w2.heap.size, 0, none⟩) 1 1] (w2.alloc (.cells #[.string x, .string y] 26 (0, 0))) fun e w3 => ∃ v', e = .returned v' ∧ (∃ A2 n2 c2, v' = .slice A2 n2 c2) ∧ Tab B (w3.setCell ⟨g, 0, none⟩ v') g (pv (V.take r ++ ⟨x, y⟩ :: V.drop r)) A st v' va ∧ w3.cell? ⟨g, 0, none⟩ = some vv ∧ w3.frozen? ⟨g, 0, none⟩ = false ∧ Frm (fun k => B ≤ k) w2 (w3.setCell ⟨g, 0, none⟩ v') := by
  have hal : Below w2.heap.size w2 (w2.alloc (.cells #[.string x, .string y] 26 (0, 0))) := below_alloc (Below.refl _ _) _
  have ht1 := ht.frm hal
  have hp := pv_len V
  have ho : (w2.alloc (.cells #[.string x, .string y] 26 (0, 0))).ownsRow B 26 2 vv V.length (cV V) := by rw [← hp]; exact ht1.ov
  refine (insert_any B _ V.length r vv (cV V) x y w2.heap.size (Nat.le_trans hB hal.size) ho (cV_one V) (blk_new _ _) (by have := own_ne_new ht.ov 0; exact this) hr hl).mono ?_
  rintro e w3 ⟨v', rfl, k1, k2, k2at⟩
  have k1' : w3.ownsRow B 26 2 v' (pv (V.take r ++ ⟨x, y⟩ :: V.drop r)).length (cellsV (pv (V.take r ++ ⟨x, y⟩ :: V.drop r))) := by
    have e1 : (pv (V.take r ++ ⟨x, y⟩ :: V.drop r)).length = V.length + 1 := by rw [pv_len, List.length_append, List.length_cons, List.length_take, List.length_drop]; omega
    have e2 : cellsV (pv (V.take r ++ ⟨x, y⟩ :: V.drop r)) = (cV V).take (r * 2) ++ [.string x, .string y] ++ (cV V).drop (r * 2) := by
      show cV _ = _
      rw [cV_append, cV_cons, cV_take, cV_drop, List.append_assoc]; rfl
    rw [e1, e2]; exact k1
  have k3 := Tab.setRow ht1 k2 k1'
  refine ⟨v', rfl, (by obtain ⟨A2, c2, e⟩ := own_slice k1; exact ⟨_, _, _, e⟩), k3.1, (blk_cell k3.2 0).trans rfl, blk_frozen k3.2 _, ?_⟩
  refine (((Frm.of_below hal).grown k2 (fun k hk _ => own_ge ho k hk)) : Frm (fun k => B ≤ k) w2 w3).setCell _ _ (fun _ => ht.eg)
set_option maxHeartbeats 4000000 in
set_option maxRecDepth 100000 in
theorem set_calls (B : Nat) (w : World) (g : Nat) (V : List S26) (A : List ByteArray) (st : Int) (x y : ByteArray) (ht : TB B w g V A st) (hB : B ≤ w.heap.size) (hV : Ord V) (hl : V.length ≤ 64) :
    Calls Try.prog 15 #[.pointer (some ⟨g, 0, none⟩), .string x, .string y] w fun e w' => e = .returned (.int .i64 (setE V x y)) ∧ Frm (fun k => B ≤ k) w w' ∧ TB B w' g (setT V x y) A st := by
  obtain ⟨vv, va, ht⟩ := ht
  obtain ⟨K, hK⟩ := name_w x
  have HN : Hid (word_Name.f K x = some (nameB x)) := Lib.hid (hK K (Nat.le_refl _))
  clear hK
  by_cases hn : nameB x = true
  · rw [hn] at HN
    by_cases hy : 4096 < y.size
    · have e : setE V x y = 2 := by unfold setE; rw [if_pos hn, if_pos hy]
      have HE : Hid (setT V x y = V) := Lib.hid (by unfold setT; rw [e]; rfl)
      have HT := Lib.hid ht
      rw [e]
      have c0 : decide ((4096 : Int) < (y.size : Int)) = true := decide_eq_true (by omega)
      clear e hn hy ht hV hl hB
      go_enter Try.func15, Try.ntmps15
      go_wp2_with (go_at_call 38; (with_reducible refine (word_Name.calls K x true _ HN.out).mono ?_); rintro e w1 ⟨rfl, hb⟩; obtain ⟨m, rfl⟩ := hb.out; have HB1 : Hid (Below w.heap.size w (w.drewN m)) := Lib.hid ⟨rfl, rfl, rfl, Nat.le_refl _, fun _ _ => rfl⟩)
      go_ret
      exact ⟨rfl, Frm.of_below HB1.out, by rw [HE.out]; exact ⟨vv, va, HT.out.frm HB1.out⟩⟩
    · have c0 : decide ((4096 : Int) < (y.size : Int)) = false := decide_eq_false (by omega)
      obtain ⟨r, b, hat⟩ := at_ex V x (by omega) hV
      obtain ⟨A1, c1, rfl⟩ := own_slice ht.ov
      rw [pv_len] at ht
      cases b with
      | true =>
        have e : setE V x y = 0 := by unfold setE; rw [if_pos hn, if_neg hy, if_neg (fun h => by have := hat.has; rw [h.1] at this; cases this)]
        obtain ⟨hr, he, hset, k1, k2⟩ := hat.old (y := y) hV
        have HE : Hid (setT V x y = V.set r ⟨V[r].f0, y⟩) := Lib.hid (by unfold setT; rw [if_pos e, hset])
        rw [e]
        have HT := Lib.hid ht
        have HBB := Lib.hid hB
        have HP := Lib.hid hat
        have HV := Lib.hid hV
        have HL := Lib.hid hl
        obtain ⟨b', c', hvv, hb', k3⟩ := own_at ht.ov r hr y
        injection hvv with hvv
        subst hvv
        have HR : Hid (r < V.length) := Lib.hid hr
        have j0 : decide (0 ≤ (r : Int)) = true := decide_eq_true (by omega)
        have j1 : decide ((r : Int) < (V.length : Int)) = true := decide_eq_true (by omega)
        have HBL : Hid (B ≤ b') := Lib.hid hb'
        clear k1 k2 k3 e hn hy ht hV hl hB hat he hset hb'
        go_enter Try.func15, Try.ntmps15
        go_wp2_with (first | (go_at_call 38; (with_reducible refine (word_Name.calls K x true _ HN.out).mono ?_); rintro e w1 ⟨rfl, hb⟩; have HB1 : Hid (Below w.heap.size w w1) := Lib.hid (by obtain ⟨m, rfl⟩ := hb.out; exact ⟨rfl, rfl, rfl, Nat.le_refl _, fun _ _ => rfl⟩); clear hb) | (go_at_call 32; (with_reducible refine (place_at (HT.out.frm HB1.out) (Nat.le_trans HL.out (by decide)) HV.out HP.out).mono ?_); rintro e w2 ⟨rfl, hb⟩; have HB2 : Hid (Below w.heap.size w w2) := Lib.hid (below_step HB1.out hb); clear hb; have HT2 := Lib.hid (HT.out.frm HB2.out); have d0 : w2.cell? ⟨g, 0, none⟩ = some (.slice (some ⟨b', 0, none⟩) V.length c1) := (blk_cell HT2.out.bt 0).trans rfl; obtain ⟨_, _, e0, _, d1, f1, o1, g1⟩ := own_at HT2.out.ov r HR.out y; cases e0; have O1 := Lib.hid o1; have G1 := Lib.hid g1; clear o1 g1))
        go_ret
        refine ⟨rfl, (Frm.of_below HB2.out).grown G1.out (fun k hk _ => by injection hk with hk; subst hk; exact HBL.out), ?_⟩
        rw [HE.out]
        exact ⟨_, va, Tab.keepRow HT2.out G1.out O1.out⟩
      | false =>
        have hnew := hat.new (y := y)
        have hh := hat.has
        by_cases h64 : 64 ≤ V.length
        · have e : setE V x y = 2 := by unfold setE; rw [if_pos hn, if_neg hy, if_pos ⟨hh, h64⟩]
          have HE : Hid (setT V x y = V) := Lib.hid (by unfold setT; rw [e]; rfl)
          rw [e]
          have HT := Lib.hid ht
          have HP := Lib.hid hat
          have HV := Lib.hid hV
          have HL := Lib.hid hl
          have j2 : decide ((64 : Int) ≤ (V.length : Int)) = true := decide_eq_true (by omega)
          clear e hn hy ht hV hl hB hat hnew hh h64
          go_enter Try.func15, Try.ntmps15
          go_wp2_with (first | (go_at_call 38; (with_reducible refine (word_Name.calls K x true _ HN.out).mono ?_); rintro e w1 ⟨rfl, hb⟩; have HB1 : Hid (Below w.heap.size w w1) := Lib.hid (by obtain ⟨m, rfl⟩ := hb.out; exact ⟨rfl, rfl, rfl, Nat.le_refl _, fun _ _ => rfl⟩); clear hb) | (go_at_call 32; (with_reducible refine (place_at (HT.out.frm HB1.out) (Nat.le_trans HL.out (by decide)) HV.out HP.out).mono ?_); rintro e w2 ⟨rfl, hb⟩; have HB2 : Hid (Below w.heap.size w w2) := Lib.hid (below_step HB1.out hb); clear hb; have HT2 := Lib.hid (HT.out.frm HB2.out); have d0 : w2.cell? ⟨g, 0, none⟩ = some (.slice A1 V.length c1) := (blk_cell HT2.out.bt 0).trans rfl))
          go_ret
          exact ⟨rfl, Frm.of_below HB2.out, by rw [HE.out]; exact ⟨_, va, HT2.out⟩⟩
        · have e : setE V x y = 0 := by unfold setE; rw [if_pos hn, if_neg hy, if_neg (fun h => h64 h.2)]
          have HE : Hid (setT V x y = V.take r ++ ⟨x, y⟩ :: V.drop r) := Lib.hid (by unfold setT; rw [if_pos e, hnew])
          rw [e]
          have HT := Lib.hid ht
          have HP := Lib.hid hat
          have HV := Lib.hid hV
          have HL := Lib.hid hl
          have HBB := Lib.hid hB
          have HRL := Lib.hid hat.le
          have j2 : decide ((64 : Int) ≤ (V.length : Int)) = false := decide_eq_false (by omega)
          clear e hn hy ht hV hl hB hat hnew hh h64
          go_enter Try.func15, Try.ntmps15
          go_wp2_with (first | (go_at_call 38; (with_reducible refine (word_Name.calls K x true _ HN.out).mono ?_); rintro e w1 ⟨rfl, hb⟩; have HB1 : Hid (Below w.heap.size w w1) := Lib.hid (by obtain ⟨m, rfl⟩ := hb.out; exact ⟨rfl, rfl, rfl, Nat.le_refl _, fun _ _ => rfl⟩); clear hb) | (go_at_call 32; (with_reducible refine (place_at (HT.out.frm HB1.out) (Nat.le_trans HL.out (by decide)) HV.out HP.out).mono ?_); rintro e w2 ⟨rfl, hb⟩; have HB2 : Hid (Below w.heap.size w w2) := Lib.hid (below_step HB1.out hb); clear hb; have HT2 := Lib.hid (HT.out.frm HB2.out); have d0 : w2.cell? ⟨g, 0, none⟩ = some (.slice A1 V.length c1) := (blk_cell HT2.out.bt 0).trans rfl) | (go_at_call 39; (with_reducible refine (ins_at HT2.out (Nat.le_trans HBB.out HB2.out.size) HRL.out (Nat.le_trans HL.out (by decide))).mono ?_); rintro e w3 ⟨v', rfl, ⟨A2, n2, c2, rfl⟩, ht3, d3, f3, hf3⟩; have HT3 := Lib.hid ht3; have HF3 := Lib.hid hf3; clear ht3 hf3))
          go_ret
          exact ⟨rfl, (Frm.of_below HB2.out).trans HF3.out (fun _ _ h => h), by rw [HE.out]; exact ⟨_, va, HT3.out⟩⟩
  · have hnf : nameB x = false := by simpa using hn
    rw [hnf] at HN
    have e : setE V x y = 70 := by unfold setE; rw [if_neg hn]
    have HE : Hid (setT V x y = V) := Lib.hid (by unfold setT; rw [e]; rfl)
    have HT := Lib.hid ht
    rw [e]
    clear e hn ht hV hl hB hnf
    go_enter Try.func15, Try.ntmps15
    go_wp2_with (go_at_call 38; (with_reducible refine (word_Name.calls K x false _ HN.out).mono ?_); rintro e w1 ⟨rfl, hb⟩; obtain ⟨m, rfl⟩ := hb.out; have HB1 : Hid (Below w.heap.size w (w.drewN m)) := Lib.hid ⟨rfl, rfl, rfl, Nat.le_refl _, fun _ _ => rfl⟩)
    go_ret
    exact ⟨rfl, Frm.of_below HB1.out, by rw [HE.out]; exact ⟨vv, va, HT.out.frm HB1.out⟩⟩
end Go.Proofs.Ytgcbipflmhbpcaa.PV
set_option linter.unusedVariables false
set_option linter.unusedSimpArgs false
namespace Go.Proofs.Ytgcbipflmhbpcaa.PV
open Go Go.RowKit Go.Proofs.Ytgcbipflmhbpcaa Go.Proofs.YtgcbipflmhbpcaaW.PrintWords Go.Proofs.YtgcbipflmhbpcaaW.PrintLast Go.Proofs.YtgcbipflmhbpcaaW.PrintMore
theorem del_at {B : Nat} {w2 : World} {g : Nat} {V : List S26} {A : List ByteArray} {st : Int} {A1 : Option Addr} {n1 c1 : Nat} {va : Value} {r : Nat} (ht : Tab B w2 g (pv V) A st (.slice A1 n1 c1) va) (hB : B ≤ w2.heap.size) (hr : r < V.length) (hl : V.length ≤ 1000) :
    Calls Try.prog 40 #[.slice A1 n1 c1, .int .i64 r, .int .i64 ((r + 1 : Nat) : Int)] w2 fun e w3 => ∃ A2 n2 c2, e = .returned (.slice A2 n2 c2) ∧ Tab B (w3.setCell ⟨g, 0, none⟩ (.slice A2 n2 c2)) g (pv (V.eraseIdx r)) A st (.slice A2 n2 c2) va ∧ w3.cell? ⟨g, 0, none⟩ = some (.slice A1 n1 c1) ∧ w3.frozen? ⟨g, 0, none⟩ = false ∧ Frm (fun k => B ≤ k) w2 (w3.setCell ⟨g, 0, none⟩ (.slice A2 n2 c2)) := by
  have hp := pv_len V
  obtain ⟨b, c, e, hb, _⟩ := own_at ht.ov r hr ByteArray.empty
  injection e with e1 e2 e3
  subst e1 e2 e3
  refine (delete_one B b _ V.length r w2 V hB hr hl (own_R ht.ov)).mono ?_
  rintro e w3 ⟨rfl, k1, k2⟩
  have k3 := Tab.setRow ht k2 (V' := pv (V.eraseIdx r)) (R_own k1)
  refine ⟨_, _, _, rfl, k3.1, (blk_cell k3.2 0).trans rfl, blk_frozen k3.2 _, ?_⟩
  exact ((frm_grown k2 (fun k hk => own_ge ht.ov k hk) : Frm (fun k => B ≤ k) w2 w3)).setCell _ _ (fun _ => ht.eg)
set_option maxHeartbeats 4000000 in
set_option maxRecDepth 100000 in
theorem unset_calls (B : Nat) (w : World) (g : Nat) (V : List S26) (A : List ByteArray) (st : Int) (x : ByteArray) (ht : TB B w g V A st) (hB : B ≤ w.heap.size) (hV : Ord V) (hl : V.length ≤ 64) :
    Calls Try.prog 17 #[.pointer (some ⟨g, 0, none⟩), .string x] w fun e w' => e = .returned (.tuple #[]) ∧ Frm (fun k => B ≤ k) w w' ∧ TB B w' g (unsV V x) A st := by
  obtain ⟨vv, va, ht⟩ := ht
  obtain ⟨r, b, hat⟩ := at_ex V x (by omega) hV
  obtain ⟨A1, c1, rfl⟩ := own_slice ht.ov
  cases b with
  | true =>
    obtain ⟨hr, k1, k2, hset, k3⟩ := hat.old (y := x) hV
    have HE : Hid (unsV V x = V.eraseIdx r) := Lib.hid hset
    have HT := Lib.hid ht
    have HBB := Lib.hid hB
    have HP := Lib.hid hat
    have HV := Lib.hid hV
    have HL := Lib.hid hl
    have HR : Hid (r < V.length) := Lib.hid hr
    have W1 : wrap64 ((r : Int) + 1) = ((r + 1 : Nat) : Int) := w64 r (by omega)
    clear k1 k2 k3 ht hV hl hB hat hset hr
    go_enter Try.func17, Try.ntmps17
    go_wp2_with (first | (go_at_call 32; (with_reducible refine (place_at HT.out (Nat.le_trans HL.out (by decide)) HV.out HP.out).mono ?_); rintro e w2 ⟨rfl, hb⟩; have HB2 : Hid (Below w.heap.size w w2) := Lib.hid hb; clear hb; have HT2 := Lib.hid (HT.out.frm HB2.out); have d0 : w2.cell? ⟨g, 0, none⟩ = some (.slice A1 (pv V).length c1) := (blk_cell HT2.out.bt 0).trans rfl) | (go_at_call 40; go_loud (refine (del_at HT2.out (Nat.le_trans HBB.out HB2.out.size) HR.out (Nat.le_trans HL.out (by decide))).mono ?_); rintro e w3 ⟨A2, n2, c2, rfl, ht3, d3, f3, hf3⟩; have HT3 := Lib.hid ht3; have HF3 := Lib.hid hf3; clear ht3 hf3))
    refine bodyPost_end (results_none rfl _ _ _) rfl ?_
    exact ⟨rfl, (Frm.of_below HB2.out).trans HF3.out (fun _ _ h => h), by rw [HE.out]; exact ⟨_, va, HT3.out⟩⟩
  | false =>
    have HE : Hid (unsV V x = V) := Lib.hid hat.none.1
    have HT := Lib.hid ht
    have HP := Lib.hid hat
    have HV := Lib.hid hV
    have HL := Lib.hid hl
    clear ht hV hl hB hat
    go_enter Try.func17, Try.ntmps17
    go_wp2_with (first | (go_at_call 32; (with_reducible refine (place_at HT.out (Nat.le_trans HL.out (by decide)) HV.out HP.out).mono ?_); rintro e w2 ⟨rfl, hb⟩; have HB2 : Hid (Below w.heap.size w w2) := Lib.hid hb; clear hb; have HT2 := Lib.hid (HT.out.frm HB2.out)))
    refine bodyPost_end (results_none rfl _ _ _) rfl ?_
    exact ⟨rfl, Frm.of_below HB2.out, by rw [HE.out]; exact ⟨_, va, HT2.out⟩⟩
set_option maxHeartbeats 2000000 in
set_option maxRecDepth 100000 in
theorem copyV_any (A : Option Addr) (n c : Nat) (cs : List Value) (w : World) (hn : cs.length = n * 2) (h : Lies w A cs) (h1 : ∀ u ∈ cs, u.oneCell' = true) (hl : n ≤ 1000000000000) :
    Calls Try.prog 43 #[.slice A n c] w fun e w' => ∃ v, e = .returned v ∧ w'.ownsRow w.heap.size 26 2 v n cs ∧ Below w.heap.size w w' := by
  obtain ⟨i0, hi, hz0, hz1, hz2⟩ := info_split infoVar
  cases A with
  | none =>
    have h0 : cs = [] := by
      rcases h with h | ⟨ad, e, _⟩
      · exact h
      · cases e
    subst h0
    have hn0 : n = 0 := by simp at hn; omega
    subst hn0
    go_enter Try.func43, Try.ntmps43
    go_wp2
    go_ret
    exact ⟨_, rfl, World.ownsRow_nil _ _ _ _, Below.refl _ _⟩
  | some ad =>
    have hc : ∀ j u, cs[j]? = some u → w.cell? (ad.add j) = some u := by
      rcases h with rfl | ⟨a, e, hc⟩
      · intro j u hj; simp at hj
      · injection e with e; subst e; exact hc
    have HC := Lib.hid hc
    have H1 := Lib.hid h1
    clear hc h1
    go_enter Try.func43, Try.ntmps43
    go_wp2_with (at_builtin; refine wpList_append_own _ rfl _ _ 22 rfl w.heap.size 26 i0 _ 2 32 Try.underlying22 hi hz0 hz1 hz2 rfl (by decide) _ _ _ rfl (World.ownsRow_nil _ _ _ _) ad n c cs rfl ?qc1 ?qc2 ?qc3 ?qc4 ?qc5 ?qc6 ?_)
    case qc1 => omega
    case qc2 => exact fun j u hj => HC.out j u hj
    case qc3 => exact H1.out
    case qc4 => unfold maxLen; omega
    case qc5 => omega
    case qc6 => simp
    intro v' w1 hown hgrow hnil
    go_wp2
    go_ret
    refine ⟨v', rfl, by simpa using hown, ?_⟩
    exact (Below.refl _ w).grown hgrow (by simp) (by intro k hk; simp [Value.ownBlock] at hk)
theorem own_adr {W : World} {base n c sz : Nat} {e : TypeId} {A : Option Addr} {xs : List Value} (h : W.ownsRow base e sz (.slice A n c) n xs) : ∀ ad, A = some ad → base ≤ ad.block := by
  intro ad ea
  subst ea
  rcases h.2 with ⟨h1, _⟩ | ⟨g, cap, cur, h1, h2, _⟩
  · cases h1
  · injection h1 with h1; injection h1 with h1; subst h1; exact h2
set_option maxHeartbeats 2000000 in
set_option maxRecDepth 100000 in
theorem vars_calls (B : Nat) (w : World) (g : Nat) (V : List S26) (A : List ByteArray) (st : Int) (ht : TB B w g V A st) (hl : V.length ≤ 1000) :
    Calls Try.prog 22 #[.pointer (some ⟨g, 0, none⟩)] w fun e w' => ∃ A2 c2, e = .returned (.slice A2 V.length c2) ∧ (∀ ad, A2 = some ad → w.heap.size ≤ ad.block) ∧ V.length ≤ c2 ∧ Kd.C k26 w' A2 V.length V ∧ Below w.heap.size w w' := by
  obtain ⟨vv, va, ht⟩ := ht
  obtain ⟨A1, c1, rfl⟩ := own_slice ht.ov
  have d0 : w.cell? ⟨g, 0, none⟩ = some (.slice A1 (pv V).length c1) := (blk_cell ht.bt 0).trans rfl
  have HX := Lib.hid (Lies.of_own ht.ov)
  have HP : Hid ((cellsV (pv V)).length = (pv V).length * 2) := Lib.hid (by have := cV_len V; rw [pv_len]; exact this)
  have H1 : Hid (∀ u ∈ cellsV (pv V), u.oneCell' = true) := Lib.hid (cV_one V)
  have HL : Hid ((pv V).length ≤ 1000000000000) := Lib.hid (by rw [pv_len]; omega)
  clear ht hl
  go_enter Try.func22, Try.ntmps22
  go_wp2_with (go_at_call 43; (with_reducible refine (copyV_any A1 (pv V).length c1 (cellsV (pv V)) _ HP.out HX.out H1.out HL.out).mono ?_); rintro e w1 ⟨v, rfl, ho, hb⟩; obtain ⟨A2, c2, rfl⟩ := own_slice ho; have HO := Lib.hid ho; have HB := Lib.hid hb; clear ho hb)
  go_ret
  exact ⟨A2, c2, by rw [pv_len]; rfl, own_adr HO.out, by have := own_cap HO.out; rwa [pv_len] at this, own_C HO.out, HB.out⟩
set_option maxHeartbeats 2000000 in
set_option maxRecDepth 100000 in
theorem args_calls (B : Nat) (w : World) (g : Nat) (V : List S26) (A : List ByteArray) (st : Int) (ht : TB B w g V A st) (hl : A.length ≤ 1000) :
    Calls Try.prog 23 #[.pointer (some ⟨g, 0, none⟩)] w fun e w' => ∃ A2 c2, e = .returned (.slice A2 A.length c2) ∧ (∀ ad, A2 = some ad → w.heap.size ≤ ad.block) ∧ A.length ≤ c2 ∧ Kd.C Kd.string w' A2 A.length A ∧ Below w.heap.size w w' := by
  obtain ⟨vv, va, ht⟩ := ht
  obtain ⟨A1, c1, rfl⟩ := own_slice ht.oa
  have d0 : w.cell? ⟨g, 1, none⟩ = some (.slice A1 A.length c1) := (blk_cell ht.bt 1).trans rfl
  have HX := Lib.hid (Lies.of_own ht.oa)
  have HP : Hid ((cellsS A).length = A.length) := Lib.hid (cellsS_len A)
  have H1 := Lib.hid (cellsS_one A)
  have HL : Hid (A.length ≤ 1000000000000) := Lib.hid (by omega)
  clear ht hl
  go_enter Try.func23, Try.ntmps23
  go_wp2_with (go_at_call 42; (with_reducible refine (copyS_any A1 A.length c1 (cellsS A) _ HP.out HX.out H1.out HL.out).mono ?_); rintro e w1 ⟨v, rfl, ho, hb⟩; obtain ⟨A2, c2, rfl⟩ := own_slice ho; have HO := Lib.hid ho; have HB := Lib.hid hb; clear ho hb)
  go_ret
  refine ⟨A2, c2, rfl, own_adr HO.out, own_cap HO.out, ?_, HB.out⟩
  obtain ⟨A3, c3, e, _, hr⟩ := own_reads_of_le (enc := Value.string) (d := ByteArray.empty) HO.out
  cases e
  exact Kd.C_of_reads hr
end Go.Proofs.Ytgcbipflmhbpcaa.PV
set_option linter.unusedVariables false
set_option linter.unusedSimpArgs false
namespace Go.Proofs.Ytgcbipflmhbpcaa.PV
open Go Go.RowKit Go.Proofs.Ytgcbipflmhbpcaa Go.Proofs.YtgcbipflmhbpcaaW.PrintWords Go.Proofs.YtgcbipflmhbpcaaW.PrintLast Go.Proofs.YtgcbipflmhbpcaaW.PrintMore
theorem newV_ok : ∀ (l V : List S26), Ord V → V.length ≤ 64 → (newV V l).2 = 0 → Ord (newV V l).1 ∧ (newV V l).1.length ≤ 64
  | [], V, h, hl, _ => ⟨h, hl⟩
  | v :: l, V, h, hl, he => by
    unfold newV at he ⊢
    by_cases h0 : setE V v.f0 v.f1 = 0
    · rw [if_pos h0] at he ⊢
      exact newV_ok l _ (setV_ord h) (setE_len h hl h0) he
    · rw [if_neg h0] at he; exact absurd he h0
theorem newV_step (l V : List S26) (i : Nat) (h : i < l.length) : newV V (l.drop i) = if setE V l[i].f0 l[i].f1 = 0 then newV (setV V l[i].f0 l[i].f1) (l.drop (i + 1)) else ([], setE V l[i].f0 l[i].f1) := by
  rw [List.drop_eq_getElem_cons h]; rfl
theorem TB.frm {B : Nat} {w w' : World} {g : Nat} {V : List S26} {A : List ByteArray} {st : Int} (h : TB B w g V A st) (hb : Below w.heap.size w w') : TB B w' g V A st := by
  obtain ⟨vv, va, h⟩ := h
  exact ⟨vv, va, h.frm hb⟩
theorem setArgs_calls (B : Nat) (w : World) (g : Nat) (V : List S26) (A l : List ByteArray) (st : Int) (P : Option Addr) (c : Nat) (ht : TB B w g V A st) (hB : B ≤ w.heap.size) (hl : Kd.string.C w P l.length l) :
    Calls Try.prog 19 #[.pointer (some ⟨g, 0, none⟩), .slice P l.length c] w fun e w' => e = .returned (.int .i64 (argsE l)) ∧ Frm (fun k => B ≤ k) w w' ∧ TB B w' g V (if argsE l = 0 then l else A) st := by
  obtain ⟨vv, va, ht⟩ := ht
  refine (setArgs_any B w g (pv V) A l st vv va P c ht hB hl).mono ?_
  rintro e w' ⟨rfl, hf, va', A', ht', h1, h2⟩
  refine ⟨rfl, hf.mono (fun i _ h => by rw [h]; exact ht.eg), vv, va', ?_⟩
  by_cases h0 : argsE l = 0
  · rw [if_pos h0, ← h1 h0]; exact ht'
  · rw [if_neg h0, ← h2 h0]; exact ht'
set_option maxHeartbeats 4000000 in
set_option maxRecDepth 100000 in
theorem new_calls (w : World) (l : List S26) (A1 : Option Addr) (c1 : Nat) (a : List ByteArray) (P : Option Addr) (c : Nat) (hl : Kd.C k26 w A1 l.length l) (ha : Kd.string.C w P a.length a) :
    Calls Try.prog 8 #[.slice A1 l.length c1, .slice P a.length c] w fun e w' => Below w.heap.size w w' ∧ (((newV [] l).2 = 0 ∧ argsE a = 0 ∧ ∃ g, e = .returned (.tuple #[.pointer (some ⟨g, 0, none⟩), .int .i64 0]) ∧ TB w.heap.size w' g (newV [] l).1 a 0) ∨ ∃ E, E ≠ 0 ∧ (newR [] l a).2.2.2 = E ∧ e = .returned (.tuple #[.pointer none, .int .i64 E])) := by
  have hu57 := Try.underlying57
  have HL := Lib.hid hl
  have HA := Lib.hid ha
  have HM : Hid (l.length ≤ 9223372036854775807) := Lib.hid hl.2.1
  clear hl ha
  go_enter Try.func8, Try.ntmps8
  go_wp2_with (first | ((with_reducible refine gate_dst (N := 12) rfl ?_); refine box_event ?hg (N := 12) ?hd (cs := #[.slice none 0 0, .slice none 0 0, .int .i64 0]) (t := 57) ?hr ?_; (case hd => rfl); (case hg => rfl); (case hr => first | (go_simp; done) | (go_simp; rfl)); intro g hg w1 hbox hb; have HB1 := Lib.hid hb; have E1 : Hid (w.heap.size ≤ g) := Lib.hid (by rw [hg]; exact Nat.le_refl _); have HT1 : Hid (TB w.heap.size w1 g [] [] 0) := Lib.hid ⟨_, _, hbox, E1.out, World.ownsRow_nil _ _ _ _, World.ownsRow_nil _ _ _ _⟩; clear hbox hb hg))
  go_loopw [15] (fun s15 wr => ∃ (i : Nat) (V : List S26), i ≤ l.length ∧ s15 = .int .i64 i ∧ Hid (TB w.heap.size wr g V [] 0) ∧ Hid (Ord V) ∧ Hid (V.length ≤ 64) ∧ Hid (newV [] l = newV V (l.drop i)) ∧ Hid (Below w.heap.size w wr)) (fun s15 _ => l.length - (intOf s15).toNat)
  case atStart => exact ⟨0, [], Nat.zero_le _, rfl, HT1, Lib.hid ord_nil, Lib.hid (by decide), Lib.hid rfl, HB1⟩
  case round =>
    obtain ⟨i, V, hi, rfl, HT, HO, HV, HN, HB⟩ := hrel
    clear HT1 HB1
    by_cases hlt : i < l.length
    · obtain ⟨ad, ea, hx0, hx1⟩ := at_T26 (Kd.C_below HL.out HB.out) (i : Int) (by omega) (by omega)
      cases ea
      rw [rdV l i hlt, Int.toNat_natCast] at hx0 hx1
      have hst := newV_step l V i hlt
      generalize hp : l[i].f0 = p at hx0 hst
      generalize hq : l[i].f1 = q at hx1 hst
      have i0 : decide (0 ≤ (i : Int)) = true := decide_eq_true (by omega)
      have i1 : decide ((i : Int) < (l.length : Int)) = true := decide_eq_true (by omega)
      have HWR : Hid (wrap64 ((i : Int) + 1) = ((i + 1 : Nat) : Int)) := Lib.hid (by have := HM.out; unfold wrap64; omega)
      have HLT := Lib.hid hlt
      have HST := Lib.hid hst
      have HSet := Lib.hid (fun (W : World) (h : TB w.heap.size W g V [] 0) (hB : w.heap.size ≤ W.heap.size) => set_calls w.heap.size W g V [] 0 p q h hB HO.out HV.out)
      by_cases he : setE V p q = 0
      · have HE := Lib.hid he
        rw [he] at HSet
        clear hi hp hq hst hlt he
        go_wp2_with (first | (go_at_call 15; (refine (HSet.out _ (TB.frm HT.out (below_alloc (Below.refl _ _) _)) (Nat.le_trans HB.out.size (below_alloc (Below.refl _ _) _ : Below wr.heap.size wr _).size)).mono ?_); rintro e w2 ⟨rfl, hf, ht⟩; have HT2 := Lib.hid ht; have HB2 : Hid (Below w.heap.size w w2) := Lib.hid (HB.out.trans (((Frm.of_below (below_alloc (Below.refl _ _) _) : Frm (fun k => w.heap.size ≤ k) wr _).trans hf (fun _ _ h => h)).below HB.out.size (fun i hi h => by omega))); clear hf ht))
        go_roundw
        case rel =>
          refine ⟨i + 1, setV V p q, HLT.out, by rw [HWR.out], ?_, Lib.hid (setV_ord HO.out), Lib.hid (setE_len HO.out HV.out HE.out), Lib.hid (by rw [HN.out, HST.out, if_pos HE.out]), HB2⟩
          have := HT2.out
          unfold setT at this
          rw [if_pos HE.out] at this
          exact Lib.hid this
        case measure => exact meas_ _ _ HWR.out HLT.out
      · have HE := Lib.hid he
        generalize hE : setE V p q = E at HSet HE he hst
        have HF : Hid ((newR [] l a).2.2.2 = E) := Lib.hid (by
          have : newV [] l = ([], E) := by rw [HN.out, hst, if_neg HE.out]
          unfold newR; rw [this, if_neg HE.out])
        have b0 : (E == 0) = false := beq_eq_false_iff_ne.2 he
        clear hE HST hi hp hq hst hlt
        go_wp2_with (first | (go_at_call 15; (refine (HSet.out _ (TB.frm HT.out (below_alloc (Below.refl _ _) _)) (Nat.le_trans HB.out.size (below_alloc (Below.refl _ _) _ : Below wr.heap.size wr _).size)).mono ?_); rintro e w2 ⟨rfl, hf, ht⟩; have HB2 : Hid (Below w.heap.size w w2) := Lib.hid (HB.out.trans (((Frm.of_below (below_alloc (Below.refl _ _) _) : Frm (fun k => w.heap.size ≤ k) wr _).trans hf (fun _ _ h => h)).below HB.out.size (fun i hi h => by omega))); clear hf ht))
        go_ret2
        exact ⟨HB2.out, .inr ⟨E, HE.out, HF.out, rfl⟩⟩
    · obtain rfl : i = l.length := by omega
      have hN : newV [] l = (V, 0) := by rw [HN.out, List.drop_of_length_le (Nat.le_refl _)]; rfl
      have HNN := Lib.hid hN
      by_cases he : argsE a = 0
      · have HE := Lib.hid he
        have HSA := Lib.hid (setArgs_calls w.heap.size wr g V [] a 0 P c HT.out HB.out.size (Kd.C_below HA.out HB.out))
        rw [he] at HSA
        clear hi hN hlt he
        go_wp2_with (first | (go_at_call 19; (refine HSA.out.mono ?_); rintro e w2 ⟨rfl, hf, ht⟩; have HT2 := Lib.hid ht; have HB2 : Hid (Below w.heap.size w w2) := Lib.hid (HB.out.trans (hf.below HB.out.size (fun i hi h => by omega))); clear hf ht))
        go_ret2
        refine ⟨HB2.out, .inl ⟨by rw [HNN.out], HE.out, g, rfl, ?_⟩⟩
        rw [HNN.out]
        exact HT2.out
      · have HE := Lib.hid he
        have HSA := Lib.hid (setArgs_calls w.heap.size wr g V [] a 0 P c HT.out HB.out.size (Kd.C_below HA.out HB.out))
        have HF : Hid ((newR [] l a).2.2.2 = argsE a) := Lib.hid (by unfold newR; rw [hN, if_pos rfl, if_neg he])
        generalize argsE a = E at HSA HE he HF
        have b0 : (E == 0) = false := beq_eq_false_iff_ne.2 he
        clear hi hN hlt
        go_wp2_with (first | (go_at_call 19; (refine HSA.out.mono ?_); rintro e w2 ⟨rfl, hf, ht⟩; have HB2 : Hid (Below w.heap.size w w2) := Lib.hid (HB.out.trans (hf.below HB.out.size (fun i hi h => by omega))); clear hf ht))
        go_ret2
        exact ⟨HB2.out, .inr ⟨E, HE.out, HF.out, rfl⟩⟩
end Go.Proofs.Ytgcbipflmhbpcaa.PV
set_option linter.unusedVariables false
set_option linter.unusedSimpArgs false
namespace Go.Proofs.Ytgcbipflmhbpcaa.PV
open Go Go.RowKit Go.Proofs.Ytgcbipflmhbpcaa Go.Proofs.YtgcbipflmhbpcaaW.PrintWords Go.Proofs.YtgcbipflmhbpcaaW.PrintLast Go.Proofs.YtgcbipflmhbpcaaW.PrintMore
def joinB (A : List ByteArray) : ByteArray := (strings_Join.f A ⟨#[32]⟩).getD ⟨#[]⟩
def numA (A : List ByteArray) (x : ByteArray) : ByteArray × Bool := if (decD x.data.toList).2 = 0 ∧ 1 ≤ (decD x.data.toList).1 ∧ (decD x.data.toList).1 ≤ A.length then (rdOf ByteArray.empty A ((decD x.data.toList).1 - 1), true) else (⟨#[]⟩, false)
/-- what a table tells -/
def getM (V : List S26) (A : List ByteArray) (st : Int) (x : ByteArray) : ByteArray × Bool :=
  if x.toList = [] then (⟨#[]⟩, false) else if x.toList = [35] then (textS A.length, true) else if x.toList = [63] then (textS st, true) else if x.toList = [64] ∨ x.toList = [42] then (joinB A, decide (0 < A.length)) else if dig (bt x 0) = true then numA A x else getV V x
set_option maxHeartbeats 4000000 in
set_option maxRecDepth 100000 in
theorem get_hash (B : Nat) (w : World) (g : Nat) (V : List S26) (A : List ByteArray) (st : Int) (x : ByteArray) (ht : TB B w g V A st) (hA : A.length ≤ 1000) (e0 : (x.toList == ([] : List UInt8)) = false) (e1 : (x.toList == ([35] : List UInt8)) = true) :
    Calls Try.prog 13 #[.pointer (some ⟨g, 0, none⟩), .string x] w fun e w' => e = .returned (.tuple #[.string (textS A.length), .bool true]) ∧ Below w.heap.size w w' := by
  obtain ⟨vv, va, ht⟩ := ht
  obtain ⟨A1, c1, rfl⟩ := own_slice ht.oa
  have d1 : w.cell? ⟨g, 1, none⟩ = some (.slice A1 A.length c1) := (blk_cell ht.bt 1).trans rfl
  have HX : Hid (num_Text.f (A.length : Int) = some (textS A.length)) := Lib.hid (by unfold num_Text.f; rw [if_pos ⟨by omega, by omega⟩])
  clear ht hA
  go_enter Try.func13, Try.ntmps13
  go_wp2_with (go_at_call 28; (with_reducible refine (num_Text.calls _ _ _ HX.out).mono ?_); rintro e w1 ⟨rfl, hb⟩; have HB1 := Lib.hid hb; clear hb)
  go_ret2
  exact ⟨rfl, HB1.out⟩
set_option maxHeartbeats 4000000 in
set_option maxRecDepth 100000 in
theorem get_ask (B : Nat) (w : World) (g : Nat) (V : List S26) (A : List ByteArray) (st : Int) (x : ByteArray) (ht : TB B w g V A st) (hst : -9223372036854775808 ≤ st ∧ st ≤ 9223372036854775807) (e0 : (x.toList == ([] : List UInt8)) = false) (e1 : (x.toList == ([35] : List UInt8)) = false) (e2 : (x.toList == ([63] : List UInt8)) = true) :
    Calls Try.prog 13 #[.pointer (some ⟨g, 0, none⟩), .string x] w fun e w' => e = .returned (.tuple #[.string (textS st), .bool true]) ∧ Below w.heap.size w w' := by
  obtain ⟨vv, va, ht⟩ := ht
  have d1 : w.cell? ⟨g, 2, none⟩ = some (.int .i64 st) := (blk_cell ht.bt 2).trans rfl
  have HX : Hid (num_Text.f st = some (textS st)) := Lib.hid (by unfold num_Text.f; rw [if_pos hst])
  clear ht hst
  go_enter Try.func13, Try.ntmps13
  go_wp2_with (go_at_call 28; (with_reducible refine (num_Text.calls _ _ _ HX.out).mono ?_); rintro e w1 ⟨rfl, hb⟩; have HB1 := Lib.hid hb; clear hb)
  go_ret2
  exact ⟨rfl, HB1.out⟩
set_option maxHeartbeats 4000000 in
set_option maxRecDepth 100000 in
theorem get_none (g : Nat) (w : World) (x : ByteArray) (e0 : (x.toList == ([] : List UInt8)) = true) :
    Calls Try.prog 13 #[.pointer (some ⟨g, 0, none⟩), .string x] w fun e w' => e = .returned (.tuple #[.string ⟨#[]⟩, .bool false]) ∧ Below w.heap.size w w' := by
  go_enter Try.func13, Try.ntmps13
  go_wp2
  go_ret2
  exact ⟨rfl, Below.refl _ _⟩
set_option maxHeartbeats 4000000 in
set_option maxRecDepth 100000 in
theorem get_name (B : Nat) (w : World) (g : Nat) (V : List S26) (A : List ByteArray) (st : Int) (x : ByteArray) (ht : TB B w g V A st) (hV : Ord V) (hl : V.length ≤ 64) (e0 : (x.toList == ([] : List UInt8)) = false) (e1 : (x.toList == ([35] : List UInt8)) = false) (e2 : (x.toList == ([63] : List UInt8)) = false) (e3 : (x.toList == ([64] : List UInt8)) = false) (e4 : (x.toList == ([42] : List UInt8)) = false) (hd : dig (bt x 0) = false) :
    Calls Try.prog 13 #[.pointer (some ⟨g, 0, none⟩), .string x] w fun e w' => e = .returned (.tuple #[.string (getV V x).1, .bool (getV V x).2]) ∧ Below w.heap.size w w' := by
  have hpos : 0 < x.size := Nat.pos_of_ne_zero (fun h => by have := beq_eq_false_iff_ne.1 e0; exact this (size_nil.2 h))
  have q22 : (0 < x.size) = True := eq_true hpos
  have qi22 : (0 < (x.size : Int)) = True := eq_true (by omega)
  have hx22 : ∀ h : 0 < x.size, ((x[0]'h).toNat : Int) = bt x 0 := bt_at x 0
  have HD : Hid (word_Digit.f (bt x 0) = some false) := Lib.hid (by rw [wd_, hd])
  obtain ⟨vv, va, ht⟩ := ht
  obtain ⟨r, b, hat⟩ := at_ex V x (by omega) hV
  obtain ⟨A1, c1, rfl⟩ := own_slice ht.ov
  rw [pv_len] at ht
  have HT := Lib.hid ht
  have HP := Lib.hid hat
  have HV := Lib.hid hV
  have HL := Lib.hid hl
  cases b with
  | false =>
    have HG := Lib.hid hat.none.2.1
    clear ht hat hV hl hd hpos
    go_enter Try.func13, Try.ntmps13
    go_wp2_with (first | (go_at_call 30; (with_reducible refine (word_Digit.calls (bt x 0) false _ HD.out).mono ?_); rintro e w1 ⟨rfl, hb⟩; have HB1 : Hid (Below w.heap.size w w1) := Lib.hid (by obtain ⟨m, rfl⟩ := hb.out; exact ⟨rfl, rfl, rfl, Nat.le_refl _, fun _ _ => rfl⟩); clear hb) | (go_at_call 32; (with_reducible refine (place_at (HT.out.frm HB1.out) (Nat.le_trans HL.out (by decide)) HV.out HP.out).mono ?_); rintro e w2 ⟨rfl, hb⟩; have HB2 : Hid (Below w.heap.size w w2) := Lib.hid (below_step HB1.out hb); clear hb))
    go_ret2
    exact ⟨by rw [HG.out]; rfl, HB2.out⟩
  | true =>
    obtain ⟨hr, k1, k2, k3, hg⟩ := hat.old (y := x) hV
    have HG := Lib.hid hg
    have HR := Lib.hid hr
    obtain ⟨b', c', hvv, hb', k4⟩ := own_at ht.ov r hr x
    injection hvv with hvv
    subst hvv
    have j0 : decide (0 ≤ (r : Int)) = true := decide_eq_true (by omega)
    have j1 : decide ((r : Int) < (V.length : Int)) = true := decide_eq_true (by omega)
    have HV1 : Hid (∃ z, z = V[r].f1) := Lib.hid ⟨_, rfl⟩
    clear k1 k2 k3 k4 hb' hg ht hat hV hl hd hpos
    go_enter Try.func13, Try.ntmps13
    go_wp2_with (first | (go_at_call 30; (with_reducible refine (word_Digit.calls (bt x 0) false _ HD.out).mono ?_); rintro e w1 ⟨rfl, hb⟩; have HB1 : Hid (Below w.heap.size w w1) := Lib.hid (by obtain ⟨m, rfl⟩ := hb.out; exact ⟨rfl, rfl, rfl, Nat.le_refl _, fun _ _ => rfl⟩); clear hb) | (go_at_call 32; (with_reducible refine (place_at (HT.out.frm HB1.out) (Nat.le_trans HL.out (by decide)) HV.out HP.out).mono ?_); rintro e w2 ⟨rfl, hb⟩; have HB2 : Hid (Below w.heap.size w w2) := Lib.hid (below_step HB1.out hb); clear hb; have HT2 := Lib.hid (HT.out.frm HB2.out); have d0 : w2.cell? ⟨g, 0, none⟩ = some (.slice (some ⟨b', 0, none⟩) V.length c1) := (blk_cell HT2.out.bt 0).trans rfl; obtain ⟨_, _, e5, _, d1, _⟩ := own_at HT2.out.ov r HR.out x; cases e5))
    go_ret2
    exact ⟨by rw [HG.out]; rfl, HB2.out⟩
set_option maxHeartbeats 4000000 in
set_option maxRecDepth 100000 in
theorem get_join (B : Nat) (w : World) (g : Nat) (V : List S26) (A : List ByteArray) (st : Int) (x : ByteArray) (ht : TB B w g V A st) (hj : strings_Join.f A ⟨#[32]⟩ = some (joinB A)) (bb : Bool) (hb0 : decide (0 < A.length) = bb) (e0 : (x.toList == ([] : List UInt8)) = false) (e1 : (x.toList == ([35] : List UInt8)) = false) (e2 : (x.toList == ([63] : List UInt8)) = false) (b3 b4 : Bool) (e3 : (x.toList == ([64] : List UInt8)) = b3) (e4 : (x.toList == ([42] : List UInt8)) = b4) (e34 : b3 = true ∨ b4 = true) :
    Calls Try.prog 13 #[.pointer (some ⟨g, 0, none⟩), .string x] w fun e w' => e = .returned (.tuple #[.string (joinB A), .bool bb]) ∧ Below w.heap.size w w' := by
  obtain ⟨vv, va, ht⟩ := ht
  generalize hr0 : joinB A = r at hj
  obtain ⟨A1, c1, rfl⟩ := own_slice ht.oa
  have HS := Lib.hid ht.str
  have HC := Lib.hid (own_cap ht.oa)
  have HT := Lib.hid ht
  have HR := Lib.hid hj
  have j0 : decide (0 < (A.length : Int)) = bb := by rw [← hb0]; exact decide_eq_decide.2 (by omega)
  have d1 : w.cell? ⟨g, 1, none⟩ = some (.slice A1 A.length c1) := (blk_cell ht.bt 1).trans rfl
  clear ht hj hr0
  cases b3 with
  | true =>
    clear e34 e4
    go_enter Try.func13, Try.ntmps13
    go_wp2
    refine start_ (n := 13) (S := (fun w' => w'.cell? ⟨g, 1, none⟩ = some (.slice A1 A.length c1))) (ds := []) #[false, false, false, false, false, false, false, false, false, false, false, false, false] (by kernel_rfl) rfl rfl d1 (fun hHeld => ?_)
    iterate 5 (first | ((first | refine takeS_ 0 (N := some 38) (v := ?_) (a' := ?_) rfl rfl (by decide +kernel) (fun _ _ _ h => h) (Or.inl ⟨by rfl, ?_⟩) hHeld ?_ ?_ | refine takeS_ 1 (N := some 39) (v := ?_) (a' := ?_) rfl rfl (by decide +kernel) (fun _ _ _ h => h) (Or.inl ⟨by rfl, ?_⟩) hHeld ?_ ?_ | refine takeS_ 2 (N := some 40) (v := ?_) (a' := ?_) rfl rfl (by decide +kernel) (fun _ _ _ h => h) (Or.inl ⟨by rfl, ?_⟩) hHeld ?_ ?_ | refine takeS_ 3 (N := some 41) (v := ?_) (a' := ?_) rfl rfl (by decide +kernel) (fun _ _ _ h => h) (Or.inl ⟨by rfl, ?_⟩) hHeld ?_ ?_ | refine takeS_ 5 (N := some 43) (v := ?_) (a' := ?_) rfl rfl (by decide +kernel) (fun _ _ _ h => h) (Or.inl ⟨by rfl, ?_⟩) hHeld ?_ ?_); rotate_left; (rintro w' (s0); go_simp; first | done | (with_reducible rfl) | rfl); rotate_left; (simp only [Act.put, List.setIfInBounds_toArray, List.set_cons_zero, List.set_cons_succ, i64_w, i32_w]; rfl)) | ((first | refine takeS_ 0 (N := some 38) (v := undef) (a' := ?_) rfl rfl (by decide +kernel) (fun _ _ _ h => h) (Or.inr ⟨by rfl, rfl⟩) hHeld ?_ ?_ | refine takeS_ 1 (N := some 39) (v := undef) (a' := ?_) rfl rfl (by decide +kernel) (fun _ _ _ h => h) (Or.inr ⟨by rfl, rfl⟩) hHeld ?_ ?_ | refine takeS_ 2 (N := some 40) (v := undef) (a' := ?_) rfl rfl (by decide +kernel) (fun _ _ _ h => h) (Or.inr ⟨by rfl, rfl⟩) hHeld ?_ ?_ | refine takeS_ 3 (N := some 41) (v := undef) (a' := ?_) rfl rfl (by decide +kernel) (fun _ _ _ h => h) (Or.inr ⟨by rfl, rfl⟩) hHeld ?_ ?_ | refine takeS_ 5 (N := some 43) (v := undef) (a' := ?_) rfl rfl (by decide +kernel) (fun _ _ _ h => h) (Or.inr ⟨by rfl, rfl⟩) hHeld ?_ ?_); rotate_left; (simp only [Act.put, List.setIfInBounds_toArray, List.set_cons_zero, List.set_cons_succ, i64_w, i32_w]; rfl)))
    iterate 5 (first | ((first | refine takeS_ 6 (N := some 44) (v := ?_) (a' := ?_) rfl rfl (by decide +kernel) (fun _ _ _ h => h) (Or.inl ⟨by rfl, ?_⟩) hHeld ?_ ?_ | refine takeS_ 7 (N := some 45) (v := ?_) (a' := ?_) rfl rfl (by decide +kernel) (fun _ _ _ h => h) (Or.inl ⟨by rfl, ?_⟩) hHeld ?_ ?_ | refine takeS_ 8 (N := some 46) (v := ?_) (a' := ?_) rfl rfl (by decide +kernel) (fun _ _ _ h => h) (Or.inl ⟨by rfl, ?_⟩) hHeld ?_ ?_ | refine takeS_ 9 (N := some 47) (v := ?_) (a' := ?_) rfl rfl (by decide +kernel) (fun _ _ _ h => h) (Or.inl ⟨by rfl, ?_⟩) hHeld ?_ ?_ | refine takeS_ 10 (N := some 48) (v := ?_) (a' := ?_) rfl rfl (by decide +kernel) (fun _ _ _ h => h) (Or.inl ⟨by rfl, ?_⟩) hHeld ?_ ?_); rotate_left; (rintro w' (s0); go_simp; first | done | (with_reducible rfl) | rfl); rotate_left; (simp only [Act.put, List.setIfInBounds_toArray, List.set_cons_zero, List.set_cons_succ, i64_w, i32_w]; rfl)) | ((first | refine takeS_ 6 (N := some 44) (v := undef) (a' := ?_) rfl rfl (by decide +kernel) (fun _ _ _ h => h) (Or.inr ⟨by rfl, rfl⟩) hHeld ?_ ?_ | refine takeS_ 7 (N := some 45) (v := undef) (a' := ?_) rfl rfl (by decide +kernel) (fun _ _ _ h => h) (Or.inr ⟨by rfl, rfl⟩) hHeld ?_ ?_ | refine takeS_ 8 (N := some 46) (v := undef) (a' := ?_) rfl rfl (by decide +kernel) (fun _ _ _ h => h) (Or.inr ⟨by rfl, rfl⟩) hHeld ?_ ?_ | refine takeS_ 9 (N := some 47) (v := undef) (a' := ?_) rfl rfl (by decide +kernel) (fun _ _ _ h => h) (Or.inr ⟨by rfl, rfl⟩) hHeld ?_ ?_ | refine takeS_ 10 (N := some 48) (v := undef) (a' := ?_) rfl rfl (by decide +kernel) (fun _ _ _ h => h) (Or.inr ⟨by rfl, rfl⟩) hHeld ?_ ?_); rotate_left; (simp only [Act.put, List.setIfInBounds_toArray, List.set_cons_zero, List.set_cons_succ, i64_w, i32_w]; rfl)))
    refine oneS_ 4 (N := some 42) rfl rfl (by kernel_rfl) (by decide) (fun K hK => ?_)
    refine goes_ Try.func29 (by kernel_rfl) rfl #[.slice A1 A.length c1, .string ⟨#[32]⟩] (by rfl) rfl rfl (by first | rfl | (simp [Act.eval]; done) | (simp [Act.eval, Act.put]; done)) ?_
    refine (strings_Join.calls A1 c1 A ⟨#[32]⟩ r _ (Kd.C_below HS.out (Below.refl _ w).drew) HC.out HR.out).mono ?_
    rintro e v1 ⟨rfl, hb⟩
    refine ⟨_, rfl, ?_⟩
    have HB1 := Lib.hid (below_step ((Below.refl _ w).drew) hb)
    refine hK.out _ _ ((blk_cell (HT.out.frm HB1.out).bt 1).trans rfl) (fun hHeld => ?_)
    clear hK K
    refine norm_ (a' := ?_) ?_ ?_
    rotate_left
    · show Act.put _ (some 42) _ = _
      simp only [Act.put, List.setIfInBounds_toArray, List.set_cons_zero, List.set_cons_succ, i64_w, i32_w]
      rfl
    iterate 2 (first | ((first | refine takeS_ 11 (N := some 4) (v := ?_) (a' := ?_) rfl rfl (by decide +kernel) (fun _ _ _ h => h) (Or.inl ⟨by rfl, ?_⟩) hHeld ?_ ?_ | refine takeS_ 12 (N := some 5) (v := ?_) (a' := ?_) rfl rfl (by decide +kernel) (fun _ _ _ h => h) (Or.inl ⟨by rfl, ?_⟩) hHeld ?_ ?_); rotate_left; (rintro w' (s0); go_simp; first | done | (with_reducible rfl) | rfl); rotate_left; (simp only [Act.put, List.setIfInBounds_toArray, List.set_cons_zero, List.set_cons_succ, i64_w, i32_w]; rfl)) | ((first | refine takeS_ 11 (N := some 4) (v := undef) (a' := ?_) rfl rfl (by decide +kernel) (fun _ _ _ h => h) (Or.inr ⟨by rfl, rfl⟩) hHeld ?_ ?_ | refine takeS_ 12 (N := some 5) (v := undef) (a' := ?_) rfl rfl (by decide +kernel) (fun _ _ _ h => h) (Or.inr ⟨by rfl, rfl⟩) hHeld ?_ ?_); rotate_left; (simp only [Act.put, List.setIfInBounds_toArray, List.set_cons_zero, List.set_cons_succ, i64_w, i32_w]; rfl)))
    refine done_ (by kernel_rfl) ?_
    go_wp2
    go_ret2
    exact ⟨rfl, HB1.out⟩
  | false =>
    obtain rfl : b4 = true := e34.resolve_left (by decide)
    clear e34
    go_enter Try.func13, Try.ntmps13
    go_wp2
    refine start_ (n := 13) (S := (fun w' => w'.cell? ⟨g, 1, none⟩ = some (.slice A1 A.length c1))) (ds := []) #[false, false, false, false, false, false, false, false, false, false, false, false, false] (by kernel_rfl) rfl rfl d1 (fun hHeld => ?_)
    iterate 5 (first | ((first | refine takeS_ 0 (N := some 38) (v := ?_) (a' := ?_) rfl rfl (by decide +kernel) (fun _ _ _ h => h) (Or.inl ⟨by rfl, ?_⟩) hHeld ?_ ?_ | refine takeS_ 1 (N := some 39) (v := ?_) (a' := ?_) rfl rfl (by decide +kernel) (fun _ _ _ h => h) (Or.inl ⟨by rfl, ?_⟩) hHeld ?_ ?_ | refine takeS_ 2 (N := some 40) (v := ?_) (a' := ?_) rfl rfl (by decide +kernel) (fun _ _ _ h => h) (Or.inl ⟨by rfl, ?_⟩) hHeld ?_ ?_ | refine takeS_ 3 (N := some 41) (v := ?_) (a' := ?_) rfl rfl (by decide +kernel) (fun _ _ _ h => h) (Or.inl ⟨by rfl, ?_⟩) hHeld ?_ ?_ | refine takeS_ 5 (N := some 43) (v := ?_) (a' := ?_) rfl rfl (by decide +kernel) (fun _ _ _ h => h) (Or.inl ⟨by rfl, ?_⟩) hHeld ?_ ?_); rotate_left; (rintro w' (s0); go_simp; first | done | (with_reducible rfl) | rfl); rotate_left; (simp only [Act.put, List.setIfInBounds_toArray, List.set_cons_zero, List.set_cons_succ, i64_w, i32_w]; rfl)) | ((first | refine takeS_ 0 (N := some 38) (v := undef) (a' := ?_) rfl rfl (by decide +kernel) (fun _ _ _ h => h) (Or.inr ⟨by rfl, rfl⟩) hHeld ?_ ?_ | refine takeS_ 1 (N := some 39) (v := undef) (a' := ?_) rfl rfl (by decide +kernel) (fun _ _ _ h => h) (Or.inr ⟨by rfl, rfl⟩) hHeld ?_ ?_ | refine takeS_ 2 (N := some 40) (v := undef) (a' := ?_) rfl rfl (by decide +kernel) (fun _ _ _ h => h) (Or.inr ⟨by rfl, rfl⟩) hHeld ?_ ?_ | refine takeS_ 3 (N := some 41) (v := undef) (a' := ?_) rfl rfl (by decide +kernel) (fun _ _ _ h => h) (Or.inr ⟨by rfl, rfl⟩) hHeld ?_ ?_ | refine takeS_ 5 (N := some 43) (v := undef) (a' := ?_) rfl rfl (by decide +kernel) (fun _ _ _ h => h) (Or.inr ⟨by rfl, rfl⟩) hHeld ?_ ?_); rotate_left; (simp only [Act.put, List.setIfInBounds_toArray, List.set_cons_zero, List.set_cons_succ, i64_w, i32_w]; rfl)))
    iterate 5 (first | ((first | refine takeS_ 6 (N := some 44) (v := ?_) (a' := ?_) rfl rfl (by decide +kernel) (fun _ _ _ h => h) (Or.inl ⟨by rfl, ?_⟩) hHeld ?_ ?_ | refine takeS_ 7 (N := some 45) (v := ?_) (a' := ?_) rfl rfl (by decide +kernel) (fun _ _ _ h => h) (Or.inl ⟨by rfl, ?_⟩) hHeld ?_ ?_ | refine takeS_ 8 (N := some 46) (v := ?_) (a' := ?_) rfl rfl (by decide +kernel) (fun _ _ _ h => h) (Or.inl ⟨by rfl, ?_⟩) hHeld ?_ ?_ | refine takeS_ 9 (N := some 47) (v := ?_) (a' := ?_) rfl rfl (by decide +kernel) (fun _ _ _ h => h) (Or.inl ⟨by rfl, ?_⟩) hHeld ?_ ?_ | refine takeS_ 10 (N := some 48) (v := ?_) (a' := ?_) rfl rfl (by decide +kernel) (fun _ _ _ h => h) (Or.inl ⟨by rfl, ?_⟩) hHeld ?_ ?_); rotate_left; (rintro w' (s0); go_simp; first | done | (with_reducible rfl) | rfl); rotate_left; (simp only [Act.put, List.setIfInBounds_toArray, List.set_cons_zero, List.set_cons_succ, i64_w, i32_w]; rfl)) | ((first | refine takeS_ 6 (N := some 44) (v := undef) (a' := ?_) rfl rfl (by decide +kernel) (fun _ _ _ h => h) (Or.inr ⟨by rfl, rfl⟩) hHeld ?_ ?_ | refine takeS_ 7 (N := some 45) (v := undef) (a' := ?_) rfl rfl (by decide +kernel) (fun _ _ _ h => h) (Or.inr ⟨by rfl, rfl⟩) hHeld ?_ ?_ | refine takeS_ 8 (N := some 46) (v := undef) (a' := ?_) rfl rfl (by decide +kernel) (fun _ _ _ h => h) (Or.inr ⟨by rfl, rfl⟩) hHeld ?_ ?_ | refine takeS_ 9 (N := some 47) (v := undef) (a' := ?_) rfl rfl (by decide +kernel) (fun _ _ _ h => h) (Or.inr ⟨by rfl, rfl⟩) hHeld ?_ ?_ | refine takeS_ 10 (N := some 48) (v := undef) (a' := ?_) rfl rfl (by decide +kernel) (fun _ _ _ h => h) (Or.inr ⟨by rfl, rfl⟩) hHeld ?_ ?_); rotate_left; (simp only [Act.put, List.setIfInBounds_toArray, List.set_cons_zero, List.set_cons_succ, i64_w, i32_w]; rfl)))
    refine oneS_ 4 (N := some 42) rfl rfl (by kernel_rfl) (by decide) (fun K hK => ?_)
    refine goes_ Try.func29 (by kernel_rfl) rfl #[.slice A1 A.length c1, .string ⟨#[32]⟩] (by rfl) rfl rfl (by first | rfl | (simp [Act.eval]; done) | (simp [Act.eval, Act.put]; done)) ?_
    refine (strings_Join.calls A1 c1 A ⟨#[32]⟩ r _ (Kd.C_below HS.out (Below.refl _ w).drew) HC.out HR.out).mono ?_
    rintro e v1 ⟨rfl, hb⟩
    refine ⟨_, rfl, ?_⟩
    have HB1 := Lib.hid (below_step ((Below.refl _ w).drew) hb)
    refine hK.out _ _ ((blk_cell (HT.out.frm HB1.out).bt 1).trans rfl) (fun hHeld => ?_)
    clear hK K
    refine norm_ (a' := ?_) ?_ ?_
    rotate_left
    · show Act.put _ (some 42) _ = _
      simp only [Act.put, List.setIfInBounds_toArray, List.set_cons_zero, List.set_cons_succ, i64_w, i32_w]
      rfl
    iterate 2 (first | ((first | refine takeS_ 11 (N := some 4) (v := ?_) (a' := ?_) rfl rfl (by decide +kernel) (fun _ _ _ h => h) (Or.inl ⟨by rfl, ?_⟩) hHeld ?_ ?_ | refine takeS_ 12 (N := some 5) (v := ?_) (a' := ?_) rfl rfl (by decide +kernel) (fun _ _ _ h => h) (Or.inl ⟨by rfl, ?_⟩) hHeld ?_ ?_); rotate_left; (rintro w' (s0); go_simp; first | done | (with_reducible rfl) | rfl); rotate_left; (simp only [Act.put, List.setIfInBounds_toArray, List.set_cons_zero, List.set_cons_succ, i64_w, i32_w]; rfl)) | ((first | refine takeS_ 11 (N := some 4) (v := undef) (a' := ?_) rfl rfl (by decide +kernel) (fun _ _ _ h => h) (Or.inr ⟨by rfl, rfl⟩) hHeld ?_ ?_ | refine takeS_ 12 (N := some 5) (v := undef) (a' := ?_) rfl rfl (by decide +kernel) (fun _ _ _ h => h) (Or.inr ⟨by rfl, rfl⟩) hHeld ?_ ?_); rotate_left; (simp only [Act.put, List.setIfInBounds_toArray, List.set_cons_zero, List.set_cons_succ, i64_w, i32_w]; rfl)))
    refine done_ (by kernel_rfl) ?_
    go_wp2
    go_ret2
    exact ⟨rfl, HB1.out⟩
end Go.Proofs.Ytgcbipflmhbpcaa.PV
set_option linter.unusedVariables false
set_option linter.unusedSimpArgs false
namespace Go.Proofs.Ytgcbipflmhbpcaa.PV
open Go Go.RowKit Go.Proofs.Ytgcbipflmhbpcaa Go.Proofs.YtgcbipflmhbpcaaW.PrintWords Go.Proofs.YtgcbipflmhbpcaaW.PrintLast Go.Proofs.YtgcbipflmhbpcaaW.PrintMore
set_option maxHeartbeats 4000000 in
set_option maxRecDepth 100000 in
theorem get_digit (B : Nat) (w : World) (g : Nat) (V : List S26) (A : List ByteArray) (st : Int) (x : ByteArray) (ht : TB B w g V A st) (hA : A.length ≤ 1000) (hxs : x.size ≤ 9223372036854775807) (e0 : (x.toList == ([] : List UInt8)) = false) (e1 : (x.toList == ([35] : List UInt8)) = false) (e2 : (x.toList == ([63] : List UInt8)) = false) (e3 : (x.toList == ([64] : List UInt8)) = false) (e4 : (x.toList == ([42] : List UInt8)) = false) (hd : dig (bt x 0) = true) :
    Calls Try.prog 13 #[.pointer (some ⟨g, 0, none⟩), .string x] w fun e w' => e = .returned (.tuple #[.string (numA A x).1, .bool (numA A x).2]) ∧ Below w.heap.size w w' := by
  have hpos : 0 < x.size := Nat.pos_of_ne_zero (fun h => by have := beq_eq_false_iff_ne.1 e0; exact this (size_nil.2 h))
  have q22 : (0 < x.size) = True := eq_true hpos
  have qi22 : (0 < (x.size : Int)) = True := eq_true (by omega)
  have hx22 : ∀ h : 0 < x.size, ((x[0]'h).toNat : Int) = bt x 0 := bt_at x 0
  have HD : Hid (word_Digit.f (bt x 0) = some true) := Lib.hid (by rw [wd_, hd])
  obtain ⟨vv, va, ht⟩ := ht
  obtain ⟨A1, c1, rfl⟩ := own_slice ht.oa
  have HT := Lib.hid ht
  have d1 : w.cell? ⟨g, 1, none⟩ = some (.slice A1 A.length c1) := (blk_cell ht.bt 1).trans rfl
  obtain ⟨n, E, hnE⟩ : ∃ n E, decD x.data.toList = (n, E) := ⟨_, _, rfl⟩
  have HX : Hid (num_Decimal.f x = some (n, E)) := Lib.hid (by unfold num_Decimal.f; rw [if_pos hxs, hnE])
  by_cases hE : E = 0
  · subst hE
    by_cases h1 : n < 1
    · have HN : Hid (numA A x = (⟨#[]⟩, false)) := Lib.hid (by unfold numA; rw [hnE, if_neg (by simp; omega)])
      have j1 : decide (n < 1) = true := decide_eq_true h1
      clear ht hA hxs hd hpos hnE h1
      go_enter Try.func13, Try.ntmps13
      go_wp2_with (first | (go_at_call 30; (with_reducible refine (word_Digit.calls (bt x 0) true _ HD.out).mono ?_); rintro e w1 ⟨rfl, hb⟩; have HB1 : Hid (Below w.heap.size w w1) := Lib.hid (by obtain ⟨m, rfl⟩ := hb.out; exact ⟨rfl, rfl, rfl, Nat.le_refl _, fun _ _ => rfl⟩); clear hb) | (go_at_call 31; (with_reducible refine (num_Decimal.calls _ _ _ _ HX.out).mono ?_); rintro e w2 ⟨rfl, hb⟩; have HB2 : Hid (Below w.heap.size w w2) := Lib.hid (below_step HB1.out (by obtain ⟨m, rfl⟩ := hb.out; exact ⟨rfl, rfl, rfl, Nat.le_refl _, fun _ _ => rfl⟩)); clear hb; have d2 : w2.cell? ⟨g, 1, none⟩ = some (.slice A1 A.length c1) := (blk_cell (HT.out.frm HB2.out).bt 1).trans rfl))
      go_ret2
      exact ⟨by rw [HN.out]; rfl, HB2.out⟩
    · have j1 : decide (n < 1) = false := decide_eq_false h1
      by_cases h2 : (A.length : Int) < n
      · have HN : Hid (numA A x = (⟨#[]⟩, false)) := Lib.hid (by unfold numA; rw [hnE, if_neg (by simp; omega)])
        have j2 : decide ((A.length : Int) < n) = true := decide_eq_true h2
        clear ht hA hxs hd hpos hnE h1 h2
        go_enter Try.func13, Try.ntmps13
        go_wp2_with (first | (go_at_call 30; (with_reducible refine (word_Digit.calls (bt x 0) true _ HD.out).mono ?_); rintro e w1 ⟨rfl, hb⟩; have HB1 : Hid (Below w.heap.size w w1) := Lib.hid (by obtain ⟨m, rfl⟩ := hb.out; exact ⟨rfl, rfl, rfl, Nat.le_refl _, fun _ _ => rfl⟩); clear hb) | (go_at_call 31; (with_reducible refine (num_Decimal.calls _ _ _ _ HX.out).mono ?_); rintro e w2 ⟨rfl, hb⟩; have HB2 : Hid (Below w.heap.size w w2) := Lib.hid (below_step HB1.out (by obtain ⟨m, rfl⟩ := hb.out; exact ⟨rfl, rfl, rfl, Nat.le_refl _, fun _ _ => rfl⟩)); clear hb; have d2 : w2.cell? ⟨g, 1, none⟩ = some (.slice A1 A.length c1) := (blk_cell (HT.out.frm HB2.out).bt 1).trans rfl))
        go_ret2
        exact ⟨by rw [HN.out]; rfl, HB2.out⟩
      · obtain ⟨m, hnm⟩ : ∃ m : Nat, n = ((m + 1 : Nat) : Int) := ⟨(n - 1).toNat, by omega⟩
        have hm : m < A.length := by omega
        have j2 : decide ((A.length : Int) < n) = false := decide_eq_false h2
        have W1 : wrap64 (n - 1) = (m : Int) := by unfold wrap64; omega
        have j3 : decide (0 ≤ (m : Int)) = true := decide_eq_true (by omega)
        have j4 : decide ((m : Int) < (A.length : Int)) = true := decide_eq_true (by omega)
        have j5 : (m < A.length) = True := eq_true hm
        obtain ⟨ad, ea, hx⟩ := Kd.at_string ht.str (m : Int) (by omega) (by omega)
        cases ea
        rw [rdA A m hm, Int.toNat_natCast] at hx
        have HN : Hid (numA A x = (A[m], true)) := Lib.hid (by unfold numA; rw [hnE, if_pos ⟨rfl, by omega, by show n ≤ _; omega⟩, show n - 1 = (m : Int) from by omega, rdA A m hm])
        generalize A[m] = s at hx HN
        have HXC := Lib.hid hx
        have HLT : Hid ((ad.add m).block < w.heap.size) := Lib.hid (by
          cases hh : w.heap[(ad.add m).block]? with
          | some o => exact (Array.getElem?_eq_some_iff.1 hh).1
          | none => simp [World.cell?, hh] at hx)
        clear ht hA hxs hd hpos hnE h1 h2 hx hm hnm
        go_enter Try.func13, Try.ntmps13
        go_wp2_with (first | (go_at_call 30; (with_reducible refine (word_Digit.calls (bt x 0) true _ HD.out).mono ?_); rintro e w1 ⟨rfl, hb⟩; have HB1 : Hid (Below w.heap.size w w1) := Lib.hid (by obtain ⟨m, rfl⟩ := hb.out; exact ⟨rfl, rfl, rfl, Nat.le_refl _, fun _ _ => rfl⟩); clear hb) | (go_at_call 31; (with_reducible refine (num_Decimal.calls _ _ _ _ HX.out).mono ?_); rintro e w2 ⟨rfl, hb⟩; have HB2 : Hid (Below w.heap.size w w2) := Lib.hid (below_step HB1.out (by obtain ⟨m, rfl⟩ := hb.out; exact ⟨rfl, rfl, rfl, Nat.le_refl _, fun _ _ => rfl⟩)); clear hb; have d2 : w2.cell? ⟨g, 1, none⟩ = some (.slice (some ad) A.length c1) := (blk_cell (HT.out.frm HB2.out).bt 1).trans rfl; have d3 : w2.cell? (ad.add m) = some (.string s) := (World.cell?_of_block (w := w) (HB2.out.block _ HLT.out)).trans HXC.out))
        go_ret2
        exact ⟨by rw [HN.out]; rfl, HB2.out⟩
  · have HN : Hid (numA A x = (⟨#[]⟩, false)) := Lib.hid (by unfold numA; rw [hnE, if_neg (by simp; omega)])
    have b0 : (E == 0) = false := beq_eq_false_iff_ne.2 hE
    clear ht hA hxs hd hpos hnE
    go_enter Try.func13, Try.ntmps13
    go_wp2_with (first | (go_at_call 30; (with_reducible refine (word_Digit.calls (bt x 0) true _ HD.out).mono ?_); rintro e w1 ⟨rfl, hb⟩; have HB1 : Hid (Below w.heap.size w w1) := Lib.hid (by obtain ⟨m, rfl⟩ := hb.out; exact ⟨rfl, rfl, rfl, Nat.le_refl _, fun _ _ => rfl⟩); clear hb) | (go_at_call 31; (with_reducible refine (num_Decimal.calls _ _ _ _ HX.out).mono ?_); rintro e w2 ⟨rfl, hb⟩; have HB2 : Hid (Below w.heap.size w w2) := Lib.hid (below_step HB1.out (by obtain ⟨m, rfl⟩ := hb.out; exact ⟨rfl, rfl, rfl, Nat.le_refl _, fun _ _ => rfl⟩)); clear hb; have d2 : w2.cell? ⟨g, 1, none⟩ = some (.slice A1 A.length c1) := (blk_cell (HT.out.frm HB2.out).bt 1).trans rfl))
    go_ret2
    exact ⟨by rw [HN.out]; rfl, HB2.out⟩
theorem get_calls (B : Nat) (w : World) (g : Nat) (V : List S26) (A : List ByteArray) (st : Int) (x : ByteArray) (ht : TB B w g V A st) (hV : Ord V) (hl : V.length ≤ 64) (hA : A.length ≤ 1000) (hj : strings_Join.f A ⟨#[32]⟩ = some (joinB A)) (hst : -9223372036854775808 ≤ st ∧ st ≤ 9223372036854775807) (hxs : x.size ≤ 9223372036854775807) :
    Calls Try.prog 13 #[.pointer (some ⟨g, 0, none⟩), .string x] w fun e w' => e = .returned (.tuple #[.string (getM V A st x).1, .bool (getM V A st x).2]) ∧ Below w.heap.size w w' := by
  unfold getM
  by_cases e0 : x.toList = []
  · rw [if_pos e0]; exact get_none g w x (beq_iff_eq.2 e0)
  · rw [if_neg e0]
    have e0 := beq_eq_false_iff_ne.2 e0
    by_cases e1 : x.toList = [35]
    · rw [if_pos e1]; exact get_hash B w g V A st x ht hA e0 (beq_iff_eq.2 e1)
    · rw [if_neg e1]
      have e1 := beq_eq_false_iff_ne.2 e1
      by_cases e2 : x.toList = [63]
      · rw [if_pos e2]; exact get_ask B w g V A st x ht hst e0 e1 (beq_iff_eq.2 e2)
      · rw [if_neg e2]
        have e2 := beq_eq_false_iff_ne.2 e2
        by_cases e3 : x.toList = [64] ∨ x.toList = [42]
        · rw [if_pos e3]
          exact get_join B w g V A st x ht hj _ rfl e0 e1 e2 _ _ rfl rfl (e3.imp beq_iff_eq.2 beq_iff_eq.2)
        · rw [if_neg e3]
          have e4 := beq_eq_false_iff_ne.2 (fun h => e3 (.inr h))
          have e3 := beq_eq_false_iff_ne.2 (fun h => e3 (.inl h))
          by_cases hd : dig (bt x 0) = true
          · rw [if_pos hd]; exact get_digit B w g V A st x ht hA hxs e0 e1 e2 e3 e4 hd
          · rw [if_neg hd]; exact get_name B w g V A st x ht hV hl e0 e1 e2 e3 e4 (by simpa using hd)
end Go.Proofs.Ytgcbipflmhbpcaa.PV
set_option linter.unusedVariables false
set_option linter.unusedSimpArgs false
namespace Go.Proofs.Ytgcbipflmhbpcaa.PV
open Go Go.RowKit Go.Proofs.Ytgcbipflmhbpcaa Go.Proofs.YtgcbipflmhbpcaaW.PrintWords Go.Proofs.YtgcbipflmhbpcaaW.PrintLast Go.Proofs.YtgcbipflmhbpcaaW.PrintMore
theorem cellB {w w' : World} {a : Addr} {v : Value} (h : w.cell? a = some v) (hb : Below w.heap.size w w') : w'.cell? a = some v := by
  have hlt : a.block < w.heap.size := by
    cases hh : w.heap[a.block]? with
    | some o => exact (Array.getElem?_eq_some_iff.1 hh).1
    | none => simp [World.cell?, hh] at h
  exact (World.cell?_of_block (w := w) (hb.block _ hlt)).trans h
theorem three_put {w : World} {g t : Nat} {a b c x y z : Value} (h : w.heap[g]? = some (.cells #[a, b, c] t (0, 0))) : (((w.setCell ⟨g, 0, none⟩ x).setCell ⟨g, 1, none⟩ y).setCell ⟨g, 2, none⟩ z).heap[g]? = some (.cells #[x, y, z] t (0, 0)) :=
  blk_put (blk_put (blk_put h 0 x rfl) 1 y rfl) 2 z rfl
set_option maxHeartbeats 4000000 in
set_option maxRecDepth 100000 in
theorem shown_calls (B : Nat) (w : World) (g : Nat) (V : List S26) (A : List ByteArray) (st : Int) (ht : TB B w g V A st) (hl : V.length ≤ 1000) (hA : A.length ≤ 1000) :
    Calls Try.prog 12 #[.pointer (some ⟨g, 0, none⟩)] w fun e w' => ∃ A2 c2 A3 c3, e = .returned (.agg #[.slice A2 V.length c2, .slice A3 A.length c3, .int .i64 st]) ∧ V.length ≤ c2 ∧ A.length ≤ c3 ∧ Kd.C k26 w' A2 V.length V ∧ Kd.C Kd.string w' A3 A.length A ∧ Below w.heap.size w w' := by
  have hu36 := Try.underlying36
  have HT := Lib.hid ht
  have d2 : w.cell? ⟨g, 2, none⟩ = some (.int .i64 st) := by obtain ⟨vv, va, h⟩ := ht; exact (blk_cell h.bt 2).trans rfl
  have HL := Lib.hid hl
  have HA := Lib.hid hA
  clear ht hl hA
  go_enter Try.func12, Try.ntmps12
  go_upto_region 1 with (first | ((with_reducible refine gate_dst (N := 2) rfl ?_); refine box_event ?hg (N := 2) ?hd (cs := #[.slice none 0 0, .slice none 0 0, .int .i64 0]) (t := 36) ?hr ?_; (case hd => rfl); (case hg => rfl); (case hr => first | (go_simp; done) | (go_simp; rfl)); intro gb hg w1 hbox hb; have HB1 := Lib.hid hb; have BX := Lib.hid hbox; have E1 : Hid (w.heap.size ≤ gb) := Lib.hid (by rw [hg]; exact Nat.le_refl _); have HT1 := Lib.hid (TB.frm HT.out hb); have s2 := cellB d2 hb; clear hbox hb hg))
  refine start_ (n := 10) (S := (fun w' => w'.cell? ⟨g, 2, none⟩ = some (.int .i64 st))) (ds := [9]) #[false, false, false, false, false, false, false, false, false, false] (by kernel_rfl) rfl rfl s2 (fun hHeld => ?_)
  have HBD : Hid (Below w1.heap.size w1 (World.drew w1)) := Lib.hid ((Below.refl _ w1).drew)
  clear s2 d2
  generalize World.drew _ = wd at HBD hHeld ⊢
  iterate 5 (first | ((first | refine takeS_ 0 (N := some 3) (v := ?_) (a' := ?_) rfl rfl (by decide +kernel) (fun _ _ _ h => h) (Or.inl ⟨by rfl, ?_⟩) hHeld ?_ ?_ | refine takeS_ 2 (N := some 5) (v := ?_) (a' := ?_) rfl rfl (by decide +kernel) (fun _ _ _ h => h) (Or.inl ⟨by rfl, ?_⟩) hHeld ?_ ?_ | refine takeS_ 4 (N := some 7) (v := ?_) (a' := ?_) rfl rfl (by decide +kernel) (fun _ _ _ h => h) (Or.inl ⟨by rfl, ?_⟩) hHeld ?_ ?_ | refine takeS_ 5 (N := some 8) (v := ?_) (a' := ?_) rfl rfl (by decide +kernel) (fun _ _ _ h => h) (Or.inl ⟨by rfl, ?_⟩) hHeld ?_ ?_ | refine takeS_ 6 (N := some 9) (v := ?_) (a' := ?_) rfl rfl (by decide +kernel) (fun _ _ _ h => h) (Or.inl ⟨by rfl, ?_⟩) hHeld ?_ ?_); rotate_left; (rintro w' (s0); go_simp; first | done | (with_reducible rfl) | rfl); rotate_left; (simp only [Act.put, List.setIfInBounds_toArray, List.set_cons_zero, List.set_cons_succ, i64_w, i32_w]; rfl)) | ((first | refine takeS_ 0 (N := some 3) (v := undef) (a' := ?_) rfl rfl (by decide +kernel) (fun _ _ _ h => h) (Or.inr ⟨by rfl, rfl⟩) hHeld ?_ ?_ | refine takeS_ 2 (N := some 5) (v := undef) (a' := ?_) rfl rfl (by decide +kernel) (fun _ _ _ h => h) (Or.inr ⟨by rfl, rfl⟩) hHeld ?_ ?_ | refine takeS_ 4 (N := some 7) (v := undef) (a' := ?_) rfl rfl (by decide +kernel) (fun _ _ _ h => h) (Or.inr ⟨by rfl, rfl⟩) hHeld ?_ ?_ | refine takeS_ 5 (N := some 8) (v := undef) (a' := ?_) rfl rfl (by decide +kernel) (fun _ _ _ h => h) (Or.inr ⟨by rfl, rfl⟩) hHeld ?_ ?_ | refine takeS_ 6 (N := some 9) (v := undef) (a' := ?_) rfl rfl (by decide +kernel) (fun _ _ _ h => h) (Or.inr ⟨by rfl, rfl⟩) hHeld ?_ ?_); rotate_left; (simp only [Act.put, List.setIfInBounds_toArray, List.set_cons_zero, List.set_cons_succ, i64_w, i32_w]; rfl)))
  iterate 1 (first | ((first | refine takeS_ 7 (N := some 10) (v := ?_) (a' := ?_) rfl rfl (by decide +kernel) (fun _ _ _ h => h) (Or.inl ⟨by rfl, ?_⟩) hHeld ?_ ?_); rotate_left; (rintro w' (s0); go_simp; first | done | (with_reducible rfl) | rfl); rotate_left; (simp only [Act.put, List.setIfInBounds_toArray, List.set_cons_zero, List.set_cons_succ, i64_w, i32_w]; rfl)) | ((first | refine takeS_ 7 (N := some 10) (v := undef) (a' := ?_) rfl rfl (by decide +kernel) (fun _ _ _ h => h) (Or.inr ⟨by rfl, rfl⟩) hHeld ?_ ?_); rotate_left; (simp only [Act.put, List.setIfInBounds_toArray, List.set_cons_zero, List.set_cons_succ, i64_w, i32_w]; rfl)))
  refine oneS_ 1 (N := some 4) rfl rfl (by kernel_rfl) (by decide) (fun K hK => ?_)
  refine goes_ Try.func22 (by kernel_rfl) rfl #[.pointer (some ⟨g, 0, none⟩)] (by rfl) rfl rfl (by first | rfl | (simp [Act.eval]; done) | (simp [Act.eval, Act.put]; done)) ?_
  refine (vars_calls B wd g V A st (TB.frm HT1.out HBD.out) HL.out).mono ?_
  rintro e wv ⟨A2, c2, rfl, hn2, hc2, hC2, hbv⟩
  have HN2 : Hid (∀ ad, A2 = some ad → w1.heap.size ≤ ad.block) := Lib.hid (fun ad e => Nat.le_trans HBD.out.size (hn2 ad e))
  refine ⟨_, rfl, ?_⟩
  refine hK.out _ _ (cellB hHeld hbv) (fun hHeld => ?_)
  clear hK K
  have HBV := Lib.hid (below_step HBD.out hbv)
  have HBV2 := Lib.hid hbv
  have HC2 := Lib.hid hC2
  have HE2 := Lib.hid hc2
  clear hbv hC2 hc2 hn2
  refine norm_ (a' := ?_) ?_ ?_
  rotate_left
  · show Act.put _ (some 4) _ = _
    simp only [Act.put, List.setIfInBounds_toArray, List.set_cons_zero, List.set_cons_succ, i64_w, i32_w]
    rfl
  refine oneS_ 3 (N := some 6) rfl rfl (by kernel_rfl) (by decide) (fun K hK => ?_)
  refine goes_ Try.func23 (by kernel_rfl) rfl #[.pointer (some ⟨g, 0, none⟩)] (by rfl) rfl rfl (by first | rfl | (simp [Act.eval]; done) | (simp [Act.eval, Act.put]; done)) ?_
  refine (args_calls B wv g V A st (TB.frm HT1.out HBV.out) HA.out).mono ?_
  rintro e wx ⟨A3, c3, rfl, hn3, hc3, hC3, hbv⟩
  have HN3 : Hid (∀ ad, A3 = some ad → w1.heap.size ≤ ad.block) := Lib.hid (fun ad e => Nat.le_trans HBV.out.size (hn3 ad e))
  refine ⟨_, rfl, ?_⟩
  refine hK.out _ _ (cellB hHeld hbv) (fun hHeld => ?_)
  clear hK K
  have HBX := Lib.hid (below_step HBV.out hbv)
  have HC2' := Lib.hid (Kd.C_below HC2.out hbv)
  have HC3 := Lib.hid hC3
  have HE3 := Lib.hid hc3
  clear hbv hC3 hc3 hn3 HBV2 HC2 HBV
  refine norm_ (a' := ?_) ?_ ?_
  rotate_left
  · show Act.put _ (some 6) _ = _
    simp only [Act.put, List.setIfInBounds_toArray, List.set_cons_zero, List.set_cons_succ, i64_w, i32_w]
    rfl
  iterate 1 (first | ((first | refine takeS_ 8 (N := some 11) (v := ?_) (a' := ?_) rfl rfl (by decide +kernel) (fun _ _ _ h => h) (Or.inl ⟨by rfl, ?_⟩) hHeld ?_ ?_); rotate_left; (rintro w' (s0); go_simp; first | done | (with_reducible rfl) | rfl); rotate_left; (simp only [Act.put, List.setIfInBounds_toArray, List.set_cons_zero, List.set_cons_succ, i64_w, i32_w]; rfl)) | ((first | refine takeS_ 8 (N := some 11) (v := undef) (a' := ?_) rfl rfl (by decide +kernel) (fun _ _ _ h => h) (Or.inr ⟨by rfl, rfl⟩) hHeld ?_ ?_); rotate_left; (simp only [Act.put, List.setIfInBounds_toArray, List.set_cons_zero, List.set_cons_succ, i64_w, i32_w]; rfl)))
  have BX2 := Lib.hid (blk_below BX.out HBX.out)
  have x0 : wx.cell? ⟨gb, 0, none⟩ = some (.slice none 0 0) := (blk_cell BX2.out 0).trans rfl
  have x1 : wx.cell? ⟨gb, 1, none⟩ = some (.slice none 0 0) := (blk_cell BX2.out 1).trans rfl
  have x2 : wx.cell? ⟨gb, 2, none⟩ = some (.int .i64 0) := (blk_cell BX2.out 2).trans rfl
  have f0 := blk_frozen BX2.out 0
  have f1 := blk_frozen BX2.out 1
  have f2 := blk_frozen BX2.out 2
  clear hHeld
  refine lastS_ 9 (N := none) rfl rfl (by kernel_rfl) (by decide) (fun K hK => ?_)
  refine skip_ (w1 := ?_) (by rfl) rfl ?_ ?_
  rotate_left
  · go_simp
    rfl
  refine hK.out _ _ ?_
  clear hK K
  refine done_ (by kernel_rfl) ?_
  go_wp2
  have BX3 := three_put (x := .slice A2 V.length c2) (y := .slice A3 A.length c3) (z := .int .i64 st) BX2.out
  have HB3 : Below w.heap.size w (((wx.setCell ⟨gb, 0, none⟩ (.slice A2 V.length c2)).setCell ⟨gb, 1, none⟩ (.slice A3 A.length c3)).setCell ⟨gb, 2, none⟩ (.int .i64 st)) :=
    (((below_step HB1.out HBX.out).setCell E1.out _).setCell E1.out _).setCell E1.out _
  have HK : KeepBut wx (((wx.setCell ⟨gb, 0, none⟩ (.slice A2 V.length c2)).setCell ⟨gb, 1, none⟩ (.slice A3 A.length c3)).setCell ⟨gb, 2, none⟩ (.int .i64 st)) gb none := (((KeepBut.refl _ _ _).set_ 0 _).set_ 1 _).set_ 2 _
  have HLT : gb < w1.heap.size := blk_lt BX.out
  have HC2'' := Kd.C_foot_ne (fun h => h) HC2'.out (fun ad e _ => by have := HN2.out ad e; omega) _ HK
  have HC3'' := Kd.C_foot_ne (fun h => h) HC3.out (fun ad e _ => by have := HN3.out ad e; omega) _ HK
  generalize (((wx.setCell ⟨gb, 0, none⟩ (.slice A2 V.length c2)).setCell ⟨gb, 1, none⟩ (.slice A3 A.length c3)).setCell ⟨gb, 2, none⟩ (.int .i64 st)) = wz at *
  refine bodyPost_ret (results_cell_row rfl _ _ gb 36 #[.slice A2 V.length c2, .slice A3 A.length c3, .int .i64 st] (0, 0) _ rfl BX3 hu36 rfl (by kernel_rfl)) rfl ?_
  exact ⟨A2, c2, A3, c3, rfl, HE2.out, HE3.out, HC2'', HC3'', HB3⟩
end Go.Proofs.Ytgcbipflmhbpcaa.PV
set_option linter.unusedVariables false
set_option linter.unusedSimpArgs false
namespace Go.Proofs.Ytgcbipflmhbpcaa.PV
open Go Go.RowKit Go.Proofs.Ytgcbipflmhbpcaa Go.Proofs.YtgcbipflmhbpcaaW.PrintWords Go.Proofs.YtgcbipflmhbpcaaW.PrintLast Go.Proofs.YtgcbipflmhbpcaaW.PrintMore
theorem name_first {x : ByteArray} (h : nameB x = true) (c : UInt8) (hc : ltr (bt ⟨#[c]⟩ 0) = false) : x.toList ≠ [c] := by
  intro e
  have e2 : x = ⟨#[c]⟩ := ba_ext (e.trans (by rw [toList_data]))
  subst e2
  have := (name_facts h).2.2
  rw [hc] at this; cases this
theorem ltr_dig : ∀ c : Int, ltr c = true → dig c = false := by
  intro c h
  have h1 : word_Letter.f c = some true := (wl_ c).trans (congrArg some h)
  cases hd : dig c with
  | false => rfl
  | true =>
    have h2 : word_Digit.f c = some true := (wd_ c).trans (congrArg some hd)
    unfold word_Letter.f at h1
    unfold word_Digit.f at h2
    repeat' split at h1
    all_goals repeat' split at h2
    all_goals first | omega | (simp at h1 h2; omega) | (simp at h1) | (simp at h2)
theorem getM_name {V : List S26} {A : List ByteArray} {st : Int} {x : ByteArray} (h : nameB x = true) : getM V A st x = getV V x := by
  have f := name_facts h
  unfold getM
  rw [if_neg (fun e => by have := (size_nil (s := x)).1 e; omega), if_neg (name_first h 35 (by decide)), if_neg (name_first h 63 (by decide)), if_neg (fun e => by rcases e with e | e; exact name_first h 64 (by decide) e; exact name_first h 42 (by decide) e), if_neg (by rw [ltr_dig _ f.2.2]; simp)]
theorem getM_eq {V V' : List S26} {A : List ByteArray} {st : Int} {o : ByteArray} (h : getV V o = getV V' o) : getM V A st o = getM V' A st o := by unfold getM; rw [h]
theorem setE_name {V : List S26} {x y : ByteArray} (h : setE V x y = 0) : nameB x = true := by
  cases hn : nameB x with
  | true => rfl
  | false => unfold setE at h; rw [hn] at h; simp at h
theorem setT_get {V : List S26} {A : List ByteArray} {st : Int} {x y : ByteArray} (h : setE V x y = 0) : getM (setT V x y) A st x = (y, true) := by
  rw [getM_name (setE_name h)]; unfold setT; rw [if_pos h]; exact find_same
theorem setT_other {V : List S26} {A : List ByteArray} {st : Int} {x y o : ByteArray} (h : o.toList ≠ x.toList) : getM (setT V x y) A st o = getM V A st o := by
  unfold setT
  split
  · exact getM_eq (find_set h)
  · rfl
theorem unsV_other {V : List S26} {A : List ByteArray} {st : Int} {x o : ByteArray} (h : o.toList ≠ x.toList) : getM (unsV V x) A st o = getM V A st o := getM_eq (find_uns h)
theorem unsV_gone {V : List S26} {A : List ByteArray} {st : Int} {x : ByteArray} (h : (getM (unsV V x) A st x).2 = true) : nameB x = false := by
  cases hn : nameB x with
  | false => rfl
  | true => rw [getM_name hn, find_gone] at h; cases h
theorem setT_ord {V : List S26} {x y : ByteArray} (h : Ord V) : Ord (setT V x y) := by
  unfold setT; split
  · exact setV_ord h
  · exact h
theorem setT_len {V : List S26} {x y : ByteArray} (h : Ord V) (hl : V.length ≤ 64) : (setT V x y).length ≤ 64 := by
  unfold setT; split
  · rename_i he; exact setE_len h hl he
  · exact hl
theorem unsV_len {V : List S26} {x : ByteArray} : (unsV V x).length ≤ V.length := List.length_filter_le _ _
theorem join_nil : strings_Join.f [] ⟨#[32]⟩ = some (joinB []) := by
  have h : ∃ r, strings_Join.f [] ⟨#[32]⟩ = some r := by unfold strings_Join.f; exact ⟨_, rfl⟩
  obtain ⟨r, h⟩ := h
  unfold joinB; rw [h]; rfl
theorem argsE_nil : argsE [] = 0 := by decide
/-- what first tells: the variables of New -/
theorem first_ev (l : List S26) (hl : l.length ≤ 1000000000000000) (h0 : (newV [] l).2 = 0) : ∃ k, rehearsallaw11_first.f k l = some ((newV [] l).1, [], 0) := by
  obtain ⟨K, hK⟩ := rnew_ev l [] hl
  refine ⟨K, ?_⟩
  unfold rehearsallaw11_first.f
  have := hK K (Nat.le_refl _)
  simp only at this
  rw [this, Option.bind_some]
  unfold newR; rw [if_pos h0, if_pos argsE_nil]
theorem same_ev (V : List S26) (A : List ByteArray) (st : Int) (hV : V.length ≤ 1000000) (hA : A.length ≤ 1000000) : ∃ k, rehearsalref11_Same.f k V A st V A st = some true := by
  obtain ⟨K, hK⟩ := rsame_ev V A st hV hA
  exact ⟨K, hK K (Nat.le_refl _)⟩
theorem rname_ev (x : ByteArray) : ∃ k, rehearsalref07_Name.f k x = some (nameB x) := by
  obtain ⟨K, hK⟩ := name_r x
  exact ⟨K, hK K (Nat.le_refl _)⟩
theorem new_ok (w : World) (l : List S26) (A1 : Option Addr) (c1 : Nat) (hl : Kd.C k26 w A1 l.length l) (h0 : (newV [] l).2 = 0) :
    Calls Try.prog 8 #[.slice A1 l.length c1, .slice none 0 0] w fun e w' => ∃ g, e = .returned (.tuple #[.pointer (some ⟨g, 0, none⟩), .int .i64 0]) ∧ Below w.heap.size w w' ∧ TB w.heap.size w' g (newV [] l).1 [] 0 := by
  refine (new_calls w l A1 c1 [] none 0 hl (Kd.C_nil _ w)).mono ?_
  rintro e w' ⟨hb, ⟨_, _, g, he, ht⟩ | ⟨E, hE, hr, he⟩⟩
  · exact ⟨g, he, hb, ht⟩
  · exfalso; unfold newR at hr; rw [if_pos h0, if_pos argsE_nil] at hr; exact hE hr.symm
theorem new_bad (w : World) (l : List S26) (A1 : Option Addr) (c1 : Nat) (hl : Kd.C k26 w A1 l.length l) (h0 : (newV [] l).2 ≠ 0) :
    Calls Try.prog 8 #[.slice A1 l.length c1, .slice none 0 0] w fun e w' => ∃ E, E ≠ 0 ∧ e = .returned (.tuple #[.pointer none, .int .i64 E]) ∧ Below w.heap.size w w' := by
  refine (new_calls w l A1 c1 [] none 0 hl (Kd.C_nil _ w)).mono ?_
  rintro e w' ⟨hb, ⟨h, _⟩ | ⟨E, hE, hr, he⟩⟩
  · exact absurd h h0
  · exact ⟨E, hE, he, hb⟩
end Go.Proofs.Ytgcbipflmhbpcaa.PV
set_option linter.unusedVariables false
set_option linter.unusedSimpArgs false
namespace Go.Proofs.Ytgcbipflmhbpcaa.PV
open Go Go.RowKit Go.Proofs.Ytgcbipflmhbpcaa Go.Proofs.YtgcbipflmhbpcaaW.PrintWords Go.Proofs.YtgcbipflmhbpcaaW.PrintLast Go.Proofs.YtgcbipflmhbpcaaW.PrintMore
theorem get_o {B : Nat} {w : World} {g : Nat} {V : List S26} {o : ByteArray} {r : ByteArray × Bool} (ht : TB B w g V [] 0) (hv : Ord V ∧ V.length ≤ 64) (ho : o.size ≤ 9223372036854775807) (hr : getM V [] 0 o = r) :
    Calls Try.prog 13 #[.pointer (some ⟨g, 0, none⟩), .string o] w fun e w' => e = .returned (.tuple #[.string r.1, .bool r.2]) ∧ Below w.heap.size w w' ∧ TB B w' g V [] 0 := by
  subst hr
  refine (get_calls B w g V [] 0 o ht hv.1 hv.2 (by simp) join_nil (by decide) ho).mono ?_
  rintro e w' ⟨he, hb⟩
  exact ⟨he, hb, TB.frm ht hb⟩
theorem frm_below {w w1 w2 : World} (h : Below w.heap.size w w1) (hf : Frm (fun k => w.heap.size ≤ k) w1 w2) : Below w.heap.size w w2 := h.trans (hf.below h.size (fun i hi e => by have : w.heap.size ≤ i := e; omega))
theorem drawn_below {w w' : World} (h : Drawn0 w w') : Below w.heap.size w w' := by obtain ⟨m, rfl⟩ := h; exact ⟨rfl, rfl, rfl, Nat.le_refl _, fun _ _ => rfl⟩
theorem same_nil {k : Nat} {V : List S26} {A2 A3 A4 A5 : Option Addr} {c2 c3 c4 c5 : Nat} {w : World} (hk : rehearsalref11_Same.f k V [] 0 V [] 0 = some true) (h2 : Kd.C k26 w A2 V.length V) (e2 : V.length ≤ c2) (h3 : Kd.C Kd.string w A3 ([] : List ByteArray).length []) (e3 : ([] : List ByteArray).length ≤ c3) (h4 : Kd.C k26 w A4 V.length V) (e4 : V.length ≤ c4) (h5 : Kd.C Kd.string w A5 ([] : List ByteArray).length []) (e5 : ([] : List ByteArray).length ≤ c5) :
    Calls Try.prog 11 #[.agg #[.slice A2 V.length c2, .slice A3 0 c3, .int .i64 0], .agg #[.slice A4 V.length c4, .slice A5 0 c5, .int .i64 0]] w fun e w' => e = .returned (.bool true) ∧ Below w.heap.size w w' :=
  rehearsalref11_Same.calls k A2 c2 V A3 c3 [] 0 A4 c4 V A5 c5 [] 0 true w h2 e2 h3 e3 h4 e4 h5 e5 hk
set_option maxHeartbeats 4000000 in
set_option maxRecDepth 100000 in
theorem sets_bad (l : List S26) (A1 : Option Addr) (c1 : Nat) (x y o : ByteArray) (w : World) (hl : Kd.C k26 w A1 l.length l) (h0 : (newV [] l).2 ≠ 0) :
    Calls Try.prog 4 #[.slice A1 l.length c1, .string x, .string y, .string o] w fun e W' => e = .returned (.bool true) ∧ Below w.heap.size w W' := by
  have HL := Lib.hid hl
  have H0 := Lib.hid h0
  clear hl h0
  go_enter Try.func4, Try.ntmps4
  go_wp2_with (first | (go_at_call 8; (with_reducible refine (new_bad w l A1 c1 HL.out H0.out).mono ?_); rintro e w1 ⟨E, hE, rfl, hb⟩; have HB := Lib.hid hb; have e1 : (E == 0) = false := beq_eq_false_iff_ne.2 hE; have e2 : (E = 0) = False := eq_false hE; clear hb hE) | (go_at_call 6; (with_reducible refine (awake_any _).mono ?_); rintro e w4 ⟨rfl, hb⟩; replace HB := Lib.hid (below_step HB.out hb); clear hb))
  go_ret
  exact ⟨rfl, HB.out⟩
set_option maxHeartbeats 4000000 in
set_option maxRecDepth 100000 in
theorem sets_ok (l V : List S26) (A1 : Option Addr) (c1 : Nat) (x y o : ByteArray) (w : World) (hl : Kd.C k26 w A1 l.length l) (hc1 : l.length ≤ c1) (hll : l.length ≤ 1000000000000000) (h0 : (newV [] l).2 = 0) (hV : (newV [] l).1 = V) (hx : x.size ≤ 9223372036854775807) (ho : o.size ≤ 9223372036854775807) :
    Calls Try.prog 4 #[.slice A1 l.length c1, .string x, .string y, .string o] w fun e W' => e = .returned (.bool true) ∧ Below w.heap.size w W' := by
  have hv := newV_ok l [] ord_nil (by simp) h0
  rw [hV] at hv
  obtain ⟨k1, kf⟩ := first_ev l hll h0
  rw [hV] at kf
  obtain ⟨k2, ks⟩ := same_ev V [] 0 (by omega) (by simp)
  obtain ⟨k3, kn⟩ := rname_ev x
  have HV := Lib.hid hv
  have HV2 : Hid (Ord (setT V x y) ∧ (setT V x y).length ≤ 64) := Lib.hid ⟨setT_ord hv.1, setT_len hv.1 hv.2⟩
  have HV3 : Hid (Ord (unsV (setT V x y) x) ∧ (unsV (setT V x y) x).length ≤ 64) := Lib.hid ⟨unsV_ord HV2.out.1, Nat.le_trans unsV_len HV2.out.2⟩
  have HE : Hid (setE V x y ≠ 0 → setT V x y = V) := Lib.hid (fun h => by unfold setT; rw [if_neg h])
  have HG : Hid (setE V x y = 0 → getM (setT V x y) [] 0 x = (y, true)) := Lib.hid (fun h => setT_get h)
  have HD : Hid (o.toList ≠ x.toList → getM (setT V x y) [] 0 o = getM V [] 0 o ∧ getM (unsV (setT V x y) x) [] 0 o = getM V [] 0 o) := Lib.hid (fun h => ⟨setT_other h, (unsV_other h).trans (setT_other h)⟩)
  have HN : Hid ((getM (unsV (setT V x y) x) [] 0 x).2 = true → nameB x = false) := Lib.hid (fun h => unsV_gone h)
  have HL := Lib.hid hl
  have H0 := Lib.hid h0
  have HVV := Lib.hid hV
  have HX := Lib.hid hx
  have HO := Lib.hid ho
  have HC1 := Lib.hid hc1
  have KF := Lib.hid kf
  have KS := Lib.hid ks
  have KN := Lib.hid kn
  obtain ⟨⟨s1, b1⟩, hr1⟩ : ∃ r, getM V [] 0 o = r := ⟨_, rfl⟩
  obtain ⟨⟨s2, b2⟩, hr2⟩ : ∃ r, getM (setT V x y) [] 0 x = r := ⟨_, rfl⟩
  obtain ⟨⟨s3, b3⟩, hr3⟩ : ∃ r, getM (setT V x y) [] 0 o = r := ⟨_, rfl⟩
  obtain ⟨⟨s4, b4⟩, hr4⟩ : ∃ r, getM (unsV (setT V x y) x) [] 0 x = r := ⟨_, rfl⟩
  obtain ⟨⟨s5, b5⟩, hr5⟩ : ∃ r, getM (unsV (setT V x y) x) [] 0 o = r := ⟨_, rfl⟩
  have K1 := Lib.hid hr1
  have K2 := Lib.hid hr2
  have K3 := Lib.hid hr3
  have K4 := Lib.hid hr4
  have K5 := Lib.hid hr5
  clear hv kf ks kn hl h0 hV hx ho hc1 hr1 hr2 hr3 hr4 hr5 hll
  obtain ⟨E, hE⟩ : ∃ E, setE V x y = E := ⟨_, rfl⟩
  have HEE := Lib.hid hE
  clear hE
  go_enter Try.func4, Try.ntmps4
  go_upto_region 8 with (first | (go_at_call 8; (with_reducible refine (new_ok w l A1 c1 HL.out H0.out).mono ?_); rintro e w1 ⟨g, rfl, hb, ht⟩; rw [HVV.out] at ht; have HB := Lib.hid hb; have HT := Lib.hid ht; clear hb ht) | (go_at_call 13; (with_reducible refine (get_o HT.out HV.out HO.out K1.out).mono ?_); (rintro e w2 ⟨rfl, hb, ht⟩; replace HT := Lib.hid ht; replace HB := Lib.hid (below_step HB.out hb); clear hb ht)) | (go_at_call 15; (with_reducible refine (set_calls w.heap.size _ g _ [] 0 x y HT.out HB.out.size HV.out.1 HV.out.2).mono ?_); rw [HEE.out]; rintro e w2 ⟨rfl, hf, ht⟩; replace HT := Lib.hid ht; replace HB := Lib.hid (frm_below HB.out hf); clear hf ht) | (go_at_call 13; (with_reducible refine (get_o HT.out HV2.out HX.out K2.out).mono ?_); (rintro e w2 ⟨rfl, hb, ht⟩; replace HT := Lib.hid ht; replace HB := Lib.hid (below_step HB.out hb); clear hb ht)) | (go_at_call 13; (with_reducible refine (get_o HT.out HV2.out HO.out K3.out).mono ?_); (rintro e w2 ⟨rfl, hb, ht⟩; replace HT := Lib.hid ht; replace HB := Lib.hid (below_step HB.out hb); clear hb ht)))
  by_cases hE : E = 0
  · subst hE
    by_cases hx : o.toList = x.toList
    · have e0 : (y, true) = (s2, b2) := (HG.out HEE.out).symm.trans K2.out
      obtain ⟨rfl, rfl⟩ := Prod.mk.inj e0
      have e4 : (x.toList == o.toList) = true := beq_iff_eq.2 hx.symm
      have e5 : (x.toList != o.toList) = false := by rw [bne, e4]; rfl
      clear hx
      go_upto_region 13 with (first | (go_at_call 17; (with_reducible refine (unset_calls w.heap.size _ g _ [] 0 x HT.out HB.out.size HV2.out.1 HV2.out.2).mono ?_); rintro e w2 ⟨rfl, hf, ht⟩; replace HT := Lib.hid ht; replace HB := Lib.hid (frm_below HB.out hf); clear hf ht) | (go_at_call 13; (with_reducible refine (get_o HT.out HV3.out HX.out K4.out).mono ?_); (rintro e w2 ⟨rfl, hb, ht⟩; replace HT := Lib.hid ht; replace HB := Lib.hid (below_step HB.out hb); clear hb ht)) | (go_at_call 13; (with_reducible refine (get_o HT.out HV3.out HO.out K5.out).mono ?_); (rintro e w2 ⟨rfl, hb, ht⟩; replace HT := Lib.hid ht; replace HB := Lib.hid (below_step HB.out hb); clear hb ht)))
      cases b4 with
      | true =>
        have e8 : nameB x = false := HN.out (by rw [K4.out])
        rw [e8] at KN
        go_wp2_with (first | (go_at_call 18; (with_reducible refine (rehearsalref07_Name.calls k3 x _ _ KN.out).mono ?_); rintro e w4 ⟨rfl, hb⟩; replace HB := Lib.hid (below_step HB.out (drawn_below hb)); clear hb) | (go_at_call 6; (with_reducible refine (awake_any _).mono ?_); rintro e w4 ⟨rfl, hb⟩; replace HB := Lib.hid (below_step HB.out hb); clear hb))
        go_ret
        exact ⟨rfl, HB.out⟩
      | false =>
        go_wp2_with (go_at_call 6; (with_reducible refine (awake_any _).mono ?_); rintro e w4 ⟨rfl, hb⟩; replace HB := Lib.hid (below_step HB.out hb); clear hb)
        go_ret
        exact ⟨rfl, HB.out⟩
    · have e0 : (y, true) = (s2, b2) := (HG.out HEE.out).symm.trans K2.out
      obtain ⟨rfl, rfl⟩ := Prod.mk.inj e0
      have e4 : (x.toList == o.toList) = false := beq_eq_false_iff_ne.2 (fun h => hx h.symm)
      have e5 : (x.toList != o.toList) = true := by rw [bne, e4]; rfl
      have e6 : (s1, b1) = (s3, b3) := (K1.out.symm.trans (HD.out hx).1.symm).trans K3.out
      have e7 : (s1, b1) = (s5, b5) := (K1.out.symm.trans (HD.out hx).2.symm).trans K5.out
      obtain ⟨rfl, rfl⟩ := Prod.mk.inj e6
      obtain ⟨rfl, rfl⟩ := Prod.mk.inj e7
      clear e6 e7
      clear hx
      go_upto_region 13 with (first | (go_at_call 17; (with_reducible refine (unset_calls w.heap.size _ g _ [] 0 x HT.out HB.out.size HV2.out.1 HV2.out.2).mono ?_); rintro e w2 ⟨rfl, hf, ht⟩; replace HT := Lib.hid ht; replace HB := Lib.hid (frm_below HB.out hf); clear hf ht) | (go_at_call 13; (with_reducible refine (get_o HT.out HV3.out HX.out K4.out).mono ?_); (rintro e w2 ⟨rfl, hb, ht⟩; replace HT := Lib.hid ht; replace HB := Lib.hid (below_step HB.out hb); clear hb ht)) | (go_at_call 13; (with_reducible refine (get_o HT.out HV3.out HO.out K5.out).mono ?_); (rintro e w2 ⟨rfl, hb, ht⟩; replace HT := Lib.hid ht; replace HB := Lib.hid (below_step HB.out hb); clear hb ht)))
      cases b4 with
      | true =>
        have e8 : nameB x = false := HN.out (by rw [K4.out])
        rw [e8] at KN
        go_wp2_with (first | (go_at_call 18; (with_reducible refine (rehearsalref07_Name.calls k3 x _ _ KN.out).mono ?_); rintro e w4 ⟨rfl, hb⟩; replace HB := Lib.hid (below_step HB.out (drawn_below hb)); clear hb) | (go_at_call 6; (with_reducible refine (awake_any _).mono ?_); rintro e w4 ⟨rfl, hb⟩; replace HB := Lib.hid (below_step HB.out hb); clear hb))
        go_ret
        exact ⟨rfl, HB.out⟩
      | false =>
        go_wp2_with (go_at_call 6; (with_reducible refine (awake_any _).mono ?_); rintro e w4 ⟨rfl, hb⟩; replace HB := Lib.hid (below_step HB.out hb); clear hb)
        go_ret
        exact ⟨rfl, HB.out⟩
  · skip
    by_cases hx : o.toList = x.toList
    · have e4 : (x.toList == o.toList) = true := beq_iff_eq.2 hx.symm
      have e5 : (x.toList != o.toList) = false := by rw [bne, e4]; rfl
      have e1 : (E == 0) = false := beq_eq_false_iff_ne.2 hE
      have e2 : (E = 0) = False := eq_false hE
      rw [HE.out (fun h => hE (HEE.out.symm.trans h))] at HT HV2 HV3 K2 K3 K4 K5 HN
      have HV1 : Hid (V.length ≤ 1000) := Lib.hid (by have := HV.out.2; omega)
      clear hE
      clear hx
      go_upto_region 13 with (first | (go_at_call 12; (with_reducible refine (shown_calls w.heap.size _ g _ [] 0 HT.out HV1.out (by decide)).mono ?_); rintro e w2 ⟨A2, c2, A3, c3, rfl, hc2, hc3, hC2, hC3, hb⟩; have HC2 := Lib.hid hC2; have HC3 := Lib.hid hC3; have E2 := Lib.hid hc2; have E3 := Lib.hid hc3; replace HT := Lib.hid (TB.frm HT.out hb); replace HB := Lib.hid (below_step HB.out hb); clear hb hC2 hC3 hc2 hc3) | (go_at_call 16; (with_reducible refine (rehearsallaw11_first.calls k1 A1 c1 l _ _ _ _ (Kd.C_below HL.out HB.out) HC1.out KF.out).mono ?_); rintro e w3 ⟨v0, v1, rfl, hr0, hr1, hb⟩; obtain ⟨A4, c4, rfl, hc4, hC4⟩ := Kd.R_reads hr0; obtain ⟨A5, c5, rfl, hc5, hC5⟩ := Kd.R_reads hr1; have HC4 := Lib.hid hC4; have HC5 := Lib.hid hC5; have E4 := Lib.hid hc4; have E5 := Lib.hid hc5; replace HC2 := Lib.hid (Kd.C_below HC2.out hb); replace HC3 := Lib.hid (Kd.C_below HC3.out hb); replace HT := Lib.hid (TB.frm HT.out hb); replace HB := Lib.hid (below_step HB.out hb); clear hb hr0 hr1 hC4 hC5 hc4 hc5) | (go_at_call 11; (with_reducible refine (same_nil KS.out HC2.out E2.out HC3.out E3.out HC4.out E4.out HC5.out E5.out).mono ?_); rintro e w4 ⟨rfl, hb⟩; replace HT := Lib.hid (TB.frm HT.out hb); replace HB := Lib.hid (below_step HB.out hb); clear hb) | (go_at_call 17; (with_reducible refine (unset_calls w.heap.size _ g _ [] 0 x HT.out HB.out.size HV2.out.1 HV2.out.2).mono ?_); rintro e w2 ⟨rfl, hf, ht⟩; replace HT := Lib.hid ht; replace HB := Lib.hid (frm_below HB.out hf); clear hf ht) | (go_at_call 13; (with_reducible refine (get_o HT.out HV3.out HX.out K4.out).mono ?_); (rintro e w2 ⟨rfl, hb, ht⟩; replace HT := Lib.hid ht; replace HB := Lib.hid (below_step HB.out hb); clear hb ht)) | (go_at_call 13; (with_reducible refine (get_o HT.out HV3.out HO.out K5.out).mono ?_); (rintro e w2 ⟨rfl, hb, ht⟩; replace HT := Lib.hid ht; replace HB := Lib.hid (below_step HB.out hb); clear hb ht)))
      cases b4 with
      | true =>
        have e8 : nameB x = false := HN.out (by rw [K4.out])
        rw [e8] at KN
        go_wp2_with (first | (go_at_call 18; (with_reducible refine (rehearsalref07_Name.calls k3 x _ _ KN.out).mono ?_); rintro e w4 ⟨rfl, hb⟩; replace HB := Lib.hid (below_step HB.out (drawn_below hb)); clear hb) | (go_at_call 6; (with_reducible refine (awake_any _).mono ?_); rintro e w4 ⟨rfl, hb⟩; replace HB := Lib.hid (below_step HB.out hb); clear hb))
        go_ret
        exact ⟨rfl, HB.out⟩
      | false =>
        go_wp2_with (go_at_call 6; (with_reducible refine (awake_any _).mono ?_); rintro e w4 ⟨rfl, hb⟩; replace HB := Lib.hid (below_step HB.out hb); clear hb)
        go_ret
        exact ⟨rfl, HB.out⟩
    · have e4 : (x.toList == o.toList) = false := beq_eq_false_iff_ne.2 (fun h => hx h.symm)
      have e5 : (x.toList != o.toList) = true := by rw [bne, e4]; rfl
      have e6 : (s1, b1) = (s3, b3) := (K1.out.symm.trans (HD.out hx).1.symm).trans K3.out
      have e7 : (s1, b1) = (s5, b5) := (K1.out.symm.trans (HD.out hx).2.symm).trans K5.out
      obtain ⟨rfl, rfl⟩ := Prod.mk.inj e6
      obtain ⟨rfl, rfl⟩ := Prod.mk.inj e7
      clear e6 e7
      have e1 : (E == 0) = false := beq_eq_false_iff_ne.2 hE
      have e2 : (E = 0) = False := eq_false hE
      rw [HE.out (fun h => hE (HEE.out.symm.trans h))] at HT HV2 HV3 K2 K3 K4 K5 HN
      have HV1 : Hid (V.length ≤ 1000) := Lib.hid (by have := HV.out.2; omega)
      clear hE
      clear hx
      go_upto_region 13 with (first | (go_at_call 12; (with_reducible refine (shown_calls w.heap.size _ g _ [] 0 HT.out HV1.out (by decide)).mono ?_); rintro e w2 ⟨A2, c2, A3, c3, rfl, hc2, hc3, hC2, hC3, hb⟩; have HC2 := Lib.hid hC2; have HC3 := Lib.hid hC3; have E2 := Lib.hid hc2; have E3 := Lib.hid hc3; replace HT := Lib.hid (TB.frm HT.out hb); replace HB := Lib.hid (below_step HB.out hb); clear hb hC2 hC3 hc2 hc3) | (go_at_call 16; (with_reducible refine (rehearsallaw11_first.calls k1 A1 c1 l _ _ _ _ (Kd.C_below HL.out HB.out) HC1.out KF.out).mono ?_); rintro e w3 ⟨v0, v1, rfl, hr0, hr1, hb⟩; obtain ⟨A4, c4, rfl, hc4, hC4⟩ := Kd.R_reads hr0; obtain ⟨A5, c5, rfl, hc5, hC5⟩ := Kd.R_reads hr1; have HC4 := Lib.hid hC4; have HC5 := Lib.hid hC5; have E4 := Lib.hid hc4; have E5 := Lib.hid hc5; replace HC2 := Lib.hid (Kd.C_below HC2.out hb); replace HC3 := Lib.hid (Kd.C_below HC3.out hb); replace HT := Lib.hid (TB.frm HT.out hb); replace HB := Lib.hid (below_step HB.out hb); clear hb hr0 hr1 hC4 hC5 hc4 hc5) | (go_at_call 11; (with_reducible refine (same_nil KS.out HC2.out E2.out HC3.out E3.out HC4.out E4.out HC5.out E5.out).mono ?_); rintro e w4 ⟨rfl, hb⟩; replace HT := Lib.hid (TB.frm HT.out hb); replace HB := Lib.hid (below_step HB.out hb); clear hb) | (go_at_call 17; (with_reducible refine (unset_calls w.heap.size _ g _ [] 0 x HT.out HB.out.size HV2.out.1 HV2.out.2).mono ?_); rintro e w2 ⟨rfl, hf, ht⟩; replace HT := Lib.hid ht; replace HB := Lib.hid (frm_below HB.out hf); clear hf ht) | (go_at_call 13; (with_reducible refine (get_o HT.out HV3.out HX.out K4.out).mono ?_); (rintro e w2 ⟨rfl, hb, ht⟩; replace HT := Lib.hid ht; replace HB := Lib.hid (below_step HB.out hb); clear hb ht)) | (go_at_call 13; (with_reducible refine (get_o HT.out HV3.out HO.out K5.out).mono ?_); (rintro e w2 ⟨rfl, hb, ht⟩; replace HT := Lib.hid ht; replace HB := Lib.hid (below_step HB.out hb); clear hb ht)))
      cases b4 with
      | true =>
        have e8 : nameB x = false := HN.out (by rw [K4.out])
        rw [e8] at KN
        go_wp2_with (first | (go_at_call 18; (with_reducible refine (rehearsalref07_Name.calls k3 x _ _ KN.out).mono ?_); rintro e w4 ⟨rfl, hb⟩; replace HB := Lib.hid (below_step HB.out (drawn_below hb)); clear hb) | (go_at_call 6; (with_reducible refine (awake_any _).mono ?_); rintro e w4 ⟨rfl, hb⟩; replace HB := Lib.hid (below_step HB.out hb); clear hb))
        go_ret
        exact ⟨rfl, HB.out⟩
      | false =>
        go_wp2_with (go_at_call 6; (with_reducible refine (awake_any _).mono ?_); rintro e w4 ⟨rfl, hb⟩; replace HB := Lib.hid (below_step HB.out hb); clear hb)
        go_ret
        exact ⟨rfl, HB.out⟩
theorem sets_walk (A1 : Option Addr) (c1 : Nat) (l : List S26) (x y o : ByteArray) (w : World) (hl : Kd.C k26 w A1 l.length l) (hc1 : l.length ≤ c1) (hll : l.length ≤ 1000000000000000) (hx : x.size ≤ 140737488351232) (hy : y.size ≤ 140737488351232) (ho : o.size ≤ 140737488351232) :
    Calls Try.prog 4 #[.slice A1 l.length c1, .string x, .string y, .string o] w fun e W' => e = .returned (.bool true) ∧ Below w.heap.size w W' := by
  by_cases h : (newV [] l).2 = 0
  · exact sets_ok l _ A1 c1 x y o w hl hc1 hll h rfl (by omega) (by omega)
  · exact sets_bad l A1 c1 x y o w hl h
end Go.Proofs.Ytgcbipflmhbpcaa.PV
set_option linter.unusedVariables false
set_option linter.unusedSimpArgs false
namespace Go.Proofs.Ytgcbipflmhbpcaa
open Go Go.RowKit Go.ChangeShapes Go.WideShapes Go.Proofs.YtgcbipflmhbpcaaW.PrintWords
def Opens (P : Program) {α : Type} (d : Kd α) (t : TypeId) (B : α → Prop) : Prop :=
  ∀ {H : Type} {enc : TypeId × Value → H} {w : World} {base : Nat} {spare : Nat → Bool} {held : Bool} {fuel : Nat} {cs : List Value} {y : DataW H × List MemPlace},
    DataW.trod enc P w base spare held fuel t cs = some y → (∀ n ∈ y.1.weights P t, n ≤ reachBytes) → ∃ x, d.K w x cs ∧ B x
theorem opens_string {P : Program} {t : TypeId} (ht : P.underlying t = some .string) : Opens P Kd.string t (fun s => s.size ≤ reachBytes) := by
  intro H enc w base spare held fuel cs y h hz
  obtain ⟨s, rfl, rfl, _⟩ := DataW.trod_string ht h
  refine ⟨s, rfl, ?_⟩
  have := hz s.data.toList.length (by simp [DataW.weights])
  rwa [Array.length_toList] at this
theorem mem_wAll {H : Type} {P : Program} {e : TypeId} {l : List (DataW H)} {d : DataW H} (hd : d ∈ l) {n : Nat} (hn : n ∈ d.weights P e) : n ∈ DataW.weightsAll P e l := by
  induction l with
  | nil => cases hd
  | cons x r ih =>
    simp only [DataW.weightsAll, List.mem_append]
    rcases List.mem_cons.1 hd with h | h
    · subst h; exact .inl hn
    · exact .inr (ih h)
theorem pick {α : Type} {Q : Nat → α → Prop} : ∀ (n : Nat), (∀ i, i < n → ∃ x, Q i x) → ∃ xs : List α, xs.length = n ∧ ∀ i x, xs[i]? = some x → Q i x := by
  intro n
  induction n with
  | zero => intro _; exact ⟨[], rfl, fun i x h => by simp at h⟩
  | succ n ih =>
    intro h
    obtain ⟨xs, hl, hx⟩ := ih (fun i hi => h i (by omega))
    obtain ⟨x, hq⟩ := h n (by omega)
    refine ⟨xs ++ [x], by simp [hl], fun i y hy => ?_⟩
    by_cases hi : i < n
    · rw [List.getElem?_append_left (by omega)] at hy; exact hx i y hy
    · have : i < (xs ++ [x]).length := (List.getElem?_eq_some_iff.1 hy).1
      simp only [List.length_append, List.length_cons, List.length_nil] at this
      have hi2 : i = n := by omega
      subst hi2
      rw [List.getElem?_append_right (by omega)] at hy
      simp [hl] at hy
      subst hy; exact hq
theorem opens_slice {P : Program} {α : Type} {d : Kd α} {B : α → Prop} {t e : TypeId} (q : Nat) (ht : P.underlying t = some (.slice e)) (hd : Opens P d e B) (hc : P.cellsOf e = d.sz) :
    Opens P (Kd.slice q d) t (fun xs => xs.length * P.bytesOf e ≤ reachBytes ∧ xs.length ≤ 9223372036854775807 ∧ ∀ x ∈ xs, B x) := by
  intro H enc w base spare held fuel cs y h hz
  rcases DataW.trod_slice ht h with ⟨rfl, rfl⟩ | ⟨a, len, cap, elems, rest, n, _, rfl, rfl, hb, hl, hm, hlen, hel, hsp, hns⟩
  · exact ⟨[], ⟨none, 0, rfl, Nat.le_refl _, rfl, by simp, fun h => absurd h (by simp)⟩, by simp, by simp, fun x hx => by cases hx⟩
  · have hmax : len ≤ 9223372036854775807 := Nat.le_trans (Nat.le_trans hl hm) (by unfold maxLen; decide)
    have hzz : ∀ n ∈ (elems.length + rest.length) * P.bytesOf e :: (DataW.weightsAll P e (elems.map (·.1)) ++ DataW.weightsAll P e (rest.map (·.1))), n ≤ reachBytes := by
      intro n hn
      refine hz n ?_
      simp only [DataW.weights, ht, List.length_map]
      exact hn
    have each : ∀ i, i < len → ∃ x, ∃ c : List Value, c.length = d.sz ∧ d.K w x c ∧ B x ∧ ∀ k u, c[k]? = some u → w.cell? (a.add (i * d.sz + k)) = some u := by
      intro i hi
      have h1 := hel i hi
      have hlt : i < elems.length := by omega
      rw [List.getElem?_eq_getElem hlt, Option.bind_eq_some_iff] at h1
      obtain ⟨c, hcs, hy⟩ := h1
      obtain ⟨_, hcl, hcell⟩ := World.cells?_some hcs
      obtain ⟨x, hK, hB⟩ := hd hy (fun n hn => hzz n (List.mem_cons_of_mem _ (List.mem_append_left _ (mem_wAll (List.mem_map.2 ⟨elems[i], List.getElem_mem hlt, rfl⟩) hn))))
      refine ⟨x, c, d.K_len hK, hK, hB, fun k u hu => ?_⟩
      have hk : k < P.cellsOf e := by have := (List.getElem?_eq_some_iff.1 hu).1; rw [d.K_len hK] at this; omega
      have h2 := hcell k hk
      rw [hc] at h2
      rw [add_add] at h2
      rw [h2, hu]
    obtain ⟨xs, hxl, hxs⟩ := pick (Q := fun i x => ∃ c : List Value, c.length = d.sz ∧ d.K w x c ∧ B x ∧ ∀ k u, c[k]? = some u → w.cell? (a.add (i * d.sz + k)) = some u) len each
    refine ⟨xs, ⟨some a, cap, by rw [hxl], by omega, rfl, by omega, fun _ => ⟨a, rfl, fun j p hp => ?_⟩⟩, ?_, by omega, fun x hx => ?_⟩
    · obtain ⟨c, h1, h2, _, h3⟩ := hxs j p hp
      exact ⟨c, h1, h2, h3⟩
    · have := hzz _ List.mem_cons_self
      rw [hlen] at this
      rw [hxl]
      exact Nat.le_trans (Nat.mul_le_mul_right _ (Nat.le_add_right _ _)) this
    · obtain ⟨i, hi⟩ := List.getElem?_of_mem hx
      obtain ⟨_, _, _, hB, _⟩ := hxs i x hi
      exact hB
/-- cells in a row, read field by field -/
def OpenF (P : Program) {α : Type} (d : Kd α) (ts : List TypeId) (B : α → Prop) : Prop :=
  ∀ {H : Type} {enc : TypeId × Value → H} {w : World} {base : Nat} {spare : Nat → Bool} {held : Bool} {fuel : Nat} {cs : List Value} {ys : List (DataW H × List MemPlace)},
    cs.length = (ts.map P.cellsOf).sum → ys.length = ts.length → (∀ (i : Nat) (t : TypeId), ts[i]? = some t → DataW.trod enc P w base spare held fuel t ((cs.drop ((ts.take i).map P.cellsOf).sum).take (P.cellsOf t)) = ys[i]?) →
    (∀ n ∈ DataW.weightsEach P ts (ys.map (·.1)), n ≤ reachBytes) → ∃ x, d.K w x cs ∧ B x
theorem openF_one {P : Program} {α : Type} {d : Kd α} {t : TypeId} {B : α → Prop} (h : Opens P d t B) : OpenF P d [t] B := by
  intro H enc w base spare held fuel cs ys hl hn hy hz
  obtain ⟨y, rfl⟩ : ∃ y, ys = [y] := by
    match ys, hn with
    | [y], _ => exact ⟨y, rfl⟩
  have h0 := hy 0 t rfl
  simp only [List.map_cons, List.map_nil, List.sum_cons, List.sum_nil, Nat.add_zero] at hl
  rw [List.take_zero, List.map_nil, List.sum_nil, List.drop_zero, List.take_of_length_le (by omega)] at h0
  exact h h0 (fun n hn => hz n (by simpa [DataW.weightsEach] using hn))
theorem openF_cons {P : Program} {α β : Type} {d : Kd α} {d' : Kd β} {t : TypeId} {ts : List TypeId} {B : α → Prop} {B' : β → Prop} (h : Opens P d t B) (h' : OpenF P d' ts B') : OpenF P (Kd.pair d d') (t :: ts) (fun x => B x.1 ∧ B' x.2) := by
  intro H enc w base spare held fuel cs ys hl hn hy hz
  obtain ⟨y, r, rfl⟩ : ∃ y r, ys = y :: r := by
    match ys, hn with
    | y :: r, _ => exact ⟨y, r, rfl⟩
  simp only [List.map_cons, List.sum_cons] at hl
  have h0 := hy 0 t rfl
  rw [List.take_zero, List.map_nil, List.sum_nil, List.drop_zero] at h0
  have hzz : ∀ n ∈ y.1.weights P t ++ DataW.weightsEach P ts (r.map (·.1)), n ≤ reachBytes := fun n hn => hz n (by simpa [DataW.weightsEach] using hn)
  obtain ⟨x, hK, hB⟩ := h h0 (fun n hn => hzz n (List.mem_append_left _ hn))
  obtain ⟨x', hK', hB'⟩ := h' (cs := cs.drop (P.cellsOf t)) (ys := r) (by rw [List.length_drop]; omega) (by simpa using hn) (fun i u hu => by
    have := hy (i + 1) u hu
    simp only [List.take_succ_cons, List.map_cons, List.sum_cons, List.getElem?_cons_succ] at this
    rw [List.drop_drop]
    exact this) (fun n hn => hzz n (List.mem_append_right _ hn))
  exact ⟨(x, x'), ⟨cs.take (P.cellsOf t), cs.drop (P.cellsOf t), (List.take_append_drop _ _).symm, hK, hK'⟩, hB, hB'⟩
theorem opens_struct {P : Program} {α β : Type} {d : Kd α} {B : α → Prop} {t : TypeId} {fs : Array Field} (f : β → α) (g : α → β) (hfg : ∀ a, f (g a) = a) (ht : P.underlying t = some (.struct fs))
    (h : OpenF P d (fs.toList.map (·.type)) B) (ho : ∀ (i : Nat) (x : Field), fs[i]? = some x → x.offset = (((fs.toList.map (·.type)).take i).map P.cellsOf).sum) (hs : P.cellsOf t = ((fs.toList.map (·.type)).map P.cellsOf).sum) :
    Opens P (Kd.iso d f) t (fun b => B (f b)) := by
  intro H enc w base spare held fuel cs y hy hz
  obtain ⟨ys, n, _, rfl, hl, hn, hf⟩ := DataW.trod_struct ht hy
  obtain ⟨x, hK, hB⟩ := h (cs := cs) (ys := ys) (by rw [hl, hs]) (by rw [hn, List.length_map, Array.length_toList]) (fun i u hu => by
    rw [List.getElem?_map, Option.map_eq_some_iff] at hu
    obtain ⟨x, hx, rfl⟩ := hu
    have hx2 : fs[i]? = some x := by simpa using hx
    rw [← ho i x hx2]
    exact hf i x hx2) (fun n hn => hz n (by simp only [DataW.weights, ht]; exact hn))
  exact ⟨g x, by show d.K w (f (g x)) cs; rw [hfg]; exact hK, by show B (f (g x)); rw [hfg]; exact hB⟩
end Go.Proofs.Ytgcbipflmhbpcaa
set_option linter.unusedVariables false
set_option linter.unusedSimpArgs false
namespace Go.Proofs.Ytgcbipflmhbpcaa
open Go Go.RowKit Go.ChangeShapes Go.WideShapes Go.Proofs.Ytgcbipflmhbpcaa Go.Proofs.YtgcbipflmhbpcaaW.PrintWords
def offB (P : Program) (fs : Array Field) : Bool := (List.range fs.size).all fun i => match fs[i]? with
  | some x => decide (x.offset = (((fs.toList.map (·.type)).take i).map P.cellsOf).sum)
  | none => true
theorem off_ok {P : Program} {fs : Array Field} (h : offB P fs = true) : ∀ (i : Nat) (x : Field), fs[i]? = some x → x.offset = (((fs.toList.map (·.type)).take i).map P.cellsOf).sum := by
  intro i x hx
  have hi : i < fs.size := (Array.getElem?_eq_some_iff.1 hx).1
  have := List.all_eq_true.1 h i (List.mem_range.2 hi)
  rw [hx] at this
  exact of_decide_eq_true this
theorem bytes_le {n b : Nat} (hb : 1 ≤ b) (h : n * b ≤ reachBytes) : n ≤ 140737488351232 := by
  have : n ≤ n * b := Nat.le_mul_of_pos_right n hb
  unfold reachBytes at h
  omega
structure ActV where
  k : Int
  nm : ByteArray
  vl : ByteArray
  A : Option Addr
  c : Nat
  l : List ByteArray
  q : Int
def ActV.val (t : ActV) : Value := .agg #[.int .i64 t.k, .string t.nm, .string t.vl, .slice t.A t.l.length t.c, .int .i64 t.q]
def ActV.ok (w : World) (t : ActV) : Prop := Kd.C Kd.string w t.A t.l.length t.l ∧ t.l.length ≤ t.c ∧ t.l.length ≤ 140737488351232 ∧ (∀ s ∈ t.l, s.size ≤ reachBytes) ∧ t.nm.size ≤ reachBytes ∧ t.vl.size ≤ reachBytes ∧ (Lit.int .i64 t.k).wf = true ∧ (Lit.int .i64 t.q).wf = true
end Go.Proofs.Ytgcbipflmhbpcaa
set_option linter.unusedVariables false
set_option linter.unusedSimpArgs false
namespace Go.Proofs.Ytgcbipflmhbpcaa.PV
open Go Go.RowKit Go.ChangeShapes Go.WideShapes Go.Proofs.Ytgcbipflmhbpcaa Go.Proofs.YtgcbipflmhbpcaaW.PrintWords
theorem opens_var : Opens Try.prog k26 26 (fun e => e.f0.size ≤ reachBytes ∧ e.f1.size ≤ reachBytes) :=
  opens_struct (fun x : S26 => (x.f0, x.f1)) (fun p => ⟨p.1, p.2⟩) (fun _ => rfl) Try.underlying26
    (openF_cons (opens_string Try.underlying9) (openF_one (opens_string Try.underlying9))) (off_ok (by kernel_rfl)) (by kernel_rfl)
theorem open_vars {H : Type} {enc : TypeId × Value → H} {w : World} {base : Nat} {spare : Nat → Bool} {held : Bool} {fuel : Nat} {A : Option Addr} {len cap : Nat} {x : DataW H × List MemPlace}
    (h : DataW.trod enc Try.prog w base spare held fuel 22 [.slice A len cap] = some x) (hz : ∀ n ∈ x.1.weights Try.prog 22, n ≤ reachBytes) :
    ∃ l : List S26, l.length = len ∧ (Kd.C k26 w A l.length l ∧ l.length ≤ cap ∧ l.length ≤ 140737488351232 ∧ ∀ e ∈ l, e.f0.size ≤ 140737488351232 ∧ e.f1.size ≤ 140737488351232) := by
  obtain ⟨l, ⟨A', c', e, hc, hC⟩, hl, _, hx⟩ := opens_slice 26 Try.underlying22 opens_var (by kernel_rfl) h hz
  have hb : 1 ≤ Try.prog.bytesOf 26 := of_decide_eq_true (by kernel_rfl)
  simp only [List.cons.injEq, Value.slice.injEq, and_true] at e
  obtain ⟨rfl, rfl, rfl⟩ := e
  exact ⟨l, rfl, hC, hc, bytes_le hb hl, hx⟩
end Go.Proofs.Ytgcbipflmhbpcaa.PV
namespace Go.Proofs.Ytgcbipflmhbpcaa.PV
open Go Go.RowKit Go.Proofs.Ytgcbipflmhbpcaa Go.Proofs.YtgcbipflmhbpcaaW.PrintWords
theorem sets_row (A1 : Option Addr) (c1 : Nat) (l : List S26) (x y o : ByteArray) (w : World) (hl : Kd.C k26 w A1 l.length l ∧ l.length ≤ c1 ∧ l.length ≤ 140737488351232 ∧ ∀ e ∈ l, e.f0.size ≤ 140737488351232 ∧ e.f1.size ≤ 140737488351232) (hx : x.size ≤ 140737488351232) (hy : y.size ≤ 140737488351232) (ho : o.size ≤ 140737488351232) :
    Calls Try.prog 4 #[.slice A1 l.length c1, .string x, .string y, .string o] w fun e W' => e = .returned (.bool true) ∧ Below w.heap.size w W' :=
  sets_walk A1 c1 l x y o w hl.1 hl.2.1 (by have := hl.2.2.1; omega) hx hy ho
end Go.Proofs.Ytgcbipflmhbpcaa.PV
