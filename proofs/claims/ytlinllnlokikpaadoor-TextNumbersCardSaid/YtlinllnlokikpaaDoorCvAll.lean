import Derived.Test.YtlinllnlokikpaaDoorPrWalk
import Derived.Test.YtlinllnlokikpaaDoorPConx
/- text.printer's convert: one argument by one conversion. -/
set_option linter.unusedVariables false
set_option linter.unusedSimpArgs false
namespace Go.Proofs.YtlinllnlokikpaaDoor
open Go.RowKit Go.Proofs.YtlinllnlokikpaaDoorW.PrintWords Go.Proofs.YtlinllnlokikpaaDoorW.PrintLast Go.Proofs.YtlinllnlokikpaaDoorW.PrintMore

/-- the printer, and how far it has come -/
def PI (w W : World) (g : Nat) (args : List ByteArray) (st : PSt) : Prop :=
  ∃ ad v A c, PB W w.heap.size g ad v st.out (.slice A (args.drop st.u).length c) (.bool (decide (0 < st.u))) (.bool st.bad) ∧ ArgsAt w A c (args.drop st.u) ∧ Below w.heap.size w W
theorem PI.bel {w W : World} {g : Nat} {args : List ByteArray} {st : PSt} (h : PI w W g args st) : Below w.heap.size w W := by obtain ⟨_, _, _, _, _, _, h⟩ := h; exact h
theorem PI.bg {w W : World} {g : Nat} {args : List ByteArray} {st : PSt} (h : PI w W g args st) : w.heap.size ≤ g ∧ g < W.heap.size := by obtain ⟨_, _, _, _, h, _, _⟩ := h; exact ⟨h.bg, bk_lt h.head⟩
theorem PI.frm {w W W' : World} {g : Nat} {args : List ByteArray} {st : PSt} (h : PI w W g args st) (hf : Frm (fun _ => False) W W') : PI w W' g args st := by
  have hb := h.bg
  obtain ⟨ad, v, A, c, hp, ha, hbel⟩ := h
  exact ⟨ad, v, A, c, hp.frm (hf.mono (fun _ _ k => k.elim)) (hf.blk (fun k => k) hp.head) hp.had, ha, hbel.trans (hf.below hbel.size (fun _ _ k => k))⟩
theorem PI.below {w W W' : World} {g : Nat} {args : List ByteArray} {st : PSt} (h : PI w W g args st) (hb : Below W.heap.size W W') : PI w W' g args st := h.frm (Frm.of_below hb)
theorem PI.c4 {w W : World} {g : Nat} {args : List ByteArray} {st : PSt} (h : PI w W g args st) : W.cell? ⟨g, 4, none⟩ = some (.bool st.bad) := by obtain ⟨_, _, _, _, h, _, _⟩ := h; exact cell_blk (i := 4) h.head rfl
theorem PI.z4 {w W : World} {g : Nat} {args : List ByteArray} {st : PSt} (h : PI w W g args st) : W.frozen? ⟨g, 4, none⟩ = false := by obtain ⟨_, _, _, _, h, _, _⟩ := h; exact frozen_blk 4 h.head
theorem PI.bad {w W : World} {g : Nat} {args : List ByteArray} {st : PSt} (h : PI w W g args st) (b : Bool) : PI w (W.setCell ⟨g, 4, none⟩ (.bool b)) g args { st with bad := b } := by
  obtain ⟨ad, v, A, c, hp, ha, hbel⟩ := h
  exact ⟨ad, v, A, c, hp.frm ((Frm.refl (fun i => i = g) W).setCell ⟨g, 4, none⟩ _ (fun _ => rfl)) (bk_set 4 (.bool b) hp.head) hp.had, ha, hbel.setCell (p := ⟨g, 4, none⟩) hp.bg _⟩
theorem PI.byte {w W : World} {g : Nat} {args : List ByteArray} {st : PSt} (c : UInt8) (h : PI w W g args st) (hl : st.out.length ≤ 100000000000) :
    Calls Tryd.prog 26 #[.pointer (some ⟨g, 0, none⟩), .int .u8 (c.toNat : Int)] W fun e W' => e = .returned .nilIface ∧ PI w W' g args { st with out := st.out ++ [c] } := by
  obtain ⟨ad, v, A, cp, hp, ha, hbel⟩ := h
  refine (pb_byte c hp hl hbel.size).mono ?_
  rintro e W' ⟨rfl, ⟨v', hv⟩, hb⟩
  exact ⟨rfl, _, v', A, cp, hv, ha, hbel.trans hb⟩
theorem PI.str {w W : World} {g : Nat} {args : List ByteArray} {st : PSt} (s : ByteArray) (h : PI w W g args st) (hl : st.out.length ≤ 100000000000) (hs : s.size ≤ 100000000000) :
    Calls Tryd.prog 24 #[.pointer (some ⟨g, 0, none⟩), .string s] W fun e W' => (∃ r, e = .returned r) ∧ PI w W' g args { st with out := st.out ++ s.data.toList } := by
  obtain ⟨ad, v, A, cp, hp, ha, hbel⟩ := h
  refine (pb_string s hp hl hs hbel.size).mono ?_
  rintro e W' ⟨he, ⟨v', hv⟩, hb⟩
  exact ⟨he, _, v', A, cp, hv, ha, hbel.trans hb⟩
theorem PI.next {w W : World} {g : Nat} {args : List ByteArray} {st : PSt} (h : PI w W g args st) :
    Calls Tryd.prog 41 #[.pointer (some ⟨g, 0, none⟩)] W fun e W' => e = .returned (.string (argAt args st.u)) ∧ PI w W' g args { st with u := st.u + 1 } ∧ Frm (fun i => i = g) W W' := by
  obtain ⟨ad, v, A, cp, hp, ha, hbel⟩ := h
  refine (next_any hp hbel ha).mono ?_
  rintro e W' ⟨rfl, hb, hf, A', c', hp', ha'⟩
  rw [List.tail_drop] at hp' ha'
  have hd : decide (0 < st.u + 1) = true := by simp
  exact ⟨rfl, ⟨ad, v, A', c', by show PB W' w.heap.size g ad v st.out _ (.bool (decide (0 < st.u + 1))) (.bool st.bad); rw [hd]; exact hp', ha', hb⟩, hf⟩
/-- with the conversion's own block -/
structure CI (w W : World) (g k : Nat) (args : List ByteArray) (st : PSt) (sp : Array Value) : Prop where
  pi : PI w W g args st
  sp : W.heap[k]? = some (.cells sp 62 (0, 0))
  kg : k ≠ g
theorem CI.frm {w W W' : World} {g k : Nat} {args : List ByteArray} {st : PSt} {sp : Array Value} (h : CI w W g k args st sp) (hf : Frm (fun _ => False) W W') : CI w W' g k args st sp := ⟨h.pi.frm hf, hf.blk (fun k => k) h.sp, h.kg⟩
theorem CI.below {w W W' : World} {g k : Nat} {args : List ByteArray} {st : PSt} {sp : Array Value} (h : CI w W g k args st sp) (hb : Below W.heap.size W W') : CI w W' g k args st sp := h.frm (Frm.of_below hb)
theorem CI.drew {w W : World} {g k : Nat} {args : List ByteArray} {st : PSt} {sp : Array Value} (h : CI w W g k args st sp) : CI w W.drew g k args st sp := h.frm (Frm.refl _ W).drew
theorem CI.drawn {w W W' : World} {g k : Nat} {args : List ByteArray} {st : PSt} {sp : Array Value} (h : CI w W g k args st sp) (hd : Drawn0 W W') : CI w W' g k args st sp := by
  obtain ⟨n, rfl⟩ := hd
  exact h.frm ((Frm.refl _ W).drewN n)
theorem CI.bad {w W : World} {g k : Nat} {args : List ByteArray} {st : PSt} {sp : Array Value} (h : CI w W g k args st sp) (b : Bool) : CI w (W.setCell ⟨g, 4, none⟩ (.bool b)) g k args { st with bad := b } sp :=
  ⟨h.pi.bad b, (Below.heap_setCell W ⟨g, 4, none⟩ _ k h.kg).trans h.sp, h.kg⟩
theorem CI.next {w W : World} {g k : Nat} {args : List ByteArray} {st : PSt} {sp : Array Value} (h : CI w W g k args st sp) :
    Calls Tryd.prog 41 #[.pointer (some ⟨g, 0, none⟩)] W fun e W' => e = .returned (.string (argAt args st.u)) ∧ CI w W' g k args { st with u := st.u + 1 } sp :=
  h.pi.next.mono fun e W' ⟨he, hp, hf⟩ => ⟨he, hp, hf.blk (fun e => h.kg e) h.sp, h.kg⟩
theorem CI.new {w W : World} {g : Nat} {args : List ByteArray} {st : PSt} (h : PI w W g args st) (sp : Array Value) : CI w (W.alloc (.cells sp 62)) g W.heap.size args st sp :=
  ⟨h.frm ((Frm.refl _ W).alloc _), bk_new W _, fun e => by have := h.bg; omega⟩

theorem asB_data' (l : List UInt8) : (asB l).data.toList = l := by simp [asB]
theorem repeat_sp (n : Nat) : Lib.repeatL [32] n = List.replicate n 32 := by
  induction n with
  | zero => rfl
  | succ n ih => simp [Lib.repeatL, ih, List.replicate_succ]
theorem asB_app (a b : List UInt8) : asB a ++ asB b = asB (a ++ b) := by
  apply ByteArray.ext
  simp [asB, ByteArray.data_append]
theorem pad_f (left : Bool) (wd : Nat) (c : Int) (s : ByteArray) (hw : wd ≤ 99) (hs : s.size ≤ 1000000) : PCon.text_spec_pad.f left wd c s = some (asB (padM left wd s.data.toList)) := by
  have e : mx 0 (wrap64 ((wd : Int) - (s.size : Int))) = ((wd - s.size : Nat) : Int) := by unfold mx wrap64; split <;> omega
  have hl : s.data.toList.length = s.size := by rw [Array.length_toList]; rfl
  have hsz : (asB (List.replicate (wd - s.size) 32)).size = wd - s.size := by
    show (List.replicate (wd - s.size) (32 : UInt8)).toArray.size = _
    rw [List.size_toArray, List.length_replicate]
  have hsp : (⟨#[32]⟩ : ByteArray).data.toList = [32] := rfl
  unfold PCon.text_spec_pad.f strings_Repeat.f
  rw [e, if_pos ⟨by omega, by omega, by decide⟩, Option.bind_some, Int.toNat_natCast, hsp, repeat_sp, hsz]
  cases left
  · rw [if_neg (by simp), if_pos (by omega), padM, if_neg (by simp), hl, ← asB_app, asB_toList]
  · rw [if_pos rfl, if_pos (by omega), padM, if_pos rfl, hl, ← asB_app, asB_toList]
theorem pad_any (left : Bool) (wd : Nat) (c : Int) (s : ByteArray) (W : World) (hw : wd ≤ 99) (hs : s.size ≤ 1000000) :
    Calls Tryd.prog 45 #[.agg #[.bool left, .int .i64 wd, .int .u8 c], .string s] W fun e W' => e = .returned (.string (asB (padM left wd s.data.toList))) ∧ Below W.heap.size W W' :=
  PCon.text_spec_pad.calls left wd c s _ W (pad_f left wd c s hw hs)
theorem pad_size (left : Bool) (wd : Nat) (s : ByteArray) (hw : wd ≤ 99) (hs : s.size ≤ 1000000) : (asB (padM left wd s.data.toList)).size ≤ 100000000000 := by
  have hl : s.data.toList.length = s.size := by rw [Array.length_toList]; rfl
  show (padM left wd s.data.toList).toArray.size ≤ _
  rw [List.size_toArray]
  unfold padM; split <;> simp <;> omega
theorem padM_len (left : Bool) (wd : Nat) (l : List UInt8) (hw : wd ≤ 99) : (padM left wd l).length ≤ l.length + 99 := by
  unfold padM; split <;> simp <;> omega

set_option maxHeartbeats 2000000 in
set_option maxRecDepth 100000 in
theorem convert_pct {w W : World} {g : Nat} {args : List ByteArray} {st : PSt} (left : Bool) (wd : Nat) (h : PI w W g args st) (hl : st.out.length ≤ 100000000000) :
    Calls Tryd.prog 28 #[.pointer (some ⟨g, 0, none⟩), .agg #[.bool left, .int .i64 (wd : Int), .int .u8 37]] W fun e W' => e = .returned (.tuple #[]) ∧ PI w W' g args { st with out := st.out ++ [37] } := by
  have hC := CI.new h #[.bool left, .int .i64 (wd : Int), .int .u8 37]
  have HC := Lib.hid hC
  have k2 := cell_blk (i := 2) hC.sp rfl
  clear h hC
  go_enter Tryd.func28, Tryd.ntmps28
  go_wp2_with (go_at_call 26; refine (HC.out.pi.byte 37 hl).mono ?_; rintro e w' ⟨rfl, hp⟩; have HP := Lib.hid hp; clear hp)
  refine bodyPost_ret (results_none rfl _ _ _) rfl ⟨rfl, HP.out⟩
set_option maxHeartbeats 4000000 in
set_option maxRecDepth 100000 in
theorem convert_s {w W : World} {g : Nat} {args : List ByteArray} {st : PSt} (left : Bool) (wd : Nat) (h : PI w W g args st) (hl : st.out.length ≤ 100000000000) (hw : wd ≤ 99) (hs : (argAt args st.u).size ≤ 1000000) :
    Calls Tryd.prog 28 #[.pointer (some ⟨g, 0, none⟩), .agg #[.bool left, .int .i64 (wd : Int), .int .u8 115]] W fun e W' => e = .returned (.tuple #[]) ∧ PI w W' g args { st with out := st.out ++ padM left wd (argAt args st.u).data.toList, u := st.u + 1 } := by
  have hC := CI.new h #[.bool left, .int .i64 (wd : Int), .int .u8 115]
  have HC := Lib.hid hC
  have k2 := cell_blk (i := 2) hC.sp rfl
  have HL := Lib.hid hl
  have HW := Lib.hid hw
  have HS := Lib.hid hs
  clear h hC hl hw hs
  go_enter Tryd.func28, Tryd.ntmps28
  go_wp2_with (go_at_call 41; refine HC.out.next.mono ?_; rintro e w' ⟨rfl, hN⟩; have HN := Lib.hid hN; have m0 := cell_blk (i := 0) hN.sp rfl; have m1 := cell_blk (i := 1) hN.sp rfl; have m2 := cell_blk (i := 2) hN.sp rfl; clear hN)
  refine start_ (n := 7) (S := fun w' => w'.cell? ⟨W.heap.size, 0, none⟩ = some (.bool left) ∧ w'.cell? ⟨W.heap.size, 1, none⟩ = some (.int .i64 (wd : Int)) ∧ w'.cell? ⟨W.heap.size, 2, none⟩ = some (.int .u8 115)) (ds := [5, 6]) #[false, false, false, false, false, false, false] (by kernel_rfl) rfl rfl ⟨cell_blk (i := 0) HN.out.drew.sp rfl, cell_blk (i := 1) HN.out.drew.sp rfl, cell_blk (i := 2) HN.out.drew.sp rfl⟩ (fun hHeld => ?_)
  have HD := Lib.hid HN.out.drew
  clear HN
  generalize World.drew _ = wd5 at HD hHeld ⊢
  refine pure_ (i := 0) (N := some 61) (v := ?_) (a' := ?_) #[true, false, false, false, false, false, false] rfl rfl (by kernel_rfl) (fun _ _ _ h => h) (Or.inl ⟨by rfl, ?_⟩) ?_ ?_
  rotate_left
  · intro w'
    go_simp
    with_reducible rfl
  rotate_left
  · simp only [Act.put, List.setIfInBounds_toArray, List.set_cons_zero, List.set_cons_succ, i64_w, i32_w]
    rfl
  refine pure_ (i := 1) (N := some 62) (v := ?_) (a' := ?_) #[true, true, false, false, false, false, false] rfl rfl (by kernel_rfl) (fun _ _ _ h => h) (Or.inl ⟨by rfl, ?_⟩) ?_ ?_
  rotate_left
  · intro w'
    go_simp
    with_reducible rfl
  rotate_left
  · simp only [Act.put, List.setIfInBounds_toArray, List.set_cons_zero, List.set_cons_succ, i64_w, i32_w]
    rfl
  refine pure_ (i := 2) (N := some 63) (v := ?_) (a' := ?_) #[true, true, true, false, false, false, false] rfl rfl (by kernel_rfl) (fun _ _ _ h => h) (Or.inl ⟨by rfl, ?_⟩) ?_ ?_
  rotate_left
  · intro w'
    go_simp
    with_reducible rfl
  rotate_left
  · simp only [Act.put, List.setIfInBounds_toArray, List.set_cons_zero, List.set_cons_succ, i64_w, i32_w]
    rfl
  refine pure_ (i := 4) (N := some 65) (v := ?_) (a' := ?_) #[true, true, true, false, true, false, false] rfl rfl (by kernel_rfl) (fun _ _ _ h => h) (Or.inl ⟨by rfl, ?_⟩) ?_ ?_
  rotate_left
  · intro w'
    go_simp
    with_reducible rfl
  rotate_left
  · simp only [Act.put, List.setIfInBounds_toArray, List.set_cons_zero, List.set_cons_succ, i64_w, i32_w]
    rfl
  refine take_ (i := 3) (N := some 64) (v := ?_) (a' := ?_) #[true, true, true, true, true, false, false] rfl rfl (by kernel_rfl) (fun _ _ _ h => h) (Or.inl ⟨by rfl, ?_⟩) hHeld ?_ ?_
  rotate_left
  · rintro w' ⟨s0, s1, s2⟩
    go_simp
    with_reducible rfl
  rotate_left
  · simp only [Act.put, List.setIfInBounds_toArray, List.set_cons_zero, List.set_cons_succ, i64_w, i32_w]
    rfl
  refine last_ (i := 5) (N := some 66) #[true, true, true, true, true, true, false] rfl rfl (by kernel_rfl) (by decide) (fun K hK => ?_)
  refine goes_ Tryd.func45 (by kernel_rfl) rfl #[.agg #[.bool left, .int .i64 (wd : Int), .int .u8 115], .string (argAt args st.u)] (by rfl) rfl rfl (by first | rfl | (simp [Act.eval]; done) | (simp [Act.eval, Act.put]; done)) ?_
  refine (pad_any left wd 115 (argAt args st.u) _ HW.out HS.out).mono ?_
  rintro e w6 ⟨rfl, hb6⟩
  have HE := Lib.hid (HD.out.below hb6).pi
  clear hb6
  refine ⟨_, rfl, ?_⟩
  refine hK.out _ _ ?_
  clear hK K
  refine last_ (i := 6) (N := some 67) #[true, true, true, true, true, true, true] rfl rfl (by kernel_rfl) (by decide) (fun K hK => ?_)
  refine goes_ Tryd.func24 (by kernel_rfl) rfl #[.pointer (some ⟨g, 0, none⟩), .string (asB (padM left wd (argAt args st.u).data.toList))] (by rfl) rfl rfl (by first | rfl | (simp [Act.eval]; done) | (simp [Act.eval, Act.put]; done)) ?_
  refine (HE.out.str _ HL.out (pad_size left wd (argAt args st.u) HW.out HS.out)).mono ?_
  rintro e w7 ⟨⟨r, rfl⟩, hp⟩
  have HP := Lib.hid hp
  clear hp
  refine ⟨_, rfl, ?_⟩
  refine hK.out _ _ ?_
  clear hK K
  refine done_ (by kernel_rfl) ?_
  try go_wp2
  go_end0
  refine ⟨rfl, ?_⟩
  have := HP.out
  simpa only [asB_data'] using this
theorem decD_range (l : List UInt8) : -9223372036854775808 ≤ (decD l).1 ∧ (decD l).1 ≤ 9223372036854775807 := by
  have hM := fun t => rdN_le 10 M63 t
  have hL := fun t => rdN_le 10 L63 t
  have eM : M63 = 9223372036854775808 := rfl
  have eL : L63 = 9223372036854775807 := rfl
  rcases l with _ | ⟨c, t⟩
  · rw [decD_nil rfl]; simp
  · by_cases h : c.toNat = 45
    · rw [decD_minus rfl h]; have := hM t; simp only; omega
    · by_cases h2 : c.toNat = 43
      · rw [decD_plus rfl h2]; have := hL t; simp only; omega
      · rw [decD_other rfl h h2]; have := hL (c :: t); simp only; omega
end Go.Proofs.YtlinllnlokikpaaDoor
/- text.printer's convert: numbers. -/
set_option linter.unusedVariables false
set_option linter.unusedSimpArgs false
namespace Go.Proofs.YtlinllnlokikpaaDoor
open Go.RowKit Go.Proofs.YtlinllnlokikpaaDoorW.PrintWords Go.Proofs.YtlinllnlokikpaaDoorW.PrintLast Go.Proofs.YtlinllnlokikpaaDoorW.PrintMore
theorem isEmpty_not {S : ByteArray} (h : S.size ≠ 0) : S.toList.isEmpty = false := by
  rw [ByteArray.toList_eq S, List.isEmpty_eq_false_iff]
  exact fun e => h (by show S.data.size = 0; rw [← Array.length_toList, e]; rfl)
set_option maxHeartbeats 1000000 in
set_option maxRecDepth 100000 in
theorem convert_120 {w W : World} {g : Nat} {args : List ByteArray} {out : List UInt8} {u : Nat} {bad : Bool} (left : Bool) (wd : Nat) (S : ByteArray) (n e : Int) (hS : Hid (argAt args u = S)) (h : PI w W g args ⟨out, u, bad⟩) (hl : out.length ≤ 100000000000) (hw : wd ≤ 99) (hdec : Hid (num_Decimal.f S = some (n, e)))
    (t : ByteArray) (HT : Hid (t.size ≤ 1000000)) (htx : ∀ W1 : World, Calls Tryd.prog 43 #[.int .u64 (IntKind.u64.wrap n), .int .i64 16] W1 fun e W2 => e = .returned (.string t) ∧ Below W1.heap.size W1 W2) (hz : S.size ≠ 0) (hb : Bool) (hbe : Hid (hb = (bad || decide (e ≠ 0)))) :
    Calls Tryd.prog 28 #[.pointer (some ⟨g, 0, none⟩), .agg #[.bool left, .int .i64 (wd : Int), .int .u8 120]] W fun e W' => e = .returned (.tuple #[]) ∧ PI w W' g args { out := out ++ padM left wd t.data.toList, u := u + 1, bad := hb } := by
  have hC := CI.new h #[.bool left, .int .i64 (wd : Int), .int .u8 120]
  have HC := Lib.hid hC
  have k2 := cell_blk (i := 2) hC.sp rfl
  have HL := Lib.hid hl
  have HW := Lib.hid hw
  have HTX := Lib.hid htx
  have hz1 : S.toList.isEmpty = false := isEmpty_not hz
  clear h hC hl hw htx
  cases bad
  · by_cases he : e = 0
    · subst he
      go_enter Tryd.func28, Tryd.ntmps28
      go_wp2_with (first | (go_at_call 41; refine HC.out.next.mono ?_; rintro e1 w' ⟨he1, hN⟩; have he2 : e1 = .returned (.string S) := (by rw [he1]; show Ending.returned (.string (argAt args u)) = _; rw [hS.out]); subst he2; clear he1; have HN := Lib.hid hN; have m2 := cell_blk (i := 2) hN.sp rfl; clear hN) | (go_at_call 42; refine (num_Decimal.calls _ _ _ _ hdec.out).mono ?_; rintro e1 w'' ⟨rfl, hD⟩; have HN2 := Lib.hid (HN.out.drawn hD); have m3 := cell_blk (i := 2) HN2.out.sp rfl; have m4 := HN2.out.pi.c4; have y4 := HN2.out.pi.z4; have mt := cell_blk (i := 2) (HN2.out.bad true).sp rfl; have mf := cell_blk (i := 2) (HN2.out.bad false).sp rfl; clear hD) | (go_at_call 43; refine (HTX.out _).mono ?_; rintro e1 w4 ⟨rfl, hb4⟩; have HB := Lib.hid (CI.below (CI.bad HN2.out _) hb4); clear hb4))
      refine start_ (n := 7) (S := fun w' => w'.cell? ⟨W.heap.size, 0, none⟩ = some (.bool left) ∧ w'.cell? ⟨W.heap.size, 1, none⟩ = some (.int .i64 (wd : Int)) ∧ w'.cell? ⟨W.heap.size, 2, none⟩ = some (.int .u8 120)) (ds := [5, 6]) #[false, false, false, false, false, false, false] (by kernel_rfl) rfl rfl ⟨cell_blk (i := 0) HB.out.drew.sp rfl, cell_blk (i := 1) HB.out.drew.sp rfl, cell_blk (i := 2) HB.out.drew.sp rfl⟩ (fun hHeld => ?_)
      have HD := Lib.hid HB.out.drew
      clear HB
      generalize World.drew _ = wd5 at HD hHeld ⊢
      refine pure_ (i := 0) (N := some 61) (v := ?_) (a' := ?_) #[true, false, false, false, false, false, false] rfl rfl (by kernel_rfl) (fun _ _ _ h => h) (Or.inl ⟨by rfl, ?_⟩) ?_ ?_
      rotate_left
      · intro w'
        go_simp
        with_reducible rfl
      rotate_left
      · simp only [Act.put, List.setIfInBounds_toArray, List.set_cons_zero, List.set_cons_succ, i64_w, i32_w]
        rfl
      refine pure_ (i := 1) (N := some 62) (v := ?_) (a' := ?_) #[true, true, false, false, false, false, false] rfl rfl (by kernel_rfl) (fun _ _ _ h => h) (Or.inl ⟨by rfl, ?_⟩) ?_ ?_
      rotate_left
      · intro w'
        go_simp
        with_reducible rfl
      rotate_left
      · simp only [Act.put, List.setIfInBounds_toArray, List.set_cons_zero, List.set_cons_succ, i64_w, i32_w]
        rfl
      refine pure_ (i := 2) (N := some 63) (v := ?_) (a' := ?_) #[true, true, true, false, false, false, false] rfl rfl (by kernel_rfl) (fun _ _ _ h => h) (Or.inl ⟨by rfl, ?_⟩) ?_ ?_
      rotate_left
      · intro w'
        go_simp
        with_reducible rfl
      rotate_left
      · simp only [Act.put, List.setIfInBounds_toArray, List.set_cons_zero, List.set_cons_succ, i64_w, i32_w]
        rfl
      refine pure_ (i := 4) (N := some 65) (v := ?_) (a' := ?_) #[true, true, true, false, true, false, false] rfl rfl (by kernel_rfl) (fun _ _ _ h => h) (Or.inl ⟨by rfl, ?_⟩) ?_ ?_
      rotate_left
      · intro w'
        go_simp
        with_reducible rfl
      rotate_left
      · simp only [Act.put, List.setIfInBounds_toArray, List.set_cons_zero, List.set_cons_succ, i64_w, i32_w]
        rfl
      refine take_ (i := 3) (N := some 64) (v := ?_) (a' := ?_) #[true, true, true, true, true, false, false] rfl rfl (by kernel_rfl) (fun _ _ _ h => h) (Or.inl ⟨by rfl, ?_⟩) hHeld ?_ ?_
      rotate_left
      · rintro w' ⟨s0, s1, s2⟩
        go_simp
        with_reducible rfl
      rotate_left
      · simp only [Act.put, List.setIfInBounds_toArray, List.set_cons_zero, List.set_cons_succ, i64_w, i32_w]
        rfl
      refine last_ (i := 5) (N := some 66) #[true, true, true, true, true, true, false] rfl rfl (by kernel_rfl) (by decide) (fun K hK => ?_)
      refine goes_ Tryd.func45 (by kernel_rfl) rfl #[.agg #[.bool left, .int .i64 (wd : Int), .int .u8 120], .string t] (by rfl) rfl rfl (by first | rfl | (simp [Act.eval]; done) | (simp [Act.eval, Act.put]; done)) ?_
      refine (pad_any left wd 120 t _ HW.out HT.out).mono ?_
      rintro e w6 ⟨rfl, hb6⟩
      have HE := Lib.hid (HD.out.below hb6).pi
      clear hb6
      refine ⟨_, rfl, ?_⟩
      refine hK.out _ _ ?_
      clear hK K
      refine last_ (i := 6) (N := some 67) #[true, true, true, true, true, true, true] rfl rfl (by kernel_rfl) (by decide) (fun K hK => ?_)
      refine goes_ Tryd.func24 (by kernel_rfl) rfl #[.pointer (some ⟨g, 0, none⟩), .string (asB (padM left wd t.data.toList))] (by rfl) rfl rfl (by first | rfl | (simp [Act.eval]; done) | (simp [Act.eval, Act.put]; done)) ?_
      refine (HE.out.str _ HL.out (pad_size left wd t HW.out HT.out)).mono ?_
      rintro e w7 ⟨⟨r, rfl⟩, hp⟩
      have HP := Lib.hid hp
      clear hp
      refine ⟨_, rfl, ?_⟩
      refine hK.out _ _ ?_
      clear hK K
      refine done_ (by kernel_rfl) ?_
      try go_wp2
      go_end0
      refine ⟨rfl, ?_⟩
      have e9 : hb = false := by rw [hbe.out]; first | (simp [*]; done) | (simp [bne, he]; done) | (cases h9 : decide (e = 0) <;> simp_all)
      rw [e9]
      have := HP.out
      simpa only [asB_data'] using this
    · skip
      go_enter Tryd.func28, Tryd.ntmps28
      go_wp2_with (first | (go_at_call 41; refine HC.out.next.mono ?_; rintro e1 w' ⟨he1, hN⟩; have he2 : e1 = .returned (.string S) := (by rw [he1]; show Ending.returned (.string (argAt args u)) = _; rw [hS.out]); subst he2; clear he1; have HN := Lib.hid hN; have m2 := cell_blk (i := 2) hN.sp rfl; clear hN) | (go_at_call 42; refine (num_Decimal.calls _ _ _ _ hdec.out).mono ?_; rintro e1 w'' ⟨rfl, hD⟩; have HN2 := Lib.hid (HN.out.drawn hD); have m3 := cell_blk (i := 2) HN2.out.sp rfl; have m4 := HN2.out.pi.c4; have y4 := HN2.out.pi.z4; have mt := cell_blk (i := 2) (HN2.out.bad true).sp rfl; have mf := cell_blk (i := 2) (HN2.out.bad false).sp rfl; clear hD) | (go_at_call 43; refine (HTX.out _).mono ?_; rintro e1 w4 ⟨rfl, hb4⟩; have HB := Lib.hid (CI.below (CI.bad HN2.out _) hb4); clear hb4))
      refine start_ (n := 7) (S := fun w' => w'.cell? ⟨W.heap.size, 0, none⟩ = some (.bool left) ∧ w'.cell? ⟨W.heap.size, 1, none⟩ = some (.int .i64 (wd : Int)) ∧ w'.cell? ⟨W.heap.size, 2, none⟩ = some (.int .u8 120)) (ds := [5, 6]) #[false, false, false, false, false, false, false] (by kernel_rfl) rfl rfl ⟨cell_blk (i := 0) HB.out.drew.sp rfl, cell_blk (i := 1) HB.out.drew.sp rfl, cell_blk (i := 2) HB.out.drew.sp rfl⟩ (fun hHeld => ?_)
      have HD := Lib.hid HB.out.drew
      clear HB
      generalize World.drew _ = wd5 at HD hHeld ⊢
      refine pure_ (i := 0) (N := some 61) (v := ?_) (a' := ?_) #[true, false, false, false, false, false, false] rfl rfl (by kernel_rfl) (fun _ _ _ h => h) (Or.inl ⟨by rfl, ?_⟩) ?_ ?_
      rotate_left
      · intro w'
        go_simp
        with_reducible rfl
      rotate_left
      · simp only [Act.put, List.setIfInBounds_toArray, List.set_cons_zero, List.set_cons_succ, i64_w, i32_w]
        rfl
      refine pure_ (i := 1) (N := some 62) (v := ?_) (a' := ?_) #[true, true, false, false, false, false, false] rfl rfl (by kernel_rfl) (fun _ _ _ h => h) (Or.inl ⟨by rfl, ?_⟩) ?_ ?_
      rotate_left
      · intro w'
        go_simp
        with_reducible rfl
      rotate_left
      · simp only [Act.put, List.setIfInBounds_toArray, List.set_cons_zero, List.set_cons_succ, i64_w, i32_w]
        rfl
      refine pure_ (i := 2) (N := some 63) (v := ?_) (a' := ?_) #[true, true, true, false, false, false, false] rfl rfl (by kernel_rfl) (fun _ _ _ h => h) (Or.inl ⟨by rfl, ?_⟩) ?_ ?_
      rotate_left
      · intro w'
        go_simp
        with_reducible rfl
      rotate_left
      · simp only [Act.put, List.setIfInBounds_toArray, List.set_cons_zero, List.set_cons_succ, i64_w, i32_w]
        rfl
      refine pure_ (i := 4) (N := some 65) (v := ?_) (a' := ?_) #[true, true, true, false, true, false, false] rfl rfl (by kernel_rfl) (fun _ _ _ h => h) (Or.inl ⟨by rfl, ?_⟩) ?_ ?_
      rotate_left
      · intro w'
        go_simp
        with_reducible rfl
      rotate_left
      · simp only [Act.put, List.setIfInBounds_toArray, List.set_cons_zero, List.set_cons_succ, i64_w, i32_w]
        rfl
      refine take_ (i := 3) (N := some 64) (v := ?_) (a' := ?_) #[true, true, true, true, true, false, false] rfl rfl (by kernel_rfl) (fun _ _ _ h => h) (Or.inl ⟨by rfl, ?_⟩) hHeld ?_ ?_
      rotate_left
      · rintro w' ⟨s0, s1, s2⟩
        go_simp
        with_reducible rfl
      rotate_left
      · simp only [Act.put, List.setIfInBounds_toArray, List.set_cons_zero, List.set_cons_succ, i64_w, i32_w]
        rfl
      refine last_ (i := 5) (N := some 66) #[true, true, true, true, true, true, false] rfl rfl (by kernel_rfl) (by decide) (fun K hK => ?_)
      refine goes_ Tryd.func45 (by kernel_rfl) rfl #[.agg #[.bool left, .int .i64 (wd : Int), .int .u8 120], .string t] (by rfl) rfl rfl (by first | rfl | (simp [Act.eval]; done) | (simp [Act.eval, Act.put]; done)) ?_
      refine (pad_any left wd 120 t _ HW.out HT.out).mono ?_
      rintro e w6 ⟨rfl, hb6⟩
      have HE := Lib.hid (HD.out.below hb6).pi
      clear hb6
      refine ⟨_, rfl, ?_⟩
      refine hK.out _ _ ?_
      clear hK K
      refine last_ (i := 6) (N := some 67) #[true, true, true, true, true, true, true] rfl rfl (by kernel_rfl) (by decide) (fun K hK => ?_)
      refine goes_ Tryd.func24 (by kernel_rfl) rfl #[.pointer (some ⟨g, 0, none⟩), .string (asB (padM left wd t.data.toList))] (by rfl) rfl rfl (by first | rfl | (simp [Act.eval]; done) | (simp [Act.eval, Act.put]; done)) ?_
      refine (HE.out.str _ HL.out (pad_size left wd t HW.out HT.out)).mono ?_
      rintro e w7 ⟨⟨r, rfl⟩, hp⟩
      have HP := Lib.hid hp
      clear hp
      refine ⟨_, rfl, ?_⟩
      refine hK.out _ _ ?_
      clear hK K
      refine done_ (by kernel_rfl) ?_
      try go_wp2
      go_end0
      refine ⟨rfl, ?_⟩
      have e9 : hb = (e != 0) := by rw [hbe.out]; first | (simp [*]; done) | (simp [bne, he]; done) | (cases h9 : decide (e = 0) <;> simp_all)
      rw [e9]
      have := HP.out
      simpa only [asB_data'] using this
  · skip
    go_enter Tryd.func28, Tryd.ntmps28
    go_wp2_with (first | (go_at_call 41; refine HC.out.next.mono ?_; rintro e1 w' ⟨he1, hN⟩; have he2 : e1 = .returned (.string S) := (by rw [he1]; show Ending.returned (.string (argAt args u)) = _; rw [hS.out]); subst he2; clear he1; have HN := Lib.hid hN; have m2 := cell_blk (i := 2) hN.sp rfl; clear hN) | (go_at_call 42; refine (num_Decimal.calls _ _ _ _ hdec.out).mono ?_; rintro e1 w'' ⟨rfl, hD⟩; have HN2 := Lib.hid (HN.out.drawn hD); have m3 := cell_blk (i := 2) HN2.out.sp rfl; have m4 := HN2.out.pi.c4; have y4 := HN2.out.pi.z4; have mt := cell_blk (i := 2) (HN2.out.bad true).sp rfl; have mf := cell_blk (i := 2) (HN2.out.bad false).sp rfl; clear hD) | (go_at_call 43; refine (HTX.out _).mono ?_; rintro e1 w4 ⟨rfl, hb4⟩; have HB := Lib.hid (CI.below (CI.bad HN2.out _) hb4); clear hb4))
    refine start_ (n := 7) (S := fun w' => w'.cell? ⟨W.heap.size, 0, none⟩ = some (.bool left) ∧ w'.cell? ⟨W.heap.size, 1, none⟩ = some (.int .i64 (wd : Int)) ∧ w'.cell? ⟨W.heap.size, 2, none⟩ = some (.int .u8 120)) (ds := [5, 6]) #[false, false, false, false, false, false, false] (by kernel_rfl) rfl rfl ⟨cell_blk (i := 0) HB.out.drew.sp rfl, cell_blk (i := 1) HB.out.drew.sp rfl, cell_blk (i := 2) HB.out.drew.sp rfl⟩ (fun hHeld => ?_)
    have HD := Lib.hid HB.out.drew
    clear HB
    generalize World.drew _ = wd5 at HD hHeld ⊢
    refine pure_ (i := 0) (N := some 61) (v := ?_) (a' := ?_) #[true, false, false, false, false, false, false] rfl rfl (by kernel_rfl) (fun _ _ _ h => h) (Or.inl ⟨by rfl, ?_⟩) ?_ ?_
    rotate_left
    · intro w'
      go_simp
      with_reducible rfl
    rotate_left
    · simp only [Act.put, List.setIfInBounds_toArray, List.set_cons_zero, List.set_cons_succ, i64_w, i32_w]
      rfl
    refine pure_ (i := 1) (N := some 62) (v := ?_) (a' := ?_) #[true, true, false, false, false, false, false] rfl rfl (by kernel_rfl) (fun _ _ _ h => h) (Or.inl ⟨by rfl, ?_⟩) ?_ ?_
    rotate_left
    · intro w'
      go_simp
      with_reducible rfl
    rotate_left
    · simp only [Act.put, List.setIfInBounds_toArray, List.set_cons_zero, List.set_cons_succ, i64_w, i32_w]
      rfl
    refine pure_ (i := 2) (N := some 63) (v := ?_) (a' := ?_) #[true, true, true, false, false, false, false] rfl rfl (by kernel_rfl) (fun _ _ _ h => h) (Or.inl ⟨by rfl, ?_⟩) ?_ ?_
    rotate_left
    · intro w'
      go_simp
      with_reducible rfl
    rotate_left
    · simp only [Act.put, List.setIfInBounds_toArray, List.set_cons_zero, List.set_cons_succ, i64_w, i32_w]
      rfl
    refine pure_ (i := 4) (N := some 65) (v := ?_) (a' := ?_) #[true, true, true, false, true, false, false] rfl rfl (by kernel_rfl) (fun _ _ _ h => h) (Or.inl ⟨by rfl, ?_⟩) ?_ ?_
    rotate_left
    · intro w'
      go_simp
      with_reducible rfl
    rotate_left
    · simp only [Act.put, List.setIfInBounds_toArray, List.set_cons_zero, List.set_cons_succ, i64_w, i32_w]
      rfl
    refine take_ (i := 3) (N := some 64) (v := ?_) (a' := ?_) #[true, true, true, true, true, false, false] rfl rfl (by kernel_rfl) (fun _ _ _ h => h) (Or.inl ⟨by rfl, ?_⟩) hHeld ?_ ?_
    rotate_left
    · rintro w' ⟨s0, s1, s2⟩
      go_simp
      with_reducible rfl
    rotate_left
    · simp only [Act.put, List.setIfInBounds_toArray, List.set_cons_zero, List.set_cons_succ, i64_w, i32_w]
      rfl
    refine last_ (i := 5) (N := some 66) #[true, true, true, true, true, true, false] rfl rfl (by kernel_rfl) (by decide) (fun K hK => ?_)
    refine goes_ Tryd.func45 (by kernel_rfl) rfl #[.agg #[.bool left, .int .i64 (wd : Int), .int .u8 120], .string t] (by rfl) rfl rfl (by first | rfl | (simp [Act.eval]; done) | (simp [Act.eval, Act.put]; done)) ?_
    refine (pad_any left wd 120 t _ HW.out HT.out).mono ?_
    rintro e w6 ⟨rfl, hb6⟩
    have HE := Lib.hid (HD.out.below hb6).pi
    clear hb6
    refine ⟨_, rfl, ?_⟩
    refine hK.out _ _ ?_
    clear hK K
    refine last_ (i := 6) (N := some 67) #[true, true, true, true, true, true, true] rfl rfl (by kernel_rfl) (by decide) (fun K hK => ?_)
    refine goes_ Tryd.func24 (by kernel_rfl) rfl #[.pointer (some ⟨g, 0, none⟩), .string (asB (padM left wd t.data.toList))] (by rfl) rfl rfl (by first | rfl | (simp [Act.eval]; done) | (simp [Act.eval, Act.put]; done)) ?_
    refine (HE.out.str _ HL.out (pad_size left wd t HW.out HT.out)).mono ?_
    rintro e w7 ⟨⟨r, rfl⟩, hp⟩
    have HP := Lib.hid hp
    clear hp
    refine ⟨_, rfl, ?_⟩
    refine hK.out _ _ ?_
    clear hK K
    refine done_ (by kernel_rfl) ?_
    try go_wp2
    go_end0
    refine ⟨rfl, ?_⟩
    have e9 : hb = true := by rw [hbe.out]; first | (simp [*]; done) | (simp [bne, he]; done) | (cases h9 : decide (e = 0) <;> simp_all)
    rw [e9]
    have := HP.out
    simpa only [asB_data'] using this
set_option maxHeartbeats 1000000 in
set_option maxRecDepth 100000 in
theorem convert_111 {w W : World} {g : Nat} {args : List ByteArray} {out : List UInt8} {u : Nat} {bad : Bool} (left : Bool) (wd : Nat) (S : ByteArray) (n e : Int) (hS : Hid (argAt args u = S)) (h : PI w W g args ⟨out, u, bad⟩) (hl : out.length ≤ 100000000000) (hw : wd ≤ 99) (hdec : Hid (num_Decimal.f S = some (n, e)))
    (t : ByteArray) (HT : Hid (t.size ≤ 1000000)) (htx : ∀ W1 : World, Calls Tryd.prog 43 #[.int .u64 (IntKind.u64.wrap n), .int .i64 8] W1 fun e W2 => e = .returned (.string t) ∧ Below W1.heap.size W1 W2) (hz : S.size ≠ 0) (hb : Bool) (hbe : Hid (hb = (bad || decide (e ≠ 0)))) :
    Calls Tryd.prog 28 #[.pointer (some ⟨g, 0, none⟩), .agg #[.bool left, .int .i64 (wd : Int), .int .u8 111]] W fun e W' => e = .returned (.tuple #[]) ∧ PI w W' g args { out := out ++ padM left wd t.data.toList, u := u + 1, bad := hb } := by
  have hC := CI.new h #[.bool left, .int .i64 (wd : Int), .int .u8 111]
  have HC := Lib.hid hC
  have k2 := cell_blk (i := 2) hC.sp rfl
  have HL := Lib.hid hl
  have HW := Lib.hid hw
  have HTX := Lib.hid htx
  have hz1 : S.toList.isEmpty = false := isEmpty_not hz
  clear h hC hl hw htx
  cases bad
  · by_cases he : e = 0
    · subst he
      go_enter Tryd.func28, Tryd.ntmps28
      go_wp2_with (first | (go_at_call 41; refine HC.out.next.mono ?_; rintro e1 w' ⟨he1, hN⟩; have he2 : e1 = .returned (.string S) := (by rw [he1]; show Ending.returned (.string (argAt args u)) = _; rw [hS.out]); subst he2; clear he1; have HN := Lib.hid hN; have m2 := cell_blk (i := 2) hN.sp rfl; clear hN) | (go_at_call 42; refine (num_Decimal.calls _ _ _ _ hdec.out).mono ?_; rintro e1 w'' ⟨rfl, hD⟩; have HN2 := Lib.hid (HN.out.drawn hD); have m3 := cell_blk (i := 2) HN2.out.sp rfl; have m4 := HN2.out.pi.c4; have y4 := HN2.out.pi.z4; have mt := cell_blk (i := 2) (HN2.out.bad true).sp rfl; have mf := cell_blk (i := 2) (HN2.out.bad false).sp rfl; clear hD) | (go_at_call 43; refine (HTX.out _).mono ?_; rintro e1 w4 ⟨rfl, hb4⟩; have HB := Lib.hid (CI.below (CI.bad HN2.out _) hb4); clear hb4))
      refine start_ (n := 7) (S := fun w' => w'.cell? ⟨W.heap.size, 0, none⟩ = some (.bool left) ∧ w'.cell? ⟨W.heap.size, 1, none⟩ = some (.int .i64 (wd : Int)) ∧ w'.cell? ⟨W.heap.size, 2, none⟩ = some (.int .u8 111)) (ds := [5, 6]) #[false, false, false, false, false, false, false] (by kernel_rfl) rfl rfl ⟨cell_blk (i := 0) HB.out.drew.sp rfl, cell_blk (i := 1) HB.out.drew.sp rfl, cell_blk (i := 2) HB.out.drew.sp rfl⟩ (fun hHeld => ?_)
      have HD := Lib.hid HB.out.drew
      clear HB
      generalize World.drew _ = wd5 at HD hHeld ⊢
      refine pure_ (i := 0) (N := some 61) (v := ?_) (a' := ?_) #[true, false, false, false, false, false, false] rfl rfl (by kernel_rfl) (fun _ _ _ h => h) (Or.inl ⟨by rfl, ?_⟩) ?_ ?_
      rotate_left
      · intro w'
        go_simp
        with_reducible rfl
      rotate_left
      · simp only [Act.put, List.setIfInBounds_toArray, List.set_cons_zero, List.set_cons_succ, i64_w, i32_w]
        rfl
      refine pure_ (i := 1) (N := some 62) (v := ?_) (a' := ?_) #[true, true, false, false, false, false, false] rfl rfl (by kernel_rfl) (fun _ _ _ h => h) (Or.inl ⟨by rfl, ?_⟩) ?_ ?_
      rotate_left
      · intro w'
        go_simp
        with_reducible rfl
      rotate_left
      · simp only [Act.put, List.setIfInBounds_toArray, List.set_cons_zero, List.set_cons_succ, i64_w, i32_w]
        rfl
      refine pure_ (i := 2) (N := some 63) (v := ?_) (a' := ?_) #[true, true, true, false, false, false, false] rfl rfl (by kernel_rfl) (fun _ _ _ h => h) (Or.inl ⟨by rfl, ?_⟩) ?_ ?_
      rotate_left
      · intro w'
        go_simp
        with_reducible rfl
      rotate_left
      · simp only [Act.put, List.setIfInBounds_toArray, List.set_cons_zero, List.set_cons_succ, i64_w, i32_w]
        rfl
      refine pure_ (i := 4) (N := some 65) (v := ?_) (a' := ?_) #[true, true, true, false, true, false, false] rfl rfl (by kernel_rfl) (fun _ _ _ h => h) (Or.inl ⟨by rfl, ?_⟩) ?_ ?_
      rotate_left
      · intro w'
        go_simp
        with_reducible rfl
      rotate_left
      · simp only [Act.put, List.setIfInBounds_toArray, List.set_cons_zero, List.set_cons_succ, i64_w, i32_w]
        rfl
      refine take_ (i := 3) (N := some 64) (v := ?_) (a' := ?_) #[true, true, true, true, true, false, false] rfl rfl (by kernel_rfl) (fun _ _ _ h => h) (Or.inl ⟨by rfl, ?_⟩) hHeld ?_ ?_
      rotate_left
      · rintro w' ⟨s0, s1, s2⟩
        go_simp
        with_reducible rfl
      rotate_left
      · simp only [Act.put, List.setIfInBounds_toArray, List.set_cons_zero, List.set_cons_succ, i64_w, i32_w]
        rfl
      refine last_ (i := 5) (N := some 66) #[true, true, true, true, true, true, false] rfl rfl (by kernel_rfl) (by decide) (fun K hK => ?_)
      refine goes_ Tryd.func45 (by kernel_rfl) rfl #[.agg #[.bool left, .int .i64 (wd : Int), .int .u8 111], .string t] (by rfl) rfl rfl (by first | rfl | (simp [Act.eval]; done) | (simp [Act.eval, Act.put]; done)) ?_
      refine (pad_any left wd 111 t _ HW.out HT.out).mono ?_
      rintro e w6 ⟨rfl, hb6⟩
      have HE := Lib.hid (HD.out.below hb6).pi
      clear hb6
      refine ⟨_, rfl, ?_⟩
      refine hK.out _ _ ?_
      clear hK K
      refine last_ (i := 6) (N := some 67) #[true, true, true, true, true, true, true] rfl rfl (by kernel_rfl) (by decide) (fun K hK => ?_)
      refine goes_ Tryd.func24 (by kernel_rfl) rfl #[.pointer (some ⟨g, 0, none⟩), .string (asB (padM left wd t.data.toList))] (by rfl) rfl rfl (by first | rfl | (simp [Act.eval]; done) | (simp [Act.eval, Act.put]; done)) ?_
      refine (HE.out.str _ HL.out (pad_size left wd t HW.out HT.out)).mono ?_
      rintro e w7 ⟨⟨r, rfl⟩, hp⟩
      have HP := Lib.hid hp
      clear hp
      refine ⟨_, rfl, ?_⟩
      refine hK.out _ _ ?_
      clear hK K
      refine done_ (by kernel_rfl) ?_
      try go_wp2
      go_end0
      refine ⟨rfl, ?_⟩
      have e9 : hb = false := by rw [hbe.out]; first | (simp [*]; done) | (simp [bne, he]; done) | (cases h9 : decide (e = 0) <;> simp_all)
      rw [e9]
      have := HP.out
      simpa only [asB_data'] using this
    · skip
      go_enter Tryd.func28, Tryd.ntmps28
      go_wp2_with (first | (go_at_call 41; refine HC.out.next.mono ?_; rintro e1 w' ⟨he1, hN⟩; have he2 : e1 = .returned (.string S) := (by rw [he1]; show Ending.returned (.string (argAt args u)) = _; rw [hS.out]); subst he2; clear he1; have HN := Lib.hid hN; have m2 := cell_blk (i := 2) hN.sp rfl; clear hN) | (go_at_call 42; refine (num_Decimal.calls _ _ _ _ hdec.out).mono ?_; rintro e1 w'' ⟨rfl, hD⟩; have HN2 := Lib.hid (HN.out.drawn hD); have m3 := cell_blk (i := 2) HN2.out.sp rfl; have m4 := HN2.out.pi.c4; have y4 := HN2.out.pi.z4; have mt := cell_blk (i := 2) (HN2.out.bad true).sp rfl; have mf := cell_blk (i := 2) (HN2.out.bad false).sp rfl; clear hD) | (go_at_call 43; refine (HTX.out _).mono ?_; rintro e1 w4 ⟨rfl, hb4⟩; have HB := Lib.hid (CI.below (CI.bad HN2.out _) hb4); clear hb4))
      refine start_ (n := 7) (S := fun w' => w'.cell? ⟨W.heap.size, 0, none⟩ = some (.bool left) ∧ w'.cell? ⟨W.heap.size, 1, none⟩ = some (.int .i64 (wd : Int)) ∧ w'.cell? ⟨W.heap.size, 2, none⟩ = some (.int .u8 111)) (ds := [5, 6]) #[false, false, false, false, false, false, false] (by kernel_rfl) rfl rfl ⟨cell_blk (i := 0) HB.out.drew.sp rfl, cell_blk (i := 1) HB.out.drew.sp rfl, cell_blk (i := 2) HB.out.drew.sp rfl⟩ (fun hHeld => ?_)
      have HD := Lib.hid HB.out.drew
      clear HB
      generalize World.drew _ = wd5 at HD hHeld ⊢
      refine pure_ (i := 0) (N := some 61) (v := ?_) (a' := ?_) #[true, false, false, false, false, false, false] rfl rfl (by kernel_rfl) (fun _ _ _ h => h) (Or.inl ⟨by rfl, ?_⟩) ?_ ?_
      rotate_left
      · intro w'
        go_simp
        with_reducible rfl
      rotate_left
      · simp only [Act.put, List.setIfInBounds_toArray, List.set_cons_zero, List.set_cons_succ, i64_w, i32_w]
        rfl
      refine pure_ (i := 1) (N := some 62) (v := ?_) (a' := ?_) #[true, true, false, false, false, false, false] rfl rfl (by kernel_rfl) (fun _ _ _ h => h) (Or.inl ⟨by rfl, ?_⟩) ?_ ?_
      rotate_left
      · intro w'
        go_simp
        with_reducible rfl
      rotate_left
      · simp only [Act.put, List.setIfInBounds_toArray, List.set_cons_zero, List.set_cons_succ, i64_w, i32_w]
        rfl
      refine pure_ (i := 2) (N := some 63) (v := ?_) (a' := ?_) #[true, true, true, false, false, false, false] rfl rfl (by kernel_rfl) (fun _ _ _ h => h) (Or.inl ⟨by rfl, ?_⟩) ?_ ?_
      rotate_left
      · intro w'
        go_simp
        with_reducible rfl
      rotate_left
      · simp only [Act.put, List.setIfInBounds_toArray, List.set_cons_zero, List.set_cons_succ, i64_w, i32_w]
        rfl
      refine pure_ (i := 4) (N := some 65) (v := ?_) (a' := ?_) #[true, true, true, false, true, false, false] rfl rfl (by kernel_rfl) (fun _ _ _ h => h) (Or.inl ⟨by rfl, ?_⟩) ?_ ?_
      rotate_left
      · intro w'
        go_simp
        with_reducible rfl
      rotate_left
      · simp only [Act.put, List.setIfInBounds_toArray, List.set_cons_zero, List.set_cons_succ, i64_w, i32_w]
        rfl
      refine take_ (i := 3) (N := some 64) (v := ?_) (a' := ?_) #[true, true, true, true, true, false, false] rfl rfl (by kernel_rfl) (fun _ _ _ h => h) (Or.inl ⟨by rfl, ?_⟩) hHeld ?_ ?_
      rotate_left
      · rintro w' ⟨s0, s1, s2⟩
        go_simp
        with_reducible rfl
      rotate_left
      · simp only [Act.put, List.setIfInBounds_toArray, List.set_cons_zero, List.set_cons_succ, i64_w, i32_w]
        rfl
      refine last_ (i := 5) (N := some 66) #[true, true, true, true, true, true, false] rfl rfl (by kernel_rfl) (by decide) (fun K hK => ?_)
      refine goes_ Tryd.func45 (by kernel_rfl) rfl #[.agg #[.bool left, .int .i64 (wd : Int), .int .u8 111], .string t] (by rfl) rfl rfl (by first | rfl | (simp [Act.eval]; done) | (simp [Act.eval, Act.put]; done)) ?_
      refine (pad_any left wd 111 t _ HW.out HT.out).mono ?_
      rintro e w6 ⟨rfl, hb6⟩
      have HE := Lib.hid (HD.out.below hb6).pi
      clear hb6
      refine ⟨_, rfl, ?_⟩
      refine hK.out _ _ ?_
      clear hK K
      refine last_ (i := 6) (N := some 67) #[true, true, true, true, true, true, true] rfl rfl (by kernel_rfl) (by decide) (fun K hK => ?_)
      refine goes_ Tryd.func24 (by kernel_rfl) rfl #[.pointer (some ⟨g, 0, none⟩), .string (asB (padM left wd t.data.toList))] (by rfl) rfl rfl (by first | rfl | (simp [Act.eval]; done) | (simp [Act.eval, Act.put]; done)) ?_
      refine (HE.out.str _ HL.out (pad_size left wd t HW.out HT.out)).mono ?_
      rintro e w7 ⟨⟨r, rfl⟩, hp⟩
      have HP := Lib.hid hp
      clear hp
      refine ⟨_, rfl, ?_⟩
      refine hK.out _ _ ?_
      clear hK K
      refine done_ (by kernel_rfl) ?_
      try go_wp2
      go_end0
      refine ⟨rfl, ?_⟩
      have e9 : hb = (e != 0) := by rw [hbe.out]; first | (simp [*]; done) | (simp [bne, he]; done) | (cases h9 : decide (e = 0) <;> simp_all)
      rw [e9]
      have := HP.out
      simpa only [asB_data'] using this
  · skip
    go_enter Tryd.func28, Tryd.ntmps28
    go_wp2_with (first | (go_at_call 41; refine HC.out.next.mono ?_; rintro e1 w' ⟨he1, hN⟩; have he2 : e1 = .returned (.string S) := (by rw [he1]; show Ending.returned (.string (argAt args u)) = _; rw [hS.out]); subst he2; clear he1; have HN := Lib.hid hN; have m2 := cell_blk (i := 2) hN.sp rfl; clear hN) | (go_at_call 42; refine (num_Decimal.calls _ _ _ _ hdec.out).mono ?_; rintro e1 w'' ⟨rfl, hD⟩; have HN2 := Lib.hid (HN.out.drawn hD); have m3 := cell_blk (i := 2) HN2.out.sp rfl; have m4 := HN2.out.pi.c4; have y4 := HN2.out.pi.z4; have mt := cell_blk (i := 2) (HN2.out.bad true).sp rfl; have mf := cell_blk (i := 2) (HN2.out.bad false).sp rfl; clear hD) | (go_at_call 43; refine (HTX.out _).mono ?_; rintro e1 w4 ⟨rfl, hb4⟩; have HB := Lib.hid (CI.below (CI.bad HN2.out _) hb4); clear hb4))
    refine start_ (n := 7) (S := fun w' => w'.cell? ⟨W.heap.size, 0, none⟩ = some (.bool left) ∧ w'.cell? ⟨W.heap.size, 1, none⟩ = some (.int .i64 (wd : Int)) ∧ w'.cell? ⟨W.heap.size, 2, none⟩ = some (.int .u8 111)) (ds := [5, 6]) #[false, false, false, false, false, false, false] (by kernel_rfl) rfl rfl ⟨cell_blk (i := 0) HB.out.drew.sp rfl, cell_blk (i := 1) HB.out.drew.sp rfl, cell_blk (i := 2) HB.out.drew.sp rfl⟩ (fun hHeld => ?_)
    have HD := Lib.hid HB.out.drew
    clear HB
    generalize World.drew _ = wd5 at HD hHeld ⊢
    refine pure_ (i := 0) (N := some 61) (v := ?_) (a' := ?_) #[true, false, false, false, false, false, false] rfl rfl (by kernel_rfl) (fun _ _ _ h => h) (Or.inl ⟨by rfl, ?_⟩) ?_ ?_
    rotate_left
    · intro w'
      go_simp
      with_reducible rfl
    rotate_left
    · simp only [Act.put, List.setIfInBounds_toArray, List.set_cons_zero, List.set_cons_succ, i64_w, i32_w]
      rfl
    refine pure_ (i := 1) (N := some 62) (v := ?_) (a' := ?_) #[true, true, false, false, false, false, false] rfl rfl (by kernel_rfl) (fun _ _ _ h => h) (Or.inl ⟨by rfl, ?_⟩) ?_ ?_
    rotate_left
    · intro w'
      go_simp
      with_reducible rfl
    rotate_left
    · simp only [Act.put, List.setIfInBounds_toArray, List.set_cons_zero, List.set_cons_succ, i64_w, i32_w]
      rfl
    refine pure_ (i := 2) (N := some 63) (v := ?_) (a' := ?_) #[true, true, true, false, false, false, false] rfl rfl (by kernel_rfl) (fun _ _ _ h => h) (Or.inl ⟨by rfl, ?_⟩) ?_ ?_
    rotate_left
    · intro w'
      go_simp
      with_reducible rfl
    rotate_left
    · simp only [Act.put, List.setIfInBounds_toArray, List.set_cons_zero, List.set_cons_succ, i64_w, i32_w]
      rfl
    refine pure_ (i := 4) (N := some 65) (v := ?_) (a' := ?_) #[true, true, true, false, true, false, false] rfl rfl (by kernel_rfl) (fun _ _ _ h => h) (Or.inl ⟨by rfl, ?_⟩) ?_ ?_
    rotate_left
    · intro w'
      go_simp
      with_reducible rfl
    rotate_left
    · simp only [Act.put, List.setIfInBounds_toArray, List.set_cons_zero, List.set_cons_succ, i64_w, i32_w]
      rfl
    refine take_ (i := 3) (N := some 64) (v := ?_) (a' := ?_) #[true, true, true, true, true, false, false] rfl rfl (by kernel_rfl) (fun _ _ _ h => h) (Or.inl ⟨by rfl, ?_⟩) hHeld ?_ ?_
    rotate_left
    · rintro w' ⟨s0, s1, s2⟩
      go_simp
      with_reducible rfl
    rotate_left
    · simp only [Act.put, List.setIfInBounds_toArray, List.set_cons_zero, List.set_cons_succ, i64_w, i32_w]
      rfl
    refine last_ (i := 5) (N := some 66) #[true, true, true, true, true, true, false] rfl rfl (by kernel_rfl) (by decide) (fun K hK => ?_)
    refine goes_ Tryd.func45 (by kernel_rfl) rfl #[.agg #[.bool left, .int .i64 (wd : Int), .int .u8 111], .string t] (by rfl) rfl rfl (by first | rfl | (simp [Act.eval]; done) | (simp [Act.eval, Act.put]; done)) ?_
    refine (pad_any left wd 111 t _ HW.out HT.out).mono ?_
    rintro e w6 ⟨rfl, hb6⟩
    have HE := Lib.hid (HD.out.below hb6).pi
    clear hb6
    refine ⟨_, rfl, ?_⟩
    refine hK.out _ _ ?_
    clear hK K
    refine last_ (i := 6) (N := some 67) #[true, true, true, true, true, true, true] rfl rfl (by kernel_rfl) (by decide) (fun K hK => ?_)
    refine goes_ Tryd.func24 (by kernel_rfl) rfl #[.pointer (some ⟨g, 0, none⟩), .string (asB (padM left wd t.data.toList))] (by rfl) rfl rfl (by first | rfl | (simp [Act.eval]; done) | (simp [Act.eval, Act.put]; done)) ?_
    refine (HE.out.str _ HL.out (pad_size left wd t HW.out HT.out)).mono ?_
    rintro e w7 ⟨⟨r, rfl⟩, hp⟩
    have HP := Lib.hid hp
    clear hp
    refine ⟨_, rfl, ?_⟩
    refine hK.out _ _ ?_
    clear hK K
    refine done_ (by kernel_rfl) ?_
    try go_wp2
    go_end0
    refine ⟨rfl, ?_⟩
    have e9 : hb = true := by rw [hbe.out]; first | (simp [*]; done) | (simp [bne, he]; done) | (cases h9 : decide (e = 0) <;> simp_all)
    rw [e9]
    have := HP.out
    simpa only [asB_data'] using this
set_option maxHeartbeats 1000000 in
set_option maxRecDepth 100000 in
theorem convert_100 {w W : World} {g : Nat} {args : List ByteArray} {out : List UInt8} {u : Nat} {bad : Bool} (left : Bool) (wd : Nat) (S : ByteArray) (n e : Int) (hS : Hid (argAt args u = S)) (h : PI w W g args ⟨out, u, bad⟩) (hl : out.length ≤ 100000000000) (hw : wd ≤ 99) (hdec : Hid (num_Decimal.f S = some (n, e)))
    (t : ByteArray) (HT : Hid (t.size ≤ 1000000)) (htx : ∀ W1 : World, Calls Tryd.prog 44 #[.int .i64 n] W1 fun e W2 => e = .returned (.string t) ∧ Below W1.heap.size W1 W2) (hz : S.size ≠ 0) (hb : Bool) (hbe : Hid (hb = (bad || decide (e ≠ 0)))) :
    Calls Tryd.prog 28 #[.pointer (some ⟨g, 0, none⟩), .agg #[.bool left, .int .i64 (wd : Int), .int .u8 100]] W fun e W' => e = .returned (.tuple #[]) ∧ PI w W' g args { out := out ++ padM left wd t.data.toList, u := u + 1, bad := hb } := by
  have hC := CI.new h #[.bool left, .int .i64 (wd : Int), .int .u8 100]
  have HC := Lib.hid hC
  have k2 := cell_blk (i := 2) hC.sp rfl
  have HL := Lib.hid hl
  have HW := Lib.hid hw
  have HTX := Lib.hid htx
  have hz1 : S.toList.isEmpty = false := isEmpty_not hz
  clear h hC hl hw htx
  cases bad
  · by_cases he : e = 0
    · subst he
      go_enter Tryd.func28, Tryd.ntmps28
      go_wp2_with (first | (go_at_call 41; refine HC.out.next.mono ?_; rintro e1 w' ⟨he1, hN⟩; have he2 : e1 = .returned (.string S) := (by rw [he1]; show Ending.returned (.string (argAt args u)) = _; rw [hS.out]); subst he2; clear he1; have HN := Lib.hid hN; have m2 := cell_blk (i := 2) hN.sp rfl; clear hN) | (go_at_call 42; refine (num_Decimal.calls _ _ _ _ hdec.out).mono ?_; rintro e1 w'' ⟨rfl, hD⟩; have HN2 := Lib.hid (HN.out.drawn hD); have m3 := cell_blk (i := 2) HN2.out.sp rfl; have m4 := HN2.out.pi.c4; have y4 := HN2.out.pi.z4; have mt := cell_blk (i := 2) (HN2.out.bad true).sp rfl; have mf := cell_blk (i := 2) (HN2.out.bad false).sp rfl; clear hD) | (go_at_call 44; refine (HTX.out _).mono ?_; rintro e1 w4 ⟨rfl, hb4⟩; have HB := Lib.hid (CI.below (CI.bad HN2.out _) hb4); clear hb4))
      refine start_ (n := 7) (S := fun w' => w'.cell? ⟨W.heap.size, 0, none⟩ = some (.bool left) ∧ w'.cell? ⟨W.heap.size, 1, none⟩ = some (.int .i64 (wd : Int)) ∧ w'.cell? ⟨W.heap.size, 2, none⟩ = some (.int .u8 100)) (ds := [5, 6]) #[false, false, false, false, false, false, false] (by kernel_rfl) rfl rfl ⟨cell_blk (i := 0) HB.out.drew.sp rfl, cell_blk (i := 1) HB.out.drew.sp rfl, cell_blk (i := 2) HB.out.drew.sp rfl⟩ (fun hHeld => ?_)
      have HD := Lib.hid HB.out.drew
      clear HB
      generalize World.drew _ = wd5 at HD hHeld ⊢
      refine pure_ (i := 0) (N := some 61) (v := ?_) (a' := ?_) #[true, false, false, false, false, false, false] rfl rfl (by kernel_rfl) (fun _ _ _ h => h) (Or.inl ⟨by rfl, ?_⟩) ?_ ?_
      rotate_left
      · intro w'
        go_simp
        with_reducible rfl
      rotate_left
      · simp only [Act.put, List.setIfInBounds_toArray, List.set_cons_zero, List.set_cons_succ, i64_w, i32_w]
        rfl
      refine pure_ (i := 1) (N := some 62) (v := ?_) (a' := ?_) #[true, true, false, false, false, false, false] rfl rfl (by kernel_rfl) (fun _ _ _ h => h) (Or.inl ⟨by rfl, ?_⟩) ?_ ?_
      rotate_left
      · intro w'
        go_simp
        with_reducible rfl
      rotate_left
      · simp only [Act.put, List.setIfInBounds_toArray, List.set_cons_zero, List.set_cons_succ, i64_w, i32_w]
        rfl
      refine pure_ (i := 2) (N := some 63) (v := ?_) (a' := ?_) #[true, true, true, false, false, false, false] rfl rfl (by kernel_rfl) (fun _ _ _ h => h) (Or.inl ⟨by rfl, ?_⟩) ?_ ?_
      rotate_left
      · intro w'
        go_simp
        with_reducible rfl
      rotate_left
      · simp only [Act.put, List.setIfInBounds_toArray, List.set_cons_zero, List.set_cons_succ, i64_w, i32_w]
        rfl
      refine pure_ (i := 4) (N := some 65) (v := ?_) (a' := ?_) #[true, true, true, false, true, false, false] rfl rfl (by kernel_rfl) (fun _ _ _ h => h) (Or.inl ⟨by rfl, ?_⟩) ?_ ?_
      rotate_left
      · intro w'
        go_simp
        with_reducible rfl
      rotate_left
      · simp only [Act.put, List.setIfInBounds_toArray, List.set_cons_zero, List.set_cons_succ, i64_w, i32_w]
        rfl
      refine take_ (i := 3) (N := some 64) (v := ?_) (a' := ?_) #[true, true, true, true, true, false, false] rfl rfl (by kernel_rfl) (fun _ _ _ h => h) (Or.inl ⟨by rfl, ?_⟩) hHeld ?_ ?_
      rotate_left
      · rintro w' ⟨s0, s1, s2⟩
        go_simp
        with_reducible rfl
      rotate_left
      · simp only [Act.put, List.setIfInBounds_toArray, List.set_cons_zero, List.set_cons_succ, i64_w, i32_w]
        rfl
      refine last_ (i := 5) (N := some 66) #[true, true, true, true, true, true, false] rfl rfl (by kernel_rfl) (by decide) (fun K hK => ?_)
      refine goes_ Tryd.func45 (by kernel_rfl) rfl #[.agg #[.bool left, .int .i64 (wd : Int), .int .u8 100], .string t] (by rfl) rfl rfl (by first | rfl | (simp [Act.eval]; done) | (simp [Act.eval, Act.put]; done)) ?_
      refine (pad_any left wd 100 t _ HW.out HT.out).mono ?_
      rintro e w6 ⟨rfl, hb6⟩
      have HE := Lib.hid (HD.out.below hb6).pi
      clear hb6
      refine ⟨_, rfl, ?_⟩
      refine hK.out _ _ ?_
      clear hK K
      refine last_ (i := 6) (N := some 67) #[true, true, true, true, true, true, true] rfl rfl (by kernel_rfl) (by decide) (fun K hK => ?_)
      refine goes_ Tryd.func24 (by kernel_rfl) rfl #[.pointer (some ⟨g, 0, none⟩), .string (asB (padM left wd t.data.toList))] (by rfl) rfl rfl (by first | rfl | (simp [Act.eval]; done) | (simp [Act.eval, Act.put]; done)) ?_
      refine (HE.out.str _ HL.out (pad_size left wd t HW.out HT.out)).mono ?_
      rintro e w7 ⟨⟨r, rfl⟩, hp⟩
      have HP := Lib.hid hp
      clear hp
      refine ⟨_, rfl, ?_⟩
      refine hK.out _ _ ?_
      clear hK K
      refine done_ (by kernel_rfl) ?_
      try go_wp2
      go_end0
      refine ⟨rfl, ?_⟩
      have e9 : hb = false := by rw [hbe.out]; first | (simp [*]; done) | (simp [bne, he]; done) | (cases h9 : decide (e = 0) <;> simp_all)
      rw [e9]
      have := HP.out
      simpa only [asB_data'] using this
    · skip
      go_enter Tryd.func28, Tryd.ntmps28
      go_wp2_with (first | (go_at_call 41; refine HC.out.next.mono ?_; rintro e1 w' ⟨he1, hN⟩; have he2 : e1 = .returned (.string S) := (by rw [he1]; show Ending.returned (.string (argAt args u)) = _; rw [hS.out]); subst he2; clear he1; have HN := Lib.hid hN; have m2 := cell_blk (i := 2) hN.sp rfl; clear hN) | (go_at_call 42; refine (num_Decimal.calls _ _ _ _ hdec.out).mono ?_; rintro e1 w'' ⟨rfl, hD⟩; have HN2 := Lib.hid (HN.out.drawn hD); have m3 := cell_blk (i := 2) HN2.out.sp rfl; have m4 := HN2.out.pi.c4; have y4 := HN2.out.pi.z4; have mt := cell_blk (i := 2) (HN2.out.bad true).sp rfl; have mf := cell_blk (i := 2) (HN2.out.bad false).sp rfl; clear hD) | (go_at_call 44; refine (HTX.out _).mono ?_; rintro e1 w4 ⟨rfl, hb4⟩; have HB := Lib.hid (CI.below (CI.bad HN2.out _) hb4); clear hb4))
      refine start_ (n := 7) (S := fun w' => w'.cell? ⟨W.heap.size, 0, none⟩ = some (.bool left) ∧ w'.cell? ⟨W.heap.size, 1, none⟩ = some (.int .i64 (wd : Int)) ∧ w'.cell? ⟨W.heap.size, 2, none⟩ = some (.int .u8 100)) (ds := [5, 6]) #[false, false, false, false, false, false, false] (by kernel_rfl) rfl rfl ⟨cell_blk (i := 0) HB.out.drew.sp rfl, cell_blk (i := 1) HB.out.drew.sp rfl, cell_blk (i := 2) HB.out.drew.sp rfl⟩ (fun hHeld => ?_)
      have HD := Lib.hid HB.out.drew
      clear HB
      generalize World.drew _ = wd5 at HD hHeld ⊢
      refine pure_ (i := 0) (N := some 61) (v := ?_) (a' := ?_) #[true, false, false, false, false, false, false] rfl rfl (by kernel_rfl) (fun _ _ _ h => h) (Or.inl ⟨by rfl, ?_⟩) ?_ ?_
      rotate_left
      · intro w'
        go_simp
        with_reducible rfl
      rotate_left
      · simp only [Act.put, List.setIfInBounds_toArray, List.set_cons_zero, List.set_cons_succ, i64_w, i32_w]
        rfl
      refine pure_ (i := 1) (N := some 62) (v := ?_) (a' := ?_) #[true, true, false, false, false, false, false] rfl rfl (by kernel_rfl) (fun _ _ _ h => h) (Or.inl ⟨by rfl, ?_⟩) ?_ ?_
      rotate_left
      · intro w'
        go_simp
        with_reducible rfl
      rotate_left
      · simp only [Act.put, List.setIfInBounds_toArray, List.set_cons_zero, List.set_cons_succ, i64_w, i32_w]
        rfl
      refine pure_ (i := 2) (N := some 63) (v := ?_) (a' := ?_) #[true, true, true, false, false, false, false] rfl rfl (by kernel_rfl) (fun _ _ _ h => h) (Or.inl ⟨by rfl, ?_⟩) ?_ ?_
      rotate_left
      · intro w'
        go_simp
        with_reducible rfl
      rotate_left
      · simp only [Act.put, List.setIfInBounds_toArray, List.set_cons_zero, List.set_cons_succ, i64_w, i32_w]
        rfl
      refine pure_ (i := 4) (N := some 65) (v := ?_) (a' := ?_) #[true, true, true, false, true, false, false] rfl rfl (by kernel_rfl) (fun _ _ _ h => h) (Or.inl ⟨by rfl, ?_⟩) ?_ ?_
      rotate_left
      · intro w'
        go_simp
        with_reducible rfl
      rotate_left
      · simp only [Act.put, List.setIfInBounds_toArray, List.set_cons_zero, List.set_cons_succ, i64_w, i32_w]
        rfl
      refine take_ (i := 3) (N := some 64) (v := ?_) (a' := ?_) #[true, true, true, true, true, false, false] rfl rfl (by kernel_rfl) (fun _ _ _ h => h) (Or.inl ⟨by rfl, ?_⟩) hHeld ?_ ?_
      rotate_left
      · rintro w' ⟨s0, s1, s2⟩
        go_simp
        with_reducible rfl
      rotate_left
      · simp only [Act.put, List.setIfInBounds_toArray, List.set_cons_zero, List.set_cons_succ, i64_w, i32_w]
        rfl
      refine last_ (i := 5) (N := some 66) #[true, true, true, true, true, true, false] rfl rfl (by kernel_rfl) (by decide) (fun K hK => ?_)
      refine goes_ Tryd.func45 (by kernel_rfl) rfl #[.agg #[.bool left, .int .i64 (wd : Int), .int .u8 100], .string t] (by rfl) rfl rfl (by first | rfl | (simp [Act.eval]; done) | (simp [Act.eval, Act.put]; done)) ?_
      refine (pad_any left wd 100 t _ HW.out HT.out).mono ?_
      rintro e w6 ⟨rfl, hb6⟩
      have HE := Lib.hid (HD.out.below hb6).pi
      clear hb6
      refine ⟨_, rfl, ?_⟩
      refine hK.out _ _ ?_
      clear hK K
      refine last_ (i := 6) (N := some 67) #[true, true, true, true, true, true, true] rfl rfl (by kernel_rfl) (by decide) (fun K hK => ?_)
      refine goes_ Tryd.func24 (by kernel_rfl) rfl #[.pointer (some ⟨g, 0, none⟩), .string (asB (padM left wd t.data.toList))] (by rfl) rfl rfl (by first | rfl | (simp [Act.eval]; done) | (simp [Act.eval, Act.put]; done)) ?_
      refine (HE.out.str _ HL.out (pad_size left wd t HW.out HT.out)).mono ?_
      rintro e w7 ⟨⟨r, rfl⟩, hp⟩
      have HP := Lib.hid hp
      clear hp
      refine ⟨_, rfl, ?_⟩
      refine hK.out _ _ ?_
      clear hK K
      refine done_ (by kernel_rfl) ?_
      try go_wp2
      go_end0
      refine ⟨rfl, ?_⟩
      have e9 : hb = (e != 0) := by rw [hbe.out]; first | (simp [*]; done) | (simp [bne, he]; done) | (cases h9 : decide (e = 0) <;> simp_all)
      rw [e9]
      have := HP.out
      simpa only [asB_data'] using this
  · skip
    go_enter Tryd.func28, Tryd.ntmps28
    go_wp2_with (first | (go_at_call 41; refine HC.out.next.mono ?_; rintro e1 w' ⟨he1, hN⟩; have he2 : e1 = .returned (.string S) := (by rw [he1]; show Ending.returned (.string (argAt args u)) = _; rw [hS.out]); subst he2; clear he1; have HN := Lib.hid hN; have m2 := cell_blk (i := 2) hN.sp rfl; clear hN) | (go_at_call 42; refine (num_Decimal.calls _ _ _ _ hdec.out).mono ?_; rintro e1 w'' ⟨rfl, hD⟩; have HN2 := Lib.hid (HN.out.drawn hD); have m3 := cell_blk (i := 2) HN2.out.sp rfl; have m4 := HN2.out.pi.c4; have y4 := HN2.out.pi.z4; have mt := cell_blk (i := 2) (HN2.out.bad true).sp rfl; have mf := cell_blk (i := 2) (HN2.out.bad false).sp rfl; clear hD) | (go_at_call 44; refine (HTX.out _).mono ?_; rintro e1 w4 ⟨rfl, hb4⟩; have HB := Lib.hid (CI.below (CI.bad HN2.out _) hb4); clear hb4))
    refine start_ (n := 7) (S := fun w' => w'.cell? ⟨W.heap.size, 0, none⟩ = some (.bool left) ∧ w'.cell? ⟨W.heap.size, 1, none⟩ = some (.int .i64 (wd : Int)) ∧ w'.cell? ⟨W.heap.size, 2, none⟩ = some (.int .u8 100)) (ds := [5, 6]) #[false, false, false, false, false, false, false] (by kernel_rfl) rfl rfl ⟨cell_blk (i := 0) HB.out.drew.sp rfl, cell_blk (i := 1) HB.out.drew.sp rfl, cell_blk (i := 2) HB.out.drew.sp rfl⟩ (fun hHeld => ?_)
    have HD := Lib.hid HB.out.drew
    clear HB
    generalize World.drew _ = wd5 at HD hHeld ⊢
    refine pure_ (i := 0) (N := some 61) (v := ?_) (a' := ?_) #[true, false, false, false, false, false, false] rfl rfl (by kernel_rfl) (fun _ _ _ h => h) (Or.inl ⟨by rfl, ?_⟩) ?_ ?_
    rotate_left
    · intro w'
      go_simp
      with_reducible rfl
    rotate_left
    · simp only [Act.put, List.setIfInBounds_toArray, List.set_cons_zero, List.set_cons_succ, i64_w, i32_w]
      rfl
    refine pure_ (i := 1) (N := some 62) (v := ?_) (a' := ?_) #[true, true, false, false, false, false, false] rfl rfl (by kernel_rfl) (fun _ _ _ h => h) (Or.inl ⟨by rfl, ?_⟩) ?_ ?_
    rotate_left
    · intro w'
      go_simp
      with_reducible rfl
    rotate_left
    · simp only [Act.put, List.setIfInBounds_toArray, List.set_cons_zero, List.set_cons_succ, i64_w, i32_w]
      rfl
    refine pure_ (i := 2) (N := some 63) (v := ?_) (a' := ?_) #[true, true, true, false, false, false, false] rfl rfl (by kernel_rfl) (fun _ _ _ h => h) (Or.inl ⟨by rfl, ?_⟩) ?_ ?_
    rotate_left
    · intro w'
      go_simp
      with_reducible rfl
    rotate_left
    · simp only [Act.put, List.setIfInBounds_toArray, List.set_cons_zero, List.set_cons_succ, i64_w, i32_w]
      rfl
    refine pure_ (i := 4) (N := some 65) (v := ?_) (a' := ?_) #[true, true, true, false, true, false, false] rfl rfl (by kernel_rfl) (fun _ _ _ h => h) (Or.inl ⟨by rfl, ?_⟩) ?_ ?_
    rotate_left
    · intro w'
      go_simp
      with_reducible rfl
    rotate_left
    · simp only [Act.put, List.setIfInBounds_toArray, List.set_cons_zero, List.set_cons_succ, i64_w, i32_w]
      rfl
    refine take_ (i := 3) (N := some 64) (v := ?_) (a' := ?_) #[true, true, true, true, true, false, false] rfl rfl (by kernel_rfl) (fun _ _ _ h => h) (Or.inl ⟨by rfl, ?_⟩) hHeld ?_ ?_
    rotate_left
    · rintro w' ⟨s0, s1, s2⟩
      go_simp
      with_reducible rfl
    rotate_left
    · simp only [Act.put, List.setIfInBounds_toArray, List.set_cons_zero, List.set_cons_succ, i64_w, i32_w]
      rfl
    refine last_ (i := 5) (N := some 66) #[true, true, true, true, true, true, false] rfl rfl (by kernel_rfl) (by decide) (fun K hK => ?_)
    refine goes_ Tryd.func45 (by kernel_rfl) rfl #[.agg #[.bool left, .int .i64 (wd : Int), .int .u8 100], .string t] (by rfl) rfl rfl (by first | rfl | (simp [Act.eval]; done) | (simp [Act.eval, Act.put]; done)) ?_
    refine (pad_any left wd 100 t _ HW.out HT.out).mono ?_
    rintro e w6 ⟨rfl, hb6⟩
    have HE := Lib.hid (HD.out.below hb6).pi
    clear hb6
    refine ⟨_, rfl, ?_⟩
    refine hK.out _ _ ?_
    clear hK K
    refine last_ (i := 6) (N := some 67) #[true, true, true, true, true, true, true] rfl rfl (by kernel_rfl) (by decide) (fun K hK => ?_)
    refine goes_ Tryd.func24 (by kernel_rfl) rfl #[.pointer (some ⟨g, 0, none⟩), .string (asB (padM left wd t.data.toList))] (by rfl) rfl rfl (by first | rfl | (simp [Act.eval]; done) | (simp [Act.eval, Act.put]; done)) ?_
    refine (HE.out.str _ HL.out (pad_size left wd t HW.out HT.out)).mono ?_
    rintro e w7 ⟨⟨r, rfl⟩, hp⟩
    have HP := Lib.hid hp
    clear hp
    refine ⟨_, rfl, ?_⟩
    refine hK.out _ _ ?_
    clear hK K
    refine done_ (by kernel_rfl) ?_
    try go_wp2
    go_end0
    refine ⟨rfl, ?_⟩
    have e9 : hb = true := by rw [hbe.out]; first | (simp [*]; done) | (simp [bne, he]; done) | (cases h9 : decide (e = 0) <;> simp_all)
    rw [e9]
    have := HP.out
    simpa only [asB_data'] using this
end Go.Proofs.YtlinllnlokikpaaDoor
/- text.printer's convert: an empty argument as a number; a character. -/
set_option linter.unusedVariables false
set_option linter.unusedSimpArgs false
namespace Go.Proofs.YtlinllnlokikpaaDoor
open Go.RowKit Go.Proofs.YtlinllnlokikpaaDoorW.PrintWords Go.Proofs.YtlinllnlokikpaaDoorW.PrintLast Go.Proofs.YtlinllnlokikpaaDoorW.PrintMore
theorem isEmpty_yes {S : ByteArray} (h : S.size = 0) : S.toList.isEmpty = true := by
  rw [ByteArray.toList_eq S, List.isEmpty_iff]
  exact List.eq_nil_of_length_eq_zero (by rw [Array.length_toList]; exact h)
set_option maxHeartbeats 1000000 in
set_option maxRecDepth 100000 in
theorem convert0_120 {w W : World} {g : Nat} {args : List ByteArray} {out : List UInt8} {u : Nat} {bad : Bool} (left : Bool) (wd : Nat) (S : ByteArray) (n e : Int) (hS : Hid (argAt args u = S)) (h : PI w W g args ⟨out, u, bad⟩) (hl : out.length ≤ 100000000000) (hw : wd ≤ 99) (hdec : Hid (num_Decimal.f S = some (n, e)))
    (t : ByteArray) (HT : Hid (t.size ≤ 1000000)) (htx : ∀ W1 : World, Calls Tryd.prog 43 #[.int .u64 0, .int .i64 16] W1 fun e W2 => e = .returned (.string t) ∧ Below W1.heap.size W1 W2) (hz : S.size = 0) :
    Calls Tryd.prog 28 #[.pointer (some ⟨g, 0, none⟩), .agg #[.bool left, .int .i64 (wd : Int), .int .u8 120]] W fun e W' => e = .returned (.tuple #[]) ∧ PI w W' g args { out := out ++ padM left wd t.data.toList, u := u + 1, bad := bad } := by
  have hC := CI.new h #[.bool left, .int .i64 (wd : Int), .int .u8 120]
  have HC := Lib.hid hC
  have k2 := cell_blk (i := 2) hC.sp rfl
  have HL := Lib.hid hl
  have HW := Lib.hid hw
  have HTX := Lib.hid htx
  have hz1 : S.toList.isEmpty = true := isEmpty_yes hz
  clear h hC hl hw htx
  cases bad
  · skip
    go_enter Tryd.func28, Tryd.ntmps28
    go_wp2_with (first | (go_at_call 41; refine HC.out.next.mono ?_; rintro e1 w' ⟨he1, hN⟩; have he2 : e1 = .returned (.string S) := (by rw [he1]; show Ending.returned (.string (argAt args u)) = _; rw [hS.out]); subst he2; clear he1; have HN := Lib.hid hN; have m2 := cell_blk (i := 2) hN.sp rfl; clear hN) | (go_at_call 42; refine (num_Decimal.calls _ _ _ _ hdec.out).mono ?_; rintro e1 w'' ⟨rfl, hD⟩; have HN2 := Lib.hid (HN.out.drawn hD); have m3 := cell_blk (i := 2) HN2.out.sp rfl; have m4 := HN2.out.pi.c4; have y4 := HN2.out.pi.z4; have mt := cell_blk (i := 2) (HN2.out.bad true).sp rfl; have mf := cell_blk (i := 2) (HN2.out.bad false).sp rfl; clear hD) | (go_at_call 43; refine (HTX.out _).mono ?_; rintro e1 w4 ⟨rfl, hb4⟩; have HB := Lib.hid (CI.below (CI.bad HN2.out _) hb4); clear hb4))
    refine start_ (n := 7) (S := fun w' => w'.cell? ⟨W.heap.size, 0, none⟩ = some (.bool left) ∧ w'.cell? ⟨W.heap.size, 1, none⟩ = some (.int .i64 (wd : Int)) ∧ w'.cell? ⟨W.heap.size, 2, none⟩ = some (.int .u8 120)) (ds := [5, 6]) #[false, false, false, false, false, false, false] (by kernel_rfl) rfl rfl ⟨cell_blk (i := 0) HB.out.drew.sp rfl, cell_blk (i := 1) HB.out.drew.sp rfl, cell_blk (i := 2) HB.out.drew.sp rfl⟩ (fun hHeld => ?_)
    have HD := Lib.hid HB.out.drew
    clear HB
    generalize World.drew _ = wd5 at HD hHeld ⊢
    refine pure_ (i := 0) (N := some 61) (v := ?_) (a' := ?_) #[true, false, false, false, false, false, false] rfl rfl (by kernel_rfl) (fun _ _ _ h => h) (Or.inl ⟨by rfl, ?_⟩) ?_ ?_
    rotate_left
    · intro w'
      go_simp
      with_reducible rfl
    rotate_left
    · simp only [Act.put, List.setIfInBounds_toArray, List.set_cons_zero, List.set_cons_succ, i64_w, i32_w]
      rfl
    refine pure_ (i := 1) (N := some 62) (v := ?_) (a' := ?_) #[true, true, false, false, false, false, false] rfl rfl (by kernel_rfl) (fun _ _ _ h => h) (Or.inl ⟨by rfl, ?_⟩) ?_ ?_
    rotate_left
    · intro w'
      go_simp
      with_reducible rfl
    rotate_left
    · simp only [Act.put, List.setIfInBounds_toArray, List.set_cons_zero, List.set_cons_succ, i64_w, i32_w]
      rfl
    refine pure_ (i := 2) (N := some 63) (v := ?_) (a' := ?_) #[true, true, true, false, false, false, false] rfl rfl (by kernel_rfl) (fun _ _ _ h => h) (Or.inl ⟨by rfl, ?_⟩) ?_ ?_
    rotate_left
    · intro w'
      go_simp
      with_reducible rfl
    rotate_left
    · simp only [Act.put, List.setIfInBounds_toArray, List.set_cons_zero, List.set_cons_succ, i64_w, i32_w]
      rfl
    refine pure_ (i := 4) (N := some 65) (v := ?_) (a' := ?_) #[true, true, true, false, true, false, false] rfl rfl (by kernel_rfl) (fun _ _ _ h => h) (Or.inl ⟨by rfl, ?_⟩) ?_ ?_
    rotate_left
    · intro w'
      go_simp
      with_reducible rfl
    rotate_left
    · simp only [Act.put, List.setIfInBounds_toArray, List.set_cons_zero, List.set_cons_succ, i64_w, i32_w]
      rfl
    refine take_ (i := 3) (N := some 64) (v := ?_) (a' := ?_) #[true, true, true, true, true, false, false] rfl rfl (by kernel_rfl) (fun _ _ _ h => h) (Or.inl ⟨by rfl, ?_⟩) hHeld ?_ ?_
    rotate_left
    · rintro w' ⟨s0, s1, s2⟩
      go_simp
      with_reducible rfl
    rotate_left
    · simp only [Act.put, List.setIfInBounds_toArray, List.set_cons_zero, List.set_cons_succ, i64_w, i32_w]
      rfl
    refine last_ (i := 5) (N := some 66) #[true, true, true, true, true, true, false] rfl rfl (by kernel_rfl) (by decide) (fun K hK => ?_)
    refine goes_ Tryd.func45 (by kernel_rfl) rfl #[.agg #[.bool left, .int .i64 (wd : Int), .int .u8 120], .string t] (by rfl) rfl rfl (by first | rfl | (simp [Act.eval]; done) | (simp [Act.eval, Act.put]; done)) ?_
    refine (pad_any left wd 120 t _ HW.out HT.out).mono ?_
    rintro e w6 ⟨rfl, hb6⟩
    have HE := Lib.hid (HD.out.below hb6).pi
    clear hb6
    refine ⟨_, rfl, ?_⟩
    refine hK.out _ _ ?_
    clear hK K
    refine last_ (i := 6) (N := some 67) #[true, true, true, true, true, true, true] rfl rfl (by kernel_rfl) (by decide) (fun K hK => ?_)
    refine goes_ Tryd.func24 (by kernel_rfl) rfl #[.pointer (some ⟨g, 0, none⟩), .string (asB (padM left wd t.data.toList))] (by rfl) rfl rfl (by first | rfl | (simp [Act.eval]; done) | (simp [Act.eval, Act.put]; done)) ?_
    refine (HE.out.str _ HL.out (pad_size left wd t HW.out HT.out)).mono ?_
    rintro e w7 ⟨⟨r, rfl⟩, hp⟩
    have HP := Lib.hid hp
    clear hp
    refine ⟨_, rfl, ?_⟩
    refine hK.out _ _ ?_
    clear hK K
    refine done_ (by kernel_rfl) ?_
    try go_wp2
    go_end0
    refine ⟨rfl, ?_⟩
    have := HP.out
    simpa only [asB_data'] using this
  · skip
    go_enter Tryd.func28, Tryd.ntmps28
    go_wp2_with (first | (go_at_call 41; refine HC.out.next.mono ?_; rintro e1 w' ⟨he1, hN⟩; have he2 : e1 = .returned (.string S) := (by rw [he1]; show Ending.returned (.string (argAt args u)) = _; rw [hS.out]); subst he2; clear he1; have HN := Lib.hid hN; have m2 := cell_blk (i := 2) hN.sp rfl; clear hN) | (go_at_call 42; refine (num_Decimal.calls _ _ _ _ hdec.out).mono ?_; rintro e1 w'' ⟨rfl, hD⟩; have HN2 := Lib.hid (HN.out.drawn hD); have m3 := cell_blk (i := 2) HN2.out.sp rfl; have m4 := HN2.out.pi.c4; have y4 := HN2.out.pi.z4; have mt := cell_blk (i := 2) (HN2.out.bad true).sp rfl; have mf := cell_blk (i := 2) (HN2.out.bad false).sp rfl; clear hD) | (go_at_call 43; refine (HTX.out _).mono ?_; rintro e1 w4 ⟨rfl, hb4⟩; have HB := Lib.hid (CI.below (CI.bad HN2.out _) hb4); clear hb4))
    refine start_ (n := 7) (S := fun w' => w'.cell? ⟨W.heap.size, 0, none⟩ = some (.bool left) ∧ w'.cell? ⟨W.heap.size, 1, none⟩ = some (.int .i64 (wd : Int)) ∧ w'.cell? ⟨W.heap.size, 2, none⟩ = some (.int .u8 120)) (ds := [5, 6]) #[false, false, false, false, false, false, false] (by kernel_rfl) rfl rfl ⟨cell_blk (i := 0) HB.out.drew.sp rfl, cell_blk (i := 1) HB.out.drew.sp rfl, cell_blk (i := 2) HB.out.drew.sp rfl⟩ (fun hHeld => ?_)
    have HD := Lib.hid HB.out.drew
    clear HB
    generalize World.drew _ = wd5 at HD hHeld ⊢
    refine pure_ (i := 0) (N := some 61) (v := ?_) (a' := ?_) #[true, false, false, false, false, false, false] rfl rfl (by kernel_rfl) (fun _ _ _ h => h) (Or.inl ⟨by rfl, ?_⟩) ?_ ?_
    rotate_left
    · intro w'
      go_simp
      with_reducible rfl
    rotate_left
    · simp only [Act.put, List.setIfInBounds_toArray, List.set_cons_zero, List.set_cons_succ, i64_w, i32_w]
      rfl
    refine pure_ (i := 1) (N := some 62) (v := ?_) (a' := ?_) #[true, true, false, false, false, false, false] rfl rfl (by kernel_rfl) (fun _ _ _ h => h) (Or.inl ⟨by rfl, ?_⟩) ?_ ?_
    rotate_left
    · intro w'
      go_simp
      with_reducible rfl
    rotate_left
    · simp only [Act.put, List.setIfInBounds_toArray, List.set_cons_zero, List.set_cons_succ, i64_w, i32_w]
      rfl
    refine pure_ (i := 2) (N := some 63) (v := ?_) (a' := ?_) #[true, true, true, false, false, false, false] rfl rfl (by kernel_rfl) (fun _ _ _ h => h) (Or.inl ⟨by rfl, ?_⟩) ?_ ?_
    rotate_left
    · intro w'
      go_simp
      with_reducible rfl
    rotate_left
    · simp only [Act.put, List.setIfInBounds_toArray, List.set_cons_zero, List.set_cons_succ, i64_w, i32_w]
      rfl
    refine pure_ (i := 4) (N := some 65) (v := ?_) (a' := ?_) #[true, true, true, false, true, false, false] rfl rfl (by kernel_rfl) (fun _ _ _ h => h) (Or.inl ⟨by rfl, ?_⟩) ?_ ?_
    rotate_left
    · intro w'
      go_simp
      with_reducible rfl
    rotate_left
    · simp only [Act.put, List.setIfInBounds_toArray, List.set_cons_zero, List.set_cons_succ, i64_w, i32_w]
      rfl
    refine take_ (i := 3) (N := some 64) (v := ?_) (a' := ?_) #[true, true, true, true, true, false, false] rfl rfl (by kernel_rfl) (fun _ _ _ h => h) (Or.inl ⟨by rfl, ?_⟩) hHeld ?_ ?_
    rotate_left
    · rintro w' ⟨s0, s1, s2⟩
      go_simp
      with_reducible rfl
    rotate_left
    · simp only [Act.put, List.setIfInBounds_toArray, List.set_cons_zero, List.set_cons_succ, i64_w, i32_w]
      rfl
    refine last_ (i := 5) (N := some 66) #[true, true, true, true, true, true, false] rfl rfl (by kernel_rfl) (by decide) (fun K hK => ?_)
    refine goes_ Tryd.func45 (by kernel_rfl) rfl #[.agg #[.bool left, .int .i64 (wd : Int), .int .u8 120], .string t] (by rfl) rfl rfl (by first | rfl | (simp [Act.eval]; done) | (simp [Act.eval, Act.put]; done)) ?_
    refine (pad_any left wd 120 t _ HW.out HT.out).mono ?_
    rintro e w6 ⟨rfl, hb6⟩
    have HE := Lib.hid (HD.out.below hb6).pi
    clear hb6
    refine ⟨_, rfl, ?_⟩
    refine hK.out _ _ ?_
    clear hK K
    refine last_ (i := 6) (N := some 67) #[true, true, true, true, true, true, true] rfl rfl (by kernel_rfl) (by decide) (fun K hK => ?_)
    refine goes_ Tryd.func24 (by kernel_rfl) rfl #[.pointer (some ⟨g, 0, none⟩), .string (asB (padM left wd t.data.toList))] (by rfl) rfl rfl (by first | rfl | (simp [Act.eval]; done) | (simp [Act.eval, Act.put]; done)) ?_
    refine (HE.out.str _ HL.out (pad_size left wd t HW.out HT.out)).mono ?_
    rintro e w7 ⟨⟨r, rfl⟩, hp⟩
    have HP := Lib.hid hp
    clear hp
    refine ⟨_, rfl, ?_⟩
    refine hK.out _ _ ?_
    clear hK K
    refine done_ (by kernel_rfl) ?_
    try go_wp2
    go_end0
    refine ⟨rfl, ?_⟩
    have := HP.out
    simpa only [asB_data'] using this
set_option maxHeartbeats 1000000 in
set_option maxRecDepth 100000 in
theorem convert0_111 {w W : World} {g : Nat} {args : List ByteArray} {out : List UInt8} {u : Nat} {bad : Bool} (left : Bool) (wd : Nat) (S : ByteArray) (n e : Int) (hS : Hid (argAt args u = S)) (h : PI w W g args ⟨out, u, bad⟩) (hl : out.length ≤ 100000000000) (hw : wd ≤ 99) (hdec : Hid (num_Decimal.f S = some (n, e)))
    (t : ByteArray) (HT : Hid (t.size ≤ 1000000)) (htx : ∀ W1 : World, Calls Tryd.prog 43 #[.int .u64 0, .int .i64 8] W1 fun e W2 => e = .returned (.string t) ∧ Below W1.heap.size W1 W2) (hz : S.size = 0) :
    Calls Tryd.prog 28 #[.pointer (some ⟨g, 0, none⟩), .agg #[.bool left, .int .i64 (wd : Int), .int .u8 111]] W fun e W' => e = .returned (.tuple #[]) ∧ PI w W' g args { out := out ++ padM left wd t.data.toList, u := u + 1, bad := bad } := by
  have hC := CI.new h #[.bool left, .int .i64 (wd : Int), .int .u8 111]
  have HC := Lib.hid hC
  have k2 := cell_blk (i := 2) hC.sp rfl
  have HL := Lib.hid hl
  have HW := Lib.hid hw
  have HTX := Lib.hid htx
  have hz1 : S.toList.isEmpty = true := isEmpty_yes hz
  clear h hC hl hw htx
  cases bad
  · skip
    go_enter Tryd.func28, Tryd.ntmps28
    go_wp2_with (first | (go_at_call 41; refine HC.out.next.mono ?_; rintro e1 w' ⟨he1, hN⟩; have he2 : e1 = .returned (.string S) := (by rw [he1]; show Ending.returned (.string (argAt args u)) = _; rw [hS.out]); subst he2; clear he1; have HN := Lib.hid hN; have m2 := cell_blk (i := 2) hN.sp rfl; clear hN) | (go_at_call 42; refine (num_Decimal.calls _ _ _ _ hdec.out).mono ?_; rintro e1 w'' ⟨rfl, hD⟩; have HN2 := Lib.hid (HN.out.drawn hD); have m3 := cell_blk (i := 2) HN2.out.sp rfl; have m4 := HN2.out.pi.c4; have y4 := HN2.out.pi.z4; have mt := cell_blk (i := 2) (HN2.out.bad true).sp rfl; have mf := cell_blk (i := 2) (HN2.out.bad false).sp rfl; clear hD) | (go_at_call 43; refine (HTX.out _).mono ?_; rintro e1 w4 ⟨rfl, hb4⟩; have HB := Lib.hid (CI.below (CI.bad HN2.out _) hb4); clear hb4))
    refine start_ (n := 7) (S := fun w' => w'.cell? ⟨W.heap.size, 0, none⟩ = some (.bool left) ∧ w'.cell? ⟨W.heap.size, 1, none⟩ = some (.int .i64 (wd : Int)) ∧ w'.cell? ⟨W.heap.size, 2, none⟩ = some (.int .u8 111)) (ds := [5, 6]) #[false, false, false, false, false, false, false] (by kernel_rfl) rfl rfl ⟨cell_blk (i := 0) HB.out.drew.sp rfl, cell_blk (i := 1) HB.out.drew.sp rfl, cell_blk (i := 2) HB.out.drew.sp rfl⟩ (fun hHeld => ?_)
    have HD := Lib.hid HB.out.drew
    clear HB
    generalize World.drew _ = wd5 at HD hHeld ⊢
    refine pure_ (i := 0) (N := some 61) (v := ?_) (a' := ?_) #[true, false, false, false, false, false, false] rfl rfl (by kernel_rfl) (fun _ _ _ h => h) (Or.inl ⟨by rfl, ?_⟩) ?_ ?_
    rotate_left
    · intro w'
      go_simp
      with_reducible rfl
    rotate_left
    · simp only [Act.put, List.setIfInBounds_toArray, List.set_cons_zero, List.set_cons_succ, i64_w, i32_w]
      rfl
    refine pure_ (i := 1) (N := some 62) (v := ?_) (a' := ?_) #[true, true, false, false, false, false, false] rfl rfl (by kernel_rfl) (fun _ _ _ h => h) (Or.inl ⟨by rfl, ?_⟩) ?_ ?_
    rotate_left
    · intro w'
      go_simp
      with_reducible rfl
    rotate_left
    · simp only [Act.put, List.setIfInBounds_toArray, List.set_cons_zero, List.set_cons_succ, i64_w, i32_w]
      rfl
    refine pure_ (i := 2) (N := some 63) (v := ?_) (a' := ?_) #[true, true, true, false, false, false, false] rfl rfl (by kernel_rfl) (fun _ _ _ h => h) (Or.inl ⟨by rfl, ?_⟩) ?_ ?_
    rotate_left
    · intro w'
      go_simp
      with_reducible rfl
    rotate_left
    · simp only [Act.put, List.setIfInBounds_toArray, List.set_cons_zero, List.set_cons_succ, i64_w, i32_w]
      rfl
    refine pure_ (i := 4) (N := some 65) (v := ?_) (a' := ?_) #[true, true, true, false, true, false, false] rfl rfl (by kernel_rfl) (fun _ _ _ h => h) (Or.inl ⟨by rfl, ?_⟩) ?_ ?_
    rotate_left
    · intro w'
      go_simp
      with_reducible rfl
    rotate_left
    · simp only [Act.put, List.setIfInBounds_toArray, List.set_cons_zero, List.set_cons_succ, i64_w, i32_w]
      rfl
    refine take_ (i := 3) (N := some 64) (v := ?_) (a' := ?_) #[true, true, true, true, true, false, false] rfl rfl (by kernel_rfl) (fun _ _ _ h => h) (Or.inl ⟨by rfl, ?_⟩) hHeld ?_ ?_
    rotate_left
    · rintro w' ⟨s0, s1, s2⟩
      go_simp
      with_reducible rfl
    rotate_left
    · simp only [Act.put, List.setIfInBounds_toArray, List.set_cons_zero, List.set_cons_succ, i64_w, i32_w]
      rfl
    refine last_ (i := 5) (N := some 66) #[true, true, true, true, true, true, false] rfl rfl (by kernel_rfl) (by decide) (fun K hK => ?_)
    refine goes_ Tryd.func45 (by kernel_rfl) rfl #[.agg #[.bool left, .int .i64 (wd : Int), .int .u8 111], .string t] (by rfl) rfl rfl (by first | rfl | (simp [Act.eval]; done) | (simp [Act.eval, Act.put]; done)) ?_
    refine (pad_any left wd 111 t _ HW.out HT.out).mono ?_
    rintro e w6 ⟨rfl, hb6⟩
    have HE := Lib.hid (HD.out.below hb6).pi
    clear hb6
    refine ⟨_, rfl, ?_⟩
    refine hK.out _ _ ?_
    clear hK K
    refine last_ (i := 6) (N := some 67) #[true, true, true, true, true, true, true] rfl rfl (by kernel_rfl) (by decide) (fun K hK => ?_)
    refine goes_ Tryd.func24 (by kernel_rfl) rfl #[.pointer (some ⟨g, 0, none⟩), .string (asB (padM left wd t.data.toList))] (by rfl) rfl rfl (by first | rfl | (simp [Act.eval]; done) | (simp [Act.eval, Act.put]; done)) ?_
    refine (HE.out.str _ HL.out (pad_size left wd t HW.out HT.out)).mono ?_
    rintro e w7 ⟨⟨r, rfl⟩, hp⟩
    have HP := Lib.hid hp
    clear hp
    refine ⟨_, rfl, ?_⟩
    refine hK.out _ _ ?_
    clear hK K
    refine done_ (by kernel_rfl) ?_
    try go_wp2
    go_end0
    refine ⟨rfl, ?_⟩
    have := HP.out
    simpa only [asB_data'] using this
  · skip
    go_enter Tryd.func28, Tryd.ntmps28
    go_wp2_with (first | (go_at_call 41; refine HC.out.next.mono ?_; rintro e1 w' ⟨he1, hN⟩; have he2 : e1 = .returned (.string S) := (by rw [he1]; show Ending.returned (.string (argAt args u)) = _; rw [hS.out]); subst he2; clear he1; have HN := Lib.hid hN; have m2 := cell_blk (i := 2) hN.sp rfl; clear hN) | (go_at_call 42; refine (num_Decimal.calls _ _ _ _ hdec.out).mono ?_; rintro e1 w'' ⟨rfl, hD⟩; have HN2 := Lib.hid (HN.out.drawn hD); have m3 := cell_blk (i := 2) HN2.out.sp rfl; have m4 := HN2.out.pi.c4; have y4 := HN2.out.pi.z4; have mt := cell_blk (i := 2) (HN2.out.bad true).sp rfl; have mf := cell_blk (i := 2) (HN2.out.bad false).sp rfl; clear hD) | (go_at_call 43; refine (HTX.out _).mono ?_; rintro e1 w4 ⟨rfl, hb4⟩; have HB := Lib.hid (CI.below (CI.bad HN2.out _) hb4); clear hb4))
    refine start_ (n := 7) (S := fun w' => w'.cell? ⟨W.heap.size, 0, none⟩ = some (.bool left) ∧ w'.cell? ⟨W.heap.size, 1, none⟩ = some (.int .i64 (wd : Int)) ∧ w'.cell? ⟨W.heap.size, 2, none⟩ = some (.int .u8 111)) (ds := [5, 6]) #[false, false, false, false, false, false, false] (by kernel_rfl) rfl rfl ⟨cell_blk (i := 0) HB.out.drew.sp rfl, cell_blk (i := 1) HB.out.drew.sp rfl, cell_blk (i := 2) HB.out.drew.sp rfl⟩ (fun hHeld => ?_)
    have HD := Lib.hid HB.out.drew
    clear HB
    generalize World.drew _ = wd5 at HD hHeld ⊢
    refine pure_ (i := 0) (N := some 61) (v := ?_) (a' := ?_) #[true, false, false, false, false, false, false] rfl rfl (by kernel_rfl) (fun _ _ _ h => h) (Or.inl ⟨by rfl, ?_⟩) ?_ ?_
    rotate_left
    · intro w'
      go_simp
      with_reducible rfl
    rotate_left
    · simp only [Act.put, List.setIfInBounds_toArray, List.set_cons_zero, List.set_cons_succ, i64_w, i32_w]
      rfl
    refine pure_ (i := 1) (N := some 62) (v := ?_) (a' := ?_) #[true, true, false, false, false, false, false] rfl rfl (by kernel_rfl) (fun _ _ _ h => h) (Or.inl ⟨by rfl, ?_⟩) ?_ ?_
    rotate_left
    · intro w'
      go_simp
      with_reducible rfl
    rotate_left
    · simp only [Act.put, List.setIfInBounds_toArray, List.set_cons_zero, List.set_cons_succ, i64_w, i32_w]
      rfl
    refine pure_ (i := 2) (N := some 63) (v := ?_) (a' := ?_) #[true, true, true, false, false, false, false] rfl rfl (by kernel_rfl) (fun _ _ _ h => h) (Or.inl ⟨by rfl, ?_⟩) ?_ ?_
    rotate_left
    · intro w'
      go_simp
      with_reducible rfl
    rotate_left
    · simp only [Act.put, List.setIfInBounds_toArray, List.set_cons_zero, List.set_cons_succ, i64_w, i32_w]
      rfl
    refine pure_ (i := 4) (N := some 65) (v := ?_) (a' := ?_) #[true, true, true, false, true, false, false] rfl rfl (by kernel_rfl) (fun _ _ _ h => h) (Or.inl ⟨by rfl, ?_⟩) ?_ ?_
    rotate_left
    · intro w'
      go_simp
      with_reducible rfl
    rotate_left
    · simp only [Act.put, List.setIfInBounds_toArray, List.set_cons_zero, List.set_cons_succ, i64_w, i32_w]
      rfl
    refine take_ (i := 3) (N := some 64) (v := ?_) (a' := ?_) #[true, true, true, true, true, false, false] rfl rfl (by kernel_rfl) (fun _ _ _ h => h) (Or.inl ⟨by rfl, ?_⟩) hHeld ?_ ?_
    rotate_left
    · rintro w' ⟨s0, s1, s2⟩
      go_simp
      with_reducible rfl
    rotate_left
    · simp only [Act.put, List.setIfInBounds_toArray, List.set_cons_zero, List.set_cons_succ, i64_w, i32_w]
      rfl
    refine last_ (i := 5) (N := some 66) #[true, true, true, true, true, true, false] rfl rfl (by kernel_rfl) (by decide) (fun K hK => ?_)
    refine goes_ Tryd.func45 (by kernel_rfl) rfl #[.agg #[.bool left, .int .i64 (wd : Int), .int .u8 111], .string t] (by rfl) rfl rfl (by first | rfl | (simp [Act.eval]; done) | (simp [Act.eval, Act.put]; done)) ?_
    refine (pad_any left wd 111 t _ HW.out HT.out).mono ?_
    rintro e w6 ⟨rfl, hb6⟩
    have HE := Lib.hid (HD.out.below hb6).pi
    clear hb6
    refine ⟨_, rfl, ?_⟩
    refine hK.out _ _ ?_
    clear hK K
    refine last_ (i := 6) (N := some 67) #[true, true, true, true, true, true, true] rfl rfl (by kernel_rfl) (by decide) (fun K hK => ?_)
    refine goes_ Tryd.func24 (by kernel_rfl) rfl #[.pointer (some ⟨g, 0, none⟩), .string (asB (padM left wd t.data.toList))] (by rfl) rfl rfl (by first | rfl | (simp [Act.eval]; done) | (simp [Act.eval, Act.put]; done)) ?_
    refine (HE.out.str _ HL.out (pad_size left wd t HW.out HT.out)).mono ?_
    rintro e w7 ⟨⟨r, rfl⟩, hp⟩
    have HP := Lib.hid hp
    clear hp
    refine ⟨_, rfl, ?_⟩
    refine hK.out _ _ ?_
    clear hK K
    refine done_ (by kernel_rfl) ?_
    try go_wp2
    go_end0
    refine ⟨rfl, ?_⟩
    have := HP.out
    simpa only [asB_data'] using this
set_option maxHeartbeats 1000000 in
set_option maxRecDepth 100000 in
theorem convert0_100 {w W : World} {g : Nat} {args : List ByteArray} {out : List UInt8} {u : Nat} {bad : Bool} (left : Bool) (wd : Nat) (S : ByteArray) (n e : Int) (hS : Hid (argAt args u = S)) (h : PI w W g args ⟨out, u, bad⟩) (hl : out.length ≤ 100000000000) (hw : wd ≤ 99) (hdec : Hid (num_Decimal.f S = some (n, e)))
    (t : ByteArray) (HT : Hid (t.size ≤ 1000000)) (htx : ∀ W1 : World, Calls Tryd.prog 44 #[.int .i64 0] W1 fun e W2 => e = .returned (.string t) ∧ Below W1.heap.size W1 W2) (hz : S.size = 0) :
    Calls Tryd.prog 28 #[.pointer (some ⟨g, 0, none⟩), .agg #[.bool left, .int .i64 (wd : Int), .int .u8 100]] W fun e W' => e = .returned (.tuple #[]) ∧ PI w W' g args { out := out ++ padM left wd t.data.toList, u := u + 1, bad := bad } := by
  have hC := CI.new h #[.bool left, .int .i64 (wd : Int), .int .u8 100]
  have HC := Lib.hid hC
  have k2 := cell_blk (i := 2) hC.sp rfl
  have HL := Lib.hid hl
  have HW := Lib.hid hw
  have HTX := Lib.hid htx
  have hz1 : S.toList.isEmpty = true := isEmpty_yes hz
  clear h hC hl hw htx
  cases bad
  · skip
    go_enter Tryd.func28, Tryd.ntmps28
    go_wp2_with (first | (go_at_call 41; refine HC.out.next.mono ?_; rintro e1 w' ⟨he1, hN⟩; have he2 : e1 = .returned (.string S) := (by rw [he1]; show Ending.returned (.string (argAt args u)) = _; rw [hS.out]); subst he2; clear he1; have HN := Lib.hid hN; have m2 := cell_blk (i := 2) hN.sp rfl; clear hN) | (go_at_call 42; refine (num_Decimal.calls _ _ _ _ hdec.out).mono ?_; rintro e1 w'' ⟨rfl, hD⟩; have HN2 := Lib.hid (HN.out.drawn hD); have m3 := cell_blk (i := 2) HN2.out.sp rfl; have m4 := HN2.out.pi.c4; have y4 := HN2.out.pi.z4; have mt := cell_blk (i := 2) (HN2.out.bad true).sp rfl; have mf := cell_blk (i := 2) (HN2.out.bad false).sp rfl; clear hD) | (go_at_call 44; refine (HTX.out _).mono ?_; rintro e1 w4 ⟨rfl, hb4⟩; have HB := Lib.hid (CI.below (CI.bad HN2.out _) hb4); clear hb4))
    refine start_ (n := 7) (S := fun w' => w'.cell? ⟨W.heap.size, 0, none⟩ = some (.bool left) ∧ w'.cell? ⟨W.heap.size, 1, none⟩ = some (.int .i64 (wd : Int)) ∧ w'.cell? ⟨W.heap.size, 2, none⟩ = some (.int .u8 100)) (ds := [5, 6]) #[false, false, false, false, false, false, false] (by kernel_rfl) rfl rfl ⟨cell_blk (i := 0) HB.out.drew.sp rfl, cell_blk (i := 1) HB.out.drew.sp rfl, cell_blk (i := 2) HB.out.drew.sp rfl⟩ (fun hHeld => ?_)
    have HD := Lib.hid HB.out.drew
    clear HB
    generalize World.drew _ = wd5 at HD hHeld ⊢
    refine pure_ (i := 0) (N := some 61) (v := ?_) (a' := ?_) #[true, false, false, false, false, false, false] rfl rfl (by kernel_rfl) (fun _ _ _ h => h) (Or.inl ⟨by rfl, ?_⟩) ?_ ?_
    rotate_left
    · intro w'
      go_simp
      with_reducible rfl
    rotate_left
    · simp only [Act.put, List.setIfInBounds_toArray, List.set_cons_zero, List.set_cons_succ, i64_w, i32_w]
      rfl
    refine pure_ (i := 1) (N := some 62) (v := ?_) (a' := ?_) #[true, true, false, false, false, false, false] rfl rfl (by kernel_rfl) (fun _ _ _ h => h) (Or.inl ⟨by rfl, ?_⟩) ?_ ?_
    rotate_left
    · intro w'
      go_simp
      with_reducible rfl
    rotate_left
    · simp only [Act.put, List.setIfInBounds_toArray, List.set_cons_zero, List.set_cons_succ, i64_w, i32_w]
      rfl
    refine pure_ (i := 2) (N := some 63) (v := ?_) (a' := ?_) #[true, true, true, false, false, false, false] rfl rfl (by kernel_rfl) (fun _ _ _ h => h) (Or.inl ⟨by rfl, ?_⟩) ?_ ?_
    rotate_left
    · intro w'
      go_simp
      with_reducible rfl
    rotate_left
    · simp only [Act.put, List.setIfInBounds_toArray, List.set_cons_zero, List.set_cons_succ, i64_w, i32_w]
      rfl
    refine pure_ (i := 4) (N := some 65) (v := ?_) (a' := ?_) #[true, true, true, false, true, false, false] rfl rfl (by kernel_rfl) (fun _ _ _ h => h) (Or.inl ⟨by rfl, ?_⟩) ?_ ?_
    rotate_left
    · intro w'
      go_simp
      with_reducible rfl
    rotate_left
    · simp only [Act.put, List.setIfInBounds_toArray, List.set_cons_zero, List.set_cons_succ, i64_w, i32_w]
      rfl
    refine take_ (i := 3) (N := some 64) (v := ?_) (a' := ?_) #[true, true, true, true, true, false, false] rfl rfl (by kernel_rfl) (fun _ _ _ h => h) (Or.inl ⟨by rfl, ?_⟩) hHeld ?_ ?_
    rotate_left
    · rintro w' ⟨s0, s1, s2⟩
      go_simp
      with_reducible rfl
    rotate_left
    · simp only [Act.put, List.setIfInBounds_toArray, List.set_cons_zero, List.set_cons_succ, i64_w, i32_w]
      rfl
    refine last_ (i := 5) (N := some 66) #[true, true, true, true, true, true, false] rfl rfl (by kernel_rfl) (by decide) (fun K hK => ?_)
    refine goes_ Tryd.func45 (by kernel_rfl) rfl #[.agg #[.bool left, .int .i64 (wd : Int), .int .u8 100], .string t] (by rfl) rfl rfl (by first | rfl | (simp [Act.eval]; done) | (simp [Act.eval, Act.put]; done)) ?_
    refine (pad_any left wd 100 t _ HW.out HT.out).mono ?_
    rintro e w6 ⟨rfl, hb6⟩
    have HE := Lib.hid (HD.out.below hb6).pi
    clear hb6
    refine ⟨_, rfl, ?_⟩
    refine hK.out _ _ ?_
    clear hK K
    refine last_ (i := 6) (N := some 67) #[true, true, true, true, true, true, true] rfl rfl (by kernel_rfl) (by decide) (fun K hK => ?_)
    refine goes_ Tryd.func24 (by kernel_rfl) rfl #[.pointer (some ⟨g, 0, none⟩), .string (asB (padM left wd t.data.toList))] (by rfl) rfl rfl (by first | rfl | (simp [Act.eval]; done) | (simp [Act.eval, Act.put]; done)) ?_
    refine (HE.out.str _ HL.out (pad_size left wd t HW.out HT.out)).mono ?_
    rintro e w7 ⟨⟨r, rfl⟩, hp⟩
    have HP := Lib.hid hp
    clear hp
    refine ⟨_, rfl, ?_⟩
    refine hK.out _ _ ?_
    clear hK K
    refine done_ (by kernel_rfl) ?_
    try go_wp2
    go_end0
    refine ⟨rfl, ?_⟩
    have := HP.out
    simpa only [asB_data'] using this
  · skip
    go_enter Tryd.func28, Tryd.ntmps28
    go_wp2_with (first | (go_at_call 41; refine HC.out.next.mono ?_; rintro e1 w' ⟨he1, hN⟩; have he2 : e1 = .returned (.string S) := (by rw [he1]; show Ending.returned (.string (argAt args u)) = _; rw [hS.out]); subst he2; clear he1; have HN := Lib.hid hN; have m2 := cell_blk (i := 2) hN.sp rfl; clear hN) | (go_at_call 42; refine (num_Decimal.calls _ _ _ _ hdec.out).mono ?_; rintro e1 w'' ⟨rfl, hD⟩; have HN2 := Lib.hid (HN.out.drawn hD); have m3 := cell_blk (i := 2) HN2.out.sp rfl; have m4 := HN2.out.pi.c4; have y4 := HN2.out.pi.z4; have mt := cell_blk (i := 2) (HN2.out.bad true).sp rfl; have mf := cell_blk (i := 2) (HN2.out.bad false).sp rfl; clear hD) | (go_at_call 44; refine (HTX.out _).mono ?_; rintro e1 w4 ⟨rfl, hb4⟩; have HB := Lib.hid (CI.below (CI.bad HN2.out _) hb4); clear hb4))
    refine start_ (n := 7) (S := fun w' => w'.cell? ⟨W.heap.size, 0, none⟩ = some (.bool left) ∧ w'.cell? ⟨W.heap.size, 1, none⟩ = some (.int .i64 (wd : Int)) ∧ w'.cell? ⟨W.heap.size, 2, none⟩ = some (.int .u8 100)) (ds := [5, 6]) #[false, false, false, false, false, false, false] (by kernel_rfl) rfl rfl ⟨cell_blk (i := 0) HB.out.drew.sp rfl, cell_blk (i := 1) HB.out.drew.sp rfl, cell_blk (i := 2) HB.out.drew.sp rfl⟩ (fun hHeld => ?_)
    have HD := Lib.hid HB.out.drew
    clear HB
    generalize World.drew _ = wd5 at HD hHeld ⊢
    refine pure_ (i := 0) (N := some 61) (v := ?_) (a' := ?_) #[true, false, false, false, false, false, false] rfl rfl (by kernel_rfl) (fun _ _ _ h => h) (Or.inl ⟨by rfl, ?_⟩) ?_ ?_
    rotate_left
    · intro w'
      go_simp
      with_reducible rfl
    rotate_left
    · simp only [Act.put, List.setIfInBounds_toArray, List.set_cons_zero, List.set_cons_succ, i64_w, i32_w]
      rfl
    refine pure_ (i := 1) (N := some 62) (v := ?_) (a' := ?_) #[true, true, false, false, false, false, false] rfl rfl (by kernel_rfl) (fun _ _ _ h => h) (Or.inl ⟨by rfl, ?_⟩) ?_ ?_
    rotate_left
    · intro w'
      go_simp
      with_reducible rfl
    rotate_left
    · simp only [Act.put, List.setIfInBounds_toArray, List.set_cons_zero, List.set_cons_succ, i64_w, i32_w]
      rfl
    refine pure_ (i := 2) (N := some 63) (v := ?_) (a' := ?_) #[true, true, true, false, false, false, false] rfl rfl (by kernel_rfl) (fun _ _ _ h => h) (Or.inl ⟨by rfl, ?_⟩) ?_ ?_
    rotate_left
    · intro w'
      go_simp
      with_reducible rfl
    rotate_left
    · simp only [Act.put, List.setIfInBounds_toArray, List.set_cons_zero, List.set_cons_succ, i64_w, i32_w]
      rfl
    refine pure_ (i := 4) (N := some 65) (v := ?_) (a' := ?_) #[true, true, true, false, true, false, false] rfl rfl (by kernel_rfl) (fun _ _ _ h => h) (Or.inl ⟨by rfl, ?_⟩) ?_ ?_
    rotate_left
    · intro w'
      go_simp
      with_reducible rfl
    rotate_left
    · simp only [Act.put, List.setIfInBounds_toArray, List.set_cons_zero, List.set_cons_succ, i64_w, i32_w]
      rfl
    refine take_ (i := 3) (N := some 64) (v := ?_) (a' := ?_) #[true, true, true, true, true, false, false] rfl rfl (by kernel_rfl) (fun _ _ _ h => h) (Or.inl ⟨by rfl, ?_⟩) hHeld ?_ ?_
    rotate_left
    · rintro w' ⟨s0, s1, s2⟩
      go_simp
      with_reducible rfl
    rotate_left
    · simp only [Act.put, List.setIfInBounds_toArray, List.set_cons_zero, List.set_cons_succ, i64_w, i32_w]
      rfl
    refine last_ (i := 5) (N := some 66) #[true, true, true, true, true, true, false] rfl rfl (by kernel_rfl) (by decide) (fun K hK => ?_)
    refine goes_ Tryd.func45 (by kernel_rfl) rfl #[.agg #[.bool left, .int .i64 (wd : Int), .int .u8 100], .string t] (by rfl) rfl rfl (by first | rfl | (simp [Act.eval]; done) | (simp [Act.eval, Act.put]; done)) ?_
    refine (pad_any left wd 100 t _ HW.out HT.out).mono ?_
    rintro e w6 ⟨rfl, hb6⟩
    have HE := Lib.hid (HD.out.below hb6).pi
    clear hb6
    refine ⟨_, rfl, ?_⟩
    refine hK.out _ _ ?_
    clear hK K
    refine last_ (i := 6) (N := some 67) #[true, true, true, true, true, true, true] rfl rfl (by kernel_rfl) (by decide) (fun K hK => ?_)
    refine goes_ Tryd.func24 (by kernel_rfl) rfl #[.pointer (some ⟨g, 0, none⟩), .string (asB (padM left wd t.data.toList))] (by rfl) rfl rfl (by first | rfl | (simp [Act.eval]; done) | (simp [Act.eval, Act.put]; done)) ?_
    refine (HE.out.str _ HL.out (pad_size left wd t HW.out HT.out)).mono ?_
    rintro e w7 ⟨⟨r, rfl⟩, hp⟩
    have HP := Lib.hid hp
    clear hp
    refine ⟨_, rfl, ?_⟩
    refine hK.out _ _ ?_
    clear hK K
    refine done_ (by kernel_rfl) ?_
    try go_wp2
    go_end0
    refine ⟨rfl, ?_⟩
    have := HP.out
    simpa only [asB_data'] using this
set_option maxHeartbeats 1000000 in
set_option maxRecDepth 100000 in
theorem convert_99 {w W : World} {g : Nat} {args : List ByteArray} {out : List UInt8} {u : Nat} {bad : Bool} (left : Bool) (wd : Nat) (S : ByteArray) (hS : Hid (argAt args u = S)) (h : PI w W g args ⟨out, u, bad⟩) (hl : out.length ≤ 100000000000) (hw : wd ≤ 99) (hs : Hid (S.size ≤ 1000000)) :
    Calls Tryd.prog 28 #[.pointer (some ⟨g, 0, none⟩), .agg #[.bool left, .int .i64 (wd : Int), .int .u8 99]] W fun e W' => e = .returned (.tuple #[]) ∧ PI w W' g args { out := out ++ padM left wd (S.data.toList.take 1), u := u + 1, bad := bad } := by
  have hC := CI.new h #[.bool left, .int .i64 (wd : Int), .int .u8 99]
  have HC := Lib.hid hC
  have k2 := cell_blk (i := 2) hC.sp rfl
  have HL := Lib.hid hl
  have HW := Lib.hid hw
  clear h hC hl hw
  obtain ⟨X, hXd⟩ : ∃ X, X = S.extract 0 (min 1 (S.size : Int)).toNat := ⟨_, rfl⟩
  have hXl : X.data.toList = S.data.toList.take 1 := by
    have hl2 : S.data.toList.length = S.size := by rw [Array.length_toList]; rfl
    rw [hXd, extract_toList, List.drop_zero]
    by_cases hz : 1 ≤ S.size
    · rw [show (min 1 (S.size : Int)).toNat = 1 from by omega]
    · rw [show S.data.toList = [] from List.eq_nil_of_length_eq_zero (by omega), List.take_nil, List.take_nil]
  have HX := Lib.hid hXl
  have HT : Hid (X.size ≤ 1000000) := Lib.hid (by rw [hXd, ByteArray.size_extract]; omega)
  have HXd := Lib.hid hXd
  clear hXl hXd
  go_enter Tryd.func28, Tryd.ntmps28
  go_wp2_with (go_at_call 41; refine HC.out.next.mono ?_; rintro e1 w' ⟨he1, hN⟩; have he2 : e1 = .returned (.string S) := (by rw [he1]; show Ending.returned (.string (argAt args u)) = _; rw [hS.out]); subst he2; clear he1; have HN := Lib.hid hN; have m2 := cell_blk (i := 2) hN.sp rfl; clear hN)
  refine start_ (n := 7) (S := fun w' => w'.cell? ⟨W.heap.size, 0, none⟩ = some (.bool left) ∧ w'.cell? ⟨W.heap.size, 1, none⟩ = some (.int .i64 (wd : Int)) ∧ w'.cell? ⟨W.heap.size, 2, none⟩ = some (.int .u8 99)) (ds := [5, 6]) #[false, false, false, false, false, false, false] (by kernel_rfl) rfl rfl ⟨cell_blk (i := 0) HN.out.drew.sp rfl, cell_blk (i := 1) HN.out.drew.sp rfl, cell_blk (i := 2) HN.out.drew.sp rfl⟩ (fun hHeld => ?_)
  have HD := Lib.hid HN.out.drew
  clear HN
  generalize World.drew _ = wd5 at HD hHeld ⊢
  refine pure_ (i := 0) (N := some 61) (v := ?_) (a' := ?_) #[true, false, false, false, false, false, false] rfl rfl (by kernel_rfl) (fun _ _ _ h => h) (Or.inl ⟨by rfl, ?_⟩) ?_ ?_
  rotate_left
  · intro w'
    go_simp
    with_reducible rfl
  rotate_left
  · simp only [Act.put, List.setIfInBounds_toArray, List.set_cons_zero, List.set_cons_succ, i64_w, i32_w]
    rfl
  refine pure_ (i := 1) (N := some 62) (v := ?_) (a' := ?_) #[true, true, false, false, false, false, false] rfl rfl (by kernel_rfl) (fun _ _ _ h => h) (Or.inl ⟨by rfl, ?_⟩) ?_ ?_
  rotate_left
  · intro w'
    go_simp
    with_reducible rfl
  rotate_left
  · simp only [Act.put, List.setIfInBounds_toArray, List.set_cons_zero, List.set_cons_succ, i64_w, i32_w]
    rfl
  refine pure_ (i := 2) (N := some 63) (v := ?_) (a' := ?_) #[true, true, true, false, false, false, false] rfl rfl (by kernel_rfl) (fun _ _ _ h => h) (Or.inl ⟨by rfl, ?_⟩) ?_ ?_
  rotate_left
  · intro w'
    go_simp
    with_reducible rfl
  rotate_left
  · simp only [Act.put, List.setIfInBounds_toArray, List.set_cons_zero, List.set_cons_succ, i64_w, i32_w]
    rfl
  refine pure_ (i := 4) (N := some 65) (v := ?_) (a' := ?_) #[true, true, true, false, true, false, false] rfl rfl (by kernel_rfl) (fun _ _ _ h => h) (Or.inl ⟨by rfl, ?_⟩) ?_ ?_
  rotate_left
  · intro w'
    go_simp
    with_reducible rfl
  rotate_left
  · simp only [Act.put, List.setIfInBounds_toArray, List.set_cons_zero, List.set_cons_succ, i64_w, i32_w]
    rfl
  refine take_ (i := 3) (N := some 64) (v := ?_) (a' := ?_) #[true, true, true, true, true, false, false] rfl rfl (by kernel_rfl) (fun _ _ _ h => h) (Or.inl ⟨by rfl, ?_⟩) hHeld ?_ ?_
  rotate_left
  · rintro w' ⟨s0, s1, s2⟩
    go_simp
    with_reducible rfl
  rotate_left
  · simp only [Act.put, List.setIfInBounds_toArray, List.set_cons_zero, List.set_cons_succ, i64_w, i32_w]
    rfl
  refine last_ (i := 5) (N := some 66) #[true, true, true, true, true, true, false] rfl rfl (by kernel_rfl) (by decide) (fun K hK => ?_)
  refine goes_ Tryd.func45 (by kernel_rfl) rfl #[.agg #[.bool left, .int .i64 (wd : Int), .int .u8 99], .string X] (by rfl) rfl rfl (by rw [HXd.out]; first | rfl | (simp [Act.eval]; done) | (simp [Act.eval, Act.put]; done)) ?_
  refine (pad_any left wd 99 X _ HW.out HT.out).mono ?_
  rintro e w6 ⟨rfl, hb6⟩
  have HE := Lib.hid (HD.out.below hb6).pi
  clear hb6
  refine ⟨_, rfl, ?_⟩
  refine hK.out _ _ ?_
  clear hK K
  refine last_ (i := 6) (N := some 67) #[true, true, true, true, true, true, true] rfl rfl (by kernel_rfl) (by decide) (fun K hK => ?_)
  refine goes_ Tryd.func24 (by kernel_rfl) rfl #[.pointer (some ⟨g, 0, none⟩), .string (asB (padM left wd X.data.toList))] (by rfl) rfl rfl (by first | rfl | (simp [Act.eval]; done) | (simp [Act.eval, Act.put]; done)) ?_
  refine (HE.out.str _ HL.out (pad_size left wd X HW.out HT.out)).mono ?_
  rintro e w7 ⟨⟨r, rfl⟩, hp⟩
  have HP := Lib.hid hp
  clear hp
  refine ⟨_, rfl, ?_⟩
  refine hK.out _ _ ?_
  clear hK K
  refine done_ (by kernel_rfl) ?_
  try go_wp2
  go_end0
  refine ⟨rfl, ?_⟩
  have := HP.out
  rw [HX.out] at this
  simpa only [asB_data'] using this
end Go.Proofs.YtlinllnlokikpaaDoor
/- text.printer's convert, whole; how long what is written is. -/
set_option linter.unusedVariables false
set_option linter.unusedSimpArgs false
namespace Go.Proofs.YtlinllnlokikpaaDoor
open Go.RowKit Go.Proofs.YtlinllnlokikpaaDoorW.PrintWords

theorem baseS_len (b n : Nat) (h : n < 18446744073709551616) : (baseS b n).size ≤ 1000000 := Nat.le_trans (baseS_size b n h) (by decide)
theorem textS_len (n : Int) (h1 : -9223372036854775808 ≤ n) (h2 : n ≤ 9223372036854775807) : (textS n).size ≤ 1000000 := by
  unfold textS
  have := baseS_size 10 n.natAbs (by omega)
  split
  · rw [ByteArray.size_append]; show 1 + _ ≤ _; omega
  · omega
theorem isVerb_cases {c : UInt8} (h : isVerb c = true) : c = 115 ∨ c = 100 ∨ c = 120 ∨ c = 111 ∨ c = 99 ∨ c = 37 := by
  simp [isVerb] at h
  rcases h with ((((h | h) | h) | h) | h) | h <;> simp [h]
theorem wrap_u64 (n : Int) : IntKind.u64.wrap n = n % 18446744073709551616 := by rw [IntKind.wrap_u64]
theorem badOf_zero {s : ByteArray} (h : s.size = 0) : badOf s = false := by unfold badOf; simp [h]
theorem numOf_zero {s : ByteArray} (h : s.size = 0) : numOf s = 0 := by
  unfold numOf
  rw [decD_nil (List.eq_nil_of_length_eq_zero (by rw [Array.length_toList]; exact h))]
theorem convert_any {w W : World} {g : Nat} {args : List ByteArray} {st : PSt} (x : Bool × Nat × UInt8 × Nat) (hv : isVerb x.2.2.1 = true) (hw : x.2.1 ≤ 99) (h : PI w W g args st) (hl : st.out.length ≤ 100000000000) (hs : (argAt args st.u).size ≤ 1000000) :
    Calls Tryd.prog 28 #[.pointer (some ⟨g, 0, none⟩), .agg #[.bool x.1, .int .i64 (x.2.1 : Int), .int .u8 (x.2.2.1.toNat : Int)]] W fun e W' => e = .returned (.tuple #[]) ∧ PI w W' g args (convertM args st x) := by
  obtain ⟨left, wd, c, len⟩ := x
  obtain ⟨out, u, bad⟩ := st
  simp only at hv hw
  have hr := decD_range (argAt args u).data.toList
  have hdec : num_Decimal.f (argAt args u) = some (numOf (argAt args u), (decD (argAt args u).data.toList).2) := by unfold num_Decimal.f; rw [if_pos (by simp only at hs; omega)]; rfl
  have hb9 : ∀ hz : (argAt args u).size ≠ 0, (bad || badOf (argAt args u)) = (bad || decide ((decD (argAt args u).data.toList).2 ≠ 0)) := fun hz => by unfold badOf; rw [decide_eq_true hz, Bool.true_and]
  have hn1 : -9223372036854775808 ≤ numOf (argAt args u) := hr.1
  have hn2 : numOf (argAt args u) ≤ 9223372036854775807 := hr.2
  rcases isVerb_cases hv with rfl | rfl | rfl | rfl | rfl | rfl
  · refine (convert_s left wd h hl hw hs).mono ?_
    rintro e W' ⟨rfl, hp⟩
    refine ⟨rfl, ?_⟩
    have e9 : convertM args ⟨out, u, bad⟩ (left, wd, 115, len) = { out := out ++ padM left wd (argAt args u).data.toList, u := u + 1, bad := bad } := by simp [convertM, argM]
    rw [e9]; exact hp
  · have e9 : convertM args ⟨out, u, bad⟩ (left, wd, 100, len) = { out := out ++ padM left wd (textS (numOf (argAt args u))).data.toList, u := u + 1, bad := bad || badOf (argAt args u) } := by simp [convertM, argM]
    rw [e9]
    by_cases hz : (argAt args u).size = 0
    · rw [numOf_zero hz, badOf_zero hz, Bool.or_false]
      refine (convert0_100 left wd (argAt args u) _ _ (Lib.hid rfl) h hl hw (Lib.hid hdec) (textS 0) (Lib.hid (textS_len 0 (by omega) (by omega))) (fun W1 => text_any 0 W1 (by omega) (by omega)) hz)
    · refine (convert_100 left wd (argAt args u) _ _ (Lib.hid rfl) h hl hw (Lib.hid hdec) _ (Lib.hid (textS_len _ hn1 hn2)) (fun W1 => text_any _ W1 hn1 hn2) hz _ (Lib.hid (hb9 hz)))
  · have e9 : convertM args ⟨out, u, bad⟩ (left, wd, 120, len) = { out := out ++ padM left wd (baseS 16 (numOf (argAt args u) % 18446744073709551616).toNat).data.toList, u := u + 1, bad := bad || badOf (argAt args u) } := by simp [convertM, argM]
    rw [e9]
    by_cases hz : (argAt args u).size = 0
    · rw [numOf_zero hz, badOf_zero hz, Bool.or_false]
      refine (convert0_120 left wd (argAt args u) _ _ (Lib.hid rfl) h hl hw (Lib.hid hdec) (baseS 16 0) (Lib.hid (baseS_len 16 0 (by omega))) (fun W1 => base_lit 0 16 0 16 W1 rfl rfl (by omega)) hz)
    · refine (convert_120 left wd (argAt args u) _ _ (Lib.hid rfl) h hl hw (Lib.hid hdec) (baseS 16 (numOf (argAt args u) % 18446744073709551616).toNat) (Lib.hid (baseS_len _ _ (by omega))) (fun W1 => base_lit _ 16 (numOf (argAt args u) % 18446744073709551616).toNat 16 W1 (by rw [wrap_u64]; omega) rfl (by omega)) hz _ (Lib.hid (hb9 hz)))
  · have e9 : convertM args ⟨out, u, bad⟩ (left, wd, 111, len) = { out := out ++ padM left wd (baseS 8 (numOf (argAt args u) % 18446744073709551616).toNat).data.toList, u := u + 1, bad := bad || badOf (argAt args u) } := by simp [convertM, argM]
    rw [e9]
    by_cases hz : (argAt args u).size = 0
    · rw [numOf_zero hz, badOf_zero hz, Bool.or_false]
      refine (convert0_111 left wd (argAt args u) _ _ (Lib.hid rfl) h hl hw (Lib.hid hdec) (baseS 8 0) (Lib.hid (baseS_len 8 0 (by omega))) (fun W1 => base_lit 0 8 0 8 W1 rfl rfl (by omega)) hz)
    · refine (convert_111 left wd (argAt args u) _ _ (Lib.hid rfl) h hl hw (Lib.hid hdec) (baseS 8 (numOf (argAt args u) % 18446744073709551616).toNat) (Lib.hid (baseS_len _ _ (by omega))) (fun W1 => base_lit _ 8 (numOf (argAt args u) % 18446744073709551616).toNat 8 W1 (by rw [wrap_u64]; omega) rfl (by omega)) hz _ (Lib.hid (hb9 hz)))
  · refine (convert_99 left wd (argAt args u) (Lib.hid rfl) h hl hw (Lib.hid hs)).mono ?_
    rintro e W' ⟨rfl, hp⟩
    refine ⟨rfl, ?_⟩
    have e9 : convertM args ⟨out, u, bad⟩ (left, wd, 99, len) = { out := out ++ padM left wd ((argAt args u).data.toList.take 1), u := u + 1, bad := bad } := by simp [convertM, argM]
    rw [e9]; exact hp
  · refine (convert_pct left wd h hl).mono ?_
    rintro e W' ⟨rfl, hp⟩
    refine ⟨rfl, ?_⟩
    have e9 : convertM args ⟨out, u, bad⟩ (left, wd, 37, len) = { out := out ++ [37], u := u, bad := bad } := by simp [convertM]
    rw [e9]; exact hp

/-! what a conversion is; how long a step makes it -/
def COk (x : Bool × Nat × UInt8 × Nat) (n : Nat) : Prop := isVerb x.2.2.1 = true ∧ x.2.1 ≤ 99 ∧ 1 ≤ x.2.2.2 ∧ x.2.2.2 ≤ n
theorem convFin_ok {left : Bool} {w i : Nat} {l : List UInt8} {x : Bool × Nat × UInt8 × Nat} (hw : w ≤ 99) (h : convFin left w i l = some x) : COk x (i + l.length) := by
  cases l with
  | nil => cases h
  | cons c r =>
    simp only [convFin] at h
    split at h
    · rename_i hv; cases h; exact ⟨hv, hw, by simp, by simp⟩
    · cases h
theorem convGo_ok {left : Bool} : ∀ (l : List UInt8) (w n i : Nat) {x : Bool × Nat × UInt8 × Nat}, w ≤ 99 → (n < 2 → w ≤ 9) → (n < 1 → w ≤ 0) → convGo left w n i l = some x → COk x (i + l.length)
  | [], _, _, _, _, _, _, _, h => by cases h
  | c :: r, w, n, i, x, hw, h9, h0, h => by
    rw [convGo] at h
    split at h
    · rename_i hg
      have hd := (isDig_iff c).1 hg.1
      have := convGo_ok r (10 * w + (c.toNat - 48)) (n + 1) (i + 1) (by have := h9 hg.2; omega) (by omega) (by omega) h
      simp only [List.length_cons]
      rw [show i + (r.length + 1) = i + 1 + r.length from by omega]; exact this
    · exact convFin_ok hw h
theorem convM_ok {l : List UInt8} {x : Bool × Nat × UInt8 × Nat} (h : convM l = some x) : COk x l.length := by
  unfold convM at h
  split at h
  · rename_i hh
    cases l with
    | nil => cases hh
    | cons c r =>
      have := convGo_ok r 0 0 1 (by omega) (by omega) (by omega) h
      rw [List.length_cons, Nat.add_comm]; exact this
  · have := convGo_ok l 0 0 0 (by omega) (by omega) (by omega) h
    rw [Nat.zero_add] at this; exact this
theorem argM_len (s : ByteArray) (c : UInt8) (hs : s.size ≤ 1000000) : (argM s c).1.length ≤ 1000000 := by
  have hl : s.data.toList.length = s.size := by rw [Array.length_toList]; rfl
  have hr := decD_range s.data.toList
  have h1 : ∀ b, (baseS b (numOf s % 18446744073709551616).toNat).data.toList.length ≤ 1000000 := fun b => by rw [Array.length_toList]; exact baseS_len b _ (by omega)
  have h2 : (textS (numOf s)).data.toList.length ≤ 1000000 := by rw [Array.length_toList]; exact textS_len _ hr.1 hr.2
  unfold argM
  split
  · simp only; omega
  · split
    · simp only [List.length_take]; omega
    · split
      · exact h1 16
      · split
        · exact h1 8
        · exact h2
theorem convertM_len (args : List ByteArray) (st : PSt) (x : Bool × Nat × UInt8 × Nat) (n : Nat) (hx : COk x n) (hs : (argAt args st.u).size ≤ 1000000) : (convertM args st x).out.length ≤ st.out.length + 1000100 := by
  have h1 := argM_len (argAt args st.u) x.2.2.1 hs
  have h2 := padM_len x.1 x.2.1 (argM (argAt args st.u) x.2.2.1).1 hx.2.1
  unfold convertM
  split
  · simp
  · simp only [List.length_append]; omega
end Go.Proofs.YtlinllnlokikpaaDoor
