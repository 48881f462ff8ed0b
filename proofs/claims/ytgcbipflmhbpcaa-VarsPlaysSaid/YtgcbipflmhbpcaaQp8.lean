/- Texts of this claim's proof: small lemmas, walks and plain laws (merged by wip/shake.py). -/
import Derived.Test.YtgcbipflmhbpcaaQp1
import Derived.Test.YtgcbipflmhbpcaaQp4
import Derived.Test.YtgcbipflmhbpcaaQp7
import Derived.Lib.Join
import Derived.ChangeArms
import Derived.ChangeSlices
import Derived.WideShapes
import Derived.SizedLaws
import Derived.OpenShut
import Derived.KernelRfl
set_option linter.unusedVariables false
set_option linter.unusedSimpArgs false
namespace Go.Proofs.Ytgcbipflmhbpcaa.PV
open Go Go.RowKit Go.Proofs.Ytgcbipflmhbpcaa Go.Proofs.YtgcbipflmhbpcaaW.PrintWords Go.Proofs.YtgcbipflmhbpcaaW.PrintLast Go.Proofs.YtgcbipflmhbpcaaW.PrintMore
set_option maxHeartbeats 4000000 in
set_option maxRecDepth 100000 in
theorem does_unset (B : Nat) (S : Nat → Prop) (w : World) (g gr : Nat) (V : List S26) (A : List ByteArray) (st : Int) (nm vl : ByteArray) (P1 : Option Addr) (n1 c1 : Nat) (q : Int) (hi : Inv B S w g gr V A st) (hV : Ord V) (hl : V.length ≤ 64) (hA : A.length ≤ 1000) :
    Calls Try.prog 10 #[.pointer (some ⟨g, 0, none⟩), .pointer (some ⟨gr, 0, none⟩), .agg #[.int .i64 1, .string nm, .string vl, .slice P1 n1 c1, .int .i64 q]] w fun e w' => e = .returned (.bool true) ∧ Below B w w' ∧ ∃ S', Inv B S' w' g gr (unsV V nm) A st := by
  have hu36 := Try.underlying36
  have hu30 := Try.underlying30
  obtain ⟨kf, hkf⟩ := runs_ev V A st nm (by omega)
  have KF := Lib.hid (hkf kf (Nat.le_refl _))
  obtain ⟨P, v0, v1, hr⟩ := hi.r
  obtain ⟨A0, c0, rfl⟩ := Kd.V_slice hr.v
  obtain ⟨A1, c1', rfl⟩ := Kd.V_slice hr.a
  have HI := Lib.hid hi
  have HR := Lib.hid hr
  have HV := Lib.hid (And.intro hV hl)
  have r0 := blk_cell hr.b 0
  have r1 := blk_cell hr.b 1
  have r2 := blk_cell hr.b 2
  replace r0 : w.cell? ⟨gr, 0, none⟩ = some (.slice A0 V.length c0) := r0.trans rfl
  replace r1 : w.cell? ⟨gr, 1, none⟩ = some (.slice A1 A.length c1') := r1.trans rfl
  replace r2 : w.cell? ⟨gr, 2, none⟩ = some (.int .i64 st) := r2.trans rfl
  clear hkf hr hi hV hl hA
  go_enter Try.func10, Try.ntmps10
  go_upto_region 9 with (first | ((with_reducible refine gate_dst (N := 5) rfl ?_); refine box_event ?hg (N := 5) ?hd (cs := #[.int .i64 1, .string nm, .string vl, .slice P1 n1 c1, .int .i64 q]) (t := 30) ?hr ?_; (case hd => rfl); (case hg => rfl); (case hr => first | (go_simp; done) | (go_simp; rfl)); intro ga hg w1 hbox hb; have GA := Lib.hid hg; have BA := Lib.hid hbox; have HW := Lib.hid hb; have x0 : w1.cell? ⟨ga, 0, none⟩ = some (.int .i64 1) := (blk_cell hbox 0).trans rfl; have x1 : w1.cell? ⟨ga, 1, none⟩ = some (.string nm) := (blk_cell hbox 1).trans rfl; have x2 : w1.cell? ⟨ga, 2, none⟩ = some (.string vl) := (blk_cell hbox 2).trans rfl; have x3 : w1.cell? ⟨ga, 3, none⟩ = some (.slice P1 n1 c1) := (blk_cell hbox 3).trans rfl; have x4 : w1.cell? ⟨ga, 4, none⟩ = some (.int .i64 q) := (blk_cell hbox 4).trans rfl; replace r0 := cellB r0 hb; replace r1 := cellB r1 hb; replace r2 := cellB r2 hb; clear hg hbox hb) | ((with_reducible refine gate_dst (N := 7) rfl ?_); refine box_event ?hg (N := 7) ?hd (cs := #[.slice none 0 0, .slice none 0 0, .int .i64 0]) (t := 36) ?hr ?_; (case hd => rfl); (case hg => rfl); (case hr => first | (go_simp; done) | (go_simp; rfl)); intro gn hg w2 hbox hb; have BN := Lib.hid hbox; have GN := Lib.hid hg; have HW2 := Lib.hid hb; clear hg hbox hb) | (refine store_tab rfl rfl (.tmp 7) (.tmp 14) rfl (A0 := A0) (n0 := V.length) (c0 := c0) (A1 := A1) (n1 := A.length) (c1 := c1') (st := st) rfl rfl BN.out ?_; intro w3 hb3 hw3; replace BN := Lib.hid hb3; have HW3 := Lib.hid (new_box GN.out HW2.out hw3); replace x0 := cellB x0 HW3.out; replace x1 := cellB x1 HW3.out; replace x2 := cellB x2 HW3.out; replace x3 := cellB x3 HW3.out; replace x4 := cellB x4 HW3.out; replace r0 := cellB r0 HW3.out; replace r1 := cellB r1 HW3.out; replace r2 := cellB r2 HW3.out; clear hb3 hw3 HW2))
  refine start_ (n := 7) (S := (fun w' => w'.cell? ⟨gr, 0, none⟩ = some (.slice A0 V.length c0) ∧ w'.cell? ⟨gr, 1, none⟩ = some (.slice A1 A.length c1') ∧ w'.cell? ⟨gr, 2, none⟩ = some (.int .i64 st) ∧ w'.cell? ⟨ga, 1, none⟩ = some (.string nm))) (ds := [6]) #[false, false, false, false, false, false, false] (by kernel_rfl) rfl rfl ⟨r0, r1, r2, x1⟩ (fun hHeld => ?_)
  have HBD : Hid (Below w3.heap.size w3 (World.drew w3)) := Lib.hid ((Below.refl _ w3).drew)
  have HGN : Hid (w.heap.size ≤ gn) := Lib.hid (by have := HW.out.size; have := GN.out; omega)
  have HGA : Hid (ga < gn) := Lib.hid (by have := blk_lt BA.out; have := GN.out; omega)
  clear r0 r1 r2
  generalize World.drew _ = wd at HBD hHeld ⊢
  iterate 5 (first | ((first | refine takeS_ 0 (N := some 46) (v := ?_) (a' := ?_) rfl rfl (by decide +kernel) (fun _ _ _ h => h) (Or.inl ⟨by rfl, ?_⟩) hHeld ?_ ?_ | refine takeS_ 1 (N := some 47) (v := ?_) (a' := ?_) rfl rfl (by decide +kernel) (fun _ _ _ h => h) (Or.inl ⟨by rfl, ?_⟩) hHeld ?_ ?_ | refine takeS_ 2 (N := some 48) (v := ?_) (a' := ?_) rfl rfl (by decide +kernel) (fun _ _ _ h => h) (Or.inl ⟨by rfl, ?_⟩) hHeld ?_ ?_ | refine takeS_ 3 (N := some 49) (v := ?_) (a' := ?_) rfl rfl (by decide +kernel) (fun _ _ _ h => h) (Or.inl ⟨by rfl, ?_⟩) hHeld ?_ ?_ | refine takeS_ 4 (N := some 50) (v := ?_) (a' := ?_) rfl rfl (by decide +kernel) (fun _ _ _ h => h) (Or.inl ⟨by rfl, ?_⟩) hHeld ?_ ?_); rotate_left; (rintro w' ⟨r0, r1, r2, x1⟩; go_simp; first | done | (with_reducible rfl) | rfl); rotate_left; (simp only [Act.put, List.setIfInBounds_toArray, List.set_cons_zero, List.set_cons_succ, i64_w, i32_w]; rfl)) | ((first | refine takeS_ 0 (N := some 46) (v := undef) (a' := ?_) rfl rfl (by decide +kernel) (fun _ _ _ h => h) (Or.inr ⟨by rfl, rfl⟩) hHeld ?_ ?_ | refine takeS_ 1 (N := some 47) (v := undef) (a' := ?_) rfl rfl (by decide +kernel) (fun _ _ _ h => h) (Or.inr ⟨by rfl, rfl⟩) hHeld ?_ ?_ | refine takeS_ 2 (N := some 48) (v := undef) (a' := ?_) rfl rfl (by decide +kernel) (fun _ _ _ h => h) (Or.inr ⟨by rfl, rfl⟩) hHeld ?_ ?_ | refine takeS_ 3 (N := some 49) (v := undef) (a' := ?_) rfl rfl (by decide +kernel) (fun _ _ _ h => h) (Or.inr ⟨by rfl, rfl⟩) hHeld ?_ ?_ | refine takeS_ 4 (N := some 50) (v := undef) (a' := ?_) rfl rfl (by decide +kernel) (fun _ _ _ h => h) (Or.inr ⟨by rfl, rfl⟩) hHeld ?_ ?_); rotate_left; (simp only [Act.put, List.setIfInBounds_toArray, List.set_cons_zero, List.set_cons_succ, i64_w, i32_w]; rfl)))
  refine oneS_ 5 (N := some 51) rfl rfl (by kernel_rfl) (by decide) (fun K hK => ?_)
  refine goes_ Try.func26 (by kernel_rfl) rfl #[.agg #[.slice A0 V.length c0, .slice A1 A.length c1', .int .i64 st], .string nm] (by rfl) rfl rfl (by first | rfl | (simp [Act.eval]; done) | (simp [Act.eval, Act.put]; done)) ?_
  have HWD := Lib.hid (below_step (below_step HW.out HW3.out) HBD.out)
  have HRD := Lib.hid (HR.out.below HWD.out)
  refine (rehearsalref11_Table_Unset.calls kf A0 c0 V P A1 c1' A st nm _ _ _ wd (Kd.V_reads' HRD.out.v).2.2 (Kd.V_reads' HRD.out.v).2.1 HRD.out.a KF.out).mono ?_
  rintro e w5 ⟨v0, v1, rfl, hv0, hv1, hb⟩
  replace hv0 := Kd.R_V (base' := 0) hv0
  obtain ⟨A2, c2, rfl⟩ := Kd.V_slice hv0
  obtain ⟨A3, c3, rfl⟩ := Kd.V_slice hv1
  refine ⟨_, rfl, ?_⟩
  refine hK.out _ _ ⟨cellB hHeld.1 hb, cellB hHeld.2.1 hb, cellB hHeld.2.2.1 hb, cellB hHeld.2.2.2 hb⟩ (fun hHeld => ?_)
  clear hK K
  have HN5 := Lib.hid (blk_below (blk_below BN.out HBD.out) hb)
  have HW5 := Lib.hid (below_step HWD.out hb)
  have X0 := Lib.hid hv0
  have X1 := Lib.hid hv1
  have HSZ := Lib.hid hb.size
  have HZ := Lib.hid (below_step HBD.out hb)
  have HNA1 : Hid (ga < w5.heap.size ∧ ¬ ga = gn) := Lib.hid ⟨Nat.lt_of_lt_of_le (blk_lt (blk_below BA.out HW3.out)) HZ.out.size, fun e => by have := HGA.out; omega⟩
  clear hv0 hv1 hb
  refine norm_ (a' := ?_) ?_ ?_
  rotate_left
  · show Act.put _ (some 51) _ = _
    simp only [Act.put, List.setIfInBounds_toArray, List.set_cons_zero, List.set_cons_succ, i64_w, i32_w]
    rfl
  have y0 : w5.cell? ⟨gn, 0, none⟩ = some (.slice A0 V.length c0) := (blk_cell HN5.out 0).trans rfl
  have y1 : w5.cell? ⟨gn, 1, none⟩ = some (.slice A1 A.length c1') := (blk_cell HN5.out 1).trans rfl
  have y2 : w5.cell? ⟨gn, 2, none⟩ = some (.int .i64 st) := (blk_cell HN5.out 2).trans rfl
  have f0 := blk_frozen HN5.out 0
  have f1 := blk_frozen HN5.out 1
  have f2 := blk_frozen HN5.out 2
  clear hHeld
  refine lastS_ 6 (N := none) rfl rfl (by kernel_rfl) (by decide) (fun K hK => ?_)
  refine skip_ (w1 := ?_) (by rfl) rfl ?_ ?_
  rotate_left
  · go_simp
    rfl
  refine hK.out _ _ ?_
  clear hK K
  refine done_ (by kernel_rfl) ?_
  clear y0 y1 y2 f0 f1 f2
  have BN6 := Lib.hid (three_put (x := .slice A2 (unsV V nm).length c2) (y := .slice A3 A.length c3) (z := .int .i64 st) HN5.out)
  have HF6 := Lib.hid (three_frm w5 gn (.slice A2 (unsV V nm).length c2) (.slice A3 A.length c3) (.int .i64 st))
  generalize (((w5.setCell ⟨gn, 0, none⟩ (.slice A2 (unsV V nm).length c2)).setCell ⟨gn, 1, none⟩ (.slice A3 A.length c3)).setCell ⟨gn, 2, none⟩ (.int .i64 st)) = w6 at BN6 HF6 ⊢
  have HW6 := Lib.hid (box_step HGN.out HW5.out HF6.out)
  obtain ⟨P2, hq⟩ := rq_new (fun k hk => (HI.out.s k hk).2) (blk_lt HR.out.b) (fun k hk => ⟨(HR.out.p k hk).1, (HR.out.p k hk).2.1, (HR.out.p k hk).2.2.1⟩) HGN.out (.inl (Nat.lt_of_lt_of_le (blk_lt BN.out) HBD.out.size)) HWD.out.size (fun k hk => hk) (Kd.V_mono X0.out (fun k hk => .inr hk)) (Kd.V_mono X1.out (fun k hk => hk.1)) BN6.out HF6.out HSZ.out
  have HQ := Lib.hid hq
  have HNA := HNA1.out
  have z1 : w6.cell? ⟨ga, 1, none⟩ = some (.string nm) := (cell_far HF6.out HNA).trans (cellB x1 HZ.out)
  have z2 : w6.cell? ⟨ga, 2, none⟩ = some (.string vl) := (cell_far HF6.out HNA).trans (cellB x2 HZ.out)
  clear hq X0 X1 HSZ HN5 HW5 HWD HRD HNA
  go_wp2_with (first | (go_at_call 17; (with_reducible refine (unsetX_calls B S w6 g V A st nm (HI.out.t.frm HW6.out) (Nat.le_trans HI.out.B0 HW6.out.size) HV.out.1 HV.out.2).mono ?_); rintro e w7 ⟨rfl, hf, ht⟩; have HF7 := Lib.hid hf; have HT7 := Lib.hid ht; have HQ7 := Lib.hid (HQ.out.frm hf (fun k hk => (HQ.out.p k hk).2.1) (fun h => Nat.lt_irrefl _ (Nat.lt_of_lt_of_le (HI.out.s gn h).2 HGN.out))); have HR7 := Lib.hid ((HR.out.below HW6.out).frm hf (fun k hk => (HR.out.p k hk).2.1) HI.out.g); have y0 := blk_cell HQ7.out.b 0; have y1 := blk_cell HQ7.out.b 1; have y2 := blk_cell HQ7.out.b 2; clear hf ht) | (refine store_tab rfl rfl (.tmp 93) (.tmp 92) rfl (A0 := A2) (c0 := c2) (A1 := A3) (c1 := c3) rfl rfl HR7.out.b ?_; intro w8 hb8 hw8; have HB8 := Lib.hid hb8; have HF8 := Lib.hid hw8; clear hb8 hw8))
  go_ret
  exact ⟨by first | rfl | simp, does_end HI.out HW6.out HQ.out HGN.out HF7.out HT7.out HB8.out HF8.out⟩
set_option maxHeartbeats 4000000 in
set_option maxRecDepth 100000 in
theorem does_args (B : Nat) (S : Nat → Prop) (w : World) (g gr : Nat) (V : List S26) (A : List ByteArray) (st : Int) (nm vl : ByteArray) (P1 : Option Addr) (c1 : Nat) (L : List ByteArray) (q : Int) (hi : Inv B S w g gr V A st) (hV : Ord V) (hl : V.length ≤ 64) (hA : A.length ≤ 1000) (A4 : List ByteArray) (E : Int) (hA4 : (if argsE L = 0 then L else A) = A4) (hE : argsE L = E) (hL : Kd.V Kd.string 9 w 0 (fun k => k < B) (.slice P1 L.length c1) L) :
    Calls Try.prog 10 #[.pointer (some ⟨g, 0, none⟩), .pointer (some ⟨gr, 0, none⟩), .agg #[.int .i64 2, .string nm, .string vl, .slice P1 L.length c1, .int .i64 q]] w fun e w' => e = .returned (.bool true) ∧ Below B w w' ∧ ∃ S', Inv B S' w' g gr V A4 st := by
  have hu36 := Try.underlying36
  have hu30 := Try.underlying30
  obtain ⟨kf, hkf⟩ := rargs_ev V A L st
  have KF := Lib.hid (hkf kf (Nat.le_refl _))
  obtain ⟨P, v0, v1, hr⟩ := hi.r
  obtain ⟨A0, c0, rfl⟩ := Kd.V_slice hr.v
  obtain ⟨A1, c1', rfl⟩ := Kd.V_slice hr.a
  have HI := Lib.hid hi
  have HR := Lib.hid hr
  have HV := Lib.hid (And.intro hV hl)
  have r0 := blk_cell hr.b 0
  have r1 := blk_cell hr.b 1
  have r2 := blk_cell hr.b 2
  replace r0 : w.cell? ⟨gr, 0, none⟩ = some (.slice A0 V.length c0) := r0.trans rfl
  replace r1 : w.cell? ⟨gr, 1, none⟩ = some (.slice A1 A.length c1') := r1.trans rfl
  replace r2 : w.cell? ⟨gr, 2, none⟩ = some (.int .i64 st) := r2.trans rfl
  have HL1 := Lib.hid hL
  rw [hA4, hE] at KF
  have HA4 := Lib.hid hA4
  have HE4 := Lib.hid hE
  clear hkf hr hi hV hl hA hL hA4 hE
  go_enter Try.func10, Try.ntmps10
  go_upto_region 12 with (first | ((with_reducible refine gate_dst (N := 5) rfl ?_); refine box_event ?hg (N := 5) ?hd (cs := #[.int .i64 2, .string nm, .string vl, .slice P1 L.length c1, .int .i64 q]) (t := 30) ?hr ?_; (case hd => rfl); (case hg => rfl); (case hr => first | (go_simp; done) | (go_simp; rfl)); intro ga hg w1 hbox hb; have GA := Lib.hid hg; have BA := Lib.hid hbox; have HW := Lib.hid hb; have x0 : w1.cell? ⟨ga, 0, none⟩ = some (.int .i64 2) := (blk_cell hbox 0).trans rfl; have x1 : w1.cell? ⟨ga, 1, none⟩ = some (.string nm) := (blk_cell hbox 1).trans rfl; have x2 : w1.cell? ⟨ga, 2, none⟩ = some (.string vl) := (blk_cell hbox 2).trans rfl; have x3 : w1.cell? ⟨ga, 3, none⟩ = some (.slice P1 L.length c1) := (blk_cell hbox 3).trans rfl; have x4 : w1.cell? ⟨ga, 4, none⟩ = some (.int .i64 q) := (blk_cell hbox 4).trans rfl; replace r0 := cellB r0 hb; replace r1 := cellB r1 hb; replace r2 := cellB r2 hb; clear hg hbox hb) | ((with_reducible refine gate_dst (N := 7) rfl ?_); refine box_event ?hg (N := 7) ?hd (cs := #[.slice none 0 0, .slice none 0 0, .int .i64 0]) (t := 36) ?hr ?_; (case hd => rfl); (case hg => rfl); (case hr => first | (go_simp; done) | (go_simp; rfl)); intro gn hg w2 hbox hb; have BN := Lib.hid hbox; have GN := Lib.hid hg; have HW2 := Lib.hid hb; clear hg hbox hb) | (refine store_tab rfl rfl (.tmp 7) (.tmp 14) rfl (A0 := A0) (n0 := V.length) (c0 := c0) (A1 := A1) (n1 := A.length) (c1 := c1') (st := st) rfl rfl BN.out ?_; intro w3 hb3 hw3; replace BN := Lib.hid hb3; have HW3 := Lib.hid (new_box GN.out HW2.out hw3); replace x0 := cellB x0 HW3.out; replace x1 := cellB x1 HW3.out; replace x2 := cellB x2 HW3.out; replace x3 := cellB x3 HW3.out; replace x4 := cellB x4 HW3.out; replace r0 := cellB r0 HW3.out; replace r1 := cellB r1 HW3.out; replace r2 := cellB r2 HW3.out; clear hb3 hw3 HW2))
  refine start_ (n := 11) (S := (fun w' => w'.cell? ⟨gr, 0, none⟩ = some (.slice A0 V.length c0) ∧ w'.cell? ⟨gr, 1, none⟩ = some (.slice A1 A.length c1') ∧ w'.cell? ⟨gr, 2, none⟩ = some (.int .i64 st) ∧ w'.cell? ⟨ga, 3, none⟩ = some (.slice P1 L.length c1))) (ds := [9]) #[false, false, false, false, false, false, false, false, false, false, false] (by kernel_rfl) rfl rfl ⟨r0, r1, r2, x3⟩ (fun hHeld => ?_)
  have HBD : Hid (Below w3.heap.size w3 (World.drew w3)) := Lib.hid ((Below.refl _ w3).drew)
  have HGN : Hid (w.heap.size ≤ gn) := Lib.hid (by have := HW.out.size; have := GN.out; omega)
  have HGA : Hid (ga < gn) := Lib.hid (by have := blk_lt BA.out; have := GN.out; omega)
  clear r0 r1 r2
  generalize World.drew _ = wd at HBD hHeld ⊢
  iterate 5 (first | ((first | refine takeS_ 0 (N := some 59) (v := ?_) (a' := ?_) rfl rfl (by decide +kernel) (fun _ _ _ h => h) (Or.inl ⟨by rfl, ?_⟩) hHeld ?_ ?_ | refine takeS_ 1 (N := some 60) (v := ?_) (a' := ?_) rfl rfl (by decide +kernel) (fun _ _ _ h => h) (Or.inl ⟨by rfl, ?_⟩) hHeld ?_ ?_ | refine takeS_ 2 (N := some 61) (v := ?_) (a' := ?_) rfl rfl (by decide +kernel) (fun _ _ _ h => h) (Or.inl ⟨by rfl, ?_⟩) hHeld ?_ ?_ | refine takeS_ 3 (N := some 62) (v := ?_) (a' := ?_) rfl rfl (by decide +kernel) (fun _ _ _ h => h) (Or.inl ⟨by rfl, ?_⟩) hHeld ?_ ?_ | refine takeS_ 4 (N := some 63) (v := ?_) (a' := ?_) rfl rfl (by decide +kernel) (fun _ _ _ h => h) (Or.inl ⟨by rfl, ?_⟩) hHeld ?_ ?_); rotate_left; (rintro w' ⟨r0, r1, r2, x3⟩; go_simp; first | done | (with_reducible rfl) | rfl); rotate_left; (simp only [Act.put, List.setIfInBounds_toArray, List.set_cons_zero, List.set_cons_succ, i64_w, i32_w]; rfl)) | ((first | refine takeS_ 0 (N := some 59) (v := undef) (a' := ?_) rfl rfl (by decide +kernel) (fun _ _ _ h => h) (Or.inr ⟨by rfl, rfl⟩) hHeld ?_ ?_ | refine takeS_ 1 (N := some 60) (v := undef) (a' := ?_) rfl rfl (by decide +kernel) (fun _ _ _ h => h) (Or.inr ⟨by rfl, rfl⟩) hHeld ?_ ?_ | refine takeS_ 2 (N := some 61) (v := undef) (a' := ?_) rfl rfl (by decide +kernel) (fun _ _ _ h => h) (Or.inr ⟨by rfl, rfl⟩) hHeld ?_ ?_ | refine takeS_ 3 (N := some 62) (v := undef) (a' := ?_) rfl rfl (by decide +kernel) (fun _ _ _ h => h) (Or.inr ⟨by rfl, rfl⟩) hHeld ?_ ?_ | refine takeS_ 4 (N := some 63) (v := undef) (a' := ?_) rfl rfl (by decide +kernel) (fun _ _ _ h => h) (Or.inr ⟨by rfl, rfl⟩) hHeld ?_ ?_); rotate_left; (simp only [Act.put, List.setIfInBounds_toArray, List.set_cons_zero, List.set_cons_succ, i64_w, i32_w]; rfl)))
  refine oneS_ 5 (N := some 64) rfl rfl (by kernel_rfl) (by decide) (fun K hK => ?_)
  refine goes_ Try.func25 (by kernel_rfl) rfl #[.agg #[.slice A0 V.length c0, .slice A1 A.length c1', .int .i64 st], .slice P1 L.length c1] (by rfl) rfl rfl (by first | rfl | (simp [Act.eval]; done) | (simp [Act.eval, Act.put]; done)) ?_
  have HWD := Lib.hid (below_step (below_step HW.out HW3.out) HBD.out)
  have HRD := Lib.hid (HR.out.below HWD.out)
  refine (rehearsalref11_Table_SetArgs.calls kf P A0 c0 V P A1 c1' A st (fun k => k < B) P1 c1 L _ _ _ _ wd HRD.out.v HRD.out.a (Kd.V_below HL1.out HWD.out) KF.out).mono ?_
  rintro e w5 ⟨v0, v1, rfl, hv0, hv1, hb⟩
  obtain ⟨A2, c2, rfl⟩ := Kd.V_slice hv0
  obtain ⟨A3, c3, rfl⟩ := Kd.V_slice hv1
  refine ⟨_, rfl, ?_⟩
  refine hK.out _ _ ⟨cellB hHeld.1 hb, cellB hHeld.2.1 hb, cellB hHeld.2.2.1 hb, cellB hHeld.2.2.2 hb⟩ (fun hHeld => ?_)
  clear hK K
  have HN5 := Lib.hid (blk_below (blk_below BN.out HBD.out) hb)
  have HW5 := Lib.hid (below_step HWD.out hb)
  have X0 := Lib.hid hv0
  have X1 := Lib.hid hv1
  have HSZ := Lib.hid hb.size
  have HZ := Lib.hid (below_step HBD.out hb)
  have HNA1 : Hid (ga < w5.heap.size ∧ ¬ ga = gn) := Lib.hid ⟨Nat.lt_of_lt_of_le (blk_lt (blk_below BA.out HW3.out)) HZ.out.size, fun e => by have := HGA.out; omega⟩
  clear hv0 hv1 hb
  refine norm_ (a' := ?_) ?_ ?_
  rotate_left
  · show Act.put _ (some 64) _ = _
    simp only [Act.put, List.setIfInBounds_toArray, List.set_cons_zero, List.set_cons_succ, i64_w, i32_w]
    rfl
  iterate 2 (first | ((first | refine takeS_ 6 (N := some 58) (v := ?_) (a' := ?_) rfl rfl (by decide +kernel) (fun _ _ _ h => h) (Or.inl ⟨by rfl, ?_⟩) hHeld ?_ ?_ | refine takeS_ 7 (N := some 65) (v := ?_) (a' := ?_) rfl rfl (by decide +kernel) (fun _ _ _ h => h) (Or.inl ⟨by rfl, ?_⟩) hHeld ?_ ?_); rotate_left; (rintro w' _; go_simp; first | done | (with_reducible rfl) | rfl); rotate_left; (simp only [Act.put, List.setIfInBounds_toArray, List.set_cons_zero, List.set_cons_succ, i64_w, i32_w]; rfl)) | ((first | refine takeS_ 6 (N := some 58) (v := undef) (a' := ?_) rfl rfl (by decide +kernel) (fun _ _ _ h => h) (Or.inr ⟨by rfl, rfl⟩) hHeld ?_ ?_ | refine takeS_ 7 (N := some 65) (v := undef) (a' := ?_) rfl rfl (by decide +kernel) (fun _ _ _ h => h) (Or.inr ⟨by rfl, rfl⟩) hHeld ?_ ?_); rotate_left; (simp only [Act.put, List.setIfInBounds_toArray, List.set_cons_zero, List.set_cons_succ, i64_w, i32_w]; rfl)))
  iterate 1 (first | ((first | refine pureS_ 8 (N := some 66) (v := ?_) (a' := ?_) rfl rfl (by decide +kernel) (fun _ _ _ h => h) (Or.inl ⟨by rfl, ?_⟩) ?_ ?_); rotate_left; (intro w'; go_simp; first | done | (with_reducible rfl) | rfl); rotate_left; (simp only [Act.put, List.setIfInBounds_toArray, List.set_cons_zero, List.set_cons_succ, i64_w, i32_w]; rfl)) | ((first | refine pureS_ 8 (N := some 66) (v := undef) (a' := ?_) rfl rfl (by decide +kernel) (fun _ _ _ h => h) (Or.inr ⟨by rfl, rfl⟩) ?_ ?_); rotate_left; (simp only [Act.put, List.setIfInBounds_toArray, List.set_cons_zero, List.set_cons_succ, i64_w, i32_w]; rfl)))
  have y0 : w5.cell? ⟨gn, 0, none⟩ = some (.slice A0 V.length c0) := (blk_cell HN5.out 0).trans rfl
  have y1 : w5.cell? ⟨gn, 1, none⟩ = some (.slice A1 A.length c1') := (blk_cell HN5.out 1).trans rfl
  have y2 : w5.cell? ⟨gn, 2, none⟩ = some (.int .i64 st) := (blk_cell HN5.out 2).trans rfl
  have f0 := blk_frozen HN5.out 0
  have f1 := blk_frozen HN5.out 1
  have f2 := blk_frozen HN5.out 2
  clear hHeld
  refine lastS_ 9 (N := none) rfl rfl (by kernel_rfl) (by decide) (fun K hK => ?_)
  refine skip_ (w1 := ?_) (by rfl) rfl ?_ ?_
  rotate_left
  · go_simp
    rfl
  refine hK.out _ _ ?_
  clear hK K
  iterate 1 (first | ((first | refine pureS_ 10 (N := some 8) (v := ?_) (a' := ?_) rfl rfl (by decide +kernel) (fun _ _ _ h => h) (Or.inl ⟨by rfl, ?_⟩) ?_ ?_); rotate_left; (intro w'; go_simp; first | done | (with_reducible rfl) | rfl); rotate_left; (simp only [Act.put, List.setIfInBounds_toArray, List.set_cons_zero, List.set_cons_succ, i64_w, i32_w]; rfl)) | ((first | refine pureS_ 10 (N := some 8) (v := undef) (a' := ?_) rfl rfl (by decide +kernel) (fun _ _ _ h => h) (Or.inr ⟨by rfl, rfl⟩) ?_ ?_); rotate_left; (simp only [Act.put, List.setIfInBounds_toArray, List.set_cons_zero, List.set_cons_succ, i64_w, i32_w]; rfl)))
  refine done_ (by kernel_rfl) ?_
  clear y0 y1 y2 f0 f1 f2
  have BN6 := Lib.hid (three_put (x := .slice A2 V.length c2) (y := .slice A3 A4.length c3) (z := .int .i64 st) HN5.out)
  have HF6 := Lib.hid (three_frm w5 gn (.slice A2 V.length c2) (.slice A3 A4.length c3) (.int .i64 st))
  generalize (((w5.setCell ⟨gn, 0, none⟩ (.slice A2 V.length c2)).setCell ⟨gn, 1, none⟩ (.slice A3 A4.length c3)).setCell ⟨gn, 2, none⟩ (.int .i64 st)) = w6 at BN6 HF6 ⊢
  have HW6 := Lib.hid (box_step HGN.out HW5.out HF6.out)
  obtain ⟨P2, hq⟩ := rq_new (P := fun k => P k ∨ k < B) (fun k hk => (HI.out.s k hk).2) (blk_lt HR.out.b) (fun k hk => hk.elim (fun hk => ⟨(HR.out.p k hk).1, (HR.out.p k hk).2.1, (HR.out.p k hk).2.2.1⟩) (fun hk => ⟨Nat.lt_of_lt_of_le hk HI.out.B0, fun h => Nat.lt_irrefl _ (Nat.lt_of_lt_of_le hk (HI.out.s k h).1), fun e => by have := HI.out.B1; omega⟩)) HGN.out (.inl (Nat.lt_of_lt_of_le (blk_lt BN.out) HBD.out.size)) HWD.out.size (fun k hk => hk.elim (fun h => .inl (h.elim .inl (fun h => h.elim .inl .inr))) .inr) X0.out X1.out BN6.out HF6.out HSZ.out
  have HQ := Lib.hid hq
  have HNA := HNA1.out
  have z1 : w6.cell? ⟨ga, 3, none⟩ = some (.slice P1 L.length c1) := (cell_far HF6.out HNA).trans (cellB x3 HZ.out)
  have z2 : w6.cell? ⟨ga, 2, none⟩ = some (.string vl) := (cell_far HF6.out HNA).trans (cellB x2 HZ.out)
  clear hq X0 X1 HSZ HN5 HW5 HWD HRD HNA
  go_wp2_with (first | (go_at_call 19; (with_reducible refine (setArgsX_calls B S w6 g V A L st P1 c1 (HI.out.t.frm HW6.out) (Nat.le_trans HI.out.B0 HW6.out.size) (Kd.V_reads' (Kd.V_below HL1.out HW6.out)).2.2).mono ?_); rw [HA4.out, HE4.out]; rintro e w7 ⟨rfl, hf, ht⟩; have HF7 := Lib.hid hf; have HT7 := Lib.hid ht; have HQ7 := Lib.hid (HQ.out.frm hf (fun k hk => (HQ.out.p k hk).2.1) (fun h => Nat.lt_irrefl _ (Nat.lt_of_lt_of_le (HI.out.s gn h).2 HGN.out))); have HR7 := Lib.hid ((HR.out.below HW6.out).frm hf (fun k hk => (HR.out.p k hk).2.1) HI.out.g); have y0 := blk_cell HQ7.out.b 0; have y1 := blk_cell HQ7.out.b 1; have y2 := blk_cell HQ7.out.b 2; clear hf ht) | (refine store_tab rfl rfl (.tmp 93) (.tmp 92) rfl (A0 := A2) (c0 := c2) (A1 := A3) (c1 := c3) rfl rfl HR7.out.b ?_; intro w8 hb8 hw8; have HB8 := Lib.hid hb8; have HF8 := Lib.hid hw8; clear hb8 hw8))
  go_ret
  exact ⟨by first | rfl | simp, does_end HI.out HW6.out HQ.out HGN.out HF7.out HT7.out HB8.out HF8.out⟩
theorem rshift_ev (V : List S26) (A : List ByteArray) (st q : Int) : rehearsalref11_Table_Shift.f V A st q = some (V, if 0 ≤ q ∧ q ≤ A.length then A.drop q.toNat else A, st, decide (0 ≤ q ∧ q ≤ A.length)) := by
  unfold rehearsalref11_Table_Shift.f
  by_cases h0 : q < 0
  · rw [if_pos h0, if_neg (by omega), decide_eq_false (by omega)]
  · rw [if_neg h0]
    by_cases h1 : q > (A.length : Int)
    · rw [if_pos h1, if_neg (by omega), decide_eq_false (by omega)]
    · rw [if_neg h1, if_pos (by omega), if_pos (by omega), if_pos (by omega), decide_eq_true (by omega)]
set_option maxHeartbeats 4000000 in
set_option maxRecDepth 100000 in
theorem does_shift (B : Nat) (S : Nat → Prop) (w : World) (g gr : Nat) (V : List S26) (A : List ByteArray) (st : Int) (nm vl : ByteArray) (P1 : Option Addr) (n1 c1 : Nat) (q : Int) (hi : Inv B S w g gr V A st) (hV : Ord V) (hl : V.length ≤ 64) (hA : A.length ≤ 1000) (A4 : List ByteArray) (E : Bool) (hA4 : (if 0 ≤ q ∧ q ≤ A.length then A.drop q.toNat else A) = A4) (hE : decide (0 ≤ q ∧ q ≤ A.length) = E) :
    Calls Try.prog 10 #[.pointer (some ⟨g, 0, none⟩), .pointer (some ⟨gr, 0, none⟩), .agg #[.int .i64 3, .string nm, .string vl, .slice P1 n1 c1, .int .i64 q]] w fun e w' => e = .returned (.bool true) ∧ Below B w w' ∧ ∃ S', Inv B S' w' g gr V A4 st := by
  have hu36 := Try.underlying36
  have hu30 := Try.underlying30
  have hkf := rshift_ev V A st q
  rw [hA4, hE] at hkf
  have KF := Lib.hid hkf
  have HA := Lib.hid hA
  have HA4 := Lib.hid hA4
  have HE4 := Lib.hid hE
  obtain ⟨P, v0, v1, hr⟩ := hi.r
  obtain ⟨A0, c0, rfl⟩ := Kd.V_slice hr.v
  obtain ⟨A1, c1', rfl⟩ := Kd.V_slice hr.a
  have HI := Lib.hid hi
  have HR := Lib.hid hr
  have HV := Lib.hid (And.intro hV hl)
  have r0 := blk_cell hr.b 0
  have r1 := blk_cell hr.b 1
  have r2 := blk_cell hr.b 2
  replace r0 : w.cell? ⟨gr, 0, none⟩ = some (.slice A0 V.length c0) := r0.trans rfl
  replace r1 : w.cell? ⟨gr, 1, none⟩ = some (.slice A1 A.length c1') := r1.trans rfl
  replace r2 : w.cell? ⟨gr, 2, none⟩ = some (.int .i64 st) := r2.trans rfl
  clear hkf hr hi hV hl hA hA4 hE
  go_enter Try.func10, Try.ntmps10
  go_upto_region 15 with (first | ((with_reducible refine gate_dst (N := 5) rfl ?_); refine box_event ?hg (N := 5) ?hd (cs := #[.int .i64 3, .string nm, .string vl, .slice P1 n1 c1, .int .i64 q]) (t := 30) ?hr ?_; (case hd => rfl); (case hg => rfl); (case hr => first | (go_simp; done) | (go_simp; rfl)); intro ga hg w1 hbox hb; have GA := Lib.hid hg; have BA := Lib.hid hbox; have HW := Lib.hid hb; have x0 : w1.cell? ⟨ga, 0, none⟩ = some (.int .i64 3) := (blk_cell hbox 0).trans rfl; have x1 : w1.cell? ⟨ga, 1, none⟩ = some (.string nm) := (blk_cell hbox 1).trans rfl; have x2 : w1.cell? ⟨ga, 2, none⟩ = some (.string vl) := (blk_cell hbox 2).trans rfl; have x3 : w1.cell? ⟨ga, 3, none⟩ = some (.slice P1 n1 c1) := (blk_cell hbox 3).trans rfl; have x4 : w1.cell? ⟨ga, 4, none⟩ = some (.int .i64 q) := (blk_cell hbox 4).trans rfl; replace r0 := cellB r0 hb; replace r1 := cellB r1 hb; replace r2 := cellB r2 hb; clear hg hbox hb) | ((with_reducible refine gate_dst (N := 7) rfl ?_); refine box_event ?hg (N := 7) ?hd (cs := #[.slice none 0 0, .slice none 0 0, .int .i64 0]) (t := 36) ?hr ?_; (case hd => rfl); (case hg => rfl); (case hr => first | (go_simp; done) | (go_simp; rfl)); intro gn hg w2 hbox hb; have BN := Lib.hid hbox; have GN := Lib.hid hg; have HW2 := Lib.hid hb; clear hg hbox hb) | (refine store_tab rfl rfl (.tmp 7) (.tmp 14) rfl (A0 := A0) (n0 := V.length) (c0 := c0) (A1 := A1) (n1 := A.length) (c1 := c1') (st := st) rfl rfl BN.out ?_; intro w3 hb3 hw3; replace BN := Lib.hid hb3; have HW3 := Lib.hid (new_box GN.out HW2.out hw3); replace x0 := cellB x0 HW3.out; replace x1 := cellB x1 HW3.out; replace x2 := cellB x2 HW3.out; replace x3 := cellB x3 HW3.out; replace x4 := cellB x4 HW3.out; replace r0 := cellB r0 HW3.out; replace r1 := cellB r1 HW3.out; replace r2 := cellB r2 HW3.out; clear hb3 hw3 HW2))
  refine start_ (n := 12) (S := (fun w' => w'.cell? ⟨gr, 0, none⟩ = some (.slice A0 V.length c0) ∧ w'.cell? ⟨gr, 1, none⟩ = some (.slice A1 A.length c1') ∧ w'.cell? ⟨gr, 2, none⟩ = some (.int .i64 st) ∧ w'.cell? ⟨ga, 4, none⟩ = some (.int .i64 q))) (ds := [10]) #[false, false, false, false, false, false, false, false, false, false, false, false] (by kernel_rfl) rfl rfl ⟨r0, r1, r2, x4⟩ (fun hHeld => ?_)
  have HBD : Hid (Below w3.heap.size w3 (World.drew w3)) := Lib.hid ((Below.refl _ w3).drew)
  have HGN : Hid (w.heap.size ≤ gn) := Lib.hid (by have := HW.out.size; have := GN.out; omega)
  have HGA : Hid (ga < gn) := Lib.hid (by have := blk_lt BA.out; have := GN.out; omega)
  clear r0 r1 r2
  generalize World.drew _ = wd at HBD hHeld ⊢
  have HWD := Lib.hid (below_step (below_step HW.out HW3.out) HBD.out)
  have HRD := Lib.hid (HR.out.below HWD.out)
  have HX4 := Lib.hid HBD.out
  clear x1 x2 x3 BN GN HGN HGA
  iterate 5 (first | ((first | refine takeS_ 0 (N := some 74) (v := ?_) (a' := ?_) rfl rfl (by decide +kernel) (fun _ _ _ h => h) (Or.inl ⟨by rfl, ?_⟩) hHeld ?_ ?_ | refine takeS_ 1 (N := some 75) (v := ?_) (a' := ?_) rfl rfl (by decide +kernel) (fun _ _ _ h => h) (Or.inl ⟨by rfl, ?_⟩) hHeld ?_ ?_ | refine takeS_ 2 (N := some 76) (v := ?_) (a' := ?_) rfl rfl (by decide +kernel) (fun _ _ _ h => h) (Or.inl ⟨by rfl, ?_⟩) hHeld ?_ ?_ | refine takeS_ 3 (N := some 77) (v := ?_) (a' := ?_) rfl rfl (by decide +kernel) (fun _ _ _ h => h) (Or.inl ⟨by rfl, ?_⟩) hHeld ?_ ?_ | refine takeS_ 4 (N := some 78) (v := ?_) (a' := ?_) rfl rfl (by decide +kernel) (fun _ _ _ h => h) (Or.inl ⟨by rfl, ?_⟩) hHeld ?_ ?_); rotate_left; (rintro w' ⟨r0, r1, r2, x4⟩; go_simp; first | done | (with_reducible rfl) | rfl); rotate_left; (simp only [Act.put, List.setIfInBounds_toArray, List.set_cons_zero, List.set_cons_succ, i64_w, i32_w]; rfl)) | ((first | refine takeS_ 0 (N := some 74) (v := undef) (a' := ?_) rfl rfl (by decide +kernel) (fun _ _ _ h => h) (Or.inr ⟨by rfl, rfl⟩) hHeld ?_ ?_ | refine takeS_ 1 (N := some 75) (v := undef) (a' := ?_) rfl rfl (by decide +kernel) (fun _ _ _ h => h) (Or.inr ⟨by rfl, rfl⟩) hHeld ?_ ?_ | refine takeS_ 2 (N := some 76) (v := undef) (a' := ?_) rfl rfl (by decide +kernel) (fun _ _ _ h => h) (Or.inr ⟨by rfl, rfl⟩) hHeld ?_ ?_ | refine takeS_ 3 (N := some 77) (v := undef) (a' := ?_) rfl rfl (by decide +kernel) (fun _ _ _ h => h) (Or.inr ⟨by rfl, rfl⟩) hHeld ?_ ?_ | refine takeS_ 4 (N := some 78) (v := undef) (a' := ?_) rfl rfl (by decide +kernel) (fun _ _ _ h => h) (Or.inr ⟨by rfl, rfl⟩) hHeld ?_ ?_); rotate_left; (simp only [Act.put, List.setIfInBounds_toArray, List.set_cons_zero, List.set_cons_succ, i64_w, i32_w]; rfl)))
  refine two_ (i := 5) (j := 9) (Ni := some 79) (Nj := some 10) #[true, true, true, true, true, true, false, false, false, false, false, false] #[true, true, true, true, true, false, false, false, false, true, false, false] rfl rfl rfl rfl (by decide +kernel) (by decide) (by decide) (fun K hK => ?_) (fun K hK => ?_)
  · refine goes_ Try.func27 (by kernel_rfl) rfl #[.agg #[.slice A0 V.length c0, .slice A1 A.length c1', .int .i64 st], .int .i64 q] (by rfl) rfl rfl (by first | rfl | (simp [Act.eval]; done) | (simp [Act.eval, Act.put]; done)) ?_
    refine (rehearsalref11_Table_Shift.calls P A0 c0 V P A1 c1' A st q _ _ _ _ wd HRD.out.v HRD.out.a KF.out).mono ?_
    rintro e w5 ⟨v0, v1, rfl, hv0, hv1, hb⟩
    obtain ⟨A2, c2, rfl⟩ := Kd.V_slice hv0
    obtain ⟨A3, c3, rfl⟩ := Kd.V_slice hv1
    refine ⟨_, rfl, ?_⟩
    refine hK.out _ _ ⟨cellB hHeld.1 hb, cellB hHeld.2.1 hb, cellB hHeld.2.2.1 hb, cellB hHeld.2.2.2 hb⟩ (fun hHeld => ?_)
    clear hK K
    have HW5 := Lib.hid (below_step HWD.out hb)
    have HZ := Lib.hid (below_step HX4.out hb)
    have X0 := Lib.hid hv0
    have X1 := Lib.hid hv1
    have HSZ := Lib.hid hb.size
    clear hv0 hv1 hb
    refine norm_ (a' := ?_) ?_ ?_
    rotate_left
    · show Act.put _ (some 79) _ = _
      simp only [Act.put, List.setIfInBounds_toArray, List.set_cons_zero, List.set_cons_succ, i64_w, i32_w]
      rfl
    iterate 2 (first | ((first | refine takeS_ 6 (N := some 73) (v := ?_) (a' := ?_) rfl rfl (by decide +kernel) (fun _ _ _ h => h) (Or.inl ⟨by rfl, ?_⟩) hHeld ?_ ?_ | refine takeS_ 7 (N := some 80) (v := ?_) (a' := ?_) rfl rfl (by decide +kernel) (fun _ _ _ h => h) (Or.inl ⟨by rfl, ?_⟩) hHeld ?_ ?_); rotate_left; (rintro w' _; go_simp; first | done | (with_reducible rfl) | rfl); rotate_left; (simp only [Act.put, List.setIfInBounds_toArray, List.set_cons_zero, List.set_cons_succ, i64_w, i32_w]; rfl)) | ((first | refine takeS_ 6 (N := some 73) (v := undef) (a' := ?_) rfl rfl (by decide +kernel) (fun _ _ _ h => h) (Or.inr ⟨by rfl, rfl⟩) hHeld ?_ ?_ | refine takeS_ 7 (N := some 80) (v := undef) (a' := ?_) rfl rfl (by decide +kernel) (fun _ _ _ h => h) (Or.inr ⟨by rfl, rfl⟩) hHeld ?_ ?_); rotate_left; (simp only [Act.put, List.setIfInBounds_toArray, List.set_cons_zero, List.set_cons_succ, i64_w, i32_w]; rfl)))
    iterate 1 (first | ((first | refine pureS_ 8 (N := some 81) (v := ?_) (a' := ?_) rfl rfl (by decide +kernel) (fun _ _ _ h => h) (Or.inl ⟨by rfl, ?_⟩) ?_ ?_); rotate_left; (intro w'; go_simp; first | done | (with_reducible rfl) | rfl); rotate_left; (simp only [Act.put, List.setIfInBounds_toArray, List.set_cons_zero, List.set_cons_succ, i64_w, i32_w]; rfl)) | ((first | refine pureS_ 8 (N := some 81) (v := undef) (a' := ?_) rfl rfl (by decide +kernel) (fun _ _ _ h => h) (Or.inr ⟨by rfl, rfl⟩) ?_ ?_); rotate_left; (simp only [Act.put, List.setIfInBounds_toArray, List.set_cons_zero, List.set_cons_succ, i64_w, i32_w]; rfl)))
    refine oneS_ 9 (N := some 10) rfl rfl (by kernel_rfl) (by decide) (fun K hK => ?_)
    refine value_ (v := .pointer (some ⟨w5.heap.size, 0, none⟩)) (w1 := w5.alloc (.cells #[.slice none 0 0, .slice none 0 0, .int .i64 0] 36 (0, 0))) (by rfl) rfl (by first | (go_simp; done) | (go_simp; rfl)) ?_
    have hal : Below w5.heap.size w5 (w5.alloc (.cells #[.slice none 0 0, .slice none 0 0, .int .i64 0] 36 (0, 0))) := below_alloc (Below.refl _ _) _
    have BN := Lib.hid (blk_new w5 (.cells #[.slice none 0 0, .slice none 0 0, .int .i64 0] 36 (0, 0)))
    refine hK.out _ _ ⟨cellB hHeld.1 hal, cellB hHeld.2.1 hal, cellB hHeld.2.2.1 hal, cellB hHeld.2.2.2 hal⟩ (fun hHeld => ?_)
    clear hK K
    refine norm_ (a' := ?_) ?_ ?_
    rotate_left
    · show Act.put _ (some 10) _ = _
      simp only [Act.put, List.setIfInBounds_toArray, List.set_cons_zero, List.set_cons_succ, i64_w, i32_w]
      rfl
    have HNA1 : ga < w5.heap.size ∧ ¬ ga = w5.heap.size := ⟨Nat.lt_of_lt_of_le (blk_lt (blk_below BA.out HW3.out)) HZ.out.size, fun e => by have := Nat.lt_of_lt_of_le (blk_lt (blk_below BA.out HW3.out)) HZ.out.size; omega⟩
    have y0 : (w5.alloc (.cells #[.slice none 0 0, .slice none 0 0, .int .i64 0] 36 (0, 0))).cell? ⟨w5.heap.size, 0, none⟩ = some (.slice none 0 0) := (blk_cell BN.out 0).trans rfl
    have y1 : (w5.alloc (.cells #[.slice none 0 0, .slice none 0 0, .int .i64 0] 36 (0, 0))).cell? ⟨w5.heap.size, 1, none⟩ = some (.slice none 0 0) := (blk_cell BN.out 1).trans rfl
    have y2 : (w5.alloc (.cells #[.slice none 0 0, .slice none 0 0, .int .i64 0] 36 (0, 0))).cell? ⟨w5.heap.size, 2, none⟩ = some (.int .i64 0) := (blk_cell BN.out 2).trans rfl
    have f0 := blk_frozen BN.out 0
    have f1 := blk_frozen BN.out 1
    have f2 := blk_frozen BN.out 2
    clear hHeld
    refine lastS_ 10 (N := none) rfl rfl (by kernel_rfl) (by decide) (fun K hK => ?_)
    refine skip_ (w1 := ?_) (by rfl) rfl ?_ ?_
    rotate_left
    · go_simp
      rfl
    refine hK.out _ _ ?_
    clear hK K
    iterate 1 (first | ((first | refine pureS_ 11 (N := some 11) (v := ?_) (a' := ?_) rfl rfl (by decide +kernel) (fun _ _ _ h => h) (Or.inl ⟨by rfl, ?_⟩) ?_ ?_); rotate_left; (intro w'; go_simp; first | done | (with_reducible rfl) | rfl); rotate_left; (simp only [Act.put, List.setIfInBounds_toArray, List.set_cons_zero, List.set_cons_succ, i64_w, i32_w]; rfl)) | ((first | refine pureS_ 11 (N := some 11) (v := undef) (a' := ?_) rfl rfl (by decide +kernel) (fun _ _ _ h => h) (Or.inr ⟨by rfl, rfl⟩) ?_ ?_); rotate_left; (simp only [Act.put, List.setIfInBounds_toArray, List.set_cons_zero, List.set_cons_succ, i64_w, i32_w]; rfl)))
    refine done_ (by kernel_rfl) ?_
    clear y0 y1 y2 f0 f1 f2
    have BN6 := Lib.hid (blk_new w5 (.cells #[.slice A2 V.length c2, .slice A3 A4.length c3, .int .i64 st] 36 (0, 0)))
    have HF6 : Hid (Frm (fun k => k = w5.heap.size) w5 (w5.alloc (.cells #[.slice A2 V.length c2, .slice A3 A4.length c3, .int .i64 st] 36 (0, 0)))) := Lib.hid (Frm.of_below (below_alloc (Below.refl _ _) _))
    generalize (w5.alloc (.cells #[.slice A2 V.length c2, .slice A3 A4.length c3, .int .i64 st] 36 (0, 0))) = w6 at BN6 HF6 ⊢
    have HGN : Hid (w.heap.size ≤ w5.heap.size) := Lib.hid (HW5.out.size)
    have HW6 := Lib.hid (box_step HGN.out HW5.out HF6.out)
    obtain ⟨P2, hq⟩ := rq_new (P := P) (fun k hk => (HI.out.s k hk).2) (blk_lt HR.out.b) (fun k hk => ⟨(HR.out.p k hk).1, (HR.out.p k hk).2.1, (HR.out.p k hk).2.2.1⟩) HGN.out (.inr (Nat.le_refl _)) HWD.out.size (fun k hk => hk.elim (fun h => .inl (h.elim id id)) .inr) X0.out X1.out BN6.out HF6.out HSZ.out
    have HQ := Lib.hid hq
    have z0 : w6.cell? ⟨ga, 4, none⟩ = some (.int .i64 q) := (cell_far HF6.out HNA1).trans (cellB x4 HZ.out)
    have HR6 := Lib.hid (HR.out.below HW6.out)
    have HNG : Hid (ga < w6.heap.size ∧ ¬ ga = gr) := Lib.hid ⟨Nat.lt_of_lt_of_le HNA1.1 HF6.out.size, fun e => by have := blk_lt HR.out.b; have := GA.out; omega⟩
    clear hq X0 X1 HSZ HW5 HWD HRD
    generalize w5.heap.size = gn at *
    have y0 : w6.cell? ⟨gn, 0, none⟩ = some (.slice A2 V.length c2) := (blk_cell BN6.out 0).trans rfl
    have y1 : w6.cell? ⟨gn, 1, none⟩ = some (.slice A3 A4.length c3) := (blk_cell BN6.out 1).trans rfl
    have y2 : w6.cell? ⟨gn, 2, none⟩ = some (.int .i64 st) := (blk_cell BN6.out 2).trans rfl
    go_wp2_with (first | (refine store_tab rfl rfl (.tmp 84) (.tmp 83) rfl (A0 := A2) (n0 := V.length) (c0 := c2) (A1 := A3) (n1 := A4.length) (c1 := c3) (st := st) rfl rfl HR6.out.b ?_; intro w7 hb7 hw7; have HB7 := Lib.hid hb7; have HF7 := Lib.hid hw7; have HT7 := Lib.hid ((HI.out.t.frm HW6.out).step hw7 (fun k hk e => HI.out.g (by have e : k = gr := e; subst e; exact hk))); have z4 : w7.cell? ⟨ga, 4, none⟩ = some (.int .i64 q) := (cell_far hw7 HNG.out).trans z0; clear hb7 hw7) | (go_at_call 20; (with_reducible refine (shiftX_calls B S w7 g V A st q HT7.out (Nat.le_trans HI.out.B0 (Nat.le_trans HW6.out.size HF7.out.size)) HA.out).mono ?_); rw [HA4.out, HE4.out]; rintro e w8 ⟨rfl, hf, ht⟩; have HF8 := Lib.hid hf; have HT8 := Lib.hid ht; clear hf ht))
    go_ret
    exact ⟨by first | rfl | simp, does_end2 HI.out HW6.out HQ.out HB7.out HF7.out HF8.out HT8.out⟩
  · refine value_ (v := .pointer (some ⟨wd.heap.size, 0, none⟩)) (w1 := wd.alloc (.cells #[.slice none 0 0, .slice none 0 0, .int .i64 0] 36 (0, 0))) (by rfl) rfl (by first | (go_simp; done) | (go_simp; rfl)) ?_
    have hal : Below wd.heap.size wd (wd.alloc (.cells #[.slice none 0 0, .slice none 0 0, .int .i64 0] 36 (0, 0))) := below_alloc (Below.refl _ _) _
    have BN := Lib.hid (blk_new wd (.cells #[.slice none 0 0, .slice none 0 0, .int .i64 0] 36 (0, 0)))
    refine hK.out _ _ ⟨cellB hHeld.1 hal, cellB hHeld.2.1 hal, cellB hHeld.2.2.1 hal, cellB hHeld.2.2.2 hal⟩ (fun hHeld => ?_)
    clear hK K
    refine norm_ (a' := ?_) ?_ ?_
    rotate_left
    · show Act.put _ (some 10) _ = _
      simp only [Act.put, List.setIfInBounds_toArray, List.set_cons_zero, List.set_cons_succ, i64_w, i32_w]
      rfl
    replace HWD := Lib.hid (below_step HWD.out hal)
    replace HX4 := Lib.hid (below_step HX4.out hal)
    replace HRD := Lib.hid (HRD.out.below hal)
    have HGD : Hid (wd.heap.size < (wd.alloc (.cells #[.slice none 0 0, .slice none 0 0, .int .i64 0] 36 (0, 0))).heap.size) := Lib.hid (blk_lt BN.out)
    have HGE : Hid (w1.heap.size ≤ wd.heap.size ∧ w.heap.size ≤ wd.heap.size) := Lib.hid ⟨(below_step HW3.out HBD.out).size, (below_step (below_step HW.out HW3.out) HBD.out).size⟩
    generalize (wd.alloc (.cells #[.slice none 0 0, .slice none 0 0, .int .i64 0] 36 (0, 0))) = wa at *
    generalize wd.heap.size = gn at *
    refine oneS_ 5 (N := some 79) rfl rfl (by kernel_rfl) (by decide) (fun K hK => ?_)
    refine goes_ Try.func27 (by kernel_rfl) rfl #[.agg #[.slice A0 V.length c0, .slice A1 A.length c1', .int .i64 st], .int .i64 q] (by rfl) rfl rfl (by first | rfl | (simp [Act.eval]; done) | (simp [Act.eval, Act.put]; done)) ?_
    refine (rehearsalref11_Table_Shift.calls P A0 c0 V P A1 c1' A st q _ _ _ _ wa HRD.out.v HRD.out.a KF.out).mono ?_
    rintro e w5 ⟨v0, v1, rfl, hv0, hv1, hb⟩
    obtain ⟨A2, c2, rfl⟩ := Kd.V_slice hv0
    obtain ⟨A3, c3, rfl⟩ := Kd.V_slice hv1
    refine ⟨_, rfl, ?_⟩
    refine hK.out _ _ ⟨cellB hHeld.1 hb, cellB hHeld.2.1 hb, cellB hHeld.2.2.1 hb, cellB hHeld.2.2.2 hb⟩ (fun hHeld => ?_)
    clear hK K
    have HW5 := Lib.hid (below_step HWD.out hb)
    have HZ := Lib.hid (below_step HX4.out hb)
    have X0 := Lib.hid hv0
    have X1 := Lib.hid hv1
    have HSZ := Lib.hid hb.size
    replace BN := Lib.hid (blk_below BN.out hb)
    clear hv0 hv1 hb
    refine norm_ (a' := ?_) ?_ ?_
    rotate_left
    · show Act.put _ (some 79) _ = _
      simp only [Act.put, List.setIfInBounds_toArray, List.set_cons_zero, List.set_cons_succ, i64_w, i32_w]
      rfl
    iterate 2 (first | ((first | refine takeS_ 6 (N := some 73) (v := ?_) (a' := ?_) rfl rfl (by decide +kernel) (fun _ _ _ h => h) (Or.inl ⟨by rfl, ?_⟩) hHeld ?_ ?_ | refine takeS_ 7 (N := some 80) (v := ?_) (a' := ?_) rfl rfl (by decide +kernel) (fun _ _ _ h => h) (Or.inl ⟨by rfl, ?_⟩) hHeld ?_ ?_); rotate_left; (rintro w' _; go_simp; first | done | (with_reducible rfl) | rfl); rotate_left; (simp only [Act.put, List.setIfInBounds_toArray, List.set_cons_zero, List.set_cons_succ, i64_w, i32_w]; rfl)) | ((first | refine takeS_ 6 (N := some 73) (v := undef) (a' := ?_) rfl rfl (by decide +kernel) (fun _ _ _ h => h) (Or.inr ⟨by rfl, rfl⟩) hHeld ?_ ?_ | refine takeS_ 7 (N := some 80) (v := undef) (a' := ?_) rfl rfl (by decide +kernel) (fun _ _ _ h => h) (Or.inr ⟨by rfl, rfl⟩) hHeld ?_ ?_); rotate_left; (simp only [Act.put, List.setIfInBounds_toArray, List.set_cons_zero, List.set_cons_succ, i64_w, i32_w]; rfl)))
    iterate 1 (first | ((first | refine pureS_ 8 (N := some 81) (v := ?_) (a' := ?_) rfl rfl (by decide +kernel) (fun _ _ _ h => h) (Or.inl ⟨by rfl, ?_⟩) ?_ ?_); rotate_left; (intro w'; go_simp; first | done | (with_reducible rfl) | rfl); rotate_left; (simp only [Act.put, List.setIfInBounds_toArray, List.set_cons_zero, List.set_cons_succ, i64_w, i32_w]; rfl)) | ((first | refine pureS_ 8 (N := some 81) (v := undef) (a' := ?_) rfl rfl (by decide +kernel) (fun _ _ _ h => h) (Or.inr ⟨by rfl, rfl⟩) ?_ ?_); rotate_left; (simp only [Act.put, List.setIfInBounds_toArray, List.set_cons_zero, List.set_cons_succ, i64_w, i32_w]; rfl)))
    have HNA1 : ga < w5.heap.size ∧ ¬ ga = gn := ⟨Nat.lt_of_lt_of_le (blk_lt (blk_below BA.out HW3.out)) HZ.out.size, fun e => by have := blk_lt BA.out; have := HGE.out; omega⟩
    have y0 : w5.cell? ⟨gn, 0, none⟩ = some (.slice none 0 0) := (blk_cell BN.out 0).trans rfl
    have y1 : w5.cell? ⟨gn, 1, none⟩ = some (.slice none 0 0) := (blk_cell BN.out 1).trans rfl
    have y2 : w5.cell? ⟨gn, 2, none⟩ = some (.int .i64 0) := (blk_cell BN.out 2).trans rfl
    have f0 := blk_frozen BN.out 0
    have f1 := blk_frozen BN.out 1
    have f2 := blk_frozen BN.out 2
    clear hHeld
    refine lastS_ 10 (N := none) rfl rfl (by kernel_rfl) (by decide) (fun K hK => ?_)
    refine skip_ (w1 := ?_) (by rfl) rfl ?_ ?_
    rotate_left
    · go_simp
      rfl
    refine hK.out _ _ ?_
    clear hK K
    iterate 1 (first | ((first | refine pureS_ 11 (N := some 11) (v := ?_) (a' := ?_) rfl rfl (by decide +kernel) (fun _ _ _ h => h) (Or.inl ⟨by rfl, ?_⟩) ?_ ?_); rotate_left; (intro w'; go_simp; first | done | (with_reducible rfl) | rfl); rotate_left; (simp only [Act.put, List.setIfInBounds_toArray, List.set_cons_zero, List.set_cons_succ, i64_w, i32_w]; rfl)) | ((first | refine pureS_ 11 (N := some 11) (v := undef) (a' := ?_) rfl rfl (by decide +kernel) (fun _ _ _ h => h) (Or.inr ⟨by rfl, rfl⟩) ?_ ?_); rotate_left; (simp only [Act.put, List.setIfInBounds_toArray, List.set_cons_zero, List.set_cons_succ, i64_w, i32_w]; rfl)))
    refine done_ (by kernel_rfl) ?_
    clear y0 y1 y2 f0 f1 f2
    have BN6 := Lib.hid (three_put (x := .slice A2 V.length c2) (y := .slice A3 A4.length c3) (z := .int .i64 st) BN.out)
    have HF6 : Hid (Frm (fun k => k = gn) w5 (((w5.setCell ⟨gn, 0, none⟩ (.slice A2 V.length c2)).setCell ⟨gn, 1, none⟩ (.slice A3 A4.length c3)).setCell ⟨gn, 2, none⟩ (.int .i64 st))) := Lib.hid (three_frm w5 gn _ _ _)
    generalize (((w5.setCell ⟨gn, 0, none⟩ (.slice A2 V.length c2)).setCell ⟨gn, 1, none⟩ (.slice A3 A4.length c3)).setCell ⟨gn, 2, none⟩ (.int .i64 st)) = w6 at BN6 HF6 ⊢
    have HGN : Hid (w.heap.size ≤ gn) := Lib.hid (HGE.out.2)
    have HW6 := Lib.hid (box_step HGN.out HW5.out HF6.out)
    obtain ⟨P2, hq⟩ := rq_new (P := P) (fun k hk => (HI.out.s k hk).2) (blk_lt HR.out.b) (fun k hk => ⟨(HR.out.p k hk).1, (HR.out.p k hk).2.1, (HR.out.p k hk).2.2.1⟩) HGN.out (.inl HGD.out) HWD.out.size (fun k hk => hk.elim (fun h => .inl (h.elim id id)) .inr) X0.out X1.out BN6.out HF6.out HSZ.out
    have HQ := Lib.hid hq
    have z0 : w6.cell? ⟨ga, 4, none⟩ = some (.int .i64 q) := (cell_far HF6.out HNA1).trans (cellB x4 HZ.out)
    have HR6 := Lib.hid (HR.out.below HW6.out)
    have HNG : Hid (ga < w6.heap.size ∧ ¬ ga = gr) := Lib.hid ⟨Nat.lt_of_lt_of_le HNA1.1 HF6.out.size, fun e => by have := blk_lt HR.out.b; have := GA.out; omega⟩
    clear hq X0 X1 HSZ HW5 HWD HRD
    have y0 : w6.cell? ⟨gn, 0, none⟩ = some (.slice A2 V.length c2) := (blk_cell BN6.out 0).trans rfl
    have y1 : w6.cell? ⟨gn, 1, none⟩ = some (.slice A3 A4.length c3) := (blk_cell BN6.out 1).trans rfl
    have y2 : w6.cell? ⟨gn, 2, none⟩ = some (.int .i64 st) := (blk_cell BN6.out 2).trans rfl
    go_wp2_with (first | (refine store_tab rfl rfl (.tmp 84) (.tmp 83) rfl (A0 := A2) (n0 := V.length) (c0 := c2) (A1 := A3) (n1 := A4.length) (c1 := c3) (st := st) rfl rfl HR6.out.b ?_; intro w7 hb7 hw7; have HB7 := Lib.hid hb7; have HF7 := Lib.hid hw7; have HT7 := Lib.hid ((HI.out.t.frm HW6.out).step hw7 (fun k hk e => HI.out.g (by have e : k = gr := e; subst e; exact hk))); have z4 : w7.cell? ⟨ga, 4, none⟩ = some (.int .i64 q) := (cell_far hw7 HNG.out).trans z0; clear hb7 hw7) | (go_at_call 20; (with_reducible refine (shiftX_calls B S w7 g V A st q HT7.out (Nat.le_trans HI.out.B0 (Nat.le_trans HW6.out.size HF7.out.size)) HA.out).mono ?_); rw [HA4.out, HE4.out]; rintro e w8 ⟨rfl, hf, ht⟩; have HF8 := Lib.hid hf; have HT8 := Lib.hid ht; clear hf ht))
    go_ret
    exact ⟨by first | rfl | simp, does_end2 HI.out HW6.out HQ.out HB7.out HF7.out HF8.out HT8.out⟩
theorem TX.stat {B : Nat} {S : Nat → Prop} {w : World} {g : Nat} {V : List S26} {A : List ByteArray} {st : Int} (h : TX B S w g V A st) (q : Int) : TX B S (w.setCell ⟨g, 2, none⟩ (.int .i64 q)) g V A q := by
  obtain ⟨vv, va, ht, hg, hv, ha⟩ := h
  exact ⟨vv, va, ⟨blk_put ht.bt 2 _ rfl, ht.eg, own_setCell ht.ov (own_ne ht.ov ht.bt (by decide)) _, own_setCell ht.oa (own_ne ht.oa ht.bt (by decide)) _⟩, hg, hv, ha⟩
theorem TX.st {B : Nat} {S : Nat → Prop} {w : World} {g : Nat} {V : List S26} {A : List ByteArray} {st : Int} (h : TX B S w g V A st) : w.cell? ⟨g, 2, none⟩ = some (.int .i64 st) ∧ w.frozen? ⟨g, 2, none⟩ = false := by
  obtain ⟨vv, va, ht, _⟩ := h
  exact ⟨(blk_cell ht.bt 2).trans rfl, blk_frozen ht.bt 2⟩
theorem frm_one {S : Nat → Prop} (w : World) (g j : Nat) (v : Value) (h : S g) : Frm S w (w.setCell ⟨g, j, none⟩ v) := (Frm.refl S w).setCell _ _ (fun _ => h)
set_option maxHeartbeats 4000000 in
set_option maxRecDepth 100000 in
theorem does_stat (B : Nat) (S : Nat → Prop) (w : World) (g gr : Nat) (V : List S26) (A : List ByteArray) (st : Int) (nm vl : ByteArray) (P1 : Option Addr) (n1 c1 : Nat) (q : Int) (hi : Inv B S w g gr V A st) (hV : Ord V) (hl : V.length ≤ 64) (hA : A.length ≤ 1000) (kd : Int) (k0 : kd ≠ 0) (k1 : kd ≠ 1) (k2 : kd ≠ 2) (k3 : kd ≠ 3) :
    Calls Try.prog 10 #[.pointer (some ⟨g, 0, none⟩), .pointer (some ⟨gr, 0, none⟩), .agg #[.int .i64 kd, .string nm, .string vl, .slice P1 n1 c1, .int .i64 q]] w fun e w' => e = .returned (.bool true) ∧ Below B w w' ∧ ∃ S', Inv B S' w' g gr V A q := by
  have hu36 := Try.underlying36
  have hu30 := Try.underlying30
  have b0 : (kd == 0) = false := beq_eq_false_iff_ne.2 k0
  have b1 : (kd == 1) = false := beq_eq_false_iff_ne.2 k1
  have b2 : (kd == 2) = false := beq_eq_false_iff_ne.2 k2
  have b3 : (kd == 3) = false := beq_eq_false_iff_ne.2 k3
  replace k0 := eq_false k0
  replace k1 := eq_false k1
  replace k2 := eq_false k2
  replace k3 := eq_false k3
  obtain ⟨P, v0, v1, hr⟩ := hi.r
  obtain ⟨A0, c0, rfl⟩ := Kd.V_slice hr.v
  obtain ⟨A1, c1', rfl⟩ := Kd.V_slice hr.a
  have HI := Lib.hid hi
  have HR := Lib.hid hr
  have HV := Lib.hid (And.intro hV hl)
  have r0 := blk_cell hr.b 0
  have r1 := blk_cell hr.b 1
  have r2 := blk_cell hr.b 2
  replace r0 : w.cell? ⟨gr, 0, none⟩ = some (.slice A0 V.length c0) := r0.trans rfl
  replace r1 : w.cell? ⟨gr, 1, none⟩ = some (.slice A1 A.length c1') := r1.trans rfl
  replace r2 : w.cell? ⟨gr, 2, none⟩ = some (.int .i64 st) := r2.trans rfl
  clear hr hi hV hl hA
  go_enter Try.func10, Try.ntmps10
  go_upto_region 3 with (first | ((with_reducible refine gate_dst (N := 5) rfl ?_); refine box_event ?hg (N := 5) ?hd (cs := #[.int .i64 kd, .string nm, .string vl, .slice P1 n1 c1, .int .i64 q]) (t := 30) ?hr ?_; (case hd => rfl); (case hg => rfl); (case hr => first | (go_simp; done) | (go_simp; rfl)); intro ga hg w1 hbox hb; have GA := Lib.hid hg; have BA := Lib.hid hbox; have HW := Lib.hid hb; have x0 : w1.cell? ⟨ga, 0, none⟩ = some (.int .i64 kd) := (blk_cell hbox 0).trans rfl; have x1 : w1.cell? ⟨ga, 1, none⟩ = some (.string nm) := (blk_cell hbox 1).trans rfl; have x2 : w1.cell? ⟨ga, 2, none⟩ = some (.string vl) := (blk_cell hbox 2).trans rfl; have x3 : w1.cell? ⟨ga, 3, none⟩ = some (.slice P1 n1 c1) := (blk_cell hbox 3).trans rfl; have x4 : w1.cell? ⟨ga, 4, none⟩ = some (.int .i64 q) := (blk_cell hbox 4).trans rfl; replace r0 := cellB r0 hb; replace r1 := cellB r1 hb; replace r2 := cellB r2 hb; clear hg hbox hb) | ((with_reducible refine gate_dst (N := 7) rfl ?_); refine box_event ?hg (N := 7) ?hd (cs := #[.slice none 0 0, .slice none 0 0, .int .i64 0]) (t := 36) ?hr ?_; (case hd => rfl); (case hg => rfl); (case hr => first | (go_simp; done) | (go_simp; rfl)); intro gn hg w2 hbox hb; have BN := Lib.hid hbox; have GN := Lib.hid hg; have HW2 := Lib.hid hb; clear hg hbox hb) | (refine store_tab rfl rfl (.tmp 7) (.tmp 14) rfl (A0 := A0) (n0 := V.length) (c0 := c0) (A1 := A1) (n1 := A.length) (c1 := c1') (st := st) rfl rfl BN.out ?_; intro w3 hb3 hw3; replace BN := Lib.hid hb3; have HW3 := Lib.hid (new_box GN.out HW2.out hw3); replace x0 := cellB x0 HW3.out; replace x1 := cellB x1 HW3.out; replace x2 := cellB x2 HW3.out; replace x3 := cellB x3 HW3.out; replace x4 := cellB x4 HW3.out; replace r0 := cellB r0 HW3.out; replace r1 := cellB r1 HW3.out; replace r2 := cellB r2 HW3.out; clear hb3 hw3 HW2))
  have HGN : Hid (w.heap.size ≤ gn) := Lib.hid (by have := HW.out.size; have := GN.out; omega)
  have HGA : Hid (ga < gn) := Lib.hid (by have := blk_lt BA.out; have := GN.out; omega)
  have y2 : w3.cell? ⟨gn, 2, none⟩ = some (.int .i64 st) := (blk_cell BN.out 2).trans rfl
  have f2 := blk_frozen BN.out 2
  clear r0 r1 r2 x0 x1 x2 x3
  go_upto_region 4 with fail
  clear y2 f2
  have BN4 := Lib.hid (blk_put BN.out 2 (.int .i64 q) rfl)
  have HF4 := Lib.hid (frm_one (S := fun k => k = gn) w3 gn 2 (.int .i64 q) rfl)
  generalize w3.setCell ⟨gn, 2, none⟩ (.int .i64 q) = w4 at BN4 HF4 ⊢
  have HW4 := Lib.hid (box_step HGN.out (below_step HW.out HW3.out) HF4.out)
  have z4 : w4.cell? ⟨ga, 4, none⟩ = some (.int .i64 q) := (cell_far HF4.out ⟨blk_lt (blk_below BA.out HW3.out), fun e => by have e : ga = gn := e; have := HGA.out; omega⟩).trans x4
  have HT4 := Lib.hid (HI.out.t.frm HW4.out)
  have HR4 := Lib.hid (HR.out.below HW4.out)
  obtain ⟨t2, u2⟩ := TX.st HT4.out
  have HQ : Hid (RQ P S w4 gr gn V A q (.slice A0 V.length c0) (.slice A1 A.length c1')) := Lib.hid ⟨BN4.out, HR4.out.v, HR4.out.a, fun k hk => ⟨(HR4.out.p k hk).1, (HR4.out.p k hk).2.1, (HR4.out.p k hk).2.2.1, fun e => by have := (HR.out.p k hk).1; have := HGN.out; omega⟩⟩
  clear x4
  go_upto_region 18 with fail
  clear t2 u2 z4
  have HF7 := Lib.hid (frm_one (S := S) w4 g 2 (.int .i64 q) (by obtain ⟨_, _, h⟩ := HI.out.t; exact h.g0))
  have HT7 := Lib.hid ((HT4.out.stat q).mono (S' := fun k => S k ∨ w4.heap.size ≤ k) (fun k hk => .inl hk))
  generalize w4.setCell ⟨g, 2, none⟩ (.int .i64 q) = w7 at HF7 HT7 ⊢
  have HQ7 := Lib.hid (HQ.out.frm HF7.out (fun k hk => (HQ.out.p k hk).2.1) (fun h => Nat.lt_irrefl _ (Nat.lt_of_lt_of_le (HI.out.s gn h).2 HGN.out)))
  have HR7 := Lib.hid (HR4.out.frm HF7.out (fun k hk => (HR.out.p k hk).2.1) HI.out.g)
  have y0 : w7.cell? ⟨gn, 0, none⟩ = some (.slice A0 V.length c0) := (blk_cell HQ7.out.b 0).trans rfl
  have y1 : w7.cell? ⟨gn, 1, none⟩ = some (.slice A1 A.length c1') := (blk_cell HQ7.out.b 1).trans rfl
  have y2 : w7.cell? ⟨gn, 2, none⟩ = some (.int .i64 q) := (blk_cell HQ7.out.b 2).trans rfl
  go_wp2_with (refine store_tab rfl rfl (.tmp 93) (.tmp 92) rfl (A0 := A0) (c0 := c0) (A1 := A1) (c1 := c1') rfl rfl HR7.out.b ?_; intro w8 hb8 hw8; have HB8 := Lib.hid hb8; have HF8 := Lib.hid hw8; clear hb8 hw8)
  go_ret
  exact ⟨by first | rfl | simp, does_end HI.out HW4.out HQ.out HGN.out HF7.out HT7.out HB8.out HF8.out⟩
/-- what a call makes of a table -/
structure Tb where
  V : List S26
  A : List ByteArray
  st : Int
noncomputable def doM (t : Tb) (k : Int) (nm vl : ByteArray) (L : List ByteArray) (q : Int) : Tb :=
  if k = 0 then ⟨setT t.V nm vl, t.A, t.st⟩ else if k = 1 then ⟨unsV t.V nm, t.A, t.st⟩ else if k = 2 then ⟨t.V, if argsE L = 0 then L else t.A, t.st⟩ else if k = 3 then ⟨t.V, if 0 ≤ q ∧ q ≤ t.A.length then t.A.drop q.toNat else t.A, t.st⟩ else ⟨t.V, t.A, q⟩
theorem does_calls (B : Nat) (S : Nat → Prop) (w : World) (g gr : Nat) (t : Tb) (k : Int) (nm vl : ByteArray) (P1 : Option Addr) (c1 : Nat) (L : List ByteArray) (q : Int) (hi : Inv B S w g gr t.V t.A t.st) (hV : Ord t.V) (hl : t.V.length ≤ 64) (hA : t.A.length ≤ 1000) (hL : Kd.V Kd.string 9 w 0 (fun k => k < B) (.slice P1 L.length c1) L) :
    Calls Try.prog 10 #[.pointer (some ⟨g, 0, none⟩), .pointer (some ⟨gr, 0, none⟩), .agg #[.int .i64 k, .string nm, .string vl, .slice P1 L.length c1, .int .i64 q]] w fun e w' => e = .returned (.bool true) ∧ Below B w w' ∧ ∃ S', Inv B S' w' g gr (doM t k nm vl L q).V (doM t k nm vl L q).A (doM t k nm vl L q).st := by
  unfold doM
  by_cases k0 : k = 0
  · subst k0; rw [if_pos rfl]; exact does_set B S w g gr t.V t.A t.st nm vl P1 L.length c1 q hi hV hl hA
  rw [if_neg k0]
  by_cases k1 : k = 1
  · subst k1; rw [if_pos rfl]; exact does_unset B S w g gr t.V t.A t.st nm vl P1 L.length c1 q hi hV hl hA
  rw [if_neg k1]
  by_cases k2 : k = 2
  · subst k2; rw [if_pos rfl]; exact does_args B S w g gr t.V t.A t.st nm vl P1 c1 L q hi hV hl hA _ _ rfl rfl hL
  rw [if_neg k2]
  by_cases k3 : k = 3
  · subst k3; rw [if_pos rfl]; exact does_shift B S w g gr t.V t.A t.st nm vl P1 L.length c1 q hi hV hl hA _ _ rfl rfl
  rw [if_neg k3]
  exact does_stat B S w g gr t.V t.A t.st nm vl P1 L.length c1 q hi hV hl hA k k0 k1 k2 k3
end Go.Proofs.Ytgcbipflmhbpcaa.PV
namespace Go.Proofs.Ytgcbipflmhbpcaa.PV
open Go.RowKit Go.Proofs.YtgcbipflmhbpcaaW.PrintWords Go.Proofs.YtgcbipflmhbpcaaW.PrintLast Go.Proofs.YtgcbipflmhbpcaaW.PrintMore
attribute [local go_sem] max2_int min2_int max_two min_two max_three min_three max_four min_four   -- for this text's walks alone
set_option linter.unusedVariables false
set_option linter.unusedSimpArgs false
def rehearsalref11_Joined.l0 : Nat → List ByteArray → ByteArray → ByteArray → Int → Option (ByteArray)
  | 0, _, _, _, _ => none
  | k + 1, x0, x1, x5, x6 => if x6 < (x0.length : Int) then (if x6 > 0 then (if x5.size + x1.size ≤ 9223372036854775807 then (if 0 ≤ x6 then (if (x5 ++ x1).size + (rdOf ByteArray.empty x0 x6).size ≤ 9223372036854775807 then (rehearsalref11_Joined.l0 k x0 x1 ((x5 ++ x1) ++ (rdOf ByteArray.empty x0 x6)) (wrap64 (x6 + 1))) else (none)) else (none)) else (none)) else (if 0 ≤ x6 then (if x5.size + (rdOf ByteArray.empty x0 x6).size ≤ 9223372036854775807 then (rehearsalref11_Joined.l0 k x0 x1 (x5 ++ (rdOf ByteArray.empty x0 x6)) (wrap64 (x6 + 1))) else (none)) else (none))) else (some x5)
def rehearsalref11_Joined.f (k : Nat) (l0 : List ByteArray) (a1 : ByteArray) : Option (ByteArray) := rehearsalref11_Joined.l0 k l0 a1 (⟨#[]⟩ : ByteArray) 0
set_option maxHeartbeats 8000000 in
set_option maxRecDepth 100000 in
theorem rehearsalref11_Joined.calls (k : Nat) (A0 : Option Addr) (c0 : Nat) (l0 : List ByteArray) (a1 : ByteArray) (r : ByteArray) (w : World) (hr0 : Kd.C Kd.string w A0 l0.length l0) (hc0 : l0.length ≤ c0) (h : rehearsalref11_Joined.f k l0 a1 = some r) :
    Calls Try.prog 34 #[.slice A0 l0.length c0, .string a1] w fun e w' => e = .returned (.string r) ∧ Drawn0 w w' := by
  have HR0 := Aside0.mk hr0
  have HC0 := Aside0.mk hc0
  clear hr0 hc0
  have H : (rehearsalref11_Joined.l0 k l0 a1 (⟨#[]⟩ : ByteArray) 0) = some r := h
  clear h
  have H' := Aside0.mk H
  clear H
  go_enter Try.func34, Try.ntmps34
  go_wp2
  go_loopg [5, 6] k (fun kq v5 v6 w' => ∃ (x5_1 : ByteArray) (x6_1 : Int), v5 = .string x5_1 ∧ v6 = .int .i64 x6_1 ∧ Aside0 (rehearsalref11_Joined.l0 kq l0 a1 x5_1 x6_1 = some r) ∧ Aside0 (kq ≤ k) ∧ Drawn0 w w')
  case atStart => exact ⟨((⟨#[]⟩ : ByteArray)), (0), (by first | rfl | (simp; done) | (simp [*]; done)), (by first | rfl | (simp; done) | (simp [*]; done)), H', ⟨Nat.le_refl _⟩, by repeat (first | exact Drawn0.refl _ | apply Drawn0.step)⟩
  case round =>
    clear H'
    try clear p2
    obtain ⟨x5_1, x6_1, rfl, rfl, HA, HK1, ⟨m1, rfl⟩⟩ := hrel
    cases gk with
    | zero => exact absurd HA.out (by simp [rehearsalref11_Joined.l0])
    | succ k1 =>
      have H := HA.out
      clear HA
      simp only [rehearsalref11_Joined.l0] at H
      by_cases c3 : x6_1 < (l0.length : Int)
      · rw [if_pos c3] at H
        have c3b0 : decide (x6_1 < (l0.length : Int)) = true := decide_eq_true c3
        clear c3
        by_cases c4 : x6_1 > 0
        · rw [if_pos c4] at H
          have c4b0 : decide (0 < x6_1) = true := decide_eq_true c4
          clear c4
          by_cases c5 : x5_1.size + a1.size ≤ 9223372036854775807
          · rw [if_pos c5] at H
            have c5b0 := eq_true c5
            have c5b1 : decide (x5_1.size + a1.size ≤ 9223372036854775807) = true := decide_eq_true c5
            try have c5b2 : (9223372036854775807 < x5_1.size + a1.size) = False := eq_false (Nat.not_lt.2 c5)
            by_cases c6 : 0 ≤ x6_1
            · rw [if_pos c6] at H
              have c6b0 : decide (0 ≤ x6_1) = true := decide_eq_true c6
              clear c6
              by_cases c7 : (x5_1 ++ a1).size + (rdOf ByteArray.empty l0 x6_1).size ≤ 9223372036854775807
              · rw [if_pos c7] at H
                have c7b0 := eq_true c7
                have c7b1 : decide ((x5_1 ++ a1).size + (rdOf ByteArray.empty l0 x6_1).size ≤ 9223372036854775807) = true := decide_eq_true c7
                try have c7b2 : (9223372036854775807 < (x5_1 ++ a1).size + (rdOf ByteArray.empty l0 x6_1).size) = False := eq_false (Nat.not_lt.2 c7)
                try have c7b3 : ((x5_1 ++ a1).size < 9223372036854775807) = True := eq_true (by omega)
                try have c7b4 := eq_false (Nat.not_lt.2 c7)
                try simp only [ByteArray.size_append] at c7b4
                try have c7b5 := eq_false (show ¬ 9223372036854775807 ≤ (x5_1 ++ a1).size from by omega)
                try simp only [ByteArray.size_append] at c7b5
                have H' := Aside0.mk H
                clear H
                have p140 : 0 ≤ (x6_1 : Int) := of_decide_eq_true (by first | (with_reducible assumption) | assumption)
                have q140 : x6_1 < (l0.length : Int) := of_decide_eq_true (by first | (with_reducible assumption) | assumption)
                obtain ⟨ad140, e140, hx140_0⟩ := Kd.at_string HR0.out x6_1 p140 q140
                cases e140
                replace p140 := eq_true p140
                replace q140 := eq_true q140
                go_wp2
                go_roundg k1
                case measure => have := HK1.out; omega
                case rel => exact ⟨((x5_1 ++ a1) ++ (rdOf ByteArray.empty l0 x6_1)), (wrap64 (x6_1 + 1)), (by first | rfl | (simp; done) | (simp [*]; done)), (by first | rfl | (simp; done) | (simp [*]; done)), H', ⟨by have := HK1.out; omega⟩, by repeat (first | exact Drawn0.refl _ | apply Drawn0.step)⟩
              · rw [if_neg c7] at H
                exact absurd H (by simp)
            · rw [if_neg c6] at H
              exact absurd H (by simp)
          · rw [if_neg c5] at H
            exact absurd H (by simp)
        · rw [if_neg c4] at H
          have c4b0 : decide (0 < x6_1) = false := decide_eq_false c4
          clear c4
          by_cases c8 : 0 ≤ x6_1
          · rw [if_pos c8] at H
            have c8b0 : decide (0 ≤ x6_1) = true := decide_eq_true c8
            clear c8
            by_cases c9 : x5_1.size + (rdOf ByteArray.empty l0 x6_1).size ≤ 9223372036854775807
            · rw [if_pos c9] at H
              have c9b0 := eq_true c9
              have c9b1 : decide (x5_1.size + (rdOf ByteArray.empty l0 x6_1).size ≤ 9223372036854775807) = true := decide_eq_true c9
              try have c9b2 : (9223372036854775807 < x5_1.size + (rdOf ByteArray.empty l0 x6_1).size) = False := eq_false (Nat.not_lt.2 c9)
              have H' := Aside0.mk H
              clear H
              have p141 : 0 ≤ (x6_1 : Int) := of_decide_eq_true (by first | (with_reducible assumption) | assumption)
              have q141 : x6_1 < (l0.length : Int) := of_decide_eq_true (by first | (with_reducible assumption) | assumption)
              obtain ⟨ad141, e141, hx141_0⟩ := Kd.at_string HR0.out x6_1 p141 q141
              cases e141
              replace p141 := eq_true p141
              replace q141 := eq_true q141
              go_wp2
              go_roundg k1
              case measure => have := HK1.out; omega
              case rel => exact ⟨(x5_1 ++ (rdOf ByteArray.empty l0 x6_1)), (wrap64 (x6_1 + 1)), (by first | rfl | (simp; done) | (simp [*]; done)), (by first | rfl | (simp; done) | (simp [*]; done)), H', ⟨by have := HK1.out; omega⟩, by repeat (first | exact Drawn0.refl _ | apply Drawn0.step)⟩
            · rw [if_neg c9] at H
              exact absurd H (by simp)
          · rw [if_neg c8] at H
            exact absurd H (by simp)
      · rw [if_neg c3] at H
        have c3b0 : decide (x6_1 < (l0.length : Int)) = false := decide_eq_false c3
        clear c3
        obtain rfl := Option.some.inj H
        go_wp2
        go_ret
        exact ⟨by first | rfl | (simp; done) | (simp [*]; done), by repeat (first | exact Drawn0.refl _ | apply Drawn0.step)⟩
end Go.Proofs.Ytgcbipflmhbpcaa.PV
namespace Go.Proofs.Ytgcbipflmhbpcaa.PV
open Go.RowKit Go.Proofs.YtgcbipflmhbpcaaW.PrintWords Go.Proofs.YtgcbipflmhbpcaaW.PrintLast Go.Proofs.YtgcbipflmhbpcaaW.PrintMore
attribute [local go_sem] max2_int min2_int max_two min_two max_three min_three max_four min_four   -- for this text's walks alone
set_option linter.unusedVariables false
set_option linter.unusedSimpArgs false
mutual
def rehearsalref11_Table_Get.j0 : Nat → ByteArray → Bool → List (S26) → List ByteArray → Int → Option (ByteArray × Bool)
  | 0, _, _, _, _, _ => none
  | k + 1, x1, x25, x143000, x143001, x143002 => if x25 = true then ((rehearsalref11_Joined.f k x143001 (⟨#[32]⟩ : ByteArray)).bind fun t145 => (some (t145, decide ((x143001.length : Int) > 0)))) else (if (x1.size : Int) > 0 then (if 0 < (x1.size : Int) then ((rehearsalref07_Digit.f (bt x1 0)).bind fun t146 => (rehearsalref11_Table_Get.j1 k x1 t146 x143000 x143001 x143002)) else (none)) else (rehearsalref11_Table_Get.j1 k x1 false x143000 x143001 x143002))
def rehearsalref11_Table_Get.j1 : Nat → ByteArray → Bool → List (S26) → List ByteArray → Int → Option (ByteArray × Bool)
  | 0, _, _, _, _, _ => none
  | k + 1, x1, x40, x143000, x143001, x143002 => if x40 = true then ((rehearsalref01_Decimal.f x1).bind fun bt147 => (if bt147.2 = 0 then (if bt147.1 < 1 then (rehearsalref11_Table_Get.j2 k bt147.1 true x143000 x143001 x143002) else (rehearsalref11_Table_Get.j2 k bt147.1 (decide (bt147.1 > (x143001.length : Int))) x143000 x143001 x143002)) else (rehearsalref11_Table_Get.j2 k bt147.1 true x143000 x143001 x143002))) else ((rehearsalref11_Table_Place.f k x143000 x143001 x143002 x1).bind fun t150 => (if t150 < 0 then (some ((⟨#[]⟩ : ByteArray), false)) else (if 0 ≤ t150 then (if t150 < (x143000.length : Int) then (some ((rd_T26 x143000 t150).f1, true)) else (none)) else (none))))
def rehearsalref11_Table_Get.j2 : Nat → Int → Bool → List (S26) → List ByteArray → Int → Option (ByteArray × Bool)
  | 0, _, _, _, _, _ => none
  | k + 1, x6, x58, x143000, x143001, x143002 => if x58 = true then (some ((⟨#[]⟩ : ByteArray), false)) else (if 0 ≤ (wrap64 (x6 - 1)) then (if (wrap64 (x6 - 1)) < (x143001.length : Int) then (some (rdOf ByteArray.empty x143001 (wrap64 (x6 - 1)), true)) else (none)) else (none))
end
def rehearsalref11_Table_Get.f (k : Nat) (l0_0 : List (S26)) (l0_1 : List ByteArray) (a0_2 : Int) (a1 : ByteArray) : Option (ByteArray × Bool) := if a1.toList = ([35] : List UInt8) then ((rehearsalref01_Text.f (l0_1.length : Int)).bind fun t143 => (some (t143, true))) else (if a1.toList = ([63] : List UInt8) then ((rehearsalref01_Text.f a0_2).bind fun t144 => (some (t144, true))) else (if a1.toList = ([64] : List UInt8) then (rehearsalref11_Table_Get.j0 k a1 true l0_0 l0_1 a0_2) else (rehearsalref11_Table_Get.j0 k a1 (a1.toList == ([42] : List UInt8)) l0_0 l0_1 a0_2)))
set_option maxHeartbeats 8000000 in
set_option maxRecDepth 100000 in
theorem rehearsalref11_Table_Get.calls (k : Nat) (A0_0 : Option Addr) (c0_0 : Nat) (l0_0 : List (S26)) (A0_1 : Option Addr) (c0_1 : Nat) (l0_1 : List ByteArray) (a0_2 : Int) (a1 : ByteArray) (r1 : ByteArray) (r2 : Bool) (w : World) (hr0_0 : Kd.C k26 w A0_0 l0_0.length l0_0) (hc0_0 : l0_0.length ≤ c0_0) (hr0_1 : Kd.C Kd.string w A0_1 l0_1.length l0_1) (hc0_1 : l0_1.length ≤ c0_1) (h : rehearsalref11_Table_Get.f k l0_0 l0_1 a0_2 a1 = some (r1, r2)) :
    Calls Try.prog 14 #[.agg #[.slice A0_0 l0_0.length c0_0, .slice A0_1 l0_1.length c0_1, .int .i64 a0_2], .string a1] w fun e w' => e = .returned (.tuple #[.string r1, .bool r2]) ∧ Below w.heap.size w w' := by
  have hu36 := Try.underlying36
  have HR0_0 := Aside0.mk hr0_0
  have HC0_0 := Aside0.mk hc0_0
  clear hr0_0 hc0_0
  have HR0_1 := Aside0.mk hr0_1
  have HC0_1 := Aside0.mk hc0_1
  clear hr0_1 hc0_1
  have HB := Aside0.mk (Below.refl w.heap.size w)
  have H : (if a1.toList = ([35] : List UInt8) then ((rehearsalref01_Text.f (l0_1.length : Int)).bind fun t143 => (some (t143, true))) else (if a1.toList = ([63] : List UInt8) then ((rehearsalref01_Text.f a0_2).bind fun t144 => (some (t144, true))) else (if a1.toList = ([64] : List UInt8) then (rehearsalref11_Table_Get.j0 k a1 true l0_0 l0_1 a0_2) else (rehearsalref11_Table_Get.j0 k a1 (a1.toList == ([42] : List UInt8)) l0_0 l0_1 a0_2)))) = some (r1, r2) := h
  clear h
  by_cases c3 : a1.toList = ([35] : List UInt8)
  · rw [if_pos c3] at H
    have c3b0 : (a1.toList == ([35] : List UInt8)) = true := beq_iff_eq.mpr c3
    have c3b1 : (a1.toList != ([35] : List UInt8)) = false := bne_eq_false_iff_eq.mpr c3
    clear c3
    replace H := Option.bind_eq_some_iff.mp H
    obtain ⟨t143, A40, H⟩ := H
    replace H : (some (t143, true)) = some (r1, r2) := H
    have A4 := Aside0.mk A40
    clear A40
    simp only [Option.some.injEq, Prod.mk.injEq] at H
    obtain ⟨rfl, rfl⟩ := H
    go_enter Try.func14, Try.ntmps14
    go_wp2_with (first | ((with_reducible refine gate_dst (N := 2) rfl ?_); (try (refine gate_guard (by rfl) ?_; dsimp only)); refine box_event ?hg (N := 2) ?hd (cs := #[.slice A0_0 l0_0.length c0_0, .slice A0_1 l0_1.length c0_1, .int .i64 a0_2]) (t := 36) ?hr ?_; (case hd => rfl); (case hg => rfl); (case hr => first | (go_simp; done) | (go_simp; rfl)); intro gb142 hg w5 hbox hb; have n0_ := Aside0.mk (below_step (by repeat (first | (with_reducible first | exact HB.out | apply below_alloc | apply pw_below_drewN | apply below_drew1) | exact HB.out)) hb); have n1_ := Aside0.mk (hbox); have n2_ := Aside0.mk ((by rw [hg]; exact (below_size (by repeat (first | (with_reducible first | exact HB.out | apply below_alloc | apply pw_below_drewN | apply below_drew1) | exact HB.out))) : w.heap.size ≤ gb142)); have n3_ := Aside0.mk ((by rw [hg]; exact (below_size (by repeat (first | (with_reducible first | exact HB.out | apply below_alloc | apply pw_below_drewN | apply below_drew1) | exact HB.out))) : w.heap.size ≤ gb142)); clear HB; have HB := n0_; have BK142 := n1_; have GW142 := n2_; have GE142 := n3_; clear n0_ n1_ n2_ n3_; clear hb hbox hg; have hcz6_0 : w5.cell? ⟨gb142, 0, none⟩ = some (.slice A0_0 l0_0.length c0_0) := (blk_cell BK142.out 0).trans rfl; have hcz6_1 : w5.cell? ⟨gb142, 1, none⟩ = some (.slice A0_1 l0_1.length c0_1) := (blk_cell BK142.out 1).trans rfl; have hcz6_2 : w5.cell? ⟨gb142, 2, none⟩ = some (.int .i64 a0_2) := (blk_cell BK142.out 2).trans rfl; have hfz6_0 := blk_frozen BK142.out 0; have hfz6_1 := blk_frozen BK142.out 1; have hfz6_2 := blk_frozen BK142.out 2) | (go_at_call 33; (with_reducible refine (rehearsalref01_Text.calls (l0_1.length : Int) t143 _ A4.out).mono ?_); rintro e w7 ⟨rfl, hb⟩; have n0_ := Aside0.mk (blk_below (g := gb142) (o := .cells #[.slice A0_0 l0_0.length c0_0, .slice A0_1 l0_1.length c0_1, .int .i64 a0_2] 36 (0, 0)) (by (with_reducible repeat (first | refine blk_drewN ?_ _ | refine blk_drew ?_ | refine blk_alloc ?_ _)); exact BK142.out) hb); have n1_ := Aside0.mk (below_step (by repeat (first | (with_reducible first | exact HB.out | apply below_alloc | apply pw_below_drewN | apply below_drew1 | refine below_set ?_ GE142.out) | exact HB.out)) hb); clear BK142; clear HB; have BK142 := n0_; have HB := n1_; clear n0_ n1_; (try clear hb); (try clear hb2); (try clear hk); (try clear hi)))
    repeat (go_quiet (first | ((with_reducible refine gate_dst (N := 2) rfl ?_); (try (refine gate_guard (by rfl) ?_; dsimp only)); refine box_event ?hg (N := 2) ?hd (cs := #[.slice A0_0 l0_0.length c0_0, .slice A0_1 l0_1.length c0_1, .int .i64 a0_2]) (t := 36) ?hr ?_; (case hd => rfl); (case hg => rfl); (case hr => first | (go_simp; done) | (go_simp; rfl)); intro gb142 hg w5 hbox hb; have n0_ := Aside0.mk (below_step (by repeat (first | (with_reducible first | exact HB.out | apply below_alloc | apply pw_below_drewN | apply below_drew1) | exact HB.out)) hb); have n1_ := Aside0.mk (hbox); have n2_ := Aside0.mk ((by rw [hg]; exact (below_size (by repeat (first | (with_reducible first | exact HB.out | apply below_alloc | apply pw_below_drewN | apply below_drew1) | exact HB.out))) : w.heap.size ≤ gb142)); have n3_ := Aside0.mk ((by rw [hg]; exact (below_size (by repeat (first | (with_reducible first | exact HB.out | apply below_alloc | apply pw_below_drewN | apply below_drew1) | exact HB.out))) : w.heap.size ≤ gb142)); clear HB; have HB := n0_; have BK142 := n1_; have GW142 := n2_; have GE142 := n3_; clear n0_ n1_ n2_ n3_; clear hb hbox hg; have hcz6_0 : w5.cell? ⟨gb142, 0, none⟩ = some (.slice A0_0 l0_0.length c0_0) := (blk_cell BK142.out 0).trans rfl; have hcz6_1 : w5.cell? ⟨gb142, 1, none⟩ = some (.slice A0_1 l0_1.length c0_1) := (blk_cell BK142.out 1).trans rfl; have hcz6_2 : w5.cell? ⟨gb142, 2, none⟩ = some (.int .i64 a0_2) := (blk_cell BK142.out 2).trans rfl; have hfz6_0 := blk_frozen BK142.out 0; have hfz6_1 := blk_frozen BK142.out 1; have hfz6_2 := blk_frozen BK142.out 2) | (go_at_call 33; (with_reducible refine (rehearsalref01_Text.calls (l0_1.length : Int) t143 _ A4.out).mono ?_); rintro e w7 ⟨rfl, hb⟩; have n0_ := Aside0.mk (blk_below (g := gb142) (o := .cells #[.slice A0_0 l0_0.length c0_0, .slice A0_1 l0_1.length c0_1, .int .i64 a0_2] 36 (0, 0)) (by (with_reducible repeat (first | refine blk_drewN ?_ _ | refine blk_drew ?_ | refine blk_alloc ?_ _)); exact BK142.out) hb); have n1_ := Aside0.mk (below_step (by repeat (first | (with_reducible first | exact HB.out | apply below_alloc | apply pw_below_drewN | apply below_drew1 | refine below_set ?_ GE142.out) | exact HB.out)) hb); clear BK142; clear HB; have BK142 := n0_; have HB := n1_; clear n0_ n1_; (try clear hb); (try clear hb2); (try clear hk); (try clear hi))); try go_wp2_with (first | ((with_reducible refine gate_dst (N := 2) rfl ?_); (try (refine gate_guard (by rfl) ?_; dsimp only)); refine box_event ?hg (N := 2) ?hd (cs := #[.slice A0_0 l0_0.length c0_0, .slice A0_1 l0_1.length c0_1, .int .i64 a0_2]) (t := 36) ?hr ?_; (case hd => rfl); (case hg => rfl); (case hr => first | (go_simp; done) | (go_simp; rfl)); intro gb142 hg w5 hbox hb; have n0_ := Aside0.mk (below_step (by repeat (first | (with_reducible first | exact HB.out | apply below_alloc | apply pw_below_drewN | apply below_drew1) | exact HB.out)) hb); have n1_ := Aside0.mk (hbox); have n2_ := Aside0.mk ((by rw [hg]; exact (below_size (by repeat (first | (with_reducible first | exact HB.out | apply below_alloc | apply pw_below_drewN | apply below_drew1) | exact HB.out))) : w.heap.size ≤ gb142)); have n3_ := Aside0.mk ((by rw [hg]; exact (below_size (by repeat (first | (with_reducible first | exact HB.out | apply below_alloc | apply pw_below_drewN | apply below_drew1) | exact HB.out))) : w.heap.size ≤ gb142)); clear HB; have HB := n0_; have BK142 := n1_; have GW142 := n2_; have GE142 := n3_; clear n0_ n1_ n2_ n3_; clear hb hbox hg; have hcz6_0 : w5.cell? ⟨gb142, 0, none⟩ = some (.slice A0_0 l0_0.length c0_0) := (blk_cell BK142.out 0).trans rfl; have hcz6_1 : w5.cell? ⟨gb142, 1, none⟩ = some (.slice A0_1 l0_1.length c0_1) := (blk_cell BK142.out 1).trans rfl; have hcz6_2 : w5.cell? ⟨gb142, 2, none⟩ = some (.int .i64 a0_2) := (blk_cell BK142.out 2).trans rfl; have hfz6_0 := blk_frozen BK142.out 0; have hfz6_1 := blk_frozen BK142.out 1; have hfz6_2 := blk_frozen BK142.out 2) | (go_at_call 33; (with_reducible refine (rehearsalref01_Text.calls (l0_1.length : Int) t143 _ A4.out).mono ?_); rintro e w7 ⟨rfl, hb⟩; have n0_ := Aside0.mk (blk_below (g := gb142) (o := .cells #[.slice A0_0 l0_0.length c0_0, .slice A0_1 l0_1.length c0_1, .int .i64 a0_2] 36 (0, 0)) (by (with_reducible repeat (first | refine blk_drewN ?_ _ | refine blk_drew ?_ | refine blk_alloc ?_ _)); exact BK142.out) hb); have n1_ := Aside0.mk (below_step (by repeat (first | (with_reducible first | exact HB.out | apply below_alloc | apply pw_below_drewN | apply below_drew1 | refine below_set ?_ GE142.out) | exact HB.out)) hb); clear BK142; clear HB; have BK142 := n0_; have HB := n1_; clear n0_ n1_; (try clear hb); (try clear hb2); (try clear hk); (try clear hi))))
    go_ret2
    exact ⟨by first | rfl | (simp [errW_none, errW_some] <;> rfl) | (simp [*, errW_none, errW_some] <;> rfl), by repeat (first | (with_reducible first | exact HB.out | apply below_alloc | apply pw_below_drewN | apply below_drew1 | refine below_set ?_ GE142.out) | exact HB.out)⟩
  · rw [if_neg c3] at H
    have c3b0 : (a1.toList == ([35] : List UInt8)) = false := beq_eq_false_iff_ne.mpr c3
    have c3b1 : (a1.toList != ([35] : List UInt8)) = true := bne_iff_ne.mpr c3
    by_cases c8 : a1.toList = ([63] : List UInt8)
    · rw [if_pos c8] at H
      have c8b0 : (a1.toList == ([63] : List UInt8)) = true := beq_iff_eq.mpr c8
      have c8b1 : (a1.toList != ([63] : List UInt8)) = false := bne_eq_false_iff_eq.mpr c8
      clear c8
      replace H := Option.bind_eq_some_iff.mp H
      obtain ⟨t144, A90, H⟩ := H
      replace H : (some (t144, true)) = some (r1, r2) := H
      have A9 := Aside0.mk A90
      clear A90
      simp only [Option.some.injEq, Prod.mk.injEq] at H
      obtain ⟨rfl, rfl⟩ := H
      go_enter Try.func14, Try.ntmps14
      go_wp2_with (first | ((with_reducible refine gate_dst (N := 2) rfl ?_); (try (refine gate_guard (by rfl) ?_; dsimp only)); refine box_event ?hg (N := 2) ?hd (cs := #[.slice A0_0 l0_0.length c0_0, .slice A0_1 l0_1.length c0_1, .int .i64 a0_2]) (t := 36) ?hr ?_; (case hd => rfl); (case hg => rfl); (case hr => first | (go_simp; done) | (go_simp; rfl)); intro gb142 hg w10 hbox hb; have n0_ := Aside0.mk (below_step (by repeat (first | (with_reducible first | exact HB.out | apply below_alloc | apply pw_below_drewN | apply below_drew1) | exact HB.out)) hb); have n1_ := Aside0.mk (hbox); have n2_ := Aside0.mk ((by rw [hg]; exact (below_size (by repeat (first | (with_reducible first | exact HB.out | apply below_alloc | apply pw_below_drewN | apply below_drew1) | exact HB.out))) : w.heap.size ≤ gb142)); have n3_ := Aside0.mk ((by rw [hg]; exact (below_size (by repeat (first | (with_reducible first | exact HB.out | apply below_alloc | apply pw_below_drewN | apply below_drew1) | exact HB.out))) : w.heap.size ≤ gb142)); clear HB; have HB := n0_; have BK142 := n1_; have GW142 := n2_; have GE142 := n3_; clear n0_ n1_ n2_ n3_; clear hb hbox hg; have hcz11_0 : w10.cell? ⟨gb142, 0, none⟩ = some (.slice A0_0 l0_0.length c0_0) := (blk_cell BK142.out 0).trans rfl; have hcz11_1 : w10.cell? ⟨gb142, 1, none⟩ = some (.slice A0_1 l0_1.length c0_1) := (blk_cell BK142.out 1).trans rfl; have hcz11_2 : w10.cell? ⟨gb142, 2, none⟩ = some (.int .i64 a0_2) := (blk_cell BK142.out 2).trans rfl; have hfz11_0 := blk_frozen BK142.out 0; have hfz11_1 := blk_frozen BK142.out 1; have hfz11_2 := blk_frozen BK142.out 2) | (go_at_call 33; (with_reducible refine (rehearsalref01_Text.calls a0_2 t144 _ A9.out).mono ?_); rintro e w12 ⟨rfl, hb⟩; have n0_ := Aside0.mk (blk_below (g := gb142) (o := .cells #[.slice A0_0 l0_0.length c0_0, .slice A0_1 l0_1.length c0_1, .int .i64 a0_2] 36 (0, 0)) (by (with_reducible repeat (first | refine blk_drewN ?_ _ | refine blk_drew ?_ | refine blk_alloc ?_ _)); exact BK142.out) hb); have n1_ := Aside0.mk (below_step (by repeat (first | (with_reducible first | exact HB.out | apply below_alloc | apply pw_below_drewN | apply below_drew1 | refine below_set ?_ GE142.out) | exact HB.out)) hb); clear BK142; clear HB; have BK142 := n0_; have HB := n1_; clear n0_ n1_; (try clear hb); (try clear hb2); (try clear hk); (try clear hi)))
      repeat (go_quiet (first | ((with_reducible refine gate_dst (N := 2) rfl ?_); (try (refine gate_guard (by rfl) ?_; dsimp only)); refine box_event ?hg (N := 2) ?hd (cs := #[.slice A0_0 l0_0.length c0_0, .slice A0_1 l0_1.length c0_1, .int .i64 a0_2]) (t := 36) ?hr ?_; (case hd => rfl); (case hg => rfl); (case hr => first | (go_simp; done) | (go_simp; rfl)); intro gb142 hg w10 hbox hb; have n0_ := Aside0.mk (below_step (by repeat (first | (with_reducible first | exact HB.out | apply below_alloc | apply pw_below_drewN | apply below_drew1) | exact HB.out)) hb); have n1_ := Aside0.mk (hbox); have n2_ := Aside0.mk ((by rw [hg]; exact (below_size (by repeat (first | (with_reducible first | exact HB.out | apply below_alloc | apply pw_below_drewN | apply below_drew1) | exact HB.out))) : w.heap.size ≤ gb142)); have n3_ := Aside0.mk ((by rw [hg]; exact (below_size (by repeat (first | (with_reducible first | exact HB.out | apply below_alloc | apply pw_below_drewN | apply below_drew1) | exact HB.out))) : w.heap.size ≤ gb142)); clear HB; have HB := n0_; have BK142 := n1_; have GW142 := n2_; have GE142 := n3_; clear n0_ n1_ n2_ n3_; clear hb hbox hg; have hcz11_0 : w10.cell? ⟨gb142, 0, none⟩ = some (.slice A0_0 l0_0.length c0_0) := (blk_cell BK142.out 0).trans rfl; have hcz11_1 : w10.cell? ⟨gb142, 1, none⟩ = some (.slice A0_1 l0_1.length c0_1) := (blk_cell BK142.out 1).trans rfl; have hcz11_2 : w10.cell? ⟨gb142, 2, none⟩ = some (.int .i64 a0_2) := (blk_cell BK142.out 2).trans rfl; have hfz11_0 := blk_frozen BK142.out 0; have hfz11_1 := blk_frozen BK142.out 1; have hfz11_2 := blk_frozen BK142.out 2) | (go_at_call 33; (with_reducible refine (rehearsalref01_Text.calls a0_2 t144 _ A9.out).mono ?_); rintro e w12 ⟨rfl, hb⟩; have n0_ := Aside0.mk (blk_below (g := gb142) (o := .cells #[.slice A0_0 l0_0.length c0_0, .slice A0_1 l0_1.length c0_1, .int .i64 a0_2] 36 (0, 0)) (by (with_reducible repeat (first | refine blk_drewN ?_ _ | refine blk_drew ?_ | refine blk_alloc ?_ _)); exact BK142.out) hb); have n1_ := Aside0.mk (below_step (by repeat (first | (with_reducible first | exact HB.out | apply below_alloc | apply pw_below_drewN | apply below_drew1 | refine below_set ?_ GE142.out) | exact HB.out)) hb); clear BK142; clear HB; have BK142 := n0_; have HB := n1_; clear n0_ n1_; (try clear hb); (try clear hb2); (try clear hk); (try clear hi))); try go_wp2_with (first | ((with_reducible refine gate_dst (N := 2) rfl ?_); (try (refine gate_guard (by rfl) ?_; dsimp only)); refine box_event ?hg (N := 2) ?hd (cs := #[.slice A0_0 l0_0.length c0_0, .slice A0_1 l0_1.length c0_1, .int .i64 a0_2]) (t := 36) ?hr ?_; (case hd => rfl); (case hg => rfl); (case hr => first | (go_simp; done) | (go_simp; rfl)); intro gb142 hg w10 hbox hb; have n0_ := Aside0.mk (below_step (by repeat (first | (with_reducible first | exact HB.out | apply below_alloc | apply pw_below_drewN | apply below_drew1) | exact HB.out)) hb); have n1_ := Aside0.mk (hbox); have n2_ := Aside0.mk ((by rw [hg]; exact (below_size (by repeat (first | (with_reducible first | exact HB.out | apply below_alloc | apply pw_below_drewN | apply below_drew1) | exact HB.out))) : w.heap.size ≤ gb142)); have n3_ := Aside0.mk ((by rw [hg]; exact (below_size (by repeat (first | (with_reducible first | exact HB.out | apply below_alloc | apply pw_below_drewN | apply below_drew1) | exact HB.out))) : w.heap.size ≤ gb142)); clear HB; have HB := n0_; have BK142 := n1_; have GW142 := n2_; have GE142 := n3_; clear n0_ n1_ n2_ n3_; clear hb hbox hg; have hcz11_0 : w10.cell? ⟨gb142, 0, none⟩ = some (.slice A0_0 l0_0.length c0_0) := (blk_cell BK142.out 0).trans rfl; have hcz11_1 : w10.cell? ⟨gb142, 1, none⟩ = some (.slice A0_1 l0_1.length c0_1) := (blk_cell BK142.out 1).trans rfl; have hcz11_2 : w10.cell? ⟨gb142, 2, none⟩ = some (.int .i64 a0_2) := (blk_cell BK142.out 2).trans rfl; have hfz11_0 := blk_frozen BK142.out 0; have hfz11_1 := blk_frozen BK142.out 1; have hfz11_2 := blk_frozen BK142.out 2) | (go_at_call 33; (with_reducible refine (rehearsalref01_Text.calls a0_2 t144 _ A9.out).mono ?_); rintro e w12 ⟨rfl, hb⟩; have n0_ := Aside0.mk (blk_below (g := gb142) (o := .cells #[.slice A0_0 l0_0.length c0_0, .slice A0_1 l0_1.length c0_1, .int .i64 a0_2] 36 (0, 0)) (by (with_reducible repeat (first | refine blk_drewN ?_ _ | refine blk_drew ?_ | refine blk_alloc ?_ _)); exact BK142.out) hb); have n1_ := Aside0.mk (below_step (by repeat (first | (with_reducible first | exact HB.out | apply below_alloc | apply pw_below_drewN | apply below_drew1 | refine below_set ?_ GE142.out) | exact HB.out)) hb); clear BK142; clear HB; have BK142 := n0_; have HB := n1_; clear n0_ n1_; (try clear hb); (try clear hb2); (try clear hk); (try clear hi))))
      go_ret2
      exact ⟨by first | rfl | (simp [errW_none, errW_some] <;> rfl) | (simp [*, errW_none, errW_some] <;> rfl), by repeat (first | (with_reducible first | exact HB.out | apply below_alloc | apply pw_below_drewN | apply below_drew1 | refine below_set ?_ GE142.out) | exact HB.out)⟩
    · rw [if_neg c8] at H
      have c8b0 : (a1.toList == ([63] : List UInt8)) = false := beq_eq_false_iff_ne.mpr c8
      have c8b1 : (a1.toList != ([63] : List UInt8)) = true := bne_iff_ne.mpr c8
      have HC13 := Aside0.mk H
      clear H
      go_enter Try.func14, Try.ntmps14
      go_upto_region 5 with (first | ((with_reducible refine gate_dst (N := 2) rfl ?_); (try (refine gate_guard (by rfl) ?_; dsimp only)); refine box_event ?hg (N := 2) ?hd (cs := #[.slice A0_0 l0_0.length c0_0, .slice A0_1 l0_1.length c0_1, .int .i64 a0_2]) (t := 36) ?hr ?_; (case hd => rfl); (case hg => rfl); (case hr => first | (go_simp; done) | (go_simp; rfl)); intro gb142 hg w14 hbox hb; have n0_ := Aside0.mk (below_step (by repeat (first | (with_reducible first | exact HB.out | apply below_alloc | apply pw_below_drewN | apply below_drew1) | exact HB.out)) hb); have n1_ := Aside0.mk (hbox); have n2_ := Aside0.mk ((by rw [hg]; exact (below_size (by repeat (first | (with_reducible first | exact HB.out | apply below_alloc | apply pw_below_drewN | apply below_drew1) | exact HB.out))) : w.heap.size ≤ gb142)); have n3_ := Aside0.mk ((by rw [hg]; exact (below_size (by repeat (first | (with_reducible first | exact HB.out | apply below_alloc | apply pw_below_drewN | apply below_drew1) | exact HB.out))) : w.heap.size ≤ gb142)); clear HB; have HB := n0_; have BK142 := n1_; have GW142 := n2_; have GE142 := n3_; clear n0_ n1_ n2_ n3_; clear hb hbox hg))
      repeat (go_quiet (first | ((with_reducible refine gate_dst (N := 2) rfl ?_); (try (refine gate_guard (by rfl) ?_; dsimp only)); refine box_event ?hg (N := 2) ?hd (cs := #[.slice A0_0 l0_0.length c0_0, .slice A0_1 l0_1.length c0_1, .int .i64 a0_2]) (t := 36) ?hr ?_; (case hd => rfl); (case hg => rfl); (case hr => first | (go_simp; done) | (go_simp; rfl)); intro gb142 hg w14 hbox hb; have n0_ := Aside0.mk (below_step (by repeat (first | (with_reducible first | exact HB.out | apply below_alloc | apply pw_below_drewN | apply below_drew1) | exact HB.out)) hb); have n1_ := Aside0.mk (hbox); have n2_ := Aside0.mk ((by rw [hg]; exact (below_size (by repeat (first | (with_reducible first | exact HB.out | apply below_alloc | apply pw_below_drewN | apply below_drew1) | exact HB.out))) : w.heap.size ≤ gb142)); have n3_ := Aside0.mk ((by rw [hg]; exact (below_size (by repeat (first | (with_reducible first | exact HB.out | apply below_alloc | apply pw_below_drewN | apply below_drew1) | exact HB.out))) : w.heap.size ≤ gb142)); clear HB; have HB := n0_; have BK142 := n1_; have GW142 := n2_; have GE142 := n3_; clear n0_ n1_ n2_ n3_; clear hb hbox hg)); go_upto_region 5 with (first | ((with_reducible refine gate_dst (N := 2) rfl ?_); (try (refine gate_guard (by rfl) ?_; dsimp only)); refine box_event ?hg (N := 2) ?hd (cs := #[.slice A0_0 l0_0.length c0_0, .slice A0_1 l0_1.length c0_1, .int .i64 a0_2]) (t := 36) ?hr ?_; (case hd => rfl); (case hg => rfl); (case hr => first | (go_simp; done) | (go_simp; rfl)); intro gb142 hg w14 hbox hb; have n0_ := Aside0.mk (below_step (by repeat (first | (with_reducible first | exact HB.out | apply below_alloc | apply pw_below_drewN | apply below_drew1) | exact HB.out)) hb); have n1_ := Aside0.mk (hbox); have n2_ := Aside0.mk ((by rw [hg]; exact (below_size (by repeat (first | (with_reducible first | exact HB.out | apply below_alloc | apply pw_below_drewN | apply below_drew1) | exact HB.out))) : w.heap.size ≤ gb142)); have n3_ := Aside0.mk ((by rw [hg]; exact (below_size (by repeat (first | (with_reducible first | exact HB.out | apply below_alloc | apply pw_below_drewN | apply below_drew1) | exact HB.out))) : w.heap.size ≤ gb142)); clear HB; have HB := n0_; have BK142 := n1_; have GW142 := n2_; have GE142 := n3_; clear n0_ n1_ n2_ n3_; clear hb hbox hg)))
      (try simp only [Act.put, List.setIfInBounds_toArray, List.set_cons_zero, List.set_cons_succ])
      go_cut [25] (fun v25 wc => ∃ (kq : Nat) (x25_12 : Bool), v25 = .bool x25_12 ∧ Aside0 (rehearsalref11_Table_Get.j0 kq a1 x25_12 l0_0 l0_1 a0_2 = some (r1, r2)) ∧ Aside0 (kq ≤ k) ∧ Aside0 (wc.heap[gb142]? = some (.cells #[(.slice A0_0 l0_0.length c0_0), (.slice A0_1 l0_1.length c0_1), .int .i64 a0_2] 36 (0, 0))) ∧ Aside0 (Below w.heap.size w wc))
      case first =>
        have H := HC13.out
        clear HC13
        by_cases c15 : a1.toList = ([64] : List UInt8)
        · rw [if_pos c15] at H
          have c15b0 : (a1.toList == ([64] : List UInt8)) = true := beq_iff_eq.mpr c15
          have c15b1 : (a1.toList != ([64] : List UInt8)) = false := bne_eq_false_iff_eq.mpr c15
          clear c15
          (first | rw [c15b0] | (simp only [i64_w, i32_w]; rw [c15b0]) | skip)
          have H' := Aside0.mk H
          clear H
          go_wp2
          repeat (go_quiet (fail); try go_wp2)
          go_meet
          case rel => exact ⟨_, (true), (by first | rfl | (simp; done) | (simp [*]; done)), H', ⟨by first | omega | exact Nat.le_refl _⟩, ⟨by (with_reducible repeat (first | refine blk_drewN ?_ _ | refine blk_drew ?_ | refine blk_alloc ?_ _)); exact BK142.out⟩, ⟨by repeat (first | (with_reducible first | exact HB.out | apply below_alloc | apply pw_below_drewN | apply below_drew1 | refine below_set ?_ GE142.out) | exact HB.out)⟩⟩
        · rw [if_neg c15] at H
          have c15b0 : (a1.toList == ([64] : List UInt8)) = false := beq_eq_false_iff_ne.mpr c15
          have c15b1 : (a1.toList != ([64] : List UInt8)) = true := bne_iff_ne.mpr c15
          (first | rw [c15b0] | (simp only [i64_w, i32_w]; rw [c15b0]) | skip)
          have H' := Aside0.mk H
          clear H
          go_wp2
          repeat (go_quiet (fail); try go_wp2)
          go_meet
          case rel => exact ⟨_, ((a1.toList == ([42] : List UInt8))), (by first | rfl | (simp; done) | (simp [*]; done)), H', ⟨by first | omega | exact Nat.le_refl _⟩, ⟨by (with_reducible repeat (first | refine blk_drewN ?_ _ | refine blk_drew ?_ | refine blk_alloc ?_ _)); exact BK142.out⟩, ⟨by repeat (first | (with_reducible first | exact HB.out | apply below_alloc | apply pw_below_drewN | apply below_drew1 | refine below_set ?_ GE142.out) | exact HB.out)⟩⟩
      case rest =>
        clear HC13
        try clear c1
        try clear p2
        try clear c3
        try clear c3b0
        try clear c3b1
        try clear c8
        try clear c8b0
        try clear c8b1
        try clear c14
        try clear c15
        try clear c15b0
        try clear c15b1
        try clear hcz11_0
        try clear hcz11_1
        try clear hcz11_2
        try clear hcz6_0
        try clear hcz6_1
        try clear hcz6_2
        try clear hfz11_0
        try clear hfz11_1
        try clear hfz11_2
        try clear hfz6_0
        try clear hfz6_1
        try clear hfz6_2
        obtain ⟨kq, x25_12, rfl, HA, HJ12, BK142, HB⟩ := hcut
        cases kq with
        | zero => exact absurd HA.out (by simp [rehearsalref11_Table_Get.j0])
        | succ kj12 =>
          have H := HA.out
          clear HA
          simp only [rehearsalref11_Table_Get.j0] at H
          by_cases c16 : x25_12 = true
          · subst c16
            have H1 : ((rehearsalref11_Joined.f kj12 l0_1 (⟨#[32]⟩ : ByteArray)).bind fun t145 => (some (t145, decide ((l0_1.length : Int) > 0)))) = some (r1, r2) := by rw [if_pos rfl] at H; exact H
            clear H
            have H := H1
            clear H1
            replace H := Option.bind_eq_some_iff.mp H
            obtain ⟨t145, A170, H⟩ := H
            replace H : (some (t145, decide ((l0_1.length : Int) > 0))) = some (r1, r2) := H
            have A17 := Aside0.mk A170
            clear A170
            simp only [Option.some.injEq, Prod.mk.injEq] at H
            obtain ⟨rfl, rfl⟩ := H
            have hcz18_0 : wc.cell? ⟨gb142, 0, none⟩ = some (.slice A0_0 l0_0.length c0_0) := (blk_cell BK142.out 0).trans rfl
            have hcz18_1 : wc.cell? ⟨gb142, 1, none⟩ = some (.slice A0_1 l0_1.length c0_1) := (blk_cell BK142.out 1).trans rfl
            have hcz18_2 : wc.cell? ⟨gb142, 2, none⟩ = some (.int .i64 a0_2) := (blk_cell BK142.out 2).trans rfl
            have hfz18_0 := blk_frozen BK142.out 0
            have hfz18_1 := blk_frozen BK142.out 1
            have hfz18_2 := blk_frozen BK142.out 2
            go_wp2_with (first | (go_at_call 34; (with_reducible refine (rehearsalref11_Joined.calls kj12 _ _ l0_1 (⟨#[32]⟩ : ByteArray) t145 _ ?side1 ?side2 A17.out).mono ?_); (case side1 => repeat (first | exact (Kd.C_below HR0_1.out HB.out) | (with_reducible refine Kd.C_alloc ?_ _) | (with_reducible refine Kd.C_drewN ?_ _) | (with_reducible refine Kd.C_drew ?_))); (case side2 => exact HC0_1.out); rintro e w' ⟨rfl, ⟨nd, rfl⟩⟩; (try first | exact ⟨rfl, _, World.drewN_drewN _ _ _⟩ | exact ⟨rfl, _, Eq.trans (World.drewN_drewN _ _ _) (congrArg (World.drewN _) (Nat.add_assoc _ _ _))⟩)))
            repeat (go_quiet (first | (go_at_call 34; (with_reducible refine (rehearsalref11_Joined.calls kj12 _ _ l0_1 (⟨#[32]⟩ : ByteArray) t145 _ ?side1 ?side2 A17.out).mono ?_); (case side1 => repeat (first | exact (Kd.C_below HR0_1.out HB.out) | (with_reducible refine Kd.C_alloc ?_ _) | (with_reducible refine Kd.C_drewN ?_ _) | (with_reducible refine Kd.C_drew ?_))); (case side2 => exact HC0_1.out); rintro e w' ⟨rfl, ⟨nd, rfl⟩⟩; (try first | exact ⟨rfl, _, World.drewN_drewN _ _ _⟩ | exact ⟨rfl, _, Eq.trans (World.drewN_drewN _ _ _) (congrArg (World.drewN _) (Nat.add_assoc _ _ _))⟩))); try go_wp2_with (first | (go_at_call 34; (with_reducible refine (rehearsalref11_Joined.calls kj12 _ _ l0_1 (⟨#[32]⟩ : ByteArray) t145 _ ?side1 ?side2 A17.out).mono ?_); (case side1 => repeat (first | exact (Kd.C_below HR0_1.out HB.out) | (with_reducible refine Kd.C_alloc ?_ _) | (with_reducible refine Kd.C_drewN ?_ _) | (with_reducible refine Kd.C_drew ?_))); (case side2 => exact HC0_1.out); rintro e w' ⟨rfl, ⟨nd, rfl⟩⟩; (try first | exact ⟨rfl, _, World.drewN_drewN _ _ _⟩ | exact ⟨rfl, _, Eq.trans (World.drewN_drewN _ _ _) (congrArg (World.drewN _) (Nat.add_assoc _ _ _))⟩))))
            go_ret2
            exact ⟨by first | rfl | (simp [errW_none, errW_some] <;> rfl) | (simp [*, errW_none, errW_some] <;> rfl), by repeat (first | (with_reducible first | exact HB.out | apply below_alloc | apply pw_below_drewN | apply below_drew1 | refine below_set ?_ GE142.out) | exact HB.out)⟩
          · replace c16 := Bool.eq_false_iff.mpr c16
            subst c16
            have H1 : (if (a1.size : Int) > 0 then (if 0 < (a1.size : Int) then ((rehearsalref07_Digit.f (bt a1 0)).bind fun t146 => (rehearsalref11_Table_Get.j1 kj12 a1 t146 l0_0 l0_1 a0_2)) else (none)) else (rehearsalref11_Table_Get.j1 kj12 a1 false l0_0 l0_1 a0_2)) = some (r1, r2) := by rw [if_neg (show ¬ (false = true) by decide)] at H; exact H
            clear H
            have H := H1
            clear H1
            have HC19 := Aside0.mk H
            clear H
            go_upto_region 7 with (fail)
            repeat (go_quiet (fail); go_upto_region 7 with (fail))
            go_cut [40] (fun v40 wc => ∃ (kq : Nat) (x40_18 : Bool), v40 = .bool x40_18 ∧ Aside0 (rehearsalref11_Table_Get.j1 kq a1 x40_18 l0_0 l0_1 a0_2 = some (r1, r2)) ∧ Aside0 (kq ≤ kj12) ∧ Aside0 (wc.heap[gb142]? = some (.cells #[(.slice A0_0 l0_0.length c0_0), (.slice A0_1 l0_1.length c0_1), .int .i64 a0_2] 36 (0, 0))) ∧ Aside0 (Below w.heap.size w wc))
            case first =>
              have H := HC19.out
              clear HC19
              by_cases c20 : (a1.size : Int) > 0
              · rw [if_pos c20] at H
                have c20b0 : decide (0 < (a1.size : Int)) = true := decide_eq_true c20
                have c20b1 : decide (0 < a1.size) = true := decide_eq_true (by omega)
                clear c20
                (first | rw [c20b0] | (simp only [i64_w, i32_w]; rw [c20b0]) | skip)
                by_cases c21 : 0 < (a1.size : Int)
                · rw [if_pos c21] at H
                  have c21b0 : decide (0 < (a1.size : Int)) = true := decide_eq_true c21
                  have c21b1 : decide (0 < a1.size) = true := decide_eq_true (by omega)
                  clear c21
                  replace H := Option.bind_eq_some_iff.mp H
                  obtain ⟨t146, A230, H⟩ := H
                  replace H : (rehearsalref11_Table_Get.j1 kj12 a1 t146 l0_0 l0_1 a0_2) = some (r1, r2) := H
                  have A23 := Aside0.mk A230
                  clear A230
                  have H' := Aside0.mk H
                  clear H
                  have p22 : 0 ≤ (0 : Int) := (by omega)
                  have q22 : 0 < a1.size := (by have : (0 : Int) < (a1.size : Int) := of_decide_eq_true (by first | (with_reducible assumption) | assumption); omega)
                  have hx22 : ∀ h : 0 < a1.size, ((a1[0]'h).toNat : Int) = bt a1 0 := bt_at a1 0
                  clear p22
                  have qi22 : (0 < (a1.size : Int)) = True := eq_true (of_decide_eq_true (by first | (with_reducible assumption) | assumption))
                  replace q22 := eq_true q22
                  go_wp2_with (first | (go_at_call 35; (with_reducible refine (rehearsalref07_Digit.calls (bt a1 0) t146 _ A23.out).mono ?_); rintro e w' ⟨rfl, ⟨nd, rfl⟩⟩; (try first | exact ⟨rfl, _, World.drewN_drewN _ _ _⟩ | exact ⟨rfl, _, Eq.trans (World.drewN_drewN _ _ _) (congrArg (World.drewN _) (Nat.add_assoc _ _ _))⟩)))
                  repeat (go_quiet (first | (go_at_call 35; (with_reducible refine (rehearsalref07_Digit.calls (bt a1 0) t146 _ A23.out).mono ?_); rintro e w' ⟨rfl, ⟨nd, rfl⟩⟩; (try first | exact ⟨rfl, _, World.drewN_drewN _ _ _⟩ | exact ⟨rfl, _, Eq.trans (World.drewN_drewN _ _ _) (congrArg (World.drewN _) (Nat.add_assoc _ _ _))⟩))); try go_wp2_with (first | (go_at_call 35; (with_reducible refine (rehearsalref07_Digit.calls (bt a1 0) t146 _ A23.out).mono ?_); rintro e w' ⟨rfl, ⟨nd, rfl⟩⟩; (try first | exact ⟨rfl, _, World.drewN_drewN _ _ _⟩ | exact ⟨rfl, _, Eq.trans (World.drewN_drewN _ _ _) (congrArg (World.drewN _) (Nat.add_assoc _ _ _))⟩))))
                  go_meet
                  case rel => exact ⟨_, (t146), (by first | rfl | (simp; done) | (simp [*]; done)), H', ⟨by have := HJ12.out; first | omega | exact Nat.le_refl _⟩, ⟨by (with_reducible repeat (first | refine blk_drewN ?_ _ | refine blk_drew ?_ | refine blk_alloc ?_ _)); exact BK142.out⟩, ⟨by repeat (first | (with_reducible first | exact HB.out | apply below_alloc | apply pw_below_drewN | apply below_drew1 | refine below_set ?_ GE142.out) | exact HB.out)⟩⟩
                · rw [if_neg c21] at H
                  exact absurd H (by simp)
              · rw [if_neg c20] at H
                have c20b0 : decide (0 < (a1.size : Int)) = false := decide_eq_false c20
                have c20b1 : decide (0 < a1.size) = false := decide_eq_false (by omega)
                clear c20
                (first | rw [c20b0] | (simp only [i64_w, i32_w]; rw [c20b0]) | skip)
                have H' := Aside0.mk H
                clear H
                go_wp2
                repeat (go_quiet (fail); try go_wp2)
                go_meet
                case rel => exact ⟨_, (false), (by first | rfl | (simp; done) | (simp [*]; done)), H', ⟨by have := HJ12.out; first | omega | exact Nat.le_refl _⟩, ⟨by (with_reducible repeat (first | refine blk_drewN ?_ _ | refine blk_drew ?_ | refine blk_alloc ?_ _)); exact BK142.out⟩, ⟨by repeat (first | (with_reducible first | exact HB.out | apply below_alloc | apply pw_below_drewN | apply below_drew1 | refine below_set ?_ GE142.out) | exact HB.out)⟩⟩
            case rest =>
              clear HC19
              try clear c1
              try clear c2
              try clear p2
              try clear q2
              try clear hx2
              try clear qi2
              try clear c3
              try clear c3b0
              try clear c3b1
              try clear c8
              try clear c8b0
              try clear c8b1
              try clear c14
              try clear c15
              try clear c15b0
              try clear c15b1
              try clear c16
              try clear c20
              try clear c20b0
              try clear c20b1
              try clear c21
              try clear c21b0
              try clear c21b1
              try clear p22
              try clear q22
              try clear hx22
              try clear qi22
              try clear hcz11_0
              try clear hcz11_1
              try clear hcz11_2
              try clear hcz18_0
              try clear hcz18_1
              try clear hcz18_2
              try clear hcz6_0
              try clear hcz6_1
              try clear hcz6_2
              try clear hfz11_0
              try clear hfz11_1
              try clear hfz11_2
              try clear hfz18_0
              try clear hfz18_1
              try clear hfz18_2
              try clear hfz6_0
              try clear hfz6_1
              try clear hfz6_2
              try clear p2
              try clear p22
              try clear q22
              obtain ⟨kq, x40_18, rfl, HA, HJ18, BK142, HB⟩ := hcut
              cases kq with
              | zero => exact absurd HA.out (by simp [rehearsalref11_Table_Get.j1])
              | succ kj18 =>
                have H := HA.out
                clear HA
                simp only [rehearsalref11_Table_Get.j1] at H
                by_cases c24 : x40_18 = true
                · subst c24
                  have H1 : ((rehearsalref01_Decimal.f a1).bind fun bt147 => (if bt147.2 = 0 then (if bt147.1 < 1 then (rehearsalref11_Table_Get.j2 kj18 bt147.1 true l0_0 l0_1 a0_2) else (rehearsalref11_Table_Get.j2 kj18 bt147.1 (decide (bt147.1 > (l0_1.length : Int))) l0_0 l0_1 a0_2)) else (rehearsalref11_Table_Get.j2 kj18 bt147.1 true l0_0 l0_1 a0_2))) = some (r1, r2) := by rw [if_pos rfl] at H; exact H
                  clear H
                  have H := H1
                  clear H1
                  replace H := Option.bind_eq_some_iff.mp H
                  obtain ⟨⟨t147, t148⟩, A250, H⟩ := H
                  replace H : (if t148 = 0 then (if t147 < 1 then (rehearsalref11_Table_Get.j2 kj18 t147 true l0_0 l0_1 a0_2) else (rehearsalref11_Table_Get.j2 kj18 t147 (decide (t147 > (l0_1.length : Int))) l0_0 l0_1 a0_2)) else (rehearsalref11_Table_Get.j2 kj18 t147 true l0_0 l0_1 a0_2)) = some (r1, r2) := H
                  have A25 := Aside0.mk A250
                  clear A250
                  have HC26 := Aside0.mk H
                  clear H
                  go_upto_region 9 with (first | (go_at_call 36; (with_reducible refine (rehearsalref01_Decimal.calls a1 t147 t148 _ A25.out).mono ?_); rintro e w' ⟨rfl, ⟨nd, rfl⟩⟩; (try first | exact ⟨rfl, _, World.drewN_drewN _ _ _⟩ | exact ⟨rfl, _, Eq.trans (World.drewN_drewN _ _ _) (congrArg (World.drewN _) (Nat.add_assoc _ _ _))⟩)))
                  repeat (go_quiet (first | (go_at_call 36; (with_reducible refine (rehearsalref01_Decimal.calls a1 t147 t148 _ A25.out).mono ?_); rintro e w' ⟨rfl, ⟨nd, rfl⟩⟩; (try first | exact ⟨rfl, _, World.drewN_drewN _ _ _⟩ | exact ⟨rfl, _, Eq.trans (World.drewN_drewN _ _ _) (congrArg (World.drewN _) (Nat.add_assoc _ _ _))⟩))); go_upto_region 9 with (first | (go_at_call 36; (with_reducible refine (rehearsalref01_Decimal.calls a1 t147 t148 _ A25.out).mono ?_); rintro e w' ⟨rfl, ⟨nd, rfl⟩⟩; (try first | exact ⟨rfl, _, World.drewN_drewN _ _ _⟩ | exact ⟨rfl, _, Eq.trans (World.drewN_drewN _ _ _) (congrArg (World.drewN _) (Nat.add_assoc _ _ _))⟩))))
                  (try simp only [Act.put, List.setIfInBounds_toArray, List.set_cons_zero, List.set_cons_succ])
                  go_cut [58] (fun v58 wc => ∃ (kq : Nat) (x58_25 : Bool), v58 = .bool x58_25 ∧ Aside0 (rehearsalref11_Table_Get.j2 kq t147 x58_25 l0_0 l0_1 a0_2 = some (r1, r2)) ∧ Aside0 (kq ≤ kj18) ∧ Aside0 (wc.heap[gb142]? = some (.cells #[(.slice A0_0 l0_0.length c0_0), (.slice A0_1 l0_1.length c0_1), .int .i64 a0_2] 36 (0, 0))) ∧ Aside0 (Below w.heap.size w wc))
                  case first =>
                    have H := HC26.out
                    clear HC26
                    by_cases c27 : t148 = 0
                    · rw [if_pos c27] at H
                      have c27b0 : (t148 == 0) = true := beq_iff_eq.mpr c27
                      have c27b1 : (t148 != 0) = false := bne_eq_false_iff_eq.mpr c27
                      clear c27
                      (first | rw [c27b0] | (simp only [i64_w, i32_w]; rw [c27b0]) | skip)
                      by_cases c28 : t147 < 1
                      · rw [if_pos c28] at H
                        have c28b0 : decide (t147 < 1) = true := decide_eq_true c28
                        clear c28
                        have H' := Aside0.mk H
                        clear H
                        go_wp2
                        repeat (go_quiet (fail); try go_wp2)
                        go_meet
                        case rel => exact ⟨_, (true), (by first | rfl | (simp; done) | (simp [*]; done)), H', ⟨by have := HJ12.out; have := HJ18.out; first | omega | exact Nat.le_refl _⟩, ⟨by (with_reducible repeat (first | refine blk_drewN ?_ _ | refine blk_drew ?_ | refine blk_alloc ?_ _)); exact BK142.out⟩, ⟨by repeat (first | (with_reducible first | exact HB.out | apply below_alloc | apply pw_below_drewN | apply below_drew1 | refine below_set ?_ GE142.out) | exact HB.out)⟩⟩
                      · rw [if_neg c28] at H
                        have c28b0 : decide (t147 < 1) = false := decide_eq_false c28
                        clear c28
                        have H' := Aside0.mk H
                        clear H
                        have hcz29_0 : wc.cell? ⟨gb142, 0, none⟩ = some (.slice A0_0 l0_0.length c0_0) := (blk_cell BK142.out 0).trans rfl
                        have hcz29_1 : wc.cell? ⟨gb142, 1, none⟩ = some (.slice A0_1 l0_1.length c0_1) := (blk_cell BK142.out 1).trans rfl
                        have hcz29_2 : wc.cell? ⟨gb142, 2, none⟩ = some (.int .i64 a0_2) := (blk_cell BK142.out 2).trans rfl
                        have hfz29_0 := blk_frozen BK142.out 0
                        have hfz29_1 := blk_frozen BK142.out 1
                        have hfz29_2 := blk_frozen BK142.out 2
                        go_wp2
                        repeat (go_quiet (fail); try go_wp2)
                        go_meet
                        case rel => exact ⟨_, (decide (t147 > (l0_1.length : Int))), (by first | rfl | (simp; done) | (simp [*]; done)), H', ⟨by have := HJ12.out; have := HJ18.out; first | omega | exact Nat.le_refl _⟩, ⟨by (with_reducible repeat (first | refine blk_drewN ?_ _ | refine blk_drew ?_ | refine blk_alloc ?_ _)); exact BK142.out⟩, ⟨by repeat (first | (with_reducible first | exact HB.out | apply below_alloc | apply pw_below_drewN | apply below_drew1 | refine below_set ?_ GE142.out) | exact HB.out)⟩⟩
                    · rw [if_neg c27] at H
                      have c27b0 : (t148 == 0) = false := beq_eq_false_iff_ne.mpr c27
                      have c27b1 : (t148 != 0) = true := bne_iff_ne.mpr c27
                      (first | rw [c27b0] | (simp only [i64_w, i32_w]; rw [c27b0]) | skip)
                      have H' := Aside0.mk H
                      clear H
                      go_wp2
                      repeat (go_quiet (fail); try go_wp2)
                      go_meet
                      case rel => exact ⟨_, (true), (by first | rfl | (simp; done) | (simp [*]; done)), H', ⟨by have := HJ12.out; have := HJ18.out; first | omega | exact Nat.le_refl _⟩, ⟨by (with_reducible repeat (first | refine blk_drewN ?_ _ | refine blk_drew ?_ | refine blk_alloc ?_ _)); exact BK142.out⟩, ⟨by repeat (first | (with_reducible first | exact HB.out | apply below_alloc | apply pw_below_drewN | apply below_drew1 | refine below_set ?_ GE142.out) | exact HB.out)⟩⟩
                  case rest =>
                    clear HC26
                    try clear c1
                    try clear c2
                    try clear p2
                    try clear q2
                    try clear hx2
                    try clear qi2
                    try clear c3
                    try clear c3b0
                    try clear c3b1
                    try clear c8
                    try clear c8b0
                    try clear c8b1
                    try clear c14
                    try clear c15
                    try clear c15b0
                    try clear c15b1
                    try clear c16
                    try clear c20
                    try clear c20b0
                    try clear c20b1
                    try clear c21
                    try clear c21b0
                    try clear c21b1
                    try clear p22
                    try clear q22
                    try clear hx22
                    try clear qi22
                    try clear c24
                    try clear c27
                    try clear c27b0
                    try clear c27b1
                    try clear c28
                    try clear c28b0
                    try clear hcz11_0
                    try clear hcz11_1
                    try clear hcz11_2
                    try clear hcz18_0
                    try clear hcz18_1
                    try clear hcz18_2
                    try clear hcz29_0
                    try clear hcz29_1
                    try clear hcz29_2
                    try clear hcz6_0
                    try clear hcz6_1
                    try clear hcz6_2
                    try clear hfz11_0
                    try clear hfz11_1
                    try clear hfz11_2
                    try clear hfz18_0
                    try clear hfz18_1
                    try clear hfz18_2
                    try clear hfz29_0
                    try clear hfz29_1
                    try clear hfz29_2
                    try clear hfz6_0
                    try clear hfz6_1
                    try clear hfz6_2
                    try clear p2
                    try clear p22
                    try clear q2
                    try clear q22
                    obtain ⟨kq, x58_25, rfl, HA, HJ25, BK142, HB⟩ := hcut
                    cases kq with
                    | zero => exact absurd HA.out (by simp [rehearsalref11_Table_Get.j2])
                    | succ kj25 =>
                      have H := HA.out
                      clear HA
                      simp only [rehearsalref11_Table_Get.j2] at H
                      by_cases c30 : x58_25 = true
                      · subst c30
                        have H1 : (some ((⟨#[]⟩ : ByteArray), false)) = some (r1, r2) := by rw [if_pos rfl] at H; exact H
                        clear H
                        have H := H1
                        clear H1
                        simp only [Option.some.injEq, Prod.mk.injEq] at H
                        obtain ⟨rfl, rfl⟩ := H
                        go_wp2
                        repeat (go_quiet (fail); try go_wp2)
                        go_ret2
                        exact ⟨by first | rfl | (simp [errW_none, errW_some] <;> rfl) | (simp [*, errW_none, errW_some] <;> rfl), by repeat (first | (with_reducible first | exact HB.out | apply below_alloc | apply pw_below_drewN | apply below_drew1 | refine below_set ?_ GE142.out) | exact HB.out)⟩
                      · replace c30 := Bool.eq_false_iff.mpr c30
                        subst c30
                        have H1 : (if 0 ≤ (wrap64 (t147 - 1)) then (if (wrap64 (t147 - 1)) < (l0_1.length : Int) then (some (rdOf ByteArray.empty l0_1 (wrap64 (t147 - 1)), true)) else (none)) else (none)) = some (r1, r2) := by rw [if_neg (show ¬ (false = true) by decide)] at H; exact H
                        clear H
                        have H := H1
                        clear H1
                        obtain ⟨ji31, hji31⟩ : ∃ j_ : Int, (wrap64 (t147 - 1)) = j_ := ⟨_, rfl⟩
                        replace H : (if 0 ≤ (ji31) then (if (ji31) < (l0_1.length : Int) then (some (rdOf ByteArray.empty l0_1 (ji31), true)) else (none)) else (none)) = some (r1, r2) := by first | (rw [hji31] at H; exact H) | (simp only [hji31] at H ⊢; exact H)
                        have hji31w : (IntKind.i64.wrap (t147 - 1)) = ji31 := (i64_w _).trans hji31
                        by_cases c32 : 0 ≤ (ji31)
                        · rw [if_pos c32] at H
                          have c32b0 : decide (0 ≤ (ji31)) = true := decide_eq_true c32
                          clear c32
                          by_cases c33 : (ji31) < (l0_1.length : Int)
                          · rw [if_pos c33] at H
                            have c33b0 : decide ((ji31) < (l0_1.length : Int)) = true := decide_eq_true c33
                            clear c33
                            simp only [Option.some.injEq, Prod.mk.injEq] at H
                            obtain ⟨rfl, rfl⟩ := H
                            have hcz34_0 : wc.cell? ⟨gb142, 0, none⟩ = some (.slice A0_0 l0_0.length c0_0) := (blk_cell BK142.out 0).trans rfl
                            have hcz34_1 : wc.cell? ⟨gb142, 1, none⟩ = some (.slice A0_1 l0_1.length c0_1) := (blk_cell BK142.out 1).trans rfl
                            have hcz34_2 : wc.cell? ⟨gb142, 2, none⟩ = some (.int .i64 a0_2) := (blk_cell BK142.out 2).trans rfl
                            have hfz34_0 := blk_frozen BK142.out 0
                            have hfz34_1 := blk_frozen BK142.out 1
                            have hfz34_2 := blk_frozen BK142.out 2
                            have p149 : 0 ≤ ((ji31) : Int) := of_decide_eq_true (by first | (with_reducible assumption) | assumption)
                            have q149 : (ji31) < (l0_1.length : Int) := of_decide_eq_true (by first | (with_reducible assumption) | assumption)
                            obtain ⟨ad149, e149, hx149_0⟩ := Kd.at_string HR0_1.out (ji31) p149 q149
                            cases e149
                            replace hx149_0 := (HB.out.cell (World.block_lt_of_cell? w _ hx149_0)).trans hx149_0
                            replace p149 := eq_true p149
                            replace q149 := eq_true q149
                            go_wp2
                            repeat (go_quiet (fail); try go_wp2)
                            go_ret2
                            exact ⟨by first | rfl | (simp [errW_none, errW_some] <;> rfl) | (simp only [← hji31]; first | rfl | (simp [errW_none, errW_some] <;> rfl)) | (simp [*, errW_none, errW_some] <;> rfl), by repeat (first | (with_reducible first | exact HB.out | apply below_alloc | apply pw_below_drewN | apply below_drew1 | refine below_set ?_ GE142.out) | exact HB.out)⟩
                          · rw [if_neg c33] at H
                            exact absurd H (by simp)
                        · rw [if_neg c32] at H
                          exact absurd H (by simp)
                · replace c24 := Bool.eq_false_iff.mpr c24
                  subst c24
                  have H1 : ((rehearsalref11_Table_Place.f kj18 l0_0 l0_1 a0_2 a1).bind fun t150 => (if t150 < 0 then (some ((⟨#[]⟩ : ByteArray), false)) else (if 0 ≤ t150 then (if t150 < (l0_0.length : Int) then (some ((rd_T26 l0_0 t150).f1, true)) else (none)) else (none)))) = some (r1, r2) := by rw [if_neg (show ¬ (false = true) by decide)] at H; exact H
                  clear H
                  have H := H1
                  clear H1
                  replace H := Option.bind_eq_some_iff.mp H
                  obtain ⟨t150, A350, H⟩ := H
                  replace H : (if t150 < 0 then (some ((⟨#[]⟩ : ByteArray), false)) else (if 0 ≤ t150 then (if t150 < (l0_0.length : Int) then (some ((rd_T26 l0_0 t150).f1, true)) else (none)) else (none))) = some (r1, r2) := H
                  have A35 := Aside0.mk A350
                  clear A350
                  by_cases c36 : t150 < 0
                  · rw [if_pos c36] at H
                    have c36b0 : decide (t150 < 0) = true := decide_eq_true c36
                    clear c36
                    simp only [Option.some.injEq, Prod.mk.injEq] at H
                    obtain ⟨rfl, rfl⟩ := H
                    have hcz37_0 : wc.cell? ⟨gb142, 0, none⟩ = some (.slice A0_0 l0_0.length c0_0) := (blk_cell BK142.out 0).trans rfl
                    have hcz37_1 : wc.cell? ⟨gb142, 1, none⟩ = some (.slice A0_1 l0_1.length c0_1) := (blk_cell BK142.out 1).trans rfl
                    have hcz37_2 : wc.cell? ⟨gb142, 2, none⟩ = some (.int .i64 a0_2) := (blk_cell BK142.out 2).trans rfl
                    have hfz37_0 := blk_frozen BK142.out 0
                    have hfz37_1 := blk_frozen BK142.out 1
                    have hfz37_2 := blk_frozen BK142.out 2
                    go_wp2_with (first | (go_at_call 37; (with_reducible refine (rehearsalref11_Table_Place.calls kj18 _ _ l0_0 _ _ l0_1 a0_2 a1 t150 _ ?side1 ?side2 ?side3 ?side4 A35.out).mono ?_); (case side1 => repeat (first | exact (Kd.C_below HR0_0.out HB.out) | (with_reducible refine Kd.C_alloc ?_ _) | (with_reducible refine Kd.C_drewN ?_ _) | (with_reducible refine Kd.C_drew ?_))); (case side2 => exact HC0_0.out); (case side3 => repeat (first | exact (Kd.C_below HR0_1.out HB.out) | (with_reducible refine Kd.C_alloc ?_ _) | (with_reducible refine Kd.C_drewN ?_ _) | (with_reducible refine Kd.C_drew ?_))); (case side4 => exact HC0_1.out); rintro e w38 ⟨rfl, hb⟩; have n0_ := Aside0.mk (blk_below (g := gb142) (o := .cells #[.slice A0_0 l0_0.length c0_0, .slice A0_1 l0_1.length c0_1, .int .i64 a0_2] 36 (0, 0)) (by (with_reducible repeat (first | refine blk_drewN ?_ _ | refine blk_drew ?_ | refine blk_alloc ?_ _)); exact BK142.out) hb); have n1_ := Aside0.mk (below_step (by repeat (first | (with_reducible first | exact HB.out | apply below_alloc | apply pw_below_drewN | apply below_drew1 | refine below_set ?_ GE142.out) | exact HB.out)) hb); clear BK142; clear HB; have BK142 := n0_; have HB := n1_; clear n0_ n1_; (try clear hb); (try clear hb2); (try clear hk); (try clear hi)))
                    repeat (go_quiet (first | (go_at_call 37; (with_reducible refine (rehearsalref11_Table_Place.calls kj18 _ _ l0_0 _ _ l0_1 a0_2 a1 t150 _ ?side1 ?side2 ?side3 ?side4 A35.out).mono ?_); (case side1 => repeat (first | exact (Kd.C_below HR0_0.out HB.out) | (with_reducible refine Kd.C_alloc ?_ _) | (with_reducible refine Kd.C_drewN ?_ _) | (with_reducible refine Kd.C_drew ?_))); (case side2 => exact HC0_0.out); (case side3 => repeat (first | exact (Kd.C_below HR0_1.out HB.out) | (with_reducible refine Kd.C_alloc ?_ _) | (with_reducible refine Kd.C_drewN ?_ _) | (with_reducible refine Kd.C_drew ?_))); (case side4 => exact HC0_1.out); rintro e w38 ⟨rfl, hb⟩; have n0_ := Aside0.mk (blk_below (g := gb142) (o := .cells #[.slice A0_0 l0_0.length c0_0, .slice A0_1 l0_1.length c0_1, .int .i64 a0_2] 36 (0, 0)) (by (with_reducible repeat (first | refine blk_drewN ?_ _ | refine blk_drew ?_ | refine blk_alloc ?_ _)); exact BK142.out) hb); have n1_ := Aside0.mk (below_step (by repeat (first | (with_reducible first | exact HB.out | apply below_alloc | apply pw_below_drewN | apply below_drew1 | refine below_set ?_ GE142.out) | exact HB.out)) hb); clear BK142; clear HB; have BK142 := n0_; have HB := n1_; clear n0_ n1_; (try clear hb); (try clear hb2); (try clear hk); (try clear hi))); try go_wp2_with (first | (go_at_call 37; (with_reducible refine (rehearsalref11_Table_Place.calls kj18 _ _ l0_0 _ _ l0_1 a0_2 a1 t150 _ ?side1 ?side2 ?side3 ?side4 A35.out).mono ?_); (case side1 => repeat (first | exact (Kd.C_below HR0_0.out HB.out) | (with_reducible refine Kd.C_alloc ?_ _) | (with_reducible refine Kd.C_drewN ?_ _) | (with_reducible refine Kd.C_drew ?_))); (case side2 => exact HC0_0.out); (case side3 => repeat (first | exact (Kd.C_below HR0_1.out HB.out) | (with_reducible refine Kd.C_alloc ?_ _) | (with_reducible refine Kd.C_drewN ?_ _) | (with_reducible refine Kd.C_drew ?_))); (case side4 => exact HC0_1.out); rintro e w38 ⟨rfl, hb⟩; have n0_ := Aside0.mk (blk_below (g := gb142) (o := .cells #[.slice A0_0 l0_0.length c0_0, .slice A0_1 l0_1.length c0_1, .int .i64 a0_2] 36 (0, 0)) (by (with_reducible repeat (first | refine blk_drewN ?_ _ | refine blk_drew ?_ | refine blk_alloc ?_ _)); exact BK142.out) hb); have n1_ := Aside0.mk (below_step (by repeat (first | (with_reducible first | exact HB.out | apply below_alloc | apply pw_below_drewN | apply below_drew1 | refine below_set ?_ GE142.out) | exact HB.out)) hb); clear BK142; clear HB; have BK142 := n0_; have HB := n1_; clear n0_ n1_; (try clear hb); (try clear hb2); (try clear hk); (try clear hi))))
                    go_ret2
                    exact ⟨by first | rfl | (simp [errW_none, errW_some] <;> rfl) | (simp [*, errW_none, errW_some] <;> rfl), by repeat (first | (with_reducible first | exact HB.out | apply below_alloc | apply pw_below_drewN | apply below_drew1 | refine below_set ?_ GE142.out) | exact HB.out)⟩
                  · rw [if_neg c36] at H
                    have c36b0 : decide (t150 < 0) = false := decide_eq_false c36
                    clear c36
                    by_cases c39 : 0 ≤ t150
                    · rw [if_pos c39] at H
                      have c39b0 : decide (0 ≤ t150) = true := decide_eq_true c39
                      clear c39
                      by_cases c40 : t150 < (l0_0.length : Int)
                      · rw [if_pos c40] at H
                        have c40b0 : decide (t150 < (l0_0.length : Int)) = true := decide_eq_true c40
                        clear c40
                        simp only [Option.some.injEq, Prod.mk.injEq] at H
                        obtain ⟨rfl, rfl⟩ := H
                        have hcz41_0 : wc.cell? ⟨gb142, 0, none⟩ = some (.slice A0_0 l0_0.length c0_0) := (blk_cell BK142.out 0).trans rfl
                        have hcz41_1 : wc.cell? ⟨gb142, 1, none⟩ = some (.slice A0_1 l0_1.length c0_1) := (blk_cell BK142.out 1).trans rfl
                        have hcz41_2 : wc.cell? ⟨gb142, 2, none⟩ = some (.int .i64 a0_2) := (blk_cell BK142.out 2).trans rfl
                        have hfz41_0 := blk_frozen BK142.out 0
                        have hfz41_1 := blk_frozen BK142.out 1
                        have hfz41_2 := blk_frozen BK142.out 2
                        go_wp2_with (first | (go_at_call 37; (with_reducible refine (rehearsalref11_Table_Place.calls kj18 _ _ l0_0 _ _ l0_1 a0_2 a1 t150 _ ?side1 ?side2 ?side3 ?side4 A35.out).mono ?_); (case side1 => repeat (first | exact (Kd.C_below HR0_0.out HB.out) | (with_reducible refine Kd.C_alloc ?_ _) | (with_reducible refine Kd.C_drewN ?_ _) | (with_reducible refine Kd.C_drew ?_))); (case side2 => exact HC0_0.out); (case side3 => repeat (first | exact (Kd.C_below HR0_1.out HB.out) | (with_reducible refine Kd.C_alloc ?_ _) | (with_reducible refine Kd.C_drewN ?_ _) | (with_reducible refine Kd.C_drew ?_))); (case side4 => exact HC0_1.out); rintro e w42 ⟨rfl, hb⟩; have n0_ := Aside0.mk (blk_below (g := gb142) (o := .cells #[.slice A0_0 l0_0.length c0_0, .slice A0_1 l0_1.length c0_1, .int .i64 a0_2] 36 (0, 0)) (by (with_reducible repeat (first | refine blk_drewN ?_ _ | refine blk_drew ?_ | refine blk_alloc ?_ _)); exact BK142.out) hb); have n1_ := Aside0.mk (below_step (by repeat (first | (with_reducible first | exact HB.out | apply below_alloc | apply pw_below_drewN | apply below_drew1 | refine below_set ?_ GE142.out) | exact HB.out)) hb); clear BK142; clear HB; have BK142 := n0_; have HB := n1_; clear n0_ n1_; (try clear hb); (try clear hb2); (try clear hk); (try clear hi); have hcz43_0 : w42.cell? ⟨gb142, 0, none⟩ = some (.slice A0_0 l0_0.length c0_0) := (blk_cell BK142.out 0).trans rfl; have hcz43_1 : w42.cell? ⟨gb142, 1, none⟩ = some (.slice A0_1 l0_1.length c0_1) := (blk_cell BK142.out 1).trans rfl; have hcz43_2 : w42.cell? ⟨gb142, 2, none⟩ = some (.int .i64 a0_2) := (blk_cell BK142.out 2).trans rfl; have hfz43_0 := blk_frozen BK142.out 0; have hfz43_1 := blk_frozen BK142.out 1; have hfz43_2 := blk_frozen BK142.out 2; have p151 : 0 ≤ (t150 : Int) := of_decide_eq_true (by first | (with_reducible assumption) | assumption); have q151 : t150 < (l0_0.length : Int) := of_decide_eq_true (by first | (with_reducible assumption) | assumption); obtain ⟨ad151, e151, hx151_0, hx151_1⟩ := at_T26 HR0_0.out t150 p151 q151; cases e151; replace hx151_0 := (HB.out.cell (World.block_lt_of_cell? w _ hx151_0)).trans hx151_0; replace hx151_1 := (HB.out.cell (World.block_lt_of_cell? w _ hx151_1)).trans hx151_1; replace p151 := eq_true p151; replace q151 := eq_true q151))
                        repeat (go_quiet (first | (go_at_call 37; (with_reducible refine (rehearsalref11_Table_Place.calls kj18 _ _ l0_0 _ _ l0_1 a0_2 a1 t150 _ ?side1 ?side2 ?side3 ?side4 A35.out).mono ?_); (case side1 => repeat (first | exact (Kd.C_below HR0_0.out HB.out) | (with_reducible refine Kd.C_alloc ?_ _) | (with_reducible refine Kd.C_drewN ?_ _) | (with_reducible refine Kd.C_drew ?_))); (case side2 => exact HC0_0.out); (case side3 => repeat (first | exact (Kd.C_below HR0_1.out HB.out) | (with_reducible refine Kd.C_alloc ?_ _) | (with_reducible refine Kd.C_drewN ?_ _) | (with_reducible refine Kd.C_drew ?_))); (case side4 => exact HC0_1.out); rintro e w42 ⟨rfl, hb⟩; have n0_ := Aside0.mk (blk_below (g := gb142) (o := .cells #[.slice A0_0 l0_0.length c0_0, .slice A0_1 l0_1.length c0_1, .int .i64 a0_2] 36 (0, 0)) (by (with_reducible repeat (first | refine blk_drewN ?_ _ | refine blk_drew ?_ | refine blk_alloc ?_ _)); exact BK142.out) hb); have n1_ := Aside0.mk (below_step (by repeat (first | (with_reducible first | exact HB.out | apply below_alloc | apply pw_below_drewN | apply below_drew1 | refine below_set ?_ GE142.out) | exact HB.out)) hb); clear BK142; clear HB; have BK142 := n0_; have HB := n1_; clear n0_ n1_; (try clear hb); (try clear hb2); (try clear hk); (try clear hi); have hcz43_0 : w42.cell? ⟨gb142, 0, none⟩ = some (.slice A0_0 l0_0.length c0_0) := (blk_cell BK142.out 0).trans rfl; have hcz43_1 : w42.cell? ⟨gb142, 1, none⟩ = some (.slice A0_1 l0_1.length c0_1) := (blk_cell BK142.out 1).trans rfl; have hcz43_2 : w42.cell? ⟨gb142, 2, none⟩ = some (.int .i64 a0_2) := (blk_cell BK142.out 2).trans rfl; have hfz43_0 := blk_frozen BK142.out 0; have hfz43_1 := blk_frozen BK142.out 1; have hfz43_2 := blk_frozen BK142.out 2; have p151 : 0 ≤ (t150 : Int) := of_decide_eq_true (by first | (with_reducible assumption) | assumption); have q151 : t150 < (l0_0.length : Int) := of_decide_eq_true (by first | (with_reducible assumption) | assumption); obtain ⟨ad151, e151, hx151_0, hx151_1⟩ := at_T26 HR0_0.out t150 p151 q151; cases e151; replace hx151_0 := (HB.out.cell (World.block_lt_of_cell? w _ hx151_0)).trans hx151_0; replace hx151_1 := (HB.out.cell (World.block_lt_of_cell? w _ hx151_1)).trans hx151_1; replace p151 := eq_true p151; replace q151 := eq_true q151)); try go_wp2_with (first | (go_at_call 37; (with_reducible refine (rehearsalref11_Table_Place.calls kj18 _ _ l0_0 _ _ l0_1 a0_2 a1 t150 _ ?side1 ?side2 ?side3 ?side4 A35.out).mono ?_); (case side1 => repeat (first | exact (Kd.C_below HR0_0.out HB.out) | (with_reducible refine Kd.C_alloc ?_ _) | (with_reducible refine Kd.C_drewN ?_ _) | (with_reducible refine Kd.C_drew ?_))); (case side2 => exact HC0_0.out); (case side3 => repeat (first | exact (Kd.C_below HR0_1.out HB.out) | (with_reducible refine Kd.C_alloc ?_ _) | (with_reducible refine Kd.C_drewN ?_ _) | (with_reducible refine Kd.C_drew ?_))); (case side4 => exact HC0_1.out); rintro e w42 ⟨rfl, hb⟩; have n0_ := Aside0.mk (blk_below (g := gb142) (o := .cells #[.slice A0_0 l0_0.length c0_0, .slice A0_1 l0_1.length c0_1, .int .i64 a0_2] 36 (0, 0)) (by (with_reducible repeat (first | refine blk_drewN ?_ _ | refine blk_drew ?_ | refine blk_alloc ?_ _)); exact BK142.out) hb); have n1_ := Aside0.mk (below_step (by repeat (first | (with_reducible first | exact HB.out | apply below_alloc | apply pw_below_drewN | apply below_drew1 | refine below_set ?_ GE142.out) | exact HB.out)) hb); clear BK142; clear HB; have BK142 := n0_; have HB := n1_; clear n0_ n1_; (try clear hb); (try clear hb2); (try clear hk); (try clear hi); have hcz43_0 : w42.cell? ⟨gb142, 0, none⟩ = some (.slice A0_0 l0_0.length c0_0) := (blk_cell BK142.out 0).trans rfl; have hcz43_1 : w42.cell? ⟨gb142, 1, none⟩ = some (.slice A0_1 l0_1.length c0_1) := (blk_cell BK142.out 1).trans rfl; have hcz43_2 : w42.cell? ⟨gb142, 2, none⟩ = some (.int .i64 a0_2) := (blk_cell BK142.out 2).trans rfl; have hfz43_0 := blk_frozen BK142.out 0; have hfz43_1 := blk_frozen BK142.out 1; have hfz43_2 := blk_frozen BK142.out 2; have p151 : 0 ≤ (t150 : Int) := of_decide_eq_true (by first | (with_reducible assumption) | assumption); have q151 : t150 < (l0_0.length : Int) := of_decide_eq_true (by first | (with_reducible assumption) | assumption); obtain ⟨ad151, e151, hx151_0, hx151_1⟩ := at_T26 HR0_0.out t150 p151 q151; cases e151; replace hx151_0 := (HB.out.cell (World.block_lt_of_cell? w _ hx151_0)).trans hx151_0; replace hx151_1 := (HB.out.cell (World.block_lt_of_cell? w _ hx151_1)).trans hx151_1; replace p151 := eq_true p151; replace q151 := eq_true q151)))
                        go_ret2
                        exact ⟨by first | rfl | (simp [errW_none, errW_some] <;> rfl) | (simp [*, errW_none, errW_some] <;> rfl), by repeat (first | (with_reducible first | exact HB.out | apply below_alloc | apply pw_below_drewN | apply below_drew1 | refine below_set ?_ GE142.out) | exact HB.out)⟩
                      · rw [if_neg c40] at H
                        exact absurd H (by simp)
                    · rw [if_neg c39] at H
                      exact absurd H (by simp)
end Go.Proofs.Ytgcbipflmhbpcaa.PV
namespace Go.Proofs.Ytgcbipflmhbpcaa.PV
open Go.RowKit Go.Proofs.YtgcbipflmhbpcaaW.PrintWords Go.Proofs.YtgcbipflmhbpcaaW.PrintLast Go.Proofs.YtgcbipflmhbpcaaW.PrintMore
attribute [local go_sem] max2_int min2_int max_two min_two max_three min_three max_four min_four   -- for this text's walks alone
set_option linter.unusedVariables false
set_option linter.unusedSimpArgs false
mutual
def rehearsallaw11_short.l0 : Nat → Int → Int → Int → ByteArray → ByteArray → List ByteArray → Int → Option (Bool)
  | 0, _, _, _, _, _, _, _ => none
  | k + 1, x3, x4, x203000, x203001, x203002, x203003, x203004 => if x4 < (x203003.length : Int) then (rehearsallaw11_short.j1 k x3 x4 (decide (x4 ≤ 256)) x203000 x203001 x203002 x203003 x203004) else (rehearsallaw11_short.j1 k x3 x4 false x203000 x203001 x203002 x203003 x203004)
def rehearsallaw11_short.j1 : Nat → Int → Int → Bool → Int → ByteArray → ByteArray → List ByteArray → Int → Option (Bool)
  | 0, _, _, _, _, _, _, _, _ => none
  | k + 1, x3, x4, x20, x203000, x203001, x203002, x203003, x203004 => if x20 = true then (if 0 ≤ x4 then (if x4 < (x203003.length : Int) then (if (wrap64 (x3 + ((rdOf ByteArray.empty x203003 x4).size : Int))) > 40000 then (some false) else (rehearsallaw11_short.l0 k (wrap64 (x3 + ((rdOf ByteArray.empty x203003 x4).size : Int))) (wrap64 (x4 + 1)) x203000 x203001 x203002 x203003 x203004)) else (none)) else (none)) else (some (decide (x3 ≤ 40000)))
end
def rehearsallaw11_short.f (k : Nat) (a0_0 : Int) (a0_1 : ByteArray) (a0_2 : ByteArray) (l0_3 : List ByteArray) (a0_4 : Int) : Option (Bool) := rehearsallaw11_short.l0 k (wrap64 ((a0_1.size : Int) + (a0_2.size : Int))) 0 a0_0 a0_1 a0_2 l0_3 a0_4
set_option maxHeartbeats 8000000 in
set_option maxRecDepth 100000 in
theorem rehearsallaw11_short.calls (k : Nat) (a0_0 : Int) (a0_1 : ByteArray) (a0_2 : ByteArray) (A0_3 : Option Addr) (c0_3 : Nat) (l0_3 : List ByteArray) (a0_4 : Int) (r : Bool) (w : World) (hr0_3 : Kd.C Kd.string w A0_3 l0_3.length l0_3) (hc0_3 : l0_3.length ≤ c0_3) (h : rehearsallaw11_short.f k a0_0 a0_1 a0_2 l0_3 a0_4 = some r) :
    Calls Try.prog 7 #[.agg #[.int .i64 a0_0, .string a0_1, .string a0_2, .slice A0_3 l0_3.length c0_3, .int .i64 a0_4]] w fun e w' => e = .returned (.bool r) ∧ Below w.heap.size w w' := by
  have hu30 := Try.underlying30
  have HR0_3 := Aside0.mk hr0_3
  have HC0_3 := Aside0.mk hc0_3
  clear hr0_3 hc0_3
  have HB := Aside0.mk (Below.refl w.heap.size w)
  have H : (rehearsallaw11_short.l0 k (wrap64 ((a0_1.size : Int) + (a0_2.size : Int))) 0 a0_0 a0_1 a0_2 l0_3 a0_4) = some r := h
  clear h
  have H' := Aside0.mk H
  clear H
  go_enter Try.func7, Try.ntmps7
  go_wp2_with (first | ((with_reducible refine gate_dst (N := 1) rfl ?_); refine box_event ?hg (N := 1) ?hd (cs := #[.int .i64 a0_0, .string a0_1, .string a0_2, .slice A0_3 l0_3.length c0_3, .int .i64 a0_4]) (t := 30) ?hr ?_; (case hd => rfl); (case hg => rfl); (case hr => first | (go_simp; done) | (go_simp; rfl)); intro gb202 hg w2 hbox hb; have n0_ := Aside0.mk (below_step (by repeat (first | (with_reducible first | exact HB.out | apply below_alloc | apply pw_below_drewN | apply below_drew1) | exact HB.out)) hb); have n1_ := Aside0.mk (hbox); have n2_ := Aside0.mk ((by rw [hg]; exact (below_size (by repeat (first | (with_reducible first | exact HB.out | apply below_alloc | apply pw_below_drewN | apply below_drew1) | exact HB.out))) : w.heap.size ≤ gb202)); have n3_ := Aside0.mk ((by rw [hg]; exact (below_size (by repeat (first | (with_reducible first | exact HB.out | apply below_alloc | apply pw_below_drewN | apply below_drew1) | exact HB.out))) : w.heap.size ≤ gb202)); clear HB; have HB := n0_; have BK202 := n1_; have GW202 := n2_; have GE202 := n3_; clear n0_ n1_ n2_ n3_; clear hb hbox hg; have hcz3_0 : w2.cell? ⟨gb202, 0, none⟩ = some (.int .i64 a0_0) := (blk_cell BK202.out 0).trans rfl; have hcz3_1 : w2.cell? ⟨gb202, 1, none⟩ = some (.string a0_1) := (blk_cell BK202.out 1).trans rfl; have hcz3_2 : w2.cell? ⟨gb202, 2, none⟩ = some (.string a0_2) := (blk_cell BK202.out 2).trans rfl; have hcz3_3 : w2.cell? ⟨gb202, 3, none⟩ = some (.slice A0_3 l0_3.length c0_3) := (blk_cell BK202.out 3).trans rfl; have hcz3_4 : w2.cell? ⟨gb202, 4, none⟩ = some (.int .i64 a0_4) := (blk_cell BK202.out 4).trans rfl; have hfz3_0 := blk_frozen BK202.out 0; have hfz3_1 := blk_frozen BK202.out 1; have hfz3_2 := blk_frozen BK202.out 2; have hfz3_3 := blk_frozen BK202.out 3; have hfz3_4 := blk_frozen BK202.out 4))
  go_loopg [3, 4] k (fun kq v3 v4 w' => ∃ (x3_1 : Int) (x4_1 : Int), v3 = .int .i64 x3_1 ∧ v4 = .int .i64 x4_1 ∧ Aside0 (rehearsallaw11_short.l0 kq x3_1 x4_1 a0_0 a0_1 a0_2 l0_3 a0_4 = some r) ∧ Aside0 (kq ≤ k) ∧ Aside0 (w'.heap[gb202]? = some (.cells #[.int .i64 a0_0, .string a0_1, .string a0_2, (.slice A0_3 l0_3.length c0_3), .int .i64 a0_4] 30 (0, 0))) ∧ Aside0 (Below w.heap.size w w'))
  case atStart => exact ⟨(wrap64 ((a0_1.size : Int) + (a0_2.size : Int))), (0), (by first | rfl | (simp; done) | (simp [*]; done)), (by first | rfl | (simp; done) | (simp [*]; done)), H', ⟨Nat.le_refl _⟩, ⟨by (with_reducible repeat (first | refine blk_drewN ?_ _ | refine blk_drew ?_ | refine blk_alloc ?_ _)); exact BK202.out⟩, ⟨by repeat (first | (with_reducible first | exact HB.out | apply below_alloc | apply pw_below_drewN | apply below_drew1 | refine below_set ?_ GE202.out) | exact HB.out)⟩⟩
  case round =>
    clear H'
    try clear p2
    try clear hcz3_0
    try clear hcz3_1
    try clear hcz3_2
    try clear hcz3_3
    try clear hcz3_4
    try clear hfz3_0
    try clear hfz3_1
    try clear hfz3_2
    try clear hfz3_3
    try clear hfz3_4
    obtain ⟨x3_1, x4_1, rfl, rfl, HA, HK1, BK202, HB⟩ := hrel
    cases gk with
    | zero => exact absurd HA.out (by simp [rehearsallaw11_short.l0])
    | succ k1 =>
      have H := HA.out
      clear HA
      simp only [rehearsallaw11_short.l0] at H
      have HC4 := Aside0.mk H
      clear H
      go_upto_region 3 with (fail)
      go_cut [20] (fun v20 wc => ∃ (kq : Nat) (x20_3 : Bool), v20 = .bool x20_3 ∧ Aside0 (rehearsallaw11_short.j1 kq x3_1 x4_1 x20_3 a0_0 a0_1 a0_2 l0_3 a0_4 = some r) ∧ Aside0 (kq ≤ k1) ∧ Aside0 (wc.heap[gb202]? = some (.cells #[.int .i64 a0_0, .string a0_1, .string a0_2, (.slice A0_3 l0_3.length c0_3), .int .i64 a0_4] 30 (0, 0))) ∧ Aside0 (Below w.heap.size w wc))
      case first =>
        have H := HC4.out
        clear HC4
        by_cases c5 : x4_1 < (l0_3.length : Int)
        · rw [if_pos c5] at H
          have c5b0 : decide (x4_1 < (l0_3.length : Int)) = true := decide_eq_true c5
          clear c5
          (first | rw [c5b0] | (simp only [i64_w, i32_w]; rw [c5b0]) | skip)
          have H' := Aside0.mk H
          clear H
          have hcz6_0 : wr.cell? ⟨gb202, 0, none⟩ = some (.int .i64 a0_0) := (blk_cell BK202.out 0).trans rfl
          have hcz6_1 : wr.cell? ⟨gb202, 1, none⟩ = some (.string a0_1) := (blk_cell BK202.out 1).trans rfl
          have hcz6_2 : wr.cell? ⟨gb202, 2, none⟩ = some (.string a0_2) := (blk_cell BK202.out 2).trans rfl
          have hcz6_3 : wr.cell? ⟨gb202, 3, none⟩ = some (.slice A0_3 l0_3.length c0_3) := (blk_cell BK202.out 3).trans rfl
          have hcz6_4 : wr.cell? ⟨gb202, 4, none⟩ = some (.int .i64 a0_4) := (blk_cell BK202.out 4).trans rfl
          have hfz6_0 := blk_frozen BK202.out 0
          have hfz6_1 := blk_frozen BK202.out 1
          have hfz6_2 := blk_frozen BK202.out 2
          have hfz6_3 := blk_frozen BK202.out 3
          have hfz6_4 := blk_frozen BK202.out 4
          go_wp2
          go_meet
          case rel => exact ⟨_, (decide (x4_1 ≤ 256)), (by first | rfl | (simp; done) | (simp [*]; done)), H', ⟨by have := HK1.out; first | omega | exact Nat.le_refl _⟩, ⟨by (with_reducible repeat (first | refine blk_drewN ?_ _ | refine blk_drew ?_ | refine blk_alloc ?_ _)); exact BK202.out⟩, ⟨by repeat (first | (with_reducible first | exact HB.out | apply below_alloc | apply pw_below_drewN | apply below_drew1 | refine below_set ?_ GE202.out) | exact HB.out)⟩⟩
        · rw [if_neg c5] at H
          have c5b0 : decide (x4_1 < (l0_3.length : Int)) = false := decide_eq_false c5
          clear c5
          (first | rw [c5b0] | (simp only [i64_w, i32_w]; rw [c5b0]) | skip)
          have H' := Aside0.mk H
          clear H
          have hcz7_0 : wr.cell? ⟨gb202, 0, none⟩ = some (.int .i64 a0_0) := (blk_cell BK202.out 0).trans rfl
          have hcz7_1 : wr.cell? ⟨gb202, 1, none⟩ = some (.string a0_1) := (blk_cell BK202.out 1).trans rfl
          have hcz7_2 : wr.cell? ⟨gb202, 2, none⟩ = some (.string a0_2) := (blk_cell BK202.out 2).trans rfl
          have hcz7_3 : wr.cell? ⟨gb202, 3, none⟩ = some (.slice A0_3 l0_3.length c0_3) := (blk_cell BK202.out 3).trans rfl
          have hcz7_4 : wr.cell? ⟨gb202, 4, none⟩ = some (.int .i64 a0_4) := (blk_cell BK202.out 4).trans rfl
          have hfz7_0 := blk_frozen BK202.out 0
          have hfz7_1 := blk_frozen BK202.out 1
          have hfz7_2 := blk_frozen BK202.out 2
          have hfz7_3 := blk_frozen BK202.out 3
          have hfz7_4 := blk_frozen BK202.out 4
          go_wp2
          go_meet
          case rel => exact ⟨_, (false), (by first | rfl | (simp; done) | (simp [*]; done)), H', ⟨by have := HK1.out; first | omega | exact Nat.le_refl _⟩, ⟨by (with_reducible repeat (first | refine blk_drewN ?_ _ | refine blk_drew ?_ | refine blk_alloc ?_ _)); exact BK202.out⟩, ⟨by repeat (first | (with_reducible first | exact HB.out | apply below_alloc | apply pw_below_drewN | apply below_drew1 | refine below_set ?_ GE202.out) | exact HB.out)⟩⟩
      case rest =>
        clear HC4
        try clear p2
        try clear c5
        try clear c5b0
        try clear p6
        try clear c7
        try clear hcz3_0
        try clear hcz3_1
        try clear hcz3_2
        try clear hcz3_3
        try clear hcz3_4
        try clear hcz6_0
        try clear hcz6_1
        try clear hcz6_2
        try clear hcz6_3
        try clear hcz6_4
        try clear hcz7_0
        try clear hcz7_1
        try clear hcz7_2
        try clear hcz7_3
        try clear hcz7_4
        try clear hfz3_0
        try clear hfz3_1
        try clear hfz3_2
        try clear hfz3_3
        try clear hfz3_4
        try clear hfz6_0
        try clear hfz6_1
        try clear hfz6_2
        try clear hfz6_3
        try clear hfz6_4
        try clear hfz7_0
        try clear hfz7_1
        try clear hfz7_2
        try clear hfz7_3
        try clear hfz7_4
        try clear p2
        obtain ⟨kq, x20_3, rfl, HA, HJ3, BK202, HB⟩ := hcut
        cases kq with
        | zero => exact absurd HA.out (by simp [rehearsallaw11_short.j1])
        | succ kj3 =>
          have H := HA.out
          clear HA
          simp only [rehearsallaw11_short.j1] at H
          by_cases c8 : x20_3 = true
          · subst c8
            have H1 : (if 0 ≤ x4_1 then (if x4_1 < (l0_3.length : Int) then (if (wrap64 (x3_1 + ((rdOf ByteArray.empty l0_3 x4_1).size : Int))) > 40000 then (some false) else (rehearsallaw11_short.l0 kj3 (wrap64 (x3_1 + ((rdOf ByteArray.empty l0_3 x4_1).size : Int))) (wrap64 (x4_1 + 1)) a0_0 a0_1 a0_2 l0_3 a0_4)) else (none)) else (none)) = some r := by rw [if_pos rfl] at H; exact H
            clear H
            have H := H1
            clear H1
            by_cases c9 : 0 ≤ x4_1
            · rw [if_pos c9] at H
              have c9b0 : decide (0 ≤ x4_1) = true := decide_eq_true c9
              clear c9
              by_cases c10 : x4_1 < (l0_3.length : Int)
              · rw [if_pos c10] at H
                have c10b0 : decide (x4_1 < (l0_3.length : Int)) = true := decide_eq_true c10
                clear c10
                by_cases c11 : (wrap64 (x3_1 + ((rdOf ByteArray.empty l0_3 x4_1).size : Int))) > 40000
                · rw [if_pos c11] at H
                  have c11b0 : decide (40000 < (wrap64 (x3_1 + ((rdOf ByteArray.empty l0_3 x4_1).size : Int)))) = true := decide_eq_true c11
                  clear c11
                  obtain rfl := Option.some.inj H
                  have hcz12_0 : wc.cell? ⟨gb202, 0, none⟩ = some (.int .i64 a0_0) := (blk_cell BK202.out 0).trans rfl
                  have hcz12_1 : wc.cell? ⟨gb202, 1, none⟩ = some (.string a0_1) := (blk_cell BK202.out 1).trans rfl
                  have hcz12_2 : wc.cell? ⟨gb202, 2, none⟩ = some (.string a0_2) := (blk_cell BK202.out 2).trans rfl
                  have hcz12_3 : wc.cell? ⟨gb202, 3, none⟩ = some (.slice A0_3 l0_3.length c0_3) := (blk_cell BK202.out 3).trans rfl
                  have hcz12_4 : wc.cell? ⟨gb202, 4, none⟩ = some (.int .i64 a0_4) := (blk_cell BK202.out 4).trans rfl
                  have hfz12_0 := blk_frozen BK202.out 0
                  have hfz12_1 := blk_frozen BK202.out 1
                  have hfz12_2 := blk_frozen BK202.out 2
                  have hfz12_3 := blk_frozen BK202.out 3
                  have hfz12_4 := blk_frozen BK202.out 4
                  have p203 : 0 ≤ (x4_1 : Int) := of_decide_eq_true (by first | (with_reducible assumption) | assumption)
                  have q203 : x4_1 < (l0_3.length : Int) := of_decide_eq_true (by first | (with_reducible assumption) | assumption)
                  obtain ⟨ad203, e203, hx203_0⟩ := Kd.at_string HR0_3.out x4_1 p203 q203
                  cases e203
                  replace hx203_0 := (HB.out.cell (World.block_lt_of_cell? w _ hx203_0)).trans hx203_0
                  replace p203 := eq_true p203
                  replace q203 := eq_true q203
                  go_wp2
                  go_ret
                  exact ⟨by first | rfl | (simp [errW_none, errW_some] <;> rfl) | (simp [*, errW_none, errW_some] <;> rfl), by repeat (first | (with_reducible first | exact HB.out | apply below_alloc | apply pw_below_drewN | apply below_drew1 | refine below_set ?_ GE202.out) | exact HB.out)⟩
                · rw [if_neg c11] at H
                  have c11b0 : decide (40000 < (wrap64 (x3_1 + ((rdOf ByteArray.empty l0_3 x4_1).size : Int)))) = false := decide_eq_false c11
                  clear c11
                  have H' := Aside0.mk H
                  clear H
                  have hcz13_0 : wc.cell? ⟨gb202, 0, none⟩ = some (.int .i64 a0_0) := (blk_cell BK202.out 0).trans rfl
                  have hcz13_1 : wc.cell? ⟨gb202, 1, none⟩ = some (.string a0_1) := (blk_cell BK202.out 1).trans rfl
                  have hcz13_2 : wc.cell? ⟨gb202, 2, none⟩ = some (.string a0_2) := (blk_cell BK202.out 2).trans rfl
                  have hcz13_3 : wc.cell? ⟨gb202, 3, none⟩ = some (.slice A0_3 l0_3.length c0_3) := (blk_cell BK202.out 3).trans rfl
                  have hcz13_4 : wc.cell? ⟨gb202, 4, none⟩ = some (.int .i64 a0_4) := (blk_cell BK202.out 4).trans rfl
                  have hfz13_0 := blk_frozen BK202.out 0
                  have hfz13_1 := blk_frozen BK202.out 1
                  have hfz13_2 := blk_frozen BK202.out 2
                  have hfz13_3 := blk_frozen BK202.out 3
                  have hfz13_4 := blk_frozen BK202.out 4
                  have p203 : 0 ≤ (x4_1 : Int) := of_decide_eq_true (by first | (with_reducible assumption) | assumption)
                  have q203 : x4_1 < (l0_3.length : Int) := of_decide_eq_true (by first | (with_reducible assumption) | assumption)
                  obtain ⟨ad203, e203, hx203_0⟩ := Kd.at_string HR0_3.out x4_1 p203 q203
                  cases e203
                  replace hx203_0 := (HB.out.cell (World.block_lt_of_cell? w _ hx203_0)).trans hx203_0
                  replace p203 := eq_true p203
                  replace q203 := eq_true q203
                  go_wp2
                  go_roundg kj3
                  case measure => have := HK1.out; have := HJ3.out; omega
                  case rel => exact ⟨(wrap64 (x3_1 + ((rdOf ByteArray.empty l0_3 x4_1).size : Int))), (wrap64 (x4_1 + 1)), (by first | rfl | (simp; done) | (simp [*]; done)), (by first | rfl | (simp; done) | (simp [*]; done)), H', ⟨by have := HK1.out; have := HJ3.out; omega⟩, ⟨by (with_reducible repeat (first | refine blk_drewN ?_ _ | refine blk_drew ?_ | refine blk_alloc ?_ _)); exact BK202.out⟩, ⟨by repeat (first | (with_reducible first | exact HB.out | apply below_alloc | apply pw_below_drewN | apply below_drew1 | refine below_set ?_ GE202.out) | exact HB.out)⟩⟩
              · rw [if_neg c10] at H
                exact absurd H (by simp)
            · rw [if_neg c9] at H
              exact absurd H (by simp)
          · replace c8 := Bool.eq_false_iff.mpr c8
            subst c8
            have H1 : (some (decide (x3_1 ≤ 40000))) = some r := by rw [if_neg (show ¬ (false = true) by decide)] at H; exact H
            clear H
            have H := H1
            clear H1
            obtain rfl := Option.some.inj H
            go_wp2
            go_ret
            exact ⟨by first | rfl | (simp [errW_none, errW_some] <;> rfl) | (simp [*, errW_none, errW_some] <;> rfl), by repeat (first | (with_reducible first | exact HB.out | apply below_alloc | apply pw_below_drewN | apply below_drew1 | refine below_set ?_ GE202.out) | exact HB.out)⟩
end Go.Proofs.Ytgcbipflmhbpcaa.PV
set_option linter.unusedVariables false
set_option linter.unusedSimpArgs false
namespace Go.Proofs.Ytgcbipflmhbpcaa.PV
open Go Go.RowKit Go.Proofs.Ytgcbipflmhbpcaa Go.Proofs.YtgcbipflmhbpcaaW.PrintWords Go.Proofs.YtgcbipflmhbpcaaW.PrintLast Go.Proofs.YtgcbipflmhbpcaaW.PrintMore
def AOK (A : List ByteArray) : Prop := A.length ≤ 256 ∧ ∀ s ∈ A, s.size ≤ 4096
theorem aok_drop {A : List ByteArray} (h : AOK A) (n : Nat) : AOK (A.drop n) := ⟨by rw [List.length_drop]; have := h.1; omega, fun s hs => h.2 s (List.mem_of_mem_drop hs)⟩
theorem aok_args {L : List ByteArray} (h : argsE L = 0) : AOK L := by
  unfold argsE at h
  split at h
  · cases h
  · rename_i h1
    split at h
    · rename_i h2
      exact ⟨by omega, fun s hs => of_decide_eq_true (List.all_eq_true.1 h2 s hs)⟩
    · cases h
/-- texts joined behind a blank each -/
def tailJ (A : List ByteArray) : List UInt8 := (A.map (fun s => 32 :: s.data.toList)).flatten
theorem tailJ_len {A : List ByteArray} (h : ∀ s ∈ A, s.size ≤ 4096) : (tailJ A).length ≤ A.length * 4097 := by
  induction A with
  | nil => simp [tailJ]
  | cons a A ih =>
    have h1 := ih (fun s hs => h s (List.mem_cons_of_mem _ hs))
    have h2 : a.data.toList.length = a.size := by rw [Array.length_toList]; rfl
    have h3 := h a (List.mem_cons_self ..)
    unfold tailJ at *
    rw [List.map_cons, List.flatten_cons, List.length_append, List.length_cons, List.length_cons]
    omega
theorem join_cons (a : ByteArray) (A : List ByteArray) : Lib.join ((a :: A).map (·.data.toList)) ([32] : List UInt8) = a.data.toList ++ tailJ A := by
  unfold Lib.join
  induction A generalizing a with
  | nil => simp [tailJ, List.intercalate]
  | cons b A ih =>
    have h := ih b
    simp only [List.map_cons] at h ⊢
    rw [List.intercalate_cons_cons, h]
    simp [tailJ]
theorem join_ok {A : List ByteArray} (h : AOK A) : strings_Join.f A ⟨#[32]⟩ = some (joinB A) := by
  have h1 : ∃ r, strings_Join.f A ⟨#[32]⟩ = some r := by
    unfold strings_Join.f
    cases A with
    | nil => exact ⟨_, rfl⟩
    | cons a A =>
      rw [if_pos]
      · exact ⟨_, rfl⟩
      · have e : (⟨#[32]⟩ : ByteArray).data.toList = [32] := rfl
        rw [e, join_cons]
        have h2 := tailJ_len (A := A) (fun s hs => h.2 s (List.mem_cons_of_mem _ hs))
        have h3 : a.data.toList.length = a.size := by rw [Array.length_toList]; rfl
        have h4 := h.2 a (List.mem_cons_self ..)
        have h5 := h.1
        rw [List.length_append]
        simp only [List.length_cons] at h5 ⊢
        omega
  obtain ⟨r, h1⟩ := h1
  unfold joinB; rw [h1]; rfl
theorem joinB_cons (a : ByteArray) (A : List ByteArray) (h : AOK (a :: A)) : joinB (a :: A) = asB (a.data.toList ++ tailJ A) := by
  have h1 := join_ok h
  unfold strings_Join.f at h1
  split at h1
  · have h1 := Option.some.inj h1
    rw [← h1]
    have e : (⟨#[32]⟩ : ByteArray).data.toList = [32] := rfl
    rw [e, join_cons]
  · cases h1
theorem app_data (s t : ByteArray) : (s ++ t).data.toList = s.data.toList ++ t.data.toList := by simp
theorem rjoin_l0 (A : List ByteArray) (hA : AOK A) : ∀ (d i : Nat) (s : ByteArray), i + d = A.length → 1 ≤ i → s.size ≤ i * 4097 → Evt (fun k => rehearsalref11_Joined.l0 k A ⟨#[32]⟩ s (i : Int)) (asB (s.data.toList ++ tailJ (A.drop i))) := by
  have h256 := hA.1
  intro d
  induction d with
  | zero =>
    intro i s h h1 hs
    refine Evt.const 0 (fun k _ => ?_)
    simp only [rehearsalref11_Joined.l0]
    rw [if_neg (by omega), List.drop_of_length_le (by omega)]
    simp [tailJ, asB_toList]
  | succ d ih =>
    intro i s h h1 hs
    have hi : i < A.length := by omega
    have hsz := hA.2 A[i] (List.getElem_mem hi)
    have e1 : (⟨#[32]⟩ : ByteArray).size = 1 := rfl
    have e2 : (s ++ (⟨#[32]⟩ : ByteArray)).size = s.size + 1 := by rw [ByteArray.size_append]; rfl
    have e3 : ((s ++ (⟨#[32]⟩ : ByteArray)) ++ A[i]).size = s.size + 1 + A[i].size := by rw [ByteArray.size_append, e2]
    have z := ih (i + 1) ((s ++ ⟨#[32]⟩) ++ A[i]) (by omega) (by omega) (by rw [e3]; omega)
    have hr : asB (((s ++ ⟨#[32]⟩) ++ A[i]).data.toList ++ tailJ (A.drop (i + 1))) = asB (s.data.toList ++ tailJ (A.drop i)) := by
      have ht : tailJ (A[i] :: A.drop (i + 1)) = 32 :: (A[i].data.toList ++ tailJ (A.drop (i + 1))) := rfl
      rw [List.drop_eq_getElem_cons hi, app_data, app_data, ht]
      show asB (s.data.toList ++ [32] ++ A[i].data.toList ++ _) = _
      simp only [List.append_assoc, List.cons_append, List.nil_append]
    rw [hr] at z
    refine Evt.succ 0 (fun k _ => ?_) z
    simp only [rehearsalref11_Joined.l0]
    rw [if_pos (by omega), if_pos (by omega), if_pos (by rw [e1]; omega), if_pos (by omega), rdA A i hi, if_pos (by rw [e2]; omega), w64 _ (by omega)]
theorem joinB_nil : joinB [] = ⟨#[]⟩ := by
  have h := join_nil
  have h2 : strings_Join.f [] ⟨#[32]⟩ = some ⟨#[]⟩ := by unfold strings_Join.f; rfl
  rw [h] at h2; exact Option.some.inj h2
theorem rjoin_ev (A : List ByteArray) (hA : AOK A) : Evt (fun k => rehearsalref11_Joined.f k A ⟨#[32]⟩) (joinB A) := by
  cases A with
  | nil =>
    refine Evt.const 0 (fun k _ => ?_)
    show rehearsalref11_Joined.l0 (k + 1) [] _ _ 0 = _
    simp only [rehearsalref11_Joined.l0]
    rw [if_neg (by simp), joinB_nil]
  | cons a A =>
    have hs := hA.2 a (List.mem_cons_self ..)
    have z := rjoin_l0 (a :: A) hA A.length 1 a (by simp only [List.length_cons]; omega) (by omega) (by omega)
    rw [joinB_cons a A hA]
    have e : ((⟨#[]⟩ : ByteArray) ++ a) = a := by apply ba_ext; rw [toList_data, toList_data, app_data]; rfl
    have e0 : (⟨#[]⟩ : ByteArray).size = 0 := rfl
    refine Evt.succ (h := fun k => rehearsalref11_Joined.l0 k (a :: A) ⟨#[32]⟩ a 1) 0 (fun k _ => ?_) z
    show rehearsalref11_Joined.l0 (k + 1) (a :: A) _ _ 0 = _
    simp only [rehearsalref11_Joined.l0]
    have hr : rdOf ByteArray.empty (a :: A) 0 = a := rfl
    rw [if_pos (by simp only [List.length_cons]; omega), if_neg (by omega), if_pos (by omega), hr, if_pos (by rw [e0]; omega), e, show wrap64 (0 + 1) = 1 from by unfold wrap64; omega]
theorem rget_ev (V : List S26) (A : List ByteArray) (st : Int) (x : ByteArray) (hl : V.length ≤ 64) (hN : ∀ v ∈ V, 0 < v.f0.size) (hA : AOK A) (hst : -9223372036854775808 ≤ st ∧ st ≤ 9223372036854775807) (hx : x.size ≤ 9223372036854775807) : Evt (fun k => rehearsalref11_Table_Get.f k V A st x) (getM V A st x) := by
  have h256 := hA.1
  unfold getM
  by_cases e1 : x.toList = [35]
  · rw [if_neg (by rw [e1]; simp), if_pos e1]
    refine ⟨0, fun k _ => ?_⟩
    show rehearsalref11_Table_Get.f k V A st x = _
    unfold rehearsalref11_Table_Get.f rehearsalref01_Text.f
    rw [if_pos e1, if_pos (by omega)]; rfl
  by_cases e2 : x.toList = [63]
  · rw [if_neg (by rw [e2]; simp), if_neg e1, if_pos e2]
    refine ⟨0, fun k _ => ?_⟩
    show rehearsalref11_Table_Get.f k V A st x = _
    unfold rehearsalref11_Table_Get.f rehearsalref01_Text.f
    rw [if_neg e1, if_pos e2, if_pos hst]; rfl
  have hf : ∀ k, rehearsalref11_Table_Get.f k V A st x = rehearsalref11_Table_Get.j0 k x (decide (x.toList = [64] ∨ x.toList = [42])) V A st := fun k => by
    unfold rehearsalref11_Table_Get.f
    rw [if_neg e1, if_neg e2]
    by_cases e3 : x.toList = [64]
    · rw [if_pos e3, decide_eq_true (.inl e3)]
    · rw [if_neg e3]
      by_cases e4 : x.toList = [42]
      · rw [decide_eq_true (.inr e4), beq_iff_eq.2 e4]
      · rw [decide_eq_false (fun h => h.elim e3 e4), beq_eq_false_iff_ne.2 e4]
  by_cases e3 : x.toList = [64] ∨ x.toList = [42]
  · rw [if_neg (by rcases e3 with e | e <;> (rw [e]; simp)), if_neg e1, if_neg e2, if_pos e3]
    obtain ⟨K, hK⟩ := rjoin_ev A hA
    refine Evt.const K (fun k hk => ?_)
    simp only [hf]
    rw [decide_eq_true e3]
    simp only [rehearsalref11_Table_Get.j0]
    have := hK k hk
    simp only at this
    first | rw [if_pos rfl, this] | rw [if_pos trivial, this]
    simp [Int.natCast_pos]
  · obtain ⟨p, hp, hc⟩ := rplace_ev V A st x (by omega) V.length 0 (by omega) (fun q _ h => absurd h (by omega))
    obtain ⟨K, hK⟩ := hp
    have hK : ∀ k, K ≤ k → rehearsalref11_Table_Place.f k V A st x = some p := hK
    have hj : ∀ k, K ≤ k → rehearsalref11_Table_Get.j1 (k + 1) x false V A st = some (getV V x) := fun k hk => by
      simp only [rehearsalref11_Table_Get.j1]
      rw [if_neg (by simp), hK k hk, Option.bind_some]
      rcases hc with ⟨hp0, _, hg⟩ | ⟨r, hr, e, _, hg⟩
      · rw [if_pos hp0, hg]
      · rw [if_neg (by omega), if_pos (by omega), if_pos (by omega), hg, e, rdV V r hr]
    by_cases e0 : x.toList = []
    · rw [if_pos e0]
      have hs : x.size = 0 := (size_nil (s := x)).1 e0
      have hnone : getV V x = (⟨#[]⟩, false) := by
        rcases hc with ⟨_, _, hg⟩ | ⟨r, hr, _, hh, _⟩
        · exact hg
        · exfalso
          unfold hasV at hh
          obtain ⟨v, hv, he⟩ := List.any_eq_true.1 hh
          have he : v.f0.toList = x.toList := of_decide_eq_true he
          have := hN v hv
          have := (size_nil (s := v.f0)).1 (he.trans e0)
          omega
      refine ⟨K + 2, fun k hk => ?_⟩
      obtain ⟨k, rfl⟩ : ∃ q, k = q + 2 := ⟨k - 2, by omega⟩
      simp only [hf]
      rw [decide_eq_false e3]
      simp only [rehearsalref11_Table_Get.j0]
      rw [if_neg (by simp), if_neg (by omega), hj k (by omega), hnone]
    · rw [if_neg e0, if_neg e1, if_neg e2, if_neg e3]
      have hs : 0 < x.size := by
        rcases Nat.eq_zero_or_pos x.size with h | h
        · exact absurd ((size_nil (s := x)).2 h) e0
        · exact h
      by_cases hd : dig (bt x 0) = true
      · rw [if_pos hd]
        refine ⟨K + 3, fun k hk => ?_⟩
        obtain ⟨k, rfl⟩ : ∃ q, k = q + 3 := ⟨k - 3, by omega⟩
        simp only [hf]
        rw [decide_eq_false e3]
        simp only [rehearsalref11_Table_Get.j0]
        rw [if_neg (by simp), if_pos (by omega), if_pos (by omega), rd_, Option.bind_some, hd]
        simp only [rehearsalref11_Table_Get.j1]
        first | rw [if_pos rfl] | rw [if_pos trivial]
        unfold rehearsalref01_Decimal.f
        rw [if_pos hx, Option.bind_some]
        unfold numA
        by_cases h0 : (decD x.data.toList).2 = 0
        · rw [if_pos h0]
          by_cases h1 : (decD x.data.toList).1 < 1
          · rw [if_pos h1, if_neg (by omega)]
            simp only [rehearsalref11_Table_Get.j2]
            first | rw [if_pos rfl] | rw [if_pos trivial]
          · rw [if_neg h1]
            simp only [rehearsalref11_Table_Get.j2]
            by_cases h2 : (decD x.data.toList).1 > (A.length : Int)
            · rw [decide_eq_true h2, if_pos rfl, if_neg (by omega)]
            · have hw : wrap64 ((decD x.data.toList).1 - 1) = (decD x.data.toList).1 - 1 := by unfold wrap64; omega
              rw [decide_eq_false h2, if_neg (by simp), hw, if_pos (by omega), if_pos (by omega), if_pos (by omega)]
        · rw [if_neg h0, if_neg (by omega)]
          simp only [rehearsalref11_Table_Get.j2]
          first | rw [if_pos rfl] | rw [if_pos trivial]
      · rw [if_neg hd]
        have hd' : dig (bt x 0) = false := by simpa using hd
        refine ⟨K + 2, fun k hk => ?_⟩
        obtain ⟨k, rfl⟩ : ∃ q, k = q + 2 := ⟨k - 2, by omega⟩
        simp only [hf]
        rw [decide_eq_false e3]
        simp only [rehearsalref11_Table_Get.j0]
        rw [if_neg (by simp), if_pos (by omega), if_pos (by omega), rd_, Option.bind_some, hd', hj k (by omega)]
/-- a call is short or not -/
theorem short_l0 (a : Int) (x y : ByteArray) (L : List ByteArray) (q : Int) (hL : L.length ≤ 140737488355328) (hs : ∀ s ∈ L, s.size ≤ 140737488355328) : ∀ (d i : Nat) (n : Int), i + d = 257 → 0 ≤ n → n ≤ 1125899906842624 → ∃ b, Evt (fun k => rehearsallaw11_short.l0 k n (i : Int) a x y L q) b := by
  have done : ∀ (i : Nat) (n : Int), ¬ (i < L.length ∧ i ≤ 256) → ∃ b, Evt (fun k => rehearsallaw11_short.l0 k n (i : Int) a x y L q) b := fun i n hn => by
    refine ⟨decide (n ≤ 40000), 2, fun k hk => ?_⟩
    obtain ⟨k, rfl⟩ : ∃ m, k = m + 2 := ⟨k - 2, by omega⟩
    simp only [rehearsallaw11_short.l0]
    by_cases h : (i : Int) < (L.length : Int)
    · rw [if_pos h, decide_eq_false (by omega)]
      simp only [rehearsallaw11_short.j1]
      rw [if_neg (by simp)]
    · rw [if_neg h]
      simp only [rehearsallaw11_short.j1]
      rw [if_neg (by simp)]
  intro d
  induction d with
  | zero => intro i n h h0 h1; exact done i n (by omega)
  | succ d ih =>
    intro i n h h0 h1
    by_cases hi : i < L.length
    · have hsz := hs L[i] (List.getElem_mem hi)
      have hw : wrap64 (n + (L[i].size : Int)) = n + (L[i].size : Int) := by unfold wrap64; omega
      by_cases hg : n + (L[i].size : Int) > 40000
      · refine ⟨false, 2, fun k hk => ?_⟩
        obtain ⟨k, rfl⟩ : ∃ m, k = m + 2 := ⟨k - 2, by omega⟩
        simp only [rehearsallaw11_short.l0]
        rw [if_pos (by omega), decide_eq_true (by omega)]
        simp only [rehearsallaw11_short.j1]
        first | rw [if_pos rfl] | rw [if_pos trivial]
        rw [if_pos (by omega), if_pos (by omega), rdA L i hi, hw, if_pos hg]
      · obtain ⟨b, K, hK⟩ := ih (i + 1) (n + (L[i].size : Int)) (by omega) (by omega) (by omega)
        refine ⟨b, K + 2, fun k hk => ?_⟩
        obtain ⟨k, rfl⟩ : ∃ m, k = m + 2 := ⟨k - 2, by omega⟩
        simp only [rehearsallaw11_short.l0]
        rw [if_pos (by omega), decide_eq_true (by omega)]
        simp only [rehearsallaw11_short.j1]
        first | rw [if_pos rfl] | rw [if_pos trivial]
        rw [if_pos (by omega), if_pos (by omega), rdA L i hi, hw, if_neg hg, w64 _ (by omega)]
        exact hK k (by omega)
    · exact done i n (by omega)
theorem short_ev (a : Int) (x y : ByteArray) (L : List ByteArray) (q : Int) (hL : L.length ≤ 140737488355328) (hs : ∀ s ∈ L, s.size ≤ 140737488355328) (hx : x.size ≤ 140737488355328) (hy : y.size ≤ 140737488355328) : ∃ k b, rehearsallaw11_short.f k a x y L q = some b := by
  obtain ⟨b, K, hK⟩ := short_l0 a x y L q hL hs 257 0 ((x.size : Int) + (y.size : Int)) (by omega) (by omega) (by omega)
  refine ⟨K, b, ?_⟩
  unfold rehearsallaw11_short.f
  have hw : wrap64 ((x.size : Int) + (y.size : Int)) = (x.size : Int) + (y.size : Int) := by unfold wrap64; omega
  rw [hw]
  exact hK K (Nat.le_refl _)
/-- a table as the law meets it -/
structure Good (t : Tb) : Prop where
  o : Ord t.V
  l : t.V.length ≤ 64
  n : ∀ v ∈ t.V, 0 < v.f0.size
  a : AOK t.A
  s : -9223372036854775808 ≤ t.st ∧ t.st ≤ 9223372036854775807
theorem setV_names {V : List S26} {x y : ByteArray} (hx : 0 < x.size) (h : ∀ v ∈ V, 0 < v.f0.size) : ∀ v ∈ setV V x y, 0 < v.f0.size := by
  intro v hv
  unfold setV at hv
  rcases List.mem_append.1 hv with hv | hv
  · exact h v ((List.takeWhile_sublist _).subset hv)
  · rcases List.mem_cons.1 hv with rfl | hv
    · exact hx
    · exact h v ((List.dropWhile_sublist _).subset (List.mem_filter.1 hv).1)
theorem newV_names : ∀ (l V : List S26), (∀ v ∈ V, 0 < v.f0.size) → (newV V l).2 = 0 → ∀ v ∈ (newV V l).1, 0 < v.f0.size
  | [], V, h, _ => h
  | x :: l, V, h, h0 => by
    unfold newV at h0 ⊢
    by_cases he : setE V x.f0 x.f1 = 0
    · rw [if_pos he] at h0 ⊢
      exact newV_names l _ (setV_names (name_facts (setE_name he)).1 h) h0
    · rw [if_neg he] at h0; exact absurd h0 he
theorem Good.do {t : Tb} (h : Good t) (k : Int) (nm vl : ByteArray) (L : List ByteArray) (q : Int) (hq : -9223372036854775808 ≤ q ∧ q ≤ 9223372036854775807) : Good (doM t k nm vl L q) := by
  unfold doM
  split
  · refine ⟨setT_ord h.o, setT_len h.o h.l, ?_, h.a, h.s⟩
    show ∀ v ∈ setT t.V nm vl, _
    unfold setT
    split
    · rename_i he; exact setV_names (name_facts (setE_name he)).1 h.n
    · exact h.n
  split
  · exact ⟨unsV_ord h.o, Nat.le_trans unsV_len h.l, fun v hv => h.n v (List.mem_filter.1 hv).1, h.a, h.s⟩
  split
  · refine ⟨h.o, h.l, h.n, ?_, h.s⟩
    show AOK (if argsE L = 0 then L else t.A)
    split
    · rename_i he; exact aok_args he
    · exact h.a
  split
  · refine ⟨h.o, h.l, h.n, ?_, h.s⟩
    show AOK (if 0 ≤ q ∧ q ≤ t.A.length then t.A.drop q.toNat else t.A)
    split
    · exact aok_drop h.a _
    · exact h.a
  · exact ⟨h.o, h.l, h.n, h.a, hq⟩
end Go.Proofs.Ytgcbipflmhbpcaa.PV
set_option linter.unusedVariables false
set_option linter.unusedSimpArgs false
namespace Go.Proofs.Ytgcbipflmhbpcaa
open Go Go.RowKit Go.ChangeShapes Go.WideShapes Go.Proofs.YtgcbipflmhbpcaaW.PrintWords
def Opens (P : Program) {α : Type} (d : Kd α) (t : TypeId) (B : α → Prop) : Prop :=
  ∀ {H : Type} {enc : TypeId × Value → H} {w : World} {base : Nat} {spare : Nat → Bool} {held : Bool} {fuel : Nat} {cs : List Value} {y : DataW H × List MemPlace},
    DataW.trod enc P w base spare held fuel t cs = some y → (∀ n ∈ y.1.weights P t, n ≤ reachBytes) → ∃ x, d.K w x cs ∧ B x
theorem opens_int {P : Program} {t : TypeId} {k : IntKind} (ht : P.underlying t = some (.int k)) : Opens P (Kd.int k) t (fun n => (Lit.int k n).wf = true) := by
  intro H enc w base spare held fuel cs y h _
  obtain ⟨n, rfl, _, hw⟩ := DataW.trod_int ht h
  exact ⟨n, rfl, hw⟩
theorem opens_string {P : Program} {t : TypeId} (ht : P.underlying t = some .string) : Opens P Kd.string t (fun s => s.size ≤ reachBytes) := by
  intro H enc w base spare held fuel cs y h hz
  obtain ⟨s, rfl, rfl, _⟩ := DataW.trod_string ht h
  refine ⟨s, rfl, ?_⟩
  have := hz s.data.toList.length (by simp [DataW.weights])
  rwa [Array.length_toList] at this
theorem mem_wAll {H : Type} {P : Program} {e : TypeId} {l : List (DataW H)} {d : DataW H} (hd : d ∈ l) {n : Nat} (hn : n ∈ d.weights P e) : n ∈ DataW.weightsAll P e l := by
  induction l with
  | nil => cases hd
  | cons x r ih =>
    simp only [DataW.weightsAll, List.mem_append]
    rcases List.mem_cons.1 hd with h | h
    · subst h; exact .inl hn
    · exact .inr (ih h)
theorem pick {α : Type} {Q : Nat → α → Prop} : ∀ (n : Nat), (∀ i, i < n → ∃ x, Q i x) → ∃ xs : List α, xs.length = n ∧ ∀ i x, xs[i]? = some x → Q i x := by
  intro n
  induction n with
  | zero => intro _; exact ⟨[], rfl, fun i x h => by simp at h⟩
  | succ n ih =>
    intro h
    obtain ⟨xs, hl, hx⟩ := ih (fun i hi => h i (by omega))
    obtain ⟨x, hq⟩ := h n (by omega)
    refine ⟨xs ++ [x], by simp [hl], fun i y hy => ?_⟩
    by_cases hi : i < n
    · rw [List.getElem?_append_left (by omega)] at hy; exact hx i y hy
    · have : i < (xs ++ [x]).length := (List.getElem?_eq_some_iff.1 hy).1
      simp only [List.length_append, List.length_cons, List.length_nil] at this
      have hi2 : i = n := by omega
      subst hi2
      rw [List.getElem?_append_right (by omega)] at hy
      simp [hl] at hy
      subst hy; exact hq
theorem opens_slice {P : Program} {α : Type} {d : Kd α} {B : α → Prop} {t e : TypeId} (q : Nat) (ht : P.underlying t = some (.slice e)) (hd : Opens P d e B) (hc : P.cellsOf e = d.sz) :
    Opens P (Kd.slice q d) t (fun xs => xs.length * P.bytesOf e ≤ reachBytes ∧ xs.length ≤ 9223372036854775807 ∧ ∀ x ∈ xs, B x) := by
  intro H enc w base spare held fuel cs y h hz
  rcases DataW.trod_slice ht h with ⟨rfl, rfl⟩ | ⟨a, len, cap, elems, rest, n, _, rfl, rfl, hb, hl, hm, hlen, hel, hsp, hns⟩
  · exact ⟨[], ⟨none, 0, rfl, Nat.le_refl _, rfl, by simp, fun h => absurd h (by simp)⟩, by simp, by simp, fun x hx => by cases hx⟩
  · have hmax : len ≤ 9223372036854775807 := Nat.le_trans (Nat.le_trans hl hm) (by unfold maxLen; decide)
    have hzz : ∀ n ∈ (elems.length + rest.length) * P.bytesOf e :: (DataW.weightsAll P e (elems.map (·.1)) ++ DataW.weightsAll P e (rest.map (·.1))), n ≤ reachBytes := by
      intro n hn
      refine hz n ?_
      simp only [DataW.weights, ht, List.length_map]
      exact hn
    have each : ∀ i, i < len → ∃ x, ∃ c : List Value, c.length = d.sz ∧ d.K w x c ∧ B x ∧ ∀ k u, c[k]? = some u → w.cell? (a.add (i * d.sz + k)) = some u := by
      intro i hi
      have h1 := hel i hi
      have hlt : i < elems.length := by omega
      rw [List.getElem?_eq_getElem hlt, Option.bind_eq_some_iff] at h1
      obtain ⟨c, hcs, hy⟩ := h1
      obtain ⟨_, hcl, hcell⟩ := World.cells?_some hcs
      obtain ⟨x, hK, hB⟩ := hd hy (fun n hn => hzz n (List.mem_cons_of_mem _ (List.mem_append_left _ (mem_wAll (List.mem_map.2 ⟨elems[i], List.getElem_mem hlt, rfl⟩) hn))))
      refine ⟨x, c, d.K_len hK, hK, hB, fun k u hu => ?_⟩
      have hk : k < P.cellsOf e := by have := (List.getElem?_eq_some_iff.1 hu).1; rw [d.K_len hK] at this; omega
      have h2 := hcell k hk
      rw [hc] at h2
      rw [add_add] at h2
      rw [h2, hu]
    obtain ⟨xs, hxl, hxs⟩ := pick (Q := fun i x => ∃ c : List Value, c.length = d.sz ∧ d.K w x c ∧ B x ∧ ∀ k u, c[k]? = some u → w.cell? (a.add (i * d.sz + k)) = some u) len each
    refine ⟨xs, ⟨some a, cap, by rw [hxl], by omega, rfl, by omega, fun _ => ⟨a, rfl, fun j p hp => ?_⟩⟩, ?_, by omega, fun x hx => ?_⟩
    · obtain ⟨c, h1, h2, _, h3⟩ := hxs j p hp
      exact ⟨c, h1, h2, h3⟩
    · have := hzz _ List.mem_cons_self
      rw [hlen] at this
      rw [hxl]
      exact Nat.le_trans (Nat.mul_le_mul_right _ (Nat.le_add_right _ _)) this
    · obtain ⟨i, hi⟩ := List.getElem?_of_mem hx
      obtain ⟨_, _, _, hB, _⟩ := hxs i x hi
      exact hB
/-- cells in a row, read field by field -/
def OpenF (P : Program) {α : Type} (d : Kd α) (ts : List TypeId) (B : α → Prop) : Prop :=
  ∀ {H : Type} {enc : TypeId × Value → H} {w : World} {base : Nat} {spare : Nat → Bool} {held : Bool} {fuel : Nat} {cs : List Value} {ys : List (DataW H × List MemPlace)},
    cs.length = (ts.map P.cellsOf).sum → ys.length = ts.length → (∀ (i : Nat) (t : TypeId), ts[i]? = some t → DataW.trod enc P w base spare held fuel t ((cs.drop ((ts.take i).map P.cellsOf).sum).take (P.cellsOf t)) = ys[i]?) →
    (∀ n ∈ DataW.weightsEach P ts (ys.map (·.1)), n ≤ reachBytes) → ∃ x, d.K w x cs ∧ B x
theorem openF_one {P : Program} {α : Type} {d : Kd α} {t : TypeId} {B : α → Prop} (h : Opens P d t B) : OpenF P d [t] B := by
  intro H enc w base spare held fuel cs ys hl hn hy hz
  obtain ⟨y, rfl⟩ : ∃ y, ys = [y] := by
    match ys, hn with
    | [y], _ => exact ⟨y, rfl⟩
  have h0 := hy 0 t rfl
  simp only [List.map_cons, List.map_nil, List.sum_cons, List.sum_nil, Nat.add_zero] at hl
  rw [List.take_zero, List.map_nil, List.sum_nil, List.drop_zero, List.take_of_length_le (by omega)] at h0
  exact h h0 (fun n hn => hz n (by simpa [DataW.weightsEach] using hn))
theorem openF_cons {P : Program} {α β : Type} {d : Kd α} {d' : Kd β} {t : TypeId} {ts : List TypeId} {B : α → Prop} {B' : β → Prop} (h : Opens P d t B) (h' : OpenF P d' ts B') : OpenF P (Kd.pair d d') (t :: ts) (fun x => B x.1 ∧ B' x.2) := by
  intro H enc w base spare held fuel cs ys hl hn hy hz
  obtain ⟨y, r, rfl⟩ : ∃ y r, ys = y :: r := by
    match ys, hn with
    | y :: r, _ => exact ⟨y, r, rfl⟩
  simp only [List.map_cons, List.sum_cons] at hl
  have h0 := hy 0 t rfl
  rw [List.take_zero, List.map_nil, List.sum_nil, List.drop_zero] at h0
  have hzz : ∀ n ∈ y.1.weights P t ++ DataW.weightsEach P ts (r.map (·.1)), n ≤ reachBytes := fun n hn => hz n (by simpa [DataW.weightsEach] using hn)
  obtain ⟨x, hK, hB⟩ := h h0 (fun n hn => hzz n (List.mem_append_left _ hn))
  obtain ⟨x', hK', hB'⟩ := h' (cs := cs.drop (P.cellsOf t)) (ys := r) (by rw [List.length_drop]; omega) (by simpa using hn) (fun i u hu => by
    have := hy (i + 1) u hu
    simp only [List.take_succ_cons, List.map_cons, List.sum_cons, List.getElem?_cons_succ] at this
    rw [List.drop_drop]
    exact this) (fun n hn => hzz n (List.mem_append_right _ hn))
  exact ⟨(x, x'), ⟨cs.take (P.cellsOf t), cs.drop (P.cellsOf t), (List.take_append_drop _ _).symm, hK, hK'⟩, hB, hB'⟩
theorem opens_struct {P : Program} {α β : Type} {d : Kd α} {B : α → Prop} {t : TypeId} {fs : Array Field} (f : β → α) (g : α → β) (hfg : ∀ a, f (g a) = a) (ht : P.underlying t = some (.struct fs))
    (h : OpenF P d (fs.toList.map (·.type)) B) (ho : ∀ (i : Nat) (x : Field), fs[i]? = some x → x.offset = (((fs.toList.map (·.type)).take i).map P.cellsOf).sum) (hs : P.cellsOf t = ((fs.toList.map (·.type)).map P.cellsOf).sum) :
    Opens P (Kd.iso d f) t (fun b => B (f b)) := by
  intro H enc w base spare held fuel cs y hy hz
  obtain ⟨ys, n, _, rfl, hl, hn, hf⟩ := DataW.trod_struct ht hy
  obtain ⟨x, hK, hB⟩ := h (cs := cs) (ys := ys) (by rw [hl, hs]) (by rw [hn, List.length_map, Array.length_toList]) (fun i u hu => by
    rw [List.getElem?_map, Option.map_eq_some_iff] at hu
    obtain ⟨x, hx, rfl⟩ := hu
    have hx2 : fs[i]? = some x := by simpa using hx
    rw [← ho i x hx2]
    exact hf i x hx2) (fun n hn => hz n (by simp only [DataW.weights, ht]; exact hn))
  exact ⟨g x, by show d.K w (f (g x)) cs; rw [hfg]; exact hK, by show B (f (g x)); rw [hfg]; exact hB⟩
end Go.Proofs.Ytgcbipflmhbpcaa
set_option linter.unusedVariables false
set_option linter.unusedSimpArgs false
namespace Go.Proofs.Ytgcbipflmhbpcaa
open Go Go.RowKit Go.ChangeShapes Go.WideShapes Go.Proofs.Ytgcbipflmhbpcaa Go.Proofs.YtgcbipflmhbpcaaW.PrintWords
def offB (P : Program) (fs : Array Field) : Bool := (List.range fs.size).all fun i => match fs[i]? with
  | some x => decide (x.offset = (((fs.toList.map (·.type)).take i).map P.cellsOf).sum)
  | none => true
theorem off_ok {P : Program} {fs : Array Field} (h : offB P fs = true) : ∀ (i : Nat) (x : Field), fs[i]? = some x → x.offset = (((fs.toList.map (·.type)).take i).map P.cellsOf).sum := by
  intro i x hx
  have hi : i < fs.size := (Array.getElem?_eq_some_iff.1 hx).1
  have := List.all_eq_true.1 h i (List.mem_range.2 hi)
  rw [hx] at this
  exact of_decide_eq_true this
theorem bytes_le {n b : Nat} (hb : 1 ≤ b) (h : n * b ≤ reachBytes) : n ≤ 140737488351232 := by
  have : n ≤ n * b := Nat.le_mul_of_pos_right n hb
  unfold reachBytes at h
  omega
structure ActV where
  k : Int
  nm : ByteArray
  vl : ByteArray
  A : Option Addr
  c : Nat
  l : List ByteArray
  q : Int
def ActV.val (t : ActV) : Value := .agg #[.int .i64 t.k, .string t.nm, .string t.vl, .slice t.A t.l.length t.c, .int .i64 t.q]
def ActV.ok (w : World) (t : ActV) : Prop := Kd.C Kd.string w t.A t.l.length t.l ∧ t.l.length ≤ t.c ∧ t.l.length ≤ 140737488351232 ∧ (∀ s ∈ t.l, s.size ≤ reachBytes) ∧ t.nm.size ≤ reachBytes ∧ t.vl.size ≤ reachBytes ∧ (Lit.int .i64 t.k).wf = true ∧ (Lit.int .i64 t.q).wf = true
end Go.Proofs.Ytgcbipflmhbpcaa
set_option linter.unusedVariables false
set_option linter.unusedSimpArgs false
namespace Go.Proofs.Ytgcbipflmhbpcaa.PV
open Go Go.RowKit Go.ChangeShapes Go.WideShapes Go.Proofs.Ytgcbipflmhbpcaa Go.Proofs.YtgcbipflmhbpcaaW.PrintWords
theorem opens_var : Opens Try.prog k26 26 (fun e => e.f0.size ≤ reachBytes ∧ e.f1.size ≤ reachBytes) :=
  opens_struct (fun x : S26 => (x.f0, x.f1)) (fun p => ⟨p.1, p.2⟩) (fun _ => rfl) Try.underlying26
    (openF_cons (opens_string Try.underlying9) (openF_one (opens_string Try.underlying9))) (off_ok (by kernel_rfl)) (by kernel_rfl)
theorem open_vars {H : Type} {enc : TypeId × Value → H} {w : World} {base : Nat} {spare : Nat → Bool} {held : Bool} {fuel : Nat} {A : Option Addr} {len cap : Nat} {x : DataW H × List MemPlace}
    (h : DataW.trod enc Try.prog w base spare held fuel 22 [.slice A len cap] = some x) (hz : ∀ n ∈ x.1.weights Try.prog 22, n ≤ reachBytes) :
    ∃ l : List S26, l.length = len ∧ (Kd.C k26 w A l.length l ∧ l.length ≤ cap ∧ l.length ≤ 140737488351232 ∧ ∀ e ∈ l, e.f0.size ≤ 140737488351232 ∧ e.f1.size ≤ 140737488351232) := by
  obtain ⟨l, ⟨A', c', e, hc, hC⟩, hl, _, hx⟩ := opens_slice 26 Try.underlying22 opens_var (by kernel_rfl) h hz
  have hb : 1 ≤ Try.prog.bytesOf 26 := of_decide_eq_true (by kernel_rfl)
  simp only [List.cons.injEq, Value.slice.injEq, and_true] at e
  obtain ⟨rfl, rfl, rfl⟩ := e
  exact ⟨l, rfl, hC, hc, bytes_le hb hl, hx⟩
end Go.Proofs.Ytgcbipflmhbpcaa.PV
set_option linter.unusedVariables false
set_option linter.unusedSimpArgs false
namespace Go.Proofs.Ytgcbipflmhbpcaa.PV
open Go Go.RowKit Go.ChangeShapes Go.WideShapes Go.Proofs.Ytgcbipflmhbpcaa Go.Proofs.YtgcbipflmhbpcaaW.PrintWords
abbrev ActL := Int × ByteArray × ByteArray × List ByteArray × Int
def zAct : ActL := (0, ⟨#[]⟩, ⟨#[]⟩, [], 0)
def kAct : Kd ActL := Kd.iso (Kd.pair (Kd.int .i64) (Kd.pair Kd.string (Kd.pair Kd.string (Kd.pair (Kd.slice 9 Kd.string) (Kd.int .i64))))) (fun x : ActL => x)
theorem at_act {w : World} {A : Option Addr} {n : Nat} {xs : List ActL} (h : Kd.C kAct w A n xs) (i : Int) (h0 : 0 ≤ i) (h1 : i < n) : ∃ ad P c1, A = some ad ∧ w.cell? (ad.add (i.toNat * 5)) = some (.int .i64 (rdOf zAct xs i).1) ∧ w.cell? ⟨(ad.add (i.toNat * 5)).block, (ad.add (i.toNat * 5)).off + 1, none⟩ = some (.string (rdOf zAct xs i).2.1) ∧ w.cell? ⟨(ad.add (i.toNat * 5)).block, (ad.add (i.toNat * 5)).off + 2, none⟩ = some (.string (rdOf zAct xs i).2.2.1) ∧ w.cell? ⟨(ad.add (i.toNat * 5)).block, (ad.add (i.toNat * 5)).off + 3, none⟩ = some (.slice P (rdOf zAct xs i).2.2.2.1.length c1) ∧ w.cell? ⟨(ad.add (i.toNat * 5)).block, (ad.add (i.toNat * 5)).off + 4, none⟩ = some (.int .i64 (rdOf zAct xs i).2.2.2.2) ∧ (rdOf zAct xs i).2.2.2.1.length ≤ c1 ∧ Kd.C Kd.string w P (rdOf zAct xs i).2.2.2.1.length (rdOf zAct xs i).2.2.2.1 := by
  obtain ⟨ad, c, e, _, hK, hc0⟩ := Kd.C_get h zAct i h0 h1
  have hc : ∀ j u, c[j]? = some u → w.cell? (ad.add (i.toNat * 5 + j)) = some u := hc0
  obtain ⟨c0, r0, rfl, e0, c1, r1, rfl, e1, c2, r2, rfl, e2, c3, r3, rfl, ⟨P, cc, e3, hcc, hC⟩, e4⟩ := hK
  have e0' : c0 = [.int .i64 (rdOf zAct xs i).1] := e0
  have e1' : c1 = [.string (rdOf zAct xs i).2.1] := e1
  have e2' : c2 = [.string (rdOf zAct xs i).2.2.1] := e2
  have e4' : r3 = [.int .i64 (rdOf zAct xs i).2.2.2.2] := e4
  subst e0' e1' e2' e3 e4'
  exact ⟨ad, P, cc, e, hc 0 _ rfl, by rw [← add_field _ _ 1 (by omega)]; exact hc 1 _ rfl, by rw [← add_field _ _ 2 (by omega)]; exact hc 2 _ rfl, by rw [← add_field _ _ 3 (by omega)]; exact hc 3 _ rfl, by rw [← add_field _ _ 4 (by omega)]; exact hc 4 _ rfl, hcc, hC⟩
def ActB (x : ActL) : Prop := (Lit.int .i64 x.1).wf = true ∧ x.2.1.size ≤ reachBytes ∧ x.2.2.1.size ≤ reachBytes ∧ (x.2.2.2.1.length * Try.prog.bytesOf 9 ≤ reachBytes ∧ x.2.2.2.1.length ≤ 9223372036854775807 ∧ ∀ s ∈ x.2.2.2.1, s.size ≤ reachBytes) ∧ (Lit.int .i64 x.2.2.2.2).wf = true
theorem opens_act : Opens Try.prog kAct 30 ActB :=
  opens_struct (P := Try.prog) (t := 30) (fun x : ActL => x) (fun p => p) (fun _ => rfl) Try.underlying30 (openF_cons (opens_int Try.underlying3) (openF_cons (opens_string Try.underlying9) (openF_cons (opens_string Try.underlying9) (openF_cons (opens_slice 9 Try.underlying23 (opens_string Try.underlying9) (by kernel_rfl)) (openF_one (opens_int Try.underlying3)))))) (off_ok (by kernel_rfl)) (by kernel_rfl)
theorem open_acts {H : Type} {enc : TypeId × Value → H} {w : World} {base : Nat} {spare : Nat → Bool} {held : Bool} {fuel : Nat} {A : Option Addr} {len cap : Nat} {x : DataW H × List MemPlace}
    (h : DataW.trod enc Try.prog w base spare held fuel 24 [.slice A len cap] = some x) (hz : ∀ n ∈ x.1.weights Try.prog 24, n ≤ reachBytes) :
    ∃ l : List ActL, l.length = len ∧ (Kd.C kAct w A l.length l ∧ l.length ≤ cap ∧ l.length ≤ 140737488351232 ∧ ∀ e ∈ l, ActB e) := by
  obtain ⟨l, ⟨A', c', e, hc, hC⟩, hl, _, hx⟩ := opens_slice 30 Try.underlying24 opens_act (by kernel_rfl) h hz
  have hb : 1 ≤ Try.prog.bytesOf 30 := of_decide_eq_true (by kernel_rfl)
  simp only [List.cons.injEq, Value.slice.injEq, and_true] at e
  obtain ⟨rfl, rfl, rfl⟩ := e
  exact ⟨l, rfl, hC, hc, bytes_le hb hl, hx⟩
theorem open_args {H : Type} {enc : TypeId × Value → H} {w : World} {base : Nat} {spare : Nat → Bool} {held : Bool} {fuel : Nat} {A : Option Addr} {len cap : Nat} {x : DataW H × List MemPlace}
    (h : DataW.trod enc Try.prog w base spare held fuel 23 [.slice A len cap] = some x) (hz : ∀ n ∈ x.1.weights Try.prog 23, n ≤ reachBytes) :
    ∃ l : List ByteArray, l.length = len ∧ (Kd.C Kd.string w A l.length l ∧ l.length ≤ cap ∧ l.length ≤ 140737488351232 ∧ ∀ e ∈ l, e.size ≤ reachBytes) := by
  obtain ⟨l, ⟨A', c', e, hc, hC⟩, hl, _, hx⟩ := opens_slice 9 Try.underlying23 (opens_string Try.underlying9) (by kernel_rfl) h hz
  have hb : 1 ≤ Try.prog.bytesOf 9 := of_decide_eq_true (by kernel_rfl)
  simp only [List.cons.injEq, Value.slice.injEq, and_true] at e
  obtain ⟨rfl, rfl, rfl⟩ := e
  exact ⟨l, rfl, hC, hc, bytes_le hb hl, hx⟩
end Go.Proofs.Ytgcbipflmhbpcaa.PV
