/- Texts of this claim's proof: small lemmas, walks and plain laws (merged by wip/shake.py). -/
import Derived.Test.YtgcbipflmhbpcaaQp7
import Derived.Test.YtgcbipflmhbpcaaQp8
import Derived.Deep.CutBlock
set_option linter.unusedVariables false
set_option linter.unusedSimpArgs false
namespace Go.Proofs.Ytgcbipflmhbpcaa.PV
open Go Go.RowKit Go.Proofs.Ytgcbipflmhbpcaa Go.Proofs.YtgcbipflmhbpcaaW.PrintWords Go.Proofs.YtgcbipflmhbpcaaW.PrintLast Go.Proofs.YtgcbipflmhbpcaaW.PrintMore
theorem any_true {P : Program} {md : Region.Mode} {ops : Array Oper} {Q : Exit → Act → World → Prop} {S : World → Prop} {ds : List Nat} : ∀ (fuel : Nat) (l : Array Bool) (a : Act) (w : World), wpAnyLast P md ops Q S ds fuel l a w → wpAnyLast P md ops Q (fun _ => True) [] fuel l a w
  | 0, _, _, _, h => h
  | fuel + 1, _, _, _, h => ⟨h.1, fun i hi => wpOp_mono (fun a' w' h' => ⟨fun _ _ => trivial, any_true fuel _ a' w' h'.2⟩) (h.2 i hi)⟩
theorem new_okX (w : World) (l : List S26) (A1 : Option Addr) (c1 : Nat) (a : List ByteArray) (P : Option Addr) (c : Nat) (hl : Kd.C k26 w A1 l.length l) (ha : Kd.string.C w P a.length a) (h0 : (newV [] l).2 = 0) (ha0 : argsE a = 0) :
    Calls Try.prog 8 #[.slice A1 l.length c1, .slice P a.length c] w fun e w' => ∃ g, e = .returned (.tuple #[.pointer (some ⟨g, 0, none⟩), .int .i64 0]) ∧ Below w.heap.size w w' ∧ TX w.heap.size (fun k => w.heap.size ≤ k ∧ k < w'.heap.size) w' g (newV [] l).1 a 0 := by
  refine (new_calls w l A1 c1 a P c hl ha).mono ?_
  rintro e w' ⟨hb, ⟨_, _, g, he, vv, va, ht⟩ | ⟨E, hE, hr, he⟩⟩
  · have h1 : TX w.heap.size (fun k => w.heap.size ≤ k) w' g (newV [] l).1 a 0 := ⟨vv, va, ht, ht.eg, fun k hk => own_ge ht.ov k hk, fun k hk => own_ge ht.oa k hk⟩
    exact ⟨g, he, hb, h1.bound⟩
  · exfalso; unfold newR at hr; rw [if_pos h0, if_pos ha0] at hr; exact hE hr.symm
theorem new_badX (w : World) (l : List S26) (A1 : Option Addr) (c1 : Nat) (a : List ByteArray) (P : Option Addr) (c : Nat) (hl : Kd.C k26 w A1 l.length l) (ha : Kd.string.C w P a.length a) (h0 : ¬ ((newV [] l).2 = 0 ∧ argsE a = 0)) :
    Calls Try.prog 8 #[.slice A1 l.length c1, .slice P a.length c] w fun e w' => e = .returned (.tuple #[.pointer none, .int .i64 (newR [] l a).2.2.2]) ∧ Below w.heap.size w w' := by
  refine (new_calls w l A1 c1 a P c hl ha).mono ?_
  rintro e w' ⟨hb, ⟨h1, h2, _⟩ | ⟨E, hE, hr, he⟩⟩
  · exact absurd ⟨h1, h2⟩ h0
  · exact ⟨by rw [hr]; exact he, hb⟩
theorem newR_bad (l : List S26) (a : List ByteArray) (h0 : ¬ ((newV [] l).2 = 0 ∧ argsE a = 0)) : newR [] l a = ([], [], 0, (newR [] l a).2.2.2) ∧ (newR [] l a).2.2.2 ≠ 0 := by
  unfold newR
  by_cases h1 : (newV [] l).2 = 0
  · have h2 : argsE a ≠ 0 := fun h => h0 ⟨h1, h⟩
    rw [if_pos h1, if_neg h2]; exact ⟨rfl, h2⟩
  · rw [if_neg h1]; exact ⟨rfl, h1⟩
theorem inv_start2 {w w0 w1 w2 w4 : World} {g gr : Nat} {V : List S26} {A : List ByteArray} {v0 v1 : Value} {b0 b1 : Nat} (hw0 : Below w.heap.size w w0) (h1 : Below w0.heap.size w0 w1) (ht : TX w0.heap.size (fun k => w0.heap.size ≤ k ∧ k < w1.heap.size) w1 g V A 0) (h2 : Below w1.heap.size w1 w2)
    (hv : Kd.V k26 26 w2 b0 (fun k => k < w.heap.size ∨ w1.heap.size ≤ k) v0 V) (ha : Kd.V Kd.string 9 w2 b1 (fun k => k < w.heap.size ∨ w1.heap.size ≤ k) v1 A) (hg : gr = w2.heap.size) (h4 : Below w2.heap.size w2 w4) (hb : w4.heap[gr]? = some (.cells #[v0, v1, .int .i64 0] 36 (0, 0))) :
    Inv w.heap.size (fun k => w0.heap.size ≤ k ∧ k < w1.heap.size) w4 g gr V A 0 := by
  have s0 := hw0.size
  have s1 := h1.size
  have s2 := h2.size
  have s4 := h4.size
  obtain ⟨vv, va, ht, hg0, hv0, ha0⟩ := ht
  have ht' : TX w.heap.size (fun k => w0.heap.size ≤ k ∧ k < w1.heap.size) w1 g V A 0 := ⟨vv, va, ⟨ht.bt, Nat.le_trans s0 ht.eg, own_weaken ht.ov s0, own_weaken ht.oa s0⟩, hg0, hv0, ha0⟩
  refine ⟨ht'.frm (below_step h2 h4), fun k hk => ⟨by omega, by omega⟩, ⟨_, v0, v1, hb, Kd.V_below (Kd.V_bound hv) h4, Kd.V_below (Kd.V_bound ha) h4, fun k hk => ⟨by omega, fun h => by omega, by omega, by omega⟩⟩, fun h => by omega, by omega, by omega⟩
theorem vform {w w' : World} {P : Option Addr} {L : List ByteArray} {c b : Nat} (h : Kd.C Kd.string w P L.length L) (hc : L.length ≤ c) (hb : Below w.heap.size w w') : Kd.V Kd.string 9 w' b (fun k => k < w.heap.size) (.slice P L.length c) L :=
  Kd.V_below (Kd.V_mk hc (Kd.C_F Kd.heap_string h)) hb
theorem rdOf_at {α : Type} (z : α) (l : List α) (i : Nat) (h : i < l.length) : rdOf z l (i : Int) = l[i] := by
  unfold rdOf; rw [Int.toNat_natCast, List.getD_eq_getElem?_getD, List.getElem?_eq_getElem h]; rfl
set_option maxHeartbeats 4000000 in
set_option maxRecDepth 100000 in
theorem plays_any (l : List S26) (A1 : Option Addr) (c1 : Nat) (args : List ByteArray) (A2 : Option Addr) (c2 : Nat) (acts : List ActL) (A3 : Option Addr) (c3 : Nat) (nm : ByteArray) (w : World)
    (hl : Kd.C k26 w A1 l.length l) (hlc : l.length ≤ c1) (hll : l.length ≤ 140737488351232) (hls : ∀ e ∈ l, e.f0.size ≤ 140737488351232) (ha : Kd.C Kd.string w A2 args.length args) (hac : args.length ≤ c2) (hal : args.length ≤ 140737488351232) (has : ∀ s ∈ args, s.size ≤ 140737488351232) (ht : Kd.C kAct w A3 acts.length acts) (htl : acts.length ≤ 140737488351232) (hts : ∀ e ∈ acts, ActB e) (hn : nm.size ≤ 140737488351232) :
    Calls Try.prog 3 #[.slice A1 l.length c1, .slice A2 args.length c2, .slice A3 acts.length c3, .string nm] w fun e W' => e = .returned (.bool true) ∧ Below w.heap.size w W' := by
  have hu36 := Try.underlying36
  have hu30 := Try.underlying30
  have HL := Lib.hid hl
  have HLL := Lib.hid hll
  have HLS := Lib.hid hls
  have HLC := Lib.hid hlc
  have HA := Lib.hid ha
  have HAC := Lib.hid hac
  have HAL := Lib.hid hal
  have HAS := Lib.hid has
  have HT := Lib.hid ht
  have HTL := Lib.hid htl
  have HTS := Lib.hid hts
  have HN : Hid (nm.size ≤ 9223372036854775807) := Lib.hid (by omega)
  obtain ⟨ks, sb, hks⟩ := short_ev 0 ⟨#[]⟩ ⟨#[]⟩ args 0 (by omega) (fun s hs => by have := has s hs; omega) (by decide) (by decide)
  have KS := Lib.hid hks
  clear hl hll hls hlc ha hac hal has ht htl hts hn hks
  go_enter Try.func3, Try.ntmps3
  go_upto_block 0 with fail
  go_cut [9] from 23 to 40 (fun s9 wx => wx = w)
  case first =>
    go_wp2_with fail
    go_loopw [9] (fun s9 wr => ∃ i : Nat, i ≤ 71 ∧ s9 = .int .i64 i ∧ wr = w) (fun s9 _ => 71 - (intOf s9).toNat)
    case atStart => exact ⟨0, by omega, rfl, rfl⟩
    case round =>
      obtain ⟨i, hi, rfl, rfl⟩ := hrel
      by_cases hlt : i < l.length
      · have i1 : decide ((i : Int) < (l.length : Int)) = true := decide_eq_true (by omega)
        have i1n : (i < l.length) = True := eq_true hlt
        by_cases h7 : i ≤ 70
        · have i2 : decide ((i : Int) ≤ 70) = true := decide_eq_true (by omega)
          have i2n : (i ≤ 70) = True := eq_true h7
          have i0 : decide (0 ≤ (i : Int)) = true := decide_eq_true (by omega)
          obtain ⟨ad, ea, hx0, hx1⟩ := at_T26 HL.out (i : Int) (by omega) (by omega)
          cases ea
          rw [rdV l i hlt, Int.toNat_natCast] at hx0 hx1
          have HSZ : Hid (l[i].f0.size ≤ 140737488351232) := Lib.hid (HLS.out _ (List.getElem_mem hlt))
          generalize hp : l[i].f0 = p at hx0 HSZ
          have HWR : Hid (wrap64 ((i : Int) + 1) = ((i + 1 : Nat) : Int)) := Lib.hid (by unfold wrap64; omega)
          have HL7 := Lib.hid h7
          by_cases hz : 2000 < p.size
          · have c0 : decide ((2000 : Int) < (p.size : Int)) = true := decide_eq_true (by omega)
            clear hi hlt h7 hp hz hx1
            go_wp2_with (go_at_call 6; (with_reducible refine (awake_any _).mono ?_); rintro e wk ⟨rfl, hb⟩; have HBK := Lib.hid hb; clear hb)
            go_ret
            exact ⟨rfl, HBK.out⟩
          · have c0 : decide ((2000 : Int) < (p.size : Int)) = false := decide_eq_false (by omega)
            clear hi hlt h7 hp hz hx1
            go_wp2_with fail
            go_roundw
            case rel => exact ⟨i + 1, by have := HL7.out; omega, by rw [HWR.out], by first | rfl | trivial⟩
            case measure => rw [HWR.out]; show 71 - ((i + 1 : Nat) : Int).toNat < 71 - (i : Int).toNat; have := HL7.out; omega
        · have i2 : decide ((i : Int) ≤ 70) = false := decide_eq_false (by omega)
          have i2n : (i ≤ 70) = False := eq_false h7
          clear hi hlt h7
          go_wp2_with fail
          go_meet
          case rel => first | rfl | trivial
      · have i1 : decide ((i : Int) < (l.length : Int)) = false := decide_eq_false (by omega)
        have i1n : (i < l.length) = False := eq_false hlt
        clear hi hlt
        go_wp2_with fail
        go_meet
        case rel => first | rfl | trivial
  case rest =>
    have hcut2 := hcut.symm
    subst hcut2
    clear hcut
    cases sb with
    | false =>
      go_wp2_with (first | (go_at_call 7; (with_reducible refine (rehearsallaw11_short.calls ks 0 ⟨#[]⟩ ⟨#[]⟩ A2 c2 args 0 false _ HA.out HAC.out KS.out).mono ?_); rintro e w1 ⟨rfl, hb⟩; have HB1 := Lib.hid hb; clear hb) | (go_at_call 6; (with_reducible refine (awake_any _).mono ?_); rintro e wk ⟨rfl, hb⟩; have HBK := Lib.hid hb; clear hb))
      go_ret
      exact ⟨rfl, below_step HB1.out HBK.out⟩
    | true =>
      by_cases h2 : 200 < l.length
      · have j1 : decide ((200 : Int) < (l.length : Int)) = true := decide_eq_true (by omega)
        have j1n : (200 < l.length) = True := eq_true h2
        clear h2
        go_wp2_with (first | (go_at_call 7; (with_reducible refine (rehearsallaw11_short.calls ks 0 ⟨#[]⟩ ⟨#[]⟩ A2 c2 args 0 true _ HA.out HAC.out KS.out).mono ?_); rintro e w1 ⟨rfl, hb⟩; have HB1 := Lib.hid hb; clear hb) | (go_at_call 6; (with_reducible refine (awake_any _).mono ?_); rintro e wk ⟨rfl, hb⟩; have HBK := Lib.hid hb; clear hb))
        go_ret
        exact ⟨rfl, below_step HB1.out HBK.out⟩
      · have j1 : decide ((200 : Int) < (l.length : Int)) = false := decide_eq_false (by omega)
        have j1n : (200 < l.length) = False := eq_false h2
        clear h2
        obtain ⟨kr, hkr⟩ := rnew_ev l args (by have := HLL.out; omega)
        have KR := Lib.hid (hkr kr (Nat.le_refl _))
        clear hkr
        by_cases h0 : (newV [] l).2 = 0 ∧ argsE args = 0
        · obtain ⟨h1, h2⟩ := h0
          have hgd : Good ⟨(newV [] l).1, args, 0⟩ := ⟨(newV_ok l [] ord_nil (by simp) h1).1, (newV_ok l [] ord_nil (by simp) h1).2, newV_names l [] (fun v h => by cases h) h1, aok_args h2, ⟨by show (-9223372036854775808 : Int) ≤ 0; decide, by show (0 : Int) ≤ 9223372036854775807; decide⟩⟩
          have HNB := Lib.hid (fun W (hL : Kd.C k26 W A1 l.length l) (hA : Kd.string.C W A2 args.length args) => new_okX W l A1 c1 args A2 c2 hL hA h1 h2)
          have KRR : Hid (rehearsalref11_New.f kr l args = some ((newV [] l).1, args, 0, 0)) := Lib.hid (KR.out.trans (by unfold newR; rw [if_pos h1, if_pos h2]))
          clear KR h1 h2
          have HGD := Lib.hid hgd
          clear hgd
          generalize (newV [] l).1 = V at HGD HNB KRR
          go_upto_block 2 with (first | (go_at_call 7; (with_reducible refine (rehearsallaw11_short.calls ks 0 ⟨#[]⟩ ⟨#[]⟩ A2 c2 args 0 true _ HA.out HAC.out KS.out).mono ?_); rintro e w1 ⟨rfl, hb⟩; have HB1 := Lib.hid hb; clear hb) | (go_at_call 8; (with_reducible refine (HNB.out _ (Kd.C_below HL.out HB1.out) (Kd.C_below HA.out HB1.out)).mono ?_); rintro e w2 ⟨g, rfl, hb, ht⟩; have HB12 := Lib.hid hb; have HB2 := Lib.hid (below_step HB1.out hb); have HT2 := Lib.hid ht; clear hb ht) | (go_at_call 9; (with_reducible refine (rehearsalref11_New.calls kr A1 c1 l (fun k => k < w.heap.size) A2 c2 args _ _ _ _ _ (Kd.C_below HL.out HB2.out) HLC.out (vform HA.out HAC.out HB2.out) KRR.out).mono ?_); rintro e w3 ⟨v0, v1, rfl, hv0, hv1, hb⟩; obtain ⟨A4, c4, rfl⟩ := Kd.V_slice hv0; obtain ⟨A5, c5, rfl⟩ := Kd.V_slice hv1; have HB23 := Lib.hid hb; have HB3 := Lib.hid (below_step HB2.out hb); have HV0 := Lib.hid hv0; have HV1 := Lib.hid hv1; clear hb hv0 hv1) | ((with_reducible refine gate_dst (N := 12) rfl ?_); refine box_event ?hg (N := 12) ?hd (cs := #[.slice none 0 0, .slice none 0 0, .int .i64 0]) (t := 36) ?hr ?_; (case hd => rfl); (case hg => rfl); (case hr => first | (go_simp; done) | (go_simp; rfl)); intro gr hg w4 hbox hb; have BN := Lib.hid hbox; have GN := Lib.hid hg; have HW4 := Lib.hid hb; clear hg hbox hb) | (refine store_tab rfl rfl (.tmp 12) (.tmp 61) rfl (A0 := A4) (n0 := V.length) (c0 := c4) (A1 := A5) (n1 := args.length) (c1 := c5) (st := 0) rfl rfl BN.out ?_; intro w5 hb5 hw5; replace BN := Lib.hid hb5; have HB35 := Lib.hid (new_box GN.out HW4.out hw5); have HB5 := Lib.hid (below_step HB3.out HB35.out); clear hb5 hw5))
          have hinv : ∃ S, Inv w.heap.size S w5 g gr V args 0 := ⟨_, inv_start2 HB1.out HB12.out HT2.out HB23.out HV0.out HV1.out GN.out HB35.out BN.out⟩
          obtain ⟨S0, hinv⟩ := hinv
          have HI0 := Lib.hid hinv
          clear hinv HB12 HB23 HB35 HT2 HV0 HV1 BN GN HW4 HB1 HB2 HB3
          go_wp2_with fail
          go_loopw [14] (fun s14 wr => ∃ (i : Nat) (S : Nat → Prop) (t : Tb), i ≤ 40 ∧ s14 = .int .i64 i ∧ Hid (Inv w.heap.size S wr g gr t.V t.A t.st) ∧ Hid (Good t) ∧ Hid (Below w.heap.size w wr)) (fun s14 _ => 40 - (intOf s14).toNat)
          case atStart => exact ⟨0, S0, ⟨V, args, 0⟩, by omega, rfl, HI0, HGD, HB5⟩
          case round =>
            obtain ⟨i, S, t, hi, rfl, HI, HG, HB⟩ := hrel
            clear HI0 HGD HB5
            by_cases hlt : i < acts.length
            · have i1 : decide ((i : Int) < (acts.length : Int)) = true := decide_eq_true (by omega)
              have i1n : (i < acts.length) = True := eq_true hlt
              have i0 : decide (0 ≤ (i : Int)) = true := decide_eq_true (by omega)
              by_cases h4 : i < 40
              · have i2 : decide ((i : Int) < 40) = true := decide_eq_true (by omega)
                have i2n : (i < 40) = True := eq_true h4
                have HWR : Hid (wrap64 ((i : Int) + 1) = ((i + 1 : Nat) : Int)) := Lib.hid (by unfold wrap64; omega)
                have HL4 := Lib.hid h4
                obtain ⟨ad, P4, c4', ea, x0, x1, x2, x3, x4, hc4, hC4⟩ := at_act HT.out (i : Int) (by omega) (by omega)
                cases ea
                have hab := HTS.out _ (List.getElem_mem hlt)
                rw [rdOf_at zAct acts i hlt] at x0 x1 x2 x3 x4 hc4 hC4
                rw [Int.toNat_natCast] at x0 x1 x2 x3 x4
                generalize acts[i] = a at x0 x1 x2 x3 x4 hc4 hC4 hab
                obtain ⟨ak, an, av, aL, aq⟩ := a
                obtain ⟨b0, b1, b2, ⟨b3, _, b3x⟩, b4⟩ := hab
                have hbn : an.size ≤ 140737488351232 := b1
                have hbv : av.size ≤ 140737488351232 := b2
                have haq := bounds_i64 b4
                obtain ⟨k5, sb5, hk5⟩ := short_ev ak an av aL aq (Nat.le_trans (bytes_le (b := 16) (by decide) b3) (by decide)) (fun s hs => Nat.le_trans (b3x s hs) (by decide)) (Nat.le_trans hbn (by decide)) (Nat.le_trans hbv (by decide))
                have K5 := Lib.hid hk5
                have HC4 := Lib.hid hC4
                have HC4c := Lib.hid hc4
                have HBN : Hid (an.size ≤ 9223372036854775807) := Lib.hid (by omega)
                have HX := Lib.hid x1
                have HAQ := Lib.hid haq
                replace x0 := cellB x0 HB.out
                replace x1 := cellB x1 HB.out
                replace x2 := cellB x2 HB.out
                replace x3 := cellB x3 HB.out
                replace x4 := cellB x4 HB.out
                clear hi hlt h4 b0 b1 b2 b3 b3x b4 hbn hbv haq hk5 hC4 hc4
                cases sb5 with
                | false =>
                  go_wp2_with (go_at_call 7; (with_reducible refine (rehearsallaw11_short.calls k5 ak an av P4 c4' aL aq false _ (Kd.C_below HC4.out HB.out) HC4c.out K5.out).mono ?_); rintro e w6 ⟨rfl, hb⟩; have HB6 := Lib.hid hb; clear hb)
                  go_roundw
                  case rel => exact ⟨i + 1, S, t, by have := HL4.out; omega, by rw [HWR.out], Lib.hid (HI.out.below HB6.out), HG, Lib.hid (below_step HB.out HB6.out)⟩
                  case measure => rw [HWR.out]; show 40 - ((i + 1 : Nat) : Int).toNat < 40 - (i : Int).toNat; have := HL4.out; omega
                | true =>
                  go_upto_region 16 with (go_at_call 7; (with_reducible refine (rehearsallaw11_short.calls k5 ak an av P4 c4' aL aq true _ (Kd.C_below HC4.out HB.out) HC4c.out K5.out).mono ?_); rintro e w6 ⟨rfl, hb⟩; have HB6 := Lib.hid hb; clear hb)
                  have HB7 := Lib.hid (below_step HB.out HB6.out)
                  have HI7 := Lib.hid (HI.out.below HB6.out)
                  replace x0 := cellB x0 HB6.out
                  replace x1 := cellB x1 HB6.out
                  replace x2 := cellB x2 HB6.out
                  replace x3 := cellB x3 HB6.out
                  replace x4 := cellB x4 HB6.out
                  clear HI HB HB6
                  refine start_ (n := 14) (S := (fun _ => True)) (ds := []) #[false, false, false, false, false, false, false, false, false, false, false, false, false, false] (by kernel_rfl) rfl rfl trivial (fun hHeld => ?_)
                  replace x0 := cellB x0 ((Below.refl w6.heap.size w6).drew)
                  replace x1 := cellB x1 ((Below.refl w6.heap.size w6).drew)
                  replace x2 := cellB x2 ((Below.refl w6.heap.size w6).drew)
                  replace x3 := cellB x3 ((Below.refl w6.heap.size w6).drew)
                  replace x4 := cellB x4 ((Below.refl w6.heap.size w6).drew)
                  replace HI7 := Lib.hid (HI7.out.below ((Below.refl w6.heap.size w6).drew))
                  replace HB7 := Lib.hid (below_step HB7.out ((Below.refl w6.heap.size w6).drew))
                  generalize World.drew _ = wd at x0 x1 x2 x3 x4 HI7 HB7 ⊢
                  clear hHeld
                  iterate 4 (first | ((first | refine pureS_ 0 (N := some 93) (v := ?_) (a' := ?_) rfl rfl (by decide +kernel) (fun _ _ _ h => h) (Or.inl ⟨by rfl, ?_⟩) ?_ ?_ | refine pureS_ 1 (N := some 94) (v := ?_) (a' := ?_) rfl rfl (by decide +kernel) (fun _ _ _ h => h) (Or.inl ⟨by rfl, ?_⟩) ?_ ?_ | refine pureS_ 2 (N := some 95) (v := ?_) (a' := ?_) rfl rfl (by decide +kernel) (fun _ _ _ h => h) (Or.inl ⟨by rfl, ?_⟩) ?_ ?_ | refine pureS_ 3 (N := some 96) (v := ?_) (a' := ?_) rfl rfl (by decide +kernel) (fun _ _ _ h => h) (Or.inl ⟨by rfl, ?_⟩) ?_ ?_); rotate_left; (intro w'; go_simp; first | done | (with_reducible rfl) | rfl); rotate_left; (simp only [Act.put, List.setIfInBounds_toArray, List.set_cons_zero, List.set_cons_succ, i64_w, i32_w]; rfl)) | ((first | refine pureS_ 0 (N := some 93) (v := undef) (a' := ?_) rfl rfl (by decide +kernel) (fun _ _ _ h => h) (Or.inr ⟨by rfl, rfl⟩) ?_ ?_ | refine pureS_ 1 (N := some 94) (v := undef) (a' := ?_) rfl rfl (by decide +kernel) (fun _ _ _ h => h) (Or.inr ⟨by rfl, rfl⟩) ?_ ?_ | refine pureS_ 2 (N := some 95) (v := undef) (a' := ?_) rfl rfl (by decide +kernel) (fun _ _ _ h => h) (Or.inr ⟨by rfl, rfl⟩) ?_ ?_ | refine pureS_ 3 (N := some 96) (v := undef) (a' := ?_) rfl rfl (by decide +kernel) (fun _ _ _ h => h) (Or.inr ⟨by rfl, rfl⟩) ?_ ?_); rotate_left; (simp only [Act.put, List.setIfInBounds_toArray, List.set_cons_zero, List.set_cons_succ, i64_w, i32_w]; rfl)))
                  refine oneS_ 4 (N := some 97) rfl rfl (by kernel_rfl) (by decide) (fun K hK => ?_)
                  refine value_ (v := .agg #[.int .i64 ak, .string an, .string av, .slice P4 aL.length c4', .int .i64 aq]) (w1 := wd) (by rfl) rfl (by first | (go_simp; done) | (go_simp; rfl)) ?_
                  refine hK.out _ _ trivial (fun _ => ?_)
                  clear hK K
                  refine norm_ (a' := ?_) ?_ ?_
                  rotate_left
                  · show Act.put _ (some 97) _ = _
                    simp only [Act.put, List.setIfInBounds_toArray, List.set_cons_zero, List.set_cons_succ, i64_w, i32_w]
                    rfl
                  refine oneS_ 5 (N := some 98) rfl rfl (by kernel_rfl) (by decide) (fun K hK => ?_)
                  refine goes_ Try.func10 (by kernel_rfl) rfl #[.pointer (some ⟨g, 0, none⟩), .pointer (some ⟨gr, 0, none⟩), .agg #[.int .i64 ak, .string an, .string av, .slice P4 aL.length c4', .int .i64 aq]] (by rfl) rfl rfl (by first | rfl | (simp [Act.eval]; done) | (simp [Act.eval, Act.put]; done)) ?_
                  refine (does_calls w.heap.size S wd g gr t ak an av P4 c4' aL aq HI7.out HG.out.o HG.out.l (Nat.le_trans HG.out.a.1 (by decide)) (vform HC4.out HC4c.out HB7.out)).mono ?_
                  rintro e w8 ⟨rfl, hb, S2, hi2⟩
                  refine ⟨_, rfl, ?_⟩
                  refine hK.out _ _ trivial (fun _ => ?_)
                  clear hK K
                  have hg2 := HG.out.do ak an av aL aq HAQ.out
                  generalize doM t ak an av aL aq = t2 at hi2 hg2
                  have HG2 := Lib.hid hg2
                  have HI8 := Lib.hid hi2
                  have HB8 := Lib.hid (HB7.out.trans hb)
                  obtain ⟨P2, u0, u1, hr2⟩ := hi2.r
                  obtain ⟨A6, c6, rfl⟩ := Kd.V_slice hr2.v
                  obtain ⟨A7, c7, rfl⟩ := Kd.V_slice hr2.a
                  have HR8 := Lib.hid hr2
                  obtain ⟨V2, B2, st2⟩ := t2
                  have r0 : w8.cell? ⟨gr, 0, none⟩ = some (.slice A6 V2.length c6) := (blk_cell hr2.b 0).trans rfl
                  have r1 : w8.cell? ⟨gr, 1, none⟩ = some (.slice A7 B2.length c7) := (blk_cell hr2.b 1).trans rfl
                  have r2 : w8.cell? ⟨gr, 2, none⟩ = some (.int .i64 st2) := (blk_cell hr2.b 2).trans rfl
                  clear hr2 hi2 hg2 hb x0 x1 x2 x3 x4 HI7 HG
                  refine norm_ (a' := ?_) ?_ ?_
                  rotate_left
                  · show Act.put _ (some 98) _ = _
                    simp only [Act.put, List.setIfInBounds_toArray, List.set_cons_zero, List.set_cons_succ, i64_w, i32_w]
                    rfl
                  iterate 3 (first | ((first | refine pureS_ 6 (N := some 99) (v := ?_) (a' := ?_) rfl rfl (by decide +kernel) (fun _ _ _ h => h) (Or.inl ⟨by rfl, ?_⟩) ?_ ?_ | refine pureS_ 7 (N := some 100) (v := ?_) (a' := ?_) rfl rfl (by decide +kernel) (fun _ _ _ h => h) (Or.inl ⟨by rfl, ?_⟩) ?_ ?_ | refine pureS_ 8 (N := some 101) (v := ?_) (a' := ?_) rfl rfl (by decide +kernel) (fun _ _ _ h => h) (Or.inl ⟨by rfl, ?_⟩) ?_ ?_); rotate_left; (intro w'; go_simp; first | done | (with_reducible rfl) | rfl); rotate_left; (simp only [Act.put, List.setIfInBounds_toArray, List.set_cons_zero, List.set_cons_succ, i64_w, i32_w]; rfl)) | ((first | refine pureS_ 6 (N := some 99) (v := undef) (a' := ?_) rfl rfl (by decide +kernel) (fun _ _ _ h => h) (Or.inr ⟨by rfl, rfl⟩) ?_ ?_ | refine pureS_ 7 (N := some 100) (v := undef) (a' := ?_) rfl rfl (by decide +kernel) (fun _ _ _ h => h) (Or.inr ⟨by rfl, rfl⟩) ?_ ?_ | refine pureS_ 8 (N := some 101) (v := undef) (a' := ?_) rfl rfl (by decide +kernel) (fun _ _ _ h => h) (Or.inr ⟨by rfl, rfl⟩) ?_ ?_); rotate_left; (simp only [Act.put, List.setIfInBounds_toArray, List.set_cons_zero, List.set_cons_succ, i64_w, i32_w]; rfl)))
                  refine any_true (S := fun w' => w'.cell? ⟨gr, 0, none⟩ = some (.slice A6 V2.length c6) ∧ w'.cell? ⟨gr, 1, none⟩ = some (.slice A7 B2.length c7) ∧ w'.cell? ⟨gr, 2, none⟩ = some (.int .i64 st2)) (ds := []) _ _ _ _ ?_
                  have hHeld := And.intro r0 (And.intro r1 r2)
                  iterate 1 (first | ((first | refine takeS_ 10 (N := some 103) (v := ?_) (a' := ?_) rfl rfl (by decide +kernel) (fun _ _ _ h => h) (Or.inl ⟨by rfl, ?_⟩) hHeld ?_ ?_); rotate_left; (rintro w' ⟨r0, r1, r2⟩; go_simp; first | done | (with_reducible rfl) | rfl); rotate_left; (simp only [Act.put, List.setIfInBounds_toArray, List.set_cons_zero, List.set_cons_succ, i64_w, i32_w]; rfl)) | ((first | refine takeS_ 10 (N := some 103) (v := undef) (a' := ?_) rfl rfl (by decide +kernel) (fun _ _ _ h => h) (Or.inr ⟨by rfl, rfl⟩) hHeld ?_ ?_); rotate_left; (simp only [Act.put, List.setIfInBounds_toArray, List.set_cons_zero, List.set_cons_succ, i64_w, i32_w]; rfl)))
                  have HO2 : Hid (Ord V2) := Lib.hid HG2.out.o
                  have HL2 : Hid (V2.length ≤ 64) := Lib.hid HG2.out.l
                  have HA2 : Hid (B2.length ≤ 1000) := Lib.hid (Nat.le_trans HG2.out.a.1 (by decide))
                  have HJ2 : Hid (strings_Join.f B2 ⟨#[32]⟩ = some (joinB B2)) := Lib.hid (join_ok HG2.out.a)
                  have HS2 : Hid (-9223372036854775808 ≤ st2 ∧ st2 ≤ 9223372036854775807) := Lib.hid HG2.out.s
                  have E6 : Hid (V2.length ≤ c6) := Lib.hid (Kd.V_reads' HR8.out.v).2.1
                  have E7 : Hid (B2.length ≤ c7) := Lib.hid (Kd.V_reads' HR8.out.a).2.1
                  have HC6 : Hid (Kd.C k26 w8 A6 V2.length V2) := Lib.hid (Kd.V_reads' HR8.out.v).2.2
                  have HC7 : Hid (Kd.C Kd.string w8 A7 B2.length B2) := Lib.hid (Kd.V_reads' HR8.out.a).2.2
                  obtain ⟨k6, hk6⟩ := same_ev V2 B2 st2 (Nat.le_trans HL2.out (by decide)) (Nat.le_trans HA2.out (by decide))
                  have K6 := Lib.hid hk6
                  clear hk6 HR8
                  refine oneS_ 9 (N := some 102) rfl rfl (by kernel_rfl) (by decide) (fun K hK => ?_)
                  refine goes_ Try.func12 (by kernel_rfl) rfl #[.pointer (some ⟨g, 0, none⟩)] (by rfl) rfl rfl (by first | rfl | (simp [Act.eval]; done) | (simp [Act.eval, Act.put]; done)) ?_
                  refine (shown_calls w.heap.size w8 g V2 B2 st2 HI8.out.t.tb (Nat.le_trans HL2.out (by decide)) HA2.out).mono ?_
                  rintro e w9 ⟨A8, c8, A9, c9, rfl, hc8, hc9, hC8, hC9, hb⟩
                  refine ⟨_, rfl, ?_⟩
                  refine hK.out _ _ ⟨cellB hHeld.1 hb, cellB hHeld.2.1 hb, cellB hHeld.2.2 hb⟩ (fun hHeld => ?_)
                  clear hK K
                  have HI9 := Lib.hid (HI8.out.below hb)
                  have HB9 := Lib.hid (below_step HB8.out hb)
                  replace HC6 := Lib.hid (Kd.C_below HC6.out hb)
                  replace HC7 := Lib.hid (Kd.C_below HC7.out hb)
                  have HC8 := Lib.hid hC8
                  have HC9 := Lib.hid hC9
                  have E8 := Lib.hid hc8
                  have E9 := Lib.hid hc9
                  clear hC8 hC9 hc8 hc9 hb HI8 HB8 r0 r1 r2
                  refine norm_ (a' := ?_) ?_ ?_
                  rotate_left
                  · show Act.put _ (some 102) _ = _
                    simp only [Act.put, List.setIfInBounds_toArray, List.set_cons_zero, List.set_cons_succ, i64_w, i32_w]
                    rfl
                  refine oneS_ 11 (N := some 104) rfl rfl (by kernel_rfl) (by decide) (fun K hK => ?_)
                  refine goes_ Try.func11 (by kernel_rfl) rfl #[.agg #[.slice A8 V2.length c8, .slice A9 B2.length c9, .int .i64 st2], .agg #[.slice A6 V2.length c6, .slice A7 B2.length c7, .int .i64 st2]] (by rfl) rfl rfl (by first | rfl | (simp [Act.eval]; done) | (simp [Act.eval, Act.put]; done)) ?_
                  refine (rehearsalref11_Same.calls k6 A8 c8 V2 A9 c9 B2 st2 A6 c6 V2 A7 c7 B2 st2 true w9 HC8.out E8.out HC9.out E9.out HC6.out E6.out HC7.out E7.out K6.out).mono ?_
                  rintro e w10 ⟨rfl, hb⟩
                  refine ⟨_, rfl, ?_⟩
                  refine hK.out _ _ ⟨cellB hHeld.1 hb, cellB hHeld.2.1 hb, cellB hHeld.2.2 hb⟩ (fun hHeld => ?_)
                  clear hK K
                  have HI10 := Lib.hid (HI9.out.below hb)
                  have HB10 := Lib.hid (below_step HB9.out hb)
                  replace HC6 := Lib.hid (Kd.C_below HC6.out hb)
                  replace HC7 := Lib.hid (Kd.C_below HC7.out hb)
                  clear hb HI9 HB9 HC8 HC9 E8 E9 K6
                  refine norm_ (a' := ?_) ?_ ?_
                  rotate_left
                  · show Act.put _ (some 104) _ = _
                    simp only [Act.put, List.setIfInBounds_toArray, List.set_cons_zero, List.set_cons_succ, i64_w, i32_w]
                    rfl
                  iterate 2 (first | ((first | refine pureS_ 12 (N := some 105) (v := ?_) (a' := ?_) rfl rfl (by decide +kernel) (fun _ _ _ h => h) (Or.inl ⟨by rfl, ?_⟩) ?_ ?_ | refine pureS_ 13 (N := some 106) (v := ?_) (a' := ?_) rfl rfl (by decide +kernel) (fun _ _ _ h => h) (Or.inl ⟨by rfl, ?_⟩) ?_ ?_); rotate_left; (intro w'; go_simp; first | done | (with_reducible rfl) | rfl); rotate_left; (simp only [Act.put, List.setIfInBounds_toArray, List.set_cons_zero, List.set_cons_succ, i64_w, i32_w]; rfl)) | ((first | refine pureS_ 12 (N := some 105) (v := undef) (a' := ?_) rfl rfl (by decide +kernel) (fun _ _ _ h => h) (Or.inr ⟨by rfl, rfl⟩) ?_ ?_ | refine pureS_ 13 (N := some 106) (v := undef) (a' := ?_) rfl rfl (by decide +kernel) (fun _ _ _ h => h) (Or.inr ⟨by rfl, rfl⟩) ?_ ?_); rotate_left; (simp only [Act.put, List.setIfInBounds_toArray, List.set_cons_zero, List.set_cons_succ, i64_w, i32_w]; rfl)))
                  refine done_ (by kernel_rfl) ?_
                  obtain ⟨r0, r1, r2⟩ := hHeld
                  have x1 := cellB HX.out HB10.out
                  obtain ⟨m1, hm1⟩ : ∃ m, getM V2 B2 st2 nm = m := ⟨_, rfl⟩
                  obtain ⟨m2, hm2⟩ : ∃ m, getM V2 B2 st2 an = m := ⟨_, rfl⟩
                  obtain ⟨k7, hk7⟩ := rget_ev V2 B2 st2 nm HL2.out HG2.out.n HG2.out.a HS2.out HN.out
                  obtain ⟨k8, hk8⟩ := rget_ev V2 B2 st2 an HL2.out HG2.out.n HG2.out.a HS2.out HBN.out
                  rw [hm1] at hk7
                  rw [hm2] at hk8
                  obtain ⟨s1, b1⟩ := m1
                  obtain ⟨s2, b2⟩ := m2
                  have K7 : Hid (rehearsalref11_Table_Get.f k7 V2 B2 st2 nm = some (s1, b1)) := Lib.hid (hk7 k7 (Nat.le_refl _))
                  have K8 : Hid (rehearsalref11_Table_Get.f k8 V2 B2 st2 an = some (s2, b2)) := Lib.hid (hk8 k8 (Nat.le_refl _))
                  have HM1 := Lib.hid hm1
                  have HM2 := Lib.hid hm2
                  clear hk7 hk8 hm1 hm2 K5
                  go_upto_region 21 with (first | (go_at_call 13; (with_reducible refine (get_calls w.heap.size _ g V2 B2 st2 nm HI10.out.t.tb HO2.out HL2.out HA2.out HJ2.out HS2.out HN.out).mono ?_); rw [HM1.out]; rintro e wk ⟨rfl, hb⟩; replace HI10 := Lib.hid (HI10.out.below hb); replace HB10 := Lib.hid (below_step HB10.out hb); replace r0 := cellB r0 hb; replace r1 := cellB r1 hb; replace r2 := cellB r2 hb; replace x1 := cellB x1 hb; replace HC6 := Lib.hid (Kd.C_below HC6.out hb); replace HC7 := Lib.hid (Kd.C_below HC7.out hb); clear hb) | (go_at_call 14; (with_reducible refine (rehearsalref11_Table_Get.calls k7 A6 c6 V2 A7 c7 B2 st2 nm _ _ _ HC6.out E6.out HC7.out E7.out K7.out).mono ?_); rintro e wk ⟨rfl, hb⟩; replace HI10 := Lib.hid (HI10.out.below hb); replace HB10 := Lib.hid (below_step HB10.out hb); replace r0 := cellB r0 hb; replace r1 := cellB r1 hb; replace r2 := cellB r2 hb; replace x1 := cellB x1 hb; replace HC6 := Lib.hid (Kd.C_below HC6.out hb); replace HC7 := Lib.hid (Kd.C_below HC7.out hb); clear hb) | (go_at_call 13; (with_reducible refine (get_calls w.heap.size _ g V2 B2 st2 an HI10.out.t.tb HO2.out HL2.out HA2.out HJ2.out HS2.out HBN.out).mono ?_); rw [HM2.out]; rintro e wk ⟨rfl, hb⟩; replace HI10 := Lib.hid (HI10.out.below hb); replace HB10 := Lib.hid (below_step HB10.out hb); replace r0 := cellB r0 hb; replace r1 := cellB r1 hb; replace r2 := cellB r2 hb; replace x1 := cellB x1 hb; replace HC6 := Lib.hid (Kd.C_below HC6.out hb); replace HC7 := Lib.hid (Kd.C_below HC7.out hb); clear hb))
                  refine start_ (n := 12) (S := (fun w' => w'.cell? ⟨gr, 0, none⟩ = some (.slice A6 V2.length c6) ∧ w'.cell? ⟨gr, 1, none⟩ = some (.slice A7 B2.length c7) ∧ w'.cell? ⟨gr, 2, none⟩ = some (.int .i64 st2) ∧ w'.cell? ⟨(ad.add (i * 5)).block, (ad.add (i * 5)).off + 1, none⟩ = some (.string an))) (ds := []) #[false, false, false, false, false, false, false, false, false, false, false, false] (by kernel_rfl) rfl rfl ⟨r0, r1, r2, x1⟩ (fun hHeld => ?_)
                  replace HI10 := Lib.hid (HI10.out.below ((Below.refl wk.heap.size wk).drew))
                  replace HB10 := Lib.hid (below_step HB10.out ((Below.refl wk.heap.size wk).drew))
                  replace HC6 := Lib.hid (Kd.C_below HC6.out ((Below.refl wk.heap.size wk).drew))
                  replace HC7 := Lib.hid (Kd.C_below HC7.out ((Below.refl wk.heap.size wk).drew))
                  clear r0 r1 r2 x1
                  generalize World.drew _ = we at HI10 HB10 HC6 HC7 hHeld ⊢
                  iterate 5 (first | ((first | refine takeS_ 0 (N := some 130) (v := ?_) (a' := ?_) rfl rfl (by decide +kernel) (fun _ _ _ h => h) (Or.inl ⟨by rfl, ?_⟩) hHeld ?_ ?_ | refine takeS_ 1 (N := some 131) (v := ?_) (a' := ?_) rfl rfl (by decide +kernel) (fun _ _ _ h => h) (Or.inl ⟨by rfl, ?_⟩) hHeld ?_ ?_ | refine takeS_ 2 (N := some 132) (v := ?_) (a' := ?_) rfl rfl (by decide +kernel) (fun _ _ _ h => h) (Or.inl ⟨by rfl, ?_⟩) hHeld ?_ ?_ | refine takeS_ 3 (N := some 133) (v := ?_) (a' := ?_) rfl rfl (by decide +kernel) (fun _ _ _ h => h) (Or.inl ⟨by rfl, ?_⟩) hHeld ?_ ?_ | refine takeS_ 4 (N := some 134) (v := ?_) (a' := ?_) rfl rfl (by decide +kernel) (fun _ _ _ h => h) (Or.inl ⟨by rfl, ?_⟩) hHeld ?_ ?_); rotate_left; (rintro w' ⟨r0, r1, r2, x1⟩; go_simp; first | done | (with_reducible rfl) | rfl); rotate_left; (simp only [Act.put, List.setIfInBounds_toArray, List.set_cons_zero, List.set_cons_succ, i64_w, i32_w]; rfl)) | ((first | refine takeS_ 0 (N := some 130) (v := undef) (a' := ?_) rfl rfl (by decide +kernel) (fun _ _ _ h => h) (Or.inr ⟨by rfl, rfl⟩) hHeld ?_ ?_ | refine takeS_ 1 (N := some 131) (v := undef) (a' := ?_) rfl rfl (by decide +kernel) (fun _ _ _ h => h) (Or.inr ⟨by rfl, rfl⟩) hHeld ?_ ?_ | refine takeS_ 2 (N := some 132) (v := undef) (a' := ?_) rfl rfl (by decide +kernel) (fun _ _ _ h => h) (Or.inr ⟨by rfl, rfl⟩) hHeld ?_ ?_ | refine takeS_ 3 (N := some 133) (v := undef) (a' := ?_) rfl rfl (by decide +kernel) (fun _ _ _ h => h) (Or.inr ⟨by rfl, rfl⟩) hHeld ?_ ?_ | refine takeS_ 4 (N := some 134) (v := undef) (a' := ?_) rfl rfl (by decide +kernel) (fun _ _ _ h => h) (Or.inr ⟨by rfl, rfl⟩) hHeld ?_ ?_); rotate_left; (simp only [Act.put, List.setIfInBounds_toArray, List.set_cons_zero, List.set_cons_succ, i64_w, i32_w]; rfl)))
                  iterate 1 (first | ((first | refine takeS_ 5 (N := some 135) (v := ?_) (a' := ?_) rfl rfl (by decide +kernel) (fun _ _ _ h => h) (Or.inl ⟨by rfl, ?_⟩) hHeld ?_ ?_); rotate_left; (rintro w' ⟨r0, r1, r2, x1⟩; go_simp; first | done | (with_reducible rfl) | rfl); rotate_left; (simp only [Act.put, List.setIfInBounds_toArray, List.set_cons_zero, List.set_cons_succ, i64_w, i32_w]; rfl)) | ((first | refine takeS_ 5 (N := some 135) (v := undef) (a' := ?_) rfl rfl (by decide +kernel) (fun _ _ _ h => h) (Or.inr ⟨by rfl, rfl⟩) hHeld ?_ ?_); rotate_left; (simp only [Act.put, List.setIfInBounds_toArray, List.set_cons_zero, List.set_cons_succ, i64_w, i32_w]; rfl)))
                  refine oneS_ 6 (N := some 136) rfl rfl (by kernel_rfl) (by decide) (fun K hK => ?_)
                  refine goes_ Try.func14 (by kernel_rfl) rfl #[.agg #[.slice A6 V2.length c6, .slice A7 B2.length c7, .int .i64 st2], .string an] (by rfl) rfl rfl (by first | rfl | (simp [Act.eval]; done) | (simp [Act.eval, Act.put]; done)) ?_
                  refine (rehearsalref11_Table_Get.calls k8 A6 c6 V2 A7 c7 B2 st2 an _ _ we HC6.out E6.out HC7.out E7.out K8.out).mono ?_
                  rintro e wf ⟨rfl, hb⟩
                  refine ⟨_, rfl, ?_⟩
                  refine hK.out _ _ ⟨cellB hHeld.1 hb, cellB hHeld.2.1 hb, cellB hHeld.2.2.1 hb, cellB hHeld.2.2.2 hb⟩ (fun hHeld => ?_)
                  clear hK K
                  replace HI10 := Lib.hid (HI10.out.below hb)
                  replace HB10 := Lib.hid (below_step HB10.out hb)
                  clear hb hHeld HC6 HC7
                  refine norm_ (a' := ?_) ?_ ?_
                  rotate_left
                  · show Act.put _ (some 136) _ = _
                    simp only [Act.put, List.setIfInBounds_toArray, List.set_cons_zero, List.set_cons_succ, i64_w, i32_w]
                    rfl
                  iterate 5 (first | ((first | refine pureS_ 7 (N := some 129) (v := ?_) (a' := ?_) rfl rfl (by decide +kernel) (fun _ _ _ h => h) (Or.inl ⟨by rfl, ?_⟩) ?_ ?_ | refine pureS_ 8 (N := some 137) (v := ?_) (a' := ?_) rfl rfl (by decide +kernel) (fun _ _ _ h => h) (Or.inl ⟨by rfl, ?_⟩) ?_ ?_ | refine pureS_ 9 (N := some 138) (v := ?_) (a' := ?_) rfl rfl (by decide +kernel) (fun _ _ _ h => h) (Or.inl ⟨by rfl, ?_⟩) ?_ ?_ | refine pureS_ 10 (N := some 21) (v := ?_) (a' := ?_) rfl rfl (by decide +kernel) (fun _ _ _ h => h) (Or.inl ⟨by rfl, ?_⟩) ?_ ?_ | refine pureS_ 11 (N := some 22) (v := ?_) (a' := ?_) rfl rfl (by decide +kernel) (fun _ _ _ h => h) (Or.inl ⟨by rfl, ?_⟩) ?_ ?_); rotate_left; (intro w'; go_simp; first | done | (with_reducible rfl) | rfl); rotate_left; (simp only [Act.put, List.setIfInBounds_toArray, List.set_cons_zero, List.set_cons_succ, i64_w, i32_w]; rfl)) | ((first | refine pureS_ 7 (N := some 129) (v := undef) (a' := ?_) rfl rfl (by decide +kernel) (fun _ _ _ h => h) (Or.inr ⟨by rfl, rfl⟩) ?_ ?_ | refine pureS_ 8 (N := some 137) (v := undef) (a' := ?_) rfl rfl (by decide +kernel) (fun _ _ _ h => h) (Or.inr ⟨by rfl, rfl⟩) ?_ ?_ | refine pureS_ 9 (N := some 138) (v := undef) (a' := ?_) rfl rfl (by decide +kernel) (fun _ _ _ h => h) (Or.inr ⟨by rfl, rfl⟩) ?_ ?_ | refine pureS_ 10 (N := some 21) (v := undef) (a' := ?_) rfl rfl (by decide +kernel) (fun _ _ _ h => h) (Or.inr ⟨by rfl, rfl⟩) ?_ ?_ | refine pureS_ 11 (N := some 22) (v := undef) (a' := ?_) rfl rfl (by decide +kernel) (fun _ _ _ h => h) (Or.inr ⟨by rfl, rfl⟩) ?_ ?_); rotate_left; (simp only [Act.put, List.setIfInBounds_toArray, List.set_cons_zero, List.set_cons_succ, i64_w, i32_w]; rfl)))
                  refine done_ (by kernel_rfl) ?_
                  go_wp2_with fail
                  go_roundw
                  case rel => exact ⟨i + 1, S2, ⟨V2, B2, st2⟩, by have := HL4.out; omega, by rw [HWR.out], HI10, HG2, HB10⟩
                  case measure => rw [HWR.out]; show 40 - ((i + 1 : Nat) : Int).toNat < 40 - (i : Int).toNat; have := HL4.out; omega
              · have i2 : decide ((i : Int) < 40) = false := decide_eq_false (by omega)
                have i2n : (i < 40) = False := eq_false h4
                clear hi hlt h4
                go_wp2_with (go_at_call 6; (with_reducible refine (awake_any _).mono ?_); rintro e wk ⟨rfl, hb⟩; have HBK := Lib.hid hb; clear hb)
                go_ret
                exact ⟨rfl, below_step HB.out HBK.out⟩
            · have i1 : decide ((i : Int) < (acts.length : Int)) = false := decide_eq_false (by omega)
              have i1n : (i < acts.length) = False := eq_false hlt
              clear hi hlt
              go_wp2_with (go_at_call 6; (with_reducible refine (awake_any _).mono ?_); rintro e wk ⟨rfl, hb⟩; have HBK := Lib.hid hb; clear hb)
              go_ret
              exact ⟨rfl, below_step HB.out HBK.out⟩
        · have H0 := Lib.hid h0
          obtain ⟨hr1, hr2⟩ := newR_bad l args h0
          have HR2 := Lib.hid hr2
          have HNB := Lib.hid (fun W (hL : Kd.C k26 W A1 l.length l) (hA : Kd.string.C W A2 args.length args) => new_badX W l A1 c1 args A2 c2 hL hA h0)
          have KRR : Hid (rehearsalref11_New.f kr l args = some ([], [], 0, (newR [] l args).2.2.2)) := Lib.hid (KR.out.trans (congrArg some hr1))
          clear KR hr1 hr2 h0
          generalize (newR [] l args).2.2.2 = E at HR2 HNB KRR
          have e1 : (E == 0) = false := beq_eq_false_iff_ne.2 HR2.out
          have e2 : (E = 0) = False := eq_false HR2.out
          go_upto_block 2 with (first | (go_at_call 7; (with_reducible refine (rehearsallaw11_short.calls ks 0 ⟨#[]⟩ ⟨#[]⟩ A2 c2 args 0 true _ HA.out HAC.out KS.out).mono ?_); rintro e w1 ⟨rfl, hb⟩; have HB1 := Lib.hid hb; clear hb) | (go_at_call 8; (with_reducible refine (HNB.out _ (Kd.C_below HL.out HB1.out) (Kd.C_below HA.out HB1.out)).mono ?_); rintro e w2 ⟨rfl, hb⟩; have HB2 := Lib.hid (below_step HB1.out hb); clear hb) | (go_at_call 9; (with_reducible refine (rehearsalref11_New.calls kr A1 c1 l (fun k => k < w.heap.size) A2 c2 args _ _ _ _ _ (Kd.C_below HL.out HB2.out) HLC.out (vform HA.out HAC.out HB2.out) KRR.out).mono ?_); rintro e w3 ⟨v0, v1, rfl, hv0, hv1, hb⟩; obtain ⟨A4, c4, rfl⟩ := Kd.V_slice hv0; obtain ⟨A5, c5, rfl⟩ := Kd.V_slice hv1; have HB3 := Lib.hid (below_step HB2.out hb); clear hb hv0 hv1) | ((with_reducible refine gate_dst (N := 12) rfl ?_); refine box_event ?hg (N := 12) ?hd (cs := #[.slice none 0 0, .slice none 0 0, .int .i64 0]) (t := 36) ?hr ?_; (case hd => rfl); (case hg => rfl); (case hr => first | (go_simp; done) | (go_simp; rfl)); intro gr hg w4 hbox hb; have BN := Lib.hid hbox; have GN := Lib.hid hg; have HW4 := Lib.hid hb; clear hg hbox hb) | (refine store_tab rfl rfl (.tmp 12) (.tmp 61) rfl (A0 := A4) (n0 := 0) (c0 := c4) (A1 := A5) (n1 := 0) (c1 := c5) (st := 0) rfl rfl BN.out ?_; intro w5 hb5 hw5; replace BN := Lib.hid hb5; have HB5 := Lib.hid (below_step HB3.out (new_box GN.out HW4.out hw5)); clear hb5 hw5))
          go_wp2_with fail
          go_loopw [14] (fun s14 wr => s14 = .int .i64 0 ∧ wr = w5) (fun s14 _ => 0)
          case atStart => exact ⟨rfl, rfl⟩
          case round =>
            obtain ⟨rfl, rfl⟩ := hrel
            by_cases hlt : 0 < acts.length
            · have i1 : decide ((0 : Int) < (acts.length : Int)) = true := decide_eq_true (by omega)
              have i1n : (0 < acts.length) = True := eq_true hlt
              clear hlt
              go_wp2_with (go_at_call 6; (with_reducible refine (awake_any _).mono ?_); rintro e wk ⟨rfl, hb⟩; have HBK := Lib.hid hb; clear hb)
              go_ret
              exact ⟨rfl, below_step HB5.out HBK.out⟩
            · have i1 : decide ((0 : Int) < (acts.length : Int)) = false := decide_eq_false (by omega)
              have i1n : (0 < acts.length) = False := eq_false hlt
              clear hlt
              go_wp2_with (go_at_call 6; (with_reducible refine (awake_any _).mono ?_); rintro e wk ⟨rfl, hb⟩; have HBK := Lib.hid hb; clear hb)
              go_ret
              exact ⟨rfl, below_step HB5.out HBK.out⟩
end Go.Proofs.Ytgcbipflmhbpcaa.PV
namespace Go.Proofs.Ytgcbipflmhbpcaa.PV
open Go Go.RowKit Go.Proofs.Ytgcbipflmhbpcaa Go.Proofs.YtgcbipflmhbpcaaW.PrintWords
theorem plays_row (A1 : Option Addr) (c1 : Nat) (l : List S26) (A2 : Option Addr) (c2 : Nat) (args : List ByteArray) (A3 : Option Addr) (c3 : Nat) (acts : List ActL) (nm : ByteArray) (w : World)
    (hl : Kd.C k26 w A1 l.length l ∧ l.length ≤ c1 ∧ l.length ≤ 140737488351232 ∧ ∀ e ∈ l, e.f0.size ≤ 140737488351232 ∧ e.f1.size ≤ 140737488351232)
    (ha : Kd.C Kd.string w A2 args.length args ∧ args.length ≤ c2 ∧ args.length ≤ 140737488351232 ∧ ∀ e ∈ args, e.size ≤ reachBytes)
    (ht : Kd.C kAct w A3 acts.length acts ∧ acts.length ≤ c3 ∧ acts.length ≤ 140737488351232 ∧ ∀ e ∈ acts, ActB e) (hn : nm.size ≤ 140737488351232) :
    Calls Try.prog 3 #[.slice A1 l.length c1, .slice A2 args.length c2, .slice A3 acts.length c3, .string nm] w fun e W' => e = .returned (.bool true) ∧ Below w.heap.size w W' :=
  plays_any l A1 c1 args A2 c2 acts A3 c3 nm w hl.1 hl.2.1 hl.2.2.1 (fun e he => (hl.2.2.2 e he).1) ha.1 ha.2.1 ha.2.2.1 ha.2.2.2 ht.1 ht.2.2.1 ht.2.2.2 hn
end Go.Proofs.Ytgcbipflmhbpcaa.PV
