/- Texts of this claim's proof: small lemmas, walks and plain laws (merged by wip/shake.py). -/
import Derived.Test.YtgcbipflmhbpcaaVnM0
import Derived.Test.YtgcbipflmhbpcaaVnM1
import Derived.Test.YtgcbipflmhbpcaaVnM2
import Derived.Deep.LoopGhost
import Derived.Lib.Walk
import Derived.Lib.SliceRun
import Derived.Shelf.RegionOpenPlain
import Derived.Test.YtgcbipflmhbpcaaProg
import Derived.Below
import Derived.OwnWalk
import Derived.Laws.BytesArg
import Derived.Tactics
import Derived.Lib.ConvBytes
import Derived.WalkKit
import Derived.KernelRfl
import Derived.RowKit3
import Derived.Deep.QuietTactic
import Derived.BigQuiet
import Derived.WideLaws
import Derived.Deep.DeepCutAuto
import Derived.Laws.Rows
import Derived.Lib.AppendStr
import Derived.Lib.Hide
import Derived.WalkSpells
import Derived.Outline
import Derived.Shelf.Strings.Builder1
import Derived.Shelf.Strings.Builder2
import Derived.Shelf.Strings.OnBuilder
import Derived.Shelf.Small.Strs
import Derived.Shelf.Small.Wraps
import Derived.Shelf.Strings.BuilderF
import Derived.Shelf.Strings.BuilderK
import Derived.Shelf.Strings.Builder2Cap
import Derived.Shelf.Strings.Search1
import Derived.Shelf.Strings.Prefix
import Derived.Shelf.Strings.BuilderCap
import Derived.Lib.IndexLaws
import Derived.Lib.TrimByte
import Derived.Lib.Join
import Derived.Lib.LastIndexByte
set_option linter.unusedVariables false
set_option linter.unusedSimpArgs false
namespace Go.Proofs.Ytgcbipflmhbpcaa
open Go.RowKit Go.Proofs.YtgcbipflmhbpcaaW.PrintWords Go.Proofs.YtgcbipflmhbpcaaW.PrintLast Go.Proofs.YtgcbipflmhbpcaaW.PrintMore
/-- the cells of a row that a slice of n elements, of sz cells each, shows -/
def Lies (w : World) (A : Option Addr) (cs : List Value) : Prop := cs = [] ∨ ∃ ad, A = some ad ∧ ∀ j u, cs[j]? = some u → w.cell? (ad.add j) = some u
theorem info_split {A B C D : Type} {o : Option A} {f : A → B} {g : A → C} {h : A → D} {x : B} {y : C} {z : D} (e : o.map (fun i => (f i, g i, h i)) = some (x, y, z)) : ∃ i, o = some i ∧ f i = x ∧ g i = y ∧ h i = z := by
  cases o with
  | none => cases e
  | some i => simp only [Option.map_some, Option.some.injEq, Prod.mk.injEq] at e; exact ⟨i, rfl, e⟩
theorem infoStr : (Try.prog.info? 9).map (fun i => (i.zero, i.size, i.bytes)) = some (some (.string ByteArray.empty), 1, 16) := by kernel_rfl
set_option maxHeartbeats 2000000 in
set_option maxRecDepth 100000 in
theorem copyS_any (A : Option Addr) (n c : Nat) (cs : List Value) (w : World) (hn : cs.length = n) (h : Lies w A cs) (h1 : ∀ u ∈ cs, u.oneCell' = true) (hl : n ≤ 1000000000000) :
    Calls Try.prog 42 #[.slice A n c] w fun e w' => ∃ v, e = .returned v ∧ w'.ownsRow w.heap.size 9 1 v n cs ∧ Below w.heap.size w w' := by
  obtain ⟨i0, hi, hz0, hz1, hz2⟩ := info_split infoStr
  cases A with
  | none =>
    have h0 : cs = [] := by
      rcases h with h | ⟨ad, e, _⟩
      · exact h
      · cases e
    subst h0
    cases hn
    go_enter Try.func42, Try.ntmps42
    go_wp2
    go_ret
    exact ⟨_, rfl, World.ownsRow_nil _ _ _ _, Below.refl _ _⟩
  | some ad =>
    have hc : ∀ j u, cs[j]? = some u → w.cell? (ad.add j) = some u := by
      rcases h with rfl | ⟨a, e, hc⟩
      · intro j u hj; simp at hj
      · injection e with e; subst e; exact hc
    have HC := Lib.hid hc
    have H1 := Lib.hid h1
    clear hc h1
    go_enter Try.func42, Try.ntmps42
    go_wp2_with (at_builtin; refine wpList_append_own _ rfl _ _ 23 rfl w.heap.size 9 i0 _ 1 16 Try.underlying23 hi hz0 hz1 hz2 rfl (by decide) _ _ _ rfl (World.ownsRow_nil _ _ _ _) ad n c cs rfl ?qc1 ?qc2 ?qc3 ?qc4 ?qc5 ?qc6 ?_)
    case qc1 => omega
    case qc2 => exact fun j u hj => HC.out j u hj
    case qc3 => exact H1.out
    case qc4 => unfold maxLen; omega
    case qc5 => omega
    case qc6 => simp
    intro v' w1 hown hgrow hnil
    go_wp2
    go_ret
    refine ⟨v', rfl, by simpa using hown, ?_⟩
    exact (Below.refl _ w).grown hgrow (by simp) (by intro k hk; simp [Value.ownBlock] at hk)
end Go.Proofs.Ytgcbipflmhbpcaa
set_option linter.unusedVariables false
set_option linter.unusedSimpArgs false
namespace Go.Proofs.Ytgcbipflmhbpcaa
open Go.RowKit Go.Proofs.YtgcbipflmhbpcaaW.PrintWords Go.Proofs.YtgcbipflmhbpcaaW.PrintLast Go.Proofs.YtgcbipflmhbpcaaW.PrintMore
def cellsS (l : List ByteArray) : List Value := l.map Value.string
def cellsV (l : List (ByteArray × ByteArray)) : List Value := (l.map fun x => [Value.string x.1, Value.string x.2]).flatten
theorem cellsS_len (l : List ByteArray) : (cellsS l).length = l.length := List.length_map ..
theorem cellsS_one (l : List ByteArray) : ∀ u ∈ cellsS l, u.oneCell' = true := by
  intro u hu
  obtain ⟨x, _, rfl⟩ := List.mem_map.1 hu
  rfl
theorem Lies.of_own {w : World} {base e sz n : Nat} {A : Option Addr} {c m : Nat} {cs : List Value} (h : w.ownsRow base e sz (.slice A m c) n cs) : Lies w A cs := by
  cases A with
  | none =>
    left
    rcases h.2 with ⟨_, h0⟩ | ⟨g, cap, cur, e, _⟩
    · have := h.1; rw [h0, Nat.zero_mul] at this; exact List.eq_nil_of_length_eq_zero this
    · cases e
  | some ad =>
    right
    refine ⟨ad, rfl, fun j u hj => ?_⟩
    rcases h.2 with ⟨e, _⟩ | ⟨g, cap, cur, e, _⟩
    · cases e
    · injection e with e; injection e with e; subst e
      exact h.cells rfl j u hj
theorem Lies.drop {w : World} {ad : Addr} {cs : List Value} (h : Lies w (some ad) cs) (k : Nat) : Lies w (some (ad.add k)) (cs.drop k) := by
  rcases h with rfl | ⟨a, e, hc⟩
  · left; simp
  · injection e with e; subst e
    right
    refine ⟨_, rfl, fun j u hj => ?_⟩
    rw [List.getElem?_drop] at hj
    rw [Addr.add_add]
    exact hc (k + j) u hj
theorem Lies.frm {S : Nat → Prop} {w w' : World} {A : Option Addr} {cs : List Value} (h : Lies w A cs) (hf : Frm S w w') (hs : ∀ ad, A = some ad → ¬ S ad.block) : Lies w' A cs := by
  rcases h with rfl | ⟨ad, rfl, hc⟩
  · exact .inl rfl
  · refine .inr ⟨ad, rfl, fun j u hj => ?_⟩
    have h0 := hc j u hj
    have eb : (ad.add j).block = ad.block := by unfold Addr.add; split <;> rfl
    have hlt : (ad.add j).block < w.heap.size := by
      cases hh : w.heap[(ad.add j).block]? with
      | some o => exact (Array.getElem?_eq_some_iff.1 hh).1
      | none => simp [World.cell?, hh] at h0
    have hb : w'.heap[(ad.add j).block]? = w.heap[(ad.add j).block]? := hf.block _ hlt (by rw [eb]; exact hs ad rfl)
    rw [World.cell?_of_block (w := w) hb]; exact h0
/-- a table in memory -/
structure Tab (B : Nat) (w : World) (g : Nat) (V : List (ByteArray × ByteArray)) (A : List ByteArray) (st : Int) (vv va : Value) : Prop where
  bt : w.heap[g]? = some (.cells #[vv, va, .int .i64 st] 57 (0, 0))
  eg : B ≤ g
  ov : w.ownsRow B 26 2 vv V.length (cellsV V)
  oa : w.ownsRow B 9 1 va A.length (cellsS A)
theorem Tab.frm {B : Nat} {w w' : World} {g : Nat} {V : List (ByteArray × ByteArray)} {A : List ByteArray} {st : Int} {vv va : Value} (h : Tab B w g V A st vv va) (hb : Below w.heap.size w w') : Tab B w' g V A st vv va :=
  ⟨blk_below h.bt hb, h.eg, pw_own_below h.ov hb, pw_own_below h.oa hb⟩
/-- other parameters -/
theorem Tab.setA {B : Nat} {w : World} {g : Nat} {V : List (ByteArray × ByteArray)} {A A' : List ByteArray} {st : Int} {vv va va' : Value} (h : Tab B w g V A st vv va) (ho : w.ownsRow B 9 1 va' A'.length (cellsS A')) : Tab B (w.setCell ⟨g, 1, none⟩ va') g V A' st vv va' :=
  ⟨blk_put h.bt 1 va' rfl, h.eg, own_setCell h.ov (own_ne h.ov h.bt (by decide)) _, own_setCell ho (own_ne ho h.bt (by decide)) _⟩
theorem meas_ (n i : Nat) (h : wrap64 ((i : Int) + 1) = ((i + 1 : Nat) : Int)) (hlt : i < n) : n - (intOf (Value.int .i64 (wrap64 ((i : Int) + 1)))).toNat < n - (intOf (Value.int .i64 (i : Int))).toNat := by
  rw [h]
  show n - ((i + 1 : Nat) : Int).toNat < n - (i : Int).toNat
  rw [Int.toNat_natCast, Int.toNat_natCast]
  exact Nat.sub_lt_sub_left hlt (Nat.lt_succ_self i)
/-- what giving parameters answers -/
def argsE (l : List ByteArray) : Int := if 256 < l.length then 2 else if l.all (fun s => decide (s.size ≤ 4096)) = true then 0 else 2
set_option maxHeartbeats 2000000 in
set_option maxRecDepth 100000 in
theorem setArgs_any (B : Nat) (w : World) (g : Nat) (V : List (ByteArray × ByteArray)) (A l : List ByteArray) (st : Int) (vv va : Value) (P : Option Addr) (c : Nat) (ht : Tab B w g V A st vv va) (hB : B ≤ w.heap.size) (hl : Kd.string.C w P l.length l) :
    Calls Try.prog 19 #[.pointer (some ⟨g, 0, none⟩), .slice P l.length c] w fun e w' => e = .returned (.int .i64 (argsE l)) ∧ Frm (fun k => k = g) w w' ∧ ∃ va' A', Tab B w' g V A' st vv va' ∧ (argsE l = 0 → A' = l) ∧ (argsE l ≠ 0 → A' = A) := by
  by_cases h256 : 256 < l.length
  · have he : argsE l = 2 := by unfold argsE; rw [if_pos h256]
    have c0 : decide ((256 : Int) < (l.length : Int)) = true := decide_eq_true (by omega)
    rw [he]
    clear he
    go_enter Try.func19, Try.ntmps19
    go_wp2
    go_ret
    exact ⟨rfl, Frm.refl _ _, va, A, ht, fun h => absurd h (by decide), fun _ => rfl⟩
  · have HT := Lib.hid ht
    have HL := Lib.hid hl
    have HBB := Lib.hid hB
    have c0 : decide ((256 : Int) < (l.length : Int)) = false := decide_eq_false (by omega)
    have HLN : Hid (l.length ≤ 256) := Lib.hid (by omega)
    clear ht hl hB h256
    go_enter Try.func19, Try.ntmps19
    go_wp2
    go_loopw [14] (fun s14 wr => ∃ i : Nat, i ≤ l.length ∧ s14 = .int .i64 i ∧ wr = w ∧ ∀ j (h : j < l.length), j < i → l[j].size ≤ 4096) (fun s14 _ => l.length - (intOf s14).toNat)
    case atStart => exact ⟨0, Nat.zero_le _, rfl, rfl, fun _ _ h => absurd h (by omega)⟩
    case round =>
      obtain ⟨i, hi, rfl, rfl, hall⟩ := hrel
      have HALL := Lib.hid hall
      by_cases hlt : i < l.length
      · obtain ⟨ad, ea, hx⟩ := Kd.at_string HL.out (i : Int) (by omega) (by omega)
        cases ea
        rw [Int.toNat_natCast] at hx
        have hrd : rdOf ByteArray.empty l (i : Int) = l[i] := by
          unfold rdOf; rw [Int.toNat_natCast, List.getD_eq_getElem?_getD, List.getElem?_eq_getElem hlt]; rfl
        rw [hrd] at hx
        generalize hsj : l[i] = sj at hx hrd
        have i0 : decide (0 ≤ (i : Int)) = true := decide_eq_true (by omega)
        have i1 : decide ((i : Int) < (l.length : Int)) = true := decide_eq_true (by omega)
        have HWR : Hid (wrap64 ((i : Int) + 1) = ((i + 1 : Nat) : Int)) := Lib.hid (by have := HLN.out; unfold wrap64; omega)
        have HLT := Lib.hid hlt
        by_cases hs : sj.size ≤ 4096
        · have c1 : decide ((4096 : Int) < (sj.size : Int)) = false := decide_eq_false (by omega)
          have HS : Hid (l[i].size ≤ 4096) := Lib.hid (hsj ▸ hs)
          clear hi hall hrd hsj hlt hs
          go_wp2
          go_roundw
          case rel =>
            refine ⟨i + 1, HLT.out, by rw [HWR.out], by first | rfl | trivial, fun j hj hji => ?_⟩
            by_cases e : j = i
            · subst e; exact HS.out
            · exact HALL.out j hj (by omega)
          case measure => exact meas_ _ _ HWR.out HLT.out
        · have c1 : decide ((4096 : Int) < (sj.size : Int)) = true := decide_eq_true (by omega)
          have he : argsE l = 2 := by
            unfold argsE
            rw [if_neg (by have := HLN.out; omega), if_neg]
            intro h
            have := of_decide_eq_true (List.all_eq_true.1 h _ (List.getElem_mem hlt))
            rw [hsj] at this
            exact hs this
          have HE := Lib.hid he
          clear hi hall hrd hsj hlt hs he
          go_wp2
          go_ret
          exact ⟨by rw [HE.out]; rfl, Frm.refl _ _, va, A, HT.out, fun h => absurd (HE.out.symm.trans h) (by decide), fun _ => rfl⟩
      · obtain rfl : i = l.length := by omega
        have he : argsE l = 0 := by
          unfold argsE
          rw [if_neg (by have := HLN.out; omega), if_pos]
          rw [List.all_eq_true]
          intro x hx
          obtain ⟨j, hj, rfl⟩ := List.getElem_of_mem hx
          exact decide_eq_true (HALL.out j hj hj)
        have HE := Lib.hid he
        clear hi hall hlt he
        have HLI : Hid (Lies wr P (cellsS l)) := Lib.hid (by
          by_cases h0 : l = []
          · subst h0; exact .inl rfl
          · obtain ⟨ad, ea, _⟩ := Kd.at_string HL.out 0 (by omega) (by have := List.length_pos_iff.2 h0; omega)
            subst ea
            refine .inr ⟨ad, rfl, fun j u hj => ?_⟩
            have hjl : j < l.length := by have := (List.getElem?_eq_some_iff.1 hj).1; rwa [cellsS_len] at this
            obtain ⟨ad', e', hx⟩ := Kd.at_string HL.out (j : Int) (by omega) (by omega)
            injection e' with e'; subst e'
            rw [Int.toNat_natCast] at hx
            rw [hx, ← hj]
            unfold cellsS rdOf
            rw [List.getElem?_map, Int.toNat_natCast, List.getD_eq_getElem?_getD, List.getElem?_eq_getElem hjl]; rfl)
        go_wp2_with (go_at_call 42; (with_reducible refine (copyS_any P l.length c (cellsS l) _ (cellsS_len l) HLI.out (cellsS_one l) (by have := HLN.out; omega)).mono ?_); rintro e w1 ⟨v1, rfl, ho, hb⟩; obtain ⟨A1, c1, e1⟩ := own_slice ho; subst e1; have HO := Lib.hid (own_weaken ho HBB.out); have HB1 := Lib.hid hb; have HT1 := Lib.hid (HT.out.frm hb); clear ho hb; have d1 : w1.cell? ⟨g, 1, none⟩ = some va := (blk_cell HT1.out.bt 1).trans rfl; have f1 := blk_frozen HT1.out.bt 1)
        go_ret
        exact ⟨by rw [HE.out]; rfl, (Frm.of_below HB1.out).setCell _ _ (fun _ => rfl), _, l, HT1.out.setA HO.out, fun _ => rfl, fun h => absurd HE.out h⟩
end Go.Proofs.Ytgcbipflmhbpcaa
set_option linter.unusedVariables false
set_option linter.unusedSimpArgs false
namespace Go.Proofs.Ytgcbipflmhbpcaa
open Go.RowKit
def chr (d : Nat) : Int := if d < 10 then (48 + d : Nat) else (87 + d : Nat)
def digs (b n : Nat) : List Int :=
  if n < b ∨ b < 2 then [chr (n % b)] else digs b (n / b) ++ [chr (n % b)]
termination_by n
decreasing_by exact Nat.div_lt_self (by omega) (by omega)
def DInv (b n m : Nat) (first : Bool) (l : List Int) : Prop :=
  (first = true ∧ m = n ∧ l = []) ∨ (first = false ∧ l ≠ [] ∧ ((0 < m ∧ digs b n = digs b m ++ l) ∨ (m = 0 ∧ digs b n = l)))
theorem DInv_step {b n m : Nat} {first : Bool} {l : List Int} (hb : 2 ≤ b) (h : DInv b n m first l) (hg : first = true ∨ 0 < m) :
    DInv b n (m / b) false (chr (m % b) :: l) := by
  have key : ∀ q l, digs b n = digs b q ++ l → (0 < q / b ∧ digs b n = digs b (q / b) ++ (chr (q % b) :: l)) ∨ (q / b = 0 ∧ digs b n = chr (q % b) :: l) := by
    intro q l hq
    rw [digs.eq_1 b q] at hq
    by_cases hlt : q < b
    · rw [if_pos (Or.inl hlt)] at hq
      exact .inr ⟨Nat.div_eq_of_lt hlt, by simpa using hq⟩
    · rw [if_neg (by omega)] at hq
      exact .inl ⟨Nat.div_pos (by omega) (by omega), by simpa using hq⟩
  refine .inr ⟨rfl, by simp, ?_⟩
  rcases h with ⟨_, rfl, rfl⟩ | ⟨rfl, _, h⟩
  · exact key m [] (by simp)
  · rcases h with ⟨hm, h⟩ | ⟨rfl, h⟩
    · exact key m l h
    · rcases hg with hg | hg
      · cases hg
      · omega
def DArr (A : Array Value) (l : List Int) : Prop := A.size = 64 ∧ ∀ j, j < l.length → A[64 - l.length + j]? = some (.int .u8 (l.getD j 0))
theorem DArr_nil (A : Array Value) (h : A.size = 64) : DArr A [] := ⟨h, fun j hj => absurd hj (by simp)⟩
theorem DArr_step {A : Array Value} {l : List Int} (c : Int) (h : DArr A l) (hl : l.length < 64) :
    DArr (A.setIfInBounds (64 - l.length - 1) (.int .u8 c)) (c :: l) := by
  refine ⟨by simpa using h.1, fun j hj => ?_⟩
  rw [Array.getElem?_setIfInBounds]
  simp only [List.length_cons] at hj ⊢
  by_cases h0 : j = 0
  · subst h0
    rw [if_pos (by omega), if_pos (by rw [h.1]; omega)]; simp
  · rw [if_neg (by omega)]
    have := h.2 (j - 1) (by omega)
    rw [show 64 - (l.length + 1) + j = 64 - l.length + (j - 1) by omega, this]
    obtain ⟨i, rfl⟩ : ∃ i, j = i + 1 := ⟨j - 1, by omega⟩
    simp
theorem chr_at (d : Nat) (h : d < 16) (h' : d < (⟨#[48, 49, 50, 51, 52, 53, 54, 55, 56, 57, 97, 98, 99, 100, 101, 102]⟩ : ByteArray).size) :
    (((⟨#[48, 49, 50, 51, 52, 53, 54, 55, 56, 57, 97, 98, 99, 100, 101, 102]⟩ : ByteArray)[d]'h').toNat : Int) = chr d := by
  have : ∀ d : Fin 16, (((⟨#[48, 49, 50, 51, 52, 53, 54, 55, 56, 57, 97, 98, 99, 100, 101, 102]⟩ : ByteArray)[d.val]'(by exact d.isLt)).toNat : Int) = chr d.val := by decide
  exact this ⟨d, h⟩
theorem cell_of_blk {w : World} {g : Nat} {A : Array Value} {t : TypeId} {i : Nat} {v : Value} (h : w.heap[g]? = some (.cells A t (0, 0))) (hv : A[i]? = some v) : w.cell? ⟨g, i, none⟩ = some v := by
  simp [World.cell?, h, hv]
theorem frozen_of_blk {w : World} {g : Nat} {A : Array Value} {t : TypeId} (i : Nat) (h : w.heap[g]? = some (.cells A t (0, 0))) : w.frozen? ⟨g, i, none⟩ = false := by
  simp [World.frozen?, h]
theorem blk_setCell {w : World} {g : Nat} {A : Array Value} {t : TypeId} (i : Nat) (v : Value) (h : w.heap[g]? = some (.cells A t (0, 0))) : (w.setCell ⟨g, i, none⟩ v).heap[g]? = some (.cells (A.setIfInBounds i v) t (0, 0)) := by
  simp only [World.setCell]
  rw [Array.getElem?_modify]
  simp [h]
theorem ret_str {a b : ByteArray} (h : a = b) : Ending.returned (.string a) = .returned (.string b) := by rw [h]
def baseS (b n : Nat) : ByteArray := if b < 2 ∨ 16 < b then ⟨#[]⟩ else strOfNums (digs b n)
theorem slice_b (w : World) (g k : Nat) (hk : k < 64) :
    (Instr.sliceAt 100 (.pointer (some ⟨g, 0, none⟩)) (some (.int .i64 (k : Nat))) none none).run Try.prog w = .ok (.slice (some ⟨g, k, none⟩) (64 - k) (64 - k)) w := by
  have ha : Try.prog.arrayLen 100 = 64 := by kernel_rfl
  have hs : (sizeOf (Try.prog.elem 100)).run Try.prog w = .ok 1 w := by kernel_rfl
  rw [run_sliceAt_array_l w 100 _ (by kernel_rfl) .i64 _ (by omega) (by rw [ha]; omega), hs, ha]
  simp only [Result.andThen_ok, slicedAt, Int.toNat_natCast]
  rw [if_neg (by omega)]
  unfold Addr.add
  by_cases h : k = 0 <;> simp [h]
theorem pow_room {m k n : Nat} (hm : 0 < m) (h : m * 2 ^ k ≤ n) (hn : n < 18446744073709551616) : k < 64 := by
  rcases Nat.lt_or_ge k 64 with h' | h'
  · exact h'
  · have : 2 ^ 64 ≤ 2 ^ k := Nat.pow_le_pow_right (by omega) h'
    have : 2 ^ k ≤ m * 2 ^ k := Nat.le_mul_of_pos_left _ hm
    omega
theorem div_pow {m b k n : Nat} (hb : 2 ≤ b) (h : m * 2 ^ k ≤ n) : m / b * 2 ^ (k + 1) ≤ n := by
  have h1 : m / b * b ≤ m := Nat.div_mul_le_self m b
  have h2 : m / b * 2 ≤ m / b * b := Nat.mul_le_mul_left _ hb
  have h3 : m / b * 2 * 2 ^ k ≤ m * 2 ^ k := Nat.mul_le_mul_right _ (by omega)
  rw [Nat.pow_succ, Nat.mul_comm (2 ^ k) 2, ← Nat.mul_assoc]
  omega
theorem u64_wrap_nat (m b : Nat) (h : m < 18446744073709551616) : IntKind.u64.wrap ((m : Int) / (b : Int)) = ((m / b : Nat) : Int) := by
  have : m / b ≤ m := Nat.div_le_self m b
  have e : (m : Int) / (b : Int) = ((m / b : Nat) : Int) := by simp
  rw [e]
  exact IntWalk.u64_in _ ⟨by exact Int.natCast_nonneg _, by omega⟩
set_option maxHeartbeats 400000 in
theorem base_any (n : Nat) (b : Int) (w : World) (h1 : n < 18446744073709551616) :
    Calls Try.prog 44 #[.int .u64 n, .int .i64 b] w fun e w' => e = .returned (.string (baseS b.toNat n)) ∧ Below w.heap.size w w' := by
  by_cases hb : b < 2 ∨ b > 16
  · have HE : Hid (baseS b.toNat n = ⟨#[]⟩) := by
      refine Lib.hid ?_
      unfold baseS
      rw [if_pos (by omega)]
    go_enter Try.func44, Try.ntmps44
    by_cases hb2 : b < 2
    · go_wp2
      go_ret
      exact ⟨ret_str HE.out.symm, Below.refl _ _⟩
    · have : 16 < b := by omega
      go_wp2
      go_ret
      exact ⟨ret_str HE.out.symm, Below.refl _ _⟩
  · obtain ⟨b, rfl⟩ : ∃ c : Nat, b = c := ⟨b.toNat, by omega⟩
    have hb1 : (2 : Int) ≤ b := by omega
    have hb2 : (b : Int) ≤ 16 := by omega
    have HE : Hid (baseS (b : Int).toNat n = strOfNums (digs b n)) := by
      refine Lib.hid ?_
      unfold baseS
      rw [if_neg (by omega)]
      simp
    clear hb
    go_enter Try.func44, Try.ntmps44
    go_wp2
    go_loopw [0, 6, 7] (fun s0 s6 s7 wr => ∃ (m : Nat) (first : Bool) (l : List Int) (A : Array Value), s0 = .int .u64 m ∧ s6 = .int .i64 (64 - l.length : Nat) ∧ s7 = .bool first ∧ l.length ≤ 64 ∧ m * 2 ^ l.length ≤ n ∧ Hid (DInv b n m first l) ∧
       Hid (DArr A l) ∧ Hid (wr.heap[w.heap.size]? = some (.cells A 100 (0, 0))) ∧ Below w.heap.size w wr)
      (fun s0 s6 s7 _ => (intOf s0).toNat * 2 + (match s7 with | .bool true => 1 | _ => 0))
    case atStart => exact ⟨n, true, [], _, rfl, rfl, rfl, by simp, by simp, Lib.hid (.inl ⟨rfl, rfl, rfl⟩), Lib.hid (DArr_nil _ rfl), Lib.hid (heap_alloc_new _ _), (Below.refl _ _).alloc (Nat.le_refl _) _⟩
    case round =>
      obtain ⟨m, first, l, A, rfl, rfl, rfl, hl64, hm, hD, hA, hblk, hB⟩ := hrel
      have hmn : m ≤ n := Nat.le_trans (Nat.le_mul_of_pos_right _ (Nat.pow_pos (by omega))) hm
      by_cases hgo : first = true ∨ 0 < m
      · have hl : l.length < 64 := by
          rcases hD.out with ⟨_, _, rfl⟩ | ⟨_, _, h⟩
          · simp
          · rcases h with ⟨hm0, _⟩ | ⟨rfl, _⟩
            · exact pow_room hm0 hm h1
            · rcases hgo with hgo | hgo
              · simp_all
              · omega
        have hD' : Hid (DInv b n (m / b) false (chr (m % b) :: l)) := Lib.hid (DInv_step (by omega) hD.out hgo)
        have hA' : Hid (DArr (A.setIfInBounds (64 - l.length - 1) (.int .u8 (chr (m % b)))) (chr (m % b) :: l)) := Lib.hid (DArr_step _ hA.out hl)
        have hm' : Hid (m / b * 2 ^ (l.length + 1) ≤ n) := Lib.hid (div_pow (by omega) hm)
        have hw' : Hid (IntKind.u64.wrap ((m : Int) / (b : Int)) = ((m / b : Nat) : Int)) := Lib.hid (u64_wrap_nat m b (by omega))
        have hblk' : Hid ((wr.setCell ⟨w.heap.size, 64 - l.length - 1, none⟩ (.int .u8 (chr (m % b)))).heap[w.heap.size]? = some (.cells (A.setIfInBounds (64 - l.length - 1) (.int .u8 (chr (m % b)))) 100 (0, 0))) := Lib.hid (blk_setCell _ _ hblk.out)
        have hc1 : ∃ v, wr.cell? ⟨w.heap.size, 64 - l.length - 1, none⟩ = some v := by
          have : 64 - l.length - 1 < A.size := by rw [hA.out.1]; omega
          exact ⟨_, cell_of_blk hblk.out (Array.getElem?_eq_getElem this)⟩
        obtain ⟨v, hc1⟩ := hc1
        have hf1 : wr.frozen? ⟨w.heap.size, 64 - l.length - 1, none⟩ = false := frozen_of_blk _ hblk.out
        have hmb0 : 0 ≤ ((m : Int) % (b : Int)) := Int.emod_nonneg _ (by omega)
        have hmb : ((m : Int) % (b : Int)) < 16 := by
          have := Int.emod_lt_of_pos (m : Int) (show (0 : Int) < b by omega); omega
        have hx : m % b < 16 := by have := Nat.mod_lt m (show b > 0 by omega); omega
        have hch := Lib.hid (chr_at (m % b) hx)
        have hmeas : Hid (m / b * 2 < m * 2 + (match Value.bool first with | .bool true => 1 | _ => 0)) := by
          refine Lib.hid ?_
          rcases Nat.eq_zero_or_pos m with h0 | h0
          · subst h0
            have : first = true := by simpa using hgo
            subst this; simp
          · have := Nat.div_lt_self h0 (show 1 < b by omega)
            omega
        clear hx
        cases first
        all_goals
          first | (have hm0 : 0 < m := by simpa using hgo) | skip
          go_wp2
          go_roundw
          case rel =>
            refine ⟨m / b, false, chr (m % b) :: l, _, by rw [hw'.out], by simp; omega, rfl, by simp; omega, by simpa using hm'.out, hD', hA', ?_, ?_⟩
            · rw [hch.out]; exact hblk'
            · exact hB.setCell (Nat.le_refl _) _
          case measure =>
            rw [hw'.out]
            simp only [intOf, Int.toNat_natCast]
            have := hmeas.out
            simp at this ⊢
            omega
      · have hm0 : m = 0 := by omega
        have hfirst : first = false := by simpa using fun h => hgo (Or.inl h)
        subst hfirst
        subst hm0
        have hdl : Hid (digs b n = l ∧ l ≠ []) := by
          refine Lib.hid ?_
          rcases hD.out with ⟨h, _⟩ | ⟨_, h2, ⟨h3, _⟩ | ⟨_, h3⟩⟩
          · cases h
          · omega
          · exact ⟨h3, h2⟩
        have hlp : 0 < l.length := List.length_pos_iff.2 hdl.out.2
        have hlen : 64 - (64 - l.length) = l.length := by omega
        have ks := slice_b wr w.heap.size (64 - l.length) (by omega)
        rw [hlen] at ks
        have hlen' := Lib.hid hlen
        clear hlen
        have kc := run_convert_bytes_arg (P := Try.prog) wr 81 5 Try.underlying81 Try.underlying5 w.heap.size (64 - l.length) l.length l.length l rfl (fun i hi => cell_of_blk hblk.out (hA.out.2 i hi)) 9 Try.underlying9
        go_wp2
        go_ret
        exact ⟨ret_str (by rw [HE.out, hdl.out.1]), hB⟩
end Go.Proofs.Ytgcbipflmhbpcaa
namespace Go.Proofs
open Go.Shelf
def Try.lays156_ren : Go.Shelf.Ren := ⟨fun | 156 => 29 | 165 => 45 | 166 => 46 | 169 => 47 | 240 => 59 | 241 => 60 | 276 => 67 | 277 => 68 | n => n, fun | 31 => 23 | 9 => 9 | 3 => 3 | 4 => 4 | 0 => 0 | 20 => 20 | 72 => 83 | 76 => 87 | 70 => 80 | 37 => 81 | 75 => 86 | 127 => 101 | 164 => 104 | 5 => 5 | 80 => 89 | n => n, fun | n => n⟩
theorem Try.lays156 : Go.Proofs.Lays.n156 Try.prog Try.lays156_ren := {
  mixed := by kernel_rfl
  f156 := Try.func29.trans (congrArg some (by kernel_rfl))
  f165 := Try.func45.trans (congrArg some (by kernel_rfl))
  f166 := Try.func46.trans (congrArg some (by kernel_rfl))
  f169 := Try.func47.trans (congrArg some (by kernel_rfl))
  f240 := Try.func59.trans (congrArg some (by kernel_rfl))
  f241 := Try.func60.trans (congrArg some (by kernel_rfl))
  f276 := Try.func67.trans (congrArg some (by kernel_rfl))
  f277 := Try.func68.trans (congrArg some (by kernel_rfl))
  t0 := Try.underlying0
  a0 := Try.isAgg0
  z0 := Try.sizeOf0
  v0 := Try.zeroValue0
  t3 := Try.underlying3
  a3 := Try.isAgg3
  z3 := Try.sizeOf3
  v3 := Try.zeroValue3
  t4 := Try.underlying4
  a4 := Try.isAgg4
  z4 := Try.sizeOf4
  v4 := Try.zeroValue4
  t9 := Try.underlying9
  a9 := Try.isAgg9
  z9 := Try.sizeOf9
  v9 := Try.zeroValue9
  t20 := Try.underlying20
  a20 := Try.isAgg20
  z20 := Try.sizeOf20
  v20 := Try.zeroValue20
  t31 := Try.underlying23
  a31 := Try.isAgg23
  z31 := Try.sizeOf23
  v31 := Try.zeroValue23
  t37 := Try.underlying81
  a37 := Try.isAgg81
  z37 := Try.sizeOf81
  v37 := Try.zeroValue81
  t70 := Try.underlying80
  a70 := Try.isAgg80
  z70 := Try.sizeOf80
  v70 := Try.zeroValue80
  t72 := Try.underlying83
  a72 := Try.isAgg83
  z72 := Try.sizeOf83
  v72 := Try.zeroValue83
  t75 := Try.underlying86
  a75 := Try.isAgg86
  z75 := Try.sizeOf86
  v75 := Try.zeroValue86
  t76 := Try.underlying87
  a76 := Try.isAgg87
  z76 := Try.sizeOf87
  v76 := Try.zeroValue87
  t127 := Try.underlying101
  a127 := Try.isAgg101
  z127 := Try.sizeOf101
  v127 := Try.zeroValue101
  t164 := Try.underlying104
  a164 := Try.isAgg104
  z164 := Try.sizeOf104
  v164 := Try.zeroValue104 }
theorem Try.Builder_Extra_156 : Builder.Extra Try.prog Try.lays156_ren := {
  sizeBuilder := by kernel_rfl
  liesBuilder := by kernel_rfl
  t5 := Try.underlying5
  a5 := Try.isAgg5
  z5 := Try.sizeOf5
  v5 := Try.zeroValue5
  infoByte := by kernel_rfl
  cellsByte := by kernel_rfl
  sizeByte := by kernel_rfl
  neB5 := by decide }
open Go.RowKit in
/-- No element: the empty string; the world is as it was. (Whatever the slice's address and capacity: a nil slice too.) (LAID: no walk: one application.) -/
theorem Try.strings_Join_none (a : Option Addr) (c : Nat) (sep : ByteArray) (w : World) :
    Calls Try.prog 29 #[.slice a 0 c, .string sep] w fun e w' => e = .returned (.string ⟨#[]⟩) ∧ w' = w := Any.strings_Join_none Try.lays156 Try.Builder_Extra_156 a c sep w
open Go.RowKit in
/-- strings.Join: "Join concatenates the elements of its first argument to create a single string. The separator string sep is placed between elements in the resulting string.": HOWEVER MANY ELEMENTS. Below the heap's end the world is as it was. (LAID: no walk: one application.) -/
theorem Try.strings_Join (bk o c : Nat) (xs : List ByteArray) (sep : ByteArray) (w : World) (hcells : ∀ (j : Nat) x, xs[j]? = some x → w.cell? ⟨bk, o + j, none⟩ = some (.string x)) (hbk : bk < w.heap.size) (hN : xs.length ≤ 140737488355328) (hcap : xs.length ≤ c) (hlen : (Lib.join (xs.map (·.data.toList)) sep.data.toList).length ≤ 140737488355328) :
    Calls Try.prog 29 #[.slice (some ⟨bk, o, none⟩) xs.length c, .string sep] w fun e w' => e = .returned (.string ⟨(Lib.join (xs.map (·.data.toList)) sep.data.toList).toArray⟩) ∧ Below w.heap.size w w' := Any.strings_Join Try.lays156 Try.Builder_Extra_156 bk o c xs sep w hcells hbk hN hcap hlen
def Try.lays137_ren : Go.Shelf.Ren := ⟨fun | 137 => 70 | 217 => 73 | 266 => 74 | n => n, fun | 9 => 9 | 5 => 5 | 3 => 3 | n => n, fun | n => n⟩
theorem Try.lays137 : Go.Proofs.Lays.n137 Try.prog Try.lays137_ren := {
  mixed := by kernel_rfl
  f137 := Try.func70.trans (congrArg some (by kernel_rfl))
  f217 := Try.func73.trans (congrArg some (by kernel_rfl))
  f266 := Try.func74.trans (congrArg some (by kernel_rfl))
  t3 := Try.underlying3
  a3 := Try.isAgg3
  z3 := Try.sizeOf3
  v3 := Try.zeroValue3
  t5 := Try.underlying5
  a5 := Try.isAgg5
  z5 := Try.sizeOf5
  v5 := Try.zeroValue5
  t9 := Try.underlying9
  a9 := Try.isAgg9
  z9 := Try.sizeOf9
  v9 := Try.zeroValue9 }
open Go.RowKit in
/-- strings.IndexByte: "IndexByte returns the index of the first instance of c in s, or -1 if c is not present in s.": IT RETURNS 'Lib.indexByte s c'; the world is as it was. (LAID: no walk: one application.) -/
theorem Try.strings_IndexByte (s : ByteArray) (c : Int) (w : World) :
    Calls Try.prog 70 #[.string s, .int .u8 c] w fun e w' => e = .returned (.int .i64 (Lib.indexByte s.data.toList c.toNat.toUInt8)) ∧ w' = w := Any.strings_IndexByte Try.lays137 s c w
def Try.lays103_ren : Go.Shelf.Ren := ⟨fun | 103 => 48 | 210 => 61 | 206 => 69 | n => n, fun | 9 => 9 | 4 => 4 | 24 => 43 | 3 => 3 | n => n, fun | n => n⟩
theorem Try.lays103 : Go.Proofs.Lays.n103 Try.prog Try.lays103_ren := {
  mixed := by kernel_rfl
  f103 := Try.func48.trans (congrArg some (by kernel_rfl))
  f206 := Try.func69.trans (congrArg some (by kernel_rfl))
  f210 := Try.func61.trans (congrArg some (by kernel_rfl))
  t3 := Try.underlying3
  a3 := Try.isAgg3
  z3 := Try.sizeOf3
  v3 := Try.zeroValue3
  t4 := Try.underlying4
  a4 := Try.isAgg4
  z4 := Try.sizeOf4
  v4 := Try.zeroValue4
  t9 := Try.underlying9
  a9 := Try.isAgg9
  z9 := Try.sizeOf9
  v9 := Try.zeroValue9
  t24 := Try.underlying43
  a24 := Try.isAgg43
  z24 := Try.sizeOf43
  v24 := Try.zeroValue43 }
open Go.RowKit in
/-- strings.CutPrefix: "CutPrefix returns s without the provided leading prefix string and reports whether it found the prefix. If s doesn't start with prefix, CutPrefix returns s, false. If prefix is the empty string, CutPrefix returns s, true.": IT RETURNS '(Lib.trimPrefix s p, Lib.hasPrefix s p)'; the world is as it was. (LAID: no walk: one application.) -/
theorem Try.strings_CutPrefix (s p : ByteArray) (w : World) :
    Calls Try.prog 48 #[.string s, .string p] w fun e w' => e = .returned (.tuple #[.string ⟨(Lib.trimPrefix s.data.toList p.data.toList).toArray⟩, .bool (Lib.hasPrefix s.data.toList p.data.toList)]) ∧ w' = w := Any.strings_CutPrefix Try.lays103 s p w
end Go.Proofs
set_option linter.unusedVariables false
set_option linter.unusedSimpArgs false
namespace Go.Proofs.Ytgcbipflmhbpcaa
open Go.RowKit
def valC (c : Nat) : Int := if 48 ≤ c ∧ c ≤ 57 then (c : Int) - 48 else if 97 ≤ c ∧ c ≤ 102 then (c : Int) - 87 else if 65 ≤ c ∧ c ≤ 70 then (c : Int) - 55 else -1
theorem valC_index : ∀ c : Fin 256, Lib.indexByte [48, 49, 50, 51, 52, 53, 54, 55, 56, 57, 97, 98, 99, 100, 101, 102] ((if 65 ≤ c.val ∧ c.val ≤ 70 then c.val + 32 else c.val).toUInt8) = valC c.val := by decide +kernel
theorem ret_i64 {a b : Int} (h : a = b) : Ending.returned (.int .i64 a) = .returned (.int .i64 b) := by rw [h]
theorem value_any (c : Nat) (w : World) (h : c < 256) :
    Calls Try.prog 62 #[.int .u8 c] w fun e w' => e = .returned (.int .i64 (valC c)) ∧ w' = w := by
  have hv := Lib.hid (valC_index ⟨c, h⟩)
  by_cases h1 : 65 ≤ c ∧ c ≤ 70
  · obtain ⟨h1, h2⟩ := h1
    have h3 : (65 : Int) ≤ c := by omega
    have h4 : (c : Int) ≤ 70 := by omega
    go_enter Try.func62, Try.ntmps62
    go_wp2_with fail
    refine (Try.strings_IndexByte _ _ _).mono ?_
    rintro e w' ⟨rfl, rfl⟩
    go_wp2
    go_ret
    refine ⟨ret_i64 ?_, rfl⟩
    rw [← hv.out]
    simp only [h1, h2, and_self, if_true]
    congr 1
  · go_enter Try.func62, Try.ntmps62
    by_cases h3 : 65 ≤ (c : Int)
    · have h4 : 70 < (c : Int) := by omega
      go_wp2_with fail
      refine (Try.strings_IndexByte _ _ _).mono ?_
      rintro e w' ⟨rfl, rfl⟩
      go_wp2
      go_ret
      refine ⟨ret_i64 ?_, rfl⟩
      rw [← hv.out]
      simp [h1]
    · go_wp2_with fail
      refine (Try.strings_IndexByte _ _ _).mono ?_
      rintro e w' ⟨rfl, rfl⟩
      go_wp2
      go_ret
      refine ⟨ret_i64 ?_, rfl⟩
      rw [← hv.out]
      simp [h1]
end Go.Proofs.Ytgcbipflmhbpcaa
set_option linter.unusedVariables false
set_option linter.unusedSimpArgs false
namespace Go.Proofs.Ytgcbipflmhbpcaa
open Go.RowKit
def okD (base : Nat) (c : UInt8) : Bool := decide (0 ≤ valC c.toNat) && decide (valC c.toNat < base)
def stepD (base : Nat) (n : Nat) (c : UInt8) : Nat := n * base + (valC c.toNat).toNat
def numD (base : Nat) (l : List UInt8) : Nat := l.foldl (stepD base) 0
def rdE (base most : Nat) (l : List UInt8) : Int := if l = [] ∨ l.all (okD base) = false then 40 else if most < numD base l then 41 else 0
def rdN (base most : Nat) (l : List UInt8) : Nat := if rdE base most l = 0 then numD base l else 0
theorem numD_snoc (base : Nat) (l : List UInt8) (c : UInt8) : numD base (l ++ [c]) = numD base l * base + (valC c.toNat).toNat := by simp [numD, stepD]
theorem take_succ_get (l : List UInt8) (k : Nat) (h : k < l.length) : l.take (k + 1) = l.take k ++ [l[k]] := List.take_succ_eq_append_getElem h
theorem valC_bound (c : Nat) : -1 ≤ valC c ∧ valC c ≤ 15 := by
  unfold valC
  repeat' split
  all_goals omega
/-- what the loop of num.read holds: the digits so far are good, the number, whether it is beyond the greatest -/
def RInv (base most : Nat) (l : List UInt8) (n : Nat) (over : Bool) : Prop :=
  l.all (okD base) = true ∧ n < 18446744073709551616 ∧ (over = false → n = numD base l ∧ n ≤ most) ∧ (over = true → most < numD base l)
theorem RInv_step {base most : Nat} {l : List UInt8} {n : Nat} {over : Bool} {c : UInt8} (hb : 2 ≤ base) (hb2 : base ≤ 16) (hm : 16 ≤ most) (hm2 : most < 18446744073709551616)
    (h : RInv base most l n over) (hc : okD base c = true) :
    RInv base most (l ++ [c]) ((n * base + (valC c.toNat).toNat) % 18446744073709551616) (over || decide ((most - (valC c.toNat).toNat) / base < n)) := by
  obtain ⟨h1, h2, h3, h4⟩ := h
  have hv := valC_bound c.toNat
  refine ⟨by simp [h1, hc], Nat.mod_lt _ (by omega), ?_, ?_⟩
  · intro ho
    simp only [Bool.or_eq_false_iff, decide_eq_false_iff_not] at ho
    obtain ⟨rfl, hlt⟩ := ho
    obtain ⟨h5, h6⟩ := h3 rfl
    rw [numD_snoc, ← h5]
    have hle : n ≤ (most - (valC c.toNat).toNat) / base := by omega
    have := (Nat.le_div_iff_mul_le (by omega)).1 hle
    rw [Nat.mod_eq_of_lt (by omega)]
    exact ⟨rfl, by omega⟩
  · intro ho
    rw [numD_snoc]
    cases over with
    | true =>
      have h5 := h4 rfl
      have := Nat.le_mul_of_pos_right (numD base l) (show 0 < base by omega)
      omega
    | false =>
      simp only [Bool.false_or, decide_eq_true_eq] at ho
      obtain ⟨h5, h6⟩ := h3 rfl
      rw [← h5]
      have := (Nat.div_lt_iff_lt_mul (by omega)).1 ho
      omega
theorem rd_bad {base most : Nat} {l : List UInt8} {k : Nat} (hk : k < l.length) (h : okD base l[k] = false) : rdE base most l = 40 ∧ rdN base most l = 0 := by
  have h1 : l.all (okD base) = false := by
    rw [Bool.eq_false_iff]
    intro h'
    rw [List.all_eq_true] at h'
    have := h' l[k] (List.getElem_mem hk)
    rw [h] at this
    cases this
  have e : rdE base most l = 40 := by unfold rdE; rw [if_pos (Or.inr h1)]
  exact ⟨e, by unfold rdN; rw [e]; rfl⟩
theorem rd_nil (base most : Nat) : rdE base most [] = 40 ∧ rdN base most [] = 0 := by
  have e : rdE base most [] = 40 := by unfold rdE; rw [if_pos (Or.inl rfl)]
  exact ⟨e, by unfold rdN; rw [e]; rfl⟩
theorem rd_end {base most : Nat} {l : List UInt8} {n : Nat} {over : Bool} (hl : l ≠ []) (h : RInv base most l n over) : rdE base most l = (if over = true then 41 else 0) ∧ rdN base most l = (if over = true then 0 else n) := by
  obtain ⟨h1, h2, h3, h4⟩ := h
  cases over with
  | true =>
    have e : rdE base most l = 41 := by unfold rdE; rw [if_neg (by simp [hl, h1]), if_pos (h4 rfl)]
    exact ⟨e, by unfold rdN; rw [e]; rfl⟩
  | false =>
    obtain ⟨h5, h6⟩ := h3 rfl
    have e : rdE base most l = 0 := by unfold rdE; rw [if_neg (by simp [hl, h1]), if_neg (by omega)]
    exact ⟨e, by unfold rdN; rw [e]; simp [h5]⟩
theorem wrap_step (n base : Nat) (v : Int) (h0 : 0 ≤ v) : IntKind.u64.wrap (IntKind.u64.wrap ((n : Int) * (base : Int)) + v) = (((n * base + v.toNat) % 18446744073709551616 : Nat) : Int) := by
  obtain ⟨v, rfl⟩ := Int.eq_ofNat_of_zero_le h0
  have h : ∀ x : Int, IntKind.u64.wrap x = x % 18446744073709551616 := fun x => by simp [IntKind.wrap_u64]
  rw [h, h]
  simp
theorem over_step (n most base : Nat) (v : Int) (h0 : 0 ≤ v) (h1 : v ≤ most) : decide (((most : Int) - v) / (base : Int) < (n : Int)) = decide ((most - v.toNat) / base < n) := by
  obtain ⟨v, rfl⟩ := Int.eq_ofNat_of_zero_le h0
  have e : ((most : Int) - (v : Int)) / (base : Int) = (((most - v) / base : Nat) : Int) := by
    rw [show ((most : Int) - (v : Int)) = ((most - v : Nat) : Int) by omega]; simp
  rw [e]
  exact decide_eq_decide.2 Int.ofNat_lt
theorem ret_rd {a b c d : Int} (h : a = c) (h' : b = d) : Ending.returned (.tuple #[.int .u64 a, .int .i64 b]) = .returned (.tuple #[.int .u64 c, .int .i64 d]) := by rw [h, h']
set_option maxHeartbeats 800000 in
theorem read_any (s : ByteArray) (base most : Nat) (w : World) (hs : s.size ≤ 9223372036854775807) (hb : 2 ≤ base) (hb2 : base ≤ 16) (hm : 16 ≤ most) (hm2 : most < 18446744073709551616) :
    Calls Try.prog 49 #[.string s, .int .i64 base, .int .u64 most] w fun e w' =>
      e = .returned (.tuple #[.int .u64 (rdN base most s.data.toList : Nat), .int .i64 (rdE base most s.data.toList)]) ∧ w' = w := by
  by_cases h0 : s.toList = []
  · have hs0 : s.data.toList = [] := by rw [← ByteArray.toList_eq]; exact h0
    have hr := Lib.hid (rd_nil base most)
    rw [← hs0] at hr
    have h0' : s.toList.isEmpty = true := by rw [h0]; rfl
    clear hs0
    go_enter Try.func49, Try.ntmps49
    go_wp2
    go_ret2
    exact ⟨ret_rd (by rw [hr.out.2]; rfl) hr.out.1.symm, rfl⟩
  · have hl : Hid (s.data.toList ≠ []) := by rw [← ByteArray.toList_eq]; exact Lib.hid h0
    have h0' : s.toList.isEmpty = false := by simpa using h0
    have hlen : s.data.toList.length = s.size := by rw [Array.length_toList]; rfl
    have hlen' := Lib.hid hlen
    clear hlen
    go_enter Try.func49, Try.ntmps49
    go_wp2
    clear h0 h0'
    go_loop [8, 9, 16] (fun s8 s9 s16 => ∃ (k n : Nat) (over : Bool), k ≤ s.size ∧ s8 = .int .u64 n ∧ s9 = .bool over ∧ s16 = .int .i64 k ∧ Hid (RInv base most (s.data.toList.take k) n over)) (fun _ _ s16 => s.size - (intOf s16).toNat)
    case atStart => exact ⟨0, 0, false, by omega, rfl, rfl, rfl, Lib.hid ⟨by simp, by omega, by simp [numD], by simp⟩⟩
    case round =>
      obtain ⟨k, n, over, hk, rfl, rfl, rfl, hI⟩ := hrel
      have hn : n < 18446744073709551616 := hI.out.2.1
      by_cases hlt : k < s.size
      · have hkl : k < s.data.toList.length := by rw [hlen'.out]; exact hlt
        have hvb := valC_bound (s[k]'hlt).toNat
        by_cases hv : 0 ≤ valC (s[k]'hlt).toNat ∧ valC (s[k]'hlt).toNat < base
        · obtain ⟨hv1, hv2⟩ := hv
          obtain ⟨_, hvb⟩ := hvb
          have hc : okD base (s.data.toList[k]) = true := by
            unfold okD
            simp
            exact ⟨hv1, hv2⟩
          have hS : Hid (RInv base most (s.data.toList.take k ++ [s[k]'hlt]) ((n * base + (valC (s[k]'hlt).toNat).toNat) % 18446744073709551616) (over || decide ((most - (valC (s[k]'hlt).toNat).toNat) / base < n))) := Lib.hid (RInv_step hb hb2 hm hm2 hI.out hc)
          have hT : Hid (s.data.toList.take (k + 1) = s.data.toList.take k ++ [s[k]'hlt]) := Lib.hid (take_succ_get _ _ hkl)
          have hW := Lib.hid (wrap_step n base (valC (s[k]'hlt).toNat) hv1)
          have hO := Lib.hid (over_step n most base (valC (s[k]'hlt).toNat) hv1 (by omega))
          clear hc
          go_wp2_with fail
          refine (value_any _ _ (by exact (s[k]'hlt).toNat_lt)).mono ?_
          rintro e w' ⟨rfl, rfl⟩
          go_wp2
          all_goals
            go_round
            case rel =>
              refine ⟨k + 1, _, _, by omega, by rw [hW.out], rfl, by go_num, ?_⟩
              have := hS.out
              rw [hT.out]
              refine Lib.hid ?_
              first
              | (have ho : over = true := by assumption
                 subst ho
                 exact this)
              | (have ho : ¬ over = true := by assumption
                 have ho' : over = false := by simpa using ho
                 subst ho'
                 rw [hO.out]
                 exact this)
            case measure => simp [intOf]; omega
        · have hb' := Lib.hid (rd_bad (base := base) (most := most) hkl (by unfold okD; simp; intro h; have h' : ¬ valC (s[k]'hlt).toNat < base := fun h2 => hv ⟨h, h2⟩; exact Int.not_lt.1 h'))
          go_wp2_with fail
          refine (value_any _ _ (by exact (s[k]'hlt).toNat_lt)).mono ?_
          rintro e w' ⟨rfl, rfl⟩
          go_wp2
          all_goals
            go_ret2
            exact ⟨ret_rd (by rw [hb'.out.2]; rfl) hb'.out.1.symm, rfl⟩
      · have hk' : k = s.size := by omega
        have he : Hid (rdE base most s.data.toList = (if over = true then 41 else 0) ∧ rdN base most s.data.toList = (if over = true then 0 else n)) := by
          refine Lib.hid (rd_end hl.out ?_)
          have := hI.out
          rwa [List.take_of_length_le (by rw [hlen'.out]; omega)] at this
        clear hk'
        cases over
        · go_wp2
          go_ret2
          exact ⟨ret_rd (by rw [he.out.2]; rfl) (by rw [he.out.1]; rfl), rfl⟩
        · go_wp2
          go_ret2
          exact ⟨ret_rd (by rw [he.out.2]; rfl) (by rw [he.out.1]; rfl), rfl⟩
end Go.Proofs.Ytgcbipflmhbpcaa
set_option linter.unusedVariables false
set_option linter.unusedSimpArgs false
namespace Go.Proofs.Ytgcbipflmhbpcaa
open Go.RowKit
theorem read_lit (s : ByteArray) (b m : Int) (base most : Nat) (w : World) (l : List UInt8) (hs : s.size ≤ 9223372036854775807) (eb : b = base) (em : m = most) (hb : 2 ≤ base) (hb2 : base ≤ 16) (hm : 16 ≤ most) (hm2 : most < 18446744073709551616) (hl : s.data.toList = l) :
    Calls Try.prog 49 #[.string s, .int .i64 b, .int .u64 m] w fun e w' =>
      e = .returned (.tuple #[.int .u64 (rdN base most l : Nat), .int .i64 (rdE base most l)]) ∧ w' = w := by
  subst eb em hl
  exact read_any s base most w hs hb hb2 hm hm2
def M63 : Nat := 9223372036854775808
def L63 : Nat := 9223372036854775807
/-- what Decimal comes to -/
def decD : List UInt8 → Int × Int
  | [] => (0, 40)
  | c :: t => if c = 45 then (-(rdN 10 M63 t : Int), rdE 10 M63 t) else if c = 43 then ((rdN 10 L63 t : Int), rdE 10 L63 t) else ((rdN 10 L63 (c :: t) : Int), rdE 10 L63 (c :: t))
theorem rdN_le (base most : Nat) (l : List UInt8) : rdN base most l ≤ most := by
  unfold rdN rdE
  repeat' split
  all_goals first | omega | simp_all
theorem int_of_u64 (n : Nat) (h : n ≤ L63) : wrap64 (n : Int) = n := by unfold L63 at h; exact IntWalk.wrap64_in _ ⟨by omega, by omega⟩
theorem neg_u64 (n : Nat) (h : n ≤ M63) : wrap64 (IntKind.u64.wrap (-(n : Int))) = -(n : Int) := by
  unfold M63 at h
  simp only [IntKind.wrap_u64, wrap64]
  omega
theorem ret_ii {a b c d : Int} (h : a = c) (h' : b = d) : Ending.returned (.tuple #[.int .i64 a, .int .i64 b]) = .returned (.tuple #[.int .i64 c, .int .i64 d]) := by rw [h, h']
theorem byte_ne {c : UInt8} {k : Nat} (hk : k < 256) (h : ¬ c.toNat = k) : ¬ c = UInt8.ofNat k := by
  intro e
  rw [e] at h
  apply h
  simp
  omega
theorem byte_eq {c : UInt8} {k : Nat} (h : c.toNat = k) : c = UInt8.ofNat k := by
  rw [← h]; simp
theorem decD_nil {l : List UInt8} (h : l = []) : decD l = (0, 40) := by rw [h]; rfl
theorem decD_minus {l t : List UInt8} {c : UInt8} (hl : l = c :: t) (h : c.toNat = 45) : decD l = (-(rdN 10 M63 t : Int), rdE 10 M63 t) := by
  rw [hl]
  show (if c = 45 then _ else _) = _
  rw [if_pos (show c = 45 from byte_eq h)]
theorem decD_plus {l t : List UInt8} {c : UInt8} (hl : l = c :: t) (h : c.toNat = 43) : decD l = ((rdN 10 L63 t : Int), rdE 10 L63 t) := by
  rw [hl]
  show (if c = 45 then _ else _) = _
  rw [if_neg (show ¬ c = 45 from byte_ne (k := 45) (by omega) (by omega)), if_pos (show c = 43 from byte_eq h)]
theorem decD_other {l t : List UInt8} {c : UInt8} (hl : l = c :: t) (h : ¬ c.toNat = 45) (h2 : ¬ c.toNat = 43) : decD l = ((rdN 10 L63 l : Int), rdE 10 L63 l) := by
  rw [hl]
  show (if c = 45 then _ else _) = _
  rw [if_neg (show ¬ c = 45 from byte_ne (k := 45) (by omega) h), if_neg (show ¬ c = 43 from byte_ne (k := 43) (by omega) h2)]
set_option maxHeartbeats 800000 in
theorem decimal_any (s : ByteArray) (w : World) (hs : s.size ≤ 9223372036854775807) :
    Calls Try.prog 31 #[.string s] w fun e w' => e = .returned (.tuple #[.int .i64 (decD s.data.toList).1, .int .i64 (decD s.data.toList).2]) ∧ w' = w := by
  have hn1' := Lib.hid (rdN_le 10 L63)
  have hn2' := Lib.hid (rdN_le 10 M63)
  have hlen : s.data.toList.length = s.size := by rw [Array.length_toList]; rfl
  have hcut : ∀ l : List UInt8, ((⟨l.toArray⟩ : ByteArray).data.toList = l ∧ (⟨l.toArray⟩ : ByteArray).size = l.length) := fun l => ⟨rfl, rfl⟩
  by_cases h1 : Lib.hasPrefix s.data.toList [45] = true
  · have hD : Hid (decD s.data.toList = (-(rdN 10 M63 (s.data.toList.tail) : Int), rdE 10 M63 (s.data.toList.tail)) ∧ Lib.trimPrefix s.data.toList [45] = s.data.toList.tail) := by
      refine Lib.hid ⟨?_, by unfold Lib.trimPrefix; rw [if_pos h1]; exact List.drop_one⟩
      cases hc : s.data.toList with
      | nil => rw [hc] at h1; simp [Lib.hasPrefix] at h1
      | cons c t =>
        rw [hc] at h1
        simp [Lib.hasPrefix] at h1
        exact decD_minus rfl (by rw [← h1]; rfl)
    have hsz : (s.data.toList.tail).length ≤ 9223372036854775807 := by simp only [List.length_tail]; omega
    go_enter Try.func31, Try.ntmps31
    go_wp2_with fail
    refine (Try.strings_CutPrefix _ _ _).mono ?_
    rintro e w' ⟨rfl, rfl⟩
    rw [show (⟨#[45]⟩ : ByteArray).data.toList = [45] from rfl, h1, hD.out.2]
    go_wp2_with fail
    refine (read_lit ⟨(s.data.toList.tail).toArray⟩ _ _ 10 M63 _ (s.data.toList.tail) hsz rfl rfl (by omega) (by omega) (by decide) (by decide) rfl).mono ?_
    rintro e w' ⟨rfl, rfl⟩
    go_wp2
    go_ret2
    exact ⟨ret_ii (by rw [hD.out.1]; exact neg_u64 _ (hn2'.out _)) (by rw [hD.out.1]), rfl⟩
  · have h1' : Lib.hasPrefix s.data.toList [45] = false := by simpa using h1
    have hT1 : Hid (Lib.trimPrefix s.data.toList [45] = s.data.toList) := by unfold Lib.trimPrefix; rw [if_neg h1]; exact Lib.hid rfl
    have hn45 : ∀ c t, s.data.toList = c :: t → ¬ c.toNat = 45 := by
      intro c t hc h
      rw [hc] at h1
      apply h1
      rw [byte_eq h]
      simp [Lib.hasPrefix]
    have hn45' := Lib.hid hn45
    clear hn45
    by_cases h2 : Lib.hasPrefix s.data.toList [43] = true
    · have hD : Hid (decD s.data.toList = ((rdN 10 L63 (s.data.toList.tail) : Int), rdE 10 L63 (s.data.toList.tail)) ∧ Lib.trimPrefix s.data.toList [43] = s.data.toList.tail) := by
        refine Lib.hid ⟨?_, by unfold Lib.trimPrefix; rw [if_pos h2]; exact List.drop_one⟩
        cases hc : s.data.toList with
        | nil => rw [hc] at h2; simp [Lib.hasPrefix] at h2
        | cons c t =>
          rw [hc] at h2
          simp [Lib.hasPrefix] at h2
          exact decD_plus rfl (by rw [← h2]; rfl)
      have hsz : (s.data.toList.tail).length ≤ 9223372036854775807 := by simp only [List.length_tail]; omega
      clear h1
      go_enter Try.func31, Try.ntmps31
      go_wp2_with fail
      refine (Try.strings_CutPrefix _ _ _).mono ?_
      rintro e w' ⟨rfl, rfl⟩
      rw [show (⟨#[45]⟩ : ByteArray).data.toList = [45] from rfl, h1', hT1.out]
      go_wp2_with fail
      refine (Try.strings_CutPrefix _ _ _).mono ?_
      rintro e w' ⟨rfl, rfl⟩
      rw [show (⟨#[43]⟩ : ByteArray).data.toList = [43] from rfl, h2, hD.out.2]
      go_wp2_with fail
      refine (read_lit ⟨(s.data.toList.tail).toArray⟩ _ _ 10 L63 _ (s.data.toList.tail) hsz rfl rfl (by omega) (by omega) (by decide) (by decide) rfl).mono ?_
      rintro e w' ⟨rfl, rfl⟩
      go_wp2
      go_ret2
      exact ⟨ret_ii (by rw [hD.out.1]; exact int_of_u64 _ (hn1'.out _)) (by rw [hD.out.1]), rfl⟩
    · have h2' : Lib.hasPrefix s.data.toList [43] = false := by simpa using h2
      have hT2 : Hid (Lib.trimPrefix s.data.toList [43] = s.data.toList) := by unfold Lib.trimPrefix; rw [if_neg h2]; exact Lib.hid rfl
      have hD : Hid (decD s.data.toList = ((rdN 10 L63 s.data.toList : Int), rdE 10 L63 s.data.toList)) := by
        refine Lib.hid ?_
        cases hc : s.data.toList with
        | nil => rw [decD_nil rfl, (rd_nil 10 L63).1, (rd_nil 10 L63).2]; rfl
        | cons c t =>
          refine decD_other rfl (hn45'.out c t hc) ?_
          intro h
          rw [hc] at h2
          apply h2
          rw [byte_eq h]
          simp [Lib.hasPrefix]
      have hsz : (s.data.toList).length ≤ 9223372036854775807 := by omega
      clear h1 h2
      go_enter Try.func31, Try.ntmps31
      go_wp2_with fail
      refine (Try.strings_CutPrefix _ _ _).mono ?_
      rintro e w' ⟨rfl, rfl⟩
      rw [show (⟨#[45]⟩ : ByteArray).data.toList = [45] from rfl, h1', hT1.out]
      go_wp2_with fail
      refine (Try.strings_CutPrefix _ _ _).mono ?_
      rintro e w' ⟨rfl, rfl⟩
      rw [show (⟨#[43]⟩ : ByteArray).data.toList = [43] from rfl, h2', hT2.out]
      go_wp2_with fail
      refine (read_lit _ _ _ 10 L63 _ s.data.toList hsz rfl rfl (by omega) (by omega) (by decide) (by decide) rfl).mono ?_
      rintro e w' ⟨rfl, rfl⟩
      go_wp2
      go_ret2
      exact ⟨ret_ii (by rw [hD.out]; exact int_of_u64 _ (hn1'.out _)) (by rw [hD.out]), rfl⟩
end Go.Proofs.Ytgcbipflmhbpcaa
set_option linter.unusedVariables false
set_option linter.unusedSimpArgs false
namespace Go.Proofs.Ytgcbipflmhbpcaa
open Go.RowKit
theorem digs_len (b : Nat) (hb : 2 ≤ b) (k : Nat) : ∀ n, n < 2 ^ (k + 1) → (digs b n).length ≤ k + 1 := by
  induction k with
  | zero =>
    intro n hn
    rw [digs]
    rw [if_pos (by omega)]
    simp
  | succ k ih =>
    intro n hn
    rw [digs]
    split
    · simp
    · rw [List.length_append]
      have : n / b < 2 ^ (k + 1) := by
        have h1 : n / b ≤ n / 2 := Nat.div_le_div_left hb (by omega)
        rw [Nat.pow_succ] at hn
        omega
      have := ih _ this
      simp
      omega
theorem baseS_size (b n : Nat) (hn : n < 18446744073709551616) : (baseS b n).size ≤ 64 := by
  unfold baseS
  split
  · simp [ByteArray.size]
  · rw [strOfNums_size]
    exact digs_len b (by omega) 63 n hn
def textS (n : Int) : ByteArray := if n < 0 then ⟨#[45]⟩ ++ baseS 10 n.natAbs else baseS 10 n.natAbs
theorem base_lit (n b : Int) (k c : Nat) (w : World) (hn : n = k) (hb : b = c) (h1 : k < 18446744073709551616) :
    Calls Try.prog 44 #[.int .u64 n, .int .i64 b] w fun e w' => e = .returned (.string (baseS c k)) ∧ Below w.heap.size w w' := by
  subst hn hb
  exact base_any k c w h1
set_option maxHeartbeats 800000 in
theorem text_any (n : Int) (w : World) (h1 : -9223372036854775808 ≤ n) (h2 : n ≤ 9223372036854775807) :
    Calls Try.prog 28 #[.int .i64 n] w fun e w' => e = .returned (.string (textS n)) ∧ Below w.heap.size w w' := by
  by_cases h : n < 0
  · have hD : Hid (textS n = ⟨#[45]⟩ ++ baseS 10 n.natAbs) := by unfold textS; rw [if_pos h]; exact Lib.hid rfl
    have hsz := baseS_size 10 n.natAbs (by omega)
    go_enter Try.func28, Try.ntmps28
    go_wp2_with fail
    refine (base_lit _ _ n.natAbs 10 _ (by omega) rfl (by omega)).mono ?_
    rintro e w' ⟨rfl, hb⟩
    go_wp2
    go_ret
    exact ⟨ret_str hD.out.symm, hb⟩
  · have hD : Hid (textS n = baseS 10 n.natAbs) := by unfold textS; rw [if_neg h]; exact Lib.hid rfl
    go_enter Try.func28, Try.ntmps28
    go_wp2_with fail
    refine (base_lit _ _ n.natAbs 10 _ (by omega) rfl (by omega)).mono ?_
    rintro e w' ⟨rfl, hb⟩
    go_wp2
    go_ret
    exact ⟨ret_str hD.out.symm, hb⟩
end Go.Proofs.Ytgcbipflmhbpcaa
set_option linter.unusedVariables false
set_option linter.unusedSimpArgs false
namespace Go.Proofs.Ytgcbipflmhbpcaa
open Go
def asB (l : List UInt8) : ByteArray := ⟨l.toArray⟩
end Go.Proofs.Ytgcbipflmhbpcaa
namespace Go.Proofs.Ytgcbipflmhbpcaa
open Go.RowKit Go.Proofs.YtgcbipflmhbpcaaW.PrintWords
def num_Decimal.f (a0 : ByteArray) : Option (Int × Int) := if a0.size ≤ 9223372036854775807 then some (decD a0.data.toList) else none
theorem num_Decimal.calls (a0 : ByteArray) (r1 r2 : Int) (w : World) (h : num_Decimal.f a0 = some (r1, r2)) :
    Calls Try.prog 31 #[.string a0] w fun e w' => e = .returned (.tuple #[.int .i64 r1, .int .i64 r2]) ∧ Drawn0 w w' := by
  unfold num_Decimal.f at h
  split at h
  · rename_i hs
    have h := Option.some.inj h
    refine (decimal_any a0 w hs).mono ?_
    rw [h]
    rintro e w' ⟨rfl, rfl⟩
    exact ⟨rfl, Drawn0.refl _⟩
  · cases h
def num_Text.f (a0 : Int) : Option ByteArray := if -9223372036854775808 ≤ a0 ∧ a0 ≤ 9223372036854775807 then some (textS a0) else none
theorem num_Text.calls (a0 : Int) (r : ByteArray) (w : World) (h : num_Text.f a0 = some r) :
    Calls Try.prog 28 #[.int .i64 a0] w fun e w' => e = .returned (.string r) ∧ Below w.heap.size w w' := by
  unfold num_Text.f at h
  split at h
  · rename_i hs
    cases h
    exact text_any a0 w hs.1 hs.2
  · cases h
def strings_Join.f (l0 : List ByteArray) (a1 : ByteArray) : Option ByteArray :=
  if l0.length ≤ 140737488355328 ∧ (Lib.join (l0.map (·.data.toList)) a1.data.toList).length ≤ 140737488355328 then some (asB (Lib.join (l0.map (·.data.toList)) a1.data.toList)) else none
theorem strings_Join.calls (A0 : Option Addr) (c0 : Nat) (l0 : List ByteArray) (a1 : ByteArray) (r : ByteArray) (w : World) (hr0 : Kd.C Kd.string w A0 l0.length l0) (hc0 : l0.length ≤ c0) (h : strings_Join.f l0 a1 = some r) :
    Calls Try.prog 29 #[.slice A0 l0.length c0, .string a1] w fun e w' => e = .returned (.string r) ∧ Below w.heap.size w w' := by
  unfold strings_Join.f at h
  split at h
  · rename_i hs
    cases h
    by_cases h0 : l0 = []
    · subst h0
      refine (Try.strings_Join_none A0 c0 a1 w).mono ?_
      rintro e w' ⟨rfl, rfl⟩
      exact ⟨rfl, Below.refl _ _⟩
    · have hpos := List.length_pos_iff.2 h0
      obtain ⟨ad, rfl, hcell⟩ := hr0.2.2 hpos
      have hat : ∀ (j : Nat) x, l0[j]? = some x → w.cell? (ad.add j) = some (.string x) := fun j x hx => by
        obtain ⟨c, _, hc, hu⟩ := hcell j x hx
        have hc' : c = [Value.string x] := hc
        have h1 := hu 0 (.string x) (by rw [hc']; rfl)
        rw [show (Kd.string).sz = 1 from rfl, Nat.mul_one, Nat.add_zero] at h1
        exact h1
      obtain ⟨x0, hx0⟩ : ∃ x0, l0[0]? = some x0 := ⟨l0[0], List.getElem?_eq_getElem hpos⟩
      have h00 := hat 0 x0 hx0
      have hsp : ad.spot = none ∧ ad.block < w.heap.size := by
        simp only [Addr.add, if_true, World.cell?] at h00
        split at h00
        · rename_i c t f hb
          cases hsq : ad.spot with
          | none => exact ⟨rfl, (Array.getElem?_eq_some_iff.1 hb).1⟩
          | some z => rw [hsq] at h00; simp at h00
        · cases h00
      obtain ⟨b, o, sp⟩ := ad
      obtain ⟨rfl, hb⟩ := hsp
      refine Try.strings_Join b o c0 l0 a1 w (fun j x hx => ?_) hb hs.1 hc0 hs.2
      have := hat j x hx
      unfold Addr.add at this
      split at this
      · rename_i hj; subst hj; exact this
      · exact this
  · cases h
end Go.Proofs.Ytgcbipflmhbpcaa
set_option linter.unusedVariables false
set_option linter.unusedSimpArgs false
namespace Go.Proofs.Ytgcbipflmhbpcaa
open Go.RowKit Go.Proofs.YtgcbipflmhbpcaaW.PrintWords Go.Proofs.YtgcbipflmhbpcaaW.PrintLast Go.Proofs.YtgcbipflmhbpcaaW.PrintMore
set_option maxHeartbeats 2000000 in
set_option maxRecDepth 100000 in
theorem wdigit_any (c : Int) (w : World) : Calls Try.prog 30 #[.int .u8 c] w fun e w' => e = .returned (.bool (decide (48 ≤ c) && decide (c ≤ 57))) ∧ w' = w := by
  by_cases h1 : 48 ≤ c
  · have k1 : decide (48 ≤ c) = true := decide_eq_true h1
    go_enter Try.func30, Try.ntmps30
    go_wp2
    go_ret
    exact ⟨by first | rfl | (rw [k1]; rfl), rfl⟩
  · have k1 : decide (48 ≤ c) = false := decide_eq_false h1
    go_enter Try.func30, Try.ntmps30
    go_wp2
    go_ret
    exact ⟨by first | rfl | (rw [k1]; rfl), rfl⟩
theorem wdigit_yes (c : Int) (h : 48 ≤ c ∧ c ≤ 57) (w : World) : Calls Try.prog 30 #[.int .u8 c] w fun e w' => e = .returned (.bool true) ∧ w' = w :=
  (wdigit_any c w).mono (fun e w' h' => ⟨by rw [h'.1, decide_eq_true h.1, decide_eq_true h.2]; rfl, h'.2⟩)
set_option maxHeartbeats 2000000 in
set_option maxRecDepth 100000 in
theorem shift_ok (B : Nat) (w : World) (g : Nat) (V : List (ByteArray × ByteArray)) (A : List ByteArray) (st : Int) (vv va : Value) (ht : Tab B w g V A st vv va) (hB : B ≤ w.heap.size) (hA : A.length ≤ 1000000000000) (n : Nat) (hn : n ≤ A.length) :
    Calls Try.prog 20 #[.pointer (some ⟨g, 0, none⟩), .int .i64 n] w fun e w' => e = .returned (.bool true) ∧ Frm (fun k => k = g) w w' ∧ ∃ va', Tab B w' g V (A.drop n) st vv va' := by
  obtain ⟨A1, c1, rfl⟩ := own_slice ht.oa
  have d1 : w.cell? ⟨g, 1, none⟩ = some (.slice A1 A.length c1) := (blk_cell ht.bt 1).trans rfl
  have k0 : decide ((n : Int) < 0) = false := decide_eq_false (by omega)
  have k1 : decide ((A.length : Int) < (n : Int)) = false := decide_eq_false (by omega)
  have kn : ¬ A.length < n := by omega
  have HLIE := Lies.of_own ht.oa
  have HC := own_cap ht.oa
  have HT := Lib.hid ht
  have HBB := Lib.hid hB
  have HA := Lib.hid hA
  have HLN : Hid ((A.drop n).length = A.length - n) := Lib.hid (List.length_drop ..)
  by_cases hcn : c1 = n
  · have HLI : Hid (Lies w A1 (cellsS (A.drop n))) := Lib.hid (.inl (by rw [List.drop_of_length_le (by omega)]; rfl))
    have hz : c1 - n = 0 := by omega
    clear ht hB hn hA HLIE HC
    go_enter Try.func20, Try.ntmps20
    go_wp2_with (go_at_call 42; (with_reducible refine (copyS_any A1 (A.length - n) _ (cellsS (A.drop n)) _ ((cellsS_len _).trans HLN.out) HLI.out (cellsS_one _) (by have := HA.out; omega)).mono ?_); rintro e w1 ⟨v1, rfl, ho, hb⟩; obtain ⟨A2, c2, e1⟩ := own_slice ho; subst e1; have HO := Lib.hid (own_weaken ho HBB.out); have HB1 := Lib.hid hb; have HT1 := Lib.hid (HT.out.frm hb); clear ho hb d1; have d1 : w1.cell? ⟨g, 1, none⟩ = some (.slice A1 A.length c1) := (blk_cell HT1.out.bt 1).trans rfl; have f1 := blk_frozen HT1.out.bt 1)
    go_ret
    exact ⟨rfl, (Frm.of_below HB1.out).setCell _ _ (fun _ => rfl), _, HT1.out.setA (by rw [HLN.out]; exact HO.out)⟩
  · have HLI : Hid (Lies w (A1.map fun x => x.add n) (cellsS (A.drop n))) := Lib.hid (by
      have e : cellsS (A.drop n) = (cellsS A).drop n := by unfold cellsS; rw [List.map_drop]
      rw [e]
      cases A1 with
      | none =>
        rcases HLIE with h | ⟨_, e, _⟩
        · left; rw [h]; simp
        · cases e
      | some ad => exact HLIE.drop n)
    clear ht hB hn hA HLIE HC
    go_enter Try.func20, Try.ntmps20
    go_wp2_with (go_at_call 42; (with_reducible refine (copyS_any (A1.map fun x => x.add n) (A.length - n) _ (cellsS (A.drop n)) _ ((cellsS_len _).trans HLN.out) HLI.out (cellsS_one _) (by have := HA.out; omega)).mono ?_); rintro e w1 ⟨v1, rfl, ho, hb⟩; obtain ⟨A2, c2, e1⟩ := own_slice ho; subst e1; have HO := Lib.hid (own_weaken ho HBB.out); have HB1 := Lib.hid hb; have HT1 := Lib.hid (HT.out.frm hb); clear ho hb d1; have d1 : w1.cell? ⟨g, 1, none⟩ = some (.slice A1 A.length c1) := (blk_cell HT1.out.bt 1).trans rfl; have f1 := blk_frozen HT1.out.bt 1)
    go_ret
    exact ⟨rfl, (Frm.of_below HB1.out).setCell _ _ (fun _ => rfl), _, HT1.out.setA (by rw [HLN.out]; exact HO.out)⟩
/-- what a table tells by #, by @, by a number -/
theorem Tab.str {B : Nat} {w : World} {g : Nat} {V : List (ByteArray × ByteArray)} {A : List ByteArray} {st : Int} {vv : Value} {A1 : Option Addr} {c1 : Nat} (h : Tab B w g V A st vv (.slice A1 A.length c1)) : Kd.string.C w A1 A.length A := by
  have := (own_reads_of_le (enc := Value.string) (d := ByteArray.empty) h.oa)
  obtain ⟨A2, c2, e, _, hr⟩ := this
  cases e
  exact Kd.C_of_reads hr
set_option maxHeartbeats 2000000 in
set_option maxRecDepth 100000 in
theorem get_count (B : Nat) (w : World) (g : Nat) (V : List (ByteArray × ByteArray)) (A : List ByteArray) (st : Int) (vv va : Value) (ht : Tab B w g V A st vv va) (hA : A.length ≤ 1000000000000) :
    Calls Try.prog 13 #[.pointer (some ⟨g, 0, none⟩), .string ⟨#[35]⟩] w fun e w' => e = .returned (.tuple #[.string (textS A.length), .bool true]) ∧ Below w.heap.size w w' := by
  obtain ⟨A1, c1, rfl⟩ := own_slice ht.oa
  have d1 : w.cell? ⟨g, 1, none⟩ = some (.slice A1 A.length c1) := (blk_cell ht.bt 1).trans rfl
  have HX : Hid (num_Text.f (A.length : Int) = some (textS A.length)) := Lib.hid (by unfold num_Text.f; rw [if_pos ⟨by omega, by omega⟩])
  clear ht hA
  go_enter Try.func13, Try.ntmps13
  go_wp2_with (go_at_call 28; (with_reducible refine (num_Text.calls _ _ _ HX.out).mono ?_); rintro e w1 ⟨rfl, hb⟩; have HB1 := Lib.hid hb; clear hb)
  go_ret2
  exact ⟨rfl, HB1.out⟩
set_option maxHeartbeats 2000000 in
set_option maxRecDepth 100000 in
theorem get_num (B : Nat) (w : World) (g : Nat) (V : List (ByteArray × ByteArray)) (A : List ByteArray) (st : Int) (vv va : Value) (ht : Tab B w g V A st vv va) (hA : A.length ≤ 1000000000000) (d : UInt8) (k : Nat) (hd : d = 49 ∧ k = 0 ∨ d = 50 ∧ k = 1) (hk : k < A.length) :
    Calls Try.prog 13 #[.pointer (some ⟨g, 0, none⟩), .string ⟨#[d]⟩] w fun e w' => e = .returned (.tuple #[.string A[k], .bool true]) ∧ Below w.heap.size w w' := by
  obtain ⟨A1, c1, rfl⟩ := own_slice ht.oa
  have d1 : w.cell? ⟨g, 1, none⟩ = some (.slice A1 A.length c1) := (blk_cell ht.bt 1).trans rfl
  have HX : Hid (num_Decimal.f ⟨#[d]⟩ = some ((k : Int) + 1, 0)) := Lib.hid (by rcases hd with ⟨rfl, rfl⟩ | ⟨rfl, rfl⟩ <;> (unfold num_Decimal.f; decide +kernel))
  obtain ⟨ad, ea, hx⟩ := Kd.at_string ht.str (k : Int) (by omega) (by omega)
  cases ea
  have hrd : rdOf ByteArray.empty A (k : Int) = A[k] := by
    unfold rdOf; rw [Int.toNat_natCast, List.getD_eq_getElem?_getD, List.getElem?_eq_getElem hk]; rfl
  rw [hrd, Int.toNat_natCast] at hx
  generalize A[k] = s at hx ⊢
  have HA : Hid (A.length ≤ 1000000000000 ∧ k < A.length) := Lib.hid ⟨hA, hk⟩
  rcases hd with ⟨rfl, rfl⟩ | ⟨rfl, rfl⟩
  · have j0 : decide ((1 : Int) < 1) = false := rfl
    have j1 : decide ((A.length : Int) < 1) = false := decide_eq_false (by omega)
    have j2 : decide ((0 : Int) < (A.length : Int)) = true := decide_eq_true (by omega)
    rw [Addr.add_zero'] at hx
    clear ht hA hrd
    go_enter Try.func13, Try.ntmps13
    go_wp2_with (first | (go_at_call 30; (with_reducible refine (wdigit_yes _ (by decide) _).mono ?_); rintro e w1 ⟨rfl, rfl⟩) | (go_at_call 31; (with_reducible refine (num_Decimal.calls _ _ _ _ HX.out).mono ?_); rintro e w1 ⟨rfl, hb⟩; obtain ⟨m, rfl⟩ := hb.out))
    go_ret2
    exact ⟨rfl, rfl, rfl, rfl, Nat.le_refl _, fun _ _ => rfl⟩
  · have j0 : decide ((2 : Int) < 1) = false := rfl
    have j1 : decide ((A.length : Int) < 2) = false := decide_eq_false (by omega)
    have j2 : decide ((1 : Int) < (A.length : Int)) = true := decide_eq_true (by omega)
    have hx' : w.cell? ⟨ad.block, ad.off + 1, none⟩ = some (.string s) := hx
    clear ht hA hrd
    go_enter Try.func13, Try.ntmps13
    go_wp2_with (first | (go_at_call 30; (with_reducible refine (wdigit_yes _ (by decide) _).mono ?_); rintro e w1 ⟨rfl, rfl⟩) | (go_at_call 31; (with_reducible refine (num_Decimal.calls _ _ _ _ HX.out).mono ?_); rintro e w1 ⟨rfl, hb⟩; obtain ⟨m, rfl⟩ := hb.out))
    go_ret2
    exact ⟨rfl, rfl, rfl, rfl, Nat.le_refl _, fun _ _ => rfl⟩
end Go.Proofs.Ytgcbipflmhbpcaa
set_option linter.unusedVariables false
set_option linter.unusedSimpArgs false
namespace Go.Proofs.Ytgcbipflmhbpcaa
open Go.RowKit Go.Proofs.YtgcbipflmhbpcaaW.PrintWords Go.Proofs.YtgcbipflmhbpcaaW.PrintLast
section
variable {P : Program} {md : Region.Mode} {ops : Array Oper} {Q : Exit → Act → World → Prop} {S : World → Prop} {ds : List Nat}
/-- a step of a region that draws its order; what is listed is told by the step -/
theorem takeS_ (i : Nat) {N : Option Tmp} {oi : Oper} {v : Value} {fuel : Nat} {l : Array Bool} {a : Act} {w : World} (hi : ops[i]? = some oi) (hN : oi.dst = N) (hc : takeB md ops ds l (l.setIfInBounds i true) i = true)
    (hQ : ∀ c a w, Q (.panic c) (a.put oi.dst v) w → Q (.panic c) a w) (hy : YieldsIf P ops S oi v a) (hS : S w) {a' : Act} (ha : a.put N v = a')
    (h : wpAnyLast P md ops Q S ds fuel (l.setIfInBounds i true) a' w) : wpAnyLast P md ops Q S ds (fuel + 1) l a w := take_ _ hi hN hc hQ hy hS ha h
theorem oneS_ (i : Nat) {N : Option Tmp} {oi : Oper} {fuel : Nat} {l : Array Bool} {a : Act} {w : World} (hi : ops[i]? = some oi) (hN : oi.dst = N) (hc : readyB md ops l (l.setIfInBounds i true) i = true) (hd : i ∉ ds)
    (h : ∀ K : Act → World → Prop, Shut (∀ a' w', S w' → (S w' → wpAnyLast P md ops Q S ds fuel (l.setIfInBounds i true) a' w') → K a' w') → if Region.wanted oi (yielded ops a.tmps) = true then Oper.wp P oi a w K Q else K (a.put N undef) w) :
    wpAnyLast P md ops Q S ds (fuel + 1) l a w :=
  one_ (l.setIfInBounds i true) hi hN hc hd h
end
end Go.Proofs.Ytgcbipflmhbpcaa
set_option linter.unusedVariables false
set_option linter.unusedSimpArgs false
namespace Go.Proofs.Ytgcbipflmhbpcaa
open Go.RowKit Go.Proofs.YtgcbipflmhbpcaaW.PrintWords Go.Proofs.YtgcbipflmhbpcaaW.PrintLast Go.Proofs.YtgcbipflmhbpcaaW.PrintMore
set_option maxHeartbeats 2000000 in
set_option maxRecDepth 100000 in
theorem get_all (B : Nat) (w : World) (g : Nat) (V : List (ByteArray × ByteArray)) (A : List ByteArray) (st : Int) (vv va : Value) (ht : Tab B w g V A st vv va) (r : ByteArray) (hr : strings_Join.f A ⟨#[32]⟩ = some r) (hpos : 0 < A.length) :
    Calls Try.prog 13 #[.pointer (some ⟨g, 0, none⟩), .string ⟨#[64]⟩] w fun e w' => e = .returned (.tuple #[.string r, .bool true]) ∧ Below w.heap.size w w' := by
  obtain ⟨A1, c1, rfl⟩ := own_slice ht.oa
  have HS := Lib.hid ht.str
  have HC := Lib.hid (own_cap ht.oa)
  have HT := Lib.hid ht
  have HR := Lib.hid hr
  have j0 : decide (0 < A.length) = true := decide_eq_true hpos
  have d1 : w.cell? ⟨g, 1, none⟩ = some (.slice A1 A.length c1) := (blk_cell ht.bt 1).trans rfl
  clear ht hr hpos
  go_enter Try.func13, Try.ntmps13
  go_wp2
  refine start_ (n := 13) (S := (fun w' => w'.cell? ⟨g, 1, none⟩ = some (.slice A1 A.length c1))) (ds := []) #[false, false, false, false, false, false, false, false, false, false, false, false, false] (by kernel_rfl) rfl rfl d1 (fun hHeld => ?_)
  iterate 5 (first | ((first | refine takeS_ 0 (N := some 38) (v := ?_) (a' := ?_) rfl rfl (by decide +kernel) (fun _ _ _ h => h) (Or.inl ⟨by rfl, ?_⟩) hHeld ?_ ?_ | refine takeS_ 1 (N := some 39) (v := ?_) (a' := ?_) rfl rfl (by decide +kernel) (fun _ _ _ h => h) (Or.inl ⟨by rfl, ?_⟩) hHeld ?_ ?_ | refine takeS_ 2 (N := some 40) (v := ?_) (a' := ?_) rfl rfl (by decide +kernel) (fun _ _ _ h => h) (Or.inl ⟨by rfl, ?_⟩) hHeld ?_ ?_ | refine takeS_ 3 (N := some 41) (v := ?_) (a' := ?_) rfl rfl (by decide +kernel) (fun _ _ _ h => h) (Or.inl ⟨by rfl, ?_⟩) hHeld ?_ ?_ | refine takeS_ 5 (N := some 43) (v := ?_) (a' := ?_) rfl rfl (by decide +kernel) (fun _ _ _ h => h) (Or.inl ⟨by rfl, ?_⟩) hHeld ?_ ?_); rotate_left; (rintro w' (s0); go_simp; first | done | (with_reducible rfl) | rfl); rotate_left; (simp only [Act.put, List.setIfInBounds_toArray, List.set_cons_zero, List.set_cons_succ, i64_w, i32_w]; rfl)) | ((first | refine takeS_ 0 (N := some 38) (v := undef) (a' := ?_) rfl rfl (by decide +kernel) (fun _ _ _ h => h) (Or.inr ⟨by rfl, rfl⟩) hHeld ?_ ?_ | refine takeS_ 1 (N := some 39) (v := undef) (a' := ?_) rfl rfl (by decide +kernel) (fun _ _ _ h => h) (Or.inr ⟨by rfl, rfl⟩) hHeld ?_ ?_ | refine takeS_ 2 (N := some 40) (v := undef) (a' := ?_) rfl rfl (by decide +kernel) (fun _ _ _ h => h) (Or.inr ⟨by rfl, rfl⟩) hHeld ?_ ?_ | refine takeS_ 3 (N := some 41) (v := undef) (a' := ?_) rfl rfl (by decide +kernel) (fun _ _ _ h => h) (Or.inr ⟨by rfl, rfl⟩) hHeld ?_ ?_ | refine takeS_ 5 (N := some 43) (v := undef) (a' := ?_) rfl rfl (by decide +kernel) (fun _ _ _ h => h) (Or.inr ⟨by rfl, rfl⟩) hHeld ?_ ?_); rotate_left; (simp only [Act.put, List.setIfInBounds_toArray, List.set_cons_zero, List.set_cons_succ, i64_w, i32_w]; rfl)))
  iterate 5 (first | ((first | refine takeS_ 6 (N := some 44) (v := ?_) (a' := ?_) rfl rfl (by decide +kernel) (fun _ _ _ h => h) (Or.inl ⟨by rfl, ?_⟩) hHeld ?_ ?_ | refine takeS_ 7 (N := some 45) (v := ?_) (a' := ?_) rfl rfl (by decide +kernel) (fun _ _ _ h => h) (Or.inl ⟨by rfl, ?_⟩) hHeld ?_ ?_ | refine takeS_ 8 (N := some 46) (v := ?_) (a' := ?_) rfl rfl (by decide +kernel) (fun _ _ _ h => h) (Or.inl ⟨by rfl, ?_⟩) hHeld ?_ ?_ | refine takeS_ 9 (N := some 47) (v := ?_) (a' := ?_) rfl rfl (by decide +kernel) (fun _ _ _ h => h) (Or.inl ⟨by rfl, ?_⟩) hHeld ?_ ?_ | refine takeS_ 10 (N := some 48) (v := ?_) (a' := ?_) rfl rfl (by decide +kernel) (fun _ _ _ h => h) (Or.inl ⟨by rfl, ?_⟩) hHeld ?_ ?_); rotate_left; (rintro w' (s0); go_simp; first | done | (with_reducible rfl) | rfl); rotate_left; (simp only [Act.put, List.setIfInBounds_toArray, List.set_cons_zero, List.set_cons_succ, i64_w, i32_w]; rfl)) | ((first | refine takeS_ 6 (N := some 44) (v := undef) (a' := ?_) rfl rfl (by decide +kernel) (fun _ _ _ h => h) (Or.inr ⟨by rfl, rfl⟩) hHeld ?_ ?_ | refine takeS_ 7 (N := some 45) (v := undef) (a' := ?_) rfl rfl (by decide +kernel) (fun _ _ _ h => h) (Or.inr ⟨by rfl, rfl⟩) hHeld ?_ ?_ | refine takeS_ 8 (N := some 46) (v := undef) (a' := ?_) rfl rfl (by decide +kernel) (fun _ _ _ h => h) (Or.inr ⟨by rfl, rfl⟩) hHeld ?_ ?_ | refine takeS_ 9 (N := some 47) (v := undef) (a' := ?_) rfl rfl (by decide +kernel) (fun _ _ _ h => h) (Or.inr ⟨by rfl, rfl⟩) hHeld ?_ ?_ | refine takeS_ 10 (N := some 48) (v := undef) (a' := ?_) rfl rfl (by decide +kernel) (fun _ _ _ h => h) (Or.inr ⟨by rfl, rfl⟩) hHeld ?_ ?_); rotate_left; (simp only [Act.put, List.setIfInBounds_toArray, List.set_cons_zero, List.set_cons_succ, i64_w, i32_w]; rfl)))
  refine oneS_ 4 (N := some 42) rfl rfl (by kernel_rfl) (by decide) (fun K hK => ?_)
  refine goes_ Try.func29 (by kernel_rfl) rfl #[.slice A1 A.length c1, .string ⟨#[32]⟩] (by rfl) rfl rfl (by first | rfl | (simp [Act.eval]; done) | (simp [Act.eval, Act.put]; done)) ?_
  refine (strings_Join.calls A1 c1 A ⟨#[32]⟩ r _ (Kd.C_below HS.out (Below.refl _ w).drew) HC.out HR.out).mono ?_
  rintro e v1 ⟨rfl, hb⟩
  refine ⟨_, rfl, ?_⟩
  have HB1 := Lib.hid (below_step ((Below.refl _ w).drew) hb)
  refine hK.out _ _ ((blk_cell (HT.out.frm HB1.out).bt 1).trans rfl) (fun hHeld => ?_)
  clear hK K
  refine norm_ (a' := ?_) ?_ ?_
  rotate_left
  · show Act.put _ (some 42) _ = _
    simp only [Act.put, List.setIfInBounds_toArray, List.set_cons_zero, List.set_cons_succ, i64_w, i32_w]
    rfl
  iterate 2 (first | ((first | refine takeS_ 11 (N := some 4) (v := ?_) (a' := ?_) rfl rfl (by decide +kernel) (fun _ _ _ h => h) (Or.inl ⟨by rfl, ?_⟩) hHeld ?_ ?_ | refine takeS_ 12 (N := some 5) (v := ?_) (a' := ?_) rfl rfl (by decide +kernel) (fun _ _ _ h => h) (Or.inl ⟨by rfl, ?_⟩) hHeld ?_ ?_); rotate_left; (rintro w' (s0); go_simp; first | done | (with_reducible rfl) | rfl); rotate_left; (simp only [Act.put, List.setIfInBounds_toArray, List.set_cons_zero, List.set_cons_succ, i64_w, i32_w]; rfl)) | ((first | refine takeS_ 11 (N := some 4) (v := undef) (a' := ?_) rfl rfl (by decide +kernel) (fun _ _ _ h => h) (Or.inr ⟨by rfl, rfl⟩) hHeld ?_ ?_ | refine takeS_ 12 (N := some 5) (v := undef) (a' := ?_) rfl rfl (by decide +kernel) (fun _ _ _ h => h) (Or.inr ⟨by rfl, rfl⟩) hHeld ?_ ?_); rotate_left; (simp only [Act.put, List.setIfInBounds_toArray, List.set_cons_zero, List.set_cons_succ, i64_w, i32_w]; rfl)))
  refine done_ (by kernel_rfl) ?_
  go_wp2
  go_ret2
  exact ⟨rfl, HB1.out⟩
theorem setArgs_ok (B : Nat) (w : World) (g : Nat) (V : List (ByteArray × ByteArray)) (A l : List ByteArray) (st : Int) (vv va : Value) (P : Option Addr) (c : Nat) (ht : Tab B w g V A st vv va) (hB : B ≤ w.heap.size) (hl : Kd.string.C w P l.length l) (he : argsE l = 0) :
    Calls Try.prog 19 #[.pointer (some ⟨g, 0, none⟩), .slice P l.length c] w fun e w' => e = .returned (.int .i64 0) ∧ Frm (fun k => k = g) w w' ∧ ∃ va', Tab B w' g V l st vv va' := by
  refine (setArgs_any B w g V A l st vv va P c ht hB hl).mono ?_
  rintro e w' ⟨rfl, hf, va', A', ht', h1, _⟩
  obtain rfl := h1 he
  exact ⟨by rw [he], hf, va', ht'⟩
set_option maxHeartbeats 2000000 in
set_option maxRecDepth 100000 in
theorem new_nil (w : World) (P : Option Addr) (c : Nat) (l : List ByteArray) (hl : Kd.string.C w P l.length l) (he : argsE l = 0) :
    Calls Try.prog 8 #[.slice none 0 0, .slice P l.length c] w fun e w' => ∃ g va, e = .returned (.tuple #[.pointer (some ⟨g, 0, none⟩), .int .i64 0]) ∧ Below w.heap.size w w' ∧ Tab w.heap.size w' g [] l 0 (.slice none 0 0) va := by
  have hu57 := Try.underlying57
  have HL := Lib.hid hl
  have HE := Lib.hid he
  clear hl he
  go_enter Try.func8, Try.ntmps8
  go_wp2_with (first | ((with_reducible refine gate_dst (N := 12) rfl ?_); refine box_event ?hg (N := 12) ?hd (cs := #[.slice none 0 0, .slice none 0 0, .int .i64 0]) (t := 57) ?hr ?_; (case hd => rfl); (case hg => rfl); (case hr => first | (go_simp; done) | (go_simp; rfl)); intro g hg w1 hbox hb; have HB1 := Lib.hid hb; have E1 : Hid (w.heap.size ≤ g) := Lib.hid (by rw [hg]; exact Nat.le_refl _); have HT1 : Hid (Tab w.heap.size w1 g [] [] 0 (.slice none 0 0) (.slice none 0 0)) := Lib.hid ⟨hbox, E1.out, World.ownsRow_nil _ _ _ _, World.ownsRow_nil _ _ _ _⟩; clear hbox hb hg))
  go_loopw [15] (fun s15 wr => s15 = .int .i64 0 ∧ wr = w1) (fun _ _ => 0)
  case atStart => exact ⟨rfl, rfl⟩
  case round =>
    obtain ⟨rfl, rfl⟩ := hrel
    go_wp2_with (first | (go_at_call 19; (with_reducible refine (setArgs_ok w.heap.size _ g [] [] l 0 _ _ P c HT1.out HB1.out.size (Kd.C_below HL.out HB1.out) HE.out).mono ?_); rintro e w2 ⟨rfl, hf, va, ht⟩; have HT2 := Lib.hid ht; have HB2 : Hid (Below w.heap.size w w2) := Lib.hid ((HB1.out).trans (hf.below HB1.out.size (fun i hi e => by have := E1.out; omega))); clear hf ht))
    go_ret2
    exact ⟨g, va, rfl, HB2.out, HT2.out⟩
set_option maxHeartbeats 2000000 in
set_option maxRecDepth 100000 in
theorem get_nil (s : ByteArray) (w : World) : Calls Try.prog 13 #[.pointer none, .string s] w fun e w' => e = .returned (.tuple #[.string ⟨#[]⟩, .bool false]) ∧ w' = w := by
  go_enter Try.func13, Try.ntmps13
  go_wp2
  go_ret2
  exact ⟨rfl, rfl⟩
set_option maxHeartbeats 2000000 in
set_option maxRecDepth 100000 in
theorem set_nil (s v : ByteArray) (w : World) : Calls Try.prog 15 #[.pointer none, .string s, .string v] w fun e w' => e = .returned (.int .i64 3) ∧ w' = w := by
  go_enter Try.func15, Try.ntmps15
  go_wp2
  go_ret
  exact ⟨rfl, rfl⟩
set_option maxHeartbeats 2000000 in
set_option maxRecDepth 100000 in
theorem setArgs_nil (P : Option Addr) (n c : Nat) (w : World) : Calls Try.prog 19 #[.pointer none, .slice P n c] w fun e w' => e = .returned (.int .i64 3) ∧ w' = w := by
  go_enter Try.func19, Try.ntmps19
  go_wp2
  go_ret
  exact ⟨rfl, rfl⟩
set_option maxHeartbeats 2000000 in
set_option maxRecDepth 100000 in
theorem shift_nil (n : Int) (w : World) : Calls Try.prog 20 #[.pointer none, .int .i64 n] w fun e w' => e = .returned (.bool false) ∧ w' = w := by
  go_enter Try.func20, Try.ntmps20
  go_wp2
  go_ret
  exact ⟨rfl, rfl⟩
set_option maxHeartbeats 2000000 in
set_option maxRecDepth 100000 in
theorem copy_nil (w : World) : Calls Try.prog 21 #[.pointer none] w fun e w' => e = .returned (.pointer none) ∧ w' = w := by
  go_enter Try.func21, Try.ntmps21
  go_wp2
  go_ret
  exact ⟨rfl, rfl⟩
set_option maxHeartbeats 2000000 in
set_option maxRecDepth 100000 in
theorem vars_nil (w : World) : Calls Try.prog 22 #[.pointer none] w fun e w' => e = .returned (.slice none 0 0) ∧ w' = w := by
  go_enter Try.func22, Try.ntmps22
  go_wp2
  go_ret
  exact ⟨rfl, rfl⟩
set_option maxHeartbeats 2000000 in
set_option maxRecDepth 100000 in
theorem args_nil (w : World) : Calls Try.prog 23 #[.pointer none] w fun e w' => e = .returned (.slice none 0 0) ∧ w' = w := by
  go_enter Try.func23, Try.ntmps23
  go_wp2
  go_ret
  exact ⟨rfl, rfl⟩
set_option maxHeartbeats 2000000 in
set_option maxRecDepth 100000 in
theorem unset_nil (s : ByteArray) (w : World) : Calls Try.prog 17 #[.pointer none, .string s] w fun e w' => e = .returned (.tuple #[]) ∧ w' = w := by
  go_enter Try.func17, Try.ntmps17
  go_wp2
  refine bodyPost_ret (results_none rfl _ _ _) rfl ?_
  exact ⟨rfl, rfl⟩
end Go.Proofs.Ytgcbipflmhbpcaa
set_option linter.unusedVariables false
set_option linter.unusedSimpArgs false
namespace Go.Proofs.Ytgcbipflmhbpcaa
open Go.RowKit Go.Proofs.YtgcbipflmhbpcaaW.PrintWords Go.Proofs.YtgcbipflmhbpcaaW.PrintLast Go.Proofs.YtgcbipflmhbpcaaW.PrintMore
theorem reads_new {W : World} {g t : Nat} {l : List ByteArray} (h : W.heap[g]? = some (.cells (l.map Value.string).toArray t (0, 0))) (hl : l.length ≤ 1000000) : Kd.C Kd.string W (some ⟨g, 0, none⟩) l.length l := by
  refine ⟨rfl, by omega, fun _ => ⟨_, rfl, fun j y hy => ⟨[.string y], rfl, rfl, fun i u hu => ?_⟩⟩⟩
  have hi : i = 0 := by
    cases i with
    | zero => rfl
    | succ i => simp at hu
  subst hi
  have hu' : u = .string y := by simpa using hu.symm
  subst hu'
  rw [show (Kd.string).sz = 1 from rfl, Nat.mul_one, Nat.add_zero]
  have e : (⟨g, 0, none⟩ : Addr).add j = ⟨g, j, none⟩ := by
    unfold Addr.add
    by_cases hj : j = 0
    · subst hj; rfl
    · simp [hj]
  rw [e, blk_cell h j]
  simp [hy]
theorem Tab.weak {B B' : Nat} {w : World} {g : Nat} {V : List (ByteArray × ByteArray)} {A : List ByteArray} {st : Int} {vv va : Value} (h : Tab B w g V A st vv va) (hb : B' ≤ B) : Tab B' w g V A st vv va :=
  ⟨h.bt, Nat.le_trans hb h.eg, own_weaken h.ov hb, own_weaken h.oa hb⟩
def abS : List ByteArray := [⟨#[97]⟩, ⟨#[98]⟩]
theorem join_ab : strings_Join.f abS ⟨#[32]⟩ = some ⟨#[97, 32, 98]⟩ := by unfold strings_Join.f abS; decide +kernel
theorem text_two : textS 2 = ⟨#[50]⟩ := by decide +kernel
theorem get2 {B : Nat} {w : World} {g : Nat} {vv va : Value} (h : Tab B w g [] abS 0 vv va) : Calls Try.prog 13 #[.pointer (some ⟨g, 0, none⟩), .string ⟨#[50]⟩] w fun e w' => e = .returned (.tuple #[.string ⟨#[98]⟩, .bool true]) ∧ Below w.heap.size w w' := get_num B w g [] abS 0 vv va h (by decide) 50 1 (.inr ⟨rfl, rfl⟩) (by decide)
theorem getA {B : Nat} {w : World} {g : Nat} {vv va : Value} (h : Tab B w g [] abS 0 vv va) : Calls Try.prog 13 #[.pointer (some ⟨g, 0, none⟩), .string ⟨#[64]⟩] w fun e w' => e = .returned (.tuple #[.string ⟨#[97, 32, 98]⟩, .bool true]) ∧ Below w.heap.size w w' := get_all B w g [] abS 0 vv va h _ join_ab (by decide)
theorem getC {B : Nat} {w : World} {g : Nat} {vv va : Value} (h : Tab B w g [] abS 0 vv va) : Calls Try.prog 13 #[.pointer (some ⟨g, 0, none⟩), .string ⟨#[35]⟩] w fun e w' => e = .returned (.tuple #[.string ⟨#[50]⟩, .bool true]) ∧ Below w.heap.size w w' := by
  have := get_count B w g [] abS 0 vv va h (by decide)
  rw [show ((abS.length : Nat) : Int) = 2 from rfl, text_two] at this
  exact this
theorem get1 {B : Nat} {w : World} {g : Nat} {vv va : Value} (h : Tab B w g [] (abS.drop 1) 0 vv va) : Calls Try.prog 13 #[.pointer (some ⟨g, 0, none⟩), .string ⟨#[49]⟩] w fun e w' => e = .returned (.tuple #[.string ⟨#[98]⟩, .bool true]) ∧ Below w.heap.size w w' := get_num B w g [] (abS.drop 1) 0 vv va h (by decide) 49 0 (.inl ⟨rfl, rfl⟩) (by decide)
theorem shift1 {B : Nat} {w : World} {g : Nat} {vv va : Value} (h : Tab B w g [] abS 0 vv va) (hB : B ≤ w.heap.size) : Calls Try.prog 20 #[.pointer (some ⟨g, 0, none⟩), .int .i64 1] w fun e w' => e = .returned (.bool true) ∧ Frm (fun k => k = g) w w' ∧ ∃ va', Tab B w' g [] (abS.drop 1) 0 vv va' :=
  shift_ok B w g [] abS 0 vv va h hB (by decide) 1 (by decide)
set_option maxHeartbeats 4000000 in
set_option maxRecDepth 100000 in
theorem awake_any (w : World) : Calls Try.prog 6 #[] w fun e W' => e = .returned (.bool true) ∧ Below w.heap.size w W' := by
  go_enter Try.func6, Try.ntmps6
  go_wp2_with (first | (go_at_call 8; refine (new_nil _ (some ⟨w.heap.size, 0, none⟩) 2 abS (reads_new (l := abS) (bk_new w _) (by decide)) (by decide +kernel)).mono ?_; rintro e w1 ⟨g, va, rfl, hb, ht⟩; have HT := Lib.hid (ht.weak (B' := w.heap.size) (by simp)); have HB := Lib.hid (((Below.refl w.heap.size w).alloc (Nat.le_refl _) _).trans (hb.mono (((Below.refl w.heap.size w).alloc (Nat.le_refl _) (.cells #[.string ⟨#[97]⟩, .string ⟨#[98]⟩] 9)).size))); clear hb ht) | (go_at_call 13; (with_reducible refine (get2 HT.out).mono ?_); rintro e w2 ⟨rfl, hb⟩; replace HT := Lib.hid (HT.out.frm hb); replace HB := Lib.hid (HB.out.trans (hb.mono HB.out.size)); clear hb) | (go_at_call 13; (with_reducible refine (getA HT.out).mono ?_); rintro e w2 ⟨rfl, hb⟩; replace HT := Lib.hid (HT.out.frm hb); replace HB := Lib.hid (HB.out.trans (hb.mono HB.out.size)); clear hb) | (go_at_call 13; (with_reducible refine (getC HT.out).mono ?_); rintro e w2 ⟨rfl, hb⟩; replace HT := Lib.hid (HT.out.frm hb); replace HB := Lib.hid (HB.out.trans (hb.mono HB.out.size)); clear hb) | (go_at_call 20; (with_reducible refine (shift1 HT.out HB.out.size).mono ?_); rintro e w2 ⟨rfl, hf, va2, ht⟩; replace HB : Hid (Below w.heap.size w w2) := Lib.hid (HB.out.trans (hf.below HB.out.size (fun i hi e => by have := HT.out.eg; omega))); replace HT := Lib.hid ht; clear hf ht) | (go_at_call 13; (with_reducible refine (get1 HT.out).mono ?_); rintro e w2 ⟨rfl, hb⟩; replace HT := Lib.hid (HT.out.frm hb); replace HB := Lib.hid (HB.out.trans (hb.mono HB.out.size)); clear hb))
  go_ret
  exact ⟨rfl, HB.out⟩
set_option maxHeartbeats 4000000 in
set_option maxRecDepth 100000 in
theorem nobody_any (k q : Int) (nm vl : ByteArray) (P : Option Addr) (n c : Nat) (w : World) : Calls Try.prog 5 #[.agg #[.int .i64 k, .string nm, .string vl, .slice P n c, .int .i64 q]] w fun e W' => e = .returned (.bool true) ∧ Below w.heap.size w W' := by
  have hu30 := Try.underlying30
  go_enter Try.func5, Try.ntmps5
  go_wp2_with (first | ((with_reducible refine gate_dst (N := 1) rfl ?_); refine box_event ?hg (N := 1) ?hd (cs := #[.int .i64 k, .string nm, .string vl, .slice P n c, .int .i64 q]) (t := 30) ?hr ?_; (case hd => rfl); (case hg => rfl); (case hr => first | (go_simp; done) | (go_simp; rfl)); intro g hg w1 hbox hb; have HB := Lib.hid hb; have d1 : w1.cell? ⟨g, 1, none⟩ = some (.string nm) := (blk_cell hbox 1).trans rfl; have d2 : w1.cell? ⟨g, 2, none⟩ = some (.string vl) := (blk_cell hbox 2).trans rfl; have d3 : w1.cell? ⟨g, 3, none⟩ = some (.slice P n c) := (blk_cell hbox 3).trans rfl; have d4 : w1.cell? ⟨g, 4, none⟩ = some (.int .i64 q) := (blk_cell hbox 4).trans rfl; clear hbox hb hg) | (go_at_call 13; (with_reducible refine (get_nil nm _).mono ?_); rintro e w2 ⟨rfl, rfl⟩) | (go_at_call 15; (with_reducible refine (set_nil nm vl _).mono ?_); rintro e w2 ⟨rfl, rfl⟩) | (go_at_call 17; (with_reducible refine (unset_nil nm _).mono ?_); rintro e w2 ⟨rfl, rfl⟩) | (go_at_call 19; (with_reducible refine (setArgs_nil P n c _).mono ?_); rintro e w2 ⟨rfl, rfl⟩) | (go_at_call 20; (with_reducible refine (shift_nil q _).mono ?_); rintro e w2 ⟨rfl, rfl⟩) | (go_at_call 21; (with_reducible refine (copy_nil _).mono ?_); rintro e w2 ⟨rfl, rfl⟩) | (go_at_call 22; (with_reducible refine (vars_nil _).mono ?_); rintro e w2 ⟨rfl, rfl⟩) | (go_at_call 23; (with_reducible refine (args_nil _).mono ?_); rintro e w2 ⟨rfl, rfl⟩) | (go_at_call 6; (with_reducible refine (awake_any _).mono ?_); rintro e w2 ⟨rfl, hb⟩; have HB2 := Lib.hid (HB.out.trans (hb.mono HB.out.size)); clear hb))
  go_ret
  exact ⟨rfl, HB2.out⟩
end Go.Proofs.Ytgcbipflmhbpcaa
set_option linter.unusedVariables false
set_option linter.unusedSimpArgs false
namespace Go.Proofs.Ytgcbipflmhbpcaa
open Go Go.RowKit Go.ChangeShapes Go.WideShapes Go.Proofs.Ytgcbipflmhbpcaa Go.Proofs.YtgcbipflmhbpcaaW.PrintWords
def offB (P : Program) (fs : Array Field) : Bool := (List.range fs.size).all fun i => match fs[i]? with
  | some x => decide (x.offset = (((fs.toList.map (·.type)).take i).map P.cellsOf).sum)
  | none => true
theorem off_ok {P : Program} {fs : Array Field} (h : offB P fs = true) : ∀ (i : Nat) (x : Field), fs[i]? = some x → x.offset = (((fs.toList.map (·.type)).take i).map P.cellsOf).sum := by
  intro i x hx
  have hi : i < fs.size := (Array.getElem?_eq_some_iff.1 hx).1
  have := List.all_eq_true.1 h i (List.mem_range.2 hi)
  rw [hx] at this
  exact of_decide_eq_true this
theorem agg_of {v : Value} {a b : Value} {r : List Value} (h : v.cells.toList = a :: b :: r) : v = .agg (a :: b :: r).toArray := by
  cases v with
  | agg cs => simp only [Value.cells] at h; rw [← h]
  | _ => simp [Value.cells] at h
theorem bytes_le {n b : Nat} (hb : 1 ≤ b) (h : n * b ≤ reachBytes) : n ≤ 140737488351232 := by
  have : n ≤ n * b := Nat.le_mul_of_pos_right n hb
  unfold reachBytes at h
  omega
structure ActV where
  k : Int
  nm : ByteArray
  vl : ByteArray
  A : Option Addr
  c : Nat
  l : List ByteArray
  q : Int
def ActV.val (t : ActV) : Value := .agg #[.int .i64 t.k, .string t.nm, .string t.vl, .slice t.A t.l.length t.c, .int .i64 t.q]
def ActV.ok (w : World) (t : ActV) : Prop := Kd.C Kd.string w t.A t.l.length t.l ∧ t.l.length ≤ t.c ∧ t.l.length ≤ 140737488351232 ∧ (∀ s ∈ t.l, s.size ≤ reachBytes) ∧ t.nm.size ≤ reachBytes ∧ t.vl.size ≤ reachBytes ∧ (Lit.int .i64 t.k).wf = true ∧ (Lit.int .i64 t.q).wf = true
theorem open_act {H : Type} {enc : TypeId × Value → H} {w : World} {base : Nat} {spare : Nat → Bool} {held : Bool} {v : Value} {d : DataW H} {p : List MemPlace}
    (h : DataW.Trod enc Try.prog w base spare held 30 v d p) (hz : ∀ n ∈ d.weights Try.prog 30, n ≤ reachBytes) : ∃ t : ActV, v = t.val ∧ t.ok w := by
  obtain ⟨fuel, hf⟩ := h
  obtain ⟨⟨k, nm, vl, l, q⟩, hK, h0, h1, h2, ⟨h3, _, h3x⟩, h4⟩ := (opens_struct (P := Try.prog) (t := 30) (fun x : Int × ByteArray × ByteArray × List ByteArray × Int => x) (fun p => p) (fun _ => rfl) Try.underlying30 (openF_cons (opens_int Try.underlying3) (openF_cons (opens_string Try.underlying9) (openF_cons (opens_string Try.underlying9) (openF_cons (opens_slice 9 Try.underlying23 (opens_string Try.underlying9) (by kernel_rfl)) (openF_one (opens_int Try.underlying3)))))) (off_ok (by kernel_rfl)) (by kernel_rfl)) hf hz
  obtain ⟨c0, r0, e, e0, c1, r1, rfl, e1, c2, r2, rfl, e2, c3, r3, rfl, ⟨A, c, e3, hc, hC⟩, e4⟩ := hK
  have e0' : c0 = [.int .i64 k] := e0
  have e1' : c1 = [.string nm] := e1
  have e2' : c2 = [.string vl] := e2
  have e4' : r3 = [.int .i64 q] := e4
  subst e0' e1' e2' e3 e4'
  have hb : 1 ≤ Try.prog.bytesOf 9 := of_decide_eq_true (by kernel_rfl)
  exact ⟨⟨k, nm, vl, A, c, l, q⟩, agg_of e, hC, hc, bytes_le hb h3, h3x, h1, h2, h0, h4⟩
theorem nobody_walk (t : ActV) (w : World) (h : t.ok w) : Calls Try.prog 5 #[t.val] w fun e W' => e = .returned (.bool true) ∧ Below w.heap.size w W' :=
  nobody_any t.k t.q t.nm t.vl t.A t.l.length t.c w
end Go.Proofs.Ytgcbipflmhbpcaa
