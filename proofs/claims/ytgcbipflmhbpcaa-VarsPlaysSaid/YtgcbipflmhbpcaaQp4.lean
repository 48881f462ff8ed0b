/- Texts of this claim's proof: small lemmas, walks and plain laws (merged by wip/shake.py). -/
import Derived.Test.YtgcbipflmhbpcaaQp0
import Derived.Test.YtgcbipflmhbpcaaQp1
import Derived.Test.YtgcbipflmhbpcaaQp2
import Derived.Test.YtgcbipflmhbpcaaQp3
import Derived.Test.YtgcbipflmhbpcaaProg
import Derived.Below
import Derived.Deep.Draws
import Derived.Deep.AppendLies
import Derived.Maps.AppendAt
import Derived.OwnWalk
import Derived.Laws.BytesArg
import Derived.Laws.MakeOwn
import Derived.Laws.OwnMore
import Derived.Deep.OwnRows
import Derived.Tactics
import Derived.Lib.ConvBytes
import Derived.Laws.Slices
import Derived.WalkKit
import Derived.KernelRfl
import Derived.RowKit3
import Derived.Deep.LoopGhost
import Derived.Deep.QuietTactic
import Derived.BigQuiet
import Derived.WideLaws
import Derived.Deep.DeepCutAuto
import Derived.Deep.CutBlock
import Derived.Deep.RegionHeld3
import Derived.Laws.Rows
import Derived.Lib.AppendStr
import Derived.ArgAppend
import Derived.Laws.IdiomCopy
import Derived.OrdersHeld
import Derived.Laws.BitsLemmas
import Derived.RowKit
import Derived.Lib.Hide
import Derived.WalkSpells
import Derived.Outline
import Derived.Shelf.Strings.Builder1
import Derived.Shelf.Strings.Builder2
import Derived.Shelf.Strings.OnBuilder
import Derived.Shelf.Small.Strs
import Derived.Shelf.Small.Wraps
import Derived.Shelf.Strings.BuilderF
import Derived.Shelf.Strings.BuilderK
import Derived.Shelf.Strings.Builder2Cap
import Derived.Shelf.Strings.Search1
import Derived.Shelf.Strings.Prefix
import Derived.Shelf.Strings.BuilderCap
import Derived.Lib.IndexLaws
import Derived.Lib.TrimByte
import Derived.Lib.Join
import Derived.Lib.LastIndexByte
namespace Go.Proofs.Ytgcbipflmhbpcaa.PV
open Go.RowKit Go.Proofs.YtgcbipflmhbpcaaW.PrintWords Go.Proofs.YtgcbipflmhbpcaaW.PrintLast Go.Proofs.YtgcbipflmhbpcaaW.PrintMore
attribute [local go_sem] max2_int min2_int max_two min_two max_three min_three max_four min_four   -- for this text's walks alone
set_option linter.unusedVariables false
set_option linter.unusedSimpArgs false
def errW : Option Int → Value
  | none => .nilIface
  | some c => .iface 0 (.int .i64 c)
theorem errW_none : errW none = .nilIface := rfl
theorem errW_some (c : Int) : errW (some c) = .iface 0 (.int .i64 c) := rfl
theorem info9 : (Try.prog.info? 9).map (fun i => (i.zero, i.size, i.bytes)) = some (some (.string ⟨#[]⟩), 1, 16) := by kernel_rfl
theorem info26 : (Try.prog.info? 26).map (fun i => (i.zero, i.size, i.bytes)) = some (some (.agg #[(.string ⟨#[]⟩), (.string ⟨#[]⟩)]), 2, 32) := by kernel_rfl
structure S26 where
  f0 : ByteArray
  f1 : ByteArray
def z26 : S26 := ⟨(⟨#[]⟩ : ByteArray), (⟨#[]⟩ : ByteArray)⟩
def k26 : Kd S26 := Kd.iso (Kd.pair Kd.string Kd.string) (fun x : S26 => (x.f0, x.f1))
theorem k26_open {w : World} {x : S26} {cs : List Value} (h : k26.K w x cs) : cs = [.string x.f0, .string x.f1] := by
  obtain ⟨_, _, rfl, rfl, rfl⟩ := h
  exact rfl
theorem k26_openM {w : World} {base : Nat} {ok : Nat → Prop} {x : S26} {cs : List Value} (h : k26.M w base ok x cs) : cs = [.string x.f0, .string x.f1] := by
  obtain ⟨_, _, rfl, rfl, rfl⟩ := h
  exact rfl
theorem k26_mk (w : World) (x : S26)  : k26.K w x [.string x.f0, .string x.f1] := ⟨[.string x.f0], [.string x.f1], rfl, rfl, rfl⟩
theorem k26_mkM (w : World) (base : Nat) (ok : Nat → Prop) (x : S26)  : k26.M w base ok x [.string x.f0, .string x.f1] := ⟨[.string x.f0], [.string x.f1], rfl, rfl, rfl⟩
def rd_T26 (xs : List S26) (i : Int) : S26 := xs.getD i.toNat z26
theorem at_T26 {w : World} {A : Option Addr} {n : Nat} {xs : List S26} (h : Kd.C k26 w A n xs) (i : Int) (h0 : 0 ≤ i) (h1 : i < n) : ∃ ad , A = some ad ∧ w.cell? (ad.add (i.toNat * 2)) = some (.string (rd_T26 xs i).f0) ∧ w.cell? ⟨(ad.add (i.toNat * 2)).block, (ad.add (i.toNat * 2)).off + 1, none⟩ = some (.string (rd_T26 xs i).f1) := by
  obtain ⟨ad, c, e, _, hK, hc0⟩ := Kd.C_get h z26 i h0 h1
  have hc : ∀ j u, c[j]? = some u → w.cell? (ad.add (i.toNat * 2 + j)) = some u := hc0
  obtain rfl := k26_open hK
  exact ⟨ad, e, hc 0 _ rfl, by rw [← add_field _ _ 1 (by omega)]; exact hc 1 _ rfl⟩
end Go.Proofs.Ytgcbipflmhbpcaa.PV
set_option linter.unusedVariables false
set_option linter.unusedSimpArgs false
namespace Go.Proofs.Ytgcbipflmhbpcaa.PV
open Go Go.RowKit Go.Proofs.Ytgcbipflmhbpcaa Go.Proofs.YtgcbipflmhbpcaaW.PrintWords Go.Proofs.YtgcbipflmhbpcaaW.PrintLast Go.Proofs.YtgcbipflmhbpcaaW.PrintMore
theorem run_clear_one (w : World) (ty : TypeId) (b o c : Nat) (h0 : (w.cell? ⟨b, o, none⟩).isSome = true) (h1 : (w.cell? ⟨b, o + 1, none⟩).isSome = true) (f0 : w.frozen? ⟨b, o, none⟩ = false) (f1 : w.frozen? ⟨b, o + 1, none⟩ = false) :
    (Builtin.clear_ #[22] ty #[.slice (some ⟨b, o, none⟩) 1 c]).run Try.prog w = .ok (.tuple #[]) (w.setCells b o [.string ByteArray.empty, .string ByteArray.empty]) := by
  obtain ⟨i0, hi, hz0, hz1, _⟩ := info_split infoVar
  have hv : ∀ w, (zeroValue 26).run Try.prog w = .ok (.agg #[.string ByteArray.empty, .string ByteArray.empty]) w := fun w => by simp [zeroValue, typeInfo, hi, hz0]
  have hst := run_storeCells_cells (P := Try.prog) b o [.string ByteArray.empty, .string ByteArray.empty] 0 w (fun j hj => by
    match j, hj with
    | 0, _ => simpa using h0
    | 1, _ => simpa using h1) (fun j hj => by
    match j, hj with
    | 0, _ => simpa using f0
    | 1, _ => simpa using f1) (by intro v hv'; simp only [List.mem_cons, List.not_mem_nil, or_false] at hv'; rcases hv' with rfl | rfl <;> rfl)
  simp only [Nat.add_zero] at hst
  have hzc : (Builtin.zeroCells (Value.agg #[.string ByteArray.empty, .string ByteArray.empty]).cells 1).toList = [.string ByteArray.empty, .string ByteArray.empty] := by
    apply List.ext_getElem
    · simp [Builtin.zeroCells, Value.cells]
    · intro i h1 h2
      have h3 : i = 0 ∨ i = 1 := by simp at h2; omega
      rcases h3 with rfl | rfl <;> simp [Builtin.zeroCells, Value.cells]
  simp [Builtin.clear_, run_underlying Try.underlying22, hv, hzc, hst]
theorem R_beyond {w : World} {B b m c o : Nat} {ok : Nat → Prop} {xs : List S26} (h : Kd.R k26 26 w B ok (.slice (some ⟨b, 0, none⟩) m c) xs) (ho : xs.length * 2 ≤ o) (v : Value) : Kd.R k26 26 (w.setCell ⟨b, o, none⟩ v) B ok (.slice (some ⟨b, 0, none⟩) m c) xs := by
  obtain ⟨h0, inner, hown, hr⟩ := h
  refine ⟨h0, inner, ⟨hown.1, ?_⟩, hr.imp_ (fun p cs hp => by obtain rfl := k26_openM hp; exact k26_mkM _ _ _ p)⟩
  rcases hown.2 with ⟨e, _⟩ | ⟨g, cap, cur, e, hb, hh, hn, hm, hs, ht⟩
  · cases e
  · injection e with e1 e2 e3
    injection e1 with e1
    injection e1 with e1
    subst e1
    refine .inr ⟨b, cap, cur.setIfInBounds o v, by rw [e2, e3], hb, blk_put hh o v rfl, hn, hm, by rw [Array.size_setIfInBounds]; exact hs, ?_⟩
    rw [← ht, Array.toList_setIfInBounds, List.take_set_of_le]
    exact ho
theorem R_blk {w : World} {B b m c : Nat} {ok : Nat → Prop} {xs : List S26} (h : Kd.R k26 26 w B ok (.slice (some ⟨b, 0, none⟩) m c) xs) : ∃ cur, w.heap[b]? = some (.cells cur 26 (0, 0)) ∧ cur.size = c * 2 := by
  obtain ⟨_, inner, hown, _⟩ := h
  rcases hown.2 with ⟨e, _⟩ | ⟨g, cap, cur, e, hb, hh, hn, hm, hs, ht⟩
  · cases e
  · injection e with e1 e2 e3
    injection e1 with e1
    injection e1 with e1
    subst e1
    exact ⟨cur, hh, by rw [e3]; exact hs⟩
theorem grown_two {w w1 : World} {b : Nat} (h : w.grownBy w1 (some b)) (o : Nat) (x y : Value) : w.grownBy (w1.setCells b o [x, y]) (some b) :=
  ⟨h.os, h.tape, h.output, by simpa [World.setCells, World.setCell] using h.size, fun k hk hne => by
    have hkb : k ≠ b := fun e => hne (by rw [e])
    exact (Below.heap_setCell _ _ y k hkb).trans ((Below.heap_setCell w1 ⟨b, o, none⟩ x k hkb).trans (h.block k hk hne))⟩
theorem clear_of_R {w1 w : World} {B b k c : Nat} {xs : List S26} (hk : k < xs.length) (hc : xs.length ≤ c) (hr1 : Kd.R k26 26 w1 B (fun _ => True) (.slice (some ⟨b, 0, none⟩) (xs.length - 1) c) (xs.eraseIdx k)) (hg1 : w.grownBy w1 (some b)) :
    (∀ ty c', (Builtin.clear_ #[22] ty #[.slice (some ⟨b, (xs.length - 1) * 2, none⟩) 1 c']).run Try.prog w1 = .ok (.tuple #[]) (w1.setCells b ((xs.length - 1) * 2) [.string ByteArray.empty, .string ByteArray.empty])) ∧ Hid (Kd.R k26 26 (w1.setCells b ((xs.length - 1) * 2) [.string ByteArray.empty, .string ByteArray.empty]) B (fun _ => True) (.slice (some ⟨b, 0, none⟩) (xs.length - 1) c) (xs.eraseIdx k)) ∧ Hid (w.grownBy (w1.setCells b ((xs.length - 1) * 2) [.string ByteArray.empty, .string ByteArray.empty]) (some b)) := by
  obtain ⟨cur, hcur, hcs⟩ := R_blk hr1
  have hel : (xs.eraseIdx k).length = xs.length - 1 := by rw [List.length_eraseIdx_of_lt hk]
  refine ⟨fun ty c' => run_clear_one w1 ty b ((xs.length - 1) * 2) c' (by rw [blk_cell hcur, Array.getElem?_eq_getElem (by omega)]; rfl) (by rw [blk_cell hcur, Array.getElem?_eq_getElem (by omega)]; rfl) (blk_frozen hcur _) (blk_frozen hcur _), Lib.hid (R_beyond (R_beyond hr1 (by rw [hel]; exact Nat.le_refl _) _) (by rw [hel]; omega) _), Lib.hid (grown_two hg1 _ _ _)⟩
set_option maxHeartbeats 4000000 in
set_option maxRecDepth 100000 in
theorem delete_one (B b c n k : Nat) (w : World) (xs : List S26) (hB : B ≤ w.heap.size) (hk : k < n) (hn : n ≤ 1000) (ho : Kd.R k26 26 w B (fun _ => True) (.slice (some ⟨b, 0, none⟩) n c) xs) :
    Calls Try.prog 40 #[.slice (some ⟨b, 0, none⟩) n c, .int .i64 k, .int .i64 (k + 1 : Nat)] w fun e w' => e = .returned (.slice (some ⟨b, 0, none⟩) (n - 1) c) ∧ Kd.R k26 26 w' B (fun _ => True) (.slice (some ⟨b, 0, none⟩) (n - 1) c) (xs.eraseIdx k) ∧ w.grownBy w' (some b) := by
  obtain ⟨hxl, hnc, _⟩ := Kd.R_reads' ho
  subst hxl
  have mixed : Try.prog.follows .mixedOrders = true := by kernel_rfl
  have q1 : ((k : Int) == ((k + 1 : Nat) : Int)) = false := beq_eq_false_iff_ne.mpr (by omega)
  have q2 : ¬ xs.length < k := by omega
  have q3 : ¬ xs.length < k + 1 := by omega
  have q4 : ¬ k + 1 < k := by omega
  have q5 : ¬ c < xs.length := by omega
  have q6 : ¬ c < k := by omega
  have q8 : k ≤ c := by omega
  have q9 : k + 1 ≤ xs.length := by omega
  have q10 : (0 : Int) ≤ (k : Int) + 1 := by omega
  have q11 : ((k : Int) + 1).toNat = k + 1 := by omega
  have q12 : (k : Int) ≤ (c : Int) := by omega
  have q13 : (k : Int) + 1 ≤ (xs.length : Int) := by omega
  have q14 : ((k : Int) == (k : Int) + 1) = false := beq_eq_false_iff_ne.mpr (by omega)
  have q17 : k ≤ k + 1 := Nat.le_succ k
  have q18 : (k : Int) ≤ (k : Int) + 1 := by omega
  have q19 : ¬ k + 1 < k := by omega
  have q15 : (0 : Int) ≤ (k : Int) := by omega
  have q16 : k ≤ xs.length := by omega
  have HD := Lib.hid (Kd.R_below ho (Below.refl _ w).drew)
  have HDB : Hid (Below B w w.drew) := Lib.hid (((Below.refl _ w).drew).mono hB)
  have HDS : Hid (B ≤ w.drew.heap.size) := Lib.hid hB
  by_cases hck : c = k + 1
  · subst hck
    go_enter Try.func40, Try.ntmps40
    go_wp2
    go_region_law_o (refine Kd.R_delete_step k26 (w0 := w) B (by simp [Region.wanted]) (.tmp 22) (.tmp 25) 22 26 rfl Try.underlying22 sizeVar (g := b) (n := xs.length) (c := k + 1) (k := k) (m := 0) (A := (some ⟨b, 0, none⟩)) (by simp [Act.eval, Act.put]) (by simp [Act.eval, Act.put]; try rfl) (by rw [if_pos rfl]) (by omega) HD.out hk HDB.out HDS.out ?_; intro _ _ _ _)
    rename Kd.R _ _ _ _ _ _ _ => hr1
    rename World.grownBy _ _ _ => hg1
    (try simp only [Act.put, List.setIfInBounds_toArray, List.set_cons_zero, List.set_cons_succ])
    obtain ⟨hcl, HR2, HG2⟩ := clear_of_R hk (by omega) hr1 hg1
    have r1 : xs.length - (xs.length - 1) = 1 := by omega
    have r2 : ¬ xs.length < xs.length - 1 := by omega
    have r3 : ¬ (k + 1) = xs.length - 1 := by omega
    have r4 : xs.length - 1 ≤ xs.length := by omega
    clear hr1 hg1
    go_wp2
    go_ret
    exact ⟨rfl, HR2.out, ⟨HG2.out.os, HG2.out.tape, HG2.out.output, HG2.out.size, HG2.out.block⟩⟩
  · skip
    go_enter Try.func40, Try.ntmps40
    go_wp2
    go_region_law_o (refine Kd.R_delete_step k26 (w0 := w) B (by simp [Region.wanted]) (.tmp 22) (.tmp 25) 22 26 rfl Try.underlying22 sizeVar (g := b) (n := xs.length) (c := c) (k := k) (m := xs.length - (k + 1)) (A := (some ⟨b, (k + 1) * 2, none⟩)) (by simp [Act.eval, Act.put]) (by simp [Act.eval, Act.put]; try rfl) (by rw [if_neg hck]; simp [Addr.add_lit]; rfl) rfl HD.out hk HDB.out HDS.out ?_; intro _ _ _ _)
    rename Kd.R _ _ _ _ _ _ _ => hr1
    rename World.grownBy _ _ _ => hg1
    (try simp only [Act.put, List.setIfInBounds_toArray, List.set_cons_zero, List.set_cons_succ])
    obtain ⟨hcl, HR2, HG2⟩ := clear_of_R hk (by omega) hr1 hg1
    have r1 : xs.length - (xs.length - 1) = 1 := by omega
    have r2 : ¬ xs.length < xs.length - 1 := by omega
    have r3 : ¬ c = xs.length - 1 := by omega
    have r4 : xs.length - 1 ≤ xs.length := by omega
    clear hr1 hg1
    go_wp2
    go_ret
    exact ⟨rfl, HR2.out, ⟨HG2.out.os, HG2.out.tape, HG2.out.output, HG2.out.size, HG2.out.block⟩⟩
end Go.Proofs.Ytgcbipflmhbpcaa.PV
set_option linter.unusedVariables false
set_option linter.unusedSimpArgs false
namespace Go.Proofs.Ytgcbipflmhbpcaa
open Go.RowKit
def chr (d : Nat) : Int := if d < 10 then (48 + d : Nat) else (87 + d : Nat)
def digs (b n : Nat) : List Int :=
  if n < b ∨ b < 2 then [chr (n % b)] else digs b (n / b) ++ [chr (n % b)]
termination_by n
decreasing_by exact Nat.div_lt_self (by omega) (by omega)
def DInv (b n m : Nat) (first : Bool) (l : List Int) : Prop :=
  (first = true ∧ m = n ∧ l = []) ∨ (first = false ∧ l ≠ [] ∧ ((0 < m ∧ digs b n = digs b m ++ l) ∨ (m = 0 ∧ digs b n = l)))
theorem DInv_step {b n m : Nat} {first : Bool} {l : List Int} (hb : 2 ≤ b) (h : DInv b n m first l) (hg : first = true ∨ 0 < m) :
    DInv b n (m / b) false (chr (m % b) :: l) := by
  have key : ∀ q l, digs b n = digs b q ++ l → (0 < q / b ∧ digs b n = digs b (q / b) ++ (chr (q % b) :: l)) ∨ (q / b = 0 ∧ digs b n = chr (q % b) :: l) := by
    intro q l hq
    rw [digs.eq_1 b q] at hq
    by_cases hlt : q < b
    · rw [if_pos (Or.inl hlt)] at hq
      exact .inr ⟨Nat.div_eq_of_lt hlt, by simpa using hq⟩
    · rw [if_neg (by omega)] at hq
      exact .inl ⟨Nat.div_pos (by omega) (by omega), by simpa using hq⟩
  refine .inr ⟨rfl, by simp, ?_⟩
  rcases h with ⟨_, rfl, rfl⟩ | ⟨rfl, _, h⟩
  · exact key m [] (by simp)
  · rcases h with ⟨hm, h⟩ | ⟨rfl, h⟩
    · exact key m l h
    · rcases hg with hg | hg
      · cases hg
      · omega
def DArr (A : Array Value) (l : List Int) : Prop := A.size = 64 ∧ ∀ j, j < l.length → A[64 - l.length + j]? = some (.int .u8 (l.getD j 0))
theorem DArr_nil (A : Array Value) (h : A.size = 64) : DArr A [] := ⟨h, fun j hj => absurd hj (by simp)⟩
theorem DArr_step {A : Array Value} {l : List Int} (c : Int) (h : DArr A l) (hl : l.length < 64) :
    DArr (A.setIfInBounds (64 - l.length - 1) (.int .u8 c)) (c :: l) := by
  refine ⟨by simpa using h.1, fun j hj => ?_⟩
  rw [Array.getElem?_setIfInBounds]
  simp only [List.length_cons] at hj ⊢
  by_cases h0 : j = 0
  · subst h0
    rw [if_pos (by omega), if_pos (by rw [h.1]; omega)]; simp
  · rw [if_neg (by omega)]
    have := h.2 (j - 1) (by omega)
    rw [show 64 - (l.length + 1) + j = 64 - l.length + (j - 1) by omega, this]
    obtain ⟨i, rfl⟩ : ∃ i, j = i + 1 := ⟨j - 1, by omega⟩
    simp
theorem chr_at (d : Nat) (h : d < 16) (h' : d < (⟨#[48, 49, 50, 51, 52, 53, 54, 55, 56, 57, 97, 98, 99, 100, 101, 102]⟩ : ByteArray).size) :
    (((⟨#[48, 49, 50, 51, 52, 53, 54, 55, 56, 57, 97, 98, 99, 100, 101, 102]⟩ : ByteArray)[d]'h').toNat : Int) = chr d := by
  have : ∀ d : Fin 16, (((⟨#[48, 49, 50, 51, 52, 53, 54, 55, 56, 57, 97, 98, 99, 100, 101, 102]⟩ : ByteArray)[d.val]'(by exact d.isLt)).toNat : Int) = chr d.val := by decide
  exact this ⟨d, h⟩
theorem cell_of_blk {w : World} {g : Nat} {A : Array Value} {t : TypeId} {i : Nat} {v : Value} (h : w.heap[g]? = some (.cells A t (0, 0))) (hv : A[i]? = some v) : w.cell? ⟨g, i, none⟩ = some v := by
  simp [World.cell?, h, hv]
theorem frozen_of_blk {w : World} {g : Nat} {A : Array Value} {t : TypeId} (i : Nat) (h : w.heap[g]? = some (.cells A t (0, 0))) : w.frozen? ⟨g, i, none⟩ = false := by
  simp [World.frozen?, h]
theorem blk_setCell {w : World} {g : Nat} {A : Array Value} {t : TypeId} (i : Nat) (v : Value) (h : w.heap[g]? = some (.cells A t (0, 0))) : (w.setCell ⟨g, i, none⟩ v).heap[g]? = some (.cells (A.setIfInBounds i v) t (0, 0)) := by
  simp only [World.setCell]
  rw [Array.getElem?_modify]
  simp [h]
theorem ret_str {a b : ByteArray} (h : a = b) : Ending.returned (.string a) = .returned (.string b) := by rw [h]
def baseS (b n : Nat) : ByteArray := if b < 2 ∨ 16 < b then ⟨#[]⟩ else strOfNums (digs b n)
theorem slice_b (w : World) (g k : Nat) (hk : k < 64) :
    (Instr.sliceAt 100 (.pointer (some ⟨g, 0, none⟩)) (some (.int .i64 (k : Nat))) none none).run Try.prog w = .ok (.slice (some ⟨g, k, none⟩) (64 - k) (64 - k)) w := by
  have ha : Try.prog.arrayLen 100 = 64 := by kernel_rfl
  have hs : (sizeOf (Try.prog.elem 100)).run Try.prog w = .ok 1 w := by kernel_rfl
  rw [run_sliceAt_array_l w 100 _ (by kernel_rfl) .i64 _ (by omega) (by rw [ha]; omega), hs, ha]
  simp only [Result.andThen_ok, slicedAt, Int.toNat_natCast]
  rw [if_neg (by omega)]
  unfold Addr.add
  by_cases h : k = 0 <;> simp [h]
theorem pow_room {m k n : Nat} (hm : 0 < m) (h : m * 2 ^ k ≤ n) (hn : n < 18446744073709551616) : k < 64 := by
  rcases Nat.lt_or_ge k 64 with h' | h'
  · exact h'
  · have : 2 ^ 64 ≤ 2 ^ k := Nat.pow_le_pow_right (by omega) h'
    have : 2 ^ k ≤ m * 2 ^ k := Nat.le_mul_of_pos_left _ hm
    omega
theorem div_pow {m b k n : Nat} (hb : 2 ≤ b) (h : m * 2 ^ k ≤ n) : m / b * 2 ^ (k + 1) ≤ n := by
  have h1 : m / b * b ≤ m := Nat.div_mul_le_self m b
  have h2 : m / b * 2 ≤ m / b * b := Nat.mul_le_mul_left _ hb
  have h3 : m / b * 2 * 2 ^ k ≤ m * 2 ^ k := Nat.mul_le_mul_right _ (by omega)
  rw [Nat.pow_succ, Nat.mul_comm (2 ^ k) 2, ← Nat.mul_assoc]
  omega
theorem u64_wrap_nat (m b : Nat) (h : m < 18446744073709551616) : IntKind.u64.wrap ((m : Int) / (b : Int)) = ((m / b : Nat) : Int) := by
  have : m / b ≤ m := Nat.div_le_self m b
  have e : (m : Int) / (b : Int) = ((m / b : Nat) : Int) := by simp
  rw [e]
  exact IntWalk.u64_in _ ⟨by exact Int.natCast_nonneg _, by omega⟩
set_option maxHeartbeats 400000 in
theorem base_any (n : Nat) (b : Int) (w : World) (h1 : n < 18446744073709551616) :
    Calls Try.prog 44 #[.int .u64 n, .int .i64 b] w fun e w' => e = .returned (.string (baseS b.toNat n)) ∧ Below w.heap.size w w' := by
  by_cases hb : b < 2 ∨ b > 16
  · have HE : Hid (baseS b.toNat n = ⟨#[]⟩) := by
      refine Lib.hid ?_
      unfold baseS
      rw [if_pos (by omega)]
    go_enter Try.func44, Try.ntmps44
    by_cases hb2 : b < 2
    · go_wp2
      go_ret
      exact ⟨ret_str HE.out.symm, Below.refl _ _⟩
    · have : 16 < b := by omega
      go_wp2
      go_ret
      exact ⟨ret_str HE.out.symm, Below.refl _ _⟩
  · obtain ⟨b, rfl⟩ : ∃ c : Nat, b = c := ⟨b.toNat, by omega⟩
    have hb1 : (2 : Int) ≤ b := by omega
    have hb2 : (b : Int) ≤ 16 := by omega
    have HE : Hid (baseS (b : Int).toNat n = strOfNums (digs b n)) := by
      refine Lib.hid ?_
      unfold baseS
      rw [if_neg (by omega)]
      simp
    clear hb
    go_enter Try.func44, Try.ntmps44
    go_wp2
    go_loopw [0, 6, 7] (fun s0 s6 s7 wr => ∃ (m : Nat) (first : Bool) (l : List Int) (A : Array Value), s0 = .int .u64 m ∧ s6 = .int .i64 (64 - l.length : Nat) ∧ s7 = .bool first ∧ l.length ≤ 64 ∧ m * 2 ^ l.length ≤ n ∧ Hid (DInv b n m first l) ∧
       Hid (DArr A l) ∧ Hid (wr.heap[w.heap.size]? = some (.cells A 100 (0, 0))) ∧ Below w.heap.size w wr)
      (fun s0 s6 s7 _ => (intOf s0).toNat * 2 + (match s7 with | .bool true => 1 | _ => 0))
    case atStart => exact ⟨n, true, [], _, rfl, rfl, rfl, by simp, by simp, Lib.hid (.inl ⟨rfl, rfl, rfl⟩), Lib.hid (DArr_nil _ rfl), Lib.hid (heap_alloc_new _ _), (Below.refl _ _).alloc (Nat.le_refl _) _⟩
    case round =>
      obtain ⟨m, first, l, A, rfl, rfl, rfl, hl64, hm, hD, hA, hblk, hB⟩ := hrel
      have hmn : m ≤ n := Nat.le_trans (Nat.le_mul_of_pos_right _ (Nat.pow_pos (by omega))) hm
      by_cases hgo : first = true ∨ 0 < m
      · have hl : l.length < 64 := by
          rcases hD.out with ⟨_, _, rfl⟩ | ⟨_, _, h⟩
          · simp
          · rcases h with ⟨hm0, _⟩ | ⟨rfl, _⟩
            · exact pow_room hm0 hm h1
            · rcases hgo with hgo | hgo
              · simp_all
              · omega
        have hD' : Hid (DInv b n (m / b) false (chr (m % b) :: l)) := Lib.hid (DInv_step (by omega) hD.out hgo)
        have hA' : Hid (DArr (A.setIfInBounds (64 - l.length - 1) (.int .u8 (chr (m % b)))) (chr (m % b) :: l)) := Lib.hid (DArr_step _ hA.out hl)
        have hm' : Hid (m / b * 2 ^ (l.length + 1) ≤ n) := Lib.hid (div_pow (by omega) hm)
        have hw' : Hid (IntKind.u64.wrap ((m : Int) / (b : Int)) = ((m / b : Nat) : Int)) := Lib.hid (u64_wrap_nat m b (by omega))
        have hblk' : Hid ((wr.setCell ⟨w.heap.size, 64 - l.length - 1, none⟩ (.int .u8 (chr (m % b)))).heap[w.heap.size]? = some (.cells (A.setIfInBounds (64 - l.length - 1) (.int .u8 (chr (m % b)))) 100 (0, 0))) := Lib.hid (blk_setCell _ _ hblk.out)
        have hc1 : ∃ v, wr.cell? ⟨w.heap.size, 64 - l.length - 1, none⟩ = some v := by
          have : 64 - l.length - 1 < A.size := by rw [hA.out.1]; omega
          exact ⟨_, cell_of_blk hblk.out (Array.getElem?_eq_getElem this)⟩
        obtain ⟨v, hc1⟩ := hc1
        have hf1 : wr.frozen? ⟨w.heap.size, 64 - l.length - 1, none⟩ = false := frozen_of_blk _ hblk.out
        have hmb0 : 0 ≤ ((m : Int) % (b : Int)) := Int.emod_nonneg _ (by omega)
        have hmb : ((m : Int) % (b : Int)) < 16 := by
          have := Int.emod_lt_of_pos (m : Int) (show (0 : Int) < b by omega); omega
        have hx : m % b < 16 := by have := Nat.mod_lt m (show b > 0 by omega); omega
        have hch := Lib.hid (chr_at (m % b) hx)
        have hmeas : Hid (m / b * 2 < m * 2 + (match Value.bool first with | .bool true => 1 | _ => 0)) := by
          refine Lib.hid ?_
          rcases Nat.eq_zero_or_pos m with h0 | h0
          · subst h0
            have : first = true := by simpa using hgo
            subst this; simp
          · have := Nat.div_lt_self h0 (show 1 < b by omega)
            omega
        clear hx
        cases first
        all_goals
          first | (have hm0 : 0 < m := by simpa using hgo) | skip
          go_wp2
          go_roundw
          case rel =>
            refine ⟨m / b, false, chr (m % b) :: l, _, by rw [hw'.out], by simp; omega, rfl, by simp; omega, by simpa using hm'.out, hD', hA', ?_, ?_⟩
            · rw [hch.out]; exact hblk'
            · exact hB.setCell (Nat.le_refl _) _
          case measure =>
            rw [hw'.out]
            simp only [intOf, Int.toNat_natCast]
            have := hmeas.out
            simp at this ⊢
            omega
      · have hm0 : m = 0 := by omega
        have hfirst : first = false := by simpa using fun h => hgo (Or.inl h)
        subst hfirst
        subst hm0
        have hdl : Hid (digs b n = l ∧ l ≠ []) := by
          refine Lib.hid ?_
          rcases hD.out with ⟨h, _⟩ | ⟨_, h2, ⟨h3, _⟩ | ⟨_, h3⟩⟩
          · cases h
          · omega
          · exact ⟨h3, h2⟩
        have hlp : 0 < l.length := List.length_pos_iff.2 hdl.out.2
        have hlen : 64 - (64 - l.length) = l.length := by omega
        have ks := slice_b wr w.heap.size (64 - l.length) (by omega)
        rw [hlen] at ks
        have hlen' := Lib.hid hlen
        clear hlen
        have kc := run_convert_bytes_arg (P := Try.prog) wr 81 5 Try.underlying81 Try.underlying5 w.heap.size (64 - l.length) l.length l.length l rfl (fun i hi => cell_of_blk hblk.out (hA.out.2 i hi)) 9 Try.underlying9
        go_wp2
        go_ret
        exact ⟨ret_str (by rw [HE.out, hdl.out.1]), hB⟩
end Go.Proofs.Ytgcbipflmhbpcaa
namespace Go.Proofs
open Go.Shelf
def Try.lays156_ren : Go.Shelf.Ren := ⟨fun | 156 => 29 | 165 => 45 | 166 => 46 | 169 => 47 | 240 => 59 | 241 => 60 | 276 => 67 | 277 => 68 | n => n, fun | 31 => 23 | 9 => 9 | 3 => 3 | 4 => 4 | 0 => 0 | 20 => 20 | 72 => 83 | 76 => 87 | 70 => 80 | 37 => 81 | 75 => 86 | 127 => 101 | 164 => 104 | 5 => 5 | 80 => 89 | n => n, fun | n => n⟩
theorem Try.lays156 : Go.Proofs.Lays.n156 Try.prog Try.lays156_ren := {
  mixed := by kernel_rfl
  f156 := Try.func29.trans (congrArg some (by kernel_rfl))
  f165 := Try.func45.trans (congrArg some (by kernel_rfl))
  f166 := Try.func46.trans (congrArg some (by kernel_rfl))
  f169 := Try.func47.trans (congrArg some (by kernel_rfl))
  f240 := Try.func59.trans (congrArg some (by kernel_rfl))
  f241 := Try.func60.trans (congrArg some (by kernel_rfl))
  f276 := Try.func67.trans (congrArg some (by kernel_rfl))
  f277 := Try.func68.trans (congrArg some (by kernel_rfl))
  t0 := Try.underlying0
  a0 := Try.isAgg0
  z0 := Try.sizeOf0
  v0 := Try.zeroValue0
  t3 := Try.underlying3
  a3 := Try.isAgg3
  z3 := Try.sizeOf3
  v3 := Try.zeroValue3
  t4 := Try.underlying4
  a4 := Try.isAgg4
  z4 := Try.sizeOf4
  v4 := Try.zeroValue4
  t9 := Try.underlying9
  a9 := Try.isAgg9
  z9 := Try.sizeOf9
  v9 := Try.zeroValue9
  t20 := Try.underlying20
  a20 := Try.isAgg20
  z20 := Try.sizeOf20
  v20 := Try.zeroValue20
  t31 := Try.underlying23
  a31 := Try.isAgg23
  z31 := Try.sizeOf23
  v31 := Try.zeroValue23
  t37 := Try.underlying81
  a37 := Try.isAgg81
  z37 := Try.sizeOf81
  v37 := Try.zeroValue81
  t70 := Try.underlying80
  a70 := Try.isAgg80
  z70 := Try.sizeOf80
  v70 := Try.zeroValue80
  t72 := Try.underlying83
  a72 := Try.isAgg83
  z72 := Try.sizeOf83
  v72 := Try.zeroValue83
  t75 := Try.underlying86
  a75 := Try.isAgg86
  z75 := Try.sizeOf86
  v75 := Try.zeroValue86
  t76 := Try.underlying87
  a76 := Try.isAgg87
  z76 := Try.sizeOf87
  v76 := Try.zeroValue87
  t127 := Try.underlying101
  a127 := Try.isAgg101
  z127 := Try.sizeOf101
  v127 := Try.zeroValue101
  t164 := Try.underlying104
  a164 := Try.isAgg104
  z164 := Try.sizeOf104
  v164 := Try.zeroValue104 }
theorem Try.Builder_Extra_156 : Builder.Extra Try.prog Try.lays156_ren := {
  sizeBuilder := by kernel_rfl
  liesBuilder := by kernel_rfl
  t5 := Try.underlying5
  a5 := Try.isAgg5
  z5 := Try.sizeOf5
  v5 := Try.zeroValue5
  infoByte := by kernel_rfl
  cellsByte := by kernel_rfl
  sizeByte := by kernel_rfl
  neB5 := by decide }
open Go.RowKit in
/-- No element: the empty string; the world is as it was. (Whatever the slice's address and capacity: a nil slice too.) (LAID: no walk: one application.) -/
theorem Try.strings_Join_none (a : Option Addr) (c : Nat) (sep : ByteArray) (w : World) :
    Calls Try.prog 29 #[.slice a 0 c, .string sep] w fun e w' => e = .returned (.string ⟨#[]⟩) ∧ w' = w := Any.strings_Join_none Try.lays156 Try.Builder_Extra_156 a c sep w
open Go.RowKit in
/-- strings.Join: "Join concatenates the elements of its first argument to create a single string. The separator string sep is placed between elements in the resulting string.": HOWEVER MANY ELEMENTS. Below the heap's end the world is as it was. (LAID: no walk: one application.) -/
theorem Try.strings_Join (bk o c : Nat) (xs : List ByteArray) (sep : ByteArray) (w : World) (hcells : ∀ (j : Nat) x, xs[j]? = some x → w.cell? ⟨bk, o + j, none⟩ = some (.string x)) (hbk : bk < w.heap.size) (hN : xs.length ≤ 140737488355328) (hcap : xs.length ≤ c) (hlen : (Lib.join (xs.map (·.data.toList)) sep.data.toList).length ≤ 140737488355328) :
    Calls Try.prog 29 #[.slice (some ⟨bk, o, none⟩) xs.length c, .string sep] w fun e w' => e = .returned (.string ⟨(Lib.join (xs.map (·.data.toList)) sep.data.toList).toArray⟩) ∧ Below w.heap.size w w' := Any.strings_Join Try.lays156 Try.Builder_Extra_156 bk o c xs sep w hcells hbk hN hcap hlen
def Try.lays106_ren : Go.Shelf.Ren := ⟨fun | 106 => 52 | 213 => 63 | 265 => 71 | n => n, fun | 9 => 9 | 3 => 3 | n => n, fun | n => n⟩
theorem Try.lays106 : Go.Proofs.Lays.n106 Try.prog Try.lays106_ren := {
  mixed := by kernel_rfl
  f106 := Try.func52.trans (congrArg some (by kernel_rfl))
  f213 := Try.func63.trans (congrArg some (by kernel_rfl))
  f265 := Try.func71.trans (congrArg some (by kernel_rfl))
  t3 := Try.underlying3
  a3 := Try.isAgg3
  z3 := Try.sizeOf3
  v3 := Try.zeroValue3
  t9 := Try.underlying9
  a9 := Try.isAgg9
  z9 := Try.sizeOf9
  v9 := Try.zeroValue9 }
open Go.RowKit in
/-- strings.Compare: "Compare returns an integer comparing two strings lexicographically. The result will be 0 if a == b, -1 if a < b, and +1 if a > b.": IT RETURNS 'Lib.compareBytes a b'; the world is as it was. (LAID: no walk: one application.) -/
theorem Try.strings_Compare (a b : ByteArray) (w : World) :
    Calls Try.prog 52 #[.string a, .string b] w fun e w' => e = .returned (.int .i64 (Lib.compareBytes a.data.toList b.data.toList)) ∧ w' = w := Any.strings_Compare Try.lays106 a b w
def Try.lays137_ren : Go.Shelf.Ren := ⟨fun | 137 => 70 | 217 => 73 | 266 => 74 | n => n, fun | 9 => 9 | 5 => 5 | 3 => 3 | n => n, fun | n => n⟩
theorem Try.lays137 : Go.Proofs.Lays.n137 Try.prog Try.lays137_ren := {
  mixed := by kernel_rfl
  f137 := Try.func70.trans (congrArg some (by kernel_rfl))
  f217 := Try.func73.trans (congrArg some (by kernel_rfl))
  f266 := Try.func74.trans (congrArg some (by kernel_rfl))
  t3 := Try.underlying3
  a3 := Try.isAgg3
  z3 := Try.sizeOf3
  v3 := Try.zeroValue3
  t5 := Try.underlying5
  a5 := Try.isAgg5
  z5 := Try.sizeOf5
  v5 := Try.zeroValue5
  t9 := Try.underlying9
  a9 := Try.isAgg9
  z9 := Try.sizeOf9
  v9 := Try.zeroValue9 }
open Go.RowKit in
/-- strings.IndexByte: "IndexByte returns the index of the first instance of c in s, or -1 if c is not present in s.": IT RETURNS 'Lib.indexByte s c'; the world is as it was. (LAID: no walk: one application.) -/
theorem Try.strings_IndexByte (s : ByteArray) (c : Int) (w : World) :
    Calls Try.prog 70 #[.string s, .int .u8 c] w fun e w' => e = .returned (.int .i64 (Lib.indexByte s.data.toList c.toNat.toUInt8)) ∧ w' = w := Any.strings_IndexByte Try.lays137 s c w
def Try.lays103_ren : Go.Shelf.Ren := ⟨fun | 103 => 48 | 210 => 61 | 206 => 69 | n => n, fun | 9 => 9 | 4 => 4 | 24 => 43 | 3 => 3 | n => n, fun | n => n⟩
theorem Try.lays103 : Go.Proofs.Lays.n103 Try.prog Try.lays103_ren := {
  mixed := by kernel_rfl
  f103 := Try.func48.trans (congrArg some (by kernel_rfl))
  f206 := Try.func69.trans (congrArg some (by kernel_rfl))
  f210 := Try.func61.trans (congrArg some (by kernel_rfl))
  t3 := Try.underlying3
  a3 := Try.isAgg3
  z3 := Try.sizeOf3
  v3 := Try.zeroValue3
  t4 := Try.underlying4
  a4 := Try.isAgg4
  z4 := Try.sizeOf4
  v4 := Try.zeroValue4
  t9 := Try.underlying9
  a9 := Try.isAgg9
  z9 := Try.sizeOf9
  v9 := Try.zeroValue9
  t24 := Try.underlying43
  a24 := Try.isAgg43
  z24 := Try.sizeOf43
  v24 := Try.zeroValue43 }
open Go.RowKit in
/-- strings.CutPrefix: "CutPrefix returns s without the provided leading prefix string and reports whether it found the prefix. If s doesn't start with prefix, CutPrefix returns s, false. If prefix is the empty string, CutPrefix returns s, true.": IT RETURNS '(Lib.trimPrefix s p, Lib.hasPrefix s p)'; the world is as it was. (LAID: no walk: one application.) -/
theorem Try.strings_CutPrefix (s p : ByteArray) (w : World) :
    Calls Try.prog 48 #[.string s, .string p] w fun e w' => e = .returned (.tuple #[.string ⟨(Lib.trimPrefix s.data.toList p.data.toList).toArray⟩, .bool (Lib.hasPrefix s.data.toList p.data.toList)]) ∧ w' = w := Any.strings_CutPrefix Try.lays103 s p w
end Go.Proofs
set_option linter.unusedVariables false
set_option linter.unusedSimpArgs false
namespace Go.Proofs.Ytgcbipflmhbpcaa
open Go.RowKit
def valC (c : Nat) : Int := if 48 ≤ c ∧ c ≤ 57 then (c : Int) - 48 else if 97 ≤ c ∧ c ≤ 102 then (c : Int) - 87 else if 65 ≤ c ∧ c ≤ 70 then (c : Int) - 55 else -1
theorem valC_index : ∀ c : Fin 256, Lib.indexByte [48, 49, 50, 51, 52, 53, 54, 55, 56, 57, 97, 98, 99, 100, 101, 102] ((if 65 ≤ c.val ∧ c.val ≤ 70 then c.val + 32 else c.val).toUInt8) = valC c.val := by decide +kernel
theorem ret_i64 {a b : Int} (h : a = b) : Ending.returned (.int .i64 a) = .returned (.int .i64 b) := by rw [h]
theorem value_any (c : Nat) (w : World) (h : c < 256) :
    Calls Try.prog 62 #[.int .u8 c] w fun e w' => e = .returned (.int .i64 (valC c)) ∧ w' = w := by
  have hv := Lib.hid (valC_index ⟨c, h⟩)
  by_cases h1 : 65 ≤ c ∧ c ≤ 70
  · obtain ⟨h1, h2⟩ := h1
    have h3 : (65 : Int) ≤ c := by omega
    have h4 : (c : Int) ≤ 70 := by omega
    go_enter Try.func62, Try.ntmps62
    go_wp2_with fail
    refine (Try.strings_IndexByte _ _ _).mono ?_
    rintro e w' ⟨rfl, rfl⟩
    go_wp2
    go_ret
    refine ⟨ret_i64 ?_, rfl⟩
    rw [← hv.out]
    simp only [h1, h2, and_self, if_true]
    congr 1
  · go_enter Try.func62, Try.ntmps62
    by_cases h3 : 65 ≤ (c : Int)
    · have h4 : 70 < (c : Int) := by omega
      go_wp2_with fail
      refine (Try.strings_IndexByte _ _ _).mono ?_
      rintro e w' ⟨rfl, rfl⟩
      go_wp2
      go_ret
      refine ⟨ret_i64 ?_, rfl⟩
      rw [← hv.out]
      simp [h1]
    · go_wp2_with fail
      refine (Try.strings_IndexByte _ _ _).mono ?_
      rintro e w' ⟨rfl, rfl⟩
      go_wp2
      go_ret
      refine ⟨ret_i64 ?_, rfl⟩
      rw [← hv.out]
      simp [h1]
/-- the reference's digit: 16 for none -/
def digR (c : Nat) : Int := if valC c = -1 then 16 else valC c
theorem digR_le (c : Nat) : 0 ≤ digR c ∧ digR c ≤ 16 := by
  unfold digR valC
  repeat' split
  all_goals omega
def sg (i : Nat) : Nat := if i < 10 then 48 + i else 87 + i
theorem sg_at : ∀ (i : Nat) (h : i < 16), ((⟨#[48, 49, 50, 51, 52, 53, 54, 55, 56, 57, 97, 98, 99, 100, 101, 102]⟩ : ByteArray)[i]'(by exact h)).toNat = sg i := by
  have : ∀ i : Fin 16, ((⟨#[48, 49, 50, 51, 52, 53, 54, 55, 56, 57, 97, 98, 99, 100, 101, 102]⟩ : ByteArray)[i.val]'(by exact i.isLt)).toNat = sg i.val := by decide
  exact fun i h => this ⟨i, h⟩
theorem digR_iff : ∀ (c : Fin 256) (i : Fin 16), digR c.val = (i.val : Int) ↔ c.val = sg i.val ∨ (10 ≤ i.val ∧ (c.val + 32) % 256 = sg i.val ∧ c.val < 97) := by decide +kernel
set_option maxHeartbeats 1600000 in
theorem digit_any (c : Nat) (w : World) (h : c < 256) :
    Calls Try.prog 64 #[.int .u8 c] w fun e w' => e = .returned (.int .i64 (digR c)) ∧ w' = w := by
  go_enter Try.func64, Try.ntmps64
  go_wp2
  go_loop [3] (fun s3 => ∃ i : Nat, i ≤ 16 ∧ s3 = .int .i64 i ∧ Hid ((i : Int) ≤ digR c)) (fun s3 => 16 - (intOf s3).toNat)
  case atStart => exact ⟨0, by omega, rfl, Lib.hid (digR_le c).1⟩
  case round =>
    obtain ⟨i, hi, rfl, hd⟩ := hrel
    by_cases h16 : i = 16
    · subst h16
      go_wp2
      go_ret
      have h1 := hd.out
      have h2 := (digR_le c).2
      exact ⟨ret_i64 (by omega), rfl⟩
    · have hcs : i = 0 ∨ i = 1 ∨ i = 2 ∨ i = 3 ∨ i = 4 ∨ i = 5 ∨ i = 6 ∨ i = 7 ∨ i = 8 ∨ i = 9 ∨ i = 10 ∨ i = 11 ∨ i = 12 ∨ i = 13 ∨ i = 14 ∨ i = 15 := by omega
      rcases hcs with rfl | rfl | rfl | rfl | rfl | rfl | rfl | rfl | rfl | rfl | rfl | rfl | rfl | rfl | rfl | rfl
      · have hiff := Lib.hid (digR_iff ⟨c, h⟩ ⟨0, by decide⟩)
        have hsg := Lib.hid (sg_at 0 (by decide))
        clear hi h16
        go_wp2
        all_goals
          have h1 := hd.out
          have h2 := hiff.out
          have h3 := hsg.out
          simp only [sg, Nat.reduceAdd, Nat.reduceLT, reduceIte, Nat.reduceLeDiff, false_and, or_false, true_and] at h2 h3
          try simp only [beq_iff_eq, beq_eq_false_iff_ne] at *
          first
          | (go_ret; exact ⟨ret_i64 (by omega), rfl⟩)
          | (go_round
             case rel => exact ⟨1, by omega, rfl, Lib.hid (by omega)⟩
             case measure => simp [intOf])
      · have hiff := Lib.hid (digR_iff ⟨c, h⟩ ⟨1, by decide⟩)
        have hsg := Lib.hid (sg_at 1 (by decide))
        clear hi h16
        go_wp2
        all_goals
          have h1 := hd.out
          have h2 := hiff.out
          have h3 := hsg.out
          simp only [sg, Nat.reduceAdd, Nat.reduceLT, reduceIte, Nat.reduceLeDiff, false_and, or_false, true_and] at h2 h3
          try simp only [beq_iff_eq, beq_eq_false_iff_ne] at *
          first
          | (go_ret; exact ⟨ret_i64 (by omega), rfl⟩)
          | (go_round
             case rel => exact ⟨2, by omega, rfl, Lib.hid (by omega)⟩
             case measure => simp [intOf])
      · have hiff := Lib.hid (digR_iff ⟨c, h⟩ ⟨2, by decide⟩)
        have hsg := Lib.hid (sg_at 2 (by decide))
        clear hi h16
        go_wp2
        all_goals
          have h1 := hd.out
          have h2 := hiff.out
          have h3 := hsg.out
          simp only [sg, Nat.reduceAdd, Nat.reduceLT, reduceIte, Nat.reduceLeDiff, false_and, or_false, true_and] at h2 h3
          try simp only [beq_iff_eq, beq_eq_false_iff_ne] at *
          first
          | (go_ret; exact ⟨ret_i64 (by omega), rfl⟩)
          | (go_round
             case rel => exact ⟨3, by omega, rfl, Lib.hid (by omega)⟩
             case measure => simp [intOf])
      · have hiff := Lib.hid (digR_iff ⟨c, h⟩ ⟨3, by decide⟩)
        have hsg := Lib.hid (sg_at 3 (by decide))
        clear hi h16
        go_wp2
        all_goals
          have h1 := hd.out
          have h2 := hiff.out
          have h3 := hsg.out
          simp only [sg, Nat.reduceAdd, Nat.reduceLT, reduceIte, Nat.reduceLeDiff, false_and, or_false, true_and] at h2 h3
          try simp only [beq_iff_eq, beq_eq_false_iff_ne] at *
          first
          | (go_ret; exact ⟨ret_i64 (by omega), rfl⟩)
          | (go_round
             case rel => exact ⟨4, by omega, rfl, Lib.hid (by omega)⟩
             case measure => simp [intOf])
      · have hiff := Lib.hid (digR_iff ⟨c, h⟩ ⟨4, by decide⟩)
        have hsg := Lib.hid (sg_at 4 (by decide))
        clear hi h16
        go_wp2
        all_goals
          have h1 := hd.out
          have h2 := hiff.out
          have h3 := hsg.out
          simp only [sg, Nat.reduceAdd, Nat.reduceLT, reduceIte, Nat.reduceLeDiff, false_and, or_false, true_and] at h2 h3
          try simp only [beq_iff_eq, beq_eq_false_iff_ne] at *
          first
          | (go_ret; exact ⟨ret_i64 (by omega), rfl⟩)
          | (go_round
             case rel => exact ⟨5, by omega, rfl, Lib.hid (by omega)⟩
             case measure => simp [intOf])
      · have hiff := Lib.hid (digR_iff ⟨c, h⟩ ⟨5, by decide⟩)
        have hsg := Lib.hid (sg_at 5 (by decide))
        clear hi h16
        go_wp2
        all_goals
          have h1 := hd.out
          have h2 := hiff.out
          have h3 := hsg.out
          simp only [sg, Nat.reduceAdd, Nat.reduceLT, reduceIte, Nat.reduceLeDiff, false_and, or_false, true_and] at h2 h3
          try simp only [beq_iff_eq, beq_eq_false_iff_ne] at *
          first
          | (go_ret; exact ⟨ret_i64 (by omega), rfl⟩)
          | (go_round
             case rel => exact ⟨6, by omega, rfl, Lib.hid (by omega)⟩
             case measure => simp [intOf])
      · have hiff := Lib.hid (digR_iff ⟨c, h⟩ ⟨6, by decide⟩)
        have hsg := Lib.hid (sg_at 6 (by decide))
        clear hi h16
        go_wp2
        all_goals
          have h1 := hd.out
          have h2 := hiff.out
          have h3 := hsg.out
          simp only [sg, Nat.reduceAdd, Nat.reduceLT, reduceIte, Nat.reduceLeDiff, false_and, or_false, true_and] at h2 h3
          try simp only [beq_iff_eq, beq_eq_false_iff_ne] at *
          first
          | (go_ret; exact ⟨ret_i64 (by omega), rfl⟩)
          | (go_round
             case rel => exact ⟨7, by omega, rfl, Lib.hid (by omega)⟩
             case measure => simp [intOf])
      · have hiff := Lib.hid (digR_iff ⟨c, h⟩ ⟨7, by decide⟩)
        have hsg := Lib.hid (sg_at 7 (by decide))
        clear hi h16
        go_wp2
        all_goals
          have h1 := hd.out
          have h2 := hiff.out
          have h3 := hsg.out
          simp only [sg, Nat.reduceAdd, Nat.reduceLT, reduceIte, Nat.reduceLeDiff, false_and, or_false, true_and] at h2 h3
          try simp only [beq_iff_eq, beq_eq_false_iff_ne] at *
          first
          | (go_ret; exact ⟨ret_i64 (by omega), rfl⟩)
          | (go_round
             case rel => exact ⟨8, by omega, rfl, Lib.hid (by omega)⟩
             case measure => simp [intOf])
      · have hiff := Lib.hid (digR_iff ⟨c, h⟩ ⟨8, by decide⟩)
        have hsg := Lib.hid (sg_at 8 (by decide))
        clear hi h16
        go_wp2
        all_goals
          have h1 := hd.out
          have h2 := hiff.out
          have h3 := hsg.out
          simp only [sg, Nat.reduceAdd, Nat.reduceLT, reduceIte, Nat.reduceLeDiff, false_and, or_false, true_and] at h2 h3
          try simp only [beq_iff_eq, beq_eq_false_iff_ne] at *
          first
          | (go_ret; exact ⟨ret_i64 (by omega), rfl⟩)
          | (go_round
             case rel => exact ⟨9, by omega, rfl, Lib.hid (by omega)⟩
             case measure => simp [intOf])
      · have hiff := Lib.hid (digR_iff ⟨c, h⟩ ⟨9, by decide⟩)
        have hsg := Lib.hid (sg_at 9 (by decide))
        clear hi h16
        go_wp2
        all_goals
          have h1 := hd.out
          have h2 := hiff.out
          have h3 := hsg.out
          simp only [sg, Nat.reduceAdd, Nat.reduceLT, reduceIte, Nat.reduceLeDiff, false_and, or_false, true_and] at h2 h3
          try simp only [beq_iff_eq, beq_eq_false_iff_ne] at *
          first
          | (go_ret; exact ⟨ret_i64 (by omega), rfl⟩)
          | (go_round
             case rel => exact ⟨10, by omega, rfl, Lib.hid (by omega)⟩
             case measure => simp [intOf])
      · have hiff := Lib.hid (digR_iff ⟨c, h⟩ ⟨10, by decide⟩)
        have hsg := Lib.hid (sg_at 10 (by decide))
        clear hi h16
        go_wp2
        all_goals
          have h1 := hd.out
          have h2 := hiff.out
          have h3 := hsg.out
          simp only [sg, Nat.reduceAdd, Nat.reduceLT, reduceIte, Nat.reduceLeDiff, false_and, or_false, true_and] at h2 h3
          try simp only [beq_iff_eq, beq_eq_false_iff_ne] at *
          first
          | (go_ret; exact ⟨ret_i64 (by omega), rfl⟩)
          | (go_round
             case rel => exact ⟨11, by omega, rfl, Lib.hid (by omega)⟩
             case measure => simp [intOf])
      · have hiff := Lib.hid (digR_iff ⟨c, h⟩ ⟨11, by decide⟩)
        have hsg := Lib.hid (sg_at 11 (by decide))
        clear hi h16
        go_wp2
        all_goals
          have h1 := hd.out
          have h2 := hiff.out
          have h3 := hsg.out
          simp only [sg, Nat.reduceAdd, Nat.reduceLT, reduceIte, Nat.reduceLeDiff, false_and, or_false, true_and] at h2 h3
          try simp only [beq_iff_eq, beq_eq_false_iff_ne] at *
          first
          | (go_ret; exact ⟨ret_i64 (by omega), rfl⟩)
          | (go_round
             case rel => exact ⟨12, by omega, rfl, Lib.hid (by omega)⟩
             case measure => simp [intOf])
      · have hiff := Lib.hid (digR_iff ⟨c, h⟩ ⟨12, by decide⟩)
        have hsg := Lib.hid (sg_at 12 (by decide))
        clear hi h16
        go_wp2
        all_goals
          have h1 := hd.out
          have h2 := hiff.out
          have h3 := hsg.out
          simp only [sg, Nat.reduceAdd, Nat.reduceLT, reduceIte, Nat.reduceLeDiff, false_and, or_false, true_and] at h2 h3
          try simp only [beq_iff_eq, beq_eq_false_iff_ne] at *
          first
          | (go_ret; exact ⟨ret_i64 (by omega), rfl⟩)
          | (go_round
             case rel => exact ⟨13, by omega, rfl, Lib.hid (by omega)⟩
             case measure => simp [intOf])
      · have hiff := Lib.hid (digR_iff ⟨c, h⟩ ⟨13, by decide⟩)
        have hsg := Lib.hid (sg_at 13 (by decide))
        clear hi h16
        go_wp2
        all_goals
          have h1 := hd.out
          have h2 := hiff.out
          have h3 := hsg.out
          simp only [sg, Nat.reduceAdd, Nat.reduceLT, reduceIte, Nat.reduceLeDiff, false_and, or_false, true_and] at h2 h3
          try simp only [beq_iff_eq, beq_eq_false_iff_ne] at *
          first
          | (go_ret; exact ⟨ret_i64 (by omega), rfl⟩)
          | (go_round
             case rel => exact ⟨14, by omega, rfl, Lib.hid (by omega)⟩
             case measure => simp [intOf])
      · have hiff := Lib.hid (digR_iff ⟨c, h⟩ ⟨14, by decide⟩)
        have hsg := Lib.hid (sg_at 14 (by decide))
        clear hi h16
        go_wp2
        all_goals
          have h1 := hd.out
          have h2 := hiff.out
          have h3 := hsg.out
          simp only [sg, Nat.reduceAdd, Nat.reduceLT, reduceIte, Nat.reduceLeDiff, false_and, or_false, true_and] at h2 h3
          try simp only [beq_iff_eq, beq_eq_false_iff_ne] at *
          first
          | (go_ret; exact ⟨ret_i64 (by omega), rfl⟩)
          | (go_round
             case rel => exact ⟨15, by omega, rfl, Lib.hid (by omega)⟩
             case measure => simp [intOf])
      · have hiff := Lib.hid (digR_iff ⟨c, h⟩ ⟨15, by decide⟩)
        have hsg := Lib.hid (sg_at 15 (by decide))
        clear hi h16
        go_wp2
        all_goals
          have h1 := hd.out
          have h2 := hiff.out
          have h3 := hsg.out
          simp only [sg, Nat.reduceAdd, Nat.reduceLT, reduceIte, Nat.reduceLeDiff, false_and, or_false, true_and] at h2 h3
          try simp only [beq_iff_eq, beq_eq_false_iff_ne] at *
          first
          | (go_ret; exact ⟨ret_i64 (by omega), rfl⟩)
          | (go_round
             case rel => exact ⟨16, by omega, rfl, Lib.hid (by omega)⟩
             case measure => simp [intOf])
end Go.Proofs.Ytgcbipflmhbpcaa
set_option linter.unusedVariables false
set_option linter.unusedSimpArgs false
namespace Go.Proofs.Ytgcbipflmhbpcaa
open Go.RowKit
def okD (base : Nat) (c : UInt8) : Bool := decide (0 ≤ valC c.toNat) && decide (valC c.toNat < base)
def stepD (base : Nat) (n : Nat) (c : UInt8) : Nat := n * base + (valC c.toNat).toNat
def numD (base : Nat) (l : List UInt8) : Nat := l.foldl (stepD base) 0
def rdE (base most : Nat) (l : List UInt8) : Int := if l = [] ∨ l.all (okD base) = false then 40 else if most < numD base l then 41 else 0
def rdN (base most : Nat) (l : List UInt8) : Nat := if rdE base most l = 0 then numD base l else 0
theorem numD_snoc (base : Nat) (l : List UInt8) (c : UInt8) : numD base (l ++ [c]) = numD base l * base + (valC c.toNat).toNat := by simp [numD, stepD]
theorem stepD_le (base : Nat) (hb : 1 ≤ base) (l : List UInt8) (n : Nat) : n ≤ l.foldl (stepD base) n := by
  induction l generalizing n with
  | nil => exact Nat.le_refl _
  | cons c l ih =>
    refine Nat.le_trans ?_ (ih _)
    unfold stepD
    have := Nat.le_mul_of_pos_right n (show 0 < base by omega)
    omega
theorem numD_mono (base : Nat) (hb : 1 ≤ base) (l m : List UInt8) : numD base l ≤ numD base (l ++ m) := by
  unfold numD
  rw [List.foldl_append]
  exact stepD_le base hb m _
theorem take_succ_get (l : List UInt8) (k : Nat) (h : k < l.length) : l.take (k + 1) = l.take k ++ [l[k]] := List.take_succ_eq_append_getElem h
theorem valC_bound (c : Nat) : -1 ≤ valC c ∧ valC c ≤ 15 := by
  unfold valC
  repeat' split
  all_goals omega
/-- what the loop of num.read holds: the digits so far are good, the number, whether it is beyond the greatest -/
def RInv (base most : Nat) (l : List UInt8) (n : Nat) (over : Bool) : Prop :=
  l.all (okD base) = true ∧ n < 18446744073709551616 ∧ (over = false → n = numD base l ∧ n ≤ most) ∧ (over = true → most < numD base l)
theorem RInv_step {base most : Nat} {l : List UInt8} {n : Nat} {over : Bool} {c : UInt8} (hb : 2 ≤ base) (hb2 : base ≤ 16) (hm : 16 ≤ most) (hm2 : most < 18446744073709551616)
    (h : RInv base most l n over) (hc : okD base c = true) :
    RInv base most (l ++ [c]) ((n * base + (valC c.toNat).toNat) % 18446744073709551616) (over || decide ((most - (valC c.toNat).toNat) / base < n)) := by
  obtain ⟨h1, h2, h3, h4⟩ := h
  have hv := valC_bound c.toNat
  refine ⟨by simp [h1, hc], Nat.mod_lt _ (by omega), ?_, ?_⟩
  · intro ho
    simp only [Bool.or_eq_false_iff, decide_eq_false_iff_not] at ho
    obtain ⟨rfl, hlt⟩ := ho
    obtain ⟨h5, h6⟩ := h3 rfl
    rw [numD_snoc, ← h5]
    have hle : n ≤ (most - (valC c.toNat).toNat) / base := by omega
    have := (Nat.le_div_iff_mul_le (by omega)).1 hle
    rw [Nat.mod_eq_of_lt (by omega)]
    exact ⟨rfl, by omega⟩
  · intro ho
    rw [numD_snoc]
    cases over with
    | true =>
      have h5 := h4 rfl
      have := Nat.le_mul_of_pos_right (numD base l) (show 0 < base by omega)
      omega
    | false =>
      simp only [Bool.false_or, decide_eq_true_eq] at ho
      obtain ⟨h5, h6⟩ := h3 rfl
      rw [← h5]
      have := (Nat.div_lt_iff_lt_mul (by omega)).1 ho
      omega
theorem rd_bad {base most : Nat} {l : List UInt8} {k : Nat} (hk : k < l.length) (h : okD base l[k] = false) : rdE base most l = 40 ∧ rdN base most l = 0 := by
  have h1 : l.all (okD base) = false := by
    rw [Bool.eq_false_iff]
    intro h'
    rw [List.all_eq_true] at h'
    have := h' l[k] (List.getElem_mem hk)
    rw [h] at this
    cases this
  have e : rdE base most l = 40 := by unfold rdE; rw [if_pos (Or.inr h1)]
  exact ⟨e, by unfold rdN; rw [e]; rfl⟩
theorem rd_nil (base most : Nat) : rdE base most [] = 40 ∧ rdN base most [] = 0 := by
  have e : rdE base most [] = 40 := by unfold rdE; rw [if_pos (Or.inl rfl)]
  exact ⟨e, by unfold rdN; rw [e]; rfl⟩
theorem rd_end {base most : Nat} {l : List UInt8} {n : Nat} {over : Bool} (hl : l ≠ []) (h : RInv base most l n over) : rdE base most l = (if over = true then 41 else 0) ∧ rdN base most l = (if over = true then 0 else n) := by
  obtain ⟨h1, h2, h3, h4⟩ := h
  cases over with
  | true =>
    have e : rdE base most l = 41 := by unfold rdE; rw [if_neg (by simp [hl, h1]), if_pos (h4 rfl)]
    exact ⟨e, by unfold rdN; rw [e]; rfl⟩
  | false =>
    obtain ⟨h5, h6⟩ := h3 rfl
    have e : rdE base most l = 0 := by unfold rdE; rw [if_neg (by simp [hl, h1]), if_neg (by omega)]
    exact ⟨e, by unfold rdN; rw [e]; simp [h5]⟩
/-- the reference goes out at the first number beyond the greatest -/
theorem rd_over {base most : Nat} {l : List UInt8} {k : Nat} (hb : 1 ≤ base) (h : l.all (okD base) = true) (hl : l ≠ []) (h1 : most < numD base (l.take k)) : rdE base most l = 41 ∧ rdN base most l = 0 := by
  have h2 := numD_mono base hb (l.take k) (l.drop k)
  rw [List.take_append_drop] at h2
  have e : rdE base most l = 41 := by unfold rdE; rw [if_neg (by simp [hl, h]), if_pos (by omega)]
  exact ⟨e, by unfold rdN; rw [e]; rfl⟩
theorem wrap_step (n base : Nat) (v : Int) (h0 : 0 ≤ v) : IntKind.u64.wrap (IntKind.u64.wrap ((n : Int) * (base : Int)) + v) = (((n * base + v.toNat) % 18446744073709551616 : Nat) : Int) := by
  obtain ⟨v, rfl⟩ := Int.eq_ofNat_of_zero_le h0
  have h : ∀ x : Int, IntKind.u64.wrap x = x % 18446744073709551616 := fun x => by simp [IntKind.wrap_u64]
  rw [h, h]
  simp
theorem over_step (n most base : Nat) (v : Int) (h0 : 0 ≤ v) (h1 : v ≤ most) : decide (((most : Int) - v) / (base : Int) < (n : Int)) = decide ((most - v.toNat) / base < n) := by
  obtain ⟨v, rfl⟩ := Int.eq_ofNat_of_zero_le h0
  have e : ((most : Int) - (v : Int)) / (base : Int) = (((most - v) / base : Nat) : Int) := by
    rw [show ((most : Int) - (v : Int)) = ((most - v : Nat) : Int) by omega]; simp
  rw [e]
  exact decide_eq_decide.2 Int.ofNat_lt
theorem ret_rd {a b c d : Int} (h : a = c) (h' : b = d) : Ending.returned (.tuple #[.int .u64 a, .int .i64 b]) = .returned (.tuple #[.int .u64 c, .int .i64 d]) := by rw [h, h']
set_option maxHeartbeats 800000 in
theorem read_any (s : ByteArray) (base most : Nat) (w : World) (hs : s.size ≤ 9223372036854775807) (hb : 2 ≤ base) (hb2 : base ≤ 16) (hm : 16 ≤ most) (hm2 : most < 18446744073709551616) :
    Calls Try.prog 49 #[.string s, .int .i64 base, .int .u64 most] w fun e w' =>
      e = .returned (.tuple #[.int .u64 (rdN base most s.data.toList : Nat), .int .i64 (rdE base most s.data.toList)]) ∧ w' = w := by
  by_cases h0 : s.toList = []
  · have hs0 : s.data.toList = [] := by rw [← ByteArray.toList_eq]; exact h0
    have hr := Lib.hid (rd_nil base most)
    rw [← hs0] at hr
    have h0' : s.toList.isEmpty = true := by rw [h0]; rfl
    clear hs0
    go_enter Try.func49, Try.ntmps49
    go_wp2
    go_ret2
    exact ⟨ret_rd (by rw [hr.out.2]; rfl) hr.out.1.symm, rfl⟩
  · have hl : Hid (s.data.toList ≠ []) := by rw [← ByteArray.toList_eq]; exact Lib.hid h0
    have h0' : s.toList.isEmpty = false := by simpa using h0
    have hlen : s.data.toList.length = s.size := by rw [Array.length_toList]; rfl
    have hlen' := Lib.hid hlen
    clear hlen
    go_enter Try.func49, Try.ntmps49
    go_wp2
    clear h0 h0'
    go_loop [8, 9, 16] (fun s8 s9 s16 => ∃ (k n : Nat) (over : Bool), k ≤ s.size ∧ s8 = .int .u64 n ∧ s9 = .bool over ∧ s16 = .int .i64 k ∧ Hid (RInv base most (s.data.toList.take k) n over)) (fun _ _ s16 => s.size - (intOf s16).toNat)
    case atStart => exact ⟨0, 0, false, by omega, rfl, rfl, rfl, Lib.hid ⟨by simp, by omega, by simp [numD], by simp⟩⟩
    case round =>
      obtain ⟨k, n, over, hk, rfl, rfl, rfl, hI⟩ := hrel
      have hn : n < 18446744073709551616 := hI.out.2.1
      by_cases hlt : k < s.size
      · have hkl : k < s.data.toList.length := by rw [hlen'.out]; exact hlt
        have hvb := valC_bound (s[k]'hlt).toNat
        by_cases hv : 0 ≤ valC (s[k]'hlt).toNat ∧ valC (s[k]'hlt).toNat < base
        · obtain ⟨hv1, hv2⟩ := hv
          obtain ⟨_, hvb⟩ := hvb
          have hc : okD base (s.data.toList[k]) = true := by
            unfold okD
            simp
            exact ⟨hv1, hv2⟩
          have hS : Hid (RInv base most (s.data.toList.take k ++ [s[k]'hlt]) ((n * base + (valC (s[k]'hlt).toNat).toNat) % 18446744073709551616) (over || decide ((most - (valC (s[k]'hlt).toNat).toNat) / base < n))) := Lib.hid (RInv_step hb hb2 hm hm2 hI.out hc)
          have hT : Hid (s.data.toList.take (k + 1) = s.data.toList.take k ++ [s[k]'hlt]) := Lib.hid (take_succ_get _ _ hkl)
          have hW := Lib.hid (wrap_step n base (valC (s[k]'hlt).toNat) hv1)
          have hO := Lib.hid (over_step n most base (valC (s[k]'hlt).toNat) hv1 (by omega))
          clear hc
          go_wp2_with fail
          refine (value_any _ _ (by exact (s[k]'hlt).toNat_lt)).mono ?_
          rintro e w' ⟨rfl, rfl⟩
          go_wp2
          all_goals
            go_round
            case rel =>
              refine ⟨k + 1, _, _, by omega, by rw [hW.out], rfl, by go_num, ?_⟩
              have := hS.out
              rw [hT.out]
              refine Lib.hid ?_
              first
              | (have ho : over = true := by assumption
                 subst ho
                 exact this)
              | (have ho : ¬ over = true := by assumption
                 have ho' : over = false := by simpa using ho
                 subst ho'
                 rw [hO.out]
                 exact this)
            case measure => simp [intOf]; omega
        · have hb' := Lib.hid (rd_bad (base := base) (most := most) hkl (by unfold okD; simp; intro h; have h' : ¬ valC (s[k]'hlt).toNat < base := fun h2 => hv ⟨h, h2⟩; exact Int.not_lt.1 h'))
          go_wp2_with fail
          refine (value_any _ _ (by exact (s[k]'hlt).toNat_lt)).mono ?_
          rintro e w' ⟨rfl, rfl⟩
          go_wp2
          all_goals
            go_ret2
            exact ⟨ret_rd (by rw [hb'.out.2]; rfl) hb'.out.1.symm, rfl⟩
      · have hk' : k = s.size := by omega
        have he : Hid (rdE base most s.data.toList = (if over = true then 41 else 0) ∧ rdN base most s.data.toList = (if over = true then 0 else n)) := by
          refine Lib.hid (rd_end hl.out ?_)
          have := hI.out
          rwa [List.take_of_length_le (by rw [hlen'.out]; omega)] at this
        clear hk'
        cases over
        · go_wp2
          go_ret2
          exact ⟨ret_rd (by rw [he.out.2]; rfl) (by rw [he.out.1]; rfl), rfl⟩
        · go_wp2
          go_ret2
          exact ⟨ret_rd (by rw [he.out.2]; rfl) (by rw [he.out.1]; rfl), rfl⟩
theorem digit_good (c : Nat) (w : World) (h : c < 256) (hv : 0 ≤ valC c) :
    Calls Try.prog 64 #[.int .u8 c] w fun e w' => e = .returned (.int .i64 (valC c)) ∧ w' = w := by
  have e : digR c = valC c := by
    unfold digR
    rw [if_neg (by omega)]
  rw [← e]
  exact digit_any c w h
theorem not_over {n base most : Nat} {v : Int} (hb : 2 ≤ base) (h0 : 0 ≤ v) (h : n * base + v.toNat ≤ most) : (n : Int) ≤ (most : Int) / (base : Int) ∧ (n : Int) * (base : Int) ≤ (most : Int) - v ∧ 0 ≤ (n : Int) * (base : Int) := by
  have h1 : n ≤ most / base := (Nat.le_div_iff_mul_le (by omega)).2 (by omega)
  refine ⟨by exact_mod_cast h1, ?_, by exact_mod_cast Nat.zero_le (n * base)⟩
  have : ((n * base : Nat) : Int) + v ≤ most := by omega
  simp only [Int.natCast_mul] at this
  omega
set_option maxHeartbeats 1600000 in
theorem digits_any (s : ByteArray) (base most : Nat) (w : World) (hs : s.size ≤ 9223372036854775807) (hb : 2 ≤ base) (hb2 : base ≤ 16) (hm : 16 ≤ most) (hm2 : most < 18446744073709551616) :
    Calls Try.prog 54 #[.string s, .int .i64 base, .int .u64 most] w fun e w' =>
      e = .returned (.tuple #[.int .u64 (rdN base most s.data.toList : Nat), .int .i64 (rdE base most s.data.toList)]) ∧ w' = w := by
  have hlen : s.data.toList.length = s.size := by rw [Array.length_toList]; rfl
  have hlen' := Lib.hid hlen
  by_cases h0 : s.size = 0
  · have hs0 : s.data.toList = [] := List.eq_nil_of_length_eq_zero (by omega)
    have hr := Lib.hid (rd_nil base most)
    rw [← hs0] at hr
    clear hs0 hlen
    go_enter Try.func54, Try.ntmps54
    go_wp2
    go_ret2
    exact ⟨ret_rd (by rw [hr.out.2]; rfl) hr.out.1.symm, rfl⟩
  · have hl : Hid (s.data.toList ≠ []) := by
      refine Lib.hid ?_
      intro h
      rw [h] at hlen
      exact h0 hlen.symm
    clear hlen
    have hz : ((s.size : Int) == 0) = false := by rw [beq_eq_false_iff_ne]; omega
    go_enter Try.func54, Try.ntmps54
    go_wp2
    go_loop [8] (fun s8 => ∃ k : Nat, k ≤ s.size ∧ s8 = .int .i64 k ∧ Hid ((s.data.toList.take k).all (okD base) = true)) (fun s8 => s.size - (intOf s8).toNat)
    case atStart => exact ⟨0, by omega, rfl, Lib.hid (by simp)⟩
    case round =>
      obtain ⟨k, hk, rfl, hI⟩ := hrel
      by_cases hlt : k < s.size
      · have hkl : k < s.data.toList.length := by rw [hlen'.out]; exact hlt
        have hvb := valC_bound (s[k]'hlt).toNat
        by_cases hv : 0 ≤ valC (s[k]'hlt).toNat ∧ valC (s[k]'hlt).toNat < base
        · obtain ⟨hv1, hv2⟩ := hv
          have hdg : digR (s[k]'hlt).toNat < (base : Int) := by
            unfold digR
            rw [if_neg (by omega)]
            exact hv2
          have hS : Hid ((s.data.toList.take (k + 1)).all (okD base) = true) := by
            refine Lib.hid ?_
            rw [take_succ_get _ _ hkl, List.all_append, hI.out]
            simp [okD]
            exact ⟨hv1, hv2⟩
          clear hv1 hv2 hvb
          go_wp2_with fail
          refine (digit_any _ _ (by exact (s[k]'hlt).toNat_lt)).mono ?_
          rintro e w' ⟨rfl, rfl⟩
          go_wp2
          all_goals
            go_round
            case rel => exact ⟨k + 1, by omega, by go_num, hS⟩
            case measure => simp [intOf]; omega
        · have hb' := Lib.hid (rd_bad (base := base) (most := most) hkl (by unfold okD; simp; intro h; have h' : ¬ valC (s[k]'hlt).toNat < base := fun h2 => hv ⟨h, h2⟩; exact Int.not_lt.1 h'))
          have hdg : (base : Int) ≤ digR (s[k]'hlt).toNat := by
            unfold digR
            split <;> omega
          clear hv hvb
          go_wp2_with fail
          refine (digit_any _ _ (by exact (s[k]'hlt).toNat_lt)).mono ?_
          rintro e w' ⟨rfl, rfl⟩
          go_wp2
          all_goals
            go_ret2
            exact ⟨ret_rd (by rw [hb'.out.2]; rfl) hb'.out.1.symm, rfl⟩
      · have hk' : k = s.size := by omega
        have hall : Hid (s.data.toList.all (okD base) = true) := by
          have := hI.out
          rw [List.take_of_length_le (by rw [hlen'.out]; omega)] at this
          exact Lib.hid this
        clear hk' hI
        go_wp2
        go_loop [9, 10] (fun s9 s10 => ∃ (k n : Nat), k ≤ s.size ∧ s9 = .int .u64 n ∧ s10 = .int .i64 k ∧ Hid (RInv base most (s.data.toList.take k) n false)) (fun _ s10 => s.size - (intOf s10).toNat)
        case atStart => exact ⟨0, 0, by omega, rfl, rfl, Lib.hid ⟨by simp, by omega, by simp [numD], by simp⟩⟩
        case round =>
          obtain ⟨k, n, hk, rfl, rfl, hI⟩ := hrel
          have hn : n < 18446744073709551616 := hI.out.2.1
          by_cases hlt : k < s.size
          · have hkl : k < s.data.toList.length := by rw [hlen'.out]; exact hlt
            have hc : okD base (s.data.toList[k]) = true := by
              have := hall.out
              rw [List.all_eq_true] at this
              exact this _ (List.getElem_mem hkl)
            have hv : 0 ≤ valC (s[k]'hlt).toNat ∧ valC (s[k]'hlt).toNat < base := by
              unfold okD at hc
              simp at hc
              exact hc
            have hvb := valC_bound (s[k]'hlt).toNat
            obtain ⟨hv1, hv2⟩ := hv
            obtain ⟨_, hvb⟩ := hvb
            have hS : Hid (RInv base most (s.data.toList.take k ++ [s[k]'hlt]) ((n * base + (valC (s[k]'hlt).toNat).toNat) % 18446744073709551616) (false || decide ((most - (valC (s[k]'hlt).toNat).toNat) / base < n))) := Lib.hid (RInv_step hb hb2 hm hm2 hI.out hc)
            have hT : Hid (s.data.toList.take (k + 1) = s.data.toList.take k ++ [s[k]'hlt]) := Lib.hid (take_succ_get _ _ hkl)
            clear hc
            have hq0 : 0 ≤ (most : Int) / (base : Int) := Int.ediv_nonneg (by omega) (by omega)
            have hq1 : (most : Int) / (base : Int) ≤ most := Int.ediv_le_self _ (by omega)
            by_cases hov : n * base + (valC (s[k]'hlt).toNat).toNat ≤ most
            · obtain ⟨ho1, ho2, ho3⟩ := not_over hb hv1 hov
              have hmod : Hid ((n * base + (valC (s[k]'hlt).toNat).toNat) % 18446744073709551616 = n * base + (valC (s[k]'hlt).toNat).toNat) := Lib.hid (Nat.mod_eq_of_lt (by omega))
              have hdec : Hid (decide ((most - (valC (s[k]'hlt).toNat).toNat) / base < n) = false) := by
                refine Lib.hid (decide_eq_false ?_)
                have := (Nat.le_div_iff_mul_le (show 0 < base by omega)).2 (show n * base ≤ most - (valC (s[k]'hlt).toNat).toNat by omega)
                omega
              have hcast : Hid ((n : Int) * (base : Int) + valC (s[k]'hlt).toNat = ((n * base + (valC (s[k]'hlt).toNat).toNat : Nat) : Int)) := by
                refine Lib.hid ?_
                rw [Int.natCast_add, Int.natCast_mul]
                omega
              clear hov
              go_wp2_with fail
              refine (digit_good _ _ (by exact (s[k]'hlt).toNat_lt) hv1).mono ?_
              rintro e w' ⟨rfl, rfl⟩
              go_wp2
              go_round
              case rel =>
                refine ⟨k + 1, n * base + (valC (s[k]'hlt).toNat).toNat, by omega, by rw [← hcast.out], by go_num, ?_⟩
                have := hS.out
                rw [hmod.out, hdec.out] at this
                rw [hT.out]
                exact Lib.hid this
              case measure => simp [intOf]; omega
            · have hbig : Hid (rdE base most s.data.toList = 41 ∧ rdN base most s.data.toList = 0) := by
                refine Lib.hid (rd_over (k := k + 1) (by omega) hall.out hl.out ?_)
                rw [hT.out, numD_snoc, ← (hI.out.2.2.1 rfl).1]
                exact Nat.not_le.1 hov
              have hge : (most : Int) / (base : Int) < n ∨ (most : Int) - valC (s[k]'hlt).toNat < (n : Int) * (base : Int) := by
                by_cases h1 : (most : Int) / (base : Int) < n
                · exact .inl h1
                · refine .inr ?_
                  have : (most : Int) < ((n * base : Nat) : Int) + valC (s[k]'hlt).toNat := by omega
                  rw [Int.natCast_mul] at this
                  omega
              have hnb : Hid ((n : Int) ≤ (most : Int) / (base : Int) → (n : Int) * (base : Int) ≤ most) := by
                refine Lib.hid fun h => ?_
                have h2 : n ≤ most / base := by exact_mod_cast h
                have h3 := (Nat.le_div_iff_mul_le (show 0 < base by omega)).1 h2
                exact_mod_cast h3
              have hnb0 : 0 ≤ (n : Int) * (base : Int) := by exact_mod_cast Nat.zero_le (n * base)
              clear hov
              by_cases h1 : (most : Int) / (base : Int) < n
              · clear hge
                go_wp2_with fail
                refine (digit_good _ _ (by exact (s[k]'hlt).toNat_lt) hv1).mono ?_
                rintro e w' ⟨rfl, rfl⟩
                go_wp2
                go_ret2
                exact ⟨ret_rd (by rw [hbig.out.2]; rfl) hbig.out.1.symm, rfl⟩
              · have h2 : (most : Int) - valC (s[k]'hlt).toNat < (n : Int) * (base : Int) := by omega
                have h3 := hnb.out (by omega)
                clear hge
                go_wp2_with fail
                refine (digit_good _ _ (by exact (s[k]'hlt).toNat_lt) hv1).mono ?_
                rintro e w' ⟨rfl, rfl⟩
                go_wp2
                go_ret2
                exact ⟨ret_rd (by rw [hbig.out.2]; rfl) hbig.out.1.symm, rfl⟩
          · have hk' : k = s.size := by omega
            have he := rd_end hl.out (by have := hI.out; rwa [List.take_of_length_le (by rw [hlen'.out]; omega)] at this)
            have he' := Lib.hid he
            clear he hk'
            go_wp2
            go_ret2
            exact ⟨ret_rd (by rw [he'.out.2]; rfl) (by rw [he'.out.1]; rfl), rfl⟩
end Go.Proofs.Ytgcbipflmhbpcaa
set_option linter.unusedVariables false
set_option linter.unusedSimpArgs false
namespace Go.Proofs.Ytgcbipflmhbpcaa
open Go.RowKit
theorem read_lit (s : ByteArray) (b m : Int) (base most : Nat) (w : World) (l : List UInt8) (hs : s.size ≤ 9223372036854775807) (eb : b = base) (em : m = most) (hb : 2 ≤ base) (hb2 : base ≤ 16) (hm : 16 ≤ most) (hm2 : most < 18446744073709551616) (hl : s.data.toList = l) :
    Calls Try.prog 49 #[.string s, .int .i64 b, .int .u64 m] w fun e w' =>
      e = .returned (.tuple #[.int .u64 (rdN base most l : Nat), .int .i64 (rdE base most l)]) ∧ w' = w := by
  subst eb em hl
  exact read_any s base most w hs hb hb2 hm hm2
theorem digits_lit (s : ByteArray) (b m : Int) (base most : Nat) (w : World) (l : List UInt8) (hs : s.size ≤ 9223372036854775807) (eb : b = base) (em : m = most) (hb : 2 ≤ base) (hb2 : base ≤ 16) (hm : 16 ≤ most) (hm2 : most < 18446744073709551616) (hl : s.data.toList = l) :
    Calls Try.prog 54 #[.string s, .int .i64 b, .int .u64 m] w fun e w' =>
      e = .returned (.tuple #[.int .u64 (rdN base most l : Nat), .int .i64 (rdE base most l)]) ∧ w' = w := by
  subst eb em hl
  exact digits_any s base most w hs hb hb2 hm hm2
def M63 : Nat := 9223372036854775808
def L63 : Nat := 9223372036854775807
/-- what Decimal comes to -/
def decD : List UInt8 → Int × Int
  | [] => (0, 40)
  | c :: t => if c = 45 then (-(rdN 10 M63 t : Int), rdE 10 M63 t) else if c = 43 then ((rdN 10 L63 t : Int), rdE 10 L63 t) else ((rdN 10 L63 (c :: t) : Int), rdE 10 L63 (c :: t))
theorem rdN_le (base most : Nat) (l : List UInt8) : rdN base most l ≤ most := by
  unfold rdN rdE
  repeat' split
  all_goals first | omega | simp_all
theorem str_nil_or (s : ByteArray) : (s.size = 0 ∧ s.data.toList = []) ∨ ∃ (h : 0 < s.size) (t : List UInt8), s.data.toList = (s[0]'h) :: t ∧ (s.extract 1 s.size).data.toList = t ∧ (s.extract 1 s.size).size ≤ s.size := by
  have hlen : s.data.toList.length = s.size := by rw [Array.length_toList]; rfl
  rcases Nat.eq_zero_or_pos s.size with h | h
  · exact .inl ⟨h, List.eq_nil_of_length_eq_zero (by omega)⟩
  · refine .inr ⟨h, s.data.toList.tail, ?_, ?_, ?_⟩
    · cases hc : s.data.toList with
      | nil => rw [hc] at hlen; simp at hlen; omega
      | cons c t =>
        have : s[0]'h = s.data.toList[0]'(by omega) := rfl
        rw [this]
        simp [hc]
    · rw [Lib.extract_data]
      have e : s.data.toList.drop 1 = s.data.toList.tail := by cases s.data.toList <;> rfl
      rw [e, List.take_of_length_le (by simp [hlen])]
    · have : (s.extract 1 s.size).data.toList.length = (s.extract 1 s.size).size := by rw [Array.length_toList]; rfl
      rw [← this, Lib.extract_data]
      simp only [List.length_take, List.length_drop]
      omega
theorem int_of_u64 (n : Nat) (h : n ≤ L63) : wrap64 (n : Int) = n := by unfold L63 at h; exact IntWalk.wrap64_in _ ⟨by omega, by omega⟩
theorem neg_u64 (n : Nat) (h : n ≤ M63) : wrap64 (IntKind.u64.wrap (-(n : Int))) = -(n : Int) := by
  unfold M63 at h
  simp only [IntKind.wrap_u64, wrap64]
  omega
theorem ret_ii {a b c d : Int} (h : a = c) (h' : b = d) : Ending.returned (.tuple #[.int .i64 a, .int .i64 b]) = .returned (.tuple #[.int .i64 c, .int .i64 d]) := by rw [h, h']
theorem byte_ne {c : UInt8} {k : Nat} (hk : k < 256) (h : ¬ c.toNat = k) : ¬ c = UInt8.ofNat k := by
  intro e
  rw [e] at h
  apply h
  simp
  omega
theorem byte_eq {c : UInt8} {k : Nat} (h : c.toNat = k) : c = UInt8.ofNat k := by
  rw [← h]; simp
theorem decD_nil {l : List UInt8} (h : l = []) : decD l = (0, 40) := by rw [h]; rfl
theorem decD_minus {l t : List UInt8} {c : UInt8} (hl : l = c :: t) (h : c.toNat = 45) : decD l = (-(rdN 10 M63 t : Int), rdE 10 M63 t) := by
  rw [hl]
  show (if c = 45 then _ else _) = _
  rw [if_pos (show c = 45 from byte_eq h)]
theorem decD_plus {l t : List UInt8} {c : UInt8} (hl : l = c :: t) (h : c.toNat = 43) : decD l = ((rdN 10 L63 t : Int), rdE 10 L63 t) := by
  rw [hl]
  show (if c = 45 then _ else _) = _
  rw [if_neg (show ¬ c = 45 from byte_ne (k := 45) (by omega) (by omega)), if_pos (show c = 43 from byte_eq h)]
theorem decD_other {l t : List UInt8} {c : UInt8} (hl : l = c :: t) (h : ¬ c.toNat = 45) (h2 : ¬ c.toNat = 43) : decD l = ((rdN 10 L63 l : Int), rdE 10 L63 l) := by
  rw [hl]
  show (if c = 45 then _ else _) = _
  rw [if_neg (show ¬ c = 45 from byte_ne (k := 45) (by omega) h), if_neg (show ¬ c = 43 from byte_ne (k := 43) (by omega) h2)]
set_option maxHeartbeats 800000 in
theorem rdecimal_any (s : ByteArray) (w : World) (hs : s.size ≤ 9223372036854775807) :
    Calls Try.prog 36 #[.string s] w fun e w' => e = .returned (.tuple #[.int .i64 (decD s.data.toList).1, .int .i64 (decD s.data.toList).2]) ∧ w' = w := by
  have hn1 := rdN_le 10 L63
  have hn2 := rdN_le 10 M63
  have hn1' := Lib.hid hn1
  have hn2' := Lib.hid hn2
  clear hn1 hn2
  rcases str_nil_or s with ⟨h0, hl⟩ | ⟨h0, t, hl, ht, hts⟩
  · have hD := Lib.hid (decD_nil hl)
    have hr := rd_nil 10 L63
    have hr' := Lib.hid hr
    have hl' := Lib.hid hl
    clear hr hl
    have h0' : ¬ 0 < s.size := by omega
    go_enter Try.func36, Try.ntmps36
    go_wp2_with fail
    refine (digits_lit _ _ _ 10 L63 _ [] hs rfl rfl (by omega) (by omega) (by decide) (by decide) hl'.out).mono ?_
    rintro e w' ⟨rfl, rfl⟩
    go_wp2
    go_ret2
    exact ⟨ret_ii (by rw [hD.out, hr'.out.2]; simp [wrap64]) (by rw [hD.out, hr'.out.1]), rfl⟩
  · have hl' := Lib.hid hl
    have ht' := Lib.hid ht
    clear hl ht
    by_cases h1 : (s[0]'h0).toNat = 45
    · have h1' : (((s[0]'h0).toNat : Int) == 45) = true := by rw [beq_iff_eq]; omega
      have hD := Lib.hid (decD_minus hl'.out h1)
      clear h1
      go_enter Try.func36, Try.ntmps36
      go_wp2_with fail
      refine (digits_lit _ _ _ 10 M63 _ t (by omega) rfl rfl (by omega) (by omega) (by decide) (by decide) ht'.out).mono ?_
      rintro e w' ⟨rfl, rfl⟩
      go_wp2
      go_ret2
      exact ⟨ret_ii (by rw [hD.out]; exact neg_u64 _ (hn2'.out t)) (by rw [hD.out]), rfl⟩
    · have h1' : (((s[0]'h0).toNat : Int) == 45) = false := by rw [beq_eq_false_iff_ne]; omega
      by_cases h2 : (s[0]'h0).toNat = 43
      · have h2' : (((s[0]'h0).toNat : Int) == 43) = true := by rw [beq_iff_eq]; omega
        have hD := Lib.hid (decD_plus hl'.out h2)
        clear h1 h2
        go_enter Try.func36, Try.ntmps36
        go_wp2_with fail
        refine (digits_lit _ _ _ 10 L63 _ t (by omega) rfl rfl (by omega) (by omega) (by decide) (by decide) ht'.out).mono ?_
        rintro e w' ⟨rfl, rfl⟩
        go_wp2
        go_ret2
        exact ⟨ret_ii (by rw [hD.out]; exact int_of_u64 _ (hn1'.out t)) (by rw [hD.out]), rfl⟩
      · have h2' : (((s[0]'h0).toNat : Int) == 43) = false := by rw [beq_eq_false_iff_ne]; omega
        have hD := Lib.hid (decD_other hl'.out h1 h2)
        clear h1 h2
        go_enter Try.func36, Try.ntmps36
        go_wp2_with fail
        refine (digits_lit _ _ _ 10 L63 _ s.data.toList (by omega) rfl rfl (by omega) (by omega) (by decide) (by decide) rfl).mono ?_
        rintro e w' ⟨rfl, rfl⟩
        go_wp2
        go_ret2
        exact ⟨ret_ii (by rw [hD.out]; exact int_of_u64 _ (hn1'.out _)) (by rw [hD.out]), rfl⟩
set_option maxHeartbeats 800000 in
theorem decimal_any (s : ByteArray) (w : World) (hs : s.size ≤ 9223372036854775807) :
    Calls Try.prog 31 #[.string s] w fun e w' => e = .returned (.tuple #[.int .i64 (decD s.data.toList).1, .int .i64 (decD s.data.toList).2]) ∧ w' = w := by
  have hn1' := Lib.hid (rdN_le 10 L63)
  have hn2' := Lib.hid (rdN_le 10 M63)
  have hlen : s.data.toList.length = s.size := by rw [Array.length_toList]; rfl
  have hcut : ∀ l : List UInt8, ((⟨l.toArray⟩ : ByteArray).data.toList = l ∧ (⟨l.toArray⟩ : ByteArray).size = l.length) := fun l => ⟨rfl, rfl⟩
  by_cases h1 : Lib.hasPrefix s.data.toList [45] = true
  · have hD : Hid (decD s.data.toList = (-(rdN 10 M63 (s.data.toList.tail) : Int), rdE 10 M63 (s.data.toList.tail)) ∧ Lib.trimPrefix s.data.toList [45] = s.data.toList.tail) := by
      refine Lib.hid ⟨?_, by unfold Lib.trimPrefix; rw [if_pos h1]; exact List.drop_one⟩
      cases hc : s.data.toList with
      | nil => rw [hc] at h1; simp [Lib.hasPrefix] at h1
      | cons c t =>
        rw [hc] at h1
        simp [Lib.hasPrefix] at h1
        exact decD_minus rfl (by rw [← h1]; rfl)
    have hsz : (s.data.toList.tail).length ≤ 9223372036854775807 := by simp only [List.length_tail]; omega
    go_enter Try.func31, Try.ntmps31
    go_wp2_with fail
    refine (Try.strings_CutPrefix _ _ _).mono ?_
    rintro e w' ⟨rfl, rfl⟩
    rw [show (⟨#[45]⟩ : ByteArray).data.toList = [45] from rfl, h1, hD.out.2]
    go_wp2_with fail
    refine (read_lit ⟨(s.data.toList.tail).toArray⟩ _ _ 10 M63 _ (s.data.toList.tail) hsz rfl rfl (by omega) (by omega) (by decide) (by decide) rfl).mono ?_
    rintro e w' ⟨rfl, rfl⟩
    go_wp2
    go_ret2
    exact ⟨ret_ii (by rw [hD.out.1]; exact neg_u64 _ (hn2'.out _)) (by rw [hD.out.1]), rfl⟩
  · have h1' : Lib.hasPrefix s.data.toList [45] = false := by simpa using h1
    have hT1 : Hid (Lib.trimPrefix s.data.toList [45] = s.data.toList) := by unfold Lib.trimPrefix; rw [if_neg h1]; exact Lib.hid rfl
    have hn45 : ∀ c t, s.data.toList = c :: t → ¬ c.toNat = 45 := by
      intro c t hc h
      rw [hc] at h1
      apply h1
      rw [byte_eq h]
      simp [Lib.hasPrefix]
    have hn45' := Lib.hid hn45
    clear hn45
    by_cases h2 : Lib.hasPrefix s.data.toList [43] = true
    · have hD : Hid (decD s.data.toList = ((rdN 10 L63 (s.data.toList.tail) : Int), rdE 10 L63 (s.data.toList.tail)) ∧ Lib.trimPrefix s.data.toList [43] = s.data.toList.tail) := by
        refine Lib.hid ⟨?_, by unfold Lib.trimPrefix; rw [if_pos h2]; exact List.drop_one⟩
        cases hc : s.data.toList with
        | nil => rw [hc] at h2; simp [Lib.hasPrefix] at h2
        | cons c t =>
          rw [hc] at h2
          simp [Lib.hasPrefix] at h2
          exact decD_plus rfl (by rw [← h2]; rfl)
      have hsz : (s.data.toList.tail).length ≤ 9223372036854775807 := by simp only [List.length_tail]; omega
      clear h1
      go_enter Try.func31, Try.ntmps31
      go_wp2_with fail
      refine (Try.strings_CutPrefix _ _ _).mono ?_
      rintro e w' ⟨rfl, rfl⟩
      rw [show (⟨#[45]⟩ : ByteArray).data.toList = [45] from rfl, h1', hT1.out]
      go_wp2_with fail
      refine (Try.strings_CutPrefix _ _ _).mono ?_
      rintro e w' ⟨rfl, rfl⟩
      rw [show (⟨#[43]⟩ : ByteArray).data.toList = [43] from rfl, h2, hD.out.2]
      go_wp2_with fail
      refine (read_lit ⟨(s.data.toList.tail).toArray⟩ _ _ 10 L63 _ (s.data.toList.tail) hsz rfl rfl (by omega) (by omega) (by decide) (by decide) rfl).mono ?_
      rintro e w' ⟨rfl, rfl⟩
      go_wp2
      go_ret2
      exact ⟨ret_ii (by rw [hD.out.1]; exact int_of_u64 _ (hn1'.out _)) (by rw [hD.out.1]), rfl⟩
    · have h2' : Lib.hasPrefix s.data.toList [43] = false := by simpa using h2
      have hT2 : Hid (Lib.trimPrefix s.data.toList [43] = s.data.toList) := by unfold Lib.trimPrefix; rw [if_neg h2]; exact Lib.hid rfl
      have hD : Hid (decD s.data.toList = ((rdN 10 L63 s.data.toList : Int), rdE 10 L63 s.data.toList)) := by
        refine Lib.hid ?_
        cases hc : s.data.toList with
        | nil => rw [decD_nil rfl, (rd_nil 10 L63).1, (rd_nil 10 L63).2]; rfl
        | cons c t =>
          refine decD_other rfl (hn45'.out c t hc) ?_
          intro h
          rw [hc] at h2
          apply h2
          rw [byte_eq h]
          simp [Lib.hasPrefix]
      have hsz : (s.data.toList).length ≤ 9223372036854775807 := by omega
      clear h1 h2
      go_enter Try.func31, Try.ntmps31
      go_wp2_with fail
      refine (Try.strings_CutPrefix _ _ _).mono ?_
      rintro e w' ⟨rfl, rfl⟩
      rw [show (⟨#[45]⟩ : ByteArray).data.toList = [45] from rfl, h1', hT1.out]
      go_wp2_with fail
      refine (Try.strings_CutPrefix _ _ _).mono ?_
      rintro e w' ⟨rfl, rfl⟩
      rw [show (⟨#[43]⟩ : ByteArray).data.toList = [43] from rfl, h2', hT2.out]
      go_wp2_with fail
      refine (read_lit _ _ _ 10 L63 _ s.data.toList hsz rfl rfl (by omega) (by omega) (by decide) (by decide) rfl).mono ?_
      rintro e w' ⟨rfl, rfl⟩
      go_wp2
      go_ret2
      exact ⟨ret_ii (by rw [hD.out]; exact int_of_u64 _ (hn1'.out _)) (by rw [hD.out]), rfl⟩
end Go.Proofs.Ytgcbipflmhbpcaa
set_option linter.unusedVariables false
set_option linter.unusedSimpArgs false
namespace Go.Proofs.Ytgcbipflmhbpcaa
open Go.RowKit
theorem below_drewN {B : Nat} {a w : World} (h : Below B a w) (n : Nat) : Below B a (w.drewN n) := ⟨h.os, h.tape, h.output, h.size, h.block⟩
theorem digs_len (b : Nat) (hb : 2 ≤ b) (k : Nat) : ∀ n, n < 2 ^ (k + 1) → (digs b n).length ≤ k + 1 := by
  induction k with
  | zero =>
    intro n hn
    rw [digs]
    rw [if_pos (by omega)]
    simp
  | succ k ih =>
    intro n hn
    rw [digs]
    split
    · simp
    · rw [List.length_append]
      have : n / b < 2 ^ (k + 1) := by
        have h1 : n / b ≤ n / 2 := Nat.div_le_div_left hb (by omega)
        rw [Nat.pow_succ] at hn
        omega
      have := ih _ this
      simp
      omega
theorem baseS_size (b n : Nat) (hn : n < 18446744073709551616) : (baseS b n).size ≤ 64 := by
  unfold baseS
  split
  · simp [ByteArray.size]
  · rw [strOfNums_size]
    exact digs_len b (by omega) 63 n hn
def textS (n : Int) : ByteArray := if n < 0 then ⟨#[45]⟩ ++ baseS 10 n.natAbs else baseS 10 n.natAbs
theorem base_lit (n b : Int) (k c : Nat) (w : World) (hn : n = k) (hb : b = c) (h1 : k < 18446744073709551616) :
    Calls Try.prog 44 #[.int .u64 n, .int .i64 b] w fun e w' => e = .returned (.string (baseS c k)) ∧ Below w.heap.size w w' := by
  subst hn hb
  exact base_any k c w h1
set_option maxHeartbeats 800000 in
theorem text_any (n : Int) (w : World) (h1 : -9223372036854775808 ≤ n) (h2 : n ≤ 9223372036854775807) :
    Calls Try.prog 28 #[.int .i64 n] w fun e w' => e = .returned (.string (textS n)) ∧ Below w.heap.size w w' := by
  by_cases h : n < 0
  · have hD : Hid (textS n = ⟨#[45]⟩ ++ baseS 10 n.natAbs) := by unfold textS; rw [if_pos h]; exact Lib.hid rfl
    have hsz := baseS_size 10 n.natAbs (by omega)
    go_enter Try.func28, Try.ntmps28
    go_wp2_with fail
    refine (base_lit _ _ n.natAbs 10 _ (by omega) rfl (by omega)).mono ?_
    rintro e w' ⟨rfl, hb⟩
    go_wp2
    go_ret
    exact ⟨ret_str hD.out.symm, hb⟩
  · have hD : Hid (textS n = baseS 10 n.natAbs) := by unfold textS; rw [if_neg h]; exact Lib.hid rfl
    go_enter Try.func28, Try.ntmps28
    go_wp2_with fail
    refine (base_lit _ _ n.natAbs 10 _ (by omega) rfl (by omega)).mono ?_
    rintro e w' ⟨rfl, hb⟩
    go_wp2
    go_ret
    exact ⟨ret_str hD.out.symm, hb⟩
theorem byteArray_inj {a b : ByteArray} (h : a.data.toList = b.data.toList) : a = b := by
  obtain ⟨⟨a⟩⟩ := a
  obtain ⟨⟨b⟩⟩ := b
  simp at h
  rw [h]
theorem signs_cut (d : Nat) (h : d < 16) : (⟨#[48, 49, 50, 51, 52, 53, 54, 55, 56, 57, 97, 98, 99, 100, 101, 102]⟩ : ByteArray).extract d (d + 1) = strOfNums [chr d] := by
  have : ∀ d : Fin 16, ((⟨#[48, 49, 50, 51, 52, 53, 54, 55, 56, 57, 97, 98, 99, 100, 101, 102]⟩ : ByteArray).extract d.val (d.val + 1)).data.toList = (strOfNums [chr d.val]).data.toList := by decide
  have := this ⟨d, h⟩
  exact byteArray_inj this
theorem strOfNums_append (a b : List Int) : strOfNums a ++ strOfNums b = strOfNums (a ++ b) := by
  apply byteArray_inj
  simp [strOfNums]
set_option maxHeartbeats 800000 in
theorem rbase_any (n : Nat) : ∀ (b : Int) (w : World), n < 18446744073709551616 →
    Calls Try.prog 53 #[.int .u64 n, .int .i64 b] w fun e w' => e = .returned (.string (baseS b.toNat n)) ∧ Below w.heap.size w w' := by
  induction n using Nat.strongRecOn with
  | ind n ih =>
  intro b w h1
  by_cases hb : b < 2 ∨ b > 16
  · have HE : Hid (baseS b.toNat n = ⟨#[]⟩) := by
      refine Lib.hid ?_
      unfold baseS
      rw [if_pos (by omega)]
    clear ih
    by_cases hb2 : b < 2
    · go_enter Try.func53, Try.ntmps53
      go_wp2
      go_ret
      exact ⟨ret_str HE.out.symm, Below.refl _ _⟩
    · have : 16 < b := by omega
      go_enter Try.func53, Try.ntmps53
      go_wp2
      go_ret
      exact ⟨ret_str HE.out.symm, Below.refl _ _⟩
  · obtain ⟨b, rfl⟩ : ∃ c : Nat, b = c := ⟨b.toNat, by omega⟩
    have hb1 : (2 : Int) ≤ b := by omega
    have hb2 : (b : Int) ≤ 16 := by omega
    have HE : Hid (∀ m, baseS (b : Int).toNat m = strOfNums (digs b m)) := by
      refine Lib.hid ?_
      intro m
      unfold baseS
      rw [if_neg (by omega)]
      simp
    clear hb
    have hmb0 : 0 ≤ ((n : Int) % (b : Int)) := Int.emod_nonneg _ (by omega)
    have hmb : ((n : Int) % (b : Int)) < 16 := by
      have := Int.emod_lt_of_pos (n : Int) (show (0 : Int) < b by omega); omega
    have hx : n % b < 16 := by have := Nat.mod_lt n (show b > 0 by omega); omega
    have hcut := Lib.hid (signs_cut (n % b) hx)
    have hto : ((n : Int) % (b : Int)).toNat = n % b := by rw [show ((n : Int) % (b : Int)) = ((n % b : Nat) : Int) by simp]; rfl
    have hto1 : ((n : Int) % (b : Int) + 1).toNat = n % b + 1 := by omega
    by_cases hlt : n < b
    · have hD : Hid (strOfNums (digs b n) = strOfNums [chr (n % b)]) := by
        rw [digs, if_pos (.inl hlt)]
        exact Lib.hid rfl
      clear ih
      go_enter Try.func53, Try.ntmps53
      go_wp2_with fail
      go_quiet (fail)
      go_wp2_with fail
      go_ret
      exact ⟨ret_str (by rw [HE.out, hD.out, hcut.out]), below_drewN (Below.refl _ _) _⟩
    · have hD : Hid (strOfNums (digs b n) = strOfNums (digs b (n / b)) ++ strOfNums [chr (n % b)]) := by
        rw [digs, if_neg (by omega), strOfNums_append]
        exact Lib.hid rfl
      have hq0 : 0 ≤ (n : Int) / (b : Int) := Int.ediv_nonneg (by omega) (by omega)
      have hq1 : (n : Int) / (b : Int) ≤ n := Int.ediv_le_self _ (by omega)
      have hqe := Lib.hid (show ((n : Int) / (b : Int)) = ((n / b : Nat) : Int) by simp)
      have hih := Lib.hid (ih (n / b) (Nat.div_lt_self (by omega) (by omega)) (b : Int))
      have hsz : (strOfNums (digs b (n / b))).size ≤ 64 := by have := baseS_size b (n / b) (by have := Nat.div_le_self n b; omega); rw [← HE.out]; simpa using this
      have hsz2 : ((⟨#[48, 49, 50, 51, 52, 53, 54, 55, 56, 57, 97, 98, 99, 100, 101, 102]⟩ : ByteArray).extract (n % b) (n % b + 1)).size ≤ 1 := by rw [hcut.out, strOfNums_size]; simp
      clear ih
      go_enter Try.func53, Try.ntmps53
      go_wp2_with fail
      go_quiet (fail)
      go_wp2_with fail
      refine (show Calls _ _ _ _ _ from (by rw [hqe.out]; exact hih.out _ (by have := Nat.div_le_self n b; omega)) : Calls Try.prog 53 #[.int .u64 ((n : Int) / (b : Int)), .int .i64 (b : Int)] _ fun e w' => e = .returned (.string (baseS (b : Int).toNat (n / b))) ∧ Below _ _ w').mono ?_
      rintro e w' ⟨rfl, hbw⟩
      rw [HE.out]
      go_wp2
      go_ret
      exact ⟨ret_str (by rw [HE.out, hD.out, hcut.out]), (below_drewN (Below.refl _ _) _).trans hbw⟩
theorem rbase_lit (n b : Int) (k c : Nat) (w : World) (hn : n = k) (hb : b = c) (h1 : k < 18446744073709551616) :
    Calls Try.prog 53 #[.int .u64 n, .int .i64 b] w fun e w' => e = .returned (.string (baseS c k)) ∧ Below w.heap.size w w' := by
  subst hn hb
  exact rbase_any k c w h1
set_option maxHeartbeats 800000 in
theorem rtext_any (n : Int) (w : World) (h1 : -9223372036854775808 ≤ n) (h2 : n ≤ 9223372036854775807) :
    Calls Try.prog 33 #[.int .i64 n] w fun e w' => e = .returned (.string (textS n)) ∧ Below w.heap.size w w' := by
  by_cases h : n < 0
  · have hD : Hid (textS n = ⟨#[45]⟩ ++ baseS 10 n.natAbs) := by unfold textS; rw [if_pos h]; exact Lib.hid rfl
    have hsz := baseS_size 10 n.natAbs (by omega)
    go_enter Try.func33, Try.ntmps33
    go_wp2_with fail
    refine (rbase_lit _ _ n.natAbs 10 _ (by simp only [IntKind.wrap_u64]; omega) rfl (by omega)).mono ?_
    rintro e w' ⟨rfl, hb⟩
    go_wp2
    go_ret
    exact ⟨ret_str hD.out.symm, hb⟩
  · have hD : Hid (textS n = baseS 10 n.natAbs) := by unfold textS; rw [if_neg h]; exact Lib.hid rfl
    go_enter Try.func33, Try.ntmps33
    go_wp2_with fail
    refine (rbase_lit _ _ n.natAbs 10 _ (by omega) rfl (by omega)).mono ?_
    rintro e w' ⟨rfl, hb⟩
    go_wp2
    go_ret
    exact ⟨ret_str hD.out.symm, hb⟩
end Go.Proofs.Ytgcbipflmhbpcaa
set_option linter.unusedVariables false
set_option linter.unusedSimpArgs false
namespace Go.Proofs.Ytgcbipflmhbpcaa
open Go
def asB (l : List UInt8) : ByteArray := ⟨l.toArray⟩
theorem asB_toList (s : ByteArray) : asB s.data.toList = s := by cases s; simp [asB]
end Go.Proofs.Ytgcbipflmhbpcaa
namespace Go.Proofs.Ytgcbipflmhbpcaa
open Go.RowKit Go.Proofs.YtgcbipflmhbpcaaW.PrintWords
def num_Decimal.f (a0 : ByteArray) : Option (Int × Int) := if a0.size ≤ 9223372036854775807 then some (decD a0.data.toList) else none
theorem num_Decimal.calls (a0 : ByteArray) (r1 r2 : Int) (w : World) (h : num_Decimal.f a0 = some (r1, r2)) :
    Calls Try.prog 31 #[.string a0] w fun e w' => e = .returned (.tuple #[.int .i64 r1, .int .i64 r2]) ∧ Drawn0 w w' := by
  unfold num_Decimal.f at h
  split at h
  · rename_i hs
    have h := Option.some.inj h
    refine (decimal_any a0 w hs).mono ?_
    rw [h]
    rintro e w' ⟨rfl, rfl⟩
    exact ⟨rfl, Drawn0.refl _⟩
  · cases h
def rehearsalref01_Decimal.f (a0 : ByteArray) : Option (Int × Int) := if a0.size ≤ 9223372036854775807 then some (decD a0.data.toList) else none
theorem rehearsalref01_Decimal.calls (a0 : ByteArray) (r1 r2 : Int) (w : World) (h : rehearsalref01_Decimal.f a0 = some (r1, r2)) :
    Calls Try.prog 36 #[.string a0] w fun e w' => e = .returned (.tuple #[.int .i64 r1, .int .i64 r2]) ∧ Drawn0 w w' := by
  unfold rehearsalref01_Decimal.f at h
  split at h
  · rename_i hs
    have h := Option.some.inj h
    refine (rdecimal_any a0 w hs).mono ?_
    rw [h]
    rintro e w' ⟨rfl, rfl⟩
    exact ⟨rfl, Drawn0.refl _⟩
  · cases h
def num_Text.f (a0 : Int) : Option ByteArray := if -9223372036854775808 ≤ a0 ∧ a0 ≤ 9223372036854775807 then some (textS a0) else none
theorem num_Text.calls (a0 : Int) (r : ByteArray) (w : World) (h : num_Text.f a0 = some r) :
    Calls Try.prog 28 #[.int .i64 a0] w fun e w' => e = .returned (.string r) ∧ Below w.heap.size w w' := by
  unfold num_Text.f at h
  split at h
  · rename_i hs
    cases h
    exact text_any a0 w hs.1 hs.2
  · cases h
def rehearsalref01_Text.f (a0 : Int) : Option ByteArray := if -9223372036854775808 ≤ a0 ∧ a0 ≤ 9223372036854775807 then some (textS a0) else none
theorem rehearsalref01_Text.calls (a0 : Int) (r : ByteArray) (w : World) (h : rehearsalref01_Text.f a0 = some r) :
    Calls Try.prog 33 #[.int .i64 a0] w fun e w' => e = .returned (.string r) ∧ Below w.heap.size w w' := by
  unfold rehearsalref01_Text.f at h
  split at h
  · rename_i hs
    cases h
    exact rtext_any a0 w hs.1 hs.2
  · cases h
def strings_Join.f (l0 : List ByteArray) (a1 : ByteArray) : Option ByteArray :=
  if l0.length ≤ 140737488355328 ∧ (Lib.join (l0.map (·.data.toList)) a1.data.toList).length ≤ 140737488355328 then some (asB (Lib.join (l0.map (·.data.toList)) a1.data.toList)) else none
theorem strings_Join.calls (A0 : Option Addr) (c0 : Nat) (l0 : List ByteArray) (a1 : ByteArray) (r : ByteArray) (w : World) (hr0 : Kd.C Kd.string w A0 l0.length l0) (hc0 : l0.length ≤ c0) (h : strings_Join.f l0 a1 = some r) :
    Calls Try.prog 29 #[.slice A0 l0.length c0, .string a1] w fun e w' => e = .returned (.string r) ∧ Below w.heap.size w w' := by
  unfold strings_Join.f at h
  split at h
  · rename_i hs
    cases h
    by_cases h0 : l0 = []
    · subst h0
      refine (Try.strings_Join_none A0 c0 a1 w).mono ?_
      rintro e w' ⟨rfl, rfl⟩
      exact ⟨rfl, Below.refl _ _⟩
    · have hpos := List.length_pos_iff.2 h0
      obtain ⟨ad, rfl, hcell⟩ := hr0.2.2 hpos
      have hat : ∀ (j : Nat) x, l0[j]? = some x → w.cell? (ad.add j) = some (.string x) := fun j x hx => by
        obtain ⟨c, _, hc, hu⟩ := hcell j x hx
        have hc' : c = [Value.string x] := hc
        have h1 := hu 0 (.string x) (by rw [hc']; rfl)
        rw [show (Kd.string).sz = 1 from rfl, Nat.mul_one, Nat.add_zero] at h1
        exact h1
      obtain ⟨x0, hx0⟩ : ∃ x0, l0[0]? = some x0 := ⟨l0[0], List.getElem?_eq_getElem hpos⟩
      have h00 := hat 0 x0 hx0
      have hsp : ad.spot = none ∧ ad.block < w.heap.size := by
        simp only [Addr.add, if_true, World.cell?] at h00
        split at h00
        · rename_i c t f hb
          cases hsq : ad.spot with
          | none => exact ⟨rfl, (Array.getElem?_eq_some_iff.1 hb).1⟩
          | some z => rw [hsq] at h00; simp at h00
        · cases h00
      obtain ⟨b, o, sp⟩ := ad
      obtain ⟨rfl, hb⟩ := hsp
      refine Try.strings_Join b o c0 l0 a1 w (fun j x hx => ?_) hb hs.1 hc0 hs.2
      have := hat j x hx
      unfold Addr.add at this
      split at this
      · rename_i hj; subst hj; exact this
      · exact this
  · cases h
def strings_Compare.f (a0 a1 : ByteArray) : Option Int := some (Lib.compareBytes a0.data.toList a1.data.toList)
theorem strings_Compare.calls (a0 a1 : ByteArray) (r : Int) (w : World) (h : strings_Compare.f a0 a1 = some r) :
    Calls Try.prog 52 #[.string a0, .string a1] w fun e w' => e = .returned (.int .i64 r) ∧ Drawn0 w w' := by
  cases h
  refine (Try.strings_Compare a0 a1 w).mono ?_
  rintro e w' ⟨rfl, rfl⟩
  exact ⟨rfl, Drawn0.refl _⟩
end Go.Proofs.Ytgcbipflmhbpcaa
namespace Go.Proofs.Ytgcbipflmhbpcaa.PV
open Go.RowKit Go.Proofs.YtgcbipflmhbpcaaW.PrintWords Go.Proofs.YtgcbipflmhbpcaaW.PrintLast Go.Proofs.YtgcbipflmhbpcaaW.PrintMore
attribute [local go_sem] max2_int min2_int max_two min_two max_three min_three max_four min_four   -- for this text's walks alone
set_option linter.unusedVariables false
set_option linter.unusedSimpArgs false
def vars_Table_place_1.f (a0_0 : ByteArray) (a0_1 : ByteArray) (a1 : ByteArray) : Option (Int) := (strings_Compare.f a0_0 a1).bind fun t102 => (some t102)
set_option maxHeartbeats 8000000 in
set_option maxRecDepth 100000 in
theorem vars_Table_place_1.calls (a0_0 : ByteArray) (a0_1 : ByteArray) (a1 : ByteArray) (r : Int) (w : World) (h : vars_Table_place_1.f a0_0 a0_1 a1 = some r) :
    Calls Try.prog 51 #[.agg #[.string a0_0, .string a0_1], .string a1] w fun e w' => e = .returned (.int .i64 r) ∧ Below w.heap.size w w' := by
  have hu26 := Try.underlying26
  have HB := Aside0.mk (Below.refl w.heap.size w)
  have H : ((strings_Compare.f a0_0 a1).bind fun t102 => (some t102)) = some r := h
  clear h
  replace H := Option.bind_eq_some_iff.mp H
  obtain ⟨t102, A30, H⟩ := H
  replace H : (some t102) = some r := H
  have A3 := Aside0.mk A30
  clear A30
  obtain rfl := Option.some.inj H
  go_enter Try.func51, Try.ntmps51
  go_wp2_with (first | ((with_reducible refine gate_dst (N := 2) rfl ?_); refine box_event ?hg (N := 2) ?hd (cs := #[.string a0_0, .string a0_1]) (t := 26) ?hr ?_; (case hd => rfl); (case hg => rfl); (case hr => first | (go_simp; done) | (go_simp; rfl)); intro gb101 hg w4 hbox hb; have n0_ := Aside0.mk (below_step (by repeat (first | (with_reducible first | exact HB.out | apply below_alloc | apply pw_below_drewN | apply below_drew1) | exact HB.out)) hb); have n1_ := Aside0.mk (hbox); have n2_ := Aside0.mk ((by rw [hg]; exact (below_size (by repeat (first | (with_reducible first | exact HB.out | apply below_alloc | apply pw_below_drewN | apply below_drew1) | exact HB.out))) : w.heap.size ≤ gb101)); have n3_ := Aside0.mk ((by rw [hg]; exact (below_size (by repeat (first | (with_reducible first | exact HB.out | apply below_alloc | apply pw_below_drewN | apply below_drew1) | exact HB.out))) : w.heap.size ≤ gb101)); clear HB; have HB := n0_; have BK101 := n1_; have GW101 := n2_; have GE101 := n3_; clear n0_ n1_ n2_ n3_; clear hb hbox hg; have hcz5_0 : w4.cell? ⟨gb101, 0, none⟩ = some (.string a0_0) := (blk_cell BK101.out 0).trans rfl; have hcz5_1 : w4.cell? ⟨gb101, 1, none⟩ = some (.string a0_1) := (blk_cell BK101.out 1).trans rfl; have hfz5_0 := blk_frozen BK101.out 0; have hfz5_1 := blk_frozen BK101.out 1) | ((with_reducible refine gate_callee (f := 52) rfl ?_); refine goesL_ (some 8) rfl rfl Try.func52 (by kernel_rfl) rfl #[.string a0_0, .string a1] rfl (by (try simp only [List.map_toArray, List.map_cons, List.map_nil]); first | done | rfl | (simp only [List.length_drop, List.length_take]; rfl)) ?_; (with_reducible refine (strings_Compare.calls a0_0 a1 t102 _ A3.out).mono ?_); rintro e w' ⟨rfl, ⟨nd, rfl⟩⟩; refine ⟨_, rfl, ?_⟩))
  go_ret
  exact ⟨by first | rfl | (simp [errW_none, errW_some] <;> rfl) | (simp [*, errW_none, errW_some] <;> rfl), by repeat (first | (with_reducible first | exact HB.out | apply below_alloc | apply pw_below_drewN | apply below_drew1 | refine below_set ?_ GE101.out) | exact HB.out)⟩
end Go.Proofs.Ytgcbipflmhbpcaa.PV
namespace Go.Proofs.Ytgcbipflmhbpcaa.PV
open Go.RowKit Go.Proofs.YtgcbipflmhbpcaaW.PrintWords Go.Proofs.YtgcbipflmhbpcaaW.PrintLast Go.Proofs.YtgcbipflmhbpcaaW.PrintMore
attribute [local go_sem] max2_int min2_int max_two min_two max_three min_three max_four min_four   -- for this text's walks alone
set_option linter.unusedVariables false
set_option linter.unusedSimpArgs false
def api_Var_string.l0 : Nat → List (S26) → ByteArray → Int → Int → Int → Option (Int × Bool)
  | 0, _, _, _, _, _ => none
  | k + 1, x0, x1, x8, x9, x10 => if x9 < x10 then (if 0 ≤ (wrap64 ((IntKind.u64.wrap (wrap64 (x9 + x10))) / 2)) then (if (wrap64 ((IntKind.u64.wrap (wrap64 (x9 + x10))) / 2)) < (x0.length : Int) then ((vars_Table_place_1.f ((rd_T26 x0 (wrap64 ((IntKind.u64.wrap (wrap64 (x9 + x10))) / 2))).f0) ((rd_T26 x0 (wrap64 ((IntKind.u64.wrap (wrap64 (x9 + x10))) / 2))).f1) x1).bind fun t104 => (if t104 < 0 then (api_Var_string.l0 k x0 x1 x8 (wrap64 ((wrap64 ((IntKind.u64.wrap (wrap64 (x9 + x10))) / 2)) + 1)) x10) else (api_Var_string.l0 k x0 x1 x8 x9 (wrap64 ((IntKind.u64.wrap (wrap64 (x9 + x10))) / 2))))) else (none)) else (none)) else (if x9 < x8 then (if 0 ≤ x9 then (if x9 < (x0.length : Int) then ((vars_Table_place_1.f ((rd_T26 x0 x9).f0) ((rd_T26 x0 x9).f1) x1).bind fun t106 => (some (x9, (t106 == 0)))) else (none)) else (none)) else (some (x9, false)))
def api_Var_string.f (k : Nat) (l0 : List (S26)) (a1 : ByteArray) (a2 : Int) : Option (Int × Bool) := api_Var_string.l0 k l0 a1 (l0.length : Int) 0 (l0.length : Int)
set_option maxHeartbeats 8000000 in
set_option maxRecDepth 100000 in
theorem api_Var_string.calls (k : Nat) (A0 : Option Addr) (c0 : Nat) (l0 : List (S26)) (a1 : ByteArray) (a2 : Int) (r1 : Int) (r2 : Bool) (w : World) (hr0 : Kd.C k26 w A0 l0.length l0) (hc0 : l0.length ≤ c0) (h : api_Var_string.f k l0 a1 a2 = some (r1, r2)) :
    Calls Try.prog 50 #[.slice A0 l0.length c0, .string a1, .func (.func 51) #[] #[]] w fun e w' => e = .returned (.tuple #[.int .i64 r1, .bool r2]) ∧ Below w.heap.size w w' := by
  have hu26 := Try.underlying26
  have HR0 := Aside0.mk hr0
  have HC0 := Aside0.mk hc0
  clear hr0 hc0
  have HB := Aside0.mk (Below.refl w.heap.size w)
  have H : (api_Var_string.l0 k l0 a1 (l0.length : Int) 0 (l0.length : Int)) = some (r1, r2) := h
  clear h
  have H' := Aside0.mk H
  clear H
  go_enter Try.func50, Try.ntmps50
  go_wp2
  go_loopg [9, 10] k (fun kq v9 v10 w' => ∃ (x9_1 : Int) (x10_1 : Int), v9 = .int .i64 x9_1 ∧ v10 = .int .i64 x10_1 ∧ Aside0 (api_Var_string.l0 kq l0 a1 (l0.length : Int) x9_1 x10_1 = some (r1, r2)) ∧ Aside0 (kq ≤ k) ∧ Aside0 (Below w.heap.size w w'))
  case atStart => exact ⟨(0), ((l0.length : Int)), (by first | rfl | (simp; done) | (simp [*]; done)), (by first | rfl | (simp; done) | (simp [*]; done)), H', ⟨Nat.le_refl _⟩, ⟨by repeat (first | (with_reducible first | exact HB.out | apply below_alloc | apply pw_below_drewN | apply below_drew1) | exact HB.out)⟩⟩
  case round =>
    clear H'
    try clear p2
    obtain ⟨x9_1, x10_1, rfl, rfl, HA, HK1, HB⟩ := hrel
    cases gk with
    | zero => exact absurd HA.out (by simp [api_Var_string.l0])
    | succ k1 =>
      have H := HA.out
      clear HA
      simp only [api_Var_string.l0] at H
      by_cases c4 : x9_1 < x10_1
      · rw [if_pos c4] at H
        have c4b0 : decide (x9_1 < x10_1) = true := decide_eq_true c4
        clear c4
        obtain ⟨ji5, hji5⟩ : ∃ j_ : Int, (wrap64 ((IntKind.u64.wrap (wrap64 (x9_1 + x10_1))) / 2)) = j_ := ⟨_, rfl⟩
        replace H : (if 0 ≤ (ji5) then (if (ji5) < (l0.length : Int) then ((vars_Table_place_1.f ((rd_T26 l0 (ji5)).f0) ((rd_T26 l0 (ji5)).f1) a1).bind fun t104 => (if t104 < 0 then (api_Var_string.l0 k1 l0 a1 (l0.length : Int) (wrap64 ((ji5) + 1)) x10_1) else (api_Var_string.l0 k1 l0 a1 (l0.length : Int) x9_1 ji5))) else (none)) else (none)) = some (r1, r2) := by first | (rw [hji5] at H; exact H) | (simp only [hji5] at H ⊢; exact H)
        have hji5w : (IntKind.i64.wrap ((IntKind.u64.wrap (wrap64 (x9_1 + x10_1))) / 2)) = ji5 := (i64_w _).trans hji5
        by_cases c6 : 0 ≤ (ji5)
        · rw [if_pos c6] at H
          have c6b0 : decide (0 ≤ (ji5)) = true := decide_eq_true c6
          clear c6
          by_cases c7 : (ji5) < (l0.length : Int)
          · rw [if_pos c7] at H
            have c7b0 : decide ((ji5) < (l0.length : Int)) = true := decide_eq_true c7
            clear c7
            replace H := Option.bind_eq_some_iff.mp H
            obtain ⟨t104, A80, H⟩ := H
            replace H : (if t104 < 0 then (api_Var_string.l0 k1 l0 a1 (l0.length : Int) (wrap64 ((ji5) + 1)) x10_1) else (api_Var_string.l0 k1 l0 a1 (l0.length : Int) x9_1 ji5)) = some (r1, r2) := H
            have A8 := Aside0.mk A80
            clear A80
            by_cases c9 : t104 < 0
            · rw [if_pos c9] at H
              have c9b0 : decide (t104 < 0) = true := decide_eq_true c9
              clear c9
              have H' := Aside0.mk H
              clear H
              have p103 : 0 ≤ ((ji5) : Int) := of_decide_eq_true (by first | (with_reducible assumption) | assumption)
              have q103 : (ji5) < (l0.length : Int) := of_decide_eq_true (by first | (with_reducible assumption) | assumption)
              obtain ⟨ad103, e103, hx103_0, hx103_1⟩ := at_T26 HR0.out (ji5) p103 q103
              cases e103
              replace hx103_0 := (HB.out.cell (World.block_lt_of_cell? w _ hx103_0)).trans hx103_0
              replace hx103_1 := (HB.out.cell (World.block_lt_of_cell? w _ hx103_1)).trans hx103_1
              replace p103 := eq_true p103
              replace q103 := eq_true q103
              go_wp2_with (first | (go_at_call 51; (with_reducible refine (vars_Table_place_1.calls ((rd_T26 l0 (ji5)).f0) ((rd_T26 l0 (ji5)).f1) a1 t104 _ A8.out).mono ?_); rintro e w10 ⟨rfl, hb⟩; have n0_ := Aside0.mk (below_step (by repeat (first | (with_reducible first | exact HB.out | apply below_alloc | apply pw_below_drewN | apply below_drew1) | exact HB.out)) hb); clear HB; have HB := n0_; clear n0_; (try clear hb); (try clear hb2); (try clear hk); (try clear hi)))
              go_roundg k1
              case measure => have := HK1.out; omega
              case rel => exact ⟨(wrap64 ((ji5) + 1)), (x10_1), (by first | rfl | (simp; done) | (simp only [← hji5] <;> (first | rfl | simp)) | (simp [*]; done)), (by first | rfl | (simp; done) | (simp [*]; done)), (by first | exact H' | (rw [hji5]; exact H') | (simp only [hji5]; exact H')), ⟨by have := HK1.out; omega⟩, ⟨by repeat (first | (with_reducible first | exact HB.out | apply below_alloc | apply pw_below_drewN | apply below_drew1) | exact HB.out)⟩⟩
            · rw [if_neg c9] at H
              have c9b0 : decide (t104 < 0) = false := decide_eq_false c9
              clear c9
              have H' := Aside0.mk H
              clear H
              have p103 : 0 ≤ ((ji5) : Int) := of_decide_eq_true (by first | (with_reducible assumption) | assumption)
              have q103 : (ji5) < (l0.length : Int) := of_decide_eq_true (by first | (with_reducible assumption) | assumption)
              obtain ⟨ad103, e103, hx103_0, hx103_1⟩ := at_T26 HR0.out (ji5) p103 q103
              cases e103
              replace hx103_0 := (HB.out.cell (World.block_lt_of_cell? w _ hx103_0)).trans hx103_0
              replace hx103_1 := (HB.out.cell (World.block_lt_of_cell? w _ hx103_1)).trans hx103_1
              replace p103 := eq_true p103
              replace q103 := eq_true q103
              go_wp2_with (first | (go_at_call 51; (with_reducible refine (vars_Table_place_1.calls ((rd_T26 l0 (ji5)).f0) ((rd_T26 l0 (ji5)).f1) a1 t104 _ A8.out).mono ?_); rintro e w11 ⟨rfl, hb⟩; have n0_ := Aside0.mk (below_step (by repeat (first | (with_reducible first | exact HB.out | apply below_alloc | apply pw_below_drewN | apply below_drew1) | exact HB.out)) hb); clear HB; have HB := n0_; clear n0_; (try clear hb); (try clear hb2); (try clear hk); (try clear hi)))
              go_roundg k1
              case measure => have := HK1.out; omega
              case rel => exact ⟨(x9_1), (ji5), (by first | rfl | (simp; done) | (simp [*]; done)), (by first | rfl | (simp; done) | (simp only [← hji5] <;> (first | rfl | simp)) | (simp [*]; done)), (by first | exact H' | (rw [hji5]; exact H') | (simp only [hji5]; exact H')), ⟨by have := HK1.out; omega⟩, ⟨by repeat (first | (with_reducible first | exact HB.out | apply below_alloc | apply pw_below_drewN | apply below_drew1) | exact HB.out)⟩⟩
          · rw [if_neg c7] at H
            exact absurd H (by simp)
        · rw [if_neg c6] at H
          exact absurd H (by simp)
      · rw [if_neg c4] at H
        have c4b0 : decide (x9_1 < x10_1) = false := decide_eq_false c4
        clear c4
        by_cases c12 : x9_1 < (l0.length : Int)
        · rw [if_pos c12] at H
          have c12b0 : decide (x9_1 < (l0.length : Int)) = true := decide_eq_true c12
          clear c12
          by_cases c13 : 0 ≤ x9_1
          · rw [if_pos c13] at H
            have c13b0 : decide (0 ≤ x9_1) = true := decide_eq_true c13
            clear c13
            by_cases c14 : x9_1 < (l0.length : Int)
            · rw [if_pos c14] at H
              have c14b0 : decide (x9_1 < (l0.length : Int)) = true := decide_eq_true c14
              clear c14
              replace H := Option.bind_eq_some_iff.mp H
              obtain ⟨t106, A150, H⟩ := H
              replace H : (some (x9_1, (t106 == 0))) = some (r1, r2) := H
              have A15 := Aside0.mk A150
              clear A150
              simp only [Option.some.injEq, Prod.mk.injEq] at H
              obtain ⟨rfl, rfl⟩ := H
              have p105 : 0 ≤ (x9_1 : Int) := of_decide_eq_true (by first | (with_reducible assumption) | assumption)
              have q105 : x9_1 < (l0.length : Int) := of_decide_eq_true (by first | (with_reducible assumption) | assumption)
              obtain ⟨ad105, e105, hx105_0, hx105_1⟩ := at_T26 HR0.out x9_1 p105 q105
              cases e105
              replace hx105_0 := (HB.out.cell (World.block_lt_of_cell? w _ hx105_0)).trans hx105_0
              replace hx105_1 := (HB.out.cell (World.block_lt_of_cell? w _ hx105_1)).trans hx105_1
              replace p105 := eq_true p105
              replace q105 := eq_true q105
              go_wp2_with (first | (go_at_call 51; (with_reducible refine (vars_Table_place_1.calls ((rd_T26 l0 x9_1).f0) ((rd_T26 l0 x9_1).f1) a1 t106 _ A15.out).mono ?_); rintro e w16 ⟨rfl, hb⟩; have n0_ := Aside0.mk (below_step (by repeat (first | (with_reducible first | exact HB.out | apply below_alloc | apply pw_below_drewN | apply below_drew1) | exact HB.out)) hb); clear HB; have HB := n0_; clear n0_; (try clear hb); (try clear hb2); (try clear hk); (try clear hi)))
              go_ret2
              exact ⟨by first | rfl | (simp [errW_none, errW_some] <;> rfl) | (simp [*, errW_none, errW_some] <;> rfl), by repeat (first | (with_reducible first | exact HB.out | apply below_alloc | apply pw_below_drewN | apply below_drew1) | exact HB.out)⟩
            · rw [if_neg c14] at H
              exact absurd H (by simp)
          · rw [if_neg c13] at H
            exact absurd H (by simp)
        · rw [if_neg c12] at H
          have c12b0 : decide (x9_1 < (l0.length : Int)) = false := decide_eq_false c12
          clear c12
          simp only [Option.some.injEq, Prod.mk.injEq] at H
          obtain ⟨rfl, rfl⟩ := H
          go_wp2
          go_ret2
          exact ⟨by first | rfl | (simp [errW_none, errW_some] <;> rfl) | (simp [*, errW_none, errW_some] <;> rfl), by repeat (first | (with_reducible first | exact HB.out | apply below_alloc | apply pw_below_drewN | apply below_drew1) | exact HB.out)⟩
end Go.Proofs.Ytgcbipflmhbpcaa.PV
set_option linter.unusedVariables false
namespace Go.Proofs.Ytgcbipflmhbpcaa
open Go
theorem less_tri : ∀ x y : List UInt8, (Op.bytesLess x y || x == y) = !(Op.bytesLess y x)
  | [], [] => rfl
  | [], b :: y => rfl
  | a :: x, [] => rfl
  | a :: x, b :: y => by
    have ih := less_tri x y
    simp only [Op.bytesLess]
    rcases Nat.lt_trichotomy a.toNat b.toNat with h | h | h
    · have h1 : a < b := h
      have h2 : ¬ b < a := fun h3 => Nat.lt_asymm h h3
      have h4 : b ≠ a := fun e => Nat.lt_irrefl _ (e ▸ h)
      simp [h1, h2, h4]
    · have h1 : a = b := UInt8.toNat_inj.1 h
      subst h1
      have h2 : ¬ a < a := fun h3 => Nat.lt_irrefl _ h3
      simp only [h2, decide_false, Bool.false_or, beq_self_eq_true, Bool.true_and]
      rw [← ih]
      simp
    · have h1 : ¬ a < b := fun h3 => Nat.lt_asymm h h3
      have h2 : b < a := h
      have h4 : a ≠ b := fun e => Nat.lt_irrefl _ (e ▸ h)
      simp [h1, h2, h4]
theorem str_leq (t : TypeId) (a b : ByteArray) : binOp .leq t (.string a) (.string b) = pure (.bool !(Op.bytesLess b.toList a.toList)) := by
  rw [← less_tri]; simp [binOp, Op.stringOp]
theorem str_geq (t : TypeId) (a b : ByteArray) : binOp .geq t (.string a) (.string b) = pure (.bool !(Op.bytesLess a.toList b.toList)) := by simp [binOp, Op.stringOp]
theorem str_gtr (t : TypeId) (a b : ByteArray) : binOp .gtr t (.string a) (.string b) = pure (.bool (Op.bytesLess b.toList a.toList)) := by
  have := less_tri a.toList b.toList
  simp only [binOp, Op.stringOp]
  rw [this]; simp
end Go.Proofs.Ytgcbipflmhbpcaa
set_option linter.unusedVariables false
set_option linter.unusedSimpArgs false
namespace Go.Proofs.Ytgcbipflmhbpcaa.PV
open Go.RowKit Go.Proofs.Ytgcbipflmhbpcaa Go.Proofs.YtgcbipflmhbpcaaW.PrintWords
def Evt {α : Type} (g : Nat → Option α) (r : α) : Prop := ∃ K, ∀ k, K ≤ k → g k = some r
theorem Evt.succ {α : Type} {g h : Nat → Option α} {r : α} (K : Nat) (he : ∀ k, K ≤ k → g (k + 1) = h k) (hh : Evt h r) : Evt g r := by
  obtain ⟨K2, h2⟩ := hh
  refine ⟨max K K2 + 1, fun k hk => ?_⟩
  obtain ⟨k, rfl⟩ : ∃ q, k = q + 1 := ⟨k - 1, by omega⟩
  rw [he k (by omega)]; exact h2 k (by omega)
theorem Evt.const {α : Type} {g : Nat → Option α} {r : α} (K : Nat) (he : ∀ k, K ≤ k → g (k + 1) = some r) : Evt g r := by
  refine ⟨K + 1, fun k hk => ?_⟩
  obtain ⟨k, rfl⟩ : ∃ q, k = q + 1 := ⟨k - 1, by omega⟩
  exact he k (by omega)
theorem Evt.both {α β : Type} {g : Nat → Option α} {h : Nat → Option β} {r : α} {s : β} (h1 : Evt g r) (h2 : Evt h s) : ∃ K, ∀ k, K ≤ k → g k = some r ∧ h k = some s := by
  obtain ⟨K1, h1⟩ := h1
  obtain ⟨K2, h2⟩ := h2
  exact ⟨max K1 K2, fun k hk => ⟨h1 k (by omega), h2 k (by omega)⟩⟩
theorem Evt.bind {α β : Type} {g : Nat → Option α} {h : α → Nat → Option β} {f : Nat → Option β} {r : α} {s : β} (h1 : Evt g r) (h2 : Evt (h r) s) (hf : ∀ k, f k = (g k).bind (fun a => h a k)) : Evt f s := by
  obtain ⟨K, hK⟩ := h1.both h2
  exact ⟨K, fun k hk => by rw [hf, (hK k hk).1, Option.bind_some, (hK k hk).2]⟩
theorem u8_tri {a b : UInt8} (h : ¬ a < b) (h2 : ¬ b < a) : a = b := UInt8.toNat_inj.1 (by have h3 : ¬ a.toNat < b.toNat := h; have h4 : ¬ b.toNat < a.toNat := h2; omega)
theorem u8_irr (a : UInt8) : ¬ a < a := fun h => Nat.lt_irrefl a.toNat h
theorem cb_less : ∀ a b : List UInt8, (Lib.compareBytes a b < 0) ↔ Op.bytesLess a b = true
  | [], [] => by simp [Lib.compareBytes, Op.bytesLess]
  | [], _ :: _ => by simp [Lib.compareBytes, Op.bytesLess]
  | _ :: _, [] => by simp [Lib.compareBytes, Op.bytesLess]
  | a :: x, b :: y => by
    have ih := cb_less x y
    simp only [Lib.compareBytes, Op.bytesLess]
    by_cases h : a < b
    · simp [h]
    · by_cases h2 : b < a
      · have : (a == b) = false := beq_eq_false_iff_ne.2 (fun e => by subst e; exact h h2)
        simp [h, h2, this]
      · have e := u8_tri h h2
        subst e
        rw [if_neg h, if_neg h, ih]; simp [h]
theorem cb_zero : ∀ a b : List UInt8, Lib.compareBytes a b = 0 ↔ a = b
  | [], [] => by simp [Lib.compareBytes]
  | [], _ :: _ => by simp [Lib.compareBytes]
  | _ :: _, [] => by simp [Lib.compareBytes]
  | a :: x, b :: y => by
    have ih := cb_zero x y
    simp only [Lib.compareBytes]
    by_cases h : a < b
    · have : a ≠ b := fun e => by subst e; exact u8_irr _ h
      simp [h, this]
    · by_cases h2 : b < a
      · have : a ≠ b := fun e => by subst e; exact u8_irr _ h2
        simp [h, h2, this]
      · have e := u8_tri h h2
        subst e
        rw [if_neg h, if_neg h, ih]; simp
theorem less_irr : ∀ a : List UInt8, Op.bytesLess a a = false
  | [] => rfl
  | a :: x => by simp [Op.bytesLess, less_irr x]
theorem less_trans : ∀ a b c : List UInt8, Op.bytesLess a b = true → Op.bytesLess b c = true → Op.bytesLess a c = true
  | _, _, [] => by intro _ h; simp [Op.bytesLess] at h
  | _, [], _ :: _ => by intro h; simp [Op.bytesLess] at h
  | [], _ :: _, _ :: _ => by intro _ _; rfl
  | a :: x, b :: y, c :: z => by
    intro h1 h2
    have ih := less_trans x y z
    simp only [Op.bytesLess, Bool.or_eq_true, Bool.and_eq_true, decide_eq_true_eq, beq_iff_eq] at h1 h2 ⊢
    rcases h1 with h1 | ⟨rfl, h1⟩
    · rcases h2 with h2 | ⟨rfl, h2⟩
      · exact .inl (Nat.lt_trans (show a.toNat < b.toNat from h1) h2)
      · exact .inl h1
    · rcases h2 with h2 | ⟨rfl, h2⟩
      · exact .inl h2
      · exact .inr ⟨rfl, ih h1 h2⟩
theorem less_tri : ∀ a b : List UInt8, Op.bytesLess a b = false → a ≠ b → Op.bytesLess b a = true
  | [], [] => fun _ h => absurd rfl h
  | [], _ :: _ => fun h => by simp [Op.bytesLess] at h
  | _ :: _, [] => fun _ _ => rfl
  | a :: x, b :: y => by
    intro h1 h2
    have ih := less_tri x y
    simp only [Op.bytesLess, Bool.or_eq_false_iff, Bool.and_eq_false_iff, decide_eq_false_iff_not, beq_eq_false_iff_ne, Bool.or_eq_true, Bool.and_eq_true, decide_eq_true_eq, beq_iff_eq] at h1 ⊢
    by_cases h3 : b < a
    · exact .inl h3
    · have e := u8_tri h1.1 h3
      subst e
      refine .inr ⟨rfl, ih ?_ (fun e => h2 (by rw [e]))⟩
      rcases h1.2 with h | h
      · exact absurd rfl h
      · exact h
def lsV (x : ByteArray) (v : S26) : Bool := Op.bytesLess v.f0.toList x.toList
def eqV (x : ByteArray) (v : S26) : Bool := decide (v.f0.toList = x.toList)
def setV (V : List S26) (x y : ByteArray) : List S26 := V.takeWhile (lsV x) ++ ⟨x, y⟩ :: (V.dropWhile (lsV x)).filter (fun v => !eqV x v)
def unsV (V : List S26) (x : ByteArray) : List S26 := V.filter (fun v => !eqV x v)
def hasV (V : List S26) (x : ByteArray) : Bool := V.any (eqV x)
def getV (V : List S26) (x : ByteArray) : ByteArray × Bool := ((V.find? (eqV x)).map (fun v => (v.f1, true))).getD (⟨#[]⟩, false)
def Ord (V : List S26) : Prop := V.Pairwise (fun a b => Op.bytesLess a.f0.toList b.f0.toList = true)
theorem ls_ne {x : ByteArray} {v : S26} (h : lsV x v = true) : eqV x v = false := by
  unfold lsV eqV at *
  refine decide_eq_false (fun e => ?_)
  rw [e, less_irr] at h; cases h
theorem Ord.at {V : List S26} (h : Ord V) (i j : Nat) (hi : i < V.length) (hj : j < V.length) (hij : i < j) : Op.bytesLess V[i].f0.toList V[j].f0.toList = true := List.pairwise_iff_getElem.1 h i j hi hj hij
theorem rdV (V : List S26) (i : Nat) (h : i < V.length) : rd_T26 V (i : Int) = V[i] := by
  unfold rd_T26
  rw [Int.toNat_natCast, List.getD_eq_getElem?_getD, List.getElem?_eq_getElem h]; rfl
theorem w64 (i : Nat) (h : i ≤ 1000000000000000000) : wrap64 ((i : Int) + 1) = ((i + 1 : Nat) : Int) := by unfold wrap64; omega
theorem toList_data (s : ByteArray) : s.toList = s.data.toList := ByteArray.toList_eq s
theorem ba_ext {a b : ByteArray} (h : a.toList = b.toList) : a = b := by
  rw [toList_data, toList_data] at h
  exact ByteArray.ext (Array.ext' h)
/-- where a name stands, or would stand -/
structure At (V : List S26) (x : ByteArray) (r : Nat) (b : Bool) : Prop where
  le : r ≤ V.length
  lo : ∀ t (h : t < V.length), t < r → lsV x V[t] = true
  hi : ∀ t (h : t < V.length), r ≤ t → lsV x V[t] = false
  yes : b = true → ∃ h : r < V.length, eqV x V[r] = true
  no : b = false → ∀ v ∈ V, eqV x v = false
theorem place_l0 (V : List S26) (x : ByteArray) (hl : V.length ≤ 1000000000000000) (hr : Ord V) : ∀ (d k i j : Nat), j - i ≤ d → d < k → i ≤ j → j ≤ V.length →
    (∀ t (h : t < V.length), t < i → lsV x V[t] = true) → (∀ t (h : t < V.length), j ≤ t → lsV x V[t] = false) →
    ∃ (r : Nat) (b : Bool), api_Var_string.l0 k V x (V.length : Int) (i : Int) (j : Int) = some ((r : Int), b) ∧ At V x r b := by
  intro d
  induction d with
  | zero =>
    intro k i j hd hk hij hj h1 h2
    obtain ⟨k, rfl⟩ : ∃ q, k = q + 1 := ⟨k - 1, by omega⟩
    have : i = j := by omega
    subst this
    unfold api_Var_string.l0
    rw [if_neg (by omega)]
    by_cases hi : i < V.length
    · rw [if_pos (by omega), if_pos (by omega), if_pos (by omega), rdV V i hi]
      unfold vars_Table_place_1.f strings_Compare.f
      simp only [Option.bind_some]
      refine ⟨i, _, rfl, hj, h1, h2, fun h => ⟨hi, ?_⟩, fun h v hv => ?_⟩
      · have := (cb_zero _ _).1 (beq_iff_eq.1 h)
        unfold eqV
        rw [toList_data, toList_data]
        exact decide_eq_true this
      · obtain ⟨t, ht, rfl⟩ := List.getElem_of_mem hv
        rcases Nat.lt_trichotomy t i with h4 | h4 | h4
        · exact ls_ne (h1 t ht h4)
        · subst h4
          refine decide_eq_false (fun e => ?_)
          rw [toList_data, toList_data] at e
          rw [(cb_zero _ _).2 e] at h; simp at h
        · have := hr.at i t hi ht h4
          refine decide_eq_false (fun e => ?_)
          rw [e] at this
          have h5 := h2 i hi (Nat.le_refl _)
          unfold lsV at h5
          rw [this] at h5; cases h5
    · rw [if_neg (by omega)]
      refine ⟨i, _, rfl, hj, h1, h2, fun h => by simp at h, fun _ v hv => ?_⟩
      obtain ⟨t, ht, rfl⟩ := List.getElem_of_mem hv
      exact ls_ne (h1 t ht (by omega))
  | succ d ih =>
    intro k i j hd hk hij hj h1 h2
    by_cases hlt : i < j
    · obtain ⟨k, rfl⟩ : ∃ q, k = q + 1 := ⟨k - 1, by omega⟩
      have hm : wrap64 ((IntKind.u64.wrap (wrap64 ((i : Int) + (j : Int)))) / 2) = (((i + j) / 2 : Nat) : Int) := by
        rw [show wrap64 ((i : Int) + (j : Int)) = ((i + j : Nat) : Int) from by unfold wrap64; omega]
        rw [show IntKind.u64.wrap ((i + j : Nat) : Int) = ((i + j : Nat) : Int) from by rw [IntKind.wrap_u64]; omega]
        unfold wrap64; omega
      have hml : (i + j) / 2 < V.length := by omega
      unfold api_Var_string.l0
      rw [if_pos (by omega), hm, if_pos (by omega), if_pos (by omega), rdV V _ hml]
      unfold vars_Table_place_1.f strings_Compare.f
      simp only [Option.bind_some]
      by_cases hc : Lib.compareBytes V[(i + j) / 2].f0.data.toList x.data.toList < 0
      · rw [if_pos hc, w64 _ (by omega)]
        have hcl := (cb_less _ _).1 hc
        rw [← toList_data, ← toList_data] at hcl
        refine ih k _ j (by omega) (by omega) (by omega) hj (fun t ht htm => ?_) h2
        rcases Nat.lt_or_ge t ((i + j) / 2) with h4 | h4
        · exact less_trans _ _ _ (hr.at t _ ht hml h4) hcl
        · have : t = (i + j) / 2 := by omega
          subst this; exact hcl
      · rw [if_neg hc]
        have hcl : Op.bytesLess V[(i + j) / 2].f0.toList x.toList = false := by
          rw [toList_data, toList_data]
          exact Bool.eq_false_iff.2 (fun h => hc ((cb_less _ _).2 h))
        refine ih k i _ (by omega) (by omega) (by omega) (by omega) h1 (fun t ht htm => ?_)
        rcases Nat.lt_or_ge ((i + j) / 2) t with h4 | h4
        · refine Bool.eq_false_iff.2 (fun h => ?_)
          have := less_trans _ _ _ (hr.at _ t hml ht h4) h
          rw [hcl] at this; cases this
        · have : t = (i + j) / 2 := by omega
          subst this; exact hcl
    · have : i = j := by omega
      subst this
      exact ih k i i (by omega) (by omega) (Nat.le_refl _) hj h1 h2
theorem place_any (V : List S26) (x : ByteArray) (a2 : Int) (hl : V.length ≤ 1000000000000000) (hr : Ord V) : ∃ r b, api_Var_string.f (V.length + 1) V x a2 = some (((r : Nat) : Int), b) ∧ At V x r b := by
  unfold api_Var_string.f
  rw [show (0 : Int) = ((0 : Nat) : Int) from rfl]
  exact place_l0 V x hl hr V.length (V.length + 1) 0 V.length (by omega) (by omega) (by omega) (Nat.le_refl _) (fun t ht h => absurd h (by omega)) (fun t ht h => absurd h (by omega))
theorem At.take {V : List S26} {x : ByteArray} {r : Nat} {b : Bool} (h : At V x r b) : V.takeWhile (lsV x) = V.take r ∧ V.dropWhile (lsV x) = V.drop r := by
  have hsplit : V.take r ++ V.drop r = V := List.take_append_drop r V
  have h1 : ∀ v ∈ V.take r, lsV x v = true := by
    intro v hv
    obtain ⟨t, ht, rfl⟩ := List.getElem_of_mem hv
    rw [List.getElem_take]
    rw [List.length_take] at ht
    exact h.lo t (by omega) (by omega)
  have h2 : (V.drop r).takeWhile (lsV x) = [] ∧ (V.drop r).dropWhile (lsV x) = V.drop r := by
    by_cases hr : r < V.length
    · rw [List.drop_eq_getElem_cons hr, List.takeWhile_cons, List.dropWhile_cons, h.hi r hr (Nat.le_refl _)]; exact ⟨rfl, rfl⟩
    · rw [List.drop_of_length_le (by omega)]; exact ⟨rfl, rfl⟩
  constructor
  · conv => lhs; rw [← hsplit]
    rw [List.takeWhile_append_of_pos h1, h2.1, List.append_nil]
  · conv => lhs; rw [← hsplit]
    rw [List.dropWhile_append_of_pos h1, h2.2]
theorem At.new {V : List S26} {x y : ByteArray} {r : Nat} (h : At V x r false) : setV V x y = V.take r ++ ⟨x, y⟩ :: V.drop r := by
  unfold setV
  rw [h.take.1, h.take.2, List.filter_eq_self.2]
  intro v hv
  rw [h.no rfl v (List.mem_of_mem_drop hv)]; rfl
theorem Ord.after {V : List S26} {x : ByteArray} {r : Nat} (hr : Ord V) (hlt : r < V.length) (he : eqV x V[r] = true) : ∀ v ∈ V.drop (r + 1), eqV x v = false := by
  intro v hv
  obtain ⟨t, ht, rfl⟩ := List.getElem_of_mem hv
  rw [List.getElem_drop]
  rw [List.length_drop] at ht
  have h1 := hr.at r (r + 1 + t) hlt (by omega) (by omega)
  refine decide_eq_false (fun e => ?_)
  rw [of_decide_eq_true he, e, less_irr] at h1; cases h1
theorem At.old {V : List S26} {x y : ByteArray} {r : Nat} (h : At V x r true) (hr : Ord V) : ∃ hlt : r < V.length, eqV x V[r] = true ∧ setV V x y = V.set r ⟨V[r].f0, y⟩ ∧ unsV V x = V.eraseIdx r ∧ getV V x = (V[r].f1, true) := by
  obtain ⟨hlt, he⟩ := h.yes rfl
  have haft := hr.after hlt he
  have hx : V[r].f0 = x := ba_ext (of_decide_eq_true he)
  have hf : (V.drop r).filter (fun v => !eqV x v) = V.drop (r + 1) := by
    rw [List.drop_eq_getElem_cons hlt, List.filter_cons, he]
    simp only [Bool.not_true, Bool.false_eq_true, if_false]
    exact List.filter_eq_self.2 (fun v hv => by rw [haft v hv]; rfl)
  have hb : (V.take r).filter (fun v => !eqV x v) = V.take r := List.filter_eq_self.2 (fun v hv => by
    obtain ⟨t, ht, rfl⟩ := List.getElem_of_mem hv
    rw [List.getElem_take]
    rw [List.length_take] at ht
    rw [ls_ne (h.lo t (by omega) (by omega))]; rfl)
  refine ⟨hlt, he, ?_, ?_, ?_⟩
  · unfold setV
    rw [h.take.1, h.take.2, hf, hx, List.set_eq_take_append_cons_drop, if_pos hlt]
  · unfold unsV
    conv => lhs; rw [← List.take_append_drop r V]
    rw [List.filter_append, hf, hb, List.eraseIdx_eq_take_drop_succ]
  · have : V.find? (eqV x) = some V[r] := by
      rw [List.find?_eq_some_iff_getElem]
      refine ⟨he, r, hlt, rfl, fun j hj => ?_⟩
      rw [ls_ne (h.lo j (by omega) hj)]; rfl
    unfold getV; rw [this]; rfl
theorem At.none {V : List S26} {x : ByteArray} {r : Nat} (h : At V x r false) : unsV V x = V ∧ getV V x = (⟨#[]⟩, false) ∧ hasV V x = false := by
  refine ⟨List.filter_eq_self.2 (fun v hv => by rw [h.no rfl v hv]; rfl), ?_, ?_⟩
  · have : V.find? (eqV x) = Option.none := by
      rw [List.find?_eq_none]
      intro v hv; rw [h.no rfl v hv]; simp
    unfold getV; rw [this]; rfl
  · exact Bool.eq_false_iff.2 (fun e => by
      obtain ⟨v, hv, he⟩ := List.any_eq_true.1 e
      rw [h.no rfl v hv] at he; cases he)
theorem At.has {V : List S26} {x : ByteArray} {r : Nat} {b : Bool} (h : At V x r b) : hasV V x = b := by
  cases b with
  | false => exact h.none.2.2
  | true =>
    obtain ⟨hlt, he⟩ := h.yes rfl
    exact List.any_eq_true.2 ⟨_, List.getElem_mem hlt, he⟩
theorem Ord.dw {x : ByteArray} : ∀ {V : List S26}, Ord V → ∀ v ∈ V.dropWhile (lsV x), lsV x v = false
  | [], _ => fun v hv => by simp at hv
  | a :: V, h => by
    intro v hv
    rw [List.dropWhile_cons] at hv
    have h2 := List.pairwise_cons.1 h
    cases ha : lsV x a with
    | true => rw [ha, if_pos rfl] at hv; exact Ord.dw h2.2 v hv
    | false =>
      rw [ha, if_neg (by simp)] at hv
      rcases List.mem_cons.1 hv with rfl | hv
      · exact ha
      · refine Bool.eq_false_iff.2 (fun e => ?_)
        have := less_trans _ _ _ (h2.1 v hv) e
        unfold lsV at ha
        rw [ha] at this; cases this
theorem setV_ord {V : List S26} {x y : ByteArray} (h : Ord V) : Ord (setV V x y) := by
  unfold Ord setV
  have hgt : ∀ v ∈ (V.dropWhile (lsV x)).filter (fun v => !eqV x v), Op.bytesLess x.toList v.f0.toList = true := fun v hv => by
    have h1 := List.mem_filter.1 hv
    have h2 := h.dw v h1.1
    refine less_tri _ _ h2 (fun e => ?_)
    have h3 := h1.2
    unfold eqV at h3
    rw [decide_eq_true e] at h3; cases h3
  have hlt : ∀ v ∈ V.takeWhile (lsV x), lsV x v = true := fun v hv => List.all_eq_true.1 (List.all_takeWhile (p := lsV x) (l := V)) v hv
  rw [List.pairwise_append]
  refine ⟨h.sublist (List.takeWhile_sublist _), List.pairwise_cons.2 ⟨hgt, h.sublist (List.filter_sublist.trans (List.dropWhile_sublist _))⟩, fun a ha b hb => ?_⟩
  rcases List.mem_cons.1 hb with rfl | hb
  · exact hlt a ha
  · exact less_trans _ _ _ (hlt a ha) (hgt b hb)
theorem unsV_ord {V : List S26} {x : ByteArray} (h : Ord V) : Ord (unsV V x) := List.Pairwise.sublist List.filter_sublist h
theorem setV_len {V : List S26} {x y : ByteArray} : (setV V x y).length ≤ V.length + 1 ∧ (hasV V x = true → Ord V → (setV V x y).length ≤ V.length) := by
  have e1 : (V.takeWhile (lsV x)).length + (V.dropWhile (lsV x)).length = V.length := by rw [← List.length_append, List.takeWhile_append_dropWhile]
  have e2 : ((V.dropWhile (lsV x)).filter (fun v => !eqV x v)).length ≤ (V.dropWhile (lsV x)).length := List.length_filter_le ..
  have e3 : (setV V x y).length = (V.takeWhile (lsV x)).length + (((V.dropWhile (lsV x)).filter (fun v => !eqV x v)).length + 1) := by unfold setV; rw [List.length_append, List.length_cons]
  refine ⟨by omega, fun h _ => ?_⟩
  have e4 : ((V.dropWhile (lsV x)).filter (fun v => !eqV x v)).length < (V.dropWhile (lsV x)).length := by
    refine List.length_filter_lt_length_iff_exists.2 ?_
    obtain ⟨v, hv, he⟩ := List.any_eq_true.1 h
    rw [← List.takeWhile_append_dropWhile (p := lsV x) (l := V), List.mem_append] at hv
    rcases hv with hv | hv
    · have := ls_ne (List.all_eq_true.1 (List.all_takeWhile (p := lsV x) (l := V)) v hv)
      rw [he] at this; cases this
    · exact ⟨v, hv, by rw [he]; simp⟩
  omega
end Go.Proofs.Ytgcbipflmhbpcaa.PV
set_option linter.unusedVariables false
set_option linter.unusedSimpArgs false
namespace Go.Proofs.Ytgcbipflmhbpcaa
open Go.RowKit Go.Proofs.YtgcbipflmhbpcaaW.PrintWords Go.Proofs.YtgcbipflmhbpcaaW.PrintLast Go.Proofs.YtgcbipflmhbpcaaW.PrintMore
def cellsS (l : List ByteArray) : List Value := l.map Value.string
def cellsV (l : List (ByteArray × ByteArray)) : List Value := (l.map fun x => [Value.string x.1, Value.string x.2]).flatten
theorem cellsS_len (l : List ByteArray) : (cellsS l).length = l.length := List.length_map ..
theorem cellsS_one (l : List ByteArray) : ∀ u ∈ cellsS l, u.oneCell' = true := by
  intro u hu
  obtain ⟨x, _, rfl⟩ := List.mem_map.1 hu
  rfl
theorem Lies.of_own {w : World} {base e sz n : Nat} {A : Option Addr} {c m : Nat} {cs : List Value} (h : w.ownsRow base e sz (.slice A m c) n cs) : Lies w A cs := by
  cases A with
  | none =>
    left
    rcases h.2 with ⟨_, h0⟩ | ⟨g, cap, cur, e, _⟩
    · have := h.1; rw [h0, Nat.zero_mul] at this; exact List.eq_nil_of_length_eq_zero this
    · cases e
  | some ad =>
    right
    refine ⟨ad, rfl, fun j u hj => ?_⟩
    rcases h.2 with ⟨e, _⟩ | ⟨g, cap, cur, e, _⟩
    · cases e
    · injection e with e; injection e with e; subst e
      exact h.cells rfl j u hj
theorem Lies.drop {w : World} {ad : Addr} {cs : List Value} (h : Lies w (some ad) cs) (k : Nat) : Lies w (some (ad.add k)) (cs.drop k) := by
  rcases h with rfl | ⟨a, e, hc⟩
  · left; simp
  · injection e with e; subst e
    right
    refine ⟨_, rfl, fun j u hj => ?_⟩
    rw [List.getElem?_drop] at hj
    rw [Addr.add_add]
    exact hc (k + j) u hj
theorem Lies.frm {S : Nat → Prop} {w w' : World} {A : Option Addr} {cs : List Value} (h : Lies w A cs) (hf : Frm S w w') (hs : ∀ ad, A = some ad → ¬ S ad.block) : Lies w' A cs := by
  rcases h with rfl | ⟨ad, rfl, hc⟩
  · exact .inl rfl
  · refine .inr ⟨ad, rfl, fun j u hj => ?_⟩
    have h0 := hc j u hj
    have eb : (ad.add j).block = ad.block := by unfold Addr.add; split <;> rfl
    have hlt : (ad.add j).block < w.heap.size := by
      cases hh : w.heap[(ad.add j).block]? with
      | some o => exact (Array.getElem?_eq_some_iff.1 hh).1
      | none => simp [World.cell?, hh] at h0
    have hb : w'.heap[(ad.add j).block]? = w.heap[(ad.add j).block]? := hf.block _ hlt (by rw [eb]; exact hs ad rfl)
    rw [World.cell?_of_block (w := w) hb]; exact h0
/-- a table in memory -/
structure Tab (B : Nat) (w : World) (g : Nat) (V : List (ByteArray × ByteArray)) (A : List ByteArray) (st : Int) (vv va : Value) : Prop where
  bt : w.heap[g]? = some (.cells #[vv, va, .int .i64 st] 57 (0, 0))
  eg : B ≤ g
  ov : w.ownsRow B 26 2 vv V.length (cellsV V)
  oa : w.ownsRow B 9 1 va A.length (cellsS A)
theorem Tab.frm {B : Nat} {w w' : World} {g : Nat} {V : List (ByteArray × ByteArray)} {A : List ByteArray} {st : Int} {vv va : Value} (h : Tab B w g V A st vv va) (hb : Below w.heap.size w w') : Tab B w' g V A st vv va :=
  ⟨blk_below h.bt hb, h.eg, pw_own_below h.ov hb, pw_own_below h.oa hb⟩
/-- other parameters -/
theorem Tab.setA {B : Nat} {w : World} {g : Nat} {V : List (ByteArray × ByteArray)} {A A' : List ByteArray} {st : Int} {vv va va' : Value} (h : Tab B w g V A st vv va) (ho : w.ownsRow B 9 1 va' A'.length (cellsS A')) : Tab B (w.setCell ⟨g, 1, none⟩ va') g V A' st vv va' :=
  ⟨blk_put h.bt 1 va' rfl, h.eg, own_setCell h.ov (own_ne h.ov h.bt (by decide)) _, own_setCell ho (own_ne ho h.bt (by decide)) _⟩
theorem meas_ (n i : Nat) (h : wrap64 ((i : Int) + 1) = ((i + 1 : Nat) : Int)) (hlt : i < n) : n - (intOf (Value.int .i64 (wrap64 ((i : Int) + 1)))).toNat < n - (intOf (Value.int .i64 (i : Int))).toNat := by
  rw [h]
  show n - ((i + 1 : Nat) : Int).toNat < n - (i : Int).toNat
  rw [Int.toNat_natCast, Int.toNat_natCast]
  exact Nat.sub_lt_sub_left hlt (Nat.lt_succ_self i)
/-- what giving parameters answers -/
def argsE (l : List ByteArray) : Int := if 256 < l.length then 2 else if l.all (fun s => decide (s.size ≤ 4096)) = true then 0 else 2
set_option maxHeartbeats 2000000 in
set_option maxRecDepth 100000 in
theorem setArgs_any (B : Nat) (w : World) (g : Nat) (V : List (ByteArray × ByteArray)) (A l : List ByteArray) (st : Int) (vv va : Value) (P : Option Addr) (c : Nat) (ht : Tab B w g V A st vv va) (hB : B ≤ w.heap.size) (hl : Kd.string.C w P l.length l) :
    Calls Try.prog 19 #[.pointer (some ⟨g, 0, none⟩), .slice P l.length c] w fun e w' => e = .returned (.int .i64 (argsE l)) ∧ Frm (fun k => k = g) w w' ∧ ∃ va' A', Tab B w' g V A' st vv va' ∧ (argsE l = 0 → A' = l) ∧ (argsE l ≠ 0 → A' = A) := by
  by_cases h256 : 256 < l.length
  · have he : argsE l = 2 := by unfold argsE; rw [if_pos h256]
    have c0 : decide ((256 : Int) < (l.length : Int)) = true := decide_eq_true (by omega)
    rw [he]
    clear he
    go_enter Try.func19, Try.ntmps19
    go_wp2
    go_ret
    exact ⟨rfl, Frm.refl _ _, va, A, ht, fun h => absurd h (by decide), fun _ => rfl⟩
  · have HT := Lib.hid ht
    have HL := Lib.hid hl
    have HBB := Lib.hid hB
    have c0 : decide ((256 : Int) < (l.length : Int)) = false := decide_eq_false (by omega)
    have HLN : Hid (l.length ≤ 256) := Lib.hid (by omega)
    clear ht hl hB h256
    go_enter Try.func19, Try.ntmps19
    go_wp2
    go_loopw [14] (fun s14 wr => ∃ i : Nat, i ≤ l.length ∧ s14 = .int .i64 i ∧ wr = w ∧ ∀ j (h : j < l.length), j < i → l[j].size ≤ 4096) (fun s14 _ => l.length - (intOf s14).toNat)
    case atStart => exact ⟨0, Nat.zero_le _, rfl, rfl, fun _ _ h => absurd h (by omega)⟩
    case round =>
      obtain ⟨i, hi, rfl, rfl, hall⟩ := hrel
      have HALL := Lib.hid hall
      by_cases hlt : i < l.length
      · obtain ⟨ad, ea, hx⟩ := Kd.at_string HL.out (i : Int) (by omega) (by omega)
        cases ea
        rw [Int.toNat_natCast] at hx
        have hrd : rdOf ByteArray.empty l (i : Int) = l[i] := by
          unfold rdOf; rw [Int.toNat_natCast, List.getD_eq_getElem?_getD, List.getElem?_eq_getElem hlt]; rfl
        rw [hrd] at hx
        generalize hsj : l[i] = sj at hx hrd
        have i0 : decide (0 ≤ (i : Int)) = true := decide_eq_true (by omega)
        have i1 : decide ((i : Int) < (l.length : Int)) = true := decide_eq_true (by omega)
        have HWR : Hid (wrap64 ((i : Int) + 1) = ((i + 1 : Nat) : Int)) := Lib.hid (by have := HLN.out; unfold wrap64; omega)
        have HLT := Lib.hid hlt
        by_cases hs : sj.size ≤ 4096
        · have c1 : decide ((4096 : Int) < (sj.size : Int)) = false := decide_eq_false (by omega)
          have HS : Hid (l[i].size ≤ 4096) := Lib.hid (hsj ▸ hs)
          clear hi hall hrd hsj hlt hs
          go_wp2
          go_roundw
          case rel =>
            refine ⟨i + 1, HLT.out, by rw [HWR.out], by first | rfl | trivial, fun j hj hji => ?_⟩
            by_cases e : j = i
            · subst e; exact HS.out
            · exact HALL.out j hj (by omega)
          case measure => exact meas_ _ _ HWR.out HLT.out
        · have c1 : decide ((4096 : Int) < (sj.size : Int)) = true := decide_eq_true (by omega)
          have he : argsE l = 2 := by
            unfold argsE
            rw [if_neg (by have := HLN.out; omega), if_neg]
            intro h
            have := of_decide_eq_true (List.all_eq_true.1 h _ (List.getElem_mem hlt))
            rw [hsj] at this
            exact hs this
          have HE := Lib.hid he
          clear hi hall hrd hsj hlt hs he
          go_wp2
          go_ret
          exact ⟨by rw [HE.out]; rfl, Frm.refl _ _, va, A, HT.out, fun h => absurd (HE.out.symm.trans h) (by decide), fun _ => rfl⟩
      · obtain rfl : i = l.length := by omega
        have he : argsE l = 0 := by
          unfold argsE
          rw [if_neg (by have := HLN.out; omega), if_pos]
          rw [List.all_eq_true]
          intro x hx
          obtain ⟨j, hj, rfl⟩ := List.getElem_of_mem hx
          exact decide_eq_true (HALL.out j hj hj)
        have HE := Lib.hid he
        clear hi hall hlt he
        have HLI : Hid (Lies wr P (cellsS l)) := Lib.hid (by
          by_cases h0 : l = []
          · subst h0; exact .inl rfl
          · obtain ⟨ad, ea, _⟩ := Kd.at_string HL.out 0 (by omega) (by have := List.length_pos_iff.2 h0; omega)
            subst ea
            refine .inr ⟨ad, rfl, fun j u hj => ?_⟩
            have hjl : j < l.length := by have := (List.getElem?_eq_some_iff.1 hj).1; rwa [cellsS_len] at this
            obtain ⟨ad', e', hx⟩ := Kd.at_string HL.out (j : Int) (by omega) (by omega)
            injection e' with e'; subst e'
            rw [Int.toNat_natCast] at hx
            rw [hx, ← hj]
            unfold cellsS rdOf
            rw [List.getElem?_map, Int.toNat_natCast, List.getD_eq_getElem?_getD, List.getElem?_eq_getElem hjl]; rfl)
        go_wp2_with (go_at_call 42; (with_reducible refine (copyS_any P l.length c (cellsS l) _ (cellsS_len l) HLI.out (cellsS_one l) (by have := HLN.out; omega)).mono ?_); rintro e w1 ⟨v1, rfl, ho, hb⟩; obtain ⟨A1, c1, e1⟩ := own_slice ho; subst e1; have HO := Lib.hid (own_weaken ho HBB.out); have HB1 := Lib.hid hb; have HT1 := Lib.hid (HT.out.frm hb); clear ho hb; have d1 : w1.cell? ⟨g, 1, none⟩ = some va := (blk_cell HT1.out.bt 1).trans rfl; have f1 := blk_frozen HT1.out.bt 1)
        go_ret
        exact ⟨by rw [HE.out]; rfl, (Frm.of_below HB1.out).setCell _ _ (fun _ => rfl), _, l, HT1.out.setA HO.out, fun _ => rfl, fun h => absurd HE.out h⟩
end Go.Proofs.Ytgcbipflmhbpcaa
namespace Go.Proofs.Ytgcbipflmhbpcaa.PV
open Go.RowKit Go.Proofs.YtgcbipflmhbpcaaW.PrintWords Go.Proofs.YtgcbipflmhbpcaaW.PrintLast Go.Proofs.YtgcbipflmhbpcaaW.PrintMore
attribute [local go_sem] max2_int min2_int max_two min_two max_three min_three max_four min_four   -- for this text's walks alone
set_option linter.unusedVariables false
set_option linter.unusedSimpArgs false
def rehearsalref07_Digit.f (a0 : Int) : Option (Bool) := if a0 ≥ 48 then (some (decide (a0 ≤ 57))) else (some false)
set_option maxHeartbeats 8000000 in
set_option maxRecDepth 100000 in
theorem rehearsalref07_Digit.calls (a0 : Int) (r : Bool) (w : World) (h : rehearsalref07_Digit.f a0 = some r) :
    Calls Try.prog 35 #[.int .u8 a0] w fun e w' => e = .returned (.bool r) ∧ Drawn0 w w' := by
  have H : (if a0 ≥ 48 then (some (decide (a0 ≤ 57))) else (some false)) = some r := h
  clear h
  by_cases c2 : a0 ≥ 48
  · rw [if_pos c2] at H
    have c2b0 : decide (48 ≤ a0) = true := decide_eq_true c2
    clear c2
    obtain rfl := Option.some.inj H
    go_enter Try.func35, Try.ntmps35
    go_wp2
    go_ret
    exact ⟨by first | rfl | (simp; done) | (simp [*]; done), by repeat (first | exact Drawn0.refl _ | apply Drawn0.step)⟩
  · rw [if_neg c2] at H
    have c2b0 : decide (48 ≤ a0) = false := decide_eq_false c2
    clear c2
    obtain rfl := Option.some.inj H
    go_enter Try.func35, Try.ntmps35
    go_wp2
    go_ret
    exact ⟨by first | rfl | (simp; done) | (simp [*]; done), by repeat (first | exact Drawn0.refl _ | apply Drawn0.step)⟩
end Go.Proofs.Ytgcbipflmhbpcaa.PV
namespace Go.Proofs.Ytgcbipflmhbpcaa.PV
open Go.RowKit Go.Proofs.YtgcbipflmhbpcaaW.PrintWords Go.Proofs.YtgcbipflmhbpcaaW.PrintLast Go.Proofs.YtgcbipflmhbpcaaW.PrintMore
attribute [local go_sem] max2_int min2_int max_two min_two max_three min_three max_four min_four   -- for this text's walks alone
set_option linter.unusedVariables false
set_option linter.unusedSimpArgs false
def rehearsalref07_Letter.f (a0 : Int) : Option (Bool) := if a0 = 95 then (some true) else (if a0 ≥ 97 then (if a0 ≤ 122 then (some true) else (if a0 ≥ 65 then (some (decide (a0 ≤ 90))) else (some false))) else (if a0 ≥ 65 then (some (decide (a0 ≤ 90))) else (some false)))
set_option maxHeartbeats 8000000 in
set_option maxRecDepth 100000 in
theorem rehearsalref07_Letter.calls (a0 : Int) (r : Bool) (w : World) (h : rehearsalref07_Letter.f a0 = some r) :
    Calls Try.prog 58 #[.int .u8 a0] w fun e w' => e = .returned (.bool r) ∧ Drawn0 w w' := by
  have H : (if a0 = 95 then (some true) else (if a0 ≥ 97 then (if a0 ≤ 122 then (some true) else (if a0 ≥ 65 then (some (decide (a0 ≤ 90))) else (some false))) else (if a0 ≥ 65 then (some (decide (a0 ≤ 90))) else (some false)))) = some r := h
  clear h
  by_cases c2 : a0 = 95
  · rw [if_pos c2] at H
    have c2b0 : (a0 == 95) = true := beq_iff_eq.mpr c2
    have c2b1 : (a0 != 95) = false := bne_eq_false_iff_eq.mpr c2
    clear c2
    obtain rfl := Option.some.inj H
    go_enter Try.func58, Try.ntmps58
    go_wp2
    go_ret
    exact ⟨by first | rfl | (simp; done) | (simp [*]; done), by repeat (first | exact Drawn0.refl _ | apply Drawn0.step)⟩
  · rw [if_neg c2] at H
    have c2b0 : (a0 == 95) = false := beq_eq_false_iff_ne.mpr c2
    have c2b1 : (a0 != 95) = true := bne_iff_ne.mpr c2
    by_cases c3 : a0 ≥ 97
    · rw [if_pos c3] at H
      have c3b0 : decide (97 ≤ a0) = true := decide_eq_true c3
      clear c3
      by_cases c4 : a0 ≤ 122
      · rw [if_pos c4] at H
        have c4b0 : decide (a0 ≤ 122) = true := decide_eq_true c4
        clear c4
        obtain rfl := Option.some.inj H
        go_enter Try.func58, Try.ntmps58
        go_wp2
        go_ret
        exact ⟨by first | rfl | (simp; done) | (simp [*]; done), by repeat (first | exact Drawn0.refl _ | apply Drawn0.step)⟩
      · rw [if_neg c4] at H
        have c4b0 : decide (a0 ≤ 122) = false := decide_eq_false c4
        clear c4
        by_cases c5 : a0 ≥ 65
        · rw [if_pos c5] at H
          have c5b0 : decide (65 ≤ a0) = true := decide_eq_true c5
          clear c5
          obtain rfl := Option.some.inj H
          go_enter Try.func58, Try.ntmps58
          go_wp2
          go_ret
          exact ⟨by first | rfl | (simp; done) | (simp [*]; done), by repeat (first | exact Drawn0.refl _ | apply Drawn0.step)⟩
        · rw [if_neg c5] at H
          have c5b0 : decide (65 ≤ a0) = false := decide_eq_false c5
          clear c5
          obtain rfl := Option.some.inj H
          go_enter Try.func58, Try.ntmps58
          go_wp2
          go_ret
          exact ⟨by first | rfl | (simp; done) | (simp [*]; done), by repeat (first | exact Drawn0.refl _ | apply Drawn0.step)⟩
    · rw [if_neg c3] at H
      have c3b0 : decide (97 ≤ a0) = false := decide_eq_false c3
      clear c3
      by_cases c6 : a0 ≥ 65
      · rw [if_pos c6] at H
        have c6b0 : decide (65 ≤ a0) = true := decide_eq_true c6
        clear c6
        obtain rfl := Option.some.inj H
        go_enter Try.func58, Try.ntmps58
        go_wp2
        go_ret
        exact ⟨by first | rfl | (simp; done) | (simp [*]; done), by repeat (first | exact Drawn0.refl _ | apply Drawn0.step)⟩
      · rw [if_neg c6] at H
        have c6b0 : decide (65 ≤ a0) = false := decide_eq_false c6
        clear c6
        obtain rfl := Option.some.inj H
        go_enter Try.func58, Try.ntmps58
        go_wp2
        go_ret
        exact ⟨by first | rfl | (simp; done) | (simp [*]; done), by repeat (first | exact Drawn0.refl _ | apply Drawn0.step)⟩
end Go.Proofs.Ytgcbipflmhbpcaa.PV
namespace Go.Proofs.Ytgcbipflmhbpcaa.PV
open Go.RowKit Go.Proofs.YtgcbipflmhbpcaaW.PrintWords Go.Proofs.YtgcbipflmhbpcaaW.PrintLast Go.Proofs.YtgcbipflmhbpcaaW.PrintMore
attribute [local go_sem] max2_int min2_int max_two min_two max_three min_three max_four min_four   -- for this text's walks alone
set_option linter.unusedVariables false
set_option linter.unusedSimpArgs false
def rehearsalref07_NameAt.l0 : Nat → ByteArray → Int → Int → Option (Int)
  | 0, _, _, _ => none
  | k + 1, x0, x1, x5 => if (wrap64 (x1 + x5)) < (x0.size : Int) then (if 0 ≤ (wrap64 (x1 + x5)) then ((rehearsalref07_Letter.f (bt x0 (wrap64 (x1 + x5)))).bind fun t107 => (if t107 = true then (rehearsalref07_NameAt.l0 k x0 x1 (wrap64 (x5 + 1))) else (if x5 > 0 then ((rehearsalref07_Digit.f (bt x0 (wrap64 (x1 + x5)))).bind fun t108 => (if t108 = true then (rehearsalref07_NameAt.l0 k x0 x1 (wrap64 (x5 + 1))) else (some x5))) else (some x5)))) else (none)) else (some x5)
def rehearsalref07_NameAt.f (k : Nat) (a0 : ByteArray) (a1 : Int) : Option (Int) := rehearsalref07_NameAt.l0 k a0 a1 0
set_option maxHeartbeats 8000000 in
set_option maxRecDepth 100000 in
theorem rehearsalref07_NameAt.calls (k : Nat) (a0 : ByteArray) (a1 : Int) (r : Int) (w : World) (h : rehearsalref07_NameAt.f k a0 a1 = some r) :
    Calls Try.prog 41 #[.string a0, .int .i64 a1] w fun e w' => e = .returned (.int .i64 r) ∧ Drawn0 w w' := by
  have H : (rehearsalref07_NameAt.l0 k a0 a1 0) = some r := h
  clear h
  have H' := Aside0.mk H
  clear H
  go_enter Try.func41, Try.ntmps41
  go_wp2
  go_loopg [5] k (fun kq v5 w' => ∃ (x5_1 : Int), v5 = .int .i64 x5_1 ∧ Aside0 (rehearsalref07_NameAt.l0 kq a0 a1 x5_1 = some r) ∧ Aside0 (kq ≤ k) ∧ Drawn0 w w')
  case atStart => exact ⟨(0), (by first | rfl | (simp; done) | (simp [*]; done)), H', ⟨Nat.le_refl _⟩, by repeat (first | exact Drawn0.refl _ | apply Drawn0.step)⟩
  case round =>
    clear H'
    try clear p2
    obtain ⟨x5_1, rfl, HA, HK1, ⟨m1, rfl⟩⟩ := hrel
    cases gk with
    | zero => exact absurd HA.out (by simp [rehearsalref07_NameAt.l0])
    | succ k1 =>
      have H := HA.out
      clear HA
      simp only [rehearsalref07_NameAt.l0] at H
      by_cases c3 : (wrap64 (a1 + x5_1)) < (a0.size : Int)
      · rw [if_pos c3] at H
        have c3b0 : decide ((wrap64 (a1 + x5_1)) < (a0.size : Int)) = true := decide_eq_true c3
        clear c3
        obtain ⟨ji4, hji4⟩ : ∃ j_ : Int, (wrap64 (a1 + x5_1)) = j_ := ⟨_, rfl⟩
        replace H : (if 0 ≤ (ji4) then ((rehearsalref07_Letter.f (bt a0 (ji4))).bind fun t107 => (if t107 = true then (rehearsalref07_NameAt.l0 k1 a0 a1 (wrap64 (x5_1 + 1))) else (if x5_1 > 0 then ((rehearsalref07_Digit.f (bt a0 (ji4))).bind fun t108 => (if t108 = true then (rehearsalref07_NameAt.l0 k1 a0 a1 (wrap64 (x5_1 + 1))) else (some x5_1))) else (some x5_1)))) else (none)) = some r := by first | (rw [hji4] at H; exact H) | (simp only [hji4] at H ⊢; exact H)
        (try rw [hji4] at c3b0)
        have hji4w : (IntKind.i64.wrap (a1 + x5_1)) = ji4 := (i64_w _).trans hji4
        by_cases c5 : 0 ≤ (ji4)
        · rw [if_pos c5] at H
          have c5b0 : decide (0 ≤ (ji4)) = true := decide_eq_true c5
          clear c5
          replace H := Option.bind_eq_some_iff.mp H
          obtain ⟨t107, A70, H⟩ := H
          replace H : (if t107 = true then (rehearsalref07_NameAt.l0 k1 a0 a1 (wrap64 (x5_1 + 1))) else (if x5_1 > 0 then ((rehearsalref07_Digit.f (bt a0 (ji4))).bind fun t108 => (if t108 = true then (rehearsalref07_NameAt.l0 k1 a0 a1 (wrap64 (x5_1 + 1))) else (some x5_1))) else (some x5_1))) = some r := H
          have A7 := Aside0.mk A70
          clear A70
          by_cases c8 : t107 = true
          · subst c8
            have H1 : (rehearsalref07_NameAt.l0 k1 a0 a1 (wrap64 (x5_1 + 1))) = some r := by rw [if_pos rfl] at H; exact H
            clear H
            have H := H1
            clear H1
            have H' := Aside0.mk H
            clear H
            have p6 : 0 ≤ ((ji4) : Int) := of_decide_eq_true (by first | (with_reducible assumption) | assumption)
            have q6 : (ji4) < (a0.size : Int) := of_decide_eq_true (by first | (with_reducible assumption) | assumption)
            have hx6 := bt_at a0 (ji4)
            replace p6 := eq_true p6
            replace q6 := eq_true q6
            go_wp2_with (first | (go_at_call 58; (with_reducible refine (rehearsalref07_Letter.calls (bt a0 (ji4)) true _ A7.out).mono ?_); rintro e w' ⟨rfl, ⟨nd, rfl⟩⟩))
            go_roundg k1
            case measure => have := HK1.out; omega
            case rel => exact ⟨(wrap64 (x5_1 + 1)), (by first | rfl | (simp; done) | (simp [*]; done)), H', ⟨by have := HK1.out; omega⟩, by repeat (first | exact Drawn0.refl _ | apply Drawn0.step)⟩
          · replace c8 := Bool.eq_false_iff.mpr c8
            subst c8
            have H1 : (if x5_1 > 0 then ((rehearsalref07_Digit.f (bt a0 (ji4))).bind fun t108 => (if t108 = true then (rehearsalref07_NameAt.l0 k1 a0 a1 (wrap64 (x5_1 + 1))) else (some x5_1))) else (some x5_1)) = some r := by rw [if_neg (show ¬ (false = true) by decide)] at H; exact H
            clear H
            have H := H1
            clear H1
            by_cases c9 : x5_1 > 0
            · rw [if_pos c9] at H
              have c9b0 : decide (0 < x5_1) = true := decide_eq_true c9
              clear c9
              replace H := Option.bind_eq_some_iff.mp H
              obtain ⟨t108, A110, H⟩ := H
              replace H : (if t108 = true then (rehearsalref07_NameAt.l0 k1 a0 a1 (wrap64 (x5_1 + 1))) else (some x5_1)) = some r := H
              have A11 := Aside0.mk A110
              clear A110
              by_cases c12 : t108 = true
              · subst c12
                have H1 : (rehearsalref07_NameAt.l0 k1 a0 a1 (wrap64 (x5_1 + 1))) = some r := by rw [if_pos rfl] at H; exact H
                clear H
                have H := H1
                clear H1
                have H' := Aside0.mk H
                clear H
                have p6 : 0 ≤ ((ji4) : Int) := of_decide_eq_true (by first | (with_reducible assumption) | assumption)
                have q6 : (ji4) < (a0.size : Int) := of_decide_eq_true (by first | (with_reducible assumption) | assumption)
                have hx6 := bt_at a0 (ji4)
                replace p6 := eq_true p6
                replace q6 := eq_true q6
                go_wp2_with (first | (go_at_call 58; (with_reducible refine (rehearsalref07_Letter.calls (bt a0 (ji4)) false _ A7.out).mono ?_); rintro e w' ⟨rfl, ⟨nd, rfl⟩⟩; have p10 : 0 ≤ ((ji4) : Int) := of_decide_eq_true (by first | (with_reducible assumption) | assumption); have q10 : (ji4) < (a0.size : Int) := of_decide_eq_true (by first | (with_reducible assumption) | assumption); have hx10 := bt_at a0 (ji4); replace p10 := eq_true p10; replace q10 := eq_true q10) | (go_at_call 35; (with_reducible refine (rehearsalref07_Digit.calls (bt a0 (ji4)) true _ A11.out).mono ?_); rintro e w' ⟨rfl, ⟨nd, rfl⟩⟩))
                go_roundg k1
                case measure => have := HK1.out; omega
                case rel => exact ⟨(wrap64 (x5_1 + 1)), (by first | rfl | (simp; done) | (simp [*]; done)), H', ⟨by have := HK1.out; omega⟩, by repeat (first | exact Drawn0.refl _ | apply Drawn0.step)⟩
              · replace c12 := Bool.eq_false_iff.mpr c12
                subst c12
                have H1 : (some x5_1) = some r := by rw [if_neg (show ¬ (false = true) by decide)] at H; exact H
                clear H
                have H := H1
                clear H1
                obtain rfl := Option.some.inj H
                have p6 : 0 ≤ ((ji4) : Int) := of_decide_eq_true (by first | (with_reducible assumption) | assumption)
                have q6 : (ji4) < (a0.size : Int) := of_decide_eq_true (by first | (with_reducible assumption) | assumption)
                have hx6 := bt_at a0 (ji4)
                replace p6 := eq_true p6
                replace q6 := eq_true q6
                go_wp2_with (first | (go_at_call 58; (with_reducible refine (rehearsalref07_Letter.calls (bt a0 (ji4)) false _ A7.out).mono ?_); rintro e w' ⟨rfl, ⟨nd, rfl⟩⟩; have p10 : 0 ≤ ((ji4) : Int) := of_decide_eq_true (by first | (with_reducible assumption) | assumption); have q10 : (ji4) < (a0.size : Int) := of_decide_eq_true (by first | (with_reducible assumption) | assumption); have hx10 := bt_at a0 (ji4); replace p10 := eq_true p10; replace q10 := eq_true q10) | (go_at_call 35; (with_reducible refine (rehearsalref07_Digit.calls (bt a0 (ji4)) false _ A11.out).mono ?_); rintro e w' ⟨rfl, ⟨nd, rfl⟩⟩))
                go_ret
                exact ⟨by first | rfl | (simp; done) | (simp only [← hji4] <;> (first | rfl | simp)) | (simp [*]; done), by repeat (first | exact Drawn0.refl _ | apply Drawn0.step)⟩
            · rw [if_neg c9] at H
              have c9b0 : decide (0 < x5_1) = false := decide_eq_false c9
              clear c9
              obtain rfl := Option.some.inj H
              have p6 : 0 ≤ ((ji4) : Int) := of_decide_eq_true (by first | (with_reducible assumption) | assumption)
              have q6 : (ji4) < (a0.size : Int) := of_decide_eq_true (by first | (with_reducible assumption) | assumption)
              have hx6 := bt_at a0 (ji4)
              replace p6 := eq_true p6
              replace q6 := eq_true q6
              go_wp2_with (first | (go_at_call 58; (with_reducible refine (rehearsalref07_Letter.calls (bt a0 (ji4)) false _ A7.out).mono ?_); rintro e w' ⟨rfl, ⟨nd, rfl⟩⟩))
              go_ret
              exact ⟨by first | rfl | (simp; done) | (simp only [← hji4] <;> (first | rfl | simp)) | (simp [*]; done), by repeat (first | exact Drawn0.refl _ | apply Drawn0.step)⟩
        · rw [if_neg c5] at H
          exact absurd H (by simp)
      · rw [if_neg c3] at H
        have c3b0 : decide ((wrap64 (a1 + x5_1)) < (a0.size : Int)) = false := decide_eq_false c3
        clear c3
        obtain rfl := Option.some.inj H
        go_wp2
        go_ret
        exact ⟨by first | rfl | (simp; done) | (simp [*]; done), by repeat (first | exact Drawn0.refl _ | apply Drawn0.step)⟩
end Go.Proofs.Ytgcbipflmhbpcaa.PV
namespace Go.Proofs.Ytgcbipflmhbpcaa.PV
open Go.RowKit Go.Proofs.YtgcbipflmhbpcaaW.PrintWords Go.Proofs.YtgcbipflmhbpcaaW.PrintLast Go.Proofs.YtgcbipflmhbpcaaW.PrintMore
attribute [local go_sem] max2_int min2_int max_two min_two max_three min_three max_four min_four   -- for this text's walks alone
set_option linter.unusedVariables false
set_option linter.unusedSimpArgs false
def rehearsalref07_Name.f (k : Nat) (a0 : ByteArray) : Option (Bool) := if (a0.size : Int) > 0 then (if (a0.size : Int) ≤ 64 then ((rehearsalref07_NameAt.f k a0 0).bind fun t109 => (some (t109 == (a0.size : Int)))) else (some false)) else (some false)
set_option maxHeartbeats 8000000 in
set_option maxRecDepth 100000 in
theorem rehearsalref07_Name.calls (k : Nat) (a0 : ByteArray) (r : Bool) (w : World) (h : rehearsalref07_Name.f k a0 = some r) :
    Calls Try.prog 18 #[.string a0] w fun e w' => e = .returned (.bool r) ∧ Drawn0 w w' := by
  have H : (if (a0.size : Int) > 0 then (if (a0.size : Int) ≤ 64 then ((rehearsalref07_NameAt.f k a0 0).bind fun t109 => (some (t109 == (a0.size : Int)))) else (some false)) else (some false)) = some r := h
  clear h
  by_cases c2 : (a0.size : Int) > 0
  · rw [if_pos c2] at H
    have c2b0 : decide (0 < (a0.size : Int)) = true := decide_eq_true c2
    have c2b1 : decide (0 < a0.size) = true := decide_eq_true (by omega)
    clear c2
    by_cases c3 : (a0.size : Int) ≤ 64
    · rw [if_pos c3] at H
      have c3b0 : decide ((a0.size : Int) ≤ 64) = true := decide_eq_true c3
      have c3b1 : decide (a0.size ≤ 64) = true := decide_eq_true (by omega)
      clear c3
      replace H := Option.bind_eq_some_iff.mp H
      obtain ⟨t109, A40, H⟩ := H
      replace H : (some (t109 == (a0.size : Int))) = some r := H
      have A4 := Aside0.mk A40
      clear A40
      obtain rfl := Option.some.inj H
      go_enter Try.func18, Try.ntmps18
      go_wp2_with (first | (go_at_call 41; (with_reducible refine (rehearsalref07_NameAt.calls k a0 0 t109 _ A4.out).mono ?_); rintro e w' ⟨rfl, ⟨nd, rfl⟩⟩))
      go_ret
      exact ⟨by first | rfl | (simp; done) | (simp [*]; done), by repeat (first | exact Drawn0.refl _ | apply Drawn0.step)⟩
    · rw [if_neg c3] at H
      have c3b0 : decide ((a0.size : Int) ≤ 64) = false := decide_eq_false c3
      have c3b1 : decide (a0.size ≤ 64) = false := decide_eq_false (by omega)
      clear c3
      obtain rfl := Option.some.inj H
      go_enter Try.func18, Try.ntmps18
      go_wp2
      go_ret
      exact ⟨by first | rfl | (simp; done) | (simp [*]; done), by repeat (first | exact Drawn0.refl _ | apply Drawn0.step)⟩
  · rw [if_neg c2] at H
    have c2b0 : decide (0 < (a0.size : Int)) = false := decide_eq_false c2
    have c2b1 : decide (0 < a0.size) = false := decide_eq_false (by omega)
    clear c2
    obtain rfl := Option.some.inj H
    go_enter Try.func18, Try.ntmps18
    go_wp2
    go_ret
    exact ⟨by first | rfl | (simp; done) | (simp [*]; done), by repeat (first | exact Drawn0.refl _ | apply Drawn0.step)⟩
end Go.Proofs.Ytgcbipflmhbpcaa.PV
namespace Go.Proofs.Ytgcbipflmhbpcaa.PV
open Go.RowKit Go.Proofs.YtgcbipflmhbpcaaW.PrintWords Go.Proofs.YtgcbipflmhbpcaaW.PrintLast Go.Proofs.YtgcbipflmhbpcaaW.PrintMore
attribute [local go_sem] max2_int min2_int max_two min_two max_three min_three max_four min_four   -- for this text's walks alone
set_option linter.unusedVariables false
set_option linter.unusedSimpArgs false
def rehearsalref11_Table_Place.l0 : Nat → ByteArray → Int → List (S26) → List ByteArray → Int → Option (Int)
  | 0, _, _, _, _, _ => none
  | k + 1, x1, x5, x111000, x111001, x111002 => if x5 < (x111000.length : Int) then (if 0 ≤ x5 then (if ((rd_T26 x111000 x5).f0).toList = x1.toList then (some x5) else (rehearsalref11_Table_Place.l0 k x1 (wrap64 (x5 + 1)) x111000 x111001 x111002)) else (none)) else (some (-1))
def rehearsalref11_Table_Place.f (k : Nat) (l0_0 : List (S26)) (l0_1 : List ByteArray) (a0_2 : Int) (a1 : ByteArray) : Option (Int) := rehearsalref11_Table_Place.l0 k a1 0 l0_0 l0_1 a0_2
set_option maxHeartbeats 8000000 in
set_option maxRecDepth 100000 in
theorem rehearsalref11_Table_Place.calls (k : Nat) (A0_0 : Option Addr) (c0_0 : Nat) (l0_0 : List (S26)) (A0_1 : Option Addr) (c0_1 : Nat) (l0_1 : List ByteArray) (a0_2 : Int) (a1 : ByteArray) (r : Int) (w : World) (hr0_0 : Kd.C k26 w A0_0 l0_0.length l0_0) (hc0_0 : l0_0.length ≤ c0_0) (hr0_1 : Kd.C Kd.string w A0_1 l0_1.length l0_1) (hc0_1 : l0_1.length ≤ c0_1) (h : rehearsalref11_Table_Place.f k l0_0 l0_1 a0_2 a1 = some r) :
    Calls Try.prog 37 #[.agg #[.slice A0_0 l0_0.length c0_0, .slice A0_1 l0_1.length c0_1, .int .i64 a0_2], .string a1] w fun e w' => e = .returned (.int .i64 r) ∧ Below w.heap.size w w' := by
  have hu36 := Try.underlying36
  have HR0_0 := Aside0.mk hr0_0
  have HC0_0 := Aside0.mk hc0_0
  clear hr0_0 hc0_0
  have HR0_1 := Aside0.mk hr0_1
  have HC0_1 := Aside0.mk hc0_1
  clear hr0_1 hc0_1
  have HB := Aside0.mk (Below.refl w.heap.size w)
  have H : (rehearsalref11_Table_Place.l0 k a1 0 l0_0 l0_1 a0_2) = some r := h
  clear h
  have H' := Aside0.mk H
  clear H
  go_enter Try.func37, Try.ntmps37
  go_wp2_with (first | ((with_reducible refine gate_dst (N := 2) rfl ?_); refine box_event ?hg (N := 2) ?hd (cs := #[.slice A0_0 l0_0.length c0_0, .slice A0_1 l0_1.length c0_1, .int .i64 a0_2]) (t := 36) ?hr ?_; (case hd => rfl); (case hg => rfl); (case hr => first | (go_simp; done) | (go_simp; rfl)); intro gb110 hg w3 hbox hb; have n0_ := Aside0.mk (below_step (by repeat (first | (with_reducible first | exact HB.out | apply below_alloc | apply pw_below_drewN | apply below_drew1) | exact HB.out)) hb); have n1_ := Aside0.mk (hbox); have n2_ := Aside0.mk ((by rw [hg]; exact (below_size (by repeat (first | (with_reducible first | exact HB.out | apply below_alloc | apply pw_below_drewN | apply below_drew1) | exact HB.out))) : w.heap.size ≤ gb110)); have n3_ := Aside0.mk ((by rw [hg]; exact (below_size (by repeat (first | (with_reducible first | exact HB.out | apply below_alloc | apply pw_below_drewN | apply below_drew1) | exact HB.out))) : w.heap.size ≤ gb110)); clear HB; have HB := n0_; have BK110 := n1_; have GW110 := n2_; have GE110 := n3_; clear n0_ n1_ n2_ n3_; clear hb hbox hg))
  go_loopg [5] k (fun kq v5 w' => ∃ (x5_1 : Int), v5 = .int .i64 x5_1 ∧ Aside0 (rehearsalref11_Table_Place.l0 kq a1 x5_1 l0_0 l0_1 a0_2 = some r) ∧ Aside0 (kq ≤ k) ∧ Aside0 (w'.heap[gb110]? = some (.cells #[(.slice A0_0 l0_0.length c0_0), (.slice A0_1 l0_1.length c0_1), .int .i64 a0_2] 36 (0, 0))) ∧ Aside0 (Below w.heap.size w w'))
  case atStart => exact ⟨(0), (by first | rfl | (simp; done) | (simp [*]; done)), H', ⟨Nat.le_refl _⟩, ⟨by (with_reducible repeat (first | refine blk_drewN ?_ _ | refine blk_drew ?_ | refine blk_alloc ?_ _)); exact BK110.out⟩, ⟨by repeat (first | (with_reducible first | exact HB.out | apply below_alloc | apply pw_below_drewN | apply below_drew1 | refine below_set ?_ GE110.out) | exact HB.out)⟩⟩
  case round =>
    clear H'
    try clear p2
    try clear c3
    obtain ⟨x5_1, rfl, HA, HK1, BK110, HB⟩ := hrel
    cases gk with
    | zero => exact absurd HA.out (by simp [rehearsalref11_Table_Place.l0])
    | succ k1 =>
      have H := HA.out
      clear HA
      simp only [rehearsalref11_Table_Place.l0] at H
      by_cases c4 : x5_1 < (l0_0.length : Int)
      · rw [if_pos c4] at H
        have c4b0 : decide (x5_1 < (l0_0.length : Int)) = true := decide_eq_true c4
        clear c4
        by_cases c5 : 0 ≤ x5_1
        · rw [if_pos c5] at H
          have c5b0 : decide (0 ≤ x5_1) = true := decide_eq_true c5
          clear c5
          by_cases c6 : ((rd_T26 l0_0 x5_1).f0).toList = a1.toList
          · rw [if_pos c6] at H
            have c6b0 : (((rd_T26 l0_0 x5_1).f0).toList == a1.toList) = true := beq_iff_eq.mpr c6
            have c6b1 : (((rd_T26 l0_0 x5_1).f0).toList != a1.toList) = false := bne_eq_false_iff_eq.mpr c6
            clear c6
            obtain rfl := Option.some.inj H
            have hcz7_0 : wr.cell? ⟨gb110, 0, none⟩ = some (.slice A0_0 l0_0.length c0_0) := (blk_cell BK110.out 0).trans rfl
            have hcz7_1 : wr.cell? ⟨gb110, 1, none⟩ = some (.slice A0_1 l0_1.length c0_1) := (blk_cell BK110.out 1).trans rfl
            have hcz7_2 : wr.cell? ⟨gb110, 2, none⟩ = some (.int .i64 a0_2) := (blk_cell BK110.out 2).trans rfl
            have hfz7_0 := blk_frozen BK110.out 0
            have hfz7_1 := blk_frozen BK110.out 1
            have hfz7_2 := blk_frozen BK110.out 2
            have p111 : 0 ≤ (x5_1 : Int) := of_decide_eq_true (by first | (with_reducible assumption) | assumption)
            have q111 : x5_1 < (l0_0.length : Int) := of_decide_eq_true (by first | (with_reducible assumption) | assumption)
            obtain ⟨ad111, e111, hx111_0, hx111_1⟩ := at_T26 HR0_0.out x5_1 p111 q111
            cases e111
            replace hx111_0 := (HB.out.cell (World.block_lt_of_cell? w _ hx111_0)).trans hx111_0
            replace hx111_1 := (HB.out.cell (World.block_lt_of_cell? w _ hx111_1)).trans hx111_1
            replace p111 := eq_true p111
            replace q111 := eq_true q111
            go_wp2
            go_ret
            exact ⟨by first | rfl | (simp [errW_none, errW_some] <;> rfl) | (simp [*, errW_none, errW_some] <;> rfl), by repeat (first | (with_reducible first | exact HB.out | apply below_alloc | apply pw_below_drewN | apply below_drew1 | refine below_set ?_ GE110.out) | exact HB.out)⟩
          · rw [if_neg c6] at H
            have c6b0 : (((rd_T26 l0_0 x5_1).f0).toList == a1.toList) = false := beq_eq_false_iff_ne.mpr c6
            have c6b1 : (((rd_T26 l0_0 x5_1).f0).toList != a1.toList) = true := bne_iff_ne.mpr c6
            have H' := Aside0.mk H
            clear H
            have hcz8_0 : wr.cell? ⟨gb110, 0, none⟩ = some (.slice A0_0 l0_0.length c0_0) := (blk_cell BK110.out 0).trans rfl
            have hcz8_1 : wr.cell? ⟨gb110, 1, none⟩ = some (.slice A0_1 l0_1.length c0_1) := (blk_cell BK110.out 1).trans rfl
            have hcz8_2 : wr.cell? ⟨gb110, 2, none⟩ = some (.int .i64 a0_2) := (blk_cell BK110.out 2).trans rfl
            have hfz8_0 := blk_frozen BK110.out 0
            have hfz8_1 := blk_frozen BK110.out 1
            have hfz8_2 := blk_frozen BK110.out 2
            have p111 : 0 ≤ (x5_1 : Int) := of_decide_eq_true (by first | (with_reducible assumption) | assumption)
            have q111 : x5_1 < (l0_0.length : Int) := of_decide_eq_true (by first | (with_reducible assumption) | assumption)
            obtain ⟨ad111, e111, hx111_0, hx111_1⟩ := at_T26 HR0_0.out x5_1 p111 q111
            cases e111
            replace hx111_0 := (HB.out.cell (World.block_lt_of_cell? w _ hx111_0)).trans hx111_0
            replace hx111_1 := (HB.out.cell (World.block_lt_of_cell? w _ hx111_1)).trans hx111_1
            replace p111 := eq_true p111
            replace q111 := eq_true q111
            go_wp2
            go_roundg k1
            case measure => have := HK1.out; omega
            case rel => exact ⟨(wrap64 (x5_1 + 1)), (by first | rfl | (simp; done) | (simp [*]; done)), H', ⟨by have := HK1.out; omega⟩, ⟨by (with_reducible repeat (first | refine blk_drewN ?_ _ | refine blk_drew ?_ | refine blk_alloc ?_ _)); exact BK110.out⟩, ⟨by repeat (first | (with_reducible first | exact HB.out | apply below_alloc | apply pw_below_drewN | apply below_drew1 | refine below_set ?_ GE110.out) | exact HB.out)⟩⟩
        · rw [if_neg c5] at H
          exact absurd H (by simp)
      · rw [if_neg c4] at H
        have c4b0 : decide (x5_1 < (l0_0.length : Int)) = false := decide_eq_false c4
        clear c4
        obtain rfl := Option.some.inj H
        have hcz9_0 : wr.cell? ⟨gb110, 0, none⟩ = some (.slice A0_0 l0_0.length c0_0) := (blk_cell BK110.out 0).trans rfl
        have hcz9_1 : wr.cell? ⟨gb110, 1, none⟩ = some (.slice A0_1 l0_1.length c0_1) := (blk_cell BK110.out 1).trans rfl
        have hcz9_2 : wr.cell? ⟨gb110, 2, none⟩ = some (.int .i64 a0_2) := (blk_cell BK110.out 2).trans rfl
        have hfz9_0 := blk_frozen BK110.out 0
        have hfz9_1 := blk_frozen BK110.out 1
        have hfz9_2 := blk_frozen BK110.out 2
        go_wp2
        go_ret
        exact ⟨by first | rfl | (simp [errW_none, errW_some] <;> rfl) | (simp [*, errW_none, errW_some] <;> rfl), by repeat (first | (with_reducible first | exact HB.out | apply below_alloc | apply pw_below_drewN | apply below_drew1 | refine below_set ?_ GE110.out) | exact HB.out)⟩
end Go.Proofs.Ytgcbipflmhbpcaa.PV
