/- Texts of this claim's proof: small lemmas, walks and plain laws (merged by wip/shake.py). -/
import Derived.Test.YtnpnablnnfekkaaDoorTcM0
import Derived.Test.YtnpnablnnfekkaaDoorProg
import Derived.Below
import Derived.Deep.Draws
import Derived.Deep.AppendLies
import Derived.Maps.AppendAt
import Derived.OwnWalk
import Derived.Laws.BytesArg
import Derived.Laws.MakeOwn
import Derived.Laws.OwnMore
import Derived.Deep.OwnRows
import Derived.Tactics
import Derived.Lib.ConvBytes
import Derived.Laws.Slices
import Derived.WalkKit
import Derived.KernelRfl
import Derived.RowKit3
import Derived.Deep.LoopGhost
import Derived.Deep.QuietTactic
import Derived.BigQuiet
import Derived.WideLaws
import Derived.Deep.DeepCutAuto
import Derived.Deep.CutBlock
import Derived.Deep.RegionHeld3
import Derived.Laws.Rows
import Derived.Lib.AppendStr
import Derived.ArgAppend
import Derived.Laws.IdiomCopy
import Derived.OrdersHeld
import Derived.Laws.BitsLemmas
import Derived.RowKit
import Derived.Deep.MidRow
import Derived.Shelf.Strings.Builder1
import Derived.Shelf.Strings.Builder2
import Derived.Shelf.Strings.OnBuilder
import Derived.Shelf.Strings.Trim
import Derived.Shelf.Small.Utf8
import Derived.Shelf.Small.Strs
import Derived.Shelf.Small.Wraps
import Derived.Shelf.Strings.BuilderF
import Derived.Shelf.Strings.BuilderK
import Derived.Shelf.Strings.Builder2Cap
import Derived.Shelf.Strings.Search1
import Derived.Shelf.Strings.Search2
import Derived.Shelf.Strings.Search3
import Derived.Shelf.LaysM
import Derived.Shelf.Strings.Shaped
import Derived.Shelf.Strings.LastIndex
import Derived.Shelf.Unicode.Decode
import Derived.Shelf.Strings.Runes
import Derived.Shelf.Strings.AsciiSet
import Derived.Shelf.Unicode.DecodeSlow
import Derived.Shelf.Unicode.DecodeAny
import Derived.Shelf.Unicode.DecodeLast
import Derived.Shelf.Strings.BuilderCap
import Derived.Ground.Names2Prog
import Derived.Shelf.Slices.SearchI
import Derived.Ground.PaProg
import Derived.Shelf.Path.Small
import Derived.Lib.IndexLaws
import Derived.Lib.TrimByte
import Derived.Lib.Join
import Derived.Lib.LastIndexByte
import Derived.Lib.Hide
import Derived.WalkSpells
import Derived.WalkSmall
import Derived.Outline
namespace Go.Proofs.YtnpnablnnfekkaaDoor.PTr
open Go.RowKit Go.Proofs.YtnpnablnnfekkaaDoorW.PrintWords Go.Proofs.YtnpnablnnfekkaaDoorW.PrintLast Go.Proofs.YtnpnablnnfekkaaDoorW.PrintMore
attribute [local go_sem] max2_int min2_int max_two min_two max_three min_three max_four min_four   -- for this text's walks alone
set_option linter.unusedVariables false
set_option linter.unusedSimpArgs false
def errW : Option Int → Value
 | none => .nilIface
 | some c => .iface 0 (.int .i64 c)
theorem errW_none : errW none = .nilIface := rfl
theorem errW_some (c : Int) : errW (some c) = .iface 0 (.int .i64 c) := rfl
theorem info44 : (Tryd.prog.info? 44).map (fun i => (i.zero, i.size, i.bytes)) = some (some (.agg #[(.int .i64 0), (.int .i64 0), (.int .i64 0), (.int .i64 0), (.int .i64 0), (.string ⟨#[]⟩), (.slice none 0 0)]), 7, 80) := by kernel_rfl
theorem info61 : (Tryd.prog.info? 61).map (fun i => (i.zero, i.size, i.bytes)) = some (some (.agg #[(.string ⟨#[]⟩), (.int .i64 0)]), 2, 24) := by kernel_rfl
structure S61 where
 f0 : ByteArray
 f1 : Int
def z61 : S61 := ⟨(⟨#[]⟩ : ByteArray), (0 : Int)⟩
def k61 : Kd S61 := Kd.iso (Kd.pair Kd.string (Kd.int .i64)) (fun x : S61 => (x.f0, x.f1))
theorem k61_open {w : World} {x : S61} {cs : List Value} (h : k61.K w x cs) : cs = [.string x.f0, .int .i64 x.f1] := by
 obtain ⟨_, _, rfl, rfl, rfl⟩ := h
 exact rfl
theorem k61_openM {w : World} {base : Nat} {ok : Nat → Prop} {x : S61} {cs : List Value} (h : k61.M w base ok x cs) : cs = [.string x.f0, .int .i64 x.f1] := by
 obtain ⟨_, _, rfl, rfl, rfl⟩ := h
 exact rfl
theorem k61_mkM (w : World) (base : Nat) (ok : Nat → Prop) (x : S61)  : k61.M w base ok x [.string x.f0, .int .i64 x.f1] := ⟨[.string x.f0], [.int .i64 x.f1], rfl, rfl, rfl⟩
def rd_T61 (xs : List S61) (i : Int) : S61 := xs.getD i.toNat z61
theorem at_T61 {w : World} {A : Option Addr} {n : Nat} {xs : List S61} (h : Kd.C k61 w A n xs) (i : Int) (h0 : 0 ≤ i) (h1 : i < n) : ∃ ad , A = some ad ∧ w.cell? (ad.add (i.toNat * 2)) = some (.string (rd_T61 xs i).f0) ∧ w.cell? ⟨(ad.add (i.toNat * 2)).block, (ad.add (i.toNat * 2)).off + 1, none⟩ = some (.int .i64 (rd_T61 xs i).f1) := by
 obtain ⟨ad, c, e, _, hK, hc0⟩ := Kd.C_get h z61 i h0 h1
 have hc : ∀ j u, c[j]? = some u → w.cell? (ad.add (i.toNat * 2 + j)) = some u := hc0
 obtain rfl := k61_open hK
 exact ⟨ad, e, hc 0 _ rfl, by rw [← add_field _ _ 1 (by omega)]; exact hc 1 _ rfl⟩
structure S44 where
 f0 : Int
 f1 : Int
 f2 : Int
 f3 : Int
 f4 : Int
 f5 : ByteArray
 f6 : (List S61)
def z44 : S44 := ⟨(0 : Int), (0 : Int), (0 : Int), (0 : Int), (0 : Int), (⟨#[]⟩ : ByteArray), ([] : List S61)⟩
def k44 : Kd S44 := Kd.iso (Kd.pair (Kd.int .i64) (Kd.pair (Kd.int .i64) (Kd.pair (Kd.int .i64) (Kd.pair (Kd.int .i64) (Kd.pair (Kd.int .i64) (Kd.pair Kd.string (Kd.slice 61 k61))))))) (fun x : S44 => (x.f0, x.f1, x.f2, x.f3, x.f4, x.f5, x.f6))
theorem k44_open {w : World} {x : S44} {cs : List Value} (h : k44.K w x cs) : ∃ A6 c6, cs = [.int .i64 x.f0, .int .i64 x.f1, .int .i64 x.f2, .int .i64 x.f3, .int .i64 x.f4, .string x.f5, .slice A6 x.f6.length c6] ∧ x.f6.length ≤ c6 ∧ k61.C w A6 x.f6.length x.f6 := by
 obtain ⟨_, _, rfl, rfl, ⟨_, _, rfl, rfl, ⟨_, _, rfl, rfl, ⟨_, _, rfl, rfl, ⟨_, _, rfl, rfl, ⟨_, _, rfl, rfl, ⟨A6, c6, rfl, l6, g6⟩⟩⟩⟩⟩⟩⟩ := h
 exact ⟨A6, c6, rfl, l6, g6⟩
theorem k44_mk (w : World) (x : S44) {A6 : Option Addr} {c6 : Nat} (l6 : x.f6.length ≤ c6) (g6 : k61.C w A6 x.f6.length x.f6) : k44.K w x [.int .i64 x.f0, .int .i64 x.f1, .int .i64 x.f2, .int .i64 x.f3, .int .i64 x.f4, .string x.f5, .slice A6 x.f6.length c6] := ⟨[.int .i64 x.f0], [.int .i64 x.f1, .int .i64 x.f2, .int .i64 x.f3, .int .i64 x.f4, .string x.f5, .slice A6 x.f6.length c6], rfl, rfl, ⟨[.int .i64 x.f1], [.int .i64 x.f2, .int .i64 x.f3, .int .i64 x.f4, .string x.f5, .slice A6 x.f6.length c6], rfl, rfl, ⟨[.int .i64 x.f2], [.int .i64 x.f3, .int .i64 x.f4, .string x.f5, .slice A6 x.f6.length c6], rfl, rfl, ⟨[.int .i64 x.f3], [.int .i64 x.f4, .string x.f5, .slice A6 x.f6.length c6], rfl, rfl, ⟨[.int .i64 x.f4], [.string x.f5, .slice A6 x.f6.length c6], rfl, rfl, ⟨[.string x.f5], [.slice A6 x.f6.length c6], rfl, rfl, ⟨A6, c6, rfl, l6, g6⟩⟩⟩⟩⟩⟩⟩
theorem k44_mkM (w : World) (base : Nat) (ok : Nat → Prop) (x : S44) {v6 : Value} (g6 : k61.R 61 w base ok v6 x.f6) : k44.M w base ok x [.int .i64 x.f0, .int .i64 x.f1, .int .i64 x.f2, .int .i64 x.f3, .int .i64 x.f4, .string x.f5, v6] := ⟨[.int .i64 x.f0], [.int .i64 x.f1, .int .i64 x.f2, .int .i64 x.f3, .int .i64 x.f4, .string x.f5, v6], rfl, rfl, ⟨[.int .i64 x.f1], [.int .i64 x.f2, .int .i64 x.f3, .int .i64 x.f4, .string x.f5, v6], rfl, rfl, ⟨[.int .i64 x.f2], [.int .i64 x.f3, .int .i64 x.f4, .string x.f5, v6], rfl, rfl, ⟨[.int .i64 x.f3], [.int .i64 x.f4, .string x.f5, v6], rfl, rfl, ⟨[.int .i64 x.f4], [.string x.f5, v6], rfl, rfl, ⟨[.string x.f5], [v6], rfl, rfl, ⟨v6, rfl, g6⟩⟩⟩⟩⟩⟩⟩
theorem k44_mkF (W : World) (ok : Nat → Prop) (x : S44) {A6 : Option Addr} {c6 : Nat} (l6 : x.f6.length ≤ c6) (g6 : Kd.F k61 W ok A6 x.f6.length x.f6) : Kd.FK k44 W ok x [.int .i64 x.f0, .int .i64 x.f1, .int .i64 x.f2, .int .i64 x.f3, .int .i64 x.f4, .string x.f5, .slice A6 x.f6.length c6] := fun W2 hW => k44_mk W2 x l6 (g6 W2 hW)
def rd_T44 (xs : List S44) (i : Int) : S44 := xs.getD i.toNat z44
theorem at_T44 {w : World} {A : Option Addr} {n : Nat} {xs : List S44} (h : Kd.C k44 w A n xs) (i : Int) (h0 : 0 ≤ i) (h1 : i < n) : ∃ ad A6 c6, A = some ad ∧ w.cell? (ad.add (i.toNat * 7)) = some (.int .i64 (rd_T44 xs i).f0) ∧ w.cell? ⟨(ad.add (i.toNat * 7)).block, (ad.add (i.toNat * 7)).off + 1, none⟩ = some (.int .i64 (rd_T44 xs i).f1) ∧ w.cell? ⟨(ad.add (i.toNat * 7)).block, (ad.add (i.toNat * 7)).off + 2, none⟩ = some (.int .i64 (rd_T44 xs i).f2) ∧ w.cell? ⟨(ad.add (i.toNat * 7)).block, (ad.add (i.toNat * 7)).off + 3, none⟩ = some (.int .i64 (rd_T44 xs i).f3) ∧ w.cell? ⟨(ad.add (i.toNat * 7)).block, (ad.add (i.toNat * 7)).off + 4, none⟩ = some (.int .i64 (rd_T44 xs i).f4) ∧ w.cell? ⟨(ad.add (i.toNat * 7)).block, (ad.add (i.toNat * 7)).off + 5, none⟩ = some (.string (rd_T44 xs i).f5) ∧ w.cell? ⟨(ad.add (i.toNat * 7)).block, (ad.add (i.toNat * 7)).off + 6, none⟩ = some (.slice A6 (rd_T44 xs i).f6.length c6) ∧ (rd_T44 xs i).f6.length ≤ c6 ∧ k61.C w A6 (rd_T44 xs i).f6.length (rd_T44 xs i).f6 := by
 obtain ⟨ad, c, e, _, hK, hc0⟩ := Kd.C_get h z44 i h0 h1
 have hc : ∀ j u, c[j]? = some u → w.cell? (ad.add (i.toNat * 7 + j)) = some u := hc0
 obtain ⟨A6, c6, rfl, l6, g6⟩ := k44_open hK
 exact ⟨ad, A6, c6, e, hc 0 _ rfl, by rw [← add_field _ _ 1 (by omega)]; exact hc 1 _ rfl, by rw [← add_field _ _ 2 (by omega)]; exact hc 2 _ rfl, by rw [← add_field _ _ 3 (by omega)]; exact hc 3 _ rfl, by rw [← add_field _ _ 4 (by omega)]; exact hc 4 _ rfl, by rw [← add_field _ _ 5 (by omega)]; exact hc 5 _ rfl, by rw [← add_field _ _ 6 (by omega)]; exact hc 6 _ rfl, l6, g6⟩
structure S87 where
 f0 : Int
 f1 : ByteArray
def k87 : Kd S87 := Kd.iso (Kd.pair (Kd.int .i64) Kd.string) (fun x : S87 => (x.f0, x.f1))
end Go.Proofs.YtnpnablnnfekkaaDoor.PTr
set_option linter.unusedVariables false
set_option linter.unusedSimpArgs false
namespace Go.Proofs.YtnpnablnnfekkaaDoor.PTr
open Go.RowKit Go.Proofs.YtnpnablnnfekkaaDoor Go.Proofs.YtnpnablnnfekkaaDoorW.PrintWords Go.Proofs.YtnpnablnnfekkaaDoorW.PrintLast
def zN : Array Value := #[.int .i64 0, .int .i64 0, .int .i64 0, .int .i64 0, .int .i64 0, .string (⟨#[]⟩ : ByteArray), .slice none 0 0]
theorem there_of {w : World} {g t n : Nat} {cs : Array Value} (h : w.heap[g]? = some (.cells cs t (0, 0))) (hn : n ≤ cs.size) : w.there g 0 n := fun j hj => by
 rw [Nat.zero_add]
 exact ⟨by rw [blk_cell h j, Array.getElem?_eq_getElem (by omega)]; rfl, blk_frozen h j⟩
theorem sizeN : (Tryd.prog.info? 44).map (·.size) = some 7 := by kernel_rfl
def celN (x0 x1 x2 x3 x4 : Int) (x5 : ByteArray) (u : Value) : Array Value := #[.int .i64 x0, .int .i64 x1, .int .i64 x2, .int .i64 x3, .int .i64 x4, .string x5, u]
theorem celN_one (x0 x1 x2 x3 x4 : Int) (x5 : ByteArray) (A : Option Addr) (n c : Nat) : (celN x0 x1 x2 x3 x4 x5 (.slice A n c)).all (·.oneCell') = true := by
 refine all_oneCell_toArray (cs := [.int .i64 x0, .int .i64 x1, .int .i64 x2, .int .i64 x3, .int .i64 x4, .string x5, .slice A n c]) (fun v hv => ?_)
 simp only [List.mem_cons, List.not_mem_nil, or_false] at hv
 rcases hv with rfl | rfl | rfl | rfl | rfl | rfl | rfl <;> rfl
theorem setCells_blk {w : World} {g t : Nat} {x0 x1 x2 x3 x4 : Int} {x5 : ByteArray} {u : Value} (h : w.heap[g]? = some (.cells zN t (0, 0))) : (w.setCells g 0 (celN x0 x1 x2 x3 x4 x5 u).toList).heap[g]? = some (.cells (celN x0 x1 x2 x3 x4 x5 u) t (0, 0)) := by
 have b0 : w.heap[g]? = some (.cells #[.int .i64 0, .int .i64 0, .int .i64 0, .int .i64 0, .int .i64 0, .string (⟨#[]⟩ : ByteArray), .slice none 0 0] t (0, 0)) := h
 have b1 := blk_put b0 0 (.int .i64 x0) (cs' := #[.int .i64 x0, .int .i64 0, .int .i64 0, .int .i64 0, .int .i64 0, .string (⟨#[]⟩ : ByteArray), .slice none 0 0]) rfl
 have b2 := blk_put b1 1 (.int .i64 x1) (cs' := #[.int .i64 x0, .int .i64 x1, .int .i64 0, .int .i64 0, .int .i64 0, .string (⟨#[]⟩ : ByteArray), .slice none 0 0]) rfl
 have b3 := blk_put b2 2 (.int .i64 x2) (cs' := #[.int .i64 x0, .int .i64 x1, .int .i64 x2, .int .i64 0, .int .i64 0, .string (⟨#[]⟩ : ByteArray), .slice none 0 0]) rfl
 have b4 := blk_put b3 3 (.int .i64 x3) (cs' := #[.int .i64 x0, .int .i64 x1, .int .i64 x2, .int .i64 x3, .int .i64 0, .string (⟨#[]⟩ : ByteArray), .slice none 0 0]) rfl
 have b5 := blk_put b4 4 (.int .i64 x4) (cs' := #[.int .i64 x0, .int .i64 x1, .int .i64 x2, .int .i64 x3, .int .i64 x4, .string (⟨#[]⟩ : ByteArray), .slice none 0 0]) rfl
 have b6 := blk_put b5 5 (.string x5) (cs' := #[.int .i64 x0, .int .i64 x1, .int .i64 x2, .int .i64 x3, .int .i64 x4, .string x5, .slice none 0 0]) rfl
 exact blk_put b6 6 u (cs' := #[.int .i64 x0, .int .i64 x1, .int .i64 x2, .int .i64 x3, .int .i64 x4, .string x5, u]) rfl
theorem setCells_below {w0 w : World} {g : Nat} {x0 x1 x2 x3 x4 : Int} {x5 : ByteArray} {u : Value} (h : Below w0.heap.size w0 w) (hg : w0.heap.size ≤ g) : Below w0.heap.size w0 (w.setCells g 0 (celN x0 x1 x2 x3 x4 x5 u).toList) := by
 show Below w0.heap.size w0 (((((((w.setCell ⟨g, 0, none⟩ (.int .i64 x0)).setCell ⟨g, 1, none⟩ (.int .i64 x1)).setCell ⟨g, 2, none⟩ (.int .i64 x2)).setCell ⟨g, 3, none⟩ (.int .i64 x3)).setCell ⟨g, 4, none⟩ (.int .i64 x4)).setCell ⟨g, 5, none⟩ (.string x5)).setCell ⟨g, 6, none⟩ u)
 exact below_set (below_set (below_set (below_set (below_set (below_set (below_set h hg) hg) hg) hg) hg) hg) hg
/-- a node's box, stored whole: the world behind it has a name of its own -/
theorem store_box {ops : Array Oper} {rest : List Oper} {op : Oper} {a : Act} {Q : Exit → Act → World → Prop} {w w1 : World} {gb : Nat} {x0 x1 x2 x3 x4 : Int} {x5 : ByteArray} {A : Option Addr} {n c : Nat} (hgd : op.guard = none) (hd : op.dst = none) (x y : Operand) (ho : op.op = .store 44 x y)
  (hx : a.eval x = .pointer (some ⟨gb, 0, none⟩)) (hy : a.eval y = .agg (celN x0 x1 x2 x3 x4 x5 (.slice A n c))) (hbn : w1.heap[gb]? = some (.cells zN 44 (0, 0))) (hg : gb = w.heap.size) (hw : Below w.heap.size w w1)
  (h : ∀ w2, w2.heap[gb]? = some (.cells #[.int .i64 x0, .int .i64 x1, .int .i64 x2, .int .i64 x3, .int .i64 x4, .string x5, .slice A n c] 44 (0, 0)) → Below w.heap.size w w2 → wpList Tryd.prog ops Q rest (a.put none undef) w2) : wpList Tryd.prog ops Q (op :: rest) a w1 := by
 refine wpList_store_mid hgd 44 x y ho gb 0 (celN x0 x1 x2 x3 x4 x5 (.slice A n c)) hx hy (there_of hbn (Nat.le_refl 7)) sizeN (celN_one _ _ _ _ _ _ _ _ _) ?_
 rw [hd]
 exact h _ (setCells_blk hbn) (setCells_below hw (by omega))
theorem meas_ (n i : Nat) (h : wrap64 ((i : Int) + 1) = ((i + 1 : Nat) : Int)) (hlt : i < n) : n - (intOf (Value.int .i64 (wrap64 ((i : Int) + 1)))).toNat < n - (intOf (Value.int .i64 (i : Int))).toNat := by
 rw [h]
 show n - ((i + 1 : Nat) : Int).toNat < n - (i : Int).toNat
 rw [Int.toNat_natCast, Int.toNat_natCast]
 exact Nat.sub_lt_sub_left hlt (Nat.lt_succ_self i)
section
variable {P : Program} {md : Region.Mode} {ops : Array Oper} {Q : Exit → Act → World → Prop} {S : World → Prop} {ds : List Nat}
/-- a step of a region that draws its order; what is listed is told by the step -/
theorem takeS_ (i : Nat) {N : Option Tmp} {oi : Oper} {v : Value} {fuel : Nat} {l : Array Bool} {a : Act} {w : World} (hi : ops[i]? = some oi) (hN : oi.dst = N) (hc : takeB md ops ds l (l.setIfInBounds i true) i = true)
  (hQ : ∀ c a w, Q (.panic c) (a.put oi.dst v) w → Q (.panic c) a w) (hy : YieldsIf P ops S oi v a) (hS : S w) {a' : Act} (ha : a.put N v = a')
  (h : wpAnyLast P md ops Q S ds fuel (l.setIfInBounds i true) a' w) : wpAnyLast P md ops Q S ds (fuel + 1) l a w := take_ _ hi hN hc hQ hy hS ha h
theorem pureS_ (i : Nat) {N : Option Tmp} {oi : Oper} {v : Value} {fuel : Nat} {l : Array Bool} {a : Act} {w : World} (hi : ops[i]? = some oi) (hN : oi.dst = N) (hc : anyB md ops l (l.setIfInBounds i true) i = true)
  (hQ : ∀ c a w, Q (.panic c) (a.put oi.dst v) w → Q (.panic c) a w) (hy : Yields P ops oi v a) {a' : Act} (ha : a.put N v = a')
  (h : wpAnyLast P md ops Q S ds fuel (l.setIfInBounds i true) a' w) : wpAnyLast P md ops Q S ds (fuel + 1) l a w := pure_ _ hi hN hc hQ hy ha h
theorem oneS_ (i : Nat) {N : Option Tmp} {oi : Oper} {fuel : Nat} {l : Array Bool} {a : Act} {w : World} (hi : ops[i]? = some oi) (hN : oi.dst = N) (hc : readyB md ops l (l.setIfInBounds i true) i = true) (hd : i ∉ ds)
  (h : ∀ K : Act → World → Prop, Shut (∀ a' w', S w' → (S w' → wpAnyLast P md ops Q S ds fuel (l.setIfInBounds i true) a' w') → K a' w') → if Region.wanted oi (yielded ops a.tmps) = true then Oper.wp P oi a w K Q else K (a.put N undef) w) :
  wpAnyLast P md ops Q S ds (fuel + 1) l a w :=
 one_ (l.setIfInBounds i true) hi hN hc hd h
theorem lastS_ (i : Nat) {N : Option Tmp} {oi : Oper} {fuel : Nat} {l : Array Bool} {a : Act} {w : World} (hi : ops[i]? = some oi) (hN : oi.dst = N) (hc : readyB md ops l (l.setIfInBounds i true) i = true) (hd : i ∈ ds)
  (h : ∀ K : Act → World → Prop, Shut (∀ a' w', wpAnyLast P md ops Q S ds fuel (l.setIfInBounds i true) a' w' → K a' w') → if Region.wanted oi (yielded ops a.tmps) = true then Oper.wp P oi a w K Q else K (a.put N undef) w) :
  wpAnyLast P md ops Q S ds (fuel + 1) l a w :=
 last_ (l.setIfInBounds i true) hi hN hc hd h
end
end Go.Proofs.YtnpnablnnfekkaaDoor.PTr
set_option linter.unusedVariables false
set_option linter.unusedSimpArgs false
namespace Go.Proofs.YtnpnablnnfekkaaDoor.PTr
open Go.RowKit Go.Proofs.YtnpnablnnfekkaaDoor Go.Proofs.YtnpnablnnfekkaaDoorW.PrintWords Go.Proofs.YtnpnablnnfekkaaDoorW.PrintLast Go.Proofs.YtnpnablnnfekkaaDoorW.PrintMore
def zTb : Array Value := #[.slice none 0 0, .int .i64 0, .int .i64 0, .int .i64 0]
structure BSt (w0 w : World) (g : Nat) (v : Value) (l : List S44) (b1 b2 b3 : Int) : Prop where
 hb : Below w0.heap.size w0 w
 eg : w0.heap.size ≤ g
 b : w.heap[g]? = some (.cells #[v, .int .i64 b1, .int .i64 b2, .int .i64 b3] 26 (0, 0))
 s : Kd.S k44 44 w w0.heap.size (fun _ => True) v l
theorem BSt.below {w0 w w' : World} {g : Nat} {v : Value} {l : List S44} {b1 b2 b3 : Int} (h : BSt w0 w g v l b1 b2 b3) (hb : Below w.heap.size w w') : BSt w0 w' g v l b1 b2 b3 :=
 ⟨below_step h.hb hb, h.eg, blk_below h.b hb, Kd.S_below h.s hb⟩
theorem put4b {w : World} {g t : Nat} {y0 y1 y2 y3 : Value} (h : w.heap[g]? = some (.cells #[y0, y1, y2, y3] t (0, 0))) (x0 x1 x2 x3 : Value) : ((((w.setCell ⟨g, 0, none⟩ x0).setCell ⟨g, 1, none⟩ x1).setCell ⟨g, 2, none⟩ x2).setCell ⟨g, 3, none⟩ x3).heap[g]? = some (.cells #[x0, x1, x2, x3] t (0, 0)) :=
 blk_put (blk_put (blk_put (blk_put h 0 x0 (cs' := #[x0, y1, y2, y3]) rfl) 1 x1 (cs' := #[x0, x1, y2, y3]) rfl) 2 x2 (cs' := #[x0, x1, x2, y3]) rfl) 3 x3 (cs' := #[x0, x1, x2, x3]) rfl
theorem put4Sb {w : World} {g base : Nat} {y0 y1 y2 y3 u : Value} {out : List S44} (hs : Kd.S k44 44 w base (fun _ => True) u out) (h : w.heap[g]? = some (.cells #[y0, y1, y2, y3] 26 (0, 0))) (x0 x1 x2 x3 : Value) : Kd.S k44 44 ((((w.setCell ⟨g, 0, none⟩ x0).setCell ⟨g, 1, none⟩ x1).setCell ⟨g, 2, none⟩ x2).setCell ⟨g, 3, none⟩ x3) base (fun _ => True) u out := by
 have b1 := blk_put h 0 x0 (cs' := #[x0, y1, y2, y3]) rfl
 have b2 := blk_put b1 1 x1 (cs' := #[x0, x1, y2, y3]) rfl
 have b3 := blk_put b2 2 x2 (cs' := #[x0, x1, x2, y3]) rfl
 exact Kd.S_set (Kd.S_set (Kd.S_set (Kd.S_set hs h (by decide) 0 _) b1 (by decide) 1 _) b2 (by decide) 2 _) b3 (by decide) 3 _
theorem sizeTb : (Tryd.prog.info? 26).map (·.size) = some 4 := by kernel_rfl
theorem celT_one (b1 b2 b3 : Int) (A : Option Addr) (n c : Nat) : (#[.slice A n c, .int .i64 b1, .int .i64 b2, .int .i64 b3] : Array Value).all (·.oneCell') = true := by
 simp only [List.all_toArray]; rfl
theorem BSt.init {w0 w w1 : World} {g : Nat} {v : Value} {l : List S44} (hb : Below w0.heap.size w0 w) (hs : Kd.S k44 44 w w0.heap.size (fun _ => True) v l) (hw : Below w.heap.size w w1) (hz : w1.heap[g]? = some (.cells zTb 26 (0, 0))) (hg : g = w.heap.size) (b1 b2 b3 : Int) :
  BSt w0 (w1.setCells g 0 (#[v, .int .i64 b1, .int .i64 b2, .int .i64 b3] : Array Value).toList) g v l b1 b2 b3 := by
 have e : w0.heap.size ≤ g := by rw [hg]; exact below_size hb
 have h0 : w1.heap[g]? = some (.cells #[.slice none 0 0, .int .i64 0, .int .i64 0, .int .i64 0] 26 (0, 0)) := hz
 exact ⟨below_set (below_set (below_set (below_set (below_step hb hw) e) e) e) e, e, put4b h0 _ _ _ _, put4Sb (Kd.S_below hs hw) h0 _ _ _ _⟩
/-- another box, beside -/
theorem BSt.beside {w0 w w1 : World} {g g' : Nat} {v : Value} {l : List S44} {b1 b2 b3 : Int} (h : BSt w0 w g v l b1 b2 b3) (hw : Below w.heap.size w w1) (hz : w1.heap[g']? = some (.cells zTb 26 (0, 0))) (hg : g' = w.heap.size) (x0 x1 x2 x3 : Value) :
  BSt w0 (w1.setCells g' 0 (#[x0, x1, x2, x3] : Array Value).toList) g v l b1 b2 b3 := by
 have h1 := h.below hw
 have h0 : w1.heap[g']? = some (.cells #[.slice none 0 0, .int .i64 0, .int .i64 0, .int .i64 0] 26 (0, 0)) := hz
 have e : w0.heap.size ≤ g' := by rw [hg]; exact below_size h.hb
 have ne : g ≠ g' := by rw [hg]; exact Nat.ne_of_lt (blk_lt h.b)
 exact ⟨below_set (below_set (below_set (below_set h1.hb e) e) e) e, h1.eg, blk_far (blk_far (blk_far (blk_far h1.b ne _) ne _) ne _) ne _, put4Sb h1.s h0 _ _ _ _⟩
theorem store_tree {ops : Array Oper} {rest : List Oper} {op : Oper} {a : Act} {Q : Exit → Act → World → Prop} {w1 : World} {g : Nat} {b1 b2 b3 : Int} {A : Option Addr} {n c : Nat} (hgd : op.guard = none) (hd : op.dst = none) (x y : Operand) (ho : op.op = .store 26 x y)
  (hx : a.eval x = .pointer (some ⟨g, 0, none⟩)) (hy : a.eval y = .agg #[.slice A n c, .int .i64 b1, .int .i64 b2, .int .i64 b3]) (hz : w1.heap[g]? = some (.cells zTb 26 (0, 0)))
  (h : wpList Tryd.prog ops Q rest (a.put none undef) (w1.setCells g 0 (#[.slice A n c, .int .i64 b1, .int .i64 b2, .int .i64 b3] : Array Value).toList)) : wpList Tryd.prog ops Q (op :: rest) a w1 := by
 refine wpList_store_mid hgd 26 x y ho g 0 (#[.slice A n c, .int .i64 b1, .int .i64 b2, .int .i64 b3]) hx hy (there_of hz (Nat.le_refl 4)) sizeTb (celT_one _ _ _ _ _ _) ?_
 rw [hd]
 exact h
end Go.Proofs.YtnpnablnnfekkaaDoor.PTr
namespace Go.Proofs
open Go.Shelf
def Tryd.lays162_ren : Go.Shelf.Ren := ⟨fun | 162 => 76 | 232 => 89 | 227 => 90 | 234 => 91 | 236 => 92 | 228 => 102 | 271 => 103 | 151 => 104 | 120 => 109 | 197 => 98 | 152 => 110 | 260 => 105 | 137 => 71 | 119 => 114 | 224 => 112 | 225 => 111 | 217 => 84 | 266 => 96 | n => n, fun | 9 => 9 | 4 => 4 | 3 => 3 | 5 => 5 | 117 => 119 | 116 => 118 | 0 => 0 | 124 => 122 | 21 => 21 | 105 => 124 | 46 => 55 | 119 => 133 | 139 => 136 | 138 => 135 | n => n, fun | 3 => 1 | 4 => 2 | n => n⟩
theorem Tryd.lays162 : Go.Proofs.Lays.n162 Tryd.prog Tryd.lays162_ren := {
 mixed := by kernel_rfl
 f119 := Tryd.func114.trans (congrArg some (by kernel_rfl))
 f120 := Tryd.func109.trans (congrArg some (by kernel_rfl))
 f137 := Tryd.func71.trans (congrArg some (by kernel_rfl))
 f151 := Tryd.func104.trans (congrArg some (by kernel_rfl))
 f152 := Tryd.func110.trans (congrArg some (by kernel_rfl))
 f162 := Tryd.func76.trans (congrArg some (by kernel_rfl))
 f197 := Tryd.func98.trans (congrArg some (by kernel_rfl))
 f217 := Tryd.func84.trans (congrArg some (by kernel_rfl))
 f224 := Tryd.func112.trans (congrArg some (by kernel_rfl))
 f225 := Tryd.func111.trans (congrArg some (by kernel_rfl))
 f227 := Tryd.func90.trans (congrArg some (by kernel_rfl))
 f228 := Tryd.func102.trans (congrArg some (by kernel_rfl))
 f232 := Tryd.func89.trans (congrArg some (by kernel_rfl))
 f234 := Tryd.func91.trans (congrArg some (by kernel_rfl))
 f236 := Tryd.func92.trans (congrArg some (by kernel_rfl))
 f260 := Tryd.func105.trans (congrArg some (by kernel_rfl))
 f266 := Tryd.func96.trans (congrArg some (by kernel_rfl))
 f271 := Tryd.func103.trans (congrArg some (by kernel_rfl))
 t0 := Tryd.underlying0
 a0 := Tryd.isAgg0
 z0 := Tryd.sizeOf0
 v0 := Tryd.zeroValue0
 t3 := Tryd.underlying3
 a3 := Tryd.isAgg3
 z3 := Tryd.sizeOf3
 v3 := Tryd.zeroValue3
 t4 := Tryd.underlying4
 a4 := Tryd.isAgg4
 z4 := Tryd.sizeOf4
 v4 := Tryd.zeroValue4
 t5 := Tryd.underlying5
 a5 := Tryd.isAgg5
 z5 := Tryd.sizeOf5
 v5 := Tryd.zeroValue5
 t9 := Tryd.underlying9
 a9 := Tryd.isAgg9
 z9 := Tryd.sizeOf9
 v9 := Tryd.zeroValue9
 t21 := Tryd.underlying21
 a21 := Tryd.isAgg21
 z21 := Tryd.sizeOf21
 v21 := Tryd.zeroValue21
 t46 := Tryd.underlying55
 a46 := Tryd.isAgg55
 z46 := Tryd.sizeOf55
 v46 := Tryd.zeroValue55
 t105 := Tryd.underlying124
 a105 := Tryd.isAgg124
 z105 := Tryd.sizeOf124
 v105 := Tryd.zeroValue124
 t116 := Tryd.underlying118
 a116 := Tryd.isAgg118
 z116 := Tryd.sizeOf118
 t117 := Tryd.underlying119
 a117 := Tryd.isAgg119
 z117 := Tryd.sizeOf119
 v117 := Tryd.zeroValue119
 t119 := Tryd.underlying133
 a119 := Tryd.isAgg133
 z119 := Tryd.sizeOf133
 t124 := Tryd.underlying122
 a124 := Tryd.isAgg122
 z124 := Tryd.sizeOf122
 v124 := Tryd.zeroValue122
 t138 := Tryd.underlying135
 a138 := Tryd.isAgg135
 z138 := Tryd.sizeOf135
 v138 := Tryd.zeroValue135
 t139 := Tryd.underlying136
 a139 := Tryd.isAgg136
 z139 := Tryd.sizeOf136
 v139 := Tryd.zeroValue136
 g3 := by kernel_rfl
 g4 := by kernel_rfl }
open Go.RowKit in
/-- strings.TrimRight: "TrimRight returns a slice of the string s, with all trailing Unicode code points contained in cutset removed.": AT A cutset OF ONE ASCII BYTE. The world is as it was. (LAID: no walk: one application.) -/
theorem Tryd.strings_TrimRight_one (s : ByteArray) (c : UInt8) (hc : c.toNat < 128) (w : World) (hs : s.size ≤ 9223372036854775807) :
  Calls Tryd.prog 76 #[.string s, .string ⟨#[c]⟩] w fun e w' => e = .returned (.string ⟨(Lib.trimRightB s.data.toList c).toArray⟩) ∧ w' = w := Any.strings_TrimRight_one Tryd.lays162 s c hc w hs
def Tryd.lays137_ren : Go.Shelf.Ren := ⟨fun | 137 => 71 | 217 => 84 | 266 => 96 | n => n, fun | 9 => 9 | 5 => 5 | 3 => 3 | n => n, fun | n => n⟩
theorem Tryd.lays137 : Go.Proofs.Lays.n137 Tryd.prog Tryd.lays137_ren := {
 mixed := by kernel_rfl
 f137 := Tryd.func71.trans (congrArg some (by kernel_rfl))
 f217 := Tryd.func84.trans (congrArg some (by kernel_rfl))
 f266 := Tryd.func96.trans (congrArg some (by kernel_rfl))
 t3 := Tryd.underlying3
 a3 := Tryd.isAgg3
 z3 := Tryd.sizeOf3
 v3 := Tryd.zeroValue3
 t5 := Tryd.underlying5
 a5 := Tryd.isAgg5
 z5 := Tryd.sizeOf5
 v5 := Tryd.zeroValue5
 t9 := Tryd.underlying9
 a9 := Tryd.isAgg9
 z9 := Tryd.sizeOf9
 v9 := Tryd.zeroValue9 }
open Go.RowKit in
/-- strings.IndexByte: "IndexByte returns the index of the first instance of c in s, or -1 if c is not present in s.": IT RETURNS 'Lib.indexByte s c'; the world is as it was. (LAID: no walk: one application.) -/
theorem Tryd.strings_IndexByte (s : ByteArray) (c : Int) (w : World) :
  Calls Tryd.prog 71 #[.string s, .int .u8 c] w fun e w' => e = .returned (.int .i64 (Lib.indexByte s.data.toList c.toNat.toUInt8)) ∧ w' = w := Any.strings_IndexByte Tryd.lays137 s c w
def Tryd.lays215_ren : Go.Shelf.Ren := ⟨fun | 215 => 94 | n => n, fun | 3 => 3 | 4 => 4 | n => n, fun | n => n⟩
theorem Tryd.lays215 : Go.Proofs.Lays.n215 Tryd.prog Tryd.lays215_ren := {
 mixed := by kernel_rfl
 f215 := Tryd.func94.trans (congrArg some (by kernel_rfl))
 t3 := Tryd.underlying3
 a3 := Tryd.isAgg3
 z3 := Tryd.sizeOf3
 v3 := Tryd.zeroValue3
 t4 := Tryd.underlying4
 a4 := Tryd.isAgg4
 z4 := Tryd.sizeOf4
 v4 := Tryd.zeroValue4 }
open Go.RowKit in
/-- cmp.isNaN at int: 'x != x': false. (LAID: no walk: one application.) -/
theorem Tryd.cmp_isNaN_int (x : Int) (w : World) :
  Calls Tryd.prog 94 #[.int .i64 x] w fun e w' => e = .returned (.bool false) ∧ w' = w := Any.cmp_isNaN_int Tryd.lays215 x w
def Tryd.lays122_ren : Go.Shelf.Ren := ⟨fun | 122 => 81 | 215 => 94 | n => n, fun | 3 => 3 | 4 => 4 | n => n, fun | n => n⟩
theorem Tryd.lays122 : Go.Proofs.Lays.n122 Tryd.prog Tryd.lays122_ren := {
 mixed := by kernel_rfl
 f122 := Tryd.func81.trans (congrArg some (by kernel_rfl))
 f215 := Tryd.func94.trans (congrArg some (by kernel_rfl))
 t3 := Tryd.underlying3
 a3 := Tryd.isAgg3
 z3 := Tryd.sizeOf3
 v3 := Tryd.zeroValue3
 t4 := Tryd.underlying4
 a4 := Tryd.isAgg4
 z4 := Tryd.sizeOf4
 v4 := Tryd.zeroValue4 }
open Go.RowKit in
/-- cmp.Compare at int: "Compare returns -1 if x is less than y, 0 if x equals y, +1 if x is greater than y.": IT RETURNS 'Lib.compareInt x y'; the world is as it was. (LAID: no walk: one application.) -/
theorem Tryd.cmp_Compare_int (x y : Int) (w : World) :
  Calls Tryd.prog 81 #[.int .i64 x, .int .i64 y] w fun e w' => e = .returned (.int .i64 (Lib.compareInt x y)) ∧ w' = w := Any.cmp_Compare_int Tryd.lays122 x y w
end Go.Proofs
set_option linter.unusedVariables false
set_option linter.unusedSimpArgs false
namespace Go.Proofs.YtnpnablnnfekkaaDoor
open Go
def asB (l : List UInt8) : ByteArray := ⟨l.toArray⟩
theorem asB_toList (s : ByteArray) : asB s.data.toList = s := by cases s; simp [asB]
end Go.Proofs.YtnpnablnnfekkaaDoor
set_option linter.unusedVariables false
set_option linter.unusedSimpArgs false
namespace Go.Proofs.YtnpnablnnfekkaaDoor
open Go.RowKit
theorem bk_lt {w : World} {k : Nat} {o : Obj} (h : w.heap[k]? = some o) : k < w.heap.size := (Array.getElem?_eq_some_iff.1 h).1
/-- what a call may have turned: the blocks of S alone, and new ones -/
structure Frm (S : Nat → Prop) (w w' : World) : Prop where
 os : w'.os = w.os
 tape : w'.tape = w.tape
 output : w'.output = w.output
 size : w.heap.size ≤ w'.heap.size
 block : ∀ i, i < w.heap.size → ¬ S i → w'.heap[i]? = w.heap[i]?
theorem Frm.refl (S : Nat → Prop) (w : World) : Frm S w w := ⟨rfl, rfl, rfl, Nat.le_refl _, fun _ _ _ => rfl⟩
theorem Frm.trans {S T : Nat → Prop} {a b c : World} (h : Frm S a b) (k : Frm T b c) (hT : ∀ i, i < a.heap.size → T i → S i) : Frm S a c :=
 ⟨k.os.trans h.os, k.tape.trans h.tape, k.output.trans h.output, Nat.le_trans h.size k.size, fun i hi hs => (k.block i (Nat.lt_of_lt_of_le hi h.size) (fun ht => hs (hT i hi ht))).trans (h.block i hi hs)⟩
theorem Frm.of_below {S : Nat → Prop} {a b : World} (h : Below a.heap.size a b) : Frm S a b := ⟨h.os, h.tape, h.output, h.size, fun i hi _ => h.block i hi⟩
theorem Frm.below {S : Nat → Prop} {B : Nat} {a b : World} (h : Frm S a b) (hB : B ≤ a.heap.size) (hS : ∀ i, i < B → ¬ S i) : Below B a b := ⟨h.os, h.tape, h.output, h.size, fun i hi => h.block i (Nat.lt_of_lt_of_le hi hB) (hS i hi)⟩
theorem Frm.blk {S : Nat → Prop} {a b : World} {k : Nat} {o : Obj} (h : Frm S a b) (hs : ¬ S k) (ho : a.heap[k]? = some o) : b.heap[k]? = some o := (h.block k (bk_lt ho) hs).trans ho
theorem Frm.drew {S : Nat → Prop} {a b : World} (h : Frm S a b) : Frm S a b.drew := ⟨h.os, h.tape, h.output, h.size, h.block⟩
theorem Frm.drewN {S : Nat → Prop} {a b : World} (h : Frm S a b) (n : Nat) : Frm S a (b.drewN n) := ⟨h.os, h.tape, h.output, h.size, h.block⟩
theorem Frm.alloc {S : Nat → Prop} {a b : World} (h : Frm S a b) (o : Obj) : Frm S a (b.alloc o) :=
 h.trans (Frm.of_below ((Below.refl _ b).alloc (Nat.le_refl _) o) : Frm S b (b.alloc o)) (fun _ _ k => k)
theorem Frm.setCell {S : Nat → Prop} {a b : World} (h : Frm S a b) (x : Addr) (v : Value) (hs : x.block < a.heap.size → S x.block) : Frm S a (b.setCell x v) :=
 ⟨h.os, h.tape, h.output, by simpa [World.setCell] using h.size, fun i hi hn => by
  have hne : i ≠ x.block := fun e => hn (e ▸ hs (e ▸ hi))
  exact (Below.heap_setCell b x v i hne).trans (h.block i hi hn)⟩
theorem Frm.grown {S : Nat → Prop} {a b c : World} {row : Option Nat} (h : Frm S a b) (hg : b.grownBy c row) (hr : ∀ k, row = some k → k < a.heap.size → S k) : Frm S a c :=
 ⟨hg.os.trans h.os, hg.tape.trans h.tape, hg.output.trans h.output, Nat.le_trans h.size hg.size, fun i hi hn => (hg.block i (Nat.lt_of_lt_of_le hi h.size) (fun e => hn (hr i e.symm hi))).trans (h.block i hi hn)⟩
end Go.Proofs.YtnpnablnnfekkaaDoor
namespace Go.Proofs.YtnpnablnnfekkaaDoor.PTr
open Go.RowKit Go.Proofs.YtnpnablnnfekkaaDoor Go.Proofs.YtnpnablnnfekkaaDoorW.PrintWords
def strings_IndexByte.f (a0 : ByteArray) (a1 : Int) : Option Int := some (Lib.indexByte a0.data.toList a1.toNat.toUInt8)
theorem strings_IndexByte.calls (a0 : ByteArray) (a1 : Int) (r : Int) (w : World) (h : strings_IndexByte.f a0 a1 = some r) :
  Calls Tryd.prog 71 #[.string a0, .int .u8 a1] w fun e w' => e = .returned (.int .i64 r) ∧ Drawn0 w w' := by
 cases h
 refine (Tryd.strings_IndexByte a0 a1 w).mono ?_
 rintro e w' ⟨rfl, rfl⟩
 exact ⟨rfl, Drawn0.refl _⟩
def strings_TrimRight.f (a0 a1 : ByteArray) : Option ByteArray := if a1 = ⟨#[47]⟩ ∧ a0.size < 4611686018427387904 then some (asB (Lib.trimRightB a0.data.toList 47)) else none
theorem strings_TrimRight.calls (a0 a1 : ByteArray) (r : ByteArray) (w : World) (h : strings_TrimRight.f a0 a1 = some r) :
  Calls Tryd.prog 76 #[.string a0, .string a1] w fun e w' => e = .returned (.string r) ∧ Drawn0 w w' := by
 unfold strings_TrimRight.f at h
 split at h
 ·
  rename_i hs
  obtain ⟨rfl, hs⟩ := hs
  cases h
  refine (Tryd.strings_TrimRight_one a0 47 (by decide) w (by omega)).mono ?_
  rintro e w' ⟨rfl, rfl⟩
  exact ⟨rfl, Drawn0.refl _⟩
 ·
  cases h
end Go.Proofs.YtnpnablnnfekkaaDoor.PTr
namespace Go.Proofs.YtnpnablnnfekkaaDoor.PTr
open Go.RowKit Go.Proofs.YtnpnablnnfekkaaDoorW.PrintWords Go.Proofs.YtnpnablnnfekkaaDoorW.PrintLast Go.Proofs.YtnpnablnnfekkaaDoorW.PrintMore
attribute [local go_sem] max2_int min2_int max_two min_two max_three min_three max_four min_four   -- for this text's walks alone
set_option linter.unusedVariables false
set_option linter.unusedSimpArgs false
def path_Name.f (a0 : ByteArray) : Option (Bool) := if a0.toList = ([] : List UInt8) then (some false) else (if a0.toList = ([46] : List UInt8) then (some false) else (if a0.toList = ([46, 46] : List UInt8) then (some false) else (if (a0.size : Int) ≤ 64 then ((strings_IndexByte.f a0 47).bind fun t446 => (if t446 < 0 then ((strings_IndexByte.f a0 0).bind fun t447 => (some (decide (t447 < 0)))) else (some false))) else (some false))))
set_option maxHeartbeats 8000000 in
set_option maxRecDepth 100000 in
theorem path_Name.calls (a0 : ByteArray) (r : Bool) (w : World) (h : path_Name.f a0 = some r) :
  Calls Tryd.prog 51 #[.string a0] w fun e w' => e = .returned (.bool r) ∧ Drawn0 w w' := by
 have H : (if a0.toList = ([] : List UInt8) then (some false) else (if a0.toList = ([46] : List UInt8) then (some false) else (if a0.toList = ([46, 46] : List UInt8) then (some false) else (if (a0.size : Int) ≤ 64 then ((strings_IndexByte.f a0 47).bind fun t446 => (if t446 < 0 then ((strings_IndexByte.f a0 0).bind fun t447 => (some (decide (t447 < 0)))) else (some false))) else (some false))))) = some r := h
 clear h
 by_cases c2 : a0.toList = ([] : List UInt8)
 ·
  rw [if_pos c2] at H
  have c2b0 : (a0.toList == ([] : List UInt8)) = true := beq_iff_eq.mpr c2
  have c2b1 : (a0.toList != ([] : List UInt8)) = false := bne_eq_false_iff_eq.mpr c2
  clear c2
  obtain rfl := Option.some.inj H
  go_enter Tryd.func51, Tryd.ntmps51
  go_wp2
  go_ret
  exact ⟨by first | rfl | (simp; done) | (simp [*]; done), by repeat (first | exact Drawn0.refl _ | apply Drawn0.step)⟩
 ·
  rw [if_neg c2] at H
  have c2b0 : (a0.toList == ([] : List UInt8)) = false := beq_eq_false_iff_ne.mpr c2
  have c2b1 : (a0.toList != ([] : List UInt8)) = true := bne_iff_ne.mpr c2
  by_cases c3 : a0.toList = ([46] : List UInt8)
  ·
   rw [if_pos c3] at H
   have c3b0 : (a0.toList == ([46] : List UInt8)) = true := beq_iff_eq.mpr c3
   have c3b1 : (a0.toList != ([46] : List UInt8)) = false := bne_eq_false_iff_eq.mpr c3
   clear c3
   obtain rfl := Option.some.inj H
   go_enter Tryd.func51, Tryd.ntmps51
   go_wp2
   go_ret
   exact ⟨by first | rfl | (simp; done) | (simp [*]; done), by repeat (first | exact Drawn0.refl _ | apply Drawn0.step)⟩
  ·
   rw [if_neg c3] at H
   have c3b0 : (a0.toList == ([46] : List UInt8)) = false := beq_eq_false_iff_ne.mpr c3
   have c3b1 : (a0.toList != ([46] : List UInt8)) = true := bne_iff_ne.mpr c3
   by_cases c4 : a0.toList = ([46, 46] : List UInt8)
   ·
    rw [if_pos c4] at H
    have c4b0 : (a0.toList == ([46, 46] : List UInt8)) = true := beq_iff_eq.mpr c4
    have c4b1 : (a0.toList != ([46, 46] : List UInt8)) = false := bne_eq_false_iff_eq.mpr c4
    clear c4
    obtain rfl := Option.some.inj H
    go_enter Tryd.func51, Tryd.ntmps51
    go_wp2
    go_ret
    exact ⟨by first | rfl | (simp; done) | (simp [*]; done), by repeat (first | exact Drawn0.refl _ | apply Drawn0.step)⟩
   ·
    rw [if_neg c4] at H
    have c4b0 : (a0.toList == ([46, 46] : List UInt8)) = false := beq_eq_false_iff_ne.mpr c4
    have c4b1 : (a0.toList != ([46, 46] : List UInt8)) = true := bne_iff_ne.mpr c4
    by_cases c5 : (a0.size : Int) ≤ 64
    ·
     rw [if_pos c5] at H
     have c5b0 : decide ((a0.size : Int) ≤ 64) = true := decide_eq_true c5
     have c5b1 : decide (a0.size ≤ 64) = true := decide_eq_true (by omega)
     clear c5
     replace H := Option.bind_eq_some_iff.mp H
     obtain ⟨t446, A60, H⟩ := H
     replace H : (if t446 < 0 then ((strings_IndexByte.f a0 0).bind fun t447 => (some (decide (t447 < 0)))) else (some false)) = some r := H
     have A6 := Aside0.mk A60
     clear A60
     by_cases c7 : t446 < 0
     ·
      rw [if_pos c7] at H
      have c7b0 : decide (t446 < 0) = true := decide_eq_true c7
      clear c7
      replace H := Option.bind_eq_some_iff.mp H
      obtain ⟨t447, A80, H⟩ := H
      replace H : (some (decide (t447 < 0))) = some r := H
      have A8 := Aside0.mk A80
      clear A80
      obtain rfl := Option.some.inj H
      go_enter Tryd.func51, Tryd.ntmps51
      go_wp2_with (first | (go_at_call 71; (with_reducible refine (strings_IndexByte.calls a0 47 t446 _ A6.out).mono ?_); rintro e w' ⟨rfl, ⟨nd, rfl⟩⟩) | (go_at_call 71; (with_reducible refine (strings_IndexByte.calls a0 0 t447 _ A8.out).mono ?_); rintro e w' ⟨rfl, ⟨nd, rfl⟩⟩))
      go_ret
      exact ⟨by first | rfl | (simp; done) | (simp [*]; done), by repeat (first | exact Drawn0.refl _ | apply Drawn0.step)⟩
     ·
      rw [if_neg c7] at H
      have c7b0 : decide (t446 < 0) = false := decide_eq_false c7
      clear c7
      obtain rfl := Option.some.inj H
      go_enter Tryd.func51, Tryd.ntmps51
      go_wp2_with (first | (go_at_call 71; (with_reducible refine (strings_IndexByte.calls a0 47 t446 _ A6.out).mono ?_); rintro e w' ⟨rfl, ⟨nd, rfl⟩⟩))
      go_ret
      exact ⟨by first | rfl | (simp; done) | (simp [*]; done), by repeat (first | exact Drawn0.refl _ | apply Drawn0.step)⟩
    ·
     rw [if_neg c5] at H
     have c5b0 : decide ((a0.size : Int) ≤ 64) = false := decide_eq_false c5
     have c5b1 : decide (a0.size ≤ 64) = false := decide_eq_false (by omega)
     clear c5
     obtain rfl := Option.some.inj H
     go_enter Tryd.func51, Tryd.ntmps51
     go_wp2
     go_ret
     exact ⟨by first | rfl | (simp; done) | (simp [*]; done), by repeat (first | exact Drawn0.refl _ | apply Drawn0.step)⟩
end Go.Proofs.YtnpnablnnfekkaaDoor.PTr
namespace Go.Proofs.YtnpnablnnfekkaaDoor.PTr
open Go.RowKit Go.Proofs.YtnpnablnnfekkaaDoorW.PrintWords Go.Proofs.YtnpnablnnfekkaaDoorW.PrintLast Go.Proofs.YtnpnablnnfekkaaDoorW.PrintMore
attribute [local go_sem] max2_int min2_int max_two min_two max_three min_three max_four min_four   -- for this text's walks alone
set_option linter.unusedVariables false
set_option linter.unusedSimpArgs false
def path_Join.f (a0 : ByteArray) (a1 : ByteArray) : Option (ByteArray) := (strings_TrimRight.f a0 (⟨#[47]⟩ : ByteArray)).bind fun t514 => (if t514.size + 1 ≤ 9223372036854775807 then (if (t514 ++ (⟨#[47]⟩ : ByteArray)).size + a1.size ≤ 9223372036854775807 then (some ((t514 ++ (⟨#[47]⟩ : ByteArray)) ++ a1)) else (none)) else (none))
set_option maxHeartbeats 8000000 in
set_option maxRecDepth 100000 in
theorem path_Join.calls (a0 : ByteArray) (a1 : ByteArray) (r : ByteArray) (w : World) (h : path_Join.f a0 a1 = some r) :
  Calls Tryd.prog 53 #[.string a0, .string a1] w fun e w' => e = .returned (.string r) ∧ Drawn0 w w' := by
 have H : ((strings_TrimRight.f a0 (⟨#[47]⟩ : ByteArray)).bind fun t514 => (if t514.size + 1 ≤ 9223372036854775807 then (if (t514 ++ (⟨#[47]⟩ : ByteArray)).size + a1.size ≤ 9223372036854775807 then (some ((t514 ++ (⟨#[47]⟩ : ByteArray)) ++ a1)) else (none)) else (none))) = some r := h
 clear h
 replace H := Option.bind_eq_some_iff.mp H
 obtain ⟨t514, A30, H⟩ := H
 replace H : (if t514.size + 1 ≤ 9223372036854775807 then (if (t514 ++ (⟨#[47]⟩ : ByteArray)).size + a1.size ≤ 9223372036854775807 then (some ((t514 ++ (⟨#[47]⟩ : ByteArray)) ++ a1)) else (none)) else (none)) = some r := H
 have A3 := Aside0.mk A30
 clear A30
 by_cases c4 : t514.size + 1 ≤ 9223372036854775807
 ·
  rw [if_pos c4] at H
  have c4b0 := eq_true c4
  have c4b1 : decide (t514.size + 1 ≤ 9223372036854775807) = true := decide_eq_true c4
  try have c4b2 : (9223372036854775807 < t514.size + 1) = False := eq_false (Nat.not_lt.2 c4)
  by_cases c5 : (t514 ++ (⟨#[47]⟩ : ByteArray)).size + a1.size ≤ 9223372036854775807
  ·
   rw [if_pos c5] at H
   have c5b0 := eq_true c5
   have c5b1 : decide ((t514 ++ (⟨#[47]⟩ : ByteArray)).size + a1.size ≤ 9223372036854775807) = true := decide_eq_true c5
   try have c5b2 : (9223372036854775807 < (t514 ++ (⟨#[47]⟩ : ByteArray)).size + a1.size) = False := eq_false (Nat.not_lt.2 c5)
   try have c5b3 : ((t514 ++ (⟨#[47]⟩ : ByteArray)).size < 9223372036854775807) = True := eq_true (by omega)
   try have c5b4 := eq_false (Nat.not_lt.2 c5)
   try simp only [ByteArray.size_append] at c5b4
   try have c5b5 := eq_false (show ¬ 9223372036854775807 ≤ (t514 ++ (⟨#[47]⟩ : ByteArray)).size from by omega)
   try simp only [ByteArray.size_append] at c5b5
   obtain rfl := Option.some.inj H
   go_enter Tryd.func53, Tryd.ntmps53
   go_wp2_with (first | ((with_reducible refine gate_callee (f := 76) rfl ?_); refine goesL_ (some 6) rfl rfl Tryd.func76 (by kernel_rfl) rfl #[.string a0, .string (⟨#[47]⟩ : ByteArray)] rfl (by (try simp only [List.map_toArray, List.map_cons, List.map_nil]); first | done | rfl | (simp only [List.length_drop, List.length_take]; rfl)) ?_; (with_reducible refine (strings_TrimRight.calls a0 (⟨#[47]⟩ : ByteArray) t514 _ A3.out).mono ?_); rintro e w' ⟨rfl, ⟨nd, rfl⟩⟩; refine ⟨_, rfl, ?_⟩))
   go_ret
   exact ⟨by first | rfl | (simp; done) | (simp [*]; done), by repeat (first | exact Drawn0.refl _ | apply Drawn0.step)⟩
  ·
   rw [if_neg c5] at H
   exact absurd H (by simp)
 ·
  rw [if_neg c4] at H
  exact absurd H (by simp)
end Go.Proofs.YtnpnablnnfekkaaDoor.PTr
set_option linter.unusedVariables false
set_option linter.unusedSimpArgs false
namespace Go.Proofs.YtnpnablnnfekkaaDoor.PTr
open Go.RowKit Go.Proofs.YtnpnablnnfekkaaDoor Go.Proofs.YtnpnablnnfekkaaDoorW.PrintWords
theorem asB_size (l : List UInt8) : (asB l).size = l.length := by show l.toArray.size = _; rw [List.size_toArray]
theorem toList_data (s : ByteArray) : s.toList = s.data.toList := ByteArray.toList_eq s
theorem asB_data (l : List UInt8) : (asB l).data.toList = l := by simp [asB]
theorem exists_asB (s : ByteArray) : ∃ l, s = asB l := ⟨s.data.toList, (asB_toList s).symm⟩
theorem toList_asB (l : List UInt8) : (asB l).toList = l := by rw [toList_data, asB_data]
theorem index_any (l : List UInt8) (c : UInt8) : decide (Lib.indexByte l c < 0) = !(l.any fun x => decide ((x.toNat : Int) = (c.toNat : Int))) := by
 have h := Lib.indexByte_ge l c
 by_cases hneg : Lib.indexByte l c = -1
 ·
  have h1 := Lib.indexByte_none hneg
  rw [hneg]
  have : (l.any fun x => decide ((x.toNat : Int) = (c.toNat : Int))) = false := by
   rw [List.any_eq_false]
   intro x hx
   obtain ⟨k, hk, e⟩ := List.mem_iff_getElem.1 hx
   have h2 := h1 k
   rw [List.getElem?_eq_getElem hk, e] at h2
   simp only [decide_eq_true_eq]
   intro e2
   apply h2
   congr 1
   exact UInt8.toNat_inj.1 (by omega)
  rw [this]; rfl
 ·
  obtain ⟨o, ho⟩ : ∃ o : Nat, Lib.indexByte l c = o := ⟨(Lib.indexByte l c).toNat, by omega⟩
  have h1 := (Lib.indexByte_some ho).1
  obtain ⟨hk, e⟩ := List.getElem?_eq_some_iff.1 h1
  have : (l.any fun x => decide ((x.toNat : Int) = (c.toNat : Int))) = true := by
   rw [List.any_eq_true]
   exact ⟨l[o], List.getElem_mem hk, by rw [e]; simp⟩
  rw [this, ho]
  simp
def nameB (l : List UInt8) : Bool := decide (l ≠ []) && decide (l ≠ [46]) && decide (l ≠ [46, 46]) && decide (l.length ≤ 64) && !(l.any fun x => decide ((x.toNat : Int) = 47)) && !(l.any fun x => decide ((x.toNat : Int) = 0))
theorem name_prog (l : List UInt8) : path_Name.f (asB l) = some (nameB l) := by
 unfold path_Name.f nameB strings_IndexByte.f
 simp only [toList_asB, asB_size, asB_data, Option.bind_some]
 have h1 := index_any l 47
 have h2 := index_any l 0
 have e1 : ((47 : UInt8).toNat : Int) = 47 := rfl
 have e2 : ((0 : UInt8).toNat : Int) = 0 := rfl
 rw [e1] at h1
 rw [e2] at h2
 have e3 : ((47 : Int).toNat.toUInt8) = 47 := rfl
 have e4 : ((0 : Int).toNat.toUInt8) = 0 := rfl
 simp only [e3, e4]
 by_cases a1 : l = []
 ·
  simp [a1]
 by_cases a2 : l = [46]
 ·
  simp [a2]
 by_cases a3 : l = [46, 46]
 ·
  simp [a3]
 by_cases a4 : l.length ≤ 64
 ·
  rw [if_neg a1, if_neg a2, if_neg a3, if_pos (by omega), ← h1, ← h2]
  by_cases a5 : Lib.indexByte l 47 < 0 <;> simp [a1, a2, a3, a4, a5]
 ·
  rw [if_neg a1, if_neg a2, if_neg a3, if_neg (by omega)]; simp [a1, a2, a3, a4]
def trimR (l : List UInt8) : List UInt8 := Lib.trimRightB l 47
theorem trimR_length (l : List UInt8) : (trimR l).length ≤ l.length := by
 unfold trimR Lib.trimRightB
 have := (List.dropWhile_suffix (fun x : UInt8 => x == 47) (l := l.reverse)).length_le
 simp at this ⊢; omega
theorem trim_prog (l : List UInt8) (hl : l.length ≤ 140737488351232) : strings_TrimRight.f (asB l) ⟨#[47]⟩ = some (asB (trimR l)) := by
 unfold strings_TrimRight.f
 rw [if_pos ⟨rfl, by rw [asB_size]; omega⟩, asB_data]; rfl
theorem append_asB (a b : List UInt8) : asB a ++ asB b = asB (a ++ b) := by
 apply ByteArray.ext
 simp [asB, ByteArray.data_append]
def joinP (d s : List UInt8) : List UInt8 := trimR d ++ 47 :: s
theorem join_prog (d s : List UInt8) (hd : d.length ≤ 140737488351232) (hs : s.length ≤ 140737488351232) : path_Join.f (asB d) (asB s) = some (asB (joinP d s)) := by
 unfold path_Join.f
 have := trimR_length d
 have e : (⟨#[47]⟩ : ByteArray) = asB [47] := rfl
 rw [trim_prog d hd, Option.bind_some, if_pos (by rw [asB_size]; omega), e, append_asB, if_pos (by rw [asB_size, asB_size]; simp; omega), append_asB]
 simp [joinP]
end Go.Proofs.YtnpnablnnfekkaaDoor.PTr
set_option linter.unusedVariables false
namespace Go.Proofs.YtnpnablnnfekkaaDoor
open Go
theorem less_tri : ∀ x y : List UInt8, (Op.bytesLess x y || x == y) = !(Op.bytesLess y x)
 | [], [] => rfl
 | [], b :: y => rfl
 | a :: x, [] => rfl
 | a :: x, b :: y => by
  have ih := less_tri x y
  simp only [Op.bytesLess]
  rcases Nat.lt_trichotomy a.toNat b.toNat with h | h | h
  ·
   have h1 : a < b := h
   have h2 : ¬ b < a := fun h3 => Nat.lt_asymm h h3
   have h4 : b ≠ a := fun e => Nat.lt_irrefl _ (e ▸ h)
   simp [h1, h2, h4]
  ·
   have h1 : a = b := UInt8.toNat_inj.1 h
   subst h1
   have h2 : ¬ a < a := fun h3 => Nat.lt_irrefl _ h3
   simp only [h2, decide_false, Bool.false_or, beq_self_eq_true, Bool.true_and]
   rw [← ih]
   simp
  ·
   have h1 : ¬ a < b := fun h3 => Nat.lt_asymm h h3
   have h2 : b < a := h
   have h4 : a ≠ b := fun e => Nat.lt_irrefl _ (e ▸ h)
   simp [h1, h2, h4]
theorem str_leq (t : TypeId) (a b : ByteArray) : binOp .leq t (.string a) (.string b) = pure (.bool !(Op.bytesLess b.toList a.toList)) := by
 rw [← less_tri]; simp [binOp, Op.stringOp]
theorem str_geq (t : TypeId) (a b : ByteArray) : binOp .geq t (.string a) (.string b) = pure (.bool !(Op.bytesLess a.toList b.toList)) := by simp [binOp, Op.stringOp]
theorem str_gtr (t : TypeId) (a b : ByteArray) : binOp .gtr t (.string a) (.string b) = pure (.bool (Op.bytesLess b.toList a.toList)) := by
 have := less_tri a.toList b.toList
 simp only [binOp, Op.stringOp]
 rw [this]; simp
end Go.Proofs.YtnpnablnnfekkaaDoor
namespace Go.Proofs.YtnpnablnnfekkaaDoor.PTr
open Go.RowKit Go.Proofs.YtnpnablnnfekkaaDoorW.PrintWords Go.Proofs.YtnpnablnnfekkaaDoorW.PrintLast Go.Proofs.YtnpnablnnfekkaaDoorW.PrintMore
attribute [local go_sem] Go.Proofs.YtnpnablnnfekkaaDoor.str_leq Go.Proofs.YtnpnablnnfekkaaDoor.str_geq Go.Proofs.YtnpnablnnfekkaaDoor.str_gtr
attribute [local go_sem] max2_int min2_int max_two min_two max_three min_three max_four min_four   -- for this text's walks alone
set_option linter.unusedVariables false
set_option linter.unusedSimpArgs false
def tree_Entries.l0 : Nat → List (S61) → List (S61) → Int → Int → Option (Bool)
 | 0, _, _, _, _ => none
 | k + 1, x0, x5, x6, x7 => if x7 < x6 then (if 0 ≤ x7 then (if x7 < (x5.length : Int) then ((path_Name.f ((rd_T61 x5 x7).f0)).bind fun t450 => (if t450 = true then (if x7 > 0 then (if 0 ≤ (wrap64 (x7 - 1)) then (if (wrap64 (x7 - 1)) < (x0.length : Int) then (if ((Op.bytesLess (((rd_T61 x0 (wrap64 (x7 - 1))).f0).toList) (((rd_T61 x5 x7).f0).toList)) = true) then (tree_Entries.l0 k x0 x5 x6 (wrap64 (x7 + 1))) else (some false)) else (none)) else (none)) else (tree_Entries.l0 k x0 x5 x6 (wrap64 (x7 + 1)))) else (some false))) else (none)) else (none)) else (some true)
def tree_Entries.f (k : Nat) (l0 : List (S61)) : Option (Bool) := tree_Entries.l0 k l0 l0 (l0.length : Int) 0
set_option maxHeartbeats 8000000 in
set_option maxRecDepth 100000 in
theorem tree_Entries.calls (k : Nat) (A0 : Option Addr) (c0 : Nat) (l0 : List (S61)) (r : Bool) (w : World) (hr0 : Kd.C k61 w A0 l0.length l0) (hc0 : l0.length ≤ c0) (h : tree_Entries.f k l0 = some r) :
  Calls Tryd.prog 38 #[.slice A0 l0.length c0] w fun e w' => e = .returned (.bool r) ∧ Below w.heap.size w w' := by
 have hu61 := Tryd.underlying61
 have HR0 := Aside0.mk hr0
 have HC0 := Aside0.mk hc0
 clear hr0 hc0
 have HB := Aside0.mk (Below.refl w.heap.size w)
 have H : (tree_Entries.l0 k l0 l0 (l0.length : Int) 0) = some r := h
 clear h
 have H' := Aside0.mk H
 clear H
 go_enter Tryd.func38, Tryd.ntmps38
 go_wp2
 repeat (go_quiet (fail); try go_wp2)
 go_loopg [7] k (fun kq v7 w' => ∃ (x7_1 : Int), v7 = .int .i64 x7_1 ∧ Aside0 (tree_Entries.l0 kq l0 l0 (l0.length : Int) x7_1 = some r) ∧ Aside0 (kq ≤ k) ∧ Aside0 (Below w.heap.size w w'))
 case atStart => exact ⟨(0), (by first | rfl | (simp; done) | (simp [*]; done)), H', ⟨Nat.le_refl _⟩, ⟨by repeat (first | (with_reducible first | exact HB.out | apply below_alloc | apply pw_below_drewN | apply below_drew1) | exact HB.out)⟩⟩
 case round =>
  clear H'
  obtain ⟨x7_1, rfl, HA, HK1, HB⟩ := hrel
  cases gk with
  | zero => exact absurd HA.out (by simp [tree_Entries.l0])
  | succ k1 =>
   have H := HA.out
   clear HA
   simp only [tree_Entries.l0] at H
   by_cases c2 : x7_1 < (l0.length : Int)
   ·
    rw [if_pos c2] at H
    have c2b0 : decide (x7_1 < (l0.length : Int)) = true := decide_eq_true c2
    clear c2
    by_cases c3 : 0 ≤ x7_1
    ·
     rw [if_pos c3] at H
     have c3b0 : decide (0 ≤ x7_1) = true := decide_eq_true c3
     clear c3
     by_cases c4 : x7_1 < (l0.length : Int)
     ·
      rw [if_pos c4] at H
      have c4b0 : decide (x7_1 < (l0.length : Int)) = true := decide_eq_true c4
      clear c4
      replace H := Option.bind_eq_some_iff.mp H
      obtain ⟨t450, A50, H⟩ := H
      replace H : (if t450 = true then (if x7_1 > 0 then (if 0 ≤ (wrap64 (x7_1 - 1)) then (if (wrap64 (x7_1 - 1)) < (l0.length : Int) then (if ((Op.bytesLess (((rd_T61 l0 (wrap64 (x7_1 - 1))).f0).toList) (((rd_T61 l0 x7_1).f0).toList)) = true) then (tree_Entries.l0 k1 l0 l0 (l0.length : Int) (wrap64 (x7_1 + 1))) else (some false)) else (none)) else (none)) else (tree_Entries.l0 k1 l0 l0 (l0.length : Int) (wrap64 (x7_1 + 1)))) else (some false)) = some r := H
      have A5 := Aside0.mk A50
      clear A50
      by_cases c6 : t450 = true
      ·
       subst c6
       have H1 : (if x7_1 > 0 then (if 0 ≤ (wrap64 (x7_1 - 1)) then (if (wrap64 (x7_1 - 1)) < (l0.length : Int) then (if ((Op.bytesLess (((rd_T61 l0 (wrap64 (x7_1 - 1))).f0).toList) (((rd_T61 l0 x7_1).f0).toList)) = true) then (tree_Entries.l0 k1 l0 l0 (l0.length : Int) (wrap64 (x7_1 + 1))) else (some false)) else (none)) else (none)) else (tree_Entries.l0 k1 l0 l0 (l0.length : Int) (wrap64 (x7_1 + 1)))) = some r := by rw [if_pos rfl] at H; exact H
       clear H
       have H := H1
       clear H1
       by_cases c7 : x7_1 > 0
       ·
        rw [if_pos c7] at H
        have c7b0 : decide (0 < x7_1) = true := decide_eq_true c7
        clear c7
        obtain ⟨ji8, hji8⟩ : ∃ j_ : Int, (wrap64 (x7_1 - 1)) = j_ := ⟨_, rfl⟩
        replace H : (if 0 ≤ (ji8) then (if (ji8) < (l0.length : Int) then (if ((Op.bytesLess (((rd_T61 l0 (ji8)).f0).toList) (((rd_T61 l0 x7_1).f0).toList)) = true) then (tree_Entries.l0 k1 l0 l0 (l0.length : Int) (wrap64 (x7_1 + 1))) else (some false)) else (none)) else (none)) = some r := by first | (rw [hji8] at H; exact H) | (simp only [hji8] at H ⊢; exact H)
        (try rw [hji8] at A5)
        have hji8w : (IntKind.i64.wrap (x7_1 - 1)) = ji8 := (i64_w _).trans hji8
        by_cases c9 : 0 ≤ (ji8)
        ·
         rw [if_pos c9] at H
         have c9b0 : decide (0 ≤ (ji8)) = true := decide_eq_true c9
         clear c9
         by_cases c10 : (ji8) < (l0.length : Int)
         ·
          rw [if_pos c10] at H
          have c10b0 : decide ((ji8) < (l0.length : Int)) = true := decide_eq_true c10
          clear c10
          by_cases c11 : ((Op.bytesLess (((rd_T61 l0 (ji8)).f0).toList) (((rd_T61 l0 x7_1).f0).toList)) = true)
          ·
           rw [if_pos c11] at H
           have c11b0 : (Op.bytesLess (((rd_T61 l0 (ji8)).f0).toList) (((rd_T61 l0 x7_1).f0).toList)) = true := c11
           clear c11
           have H' := Aside0.mk H
           clear H
           have p448 : 0 ≤ (x7_1 : Int) := of_decide_eq_true (by first | (with_reducible assumption) | assumption)
           have q448 : x7_1 < (l0.length : Int) := of_decide_eq_true (by first | (with_reducible assumption) | assumption)
           obtain ⟨ad448, e448, hx448_0, hx448_1⟩ := at_T61 HR0.out x7_1 p448 q448
           cases e448
           replace hx448_0 := (HB.out.cell (World.block_lt_of_cell? w _ hx448_0)).trans hx448_0
           replace hx448_1 := (HB.out.cell (World.block_lt_of_cell? w _ hx448_1)).trans hx448_1
           replace p448 := eq_true p448
           replace q448 := eq_true q448
           go_wp2_with (first | ((with_reducible refine gate_dst (N := 4) rfl ?_); refine box_event ?hg (N := 4) ?hd (cs := #[.string (⟨#[]⟩ : ByteArray), .int .i64 0]) (t := 61) ?hr ?_; (case hd => rfl); (case hg => rfl); (case hr => first | (go_simp; done) | (go_simp; rfl)); intro gb449 hg w12 hbox hb; have n0_ := Aside0.mk (below_step (by repeat (first | (with_reducible first | exact HB.out | apply below_alloc | apply pw_below_drewN | apply below_drew1) | exact HB.out)) hb); have n1_ := Aside0.mk (hbox); have n2_ := Aside0.mk ((by rw [hg]; exact (below_size (by repeat (first | (with_reducible first | exact HB.out | apply below_alloc | apply pw_below_drewN | apply below_drew1) | exact HB.out))) : w.heap.size ≤ gb449)); have n3_ := Aside0.mk ((by rw [hg]; exact (below_size (by repeat (first | (with_reducible first | exact HB.out | apply below_alloc | apply pw_below_drewN | apply below_drew1) | exact HB.out))) : w.heap.size ≤ gb449)); clear HB; have HB := n0_; have BK449 := n1_; have GW449 := n2_; have GE449 := n3_; clear n0_ n1_ n2_ n3_; clear hb hbox hg; have hcz13_0 : w12.cell? ⟨gb449, 0, none⟩ = some (.string (⟨#[]⟩ : ByteArray)) := (blk_cell BK449.out 0).trans rfl; have hcz13_1 : w12.cell? ⟨gb449, 1, none⟩ = some (.int .i64 0) := (blk_cell BK449.out 1).trans rfl; have hfz13_0 := blk_frozen BK449.out 0; have hfz13_1 := blk_frozen BK449.out 1) | (go_at_call 51; (with_reducible refine (path_Name.calls ((rd_T61 l0 x7_1).f0) true _ A5.out).mono ?_); rintro e w' ⟨rfl, ⟨nd, rfl⟩⟩; (try first | exact ⟨rfl, _, World.drewN_drewN _ _ _⟩ | exact ⟨rfl, _, Eq.trans (World.drewN_drewN _ _ _) (congrArg (World.drewN _) (Nat.add_assoc _ _ _))⟩); have p451 : 0 ≤ ((ji8) : Int) := of_decide_eq_true (by first | (with_reducible assumption) | assumption); have q451 : (ji8) < (l0.length : Int) := of_decide_eq_true (by first | (with_reducible assumption) | assumption); obtain ⟨ad451, e451, hx451_0, hx451_1⟩ := at_T61 HR0.out (ji8) p451 q451; obtain rfl : ad448 = ad451 := (by injection e451); have hn451_0 : ad448.block ≠ gb449 := Nat.ne_of_lt (Nat.lt_of_lt_of_le (by have := World.block_lt_of_cell? _ _ hx451_0; first | rwa [add_block] at this | exact this) GW449.out); have hn451_1 : ad448.block ≠ gb449 := Nat.ne_of_lt (Nat.lt_of_lt_of_le (by have := World.block_lt_of_cell? _ _ hx451_0; first | rwa [add_block] at this | exact this) GW449.out); replace hx451_0 := (HB.out.cell (World.block_lt_of_cell? w _ hx451_0)).trans hx451_0; replace hx451_1 := (HB.out.cell (World.block_lt_of_cell? w _ hx451_1)).trans hx451_1; replace hx451_0 := (cell_far (p := ⟨gb449, 0, none⟩) (by first | (rw [add_block]; exact hn451_0) | (show (Addr.add _ _).block ≠ _; rw [add_block]; exact hn451_0) | exact hn451_0) (.string ((rd_T61 l0 x7_1).f0))).trans hx451_0; replace hx451_1 := (cell_far (p := ⟨gb449, 0, none⟩) (by first | (rw [add_block]; exact hn451_0) | (show (Addr.add _ _).block ≠ _; rw [add_block]; exact hn451_0) | exact hn451_0) (.string ((rd_T61 l0 x7_1).f0))).trans hx451_1; replace hx451_0 := (cell_far (p := ⟨gb449, 1, none⟩) (by first | (rw [add_block]; exact hn451_1) | (show (Addr.add _ _).block ≠ _; rw [add_block]; exact hn451_1) | exact hn451_1) (.int .i64 ((rd_T61 l0 x7_1).f1))).trans hx451_0; replace hx451_1 := (cell_far (p := ⟨gb449, 1, none⟩) (by first | (rw [add_block]; exact hn451_1) | (show (Addr.add _ _).block ≠ _; rw [add_block]; exact hn451_1) | exact hn451_1) (.int .i64 ((rd_T61 l0 x7_1).f1))).trans hx451_1; (try have hy451_0 := fun (n_ : Nat) => (show ((((w12.drewN n_).setCell ⟨gb449, 0, none⟩ (.string ((rd_T61 l0 x7_1).f0))).setCell ⟨gb449, 1, none⟩ (.int .i64 ((rd_T61 l0 x7_1).f1)))).cell? _ = some _ from hx451_0)); (try have hy451_1 := fun (n_ : Nat) => (show ((((w12.drewN n_).setCell ⟨gb449, 0, none⟩ (.string ((rd_T61 l0 x7_1).f0))).setCell ⟨gb449, 1, none⟩ (.int .i64 ((rd_T61 l0 x7_1).f1)))).cell? _ = some _ from hx451_1)); clear hn451_0; clear hn451_1; replace p451 := eq_true p451; replace q451 := eq_true q451))
           repeat (go_quiet (first | ((with_reducible refine gate_dst (N := 4) rfl ?_); refine box_event ?hg (N := 4) ?hd (cs := #[.string (⟨#[]⟩ : ByteArray), .int .i64 0]) (t := 61) ?hr ?_; (case hd => rfl); (case hg => rfl); (case hr => first | (go_simp; done) | (go_simp; rfl)); intro gb449 hg w12 hbox hb; have n0_ := Aside0.mk (below_step (by repeat (first | (with_reducible first | exact HB.out | apply below_alloc | apply pw_below_drewN | apply below_drew1) | exact HB.out)) hb); have n1_ := Aside0.mk (hbox); have n2_ := Aside0.mk ((by rw [hg]; exact (below_size (by repeat (first | (with_reducible first | exact HB.out | apply below_alloc | apply pw_below_drewN | apply below_drew1) | exact HB.out))) : w.heap.size ≤ gb449)); have n3_ := Aside0.mk ((by rw [hg]; exact (below_size (by repeat (first | (with_reducible first | exact HB.out | apply below_alloc | apply pw_below_drewN | apply below_drew1) | exact HB.out))) : w.heap.size ≤ gb449)); clear HB; have HB := n0_; have BK449 := n1_; have GW449 := n2_; have GE449 := n3_; clear n0_ n1_ n2_ n3_; clear hb hbox hg; have hcz13_0 : w12.cell? ⟨gb449, 0, none⟩ = some (.string (⟨#[]⟩ : ByteArray)) := (blk_cell BK449.out 0).trans rfl; have hcz13_1 : w12.cell? ⟨gb449, 1, none⟩ = some (.int .i64 0) := (blk_cell BK449.out 1).trans rfl; have hfz13_0 := blk_frozen BK449.out 0; have hfz13_1 := blk_frozen BK449.out 1) | (go_at_call 51; (with_reducible refine (path_Name.calls ((rd_T61 l0 x7_1).f0) true _ A5.out).mono ?_); rintro e w' ⟨rfl, ⟨nd, rfl⟩⟩; (try first | exact ⟨rfl, _, World.drewN_drewN _ _ _⟩ | exact ⟨rfl, _, Eq.trans (World.drewN_drewN _ _ _) (congrArg (World.drewN _) (Nat.add_assoc _ _ _))⟩); have p451 : 0 ≤ ((ji8) : Int) := of_decide_eq_true (by first | (with_reducible assumption) | assumption); have q451 : (ji8) < (l0.length : Int) := of_decide_eq_true (by first | (with_reducible assumption) | assumption); obtain ⟨ad451, e451, hx451_0, hx451_1⟩ := at_T61 HR0.out (ji8) p451 q451; obtain rfl : ad448 = ad451 := (by injection e451); have hn451_0 : ad448.block ≠ gb449 := Nat.ne_of_lt (Nat.lt_of_lt_of_le (by have := World.block_lt_of_cell? _ _ hx451_0; first | rwa [add_block] at this | exact this) GW449.out); have hn451_1 : ad448.block ≠ gb449 := Nat.ne_of_lt (Nat.lt_of_lt_of_le (by have := World.block_lt_of_cell? _ _ hx451_0; first | rwa [add_block] at this | exact this) GW449.out); replace hx451_0 := (HB.out.cell (World.block_lt_of_cell? w _ hx451_0)).trans hx451_0; replace hx451_1 := (HB.out.cell (World.block_lt_of_cell? w _ hx451_1)).trans hx451_1; replace hx451_0 := (cell_far (p := ⟨gb449, 0, none⟩) (by first | (rw [add_block]; exact hn451_0) | (show (Addr.add _ _).block ≠ _; rw [add_block]; exact hn451_0) | exact hn451_0) (.string ((rd_T61 l0 x7_1).f0))).trans hx451_0; replace hx451_1 := (cell_far (p := ⟨gb449, 0, none⟩) (by first | (rw [add_block]; exact hn451_0) | (show (Addr.add _ _).block ≠ _; rw [add_block]; exact hn451_0) | exact hn451_0) (.string ((rd_T61 l0 x7_1).f0))).trans hx451_1; replace hx451_0 := (cell_far (p := ⟨gb449, 1, none⟩) (by first | (rw [add_block]; exact hn451_1) | (show (Addr.add _ _).block ≠ _; rw [add_block]; exact hn451_1) | exact hn451_1) (.int .i64 ((rd_T61 l0 x7_1).f1))).trans hx451_0; replace hx451_1 := (cell_far (p := ⟨gb449, 1, none⟩) (by first | (rw [add_block]; exact hn451_1) | (show (Addr.add _ _).block ≠ _; rw [add_block]; exact hn451_1) | exact hn451_1) (.int .i64 ((rd_T61 l0 x7_1).f1))).trans hx451_1; (try have hy451_0 := fun (n_ : Nat) => (show ((((w12.drewN n_).setCell ⟨gb449, 0, none⟩ (.string ((rd_T61 l0 x7_1).f0))).setCell ⟨gb449, 1, none⟩ (.int .i64 ((rd_T61 l0 x7_1).f1)))).cell? _ = some _ from hx451_0)); (try have hy451_1 := fun (n_ : Nat) => (show ((((w12.drewN n_).setCell ⟨gb449, 0, none⟩ (.string ((rd_T61 l0 x7_1).f0))).setCell ⟨gb449, 1, none⟩ (.int .i64 ((rd_T61 l0 x7_1).f1)))).cell? _ = some _ from hx451_1)); clear hn451_0; clear hn451_1; replace p451 := eq_true p451; replace q451 := eq_true q451)); try go_wp2_with (first | ((with_reducible refine gate_dst (N := 4) rfl ?_); refine box_event ?hg (N := 4) ?hd (cs := #[.string (⟨#[]⟩ : ByteArray), .int .i64 0]) (t := 61) ?hr ?_; (case hd => rfl); (case hg => rfl); (case hr => first | (go_simp; done) | (go_simp; rfl)); intro gb449 hg w12 hbox hb; have n0_ := Aside0.mk (below_step (by repeat (first | (with_reducible first | exact HB.out | apply below_alloc | apply pw_below_drewN | apply below_drew1) | exact HB.out)) hb); have n1_ := Aside0.mk (hbox); have n2_ := Aside0.mk ((by rw [hg]; exact (below_size (by repeat (first | (with_reducible first | exact HB.out | apply below_alloc | apply pw_below_drewN | apply below_drew1) | exact HB.out))) : w.heap.size ≤ gb449)); have n3_ := Aside0.mk ((by rw [hg]; exact (below_size (by repeat (first | (with_reducible first | exact HB.out | apply below_alloc | apply pw_below_drewN | apply below_drew1) | exact HB.out))) : w.heap.size ≤ gb449)); clear HB; have HB := n0_; have BK449 := n1_; have GW449 := n2_; have GE449 := n3_; clear n0_ n1_ n2_ n3_; clear hb hbox hg; have hcz13_0 : w12.cell? ⟨gb449, 0, none⟩ = some (.string (⟨#[]⟩ : ByteArray)) := (blk_cell BK449.out 0).trans rfl; have hcz13_1 : w12.cell? ⟨gb449, 1, none⟩ = some (.int .i64 0) := (blk_cell BK449.out 1).trans rfl; have hfz13_0 := blk_frozen BK449.out 0; have hfz13_1 := blk_frozen BK449.out 1) | (go_at_call 51; (with_reducible refine (path_Name.calls ((rd_T61 l0 x7_1).f0) true _ A5.out).mono ?_); rintro e w' ⟨rfl, ⟨nd, rfl⟩⟩; (try first | exact ⟨rfl, _, World.drewN_drewN _ _ _⟩ | exact ⟨rfl, _, Eq.trans (World.drewN_drewN _ _ _) (congrArg (World.drewN _) (Nat.add_assoc _ _ _))⟩); have p451 : 0 ≤ ((ji8) : Int) := of_decide_eq_true (by first | (with_reducible assumption) | assumption); have q451 : (ji8) < (l0.length : Int) := of_decide_eq_true (by first | (with_reducible assumption) | assumption); obtain ⟨ad451, e451, hx451_0, hx451_1⟩ := at_T61 HR0.out (ji8) p451 q451; obtain rfl : ad448 = ad451 := (by injection e451); have hn451_0 : ad448.block ≠ gb449 := Nat.ne_of_lt (Nat.lt_of_lt_of_le (by have := World.block_lt_of_cell? _ _ hx451_0; first | rwa [add_block] at this | exact this) GW449.out); have hn451_1 : ad448.block ≠ gb449 := Nat.ne_of_lt (Nat.lt_of_lt_of_le (by have := World.block_lt_of_cell? _ _ hx451_0; first | rwa [add_block] at this | exact this) GW449.out); replace hx451_0 := (HB.out.cell (World.block_lt_of_cell? w _ hx451_0)).trans hx451_0; replace hx451_1 := (HB.out.cell (World.block_lt_of_cell? w _ hx451_1)).trans hx451_1; replace hx451_0 := (cell_far (p := ⟨gb449, 0, none⟩) (by first | (rw [add_block]; exact hn451_0) | (show (Addr.add _ _).block ≠ _; rw [add_block]; exact hn451_0) | exact hn451_0) (.string ((rd_T61 l0 x7_1).f0))).trans hx451_0; replace hx451_1 := (cell_far (p := ⟨gb449, 0, none⟩) (by first | (rw [add_block]; exact hn451_0) | (show (Addr.add _ _).block ≠ _; rw [add_block]; exact hn451_0) | exact hn451_0) (.string ((rd_T61 l0 x7_1).f0))).trans hx451_1; replace hx451_0 := (cell_far (p := ⟨gb449, 1, none⟩) (by first | (rw [add_block]; exact hn451_1) | (show (Addr.add _ _).block ≠ _; rw [add_block]; exact hn451_1) | exact hn451_1) (.int .i64 ((rd_T61 l0 x7_1).f1))).trans hx451_0; replace hx451_1 := (cell_far (p := ⟨gb449, 1, none⟩) (by first | (rw [add_block]; exact hn451_1) | (show (Addr.add _ _).block ≠ _; rw [add_block]; exact hn451_1) | exact hn451_1) (.int .i64 ((rd_T61 l0 x7_1).f1))).trans hx451_1; (try have hy451_0 := fun (n_ : Nat) => (show ((((w12.drewN n_).setCell ⟨gb449, 0, none⟩ (.string ((rd_T61 l0 x7_1).f0))).setCell ⟨gb449, 1, none⟩ (.int .i64 ((rd_T61 l0 x7_1).f1)))).cell? _ = some _ from hx451_0)); (try have hy451_1 := fun (n_ : Nat) => (show ((((w12.drewN n_).setCell ⟨gb449, 0, none⟩ (.string ((rd_T61 l0 x7_1).f0))).setCell ⟨gb449, 1, none⟩ (.int .i64 ((rd_T61 l0 x7_1).f1)))).cell? _ = some _ from hx451_1)); clear hn451_0; clear hn451_1; replace p451 := eq_true p451; replace q451 := eq_true q451)))
           go_roundg k1
           case measure => have := HK1.out; omega
           case rel => exact ⟨(wrap64 (x7_1 + 1)), (by first | rfl | (simp; done) | (simp [*]; done)), H', ⟨by have := HK1.out; omega⟩, ⟨by repeat (first | (with_reducible first | exact HB.out | apply below_alloc | apply pw_below_drewN | apply below_drew1 | refine below_set ?_ GE449.out) | exact HB.out)⟩⟩
          ·
           rw [if_neg c11] at H
           have c11b0 : (Op.bytesLess (((rd_T61 l0 (ji8)).f0).toList) (((rd_T61 l0 x7_1).f0).toList)) = false := by simpa using c11
           clear c11
           obtain rfl := Option.some.inj H
           have p448 : 0 ≤ (x7_1 : Int) := of_decide_eq_true (by first | (with_reducible assumption) | assumption)
           have q448 : x7_1 < (l0.length : Int) := of_decide_eq_true (by first | (with_reducible assumption) | assumption)
           obtain ⟨ad448, e448, hx448_0, hx448_1⟩ := at_T61 HR0.out x7_1 p448 q448
           cases e448
           replace hx448_0 := (HB.out.cell (World.block_lt_of_cell? w _ hx448_0)).trans hx448_0
           replace hx448_1 := (HB.out.cell (World.block_lt_of_cell? w _ hx448_1)).trans hx448_1
           replace p448 := eq_true p448
           replace q448 := eq_true q448
           go_wp2_with (first | ((with_reducible refine gate_dst (N := 4) rfl ?_); refine box_event ?hg (N := 4) ?hd (cs := #[.string (⟨#[]⟩ : ByteArray), .int .i64 0]) (t := 61) ?hr ?_; (case hd => rfl); (case hg => rfl); (case hr => first | (go_simp; done) | (go_simp; rfl)); intro gb449 hg w14 hbox hb; have n0_ := Aside0.mk (below_step (by repeat (first | (with_reducible first | exact HB.out | apply below_alloc | apply pw_below_drewN | apply below_drew1) | exact HB.out)) hb); have n1_ := Aside0.mk (hbox); have n2_ := Aside0.mk ((by rw [hg]; exact (below_size (by repeat (first | (with_reducible first | exact HB.out | apply below_alloc | apply pw_below_drewN | apply below_drew1) | exact HB.out))) : w.heap.size ≤ gb449)); have n3_ := Aside0.mk ((by rw [hg]; exact (below_size (by repeat (first | (with_reducible first | exact HB.out | apply below_alloc | apply pw_below_drewN | apply below_drew1) | exact HB.out))) : w.heap.size ≤ gb449)); clear HB; have HB := n0_; have BK449 := n1_; have GW449 := n2_; have GE449 := n3_; clear n0_ n1_ n2_ n3_; clear hb hbox hg; have hcz15_0 : w14.cell? ⟨gb449, 0, none⟩ = some (.string (⟨#[]⟩ : ByteArray)) := (blk_cell BK449.out 0).trans rfl; have hcz15_1 : w14.cell? ⟨gb449, 1, none⟩ = some (.int .i64 0) := (blk_cell BK449.out 1).trans rfl; have hfz15_0 := blk_frozen BK449.out 0; have hfz15_1 := blk_frozen BK449.out 1) | (go_at_call 51; (with_reducible refine (path_Name.calls ((rd_T61 l0 x7_1).f0) true _ A5.out).mono ?_); rintro e w' ⟨rfl, ⟨nd, rfl⟩⟩; (try first | exact ⟨rfl, _, World.drewN_drewN _ _ _⟩ | exact ⟨rfl, _, Eq.trans (World.drewN_drewN _ _ _) (congrArg (World.drewN _) (Nat.add_assoc _ _ _))⟩); have p451 : 0 ≤ ((ji8) : Int) := of_decide_eq_true (by first | (with_reducible assumption) | assumption); have q451 : (ji8) < (l0.length : Int) := of_decide_eq_true (by first | (with_reducible assumption) | assumption); obtain ⟨ad451, e451, hx451_0, hx451_1⟩ := at_T61 HR0.out (ji8) p451 q451; obtain rfl : ad448 = ad451 := (by injection e451); have hn451_0 : ad448.block ≠ gb449 := Nat.ne_of_lt (Nat.lt_of_lt_of_le (by have := World.block_lt_of_cell? _ _ hx451_0; first | rwa [add_block] at this | exact this) GW449.out); have hn451_1 : ad448.block ≠ gb449 := Nat.ne_of_lt (Nat.lt_of_lt_of_le (by have := World.block_lt_of_cell? _ _ hx451_0; first | rwa [add_block] at this | exact this) GW449.out); replace hx451_0 := (HB.out.cell (World.block_lt_of_cell? w _ hx451_0)).trans hx451_0; replace hx451_1 := (HB.out.cell (World.block_lt_of_cell? w _ hx451_1)).trans hx451_1; replace hx451_0 := (cell_far (p := ⟨gb449, 0, none⟩) (by first | (rw [add_block]; exact hn451_0) | (show (Addr.add _ _).block ≠ _; rw [add_block]; exact hn451_0) | exact hn451_0) (.string ((rd_T61 l0 x7_1).f0))).trans hx451_0; replace hx451_1 := (cell_far (p := ⟨gb449, 0, none⟩) (by first | (rw [add_block]; exact hn451_0) | (show (Addr.add _ _).block ≠ _; rw [add_block]; exact hn451_0) | exact hn451_0) (.string ((rd_T61 l0 x7_1).f0))).trans hx451_1; replace hx451_0 := (cell_far (p := ⟨gb449, 1, none⟩) (by first | (rw [add_block]; exact hn451_1) | (show (Addr.add _ _).block ≠ _; rw [add_block]; exact hn451_1) | exact hn451_1) (.int .i64 ((rd_T61 l0 x7_1).f1))).trans hx451_0; replace hx451_1 := (cell_far (p := ⟨gb449, 1, none⟩) (by first | (rw [add_block]; exact hn451_1) | (show (Addr.add _ _).block ≠ _; rw [add_block]; exact hn451_1) | exact hn451_1) (.int .i64 ((rd_T61 l0 x7_1).f1))).trans hx451_1; (try have hy451_0 := fun (n_ : Nat) => (show ((((w14.drewN n_).setCell ⟨gb449, 0, none⟩ (.string ((rd_T61 l0 x7_1).f0))).setCell ⟨gb449, 1, none⟩ (.int .i64 ((rd_T61 l0 x7_1).f1)))).cell? _ = some _ from hx451_0)); (try have hy451_1 := fun (n_ : Nat) => (show ((((w14.drewN n_).setCell ⟨gb449, 0, none⟩ (.string ((rd_T61 l0 x7_1).f0))).setCell ⟨gb449, 1, none⟩ (.int .i64 ((rd_T61 l0 x7_1).f1)))).cell? _ = some _ from hx451_1)); clear hn451_0; clear hn451_1; replace p451 := eq_true p451; replace q451 := eq_true q451))
           repeat (go_quiet (first | ((with_reducible refine gate_dst (N := 4) rfl ?_); refine box_event ?hg (N := 4) ?hd (cs := #[.string (⟨#[]⟩ : ByteArray), .int .i64 0]) (t := 61) ?hr ?_; (case hd => rfl); (case hg => rfl); (case hr => first | (go_simp; done) | (go_simp; rfl)); intro gb449 hg w14 hbox hb; have n0_ := Aside0.mk (below_step (by repeat (first | (with_reducible first | exact HB.out | apply below_alloc | apply pw_below_drewN | apply below_drew1) | exact HB.out)) hb); have n1_ := Aside0.mk (hbox); have n2_ := Aside0.mk ((by rw [hg]; exact (below_size (by repeat (first | (with_reducible first | exact HB.out | apply below_alloc | apply pw_below_drewN | apply below_drew1) | exact HB.out))) : w.heap.size ≤ gb449)); have n3_ := Aside0.mk ((by rw [hg]; exact (below_size (by repeat (first | (with_reducible first | exact HB.out | apply below_alloc | apply pw_below_drewN | apply below_drew1) | exact HB.out))) : w.heap.size ≤ gb449)); clear HB; have HB := n0_; have BK449 := n1_; have GW449 := n2_; have GE449 := n3_; clear n0_ n1_ n2_ n3_; clear hb hbox hg; have hcz15_0 : w14.cell? ⟨gb449, 0, none⟩ = some (.string (⟨#[]⟩ : ByteArray)) := (blk_cell BK449.out 0).trans rfl; have hcz15_1 : w14.cell? ⟨gb449, 1, none⟩ = some (.int .i64 0) := (blk_cell BK449.out 1).trans rfl; have hfz15_0 := blk_frozen BK449.out 0; have hfz15_1 := blk_frozen BK449.out 1) | (go_at_call 51; (with_reducible refine (path_Name.calls ((rd_T61 l0 x7_1).f0) true _ A5.out).mono ?_); rintro e w' ⟨rfl, ⟨nd, rfl⟩⟩; (try first | exact ⟨rfl, _, World.drewN_drewN _ _ _⟩ | exact ⟨rfl, _, Eq.trans (World.drewN_drewN _ _ _) (congrArg (World.drewN _) (Nat.add_assoc _ _ _))⟩); have p451 : 0 ≤ ((ji8) : Int) := of_decide_eq_true (by first | (with_reducible assumption) | assumption); have q451 : (ji8) < (l0.length : Int) := of_decide_eq_true (by first | (with_reducible assumption) | assumption); obtain ⟨ad451, e451, hx451_0, hx451_1⟩ := at_T61 HR0.out (ji8) p451 q451; obtain rfl : ad448 = ad451 := (by injection e451); have hn451_0 : ad448.block ≠ gb449 := Nat.ne_of_lt (Nat.lt_of_lt_of_le (by have := World.block_lt_of_cell? _ _ hx451_0; first | rwa [add_block] at this | exact this) GW449.out); have hn451_1 : ad448.block ≠ gb449 := Nat.ne_of_lt (Nat.lt_of_lt_of_le (by have := World.block_lt_of_cell? _ _ hx451_0; first | rwa [add_block] at this | exact this) GW449.out); replace hx451_0 := (HB.out.cell (World.block_lt_of_cell? w _ hx451_0)).trans hx451_0; replace hx451_1 := (HB.out.cell (World.block_lt_of_cell? w _ hx451_1)).trans hx451_1; replace hx451_0 := (cell_far (p := ⟨gb449, 0, none⟩) (by first | (rw [add_block]; exact hn451_0) | (show (Addr.add _ _).block ≠ _; rw [add_block]; exact hn451_0) | exact hn451_0) (.string ((rd_T61 l0 x7_1).f0))).trans hx451_0; replace hx451_1 := (cell_far (p := ⟨gb449, 0, none⟩) (by first | (rw [add_block]; exact hn451_0) | (show (Addr.add _ _).block ≠ _; rw [add_block]; exact hn451_0) | exact hn451_0) (.string ((rd_T61 l0 x7_1).f0))).trans hx451_1; replace hx451_0 := (cell_far (p := ⟨gb449, 1, none⟩) (by first | (rw [add_block]; exact hn451_1) | (show (Addr.add _ _).block ≠ _; rw [add_block]; exact hn451_1) | exact hn451_1) (.int .i64 ((rd_T61 l0 x7_1).f1))).trans hx451_0; replace hx451_1 := (cell_far (p := ⟨gb449, 1, none⟩) (by first | (rw [add_block]; exact hn451_1) | (show (Addr.add _ _).block ≠ _; rw [add_block]; exact hn451_1) | exact hn451_1) (.int .i64 ((rd_T61 l0 x7_1).f1))).trans hx451_1; (try have hy451_0 := fun (n_ : Nat) => (show ((((w14.drewN n_).setCell ⟨gb449, 0, none⟩ (.string ((rd_T61 l0 x7_1).f0))).setCell ⟨gb449, 1, none⟩ (.int .i64 ((rd_T61 l0 x7_1).f1)))).cell? _ = some _ from hx451_0)); (try have hy451_1 := fun (n_ : Nat) => (show ((((w14.drewN n_).setCell ⟨gb449, 0, none⟩ (.string ((rd_T61 l0 x7_1).f0))).setCell ⟨gb449, 1, none⟩ (.int .i64 ((rd_T61 l0 x7_1).f1)))).cell? _ = some _ from hx451_1)); clear hn451_0; clear hn451_1; replace p451 := eq_true p451; replace q451 := eq_true q451)); try go_wp2_with (first | ((with_reducible refine gate_dst (N := 4) rfl ?_); refine box_event ?hg (N := 4) ?hd (cs := #[.string (⟨#[]⟩ : ByteArray), .int .i64 0]) (t := 61) ?hr ?_; (case hd => rfl); (case hg => rfl); (case hr => first | (go_simp; done) | (go_simp; rfl)); intro gb449 hg w14 hbox hb; have n0_ := Aside0.mk (below_step (by repeat (first | (with_reducible first | exact HB.out | apply below_alloc | apply pw_below_drewN | apply below_drew1) | exact HB.out)) hb); have n1_ := Aside0.mk (hbox); have n2_ := Aside0.mk ((by rw [hg]; exact (below_size (by repeat (first | (with_reducible first | exact HB.out | apply below_alloc | apply pw_below_drewN | apply below_drew1) | exact HB.out))) : w.heap.size ≤ gb449)); have n3_ := Aside0.mk ((by rw [hg]; exact (below_size (by repeat (first | (with_reducible first | exact HB.out | apply below_alloc | apply pw_below_drewN | apply below_drew1) | exact HB.out))) : w.heap.size ≤ gb449)); clear HB; have HB := n0_; have BK449 := n1_; have GW449 := n2_; have GE449 := n3_; clear n0_ n1_ n2_ n3_; clear hb hbox hg; have hcz15_0 : w14.cell? ⟨gb449, 0, none⟩ = some (.string (⟨#[]⟩ : ByteArray)) := (blk_cell BK449.out 0).trans rfl; have hcz15_1 : w14.cell? ⟨gb449, 1, none⟩ = some (.int .i64 0) := (blk_cell BK449.out 1).trans rfl; have hfz15_0 := blk_frozen BK449.out 0; have hfz15_1 := blk_frozen BK449.out 1) | (go_at_call 51; (with_reducible refine (path_Name.calls ((rd_T61 l0 x7_1).f0) true _ A5.out).mono ?_); rintro e w' ⟨rfl, ⟨nd, rfl⟩⟩; (try first | exact ⟨rfl, _, World.drewN_drewN _ _ _⟩ | exact ⟨rfl, _, Eq.trans (World.drewN_drewN _ _ _) (congrArg (World.drewN _) (Nat.add_assoc _ _ _))⟩); have p451 : 0 ≤ ((ji8) : Int) := of_decide_eq_true (by first | (with_reducible assumption) | assumption); have q451 : (ji8) < (l0.length : Int) := of_decide_eq_true (by first | (with_reducible assumption) | assumption); obtain ⟨ad451, e451, hx451_0, hx451_1⟩ := at_T61 HR0.out (ji8) p451 q451; obtain rfl : ad448 = ad451 := (by injection e451); have hn451_0 : ad448.block ≠ gb449 := Nat.ne_of_lt (Nat.lt_of_lt_of_le (by have := World.block_lt_of_cell? _ _ hx451_0; first | rwa [add_block] at this | exact this) GW449.out); have hn451_1 : ad448.block ≠ gb449 := Nat.ne_of_lt (Nat.lt_of_lt_of_le (by have := World.block_lt_of_cell? _ _ hx451_0; first | rwa [add_block] at this | exact this) GW449.out); replace hx451_0 := (HB.out.cell (World.block_lt_of_cell? w _ hx451_0)).trans hx451_0; replace hx451_1 := (HB.out.cell (World.block_lt_of_cell? w _ hx451_1)).trans hx451_1; replace hx451_0 := (cell_far (p := ⟨gb449, 0, none⟩) (by first | (rw [add_block]; exact hn451_0) | (show (Addr.add _ _).block ≠ _; rw [add_block]; exact hn451_0) | exact hn451_0) (.string ((rd_T61 l0 x7_1).f0))).trans hx451_0; replace hx451_1 := (cell_far (p := ⟨gb449, 0, none⟩) (by first | (rw [add_block]; exact hn451_0) | (show (Addr.add _ _).block ≠ _; rw [add_block]; exact hn451_0) | exact hn451_0) (.string ((rd_T61 l0 x7_1).f0))).trans hx451_1; replace hx451_0 := (cell_far (p := ⟨gb449, 1, none⟩) (by first | (rw [add_block]; exact hn451_1) | (show (Addr.add _ _).block ≠ _; rw [add_block]; exact hn451_1) | exact hn451_1) (.int .i64 ((rd_T61 l0 x7_1).f1))).trans hx451_0; replace hx451_1 := (cell_far (p := ⟨gb449, 1, none⟩) (by first | (rw [add_block]; exact hn451_1) | (show (Addr.add _ _).block ≠ _; rw [add_block]; exact hn451_1) | exact hn451_1) (.int .i64 ((rd_T61 l0 x7_1).f1))).trans hx451_1; (try have hy451_0 := fun (n_ : Nat) => (show ((((w14.drewN n_).setCell ⟨gb449, 0, none⟩ (.string ((rd_T61 l0 x7_1).f0))).setCell ⟨gb449, 1, none⟩ (.int .i64 ((rd_T61 l0 x7_1).f1)))).cell? _ = some _ from hx451_0)); (try have hy451_1 := fun (n_ : Nat) => (show ((((w14.drewN n_).setCell ⟨gb449, 0, none⟩ (.string ((rd_T61 l0 x7_1).f0))).setCell ⟨gb449, 1, none⟩ (.int .i64 ((rd_T61 l0 x7_1).f1)))).cell? _ = some _ from hx451_1)); clear hn451_0; clear hn451_1; replace p451 := eq_true p451; replace q451 := eq_true q451)))
           go_ret
           exact ⟨by first | rfl | (simp [errW_none, errW_some] <;> rfl) | (simp only [← hji8]; first | rfl | (simp [errW_none, errW_some] <;> rfl)) | (simp [*, errW_none, errW_some] <;> rfl), by repeat (first | (with_reducible first | exact HB.out | apply below_alloc | apply pw_below_drewN | apply below_drew1 | refine below_set ?_ GE449.out) | exact HB.out)⟩
         ·
          rw [if_neg c10] at H
          exact absurd H (by simp)
        ·
         rw [if_neg c9] at H
         exact absurd H (by simp)
       ·
        rw [if_neg c7] at H
        have c7b0 : decide (0 < x7_1) = false := decide_eq_false c7
        clear c7
        have H' := Aside0.mk H
        clear H
        have p448 : 0 ≤ (x7_1 : Int) := of_decide_eq_true (by first | (with_reducible assumption) | assumption)
        have q448 : x7_1 < (l0.length : Int) := of_decide_eq_true (by first | (with_reducible assumption) | assumption)
        obtain ⟨ad448, e448, hx448_0, hx448_1⟩ := at_T61 HR0.out x7_1 p448 q448
        cases e448
        replace hx448_0 := (HB.out.cell (World.block_lt_of_cell? w _ hx448_0)).trans hx448_0
        replace hx448_1 := (HB.out.cell (World.block_lt_of_cell? w _ hx448_1)).trans hx448_1
        replace p448 := eq_true p448
        replace q448 := eq_true q448
        go_wp2_with (first | ((with_reducible refine gate_dst (N := 4) rfl ?_); refine box_event ?hg (N := 4) ?hd (cs := #[.string (⟨#[]⟩ : ByteArray), .int .i64 0]) (t := 61) ?hr ?_; (case hd => rfl); (case hg => rfl); (case hr => first | (go_simp; done) | (go_simp; rfl)); intro gb449 hg w16 hbox hb; have n0_ := Aside0.mk (below_step (by repeat (first | (with_reducible first | exact HB.out | apply below_alloc | apply pw_below_drewN | apply below_drew1) | exact HB.out)) hb); have n1_ := Aside0.mk (hbox); have n2_ := Aside0.mk ((by rw [hg]; exact (below_size (by repeat (first | (with_reducible first | exact HB.out | apply below_alloc | apply pw_below_drewN | apply below_drew1) | exact HB.out))) : w.heap.size ≤ gb449)); have n3_ := Aside0.mk ((by rw [hg]; exact (below_size (by repeat (first | (with_reducible first | exact HB.out | apply below_alloc | apply pw_below_drewN | apply below_drew1) | exact HB.out))) : w.heap.size ≤ gb449)); clear HB; have HB := n0_; have BK449 := n1_; have GW449 := n2_; have GE449 := n3_; clear n0_ n1_ n2_ n3_; clear hb hbox hg; have hcz17_0 : w16.cell? ⟨gb449, 0, none⟩ = some (.string (⟨#[]⟩ : ByteArray)) := (blk_cell BK449.out 0).trans rfl; have hcz17_1 : w16.cell? ⟨gb449, 1, none⟩ = some (.int .i64 0) := (blk_cell BK449.out 1).trans rfl; have hfz17_0 := blk_frozen BK449.out 0; have hfz17_1 := blk_frozen BK449.out 1) | (go_at_call 51; (with_reducible refine (path_Name.calls ((rd_T61 l0 x7_1).f0) true _ A5.out).mono ?_); rintro e w' ⟨rfl, ⟨nd, rfl⟩⟩; (try first | exact ⟨rfl, _, World.drewN_drewN _ _ _⟩ | exact ⟨rfl, _, Eq.trans (World.drewN_drewN _ _ _) (congrArg (World.drewN _) (Nat.add_assoc _ _ _))⟩)))
        repeat (go_quiet (first | ((with_reducible refine gate_dst (N := 4) rfl ?_); refine box_event ?hg (N := 4) ?hd (cs := #[.string (⟨#[]⟩ : ByteArray), .int .i64 0]) (t := 61) ?hr ?_; (case hd => rfl); (case hg => rfl); (case hr => first | (go_simp; done) | (go_simp; rfl)); intro gb449 hg w16 hbox hb; have n0_ := Aside0.mk (below_step (by repeat (first | (with_reducible first | exact HB.out | apply below_alloc | apply pw_below_drewN | apply below_drew1) | exact HB.out)) hb); have n1_ := Aside0.mk (hbox); have n2_ := Aside0.mk ((by rw [hg]; exact (below_size (by repeat (first | (with_reducible first | exact HB.out | apply below_alloc | apply pw_below_drewN | apply below_drew1) | exact HB.out))) : w.heap.size ≤ gb449)); have n3_ := Aside0.mk ((by rw [hg]; exact (below_size (by repeat (first | (with_reducible first | exact HB.out | apply below_alloc | apply pw_below_drewN | apply below_drew1) | exact HB.out))) : w.heap.size ≤ gb449)); clear HB; have HB := n0_; have BK449 := n1_; have GW449 := n2_; have GE449 := n3_; clear n0_ n1_ n2_ n3_; clear hb hbox hg; have hcz17_0 : w16.cell? ⟨gb449, 0, none⟩ = some (.string (⟨#[]⟩ : ByteArray)) := (blk_cell BK449.out 0).trans rfl; have hcz17_1 : w16.cell? ⟨gb449, 1, none⟩ = some (.int .i64 0) := (blk_cell BK449.out 1).trans rfl; have hfz17_0 := blk_frozen BK449.out 0; have hfz17_1 := blk_frozen BK449.out 1) | (go_at_call 51; (with_reducible refine (path_Name.calls ((rd_T61 l0 x7_1).f0) true _ A5.out).mono ?_); rintro e w' ⟨rfl, ⟨nd, rfl⟩⟩; (try first | exact ⟨rfl, _, World.drewN_drewN _ _ _⟩ | exact ⟨rfl, _, Eq.trans (World.drewN_drewN _ _ _) (congrArg (World.drewN _) (Nat.add_assoc _ _ _))⟩))); try go_wp2_with (first | ((with_reducible refine gate_dst (N := 4) rfl ?_); refine box_event ?hg (N := 4) ?hd (cs := #[.string (⟨#[]⟩ : ByteArray), .int .i64 0]) (t := 61) ?hr ?_; (case hd => rfl); (case hg => rfl); (case hr => first | (go_simp; done) | (go_simp; rfl)); intro gb449 hg w16 hbox hb; have n0_ := Aside0.mk (below_step (by repeat (first | (with_reducible first | exact HB.out | apply below_alloc | apply pw_below_drewN | apply below_drew1) | exact HB.out)) hb); have n1_ := Aside0.mk (hbox); have n2_ := Aside0.mk ((by rw [hg]; exact (below_size (by repeat (first | (with_reducible first | exact HB.out | apply below_alloc | apply pw_below_drewN | apply below_drew1) | exact HB.out))) : w.heap.size ≤ gb449)); have n3_ := Aside0.mk ((by rw [hg]; exact (below_size (by repeat (first | (with_reducible first | exact HB.out | apply below_alloc | apply pw_below_drewN | apply below_drew1) | exact HB.out))) : w.heap.size ≤ gb449)); clear HB; have HB := n0_; have BK449 := n1_; have GW449 := n2_; have GE449 := n3_; clear n0_ n1_ n2_ n3_; clear hb hbox hg; have hcz17_0 : w16.cell? ⟨gb449, 0, none⟩ = some (.string (⟨#[]⟩ : ByteArray)) := (blk_cell BK449.out 0).trans rfl; have hcz17_1 : w16.cell? ⟨gb449, 1, none⟩ = some (.int .i64 0) := (blk_cell BK449.out 1).trans rfl; have hfz17_0 := blk_frozen BK449.out 0; have hfz17_1 := blk_frozen BK449.out 1) | (go_at_call 51; (with_reducible refine (path_Name.calls ((rd_T61 l0 x7_1).f0) true _ A5.out).mono ?_); rintro e w' ⟨rfl, ⟨nd, rfl⟩⟩; (try first | exact ⟨rfl, _, World.drewN_drewN _ _ _⟩ | exact ⟨rfl, _, Eq.trans (World.drewN_drewN _ _ _) (congrArg (World.drewN _) (Nat.add_assoc _ _ _))⟩))))
        go_roundg k1
        case measure => have := HK1.out; omega
        case rel => exact ⟨(wrap64 (x7_1 + 1)), (by first | rfl | (simp; done) | (simp [*]; done)), H', ⟨by have := HK1.out; omega⟩, ⟨by repeat (first | (with_reducible first | exact HB.out | apply below_alloc | apply pw_below_drewN | apply below_drew1 | refine below_set ?_ GE449.out) | exact HB.out)⟩⟩
      ·
       replace c6 := Bool.eq_false_iff.mpr c6
       subst c6
       have H1 : (some false) = some r := by rw [if_neg (show ¬ (false = true) by decide)] at H; exact H
       clear H
       have H := H1
       clear H1
       obtain rfl := Option.some.inj H
       have p448 : 0 ≤ (x7_1 : Int) := of_decide_eq_true (by first | (with_reducible assumption) | assumption)
       have q448 : x7_1 < (l0.length : Int) := of_decide_eq_true (by first | (with_reducible assumption) | assumption)
       obtain ⟨ad448, e448, hx448_0, hx448_1⟩ := at_T61 HR0.out x7_1 p448 q448
       cases e448
       replace hx448_0 := (HB.out.cell (World.block_lt_of_cell? w _ hx448_0)).trans hx448_0
       replace hx448_1 := (HB.out.cell (World.block_lt_of_cell? w _ hx448_1)).trans hx448_1
       replace p448 := eq_true p448
       replace q448 := eq_true q448
       go_wp2_with (first | ((with_reducible refine gate_dst (N := 4) rfl ?_); refine box_event ?hg (N := 4) ?hd (cs := #[.string (⟨#[]⟩ : ByteArray), .int .i64 0]) (t := 61) ?hr ?_; (case hd => rfl); (case hg => rfl); (case hr => first | (go_simp; done) | (go_simp; rfl)); intro gb449 hg w18 hbox hb; have n0_ := Aside0.mk (below_step (by repeat (first | (with_reducible first | exact HB.out | apply below_alloc | apply pw_below_drewN | apply below_drew1) | exact HB.out)) hb); have n1_ := Aside0.mk (hbox); have n2_ := Aside0.mk ((by rw [hg]; exact (below_size (by repeat (first | (with_reducible first | exact HB.out | apply below_alloc | apply pw_below_drewN | apply below_drew1) | exact HB.out))) : w.heap.size ≤ gb449)); have n3_ := Aside0.mk ((by rw [hg]; exact (below_size (by repeat (first | (with_reducible first | exact HB.out | apply below_alloc | apply pw_below_drewN | apply below_drew1) | exact HB.out))) : w.heap.size ≤ gb449)); clear HB; have HB := n0_; have BK449 := n1_; have GW449 := n2_; have GE449 := n3_; clear n0_ n1_ n2_ n3_; clear hb hbox hg; have hcz19_0 : w18.cell? ⟨gb449, 0, none⟩ = some (.string (⟨#[]⟩ : ByteArray)) := (blk_cell BK449.out 0).trans rfl; have hcz19_1 : w18.cell? ⟨gb449, 1, none⟩ = some (.int .i64 0) := (blk_cell BK449.out 1).trans rfl; have hfz19_0 := blk_frozen BK449.out 0; have hfz19_1 := blk_frozen BK449.out 1) | (go_at_call 51; (with_reducible refine (path_Name.calls ((rd_T61 l0 x7_1).f0) false _ A5.out).mono ?_); rintro e w' ⟨rfl, ⟨nd, rfl⟩⟩; (try first | exact ⟨rfl, _, World.drewN_drewN _ _ _⟩ | exact ⟨rfl, _, Eq.trans (World.drewN_drewN _ _ _) (congrArg (World.drewN _) (Nat.add_assoc _ _ _))⟩)))
       repeat (go_quiet (first | ((with_reducible refine gate_dst (N := 4) rfl ?_); refine box_event ?hg (N := 4) ?hd (cs := #[.string (⟨#[]⟩ : ByteArray), .int .i64 0]) (t := 61) ?hr ?_; (case hd => rfl); (case hg => rfl); (case hr => first | (go_simp; done) | (go_simp; rfl)); intro gb449 hg w18 hbox hb; have n0_ := Aside0.mk (below_step (by repeat (first | (with_reducible first | exact HB.out | apply below_alloc | apply pw_below_drewN | apply below_drew1) | exact HB.out)) hb); have n1_ := Aside0.mk (hbox); have n2_ := Aside0.mk ((by rw [hg]; exact (below_size (by repeat (first | (with_reducible first | exact HB.out | apply below_alloc | apply pw_below_drewN | apply below_drew1) | exact HB.out))) : w.heap.size ≤ gb449)); have n3_ := Aside0.mk ((by rw [hg]; exact (below_size (by repeat (first | (with_reducible first | exact HB.out | apply below_alloc | apply pw_below_drewN | apply below_drew1) | exact HB.out))) : w.heap.size ≤ gb449)); clear HB; have HB := n0_; have BK449 := n1_; have GW449 := n2_; have GE449 := n3_; clear n0_ n1_ n2_ n3_; clear hb hbox hg; have hcz19_0 : w18.cell? ⟨gb449, 0, none⟩ = some (.string (⟨#[]⟩ : ByteArray)) := (blk_cell BK449.out 0).trans rfl; have hcz19_1 : w18.cell? ⟨gb449, 1, none⟩ = some (.int .i64 0) := (blk_cell BK449.out 1).trans rfl; have hfz19_0 := blk_frozen BK449.out 0; have hfz19_1 := blk_frozen BK449.out 1) | (go_at_call 51; (with_reducible refine (path_Name.calls ((rd_T61 l0 x7_1).f0) false _ A5.out).mono ?_); rintro e w' ⟨rfl, ⟨nd, rfl⟩⟩; (try first | exact ⟨rfl, _, World.drewN_drewN _ _ _⟩ | exact ⟨rfl, _, Eq.trans (World.drewN_drewN _ _ _) (congrArg (World.drewN _) (Nat.add_assoc _ _ _))⟩))); try go_wp2_with (first | ((with_reducible refine gate_dst (N := 4) rfl ?_); refine box_event ?hg (N := 4) ?hd (cs := #[.string (⟨#[]⟩ : ByteArray), .int .i64 0]) (t := 61) ?hr ?_; (case hd => rfl); (case hg => rfl); (case hr => first | (go_simp; done) | (go_simp; rfl)); intro gb449 hg w18 hbox hb; have n0_ := Aside0.mk (below_step (by repeat (first | (with_reducible first | exact HB.out | apply below_alloc | apply pw_below_drewN | apply below_drew1) | exact HB.out)) hb); have n1_ := Aside0.mk (hbox); have n2_ := Aside0.mk ((by rw [hg]; exact (below_size (by repeat (first | (with_reducible first | exact HB.out | apply below_alloc | apply pw_below_drewN | apply below_drew1) | exact HB.out))) : w.heap.size ≤ gb449)); have n3_ := Aside0.mk ((by rw [hg]; exact (below_size (by repeat (first | (with_reducible first | exact HB.out | apply below_alloc | apply pw_below_drewN | apply below_drew1) | exact HB.out))) : w.heap.size ≤ gb449)); clear HB; have HB := n0_; have BK449 := n1_; have GW449 := n2_; have GE449 := n3_; clear n0_ n1_ n2_ n3_; clear hb hbox hg; have hcz19_0 : w18.cell? ⟨gb449, 0, none⟩ = some (.string (⟨#[]⟩ : ByteArray)) := (blk_cell BK449.out 0).trans rfl; have hcz19_1 : w18.cell? ⟨gb449, 1, none⟩ = some (.int .i64 0) := (blk_cell BK449.out 1).trans rfl; have hfz19_0 := blk_frozen BK449.out 0; have hfz19_1 := blk_frozen BK449.out 1) | (go_at_call 51; (with_reducible refine (path_Name.calls ((rd_T61 l0 x7_1).f0) false _ A5.out).mono ?_); rintro e w' ⟨rfl, ⟨nd, rfl⟩⟩; (try first | exact ⟨rfl, _, World.drewN_drewN _ _ _⟩ | exact ⟨rfl, _, Eq.trans (World.drewN_drewN _ _ _) (congrArg (World.drewN _) (Nat.add_assoc _ _ _))⟩))))
       go_ret
       exact ⟨by first | rfl | (simp [errW_none, errW_some] <;> rfl) | (simp [*, errW_none, errW_some] <;> rfl), by repeat (first | (with_reducible first | exact HB.out | apply below_alloc | apply pw_below_drewN | apply below_drew1 | refine below_set ?_ GE449.out) | exact HB.out)⟩
     ·
      rw [if_neg c4] at H
      exact absurd H (by simp)
    ·
     rw [if_neg c3] at H
     exact absurd H (by simp)
   ·
    rw [if_neg c2] at H
    have c2b0 : decide (x7_1 < (l0.length : Int)) = false := decide_eq_false c2
    clear c2
    obtain rfl := Option.some.inj H
    go_wp2
    repeat (go_quiet (fail); try go_wp2)
    go_ret
    exact ⟨by first | rfl | (simp [errW_none, errW_some] <;> rfl) | (simp [*, errW_none, errW_some] <;> rfl), by repeat (first | (with_reducible first | exact HB.out | apply below_alloc | apply pw_below_drewN | apply below_drew1) | exact HB.out)⟩
end Go.Proofs.YtnpnablnnfekkaaDoor.PTr
namespace Go.Proofs.YtnpnablnnfekkaaDoor.PTr
open Go.RowKit Go.Proofs.YtnpnablnnfekkaaDoorW.PrintWords Go.Proofs.YtnpnablnnfekkaaDoorW.PrintLast Go.Proofs.YtnpnablnnfekkaaDoorW.PrintMore
attribute [local go_sem] max2_int min2_int max_two min_two max_three min_three max_four min_four   -- for this text's walks alone
set_option linter.unusedVariables false
set_option linter.unusedSimpArgs false
def tree_plain.j0 : Nat → Bool → Int → Int → Int → Int → Int → ByteArray → List (S61) → Option (Bool)
 | 0, _, _, _, _, _, _, _, _ => none
 | k + 1, x30, x512000, x512001, x512002, x512003, x512004, x512005, x512006 => if x30 = true then (some false) else (if x512001 = 1 then (if x512005.toList = ([] : List UInt8) then ((tree_Entries.f k x512006).bind fun t512 => (some t512)) else (some false)) else (if x512001 = 2 then (if (x512005.size : Int) ≤ 4096 then (some ((x512006.length : Int) == 0)) else (some false)) else (if x512001 = 3 then (if x512005.toList = ([] : List UInt8) then (some false) else (if (x512005.size : Int) ≤ 256 then ((strings_IndexByte.f x512005 0).bind fun t513 => (if t513 < 0 then (some ((x512006.length : Int) == 0)) else (some false))) else (some false))) else (some false))))
def tree_plain.f (k : Nat) (a0_0 : Int) (a0_1 : Int) (a0_2 : Int) (a0_3 : Int) (a0_4 : Int) (a0_5 : ByteArray) (l0_6 : List (S61)) : Option (Bool) := if a0_2 < 0 then (tree_plain.j0 k true a0_0 a0_1 a0_2 a0_3 a0_4 a0_5 l0_6) else (if a0_2 > 511 then (tree_plain.j0 k true a0_0 a0_1 a0_2 a0_3 a0_4 a0_5 l0_6) else (if a0_3 < 0 then (tree_plain.j0 k true a0_0 a0_1 a0_2 a0_3 a0_4 a0_5 l0_6) else (if a0_3 > 65535 then (tree_plain.j0 k true a0_0 a0_1 a0_2 a0_3 a0_4 a0_5 l0_6) else (if a0_4 < 0 then (tree_plain.j0 k true a0_0 a0_1 a0_2 a0_3 a0_4 a0_5 l0_6) else (tree_plain.j0 k (decide (a0_4 > 1099511627776)) a0_0 a0_1 a0_2 a0_3 a0_4 a0_5 l0_6)))))
set_option maxHeartbeats 8000000 in
set_option maxRecDepth 100000 in
theorem tree_plain.calls (k : Nat) (a0_0 : Int) (a0_1 : Int) (a0_2 : Int) (a0_3 : Int) (a0_4 : Int) (a0_5 : ByteArray) (A0_6 : Option Addr) (c0_6 : Nat) (l0_6 : List (S61)) (r : Bool) (w : World) (hr0_6 : Kd.C k61 w A0_6 l0_6.length l0_6) (hc0_6 : l0_6.length ≤ c0_6) (h : tree_plain.f k a0_0 a0_1 a0_2 a0_3 a0_4 a0_5 l0_6 = some r) :
  Calls Tryd.prog 58 #[.agg #[.int .i64 a0_0, .int .i64 a0_1, .int .i64 a0_2, .int .i64 a0_3, .int .i64 a0_4, .string a0_5, .slice A0_6 l0_6.length c0_6]] w fun e w' => e = .returned (.bool r) ∧ Below w.heap.size w w' := by
 have hu44 := Tryd.underlying44
 have HR0_6 := Aside0.mk hr0_6
 have HC0_6 := Aside0.mk hc0_6
 clear hr0_6 hc0_6
 have HB := Aside0.mk (Below.refl w.heap.size w)
 have H : (if a0_2 < 0 then (tree_plain.j0 k true a0_0 a0_1 a0_2 a0_3 a0_4 a0_5 l0_6) else (if a0_2 > 511 then (tree_plain.j0 k true a0_0 a0_1 a0_2 a0_3 a0_4 a0_5 l0_6) else (if a0_3 < 0 then (tree_plain.j0 k true a0_0 a0_1 a0_2 a0_3 a0_4 a0_5 l0_6) else (if a0_3 > 65535 then (tree_plain.j0 k true a0_0 a0_1 a0_2 a0_3 a0_4 a0_5 l0_6) else (if a0_4 < 0 then (tree_plain.j0 k true a0_0 a0_1 a0_2 a0_3 a0_4 a0_5 l0_6) else (tree_plain.j0 k (decide (a0_4 > 1099511627776)) a0_0 a0_1 a0_2 a0_3 a0_4 a0_5 l0_6)))))) = some r := h
 clear h
 have HC2 := Aside0.mk H
 clear H
 go_enter Tryd.func58, Tryd.ntmps58
 go_upto_region 1 with (first | ((with_reducible refine gate_dst (N := 1) rfl ?_); (try (refine gate_guard (by rfl) ?_; dsimp only)); refine box_event ?hg (N := 1) ?hd (cs := #[.int .i64 a0_0, .int .i64 a0_1, .int .i64 a0_2, .int .i64 a0_3, .int .i64 a0_4, .string a0_5, .slice A0_6 l0_6.length c0_6]) (t := 44) ?hr ?_; (case hd => rfl); (case hg => rfl); (case hr => first | (go_simp; done) | (go_simp; rfl)); intro gb511 hg w3 hbox hb; have n0_ := Aside0.mk (below_step (by repeat (first | (with_reducible first | exact HB.out | apply below_alloc | apply pw_below_drewN | apply below_drew1) | exact HB.out)) hb); have n1_ := Aside0.mk (hbox); have n2_ := Aside0.mk ((by rw [hg]; exact (below_size (by repeat (first | (with_reducible first | exact HB.out | apply below_alloc | apply pw_below_drewN | apply below_drew1) | exact HB.out))) : w.heap.size ≤ gb511)); have n3_ := Aside0.mk ((by rw [hg]; exact (below_size (by repeat (first | (with_reducible first | exact HB.out | apply below_alloc | apply pw_below_drewN | apply below_drew1) | exact HB.out))) : w.heap.size ≤ gb511)); clear HB; have HB := n0_; have BK511 := n1_; have GW511 := n2_; have GE511 := n3_; clear n0_ n1_ n2_ n3_; clear hb hbox hg))
 (try simp only [Act.put, List.setIfInBounds_toArray, List.set_cons_zero, List.set_cons_succ])
 go_cut [30] (fun v30 wc => ∃ (kq : Nat) (x30_1 : Bool), v30 = .bool x30_1 ∧ Aside0 (tree_plain.j0 kq x30_1 a0_0 a0_1 a0_2 a0_3 a0_4 a0_5 l0_6 = some r) ∧ Aside0 (kq ≤ k) ∧ Aside0 (wc.heap[gb511]? = some (.cells #[.int .i64 a0_0, .int .i64 a0_1, .int .i64 a0_2, .int .i64 a0_3, .int .i64 a0_4, .string a0_5, (.slice A0_6 l0_6.length c0_6)] 44 (0, 0))) ∧ Aside0 (Below w.heap.size w wc))
 case first =>
  have H := HC2.out
  clear HC2
  by_cases c4 : a0_2 < 0
  ·
   rw [if_pos c4] at H
   have c4b0 : decide (a0_2 < 0) = true := decide_eq_true c4
   clear c4
   (first | rw [c4b0] | (simp only [i64_w, i32_w]; rw [c4b0]) | skip)
   have H' := Aside0.mk H
   clear H
   have hcz5_0 : w3.cell? ⟨gb511, 0, none⟩ = some (.int .i64 a0_0) := (blk_cell BK511.out 0).trans rfl
   have hcz5_1 : w3.cell? ⟨gb511, 1, none⟩ = some (.int .i64 a0_1) := (blk_cell BK511.out 1).trans rfl
   have hcz5_2 : w3.cell? ⟨gb511, 2, none⟩ = some (.int .i64 a0_2) := (blk_cell BK511.out 2).trans rfl
   have hcz5_3 : w3.cell? ⟨gb511, 3, none⟩ = some (.int .i64 a0_3) := (blk_cell BK511.out 3).trans rfl
   have hcz5_4 : w3.cell? ⟨gb511, 4, none⟩ = some (.int .i64 a0_4) := (blk_cell BK511.out 4).trans rfl
   have hcz5_5 : w3.cell? ⟨gb511, 5, none⟩ = some (.string a0_5) := (blk_cell BK511.out 5).trans rfl
   have hcz5_6 : w3.cell? ⟨gb511, 6, none⟩ = some (.slice A0_6 l0_6.length c0_6) := (blk_cell BK511.out 6).trans rfl
   have hfz5_0 := blk_frozen BK511.out 0
   have hfz5_1 := blk_frozen BK511.out 1
   have hfz5_2 := blk_frozen BK511.out 2
   have hfz5_3 := blk_frozen BK511.out 3
   have hfz5_4 := blk_frozen BK511.out 4
   have hfz5_5 := blk_frozen BK511.out 5
   have hfz5_6 := blk_frozen BK511.out 6
   go_wp2
   go_meet
   case rel => exact ⟨_, (true), (by first | rfl | (simp; done) | (simp [*]; done)), H', ⟨by first | omega | exact Nat.le_refl _⟩, ⟨by (with_reducible repeat (first | refine blk_drewN ?_ _ | refine blk_drew ?_ | refine blk_alloc ?_ _)); exact BK511.out⟩, ⟨by repeat (first | (with_reducible first | exact HB.out | apply below_alloc | apply pw_below_drewN | apply below_drew1 | refine below_set ?_ GE511.out) | exact HB.out)⟩⟩
  ·
   rw [if_neg c4] at H
   have c4b0 : decide (a0_2 < 0) = false := decide_eq_false c4
   clear c4
   (first | rw [c4b0] | (simp only [i64_w, i32_w]; rw [c4b0]) | skip)
   by_cases c6 : a0_2 > 511
   ·
    rw [if_pos c6] at H
    have c6b0 : decide (511 < a0_2) = true := decide_eq_true c6
    clear c6
    have H' := Aside0.mk H
    clear H
    have hcz7_0 : w3.cell? ⟨gb511, 0, none⟩ = some (.int .i64 a0_0) := (blk_cell BK511.out 0).trans rfl
    have hcz7_1 : w3.cell? ⟨gb511, 1, none⟩ = some (.int .i64 a0_1) := (blk_cell BK511.out 1).trans rfl
    have hcz7_2 : w3.cell? ⟨gb511, 2, none⟩ = some (.int .i64 a0_2) := (blk_cell BK511.out 2).trans rfl
    have hcz7_3 : w3.cell? ⟨gb511, 3, none⟩ = some (.int .i64 a0_3) := (blk_cell BK511.out 3).trans rfl
    have hcz7_4 : w3.cell? ⟨gb511, 4, none⟩ = some (.int .i64 a0_4) := (blk_cell BK511.out 4).trans rfl
    have hcz7_5 : w3.cell? ⟨gb511, 5, none⟩ = some (.string a0_5) := (blk_cell BK511.out 5).trans rfl
    have hcz7_6 : w3.cell? ⟨gb511, 6, none⟩ = some (.slice A0_6 l0_6.length c0_6) := (blk_cell BK511.out 6).trans rfl
    have hfz7_0 := blk_frozen BK511.out 0
    have hfz7_1 := blk_frozen BK511.out 1
    have hfz7_2 := blk_frozen BK511.out 2
    have hfz7_3 := blk_frozen BK511.out 3
    have hfz7_4 := blk_frozen BK511.out 4
    have hfz7_5 := blk_frozen BK511.out 5
    have hfz7_6 := blk_frozen BK511.out 6
    go_wp2
    go_meet
    case rel => exact ⟨_, (true), (by first | rfl | (simp; done) | (simp [*]; done)), H', ⟨by first | omega | exact Nat.le_refl _⟩, ⟨by (with_reducible repeat (first | refine blk_drewN ?_ _ | refine blk_drew ?_ | refine blk_alloc ?_ _)); exact BK511.out⟩, ⟨by repeat (first | (with_reducible first | exact HB.out | apply below_alloc | apply pw_below_drewN | apply below_drew1 | refine below_set ?_ GE511.out) | exact HB.out)⟩⟩
   ·
    rw [if_neg c6] at H
    have c6b0 : decide (511 < a0_2) = false := decide_eq_false c6
    clear c6
    by_cases c8 : a0_3 < 0
    ·
     rw [if_pos c8] at H
     have c8b0 : decide (a0_3 < 0) = true := decide_eq_true c8
     clear c8
     have H' := Aside0.mk H
     clear H
     have hcz9_0 : w3.cell? ⟨gb511, 0, none⟩ = some (.int .i64 a0_0) := (blk_cell BK511.out 0).trans rfl
     have hcz9_1 : w3.cell? ⟨gb511, 1, none⟩ = some (.int .i64 a0_1) := (blk_cell BK511.out 1).trans rfl
     have hcz9_2 : w3.cell? ⟨gb511, 2, none⟩ = some (.int .i64 a0_2) := (blk_cell BK511.out 2).trans rfl
     have hcz9_3 : w3.cell? ⟨gb511, 3, none⟩ = some (.int .i64 a0_3) := (blk_cell BK511.out 3).trans rfl
     have hcz9_4 : w3.cell? ⟨gb511, 4, none⟩ = some (.int .i64 a0_4) := (blk_cell BK511.out 4).trans rfl
     have hcz9_5 : w3.cell? ⟨gb511, 5, none⟩ = some (.string a0_5) := (blk_cell BK511.out 5).trans rfl
     have hcz9_6 : w3.cell? ⟨gb511, 6, none⟩ = some (.slice A0_6 l0_6.length c0_6) := (blk_cell BK511.out 6).trans rfl
     have hfz9_0 := blk_frozen BK511.out 0
     have hfz9_1 := blk_frozen BK511.out 1
     have hfz9_2 := blk_frozen BK511.out 2
     have hfz9_3 := blk_frozen BK511.out 3
     have hfz9_4 := blk_frozen BK511.out 4
     have hfz9_5 := blk_frozen BK511.out 5
     have hfz9_6 := blk_frozen BK511.out 6
     go_wp2
     go_meet
     case rel => exact ⟨_, (true), (by first | rfl | (simp; done) | (simp [*]; done)), H', ⟨by first | omega | exact Nat.le_refl _⟩, ⟨by (with_reducible repeat (first | refine blk_drewN ?_ _ | refine blk_drew ?_ | refine blk_alloc ?_ _)); exact BK511.out⟩, ⟨by repeat (first | (with_reducible first | exact HB.out | apply below_alloc | apply pw_below_drewN | apply below_drew1 | refine below_set ?_ GE511.out) | exact HB.out)⟩⟩
    ·
     rw [if_neg c8] at H
     have c8b0 : decide (a0_3 < 0) = false := decide_eq_false c8
     clear c8
     by_cases c10 : a0_3 > 65535
     ·
      rw [if_pos c10] at H
      have c10b0 : decide (65535 < a0_3) = true := decide_eq_true c10
      clear c10
      have H' := Aside0.mk H
      clear H
      have hcz11_0 : w3.cell? ⟨gb511, 0, none⟩ = some (.int .i64 a0_0) := (blk_cell BK511.out 0).trans rfl
      have hcz11_1 : w3.cell? ⟨gb511, 1, none⟩ = some (.int .i64 a0_1) := (blk_cell BK511.out 1).trans rfl
      have hcz11_2 : w3.cell? ⟨gb511, 2, none⟩ = some (.int .i64 a0_2) := (blk_cell BK511.out 2).trans rfl
      have hcz11_3 : w3.cell? ⟨gb511, 3, none⟩ = some (.int .i64 a0_3) := (blk_cell BK511.out 3).trans rfl
      have hcz11_4 : w3.cell? ⟨gb511, 4, none⟩ = some (.int .i64 a0_4) := (blk_cell BK511.out 4).trans rfl
      have hcz11_5 : w3.cell? ⟨gb511, 5, none⟩ = some (.string a0_5) := (blk_cell BK511.out 5).trans rfl
      have hcz11_6 : w3.cell? ⟨gb511, 6, none⟩ = some (.slice A0_6 l0_6.length c0_6) := (blk_cell BK511.out 6).trans rfl
      have hfz11_0 := blk_frozen BK511.out 0
      have hfz11_1 := blk_frozen BK511.out 1
      have hfz11_2 := blk_frozen BK511.out 2
      have hfz11_3 := blk_frozen BK511.out 3
      have hfz11_4 := blk_frozen BK511.out 4
      have hfz11_5 := blk_frozen BK511.out 5
      have hfz11_6 := blk_frozen BK511.out 6
      go_wp2
      go_meet
      case rel => exact ⟨_, (true), (by first | rfl | (simp; done) | (simp [*]; done)), H', ⟨by first | omega | exact Nat.le_refl _⟩, ⟨by (with_reducible repeat (first | refine blk_drewN ?_ _ | refine blk_drew ?_ | refine blk_alloc ?_ _)); exact BK511.out⟩, ⟨by repeat (first | (with_reducible first | exact HB.out | apply below_alloc | apply pw_below_drewN | apply below_drew1 | refine below_set ?_ GE511.out) | exact HB.out)⟩⟩
     ·
      rw [if_neg c10] at H
      have c10b0 : decide (65535 < a0_3) = false := decide_eq_false c10
      clear c10
      by_cases c12 : a0_4 < 0
      ·
       rw [if_pos c12] at H
       have c12b0 : decide (a0_4 < 0) = true := decide_eq_true c12
       clear c12
       have H' := Aside0.mk H
       clear H
       have hcz13_0 : w3.cell? ⟨gb511, 0, none⟩ = some (.int .i64 a0_0) := (blk_cell BK511.out 0).trans rfl
       have hcz13_1 : w3.cell? ⟨gb511, 1, none⟩ = some (.int .i64 a0_1) := (blk_cell BK511.out 1).trans rfl
       have hcz13_2 : w3.cell? ⟨gb511, 2, none⟩ = some (.int .i64 a0_2) := (blk_cell BK511.out 2).trans rfl
       have hcz13_3 : w3.cell? ⟨gb511, 3, none⟩ = some (.int .i64 a0_3) := (blk_cell BK511.out 3).trans rfl
       have hcz13_4 : w3.cell? ⟨gb511, 4, none⟩ = some (.int .i64 a0_4) := (blk_cell BK511.out 4).trans rfl
       have hcz13_5 : w3.cell? ⟨gb511, 5, none⟩ = some (.string a0_5) := (blk_cell BK511.out 5).trans rfl
       have hcz13_6 : w3.cell? ⟨gb511, 6, none⟩ = some (.slice A0_6 l0_6.length c0_6) := (blk_cell BK511.out 6).trans rfl
       have hfz13_0 := blk_frozen BK511.out 0
       have hfz13_1 := blk_frozen BK511.out 1
       have hfz13_2 := blk_frozen BK511.out 2
       have hfz13_3 := blk_frozen BK511.out 3
       have hfz13_4 := blk_frozen BK511.out 4
       have hfz13_5 := blk_frozen BK511.out 5
       have hfz13_6 := blk_frozen BK511.out 6
       go_wp2
       go_meet
       case rel => exact ⟨_, (true), (by first | rfl | (simp; done) | (simp [*]; done)), H', ⟨by first | omega | exact Nat.le_refl _⟩, ⟨by (with_reducible repeat (first | refine blk_drewN ?_ _ | refine blk_drew ?_ | refine blk_alloc ?_ _)); exact BK511.out⟩, ⟨by repeat (first | (with_reducible first | exact HB.out | apply below_alloc | apply pw_below_drewN | apply below_drew1 | refine below_set ?_ GE511.out) | exact HB.out)⟩⟩
      ·
       rw [if_neg c12] at H
       have c12b0 : decide (a0_4 < 0) = false := decide_eq_false c12
       clear c12
       have H' := Aside0.mk H
       clear H
       have hcz14_0 : w3.cell? ⟨gb511, 0, none⟩ = some (.int .i64 a0_0) := (blk_cell BK511.out 0).trans rfl
       have hcz14_1 : w3.cell? ⟨gb511, 1, none⟩ = some (.int .i64 a0_1) := (blk_cell BK511.out 1).trans rfl
       have hcz14_2 : w3.cell? ⟨gb511, 2, none⟩ = some (.int .i64 a0_2) := (blk_cell BK511.out 2).trans rfl
       have hcz14_3 : w3.cell? ⟨gb511, 3, none⟩ = some (.int .i64 a0_3) := (blk_cell BK511.out 3).trans rfl
       have hcz14_4 : w3.cell? ⟨gb511, 4, none⟩ = some (.int .i64 a0_4) := (blk_cell BK511.out 4).trans rfl
       have hcz14_5 : w3.cell? ⟨gb511, 5, none⟩ = some (.string a0_5) := (blk_cell BK511.out 5).trans rfl
       have hcz14_6 : w3.cell? ⟨gb511, 6, none⟩ = some (.slice A0_6 l0_6.length c0_6) := (blk_cell BK511.out 6).trans rfl
       have hfz14_0 := blk_frozen BK511.out 0
       have hfz14_1 := blk_frozen BK511.out 1
       have hfz14_2 := blk_frozen BK511.out 2
       have hfz14_3 := blk_frozen BK511.out 3
       have hfz14_4 := blk_frozen BK511.out 4
       have hfz14_5 := blk_frozen BK511.out 5
       have hfz14_6 := blk_frozen BK511.out 6
       go_wp2
       go_meet
       case rel => exact ⟨_, (decide (a0_4 > 1099511627776)), (by first | rfl | (simp; done) | (simp [*]; done)), H', ⟨by first | omega | exact Nat.le_refl _⟩, ⟨by (with_reducible repeat (first | refine blk_drewN ?_ _ | refine blk_drew ?_ | refine blk_alloc ?_ _)); exact BK511.out⟩, ⟨by repeat (first | (with_reducible first | exact HB.out | apply below_alloc | apply pw_below_drewN | apply below_drew1 | refine below_set ?_ GE511.out) | exact HB.out)⟩⟩
 case rest =>
  clear HC2
  try clear c1
  try clear p2
  try clear c4
  try clear c4b0
  try clear c5
  try clear c6
  try clear c6b0
  try clear c8
  try clear c8b0
  try clear c10
  try clear c10b0
  try clear c12
  try clear c12b0
  try clear hcz11_0
  try clear hcz11_1
  try clear hcz11_2
  try clear hcz11_3
  try clear hcz11_4
  try clear hcz11_5
  try clear hcz11_6
  try clear hcz13_0
  try clear hcz13_1
  try clear hcz13_2
  try clear hcz13_3
  try clear hcz13_4
  try clear hcz13_5
  try clear hcz13_6
  try clear hcz14_0
  try clear hcz14_1
  try clear hcz14_2
  try clear hcz14_3
  try clear hcz14_4
  try clear hcz14_5
  try clear hcz14_6
  try clear hcz5_0
  try clear hcz5_1
  try clear hcz5_2
  try clear hcz5_3
  try clear hcz5_4
  try clear hcz5_5
  try clear hcz5_6
  try clear hcz7_0
  try clear hcz7_1
  try clear hcz7_2
  try clear hcz7_3
  try clear hcz7_4
  try clear hcz7_5
  try clear hcz7_6
  try clear hcz9_0
  try clear hcz9_1
  try clear hcz9_2
  try clear hcz9_3
  try clear hcz9_4
  try clear hcz9_5
  try clear hcz9_6
  try clear hfz11_0
  try clear hfz11_1
  try clear hfz11_2
  try clear hfz11_3
  try clear hfz11_4
  try clear hfz11_5
  try clear hfz11_6
  try clear hfz13_0
  try clear hfz13_1
  try clear hfz13_2
  try clear hfz13_3
  try clear hfz13_4
  try clear hfz13_5
  try clear hfz13_6
  try clear hfz14_0
  try clear hfz14_1
  try clear hfz14_2
  try clear hfz14_3
  try clear hfz14_4
  try clear hfz14_5
  try clear hfz14_6
  try clear hfz5_0
  try clear hfz5_1
  try clear hfz5_2
  try clear hfz5_3
  try clear hfz5_4
  try clear hfz5_5
  try clear hfz5_6
  try clear hfz7_0
  try clear hfz7_1
  try clear hfz7_2
  try clear hfz7_3
  try clear hfz7_4
  try clear hfz7_5
  try clear hfz7_6
  try clear hfz9_0
  try clear hfz9_1
  try clear hfz9_2
  try clear hfz9_3
  try clear hfz9_4
  try clear hfz9_5
  try clear hfz9_6
  obtain ⟨kq, x30_1, rfl, HA, HJ1, BK511, HB⟩ := hcut
  cases kq with
  | zero => exact absurd HA.out (by simp [tree_plain.j0])
  | succ kj1 =>
   have H := HA.out
   clear HA
   simp only [tree_plain.j0] at H
   by_cases c15 : x30_1 = true
   ·
    subst c15
    have H1 : (some false) = some r := by rw [if_pos rfl] at H; exact H
    clear H
    have H := H1
    clear H1
    obtain rfl := Option.some.inj H
    go_wp2
    go_ret
    exact ⟨by first | rfl | (simp [errW_none, errW_some] <;> rfl) | (simp [*, errW_none, errW_some] <;> rfl), by repeat (first | (with_reducible first | exact HB.out | apply below_alloc | apply pw_below_drewN | apply below_drew1 | refine below_set ?_ GE511.out) | exact HB.out)⟩
   ·
    replace c15 := Bool.eq_false_iff.mpr c15
    subst c15
    have H1 : (if a0_1 = 1 then (if a0_5.toList = ([] : List UInt8) then ((tree_Entries.f kj1 l0_6).bind fun t512 => (some t512)) else (some false)) else (if a0_1 = 2 then (if (a0_5.size : Int) ≤ 4096 then (some ((l0_6.length : Int) == 0)) else (some false)) else (if a0_1 = 3 then (if a0_5.toList = ([] : List UInt8) then (some false) else (if (a0_5.size : Int) ≤ 256 then ((strings_IndexByte.f a0_5 0).bind fun t513 => (if t513 < 0 then (some ((l0_6.length : Int) == 0)) else (some false))) else (some false))) else (some false)))) = some r := by rw [if_neg (show ¬ (false = true) by decide)] at H; exact H
    clear H
    have H := H1
    clear H1
    by_cases c16 : a0_1 = 1
    ·
     rw [if_pos c16] at H
     have c16b0 : (a0_1 == 1) = true := beq_iff_eq.mpr c16
     have c16b1 : (a0_1 != 1) = false := bne_eq_false_iff_eq.mpr c16
     clear c16
     by_cases c17 : a0_5.toList = ([] : List UInt8)
     ·
      rw [if_pos c17] at H
      have c17b0 : (a0_5.toList == ([] : List UInt8)) = true := beq_iff_eq.mpr c17
      have c17b1 : (a0_5.toList != ([] : List UInt8)) = false := bne_eq_false_iff_eq.mpr c17
      clear c17
      replace H := Option.bind_eq_some_iff.mp H
      obtain ⟨t512, A180, H⟩ := H
      replace H : (some t512) = some r := H
      have A18 := Aside0.mk A180
      clear A180
      obtain rfl := Option.some.inj H
      have hcz19_0 : wc.cell? ⟨gb511, 0, none⟩ = some (.int .i64 a0_0) := (blk_cell BK511.out 0).trans rfl
      have hcz19_1 : wc.cell? ⟨gb511, 1, none⟩ = some (.int .i64 a0_1) := (blk_cell BK511.out 1).trans rfl
      have hcz19_2 : wc.cell? ⟨gb511, 2, none⟩ = some (.int .i64 a0_2) := (blk_cell BK511.out 2).trans rfl
      have hcz19_3 : wc.cell? ⟨gb511, 3, none⟩ = some (.int .i64 a0_3) := (blk_cell BK511.out 3).trans rfl
      have hcz19_4 : wc.cell? ⟨gb511, 4, none⟩ = some (.int .i64 a0_4) := (blk_cell BK511.out 4).trans rfl
      have hcz19_5 : wc.cell? ⟨gb511, 5, none⟩ = some (.string a0_5) := (blk_cell BK511.out 5).trans rfl
      have hcz19_6 : wc.cell? ⟨gb511, 6, none⟩ = some (.slice A0_6 l0_6.length c0_6) := (blk_cell BK511.out 6).trans rfl
      have hfz19_0 := blk_frozen BK511.out 0
      have hfz19_1 := blk_frozen BK511.out 1
      have hfz19_2 := blk_frozen BK511.out 2
      have hfz19_3 := blk_frozen BK511.out 3
      have hfz19_4 := blk_frozen BK511.out 4
      have hfz19_5 := blk_frozen BK511.out 5
      have hfz19_6 := blk_frozen BK511.out 6
      go_wp2_with (first | (go_at_call 38; (with_reducible refine (tree_Entries.calls kj1 _ _ l0_6 t512 _ ?side1 ?side2 A18.out).mono ?_); (case side1 => repeat (first | exact (Kd.C_below HR0_6.out HB.out) | (with_reducible refine Kd.C_alloc ?_ _) | (with_reducible refine Kd.C_drewN ?_ _) | (with_reducible refine Kd.C_drew ?_))); (case side2 => exact HC0_6.out); rintro e w20 ⟨rfl, hb⟩; have n0_ := Aside0.mk (blk_below (g := gb511) (o := .cells #[.int .i64 a0_0, .int .i64 a0_1, .int .i64 a0_2, .int .i64 a0_3, .int .i64 a0_4, .string a0_5, .slice A0_6 l0_6.length c0_6] 44 (0, 0)) (by (with_reducible repeat (first | refine blk_drewN ?_ _ | refine blk_drew ?_ | refine blk_alloc ?_ _)); exact BK511.out) hb); have n1_ := Aside0.mk (below_step (by repeat (first | (with_reducible first | exact HB.out | apply below_alloc | apply pw_below_drewN | apply below_drew1 | refine below_set ?_ GE511.out) | exact HB.out)) hb); clear BK511; clear HB; have BK511 := n0_; have HB := n1_; clear n0_ n1_; (try clear hb); (try clear hb2); (try clear hk); (try clear hi)))
      go_ret
      exact ⟨by first | rfl | (simp [errW_none, errW_some] <;> rfl) | (simp [*, errW_none, errW_some] <;> rfl), by repeat (first | (with_reducible first | exact HB.out | apply below_alloc | apply pw_below_drewN | apply below_drew1 | refine below_set ?_ GE511.out) | exact HB.out)⟩
     ·
      rw [if_neg c17] at H
      have c17b0 : (a0_5.toList == ([] : List UInt8)) = false := beq_eq_false_iff_ne.mpr c17
      have c17b1 : (a0_5.toList != ([] : List UInt8)) = true := bne_iff_ne.mpr c17
      obtain rfl := Option.some.inj H
      have hcz21_0 : wc.cell? ⟨gb511, 0, none⟩ = some (.int .i64 a0_0) := (blk_cell BK511.out 0).trans rfl
      have hcz21_1 : wc.cell? ⟨gb511, 1, none⟩ = some (.int .i64 a0_1) := (blk_cell BK511.out 1).trans rfl
      have hcz21_2 : wc.cell? ⟨gb511, 2, none⟩ = some (.int .i64 a0_2) := (blk_cell BK511.out 2).trans rfl
      have hcz21_3 : wc.cell? ⟨gb511, 3, none⟩ = some (.int .i64 a0_3) := (blk_cell BK511.out 3).trans rfl
      have hcz21_4 : wc.cell? ⟨gb511, 4, none⟩ = some (.int .i64 a0_4) := (blk_cell BK511.out 4).trans rfl
      have hcz21_5 : wc.cell? ⟨gb511, 5, none⟩ = some (.string a0_5) := (blk_cell BK511.out 5).trans rfl
      have hcz21_6 : wc.cell? ⟨gb511, 6, none⟩ = some (.slice A0_6 l0_6.length c0_6) := (blk_cell BK511.out 6).trans rfl
      have hfz21_0 := blk_frozen BK511.out 0
      have hfz21_1 := blk_frozen BK511.out 1
      have hfz21_2 := blk_frozen BK511.out 2
      have hfz21_3 := blk_frozen BK511.out 3
      have hfz21_4 := blk_frozen BK511.out 4
      have hfz21_5 := blk_frozen BK511.out 5
      have hfz21_6 := blk_frozen BK511.out 6
      go_wp2
      go_ret
      exact ⟨by first | rfl | (simp [errW_none, errW_some] <;> rfl) | (simp [*, errW_none, errW_some] <;> rfl), by repeat (first | (with_reducible first | exact HB.out | apply below_alloc | apply pw_below_drewN | apply below_drew1 | refine below_set ?_ GE511.out) | exact HB.out)⟩
    ·
     rw [if_neg c16] at H
     have c16b0 : (a0_1 == 1) = false := beq_eq_false_iff_ne.mpr c16
     have c16b1 : (a0_1 != 1) = true := bne_iff_ne.mpr c16
     by_cases c22 : a0_1 = 2
     ·
      rw [if_pos c22] at H
      have c22b0 : (a0_1 == 2) = true := beq_iff_eq.mpr c22
      have c22b1 : (a0_1 != 2) = false := bne_eq_false_iff_eq.mpr c22
      clear c22
      by_cases c23 : (a0_5.size : Int) ≤ 4096
      ·
       rw [if_pos c23] at H
       have c23b0 : decide ((a0_5.size : Int) ≤ 4096) = true := decide_eq_true c23
       have c23b1 : decide (a0_5.size ≤ 4096) = true := decide_eq_true (by omega)
       clear c23
       obtain rfl := Option.some.inj H
       have hcz24_0 : wc.cell? ⟨gb511, 0, none⟩ = some (.int .i64 a0_0) := (blk_cell BK511.out 0).trans rfl
       have hcz24_1 : wc.cell? ⟨gb511, 1, none⟩ = some (.int .i64 a0_1) := (blk_cell BK511.out 1).trans rfl
       have hcz24_2 : wc.cell? ⟨gb511, 2, none⟩ = some (.int .i64 a0_2) := (blk_cell BK511.out 2).trans rfl
       have hcz24_3 : wc.cell? ⟨gb511, 3, none⟩ = some (.int .i64 a0_3) := (blk_cell BK511.out 3).trans rfl
       have hcz24_4 : wc.cell? ⟨gb511, 4, none⟩ = some (.int .i64 a0_4) := (blk_cell BK511.out 4).trans rfl
       have hcz24_5 : wc.cell? ⟨gb511, 5, none⟩ = some (.string a0_5) := (blk_cell BK511.out 5).trans rfl
       have hcz24_6 : wc.cell? ⟨gb511, 6, none⟩ = some (.slice A0_6 l0_6.length c0_6) := (blk_cell BK511.out 6).trans rfl
       have hfz24_0 := blk_frozen BK511.out 0
       have hfz24_1 := blk_frozen BK511.out 1
       have hfz24_2 := blk_frozen BK511.out 2
       have hfz24_3 := blk_frozen BK511.out 3
       have hfz24_4 := blk_frozen BK511.out 4
       have hfz24_5 := blk_frozen BK511.out 5
       have hfz24_6 := blk_frozen BK511.out 6
       go_wp2
       go_ret
       exact ⟨by first | rfl | (simp [errW_none, errW_some] <;> rfl) | (simp [*, errW_none, errW_some] <;> rfl), by repeat (first | (with_reducible first | exact HB.out | apply below_alloc | apply pw_below_drewN | apply below_drew1 | refine below_set ?_ GE511.out) | exact HB.out)⟩
      ·
       rw [if_neg c23] at H
       have c23b0 : decide ((a0_5.size : Int) ≤ 4096) = false := decide_eq_false c23
       have c23b1 : decide (a0_5.size ≤ 4096) = false := decide_eq_false (by omega)
       clear c23
       obtain rfl := Option.some.inj H
       have hcz25_0 : wc.cell? ⟨gb511, 0, none⟩ = some (.int .i64 a0_0) := (blk_cell BK511.out 0).trans rfl
       have hcz25_1 : wc.cell? ⟨gb511, 1, none⟩ = some (.int .i64 a0_1) := (blk_cell BK511.out 1).trans rfl
       have hcz25_2 : wc.cell? ⟨gb511, 2, none⟩ = some (.int .i64 a0_2) := (blk_cell BK511.out 2).trans rfl
       have hcz25_3 : wc.cell? ⟨gb511, 3, none⟩ = some (.int .i64 a0_3) := (blk_cell BK511.out 3).trans rfl
       have hcz25_4 : wc.cell? ⟨gb511, 4, none⟩ = some (.int .i64 a0_4) := (blk_cell BK511.out 4).trans rfl
       have hcz25_5 : wc.cell? ⟨gb511, 5, none⟩ = some (.string a0_5) := (blk_cell BK511.out 5).trans rfl
       have hcz25_6 : wc.cell? ⟨gb511, 6, none⟩ = some (.slice A0_6 l0_6.length c0_6) := (blk_cell BK511.out 6).trans rfl
       have hfz25_0 := blk_frozen BK511.out 0
       have hfz25_1 := blk_frozen BK511.out 1
       have hfz25_2 := blk_frozen BK511.out 2
       have hfz25_3 := blk_frozen BK511.out 3
       have hfz25_4 := blk_frozen BK511.out 4
       have hfz25_5 := blk_frozen BK511.out 5
       have hfz25_6 := blk_frozen BK511.out 6
       go_wp2
       go_ret
       exact ⟨by first | rfl | (simp [errW_none, errW_some] <;> rfl) | (simp [*, errW_none, errW_some] <;> rfl), by repeat (first | (with_reducible first | exact HB.out | apply below_alloc | apply pw_below_drewN | apply below_drew1 | refine below_set ?_ GE511.out) | exact HB.out)⟩
     ·
      rw [if_neg c22] at H
      have c22b0 : (a0_1 == 2) = false := beq_eq_false_iff_ne.mpr c22
      have c22b1 : (a0_1 != 2) = true := bne_iff_ne.mpr c22
      by_cases c26 : a0_1 = 3
      ·
       rw [if_pos c26] at H
       have c26b0 : (a0_1 == 3) = true := beq_iff_eq.mpr c26
       have c26b1 : (a0_1 != 3) = false := bne_eq_false_iff_eq.mpr c26
       clear c26
       by_cases c27 : a0_5.toList = ([] : List UInt8)
       ·
        rw [if_pos c27] at H
        have c27b0 : (a0_5.toList == ([] : List UInt8)) = true := beq_iff_eq.mpr c27
        have c27b1 : (a0_5.toList != ([] : List UInt8)) = false := bne_eq_false_iff_eq.mpr c27
        clear c27
        obtain rfl := Option.some.inj H
        have hcz28_0 : wc.cell? ⟨gb511, 0, none⟩ = some (.int .i64 a0_0) := (blk_cell BK511.out 0).trans rfl
        have hcz28_1 : wc.cell? ⟨gb511, 1, none⟩ = some (.int .i64 a0_1) := (blk_cell BK511.out 1).trans rfl
        have hcz28_2 : wc.cell? ⟨gb511, 2, none⟩ = some (.int .i64 a0_2) := (blk_cell BK511.out 2).trans rfl
        have hcz28_3 : wc.cell? ⟨gb511, 3, none⟩ = some (.int .i64 a0_3) := (blk_cell BK511.out 3).trans rfl
        have hcz28_4 : wc.cell? ⟨gb511, 4, none⟩ = some (.int .i64 a0_4) := (blk_cell BK511.out 4).trans rfl
        have hcz28_5 : wc.cell? ⟨gb511, 5, none⟩ = some (.string a0_5) := (blk_cell BK511.out 5).trans rfl
        have hcz28_6 : wc.cell? ⟨gb511, 6, none⟩ = some (.slice A0_6 l0_6.length c0_6) := (blk_cell BK511.out 6).trans rfl
        have hfz28_0 := blk_frozen BK511.out 0
        have hfz28_1 := blk_frozen BK511.out 1
        have hfz28_2 := blk_frozen BK511.out 2
        have hfz28_3 := blk_frozen BK511.out 3
        have hfz28_4 := blk_frozen BK511.out 4
        have hfz28_5 := blk_frozen BK511.out 5
        have hfz28_6 := blk_frozen BK511.out 6
        go_wp2
        go_ret
        exact ⟨by first | rfl | (simp [errW_none, errW_some] <;> rfl) | (simp [*, errW_none, errW_some] <;> rfl), by repeat (first | (with_reducible first | exact HB.out | apply below_alloc | apply pw_below_drewN | apply below_drew1 | refine below_set ?_ GE511.out) | exact HB.out)⟩
       ·
        rw [if_neg c27] at H
        have c27b0 : (a0_5.toList == ([] : List UInt8)) = false := beq_eq_false_iff_ne.mpr c27
        have c27b1 : (a0_5.toList != ([] : List UInt8)) = true := bne_iff_ne.mpr c27
        by_cases c29 : (a0_5.size : Int) ≤ 256
        ·
         rw [if_pos c29] at H
         have c29b0 : decide ((a0_5.size : Int) ≤ 256) = true := decide_eq_true c29
         have c29b1 : decide (a0_5.size ≤ 256) = true := decide_eq_true (by omega)
         clear c29
         replace H := Option.bind_eq_some_iff.mp H
         obtain ⟨t513, A300, H⟩ := H
         replace H : (if t513 < 0 then (some ((l0_6.length : Int) == 0)) else (some false)) = some r := H
         have A30 := Aside0.mk A300
         clear A300
         by_cases c31 : t513 < 0
         ·
          rw [if_pos c31] at H
          have c31b0 : decide (t513 < 0) = true := decide_eq_true c31
          clear c31
          obtain rfl := Option.some.inj H
          have hcz32_0 : wc.cell? ⟨gb511, 0, none⟩ = some (.int .i64 a0_0) := (blk_cell BK511.out 0).trans rfl
          have hcz32_1 : wc.cell? ⟨gb511, 1, none⟩ = some (.int .i64 a0_1) := (blk_cell BK511.out 1).trans rfl
          have hcz32_2 : wc.cell? ⟨gb511, 2, none⟩ = some (.int .i64 a0_2) := (blk_cell BK511.out 2).trans rfl
          have hcz32_3 : wc.cell? ⟨gb511, 3, none⟩ = some (.int .i64 a0_3) := (blk_cell BK511.out 3).trans rfl
          have hcz32_4 : wc.cell? ⟨gb511, 4, none⟩ = some (.int .i64 a0_4) := (blk_cell BK511.out 4).trans rfl
          have hcz32_5 : wc.cell? ⟨gb511, 5, none⟩ = some (.string a0_5) := (blk_cell BK511.out 5).trans rfl
          have hcz32_6 : wc.cell? ⟨gb511, 6, none⟩ = some (.slice A0_6 l0_6.length c0_6) := (blk_cell BK511.out 6).trans rfl
          have hfz32_0 := blk_frozen BK511.out 0
          have hfz32_1 := blk_frozen BK511.out 1
          have hfz32_2 := blk_frozen BK511.out 2
          have hfz32_3 := blk_frozen BK511.out 3
          have hfz32_4 := blk_frozen BK511.out 4
          have hfz32_5 := blk_frozen BK511.out 5
          have hfz32_6 := blk_frozen BK511.out 6
          go_wp2_with (first | (go_at_call 71; (with_reducible refine (strings_IndexByte.calls a0_5 0 t513 _ A30.out).mono ?_); rintro e w' ⟨rfl, ⟨nd, rfl⟩⟩))
          go_ret
          exact ⟨by first | rfl | (simp [errW_none, errW_some] <;> rfl) | (simp [*, errW_none, errW_some] <;> rfl), by repeat (first | (with_reducible first | exact HB.out | apply below_alloc | apply pw_below_drewN | apply below_drew1 | refine below_set ?_ GE511.out) | exact HB.out)⟩
         ·
          rw [if_neg c31] at H
          have c31b0 : decide (t513 < 0) = false := decide_eq_false c31
          clear c31
          obtain rfl := Option.some.inj H
          have hcz33_0 : wc.cell? ⟨gb511, 0, none⟩ = some (.int .i64 a0_0) := (blk_cell BK511.out 0).trans rfl
          have hcz33_1 : wc.cell? ⟨gb511, 1, none⟩ = some (.int .i64 a0_1) := (blk_cell BK511.out 1).trans rfl
          have hcz33_2 : wc.cell? ⟨gb511, 2, none⟩ = some (.int .i64 a0_2) := (blk_cell BK511.out 2).trans rfl
          have hcz33_3 : wc.cell? ⟨gb511, 3, none⟩ = some (.int .i64 a0_3) := (blk_cell BK511.out 3).trans rfl
          have hcz33_4 : wc.cell? ⟨gb511, 4, none⟩ = some (.int .i64 a0_4) := (blk_cell BK511.out 4).trans rfl
          have hcz33_5 : wc.cell? ⟨gb511, 5, none⟩ = some (.string a0_5) := (blk_cell BK511.out 5).trans rfl
          have hcz33_6 : wc.cell? ⟨gb511, 6, none⟩ = some (.slice A0_6 l0_6.length c0_6) := (blk_cell BK511.out 6).trans rfl
          have hfz33_0 := blk_frozen BK511.out 0
          have hfz33_1 := blk_frozen BK511.out 1
          have hfz33_2 := blk_frozen BK511.out 2
          have hfz33_3 := blk_frozen BK511.out 3
          have hfz33_4 := blk_frozen BK511.out 4
          have hfz33_5 := blk_frozen BK511.out 5
          have hfz33_6 := blk_frozen BK511.out 6
          go_wp2_with (first | (go_at_call 71; (with_reducible refine (strings_IndexByte.calls a0_5 0 t513 _ A30.out).mono ?_); rintro e w' ⟨rfl, ⟨nd, rfl⟩⟩))
          go_ret
          exact ⟨by first | rfl | (simp [errW_none, errW_some] <;> rfl) | (simp [*, errW_none, errW_some] <;> rfl), by repeat (first | (with_reducible first | exact HB.out | apply below_alloc | apply pw_below_drewN | apply below_drew1 | refine below_set ?_ GE511.out) | exact HB.out)⟩
        ·
         rw [if_neg c29] at H
         have c29b0 : decide ((a0_5.size : Int) ≤ 256) = false := decide_eq_false c29
         have c29b1 : decide (a0_5.size ≤ 256) = false := decide_eq_false (by omega)
         clear c29
         obtain rfl := Option.some.inj H
         have hcz34_0 : wc.cell? ⟨gb511, 0, none⟩ = some (.int .i64 a0_0) := (blk_cell BK511.out 0).trans rfl
         have hcz34_1 : wc.cell? ⟨gb511, 1, none⟩ = some (.int .i64 a0_1) := (blk_cell BK511.out 1).trans rfl
         have hcz34_2 : wc.cell? ⟨gb511, 2, none⟩ = some (.int .i64 a0_2) := (blk_cell BK511.out 2).trans rfl
         have hcz34_3 : wc.cell? ⟨gb511, 3, none⟩ = some (.int .i64 a0_3) := (blk_cell BK511.out 3).trans rfl
         have hcz34_4 : wc.cell? ⟨gb511, 4, none⟩ = some (.int .i64 a0_4) := (blk_cell BK511.out 4).trans rfl
         have hcz34_5 : wc.cell? ⟨gb511, 5, none⟩ = some (.string a0_5) := (blk_cell BK511.out 5).trans rfl
         have hcz34_6 : wc.cell? ⟨gb511, 6, none⟩ = some (.slice A0_6 l0_6.length c0_6) := (blk_cell BK511.out 6).trans rfl
         have hfz34_0 := blk_frozen BK511.out 0
         have hfz34_1 := blk_frozen BK511.out 1
         have hfz34_2 := blk_frozen BK511.out 2
         have hfz34_3 := blk_frozen BK511.out 3
         have hfz34_4 := blk_frozen BK511.out 4
         have hfz34_5 := blk_frozen BK511.out 5
         have hfz34_6 := blk_frozen BK511.out 6
         go_wp2
         go_ret
         exact ⟨by first | rfl | (simp [errW_none, errW_some] <;> rfl) | (simp [*, errW_none, errW_some] <;> rfl), by repeat (first | (with_reducible first | exact HB.out | apply below_alloc | apply pw_below_drewN | apply below_drew1 | refine below_set ?_ GE511.out) | exact HB.out)⟩
      ·
       rw [if_neg c26] at H
       have c26b0 : (a0_1 == 3) = false := beq_eq_false_iff_ne.mpr c26
       have c26b1 : (a0_1 != 3) = true := bne_iff_ne.mpr c26
       obtain rfl := Option.some.inj H
       have hcz35_0 : wc.cell? ⟨gb511, 0, none⟩ = some (.int .i64 a0_0) := (blk_cell BK511.out 0).trans rfl
       have hcz35_1 : wc.cell? ⟨gb511, 1, none⟩ = some (.int .i64 a0_1) := (blk_cell BK511.out 1).trans rfl
       have hcz35_2 : wc.cell? ⟨gb511, 2, none⟩ = some (.int .i64 a0_2) := (blk_cell BK511.out 2).trans rfl
       have hcz35_3 : wc.cell? ⟨gb511, 3, none⟩ = some (.int .i64 a0_3) := (blk_cell BK511.out 3).trans rfl
       have hcz35_4 : wc.cell? ⟨gb511, 4, none⟩ = some (.int .i64 a0_4) := (blk_cell BK511.out 4).trans rfl
       have hcz35_5 : wc.cell? ⟨gb511, 5, none⟩ = some (.string a0_5) := (blk_cell BK511.out 5).trans rfl
       have hcz35_6 : wc.cell? ⟨gb511, 6, none⟩ = some (.slice A0_6 l0_6.length c0_6) := (blk_cell BK511.out 6).trans rfl
       have hfz35_0 := blk_frozen BK511.out 0
       have hfz35_1 := blk_frozen BK511.out 1
       have hfz35_2 := blk_frozen BK511.out 2
       have hfz35_3 := blk_frozen BK511.out 3
       have hfz35_4 := blk_frozen BK511.out 4
       have hfz35_5 := blk_frozen BK511.out 5
       have hfz35_6 := blk_frozen BK511.out 6
       go_wp2
       go_ret
       exact ⟨by first | rfl | (simp [errW_none, errW_some] <;> rfl) | (simp [*, errW_none, errW_some] <;> rfl), by repeat (first | (with_reducible first | exact HB.out | apply below_alloc | apply pw_below_drewN | apply below_drew1 | refine below_set ?_ GE511.out) | exact HB.out)⟩
end Go.Proofs.YtnpnablnnfekkaaDoor.PTr
set_option linter.unusedVariables false
set_option linter.unusedSimpArgs false
namespace Go.Proofs.YtnpnablnnfekkaaDoor.PTr
open Go.RowKit Go.Proofs.YtnpnablnnfekkaaDoor Go.Proofs.YtnpnablnnfekkaaDoorW.PrintWords
abbrev Ent := S61
abbrev Nod := S44
theorem rdE (l : List Ent) (i : Nat) (h : i < l.length) : rd_T61 l (i : Int) = l[i] := by
 unfold rd_T61
 rw [Int.toNat_natCast, List.getD_eq_getElem?_getD, List.getElem?_eq_getElem h]; rfl
theorem rdN (l : List Nod) (i : Nat) (h : i < l.length) : rd_T44 l (i : Int) = l[i] := by
 unfold rd_T44
 rw [Int.toNat_natCast, List.getD_eq_getElem?_getD, List.getElem?_eq_getElem h]; rfl
/-- entries from a place on: names that may be, rising -/
def entAt (l : List Ent) (i : Nat) : Bool := nameB (rd_T61 l i).f0.data.toList && (decide (i = 0) || Op.bytesLess (rd_T61 l ((i - 1 : Nat) : Int)).f0.toList (rd_T61 l i).f0.toList)
def entsB (l : List Ent) : Bool := (List.range l.length).all (entAt l)
theorem range_drop (n i : Nat) (h : i < n) : (List.range n).drop i = i :: (List.range n).drop (i + 1) := by
 rw [List.drop_eq_getElem_cons (by rw [List.length_range]; exact h)]; simp
theorem ents_prog_l0 (l : List Ent) (hl : l.length ≤ 4611686018427387904) : ∀ (d k i : Nat), i + d = l.length → d < k → tree_Entries.l0 k l l (l.length : Int) (i : Int) = some (((List.range l.length).drop i).all (entAt l)) := by
 intro d
 induction d with
 | zero =>
  intro k i h hk
  obtain ⟨k, rfl⟩ : ∃ j, k = j + 1 := ⟨k - 1, by omega⟩
  unfold tree_Entries.l0
  rw [if_neg (by omega), List.drop_of_length_le (by rw [List.length_range]; omega)]; rfl
 | succ d ih =>
  intro k i h hk
  obtain ⟨k, rfl⟩ : ∃ j, k = j + 1 := ⟨k - 1, by omega⟩
  have hi : i < l.length := by omega
  unfold tree_Entries.l0
  obtain ⟨s, hs⟩ := exists_asB (rd_T61 l (i : Int)).f0
  rw [if_pos (by omega), if_pos (by omega), if_pos (by omega), hs, name_prog, Option.bind_some, range_drop _ _ hi, List.all_cons, show wrap64 ((i : Int) + 1) = ((i + 1 : Nat) : Int) from by unfold wrap64; omega, ih k (i + 1) (by omega) (by omega)]
  unfold entAt
  rw [hs, asB_data]
  cases hn : nameB s with
  | false => simp
  | true =>
   simp only [if_true, Bool.true_and]
   by_cases h0 : i = 0
   ·
    subst h0
    simp
   ·
    have e : wrap64 ((i : Int) - 1) = ((i - 1 : Nat) : Int) := by unfold wrap64; omega
    rw [if_pos (by omega : (i : Int) > 0), e, if_pos (by omega), if_pos (by omega)]
    simp only [h0, decide_false, Bool.false_or]
    cases hb : Op.bytesLess (rd_T61 l ((i - 1 : Nat) : Int)).f0.toList (asB s).toList <;> simp
theorem ents_prog (l : List Ent) (hl : l.length ≤ 4611686018427387904) (k : Nat) (hk : l.length < k) : tree_Entries.f k l = some (entsB l) := by
 unfold tree_Entries.f
 rw [show (0 : Int) = ((0 : Nat) : Int) from rfl, ents_prog_l0 l hl l.length k 0 (by omega) hk]; rfl
def noZero (l : List UInt8) : Bool := !(l.any fun x => decide ((x.toNat : Int) = 0))
/-- may a node be, by itself? -/
def plainB (x : Nod) : Bool := decide (0 ≤ x.f2 ∧ x.f2 ≤ 511 ∧ 0 ≤ x.f3 ∧ x.f3 ≤ 65535 ∧ 0 ≤ x.f4 ∧ x.f4 ≤ 1099511627776) &&
 (if x.f1 = 1 then decide (x.f5.size = 0) && entsB x.f6 else if x.f1 = 2 then decide (x.f5.size ≤ 4096) && decide (x.f6.length = 0) else if x.f1 = 3 then decide (1 ≤ x.f5.size) && decide (x.f5.size ≤ 256) && noZero x.f5.data.toList && decide (x.f6.length = 0) else false)
theorem sizeNil (s : ByteArray) : s.toList = ([] : List UInt8) ↔ s.size = 0 := by
 rw [toList_data]
 exact ⟨fun h => by show s.data.size = 0; rw [← Array.length_toList, h]; rfl, fun h => List.eq_nil_of_length_eq_zero (by rw [Array.length_toList]; exact h)⟩
theorem plain_prog (x : Nod) (hl : x.f6.length ≤ 4611686018427387904) (k : Nat) (hk : x.f6.length + 1 < k) : tree_plain.f k x.f0 x.f1 x.f2 x.f3 x.f4 x.f5 x.f6 = some (plainB x) := by
 obtain ⟨k, rfl⟩ : ∃ j, k = j + 1 := ⟨k - 1, by omega⟩
 have hj : ∀ b : Bool, tree_plain.j0 (k + 1) b x.f0 x.f1 x.f2 x.f3 x.f4 x.f5 x.f6 = some (!b && (if x.f1 = 1 then decide (x.f5.size = 0) && entsB x.f6 else if x.f1 = 2 then decide (x.f5.size ≤ 4096) && decide (x.f6.length = 0) else if x.f1 = 3 then decide (1 ≤ x.f5.size) && decide (x.f5.size ≤ 256) && noZero x.f5.data.toList && decide (x.f6.length = 0) else false)) := by
  intro b
  unfold tree_plain.j0
  cases b with
  | true => simp
  | false =>
   simp only [Bool.false_eq_true, if_false, Bool.not_false, Bool.true_and]
   by_cases h1 : x.f1 = 1
   ·
    rw [if_pos h1, if_pos h1]
    by_cases h2 : x.f5.size = 0
    ·
     rw [if_pos ((sizeNil _).2 h2), ents_prog _ hl k (by omega)]; simp [h2]
    ·
     rw [if_neg (fun h => h2 ((sizeNil _).1 h))]; simp [h2]
   ·
    rw [if_neg h1, if_neg h1]
    have el : ((x.f6.length : Int) == 0) = decide (x.f6.length = 0) := by
     by_cases h : x.f6.length = 0
     ·
      rw [h]; rfl
     ·
      have : ¬ ((x.f6.length : Int) = 0) := by omega
      simp [h, this]
    by_cases h3 : x.f1 = 2
    ·
     rw [if_pos h3, if_pos h3, el]
     by_cases h4 : x.f5.size ≤ 4096
     ·
      rw [if_pos (by omega)]; simp [h4]
     ·
      rw [if_neg (by omega)]; simp [h4]
    ·
     rw [if_neg h3, if_neg h3]
     by_cases h5 : x.f1 = 3
     ·
      rw [if_pos h5, if_pos h5]
      by_cases h6 : x.f5.size = 0
      ·
       rw [if_pos ((sizeNil _).2 h6)]; simp [h6]
      ·
       rw [if_neg (fun h => h6 ((sizeNil _).1 h))]
       have h7 : 1 ≤ x.f5.size := by omega
       by_cases h8 : x.f5.size ≤ 256
       ·
        rw [if_pos (by omega)]
        have hix : strings_IndexByte.f x.f5 0 = some (Lib.indexByte x.f5.data.toList 0) := rfl
        rw [hix, Option.bind_some, el]
        have hz := index_any x.f5.data.toList 0
        have hz' : decide (Lib.indexByte x.f5.data.toList 0 < 0) = noZero x.f5.data.toList := hz
        by_cases h9 : Lib.indexByte x.f5.data.toList 0 < 0
        ·
         rw [if_pos h9, ← hz']; simp [h7, h8, h9]
        ·
         rw [if_neg h9, ← hz']; simp [h9]
       ·
        rw [if_neg (by omega)]; simp [h8]
     ·
      rw [if_neg h5, if_neg h5]
 unfold tree_plain.f plainB
 simp only [hj]
 by_cases a1 : x.f2 < 0
 ·
  rw [if_pos a1, decide_eq_false (show ¬ (0 ≤ x.f2 ∧ x.f2 ≤ 511 ∧ 0 ≤ x.f3 ∧ x.f3 ≤ 65535 ∧ 0 ≤ x.f4 ∧ x.f4 ≤ 1099511627776) by omega)]; rfl
 rw [if_neg a1]
 by_cases a2 : x.f2 > 511
 ·
  rw [if_pos a2, decide_eq_false (show ¬ (0 ≤ x.f2 ∧ x.f2 ≤ 511 ∧ 0 ≤ x.f3 ∧ x.f3 ≤ 65535 ∧ 0 ≤ x.f4 ∧ x.f4 ≤ 1099511627776) by omega)]; rfl
 rw [if_neg a2]
 by_cases a3 : x.f3 < 0
 ·
  rw [if_pos a3, decide_eq_false (show ¬ (0 ≤ x.f2 ∧ x.f2 ≤ 511 ∧ 0 ≤ x.f3 ∧ x.f3 ≤ 65535 ∧ 0 ≤ x.f4 ∧ x.f4 ≤ 1099511627776) by omega)]; rfl
 rw [if_neg a3]
 by_cases a4 : x.f3 > 65535
 ·
  rw [if_pos a4, decide_eq_false (show ¬ (0 ≤ x.f2 ∧ x.f2 ≤ 511 ∧ 0 ≤ x.f3 ∧ x.f3 ≤ 65535 ∧ 0 ≤ x.f4 ∧ x.f4 ≤ 1099511627776) by omega)]; rfl
 rw [if_neg a4]
 by_cases a5 : x.f4 < 0
 ·
  rw [if_pos a5, decide_eq_false (show ¬ (0 ≤ x.f2 ∧ x.f2 ≤ 511 ∧ 0 ≤ x.f3 ∧ x.f3 ≤ 65535 ∧ 0 ≤ x.f4 ∧ x.f4 ≤ 1099511627776) by omega)]; rfl
 rw [if_neg a5]
 by_cases a6 : x.f4 > 1099511627776
 ·
  rw [decide_eq_true a6, decide_eq_false (show ¬ (0 ≤ x.f2 ∧ x.f2 ≤ 511 ∧ 0 ≤ x.f3 ∧ x.f3 ≤ 65535 ∧ 0 ≤ x.f4 ∧ x.f4 ≤ 1099511627776) by omega)]; rfl
 ·
  rw [decide_eq_false a6, decide_eq_true (show 0 ≤ x.f2 ∧ x.f2 ≤ 511 ∧ 0 ≤ x.f3 ∧ x.f3 ≤ 65535 ∧ 0 ≤ x.f4 ∧ x.f4 ≤ 1099511627776 by omega)]; rfl
end Go.Proofs.YtnpnablnnfekkaaDoor.PTr
namespace Go.Proofs.YtnpnablnnfekkaaDoor.PTr
open Go.RowKit Go.Proofs.YtnpnablnnfekkaaDoorW.PrintWords Go.Proofs.YtnpnablnnfekkaaDoorW.PrintLast Go.Proofs.YtnpnablnnfekkaaDoorW.PrintMore
attribute [local go_sem] max2_int min2_int max_two min_two max_three min_three max_four min_four   -- for this text's walks alone
set_option linter.unusedVariables false
set_option linter.unusedSimpArgs false
def cmp_isNaN_int.f (a0 : Int) : Option (Bool) := some (a0 != a0)
set_option maxHeartbeats 8000000 in
set_option maxRecDepth 100000 in
theorem cmp_isNaN_int.calls (a0 : Int) (r : Bool) (w : World) (h : cmp_isNaN_int.f a0 = some r) :
  Calls Tryd.prog 94 #[.int .i64 a0] w fun e w' => e = .returned (.bool r) ∧ Drawn0 w w' := by
 have H : (some (a0 != a0)) = some r := h
 clear h
 obtain rfl := Option.some.inj H
 go_enter Tryd.func94, Tryd.ntmps94
 go_wp2
 go_ret
 exact ⟨by first | rfl | (simp; done) | (simp [*]; done), by repeat (first | exact Drawn0.refl _ | apply Drawn0.step)⟩
end Go.Proofs.YtnpnablnnfekkaaDoor.PTr
namespace Go.Proofs.YtnpnablnnfekkaaDoor.PTr
open Go.RowKit Go.Proofs.YtnpnablnnfekkaaDoorW.PrintWords Go.Proofs.YtnpnablnnfekkaaDoorW.PrintLast Go.Proofs.YtnpnablnnfekkaaDoorW.PrintMore
attribute [local go_sem] max2_int min2_int max_two min_two max_three min_three max_four min_four   -- for this text's walks alone
set_option linter.unusedVariables false
set_option linter.unusedSimpArgs false
def cmp_Compare_int.f (a0 : Int) (a1 : Int) : Option (Int) := (cmp_isNaN_int.f a0).bind fun t300 => ((cmp_isNaN_int.f a1).bind fun t301 => (if t300 = true then (if t301 = true then (some 0) else (some (-1))) else (if t301 = true then (some 1) else (if a0 < a1 then (some (-1)) else (if a0 > a1 then (some 1) else (some 0))))))
set_option maxHeartbeats 8000000 in
set_option maxRecDepth 100000 in
theorem cmp_Compare_int.calls (a0 : Int) (a1 : Int) (r : Int) (w : World) (h : cmp_Compare_int.f a0 a1 = some r) :
  Calls Tryd.prog 81 #[.int .i64 a0, .int .i64 a1] w fun e w' => e = .returned (.int .i64 r) ∧ Drawn0 w w' := by
 have H : ((cmp_isNaN_int.f a0).bind fun t300 => ((cmp_isNaN_int.f a1).bind fun t301 => (if t300 = true then (if t301 = true then (some 0) else (some (-1))) else (if t301 = true then (some 1) else (if a0 < a1 then (some (-1)) else (if a0 > a1 then (some 1) else (some 0))))))) = some r := h
 clear h
 replace H := Option.bind_eq_some_iff.mp H
 obtain ⟨t300, A30, H⟩ := H
 replace H : ((cmp_isNaN_int.f a1).bind fun t301 => (if t300 = true then (if t301 = true then (some 0) else (some (-1))) else (if t301 = true then (some 1) else (if a0 < a1 then (some (-1)) else (if a0 > a1 then (some 1) else (some 0)))))) = some r := H
 have A3 := Aside0.mk A30
 clear A30
 replace H := Option.bind_eq_some_iff.mp H
 obtain ⟨t301, A40, H⟩ := H
 replace H : (if t300 = true then (if t301 = true then (some 0) else (some (-1))) else (if t301 = true then (some 1) else (if a0 < a1 then (some (-1)) else (if a0 > a1 then (some 1) else (some 0))))) = some r := H
 have A4 := Aside0.mk A40
 clear A40
 by_cases c5 : t300 = true
 ·
  subst c5
  have H1 : (if t301 = true then (some 0) else (some (-1))) = some r := by rw [if_pos rfl] at H; exact H
  clear H
  have H := H1
  clear H1
  by_cases c6 : t301 = true
  ·
   subst c6
   have H1 : (some 0) = some r := by rw [if_pos rfl] at H; exact H
   clear H
   have H := H1
   clear H1
   obtain rfl := Option.some.inj H
   go_enter Tryd.func81, Tryd.ntmps81
   go_wp2_with (first | ((with_reducible refine gate_callee (f := 94) rfl ?_); refine goesL_ (some 8) rfl rfl Tryd.func94 (by kernel_rfl) rfl #[.int .i64 a0] rfl (by (try simp only [List.map_toArray, List.map_cons, List.map_nil]); first | done | rfl | (simp only [List.length_drop, List.length_take]; rfl)) ?_; (with_reducible refine (cmp_isNaN_int.calls a0 true _ A3.out).mono ?_); rintro e w' ⟨rfl, ⟨nd, rfl⟩⟩; refine ⟨_, rfl, ?_⟩) | ((with_reducible refine gate_callee (f := 94) rfl ?_); refine goesL_ (some 10) rfl rfl Tryd.func94 (by kernel_rfl) rfl #[.int .i64 a1] rfl (by (try simp only [List.map_toArray, List.map_cons, List.map_nil]); first | done | rfl | (simp only [List.length_drop, List.length_take]; rfl)) ?_; (with_reducible refine (cmp_isNaN_int.calls a1 true _ A4.out).mono ?_); rintro e w' ⟨rfl, ⟨nd, rfl⟩⟩; refine ⟨_, rfl, ?_⟩))
   go_ret
   exact ⟨by first | rfl | (simp; done) | (simp [*]; done), by repeat (first | exact Drawn0.refl _ | apply Drawn0.step)⟩
  ·
   replace c6 := Bool.eq_false_iff.mpr c6
   subst c6
   have H1 : (some (-1)) = some r := by rw [if_neg (show ¬ (false = true) by decide)] at H; exact H
   clear H
   have H := H1
   clear H1
   obtain rfl := Option.some.inj H
   go_enter Tryd.func81, Tryd.ntmps81
   go_wp2_with (first | ((with_reducible refine gate_callee (f := 94) rfl ?_); refine goesL_ (some 8) rfl rfl Tryd.func94 (by kernel_rfl) rfl #[.int .i64 a0] rfl (by (try simp only [List.map_toArray, List.map_cons, List.map_nil]); first | done | rfl | (simp only [List.length_drop, List.length_take]; rfl)) ?_; (with_reducible refine (cmp_isNaN_int.calls a0 true _ A3.out).mono ?_); rintro e w' ⟨rfl, ⟨nd, rfl⟩⟩; refine ⟨_, rfl, ?_⟩) | ((with_reducible refine gate_callee (f := 94) rfl ?_); refine goesL_ (some 10) rfl rfl Tryd.func94 (by kernel_rfl) rfl #[.int .i64 a1] rfl (by (try simp only [List.map_toArray, List.map_cons, List.map_nil]); first | done | rfl | (simp only [List.length_drop, List.length_take]; rfl)) ?_; (with_reducible refine (cmp_isNaN_int.calls a1 false _ A4.out).mono ?_); rintro e w' ⟨rfl, ⟨nd, rfl⟩⟩; refine ⟨_, rfl, ?_⟩))
   go_ret
   exact ⟨by first | rfl | (simp; done) | (simp [*]; done), by repeat (first | exact Drawn0.refl _ | apply Drawn0.step)⟩
 ·
  replace c5 := Bool.eq_false_iff.mpr c5
  subst c5
  have H1 : (if t301 = true then (some 1) else (if a0 < a1 then (some (-1)) else (if a0 > a1 then (some 1) else (some 0)))) = some r := by rw [if_neg (show ¬ (false = true) by decide)] at H; exact H
  clear H
  have H := H1
  clear H1
  by_cases c7 : t301 = true
  ·
   subst c7
   have H1 : (some 1) = some r := by rw [if_pos rfl] at H; exact H
   clear H
   have H := H1
   clear H1
   obtain rfl := Option.some.inj H
   go_enter Tryd.func81, Tryd.ntmps81
   go_wp2_with (first | ((with_reducible refine gate_callee (f := 94) rfl ?_); refine goesL_ (some 8) rfl rfl Tryd.func94 (by kernel_rfl) rfl #[.int .i64 a0] rfl (by (try simp only [List.map_toArray, List.map_cons, List.map_nil]); first | done | rfl | (simp only [List.length_drop, List.length_take]; rfl)) ?_; (with_reducible refine (cmp_isNaN_int.calls a0 false _ A3.out).mono ?_); rintro e w' ⟨rfl, ⟨nd, rfl⟩⟩; refine ⟨_, rfl, ?_⟩) | ((with_reducible refine gate_callee (f := 94) rfl ?_); refine goesL_ (some 10) rfl rfl Tryd.func94 (by kernel_rfl) rfl #[.int .i64 a1] rfl (by (try simp only [List.map_toArray, List.map_cons, List.map_nil]); first | done | rfl | (simp only [List.length_drop, List.length_take]; rfl)) ?_; (with_reducible refine (cmp_isNaN_int.calls a1 true _ A4.out).mono ?_); rintro e w' ⟨rfl, ⟨nd, rfl⟩⟩; refine ⟨_, rfl, ?_⟩))
   go_ret
   exact ⟨by first | rfl | (simp; done) | (simp [*]; done), by repeat (first | exact Drawn0.refl _ | apply Drawn0.step)⟩
  ·
   replace c7 := Bool.eq_false_iff.mpr c7
   subst c7
   have H1 : (if a0 < a1 then (some (-1)) else (if a0 > a1 then (some 1) else (some 0))) = some r := by rw [if_neg (show ¬ (false = true) by decide)] at H; exact H
   clear H
   have H := H1
   clear H1
   by_cases c8 : a0 < a1
   ·
    rw [if_pos c8] at H
    have c8b0 : decide (a0 < a1) = true := decide_eq_true c8
    clear c8
    obtain rfl := Option.some.inj H
    go_enter Tryd.func81, Tryd.ntmps81
    go_wp2_with (first | ((with_reducible refine gate_callee (f := 94) rfl ?_); refine goesL_ (some 8) rfl rfl Tryd.func94 (by kernel_rfl) rfl #[.int .i64 a0] rfl (by (try simp only [List.map_toArray, List.map_cons, List.map_nil]); first | done | rfl | (simp only [List.length_drop, List.length_take]; rfl)) ?_; (with_reducible refine (cmp_isNaN_int.calls a0 false _ A3.out).mono ?_); rintro e w' ⟨rfl, ⟨nd, rfl⟩⟩; refine ⟨_, rfl, ?_⟩) | ((with_reducible refine gate_callee (f := 94) rfl ?_); refine goesL_ (some 10) rfl rfl Tryd.func94 (by kernel_rfl) rfl #[.int .i64 a1] rfl (by (try simp only [List.map_toArray, List.map_cons, List.map_nil]); first | done | rfl | (simp only [List.length_drop, List.length_take]; rfl)) ?_; (with_reducible refine (cmp_isNaN_int.calls a1 false _ A4.out).mono ?_); rintro e w' ⟨rfl, ⟨nd, rfl⟩⟩; refine ⟨_, rfl, ?_⟩))
    go_ret
    exact ⟨by first | rfl | (simp; done) | (simp [*]; done), by repeat (first | exact Drawn0.refl _ | apply Drawn0.step)⟩
   ·
    rw [if_neg c8] at H
    have c8b0 : decide (a0 < a1) = false := decide_eq_false c8
    clear c8
    by_cases c9 : a0 > a1
    ·
     rw [if_pos c9] at H
     have c9b0 : decide (a1 < a0) = true := decide_eq_true c9
     clear c9
     obtain rfl := Option.some.inj H
     go_enter Tryd.func81, Tryd.ntmps81
     go_wp2_with (first | ((with_reducible refine gate_callee (f := 94) rfl ?_); refine goesL_ (some 8) rfl rfl Tryd.func94 (by kernel_rfl) rfl #[.int .i64 a0] rfl (by (try simp only [List.map_toArray, List.map_cons, List.map_nil]); first | done | rfl | (simp only [List.length_drop, List.length_take]; rfl)) ?_; (with_reducible refine (cmp_isNaN_int.calls a0 false _ A3.out).mono ?_); rintro e w' ⟨rfl, ⟨nd, rfl⟩⟩; refine ⟨_, rfl, ?_⟩) | ((with_reducible refine gate_callee (f := 94) rfl ?_); refine goesL_ (some 10) rfl rfl Tryd.func94 (by kernel_rfl) rfl #[.int .i64 a1] rfl (by (try simp only [List.map_toArray, List.map_cons, List.map_nil]); first | done | rfl | (simp only [List.length_drop, List.length_take]; rfl)) ?_; (with_reducible refine (cmp_isNaN_int.calls a1 false _ A4.out).mono ?_); rintro e w' ⟨rfl, ⟨nd, rfl⟩⟩; refine ⟨_, rfl, ?_⟩))
     go_ret
     exact ⟨by first | rfl | (simp; done) | (simp [*]; done), by repeat (first | exact Drawn0.refl _ | apply Drawn0.step)⟩
    ·
     rw [if_neg c9] at H
     have c9b0 : decide (a1 < a0) = false := decide_eq_false c9
     clear c9
     obtain rfl := Option.some.inj H
     go_enter Tryd.func81, Tryd.ntmps81
     go_wp2_with (first | ((with_reducible refine gate_callee (f := 94) rfl ?_); refine goesL_ (some 8) rfl rfl Tryd.func94 (by kernel_rfl) rfl #[.int .i64 a0] rfl (by (try simp only [List.map_toArray, List.map_cons, List.map_nil]); first | done | rfl | (simp only [List.length_drop, List.length_take]; rfl)) ?_; (with_reducible refine (cmp_isNaN_int.calls a0 false _ A3.out).mono ?_); rintro e w' ⟨rfl, ⟨nd, rfl⟩⟩; refine ⟨_, rfl, ?_⟩) | ((with_reducible refine gate_callee (f := 94) rfl ?_); refine goesL_ (some 10) rfl rfl Tryd.func94 (by kernel_rfl) rfl #[.int .i64 a1] rfl (by (try simp only [List.map_toArray, List.map_cons, List.map_nil]); first | done | rfl | (simp only [List.length_drop, List.length_take]; rfl)) ?_; (with_reducible refine (cmp_isNaN_int.calls a1 false _ A4.out).mono ?_); rintro e w' ⟨rfl, ⟨nd, rfl⟩⟩; refine ⟨_, rfl, ?_⟩))
     go_ret
     exact ⟨by first | rfl | (simp; done) | (simp [*]; done), by repeat (first | exact Drawn0.refl _ | apply Drawn0.step)⟩
end Go.Proofs.YtnpnablnnfekkaaDoor.PTr
namespace Go.Proofs.YtnpnablnnfekkaaDoor.PTr
open Go.RowKit Go.Proofs.YtnpnablnnfekkaaDoorW.PrintWords Go.Proofs.YtnpnablnnfekkaaDoorW.PrintLast Go.Proofs.YtnpnablnnfekkaaDoorW.PrintMore
attribute [local go_sem] max2_int min2_int max_two min_two max_three min_three max_four min_four   -- for this text's walks alone
set_option linter.unusedVariables false
set_option linter.unusedSimpArgs false
def tree_place_1.f (a0_0 : Int) (a0_1 : Int) (a0_2 : Int) (a0_3 : Int) (a0_4 : Int) (a0_5 : ByteArray) (l0_6 : List (S61)) (a1 : Int) : Option (Int) := (cmp_Compare_int.f a0_0 a1).bind fun t303 => (some t303)
set_option maxHeartbeats 8000000 in
set_option maxRecDepth 100000 in
theorem tree_place_1.calls (a0_0 : Int) (a0_1 : Int) (a0_2 : Int) (a0_3 : Int) (a0_4 : Int) (a0_5 : ByteArray) (A0_6 : Option Addr) (c0_6 : Nat) (l0_6 : List (S61)) (a1 : Int) (r : Int) (w : World) (hr0_6 : Kd.C k61 w A0_6 l0_6.length l0_6) (hc0_6 : l0_6.length ≤ c0_6) (h : tree_place_1.f a0_0 a0_1 a0_2 a0_3 a0_4 a0_5 l0_6 a1 = some r) :
  Calls Tryd.prog 80 #[.agg #[.int .i64 a0_0, .int .i64 a0_1, .int .i64 a0_2, .int .i64 a0_3, .int .i64 a0_4, .string a0_5, .slice A0_6 l0_6.length c0_6], .int .i64 a1] w fun e w' => e = .returned (.int .i64 r) ∧ Below w.heap.size w w' := by
 have hu44 := Tryd.underlying44
 have HR0_6 := Aside0.mk hr0_6
 have HC0_6 := Aside0.mk hc0_6
 clear hr0_6 hc0_6
 have HB := Aside0.mk (Below.refl w.heap.size w)
 have H : ((cmp_Compare_int.f a0_0 a1).bind fun t303 => (some t303)) = some r := h
 clear h
 replace H := Option.bind_eq_some_iff.mp H
 obtain ⟨t303, A30, H⟩ := H
 replace H : (some t303) = some r := H
 have A3 := Aside0.mk A30
 clear A30
 obtain rfl := Option.some.inj H
 go_enter Tryd.func80, Tryd.ntmps80
 go_wp2_with (first | ((with_reducible refine gate_dst (N := 2) rfl ?_); refine box_event ?hg (N := 2) ?hd (cs := #[.int .i64 a0_0, .int .i64 a0_1, .int .i64 a0_2, .int .i64 a0_3, .int .i64 a0_4, .string a0_5, .slice A0_6 l0_6.length c0_6]) (t := 44) ?hr ?_; (case hd => rfl); (case hg => rfl); (case hr => first | (go_simp; done) | (go_simp; rfl)); intro gb302 hg w4 hbox hb; have n0_ := Aside0.mk (below_step (by repeat (first | (with_reducible first | exact HB.out | apply below_alloc | apply pw_below_drewN | apply below_drew1) | exact HB.out)) hb); have n1_ := Aside0.mk (hbox); have n2_ := Aside0.mk ((by rw [hg]; exact (below_size (by repeat (first | (with_reducible first | exact HB.out | apply below_alloc | apply pw_below_drewN | apply below_drew1) | exact HB.out))) : w.heap.size ≤ gb302)); have n3_ := Aside0.mk ((by rw [hg]; exact (below_size (by repeat (first | (with_reducible first | exact HB.out | apply below_alloc | apply pw_below_drewN | apply below_drew1) | exact HB.out))) : w.heap.size ≤ gb302)); clear HB; have HB := n0_; have BK302 := n1_; have GW302 := n2_; have GE302 := n3_; clear n0_ n1_ n2_ n3_; clear hb hbox hg; have hcz5_0 : w4.cell? ⟨gb302, 0, none⟩ = some (.int .i64 a0_0) := (blk_cell BK302.out 0).trans rfl; have hcz5_1 : w4.cell? ⟨gb302, 1, none⟩ = some (.int .i64 a0_1) := (blk_cell BK302.out 1).trans rfl; have hcz5_2 : w4.cell? ⟨gb302, 2, none⟩ = some (.int .i64 a0_2) := (blk_cell BK302.out 2).trans rfl; have hcz5_3 : w4.cell? ⟨gb302, 3, none⟩ = some (.int .i64 a0_3) := (blk_cell BK302.out 3).trans rfl; have hcz5_4 : w4.cell? ⟨gb302, 4, none⟩ = some (.int .i64 a0_4) := (blk_cell BK302.out 4).trans rfl; have hcz5_5 : w4.cell? ⟨gb302, 5, none⟩ = some (.string a0_5) := (blk_cell BK302.out 5).trans rfl; have hcz5_6 : w4.cell? ⟨gb302, 6, none⟩ = some (.slice A0_6 l0_6.length c0_6) := (blk_cell BK302.out 6).trans rfl; have hfz5_0 := blk_frozen BK302.out 0; have hfz5_1 := blk_frozen BK302.out 1; have hfz5_2 := blk_frozen BK302.out 2; have hfz5_3 := blk_frozen BK302.out 3; have hfz5_4 := blk_frozen BK302.out 4; have hfz5_5 := blk_frozen BK302.out 5; have hfz5_6 := blk_frozen BK302.out 6) | ((with_reducible refine gate_callee (f := 81) rfl ?_); refine goesL_ (some 8) rfl rfl Tryd.func81 (by kernel_rfl) rfl #[.int .i64 a0_0, .int .i64 a1] rfl (by (try simp only [List.map_toArray, List.map_cons, List.map_nil]); first | done | rfl | (simp only [List.length_drop, List.length_take]; rfl)) ?_; (with_reducible refine (cmp_Compare_int.calls a0_0 a1 t303 _ A3.out).mono ?_); rintro e w' ⟨rfl, ⟨nd, rfl⟩⟩; refine ⟨_, rfl, ?_⟩))
 go_ret
 exact ⟨by first | rfl | (simp [errW_none, errW_some] <;> rfl) | (simp [*, errW_none, errW_some] <;> rfl), by repeat (first | (with_reducible first | exact HB.out | apply below_alloc | apply pw_below_drewN | apply below_drew1 | refine below_set ?_ GE302.out) | exact HB.out)⟩
end Go.Proofs.YtnpnablnnfekkaaDoor.PTr
namespace Go.Proofs.YtnpnablnnfekkaaDoor.PTr
open Go.RowKit Go.Proofs.YtnpnablnnfekkaaDoorW.PrintWords Go.Proofs.YtnpnablnnfekkaaDoorW.PrintLast Go.Proofs.YtnpnablnnfekkaaDoorW.PrintMore
attribute [local go_sem] max2_int min2_int max_two min_two max_three min_three max_four min_four   -- for this text's walks alone
set_option linter.unusedVariables false
set_option linter.unusedSimpArgs false
def api_Node_int.l0 : Nat → List (S44) → Int → Int → Int → Int → Option (Int × Bool)
 | 0, _, _, _, _, _ => none
 | k + 1, x0, x1, x8, x9, x10 => if x9 < x10 then (if 0 ≤ (wrap64 ((IntKind.u64.wrap (wrap64 (x9 + x10))) / 2)) then (if (wrap64 ((IntKind.u64.wrap (wrap64 (x9 + x10))) / 2)) < (x0.length : Int) then ((tree_place_1.f ((rd_T44 x0 (wrap64 ((IntKind.u64.wrap (wrap64 (x9 + x10))) / 2))).f0) ((rd_T44 x0 (wrap64 ((IntKind.u64.wrap (wrap64 (x9 + x10))) / 2))).f1) ((rd_T44 x0 (wrap64 ((IntKind.u64.wrap (wrap64 (x9 + x10))) / 2))).f2) ((rd_T44 x0 (wrap64 ((IntKind.u64.wrap (wrap64 (x9 + x10))) / 2))).f3) ((rd_T44 x0 (wrap64 ((IntKind.u64.wrap (wrap64 (x9 + x10))) / 2))).f4) ((rd_T44 x0 (wrap64 ((IntKind.u64.wrap (wrap64 (x9 + x10))) / 2))).f5) ((rd_T44 x0 (wrap64 ((IntKind.u64.wrap (wrap64 (x9 + x10))) / 2))).f6) x1).bind fun t305 => (if t305 < 0 then (api_Node_int.l0 k x0 x1 x8 (wrap64 ((wrap64 ((IntKind.u64.wrap (wrap64 (x9 + x10))) / 2)) + 1)) x10) else (api_Node_int.l0 k x0 x1 x8 x9 (wrap64 ((IntKind.u64.wrap (wrap64 (x9 + x10))) / 2))))) else (none)) else (none)) else (if x9 < x8 then (if 0 ≤ x9 then (if x9 < (x0.length : Int) then ((tree_place_1.f ((rd_T44 x0 x9).f0) ((rd_T44 x0 x9).f1) ((rd_T44 x0 x9).f2) ((rd_T44 x0 x9).f3) ((rd_T44 x0 x9).f4) ((rd_T44 x0 x9).f5) ((rd_T44 x0 x9).f6) x1).bind fun t307 => (some (x9, (t307 == 0)))) else (none)) else (none)) else (some (x9, false)))
def api_Node_int.f (k : Nat) (l0 : List (S44)) (a1 : Int) (a2 : Int) : Option (Int × Bool) := api_Node_int.l0 k l0 a1 (l0.length : Int) 0 (l0.length : Int)
theorem api_Node_int.mono_l : ∀ k, (∀ y0 y1 y2 y3 y4, LeO (api_Node_int.l0 k y0 y1 y2 y3 y4) (api_Node_int.l0 (k + 1) y0 y1 y2 y3 y4))
 | 0 => fun _ _ _ _ _ r h => by simp [api_Node_int.l0] at h
 | k + 1 => by
  have ih0 := api_Node_int.mono_l k
  ·
   intro y0 y1 y2 y3 y4
   unfold api_Node_int.l0
   repeat' first
   | (with_reducible exact ih0 _ _ _ _ _)
   | (with_reducible exact LeO.refl _)
   | (with_reducible exact LeO.none _)
   | (with_reducible refine LeO.ite ?_ ?_)
   | (with_reducible refine LeO.bind ?_ (fun _ => ?_))
   | exact ih0 _ _ _ _ _
   | exact LeO.none _
   | refine LeO.ite ?_ ?_
   | refine LeO.bind ?_ (fun _ => ?_)
theorem api_Node_int.mono : ∀ a0 a1 a2 k, LeO (api_Node_int.f k a0 a1 a2) (api_Node_int.f (k + 1) a0 a1 a2) := by
 intro a0 a1 a2 k
 have ih0 := api_Node_int.mono_l k
 unfold api_Node_int.f
 repeat' first
   | (with_reducible exact ih0 _ _ _ _ _)
   | (with_reducible exact LeO.refl _)
   | (with_reducible exact LeO.none _)
   | (with_reducible refine LeO.ite ?_ ?_)
   | (with_reducible refine LeO.bind ?_ (fun _ => ?_))
   | exact ih0 _ _ _ _ _
   | exact LeO.none _
   | refine LeO.ite ?_ ?_
   | refine LeO.bind ?_ (fun _ => ?_)
set_option maxHeartbeats 8000000 in
set_option maxRecDepth 100000 in
theorem api_Node_int.calls (k : Nat) (A0 : Option Addr) (c0 : Nat) (l0 : List (S44)) (a1 : Int) (a2 : Int) (r1 : Int) (r2 : Bool) (w : World) (hr0 : Kd.C k44 w A0 l0.length l0) (hc0 : l0.length ≤ c0) (h : api_Node_int.f k l0 a1 a2 = some (r1, r2)) :
  Calls Tryd.prog 79 #[.slice A0 l0.length c0, .int .i64 a1, .func (.func 80) #[] #[]] w fun e w' => e = .returned (.tuple #[.int .i64 r1, .bool r2]) ∧ Below w.heap.size w w' := by
 have hu44 := Tryd.underlying44
 have HR0 := Aside0.mk hr0
 have HC0 := Aside0.mk hc0
 clear hr0 hc0
 have HB := Aside0.mk (Below.refl w.heap.size w)
 have H : (api_Node_int.l0 k l0 a1 (l0.length : Int) 0 (l0.length : Int)) = some (r1, r2) := h
 clear h
 have H' := Aside0.mk H
 clear H
 go_enter Tryd.func79, Tryd.ntmps79
 go_wp2
 go_loopg [9, 10] k (fun kq v9 v10 w' => ∃ (x9_1 : Int) (x10_1 : Int), v9 = .int .i64 x9_1 ∧ v10 = .int .i64 x10_1 ∧ Aside0 (api_Node_int.l0 kq l0 a1 (l0.length : Int) x9_1 x10_1 = some (r1, r2)) ∧ Aside0 (kq ≤ k) ∧ Aside0 (Below w.heap.size w w'))
 case atStart => exact ⟨(0), ((l0.length : Int)), (by first | rfl | (simp; done) | (simp [*]; done)), (by first | rfl | (simp; done) | (simp [*]; done)), H', ⟨Nat.le_refl _⟩, ⟨by repeat (first | (with_reducible first | exact HB.out | apply below_alloc | apply pw_below_drewN | apply below_drew1) | exact HB.out)⟩⟩
 case round =>
  clear H'
  try clear p2
  obtain ⟨x9_1, x10_1, rfl, rfl, HA, HK1, HB⟩ := hrel
  cases gk with
  | zero => exact absurd HA.out (by simp [api_Node_int.l0])
  | succ k1 =>
   have H := HA.out
   clear HA
   simp only [api_Node_int.l0] at H
   by_cases c4 : x9_1 < x10_1
   ·
    rw [if_pos c4] at H
    have c4b0 : decide (x9_1 < x10_1) = true := decide_eq_true c4
    clear c4
    obtain ⟨ji5, hji5⟩ : ∃ j_ : Int, (wrap64 ((IntKind.u64.wrap (wrap64 (x9_1 + x10_1))) / 2)) = j_ := ⟨_, rfl⟩
    replace H : (if 0 ≤ (ji5) then (if (ji5) < (l0.length : Int) then ((tree_place_1.f ((rd_T44 l0 (ji5)).f0) ((rd_T44 l0 (ji5)).f1) ((rd_T44 l0 (ji5)).f2) ((rd_T44 l0 (ji5)).f3) ((rd_T44 l0 (ji5)).f4) ((rd_T44 l0 (ji5)).f5) ((rd_T44 l0 (ji5)).f6) a1).bind fun t305 => (if t305 < 0 then (api_Node_int.l0 k1 l0 a1 (l0.length : Int) (wrap64 ((ji5) + 1)) x10_1) else (api_Node_int.l0 k1 l0 a1 (l0.length : Int) x9_1 ji5))) else (none)) else (none)) = some (r1, r2) := by first | (rw [hji5] at H; exact H) | (simp only [hji5] at H ⊢; exact H)
    have hji5w : (IntKind.i64.wrap ((IntKind.u64.wrap (wrap64 (x9_1 + x10_1))) / 2)) = ji5 := (i64_w _).trans hji5
    by_cases c6 : 0 ≤ (ji5)
    ·
     rw [if_pos c6] at H
     have c6b0 : decide (0 ≤ (ji5)) = true := decide_eq_true c6
     clear c6
     by_cases c7 : (ji5) < (l0.length : Int)
     ·
      rw [if_pos c7] at H
      have c7b0 : decide ((ji5) < (l0.length : Int)) = true := decide_eq_true c7
      clear c7
      replace H := Option.bind_eq_some_iff.mp H
      obtain ⟨t305, A80, H⟩ := H
      replace H : (if t305 < 0 then (api_Node_int.l0 k1 l0 a1 (l0.length : Int) (wrap64 ((ji5) + 1)) x10_1) else (api_Node_int.l0 k1 l0 a1 (l0.length : Int) x9_1 ji5)) = some (r1, r2) := H
      have A8 := Aside0.mk A80
      clear A80
      by_cases c9 : t305 < 0
      ·
       rw [if_pos c9] at H
       have c9b0 : decide (t305 < 0) = true := decide_eq_true c9
       clear c9
       have H' := Aside0.mk H
       clear H
       have p304 : 0 ≤ ((ji5) : Int) := of_decide_eq_true (by first | (with_reducible assumption) | assumption)
       have q304 : (ji5) < (l0.length : Int) := of_decide_eq_true (by first | (with_reducible assumption) | assumption)
       obtain ⟨ad304, A304_6, c304_6, e304, hx304_0, hx304_1, hx304_2, hx304_3, hx304_4, hx304_5, hx304_6, hl304_6, hi304_6⟩ := at_T44 HR0.out (ji5) p304 q304
       cases e304
       replace hx304_0 := (HB.out.cell (World.block_lt_of_cell? w _ hx304_0)).trans hx304_0
       replace hx304_1 := (HB.out.cell (World.block_lt_of_cell? w _ hx304_1)).trans hx304_1
       replace hx304_2 := (HB.out.cell (World.block_lt_of_cell? w _ hx304_2)).trans hx304_2
       replace hx304_3 := (HB.out.cell (World.block_lt_of_cell? w _ hx304_3)).trans hx304_3
       replace hx304_4 := (HB.out.cell (World.block_lt_of_cell? w _ hx304_4)).trans hx304_4
       replace hx304_5 := (HB.out.cell (World.block_lt_of_cell? w _ hx304_5)).trans hx304_5
       replace hx304_6 := (HB.out.cell (World.block_lt_of_cell? w _ hx304_6)).trans hx304_6
       have HR304_6 := Aside0.mk hi304_6
       have HC304_6 := Aside0.mk hl304_6
       clear hi304_6 hl304_6
       replace p304 := eq_true p304
       replace q304 := eq_true q304
       go_wp2_with (first | (go_at_call 80; (with_reducible refine (tree_place_1.calls ((rd_T44 l0 (ji5)).f0) ((rd_T44 l0 (ji5)).f1) ((rd_T44 l0 (ji5)).f2) ((rd_T44 l0 (ji5)).f3) ((rd_T44 l0 (ji5)).f4) ((rd_T44 l0 (ji5)).f5) _ _ ((rd_T44 l0 (ji5)).f6) a1 t305 _ ?side1 ?side2 A8.out).mono ?_); (case side1 => repeat (first | exact (Kd.C_below HR304_6.out HB.out) | (with_reducible refine Kd.C_alloc ?_ _) | (with_reducible refine Kd.C_drewN ?_ _) | (with_reducible refine Kd.C_drew ?_))); (case side2 => exact HC304_6.out); rintro e w10 ⟨rfl, hb⟩; have n0_ := Aside0.mk (below_step (by repeat (first | (with_reducible first | exact HB.out | apply below_alloc | apply pw_below_drewN | apply below_drew1) | exact HB.out)) hb); clear HB; have HB := n0_; clear n0_; (try clear hb); (try clear hb2); (try clear hk); (try clear hi)))
       go_roundg k1
       case measure => have := HK1.out; omega
       case rel => exact ⟨(wrap64 ((ji5) + 1)), (x10_1), (by first | rfl | (simp; done) | (simp only [← hji5] <;> (first | rfl | simp)) | (simp [*]; done)), (by first | rfl | (simp; done) | (simp [*]; done)), (by first | exact H' | (rw [hji5]; exact H') | (simp only [hji5]; exact H')), ⟨by have := HK1.out; omega⟩, ⟨by repeat (first | (with_reducible first | exact HB.out | apply below_alloc | apply pw_below_drewN | apply below_drew1) | exact HB.out)⟩⟩
      ·
       rw [if_neg c9] at H
       have c9b0 : decide (t305 < 0) = false := decide_eq_false c9
       clear c9
       have H' := Aside0.mk H
       clear H
       have p304 : 0 ≤ ((ji5) : Int) := of_decide_eq_true (by first | (with_reducible assumption) | assumption)
       have q304 : (ji5) < (l0.length : Int) := of_decide_eq_true (by first | (with_reducible assumption) | assumption)
       obtain ⟨ad304, A304_6, c304_6, e304, hx304_0, hx304_1, hx304_2, hx304_3, hx304_4, hx304_5, hx304_6, hl304_6, hi304_6⟩ := at_T44 HR0.out (ji5) p304 q304
       cases e304
       replace hx304_0 := (HB.out.cell (World.block_lt_of_cell? w _ hx304_0)).trans hx304_0
       replace hx304_1 := (HB.out.cell (World.block_lt_of_cell? w _ hx304_1)).trans hx304_1
       replace hx304_2 := (HB.out.cell (World.block_lt_of_cell? w _ hx304_2)).trans hx304_2
       replace hx304_3 := (HB.out.cell (World.block_lt_of_cell? w _ hx304_3)).trans hx304_3
       replace hx304_4 := (HB.out.cell (World.block_lt_of_cell? w _ hx304_4)).trans hx304_4
       replace hx304_5 := (HB.out.cell (World.block_lt_of_cell? w _ hx304_5)).trans hx304_5
       replace hx304_6 := (HB.out.cell (World.block_lt_of_cell? w _ hx304_6)).trans hx304_6
       have HR304_6 := Aside0.mk hi304_6
       have HC304_6 := Aside0.mk hl304_6
       clear hi304_6 hl304_6
       replace p304 := eq_true p304
       replace q304 := eq_true q304
       go_wp2_with (first | (go_at_call 80; (with_reducible refine (tree_place_1.calls ((rd_T44 l0 (ji5)).f0) ((rd_T44 l0 (ji5)).f1) ((rd_T44 l0 (ji5)).f2) ((rd_T44 l0 (ji5)).f3) ((rd_T44 l0 (ji5)).f4) ((rd_T44 l0 (ji5)).f5) _ _ ((rd_T44 l0 (ji5)).f6) a1 t305 _ ?side1 ?side2 A8.out).mono ?_); (case side1 => repeat (first | exact (Kd.C_below HR304_6.out HB.out) | (with_reducible refine Kd.C_alloc ?_ _) | (with_reducible refine Kd.C_drewN ?_ _) | (with_reducible refine Kd.C_drew ?_))); (case side2 => exact HC304_6.out); rintro e w11 ⟨rfl, hb⟩; have n0_ := Aside0.mk (below_step (by repeat (first | (with_reducible first | exact HB.out | apply below_alloc | apply pw_below_drewN | apply below_drew1) | exact HB.out)) hb); clear HB; have HB := n0_; clear n0_; (try clear hb); (try clear hb2); (try clear hk); (try clear hi)))
       go_roundg k1
       case measure => have := HK1.out; omega
       case rel => exact ⟨(x9_1), (ji5), (by first | rfl | (simp; done) | (simp [*]; done)), (by first | rfl | (simp; done) | (simp only [← hji5] <;> (first | rfl | simp)) | (simp [*]; done)), (by first | exact H' | (rw [hji5]; exact H') | (simp only [hji5]; exact H')), ⟨by have := HK1.out; omega⟩, ⟨by repeat (first | (with_reducible first | exact HB.out | apply below_alloc | apply pw_below_drewN | apply below_drew1) | exact HB.out)⟩⟩
     ·
      rw [if_neg c7] at H
      exact absurd H (by simp)
    ·
     rw [if_neg c6] at H
     exact absurd H (by simp)
   ·
    rw [if_neg c4] at H
    have c4b0 : decide (x9_1 < x10_1) = false := decide_eq_false c4
    clear c4
    by_cases c12 : x9_1 < (l0.length : Int)
    ·
     rw [if_pos c12] at H
     have c12b0 : decide (x9_1 < (l0.length : Int)) = true := decide_eq_true c12
     clear c12
     by_cases c13 : 0 ≤ x9_1
     ·
      rw [if_pos c13] at H
      have c13b0 : decide (0 ≤ x9_1) = true := decide_eq_true c13
      clear c13
      by_cases c14 : x9_1 < (l0.length : Int)
      ·
       rw [if_pos c14] at H
       have c14b0 : decide (x9_1 < (l0.length : Int)) = true := decide_eq_true c14
       clear c14
       replace H := Option.bind_eq_some_iff.mp H
       obtain ⟨t307, A150, H⟩ := H
       replace H : (some (x9_1, (t307 == 0))) = some (r1, r2) := H
       have A15 := Aside0.mk A150
       clear A150
       simp only [Option.some.injEq, Prod.mk.injEq] at H
       obtain ⟨rfl, rfl⟩ := H
       have p306 : 0 ≤ (x9_1 : Int) := of_decide_eq_true (by first | (with_reducible assumption) | assumption)
       have q306 : x9_1 < (l0.length : Int) := of_decide_eq_true (by first | (with_reducible assumption) | assumption)
       obtain ⟨ad306, A306_6, c306_6, e306, hx306_0, hx306_1, hx306_2, hx306_3, hx306_4, hx306_5, hx306_6, hl306_6, hi306_6⟩ := at_T44 HR0.out x9_1 p306 q306
       cases e306
       replace hx306_0 := (HB.out.cell (World.block_lt_of_cell? w _ hx306_0)).trans hx306_0
       replace hx306_1 := (HB.out.cell (World.block_lt_of_cell? w _ hx306_1)).trans hx306_1
       replace hx306_2 := (HB.out.cell (World.block_lt_of_cell? w _ hx306_2)).trans hx306_2
       replace hx306_3 := (HB.out.cell (World.block_lt_of_cell? w _ hx306_3)).trans hx306_3
       replace hx306_4 := (HB.out.cell (World.block_lt_of_cell? w _ hx306_4)).trans hx306_4
       replace hx306_5 := (HB.out.cell (World.block_lt_of_cell? w _ hx306_5)).trans hx306_5
       replace hx306_6 := (HB.out.cell (World.block_lt_of_cell? w _ hx306_6)).trans hx306_6
       have HR306_6 := Aside0.mk hi306_6
       have HC306_6 := Aside0.mk hl306_6
       clear hi306_6 hl306_6
       replace p306 := eq_true p306
       replace q306 := eq_true q306
       go_wp2_with (first | (go_at_call 80; (with_reducible refine (tree_place_1.calls ((rd_T44 l0 x9_1).f0) ((rd_T44 l0 x9_1).f1) ((rd_T44 l0 x9_1).f2) ((rd_T44 l0 x9_1).f3) ((rd_T44 l0 x9_1).f4) ((rd_T44 l0 x9_1).f5) _ _ ((rd_T44 l0 x9_1).f6) a1 t307 _ ?side1 ?side2 A15.out).mono ?_); (case side1 => repeat (first | exact (Kd.C_below HR306_6.out HB.out) | (with_reducible refine Kd.C_alloc ?_ _) | (with_reducible refine Kd.C_drewN ?_ _) | (with_reducible refine Kd.C_drew ?_))); (case side2 => exact HC306_6.out); rintro e w16 ⟨rfl, hb⟩; have n0_ := Aside0.mk (below_step (by repeat (first | (with_reducible first | exact HB.out | apply below_alloc | apply pw_below_drewN | apply below_drew1) | exact HB.out)) hb); clear HB; have HB := n0_; clear n0_; (try clear hb); (try clear hb2); (try clear hk); (try clear hi)))
       go_ret2
       exact ⟨by first | rfl | (simp [errW_none, errW_some] <;> rfl) | (simp [*, errW_none, errW_some] <;> rfl), by repeat (first | (with_reducible first | exact HB.out | apply below_alloc | apply pw_below_drewN | apply below_drew1) | exact HB.out)⟩
      ·
       rw [if_neg c14] at H
       exact absurd H (by simp)
     ·
      rw [if_neg c13] at H
      exact absurd H (by simp)
    ·
     rw [if_neg c12] at H
     have c12b0 : decide (x9_1 < (l0.length : Int)) = false := decide_eq_false c12
     clear c12
     simp only [Option.some.injEq, Prod.mk.injEq] at H
     obtain ⟨rfl, rfl⟩ := H
     go_wp2
     go_ret2
     exact ⟨by first | rfl | (simp [errW_none, errW_some] <;> rfl) | (simp [*, errW_none, errW_some] <;> rfl), by repeat (first | (with_reducible first | exact HB.out | apply below_alloc | apply pw_below_drewN | apply below_drew1) | exact HB.out)⟩
end Go.Proofs.YtnpnablnnfekkaaDoor.PTr
namespace Go.Proofs.YtnpnablnnfekkaaDoor.PTr
open Go.RowKit Go.Proofs.YtnpnablnnfekkaaDoorW.PrintWords Go.Proofs.YtnpnablnnfekkaaDoorW.PrintLast Go.Proofs.YtnpnablnnfekkaaDoorW.PrintMore
attribute [local go_sem] max2_int min2_int max_two min_two max_three min_three max_four min_four   -- for this text's walks alone
set_option linter.unusedVariables false
set_option linter.unusedSimpArgs false
def tree_place.f (k : Nat) (l0_0 : List (S44)) (a0_1 : Int) (a0_2 : Int) (a0_3 : Int) (a1 : Int) : Option (Int × Bool) := (api_Node_int.f k l0_0 a1 77700080).bind fun bt309 => (some (bt309.1, bt309.2))
theorem tree_place.mono : ∀ a0 a1 a2 a3 a4 k, LeO (tree_place.f k a0 a1 a2 a3 a4) (tree_place.f (k + 1) a0 a1 a2 a3 a4) := by
 intro a0 a1 a2 a3 a4 k
 unfold tree_place.f
 repeat' first
   | (with_reducible exact api_Node_int.mono _ _ _ _)
   | (with_reducible exact LeO.refl _)
   | (with_reducible exact LeO.none _)
   | (with_reducible refine LeO.ite ?_ ?_)
   | (with_reducible refine LeO.bind ?_ (fun _ => ?_))
   | exact api_Node_int.mono _ _ _ _
   | exact LeO.none _
   | refine LeO.ite ?_ ?_
   | refine LeO.bind ?_ (fun _ => ?_)
set_option maxHeartbeats 8000000 in
set_option maxRecDepth 100000 in
theorem tree_place.calls (k : Nat) (A0_0 : Option Addr) (c0_0 : Nat) (l0_0 : List (S44)) (a0_1 : Int) (a0_2 : Int) (a0_3 : Int) (a1 : Int) (r1 : Int) (r2 : Bool) (w : World) (hr0_0 : Kd.C k44 w A0_0 l0_0.length l0_0) (hc0_0 : l0_0.length ≤ c0_0) (h : tree_place.f k l0_0 a0_1 a0_2 a0_3 a1 = some (r1, r2)) :
  Calls Tryd.prog 59 #[.agg #[.slice A0_0 l0_0.length c0_0, .int .i64 a0_1, .int .i64 a0_2, .int .i64 a0_3], .int .i64 a1] w fun e w' => e = .returned (.tuple #[.int .i64 r1, .bool r2]) ∧ Below w.heap.size w w' := by
 have hu26 := Tryd.underlying26
 have HR0_0 := Aside0.mk hr0_0
 have HC0_0 := Aside0.mk hc0_0
 clear hr0_0 hc0_0
 have HB := Aside0.mk (Below.refl w.heap.size w)
 have H : ((api_Node_int.f k l0_0 a1 77700080).bind fun bt309 => (some (bt309.1, bt309.2))) = some (r1, r2) := h
 clear h
 replace H := Option.bind_eq_some_iff.mp H
 obtain ⟨⟨t309, t310⟩, A30, H⟩ := H
 replace H : (some (t309, t310)) = some (r1, r2) := H
 have A3 := Aside0.mk A30
 clear A30
 simp only [Option.some.injEq, Prod.mk.injEq] at H
 obtain ⟨rfl, rfl⟩ := H
 go_enter Tryd.func59, Tryd.ntmps59
 go_wp2_with (first | ((with_reducible refine gate_dst (N := 2) rfl ?_); refine box_event ?hg (N := 2) ?hd (cs := #[.slice A0_0 l0_0.length c0_0, .int .i64 a0_1, .int .i64 a0_2, .int .i64 a0_3]) (t := 26) ?hr ?_; (case hd => rfl); (case hg => rfl); (case hr => first | (go_simp; done) | (go_simp; rfl)); intro gb308 hg w4 hbox hb; have n0_ := Aside0.mk (below_step (by repeat (first | (with_reducible first | exact HB.out | apply below_alloc | apply pw_below_drewN | apply below_drew1) | exact HB.out)) hb); have n1_ := Aside0.mk (hbox); have n2_ := Aside0.mk ((by rw [hg]; exact (below_size (by repeat (first | (with_reducible first | exact HB.out | apply below_alloc | apply pw_below_drewN | apply below_drew1) | exact HB.out))) : w.heap.size ≤ gb308)); have n3_ := Aside0.mk ((by rw [hg]; exact (below_size (by repeat (first | (with_reducible first | exact HB.out | apply below_alloc | apply pw_below_drewN | apply below_drew1) | exact HB.out))) : w.heap.size ≤ gb308)); clear HB; have HB := n0_; have BK308 := n1_; have GW308 := n2_; have GE308 := n3_; clear n0_ n1_ n2_ n3_; clear hb hbox hg; have hcz5_0 : w4.cell? ⟨gb308, 0, none⟩ = some (.slice A0_0 l0_0.length c0_0) := (blk_cell BK308.out 0).trans rfl; have hcz5_1 : w4.cell? ⟨gb308, 1, none⟩ = some (.int .i64 a0_1) := (blk_cell BK308.out 1).trans rfl; have hcz5_2 : w4.cell? ⟨gb308, 2, none⟩ = some (.int .i64 a0_2) := (blk_cell BK308.out 2).trans rfl; have hcz5_3 : w4.cell? ⟨gb308, 3, none⟩ = some (.int .i64 a0_3) := (blk_cell BK308.out 3).trans rfl; have hfz5_0 := blk_frozen BK308.out 0; have hfz5_1 := blk_frozen BK308.out 1; have hfz5_2 := blk_frozen BK308.out 2; have hfz5_3 := blk_frozen BK308.out 3) | ((with_reducible refine gate_callee (f := 79) rfl ?_); refine goesL_ (some 9) rfl rfl Tryd.func79 (by kernel_rfl) rfl #[.slice A0_0 l0_0.length c0_0, .int .i64 a1, .func (.func 80) #[] #[]] rfl (by (try simp only [List.map_toArray, List.map_cons, List.map_nil]); first | done | rfl | (simp only [List.length_drop, List.length_take]; rfl)) ?_; (with_reducible refine (api_Node_int.calls k _ _ l0_0 a1 77700080 t309 t310 _ ?side1 ?side2 A3.out).mono ?_); (case side1 => repeat (first | exact (Kd.C_below HR0_0.out HB.out) | (with_reducible refine Kd.C_alloc ?_ _) | (with_reducible refine Kd.C_drewN ?_ _) | (with_reducible refine Kd.C_drew ?_))); (case side2 => exact HC0_0.out); rintro e w6 ⟨rfl, hb⟩; refine ⟨_, rfl, ?_⟩; have n0_ := Aside0.mk (blk_below (g := gb308) (o := .cells #[.slice A0_0 l0_0.length c0_0, .int .i64 a0_1, .int .i64 a0_2, .int .i64 a0_3] 26 (0, 0)) (by (with_reducible repeat (first | refine blk_drewN ?_ _ | refine blk_drew ?_ | refine blk_alloc ?_ _)); exact BK308.out) hb); have n1_ := Aside0.mk (below_step (by repeat (first | (with_reducible first | exact HB.out | apply below_alloc | apply pw_below_drewN | apply below_drew1 | refine below_set ?_ GE308.out) | exact HB.out)) hb); clear BK308; clear HB; have BK308 := n0_; have HB := n1_; clear n0_ n1_; (try clear hb); (try clear hb2); (try clear hk); (try clear hi)))
 go_ret2
 exact ⟨by first | rfl | (simp [errW_none, errW_some] <;> rfl) | (simp [*, errW_none, errW_some] <;> rfl), by repeat (first | (with_reducible first | exact HB.out | apply below_alloc | apply pw_below_drewN | apply below_drew1 | refine below_set ?_ GE308.out) | exact HB.out)⟩
end Go.Proofs.YtnpnablnnfekkaaDoor.PTr
set_option linter.unusedVariables false
set_option linter.unusedSimpArgs false
namespace Go.Proofs.YtnpnablnnfekkaaDoor.PTr
open Go.RowKit Go.Proofs.YtnpnablnnfekkaaDoor Go.Proofs.YtnpnablnnfekkaaDoorW.PrintWords
/-- the numbers rise -/
def Rises (l : List Nod) : Prop := ∀ (i j : Nat) (hi : i < l.length) (hj : j < l.length), i < j → l[i].f0 < l[j].f0
theorem cmp_int (a b : Int) : cmp_Compare_int.f a b = some (if a < b then -1 else if a > b then 1 else 0) := by
 unfold cmp_Compare_int.f cmp_isNaN_int.f
 have h : ∀ x : Int, (x != x) = false := fun x => by simp
 simp only [h, Option.bind_some, Bool.false_eq_true, if_false]
 split <;> (try split) <;> rfl
theorem place_l0 (l : List Nod) (id : Int) (hl : l.length ≤ 5864062014805) (hr : Rises l) : ∀ (d k i j : Nat), j - i ≤ d → d < k → i ≤ j → j ≤ l.length → (∀ t (h : t < l.length), t < i → l[t].f0 < id) → (∀ t (h : t < l.length), j ≤ t → id ≤ l[t].f0) →
  ∃ (r : Nat) (b : Bool), api_Node_int.l0 k l id (l.length : Int) (i : Int) (j : Int) = some ((r : Int), b) ∧ (b = true → ∃ h : r < l.length, l[r].f0 = id) ∧ (b = false → ∀ x ∈ l, x.f0 ≠ id) := by
 intro d
 induction d with
 | zero =>
  intro k i j hd hk hij hj h1 h2
  obtain ⟨k, rfl⟩ : ∃ q, k = q + 1 := ⟨k - 1, by omega⟩
  have : i = j := by omega
  subst this
  unfold api_Node_int.l0
  rw [if_neg (by omega)]
  by_cases hi : i < l.length
  ·
   rw [if_pos (by omega), if_pos (by omega), if_pos (by omega), rdN l i hi]
   unfold tree_place_1.f
   rw [cmp_int]
   simp only [Option.bind_some]
   refine ⟨i, _, rfl, fun h => ?_, fun h x hx e => ?_⟩
   ·
    refine ⟨hi, ?_⟩
    have h3 := h2 i hi (Nat.le_refl _)
    simp only [beq_iff_eq] at h
    split at h
    ·
     omega
    ·
     split at h <;> omega
   ·
    obtain ⟨t, ht, rfl⟩ := List.getElem_of_mem hx
    have h3 := h2 i hi (Nat.le_refl _)
    rcases Nat.lt_trichotomy t i with h4 | h4 | h4
    ·
     have := h1 t ht h4; omega
    ·
     subst h4
     simp [e] at h
    ·
     have := hr i t hi ht h4
     omega
  ·
   rw [if_neg (by omega)]
   refine ⟨i, _, rfl, fun h => by simp at h, fun _ x hx e => ?_⟩
   obtain ⟨t, ht, rfl⟩ := List.getElem_of_mem hx
   have := h1 t ht (by omega); omega
 | succ d ih =>
  intro k i j hd hk hij hj h1 h2
  by_cases hlt : i < j
  ·
   obtain ⟨k, rfl⟩ : ∃ q, k = q + 1 := ⟨k - 1, by omega⟩
   have hm : wrap64 ((IntKind.u64.wrap (wrap64 ((i : Int) + (j : Int)))) / 2) = (((i + j) / 2 : Nat) : Int) := by
    rw [show wrap64 ((i : Int) + (j : Int)) = ((i + j : Nat) : Int) from by unfold wrap64; omega]
    rw [show IntKind.u64.wrap ((i + j : Nat) : Int) = ((i + j : Nat) : Int) from by rw [IntKind.wrap_u64]; omega]
    unfold wrap64; omega
   have hml : (i + j) / 2 < l.length := by omega
   unfold api_Node_int.l0
   rw [if_pos (by omega), hm, if_pos (by omega), if_pos (by omega), rdN l _ hml]
   unfold tree_place_1.f
   rw [cmp_int]
   simp only [Option.bind_some]
   by_cases hc : l[(i + j) / 2].f0 < id
   ·
    rw [if_pos hc, if_pos (by omega), show wrap64 ((((i + j) / 2 : Nat) : Int) + 1) = (((i + j) / 2 + 1 : Nat) : Int) from by unfold wrap64; omega]
    refine ih k _ j (by omega) (by omega) (by omega) hj (fun t ht htm => ?_) h2
    rcases Nat.lt_or_ge t ((i + j) / 2) with h4 | h4
    ·
     have := hr t _ ht hml h4; omega
    ·
     have : t = (i + j) / 2 := by omega
     subst this; exact hc
   ·
    rw [if_neg hc, if_neg (by split <;> omega)]
    refine ih k i _ (by omega) (by omega) (by omega) (by omega) h1 (fun t ht htm => ?_)
    rcases Nat.lt_or_ge ((i + j) / 2) t with h4 | h4
    ·
     have := hr _ t hml ht h4; omega
    ·
     have : t = (i + j) / 2 := by omega
     subst this; omega
  ·
   exact (by
    obtain ⟨k, rfl⟩ : ∃ q, k = q + 1 := ⟨k - 1, by omega⟩
    exact (by
     have : i = j := by omega
     subst this
     have := ih (k + 1) i i (by omega) (by omega) (Nat.le_refl _) hj h1 h2
     exact this))
/-- where a node is, if it is there -/
theorem place_any (l : List Nod) (a1 a2 a3 id : Int) (hl : l.length ≤ 5864062014805) (hr : Rises l) (k : Nat) (hk : l.length < k) :
  ∃ (r : Nat) (b : Bool), tree_place.f k l a1 a2 a3 id = some ((r : Int), b) ∧ (b = true → ∃ h : r < l.length, l[r].f0 = id) ∧ (b = false → ∀ x ∈ l, x.f0 ≠ id) := by
 obtain ⟨r, b, h1, h2⟩ := place_l0 l id hl hr l.length k 0 l.length (by omega) hk (by omega) (Nat.le_refl _) (fun t _ h => absurd h (by omega)) (fun t ht h => absurd h (by omega))
 refine ⟨r, b, ?_, h2⟩
 unfold tree_place.f api_Node_int.f
 rw [show (0 : Int) = ((0 : Nat) : Int) from rfl, h1]; rfl
end Go.Proofs.YtnpnablnnfekkaaDoor.PTr
set_option linter.unusedVariables false
namespace Go.Proofs.YtnpnablnnfekkaaDoor.TG
/-- a list without repeats inside another: no longer, and sums no greater -/
theorem sum_le {α : Type} [DecidableEq α] (f : α → Nat) : ∀ (l m : List α), l.Nodup → (∀ x ∈ l, x ∈ m) → (l.map f).sum ≤ (m.map f).sum := by
 intro l
 induction l with
 | nil => intro m _ _; simp
 | cons x r ih =>
  intro m hn hs
  have hx := hs x List.mem_cons_self
  have hp := List.perm_cons_erase hx
  have hs2 : (m.map f).sum = f x + ((m.erase x).map f).sum := by
   have := (hp.map f).sum_nat
   simpa using this
  have := ih (m.erase x) (List.nodup_cons.1 hn).2 (fun y hy => by
   have hne : y ≠ x := fun e => (List.nodup_cons.1 hn).1 (e ▸ hy)
   exact (List.mem_erase_of_ne hne).2 (hs y (List.mem_cons_of_mem _ hy)))
  simp only [List.map_cons, List.sum_cons]
  omega
theorem len_le {α : Type} [DecidableEq α] (l m : List α) (hn : l.Nodup) (hs : ∀ x ∈ l, x ∈ m) : l.length ≤ m.length := by
 have := sum_le (fun _ => 1) l m hn hs
 simpa [List.map_const', List.sum_replicate_nat] using this
theorem all_of_len {α : Type} [DecidableEq α] (l m : List α) (hn : l.Nodup) (_hm : m.Nodup) (hs : ∀ x ∈ l, x ∈ m) (h : m.length ≤ l.length) : ∀ x ∈ m, x ∈ l := by
 intro x hx
 apply Classical.byContradiction
 intro hc
 have := len_le (x :: l) m (List.nodup_cons.2 ⟨hc, hn⟩) (fun y hy => by
  rcases List.mem_cons.1 hy with h | h
  ·
   exact h ▸ hx
  ·
   exact hs y h)
 simp at this
 omega
theorem sum_eq {α : Type} [DecidableEq α] (f : α → Nat) (l m : List α) (hn : l.Nodup) (hm : m.Nodup) (hs : ∀ x ∈ l, x ∈ m) (h : m.length ≤ l.length) : (l.map f).sum = (m.map f).sum :=
 Nat.le_antisymm (sum_le f l m hn hs) (sum_le f m l hm (all_of_len l m hn hm hs h))
variable (ids : List Int) (ents : Int → List Int) (dir : Int → Bool)
/-- a node's entries, in order: each leads to a node; a directory was not met -/
def visit (keys : List Int) : List Int → Option (List Int)
 | [] => some keys
 | e :: r => if e ∈ ids ∧ ¬ (dir e = true ∧ e ∈ keys) then visit (if e ∈ keys then keys else keys ++ [e]) r else none
def bfs : Nat → Nat → List Int → Option (List Int)
 | 0, _, _ => none
 | k + 1, j, keys => match keys[j]? with
  | none => some keys
  | some x => (visit ids dir keys (ents x)).bind fun ks => bfs k (j + 1) ks
/-- how many entries of some nodes lead to one -/
def cnt (l : List Int) (e : Int) : Nat := (l.map fun x => (ents x).count e).sum
def way : Nat → List Int → Int → List Int
 | 0, l, _ => l
 | k + 1, l, id => if id ∈ l then l else if id ∈ ids then (ents id).foldl (way k) (l ++ [id]) else l
theorem visit_ok {keys es ks : List Int} (h : visit ids dir keys es = some ks) (hn : keys.Nodup) (hs : ∀ x ∈ keys, x ∈ ids) :
  ks.Nodup ∧ (∀ x ∈ ks, x ∈ ids) ∧ (∀ x, x ∈ ks ↔ x ∈ keys ∨ x ∈ es) ∧ (∀ e ∈ es, dir e = true → e ∉ keys ∧ es.count e ≤ 1) ∧ ∃ t, ks = keys ++ t := by
 induction es generalizing keys with
 | nil => cases h; exact ⟨hn, hs, by simp, by simp, [], by simp⟩
 | cons e r ih =>
  unfold visit at h
  split at h
  ·
   rename_i hc
   obtain ⟨hc1, hc2⟩ := hc
   have hnk : (if e ∈ keys then keys else keys ++ [e]).Nodup := by
    split
    ·
     exact hn
    ·
     rename_i hm
     rw [List.nodup_append]
     refine ⟨hn, by simp, fun a ha b hb => ?_⟩
     simp at hb; subst hb; intro e2; subst e2; exact hm ha
   have hsk : ∀ x ∈ (if e ∈ keys then keys else keys ++ [e]), x ∈ ids := by
    intro x hx
    split at hx
    ·
     exact hs x hx
    ·
     rcases List.mem_append.1 hx with h1 | h1
     ·
      exact hs x h1
     ·
      simp at h1; subst h1; exact hc1
   have hmem : ∀ x, x ∈ (if e ∈ keys then keys else keys ++ [e]) ↔ x ∈ keys ∨ x = e := by
    intro x
    split
    ·
     rename_i hm
     exact ⟨fun h => .inl h, fun h => h.elim id (fun h => h ▸ hm)⟩
    ·
     simp
   obtain ⟨a1, a2, a3, a4, t, a5⟩ := ih h hnk hsk
   refine ⟨a1, a2, fun x => ?_, fun y hy hd => ?_, ?_⟩
   ·
    rw [a3, hmem, List.mem_cons]; constructor
    ·
     rintro ((h | h) | h) <;> simp [h]
    ·
     rintro (h | h | h) <;> simp [h]
   ·
    by_cases hye : y = e
    ·
     subst hye
     have hk : y ∉ keys := fun h => hc2 ⟨hd, h⟩
     refine ⟨hk, ?_⟩
     have hr : y ∉ r := fun hr => (a4 y hr hd).1 ((hmem y).2 (.inr rfl))
     rw [List.count_cons_self, List.count_eq_zero_of_not_mem hr]; omega
    ·
     have hyr : y ∈ r := by
      rcases List.mem_cons.1 hy with h | h
      ·
       exact absurd h hye
      ·
       exact h
     obtain ⟨b1, b2⟩ := a4 y hyr hd
     refine ⟨fun h => b1 ((hmem y).2 (.inl h)), ?_⟩
     rw [List.count_cons_of_ne (fun h => hye h.symm)]; exact b2
   ·
    by_cases hm : e ∈ keys
    ·
     rw [if_pos hm] at a5; exact ⟨t, a5⟩
    ·
     rw [if_neg hm] at a5; exact ⟨[e] ++ t, by rw [a5, List.append_assoc]⟩
  ·
   cases h
theorem visit_pass {keys es : List Int} (hs : ∀ x ∈ es, x ∈ ids) (hd : ∀ e ∈ es, dir e = true → e ∉ keys ∧ es.count e ≤ 1) : ∃ ks, visit ids dir keys es = some ks := by
 induction es generalizing keys with
 | nil => exact ⟨_, rfl⟩
 | cons e r ih =>
  unfold visit
  rw [if_pos ⟨hs e List.mem_cons_self, fun h => (hd e List.mem_cons_self h.1).1 h.2⟩]
  refine ih (fun x hx => hs x (List.mem_cons_of_mem _ hx)) (fun y hy hy2 => ?_)
  obtain ⟨h1, h2⟩ := hd y (List.mem_cons_of_mem _ hy) hy2
  by_cases hye : y = e
  ·
   subst hye
   rw [List.count_cons_self] at h2
   have := List.count_pos_iff.2 hy
   omega
  ·
   rw [List.count_cons_of_ne (fun h => hye h.symm)] at h2
   refine ⟨?_, h2⟩
   split
   ·
    exact h1
   ·
    simp [h1, hye]
/-- what holds while nodes are gone through: the first j of the keys have been -/
structure Inv (j : Nat) (keys : List Int) : Prop where
 nd : keys.Nodup
 sub : ∀ x ∈ keys, x ∈ ids
 mem : ∀ x, x ∈ keys ↔ x = 1 ∨ ∃ y ∈ keys.take j, x ∈ ents y
 le : j ≤ keys.length
 one : ∀ e, dir e = true → (if e = 1 then 1 else 0) + cnt ents (keys.take j) e ≤ 1
theorem cnt_append (a b : List Int) (e : Int) : cnt ents (a ++ b) e = cnt ents a e + cnt ents b e := by simp [cnt]
theorem cnt_zero {l : List Int} {e : Int} (h : ∀ y ∈ l, e ∉ ents y) : cnt ents l e = 0 := by
 induction l with
 | nil => rfl
 | cons x r ih =>
  simp only [cnt, List.map_cons, List.sum_cons] at ih ⊢
  rw [ih (fun y hy => h y (List.mem_cons_of_mem _ hy)), List.count_eq_zero_of_not_mem (h x List.mem_cons_self)]
theorem cnt_pos {l : List Int} {e y : Int} (hy : y ∈ l) (h : e ∈ ents y) : 0 < cnt ents l e := by
 induction l with
 | nil => cases hy
 | cons x r ih =>
  simp only [cnt, List.map_cons, List.sum_cons] at ih ⊢
  rcases List.mem_cons.1 hy with h1 | h1
  ·
   subst h1; have := List.count_pos_iff.2 h; omega
  ·
   have := ih h1; omega
theorem inv_step {j : Nat} {keys ks : List Int} (hI : Inv ids ents dir j keys) (hj : j < keys.length) (h : visit ids dir keys (ents keys[j]) = some ks) : Inv ids ents dir (j + 1) ks := by
 obtain ⟨a1, a2, a3, a4, t, a5⟩ := visit_ok ids dir h hI.nd hI.sub
 have ht : ks.take (j + 1) = keys.take j ++ [keys[j]] := by
  rw [a5, List.take_append_of_le_length (by omega), List.take_succ_eq_append_getElem hj]
 refine ⟨a1, a2, fun x => ?_, by rw [a5, List.length_append]; omega, fun e hd => ?_⟩
 ·
  rw [a3, hI.mem, ht]
  constructor
  ·
   rintro ((h | ⟨y, hy, hx⟩) | h)
   ·
    exact .inl h
   ·
    exact .inr ⟨y, List.mem_append_left _ hy, hx⟩
   ·
    exact .inr ⟨_, List.mem_append_right _ (by simp), h⟩
  ·
   rintro (h | ⟨y, hy, hx⟩)
   ·
    exact .inl (.inl h)
   ·
    rcases List.mem_append.1 hy with h1 | h1
    ·
     exact .inl (.inr ⟨y, h1, hx⟩)
    ·
     simp at h1; subst h1; exact .inr hx
 ·
  rw [ht, cnt_append]
  have h0 := hI.one e hd
  have e1 : cnt ents [keys[j]] e = (ents keys[j]).count e := by simp [cnt]
  rw [e1]
  by_cases he : e ∈ ents keys[j]
  ·
   obtain ⟨b1, b2⟩ := a4 e he hd
   have n1 : e ≠ 1 := fun h => b1 ((hI.mem e).2 (.inl h))
   have n2 : cnt ents (keys.take j) e = 0 := cnt_zero ents (fun y hy hh => b1 ((hI.mem e).2 (.inr ⟨y, hy, hh⟩)))
   rw [if_neg n1, n2]; omega
  ·
   rw [List.count_eq_zero_of_not_mem he]; omega
theorem bfs_inv (k : Nat) : ∀ {j : Nat} {keys ks : List Int}, Inv ids ents dir j keys → bfs ids ents dir k j keys = some ks → Inv ids ents dir ks.length ks := by
 induction k with
 | zero => intro j keys ks _ h; cases h
 | succ k ih =>
  intro j keys ks hI h
  unfold bfs at h
  cases hj : keys[j]? with
  | none =>
   rw [hj] at h
   cases h
   have := List.getElem?_eq_none_iff.1 hj
   have e : j = keys.length := Nat.le_antisymm hI.le this
   exact e ▸ hI
  | some x =>
   rw [hj] at h
   obtain ⟨hl, rfl⟩ := List.getElem?_eq_some_iff.1 hj
   simp only at h
   cases hv : visit ids dir keys (ents keys[j]) with
   | none => rw [hv] at h; cases h
   | some k2 => rw [hv] at h; exact ih (inv_step ids ents dir hI hl hv) h
theorem inv_start (h1 : (1 : Int) ∈ ids) : Inv ids ents dir 0 [1] :=
 ⟨by simp, by simpa using h1, by simp, by simp, fun e _ => by simp [cnt]; split <;> omega⟩
/-- the way: without repeats, among the nodes; what was there stays ahead -/
theorem way_props (k : Nat) : ∀ (l : List Int) (id : Int), l.Nodup → (∀ x ∈ l, x ∈ ids) → (way ids ents k l id).Nodup ∧ (∀ x ∈ way ids ents k l id, x ∈ ids) ∧ ∃ t, way ids ents k l id = l ++ t := by
 induction k with
 | zero => intro l id h1 h2; exact ⟨h1, h2, [], by simp [way]⟩
 | succ k ih =>
  intro l id h1 h2
  unfold way
  split
  ·
   exact ⟨h1, h2, [], by simp⟩
  ·
   rename_i hm
   split
   ·
    rename_i hi
    have fold : ∀ (es : List Int) (m : List Int), m.Nodup → (∀ x ∈ m, x ∈ ids) → (es.foldl (way ids ents k) m).Nodup ∧ (∀ x ∈ es.foldl (way ids ents k) m, x ∈ ids) ∧ ∃ t, es.foldl (way ids ents k) m = m ++ t := by
     intro es
     induction es with
     | nil => intro m a b; exact ⟨a, b, [], by simp⟩
     | cons e r ihr =>
      intro m a b
      obtain ⟨c1, c2, t, c3⟩ := ih m e a b
      obtain ⟨d1, d2, u, d3⟩ := ihr _ c1 c2
      rw [List.foldl_cons]
      exact ⟨d1, d2, t ++ u, by rw [d3, c3, List.append_assoc]⟩
    obtain ⟨a, b, t, c⟩ := fold (ents id) (l ++ [id]) (by
      rw [List.nodup_append]
      refine ⟨h1, by simp, fun a ha b hb => ?_⟩
      simp at hb; subst hb; intro e; subst e; exact hm ha) (fun x hx => by
      rcases List.mem_append.1 hx with h | h
      ·
       exact h2 x h
      ·
       simp at h; subst h; exact hi)
    exact ⟨a, b, [id] ++ t, by rw [c, List.append_assoc]⟩
   ·
    exact ⟨h1, h2, [], by simp⟩
/-- any set that holds the root of the way and is closed holds the way -/
theorem way_in (S : Int → Prop) (hc : ∀ x, S x → x ∈ ids → ∀ e ∈ ents x, S e) (k : Nat) : ∀ (l : List Int) (id : Int), (∀ x ∈ l, S x) → S id → ∀ x ∈ way ids ents k l id, S x := by
 induction k with
 | zero => intro l id h _ x hx; exact h x hx
 | succ k ih =>
  intro l id h hS x hx
  unfold way at hx
  split at hx
  ·
   exact h x hx
  ·
   split at hx
   ·
    rename_i hi
    have fold : ∀ (es : List Int) (m : List Int), (∀ e ∈ es, S e) → (∀ x ∈ m, S x) → ∀ x ∈ es.foldl (way ids ents k) m, S x := by
     intro es
     induction es with
     | nil => intro m _ b; exact b
     | cons e r ihr =>
      intro m a b
      rw [List.foldl_cons]
      exact ihr _ (fun e he => a e (List.mem_cons_of_mem _ he)) (ih m e b (a e List.mem_cons_self))
    refine fold (ents id) (l ++ [id]) (hc id hS hi) (fun y hy => ?_) x hx
    rcases List.mem_append.1 hy with h1 | h1
    ·
     exact h y h1
    ·
     simp at h1; subst h1; exact hS
   ·
    exact h x hx
/-- with rounds enough the way is closed over what it met, but for what was there -/
theorem way_closed (_hn : ids.Nodup) (k : Nat) : ∀ (l : List Int) (id : Int), l.Nodup → (∀ x ∈ l, x ∈ ids) → id ∈ ids → ids.length < k + l.length → (∀ x ∈ ids, ∀ e ∈ ents x, e ∈ ids) →
  id ∈ way ids ents k l id ∧ ∀ x ∈ way ids ents k l id, x ∉ l → ∀ e ∈ ents x, e ∈ way ids ents k l id := by
 induction k with
 | zero => intro l id a b c d; have := len_le l ids a b; omega
 | succ k ih =>
  intro l id a b c d hcl
  unfold way
  by_cases hm : id ∈ l
  ·
   rw [if_pos hm]; exact ⟨hm, fun x hx h => absurd hx h⟩
  ·
   rw [if_neg hm, if_pos c]
   have hnd : (l ++ [id]).Nodup := by
    rw [List.nodup_append]
    refine ⟨a, by simp, fun a' ha b' hb => ?_⟩
    simp at hb; subst hb; intro e; subst e; exact hm ha
   have hsb : ∀ x ∈ l ++ [id], x ∈ ids := fun x hx => by
    rcases List.mem_append.1 hx with h | h
    ·
     exact b x h
    ·
     simp at h; subst h; exact c
   have fold : ∀ (es : List Int) (m : List Int), m.Nodup → (∀ x ∈ m, x ∈ ids) → (∀ e ∈ es, e ∈ ids) → l.length + 1 ≤ m.length →
     (∀ e ∈ es, e ∈ es.foldl (way ids ents k) m) ∧ (∀ x ∈ m, x ∈ es.foldl (way ids ents k) m) ∧ ∀ x ∈ es.foldl (way ids ents k) m, x ∉ m → ∀ e ∈ ents x, e ∈ es.foldl (way ids ents k) m := by
    intro es
    induction es with
    | nil => intro m _ _ _ _; exact ⟨by simp, fun x hx => hx, fun x hx h => absurd hx h⟩
    | cons e r ihr =>
     intro m p1 p2 p3 p4
     obtain ⟨q1, q2⟩ := ih m e p1 p2 (p3 e List.mem_cons_self) (by omega) hcl
     obtain ⟨c1, c2, t, c3⟩ := way_props ids ents k m e p1 p2
     obtain ⟨r1, r2, r3⟩ := ihr (way ids ents k m e) c1 c2 (fun e he => p3 e (List.mem_cons_of_mem _ he)) (by rw [c3, List.length_append]; omega)
     rw [List.foldl_cons]
     refine ⟨fun y hy => ?_, fun x hx => r2 x (by rw [c3]; exact List.mem_append_left _ hx), fun x hx hxm f hf => ?_⟩
     ·
      rcases List.mem_cons.1 hy with h | h
      ·
       subst h; exact r2 _ q1
      ·
       exact r1 y h
     ·
      by_cases hw : x ∈ way ids ents k m e
      ·
       exact r2 f (q2 x hw hxm f hf)
      ·
       exact r3 x hx hw f hf
   obtain ⟨f1, f2, f3⟩ := fold (ents id) (l ++ [id]) hnd hsb (hcl id c) (by simp)
   refine ⟨f2 id (by simp), fun x hx hxl e he => ?_⟩
   by_cases hxi : x = id
   ·
    subst hxi; exact f1 e he
   ·
    exact f3 x hx (by simp [hxl, hxi]) e he
theorem bfs_in (S : Int → Prop) (hc : ∀ x, S x → ∀ e ∈ ents x, S e) (k : Nat) : ∀ {j : Nat} {keys ks : List Int}, Inv ids ents dir j keys → bfs ids ents dir k j keys = some ks → (∀ x ∈ keys, S x) → ∀ x ∈ ks, S x := by
 induction k with
 | zero => intro j keys ks _ h; cases h
 | succ k ih =>
  intro j keys ks hI h hS
  unfold bfs at h
  cases hj : keys[j]? with
  | none => rw [hj] at h; cases h; exact hS
  | some x =>
   rw [hj] at h
   obtain ⟨hl, rfl⟩ := List.getElem?_eq_some_iff.1 hj
   simp only at h
   cases hv : visit ids dir keys (ents keys[j]) with
   | none => rw [hv] at h; cases h
   | some k2 =>
    rw [hv] at h
    refine ih (inv_step ids ents dir hI hl hv) h (fun x hx => ?_)
    rcases ((visit_ok ids dir hv hI.nd hI.sub).2.2.1 x).1 hx with h1 | h1
    ·
     exact hS x h1
    ·
     exact hc _ (hS _ (List.getElem_mem hl)) x h1
def refOK (k : Nat) : Prop := (∀ x ∈ ids, ∀ e ∈ ents x, e ∈ ids) ∧ cnt ents ids 1 = 0 ∧ (∀ x ∈ ids, x ≠ 1 → 0 < cnt ents ids x) ∧ (∀ x ∈ ids, dir x = true → cnt ents ids x ≤ 1) ∧ (way ids ents k [] 1).length = ids.length
theorem ref_of_prog (hn : ids.Nodup) (h1 : (1 : Int) ∈ ids) (hd1 : dir 1 = true) (k k2 : Nat) (ks : List Int) (h : bfs ids ents dir k 0 [1] = some ks) (hl : ks.length = ids.length) (hk : ids.length < k2) : refOK ids ents dir k2 := by
 have hI := bfs_inv ids ents dir k (inv_start ids ents dir h1) h
 have hall := all_of_len ks ids hI.nd hn hI.sub (by omega)
 have hc : ∀ e, cnt ents ks e = cnt ents ids e := fun e => sum_eq _ ks ids hI.nd hn hI.sub (by omega)
 have hm := hI.mem
 have ho := hI.one
 rw [List.take_length] at hm ho
 have hcl : ∀ x ∈ ids, ∀ e ∈ ents x, e ∈ ids := fun x hx e he => hI.sub e ((hm e).2 (.inr ⟨x, hall x hx, he⟩))
 refine ⟨hcl, ?_, fun x hx hx1 => ?_, fun x hx hd => ?_, ?_⟩
 ·
  have := ho 1 hd1
  rw [if_pos rfl, hc] at this
  omega
 ·
  rw [← hc]
  rcases (hm x).1 (hall x hx) with h | ⟨y, hy, he⟩
  ·
   exact absurd h hx1
  ·
   exact cnt_pos ents hy he
 ·
  have := ho x hd
  rw [hc] at this
  split at this <;> omega
 ·
  obtain ⟨w1, w2, t, w3⟩ := way_props ids ents k2 [] 1 (by simp) (by simp)
  obtain ⟨c1, c2⟩ := way_closed ids ents hn k2 [] 1 (by simp) (by simp) h1 (by simpa using hk) hcl
  refine Nat.le_antisymm (len_le _ _ w1 w2) ?_
  have hS : ∀ x ∈ ks, x ∈ way ids ents k2 [] 1 := bfs_in ids ents dir (fun x => x ∈ way ids ents k2 [] 1) (fun x hx e he => c2 x hx (by simp) e he) k (inv_start ids ents dir h1) h (fun x hx => by
   simp at hx; subst hx; exact c1)
  have := len_le ks _ hI.nd hS
  omega
theorem prog_of_ref (hn : ids.Nodup) (h1 : (1 : Int) ∈ ids) (k k2 : Nat) (hk : ids.length < k) (hr : refOK ids ents dir k2) : ∃ ks, bfs ids ents dir k 0 [1] = some ks ∧ ks.length = ids.length := by
 obtain ⟨hcl, hl0, hl1, hl2, hw⟩ := hr
 have pass : ∀ (k j : Nat) (keys : List Int), Inv ids ents dir j keys → ids.length < k + j → ∃ ks, bfs ids ents dir k j keys = some ks := by
  intro k
  induction k with
  | zero =>
   intro j keys hI hj
   have := len_le keys ids hI.nd hI.sub
   have := hI.le
   omega
  | succ k ih =>
   intro j keys hI hj
   unfold bfs
   cases hg : keys[j]? with
   | none => exact ⟨_, rfl⟩
   | some x =>
    obtain ⟨hl, rfl⟩ := List.getElem?_eq_some_iff.1 hg
    have hxi := hI.sub _ (List.getElem_mem hl)
    have hnd : (keys.take (j + 1)).Nodup := hI.nd.sublist (List.take_sublist _ _)
    have hle : ∀ e, cnt ents (keys.take j) e + (ents keys[j]).count e ≤ cnt ents ids e := fun e => by
     have := sum_le (fun x => (ents x).count e) (keys.take (j + 1)) ids hnd (fun x hx => hI.sub x (List.mem_of_mem_take hx))
     rw [List.take_succ_eq_append_getElem hl] at this
     simp only [cnt, List.map_append, List.sum_append, List.map_cons, List.map_nil, List.sum_cons, List.sum_nil] at this ⊢
     omega
    obtain ⟨k2, hv⟩ := visit_pass ids dir (keys := keys) (es := ents keys[j]) (fun e he => hcl _ hxi e he) (fun e he hd => by
     have hei := hcl _ hxi e he
     have hc := List.count_pos_iff.2 he
     have h2 := hl2 e hei hd
     have h3 := hle e
     refine ⟨fun hm => ?_, by omega⟩
     rcases (hI.mem e).1 hm with h | ⟨y, hy, hye⟩
     ·
      subst h; omega
     ·
      have := cnt_pos ents hy hye; omega)
    obtain ⟨ks, hks⟩ := ih (j + 1) k2 (inv_step ids ents dir hI hl hv) (by omega)
    exact ⟨ks, by simp only; rw [hv]; exact hks⟩
 obtain ⟨ks, hks⟩ := pass k 0 [1] (inv_start ids ents dir h1) (by omega)
 refine ⟨ks, hks, ?_⟩
 have hI := bfs_inv ids ents dir k (inv_start ids ents dir h1) hks
 have hm := hI.mem
 rw [List.take_length] at hm
 have hle := len_le ks ids hI.nd hI.sub
 obtain ⟨w1, w2, t, w3⟩ := way_props ids ents k2 [] 1 (by simp) (by simp)
 have := way_in ids ents (fun x => x ∈ ks) (fun x hx _ e he => (hm e).2 (.inr ⟨x, hx, he⟩)) k2 [] 1 (by simp) ((hm 1).2 (.inl rfl))
 have := len_le _ ks w1 this
 omega
end Go.Proofs.YtnpnablnnfekkaaDoor.TG
