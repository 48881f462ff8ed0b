/- strings.SplitSeq at a slash: what it hands over. -/
import Derived.Test.YtnpnablnnfekkaaDoorIt
import Derived.Test.YtnpnablnnfekkaaDoorCut
set_option linter.unusedVariables false
set_option linter.unusedSimpArgs false
namespace Go.Proofs.YtnpnablnnfekkaaDoor
open Go.RowKit Go.Shelf

attribute [local go_sem] Oper.semAt_some

def slash : ByteArray := ⟨#[47]⟩
/-- the three variables that the iterator has captured, from block b on -/
structure Vars3 (W : World) (b : Nat) (s : ByteArray) : Prop where
  s : Boxed W b 9 (.string s)
  sep : Boxed W (b + 1) 9 (.string ⟨#[47]⟩)
  save : Boxed W (b + 2) 3 (.int .i64 0)
def Kp3 (b : Nat) (A B : World) : Prop := ∀ k, b ≤ k → k < b + 3 → B.heap[k]? = A.heap[k]?
theorem Kp3.trans {b : Nat} {A B C : World} (h : Kp3 b A B) (k : Kp3 b B C) : Kp3 b A C := fun i h1 h2 => (k i h1 h2).trans (h i h1 h2)
theorem Vars3.kept {A B : World} {b : Nat} {s : ByteArray} (h : Vars3 A b s) (k : Kp3 b A B) : Vars3 B b s :=
  ⟨(k b (by omega) (by omega)).trans h.s, (k (b + 1) (by omega) (by omega)).trans h.sep, (k (b + 2) (by omega) (by omega)).trans h.save⟩
theorem Vars3.set {A : World} {b : Nat} {s : ByteArray} (h : Vars3 A b s) (x : ByteArray) : Vars3 (A.setCell ⟨b, 0, none⟩ (.string x)) b x :=
  ⟨h.s.set _, h.sep.other (by omega) _, h.save.other (by omega) _⟩
def boxLen (W : World) (b : Nat) : Nat := match W.cell? ⟨b, 0, none⟩ with | some (.string s) => s.size | _ => 0
theorem Vars3.len {A : World} {b : Nat} {s : ByteArray} (h : Vars3 A b s) : boxLen A b = s.size := by simp [boxLen, h.s.cell]
theorem asB_size (l : List UInt8) : (asB l).size = l.length := by simp [asB, ByteArray.size]

theorem extract_size (s : ByteArray) (a : Nat) : (s.extract a s.size).size = s.size - a := by simp [ByteArray.size_extract]

set_option maxRecDepth 100000 in
set_option maxHeartbeats 1000000 in
theorem split1 (n b : Nat) (s0 : ByteArray) (w : World) (hn : 1 ≤ n) (hb : b + 2 < w.heap.size) (hs0 : s0.size ≤ maxLen) (hv : Vars3 w b s0) :
    SeqC Fence.wide n Tryd.prog 97 #[.pointer (some ⟨b + 1, 0, none⟩), .pointer (some ⟨b, 0, none⟩), .pointer (some ⟨b + 2, 0, none⟩)] (Kp3 b) b (pieces s0) w := by
  intro l J Jx W hW hJc hY h0
  have hvW : Vars3 W b s0 := ⟨(hW.block b (by omega)).trans hv.s, (hW.block (b + 1) (by omega)).trans hv.sep, (hW.block (b + 2) (by omega)).trans hv.save⟩
  have s0c := hvW.s.cell
  have c1 := hvW.sep.cell
  refine callsIn_of_wp Tryd.func97 rfl trivial ?_ rfl
  simp only [Tryd.ntmps97, List.size_toArray, List.length_cons, List.length_nil, Nat.reduceAdd, Nat.reduceSub, Array.replicate_succ, Array.replicate_zero, List.push_toArray, List.append_toArray, List.nil_append, List.cons_append]
  gi_wp2
  gi_loopw [7] (fun _ wr => ∃ (pre : List ByteArray) (rest : ByteArray), Hid (pre ++ pieces rest = pieces s0) ∧ rest.size ≤ maxLen ∧ Hid (Vars3 wr b rest) ∧ J pre wr) (fun _ wr => boxLen wr b)
  case atStart => exact ⟨[], s0, Lib.hid rfl, hs0, Lib.hid hvW, h0⟩
  case round =>
    obtain ⟨pre, rest, hx, hsz, hvr, hJ⟩ := hrel
    have c0' := hvr.out.s.cell
    have z0' := hvr.out.s.frozen
    have c1' := hvr.out.sep.cell
    have c2' := hvr.out.save.cell
    unfold maxLen at hsz
    by_cases hneg : Lib.indexByte rest.data.toList 47 = -1
    · have hp := Lib.hid (pieces_none hneg)
      have hneg' : Lib.indexByte rest.data.toList 47 < 0 := by omega
      have hy0 : pre ++ [rest] <+: pieces s0 := by rw [← hx.out, hp.out]; exact List.prefix_rfl
      obtain ⟨fn, tmps, assign, body, hy, hR⟩ := hY pre rest wr hy0 hJ
      clear hneg
      gi_wp2_with (refine ⟨trivial, ?_⟩; gi_at_call 99; refine (callsIn_wide.2 (Tryd.strings_Index_one rest 47 _)).mono ?_; rintro e w' ⟨rfl, rfl⟩)
      refine hR.mono ?_
      rintro e W3 (⟨rfl, hJ3, hk3⟩ | ⟨rfl, hJx3⟩)
      · gi_wp2
        go_end0
        refine ⟨⟨_, rfl⟩, .inl ?_⟩
        rw [← hx.out, hp.out]; exact hJ3
      · gi_wp2
        go_end0
        exact ⟨⟨_, rfl⟩, .inr ⟨_, hy0, hJx3⟩⟩
    · obtain ⟨o, ho⟩ : ∃ o : Nat, Lib.indexByte rest.data.toList 47 = o := ⟨(Lib.indexByte rest.data.toList 47).toNat, by have := Lib.indexByte_ge rest.data.toList 47; omega⟩
      have hp := Lib.hid (pieces_cut ho)
      have hlt : o < rest.size := by have := indexByte_lt ho; simpa using this
      have ho' := Lib.hid ho
      have hy0 : pre ++ [rest.extract 0 o] <+: pieces s0 := by rw [← hx.out, hp.out]; exact ⟨pieces (rest.extract (o + 1) rest.size), by simp⟩
      obtain ⟨fn, tmps, assign, body, hy, hR⟩ := hY pre _ wr hy0 hJ
      clear hneg ho
      gi_wp2_with (refine ⟨trivial, ?_⟩; gi_at_call 99; refine (callsIn_wide.2 (Tryd.strings_Index_one rest 47 _)).mono ?_; rintro e w' ⟨rfl, rfl⟩; rw [ho'.out])
      refine hR.mono ?_
      rintro e W3 (⟨rfl, hJ3, hk3⟩ | ⟨rfl, hJx3⟩)
      · have hv3 := Lib.hid (hvr.out.kept hk3)
        have c0'' := hv3.out.s.cell
        have z0'' := hv3.out.s.frozen
        have c1'' := hv3.out.sep.cell
        clear c0' z0' c1' c2'
        gi_wp2
        go_roundw
        case rel => exact ⟨_, _, Lib.hid (by rw [← hx.out, hp.out]; simp), by rw [extract_size]; unfold maxLen; omega, Lib.hid (hv3.out.set _), hJc _ _ _ hJ3⟩
        case measure => rw [(hv3.out.set _).len, hvr.out.len, extract_size]; omega
      · gi_wp2
        refine bodyPost_ret (results_none rfl _ _ _) rfl ?_
        exact ⟨⟨_, rfl⟩, .inr ⟨_, hy0, hJx3⟩⟩

theorem splitSeq_call (s : ByteArray) (w : World) :
    Calls Tryd.prog 72 #[.string s, .string ⟨#[47]⟩] w fun e w' =>
      e = .returned (.func (.func 97) #[] #[.pointer (some ⟨w.heap.size + 1, 0, none⟩), .pointer (some ⟨w.heap.size, 0, none⟩), .pointer (some ⟨w.heap.size + 2, 0, none⟩)]) ∧
      w' = ((w.alloc (.cells #[.string s] 9)).alloc (.cells #[.string ⟨#[47]⟩] 9)).alloc (.cells #[.int .i64 0] 3) := by
  go_enter Tryd.func72, Tryd.ntmps72
  go_wp2
  go_ret
  exact ⟨rfl, rfl⟩
theorem vars3_new (s : ByteArray) (w : World) :
    Vars3 (((w.alloc (.cells #[.string s] 9)).alloc (.cells #[.string ⟨#[47]⟩] 9)).alloc (.cells #[.int .i64 0] 3)) w.heap.size s := by
  have h1 := Boxed.new w 9 (.string s)
  have h2 := Boxed.new (w.alloc (.cells #[.string s] 9)) 9 (.string ⟨#[47]⟩)
  have h3 := Boxed.new ((w.alloc (.cells #[.string s] 9)).alloc (.cells #[.string ⟨#[47]⟩] 9)) 3 (.int .i64 0)
  simp only [World.size_alloc] at h2 h3
  exact ⟨(h1.alloc _).alloc _, h2.alloc _, h3⟩
end Go.Proofs.YtnpnablnnfekkaaDoor
