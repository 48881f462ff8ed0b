/- Texts of this claim's proof: small lemmas, walks and plain laws (merged by wip/shake.py). -/
import Derived.Test.YtgcbipflmhbpcaaQp0
import Derived.Test.YtgcbipflmhbpcaaQp1
import Derived.Deep.LoopGhost
import Derived.Lib.Walk
import Derived.Lib.SliceRun
import Derived.Shelf.RegionOpenPlain
import Derived.Laws.CopyOwn
import Derived.Maps.AppendAt
import Derived.Laws.CopyRow
import Derived.Lib.AppendZerosOnto
import Derived.Lib.Overlaps
import Derived.Deep.RegionLaw
set_option linter.unusedVariables false
set_option linter.unusedSimpArgs false
namespace Go.Proofs.Ytgcbipflmhbpcaa
open Go.RowKit Go.Proofs.YtgcbipflmhbpcaaW.PrintWords Go.Proofs.YtgcbipflmhbpcaaW.PrintLast Go.Proofs.YtgcbipflmhbpcaaW.PrintMore
/-- the cells of a row that a slice of n elements, of sz cells each, shows -/
def Lies (w : World) (A : Option Addr) (cs : List Value) : Prop := cs = [] ∨ ∃ ad, A = some ad ∧ ∀ j u, cs[j]? = some u → w.cell? (ad.add j) = some u
theorem info_split {A B C D : Type} {o : Option A} {f : A → B} {g : A → C} {h : A → D} {x : B} {y : C} {z : D} (e : o.map (fun i => (f i, g i, h i)) = some (x, y, z)) : ∃ i, o = some i ∧ f i = x ∧ g i = y ∧ h i = z := by
  cases o with
  | none => cases e
  | some i => simp only [Option.map_some, Option.some.injEq, Prod.mk.injEq] at e; exact ⟨i, rfl, e⟩
theorem infoStr : (Try.prog.info? 9).map (fun i => (i.zero, i.size, i.bytes)) = some (some (.string ByteArray.empty), 1, 16) := by kernel_rfl
theorem infoVar : (Try.prog.info? 26).map (fun i => (i.zero, i.size, i.bytes)) = some (some (.agg #[.string ByteArray.empty, .string ByteArray.empty]), 2, 32) := by kernel_rfl
set_option maxHeartbeats 2000000 in
set_option maxRecDepth 100000 in
theorem copyS_any (A : Option Addr) (n c : Nat) (cs : List Value) (w : World) (hn : cs.length = n) (h : Lies w A cs) (h1 : ∀ u ∈ cs, u.oneCell' = true) (hl : n ≤ 1000000000000) :
    Calls Try.prog 42 #[.slice A n c] w fun e w' => ∃ v, e = .returned v ∧ w'.ownsRow w.heap.size 9 1 v n cs ∧ Below w.heap.size w w' := by
  obtain ⟨i0, hi, hz0, hz1, hz2⟩ := info_split infoStr
  cases A with
  | none =>
    have h0 : cs = [] := by
      rcases h with h | ⟨ad, e, _⟩
      · exact h
      · cases e
    subst h0
    cases hn
    go_enter Try.func42, Try.ntmps42
    go_wp2
    go_ret
    exact ⟨_, rfl, World.ownsRow_nil _ _ _ _, Below.refl _ _⟩
  | some ad =>
    have hc : ∀ j u, cs[j]? = some u → w.cell? (ad.add j) = some u := by
      rcases h with rfl | ⟨a, e, hc⟩
      · intro j u hj; simp at hj
      · injection e with e; subst e; exact hc
    have HC := Lib.hid hc
    have H1 := Lib.hid h1
    clear hc h1
    go_enter Try.func42, Try.ntmps42
    go_wp2_with (at_builtin; refine wpList_append_own _ rfl _ _ 23 rfl w.heap.size 9 i0 _ 1 16 Try.underlying23 hi hz0 hz1 hz2 rfl (by decide) _ _ _ rfl (World.ownsRow_nil _ _ _ _) ad n c cs rfl ?qc1 ?qc2 ?qc3 ?qc4 ?qc5 ?qc6 ?_)
    case qc1 => omega
    case qc2 => exact fun j u hj => HC.out j u hj
    case qc3 => exact H1.out
    case qc4 => unfold maxLen; omega
    case qc5 => omega
    case qc6 => simp
    intro v' w1 hown hgrow hnil
    go_wp2
    go_ret
    refine ⟨v', rfl, by simpa using hown, ?_⟩
    exact (Below.refl _ w).grown hgrow (by simp) (by intro k hk; simp [Value.ownBlock] at hk)
end Go.Proofs.Ytgcbipflmhbpcaa
set_option linter.unusedVariables false
set_option linter.unusedSimpArgs false
namespace Go.Proofs.Ytgcbipflmhbpcaa
open Go Go.RowKit Go.Proofs.YtgcbipflmhbpcaaW.PrintWords Go.Proofs.YtgcbipflmhbpcaaW.PrintLast Go.Proofs.YtgcbipflmhbpcaaW.PrintMore
theorem run_copy_rowK {P : Program} (w : World) (dT sT ty elem : TypeId) (sz g o dLen dCap : Nat) (a : Addr) (sLen sCap : Nat) (cur : Array Value) (t : TypeId) (cs : List Value)
    (hu : P.underlying dT = some (.slice elem)) (hs : (P.info? elem).map (·.size) = some sz)
    (hg : w.heap[g]? = some (.cells cur t (0, 0))) (hn : cs.length = Nat.min sLen dLen * sz)
    (hsrc : ∀ j v, cs[j]? = some v → w.cell? (a.add j) = some v) (hfit : o + cs.length ≤ cur.size) (h1 : ∀ v ∈ cs, v.oneCell' = true) :
    (Builtin.copy_ #[dT, sT] ty #[.slice (some ⟨g, o, none⟩) dLen dCap, .slice (some a) sLen sCap]).run P w =
      .ok (goInt (Nat.min sLen dLen)) (w.setRow g (cur.toList.take o ++ cs ++ cur.toList.drop (o + cs.length)).toArray) := by
  have hl := run_loadCells_list (P := P) w a cs hsrc
  have hst := run_storeCells_at P g o t cs 0 cur w hg (by simpa using hfit) h1
  cases hq : P.info? elem with
  | none => simp [hq] at hs
  | some i =>
    have hi : i.size = sz := by simpa [hq] using hs
    simp [Builtin.copy_, run_underlying hu, Builtin.lenOf, Builtin.firstCells, sizeOf, typeInfo, hq, hi, ← hn, hl, hst]
theorem wpList_copyK {P : Program} (w : World) {ops : Array Oper} {rest : List Oper} {o : Oper} {a : Act} {Q : Exit → Act → World → Prop} (hgd : o.guard = none) (d s : Operand) (t t' : TypeId)
    (ho : o.op = .call { callee := .builtin .copy, args := #[d, s], argTypes := #[t, t'] }) (v u : Value) (hd : a.eval d = v) (hs : a.eval s = u) {v' : Value} {w' : World}
    (hr : (Builtin.copy_ #[t, t'] o.type #[v, u]).run P w = .ok v' w') (h : wpList P ops Q rest (a.put o.dst v') w') : wpList P ops Q (o :: rest) a w := by
  refine wpList_plain hgd fun _ hK => ?_
  unfold Oper.wp execOp
  simp only [ho, resolve, invoke, builtin, Sem.run_bind, Sem.run_pure, Result.andThen_ok, List.map_toArray, List.map_cons, List.map_nil, hd, hs, hr]
  exact hK _ _ h
theorem step_copyK {P : Program} {ops : Array Oper} {o : Oper} {a : Act} {w : World} {K : Act → World → Prop} {Q : Exit → Act → World → Prop} {E : Prop}
    (hg : o.guard = none) (d x : Operand) (dT sT : TypeId) (hop : o.op = Op.call { callee := Callee.builtin Builtin.copy, args := #[d, x], argTypes := #[dT, sT] })
    (v u : Value) (hd : a.eval d = v) (hx : a.eval x = u) {v' : Value} {w' : World} (hr : (Builtin.copy_ #[dT, sT] o.type #[v, u]).run P w = .ok v' w') (hK : K (a.put o.dst v') w') :
    if Region.wanted o (yielded ops a.tmps) = true then Oper.wp P o a w K Q else E := by
  have hw : Region.wanted o (yielded ops a.tmps) = true := by simp [Region.wanted, hg]
  rw [if_pos hw]
  unfold Oper.wp
  simp [execOp, hop, resolve, invoke, builtin, hd, hx, hr, Result.andThen]
  exact hK
/-- a row with a part laid over -/
theorem setRow_blk {w : World} {g t : Nat} {cur : Array Value} (hg : w.heap[g]? = some (.cells cur t (0, 0))) (cs : Array Value) : (w.setRow g cs).heap[g]? = some (.cells cs t (0, 0)) := setRow_heap w g cur cs t _ hg
set_option maxHeartbeats 4000000 in
set_option maxRecDepth 100000 in
/-- slices.Insert of one variable at the end -/
theorem insert_end (B b : Nat) (w : World) (n : Nat) (v : Value) (cs : List Value) (nm vl : ByteArray) (gv : Nat) (hB : B ≤ w.heap.size) (ho : w.ownsRow B 26 2 v n cs) (hv : w.heap[gv]? = some (.cells #[.string nm, .string vl] 26 (0, 0))) (hn : n ≤ 1000) :
    Calls Try.prog 39 #[v, .int .i64 n, .slice (some ⟨gv, 0, none⟩) 1 1] w fun e w' => ∃ v', e = .returned v' ∧ w'.ownsRow B 26 2 v' (n + 1) (cs ++ [.string nm, .string vl]) ∧ w.grownBy w' v.ownBlock ∧ (v'.ownBlock = v.ownBlock ∨ ∃ b, v'.ownBlock = some b ∧ w.heap.size ≤ b) := by
  obtain ⟨i0, hi, hz0, hz1, hz2⟩ := info_split infoVar
  have HO := Lib.hid ho
  have HN := Lib.hid hn
  have HB := Lib.hid hB
  obtain ⟨A, c, rfl⟩ := own_slice ho
  have HC : ∀ j u, ([.string nm, .string vl] : List Value)[j]? = some u → w.cell? ((⟨gv, 0, none⟩ : Addr).add j) = some u := fun j u hj => by
    match j, hj with
    | 0, hj => simp at hj; subst hj; exact (blk_cell hv 0).trans rfl
    | 1, hj => simp at hj; subst hj; exact (blk_cell hv 1).trans rfl
  have HCC := Lib.hid HC
  clear ho hn hB hv HC
  have kn : ¬ n < n := Nat.lt_irrefl n
  by_cases hcn : c = n
  · subst hcn
    go_enter Try.func39, Try.ntmps39
    go_wp2_with (at_builtin; refine wpList_append_own_at _ rfl _ _ 22 rfl B 26 i0 _ 2 32 Try.underlying22 hi hz0 hz1 hz2 rfl (by decide) _ _ _ rfl HO.out ⟨gv, 0, none⟩ 1 1 [.string nm, .string vl] rfl ?qc1 ?qc2 ?qc3 ?qc4 ?qc5 ?qc6 ?_)
    case qc1 => rfl
    case qc2 => exact HCC.out
    case qc3 =>
      intro u hu
      simp only [List.mem_cons, List.not_mem_nil, or_false] at hu
      rcases hu with rfl | rfl <;> rfl
    case qc4 => have := HN.out; unfold maxLen; omega
    case qc5 => have := HN.out; omega
    case qc6 => first | exact HB.out | (exact fun _ _ => HB.out) | simp
    intro v' w1 hown hgrow hnil hat
    go_wp2
    go_ret
    exact ⟨v', rfl, hown, hgrow, hat.imp (fun h => h) (fun h => ⟨_, h, Nat.le_refl _⟩)⟩
  · skip
    go_enter Try.func39, Try.ntmps39
    go_wp2_with (at_builtin; refine wpList_append_own_at _ rfl _ _ 22 rfl B 26 i0 _ 2 32 Try.underlying22 hi hz0 hz1 hz2 rfl (by decide) _ _ _ rfl HO.out ⟨gv, 0, none⟩ 1 1 [.string nm, .string vl] rfl ?qc1 ?qc2 ?qc3 ?qc4 ?qc5 ?qc6 ?_)
    case qc1 => rfl
    case qc2 => exact HCC.out
    case qc3 =>
      intro u hu
      simp only [List.mem_cons, List.not_mem_nil, or_false] at hu
      rcases hu with rfl | rfl <;> rfl
    case qc4 => have := HN.out; unfold maxLen; omega
    case qc5 => have := HN.out; omega
    case qc6 => first | exact HB.out | (exact fun _ _ => HB.out) | simp
    intro v' w1 hown hgrow hnil hat
    go_wp2
    go_ret
    exact ⟨v', rfl, hown, hgrow, hat.imp (fun h => h) (fun h => ⟨_, h, Nat.le_refl _⟩)⟩
theorem row_list {α : Type} (L : List α) (a N : Nat) (x y : α) (ha : a + 2 ≤ N) (hN : N + 2 ≤ L.length) (R1 : List α) (hR : R1 = L.take (a + 2) ++ (L.take N).drop a ++ L.drop (a + 2 + ((L.take N).drop a).length)) :
    (R1.take a ++ [x, y] ++ R1.drop (a + 2)).take (N + 2) = (L.take N).take a ++ [x, y] ++ (L.take N).drop a := by
  have h1 : R1.take a = L.take a := by
    rw [hR, List.append_assoc, List.take_append_of_le_length (by rw [List.length_take]; omega), List.take_take, Nat.min_eq_left (by omega)]
  have h2 : R1.drop (a + 2) = (L.take N).drop a ++ L.drop (a + 2 + ((L.take N).drop a).length) := by
    rw [hR, List.append_assoc, List.drop_left' (by rw [List.length_take]; omega)]
  rw [h1, h2, List.take_take, Nat.min_eq_left (by omega), ← List.append_assoc, List.take_left' (by simp only [List.length_append, List.length_take, List.length_drop, List.length_cons, List.length_nil]; omega)]
theorem sizeOfVar (w : World) : (Go.sizeOf 26).run Try.prog w = .ok 2 w := by
  obtain ⟨i0, hi, _, hz1, _⟩ := info_split infoVar
  simp [Go.sizeOf, typeInfo, hi, hz1]
theorem sizeVar : (Try.prog.info? 26).map (·.size) = some 2 := by kernel_rfl
set_option maxHeartbeats 4000000 in
set_option maxRecDepth 100000 in
/-- .. ahead of others, where there is room -/
theorem insert_room (B b c : Nat) (w : World) (n i : Nat) (cur : Array Value) (nm vl : ByteArray) (gv : Nat) (hi : i < n) (hn : n ≤ 1000) (hroom : n + 1 ≤ c) (hc : c ≤ 9223372036854775807) (hsz : cur.size = c * 2) (hg : w.heap[b]? = some (.cells cur 26 (0, 0))) (hv : w.heap[gv]? = some (.cells #[.string nm, .string vl] 26 (0, 0))) (hne : gv ≠ b) (h1 : ∀ u ∈ cur.toList.take (n * 2), u.oneCell' = true) :
    Calls Try.prog 39 #[.slice (some ⟨b, 0, none⟩) n c, .int .i64 i, .slice (some ⟨gv, 0, none⟩) 1 1] w fun e w' => e = .returned (.slice (some ⟨b, 0, none⟩) (n + 1) c) ∧ ∃ cur', w'.heap[b]? = some (.cells cur' 26 (0, 0)) ∧ cur'.size = c * 2 ∧ cur'.toList.take ((n + 1) * 2) = (cur.toList.take (n * 2)).take (i * 2) ++ [.string nm, .string vl] ++ (cur.toList.take (n * 2)).drop (i * 2) ∧ w.grownBy w' (some b) := by
  have q1 : ¬ (n : Int) = i := by omega
  have q2 : ¬ i = n := by omega
  have q3 : ¬ c < n + 1 := by omega
  have q4 : ¬ c = i := by omega
  have q5 : ¬ n < i := by omega
  have q6 : ¬ c = i + 1 := by omega
  have q7 : ((i : Int) == (n : Int)) = false := beq_eq_false_iff_ne.mpr (by omega)
  have q8 : decide ((c : Int) < (n : Int) + 1) = false := decide_eq_false (by omega)
  have hov : ∀ lb cb, (callFunc 56 #[.slice (some ⟨gv, 0, none⟩) 1 1, .slice (some ⟨b, (i + 1) * 2, none⟩) lb cb]).run Try.prog w = .ok (.value (.bool false)) w := fun lb cb => by
    rw [run_callFunc_extern Try.func56 (by kernel_rfl) (by kernel_rfl) (by kernel_rfl) (e := Extern.SlicesOverlaps.overlaps #[22, 22] #[4]) (by kernel_rfl),
      Lib.run_overlaps_apart w 22 4 26 Try.underlying22 2 sizeOfVar ⟨gv, 0, none⟩ ⟨b, (i + 1) * 2, none⟩ 1 1 lb cb hne 26 26 2 (c * 2) (by simp [World.shape?, hv]) (by simp [World.shape?, hg, hsz]) (by omega) (blk_frozen hv 0) (blk_frozen hv 2)]
    rfl
  obtain ⟨R1, hR1⟩ : ∃ R1 : Array Value, R1 = (cur.toList.take ((i + 1) * 2) ++ (cur.toList.take (n * 2)).drop (i * 2) ++ cur.toList.drop ((i + 1) * 2 + ((cur.toList.take (n * 2)).drop (i * 2)).length)).toArray := ⟨_, rfl⟩
  have hl : ((cur.toList.take (n * 2)).drop (i * 2)).length = (n - i) * 2 := by rw [List.length_drop, List.length_take, Array.length_toList]; omega
  have hcp1 : ∀ ty dc sc, (Builtin.copy_ #[22, 22] ty #[.slice (some ⟨b, (i + 1) * 2, none⟩) (n - i) dc, .slice (some ⟨b, i * 2, none⟩) (n + 1 - i) sc]).run Try.prog w.drew = .ok (goInt (n - i : Nat)) (w.drew.setRow b R1) := fun ty dc sc => by
    have h := run_copy_rowK (P := Try.prog) w.drew 22 22 ty 26 2 b ((i + 1) * 2) (n - i) dc ⟨b, i * 2, none⟩ (n + 1 - i) sc cur 26 ((cur.toList.take (n * 2)).drop (i * 2)) Try.underlying22 sizeVar hg (by rw [hl]; simp only [Nat.min_def]; split <;> omega)
      (fun j v hj => by
        rw [List.getElem?_drop, List.getElem?_take] at hj
        split at hj
        · rw [Addr.add_lit]
          show w.cell? ⟨b, i * 2 + j, none⟩ = _
          rw [blk_cell hg, ← hj]; simp
        · cases hj) (by rw [hl]; omega) (fun v hv => h1 v (List.mem_of_mem_drop hv))
    rw [show Nat.min (n + 1 - i) (n - i) = n - i by simp only [Nat.min_def]; split <;> omega, ← hR1] at h
    exact h
  have hw1 : IntKind.i64.wrap ((i : Int) + 1) = (i : Int) + 1 := by rw [IntKind.wrap_i64]; omega
  have hb1 : (0 : Int) ≤ (i : Int) + 1 := by omega
  have htn : ((i : Int) + 1).toNat = i + 1 := by omega
  have hb3 : (i : Int) ≤ (n : Int) + 1 := by omega
  have hb5 : i + 1 ≤ n + 1 := by omega
  have hb6 : i ≤ n + 1 := by omega
  have hin : i ≤ n := by omega
  have hb7 : n + 1 - (i + 1) = n - i := by omega
  have mixed : Try.prog.follows .mixedOrders = true := by kernel_rfl
  have HW : w.drew.heap[b]? = some (.cells cur 26 (0, 0)) := hg
  have hR1s : R1.size = c * 2 := by rw [hR1]; simp only [List.size_toArray, List.length_append, List.length_take, List.length_drop, Array.length_toList, hl]; omega
  have HB1 : (w.drew.setRow b R1).heap[b]? = some (.cells R1 26 (0, 0)) := setRow_blk HW R1
  have HV1 : (w.drew.setRow b R1).heap[gv]? = some (.cells #[.string nm, .string vl] 26 (0, 0)) := (setRow_other w.drew b gv R1 hne).trans hv
  have HG1 : w.grownBy (w.drew.setRow b R1) (some b) := ⟨rfl, rfl, rfl, by simp [World.setRow], fun k hk hne => setRow_other w.drew b k R1 (fun e => hne (by rw [e]))⟩
  obtain ⟨R2, hR2⟩ : ∃ R2 : Array Value, R2 = (R1.toList.take (i * 2) ++ [Value.string nm, Value.string vl] ++ R1.toList.drop (i * 2 + 2)).toArray := ⟨_, rfl⟩
  have hcp2 : ∀ (W : World), W.heap[b]? = some (.cells R1 26 (0, 0)) → W.heap[gv]? = some (.cells #[.string nm, .string vl] 26 (0, 0)) → ∀ ty dc, (Builtin.copy_ #[22, 22] ty #[.slice (some ⟨b, i * 2, none⟩) (n + 1 - i) dc, .slice (some ⟨gv, 0, none⟩) 1 1]).run Try.prog W = .ok (goInt (1 : Nat)) (W.setRow b R2) := fun W hb hv ty dc => by
    have h := run_copy_rowK (P := Try.prog) W 22 22 ty 26 2 b (i * 2) (n + 1 - i) dc ⟨gv, 0, none⟩ 1 1 R1 26 [Value.string nm, Value.string vl] Try.underlying22 sizeVar hb (by simp only [Nat.min_def]; rw [if_pos (by omega)]; rfl)
      (fun j u hj => by
        match j, hj with
        | 0, hj => simp at hj; subst hj; exact (blk_cell hv 0).trans rfl
        | 1, hj => simp at hj; subst hj; exact (blk_cell hv 1).trans rfl) (by show i * 2 + 2 ≤ _; omega) (fun u hu => by
        simp only [List.mem_cons, List.not_mem_nil, or_false] at hu
        rcases hu with rfl | rfl <;> rfl)
    rw [show Nat.min 1 (n + 1 - i) = 1 by simp only [Nat.min_def]; rw [if_pos (by omega)], show ([Value.string nm, Value.string vl] : List Value).length = 2 from rfl, ← hR2] at h
    exact h
  have HR1 := Lib.hid hR1
  have HR2 := Lib.hid hR2
  have HL := Lib.hid hl
  clear hR1 hR2 hl
  go_enter Try.func39, Try.ntmps39
  go_wp2_with (simp only [hov])
  go_region_law_o (refine step_copyK rfl _ _ 22 22 rfl _ _ (by simp [Act.eval, Act.put]) (by simp [Act.eval, Act.put]) (hcp1 _ _ _) ?_)
  generalize w.drew.setRow b R1 = w1 at HB1 HV1 HG1 ⊢
  have hcp := hcp2 w1 HB1 HV1
  have HB2 : (w1.setRow b R2).heap[b]? = some (.cells R2 26 (0, 0)) := setRow_blk HB1 R2
  have HG2 : w.grownBy (w1.setRow b R2) (some b) := ⟨HG1.os, HG1.tape, HG1.output, by have := HG1.size; simpa [World.setRow] using this, fun k hk hne => (setRow_other w1 b k R2 (fun e => hne (by rw [e]))).trans (HG1.block k hk hne)⟩
  clear hcp1 hcp2 hov
  go_wp2_with (at_builtin; refine wpList_copyK _ rfl _ _ 22 22 rfl _ _ rfl rfl (hcp _ _) ?_)
  go_ret
  refine ⟨rfl, R2, HB2, ?_, ?_, HG2⟩
  · rw [HR2.out]; simp only [List.size_toArray, List.length_append, List.length_take, List.length_drop, List.length_cons, List.length_nil, Array.length_toList]; omega
  · have e1 : (i + 1) * 2 = i * 2 + 2 := by omega
    have h2 : R2.toList = R1.toList.take (i * 2) ++ [Value.string nm, Value.string vl] ++ R1.toList.drop (i * 2 + 2) := by rw [HR2.out]
    have h1' : R1.toList = cur.toList.take (i * 2 + 2) ++ (cur.toList.take (n * 2)).drop (i * 2) ++ cur.toList.drop (i * 2 + 2 + ((cur.toList.take (n * 2)).drop (i * 2)).length) := by rw [HR1.out, e1]
    rw [h2, show (n + 1) * 2 = n * 2 + 2 by omega]
    exact row_list cur.toList (i * 2) (n * 2) _ _ (by omega) (by rw [Array.length_toList]; omega) R1.toList h1'
theorem row_list2 {α : Type} (L Z : List α) (a N : Nat) (x y : α) (ha : a + 2 ≤ N) (hL : L.length = N) (hz : Z.take a = L.take a) (R1 R2 : List α) (hR1 : R1 = Z.take a ++ [x, y] ++ Z.drop (a + 2)) (hR2 : R2 = R1.take (a + 2) ++ L.drop a ++ R1.drop (a + 2 + (L.drop a).length)) :
    R2.take (N + 2) = L.take a ++ [x, y] ++ L.drop a := by
  have h1 : R1.take (a + 2) = L.take a ++ [x, y] := by
    rw [hR1, hz, List.take_left' (by simp only [List.length_append, List.length_take, List.length_cons, List.length_nil]; omega)]
  rw [hR2, h1, List.take_left' (by simp only [List.length_append, List.length_take, List.length_drop, List.length_cons, List.length_nil]; omega)]
set_option maxHeartbeats 4000000 in
set_option maxRecDepth 100000 in
/-- .. where there is none: a new row -/
theorem insert_grow (b : Nat) (w : World) (n i : Nat) (cur : Array Value) (nm vl : ByteArray) (gv : Nat) (hi : i < n) (hn : n ≤ 1000) (hsz : cur.size = n * 2) (hg : w.heap[b]? = some (.cells cur 26 (0, 0))) (hv : w.heap[gv]? = some (.cells #[.string nm, .string vl] 26 (0, 0))) (h1 : ∀ u ∈ cur.toList, u.oneCell' = true) :
    Calls Try.prog 39 #[.slice (some ⟨b, 0, none⟩) n n, .int .i64 i, .slice (some ⟨gv, 0, none⟩) 1 1] w fun e w' => ∃ c', e = .returned (.slice (some ⟨w.heap.size, 0, none⟩) (n + 1) c') ∧ n + 1 ≤ c' ∧ c' ≤ maxLen ∧ ∃ cur', w'.heap[w.heap.size]? = some (.cells cur' 26 (0, 0)) ∧ cur'.size = c' * 2 ∧ cur'.toList.take ((n + 1) * 2) = cur.toList.take (i * 2) ++ [.string nm, .string vl] ++ cur.toList.drop (i * 2) ∧ Below w.heap.size w w' := by
  obtain ⟨i0, hi0, hz0, hz1, hz2⟩ := info_split infoVar
  obtain ⟨G, hG⟩ : ∃ G, G = grownCap w (n + 1) n 26 := ⟨_, rfl⟩
  have hGn : n + 1 ≤ G := by rw [hG]; exact grownCap_ge w _ _ _
  have hGm : G ≤ maxLen := by rw [hG]; exact grownCap_le_maxLen w (n + 1) n 26 (by unfold maxLen; omega)
  obtain ⟨ROW, hROW⟩ : ∃ ROW : Array Value, ROW = (cur.toList.take (i * 2)).toArray ++ Builtin.zeroCells (Value.agg #[.string ByteArray.empty, .string ByteArray.empty]).cells (n + 1 - i) ++ Builtin.zeroCells (Value.agg #[.string ByteArray.empty, .string ByteArray.empty]).cells (G - (n + 1)) := ⟨_, rfl⟩
  have hold : (Builtin.firstCells i0.size i (.slice (some ⟨b, 0, none⟩) i n)).run Try.prog w.drew = .ok (cur.toList.take (i * 2)).toArray w.drew := by
    rw [hz1]
    exact run_firstCells_some w.drew 2 i ⟨b, 0, none⟩ i n (cur.toList.take (i * 2)) (by rw [List.length_take, Array.length_toList]; omega) (fun j v hj => by
      rw [List.getElem?_take] at hj
      split at hj
      · rw [Addr.add_lit]
        show w.cell? ⟨b, 0 + j, none⟩ = _
        rw [Nat.zero_add, blk_cell hg, ← hj]; simp
      · cases hj)
  have hrz : ∀ ty, (Builtin.append_ #[22, 3] ty #[.slice (some ⟨b, 0, none⟩) i n, .int .i64 ((n : Int) + 1 - (i : Int))]).run Try.prog w = .ok (.slice (some ⟨w.heap.size, 0, none⟩) (n + 1) G) (w.drew.alloc (.cells ROW 26)) := fun ty => by
    have h := Lib.run_append_grow_zeros w 22 3 ty 26 i0 _ .i64 .i64 Try.underlying22 Try.underlying3 hi0 hz0 (some ⟨b, 0, none⟩) i n (cur.toList.take (i * 2)) hold (n + 1 - i) (by omega) (by omega) (by omega) (by omega) (by rw [hz2]; omega) (by rw [hz2, show i + (n + 1 - i) = n + 1 by omega]; exact growslice_fits (by omega) (by omega))
    rw [show i + (n + 1 - i) = n + 1 by omega, ← hG, ← hROW] at h
    rw [show (n : Int) + 1 - (i : Int) = ((n + 1 - i : Nat) : Int) by omega]
    exact h
  have hRs : ROW.size = G * 2 := by
    rw [hROW]
    simp [Builtin.zeroCells, Value.cells]
    omega
  have hRt : ROW.toList.take (i * 2) = cur.toList.take (i * 2) := by
    rw [hROW]
    simp only [Array.toList_append, List.append_assoc]
    rw [List.take_left' (by rw [List.length_take, Array.length_toList]; omega)]
  obtain ⟨R1, hR1⟩ : ∃ R1 : Array Value, R1 = (ROW.toList.take (i * 2) ++ [Value.string nm, Value.string vl] ++ ROW.toList.drop (i * 2 + 2)).toArray := ⟨_, rfl⟩
  obtain ⟨R2, hR2⟩ : ∃ R2 : Array Value, R2 = (R1.toList.take ((i + 1) * 2) ++ cur.toList.drop (i * 2) ++ R1.toList.drop ((i + 1) * 2 + (cur.toList.drop (i * 2)).length)).toArray := ⟨_, rfl⟩
  have hR1s : R1.size = G * 2 := by rw [hR1]; simp only [List.size_toArray, List.length_append, List.length_take, List.length_drop, List.length_cons, List.length_nil, Array.length_toList]; omega
  have hR2s : R2.size = G * 2 := by rw [hR2]; simp only [List.size_toArray, List.length_append, List.length_take, List.length_drop, Array.length_toList]; omega
  have hfin : R2.toList.take ((n + 1) * 2) = cur.toList.take (i * 2) ++ [.string nm, .string vl] ++ cur.toList.drop (i * 2) := by
    have e1 : (i + 1) * 2 = i * 2 + 2 := by omega
    rw [show (n + 1) * 2 = n * 2 + 2 by omega, hR2]
    refine row_list2 cur.toList ROW.toList (i * 2) (n * 2) _ _ (by omega) (by rw [Array.length_toList]; omega) hRt R1.toList _ (by rw [hR1]) (by rw [← e1])
  have hbw := blk_lt hg
  have hvw := blk_lt hv
  have H1 : (w.drew.alloc (.cells ROW 26)).heap[w.heap.size]? = some (.cells ROW 26 (0, 0)) := blk_new w.drew _
  have H2 : (w.drew.alloc (.cells ROW 26)).heap[b]? = some (.cells cur 26 (0, 0)) := blk_alloc (w := w.drew) hg _
  have H3 : (w.drew.alloc (.cells ROW 26)).heap[gv]? = some (.cells #[.string nm, .string vl] 26 (0, 0)) := blk_alloc (w := w.drew) hv _
  have H4 : Below w.heap.size w (w.drew.alloc (.cells ROW 26)) := below_alloc ((Below.refl _ w).drew) _
  have hcpA : ∀ (W : World), W.heap[w.heap.size]? = some (.cells ROW 26 (0, 0)) → W.heap[gv]? = some (.cells #[.string nm, .string vl] 26 (0, 0)) → ∀ ty dc, (Builtin.copy_ #[22, 22] ty #[.slice (some ⟨w.heap.size, i * 2, none⟩) (n + 1 - i) dc, .slice (some ⟨gv, 0, none⟩) 1 1]).run Try.prog W = .ok (goInt (1 : Nat)) (W.setRow w.heap.size R1) := fun W hb hv ty dc => by
    have h := run_copy_rowK (P := Try.prog) W 22 22 ty 26 2 w.heap.size (i * 2) (n + 1 - i) dc ⟨gv, 0, none⟩ 1 1 ROW 26 [Value.string nm, Value.string vl] Try.underlying22 sizeVar hb (by simp only [Nat.min_def]; rw [if_pos (by omega)]; rfl)
      (fun j u hj => by
        match j, hj with
        | 0, hj => simp at hj; subst hj; exact (blk_cell hv 0).trans rfl
        | 1, hj => simp at hj; subst hj; exact (blk_cell hv 1).trans rfl) (by show i * 2 + 2 ≤ _; omega) (fun u hu => by
        simp only [List.mem_cons, List.not_mem_nil, or_false] at hu
        rcases hu with rfl | rfl <;> rfl)
    rw [show Nat.min 1 (n + 1 - i) = 1 by simp only [Nat.min_def]; rw [if_pos (by omega)], show ([Value.string nm, Value.string vl] : List Value).length = 2 from rfl, ← hR1] at h
    exact h
  have hcpB : ∀ (W : World), W.heap[w.heap.size]? = some (.cells R1 26 (0, 0)) → W.heap[b]? = some (.cells cur 26 (0, 0)) → ∀ ty dc sc, (Builtin.copy_ #[22, 22] ty #[.slice (some ⟨w.heap.size, (i + 1) * 2, none⟩) (n - i) dc, .slice (some ⟨b, i * 2, none⟩) (n - i) sc]).run Try.prog W = .ok (goInt (n - i : Nat)) (W.setRow w.heap.size R2) := fun W hr hb ty dc sc => by
    have h := run_copy_rowK (P := Try.prog) W 22 22 ty 26 2 w.heap.size ((i + 1) * 2) (n - i) dc ⟨b, i * 2, none⟩ (n - i) sc R1 26 (cur.toList.drop (i * 2)) Try.underlying22 sizeVar hr (by rw [List.length_drop, Array.length_toList]; simp only [Nat.min_def]; split <;> omega)
      (fun j v hj => by
        rw [List.getElem?_drop] at hj
        rw [Addr.add_lit]
        show W.cell? ⟨b, i * 2 + j, none⟩ = _
        rw [blk_cell hb, ← hj]; simp) (by rw [List.length_drop, Array.length_toList]; omega) (fun v hv => h1 v (List.mem_of_mem_drop hv))
    rw [show Nat.min (n - i) (n - i) = n - i from Nat.min_self _, ← hR2] at h
    exact h
  have mixed : Try.prog.follows .mixedOrders = true := by kernel_rfl
  have q1 : ¬ (n : Int) = i := by omega
  have q2 : ¬ i = n := by omega
  have q4 : ¬ n = i := by omega
  have q5 : ¬ n < i := by omega
  have q6 : ¬ G = i := by omega
  have q9 : ¬ G = i + 1 := by omega
  have q7 : ((i : Int) == (n : Int)) = false := beq_eq_false_iff_ne.mpr (by omega)
  have q8 : decide ((n : Int) < (n : Int) + 1) = true := decide_eq_true (by omega)
  have hw1 : IntKind.i64.wrap ((i : Int) + 1) = (i : Int) + 1 := by rw [IntKind.wrap_i64]; omega
  have hw2 : IntKind.i64.wrap ((n : Int) + 1) = (n : Int) + 1 := by rw [IntKind.wrap_i64]; omega
  have hw3 : IntKind.i64.wrap ((n : Int) + 1 - (i : Int)) = (n : Int) + 1 - (i : Int) := by rw [IntKind.wrap_i64]; omega
  have hb1 : (0 : Int) ≤ (i : Int) + 1 := by omega
  have htn : ((i : Int) + 1).toNat = i + 1 := by omega
  have hb3 : (i : Int) ≤ (n : Int) + 1 := by omega
  have hb5 : i + 1 ≤ n + 1 := by omega
  have hb6 : i ≤ n + 1 := by omega
  have hin : i ≤ n := by omega
  have hb7 : n + 1 - (i + 1) = n - i := by omega
  have HG63 : Hid (G ≤ maxLen) := Lib.hid hGm
  clear hold hROW hR1 hR2 hG hg hv h1 hRt
  go_enter Try.func39, Try.ntmps39
  have hnb : b ≠ w.heap.size := Nat.ne_of_lt hbw
  go_wp2_with (at_builtin; refine Lib.wpList_append_run _ rfl _ _ _ _ rfl _ _ rfl rfl _ _ (hrz _) ?_; generalize w.drew.alloc _ = w1 at H1 H2 H3 H4 ⊢)
  have J1 := setRow_blk H1 R1
  have J2 := (setRow_other w1 w.heap.size b R1 hnb).trans H2
  have J4 := below_setRow H4 (Nat.le_refl _) R1
  generalize w1.setRow _ _ = w2 at J1 J2 J4 ⊢
  have K1 : w2.drew.heap[w.heap.size]? = some (.cells R1 26 (0, 0)) := J1
  have K2 : w2.drew.heap[b]? = some (.cells cur 26 (0, 0)) := J2
  have K4 : Below w.heap.size w w2.drew := below_drew J4
  have hcp := hcpB w2.drew K1 K2
  go_region_law_o (refine step_copyK rfl _ _ 22 22 rfl _ _ (by simp [Act.eval, Act.put]) (by simp [Act.eval, Act.put]) (hcp _ _ _) ?_)
  have L1 := setRow_blk K1 R2
  have L4 := below_setRow K4 (Nat.le_refl _) R2
  generalize w2.drew.setRow _ _ = w3 at L1 L4 ⊢
  go_wp2
  go_ret
  exact ⟨G, rfl, hGn, HG63.out, R2, L1, hR2s, hfin, L4⟩
end Go.Proofs.Ytgcbipflmhbpcaa
