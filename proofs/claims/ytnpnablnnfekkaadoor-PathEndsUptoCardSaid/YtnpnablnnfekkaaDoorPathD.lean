/- Plain words on paths: a clean path is its own; names joined behind a clean directory. -/
import Derived.Test.YtnpnablnnfekkaaDoorPathC
set_option linter.unusedVariables false
set_option linter.unusedSimpArgs false
namespace Go.Proofs.YtnpnablnnfekkaaDoor.PAll
open Go.RowKit Go.Proofs.YtnpnablnnfekkaaDoor Go.Proofs.YtnpnablnnfekkaaDoorW.PrintWords

theorem cutAt_mem : ∀ (l : List UInt8) x, x ∈ cutAt l → 47 ∉ x
  | [], x, h => by simp [cutAt] at h; simp [h]
  | c :: l, x, h => by
    have ih := cutAt_mem l
    unfold cutAt at h
    split at h
    · rcases List.mem_cons.1 h with rfl | h
      · simp
      · exact ih x h
    · rename_i hc
      cases hcl : cutAt l with
      | nil => exact absurd hcl (cutAt_ne l)
      | cons y ys =>
        rw [hcl] at h ih
        rcases List.mem_cons.1 h with rfl | h
        · intro hm
          rcases List.mem_cons.1 hm with e | hm
          · exact hc e.symm
          · exact ih y (List.mem_cons_self) hm
        · exact ih x (List.mem_cons_of_mem _ h)
/-- a name that stays -/
def Good (x : ByteArray) : Prop := 0 < x.size ∧ x ≠ ⟨#[46]⟩ ∧ x ≠ ⟨#[46, 46]⟩ ∧ 47 ∉ x.data.toList
theorem step_good {x : ByteArray} (hx : Good x) (acc : List ByteArray) : cleanStep acc x = acc ++ [x] := by
  rw [cleanStep, if_neg hx.2.2.1, if_pos ⟨hx.1, hx.2.1⟩]
theorem fold_good : ∀ (L acc : List ByteArray), (∀ x ∈ L, Good x) → L.foldl cleanStep acc = acc ++ L
  | [], acc, _ => by simp
  | x :: L, acc, h => by
    rw [List.foldl_cons, step_good (h x List.mem_cons_self), fold_good L _ (fun y hy => h y (List.mem_cons_of_mem _ hy))]; simp
theorem fold_keeps : ∀ (L acc : List ByteArray), (∀ x ∈ L, 47 ∉ x.data.toList) → (∀ x ∈ acc, Good x) → ∀ x ∈ L.foldl cleanStep acc, Good x
  | [], acc, _, h => h
  | y :: L, acc, hL, h => by
    rw [List.foldl_cons]
    refine fold_keeps L _ (fun x hx => hL x (List.mem_cons_of_mem _ hx)) ?_
    intro x hx
    unfold cleanStep at hx
    split at hx
    · exact h x ((List.dropLast_sublist acc).subset hx)
    · split at hx
      · rename_i h1 h2
        rcases List.mem_append.1 hx with hx | hx
        · exact h x hx
        · obtain rfl : x = y := by simpa using hx
          exact ⟨h2.1, h2.2, h1, hL _ List.mem_cons_self⟩
      · exact h x hx
theorem clean_good (p : ByteArray) : ∀ x ∈ cleanL (pieces p), Good x := by
  refine fold_keeps (pieces p) [] (fun x hx => ?_) (fun x hx => by cases hx)
  obtain ⟨l, hl, rfl⟩ := List.mem_map.1 hx
  rw [asB_data]
  exact cutAt_mem _ l hl
theorem cut_flat : ∀ L : List ByteArray, (∀ x ∈ L, 47 ∉ x.data.toList) → cutAt (flat L) = [] :: L.map (·.data.toList)
  | [], _ => rfl
  | [x], h => by
    have : flat [x] = [] ++ 47 :: x.data.toList := by simp [flat]
    rw [this, cutAt_append, cutAt_free _ (h x List.mem_cons_self)]; rfl
  | x :: y :: L, h => by
    have ih := cut_flat (y :: L) (fun z hz => h z (List.mem_cons_of_mem _ hz))
    have e : flat (x :: y :: L) = [] ++ 47 :: (x.data.toList ++ flat (y :: L)) := by simp [flat]
    have e2 : flat (y :: L) = 47 :: (y.data.toList ++ flat L) := by simp [flat]
    have e3 : cutAt (y.data.toList ++ flat L) = (y :: L).map (·.data.toList) := by
      rw [e2, cutAt, if_pos rfl] at ih
      exact (List.cons.inj ih).2
    rw [e, cutAt_append, e2, cutAt_append, cutAt_free _ (h x List.mem_cons_self), e3]; rfl
theorem map_asB (L : List ByteArray) : (L.map (·.data.toList)).map asB = L := by
  rw [List.map_map]; exact (List.map_congr_left (fun x _ => asB_toList x)).trans (List.map_id _)
theorem flat_append (a b : List ByteArray) : flat (a ++ b) = flat a ++ flat b := by simp [flat]
theorem flat_one (s : List UInt8) : flat [asB s] = 47 :: s := by simp [flat, asB_data]
theorem flat_nil_iff (L : List ByteArray) : flat L = [] ↔ L = [] := by
  cases L with
  | nil => exact ⟨fun _ => rfl, fun _ => rfl⟩
  | cons x r => simp [flat]
theorem trim_end {a s : List UInt8} (hs : s ≠ []) (h : 47 ∉ s) : trimR (a ++ s) = a ++ s := by
  rcases List.eq_nil_or_concat s with rfl | ⟨b, c, rfl⟩
  · exact absurd rfl hs
  · rw [List.concat_eq_append, ← List.append_assoc, trimR_other]
    intro e; apply h; rw [List.concat_eq_append, e]; simp
theorem trim_flat (L : List ByteArray) (h : ∀ x ∈ L, Good x) : trimR (flat L) = flat L := by
  rcases List.eq_nil_or_concat L with rfl | ⟨a, x, rfl⟩
  · rfl
  · rw [List.concat_eq_append] at h ⊢
    have hx := h x (by simp)
    have e : flat (a ++ [x]) = (flat a ++ [47]) ++ x.data.toList := by simp [flat]
    rw [e, trim_end (by intro e; have := hx.1; rw [← asB_toList x, e] at this; simp [asB_size] at this) hx.2.2.2]
theorem trim_finish (L : List ByteArray) (h : ∀ x ∈ L, Good x) : finish (flat L) = asB (if flat L = [] then [47] else flat L) ∧ trimR (if flat L = [] then [47] else flat L) = flat L := by
  unfold finish
  by_cases e : flat L = []
  · rw [if_pos e, if_pos e, e]; exact ⟨rfl, rfl⟩
  · rw [if_neg e, if_neg e]; exact ⟨rfl, trim_flat L h⟩
theorem finish_length (L : List ByteArray) : (finish (flat L)).size ≤ (flat L).length + 1 := by
  unfold finish
  split <;> rw [asB_size] <;> simp
theorem clean_finish (p : ByteArray) : cleanOf p = finish (flat (cleanL (pieces p))) := by rw [finish_clean]; rfl
theorem clean_again (L : List ByteArray) (h : ∀ x ∈ L, Good x) : cleanL (pieces (finish (flat L))) = L := by
  have hs : ∀ acc, cleanStep acc (asB []) = acc := fun acc => by
    rw [cleanStep, if_neg (by decide), if_neg (by intro e; exact absurd e.1 (by decide))]
  unfold finish
  by_cases e : flat L = []
  · rw [if_pos e, (flat_nil_iff L).1 e]; decide +kernel
  · rw [if_neg e, pieces_asB, cut_flat L (fun x hx => (h x hx).2.2.2), List.map_cons, map_asB]
    unfold cleanL
    rw [List.foldl_cons, hs, fold_good L [] h, List.nil_append]
theorem clean_size (l : List UInt8) (hl : l.length ≤ 10000) : (cleanOf (asB l)).size ≤ 30000 := by
  have := clean_len (asB l)
  rw [asB_size] at this
  unfold cleanOf
  rw [asB_size, List.length_cons]
  omega
theorem PathCleans : rehearsallaw03_PathCleans.Pure := by
  intro s hs
  obtain ⟨l, rfl⟩ := exists_asB s
  rw [asB_size] at hs
  refine ⟨1000001, ?_⟩
  unfold rehearsallaw03_PathCleans.f
  by_cases hl : (l.length : Int) > 3000
  · rw [asB_size, if_pos hl, awake_any _ (by omega)]; rfl
  · have hz := clean_size l (by omega)
    have hag : cleanOf (cleanOf (asB l)) = cleanOf (asB l) := by
      rw [clean_finish (cleanOf (asB l)), clean_finish (asB l), clean_again _ (clean_good (asB l))]
    unfold path_Clean.f
    rw [asB_size, if_neg hl, if_pos (by omega), Option.bind_some, clean_ref l (by omega) _ (by omega), Option.bind_some, if_pos rfl, if_pos (by omega), Option.bind_some, hag, if_pos rfl, awake_any _ (by omega)]; rfl

/-! PathBack -/
theorem baseL_end (a s : List UInt8) (h : 47 ∉ s) : baseL (a ++ 47 :: s) = s := by
  unfold baseL
  have : cutAt (a ++ 47 :: s) = cutAt a ++ [s] := by rw [cutAt_append, cutAt_free _ h]
  simp [this]
theorem up_end (a s : List UInt8) (hs : s ≠ []) (h : 47 ∉ s) (hl : a.length + s.length ≤ 1000000) : path_Up.f (asB (a ++ 47 :: s)) = some (if trimR a = [] then asB [47] else asB (trimR a)) := by
  unfold path_Up.f strings_LastIndexByte.f
  have ht : trimR (a ++ 47 :: s) = a ++ 47 :: s := by
    have e : a ++ 47 :: s = (a ++ [47]) ++ s := by simp
    rw [e, trim_end hs h]
  rw [trim_prog _ (by simp; omega), Option.bind_some, ht, if_pos (by rw [asB_size]; simp; omega), Option.bind_some]
  rcases last_cases (a ++ 47 :: s) with ⟨_, h2⟩ | ⟨i, h1, hi, h2, h3⟩
  · exact absurd (by simp) h2
  · have h4 := baseL_cut h2 h3
    rw [baseL_end a s h] at h4
    have h5 := congrArg List.length h4
    rw [List.length_drop] at h5
    simp only [List.length_append, List.length_cons] at h5 hi
    have hia : i = a.length := by omega
    subst hia
    rw [h1, if_neg (by omega), if_pos (by omega), if_pos (by rw [asB_size]; simp; omega), extract_asB', Int.toNat_natCast, List.take_left, List.drop_zero, trim_prog a (by omega), Option.bind_some, toList_asB]
    by_cases hq : trimR a = []
    · rw [if_pos hq, if_pos hq]; rfl
    · rw [if_neg hq, if_neg hq]
theorem back_l0 (L : List ByteArray) (h : ∀ x ∈ L, Good x) (hL : L.length ≤ 100000) (ht : (flat L).length ≤ 100000) : ∀ (n k i : Nat), i + n = L.length → n + 20 < k → rehearsallaw03_PathBack.l0 k (finish (flat L)) L (finish (flat (L.take i))) (i : Int) = some true
  | 0, k, i, hi, hk => by
    obtain ⟨k, rfl⟩ : ∃ m, k = m + 1 := ⟨k - 1, by omega⟩
    simp only [rehearsallaw03_PathBack.l0]
    rw [if_neg (by omega), List.take_of_length_le (by omega), if_pos rfl, awake_any _ (by omega)]; rfl
  | n + 1, k, i, hi, hk => by
    obtain ⟨k, rfl⟩ : ∃ m, k = m + 1 := ⟨k - 1, by omega⟩
    have hil : i < L.length := by omega
    have hw : wrap64 ((i : Int) + 1) = ((i + 1 : Nat) : Int) := by rw [wrap_ok (by omega) (by omega)]; omega
    simp only [rehearsallaw03_PathBack.l0]
    rw [if_pos (by omega), if_pos (by omega), rdOf_eq L i hil, hw]
    have hti : L.take (i + 1) = L.take i ++ [L[i]] := List.take_succ_eq_append_getElem hil
    have hfl : flat L = flat (L.take i) ++ flat (L.drop i) := by rw [← flat_append, List.take_append_drop]
    have hfl2 : flat L = flat (L.take (i + 1)) ++ flat (L.drop (i + 1)) := by rw [← flat_append, List.take_append_drop]
    have hlen := congrArg List.length hfl
    have hlen2 := congrArg List.length hfl2
    rw [List.length_append] at hlen hlen2
    have hxs : L[i].data.toList.length ≤ (flat (L.take (i + 1))).length := by rw [hti, flat_append]; simp [flat]; omega
    obtain ⟨h1, h2⟩ := trim_finish (L.take i) (fun x hx => h x (List.mem_of_mem_take hx))
    have hj : path_Join.f (finish (flat (L.take i))) L[i] = some (finish (flat (L.take (i + 1)))) := by
      conv => lhs; rw [h1, ← asB_toList L[i]]
      rw [join_prog _ _ (by split <;> first | omega | (simp; done)) (by omega)]
      unfold joinP
      rw [h2, hti, flat_append]
      have : flat [L[i]] = 47 :: L[i].data.toList := by simp [flat]
      rw [this]
      unfold finish
      rw [if_neg (by simp)]
    rw [hj, Option.bind_some]
    exact back_l0 L h hL ht n k (i + 1) (by omega) (by omega)
theorem full_good : ∀ L : List ByteArray, (∀ x ∈ L, Good x) → full L = L
  | [], _ => rfl
  | x :: L, h => by rw [full_cons_pos x L (h x List.mem_cons_self).1, full_good L (fun y hy => h y (List.mem_cons_of_mem _ hy))]
theorem full_finish (L : List ByteArray) (h : ∀ x ∈ L, Good x) : full (pieces (finish (flat L))) = L := by
  unfold finish
  by_cases e : flat L = []
  · rw [if_pos e, (flat_nil_iff L).1 e]; decide +kernel
  · rw [if_neg e, pieces_asB, cut_flat L (fun x hx => (h x hx).2.2.2), List.map_cons, map_asB, full_cons_zero _ _ (by decide), full_good L h]
theorem name_good (s : List UInt8) (h : nameB s = true) : s ≠ [] ∧ Good (asB s) ∧ 47 ∉ s ∧ s.length ≤ 64 := by
  unfold nameB at h
  simp only [Bool.and_eq_true, decide_eq_true_eq, Bool.not_eq_true'] at h
  obtain ⟨⟨⟨⟨⟨h1, h2⟩, h3⟩, h4⟩, h5⟩, h6⟩ := h
  have h7 : 47 ∉ s := fun hm => by
    rw [List.any_eq_false] at h5
    exact h5 47 hm (by decide)
  exact ⟨h1, ⟨by rw [asB_size]; exact List.length_pos_iff.2 h1, fun e => h2 (asB_inj.1 (e : asB s = asB [46])), fun e => h3 (asB_inj.1 (e : asB s = asB [46, 46])), by rw [asB_data]; exact h7⟩, h7, h4⟩
theorem PathBack : rehearsallaw03_PathBack.Pure := by
  intro d s hd hs
  obtain ⟨d, rfl⟩ := exists_asB d
  obtain ⟨s, rfl⟩ := exists_asB s
  rw [asB_size] at hd hs
  refine ⟨1000001, ?_⟩
  unfold rehearsallaw03_PathBack.f
  by_cases hl : (d.length : Int) > 3000
  · rw [asB_size, if_pos hl, awake_any _ (by omega)]; rfl
  have hz := clean_size d (by omega)
  have hg := clean_good (asB d)
  have hcl := clean_finish (asB d)
  have hz2 : (flat (cleanL (pieces (asB d)))).length ≤ 30000 := by
    by_cases e : flat (cleanL (pieces (asB d))) = []
    · rw [e]; simp
    · rw [hcl] at hz; unfold finish at hz; rw [if_neg e, asB_size] at hz; exact hz
  have hz3 : (cleanL (pieces (asB d))).length ≤ 30000 := by have := flat_length (cleanL (pieces (asB d))); omega
  have hcd : path_Clean.f (asB d) = some (finish (flat (cleanL (pieces (asB d))))) := by
    unfold path_Clean.f; rw [if_pos (by rw [asB_size]; omega), hcl]
  rw [asB_size, if_neg hl, hcd, Option.bind_some]
  generalize cleanL (pieces (asB d)) = L at *
  obtain ⟨h1, h2⟩ := trim_finish L hg
  have hj : path_Join.f (finish (flat L)) (asB s) = some (asB (flat L ++ 47 :: s)) := by
    rw [h1, join_prog _ _ (by split <;> first | omega | (simp; done)) hs]
    unfold joinP
    rw [h2]
  -- behind the names: the path's own names, joined again
  have tail : rehearsallaw03_PathBack.j0 1000001 (finish (flat L)) false = some true := by
    simp only [rehearsallaw03_PathBack.j0]
    have hfz := finish_length L
    have hpf : path_Parts.f (finish (flat L)) = some (partsOf (finish (flat L))) := by unfold path_Parts.f; rw [if_pos (by omega)]
    rw [if_neg (by simp), hpf, Option.bind_some]
    by_cases he : (partsOf (finish (flat L))).2.2 = 0
    · rw [if_pos he]
      have : (partsOf (finish (flat L))).1 = L := by
        have hfu := full_finish L hg
        unfold partsOf at he ⊢
        repeat' split at he
        all_goals first | (exact absurd he (by decide)) | skip
        rename_i g1 g2 g3 g4
        rw [if_neg g1, if_neg g2, if_neg g3, if_neg g4]
        exact hfu
      rw [this]
      have := back_l0 L hg (by omega) (by omega) L.length 1000000 0 (by omega) (by omega)
      rw [List.take_zero] at this
      exact this
    · rw [if_neg he, awake_any _ (by omega)]; rfl
  rw [hj, Option.bind_some, name_prog, Option.bind_some]
  by_cases hn : nameB s = true
  · obtain ⟨g1, g2, g3, g4⟩ := name_good s hn
    have htr : trimR (flat L ++ 47 :: s) = flat L ++ 47 :: s := by
      have e : flat L ++ 47 :: s = (flat L ++ [47]) ++ s := by simp
      rw [e, trim_end g1 g3]
    have hgs : ∀ x ∈ L ++ [asB s], Good x := by
      intro x hx
      rcases List.mem_append.1 hx with hx | hx
      · exact hg x hx
      · obtain rfl : x = asB s := by simpa using hx
        exact g2
    have hfs : flat (L ++ [asB s]) = flat L ++ 47 :: s := by rw [flat_append, flat_one]
    have hcp : path_Clean.f (asB (flat L ++ 47 :: s)) = some (asB (flat L ++ 47 :: s)) := by
      unfold path_Clean.f
      have hff : finish (flat (L ++ [asB s])) = asB (flat L ++ 47 :: s) := by unfold finish; rw [if_neg (by rw [hfs]; simp), hfs]
      rw [if_pos (by rw [asB_size]; simp; omega), clean_finish, ← hff, clean_again _ hgs]
    rw [if_pos hn, base_prog _ (by simp; omega), Option.bind_some, htr, baseL_end _ _ g3, if_pos rfl, up_end _ _ g1 g3 (by omega), Option.bind_some, trim_flat L hg, hcp]
    have hup : (if flat L = [] then asB [47] else asB (flat L)) = finish (flat L) := rfl
    rw [hup, if_pos rfl, Option.bind_some]
    have hb : ((asB (flat L ++ 47 :: s)).toList != (asB (flat L ++ 47 :: s)).toList) = false := by simp
    rw [hb]
    exact tail
  · rw [if_neg hn]
    exact tail
end Go.Proofs.YtnpnablnnfekkaaDoor.PAll
