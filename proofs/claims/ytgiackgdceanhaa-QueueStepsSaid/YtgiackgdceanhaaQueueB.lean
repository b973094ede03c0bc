/- The walk of slices.Delete at []int, as the queue calls it: one element out of a row of the call's own. -/
import Derived.Test.YtgiackgdceanhaaQueueA
import Derived.Lib.SliceRun
namespace Go.Proofs.Ytgiackgdceanhaa
set_option linter.unusedVariables false
set_option linter.unusedSimpArgs false
open Go.RowKit

/-- A block of plain cells after a run of stores. -/
theorem has_setCells (g : Nat) (t : TypeId) : ∀ (vs : List Value) (o : Nat) (w : World) (cur : Array Value), w.heap[g]? = some (.cells cur t (0, 0)) → o + vs.length ≤ cur.size →
    ∃ cur', (w.setCells g o vs).heap[g]? = some (.cells cur' t (0, 0)) ∧ cur'.size = cur.size ∧ cur'.toList = cur.toList.take o ++ vs ++ cur.toList.drop (o + vs.length)
  | [], o, w, cur, h, _ => ⟨cur, h, rfl, by simp⟩
  | v :: r, o, w, cur, h, hl => by
    have hl' : o + (r.length + 1) ≤ cur.size := by simpa using hl
    obtain ⟨c2, h2, h3, h4⟩ := has_setCells g t r (o + 1) (w.setCell ⟨g, o, none⟩ v) (cur.setIfInBounds o v) (has_set h o v) (by simp; omega)
    refine ⟨c2, h2, by simpa using h3, ?_⟩
    rw [h4]
    have e1 : (cur.setIfInBounds o v).toList = cur.toList.set o v := by simp
    rw [e1]
    have e2 : (cur.toList.set o v).take (o + 1) = cur.toList.take o ++ [v] := by
      apply List.ext_getElem?
      intro j
      by_cases hj : j < o
      · simp [List.getElem?_take, List.getElem?_append, hj, List.getElem?_set, show ¬ o = j by omega, show j < o + 1 by omega, show j < min o cur.size by omega]
      · by_cases hj2 : j = o
        · subst hj2
          simp [List.getElem?_take, List.getElem?_append, List.getElem?_set, show j < cur.size by omega, show ¬ j < min j cur.size by omega, show min j cur.size = j by omega]
        · simp [List.getElem?_take, List.getElem?_append, show ¬ j < o + 1 by omega, show ¬ j < min o cur.size by omega]
          omega
    rw [e2, List.drop_set_of_lt (by omega)]
    simp [show o + 1 + r.length = o + (r.length + 1) by omega]

theorem chg_setCells {S : List Nat} (g : Nat) (hg : g ∈ S) : ∀ (vs : List Value) (o : Nat) (a w : World), Chg S a w → Chg S a (w.setCells g o vs)
  | [], _, _, _, h => h
  | v :: r, o, a, w, h => chg_setCells g hg r (o + 1) a _ (h.setCell (Or.inl hg) v)

set_option maxRecDepth 100000 in
set_option maxHeartbeats 400000 in
theorem sl_delete (g k cap i : Nat) (cur : Array Value) (zs : List Int) (w : World) (hm : k ≤ 100000) (hi : i ≤ k) (hnc : k + 1 ≤ cap) (hcm : cap ≤ 9223372036854775807) (hcs : cur.size = cap)
    (hz : zs.length = k + 1) (hcz : cur.toList.take (k + 1) = ints zs) (hg : w.heap[g]? = some (.cells cur 3 (0, 0))) :
    Calls Try.prog 40 #[.slice (some ⟨g, 0, none⟩) (k + 1) cap, .int .i64 i, .int .i64 ((i : Int) + 1)] w fun e w' => e = .returned (.slice (some ⟨g, 0, none⟩) k cap) ∧
      (∃ cur', w'.heap[g]? = some (.cells cur' 3 (0, 0)) ∧ cur'.size = cap ∧ cur'.toList.take k = ints (zs.take i ++ zs.drop (i + 1))) ∧ Chg [g] w w' := by
  have e1 : ((i : Int) == (i : Int) + 1) = false := by simp; omega
  obtain ⟨i0, hi0, hz0, hz1, hz2⟩ := info_parts elem_intS.hi
  have hnl : (ints (zs.drop (i + 1))).length = k - i := by simp [ints, hz]
  have hat : ∀ j, j < k + 1 → cur[j]? = (ints zs)[j]? := by
    intro j hj
    rw [← hcz, List.getElem?_take, if_pos hj]; simp
  have hcell : ∀ j, j < cap → w.cell? ⟨g, j, none⟩ = cur[j]? := fun j _ => cell_of_has hg j
  have hone : ∀ u ∈ ints (zs.drop (i + 1)), u.oneCell' = true := ints_oneCell .i64 _
  have hspare : ∀ j, j < k - i → (w.drew.cell? ⟨g, i + j, none⟩).isSome = true ∧ w.drew.frozen? ⟨g, i + j, none⟩ = false := by
    intro j hj
    refine ⟨?_, frozen_of_has hg _⟩
    show (w.cell? ⟨g, i + j, none⟩).isSome = true
    rw [hcell _ (by omega)]
    simp [hcs]; omega
  have HNL := Lib.hid hnl; have HC := Lib.hid hcell; have HONE := Lib.hid hone; have HSP := Lib.hid hspare; have HAT := Lib.hid hat; have HCZ := Lib.hid hcz; have HZ := Lib.hid hz
  clear hnl hcell hone hspare hat hcz hz
  have hclr : ∀ (w1 : World) (c1 : Array Value), w1.heap[g]? = some (.cells c1 3 (0, 0)) → c1.size = cap → ∀ c, (Builtin.clear_ #[22] 0 #[.slice (some ⟨g, k, none⟩) 1 c]).run Try.prog w1 = .ok (.tuple #[]) (w1.setCells g k [.int .i64 0]) := by
    intro w1 c1 h1 h2 c
    refine Lib.run_clear_slice w1 22 3 0 (.int .i64 0) Try.underlying22 (fun w => by kernel_rfl) rfl rfl g k 1 c (by omega) ?_ ?_
    · intro j hj; rw [cell_of_has h1]; simp; omega
    · intro j hj; exact frozen_of_has h1 _
  have HCLR := Lib.hid hclr
  clear hclr
  have b1 : i ≤ cap := by omega
  have b2 : i + 1 ≤ k + 1 := by omega
  have b3 : i + 1 ≤ cap := by omega
  have b4 : (0 : Int) ≤ (i : Int) + 1 := by omega
  have b5 : (i : Int) + 1 ≤ (k : Int) + 1 := by omega
  have b6 : (k : Int) ≤ (k : Int) + 1 := by omega
  by_cases hce : cap = i + 1
  · obtain rfl : i = k := by omega
    subst hce
    go_enter Try.func40, Try.ntmps40
    go_wp2_with fail
    go_region_law? (refine step_append_room rfl (.tmp 22) (.tmp 25) 22 rfl 3 i0 1 Try.underlying22 hi0 hz1 g 0 i (i + 1) (by simp [Act.eval, Act.put]) ⟨g, 0, none⟩ 0 0 [] (by simp [Act.eval, Act.put]) (by simp) (by simp) (by simp) (by omega) (by simp) ?_)
    rw [show ∀ (w : World) (b o : Nat), w.setCells b o [] = w from fun _ _ _ => rfl]
    have hcl := HCLR.out w.drew cur hg hcs
    obtain ⟨c2, hc2, hs2, ht2⟩ := has_setCells g 3 [.int .i64 0] i w.drew cur hg (by simp [hcs])
    have hch2 := chg_setCells g (S := [g]) (by simp) [.int .i64 0] i w w.drew (Chg.refl _ w).drew
    have hfin : c2.toList.take i = ints (zs.take i ++ zs.drop (i + 1)) := by
      rw [ht2, List.append_assoc, List.take_append_of_le_length (by simp [hcs]), List.take_take, Nat.min_self]
      have h5 : cur.toList.take i = (ints zs).take i := by
        rw [← HCZ.out, List.take_take]; congr 1; omega
      rw [h5]
      have h6 : zs.drop (i + 1) = [] := List.drop_eq_nil_of_le (by rw [HZ.out]; omega)
      rw [h6]; simp [ints]
    have HC2 := Lib.hid hc2; have HS2 := Lib.hid hs2; have HF := Lib.hid hfin; have HCH2 := Lib.hid hch2
    clear hc2 hs2 hfin hch2 ht2
    go_wp2
    go_ret
    exact ⟨rfl, ⟨c2, HC2.out, by rw [HS2.out, hcs], HF.out⟩, HCH2.out⟩
  · have hnews : ∀ j u, (ints (zs.drop (i + 1)))[j]? = some u → w.drew.cell? ((⟨g, i + 1, none⟩ : Addr).add j) = some u := by
      intro j u hu
      rw [show (⟨g, i + 1, none⟩ : Addr).add j = ⟨g, i + 1 + j, none⟩ from by unfold Addr.add; split <;> simp_all]
      have hj := (List.getElem?_eq_some_iff.1 hu).1
      rw [HNL.out] at hj
      show w.cell? ⟨g, i + 1 + j, none⟩ = some u
      rw [HC.out _ (by omega), HAT.out _ (by omega)]
      simpa [ints] using hu
    have HNEWS := Lib.hid hnews
    clear hnews
    go_enter Try.func40, Try.ntmps40
    go_wp2_with fail
    go_region_law? (refine step_append_room rfl (.tmp 22) (.tmp 25) 22 rfl 3 i0 1 Try.underlying22 hi0 hz1 g 0 i cap (by simp [Act.eval, Act.put]) ⟨g, i + 1, none⟩ (k - i) (cap - (i + 1)) _ (by simp [Act.eval, Act.put, hce]) (by simpa using HNL.out) HNEWS.out HONE.out (by omega) (by simpa [HNL.out] using HSP.out) ?_)
    generalize hW : World.setCells _ _ _ _ = W
    have hfact : (∃ c1, W.heap[g]? = some (.cells c1 3 (0, 0)) ∧ c1.size = cap ∧ c1.toList.take k = ints (zs.take i ++ zs.drop (i + 1))) ∧ Chg [g] w W := by
      subst hW
      obtain ⟨c1, h1, h2, h3⟩ := has_setCells g 3 (ints (zs.drop (i + 1))) i w.drew cur hg (by rw [HNL.out, hcs]; omega)
      refine ⟨⟨c1, h1, by rw [h2, hcs], ?_⟩, chg_setCells g (by simp) _ _ w _ (Chg.refl _ w).drew⟩
      rw [h3, HNL.out]
      have h4 : (cur.toList.take i ++ ints (zs.drop (i + 1))).length = k := by
        have := HNL.out
        simp [hcs, this]; omega
      rw [List.take_append_of_le_length (by omega), List.take_of_length_le (by omega)]
      have h5 : cur.toList.take i = (ints zs).take i := by
        rw [← HCZ.out, List.take_take]; congr 1; omega
      rw [h5]; simp [ints]
    have hW' := hW
    clear hW hW'
    obtain ⟨⟨c1, hc1, hs1, ht1⟩, hch⟩ := hfact
    have hcl := HCLR.out W c1 hc1 hs1
    obtain ⟨c2, hc2, hs2, ht2⟩ := has_setCells g 3 [.int .i64 0] k W c1 hc1 (by simp [hs1]; omega)
    have hch2 := chg_setCells g (S := [g]) (by simp) [.int .i64 0] k w W hch
    have hfin : c2.toList.take k = ints (zs.take i ++ zs.drop (i + 1)) := by
      rw [ht2, List.append_assoc, List.take_append_of_le_length (by simp [hs1]; omega), List.take_take, Nat.min_self, ht1]
    have HC1 := Lib.hid hc1; have HS1 := Lib.hid hs1; have HT1 := Lib.hid ht1; have HC2 := Lib.hid hc2; have HS2 := Lib.hid hs2; have HF := Lib.hid hfin; have HCH := Lib.hid hch; have HCH2 := Lib.hid hch2
    clear hc1 hs1 ht1 hc2 hs2 hfin hch hch2 ht2
    go_wp2
    go_ret
    refine ⟨rfl, ⟨c2, HC2.out, ?_, HF.out⟩, HCH2.out⟩
    rw [HS2.out, HS1.out]

end Go.Proofs.Ytgiackgdceanhaa
