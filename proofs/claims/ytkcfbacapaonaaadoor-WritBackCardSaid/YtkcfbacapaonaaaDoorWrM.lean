/- A script's first line: the walk of writ.head. -/
import Derived.Test.YtkcfbacapaonaaaDoorWrL
namespace Go.Proofs.YtkcfbacapaonaaaDoor
set_option linter.unusedVariables false
set_option linter.unusedSimpArgs false
open Go.RowKit Go.Lib

/-- A script's cells, but its slice. -/
def scv (s : Sc) (v : Value) : Array Value := #[.int .i64 s.n, .int .i64 s.f, .int .i64 s.odd, .string ⟨s.seed.toArray⟩, v]
theorem sc_all {w : World} {b : Nat} {s : Sc} {v : Value} {t : TypeId} (h : w.heap[b]? = some (.cells (scv s v) t (0, 0))) : w.cell? ⟨b, 0, none⟩ = some (.int .i64 s.n) ∧ w.cell? ⟨b, 1, none⟩ = some (.int .i64 s.f) ∧ w.cell? ⟨b, 2, none⟩ = some (.int .i64 s.odd) ∧ w.cell? ⟨b, 3, none⟩ = some (.string ⟨s.seed.toArray⟩) ∧ w.cell? ⟨b, 4, none⟩ = some v :=
  ⟨cell_of_has h 0, cell_of_has h 1, cell_of_has h 2, cell_of_has h 3, cell_of_has h 4⟩
theorem headPs_len {s : Sc} (hs : s.ok) (hm : s.seed.length ≤ 1000000) : (join (headPs s) [32]).length ≤ 3000000 := by
  obtain ⟨h1, h2, h3, _⟩ := hs
  have a1 := itoa_length_le s.n h1.1 h1.2
  have a2 := itoa_length_le s.f h2.1 h2.2
  have a3 := itoa_length_le s.odd h3.1 h3.2
  have a4 := hexL_len s.seed
  rw [headPs, join_cons, joinTail]
  simp [benchW]
  omega
set_option maxRecDepth 100000 in
set_option maxHeartbeats 16000000 in
theorem head_any (s : Sc) (v : Value) (hv : v.oneCell' = true) (hs : s.ok) (hm : s.seed.length ≤ 1000000) (w : World) (hg : GW w) : Calls Tryd.prog 17 #[.agg (scv s v)] w fun e w' => e = .returned (.string ⟨(headL s).toArray⟩) ∧ Chg [] w w' := by
  obtain ⟨b, hb⟩ : ∃ b, w.heap.size = b := ⟨_, rfl⟩
  obtain ⟨W1, hW1⟩ : ∃ W1, w.alloc (.cells (scv s v) 24) = W1 := ⟨_, rfl⟩
  have hX : W1.heap[b]? = some (.cells (scv s v) 24 (0, 0)) := by rw [← hW1, ← hb]; exact has_alloc_new _ _
  have hC1 : Chg [] w W1 := by rw [← hW1]; exact (Chg.refl _ _).alloc _
  obtain ⟨x0, x1, x2, x3, x4⟩ := sc_all hX
  have hl := headPs_len hs hm
  obtain ⟨h1, h2, h3, _⟩ := hs
  have c0 := fun w hg => itoa_any h1 w hg
  have c1 := fun w hg => itoa_any h2 w hg
  have c2 := fun w hg => itoa_any h3 w hg
  have c3 := fun w => hexed_any ⟨s.seed.toArray⟩ w hm
  have HC1 := Lib.hid hC1; have HG := Lib.hid (hg.chg hC1); have HW1 := Lib.hid hW1; have Hb := Lib.hid hb; have HL := Lib.hid hl
  clear hX hC1 hg hW1 hb hl h1 h2 h3
  go_enter Tryd.func17, Tryd.ntmps17
  go_upto_region 1 with fail
  try rw [show (w.alloc (.cells (scv s v) 24)) = W1 from HW1.out]
  try rw [Hb.out]
  refine abs_region (B := Chg [] W1) (S := fun wz => Chg [] W1 wz) (by kernel_rfl) ((Chg.refl _ _).drew) ?_
  have hG := good_chg [] W1
  refine Abs.tk (i := 0) (d := some 3) (v := ?_) rfl rfl hG ⟨by rfl, fun w9 hw9 => Or.inl ?_⟩ ?_
  rotate_left
  · go_simp
    try with_reducible rfl
  simp only [Act.put, stA, stB, stC]
  refine Abs.tk (i := 1) (d := some 4) (v := ?_) rfl rfl hG ⟨by rfl, fun w9 hw9 => Or.inl ?_⟩ ?_
  rotate_left
  · replace x0 := hw9.cell x0 nmN
    go_simp
    try with_reducible rfl
  simp only [Act.put, stA, stB, stC]
  refine Abs.tk (i := 2) (d := some 5) (v := _) rfl rfl hG ⟨by rfl, fun w9 hw9 => Or.inr ⟨_, _, ?_, c0 w9 (HG.out.chg hw9)⟩⟩ ?_
  · go_simp
    try with_reducible rfl
  simp only [Act.put, stA, stB, stC]
  refine Abs.tk (i := 3) (d := some 6) (v := ?_) rfl rfl hG ⟨by rfl, fun w9 hw9 => Or.inl ?_⟩ ?_
  rotate_left
  · go_simp
    try with_reducible rfl
  simp only [Act.put, stA, stB, stC]
  refine Abs.tk (i := 4) (d := some 7) (v := ?_) rfl rfl hG ⟨by rfl, fun w9 hw9 => Or.inl ?_⟩ ?_
  rotate_left
  · replace x1 := hw9.cell x1 nmN
    go_simp
    try with_reducible rfl
  simp only [Act.put, stA, stB, stC]
  refine Abs.tk (i := 5) (d := some 8) (v := _) rfl rfl hG ⟨by rfl, fun w9 hw9 => Or.inr ⟨_, _, ?_, c1 w9 (HG.out.chg hw9)⟩⟩ ?_
  · go_simp
    try with_reducible rfl
  simp only [Act.put, stA, stB, stC]
  refine Abs.tk (i := 6) (d := some 9) (v := ?_) rfl rfl hG ⟨by rfl, fun w9 hw9 => Or.inl ?_⟩ ?_
  rotate_left
  · go_simp
    try with_reducible rfl
  simp only [Act.put, stA, stB, stC]
  refine Abs.tk (i := 7) (d := some 10) (v := ?_) rfl rfl hG ⟨by rfl, fun w9 hw9 => Or.inl ?_⟩ ?_
  rotate_left
  · replace x2 := hw9.cell x2 nmN
    go_simp
    try with_reducible rfl
  simp only [Act.put, stA, stB, stC]
  refine Abs.tk (i := 8) (d := some 11) (v := _) rfl rfl hG ⟨by rfl, fun w9 hw9 => Or.inr ⟨_, _, ?_, c2 w9 (HG.out.chg hw9)⟩⟩ ?_
  · go_simp
    try with_reducible rfl
  simp only [Act.put, stA, stB, stC]
  refine Abs.tk (i := 9) (d := some 12) (v := ?_) rfl rfl hG ⟨by rfl, fun w9 hw9 => Or.inl ?_⟩ ?_
  rotate_left
  · go_simp
    try with_reducible rfl
  simp only [Act.put, stA, stB, stC]
  refine Abs.tk (i := 10) (d := some 13) (v := ?_) rfl rfl hG ⟨by rfl, fun w9 hw9 => Or.inl ?_⟩ ?_
  rotate_left
  · replace x3 := hw9.cell x3 nmN
    go_simp
    try with_reducible rfl
  simp only [Act.put, stA, stB, stC]
  refine Abs.tk (i := 11) (d := some 14) (v := _) rfl rfl hG ⟨by rfl, fun w9 hw9 => Or.inr ⟨_, _, ?_, c3 w9⟩⟩ ?_
  · go_simp
    try with_reducible rfl
  simp only [Act.put, stA, stB, stC]
  refine Abs.litN (i := 12) (d := 15) (t := 9) (W := W1) 5 #[.string ⟨#[98, 101, 110, 99, 104]⟩, .string ⟨(itoa s.n).toArray⟩, .string ⟨(itoa s.f).toArray⟩, .string ⟨(itoa s.odd).toArray⟩, .string ⟨(hexL s.seed).toArray⟩] rfl rfl (by kernel_rfl) (by rfl) hG (fun _ h => h) (fun w9 => ?_) (fun gb hgb hG => ?_)
  · go_simp
    try with_reducible rfl
  simp only [Act.put, stA, stB, stC]
  refine Abs.alone (i := 13) (d := some 16) (v := .string ⟨(headL s).toArray⟩) rfl rfl (by kernel_rfl) (by rfl) hG (fun w9 hw9 => Or.inr ⟨_, _, ?_, join_any (b := gb) (o := 0) (c := 5) (n := 5) (sep := ⟨#[32]⟩) (xs := headPs s) w9 ⟨lt_of_has hw9.2, fun j x hj => ?_⟩ rfl (Nat.le_refl _) (by decide) (Nat.le_trans HL.out (by decide))⟩) ?_
  · go_simp
    try with_reducible rfl
  · rw [cell_of_has hw9.2, Nat.zero_add]
    have : j = 0 ∨ j = 1 ∨ j = 2 ∨ j = 3 ∨ j = 4 := by
      have := (List.getElem?_eq_some_iff.1 hj).1
      simp [headPs] at this
      omega
    rcases this with rfl | rfl | rfl | rfl | rfl <;> (simp [headPs] at hj; subst hj; rfl)
  simp only [Act.put, stA, stB, stC]
  refine Abs.tk (i := 14) (d := some 2) (v := ?_) rfl rfl hG ⟨by rfl, fun w9 hw9 => Or.inl ?_⟩ ?_
  rotate_left
  · go_simp
    try with_reducible rfl
  simp only [Act.put, stA, stB, stC]
  refine Abs.done (by kernel_rfl) (fun wx hx => NoPanic.normal ?_) _
  have HX := Lib.hid (HC1.out.trans hx.1)
  clear hx hG
  go_wp2_with fail
  go_ret
  exact ⟨rfl, HX.out⟩

end Go.Proofs.YtkcfbacapaonaaaDoor
