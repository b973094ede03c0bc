/- CurveSums: the walks. Printed by lawb.py. -/
import Derived.Test.YtplldbmjdnikeaaLawA
namespace Go.Proofs.Ytplldbmjdnikeaa
set_option linter.unusedVariables false
set_option linter.unusedSimpArgs false
open Go.RowKit

set_option maxRecDepth 100000 in
set_option maxHeartbeats 8000000 in
theorem sums_on {ax ay dx dy sx sy nx ny : Nat} {ai di si ni : Bool}
    (C1 : Hid (∀ w : World, Calls Try.prog 11 #[.agg #[.int .u64 (lm ax 0 : Nat), .int .u64 (lm ax 1 : Nat), .int .u64 (lm ax 2 : Nat), .int .u64 (lm ax 3 : Nat), .int .u64 (lm ay 0 : Nat), .int .u64 (lm ay 1 : Nat), .int .u64 (lm ay 2 : Nat), .int .u64 (lm ay 3 : Nat), .bool ai], .agg #[.int .u64 (lm dx 0 : Nat), .int .u64 (lm dx 1 : Nat), .int .u64 (lm dx 2 : Nat), .int .u64 (lm dx 3 : Nat), .int .u64 (lm dy 0 : Nat), .int .u64 (lm dy 1 : Nat), .int .u64 (lm dy 2 : Nat), .int .u64 (lm dy 3 : Nat), .bool di]] w fun e w' => e = .returned (.tuple #[.agg #[.int .u64 (lm sx 0 : Nat), .int .u64 (lm sx 1 : Nat), .int .u64 (lm sx 2 : Nat), .int .u64 (lm sx 3 : Nat), .int .u64 (lm sy 0 : Nat), .int .u64 (lm sy 1 : Nat), .int .u64 (lm sy 2 : Nat), .int .u64 (lm sy 3 : Nat), .bool si], .int .i64 0]) ∧ Chg [] w w'))
    (C2 : Hid (∀ w : World, Calls Try.prog 12 #[.agg #[.int .u64 (lm ax 0 : Nat), .int .u64 (lm ax 1 : Nat), .int .u64 (lm ax 2 : Nat), .int .u64 (lm ax 3 : Nat), .int .u64 (lm ay 0 : Nat), .int .u64 (lm ay 1 : Nat), .int .u64 (lm ay 2 : Nat), .int .u64 (lm ay 3 : Nat), .bool ai], .agg #[.int .u64 (lm dx 0 : Nat), .int .u64 (lm dx 1 : Nat), .int .u64 (lm dx 2 : Nat), .int .u64 (lm dx 3 : Nat), .int .u64 (lm dy 0 : Nat), .int .u64 (lm dy 1 : Nat), .int .u64 (lm dy 2 : Nat), .int .u64 (lm dy 3 : Nat), .bool di]] w fun e w' => e = .returned (.tuple #[.agg #[.int .u64 (lm sx 0 : Nat), .int .u64 (lm sx 1 : Nat), .int .u64 (lm sx 2 : Nat), .int .u64 (lm sx 3 : Nat), .int .u64 (lm sy 0 : Nat), .int .u64 (lm sy 1 : Nat), .int .u64 (lm sy 2 : Nat), .int .u64 (lm sy 3 : Nat), .bool si], .int .i64 0]) ∧ Chg [] w w'))
    (C3 : Hid (∀ w : World, Calls Try.prog 13 #[.agg #[.int .u64 (lm ax 0 : Nat), .int .u64 (lm ax 1 : Nat), .int .u64 (lm ax 2 : Nat), .int .u64 (lm ax 3 : Nat), .int .u64 (lm ay 0 : Nat), .int .u64 (lm ay 1 : Nat), .int .u64 (lm ay 2 : Nat), .int .u64 (lm ay 3 : Nat), .bool ai]] w fun e w' => e = .returned (.tuple #[.agg #[.int .u64 (lm nx 0 : Nat), .int .u64 (lm nx 1 : Nat), .int .u64 (lm nx 2 : Nat), .int .u64 (lm nx 3 : Nat), .int .u64 (lm ny 0 : Nat), .int .u64 (lm ny 1 : Nat), .int .u64 (lm ny 2 : Nat), .int .u64 (lm ny 3 : Nat), .bool ni], .int .i64 0]) ∧ Chg [] w w'))
    (C4 : Hid (∀ w : World, Calls Try.prog 14 #[.agg #[.int .u64 (lm ax 0 : Nat), .int .u64 (lm ax 1 : Nat), .int .u64 (lm ax 2 : Nat), .int .u64 (lm ax 3 : Nat), .int .u64 (lm ay 0 : Nat), .int .u64 (lm ay 1 : Nat), .int .u64 (lm ay 2 : Nat), .int .u64 (lm ay 3 : Nat), .bool ai]] w fun e w' => e = .returned (.bool true) ∧ Chg [] w w'))
    (C5 : Hid (∀ w : World, Calls Try.prog 15 #[.agg #[.int .u64 (lm ax 0 : Nat), .int .u64 (lm ax 1 : Nat), .int .u64 (lm ax 2 : Nat), .int .u64 (lm ax 3 : Nat), .int .u64 (lm ay 0 : Nat), .int .u64 (lm ay 1 : Nat), .int .u64 (lm ay 2 : Nat), .int .u64 (lm ay 3 : Nat), .bool ai]] w fun e w' => e = .returned (.int .i64 0) ∧ Chg [] w w'))
    (C6 : Hid (∀ w : World, Calls Try.prog 16 #[.agg #[.int .u64 (lm ax 0 : Nat), .int .u64 (lm ax 1 : Nat), .int .u64 (lm ax 2 : Nat), .int .u64 (lm ax 3 : Nat), .int .u64 (lm ay 0 : Nat), .int .u64 (lm ay 1 : Nat), .int .u64 (lm ay 2 : Nat), .int .u64 (lm ay 3 : Nat), .bool ai]] w fun e w' => e = .returned (.agg #[.int .u64 (lm nx 0 : Nat), .int .u64 (lm nx 1 : Nat), .int .u64 (lm nx 2 : Nat), .int .u64 (lm nx 3 : Nat), .int .u64 (lm ny 0 : Nat), .int .u64 (lm ny 1 : Nat), .int .u64 (lm ny 2 : Nat), .int .u64 (lm ny 3 : Nat), .bool ni]) ∧ Chg [] w w'))
    (ls : sx < B6 ^ 4 ∧ sy < B6 ^ 4) (ln : nx < B6 ^ 4 ∧ ny < B6 ^ 4) (w : World) :
    Calls Try.prog 3 #[.agg #[.int .u64 (lm ax 0 : Nat), .int .u64 (lm ax 1 : Nat), .int .u64 (lm ax 2 : Nat), .int .u64 (lm ax 3 : Nat), .int .u64 (lm ay 0 : Nat), .int .u64 (lm ay 1 : Nat), .int .u64 (lm ay 2 : Nat), .int .u64 (lm ay 3 : Nat), .bool ai], .agg #[.int .u64 (lm dx 0 : Nat), .int .u64 (lm dx 1 : Nat), .int .u64 (lm dx 2 : Nat), .int .u64 (lm dx 3 : Nat), .int .u64 (lm dy 0 : Nat), .int .u64 (lm dy 1 : Nat), .int .u64 (lm dy 2 : Nat), .int .u64 (lm dy 3 : Nat), .bool di]] w fun e w' => e = .returned (.bool true) ∧ Chg [] w w' := by
  have C8 := Lib.hid (fun w => law_g w)
  have es1 := fun w => num_eq9 ls.1 ls.1 w
  have es2 := fun w => num_eq9 ls.2 ls.2 w
  simp only [decide_true] at es1 es2
  have en1 := fun w => num_eq9 ln.1 ln.1 w
  have en2 := fun w => num_eq9 ln.2 ln.2 w
  simp only [decide_true] at en1 en2
  clear ls ln
  obtain ⟨W0, hW0⟩ : ∃ W0, ((w.alloc (.cells #[.int .u64 (lm ax 0 : Nat), .int .u64 (lm ax 1 : Nat), .int .u64 (lm ax 2 : Nat), .int .u64 (lm ax 3 : Nat), .int .u64 (lm ay 0 : Nat), .int .u64 (lm ay 1 : Nat), .int .u64 (lm ay 2 : Nat), .int .u64 (lm ay 3 : Nat), .bool ai] 26)).alloc (.cells #[.int .u64 (lm dx 0 : Nat), .int .u64 (lm dx 1 : Nat), .int .u64 (lm dx 2 : Nat), .int .u64 (lm dx 3 : Nat), .int .u64 (lm dy 0 : Nat), .int .u64 (lm dy 1 : Nat), .int .u64 (lm dy 2 : Nat), .int .u64 (lm dy 3 : Nat), .bool di] 26)) = W0 := ⟨_, rfl⟩
  have Ha := Lib.hid (show U9 W0 (w.heap.size) ax ay ai by rw [← hW0]; exact has_alloc (has_alloc_new _ _))
  have Hd := Lib.hid (show U9 W0 (w.heap.size + 1) dx dy di by rw [← hW0]; exact has_alloc_at (by simp))
  have HC := Lib.hid (show Chg [] w W0 by rw [← hW0]; exact ((Chg.refl _ _).alloc _).alloc _)
  go_enter Try.func3, Try.ntmps3
  go_upto_region 1 with fail
  try rw [hW0]
  clear hW0
  obtain ⟨P0, hP⟩ : ∃ P, w.heap.size = P := ⟨_, rfl⟩
  rw [hP] at Ha Hd ⊢
  replace hP := Lib.hid hP
  obtain ⟨a0, a1, a2, a3, a4, a5, a6, a7, a8⟩ := (Ha.out).all
  obtain ⟨d0, d1, d2, d3, d4, d5, d6, d7, d8⟩ := (Hd.out).all
  go_wp2_with fail
  refine (C1.out _).mono ?_
  rintro e w1 ⟨rfl, hC1⟩
  clear a0 a1 a2 a3 a4 a5 a6 a7 a8
  clear d0 d1 d2 d3 d4 d5 d6 d7 d8
  replace Ha := Lib.hid (Ha.out.chg hC1 nmN)
  replace Hd := Lib.hid (Hd.out.chg hC1 nmN)
  replace HC := Lib.hid (HC.out.trans hC1)
  clear hC1
  obtain ⟨W1, hW1⟩ : ∃ W1, w1.alloc (.cells #[.int .u64 (lm sx 0 : Nat), .int .u64 (lm sx 1 : Nat), .int .u64 (lm sx 2 : Nat), .int .u64 (lm sx 3 : Nat), .int .u64 (lm sy 0 : Nat), .int .u64 (lm sy 1 : Nat), .int .u64 (lm sy 2 : Nat), .int .u64 (lm sy 3 : Nat), .bool si] 26) = W1 := ⟨_, rfl⟩
  have hA : Chg [] w1 W1 := by rw [← hW1]; exact (Chg.refl _ _).alloc _
  have hN : U9 W1 w1.heap.size sx sy si := by rw [← hW1]; exact has_alloc_new _ _
  obtain ⟨b_s, hb⟩ : ∃ b, w1.heap.size = b := ⟨_, rfl⟩
  rw [hb] at hN
  replace Ha := Lib.hid (Ha.out.chg hA nmN)
  replace Hd := Lib.hid (Hd.out.chg hA nmN)
  replace HC := Lib.hid (HC.out.trans hA)
  have Hs := Lib.hid hN
  have HW1 := Lib.hid hW1; have Hb := Lib.hid hb
  clear hW1 hb hA hN
  go_upto_region 2 with fail
  try rw [HW1.out]
  try rw [Hb.out]
  clear HW1 Hb
  obtain ⟨a0, a1, a2, a3, a4, a5, a6, a7, a8⟩ := (Ha.out).all
  obtain ⟨d0, d1, d2, d3, d4, d5, d6, d7, d8⟩ := (Hd.out).all
  go_wp2_with fail
  refine (C2.out _).mono ?_
  rintro e w1 ⟨rfl, hC1⟩
  clear a0 a1 a2 a3 a4 a5 a6 a7 a8
  clear d0 d1 d2 d3 d4 d5 d6 d7 d8
  replace Ha := Lib.hid (Ha.out.chg hC1 nmN)
  replace Hd := Lib.hid (Hd.out.chg hC1 nmN)
  replace HC := Lib.hid (HC.out.trans hC1)
  replace Hs := Lib.hid (Hs.out.chg hC1 nmN)
  clear hC1
  obtain ⟨W1, hW1⟩ : ∃ W1, w1.alloc (.cells #[.int .u64 (lm sx 0 : Nat), .int .u64 (lm sx 1 : Nat), .int .u64 (lm sx 2 : Nat), .int .u64 (lm sx 3 : Nat), .int .u64 (lm sy 0 : Nat), .int .u64 (lm sy 1 : Nat), .int .u64 (lm sy 2 : Nat), .int .u64 (lm sy 3 : Nat), .bool si] 26) = W1 := ⟨_, rfl⟩
  have hA : Chg [] w1 W1 := by rw [← hW1]; exact (Chg.refl _ _).alloc _
  have hN : U9 W1 w1.heap.size sx sy si := by rw [← hW1]; exact has_alloc_new _ _
  obtain ⟨b_t, hb⟩ : ∃ b, w1.heap.size = b := ⟨_, rfl⟩
  rw [hb] at hN
  replace Ha := Lib.hid (Ha.out.chg hA nmN)
  replace Hd := Lib.hid (Hd.out.chg hA nmN)
  replace HC := Lib.hid (HC.out.trans hA)
  replace Hs := Lib.hid (Hs.out.chg hA nmN)
  have Ht := Lib.hid hN
  have HW1 := Lib.hid hW1; have Hb := Lib.hid hb
  clear hW1 hb hA hN
  go_upto_region 3 with fail
  try rw [HW1.out]
  try rw [Hb.out]
  clear HW1 Hb
  obtain ⟨a0, a1, a2, a3, a4, a5, a6, a7, a8⟩ := (Ha.out).all
  go_wp2_with fail
  refine (C3.out _).mono ?_
  rintro e w1 ⟨rfl, hC1⟩
  clear a0 a1 a2 a3 a4 a5 a6 a7 a8
  replace Ha := Lib.hid (Ha.out.chg hC1 nmN)
  replace Hd := Lib.hid (Hd.out.chg hC1 nmN)
  replace HC := Lib.hid (HC.out.trans hC1)
  replace Hs := Lib.hid (Hs.out.chg hC1 nmN)
  replace Ht := Lib.hid (Ht.out.chg hC1 nmN)
  clear hC1
  obtain ⟨W1, hW1⟩ : ∃ W1, w1.alloc (.cells #[.int .u64 (lm nx 0 : Nat), .int .u64 (lm nx 1 : Nat), .int .u64 (lm nx 2 : Nat), .int .u64 (lm nx 3 : Nat), .int .u64 (lm ny 0 : Nat), .int .u64 (lm ny 1 : Nat), .int .u64 (lm ny 2 : Nat), .int .u64 (lm ny 3 : Nat), .bool ni] 26) = W1 := ⟨_, rfl⟩
  have hA : Chg [] w1 W1 := by rw [← hW1]; exact (Chg.refl _ _).alloc _
  have hN : U9 W1 w1.heap.size nx ny ni := by rw [← hW1]; exact has_alloc_new _ _
  obtain ⟨b_n, hb⟩ : ∃ b, w1.heap.size = b := ⟨_, rfl⟩
  rw [hb] at hN
  replace Ha := Lib.hid (Ha.out.chg hA nmN)
  replace Hd := Lib.hid (Hd.out.chg hA nmN)
  replace HC := Lib.hid (HC.out.trans hA)
  replace Hs := Lib.hid (Hs.out.chg hA nmN)
  replace Ht := Lib.hid (Ht.out.chg hA nmN)
  have Hn := Lib.hid hN
  have HW1 := Lib.hid hW1; have Hb := Lib.hid hb
  clear hW1 hb hA hN
  go_upto_region 4 with fail
  try rw [HW1.out]
  try rw [Hb.out]
  clear HW1 Hb
  obtain ⟨a0, a1, a2, a3, a4, a5, a6, a7, a8⟩ := (Ha.out).all
  go_wp2_with fail
  refine (C4.out _).mono ?_
  rintro e w1 ⟨rfl, hC1⟩
  clear a0 a1 a2 a3 a4 a5 a6 a7 a8
  replace Ha := Lib.hid (Ha.out.chg hC1 nmN)
  replace Hd := Lib.hid (Hd.out.chg hC1 nmN)
  replace HC := Lib.hid (HC.out.trans hC1)
  replace Hs := Lib.hid (Hs.out.chg hC1 nmN)
  replace Ht := Lib.hid (Ht.out.chg hC1 nmN)
  replace Hn := Lib.hid (Hn.out.chg hC1 nmN)
  clear hC1
  obtain ⟨s0, s1, s2, s3, s4, s5, s6, s7, s8⟩ := (Hs.out).all
  obtain ⟨t0, t1, t2, t3, t4, t5, t6, t7, t8⟩ := (Ht.out).all
  obtain ⟨a0, a1, a2, a3, a4, a5, a6, a7, a8⟩ := (Ha.out).all
  go_wp2_with fail
  refine (C5.out _).mono ?_
  rintro e w1 ⟨rfl, hC1⟩
  clear s0 s1 s2 s3 s4 s5 s6 s7 s8
  clear t0 t1 t2 t3 t4 t5 t6 t7 t8
  clear a0 a1 a2 a3 a4 a5 a6 a7 a8
  replace Ha := Lib.hid (Ha.out.chg hC1 nmN)
  replace Hd := Lib.hid (Hd.out.chg hC1 nmN)
  replace HC := Lib.hid (HC.out.trans hC1)
  replace Hs := Lib.hid (Hs.out.chg hC1 nmN)
  replace Ht := Lib.hid (Ht.out.chg hC1 nmN)
  replace Hn := Lib.hid (Hn.out.chg hC1 nmN)
  clear hC1
  go_upto_region 7 with fail
  obtain ⟨n0, n1, n2, n3, n4, n5, n6, n7, n8⟩ := (Hn.out).all
  obtain ⟨a0, a1, a2, a3, a4, a5, a6, a7, a8⟩ := (Ha.out).all
  refine abs_region (B := Chg [] w1) (S := Chg [] w1) (by kernel_rfl) ((Chg.refl _ _).drew) ?_
  have hG := good_chg [] w1
  refine Abs.take_np (i := 0) (d := some 52) (v := ?_) rfl rfl (by kernel_rfl) (by kernel_rfl) (by kernel_rfl) hG ⟨by rfl, fun w9 hw9 => Or.inl ?_⟩ ?_
  rotate_left
  · go_simp
    try with_reducible rfl
  simp only [Act.put, stA, stB, stC]
  refine Abs.take_np (i := 1) (d := some 53) (v := ?_) rfl rfl (by kernel_rfl) (by kernel_rfl) (by kernel_rfl) hG ⟨by rfl, fun w9 hw9 => Or.inl ?_⟩ ?_
  rotate_left
  · go_simp
    try with_reducible rfl
  simp only [Act.put, stA, stB, stC]
  refine Abs.take_np (i := 2) (d := some 54) (v := ?_) rfl rfl (by kernel_rfl) (by kernel_rfl) (by kernel_rfl) hG ⟨by rfl, fun w9 hw9 => Or.inl ?_⟩ ?_
  rotate_left
  · replace n0 := hw9.cell n0 nmN; replace n1 := hw9.cell n1 nmN; replace n2 := hw9.cell n2 nmN; replace n3 := hw9.cell n3 nmN; replace n4 := hw9.cell n4 nmN; replace n5 := hw9.cell n5 nmN; replace n6 := hw9.cell n6 nmN; replace n7 := hw9.cell n7 nmN; replace n8 := hw9.cell n8 nmN
    go_simp
    try with_reducible rfl
  simp only [Act.put, stA, stB, stC]
  refine Abs.take_np (i := 3) (d := some 55) (v := ?_) rfl rfl (by kernel_rfl) (by kernel_rfl) (by kernel_rfl) hG ⟨by rfl, fun w9 hw9 => Or.inl ?_⟩ ?_
  rotate_left
  · replace a0 := hw9.cell a0 nmN; replace a1 := hw9.cell a1 nmN; replace a2 := hw9.cell a2 nmN; replace a3 := hw9.cell a3 nmN; replace a4 := hw9.cell a4 nmN; replace a5 := hw9.cell a5 nmN; replace a6 := hw9.cell a6 nmN; replace a7 := hw9.cell a7 nmN; replace a8 := hw9.cell a8 nmN
    go_simp
    try with_reducible rfl
  simp only [Act.put, stA, stB, stC]
  refine Abs.take_np (i := 4) (d := some 56) (v := _) rfl rfl (by kernel_rfl) (by kernel_rfl) (by kernel_rfl) hG ⟨by rfl, fun w9 hw9 => Or.inr ⟨_, _, ?_, C6.out w9⟩⟩ ?_
  · go_simp
    try with_reducible rfl
  simp only [Act.put, stA, stB, stC]
  refine Abs.take_np (i := 5) (d := some 57) (v := ?_) rfl rfl (by kernel_rfl) (by kernel_rfl) (by kernel_rfl) hG ⟨by rfl, fun w9 hw9 => Or.inl ?_⟩ ?_
  rotate_left
  · go_simp
    try with_reducible rfl
  simp only [Act.put, stA, stB, stC]
  refine Abs.take_np (i := 6) (d := some 58) (v := ?_) rfl rfl (by kernel_rfl) (by kernel_rfl) (by kernel_rfl) hG ⟨by rfl, fun w9 hw9 => Or.inl ?_⟩ ?_
  rotate_left
  · go_simp
    try with_reducible rfl
  simp only [Act.put, stA, stB, stC]
  refine Abs.take_np (i := 7) (d := some 59) (v := ?_) rfl rfl (by kernel_rfl) (by kernel_rfl) (by kernel_rfl) hG ⟨by rfl, fun w9 hw9 => Or.inl ?_⟩ ?_
  rotate_left
  · go_simp
    try with_reducible rfl
  simp only [Act.put, stA, stB, stC]
  refine Abs.skip_np (i := 8) (d := some 60) rfl rfl (by kernel_rfl) (by kernel_rfl) (by kernel_rfl) hG (by rfl) ?_
  simp only [Act.put, stA, stB, stC]
  refine Abs.skip_np (i := 9) (d := some 61) rfl rfl (by kernel_rfl) (by kernel_rfl) (by kernel_rfl) hG (by rfl) ?_
  simp only [Act.put, stA, stB, stC]
  refine Abs.skip_np (i := 10) (d := some 62) rfl rfl (by kernel_rfl) (by kernel_rfl) (by kernel_rfl) hG (by rfl) ?_
  simp only [Act.put, stA, stB, stC]
  refine Abs.skip_np (i := 11) (d := some 63) rfl rfl (by kernel_rfl) (by kernel_rfl) (by kernel_rfl) hG (by rfl) ?_
  simp only [Act.put, stA, stB, stC]
  refine Abs.skip_np (i := 12) (d := some 64) rfl rfl (by kernel_rfl) (by kernel_rfl) (by kernel_rfl) hG (by rfl) ?_
  simp only [Act.put, stA, stB, stC]
  refine Abs.skip_np (i := 13) (d := some 65) rfl rfl (by kernel_rfl) (by kernel_rfl) (by kernel_rfl) hG (by rfl) ?_
  simp only [Act.put, stA, stB, stC]
  refine Abs.skip_np (i := 14) (d := some 66) rfl rfl (by kernel_rfl) (by kernel_rfl) (by kernel_rfl) hG (by rfl) ?_
  simp only [Act.put, stA, stB, stC]
  refine Abs.skip_np (i := 15) (d := some 67) rfl rfl (by kernel_rfl) (by kernel_rfl) (by kernel_rfl) hG (by rfl) ?_
  simp only [Act.put, stA, stB, stC]
  refine Abs.skip_np (i := 16) (d := some 68) rfl rfl (by kernel_rfl) (by kernel_rfl) (by kernel_rfl) hG (by rfl) ?_
  simp only [Act.put, stA, stB, stC]
  refine Abs.skip_np (i := 17) (d := some 69) rfl rfl (by kernel_rfl) (by kernel_rfl) (by kernel_rfl) hG (by rfl) ?_
  simp only [Act.put, stA, stB, stC]
  refine Abs.skip_np (i := 18) (d := some 70) rfl rfl (by kernel_rfl) (by kernel_rfl) (by kernel_rfl) hG (by rfl) ?_
  simp only [Act.put, stA, stB, stC]
  refine Abs.take_np (i := 19) (d := some 71) (v := ?_) rfl rfl (by kernel_rfl) (by kernel_rfl) (by kernel_rfl) hG ⟨by rfl, fun w9 hw9 => Or.inl ?_⟩ ?_
  rotate_left
  · go_simp
    try with_reducible rfl
  simp only [Act.put, stA, stB, stC]
  refine Abs.take_np (i := 20) (d := some 72) (v := ?_) rfl rfl (by kernel_rfl) (by kernel_rfl) (by kernel_rfl) hG ⟨by rfl, fun w9 hw9 => Or.inl ?_⟩ ?_
  rotate_left
  · go_simp
    try with_reducible rfl
  simp only [Act.put, stA, stB, stC]
  refine Abs.take_np (i := 21) (d := some 73) (v := _) rfl rfl (by kernel_rfl) (by kernel_rfl) (by kernel_rfl) hG ⟨by rfl, fun w9 hw9 => Or.inr ⟨_, _, ?_, C8.out w9⟩⟩ ?_
  · go_simp
    try with_reducible rfl
  simp only [Act.put, stA, stB, stC]
  refine Abs.take_np (i := 22) (d := some 74) (v := ?_) rfl rfl (by kernel_rfl) (by kernel_rfl) (by kernel_rfl) hG ⟨by rfl, fun w9 hw9 => Or.inl ?_⟩ ?_
  rotate_left
  · go_simp
    try with_reducible rfl
  simp only [Act.put, stA, stB, stC]
  refine Abs.take_np (i := 23) (d := some 4) (v := ?_) rfl rfl (by kernel_rfl) (by kernel_rfl) (by kernel_rfl) hG ⟨by rfl, fun w9 hw9 => Or.inl ?_⟩ ?_
  rotate_left
  · go_simp
    try with_reducible rfl
  simp only [Act.put, stA, stB, stC]
  refine Abs.done (by kernel_rfl) (fun wx hx => NoPanic.normal ?_) _
  go_wp2_with fail
  go_ret
  exact ⟨rfl, HC.out.trans hx⟩

set_option maxRecDepth 100000 in
set_option maxHeartbeats 8000000 in
theorem sums_off_r {ax ay dx dy sx sy nx ny : Nat} {ai di si ni : Bool}
    (C1 : Hid (∀ w : World, Calls Try.prog 11 #[.agg #[.int .u64 (lm ax 0 : Nat), .int .u64 (lm ax 1 : Nat), .int .u64 (lm ax 2 : Nat), .int .u64 (lm ax 3 : Nat), .int .u64 (lm ay 0 : Nat), .int .u64 (lm ay 1 : Nat), .int .u64 (lm ay 2 : Nat), .int .u64 (lm ay 3 : Nat), .bool ai], .agg #[.int .u64 (lm dx 0 : Nat), .int .u64 (lm dx 1 : Nat), .int .u64 (lm dx 2 : Nat), .int .u64 (lm dx 3 : Nat), .int .u64 (lm dy 0 : Nat), .int .u64 (lm dy 1 : Nat), .int .u64 (lm dy 2 : Nat), .int .u64 (lm dy 3 : Nat), .bool di]] w fun e w' => e = .returned (.tuple #[.agg #[.int .u64 (lm sx 0 : Nat), .int .u64 (lm sx 1 : Nat), .int .u64 (lm sx 2 : Nat), .int .u64 (lm sx 3 : Nat), .int .u64 (lm sy 0 : Nat), .int .u64 (lm sy 1 : Nat), .int .u64 (lm sy 2 : Nat), .int .u64 (lm sy 3 : Nat), .bool si], .int .i64 30]) ∧ Chg [] w w'))
    (C2 : Hid (∀ w : World, Calls Try.prog 12 #[.agg #[.int .u64 (lm ax 0 : Nat), .int .u64 (lm ax 1 : Nat), .int .u64 (lm ax 2 : Nat), .int .u64 (lm ax 3 : Nat), .int .u64 (lm ay 0 : Nat), .int .u64 (lm ay 1 : Nat), .int .u64 (lm ay 2 : Nat), .int .u64 (lm ay 3 : Nat), .bool ai], .agg #[.int .u64 (lm dx 0 : Nat), .int .u64 (lm dx 1 : Nat), .int .u64 (lm dx 2 : Nat), .int .u64 (lm dx 3 : Nat), .int .u64 (lm dy 0 : Nat), .int .u64 (lm dy 1 : Nat), .int .u64 (lm dy 2 : Nat), .int .u64 (lm dy 3 : Nat), .bool di]] w fun e w' => e = .returned (.tuple #[.agg #[.int .u64 (lm sx 0 : Nat), .int .u64 (lm sx 1 : Nat), .int .u64 (lm sx 2 : Nat), .int .u64 (lm sx 3 : Nat), .int .u64 (lm sy 0 : Nat), .int .u64 (lm sy 1 : Nat), .int .u64 (lm sy 2 : Nat), .int .u64 (lm sy 3 : Nat), .bool si], .int .i64 30]) ∧ Chg [] w w'))
    (C3 : Hid (∀ w : World, Calls Try.prog 13 #[.agg #[.int .u64 (lm ax 0 : Nat), .int .u64 (lm ax 1 : Nat), .int .u64 (lm ax 2 : Nat), .int .u64 (lm ax 3 : Nat), .int .u64 (lm ay 0 : Nat), .int .u64 (lm ay 1 : Nat), .int .u64 (lm ay 2 : Nat), .int .u64 (lm ay 3 : Nat), .bool ai]] w fun e w' => e = .returned (.tuple #[.agg #[.int .u64 (lm nx 0 : Nat), .int .u64 (lm nx 1 : Nat), .int .u64 (lm nx 2 : Nat), .int .u64 (lm nx 3 : Nat), .int .u64 (lm ny 0 : Nat), .int .u64 (lm ny 1 : Nat), .int .u64 (lm ny 2 : Nat), .int .u64 (lm ny 3 : Nat), .bool ni], .int .i64 0]) ∧ Chg [] w w'))
    (C4 : Hid (∀ w : World, Calls Try.prog 14 #[.agg #[.int .u64 (lm ax 0 : Nat), .int .u64 (lm ax 1 : Nat), .int .u64 (lm ax 2 : Nat), .int .u64 (lm ax 3 : Nat), .int .u64 (lm ay 0 : Nat), .int .u64 (lm ay 1 : Nat), .int .u64 (lm ay 2 : Nat), .int .u64 (lm ay 3 : Nat), .bool ai]] w fun e w' => e = .returned (.bool true) ∧ Chg [] w w'))
    (C5 : Hid (∀ w : World, Calls Try.prog 15 #[.agg #[.int .u64 (lm ax 0 : Nat), .int .u64 (lm ax 1 : Nat), .int .u64 (lm ax 2 : Nat), .int .u64 (lm ax 3 : Nat), .int .u64 (lm ay 0 : Nat), .int .u64 (lm ay 1 : Nat), .int .u64 (lm ay 2 : Nat), .int .u64 (lm ay 3 : Nat), .bool ai]] w fun e w' => e = .returned (.int .i64 0) ∧ Chg [] w w'))
    (C6 : Hid (∀ w : World, Calls Try.prog 16 #[.agg #[.int .u64 (lm ax 0 : Nat), .int .u64 (lm ax 1 : Nat), .int .u64 (lm ax 2 : Nat), .int .u64 (lm ax 3 : Nat), .int .u64 (lm ay 0 : Nat), .int .u64 (lm ay 1 : Nat), .int .u64 (lm ay 2 : Nat), .int .u64 (lm ay 3 : Nat), .bool ai]] w fun e w' => e = .returned (.agg #[.int .u64 (lm nx 0 : Nat), .int .u64 (lm nx 1 : Nat), .int .u64 (lm nx 2 : Nat), .int .u64 (lm nx 3 : Nat), .int .u64 (lm ny 0 : Nat), .int .u64 (lm ny 1 : Nat), .int .u64 (lm ny 2 : Nat), .int .u64 (lm ny 3 : Nat), .bool ni]) ∧ Chg [] w w'))
    (ls : sx < B6 ^ 4 ∧ sy < B6 ^ 4) (ln : nx < B6 ^ 4 ∧ ny < B6 ^ 4) (w : World) :
    Calls Try.prog 3 #[.agg #[.int .u64 (lm ax 0 : Nat), .int .u64 (lm ax 1 : Nat), .int .u64 (lm ax 2 : Nat), .int .u64 (lm ax 3 : Nat), .int .u64 (lm ay 0 : Nat), .int .u64 (lm ay 1 : Nat), .int .u64 (lm ay 2 : Nat), .int .u64 (lm ay 3 : Nat), .bool ai], .agg #[.int .u64 (lm dx 0 : Nat), .int .u64 (lm dx 1 : Nat), .int .u64 (lm dx 2 : Nat), .int .u64 (lm dx 3 : Nat), .int .u64 (lm dy 0 : Nat), .int .u64 (lm dy 1 : Nat), .int .u64 (lm dy 2 : Nat), .int .u64 (lm dy 3 : Nat), .bool di]] w fun e w' => e = .returned (.bool true) ∧ Chg [] w w' := by
  have C8 := Lib.hid (fun w => law_g w)
  have es1 := fun w => num_eq9 ls.1 ls.1 w
  have es2 := fun w => num_eq9 ls.2 ls.2 w
  simp only [decide_true] at es1 es2
  have en1 := fun w => num_eq9 ln.1 ln.1 w
  have en2 := fun w => num_eq9 ln.2 ln.2 w
  simp only [decide_true] at en1 en2
  clear ls ln
  obtain ⟨W0, hW0⟩ : ∃ W0, ((w.alloc (.cells #[.int .u64 (lm ax 0 : Nat), .int .u64 (lm ax 1 : Nat), .int .u64 (lm ax 2 : Nat), .int .u64 (lm ax 3 : Nat), .int .u64 (lm ay 0 : Nat), .int .u64 (lm ay 1 : Nat), .int .u64 (lm ay 2 : Nat), .int .u64 (lm ay 3 : Nat), .bool ai] 26)).alloc (.cells #[.int .u64 (lm dx 0 : Nat), .int .u64 (lm dx 1 : Nat), .int .u64 (lm dx 2 : Nat), .int .u64 (lm dx 3 : Nat), .int .u64 (lm dy 0 : Nat), .int .u64 (lm dy 1 : Nat), .int .u64 (lm dy 2 : Nat), .int .u64 (lm dy 3 : Nat), .bool di] 26)) = W0 := ⟨_, rfl⟩
  have Ha := Lib.hid (show U9 W0 (w.heap.size) ax ay ai by rw [← hW0]; exact has_alloc (has_alloc_new _ _))
  have Hd := Lib.hid (show U9 W0 (w.heap.size + 1) dx dy di by rw [← hW0]; exact has_alloc_at (by simp))
  have HC := Lib.hid (show Chg [] w W0 by rw [← hW0]; exact ((Chg.refl _ _).alloc _).alloc _)
  go_enter Try.func3, Try.ntmps3
  go_upto_region 1 with fail
  try rw [hW0]
  clear hW0
  obtain ⟨P0, hP⟩ : ∃ P, w.heap.size = P := ⟨_, rfl⟩
  rw [hP] at Ha Hd ⊢
  replace hP := Lib.hid hP
  obtain ⟨a0, a1, a2, a3, a4, a5, a6, a7, a8⟩ := (Ha.out).all
  obtain ⟨d0, d1, d2, d3, d4, d5, d6, d7, d8⟩ := (Hd.out).all
  go_wp2_with fail
  refine (C1.out _).mono ?_
  rintro e w1 ⟨rfl, hC1⟩
  clear a0 a1 a2 a3 a4 a5 a6 a7 a8
  clear d0 d1 d2 d3 d4 d5 d6 d7 d8
  replace Ha := Lib.hid (Ha.out.chg hC1 nmN)
  replace Hd := Lib.hid (Hd.out.chg hC1 nmN)
  replace HC := Lib.hid (HC.out.trans hC1)
  clear hC1
  obtain ⟨W1, hW1⟩ : ∃ W1, w1.alloc (.cells #[.int .u64 (lm sx 0 : Nat), .int .u64 (lm sx 1 : Nat), .int .u64 (lm sx 2 : Nat), .int .u64 (lm sx 3 : Nat), .int .u64 (lm sy 0 : Nat), .int .u64 (lm sy 1 : Nat), .int .u64 (lm sy 2 : Nat), .int .u64 (lm sy 3 : Nat), .bool si] 26) = W1 := ⟨_, rfl⟩
  have hA : Chg [] w1 W1 := by rw [← hW1]; exact (Chg.refl _ _).alloc _
  have hN : U9 W1 w1.heap.size sx sy si := by rw [← hW1]; exact has_alloc_new _ _
  obtain ⟨b_s, hb⟩ : ∃ b, w1.heap.size = b := ⟨_, rfl⟩
  rw [hb] at hN
  replace Ha := Lib.hid (Ha.out.chg hA nmN)
  replace Hd := Lib.hid (Hd.out.chg hA nmN)
  replace HC := Lib.hid (HC.out.trans hA)
  have Hs := Lib.hid hN
  have HW1 := Lib.hid hW1; have Hb := Lib.hid hb
  clear hW1 hb hA hN
  go_upto_region 2 with fail
  try rw [HW1.out]
  try rw [Hb.out]
  clear HW1 Hb
  obtain ⟨a0, a1, a2, a3, a4, a5, a6, a7, a8⟩ := (Ha.out).all
  obtain ⟨d0, d1, d2, d3, d4, d5, d6, d7, d8⟩ := (Hd.out).all
  go_wp2_with fail
  refine (C2.out _).mono ?_
  rintro e w1 ⟨rfl, hC1⟩
  clear a0 a1 a2 a3 a4 a5 a6 a7 a8
  clear d0 d1 d2 d3 d4 d5 d6 d7 d8
  replace Ha := Lib.hid (Ha.out.chg hC1 nmN)
  replace Hd := Lib.hid (Hd.out.chg hC1 nmN)
  replace HC := Lib.hid (HC.out.trans hC1)
  replace Hs := Lib.hid (Hs.out.chg hC1 nmN)
  clear hC1
  obtain ⟨W1, hW1⟩ : ∃ W1, w1.alloc (.cells #[.int .u64 (lm sx 0 : Nat), .int .u64 (lm sx 1 : Nat), .int .u64 (lm sx 2 : Nat), .int .u64 (lm sx 3 : Nat), .int .u64 (lm sy 0 : Nat), .int .u64 (lm sy 1 : Nat), .int .u64 (lm sy 2 : Nat), .int .u64 (lm sy 3 : Nat), .bool si] 26) = W1 := ⟨_, rfl⟩
  have hA : Chg [] w1 W1 := by rw [← hW1]; exact (Chg.refl _ _).alloc _
  have hN : U9 W1 w1.heap.size sx sy si := by rw [← hW1]; exact has_alloc_new _ _
  obtain ⟨b_t, hb⟩ : ∃ b, w1.heap.size = b := ⟨_, rfl⟩
  rw [hb] at hN
  replace Ha := Lib.hid (Ha.out.chg hA nmN)
  replace Hd := Lib.hid (Hd.out.chg hA nmN)
  replace HC := Lib.hid (HC.out.trans hA)
  replace Hs := Lib.hid (Hs.out.chg hA nmN)
  have Ht := Lib.hid hN
  have HW1 := Lib.hid hW1; have Hb := Lib.hid hb
  clear hW1 hb hA hN
  go_upto_region 3 with fail
  try rw [HW1.out]
  try rw [Hb.out]
  clear HW1 Hb
  obtain ⟨a0, a1, a2, a3, a4, a5, a6, a7, a8⟩ := (Ha.out).all
  go_wp2_with fail
  refine (C3.out _).mono ?_
  rintro e w1 ⟨rfl, hC1⟩
  clear a0 a1 a2 a3 a4 a5 a6 a7 a8
  replace Ha := Lib.hid (Ha.out.chg hC1 nmN)
  replace Hd := Lib.hid (Hd.out.chg hC1 nmN)
  replace HC := Lib.hid (HC.out.trans hC1)
  replace Hs := Lib.hid (Hs.out.chg hC1 nmN)
  replace Ht := Lib.hid (Ht.out.chg hC1 nmN)
  clear hC1
  obtain ⟨W1, hW1⟩ : ∃ W1, w1.alloc (.cells #[.int .u64 (lm nx 0 : Nat), .int .u64 (lm nx 1 : Nat), .int .u64 (lm nx 2 : Nat), .int .u64 (lm nx 3 : Nat), .int .u64 (lm ny 0 : Nat), .int .u64 (lm ny 1 : Nat), .int .u64 (lm ny 2 : Nat), .int .u64 (lm ny 3 : Nat), .bool ni] 26) = W1 := ⟨_, rfl⟩
  have hA : Chg [] w1 W1 := by rw [← hW1]; exact (Chg.refl _ _).alloc _
  have hN : U9 W1 w1.heap.size nx ny ni := by rw [← hW1]; exact has_alloc_new _ _
  obtain ⟨b_n, hb⟩ : ∃ b, w1.heap.size = b := ⟨_, rfl⟩
  rw [hb] at hN
  replace Ha := Lib.hid (Ha.out.chg hA nmN)
  replace Hd := Lib.hid (Hd.out.chg hA nmN)
  replace HC := Lib.hid (HC.out.trans hA)
  replace Hs := Lib.hid (Hs.out.chg hA nmN)
  replace Ht := Lib.hid (Ht.out.chg hA nmN)
  have Hn := Lib.hid hN
  have HW1 := Lib.hid hW1; have Hb := Lib.hid hb
  clear hW1 hb hA hN
  go_upto_region 4 with fail
  try rw [HW1.out]
  try rw [Hb.out]
  clear HW1 Hb
  obtain ⟨a0, a1, a2, a3, a4, a5, a6, a7, a8⟩ := (Ha.out).all
  go_wp2_with fail
  refine (C4.out _).mono ?_
  rintro e w1 ⟨rfl, hC1⟩
  clear a0 a1 a2 a3 a4 a5 a6 a7 a8
  replace Ha := Lib.hid (Ha.out.chg hC1 nmN)
  replace Hd := Lib.hid (Hd.out.chg hC1 nmN)
  replace HC := Lib.hid (HC.out.trans hC1)
  replace Hs := Lib.hid (Hs.out.chg hC1 nmN)
  replace Ht := Lib.hid (Ht.out.chg hC1 nmN)
  replace Hn := Lib.hid (Hn.out.chg hC1 nmN)
  clear hC1
  obtain ⟨s0, s1, s2, s3, s4, s5, s6, s7, s8⟩ := (Hs.out).all
  obtain ⟨t0, t1, t2, t3, t4, t5, t6, t7, t8⟩ := (Ht.out).all
  obtain ⟨a0, a1, a2, a3, a4, a5, a6, a7, a8⟩ := (Ha.out).all
  go_wp2_with fail
  refine (C5.out _).mono ?_
  rintro e w1 ⟨rfl, hC1⟩
  clear s0 s1 s2 s3 s4 s5 s6 s7 s8
  clear t0 t1 t2 t3 t4 t5 t6 t7 t8
  clear a0 a1 a2 a3 a4 a5 a6 a7 a8
  replace Ha := Lib.hid (Ha.out.chg hC1 nmN)
  replace Hd := Lib.hid (Hd.out.chg hC1 nmN)
  replace HC := Lib.hid (HC.out.trans hC1)
  replace Hs := Lib.hid (Hs.out.chg hC1 nmN)
  replace Ht := Lib.hid (Ht.out.chg hC1 nmN)
  replace Hn := Lib.hid (Hn.out.chg hC1 nmN)
  clear hC1
  go_upto_region 7 with fail
  obtain ⟨n0, n1, n2, n3, n4, n5, n6, n7, n8⟩ := (Hn.out).all
  obtain ⟨a0, a1, a2, a3, a4, a5, a6, a7, a8⟩ := (Ha.out).all
  refine abs_region (B := Chg [] w1) (S := Chg [] w1) (by kernel_rfl) ((Chg.refl _ _).drew) ?_
  have hG := good_chg [] w1
  refine Abs.take_np (i := 0) (d := some 52) (v := ?_) rfl rfl (by kernel_rfl) (by kernel_rfl) (by kernel_rfl) hG ⟨by rfl, fun w9 hw9 => Or.inl ?_⟩ ?_
  rotate_left
  · go_simp
    try with_reducible rfl
  simp only [Act.put, stA, stB, stC]
  refine Abs.take_np (i := 1) (d := some 53) (v := ?_) rfl rfl (by kernel_rfl) (by kernel_rfl) (by kernel_rfl) hG ⟨by rfl, fun w9 hw9 => Or.inl ?_⟩ ?_
  rotate_left
  · go_simp
    try with_reducible rfl
  simp only [Act.put, stA, stB, stC]
  refine Abs.take_np (i := 2) (d := some 54) (v := ?_) rfl rfl (by kernel_rfl) (by kernel_rfl) (by kernel_rfl) hG ⟨by rfl, fun w9 hw9 => Or.inl ?_⟩ ?_
  rotate_left
  · replace n0 := hw9.cell n0 nmN; replace n1 := hw9.cell n1 nmN; replace n2 := hw9.cell n2 nmN; replace n3 := hw9.cell n3 nmN; replace n4 := hw9.cell n4 nmN; replace n5 := hw9.cell n5 nmN; replace n6 := hw9.cell n6 nmN; replace n7 := hw9.cell n7 nmN; replace n8 := hw9.cell n8 nmN
    go_simp
    try with_reducible rfl
  simp only [Act.put, stA, stB, stC]
  refine Abs.take_np (i := 3) (d := some 55) (v := ?_) rfl rfl (by kernel_rfl) (by kernel_rfl) (by kernel_rfl) hG ⟨by rfl, fun w9 hw9 => Or.inl ?_⟩ ?_
  rotate_left
  · replace a0 := hw9.cell a0 nmN; replace a1 := hw9.cell a1 nmN; replace a2 := hw9.cell a2 nmN; replace a3 := hw9.cell a3 nmN; replace a4 := hw9.cell a4 nmN; replace a5 := hw9.cell a5 nmN; replace a6 := hw9.cell a6 nmN; replace a7 := hw9.cell a7 nmN; replace a8 := hw9.cell a8 nmN
    go_simp
    try with_reducible rfl
  simp only [Act.put, stA, stB, stC]
  refine Abs.take_np (i := 4) (d := some 56) (v := _) rfl rfl (by kernel_rfl) (by kernel_rfl) (by kernel_rfl) hG ⟨by rfl, fun w9 hw9 => Or.inr ⟨_, _, ?_, C6.out w9⟩⟩ ?_
  · go_simp
    try with_reducible rfl
  simp only [Act.put, stA, stB, stC]
  refine Abs.take_np (i := 5) (d := some 57) (v := ?_) rfl rfl (by kernel_rfl) (by kernel_rfl) (by kernel_rfl) hG ⟨by rfl, fun w9 hw9 => Or.inl ?_⟩ ?_
  rotate_left
  · go_simp
    try with_reducible rfl
  simp only [Act.put, stA, stB, stC]
  refine Abs.take_np (i := 6) (d := some 58) (v := ?_) rfl rfl (by kernel_rfl) (by kernel_rfl) (by kernel_rfl) hG ⟨by rfl, fun w9 hw9 => Or.inl ?_⟩ ?_
  rotate_left
  · go_simp
    try with_reducible rfl
  simp only [Act.put, stA, stB, stC]
  refine Abs.take_np (i := 7) (d := some 59) (v := ?_) rfl rfl (by kernel_rfl) (by kernel_rfl) (by kernel_rfl) hG ⟨by rfl, fun w9 hw9 => Or.inl ?_⟩ ?_
  rotate_left
  · go_simp
    try with_reducible rfl
  simp only [Act.put, stA, stB, stC]
  refine Abs.skip_np (i := 8) (d := some 60) rfl rfl (by kernel_rfl) (by kernel_rfl) (by kernel_rfl) hG (by rfl) ?_
  simp only [Act.put, stA, stB, stC]
  refine Abs.skip_np (i := 9) (d := some 61) rfl rfl (by kernel_rfl) (by kernel_rfl) (by kernel_rfl) hG (by rfl) ?_
  simp only [Act.put, stA, stB, stC]
  refine Abs.skip_np (i := 10) (d := some 62) rfl rfl (by kernel_rfl) (by kernel_rfl) (by kernel_rfl) hG (by rfl) ?_
  simp only [Act.put, stA, stB, stC]
  refine Abs.skip_np (i := 11) (d := some 63) rfl rfl (by kernel_rfl) (by kernel_rfl) (by kernel_rfl) hG (by rfl) ?_
  simp only [Act.put, stA, stB, stC]
  refine Abs.skip_np (i := 12) (d := some 64) rfl rfl (by kernel_rfl) (by kernel_rfl) (by kernel_rfl) hG (by rfl) ?_
  simp only [Act.put, stA, stB, stC]
  refine Abs.skip_np (i := 13) (d := some 65) rfl rfl (by kernel_rfl) (by kernel_rfl) (by kernel_rfl) hG (by rfl) ?_
  simp only [Act.put, stA, stB, stC]
  refine Abs.skip_np (i := 14) (d := some 66) rfl rfl (by kernel_rfl) (by kernel_rfl) (by kernel_rfl) hG (by rfl) ?_
  simp only [Act.put, stA, stB, stC]
  refine Abs.skip_np (i := 15) (d := some 67) rfl rfl (by kernel_rfl) (by kernel_rfl) (by kernel_rfl) hG (by rfl) ?_
  simp only [Act.put, stA, stB, stC]
  refine Abs.skip_np (i := 16) (d := some 68) rfl rfl (by kernel_rfl) (by kernel_rfl) (by kernel_rfl) hG (by rfl) ?_
  simp only [Act.put, stA, stB, stC]
  refine Abs.skip_np (i := 17) (d := some 69) rfl rfl (by kernel_rfl) (by kernel_rfl) (by kernel_rfl) hG (by rfl) ?_
  simp only [Act.put, stA, stB, stC]
  refine Abs.skip_np (i := 18) (d := some 70) rfl rfl (by kernel_rfl) (by kernel_rfl) (by kernel_rfl) hG (by rfl) ?_
  simp only [Act.put, stA, stB, stC]
  refine Abs.take_np (i := 19) (d := some 71) (v := ?_) rfl rfl (by kernel_rfl) (by kernel_rfl) (by kernel_rfl) hG ⟨by rfl, fun w9 hw9 => Or.inl ?_⟩ ?_
  rotate_left
  · go_simp
    try with_reducible rfl
  simp only [Act.put, stA, stB, stC]
  refine Abs.take_np (i := 20) (d := some 72) (v := ?_) rfl rfl (by kernel_rfl) (by kernel_rfl) (by kernel_rfl) hG ⟨by rfl, fun w9 hw9 => Or.inl ?_⟩ ?_
  rotate_left
  · go_simp
    try with_reducible rfl
  simp only [Act.put, stA, stB, stC]
  refine Abs.take_np (i := 21) (d := some 73) (v := _) rfl rfl (by kernel_rfl) (by kernel_rfl) (by kernel_rfl) hG ⟨by rfl, fun w9 hw9 => Or.inr ⟨_, _, ?_, C8.out w9⟩⟩ ?_
  · go_simp
    try with_reducible rfl
  simp only [Act.put, stA, stB, stC]
  refine Abs.take_np (i := 22) (d := some 74) (v := ?_) rfl rfl (by kernel_rfl) (by kernel_rfl) (by kernel_rfl) hG ⟨by rfl, fun w9 hw9 => Or.inl ?_⟩ ?_
  rotate_left
  · go_simp
    try with_reducible rfl
  simp only [Act.put, stA, stB, stC]
  refine Abs.take_np (i := 23) (d := some 4) (v := ?_) rfl rfl (by kernel_rfl) (by kernel_rfl) (by kernel_rfl) hG ⟨by rfl, fun w9 hw9 => Or.inl ?_⟩ ?_
  rotate_left
  · go_simp
    try with_reducible rfl
  simp only [Act.put, stA, stB, stC]
  refine Abs.done (by kernel_rfl) (fun wx hx => NoPanic.normal ?_) _
  go_wp2_with fail
  go_ret
  exact ⟨rfl, HC.out.trans hx⟩

set_option maxRecDepth 100000 in
set_option maxHeartbeats 8000000 in
theorem sums_off_l {ax ay dx dy sx sy nx ny : Nat} {ai di si : Bool}
    (C1 : Hid (∀ w : World, Calls Try.prog 11 #[.agg #[.int .u64 (lm ax 0 : Nat), .int .u64 (lm ax 1 : Nat), .int .u64 (lm ax 2 : Nat), .int .u64 (lm ax 3 : Nat), .int .u64 (lm ay 0 : Nat), .int .u64 (lm ay 1 : Nat), .int .u64 (lm ay 2 : Nat), .int .u64 (lm ay 3 : Nat), .bool ai], .agg #[.int .u64 (lm dx 0 : Nat), .int .u64 (lm dx 1 : Nat), .int .u64 (lm dx 2 : Nat), .int .u64 (lm dx 3 : Nat), .int .u64 (lm dy 0 : Nat), .int .u64 (lm dy 1 : Nat), .int .u64 (lm dy 2 : Nat), .int .u64 (lm dy 3 : Nat), .bool di]] w fun e w' => e = .returned (.tuple #[.agg #[.int .u64 (lm sx 0 : Nat), .int .u64 (lm sx 1 : Nat), .int .u64 (lm sx 2 : Nat), .int .u64 (lm sx 3 : Nat), .int .u64 (lm sy 0 : Nat), .int .u64 (lm sy 1 : Nat), .int .u64 (lm sy 2 : Nat), .int .u64 (lm sy 3 : Nat), .bool si], .int .i64 30]) ∧ Chg [] w w'))
    (C2 : Hid (∀ w : World, Calls Try.prog 12 #[.agg #[.int .u64 (lm ax 0 : Nat), .int .u64 (lm ax 1 : Nat), .int .u64 (lm ax 2 : Nat), .int .u64 (lm ax 3 : Nat), .int .u64 (lm ay 0 : Nat), .int .u64 (lm ay 1 : Nat), .int .u64 (lm ay 2 : Nat), .int .u64 (lm ay 3 : Nat), .bool ai], .agg #[.int .u64 (lm dx 0 : Nat), .int .u64 (lm dx 1 : Nat), .int .u64 (lm dx 2 : Nat), .int .u64 (lm dx 3 : Nat), .int .u64 (lm dy 0 : Nat), .int .u64 (lm dy 1 : Nat), .int .u64 (lm dy 2 : Nat), .int .u64 (lm dy 3 : Nat), .bool di]] w fun e w' => e = .returned (.tuple #[.agg #[.int .u64 (lm sx 0 : Nat), .int .u64 (lm sx 1 : Nat), .int .u64 (lm sx 2 : Nat), .int .u64 (lm sx 3 : Nat), .int .u64 (lm sy 0 : Nat), .int .u64 (lm sy 1 : Nat), .int .u64 (lm sy 2 : Nat), .int .u64 (lm sy 3 : Nat), .bool si], .int .i64 30]) ∧ Chg [] w w'))
    (C3 : Hid (∀ w : World, Calls Try.prog 13 #[.agg #[.int .u64 (lm ax 0 : Nat), .int .u64 (lm ax 1 : Nat), .int .u64 (lm ax 2 : Nat), .int .u64 (lm ax 3 : Nat), .int .u64 (lm ay 0 : Nat), .int .u64 (lm ay 1 : Nat), .int .u64 (lm ay 2 : Nat), .int .u64 (lm ay 3 : Nat), .bool ai]] w fun e w' => e = .returned (.tuple #[.agg #[.int .u64 (lm nx 0 : Nat), .int .u64 (lm nx 1 : Nat), .int .u64 (lm nx 2 : Nat), .int .u64 (lm nx 3 : Nat), .int .u64 (lm ny 0 : Nat), .int .u64 (lm ny 1 : Nat), .int .u64 (lm ny 2 : Nat), .int .u64 (lm ny 3 : Nat), .bool false], .int .i64 30]) ∧ Chg [] w w'))
    (C4 : Hid (∀ w : World, Calls Try.prog 14 #[.agg #[.int .u64 (lm ax 0 : Nat), .int .u64 (lm ax 1 : Nat), .int .u64 (lm ax 2 : Nat), .int .u64 (lm ax 3 : Nat), .int .u64 (lm ay 0 : Nat), .int .u64 (lm ay 1 : Nat), .int .u64 (lm ay 2 : Nat), .int .u64 (lm ay 3 : Nat), .bool ai]] w fun e w' => e = .returned (.bool false) ∧ Chg [] w w'))
    (C5 : Hid (∀ w : World, Calls Try.prog 15 #[.agg #[.int .u64 (lm ax 0 : Nat), .int .u64 (lm ax 1 : Nat), .int .u64 (lm ax 2 : Nat), .int .u64 (lm ax 3 : Nat), .int .u64 (lm ay 0 : Nat), .int .u64 (lm ay 1 : Nat), .int .u64 (lm ay 2 : Nat), .int .u64 (lm ay 3 : Nat), .bool ai]] w fun e w' => e = .returned (.int .i64 30) ∧ Chg [] w w'))
    (ls : sx < B6 ^ 4 ∧ sy < B6 ^ 4) (hnx : nx = 0) (hny : ny = 0) (w : World) :
    Calls Try.prog 3 #[.agg #[.int .u64 (lm ax 0 : Nat), .int .u64 (lm ax 1 : Nat), .int .u64 (lm ax 2 : Nat), .int .u64 (lm ax 3 : Nat), .int .u64 (lm ay 0 : Nat), .int .u64 (lm ay 1 : Nat), .int .u64 (lm ay 2 : Nat), .int .u64 (lm ay 3 : Nat), .bool ai], .agg #[.int .u64 (lm dx 0 : Nat), .int .u64 (lm dx 1 : Nat), .int .u64 (lm dx 2 : Nat), .int .u64 (lm dx 3 : Nat), .int .u64 (lm dy 0 : Nat), .int .u64 (lm dy 1 : Nat), .int .u64 (lm dy 2 : Nat), .int .u64 (lm dy 3 : Nat), .bool di]] w fun e w' => e = .returned (.bool true) ∧ Chg [] w w' := by
  have C8 := Lib.hid (fun w => law_g w)
  have es1 := fun w => num_eq9 ls.1 ls.1 w
  have es2 := fun w => num_eq9 ls.2 ls.2 w
  simp only [decide_true] at es1 es2
  subst hnx; subst hny
  have en : ∀ w : World, (Op.equalIn 9999 24 (.agg #[.int .u64 0, .int .u64 0, .int .u64 0, .int .u64 0]) (.agg #[.int .u64 0, .int .u64 0, .int .u64 0, .int .u64 0])).run Try.prog w = .ok true w := fun w => num_eq90 w
  clear ls
  obtain ⟨W0, hW0⟩ : ∃ W0, ((w.alloc (.cells #[.int .u64 (lm ax 0 : Nat), .int .u64 (lm ax 1 : Nat), .int .u64 (lm ax 2 : Nat), .int .u64 (lm ax 3 : Nat), .int .u64 (lm ay 0 : Nat), .int .u64 (lm ay 1 : Nat), .int .u64 (lm ay 2 : Nat), .int .u64 (lm ay 3 : Nat), .bool ai] 26)).alloc (.cells #[.int .u64 (lm dx 0 : Nat), .int .u64 (lm dx 1 : Nat), .int .u64 (lm dx 2 : Nat), .int .u64 (lm dx 3 : Nat), .int .u64 (lm dy 0 : Nat), .int .u64 (lm dy 1 : Nat), .int .u64 (lm dy 2 : Nat), .int .u64 (lm dy 3 : Nat), .bool di] 26)) = W0 := ⟨_, rfl⟩
  have Ha := Lib.hid (show U9 W0 (w.heap.size) ax ay ai by rw [← hW0]; exact has_alloc (has_alloc_new _ _))
  have Hd := Lib.hid (show U9 W0 (w.heap.size + 1) dx dy di by rw [← hW0]; exact has_alloc_at (by simp))
  have HC := Lib.hid (show Chg [] w W0 by rw [← hW0]; exact ((Chg.refl _ _).alloc _).alloc _)
  go_enter Try.func3, Try.ntmps3
  go_upto_region 1 with fail
  try rw [hW0]
  clear hW0
  obtain ⟨P0, hP⟩ : ∃ P, w.heap.size = P := ⟨_, rfl⟩
  rw [hP] at Ha Hd ⊢
  replace hP := Lib.hid hP
  obtain ⟨a0, a1, a2, a3, a4, a5, a6, a7, a8⟩ := (Ha.out).all
  obtain ⟨d0, d1, d2, d3, d4, d5, d6, d7, d8⟩ := (Hd.out).all
  go_wp2_with fail
  refine (C1.out _).mono ?_
  rintro e w1 ⟨rfl, hC1⟩
  clear a0 a1 a2 a3 a4 a5 a6 a7 a8
  clear d0 d1 d2 d3 d4 d5 d6 d7 d8
  replace Ha := Lib.hid (Ha.out.chg hC1 nmN)
  replace Hd := Lib.hid (Hd.out.chg hC1 nmN)
  replace HC := Lib.hid (HC.out.trans hC1)
  clear hC1
  obtain ⟨W1, hW1⟩ : ∃ W1, w1.alloc (.cells #[.int .u64 (lm sx 0 : Nat), .int .u64 (lm sx 1 : Nat), .int .u64 (lm sx 2 : Nat), .int .u64 (lm sx 3 : Nat), .int .u64 (lm sy 0 : Nat), .int .u64 (lm sy 1 : Nat), .int .u64 (lm sy 2 : Nat), .int .u64 (lm sy 3 : Nat), .bool si] 26) = W1 := ⟨_, rfl⟩
  have hA : Chg [] w1 W1 := by rw [← hW1]; exact (Chg.refl _ _).alloc _
  have hN : U9 W1 w1.heap.size sx sy si := by rw [← hW1]; exact has_alloc_new _ _
  obtain ⟨b_s, hb⟩ : ∃ b, w1.heap.size = b := ⟨_, rfl⟩
  rw [hb] at hN
  replace Ha := Lib.hid (Ha.out.chg hA nmN)
  replace Hd := Lib.hid (Hd.out.chg hA nmN)
  replace HC := Lib.hid (HC.out.trans hA)
  have Hs := Lib.hid hN
  have HW1 := Lib.hid hW1; have Hb := Lib.hid hb
  clear hW1 hb hA hN
  go_upto_region 2 with fail
  try rw [HW1.out]
  try rw [Hb.out]
  clear HW1 Hb
  obtain ⟨a0, a1, a2, a3, a4, a5, a6, a7, a8⟩ := (Ha.out).all
  obtain ⟨d0, d1, d2, d3, d4, d5, d6, d7, d8⟩ := (Hd.out).all
  go_wp2_with fail
  refine (C2.out _).mono ?_
  rintro e w1 ⟨rfl, hC1⟩
  clear a0 a1 a2 a3 a4 a5 a6 a7 a8
  clear d0 d1 d2 d3 d4 d5 d6 d7 d8
  replace Ha := Lib.hid (Ha.out.chg hC1 nmN)
  replace Hd := Lib.hid (Hd.out.chg hC1 nmN)
  replace HC := Lib.hid (HC.out.trans hC1)
  replace Hs := Lib.hid (Hs.out.chg hC1 nmN)
  clear hC1
  obtain ⟨W1, hW1⟩ : ∃ W1, w1.alloc (.cells #[.int .u64 (lm sx 0 : Nat), .int .u64 (lm sx 1 : Nat), .int .u64 (lm sx 2 : Nat), .int .u64 (lm sx 3 : Nat), .int .u64 (lm sy 0 : Nat), .int .u64 (lm sy 1 : Nat), .int .u64 (lm sy 2 : Nat), .int .u64 (lm sy 3 : Nat), .bool si] 26) = W1 := ⟨_, rfl⟩
  have hA : Chg [] w1 W1 := by rw [← hW1]; exact (Chg.refl _ _).alloc _
  have hN : U9 W1 w1.heap.size sx sy si := by rw [← hW1]; exact has_alloc_new _ _
  obtain ⟨b_t, hb⟩ : ∃ b, w1.heap.size = b := ⟨_, rfl⟩
  rw [hb] at hN
  replace Ha := Lib.hid (Ha.out.chg hA nmN)
  replace Hd := Lib.hid (Hd.out.chg hA nmN)
  replace HC := Lib.hid (HC.out.trans hA)
  replace Hs := Lib.hid (Hs.out.chg hA nmN)
  have Ht := Lib.hid hN
  have HW1 := Lib.hid hW1; have Hb := Lib.hid hb
  clear hW1 hb hA hN
  go_upto_region 3 with fail
  try rw [HW1.out]
  try rw [Hb.out]
  clear HW1 Hb
  obtain ⟨a0, a1, a2, a3, a4, a5, a6, a7, a8⟩ := (Ha.out).all
  go_wp2_with fail
  refine (C3.out _).mono ?_
  rintro e w1 ⟨rfl, hC1⟩
  clear a0 a1 a2 a3 a4 a5 a6 a7 a8
  replace Ha := Lib.hid (Ha.out.chg hC1 nmN)
  replace Hd := Lib.hid (Hd.out.chg hC1 nmN)
  replace HC := Lib.hid (HC.out.trans hC1)
  replace Hs := Lib.hid (Hs.out.chg hC1 nmN)
  replace Ht := Lib.hid (Ht.out.chg hC1 nmN)
  clear hC1
  obtain ⟨W1, hW1⟩ : ∃ W1, w1.alloc (.cells #[.int .u64 (lm 0 0 : Nat), .int .u64 (lm 0 1 : Nat), .int .u64 (lm 0 2 : Nat), .int .u64 (lm 0 3 : Nat), .int .u64 (lm 0 0 : Nat), .int .u64 (lm 0 1 : Nat), .int .u64 (lm 0 2 : Nat), .int .u64 (lm 0 3 : Nat), .bool false] 26) = W1 := ⟨_, rfl⟩
  have hA : Chg [] w1 W1 := by rw [← hW1]; exact (Chg.refl _ _).alloc _
  have hN : U9 W1 w1.heap.size 0 0 false := by rw [← hW1]; exact has_alloc_new _ _
  obtain ⟨b_n, hb⟩ : ∃ b, w1.heap.size = b := ⟨_, rfl⟩
  rw [hb] at hN
  replace Ha := Lib.hid (Ha.out.chg hA nmN)
  replace Hd := Lib.hid (Hd.out.chg hA nmN)
  replace HC := Lib.hid (HC.out.trans hA)
  replace Hs := Lib.hid (Hs.out.chg hA nmN)
  replace Ht := Lib.hid (Ht.out.chg hA nmN)
  have Hn := Lib.hid hN
  have HW1 := Lib.hid hW1; have Hb := Lib.hid hb
  clear hW1 hb hA hN
  go_upto_region 4 with fail
  try rw [HW1.out]
  try rw [Hb.out]
  clear HW1 Hb
  obtain ⟨a0, a1, a2, a3, a4, a5, a6, a7, a8⟩ := (Ha.out).all
  go_wp2_with fail
  refine (C4.out _).mono ?_
  rintro e w1 ⟨rfl, hC1⟩
  clear a0 a1 a2 a3 a4 a5 a6 a7 a8
  replace Ha := Lib.hid (Ha.out.chg hC1 nmN)
  replace Hd := Lib.hid (Hd.out.chg hC1 nmN)
  replace HC := Lib.hid (HC.out.trans hC1)
  replace Hs := Lib.hid (Hs.out.chg hC1 nmN)
  replace Ht := Lib.hid (Ht.out.chg hC1 nmN)
  replace Hn := Lib.hid (Hn.out.chg hC1 nmN)
  clear hC1
  obtain ⟨s0, s1, s2, s3, s4, s5, s6, s7, s8⟩ := (Hs.out).all
  obtain ⟨t0, t1, t2, t3, t4, t5, t6, t7, t8⟩ := (Ht.out).all
  obtain ⟨a0, a1, a2, a3, a4, a5, a6, a7, a8⟩ := (Ha.out).all
  go_wp2_with fail
  refine (C5.out _).mono ?_
  rintro e w1 ⟨rfl, hC1⟩
  clear s0 s1 s2 s3 s4 s5 s6 s7 s8
  clear t0 t1 t2 t3 t4 t5 t6 t7 t8
  clear a0 a1 a2 a3 a4 a5 a6 a7 a8
  replace Ha := Lib.hid (Ha.out.chg hC1 nmN)
  replace Hd := Lib.hid (Hd.out.chg hC1 nmN)
  replace HC := Lib.hid (HC.out.trans hC1)
  replace Hs := Lib.hid (Hs.out.chg hC1 nmN)
  replace Ht := Lib.hid (Ht.out.chg hC1 nmN)
  replace Hn := Lib.hid (Hn.out.chg hC1 nmN)
  clear hC1
  go_upto_region 7 with fail
  obtain ⟨n0, n1, n2, n3, n4, n5, n6, n7, n8⟩ := (Hn.out).all
  rw [lm_zero] at n0 n1 n2 n3 n4 n5 n6 n7
  refine abs_region (B := Chg [] w1) (S := Chg [] w1) (by kernel_rfl) ((Chg.refl _ _).drew) ?_
  have hG := good_chg [] w1
  refine Abs.take_np (i := 0) (d := some 52) (v := ?_) rfl rfl (by kernel_rfl) (by kernel_rfl) (by kernel_rfl) hG ⟨by rfl, fun w9 hw9 => Or.inl ?_⟩ ?_
  rotate_left
  · go_simp
    try with_reducible rfl
  simp only [Act.put, stA, stB, stC]
  refine Abs.take_np (i := 1) (d := some 53) (v := ?_) rfl rfl (by kernel_rfl) (by kernel_rfl) (by kernel_rfl) hG ⟨by rfl, fun w9 hw9 => Or.inl ?_⟩ ?_
  rotate_left
  · go_simp
    try with_reducible rfl
  simp only [Act.put, stA, stB, stC]
  refine Abs.skip_np (i := 2) (d := some 54) rfl rfl (by kernel_rfl) (by kernel_rfl) (by kernel_rfl) hG (by rfl) ?_
  simp only [Act.put, stA, stB, stC]
  refine Abs.skip_np (i := 3) (d := some 55) rfl rfl (by kernel_rfl) (by kernel_rfl) (by kernel_rfl) hG (by rfl) ?_
  simp only [Act.put, stA, stB, stC]
  refine Abs.skip_np (i := 4) (d := some 56) rfl rfl (by kernel_rfl) (by kernel_rfl) (by kernel_rfl) hG (by rfl) ?_
  simp only [Act.put, stA, stB, stC]
  refine Abs.skip_np (i := 5) (d := some 57) rfl rfl (by kernel_rfl) (by kernel_rfl) (by kernel_rfl) hG (by rfl) ?_
  simp only [Act.put, stA, stB, stC]
  refine Abs.take_np (i := 6) (d := some 58) (v := ?_) rfl rfl (by kernel_rfl) (by kernel_rfl) (by kernel_rfl) hG ⟨by rfl, fun w9 hw9 => Or.inl ?_⟩ ?_
  rotate_left
  · go_simp
    try with_reducible rfl
  simp only [Act.put, stA, stB, stC]
  refine Abs.take_np (i := 7) (d := some 59) (v := ?_) rfl rfl (by kernel_rfl) (by kernel_rfl) (by kernel_rfl) hG ⟨by rfl, fun w9 hw9 => Or.inl ?_⟩ ?_
  rotate_left
  · go_simp
    try with_reducible rfl
  simp only [Act.put, stA, stB, stC]
  refine Abs.take_np (i := 8) (d := some 60) (v := ?_) rfl rfl (by kernel_rfl) (by kernel_rfl) (by kernel_rfl) hG ⟨by rfl, fun w9 hw9 => Or.inl ?_⟩ ?_
  rotate_left
  · go_simp
    try with_reducible rfl
  simp only [Act.put, stA, stB, stC]
  refine Abs.take_np (i := 9) (d := some 61) (v := ?_) rfl rfl (by kernel_rfl) (by kernel_rfl) (by kernel_rfl) hG ⟨by rfl, fun w9 hw9 => Or.inl ?_⟩ ?_
  rotate_left
  · go_simp
    try with_reducible rfl
  simp only [Act.put, stA, stB, stC]
  refine Abs.take_np (i := 10) (d := some 62) (v := ?_) rfl rfl (by kernel_rfl) (by kernel_rfl) (by kernel_rfl) hG ⟨by rfl, fun w9 hw9 => Or.inl ?_⟩ ?_
  rotate_left
  · go_simp
    try with_reducible rfl
  simp only [Act.put, stA, stB, stC]
  refine Abs.take_np (i := 11) (d := some 63) (v := ?_) rfl rfl (by kernel_rfl) (by kernel_rfl) (by kernel_rfl) hG ⟨by rfl, fun w9 hw9 => Or.inl ?_⟩ ?_
  rotate_left
  · replace n0 := hw9.cell n0 nmN; replace n1 := hw9.cell n1 nmN; replace n2 := hw9.cell n2 nmN; replace n3 := hw9.cell n3 nmN; replace n4 := hw9.cell n4 nmN; replace n5 := hw9.cell n5 nmN; replace n6 := hw9.cell n6 nmN; replace n7 := hw9.cell n7 nmN; replace n8 := hw9.cell n8 nmN
    go_simp
    try with_reducible rfl
  simp only [Act.put, stA, stB, stC]
  refine Abs.take_np (i := 12) (d := some 64) (v := ?_) rfl rfl (by kernel_rfl) (by kernel_rfl) (by kernel_rfl) hG ⟨by rfl, fun w9 hw9 => Or.inl ?_⟩ ?_
  rotate_left
  · go_simp
    try with_reducible rfl
  simp only [Act.put, stA, stB, stC]
  refine Abs.take_np (i := 13) (d := some 65) (v := ?_) rfl rfl (by kernel_rfl) (by kernel_rfl) (by kernel_rfl) hG ⟨by rfl, fun w9 hw9 => Or.inl ?_⟩ ?_
  rotate_left
  · go_simp
    try with_reducible rfl
  simp only [Act.put, stA, stB, stC]
  refine Abs.take_np (i := 14) (d := some 66) (v := ?_) rfl rfl (by kernel_rfl) (by kernel_rfl) (by kernel_rfl) hG ⟨by rfl, fun w9 hw9 => Or.inl ?_⟩ ?_
  rotate_left
  · go_simp
    try with_reducible rfl
  simp only [Act.put, stA, stB, stC]
  refine Abs.take_np (i := 15) (d := some 67) (v := ?_) rfl rfl (by kernel_rfl) (by kernel_rfl) (by kernel_rfl) hG ⟨by rfl, fun w9 hw9 => Or.inl ?_⟩ ?_
  rotate_left
  · go_simp
    try with_reducible rfl
  simp only [Act.put, stA, stB, stC]
  refine Abs.take_np (i := 16) (d := some 68) (v := ?_) rfl rfl (by kernel_rfl) (by kernel_rfl) (by kernel_rfl) hG ⟨by rfl, fun w9 hw9 => Or.inl ?_⟩ ?_
  rotate_left
  · go_simp
    try with_reducible rfl
  simp only [Act.put, stA, stB, stC]
  refine Abs.take_np (i := 17) (d := some 69) (v := ?_) rfl rfl (by kernel_rfl) (by kernel_rfl) (by kernel_rfl) hG ⟨by rfl, fun w9 hw9 => Or.inl ?_⟩ ?_
  rotate_left
  · go_simp
    try with_reducible rfl
  simp only [Act.put, stA, stB, stC]
  refine Abs.take_np (i := 18) (d := some 70) (v := ?_) rfl rfl (by kernel_rfl) (by kernel_rfl) (by kernel_rfl) hG ⟨by rfl, fun w9 hw9 => Or.inl ?_⟩ ?_
  rotate_left
  · go_simp
    try with_reducible rfl
  simp only [Act.put, stA, stB, stC]
  refine Abs.take_np (i := 19) (d := some 71) (v := ?_) rfl rfl (by kernel_rfl) (by kernel_rfl) (by kernel_rfl) hG ⟨by rfl, fun w9 hw9 => Or.inl ?_⟩ ?_
  rotate_left
  · go_simp
    try with_reducible rfl
  simp only [Act.put, stA, stB, stC]
  refine Abs.take_np (i := 20) (d := some 72) (v := ?_) rfl rfl (by kernel_rfl) (by kernel_rfl) (by kernel_rfl) hG ⟨by rfl, fun w9 hw9 => Or.inl ?_⟩ ?_
  rotate_left
  · go_simp
    try with_reducible rfl
  simp only [Act.put, stA, stB, stC]
  refine Abs.take_np (i := 21) (d := some 73) (v := _) rfl rfl (by kernel_rfl) (by kernel_rfl) (by kernel_rfl) hG ⟨by rfl, fun w9 hw9 => Or.inr ⟨_, _, ?_, C8.out w9⟩⟩ ?_
  · go_simp
    try with_reducible rfl
  simp only [Act.put, stA, stB, stC]
  refine Abs.take_np (i := 22) (d := some 74) (v := ?_) rfl rfl (by kernel_rfl) (by kernel_rfl) (by kernel_rfl) hG ⟨by rfl, fun w9 hw9 => Or.inl ?_⟩ ?_
  rotate_left
  · go_simp
    try with_reducible rfl
  simp only [Act.put, stA, stB, stC]
  refine Abs.take_np (i := 23) (d := some 4) (v := ?_) rfl rfl (by kernel_rfl) (by kernel_rfl) (by kernel_rfl) hG ⟨by rfl, fun w9 hw9 => Or.inl ?_⟩ ?_
  rotate_left
  · go_simp
    try with_reducible rfl
  simp only [Act.put, stA, stB, stC]
  refine Abs.done (by kernel_rfl) (fun wx hx => NoPanic.normal ?_) _
  go_wp2_with fail
  go_ret
  exact ⟨rfl, HC.out.trans hx⟩

end Go.Proofs.Ytplldbmjdnikeaa
