/- The document's points: the walks of wardmoteref03.cubic, Is. Printed by refl.py. -/
import Derived.Test.YtplldbmjdnikeaaRbA
import Derived.Test.YtplldbmjdnikeaaAn
namespace Go.Proofs.Ytplldbmjdnikeaa
set_option linter.unusedVariables false
set_option linter.unusedSimpArgs false
open Go.RowKit

set_option maxRecDepth 100000 in
set_option maxHeartbeats 8000000 in
theorem ref_cubic {x : Fin PP} {xv t : Nat} (hx : x.val = xv) (ht : (cub x).val = t) (w : World) : Calls Try.prog 43 #[.agg #[.int .u64 (lm xv 0 : Nat), .int .u64 (lm xv 1 : Nat), .int .u64 (lm xv 2 : Nat), .int .u64 (lm xv 3 : Nat)]] w fun e w' => e = .returned (.agg #[.int .u64 (lm t 0 : Nat), .int .u64 (lm t 1 : Nat), .int .u64 (lm t 2 : Nat), .int .u64 (lm t 3 : Nat)]) ∧ Chg [] w w' := by
  obtain ⟨e2, he2⟩ : ∃ e, x * x = e := ⟨_, rfl⟩
  obtain ⟨v2, hv2⟩ : ∃ v, e2.val = v := ⟨_, rfl⟩
  obtain ⟨e3, he3⟩ : ∃ e, e2 * x = e := ⟨_, rfl⟩
  obtain ⟨v3, hv3⟩ : ∃ v, e3.val = v := ⟨_, rfl⟩
  have h7 : (7 : Fin PP).val = 7 := by decide +kernel
  have C2 := Lib.hid (fun w => rp_mul (t := v2) hx hx (by rw [he2]; exact hv2) w)
  have C3 := Lib.hid (fun w => rp_mul (t := v3) hv2 hx (by rw [he3]; exact hv3) w)
  have hc := fun w => rp_add (t := t) (x := e3) (y := 7) hv3 h7 (by rw [← he3, ← he2]; exact ht) w
  rw [l4_seven] at hc
  have C4 := Lib.hid hc
  have HBase := Lib.hid rp_base
  clear hc h7 he2 he3 hv2 hv3 hx ht
  obtain ⟨W0, hW0⟩ : ∃ W0, (w.alloc (.cells #[.int .u64 (lm xv 0 : Nat), .int .u64 (lm xv 1 : Nat), .int .u64 (lm xv 2 : Nat), .int .u64 (lm xv 3 : Nat)] 24)).alloc (.cells #[.int .u64 0, .int .u64 0, .int .u64 0, .int .u64 0] 24) = W0 := ⟨_, rfl⟩
  have HX := Lib.hid (show U4 W0 w.heap.size 24 (lm xv) by rw [← hW0]; exact has_alloc (has_alloc_new _ _))
  have HR := Lib.hid (show U4 W0 (w.heap.size + 1) 24 (fun _ => 0) by rw [← hW0]; exact has_alloc_at (by simp))
  have HC := Lib.hid (show Chg [] w W0 by rw [← hW0]; exact ((Chg.refl _ _).alloc _).alloc _)
  go_enter Try.func43, Try.ntmps43
  go_wp2_with fail
  try rw [hW0]
  clear hW0
  obtain ⟨P, hP⟩ : ∃ P, w.heap.size = P := ⟨_, rfl⟩
  rw [hP] at HX HR ⊢
  obtain ⟨R, hR⟩ : ∃ R, P + 1 = R := ⟨_, rfl⟩
  rw [hR] at HR ⊢
  have hRP : P < R := by omega
  replace hR := Lib.hid hR
  replace hP := Lib.hid hP
  refine (HBase.out _).mono ?_
  rintro e w1 ⟨rfl, hC1⟩
  replace HX := Lib.hid (HX.out.chg hC1 nmN)
  replace HR := Lib.hid (HR.out.chg hC1 nmN)
  replace HC := Lib.hid (HC.out.trans hC1)
  clear hC1
  obtain ⟨W1, hW1⟩ : ∃ W1, w1.alloc (.cells #[.int .u64 (lm PP 0 : Nat), .int .u64 (lm PP 1 : Nat), .int .u64 (lm PP 2 : Nat), .int .u64 (lm PP 3 : Nat), .int .u64 (lm cP 0 : Nat), .int .u64 (lm cP 1 : Nat), .int .u64 (lm cP 2 : Nat), .int .u64 (lm cP 3 : Nat)] 76) = W1 := ⟨_, rfl⟩
  have hA : Chg [] w1 W1 := by rw [← hW1]; exact (Chg.refl _ _).alloc _
  have hN : UD W1 w1.heap.size PP cP := by rw [← hW1]; exact has_alloc_new _ _
  obtain ⟨bD, hb⟩ : ∃ b, w1.heap.size = b := ⟨_, rfl⟩
  have lD : R < bD := by rw [← hb]; exact HR.out.lt
  rw [hb] at hN
  replace HX := Lib.hid (HX.out.chg hA nmN)
  replace HR := Lib.hid (HR.out.chg hA nmN)
  replace HC := Lib.hid (HC.out.trans hA)
  have HD := Lib.hid hN
  go_upto_region 2 with fail
  try rw [hW1]
  try rw [hb]
  clear hW1 hb hA hN
  obtain ⟨D0, D1, D2, D3⟩ := four4 fun _ => (HD.out).cm; obtain ⟨D4, D5, D6, D7⟩ := four4 fun _ => (HD.out).cc
  obtain ⟨x0, x1, x2, x3⟩ := four4 fun _ => (HX.out).cell
  have hRz := HR.out.z
  refine abs_region (B := Chg [R] W1) (S := fun w => Chg [R] W1 w ∧ w.heap[R]? = some (.cells #[.int .u64 0, .int .u64 0, .int .u64 0, .int .u64 0] 24 (0, 0))) (by kernel_rfl) ⟨(Chg.refl _ _).drew, hRz⟩ ?_
  have hG := good_at [R] W1 R (.cells #[.int .u64 0, .int .u64 0, .int .u64 0, .int .u64 0] 24 (0, 0))
  refine Abs.take_np (i := 0) (d := some 5) (v := ?_) rfl rfl (by kernel_rfl) (by kernel_rfl) (by kernel_rfl) hG ⟨by rfl, fun w9 hw9 => Or.inl ?_⟩ ?_
  rotate_left
  · replace D0 := hw9.cell D0 (by simp; omega); replace D1 := hw9.cell D1 (by simp; omega); replace D2 := hw9.cell D2 (by simp; omega); replace D3 := hw9.cell D3 (by simp; omega); replace D4 := hw9.cell D4 (by simp; omega); replace D5 := hw9.cell D5 (by simp; omega); replace D6 := hw9.cell D6 (by simp; omega); replace D7 := hw9.cell D7 (by simp; omega)
    go_simp
    try with_reducible rfl
  simp only [Act.put, stA, stB, stC]
  refine Abs.take_np (i := 1) (d := some 6) (v := ?_) rfl rfl (by kernel_rfl) (by kernel_rfl) (by kernel_rfl) hG ⟨by rfl, fun w9 hw9 => Or.inl ?_⟩ ?_
  rotate_left
  · replace D0 := hw9.cell D0 (by simp; omega); replace D1 := hw9.cell D1 (by simp; omega); replace D2 := hw9.cell D2 (by simp; omega); replace D3 := hw9.cell D3 (by simp; omega); replace D4 := hw9.cell D4 (by simp; omega); replace D5 := hw9.cell D5 (by simp; omega); replace D6 := hw9.cell D6 (by simp; omega); replace D7 := hw9.cell D7 (by simp; omega)
    go_simp
    try with_reducible rfl
  simp only [Act.put, stA, stB, stC]
  refine Abs.take_np (i := 2) (d := some 7) (v := ?_) rfl rfl (by kernel_rfl) (by kernel_rfl) (by kernel_rfl) hG ⟨by rfl, fun w9 hw9 => Or.inl ?_⟩ ?_
  rotate_left
  · replace D0 := hw9.cell D0 (by simp; omega); replace D1 := hw9.cell D1 (by simp; omega); replace D2 := hw9.cell D2 (by simp; omega); replace D3 := hw9.cell D3 (by simp; omega); replace D4 := hw9.cell D4 (by simp; omega); replace D5 := hw9.cell D5 (by simp; omega); replace D6 := hw9.cell D6 (by simp; omega); replace D7 := hw9.cell D7 (by simp; omega)
    go_simp
    try with_reducible rfl
  simp only [Act.put, stA, stB, stC]
  refine Abs.take_np (i := 3) (d := some 8) (v := ?_) rfl rfl (by kernel_rfl) (by kernel_rfl) (by kernel_rfl) hG ⟨by rfl, fun w9 hw9 => Or.inl ?_⟩ ?_
  rotate_left
  · replace x0 := hw9.cell x0 (by simp; omega); replace x1 := hw9.cell x1 (by simp; omega); replace x2 := hw9.cell x2 (by simp; omega); replace x3 := hw9.cell x3 (by simp; omega)
    go_simp
    try with_reducible rfl
  simp only [Act.put, stA, stB, stC]
  refine Abs.take_np (i := 4) (d := some 9) (v := ?_) rfl rfl (by kernel_rfl) (by kernel_rfl) (by kernel_rfl) hG ⟨by rfl, fun w9 hw9 => Or.inl ?_⟩ ?_
  rotate_left
  · replace x0 := hw9.cell x0 (by simp; omega); replace x1 := hw9.cell x1 (by simp; omega); replace x2 := hw9.cell x2 (by simp; omega); replace x3 := hw9.cell x3 (by simp; omega)
    go_simp
    try with_reducible rfl
  simp only [Act.put, stA, stB, stC]
  refine Abs.take_np (i := 5) (d := some 10) (v := _) rfl rfl (by kernel_rfl) (by kernel_rfl) (by kernel_rfl) hG ⟨by rfl, fun w9 hw9 => Or.inr ⟨_, _, ?_, C2.out w9⟩⟩ ?_
  · go_simp
    try with_reducible rfl
  simp only [Act.put, stA, stB, stC]
  refine Abs.take_np (i := 6) (d := some 11) (v := ?_) rfl rfl (by kernel_rfl) (by kernel_rfl) (by kernel_rfl) hG ⟨by rfl, fun w9 hw9 => Or.inl ?_⟩ ?_
  rotate_left
  · replace x0 := hw9.cell x0 (by simp; omega); replace x1 := hw9.cell x1 (by simp; omega); replace x2 := hw9.cell x2 (by simp; omega); replace x3 := hw9.cell x3 (by simp; omega)
    go_simp
    try with_reducible rfl
  simp only [Act.put, stA, stB, stC]
  refine Abs.take_np (i := 7) (d := some 12) (v := _) rfl rfl (by kernel_rfl) (by kernel_rfl) (by kernel_rfl) hG ⟨by rfl, fun w9 hw9 => Or.inr ⟨_, _, ?_, C3.out w9⟩⟩ ?_
  · go_simp
    try with_reducible rfl
  simp only [Act.put, stA, stB, stC]
  refine Abs.take_np (i := 8) (d := some 13) (v := ?_) rfl rfl (by kernel_rfl) (by kernel_rfl) (by kernel_rfl) hG ⟨by rfl, fun w9 hw9 => Or.inl ?_⟩ ?_
  rotate_left
  · go_simp
    try with_reducible rfl
  simp only [Act.put, stA, stB, stC]
  refine Abs.take_np (i := 9) (d := some 14) (v := _) rfl rfl (by kernel_rfl) (by kernel_rfl) (by kernel_rfl) hG ⟨by rfl, fun w9 hw9 => Or.inr ⟨_, _, ?_, C4.out w9⟩⟩ ?_
  · go_simp
    try with_reducible rfl
  simp only [Act.put, stA, stB, stC]
  refine Abs.store4 (i := 10) (b := R) (ds := #[.int .u64 (lm t 0 : Nat), .int .u64 (lm t 1 : Nat), .int .u64 (lm t 2 : Nat), .int .u64 (lm t 3 : Nat)]) rfl (by kernel_rfl) (by rfl) (fun w9 => (((w9.setCell ⟨R, 0, none⟩ (.int .u64 (lm t 0 : Nat))).setCell ⟨R, 1, none⟩ (.int .u64 (lm t 1 : Nat))).setCell ⟨R, 2, none⟩ (.int .u64 (lm t 2 : Nat))).setCell ⟨R, 3, none⟩ (.int .u64 (lm t 3 : Nat))) (fun w9 h9 => ⟨?_, ?_, ?_⟩) (fun _ _ h k => Chg.keeps (Or.inl (by simp)) h k) (good_chg [R] W1) (fun hG => ?_)
  · have n0 := cell_of_has h9 0; have n1 := cell_of_has h9 1; have n2 := cell_of_has h9 2; have n3 := cell_of_has h9 3
    simp only [glA, glB, glC] at n0 n1 n2 n3
    have z0 := frozen_of_has h9 0; have z1 := frozen_of_has h9 1; have z2 := frozen_of_has h9 2; have z3 := frozen_of_has h9 3
    clear h9
    go_simp
    try with_reducible rfl
  · exact U4.put_x (x := fun _ => 0) h9 t
  · exact Chg.put_x (Chg.refl _ _) (Or.inl (by simp)) t
  refine Abs.at_put (d := none) rfl ?_
  simp only [Act.put, stA, stB, stC]
  refine Abs.done (by kernel_rfl) (fun wx hx => NoPanic.normal ?_) _
  obtain ⟨hA, hN⟩ := hx
  have hCF : Chg [] w wx := HC.out.trans_new hA (by simp; have := hP.out; omega)
  have g0 := cell_of_has hN 0; have g1 := cell_of_has hN 1; have g2 := cell_of_has hN 2; have g3 := cell_of_has hN 3
  simp only [glA, glB, glC] at g0 g1 g2 g3
  go_wp2_with fail
  exact bodyPost_ret (v := .agg #[.int .u64 (lm t 0 : Nat), .int .u64 (lm t 1 : Nat), .int .u64 (lm t 2 : Nat), .int .u64 (lm t 3 : Nat)]) (by simp [results, Try.results43, go_sem, g0, g1, g2, g3]) rfl ⟨rfl, hCF⟩

set_option maxRecDepth 100000 in
set_option maxHeartbeats 8000000 in
theorem is_inf   (w : World) : Calls Try.prog 14 #[.agg #[.int .u64 (lm 0 0 : Nat), .int .u64 (lm 0 1 : Nat), .int .u64 (lm 0 2 : Nat), .int .u64 (lm 0 3 : Nat), .int .u64 (lm 0 0 : Nat), .int .u64 (lm 0 1 : Nat), .int .u64 (lm 0 2 : Nat), .int .u64 (lm 0 3 : Nat), .bool true]] w fun e w' => e = .returned (.bool true) ∧ Chg [] w w' := by
  have hx4 : (0 : Nat) < B6 ^ 4 := by decide
  have z1 := fun w => ref_zero (a := 0) hx4 w
  rw [show decide ((0 : Nat) = 0) = true by decide] at z1
  have Z1 := Lib.hid z1; have Z2 := Z1
  clear z1 hx4
  obtain ⟨W0, hW0⟩ : ∃ W0, w.alloc (.cells #[.int .u64 (lm 0 0 : Nat), .int .u64 (lm 0 1 : Nat), .int .u64 (lm 0 2 : Nat), .int .u64 (lm 0 3 : Nat), .int .u64 (lm 0 0 : Nat), .int .u64 (lm 0 1 : Nat), .int .u64 (lm 0 2 : Nat), .int .u64 (lm 0 3 : Nat), .bool true] 26) = W0 := ⟨_, rfl⟩
  have HB := Lib.hid (show U9 W0 w.heap.size 0 0 true by rw [← hW0]; exact has_alloc_new _ _)
  have HR := HB
  have HC := Lib.hid (show Chg [] w W0 by rw [← hW0]; exact (Chg.refl _ _).alloc _)
  obtain ⟨x0, x1, x2, x3⟩ := four4 fun _ => (HB.out).cx; obtain ⟨y0, y1, y2, y3⟩ := four4 fun _ => (HB.out).cy; have i0 := HB.out.ci
  go_enter Try.func14, Try.ntmps14
  go_wp2_with fail
  try rw [hW0]
  clear hW0
  obtain ⟨R, hP⟩ : ∃ P, w.heap.size = P := ⟨_, rfl⟩
  rw [hP] at HB HR i0 x0 y0 x1 y1 x2 y2 x3 y3 ⊢
  replace hP := Lib.hid hP
  refine (Z1.out _).mono ?_
  rintro e w1 ⟨rfl, hC1⟩
  clear x0 y0 x1 y1 x2 y2 x3 y3 i0
  replace HB := Lib.hid (HB.out.chg hC1 nmN)
  replace HR := Lib.hid (HR.out.chg hC1 nmN)
  replace HC := Lib.hid (HC.out.trans hC1)
  clear hC1
  obtain ⟨x0, x1, x2, x3⟩ := four4 fun _ => (HB.out).cx; obtain ⟨y0, y1, y2, y3⟩ := four4 fun _ => (HB.out).cy; have i0 := HB.out.ci
  go_wp2_with fail
  refine (Z2.out _).mono ?_
  rintro e w1 ⟨rfl, hC1⟩
  clear x0 y0 x1 y1 x2 y2 x3 y3 i0
  replace HB := Lib.hid (HB.out.chg hC1 nmN)
  replace HR := Lib.hid (HR.out.chg hC1 nmN)
  replace HC := Lib.hid (HC.out.trans hC1)
  clear hC1
  obtain ⟨x0, x1, x2, x3⟩ := four4 fun _ => (HB.out).cx; obtain ⟨y0, y1, y2, y3⟩ := four4 fun _ => (HB.out).cy; have i0 := HB.out.ci
  go_wp2_with fail
  go_ret
  exact ⟨rfl, HC.out⟩

set_option maxRecDepth 100000 in
set_option maxHeartbeats 8000000 in
theorem is_inf_x {x y : Nat} (hx4 : x < B6 ^ 4) (hx : x ≠ 0) (w : World) : Calls Try.prog 14 #[.agg #[.int .u64 (lm x 0 : Nat), .int .u64 (lm x 1 : Nat), .int .u64 (lm x 2 : Nat), .int .u64 (lm x 3 : Nat), .int .u64 (lm y 0 : Nat), .int .u64 (lm y 1 : Nat), .int .u64 (lm y 2 : Nat), .int .u64 (lm y 3 : Nat), .bool true]] w fun e w' => e = .returned (.bool false) ∧ Chg [] w w' := by
  have z1 := fun w => ref_zero (a := x) hx4 w
  rw [show decide (x = 0) = false by simpa using hx] at z1
  have Z1 := Lib.hid z1
  clear z1
  clear hx hx4
  obtain ⟨W0, hW0⟩ : ∃ W0, w.alloc (.cells #[.int .u64 (lm x 0 : Nat), .int .u64 (lm x 1 : Nat), .int .u64 (lm x 2 : Nat), .int .u64 (lm x 3 : Nat), .int .u64 (lm y 0 : Nat), .int .u64 (lm y 1 : Nat), .int .u64 (lm y 2 : Nat), .int .u64 (lm y 3 : Nat), .bool true] 26) = W0 := ⟨_, rfl⟩
  have HB := Lib.hid (show U9 W0 w.heap.size x y true by rw [← hW0]; exact has_alloc_new _ _)
  have HR := HB
  have HC := Lib.hid (show Chg [] w W0 by rw [← hW0]; exact (Chg.refl _ _).alloc _)
  obtain ⟨x0, x1, x2, x3⟩ := four4 fun _ => (HB.out).cx; obtain ⟨y0, y1, y2, y3⟩ := four4 fun _ => (HB.out).cy; have i0 := HB.out.ci
  go_enter Try.func14, Try.ntmps14
  go_wp2_with fail
  try rw [hW0]
  clear hW0
  obtain ⟨R, hP⟩ : ∃ P, w.heap.size = P := ⟨_, rfl⟩
  rw [hP] at HB HR i0 x0 y0 x1 y1 x2 y2 x3 y3 ⊢
  replace hP := Lib.hid hP
  refine (Z1.out _).mono ?_
  rintro e w1 ⟨rfl, hC1⟩
  clear x0 y0 x1 y1 x2 y2 x3 y3 i0
  replace HB := Lib.hid (HB.out.chg hC1 nmN)
  replace HR := Lib.hid (HR.out.chg hC1 nmN)
  replace HC := Lib.hid (HC.out.trans hC1)
  clear hC1
  obtain ⟨x0, x1, x2, x3⟩ := four4 fun _ => (HB.out).cx; obtain ⟨y0, y1, y2, y3⟩ := four4 fun _ => (HB.out).cy; have i0 := HB.out.ci
  go_wp2_with fail
  go_ret
  exact ⟨rfl, HC.out⟩

set_option maxRecDepth 100000 in
set_option maxHeartbeats 8000000 in
theorem is_inf_y {x y : Nat} (hx4 : x < B6 ^ 4) (hy4 : y < B6 ^ 4) (hx : x = 0) (hy : y ≠ 0) (w : World) : Calls Try.prog 14 #[.agg #[.int .u64 (lm x 0 : Nat), .int .u64 (lm x 1 : Nat), .int .u64 (lm x 2 : Nat), .int .u64 (lm x 3 : Nat), .int .u64 (lm y 0 : Nat), .int .u64 (lm y 1 : Nat), .int .u64 (lm y 2 : Nat), .int .u64 (lm y 3 : Nat), .bool true]] w fun e w' => e = .returned (.bool false) ∧ Chg [] w w' := by
  have z1 := fun w => ref_zero (a := x) hx4 w
  rw [show decide (x = 0) = true by simpa using hx] at z1
  have Z1 := Lib.hid z1
  clear z1
  have z2 := fun w => ref_zero (a := y) hy4 w
  rw [show decide (y = 0) = false by simpa using hy] at z2
  have Z2 := Lib.hid z2
  clear z2
  clear hx hx4 hy hy4
  obtain ⟨W0, hW0⟩ : ∃ W0, w.alloc (.cells #[.int .u64 (lm x 0 : Nat), .int .u64 (lm x 1 : Nat), .int .u64 (lm x 2 : Nat), .int .u64 (lm x 3 : Nat), .int .u64 (lm y 0 : Nat), .int .u64 (lm y 1 : Nat), .int .u64 (lm y 2 : Nat), .int .u64 (lm y 3 : Nat), .bool true] 26) = W0 := ⟨_, rfl⟩
  have HB := Lib.hid (show U9 W0 w.heap.size x y true by rw [← hW0]; exact has_alloc_new _ _)
  have HR := HB
  have HC := Lib.hid (show Chg [] w W0 by rw [← hW0]; exact (Chg.refl _ _).alloc _)
  obtain ⟨x0, x1, x2, x3⟩ := four4 fun _ => (HB.out).cx; obtain ⟨y0, y1, y2, y3⟩ := four4 fun _ => (HB.out).cy; have i0 := HB.out.ci
  go_enter Try.func14, Try.ntmps14
  go_wp2_with fail
  try rw [hW0]
  clear hW0
  obtain ⟨R, hP⟩ : ∃ P, w.heap.size = P := ⟨_, rfl⟩
  rw [hP] at HB HR i0 x0 y0 x1 y1 x2 y2 x3 y3 ⊢
  replace hP := Lib.hid hP
  refine (Z1.out _).mono ?_
  rintro e w1 ⟨rfl, hC1⟩
  clear x0 y0 x1 y1 x2 y2 x3 y3 i0
  replace HB := Lib.hid (HB.out.chg hC1 nmN)
  replace HR := Lib.hid (HR.out.chg hC1 nmN)
  replace HC := Lib.hid (HC.out.trans hC1)
  clear hC1
  obtain ⟨x0, x1, x2, x3⟩ := four4 fun _ => (HB.out).cx; obtain ⟨y0, y1, y2, y3⟩ := four4 fun _ => (HB.out).cy; have i0 := HB.out.ci
  go_wp2_with fail
  refine (Z2.out _).mono ?_
  rintro e w1 ⟨rfl, hC1⟩
  clear x0 y0 x1 y1 x2 y2 x3 y3 i0
  replace HB := Lib.hid (HB.out.chg hC1 nmN)
  replace HR := Lib.hid (HR.out.chg hC1 nmN)
  replace HC := Lib.hid (HC.out.trans hC1)
  clear hC1
  obtain ⟨x0, x1, x2, x3⟩ := four4 fun _ => (HB.out).cx; obtain ⟨y0, y1, y2, y3⟩ := four4 fun _ => (HB.out).cy; have i0 := HB.out.ci
  go_wp2_with fail
  go_ret
  exact ⟨rfl, HC.out⟩

set_option maxRecDepth 100000 in
set_option maxHeartbeats 8000000 in
theorem is_x {x y : Nat} (hx4 : x < B6 ^ 4) (hx : ¬ x < PP) (w : World) : Calls Try.prog 14 #[.agg #[.int .u64 (lm x 0 : Nat), .int .u64 (lm x 1 : Nat), .int .u64 (lm x 2 : Nat), .int .u64 (lm x 3 : Nat), .int .u64 (lm y 0 : Nat), .int .u64 (lm y 1 : Nat), .int .u64 (lm y 2 : Nat), .int .u64 (lm y 3 : Nat), .bool false]] w fun e w' => e = .returned (.bool false) ∧ Chg [] w w' := by
  have h1c := fun w => ref_has (c := cP) way_P.lt hx4 w
  rw [show decide (x < PP) = false by simpa using hx] at h1c
  unfold dcCells at h1c
  have H1 := Lib.hid h1c
  clear h1c
  have HBase := Lib.hid rp_base
  clear hx hx4
  obtain ⟨W0, hW0⟩ : ∃ W0, w.alloc (.cells #[.int .u64 (lm x 0 : Nat), .int .u64 (lm x 1 : Nat), .int .u64 (lm x 2 : Nat), .int .u64 (lm x 3 : Nat), .int .u64 (lm y 0 : Nat), .int .u64 (lm y 1 : Nat), .int .u64 (lm y 2 : Nat), .int .u64 (lm y 3 : Nat), .bool false] 26) = W0 := ⟨_, rfl⟩
  have HB := Lib.hid (show U9 W0 w.heap.size x y false by rw [← hW0]; exact has_alloc_new _ _)
  have HR := HB
  have HC := Lib.hid (show Chg [] w W0 by rw [← hW0]; exact (Chg.refl _ _).alloc _)
  obtain ⟨x0, x1, x2, x3⟩ := four4 fun _ => (HB.out).cx; obtain ⟨y0, y1, y2, y3⟩ := four4 fun _ => (HB.out).cy; have i0 := HB.out.ci
  go_enter Try.func14, Try.ntmps14
  go_wp2_with fail
  try rw [hW0]
  clear hW0
  obtain ⟨R, hP⟩ : ∃ P, w.heap.size = P := ⟨_, rfl⟩
  rw [hP] at HB HR i0 x0 y0 x1 y1 x2 y2 x3 y3 ⊢
  replace hP := Lib.hid hP
  clear x0 y0 x1 y1 x2 y2 x3 y3 i0
  refine (HBase.out _).mono ?_
  rintro e w1 ⟨rfl, hC1⟩
  replace HB := Lib.hid (HB.out.chg hC1 nmN)
  replace HR := Lib.hid (HR.out.chg hC1 nmN)
  replace HC := Lib.hid (HC.out.trans hC1)
  clear hC1
  obtain ⟨W1, hW1⟩ : ∃ W1, w1.alloc (.cells #[.int .u64 (lm PP 0 : Nat), .int .u64 (lm PP 1 : Nat), .int .u64 (lm PP 2 : Nat), .int .u64 (lm PP 3 : Nat), .int .u64 (lm cP 0 : Nat), .int .u64 (lm cP 1 : Nat), .int .u64 (lm cP 2 : Nat), .int .u64 (lm cP 3 : Nat)] 76) = W1 := ⟨_, rfl⟩
  have hA : Chg [] w1 W1 := by rw [← hW1]; exact (Chg.refl _ _).alloc _
  have hN : UD W1 w1.heap.size PP cP := by rw [← hW1]; exact has_alloc_new _ _
  obtain ⟨bD, hb⟩ : ∃ b, w1.heap.size = b := ⟨_, rfl⟩
  have lD : R < bD := by rw [← hb]; exact HR.out.lt
  rw [hb] at hN
  replace HB := Lib.hid (HB.out.chg hA nmN)
  replace HR := Lib.hid (HR.out.chg hA nmN)
  replace HC := Lib.hid (HC.out.trans hA)
  have HD := Lib.hid hN
  go_upto_region 4 with fail
  try rw [hW1]
  try rw [hb]
  clear hW1 hb hA hN
  obtain ⟨D0, D1, D2, D3⟩ := four4 fun _ => (HD.out).cm; obtain ⟨D4, D5, D6, D7⟩ := four4 fun _ => (HD.out).cc
  obtain ⟨x0, x1, x2, x3⟩ := four4 fun _ => (HB.out).cx; obtain ⟨y0, y1, y2, y3⟩ := four4 fun _ => (HB.out).cy
  refine abs_region (B := Chg [] W1) (S := Chg [] W1) (by kernel_rfl) ((Chg.refl _ _).drew) ?_
  have hG := good_chg [] W1
  refine Abs.take_np (i := 0) (d := some 15) (v := ?_) rfl rfl (by kernel_rfl) (by kernel_rfl) (by kernel_rfl) hG ⟨by rfl, fun w9 hw9 => Or.inl ?_⟩ ?_
  rotate_left
  · replace D0 := hw9.cell D0 nmN; replace D1 := hw9.cell D1 nmN; replace D2 := hw9.cell D2 nmN; replace D3 := hw9.cell D3 nmN; replace D4 := hw9.cell D4 nmN; replace D5 := hw9.cell D5 nmN; replace D6 := hw9.cell D6 nmN; replace D7 := hw9.cell D7 nmN
    go_simp
    try with_reducible rfl
  simp only [Act.put, stA, stB, stC]
  refine Abs.take_np (i := 1) (d := some 16) (v := ?_) rfl rfl (by kernel_rfl) (by kernel_rfl) (by kernel_rfl) hG ⟨by rfl, fun w9 hw9 => Or.inl ?_⟩ ?_
  rotate_left
  · go_simp
    try with_reducible rfl
  simp only [Act.put, stA, stB, stC]
  refine Abs.take_np (i := 2) (d := some 17) (v := ?_) rfl rfl (by kernel_rfl) (by kernel_rfl) (by kernel_rfl) hG ⟨by rfl, fun w9 hw9 => Or.inl ?_⟩ ?_
  rotate_left
  · replace x0 := hw9.cell x0 nmN; replace x1 := hw9.cell x1 nmN; replace x2 := hw9.cell x2 nmN; replace x3 := hw9.cell x3 nmN
    go_simp
    try with_reducible rfl
  simp only [Act.put, stA, stB, stC]
  refine Abs.take_np (i := 3) (d := some 18) (v := _) rfl rfl (by kernel_rfl) (by kernel_rfl) (by kernel_rfl) hG ⟨by rfl, fun w9 hw9 => Or.inr ⟨_, _, ?_, H1.out w9⟩⟩ ?_
  · go_simp
    try with_reducible rfl
  simp only [Act.put, stA, stB, stC]
  refine Abs.take_np (i := 4) (d := some 19) (v := ?_) rfl rfl (by kernel_rfl) (by kernel_rfl) (by kernel_rfl) hG ⟨by rfl, fun w9 hw9 => Or.inl ?_⟩ ?_
  rotate_left
  · go_simp
    try with_reducible rfl
  simp only [Act.put, stA, stB, stC]
  refine Abs.skip_np (i := 5) (d := some 20) rfl rfl (by kernel_rfl) (by kernel_rfl) (by kernel_rfl) hG (by rfl) ?_
  simp only [Act.put, stA, stB, stC]
  refine Abs.skip_np (i := 6) (d := some 21) rfl rfl (by kernel_rfl) (by kernel_rfl) (by kernel_rfl) hG (by rfl) ?_
  simp only [Act.put, stA, stB, stC]
  refine Abs.skip_np (i := 7) (d := some 22) rfl rfl (by kernel_rfl) (by kernel_rfl) (by kernel_rfl) hG (by rfl) ?_
  simp only [Act.put, stA, stB, stC]
  refine Abs.skip_np (i := 8) (d := some 23) rfl rfl (by kernel_rfl) (by kernel_rfl) (by kernel_rfl) hG (by rfl) ?_
  simp only [Act.put, stA, stB, stC]
  refine Abs.take_np (i := 9) (d := some 24) (v := ?_) rfl rfl (by kernel_rfl) (by kernel_rfl) (by kernel_rfl) hG ⟨by rfl, fun w9 hw9 => Or.inl ?_⟩ ?_
  rotate_left
  · go_simp
    try with_reducible rfl
  simp only [Act.put, stA, stB, stC]
  refine Abs.take_np (i := 10) (d := some 25) (v := ?_) rfl rfl (by kernel_rfl) (by kernel_rfl) (by kernel_rfl) hG ⟨by rfl, fun w9 hw9 => Or.inl ?_⟩ ?_
  rotate_left
  · go_simp
    try with_reducible rfl
  simp only [Act.put, stA, stB, stC]
  refine Abs.skip_np (i := 11) (d := some 26) rfl rfl (by kernel_rfl) (by kernel_rfl) (by kernel_rfl) hG (by rfl) ?_
  simp only [Act.put, stA, stB, stC]
  refine Abs.skip_np (i := 12) (d := some 27) rfl rfl (by kernel_rfl) (by kernel_rfl) (by kernel_rfl) hG (by rfl) ?_
  simp only [Act.put, stA, stB, stC]
  refine Abs.skip_np (i := 13) (d := some 28) rfl rfl (by kernel_rfl) (by kernel_rfl) (by kernel_rfl) hG (by rfl) ?_
  simp only [Act.put, stA, stB, stC]
  refine Abs.skip_np (i := 14) (d := some 29) rfl rfl (by kernel_rfl) (by kernel_rfl) (by kernel_rfl) hG (by rfl) ?_
  simp only [Act.put, stA, stB, stC]
  refine Abs.skip_np (i := 15) (d := some 30) rfl rfl (by kernel_rfl) (by kernel_rfl) (by kernel_rfl) hG (by rfl) ?_
  simp only [Act.put, stA, stB, stC]
  refine Abs.skip_np (i := 16) (d := some 31) rfl rfl (by kernel_rfl) (by kernel_rfl) (by kernel_rfl) hG (by rfl) ?_
  simp only [Act.put, stA, stB, stC]
  refine Abs.skip_np (i := 17) (d := some 32) rfl rfl (by kernel_rfl) (by kernel_rfl) (by kernel_rfl) hG (by rfl) ?_
  simp only [Act.put, stA, stB, stC]
  refine Abs.skip_np (i := 18) (d := some 33) rfl rfl (by kernel_rfl) (by kernel_rfl) (by kernel_rfl) hG (by rfl) ?_
  simp only [Act.put, stA, stB, stC]
  refine Abs.skip_np (i := 19) (d := some 34) rfl rfl (by kernel_rfl) (by kernel_rfl) (by kernel_rfl) hG (by rfl) ?_
  simp only [Act.put, stA, stB, stC]
  refine Abs.skip_np (i := 20) (d := some 35) rfl rfl (by kernel_rfl) (by kernel_rfl) (by kernel_rfl) hG (by rfl) ?_
  simp only [Act.put, stA, stB, stC]
  refine Abs.take_np (i := 21) (d := some 36) (v := ?_) rfl rfl (by kernel_rfl) (by kernel_rfl) (by kernel_rfl) hG ⟨by rfl, fun w9 hw9 => Or.inl ?_⟩ ?_
  rotate_left
  · go_simp
    try with_reducible rfl
  simp only [Act.put, stA, stB, stC]
  refine Abs.take_np (i := 22) (d := some 2) (v := ?_) rfl rfl (by kernel_rfl) (by kernel_rfl) (by kernel_rfl) hG ⟨by rfl, fun w9 hw9 => Or.inl ?_⟩ ?_
  rotate_left
  · go_simp
    try with_reducible rfl
  simp only [Act.put, stA, stB, stC]
  refine Abs.done (by kernel_rfl) (fun wx hx => NoPanic.normal ?_) _
  clear x0 y0 x1 y1 x2 y2 x3 y3 D0 D1 D2 D3 D4 D5 D6 D7
  replace HB := Lib.hid (HB.out.chg hx nmN)
  replace HR := Lib.hid (HR.out.chg hx nmN)
  replace HC := Lib.hid (HC.out.trans hx)
  replace HD := Lib.hid (HD.out.chg hx nmN)
  clear hx
  go_wp2_with fail
  go_ret
  exact ⟨rfl, HC.out⟩

set_option maxRecDepth 100000 in
set_option maxHeartbeats 8000000 in
theorem is_y {x y : Nat} (hx4 : x < B6 ^ 4) (hy4 : y < B6 ^ 4) (hx : x < PP) (hy : ¬ y < PP) (w : World) : Calls Try.prog 14 #[.agg #[.int .u64 (lm x 0 : Nat), .int .u64 (lm x 1 : Nat), .int .u64 (lm x 2 : Nat), .int .u64 (lm x 3 : Nat), .int .u64 (lm y 0 : Nat), .int .u64 (lm y 1 : Nat), .int .u64 (lm y 2 : Nat), .int .u64 (lm y 3 : Nat), .bool false]] w fun e w' => e = .returned (.bool false) ∧ Chg [] w w' := by
  have h1c := fun w => ref_has (c := cP) way_P.lt hx4 w
  rw [show decide (x < PP) = true by simpa using hx] at h1c
  unfold dcCells at h1c
  have H1 := Lib.hid h1c
  clear h1c
  have h2c := fun w => ref_has (c := cP) way_P.lt hy4 w
  rw [show decide (y < PP) = false by simpa using hy] at h2c
  unfold dcCells at h2c
  have H2 := Lib.hid h2c
  clear h2c
  have HBase := Lib.hid rp_base
  clear hx hx4 hy hy4
  obtain ⟨W0, hW0⟩ : ∃ W0, w.alloc (.cells #[.int .u64 (lm x 0 : Nat), .int .u64 (lm x 1 : Nat), .int .u64 (lm x 2 : Nat), .int .u64 (lm x 3 : Nat), .int .u64 (lm y 0 : Nat), .int .u64 (lm y 1 : Nat), .int .u64 (lm y 2 : Nat), .int .u64 (lm y 3 : Nat), .bool false] 26) = W0 := ⟨_, rfl⟩
  have HB := Lib.hid (show U9 W0 w.heap.size x y false by rw [← hW0]; exact has_alloc_new _ _)
  have HR := HB
  have HC := Lib.hid (show Chg [] w W0 by rw [← hW0]; exact (Chg.refl _ _).alloc _)
  obtain ⟨x0, x1, x2, x3⟩ := four4 fun _ => (HB.out).cx; obtain ⟨y0, y1, y2, y3⟩ := four4 fun _ => (HB.out).cy; have i0 := HB.out.ci
  go_enter Try.func14, Try.ntmps14
  go_wp2_with fail
  try rw [hW0]
  clear hW0
  obtain ⟨R, hP⟩ : ∃ P, w.heap.size = P := ⟨_, rfl⟩
  rw [hP] at HB HR i0 x0 y0 x1 y1 x2 y2 x3 y3 ⊢
  replace hP := Lib.hid hP
  clear x0 y0 x1 y1 x2 y2 x3 y3 i0
  refine (HBase.out _).mono ?_
  rintro e w1 ⟨rfl, hC1⟩
  replace HB := Lib.hid (HB.out.chg hC1 nmN)
  replace HR := Lib.hid (HR.out.chg hC1 nmN)
  replace HC := Lib.hid (HC.out.trans hC1)
  clear hC1
  obtain ⟨W1, hW1⟩ : ∃ W1, w1.alloc (.cells #[.int .u64 (lm PP 0 : Nat), .int .u64 (lm PP 1 : Nat), .int .u64 (lm PP 2 : Nat), .int .u64 (lm PP 3 : Nat), .int .u64 (lm cP 0 : Nat), .int .u64 (lm cP 1 : Nat), .int .u64 (lm cP 2 : Nat), .int .u64 (lm cP 3 : Nat)] 76) = W1 := ⟨_, rfl⟩
  have hA : Chg [] w1 W1 := by rw [← hW1]; exact (Chg.refl _ _).alloc _
  have hN : UD W1 w1.heap.size PP cP := by rw [← hW1]; exact has_alloc_new _ _
  obtain ⟨bD, hb⟩ : ∃ b, w1.heap.size = b := ⟨_, rfl⟩
  have lD : R < bD := by rw [← hb]; exact HR.out.lt
  rw [hb] at hN
  replace HB := Lib.hid (HB.out.chg hA nmN)
  replace HR := Lib.hid (HR.out.chg hA nmN)
  replace HC := Lib.hid (HC.out.trans hA)
  have HD := Lib.hid hN
  go_upto_region 4 with fail
  try rw [hW1]
  try rw [hb]
  clear hW1 hb hA hN
  obtain ⟨D0, D1, D2, D3⟩ := four4 fun _ => (HD.out).cm; obtain ⟨D4, D5, D6, D7⟩ := four4 fun _ => (HD.out).cc
  obtain ⟨x0, x1, x2, x3⟩ := four4 fun _ => (HB.out).cx; obtain ⟨y0, y1, y2, y3⟩ := four4 fun _ => (HB.out).cy
  refine abs_region (B := Chg [] W1) (S := Chg [] W1) (by kernel_rfl) ((Chg.refl _ _).drew) ?_
  have hG := good_chg [] W1
  refine Abs.take_np (i := 0) (d := some 15) (v := ?_) rfl rfl (by kernel_rfl) (by kernel_rfl) (by kernel_rfl) hG ⟨by rfl, fun w9 hw9 => Or.inl ?_⟩ ?_
  rotate_left
  · replace D0 := hw9.cell D0 nmN; replace D1 := hw9.cell D1 nmN; replace D2 := hw9.cell D2 nmN; replace D3 := hw9.cell D3 nmN; replace D4 := hw9.cell D4 nmN; replace D5 := hw9.cell D5 nmN; replace D6 := hw9.cell D6 nmN; replace D7 := hw9.cell D7 nmN
    go_simp
    try with_reducible rfl
  simp only [Act.put, stA, stB, stC]
  refine Abs.take_np (i := 1) (d := some 16) (v := ?_) rfl rfl (by kernel_rfl) (by kernel_rfl) (by kernel_rfl) hG ⟨by rfl, fun w9 hw9 => Or.inl ?_⟩ ?_
  rotate_left
  · go_simp
    try with_reducible rfl
  simp only [Act.put, stA, stB, stC]
  refine Abs.take_np (i := 2) (d := some 17) (v := ?_) rfl rfl (by kernel_rfl) (by kernel_rfl) (by kernel_rfl) hG ⟨by rfl, fun w9 hw9 => Or.inl ?_⟩ ?_
  rotate_left
  · replace x0 := hw9.cell x0 nmN; replace x1 := hw9.cell x1 nmN; replace x2 := hw9.cell x2 nmN; replace x3 := hw9.cell x3 nmN
    go_simp
    try with_reducible rfl
  simp only [Act.put, stA, stB, stC]
  refine Abs.take_np (i := 3) (d := some 18) (v := _) rfl rfl (by kernel_rfl) (by kernel_rfl) (by kernel_rfl) hG ⟨by rfl, fun w9 hw9 => Or.inr ⟨_, _, ?_, H1.out w9⟩⟩ ?_
  · go_simp
    try with_reducible rfl
  simp only [Act.put, stA, stB, stC]
  refine Abs.take_np (i := 4) (d := some 19) (v := ?_) rfl rfl (by kernel_rfl) (by kernel_rfl) (by kernel_rfl) hG ⟨by rfl, fun w9 hw9 => Or.inl ?_⟩ ?_
  rotate_left
  · go_simp
    try with_reducible rfl
  simp only [Act.put, stA, stB, stC]
  refine Abs.take_np (i := 5) (d := some 20) (v := ?_) rfl rfl (by kernel_rfl) (by kernel_rfl) (by kernel_rfl) hG ⟨by rfl, fun w9 hw9 => Or.inl ?_⟩ ?_
  rotate_left
  · replace D0 := hw9.cell D0 nmN; replace D1 := hw9.cell D1 nmN; replace D2 := hw9.cell D2 nmN; replace D3 := hw9.cell D3 nmN; replace D4 := hw9.cell D4 nmN; replace D5 := hw9.cell D5 nmN; replace D6 := hw9.cell D6 nmN; replace D7 := hw9.cell D7 nmN
    go_simp
    try with_reducible rfl
  simp only [Act.put, stA, stB, stC]
  refine Abs.take_np (i := 6) (d := some 21) (v := ?_) rfl rfl (by kernel_rfl) (by kernel_rfl) (by kernel_rfl) hG ⟨by rfl, fun w9 hw9 => Or.inl ?_⟩ ?_
  rotate_left
  · go_simp
    try with_reducible rfl
  simp only [Act.put, stA, stB, stC]
  refine Abs.take_np (i := 7) (d := some 22) (v := ?_) rfl rfl (by kernel_rfl) (by kernel_rfl) (by kernel_rfl) hG ⟨by rfl, fun w9 hw9 => Or.inl ?_⟩ ?_
  rotate_left
  · replace y0 := hw9.cell y0 nmN; replace y1 := hw9.cell y1 nmN; replace y2 := hw9.cell y2 nmN; replace y3 := hw9.cell y3 nmN
    go_simp
    try with_reducible rfl
  simp only [Act.put, stA, stB, stC]
  refine Abs.take_np (i := 8) (d := some 23) (v := _) rfl rfl (by kernel_rfl) (by kernel_rfl) (by kernel_rfl) hG ⟨by rfl, fun w9 hw9 => Or.inr ⟨_, _, ?_, H2.out w9⟩⟩ ?_
  · go_simp
    try with_reducible rfl
  simp only [Act.put, stA, stB, stC]
  refine Abs.take_np (i := 9) (d := some 24) (v := ?_) rfl rfl (by kernel_rfl) (by kernel_rfl) (by kernel_rfl) hG ⟨by rfl, fun w9 hw9 => Or.inl ?_⟩ ?_
  rotate_left
  · go_simp
    try with_reducible rfl
  simp only [Act.put, stA, stB, stC]
  refine Abs.take_np (i := 10) (d := some 25) (v := ?_) rfl rfl (by kernel_rfl) (by kernel_rfl) (by kernel_rfl) hG ⟨by rfl, fun w9 hw9 => Or.inl ?_⟩ ?_
  rotate_left
  · go_simp
    try with_reducible rfl
  simp only [Act.put, stA, stB, stC]
  refine Abs.skip_np (i := 11) (d := some 26) rfl rfl (by kernel_rfl) (by kernel_rfl) (by kernel_rfl) hG (by rfl) ?_
  simp only [Act.put, stA, stB, stC]
  refine Abs.skip_np (i := 12) (d := some 27) rfl rfl (by kernel_rfl) (by kernel_rfl) (by kernel_rfl) hG (by rfl) ?_
  simp only [Act.put, stA, stB, stC]
  refine Abs.skip_np (i := 13) (d := some 28) rfl rfl (by kernel_rfl) (by kernel_rfl) (by kernel_rfl) hG (by rfl) ?_
  simp only [Act.put, stA, stB, stC]
  refine Abs.skip_np (i := 14) (d := some 29) rfl rfl (by kernel_rfl) (by kernel_rfl) (by kernel_rfl) hG (by rfl) ?_
  simp only [Act.put, stA, stB, stC]
  refine Abs.skip_np (i := 15) (d := some 30) rfl rfl (by kernel_rfl) (by kernel_rfl) (by kernel_rfl) hG (by rfl) ?_
  simp only [Act.put, stA, stB, stC]
  refine Abs.skip_np (i := 16) (d := some 31) rfl rfl (by kernel_rfl) (by kernel_rfl) (by kernel_rfl) hG (by rfl) ?_
  simp only [Act.put, stA, stB, stC]
  refine Abs.skip_np (i := 17) (d := some 32) rfl rfl (by kernel_rfl) (by kernel_rfl) (by kernel_rfl) hG (by rfl) ?_
  simp only [Act.put, stA, stB, stC]
  refine Abs.skip_np (i := 18) (d := some 33) rfl rfl (by kernel_rfl) (by kernel_rfl) (by kernel_rfl) hG (by rfl) ?_
  simp only [Act.put, stA, stB, stC]
  refine Abs.skip_np (i := 19) (d := some 34) rfl rfl (by kernel_rfl) (by kernel_rfl) (by kernel_rfl) hG (by rfl) ?_
  simp only [Act.put, stA, stB, stC]
  refine Abs.skip_np (i := 20) (d := some 35) rfl rfl (by kernel_rfl) (by kernel_rfl) (by kernel_rfl) hG (by rfl) ?_
  simp only [Act.put, stA, stB, stC]
  refine Abs.take_np (i := 21) (d := some 36) (v := ?_) rfl rfl (by kernel_rfl) (by kernel_rfl) (by kernel_rfl) hG ⟨by rfl, fun w9 hw9 => Or.inl ?_⟩ ?_
  rotate_left
  · go_simp
    try with_reducible rfl
  simp only [Act.put, stA, stB, stC]
  refine Abs.take_np (i := 22) (d := some 2) (v := ?_) rfl rfl (by kernel_rfl) (by kernel_rfl) (by kernel_rfl) hG ⟨by rfl, fun w9 hw9 => Or.inl ?_⟩ ?_
  rotate_left
  · go_simp
    try with_reducible rfl
  simp only [Act.put, stA, stB, stC]
  refine Abs.done (by kernel_rfl) (fun wx hx => NoPanic.normal ?_) _
  clear x0 y0 x1 y1 x2 y2 x3 y3 D0 D1 D2 D3 D4 D5 D6 D7
  replace HB := Lib.hid (HB.out.chg hx nmN)
  replace HR := Lib.hid (HR.out.chg hx nmN)
  replace HC := Lib.hid (HC.out.trans hx)
  replace HD := Lib.hid (HD.out.chg hx nmN)
  clear hx
  go_wp2_with fail
  go_ret
  exact ⟨rfl, HC.out⟩

set_option maxRecDepth 100000 in
set_option maxHeartbeats 8000000 in
theorem is_off {x y : Fin PP} (hne : y * y ≠ cub x) (w : World) : Calls Try.prog 14 #[.agg #[.int .u64 (lm x.val 0 : Nat), .int .u64 (lm x.val 1 : Nat), .int .u64 (lm x.val 2 : Nat), .int .u64 (lm x.val 3 : Nat), .int .u64 (lm y.val 0 : Nat), .int .u64 (lm y.val 1 : Nat), .int .u64 (lm y.val 2 : Nat), .int .u64 (lm y.val 3 : Nat), .bool false]] w fun e w' => e = .returned (.bool false) ∧ Chg [] w w' := by
  obtain ⟨xv, hxv⟩ : ∃ v, x.val = v := ⟨_, rfl⟩
  obtain ⟨yv, hyv⟩ : ∃ v, y.val = v := ⟨_, rfl⟩
  rw [hxv, hyv]
  have hxv4 : xv < B6 ^ 4 := by rw [← hxv]; exact val_lt4 x
  have hyv4 : yv < B6 ^ 4 := by rw [← hyv]; exact val_lt4 y
  have hx : xv < PP := by rw [← hxv]; exact x.isLt
  have hy : yv < PP := by rw [← hyv]; exact y.isLt
  have h1c := fun w => ref_has (c := cP) way_P.lt hxv4 w
  rw [show decide (xv < PP) = true by simpa using hx] at h1c
  unfold dcCells at h1c
  have H1 := Lib.hid h1c
  clear h1c
  have h2c := fun w => ref_has (c := cP) way_P.lt hyv4 w
  rw [show decide (yv < PP) = true by simpa using hy] at h2c
  unfold dcCells at h2c
  have H2 := Lib.hid h2c
  clear h2c
  have HBase := Lib.hid rp_base
  obtain ⟨s, hs⟩ : ∃ v, (y * y).val = v := ⟨_, rfl⟩
  obtain ⟨t, ht⟩ : ∃ v, (cub x).val = v := ⟨_, rfl⟩
  have C2 := Lib.hid (fun w => rp_mul hyv hyv hs w)
  have CC := Lib.hid (fun w => ref_cubic hxv ht w)
  have hs4 : s < B6 ^ 4 := by rw [← hs]; exact val_lt4 _
  have ht4 : t < B6 ^ 4 := by rw [← ht]; exact val_lt4 _
  have q := fun w => num_eq hs4 ht4 w
  rw [show decide (s = t) = false by simp only [decide_eq_false_iff_not]; exact fun h => hne (Fin.ext (by rw [hs, ht, h]))] at q
  clear hne hxv hyv hxv4 hyv4 hx hy hs ht hs4 ht4
  obtain ⟨W0, hW0⟩ : ∃ W0, w.alloc (.cells #[.int .u64 (lm xv 0 : Nat), .int .u64 (lm xv 1 : Nat), .int .u64 (lm xv 2 : Nat), .int .u64 (lm xv 3 : Nat), .int .u64 (lm yv 0 : Nat), .int .u64 (lm yv 1 : Nat), .int .u64 (lm yv 2 : Nat), .int .u64 (lm yv 3 : Nat), .bool false] 26) = W0 := ⟨_, rfl⟩
  have HB := Lib.hid (show U9 W0 w.heap.size xv yv false by rw [← hW0]; exact has_alloc_new _ _)
  have HR := HB
  have HC := Lib.hid (show Chg [] w W0 by rw [← hW0]; exact (Chg.refl _ _).alloc _)
  obtain ⟨x0, x1, x2, x3⟩ := four4 fun _ => (HB.out).cx; obtain ⟨y0, y1, y2, y3⟩ := four4 fun _ => (HB.out).cy; have i0 := HB.out.ci
  go_enter Try.func14, Try.ntmps14
  go_wp2_with fail
  try rw [hW0]
  clear hW0
  obtain ⟨R, hP⟩ : ∃ P, w.heap.size = P := ⟨_, rfl⟩
  rw [hP] at HB HR i0 x0 y0 x1 y1 x2 y2 x3 y3 ⊢
  replace hP := Lib.hid hP
  clear x0 y0 x1 y1 x2 y2 x3 y3 i0
  refine (HBase.out _).mono ?_
  rintro e w1 ⟨rfl, hC1⟩
  replace HB := Lib.hid (HB.out.chg hC1 nmN)
  replace HR := Lib.hid (HR.out.chg hC1 nmN)
  replace HC := Lib.hid (HC.out.trans hC1)
  clear hC1
  obtain ⟨W1, hW1⟩ : ∃ W1, w1.alloc (.cells #[.int .u64 (lm PP 0 : Nat), .int .u64 (lm PP 1 : Nat), .int .u64 (lm PP 2 : Nat), .int .u64 (lm PP 3 : Nat), .int .u64 (lm cP 0 : Nat), .int .u64 (lm cP 1 : Nat), .int .u64 (lm cP 2 : Nat), .int .u64 (lm cP 3 : Nat)] 76) = W1 := ⟨_, rfl⟩
  have hA : Chg [] w1 W1 := by rw [← hW1]; exact (Chg.refl _ _).alloc _
  have hN : UD W1 w1.heap.size PP cP := by rw [← hW1]; exact has_alloc_new _ _
  obtain ⟨bD, hb⟩ : ∃ b, w1.heap.size = b := ⟨_, rfl⟩
  have lD : R < bD := by rw [← hb]; exact HR.out.lt
  rw [hb] at hN
  replace HB := Lib.hid (HB.out.chg hA nmN)
  replace HR := Lib.hid (HR.out.chg hA nmN)
  replace HC := Lib.hid (HC.out.trans hA)
  have HD := Lib.hid hN
  go_upto_region 4 with fail
  try rw [hW1]
  try rw [hb]
  clear hW1 hb hA hN
  obtain ⟨D0, D1, D2, D3⟩ := four4 fun _ => (HD.out).cm; obtain ⟨D4, D5, D6, D7⟩ := four4 fun _ => (HD.out).cc
  obtain ⟨x0, x1, x2, x3⟩ := four4 fun _ => (HB.out).cx; obtain ⟨y0, y1, y2, y3⟩ := four4 fun _ => (HB.out).cy
  refine abs_region (B := Chg [] W1) (S := Chg [] W1) (by kernel_rfl) ((Chg.refl _ _).drew) ?_
  have hG := good_chg [] W1
  refine Abs.take_np (i := 0) (d := some 15) (v := ?_) rfl rfl (by kernel_rfl) (by kernel_rfl) (by kernel_rfl) hG ⟨by rfl, fun w9 hw9 => Or.inl ?_⟩ ?_
  rotate_left
  · replace D0 := hw9.cell D0 nmN; replace D1 := hw9.cell D1 nmN; replace D2 := hw9.cell D2 nmN; replace D3 := hw9.cell D3 nmN; replace D4 := hw9.cell D4 nmN; replace D5 := hw9.cell D5 nmN; replace D6 := hw9.cell D6 nmN; replace D7 := hw9.cell D7 nmN
    go_simp
    try with_reducible rfl
  simp only [Act.put, stA, stB, stC]
  refine Abs.take_np (i := 1) (d := some 16) (v := ?_) rfl rfl (by kernel_rfl) (by kernel_rfl) (by kernel_rfl) hG ⟨by rfl, fun w9 hw9 => Or.inl ?_⟩ ?_
  rotate_left
  · go_simp
    try with_reducible rfl
  simp only [Act.put, stA, stB, stC]
  refine Abs.take_np (i := 2) (d := some 17) (v := ?_) rfl rfl (by kernel_rfl) (by kernel_rfl) (by kernel_rfl) hG ⟨by rfl, fun w9 hw9 => Or.inl ?_⟩ ?_
  rotate_left
  · replace x0 := hw9.cell x0 nmN; replace x1 := hw9.cell x1 nmN; replace x2 := hw9.cell x2 nmN; replace x3 := hw9.cell x3 nmN
    go_simp
    try with_reducible rfl
  simp only [Act.put, stA, stB, stC]
  refine Abs.take_np (i := 3) (d := some 18) (v := _) rfl rfl (by kernel_rfl) (by kernel_rfl) (by kernel_rfl) hG ⟨by rfl, fun w9 hw9 => Or.inr ⟨_, _, ?_, H1.out w9⟩⟩ ?_
  · go_simp
    try with_reducible rfl
  simp only [Act.put, stA, stB, stC]
  refine Abs.take_np (i := 4) (d := some 19) (v := ?_) rfl rfl (by kernel_rfl) (by kernel_rfl) (by kernel_rfl) hG ⟨by rfl, fun w9 hw9 => Or.inl ?_⟩ ?_
  rotate_left
  · go_simp
    try with_reducible rfl
  simp only [Act.put, stA, stB, stC]
  refine Abs.take_np (i := 5) (d := some 20) (v := ?_) rfl rfl (by kernel_rfl) (by kernel_rfl) (by kernel_rfl) hG ⟨by rfl, fun w9 hw9 => Or.inl ?_⟩ ?_
  rotate_left
  · replace D0 := hw9.cell D0 nmN; replace D1 := hw9.cell D1 nmN; replace D2 := hw9.cell D2 nmN; replace D3 := hw9.cell D3 nmN; replace D4 := hw9.cell D4 nmN; replace D5 := hw9.cell D5 nmN; replace D6 := hw9.cell D6 nmN; replace D7 := hw9.cell D7 nmN
    go_simp
    try with_reducible rfl
  simp only [Act.put, stA, stB, stC]
  refine Abs.take_np (i := 6) (d := some 21) (v := ?_) rfl rfl (by kernel_rfl) (by kernel_rfl) (by kernel_rfl) hG ⟨by rfl, fun w9 hw9 => Or.inl ?_⟩ ?_
  rotate_left
  · go_simp
    try with_reducible rfl
  simp only [Act.put, stA, stB, stC]
  refine Abs.take_np (i := 7) (d := some 22) (v := ?_) rfl rfl (by kernel_rfl) (by kernel_rfl) (by kernel_rfl) hG ⟨by rfl, fun w9 hw9 => Or.inl ?_⟩ ?_
  rotate_left
  · replace y0 := hw9.cell y0 nmN; replace y1 := hw9.cell y1 nmN; replace y2 := hw9.cell y2 nmN; replace y3 := hw9.cell y3 nmN
    go_simp
    try with_reducible rfl
  simp only [Act.put, stA, stB, stC]
  refine Abs.take_np (i := 8) (d := some 23) (v := _) rfl rfl (by kernel_rfl) (by kernel_rfl) (by kernel_rfl) hG ⟨by rfl, fun w9 hw9 => Or.inr ⟨_, _, ?_, H2.out w9⟩⟩ ?_
  · go_simp
    try with_reducible rfl
  simp only [Act.put, stA, stB, stC]
  refine Abs.take_np (i := 9) (d := some 24) (v := ?_) rfl rfl (by kernel_rfl) (by kernel_rfl) (by kernel_rfl) hG ⟨by rfl, fun w9 hw9 => Or.inl ?_⟩ ?_
  rotate_left
  · go_simp
    try with_reducible rfl
  simp only [Act.put, stA, stB, stC]
  refine Abs.take_np (i := 10) (d := some 25) (v := ?_) rfl rfl (by kernel_rfl) (by kernel_rfl) (by kernel_rfl) hG ⟨by rfl, fun w9 hw9 => Or.inl ?_⟩ ?_
  rotate_left
  · go_simp
    try with_reducible rfl
  simp only [Act.put, stA, stB, stC]
  refine Abs.take_np (i := 11) (d := some 26) (v := ?_) rfl rfl (by kernel_rfl) (by kernel_rfl) (by kernel_rfl) hG ⟨by rfl, fun w9 hw9 => Or.inl ?_⟩ ?_
  rotate_left
  · replace D0 := hw9.cell D0 nmN; replace D1 := hw9.cell D1 nmN; replace D2 := hw9.cell D2 nmN; replace D3 := hw9.cell D3 nmN; replace D4 := hw9.cell D4 nmN; replace D5 := hw9.cell D5 nmN; replace D6 := hw9.cell D6 nmN; replace D7 := hw9.cell D7 nmN
    go_simp
    try with_reducible rfl
  simp only [Act.put, stA, stB, stC]
  refine Abs.take_np (i := 12) (d := some 27) (v := ?_) rfl rfl (by kernel_rfl) (by kernel_rfl) (by kernel_rfl) hG ⟨by rfl, fun w9 hw9 => Or.inl ?_⟩ ?_
  rotate_left
  · go_simp
    try with_reducible rfl
  simp only [Act.put, stA, stB, stC]
  refine Abs.take_np (i := 13) (d := some 28) (v := ?_) rfl rfl (by kernel_rfl) (by kernel_rfl) (by kernel_rfl) hG ⟨by rfl, fun w9 hw9 => Or.inl ?_⟩ ?_
  rotate_left
  · replace y0 := hw9.cell y0 nmN; replace y1 := hw9.cell y1 nmN; replace y2 := hw9.cell y2 nmN; replace y3 := hw9.cell y3 nmN
    go_simp
    try with_reducible rfl
  simp only [Act.put, stA, stB, stC]
  refine Abs.take_np (i := 14) (d := some 29) (v := ?_) rfl rfl (by kernel_rfl) (by kernel_rfl) (by kernel_rfl) hG ⟨by rfl, fun w9 hw9 => Or.inl ?_⟩ ?_
  rotate_left
  · go_simp
    try with_reducible rfl
  simp only [Act.put, stA, stB, stC]
  refine Abs.take_np (i := 15) (d := some 30) (v := ?_) rfl rfl (by kernel_rfl) (by kernel_rfl) (by kernel_rfl) hG ⟨by rfl, fun w9 hw9 => Or.inl ?_⟩ ?_
  rotate_left
  · replace y0 := hw9.cell y0 nmN; replace y1 := hw9.cell y1 nmN; replace y2 := hw9.cell y2 nmN; replace y3 := hw9.cell y3 nmN
    go_simp
    try with_reducible rfl
  simp only [Act.put, stA, stB, stC]
  refine Abs.take_np (i := 16) (d := some 31) (v := _) rfl rfl (by kernel_rfl) (by kernel_rfl) (by kernel_rfl) hG ⟨by rfl, fun w9 hw9 => Or.inr ⟨_, _, ?_, C2.out w9⟩⟩ ?_
  · go_simp
    try with_reducible rfl
  simp only [Act.put, stA, stB, stC]
  refine Abs.take_np (i := 17) (d := some 32) (v := ?_) rfl rfl (by kernel_rfl) (by kernel_rfl) (by kernel_rfl) hG ⟨by rfl, fun w9 hw9 => Or.inl ?_⟩ ?_
  rotate_left
  · go_simp
    try with_reducible rfl
  simp only [Act.put, stA, stB, stC]
  refine Abs.take_np (i := 18) (d := some 33) (v := ?_) rfl rfl (by kernel_rfl) (by kernel_rfl) (by kernel_rfl) hG ⟨by rfl, fun w9 hw9 => Or.inl ?_⟩ ?_
  rotate_left
  · replace x0 := hw9.cell x0 nmN; replace x1 := hw9.cell x1 nmN; replace x2 := hw9.cell x2 nmN; replace x3 := hw9.cell x3 nmN
    go_simp
    try with_reducible rfl
  simp only [Act.put, stA, stB, stC]
  refine Abs.take_np (i := 19) (d := some 34) (v := _) rfl rfl (by kernel_rfl) (by kernel_rfl) (by kernel_rfl) hG ⟨by rfl, fun w9 hw9 => Or.inr ⟨_, _, ?_, CC.out w9⟩⟩ ?_
  · go_simp
    try with_reducible rfl
  simp only [Act.put, stA, stB, stC]
  refine Abs.take_np (i := 20) (d := some 35) (v := ?_) rfl rfl (by kernel_rfl) (by kernel_rfl) (by kernel_rfl) hG ⟨by rfl, fun w9 hw9 => Or.inl ?_⟩ ?_
  rotate_left
  · go_simp
    try with_reducible rfl
  simp only [Act.put, stA, stB, stC]
  refine Abs.take_np (i := 21) (d := some 36) (v := ?_) rfl rfl (by kernel_rfl) (by kernel_rfl) (by kernel_rfl) hG ⟨by rfl, fun w9 hw9 => Or.inl ?_⟩ ?_
  rotate_left
  · go_simp
    try with_reducible rfl
  simp only [Act.put, stA, stB, stC]
  refine Abs.take_np (i := 22) (d := some 2) (v := ?_) rfl rfl (by kernel_rfl) (by kernel_rfl) (by kernel_rfl) hG ⟨by rfl, fun w9 hw9 => Or.inl ?_⟩ ?_
  rotate_left
  · go_simp
    try with_reducible rfl
  simp only [Act.put, stA, stB, stC]
  refine Abs.done (by kernel_rfl) (fun wx hx => NoPanic.normal ?_) _
  clear x0 y0 x1 y1 x2 y2 x3 y3 D0 D1 D2 D3 D4 D5 D6 D7
  replace HB := Lib.hid (HB.out.chg hx nmN)
  replace HR := Lib.hid (HR.out.chg hx nmN)
  replace HC := Lib.hid (HC.out.trans hx)
  replace HD := Lib.hid (HD.out.chg hx nmN)
  clear hx
  go_wp2_with fail
  go_ret
  exact ⟨rfl, HC.out⟩

set_option maxRecDepth 100000 in
set_option maxHeartbeats 8000000 in
theorem is_on {x y : Fin PP} (he : y * y = cub x) (w : World) : Calls Try.prog 14 #[.agg #[.int .u64 (lm x.val 0 : Nat), .int .u64 (lm x.val 1 : Nat), .int .u64 (lm x.val 2 : Nat), .int .u64 (lm x.val 3 : Nat), .int .u64 (lm y.val 0 : Nat), .int .u64 (lm y.val 1 : Nat), .int .u64 (lm y.val 2 : Nat), .int .u64 (lm y.val 3 : Nat), .bool false]] w fun e w' => e = .returned (.bool true) ∧ Chg [] w w' := by
  obtain ⟨xv, hxv⟩ : ∃ v, x.val = v := ⟨_, rfl⟩
  obtain ⟨yv, hyv⟩ : ∃ v, y.val = v := ⟨_, rfl⟩
  rw [hxv, hyv]
  have hxv4 : xv < B6 ^ 4 := by rw [← hxv]; exact val_lt4 x
  have hyv4 : yv < B6 ^ 4 := by rw [← hyv]; exact val_lt4 y
  have hx : xv < PP := by rw [← hxv]; exact x.isLt
  have hy : yv < PP := by rw [← hyv]; exact y.isLt
  have h1c := fun w => ref_has (c := cP) way_P.lt hxv4 w
  rw [show decide (xv < PP) = true by simpa using hx] at h1c
  unfold dcCells at h1c
  have H1 := Lib.hid h1c
  clear h1c
  have h2c := fun w => ref_has (c := cP) way_P.lt hyv4 w
  rw [show decide (yv < PP) = true by simpa using hy] at h2c
  unfold dcCells at h2c
  have H2 := Lib.hid h2c
  clear h2c
  have HBase := Lib.hid rp_base
  obtain ⟨s, hs⟩ : ∃ v, (y * y).val = v := ⟨_, rfl⟩
  obtain ⟨t, ht⟩ : ∃ v, (cub x).val = v := ⟨_, rfl⟩
  have C2 := Lib.hid (fun w => rp_mul hyv hyv hs w)
  have CC := Lib.hid (fun w => ref_cubic hxv ht w)
  have hs4 : s < B6 ^ 4 := by rw [← hs]; exact val_lt4 _
  have ht4 : t < B6 ^ 4 := by rw [← ht]; exact val_lt4 _
  have q := fun w => num_eq hs4 ht4 w
  rw [show decide (s = t) = true by simp only [decide_eq_true_iff]; rw [← hs, ← ht, he]] at q
  clear he hxv hyv hxv4 hyv4 hx hy hs ht hs4 ht4
  obtain ⟨W0, hW0⟩ : ∃ W0, w.alloc (.cells #[.int .u64 (lm xv 0 : Nat), .int .u64 (lm xv 1 : Nat), .int .u64 (lm xv 2 : Nat), .int .u64 (lm xv 3 : Nat), .int .u64 (lm yv 0 : Nat), .int .u64 (lm yv 1 : Nat), .int .u64 (lm yv 2 : Nat), .int .u64 (lm yv 3 : Nat), .bool false] 26) = W0 := ⟨_, rfl⟩
  have HB := Lib.hid (show U9 W0 w.heap.size xv yv false by rw [← hW0]; exact has_alloc_new _ _)
  have HR := HB
  have HC := Lib.hid (show Chg [] w W0 by rw [← hW0]; exact (Chg.refl _ _).alloc _)
  obtain ⟨x0, x1, x2, x3⟩ := four4 fun _ => (HB.out).cx; obtain ⟨y0, y1, y2, y3⟩ := four4 fun _ => (HB.out).cy; have i0 := HB.out.ci
  go_enter Try.func14, Try.ntmps14
  go_wp2_with fail
  try rw [hW0]
  clear hW0
  obtain ⟨R, hP⟩ : ∃ P, w.heap.size = P := ⟨_, rfl⟩
  rw [hP] at HB HR i0 x0 y0 x1 y1 x2 y2 x3 y3 ⊢
  replace hP := Lib.hid hP
  clear x0 y0 x1 y1 x2 y2 x3 y3 i0
  refine (HBase.out _).mono ?_
  rintro e w1 ⟨rfl, hC1⟩
  replace HB := Lib.hid (HB.out.chg hC1 nmN)
  replace HR := Lib.hid (HR.out.chg hC1 nmN)
  replace HC := Lib.hid (HC.out.trans hC1)
  clear hC1
  obtain ⟨W1, hW1⟩ : ∃ W1, w1.alloc (.cells #[.int .u64 (lm PP 0 : Nat), .int .u64 (lm PP 1 : Nat), .int .u64 (lm PP 2 : Nat), .int .u64 (lm PP 3 : Nat), .int .u64 (lm cP 0 : Nat), .int .u64 (lm cP 1 : Nat), .int .u64 (lm cP 2 : Nat), .int .u64 (lm cP 3 : Nat)] 76) = W1 := ⟨_, rfl⟩
  have hA : Chg [] w1 W1 := by rw [← hW1]; exact (Chg.refl _ _).alloc _
  have hN : UD W1 w1.heap.size PP cP := by rw [← hW1]; exact has_alloc_new _ _
  obtain ⟨bD, hb⟩ : ∃ b, w1.heap.size = b := ⟨_, rfl⟩
  have lD : R < bD := by rw [← hb]; exact HR.out.lt
  rw [hb] at hN
  replace HB := Lib.hid (HB.out.chg hA nmN)
  replace HR := Lib.hid (HR.out.chg hA nmN)
  replace HC := Lib.hid (HC.out.trans hA)
  have HD := Lib.hid hN
  go_upto_region 4 with fail
  try rw [hW1]
  try rw [hb]
  clear hW1 hb hA hN
  obtain ⟨D0, D1, D2, D3⟩ := four4 fun _ => (HD.out).cm; obtain ⟨D4, D5, D6, D7⟩ := four4 fun _ => (HD.out).cc
  obtain ⟨x0, x1, x2, x3⟩ := four4 fun _ => (HB.out).cx; obtain ⟨y0, y1, y2, y3⟩ := four4 fun _ => (HB.out).cy
  refine abs_region (B := Chg [] W1) (S := Chg [] W1) (by kernel_rfl) ((Chg.refl _ _).drew) ?_
  have hG := good_chg [] W1
  refine Abs.take_np (i := 0) (d := some 15) (v := ?_) rfl rfl (by kernel_rfl) (by kernel_rfl) (by kernel_rfl) hG ⟨by rfl, fun w9 hw9 => Or.inl ?_⟩ ?_
  rotate_left
  · replace D0 := hw9.cell D0 nmN; replace D1 := hw9.cell D1 nmN; replace D2 := hw9.cell D2 nmN; replace D3 := hw9.cell D3 nmN; replace D4 := hw9.cell D4 nmN; replace D5 := hw9.cell D5 nmN; replace D6 := hw9.cell D6 nmN; replace D7 := hw9.cell D7 nmN
    go_simp
    try with_reducible rfl
  simp only [Act.put, stA, stB, stC]
  refine Abs.take_np (i := 1) (d := some 16) (v := ?_) rfl rfl (by kernel_rfl) (by kernel_rfl) (by kernel_rfl) hG ⟨by rfl, fun w9 hw9 => Or.inl ?_⟩ ?_
  rotate_left
  · go_simp
    try with_reducible rfl
  simp only [Act.put, stA, stB, stC]
  refine Abs.take_np (i := 2) (d := some 17) (v := ?_) rfl rfl (by kernel_rfl) (by kernel_rfl) (by kernel_rfl) hG ⟨by rfl, fun w9 hw9 => Or.inl ?_⟩ ?_
  rotate_left
  · replace x0 := hw9.cell x0 nmN; replace x1 := hw9.cell x1 nmN; replace x2 := hw9.cell x2 nmN; replace x3 := hw9.cell x3 nmN
    go_simp
    try with_reducible rfl
  simp only [Act.put, stA, stB, stC]
  refine Abs.take_np (i := 3) (d := some 18) (v := _) rfl rfl (by kernel_rfl) (by kernel_rfl) (by kernel_rfl) hG ⟨by rfl, fun w9 hw9 => Or.inr ⟨_, _, ?_, H1.out w9⟩⟩ ?_
  · go_simp
    try with_reducible rfl
  simp only [Act.put, stA, stB, stC]
  refine Abs.take_np (i := 4) (d := some 19) (v := ?_) rfl rfl (by kernel_rfl) (by kernel_rfl) (by kernel_rfl) hG ⟨by rfl, fun w9 hw9 => Or.inl ?_⟩ ?_
  rotate_left
  · go_simp
    try with_reducible rfl
  simp only [Act.put, stA, stB, stC]
  refine Abs.take_np (i := 5) (d := some 20) (v := ?_) rfl rfl (by kernel_rfl) (by kernel_rfl) (by kernel_rfl) hG ⟨by rfl, fun w9 hw9 => Or.inl ?_⟩ ?_
  rotate_left
  · replace D0 := hw9.cell D0 nmN; replace D1 := hw9.cell D1 nmN; replace D2 := hw9.cell D2 nmN; replace D3 := hw9.cell D3 nmN; replace D4 := hw9.cell D4 nmN; replace D5 := hw9.cell D5 nmN; replace D6 := hw9.cell D6 nmN; replace D7 := hw9.cell D7 nmN
    go_simp
    try with_reducible rfl
  simp only [Act.put, stA, stB, stC]
  refine Abs.take_np (i := 6) (d := some 21) (v := ?_) rfl rfl (by kernel_rfl) (by kernel_rfl) (by kernel_rfl) hG ⟨by rfl, fun w9 hw9 => Or.inl ?_⟩ ?_
  rotate_left
  · go_simp
    try with_reducible rfl
  simp only [Act.put, stA, stB, stC]
  refine Abs.take_np (i := 7) (d := some 22) (v := ?_) rfl rfl (by kernel_rfl) (by kernel_rfl) (by kernel_rfl) hG ⟨by rfl, fun w9 hw9 => Or.inl ?_⟩ ?_
  rotate_left
  · replace y0 := hw9.cell y0 nmN; replace y1 := hw9.cell y1 nmN; replace y2 := hw9.cell y2 nmN; replace y3 := hw9.cell y3 nmN
    go_simp
    try with_reducible rfl
  simp only [Act.put, stA, stB, stC]
  refine Abs.take_np (i := 8) (d := some 23) (v := _) rfl rfl (by kernel_rfl) (by kernel_rfl) (by kernel_rfl) hG ⟨by rfl, fun w9 hw9 => Or.inr ⟨_, _, ?_, H2.out w9⟩⟩ ?_
  · go_simp
    try with_reducible rfl
  simp only [Act.put, stA, stB, stC]
  refine Abs.take_np (i := 9) (d := some 24) (v := ?_) rfl rfl (by kernel_rfl) (by kernel_rfl) (by kernel_rfl) hG ⟨by rfl, fun w9 hw9 => Or.inl ?_⟩ ?_
  rotate_left
  · go_simp
    try with_reducible rfl
  simp only [Act.put, stA, stB, stC]
  refine Abs.take_np (i := 10) (d := some 25) (v := ?_) rfl rfl (by kernel_rfl) (by kernel_rfl) (by kernel_rfl) hG ⟨by rfl, fun w9 hw9 => Or.inl ?_⟩ ?_
  rotate_left
  · go_simp
    try with_reducible rfl
  simp only [Act.put, stA, stB, stC]
  refine Abs.take_np (i := 11) (d := some 26) (v := ?_) rfl rfl (by kernel_rfl) (by kernel_rfl) (by kernel_rfl) hG ⟨by rfl, fun w9 hw9 => Or.inl ?_⟩ ?_
  rotate_left
  · replace D0 := hw9.cell D0 nmN; replace D1 := hw9.cell D1 nmN; replace D2 := hw9.cell D2 nmN; replace D3 := hw9.cell D3 nmN; replace D4 := hw9.cell D4 nmN; replace D5 := hw9.cell D5 nmN; replace D6 := hw9.cell D6 nmN; replace D7 := hw9.cell D7 nmN
    go_simp
    try with_reducible rfl
  simp only [Act.put, stA, stB, stC]
  refine Abs.take_np (i := 12) (d := some 27) (v := ?_) rfl rfl (by kernel_rfl) (by kernel_rfl) (by kernel_rfl) hG ⟨by rfl, fun w9 hw9 => Or.inl ?_⟩ ?_
  rotate_left
  · go_simp
    try with_reducible rfl
  simp only [Act.put, stA, stB, stC]
  refine Abs.take_np (i := 13) (d := some 28) (v := ?_) rfl rfl (by kernel_rfl) (by kernel_rfl) (by kernel_rfl) hG ⟨by rfl, fun w9 hw9 => Or.inl ?_⟩ ?_
  rotate_left
  · replace y0 := hw9.cell y0 nmN; replace y1 := hw9.cell y1 nmN; replace y2 := hw9.cell y2 nmN; replace y3 := hw9.cell y3 nmN
    go_simp
    try with_reducible rfl
  simp only [Act.put, stA, stB, stC]
  refine Abs.take_np (i := 14) (d := some 29) (v := ?_) rfl rfl (by kernel_rfl) (by kernel_rfl) (by kernel_rfl) hG ⟨by rfl, fun w9 hw9 => Or.inl ?_⟩ ?_
  rotate_left
  · go_simp
    try with_reducible rfl
  simp only [Act.put, stA, stB, stC]
  refine Abs.take_np (i := 15) (d := some 30) (v := ?_) rfl rfl (by kernel_rfl) (by kernel_rfl) (by kernel_rfl) hG ⟨by rfl, fun w9 hw9 => Or.inl ?_⟩ ?_
  rotate_left
  · replace y0 := hw9.cell y0 nmN; replace y1 := hw9.cell y1 nmN; replace y2 := hw9.cell y2 nmN; replace y3 := hw9.cell y3 nmN
    go_simp
    try with_reducible rfl
  simp only [Act.put, stA, stB, stC]
  refine Abs.take_np (i := 16) (d := some 31) (v := _) rfl rfl (by kernel_rfl) (by kernel_rfl) (by kernel_rfl) hG ⟨by rfl, fun w9 hw9 => Or.inr ⟨_, _, ?_, C2.out w9⟩⟩ ?_
  · go_simp
    try with_reducible rfl
  simp only [Act.put, stA, stB, stC]
  refine Abs.take_np (i := 17) (d := some 32) (v := ?_) rfl rfl (by kernel_rfl) (by kernel_rfl) (by kernel_rfl) hG ⟨by rfl, fun w9 hw9 => Or.inl ?_⟩ ?_
  rotate_left
  · go_simp
    try with_reducible rfl
  simp only [Act.put, stA, stB, stC]
  refine Abs.take_np (i := 18) (d := some 33) (v := ?_) rfl rfl (by kernel_rfl) (by kernel_rfl) (by kernel_rfl) hG ⟨by rfl, fun w9 hw9 => Or.inl ?_⟩ ?_
  rotate_left
  · replace x0 := hw9.cell x0 nmN; replace x1 := hw9.cell x1 nmN; replace x2 := hw9.cell x2 nmN; replace x3 := hw9.cell x3 nmN
    go_simp
    try with_reducible rfl
  simp only [Act.put, stA, stB, stC]
  refine Abs.take_np (i := 19) (d := some 34) (v := _) rfl rfl (by kernel_rfl) (by kernel_rfl) (by kernel_rfl) hG ⟨by rfl, fun w9 hw9 => Or.inr ⟨_, _, ?_, CC.out w9⟩⟩ ?_
  · go_simp
    try with_reducible rfl
  simp only [Act.put, stA, stB, stC]
  refine Abs.take_np (i := 20) (d := some 35) (v := ?_) rfl rfl (by kernel_rfl) (by kernel_rfl) (by kernel_rfl) hG ⟨by rfl, fun w9 hw9 => Or.inl ?_⟩ ?_
  rotate_left
  · go_simp
    try with_reducible rfl
  simp only [Act.put, stA, stB, stC]
  refine Abs.take_np (i := 21) (d := some 36) (v := ?_) rfl rfl (by kernel_rfl) (by kernel_rfl) (by kernel_rfl) hG ⟨by rfl, fun w9 hw9 => Or.inl ?_⟩ ?_
  rotate_left
  · go_simp
    try with_reducible rfl
  simp only [Act.put, stA, stB, stC]
  refine Abs.take_np (i := 22) (d := some 2) (v := ?_) rfl rfl (by kernel_rfl) (by kernel_rfl) (by kernel_rfl) hG ⟨by rfl, fun w9 hw9 => Or.inl ?_⟩ ?_
  rotate_left
  · go_simp
    try with_reducible rfl
  simp only [Act.put, stA, stB, stC]
  refine Abs.done (by kernel_rfl) (fun wx hx => NoPanic.normal ?_) _
  clear x0 y0 x1 y1 x2 y2 x3 y3 D0 D1 D2 D3 D4 D5 D6 D7
  replace HB := Lib.hid (HB.out.chg hx nmN)
  replace HR := Lib.hid (HR.out.chg hx nmN)
  replace HC := Lib.hid (HC.out.trans hx)
  replace HD := Lib.hid (HD.out.chg hx nmN)
  clear hx
  go_wp2_with fail
  go_ret
  exact ⟨rfl, HC.out⟩

theorem is_ok {P : Pc} (hP : P.on 7) (w : World) : Calls Try.prog 14 #[.agg (pv (ofP P))] w fun e w' => e = .returned (.bool true) ∧ Chg [] w w' := by
  cases P with
  | inf => exact is_inf w
  | aff x y => exact is_on (on_cub hP) w
theorem is_bad {p : Pd} (h : Bad p) (w : World) : Calls Try.prog 14 #[.agg (pv p)] w fun e w' => e = .returned (.bool false) ∧ Chg [] w w' := by
  obtain ⟨x, y, i⟩ := p
  obtain ⟨hx4, hy4, hb⟩ := h
  cases i with
  | true =>
    by_cases hx : x = 0
    · by_cases hy : y = 0
      · subst hx; subst hy
        exact absurd ⟨.inf, trivial, rfl⟩ hb
      · exact is_inf_y hx4 hy4 hx hy w
    · exact is_inf_x hx4 hx w
  | false =>
    by_cases hx : x < PP
    · by_cases hy : y < PP
      · by_cases he : (⟨y, hy⟩ : Fin PP) * ⟨y, hy⟩ = cub ⟨x, hx⟩
        · exact absurd ⟨.aff ⟨x, hx⟩ ⟨y, hy⟩, he, rfl⟩ hb
        · exact is_off he w
      · exact is_y hx4 hy4 hx hy w
    · exact is_x hx4 hx w

end Go.Proofs.Ytplldbmjdnikeaa
