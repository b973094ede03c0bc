import Derived.Test.YtplldbmjdnikeaaRe3
import Derived.Test.YtplldbmjdnikeaaAn
import Derived.Test.YtplldbmjdnikeaaRefK

/- The document's points: the walks of wardmoteref03.cubic, Is. Printed by refl.py. -/
namespace Go.Proofs.Ytplldbmjdnikeaa
set_option linter.unusedVariables false
set_option linter.unusedSimpArgs false
open Go.RowKit

set_option maxRecDepth 100000 in
set_option maxHeartbeats 8000000 in
theorem ref_cubic {x : Fin PP} {xv t : Nat} (hx : x.val = xv) (ht : (cub x).val = t) (w : World) : Calls Try.prog 43 #[.agg #[.int .u64 (lm xv 0 : Nat), .int .u64 (lm xv 1 : Nat), .int .u64 (lm xv 2 : Nat), .int .u64 (lm xv 3 : Nat)]] w fun e w' => e = .returned (.agg #[.int .u64 (lm t 0 : Nat), .int .u64 (lm t 1 : Nat), .int .u64 (lm t 2 : Nat), .int .u64 (lm t 3 : Nat)]) ∧ Chg [] w w' := by
  obtain ⟨e2, he2⟩ : ∃ e, x * x = e := ⟨_, rfl⟩
  obtain ⟨v2, hv2⟩ : ∃ v, e2.val = v := ⟨_, rfl⟩
  obtain ⟨e3, he3⟩ : ∃ e, e2 * x = e := ⟨_, rfl⟩
  obtain ⟨v3, hv3⟩ : ∃ v, e3.val = v := ⟨_, rfl⟩
  have h7 : (7 : Fin PP).val = 7 := by decide +kernel
  have C2 := Lib.hid (fun w => rp_mul (t := v2) hx hx (by rw [he2]; exact hv2) w)
  have C3 := Lib.hid (fun w => rp_mul (t := v3) hv2 hx (by rw [he3]; exact hv3) w)
  have hc := fun w => rp_add (t := t) (x := e3) (y := 7) hv3 h7 (by rw [← he3, ← he2]; exact ht) w
  rw [l4_seven] at hc
  have C4 := Lib.hid hc
  have HBase := Lib.hid rp_base
  clear hc h7 he2 he3 hv2 hv3 hx ht
  obtain ⟨W0, hW0⟩ : ∃ W0, (w.alloc (.cells #[.int .u64 (lm xv 0 : Nat), .int .u64 (lm xv 1 : Nat), .int .u64 (lm xv 2 : Nat), .int .u64 (lm xv 3 : Nat)] 24)).alloc (.cells #[.int .u64 0, .int .u64 0, .int .u64 0, .int .u64 0] 24) = W0 := ⟨_, rfl⟩
  have HX := Lib.hid (show U4 W0 w.heap.size 24 (lm xv) by rw [← hW0]; exact has_alloc (has_alloc_new _ _))
  have HR := Lib.hid (show U4 W0 (w.heap.size + 1) 24 (fun _ => 0) by rw [← hW0]; exact has_alloc_at (by simp))
  have HC := Lib.hid (show Chg [] w W0 by rw [← hW0]; exact ((Chg.refl _ _).alloc _).alloc _)
  go_enter Try.func43, Try.ntmps43
  go_wp2_with fail
  try rw [hW0]
  clear hW0
  obtain ⟨P, hP⟩ : ∃ P, w.heap.size = P := ⟨_, rfl⟩
  rw [hP] at HX HR ⊢
  obtain ⟨R, hR⟩ : ∃ R, P + 1 = R := ⟨_, rfl⟩
  rw [hR] at HR ⊢
  have hRP : P < R := by omega
  replace hR := Lib.hid hR
  replace hP := Lib.hid hP
  refine (HBase.out _).mono ?_
  rintro e w1 ⟨rfl, hC1⟩
  replace HX := Lib.hid (HX.out.chg hC1 nmN)
  replace HR := Lib.hid (HR.out.chg hC1 nmN)
  replace HC := Lib.hid (HC.out.trans hC1)
  clear hC1
  obtain ⟨W1, hW1⟩ : ∃ W1, w1.alloc (.cells #[.int .u64 (lm PP 0 : Nat), .int .u64 (lm PP 1 : Nat), .int .u64 (lm PP 2 : Nat), .int .u64 (lm PP 3 : Nat), .int .u64 (lm cP 0 : Nat), .int .u64 (lm cP 1 : Nat), .int .u64 (lm cP 2 : Nat), .int .u64 (lm cP 3 : Nat)] 76) = W1 := ⟨_, rfl⟩
  have hA : Chg [] w1 W1 := by rw [← hW1]; exact (Chg.refl _ _).alloc _
  have hN : UD W1 w1.heap.size PP cP := by rw [← hW1]; exact has_alloc_new _ _
  obtain ⟨bD, hb⟩ : ∃ b, w1.heap.size = b := ⟨_, rfl⟩
  have lD : R < bD := by rw [← hb]; exact HR.out.lt
  rw [hb] at hN
  replace HX := Lib.hid (HX.out.chg hA nmN)
  replace HR := Lib.hid (HR.out.chg hA nmN)
  replace HC := Lib.hid (HC.out.trans hA)
  have HD := Lib.hid hN
  go_upto_region 2 with fail
  try rw [hW1]
  try rw [hb]
  clear hW1 hb hA hN
  obtain ⟨D0, D1, D2, D3⟩ := four4 fun _ => (HD.out).cm; obtain ⟨D4, D5, D6, D7⟩ := four4 fun _ => (HD.out).cc
  obtain ⟨x0, x1, x2, x3⟩ := four4 fun _ => (HX.out).cell
  have hRz := HR.out.z
  refine abs_region (B := Chg [R] W1) (S := fun w => Chg [R] W1 w ∧ w.heap[R]? = some (.cells #[.int .u64 0, .int .u64 0, .int .u64 0, .int .u64 0] 24 (0, 0))) (by kernel_rfl) ⟨(Chg.refl _ _).drew, hRz⟩ ?_
  have hG := good_at [R] W1 R (.cells #[.int .u64 0, .int .u64 0, .int .u64 0, .int .u64 0] 24 (0, 0))
  refine Abs.take_np (i := 0) (d := some 5) (v := ?_) rfl rfl (by kernel_rfl) (by kernel_rfl) (by kernel_rfl) hG ⟨by rfl, fun w9 hw9 => Or.inl ?_⟩ ?_
  rotate_left
  · replace D0 := hw9.cell D0 (by simp; omega); replace D1 := hw9.cell D1 (by simp; omega); replace D2 := hw9.cell D2 (by simp; omega); replace D3 := hw9.cell D3 (by simp; omega); replace D4 := hw9.cell D4 (by simp; omega); replace D5 := hw9.cell D5 (by simp; omega); replace D6 := hw9.cell D6 (by simp; omega); replace D7 := hw9.cell D7 (by simp; omega)
    go_simp
    try with_reducible rfl
  simp only [Act.put, stA, stB, stC]
  refine Abs.take_np (i := 1) (d := some 6) (v := ?_) rfl rfl (by kernel_rfl) (by kernel_rfl) (by kernel_rfl) hG ⟨by rfl, fun w9 hw9 => Or.inl ?_⟩ ?_
  rotate_left
  · replace D0 := hw9.cell D0 (by simp; omega); replace D1 := hw9.cell D1 (by simp; omega); replace D2 := hw9.cell D2 (by simp; omega); replace D3 := hw9.cell D3 (by simp; omega); replace D4 := hw9.cell D4 (by simp; omega); replace D5 := hw9.cell D5 (by simp; omega); replace D6 := hw9.cell D6 (by simp; omega); replace D7 := hw9.cell D7 (by simp; omega)
    go_simp
    try with_reducible rfl
  simp only [Act.put, stA, stB, stC]
  refine Abs.take_np (i := 2) (d := some 7) (v := ?_) rfl rfl (by kernel_rfl) (by kernel_rfl) (by kernel_rfl) hG ⟨by rfl, fun w9 hw9 => Or.inl ?_⟩ ?_
  rotate_left
  · replace D0 := hw9.cell D0 (by simp; omega); replace D1 := hw9.cell D1 (by simp; omega); replace D2 := hw9.cell D2 (by simp; omega); replace D3 := hw9.cell D3 (by simp; omega); replace D4 := hw9.cell D4 (by simp; omega); replace D5 := hw9.cell D5 (by simp; omega); replace D6 := hw9.cell D6 (by simp; omega); replace D7 := hw9.cell D7 (by simp; omega)
    go_simp
    try with_reducible rfl
  simp only [Act.put, stA, stB, stC]
  refine Abs.take_np (i := 3) (d := some 8) (v := ?_) rfl rfl (by kernel_rfl) (by kernel_rfl) (by kernel_rfl) hG ⟨by rfl, fun w9 hw9 => Or.inl ?_⟩ ?_
  rotate_left
  · replace x0 := hw9.cell x0 (by simp; omega); replace x1 := hw9.cell x1 (by simp; omega); replace x2 := hw9.cell x2 (by simp; omega); replace x3 := hw9.cell x3 (by simp; omega)
    go_simp
    try with_reducible rfl
  simp only [Act.put, stA, stB, stC]
  refine Abs.take_np (i := 4) (d := some 9) (v := ?_) rfl rfl (by kernel_rfl) (by kernel_rfl) (by kernel_rfl) hG ⟨by rfl, fun w9 hw9 => Or.inl ?_⟩ ?_
  rotate_left
  · replace x0 := hw9.cell x0 (by simp; omega); replace x1 := hw9.cell x1 (by simp; omega); replace x2 := hw9.cell x2 (by simp; omega); replace x3 := hw9.cell x3 (by simp; omega)
    go_simp
    try with_reducible rfl
  simp only [Act.put, stA, stB, stC]
  refine Abs.take_np (i := 5) (d := some 10) (v := _) rfl rfl (by kernel_rfl) (by kernel_rfl) (by kernel_rfl) hG ⟨by rfl, fun w9 hw9 => Or.inr ⟨_, _, ?_, C2.out w9⟩⟩ ?_
  · go_simp
    try with_reducible rfl
  simp only [Act.put, stA, stB, stC]
  refine Abs.take_np (i := 6) (d := some 11) (v := ?_) rfl rfl (by kernel_rfl) (by kernel_rfl) (by kernel_rfl) hG ⟨by rfl, fun w9 hw9 => Or.inl ?_⟩ ?_
  rotate_left
  · replace x0 := hw9.cell x0 (by simp; omega); replace x1 := hw9.cell x1 (by simp; omega); replace x2 := hw9.cell x2 (by simp; omega); replace x3 := hw9.cell x3 (by simp; omega)
    go_simp
    try with_reducible rfl
  simp only [Act.put, stA, stB, stC]
  refine Abs.take_np (i := 7) (d := some 12) (v := _) rfl rfl (by kernel_rfl) (by kernel_rfl) (by kernel_rfl) hG ⟨by rfl, fun w9 hw9 => Or.inr ⟨_, _, ?_, C3.out w9⟩⟩ ?_
  · go_simp
    try with_reducible rfl
  simp only [Act.put, stA, stB, stC]
  refine Abs.take_np (i := 8) (d := some 13) (v := ?_) rfl rfl (by kernel_rfl) (by kernel_rfl) (by kernel_rfl) hG ⟨by rfl, fun w9 hw9 => Or.inl ?_⟩ ?_
  rotate_left
  · go_simp
    try with_reducible rfl
  simp only [Act.put, stA, stB, stC]
  refine Abs.take_np (i := 9) (d := some 14) (v := _) rfl rfl (by kernel_rfl) (by kernel_rfl) (by kernel_rfl) hG ⟨by rfl, fun w9 hw9 => Or.inr ⟨_, _, ?_, C4.out w9⟩⟩ ?_
  · go_simp
    try with_reducible rfl
  simp only [Act.put, stA, stB, stC]
  refine Abs.store4 (i := 10) (b := R) (ds := #[.int .u64 (lm t 0 : Nat), .int .u64 (lm t 1 : Nat), .int .u64 (lm t 2 : Nat), .int .u64 (lm t 3 : Nat)]) rfl (by kernel_rfl) (by rfl) (fun w9 => (((w9.setCell ⟨R, 0, none⟩ (.int .u64 (lm t 0 : Nat))).setCell ⟨R, 1, none⟩ (.int .u64 (lm t 1 : Nat))).setCell ⟨R, 2, none⟩ (.int .u64 (lm t 2 : Nat))).setCell ⟨R, 3, none⟩ (.int .u64 (lm t 3 : Nat))) (fun w9 h9 => ⟨?_, ?_, ?_⟩) (fun _ _ h k => Chg.keeps (Or.inl (by simp)) h k) (good_chg [R] W1) (fun hG => ?_)
  · have n0 := cell_of_has h9 0; have n1 := cell_of_has h9 1; have n2 := cell_of_has h9 2; have n3 := cell_of_has h9 3
    simp only [glA, glB, glC] at n0 n1 n2 n3
    have z0 := frozen_of_has h9 0; have z1 := frozen_of_has h9 1; have z2 := frozen_of_has h9 2; have z3 := frozen_of_has h9 3
    clear h9
    go_simp
    try with_reducible rfl
  · exact U4.put_x (x := fun _ => 0) h9 t
  · exact Chg.put_x (Chg.refl _ _) (Or.inl (by simp)) t
  refine Abs.at_put (d := none) rfl ?_
  simp only [Act.put, stA, stB, stC]
  refine Abs.done (by kernel_rfl) (fun wx hx => NoPanic.normal ?_) _
  obtain ⟨hA, hN⟩ := hx
  have hCF : Chg [] w wx := HC.out.trans_new hA (by simp; have := hP.out; omega)
  have g0 := cell_of_has hN 0; have g1 := cell_of_has hN 1; have g2 := cell_of_has hN 2; have g3 := cell_of_has hN 3
  simp only [glA, glB, glC] at g0 g1 g2 g3
  go_wp2_with fail
  exact bodyPost_ret (v := .agg #[.int .u64 (lm t 0 : Nat), .int .u64 (lm t 1 : Nat), .int .u64 (lm t 2 : Nat), .int .u64 (lm t 3 : Nat)]) (by simp [results, Try.results43, go_sem, g0, g1, g2, g3]) rfl ⟨rfl, hCF⟩

set_option maxRecDepth 100000 in
set_option maxHeartbeats 8000000 in
theorem is_inf   (w : World) : Calls Try.prog 14 #[.agg #[.int .u64 (lm 0 0 : Nat), .int .u64 (lm 0 1 : Nat), .int .u64 (lm 0 2 : Nat), .int .u64 (lm 0 3 : Nat), .int .u64 (lm 0 0 : Nat), .int .u64 (lm 0 1 : Nat), .int .u64 (lm 0 2 : Nat), .int .u64 (lm 0 3 : Nat), .bool true]] w fun e w' => e = .returned (.bool true) ∧ Chg [] w w' := by
  have hx4 : (0 : Nat) < B6 ^ 4 := by decide
  have z1 := fun w => ref_zero (a := 0) hx4 w
  rw [show decide ((0 : Nat) = 0) = true by decide] at z1
  have Z1 := Lib.hid z1; have Z2 := Z1
  clear z1 hx4
  obtain ⟨W0, hW0⟩ : ∃ W0, w.alloc (.cells #[.int .u64 (lm 0 0 : Nat), .int .u64 (lm 0 1 : Nat), .int .u64 (lm 0 2 : Nat), .int .u64 (lm 0 3 : Nat), .int .u64 (lm 0 0 : Nat), .int .u64 (lm 0 1 : Nat), .int .u64 (lm 0 2 : Nat), .int .u64 (lm 0 3 : Nat), .bool true] 26) = W0 := ⟨_, rfl⟩
  have HB := Lib.hid (show U9 W0 w.heap.size 0 0 true by rw [← hW0]; exact has_alloc_new _ _)
  have HR := HB
  have HC := Lib.hid (show Chg [] w W0 by rw [← hW0]; exact (Chg.refl _ _).alloc _)
  obtain ⟨x0, x1, x2, x3⟩ := four4 fun _ => (HB.out).cx; obtain ⟨y0, y1, y2, y3⟩ := four4 fun _ => (HB.out).cy; have i0 := HB.out.ci
  go_enter Try.func14, Try.ntmps14
  go_wp2_with fail
  try rw [hW0]
  clear hW0
  obtain ⟨R, hP⟩ : ∃ P, w.heap.size = P := ⟨_, rfl⟩
  rw [hP] at HB HR i0 x0 y0 x1 y1 x2 y2 x3 y3 ⊢
  replace hP := Lib.hid hP
  refine (Z1.out _).mono ?_
  rintro e w1 ⟨rfl, hC1⟩
  clear x0 y0 x1 y1 x2 y2 x3 y3 i0
  replace HB := Lib.hid (HB.out.chg hC1 nmN)
  replace HR := Lib.hid (HR.out.chg hC1 nmN)
  replace HC := Lib.hid (HC.out.trans hC1)
  clear hC1
  obtain ⟨x0, x1, x2, x3⟩ := four4 fun _ => (HB.out).cx; obtain ⟨y0, y1, y2, y3⟩ := four4 fun _ => (HB.out).cy; have i0 := HB.out.ci
  go_wp2_with fail
  refine (Z2.out _).mono ?_
  rintro e w1 ⟨rfl, hC1⟩
  clear x0 y0 x1 y1 x2 y2 x3 y3 i0
  replace HB := Lib.hid (HB.out.chg hC1 nmN)
  replace HR := Lib.hid (HR.out.chg hC1 nmN)
  replace HC := Lib.hid (HC.out.trans hC1)
  clear hC1
  obtain ⟨x0, x1, x2, x3⟩ := four4 fun _ => (HB.out).cx; obtain ⟨y0, y1, y2, y3⟩ := four4 fun _ => (HB.out).cy; have i0 := HB.out.ci
  go_wp2_with fail
  go_ret
  exact ⟨rfl, HC.out⟩

set_option maxRecDepth 100000 in
set_option maxHeartbeats 8000000 in
theorem is_inf_x {x y : Nat} (hx4 : x < B6 ^ 4) (hx : x ≠ 0) (w : World) : Calls Try.prog 14 #[.agg #[.int .u64 (lm x 0 : Nat), .int .u64 (lm x 1 : Nat), .int .u64 (lm x 2 : Nat), .int .u64 (lm x 3 : Nat), .int .u64 (lm y 0 : Nat), .int .u64 (lm y 1 : Nat), .int .u64 (lm y 2 : Nat), .int .u64 (lm y 3 : Nat), .bool true]] w fun e w' => e = .returned (.bool false) ∧ Chg [] w w' := by
  have z1 := fun w => ref_zero (a := x) hx4 w
  rw [show decide (x = 0) = false by simpa using hx] at z1
  have Z1 := Lib.hid z1
  clear z1
  clear hx hx4
  obtain ⟨W0, hW0⟩ : ∃ W0, w.alloc (.cells #[.int .u64 (lm x 0 : Nat), .int .u64 (lm x 1 : Nat), .int .u64 (lm x 2 : Nat), .int .u64 (lm x 3 : Nat), .int .u64 (lm y 0 : Nat), .int .u64 (lm y 1 : Nat), .int .u64 (lm y 2 : Nat), .int .u64 (lm y 3 : Nat), .bool true] 26) = W0 := ⟨_, rfl⟩
  have HB := Lib.hid (show U9 W0 w.heap.size x y true by rw [← hW0]; exact has_alloc_new _ _)
  have HR := HB
  have HC := Lib.hid (show Chg [] w W0 by rw [← hW0]; exact (Chg.refl _ _).alloc _)
  obtain ⟨x0, x1, x2, x3⟩ := four4 fun _ => (HB.out).cx; obtain ⟨y0, y1, y2, y3⟩ := four4 fun _ => (HB.out).cy; have i0 := HB.out.ci
  go_enter Try.func14, Try.ntmps14
  go_wp2_with fail
  try rw [hW0]
  clear hW0
  obtain ⟨R, hP⟩ : ∃ P, w.heap.size = P := ⟨_, rfl⟩
  rw [hP] at HB HR i0 x0 y0 x1 y1 x2 y2 x3 y3 ⊢
  replace hP := Lib.hid hP
  refine (Z1.out _).mono ?_
  rintro e w1 ⟨rfl, hC1⟩
  clear x0 y0 x1 y1 x2 y2 x3 y3 i0
  replace HB := Lib.hid (HB.out.chg hC1 nmN)
  replace HR := Lib.hid (HR.out.chg hC1 nmN)
  replace HC := Lib.hid (HC.out.trans hC1)
  clear hC1
  obtain ⟨x0, x1, x2, x3⟩ := four4 fun _ => (HB.out).cx; obtain ⟨y0, y1, y2, y3⟩ := four4 fun _ => (HB.out).cy; have i0 := HB.out.ci
  go_wp2_with fail
  go_ret
  exact ⟨rfl, HC.out⟩

set_option maxRecDepth 100000 in
set_option maxHeartbeats 8000000 in
theorem is_inf_y {x y : Nat} (hx4 : x < B6 ^ 4) (hy4 : y < B6 ^ 4) (hx : x = 0) (hy : y ≠ 0) (w : World) : Calls Try.prog 14 #[.agg #[.int .u64 (lm x 0 : Nat), .int .u64 (lm x 1 : Nat), .int .u64 (lm x 2 : Nat), .int .u64 (lm x 3 : Nat), .int .u64 (lm y 0 : Nat), .int .u64 (lm y 1 : Nat), .int .u64 (lm y 2 : Nat), .int .u64 (lm y 3 : Nat), .bool true]] w fun e w' => e = .returned (.bool false) ∧ Chg [] w w' := by
  have z1 := fun w => ref_zero (a := x) hx4 w
  rw [show decide (x = 0) = true by simpa using hx] at z1
  have Z1 := Lib.hid z1
  clear z1
  have z2 := fun w => ref_zero (a := y) hy4 w
  rw [show decide (y = 0) = false by simpa using hy] at z2
  have Z2 := Lib.hid z2
  clear z2
  clear hx hx4 hy hy4
  obtain ⟨W0, hW0⟩ : ∃ W0, w.alloc (.cells #[.int .u64 (lm x 0 : Nat), .int .u64 (lm x 1 : Nat), .int .u64 (lm x 2 : Nat), .int .u64 (lm x 3 : Nat), .int .u64 (lm y 0 : Nat), .int .u64 (lm y 1 : Nat), .int .u64 (lm y 2 : Nat), .int .u64 (lm y 3 : Nat), .bool true] 26) = W0 := ⟨_, rfl⟩
  have HB := Lib.hid (show U9 W0 w.heap.size x y true by rw [← hW0]; exact has_alloc_new _ _)
  have HR := HB
  have HC := Lib.hid (show Chg [] w W0 by rw [← hW0]; exact (Chg.refl _ _).alloc _)
  obtain ⟨x0, x1, x2, x3⟩ := four4 fun _ => (HB.out).cx; obtain ⟨y0, y1, y2, y3⟩ := four4 fun _ => (HB.out).cy; have i0 := HB.out.ci
  go_enter Try.func14, Try.ntmps14
  go_wp2_with fail
  try rw [hW0]
  clear hW0
  obtain ⟨R, hP⟩ : ∃ P, w.heap.size = P := ⟨_, rfl⟩
  rw [hP] at HB HR i0 x0 y0 x1 y1 x2 y2 x3 y3 ⊢
  replace hP := Lib.hid hP
  refine (Z1.out _).mono ?_
  rintro e w1 ⟨rfl, hC1⟩
  clear x0 y0 x1 y1 x2 y2 x3 y3 i0
  replace HB := Lib.hid (HB.out.chg hC1 nmN)
  replace HR := Lib.hid (HR.out.chg hC1 nmN)
  replace HC := Lib.hid (HC.out.trans hC1)
  clear hC1
  obtain ⟨x0, x1, x2, x3⟩ := four4 fun _ => (HB.out).cx; obtain ⟨y0, y1, y2, y3⟩ := four4 fun _ => (HB.out).cy; have i0 := HB.out.ci
  go_wp2_with fail
  refine (Z2.out _).mono ?_
  rintro e w1 ⟨rfl, hC1⟩
  clear x0 y0 x1 y1 x2 y2 x3 y3 i0
  replace HB := Lib.hid (HB.out.chg hC1 nmN)
  replace HR := Lib.hid (HR.out.chg hC1 nmN)
  replace HC := Lib.hid (HC.out.trans hC1)
  clear hC1
  obtain ⟨x0, x1, x2, x3⟩ := four4 fun _ => (HB.out).cx; obtain ⟨y0, y1, y2, y3⟩ := four4 fun _ => (HB.out).cy; have i0 := HB.out.ci
  go_wp2_with fail
  go_ret
  exact ⟨rfl, HC.out⟩

set_option maxRecDepth 100000 in
set_option maxHeartbeats 8000000 in
theorem is_x {x y : Nat} (hx4 : x < B6 ^ 4) (hx : ¬ x < PP) (w : World) : Calls Try.prog 14 #[.agg #[.int .u64 (lm x 0 : Nat), .int .u64 (lm x 1 : Nat), .int .u64 (lm x 2 : Nat), .int .u64 (lm x 3 : Nat), .int .u64 (lm y 0 : Nat), .int .u64 (lm y 1 : Nat), .int .u64 (lm y 2 : Nat), .int .u64 (lm y 3 : Nat), .bool false]] w fun e w' => e = .returned (.bool false) ∧ Chg [] w w' := by
  have h1c := fun w => ref_has (c := cP) way_P.lt hx4 w
  rw [show decide (x < PP) = false by simpa using hx] at h1c
  unfold dcCells at h1c
  have H1 := Lib.hid h1c
  clear h1c
  have HBase := Lib.hid rp_base
  clear hx hx4
  obtain ⟨W0, hW0⟩ : ∃ W0, w.alloc (.cells #[.int .u64 (lm x 0 : Nat), .int .u64 (lm x 1 : Nat), .int .u64 (lm x 2 : Nat), .int .u64 (lm x 3 : Nat), .int .u64 (lm y 0 : Nat), .int .u64 (lm y 1 : Nat), .int .u64 (lm y 2 : Nat), .int .u64 (lm y 3 : Nat), .bool false] 26) = W0 := ⟨_, rfl⟩
  have HB := Lib.hid (show U9 W0 w.heap.size x y false by rw [← hW0]; exact has_alloc_new _ _)
  have HR := HB
  have HC := Lib.hid (show Chg [] w W0 by rw [← hW0]; exact (Chg.refl _ _).alloc _)
  obtain ⟨x0, x1, x2, x3⟩ := four4 fun _ => (HB.out).cx; obtain ⟨y0, y1, y2, y3⟩ := four4 fun _ => (HB.out).cy; have i0 := HB.out.ci
  go_enter Try.func14, Try.ntmps14
  go_wp2_with fail
  try rw [hW0]
  clear hW0
  obtain ⟨R, hP⟩ : ∃ P, w.heap.size = P := ⟨_, rfl⟩
  rw [hP] at HB HR i0 x0 y0 x1 y1 x2 y2 x3 y3 ⊢
  replace hP := Lib.hid hP
  clear x0 y0 x1 y1 x2 y2 x3 y3 i0
  refine (HBase.out _).mono ?_
  rintro e w1 ⟨rfl, hC1⟩
  replace HB := Lib.hid (HB.out.chg hC1 nmN)
  replace HR := Lib.hid (HR.out.chg hC1 nmN)
  replace HC := Lib.hid (HC.out.trans hC1)
  clear hC1
  obtain ⟨W1, hW1⟩ : ∃ W1, w1.alloc (.cells #[.int .u64 (lm PP 0 : Nat), .int .u64 (lm PP 1 : Nat), .int .u64 (lm PP 2 : Nat), .int .u64 (lm PP 3 : Nat), .int .u64 (lm cP 0 : Nat), .int .u64 (lm cP 1 : Nat), .int .u64 (lm cP 2 : Nat), .int .u64 (lm cP 3 : Nat)] 76) = W1 := ⟨_, rfl⟩
  have hA : Chg [] w1 W1 := by rw [← hW1]; exact (Chg.refl _ _).alloc _
  have hN : UD W1 w1.heap.size PP cP := by rw [← hW1]; exact has_alloc_new _ _
  obtain ⟨bD, hb⟩ : ∃ b, w1.heap.size = b := ⟨_, rfl⟩
  have lD : R < bD := by rw [← hb]; exact HR.out.lt
  rw [hb] at hN
  replace HB := Lib.hid (HB.out.chg hA nmN)
  replace HR := Lib.hid (HR.out.chg hA nmN)
  replace HC := Lib.hid (HC.out.trans hA)
  have HD := Lib.hid hN
  go_upto_region 4 with fail
  try rw [hW1]
  try rw [hb]
  clear hW1 hb hA hN
  obtain ⟨D0, D1, D2, D3⟩ := four4 fun _ => (HD.out).cm; obtain ⟨D4, D5, D6, D7⟩ := four4 fun _ => (HD.out).cc
  obtain ⟨x0, x1, x2, x3⟩ := four4 fun _ => (HB.out).cx; obtain ⟨y0, y1, y2, y3⟩ := four4 fun _ => (HB.out).cy
  refine abs_region (B := Chg [] W1) (S := Chg [] W1) (by kernel_rfl) ((Chg.refl _ _).drew) ?_
  have hG := good_chg [] W1
  refine Abs.take_np (i := 0) (d := some 15) (v := ?_) rfl rfl (by kernel_rfl) (by kernel_rfl) (by kernel_rfl) hG ⟨by rfl, fun w9 hw9 => Or.inl ?_⟩ ?_
  rotate_left
  · replace D0 := hw9.cell D0 nmN; replace D1 := hw9.cell D1 nmN; replace D2 := hw9.cell D2 nmN; replace D3 := hw9.cell D3 nmN; replace D4 := hw9.cell D4 nmN; replace D5 := hw9.cell D5 nmN; replace D6 := hw9.cell D6 nmN; replace D7 := hw9.cell D7 nmN
    go_simp
    try with_reducible rfl
  simp only [Act.put, stA, stB, stC]
  refine Abs.take_np (i := 1) (d := some 16) (v := ?_) rfl rfl (by kernel_rfl) (by kernel_rfl) (by kernel_rfl) hG ⟨by rfl, fun w9 hw9 => Or.inl ?_⟩ ?_
  rotate_left
  · go_simp
    try with_reducible rfl
  simp only [Act.put, stA, stB, stC]
  refine Abs.take_np (i := 2) (d := some 17) (v := ?_) rfl rfl (by kernel_rfl) (by kernel_rfl) (by kernel_rfl) hG ⟨by rfl, fun w9 hw9 => Or.inl ?_⟩ ?_
  rotate_left
  · replace x0 := hw9.cell x0 nmN; replace x1 := hw9.cell x1 nmN; replace x2 := hw9.cell x2 nmN; replace x3 := hw9.cell x3 nmN
    go_simp
    try with_reducible rfl
  simp only [Act.put, stA, stB, stC]
  refine Abs.take_np (i := 3) (d := some 18) (v := _) rfl rfl (by kernel_rfl) (by kernel_rfl) (by kernel_rfl) hG ⟨by rfl, fun w9 hw9 => Or.inr ⟨_, _, ?_, H1.out w9⟩⟩ ?_
  · go_simp
    try with_reducible rfl
  simp only [Act.put, stA, stB, stC]
  refine Abs.take_np (i := 4) (d := some 19) (v := ?_) rfl rfl (by kernel_rfl) (by kernel_rfl) (by kernel_rfl) hG ⟨by rfl, fun w9 hw9 => Or.inl ?_⟩ ?_
  rotate_left
  · go_simp
    try with_reducible rfl
  simp only [Act.put, stA, stB, stC]
  refine Abs.skip_np (i := 5) (d := some 20) rfl rfl (by kernel_rfl) (by kernel_rfl) (by kernel_rfl) hG (by rfl) ?_
  simp only [Act.put, stA, stB, stC]
  refine Abs.skip_np (i := 6) (d := some 21) rfl rfl (by kernel_rfl) (by kernel_rfl) (by kernel_rfl) hG (by rfl) ?_
  simp only [Act.put, stA, stB, stC]
  refine Abs.skip_np (i := 7) (d := some 22) rfl rfl (by kernel_rfl) (by kernel_rfl) (by kernel_rfl) hG (by rfl) ?_
  simp only [Act.put, stA, stB, stC]
  refine Abs.skip_np (i := 8) (d := some 23) rfl rfl (by kernel_rfl) (by kernel_rfl) (by kernel_rfl) hG (by rfl) ?_
  simp only [Act.put, stA, stB, stC]
  refine Abs.take_np (i := 9) (d := some 24) (v := ?_) rfl rfl (by kernel_rfl) (by kernel_rfl) (by kernel_rfl) hG ⟨by rfl, fun w9 hw9 => Or.inl ?_⟩ ?_
  rotate_left
  · go_simp
    try with_reducible rfl
  simp only [Act.put, stA, stB, stC]
  refine Abs.take_np (i := 10) (d := some 25) (v := ?_) rfl rfl (by kernel_rfl) (by kernel_rfl) (by kernel_rfl) hG ⟨by rfl, fun w9 hw9 => Or.inl ?_⟩ ?_
  rotate_left
  · go_simp
    try with_reducible rfl
  simp only [Act.put, stA, stB, stC]
  refine Abs.skip_np (i := 11) (d := some 26) rfl rfl (by kernel_rfl) (by kernel_rfl) (by kernel_rfl) hG (by rfl) ?_
  simp only [Act.put, stA, stB, stC]
  refine Abs.skip_np (i := 12) (d := some 27) rfl rfl (by kernel_rfl) (by kernel_rfl) (by kernel_rfl) hG (by rfl) ?_
  simp only [Act.put, stA, stB, stC]
  refine Abs.skip_np (i := 13) (d := some 28) rfl rfl (by kernel_rfl) (by kernel_rfl) (by kernel_rfl) hG (by rfl) ?_
  simp only [Act.put, stA, stB, stC]
  refine Abs.skip_np (i := 14) (d := some 29) rfl rfl (by kernel_rfl) (by kernel_rfl) (by kernel_rfl) hG (by rfl) ?_
  simp only [Act.put, stA, stB, stC]
  refine Abs.skip_np (i := 15) (d := some 30) rfl rfl (by kernel_rfl) (by kernel_rfl) (by kernel_rfl) hG (by rfl) ?_
  simp only [Act.put, stA, stB, stC]
  refine Abs.skip_np (i := 16) (d := some 31) rfl rfl (by kernel_rfl) (by kernel_rfl) (by kernel_rfl) hG (by rfl) ?_
  simp only [Act.put, stA, stB, stC]
  refine Abs.skip_np (i := 17) (d := some 32) rfl rfl (by kernel_rfl) (by kernel_rfl) (by kernel_rfl) hG (by rfl) ?_
  simp only [Act.put, stA, stB, stC]
  refine Abs.skip_np (i := 18) (d := some 33) rfl rfl (by kernel_rfl) (by kernel_rfl) (by kernel_rfl) hG (by rfl) ?_
  simp only [Act.put, stA, stB, stC]
  refine Abs.skip_np (i := 19) (d := some 34) rfl rfl (by kernel_rfl) (by kernel_rfl) (by kernel_rfl) hG (by rfl) ?_
  simp only [Act.put, stA, stB, stC]
  refine Abs.skip_np (i := 20) (d := some 35) rfl rfl (by kernel_rfl) (by kernel_rfl) (by kernel_rfl) hG (by rfl) ?_
  simp only [Act.put, stA, stB, stC]
  refine Abs.take_np (i := 21) (d := some 36) (v := ?_) rfl rfl (by kernel_rfl) (by kernel_rfl) (by kernel_rfl) hG ⟨by rfl, fun w9 hw9 => Or.inl ?_⟩ ?_
  rotate_left
  · go_simp
    try with_reducible rfl
  simp only [Act.put, stA, stB, stC]
  refine Abs.take_np (i := 22) (d := some 2) (v := ?_) rfl rfl (by kernel_rfl) (by kernel_rfl) (by kernel_rfl) hG ⟨by rfl, fun w9 hw9 => Or.inl ?_⟩ ?_
  rotate_left
  · go_simp
    try with_reducible rfl
  simp only [Act.put, stA, stB, stC]
  refine Abs.done (by kernel_rfl) (fun wx hx => NoPanic.normal ?_) _
  clear x0 y0 x1 y1 x2 y2 x3 y3 D0 D1 D2 D3 D4 D5 D6 D7
  replace HB := Lib.hid (HB.out.chg hx nmN)
  replace HR := Lib.hid (HR.out.chg hx nmN)
  replace HC := Lib.hid (HC.out.trans hx)
  replace HD := Lib.hid (HD.out.chg hx nmN)
  clear hx
  go_wp2_with fail
  go_ret
  exact ⟨rfl, HC.out⟩

set_option maxRecDepth 100000 in
set_option maxHeartbeats 8000000 in
theorem is_y {x y : Nat} (hx4 : x < B6 ^ 4) (hy4 : y < B6 ^ 4) (hx : x < PP) (hy : ¬ y < PP) (w : World) : Calls Try.prog 14 #[.agg #[.int .u64 (lm x 0 : Nat), .int .u64 (lm x 1 : Nat), .int .u64 (lm x 2 : Nat), .int .u64 (lm x 3 : Nat), .int .u64 (lm y 0 : Nat), .int .u64 (lm y 1 : Nat), .int .u64 (lm y 2 : Nat), .int .u64 (lm y 3 : Nat), .bool false]] w fun e w' => e = .returned (.bool false) ∧ Chg [] w w' := by
  have h1c := fun w => ref_has (c := cP) way_P.lt hx4 w
  rw [show decide (x < PP) = true by simpa using hx] at h1c
  unfold dcCells at h1c
  have H1 := Lib.hid h1c
  clear h1c
  have h2c := fun w => ref_has (c := cP) way_P.lt hy4 w
  rw [show decide (y < PP) = false by simpa using hy] at h2c
  unfold dcCells at h2c
  have H2 := Lib.hid h2c
  clear h2c
  have HBase := Lib.hid rp_base
  clear hx hx4 hy hy4
  obtain ⟨W0, hW0⟩ : ∃ W0, w.alloc (.cells #[.int .u64 (lm x 0 : Nat), .int .u64 (lm x 1 : Nat), .int .u64 (lm x 2 : Nat), .int .u64 (lm x 3 : Nat), .int .u64 (lm y 0 : Nat), .int .u64 (lm y 1 : Nat), .int .u64 (lm y 2 : Nat), .int .u64 (lm y 3 : Nat), .bool false] 26) = W0 := ⟨_, rfl⟩
  have HB := Lib.hid (show U9 W0 w.heap.size x y false by rw [← hW0]; exact has_alloc_new _ _)
  have HR := HB
  have HC := Lib.hid (show Chg [] w W0 by rw [← hW0]; exact (Chg.refl _ _).alloc _)
  obtain ⟨x0, x1, x2, x3⟩ := four4 fun _ => (HB.out).cx; obtain ⟨y0, y1, y2, y3⟩ := four4 fun _ => (HB.out).cy; have i0 := HB.out.ci
  go_enter Try.func14, Try.ntmps14
  go_wp2_with fail
  try rw [hW0]
  clear hW0
  obtain ⟨R, hP⟩ : ∃ P, w.heap.size = P := ⟨_, rfl⟩
  rw [hP] at HB HR i0 x0 y0 x1 y1 x2 y2 x3 y3 ⊢
  replace hP := Lib.hid hP
  clear x0 y0 x1 y1 x2 y2 x3 y3 i0
  refine (HBase.out _).mono ?_
  rintro e w1 ⟨rfl, hC1⟩
  replace HB := Lib.hid (HB.out.chg hC1 nmN)
  replace HR := Lib.hid (HR.out.chg hC1 nmN)
  replace HC := Lib.hid (HC.out.trans hC1)
  clear hC1
  obtain ⟨W1, hW1⟩ : ∃ W1, w1.alloc (.cells #[.int .u64 (lm PP 0 : Nat), .int .u64 (lm PP 1 : Nat), .int .u64 (lm PP 2 : Nat), .int .u64 (lm PP 3 : Nat), .int .u64 (lm cP 0 : Nat), .int .u64 (lm cP 1 : Nat), .int .u64 (lm cP 2 : Nat), .int .u64 (lm cP 3 : Nat)] 76) = W1 := ⟨_, rfl⟩
  have hA : Chg [] w1 W1 := by rw [← hW1]; exact (Chg.refl _ _).alloc _
  have hN : UD W1 w1.heap.size PP cP := by rw [← hW1]; exact has_alloc_new _ _
  obtain ⟨bD, hb⟩ : ∃ b, w1.heap.size = b := ⟨_, rfl⟩
  have lD : R < bD := by rw [← hb]; exact HR.out.lt
  rw [hb] at hN
  replace HB := Lib.hid (HB.out.chg hA nmN)
  replace HR := Lib.hid (HR.out.chg hA nmN)
  replace HC := Lib.hid (HC.out.trans hA)
  have HD := Lib.hid hN
  go_upto_region 4 with fail
  try rw [hW1]
  try rw [hb]
  clear hW1 hb hA hN
  obtain ⟨D0, D1, D2, D3⟩ := four4 fun _ => (HD.out).cm; obtain ⟨D4, D5, D6, D7⟩ := four4 fun _ => (HD.out).cc
  obtain ⟨x0, x1, x2, x3⟩ := four4 fun _ => (HB.out).cx; obtain ⟨y0, y1, y2, y3⟩ := four4 fun _ => (HB.out).cy
  refine abs_region (B := Chg [] W1) (S := Chg [] W1) (by kernel_rfl) ((Chg.refl _ _).drew) ?_
  have hG := good_chg [] W1
  refine Abs.take_np (i := 0) (d := some 15) (v := ?_) rfl rfl (by kernel_rfl) (by kernel_rfl) (by kernel_rfl) hG ⟨by rfl, fun w9 hw9 => Or.inl ?_⟩ ?_
  rotate_left
  · replace D0 := hw9.cell D0 nmN; replace D1 := hw9.cell D1 nmN; replace D2 := hw9.cell D2 nmN; replace D3 := hw9.cell D3 nmN; replace D4 := hw9.cell D4 nmN; replace D5 := hw9.cell D5 nmN; replace D6 := hw9.cell D6 nmN; replace D7 := hw9.cell D7 nmN
    go_simp
    try with_reducible rfl
  simp only [Act.put, stA, stB, stC]
  refine Abs.take_np (i := 1) (d := some 16) (v := ?_) rfl rfl (by kernel_rfl) (by kernel_rfl) (by kernel_rfl) hG ⟨by rfl, fun w9 hw9 => Or.inl ?_⟩ ?_
  rotate_left
  · go_simp
    try with_reducible rfl
  simp only [Act.put, stA, stB, stC]
  refine Abs.take_np (i := 2) (d := some 17) (v := ?_) rfl rfl (by kernel_rfl) (by kernel_rfl) (by kernel_rfl) hG ⟨by rfl, fun w9 hw9 => Or.inl ?_⟩ ?_
  rotate_left
  · replace x0 := hw9.cell x0 nmN; replace x1 := hw9.cell x1 nmN; replace x2 := hw9.cell x2 nmN; replace x3 := hw9.cell x3 nmN
    go_simp
    try with_reducible rfl
  simp only [Act.put, stA, stB, stC]
  refine Abs.take_np (i := 3) (d := some 18) (v := _) rfl rfl (by kernel_rfl) (by kernel_rfl) (by kernel_rfl) hG ⟨by rfl, fun w9 hw9 => Or.inr ⟨_, _, ?_, H1.out w9⟩⟩ ?_
  · go_simp
    try with_reducible rfl
  simp only [Act.put, stA, stB, stC]
  refine Abs.take_np (i := 4) (d := some 19) (v := ?_) rfl rfl (by kernel_rfl) (by kernel_rfl) (by kernel_rfl) hG ⟨by rfl, fun w9 hw9 => Or.inl ?_⟩ ?_
  rotate_left
  · go_simp
    try with_reducible rfl
  simp only [Act.put, stA, stB, stC]
  refine Abs.take_np (i := 5) (d := some 20) (v := ?_) rfl rfl (by kernel_rfl) (by kernel_rfl) (by kernel_rfl) hG ⟨by rfl, fun w9 hw9 => Or.inl ?_⟩ ?_
  rotate_left
  · replace D0 := hw9.cell D0 nmN; replace D1 := hw9.cell D1 nmN; replace D2 := hw9.cell D2 nmN; replace D3 := hw9.cell D3 nmN; replace D4 := hw9.cell D4 nmN; replace D5 := hw9.cell D5 nmN; replace D6 := hw9.cell D6 nmN; replace D7 := hw9.cell D7 nmN
    go_simp
    try with_reducible rfl
  simp only [Act.put, stA, stB, stC]
  refine Abs.take_np (i := 6) (d := some 21) (v := ?_) rfl rfl (by kernel_rfl) (by kernel_rfl) (by kernel_rfl) hG ⟨by rfl, fun w9 hw9 => Or.inl ?_⟩ ?_
  rotate_left
  · go_simp
    try with_reducible rfl
  simp only [Act.put, stA, stB, stC]
  refine Abs.take_np (i := 7) (d := some 22) (v := ?_) rfl rfl (by kernel_rfl) (by kernel_rfl) (by kernel_rfl) hG ⟨by rfl, fun w9 hw9 => Or.inl ?_⟩ ?_
  rotate_left
  · replace y0 := hw9.cell y0 nmN; replace y1 := hw9.cell y1 nmN; replace y2 := hw9.cell y2 nmN; replace y3 := hw9.cell y3 nmN
    go_simp
    try with_reducible rfl
  simp only [Act.put, stA, stB, stC]
  refine Abs.take_np (i := 8) (d := some 23) (v := _) rfl rfl (by kernel_rfl) (by kernel_rfl) (by kernel_rfl) hG ⟨by rfl, fun w9 hw9 => Or.inr ⟨_, _, ?_, H2.out w9⟩⟩ ?_
  · go_simp
    try with_reducible rfl
  simp only [Act.put, stA, stB, stC]
  refine Abs.take_np (i := 9) (d := some 24) (v := ?_) rfl rfl (by kernel_rfl) (by kernel_rfl) (by kernel_rfl) hG ⟨by rfl, fun w9 hw9 => Or.inl ?_⟩ ?_
  rotate_left
  · go_simp
    try with_reducible rfl
  simp only [Act.put, stA, stB, stC]
  refine Abs.take_np (i := 10) (d := some 25) (v := ?_) rfl rfl (by kernel_rfl) (by kernel_rfl) (by kernel_rfl) hG ⟨by rfl, fun w9 hw9 => Or.inl ?_⟩ ?_
  rotate_left
  · go_simp
    try with_reducible rfl
  simp only [Act.put, stA, stB, stC]
  refine Abs.skip_np (i := 11) (d := some 26) rfl rfl (by kernel_rfl) (by kernel_rfl) (by kernel_rfl) hG (by rfl) ?_
  simp only [Act.put, stA, stB, stC]
  refine Abs.skip_np (i := 12) (d := some 27) rfl rfl (by kernel_rfl) (by kernel_rfl) (by kernel_rfl) hG (by rfl) ?_
  simp only [Act.put, stA, stB, stC]
  refine Abs.skip_np (i := 13) (d := some 28) rfl rfl (by kernel_rfl) (by kernel_rfl) (by kernel_rfl) hG (by rfl) ?_
  simp only [Act.put, stA, stB, stC]
  refine Abs.skip_np (i := 14) (d := some 29) rfl rfl (by kernel_rfl) (by kernel_rfl) (by kernel_rfl) hG (by rfl) ?_
  simp only [Act.put, stA, stB, stC]
  refine Abs.skip_np (i := 15) (d := some 30) rfl rfl (by kernel_rfl) (by kernel_rfl) (by kernel_rfl) hG (by rfl) ?_
  simp only [Act.put, stA, stB, stC]
  refine Abs.skip_np (i := 16) (d := some 31) rfl rfl (by kernel_rfl) (by kernel_rfl) (by kernel_rfl) hG (by rfl) ?_
  simp only [Act.put, stA, stB, stC]
  refine Abs.skip_np (i := 17) (d := some 32) rfl rfl (by kernel_rfl) (by kernel_rfl) (by kernel_rfl) hG (by rfl) ?_
  simp only [Act.put, stA, stB, stC]
  refine Abs.skip_np (i := 18) (d := some 33) rfl rfl (by kernel_rfl) (by kernel_rfl) (by kernel_rfl) hG (by rfl) ?_
  simp only [Act.put, stA, stB, stC]
  refine Abs.skip_np (i := 19) (d := some 34) rfl rfl (by kernel_rfl) (by kernel_rfl) (by kernel_rfl) hG (by rfl) ?_
  simp only [Act.put, stA, stB, stC]
  refine Abs.skip_np (i := 20) (d := some 35) rfl rfl (by kernel_rfl) (by kernel_rfl) (by kernel_rfl) hG (by rfl) ?_
  simp only [Act.put, stA, stB, stC]
  refine Abs.take_np (i := 21) (d := some 36) (v := ?_) rfl rfl (by kernel_rfl) (by kernel_rfl) (by kernel_rfl) hG ⟨by rfl, fun w9 hw9 => Or.inl ?_⟩ ?_
  rotate_left
  · go_simp
    try with_reducible rfl
  simp only [Act.put, stA, stB, stC]
  refine Abs.take_np (i := 22) (d := some 2) (v := ?_) rfl rfl (by kernel_rfl) (by kernel_rfl) (by kernel_rfl) hG ⟨by rfl, fun w9 hw9 => Or.inl ?_⟩ ?_
  rotate_left
  · go_simp
    try with_reducible rfl
  simp only [Act.put, stA, stB, stC]
  refine Abs.done (by kernel_rfl) (fun wx hx => NoPanic.normal ?_) _
  clear x0 y0 x1 y1 x2 y2 x3 y3 D0 D1 D2 D3 D4 D5 D6 D7
  replace HB := Lib.hid (HB.out.chg hx nmN)
  replace HR := Lib.hid (HR.out.chg hx nmN)
  replace HC := Lib.hid (HC.out.trans hx)
  replace HD := Lib.hid (HD.out.chg hx nmN)
  clear hx
  go_wp2_with fail
  go_ret
  exact ⟨rfl, HC.out⟩

set_option maxRecDepth 100000 in
set_option maxHeartbeats 8000000 in
theorem is_off {x y : Fin PP} (hne : y * y ≠ cub x) (w : World) : Calls Try.prog 14 #[.agg #[.int .u64 (lm x.val 0 : Nat), .int .u64 (lm x.val 1 : Nat), .int .u64 (lm x.val 2 : Nat), .int .u64 (lm x.val 3 : Nat), .int .u64 (lm y.val 0 : Nat), .int .u64 (lm y.val 1 : Nat), .int .u64 (lm y.val 2 : Nat), .int .u64 (lm y.val 3 : Nat), .bool false]] w fun e w' => e = .returned (.bool false) ∧ Chg [] w w' := by
  obtain ⟨xv, hxv⟩ : ∃ v, x.val = v := ⟨_, rfl⟩
  obtain ⟨yv, hyv⟩ : ∃ v, y.val = v := ⟨_, rfl⟩
  rw [hxv, hyv]
  have hxv4 : xv < B6 ^ 4 := by rw [← hxv]; exact val_lt4 x
  have hyv4 : yv < B6 ^ 4 := by rw [← hyv]; exact val_lt4 y
  have hx : xv < PP := by rw [← hxv]; exact x.isLt
  have hy : yv < PP := by rw [← hyv]; exact y.isLt
  have h1c := fun w => ref_has (c := cP) way_P.lt hxv4 w
  rw [show decide (xv < PP) = true by simpa using hx] at h1c
  unfold dcCells at h1c
  have H1 := Lib.hid h1c
  clear h1c
  have h2c := fun w => ref_has (c := cP) way_P.lt hyv4 w
  rw [show decide (yv < PP) = true by simpa using hy] at h2c
  unfold dcCells at h2c
  have H2 := Lib.hid h2c
  clear h2c
  have HBase := Lib.hid rp_base
  obtain ⟨s, hs⟩ : ∃ v, (y * y).val = v := ⟨_, rfl⟩
  obtain ⟨t, ht⟩ : ∃ v, (cub x).val = v := ⟨_, rfl⟩
  have C2 := Lib.hid (fun w => rp_mul hyv hyv hs w)
  have CC := Lib.hid (fun w => ref_cubic hxv ht w)
  have hs4 : s < B6 ^ 4 := by rw [← hs]; exact val_lt4 _
  have ht4 : t < B6 ^ 4 := by rw [← ht]; exact val_lt4 _
  have q := fun w => num_eq hs4 ht4 w
  rw [show decide (s = t) = false by simp only [decide_eq_false_iff_not]; exact fun h => hne (Fin.ext (by rw [hs, ht, h]))] at q
  clear hne hxv hyv hxv4 hyv4 hx hy hs ht hs4 ht4
  obtain ⟨W0, hW0⟩ : ∃ W0, w.alloc (.cells #[.int .u64 (lm xv 0 : Nat), .int .u64 (lm xv 1 : Nat), .int .u64 (lm xv 2 : Nat), .int .u64 (lm xv 3 : Nat), .int .u64 (lm yv 0 : Nat), .int .u64 (lm yv 1 : Nat), .int .u64 (lm yv 2 : Nat), .int .u64 (lm yv 3 : Nat), .bool false] 26) = W0 := ⟨_, rfl⟩
  have HB := Lib.hid (show U9 W0 w.heap.size xv yv false by rw [← hW0]; exact has_alloc_new _ _)
  have HR := HB
  have HC := Lib.hid (show Chg [] w W0 by rw [← hW0]; exact (Chg.refl _ _).alloc _)
  obtain ⟨x0, x1, x2, x3⟩ := four4 fun _ => (HB.out).cx; obtain ⟨y0, y1, y2, y3⟩ := four4 fun _ => (HB.out).cy; have i0 := HB.out.ci
  go_enter Try.func14, Try.ntmps14
  go_wp2_with fail
  try rw [hW0]
  clear hW0
  obtain ⟨R, hP⟩ : ∃ P, w.heap.size = P := ⟨_, rfl⟩
  rw [hP] at HB HR i0 x0 y0 x1 y1 x2 y2 x3 y3 ⊢
  replace hP := Lib.hid hP
  clear x0 y0 x1 y1 x2 y2 x3 y3 i0
  refine (HBase.out _).mono ?_
  rintro e w1 ⟨rfl, hC1⟩
  replace HB := Lib.hid (HB.out.chg hC1 nmN)
  replace HR := Lib.hid (HR.out.chg hC1 nmN)
  replace HC := Lib.hid (HC.out.trans hC1)
  clear hC1
  obtain ⟨W1, hW1⟩ : ∃ W1, w1.alloc (.cells #[.int .u64 (lm PP 0 : Nat), .int .u64 (lm PP 1 : Nat), .int .u64 (lm PP 2 : Nat), .int .u64 (lm PP 3 : Nat), .int .u64 (lm cP 0 : Nat), .int .u64 (lm cP 1 : Nat), .int .u64 (lm cP 2 : Nat), .int .u64 (lm cP 3 : Nat)] 76) = W1 := ⟨_, rfl⟩
  have hA : Chg [] w1 W1 := by rw [← hW1]; exact (Chg.refl _ _).alloc _
  have hN : UD W1 w1.heap.size PP cP := by rw [← hW1]; exact has_alloc_new _ _
  obtain ⟨bD, hb⟩ : ∃ b, w1.heap.size = b := ⟨_, rfl⟩
  have lD : R < bD := by rw [← hb]; exact HR.out.lt
  rw [hb] at hN
  replace HB := Lib.hid (HB.out.chg hA nmN)
  replace HR := Lib.hid (HR.out.chg hA nmN)
  replace HC := Lib.hid (HC.out.trans hA)
  have HD := Lib.hid hN
  go_upto_region 4 with fail
  try rw [hW1]
  try rw [hb]
  clear hW1 hb hA hN
  obtain ⟨D0, D1, D2, D3⟩ := four4 fun _ => (HD.out).cm; obtain ⟨D4, D5, D6, D7⟩ := four4 fun _ => (HD.out).cc
  obtain ⟨x0, x1, x2, x3⟩ := four4 fun _ => (HB.out).cx; obtain ⟨y0, y1, y2, y3⟩ := four4 fun _ => (HB.out).cy
  refine abs_region (B := Chg [] W1) (S := Chg [] W1) (by kernel_rfl) ((Chg.refl _ _).drew) ?_
  have hG := good_chg [] W1
  refine Abs.take_np (i := 0) (d := some 15) (v := ?_) rfl rfl (by kernel_rfl) (by kernel_rfl) (by kernel_rfl) hG ⟨by rfl, fun w9 hw9 => Or.inl ?_⟩ ?_
  rotate_left
  · replace D0 := hw9.cell D0 nmN; replace D1 := hw9.cell D1 nmN; replace D2 := hw9.cell D2 nmN; replace D3 := hw9.cell D3 nmN; replace D4 := hw9.cell D4 nmN; replace D5 := hw9.cell D5 nmN; replace D6 := hw9.cell D6 nmN; replace D7 := hw9.cell D7 nmN
    go_simp
    try with_reducible rfl
  simp only [Act.put, stA, stB, stC]
  refine Abs.take_np (i := 1) (d := some 16) (v := ?_) rfl rfl (by kernel_rfl) (by kernel_rfl) (by kernel_rfl) hG ⟨by rfl, fun w9 hw9 => Or.inl ?_⟩ ?_
  rotate_left
  · go_simp
    try with_reducible rfl
  simp only [Act.put, stA, stB, stC]
  refine Abs.take_np (i := 2) (d := some 17) (v := ?_) rfl rfl (by kernel_rfl) (by kernel_rfl) (by kernel_rfl) hG ⟨by rfl, fun w9 hw9 => Or.inl ?_⟩ ?_
  rotate_left
  · replace x0 := hw9.cell x0 nmN; replace x1 := hw9.cell x1 nmN; replace x2 := hw9.cell x2 nmN; replace x3 := hw9.cell x3 nmN
    go_simp
    try with_reducible rfl
  simp only [Act.put, stA, stB, stC]
  refine Abs.take_np (i := 3) (d := some 18) (v := _) rfl rfl (by kernel_rfl) (by kernel_rfl) (by kernel_rfl) hG ⟨by rfl, fun w9 hw9 => Or.inr ⟨_, _, ?_, H1.out w9⟩⟩ ?_
  · go_simp
    try with_reducible rfl
  simp only [Act.put, stA, stB, stC]
  refine Abs.take_np (i := 4) (d := some 19) (v := ?_) rfl rfl (by kernel_rfl) (by kernel_rfl) (by kernel_rfl) hG ⟨by rfl, fun w9 hw9 => Or.inl ?_⟩ ?_
  rotate_left
  · go_simp
    try with_reducible rfl
  simp only [Act.put, stA, stB, stC]
  refine Abs.take_np (i := 5) (d := some 20) (v := ?_) rfl rfl (by kernel_rfl) (by kernel_rfl) (by kernel_rfl) hG ⟨by rfl, fun w9 hw9 => Or.inl ?_⟩ ?_
  rotate_left
  · replace D0 := hw9.cell D0 nmN; replace D1 := hw9.cell D1 nmN; replace D2 := hw9.cell D2 nmN; replace D3 := hw9.cell D3 nmN; replace D4 := hw9.cell D4 nmN; replace D5 := hw9.cell D5 nmN; replace D6 := hw9.cell D6 nmN; replace D7 := hw9.cell D7 nmN
    go_simp
    try with_reducible rfl
  simp only [Act.put, stA, stB, stC]
  refine Abs.take_np (i := 6) (d := some 21) (v := ?_) rfl rfl (by kernel_rfl) (by kernel_rfl) (by kernel_rfl) hG ⟨by rfl, fun w9 hw9 => Or.inl ?_⟩ ?_
  rotate_left
  · go_simp
    try with_reducible rfl
  simp only [Act.put, stA, stB, stC]
  refine Abs.take_np (i := 7) (d := some 22) (v := ?_) rfl rfl (by kernel_rfl) (by kernel_rfl) (by kernel_rfl) hG ⟨by rfl, fun w9 hw9 => Or.inl ?_⟩ ?_
  rotate_left
  · replace y0 := hw9.cell y0 nmN; replace y1 := hw9.cell y1 nmN; replace y2 := hw9.cell y2 nmN; replace y3 := hw9.cell y3 nmN
    go_simp
    try with_reducible rfl
  simp only [Act.put, stA, stB, stC]
  refine Abs.take_np (i := 8) (d := some 23) (v := _) rfl rfl (by kernel_rfl) (by kernel_rfl) (by kernel_rfl) hG ⟨by rfl, fun w9 hw9 => Or.inr ⟨_, _, ?_, H2.out w9⟩⟩ ?_
  · go_simp
    try with_reducible rfl
  simp only [Act.put, stA, stB, stC]
  refine Abs.take_np (i := 9) (d := some 24) (v := ?_) rfl rfl (by kernel_rfl) (by kernel_rfl) (by kernel_rfl) hG ⟨by rfl, fun w9 hw9 => Or.inl ?_⟩ ?_
  rotate_left
  · go_simp
    try with_reducible rfl
  simp only [Act.put, stA, stB, stC]
  refine Abs.take_np (i := 10) (d := some 25) (v := ?_) rfl rfl (by kernel_rfl) (by kernel_rfl) (by kernel_rfl) hG ⟨by rfl, fun w9 hw9 => Or.inl ?_⟩ ?_
  rotate_left
  · go_simp
    try with_reducible rfl
  simp only [Act.put, stA, stB, stC]
  refine Abs.take_np (i := 11) (d := some 26) (v := ?_) rfl rfl (by kernel_rfl) (by kernel_rfl) (by kernel_rfl) hG ⟨by rfl, fun w9 hw9 => Or.inl ?_⟩ ?_
  rotate_left
  · replace D0 := hw9.cell D0 nmN; replace D1 := hw9.cell D1 nmN; replace D2 := hw9.cell D2 nmN; replace D3 := hw9.cell D3 nmN; replace D4 := hw9.cell D4 nmN; replace D5 := hw9.cell D5 nmN; replace D6 := hw9.cell D6 nmN; replace D7 := hw9.cell D7 nmN
    go_simp
    try with_reducible rfl
  simp only [Act.put, stA, stB, stC]
  refine Abs.take_np (i := 12) (d := some 27) (v := ?_) rfl rfl (by kernel_rfl) (by kernel_rfl) (by kernel_rfl) hG ⟨by rfl, fun w9 hw9 => Or.inl ?_⟩ ?_
  rotate_left
  · go_simp
    try with_reducible rfl
  simp only [Act.put, stA, stB, stC]
  refine Abs.take_np (i := 13) (d := some 28) (v := ?_) rfl rfl (by kernel_rfl) (by kernel_rfl) (by kernel_rfl) hG ⟨by rfl, fun w9 hw9 => Or.inl ?_⟩ ?_
  rotate_left
  · replace y0 := hw9.cell y0 nmN; replace y1 := hw9.cell y1 nmN; replace y2 := hw9.cell y2 nmN; replace y3 := hw9.cell y3 nmN
    go_simp
    try with_reducible rfl
  simp only [Act.put, stA, stB, stC]
  refine Abs.take_np (i := 14) (d := some 29) (v := ?_) rfl rfl (by kernel_rfl) (by kernel_rfl) (by kernel_rfl) hG ⟨by rfl, fun w9 hw9 => Or.inl ?_⟩ ?_
  rotate_left
  · go_simp
    try with_reducible rfl
  simp only [Act.put, stA, stB, stC]
  refine Abs.take_np (i := 15) (d := some 30) (v := ?_) rfl rfl (by kernel_rfl) (by kernel_rfl) (by kernel_rfl) hG ⟨by rfl, fun w9 hw9 => Or.inl ?_⟩ ?_
  rotate_left
  · replace y0 := hw9.cell y0 nmN; replace y1 := hw9.cell y1 nmN; replace y2 := hw9.cell y2 nmN; replace y3 := hw9.cell y3 nmN
    go_simp
    try with_reducible rfl
  simp only [Act.put, stA, stB, stC]
  refine Abs.take_np (i := 16) (d := some 31) (v := _) rfl rfl (by kernel_rfl) (by kernel_rfl) (by kernel_rfl) hG ⟨by rfl, fun w9 hw9 => Or.inr ⟨_, _, ?_, C2.out w9⟩⟩ ?_
  · go_simp
    try with_reducible rfl
  simp only [Act.put, stA, stB, stC]
  refine Abs.take_np (i := 17) (d := some 32) (v := ?_) rfl rfl (by kernel_rfl) (by kernel_rfl) (by kernel_rfl) hG ⟨by rfl, fun w9 hw9 => Or.inl ?_⟩ ?_
  rotate_left
  · go_simp
    try with_reducible rfl
  simp only [Act.put, stA, stB, stC]
  refine Abs.take_np (i := 18) (d := some 33) (v := ?_) rfl rfl (by kernel_rfl) (by kernel_rfl) (by kernel_rfl) hG ⟨by rfl, fun w9 hw9 => Or.inl ?_⟩ ?_
  rotate_left
  · replace x0 := hw9.cell x0 nmN; replace x1 := hw9.cell x1 nmN; replace x2 := hw9.cell x2 nmN; replace x3 := hw9.cell x3 nmN
    go_simp
    try with_reducible rfl
  simp only [Act.put, stA, stB, stC]
  refine Abs.take_np (i := 19) (d := some 34) (v := _) rfl rfl (by kernel_rfl) (by kernel_rfl) (by kernel_rfl) hG ⟨by rfl, fun w9 hw9 => Or.inr ⟨_, _, ?_, CC.out w9⟩⟩ ?_
  · go_simp
    try with_reducible rfl
  simp only [Act.put, stA, stB, stC]
  refine Abs.take_np (i := 20) (d := some 35) (v := ?_) rfl rfl (by kernel_rfl) (by kernel_rfl) (by kernel_rfl) hG ⟨by rfl, fun w9 hw9 => Or.inl ?_⟩ ?_
  rotate_left
  · go_simp
    try with_reducible rfl
  simp only [Act.put, stA, stB, stC]
  refine Abs.take_np (i := 21) (d := some 36) (v := ?_) rfl rfl (by kernel_rfl) (by kernel_rfl) (by kernel_rfl) hG ⟨by rfl, fun w9 hw9 => Or.inl ?_⟩ ?_
  rotate_left
  · go_simp
    try with_reducible rfl
  simp only [Act.put, stA, stB, stC]
  refine Abs.take_np (i := 22) (d := some 2) (v := ?_) rfl rfl (by kernel_rfl) (by kernel_rfl) (by kernel_rfl) hG ⟨by rfl, fun w9 hw9 => Or.inl ?_⟩ ?_
  rotate_left
  · go_simp
    try with_reducible rfl
  simp only [Act.put, stA, stB, stC]
  refine Abs.done (by kernel_rfl) (fun wx hx => NoPanic.normal ?_) _
  clear x0 y0 x1 y1 x2 y2 x3 y3 D0 D1 D2 D3 D4 D5 D6 D7
  replace HB := Lib.hid (HB.out.chg hx nmN)
  replace HR := Lib.hid (HR.out.chg hx nmN)
  replace HC := Lib.hid (HC.out.trans hx)
  replace HD := Lib.hid (HD.out.chg hx nmN)
  clear hx
  go_wp2_with fail
  go_ret
  exact ⟨rfl, HC.out⟩

set_option maxRecDepth 100000 in
set_option maxHeartbeats 8000000 in
theorem is_on {x y : Fin PP} (he : y * y = cub x) (w : World) : Calls Try.prog 14 #[.agg #[.int .u64 (lm x.val 0 : Nat), .int .u64 (lm x.val 1 : Nat), .int .u64 (lm x.val 2 : Nat), .int .u64 (lm x.val 3 : Nat), .int .u64 (lm y.val 0 : Nat), .int .u64 (lm y.val 1 : Nat), .int .u64 (lm y.val 2 : Nat), .int .u64 (lm y.val 3 : Nat), .bool false]] w fun e w' => e = .returned (.bool true) ∧ Chg [] w w' := by
  obtain ⟨xv, hxv⟩ : ∃ v, x.val = v := ⟨_, rfl⟩
  obtain ⟨yv, hyv⟩ : ∃ v, y.val = v := ⟨_, rfl⟩
  rw [hxv, hyv]
  have hxv4 : xv < B6 ^ 4 := by rw [← hxv]; exact val_lt4 x
  have hyv4 : yv < B6 ^ 4 := by rw [← hyv]; exact val_lt4 y
  have hx : xv < PP := by rw [← hxv]; exact x.isLt
  have hy : yv < PP := by rw [← hyv]; exact y.isLt
  have h1c := fun w => ref_has (c := cP) way_P.lt hxv4 w
  rw [show decide (xv < PP) = true by simpa using hx] at h1c
  unfold dcCells at h1c
  have H1 := Lib.hid h1c
  clear h1c
  have h2c := fun w => ref_has (c := cP) way_P.lt hyv4 w
  rw [show decide (yv < PP) = true by simpa using hy] at h2c
  unfold dcCells at h2c
  have H2 := Lib.hid h2c
  clear h2c
  have HBase := Lib.hid rp_base
  obtain ⟨s, hs⟩ : ∃ v, (y * y).val = v := ⟨_, rfl⟩
  obtain ⟨t, ht⟩ : ∃ v, (cub x).val = v := ⟨_, rfl⟩
  have C2 := Lib.hid (fun w => rp_mul hyv hyv hs w)
  have CC := Lib.hid (fun w => ref_cubic hxv ht w)
  have hs4 : s < B6 ^ 4 := by rw [← hs]; exact val_lt4 _
  have ht4 : t < B6 ^ 4 := by rw [← ht]; exact val_lt4 _
  have q := fun w => num_eq hs4 ht4 w
  rw [show decide (s = t) = true by simp only [decide_eq_true_iff]; rw [← hs, ← ht, he]] at q
  clear he hxv hyv hxv4 hyv4 hx hy hs ht hs4 ht4
  obtain ⟨W0, hW0⟩ : ∃ W0, w.alloc (.cells #[.int .u64 (lm xv 0 : Nat), .int .u64 (lm xv 1 : Nat), .int .u64 (lm xv 2 : Nat), .int .u64 (lm xv 3 : Nat), .int .u64 (lm yv 0 : Nat), .int .u64 (lm yv 1 : Nat), .int .u64 (lm yv 2 : Nat), .int .u64 (lm yv 3 : Nat), .bool false] 26) = W0 := ⟨_, rfl⟩
  have HB := Lib.hid (show U9 W0 w.heap.size xv yv false by rw [← hW0]; exact has_alloc_new _ _)
  have HR := HB
  have HC := Lib.hid (show Chg [] w W0 by rw [← hW0]; exact (Chg.refl _ _).alloc _)
  obtain ⟨x0, x1, x2, x3⟩ := four4 fun _ => (HB.out).cx; obtain ⟨y0, y1, y2, y3⟩ := four4 fun _ => (HB.out).cy; have i0 := HB.out.ci
  go_enter Try.func14, Try.ntmps14
  go_wp2_with fail
  try rw [hW0]
  clear hW0
  obtain ⟨R, hP⟩ : ∃ P, w.heap.size = P := ⟨_, rfl⟩
  rw [hP] at HB HR i0 x0 y0 x1 y1 x2 y2 x3 y3 ⊢
  replace hP := Lib.hid hP
  clear x0 y0 x1 y1 x2 y2 x3 y3 i0
  refine (HBase.out _).mono ?_
  rintro e w1 ⟨rfl, hC1⟩
  replace HB := Lib.hid (HB.out.chg hC1 nmN)
  replace HR := Lib.hid (HR.out.chg hC1 nmN)
  replace HC := Lib.hid (HC.out.trans hC1)
  clear hC1
  obtain ⟨W1, hW1⟩ : ∃ W1, w1.alloc (.cells #[.int .u64 (lm PP 0 : Nat), .int .u64 (lm PP 1 : Nat), .int .u64 (lm PP 2 : Nat), .int .u64 (lm PP 3 : Nat), .int .u64 (lm cP 0 : Nat), .int .u64 (lm cP 1 : Nat), .int .u64 (lm cP 2 : Nat), .int .u64 (lm cP 3 : Nat)] 76) = W1 := ⟨_, rfl⟩
  have hA : Chg [] w1 W1 := by rw [← hW1]; exact (Chg.refl _ _).alloc _
  have hN : UD W1 w1.heap.size PP cP := by rw [← hW1]; exact has_alloc_new _ _
  obtain ⟨bD, hb⟩ : ∃ b, w1.heap.size = b := ⟨_, rfl⟩
  have lD : R < bD := by rw [← hb]; exact HR.out.lt
  rw [hb] at hN
  replace HB := Lib.hid (HB.out.chg hA nmN)
  replace HR := Lib.hid (HR.out.chg hA nmN)
  replace HC := Lib.hid (HC.out.trans hA)
  have HD := Lib.hid hN
  go_upto_region 4 with fail
  try rw [hW1]
  try rw [hb]
  clear hW1 hb hA hN
  obtain ⟨D0, D1, D2, D3⟩ := four4 fun _ => (HD.out).cm; obtain ⟨D4, D5, D6, D7⟩ := four4 fun _ => (HD.out).cc
  obtain ⟨x0, x1, x2, x3⟩ := four4 fun _ => (HB.out).cx; obtain ⟨y0, y1, y2, y3⟩ := four4 fun _ => (HB.out).cy
  refine abs_region (B := Chg [] W1) (S := Chg [] W1) (by kernel_rfl) ((Chg.refl _ _).drew) ?_
  have hG := good_chg [] W1
  refine Abs.take_np (i := 0) (d := some 15) (v := ?_) rfl rfl (by kernel_rfl) (by kernel_rfl) (by kernel_rfl) hG ⟨by rfl, fun w9 hw9 => Or.inl ?_⟩ ?_
  rotate_left
  · replace D0 := hw9.cell D0 nmN; replace D1 := hw9.cell D1 nmN; replace D2 := hw9.cell D2 nmN; replace D3 := hw9.cell D3 nmN; replace D4 := hw9.cell D4 nmN; replace D5 := hw9.cell D5 nmN; replace D6 := hw9.cell D6 nmN; replace D7 := hw9.cell D7 nmN
    go_simp
    try with_reducible rfl
  simp only [Act.put, stA, stB, stC]
  refine Abs.take_np (i := 1) (d := some 16) (v := ?_) rfl rfl (by kernel_rfl) (by kernel_rfl) (by kernel_rfl) hG ⟨by rfl, fun w9 hw9 => Or.inl ?_⟩ ?_
  rotate_left
  · go_simp
    try with_reducible rfl
  simp only [Act.put, stA, stB, stC]
  refine Abs.take_np (i := 2) (d := some 17) (v := ?_) rfl rfl (by kernel_rfl) (by kernel_rfl) (by kernel_rfl) hG ⟨by rfl, fun w9 hw9 => Or.inl ?_⟩ ?_
  rotate_left
  · replace x0 := hw9.cell x0 nmN; replace x1 := hw9.cell x1 nmN; replace x2 := hw9.cell x2 nmN; replace x3 := hw9.cell x3 nmN
    go_simp
    try with_reducible rfl
  simp only [Act.put, stA, stB, stC]
  refine Abs.take_np (i := 3) (d := some 18) (v := _) rfl rfl (by kernel_rfl) (by kernel_rfl) (by kernel_rfl) hG ⟨by rfl, fun w9 hw9 => Or.inr ⟨_, _, ?_, H1.out w9⟩⟩ ?_
  · go_simp
    try with_reducible rfl
  simp only [Act.put, stA, stB, stC]
  refine Abs.take_np (i := 4) (d := some 19) (v := ?_) rfl rfl (by kernel_rfl) (by kernel_rfl) (by kernel_rfl) hG ⟨by rfl, fun w9 hw9 => Or.inl ?_⟩ ?_
  rotate_left
  · go_simp
    try with_reducible rfl
  simp only [Act.put, stA, stB, stC]
  refine Abs.take_np (i := 5) (d := some 20) (v := ?_) rfl rfl (by kernel_rfl) (by kernel_rfl) (by kernel_rfl) hG ⟨by rfl, fun w9 hw9 => Or.inl ?_⟩ ?_
  rotate_left
  · replace D0 := hw9.cell D0 nmN; replace D1 := hw9.cell D1 nmN; replace D2 := hw9.cell D2 nmN; replace D3 := hw9.cell D3 nmN; replace D4 := hw9.cell D4 nmN; replace D5 := hw9.cell D5 nmN; replace D6 := hw9.cell D6 nmN; replace D7 := hw9.cell D7 nmN
    go_simp
    try with_reducible rfl
  simp only [Act.put, stA, stB, stC]
  refine Abs.take_np (i := 6) (d := some 21) (v := ?_) rfl rfl (by kernel_rfl) (by kernel_rfl) (by kernel_rfl) hG ⟨by rfl, fun w9 hw9 => Or.inl ?_⟩ ?_
  rotate_left
  · go_simp
    try with_reducible rfl
  simp only [Act.put, stA, stB, stC]
  refine Abs.take_np (i := 7) (d := some 22) (v := ?_) rfl rfl (by kernel_rfl) (by kernel_rfl) (by kernel_rfl) hG ⟨by rfl, fun w9 hw9 => Or.inl ?_⟩ ?_
  rotate_left
  · replace y0 := hw9.cell y0 nmN; replace y1 := hw9.cell y1 nmN; replace y2 := hw9.cell y2 nmN; replace y3 := hw9.cell y3 nmN
    go_simp
    try with_reducible rfl
  simp only [Act.put, stA, stB, stC]
  refine Abs.take_np (i := 8) (d := some 23) (v := _) rfl rfl (by kernel_rfl) (by kernel_rfl) (by kernel_rfl) hG ⟨by rfl, fun w9 hw9 => Or.inr ⟨_, _, ?_, H2.out w9⟩⟩ ?_
  · go_simp
    try with_reducible rfl
  simp only [Act.put, stA, stB, stC]
  refine Abs.take_np (i := 9) (d := some 24) (v := ?_) rfl rfl (by kernel_rfl) (by kernel_rfl) (by kernel_rfl) hG ⟨by rfl, fun w9 hw9 => Or.inl ?_⟩ ?_
  rotate_left
  · go_simp
    try with_reducible rfl
  simp only [Act.put, stA, stB, stC]
  refine Abs.take_np (i := 10) (d := some 25) (v := ?_) rfl rfl (by kernel_rfl) (by kernel_rfl) (by kernel_rfl) hG ⟨by rfl, fun w9 hw9 => Or.inl ?_⟩ ?_
  rotate_left
  · go_simp
    try with_reducible rfl
  simp only [Act.put, stA, stB, stC]
  refine Abs.take_np (i := 11) (d := some 26) (v := ?_) rfl rfl (by kernel_rfl) (by kernel_rfl) (by kernel_rfl) hG ⟨by rfl, fun w9 hw9 => Or.inl ?_⟩ ?_
  rotate_left
  · replace D0 := hw9.cell D0 nmN; replace D1 := hw9.cell D1 nmN; replace D2 := hw9.cell D2 nmN; replace D3 := hw9.cell D3 nmN; replace D4 := hw9.cell D4 nmN; replace D5 := hw9.cell D5 nmN; replace D6 := hw9.cell D6 nmN; replace D7 := hw9.cell D7 nmN
    go_simp
    try with_reducible rfl
  simp only [Act.put, stA, stB, stC]
  refine Abs.take_np (i := 12) (d := some 27) (v := ?_) rfl rfl (by kernel_rfl) (by kernel_rfl) (by kernel_rfl) hG ⟨by rfl, fun w9 hw9 => Or.inl ?_⟩ ?_
  rotate_left
  · go_simp
    try with_reducible rfl
  simp only [Act.put, stA, stB, stC]
  refine Abs.take_np (i := 13) (d := some 28) (v := ?_) rfl rfl (by kernel_rfl) (by kernel_rfl) (by kernel_rfl) hG ⟨by rfl, fun w9 hw9 => Or.inl ?_⟩ ?_
  rotate_left
  · replace y0 := hw9.cell y0 nmN; replace y1 := hw9.cell y1 nmN; replace y2 := hw9.cell y2 nmN; replace y3 := hw9.cell y3 nmN
    go_simp
    try with_reducible rfl
  simp only [Act.put, stA, stB, stC]
  refine Abs.take_np (i := 14) (d := some 29) (v := ?_) rfl rfl (by kernel_rfl) (by kernel_rfl) (by kernel_rfl) hG ⟨by rfl, fun w9 hw9 => Or.inl ?_⟩ ?_
  rotate_left
  · go_simp
    try with_reducible rfl
  simp only [Act.put, stA, stB, stC]
  refine Abs.take_np (i := 15) (d := some 30) (v := ?_) rfl rfl (by kernel_rfl) (by kernel_rfl) (by kernel_rfl) hG ⟨by rfl, fun w9 hw9 => Or.inl ?_⟩ ?_
  rotate_left
  · replace y0 := hw9.cell y0 nmN; replace y1 := hw9.cell y1 nmN; replace y2 := hw9.cell y2 nmN; replace y3 := hw9.cell y3 nmN
    go_simp
    try with_reducible rfl
  simp only [Act.put, stA, stB, stC]
  refine Abs.take_np (i := 16) (d := some 31) (v := _) rfl rfl (by kernel_rfl) (by kernel_rfl) (by kernel_rfl) hG ⟨by rfl, fun w9 hw9 => Or.inr ⟨_, _, ?_, C2.out w9⟩⟩ ?_
  · go_simp
    try with_reducible rfl
  simp only [Act.put, stA, stB, stC]
  refine Abs.take_np (i := 17) (d := some 32) (v := ?_) rfl rfl (by kernel_rfl) (by kernel_rfl) (by kernel_rfl) hG ⟨by rfl, fun w9 hw9 => Or.inl ?_⟩ ?_
  rotate_left
  · go_simp
    try with_reducible rfl
  simp only [Act.put, stA, stB, stC]
  refine Abs.take_np (i := 18) (d := some 33) (v := ?_) rfl rfl (by kernel_rfl) (by kernel_rfl) (by kernel_rfl) hG ⟨by rfl, fun w9 hw9 => Or.inl ?_⟩ ?_
  rotate_left
  · replace x0 := hw9.cell x0 nmN; replace x1 := hw9.cell x1 nmN; replace x2 := hw9.cell x2 nmN; replace x3 := hw9.cell x3 nmN
    go_simp
    try with_reducible rfl
  simp only [Act.put, stA, stB, stC]
  refine Abs.take_np (i := 19) (d := some 34) (v := _) rfl rfl (by kernel_rfl) (by kernel_rfl) (by kernel_rfl) hG ⟨by rfl, fun w9 hw9 => Or.inr ⟨_, _, ?_, CC.out w9⟩⟩ ?_
  · go_simp
    try with_reducible rfl
  simp only [Act.put, stA, stB, stC]
  refine Abs.take_np (i := 20) (d := some 35) (v := ?_) rfl rfl (by kernel_rfl) (by kernel_rfl) (by kernel_rfl) hG ⟨by rfl, fun w9 hw9 => Or.inl ?_⟩ ?_
  rotate_left
  · go_simp
    try with_reducible rfl
  simp only [Act.put, stA, stB, stC]
  refine Abs.take_np (i := 21) (d := some 36) (v := ?_) rfl rfl (by kernel_rfl) (by kernel_rfl) (by kernel_rfl) hG ⟨by rfl, fun w9 hw9 => Or.inl ?_⟩ ?_
  rotate_left
  · go_simp
    try with_reducible rfl
  simp only [Act.put, stA, stB, stC]
  refine Abs.take_np (i := 22) (d := some 2) (v := ?_) rfl rfl (by kernel_rfl) (by kernel_rfl) (by kernel_rfl) hG ⟨by rfl, fun w9 hw9 => Or.inl ?_⟩ ?_
  rotate_left
  · go_simp
    try with_reducible rfl
  simp only [Act.put, stA, stB, stC]
  refine Abs.done (by kernel_rfl) (fun wx hx => NoPanic.normal ?_) _
  clear x0 y0 x1 y1 x2 y2 x3 y3 D0 D1 D2 D3 D4 D5 D6 D7
  replace HB := Lib.hid (HB.out.chg hx nmN)
  replace HR := Lib.hid (HR.out.chg hx nmN)
  replace HC := Lib.hid (HC.out.trans hx)
  replace HD := Lib.hid (HD.out.chg hx nmN)
  clear hx
  go_wp2_with fail
  go_ret
  exact ⟨rfl, HC.out⟩

theorem is_ok {P : Pc} (hP : P.on 7) (w : World) : Calls Try.prog 14 #[.agg (pv (ofP P))] w fun e w' => e = .returned (.bool true) ∧ Chg [] w w' := by
  cases P with
  | inf => exact is_inf w
  | aff x y => exact is_on (on_cub hP) w
theorem is_bad {p : Pd} (h : Bad p) (w : World) : Calls Try.prog 14 #[.agg (pv p)] w fun e w' => e = .returned (.bool false) ∧ Chg [] w w' := by
  obtain ⟨x, y, i⟩ := p
  obtain ⟨hx4, hy4, hb⟩ := h
  cases i with
  | true =>
    by_cases hx : x = 0
    · by_cases hy : y = 0
      · subst hx; subst hy
        exact absurd ⟨.inf, trivial, rfl⟩ hb
      · exact is_inf_y hx4 hy4 hx hy w
    · exact is_inf_x hx4 hx w
  | false =>
    by_cases hx : x < PP
    · by_cases hy : y < PP
      · by_cases he : (⟨y, hy⟩ : Fin PP) * ⟨y, hy⟩ = cub ⟨x, hx⟩
        · exact absurd ⟨.aff ⟨x, hx⟩ ⟨y, hy⟩, he, rfl⟩ hb
        · exact is_off he w
      · exact is_y hx4 hy4 hx hy w
    · exact is_x hx4 hx w

end Go.Proofs.Ytplldbmjdnikeaa

/- The document's sum: the walk of wardmoteref03.Add. Printed by refm.py. -/
namespace Go.Proofs.Ytplldbmjdnikeaa
set_option linter.unusedVariables false
set_option linter.unusedSimpArgs false
open Go.RowKit

set_option maxRecDepth 100000 in
set_option maxHeartbeats 8000000 in
theorem ref_add3 {P Q : Pc} (hP : P.on 7) (hQ : Q.on 7) (w : World) :
    Calls Try.prog 12 #[.agg (pv (ofP P)), .agg (pv (ofP Q))] w fun e w' => e = .returned (.tuple #[.agg (pv (ofP (addP P Q))), .int .i64 0]) ∧ Chg [] w w' := by
  have hr := repo_out (repo_pl hP hQ (repo_rin P) (repo_rin Q))
  have c1 := fun w => is_ok hP w
  have c2 := fun w => is_ok hQ w
  have i1 := fun w => ref_inP P w
  have i2 := fun w => ref_inP Q w
  have i3 := fun w => rplus (rin P) (rin Q) w
  have i4 := fun w => ref_out (rpl (rin P) (rin Q)) w
  rw [hr] at i4
  obtain ⟨px, hpx⟩ : ∃ t, (ofP P).x = t := ⟨_, rfl⟩
  obtain ⟨py, hpy⟩ : ∃ t, (ofP P).y = t := ⟨_, rfl⟩
  obtain ⟨pi, hpi⟩ : ∃ t, (ofP P).inf = t := ⟨_, rfl⟩
  obtain ⟨qx, hqx⟩ : ∃ t, (ofP Q).x = t := ⟨_, rfl⟩
  obtain ⟨qy, hqy⟩ : ∃ t, (ofP Q).y = t := ⟨_, rfl⟩
  obtain ⟨qi, hqi⟩ : ∃ t, (ofP Q).inf = t := ⟨_, rfl⟩
  obtain ⟨rx, hrx⟩ : ∃ t, (ofP (addP P Q)).x = t := ⟨_, rfl⟩
  obtain ⟨ry, hry⟩ : ∃ t, (ofP (addP P Q)).y = t := ⟨_, rfl⟩
  obtain ⟨ri, hri⟩ : ∃ t, (ofP (addP P Q)).inf = t := ⟨_, rfl⟩
  have ep : pv (ofP P) = #[.int .u64 (lm px 0 : Nat), .int .u64 (lm px 1 : Nat), .int .u64 (lm px 2 : Nat), .int .u64 (lm px 3 : Nat), .int .u64 (lm py 0 : Nat), .int .u64 (lm py 1 : Nat), .int .u64 (lm py 2 : Nat), .int .u64 (lm py 3 : Nat), .bool pi] := by unfold pv; rw [hpx, hpy, hpi]
  have eq : pv (ofP Q) = #[.int .u64 (lm qx 0 : Nat), .int .u64 (lm qx 1 : Nat), .int .u64 (lm qx 2 : Nat), .int .u64 (lm qx 3 : Nat), .int .u64 (lm qy 0 : Nat), .int .u64 (lm qy 1 : Nat), .int .u64 (lm qy 2 : Nat), .int .u64 (lm qy 3 : Nat), .bool qi] := by unfold pv; rw [hqx, hqy, hqi]
  have er : pv (ofP (addP P Q)) = #[.int .u64 (lm rx 0 : Nat), .int .u64 (lm rx 1 : Nat), .int .u64 (lm rx 2 : Nat), .int .u64 (lm rx 3 : Nat), .int .u64 (lm ry 0 : Nat), .int .u64 (lm ry 1 : Nat), .int .u64 (lm ry 2 : Nat), .int .u64 (lm ry 3 : Nat), .bool ri] := by unfold pv; rw [hrx, hry, hri]
  obtain ⟨ux, hux⟩ : ∃ t, (rin P).x.val = t := ⟨_, rfl⟩
  obtain ⟨uy, huy⟩ : ∃ t, (rin P).y.val = t := ⟨_, rfl⟩
  obtain ⟨uz, huz⟩ : ∃ t, (rin P).z.val = t := ⟨_, rfl⟩
  have eu : ov (rin P) = #[.int .u64 (lm ux 0 : Nat), .int .u64 (lm ux 1 : Nat), .int .u64 (lm ux 2 : Nat), .int .u64 (lm ux 3 : Nat), .int .u64 (lm uy 0 : Nat), .int .u64 (lm uy 1 : Nat), .int .u64 (lm uy 2 : Nat), .int .u64 (lm uy 3 : Nat), .int .u64 (lm uz 0 : Nat), .int .u64 (lm uz 1 : Nat), .int .u64 (lm uz 2 : Nat), .int .u64 (lm uz 3 : Nat)] := by unfold ov; rw [hux, huy, huz]
  obtain ⟨vx, hvx⟩ : ∃ t, (rin Q).x.val = t := ⟨_, rfl⟩
  obtain ⟨vy, hvy⟩ : ∃ t, (rin Q).y.val = t := ⟨_, rfl⟩
  obtain ⟨vz, hvz⟩ : ∃ t, (rin Q).z.val = t := ⟨_, rfl⟩
  have ev : ov (rin Q) = #[.int .u64 (lm vx 0 : Nat), .int .u64 (lm vx 1 : Nat), .int .u64 (lm vx 2 : Nat), .int .u64 (lm vx 3 : Nat), .int .u64 (lm vy 0 : Nat), .int .u64 (lm vy 1 : Nat), .int .u64 (lm vy 2 : Nat), .int .u64 (lm vy 3 : Nat), .int .u64 (lm vz 0 : Nat), .int .u64 (lm vz 1 : Nat), .int .u64 (lm vz 2 : Nat), .int .u64 (lm vz 3 : Nat)] := by unfold ov; rw [hvx, hvy, hvz]
  obtain ⟨sx, hsx⟩ : ∃ t, (rpl (rin P) (rin Q)).x.val = t := ⟨_, rfl⟩
  obtain ⟨sy, hsy⟩ : ∃ t, (rpl (rin P) (rin Q)).y.val = t := ⟨_, rfl⟩
  obtain ⟨sz, hsz⟩ : ∃ t, (rpl (rin P) (rin Q)).z.val = t := ⟨_, rfl⟩
  have es : ov (rpl (rin P) (rin Q)) = #[.int .u64 (lm sx 0 : Nat), .int .u64 (lm sx 1 : Nat), .int .u64 (lm sx 2 : Nat), .int .u64 (lm sx 3 : Nat), .int .u64 (lm sy 0 : Nat), .int .u64 (lm sy 1 : Nat), .int .u64 (lm sy 2 : Nat), .int .u64 (lm sy 3 : Nat), .int .u64 (lm sz 0 : Nat), .int .u64 (lm sz 1 : Nat), .int .u64 (lm sz 2 : Nat), .int .u64 (lm sz 3 : Nat)] := by unfold ov; rw [hsx, hsy, hsz]
  rw [ep] at c1 i1 ⊢
  rw [eq] at c2 i2 ⊢
  rw [er] at i4 ⊢
  rw [eu] at i1 i3
  rw [ev] at i2 i3
  rw [es] at i3 i4
  have C1 := Lib.hid c1; have C2 := Lib.hid c2; have I1 := Lib.hid i1; have I2 := Lib.hid i2; have I3 := Lib.hid i3; have I4 := Lib.hid i4
  clear c1 c2 i1 i2 i3 i4 hr ep eq er eu ev es hpx hpy hpi hqx hqy hqi hrx hry hri hux huy huz hvx hvy hvz hsx hsy hsz hP hQ
  obtain ⟨W0, hW0⟩ : ∃ W0, ((w.alloc (.cells #[.int .u64 (lm px 0 : Nat), .int .u64 (lm px 1 : Nat), .int .u64 (lm px 2 : Nat), .int .u64 (lm px 3 : Nat), .int .u64 (lm py 0 : Nat), .int .u64 (lm py 1 : Nat), .int .u64 (lm py 2 : Nat), .int .u64 (lm py 3 : Nat), .bool pi] 26)).alloc (.cells #[.int .u64 (lm qx 0 : Nat), .int .u64 (lm qx 1 : Nat), .int .u64 (lm qx 2 : Nat), .int .u64 (lm qx 3 : Nat), .int .u64 (lm qy 0 : Nat), .int .u64 (lm qy 1 : Nat), .int .u64 (lm qy 2 : Nat), .int .u64 (lm qy 3 : Nat), .bool qi] 26)).alloc (.cells #[.int .u64 0, .int .u64 0, .int .u64 0, .int .u64 0, .int .u64 0, .int .u64 0, .int .u64 0, .int .u64 0, .bool false] 26) = W0 := ⟨_, rfl⟩
  have Hp := Lib.hid (show U9 W0 (w.heap.size) px py pi by rw [← hW0]; exact has_alloc (has_alloc (has_alloc_new _ _)))
  have Hq := Lib.hid (show U9 W0 (w.heap.size + 1) qx qy qi by rw [← hW0]; exact has_alloc (has_alloc_at (by simp)))
  have HR := Lib.hid (show U9 W0 (w.heap.size + 1 + 1) 0 0 false from U9.zero (by rw [← hW0]; exact has_alloc_at (by simp)))
  have HC := Lib.hid (show Chg [] w W0 by rw [← hW0]; exact (((Chg.refl _ _).alloc _).alloc _).alloc _)
  obtain ⟨p0, p1, p2, p3, p4, p5, p6, p7, p8⟩ := (Hp.out).all
  obtain ⟨q0, q1, q2, q3, q4, q5, q6, q7, q8⟩ := (Hq.out).all
  go_enter Try.func12, Try.ntmps12
  go_wp2_with fail
  try rw [hW0]
  clear hW0
  obtain ⟨P0, hP⟩ : ∃ P, w.heap.size = P := ⟨_, rfl⟩
  rw [hP] at Hp Hq HR p0 p1 p2 p3 p4 p5 p6 p7 p8 q0 q1 q2 q3 q4 q5 q6 q7 q8 ⊢
  obtain ⟨R, hR⟩ : ∃ R, P0 + 1 + 1 = R := ⟨_, rfl⟩
  rw [hR] at HR ⊢
  have hRP : P0 < R := by omega
  have hRP2 : P0 + 1 < R := by omega
  have hPR : P0 ≤ R := by omega
  replace hP := Lib.hid hP
  replace hR := Lib.hid hR
  refine (C1.out _).mono ?_
  rintro e w1 ⟨rfl, hC1⟩
  clear p0 p1 p2 p3 p4 p5 p6 p7 p8
  clear q0 q1 q2 q3 q4 q5 q6 q7 q8
  replace Hp := Lib.hid (Hp.out.chg hC1 nmN)
  replace Hq := Lib.hid (Hq.out.chg hC1 nmN)
  replace HR := Lib.hid (HR.out.chg hC1 nmN)
  replace HC := Lib.hid (HC.out.trans hC1)
  clear hC1
  obtain ⟨p0, p1, p2, p3, p4, p5, p6, p7, p8⟩ := (Hp.out).all
  obtain ⟨q0, q1, q2, q3, q4, q5, q6, q7, q8⟩ := (Hq.out).all
  go_wp2_with fail
  refine (C2.out _).mono ?_
  rintro e w1 ⟨rfl, hC1⟩
  clear p0 p1 p2 p3 p4 p5 p6 p7 p8
  clear q0 q1 q2 q3 q4 q5 q6 q7 q8
  replace Hp := Lib.hid (Hp.out.chg hC1 nmN)
  replace Hq := Lib.hid (Hq.out.chg hC1 nmN)
  replace HR := Lib.hid (HR.out.chg hC1 nmN)
  replace HC := Lib.hid (HC.out.trans hC1)
  clear hC1
  obtain ⟨p0, p1, p2, p3, p4, p5, p6, p7, p8⟩ := (Hp.out).all
  obtain ⟨q0, q1, q2, q3, q4, q5, q6, q7, q8⟩ := (Hq.out).all
  have hRz := HR.out
  unfold U9 at hRz
  rw [lm_zero, lm_zero, lm_zero, lm_zero] at hRz
  go_upto_region 3 with fail
  refine abs_region (B := Chg [R] w1) (S := fun w => Chg [R] w1 w ∧ w.heap[R]? = some (.cells #[.int .u64 0, .int .u64 0, .int .u64 0, .int .u64 0, .int .u64 0, .int .u64 0, .int .u64 0, .int .u64 0, .bool false] 26 (0, 0))) (by kernel_rfl) ⟨(Chg.refl _ _).drew, hRz⟩ ?_
  have hG := good_at [R] w1 R (.cells #[.int .u64 0, .int .u64 0, .int .u64 0, .int .u64 0, .int .u64 0, .int .u64 0, .int .u64 0, .int .u64 0, .bool false] 26 (0, 0))
  refine Abs.take_np (i := 0) (d := some 15) (v := ?_) rfl rfl (by kernel_rfl) (by kernel_rfl) (by kernel_rfl) hG ⟨by rfl, fun w9 hw9 => Or.inl ?_⟩ ?_
  rotate_left
  · replace p0 := hw9.cell p0 (by simp; omega); replace p1 := hw9.cell p1 (by simp; omega); replace p2 := hw9.cell p2 (by simp; omega); replace p3 := hw9.cell p3 (by simp; omega); replace p4 := hw9.cell p4 (by simp; omega); replace p5 := hw9.cell p5 (by simp; omega); replace p6 := hw9.cell p6 (by simp; omega); replace p7 := hw9.cell p7 (by simp; omega); replace p8 := hw9.cell p8 (by simp; omega)
    go_simp
    try with_reducible rfl
  simp only [Act.put, stA, stB, stC]
  refine Abs.take_np (i := 1) (d := some 16) (v := _) rfl rfl (by kernel_rfl) (by kernel_rfl) (by kernel_rfl) hG ⟨by rfl, fun w9 hw9 => Or.inr ⟨_, _, ?_, I1.out w9⟩⟩ ?_
  · go_simp
    try with_reducible rfl
  simp only [Act.put, stA, stB, stC]
  refine Abs.take_np (i := 2) (d := some 17) (v := ?_) rfl rfl (by kernel_rfl) (by kernel_rfl) (by kernel_rfl) hG ⟨by rfl, fun w9 hw9 => Or.inl ?_⟩ ?_
  rotate_left
  · replace q0 := hw9.cell q0 (by simp; omega); replace q1 := hw9.cell q1 (by simp; omega); replace q2 := hw9.cell q2 (by simp; omega); replace q3 := hw9.cell q3 (by simp; omega); replace q4 := hw9.cell q4 (by simp; omega); replace q5 := hw9.cell q5 (by simp; omega); replace q6 := hw9.cell q6 (by simp; omega); replace q7 := hw9.cell q7 (by simp; omega); replace q8 := hw9.cell q8 (by simp; omega)
    go_simp
    try with_reducible rfl
  simp only [Act.put, stA, stB, stC]
  refine Abs.take_np (i := 3) (d := some 18) (v := _) rfl rfl (by kernel_rfl) (by kernel_rfl) (by kernel_rfl) hG ⟨by rfl, fun w9 hw9 => Or.inr ⟨_, _, ?_, I2.out w9⟩⟩ ?_
  · go_simp
    try with_reducible rfl
  simp only [Act.put, stA, stB, stC]
  refine Abs.take_np (i := 4) (d := some 19) (v := _) rfl rfl (by kernel_rfl) (by kernel_rfl) (by kernel_rfl) hG ⟨by rfl, fun w9 hw9 => Or.inr ⟨_, _, ?_, I3.out w9⟩⟩ ?_
  · go_simp
    try with_reducible rfl
  simp only [Act.put, stA, stB, stC]
  refine Abs.take_np (i := 5) (d := some 20) (v := _) rfl rfl (by kernel_rfl) (by kernel_rfl) (by kernel_rfl) hG ⟨by rfl, fun w9 hw9 => Or.inr ⟨_, _, ?_, I4.out w9⟩⟩ ?_
  · go_simp
    try with_reducible rfl
  simp only [Act.put, stA, stB, stC]
  refine Abs.store4 (i := 6) (b := R) (ds := #[.int .u64 (lm rx 0 : Nat), .int .u64 (lm rx 1 : Nat), .int .u64 (lm rx 2 : Nat), .int .u64 (lm rx 3 : Nat), .int .u64 (lm ry 0 : Nat), .int .u64 (lm ry 1 : Nat), .int .u64 (lm ry 2 : Nat), .int .u64 (lm ry 3 : Nat), .bool ri]) rfl (by kernel_rfl) (by rfl) (fun w9 => (((((((((w9.setCell ⟨R, 0, none⟩ (.int .u64 (lm rx 0 : Nat))).setCell ⟨R, 1, none⟩ (.int .u64 (lm rx 1 : Nat))).setCell ⟨R, 2, none⟩ (.int .u64 (lm rx 2 : Nat))).setCell ⟨R, 3, none⟩ (.int .u64 (lm rx 3 : Nat))).setCell ⟨R, 4, none⟩ (.int .u64 (lm ry 0 : Nat))).setCell ⟨R, 5, none⟩ (.int .u64 (lm ry 1 : Nat))).setCell ⟨R, 6, none⟩ (.int .u64 (lm ry 2 : Nat))).setCell ⟨R, 7, none⟩ (.int .u64 (lm ry 3 : Nat))).setCell ⟨R, 8, none⟩ (.bool ri))) (fun w9 h9 => ⟨?_, ?_, ?_⟩) (fun _ _ h k => Chg.keeps (Or.inl (by simp)) h k) (good_chg [R] w1) (fun hG => ?_)
  · have n0 := cell_of_has h9 0; have n1 := cell_of_has h9 1; have n2 := cell_of_has h9 2; have n3 := cell_of_has h9 3; have n4 := cell_of_has h9 4; have n5 := cell_of_has h9 5; have n6 := cell_of_has h9 6; have n7 := cell_of_has h9 7; have n8 := cell_of_has h9 8
    simp only [glA, glB, glC] at n0 n1 n2 n3 n4 n5 n6 n7 n8
    have nz0 := frozen_of_has h9 0; have nz1 := frozen_of_has h9 1; have nz2 := frozen_of_has h9 2; have nz3 := frozen_of_has h9 3; have nz4 := frozen_of_has h9 4; have nz5 := frozen_of_has h9 5; have nz6 := frozen_of_has h9 6; have nz7 := frozen_of_has h9 7; have nz8 := frozen_of_has h9 8
    clear h9
    go_simp
    try with_reducible rfl
  · exact U9.put (U9.zero h9) rx ry ri
  · exact Chg.put9 (Chg.refl _ _) (Or.inl (by simp)) rx ry ri
  refine Abs.at_put (d := none) rfl ?_
  simp only [Act.put, stA, stB, stC]
  refine Abs.take_np (i := 7) (d := some 5) (v := ?_) rfl rfl (by kernel_rfl) (by kernel_rfl) (by kernel_rfl) hG ⟨by rfl, fun w9 hw9 => Or.inl ?_⟩ ?_
  rotate_left
  · go_simp
    try with_reducible rfl
  simp only [Act.put, stA, stB, stC]
  refine Abs.done (by kernel_rfl) (fun wx hx => NoPanic.normal ?_) _
  obtain ⟨hA, hN⟩ := hx
  have hCF : Chg [] w wx := HC.out.trans_new hA (by simp; have := hP.out; omega)
  have g0 := cell_of_has hN 0; have g1 := cell_of_has hN 1; have g2 := cell_of_has hN 2; have g3 := cell_of_has hN 3; have g4 := cell_of_has hN 4; have g5 := cell_of_has hN 5; have g6 := cell_of_has hN 6; have g7 := cell_of_has hN 7; have g8 := cell_of_has hN 8
  simp only [glA, glB, glC] at g0 g1 g2 g3 g4 g5 g6 g7 g8
  go_wp2_with fail
  exact bodyPost_ret (v := .tuple #[.agg #[.int .u64 (lm rx 0 : Nat), .int .u64 (lm rx 1 : Nat), .int .u64 (lm rx 2 : Nat), .int .u64 (lm rx 3 : Nat), .int .u64 (lm ry 0 : Nat), .int .u64 (lm ry 1 : Nat), .int .u64 (lm ry 2 : Nat), .int .u64 (lm ry 3 : Nat), .bool ri], .int .i64 0]) (by simp [results, Try.results12, go_sem, g0, g1, g2, g3, g4, g5, g6, g7, g8]) rfl ⟨rfl, hCF⟩

set_option maxRecDepth 100000 in
set_option maxHeartbeats 8000000 in
theorem ref_add3_l {p q : Pd} (hb : Bad p) (w : World) :
    Calls Try.prog 12 #[.agg (pv p), .agg (pv q)] w fun e w' => e = .returned (.tuple #[.agg (pv ⟨0, 0, false⟩), .int .i64 30]) ∧ Chg [] w w' := by
  obtain ⟨px, py, pi⟩ := p
  obtain ⟨qx, qy, qi⟩ := q
  have c1 := fun w => is_bad hb w
  clear hb
  unfold pv at *
  have C1 := Lib.hid c1
  clear c1 
  obtain ⟨W0, hW0⟩ : ∃ W0, ((w.alloc (.cells #[.int .u64 (lm px 0 : Nat), .int .u64 (lm px 1 : Nat), .int .u64 (lm px 2 : Nat), .int .u64 (lm px 3 : Nat), .int .u64 (lm py 0 : Nat), .int .u64 (lm py 1 : Nat), .int .u64 (lm py 2 : Nat), .int .u64 (lm py 3 : Nat), .bool pi] 26)).alloc (.cells #[.int .u64 (lm qx 0 : Nat), .int .u64 (lm qx 1 : Nat), .int .u64 (lm qx 2 : Nat), .int .u64 (lm qx 3 : Nat), .int .u64 (lm qy 0 : Nat), .int .u64 (lm qy 1 : Nat), .int .u64 (lm qy 2 : Nat), .int .u64 (lm qy 3 : Nat), .bool qi] 26)).alloc (.cells #[.int .u64 0, .int .u64 0, .int .u64 0, .int .u64 0, .int .u64 0, .int .u64 0, .int .u64 0, .int .u64 0, .bool false] 26) = W0 := ⟨_, rfl⟩
  have Hp := Lib.hid (show U9 W0 (w.heap.size) px py pi by rw [← hW0]; exact has_alloc (has_alloc (has_alloc_new _ _)))
  have Hq := Lib.hid (show U9 W0 (w.heap.size + 1) qx qy qi by rw [← hW0]; exact has_alloc (has_alloc_at (by simp)))
  have HR := Lib.hid (show U9 W0 (w.heap.size + 1 + 1) 0 0 false from U9.zero (by rw [← hW0]; exact has_alloc_at (by simp)))
  have HC := Lib.hid (show Chg [] w W0 by rw [← hW0]; exact (((Chg.refl _ _).alloc _).alloc _).alloc _)
  obtain ⟨p0, p1, p2, p3, p4, p5, p6, p7, p8⟩ := (Hp.out).all
  obtain ⟨q0, q1, q2, q3, q4, q5, q6, q7, q8⟩ := (Hq.out).all
  go_enter Try.func12, Try.ntmps12
  go_wp2_with fail
  try rw [hW0]
  clear hW0
  obtain ⟨P0, hP⟩ : ∃ P, w.heap.size = P := ⟨_, rfl⟩
  rw [hP] at Hp Hq HR p0 p1 p2 p3 p4 p5 p6 p7 p8 q0 q1 q2 q3 q4 q5 q6 q7 q8 ⊢
  obtain ⟨R, hR⟩ : ∃ R, P0 + 1 + 1 = R := ⟨_, rfl⟩
  rw [hR] at HR ⊢
  have hRP : P0 < R := by omega
  have hRP2 : P0 + 1 < R := by omega
  have hPR : P0 ≤ R := by omega
  replace hP := Lib.hid hP
  replace hR := Lib.hid hR
  refine (C1.out _).mono ?_
  rintro e w1 ⟨rfl, hC1⟩
  clear p0 p1 p2 p3 p4 p5 p6 p7 p8
  clear q0 q1 q2 q3 q4 q5 q6 q7 q8
  replace Hp := Lib.hid (Hp.out.chg hC1 nmN)
  replace Hq := Lib.hid (Hq.out.chg hC1 nmN)
  replace HR := Lib.hid (HR.out.chg hC1 nmN)
  replace HC := Lib.hid (HC.out.trans hC1)
  clear hC1
  obtain ⟨p0, p1, p2, p3, p4, p5, p6, p7, p8⟩ := (Hp.out).all
  obtain ⟨q0, q1, q2, q3, q4, q5, q6, q7, q8⟩ := (Hq.out).all
  clear p0 p1 p2 p3 p4 p5 p6 p7 p8
  clear q0 q1 q2 q3 q4 q5 q6 q7 q8
  go_upto_region 2 with fail
  have hRz := HR.out
  obtain ⟨n0, n1, n2, n3, n4, n5, n6, n7, n8⟩ := hRz.all
  have nz0 := hRz.fz 0; have nz1 := hRz.fz 1; have nz2 := hRz.fz 2; have nz3 := hRz.fz 3; have nz4 := hRz.fz 4; have nz5 := hRz.fz 5; have nz6 := hRz.fz 6; have nz7 := hRz.fz 7; have nz8 := hRz.fz 8
  have hll := hRz.lt
  rw [lm_zero] at n0 n1 n2 n3 n4 n5 n6 n7
  have hF9 := hRz.put 0 0 false; have hCF9 := HC.out.put9 (b := R) (Or.inr (by have := hP.out; omega)) 0 0 false
  simp only [put9, lm_zero] at hF9 hCF9
  have HF9 := Lib.hid hF9; have HCF := Lib.hid hCF9
  clear hRz hF9 hCF9
  go_wp2_with fail
  have hF := HF9.out; have hCF := HCF.out
  refine (id ?_ : bodyPost _ _ _ _ _ ((((((((((w1.setCell ⟨R, 0, none⟩ (.int .u64 ((0 : Nat) : Int))).setCell ⟨R, 1, none⟩ (.int .u64 ((0 : Nat) : Int))).setCell ⟨R, 2, none⟩ (.int .u64 ((0 : Nat) : Int))).setCell ⟨R, 3, none⟩ (.int .u64 ((0 : Nat) : Int))).setCell ⟨R, 4, none⟩ (.int .u64 ((0 : Nat) : Int))).setCell ⟨R, 5, none⟩ (.int .u64 ((0 : Nat) : Int))).setCell ⟨R, 6, none⟩ (.int .u64 ((0 : Nat) : Int))).setCell ⟨R, 7, none⟩ (.int .u64 ((0 : Nat) : Int))).setCell ⟨R, 8, none⟩ (.bool false))))
  clear HF9 HCF
  generalize (((((((((w1.setCell ⟨R, 0, none⟩ (.int .u64 ((0 : Nat) : Int))).setCell ⟨R, 1, none⟩ (.int .u64 ((0 : Nat) : Int))).setCell ⟨R, 2, none⟩ (.int .u64 ((0 : Nat) : Int))).setCell ⟨R, 3, none⟩ (.int .u64 ((0 : Nat) : Int))).setCell ⟨R, 4, none⟩ (.int .u64 ((0 : Nat) : Int))).setCell ⟨R, 5, none⟩ (.int .u64 ((0 : Nat) : Int))).setCell ⟨R, 6, none⟩ (.int .u64 ((0 : Nat) : Int))).setCell ⟨R, 7, none⟩ (.int .u64 ((0 : Nat) : Int))).setCell ⟨R, 8, none⟩ (.bool false)) = W5 at *
  obtain ⟨g0, g1, g2, g3, g4, g5, g6, g7, g8⟩ := hF.all
  rw [lm_zero] at g0 g1 g2 g3 g4 g5 g6 g7
  exact bodyPost_ret (v := .tuple #[.agg #[.int .u64 (lm 0 0 : Nat), .int .u64 (lm 0 1 : Nat), .int .u64 (lm 0 2 : Nat), .int .u64 (lm 0 3 : Nat), .int .u64 (lm 0 0 : Nat), .int .u64 (lm 0 1 : Nat), .int .u64 (lm 0 2 : Nat), .int .u64 (lm 0 3 : Nat), .bool false], .int .i64 30]) (by simp [results, Try.results12, go_sem, lm_zero, g0, g1, g2, g3, g4, g5, g6, g7, g8]) rfl ⟨rfl, hCF⟩

set_option maxRecDepth 100000 in
set_option maxHeartbeats 8000000 in
theorem ref_add3_r {p q : Pd} {P : Pc} (hP : P.on 7) (hp : p = ofP P) (hb : Bad q) (w : World) :
    Calls Try.prog 12 #[.agg (pv p), .agg (pv q)] w fun e w' => e = .returned (.tuple #[.agg (pv ⟨0, 0, false⟩), .int .i64 30]) ∧ Chg [] w w' := by
  obtain ⟨px, py, pi⟩ := p
  obtain ⟨qx, qy, qi⟩ := q
  have c1 := fun w => is_ok hP w
  have c2 := fun w => is_bad hb w
  rw [← hp] at c1
  clear hb hp
  unfold pv at *
  have C1 := Lib.hid c1; have C2 := Lib.hid c2
  clear c1 c2
  obtain ⟨W0, hW0⟩ : ∃ W0, ((w.alloc (.cells #[.int .u64 (lm px 0 : Nat), .int .u64 (lm px 1 : Nat), .int .u64 (lm px 2 : Nat), .int .u64 (lm px 3 : Nat), .int .u64 (lm py 0 : Nat), .int .u64 (lm py 1 : Nat), .int .u64 (lm py 2 : Nat), .int .u64 (lm py 3 : Nat), .bool pi] 26)).alloc (.cells #[.int .u64 (lm qx 0 : Nat), .int .u64 (lm qx 1 : Nat), .int .u64 (lm qx 2 : Nat), .int .u64 (lm qx 3 : Nat), .int .u64 (lm qy 0 : Nat), .int .u64 (lm qy 1 : Nat), .int .u64 (lm qy 2 : Nat), .int .u64 (lm qy 3 : Nat), .bool qi] 26)).alloc (.cells #[.int .u64 0, .int .u64 0, .int .u64 0, .int .u64 0, .int .u64 0, .int .u64 0, .int .u64 0, .int .u64 0, .bool false] 26) = W0 := ⟨_, rfl⟩
  have Hp := Lib.hid (show U9 W0 (w.heap.size) px py pi by rw [← hW0]; exact has_alloc (has_alloc (has_alloc_new _ _)))
  have Hq := Lib.hid (show U9 W0 (w.heap.size + 1) qx qy qi by rw [← hW0]; exact has_alloc (has_alloc_at (by simp)))
  have HR := Lib.hid (show U9 W0 (w.heap.size + 1 + 1) 0 0 false from U9.zero (by rw [← hW0]; exact has_alloc_at (by simp)))
  have HC := Lib.hid (show Chg [] w W0 by rw [← hW0]; exact (((Chg.refl _ _).alloc _).alloc _).alloc _)
  obtain ⟨p0, p1, p2, p3, p4, p5, p6, p7, p8⟩ := (Hp.out).all
  obtain ⟨q0, q1, q2, q3, q4, q5, q6, q7, q8⟩ := (Hq.out).all
  go_enter Try.func12, Try.ntmps12
  go_wp2_with fail
  try rw [hW0]
  clear hW0
  obtain ⟨P0, hP⟩ : ∃ P, w.heap.size = P := ⟨_, rfl⟩
  rw [hP] at Hp Hq HR p0 p1 p2 p3 p4 p5 p6 p7 p8 q0 q1 q2 q3 q4 q5 q6 q7 q8 ⊢
  obtain ⟨R, hR⟩ : ∃ R, P0 + 1 + 1 = R := ⟨_, rfl⟩
  rw [hR] at HR ⊢
  have hRP : P0 < R := by omega
  have hRP2 : P0 + 1 < R := by omega
  have hPR : P0 ≤ R := by omega
  replace hP := Lib.hid hP
  replace hR := Lib.hid hR
  refine (C1.out _).mono ?_
  rintro e w1 ⟨rfl, hC1⟩
  clear p0 p1 p2 p3 p4 p5 p6 p7 p8
  clear q0 q1 q2 q3 q4 q5 q6 q7 q8
  replace Hp := Lib.hid (Hp.out.chg hC1 nmN)
  replace Hq := Lib.hid (Hq.out.chg hC1 nmN)
  replace HR := Lib.hid (HR.out.chg hC1 nmN)
  replace HC := Lib.hid (HC.out.trans hC1)
  clear hC1
  obtain ⟨p0, p1, p2, p3, p4, p5, p6, p7, p8⟩ := (Hp.out).all
  obtain ⟨q0, q1, q2, q3, q4, q5, q6, q7, q8⟩ := (Hq.out).all
  go_wp2_with fail
  refine (C2.out _).mono ?_
  rintro e w1 ⟨rfl, hC1⟩
  clear p0 p1 p2 p3 p4 p5 p6 p7 p8
  clear q0 q1 q2 q3 q4 q5 q6 q7 q8
  replace Hp := Lib.hid (Hp.out.chg hC1 nmN)
  replace Hq := Lib.hid (Hq.out.chg hC1 nmN)
  replace HR := Lib.hid (HR.out.chg hC1 nmN)
  replace HC := Lib.hid (HC.out.trans hC1)
  clear hC1
  obtain ⟨p0, p1, p2, p3, p4, p5, p6, p7, p8⟩ := (Hp.out).all
  obtain ⟨q0, q1, q2, q3, q4, q5, q6, q7, q8⟩ := (Hq.out).all
  clear p0 p1 p2 p3 p4 p5 p6 p7 p8
  clear q0 q1 q2 q3 q4 q5 q6 q7 q8
  go_upto_region 2 with fail
  have hRz := HR.out
  obtain ⟨n0, n1, n2, n3, n4, n5, n6, n7, n8⟩ := hRz.all
  have nz0 := hRz.fz 0; have nz1 := hRz.fz 1; have nz2 := hRz.fz 2; have nz3 := hRz.fz 3; have nz4 := hRz.fz 4; have nz5 := hRz.fz 5; have nz6 := hRz.fz 6; have nz7 := hRz.fz 7; have nz8 := hRz.fz 8
  have hll := hRz.lt
  rw [lm_zero] at n0 n1 n2 n3 n4 n5 n6 n7
  have hF9 := hRz.put 0 0 false; have hCF9 := HC.out.put9 (b := R) (Or.inr (by have := hP.out; omega)) 0 0 false
  simp only [put9, lm_zero] at hF9 hCF9
  have HF9 := Lib.hid hF9; have HCF := Lib.hid hCF9
  clear hRz hF9 hCF9
  go_wp2_with fail
  have hF := HF9.out; have hCF := HCF.out
  refine (id ?_ : bodyPost _ _ _ _ _ ((((((((((w1.setCell ⟨R, 0, none⟩ (.int .u64 ((0 : Nat) : Int))).setCell ⟨R, 1, none⟩ (.int .u64 ((0 : Nat) : Int))).setCell ⟨R, 2, none⟩ (.int .u64 ((0 : Nat) : Int))).setCell ⟨R, 3, none⟩ (.int .u64 ((0 : Nat) : Int))).setCell ⟨R, 4, none⟩ (.int .u64 ((0 : Nat) : Int))).setCell ⟨R, 5, none⟩ (.int .u64 ((0 : Nat) : Int))).setCell ⟨R, 6, none⟩ (.int .u64 ((0 : Nat) : Int))).setCell ⟨R, 7, none⟩ (.int .u64 ((0 : Nat) : Int))).setCell ⟨R, 8, none⟩ (.bool false))))
  clear HF9 HCF
  generalize (((((((((w1.setCell ⟨R, 0, none⟩ (.int .u64 ((0 : Nat) : Int))).setCell ⟨R, 1, none⟩ (.int .u64 ((0 : Nat) : Int))).setCell ⟨R, 2, none⟩ (.int .u64 ((0 : Nat) : Int))).setCell ⟨R, 3, none⟩ (.int .u64 ((0 : Nat) : Int))).setCell ⟨R, 4, none⟩ (.int .u64 ((0 : Nat) : Int))).setCell ⟨R, 5, none⟩ (.int .u64 ((0 : Nat) : Int))).setCell ⟨R, 6, none⟩ (.int .u64 ((0 : Nat) : Int))).setCell ⟨R, 7, none⟩ (.int .u64 ((0 : Nat) : Int))).setCell ⟨R, 8, none⟩ (.bool false)) = W5 at *
  obtain ⟨g0, g1, g2, g3, g4, g5, g6, g7, g8⟩ := hF.all
  rw [lm_zero] at g0 g1 g2 g3 g4 g5 g6 g7
  exact bodyPost_ret (v := .tuple #[.agg #[.int .u64 (lm 0 0 : Nat), .int .u64 (lm 0 1 : Nat), .int .u64 (lm 0 2 : Nat), .int .u64 (lm 0 3 : Nat), .int .u64 (lm 0 0 : Nat), .int .u64 (lm 0 1 : Nat), .int .u64 (lm 0 2 : Nat), .int .u64 (lm 0 3 : Nat), .bool false], .int .i64 30]) (by simp [results, Try.results12, go_sem, lm_zero, g0, g1, g2, g3, g4, g5, g6, g7, g8]) rfl ⟨rfl, hCF⟩

end Go.Proofs.Ytplldbmjdnikeaa

/- The generator, and the law's help that asks of it. Printed by refn.py. -/
namespace Go.Proofs.Ytplldbmjdnikeaa
set_option linter.unusedVariables false
set_option linter.unusedSimpArgs false
open Go.RowKit

def gx : Fin PP := ⟨55066263022277343669578718895168534326250603453777594175500187360389116729240, by decide +kernel⟩
def gy : Fin PP := ⟨32670510020758816978083085130507043184471273380659243275938904335757337482424, by decide +kernel⟩
/-- The generator. -/
def Gp : Pc := .aff gx gy
theorem on_G : Gp.on 7 := by
  show gy * gy = gx * gx * gx + 7
  decide +kernel
theorem pv_G : pv (ofP Gp) = #[.int .u64 6481385041966929816, .int .u64 188021827762530521, .int .u64 6170039885052185351, .int .u64 8772561819708210092, .int .u64 11261198710074299576, .int .u64 18237243440184513561, .int .u64 6747795201694173352, .int .u64 5204712524664259685, .bool false] := by
  show (#[.int .u64 (lm gx.val 0 : Nat), .int .u64 (lm gx.val 1 : Nat), .int .u64 (lm gx.val 2 : Nat), .int .u64 (lm gx.val 3 : Nat), .int .u64 (lm gy.val 0 : Nat), .int .u64 (lm gy.val 1 : Nat), .int .u64 (lm gy.val 2 : Nat), .int .u64 (lm gy.val 3 : Nat), .bool false] : Array Value) = _
  rw [show lm gx.val 0 = 6481385041966929816 by decide +kernel, show lm gx.val 1 = 188021827762530521 by decide +kernel, show lm gx.val 2 = 6170039885052185351 by decide +kernel, show lm gx.val 3 = 8772561819708210092 by decide +kernel, show lm gy.val 0 = 11261198710074299576 by decide +kernel, show lm gy.val 1 = 18237243440184513561 by decide +kernel, show lm gy.val 2 = 6747795201694173352 by decide +kernel, show lm gy.val 3 = 5204712524664259685 by decide +kernel]
  rfl

set_option maxRecDepth 100000 in
set_option maxHeartbeats 4000000 in
theorem curve_G (w : World) : Calls Try.prog 47 #[] w fun e w' => e = .returned (.agg (pv (ofP Gp))) ∧ Chg [] w w' := by
  rw [pv_G]
  go_enter Try.func47, Try.ntmps47
  go_wp2_with fail
  refine bodyPost_ret (v := .agg #[.int .u64 6481385041966929816, .int .u64 188021827762530521, .int .u64 6170039885052185351, .int .u64 8772561819708210092, .int .u64 11261198710074299576, .int .u64 18237243440184513561, .int .u64 6747795201694173352, .int .u64 5204712524664259685, .bool false]) (by simp [results, Try.results47, go_sem]) rfl ⟨rfl, ?_⟩
  repeat (with_reducible first | exact Chg.refl _ _ | apply Chg.alloc | refine Chg.setCell ?_ (Or.inr (by simp)) _)

set_option maxRecDepth 100000 in
set_option maxHeartbeats 4000000 in
theorem ref_G (w : World) : Calls Try.prog 48 #[] w fun e w' => e = .returned (.agg (pv (ofP Gp))) ∧ Chg [] w w' := by
  rw [pv_G]
  go_enter Try.func48, Try.ntmps48
  go_wp2_with fail
  refine bodyPost_ret (v := .agg #[.int .u64 6481385041966929816, .int .u64 188021827762530521, .int .u64 6170039885052185351, .int .u64 8772561819708210092, .int .u64 11261198710074299576, .int .u64 18237243440184513561, .int .u64 6747795201694173352, .int .u64 5204712524664259685, .bool false]) (by simp [results, Try.results48, go_sem]) rfl ⟨rfl, ?_⟩
  repeat (with_reducible first | exact Chg.refl _ _ | apply Chg.alloc | refine Chg.setCell ?_ (Or.inr (by simp)) _)

/-- '==' on two numbers inside a struct. -/
theorem num_eq9 {a b : Nat} (ha : a < B6 ^ 4) (hb : b < B6 ^ 4) (w : World) :
    (Op.equalIn 9999 24 (.agg #[.int .u64 (lm a 0 : Nat), .int .u64 (lm a 1 : Nat), .int .u64 (lm a 2 : Nat), .int .u64 (lm a 3 : Nat)]) (.agg #[.int .u64 (lm b 0 : Nat), .int .u64 (lm b 1 : Nat), .int .u64 (lm b 2 : Nat), .int .u64 (lm b 3 : Nat)])).run Try.prog w = .ok (decide (a = b)) w := by
  rw [num_eql (k := 9997)]
  congr 1
  by_cases h : a = b
  · subst h; simp
  · rw [decide_eq_false h]
    have : ∃ k, k < 4 ∧ lm a k ≠ lm b k := by
      apply Classical.byContradiction
      intro hn
      exact h (lm_inj ha hb fun k hk => Classical.byContradiction fun e => hn ⟨k, hk, e⟩)
    obtain ⟨k, hk, hne⟩ := this
    have h4 : k = 0 ∨ k = 1 ∨ k = 2 ∨ k = 3 := by omega
    have hi : ∀ x y : Nat, x ≠ y → ((x : Int) == (y : Int)) = false := fun x y h => by simp; omega
    rcases h4 with rfl | rfl | rfl | rfl <;> simp only [hi _ _ hne, Bool.false_and, Bool.and_false]
theorem num_eq90 (w : World) : (Op.equalIn 9999 24 (.agg #[.int .u64 0, .int .u64 0, .int .u64 0, .int .u64 0]) (.agg #[.int .u64 0, .int .u64 0, .int .u64 0, .int .u64 0])).run Try.prog w = .ok true w := by
  have h := num_eq9 (a := 0) (b := 0) (by decide) (by decide) w
  rw [lm_zero, lm_zero, lm_zero, lm_zero, show decide (0 = 0) = true from rfl] at h
  exact h

set_option maxRecDepth 100000 in
set_option maxHeartbeats 8000000 in
theorem law_g (w : World) : Calls Try.prog 17 #[] w fun e w' => e = .returned (.bool true) ∧ Chg [] w w' := by
  have hs : addP Gp Gp.neg = .inf := add_neg inv_PP two_PP on_G
  have c1 := fun w => curve_G w
  have c2 := fun w => curve_neg on_G w
  have c3 := fun w => curve_add on_G (on_neg on_G) w
  have c4 := fun w => ref_G w
  rw [hs] at c3
  have hinf : pv (ofP .inf) = #[.int .u64 (lm 0 0 : Nat), .int .u64 (lm 0 1 : Nat), .int .u64 (lm 0 2 : Nat), .int .u64 (lm 0 3 : Nat), .int .u64 (lm 0 0 : Nat), .int .u64 (lm 0 1 : Nat), .int .u64 (lm 0 2 : Nat), .int .u64 (lm 0 3 : Nat), .bool true] := rfl
  rw [hinf] at c3
  obtain ⟨px, hpx⟩ : ∃ t, (ofP Gp).x = t := ⟨_, rfl⟩
  obtain ⟨py, hpy⟩ : ∃ t, (ofP Gp).y = t := ⟨_, rfl⟩
  obtain ⟨pi, hpi⟩ : ∃ t, (ofP Gp).inf = t := ⟨_, rfl⟩
  have ep : pv (ofP Gp) = #[.int .u64 (lm px 0 : Nat), .int .u64 (lm px 1 : Nat), .int .u64 (lm px 2 : Nat), .int .u64 (lm px 3 : Nat), .int .u64 (lm py 0 : Nat), .int .u64 (lm py 1 : Nat), .int .u64 (lm py 2 : Nat), .int .u64 (lm py 3 : Nat), .bool pi] := by unfold pv; rw [hpx, hpy, hpi]
  obtain ⟨qx, hqx⟩ : ∃ t, (ofP Gp.neg).x = t := ⟨_, rfl⟩
  obtain ⟨qy, hqy⟩ : ∃ t, (ofP Gp.neg).y = t := ⟨_, rfl⟩
  obtain ⟨qi, hqi⟩ : ∃ t, (ofP Gp.neg).inf = t := ⟨_, rfl⟩
  have eq : pv (ofP Gp.neg) = #[.int .u64 (lm qx 0 : Nat), .int .u64 (lm qx 1 : Nat), .int .u64 (lm qx 2 : Nat), .int .u64 (lm qx 3 : Nat), .int .u64 (lm qy 0 : Nat), .int .u64 (lm qy 1 : Nat), .int .u64 (lm qy 2 : Nat), .int .u64 (lm qy 3 : Nat), .bool qi] := by unfold pv; rw [hqx, hqy, hqi]
  have hpx4 : px < B6 ^ 4 := by rw [← hpx]; exact val_lt4 gx
  have hpy4 : py < B6 ^ 4 := by rw [← hpy]; exact val_lt4 gy
  have e1 := fun w => num_eq9 hpx4 hpx4 w
  have e2 := fun w => num_eq9 hpy4 hpy4 w
  have e3 : ∀ w : World, (Op.equalIn 9999 24 (.agg #[.int .u64 0, .int .u64 0, .int .u64 0, .int .u64 0]) (.agg #[.int .u64 0, .int .u64 0, .int .u64 0, .int .u64 0])).run Try.prog w = .ok true w := fun w => num_eq90 w
  simp only [decide_true] at e1 e2
  rw [ep] at c1 c2 c3 c4
  rw [eq] at c2 c3
  have hl := lm_zero
  have C1 := Lib.hid c1; have C2 := Lib.hid c2; have C3 := Lib.hid c3; have C4 := Lib.hid c4
  clear c1 c2 c3 c4 hs hinf hpx hpy hpi ep hqx hqy hqi eq hpx4 hpy4 hl
  go_enter Try.func17, Try.ntmps17
  go_wp2_with fail
  refine (C1.out _).mono ?_
  rintro e w1 ⟨rfl, hC1⟩
  have HC := Lib.hid hC1
  clear hC1
  go_wp2_with fail
  refine (C2.out _).mono ?_
  rintro e w2 ⟨rfl, hC1⟩
  replace HC := Lib.hid (HC.out.trans hC1)
  clear hC1
  obtain ⟨W1, hW1⟩ : ∃ W1, w2.alloc (.cells #[.int .u64 (lm qx 0 : Nat), .int .u64 (lm qx 1 : Nat), .int .u64 (lm qx 2 : Nat), .int .u64 (lm qx 3 : Nat), .int .u64 (lm qy 0 : Nat), .int .u64 (lm qy 1 : Nat), .int .u64 (lm qy 2 : Nat), .int .u64 (lm qy 3 : Nat), .bool qi] 26) = W1 := ⟨_, rfl⟩
  have hA : Chg [] w2 W1 := by rw [← hW1]; exact (Chg.refl _ _).alloc _
  have hN : U9 W1 w2.heap.size qx qy qi := by rw [← hW1]; exact has_alloc_new _ _
  obtain ⟨bn, hb⟩ : ∃ b, w2.heap.size = b := ⟨_, rfl⟩
  rw [hb] at hN
  replace HC := Lib.hid (HC.out.trans hA)
  have HN := Lib.hid hN
  have HW1 := Lib.hid hW1; have Hb := Lib.hid hb
  obtain ⟨q0, q1, q2, q3, q4, q5, q6, q7, q8⟩ := hN.all
  clear hW1 hb hA hN
  go_upto_region 2 with fail
  try rw [HW1.out]
  try rw [Hb.out]
  clear HW1 Hb
  refine abs_region (B := Chg [] W1) (S := Chg [] W1) (by kernel_rfl) ((Chg.refl _ _).drew) ?_
  have hG := good_chg [] W1
  refine Abs.take_np (i := 0) (d := some 11) (v := _) rfl rfl (by kernel_rfl) (by kernel_rfl) (by kernel_rfl) hG ⟨by rfl, fun w9 hw9 => Or.inr ⟨_, _, ?_, C1.out w9⟩⟩ ?_
  · go_simp
    try with_reducible rfl
  simp only [Act.put, stA, stB, stC]
  refine Abs.take_np (i := 1) (d := some 12) (v := ?_) rfl rfl (by kernel_rfl) (by kernel_rfl) (by kernel_rfl) hG ⟨by rfl, fun w9 hw9 => Or.inl ?_⟩ ?_
  rotate_left
  · replace q0 := hw9.cell q0 nmN; replace q1 := hw9.cell q1 nmN; replace q2 := hw9.cell q2 nmN; replace q3 := hw9.cell q3 nmN; replace q4 := hw9.cell q4 nmN; replace q5 := hw9.cell q5 nmN; replace q6 := hw9.cell q6 nmN; replace q7 := hw9.cell q7 nmN; replace q8 := hw9.cell q8 nmN
    go_simp
    try with_reducible rfl
  simp only [Act.put, stA, stB, stC]
  refine Abs.take_np (i := 2) (d := some 13) (v := _) rfl rfl (by kernel_rfl) (by kernel_rfl) (by kernel_rfl) hG ⟨by rfl, fun w9 hw9 => Or.inr ⟨_, _, ?_, C3.out w9⟩⟩ ?_
  · go_simp
    try with_reducible rfl
  simp only [Act.put, stA, stB, stC]
  refine Abs.take_np (i := 3) (d := some 10) (v := ?_) rfl rfl (by kernel_rfl) (by kernel_rfl) (by kernel_rfl) hG ⟨by rfl, fun w9 hw9 => Or.inl ?_⟩ ?_
  rotate_left
  · go_simp
    try with_reducible rfl
  simp only [Act.put, stA, stB, stC]
  refine Abs.take_np (i := 4) (d := some 14) (v := ?_) rfl rfl (by kernel_rfl) (by kernel_rfl) (by kernel_rfl) hG ⟨by rfl, fun w9 hw9 => Or.inl ?_⟩ ?_
  rotate_left
  · go_simp
    try with_reducible rfl
  simp only [Act.put, stA, stB, stC]
  refine Abs.take_np (i := 5) (d := some 15) (v := ?_) rfl rfl (by kernel_rfl) (by kernel_rfl) (by kernel_rfl) hG ⟨by rfl, fun w9 hw9 => Or.inl ?_⟩ ?_
  rotate_left
  · go_simp
    try with_reducible rfl
  simp only [Act.put, stA, stB, stC]
  refine Abs.allocN (i := 6) (t := 26) (X := []) (W := W1) #[.int .u64 0, .int .u64 0, .int .u64 0, .int .u64 0, .int .u64 0, .int .u64 0, .int .u64 0, .int .u64 0, .bool false] rfl rfl (by kernel_rfl) (by rfl) hG (fun _ h => h) (fun w9 => ?_) (fun bs hbs hG => ?_)
  · go_simp
    try with_reducible rfl
  simp only [Act.put, stA, stB, stC]
  refine Abs.store4 (i := 7) (b := bs) (ds := #[.int .u64 (lm 0 0 : Nat), .int .u64 (lm 0 1 : Nat), .int .u64 (lm 0 2 : Nat), .int .u64 (lm 0 3 : Nat), .int .u64 (lm 0 0 : Nat), .int .u64 (lm 0 1 : Nat), .int .u64 (lm 0 2 : Nat), .int .u64 (lm 0 3 : Nat), .bool true]) rfl (by kernel_rfl) (by rfl) (fun w9 => (((((((((w9.setCell ⟨bs, 0, none⟩ (.int .u64 (lm 0 0 : Nat))).setCell ⟨bs, 1, none⟩ (.int .u64 (lm 0 1 : Nat))).setCell ⟨bs, 2, none⟩ (.int .u64 (lm 0 2 : Nat))).setCell ⟨bs, 3, none⟩ (.int .u64 (lm 0 3 : Nat))).setCell ⟨bs, 4, none⟩ (.int .u64 (lm 0 0 : Nat))).setCell ⟨bs, 5, none⟩ (.int .u64 (lm 0 1 : Nat))).setCell ⟨bs, 6, none⟩ (.int .u64 (lm 0 2 : Nat))).setCell ⟨bs, 7, none⟩ (.int .u64 (lm 0 3 : Nat))).setCell ⟨bs, 8, none⟩ (.bool true))) (fun w9 h9 => ⟨?_, ?_, ?_⟩) (fun _ _ h k => Chg.keeps (Or.inr hbs) h k) (good_chg [] W1) (fun hG => ?_)
  · have n0 := cell_of_has h9 0; have n1 := cell_of_has h9 1; have n2 := cell_of_has h9 2; have n3 := cell_of_has h9 3; have n4 := cell_of_has h9 4; have n5 := cell_of_has h9 5; have n6 := cell_of_has h9 6; have n7 := cell_of_has h9 7; have n8 := cell_of_has h9 8
    simp only [glA, glB, glC] at n0 n1 n2 n3 n4 n5 n6 n7 n8
    have nz0 := frozen_of_has h9 0; have nz1 := frozen_of_has h9 1; have nz2 := frozen_of_has h9 2; have nz3 := frozen_of_has h9 3; have nz4 := frozen_of_has h9 4; have nz5 := frozen_of_has h9 5; have nz6 := frozen_of_has h9 6; have nz7 := frozen_of_has h9 7; have nz8 := frozen_of_has h9 8
    clear h9
    go_simp
    try with_reducible rfl
  · exact U9.put (U9.zero h9) 0 0 true
  · exact Chg.put9 (Chg.refl _ _) (Or.inl (by simp)) 0 0 true
  refine Abs.at_put (d := none) rfl ?_
  simp only [Act.put, stA, stB, stC]
  refine Abs.take_np (i := 8) (d := some 4) (v := ?_) rfl rfl (by kernel_rfl) (by kernel_rfl) (by kernel_rfl) hG ⟨by rfl, fun w9 hw9 => Or.inl ?_⟩ ?_
  rotate_left
  · go_simp
    try with_reducible rfl
  simp only [Act.put, stA, stB, stC]
  refine Abs.done (by kernel_rfl) (fun wx hx => NoPanic.normal ?_) _
  clear q0 q1 q2 q3 q4 q5 q6 q7 q8
  obtain ⟨hA, hN⟩ := hx
  have hN : U9 wx bs 0 0 true := hN
  replace HC := Lib.hid (HC.out.trans hA)
  have HS := Lib.hid hN
  clear hA hN hbs
  go_wp2_with fail
  refine (C1.out _).mono ?_
  rintro e w3 ⟨rfl, hC1⟩
  replace HC := Lib.hid (HC.out.trans hC1)
  replace HS := Lib.hid (HS.out.chg hC1 nmN)
  clear hC1
  go_wp2_with fail
  refine (C4.out _).mono ?_
  rintro e w4 ⟨rfl, hC1⟩
  replace HC := Lib.hid (HC.out.trans hC1)
  replace HS := Lib.hid (HS.out.chg hC1 nmN)
  clear hC1
  obtain ⟨s0, s1, s2, s3, s4, s5, s6, s7, s8⟩ := (HS.out).all
  rw [lm_zero] at s0 s1 s2 s3 s4 s5 s6 s7
  go_wp2_with fail
  go_ret
  exact ⟨rfl, HC.out⟩

end Go.Proofs.Ytplldbmjdnikeaa
