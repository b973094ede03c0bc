import Derived.Test.YtplldbmjdnikeaaRe1
import Derived.Test.YtplldbmjdnikeaaAn

/- The document's field: the walks of wardmoteref02.Field.Has, Add, Sub, Mul, Base, Scalars. Printed by refe.py. -/
namespace Go.Proofs.Ytplldbmjdnikeaa
set_option linter.unusedVariables false
set_option linter.unusedSimpArgs false
open Go.RowKit

theorem add_mod_cases {m x y : Nat} (hx : x < m) (hy : y < m) : (x + y) % m = if m ≤ x + y then x + y - m else x + y := by
  by_cases h : m ≤ x + y
  · rw [if_pos h, Nat.mod_eq_sub_mod h, Nat.mod_eq_of_lt (by omega)]
  · rw [if_neg h, Nat.mod_eq_of_lt (by omega)]
theorem sub_mod_cases {m x y : Nat} (hx : x < m) (hy : y < m) : (x + m - y) % m = if x < y then x + m - y else x - y := by
  by_cases h : x < y
  · rw [if_pos h, Nat.mod_eq_of_lt (by omega)]
  · rw [if_neg h, show x + m - y = (x - y) + m by omega, Nat.add_mod_right, Nat.mod_eq_of_lt (by omega)]
theorem num_same {a b : Nat} (h : num a = num b) : #[.int .u64 (lm a 0 : Nat), .int .u64 (lm a 1 : Nat), .int .u64 (lm a 2 : Nat), .int .u64 (lm a 3 : Nat)] = (#[.int .u64 (lm b 0 : Nat), .int .u64 (lm b 1 : Nat), .int .u64 (lm b 2 : Nat), .int .u64 (lm b 3 : Nat)] : Array Value) := h
theorem U4.z {w : World} {b : Nat} {t : TypeId} (h : U4 w b t (fun _ => 0)) : w.heap[b]? = some (.cells #[.int .u64 0, .int .u64 0, .int .u64 0, .int .u64 0] t (0, 0)) := h

set_option maxRecDepth 100000 in
set_option maxHeartbeats 8000000 in
theorem ref_has {m c x : Nat} (hm : m < B6 ^ 4) (hx : x < B6 ^ 4) (w : World) : Calls Try.prog 41 #[.agg (dcCells m c), .agg #[.int .u64 (lm x 0 : Nat), .int .u64 (lm x 1 : Nat), .int .u64 (lm x 2 : Nat), .int .u64 (lm x 3 : Nat)]] w fun e w' => e = .returned (.bool (decide (x < m))) ∧ Chg [] w w' := by
  have C1 := Lib.hid (fun w => ref_less hx hm w)
  obtain ⟨z, hz⟩ : ∃ z, decide (x < m) = z := ⟨_, rfl⟩
  rw [hz] at C1 ⊢
  clear hx hm hz
  obtain ⟨W0, hW0⟩ : ∃ W0, ((w.alloc (.cells #[.int .u64 (lm m 0 : Nat), .int .u64 (lm m 1 : Nat), .int .u64 (lm m 2 : Nat), .int .u64 (lm m 3 : Nat), .int .u64 (lm c 0 : Nat), .int .u64 (lm c 1 : Nat), .int .u64 (lm c 2 : Nat), .int .u64 (lm c 3 : Nat)] 76)).alloc (.cells #[.int .u64 (lm x 0 : Nat), .int .u64 (lm x 1 : Nat), .int .u64 (lm x 2 : Nat), .int .u64 (lm x 3 : Nat)] 24)) = W0 := ⟨_, rfl⟩
  have HB := Lib.hid (show UD W0 w.heap.size m c by rw [← hW0]; exact has_alloc (has_alloc_new _ _))
  have HX := Lib.hid (show U4 W0 (w.heap.size + 1) 24 (lm x) by rw [← hW0]; exact has_alloc_at (by simp))
  have HC := Lib.hid (show Chg [] w W0 by rw [← hW0]; exact ((Chg.refl _ _).alloc _).alloc _)
  obtain ⟨m0, m1, m2, m3⟩ := four4 fun _ => (HB.out).cm
  obtain ⟨c0, c1, c2, c3⟩ := four4 fun _ => (HB.out).cc
  obtain ⟨x0, x1, x2, x3⟩ := four4 fun _ => (HX.out).cell
  unfold dcCells
  go_enter Try.func41, Try.ntmps41
  go_wp2_with fail
  try rw [hW0]
  clear hW0
  obtain ⟨P, hP⟩ : ∃ P, w.heap.size = P := ⟨_, rfl⟩
  rw [hP] at HB HX m0 m1 m2 m3 c0 c1 c2 c3 x0 x1 x2 x3 ⊢
  replace hP := Lib.hid hP
  refine (C1.out _).mono ?_
  rintro e w1 ⟨rfl, hC1⟩
  clear m0 m1 m2 m3 c0 c1 c2 c3 x0 x1 x2 x3
  replace HC := Lib.hid (HC.out.trans hC1)
  go_wp2_with fail
  go_ret
  exact ⟨rfl, HC.out⟩

set_option maxRecDepth 100000 in
set_option maxHeartbeats 8000000 in
theorem ref_mul {m c x y : Nat} (hD : Dc m c) (hx : x < B6 ^ 4) (hy : y < B6 ^ 4) (w : World) : Calls Try.prog 42 #[.agg (dcCells m c), .agg #[.int .u64 (lm x 0 : Nat), .int .u64 (lm x 1 : Nat), .int .u64 (lm x 2 : Nat), .int .u64 (lm x 3 : Nat)], .agg #[.int .u64 (lm y 0 : Nat), .int .u64 (lm y 1 : Nat), .int .u64 (lm y 2 : Nat), .int .u64 (lm y 3 : Nat)]] w fun e w' => e = .returned (.agg #[.int .u64 (lm (x * y % m) 0 : Nat), .int .u64 (lm (x * y % m) 1 : Nat), .int .u64 (lm (x * y % m) 2 : Nat), .int .u64 (lm (x * y % m) 3 : Nat)]) ∧ Chg [] w w' := by
  have c1 := fun w => ref_times x y hx hy w
  have h8 : x * y < B6 ^ 8 := by
    have h1 : x * y < B6 ^ 4 * B6 ^ 4 := Nat.mul_lt_mul'' hx hy
    rwa [show B6 ^ 4 * B6 ^ 4 = B6 ^ 8 by decide +kernel] at h1
  have c2 := fun w => ref_reduce hD (x * y) h8 w
  obtain ⟨z, hz⟩ : ∃ z, x * y % m = z := ⟨_, rfl⟩
  rw [hz] at c2 ⊢
  obtain ⟨v, hv⟩ : ∃ v, x * y = v := ⟨_, rfl⟩
  rw [hv] at c1 c2
  unfold num limbs wid limbs8 at c1
  unfold dcCells at c2
  have C1 := Lib.hid c1; have C2 := Lib.hid c2
  clear c1 c2 h8 hz hv hx hy hD
  obtain ⟨W0, hW0⟩ : ∃ W0, (((w.alloc (.cells #[.int .u64 (lm m 0 : Nat), .int .u64 (lm m 1 : Nat), .int .u64 (lm m 2 : Nat), .int .u64 (lm m 3 : Nat), .int .u64 (lm c 0 : Nat), .int .u64 (lm c 1 : Nat), .int .u64 (lm c 2 : Nat), .int .u64 (lm c 3 : Nat)] 76)).alloc (.cells #[.int .u64 (lm x 0 : Nat), .int .u64 (lm x 1 : Nat), .int .u64 (lm x 2 : Nat), .int .u64 (lm x 3 : Nat)] 24)).alloc (.cells #[.int .u64 (lm y 0 : Nat), .int .u64 (lm y 1 : Nat), .int .u64 (lm y 2 : Nat), .int .u64 (lm y 3 : Nat)] 24)).alloc (.cells #[.int .u64 0, .int .u64 0, .int .u64 0, .int .u64 0] 24) = W0 := ⟨_, rfl⟩
  have HB := Lib.hid (show UD W0 w.heap.size m c by rw [← hW0]; exact has_alloc (has_alloc (has_alloc (has_alloc_new _ _))))
  have HX := Lib.hid (show U4 W0 (w.heap.size + 1) 24 (lm x) by rw [← hW0]; exact has_alloc (has_alloc (has_alloc_at (by simp))))
  have HY := Lib.hid (show U4 W0 (w.heap.size + 1 + 1) 24 (lm y) by rw [← hW0]; exact has_alloc (has_alloc_at (by simp)))
  have HR := Lib.hid (show U4 W0 (w.heap.size + 1 + 1 + 1) 24 (fun _ => 0) by rw [← hW0]; exact has_alloc_at (by simp))
  have HC := Lib.hid (show Chg [] w W0 by rw [← hW0]; exact ((((Chg.refl _ _).alloc _).alloc _).alloc _).alloc _)
  obtain ⟨m0, m1, m2, m3⟩ := four4 fun _ => (HB.out).cm
  obtain ⟨c0, c1, c2, c3⟩ := four4 fun _ => (HB.out).cc
  obtain ⟨x0, x1, x2, x3⟩ := four4 fun _ => (HX.out).cell
  obtain ⟨y0, y1, y2, y3⟩ := four4 fun _ => (HY.out).cell
  unfold dcCells
  go_enter Try.func42, Try.ntmps42
  go_upto_region 1 with fail
  try rw [hW0]
  clear hW0
  obtain ⟨P, hP⟩ : ∃ P, w.heap.size = P := ⟨_, rfl⟩
  rw [hP] at HB HX HY HR m0 m1 m2 m3 c0 c1 c2 c3 x0 x1 x2 x3 y0 y1 y2 y3 ⊢
  obtain ⟨R, hR⟩ : ∃ R, P + 1 + 1 + 1 = R := ⟨_, rfl⟩
  rw [hR] at HR ⊢
  have hRP : P + 1 < R := by omega
  have hRP2 : P + 1 + 1 < R := by omega
  replace hR := Lib.hid hR
  replace hP := Lib.hid hP
  have hRz := HR.out.z
  refine abs_region (B := Chg [R] W0) (S := fun w => Chg [R] W0 w ∧ w.heap[R]? = some (.cells #[.int .u64 0, .int .u64 0, .int .u64 0, .int .u64 0] 24 (0, 0))) (by kernel_rfl) ⟨(Chg.refl _ _).drew, hRz⟩ ?_
  have hG := good_at [R] W0 R (.cells #[.int .u64 0, .int .u64 0, .int .u64 0, .int .u64 0] 24 (0, 0))
  refine Abs.take_at (i := 0) (d := some 7) (v := ?_) rfl rfl (by kernel_rfl) (by kernel_rfl) (by kernel_rfl) (fun _ _ _ h => h) hG ⟨by rfl, fun w9 hw9 => Or.inl ?_⟩ ?_
  rotate_left
  · replace m0 := hw9.cell m0 (by simp; omega); replace m1 := hw9.cell m1 (by simp; omega); replace m2 := hw9.cell m2 (by simp; omega); replace m3 := hw9.cell m3 (by simp; omega); replace c0 := hw9.cell c0 (by simp; omega); replace c1 := hw9.cell c1 (by simp; omega); replace c2 := hw9.cell c2 (by simp; omega); replace c3 := hw9.cell c3 (by simp; omega)
    go_simp
    try with_reducible rfl
  simp only [Act.put, stA, stB, stC]
  refine Abs.take_at (i := 1) (d := some 8) (v := ?_) rfl rfl (by kernel_rfl) (by kernel_rfl) (by kernel_rfl) (fun _ _ _ h => h) hG ⟨by rfl, fun w9 hw9 => Or.inl ?_⟩ ?_
  rotate_left
  · replace x0 := hw9.cell x0 (by simp; omega); replace x1 := hw9.cell x1 (by simp; omega); replace x2 := hw9.cell x2 (by simp; omega); replace x3 := hw9.cell x3 (by simp; omega)
    go_simp
    try with_reducible rfl
  simp only [Act.put, stA, stB, stC]
  refine Abs.take_at (i := 2) (d := some 9) (v := ?_) rfl rfl (by kernel_rfl) (by kernel_rfl) (by kernel_rfl) (fun _ _ _ h => h) hG ⟨by rfl, fun w9 hw9 => Or.inl ?_⟩ ?_
  rotate_left
  · replace y0 := hw9.cell y0 (by simp; omega); replace y1 := hw9.cell y1 (by simp; omega); replace y2 := hw9.cell y2 (by simp; omega); replace y3 := hw9.cell y3 (by simp; omega)
    go_simp
    try with_reducible rfl
  simp only [Act.put, stA, stB, stC]
  refine Abs.take_at (i := 3) (d := some 10) (v := _) rfl rfl (by kernel_rfl) (by kernel_rfl) (by kernel_rfl) (fun _ _ _ h => h) hG ⟨by rfl, fun w9 hw9 => Or.inr ⟨_, _, ?_, C1.out w9⟩⟩ ?_
  · go_simp
    try with_reducible rfl
  simp only [Act.put, stA, stB, stC]
  refine Abs.take_at (i := 4) (d := some 11) (v := _) rfl rfl (by kernel_rfl) (by kernel_rfl) (by kernel_rfl) (fun _ _ _ h => h) hG ⟨by rfl, fun w9 hw9 => Or.inr ⟨_, _, ?_, C2.out w9⟩⟩ ?_
  · go_simp
    try with_reducible rfl
  simp only [Act.put, stA, stB, stC]
  refine Abs.store4 (i := 5) (b := R) (ds := #[.int .u64 (lm z 0 : Nat), .int .u64 (lm z 1 : Nat), .int .u64 (lm z 2 : Nat), .int .u64 (lm z 3 : Nat)]) rfl (by kernel_rfl) (by rfl) (fun w9 => (((w9.setCell ⟨R, 0, none⟩ (.int .u64 (lm z 0 : Nat))).setCell ⟨R, 1, none⟩ (.int .u64 (lm z 1 : Nat))).setCell ⟨R, 2, none⟩ (.int .u64 (lm z 2 : Nat))).setCell ⟨R, 3, none⟩ (.int .u64 (lm z 3 : Nat))) (fun w9 h9 => ⟨?_, ?_, ?_⟩) (fun _ _ h k => Chg.keeps (Or.inl (by simp)) h k) (good_chg [R] W0) (fun hG => ?_)
  · have n0 := cell_of_has h9 0; have n1 := cell_of_has h9 1; have n2 := cell_of_has h9 2; have n3 := cell_of_has h9 3
    simp only [glA, glB, glC] at n0 n1 n2 n3
    have z0 := frozen_of_has h9 0; have z1 := frozen_of_has h9 1; have z2 := frozen_of_has h9 2; have z3 := frozen_of_has h9 3
    clear h9
    go_simp
    try with_reducible rfl
  · exact U4.put_x (x := fun _ => 0) h9 z
  · exact Chg.put_x (Chg.refl _ _) (Or.inl (by simp)) z
  refine Abs.at_put (d := none) rfl ?_
  simp only [Act.put, stA, stB, stC]
  refine Abs.done (by kernel_rfl) (fun wx hx => NoPanic.normal ?_) _
  clear m0 m1 m2 m3 c0 c1 c2 c3 x0 x1 x2 x3 y0 y1 y2 y3
  obtain ⟨hA, hN⟩ := hx
  have hCF : Chg [] w wx := HC.out.trans_new hA (by simp; have := hP.out; omega)
  have g0 := cell_of_has hN 0; have g1 := cell_of_has hN 1; have g2 := cell_of_has hN 2; have g3 := cell_of_has hN 3
  simp only [glA, glB, glC] at g0 g1 g2 g3
  go_wp2_with fail
  exact bodyPost_ret (v := .agg #[.int .u64 (lm z 0 : Nat), .int .u64 (lm z 1 : Nat), .int .u64 (lm z 2 : Nat), .int .u64 (lm z 3 : Nat)]) (by simp [results, Try.results42, go_sem, g0, g1, g2, g3]) rfl ⟨rfl, hCF⟩

set_option maxRecDepth 100000 in
set_option maxHeartbeats 8000000 in
theorem ref_add_o {m c x y : Nat} (hm : m < B6 ^ 4) (hx : x < m) (hy : y < m) (ho : B6 ^ 4 ≤ x + y) (w : World) : Calls Try.prog 75 #[.agg (dcCells m c), .agg #[.int .u64 (lm x 0 : Nat), .int .u64 (lm x 1 : Nat), .int .u64 (lm x 2 : Nat), .int .u64 (lm x 3 : Nat)], .agg #[.int .u64 (lm y 0 : Nat), .int .u64 (lm y 1 : Nat), .int .u64 (lm y 2 : Nat), .int .u64 (lm y 3 : Nat)]] w fun e w' => e = .returned (.agg #[.int .u64 (lm ((x + y) % m) 0 : Nat), .int .u64 (lm ((x + y) % m) 1 : Nat), .int .u64 (lm ((x + y) % m) 2 : Nat), .int .u64 (lm ((x + y) % m) 3 : Nat)]) ∧ Chg [] w w' := by
  have hcs := add_mod_cases hx hy
  obtain ⟨z, hz⟩ : ∃ z, (x + y) % m = z := ⟨_, rfl⟩
  rw [hz] at hcs ⊢
  have c1 := fun w => ref_plus x y w
  have hc : cry x y 4 = (x + y) / B6 ^ 4 := by
    unfold cry
    rw [Nat.mod_eq_of_lt (by omega), Nat.mod_eq_of_lt (by omega)]
  rw [hc] at c1
  obtain ⟨s, hs⟩ : ∃ s, x + y = s := ⟨_, rfl⟩
  rw [hs] at c1 hcs
  rw [hs] at ho
  have hge : m ≤ s := by omega
  have h1 : s / B6 ^ 4 = 1 := by rw [Nat.div_eq_iff (by decide)]; omega
  rw [h1] at c1
  rw [show decide (1 = 1) = true from rfl] at c1
  have C1 := Lib.hid c1
  have c3 := fun w => ref_minus s m (by omega) w
  have e3 : num (s + B6 ^ 4 - m) = num z := by rw [hcs, if_pos hge, ← num_top (s - m)]; congr 1; omega
  rw [num_same e3] at c3
  have C3 := Lib.hid c3
  clear c1 c3 e3 h1 hc hcs hz hs hx hy hm ho hge
  obtain ⟨W0, hW0⟩ : ∃ W0, (((w.alloc (.cells #[.int .u64 (lm m 0 : Nat), .int .u64 (lm m 1 : Nat), .int .u64 (lm m 2 : Nat), .int .u64 (lm m 3 : Nat), .int .u64 (lm c 0 : Nat), .int .u64 (lm c 1 : Nat), .int .u64 (lm c 2 : Nat), .int .u64 (lm c 3 : Nat)] 76)).alloc (.cells #[.int .u64 (lm x 0 : Nat), .int .u64 (lm x 1 : Nat), .int .u64 (lm x 2 : Nat), .int .u64 (lm x 3 : Nat)] 24)).alloc (.cells #[.int .u64 (lm y 0 : Nat), .int .u64 (lm y 1 : Nat), .int .u64 (lm y 2 : Nat), .int .u64 (lm y 3 : Nat)] 24)).alloc (.cells #[.int .u64 0, .int .u64 0, .int .u64 0, .int .u64 0] 24) = W0 := ⟨_, rfl⟩
  have HB := Lib.hid (show UD W0 w.heap.size m c by rw [← hW0]; exact has_alloc (has_alloc (has_alloc (has_alloc_new _ _))))
  have HX := Lib.hid (show U4 W0 (w.heap.size + 1) 24 (lm x) by rw [← hW0]; exact has_alloc (has_alloc (has_alloc_at (by simp))))
  have HY := Lib.hid (show U4 W0 (w.heap.size + 1 + 1) 24 (lm y) by rw [← hW0]; exact has_alloc (has_alloc_at (by simp)))
  have HR := Lib.hid (show U4 W0 (w.heap.size + 1 + 1 + 1) 24 (fun _ => 0) by rw [← hW0]; exact has_alloc_at (by simp))
  have HC := Lib.hid (show Chg [] w W0 by rw [← hW0]; exact ((((Chg.refl _ _).alloc _).alloc _).alloc _).alloc _)
  obtain ⟨m0, m1, m2, m3⟩ := four4 fun _ => (HB.out).cm
  obtain ⟨c0, c1, c2, c3⟩ := four4 fun _ => (HB.out).cc
  obtain ⟨x0, x1, x2, x3⟩ := four4 fun _ => (HX.out).cell
  obtain ⟨y0, y1, y2, y3⟩ := four4 fun _ => (HY.out).cell
  unfold dcCells
  go_enter Try.func75, Try.ntmps75
  go_wp2_with fail
  try rw [hW0]
  clear hW0
  obtain ⟨P, hP⟩ : ∃ P, w.heap.size = P := ⟨_, rfl⟩
  rw [hP] at HB HX HY HR m0 m1 m2 m3 c0 c1 c2 c3 x0 x1 x2 x3 y0 y1 y2 y3 ⊢
  obtain ⟨R, hR⟩ : ∃ R, P + 1 + 1 + 1 = R := ⟨_, rfl⟩
  rw [hR] at HR ⊢
  have hRP : P + 1 < R := by omega
  have hRP2 : P + 1 + 1 < R := by omega
  replace hR := Lib.hid hR
  replace hP := Lib.hid hP
  refine (C1.out _).mono ?_
  rintro e w1 ⟨rfl, hC1⟩
  replace HB := Lib.hid (HB.out.chg hC1 nmN)
  replace HX := Lib.hid (HX.out.chg hC1 nmN)
  replace HY := Lib.hid (HY.out.chg hC1 nmN)
  replace HR := Lib.hid (HR.out.chg hC1 nmN)
  replace HC := Lib.hid (HC.out.trans hC1)
  clear hC1
  clear m0 m1 m2 m3 c0 c1 c2 c3 x0 x1 x2 x3 y0 y1 y2 y3
  obtain ⟨W1, hW1⟩ : ∃ W1, w1.alloc (.cells #[.int .u64 (lm s 0 : Nat), .int .u64 (lm s 1 : Nat), .int .u64 (lm s 2 : Nat), .int .u64 (lm s 3 : Nat)] 24) = W1 := ⟨_, rfl⟩
  have hA : Chg [] w1 W1 := by rw [← hW1]; exact (Chg.refl _ _).alloc _
  have hN : U4 W1 w1.heap.size 24 (lm s) := by rw [← hW1]; exact has_alloc_new _ _
  obtain ⟨b_s, hb⟩ : ∃ b, w1.heap.size = b := ⟨_, rfl⟩
  rw [hb] at hN
  replace HB := Lib.hid (HB.out.chg hA nmN)
  replace HX := Lib.hid (HX.out.chg hA nmN)
  replace HY := Lib.hid (HY.out.chg hA nmN)
  replace HR := Lib.hid (HR.out.chg hA nmN)
  replace HC := Lib.hid (HC.out.trans hA)
  have H_s := Lib.hid hN
  obtain ⟨m0, m1, m2, m3⟩ := four4 fun _ => (HB.out).cm
  obtain ⟨s0, s1, s2, s3⟩ := four4 fun _ => (H_s.out).cell
  go_upto_region 2 with fail
  try rw [hW1]
  try rw [hb]
  clear hW1 hb hA hN
  go_wp2_with fail
  refine (C3.out _).mono ?_
  rintro e w1 ⟨rfl, hC1⟩
  clear m0 m1 m2 m3 s0 s1 s2 s3
  replace HB := Lib.hid (HB.out.chg hC1 nmN)
  replace HX := Lib.hid (HX.out.chg hC1 nmN)
  replace HY := Lib.hid (HY.out.chg hC1 nmN)
  replace HR := Lib.hid (HR.out.chg hC1 nmN)
  replace HC := Lib.hid (HC.out.trans hC1)
  replace H_s := Lib.hid (H_s.out.chg hC1 nmN)
  clear hC1
  have hR9 := HR.out
  have q0 := hR9.cell (k := 0) (by omega); have qz0 := hR9.fz 0; have q1 := hR9.cell (k := 1) (by omega); have qz1 := hR9.fz 1; have q2 := hR9.cell (k := 2) (by omega); have qz2 := hR9.fz 2; have q3 := hR9.cell (k := 3) (by omega); have qz3 := hR9.fz 3
  have hll := hR9.lt
  have HF9 := Lib.hid (hR9.put (lm z)); have HCF := Lib.hid (HC.out.put4 (b := R) (Or.inr (by first | omega | (have := hP.out; omega))) (lm z))
  clear hR9
  go_wp2_with fail
  have hF := HF9.out; have hCF := HCF.out
  refine (id ?_ : bodyPost _ _ _ _ _ (put4 w1 (R) (lm z)))
  clear HF9 HCF
  generalize put4 w1 (R) (lm z) = W5 at *
  obtain ⟨g0, g1, g2, g3⟩ := four4 fun _ => hF.cell
  exact bodyPost_ret (v := .agg #[.int .u64 (lm z 0 : Nat), .int .u64 (lm z 1 : Nat), .int .u64 (lm z 2 : Nat), .int .u64 (lm z 3 : Nat)]) (by simp [results, Try.results75, go_sem, g0, g1, g2, g3]) rfl ⟨rfl, hCF⟩

set_option maxRecDepth 100000 in
set_option maxHeartbeats 8000000 in
theorem ref_add_g {m c x y : Nat} (hm : m < B6 ^ 4) (hx : x < m) (hy : y < m) (ho : x + y < B6 ^ 4) (hge : m ≤ x + y) (w : World) : Calls Try.prog 75 #[.agg (dcCells m c), .agg #[.int .u64 (lm x 0 : Nat), .int .u64 (lm x 1 : Nat), .int .u64 (lm x 2 : Nat), .int .u64 (lm x 3 : Nat)], .agg #[.int .u64 (lm y 0 : Nat), .int .u64 (lm y 1 : Nat), .int .u64 (lm y 2 : Nat), .int .u64 (lm y 3 : Nat)]] w fun e w' => e = .returned (.agg #[.int .u64 (lm ((x + y) % m) 0 : Nat), .int .u64 (lm ((x + y) % m) 1 : Nat), .int .u64 (lm ((x + y) % m) 2 : Nat), .int .u64 (lm ((x + y) % m) 3 : Nat)]) ∧ Chg [] w w' := by
  have hcs := add_mod_cases hx hy
  obtain ⟨z, hz⟩ : ∃ z, (x + y) % m = z := ⟨_, rfl⟩
  rw [hz] at hcs ⊢
  have c1 := fun w => ref_plus x y w
  have hc : cry x y 4 = (x + y) / B6 ^ 4 := by
    unfold cry
    rw [Nat.mod_eq_of_lt (by omega), Nat.mod_eq_of_lt (by omega)]
  rw [hc] at c1
  obtain ⟨s, hs⟩ : ∃ s, x + y = s := ⟨_, rfl⟩
  rw [hs] at c1 hcs
  rw [hs] at ho hge
  have h1 : s / B6 ^ 4 = 0 := Nat.div_eq_of_lt ho
  rw [h1] at c1
  rw [show decide (0 = 1) = false from rfl] at c1
  have C1 := Lib.hid c1
  have c2 := fun w => ref_less ho hm w
  rw [show decide (s < m) = false by simpa using hge] at c2
  have C2 := Lib.hid c2
  have c3 := fun w => ref_minus s m (by omega) w
  have e3 : num (s + B6 ^ 4 - m) = num z := by rw [hcs, if_pos hge, ← num_top (s - m)]; congr 1; omega
  rw [num_same e3] at c3
  have C3 := Lib.hid c3
  clear c1 c2 c3 e3 h1 hc hcs hz hs hx hy hm ho hge
  obtain ⟨W0, hW0⟩ : ∃ W0, (((w.alloc (.cells #[.int .u64 (lm m 0 : Nat), .int .u64 (lm m 1 : Nat), .int .u64 (lm m 2 : Nat), .int .u64 (lm m 3 : Nat), .int .u64 (lm c 0 : Nat), .int .u64 (lm c 1 : Nat), .int .u64 (lm c 2 : Nat), .int .u64 (lm c 3 : Nat)] 76)).alloc (.cells #[.int .u64 (lm x 0 : Nat), .int .u64 (lm x 1 : Nat), .int .u64 (lm x 2 : Nat), .int .u64 (lm x 3 : Nat)] 24)).alloc (.cells #[.int .u64 (lm y 0 : Nat), .int .u64 (lm y 1 : Nat), .int .u64 (lm y 2 : Nat), .int .u64 (lm y 3 : Nat)] 24)).alloc (.cells #[.int .u64 0, .int .u64 0, .int .u64 0, .int .u64 0] 24) = W0 := ⟨_, rfl⟩
  have HB := Lib.hid (show UD W0 w.heap.size m c by rw [← hW0]; exact has_alloc (has_alloc (has_alloc (has_alloc_new _ _))))
  have HX := Lib.hid (show U4 W0 (w.heap.size + 1) 24 (lm x) by rw [← hW0]; exact has_alloc (has_alloc (has_alloc_at (by simp))))
  have HY := Lib.hid (show U4 W0 (w.heap.size + 1 + 1) 24 (lm y) by rw [← hW0]; exact has_alloc (has_alloc_at (by simp)))
  have HR := Lib.hid (show U4 W0 (w.heap.size + 1 + 1 + 1) 24 (fun _ => 0) by rw [← hW0]; exact has_alloc_at (by simp))
  have HC := Lib.hid (show Chg [] w W0 by rw [← hW0]; exact ((((Chg.refl _ _).alloc _).alloc _).alloc _).alloc _)
  obtain ⟨m0, m1, m2, m3⟩ := four4 fun _ => (HB.out).cm
  obtain ⟨c0, c1, c2, c3⟩ := four4 fun _ => (HB.out).cc
  obtain ⟨x0, x1, x2, x3⟩ := four4 fun _ => (HX.out).cell
  obtain ⟨y0, y1, y2, y3⟩ := four4 fun _ => (HY.out).cell
  unfold dcCells
  go_enter Try.func75, Try.ntmps75
  go_wp2_with fail
  try rw [hW0]
  clear hW0
  obtain ⟨P, hP⟩ : ∃ P, w.heap.size = P := ⟨_, rfl⟩
  rw [hP] at HB HX HY HR m0 m1 m2 m3 c0 c1 c2 c3 x0 x1 x2 x3 y0 y1 y2 y3 ⊢
  obtain ⟨R, hR⟩ : ∃ R, P + 1 + 1 + 1 = R := ⟨_, rfl⟩
  rw [hR] at HR ⊢
  have hRP : P + 1 < R := by omega
  have hRP2 : P + 1 + 1 < R := by omega
  replace hR := Lib.hid hR
  replace hP := Lib.hid hP
  refine (C1.out _).mono ?_
  rintro e w1 ⟨rfl, hC1⟩
  replace HB := Lib.hid (HB.out.chg hC1 nmN)
  replace HX := Lib.hid (HX.out.chg hC1 nmN)
  replace HY := Lib.hid (HY.out.chg hC1 nmN)
  replace HR := Lib.hid (HR.out.chg hC1 nmN)
  replace HC := Lib.hid (HC.out.trans hC1)
  clear hC1
  clear m0 m1 m2 m3 c0 c1 c2 c3 x0 x1 x2 x3 y0 y1 y2 y3
  obtain ⟨W1, hW1⟩ : ∃ W1, w1.alloc (.cells #[.int .u64 (lm s 0 : Nat), .int .u64 (lm s 1 : Nat), .int .u64 (lm s 2 : Nat), .int .u64 (lm s 3 : Nat)] 24) = W1 := ⟨_, rfl⟩
  have hA : Chg [] w1 W1 := by rw [← hW1]; exact (Chg.refl _ _).alloc _
  have hN : U4 W1 w1.heap.size 24 (lm s) := by rw [← hW1]; exact has_alloc_new _ _
  obtain ⟨b_s, hb⟩ : ∃ b, w1.heap.size = b := ⟨_, rfl⟩
  rw [hb] at hN
  replace HB := Lib.hid (HB.out.chg hA nmN)
  replace HX := Lib.hid (HX.out.chg hA nmN)
  replace HY := Lib.hid (HY.out.chg hA nmN)
  replace HR := Lib.hid (HR.out.chg hA nmN)
  replace HC := Lib.hid (HC.out.trans hA)
  have H_s := Lib.hid hN
  obtain ⟨m0, m1, m2, m3⟩ := four4 fun _ => (HB.out).cm
  obtain ⟨s0, s1, s2, s3⟩ := four4 fun _ => (H_s.out).cell
  go_upto_region 2 with fail
  try rw [hW1]
  try rw [hb]
  clear hW1 hb hA hN
  go_wp2_with fail
  refine (C2.out _).mono ?_
  rintro e w1 ⟨rfl, hC1⟩
  clear m0 m1 m2 m3 s0 s1 s2 s3
  replace HB := Lib.hid (HB.out.chg hC1 nmN)
  replace HX := Lib.hid (HX.out.chg hC1 nmN)
  replace HY := Lib.hid (HY.out.chg hC1 nmN)
  replace HR := Lib.hid (HR.out.chg hC1 nmN)
  replace HC := Lib.hid (HC.out.trans hC1)
  replace H_s := Lib.hid (H_s.out.chg hC1 nmN)
  clear hC1
  obtain ⟨m0, m1, m2, m3⟩ := four4 fun _ => (HB.out).cm
  obtain ⟨s0, s1, s2, s3⟩ := four4 fun _ => (H_s.out).cell
  go_wp2_with fail
  refine (C3.out _).mono ?_
  rintro e w1 ⟨rfl, hC1⟩
  clear m0 m1 m2 m3 s0 s1 s2 s3
  replace HB := Lib.hid (HB.out.chg hC1 nmN)
  replace HX := Lib.hid (HX.out.chg hC1 nmN)
  replace HY := Lib.hid (HY.out.chg hC1 nmN)
  replace HR := Lib.hid (HR.out.chg hC1 nmN)
  replace HC := Lib.hid (HC.out.trans hC1)
  replace H_s := Lib.hid (H_s.out.chg hC1 nmN)
  clear hC1
  have hR9 := HR.out
  have q0 := hR9.cell (k := 0) (by omega); have qz0 := hR9.fz 0; have q1 := hR9.cell (k := 1) (by omega); have qz1 := hR9.fz 1; have q2 := hR9.cell (k := 2) (by omega); have qz2 := hR9.fz 2; have q3 := hR9.cell (k := 3) (by omega); have qz3 := hR9.fz 3
  have hll := hR9.lt
  have HF9 := Lib.hid (hR9.put (lm z)); have HCF := Lib.hid (HC.out.put4 (b := R) (Or.inr (by first | omega | (have := hP.out; omega))) (lm z))
  clear hR9
  go_wp2_with fail
  have hF := HF9.out; have hCF := HCF.out
  refine (id ?_ : bodyPost _ _ _ _ _ (put4 w1 (R) (lm z)))
  clear HF9 HCF
  generalize put4 w1 (R) (lm z) = W5 at *
  obtain ⟨g0, g1, g2, g3⟩ := four4 fun _ => hF.cell
  exact bodyPost_ret (v := .agg #[.int .u64 (lm z 0 : Nat), .int .u64 (lm z 1 : Nat), .int .u64 (lm z 2 : Nat), .int .u64 (lm z 3 : Nat)]) (by simp [results, Try.results75, go_sem, g0, g1, g2, g3]) rfl ⟨rfl, hCF⟩

set_option maxRecDepth 100000 in
set_option maxHeartbeats 8000000 in
theorem ref_add_l {m c x y : Nat} (hm : m < B6 ^ 4) (hx : x < m) (hy : y < m) (hge : ¬ m ≤ x + y) (w : World) : Calls Try.prog 75 #[.agg (dcCells m c), .agg #[.int .u64 (lm x 0 : Nat), .int .u64 (lm x 1 : Nat), .int .u64 (lm x 2 : Nat), .int .u64 (lm x 3 : Nat)], .agg #[.int .u64 (lm y 0 : Nat), .int .u64 (lm y 1 : Nat), .int .u64 (lm y 2 : Nat), .int .u64 (lm y 3 : Nat)]] w fun e w' => e = .returned (.agg #[.int .u64 (lm ((x + y) % m) 0 : Nat), .int .u64 (lm ((x + y) % m) 1 : Nat), .int .u64 (lm ((x + y) % m) 2 : Nat), .int .u64 (lm ((x + y) % m) 3 : Nat)]) ∧ Chg [] w w' := by
  have hcs := add_mod_cases hx hy
  obtain ⟨z, hz⟩ : ∃ z, (x + y) % m = z := ⟨_, rfl⟩
  rw [hz] at hcs ⊢
  have c1 := fun w => ref_plus x y w
  have hc : cry x y 4 = (x + y) / B6 ^ 4 := by
    unfold cry
    rw [Nat.mod_eq_of_lt (by omega), Nat.mod_eq_of_lt (by omega)]
  rw [hc] at c1
  obtain ⟨s, hs⟩ : ∃ s, x + y = s := ⟨_, rfl⟩
  rw [hs] at c1 hcs
  rw [hs] at hge
  have ho : s < B6 ^ 4 := by omega
  have h1 : s / B6 ^ 4 = 0 := Nat.div_eq_of_lt ho
  rw [h1] at c1
  rw [show decide (0 = 1) = false from rfl] at c1
  have hzs : s = z := by rw [hcs, if_neg hge]
  have c2 := fun w => ref_less ho hm w
  rw [show decide (s < m) = true by simp; omega] at c2
  rw [hzs] at c1 c2
  have C1 := Lib.hid c1
  have C2 := Lib.hid c2
  clear c1 c2 h1 hc hcs hz hs hx hy hm ho hge hzs
  obtain ⟨W0, hW0⟩ : ∃ W0, (((w.alloc (.cells #[.int .u64 (lm m 0 : Nat), .int .u64 (lm m 1 : Nat), .int .u64 (lm m 2 : Nat), .int .u64 (lm m 3 : Nat), .int .u64 (lm c 0 : Nat), .int .u64 (lm c 1 : Nat), .int .u64 (lm c 2 : Nat), .int .u64 (lm c 3 : Nat)] 76)).alloc (.cells #[.int .u64 (lm x 0 : Nat), .int .u64 (lm x 1 : Nat), .int .u64 (lm x 2 : Nat), .int .u64 (lm x 3 : Nat)] 24)).alloc (.cells #[.int .u64 (lm y 0 : Nat), .int .u64 (lm y 1 : Nat), .int .u64 (lm y 2 : Nat), .int .u64 (lm y 3 : Nat)] 24)).alloc (.cells #[.int .u64 0, .int .u64 0, .int .u64 0, .int .u64 0] 24) = W0 := ⟨_, rfl⟩
  have HB := Lib.hid (show UD W0 w.heap.size m c by rw [← hW0]; exact has_alloc (has_alloc (has_alloc (has_alloc_new _ _))))
  have HX := Lib.hid (show U4 W0 (w.heap.size + 1) 24 (lm x) by rw [← hW0]; exact has_alloc (has_alloc (has_alloc_at (by simp))))
  have HY := Lib.hid (show U4 W0 (w.heap.size + 1 + 1) 24 (lm y) by rw [← hW0]; exact has_alloc (has_alloc_at (by simp)))
  have HR := Lib.hid (show U4 W0 (w.heap.size + 1 + 1 + 1) 24 (fun _ => 0) by rw [← hW0]; exact has_alloc_at (by simp))
  have HC := Lib.hid (show Chg [] w W0 by rw [← hW0]; exact ((((Chg.refl _ _).alloc _).alloc _).alloc _).alloc _)
  obtain ⟨m0, m1, m2, m3⟩ := four4 fun _ => (HB.out).cm
  obtain ⟨c0, c1, c2, c3⟩ := four4 fun _ => (HB.out).cc
  obtain ⟨x0, x1, x2, x3⟩ := four4 fun _ => (HX.out).cell
  obtain ⟨y0, y1, y2, y3⟩ := four4 fun _ => (HY.out).cell
  unfold dcCells
  go_enter Try.func75, Try.ntmps75
  go_wp2_with fail
  try rw [hW0]
  clear hW0
  obtain ⟨P, hP⟩ : ∃ P, w.heap.size = P := ⟨_, rfl⟩
  rw [hP] at HB HX HY HR m0 m1 m2 m3 c0 c1 c2 c3 x0 x1 x2 x3 y0 y1 y2 y3 ⊢
  obtain ⟨R, hR⟩ : ∃ R, P + 1 + 1 + 1 = R := ⟨_, rfl⟩
  rw [hR] at HR ⊢
  have hRP : P + 1 < R := by omega
  have hRP2 : P + 1 + 1 < R := by omega
  replace hR := Lib.hid hR
  replace hP := Lib.hid hP
  refine (C1.out _).mono ?_
  rintro e w1 ⟨rfl, hC1⟩
  replace HB := Lib.hid (HB.out.chg hC1 nmN)
  replace HX := Lib.hid (HX.out.chg hC1 nmN)
  replace HY := Lib.hid (HY.out.chg hC1 nmN)
  replace HR := Lib.hid (HR.out.chg hC1 nmN)
  replace HC := Lib.hid (HC.out.trans hC1)
  clear hC1
  clear m0 m1 m2 m3 c0 c1 c2 c3 x0 x1 x2 x3 y0 y1 y2 y3
  obtain ⟨W1, hW1⟩ : ∃ W1, w1.alloc (.cells #[.int .u64 (lm z 0 : Nat), .int .u64 (lm z 1 : Nat), .int .u64 (lm z 2 : Nat), .int .u64 (lm z 3 : Nat)] 24) = W1 := ⟨_, rfl⟩
  have hA : Chg [] w1 W1 := by rw [← hW1]; exact (Chg.refl _ _).alloc _
  have hN : U4 W1 w1.heap.size 24 (lm z) := by rw [← hW1]; exact has_alloc_new _ _
  obtain ⟨b_s, hb⟩ : ∃ b, w1.heap.size = b := ⟨_, rfl⟩
  rw [hb] at hN
  replace HB := Lib.hid (HB.out.chg hA nmN)
  replace HX := Lib.hid (HX.out.chg hA nmN)
  replace HY := Lib.hid (HY.out.chg hA nmN)
  replace HR := Lib.hid (HR.out.chg hA nmN)
  replace HC := Lib.hid (HC.out.trans hA)
  have H_s := Lib.hid hN
  obtain ⟨m0, m1, m2, m3⟩ := four4 fun _ => (HB.out).cm
  obtain ⟨s0, s1, s2, s3⟩ := four4 fun _ => (H_s.out).cell
  go_upto_region 2 with fail
  try rw [hW1]
  try rw [hb]
  clear hW1 hb hA hN
  go_wp2_with fail
  refine (C2.out _).mono ?_
  rintro e w1 ⟨rfl, hC1⟩
  clear m0 m1 m2 m3 s0 s1 s2 s3
  replace HB := Lib.hid (HB.out.chg hC1 nmN)
  replace HX := Lib.hid (HX.out.chg hC1 nmN)
  replace HY := Lib.hid (HY.out.chg hC1 nmN)
  replace HR := Lib.hid (HR.out.chg hC1 nmN)
  replace HC := Lib.hid (HC.out.trans hC1)
  replace H_s := Lib.hid (H_s.out.chg hC1 nmN)
  clear hC1
  obtain ⟨m0, m1, m2, m3⟩ := four4 fun _ => (HB.out).cm
  obtain ⟨s0, s1, s2, s3⟩ := four4 fun _ => (H_s.out).cell
  clear m0 m1 m2 m3
  have hR9 := HR.out
  have q0 := hR9.cell (k := 0) (by omega); have qz0 := hR9.fz 0; have q1 := hR9.cell (k := 1) (by omega); have qz1 := hR9.fz 1; have q2 := hR9.cell (k := 2) (by omega); have qz2 := hR9.fz 2; have q3 := hR9.cell (k := 3) (by omega); have qz3 := hR9.fz 3
  have hll := hR9.lt
  have HF9 := Lib.hid (hR9.put (lm z)); have HCF := Lib.hid (HC.out.put4 (b := R) (Or.inr (by first | omega | (have := hP.out; omega))) (lm z))
  clear hR9
  go_wp2_with fail
  have hF := HF9.out; have hCF := HCF.out
  refine (id ?_ : bodyPost _ _ _ _ _ (put4 w1 (R) (lm z)))
  clear HF9 HCF
  generalize put4 w1 (R) (lm z) = W5 at *
  obtain ⟨g0, g1, g2, g3⟩ := four4 fun _ => hF.cell
  exact bodyPost_ret (v := .agg #[.int .u64 (lm z 0 : Nat), .int .u64 (lm z 1 : Nat), .int .u64 (lm z 2 : Nat), .int .u64 (lm z 3 : Nat)]) (by simp [results, Try.results75, go_sem, g0, g1, g2, g3]) rfl ⟨rfl, hCF⟩

theorem ref_add {m c x y : Nat} (hm : m < B6 ^ 4) (hx : x < m) (hy : y < m) (w : World) : Calls Try.prog 75 #[.agg (dcCells m c), .agg #[.int .u64 (lm x 0 : Nat), .int .u64 (lm x 1 : Nat), .int .u64 (lm x 2 : Nat), .int .u64 (lm x 3 : Nat)], .agg #[.int .u64 (lm y 0 : Nat), .int .u64 (lm y 1 : Nat), .int .u64 (lm y 2 : Nat), .int .u64 (lm y 3 : Nat)]] w fun e w' => e = .returned (.agg #[.int .u64 (lm ((x + y) % m) 0 : Nat), .int .u64 (lm ((x + y) % m) 1 : Nat), .int .u64 (lm ((x + y) % m) 2 : Nat), .int .u64 (lm ((x + y) % m) 3 : Nat)]) ∧ Chg [] w w' := by
  by_cases h : m ≤ x + y
  · by_cases ho : B6 ^ 4 ≤ x + y
    · exact ref_add_o hm hx hy ho w
    · exact ref_add_g hm hx hy (by omega) h w
  · exact ref_add_l hm hx hy h w

set_option maxRecDepth 100000 in
set_option maxHeartbeats 8000000 in
theorem ref_sub_l {m c x y : Nat} (hm : m < B6 ^ 4) (hx : x < m) (hy : y < m) (hlt : x < y) (w : World) : Calls Try.prog 46 #[.agg (dcCells m c), .agg #[.int .u64 (lm x 0 : Nat), .int .u64 (lm x 1 : Nat), .int .u64 (lm x 2 : Nat), .int .u64 (lm x 3 : Nat)], .agg #[.int .u64 (lm y 0 : Nat), .int .u64 (lm y 1 : Nat), .int .u64 (lm y 2 : Nat), .int .u64 (lm y 3 : Nat)]] w fun e w' => e = .returned (.agg #[.int .u64 (lm ((x + m - y) % m) 0 : Nat), .int .u64 (lm ((x + m - y) % m) 1 : Nat), .int .u64 (lm ((x + m - y) % m) 2 : Nat), .int .u64 (lm ((x + m - y) % m) 3 : Nat)]) ∧ Chg [] w w' := by
  have hcs := sub_mod_cases hx hy
  obtain ⟨z, hz⟩ : ∃ z, (x + m - y) % m = z := ⟨_, rfl⟩
  rw [hz] at hcs ⊢
  have c1 := fun w => ref_less (Nat.lt_trans hx hm) (Nat.lt_trans hy hm) w
  rw [show decide (x < y) = true by simpa using hlt] at c1
  have c2 := fun w => ref_plus x m w
  obtain ⟨t, ht⟩ : ∃ t, x + m = t := ⟨_, rfl⟩
  have c3 := fun w => ref_minus t y (by omega) w
  have e3 : num (t + B6 ^ 4 - y) = num z := by rw [hcs, if_pos hlt, ht, ← num_top (t - y)]; congr 1; omega
  rw [num_same e3] at c3
  rw [ht] at c2
  have C1 := Lib.hid c1; have C2 := Lib.hid c2; have C3 := Lib.hid c3
  clear c1 c2 c3 e3 ht hcs hz hx hy hm hlt
  obtain ⟨W0, hW0⟩ : ∃ W0, (((w.alloc (.cells #[.int .u64 (lm m 0 : Nat), .int .u64 (lm m 1 : Nat), .int .u64 (lm m 2 : Nat), .int .u64 (lm m 3 : Nat), .int .u64 (lm c 0 : Nat), .int .u64 (lm c 1 : Nat), .int .u64 (lm c 2 : Nat), .int .u64 (lm c 3 : Nat)] 76)).alloc (.cells #[.int .u64 (lm x 0 : Nat), .int .u64 (lm x 1 : Nat), .int .u64 (lm x 2 : Nat), .int .u64 (lm x 3 : Nat)] 24)).alloc (.cells #[.int .u64 (lm y 0 : Nat), .int .u64 (lm y 1 : Nat), .int .u64 (lm y 2 : Nat), .int .u64 (lm y 3 : Nat)] 24)).alloc (.cells #[.int .u64 0, .int .u64 0, .int .u64 0, .int .u64 0] 24) = W0 := ⟨_, rfl⟩
  have HB := Lib.hid (show UD W0 w.heap.size m c by rw [← hW0]; exact has_alloc (has_alloc (has_alloc (has_alloc_new _ _))))
  have HX := Lib.hid (show U4 W0 (w.heap.size + 1) 24 (lm x) by rw [← hW0]; exact has_alloc (has_alloc (has_alloc_at (by simp))))
  have HY := Lib.hid (show U4 W0 (w.heap.size + 1 + 1) 24 (lm y) by rw [← hW0]; exact has_alloc (has_alloc_at (by simp)))
  have HR := Lib.hid (show U4 W0 (w.heap.size + 1 + 1 + 1) 24 (fun _ => 0) by rw [← hW0]; exact has_alloc_at (by simp))
  have HC := Lib.hid (show Chg [] w W0 by rw [← hW0]; exact ((((Chg.refl _ _).alloc _).alloc _).alloc _).alloc _)
  obtain ⟨m0, m1, m2, m3⟩ := four4 fun _ => (HB.out).cm
  obtain ⟨c0, c1, c2, c3⟩ := four4 fun _ => (HB.out).cc
  obtain ⟨x0, x1, x2, x3⟩ := four4 fun _ => (HX.out).cell
  obtain ⟨y0, y1, y2, y3⟩ := four4 fun _ => (HY.out).cell
  unfold dcCells
  go_enter Try.func46, Try.ntmps46
  go_wp2_with fail
  try rw [hW0]
  clear hW0
  obtain ⟨P, hP⟩ : ∃ P, w.heap.size = P := ⟨_, rfl⟩
  rw [hP] at HB HX HY HR m0 m1 m2 m3 c0 c1 c2 c3 x0 x1 x2 x3 y0 y1 y2 y3 ⊢
  obtain ⟨R, hR⟩ : ∃ R, P + 1 + 1 + 1 = R := ⟨_, rfl⟩
  rw [hR] at HR ⊢
  have hRP : P + 1 < R := by omega
  have hRP2 : P + 1 + 1 < R := by omega
  replace hR := Lib.hid hR
  replace hP := Lib.hid hP
  refine (C1.out _).mono ?_
  rintro e w1 ⟨rfl, hC1⟩
  replace HB := Lib.hid (HB.out.chg hC1 nmN)
  replace HX := Lib.hid (HX.out.chg hC1 nmN)
  replace HY := Lib.hid (HY.out.chg hC1 nmN)
  replace HR := Lib.hid (HR.out.chg hC1 nmN)
  replace HC := Lib.hid (HC.out.trans hC1)
  clear hC1
  clear m0 m1 m2 m3 c0 c1 c2 c3 x0 x1 x2 x3 y0 y1 y2 y3
  obtain ⟨x0, x1, x2, x3⟩ := four4 fun _ => (HX.out).cell
  obtain ⟨m0, m1, m2, m3⟩ := four4 fun _ => (HB.out).cm
  go_wp2_with fail
  refine (C2.out _).mono ?_
  rintro e w1 ⟨rfl, hC1⟩
  clear x0 x1 x2 x3 m0 m1 m2 m3
  replace HB := Lib.hid (HB.out.chg hC1 nmN)
  replace HX := Lib.hid (HX.out.chg hC1 nmN)
  replace HY := Lib.hid (HY.out.chg hC1 nmN)
  replace HR := Lib.hid (HR.out.chg hC1 nmN)
  replace HC := Lib.hid (HC.out.trans hC1)
  clear hC1
  obtain ⟨W1, hW1⟩ : ∃ W1, w1.alloc (.cells #[.int .u64 (lm t 0 : Nat), .int .u64 (lm t 1 : Nat), .int .u64 (lm t 2 : Nat), .int .u64 (lm t 3 : Nat)] 24) = W1 := ⟨_, rfl⟩
  have hA : Chg [] w1 W1 := by rw [← hW1]; exact (Chg.refl _ _).alloc _
  have hN : U4 W1 w1.heap.size 24 (lm t) := by rw [← hW1]; exact has_alloc_new _ _
  obtain ⟨b_s, hb⟩ : ∃ b, w1.heap.size = b := ⟨_, rfl⟩
  rw [hb] at hN
  replace HB := Lib.hid (HB.out.chg hA nmN)
  replace HX := Lib.hid (HX.out.chg hA nmN)
  replace HY := Lib.hid (HY.out.chg hA nmN)
  replace HR := Lib.hid (HR.out.chg hA nmN)
  replace HC := Lib.hid (HC.out.trans hA)
  have H_s := Lib.hid hN
  obtain ⟨y0, y1, y2, y3⟩ := four4 fun _ => (HY.out).cell
  obtain ⟨s0, s1, s2, s3⟩ := four4 fun _ => (H_s.out).cell
  go_upto_region 3 with fail
  try rw [hW1]
  try rw [hb]
  clear hW1 hb hA hN
  go_wp2_with fail
  refine (C3.out _).mono ?_
  rintro e w1 ⟨rfl, hC1⟩
  clear y0 y1 y2 y3 s0 s1 s2 s3
  replace HB := Lib.hid (HB.out.chg hC1 nmN)
  replace HX := Lib.hid (HX.out.chg hC1 nmN)
  replace HY := Lib.hid (HY.out.chg hC1 nmN)
  replace HR := Lib.hid (HR.out.chg hC1 nmN)
  replace HC := Lib.hid (HC.out.trans hC1)
  replace H_s := Lib.hid (H_s.out.chg hC1 nmN)
  clear hC1
  have hR9 := HR.out
  have q0 := hR9.cell (k := 0) (by omega); have qz0 := hR9.fz 0; have q1 := hR9.cell (k := 1) (by omega); have qz1 := hR9.fz 1; have q2 := hR9.cell (k := 2) (by omega); have qz2 := hR9.fz 2; have q3 := hR9.cell (k := 3) (by omega); have qz3 := hR9.fz 3
  have hll := hR9.lt
  have HF9 := Lib.hid (hR9.put (lm z)); have HCF := Lib.hid (HC.out.put4 (b := R) (Or.inr (by first | omega | (have := hP.out; omega))) (lm z))
  clear hR9
  go_wp2_with fail
  have hF := HF9.out; have hCF := HCF.out
  refine (id ?_ : bodyPost _ _ _ _ _ (put4 w1 (R) (lm z)))
  clear HF9 HCF
  generalize put4 w1 (R) (lm z) = W5 at *
  obtain ⟨g0, g1, g2, g3⟩ := four4 fun _ => hF.cell
  exact bodyPost_ret (v := .agg #[.int .u64 (lm z 0 : Nat), .int .u64 (lm z 1 : Nat), .int .u64 (lm z 2 : Nat), .int .u64 (lm z 3 : Nat)]) (by simp [results, Try.results46, go_sem, g0, g1, g2, g3]) rfl ⟨rfl, hCF⟩

set_option maxRecDepth 100000 in
set_option maxHeartbeats 8000000 in
theorem ref_sub_g {m c x y : Nat} (hm : m < B6 ^ 4) (hx : x < m) (hy : y < m) (hlt : ¬ x < y) (w : World) : Calls Try.prog 46 #[.agg (dcCells m c), .agg #[.int .u64 (lm x 0 : Nat), .int .u64 (lm x 1 : Nat), .int .u64 (lm x 2 : Nat), .int .u64 (lm x 3 : Nat)], .agg #[.int .u64 (lm y 0 : Nat), .int .u64 (lm y 1 : Nat), .int .u64 (lm y 2 : Nat), .int .u64 (lm y 3 : Nat)]] w fun e w' => e = .returned (.agg #[.int .u64 (lm ((x + m - y) % m) 0 : Nat), .int .u64 (lm ((x + m - y) % m) 1 : Nat), .int .u64 (lm ((x + m - y) % m) 2 : Nat), .int .u64 (lm ((x + m - y) % m) 3 : Nat)]) ∧ Chg [] w w' := by
  have hcs := sub_mod_cases hx hy
  obtain ⟨z, hz⟩ : ∃ z, (x + m - y) % m = z := ⟨_, rfl⟩
  rw [hz] at hcs ⊢
  have c1 := fun w => ref_less (Nat.lt_trans hx hm) (Nat.lt_trans hy hm) w
  rw [show decide (x < y) = false by simpa using hlt] at c1
  have c3 := fun w => ref_minus x y (by omega) w
  have e3 : num (x + B6 ^ 4 - y) = num z := by rw [hcs, if_neg hlt, ← num_top (x - y)]; congr 1; omega
  rw [num_same e3] at c3
  have C1 := Lib.hid c1; have C3 := Lib.hid c3
  clear c1 c3 e3 hcs hz hx hy hm hlt
  obtain ⟨W0, hW0⟩ : ∃ W0, (((w.alloc (.cells #[.int .u64 (lm m 0 : Nat), .int .u64 (lm m 1 : Nat), .int .u64 (lm m 2 : Nat), .int .u64 (lm m 3 : Nat), .int .u64 (lm c 0 : Nat), .int .u64 (lm c 1 : Nat), .int .u64 (lm c 2 : Nat), .int .u64 (lm c 3 : Nat)] 76)).alloc (.cells #[.int .u64 (lm x 0 : Nat), .int .u64 (lm x 1 : Nat), .int .u64 (lm x 2 : Nat), .int .u64 (lm x 3 : Nat)] 24)).alloc (.cells #[.int .u64 (lm y 0 : Nat), .int .u64 (lm y 1 : Nat), .int .u64 (lm y 2 : Nat), .int .u64 (lm y 3 : Nat)] 24)).alloc (.cells #[.int .u64 0, .int .u64 0, .int .u64 0, .int .u64 0] 24) = W0 := ⟨_, rfl⟩
  have HB := Lib.hid (show UD W0 w.heap.size m c by rw [← hW0]; exact has_alloc (has_alloc (has_alloc (has_alloc_new _ _))))
  have HX := Lib.hid (show U4 W0 (w.heap.size + 1) 24 (lm x) by rw [← hW0]; exact has_alloc (has_alloc (has_alloc_at (by simp))))
  have HY := Lib.hid (show U4 W0 (w.heap.size + 1 + 1) 24 (lm y) by rw [← hW0]; exact has_alloc (has_alloc_at (by simp)))
  have HR := Lib.hid (show U4 W0 (w.heap.size + 1 + 1 + 1) 24 (fun _ => 0) by rw [← hW0]; exact has_alloc_at (by simp))
  have HC := Lib.hid (show Chg [] w W0 by rw [← hW0]; exact ((((Chg.refl _ _).alloc _).alloc _).alloc _).alloc _)
  obtain ⟨m0, m1, m2, m3⟩ := four4 fun _ => (HB.out).cm
  obtain ⟨c0, c1, c2, c3⟩ := four4 fun _ => (HB.out).cc
  obtain ⟨x0, x1, x2, x3⟩ := four4 fun _ => (HX.out).cell
  obtain ⟨y0, y1, y2, y3⟩ := four4 fun _ => (HY.out).cell
  unfold dcCells
  go_enter Try.func46, Try.ntmps46
  go_wp2_with fail
  try rw [hW0]
  clear hW0
  obtain ⟨P, hP⟩ : ∃ P, w.heap.size = P := ⟨_, rfl⟩
  rw [hP] at HB HX HY HR m0 m1 m2 m3 c0 c1 c2 c3 x0 x1 x2 x3 y0 y1 y2 y3 ⊢
  obtain ⟨R, hR⟩ : ∃ R, P + 1 + 1 + 1 = R := ⟨_, rfl⟩
  rw [hR] at HR ⊢
  have hRP : P + 1 < R := by omega
  have hRP2 : P + 1 + 1 < R := by omega
  replace hR := Lib.hid hR
  replace hP := Lib.hid hP
  refine (C1.out _).mono ?_
  rintro e w1 ⟨rfl, hC1⟩
  replace HB := Lib.hid (HB.out.chg hC1 nmN)
  replace HX := Lib.hid (HX.out.chg hC1 nmN)
  replace HY := Lib.hid (HY.out.chg hC1 nmN)
  replace HR := Lib.hid (HR.out.chg hC1 nmN)
  replace HC := Lib.hid (HC.out.trans hC1)
  clear hC1
  clear m0 m1 m2 m3 c0 c1 c2 c3 x0 x1 x2 x3 y0 y1 y2 y3
  obtain ⟨x0, x1, x2, x3⟩ := four4 fun _ => (HX.out).cell
  obtain ⟨y0, y1, y2, y3⟩ := four4 fun _ => (HY.out).cell
  go_wp2_with fail
  refine (C3.out _).mono ?_
  rintro e w1 ⟨rfl, hC1⟩
  clear x0 x1 x2 x3 y0 y1 y2 y3
  replace HB := Lib.hid (HB.out.chg hC1 nmN)
  replace HX := Lib.hid (HX.out.chg hC1 nmN)
  replace HY := Lib.hid (HY.out.chg hC1 nmN)
  replace HR := Lib.hid (HR.out.chg hC1 nmN)
  replace HC := Lib.hid (HC.out.trans hC1)
  clear hC1
  have hR9 := HR.out
  have q0 := hR9.cell (k := 0) (by omega); have qz0 := hR9.fz 0; have q1 := hR9.cell (k := 1) (by omega); have qz1 := hR9.fz 1; have q2 := hR9.cell (k := 2) (by omega); have qz2 := hR9.fz 2; have q3 := hR9.cell (k := 3) (by omega); have qz3 := hR9.fz 3
  have hll := hR9.lt
  have HF9 := Lib.hid (hR9.put (lm z)); have HCF := Lib.hid (HC.out.put4 (b := R) (Or.inr (by first | omega | (have := hP.out; omega))) (lm z))
  clear hR9
  go_wp2_with fail
  have hF := HF9.out; have hCF := HCF.out
  refine (id ?_ : bodyPost _ _ _ _ _ (put4 w1 (R) (lm z)))
  clear HF9 HCF
  generalize put4 w1 (R) (lm z) = W5 at *
  obtain ⟨g0, g1, g2, g3⟩ := four4 fun _ => hF.cell
  exact bodyPost_ret (v := .agg #[.int .u64 (lm z 0 : Nat), .int .u64 (lm z 1 : Nat), .int .u64 (lm z 2 : Nat), .int .u64 (lm z 3 : Nat)]) (by simp [results, Try.results46, go_sem, g0, g1, g2, g3]) rfl ⟨rfl, hCF⟩

theorem ref_sub {m c x y : Nat} (hm : m < B6 ^ 4) (hx : x < m) (hy : y < m) (w : World) : Calls Try.prog 46 #[.agg (dcCells m c), .agg #[.int .u64 (lm x 0 : Nat), .int .u64 (lm x 1 : Nat), .int .u64 (lm x 2 : Nat), .int .u64 (lm x 3 : Nat)], .agg #[.int .u64 (lm y 0 : Nat), .int .u64 (lm y 1 : Nat), .int .u64 (lm y 2 : Nat), .int .u64 (lm y 3 : Nat)]] w fun e w' => e = .returned (.agg #[.int .u64 (lm ((x + m - y) % m) 0 : Nat), .int .u64 (lm ((x + m - y) % m) 1 : Nat), .int .u64 (lm ((x + m - y) % m) 2 : Nat), .int .u64 (lm ((x + m - y) % m) 3 : Nat)]) ∧ Chg [] w w' := by
  by_cases h : x < y
  · exact ref_sub_l hm hx hy h w
  · exact ref_sub_g hm hx hy h w

def cP : Nat := 4294968273
theorem dc_P : Dc PP cP := ⟨by decide +kernel, by decide +kernel, by decide +kernel⟩
theorem cells_P : dcCells PP cP = #[.int .u64 18446744069414583343, .int .u64 18446744073709551615, .int .u64 18446744073709551615, .int .u64 18446744073709551615, .int .u64 4294968273, .int .u64 0, .int .u64 0, .int .u64 0] := by
  have h1 := num_PP
  unfold num limbs at h1
  simp only [Array.mk.injEq, List.cons.injEq] at h1
  obtain ⟨a0, a1, a2, a3, _⟩ := h1
  unfold dcCells
  rw [a0, a1, a2, a3, show lm cP 0 = 4294968273 by decide +kernel, show lm cP 1 = 0 by decide +kernel, show lm cP 2 = 0 by decide +kernel, show lm cP 3 = 0 by decide +kernel]
  rfl
set_option maxRecDepth 100000 in
set_option maxHeartbeats 4000000 in
theorem ref_base (w : World) : Calls Try.prog 40 #[] w fun e w' => e = .returned (.agg (dcCells PP cP)) ∧ Chg [] w w' := by
  rw [cells_P]
  go_enter Try.func40, Try.ntmps40
  go_wp2_with fail
  refine bodyPost_ret (v := .agg #[.int .u64 18446744069414583343, .int .u64 18446744073709551615, .int .u64 18446744073709551615, .int .u64 18446744073709551615, .int .u64 4294968273, .int .u64 0, .int .u64 0, .int .u64 0]) (by simp [results, Try.results40, go_sem]) rfl ⟨rfl, ?_⟩
  repeat (with_reducible first | exact Chg.refl _ _ | apply Chg.alloc | refine Chg.setCell ?_ (Or.inr (by simp)) _)

def cQ : Nat := 432420386565659656852420866394968145599
theorem dc_Q : Dc QQ cQ := ⟨by decide +kernel, by decide +kernel, by decide +kernel⟩
theorem cells_Q : dcCells QQ cQ = #[.int .u64 13822214165235122497, .int .u64 13451932020343611451, .int .u64 18446744073709551614, .int .u64 18446744073709551615, .int .u64 4624529908474429119, .int .u64 4994812053365940164, .int .u64 1, .int .u64 0] := by
  have h1 := num_QQ
  unfold num limbs at h1
  simp only [Array.mk.injEq, List.cons.injEq] at h1
  obtain ⟨a0, a1, a2, a3, _⟩ := h1
  unfold dcCells
  rw [a0, a1, a2, a3, show lm cQ 0 = 4624529908474429119 by decide +kernel, show lm cQ 1 = 4994812053365940164 by decide +kernel, show lm cQ 2 = 1 by decide +kernel, show lm cQ 3 = 0 by decide +kernel]
  rfl
set_option maxRecDepth 100000 in
set_option maxHeartbeats 4000000 in
theorem ref_scalars (w : World) : Calls Try.prog 51 #[] w fun e w' => e = .returned (.agg (dcCells QQ cQ)) ∧ Chg [] w w' := by
  rw [cells_Q]
  go_enter Try.func51, Try.ntmps51
  go_wp2_with fail
  refine bodyPost_ret (v := .agg #[.int .u64 13822214165235122497, .int .u64 13451932020343611451, .int .u64 18446744073709551614, .int .u64 18446744073709551615, .int .u64 4624529908474429119, .int .u64 4994812053365940164, .int .u64 1, .int .u64 0]) (by simp [results, Try.results51, go_sem]) rfl ⟨rfl, ?_⟩
  repeat (with_reducible first | exact Chg.refl _ _ | apply Chg.alloc | refine Chg.setCell ?_ (Or.inr (by simp)) _)

end Go.Proofs.Ytplldbmjdnikeaa

/- The document's field: the walks of wardmoteref02.Field.Pow, Inv. Printed by reff.py. -/
namespace Go.Proofs.Ytplldbmjdnikeaa
set_option linter.unusedVariables false
set_option linter.unusedSimpArgs false
open Go.RowKit

/-- A power's beginning. -/
def pwM (x e m n : Nat) : Nat := x ^ (e / 2 ^ n) % m
theorem pwM_sq (x e m j : Nat) : pwM x e m (j + 1) * pwM x e m (j + 1) % m = x ^ (2 * (e / 2 ^ (j + 1))) % m := by
  unfold pwM
  generalize e / 2 ^ (j + 1) = E
  rw [← Nat.mul_mod, Nat.two_mul, Nat.pow_add]
theorem pwM_bit0 {x e m j : Nat} (hb : e / 2 ^ j % 2 = 0) : x ^ (2 * (e / 2 ^ (j + 1))) % m = pwM x e m j := by
  unfold pwM
  congr 2
  rw [Nat.pow_succ, ← Nat.div_div_eq_div_mul]; omega
theorem pwM_bit1 {x e m j : Nat} (hb : e / 2 ^ j % 2 = 1) : x ^ (2 * (e / 2 ^ (j + 1))) % m * x % m = pwM x e m j := by
  unfold pwM
  have : e / 2 ^ j = 2 * (e / 2 ^ (j + 1)) + 1 := by
    rw [Nat.pow_succ, ← Nat.div_div_eq_div_mul]; omega
  rw [this]
  generalize e / 2 ^ (j + 1) = E
  rw [Nat.mod_mul_mod, Nat.pow_succ]

set_option maxRecDepth 100000 in
set_option maxHeartbeats 8000000 in
theorem ref_pow {m c x y : Nat} (hD : Dc m c) (h1 : 1 < m) (hx : x < m) (hy : y < B6 ^ 4) (w : World) : Calls Try.prog 91 #[.agg (dcCells m c), .agg #[.int .u64 (lm x 0 : Nat), .int .u64 (lm x 1 : Nat), .int .u64 (lm x 2 : Nat), .int .u64 (lm x 3 : Nat)], .agg #[.int .u64 (lm y 0 : Nat), .int .u64 (lm y 1 : Nat), .int .u64 (lm y 2 : Nat), .int .u64 (lm y 3 : Nat)]] w fun e w' => e = .returned (.agg #[.int .u64 (lm (x ^ y % m) 0 : Nat), .int .u64 (lm (x ^ y % m) 1 : Nat), .int .u64 (lm (x ^ y % m) 2 : Nat), .int .u64 (lm (x ^ y % m) 3 : Nat)]) ∧ Chg [] w w' := by
  have hlt : ∀ z, z % m < m := fun z => Nat.mod_lt _ (by omega)
  have hmul := fun a b (ha : a < B6 ^ 4) (hb : b < B6 ^ 4) w => ref_mul (c := c) hD ha hb w
  obtain ⟨z, hz⟩ : ∃ z, x ^ y % m = z := ⟨_, rfl⟩
  rw [hz]
  unfold dcCells at hmul
  have HMul := Lib.hid hmul; have HLt := Lib.hid hlt; have HZ := Lib.hid hz; have HD := Lib.hid hD; have H1 := Lib.hid h1; have HXl := Lib.hid hx; have HYl := Lib.hid hy
  clear hmul hlt hz hD h1 hx hy
  obtain ⟨W0, hW0⟩ : ∃ W0, (((w.alloc (.cells #[.int .u64 (lm m 0 : Nat), .int .u64 (lm m 1 : Nat), .int .u64 (lm m 2 : Nat), .int .u64 (lm m 3 : Nat), .int .u64 (lm c 0 : Nat), .int .u64 (lm c 1 : Nat), .int .u64 (lm c 2 : Nat), .int .u64 (lm c 3 : Nat)] 76)).alloc (.cells #[.int .u64 (lm x 0 : Nat), .int .u64 (lm x 1 : Nat), .int .u64 (lm x 2 : Nat), .int .u64 (lm x 3 : Nat)] 24)).alloc (.cells #[.int .u64 (lm y 0 : Nat), .int .u64 (lm y 1 : Nat), .int .u64 (lm y 2 : Nat), .int .u64 (lm y 3 : Nat)] 24)).alloc (.cells #[.int .u64 0, .int .u64 0, .int .u64 0, .int .u64 0] 24) = W0 := ⟨_, rfl⟩
  have HB := Lib.hid (show UD W0 w.heap.size m c by rw [← hW0]; exact has_alloc (has_alloc (has_alloc (has_alloc_new _ _))))
  have HX := Lib.hid (show U4 W0 (w.heap.size + 1) 24 (lm x) by rw [← hW0]; exact has_alloc (has_alloc (has_alloc_at (by simp))))
  have HY := Lib.hid (show U4 W0 (w.heap.size + 1 + 1) 24 (lm y) by rw [← hW0]; exact has_alloc (has_alloc_at (by simp)))
  have HR := Lib.hid (show U4 W0 (w.heap.size + 1 + 1 + 1) 24 (fun _ => 0) by rw [← hW0]; exact has_alloc_at (by simp))
  have HC := Lib.hid (show Chg [] w W0 by rw [← hW0]; exact ((((Chg.refl _ _).alloc _).alloc _).alloc _).alloc _)
  obtain ⟨m0, m1, m2, m3⟩ := four4 fun _ => (HB.out).cm
  obtain ⟨c0, c1, c2, c3⟩ := four4 fun _ => (HB.out).cc
  obtain ⟨x0, x1, x2, x3⟩ := four4 fun _ => (HX.out).cell
  obtain ⟨y0, y1, y2, y3⟩ := four4 fun _ => (HY.out).cell
  unfold dcCells
  go_enter Try.func91, Try.ntmps91
  go_upto_region 1 with fail
  try rw [hW0]
  clear hW0
  obtain ⟨P, hP⟩ : ∃ P, w.heap.size = P := ⟨_, rfl⟩
  rw [hP] at HB HX HY HR m0 m1 m2 m3 c0 c1 c2 c3 x0 x1 x2 x3 y0 y1 y2 y3 ⊢
  obtain ⟨R, hR⟩ : ∃ R, P + 1 + 1 + 1 = R := ⟨_, rfl⟩
  rw [hR] at HR ⊢
  have hRP : P + 1 < R := by omega
  have hRP2 : P + 1 + 1 < R := by omega
  replace hR := Lib.hid hR
  replace hP := Lib.hid hP
  clear m0 m1 m2 m3 c0 c1 c2 c3 x0 x1 x2 x3 y0 y1 y2 y3
  obtain ⟨W1, hW1⟩ : ∃ W1, W0.alloc (.cells #[.int .u64 1, .int .u64 0, .int .u64 0, .int .u64 0] 24) = W1 := ⟨_, rfl⟩
  have hA : Chg [] W0 W1 := by rw [← hW1]; exact (Chg.refl _ _).alloc _
  have hN : U4 W1 W0.heap.size 24 (lm 1) := by
    have h := num_1
    unfold num at h
    unfold U4
    rw [h, ← hW1]
    exact has_alloc_new _ _
  obtain ⟨B, hb⟩ : ∃ b, W0.heap.size = b := ⟨_, rfl⟩
  have hRB : R < B := by rw [← hb]; exact HR.out.lt
  rw [hb] at hN
  replace HB := Lib.hid (HB.out.chg hA nmN)
  replace HX := Lib.hid (HX.out.chg hA nmN)
  replace HY := Lib.hid (HY.out.chg hA nmN)
  replace HR := Lib.hid (HR.out.chg hA nmN)
  replace HC := Lib.hid (HC.out.trans hA)
  have HO := Lib.hid hN
  have HW1 := Lib.hid hW1; have Hb := Lib.hid hb
  clear hW1 hb hA hN
  go_upto_region 2 with fail
  try rw [HW1.out]
  try rw [Hb.out]
  clear HW1 Hb
  have hYs := HY.out
  go_wp2_with fail
  go_loopg [8] 4 (fun gk i wr => i = .int .i64 ((gk : Int) - 1) ∧ Hid (gk ≤ 4) ∧ U4 wr B 24 (lm (pwM x y m (64 * gk))) ∧ Chg [B] W1 wr)
  case atStart =>
    refine ⟨rfl, Lib.hid (by omega), ?_, Chg.refl _ _⟩
    have h : pwM x y m (64 * 4) = 1 := by
      unfold pwM
      rw [Nat.div_eq_of_lt (show y < 2 ^ (64 * 4) from HYl.out), Nat.pow_zero, Nat.mod_eq_of_lt H1.out]
    rw [h]
    exact HO.out
  case round =>
    obtain ⟨rfl, hg4, hO, hCr⟩ := hrel
    by_cases hg0 : gk = 0
    · subst hg0
      have hO6 := hO
      rw [show pwM x y m (64 * 0) = z by rw [← HZ.out]; unfold pwM; rw [Nat.mul_zero, Nat.pow_zero, Nat.div_one]] at hO6
      have hR6 := HR.out.chg hCr (by simp; omega)
      have hC6 := HC.out.trans_new hCr (by simp; have := hP.out; omega)
      obtain ⟨o0, o1, o2, o3⟩ := four4 fun _ => (hO6).cell
      obtain ⟨r0, r1, r2, r3⟩ := four4 fun _ => (hR6).cell
      have rz0 := (hR6).fz 0; have rz1 := (hR6).fz 1; have rz2 := (hR6).fz 2; have rz3 := (hR6).fz 3
      have hll := hR6.lt
      have HF := Lib.hid (hR6.put (lm z)); have HCF := Lib.hid (hC6.put4 (b := R) (Or.inr (by have := hP.out; omega)) (lm z))
      clear hO hCr hO6 hR6 hC6
      go_wp2_with fail
      have hF := HF.out
      have hCF := HCF.out
      refine (id ?_ : bodyPost _ _ _ _ _ (put4 wr R (lm z)))
      clear HF HCF
      generalize put4 wr R (lm z) = W9 at *
      obtain ⟨g0, g1, g2, g3⟩ := four4 fun _ => (hF).cell
      exact bodyPost_ret (v := .agg #[.int .u64 (lm z 0 : Nat), .int .u64 (lm z 1 : Nat), .int .u64 (lm z 2 : Nat), .int .u64 (lm z 3 : Nat)]) (by simp [results, Try.results91, go_sem, g0, g1, g2, g3]) rfl ⟨rfl, hCF⟩
    · obtain ⟨i, rfl⟩ : ∃ i, gk = i + 1 := ⟨gk - 1, by omega⟩
      have e0 : ((i + 1 : Nat) : Int) - 1 = (i : Nat) := by omega
      rw [e0]
      clear e0 hg0
      have hi4 : i < 4 := by have := hg4.out; omega
      have HO2 := Lib.hid hO; have HCr := Lib.hid hCr
      clear hO hCr
      have hi0 : decide ((0 : Int) ≤ (i : Int)) = true := by simp
      go_wp2_with fail
      go_loopg [9] 64 (fun t k wr => k = .int .i64 ((t : Int) - 1) ∧ Hid (t ≤ 64) ∧ U4 wr B 24 (lm (pwM x y m (64 * i + t))) ∧ Chg [B] W1 wr)
      case atStart => exact ⟨rfl, Lib.hid (by omega), by rw [show 64 * i + 64 = 64 * (i + 1) by omega]; exact HO2.out, HCr.out⟩
      case round =>
        obtain ⟨rfl, ht4, hO, hCr⟩ := hrel
        clear HO2 HCr
        by_cases ht0 : gk = 0
        · subst ht0
          have HO3 := Lib.hid hO; have HC3 := Lib.hid hCr
          clear hO hCr
          go_wp2_with fail
          go_roundg i
          case measure => omega
          case rel => exact ⟨by first | rfl | go_num, Lib.hid (by omega), HO3.out, HC3.out⟩
        · obtain ⟨k, rfl⟩ : ∃ k, gk = k + 1 := ⟨gk - 1, by omega⟩
          have e0 : ((k + 1 : Nat) : Int) - 1 = (k : Nat) := by omega
          rw [e0]
          clear e0 ht0
          have hk64 : k < 64 := by have := ht4.out; omega
          have hsq := pwM_sq x y m (64 * i + k)
          have hb0 := fun h => pwM_bit0 (x := x) (e := y) (m := m) (j := 64 * i + k) h
          have hb1 := fun h => pwM_bit1 (x := x) (e := y) (m := m) (j := 64 * i + k) h
          obtain ⟨q, hq⟩ : ∃ q, pwM x y m (64 * i + (k + 1)) = q := ⟨_, rfl⟩
          rw [show 64 * i + k + 1 = 64 * i + (k + 1) by omega, hq] at hsq
          rw [hq] at hO
          have hqm : q < m := by rw [← hq]; exact HLt.out _
          have hq4 : q < B6 ^ 4 := Nat.lt_trans hqm HD.out.lt
          have hm1 := fun w => HMul.out q q hq4 hq4 w
          obtain ⟨s, hs⟩ : ∃ s, q * q % m = s := ⟨_, rfl⟩
          have hs4 : s < B6 ^ 4 := by rw [← hs]; exact Nat.lt_trans (HLt.out _) HD.out.lt
          rw [hs] at hm1 hsq
          rw [show 64 * i + k + 1 = 64 * i + (k + 1) by omega, ← hsq] at hb0 hb1
          have HM1 := Lib.hid hm1; have HB0 := Lib.hid hb0; have HB1 := Lib.hid hb1; have HS4 := Lib.hid hs4
          have hBd := HB.out.chg hCr (by simp; omega)
          obtain ⟨m0, m1, m2, m3⟩ := four4 fun _ => hBd.cm; obtain ⟨c0, c1, c2, c3⟩ := four4 fun _ => hBd.cc
          obtain ⟨r0, r1, r2, r3⟩ := four4 fun _ => (hO).cell
          have HO3 := Lib.hid hO; have HC3 := Lib.hid hCr; have HB3 := Lib.hid hBd
          clear hsq hb0 hb1 hq hqm hq4 hm1 hs hs4 hBd hO hCr
          go_wp2_with fail
          refine (HM1.out _).mono ?_
          rintro e w3 ⟨rfl, hC3⟩
          clear m0 m1 m2 m3 c0 c1 c2 c3 r0 r1 r2 r3
          have hO4 := HO3.out.chg hC3 nmN
          obtain ⟨r0, r1, r2, r3⟩ := four4 fun _ => (hO4).cell
          have rz0 := (hO4).fz 0; have rz1 := (hO4).fz 1; have rz2 := (hO4).fz 2; have rz3 := (hO4).fz 3
          have hll := hO4.lt
          obtain ⟨W4, hW4⟩ : ∃ W4, (((w3.setCell ⟨B, 0, none⟩ (.int .u64 (lm s 0 : Nat))).setCell ⟨B, 1, none⟩ (.int .u64 (lm s 1 : Nat))).setCell ⟨B, 2, none⟩ (.int .u64 (lm s 2 : Nat))).setCell ⟨B, 3, none⟩ (.int .u64 (lm s 3 : Nat)) = W4 := ⟨_, rfl⟩
          have hA : Chg [B] w3 W4 := by rw [← hW4]; exact (Chg.refl _ _).put_x (Or.inl (by simp)) s
          have hO5 : U4 W4 B 24 (lm s) := by rw [← hW4]; exact hO4.put_x s
          have HO5 := Lib.hid hO5; have HC5 := Lib.hid ((HC3.out.trans (hC3.mono (by simp))).trans hA)
          have hY5 := HY.out.chg HC5.out (by simp; omega)
          have cY := hY5.cell hi4
          clear hC3 hO4 hA hO5 hY5 HO3 HC3
          go_upto_region 9 with fail
          clear r0 r1 r2 r3 rz0 rz1 rz2 rz3 hll
          try rw [hW4]
          clear hW4
          have hbn : lm y i / 2 ^ k % 2 = y / 2 ^ (64 * i + k) % 2 := bit_nat y (64 * i + k) i k (by omega) (by omega)
          obtain ⟨bt, hbt⟩ : ∃ bt, y / 2 ^ (64 * i + k) % 2 = bt := ⟨_, rfl⟩
          rw [hbt] at hbn HB0 HB1
          have hbi : ((lm y i : Int) / 2 ^ k).tmod 2 = (bt : Nat) := by
            rw [← hbn, Int.tmod_eq_emod_of_nonneg (Int.ediv_nonneg (by omega) (by exact Int.le_of_lt (Int.pow_pos (by omega))))]
            rfl
          have hbt1 : bt = 0 ∨ bt = 1 := by omega
          clear hbt hbn
          rcases hbt1 with rfl | rfl
          · have h0 := HB0.out rfl
            have hO6 := HO5.out
            rw [h0] at hO6
            have HO6 := Lib.hid hO6
            clear h0 hO6 HO5
            go_wp2_with fail
            go_roundg k
            case measure => omega
            case rel => exact ⟨by first | rfl | go_num, Lib.hid (by omega), HO6.out, HC5.out⟩
          · have h1 := HB1.out rfl
            have hm2 := fun w => HMul.out s x HS4.out (Nat.lt_trans HXl.out HD.out.lt) w
            rw [h1] at hm2
            obtain ⟨t, ht⟩ : ∃ t, pwM x y m (64 * i + k) = t := ⟨_, rfl⟩
            rw [ht] at hm2
            have HM2 := Lib.hid hm2; have HT := Lib.hid ht
            have hBd := HB.out.chg HC5.out (by simp; omega)
            have hX5 := HX.out.chg HC5.out (by simp; omega)
            obtain ⟨m0, m1, m2, m3⟩ := four4 fun _ => hBd.cm; obtain ⟨c0, c1, c2, c3⟩ := four4 fun _ => hBd.cc
            have hO6 := HO5.out
            obtain ⟨r0, r1, r2, r3⟩ := four4 fun _ => (hO6).cell
            obtain ⟨x0, x1, x2, x3⟩ := four4 fun _ => (hX5).cell
            clear hm2 ht h1 hBd hX5 hO6
            go_wp2_with fail
            refine (HM2.out _).mono ?_
            rintro e w6 ⟨rfl, hC6⟩
            clear m0 m1 m2 m3 c0 c1 c2 c3 r0 r1 r2 r3 x0 x1 x2 x3
            have hO7 := HO5.out.chg hC6 nmN
            obtain ⟨r0, r1, r2, r3⟩ := four4 fun _ => (hO7).cell
            have rz0 := (hO7).fz 0; have rz1 := (hO7).fz 1; have rz2 := (hO7).fz 2; have rz3 := (hO7).fz 3
            have hll := hO7.lt
            have hO8 := hO7.put_x t
            rw [← HT.out] at hO8
            have HO8 := Lib.hid hO8
            have HC8 := Lib.hid ((HC5.out.trans (hC6.mono (by simp))).put_x (b := B) (Or.inl (by simp)) t)
            clear hO7 hO8 hC6
            go_wp2_with fail
            go_roundg k
            case measure => omega
            case rel => exact ⟨by first | rfl | go_num, Lib.hid (by omega), by have h := HO8.out; rw [HT.out] at h; rw [HT.out]; exact h, HC8.out⟩

set_option maxRecDepth 100000 in
set_option maxHeartbeats 8000000 in
theorem ref_inv {m c x : Nat} (hD : Dc m c) (h1 : 2 < m) (hx : x < m) (w : World) : Calls Try.prog 73 #[.agg (dcCells m c), .agg #[.int .u64 (lm x 0 : Nat), .int .u64 (lm x 1 : Nat), .int .u64 (lm x 2 : Nat), .int .u64 (lm x 3 : Nat)]] w fun e w' => e = .returned (.agg #[.int .u64 (lm (x ^ (m - 2) % m) 0 : Nat), .int .u64 (lm (x ^ (m - 2) % m) 1 : Nat), .int .u64 (lm (x ^ (m - 2) % m) 2 : Nat), .int .u64 (lm (x ^ (m - 2) % m) 3 : Nat)]) ∧ Chg [] w w' := by
  have c1 := fun w => ref_minus m 2 (by decide) w
  have he : num (m + B6 ^ 4 - 2) = num (m - 2) := by
    rw [← num_top (m - 2)]; congr 1; omega
  have h2 : #[.int .u64 (lm 2 0 : Nat), .int .u64 (lm 2 1 : Nat), .int .u64 (lm 2 2 : Nat), .int .u64 (lm 2 3 : Nat)] = (#[.int .u64 2, .int .u64 0, .int .u64 0, .int .u64 0] : Array Value) := by
    rw [show lm 2 0 = 2 by decide +kernel, show lm 2 1 = 0 by decide +kernel, show lm 2 2 = 0 by decide +kernel, show lm 2 3 = 0 by decide +kernel]
    rfl
  rw [num_same he, h2] at c1
  have c2 := fun w => ref_pow (y := m - 2) hD (by omega) hx (by have := hD.lt; omega) w
  obtain ⟨z, hz⟩ : ∃ z, x ^ (m - 2) % m = z := ⟨_, rfl⟩
  rw [hz] at c2 ⊢
  obtain ⟨d, hd⟩ : ∃ d, m - 2 = d := ⟨_, rfl⟩
  rw [hd] at c1 c2
  unfold dcCells at c2
  have C1 := Lib.hid c1; have C2 := Lib.hid c2
  clear c1 c2 he h2 hz hd hx h1 hD
  obtain ⟨W0, hW0⟩ : ∃ W0, ((w.alloc (.cells #[.int .u64 (lm m 0 : Nat), .int .u64 (lm m 1 : Nat), .int .u64 (lm m 2 : Nat), .int .u64 (lm m 3 : Nat), .int .u64 (lm c 0 : Nat), .int .u64 (lm c 1 : Nat), .int .u64 (lm c 2 : Nat), .int .u64 (lm c 3 : Nat)] 76)).alloc (.cells #[.int .u64 (lm x 0 : Nat), .int .u64 (lm x 1 : Nat), .int .u64 (lm x 2 : Nat), .int .u64 (lm x 3 : Nat)] 24)).alloc (.cells #[.int .u64 0, .int .u64 0, .int .u64 0, .int .u64 0] 24) = W0 := ⟨_, rfl⟩
  have HB := Lib.hid (show UD W0 w.heap.size m c by rw [← hW0]; exact has_alloc (has_alloc (has_alloc_new _ _)))
  have HX := Lib.hid (show U4 W0 (w.heap.size + 1) 24 (lm x) by rw [← hW0]; exact has_alloc (has_alloc_at (by simp)))
  have HR := Lib.hid (show U4 W0 (w.heap.size + 1 + 1) 24 (fun _ => 0) by rw [← hW0]; exact has_alloc_at (by simp))
  have HC := Lib.hid (show Chg [] w W0 by rw [← hW0]; exact (((Chg.refl _ _).alloc _).alloc _).alloc _)
  obtain ⟨m0, m1, m2, m3⟩ := four4 fun _ => (HB.out).cm
  obtain ⟨c0, c1, c2, c3⟩ := four4 fun _ => (HB.out).cc
  obtain ⟨x0, x1, x2, x3⟩ := four4 fun _ => (HX.out).cell
  unfold dcCells
  go_enter Try.func73, Try.ntmps73
  go_upto_region 1 with fail
  try rw [hW0]
  clear hW0
  obtain ⟨P, hP⟩ : ∃ P, w.heap.size = P := ⟨_, rfl⟩
  rw [hP] at HB HX HR m0 m1 m2 m3 c0 c1 c2 c3 x0 x1 x2 x3 ⊢
  obtain ⟨R, hR⟩ : ∃ R, P + 1 + 1 = R := ⟨_, rfl⟩
  rw [hR] at HR ⊢
  have hRP : P + 1 < R := by omega
  replace hR := Lib.hid hR
  replace hP := Lib.hid hP
  have hRz := HR.out.z
  refine abs_region (B := Chg [R] W0) (S := fun w => Chg [R] W0 w ∧ w.heap[R]? = some (.cells #[.int .u64 0, .int .u64 0, .int .u64 0, .int .u64 0] 24 (0, 0))) (by kernel_rfl) ⟨(Chg.refl _ _).drew, hRz⟩ ?_
  have hG := good_at [R] W0 R (.cells #[.int .u64 0, .int .u64 0, .int .u64 0, .int .u64 0] 24 (0, 0))
  refine Abs.take_at (i := 0) (d := some 5) (v := ?_) rfl rfl (by kernel_rfl) (by kernel_rfl) (by kernel_rfl) (fun _ _ _ h => h) hG ⟨by rfl, fun w9 hw9 => Or.inl ?_⟩ ?_
  rotate_left
  · replace m0 := hw9.cell m0 (by simp; omega); replace m1 := hw9.cell m1 (by simp; omega); replace m2 := hw9.cell m2 (by simp; omega); replace m3 := hw9.cell m3 (by simp; omega); replace c0 := hw9.cell c0 (by simp; omega); replace c1 := hw9.cell c1 (by simp; omega); replace c2 := hw9.cell c2 (by simp; omega); replace c3 := hw9.cell c3 (by simp; omega)
    go_simp
    try with_reducible rfl
  simp only [Act.put, stA, stB, stC]
  refine Abs.take_at (i := 1) (d := some 6) (v := ?_) rfl rfl (by kernel_rfl) (by kernel_rfl) (by kernel_rfl) (fun _ _ _ h => h) hG ⟨by rfl, fun w9 hw9 => Or.inl ?_⟩ ?_
  rotate_left
  · replace x0 := hw9.cell x0 (by simp; omega); replace x1 := hw9.cell x1 (by simp; omega); replace x2 := hw9.cell x2 (by simp; omega); replace x3 := hw9.cell x3 (by simp; omega)
    go_simp
    try with_reducible rfl
  simp only [Act.put, stA, stB, stC]
  refine Abs.take_at (i := 2) (d := some 7) (v := ?_) rfl rfl (by kernel_rfl) (by kernel_rfl) (by kernel_rfl) (fun _ _ _ h => h) hG ⟨by rfl, fun w9 hw9 => Or.inl ?_⟩ ?_
  rotate_left
  · go_simp
    try with_reducible rfl
  simp only [Act.put, stA, stB, stC]
  refine Abs.take_at (i := 3) (d := some 8) (v := ?_) rfl rfl (by kernel_rfl) (by kernel_rfl) (by kernel_rfl) (fun _ _ _ h => h) hG ⟨by rfl, fun w9 hw9 => Or.inl ?_⟩ ?_
  rotate_left
  · replace m0 := hw9.cell m0 (by simp; omega); replace m1 := hw9.cell m1 (by simp; omega); replace m2 := hw9.cell m2 (by simp; omega); replace m3 := hw9.cell m3 (by simp; omega)
    go_simp
    try with_reducible rfl
  simp only [Act.put, stA, stB, stC]
  refine Abs.take_at (i := 4) (d := some 9) (v := ?_) rfl rfl (by kernel_rfl) (by kernel_rfl) (by kernel_rfl) (fun _ _ _ h => h) hG ⟨by rfl, fun w9 hw9 => Or.inl ?_⟩ ?_
  rotate_left
  · go_simp
    try with_reducible rfl
  simp only [Act.put, stA, stB, stC]
  refine Abs.take_at (i := 5) (d := some 10) (v := _) rfl rfl (by kernel_rfl) (by kernel_rfl) (by kernel_rfl) (fun _ _ _ h => h) hG ⟨by rfl, fun w9 hw9 => Or.inr ⟨_, _, ?_, C1.out w9⟩⟩ ?_
  · go_simp
    try with_reducible rfl
  simp only [Act.put, stA, stB, stC]
  refine Abs.take_at (i := 6) (d := some 11) (v := _) rfl rfl (by kernel_rfl) (by kernel_rfl) (by kernel_rfl) (fun _ _ _ h => h) hG ⟨by rfl, fun w9 hw9 => Or.inr ⟨_, _, ?_, C2.out w9⟩⟩ ?_
  · go_simp
    try with_reducible rfl
  simp only [Act.put, stA, stB, stC]
  refine Abs.store4 (i := 7) (b := R) (ds := #[.int .u64 (lm z 0 : Nat), .int .u64 (lm z 1 : Nat), .int .u64 (lm z 2 : Nat), .int .u64 (lm z 3 : Nat)]) rfl (by kernel_rfl) (by rfl) (fun w9 => (((w9.setCell ⟨R, 0, none⟩ (.int .u64 (lm z 0 : Nat))).setCell ⟨R, 1, none⟩ (.int .u64 (lm z 1 : Nat))).setCell ⟨R, 2, none⟩ (.int .u64 (lm z 2 : Nat))).setCell ⟨R, 3, none⟩ (.int .u64 (lm z 3 : Nat))) (fun w9 h9 => ⟨?_, ?_, ?_⟩) (fun _ _ h k => Chg.keeps (Or.inl (by simp)) h k) (good_chg [R] W0) (fun hG => ?_)
  · have n0 := cell_of_has h9 0; have n1 := cell_of_has h9 1; have n2 := cell_of_has h9 2; have n3 := cell_of_has h9 3
    simp only [glA, glB, glC] at n0 n1 n2 n3
    have z0 := frozen_of_has h9 0; have z1 := frozen_of_has h9 1; have z2 := frozen_of_has h9 2; have z3 := frozen_of_has h9 3
    clear h9
    go_simp
    try with_reducible rfl
  · exact U4.put_x (x := fun _ => 0) h9 z
  · exact Chg.put_x (Chg.refl _ _) (Or.inl (by simp)) z
  refine Abs.at_put (d := none) rfl ?_
  simp only [Act.put, stA, stB, stC]
  refine Abs.done (by kernel_rfl) (fun wx hx => NoPanic.normal ?_) _
  clear m0 m1 m2 m3 c0 c1 c2 c3 x0 x1 x2 x3
  obtain ⟨hA, hN⟩ := hx
  have hCF : Chg [] w wx := HC.out.trans_new hA (by simp; have := hP.out; omega)
  have g0 := cell_of_has hN 0; have g1 := cell_of_has hN 1; have g2 := cell_of_has hN 2; have g3 := cell_of_has hN 3
  simp only [glA, glB, glC] at g0 g1 g2 g3
  go_wp2_with fail
  exact bodyPost_ret (v := .agg #[.int .u64 (lm z 0 : Nat), .int .u64 (lm z 1 : Nat), .int .u64 (lm z 2 : Nat), .int .u64 (lm z 3 : Nat)]) (by simp [results, Try.results73, go_sem, g0, g1, g2, g3]) rfl ⟨rfl, hCF⟩

end Go.Proofs.Ytplldbmjdnikeaa
