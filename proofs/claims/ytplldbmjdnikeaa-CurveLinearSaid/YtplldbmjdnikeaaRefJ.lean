/- The document's points: the walk of wardmoteref03.Plus. Printed by refj.py. -/
import Derived.Test.YtplldbmjdnikeaaRe3
namespace Go.Proofs.Ytplldbmjdnikeaa
set_option linter.unusedVariables false
set_option linter.unusedSimpArgs false
open Go.RowKit

set_option maxRecDepth 100000 in
set_option maxHeartbeats 8000000 in
theorem rplus_l (p q : J) (hz : p.z = 0) (w : World) : Calls Try.prog 36 #[.agg (ov p), .agg (ov q)] w fun e w' => e = .returned (.agg (ov q)) ∧ Chg [] w w' := by

  obtain ⟨Axe, heAx⟩ : ∃ e, p.x = e := ⟨_, rfl⟩
  obtain ⟨Axv, hAxv⟩ : ∃ v, Axe.val = v := ⟨_, rfl⟩
  obtain ⟨Aye, heAy⟩ : ∃ e, p.y = e := ⟨_, rfl⟩
  obtain ⟨Ayv, hAyv⟩ : ∃ v, Aye.val = v := ⟨_, rfl⟩
  obtain ⟨Aze, heAz⟩ : ∃ e, p.z = e := ⟨_, rfl⟩
  obtain ⟨Azv, hAzv⟩ : ∃ v, Aze.val = v := ⟨_, rfl⟩
  obtain ⟨Bxe, heBx⟩ : ∃ e, q.x = e := ⟨_, rfl⟩
  obtain ⟨Bxv, hBxv⟩ : ∃ v, Bxe.val = v := ⟨_, rfl⟩
  obtain ⟨Bye, heBy⟩ : ∃ e, q.y = e := ⟨_, rfl⟩
  obtain ⟨Byv, hByv⟩ : ∃ v, Bye.val = v := ⟨_, rfl⟩
  obtain ⟨Bze, heBz⟩ : ∃ e, q.z = e := ⟨_, rfl⟩
  obtain ⟨Bzv, hBzv⟩ : ∃ v, Bze.val = v := ⟨_, rfl⟩
  have Q1 := Lib.hid (fun w => rp_zero hAzv true (by rw [← heAz]; simpa using hz) w)
  have hj : ov p = #[.int .u64 (lm Axv 0 : Nat), .int .u64 (lm Axv 1 : Nat), .int .u64 (lm Axv 2 : Nat), .int .u64 (lm Axv 3 : Nat), .int .u64 (lm Ayv 0 : Nat), .int .u64 (lm Ayv 1 : Nat), .int .u64 (lm Ayv 2 : Nat), .int .u64 (lm Ayv 3 : Nat), .int .u64 (lm Azv 0 : Nat), .int .u64 (lm Azv 1 : Nat), .int .u64 (lm Azv 2 : Nat), .int .u64 (lm Azv 3 : Nat)] := by unfold ov; rw [heAx, heAy, heAz, hAxv, hAyv, hAzv]
  have hj2 : ov q = #[.int .u64 (lm Bxv 0 : Nat), .int .u64 (lm Bxv 1 : Nat), .int .u64 (lm Bxv 2 : Nat), .int .u64 (lm Bxv 3 : Nat), .int .u64 (lm Byv 0 : Nat), .int .u64 (lm Byv 1 : Nat), .int .u64 (lm Byv 2 : Nat), .int .u64 (lm Byv 3 : Nat), .int .u64 (lm Bzv 0 : Nat), .int .u64 (lm Bzv 1 : Nat), .int .u64 (lm Bzv 2 : Nat), .int .u64 (lm Bzv 3 : Nat)] := by unfold ov; rw [heBx, heBy, heBz, hBxv, hByv, hBzv]
  rw [hj, hj2]
  clear hj hj2 hz heAx hAxv heAy hAyv heAz hAzv heBx hBxv heBy hByv heBz hBzv
  obtain ⟨W0, hW0⟩ : ∃ W0, ((w.alloc (.cells #[.int .u64 (lm Axv 0 : Nat), .int .u64 (lm Axv 1 : Nat), .int .u64 (lm Axv 2 : Nat), .int .u64 (lm Axv 3 : Nat), .int .u64 (lm Ayv 0 : Nat), .int .u64 (lm Ayv 1 : Nat), .int .u64 (lm Ayv 2 : Nat), .int .u64 (lm Ayv 3 : Nat), .int .u64 (lm Azv 0 : Nat), .int .u64 (lm Azv 1 : Nat), .int .u64 (lm Azv 2 : Nat), .int .u64 (lm Azv 3 : Nat)] 71)).alloc (.cells #[.int .u64 (lm Bxv 0 : Nat), .int .u64 (lm Bxv 1 : Nat), .int .u64 (lm Bxv 2 : Nat), .int .u64 (lm Bxv 3 : Nat), .int .u64 (lm Byv 0 : Nat), .int .u64 (lm Byv 1 : Nat), .int .u64 (lm Byv 2 : Nat), .int .u64 (lm Byv 3 : Nat), .int .u64 (lm Bzv 0 : Nat), .int .u64 (lm Bzv 1 : Nat), .int .u64 (lm Bzv 2 : Nat), .int .u64 (lm Bzv 3 : Nat)] 71)).alloc (.cells #[.int .u64 0, .int .u64 0, .int .u64 0, .int .u64 0, .int .u64 0, .int .u64 0, .int .u64 0, .int .u64 0, .int .u64 0, .int .u64 0, .int .u64 0, .int .u64 0] 71) = W0 := ⟨_, rfl⟩
  have HBA := Lib.hid (show U12 W0 (w.heap.size) 71 Axv Ayv Azv by rw [← hW0]; exact has_alloc (has_alloc (has_alloc_new _ _)))
  have HBB := Lib.hid (show U12 W0 (w.heap.size + 1) 71 Bxv Byv Bzv by rw [← hW0]; exact has_alloc (has_alloc_at (by simp)))
  have HR := Lib.hid (show Z12 W0 (w.heap.size + 1 + 1) 71 by rw [← hW0]; exact has_alloc_at (by simp))
  have HC := Lib.hid (show Chg [] w W0 by rw [← hW0]; exact (((Chg.refl _ _).alloc _).alloc _).alloc _)
  obtain ⟨Az0, Az1, Az2, Az3⟩ := four4 fun _ => (HBA.out).cz
  go_enter Try.func36, Try.ntmps36
  go_wp2_with fail
  try rw [hW0]
  clear hW0
  obtain ⟨P, hP⟩ : ∃ P, w.heap.size = P := ⟨_, rfl⟩
  rw [hP] at HBA HBB HR Az0 Az1 Az2 Az3 ⊢
  obtain ⟨R, hR⟩ : ∃ R, P + 1 + 1 = R := ⟨_, rfl⟩
  rw [hR] at HR ⊢
  have hRP : P < R := by omega
  have hRP2 : P + 1 < R := by omega
  replace hR := Lib.hid hR
  replace hP := Lib.hid hP
  refine (Q1.out _).mono ?_
  rintro e w1 ⟨rfl, hC1⟩
  clear Az0 Az1 Az2 Az3
  replace HBA := Lib.hid (HBA.out.chg hC1 nmN)
  replace HBB := Lib.hid (HBB.out.chg hC1 nmN)
  replace HR := Lib.hid (HR.out.chg hC1 nmN)
  replace HC := Lib.hid (HC.out.trans hC1)
  clear hC1
  obtain ⟨sx0, sx1, sx2, sx3⟩ := four4 fun _ => (HBB.out).cx; obtain ⟨sy0, sy1, sy2, sy3⟩ := four4 fun _ => (HBB.out).cy; obtain ⟨sz0, sz1, sz2, sz3⟩ := four4 fun _ => (HBB.out).cz
  go_upto_region 2 with fail
  have hRz := HR.out
  have n0 := cell_of_has hRz 0; have n1 := cell_of_has hRz 1; have n2 := cell_of_has hRz 2; have n3 := cell_of_has hRz 3; have n4 := cell_of_has hRz 4; have n5 := cell_of_has hRz 5; have n6 := cell_of_has hRz 6; have n7 := cell_of_has hRz 7; have n8 := cell_of_has hRz 8; have n9 := cell_of_has hRz 9; have n10 := cell_of_has hRz 10; have n11 := cell_of_has hRz 11
  simp only [glA, glB, glC] at n0 n1 n2 n3 n4 n5 n6 n7 n8 n9 n10 n11
  have nz0 := frozen_of_has hRz 0; have nz1 := frozen_of_has hRz 1; have nz2 := frozen_of_has hRz 2; have nz3 := frozen_of_has hRz 3; have nz4 := frozen_of_has hRz 4; have nz5 := frozen_of_has hRz 5; have nz6 := frozen_of_has hRz 6; have nz7 := frozen_of_has hRz 7; have nz8 := frozen_of_has hRz 8; have nz9 := frozen_of_has hRz 9; have nz10 := frozen_of_has hRz 10; have nz11 := frozen_of_has hRz 11
  have hll := hRz.lt
  have HF := Lib.hid (hRz.u12.put Bxv Byv Bzv); have HCF := Lib.hid (HC.out.put12 (b := R) (Or.inr (by have := hP.out; omega)) Bxv Byv Bzv)
  clear hRz
  go_wp2_with fail
  have hF := HF.out; have hCF := HCF.out
  refine (id ?_ : bodyPost _ _ _ _ _ (put12 w1 R Bxv Byv Bzv))
  clear HF HCF
  generalize put12 w1 R Bxv Byv Bzv = W5 at *
  have g0 := cell_of_has hF 0; have g1 := cell_of_has hF 1; have g2 := cell_of_has hF 2; have g3 := cell_of_has hF 3; have g4 := cell_of_has hF 4; have g5 := cell_of_has hF 5; have g6 := cell_of_has hF 6; have g7 := cell_of_has hF 7; have g8 := cell_of_has hF 8; have g9 := cell_of_has hF 9; have g10 := cell_of_has hF 10; have g11 := cell_of_has hF 11
  simp only [glA, glB, glC] at g0 g1 g2 g3 g4 g5 g6 g7 g8 g9 g10 g11
  exact bodyPost_ret (v := .agg #[.int .u64 (lm Bxv 0 : Nat), .int .u64 (lm Bxv 1 : Nat), .int .u64 (lm Bxv 2 : Nat), .int .u64 (lm Bxv 3 : Nat), .int .u64 (lm Byv 0 : Nat), .int .u64 (lm Byv 1 : Nat), .int .u64 (lm Byv 2 : Nat), .int .u64 (lm Byv 3 : Nat), .int .u64 (lm Bzv 0 : Nat), .int .u64 (lm Bzv 1 : Nat), .int .u64 (lm Bzv 2 : Nat), .int .u64 (lm Bzv 3 : Nat)]) (by simp [results, Try.results36, go_sem, g0, g1, g2, g3, g4, g5, g6, g7, g8, g9, g10, g11]) rfl ⟨rfl, hCF⟩

set_option maxRecDepth 100000 in
set_option maxHeartbeats 8000000 in
theorem rplus_r (p q : J) (hz : ¬ p.z = 0) (hy : q.z = 0) (w : World) : Calls Try.prog 36 #[.agg (ov p), .agg (ov q)] w fun e w' => e = .returned (.agg (ov p)) ∧ Chg [] w w' := by

  obtain ⟨Axe, heAx⟩ : ∃ e, p.x = e := ⟨_, rfl⟩
  obtain ⟨Axv, hAxv⟩ : ∃ v, Axe.val = v := ⟨_, rfl⟩
  obtain ⟨Aye, heAy⟩ : ∃ e, p.y = e := ⟨_, rfl⟩
  obtain ⟨Ayv, hAyv⟩ : ∃ v, Aye.val = v := ⟨_, rfl⟩
  obtain ⟨Aze, heAz⟩ : ∃ e, p.z = e := ⟨_, rfl⟩
  obtain ⟨Azv, hAzv⟩ : ∃ v, Aze.val = v := ⟨_, rfl⟩
  obtain ⟨Bxe, heBx⟩ : ∃ e, q.x = e := ⟨_, rfl⟩
  obtain ⟨Bxv, hBxv⟩ : ∃ v, Bxe.val = v := ⟨_, rfl⟩
  obtain ⟨Bye, heBy⟩ : ∃ e, q.y = e := ⟨_, rfl⟩
  obtain ⟨Byv, hByv⟩ : ∃ v, Bye.val = v := ⟨_, rfl⟩
  obtain ⟨Bze, heBz⟩ : ∃ e, q.z = e := ⟨_, rfl⟩
  obtain ⟨Bzv, hBzv⟩ : ∃ v, Bze.val = v := ⟨_, rfl⟩
  have Q1 := Lib.hid (fun w => rp_zero hAzv false (by rw [← heAz]; simpa using hz) w)
  have Q2 := Lib.hid (fun w => rp_zero hBzv true (by rw [← heBz]; simpa using hy) w)
  have hj : ov p = #[.int .u64 (lm Axv 0 : Nat), .int .u64 (lm Axv 1 : Nat), .int .u64 (lm Axv 2 : Nat), .int .u64 (lm Axv 3 : Nat), .int .u64 (lm Ayv 0 : Nat), .int .u64 (lm Ayv 1 : Nat), .int .u64 (lm Ayv 2 : Nat), .int .u64 (lm Ayv 3 : Nat), .int .u64 (lm Azv 0 : Nat), .int .u64 (lm Azv 1 : Nat), .int .u64 (lm Azv 2 : Nat), .int .u64 (lm Azv 3 : Nat)] := by unfold ov; rw [heAx, heAy, heAz, hAxv, hAyv, hAzv]
  have hj2 : ov q = #[.int .u64 (lm Bxv 0 : Nat), .int .u64 (lm Bxv 1 : Nat), .int .u64 (lm Bxv 2 : Nat), .int .u64 (lm Bxv 3 : Nat), .int .u64 (lm Byv 0 : Nat), .int .u64 (lm Byv 1 : Nat), .int .u64 (lm Byv 2 : Nat), .int .u64 (lm Byv 3 : Nat), .int .u64 (lm Bzv 0 : Nat), .int .u64 (lm Bzv 1 : Nat), .int .u64 (lm Bzv 2 : Nat), .int .u64 (lm Bzv 3 : Nat)] := by unfold ov; rw [heBx, heBy, heBz, hBxv, hByv, hBzv]
  rw [hj, hj2]
  clear hj hj2 hz hy heAx hAxv heAy hAyv heAz hAzv heBx hBxv heBy hByv heBz hBzv
  obtain ⟨W0, hW0⟩ : ∃ W0, ((w.alloc (.cells #[.int .u64 (lm Axv 0 : Nat), .int .u64 (lm Axv 1 : Nat), .int .u64 (lm Axv 2 : Nat), .int .u64 (lm Axv 3 : Nat), .int .u64 (lm Ayv 0 : Nat), .int .u64 (lm Ayv 1 : Nat), .int .u64 (lm Ayv 2 : Nat), .int .u64 (lm Ayv 3 : Nat), .int .u64 (lm Azv 0 : Nat), .int .u64 (lm Azv 1 : Nat), .int .u64 (lm Azv 2 : Nat), .int .u64 (lm Azv 3 : Nat)] 71)).alloc (.cells #[.int .u64 (lm Bxv 0 : Nat), .int .u64 (lm Bxv 1 : Nat), .int .u64 (lm Bxv 2 : Nat), .int .u64 (lm Bxv 3 : Nat), .int .u64 (lm Byv 0 : Nat), .int .u64 (lm Byv 1 : Nat), .int .u64 (lm Byv 2 : Nat), .int .u64 (lm Byv 3 : Nat), .int .u64 (lm Bzv 0 : Nat), .int .u64 (lm Bzv 1 : Nat), .int .u64 (lm Bzv 2 : Nat), .int .u64 (lm Bzv 3 : Nat)] 71)).alloc (.cells #[.int .u64 0, .int .u64 0, .int .u64 0, .int .u64 0, .int .u64 0, .int .u64 0, .int .u64 0, .int .u64 0, .int .u64 0, .int .u64 0, .int .u64 0, .int .u64 0] 71) = W0 := ⟨_, rfl⟩
  have HBA := Lib.hid (show U12 W0 (w.heap.size) 71 Axv Ayv Azv by rw [← hW0]; exact has_alloc (has_alloc (has_alloc_new _ _)))
  have HBB := Lib.hid (show U12 W0 (w.heap.size + 1) 71 Bxv Byv Bzv by rw [← hW0]; exact has_alloc (has_alloc_at (by simp)))
  have HR := Lib.hid (show Z12 W0 (w.heap.size + 1 + 1) 71 by rw [← hW0]; exact has_alloc_at (by simp))
  have HC := Lib.hid (show Chg [] w W0 by rw [← hW0]; exact (((Chg.refl _ _).alloc _).alloc _).alloc _)
  obtain ⟨Az0, Az1, Az2, Az3⟩ := four4 fun _ => (HBA.out).cz
  go_enter Try.func36, Try.ntmps36
  go_wp2_with fail
  try rw [hW0]
  clear hW0
  obtain ⟨P, hP⟩ : ∃ P, w.heap.size = P := ⟨_, rfl⟩
  rw [hP] at HBA HBB HR Az0 Az1 Az2 Az3 ⊢
  obtain ⟨R, hR⟩ : ∃ R, P + 1 + 1 = R := ⟨_, rfl⟩
  rw [hR] at HR ⊢
  have hRP : P < R := by omega
  have hRP2 : P + 1 < R := by omega
  replace hR := Lib.hid hR
  replace hP := Lib.hid hP
  refine (Q1.out _).mono ?_
  rintro e w1 ⟨rfl, hC1⟩
  clear Az0 Az1 Az2 Az3
  replace HBA := Lib.hid (HBA.out.chg hC1 nmN)
  replace HBB := Lib.hid (HBB.out.chg hC1 nmN)
  replace HR := Lib.hid (HR.out.chg hC1 nmN)
  replace HC := Lib.hid (HC.out.trans hC1)
  clear hC1
  obtain ⟨Bz0, Bz1, Bz2, Bz3⟩ := four4 fun _ => (HBB.out).cz
  go_wp2_with fail
  refine (Q2.out _).mono ?_
  rintro e w1 ⟨rfl, hC1⟩
  clear Bz0 Bz1 Bz2 Bz3
  replace HBA := Lib.hid (HBA.out.chg hC1 nmN)
  replace HBB := Lib.hid (HBB.out.chg hC1 nmN)
  replace HR := Lib.hid (HR.out.chg hC1 nmN)
  replace HC := Lib.hid (HC.out.trans hC1)
  clear hC1
  obtain ⟨sx0, sx1, sx2, sx3⟩ := four4 fun _ => (HBA.out).cx; obtain ⟨sy0, sy1, sy2, sy3⟩ := four4 fun _ => (HBA.out).cy; obtain ⟨sz0, sz1, sz2, sz3⟩ := four4 fun _ => (HBA.out).cz
  go_upto_region 4 with fail
  have hRz := HR.out
  have n0 := cell_of_has hRz 0; have n1 := cell_of_has hRz 1; have n2 := cell_of_has hRz 2; have n3 := cell_of_has hRz 3; have n4 := cell_of_has hRz 4; have n5 := cell_of_has hRz 5; have n6 := cell_of_has hRz 6; have n7 := cell_of_has hRz 7; have n8 := cell_of_has hRz 8; have n9 := cell_of_has hRz 9; have n10 := cell_of_has hRz 10; have n11 := cell_of_has hRz 11
  simp only [glA, glB, glC] at n0 n1 n2 n3 n4 n5 n6 n7 n8 n9 n10 n11
  have nz0 := frozen_of_has hRz 0; have nz1 := frozen_of_has hRz 1; have nz2 := frozen_of_has hRz 2; have nz3 := frozen_of_has hRz 3; have nz4 := frozen_of_has hRz 4; have nz5 := frozen_of_has hRz 5; have nz6 := frozen_of_has hRz 6; have nz7 := frozen_of_has hRz 7; have nz8 := frozen_of_has hRz 8; have nz9 := frozen_of_has hRz 9; have nz10 := frozen_of_has hRz 10; have nz11 := frozen_of_has hRz 11
  have hll := hRz.lt
  have HF := Lib.hid (hRz.u12.put Axv Ayv Azv); have HCF := Lib.hid (HC.out.put12 (b := R) (Or.inr (by have := hP.out; omega)) Axv Ayv Azv)
  clear hRz
  go_wp2_with fail
  have hF := HF.out; have hCF := HCF.out
  refine (id ?_ : bodyPost _ _ _ _ _ (put12 w1 R Axv Ayv Azv))
  clear HF HCF
  generalize put12 w1 R Axv Ayv Azv = W5 at *
  have g0 := cell_of_has hF 0; have g1 := cell_of_has hF 1; have g2 := cell_of_has hF 2; have g3 := cell_of_has hF 3; have g4 := cell_of_has hF 4; have g5 := cell_of_has hF 5; have g6 := cell_of_has hF 6; have g7 := cell_of_has hF 7; have g8 := cell_of_has hF 8; have g9 := cell_of_has hF 9; have g10 := cell_of_has hF 10; have g11 := cell_of_has hF 11
  simp only [glA, glB, glC] at g0 g1 g2 g3 g4 g5 g6 g7 g8 g9 g10 g11
  exact bodyPost_ret (v := .agg #[.int .u64 (lm Axv 0 : Nat), .int .u64 (lm Axv 1 : Nat), .int .u64 (lm Axv 2 : Nat), .int .u64 (lm Axv 3 : Nat), .int .u64 (lm Ayv 0 : Nat), .int .u64 (lm Ayv 1 : Nat), .int .u64 (lm Ayv 2 : Nat), .int .u64 (lm Ayv 3 : Nat), .int .u64 (lm Azv 0 : Nat), .int .u64 (lm Azv 1 : Nat), .int .u64 (lm Azv 2 : Nat), .int .u64 (lm Azv 3 : Nat)]) (by simp [results, Try.results36, go_sem, g0, g1, g2, g3, g4, g5, g6, g7, g8, g9, g10, g11]) rfl ⟨rfl, hCF⟩

set_option maxRecDepth 100000 in
set_option maxHeartbeats 8000000 in
theorem rplus_z (p q : J) (hz : ¬ p.z = 0) (hy : ¬ q.z = 0) (hvn : q.x * p.z - p.x * q.z = 0) (hun : ¬ q.y * p.z - p.y * q.z = 0) (w : World) : Calls Try.prog 36 #[.agg (ov p), .agg (ov q)] w fun e w' => e = .returned (.agg (ov ⟨0, 1, 0⟩)) ∧ Chg [] w w' := by

  obtain ⟨Axe, heAx⟩ : ∃ e, p.x = e := ⟨_, rfl⟩
  obtain ⟨Axv, hAxv⟩ : ∃ v, Axe.val = v := ⟨_, rfl⟩
  obtain ⟨Aye, heAy⟩ : ∃ e, p.y = e := ⟨_, rfl⟩
  obtain ⟨Ayv, hAyv⟩ : ∃ v, Aye.val = v := ⟨_, rfl⟩
  obtain ⟨Aze, heAz⟩ : ∃ e, p.z = e := ⟨_, rfl⟩
  obtain ⟨Azv, hAzv⟩ : ∃ v, Aze.val = v := ⟨_, rfl⟩
  obtain ⟨Bxe, heBx⟩ : ∃ e, q.x = e := ⟨_, rfl⟩
  obtain ⟨Bxv, hBxv⟩ : ∃ v, Bxe.val = v := ⟨_, rfl⟩
  obtain ⟨Bye, heBy⟩ : ∃ e, q.y = e := ⟨_, rfl⟩
  obtain ⟨Byv, hByv⟩ : ∃ v, Bye.val = v := ⟨_, rfl⟩
  obtain ⟨Bze, heBz⟩ : ∃ e, q.z = e := ⟨_, rfl⟩
  obtain ⟨Bzv, hBzv⟩ : ∃ v, Bze.val = v := ⟨_, rfl⟩
  obtain ⟨e0, he0⟩ : ∃ e, Bye * Aze = e := ⟨_, rfl⟩
  obtain ⟨v0, hv0⟩ : ∃ v, e0.val = v := ⟨_, rfl⟩
  obtain ⟨e1, he1⟩ : ∃ e, Aye * Bze = e := ⟨_, rfl⟩
  obtain ⟨v1, hv1⟩ : ∃ v, e1.val = v := ⟨_, rfl⟩
  obtain ⟨e2, he2⟩ : ∃ e, e0 - e1 = e := ⟨_, rfl⟩
  obtain ⟨v2, hv2⟩ : ∃ v, e2.val = v := ⟨_, rfl⟩
  obtain ⟨e3, he3⟩ : ∃ e, Bxe * Aze = e := ⟨_, rfl⟩
  obtain ⟨v3, hv3⟩ : ∃ v, e3.val = v := ⟨_, rfl⟩
  obtain ⟨e4, he4⟩ : ∃ e, Axe * Bze = e := ⟨_, rfl⟩
  obtain ⟨v4, hv4⟩ : ∃ v, e4.val = v := ⟨_, rfl⟩
  obtain ⟨e5, he5⟩ : ∃ e, e3 - e4 = e := ⟨_, rfl⟩
  obtain ⟨v5, hv5⟩ : ∃ v, e5.val = v := ⟨_, rfl⟩
  have C0 := Lib.hid (fun w => rp_mul (t := v0) hByv hAzv (by rw [he0]; exact hv0) w)
  have C1 := Lib.hid (fun w => rp_mul (t := v1) hAyv hBzv (by rw [he1]; exact hv1) w)
  have C2 := Lib.hid (fun w => rp_sub (t := v2) hv0 hv1 (by rw [he2]; exact hv2) w)
  have C3 := Lib.hid (fun w => rp_mul (t := v3) hBxv hAzv (by rw [he3]; exact hv3) w)
  have C4 := Lib.hid (fun w => rp_mul (t := v4) hAxv hBzv (by rw [he4]; exact hv4) w)
  have C5 := Lib.hid (fun w => rp_sub (t := v5) hv3 hv4 (by rw [he5]; exact hv5) w)
  obtain ⟨Zr, hZr⟩ : ∃ Z, ov ⟨0, 1, 0⟩ = Z := ⟨_, rfl⟩
  rw [hZr]
  have hve : q.x * p.z - p.x * q.z = e5 := by rw [heBx, heAz, heAx, heBz]; subst he5; subst he4; subst he3; subst he2; subst he1; subst he0; rfl
  have hue : q.y * p.z - p.y * q.z = e2 := by rw [heBy, heAz, heAy, heBz]; subst he5; subst he4; subst he3; subst he2; subst he1; subst he0; rfl
  have Q3 := Lib.hid (fun w => rp_zero hv5 true (by rw [← hve]; simpa using hvn) w)
  have Q4 := Lib.hid (fun w => rp_zero hv2 false (by rw [← hue]; simpa using hun) w)
  have HZ := Lib.hid (show Zr = #[.int .u64 0, .int .u64 0, .int .u64 0, .int .u64 0, .int .u64 1, .int .u64 0, .int .u64 0, .int .u64 0, .int .u64 0, .int .u64 0, .int .u64 0, .int .u64 0] by rw [← hZr, ov_inf])
  clear hvn hun
  have Q1 := Lib.hid (fun w => rp_zero hAzv false (by rw [← heAz]; simpa using hz) w)
  have Q2 := Lib.hid (fun w => rp_zero hBzv false (by rw [← heBz]; simpa using hy) w)
  have HBase := Lib.hid rp_base
  have hj : ov p = #[.int .u64 (lm Axv 0 : Nat), .int .u64 (lm Axv 1 : Nat), .int .u64 (lm Axv 2 : Nat), .int .u64 (lm Axv 3 : Nat), .int .u64 (lm Ayv 0 : Nat), .int .u64 (lm Ayv 1 : Nat), .int .u64 (lm Ayv 2 : Nat), .int .u64 (lm Ayv 3 : Nat), .int .u64 (lm Azv 0 : Nat), .int .u64 (lm Azv 1 : Nat), .int .u64 (lm Azv 2 : Nat), .int .u64 (lm Azv 3 : Nat)] := by unfold ov; rw [heAx, heAy, heAz, hAxv, hAyv, hAzv]
  have hj2 : ov q = #[.int .u64 (lm Bxv 0 : Nat), .int .u64 (lm Bxv 1 : Nat), .int .u64 (lm Bxv 2 : Nat), .int .u64 (lm Bxv 3 : Nat), .int .u64 (lm Byv 0 : Nat), .int .u64 (lm Byv 1 : Nat), .int .u64 (lm Byv 2 : Nat), .int .u64 (lm Byv 3 : Nat), .int .u64 (lm Bzv 0 : Nat), .int .u64 (lm Bzv 1 : Nat), .int .u64 (lm Bzv 2 : Nat), .int .u64 (lm Bzv 3 : Nat)] := by unfold ov; rw [heBx, heBy, heBz, hBxv, hByv, hBzv]
  rw [hj, hj2]
  clear hj hj2 hZr hve hue hz hy heAx hAxv heAy hAyv heAz hAzv heBx hBxv heBy hByv heBz hBzv he0 hv0 he1 hv1 he2 hv2 he3 hv3 he4 hv4 he5 hv5
  obtain ⟨W0, hW0⟩ : ∃ W0, ((w.alloc (.cells #[.int .u64 (lm Axv 0 : Nat), .int .u64 (lm Axv 1 : Nat), .int .u64 (lm Axv 2 : Nat), .int .u64 (lm Axv 3 : Nat), .int .u64 (lm Ayv 0 : Nat), .int .u64 (lm Ayv 1 : Nat), .int .u64 (lm Ayv 2 : Nat), .int .u64 (lm Ayv 3 : Nat), .int .u64 (lm Azv 0 : Nat), .int .u64 (lm Azv 1 : Nat), .int .u64 (lm Azv 2 : Nat), .int .u64 (lm Azv 3 : Nat)] 71)).alloc (.cells #[.int .u64 (lm Bxv 0 : Nat), .int .u64 (lm Bxv 1 : Nat), .int .u64 (lm Bxv 2 : Nat), .int .u64 (lm Bxv 3 : Nat), .int .u64 (lm Byv 0 : Nat), .int .u64 (lm Byv 1 : Nat), .int .u64 (lm Byv 2 : Nat), .int .u64 (lm Byv 3 : Nat), .int .u64 (lm Bzv 0 : Nat), .int .u64 (lm Bzv 1 : Nat), .int .u64 (lm Bzv 2 : Nat), .int .u64 (lm Bzv 3 : Nat)] 71)).alloc (.cells #[.int .u64 0, .int .u64 0, .int .u64 0, .int .u64 0, .int .u64 0, .int .u64 0, .int .u64 0, .int .u64 0, .int .u64 0, .int .u64 0, .int .u64 0, .int .u64 0] 71) = W0 := ⟨_, rfl⟩
  have HBA := Lib.hid (show U12 W0 (w.heap.size) 71 Axv Ayv Azv by rw [← hW0]; exact has_alloc (has_alloc (has_alloc_new _ _)))
  have HBB := Lib.hid (show U12 W0 (w.heap.size + 1) 71 Bxv Byv Bzv by rw [← hW0]; exact has_alloc (has_alloc_at (by simp)))
  have HR := Lib.hid (show Z12 W0 (w.heap.size + 1 + 1) 71 by rw [← hW0]; exact has_alloc_at (by simp))
  have HC := Lib.hid (show Chg [] w W0 by rw [← hW0]; exact (((Chg.refl _ _).alloc _).alloc _).alloc _)
  obtain ⟨Az0, Az1, Az2, Az3⟩ := four4 fun _ => (HBA.out).cz
  go_enter Try.func36, Try.ntmps36
  go_wp2_with fail
  try rw [hW0]
  clear hW0
  obtain ⟨P, hP⟩ : ∃ P, w.heap.size = P := ⟨_, rfl⟩
  rw [hP] at HBA HBB HR Az0 Az1 Az2 Az3 ⊢
  obtain ⟨R, hR⟩ : ∃ R, P + 1 + 1 = R := ⟨_, rfl⟩
  rw [hR] at HR ⊢
  have hRP : P < R := by omega
  have hRP2 : P + 1 < R := by omega
  replace hR := Lib.hid hR
  replace hP := Lib.hid hP
  refine (Q1.out _).mono ?_
  rintro e w1 ⟨rfl, hC1⟩
  clear Az0 Az1 Az2 Az3
  replace HBA := Lib.hid (HBA.out.chg hC1 nmN)
  replace HBB := Lib.hid (HBB.out.chg hC1 nmN)
  replace HR := Lib.hid (HR.out.chg hC1 nmN)
  replace HC := Lib.hid (HC.out.trans hC1)
  clear hC1
  obtain ⟨Bz0, Bz1, Bz2, Bz3⟩ := four4 fun _ => (HBB.out).cz
  go_wp2_with fail
  refine (Q2.out _).mono ?_
  rintro e w1 ⟨rfl, hC1⟩
  clear Bz0 Bz1 Bz2 Bz3
  replace HBA := Lib.hid (HBA.out.chg hC1 nmN)
  replace HBB := Lib.hid (HBB.out.chg hC1 nmN)
  replace HR := Lib.hid (HR.out.chg hC1 nmN)
  replace HC := Lib.hid (HC.out.trans hC1)
  clear hC1
  go_wp2_with fail
  refine (HBase.out _).mono ?_
  rintro e w1 ⟨rfl, hC1⟩
  replace HBA := Lib.hid (HBA.out.chg hC1 nmN)
  replace HBB := Lib.hid (HBB.out.chg hC1 nmN)
  replace HR := Lib.hid (HR.out.chg hC1 nmN)
  replace HC := Lib.hid (HC.out.trans hC1)
  clear hC1
  obtain ⟨W1, hW1⟩ : ∃ W1, w1.alloc (.cells #[.int .u64 (lm PP 0 : Nat), .int .u64 (lm PP 1 : Nat), .int .u64 (lm PP 2 : Nat), .int .u64 (lm PP 3 : Nat), .int .u64 (lm cP 0 : Nat), .int .u64 (lm cP 1 : Nat), .int .u64 (lm cP 2 : Nat), .int .u64 (lm cP 3 : Nat)] 76) = W1 := ⟨_, rfl⟩
  have hA : Chg [] w1 W1 := by rw [← hW1]; exact (Chg.refl _ _).alloc _
  have hN : UD W1 w1.heap.size PP cP := by rw [← hW1]; exact has_alloc_new _ _
  obtain ⟨bD, hb⟩ : ∃ b, w1.heap.size = b := ⟨_, rfl⟩
  have lD : R < bD := by rw [← hb]; exact HR.out.lt
  rw [hb] at hN
  replace HBA := Lib.hid (HBA.out.chg hA nmN)
  replace HBB := Lib.hid (HBB.out.chg hA nmN)
  replace HR := Lib.hid (HR.out.chg hA nmN)
  replace HC := Lib.hid (HC.out.trans hA)
  have HD := Lib.hid hN
  go_upto_region 6 with fail
  try rw [hW1]
  try rw [hb]
  clear hW1 hb hA hN
  obtain ⟨D0, D1, D2, D3⟩ := four4 fun _ => (HD.out).cm; obtain ⟨D4, D5, D6, D7⟩ := four4 fun _ => (HD.out).cc
  obtain ⟨By0, By1, By2, By3⟩ := four4 fun _ => (HBB.out).cy
  obtain ⟨Az0, Az1, Az2, Az3⟩ := four4 fun _ => (HBA.out).cz
  obtain ⟨Ay0, Ay1, Ay2, Ay3⟩ := four4 fun _ => (HBA.out).cy
  obtain ⟨Bz0, Bz1, Bz2, Bz3⟩ := four4 fun _ => (HBB.out).cz
  refine abs_region (B := Chg [] W1) (S := Chg [] W1) (by kernel_rfl) ((Chg.refl _ _).drew) ?_
  have hG := good_chg [] W1
  refine Abs.take_np (i := 0) (d := some 22) (v := ?_) rfl rfl (by kernel_rfl) (by kernel_rfl) (by kernel_rfl) hG ⟨by rfl, fun w9 hw9 => Or.inl ?_⟩ ?_
  rotate_left
  · replace D0 := hw9.cell D0 nmN; replace D1 := hw9.cell D1 nmN; replace D2 := hw9.cell D2 nmN; replace D3 := hw9.cell D3 nmN; replace D4 := hw9.cell D4 nmN; replace D5 := hw9.cell D5 nmN; replace D6 := hw9.cell D6 nmN; replace D7 := hw9.cell D7 nmN
    go_simp
    try with_reducible rfl
  simp only [Act.put, stA, stB, stC]
  refine Abs.take_np (i := 1) (d := some 23) (v := ?_) rfl rfl (by kernel_rfl) (by kernel_rfl) (by kernel_rfl) hG ⟨by rfl, fun w9 hw9 => Or.inl ?_⟩ ?_
  rotate_left
  · replace D0 := hw9.cell D0 nmN; replace D1 := hw9.cell D1 nmN; replace D2 := hw9.cell D2 nmN; replace D3 := hw9.cell D3 nmN; replace D4 := hw9.cell D4 nmN; replace D5 := hw9.cell D5 nmN; replace D6 := hw9.cell D6 nmN; replace D7 := hw9.cell D7 nmN
    go_simp
    try with_reducible rfl
  simp only [Act.put, stA, stB, stC]
  refine Abs.take_np (i := 2) (d := some 24) (v := ?_) rfl rfl (by kernel_rfl) (by kernel_rfl) (by kernel_rfl) hG ⟨by rfl, fun w9 hw9 => Or.inl ?_⟩ ?_
  rotate_left
  · go_simp
    try with_reducible rfl
  simp only [Act.put, stA, stB, stC]
  refine Abs.take_np (i := 3) (d := some 25) (v := ?_) rfl rfl (by kernel_rfl) (by kernel_rfl) (by kernel_rfl) hG ⟨by rfl, fun w9 hw9 => Or.inl ?_⟩ ?_
  rotate_left
  · replace By0 := hw9.cell By0 nmN; replace By1 := hw9.cell By1 nmN; replace By2 := hw9.cell By2 nmN; replace By3 := hw9.cell By3 nmN
    go_simp
    try with_reducible rfl
  simp only [Act.put, stA, stB, stC]
  refine Abs.take_np (i := 4) (d := some 26) (v := ?_) rfl rfl (by kernel_rfl) (by kernel_rfl) (by kernel_rfl) hG ⟨by rfl, fun w9 hw9 => Or.inl ?_⟩ ?_
  rotate_left
  · go_simp
    try with_reducible rfl
  simp only [Act.put, stA, stB, stC]
  refine Abs.take_np (i := 5) (d := some 27) (v := ?_) rfl rfl (by kernel_rfl) (by kernel_rfl) (by kernel_rfl) hG ⟨by rfl, fun w9 hw9 => Or.inl ?_⟩ ?_
  rotate_left
  · replace Az0 := hw9.cell Az0 nmN; replace Az1 := hw9.cell Az1 nmN; replace Az2 := hw9.cell Az2 nmN; replace Az3 := hw9.cell Az3 nmN
    go_simp
    try with_reducible rfl
  simp only [Act.put, stA, stB, stC]
  refine Abs.take_np (i := 6) (d := some 28) (v := _) rfl rfl (by kernel_rfl) (by kernel_rfl) (by kernel_rfl) hG ⟨by rfl, fun w9 hw9 => Or.inr ⟨_, _, ?_, C0.out w9⟩⟩ ?_
  · go_simp
    try with_reducible rfl
  simp only [Act.put, stA, stB, stC]
  refine Abs.take_np (i := 7) (d := some 29) (v := ?_) rfl rfl (by kernel_rfl) (by kernel_rfl) (by kernel_rfl) hG ⟨by rfl, fun w9 hw9 => Or.inl ?_⟩ ?_
  rotate_left
  · replace D0 := hw9.cell D0 nmN; replace D1 := hw9.cell D1 nmN; replace D2 := hw9.cell D2 nmN; replace D3 := hw9.cell D3 nmN; replace D4 := hw9.cell D4 nmN; replace D5 := hw9.cell D5 nmN; replace D6 := hw9.cell D6 nmN; replace D7 := hw9.cell D7 nmN
    go_simp
    try with_reducible rfl
  simp only [Act.put, stA, stB, stC]
  refine Abs.take_np (i := 8) (d := some 30) (v := ?_) rfl rfl (by kernel_rfl) (by kernel_rfl) (by kernel_rfl) hG ⟨by rfl, fun w9 hw9 => Or.inl ?_⟩ ?_
  rotate_left
  · go_simp
    try with_reducible rfl
  simp only [Act.put, stA, stB, stC]
  refine Abs.take_np (i := 9) (d := some 31) (v := ?_) rfl rfl (by kernel_rfl) (by kernel_rfl) (by kernel_rfl) hG ⟨by rfl, fun w9 hw9 => Or.inl ?_⟩ ?_
  rotate_left
  · replace Ay0 := hw9.cell Ay0 nmN; replace Ay1 := hw9.cell Ay1 nmN; replace Ay2 := hw9.cell Ay2 nmN; replace Ay3 := hw9.cell Ay3 nmN
    go_simp
    try with_reducible rfl
  simp only [Act.put, stA, stB, stC]
  refine Abs.take_np (i := 10) (d := some 32) (v := ?_) rfl rfl (by kernel_rfl) (by kernel_rfl) (by kernel_rfl) hG ⟨by rfl, fun w9 hw9 => Or.inl ?_⟩ ?_
  rotate_left
  · go_simp
    try with_reducible rfl
  simp only [Act.put, stA, stB, stC]
  refine Abs.take_np (i := 11) (d := some 33) (v := ?_) rfl rfl (by kernel_rfl) (by kernel_rfl) (by kernel_rfl) hG ⟨by rfl, fun w9 hw9 => Or.inl ?_⟩ ?_
  rotate_left
  · replace Bz0 := hw9.cell Bz0 nmN; replace Bz1 := hw9.cell Bz1 nmN; replace Bz2 := hw9.cell Bz2 nmN; replace Bz3 := hw9.cell Bz3 nmN
    go_simp
    try with_reducible rfl
  simp only [Act.put, stA, stB, stC]
  refine Abs.take_np (i := 12) (d := some 34) (v := _) rfl rfl (by kernel_rfl) (by kernel_rfl) (by kernel_rfl) hG ⟨by rfl, fun w9 hw9 => Or.inr ⟨_, _, ?_, C1.out w9⟩⟩ ?_
  · go_simp
    try with_reducible rfl
  simp only [Act.put, stA, stB, stC]
  refine Abs.take_np (i := 13) (d := some 35) (v := _) rfl rfl (by kernel_rfl) (by kernel_rfl) (by kernel_rfl) hG ⟨by rfl, fun w9 hw9 => Or.inr ⟨_, _, ?_, C2.out w9⟩⟩ ?_
  · go_simp
    try with_reducible rfl
  simp only [Act.put, stA, stB, stC]
  refine Abs.alloc4 (i := 14) (t := 24) (X := []) (W := W1) rfl (by kernel_rfl) (by rfl) hG (fun _ h => h) (fun w9 => ?_) (fun b2 hb2 hG => ?_)
  · go_simp
    try with_reducible rfl
  refine Abs.at_put (d := some 6) rfl ?_
  simp only [Act.put, stA, stB, stC]
  refine Abs.store4 (i := 15) (b := b2) (ds := #[.int .u64 (lm v2 0 : Nat), .int .u64 (lm v2 1 : Nat), .int .u64 (lm v2 2 : Nat), .int .u64 (lm v2 3 : Nat)]) rfl (by kernel_rfl) (by rfl) (fun w9 => (((w9.setCell ⟨b2, 0, none⟩ (.int .u64 (lm v2 0 : Nat))).setCell ⟨b2, 1, none⟩ (.int .u64 (lm v2 1 : Nat))).setCell ⟨b2, 2, none⟩ (.int .u64 (lm v2 2 : Nat))).setCell ⟨b2, 3, none⟩ (.int .u64 (lm v2 3 : Nat))) (fun w9 h9 => ⟨?_, ?_, ?_⟩) (fun _ _ h k => Chg.keeps (Or.inr hb2) h k) (good_chg [] W1) (fun hG => ?_)
  · have n0 := cell_of_has h9 0; have n1 := cell_of_has h9 1; have n2 := cell_of_has h9 2; have n3 := cell_of_has h9 3
    simp only [glA, glB, glC] at n0 n1 n2 n3
    have z0 := frozen_of_has h9 0; have z1 := frozen_of_has h9 1; have z2 := frozen_of_has h9 2; have z3 := frozen_of_has h9 3
    clear h9
    go_simp
    try with_reducible rfl
  · exact U4.put_x (x := fun _ => 0) h9 v2
  · exact Chg.put_x (Chg.refl _ _) (Or.inl (by simp)) v2
  refine Abs.at_put (d := none) rfl ?_
  simp only [Act.put, stA, stB, stC]
  refine Abs.done (by kernel_rfl) (fun wx hx => NoPanic.normal ?_) _
  clear D0 D1 D2 D3 D4 D5 D6 D7 By0 By1 By2 By3 Az0 Az1 Az2 Az3 Ay0 Ay1 Ay2 Ay3 Bz0 Bz1 Bz2 Bz3
  obtain ⟨hA, hN⟩ := hx
  have l2 : R < b2 := Nat.lt_of_lt_of_le HR.out.lt hb2
  have hN : U4 wx b2 24 (lm v2) := hN
  replace HBA := Lib.hid (HBA.out.chg hA nmN)
  replace HBB := Lib.hid (HBB.out.chg hA nmN)
  replace HR := Lib.hid (HR.out.chg hA nmN)
  replace HC := Lib.hid (HC.out.trans hA)
  replace HD := Lib.hid (HD.out.chg hA nmN)
  have H_2 := Lib.hid hN
  clear hA hN hb2
  go_upto_region 7 with fail
  obtain ⟨D0, D1, D2, D3⟩ := four4 fun _ => (HD.out).cm; obtain ⟨D4, D5, D6, D7⟩ := four4 fun _ => (HD.out).cc
  obtain ⟨Bx0, Bx1, Bx2, Bx3⟩ := four4 fun _ => (HBB.out).cx
  obtain ⟨Az0, Az1, Az2, Az3⟩ := four4 fun _ => (HBA.out).cz
  obtain ⟨Ax0, Ax1, Ax2, Ax3⟩ := four4 fun _ => (HBA.out).cx
  obtain ⟨Bz0, Bz1, Bz2, Bz3⟩ := four4 fun _ => (HBB.out).cz
  refine abs_region (B := Chg [] wx) (S := Chg [] wx) (by kernel_rfl) ((Chg.refl _ _).drew) ?_
  have hG := good_chg [] wx
  refine Abs.take_np (i := 0) (d := some 36) (v := ?_) rfl rfl (by kernel_rfl) (by kernel_rfl) (by kernel_rfl) hG ⟨by rfl, fun w9 hw9 => Or.inl ?_⟩ ?_
  rotate_left
  · replace D0 := hw9.cell D0 nmN; replace D1 := hw9.cell D1 nmN; replace D2 := hw9.cell D2 nmN; replace D3 := hw9.cell D3 nmN; replace D4 := hw9.cell D4 nmN; replace D5 := hw9.cell D5 nmN; replace D6 := hw9.cell D6 nmN; replace D7 := hw9.cell D7 nmN
    go_simp
    try with_reducible rfl
  simp only [Act.put, stA, stB, stC]
  refine Abs.take_np (i := 1) (d := some 37) (v := ?_) rfl rfl (by kernel_rfl) (by kernel_rfl) (by kernel_rfl) hG ⟨by rfl, fun w9 hw9 => Or.inl ?_⟩ ?_
  rotate_left
  · replace D0 := hw9.cell D0 nmN; replace D1 := hw9.cell D1 nmN; replace D2 := hw9.cell D2 nmN; replace D3 := hw9.cell D3 nmN; replace D4 := hw9.cell D4 nmN; replace D5 := hw9.cell D5 nmN; replace D6 := hw9.cell D6 nmN; replace D7 := hw9.cell D7 nmN
    go_simp
    try with_reducible rfl
  simp only [Act.put, stA, stB, stC]
  refine Abs.take_np (i := 2) (d := some 38) (v := ?_) rfl rfl (by kernel_rfl) (by kernel_rfl) (by kernel_rfl) hG ⟨by rfl, fun w9 hw9 => Or.inl ?_⟩ ?_
  rotate_left
  · go_simp
    try with_reducible rfl
  simp only [Act.put, stA, stB, stC]
  refine Abs.take_np (i := 3) (d := some 39) (v := ?_) rfl rfl (by kernel_rfl) (by kernel_rfl) (by kernel_rfl) hG ⟨by rfl, fun w9 hw9 => Or.inl ?_⟩ ?_
  rotate_left
  · replace Bx0 := hw9.cell Bx0 nmN; replace Bx1 := hw9.cell Bx1 nmN; replace Bx2 := hw9.cell Bx2 nmN; replace Bx3 := hw9.cell Bx3 nmN
    go_simp
    try with_reducible rfl
  simp only [Act.put, stA, stB, stC]
  refine Abs.take_np (i := 4) (d := some 40) (v := ?_) rfl rfl (by kernel_rfl) (by kernel_rfl) (by kernel_rfl) hG ⟨by rfl, fun w9 hw9 => Or.inl ?_⟩ ?_
  rotate_left
  · go_simp
    try with_reducible rfl
  simp only [Act.put, stA, stB, stC]
  refine Abs.take_np (i := 5) (d := some 41) (v := ?_) rfl rfl (by kernel_rfl) (by kernel_rfl) (by kernel_rfl) hG ⟨by rfl, fun w9 hw9 => Or.inl ?_⟩ ?_
  rotate_left
  · replace Az0 := hw9.cell Az0 nmN; replace Az1 := hw9.cell Az1 nmN; replace Az2 := hw9.cell Az2 nmN; replace Az3 := hw9.cell Az3 nmN
    go_simp
    try with_reducible rfl
  simp only [Act.put, stA, stB, stC]
  refine Abs.take_np (i := 6) (d := some 42) (v := _) rfl rfl (by kernel_rfl) (by kernel_rfl) (by kernel_rfl) hG ⟨by rfl, fun w9 hw9 => Or.inr ⟨_, _, ?_, C3.out w9⟩⟩ ?_
  · go_simp
    try with_reducible rfl
  simp only [Act.put, stA, stB, stC]
  refine Abs.take_np (i := 7) (d := some 43) (v := ?_) rfl rfl (by kernel_rfl) (by kernel_rfl) (by kernel_rfl) hG ⟨by rfl, fun w9 hw9 => Or.inl ?_⟩ ?_
  rotate_left
  · replace D0 := hw9.cell D0 nmN; replace D1 := hw9.cell D1 nmN; replace D2 := hw9.cell D2 nmN; replace D3 := hw9.cell D3 nmN; replace D4 := hw9.cell D4 nmN; replace D5 := hw9.cell D5 nmN; replace D6 := hw9.cell D6 nmN; replace D7 := hw9.cell D7 nmN
    go_simp
    try with_reducible rfl
  simp only [Act.put, stA, stB, stC]
  refine Abs.take_np (i := 8) (d := some 44) (v := ?_) rfl rfl (by kernel_rfl) (by kernel_rfl) (by kernel_rfl) hG ⟨by rfl, fun w9 hw9 => Or.inl ?_⟩ ?_
  rotate_left
  · go_simp
    try with_reducible rfl
  simp only [Act.put, stA, stB, stC]
  refine Abs.take_np (i := 9) (d := some 45) (v := ?_) rfl rfl (by kernel_rfl) (by kernel_rfl) (by kernel_rfl) hG ⟨by rfl, fun w9 hw9 => Or.inl ?_⟩ ?_
  rotate_left
  · replace Ax0 := hw9.cell Ax0 nmN; replace Ax1 := hw9.cell Ax1 nmN; replace Ax2 := hw9.cell Ax2 nmN; replace Ax3 := hw9.cell Ax3 nmN
    go_simp
    try with_reducible rfl
  simp only [Act.put, stA, stB, stC]
  refine Abs.take_np (i := 10) (d := some 46) (v := ?_) rfl rfl (by kernel_rfl) (by kernel_rfl) (by kernel_rfl) hG ⟨by rfl, fun w9 hw9 => Or.inl ?_⟩ ?_
  rotate_left
  · go_simp
    try with_reducible rfl
  simp only [Act.put, stA, stB, stC]
  refine Abs.take_np (i := 11) (d := some 47) (v := ?_) rfl rfl (by kernel_rfl) (by kernel_rfl) (by kernel_rfl) hG ⟨by rfl, fun w9 hw9 => Or.inl ?_⟩ ?_
  rotate_left
  · replace Bz0 := hw9.cell Bz0 nmN; replace Bz1 := hw9.cell Bz1 nmN; replace Bz2 := hw9.cell Bz2 nmN; replace Bz3 := hw9.cell Bz3 nmN
    go_simp
    try with_reducible rfl
  simp only [Act.put, stA, stB, stC]
  refine Abs.take_np (i := 12) (d := some 48) (v := _) rfl rfl (by kernel_rfl) (by kernel_rfl) (by kernel_rfl) hG ⟨by rfl, fun w9 hw9 => Or.inr ⟨_, _, ?_, C4.out w9⟩⟩ ?_
  · go_simp
    try with_reducible rfl
  simp only [Act.put, stA, stB, stC]
  refine Abs.take_np (i := 13) (d := some 49) (v := _) rfl rfl (by kernel_rfl) (by kernel_rfl) (by kernel_rfl) hG ⟨by rfl, fun w9 hw9 => Or.inr ⟨_, _, ?_, C5.out w9⟩⟩ ?_
  · go_simp
    try with_reducible rfl
  simp only [Act.put, stA, stB, stC]
  refine Abs.alloc4 (i := 14) (t := 24) (X := []) (W := wx) rfl (by kernel_rfl) (by rfl) hG (fun _ h => h) (fun w9 => ?_) (fun b5 hb5 hG => ?_)
  · go_simp
    try with_reducible rfl
  refine Abs.at_put (d := some 7) rfl ?_
  simp only [Act.put, stA, stB, stC]
  refine Abs.store4 (i := 15) (b := b5) (ds := #[.int .u64 (lm v5 0 : Nat), .int .u64 (lm v5 1 : Nat), .int .u64 (lm v5 2 : Nat), .int .u64 (lm v5 3 : Nat)]) rfl (by kernel_rfl) (by rfl) (fun w9 => (((w9.setCell ⟨b5, 0, none⟩ (.int .u64 (lm v5 0 : Nat))).setCell ⟨b5, 1, none⟩ (.int .u64 (lm v5 1 : Nat))).setCell ⟨b5, 2, none⟩ (.int .u64 (lm v5 2 : Nat))).setCell ⟨b5, 3, none⟩ (.int .u64 (lm v5 3 : Nat))) (fun w9 h9 => ⟨?_, ?_, ?_⟩) (fun _ _ h k => Chg.keeps (Or.inr hb5) h k) (good_chg [] wx) (fun hG => ?_)
  · have n0 := cell_of_has h9 0; have n1 := cell_of_has h9 1; have n2 := cell_of_has h9 2; have n3 := cell_of_has h9 3
    simp only [glA, glB, glC] at n0 n1 n2 n3
    have z0 := frozen_of_has h9 0; have z1 := frozen_of_has h9 1; have z2 := frozen_of_has h9 2; have z3 := frozen_of_has h9 3
    clear h9
    go_simp
    try with_reducible rfl
  · exact U4.put_x (x := fun _ => 0) h9 v5
  · exact Chg.put_x (Chg.refl _ _) (Or.inl (by simp)) v5
  refine Abs.at_put (d := none) rfl ?_
  simp only [Act.put, stA, stB, stC]
  refine Abs.done (by kernel_rfl) (fun wx hx => NoPanic.normal ?_) _
  clear D0 D1 D2 D3 D4 D5 D6 D7 Bx0 Bx1 Bx2 Bx3 Az0 Az1 Az2 Az3 Ax0 Ax1 Ax2 Ax3 Bz0 Bz1 Bz2 Bz3
  obtain ⟨hA, hN⟩ := hx
  have l5 : R < b5 := Nat.lt_of_lt_of_le HR.out.lt hb5
  have hN : U4 wx b5 24 (lm v5) := hN
  replace HBA := Lib.hid (HBA.out.chg hA nmN)
  replace HBB := Lib.hid (HBB.out.chg hA nmN)
  replace HR := Lib.hid (HR.out.chg hA nmN)
  replace HC := Lib.hid (HC.out.trans hA)
  replace HD := Lib.hid (HD.out.chg hA nmN)
  replace H_2 := Lib.hid (H_2.out.chg hA nmN)
  have H_5 := Lib.hid hN
  clear hA hN hb5
  go_upto_region 8 with fail
  obtain ⟨w5_0, w5_1, w5_2, w5_3⟩ := four4 fun _ => (H_5.out).cell
  go_wp2_with fail
  refine (Q3.out _).mono ?_
  rintro e w1 ⟨rfl, hC1⟩
  clear w5_0 w5_1 w5_2 w5_3
  replace HBA := Lib.hid (HBA.out.chg hC1 nmN)
  replace HBB := Lib.hid (HBB.out.chg hC1 nmN)
  replace HR := Lib.hid (HR.out.chg hC1 nmN)
  replace HC := Lib.hid (HC.out.trans hC1)
  replace HD := Lib.hid (HD.out.chg hC1 nmN)
  replace H_2 := Lib.hid (H_2.out.chg hC1 nmN)
  replace H_5 := Lib.hid (H_5.out.chg hC1 nmN)
  clear hC1
  obtain ⟨w2_0, w2_1, w2_2, w2_3⟩ := four4 fun _ => (H_2.out).cell
  go_wp2_with fail
  refine (Q4.out _).mono ?_
  rintro e w1 ⟨rfl, hC1⟩
  clear w2_0 w2_1 w2_2 w2_3
  replace HBA := Lib.hid (HBA.out.chg hC1 nmN)
  replace HBB := Lib.hid (HBB.out.chg hC1 nmN)
  replace HR := Lib.hid (HR.out.chg hC1 nmN)
  replace HC := Lib.hid (HC.out.trans hC1)
  replace HD := Lib.hid (HD.out.chg hC1 nmN)
  replace H_2 := Lib.hid (H_2.out.chg hC1 nmN)
  replace H_5 := Lib.hid (H_5.out.chg hC1 nmN)
  clear hC1
  go_upto_region 11 with fail
  have hRz := HR.out
  have n0 := cell_of_has hRz 0; have n1 := cell_of_has hRz 1; have n2 := cell_of_has hRz 2; have n3 := cell_of_has hRz 3; have n4 := cell_of_has hRz 4; have n5 := cell_of_has hRz 5; have n6 := cell_of_has hRz 6; have n7 := cell_of_has hRz 7; have n8 := cell_of_has hRz 8; have n9 := cell_of_has hRz 9; have n10 := cell_of_has hRz 10; have n11 := cell_of_has hRz 11
  simp only [glA, glB, glC] at n0 n1 n2 n3 n4 n5 n6 n7 n8 n9 n10 n11
  have nz0 := frozen_of_has hRz 0; have nz1 := frozen_of_has hRz 1; have nz2 := frozen_of_has hRz 2; have nz3 := frozen_of_has hRz 3; have nz4 := frozen_of_has hRz 4; have nz5 := frozen_of_has hRz 5; have nz6 := frozen_of_has hRz 6; have nz7 := frozen_of_has hRz 7; have nz8 := frozen_of_has hRz 8; have nz9 := frozen_of_has hRz 9; have nz10 := frozen_of_has hRz 10; have nz11 := frozen_of_has hRz 11
  have hll := hRz.lt
  have HF := Lib.hid hRz.put1; have HCF := Lib.hid (HC.out.put1 (b := R) (Or.inr (by have := hP.out; omega)))
  clear hRz
  go_wp2_with fail
  have hF := HF.out; have hCF := HCF.out
  refine (id ?_ : bodyPost _ _ _ _ _ ((((((((((((w1.setCell ⟨R, 0, none⟩ (.int .u64 0)).setCell ⟨R, 1, none⟩ (.int .u64 0)).setCell ⟨R, 2, none⟩ (.int .u64 0)).setCell ⟨R, 3, none⟩ (.int .u64 0)).setCell ⟨R, 4, none⟩ (.int .u64 1)).setCell ⟨R, 5, none⟩ (.int .u64 0)).setCell ⟨R, 6, none⟩ (.int .u64 0)).setCell ⟨R, 7, none⟩ (.int .u64 0)).setCell ⟨R, 8, none⟩ (.int .u64 0)).setCell ⟨R, 9, none⟩ (.int .u64 0)).setCell ⟨R, 10, none⟩ (.int .u64 0)).setCell ⟨R, 11, none⟩ (.int .u64 0)))
  clear HF HCF
  generalize ((((((((((((w1.setCell ⟨R, 0, none⟩ (.int .u64 0)).setCell ⟨R, 1, none⟩ (.int .u64 0)).setCell ⟨R, 2, none⟩ (.int .u64 0)).setCell ⟨R, 3, none⟩ (.int .u64 0)).setCell ⟨R, 4, none⟩ (.int .u64 1)).setCell ⟨R, 5, none⟩ (.int .u64 0)).setCell ⟨R, 6, none⟩ (.int .u64 0)).setCell ⟨R, 7, none⟩ (.int .u64 0)).setCell ⟨R, 8, none⟩ (.int .u64 0)).setCell ⟨R, 9, none⟩ (.int .u64 0)).setCell ⟨R, 10, none⟩ (.int .u64 0)).setCell ⟨R, 11, none⟩ (.int .u64 0)) = W5 at *
  have g0 := cell_of_has hF 0; have g1 := cell_of_has hF 1; have g2 := cell_of_has hF 2; have g3 := cell_of_has hF 3; have g4 := cell_of_has hF 4; have g5 := cell_of_has hF 5; have g6 := cell_of_has hF 6; have g7 := cell_of_has hF 7; have g8 := cell_of_has hF 8; have g9 := cell_of_has hF 9; have g10 := cell_of_has hF 10; have g11 := cell_of_has hF 11
  simp only [glA, glB, glC] at g0 g1 g2 g3 g4 g5 g6 g7 g8 g9 g10 g11
  exact bodyPost_ret (v := .agg #[.int .u64 0, .int .u64 0, .int .u64 0, .int .u64 0, .int .u64 1, .int .u64 0, .int .u64 0, .int .u64 0, .int .u64 0, .int .u64 0, .int .u64 0, .int .u64 0]) (by simp [results, Try.results36, go_sem, g0, g1, g2, g3, g4, g5, g6, g7, g8, g9, g10, g11]) rfl ⟨by rw [HZ.out], hCF⟩

set_option maxRecDepth 100000 in
set_option maxHeartbeats 8000000 in
theorem rplus_t (p q : J) (hz : ¬ p.z = 0) (hy : ¬ q.z = 0) (hvn : q.x * p.z - p.x * q.z = 0) (hun : q.y * p.z - p.y * q.z = 0) (w : World) : Calls Try.prog 36 #[.agg (ov p), .agg (ov q)] w fun e w' => e = .returned (.agg (ov (rtw p))) ∧ Chg [] w w' := by

  obtain ⟨Axe, heAx⟩ : ∃ e, p.x = e := ⟨_, rfl⟩
  obtain ⟨Axv, hAxv⟩ : ∃ v, Axe.val = v := ⟨_, rfl⟩
  obtain ⟨Aye, heAy⟩ : ∃ e, p.y = e := ⟨_, rfl⟩
  obtain ⟨Ayv, hAyv⟩ : ∃ v, Aye.val = v := ⟨_, rfl⟩
  obtain ⟨Aze, heAz⟩ : ∃ e, p.z = e := ⟨_, rfl⟩
  obtain ⟨Azv, hAzv⟩ : ∃ v, Aze.val = v := ⟨_, rfl⟩
  obtain ⟨Bxe, heBx⟩ : ∃ e, q.x = e := ⟨_, rfl⟩
  obtain ⟨Bxv, hBxv⟩ : ∃ v, Bxe.val = v := ⟨_, rfl⟩
  obtain ⟨Bye, heBy⟩ : ∃ e, q.y = e := ⟨_, rfl⟩
  obtain ⟨Byv, hByv⟩ : ∃ v, Bye.val = v := ⟨_, rfl⟩
  obtain ⟨Bze, heBz⟩ : ∃ e, q.z = e := ⟨_, rfl⟩
  obtain ⟨Bzv, hBzv⟩ : ∃ v, Bze.val = v := ⟨_, rfl⟩
  obtain ⟨e0, he0⟩ : ∃ e, Bye * Aze = e := ⟨_, rfl⟩
  obtain ⟨v0, hv0⟩ : ∃ v, e0.val = v := ⟨_, rfl⟩
  obtain ⟨e1, he1⟩ : ∃ e, Aye * Bze = e := ⟨_, rfl⟩
  obtain ⟨v1, hv1⟩ : ∃ v, e1.val = v := ⟨_, rfl⟩
  obtain ⟨e2, he2⟩ : ∃ e, e0 - e1 = e := ⟨_, rfl⟩
  obtain ⟨v2, hv2⟩ : ∃ v, e2.val = v := ⟨_, rfl⟩
  obtain ⟨e3, he3⟩ : ∃ e, Bxe * Aze = e := ⟨_, rfl⟩
  obtain ⟨v3, hv3⟩ : ∃ v, e3.val = v := ⟨_, rfl⟩
  obtain ⟨e4, he4⟩ : ∃ e, Axe * Bze = e := ⟨_, rfl⟩
  obtain ⟨v4, hv4⟩ : ∃ v, e4.val = v := ⟨_, rfl⟩
  obtain ⟨e5, he5⟩ : ∃ e, e3 - e4 = e := ⟨_, rfl⟩
  obtain ⟨v5, hv5⟩ : ∃ v, e5.val = v := ⟨_, rfl⟩
  have C0 := Lib.hid (fun w => rp_mul (t := v0) hByv hAzv (by rw [he0]; exact hv0) w)
  have C1 := Lib.hid (fun w => rp_mul (t := v1) hAyv hBzv (by rw [he1]; exact hv1) w)
  have C2 := Lib.hid (fun w => rp_sub (t := v2) hv0 hv1 (by rw [he2]; exact hv2) w)
  have C3 := Lib.hid (fun w => rp_mul (t := v3) hBxv hAzv (by rw [he3]; exact hv3) w)
  have C4 := Lib.hid (fun w => rp_mul (t := v4) hAxv hBzv (by rw [he4]; exact hv4) w)
  have C5 := Lib.hid (fun w => rp_sub (t := v5) hv3 hv4 (by rw [he5]; exact hv5) w)
  obtain ⟨Zr, hZr⟩ : ∃ Z, ov (rtw p) = Z := ⟨_, rfl⟩
  rw [hZr]
  have hve : q.x * p.z - p.x * q.z = e5 := by rw [heBx, heAz, heAx, heBz]; subst he5; subst he4; subst he3; subst he2; subst he1; subst he0; rfl
  have hue : q.y * p.z - p.y * q.z = e2 := by rw [heBy, heAz, heAy, heBz]; subst he5; subst he4; subst he3; subst he2; subst he1; subst he0; rfl
  have Q3 := Lib.hid (fun w => rp_zero hv5 true (by rw [← hve]; simpa using hvn) w)
  have Q4 := Lib.hid (fun w => rp_zero hv2 true (by rw [← hue]; simpa using hun) w)
  obtain ⟨t, ht⟩ : ∃ t, rtw p = t := ⟨_, rfl⟩
  obtain ⟨tx, htx⟩ : ∃ v, t.x.val = v := ⟨_, rfl⟩
  obtain ⟨ty, hty⟩ : ∃ v, t.y.val = v := ⟨_, rfl⟩
  obtain ⟨tz, htz⟩ : ∃ v, t.z.val = v := ⟨_, rfl⟩
  have hot : ov t = #[.int .u64 (lm tx 0 : Nat), .int .u64 (lm tx 1 : Nat), .int .u64 (lm tx 2 : Nat), .int .u64 (lm tx 3 : Nat), .int .u64 (lm ty 0 : Nat), .int .u64 (lm ty 1 : Nat), .int .u64 (lm ty 2 : Nat), .int .u64 (lm ty 3 : Nat), .int .u64 (lm tz 0 : Nat), .int .u64 (lm tz 1 : Nat), .int .u64 (lm tz 2 : Nat), .int .u64 (lm tz 3 : Nat)] := by unfold ov; rw [htx, hty, htz]
  have HZ := Lib.hid (show Zr = #[.int .u64 (lm tx 0 : Nat), .int .u64 (lm tx 1 : Nat), .int .u64 (lm tx 2 : Nat), .int .u64 (lm tx 3 : Nat), .int .u64 (lm ty 0 : Nat), .int .u64 (lm ty 1 : Nat), .int .u64 (lm ty 2 : Nat), .int .u64 (lm ty 3 : Nat), .int .u64 (lm tz 0 : Nat), .int .u64 (lm tz 1 : Nat), .int .u64 (lm tz 2 : Nat), .int .u64 (lm tz 3 : Nat)] by rw [← hZr, ht, hot])
  have ct := fun w => rtwice p w
  rw [ht, hot] at ct
  clear hvn hun
  have Q1 := Lib.hid (fun w => rp_zero hAzv false (by rw [← heAz]; simpa using hz) w)
  have Q2 := Lib.hid (fun w => rp_zero hBzv false (by rw [← heBz]; simpa using hy) w)
  have HBase := Lib.hid rp_base
  have hj : ov p = #[.int .u64 (lm Axv 0 : Nat), .int .u64 (lm Axv 1 : Nat), .int .u64 (lm Axv 2 : Nat), .int .u64 (lm Axv 3 : Nat), .int .u64 (lm Ayv 0 : Nat), .int .u64 (lm Ayv 1 : Nat), .int .u64 (lm Ayv 2 : Nat), .int .u64 (lm Ayv 3 : Nat), .int .u64 (lm Azv 0 : Nat), .int .u64 (lm Azv 1 : Nat), .int .u64 (lm Azv 2 : Nat), .int .u64 (lm Azv 3 : Nat)] := by unfold ov; rw [heAx, heAy, heAz, hAxv, hAyv, hAzv]
  have hj2 : ov q = #[.int .u64 (lm Bxv 0 : Nat), .int .u64 (lm Bxv 1 : Nat), .int .u64 (lm Bxv 2 : Nat), .int .u64 (lm Bxv 3 : Nat), .int .u64 (lm Byv 0 : Nat), .int .u64 (lm Byv 1 : Nat), .int .u64 (lm Byv 2 : Nat), .int .u64 (lm Byv 3 : Nat), .int .u64 (lm Bzv 0 : Nat), .int .u64 (lm Bzv 1 : Nat), .int .u64 (lm Bzv 2 : Nat), .int .u64 (lm Bzv 3 : Nat)] := by unfold ov; rw [heBx, heBy, heBz, hBxv, hByv, hBzv]
  rw [hj, hj2]
  rw [hj] at ct
  have CT := Lib.hid ct
  clear ct hot htx hty htz ht
  clear hj hj2 hZr hve hue hz hy heAx hAxv heAy hAyv heAz hAzv heBx hBxv heBy hByv heBz hBzv he0 hv0 he1 hv1 he2 hv2 he3 hv3 he4 hv4 he5 hv5
  obtain ⟨W0, hW0⟩ : ∃ W0, ((w.alloc (.cells #[.int .u64 (lm Axv 0 : Nat), .int .u64 (lm Axv 1 : Nat), .int .u64 (lm Axv 2 : Nat), .int .u64 (lm Axv 3 : Nat), .int .u64 (lm Ayv 0 : Nat), .int .u64 (lm Ayv 1 : Nat), .int .u64 (lm Ayv 2 : Nat), .int .u64 (lm Ayv 3 : Nat), .int .u64 (lm Azv 0 : Nat), .int .u64 (lm Azv 1 : Nat), .int .u64 (lm Azv 2 : Nat), .int .u64 (lm Azv 3 : Nat)] 71)).alloc (.cells #[.int .u64 (lm Bxv 0 : Nat), .int .u64 (lm Bxv 1 : Nat), .int .u64 (lm Bxv 2 : Nat), .int .u64 (lm Bxv 3 : Nat), .int .u64 (lm Byv 0 : Nat), .int .u64 (lm Byv 1 : Nat), .int .u64 (lm Byv 2 : Nat), .int .u64 (lm Byv 3 : Nat), .int .u64 (lm Bzv 0 : Nat), .int .u64 (lm Bzv 1 : Nat), .int .u64 (lm Bzv 2 : Nat), .int .u64 (lm Bzv 3 : Nat)] 71)).alloc (.cells #[.int .u64 0, .int .u64 0, .int .u64 0, .int .u64 0, .int .u64 0, .int .u64 0, .int .u64 0, .int .u64 0, .int .u64 0, .int .u64 0, .int .u64 0, .int .u64 0] 71) = W0 := ⟨_, rfl⟩
  have HBA := Lib.hid (show U12 W0 (w.heap.size) 71 Axv Ayv Azv by rw [← hW0]; exact has_alloc (has_alloc (has_alloc_new _ _)))
  have HBB := Lib.hid (show U12 W0 (w.heap.size + 1) 71 Bxv Byv Bzv by rw [← hW0]; exact has_alloc (has_alloc_at (by simp)))
  have HR := Lib.hid (show Z12 W0 (w.heap.size + 1 + 1) 71 by rw [← hW0]; exact has_alloc_at (by simp))
  have HC := Lib.hid (show Chg [] w W0 by rw [← hW0]; exact (((Chg.refl _ _).alloc _).alloc _).alloc _)
  obtain ⟨Az0, Az1, Az2, Az3⟩ := four4 fun _ => (HBA.out).cz
  go_enter Try.func36, Try.ntmps36
  go_wp2_with fail
  try rw [hW0]
  clear hW0
  obtain ⟨P, hP⟩ : ∃ P, w.heap.size = P := ⟨_, rfl⟩
  rw [hP] at HBA HBB HR Az0 Az1 Az2 Az3 ⊢
  obtain ⟨R, hR⟩ : ∃ R, P + 1 + 1 = R := ⟨_, rfl⟩
  rw [hR] at HR ⊢
  have hRP : P < R := by omega
  have hRP2 : P + 1 < R := by omega
  replace hR := Lib.hid hR
  replace hP := Lib.hid hP
  refine (Q1.out _).mono ?_
  rintro e w1 ⟨rfl, hC1⟩
  clear Az0 Az1 Az2 Az3
  replace HBA := Lib.hid (HBA.out.chg hC1 nmN)
  replace HBB := Lib.hid (HBB.out.chg hC1 nmN)
  replace HR := Lib.hid (HR.out.chg hC1 nmN)
  replace HC := Lib.hid (HC.out.trans hC1)
  clear hC1
  obtain ⟨Bz0, Bz1, Bz2, Bz3⟩ := four4 fun _ => (HBB.out).cz
  go_wp2_with fail
  refine (Q2.out _).mono ?_
  rintro e w1 ⟨rfl, hC1⟩
  clear Bz0 Bz1 Bz2 Bz3
  replace HBA := Lib.hid (HBA.out.chg hC1 nmN)
  replace HBB := Lib.hid (HBB.out.chg hC1 nmN)
  replace HR := Lib.hid (HR.out.chg hC1 nmN)
  replace HC := Lib.hid (HC.out.trans hC1)
  clear hC1
  go_wp2_with fail
  refine (HBase.out _).mono ?_
  rintro e w1 ⟨rfl, hC1⟩
  replace HBA := Lib.hid (HBA.out.chg hC1 nmN)
  replace HBB := Lib.hid (HBB.out.chg hC1 nmN)
  replace HR := Lib.hid (HR.out.chg hC1 nmN)
  replace HC := Lib.hid (HC.out.trans hC1)
  clear hC1
  obtain ⟨W1, hW1⟩ : ∃ W1, w1.alloc (.cells #[.int .u64 (lm PP 0 : Nat), .int .u64 (lm PP 1 : Nat), .int .u64 (lm PP 2 : Nat), .int .u64 (lm PP 3 : Nat), .int .u64 (lm cP 0 : Nat), .int .u64 (lm cP 1 : Nat), .int .u64 (lm cP 2 : Nat), .int .u64 (lm cP 3 : Nat)] 76) = W1 := ⟨_, rfl⟩
  have hA : Chg [] w1 W1 := by rw [← hW1]; exact (Chg.refl _ _).alloc _
  have hN : UD W1 w1.heap.size PP cP := by rw [← hW1]; exact has_alloc_new _ _
  obtain ⟨bD, hb⟩ : ∃ b, w1.heap.size = b := ⟨_, rfl⟩
  have lD : R < bD := by rw [← hb]; exact HR.out.lt
  rw [hb] at hN
  replace HBA := Lib.hid (HBA.out.chg hA nmN)
  replace HBB := Lib.hid (HBB.out.chg hA nmN)
  replace HR := Lib.hid (HR.out.chg hA nmN)
  replace HC := Lib.hid (HC.out.trans hA)
  have HD := Lib.hid hN
  go_upto_region 6 with fail
  try rw [hW1]
  try rw [hb]
  clear hW1 hb hA hN
  obtain ⟨D0, D1, D2, D3⟩ := four4 fun _ => (HD.out).cm; obtain ⟨D4, D5, D6, D7⟩ := four4 fun _ => (HD.out).cc
  obtain ⟨By0, By1, By2, By3⟩ := four4 fun _ => (HBB.out).cy
  obtain ⟨Az0, Az1, Az2, Az3⟩ := four4 fun _ => (HBA.out).cz
  obtain ⟨Ay0, Ay1, Ay2, Ay3⟩ := four4 fun _ => (HBA.out).cy
  obtain ⟨Bz0, Bz1, Bz2, Bz3⟩ := four4 fun _ => (HBB.out).cz
  refine abs_region (B := Chg [] W1) (S := Chg [] W1) (by kernel_rfl) ((Chg.refl _ _).drew) ?_
  have hG := good_chg [] W1
  refine Abs.take_np (i := 0) (d := some 22) (v := ?_) rfl rfl (by kernel_rfl) (by kernel_rfl) (by kernel_rfl) hG ⟨by rfl, fun w9 hw9 => Or.inl ?_⟩ ?_
  rotate_left
  · replace D0 := hw9.cell D0 nmN; replace D1 := hw9.cell D1 nmN; replace D2 := hw9.cell D2 nmN; replace D3 := hw9.cell D3 nmN; replace D4 := hw9.cell D4 nmN; replace D5 := hw9.cell D5 nmN; replace D6 := hw9.cell D6 nmN; replace D7 := hw9.cell D7 nmN
    go_simp
    try with_reducible rfl
  simp only [Act.put, stA, stB, stC]
  refine Abs.take_np (i := 1) (d := some 23) (v := ?_) rfl rfl (by kernel_rfl) (by kernel_rfl) (by kernel_rfl) hG ⟨by rfl, fun w9 hw9 => Or.inl ?_⟩ ?_
  rotate_left
  · replace D0 := hw9.cell D0 nmN; replace D1 := hw9.cell D1 nmN; replace D2 := hw9.cell D2 nmN; replace D3 := hw9.cell D3 nmN; replace D4 := hw9.cell D4 nmN; replace D5 := hw9.cell D5 nmN; replace D6 := hw9.cell D6 nmN; replace D7 := hw9.cell D7 nmN
    go_simp
    try with_reducible rfl
  simp only [Act.put, stA, stB, stC]
  refine Abs.take_np (i := 2) (d := some 24) (v := ?_) rfl rfl (by kernel_rfl) (by kernel_rfl) (by kernel_rfl) hG ⟨by rfl, fun w9 hw9 => Or.inl ?_⟩ ?_
  rotate_left
  · go_simp
    try with_reducible rfl
  simp only [Act.put, stA, stB, stC]
  refine Abs.take_np (i := 3) (d := some 25) (v := ?_) rfl rfl (by kernel_rfl) (by kernel_rfl) (by kernel_rfl) hG ⟨by rfl, fun w9 hw9 => Or.inl ?_⟩ ?_
  rotate_left
  · replace By0 := hw9.cell By0 nmN; replace By1 := hw9.cell By1 nmN; replace By2 := hw9.cell By2 nmN; replace By3 := hw9.cell By3 nmN
    go_simp
    try with_reducible rfl
  simp only [Act.put, stA, stB, stC]
  refine Abs.take_np (i := 4) (d := some 26) (v := ?_) rfl rfl (by kernel_rfl) (by kernel_rfl) (by kernel_rfl) hG ⟨by rfl, fun w9 hw9 => Or.inl ?_⟩ ?_
  rotate_left
  · go_simp
    try with_reducible rfl
  simp only [Act.put, stA, stB, stC]
  refine Abs.take_np (i := 5) (d := some 27) (v := ?_) rfl rfl (by kernel_rfl) (by kernel_rfl) (by kernel_rfl) hG ⟨by rfl, fun w9 hw9 => Or.inl ?_⟩ ?_
  rotate_left
  · replace Az0 := hw9.cell Az0 nmN; replace Az1 := hw9.cell Az1 nmN; replace Az2 := hw9.cell Az2 nmN; replace Az3 := hw9.cell Az3 nmN
    go_simp
    try with_reducible rfl
  simp only [Act.put, stA, stB, stC]
  refine Abs.take_np (i := 6) (d := some 28) (v := _) rfl rfl (by kernel_rfl) (by kernel_rfl) (by kernel_rfl) hG ⟨by rfl, fun w9 hw9 => Or.inr ⟨_, _, ?_, C0.out w9⟩⟩ ?_
  · go_simp
    try with_reducible rfl
  simp only [Act.put, stA, stB, stC]
  refine Abs.take_np (i := 7) (d := some 29) (v := ?_) rfl rfl (by kernel_rfl) (by kernel_rfl) (by kernel_rfl) hG ⟨by rfl, fun w9 hw9 => Or.inl ?_⟩ ?_
  rotate_left
  · replace D0 := hw9.cell D0 nmN; replace D1 := hw9.cell D1 nmN; replace D2 := hw9.cell D2 nmN; replace D3 := hw9.cell D3 nmN; replace D4 := hw9.cell D4 nmN; replace D5 := hw9.cell D5 nmN; replace D6 := hw9.cell D6 nmN; replace D7 := hw9.cell D7 nmN
    go_simp
    try with_reducible rfl
  simp only [Act.put, stA, stB, stC]
  refine Abs.take_np (i := 8) (d := some 30) (v := ?_) rfl rfl (by kernel_rfl) (by kernel_rfl) (by kernel_rfl) hG ⟨by rfl, fun w9 hw9 => Or.inl ?_⟩ ?_
  rotate_left
  · go_simp
    try with_reducible rfl
  simp only [Act.put, stA, stB, stC]
  refine Abs.take_np (i := 9) (d := some 31) (v := ?_) rfl rfl (by kernel_rfl) (by kernel_rfl) (by kernel_rfl) hG ⟨by rfl, fun w9 hw9 => Or.inl ?_⟩ ?_
  rotate_left
  · replace Ay0 := hw9.cell Ay0 nmN; replace Ay1 := hw9.cell Ay1 nmN; replace Ay2 := hw9.cell Ay2 nmN; replace Ay3 := hw9.cell Ay3 nmN
    go_simp
    try with_reducible rfl
  simp only [Act.put, stA, stB, stC]
  refine Abs.take_np (i := 10) (d := some 32) (v := ?_) rfl rfl (by kernel_rfl) (by kernel_rfl) (by kernel_rfl) hG ⟨by rfl, fun w9 hw9 => Or.inl ?_⟩ ?_
  rotate_left
  · go_simp
    try with_reducible rfl
  simp only [Act.put, stA, stB, stC]
  refine Abs.take_np (i := 11) (d := some 33) (v := ?_) rfl rfl (by kernel_rfl) (by kernel_rfl) (by kernel_rfl) hG ⟨by rfl, fun w9 hw9 => Or.inl ?_⟩ ?_
  rotate_left
  · replace Bz0 := hw9.cell Bz0 nmN; replace Bz1 := hw9.cell Bz1 nmN; replace Bz2 := hw9.cell Bz2 nmN; replace Bz3 := hw9.cell Bz3 nmN
    go_simp
    try with_reducible rfl
  simp only [Act.put, stA, stB, stC]
  refine Abs.take_np (i := 12) (d := some 34) (v := _) rfl rfl (by kernel_rfl) (by kernel_rfl) (by kernel_rfl) hG ⟨by rfl, fun w9 hw9 => Or.inr ⟨_, _, ?_, C1.out w9⟩⟩ ?_
  · go_simp
    try with_reducible rfl
  simp only [Act.put, stA, stB, stC]
  refine Abs.take_np (i := 13) (d := some 35) (v := _) rfl rfl (by kernel_rfl) (by kernel_rfl) (by kernel_rfl) hG ⟨by rfl, fun w9 hw9 => Or.inr ⟨_, _, ?_, C2.out w9⟩⟩ ?_
  · go_simp
    try with_reducible rfl
  simp only [Act.put, stA, stB, stC]
  refine Abs.alloc4 (i := 14) (t := 24) (X := []) (W := W1) rfl (by kernel_rfl) (by rfl) hG (fun _ h => h) (fun w9 => ?_) (fun b2 hb2 hG => ?_)
  · go_simp
    try with_reducible rfl
  refine Abs.at_put (d := some 6) rfl ?_
  simp only [Act.put, stA, stB, stC]
  refine Abs.store4 (i := 15) (b := b2) (ds := #[.int .u64 (lm v2 0 : Nat), .int .u64 (lm v2 1 : Nat), .int .u64 (lm v2 2 : Nat), .int .u64 (lm v2 3 : Nat)]) rfl (by kernel_rfl) (by rfl) (fun w9 => (((w9.setCell ⟨b2, 0, none⟩ (.int .u64 (lm v2 0 : Nat))).setCell ⟨b2, 1, none⟩ (.int .u64 (lm v2 1 : Nat))).setCell ⟨b2, 2, none⟩ (.int .u64 (lm v2 2 : Nat))).setCell ⟨b2, 3, none⟩ (.int .u64 (lm v2 3 : Nat))) (fun w9 h9 => ⟨?_, ?_, ?_⟩) (fun _ _ h k => Chg.keeps (Or.inr hb2) h k) (good_chg [] W1) (fun hG => ?_)
  · have n0 := cell_of_has h9 0; have n1 := cell_of_has h9 1; have n2 := cell_of_has h9 2; have n3 := cell_of_has h9 3
    simp only [glA, glB, glC] at n0 n1 n2 n3
    have z0 := frozen_of_has h9 0; have z1 := frozen_of_has h9 1; have z2 := frozen_of_has h9 2; have z3 := frozen_of_has h9 3
    clear h9
    go_simp
    try with_reducible rfl
  · exact U4.put_x (x := fun _ => 0) h9 v2
  · exact Chg.put_x (Chg.refl _ _) (Or.inl (by simp)) v2
  refine Abs.at_put (d := none) rfl ?_
  simp only [Act.put, stA, stB, stC]
  refine Abs.done (by kernel_rfl) (fun wx hx => NoPanic.normal ?_) _
  clear D0 D1 D2 D3 D4 D5 D6 D7 By0 By1 By2 By3 Az0 Az1 Az2 Az3 Ay0 Ay1 Ay2 Ay3 Bz0 Bz1 Bz2 Bz3
  obtain ⟨hA, hN⟩ := hx
  have l2 : R < b2 := Nat.lt_of_lt_of_le HR.out.lt hb2
  have hN : U4 wx b2 24 (lm v2) := hN
  replace HBA := Lib.hid (HBA.out.chg hA nmN)
  replace HBB := Lib.hid (HBB.out.chg hA nmN)
  replace HR := Lib.hid (HR.out.chg hA nmN)
  replace HC := Lib.hid (HC.out.trans hA)
  replace HD := Lib.hid (HD.out.chg hA nmN)
  have H_2 := Lib.hid hN
  clear hA hN hb2
  go_upto_region 7 with fail
  obtain ⟨D0, D1, D2, D3⟩ := four4 fun _ => (HD.out).cm; obtain ⟨D4, D5, D6, D7⟩ := four4 fun _ => (HD.out).cc
  obtain ⟨Bx0, Bx1, Bx2, Bx3⟩ := four4 fun _ => (HBB.out).cx
  obtain ⟨Az0, Az1, Az2, Az3⟩ := four4 fun _ => (HBA.out).cz
  obtain ⟨Ax0, Ax1, Ax2, Ax3⟩ := four4 fun _ => (HBA.out).cx
  obtain ⟨Bz0, Bz1, Bz2, Bz3⟩ := four4 fun _ => (HBB.out).cz
  refine abs_region (B := Chg [] wx) (S := Chg [] wx) (by kernel_rfl) ((Chg.refl _ _).drew) ?_
  have hG := good_chg [] wx
  refine Abs.take_np (i := 0) (d := some 36) (v := ?_) rfl rfl (by kernel_rfl) (by kernel_rfl) (by kernel_rfl) hG ⟨by rfl, fun w9 hw9 => Or.inl ?_⟩ ?_
  rotate_left
  · replace D0 := hw9.cell D0 nmN; replace D1 := hw9.cell D1 nmN; replace D2 := hw9.cell D2 nmN; replace D3 := hw9.cell D3 nmN; replace D4 := hw9.cell D4 nmN; replace D5 := hw9.cell D5 nmN; replace D6 := hw9.cell D6 nmN; replace D7 := hw9.cell D7 nmN
    go_simp
    try with_reducible rfl
  simp only [Act.put, stA, stB, stC]
  refine Abs.take_np (i := 1) (d := some 37) (v := ?_) rfl rfl (by kernel_rfl) (by kernel_rfl) (by kernel_rfl) hG ⟨by rfl, fun w9 hw9 => Or.inl ?_⟩ ?_
  rotate_left
  · replace D0 := hw9.cell D0 nmN; replace D1 := hw9.cell D1 nmN; replace D2 := hw9.cell D2 nmN; replace D3 := hw9.cell D3 nmN; replace D4 := hw9.cell D4 nmN; replace D5 := hw9.cell D5 nmN; replace D6 := hw9.cell D6 nmN; replace D7 := hw9.cell D7 nmN
    go_simp
    try with_reducible rfl
  simp only [Act.put, stA, stB, stC]
  refine Abs.take_np (i := 2) (d := some 38) (v := ?_) rfl rfl (by kernel_rfl) (by kernel_rfl) (by kernel_rfl) hG ⟨by rfl, fun w9 hw9 => Or.inl ?_⟩ ?_
  rotate_left
  · go_simp
    try with_reducible rfl
  simp only [Act.put, stA, stB, stC]
  refine Abs.take_np (i := 3) (d := some 39) (v := ?_) rfl rfl (by kernel_rfl) (by kernel_rfl) (by kernel_rfl) hG ⟨by rfl, fun w9 hw9 => Or.inl ?_⟩ ?_
  rotate_left
  · replace Bx0 := hw9.cell Bx0 nmN; replace Bx1 := hw9.cell Bx1 nmN; replace Bx2 := hw9.cell Bx2 nmN; replace Bx3 := hw9.cell Bx3 nmN
    go_simp
    try with_reducible rfl
  simp only [Act.put, stA, stB, stC]
  refine Abs.take_np (i := 4) (d := some 40) (v := ?_) rfl rfl (by kernel_rfl) (by kernel_rfl) (by kernel_rfl) hG ⟨by rfl, fun w9 hw9 => Or.inl ?_⟩ ?_
  rotate_left
  · go_simp
    try with_reducible rfl
  simp only [Act.put, stA, stB, stC]
  refine Abs.take_np (i := 5) (d := some 41) (v := ?_) rfl rfl (by kernel_rfl) (by kernel_rfl) (by kernel_rfl) hG ⟨by rfl, fun w9 hw9 => Or.inl ?_⟩ ?_
  rotate_left
  · replace Az0 := hw9.cell Az0 nmN; replace Az1 := hw9.cell Az1 nmN; replace Az2 := hw9.cell Az2 nmN; replace Az3 := hw9.cell Az3 nmN
    go_simp
    try with_reducible rfl
  simp only [Act.put, stA, stB, stC]
  refine Abs.take_np (i := 6) (d := some 42) (v := _) rfl rfl (by kernel_rfl) (by kernel_rfl) (by kernel_rfl) hG ⟨by rfl, fun w9 hw9 => Or.inr ⟨_, _, ?_, C3.out w9⟩⟩ ?_
  · go_simp
    try with_reducible rfl
  simp only [Act.put, stA, stB, stC]
  refine Abs.take_np (i := 7) (d := some 43) (v := ?_) rfl rfl (by kernel_rfl) (by kernel_rfl) (by kernel_rfl) hG ⟨by rfl, fun w9 hw9 => Or.inl ?_⟩ ?_
  rotate_left
  · replace D0 := hw9.cell D0 nmN; replace D1 := hw9.cell D1 nmN; replace D2 := hw9.cell D2 nmN; replace D3 := hw9.cell D3 nmN; replace D4 := hw9.cell D4 nmN; replace D5 := hw9.cell D5 nmN; replace D6 := hw9.cell D6 nmN; replace D7 := hw9.cell D7 nmN
    go_simp
    try with_reducible rfl
  simp only [Act.put, stA, stB, stC]
  refine Abs.take_np (i := 8) (d := some 44) (v := ?_) rfl rfl (by kernel_rfl) (by kernel_rfl) (by kernel_rfl) hG ⟨by rfl, fun w9 hw9 => Or.inl ?_⟩ ?_
  rotate_left
  · go_simp
    try with_reducible rfl
  simp only [Act.put, stA, stB, stC]
  refine Abs.take_np (i := 9) (d := some 45) (v := ?_) rfl rfl (by kernel_rfl) (by kernel_rfl) (by kernel_rfl) hG ⟨by rfl, fun w9 hw9 => Or.inl ?_⟩ ?_
  rotate_left
  · replace Ax0 := hw9.cell Ax0 nmN; replace Ax1 := hw9.cell Ax1 nmN; replace Ax2 := hw9.cell Ax2 nmN; replace Ax3 := hw9.cell Ax3 nmN
    go_simp
    try with_reducible rfl
  simp only [Act.put, stA, stB, stC]
  refine Abs.take_np (i := 10) (d := some 46) (v := ?_) rfl rfl (by kernel_rfl) (by kernel_rfl) (by kernel_rfl) hG ⟨by rfl, fun w9 hw9 => Or.inl ?_⟩ ?_
  rotate_left
  · go_simp
    try with_reducible rfl
  simp only [Act.put, stA, stB, stC]
  refine Abs.take_np (i := 11) (d := some 47) (v := ?_) rfl rfl (by kernel_rfl) (by kernel_rfl) (by kernel_rfl) hG ⟨by rfl, fun w9 hw9 => Or.inl ?_⟩ ?_
  rotate_left
  · replace Bz0 := hw9.cell Bz0 nmN; replace Bz1 := hw9.cell Bz1 nmN; replace Bz2 := hw9.cell Bz2 nmN; replace Bz3 := hw9.cell Bz3 nmN
    go_simp
    try with_reducible rfl
  simp only [Act.put, stA, stB, stC]
  refine Abs.take_np (i := 12) (d := some 48) (v := _) rfl rfl (by kernel_rfl) (by kernel_rfl) (by kernel_rfl) hG ⟨by rfl, fun w9 hw9 => Or.inr ⟨_, _, ?_, C4.out w9⟩⟩ ?_
  · go_simp
    try with_reducible rfl
  simp only [Act.put, stA, stB, stC]
  refine Abs.take_np (i := 13) (d := some 49) (v := _) rfl rfl (by kernel_rfl) (by kernel_rfl) (by kernel_rfl) hG ⟨by rfl, fun w9 hw9 => Or.inr ⟨_, _, ?_, C5.out w9⟩⟩ ?_
  · go_simp
    try with_reducible rfl
  simp only [Act.put, stA, stB, stC]
  refine Abs.alloc4 (i := 14) (t := 24) (X := []) (W := wx) rfl (by kernel_rfl) (by rfl) hG (fun _ h => h) (fun w9 => ?_) (fun b5 hb5 hG => ?_)
  · go_simp
    try with_reducible rfl
  refine Abs.at_put (d := some 7) rfl ?_
  simp only [Act.put, stA, stB, stC]
  refine Abs.store4 (i := 15) (b := b5) (ds := #[.int .u64 (lm v5 0 : Nat), .int .u64 (lm v5 1 : Nat), .int .u64 (lm v5 2 : Nat), .int .u64 (lm v5 3 : Nat)]) rfl (by kernel_rfl) (by rfl) (fun w9 => (((w9.setCell ⟨b5, 0, none⟩ (.int .u64 (lm v5 0 : Nat))).setCell ⟨b5, 1, none⟩ (.int .u64 (lm v5 1 : Nat))).setCell ⟨b5, 2, none⟩ (.int .u64 (lm v5 2 : Nat))).setCell ⟨b5, 3, none⟩ (.int .u64 (lm v5 3 : Nat))) (fun w9 h9 => ⟨?_, ?_, ?_⟩) (fun _ _ h k => Chg.keeps (Or.inr hb5) h k) (good_chg [] wx) (fun hG => ?_)
  · have n0 := cell_of_has h9 0; have n1 := cell_of_has h9 1; have n2 := cell_of_has h9 2; have n3 := cell_of_has h9 3
    simp only [glA, glB, glC] at n0 n1 n2 n3
    have z0 := frozen_of_has h9 0; have z1 := frozen_of_has h9 1; have z2 := frozen_of_has h9 2; have z3 := frozen_of_has h9 3
    clear h9
    go_simp
    try with_reducible rfl
  · exact U4.put_x (x := fun _ => 0) h9 v5
  · exact Chg.put_x (Chg.refl _ _) (Or.inl (by simp)) v5
  refine Abs.at_put (d := none) rfl ?_
  simp only [Act.put, stA, stB, stC]
  refine Abs.done (by kernel_rfl) (fun wx hx => NoPanic.normal ?_) _
  clear D0 D1 D2 D3 D4 D5 D6 D7 Bx0 Bx1 Bx2 Bx3 Az0 Az1 Az2 Az3 Ax0 Ax1 Ax2 Ax3 Bz0 Bz1 Bz2 Bz3
  obtain ⟨hA, hN⟩ := hx
  have l5 : R < b5 := Nat.lt_of_lt_of_le HR.out.lt hb5
  have hN : U4 wx b5 24 (lm v5) := hN
  replace HBA := Lib.hid (HBA.out.chg hA nmN)
  replace HBB := Lib.hid (HBB.out.chg hA nmN)
  replace HR := Lib.hid (HR.out.chg hA nmN)
  replace HC := Lib.hid (HC.out.trans hA)
  replace HD := Lib.hid (HD.out.chg hA nmN)
  replace H_2 := Lib.hid (H_2.out.chg hA nmN)
  have H_5 := Lib.hid hN
  clear hA hN hb5
  go_upto_region 8 with fail
  obtain ⟨w5_0, w5_1, w5_2, w5_3⟩ := four4 fun _ => (H_5.out).cell
  go_wp2_with fail
  refine (Q3.out _).mono ?_
  rintro e w1 ⟨rfl, hC1⟩
  clear w5_0 w5_1 w5_2 w5_3
  replace HBA := Lib.hid (HBA.out.chg hC1 nmN)
  replace HBB := Lib.hid (HBB.out.chg hC1 nmN)
  replace HR := Lib.hid (HR.out.chg hC1 nmN)
  replace HC := Lib.hid (HC.out.trans hC1)
  replace HD := Lib.hid (HD.out.chg hC1 nmN)
  replace H_2 := Lib.hid (H_2.out.chg hC1 nmN)
  replace H_5 := Lib.hid (H_5.out.chg hC1 nmN)
  clear hC1
  obtain ⟨w2_0, w2_1, w2_2, w2_3⟩ := four4 fun _ => (H_2.out).cell
  go_wp2_with fail
  refine (Q4.out _).mono ?_
  rintro e w1 ⟨rfl, hC1⟩
  clear w2_0 w2_1 w2_2 w2_3
  replace HBA := Lib.hid (HBA.out.chg hC1 nmN)
  replace HBB := Lib.hid (HBB.out.chg hC1 nmN)
  replace HR := Lib.hid (HR.out.chg hC1 nmN)
  replace HC := Lib.hid (HC.out.trans hC1)
  replace HD := Lib.hid (HD.out.chg hC1 nmN)
  replace H_2 := Lib.hid (H_2.out.chg hC1 nmN)
  replace H_5 := Lib.hid (H_5.out.chg hC1 nmN)
  clear hC1
  obtain ⟨sx0, sx1, sx2, sx3⟩ := four4 fun _ => (HBA.out).cx; obtain ⟨sy0, sy1, sy2, sy3⟩ := four4 fun _ => (HBA.out).cy; obtain ⟨sz0, sz1, sz2, sz3⟩ := four4 fun _ => (HBA.out).cz
  go_wp2_with fail
  refine (CT.out _).mono ?_
  rintro e w2 ⟨rfl, hC1⟩
  clear sx0 sx1 sx2 sx3 sy0 sy1 sy2 sy3 sz0 sz1 sz2 sz3
  replace HBA := Lib.hid (HBA.out.chg hC1 nmN)
  replace HBB := Lib.hid (HBB.out.chg hC1 nmN)
  replace HR := Lib.hid (HR.out.chg hC1 nmN)
  replace HC := Lib.hid (HC.out.trans hC1)
  replace HD := Lib.hid (HD.out.chg hC1 nmN)
  replace H_2 := Lib.hid (H_2.out.chg hC1 nmN)
  replace H_5 := Lib.hid (H_5.out.chg hC1 nmN)
  clear hC1
  have hRz := HR.out
  have n0 := cell_of_has hRz 0; have n1 := cell_of_has hRz 1; have n2 := cell_of_has hRz 2; have n3 := cell_of_has hRz 3; have n4 := cell_of_has hRz 4; have n5 := cell_of_has hRz 5; have n6 := cell_of_has hRz 6; have n7 := cell_of_has hRz 7; have n8 := cell_of_has hRz 8; have n9 := cell_of_has hRz 9; have n10 := cell_of_has hRz 10; have n11 := cell_of_has hRz 11
  simp only [glA, glB, glC] at n0 n1 n2 n3 n4 n5 n6 n7 n8 n9 n10 n11
  have nz0 := frozen_of_has hRz 0; have nz1 := frozen_of_has hRz 1; have nz2 := frozen_of_has hRz 2; have nz3 := frozen_of_has hRz 3; have nz4 := frozen_of_has hRz 4; have nz5 := frozen_of_has hRz 5; have nz6 := frozen_of_has hRz 6; have nz7 := frozen_of_has hRz 7; have nz8 := frozen_of_has hRz 8; have nz9 := frozen_of_has hRz 9; have nz10 := frozen_of_has hRz 10; have nz11 := frozen_of_has hRz 11
  have hll := hRz.lt
  have HF := Lib.hid (hRz.u12.put tx ty tz); have HCF := Lib.hid (HC.out.put12 (b := R) (Or.inr (by have := hP.out; omega)) tx ty tz)
  clear hRz
  go_wp2_with fail
  have hF := HF.out; have hCF := HCF.out
  refine (id ?_ : bodyPost _ _ _ _ _ (put12 w2 R tx ty tz))
  clear HF HCF
  generalize put12 w2 R tx ty tz = W5 at *
  have g0 := cell_of_has hF 0; have g1 := cell_of_has hF 1; have g2 := cell_of_has hF 2; have g3 := cell_of_has hF 3; have g4 := cell_of_has hF 4; have g5 := cell_of_has hF 5; have g6 := cell_of_has hF 6; have g7 := cell_of_has hF 7; have g8 := cell_of_has hF 8; have g9 := cell_of_has hF 9; have g10 := cell_of_has hF 10; have g11 := cell_of_has hF 11
  simp only [glA, glB, glC] at g0 g1 g2 g3 g4 g5 g6 g7 g8 g9 g10 g11
  exact bodyPost_ret (v := .agg #[.int .u64 (lm tx 0 : Nat), .int .u64 (lm tx 1 : Nat), .int .u64 (lm tx 2 : Nat), .int .u64 (lm tx 3 : Nat), .int .u64 (lm ty 0 : Nat), .int .u64 (lm ty 1 : Nat), .int .u64 (lm ty 2 : Nat), .int .u64 (lm ty 3 : Nat), .int .u64 (lm tz 0 : Nat), .int .u64 (lm tz 1 : Nat), .int .u64 (lm tz 2 : Nat), .int .u64 (lm tz 3 : Nat)]) (by simp [results, Try.results36, go_sem, g0, g1, g2, g3, g4, g5, g6, g7, g8, g9, g10, g11]) rfl ⟨by rw [HZ.out], hCF⟩

end Go.Proofs.Ytplldbmjdnikeaa
