/- The walk of curve.plane.plus. Printed by plusd.py, slp.py. -/
import Derived.Test.YtplldbmjdnikeaaCu1
namespace Go.Proofs.Ytplldbmjdnikeaa
set_option linter.unusedVariables false
set_option linter.unusedSimpArgs false
open Go.RowKit

/-- A sum, by the line through both. -/
def jplN (p q : J) : J :=
  let za := p.z * p.z
  let zb := q.z * q.z
  let ua := p.x * zb
  let ub := q.x * za
  let sa := p.y * (zb * q.z)
  let sb := q.y * (za * p.z)
  let h := ub - ua
  let r := sb - sa
  if h = 0 then (if r = 0 then jtw p else ⟨0, 0, 0⟩) else
  let h2 := h * h
  let h3 := h2 * h
  let v := ua * h2
  let x := r * r - h3 - (v + v)
  ⟨x, r * (v - x) - sa * h3, h * (p.z * q.z)⟩
def jpl (p q : J) : J := if p.z = 0 then q else if q.z = 0 then p else jplN p q

set_option maxRecDepth 100000 in
set_option maxHeartbeats 8000000 in
theorem plane_plus_l {l a : Nat} (p q : J) (hz : p.z = 0) (w : World) (hP : Pl w l a PP vP) :
    Calls Try.prog 33 #[.pointer (some ⟨l, 0, none⟩), .agg (jv p), .agg (jv q)] w fun e w' =>
    e = .returned (.agg (jv q)) ∧ Chg [] w w' := by

  obtain ⟨Axv, hv_Ax⟩ : ∃ v, mu p.x = v := ⟨_, rfl⟩
  obtain ⟨Ayv, hv_Ay⟩ : ∃ v, mu p.y = v := ⟨_, rfl⟩
  obtain ⟨Azv, hv_Az⟩ : ∃ v, mu p.z = v := ⟨_, rfl⟩
  obtain ⟨Bxv, hv_Bx⟩ : ∃ v, mu q.x = v := ⟨_, rfl⟩
  obtain ⟨Byv, hv_By⟩ : ∃ v, mu q.y = v := ⟨_, rfl⟩
  obtain ⟨Bzv, hv_Bz⟩ : ∃ v, mu q.z = v := ⟨_, rfl⟩
  have q1 := fun w => pl_eq0 hv_Az true (by simpa using hz) w
  unfold jv
  rw [hv_Ax, hv_Ay, hv_Az]
  rw [hv_Bx, hv_By, hv_Bz]
  obtain ⟨W0, hW0⟩ : ∃ W0, ((w.alloc (.cells #[.int .u64 (lm Axv 0 : Nat), .int .u64 (lm Axv 1 : Nat), .int .u64 (lm Axv 2 : Nat), .int .u64 (lm Axv 3 : Nat), .int .u64 (lm Ayv 0 : Nat), .int .u64 (lm Ayv 1 : Nat), .int .u64 (lm Ayv 2 : Nat), .int .u64 (lm Ayv 3 : Nat), .int .u64 (lm Azv 0 : Nat), .int .u64 (lm Azv 1 : Nat), .int .u64 (lm Azv 2 : Nat), .int .u64 (lm Azv 3 : Nat)] 66)).alloc (.cells #[.int .u64 (lm Bxv 0 : Nat), .int .u64 (lm Bxv 1 : Nat), .int .u64 (lm Bxv 2 : Nat), .int .u64 (lm Bxv 3 : Nat), .int .u64 (lm Byv 0 : Nat), .int .u64 (lm Byv 1 : Nat), .int .u64 (lm Byv 2 : Nat), .int .u64 (lm Byv 3 : Nat), .int .u64 (lm Bzv 0 : Nat), .int .u64 (lm Bzv 1 : Nat), .int .u64 (lm Bzv 2 : Nat), .int .u64 (lm Bzv 3 : Nat)] 66)).alloc (.cells #[.int .u64 0, .int .u64 0, .int .u64 0, .int .u64 0, .int .u64 0, .int .u64 0, .int .u64 0, .int .u64 0, .int .u64 0, .int .u64 0, .int .u64 0, .int .u64 0] 66) = W0 := ⟨_, rfl⟩
  have hBA : U12 W0 (w.heap.size) 66 Axv Ayv Azv := by rw [← hW0]; exact has_alloc (has_alloc (has_alloc_new _ _))
  have hBB : U12 W0 (w.heap.size + 1) 66 Bxv Byv Bzv := by rw [← hW0]; exact has_alloc (has_alloc_at (by simp))
  have hR : Z12 W0 (w.heap.size + 1 + 1) 66 := by rw [← hW0]; exact has_alloc_at (by simp)
  have hC : Chg [] w W0 := by rw [← hW0]; exact (((Chg.refl _ _).alloc _).alloc _).alloc _
  have hlP : l < w.heap.size := lt_of_has hP.1
  have haP : a < w.heap.size := lt_of_has hP.2
  replace hP := hP.ch hC
  have HP := Lib.hid hP; have HC := Lib.hid hC; have HR := Lib.hid hR
  have HBA := Lib.hid hBA; have HBB := Lib.hid hBB
  clear hP hC hR hBA hBB
  have hbA := HBA.out; have hbB := HBB.out
  obtain ⟨Az0, Az1, Az2, Az3⟩ := four4 fun _ => hbA.cz
  clear hbA hbB
  go_enter Try.func33, Try.ntmps33
  go_upto_region 2 with fail
  try rw [hW0]
  clear hW0
  obtain ⟨P, hP⟩ : ∃ P, w.heap.size = P := ⟨_, rfl⟩
  rw [hP] at HBA HBB HR hlP haP ⊢
  obtain ⟨R, hR⟩ : ∃ R, P + 1 + 1 = R := ⟨_, rfl⟩
  rw [hR] at HR ⊢
  have hRP : P < R := by omega
  have hRP2 : P + 1 < R := by omega
  have hPw := hP
  replace hPw := Lib.hid hPw
  have hRR := Lib.hid hR
  clear hR
  clear q1 Az0 Az1 Az2 Az3
  have hS := HBB.out
  obtain ⟨sx0, sx1, sx2, sx3⟩ := four4 fun _ => hS.cx; obtain ⟨sy0, sy1, sy2, sy3⟩ := four4 fun _ => hS.cy; obtain ⟨sz0, sz1, sz2, sz3⟩ := four4 fun _ => hS.cz
  have hRz := HR.out
  have n0 := cell_of_has hRz 0; have n1 := cell_of_has hRz 1; have n2 := cell_of_has hRz 2; have n3 := cell_of_has hRz 3; have n4 := cell_of_has hRz 4; have n5 := cell_of_has hRz 5; have n6 := cell_of_has hRz 6; have n7 := cell_of_has hRz 7; have n8 := cell_of_has hRz 8; have n9 := cell_of_has hRz 9; have n10 := cell_of_has hRz 10; have n11 := cell_of_has hRz 11
  simp only [glA, glB, glC] at n0 n1 n2 n3 n4 n5 n6 n7 n8 n9 n10 n11
  have nz0 := frozen_of_has hRz 0; have nz1 := frozen_of_has hRz 1; have nz2 := frozen_of_has hRz 2; have nz3 := frozen_of_has hRz 3; have nz4 := frozen_of_has hRz 4; have nz5 := frozen_of_has hRz 5; have nz6 := frozen_of_has hRz 6; have nz7 := frozen_of_has hRz 7; have nz8 := frozen_of_has hRz 8; have nz9 := frozen_of_has hRz 9; have nz10 := frozen_of_has hRz 10; have nz11 := frozen_of_has hRz 11
  have hll := hRz.lt
  have HF := Lib.hid (hRz.u12.put Bxv Byv Bzv); have HCF := Lib.hid (HC.out.put12 (b := R) (Or.inr (by omega)) Bxv Byv Bzv)
  clear hRz hS
  go_wp2_with fail
  have hF := HF.out; have hCF := HCF.out
  refine (id ?_ : bodyPost _ _ _ _ _ (put12 W0 R Bxv Byv Bzv))
  clear HF HCF
  generalize put12 W0 R Bxv Byv Bzv = W5 at *
  have g0 := cell_of_has hF 0; have g1 := cell_of_has hF 1; have g2 := cell_of_has hF 2; have g3 := cell_of_has hF 3; have g4 := cell_of_has hF 4; have g5 := cell_of_has hF 5; have g6 := cell_of_has hF 6; have g7 := cell_of_has hF 7; have g8 := cell_of_has hF 8; have g9 := cell_of_has hF 9; have g10 := cell_of_has hF 10; have g11 := cell_of_has hF 11
  simp only [glA, glB, glC] at g0 g1 g2 g3 g4 g5 g6 g7 g8 g9 g10 g11
  exact bodyPost_ret (v := .agg #[.int .u64 (lm Bxv 0 : Nat), .int .u64 (lm Bxv 1 : Nat), .int .u64 (lm Bxv 2 : Nat), .int .u64 (lm Bxv 3 : Nat), .int .u64 (lm Byv 0 : Nat), .int .u64 (lm Byv 1 : Nat), .int .u64 (lm Byv 2 : Nat), .int .u64 (lm Byv 3 : Nat), .int .u64 (lm Bzv 0 : Nat), .int .u64 (lm Bzv 1 : Nat), .int .u64 (lm Bzv 2 : Nat), .int .u64 (lm Bzv 3 : Nat)]) (by simp [results, Try.results33, go_sem, g0, g1, g2, g3, g4, g5, g6, g7, g8, g9, g10, g11]) rfl ⟨rfl, hCF⟩

set_option maxRecDepth 100000 in
set_option maxHeartbeats 8000000 in
theorem plane_plus_r {l a : Nat} (p q : J) (hz : ¬ p.z = 0) (hy : q.z = 0) (w : World) (hP : Pl w l a PP vP) :
    Calls Try.prog 33 #[.pointer (some ⟨l, 0, none⟩), .agg (jv p), .agg (jv q)] w fun e w' =>
    e = .returned (.agg (jv p)) ∧ Chg [] w w' := by

  obtain ⟨Axv, hv_Ax⟩ : ∃ v, mu p.x = v := ⟨_, rfl⟩
  obtain ⟨Ayv, hv_Ay⟩ : ∃ v, mu p.y = v := ⟨_, rfl⟩
  obtain ⟨Azv, hv_Az⟩ : ∃ v, mu p.z = v := ⟨_, rfl⟩
  obtain ⟨Bxv, hv_Bx⟩ : ∃ v, mu q.x = v := ⟨_, rfl⟩
  obtain ⟨Byv, hv_By⟩ : ∃ v, mu q.y = v := ⟨_, rfl⟩
  obtain ⟨Bzv, hv_Bz⟩ : ∃ v, mu q.z = v := ⟨_, rfl⟩
  have q1 := fun w => pl_eq0 hv_Az false (by simpa using hz) w
  have q2 := fun w => pl_eq0 hv_Bz true (by simpa using hy) w
  unfold jv
  rw [hv_Ax, hv_Ay, hv_Az]
  rw [hv_Bx, hv_By, hv_Bz]
  obtain ⟨W0, hW0⟩ : ∃ W0, ((w.alloc (.cells #[.int .u64 (lm Axv 0 : Nat), .int .u64 (lm Axv 1 : Nat), .int .u64 (lm Axv 2 : Nat), .int .u64 (lm Axv 3 : Nat), .int .u64 (lm Ayv 0 : Nat), .int .u64 (lm Ayv 1 : Nat), .int .u64 (lm Ayv 2 : Nat), .int .u64 (lm Ayv 3 : Nat), .int .u64 (lm Azv 0 : Nat), .int .u64 (lm Azv 1 : Nat), .int .u64 (lm Azv 2 : Nat), .int .u64 (lm Azv 3 : Nat)] 66)).alloc (.cells #[.int .u64 (lm Bxv 0 : Nat), .int .u64 (lm Bxv 1 : Nat), .int .u64 (lm Bxv 2 : Nat), .int .u64 (lm Bxv 3 : Nat), .int .u64 (lm Byv 0 : Nat), .int .u64 (lm Byv 1 : Nat), .int .u64 (lm Byv 2 : Nat), .int .u64 (lm Byv 3 : Nat), .int .u64 (lm Bzv 0 : Nat), .int .u64 (lm Bzv 1 : Nat), .int .u64 (lm Bzv 2 : Nat), .int .u64 (lm Bzv 3 : Nat)] 66)).alloc (.cells #[.int .u64 0, .int .u64 0, .int .u64 0, .int .u64 0, .int .u64 0, .int .u64 0, .int .u64 0, .int .u64 0, .int .u64 0, .int .u64 0, .int .u64 0, .int .u64 0] 66) = W0 := ⟨_, rfl⟩
  have hBA : U12 W0 (w.heap.size) 66 Axv Ayv Azv := by rw [← hW0]; exact has_alloc (has_alloc (has_alloc_new _ _))
  have hBB : U12 W0 (w.heap.size + 1) 66 Bxv Byv Bzv := by rw [← hW0]; exact has_alloc (has_alloc_at (by simp))
  have hR : Z12 W0 (w.heap.size + 1 + 1) 66 := by rw [← hW0]; exact has_alloc_at (by simp)
  have hC : Chg [] w W0 := by rw [← hW0]; exact (((Chg.refl _ _).alloc _).alloc _).alloc _
  have hlP : l < w.heap.size := lt_of_has hP.1
  have haP : a < w.heap.size := lt_of_has hP.2
  replace hP := hP.ch hC
  have HP := Lib.hid hP; have HC := Lib.hid hC; have HR := Lib.hid hR
  have HBA := Lib.hid hBA; have HBB := Lib.hid hBB
  clear hP hC hR hBA hBB
  have hbA := HBA.out; have hbB := HBB.out
  have Az0 := hbA.cz (k := 0) (by omega); have Bz0 := hbB.cz (k := 0) (by omega); have Az1 := hbA.cz (k := 1) (by omega); have Bz1 := hbB.cz (k := 1) (by omega); have Az2 := hbA.cz (k := 2) (by omega); have Bz2 := hbB.cz (k := 2) (by omega); have Az3 := hbA.cz (k := 3) (by omega); have Bz3 := hbB.cz (k := 3) (by omega)
  clear hbA hbB
  go_enter Try.func33, Try.ntmps33
  go_upto_region 4 with fail
  try rw [hW0]
  clear hW0
  obtain ⟨P, hP⟩ : ∃ P, w.heap.size = P := ⟨_, rfl⟩
  rw [hP] at HBA HBB HR hlP haP ⊢
  obtain ⟨R, hR⟩ : ∃ R, P + 1 + 1 = R := ⟨_, rfl⟩
  rw [hR] at HR ⊢
  have hRP : P < R := by omega
  have hRP2 : P + 1 < R := by omega
  have hPw := hP
  replace hPw := Lib.hid hPw
  have hRR := Lib.hid hR
  clear hR
  clear q1 q2 Az0 Bz0 Az1 Bz1 Az2 Bz2 Az3 Bz3
  have hS := HBA.out
  obtain ⟨sx0, sx1, sx2, sx3⟩ := four4 fun _ => hS.cx; obtain ⟨sy0, sy1, sy2, sy3⟩ := four4 fun _ => hS.cy; obtain ⟨sz0, sz1, sz2, sz3⟩ := four4 fun _ => hS.cz
  have hRz := HR.out
  have n0 := cell_of_has hRz 0; have n1 := cell_of_has hRz 1; have n2 := cell_of_has hRz 2; have n3 := cell_of_has hRz 3; have n4 := cell_of_has hRz 4; have n5 := cell_of_has hRz 5; have n6 := cell_of_has hRz 6; have n7 := cell_of_has hRz 7; have n8 := cell_of_has hRz 8; have n9 := cell_of_has hRz 9; have n10 := cell_of_has hRz 10; have n11 := cell_of_has hRz 11
  simp only [glA, glB, glC] at n0 n1 n2 n3 n4 n5 n6 n7 n8 n9 n10 n11
  have nz0 := frozen_of_has hRz 0; have nz1 := frozen_of_has hRz 1; have nz2 := frozen_of_has hRz 2; have nz3 := frozen_of_has hRz 3; have nz4 := frozen_of_has hRz 4; have nz5 := frozen_of_has hRz 5; have nz6 := frozen_of_has hRz 6; have nz7 := frozen_of_has hRz 7; have nz8 := frozen_of_has hRz 8; have nz9 := frozen_of_has hRz 9; have nz10 := frozen_of_has hRz 10; have nz11 := frozen_of_has hRz 11
  have hll := hRz.lt
  have HF := Lib.hid (hRz.u12.put Axv Ayv Azv); have HCF := Lib.hid (HC.out.put12 (b := R) (Or.inr (by omega)) Axv Ayv Azv)
  clear hRz hS
  go_wp2_with fail
  have hF := HF.out; have hCF := HCF.out
  refine (id ?_ : bodyPost _ _ _ _ _ (put12 W0 R Axv Ayv Azv))
  clear HF HCF
  generalize put12 W0 R Axv Ayv Azv = W5 at *
  have g0 := cell_of_has hF 0; have g1 := cell_of_has hF 1; have g2 := cell_of_has hF 2; have g3 := cell_of_has hF 3; have g4 := cell_of_has hF 4; have g5 := cell_of_has hF 5; have g6 := cell_of_has hF 6; have g7 := cell_of_has hF 7; have g8 := cell_of_has hF 8; have g9 := cell_of_has hF 9; have g10 := cell_of_has hF 10; have g11 := cell_of_has hF 11
  simp only [glA, glB, glC] at g0 g1 g2 g3 g4 g5 g6 g7 g8 g9 g10 g11
  exact bodyPost_ret (v := .agg #[.int .u64 (lm Axv 0 : Nat), .int .u64 (lm Axv 1 : Nat), .int .u64 (lm Axv 2 : Nat), .int .u64 (lm Axv 3 : Nat), .int .u64 (lm Ayv 0 : Nat), .int .u64 (lm Ayv 1 : Nat), .int .u64 (lm Ayv 2 : Nat), .int .u64 (lm Ayv 3 : Nat), .int .u64 (lm Azv 0 : Nat), .int .u64 (lm Azv 1 : Nat), .int .u64 (lm Azv 2 : Nat), .int .u64 (lm Azv 3 : Nat)]) (by simp [results, Try.results33, go_sem, g0, g1, g2, g3, g4, g5, g6, g7, g8, g9, g10, g11]) rfl ⟨rfl, hCF⟩

set_option maxRecDepth 100000 in
set_option maxHeartbeats 8000000 in
theorem plane_plus_n {l a : Nat} (p q : J) (hz : ¬ p.z = 0) (hy : ¬ q.z = 0) (w : World) (hP : Pl w l a PP vP) :
    Calls Try.prog 33 #[.pointer (some ⟨l, 0, none⟩), .agg (jv p), .agg (jv q)] w fun e w' =>
    e = .returned (.agg (jv (jplN p q))) ∧ Chg [] w w' := by

  obtain ⟨Zr, hZr⟩ : ∃ Z, jv (jplN p q) = Z := ⟨_, rfl⟩
  rw [hZr]
  obtain ⟨Axv, hv_Ax⟩ : ∃ v, mu p.x = v := ⟨_, rfl⟩
  obtain ⟨Ayv, hv_Ay⟩ : ∃ v, mu p.y = v := ⟨_, rfl⟩
  obtain ⟨Azv, hv_Az⟩ : ∃ v, mu p.z = v := ⟨_, rfl⟩
  obtain ⟨Bxv, hv_Bx⟩ : ∃ v, mu q.x = v := ⟨_, rfl⟩
  obtain ⟨Byv, hv_By⟩ : ∃ v, mu q.y = v := ⟨_, rfl⟩
  obtain ⟨Bzv, hv_Bz⟩ : ∃ v, mu q.z = v := ⟨_, rfl⟩
  have C_tw := Lib.hid (fun w (hP : Pl w l a PP vP) => plane_twice p w hP)
  obtain ⟨e_za, he_za⟩ : ∃ e, p.z * p.z = e := ⟨_, rfl⟩
  obtain ⟨v_za, hv_za⟩ : ∃ v, mu e_za = v := ⟨_, rfl⟩
  obtain ⟨e_zb, he_zb⟩ : ∃ e, q.z * q.z = e := ⟨_, rfl⟩
  obtain ⟨v_zb, hv_zb⟩ : ∃ v, mu e_zb = v := ⟨_, rfl⟩
  obtain ⟨e_ua, he_ua⟩ : ∃ e, p.x * e_zb = e := ⟨_, rfl⟩
  obtain ⟨v_ua, hv_ua⟩ : ∃ v, mu e_ua = v := ⟨_, rfl⟩
  obtain ⟨e_ub, he_ub⟩ : ∃ e, q.x * e_za = e := ⟨_, rfl⟩
  obtain ⟨v_ub, hv_ub⟩ : ∃ v, mu e_ub = v := ⟨_, rfl⟩
  obtain ⟨e_zzb, he_zzb⟩ : ∃ e, e_zb * q.z = e := ⟨_, rfl⟩
  obtain ⟨v_zzb, hv_zzb⟩ : ∃ v, mu e_zzb = v := ⟨_, rfl⟩
  obtain ⟨e_sa, he_sa⟩ : ∃ e, p.y * e_zzb = e := ⟨_, rfl⟩
  obtain ⟨v_sa, hv_sa⟩ : ∃ v, mu e_sa = v := ⟨_, rfl⟩
  obtain ⟨e_zza, he_zza⟩ : ∃ e, e_za * p.z = e := ⟨_, rfl⟩
  obtain ⟨v_zza, hv_zza⟩ : ∃ v, mu e_zza = v := ⟨_, rfl⟩
  obtain ⟨e_sb, he_sb⟩ : ∃ e, q.y * e_zza = e := ⟨_, rfl⟩
  obtain ⟨v_sb, hv_sb⟩ : ∃ v, mu e_sb = v := ⟨_, rfl⟩
  obtain ⟨e_h, he_h⟩ : ∃ e, e_ub - e_ua = e := ⟨_, rfl⟩
  obtain ⟨v_h, hv_h⟩ : ∃ v, mu e_h = v := ⟨_, rfl⟩
  obtain ⟨e_r, he_r⟩ : ∃ e, e_sb - e_sa = e := ⟨_, rfl⟩
  obtain ⟨v_r, hv_r⟩ : ∃ v, mu e_r = v := ⟨_, rfl⟩
  obtain ⟨e_h2, he_h2⟩ : ∃ e, e_h * e_h = e := ⟨_, rfl⟩
  obtain ⟨v_h2, hv_h2⟩ : ∃ v, mu e_h2 = v := ⟨_, rfl⟩
  obtain ⟨e_h3, he_h3⟩ : ∃ e, e_h2 * e_h = e := ⟨_, rfl⟩
  obtain ⟨v_h3, hv_h3⟩ : ∃ v, mu e_h3 = v := ⟨_, rfl⟩
  obtain ⟨e_v, he_v⟩ : ∃ e, e_ua * e_h2 = e := ⟨_, rfl⟩
  obtain ⟨v_v, hv_v⟩ : ∃ v, mu e_v = v := ⟨_, rfl⟩
  obtain ⟨e_rr, he_rr⟩ : ∃ e, e_r * e_r = e := ⟨_, rfl⟩
  obtain ⟨v_rr, hv_rr⟩ : ∃ v, mu e_rr = v := ⟨_, rfl⟩
  obtain ⟨e_rh, he_rh⟩ : ∃ e, e_rr - e_h3 = e := ⟨_, rfl⟩
  obtain ⟨v_rh, hv_rh⟩ : ∃ v, mu e_rh = v := ⟨_, rfl⟩
  obtain ⟨e_vv, he_vv⟩ : ∃ e, e_v + e_v = e := ⟨_, rfl⟩
  obtain ⟨v_vv, hv_vv⟩ : ∃ v, mu e_vv = v := ⟨_, rfl⟩
  obtain ⟨e_x, he_x⟩ : ∃ e, e_rh - e_vv = e := ⟨_, rfl⟩
  obtain ⟨v_x, hv_x⟩ : ∃ v, mu e_x = v := ⟨_, rfl⟩
  obtain ⟨e_vx, he_vx⟩ : ∃ e, e_v - e_x = e := ⟨_, rfl⟩
  obtain ⟨v_vx, hv_vx⟩ : ∃ v, mu e_vx = v := ⟨_, rfl⟩
  obtain ⟨e_rvx, he_rvx⟩ : ∃ e, e_r * e_vx = e := ⟨_, rfl⟩
  obtain ⟨v_rvx, hv_rvx⟩ : ∃ v, mu e_rvx = v := ⟨_, rfl⟩
  obtain ⟨e_sh, he_sh⟩ : ∃ e, e_sa * e_h3 = e := ⟨_, rfl⟩
  obtain ⟨v_sh, hv_sh⟩ : ∃ v, mu e_sh = v := ⟨_, rfl⟩
  obtain ⟨e_y, he_y⟩ : ∃ e, e_rvx - e_sh = e := ⟨_, rfl⟩
  obtain ⟨v_y, hv_y⟩ : ∃ v, mu e_y = v := ⟨_, rfl⟩
  obtain ⟨e_zz, he_zz⟩ : ∃ e, p.z * q.z = e := ⟨_, rfl⟩
  obtain ⟨v_zz, hv_zz⟩ : ∃ v, mu e_zz = v := ⟨_, rfl⟩
  obtain ⟨e_z, he_z⟩ : ∃ e, e_h * e_zz = e := ⟨_, rfl⟩
  obtain ⟨v_z, hv_z⟩ : ∃ v, mu e_z = v := ⟨_, rfl⟩
  have C_za := Lib.hid (fun w (hP : Pl w l a PP vP) => pl_mul (l := l) (a := a) (t := v_za) hv_Az hv_Az (by rw [he_za]; exact hv_za) w hP)
  have C_zb := Lib.hid (fun w (hP : Pl w l a PP vP) => pl_mul (l := l) (a := a) (t := v_zb) hv_Bz hv_Bz (by rw [he_zb]; exact hv_zb) w hP)
  have C_ua := Lib.hid (fun w (hP : Pl w l a PP vP) => pl_mul (l := l) (a := a) (t := v_ua) hv_Ax hv_zb (by rw [he_ua]; exact hv_ua) w hP)
  have C_ub := Lib.hid (fun w (hP : Pl w l a PP vP) => pl_mul (l := l) (a := a) (t := v_ub) hv_Bx hv_za (by rw [he_ub]; exact hv_ub) w hP)
  have C_zzb := Lib.hid (fun w (hP : Pl w l a PP vP) => pl_mul (l := l) (a := a) (t := v_zzb) hv_zb hv_Bz (by rw [he_zzb]; exact hv_zzb) w hP)
  have C_sa := Lib.hid (fun w (hP : Pl w l a PP vP) => pl_mul (l := l) (a := a) (t := v_sa) hv_Ay hv_zzb (by rw [he_sa]; exact hv_sa) w hP)
  have C_zza := Lib.hid (fun w (hP : Pl w l a PP vP) => pl_mul (l := l) (a := a) (t := v_zza) hv_za hv_Az (by rw [he_zza]; exact hv_zza) w hP)
  have C_sb := Lib.hid (fun w (hP : Pl w l a PP vP) => pl_mul (l := l) (a := a) (t := v_sb) hv_By hv_zza (by rw [he_sb]; exact hv_sb) w hP)
  have C_h := Lib.hid (fun w (hP : Pl w l a PP vP) => pl_sub (l := l) (a := a) (t := v_h) hv_ub hv_ua (by rw [he_h]; exact hv_h) w hP)
  have C_r := Lib.hid (fun w (hP : Pl w l a PP vP) => pl_sub (l := l) (a := a) (t := v_r) hv_sb hv_sa (by rw [he_r]; exact hv_r) w hP)
  have C_h2 := Lib.hid (fun w (hP : Pl w l a PP vP) => pl_mul (l := l) (a := a) (t := v_h2) hv_h hv_h (by rw [he_h2]; exact hv_h2) w hP)
  have C_h3 := Lib.hid (fun w (hP : Pl w l a PP vP) => pl_mul (l := l) (a := a) (t := v_h3) hv_h2 hv_h (by rw [he_h3]; exact hv_h3) w hP)
  have C_v := Lib.hid (fun w (hP : Pl w l a PP vP) => pl_mul (l := l) (a := a) (t := v_v) hv_ua hv_h2 (by rw [he_v]; exact hv_v) w hP)
  have C_rr := Lib.hid (fun w (hP : Pl w l a PP vP) => pl_mul (l := l) (a := a) (t := v_rr) hv_r hv_r (by rw [he_rr]; exact hv_rr) w hP)
  have C_rh := Lib.hid (fun w (hP : Pl w l a PP vP) => pl_sub (l := l) (a := a) (t := v_rh) hv_rr hv_h3 (by rw [he_rh]; exact hv_rh) w hP)
  have C_vv := Lib.hid (fun w (hP : Pl w l a PP vP) => pl_add (l := l) (a := a) (t := v_vv) hv_v hv_v (by rw [he_vv]; exact hv_vv) w hP)
  have C_x := Lib.hid (fun w (hP : Pl w l a PP vP) => pl_sub (l := l) (a := a) (t := v_x) hv_rh hv_vv (by rw [he_x]; exact hv_x) w hP)
  have C_vx := Lib.hid (fun w (hP : Pl w l a PP vP) => pl_sub (l := l) (a := a) (t := v_vx) hv_v hv_x (by rw [he_vx]; exact hv_vx) w hP)
  have C_rvx := Lib.hid (fun w (hP : Pl w l a PP vP) => pl_mul (l := l) (a := a) (t := v_rvx) hv_r hv_vx (by rw [he_rvx]; exact hv_rvx) w hP)
  have C_sh := Lib.hid (fun w (hP : Pl w l a PP vP) => pl_mul (l := l) (a := a) (t := v_sh) hv_sa hv_h3 (by rw [he_sh]; exact hv_sh) w hP)
  have C_y := Lib.hid (fun w (hP : Pl w l a PP vP) => pl_sub (l := l) (a := a) (t := v_y) hv_rvx hv_sh (by rw [he_y]; exact hv_y) w hP)
  have C_zz := Lib.hid (fun w (hP : Pl w l a PP vP) => pl_mul (l := l) (a := a) (t := v_zz) hv_Az hv_Bz (by rw [he_zz]; exact hv_zz) w hP)
  have C_z := Lib.hid (fun w (hP : Pl w l a PP vP) => pl_mul (l := l) (a := a) (t := v_z) hv_h hv_zz (by rw [he_z]; exact hv_z) w hP)
  have q1 := fun w => pl_eq0 hv_Az false (by simpa using hz) w; have q2 := fun w => pl_eq0 hv_Bz false (by simpa using hy) w
  have Q3 := fun c hc => Lib.hid (fun w => pl_eq0 hv_h c hc w); have Q4 := fun c hc => Lib.hid (fun w => pl_eq0 hv_r c hc w)
  have hr1 : e_h = 0 → e_r = 0 → Zr = jv (jtw p) := fun h1 h2 => by
    rw [← hZr]; unfold jplN
    subst he_z; subst he_zz; subst he_y; subst he_sh; subst he_rvx; subst he_vx; subst he_x; subst he_vv; subst he_rh; subst he_rr; subst he_v; subst he_h3; subst he_h2; subst he_r; subst he_h; subst he_sb; subst he_zza; subst he_sa; subst he_zzb; subst he_ub; subst he_ua; subst he_zb; subst he_za
    rw [if_pos h1, if_pos h2]
  have hr2 : e_h = 0 → ¬ e_r = 0 → Zr = #[.int .u64 0, .int .u64 0, .int .u64 0, .int .u64 0, .int .u64 0, .int .u64 0, .int .u64 0, .int .u64 0, .int .u64 0, .int .u64 0, .int .u64 0, .int .u64 0] := fun h1 h2 => by
    rw [← hZr, ← jv_zero]; unfold jplN
    subst he_z; subst he_zz; subst he_y; subst he_sh; subst he_rvx; subst he_vx; subst he_x; subst he_vv; subst he_rh; subst he_rr; subst he_v; subst he_h3; subst he_h2; subst he_r; subst he_h; subst he_sb; subst he_zza; subst he_sa; subst he_zzb; subst he_ub; subst he_ua; subst he_zb; subst he_za
    rw [if_pos h1, if_neg h2]
  have hr3 : ¬ e_h = 0 → Zr = #[.int .u64 (lm v_x 0 : Nat), .int .u64 (lm v_x 1 : Nat), .int .u64 (lm v_x 2 : Nat), .int .u64 (lm v_x 3 : Nat), .int .u64 (lm v_y 0 : Nat), .int .u64 (lm v_y 1 : Nat), .int .u64 (lm v_y 2 : Nat), .int .u64 (lm v_y 3 : Nat), .int .u64 (lm v_z 0 : Nat), .int .u64 (lm v_z 1 : Nat), .int .u64 (lm v_z 2 : Nat), .int .u64 (lm v_z 3 : Nat)] := fun h1 => by
    have e : jplN p q = ⟨e_x, e_y, e_z⟩ := by
      unfold jplN
      subst he_z; subst he_zz; subst he_y; subst he_sh; subst he_rvx; subst he_vx; subst he_x; subst he_vv; subst he_rh; subst he_rr; subst he_v; subst he_h3; subst he_h2; subst he_r; subst he_h; subst he_sb; subst he_zza; subst he_sa; subst he_zzb; subst he_ub; subst he_ua; subst he_zb; subst he_za
      rw [if_neg h1]
    rw [← hZr, e]; unfold jv
    rw [show (J.mk e_x e_y e_z).x = e_x from rfl, show (J.mk e_x e_y e_z).y = e_y from rfl, show (J.mk e_x e_y e_z).z = e_z from rfl, hv_x, hv_y, hv_z]
  have HR1 := Lib.hid hr1; have HR2 := Lib.hid hr2; have HR3 := Lib.hid hr3; have HQ3 := Lib.hid Q3; have HQ4 := Lib.hid Q4
  clear hr1 hr2 hr3 Q3 Q4
  unfold jv
  rw [hv_Ax, hv_Ay, hv_Az]
  rw [hv_Bx, hv_By, hv_Bz]
  unfold jv at C_tw
  rw [hv_Ax, hv_Ay, hv_Az] at C_tw
  obtain ⟨W0, hW0⟩ : ∃ W0, ((w.alloc (.cells #[.int .u64 (lm Axv 0 : Nat), .int .u64 (lm Axv 1 : Nat), .int .u64 (lm Axv 2 : Nat), .int .u64 (lm Axv 3 : Nat), .int .u64 (lm Ayv 0 : Nat), .int .u64 (lm Ayv 1 : Nat), .int .u64 (lm Ayv 2 : Nat), .int .u64 (lm Ayv 3 : Nat), .int .u64 (lm Azv 0 : Nat), .int .u64 (lm Azv 1 : Nat), .int .u64 (lm Azv 2 : Nat), .int .u64 (lm Azv 3 : Nat)] 66)).alloc (.cells #[.int .u64 (lm Bxv 0 : Nat), .int .u64 (lm Bxv 1 : Nat), .int .u64 (lm Bxv 2 : Nat), .int .u64 (lm Bxv 3 : Nat), .int .u64 (lm Byv 0 : Nat), .int .u64 (lm Byv 1 : Nat), .int .u64 (lm Byv 2 : Nat), .int .u64 (lm Byv 3 : Nat), .int .u64 (lm Bzv 0 : Nat), .int .u64 (lm Bzv 1 : Nat), .int .u64 (lm Bzv 2 : Nat), .int .u64 (lm Bzv 3 : Nat)] 66)).alloc (.cells #[.int .u64 0, .int .u64 0, .int .u64 0, .int .u64 0, .int .u64 0, .int .u64 0, .int .u64 0, .int .u64 0, .int .u64 0, .int .u64 0, .int .u64 0, .int .u64 0] 66) = W0 := ⟨_, rfl⟩
  have hBA : U12 W0 (w.heap.size) 66 Axv Ayv Azv := by rw [← hW0]; exact has_alloc (has_alloc (has_alloc_new _ _))
  have hBB : U12 W0 (w.heap.size + 1) 66 Bxv Byv Bzv := by rw [← hW0]; exact has_alloc (has_alloc_at (by simp))
  have hR : Z12 W0 (w.heap.size + 1 + 1) 66 := by rw [← hW0]; exact has_alloc_at (by simp)
  have hC : Chg [] w W0 := by rw [← hW0]; exact (((Chg.refl _ _).alloc _).alloc _).alloc _
  have hlP : l < w.heap.size := lt_of_has hP.1
  have haP : a < w.heap.size := lt_of_has hP.2
  replace hP := hP.ch hC
  have HP := Lib.hid hP; have HC := Lib.hid hC; have HR := Lib.hid hR
  have HBA := Lib.hid hBA; have HBB := Lib.hid hBB
  clear hP hC hR hBA hBB
  clear hZr he_za hv_za he_zb hv_zb he_ua hv_ua he_ub hv_ub he_zzb hv_zzb he_sa hv_sa he_zza hv_zza he_sb hv_sb he_h hv_h he_r hv_r he_h2 hv_h2 he_h3 hv_h3 he_v hv_v he_rr hv_rr he_rh hv_rh he_vv hv_vv he_x hv_x he_vx hv_vx he_rvx hv_rvx he_sh hv_sh he_y hv_y he_zz hv_zz he_z hv_z hv_Ax hv_Ay hv_Az hv_Bx hv_By hv_Bz hz hy
  have hbA := HBA.out; have hbB := HBB.out
  have Az0 := hbA.cz (k := 0) (by omega); have Bz0 := hbB.cz (k := 0) (by omega); have Az1 := hbA.cz (k := 1) (by omega); have Bz1 := hbB.cz (k := 1) (by omega); have Az2 := hbA.cz (k := 2) (by omega); have Bz2 := hbB.cz (k := 2) (by omega); have Az3 := hbA.cz (k := 3) (by omega); have Bz3 := hbB.cz (k := 3) (by omega)
  clear hbA hbB
  go_enter Try.func33, Try.ntmps33
  go_upto_region 5 with fail
  try rw [hW0]
  clear hW0
  obtain ⟨P, hP⟩ : ∃ P, w.heap.size = P := ⟨_, rfl⟩
  rw [hP] at HBA HBB HR hlP haP ⊢
  obtain ⟨R, hR⟩ : ∃ R, P + 1 + 1 = R := ⟨_, rfl⟩
  rw [hR] at HR ⊢
  have hRP : P < R := by omega
  have hRP2 : P + 1 < R := by omega
  have hPw := hP
  replace hPw := Lib.hid hPw
  have hRR := Lib.hid hR
  clear hR
  clear q1 q2 Az0 Bz0 Az1 Bz1 Az2 Bz2 Az3 Bz3
  have Az0 := (HBA.out).cz (k := 0) (by omega)
  have Az1 := (HBA.out).cz (k := 1) (by omega)
  have Az2 := (HBA.out).cz (k := 2) (by omega)
  have Az3 := (HBA.out).cz (k := 3) (by omega)
  have Bz0 := (HBB.out).cz (k := 0) (by omega)
  have Bz1 := (HBB.out).cz (k := 1) (by omega)
  have Bz2 := (HBB.out).cz (k := 2) (by omega)
  have Bz3 := (HBB.out).cz (k := 3) (by omega)
  have hllR := HR.out.lt
  refine abs_region (B := Chg [] W0) (S := Chg [] W0) (by kernel_rfl) ((Chg.refl _ _).drew) ?_
  have hG := good_chg [] W0
  refine Abs.take_at (i := 0) (d := some 32) (v := ?_) rfl rfl (by kernel_rfl) (by kernel_rfl) (by kernel_rfl) (fun _ _ _ h => h) hG ⟨by rfl, fun w9 hw9 => Or.inl ?_⟩ ?_
  rotate_left
  · go_simp
    try with_reducible rfl
  simp only [Act.put, stA, stB, stC]
  refine Abs.take_at (i := 1) (d := some 33) (v := ?_) rfl rfl (by kernel_rfl) (by kernel_rfl) (by kernel_rfl) (fun _ _ _ h => h) hG ⟨by rfl, fun w9 hw9 => Or.inl ?_⟩ ?_
  rotate_left
  · go_simp
    try with_reducible rfl
  simp only [Act.put, stA, stB, stC]
  refine Abs.take_at (i := 2) (d := some 34) (v := ?_) rfl rfl (by kernel_rfl) (by kernel_rfl) (by kernel_rfl) (fun _ _ _ h => h) hG ⟨by rfl, fun w9 hw9 => Or.inl ?_⟩ ?_
  rotate_left
  · replace Az0 := hw9.cell Az0 nmN; replace Az1 := hw9.cell Az1 nmN; replace Az2 := hw9.cell Az2 nmN; replace Az3 := hw9.cell Az3 nmN
    go_simp
    try with_reducible rfl
  simp only [Act.put, stA, stB, stC]
  refine Abs.take_at (i := 3) (d := some 35) (v := ?_) rfl rfl (by kernel_rfl) (by kernel_rfl) (by kernel_rfl) (fun _ _ _ h => h) hG ⟨by rfl, fun w9 hw9 => Or.inl ?_⟩ ?_
  rotate_left
  · go_simp
    try with_reducible rfl
  simp only [Act.put, stA, stB, stC]
  refine Abs.take_at (i := 4) (d := some 36) (v := ?_) rfl rfl (by kernel_rfl) (by kernel_rfl) (by kernel_rfl) (fun _ _ _ h => h) hG ⟨by rfl, fun w9 hw9 => Or.inl ?_⟩ ?_
  rotate_left
  · replace Az0 := hw9.cell Az0 nmN; replace Az1 := hw9.cell Az1 nmN; replace Az2 := hw9.cell Az2 nmN; replace Az3 := hw9.cell Az3 nmN
    go_simp
    try with_reducible rfl
  simp only [Act.put, stA, stB, stC]
  refine Abs.take_at (i := 5) (d := some 37) (v := _) rfl rfl (by kernel_rfl) (by kernel_rfl) (by kernel_rfl) (fun _ _ _ h => h) hG ⟨by rfl, fun w9 hw9 => Or.inr ⟨_, _, ?_, C_za.out w9 (HP.out.ch hw9)⟩⟩ ?_
  · go_simp
    try with_reducible rfl
  simp only [Act.put, stA, stB, stC]
  refine Abs.take_at (i := 6) (d := some 38) (v := ?_) rfl rfl (by kernel_rfl) (by kernel_rfl) (by kernel_rfl) (fun _ _ _ h => h) hG ⟨by rfl, fun w9 hw9 => Or.inl ?_⟩ ?_
  rotate_left
  · go_simp
    try with_reducible rfl
  simp only [Act.put, stA, stB, stC]
  refine Abs.take_at (i := 7) (d := some 39) (v := ?_) rfl rfl (by kernel_rfl) (by kernel_rfl) (by kernel_rfl) (fun _ _ _ h => h) hG ⟨by rfl, fun w9 hw9 => Or.inl ?_⟩ ?_
  rotate_left
  · go_simp
    try with_reducible rfl
  simp only [Act.put, stA, stB, stC]
  refine Abs.take_at (i := 8) (d := some 40) (v := ?_) rfl rfl (by kernel_rfl) (by kernel_rfl) (by kernel_rfl) (fun _ _ _ h => h) hG ⟨by rfl, fun w9 hw9 => Or.inl ?_⟩ ?_
  rotate_left
  · replace Bz0 := hw9.cell Bz0 nmN; replace Bz1 := hw9.cell Bz1 nmN; replace Bz2 := hw9.cell Bz2 nmN; replace Bz3 := hw9.cell Bz3 nmN
    go_simp
    try with_reducible rfl
  simp only [Act.put, stA, stB, stC]
  refine Abs.take_at (i := 9) (d := some 41) (v := ?_) rfl rfl (by kernel_rfl) (by kernel_rfl) (by kernel_rfl) (fun _ _ _ h => h) hG ⟨by rfl, fun w9 hw9 => Or.inl ?_⟩ ?_
  rotate_left
  · go_simp
    try with_reducible rfl
  simp only [Act.put, stA, stB, stC]
  refine Abs.take_at (i := 10) (d := some 42) (v := ?_) rfl rfl (by kernel_rfl) (by kernel_rfl) (by kernel_rfl) (fun _ _ _ h => h) hG ⟨by rfl, fun w9 hw9 => Or.inl ?_⟩ ?_
  rotate_left
  · replace Bz0 := hw9.cell Bz0 nmN; replace Bz1 := hw9.cell Bz1 nmN; replace Bz2 := hw9.cell Bz2 nmN; replace Bz3 := hw9.cell Bz3 nmN
    go_simp
    try with_reducible rfl
  simp only [Act.put, stA, stB, stC]
  refine Abs.take_at (i := 11) (d := some 43) (v := _) rfl rfl (by kernel_rfl) (by kernel_rfl) (by kernel_rfl) (fun _ _ _ h => h) hG ⟨by rfl, fun w9 hw9 => Or.inr ⟨_, _, ?_, C_zb.out w9 (HP.out.ch hw9)⟩⟩ ?_
  · go_simp
    try with_reducible rfl
  simp only [Act.put, stA, stB, stC]
  refine Abs.alloc4two (i := 12) (j := 13) (di := 7) (dj := 8) (t := 24) (X := []) (W := W0) rfl rfl rfl rfl (by decide) (by decide) (by kernel_rfl) (by kernel_rfl) (by kernel_rfl) rfl rfl rfl rfl hG (fun _ h => h) (fun w9 => ?_) (fun b_za b_zb hb_za hb_zb hneb_za hG => ?_)
  · go_simp
    try with_reducible rfl
  simp only [Act.put, stA, stB, stC]
  refine Abs.store4 (i := 14) (b := b_za) (ds := #[.int .u64 (lm v_za 0 : Nat), .int .u64 (lm v_za 1 : Nat), .int .u64 (lm v_za 2 : Nat), .int .u64 (lm v_za 3 : Nat)]) rfl (by kernel_rfl) (by rfl) (fun w9 => (((w9.setCell ⟨b_za, 0, none⟩ (.int .u64 (lm v_za 0 : Nat))).setCell ⟨b_za, 1, none⟩ (.int .u64 (lm v_za 1 : Nat))).setCell ⟨b_za, 2, none⟩ (.int .u64 (lm v_za 2 : Nat))).setCell ⟨b_za, 3, none⟩ (.int .u64 (lm v_za 3 : Nat))) (fun w9 h9 => ⟨?_, ?_, ?_⟩) (fun _ _ h k => ⟨Chg.keeps (Or.inr hb_za) h.1 k, k.has h.2 (by simpa using Ne.symm hneb_za)⟩) (good_at [] W0 _ _) (fun hG => ?_)
  · have n0 := cell_of_has h9 0; have n1 := cell_of_has h9 1; have n2 := cell_of_has h9 2; have n3 := cell_of_has h9 3
    simp only [glA, glB, glC] at n0 n1 n2 n3
    have z0 := frozen_of_has h9 0; have z1 := frozen_of_has h9 1; have z2 := frozen_of_has h9 2; have z3 := frozen_of_has h9 3
    clear h9
    go_simp
    try with_reducible rfl
  · exact U4.put_x (x := fun _ => 0) h9 v_za
  · exact Chg.put_x (Chg.refl _ _) (Or.inl (by simp)) v_za
  refine Abs.at_put (d := none) rfl ?_
  simp only [Act.put, stA, stB, stC]
  refine Abs.weaken (S' := fun w => (Chg [] W0 w ∧ w.heap[b_za]? = some (.cells #[.int .u64 (lm v_za 0 : Nat), .int .u64 (lm v_za 1 : Nat), .int .u64 (lm v_za 2 : Nat), .int .u64 (lm v_za 3 : Nat)] 24 (0, 0))) ∧ w.heap[b_zb]? = some (.cells #[.int .u64 0, .int .u64 0, .int .u64 0, .int .u64 0] 24 (0, 0))) (fun _ h => ⟨⟨h.1.1, h.2⟩, h.1.2⟩) ?_
  refine Abs.store4 (i := 15) (b := b_zb) (ds := #[.int .u64 (lm v_zb 0 : Nat), .int .u64 (lm v_zb 1 : Nat), .int .u64 (lm v_zb 2 : Nat), .int .u64 (lm v_zb 3 : Nat)]) rfl (by kernel_rfl) (by rfl) (fun w9 => (((w9.setCell ⟨b_zb, 0, none⟩ (.int .u64 (lm v_zb 0 : Nat))).setCell ⟨b_zb, 1, none⟩ (.int .u64 (lm v_zb 1 : Nat))).setCell ⟨b_zb, 2, none⟩ (.int .u64 (lm v_zb 2 : Nat))).setCell ⟨b_zb, 3, none⟩ (.int .u64 (lm v_zb 3 : Nat))) (fun w9 h9 => ⟨?_, ?_, ?_⟩) (fun _ _ h k => ⟨Chg.keeps (Or.inr hb_zb) h.1 k, k.has h.2 (by simpa using hneb_za)⟩) (good_at [] W0 _ _) (fun hG => ?_)
  · have n0 := cell_of_has h9 0; have n1 := cell_of_has h9 1; have n2 := cell_of_has h9 2; have n3 := cell_of_has h9 3
    simp only [glA, glB, glC] at n0 n1 n2 n3
    have z0 := frozen_of_has h9 0; have z1 := frozen_of_has h9 1; have z2 := frozen_of_has h9 2; have z3 := frozen_of_has h9 3
    clear h9
    go_simp
    try with_reducible rfl
  · exact U4.put_x (x := fun _ => 0) h9 v_zb
  · exact Chg.put_x (Chg.refl _ _) (Or.inl (by simp)) v_zb
  refine Abs.at_put (d := none) rfl ?_
  simp only [Act.put, stA, stB, stC]
  refine Abs.done (by kernel_rfl) (fun wx hx => NoPanic.normal ?_) _
  clear hllR Az0 Az1 Az2 Az3 Bz0 Bz1 Bz2 Bz3
  obtain ⟨⟨hA, hN1⟩, hN2⟩ := hx
  have l_za : R < b_za := Nat.lt_of_lt_of_le HR.out.lt hb_za
  have l_zb : R < b_zb := Nat.lt_of_lt_of_le HR.out.lt hb_zb
  have hN1 : U4 wx b_za 24 (lm v_za) := hN1
  have hN2 : U4 wx b_zb 24 (lm v_zb) := hN2
  replace HP := Lib.hid (HP.out.ch hA)
  replace HBA := Lib.hid (HBA.out.chg hA nmN)
  replace HBB := Lib.hid (HBB.out.chg hA nmN)
  replace HR := Lib.hid (HR.out.chg hA nmN)
  replace HC := Lib.hid (HC.out.trans hA)
  have H_za := Lib.hid hN1; have H_zb := Lib.hid hN2
  clear hA hN1 hN2 hb_za hb_zb
  go_upto_region 6 with fail
  have Ax0 := (HBA.out).cx (k := 0) (by omega)
  have Ax1 := (HBA.out).cx (k := 1) (by omega)
  have Ax2 := (HBA.out).cx (k := 2) (by omega)
  have Ax3 := (HBA.out).cx (k := 3) (by omega)
  obtain ⟨v_zb_0, v_zb_1, v_zb_2, v_zb_3⟩ := four4 fun _ => (H_zb.out).cell
  have Bx0 := (HBB.out).cx (k := 0) (by omega)
  have Bx1 := (HBB.out).cx (k := 1) (by omega)
  have Bx2 := (HBB.out).cx (k := 2) (by omega)
  have Bx3 := (HBB.out).cx (k := 3) (by omega)
  obtain ⟨v_za_0, v_za_1, v_za_2, v_za_3⟩ := four4 fun _ => (H_za.out).cell
  have hllR := HR.out.lt
  refine abs_region (B := Chg [] wx) (S := Chg [] wx) (by kernel_rfl) ((Chg.refl _ _).drew) ?_
  have hG := good_chg [] wx
  refine Abs.take_at (i := 0) (d := some 44) (v := ?_) rfl rfl (by kernel_rfl) (by kernel_rfl) (by kernel_rfl) (fun _ _ _ h => h) hG ⟨by rfl, fun w9 hw9 => Or.inl ?_⟩ ?_
  rotate_left
  · go_simp
    try with_reducible rfl
  simp only [Act.put, stA, stB, stC]
  refine Abs.take_at (i := 1) (d := some 45) (v := ?_) rfl rfl (by kernel_rfl) (by kernel_rfl) (by kernel_rfl) (fun _ _ _ h => h) hG ⟨by rfl, fun w9 hw9 => Or.inl ?_⟩ ?_
  rotate_left
  · go_simp
    try with_reducible rfl
  simp only [Act.put, stA, stB, stC]
  refine Abs.take_at (i := 2) (d := some 46) (v := ?_) rfl rfl (by kernel_rfl) (by kernel_rfl) (by kernel_rfl) (fun _ _ _ h => h) hG ⟨by rfl, fun w9 hw9 => Or.inl ?_⟩ ?_
  rotate_left
  · replace Ax0 := hw9.cell Ax0 nmN; replace Ax1 := hw9.cell Ax1 nmN; replace Ax2 := hw9.cell Ax2 nmN; replace Ax3 := hw9.cell Ax3 nmN
    go_simp
    try with_reducible rfl
  simp only [Act.put, stA, stB, stC]
  refine Abs.take_at (i := 3) (d := some 47) (v := ?_) rfl rfl (by kernel_rfl) (by kernel_rfl) (by kernel_rfl) (fun _ _ _ h => h) hG ⟨by rfl, fun w9 hw9 => Or.inl ?_⟩ ?_
  rotate_left
  · replace v_zb_0 := hw9.cell v_zb_0 nmN; replace v_zb_1 := hw9.cell v_zb_1 nmN; replace v_zb_2 := hw9.cell v_zb_2 nmN; replace v_zb_3 := hw9.cell v_zb_3 nmN
    go_simp
    try with_reducible rfl
  simp only [Act.put, stA, stB, stC]
  refine Abs.take_at (i := 4) (d := some 48) (v := _) rfl rfl (by kernel_rfl) (by kernel_rfl) (by kernel_rfl) (fun _ _ _ h => h) hG ⟨by rfl, fun w9 hw9 => Or.inr ⟨_, _, ?_, C_ua.out w9 (HP.out.ch hw9)⟩⟩ ?_
  · go_simp
    try with_reducible rfl
  simp only [Act.put, stA, stB, stC]
  refine Abs.take_at (i := 5) (d := some 49) (v := ?_) rfl rfl (by kernel_rfl) (by kernel_rfl) (by kernel_rfl) (fun _ _ _ h => h) hG ⟨by rfl, fun w9 hw9 => Or.inl ?_⟩ ?_
  rotate_left
  · go_simp
    try with_reducible rfl
  simp only [Act.put, stA, stB, stC]
  refine Abs.take_at (i := 6) (d := some 50) (v := ?_) rfl rfl (by kernel_rfl) (by kernel_rfl) (by kernel_rfl) (fun _ _ _ h => h) hG ⟨by rfl, fun w9 hw9 => Or.inl ?_⟩ ?_
  rotate_left
  · go_simp
    try with_reducible rfl
  simp only [Act.put, stA, stB, stC]
  refine Abs.take_at (i := 7) (d := some 51) (v := ?_) rfl rfl (by kernel_rfl) (by kernel_rfl) (by kernel_rfl) (fun _ _ _ h => h) hG ⟨by rfl, fun w9 hw9 => Or.inl ?_⟩ ?_
  rotate_left
  · replace Bx0 := hw9.cell Bx0 nmN; replace Bx1 := hw9.cell Bx1 nmN; replace Bx2 := hw9.cell Bx2 nmN; replace Bx3 := hw9.cell Bx3 nmN
    go_simp
    try with_reducible rfl
  simp only [Act.put, stA, stB, stC]
  refine Abs.take_at (i := 8) (d := some 52) (v := ?_) rfl rfl (by kernel_rfl) (by kernel_rfl) (by kernel_rfl) (fun _ _ _ h => h) hG ⟨by rfl, fun w9 hw9 => Or.inl ?_⟩ ?_
  rotate_left
  · replace v_za_0 := hw9.cell v_za_0 nmN; replace v_za_1 := hw9.cell v_za_1 nmN; replace v_za_2 := hw9.cell v_za_2 nmN; replace v_za_3 := hw9.cell v_za_3 nmN
    go_simp
    try with_reducible rfl
  simp only [Act.put, stA, stB, stC]
  refine Abs.take_at (i := 9) (d := some 53) (v := _) rfl rfl (by kernel_rfl) (by kernel_rfl) (by kernel_rfl) (fun _ _ _ h => h) hG ⟨by rfl, fun w9 hw9 => Or.inr ⟨_, _, ?_, C_ub.out w9 (HP.out.ch hw9)⟩⟩ ?_
  · go_simp
    try with_reducible rfl
  simp only [Act.put, stA, stB, stC]
  refine Abs.alloc4two (i := 10) (j := 11) (di := 9) (dj := 10) (t := 24) (X := []) (W := wx) rfl rfl rfl rfl (by decide) (by decide) (by kernel_rfl) (by kernel_rfl) (by kernel_rfl) rfl rfl rfl rfl hG (fun _ h => h) (fun w9 => ?_) (fun b_ua b_ub hb_ua hb_ub hneb_ua hG => ?_)
  · go_simp
    try with_reducible rfl
  simp only [Act.put, stA, stB, stC]
  refine Abs.store4 (i := 12) (b := b_ua) (ds := #[.int .u64 (lm v_ua 0 : Nat), .int .u64 (lm v_ua 1 : Nat), .int .u64 (lm v_ua 2 : Nat), .int .u64 (lm v_ua 3 : Nat)]) rfl (by kernel_rfl) (by rfl) (fun w9 => (((w9.setCell ⟨b_ua, 0, none⟩ (.int .u64 (lm v_ua 0 : Nat))).setCell ⟨b_ua, 1, none⟩ (.int .u64 (lm v_ua 1 : Nat))).setCell ⟨b_ua, 2, none⟩ (.int .u64 (lm v_ua 2 : Nat))).setCell ⟨b_ua, 3, none⟩ (.int .u64 (lm v_ua 3 : Nat))) (fun w9 h9 => ⟨?_, ?_, ?_⟩) (fun _ _ h k => ⟨Chg.keeps (Or.inr hb_ua) h.1 k, k.has h.2 (by simpa using Ne.symm hneb_ua)⟩) (good_at [] wx _ _) (fun hG => ?_)
  · have n0 := cell_of_has h9 0; have n1 := cell_of_has h9 1; have n2 := cell_of_has h9 2; have n3 := cell_of_has h9 3
    simp only [glA, glB, glC] at n0 n1 n2 n3
    have z0 := frozen_of_has h9 0; have z1 := frozen_of_has h9 1; have z2 := frozen_of_has h9 2; have z3 := frozen_of_has h9 3
    clear h9
    go_simp
    try with_reducible rfl
  · exact U4.put_x (x := fun _ => 0) h9 v_ua
  · exact Chg.put_x (Chg.refl _ _) (Or.inl (by simp)) v_ua
  refine Abs.at_put (d := none) rfl ?_
  simp only [Act.put, stA, stB, stC]
  refine Abs.weaken (S' := fun w => (Chg [] wx w ∧ w.heap[b_ua]? = some (.cells #[.int .u64 (lm v_ua 0 : Nat), .int .u64 (lm v_ua 1 : Nat), .int .u64 (lm v_ua 2 : Nat), .int .u64 (lm v_ua 3 : Nat)] 24 (0, 0))) ∧ w.heap[b_ub]? = some (.cells #[.int .u64 0, .int .u64 0, .int .u64 0, .int .u64 0] 24 (0, 0))) (fun _ h => ⟨⟨h.1.1, h.2⟩, h.1.2⟩) ?_
  refine Abs.store4 (i := 13) (b := b_ub) (ds := #[.int .u64 (lm v_ub 0 : Nat), .int .u64 (lm v_ub 1 : Nat), .int .u64 (lm v_ub 2 : Nat), .int .u64 (lm v_ub 3 : Nat)]) rfl (by kernel_rfl) (by rfl) (fun w9 => (((w9.setCell ⟨b_ub, 0, none⟩ (.int .u64 (lm v_ub 0 : Nat))).setCell ⟨b_ub, 1, none⟩ (.int .u64 (lm v_ub 1 : Nat))).setCell ⟨b_ub, 2, none⟩ (.int .u64 (lm v_ub 2 : Nat))).setCell ⟨b_ub, 3, none⟩ (.int .u64 (lm v_ub 3 : Nat))) (fun w9 h9 => ⟨?_, ?_, ?_⟩) (fun _ _ h k => ⟨Chg.keeps (Or.inr hb_ub) h.1 k, k.has h.2 (by simpa using hneb_ua)⟩) (good_at [] wx _ _) (fun hG => ?_)
  · have n0 := cell_of_has h9 0; have n1 := cell_of_has h9 1; have n2 := cell_of_has h9 2; have n3 := cell_of_has h9 3
    simp only [glA, glB, glC] at n0 n1 n2 n3
    have z0 := frozen_of_has h9 0; have z1 := frozen_of_has h9 1; have z2 := frozen_of_has h9 2; have z3 := frozen_of_has h9 3
    clear h9
    go_simp
    try with_reducible rfl
  · exact U4.put_x (x := fun _ => 0) h9 v_ub
  · exact Chg.put_x (Chg.refl _ _) (Or.inl (by simp)) v_ub
  refine Abs.at_put (d := none) rfl ?_
  simp only [Act.put, stA, stB, stC]
  refine Abs.done (by kernel_rfl) (fun wx hx => NoPanic.normal ?_) _
  clear hllR Ax0 Ax1 Ax2 Ax3 v_zb_0 v_zb_1 v_zb_2 v_zb_3 Bx0 Bx1 Bx2 Bx3 v_za_0 v_za_1 v_za_2 v_za_3
  obtain ⟨⟨hA, hN1⟩, hN2⟩ := hx
  have l_ua : b_za < b_ua := Nat.lt_of_lt_of_le H_za.out.lt hb_ua
  have l_ub : b_za < b_ub := Nat.lt_of_lt_of_le H_za.out.lt hb_ub
  have hN1 : U4 wx b_ua 24 (lm v_ua) := hN1
  have hN2 : U4 wx b_ub 24 (lm v_ub) := hN2
  replace HP := Lib.hid (HP.out.ch hA)
  replace HBA := Lib.hid (HBA.out.chg hA nmN)
  replace HBB := Lib.hid (HBB.out.chg hA nmN)
  replace HR := Lib.hid (HR.out.chg hA nmN)
  replace H_za := Lib.hid (H_za.out.chg hA nmN)
  replace H_zb := Lib.hid (H_zb.out.chg hA nmN)
  replace HC := Lib.hid (HC.out.trans hA)
  have H_ua := Lib.hid hN1; have H_ub := Lib.hid hN2
  clear hA hN1 hN2 hb_ua hb_ub
  go_upto_region 7 with fail
  have Ay0 := (HBA.out).cy (k := 0) (by omega)
  have Ay1 := (HBA.out).cy (k := 1) (by omega)
  have Ay2 := (HBA.out).cy (k := 2) (by omega)
  have Ay3 := (HBA.out).cy (k := 3) (by omega)
  obtain ⟨v_zb_0, v_zb_1, v_zb_2, v_zb_3⟩ := four4 fun _ => (H_zb.out).cell
  have Bz0 := (HBB.out).cz (k := 0) (by omega)
  have Bz1 := (HBB.out).cz (k := 1) (by omega)
  have Bz2 := (HBB.out).cz (k := 2) (by omega)
  have Bz3 := (HBB.out).cz (k := 3) (by omega)
  have By0 := (HBB.out).cy (k := 0) (by omega)
  have By1 := (HBB.out).cy (k := 1) (by omega)
  have By2 := (HBB.out).cy (k := 2) (by omega)
  have By3 := (HBB.out).cy (k := 3) (by omega)
  obtain ⟨v_za_0, v_za_1, v_za_2, v_za_3⟩ := four4 fun _ => (H_za.out).cell
  have Az0 := (HBA.out).cz (k := 0) (by omega)
  have Az1 := (HBA.out).cz (k := 1) (by omega)
  have Az2 := (HBA.out).cz (k := 2) (by omega)
  have Az3 := (HBA.out).cz (k := 3) (by omega)
  have hllR := HR.out.lt
  refine abs_region (B := Chg [] wx) (S := Chg [] wx) (by kernel_rfl) ((Chg.refl _ _).drew) ?_
  have hG := good_chg [] wx
  refine Abs.take_at (i := 0) (d := some 54) (v := ?_) rfl rfl (by kernel_rfl) (by kernel_rfl) (by kernel_rfl) (fun _ _ _ h => h) hG ⟨by rfl, fun w9 hw9 => Or.inl ?_⟩ ?_
  rotate_left
  · go_simp
    try with_reducible rfl
  simp only [Act.put, stA, stB, stC]
  refine Abs.take_at (i := 1) (d := some 55) (v := ?_) rfl rfl (by kernel_rfl) (by kernel_rfl) (by kernel_rfl) (fun _ _ _ h => h) hG ⟨by rfl, fun w9 hw9 => Or.inl ?_⟩ ?_
  rotate_left
  · go_simp
    try with_reducible rfl
  simp only [Act.put, stA, stB, stC]
  refine Abs.take_at (i := 2) (d := some 56) (v := ?_) rfl rfl (by kernel_rfl) (by kernel_rfl) (by kernel_rfl) (fun _ _ _ h => h) hG ⟨by rfl, fun w9 hw9 => Or.inl ?_⟩ ?_
  rotate_left
  · replace Ay0 := hw9.cell Ay0 nmN; replace Ay1 := hw9.cell Ay1 nmN; replace Ay2 := hw9.cell Ay2 nmN; replace Ay3 := hw9.cell Ay3 nmN
    go_simp
    try with_reducible rfl
  simp only [Act.put, stA, stB, stC]
  refine Abs.take_at (i := 3) (d := some 57) (v := ?_) rfl rfl (by kernel_rfl) (by kernel_rfl) (by kernel_rfl) (fun _ _ _ h => h) hG ⟨by rfl, fun w9 hw9 => Or.inl ?_⟩ ?_
  rotate_left
  · go_simp
    try with_reducible rfl
  simp only [Act.put, stA, stB, stC]
  refine Abs.take_at (i := 4) (d := some 58) (v := ?_) rfl rfl (by kernel_rfl) (by kernel_rfl) (by kernel_rfl) (fun _ _ _ h => h) hG ⟨by rfl, fun w9 hw9 => Or.inl ?_⟩ ?_
  rotate_left
  · replace v_zb_0 := hw9.cell v_zb_0 nmN; replace v_zb_1 := hw9.cell v_zb_1 nmN; replace v_zb_2 := hw9.cell v_zb_2 nmN; replace v_zb_3 := hw9.cell v_zb_3 nmN
    go_simp
    try with_reducible rfl
  simp only [Act.put, stA, stB, stC]
  refine Abs.take_at (i := 5) (d := some 59) (v := ?_) rfl rfl (by kernel_rfl) (by kernel_rfl) (by kernel_rfl) (fun _ _ _ h => h) hG ⟨by rfl, fun w9 hw9 => Or.inl ?_⟩ ?_
  rotate_left
  · go_simp
    try with_reducible rfl
  simp only [Act.put, stA, stB, stC]
  refine Abs.take_at (i := 6) (d := some 60) (v := ?_) rfl rfl (by kernel_rfl) (by kernel_rfl) (by kernel_rfl) (fun _ _ _ h => h) hG ⟨by rfl, fun w9 hw9 => Or.inl ?_⟩ ?_
  rotate_left
  · replace Bz0 := hw9.cell Bz0 nmN; replace Bz1 := hw9.cell Bz1 nmN; replace Bz2 := hw9.cell Bz2 nmN; replace Bz3 := hw9.cell Bz3 nmN
    go_simp
    try with_reducible rfl
  simp only [Act.put, stA, stB, stC]
  refine Abs.take_at (i := 7) (d := some 61) (v := _) rfl rfl (by kernel_rfl) (by kernel_rfl) (by kernel_rfl) (fun _ _ _ h => h) hG ⟨by rfl, fun w9 hw9 => Or.inr ⟨_, _, ?_, C_zzb.out w9 (HP.out.ch hw9)⟩⟩ ?_
  · go_simp
    try with_reducible rfl
  simp only [Act.put, stA, stB, stC]
  refine Abs.take_at (i := 8) (d := some 62) (v := _) rfl rfl (by kernel_rfl) (by kernel_rfl) (by kernel_rfl) (fun _ _ _ h => h) hG ⟨by rfl, fun w9 hw9 => Or.inr ⟨_, _, ?_, C_sa.out w9 (HP.out.ch hw9)⟩⟩ ?_
  · go_simp
    try with_reducible rfl
  simp only [Act.put, stA, stB, stC]
  refine Abs.take_at (i := 9) (d := some 63) (v := ?_) rfl rfl (by kernel_rfl) (by kernel_rfl) (by kernel_rfl) (fun _ _ _ h => h) hG ⟨by rfl, fun w9 hw9 => Or.inl ?_⟩ ?_
  rotate_left
  · go_simp
    try with_reducible rfl
  simp only [Act.put, stA, stB, stC]
  refine Abs.take_at (i := 10) (d := some 64) (v := ?_) rfl rfl (by kernel_rfl) (by kernel_rfl) (by kernel_rfl) (fun _ _ _ h => h) hG ⟨by rfl, fun w9 hw9 => Or.inl ?_⟩ ?_
  rotate_left
  · go_simp
    try with_reducible rfl
  simp only [Act.put, stA, stB, stC]
  refine Abs.take_at (i := 11) (d := some 65) (v := ?_) rfl rfl (by kernel_rfl) (by kernel_rfl) (by kernel_rfl) (fun _ _ _ h => h) hG ⟨by rfl, fun w9 hw9 => Or.inl ?_⟩ ?_
  rotate_left
  · replace By0 := hw9.cell By0 nmN; replace By1 := hw9.cell By1 nmN; replace By2 := hw9.cell By2 nmN; replace By3 := hw9.cell By3 nmN
    go_simp
    try with_reducible rfl
  simp only [Act.put, stA, stB, stC]
  refine Abs.take_at (i := 12) (d := some 66) (v := ?_) rfl rfl (by kernel_rfl) (by kernel_rfl) (by kernel_rfl) (fun _ _ _ h => h) hG ⟨by rfl, fun w9 hw9 => Or.inl ?_⟩ ?_
  rotate_left
  · go_simp
    try with_reducible rfl
  simp only [Act.put, stA, stB, stC]
  refine Abs.take_at (i := 13) (d := some 67) (v := ?_) rfl rfl (by kernel_rfl) (by kernel_rfl) (by kernel_rfl) (fun _ _ _ h => h) hG ⟨by rfl, fun w9 hw9 => Or.inl ?_⟩ ?_
  rotate_left
  · replace v_za_0 := hw9.cell v_za_0 nmN; replace v_za_1 := hw9.cell v_za_1 nmN; replace v_za_2 := hw9.cell v_za_2 nmN; replace v_za_3 := hw9.cell v_za_3 nmN
    go_simp
    try with_reducible rfl
  simp only [Act.put, stA, stB, stC]
  refine Abs.take_at (i := 14) (d := some 68) (v := ?_) rfl rfl (by kernel_rfl) (by kernel_rfl) (by kernel_rfl) (fun _ _ _ h => h) hG ⟨by rfl, fun w9 hw9 => Or.inl ?_⟩ ?_
  rotate_left
  · go_simp
    try with_reducible rfl
  simp only [Act.put, stA, stB, stC]
  refine Abs.take_at (i := 15) (d := some 69) (v := ?_) rfl rfl (by kernel_rfl) (by kernel_rfl) (by kernel_rfl) (fun _ _ _ h => h) hG ⟨by rfl, fun w9 hw9 => Or.inl ?_⟩ ?_
  rotate_left
  · replace Az0 := hw9.cell Az0 nmN; replace Az1 := hw9.cell Az1 nmN; replace Az2 := hw9.cell Az2 nmN; replace Az3 := hw9.cell Az3 nmN
    go_simp
    try with_reducible rfl
  simp only [Act.put, stA, stB, stC]
  refine Abs.take_at (i := 16) (d := some 70) (v := _) rfl rfl (by kernel_rfl) (by kernel_rfl) (by kernel_rfl) (fun _ _ _ h => h) hG ⟨by rfl, fun w9 hw9 => Or.inr ⟨_, _, ?_, C_zza.out w9 (HP.out.ch hw9)⟩⟩ ?_
  · go_simp
    try with_reducible rfl
  simp only [Act.put, stA, stB, stC]
  refine Abs.take_at (i := 17) (d := some 71) (v := _) rfl rfl (by kernel_rfl) (by kernel_rfl) (by kernel_rfl) (fun _ _ _ h => h) hG ⟨by rfl, fun w9 hw9 => Or.inr ⟨_, _, ?_, C_sb.out w9 (HP.out.ch hw9)⟩⟩ ?_
  · go_simp
    try with_reducible rfl
  simp only [Act.put, stA, stB, stC]
  refine Abs.alloc4two (i := 18) (j := 19) (di := 11) (dj := 12) (t := 24) (X := []) (W := wx) rfl rfl rfl rfl (by decide) (by decide) (by kernel_rfl) (by kernel_rfl) (by kernel_rfl) rfl rfl rfl rfl hG (fun _ h => h) (fun w9 => ?_) (fun b_sa b_sb hb_sa hb_sb hneb_sa hG => ?_)
  · go_simp
    try with_reducible rfl
  simp only [Act.put, stA, stB, stC]
  refine Abs.store4 (i := 20) (b := b_sa) (ds := #[.int .u64 (lm v_sa 0 : Nat), .int .u64 (lm v_sa 1 : Nat), .int .u64 (lm v_sa 2 : Nat), .int .u64 (lm v_sa 3 : Nat)]) rfl (by kernel_rfl) (by rfl) (fun w9 => (((w9.setCell ⟨b_sa, 0, none⟩ (.int .u64 (lm v_sa 0 : Nat))).setCell ⟨b_sa, 1, none⟩ (.int .u64 (lm v_sa 1 : Nat))).setCell ⟨b_sa, 2, none⟩ (.int .u64 (lm v_sa 2 : Nat))).setCell ⟨b_sa, 3, none⟩ (.int .u64 (lm v_sa 3 : Nat))) (fun w9 h9 => ⟨?_, ?_, ?_⟩) (fun _ _ h k => ⟨Chg.keeps (Or.inr hb_sa) h.1 k, k.has h.2 (by simpa using Ne.symm hneb_sa)⟩) (good_at [] wx _ _) (fun hG => ?_)
  · have n0 := cell_of_has h9 0; have n1 := cell_of_has h9 1; have n2 := cell_of_has h9 2; have n3 := cell_of_has h9 3
    simp only [glA, glB, glC] at n0 n1 n2 n3
    have z0 := frozen_of_has h9 0; have z1 := frozen_of_has h9 1; have z2 := frozen_of_has h9 2; have z3 := frozen_of_has h9 3
    clear h9
    go_simp
    try with_reducible rfl
  · exact U4.put_x (x := fun _ => 0) h9 v_sa
  · exact Chg.put_x (Chg.refl _ _) (Or.inl (by simp)) v_sa
  refine Abs.at_put (d := none) rfl ?_
  simp only [Act.put, stA, stB, stC]
  refine Abs.weaken (S' := fun w => (Chg [] wx w ∧ w.heap[b_sa]? = some (.cells #[.int .u64 (lm v_sa 0 : Nat), .int .u64 (lm v_sa 1 : Nat), .int .u64 (lm v_sa 2 : Nat), .int .u64 (lm v_sa 3 : Nat)] 24 (0, 0))) ∧ w.heap[b_sb]? = some (.cells #[.int .u64 0, .int .u64 0, .int .u64 0, .int .u64 0] 24 (0, 0))) (fun _ h => ⟨⟨h.1.1, h.2⟩, h.1.2⟩) ?_
  refine Abs.store4 (i := 21) (b := b_sb) (ds := #[.int .u64 (lm v_sb 0 : Nat), .int .u64 (lm v_sb 1 : Nat), .int .u64 (lm v_sb 2 : Nat), .int .u64 (lm v_sb 3 : Nat)]) rfl (by kernel_rfl) (by rfl) (fun w9 => (((w9.setCell ⟨b_sb, 0, none⟩ (.int .u64 (lm v_sb 0 : Nat))).setCell ⟨b_sb, 1, none⟩ (.int .u64 (lm v_sb 1 : Nat))).setCell ⟨b_sb, 2, none⟩ (.int .u64 (lm v_sb 2 : Nat))).setCell ⟨b_sb, 3, none⟩ (.int .u64 (lm v_sb 3 : Nat))) (fun w9 h9 => ⟨?_, ?_, ?_⟩) (fun _ _ h k => ⟨Chg.keeps (Or.inr hb_sb) h.1 k, k.has h.2 (by simpa using hneb_sa)⟩) (good_at [] wx _ _) (fun hG => ?_)
  · have n0 := cell_of_has h9 0; have n1 := cell_of_has h9 1; have n2 := cell_of_has h9 2; have n3 := cell_of_has h9 3
    simp only [glA, glB, glC] at n0 n1 n2 n3
    have z0 := frozen_of_has h9 0; have z1 := frozen_of_has h9 1; have z2 := frozen_of_has h9 2; have z3 := frozen_of_has h9 3
    clear h9
    go_simp
    try with_reducible rfl
  · exact U4.put_x (x := fun _ => 0) h9 v_sb
  · exact Chg.put_x (Chg.refl _ _) (Or.inl (by simp)) v_sb
  refine Abs.at_put (d := none) rfl ?_
  simp only [Act.put, stA, stB, stC]
  refine Abs.done (by kernel_rfl) (fun wx hx => NoPanic.normal ?_) _
  clear hllR Ay0 Ay1 Ay2 Ay3 v_zb_0 v_zb_1 v_zb_2 v_zb_3 Bz0 Bz1 Bz2 Bz3 By0 By1 By2 By3 v_za_0 v_za_1 v_za_2 v_za_3 Az0 Az1 Az2 Az3
  obtain ⟨⟨hA, hN1⟩, hN2⟩ := hx
  have l_sa : b_ua < b_sa := Nat.lt_of_lt_of_le H_ua.out.lt hb_sa
  have l_sb : b_ua < b_sb := Nat.lt_of_lt_of_le H_ua.out.lt hb_sb
  have hN1 : U4 wx b_sa 24 (lm v_sa) := hN1
  have hN2 : U4 wx b_sb 24 (lm v_sb) := hN2
  replace HP := Lib.hid (HP.out.ch hA)
  replace HBA := Lib.hid (HBA.out.chg hA nmN)
  replace HBB := Lib.hid (HBB.out.chg hA nmN)
  replace HR := Lib.hid (HR.out.chg hA nmN)
  replace H_za := Lib.hid (H_za.out.chg hA nmN)
  replace H_zb := Lib.hid (H_zb.out.chg hA nmN)
  replace H_ua := Lib.hid (H_ua.out.chg hA nmN)
  replace H_ub := Lib.hid (H_ub.out.chg hA nmN)
  replace HC := Lib.hid (HC.out.trans hA)
  have H_sa := Lib.hid hN1; have H_sb := Lib.hid hN2
  clear hA hN1 hN2 hb_sa hb_sb
  go_upto_region 8 with fail
  obtain ⟨v_ub_0, v_ub_1, v_ub_2, v_ub_3⟩ := four4 fun _ => (H_ub.out).cell
  obtain ⟨v_ua_0, v_ua_1, v_ua_2, v_ua_3⟩ := four4 fun _ => (H_ua.out).cell
  obtain ⟨v_sb_0, v_sb_1, v_sb_2, v_sb_3⟩ := four4 fun _ => (H_sb.out).cell
  obtain ⟨v_sa_0, v_sa_1, v_sa_2, v_sa_3⟩ := four4 fun _ => (H_sa.out).cell
  have hllR := HR.out.lt
  refine abs_region (B := Chg [] wx) (S := Chg [] wx) (by kernel_rfl) ((Chg.refl _ _).drew) ?_
  have hG := good_chg [] wx
  refine Abs.take_at (i := 0) (d := some 72) (v := ?_) rfl rfl (by kernel_rfl) (by kernel_rfl) (by kernel_rfl) (fun _ _ _ h => h) hG ⟨by rfl, fun w9 hw9 => Or.inl ?_⟩ ?_
  rotate_left
  · go_simp
    try with_reducible rfl
  simp only [Act.put, stA, stB, stC]
  refine Abs.take_at (i := 1) (d := some 73) (v := ?_) rfl rfl (by kernel_rfl) (by kernel_rfl) (by kernel_rfl) (fun _ _ _ h => h) hG ⟨by rfl, fun w9 hw9 => Or.inl ?_⟩ ?_
  rotate_left
  · replace v_ub_0 := hw9.cell v_ub_0 nmN; replace v_ub_1 := hw9.cell v_ub_1 nmN; replace v_ub_2 := hw9.cell v_ub_2 nmN; replace v_ub_3 := hw9.cell v_ub_3 nmN
    go_simp
    try with_reducible rfl
  simp only [Act.put, stA, stB, stC]
  refine Abs.take_at (i := 2) (d := some 74) (v := ?_) rfl rfl (by kernel_rfl) (by kernel_rfl) (by kernel_rfl) (fun _ _ _ h => h) hG ⟨by rfl, fun w9 hw9 => Or.inl ?_⟩ ?_
  rotate_left
  · replace v_ua_0 := hw9.cell v_ua_0 nmN; replace v_ua_1 := hw9.cell v_ua_1 nmN; replace v_ua_2 := hw9.cell v_ua_2 nmN; replace v_ua_3 := hw9.cell v_ua_3 nmN
    go_simp
    try with_reducible rfl
  simp only [Act.put, stA, stB, stC]
  refine Abs.take_at (i := 3) (d := some 75) (v := _) rfl rfl (by kernel_rfl) (by kernel_rfl) (by kernel_rfl) (fun _ _ _ h => h) hG ⟨by rfl, fun w9 hw9 => Or.inr ⟨_, _, ?_, C_h.out w9 (HP.out.ch hw9)⟩⟩ ?_
  · go_simp
    try with_reducible rfl
  simp only [Act.put, stA, stB, stC]
  refine Abs.take_at (i := 4) (d := some 76) (v := ?_) rfl rfl (by kernel_rfl) (by kernel_rfl) (by kernel_rfl) (fun _ _ _ h => h) hG ⟨by rfl, fun w9 hw9 => Or.inl ?_⟩ ?_
  rotate_left
  · go_simp
    try with_reducible rfl
  simp only [Act.put, stA, stB, stC]
  refine Abs.take_at (i := 5) (d := some 77) (v := ?_) rfl rfl (by kernel_rfl) (by kernel_rfl) (by kernel_rfl) (fun _ _ _ h => h) hG ⟨by rfl, fun w9 hw9 => Or.inl ?_⟩ ?_
  rotate_left
  · replace v_sb_0 := hw9.cell v_sb_0 nmN; replace v_sb_1 := hw9.cell v_sb_1 nmN; replace v_sb_2 := hw9.cell v_sb_2 nmN; replace v_sb_3 := hw9.cell v_sb_3 nmN
    go_simp
    try with_reducible rfl
  simp only [Act.put, stA, stB, stC]
  refine Abs.take_at (i := 6) (d := some 78) (v := ?_) rfl rfl (by kernel_rfl) (by kernel_rfl) (by kernel_rfl) (fun _ _ _ h => h) hG ⟨by rfl, fun w9 hw9 => Or.inl ?_⟩ ?_
  rotate_left
  · replace v_sa_0 := hw9.cell v_sa_0 nmN; replace v_sa_1 := hw9.cell v_sa_1 nmN; replace v_sa_2 := hw9.cell v_sa_2 nmN; replace v_sa_3 := hw9.cell v_sa_3 nmN
    go_simp
    try with_reducible rfl
  simp only [Act.put, stA, stB, stC]
  refine Abs.take_at (i := 7) (d := some 79) (v := _) rfl rfl (by kernel_rfl) (by kernel_rfl) (by kernel_rfl) (fun _ _ _ h => h) hG ⟨by rfl, fun w9 hw9 => Or.inr ⟨_, _, ?_, C_r.out w9 (HP.out.ch hw9)⟩⟩ ?_
  · go_simp
    try with_reducible rfl
  simp only [Act.put, stA, stB, stC]
  refine Abs.alloc4two (i := 8) (j := 9) (di := 13) (dj := 14) (t := 24) (X := []) (W := wx) rfl rfl rfl rfl (by decide) (by decide) (by kernel_rfl) (by kernel_rfl) (by kernel_rfl) rfl rfl rfl rfl hG (fun _ h => h) (fun w9 => ?_) (fun b_h b_r hb_h hb_r hneb_h hG => ?_)
  · go_simp
    try with_reducible rfl
  simp only [Act.put, stA, stB, stC]
  refine Abs.store4 (i := 10) (b := b_h) (ds := #[.int .u64 (lm v_h 0 : Nat), .int .u64 (lm v_h 1 : Nat), .int .u64 (lm v_h 2 : Nat), .int .u64 (lm v_h 3 : Nat)]) rfl (by kernel_rfl) (by rfl) (fun w9 => (((w9.setCell ⟨b_h, 0, none⟩ (.int .u64 (lm v_h 0 : Nat))).setCell ⟨b_h, 1, none⟩ (.int .u64 (lm v_h 1 : Nat))).setCell ⟨b_h, 2, none⟩ (.int .u64 (lm v_h 2 : Nat))).setCell ⟨b_h, 3, none⟩ (.int .u64 (lm v_h 3 : Nat))) (fun w9 h9 => ⟨?_, ?_, ?_⟩) (fun _ _ h k => ⟨Chg.keeps (Or.inr hb_h) h.1 k, k.has h.2 (by simpa using Ne.symm hneb_h)⟩) (good_at [] wx _ _) (fun hG => ?_)
  · have n0 := cell_of_has h9 0; have n1 := cell_of_has h9 1; have n2 := cell_of_has h9 2; have n3 := cell_of_has h9 3
    simp only [glA, glB, glC] at n0 n1 n2 n3
    have z0 := frozen_of_has h9 0; have z1 := frozen_of_has h9 1; have z2 := frozen_of_has h9 2; have z3 := frozen_of_has h9 3
    clear h9
    go_simp
    try with_reducible rfl
  · exact U4.put_x (x := fun _ => 0) h9 v_h
  · exact Chg.put_x (Chg.refl _ _) (Or.inl (by simp)) v_h
  refine Abs.at_put (d := none) rfl ?_
  simp only [Act.put, stA, stB, stC]
  refine Abs.weaken (S' := fun w => (Chg [] wx w ∧ w.heap[b_h]? = some (.cells #[.int .u64 (lm v_h 0 : Nat), .int .u64 (lm v_h 1 : Nat), .int .u64 (lm v_h 2 : Nat), .int .u64 (lm v_h 3 : Nat)] 24 (0, 0))) ∧ w.heap[b_r]? = some (.cells #[.int .u64 0, .int .u64 0, .int .u64 0, .int .u64 0] 24 (0, 0))) (fun _ h => ⟨⟨h.1.1, h.2⟩, h.1.2⟩) ?_
  refine Abs.store4 (i := 11) (b := b_r) (ds := #[.int .u64 (lm v_r 0 : Nat), .int .u64 (lm v_r 1 : Nat), .int .u64 (lm v_r 2 : Nat), .int .u64 (lm v_r 3 : Nat)]) rfl (by kernel_rfl) (by rfl) (fun w9 => (((w9.setCell ⟨b_r, 0, none⟩ (.int .u64 (lm v_r 0 : Nat))).setCell ⟨b_r, 1, none⟩ (.int .u64 (lm v_r 1 : Nat))).setCell ⟨b_r, 2, none⟩ (.int .u64 (lm v_r 2 : Nat))).setCell ⟨b_r, 3, none⟩ (.int .u64 (lm v_r 3 : Nat))) (fun w9 h9 => ⟨?_, ?_, ?_⟩) (fun _ _ h k => ⟨Chg.keeps (Or.inr hb_r) h.1 k, k.has h.2 (by simpa using hneb_h)⟩) (good_at [] wx _ _) (fun hG => ?_)
  · have n0 := cell_of_has h9 0; have n1 := cell_of_has h9 1; have n2 := cell_of_has h9 2; have n3 := cell_of_has h9 3
    simp only [glA, glB, glC] at n0 n1 n2 n3
    have z0 := frozen_of_has h9 0; have z1 := frozen_of_has h9 1; have z2 := frozen_of_has h9 2; have z3 := frozen_of_has h9 3
    clear h9
    go_simp
    try with_reducible rfl
  · exact U4.put_x (x := fun _ => 0) h9 v_r
  · exact Chg.put_x (Chg.refl _ _) (Or.inl (by simp)) v_r
  refine Abs.at_put (d := none) rfl ?_
  simp only [Act.put, stA, stB, stC]
  refine Abs.done (by kernel_rfl) (fun wx hx => NoPanic.normal ?_) _
  clear hllR v_ub_0 v_ub_1 v_ub_2 v_ub_3 v_ua_0 v_ua_1 v_ua_2 v_ua_3 v_sb_0 v_sb_1 v_sb_2 v_sb_3 v_sa_0 v_sa_1 v_sa_2 v_sa_3
  obtain ⟨⟨hA, hN1⟩, hN2⟩ := hx
  have l_h : b_sa < b_h := Nat.lt_of_lt_of_le H_sa.out.lt hb_h
  have l_r : b_sa < b_r := Nat.lt_of_lt_of_le H_sa.out.lt hb_r
  have hN1 : U4 wx b_h 24 (lm v_h) := hN1
  have hN2 : U4 wx b_r 24 (lm v_r) := hN2
  replace HP := Lib.hid (HP.out.ch hA)
  replace HBA := Lib.hid (HBA.out.chg hA nmN)
  replace HBB := Lib.hid (HBB.out.chg hA nmN)
  replace HR := Lib.hid (HR.out.chg hA nmN)
  replace H_za := Lib.hid (H_za.out.chg hA nmN)
  replace H_zb := Lib.hid (H_zb.out.chg hA nmN)
  replace H_ua := Lib.hid (H_ua.out.chg hA nmN)
  replace H_ub := Lib.hid (H_ub.out.chg hA nmN)
  replace H_sa := Lib.hid (H_sa.out.chg hA nmN)
  replace H_sb := Lib.hid (H_sb.out.chg hA nmN)
  replace HC := Lib.hid (HC.out.trans hA)
  have H_h := Lib.hid hN1; have H_r := Lib.hid hN2
  clear hA hN1 hN2 hb_h hb_r
  go_upto_region 9 with fail
  by_cases hh : e_h = 0
  · have q3 := (HQ3.out true (by simpa using hh)).out
    by_cases hr : e_r = 0
    · have q4 := (HQ4.out true (by simpa using hr)).out
      have HZ := Lib.hid (HR1.out hh hr)
      clear hh hr
      obtain ⟨v_h_0, v_h_1, v_h_2, v_h_3⟩ := four4 fun _ => (H_h.out).cell
      obtain ⟨v_r_0, v_r_1, v_r_2, v_r_3⟩ := four4 fun _ => (H_r.out).cell
      have hllR := HR.out.lt
      go_upto_region 10 with fail
      clear hllR v_h_0 v_h_1 v_h_2 v_h_3 v_r_0 v_r_1 v_r_2 v_r_3
      clear q3 q4
      have hS := HBA.out
      obtain ⟨sx0, sx1, sx2, sx3⟩ := four4 fun _ => hS.cx; obtain ⟨sy0, sy1, sy2, sy3⟩ := four4 fun _ => hS.cy; obtain ⟨sz0, sz1, sz2, sz3⟩ := four4 fun _ => hS.cz
      clear hS
      go_wp2_with fail
      refine (C_tw.out _ HP.out).mono ?_
      rintro e w1 ⟨rfl, hC1⟩
      clear sx0 sx1 sx2 sx3 sy0 sy1 sy2 sy3 sz0 sz1 sz2 sz3
      replace HR := Lib.hid (HR.out.chg hC1 nmN)
      replace HC := Lib.hid (HC.out.trans hC1)
      generalize jtw p = t at *
      obtain ⟨tx, htx⟩ : ∃ v, mu t.x = v := ⟨_, rfl⟩
      obtain ⟨ty, hty⟩ : ∃ v, mu t.y = v := ⟨_, rfl⟩
      obtain ⟨tz, htz⟩ : ∃ v, mu t.z = v := ⟨_, rfl⟩
      unfold jv at HZ
      rw [htx, hty, htz] at HZ
      rw [htx, hty, htz]
      clear htx hty htz hC1
      have hRz := HR.out
      have n0 := cell_of_has hRz 0; have n1 := cell_of_has hRz 1; have n2 := cell_of_has hRz 2; have n3 := cell_of_has hRz 3; have n4 := cell_of_has hRz 4; have n5 := cell_of_has hRz 5; have n6 := cell_of_has hRz 6; have n7 := cell_of_has hRz 7; have n8 := cell_of_has hRz 8; have n9 := cell_of_has hRz 9; have n10 := cell_of_has hRz 10; have n11 := cell_of_has hRz 11
      simp only [glA, glB, glC] at n0 n1 n2 n3 n4 n5 n6 n7 n8 n9 n10 n11
      have nz0 := frozen_of_has hRz 0; have nz1 := frozen_of_has hRz 1; have nz2 := frozen_of_has hRz 2; have nz3 := frozen_of_has hRz 3; have nz4 := frozen_of_has hRz 4; have nz5 := frozen_of_has hRz 5; have nz6 := frozen_of_has hRz 6; have nz7 := frozen_of_has hRz 7; have nz8 := frozen_of_has hRz 8; have nz9 := frozen_of_has hRz 9; have nz10 := frozen_of_has hRz 10; have nz11 := frozen_of_has hRz 11
      have hll := hRz.lt
      have HF := Lib.hid (hRz.u12.put tx ty tz); have HCF := Lib.hid (HC.out.put12 (b := R) (Or.inr (by omega)) tx ty tz)
      clear hRz
      go_wp2_with fail
      have hF := HF.out; have hCF := HCF.out
      refine (id ?_ : bodyPost _ _ _ _ _ (put12 w1 R tx ty tz))
      clear HF HCF
      generalize put12 w1 R tx ty tz = W5 at *
      have g0 := cell_of_has hF 0; have g1 := cell_of_has hF 1; have g2 := cell_of_has hF 2; have g3 := cell_of_has hF 3; have g4 := cell_of_has hF 4; have g5 := cell_of_has hF 5; have g6 := cell_of_has hF 6; have g7 := cell_of_has hF 7; have g8 := cell_of_has hF 8; have g9 := cell_of_has hF 9; have g10 := cell_of_has hF 10; have g11 := cell_of_has hF 11
      simp only [glA, glB, glC] at g0 g1 g2 g3 g4 g5 g6 g7 g8 g9 g10 g11
      exact bodyPost_ret (v := .agg #[.int .u64 (lm tx 0 : Nat), .int .u64 (lm tx 1 : Nat), .int .u64 (lm tx 2 : Nat), .int .u64 (lm tx 3 : Nat), .int .u64 (lm ty 0 : Nat), .int .u64 (lm ty 1 : Nat), .int .u64 (lm ty 2 : Nat), .int .u64 (lm ty 3 : Nat), .int .u64 (lm tz 0 : Nat), .int .u64 (lm tz 1 : Nat), .int .u64 (lm tz 2 : Nat), .int .u64 (lm tz 3 : Nat)]) (by simp [results, Try.results33, go_sem, g0, g1, g2, g3, g4, g5, g6, g7, g8, g9, g10, g11]) rfl ⟨by rw [HZ.out], hCF⟩
    · have q4 := (HQ4.out false (by simpa using hr)).out
      have HZ := Lib.hid (HR2.out hh hr)
      clear hh hr
      obtain ⟨v_h_0, v_h_1, v_h_2, v_h_3⟩ := four4 fun _ => (H_h.out).cell
      obtain ⟨v_r_0, v_r_1, v_r_2, v_r_3⟩ := four4 fun _ => (H_r.out).cell
      have hllR := HR.out.lt
      go_upto_region 12 with fail
      clear hllR v_h_0 v_h_1 v_h_2 v_h_3 v_r_0 v_r_1 v_r_2 v_r_3
      clear q3 q4
      have hRz := HR.out
      have n0 := cell_of_has hRz 0; have n1 := cell_of_has hRz 1; have n2 := cell_of_has hRz 2; have n3 := cell_of_has hRz 3; have n4 := cell_of_has hRz 4; have n5 := cell_of_has hRz 5; have n6 := cell_of_has hRz 6; have n7 := cell_of_has hRz 7; have n8 := cell_of_has hRz 8; have n9 := cell_of_has hRz 9; have n10 := cell_of_has hRz 10; have n11 := cell_of_has hRz 11
      simp only [glA, glB, glC] at n0 n1 n2 n3 n4 n5 n6 n7 n8 n9 n10 n11
      have nz0 := frozen_of_has hRz 0; have nz1 := frozen_of_has hRz 1; have nz2 := frozen_of_has hRz 2; have nz3 := frozen_of_has hRz 3; have nz4 := frozen_of_has hRz 4; have nz5 := frozen_of_has hRz 5; have nz6 := frozen_of_has hRz 6; have nz7 := frozen_of_has hRz 7; have nz8 := frozen_of_has hRz 8; have nz9 := frozen_of_has hRz 9; have nz10 := frozen_of_has hRz 10; have nz11 := frozen_of_has hRz 11
      have hll := hRz.lt
      have HF := Lib.hid hRz.putz; have HCF := Lib.hid (HC.out.putz (b := R) (Or.inr (by omega)))
      clear hRz
      go_wp2_with fail
      have hF := HF.out
      have hCF := HCF.out
      refine (id ?_ : bodyPost _ _ _ _ _ ((((((((((((wx.setCell ⟨R, 0, none⟩ (.int .u64 0)).setCell ⟨R, 1, none⟩ (.int .u64 0)).setCell ⟨R, 2, none⟩ (.int .u64 0)).setCell ⟨R, 3, none⟩ (.int .u64 0)).setCell ⟨R, 4, none⟩ (.int .u64 0)).setCell ⟨R, 5, none⟩ (.int .u64 0)).setCell ⟨R, 6, none⟩ (.int .u64 0)).setCell ⟨R, 7, none⟩ (.int .u64 0)).setCell ⟨R, 8, none⟩ (.int .u64 0)).setCell ⟨R, 9, none⟩ (.int .u64 0)).setCell ⟨R, 10, none⟩ (.int .u64 0)).setCell ⟨R, 11, none⟩ (.int .u64 0)))
      clear HF HCF
      generalize ((((((((((((wx.setCell ⟨R, 0, none⟩ (.int .u64 0)).setCell ⟨R, 1, none⟩ (.int .u64 0)).setCell ⟨R, 2, none⟩ (.int .u64 0)).setCell ⟨R, 3, none⟩ (.int .u64 0)).setCell ⟨R, 4, none⟩ (.int .u64 0)).setCell ⟨R, 5, none⟩ (.int .u64 0)).setCell ⟨R, 6, none⟩ (.int .u64 0)).setCell ⟨R, 7, none⟩ (.int .u64 0)).setCell ⟨R, 8, none⟩ (.int .u64 0)).setCell ⟨R, 9, none⟩ (.int .u64 0)).setCell ⟨R, 10, none⟩ (.int .u64 0)).setCell ⟨R, 11, none⟩ (.int .u64 0)) = W5 at *
      have g0 := cell_of_has hF 0; have g1 := cell_of_has hF 1; have g2 := cell_of_has hF 2; have g3 := cell_of_has hF 3; have g4 := cell_of_has hF 4; have g5 := cell_of_has hF 5; have g6 := cell_of_has hF 6; have g7 := cell_of_has hF 7; have g8 := cell_of_has hF 8; have g9 := cell_of_has hF 9; have g10 := cell_of_has hF 10; have g11 := cell_of_has hF 11
      simp only [glA, glB, glC] at g0 g1 g2 g3 g4 g5 g6 g7 g8 g9 g10 g11
      exact bodyPost_ret (v := .agg #[.int .u64 0, .int .u64 0, .int .u64 0, .int .u64 0, .int .u64 0, .int .u64 0, .int .u64 0, .int .u64 0, .int .u64 0, .int .u64 0, .int .u64 0, .int .u64 0]) (by simp [results, Try.results33, go_sem, g0, g1, g2, g3, g4, g5, g6, g7, g8, g9, g10, g11]) rfl ⟨by rw [HZ.out], hCF⟩
  · have q3 := (HQ3.out false (by simpa using hh)).out
    have HZ := Lib.hid (HR3.out hh)
    clear hh
    obtain ⟨v_h_0, v_h_1, v_h_2, v_h_3⟩ := four4 fun _ => (H_h.out).cell
    have hllR := HR.out.lt
    go_upto_region 13 with fail
    clear hllR v_h_0 v_h_1 v_h_2 v_h_3
    clear q3
    obtain ⟨v_h_0, v_h_1, v_h_2, v_h_3⟩ := four4 fun _ => (H_h.out).cell
    have hllR := HR.out.lt
    go_wp2_with fail
    refine (C_h2.out _ HP.out).mono ?_
    rintro e w1 ⟨rfl, hC1⟩
    clear hllR v_h_0 v_h_1 v_h_2 v_h_3
    replace HP := Lib.hid (HP.out.ch hC1)
    replace HBA := Lib.hid (HBA.out.chg hC1 nmN)
    replace HBB := Lib.hid (HBB.out.chg hC1 nmN)
    replace HR := Lib.hid (HR.out.chg hC1 nmN)
    replace H_za := Lib.hid (H_za.out.chg hC1 nmN)
    replace H_zb := Lib.hid (H_zb.out.chg hC1 nmN)
    replace H_ua := Lib.hid (H_ua.out.chg hC1 nmN)
    replace H_ub := Lib.hid (H_ub.out.chg hC1 nmN)
    replace H_sa := Lib.hid (H_sa.out.chg hC1 nmN)
    replace H_sb := Lib.hid (H_sb.out.chg hC1 nmN)
    replace H_h := Lib.hid (H_h.out.chg hC1 nmN)
    replace H_r := Lib.hid (H_r.out.chg hC1 nmN)
    replace HC := Lib.hid (HC.out.trans hC1)
    clear hC1
    obtain ⟨W1, hW1⟩ : ∃ W1, w1.alloc (.cells #[.int .u64 (lm v_h2 0 : Nat), .int .u64 (lm v_h2 1 : Nat), .int .u64 (lm v_h2 2 : Nat), .int .u64 (lm v_h2 3 : Nat)] 24) = W1 := ⟨_, rfl⟩
    have hA : Chg [] w1 W1 := by rw [← hW1]; exact (Chg.refl _ _).alloc _
    have hN : U4 W1 w1.heap.size 24 (lm v_h2) := by rw [← hW1]; exact has_alloc_new _ _
    obtain ⟨b_h2, hb⟩ : ∃ b, w1.heap.size = b := ⟨_, rfl⟩
    have l_h2 : b_h < b_h2 := by rw [← hb]; exact H_h.out.lt
    rw [hb] at hN
    replace HP := Lib.hid (HP.out.ch hA)
    replace HBA := Lib.hid (HBA.out.chg hA nmN)
    replace HBB := Lib.hid (HBB.out.chg hA nmN)
    replace HR := Lib.hid (HR.out.chg hA nmN)
    replace H_za := Lib.hid (H_za.out.chg hA nmN)
    replace H_zb := Lib.hid (H_zb.out.chg hA nmN)
    replace H_ua := Lib.hid (H_ua.out.chg hA nmN)
    replace H_ub := Lib.hid (H_ub.out.chg hA nmN)
    replace H_sa := Lib.hid (H_sa.out.chg hA nmN)
    replace H_sb := Lib.hid (H_sb.out.chg hA nmN)
    replace H_h := Lib.hid (H_h.out.chg hA nmN)
    replace H_r := Lib.hid (H_r.out.chg hA nmN)
    replace HC := Lib.hid (HC.out.trans hA)
    have H_h2 := Lib.hid hN
    go_upto_region 14 with fail
    try rw [hW1]
    try rw [hb]
    clear hW1 hb hA hN
    obtain ⟨v_h2_0, v_h2_1, v_h2_2, v_h2_3⟩ := four4 fun _ => (H_h2.out).cell
    obtain ⟨v_h_0, v_h_1, v_h_2, v_h_3⟩ := four4 fun _ => (H_h.out).cell
    have hllR := HR.out.lt
    go_wp2_with fail
    refine (C_h3.out _ HP.out).mono ?_
    rintro e w1 ⟨rfl, hC1⟩
    clear hllR v_h2_0 v_h2_1 v_h2_2 v_h2_3 v_h_0 v_h_1 v_h_2 v_h_3
    replace HP := Lib.hid (HP.out.ch hC1)
    replace HBA := Lib.hid (HBA.out.chg hC1 nmN)
    replace HBB := Lib.hid (HBB.out.chg hC1 nmN)
    replace HR := Lib.hid (HR.out.chg hC1 nmN)
    replace H_za := Lib.hid (H_za.out.chg hC1 nmN)
    replace H_zb := Lib.hid (H_zb.out.chg hC1 nmN)
    replace H_ua := Lib.hid (H_ua.out.chg hC1 nmN)
    replace H_ub := Lib.hid (H_ub.out.chg hC1 nmN)
    replace H_sa := Lib.hid (H_sa.out.chg hC1 nmN)
    replace H_sb := Lib.hid (H_sb.out.chg hC1 nmN)
    replace H_h := Lib.hid (H_h.out.chg hC1 nmN)
    replace H_r := Lib.hid (H_r.out.chg hC1 nmN)
    replace H_h2 := Lib.hid (H_h2.out.chg hC1 nmN)
    replace HC := Lib.hid (HC.out.trans hC1)
    clear hC1
    obtain ⟨W1, hW1⟩ : ∃ W1, w1.alloc (.cells #[.int .u64 (lm v_h3 0 : Nat), .int .u64 (lm v_h3 1 : Nat), .int .u64 (lm v_h3 2 : Nat), .int .u64 (lm v_h3 3 : Nat)] 24) = W1 := ⟨_, rfl⟩
    have hA : Chg [] w1 W1 := by rw [← hW1]; exact (Chg.refl _ _).alloc _
    have hN : U4 W1 w1.heap.size 24 (lm v_h3) := by rw [← hW1]; exact has_alloc_new _ _
    obtain ⟨b_h3, hb⟩ : ∃ b, w1.heap.size = b := ⟨_, rfl⟩
    have l_h3 : b_h2 < b_h3 := by rw [← hb]; exact H_h2.out.lt
    rw [hb] at hN
    replace HP := Lib.hid (HP.out.ch hA)
    replace HBA := Lib.hid (HBA.out.chg hA nmN)
    replace HBB := Lib.hid (HBB.out.chg hA nmN)
    replace HR := Lib.hid (HR.out.chg hA nmN)
    replace H_za := Lib.hid (H_za.out.chg hA nmN)
    replace H_zb := Lib.hid (H_zb.out.chg hA nmN)
    replace H_ua := Lib.hid (H_ua.out.chg hA nmN)
    replace H_ub := Lib.hid (H_ub.out.chg hA nmN)
    replace H_sa := Lib.hid (H_sa.out.chg hA nmN)
    replace H_sb := Lib.hid (H_sb.out.chg hA nmN)
    replace H_h := Lib.hid (H_h.out.chg hA nmN)
    replace H_r := Lib.hid (H_r.out.chg hA nmN)
    replace H_h2 := Lib.hid (H_h2.out.chg hA nmN)
    replace HC := Lib.hid (HC.out.trans hA)
    have H_h3 := Lib.hid hN
    go_upto_region 15 with fail
    try rw [hW1]
    try rw [hb]
    clear hW1 hb hA hN
    obtain ⟨v_ua_0, v_ua_1, v_ua_2, v_ua_3⟩ := four4 fun _ => (H_ua.out).cell
    obtain ⟨v_h2_0, v_h2_1, v_h2_2, v_h2_3⟩ := four4 fun _ => (H_h2.out).cell
    have hllR := HR.out.lt
    go_wp2_with fail
    refine (C_v.out _ HP.out).mono ?_
    rintro e w1 ⟨rfl, hC1⟩
    clear hllR v_ua_0 v_ua_1 v_ua_2 v_ua_3 v_h2_0 v_h2_1 v_h2_2 v_h2_3
    replace HP := Lib.hid (HP.out.ch hC1)
    replace HBA := Lib.hid (HBA.out.chg hC1 nmN)
    replace HBB := Lib.hid (HBB.out.chg hC1 nmN)
    replace HR := Lib.hid (HR.out.chg hC1 nmN)
    replace H_za := Lib.hid (H_za.out.chg hC1 nmN)
    replace H_zb := Lib.hid (H_zb.out.chg hC1 nmN)
    replace H_ua := Lib.hid (H_ua.out.chg hC1 nmN)
    replace H_ub := Lib.hid (H_ub.out.chg hC1 nmN)
    replace H_sa := Lib.hid (H_sa.out.chg hC1 nmN)
    replace H_sb := Lib.hid (H_sb.out.chg hC1 nmN)
    replace H_h := Lib.hid (H_h.out.chg hC1 nmN)
    replace H_r := Lib.hid (H_r.out.chg hC1 nmN)
    replace H_h2 := Lib.hid (H_h2.out.chg hC1 nmN)
    replace H_h3 := Lib.hid (H_h3.out.chg hC1 nmN)
    replace HC := Lib.hid (HC.out.trans hC1)
    clear hC1
    obtain ⟨W1, hW1⟩ : ∃ W1, w1.alloc (.cells #[.int .u64 (lm v_v 0 : Nat), .int .u64 (lm v_v 1 : Nat), .int .u64 (lm v_v 2 : Nat), .int .u64 (lm v_v 3 : Nat)] 24) = W1 := ⟨_, rfl⟩
    have hA : Chg [] w1 W1 := by rw [← hW1]; exact (Chg.refl _ _).alloc _
    have hN : U4 W1 w1.heap.size 24 (lm v_v) := by rw [← hW1]; exact has_alloc_new _ _
    obtain ⟨b_v, hb⟩ : ∃ b, w1.heap.size = b := ⟨_, rfl⟩
    have l_v : b_h3 < b_v := by rw [← hb]; exact H_h3.out.lt
    rw [hb] at hN
    replace HP := Lib.hid (HP.out.ch hA)
    replace HBA := Lib.hid (HBA.out.chg hA nmN)
    replace HBB := Lib.hid (HBB.out.chg hA nmN)
    replace HR := Lib.hid (HR.out.chg hA nmN)
    replace H_za := Lib.hid (H_za.out.chg hA nmN)
    replace H_zb := Lib.hid (H_zb.out.chg hA nmN)
    replace H_ua := Lib.hid (H_ua.out.chg hA nmN)
    replace H_ub := Lib.hid (H_ub.out.chg hA nmN)
    replace H_sa := Lib.hid (H_sa.out.chg hA nmN)
    replace H_sb := Lib.hid (H_sb.out.chg hA nmN)
    replace H_h := Lib.hid (H_h.out.chg hA nmN)
    replace H_r := Lib.hid (H_r.out.chg hA nmN)
    replace H_h2 := Lib.hid (H_h2.out.chg hA nmN)
    replace H_h3 := Lib.hid (H_h3.out.chg hA nmN)
    replace HC := Lib.hid (HC.out.trans hA)
    have H_v := Lib.hid hN
    go_upto_region 16 with fail
    try rw [hW1]
    try rw [hb]
    clear hW1 hb hA hN
    obtain ⟨v_r_0, v_r_1, v_r_2, v_r_3⟩ := four4 fun _ => (H_r.out).cell
    obtain ⟨v_h3_0, v_h3_1, v_h3_2, v_h3_3⟩ := four4 fun _ => (H_h3.out).cell
    obtain ⟨v_v_0, v_v_1, v_v_2, v_v_3⟩ := four4 fun _ => (H_v.out).cell
    have hllR := HR.out.lt
    refine abs_region (B := Chg [] W1) (S := Chg [] W1) (by kernel_rfl) ((Chg.refl _ _).drew) ?_
    have hG := good_chg [] W1
    refine Abs.take_at (i := 0) (d := some 109) (v := ?_) rfl rfl (by kernel_rfl) (by kernel_rfl) (by kernel_rfl) (fun _ _ _ h => h) hG ⟨by rfl, fun w9 hw9 => Or.inl ?_⟩ ?_
    rotate_left
    · go_simp
      try with_reducible rfl
    simp only [Act.put, stA, stB, stC]
    refine Abs.take_at (i := 1) (d := some 110) (v := ?_) rfl rfl (by kernel_rfl) (by kernel_rfl) (by kernel_rfl) (fun _ _ _ h => h) hG ⟨by rfl, fun w9 hw9 => Or.inl ?_⟩ ?_
    rotate_left
    · go_simp
      try with_reducible rfl
    simp only [Act.put, stA, stB, stC]
    refine Abs.take_at (i := 2) (d := some 111) (v := ?_) rfl rfl (by kernel_rfl) (by kernel_rfl) (by kernel_rfl) (fun _ _ _ h => h) hG ⟨by rfl, fun w9 hw9 => Or.inl ?_⟩ ?_
    rotate_left
    · go_simp
      try with_reducible rfl
    simp only [Act.put, stA, stB, stC]
    refine Abs.take_at (i := 3) (d := some 112) (v := ?_) rfl rfl (by kernel_rfl) (by kernel_rfl) (by kernel_rfl) (fun _ _ _ h => h) hG ⟨by rfl, fun w9 hw9 => Or.inl ?_⟩ ?_
    rotate_left
    · replace v_r_0 := hw9.cell v_r_0 nmN; replace v_r_1 := hw9.cell v_r_1 nmN; replace v_r_2 := hw9.cell v_r_2 nmN; replace v_r_3 := hw9.cell v_r_3 nmN
      go_simp
      try with_reducible rfl
    simp only [Act.put, stA, stB, stC]
    refine Abs.take_at (i := 4) (d := some 113) (v := ?_) rfl rfl (by kernel_rfl) (by kernel_rfl) (by kernel_rfl) (fun _ _ _ h => h) hG ⟨by rfl, fun w9 hw9 => Or.inl ?_⟩ ?_
    rotate_left
    · replace v_r_0 := hw9.cell v_r_0 nmN; replace v_r_1 := hw9.cell v_r_1 nmN; replace v_r_2 := hw9.cell v_r_2 nmN; replace v_r_3 := hw9.cell v_r_3 nmN
      go_simp
      try with_reducible rfl
    simp only [Act.put, stA, stB, stC]
    refine Abs.take_at (i := 5) (d := some 114) (v := _) rfl rfl (by kernel_rfl) (by kernel_rfl) (by kernel_rfl) (fun _ _ _ h => h) hG ⟨by rfl, fun w9 hw9 => Or.inr ⟨_, _, ?_, C_rr.out w9 (HP.out.ch hw9)⟩⟩ ?_
    · go_simp
      try with_reducible rfl
    simp only [Act.put, stA, stB, stC]
    refine Abs.take_at (i := 6) (d := some 115) (v := ?_) rfl rfl (by kernel_rfl) (by kernel_rfl) (by kernel_rfl) (fun _ _ _ h => h) hG ⟨by rfl, fun w9 hw9 => Or.inl ?_⟩ ?_
    rotate_left
    · replace v_h3_0 := hw9.cell v_h3_0 nmN; replace v_h3_1 := hw9.cell v_h3_1 nmN; replace v_h3_2 := hw9.cell v_h3_2 nmN; replace v_h3_3 := hw9.cell v_h3_3 nmN
      go_simp
      try with_reducible rfl
    simp only [Act.put, stA, stB, stC]
    refine Abs.take_at (i := 7) (d := some 116) (v := _) rfl rfl (by kernel_rfl) (by kernel_rfl) (by kernel_rfl) (fun _ _ _ h => h) hG ⟨by rfl, fun w9 hw9 => Or.inr ⟨_, _, ?_, C_rh.out w9 (HP.out.ch hw9)⟩⟩ ?_
    · go_simp
      try with_reducible rfl
    simp only [Act.put, stA, stB, stC]
    refine Abs.take_at (i := 8) (d := some 117) (v := ?_) rfl rfl (by kernel_rfl) (by kernel_rfl) (by kernel_rfl) (fun _ _ _ h => h) hG ⟨by rfl, fun w9 hw9 => Or.inl ?_⟩ ?_
    rotate_left
    · go_simp
      try with_reducible rfl
    simp only [Act.put, stA, stB, stC]
    refine Abs.take_at (i := 9) (d := some 118) (v := ?_) rfl rfl (by kernel_rfl) (by kernel_rfl) (by kernel_rfl) (fun _ _ _ h => h) hG ⟨by rfl, fun w9 hw9 => Or.inl ?_⟩ ?_
    rotate_left
    · replace v_v_0 := hw9.cell v_v_0 nmN; replace v_v_1 := hw9.cell v_v_1 nmN; replace v_v_2 := hw9.cell v_v_2 nmN; replace v_v_3 := hw9.cell v_v_3 nmN
      go_simp
      try with_reducible rfl
    simp only [Act.put, stA, stB, stC]
    refine Abs.take_at (i := 10) (d := some 119) (v := ?_) rfl rfl (by kernel_rfl) (by kernel_rfl) (by kernel_rfl) (fun _ _ _ h => h) hG ⟨by rfl, fun w9 hw9 => Or.inl ?_⟩ ?_
    rotate_left
    · replace v_v_0 := hw9.cell v_v_0 nmN; replace v_v_1 := hw9.cell v_v_1 nmN; replace v_v_2 := hw9.cell v_v_2 nmN; replace v_v_3 := hw9.cell v_v_3 nmN
      go_simp
      try with_reducible rfl
    simp only [Act.put, stA, stB, stC]
    refine Abs.take_at (i := 11) (d := some 120) (v := _) rfl rfl (by kernel_rfl) (by kernel_rfl) (by kernel_rfl) (fun _ _ _ h => h) hG ⟨by rfl, fun w9 hw9 => Or.inr ⟨_, _, ?_, C_vv.out w9 (HP.out.ch hw9)⟩⟩ ?_
    · go_simp
      try with_reducible rfl
    simp only [Act.put, stA, stB, stC]
    refine Abs.take_at (i := 12) (d := some 121) (v := _) rfl rfl (by kernel_rfl) (by kernel_rfl) (by kernel_rfl) (fun _ _ _ h => h) hG ⟨by rfl, fun w9 hw9 => Or.inr ⟨_, _, ?_, C_x.out w9 (HP.out.ch hw9)⟩⟩ ?_
    · go_simp
      try with_reducible rfl
    simp only [Act.put, stA, stB, stC]
    refine Abs.alloc4 (i := 13) (t := 24) (X := []) (W := W1) rfl (by kernel_rfl) (by rfl) hG (fun _ h => h) (fun w9 => ?_) (fun b_x hb_x hG => ?_)
    · go_simp
      try with_reducible rfl
    refine Abs.at_put (d := some 18) rfl ?_
    simp only [Act.put, stA, stB, stC]
    refine Abs.store4 (i := 14) (b := b_x) (ds := #[.int .u64 (lm v_x 0 : Nat), .int .u64 (lm v_x 1 : Nat), .int .u64 (lm v_x 2 : Nat), .int .u64 (lm v_x 3 : Nat)]) rfl (by kernel_rfl) (by rfl) (fun w9 => (((w9.setCell ⟨b_x, 0, none⟩ (.int .u64 (lm v_x 0 : Nat))).setCell ⟨b_x, 1, none⟩ (.int .u64 (lm v_x 1 : Nat))).setCell ⟨b_x, 2, none⟩ (.int .u64 (lm v_x 2 : Nat))).setCell ⟨b_x, 3, none⟩ (.int .u64 (lm v_x 3 : Nat))) (fun w9 h9 => ⟨?_, ?_, ?_⟩) (fun _ _ h k => Chg.keeps (Or.inr hb_x) h k) (good_chg [] W1) (fun hG => ?_)
    · have n0 := cell_of_has h9 0; have n1 := cell_of_has h9 1; have n2 := cell_of_has h9 2; have n3 := cell_of_has h9 3
      simp only [glA, glB, glC] at n0 n1 n2 n3
      have z0 := frozen_of_has h9 0; have z1 := frozen_of_has h9 1; have z2 := frozen_of_has h9 2; have z3 := frozen_of_has h9 3
      clear h9
      go_simp
      try with_reducible rfl
    · exact U4.put_x (x := fun _ => 0) h9 v_x
    · exact Chg.put_x (Chg.refl _ _) (Or.inl (by simp)) v_x
    refine Abs.at_put (d := none) rfl ?_
    simp only [Act.put, stA, stB, stC]
    refine Abs.done (by kernel_rfl) (fun wx hx => NoPanic.normal ?_) _
    clear hllR v_r_0 v_r_1 v_r_2 v_r_3 v_h3_0 v_h3_1 v_h3_2 v_h3_3 v_v_0 v_v_1 v_v_2 v_v_3
    obtain ⟨hA, hN⟩ := hx
    have l_x : b_v < b_x := Nat.lt_of_lt_of_le H_v.out.lt hb_x
    have hN : U4 wx b_x 24 (lm v_x) := hN
    replace HP := Lib.hid (HP.out.ch hA)
    replace HBA := Lib.hid (HBA.out.chg hA nmN)
    replace HBB := Lib.hid (HBB.out.chg hA nmN)
    replace HR := Lib.hid (HR.out.chg hA nmN)
    replace H_za := Lib.hid (H_za.out.chg hA nmN)
    replace H_zb := Lib.hid (H_zb.out.chg hA nmN)
    replace H_ua := Lib.hid (H_ua.out.chg hA nmN)
    replace H_ub := Lib.hid (H_ub.out.chg hA nmN)
    replace H_sa := Lib.hid (H_sa.out.chg hA nmN)
    replace H_sb := Lib.hid (H_sb.out.chg hA nmN)
    replace H_h := Lib.hid (H_h.out.chg hA nmN)
    replace H_r := Lib.hid (H_r.out.chg hA nmN)
    replace H_h2 := Lib.hid (H_h2.out.chg hA nmN)
    replace H_h3 := Lib.hid (H_h3.out.chg hA nmN)
    replace H_v := Lib.hid (H_v.out.chg hA nmN)
    replace HC := Lib.hid (HC.out.trans hA)
    have H_x := Lib.hid hN
    clear hA hN hb_x
    go_upto_region 17 with fail
    obtain ⟨v_r_0, v_r_1, v_r_2, v_r_3⟩ := four4 fun _ => (H_r.out).cell
    obtain ⟨v_v_0, v_v_1, v_v_2, v_v_3⟩ := four4 fun _ => (H_v.out).cell
    obtain ⟨v_x_0, v_x_1, v_x_2, v_x_3⟩ := four4 fun _ => (H_x.out).cell
    obtain ⟨v_sa_0, v_sa_1, v_sa_2, v_sa_3⟩ := four4 fun _ => (H_sa.out).cell
    obtain ⟨v_h3_0, v_h3_1, v_h3_2, v_h3_3⟩ := four4 fun _ => (H_h3.out).cell
    have hllR := HR.out.lt
    refine abs_region (B := Chg [] wx) (S := Chg [] wx) (by kernel_rfl) ((Chg.refl _ _).drew) ?_
    have hG := good_chg [] wx
    refine Abs.take_at (i := 0) (d := some 122) (v := ?_) rfl rfl (by kernel_rfl) (by kernel_rfl) (by kernel_rfl) (fun _ _ _ h => h) hG ⟨by rfl, fun w9 hw9 => Or.inl ?_⟩ ?_
    rotate_left
    · go_simp
      try with_reducible rfl
    simp only [Act.put, stA, stB, stC]
    refine Abs.take_at (i := 1) (d := some 123) (v := ?_) rfl rfl (by kernel_rfl) (by kernel_rfl) (by kernel_rfl) (fun _ _ _ h => h) hG ⟨by rfl, fun w9 hw9 => Or.inl ?_⟩ ?_
    rotate_left
    · go_simp
      try with_reducible rfl
    simp only [Act.put, stA, stB, stC]
    refine Abs.take_at (i := 2) (d := some 124) (v := ?_) rfl rfl (by kernel_rfl) (by kernel_rfl) (by kernel_rfl) (fun _ _ _ h => h) hG ⟨by rfl, fun w9 hw9 => Or.inl ?_⟩ ?_
    rotate_left
    · replace v_r_0 := hw9.cell v_r_0 nmN; replace v_r_1 := hw9.cell v_r_1 nmN; replace v_r_2 := hw9.cell v_r_2 nmN; replace v_r_3 := hw9.cell v_r_3 nmN
      go_simp
      try with_reducible rfl
    simp only [Act.put, stA, stB, stC]
    refine Abs.take_at (i := 3) (d := some 125) (v := ?_) rfl rfl (by kernel_rfl) (by kernel_rfl) (by kernel_rfl) (fun _ _ _ h => h) hG ⟨by rfl, fun w9 hw9 => Or.inl ?_⟩ ?_
    rotate_left
    · go_simp
      try with_reducible rfl
    simp only [Act.put, stA, stB, stC]
    refine Abs.take_at (i := 4) (d := some 126) (v := ?_) rfl rfl (by kernel_rfl) (by kernel_rfl) (by kernel_rfl) (fun _ _ _ h => h) hG ⟨by rfl, fun w9 hw9 => Or.inl ?_⟩ ?_
    rotate_left
    · replace v_v_0 := hw9.cell v_v_0 nmN; replace v_v_1 := hw9.cell v_v_1 nmN; replace v_v_2 := hw9.cell v_v_2 nmN; replace v_v_3 := hw9.cell v_v_3 nmN
      go_simp
      try with_reducible rfl
    simp only [Act.put, stA, stB, stC]
    refine Abs.take_at (i := 5) (d := some 127) (v := ?_) rfl rfl (by kernel_rfl) (by kernel_rfl) (by kernel_rfl) (fun _ _ _ h => h) hG ⟨by rfl, fun w9 hw9 => Or.inl ?_⟩ ?_
    rotate_left
    · replace v_x_0 := hw9.cell v_x_0 nmN; replace v_x_1 := hw9.cell v_x_1 nmN; replace v_x_2 := hw9.cell v_x_2 nmN; replace v_x_3 := hw9.cell v_x_3 nmN
      go_simp
      try with_reducible rfl
    simp only [Act.put, stA, stB, stC]
    refine Abs.take_at (i := 6) (d := some 128) (v := _) rfl rfl (by kernel_rfl) (by kernel_rfl) (by kernel_rfl) (fun _ _ _ h => h) hG ⟨by rfl, fun w9 hw9 => Or.inr ⟨_, _, ?_, C_vx.out w9 (HP.out.ch hw9)⟩⟩ ?_
    · go_simp
      try with_reducible rfl
    simp only [Act.put, stA, stB, stC]
    refine Abs.take_at (i := 7) (d := some 129) (v := _) rfl rfl (by kernel_rfl) (by kernel_rfl) (by kernel_rfl) (fun _ _ _ h => h) hG ⟨by rfl, fun w9 hw9 => Or.inr ⟨_, _, ?_, C_rvx.out w9 (HP.out.ch hw9)⟩⟩ ?_
    · go_simp
      try with_reducible rfl
    simp only [Act.put, stA, stB, stC]
    refine Abs.take_at (i := 8) (d := some 130) (v := ?_) rfl rfl (by kernel_rfl) (by kernel_rfl) (by kernel_rfl) (fun _ _ _ h => h) hG ⟨by rfl, fun w9 hw9 => Or.inl ?_⟩ ?_
    rotate_left
    · go_simp
      try with_reducible rfl
    simp only [Act.put, stA, stB, stC]
    refine Abs.take_at (i := 9) (d := some 131) (v := ?_) rfl rfl (by kernel_rfl) (by kernel_rfl) (by kernel_rfl) (fun _ _ _ h => h) hG ⟨by rfl, fun w9 hw9 => Or.inl ?_⟩ ?_
    rotate_left
    · replace v_sa_0 := hw9.cell v_sa_0 nmN; replace v_sa_1 := hw9.cell v_sa_1 nmN; replace v_sa_2 := hw9.cell v_sa_2 nmN; replace v_sa_3 := hw9.cell v_sa_3 nmN
      go_simp
      try with_reducible rfl
    simp only [Act.put, stA, stB, stC]
    refine Abs.take_at (i := 10) (d := some 132) (v := ?_) rfl rfl (by kernel_rfl) (by kernel_rfl) (by kernel_rfl) (fun _ _ _ h => h) hG ⟨by rfl, fun w9 hw9 => Or.inl ?_⟩ ?_
    rotate_left
    · replace v_h3_0 := hw9.cell v_h3_0 nmN; replace v_h3_1 := hw9.cell v_h3_1 nmN; replace v_h3_2 := hw9.cell v_h3_2 nmN; replace v_h3_3 := hw9.cell v_h3_3 nmN
      go_simp
      try with_reducible rfl
    simp only [Act.put, stA, stB, stC]
    refine Abs.take_at (i := 11) (d := some 133) (v := _) rfl rfl (by kernel_rfl) (by kernel_rfl) (by kernel_rfl) (fun _ _ _ h => h) hG ⟨by rfl, fun w9 hw9 => Or.inr ⟨_, _, ?_, C_sh.out w9 (HP.out.ch hw9)⟩⟩ ?_
    · go_simp
      try with_reducible rfl
    simp only [Act.put, stA, stB, stC]
    refine Abs.take_at (i := 12) (d := some 134) (v := _) rfl rfl (by kernel_rfl) (by kernel_rfl) (by kernel_rfl) (fun _ _ _ h => h) hG ⟨by rfl, fun w9 hw9 => Or.inr ⟨_, _, ?_, C_y.out w9 (HP.out.ch hw9)⟩⟩ ?_
    · go_simp
      try with_reducible rfl
    simp only [Act.put, stA, stB, stC]
    refine Abs.alloc4 (i := 13) (t := 24) (X := []) (W := wx) rfl (by kernel_rfl) (by rfl) hG (fun _ h => h) (fun w9 => ?_) (fun b_y hb_y hG => ?_)
    · go_simp
      try with_reducible rfl
    refine Abs.at_put (d := some 19) rfl ?_
    simp only [Act.put, stA, stB, stC]
    refine Abs.store4 (i := 14) (b := b_y) (ds := #[.int .u64 (lm v_y 0 : Nat), .int .u64 (lm v_y 1 : Nat), .int .u64 (lm v_y 2 : Nat), .int .u64 (lm v_y 3 : Nat)]) rfl (by kernel_rfl) (by rfl) (fun w9 => (((w9.setCell ⟨b_y, 0, none⟩ (.int .u64 (lm v_y 0 : Nat))).setCell ⟨b_y, 1, none⟩ (.int .u64 (lm v_y 1 : Nat))).setCell ⟨b_y, 2, none⟩ (.int .u64 (lm v_y 2 : Nat))).setCell ⟨b_y, 3, none⟩ (.int .u64 (lm v_y 3 : Nat))) (fun w9 h9 => ⟨?_, ?_, ?_⟩) (fun _ _ h k => Chg.keeps (Or.inr hb_y) h k) (good_chg [] wx) (fun hG => ?_)
    · have n0 := cell_of_has h9 0; have n1 := cell_of_has h9 1; have n2 := cell_of_has h9 2; have n3 := cell_of_has h9 3
      simp only [glA, glB, glC] at n0 n1 n2 n3
      have z0 := frozen_of_has h9 0; have z1 := frozen_of_has h9 1; have z2 := frozen_of_has h9 2; have z3 := frozen_of_has h9 3
      clear h9
      go_simp
      try with_reducible rfl
    · exact U4.put_x (x := fun _ => 0) h9 v_y
    · exact Chg.put_x (Chg.refl _ _) (Or.inl (by simp)) v_y
    refine Abs.at_put (d := none) rfl ?_
    simp only [Act.put, stA, stB, stC]
    refine Abs.done (by kernel_rfl) (fun wx hx => NoPanic.normal ?_) _
    clear hllR v_r_0 v_r_1 v_r_2 v_r_3 v_v_0 v_v_1 v_v_2 v_v_3 v_x_0 v_x_1 v_x_2 v_x_3 v_sa_0 v_sa_1 v_sa_2 v_sa_3 v_h3_0 v_h3_1 v_h3_2 v_h3_3
    obtain ⟨hA, hN⟩ := hx
    have l_y : b_x < b_y := Nat.lt_of_lt_of_le H_x.out.lt hb_y
    have hN : U4 wx b_y 24 (lm v_y) := hN
    replace HP := Lib.hid (HP.out.ch hA)
    replace HBA := Lib.hid (HBA.out.chg hA nmN)
    replace HBB := Lib.hid (HBB.out.chg hA nmN)
    replace HR := Lib.hid (HR.out.chg hA nmN)
    replace H_za := Lib.hid (H_za.out.chg hA nmN)
    replace H_zb := Lib.hid (H_zb.out.chg hA nmN)
    replace H_ua := Lib.hid (H_ua.out.chg hA nmN)
    replace H_ub := Lib.hid (H_ub.out.chg hA nmN)
    replace H_sa := Lib.hid (H_sa.out.chg hA nmN)
    replace H_sb := Lib.hid (H_sb.out.chg hA nmN)
    replace H_h := Lib.hid (H_h.out.chg hA nmN)
    replace H_r := Lib.hid (H_r.out.chg hA nmN)
    replace H_h2 := Lib.hid (H_h2.out.chg hA nmN)
    replace H_h3 := Lib.hid (H_h3.out.chg hA nmN)
    replace H_v := Lib.hid (H_v.out.chg hA nmN)
    replace H_x := Lib.hid (H_x.out.chg hA nmN)
    replace HC := Lib.hid (HC.out.trans hA)
    have H_y := Lib.hid hN
    clear hA hN hb_y
    go_upto_region 18 with fail
    obtain ⟨v_x_0, v_x_1, v_x_2, v_x_3⟩ := four4 fun _ => (H_x.out).cell
    obtain ⟨v_y_0, v_y_1, v_y_2, v_y_3⟩ := four4 fun _ => (H_y.out).cell
    obtain ⟨v_h_0, v_h_1, v_h_2, v_h_3⟩ := four4 fun _ => (H_h.out).cell
    have Az0 := (HBA.out).cz (k := 0) (by omega)
    have Az1 := (HBA.out).cz (k := 1) (by omega)
    have Az2 := (HBA.out).cz (k := 2) (by omega)
    have Az3 := (HBA.out).cz (k := 3) (by omega)
    have Bz0 := (HBB.out).cz (k := 0) (by omega)
    have Bz1 := (HBB.out).cz (k := 1) (by omega)
    have Bz2 := (HBB.out).cz (k := 2) (by omega)
    have Bz3 := (HBB.out).cz (k := 3) (by omega)
    have hllR := HR.out.lt
    have hRz := HR.out
    refine abs_region (B := Chg [R] wx) (S := fun w => Chg [R] wx w ∧ w.heap[R]? = some (.cells #[.int .u64 0, .int .u64 0, .int .u64 0, .int .u64 0, .int .u64 0, .int .u64 0, .int .u64 0, .int .u64 0, .int .u64 0, .int .u64 0, .int .u64 0, .int .u64 0] 66 (0, 0))) (by kernel_rfl) ⟨(Chg.refl _ _).drew, hRz⟩ ?_
    have hG := good_at [R] wx R (.cells #[.int .u64 0, .int .u64 0, .int .u64 0, .int .u64 0, .int .u64 0, .int .u64 0, .int .u64 0, .int .u64 0, .int .u64 0, .int .u64 0, .int .u64 0, .int .u64 0] 66 (0, 0))
    refine Abs.take_at (i := 0) (d := some 135) (v := ?_) rfl rfl (by kernel_rfl) (by kernel_rfl) (by kernel_rfl) (fun _ _ _ h => h) hG ⟨by rfl, fun w9 hw9 => Or.inl ?_⟩ ?_
    rotate_left
    · replace v_x_0 := hw9.cell v_x_0 (by simp; omega); replace v_x_1 := hw9.cell v_x_1 (by simp; omega); replace v_x_2 := hw9.cell v_x_2 (by simp; omega); replace v_x_3 := hw9.cell v_x_3 (by simp; omega)
      go_simp
      try with_reducible rfl
    simp only [Act.put, stA, stB, stC]
    refine Abs.take_at (i := 1) (d := some 136) (v := ?_) rfl rfl (by kernel_rfl) (by kernel_rfl) (by kernel_rfl) (fun _ _ _ h => h) hG ⟨by rfl, fun w9 hw9 => Or.inl ?_⟩ ?_
    rotate_left
    · replace v_y_0 := hw9.cell v_y_0 (by simp; omega); replace v_y_1 := hw9.cell v_y_1 (by simp; omega); replace v_y_2 := hw9.cell v_y_2 (by simp; omega); replace v_y_3 := hw9.cell v_y_3 (by simp; omega)
      go_simp
      try with_reducible rfl
    simp only [Act.put, stA, stB, stC]
    refine Abs.take_at (i := 2) (d := some 137) (v := ?_) rfl rfl (by kernel_rfl) (by kernel_rfl) (by kernel_rfl) (fun _ _ _ h => h) hG ⟨by rfl, fun w9 hw9 => Or.inl ?_⟩ ?_
    rotate_left
    · go_simp
      try with_reducible rfl
    simp only [Act.put, stA, stB, stC]
    refine Abs.take_at (i := 3) (d := some 138) (v := ?_) rfl rfl (by kernel_rfl) (by kernel_rfl) (by kernel_rfl) (fun _ _ _ h => h) hG ⟨by rfl, fun w9 hw9 => Or.inl ?_⟩ ?_
    rotate_left
    · replace v_h_0 := hw9.cell v_h_0 (by simp; omega); replace v_h_1 := hw9.cell v_h_1 (by simp; omega); replace v_h_2 := hw9.cell v_h_2 (by simp; omega); replace v_h_3 := hw9.cell v_h_3 (by simp; omega)
      go_simp
      try with_reducible rfl
    simp only [Act.put, stA, stB, stC]
    refine Abs.take_at (i := 4) (d := some 139) (v := ?_) rfl rfl (by kernel_rfl) (by kernel_rfl) (by kernel_rfl) (fun _ _ _ h => h) hG ⟨by rfl, fun w9 hw9 => Or.inl ?_⟩ ?_
    rotate_left
    · go_simp
      try with_reducible rfl
    simp only [Act.put, stA, stB, stC]
    refine Abs.take_at (i := 5) (d := some 140) (v := ?_) rfl rfl (by kernel_rfl) (by kernel_rfl) (by kernel_rfl) (fun _ _ _ h => h) hG ⟨by rfl, fun w9 hw9 => Or.inl ?_⟩ ?_
    rotate_left
    · go_simp
      try with_reducible rfl
    simp only [Act.put, stA, stB, stC]
    refine Abs.take_at (i := 6) (d := some 141) (v := ?_) rfl rfl (by kernel_rfl) (by kernel_rfl) (by kernel_rfl) (fun _ _ _ h => h) hG ⟨by rfl, fun w9 hw9 => Or.inl ?_⟩ ?_
    rotate_left
    · replace Az0 := hw9.cell Az0 (by simp; omega); replace Az1 := hw9.cell Az1 (by simp; omega); replace Az2 := hw9.cell Az2 (by simp; omega); replace Az3 := hw9.cell Az3 (by simp; omega)
      go_simp
      try with_reducible rfl
    simp only [Act.put, stA, stB, stC]
    refine Abs.take_at (i := 7) (d := some 142) (v := ?_) rfl rfl (by kernel_rfl) (by kernel_rfl) (by kernel_rfl) (fun _ _ _ h => h) hG ⟨by rfl, fun w9 hw9 => Or.inl ?_⟩ ?_
    rotate_left
    · go_simp
      try with_reducible rfl
    simp only [Act.put, stA, stB, stC]
    refine Abs.take_at (i := 8) (d := some 143) (v := ?_) rfl rfl (by kernel_rfl) (by kernel_rfl) (by kernel_rfl) (fun _ _ _ h => h) hG ⟨by rfl, fun w9 hw9 => Or.inl ?_⟩ ?_
    rotate_left
    · replace Bz0 := hw9.cell Bz0 (by simp; omega); replace Bz1 := hw9.cell Bz1 (by simp; omega); replace Bz2 := hw9.cell Bz2 (by simp; omega); replace Bz3 := hw9.cell Bz3 (by simp; omega)
      go_simp
      try with_reducible rfl
    simp only [Act.put, stA, stB, stC]
    refine Abs.take_at (i := 9) (d := some 144) (v := _) rfl rfl (by kernel_rfl) (by kernel_rfl) (by kernel_rfl) (fun _ _ _ h => h) hG ⟨by rfl, fun w9 hw9 => Or.inr ⟨_, _, ?_, C_zz.out w9 (HP.out.chS hw9 (by simp; omega) (by simp; omega))⟩⟩ ?_
    · go_simp
      try with_reducible rfl
    simp only [Act.put, stA, stB, stC]
    refine Abs.take_at (i := 10) (d := some 145) (v := _) rfl rfl (by kernel_rfl) (by kernel_rfl) (by kernel_rfl) (fun _ _ _ h => h) hG ⟨by rfl, fun w9 hw9 => Or.inr ⟨_, _, ?_, C_z.out w9 (HP.out.chS hw9 (by simp; omega) (by simp; omega))⟩⟩ ?_
    · go_simp
      try with_reducible rfl
    simp only [Act.put, stA, stB, stC]
    refine Abs.take_at (i := 11) (d := some 146) (v := ?_) rfl rfl (by kernel_rfl) (by kernel_rfl) (by kernel_rfl) (fun _ _ _ h => h) hG ⟨by rfl, fun w9 hw9 => Or.inl ?_⟩ ?_
    rotate_left
    · go_simp
      try with_reducible rfl
    simp only [Act.put, stA, stB, stC]
    refine Abs.store4 (i := 12) (b := R) (ds := #[.int .u64 (lm v_x 0 : Nat), .int .u64 (lm v_x 1 : Nat), .int .u64 (lm v_x 2 : Nat), .int .u64 (lm v_x 3 : Nat), .int .u64 (lm v_y 0 : Nat), .int .u64 (lm v_y 1 : Nat), .int .u64 (lm v_y 2 : Nat), .int .u64 (lm v_y 3 : Nat), .int .u64 (lm v_z 0 : Nat), .int .u64 (lm v_z 1 : Nat), .int .u64 (lm v_z 2 : Nat), .int .u64 (lm v_z 3 : Nat)]) rfl (by kernel_rfl) (by rfl) (fun w9 => ((((((((((((w9.setCell ⟨R, 0, none⟩ (.int .u64 (lm v_x 0 : Nat))).setCell ⟨R, 1, none⟩ (.int .u64 (lm v_x 1 : Nat))).setCell ⟨R, 2, none⟩ (.int .u64 (lm v_x 2 : Nat))).setCell ⟨R, 3, none⟩ (.int .u64 (lm v_x 3 : Nat))).setCell ⟨R, 4, none⟩ (.int .u64 (lm v_y 0 : Nat))).setCell ⟨R, 5, none⟩ (.int .u64 (lm v_y 1 : Nat))).setCell ⟨R, 6, none⟩ (.int .u64 (lm v_y 2 : Nat))).setCell ⟨R, 7, none⟩ (.int .u64 (lm v_y 3 : Nat))).setCell ⟨R, 8, none⟩ (.int .u64 (lm v_z 0 : Nat))).setCell ⟨R, 9, none⟩ (.int .u64 (lm v_z 1 : Nat))).setCell ⟨R, 10, none⟩ (.int .u64 (lm v_z 2 : Nat))).setCell ⟨R, 11, none⟩ (.int .u64 (lm v_z 3 : Nat)))) (fun w9 h9 => ⟨?_, ?_, ?_⟩) (fun _ _ h k => Chg.keeps (Or.inl (by simp)) h k) (good_chg [R] wx) (fun hG => ?_)
    · have n0 := cell_of_has h9 0; have n1 := cell_of_has h9 1; have n2 := cell_of_has h9 2; have n3 := cell_of_has h9 3; have n4 := cell_of_has h9 4; have n5 := cell_of_has h9 5; have n6 := cell_of_has h9 6; have n7 := cell_of_has h9 7; have n8 := cell_of_has h9 8; have n9 := cell_of_has h9 9; have n10 := cell_of_has h9 10; have n11 := cell_of_has h9 11
      simp only [glA, glB, glC] at n0 n1 n2 n3 n4 n5 n6 n7 n8 n9 n10 n11
      have nz0 := frozen_of_has h9 0; have nz1 := frozen_of_has h9 1; have nz2 := frozen_of_has h9 2; have nz3 := frozen_of_has h9 3; have nz4 := frozen_of_has h9 4; have nz5 := frozen_of_has h9 5; have nz6 := frozen_of_has h9 6; have nz7 := frozen_of_has h9 7; have nz8 := frozen_of_has h9 8; have nz9 := frozen_of_has h9 9; have nz10 := frozen_of_has h9 10; have nz11 := frozen_of_has h9 11
      clear h9
      go_simp
      try with_reducible rfl
    · exact U12.put (x := 0) (y := 0) (z := 0) (by unfold U12; rw [lm_zero, lm_zero, lm_zero, lm_zero]; exact h9) v_x v_y v_z
    · exact Chg.put12 (Chg.refl _ _) (Or.inl (by simp)) v_x v_y v_z
    refine Abs.at_put (d := none) rfl ?_
    simp only [Act.put, stA, stB, stC]
    refine Abs.done (by kernel_rfl) (fun wx hx => NoPanic.normal ?_) _
    clear hllR v_x_0 v_x_1 v_x_2 v_x_3 v_y_0 v_y_1 v_y_2 v_y_3 v_h_0 v_h_1 v_h_2 v_h_3 Az0 Az1 Az2 Az3 Bz0 Bz1 Bz2 Bz3
    obtain ⟨hA, hN⟩ := hx
    have hCF : Chg [] w wx := HC.out.trans_new hA (by simp; omega)
    clear hA HC HP HR
    have g0 := cell_of_has hN 0; have g1 := cell_of_has hN 1; have g2 := cell_of_has hN 2; have g3 := cell_of_has hN 3; have g4 := cell_of_has hN 4; have g5 := cell_of_has hN 5; have g6 := cell_of_has hN 6; have g7 := cell_of_has hN 7; have g8 := cell_of_has hN 8; have g9 := cell_of_has hN 9; have g10 := cell_of_has hN 10; have g11 := cell_of_has hN 11
    simp only [glA, glB, glC] at g0 g1 g2 g3 g4 g5 g6 g7 g8 g9 g10 g11
    go_wp2_with fail
    exact bodyPost_ret (v := .agg #[.int .u64 (lm v_x 0 : Nat), .int .u64 (lm v_x 1 : Nat), .int .u64 (lm v_x 2 : Nat), .int .u64 (lm v_x 3 : Nat), .int .u64 (lm v_y 0 : Nat), .int .u64 (lm v_y 1 : Nat), .int .u64 (lm v_y 2 : Nat), .int .u64 (lm v_y 3 : Nat), .int .u64 (lm v_z 0 : Nat), .int .u64 (lm v_z 1 : Nat), .int .u64 (lm v_z 2 : Nat), .int .u64 (lm v_z 3 : Nat)]) (by simp [results, Try.results33, go_sem, g0, g1, g2, g3, g4, g5, g6, g7, g8, g9, g10, g11]) rfl ⟨by rw [HZ.out], hCF⟩

theorem plane_plus {l a : Nat} (p q : J) (w : World) (hP : Pl w l a PP vP) :
    Calls Try.prog 33 #[.pointer (some ⟨l, 0, none⟩), .agg (jv p), .agg (jv q)] w fun e w' =>
    e = .returned (.agg (jv (jpl p q))) ∧ Chg [] w w' := by
  unfold jpl
  by_cases hz : p.z = 0
  · rw [if_pos hz]; exact plane_plus_l p q hz w hP
  · rw [if_neg hz]
    by_cases hy : q.z = 0
    · rw [if_pos hy]; exact plane_plus_r p q hz hy w hP
    · rw [if_neg hy]; exact plane_plus_n p q hz hy w hP

end Go.Proofs.Ytplldbmjdnikeaa
