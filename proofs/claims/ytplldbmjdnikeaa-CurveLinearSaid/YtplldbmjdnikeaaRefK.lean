/- The document's points: the walk of wardmoteref03.Plus, the line. Printed by refj.py. -/
import Derived.Test.YtplldbmjdnikeaaRefJ
namespace Go.Proofs.Ytplldbmjdnikeaa
set_option linter.unusedVariables false
set_option linter.unusedSimpArgs false
open Go.RowKit

set_option maxRecDepth 100000 in
set_option maxHeartbeats 8000000 in
theorem rplus_n (p q : J) (hz : ¬ p.z = 0) (hy : ¬ q.z = 0) (hvn : ¬ q.x * p.z - p.x * q.z = 0) (w : World) : Calls Try.prog 36 #[.agg (ov p), .agg (ov q)] w fun e w' => e = .returned (.agg (ov (rplL p q))) ∧ Chg [] w w' := by

  obtain ⟨Axe, heAx⟩ : ∃ e, p.x = e := ⟨_, rfl⟩
  obtain ⟨Axv, hAxv⟩ : ∃ v, Axe.val = v := ⟨_, rfl⟩
  obtain ⟨Aye, heAy⟩ : ∃ e, p.y = e := ⟨_, rfl⟩
  obtain ⟨Ayv, hAyv⟩ : ∃ v, Aye.val = v := ⟨_, rfl⟩
  obtain ⟨Aze, heAz⟩ : ∃ e, p.z = e := ⟨_, rfl⟩
  obtain ⟨Azv, hAzv⟩ : ∃ v, Aze.val = v := ⟨_, rfl⟩
  obtain ⟨Bxe, heBx⟩ : ∃ e, q.x = e := ⟨_, rfl⟩
  obtain ⟨Bxv, hBxv⟩ : ∃ v, Bxe.val = v := ⟨_, rfl⟩
  obtain ⟨Bye, heBy⟩ : ∃ e, q.y = e := ⟨_, rfl⟩
  obtain ⟨Byv, hByv⟩ : ∃ v, Bye.val = v := ⟨_, rfl⟩
  obtain ⟨Bze, heBz⟩ : ∃ e, q.z = e := ⟨_, rfl⟩
  obtain ⟨Bzv, hBzv⟩ : ∃ v, Bze.val = v := ⟨_, rfl⟩
  obtain ⟨e0, he0⟩ : ∃ e, Bye * Aze = e := ⟨_, rfl⟩
  obtain ⟨v0, hv0⟩ : ∃ v, e0.val = v := ⟨_, rfl⟩
  obtain ⟨e1, he1⟩ : ∃ e, Aye * Bze = e := ⟨_, rfl⟩
  obtain ⟨v1, hv1⟩ : ∃ v, e1.val = v := ⟨_, rfl⟩
  obtain ⟨e2, he2⟩ : ∃ e, e0 - e1 = e := ⟨_, rfl⟩
  obtain ⟨v2, hv2⟩ : ∃ v, e2.val = v := ⟨_, rfl⟩
  obtain ⟨e3, he3⟩ : ∃ e, Bxe * Aze = e := ⟨_, rfl⟩
  obtain ⟨v3, hv3⟩ : ∃ v, e3.val = v := ⟨_, rfl⟩
  obtain ⟨e4, he4⟩ : ∃ e, Axe * Bze = e := ⟨_, rfl⟩
  obtain ⟨v4, hv4⟩ : ∃ v, e4.val = v := ⟨_, rfl⟩
  obtain ⟨e5, he5⟩ : ∃ e, e3 - e4 = e := ⟨_, rfl⟩
  obtain ⟨v5, hv5⟩ : ∃ v, e5.val = v := ⟨_, rfl⟩
  obtain ⟨e6, he6⟩ : ∃ e, Aze * Bze = e := ⟨_, rfl⟩
  obtain ⟨v6, hv6⟩ : ∃ v, e6.val = v := ⟨_, rfl⟩
  obtain ⟨e7, he7⟩ : ∃ e, e5 * e5 = e := ⟨_, rfl⟩
  obtain ⟨v7, hv7⟩ : ∃ v, e7.val = v := ⟨_, rfl⟩
  obtain ⟨e8, he8⟩ : ∃ e, e7 * e5 = e := ⟨_, rfl⟩
  obtain ⟨v8, hv8⟩ : ∃ v, e8.val = v := ⟨_, rfl⟩
  obtain ⟨e9, he9⟩ : ∃ e, e7 * e4 = e := ⟨_, rfl⟩
  obtain ⟨v9, hv9⟩ : ∃ v, e9.val = v := ⟨_, rfl⟩
  obtain ⟨e10, he10⟩ : ∃ e, e2 * e2 = e := ⟨_, rfl⟩
  obtain ⟨v10, hv10⟩ : ∃ v, e10.val = v := ⟨_, rfl⟩
  obtain ⟨e11, he11⟩ : ∃ e, e10 * e6 = e := ⟨_, rfl⟩
  obtain ⟨v11, hv11⟩ : ∃ v, e11.val = v := ⟨_, rfl⟩
  obtain ⟨e12, he12⟩ : ∃ e, e11 - e8 = e := ⟨_, rfl⟩
  obtain ⟨v12, hv12⟩ : ∃ v, e12.val = v := ⟨_, rfl⟩
  obtain ⟨e13, he13⟩ : ∃ e, e9 + e9 = e := ⟨_, rfl⟩
  obtain ⟨v13, hv13⟩ : ∃ v, e13.val = v := ⟨_, rfl⟩
  obtain ⟨e14, he14⟩ : ∃ e, e12 - e13 = e := ⟨_, rfl⟩
  obtain ⟨v14, hv14⟩ : ∃ v, e14.val = v := ⟨_, rfl⟩
  obtain ⟨e15, he15⟩ : ∃ e, e5 * e14 = e := ⟨_, rfl⟩
  obtain ⟨v15, hv15⟩ : ∃ v, e15.val = v := ⟨_, rfl⟩
  obtain ⟨e16, he16⟩ : ∃ e, e9 - e14 = e := ⟨_, rfl⟩
  obtain ⟨v16, hv16⟩ : ∃ v, e16.val = v := ⟨_, rfl⟩
  obtain ⟨e17, he17⟩ : ∃ e, e2 * e16 = e := ⟨_, rfl⟩
  obtain ⟨v17, hv17⟩ : ∃ v, e17.val = v := ⟨_, rfl⟩
  obtain ⟨e18, he18⟩ : ∃ e, e8 * e1 = e := ⟨_, rfl⟩
  obtain ⟨v18, hv18⟩ : ∃ v, e18.val = v := ⟨_, rfl⟩
  obtain ⟨e19, he19⟩ : ∃ e, e17 - e18 = e := ⟨_, rfl⟩
  obtain ⟨v19, hv19⟩ : ∃ v, e19.val = v := ⟨_, rfl⟩
  obtain ⟨e20, he20⟩ : ∃ e, e8 * e6 = e := ⟨_, rfl⟩
  obtain ⟨v20, hv20⟩ : ∃ v, e20.val = v := ⟨_, rfl⟩
  have C0 := Lib.hid (fun w => rp_mul (t := v0) hByv hAzv (by rw [he0]; exact hv0) w)
  have C1 := Lib.hid (fun w => rp_mul (t := v1) hAyv hBzv (by rw [he1]; exact hv1) w)
  have C2 := Lib.hid (fun w => rp_sub (t := v2) hv0 hv1 (by rw [he2]; exact hv2) w)
  have C3 := Lib.hid (fun w => rp_mul (t := v3) hBxv hAzv (by rw [he3]; exact hv3) w)
  have C4 := Lib.hid (fun w => rp_mul (t := v4) hAxv hBzv (by rw [he4]; exact hv4) w)
  have C5 := Lib.hid (fun w => rp_sub (t := v5) hv3 hv4 (by rw [he5]; exact hv5) w)
  have C6 := Lib.hid (fun w => rp_mul (t := v6) hAzv hBzv (by rw [he6]; exact hv6) w)
  have C7 := Lib.hid (fun w => rp_mul (t := v7) hv5 hv5 (by rw [he7]; exact hv7) w)
  have C8 := Lib.hid (fun w => rp_mul (t := v8) hv7 hv5 (by rw [he8]; exact hv8) w)
  have C9 := Lib.hid (fun w => rp_mul (t := v9) hv7 hv4 (by rw [he9]; exact hv9) w)
  have C10 := Lib.hid (fun w => rp_mul (t := v10) hv2 hv2 (by rw [he10]; exact hv10) w)
  have C11 := Lib.hid (fun w => rp_mul (t := v11) hv10 hv6 (by rw [he11]; exact hv11) w)
  have C12 := Lib.hid (fun w => rp_sub (t := v12) hv11 hv8 (by rw [he12]; exact hv12) w)
  have C13 := Lib.hid (fun w => rp_add (t := v13) hv9 hv9 (by rw [he13]; exact hv13) w)
  have C14 := Lib.hid (fun w => rp_sub (t := v14) hv12 hv13 (by rw [he14]; exact hv14) w)
  have C15 := Lib.hid (fun w => rp_mul (t := v15) hv5 hv14 (by rw [he15]; exact hv15) w)
  have C16 := Lib.hid (fun w => rp_sub (t := v16) hv9 hv14 (by rw [he16]; exact hv16) w)
  have C17 := Lib.hid (fun w => rp_mul (t := v17) hv2 hv16 (by rw [he17]; exact hv17) w)
  have C18 := Lib.hid (fun w => rp_mul (t := v18) hv8 hv1 (by rw [he18]; exact hv18) w)
  have C19 := Lib.hid (fun w => rp_sub (t := v19) hv17 hv18 (by rw [he19]; exact hv19) w)
  have C20 := Lib.hid (fun w => rp_mul (t := v20) hv8 hv6 (by rw [he20]; exact hv20) w)
  obtain ⟨Zr, hZr⟩ : ∃ Z, ov (rplL p q) = Z := ⟨_, rfl⟩
  rw [hZr]
  have hve : q.x * p.z - p.x * q.z = e5 := by rw [heBx, heAz, heAx, heBz]; subst he20; subst he19; subst he18; subst he17; subst he16; subst he15; subst he14; subst he13; subst he12; subst he11; subst he10; subst he9; subst he8; subst he7; subst he6; subst he5; subst he4; subst he3; subst he2; subst he1; subst he0; rfl
  have hue : q.y * p.z - p.y * q.z = e2 := by rw [heBy, heAz, heAy, heBz]; subst he20; subst he19; subst he18; subst he17; subst he16; subst he15; subst he14; subst he13; subst he12; subst he11; subst he10; subst he9; subst he8; subst he7; subst he6; subst he5; subst he4; subst he3; subst he2; subst he1; subst he0; rfl
  have hres : rplL p q = ⟨e15, e19, e20⟩ := by
    clear hve hue hvn
    subst he20; subst he19; subst he18; subst he17; subst he16; subst he15; subst he14; subst he13; subst he12; subst he11; subst he10; subst he9; subst he8; subst he7; subst he6; subst he5; subst he4; subst he3; subst he2; subst he1; subst he0
    subst heAx; subst heAy; subst heAz; subst heBx; subst heBy; subst heBz
    rfl
  have HZ := Lib.hid (show Zr = #[.int .u64 (lm v15 0 : Nat), .int .u64 (lm v15 1 : Nat), .int .u64 (lm v15 2 : Nat), .int .u64 (lm v15 3 : Nat), .int .u64 (lm v19 0 : Nat), .int .u64 (lm v19 1 : Nat), .int .u64 (lm v19 2 : Nat), .int .u64 (lm v19 3 : Nat), .int .u64 (lm v20 0 : Nat), .int .u64 (lm v20 1 : Nat), .int .u64 (lm v20 2 : Nat), .int .u64 (lm v20 3 : Nat)] by rw [← hZr, hres]; exact ov_mk hv15 hv19 hv20)
  have Q3 := Lib.hid (fun w => rp_zero hv5 false (by rw [← hve]; simpa using hvn) w)
  clear hres hvn
  have Q1 := Lib.hid (fun w => rp_zero hAzv false (by rw [← heAz]; simpa using hz) w)
  have Q2 := Lib.hid (fun w => rp_zero hBzv false (by rw [← heBz]; simpa using hy) w)
  have HBase := Lib.hid rp_base
  have hj : ov p = #[.int .u64 (lm Axv 0 : Nat), .int .u64 (lm Axv 1 : Nat), .int .u64 (lm Axv 2 : Nat), .int .u64 (lm Axv 3 : Nat), .int .u64 (lm Ayv 0 : Nat), .int .u64 (lm Ayv 1 : Nat), .int .u64 (lm Ayv 2 : Nat), .int .u64 (lm Ayv 3 : Nat), .int .u64 (lm Azv 0 : Nat), .int .u64 (lm Azv 1 : Nat), .int .u64 (lm Azv 2 : Nat), .int .u64 (lm Azv 3 : Nat)] := by unfold ov; rw [heAx, heAy, heAz, hAxv, hAyv, hAzv]
  have hj2 : ov q = #[.int .u64 (lm Bxv 0 : Nat), .int .u64 (lm Bxv 1 : Nat), .int .u64 (lm Bxv 2 : Nat), .int .u64 (lm Bxv 3 : Nat), .int .u64 (lm Byv 0 : Nat), .int .u64 (lm Byv 1 : Nat), .int .u64 (lm Byv 2 : Nat), .int .u64 (lm Byv 3 : Nat), .int .u64 (lm Bzv 0 : Nat), .int .u64 (lm Bzv 1 : Nat), .int .u64 (lm Bzv 2 : Nat), .int .u64 (lm Bzv 3 : Nat)] := by unfold ov; rw [heBx, heBy, heBz, hBxv, hByv, hBzv]
  rw [hj, hj2]
  clear hj hj2 hZr hve hue hz hy heAx hAxv heAy hAyv heAz hAzv heBx hBxv heBy hByv heBz hBzv he0 hv0 he1 hv1 he2 hv2 he3 hv3 he4 hv4 he5 hv5 he6 hv6 he7 hv7 he8 hv8 he9 hv9 he10 hv10 he11 hv11 he12 hv12 he13 hv13 he14 hv14 he15 hv15 he16 hv16 he17 hv17 he18 hv18 he19 hv19 he20 hv20
  obtain ⟨W0, hW0⟩ : ∃ W0, ((w.alloc (.cells #[.int .u64 (lm Axv 0 : Nat), .int .u64 (lm Axv 1 : Nat), .int .u64 (lm Axv 2 : Nat), .int .u64 (lm Axv 3 : Nat), .int .u64 (lm Ayv 0 : Nat), .int .u64 (lm Ayv 1 : Nat), .int .u64 (lm Ayv 2 : Nat), .int .u64 (lm Ayv 3 : Nat), .int .u64 (lm Azv 0 : Nat), .int .u64 (lm Azv 1 : Nat), .int .u64 (lm Azv 2 : Nat), .int .u64 (lm Azv 3 : Nat)] 71)).alloc (.cells #[.int .u64 (lm Bxv 0 : Nat), .int .u64 (lm Bxv 1 : Nat), .int .u64 (lm Bxv 2 : Nat), .int .u64 (lm Bxv 3 : Nat), .int .u64 (lm Byv 0 : Nat), .int .u64 (lm Byv 1 : Nat), .int .u64 (lm Byv 2 : Nat), .int .u64 (lm Byv 3 : Nat), .int .u64 (lm Bzv 0 : Nat), .int .u64 (lm Bzv 1 : Nat), .int .u64 (lm Bzv 2 : Nat), .int .u64 (lm Bzv 3 : Nat)] 71)).alloc (.cells #[.int .u64 0, .int .u64 0, .int .u64 0, .int .u64 0, .int .u64 0, .int .u64 0, .int .u64 0, .int .u64 0, .int .u64 0, .int .u64 0, .int .u64 0, .int .u64 0] 71) = W0 := ⟨_, rfl⟩
  have HBA := Lib.hid (show U12 W0 (w.heap.size) 71 Axv Ayv Azv by rw [← hW0]; exact has_alloc (has_alloc (has_alloc_new _ _)))
  have HBB := Lib.hid (show U12 W0 (w.heap.size + 1) 71 Bxv Byv Bzv by rw [← hW0]; exact has_alloc (has_alloc_at (by simp)))
  have HR := Lib.hid (show Z12 W0 (w.heap.size + 1 + 1) 71 by rw [← hW0]; exact has_alloc_at (by simp))
  have HC := Lib.hid (show Chg [] w W0 by rw [← hW0]; exact (((Chg.refl _ _).alloc _).alloc _).alloc _)
  obtain ⟨Az0, Az1, Az2, Az3⟩ := four4 fun _ => (HBA.out).cz
  go_enter Try.func36, Try.ntmps36
  go_wp2_with fail
  try rw [hW0]
  clear hW0
  obtain ⟨P, hP⟩ : ∃ P, w.heap.size = P := ⟨_, rfl⟩
  rw [hP] at HBA HBB HR Az0 Az1 Az2 Az3 ⊢
  obtain ⟨R, hR⟩ : ∃ R, P + 1 + 1 = R := ⟨_, rfl⟩
  rw [hR] at HR ⊢
  have hRP : P < R := by omega
  have hRP2 : P + 1 < R := by omega
  replace hR := Lib.hid hR
  replace hP := Lib.hid hP
  refine (Q1.out _).mono ?_
  rintro e w1 ⟨rfl, hC1⟩
  clear Az0 Az1 Az2 Az3
  replace HBA := Lib.hid (HBA.out.chg hC1 nmN)
  replace HBB := Lib.hid (HBB.out.chg hC1 nmN)
  replace HR := Lib.hid (HR.out.chg hC1 nmN)
  replace HC := Lib.hid (HC.out.trans hC1)
  clear hC1
  obtain ⟨Bz0, Bz1, Bz2, Bz3⟩ := four4 fun _ => (HBB.out).cz
  go_wp2_with fail
  refine (Q2.out _).mono ?_
  rintro e w1 ⟨rfl, hC1⟩
  clear Bz0 Bz1 Bz2 Bz3
  replace HBA := Lib.hid (HBA.out.chg hC1 nmN)
  replace HBB := Lib.hid (HBB.out.chg hC1 nmN)
  replace HR := Lib.hid (HR.out.chg hC1 nmN)
  replace HC := Lib.hid (HC.out.trans hC1)
  clear hC1
  go_wp2_with fail
  refine (HBase.out _).mono ?_
  rintro e w1 ⟨rfl, hC1⟩
  replace HBA := Lib.hid (HBA.out.chg hC1 nmN)
  replace HBB := Lib.hid (HBB.out.chg hC1 nmN)
  replace HR := Lib.hid (HR.out.chg hC1 nmN)
  replace HC := Lib.hid (HC.out.trans hC1)
  clear hC1
  obtain ⟨W1, hW1⟩ : ∃ W1, w1.alloc (.cells #[.int .u64 (lm PP 0 : Nat), .int .u64 (lm PP 1 : Nat), .int .u64 (lm PP 2 : Nat), .int .u64 (lm PP 3 : Nat), .int .u64 (lm cP 0 : Nat), .int .u64 (lm cP 1 : Nat), .int .u64 (lm cP 2 : Nat), .int .u64 (lm cP 3 : Nat)] 76) = W1 := ⟨_, rfl⟩
  have hA : Chg [] w1 W1 := by rw [← hW1]; exact (Chg.refl _ _).alloc _
  have hN : UD W1 w1.heap.size PP cP := by rw [← hW1]; exact has_alloc_new _ _
  obtain ⟨bD, hb⟩ : ∃ b, w1.heap.size = b := ⟨_, rfl⟩
  have lD : R < bD := by rw [← hb]; exact HR.out.lt
  rw [hb] at hN
  replace HBA := Lib.hid (HBA.out.chg hA nmN)
  replace HBB := Lib.hid (HBB.out.chg hA nmN)
  replace HR := Lib.hid (HR.out.chg hA nmN)
  replace HC := Lib.hid (HC.out.trans hA)
  have HD := Lib.hid hN
  go_upto_region 6 with fail
  try rw [hW1]
  try rw [hb]
  clear hW1 hb hA hN
  obtain ⟨D0, D1, D2, D3⟩ := four4 fun _ => (HD.out).cm; obtain ⟨D4, D5, D6, D7⟩ := four4 fun _ => (HD.out).cc
  obtain ⟨By0, By1, By2, By3⟩ := four4 fun _ => (HBB.out).cy
  obtain ⟨Az0, Az1, Az2, Az3⟩ := four4 fun _ => (HBA.out).cz
  obtain ⟨Ay0, Ay1, Ay2, Ay3⟩ := four4 fun _ => (HBA.out).cy
  obtain ⟨Bz0, Bz1, Bz2, Bz3⟩ := four4 fun _ => (HBB.out).cz
  refine abs_region (B := Chg [] W1) (S := Chg [] W1) (by kernel_rfl) ((Chg.refl _ _).drew) ?_
  have hG := good_chg [] W1
  refine Abs.take_np (i := 0) (d := some 22) (v := ?_) rfl rfl (by kernel_rfl) (by kernel_rfl) (by kernel_rfl) hG ⟨by rfl, fun w9 hw9 => Or.inl ?_⟩ ?_
  rotate_left
  · replace D0 := hw9.cell D0 nmN; replace D1 := hw9.cell D1 nmN; replace D2 := hw9.cell D2 nmN; replace D3 := hw9.cell D3 nmN; replace D4 := hw9.cell D4 nmN; replace D5 := hw9.cell D5 nmN; replace D6 := hw9.cell D6 nmN; replace D7 := hw9.cell D7 nmN
    go_simp
    try with_reducible rfl
  simp only [Act.put, stA, stB, stC]
  refine Abs.take_np (i := 1) (d := some 23) (v := ?_) rfl rfl (by kernel_rfl) (by kernel_rfl) (by kernel_rfl) hG ⟨by rfl, fun w9 hw9 => Or.inl ?_⟩ ?_
  rotate_left
  · replace D0 := hw9.cell D0 nmN; replace D1 := hw9.cell D1 nmN; replace D2 := hw9.cell D2 nmN; replace D3 := hw9.cell D3 nmN; replace D4 := hw9.cell D4 nmN; replace D5 := hw9.cell D5 nmN; replace D6 := hw9.cell D6 nmN; replace D7 := hw9.cell D7 nmN
    go_simp
    try with_reducible rfl
  simp only [Act.put, stA, stB, stC]
  refine Abs.take_np (i := 2) (d := some 24) (v := ?_) rfl rfl (by kernel_rfl) (by kernel_rfl) (by kernel_rfl) hG ⟨by rfl, fun w9 hw9 => Or.inl ?_⟩ ?_
  rotate_left
  · go_simp
    try with_reducible rfl
  simp only [Act.put, stA, stB, stC]
  refine Abs.take_np (i := 3) (d := some 25) (v := ?_) rfl rfl (by kernel_rfl) (by kernel_rfl) (by kernel_rfl) hG ⟨by rfl, fun w9 hw9 => Or.inl ?_⟩ ?_
  rotate_left
  · replace By0 := hw9.cell By0 nmN; replace By1 := hw9.cell By1 nmN; replace By2 := hw9.cell By2 nmN; replace By3 := hw9.cell By3 nmN
    go_simp
    try with_reducible rfl
  simp only [Act.put, stA, stB, stC]
  refine Abs.take_np (i := 4) (d := some 26) (v := ?_) rfl rfl (by kernel_rfl) (by kernel_rfl) (by kernel_rfl) hG ⟨by rfl, fun w9 hw9 => Or.inl ?_⟩ ?_
  rotate_left
  · go_simp
    try with_reducible rfl
  simp only [Act.put, stA, stB, stC]
  refine Abs.take_np (i := 5) (d := some 27) (v := ?_) rfl rfl (by kernel_rfl) (by kernel_rfl) (by kernel_rfl) hG ⟨by rfl, fun w9 hw9 => Or.inl ?_⟩ ?_
  rotate_left
  · replace Az0 := hw9.cell Az0 nmN; replace Az1 := hw9.cell Az1 nmN; replace Az2 := hw9.cell Az2 nmN; replace Az3 := hw9.cell Az3 nmN
    go_simp
    try with_reducible rfl
  simp only [Act.put, stA, stB, stC]
  refine Abs.take_np (i := 6) (d := some 28) (v := _) rfl rfl (by kernel_rfl) (by kernel_rfl) (by kernel_rfl) hG ⟨by rfl, fun w9 hw9 => Or.inr ⟨_, _, ?_, C0.out w9⟩⟩ ?_
  · go_simp
    try with_reducible rfl
  simp only [Act.put, stA, stB, stC]
  refine Abs.take_np (i := 7) (d := some 29) (v := ?_) rfl rfl (by kernel_rfl) (by kernel_rfl) (by kernel_rfl) hG ⟨by rfl, fun w9 hw9 => Or.inl ?_⟩ ?_
  rotate_left
  · replace D0 := hw9.cell D0 nmN; replace D1 := hw9.cell D1 nmN; replace D2 := hw9.cell D2 nmN; replace D3 := hw9.cell D3 nmN; replace D4 := hw9.cell D4 nmN; replace D5 := hw9.cell D5 nmN; replace D6 := hw9.cell D6 nmN; replace D7 := hw9.cell D7 nmN
    go_simp
    try with_reducible rfl
  simp only [Act.put, stA, stB, stC]
  refine Abs.take_np (i := 8) (d := some 30) (v := ?_) rfl rfl (by kernel_rfl) (by kernel_rfl) (by kernel_rfl) hG ⟨by rfl, fun w9 hw9 => Or.inl ?_⟩ ?_
  rotate_left
  · go_simp
    try with_reducible rfl
  simp only [Act.put, stA, stB, stC]
  refine Abs.take_np (i := 9) (d := some 31) (v := ?_) rfl rfl (by kernel_rfl) (by kernel_rfl) (by kernel_rfl) hG ⟨by rfl, fun w9 hw9 => Or.inl ?_⟩ ?_
  rotate_left
  · replace Ay0 := hw9.cell Ay0 nmN; replace Ay1 := hw9.cell Ay1 nmN; replace Ay2 := hw9.cell Ay2 nmN; replace Ay3 := hw9.cell Ay3 nmN
    go_simp
    try with_reducible rfl
  simp only [Act.put, stA, stB, stC]
  refine Abs.take_np (i := 10) (d := some 32) (v := ?_) rfl rfl (by kernel_rfl) (by kernel_rfl) (by kernel_rfl) hG ⟨by rfl, fun w9 hw9 => Or.inl ?_⟩ ?_
  rotate_left
  · go_simp
    try with_reducible rfl
  simp only [Act.put, stA, stB, stC]
  refine Abs.take_np (i := 11) (d := some 33) (v := ?_) rfl rfl (by kernel_rfl) (by kernel_rfl) (by kernel_rfl) hG ⟨by rfl, fun w9 hw9 => Or.inl ?_⟩ ?_
  rotate_left
  · replace Bz0 := hw9.cell Bz0 nmN; replace Bz1 := hw9.cell Bz1 nmN; replace Bz2 := hw9.cell Bz2 nmN; replace Bz3 := hw9.cell Bz3 nmN
    go_simp
    try with_reducible rfl
  simp only [Act.put, stA, stB, stC]
  refine Abs.take_np (i := 12) (d := some 34) (v := _) rfl rfl (by kernel_rfl) (by kernel_rfl) (by kernel_rfl) hG ⟨by rfl, fun w9 hw9 => Or.inr ⟨_, _, ?_, C1.out w9⟩⟩ ?_
  · go_simp
    try with_reducible rfl
  simp only [Act.put, stA, stB, stC]
  refine Abs.take_np (i := 13) (d := some 35) (v := _) rfl rfl (by kernel_rfl) (by kernel_rfl) (by kernel_rfl) hG ⟨by rfl, fun w9 hw9 => Or.inr ⟨_, _, ?_, C2.out w9⟩⟩ ?_
  · go_simp
    try with_reducible rfl
  simp only [Act.put, stA, stB, stC]
  refine Abs.alloc4 (i := 14) (t := 24) (X := []) (W := W1) rfl (by kernel_rfl) (by rfl) hG (fun _ h => h) (fun w9 => ?_) (fun b2 hb2 hG => ?_)
  · go_simp
    try with_reducible rfl
  refine Abs.at_put (d := some 6) rfl ?_
  simp only [Act.put, stA, stB, stC]
  refine Abs.store4 (i := 15) (b := b2) (ds := #[.int .u64 (lm v2 0 : Nat), .int .u64 (lm v2 1 : Nat), .int .u64 (lm v2 2 : Nat), .int .u64 (lm v2 3 : Nat)]) rfl (by kernel_rfl) (by rfl) (fun w9 => (((w9.setCell ⟨b2, 0, none⟩ (.int .u64 (lm v2 0 : Nat))).setCell ⟨b2, 1, none⟩ (.int .u64 (lm v2 1 : Nat))).setCell ⟨b2, 2, none⟩ (.int .u64 (lm v2 2 : Nat))).setCell ⟨b2, 3, none⟩ (.int .u64 (lm v2 3 : Nat))) (fun w9 h9 => ⟨?_, ?_, ?_⟩) (fun _ _ h k => Chg.keeps (Or.inr hb2) h k) (good_chg [] W1) (fun hG => ?_)
  · have n0 := cell_of_has h9 0; have n1 := cell_of_has h9 1; have n2 := cell_of_has h9 2; have n3 := cell_of_has h9 3
    simp only [glA, glB, glC] at n0 n1 n2 n3
    have z0 := frozen_of_has h9 0; have z1 := frozen_of_has h9 1; have z2 := frozen_of_has h9 2; have z3 := frozen_of_has h9 3
    clear h9
    go_simp
    try with_reducible rfl
  · exact U4.put_x (x := fun _ => 0) h9 v2
  · exact Chg.put_x (Chg.refl _ _) (Or.inl (by simp)) v2
  refine Abs.at_put (d := none) rfl ?_
  simp only [Act.put, stA, stB, stC]
  refine Abs.done (by kernel_rfl) (fun wx hx => NoPanic.normal ?_) _
  clear D0 D1 D2 D3 D4 D5 D6 D7 By0 By1 By2 By3 Az0 Az1 Az2 Az3 Ay0 Ay1 Ay2 Ay3 Bz0 Bz1 Bz2 Bz3
  obtain ⟨hA, hN⟩ := hx
  have l2 : R < b2 := Nat.lt_of_lt_of_le HR.out.lt hb2
  have hN : U4 wx b2 24 (lm v2) := hN
  replace HBA := Lib.hid (HBA.out.chg hA nmN)
  replace HBB := Lib.hid (HBB.out.chg hA nmN)
  replace HR := Lib.hid (HR.out.chg hA nmN)
  replace HC := Lib.hid (HC.out.trans hA)
  replace HD := Lib.hid (HD.out.chg hA nmN)
  have H_2 := Lib.hid hN
  clear hA hN hb2
  go_upto_region 7 with fail
  obtain ⟨D0, D1, D2, D3⟩ := four4 fun _ => (HD.out).cm; obtain ⟨D4, D5, D6, D7⟩ := four4 fun _ => (HD.out).cc
  obtain ⟨Bx0, Bx1, Bx2, Bx3⟩ := four4 fun _ => (HBB.out).cx
  obtain ⟨Az0, Az1, Az2, Az3⟩ := four4 fun _ => (HBA.out).cz
  obtain ⟨Ax0, Ax1, Ax2, Ax3⟩ := four4 fun _ => (HBA.out).cx
  obtain ⟨Bz0, Bz1, Bz2, Bz3⟩ := four4 fun _ => (HBB.out).cz
  refine abs_region (B := Chg [] wx) (S := Chg [] wx) (by kernel_rfl) ((Chg.refl _ _).drew) ?_
  have hG := good_chg [] wx
  refine Abs.take_np (i := 0) (d := some 36) (v := ?_) rfl rfl (by kernel_rfl) (by kernel_rfl) (by kernel_rfl) hG ⟨by rfl, fun w9 hw9 => Or.inl ?_⟩ ?_
  rotate_left
  · replace D0 := hw9.cell D0 nmN; replace D1 := hw9.cell D1 nmN; replace D2 := hw9.cell D2 nmN; replace D3 := hw9.cell D3 nmN; replace D4 := hw9.cell D4 nmN; replace D5 := hw9.cell D5 nmN; replace D6 := hw9.cell D6 nmN; replace D7 := hw9.cell D7 nmN
    go_simp
    try with_reducible rfl
  simp only [Act.put, stA, stB, stC]
  refine Abs.take_np (i := 1) (d := some 37) (v := ?_) rfl rfl (by kernel_rfl) (by kernel_rfl) (by kernel_rfl) hG ⟨by rfl, fun w9 hw9 => Or.inl ?_⟩ ?_
  rotate_left
  · replace D0 := hw9.cell D0 nmN; replace D1 := hw9.cell D1 nmN; replace D2 := hw9.cell D2 nmN; replace D3 := hw9.cell D3 nmN; replace D4 := hw9.cell D4 nmN; replace D5 := hw9.cell D5 nmN; replace D6 := hw9.cell D6 nmN; replace D7 := hw9.cell D7 nmN
    go_simp
    try with_reducible rfl
  simp only [Act.put, stA, stB, stC]
  refine Abs.take_np (i := 2) (d := some 38) (v := ?_) rfl rfl (by kernel_rfl) (by kernel_rfl) (by kernel_rfl) hG ⟨by rfl, fun w9 hw9 => Or.inl ?_⟩ ?_
  rotate_left
  · go_simp
    try with_reducible rfl
  simp only [Act.put, stA, stB, stC]
  refine Abs.take_np (i := 3) (d := some 39) (v := ?_) rfl rfl (by kernel_rfl) (by kernel_rfl) (by kernel_rfl) hG ⟨by rfl, fun w9 hw9 => Or.inl ?_⟩ ?_
  rotate_left
  · replace Bx0 := hw9.cell Bx0 nmN; replace Bx1 := hw9.cell Bx1 nmN; replace Bx2 := hw9.cell Bx2 nmN; replace Bx3 := hw9.cell Bx3 nmN
    go_simp
    try with_reducible rfl
  simp only [Act.put, stA, stB, stC]
  refine Abs.take_np (i := 4) (d := some 40) (v := ?_) rfl rfl (by kernel_rfl) (by kernel_rfl) (by kernel_rfl) hG ⟨by rfl, fun w9 hw9 => Or.inl ?_⟩ ?_
  rotate_left
  · go_simp
    try with_reducible rfl
  simp only [Act.put, stA, stB, stC]
  refine Abs.take_np (i := 5) (d := some 41) (v := ?_) rfl rfl (by kernel_rfl) (by kernel_rfl) (by kernel_rfl) hG ⟨by rfl, fun w9 hw9 => Or.inl ?_⟩ ?_
  rotate_left
  · replace Az0 := hw9.cell Az0 nmN; replace Az1 := hw9.cell Az1 nmN; replace Az2 := hw9.cell Az2 nmN; replace Az3 := hw9.cell Az3 nmN
    go_simp
    try with_reducible rfl
  simp only [Act.put, stA, stB, stC]
  refine Abs.take_np (i := 6) (d := some 42) (v := _) rfl rfl (by kernel_rfl) (by kernel_rfl) (by kernel_rfl) hG ⟨by rfl, fun w9 hw9 => Or.inr ⟨_, _, ?_, C3.out w9⟩⟩ ?_
  · go_simp
    try with_reducible rfl
  simp only [Act.put, stA, stB, stC]
  refine Abs.take_np (i := 7) (d := some 43) (v := ?_) rfl rfl (by kernel_rfl) (by kernel_rfl) (by kernel_rfl) hG ⟨by rfl, fun w9 hw9 => Or.inl ?_⟩ ?_
  rotate_left
  · replace D0 := hw9.cell D0 nmN; replace D1 := hw9.cell D1 nmN; replace D2 := hw9.cell D2 nmN; replace D3 := hw9.cell D3 nmN; replace D4 := hw9.cell D4 nmN; replace D5 := hw9.cell D5 nmN; replace D6 := hw9.cell D6 nmN; replace D7 := hw9.cell D7 nmN
    go_simp
    try with_reducible rfl
  simp only [Act.put, stA, stB, stC]
  refine Abs.take_np (i := 8) (d := some 44) (v := ?_) rfl rfl (by kernel_rfl) (by kernel_rfl) (by kernel_rfl) hG ⟨by rfl, fun w9 hw9 => Or.inl ?_⟩ ?_
  rotate_left
  · go_simp
    try with_reducible rfl
  simp only [Act.put, stA, stB, stC]
  refine Abs.take_np (i := 9) (d := some 45) (v := ?_) rfl rfl (by kernel_rfl) (by kernel_rfl) (by kernel_rfl) hG ⟨by rfl, fun w9 hw9 => Or.inl ?_⟩ ?_
  rotate_left
  · replace Ax0 := hw9.cell Ax0 nmN; replace Ax1 := hw9.cell Ax1 nmN; replace Ax2 := hw9.cell Ax2 nmN; replace Ax3 := hw9.cell Ax3 nmN
    go_simp
    try with_reducible rfl
  simp only [Act.put, stA, stB, stC]
  refine Abs.take_np (i := 10) (d := some 46) (v := ?_) rfl rfl (by kernel_rfl) (by kernel_rfl) (by kernel_rfl) hG ⟨by rfl, fun w9 hw9 => Or.inl ?_⟩ ?_
  rotate_left
  · go_simp
    try with_reducible rfl
  simp only [Act.put, stA, stB, stC]
  refine Abs.take_np (i := 11) (d := some 47) (v := ?_) rfl rfl (by kernel_rfl) (by kernel_rfl) (by kernel_rfl) hG ⟨by rfl, fun w9 hw9 => Or.inl ?_⟩ ?_
  rotate_left
  · replace Bz0 := hw9.cell Bz0 nmN; replace Bz1 := hw9.cell Bz1 nmN; replace Bz2 := hw9.cell Bz2 nmN; replace Bz3 := hw9.cell Bz3 nmN
    go_simp
    try with_reducible rfl
  simp only [Act.put, stA, stB, stC]
  refine Abs.take_np (i := 12) (d := some 48) (v := _) rfl rfl (by kernel_rfl) (by kernel_rfl) (by kernel_rfl) hG ⟨by rfl, fun w9 hw9 => Or.inr ⟨_, _, ?_, C4.out w9⟩⟩ ?_
  · go_simp
    try with_reducible rfl
  simp only [Act.put, stA, stB, stC]
  refine Abs.take_np (i := 13) (d := some 49) (v := _) rfl rfl (by kernel_rfl) (by kernel_rfl) (by kernel_rfl) hG ⟨by rfl, fun w9 hw9 => Or.inr ⟨_, _, ?_, C5.out w9⟩⟩ ?_
  · go_simp
    try with_reducible rfl
  simp only [Act.put, stA, stB, stC]
  refine Abs.alloc4 (i := 14) (t := 24) (X := []) (W := wx) rfl (by kernel_rfl) (by rfl) hG (fun _ h => h) (fun w9 => ?_) (fun b5 hb5 hG => ?_)
  · go_simp
    try with_reducible rfl
  refine Abs.at_put (d := some 7) rfl ?_
  simp only [Act.put, stA, stB, stC]
  refine Abs.store4 (i := 15) (b := b5) (ds := #[.int .u64 (lm v5 0 : Nat), .int .u64 (lm v5 1 : Nat), .int .u64 (lm v5 2 : Nat), .int .u64 (lm v5 3 : Nat)]) rfl (by kernel_rfl) (by rfl) (fun w9 => (((w9.setCell ⟨b5, 0, none⟩ (.int .u64 (lm v5 0 : Nat))).setCell ⟨b5, 1, none⟩ (.int .u64 (lm v5 1 : Nat))).setCell ⟨b5, 2, none⟩ (.int .u64 (lm v5 2 : Nat))).setCell ⟨b5, 3, none⟩ (.int .u64 (lm v5 3 : Nat))) (fun w9 h9 => ⟨?_, ?_, ?_⟩) (fun _ _ h k => Chg.keeps (Or.inr hb5) h k) (good_chg [] wx) (fun hG => ?_)
  · have n0 := cell_of_has h9 0; have n1 := cell_of_has h9 1; have n2 := cell_of_has h9 2; have n3 := cell_of_has h9 3
    simp only [glA, glB, glC] at n0 n1 n2 n3
    have z0 := frozen_of_has h9 0; have z1 := frozen_of_has h9 1; have z2 := frozen_of_has h9 2; have z3 := frozen_of_has h9 3
    clear h9
    go_simp
    try with_reducible rfl
  · exact U4.put_x (x := fun _ => 0) h9 v5
  · exact Chg.put_x (Chg.refl _ _) (Or.inl (by simp)) v5
  refine Abs.at_put (d := none) rfl ?_
  simp only [Act.put, stA, stB, stC]
  refine Abs.done (by kernel_rfl) (fun wx hx => NoPanic.normal ?_) _
  clear D0 D1 D2 D3 D4 D5 D6 D7 Bx0 Bx1 Bx2 Bx3 Az0 Az1 Az2 Az3 Ax0 Ax1 Ax2 Ax3 Bz0 Bz1 Bz2 Bz3
  obtain ⟨hA, hN⟩ := hx
  have l5 : R < b5 := Nat.lt_of_lt_of_le HR.out.lt hb5
  have hN : U4 wx b5 24 (lm v5) := hN
  replace HBA := Lib.hid (HBA.out.chg hA nmN)
  replace HBB := Lib.hid (HBB.out.chg hA nmN)
  replace HR := Lib.hid (HR.out.chg hA nmN)
  replace HC := Lib.hid (HC.out.trans hA)
  replace HD := Lib.hid (HD.out.chg hA nmN)
  replace H_2 := Lib.hid (H_2.out.chg hA nmN)
  have H_5 := Lib.hid hN
  clear hA hN hb5
  go_upto_region 8 with fail
  obtain ⟨w5_0, w5_1, w5_2, w5_3⟩ := four4 fun _ => (H_5.out).cell
  go_wp2_with fail
  refine (Q3.out _).mono ?_
  rintro e w1 ⟨rfl, hC1⟩
  clear w5_0 w5_1 w5_2 w5_3
  replace HBA := Lib.hid (HBA.out.chg hC1 nmN)
  replace HBB := Lib.hid (HBB.out.chg hC1 nmN)
  replace HR := Lib.hid (HR.out.chg hC1 nmN)
  replace HC := Lib.hid (HC.out.trans hC1)
  replace HD := Lib.hid (HD.out.chg hC1 nmN)
  replace H_2 := Lib.hid (H_2.out.chg hC1 nmN)
  replace H_5 := Lib.hid (H_5.out.chg hC1 nmN)
  clear hC1
  go_upto_region 12 with fail
  obtain ⟨D0, D1, D2, D3⟩ := four4 fun _ => (HD.out).cm; obtain ⟨D4, D5, D6, D7⟩ := four4 fun _ => (HD.out).cc
  obtain ⟨Az0, Az1, Az2, Az3⟩ := four4 fun _ => (HBA.out).cz
  obtain ⟨Bz0, Bz1, Bz2, Bz3⟩ := four4 fun _ => (HBB.out).cz
  go_wp2_with fail
  refine (C6.out _).mono ?_
  rintro e w1 ⟨rfl, hC1⟩
  clear D0 D1 D2 D3 D4 D5 D6 D7 Az0 Az1 Az2 Az3 Bz0 Bz1 Bz2 Bz3
  replace HBA := Lib.hid (HBA.out.chg hC1 nmN)
  replace HBB := Lib.hid (HBB.out.chg hC1 nmN)
  replace HR := Lib.hid (HR.out.chg hC1 nmN)
  replace HC := Lib.hid (HC.out.trans hC1)
  replace HD := Lib.hid (HD.out.chg hC1 nmN)
  replace H_2 := Lib.hid (H_2.out.chg hC1 nmN)
  replace H_5 := Lib.hid (H_5.out.chg hC1 nmN)
  clear hC1
  obtain ⟨W1, hW1⟩ : ∃ W1, w1.alloc (.cells #[.int .u64 (lm v6 0 : Nat), .int .u64 (lm v6 1 : Nat), .int .u64 (lm v6 2 : Nat), .int .u64 (lm v6 3 : Nat)] 24) = W1 := ⟨_, rfl⟩
  have hA : Chg [] w1 W1 := by rw [← hW1]; exact (Chg.refl _ _).alloc _
  have hN : U4 W1 w1.heap.size 24 (lm v6) := by rw [← hW1]; exact has_alloc_new _ _
  obtain ⟨b6, hb⟩ : ∃ b, w1.heap.size = b := ⟨_, rfl⟩
  have l6 : R < b6 := by rw [← hb]; exact HR.out.lt
  rw [hb] at hN
  replace HBA := Lib.hid (HBA.out.chg hA nmN)
  replace HBB := Lib.hid (HBB.out.chg hA nmN)
  replace HR := Lib.hid (HR.out.chg hA nmN)
  replace HC := Lib.hid (HC.out.trans hA)
  replace HD := Lib.hid (HD.out.chg hA nmN)
  replace H_2 := Lib.hid (H_2.out.chg hA nmN)
  replace H_5 := Lib.hid (H_5.out.chg hA nmN)
  have H_6 := Lib.hid hN
  go_upto_region 13 with fail
  try rw [hW1]
  try rw [hb]
  clear hW1 hb hA hN
  obtain ⟨D0, D1, D2, D3⟩ := four4 fun _ => (HD.out).cm; obtain ⟨D4, D5, D6, D7⟩ := four4 fun _ => (HD.out).cc
  obtain ⟨w5_0, w5_1, w5_2, w5_3⟩ := four4 fun _ => (H_5.out).cell
  go_wp2_with fail
  refine (C7.out _).mono ?_
  rintro e w1 ⟨rfl, hC1⟩
  clear D0 D1 D2 D3 D4 D5 D6 D7 w5_0 w5_1 w5_2 w5_3
  replace HBA := Lib.hid (HBA.out.chg hC1 nmN)
  replace HBB := Lib.hid (HBB.out.chg hC1 nmN)
  replace HR := Lib.hid (HR.out.chg hC1 nmN)
  replace HC := Lib.hid (HC.out.trans hC1)
  replace HD := Lib.hid (HD.out.chg hC1 nmN)
  replace H_2 := Lib.hid (H_2.out.chg hC1 nmN)
  replace H_5 := Lib.hid (H_5.out.chg hC1 nmN)
  replace H_6 := Lib.hid (H_6.out.chg hC1 nmN)
  clear hC1
  obtain ⟨W1, hW1⟩ : ∃ W1, w1.alloc (.cells #[.int .u64 (lm v7 0 : Nat), .int .u64 (lm v7 1 : Nat), .int .u64 (lm v7 2 : Nat), .int .u64 (lm v7 3 : Nat)] 24) = W1 := ⟨_, rfl⟩
  have hA : Chg [] w1 W1 := by rw [← hW1]; exact (Chg.refl _ _).alloc _
  have hN : U4 W1 w1.heap.size 24 (lm v7) := by rw [← hW1]; exact has_alloc_new _ _
  obtain ⟨b7, hb⟩ : ∃ b, w1.heap.size = b := ⟨_, rfl⟩
  have l7 : R < b7 := by rw [← hb]; exact HR.out.lt
  rw [hb] at hN
  replace HBA := Lib.hid (HBA.out.chg hA nmN)
  replace HBB := Lib.hid (HBB.out.chg hA nmN)
  replace HR := Lib.hid (HR.out.chg hA nmN)
  replace HC := Lib.hid (HC.out.trans hA)
  replace HD := Lib.hid (HD.out.chg hA nmN)
  replace H_2 := Lib.hid (H_2.out.chg hA nmN)
  replace H_5 := Lib.hid (H_5.out.chg hA nmN)
  replace H_6 := Lib.hid (H_6.out.chg hA nmN)
  have H_7 := Lib.hid hN
  go_upto_region 14 with fail
  try rw [hW1]
  try rw [hb]
  clear hW1 hb hA hN
  obtain ⟨D0, D1, D2, D3⟩ := four4 fun _ => (HD.out).cm; obtain ⟨D4, D5, D6, D7⟩ := four4 fun _ => (HD.out).cc
  obtain ⟨w7_0, w7_1, w7_2, w7_3⟩ := four4 fun _ => (H_7.out).cell
  obtain ⟨w5_0, w5_1, w5_2, w5_3⟩ := four4 fun _ => (H_5.out).cell
  go_wp2_with fail
  refine (C8.out _).mono ?_
  rintro e w1 ⟨rfl, hC1⟩
  clear D0 D1 D2 D3 D4 D5 D6 D7 w7_0 w7_1 w7_2 w7_3 w5_0 w5_1 w5_2 w5_3
  replace HBA := Lib.hid (HBA.out.chg hC1 nmN)
  replace HBB := Lib.hid (HBB.out.chg hC1 nmN)
  replace HR := Lib.hid (HR.out.chg hC1 nmN)
  replace HC := Lib.hid (HC.out.trans hC1)
  replace HD := Lib.hid (HD.out.chg hC1 nmN)
  replace H_2 := Lib.hid (H_2.out.chg hC1 nmN)
  replace H_5 := Lib.hid (H_5.out.chg hC1 nmN)
  replace H_6 := Lib.hid (H_6.out.chg hC1 nmN)
  replace H_7 := Lib.hid (H_7.out.chg hC1 nmN)
  clear hC1
  obtain ⟨W1, hW1⟩ : ∃ W1, w1.alloc (.cells #[.int .u64 (lm v8 0 : Nat), .int .u64 (lm v8 1 : Nat), .int .u64 (lm v8 2 : Nat), .int .u64 (lm v8 3 : Nat)] 24) = W1 := ⟨_, rfl⟩
  have hA : Chg [] w1 W1 := by rw [← hW1]; exact (Chg.refl _ _).alloc _
  have hN : U4 W1 w1.heap.size 24 (lm v8) := by rw [← hW1]; exact has_alloc_new _ _
  obtain ⟨b8, hb⟩ : ∃ b, w1.heap.size = b := ⟨_, rfl⟩
  have l8 : R < b8 := by rw [← hb]; exact HR.out.lt
  rw [hb] at hN
  replace HBA := Lib.hid (HBA.out.chg hA nmN)
  replace HBB := Lib.hid (HBB.out.chg hA nmN)
  replace HR := Lib.hid (HR.out.chg hA nmN)
  replace HC := Lib.hid (HC.out.trans hA)
  replace HD := Lib.hid (HD.out.chg hA nmN)
  replace H_2 := Lib.hid (H_2.out.chg hA nmN)
  replace H_5 := Lib.hid (H_5.out.chg hA nmN)
  replace H_6 := Lib.hid (H_6.out.chg hA nmN)
  replace H_7 := Lib.hid (H_7.out.chg hA nmN)
  have H_8 := Lib.hid hN
  go_upto_region 15 with fail
  try rw [hW1]
  try rw [hb]
  clear hW1 hb hA hN
  obtain ⟨D0, D1, D2, D3⟩ := four4 fun _ => (HD.out).cm; obtain ⟨D4, D5, D6, D7⟩ := four4 fun _ => (HD.out).cc
  obtain ⟨w7_0, w7_1, w7_2, w7_3⟩ := four4 fun _ => (H_7.out).cell
  obtain ⟨Ax0, Ax1, Ax2, Ax3⟩ := four4 fun _ => (HBA.out).cx
  obtain ⟨Bz0, Bz1, Bz2, Bz3⟩ := four4 fun _ => (HBB.out).cz
  refine abs_region (B := Chg [] W1) (S := Chg [] W1) (by kernel_rfl) ((Chg.refl _ _).drew) ?_
  have hG := good_chg [] W1
  refine Abs.take_np (i := 0) (d := some 72) (v := ?_) rfl rfl (by kernel_rfl) (by kernel_rfl) (by kernel_rfl) hG ⟨by rfl, fun w9 hw9 => Or.inl ?_⟩ ?_
  rotate_left
  · replace D0 := hw9.cell D0 nmN; replace D1 := hw9.cell D1 nmN; replace D2 := hw9.cell D2 nmN; replace D3 := hw9.cell D3 nmN; replace D4 := hw9.cell D4 nmN; replace D5 := hw9.cell D5 nmN; replace D6 := hw9.cell D6 nmN; replace D7 := hw9.cell D7 nmN
    go_simp
    try with_reducible rfl
  simp only [Act.put, stA, stB, stC]
  refine Abs.take_np (i := 1) (d := some 73) (v := ?_) rfl rfl (by kernel_rfl) (by kernel_rfl) (by kernel_rfl) hG ⟨by rfl, fun w9 hw9 => Or.inl ?_⟩ ?_
  rotate_left
  · replace w7_0 := hw9.cell w7_0 nmN; replace w7_1 := hw9.cell w7_1 nmN; replace w7_2 := hw9.cell w7_2 nmN; replace w7_3 := hw9.cell w7_3 nmN
    go_simp
    try with_reducible rfl
  simp only [Act.put, stA, stB, stC]
  refine Abs.take_np (i := 2) (d := some 74) (v := ?_) rfl rfl (by kernel_rfl) (by kernel_rfl) (by kernel_rfl) hG ⟨by rfl, fun w9 hw9 => Or.inl ?_⟩ ?_
  rotate_left
  · replace D0 := hw9.cell D0 nmN; replace D1 := hw9.cell D1 nmN; replace D2 := hw9.cell D2 nmN; replace D3 := hw9.cell D3 nmN; replace D4 := hw9.cell D4 nmN; replace D5 := hw9.cell D5 nmN; replace D6 := hw9.cell D6 nmN; replace D7 := hw9.cell D7 nmN
    go_simp
    try with_reducible rfl
  simp only [Act.put, stA, stB, stC]
  refine Abs.take_np (i := 3) (d := some 75) (v := ?_) rfl rfl (by kernel_rfl) (by kernel_rfl) (by kernel_rfl) hG ⟨by rfl, fun w9 hw9 => Or.inl ?_⟩ ?_
  rotate_left
  · go_simp
    try with_reducible rfl
  simp only [Act.put, stA, stB, stC]
  refine Abs.take_np (i := 4) (d := some 76) (v := ?_) rfl rfl (by kernel_rfl) (by kernel_rfl) (by kernel_rfl) hG ⟨by rfl, fun w9 hw9 => Or.inl ?_⟩ ?_
  rotate_left
  · replace Ax0 := hw9.cell Ax0 nmN; replace Ax1 := hw9.cell Ax1 nmN; replace Ax2 := hw9.cell Ax2 nmN; replace Ax3 := hw9.cell Ax3 nmN
    go_simp
    try with_reducible rfl
  simp only [Act.put, stA, stB, stC]
  refine Abs.take_np (i := 5) (d := some 77) (v := ?_) rfl rfl (by kernel_rfl) (by kernel_rfl) (by kernel_rfl) hG ⟨by rfl, fun w9 hw9 => Or.inl ?_⟩ ?_
  rotate_left
  · go_simp
    try with_reducible rfl
  simp only [Act.put, stA, stB, stC]
  refine Abs.take_np (i := 6) (d := some 78) (v := ?_) rfl rfl (by kernel_rfl) (by kernel_rfl) (by kernel_rfl) hG ⟨by rfl, fun w9 hw9 => Or.inl ?_⟩ ?_
  rotate_left
  · replace Bz0 := hw9.cell Bz0 nmN; replace Bz1 := hw9.cell Bz1 nmN; replace Bz2 := hw9.cell Bz2 nmN; replace Bz3 := hw9.cell Bz3 nmN
    go_simp
    try with_reducible rfl
  simp only [Act.put, stA, stB, stC]
  refine Abs.take_np (i := 7) (d := some 79) (v := _) rfl rfl (by kernel_rfl) (by kernel_rfl) (by kernel_rfl) hG ⟨by rfl, fun w9 hw9 => Or.inr ⟨_, _, ?_, C4.out w9⟩⟩ ?_
  · go_simp
    try with_reducible rfl
  simp only [Act.put, stA, stB, stC]
  refine Abs.take_np (i := 8) (d := some 80) (v := _) rfl rfl (by kernel_rfl) (by kernel_rfl) (by kernel_rfl) hG ⟨by rfl, fun w9 hw9 => Or.inr ⟨_, _, ?_, C9.out w9⟩⟩ ?_
  · go_simp
    try with_reducible rfl
  simp only [Act.put, stA, stB, stC]
  refine Abs.alloc4 (i := 9) (t := 24) (X := []) (W := W1) rfl (by kernel_rfl) (by rfl) hG (fun _ h => h) (fun w9 => ?_) (fun b9 hb9 hG => ?_)
  · go_simp
    try with_reducible rfl
  refine Abs.at_put (d := some 11) rfl ?_
  simp only [Act.put, stA, stB, stC]
  refine Abs.store4 (i := 10) (b := b9) (ds := #[.int .u64 (lm v9 0 : Nat), .int .u64 (lm v9 1 : Nat), .int .u64 (lm v9 2 : Nat), .int .u64 (lm v9 3 : Nat)]) rfl (by kernel_rfl) (by rfl) (fun w9 => (((w9.setCell ⟨b9, 0, none⟩ (.int .u64 (lm v9 0 : Nat))).setCell ⟨b9, 1, none⟩ (.int .u64 (lm v9 1 : Nat))).setCell ⟨b9, 2, none⟩ (.int .u64 (lm v9 2 : Nat))).setCell ⟨b9, 3, none⟩ (.int .u64 (lm v9 3 : Nat))) (fun w9 h9 => ⟨?_, ?_, ?_⟩) (fun _ _ h k => Chg.keeps (Or.inr hb9) h k) (good_chg [] W1) (fun hG => ?_)
  · have n0 := cell_of_has h9 0; have n1 := cell_of_has h9 1; have n2 := cell_of_has h9 2; have n3 := cell_of_has h9 3
    simp only [glA, glB, glC] at n0 n1 n2 n3
    have z0 := frozen_of_has h9 0; have z1 := frozen_of_has h9 1; have z2 := frozen_of_has h9 2; have z3 := frozen_of_has h9 3
    clear h9
    go_simp
    try with_reducible rfl
  · exact U4.put_x (x := fun _ => 0) h9 v9
  · exact Chg.put_x (Chg.refl _ _) (Or.inl (by simp)) v9
  refine Abs.at_put (d := none) rfl ?_
  simp only [Act.put, stA, stB, stC]
  refine Abs.done (by kernel_rfl) (fun wx hx => NoPanic.normal ?_) _
  clear D0 D1 D2 D3 D4 D5 D6 D7 w7_0 w7_1 w7_2 w7_3 Ax0 Ax1 Ax2 Ax3 Bz0 Bz1 Bz2 Bz3
  obtain ⟨hA, hN⟩ := hx
  have l9 : R < b9 := Nat.lt_of_lt_of_le HR.out.lt hb9
  have hN : U4 wx b9 24 (lm v9) := hN
  replace HBA := Lib.hid (HBA.out.chg hA nmN)
  replace HBB := Lib.hid (HBB.out.chg hA nmN)
  replace HR := Lib.hid (HR.out.chg hA nmN)
  replace HC := Lib.hid (HC.out.trans hA)
  replace HD := Lib.hid (HD.out.chg hA nmN)
  replace H_2 := Lib.hid (H_2.out.chg hA nmN)
  replace H_5 := Lib.hid (H_5.out.chg hA nmN)
  replace H_6 := Lib.hid (H_6.out.chg hA nmN)
  replace H_7 := Lib.hid (H_7.out.chg hA nmN)
  replace H_8 := Lib.hid (H_8.out.chg hA nmN)
  have H_9 := Lib.hid hN
  clear hA hN hb9
  go_upto_region 16 with fail
  obtain ⟨D0, D1, D2, D3⟩ := four4 fun _ => (HD.out).cm; obtain ⟨D4, D5, D6, D7⟩ := four4 fun _ => (HD.out).cc
  obtain ⟨w2_0, w2_1, w2_2, w2_3⟩ := four4 fun _ => (H_2.out).cell
  obtain ⟨w6_0, w6_1, w6_2, w6_3⟩ := four4 fun _ => (H_6.out).cell
  obtain ⟨w8_0, w8_1, w8_2, w8_3⟩ := four4 fun _ => (H_8.out).cell
  obtain ⟨w9_0, w9_1, w9_2, w9_3⟩ := four4 fun _ => (H_9.out).cell
  refine abs_region (B := Chg [] wx) (S := Chg [] wx) (by kernel_rfl) ((Chg.refl _ _).drew) ?_
  have hG := good_chg [] wx
  refine Abs.take_np (i := 0) (d := some 81) (v := ?_) rfl rfl (by kernel_rfl) (by kernel_rfl) (by kernel_rfl) hG ⟨by rfl, fun w9 hw9 => Or.inl ?_⟩ ?_
  rotate_left
  · replace D0 := hw9.cell D0 nmN; replace D1 := hw9.cell D1 nmN; replace D2 := hw9.cell D2 nmN; replace D3 := hw9.cell D3 nmN; replace D4 := hw9.cell D4 nmN; replace D5 := hw9.cell D5 nmN; replace D6 := hw9.cell D6 nmN; replace D7 := hw9.cell D7 nmN
    go_simp
    try with_reducible rfl
  simp only [Act.put, stA, stB, stC]
  refine Abs.take_np (i := 1) (d := some 82) (v := ?_) rfl rfl (by kernel_rfl) (by kernel_rfl) (by kernel_rfl) hG ⟨by rfl, fun w9 hw9 => Or.inl ?_⟩ ?_
  rotate_left
  · replace D0 := hw9.cell D0 nmN; replace D1 := hw9.cell D1 nmN; replace D2 := hw9.cell D2 nmN; replace D3 := hw9.cell D3 nmN; replace D4 := hw9.cell D4 nmN; replace D5 := hw9.cell D5 nmN; replace D6 := hw9.cell D6 nmN; replace D7 := hw9.cell D7 nmN
    go_simp
    try with_reducible rfl
  simp only [Act.put, stA, stB, stC]
  refine Abs.take_np (i := 2) (d := some 83) (v := ?_) rfl rfl (by kernel_rfl) (by kernel_rfl) (by kernel_rfl) hG ⟨by rfl, fun w9 hw9 => Or.inl ?_⟩ ?_
  rotate_left
  · replace D0 := hw9.cell D0 nmN; replace D1 := hw9.cell D1 nmN; replace D2 := hw9.cell D2 nmN; replace D3 := hw9.cell D3 nmN; replace D4 := hw9.cell D4 nmN; replace D5 := hw9.cell D5 nmN; replace D6 := hw9.cell D6 nmN; replace D7 := hw9.cell D7 nmN
    go_simp
    try with_reducible rfl
  simp only [Act.put, stA, stB, stC]
  refine Abs.take_np (i := 3) (d := some 84) (v := ?_) rfl rfl (by kernel_rfl) (by kernel_rfl) (by kernel_rfl) hG ⟨by rfl, fun w9 hw9 => Or.inl ?_⟩ ?_
  rotate_left
  · replace D0 := hw9.cell D0 nmN; replace D1 := hw9.cell D1 nmN; replace D2 := hw9.cell D2 nmN; replace D3 := hw9.cell D3 nmN; replace D4 := hw9.cell D4 nmN; replace D5 := hw9.cell D5 nmN; replace D6 := hw9.cell D6 nmN; replace D7 := hw9.cell D7 nmN
    go_simp
    try with_reducible rfl
  simp only [Act.put, stA, stB, stC]
  refine Abs.take_np (i := 4) (d := some 85) (v := ?_) rfl rfl (by kernel_rfl) (by kernel_rfl) (by kernel_rfl) hG ⟨by rfl, fun w9 hw9 => Or.inl ?_⟩ ?_
  rotate_left
  · replace w2_0 := hw9.cell w2_0 nmN; replace w2_1 := hw9.cell w2_1 nmN; replace w2_2 := hw9.cell w2_2 nmN; replace w2_3 := hw9.cell w2_3 nmN
    go_simp
    try with_reducible rfl
  simp only [Act.put, stA, stB, stC]
  refine Abs.take_np (i := 5) (d := some 86) (v := ?_) rfl rfl (by kernel_rfl) (by kernel_rfl) (by kernel_rfl) hG ⟨by rfl, fun w9 hw9 => Or.inl ?_⟩ ?_
  rotate_left
  · replace w2_0 := hw9.cell w2_0 nmN; replace w2_1 := hw9.cell w2_1 nmN; replace w2_2 := hw9.cell w2_2 nmN; replace w2_3 := hw9.cell w2_3 nmN
    go_simp
    try with_reducible rfl
  simp only [Act.put, stA, stB, stC]
  refine Abs.take_np (i := 6) (d := some 87) (v := _) rfl rfl (by kernel_rfl) (by kernel_rfl) (by kernel_rfl) hG ⟨by rfl, fun w9 hw9 => Or.inr ⟨_, _, ?_, C10.out w9⟩⟩ ?_
  · go_simp
    try with_reducible rfl
  simp only [Act.put, stA, stB, stC]
  refine Abs.take_np (i := 7) (d := some 88) (v := ?_) rfl rfl (by kernel_rfl) (by kernel_rfl) (by kernel_rfl) hG ⟨by rfl, fun w9 hw9 => Or.inl ?_⟩ ?_
  rotate_left
  · replace w6_0 := hw9.cell w6_0 nmN; replace w6_1 := hw9.cell w6_1 nmN; replace w6_2 := hw9.cell w6_2 nmN; replace w6_3 := hw9.cell w6_3 nmN
    go_simp
    try with_reducible rfl
  simp only [Act.put, stA, stB, stC]
  refine Abs.take_np (i := 8) (d := some 89) (v := _) rfl rfl (by kernel_rfl) (by kernel_rfl) (by kernel_rfl) hG ⟨by rfl, fun w9 hw9 => Or.inr ⟨_, _, ?_, C11.out w9⟩⟩ ?_
  · go_simp
    try with_reducible rfl
  simp only [Act.put, stA, stB, stC]
  refine Abs.take_np (i := 9) (d := some 90) (v := ?_) rfl rfl (by kernel_rfl) (by kernel_rfl) (by kernel_rfl) hG ⟨by rfl, fun w9 hw9 => Or.inl ?_⟩ ?_
  rotate_left
  · replace w8_0 := hw9.cell w8_0 nmN; replace w8_1 := hw9.cell w8_1 nmN; replace w8_2 := hw9.cell w8_2 nmN; replace w8_3 := hw9.cell w8_3 nmN
    go_simp
    try with_reducible rfl
  simp only [Act.put, stA, stB, stC]
  refine Abs.take_np (i := 10) (d := some 91) (v := _) rfl rfl (by kernel_rfl) (by kernel_rfl) (by kernel_rfl) hG ⟨by rfl, fun w9 hw9 => Or.inr ⟨_, _, ?_, C12.out w9⟩⟩ ?_
  · go_simp
    try with_reducible rfl
  simp only [Act.put, stA, stB, stC]
  refine Abs.take_np (i := 11) (d := some 92) (v := ?_) rfl rfl (by kernel_rfl) (by kernel_rfl) (by kernel_rfl) hG ⟨by rfl, fun w9 hw9 => Or.inl ?_⟩ ?_
  rotate_left
  · replace D0 := hw9.cell D0 nmN; replace D1 := hw9.cell D1 nmN; replace D2 := hw9.cell D2 nmN; replace D3 := hw9.cell D3 nmN; replace D4 := hw9.cell D4 nmN; replace D5 := hw9.cell D5 nmN; replace D6 := hw9.cell D6 nmN; replace D7 := hw9.cell D7 nmN
    go_simp
    try with_reducible rfl
  simp only [Act.put, stA, stB, stC]
  refine Abs.take_np (i := 12) (d := some 93) (v := ?_) rfl rfl (by kernel_rfl) (by kernel_rfl) (by kernel_rfl) hG ⟨by rfl, fun w9 hw9 => Or.inl ?_⟩ ?_
  rotate_left
  · replace w9_0 := hw9.cell w9_0 nmN; replace w9_1 := hw9.cell w9_1 nmN; replace w9_2 := hw9.cell w9_2 nmN; replace w9_3 := hw9.cell w9_3 nmN
    go_simp
    try with_reducible rfl
  simp only [Act.put, stA, stB, stC]
  refine Abs.take_np (i := 13) (d := some 94) (v := ?_) rfl rfl (by kernel_rfl) (by kernel_rfl) (by kernel_rfl) hG ⟨by rfl, fun w9 hw9 => Or.inl ?_⟩ ?_
  rotate_left
  · replace w9_0 := hw9.cell w9_0 nmN; replace w9_1 := hw9.cell w9_1 nmN; replace w9_2 := hw9.cell w9_2 nmN; replace w9_3 := hw9.cell w9_3 nmN
    go_simp
    try with_reducible rfl
  simp only [Act.put, stA, stB, stC]
  refine Abs.take_np (i := 14) (d := some 95) (v := _) rfl rfl (by kernel_rfl) (by kernel_rfl) (by kernel_rfl) hG ⟨by rfl, fun w9 hw9 => Or.inr ⟨_, _, ?_, C13.out w9⟩⟩ ?_
  · go_simp
    try with_reducible rfl
  simp only [Act.put, stA, stB, stC]
  refine Abs.take_np (i := 15) (d := some 96) (v := _) rfl rfl (by kernel_rfl) (by kernel_rfl) (by kernel_rfl) hG ⟨by rfl, fun w9 hw9 => Or.inr ⟨_, _, ?_, C14.out w9⟩⟩ ?_
  · go_simp
    try with_reducible rfl
  simp only [Act.put, stA, stB, stC]
  refine Abs.alloc4 (i := 16) (t := 24) (X := []) (W := wx) rfl (by kernel_rfl) (by rfl) hG (fun _ h => h) (fun w9 => ?_) (fun b14 hb14 hG => ?_)
  · go_simp
    try with_reducible rfl
  refine Abs.at_put (d := some 12) rfl ?_
  simp only [Act.put, stA, stB, stC]
  refine Abs.store4 (i := 17) (b := b14) (ds := #[.int .u64 (lm v14 0 : Nat), .int .u64 (lm v14 1 : Nat), .int .u64 (lm v14 2 : Nat), .int .u64 (lm v14 3 : Nat)]) rfl (by kernel_rfl) (by rfl) (fun w9 => (((w9.setCell ⟨b14, 0, none⟩ (.int .u64 (lm v14 0 : Nat))).setCell ⟨b14, 1, none⟩ (.int .u64 (lm v14 1 : Nat))).setCell ⟨b14, 2, none⟩ (.int .u64 (lm v14 2 : Nat))).setCell ⟨b14, 3, none⟩ (.int .u64 (lm v14 3 : Nat))) (fun w9 h9 => ⟨?_, ?_, ?_⟩) (fun _ _ h k => Chg.keeps (Or.inr hb14) h k) (good_chg [] wx) (fun hG => ?_)
  · have n0 := cell_of_has h9 0; have n1 := cell_of_has h9 1; have n2 := cell_of_has h9 2; have n3 := cell_of_has h9 3
    simp only [glA, glB, glC] at n0 n1 n2 n3
    have z0 := frozen_of_has h9 0; have z1 := frozen_of_has h9 1; have z2 := frozen_of_has h9 2; have z3 := frozen_of_has h9 3
    clear h9
    go_simp
    try with_reducible rfl
  · exact U4.put_x (x := fun _ => 0) h9 v14
  · exact Chg.put_x (Chg.refl _ _) (Or.inl (by simp)) v14
  refine Abs.at_put (d := none) rfl ?_
  simp only [Act.put, stA, stB, stC]
  refine Abs.done (by kernel_rfl) (fun wx hx => NoPanic.normal ?_) _
  clear D0 D1 D2 D3 D4 D5 D6 D7 w2_0 w2_1 w2_2 w2_3 w6_0 w6_1 w6_2 w6_3 w8_0 w8_1 w8_2 w8_3 w9_0 w9_1 w9_2 w9_3
  obtain ⟨hA, hN⟩ := hx
  have l14 : R < b14 := Nat.lt_of_lt_of_le HR.out.lt hb14
  have hN : U4 wx b14 24 (lm v14) := hN
  replace HBA := Lib.hid (HBA.out.chg hA nmN)
  replace HBB := Lib.hid (HBB.out.chg hA nmN)
  replace HR := Lib.hid (HR.out.chg hA nmN)
  replace HC := Lib.hid (HC.out.trans hA)
  replace HD := Lib.hid (HD.out.chg hA nmN)
  replace H_2 := Lib.hid (H_2.out.chg hA nmN)
  replace H_5 := Lib.hid (H_5.out.chg hA nmN)
  replace H_6 := Lib.hid (H_6.out.chg hA nmN)
  replace H_7 := Lib.hid (H_7.out.chg hA nmN)
  replace H_8 := Lib.hid (H_8.out.chg hA nmN)
  replace H_9 := Lib.hid (H_9.out.chg hA nmN)
  have H_14 := Lib.hid hN
  clear hA hN hb14
  go_upto_region 17 with fail
  obtain ⟨D0, D1, D2, D3⟩ := four4 fun _ => (HD.out).cm; obtain ⟨D4, D5, D6, D7⟩ := four4 fun _ => (HD.out).cc
  obtain ⟨w5_0, w5_1, w5_2, w5_3⟩ := four4 fun _ => (H_5.out).cell
  obtain ⟨w14_0, w14_1, w14_2, w14_3⟩ := four4 fun _ => (H_14.out).cell
  obtain ⟨w2_0, w2_1, w2_2, w2_3⟩ := four4 fun _ => (H_2.out).cell
  obtain ⟨w9_0, w9_1, w9_2, w9_3⟩ := four4 fun _ => (H_9.out).cell
  obtain ⟨w8_0, w8_1, w8_2, w8_3⟩ := four4 fun _ => (H_8.out).cell
  obtain ⟨Ay0, Ay1, Ay2, Ay3⟩ := four4 fun _ => (HBA.out).cy
  obtain ⟨Bz0, Bz1, Bz2, Bz3⟩ := four4 fun _ => (HBB.out).cz
  obtain ⟨w6_0, w6_1, w6_2, w6_3⟩ := four4 fun _ => (H_6.out).cell
  have hRz := HR.out
  refine abs_region (B := Chg [R] wx) (S := fun w => Chg [R] wx w ∧ w.heap[R]? = some (.cells #[.int .u64 0, .int .u64 0, .int .u64 0, .int .u64 0, .int .u64 0, .int .u64 0, .int .u64 0, .int .u64 0, .int .u64 0, .int .u64 0, .int .u64 0, .int .u64 0] 71 (0, 0))) (by kernel_rfl) ⟨(Chg.refl _ _).drew, hRz⟩ ?_
  have hG := good_at [R] wx R (.cells #[.int .u64 0, .int .u64 0, .int .u64 0, .int .u64 0, .int .u64 0, .int .u64 0, .int .u64 0, .int .u64 0, .int .u64 0, .int .u64 0, .int .u64 0, .int .u64 0] 71 (0, 0))
  refine Abs.take_np (i := 0) (d := some 97) (v := ?_) rfl rfl (by kernel_rfl) (by kernel_rfl) (by kernel_rfl) hG ⟨by rfl, fun w9 hw9 => Or.inl ?_⟩ ?_
  rotate_left
  · replace D0 := hw9.cell D0 (by simp; omega); replace D1 := hw9.cell D1 (by simp; omega); replace D2 := hw9.cell D2 (by simp; omega); replace D3 := hw9.cell D3 (by simp; omega); replace D4 := hw9.cell D4 (by simp; omega); replace D5 := hw9.cell D5 (by simp; omega); replace D6 := hw9.cell D6 (by simp; omega); replace D7 := hw9.cell D7 (by simp; omega)
    go_simp
    try with_reducible rfl
  simp only [Act.put, stA, stB, stC]
  refine Abs.take_np (i := 1) (d := some 98) (v := ?_) rfl rfl (by kernel_rfl) (by kernel_rfl) (by kernel_rfl) hG ⟨by rfl, fun w9 hw9 => Or.inl ?_⟩ ?_
  rotate_left
  · replace w5_0 := hw9.cell w5_0 (by simp; omega); replace w5_1 := hw9.cell w5_1 (by simp; omega); replace w5_2 := hw9.cell w5_2 (by simp; omega); replace w5_3 := hw9.cell w5_3 (by simp; omega)
    go_simp
    try with_reducible rfl
  simp only [Act.put, stA, stB, stC]
  refine Abs.take_np (i := 2) (d := some 99) (v := ?_) rfl rfl (by kernel_rfl) (by kernel_rfl) (by kernel_rfl) hG ⟨by rfl, fun w9 hw9 => Or.inl ?_⟩ ?_
  rotate_left
  · replace w14_0 := hw9.cell w14_0 (by simp; omega); replace w14_1 := hw9.cell w14_1 (by simp; omega); replace w14_2 := hw9.cell w14_2 (by simp; omega); replace w14_3 := hw9.cell w14_3 (by simp; omega)
    go_simp
    try with_reducible rfl
  simp only [Act.put, stA, stB, stC]
  refine Abs.take_np (i := 3) (d := some 100) (v := _) rfl rfl (by kernel_rfl) (by kernel_rfl) (by kernel_rfl) hG ⟨by rfl, fun w9 hw9 => Or.inr ⟨_, _, ?_, C15.out w9⟩⟩ ?_
  · go_simp
    try with_reducible rfl
  simp only [Act.put, stA, stB, stC]
  refine Abs.take_np (i := 4) (d := some 101) (v := ?_) rfl rfl (by kernel_rfl) (by kernel_rfl) (by kernel_rfl) hG ⟨by rfl, fun w9 hw9 => Or.inl ?_⟩ ?_
  rotate_left
  · replace D0 := hw9.cell D0 (by simp; omega); replace D1 := hw9.cell D1 (by simp; omega); replace D2 := hw9.cell D2 (by simp; omega); replace D3 := hw9.cell D3 (by simp; omega); replace D4 := hw9.cell D4 (by simp; omega); replace D5 := hw9.cell D5 (by simp; omega); replace D6 := hw9.cell D6 (by simp; omega); replace D7 := hw9.cell D7 (by simp; omega)
    go_simp
    try with_reducible rfl
  simp only [Act.put, stA, stB, stC]
  refine Abs.take_np (i := 5) (d := some 102) (v := ?_) rfl rfl (by kernel_rfl) (by kernel_rfl) (by kernel_rfl) hG ⟨by rfl, fun w9 hw9 => Or.inl ?_⟩ ?_
  rotate_left
  · replace D0 := hw9.cell D0 (by simp; omega); replace D1 := hw9.cell D1 (by simp; omega); replace D2 := hw9.cell D2 (by simp; omega); replace D3 := hw9.cell D3 (by simp; omega); replace D4 := hw9.cell D4 (by simp; omega); replace D5 := hw9.cell D5 (by simp; omega); replace D6 := hw9.cell D6 (by simp; omega); replace D7 := hw9.cell D7 (by simp; omega)
    go_simp
    try with_reducible rfl
  simp only [Act.put, stA, stB, stC]
  refine Abs.take_np (i := 6) (d := some 103) (v := ?_) rfl rfl (by kernel_rfl) (by kernel_rfl) (by kernel_rfl) hG ⟨by rfl, fun w9 hw9 => Or.inl ?_⟩ ?_
  rotate_left
  · replace w2_0 := hw9.cell w2_0 (by simp; omega); replace w2_1 := hw9.cell w2_1 (by simp; omega); replace w2_2 := hw9.cell w2_2 (by simp; omega); replace w2_3 := hw9.cell w2_3 (by simp; omega)
    go_simp
    try with_reducible rfl
  simp only [Act.put, stA, stB, stC]
  refine Abs.take_np (i := 7) (d := some 104) (v := ?_) rfl rfl (by kernel_rfl) (by kernel_rfl) (by kernel_rfl) hG ⟨by rfl, fun w9 hw9 => Or.inl ?_⟩ ?_
  rotate_left
  · replace D0 := hw9.cell D0 (by simp; omega); replace D1 := hw9.cell D1 (by simp; omega); replace D2 := hw9.cell D2 (by simp; omega); replace D3 := hw9.cell D3 (by simp; omega); replace D4 := hw9.cell D4 (by simp; omega); replace D5 := hw9.cell D5 (by simp; omega); replace D6 := hw9.cell D6 (by simp; omega); replace D7 := hw9.cell D7 (by simp; omega)
    go_simp
    try with_reducible rfl
  simp only [Act.put, stA, stB, stC]
  refine Abs.take_np (i := 8) (d := some 105) (v := ?_) rfl rfl (by kernel_rfl) (by kernel_rfl) (by kernel_rfl) hG ⟨by rfl, fun w9 hw9 => Or.inl ?_⟩ ?_
  rotate_left
  · replace w9_0 := hw9.cell w9_0 (by simp; omega); replace w9_1 := hw9.cell w9_1 (by simp; omega); replace w9_2 := hw9.cell w9_2 (by simp; omega); replace w9_3 := hw9.cell w9_3 (by simp; omega)
    go_simp
    try with_reducible rfl
  simp only [Act.put, stA, stB, stC]
  refine Abs.take_np (i := 9) (d := some 106) (v := ?_) rfl rfl (by kernel_rfl) (by kernel_rfl) (by kernel_rfl) hG ⟨by rfl, fun w9 hw9 => Or.inl ?_⟩ ?_
  rotate_left
  · replace w14_0 := hw9.cell w14_0 (by simp; omega); replace w14_1 := hw9.cell w14_1 (by simp; omega); replace w14_2 := hw9.cell w14_2 (by simp; omega); replace w14_3 := hw9.cell w14_3 (by simp; omega)
    go_simp
    try with_reducible rfl
  simp only [Act.put, stA, stB, stC]
  refine Abs.take_np (i := 10) (d := some 107) (v := _) rfl rfl (by kernel_rfl) (by kernel_rfl) (by kernel_rfl) hG ⟨by rfl, fun w9 hw9 => Or.inr ⟨_, _, ?_, C16.out w9⟩⟩ ?_
  · go_simp
    try with_reducible rfl
  simp only [Act.put, stA, stB, stC]
  refine Abs.take_np (i := 11) (d := some 108) (v := _) rfl rfl (by kernel_rfl) (by kernel_rfl) (by kernel_rfl) hG ⟨by rfl, fun w9 hw9 => Or.inr ⟨_, _, ?_, C17.out w9⟩⟩ ?_
  · go_simp
    try with_reducible rfl
  simp only [Act.put, stA, stB, stC]
  refine Abs.take_np (i := 12) (d := some 109) (v := ?_) rfl rfl (by kernel_rfl) (by kernel_rfl) (by kernel_rfl) hG ⟨by rfl, fun w9 hw9 => Or.inl ?_⟩ ?_
  rotate_left
  · replace D0 := hw9.cell D0 (by simp; omega); replace D1 := hw9.cell D1 (by simp; omega); replace D2 := hw9.cell D2 (by simp; omega); replace D3 := hw9.cell D3 (by simp; omega); replace D4 := hw9.cell D4 (by simp; omega); replace D5 := hw9.cell D5 (by simp; omega); replace D6 := hw9.cell D6 (by simp; omega); replace D7 := hw9.cell D7 (by simp; omega)
    go_simp
    try with_reducible rfl
  simp only [Act.put, stA, stB, stC]
  refine Abs.take_np (i := 13) (d := some 110) (v := ?_) rfl rfl (by kernel_rfl) (by kernel_rfl) (by kernel_rfl) hG ⟨by rfl, fun w9 hw9 => Or.inl ?_⟩ ?_
  rotate_left
  · replace w8_0 := hw9.cell w8_0 (by simp; omega); replace w8_1 := hw9.cell w8_1 (by simp; omega); replace w8_2 := hw9.cell w8_2 (by simp; omega); replace w8_3 := hw9.cell w8_3 (by simp; omega)
    go_simp
    try with_reducible rfl
  simp only [Act.put, stA, stB, stC]
  refine Abs.take_np (i := 14) (d := some 111) (v := ?_) rfl rfl (by kernel_rfl) (by kernel_rfl) (by kernel_rfl) hG ⟨by rfl, fun w9 hw9 => Or.inl ?_⟩ ?_
  rotate_left
  · replace D0 := hw9.cell D0 (by simp; omega); replace D1 := hw9.cell D1 (by simp; omega); replace D2 := hw9.cell D2 (by simp; omega); replace D3 := hw9.cell D3 (by simp; omega); replace D4 := hw9.cell D4 (by simp; omega); replace D5 := hw9.cell D5 (by simp; omega); replace D6 := hw9.cell D6 (by simp; omega); replace D7 := hw9.cell D7 (by simp; omega)
    go_simp
    try with_reducible rfl
  simp only [Act.put, stA, stB, stC]
  refine Abs.take_np (i := 15) (d := some 112) (v := ?_) rfl rfl (by kernel_rfl) (by kernel_rfl) (by kernel_rfl) hG ⟨by rfl, fun w9 hw9 => Or.inl ?_⟩ ?_
  rotate_left
  · go_simp
    try with_reducible rfl
  simp only [Act.put, stA, stB, stC]
  refine Abs.take_np (i := 16) (d := some 113) (v := ?_) rfl rfl (by kernel_rfl) (by kernel_rfl) (by kernel_rfl) hG ⟨by rfl, fun w9 hw9 => Or.inl ?_⟩ ?_
  rotate_left
  · replace Ay0 := hw9.cell Ay0 (by simp; omega); replace Ay1 := hw9.cell Ay1 (by simp; omega); replace Ay2 := hw9.cell Ay2 (by simp; omega); replace Ay3 := hw9.cell Ay3 (by simp; omega)
    go_simp
    try with_reducible rfl
  simp only [Act.put, stA, stB, stC]
  refine Abs.take_np (i := 17) (d := some 114) (v := ?_) rfl rfl (by kernel_rfl) (by kernel_rfl) (by kernel_rfl) hG ⟨by rfl, fun w9 hw9 => Or.inl ?_⟩ ?_
  rotate_left
  · go_simp
    try with_reducible rfl
  simp only [Act.put, stA, stB, stC]
  refine Abs.take_np (i := 18) (d := some 115) (v := ?_) rfl rfl (by kernel_rfl) (by kernel_rfl) (by kernel_rfl) hG ⟨by rfl, fun w9 hw9 => Or.inl ?_⟩ ?_
  rotate_left
  · replace Bz0 := hw9.cell Bz0 (by simp; omega); replace Bz1 := hw9.cell Bz1 (by simp; omega); replace Bz2 := hw9.cell Bz2 (by simp; omega); replace Bz3 := hw9.cell Bz3 (by simp; omega)
    go_simp
    try with_reducible rfl
  simp only [Act.put, stA, stB, stC]
  refine Abs.take_np (i := 19) (d := some 116) (v := _) rfl rfl (by kernel_rfl) (by kernel_rfl) (by kernel_rfl) hG ⟨by rfl, fun w9 hw9 => Or.inr ⟨_, _, ?_, C1.out w9⟩⟩ ?_
  · go_simp
    try with_reducible rfl
  simp only [Act.put, stA, stB, stC]
  refine Abs.take_np (i := 20) (d := some 117) (v := _) rfl rfl (by kernel_rfl) (by kernel_rfl) (by kernel_rfl) hG ⟨by rfl, fun w9 hw9 => Or.inr ⟨_, _, ?_, C18.out w9⟩⟩ ?_
  · go_simp
    try with_reducible rfl
  simp only [Act.put, stA, stB, stC]
  refine Abs.take_np (i := 21) (d := some 118) (v := _) rfl rfl (by kernel_rfl) (by kernel_rfl) (by kernel_rfl) hG ⟨by rfl, fun w9 hw9 => Or.inr ⟨_, _, ?_, C19.out w9⟩⟩ ?_
  · go_simp
    try with_reducible rfl
  simp only [Act.put, stA, stB, stC]
  refine Abs.take_np (i := 22) (d := some 119) (v := ?_) rfl rfl (by kernel_rfl) (by kernel_rfl) (by kernel_rfl) hG ⟨by rfl, fun w9 hw9 => Or.inl ?_⟩ ?_
  rotate_left
  · replace D0 := hw9.cell D0 (by simp; omega); replace D1 := hw9.cell D1 (by simp; omega); replace D2 := hw9.cell D2 (by simp; omega); replace D3 := hw9.cell D3 (by simp; omega); replace D4 := hw9.cell D4 (by simp; omega); replace D5 := hw9.cell D5 (by simp; omega); replace D6 := hw9.cell D6 (by simp; omega); replace D7 := hw9.cell D7 (by simp; omega)
    go_simp
    try with_reducible rfl
  simp only [Act.put, stA, stB, stC]
  refine Abs.take_np (i := 23) (d := some 120) (v := ?_) rfl rfl (by kernel_rfl) (by kernel_rfl) (by kernel_rfl) hG ⟨by rfl, fun w9 hw9 => Or.inl ?_⟩ ?_
  rotate_left
  · replace w8_0 := hw9.cell w8_0 (by simp; omega); replace w8_1 := hw9.cell w8_1 (by simp; omega); replace w8_2 := hw9.cell w8_2 (by simp; omega); replace w8_3 := hw9.cell w8_3 (by simp; omega)
    go_simp
    try with_reducible rfl
  simp only [Act.put, stA, stB, stC]
  refine Abs.take_np (i := 24) (d := some 121) (v := ?_) rfl rfl (by kernel_rfl) (by kernel_rfl) (by kernel_rfl) hG ⟨by rfl, fun w9 hw9 => Or.inl ?_⟩ ?_
  rotate_left
  · replace w6_0 := hw9.cell w6_0 (by simp; omega); replace w6_1 := hw9.cell w6_1 (by simp; omega); replace w6_2 := hw9.cell w6_2 (by simp; omega); replace w6_3 := hw9.cell w6_3 (by simp; omega)
    go_simp
    try with_reducible rfl
  simp only [Act.put, stA, stB, stC]
  refine Abs.take_np (i := 25) (d := some 122) (v := _) rfl rfl (by kernel_rfl) (by kernel_rfl) (by kernel_rfl) hG ⟨by rfl, fun w9 hw9 => Or.inr ⟨_, _, ?_, C20.out w9⟩⟩ ?_
  · go_simp
    try with_reducible rfl
  simp only [Act.put, stA, stB, stC]
  refine Abs.take_np (i := 26) (d := some 123) (v := ?_) rfl rfl (by kernel_rfl) (by kernel_rfl) (by kernel_rfl) hG ⟨by rfl, fun w9 hw9 => Or.inl ?_⟩ ?_
  rotate_left
  · go_simp
    try with_reducible rfl
  simp only [Act.put, stA, stB, stC]
  refine Abs.store4 (i := 27) (b := R) (ds := #[.int .u64 (lm v15 0 : Nat), .int .u64 (lm v15 1 : Nat), .int .u64 (lm v15 2 : Nat), .int .u64 (lm v15 3 : Nat), .int .u64 (lm v19 0 : Nat), .int .u64 (lm v19 1 : Nat), .int .u64 (lm v19 2 : Nat), .int .u64 (lm v19 3 : Nat), .int .u64 (lm v20 0 : Nat), .int .u64 (lm v20 1 : Nat), .int .u64 (lm v20 2 : Nat), .int .u64 (lm v20 3 : Nat)]) rfl (by kernel_rfl) (by rfl) (fun w9 => ((((((((((((w9.setCell ⟨R, 0, none⟩ (.int .u64 (lm v15 0 : Nat))).setCell ⟨R, 1, none⟩ (.int .u64 (lm v15 1 : Nat))).setCell ⟨R, 2, none⟩ (.int .u64 (lm v15 2 : Nat))).setCell ⟨R, 3, none⟩ (.int .u64 (lm v15 3 : Nat))).setCell ⟨R, 4, none⟩ (.int .u64 (lm v19 0 : Nat))).setCell ⟨R, 5, none⟩ (.int .u64 (lm v19 1 : Nat))).setCell ⟨R, 6, none⟩ (.int .u64 (lm v19 2 : Nat))).setCell ⟨R, 7, none⟩ (.int .u64 (lm v19 3 : Nat))).setCell ⟨R, 8, none⟩ (.int .u64 (lm v20 0 : Nat))).setCell ⟨R, 9, none⟩ (.int .u64 (lm v20 1 : Nat))).setCell ⟨R, 10, none⟩ (.int .u64 (lm v20 2 : Nat))).setCell ⟨R, 11, none⟩ (.int .u64 (lm v20 3 : Nat)))) (fun w9 h9 => ⟨?_, ?_, ?_⟩) (fun _ _ h k => Chg.keeps (Or.inl (by simp)) h k) (good_chg [R] wx) (fun hG => ?_)
  · have n0 := cell_of_has h9 0; have n1 := cell_of_has h9 1; have n2 := cell_of_has h9 2; have n3 := cell_of_has h9 3; have n4 := cell_of_has h9 4; have n5 := cell_of_has h9 5; have n6 := cell_of_has h9 6; have n7 := cell_of_has h9 7; have n8 := cell_of_has h9 8; have n9 := cell_of_has h9 9; have n10 := cell_of_has h9 10; have n11 := cell_of_has h9 11
    simp only [glA, glB, glC] at n0 n1 n2 n3 n4 n5 n6 n7 n8 n9 n10 n11
    have nz0 := frozen_of_has h9 0; have nz1 := frozen_of_has h9 1; have nz2 := frozen_of_has h9 2; have nz3 := frozen_of_has h9 3; have nz4 := frozen_of_has h9 4; have nz5 := frozen_of_has h9 5; have nz6 := frozen_of_has h9 6; have nz7 := frozen_of_has h9 7; have nz8 := frozen_of_has h9 8; have nz9 := frozen_of_has h9 9; have nz10 := frozen_of_has h9 10; have nz11 := frozen_of_has h9 11
    clear h9
    go_simp
    try with_reducible rfl
  · exact U12.put (x := 0) (y := 0) (z := 0) (by unfold U12; rw [lm_zero, lm_zero, lm_zero, lm_zero]; exact h9) v15 v19 v20
  · exact Chg.put12 (Chg.refl _ _) (Or.inl (by simp)) v15 v19 v20
  refine Abs.at_put (d := none) rfl ?_
  simp only [Act.put, stA, stB, stC]
  refine Abs.done (by kernel_rfl) (fun wx hx => NoPanic.normal ?_) _
  clear D0 D1 D2 D3 D4 D5 D6 D7 w5_0 w5_1 w5_2 w5_3 w14_0 w14_1 w14_2 w14_3 w2_0 w2_1 w2_2 w2_3 w9_0 w9_1 w9_2 w9_3 w8_0 w8_1 w8_2 w8_3 Ay0 Ay1 Ay2 Ay3 Bz0 Bz1 Bz2 Bz3 w6_0 w6_1 w6_2 w6_3
  obtain ⟨hA, hN⟩ := hx
  have hCF : Chg [] w wx := HC.out.trans_new hA (by simp; have := hP.out; omega)
  have g0 := cell_of_has hN 0; have g1 := cell_of_has hN 1; have g2 := cell_of_has hN 2; have g3 := cell_of_has hN 3; have g4 := cell_of_has hN 4; have g5 := cell_of_has hN 5; have g6 := cell_of_has hN 6; have g7 := cell_of_has hN 7; have g8 := cell_of_has hN 8; have g9 := cell_of_has hN 9; have g10 := cell_of_has hN 10; have g11 := cell_of_has hN 11
  simp only [glA, glB, glC] at g0 g1 g2 g3 g4 g5 g6 g7 g8 g9 g10 g11
  go_wp2_with fail
  exact bodyPost_ret (v := .agg #[.int .u64 (lm v15 0 : Nat), .int .u64 (lm v15 1 : Nat), .int .u64 (lm v15 2 : Nat), .int .u64 (lm v15 3 : Nat), .int .u64 (lm v19 0 : Nat), .int .u64 (lm v19 1 : Nat), .int .u64 (lm v19 2 : Nat), .int .u64 (lm v19 3 : Nat), .int .u64 (lm v20 0 : Nat), .int .u64 (lm v20 1 : Nat), .int .u64 (lm v20 2 : Nat), .int .u64 (lm v20 3 : Nat)]) (by simp [results, Try.results36, go_sem, g0, g1, g2, g3, g4, g5, g6, g7, g8, g9, g10, g11]) rfl ⟨by rw [HZ.out], hCF⟩

theorem rplus (p q : J) (w : World) : Calls Try.prog 36 #[.agg (ov p), .agg (ov q)] w fun e w' => e = .returned (.agg (ov (rpl p q))) ∧ Chg [] w w' := by
  unfold rpl
  by_cases hz : p.z = 0
  · rw [if_pos hz]; exact rplus_l p q hz w
  · rw [if_neg hz]
    by_cases hy : q.z = 0
    · rw [if_pos hy]; exact rplus_r p q hz hy w
    · rw [if_neg hy]
      unfold rplN
      by_cases hv : q.x * p.z - p.x * q.z = 0
      · rw [if_pos hv]
        by_cases hu : q.y * p.z - p.y * q.z = 0
        · rw [if_pos hu]; exact rplus_t p q hz hy hv hu w
        · rw [if_neg hu]; exact rplus_z p q hz hy hv hu w
      · rw [if_neg hv]; exact rplus_n p q hz hy hv w

end Go.Proofs.Ytplldbmjdnikeaa
