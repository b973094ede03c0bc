/- The document's points: the walks of wardmoteref03.Twice, Plus. Printed by refg.py. -/
import Derived.Test.YtplldbmjdnikeaaRe2
import Derived.Test.YtplldbmjdnikeaaCurveJ
import Derived.Test.YtplldbmjdnikeaaAn
namespace Go.Proofs.Ytplldbmjdnikeaa
set_option linter.unusedVariables false
set_option linter.unusedSimpArgs false
open Go.RowKit

theorem rp_mul {x y : Fin PP} {u v t : Nat} (hu : x.val = u) (hv : y.val = v) (ht : (x * y).val = t) (w : World) : Calls Try.prog 42 #[.agg #[.int .u64 (lm PP 0 : Nat), .int .u64 (lm PP 1 : Nat), .int .u64 (lm PP 2 : Nat), .int .u64 (lm PP 3 : Nat), .int .u64 (lm cP 0 : Nat), .int .u64 (lm cP 1 : Nat), .int .u64 (lm cP 2 : Nat), .int .u64 (lm cP 3 : Nat)], .agg #[.int .u64 (lm u 0 : Nat), .int .u64 (lm u 1 : Nat), .int .u64 (lm u 2 : Nat), .int .u64 (lm u 3 : Nat)], .agg #[.int .u64 (lm v 0 : Nat), .int .u64 (lm v 1 : Nat), .int .u64 (lm v 2 : Nat), .int .u64 (lm v 3 : Nat)]] w fun e w' => e = .returned (.agg #[.int .u64 (lm t 0 : Nat), .int .u64 (lm t 1 : Nat), .int .u64 (lm t 2 : Nat), .int .u64 (lm t 3 : Nat)]) ∧ Chg [] w w' := by
  subst hu; subst hv; subst ht
  rw [Fin.val_mul]
  exact ref_mul dc_P (val_lt4 x) (val_lt4 y) w
theorem rp_add {x y : Fin PP} {u v t : Nat} (hu : x.val = u) (hv : y.val = v) (ht : (x + y).val = t) (w : World) : Calls Try.prog 75 #[.agg #[.int .u64 (lm PP 0 : Nat), .int .u64 (lm PP 1 : Nat), .int .u64 (lm PP 2 : Nat), .int .u64 (lm PP 3 : Nat), .int .u64 (lm cP 0 : Nat), .int .u64 (lm cP 1 : Nat), .int .u64 (lm cP 2 : Nat), .int .u64 (lm cP 3 : Nat)], .agg #[.int .u64 (lm u 0 : Nat), .int .u64 (lm u 1 : Nat), .int .u64 (lm u 2 : Nat), .int .u64 (lm u 3 : Nat)], .agg #[.int .u64 (lm v 0 : Nat), .int .u64 (lm v 1 : Nat), .int .u64 (lm v 2 : Nat), .int .u64 (lm v 3 : Nat)]] w fun e w' => e = .returned (.agg #[.int .u64 (lm t 0 : Nat), .int .u64 (lm t 1 : Nat), .int .u64 (lm t 2 : Nat), .int .u64 (lm t 3 : Nat)]) ∧ Chg [] w w' := by
  subst hu; subst hv; subst ht
  rw [Fin.val_add]
  exact ref_add dc_P.lt x.isLt y.isLt w
theorem sub_val (x y : Fin PP) : (x - y).val = (x.val + PP - y.val) % PP := by
  have h : (x - y).val = (PP - y.val + x.val) % PP := Fin.val_sub x y
  rw [h]
  congr 1
  have := y.isLt
  omega
theorem rp_sub {x y : Fin PP} {u v t : Nat} (hu : x.val = u) (hv : y.val = v) (ht : (x - y).val = t) (w : World) : Calls Try.prog 46 #[.agg #[.int .u64 (lm PP 0 : Nat), .int .u64 (lm PP 1 : Nat), .int .u64 (lm PP 2 : Nat), .int .u64 (lm PP 3 : Nat), .int .u64 (lm cP 0 : Nat), .int .u64 (lm cP 1 : Nat), .int .u64 (lm cP 2 : Nat), .int .u64 (lm cP 3 : Nat)], .agg #[.int .u64 (lm u 0 : Nat), .int .u64 (lm u 1 : Nat), .int .u64 (lm u 2 : Nat), .int .u64 (lm u 3 : Nat)], .agg #[.int .u64 (lm v 0 : Nat), .int .u64 (lm v 1 : Nat), .int .u64 (lm v 2 : Nat), .int .u64 (lm v 3 : Nat)]] w fun e w' => e = .returned (.agg #[.int .u64 (lm t 0 : Nat), .int .u64 (lm t 1 : Nat), .int .u64 (lm t 2 : Nat), .int .u64 (lm t 3 : Nat)]) ∧ Chg [] w w' := by
  subst hu; subst hv; subst ht
  rw [sub_val]
  exact ref_sub dc_P.lt x.isLt y.isLt w
theorem rp_zero {x : Fin PP} {u : Nat} (hu : x.val = u) (c : Bool) (hc : decide (x = 0) = c) (w : World) : Calls Try.prog 39 #[.agg #[.int .u64 (lm u 0 : Nat), .int .u64 (lm u 1 : Nat), .int .u64 (lm u 2 : Nat), .int .u64 (lm u 3 : Nat)]] w fun e w' => e = .returned (.bool c) ∧ Chg [] w w' := by
  subst hu
  have h := ref_zero (val_lt4 x) w
  rwa [show decide (x.val = 0) = c from by rw [← hc]; exact decide_eq_decide.2 ⟨fun h => Fin.ext (by rw [h]; rfl), fun h => by rw [h]; rfl⟩] at h

/-- The cells of a wardmoteref03.Over. -/
def ov (p : J) : Array Value := #[.int .u64 (lm p.x.val 0 : Nat), .int .u64 (lm p.x.val 1 : Nat), .int .u64 (lm p.x.val 2 : Nat), .int .u64 (lm p.x.val 3 : Nat), .int .u64 (lm p.y.val 0 : Nat), .int .u64 (lm p.y.val 1 : Nat), .int .u64 (lm p.y.val 2 : Nat), .int .u64 (lm p.y.val 3 : Nat), .int .u64 (lm p.z.val 0 : Nat), .int .u64 (lm p.z.val 1 : Nat), .int .u64 (lm p.z.val 2 : Nat), .int .u64 (lm p.z.val 3 : Nat)]
theorem ov_mk {x y z : Fin PP} {u v t : Nat} (hu : x.val = u) (hv : y.val = v) (ht : z.val = t) : ov ⟨x, y, z⟩ = #[.int .u64 (lm u 0 : Nat), .int .u64 (lm u 1 : Nat), .int .u64 (lm u 2 : Nat), .int .u64 (lm u 3 : Nat), .int .u64 (lm v 0 : Nat), .int .u64 (lm v 1 : Nat), .int .u64 (lm v 2 : Nat), .int .u64 (lm v 3 : Nat), .int .u64 (lm t 0 : Nat), .int .u64 (lm t 1 : Nat), .int .u64 (lm t 2 : Nat), .int .u64 (lm t 3 : Nat)] := by
  subst hu; subst hv; subst ht; rfl
/-- A point twice, by the tangent. -/
def rtwN (a : J) : J :=
  let x2 := a.x * a.x
  let w := x2 + x2 + x2
  let s := a.y * a.z
  let b := a.x * a.y * s
  let b4 := b + b + (b + b)
  let h := w * w - (b4 + b4)
  let hs := h * s
  let ys := a.y * s
  let ys2 := ys * ys
  let e := ys2 + ys2 + (ys2 + ys2)
  let s3 := s * s * s
  let z := s3 + s3 + (s3 + s3)
  ⟨hs + hs, w * (b4 - h) - (e + e), z + z⟩
def rtw (a : J) : J := if a.z = 0 ∨ a.y = 0 then ⟨0, 1, 0⟩ else rtwN a
/-- The line through two points. -/
def rplL (a b : J) : J :=
  let u := b.y * a.z - a.y * b.z
  let v := b.x * a.z - a.x * b.z
  let z := a.z * b.z
  let v2 := v * v
  let v3 := v2 * v
  let w := v2 * (a.x * b.z)
  let t := u * u * z - v3 - (w + w)
  ⟨v * t, u * (w - t) - v3 * (a.y * b.z), v3 * z⟩

set_option maxRecDepth 100000 in
set_option maxHeartbeats 8000000 in
theorem rtwice_n (p : J) (hz : ¬ p.z = 0) (hy : ¬ p.y = 0) (w : World) : Calls Try.prog 74 #[.agg (ov p)] w fun e w' => e = .returned (.agg (ov (rtwN p))) ∧ Chg [] w w' := by

  obtain ⟨Axe, heAx⟩ : ∃ e, p.x = e := ⟨_, rfl⟩
  obtain ⟨Axv, hAxv⟩ : ∃ v, Axe.val = v := ⟨_, rfl⟩
  obtain ⟨Aye, heAy⟩ : ∃ e, p.y = e := ⟨_, rfl⟩
  obtain ⟨Ayv, hAyv⟩ : ∃ v, Aye.val = v := ⟨_, rfl⟩
  obtain ⟨Aze, heAz⟩ : ∃ e, p.z = e := ⟨_, rfl⟩
  obtain ⟨Azv, hAzv⟩ : ∃ v, Aze.val = v := ⟨_, rfl⟩
  obtain ⟨e0, he0⟩ : ∃ e, Axe * Axe = e := ⟨_, rfl⟩
  obtain ⟨v0, hv0⟩ : ∃ v, e0.val = v := ⟨_, rfl⟩
  obtain ⟨e1, he1⟩ : ∃ e, e0 + e0 = e := ⟨_, rfl⟩
  obtain ⟨v1, hv1⟩ : ∃ v, e1.val = v := ⟨_, rfl⟩
  obtain ⟨e2, he2⟩ : ∃ e, e1 + e0 = e := ⟨_, rfl⟩
  obtain ⟨v2, hv2⟩ : ∃ v, e2.val = v := ⟨_, rfl⟩
  obtain ⟨e3, he3⟩ : ∃ e, Aye * Aze = e := ⟨_, rfl⟩
  obtain ⟨v3, hv3⟩ : ∃ v, e3.val = v := ⟨_, rfl⟩
  obtain ⟨e4, he4⟩ : ∃ e, Axe * Aye = e := ⟨_, rfl⟩
  obtain ⟨v4, hv4⟩ : ∃ v, e4.val = v := ⟨_, rfl⟩
  obtain ⟨e5, he5⟩ : ∃ e, e4 * e3 = e := ⟨_, rfl⟩
  obtain ⟨v5, hv5⟩ : ∃ v, e5.val = v := ⟨_, rfl⟩
  obtain ⟨e6, he6⟩ : ∃ e, e5 + e5 = e := ⟨_, rfl⟩
  obtain ⟨v6, hv6⟩ : ∃ v, e6.val = v := ⟨_, rfl⟩
  obtain ⟨e7, he7⟩ : ∃ e, e6 + e6 = e := ⟨_, rfl⟩
  obtain ⟨v7, hv7⟩ : ∃ v, e7.val = v := ⟨_, rfl⟩
  obtain ⟨e8, he8⟩ : ∃ e, e2 * e2 = e := ⟨_, rfl⟩
  obtain ⟨v8, hv8⟩ : ∃ v, e8.val = v := ⟨_, rfl⟩
  obtain ⟨e9, he9⟩ : ∃ e, e7 + e7 = e := ⟨_, rfl⟩
  obtain ⟨v9, hv9⟩ : ∃ v, e9.val = v := ⟨_, rfl⟩
  obtain ⟨e10, he10⟩ : ∃ e, e8 - e9 = e := ⟨_, rfl⟩
  obtain ⟨v10, hv10⟩ : ∃ v, e10.val = v := ⟨_, rfl⟩
  obtain ⟨e11, he11⟩ : ∃ e, e10 * e3 = e := ⟨_, rfl⟩
  obtain ⟨v11, hv11⟩ : ∃ v, e11.val = v := ⟨_, rfl⟩
  obtain ⟨e12, he12⟩ : ∃ e, Aye * e3 = e := ⟨_, rfl⟩
  obtain ⟨v12, hv12⟩ : ∃ v, e12.val = v := ⟨_, rfl⟩
  obtain ⟨e13, he13⟩ : ∃ e, e12 * e12 = e := ⟨_, rfl⟩
  obtain ⟨v13, hv13⟩ : ∃ v, e13.val = v := ⟨_, rfl⟩
  obtain ⟨e14, he14⟩ : ∃ e, e13 + e13 = e := ⟨_, rfl⟩
  obtain ⟨v14, hv14⟩ : ∃ v, e14.val = v := ⟨_, rfl⟩
  obtain ⟨e15, he15⟩ : ∃ e, e14 + e14 = e := ⟨_, rfl⟩
  obtain ⟨v15, hv15⟩ : ∃ v, e15.val = v := ⟨_, rfl⟩
  obtain ⟨e16, he16⟩ : ∃ e, e3 * e3 = e := ⟨_, rfl⟩
  obtain ⟨v16, hv16⟩ : ∃ v, e16.val = v := ⟨_, rfl⟩
  obtain ⟨e17, he17⟩ : ∃ e, e16 * e3 = e := ⟨_, rfl⟩
  obtain ⟨v17, hv17⟩ : ∃ v, e17.val = v := ⟨_, rfl⟩
  obtain ⟨e18, he18⟩ : ∃ e, e17 + e17 = e := ⟨_, rfl⟩
  obtain ⟨v18, hv18⟩ : ∃ v, e18.val = v := ⟨_, rfl⟩
  obtain ⟨e19, he19⟩ : ∃ e, e18 + e18 = e := ⟨_, rfl⟩
  obtain ⟨v19, hv19⟩ : ∃ v, e19.val = v := ⟨_, rfl⟩
  obtain ⟨e20, he20⟩ : ∃ e, e11 + e11 = e := ⟨_, rfl⟩
  obtain ⟨v20, hv20⟩ : ∃ v, e20.val = v := ⟨_, rfl⟩
  obtain ⟨e21, he21⟩ : ∃ e, e7 - e10 = e := ⟨_, rfl⟩
  obtain ⟨v21, hv21⟩ : ∃ v, e21.val = v := ⟨_, rfl⟩
  obtain ⟨e22, he22⟩ : ∃ e, e2 * e21 = e := ⟨_, rfl⟩
  obtain ⟨v22, hv22⟩ : ∃ v, e22.val = v := ⟨_, rfl⟩
  obtain ⟨e23, he23⟩ : ∃ e, e15 + e15 = e := ⟨_, rfl⟩
  obtain ⟨v23, hv23⟩ : ∃ v, e23.val = v := ⟨_, rfl⟩
  obtain ⟨e24, he24⟩ : ∃ e, e22 - e23 = e := ⟨_, rfl⟩
  obtain ⟨v24, hv24⟩ : ∃ v, e24.val = v := ⟨_, rfl⟩
  obtain ⟨e25, he25⟩ : ∃ e, e19 + e19 = e := ⟨_, rfl⟩
  obtain ⟨v25, hv25⟩ : ∃ v, e25.val = v := ⟨_, rfl⟩
  have C0 := Lib.hid (fun w => rp_mul (t := v0) hAxv hAxv (by rw [he0]; exact hv0) w)
  have C1 := Lib.hid (fun w => rp_add (t := v1) hv0 hv0 (by rw [he1]; exact hv1) w)
  have C2 := Lib.hid (fun w => rp_add (t := v2) hv1 hv0 (by rw [he2]; exact hv2) w)
  have C3 := Lib.hid (fun w => rp_mul (t := v3) hAyv hAzv (by rw [he3]; exact hv3) w)
  have C4 := Lib.hid (fun w => rp_mul (t := v4) hAxv hAyv (by rw [he4]; exact hv4) w)
  have C5 := Lib.hid (fun w => rp_mul (t := v5) hv4 hv3 (by rw [he5]; exact hv5) w)
  have C6 := Lib.hid (fun w => rp_add (t := v6) hv5 hv5 (by rw [he6]; exact hv6) w)
  have C7 := Lib.hid (fun w => rp_add (t := v7) hv6 hv6 (by rw [he7]; exact hv7) w)
  have C8 := Lib.hid (fun w => rp_mul (t := v8) hv2 hv2 (by rw [he8]; exact hv8) w)
  have C9 := Lib.hid (fun w => rp_add (t := v9) hv7 hv7 (by rw [he9]; exact hv9) w)
  have C10 := Lib.hid (fun w => rp_sub (t := v10) hv8 hv9 (by rw [he10]; exact hv10) w)
  have C11 := Lib.hid (fun w => rp_mul (t := v11) hv10 hv3 (by rw [he11]; exact hv11) w)
  have C12 := Lib.hid (fun w => rp_mul (t := v12) hAyv hv3 (by rw [he12]; exact hv12) w)
  have C13 := Lib.hid (fun w => rp_mul (t := v13) hv12 hv12 (by rw [he13]; exact hv13) w)
  have C14 := Lib.hid (fun w => rp_add (t := v14) hv13 hv13 (by rw [he14]; exact hv14) w)
  have C15 := Lib.hid (fun w => rp_add (t := v15) hv14 hv14 (by rw [he15]; exact hv15) w)
  have C16 := Lib.hid (fun w => rp_mul (t := v16) hv3 hv3 (by rw [he16]; exact hv16) w)
  have C17 := Lib.hid (fun w => rp_mul (t := v17) hv16 hv3 (by rw [he17]; exact hv17) w)
  have C18 := Lib.hid (fun w => rp_add (t := v18) hv17 hv17 (by rw [he18]; exact hv18) w)
  have C19 := Lib.hid (fun w => rp_add (t := v19) hv18 hv18 (by rw [he19]; exact hv19) w)
  have C20 := Lib.hid (fun w => rp_add (t := v20) hv11 hv11 (by rw [he20]; exact hv20) w)
  have C21 := Lib.hid (fun w => rp_sub (t := v21) hv7 hv10 (by rw [he21]; exact hv21) w)
  have C22 := Lib.hid (fun w => rp_mul (t := v22) hv2 hv21 (by rw [he22]; exact hv22) w)
  have C23 := Lib.hid (fun w => rp_add (t := v23) hv15 hv15 (by rw [he23]; exact hv23) w)
  have C24 := Lib.hid (fun w => rp_sub (t := v24) hv22 hv23 (by rw [he24]; exact hv24) w)
  have C25 := Lib.hid (fun w => rp_add (t := v25) hv19 hv19 (by rw [he25]; exact hv25) w)
  have hres : rtwN p = ⟨e20, e24, e25⟩ := by
    subst he25; subst he24; subst he23; subst he22; subst he21; subst he20; subst he19; subst he18; subst he17; subst he16; subst he15; subst he14; subst he13; subst he12; subst he11; subst he10; subst he9; subst he8; subst he7; subst he6; subst he5; subst he4; subst he3; subst he2; subst he1; subst he0
    subst heAx; subst heAy; subst heAz
    rfl
  obtain ⟨Zr, hZr⟩ : ∃ Z, ov (rtwN p) = Z := ⟨_, rfl⟩
  rw [hZr]
  have HZ := Lib.hid (show Zr = #[.int .u64 (lm v20 0 : Nat), .int .u64 (lm v20 1 : Nat), .int .u64 (lm v20 2 : Nat), .int .u64 (lm v20 3 : Nat), .int .u64 (lm v24 0 : Nat), .int .u64 (lm v24 1 : Nat), .int .u64 (lm v24 2 : Nat), .int .u64 (lm v24 3 : Nat), .int .u64 (lm v25 0 : Nat), .int .u64 (lm v25 1 : Nat), .int .u64 (lm v25 2 : Nat), .int .u64 (lm v25 3 : Nat)] by rw [← hZr, hres]; exact ov_mk hv20 hv24 hv25)
  have Q1 := Lib.hid (fun w => rp_zero hAzv false (by rw [← heAz]; simpa using hz) w); have Q2 := Lib.hid (fun w => rp_zero hAyv false (by rw [← heAy]; simpa using hy) w)
  have hb := fun w => ref_base w
  unfold dcCells at hb
  have HBase := Lib.hid hb
  have hj : ov p = #[.int .u64 (lm Axv 0 : Nat), .int .u64 (lm Axv 1 : Nat), .int .u64 (lm Axv 2 : Nat), .int .u64 (lm Axv 3 : Nat), .int .u64 (lm Ayv 0 : Nat), .int .u64 (lm Ayv 1 : Nat), .int .u64 (lm Ayv 2 : Nat), .int .u64 (lm Ayv 3 : Nat), .int .u64 (lm Azv 0 : Nat), .int .u64 (lm Azv 1 : Nat), .int .u64 (lm Azv 2 : Nat), .int .u64 (lm Azv 3 : Nat)] := by unfold ov; rw [heAx, heAy, heAz, hAxv, hAyv, hAzv]
  rw [hj]
  clear hj hb hZr hres hz hy heAx heAy heAz hAxv hAyv hAzv he0 hv0 he1 hv1 he2 hv2 he3 hv3 he4 hv4 he5 hv5 he6 hv6 he7 hv7 he8 hv8 he9 hv9 he10 hv10 he11 hv11 he12 hv12 he13 hv13 he14 hv14 he15 hv15 he16 hv16 he17 hv17 he18 hv18 he19 hv19 he20 hv20 he21 hv21 he22 hv22 he23 hv23 he24 hv24 he25 hv25
  obtain ⟨W0, hW0⟩ : ∃ W0, (w.alloc (.cells #[.int .u64 (lm Axv 0 : Nat), .int .u64 (lm Axv 1 : Nat), .int .u64 (lm Axv 2 : Nat), .int .u64 (lm Axv 3 : Nat), .int .u64 (lm Ayv 0 : Nat), .int .u64 (lm Ayv 1 : Nat), .int .u64 (lm Ayv 2 : Nat), .int .u64 (lm Ayv 3 : Nat), .int .u64 (lm Azv 0 : Nat), .int .u64 (lm Azv 1 : Nat), .int .u64 (lm Azv 2 : Nat), .int .u64 (lm Azv 3 : Nat)] 71)).alloc (.cells #[.int .u64 0, .int .u64 0, .int .u64 0, .int .u64 0, .int .u64 0, .int .u64 0, .int .u64 0, .int .u64 0, .int .u64 0, .int .u64 0, .int .u64 0, .int .u64 0] 71) = W0 := ⟨_, rfl⟩
  have HBA := Lib.hid (show U12 W0 (w.heap.size) 71 Axv Ayv Azv by rw [← hW0]; exact has_alloc (has_alloc_new _ _))
  have HR := Lib.hid (show Z12 W0 (w.heap.size + 1) 71 by rw [← hW0]; exact has_alloc_at (by simp))
  have HC := Lib.hid (show Chg [] w W0 by rw [← hW0]; exact ((Chg.refl _ _).alloc _).alloc _)
  obtain ⟨Az0, Az1, Az2, Az3⟩ := four4 fun _ => (HBA.out).cz
  go_enter Try.func74, Try.ntmps74
  go_wp2_with fail
  try rw [hW0]
  clear hW0
  obtain ⟨P, hP⟩ : ∃ P, w.heap.size = P := ⟨_, rfl⟩
  rw [hP] at HBA HR Az0 Az1 Az2 Az3 ⊢
  obtain ⟨R, hR⟩ : ∃ R, P + 1 = R := ⟨_, rfl⟩
  rw [hR] at HR ⊢
  have hRP : P < R := by omega
  replace hR := Lib.hid hR
  replace hP := Lib.hid hP
  refine (Q1.out _).mono ?_
  rintro e w1 ⟨rfl, hC1⟩
  clear Az0 Az1 Az2 Az3
  replace HBA := Lib.hid (HBA.out.chg hC1 nmN)
  replace HR := Lib.hid (HR.out.chg hC1 nmN)
  replace HC := Lib.hid (HC.out.trans hC1)
  clear hC1
  obtain ⟨Ay0, Ay1, Ay2, Ay3⟩ := four4 fun _ => (HBA.out).cy
  go_wp2_with fail
  refine (Q2.out _).mono ?_
  rintro e w1 ⟨rfl, hC1⟩
  clear Ay0 Ay1 Ay2 Ay3
  replace HBA := Lib.hid (HBA.out.chg hC1 nmN)
  replace HR := Lib.hid (HR.out.chg hC1 nmN)
  replace HC := Lib.hid (HC.out.trans hC1)
  clear hC1
  go_wp2_with fail
  refine (HBase.out _).mono ?_
  rintro e w1 ⟨rfl, hC1⟩
  replace HBA := Lib.hid (HBA.out.chg hC1 nmN)
  replace HR := Lib.hid (HR.out.chg hC1 nmN)
  replace HC := Lib.hid (HC.out.trans hC1)
  clear hC1
  obtain ⟨W1, hW1⟩ : ∃ W1, w1.alloc (.cells #[.int .u64 (lm PP 0 : Nat), .int .u64 (lm PP 1 : Nat), .int .u64 (lm PP 2 : Nat), .int .u64 (lm PP 3 : Nat), .int .u64 (lm cP 0 : Nat), .int .u64 (lm cP 1 : Nat), .int .u64 (lm cP 2 : Nat), .int .u64 (lm cP 3 : Nat)] 76) = W1 := ⟨_, rfl⟩
  have hA : Chg [] w1 W1 := by rw [← hW1]; exact (Chg.refl _ _).alloc _
  have hN : UD W1 w1.heap.size PP cP := by rw [← hW1]; exact has_alloc_new _ _
  obtain ⟨bD, hb⟩ : ∃ b, w1.heap.size = b := ⟨_, rfl⟩
  have lD : R < bD := by rw [← hb]; exact HR.out.lt
  rw [hb] at hN
  replace HBA := Lib.hid (HBA.out.chg hA nmN)
  replace HR := Lib.hid (HR.out.chg hA nmN)
  replace HC := Lib.hid (HC.out.trans hA)
  have HD := Lib.hid hN
  go_upto_region 4 with fail
  try rw [hW1]
  try rw [hb]
  clear hW1 hb hA hN
  obtain ⟨D0, D1, D2, D3⟩ := four4 fun _ => (HD.out).cm; obtain ⟨D4, D5, D6, D7⟩ := four4 fun _ => (HD.out).cc
  obtain ⟨Ax0, Ax1, Ax2, Ax3⟩ := four4 fun _ => (HBA.out).cx
  go_wp2_with fail
  refine (C0.out _).mono ?_
  rintro e w1 ⟨rfl, hC1⟩
  clear D0 D1 D2 D3 D4 D5 D6 D7 Ax0 Ax1 Ax2 Ax3
  replace HBA := Lib.hid (HBA.out.chg hC1 nmN)
  replace HR := Lib.hid (HR.out.chg hC1 nmN)
  replace HC := Lib.hid (HC.out.trans hC1)
  replace HD := Lib.hid (HD.out.chg hC1 nmN)
  clear hC1
  obtain ⟨W1, hW1⟩ : ∃ W1, w1.alloc (.cells #[.int .u64 (lm v0 0 : Nat), .int .u64 (lm v0 1 : Nat), .int .u64 (lm v0 2 : Nat), .int .u64 (lm v0 3 : Nat)] 24) = W1 := ⟨_, rfl⟩
  have hA : Chg [] w1 W1 := by rw [← hW1]; exact (Chg.refl _ _).alloc _
  have hN : U4 W1 w1.heap.size 24 (lm v0) := by rw [← hW1]; exact has_alloc_new _ _
  obtain ⟨b0, hb⟩ : ∃ b, w1.heap.size = b := ⟨_, rfl⟩
  have l0 : R < b0 := by rw [← hb]; exact HR.out.lt
  rw [hb] at hN
  replace HBA := Lib.hid (HBA.out.chg hA nmN)
  replace HR := Lib.hid (HR.out.chg hA nmN)
  replace HC := Lib.hid (HC.out.trans hA)
  replace HD := Lib.hid (HD.out.chg hA nmN)
  have H_0 := Lib.hid hN
  go_upto_region 5 with fail
  try rw [hW1]
  try rw [hb]
  clear hW1 hb hA hN
  obtain ⟨D0, D1, D2, D3⟩ := four4 fun _ => (HD.out).cm; obtain ⟨D4, D5, D6, D7⟩ := four4 fun _ => (HD.out).cc
  obtain ⟨w0_0, w0_1, w0_2, w0_3⟩ := four4 fun _ => (H_0.out).cell
  refine abs_region (B := Chg [] W1) (S := Chg [] W1) (by kernel_rfl) ((Chg.refl _ _).drew) ?_
  have hG := good_chg [] W1
  refine Abs.take_np (i := 0) (d := some 33) (v := ?_) rfl rfl (by kernel_rfl) (by kernel_rfl) (by kernel_rfl) hG ⟨by rfl, fun w9 hw9 => Or.inl ?_⟩ ?_
  rotate_left
  · replace D0 := hw9.cell D0 nmN; replace D1 := hw9.cell D1 nmN; replace D2 := hw9.cell D2 nmN; replace D3 := hw9.cell D3 nmN; replace D4 := hw9.cell D4 nmN; replace D5 := hw9.cell D5 nmN; replace D6 := hw9.cell D6 nmN; replace D7 := hw9.cell D7 nmN
    go_simp
    try with_reducible rfl
  simp only [Act.put, stA, stB, stC]
  refine Abs.take_np (i := 1) (d := some 34) (v := ?_) rfl rfl (by kernel_rfl) (by kernel_rfl) (by kernel_rfl) hG ⟨by rfl, fun w9 hw9 => Or.inl ?_⟩ ?_
  rotate_left
  · replace D0 := hw9.cell D0 nmN; replace D1 := hw9.cell D1 nmN; replace D2 := hw9.cell D2 nmN; replace D3 := hw9.cell D3 nmN; replace D4 := hw9.cell D4 nmN; replace D5 := hw9.cell D5 nmN; replace D6 := hw9.cell D6 nmN; replace D7 := hw9.cell D7 nmN
    go_simp
    try with_reducible rfl
  simp only [Act.put, stA, stB, stC]
  refine Abs.take_np (i := 2) (d := some 35) (v := ?_) rfl rfl (by kernel_rfl) (by kernel_rfl) (by kernel_rfl) hG ⟨by rfl, fun w9 hw9 => Or.inl ?_⟩ ?_
  rotate_left
  · replace w0_0 := hw9.cell w0_0 nmN; replace w0_1 := hw9.cell w0_1 nmN; replace w0_2 := hw9.cell w0_2 nmN; replace w0_3 := hw9.cell w0_3 nmN
    go_simp
    try with_reducible rfl
  simp only [Act.put, stA, stB, stC]
  refine Abs.take_np (i := 3) (d := some 36) (v := ?_) rfl rfl (by kernel_rfl) (by kernel_rfl) (by kernel_rfl) hG ⟨by rfl, fun w9 hw9 => Or.inl ?_⟩ ?_
  rotate_left
  · replace w0_0 := hw9.cell w0_0 nmN; replace w0_1 := hw9.cell w0_1 nmN; replace w0_2 := hw9.cell w0_2 nmN; replace w0_3 := hw9.cell w0_3 nmN
    go_simp
    try with_reducible rfl
  simp only [Act.put, stA, stB, stC]
  refine Abs.take_np (i := 4) (d := some 37) (v := _) rfl rfl (by kernel_rfl) (by kernel_rfl) (by kernel_rfl) hG ⟨by rfl, fun w9 hw9 => Or.inr ⟨_, _, ?_, C1.out w9⟩⟩ ?_
  · go_simp
    try with_reducible rfl
  simp only [Act.put, stA, stB, stC]
  refine Abs.take_np (i := 5) (d := some 38) (v := ?_) rfl rfl (by kernel_rfl) (by kernel_rfl) (by kernel_rfl) hG ⟨by rfl, fun w9 hw9 => Or.inl ?_⟩ ?_
  rotate_left
  · replace w0_0 := hw9.cell w0_0 nmN; replace w0_1 := hw9.cell w0_1 nmN; replace w0_2 := hw9.cell w0_2 nmN; replace w0_3 := hw9.cell w0_3 nmN
    go_simp
    try with_reducible rfl
  simp only [Act.put, stA, stB, stC]
  refine Abs.take_np (i := 6) (d := some 39) (v := _) rfl rfl (by kernel_rfl) (by kernel_rfl) (by kernel_rfl) hG ⟨by rfl, fun w9 hw9 => Or.inr ⟨_, _, ?_, C2.out w9⟩⟩ ?_
  · go_simp
    try with_reducible rfl
  simp only [Act.put, stA, stB, stC]
  refine Abs.alloc4 (i := 7) (t := 24) (X := []) (W := W1) rfl (by kernel_rfl) (by rfl) hG (fun _ h => h) (fun w9 => ?_) (fun b2 hb2 hG => ?_)
  · go_simp
    try with_reducible rfl
  refine Abs.at_put (d := some 5) rfl ?_
  simp only [Act.put, stA, stB, stC]
  refine Abs.store4 (i := 8) (b := b2) (ds := #[.int .u64 (lm v2 0 : Nat), .int .u64 (lm v2 1 : Nat), .int .u64 (lm v2 2 : Nat), .int .u64 (lm v2 3 : Nat)]) rfl (by kernel_rfl) (by rfl) (fun w9 => (((w9.setCell ⟨b2, 0, none⟩ (.int .u64 (lm v2 0 : Nat))).setCell ⟨b2, 1, none⟩ (.int .u64 (lm v2 1 : Nat))).setCell ⟨b2, 2, none⟩ (.int .u64 (lm v2 2 : Nat))).setCell ⟨b2, 3, none⟩ (.int .u64 (lm v2 3 : Nat))) (fun w9 h9 => ⟨?_, ?_, ?_⟩) (fun _ _ h k => Chg.keeps (Or.inr hb2) h k) (good_chg [] W1) (fun hG => ?_)
  · have n0 := cell_of_has h9 0; have n1 := cell_of_has h9 1; have n2 := cell_of_has h9 2; have n3 := cell_of_has h9 3
    simp only [glA, glB, glC] at n0 n1 n2 n3
    have z0 := frozen_of_has h9 0; have z1 := frozen_of_has h9 1; have z2 := frozen_of_has h9 2; have z3 := frozen_of_has h9 3
    clear h9
    go_simp
    try with_reducible rfl
  · exact U4.put_x (x := fun _ => 0) h9 v2
  · exact Chg.put_x (Chg.refl _ _) (Or.inl (by simp)) v2
  refine Abs.at_put (d := none) rfl ?_
  simp only [Act.put, stA, stB, stC]
  refine Abs.done (by kernel_rfl) (fun wx hx => NoPanic.normal ?_) _
  clear D0 D1 D2 D3 D4 D5 D6 D7 w0_0 w0_1 w0_2 w0_3
  obtain ⟨hA, hN⟩ := hx
  have l2 : R < b2 := Nat.lt_of_lt_of_le HR.out.lt hb2
  have hN : U4 wx b2 24 (lm v2) := hN
  replace HBA := Lib.hid (HBA.out.chg hA nmN)
  replace HR := Lib.hid (HR.out.chg hA nmN)
  replace HC := Lib.hid (HC.out.trans hA)
  replace HD := Lib.hid (HD.out.chg hA nmN)
  replace H_0 := Lib.hid (H_0.out.chg hA nmN)
  have H_2 := Lib.hid hN
  clear hA hN hb2
  go_upto_region 6 with fail
  obtain ⟨D0, D1, D2, D3⟩ := four4 fun _ => (HD.out).cm; obtain ⟨D4, D5, D6, D7⟩ := four4 fun _ => (HD.out).cc
  obtain ⟨Ay0, Ay1, Ay2, Ay3⟩ := four4 fun _ => (HBA.out).cy
  obtain ⟨Az0, Az1, Az2, Az3⟩ := four4 fun _ => (HBA.out).cz
  go_wp2_with fail
  refine (C3.out _).mono ?_
  rintro e w1 ⟨rfl, hC1⟩
  clear D0 D1 D2 D3 D4 D5 D6 D7 Ay0 Ay1 Ay2 Ay3 Az0 Az1 Az2 Az3
  replace HBA := Lib.hid (HBA.out.chg hC1 nmN)
  replace HR := Lib.hid (HR.out.chg hC1 nmN)
  replace HC := Lib.hid (HC.out.trans hC1)
  replace HD := Lib.hid (HD.out.chg hC1 nmN)
  replace H_0 := Lib.hid (H_0.out.chg hC1 nmN)
  replace H_2 := Lib.hid (H_2.out.chg hC1 nmN)
  clear hC1
  obtain ⟨W1, hW1⟩ : ∃ W1, w1.alloc (.cells #[.int .u64 (lm v3 0 : Nat), .int .u64 (lm v3 1 : Nat), .int .u64 (lm v3 2 : Nat), .int .u64 (lm v3 3 : Nat)] 24) = W1 := ⟨_, rfl⟩
  have hA : Chg [] w1 W1 := by rw [← hW1]; exact (Chg.refl _ _).alloc _
  have hN : U4 W1 w1.heap.size 24 (lm v3) := by rw [← hW1]; exact has_alloc_new _ _
  obtain ⟨b3, hb⟩ : ∃ b, w1.heap.size = b := ⟨_, rfl⟩
  have l3 : R < b3 := by rw [← hb]; exact HR.out.lt
  rw [hb] at hN
  replace HBA := Lib.hid (HBA.out.chg hA nmN)
  replace HR := Lib.hid (HR.out.chg hA nmN)
  replace HC := Lib.hid (HC.out.trans hA)
  replace HD := Lib.hid (HD.out.chg hA nmN)
  replace H_0 := Lib.hid (H_0.out.chg hA nmN)
  replace H_2 := Lib.hid (H_2.out.chg hA nmN)
  have H_3 := Lib.hid hN
  go_upto_region 7 with fail
  try rw [hW1]
  try rw [hb]
  clear hW1 hb hA hN
  obtain ⟨D0, D1, D2, D3⟩ := four4 fun _ => (HD.out).cm; obtain ⟨D4, D5, D6, D7⟩ := four4 fun _ => (HD.out).cc
  obtain ⟨Ax0, Ax1, Ax2, Ax3⟩ := four4 fun _ => (HBA.out).cx
  obtain ⟨Ay0, Ay1, Ay2, Ay3⟩ := four4 fun _ => (HBA.out).cy
  obtain ⟨w3_0, w3_1, w3_2, w3_3⟩ := four4 fun _ => (H_3.out).cell
  refine abs_region (B := Chg [] W1) (S := Chg [] W1) (by kernel_rfl) ((Chg.refl _ _).drew) ?_
  have hG := good_chg [] W1
  refine Abs.take_np (i := 0) (d := some 46) (v := ?_) rfl rfl (by kernel_rfl) (by kernel_rfl) (by kernel_rfl) hG ⟨by rfl, fun w9 hw9 => Or.inl ?_⟩ ?_
  rotate_left
  · replace D0 := hw9.cell D0 nmN; replace D1 := hw9.cell D1 nmN; replace D2 := hw9.cell D2 nmN; replace D3 := hw9.cell D3 nmN; replace D4 := hw9.cell D4 nmN; replace D5 := hw9.cell D5 nmN; replace D6 := hw9.cell D6 nmN; replace D7 := hw9.cell D7 nmN
    go_simp
    try with_reducible rfl
  simp only [Act.put, stA, stB, stC]
  refine Abs.take_np (i := 1) (d := some 47) (v := ?_) rfl rfl (by kernel_rfl) (by kernel_rfl) (by kernel_rfl) hG ⟨by rfl, fun w9 hw9 => Or.inl ?_⟩ ?_
  rotate_left
  · replace D0 := hw9.cell D0 nmN; replace D1 := hw9.cell D1 nmN; replace D2 := hw9.cell D2 nmN; replace D3 := hw9.cell D3 nmN; replace D4 := hw9.cell D4 nmN; replace D5 := hw9.cell D5 nmN; replace D6 := hw9.cell D6 nmN; replace D7 := hw9.cell D7 nmN
    go_simp
    try with_reducible rfl
  simp only [Act.put, stA, stB, stC]
  refine Abs.take_np (i := 2) (d := some 48) (v := ?_) rfl rfl (by kernel_rfl) (by kernel_rfl) (by kernel_rfl) hG ⟨by rfl, fun w9 hw9 => Or.inl ?_⟩ ?_
  rotate_left
  · go_simp
    try with_reducible rfl
  simp only [Act.put, stA, stB, stC]
  refine Abs.take_np (i := 3) (d := some 49) (v := ?_) rfl rfl (by kernel_rfl) (by kernel_rfl) (by kernel_rfl) hG ⟨by rfl, fun w9 hw9 => Or.inl ?_⟩ ?_
  rotate_left
  · replace Ax0 := hw9.cell Ax0 nmN; replace Ax1 := hw9.cell Ax1 nmN; replace Ax2 := hw9.cell Ax2 nmN; replace Ax3 := hw9.cell Ax3 nmN
    go_simp
    try with_reducible rfl
  simp only [Act.put, stA, stB, stC]
  refine Abs.take_np (i := 4) (d := some 50) (v := ?_) rfl rfl (by kernel_rfl) (by kernel_rfl) (by kernel_rfl) hG ⟨by rfl, fun w9 hw9 => Or.inl ?_⟩ ?_
  rotate_left
  · go_simp
    try with_reducible rfl
  simp only [Act.put, stA, stB, stC]
  refine Abs.take_np (i := 5) (d := some 51) (v := ?_) rfl rfl (by kernel_rfl) (by kernel_rfl) (by kernel_rfl) hG ⟨by rfl, fun w9 hw9 => Or.inl ?_⟩ ?_
  rotate_left
  · replace Ay0 := hw9.cell Ay0 nmN; replace Ay1 := hw9.cell Ay1 nmN; replace Ay2 := hw9.cell Ay2 nmN; replace Ay3 := hw9.cell Ay3 nmN
    go_simp
    try with_reducible rfl
  simp only [Act.put, stA, stB, stC]
  refine Abs.take_np (i := 6) (d := some 52) (v := _) rfl rfl (by kernel_rfl) (by kernel_rfl) (by kernel_rfl) hG ⟨by rfl, fun w9 hw9 => Or.inr ⟨_, _, ?_, C4.out w9⟩⟩ ?_
  · go_simp
    try with_reducible rfl
  simp only [Act.put, stA, stB, stC]
  refine Abs.take_np (i := 7) (d := some 53) (v := ?_) rfl rfl (by kernel_rfl) (by kernel_rfl) (by kernel_rfl) hG ⟨by rfl, fun w9 hw9 => Or.inl ?_⟩ ?_
  rotate_left
  · replace w3_0 := hw9.cell w3_0 nmN; replace w3_1 := hw9.cell w3_1 nmN; replace w3_2 := hw9.cell w3_2 nmN; replace w3_3 := hw9.cell w3_3 nmN
    go_simp
    try with_reducible rfl
  simp only [Act.put, stA, stB, stC]
  refine Abs.take_np (i := 8) (d := some 54) (v := _) rfl rfl (by kernel_rfl) (by kernel_rfl) (by kernel_rfl) hG ⟨by rfl, fun w9 hw9 => Or.inr ⟨_, _, ?_, C5.out w9⟩⟩ ?_
  · go_simp
    try with_reducible rfl
  simp only [Act.put, stA, stB, stC]
  refine Abs.alloc4 (i := 9) (t := 24) (X := []) (W := W1) rfl (by kernel_rfl) (by rfl) hG (fun _ h => h) (fun w9 => ?_) (fun b5 hb5 hG => ?_)
  · go_simp
    try with_reducible rfl
  refine Abs.at_put (d := some 7) rfl ?_
  simp only [Act.put, stA, stB, stC]
  refine Abs.store4 (i := 10) (b := b5) (ds := #[.int .u64 (lm v5 0 : Nat), .int .u64 (lm v5 1 : Nat), .int .u64 (lm v5 2 : Nat), .int .u64 (lm v5 3 : Nat)]) rfl (by kernel_rfl) (by rfl) (fun w9 => (((w9.setCell ⟨b5, 0, none⟩ (.int .u64 (lm v5 0 : Nat))).setCell ⟨b5, 1, none⟩ (.int .u64 (lm v5 1 : Nat))).setCell ⟨b5, 2, none⟩ (.int .u64 (lm v5 2 : Nat))).setCell ⟨b5, 3, none⟩ (.int .u64 (lm v5 3 : Nat))) (fun w9 h9 => ⟨?_, ?_, ?_⟩) (fun _ _ h k => Chg.keeps (Or.inr hb5) h k) (good_chg [] W1) (fun hG => ?_)
  · have n0 := cell_of_has h9 0; have n1 := cell_of_has h9 1; have n2 := cell_of_has h9 2; have n3 := cell_of_has h9 3
    simp only [glA, glB, glC] at n0 n1 n2 n3
    have z0 := frozen_of_has h9 0; have z1 := frozen_of_has h9 1; have z2 := frozen_of_has h9 2; have z3 := frozen_of_has h9 3
    clear h9
    go_simp
    try with_reducible rfl
  · exact U4.put_x (x := fun _ => 0) h9 v5
  · exact Chg.put_x (Chg.refl _ _) (Or.inl (by simp)) v5
  refine Abs.at_put (d := none) rfl ?_
  simp only [Act.put, stA, stB, stC]
  refine Abs.done (by kernel_rfl) (fun wx hx => NoPanic.normal ?_) _
  clear D0 D1 D2 D3 D4 D5 D6 D7 Ax0 Ax1 Ax2 Ax3 Ay0 Ay1 Ay2 Ay3 w3_0 w3_1 w3_2 w3_3
  obtain ⟨hA, hN⟩ := hx
  have l5 : R < b5 := Nat.lt_of_lt_of_le HR.out.lt hb5
  have hN : U4 wx b5 24 (lm v5) := hN
  replace HBA := Lib.hid (HBA.out.chg hA nmN)
  replace HR := Lib.hid (HR.out.chg hA nmN)
  replace HC := Lib.hid (HC.out.trans hA)
  replace HD := Lib.hid (HD.out.chg hA nmN)
  replace H_0 := Lib.hid (H_0.out.chg hA nmN)
  replace H_2 := Lib.hid (H_2.out.chg hA nmN)
  replace H_3 := Lib.hid (H_3.out.chg hA nmN)
  have H_5 := Lib.hid hN
  clear hA hN hb5
  go_upto_region 8 with fail
  obtain ⟨D0, D1, D2, D3⟩ := four4 fun _ => (HD.out).cm; obtain ⟨D4, D5, D6, D7⟩ := four4 fun _ => (HD.out).cc
  obtain ⟨w5_0, w5_1, w5_2, w5_3⟩ := four4 fun _ => (H_5.out).cell
  refine abs_region (B := Chg [] wx) (S := Chg [] wx) (by kernel_rfl) ((Chg.refl _ _).drew) ?_
  have hG := good_chg [] wx
  refine Abs.take_np (i := 0) (d := some 55) (v := ?_) rfl rfl (by kernel_rfl) (by kernel_rfl) (by kernel_rfl) hG ⟨by rfl, fun w9 hw9 => Or.inl ?_⟩ ?_
  rotate_left
  · replace D0 := hw9.cell D0 nmN; replace D1 := hw9.cell D1 nmN; replace D2 := hw9.cell D2 nmN; replace D3 := hw9.cell D3 nmN; replace D4 := hw9.cell D4 nmN; replace D5 := hw9.cell D5 nmN; replace D6 := hw9.cell D6 nmN; replace D7 := hw9.cell D7 nmN
    go_simp
    try with_reducible rfl
  simp only [Act.put, stA, stB, stC]
  refine Abs.take_np (i := 1) (d := some 56) (v := ?_) rfl rfl (by kernel_rfl) (by kernel_rfl) (by kernel_rfl) hG ⟨by rfl, fun w9 hw9 => Or.inl ?_⟩ ?_
  rotate_left
  · replace D0 := hw9.cell D0 nmN; replace D1 := hw9.cell D1 nmN; replace D2 := hw9.cell D2 nmN; replace D3 := hw9.cell D3 nmN; replace D4 := hw9.cell D4 nmN; replace D5 := hw9.cell D5 nmN; replace D6 := hw9.cell D6 nmN; replace D7 := hw9.cell D7 nmN
    go_simp
    try with_reducible rfl
  simp only [Act.put, stA, stB, stC]
  refine Abs.take_np (i := 2) (d := some 57) (v := ?_) rfl rfl (by kernel_rfl) (by kernel_rfl) (by kernel_rfl) hG ⟨by rfl, fun w9 hw9 => Or.inl ?_⟩ ?_
  rotate_left
  · replace w5_0 := hw9.cell w5_0 nmN; replace w5_1 := hw9.cell w5_1 nmN; replace w5_2 := hw9.cell w5_2 nmN; replace w5_3 := hw9.cell w5_3 nmN
    go_simp
    try with_reducible rfl
  simp only [Act.put, stA, stB, stC]
  refine Abs.take_np (i := 3) (d := some 58) (v := ?_) rfl rfl (by kernel_rfl) (by kernel_rfl) (by kernel_rfl) hG ⟨by rfl, fun w9 hw9 => Or.inl ?_⟩ ?_
  rotate_left
  · replace w5_0 := hw9.cell w5_0 nmN; replace w5_1 := hw9.cell w5_1 nmN; replace w5_2 := hw9.cell w5_2 nmN; replace w5_3 := hw9.cell w5_3 nmN
    go_simp
    try with_reducible rfl
  simp only [Act.put, stA, stB, stC]
  refine Abs.take_np (i := 4) (d := some 59) (v := _) rfl rfl (by kernel_rfl) (by kernel_rfl) (by kernel_rfl) hG ⟨by rfl, fun w9 hw9 => Or.inr ⟨_, _, ?_, C6.out w9⟩⟩ ?_
  · go_simp
    try with_reducible rfl
  simp only [Act.put, stA, stB, stC]
  refine Abs.take_np (i := 5) (d := some 60) (v := ?_) rfl rfl (by kernel_rfl) (by kernel_rfl) (by kernel_rfl) hG ⟨by rfl, fun w9 hw9 => Or.inl ?_⟩ ?_
  rotate_left
  · replace D0 := hw9.cell D0 nmN; replace D1 := hw9.cell D1 nmN; replace D2 := hw9.cell D2 nmN; replace D3 := hw9.cell D3 nmN; replace D4 := hw9.cell D4 nmN; replace D5 := hw9.cell D5 nmN; replace D6 := hw9.cell D6 nmN; replace D7 := hw9.cell D7 nmN
    go_simp
    try with_reducible rfl
  simp only [Act.put, stA, stB, stC]
  refine Abs.take_np (i := 6) (d := some 61) (v := ?_) rfl rfl (by kernel_rfl) (by kernel_rfl) (by kernel_rfl) hG ⟨by rfl, fun w9 hw9 => Or.inl ?_⟩ ?_
  rotate_left
  · replace w5_0 := hw9.cell w5_0 nmN; replace w5_1 := hw9.cell w5_1 nmN; replace w5_2 := hw9.cell w5_2 nmN; replace w5_3 := hw9.cell w5_3 nmN
    go_simp
    try with_reducible rfl
  simp only [Act.put, stA, stB, stC]
  refine Abs.take_np (i := 7) (d := some 62) (v := ?_) rfl rfl (by kernel_rfl) (by kernel_rfl) (by kernel_rfl) hG ⟨by rfl, fun w9 hw9 => Or.inl ?_⟩ ?_
  rotate_left
  · replace w5_0 := hw9.cell w5_0 nmN; replace w5_1 := hw9.cell w5_1 nmN; replace w5_2 := hw9.cell w5_2 nmN; replace w5_3 := hw9.cell w5_3 nmN
    go_simp
    try with_reducible rfl
  simp only [Act.put, stA, stB, stC]
  refine Abs.take_np (i := 8) (d := some 63) (v := _) rfl rfl (by kernel_rfl) (by kernel_rfl) (by kernel_rfl) hG ⟨by rfl, fun w9 hw9 => Or.inr ⟨_, _, ?_, C6.out w9⟩⟩ ?_
  · go_simp
    try with_reducible rfl
  simp only [Act.put, stA, stB, stC]
  refine Abs.take_np (i := 9) (d := some 64) (v := _) rfl rfl (by kernel_rfl) (by kernel_rfl) (by kernel_rfl) hG ⟨by rfl, fun w9 hw9 => Or.inr ⟨_, _, ?_, C7.out w9⟩⟩ ?_
  · go_simp
    try with_reducible rfl
  simp only [Act.put, stA, stB, stC]
  refine Abs.alloc4 (i := 10) (t := 24) (X := []) (W := wx) rfl (by kernel_rfl) (by rfl) hG (fun _ h => h) (fun w9 => ?_) (fun b7 hb7 hG => ?_)
  · go_simp
    try with_reducible rfl
  refine Abs.at_put (d := some 8) rfl ?_
  simp only [Act.put, stA, stB, stC]
  refine Abs.store4 (i := 11) (b := b7) (ds := #[.int .u64 (lm v7 0 : Nat), .int .u64 (lm v7 1 : Nat), .int .u64 (lm v7 2 : Nat), .int .u64 (lm v7 3 : Nat)]) rfl (by kernel_rfl) (by rfl) (fun w9 => (((w9.setCell ⟨b7, 0, none⟩ (.int .u64 (lm v7 0 : Nat))).setCell ⟨b7, 1, none⟩ (.int .u64 (lm v7 1 : Nat))).setCell ⟨b7, 2, none⟩ (.int .u64 (lm v7 2 : Nat))).setCell ⟨b7, 3, none⟩ (.int .u64 (lm v7 3 : Nat))) (fun w9 h9 => ⟨?_, ?_, ?_⟩) (fun _ _ h k => Chg.keeps (Or.inr hb7) h k) (good_chg [] wx) (fun hG => ?_)
  · have n0 := cell_of_has h9 0; have n1 := cell_of_has h9 1; have n2 := cell_of_has h9 2; have n3 := cell_of_has h9 3
    simp only [glA, glB, glC] at n0 n1 n2 n3
    have z0 := frozen_of_has h9 0; have z1 := frozen_of_has h9 1; have z2 := frozen_of_has h9 2; have z3 := frozen_of_has h9 3
    clear h9
    go_simp
    try with_reducible rfl
  · exact U4.put_x (x := fun _ => 0) h9 v7
  · exact Chg.put_x (Chg.refl _ _) (Or.inl (by simp)) v7
  refine Abs.at_put (d := none) rfl ?_
  simp only [Act.put, stA, stB, stC]
  refine Abs.done (by kernel_rfl) (fun wx hx => NoPanic.normal ?_) _
  clear D0 D1 D2 D3 D4 D5 D6 D7 w5_0 w5_1 w5_2 w5_3
  obtain ⟨hA, hN⟩ := hx
  have l7 : R < b7 := Nat.lt_of_lt_of_le HR.out.lt hb7
  have hN : U4 wx b7 24 (lm v7) := hN
  replace HBA := Lib.hid (HBA.out.chg hA nmN)
  replace HR := Lib.hid (HR.out.chg hA nmN)
  replace HC := Lib.hid (HC.out.trans hA)
  replace HD := Lib.hid (HD.out.chg hA nmN)
  replace H_0 := Lib.hid (H_0.out.chg hA nmN)
  replace H_2 := Lib.hid (H_2.out.chg hA nmN)
  replace H_3 := Lib.hid (H_3.out.chg hA nmN)
  replace H_5 := Lib.hid (H_5.out.chg hA nmN)
  have H_7 := Lib.hid hN
  clear hA hN hb7
  go_upto_region 9 with fail
  obtain ⟨D0, D1, D2, D3⟩ := four4 fun _ => (HD.out).cm; obtain ⟨D4, D5, D6, D7⟩ := four4 fun _ => (HD.out).cc
  obtain ⟨w2_0, w2_1, w2_2, w2_3⟩ := four4 fun _ => (H_2.out).cell
  obtain ⟨w7_0, w7_1, w7_2, w7_3⟩ := four4 fun _ => (H_7.out).cell
  refine abs_region (B := Chg [] wx) (S := Chg [] wx) (by kernel_rfl) ((Chg.refl _ _).drew) ?_
  have hG := good_chg [] wx
  refine Abs.take_np (i := 0) (d := some 65) (v := ?_) rfl rfl (by kernel_rfl) (by kernel_rfl) (by kernel_rfl) hG ⟨by rfl, fun w9 hw9 => Or.inl ?_⟩ ?_
  rotate_left
  · replace D0 := hw9.cell D0 nmN; replace D1 := hw9.cell D1 nmN; replace D2 := hw9.cell D2 nmN; replace D3 := hw9.cell D3 nmN; replace D4 := hw9.cell D4 nmN; replace D5 := hw9.cell D5 nmN; replace D6 := hw9.cell D6 nmN; replace D7 := hw9.cell D7 nmN
    go_simp
    try with_reducible rfl
  simp only [Act.put, stA, stB, stC]
  refine Abs.take_np (i := 1) (d := some 66) (v := ?_) rfl rfl (by kernel_rfl) (by kernel_rfl) (by kernel_rfl) hG ⟨by rfl, fun w9 hw9 => Or.inl ?_⟩ ?_
  rotate_left
  · replace D0 := hw9.cell D0 nmN; replace D1 := hw9.cell D1 nmN; replace D2 := hw9.cell D2 nmN; replace D3 := hw9.cell D3 nmN; replace D4 := hw9.cell D4 nmN; replace D5 := hw9.cell D5 nmN; replace D6 := hw9.cell D6 nmN; replace D7 := hw9.cell D7 nmN
    go_simp
    try with_reducible rfl
  simp only [Act.put, stA, stB, stC]
  refine Abs.take_np (i := 2) (d := some 67) (v := ?_) rfl rfl (by kernel_rfl) (by kernel_rfl) (by kernel_rfl) hG ⟨by rfl, fun w9 hw9 => Or.inl ?_⟩ ?_
  rotate_left
  · replace w2_0 := hw9.cell w2_0 nmN; replace w2_1 := hw9.cell w2_1 nmN; replace w2_2 := hw9.cell w2_2 nmN; replace w2_3 := hw9.cell w2_3 nmN
    go_simp
    try with_reducible rfl
  simp only [Act.put, stA, stB, stC]
  refine Abs.take_np (i := 3) (d := some 68) (v := ?_) rfl rfl (by kernel_rfl) (by kernel_rfl) (by kernel_rfl) hG ⟨by rfl, fun w9 hw9 => Or.inl ?_⟩ ?_
  rotate_left
  · replace w2_0 := hw9.cell w2_0 nmN; replace w2_1 := hw9.cell w2_1 nmN; replace w2_2 := hw9.cell w2_2 nmN; replace w2_3 := hw9.cell w2_3 nmN
    go_simp
    try with_reducible rfl
  simp only [Act.put, stA, stB, stC]
  refine Abs.take_np (i := 4) (d := some 69) (v := _) rfl rfl (by kernel_rfl) (by kernel_rfl) (by kernel_rfl) hG ⟨by rfl, fun w9 hw9 => Or.inr ⟨_, _, ?_, C8.out w9⟩⟩ ?_
  · go_simp
    try with_reducible rfl
  simp only [Act.put, stA, stB, stC]
  refine Abs.take_np (i := 5) (d := some 70) (v := ?_) rfl rfl (by kernel_rfl) (by kernel_rfl) (by kernel_rfl) hG ⟨by rfl, fun w9 hw9 => Or.inl ?_⟩ ?_
  rotate_left
  · replace D0 := hw9.cell D0 nmN; replace D1 := hw9.cell D1 nmN; replace D2 := hw9.cell D2 nmN; replace D3 := hw9.cell D3 nmN; replace D4 := hw9.cell D4 nmN; replace D5 := hw9.cell D5 nmN; replace D6 := hw9.cell D6 nmN; replace D7 := hw9.cell D7 nmN
    go_simp
    try with_reducible rfl
  simp only [Act.put, stA, stB, stC]
  refine Abs.take_np (i := 6) (d := some 71) (v := ?_) rfl rfl (by kernel_rfl) (by kernel_rfl) (by kernel_rfl) hG ⟨by rfl, fun w9 hw9 => Or.inl ?_⟩ ?_
  rotate_left
  · replace w7_0 := hw9.cell w7_0 nmN; replace w7_1 := hw9.cell w7_1 nmN; replace w7_2 := hw9.cell w7_2 nmN; replace w7_3 := hw9.cell w7_3 nmN
    go_simp
    try with_reducible rfl
  simp only [Act.put, stA, stB, stC]
  refine Abs.take_np (i := 7) (d := some 72) (v := ?_) rfl rfl (by kernel_rfl) (by kernel_rfl) (by kernel_rfl) hG ⟨by rfl, fun w9 hw9 => Or.inl ?_⟩ ?_
  rotate_left
  · replace w7_0 := hw9.cell w7_0 nmN; replace w7_1 := hw9.cell w7_1 nmN; replace w7_2 := hw9.cell w7_2 nmN; replace w7_3 := hw9.cell w7_3 nmN
    go_simp
    try with_reducible rfl
  simp only [Act.put, stA, stB, stC]
  refine Abs.take_np (i := 8) (d := some 73) (v := _) rfl rfl (by kernel_rfl) (by kernel_rfl) (by kernel_rfl) hG ⟨by rfl, fun w9 hw9 => Or.inr ⟨_, _, ?_, C9.out w9⟩⟩ ?_
  · go_simp
    try with_reducible rfl
  simp only [Act.put, stA, stB, stC]
  refine Abs.take_np (i := 9) (d := some 74) (v := _) rfl rfl (by kernel_rfl) (by kernel_rfl) (by kernel_rfl) hG ⟨by rfl, fun w9 hw9 => Or.inr ⟨_, _, ?_, C10.out w9⟩⟩ ?_
  · go_simp
    try with_reducible rfl
  simp only [Act.put, stA, stB, stC]
  refine Abs.alloc4 (i := 10) (t := 24) (X := []) (W := wx) rfl (by kernel_rfl) (by rfl) hG (fun _ h => h) (fun w9 => ?_) (fun b10 hb10 hG => ?_)
  · go_simp
    try with_reducible rfl
  refine Abs.at_put (d := some 9) rfl ?_
  simp only [Act.put, stA, stB, stC]
  refine Abs.store4 (i := 11) (b := b10) (ds := #[.int .u64 (lm v10 0 : Nat), .int .u64 (lm v10 1 : Nat), .int .u64 (lm v10 2 : Nat), .int .u64 (lm v10 3 : Nat)]) rfl (by kernel_rfl) (by rfl) (fun w9 => (((w9.setCell ⟨b10, 0, none⟩ (.int .u64 (lm v10 0 : Nat))).setCell ⟨b10, 1, none⟩ (.int .u64 (lm v10 1 : Nat))).setCell ⟨b10, 2, none⟩ (.int .u64 (lm v10 2 : Nat))).setCell ⟨b10, 3, none⟩ (.int .u64 (lm v10 3 : Nat))) (fun w9 h9 => ⟨?_, ?_, ?_⟩) (fun _ _ h k => Chg.keeps (Or.inr hb10) h k) (good_chg [] wx) (fun hG => ?_)
  · have n0 := cell_of_has h9 0; have n1 := cell_of_has h9 1; have n2 := cell_of_has h9 2; have n3 := cell_of_has h9 3
    simp only [glA, glB, glC] at n0 n1 n2 n3
    have z0 := frozen_of_has h9 0; have z1 := frozen_of_has h9 1; have z2 := frozen_of_has h9 2; have z3 := frozen_of_has h9 3
    clear h9
    go_simp
    try with_reducible rfl
  · exact U4.put_x (x := fun _ => 0) h9 v10
  · exact Chg.put_x (Chg.refl _ _) (Or.inl (by simp)) v10
  refine Abs.at_put (d := none) rfl ?_
  simp only [Act.put, stA, stB, stC]
  refine Abs.done (by kernel_rfl) (fun wx hx => NoPanic.normal ?_) _
  clear D0 D1 D2 D3 D4 D5 D6 D7 w2_0 w2_1 w2_2 w2_3 w7_0 w7_1 w7_2 w7_3
  obtain ⟨hA, hN⟩ := hx
  have l10 : R < b10 := Nat.lt_of_lt_of_le HR.out.lt hb10
  have hN : U4 wx b10 24 (lm v10) := hN
  replace HBA := Lib.hid (HBA.out.chg hA nmN)
  replace HR := Lib.hid (HR.out.chg hA nmN)
  replace HC := Lib.hid (HC.out.trans hA)
  replace HD := Lib.hid (HD.out.chg hA nmN)
  replace H_0 := Lib.hid (H_0.out.chg hA nmN)
  replace H_2 := Lib.hid (H_2.out.chg hA nmN)
  replace H_3 := Lib.hid (H_3.out.chg hA nmN)
  replace H_5 := Lib.hid (H_5.out.chg hA nmN)
  replace H_7 := Lib.hid (H_7.out.chg hA nmN)
  have H_10 := Lib.hid hN
  clear hA hN hb10
  go_upto_region 10 with fail
  obtain ⟨D0, D1, D2, D3⟩ := four4 fun _ => (HD.out).cm; obtain ⟨D4, D5, D6, D7⟩ := four4 fun _ => (HD.out).cc
  obtain ⟨w10_0, w10_1, w10_2, w10_3⟩ := four4 fun _ => (H_10.out).cell
  obtain ⟨w3_0, w3_1, w3_2, w3_3⟩ := four4 fun _ => (H_3.out).cell
  go_wp2_with fail
  refine (C11.out _).mono ?_
  rintro e w1 ⟨rfl, hC1⟩
  clear D0 D1 D2 D3 D4 D5 D6 D7 w10_0 w10_1 w10_2 w10_3 w3_0 w3_1 w3_2 w3_3
  replace HBA := Lib.hid (HBA.out.chg hC1 nmN)
  replace HR := Lib.hid (HR.out.chg hC1 nmN)
  replace HC := Lib.hid (HC.out.trans hC1)
  replace HD := Lib.hid (HD.out.chg hC1 nmN)
  replace H_0 := Lib.hid (H_0.out.chg hC1 nmN)
  replace H_2 := Lib.hid (H_2.out.chg hC1 nmN)
  replace H_3 := Lib.hid (H_3.out.chg hC1 nmN)
  replace H_5 := Lib.hid (H_5.out.chg hC1 nmN)
  replace H_7 := Lib.hid (H_7.out.chg hC1 nmN)
  replace H_10 := Lib.hid (H_10.out.chg hC1 nmN)
  clear hC1
  obtain ⟨W1, hW1⟩ : ∃ W1, w1.alloc (.cells #[.int .u64 (lm v11 0 : Nat), .int .u64 (lm v11 1 : Nat), .int .u64 (lm v11 2 : Nat), .int .u64 (lm v11 3 : Nat)] 24) = W1 := ⟨_, rfl⟩
  have hA : Chg [] w1 W1 := by rw [← hW1]; exact (Chg.refl _ _).alloc _
  have hN : U4 W1 w1.heap.size 24 (lm v11) := by rw [← hW1]; exact has_alloc_new _ _
  obtain ⟨b11, hb⟩ : ∃ b, w1.heap.size = b := ⟨_, rfl⟩
  have l11 : R < b11 := by rw [← hb]; exact HR.out.lt
  rw [hb] at hN
  replace HBA := Lib.hid (HBA.out.chg hA nmN)
  replace HR := Lib.hid (HR.out.chg hA nmN)
  replace HC := Lib.hid (HC.out.trans hA)
  replace HD := Lib.hid (HD.out.chg hA nmN)
  replace H_0 := Lib.hid (H_0.out.chg hA nmN)
  replace H_2 := Lib.hid (H_2.out.chg hA nmN)
  replace H_3 := Lib.hid (H_3.out.chg hA nmN)
  replace H_5 := Lib.hid (H_5.out.chg hA nmN)
  replace H_7 := Lib.hid (H_7.out.chg hA nmN)
  replace H_10 := Lib.hid (H_10.out.chg hA nmN)
  have H_11 := Lib.hid hN
  go_upto_region 11 with fail
  try rw [hW1]
  try rw [hb]
  clear hW1 hb hA hN
  obtain ⟨D0, D1, D2, D3⟩ := four4 fun _ => (HD.out).cm; obtain ⟨D4, D5, D6, D7⟩ := four4 fun _ => (HD.out).cc
  obtain ⟨Ay0, Ay1, Ay2, Ay3⟩ := four4 fun _ => (HBA.out).cy
  obtain ⟨w3_0, w3_1, w3_2, w3_3⟩ := four4 fun _ => (H_3.out).cell
  go_wp2_with fail
  refine (C12.out _).mono ?_
  rintro e w1 ⟨rfl, hC1⟩
  clear D0 D1 D2 D3 D4 D5 D6 D7 Ay0 Ay1 Ay2 Ay3 w3_0 w3_1 w3_2 w3_3
  replace HBA := Lib.hid (HBA.out.chg hC1 nmN)
  replace HR := Lib.hid (HR.out.chg hC1 nmN)
  replace HC := Lib.hid (HC.out.trans hC1)
  replace HD := Lib.hid (HD.out.chg hC1 nmN)
  replace H_0 := Lib.hid (H_0.out.chg hC1 nmN)
  replace H_2 := Lib.hid (H_2.out.chg hC1 nmN)
  replace H_3 := Lib.hid (H_3.out.chg hC1 nmN)
  replace H_5 := Lib.hid (H_5.out.chg hC1 nmN)
  replace H_7 := Lib.hid (H_7.out.chg hC1 nmN)
  replace H_10 := Lib.hid (H_10.out.chg hC1 nmN)
  replace H_11 := Lib.hid (H_11.out.chg hC1 nmN)
  clear hC1
  obtain ⟨W1, hW1⟩ : ∃ W1, w1.alloc (.cells #[.int .u64 (lm v12 0 : Nat), .int .u64 (lm v12 1 : Nat), .int .u64 (lm v12 2 : Nat), .int .u64 (lm v12 3 : Nat)] 24) = W1 := ⟨_, rfl⟩
  have hA : Chg [] w1 W1 := by rw [← hW1]; exact (Chg.refl _ _).alloc _
  have hN : U4 W1 w1.heap.size 24 (lm v12) := by rw [← hW1]; exact has_alloc_new _ _
  obtain ⟨b12, hb⟩ : ∃ b, w1.heap.size = b := ⟨_, rfl⟩
  have l12 : R < b12 := by rw [← hb]; exact HR.out.lt
  rw [hb] at hN
  replace HBA := Lib.hid (HBA.out.chg hA nmN)
  replace HR := Lib.hid (HR.out.chg hA nmN)
  replace HC := Lib.hid (HC.out.trans hA)
  replace HD := Lib.hid (HD.out.chg hA nmN)
  replace H_0 := Lib.hid (H_0.out.chg hA nmN)
  replace H_2 := Lib.hid (H_2.out.chg hA nmN)
  replace H_3 := Lib.hid (H_3.out.chg hA nmN)
  replace H_5 := Lib.hid (H_5.out.chg hA nmN)
  replace H_7 := Lib.hid (H_7.out.chg hA nmN)
  replace H_10 := Lib.hid (H_10.out.chg hA nmN)
  replace H_11 := Lib.hid (H_11.out.chg hA nmN)
  have H_12 := Lib.hid hN
  go_upto_region 12 with fail
  try rw [hW1]
  try rw [hb]
  clear hW1 hb hA hN
  obtain ⟨D0, D1, D2, D3⟩ := four4 fun _ => (HD.out).cm; obtain ⟨D4, D5, D6, D7⟩ := four4 fun _ => (HD.out).cc
  obtain ⟨w12_0, w12_1, w12_2, w12_3⟩ := four4 fun _ => (H_12.out).cell
  go_wp2_with fail
  refine (C13.out _).mono ?_
  rintro e w1 ⟨rfl, hC1⟩
  clear D0 D1 D2 D3 D4 D5 D6 D7 w12_0 w12_1 w12_2 w12_3
  replace HBA := Lib.hid (HBA.out.chg hC1 nmN)
  replace HR := Lib.hid (HR.out.chg hC1 nmN)
  replace HC := Lib.hid (HC.out.trans hC1)
  replace HD := Lib.hid (HD.out.chg hC1 nmN)
  replace H_0 := Lib.hid (H_0.out.chg hC1 nmN)
  replace H_2 := Lib.hid (H_2.out.chg hC1 nmN)
  replace H_3 := Lib.hid (H_3.out.chg hC1 nmN)
  replace H_5 := Lib.hid (H_5.out.chg hC1 nmN)
  replace H_7 := Lib.hid (H_7.out.chg hC1 nmN)
  replace H_10 := Lib.hid (H_10.out.chg hC1 nmN)
  replace H_11 := Lib.hid (H_11.out.chg hC1 nmN)
  replace H_12 := Lib.hid (H_12.out.chg hC1 nmN)
  clear hC1
  obtain ⟨W1, hW1⟩ : ∃ W1, w1.alloc (.cells #[.int .u64 (lm v13 0 : Nat), .int .u64 (lm v13 1 : Nat), .int .u64 (lm v13 2 : Nat), .int .u64 (lm v13 3 : Nat)] 24) = W1 := ⟨_, rfl⟩
  have hA : Chg [] w1 W1 := by rw [← hW1]; exact (Chg.refl _ _).alloc _
  have hN : U4 W1 w1.heap.size 24 (lm v13) := by rw [← hW1]; exact has_alloc_new _ _
  obtain ⟨b13, hb⟩ : ∃ b, w1.heap.size = b := ⟨_, rfl⟩
  have l13 : R < b13 := by rw [← hb]; exact HR.out.lt
  rw [hb] at hN
  replace HBA := Lib.hid (HBA.out.chg hA nmN)
  replace HR := Lib.hid (HR.out.chg hA nmN)
  replace HC := Lib.hid (HC.out.trans hA)
  replace HD := Lib.hid (HD.out.chg hA nmN)
  replace H_0 := Lib.hid (H_0.out.chg hA nmN)
  replace H_2 := Lib.hid (H_2.out.chg hA nmN)
  replace H_3 := Lib.hid (H_3.out.chg hA nmN)
  replace H_5 := Lib.hid (H_5.out.chg hA nmN)
  replace H_7 := Lib.hid (H_7.out.chg hA nmN)
  replace H_10 := Lib.hid (H_10.out.chg hA nmN)
  replace H_11 := Lib.hid (H_11.out.chg hA nmN)
  replace H_12 := Lib.hid (H_12.out.chg hA nmN)
  have H_13 := Lib.hid hN
  go_upto_region 13 with fail
  try rw [hW1]
  try rw [hb]
  clear hW1 hb hA hN
  obtain ⟨D0, D1, D2, D3⟩ := four4 fun _ => (HD.out).cm; obtain ⟨D4, D5, D6, D7⟩ := four4 fun _ => (HD.out).cc
  obtain ⟨w13_0, w13_1, w13_2, w13_3⟩ := four4 fun _ => (H_13.out).cell
  refine abs_region (B := Chg [] W1) (S := Chg [] W1) (by kernel_rfl) ((Chg.refl _ _).drew) ?_
  have hG := good_chg [] W1
  refine Abs.take_np (i := 0) (d := some 88) (v := ?_) rfl rfl (by kernel_rfl) (by kernel_rfl) (by kernel_rfl) hG ⟨by rfl, fun w9 hw9 => Or.inl ?_⟩ ?_
  rotate_left
  · replace D0 := hw9.cell D0 nmN; replace D1 := hw9.cell D1 nmN; replace D2 := hw9.cell D2 nmN; replace D3 := hw9.cell D3 nmN; replace D4 := hw9.cell D4 nmN; replace D5 := hw9.cell D5 nmN; replace D6 := hw9.cell D6 nmN; replace D7 := hw9.cell D7 nmN
    go_simp
    try with_reducible rfl
  simp only [Act.put, stA, stB, stC]
  refine Abs.take_np (i := 1) (d := some 89) (v := ?_) rfl rfl (by kernel_rfl) (by kernel_rfl) (by kernel_rfl) hG ⟨by rfl, fun w9 hw9 => Or.inl ?_⟩ ?_
  rotate_left
  · replace D0 := hw9.cell D0 nmN; replace D1 := hw9.cell D1 nmN; replace D2 := hw9.cell D2 nmN; replace D3 := hw9.cell D3 nmN; replace D4 := hw9.cell D4 nmN; replace D5 := hw9.cell D5 nmN; replace D6 := hw9.cell D6 nmN; replace D7 := hw9.cell D7 nmN
    go_simp
    try with_reducible rfl
  simp only [Act.put, stA, stB, stC]
  refine Abs.take_np (i := 2) (d := some 90) (v := ?_) rfl rfl (by kernel_rfl) (by kernel_rfl) (by kernel_rfl) hG ⟨by rfl, fun w9 hw9 => Or.inl ?_⟩ ?_
  rotate_left
  · replace w13_0 := hw9.cell w13_0 nmN; replace w13_1 := hw9.cell w13_1 nmN; replace w13_2 := hw9.cell w13_2 nmN; replace w13_3 := hw9.cell w13_3 nmN
    go_simp
    try with_reducible rfl
  simp only [Act.put, stA, stB, stC]
  refine Abs.take_np (i := 3) (d := some 91) (v := ?_) rfl rfl (by kernel_rfl) (by kernel_rfl) (by kernel_rfl) hG ⟨by rfl, fun w9 hw9 => Or.inl ?_⟩ ?_
  rotate_left
  · replace w13_0 := hw9.cell w13_0 nmN; replace w13_1 := hw9.cell w13_1 nmN; replace w13_2 := hw9.cell w13_2 nmN; replace w13_3 := hw9.cell w13_3 nmN
    go_simp
    try with_reducible rfl
  simp only [Act.put, stA, stB, stC]
  refine Abs.take_np (i := 4) (d := some 92) (v := _) rfl rfl (by kernel_rfl) (by kernel_rfl) (by kernel_rfl) hG ⟨by rfl, fun w9 hw9 => Or.inr ⟨_, _, ?_, C14.out w9⟩⟩ ?_
  · go_simp
    try with_reducible rfl
  simp only [Act.put, stA, stB, stC]
  refine Abs.take_np (i := 5) (d := some 93) (v := ?_) rfl rfl (by kernel_rfl) (by kernel_rfl) (by kernel_rfl) hG ⟨by rfl, fun w9 hw9 => Or.inl ?_⟩ ?_
  rotate_left
  · replace D0 := hw9.cell D0 nmN; replace D1 := hw9.cell D1 nmN; replace D2 := hw9.cell D2 nmN; replace D3 := hw9.cell D3 nmN; replace D4 := hw9.cell D4 nmN; replace D5 := hw9.cell D5 nmN; replace D6 := hw9.cell D6 nmN; replace D7 := hw9.cell D7 nmN
    go_simp
    try with_reducible rfl
  simp only [Act.put, stA, stB, stC]
  refine Abs.take_np (i := 6) (d := some 94) (v := ?_) rfl rfl (by kernel_rfl) (by kernel_rfl) (by kernel_rfl) hG ⟨by rfl, fun w9 hw9 => Or.inl ?_⟩ ?_
  rotate_left
  · replace w13_0 := hw9.cell w13_0 nmN; replace w13_1 := hw9.cell w13_1 nmN; replace w13_2 := hw9.cell w13_2 nmN; replace w13_3 := hw9.cell w13_3 nmN
    go_simp
    try with_reducible rfl
  simp only [Act.put, stA, stB, stC]
  refine Abs.take_np (i := 7) (d := some 95) (v := ?_) rfl rfl (by kernel_rfl) (by kernel_rfl) (by kernel_rfl) hG ⟨by rfl, fun w9 hw9 => Or.inl ?_⟩ ?_
  rotate_left
  · replace w13_0 := hw9.cell w13_0 nmN; replace w13_1 := hw9.cell w13_1 nmN; replace w13_2 := hw9.cell w13_2 nmN; replace w13_3 := hw9.cell w13_3 nmN
    go_simp
    try with_reducible rfl
  simp only [Act.put, stA, stB, stC]
  refine Abs.take_np (i := 8) (d := some 96) (v := _) rfl rfl (by kernel_rfl) (by kernel_rfl) (by kernel_rfl) hG ⟨by rfl, fun w9 hw9 => Or.inr ⟨_, _, ?_, C14.out w9⟩⟩ ?_
  · go_simp
    try with_reducible rfl
  simp only [Act.put, stA, stB, stC]
  refine Abs.take_np (i := 9) (d := some 97) (v := _) rfl rfl (by kernel_rfl) (by kernel_rfl) (by kernel_rfl) hG ⟨by rfl, fun w9 hw9 => Or.inr ⟨_, _, ?_, C15.out w9⟩⟩ ?_
  · go_simp
    try with_reducible rfl
  simp only [Act.put, stA, stB, stC]
  refine Abs.alloc4 (i := 10) (t := 24) (X := []) (W := W1) rfl (by kernel_rfl) (by rfl) hG (fun _ h => h) (fun w9 => ?_) (fun b15 hb15 hG => ?_)
  · go_simp
    try with_reducible rfl
  refine Abs.at_put (d := some 13) rfl ?_
  simp only [Act.put, stA, stB, stC]
  refine Abs.store4 (i := 11) (b := b15) (ds := #[.int .u64 (lm v15 0 : Nat), .int .u64 (lm v15 1 : Nat), .int .u64 (lm v15 2 : Nat), .int .u64 (lm v15 3 : Nat)]) rfl (by kernel_rfl) (by rfl) (fun w9 => (((w9.setCell ⟨b15, 0, none⟩ (.int .u64 (lm v15 0 : Nat))).setCell ⟨b15, 1, none⟩ (.int .u64 (lm v15 1 : Nat))).setCell ⟨b15, 2, none⟩ (.int .u64 (lm v15 2 : Nat))).setCell ⟨b15, 3, none⟩ (.int .u64 (lm v15 3 : Nat))) (fun w9 h9 => ⟨?_, ?_, ?_⟩) (fun _ _ h k => Chg.keeps (Or.inr hb15) h k) (good_chg [] W1) (fun hG => ?_)
  · have n0 := cell_of_has h9 0; have n1 := cell_of_has h9 1; have n2 := cell_of_has h9 2; have n3 := cell_of_has h9 3
    simp only [glA, glB, glC] at n0 n1 n2 n3
    have z0 := frozen_of_has h9 0; have z1 := frozen_of_has h9 1; have z2 := frozen_of_has h9 2; have z3 := frozen_of_has h9 3
    clear h9
    go_simp
    try with_reducible rfl
  · exact U4.put_x (x := fun _ => 0) h9 v15
  · exact Chg.put_x (Chg.refl _ _) (Or.inl (by simp)) v15
  refine Abs.at_put (d := none) rfl ?_
  simp only [Act.put, stA, stB, stC]
  refine Abs.done (by kernel_rfl) (fun wx hx => NoPanic.normal ?_) _
  clear D0 D1 D2 D3 D4 D5 D6 D7 w13_0 w13_1 w13_2 w13_3
  obtain ⟨hA, hN⟩ := hx
  have l15 : R < b15 := Nat.lt_of_lt_of_le HR.out.lt hb15
  have hN : U4 wx b15 24 (lm v15) := hN
  replace HBA := Lib.hid (HBA.out.chg hA nmN)
  replace HR := Lib.hid (HR.out.chg hA nmN)
  replace HC := Lib.hid (HC.out.trans hA)
  replace HD := Lib.hid (HD.out.chg hA nmN)
  replace H_0 := Lib.hid (H_0.out.chg hA nmN)
  replace H_2 := Lib.hid (H_2.out.chg hA nmN)
  replace H_3 := Lib.hid (H_3.out.chg hA nmN)
  replace H_5 := Lib.hid (H_5.out.chg hA nmN)
  replace H_7 := Lib.hid (H_7.out.chg hA nmN)
  replace H_10 := Lib.hid (H_10.out.chg hA nmN)
  replace H_11 := Lib.hid (H_11.out.chg hA nmN)
  replace H_12 := Lib.hid (H_12.out.chg hA nmN)
  replace H_13 := Lib.hid (H_13.out.chg hA nmN)
  have H_15 := Lib.hid hN
  clear hA hN hb15
  go_upto_region 14 with fail
  obtain ⟨D0, D1, D2, D3⟩ := four4 fun _ => (HD.out).cm; obtain ⟨D4, D5, D6, D7⟩ := four4 fun _ => (HD.out).cc
  obtain ⟨w3_0, w3_1, w3_2, w3_3⟩ := four4 fun _ => (H_3.out).cell
  refine abs_region (B := Chg [] wx) (S := Chg [] wx) (by kernel_rfl) ((Chg.refl _ _).drew) ?_
  have hG := good_chg [] wx
  refine Abs.take_np (i := 0) (d := some 98) (v := ?_) rfl rfl (by kernel_rfl) (by kernel_rfl) (by kernel_rfl) hG ⟨by rfl, fun w9 hw9 => Or.inl ?_⟩ ?_
  rotate_left
  · replace D0 := hw9.cell D0 nmN; replace D1 := hw9.cell D1 nmN; replace D2 := hw9.cell D2 nmN; replace D3 := hw9.cell D3 nmN; replace D4 := hw9.cell D4 nmN; replace D5 := hw9.cell D5 nmN; replace D6 := hw9.cell D6 nmN; replace D7 := hw9.cell D7 nmN
    go_simp
    try with_reducible rfl
  simp only [Act.put, stA, stB, stC]
  refine Abs.take_np (i := 1) (d := some 99) (v := ?_) rfl rfl (by kernel_rfl) (by kernel_rfl) (by kernel_rfl) hG ⟨by rfl, fun w9 hw9 => Or.inl ?_⟩ ?_
  rotate_left
  · replace D0 := hw9.cell D0 nmN; replace D1 := hw9.cell D1 nmN; replace D2 := hw9.cell D2 nmN; replace D3 := hw9.cell D3 nmN; replace D4 := hw9.cell D4 nmN; replace D5 := hw9.cell D5 nmN; replace D6 := hw9.cell D6 nmN; replace D7 := hw9.cell D7 nmN
    go_simp
    try with_reducible rfl
  simp only [Act.put, stA, stB, stC]
  refine Abs.take_np (i := 2) (d := some 100) (v := ?_) rfl rfl (by kernel_rfl) (by kernel_rfl) (by kernel_rfl) hG ⟨by rfl, fun w9 hw9 => Or.inl ?_⟩ ?_
  rotate_left
  · replace w3_0 := hw9.cell w3_0 nmN; replace w3_1 := hw9.cell w3_1 nmN; replace w3_2 := hw9.cell w3_2 nmN; replace w3_3 := hw9.cell w3_3 nmN
    go_simp
    try with_reducible rfl
  simp only [Act.put, stA, stB, stC]
  refine Abs.take_np (i := 3) (d := some 101) (v := ?_) rfl rfl (by kernel_rfl) (by kernel_rfl) (by kernel_rfl) hG ⟨by rfl, fun w9 hw9 => Or.inl ?_⟩ ?_
  rotate_left
  · replace w3_0 := hw9.cell w3_0 nmN; replace w3_1 := hw9.cell w3_1 nmN; replace w3_2 := hw9.cell w3_2 nmN; replace w3_3 := hw9.cell w3_3 nmN
    go_simp
    try with_reducible rfl
  simp only [Act.put, stA, stB, stC]
  refine Abs.take_np (i := 4) (d := some 102) (v := _) rfl rfl (by kernel_rfl) (by kernel_rfl) (by kernel_rfl) hG ⟨by rfl, fun w9 hw9 => Or.inr ⟨_, _, ?_, C16.out w9⟩⟩ ?_
  · go_simp
    try with_reducible rfl
  simp only [Act.put, stA, stB, stC]
  refine Abs.take_np (i := 5) (d := some 103) (v := ?_) rfl rfl (by kernel_rfl) (by kernel_rfl) (by kernel_rfl) hG ⟨by rfl, fun w9 hw9 => Or.inl ?_⟩ ?_
  rotate_left
  · replace w3_0 := hw9.cell w3_0 nmN; replace w3_1 := hw9.cell w3_1 nmN; replace w3_2 := hw9.cell w3_2 nmN; replace w3_3 := hw9.cell w3_3 nmN
    go_simp
    try with_reducible rfl
  simp only [Act.put, stA, stB, stC]
  refine Abs.take_np (i := 6) (d := some 104) (v := _) rfl rfl (by kernel_rfl) (by kernel_rfl) (by kernel_rfl) hG ⟨by rfl, fun w9 hw9 => Or.inr ⟨_, _, ?_, C17.out w9⟩⟩ ?_
  · go_simp
    try with_reducible rfl
  simp only [Act.put, stA, stB, stC]
  refine Abs.alloc4 (i := 7) (t := 24) (X := []) (W := wx) rfl (by kernel_rfl) (by rfl) hG (fun _ h => h) (fun w9 => ?_) (fun b17 hb17 hG => ?_)
  · go_simp
    try with_reducible rfl
  refine Abs.at_put (d := some 14) rfl ?_
  simp only [Act.put, stA, stB, stC]
  refine Abs.store4 (i := 8) (b := b17) (ds := #[.int .u64 (lm v17 0 : Nat), .int .u64 (lm v17 1 : Nat), .int .u64 (lm v17 2 : Nat), .int .u64 (lm v17 3 : Nat)]) rfl (by kernel_rfl) (by rfl) (fun w9 => (((w9.setCell ⟨b17, 0, none⟩ (.int .u64 (lm v17 0 : Nat))).setCell ⟨b17, 1, none⟩ (.int .u64 (lm v17 1 : Nat))).setCell ⟨b17, 2, none⟩ (.int .u64 (lm v17 2 : Nat))).setCell ⟨b17, 3, none⟩ (.int .u64 (lm v17 3 : Nat))) (fun w9 h9 => ⟨?_, ?_, ?_⟩) (fun _ _ h k => Chg.keeps (Or.inr hb17) h k) (good_chg [] wx) (fun hG => ?_)
  · have n0 := cell_of_has h9 0; have n1 := cell_of_has h9 1; have n2 := cell_of_has h9 2; have n3 := cell_of_has h9 3
    simp only [glA, glB, glC] at n0 n1 n2 n3
    have z0 := frozen_of_has h9 0; have z1 := frozen_of_has h9 1; have z2 := frozen_of_has h9 2; have z3 := frozen_of_has h9 3
    clear h9
    go_simp
    try with_reducible rfl
  · exact U4.put_x (x := fun _ => 0) h9 v17
  · exact Chg.put_x (Chg.refl _ _) (Or.inl (by simp)) v17
  refine Abs.at_put (d := none) rfl ?_
  simp only [Act.put, stA, stB, stC]
  refine Abs.done (by kernel_rfl) (fun wx hx => NoPanic.normal ?_) _
  clear D0 D1 D2 D3 D4 D5 D6 D7 w3_0 w3_1 w3_2 w3_3
  obtain ⟨hA, hN⟩ := hx
  have l17 : R < b17 := Nat.lt_of_lt_of_le HR.out.lt hb17
  have hN : U4 wx b17 24 (lm v17) := hN
  replace HBA := Lib.hid (HBA.out.chg hA nmN)
  replace HR := Lib.hid (HR.out.chg hA nmN)
  replace HC := Lib.hid (HC.out.trans hA)
  replace HD := Lib.hid (HD.out.chg hA nmN)
  replace H_0 := Lib.hid (H_0.out.chg hA nmN)
  replace H_2 := Lib.hid (H_2.out.chg hA nmN)
  replace H_3 := Lib.hid (H_3.out.chg hA nmN)
  replace H_5 := Lib.hid (H_5.out.chg hA nmN)
  replace H_7 := Lib.hid (H_7.out.chg hA nmN)
  replace H_10 := Lib.hid (H_10.out.chg hA nmN)
  replace H_11 := Lib.hid (H_11.out.chg hA nmN)
  replace H_12 := Lib.hid (H_12.out.chg hA nmN)
  replace H_13 := Lib.hid (H_13.out.chg hA nmN)
  replace H_15 := Lib.hid (H_15.out.chg hA nmN)
  have H_17 := Lib.hid hN
  clear hA hN hb17
  go_upto_region 15 with fail
  obtain ⟨D0, D1, D2, D3⟩ := four4 fun _ => (HD.out).cm; obtain ⟨D4, D5, D6, D7⟩ := four4 fun _ => (HD.out).cc
  obtain ⟨w17_0, w17_1, w17_2, w17_3⟩ := four4 fun _ => (H_17.out).cell
  refine abs_region (B := Chg [] wx) (S := Chg [] wx) (by kernel_rfl) ((Chg.refl _ _).drew) ?_
  have hG := good_chg [] wx
  refine Abs.take_np (i := 0) (d := some 105) (v := ?_) rfl rfl (by kernel_rfl) (by kernel_rfl) (by kernel_rfl) hG ⟨by rfl, fun w9 hw9 => Or.inl ?_⟩ ?_
  rotate_left
  · replace D0 := hw9.cell D0 nmN; replace D1 := hw9.cell D1 nmN; replace D2 := hw9.cell D2 nmN; replace D3 := hw9.cell D3 nmN; replace D4 := hw9.cell D4 nmN; replace D5 := hw9.cell D5 nmN; replace D6 := hw9.cell D6 nmN; replace D7 := hw9.cell D7 nmN
    go_simp
    try with_reducible rfl
  simp only [Act.put, stA, stB, stC]
  refine Abs.take_np (i := 1) (d := some 106) (v := ?_) rfl rfl (by kernel_rfl) (by kernel_rfl) (by kernel_rfl) hG ⟨by rfl, fun w9 hw9 => Or.inl ?_⟩ ?_
  rotate_left
  · replace D0 := hw9.cell D0 nmN; replace D1 := hw9.cell D1 nmN; replace D2 := hw9.cell D2 nmN; replace D3 := hw9.cell D3 nmN; replace D4 := hw9.cell D4 nmN; replace D5 := hw9.cell D5 nmN; replace D6 := hw9.cell D6 nmN; replace D7 := hw9.cell D7 nmN
    go_simp
    try with_reducible rfl
  simp only [Act.put, stA, stB, stC]
  refine Abs.take_np (i := 2) (d := some 107) (v := ?_) rfl rfl (by kernel_rfl) (by kernel_rfl) (by kernel_rfl) hG ⟨by rfl, fun w9 hw9 => Or.inl ?_⟩ ?_
  rotate_left
  · replace w17_0 := hw9.cell w17_0 nmN; replace w17_1 := hw9.cell w17_1 nmN; replace w17_2 := hw9.cell w17_2 nmN; replace w17_3 := hw9.cell w17_3 nmN
    go_simp
    try with_reducible rfl
  simp only [Act.put, stA, stB, stC]
  refine Abs.take_np (i := 3) (d := some 108) (v := ?_) rfl rfl (by kernel_rfl) (by kernel_rfl) (by kernel_rfl) hG ⟨by rfl, fun w9 hw9 => Or.inl ?_⟩ ?_
  rotate_left
  · replace w17_0 := hw9.cell w17_0 nmN; replace w17_1 := hw9.cell w17_1 nmN; replace w17_2 := hw9.cell w17_2 nmN; replace w17_3 := hw9.cell w17_3 nmN
    go_simp
    try with_reducible rfl
  simp only [Act.put, stA, stB, stC]
  refine Abs.take_np (i := 4) (d := some 109) (v := _) rfl rfl (by kernel_rfl) (by kernel_rfl) (by kernel_rfl) hG ⟨by rfl, fun w9 hw9 => Or.inr ⟨_, _, ?_, C18.out w9⟩⟩ ?_
  · go_simp
    try with_reducible rfl
  simp only [Act.put, stA, stB, stC]
  refine Abs.take_np (i := 5) (d := some 110) (v := ?_) rfl rfl (by kernel_rfl) (by kernel_rfl) (by kernel_rfl) hG ⟨by rfl, fun w9 hw9 => Or.inl ?_⟩ ?_
  rotate_left
  · replace D0 := hw9.cell D0 nmN; replace D1 := hw9.cell D1 nmN; replace D2 := hw9.cell D2 nmN; replace D3 := hw9.cell D3 nmN; replace D4 := hw9.cell D4 nmN; replace D5 := hw9.cell D5 nmN; replace D6 := hw9.cell D6 nmN; replace D7 := hw9.cell D7 nmN
    go_simp
    try with_reducible rfl
  simp only [Act.put, stA, stB, stC]
  refine Abs.take_np (i := 6) (d := some 111) (v := ?_) rfl rfl (by kernel_rfl) (by kernel_rfl) (by kernel_rfl) hG ⟨by rfl, fun w9 hw9 => Or.inl ?_⟩ ?_
  rotate_left
  · replace w17_0 := hw9.cell w17_0 nmN; replace w17_1 := hw9.cell w17_1 nmN; replace w17_2 := hw9.cell w17_2 nmN; replace w17_3 := hw9.cell w17_3 nmN
    go_simp
    try with_reducible rfl
  simp only [Act.put, stA, stB, stC]
  refine Abs.take_np (i := 7) (d := some 112) (v := ?_) rfl rfl (by kernel_rfl) (by kernel_rfl) (by kernel_rfl) hG ⟨by rfl, fun w9 hw9 => Or.inl ?_⟩ ?_
  rotate_left
  · replace w17_0 := hw9.cell w17_0 nmN; replace w17_1 := hw9.cell w17_1 nmN; replace w17_2 := hw9.cell w17_2 nmN; replace w17_3 := hw9.cell w17_3 nmN
    go_simp
    try with_reducible rfl
  simp only [Act.put, stA, stB, stC]
  refine Abs.take_np (i := 8) (d := some 113) (v := _) rfl rfl (by kernel_rfl) (by kernel_rfl) (by kernel_rfl) hG ⟨by rfl, fun w9 hw9 => Or.inr ⟨_, _, ?_, C18.out w9⟩⟩ ?_
  · go_simp
    try with_reducible rfl
  simp only [Act.put, stA, stB, stC]
  refine Abs.take_np (i := 9) (d := some 114) (v := _) rfl rfl (by kernel_rfl) (by kernel_rfl) (by kernel_rfl) hG ⟨by rfl, fun w9 hw9 => Or.inr ⟨_, _, ?_, C19.out w9⟩⟩ ?_
  · go_simp
    try with_reducible rfl
  simp only [Act.put, stA, stB, stC]
  refine Abs.alloc4 (i := 10) (t := 24) (X := []) (W := wx) rfl (by kernel_rfl) (by rfl) hG (fun _ h => h) (fun w9 => ?_) (fun b19 hb19 hG => ?_)
  · go_simp
    try with_reducible rfl
  refine Abs.at_put (d := some 15) rfl ?_
  simp only [Act.put, stA, stB, stC]
  refine Abs.store4 (i := 11) (b := b19) (ds := #[.int .u64 (lm v19 0 : Nat), .int .u64 (lm v19 1 : Nat), .int .u64 (lm v19 2 : Nat), .int .u64 (lm v19 3 : Nat)]) rfl (by kernel_rfl) (by rfl) (fun w9 => (((w9.setCell ⟨b19, 0, none⟩ (.int .u64 (lm v19 0 : Nat))).setCell ⟨b19, 1, none⟩ (.int .u64 (lm v19 1 : Nat))).setCell ⟨b19, 2, none⟩ (.int .u64 (lm v19 2 : Nat))).setCell ⟨b19, 3, none⟩ (.int .u64 (lm v19 3 : Nat))) (fun w9 h9 => ⟨?_, ?_, ?_⟩) (fun _ _ h k => Chg.keeps (Or.inr hb19) h k) (good_chg [] wx) (fun hG => ?_)
  · have n0 := cell_of_has h9 0; have n1 := cell_of_has h9 1; have n2 := cell_of_has h9 2; have n3 := cell_of_has h9 3
    simp only [glA, glB, glC] at n0 n1 n2 n3
    have z0 := frozen_of_has h9 0; have z1 := frozen_of_has h9 1; have z2 := frozen_of_has h9 2; have z3 := frozen_of_has h9 3
    clear h9
    go_simp
    try with_reducible rfl
  · exact U4.put_x (x := fun _ => 0) h9 v19
  · exact Chg.put_x (Chg.refl _ _) (Or.inl (by simp)) v19
  refine Abs.at_put (d := none) rfl ?_
  simp only [Act.put, stA, stB, stC]
  refine Abs.done (by kernel_rfl) (fun wx hx => NoPanic.normal ?_) _
  clear D0 D1 D2 D3 D4 D5 D6 D7 w17_0 w17_1 w17_2 w17_3
  obtain ⟨hA, hN⟩ := hx
  have l19 : R < b19 := Nat.lt_of_lt_of_le HR.out.lt hb19
  have hN : U4 wx b19 24 (lm v19) := hN
  replace HBA := Lib.hid (HBA.out.chg hA nmN)
  replace HR := Lib.hid (HR.out.chg hA nmN)
  replace HC := Lib.hid (HC.out.trans hA)
  replace HD := Lib.hid (HD.out.chg hA nmN)
  replace H_0 := Lib.hid (H_0.out.chg hA nmN)
  replace H_2 := Lib.hid (H_2.out.chg hA nmN)
  replace H_3 := Lib.hid (H_3.out.chg hA nmN)
  replace H_5 := Lib.hid (H_5.out.chg hA nmN)
  replace H_7 := Lib.hid (H_7.out.chg hA nmN)
  replace H_10 := Lib.hid (H_10.out.chg hA nmN)
  replace H_11 := Lib.hid (H_11.out.chg hA nmN)
  replace H_12 := Lib.hid (H_12.out.chg hA nmN)
  replace H_13 := Lib.hid (H_13.out.chg hA nmN)
  replace H_15 := Lib.hid (H_15.out.chg hA nmN)
  replace H_17 := Lib.hid (H_17.out.chg hA nmN)
  have H_19 := Lib.hid hN
  clear hA hN hb19
  go_upto_region 16 with fail
  obtain ⟨D0, D1, D2, D3⟩ := four4 fun _ => (HD.out).cm; obtain ⟨D4, D5, D6, D7⟩ := four4 fun _ => (HD.out).cc
  obtain ⟨w11_0, w11_1, w11_2, w11_3⟩ := four4 fun _ => (H_11.out).cell
  obtain ⟨w2_0, w2_1, w2_2, w2_3⟩ := four4 fun _ => (H_2.out).cell
  obtain ⟨w7_0, w7_1, w7_2, w7_3⟩ := four4 fun _ => (H_7.out).cell
  obtain ⟨w10_0, w10_1, w10_2, w10_3⟩ := four4 fun _ => (H_10.out).cell
  obtain ⟨w15_0, w15_1, w15_2, w15_3⟩ := four4 fun _ => (H_15.out).cell
  obtain ⟨w19_0, w19_1, w19_2, w19_3⟩ := four4 fun _ => (H_19.out).cell
  have hRz := HR.out
  refine abs_region (B := Chg [R] wx) (S := fun w => Chg [R] wx w ∧ w.heap[R]? = some (.cells #[.int .u64 0, .int .u64 0, .int .u64 0, .int .u64 0, .int .u64 0, .int .u64 0, .int .u64 0, .int .u64 0, .int .u64 0, .int .u64 0, .int .u64 0, .int .u64 0] 71 (0, 0))) (by kernel_rfl) ⟨(Chg.refl _ _).drew, hRz⟩ ?_
  have hG := good_at [R] wx R (.cells #[.int .u64 0, .int .u64 0, .int .u64 0, .int .u64 0, .int .u64 0, .int .u64 0, .int .u64 0, .int .u64 0, .int .u64 0, .int .u64 0, .int .u64 0, .int .u64 0] 71 (0, 0))
  refine Abs.take_np (i := 0) (d := some 115) (v := ?_) rfl rfl (by kernel_rfl) (by kernel_rfl) (by kernel_rfl) hG ⟨by rfl, fun w9 hw9 => Or.inl ?_⟩ ?_
  rotate_left
  · replace D0 := hw9.cell D0 (by simp; omega); replace D1 := hw9.cell D1 (by simp; omega); replace D2 := hw9.cell D2 (by simp; omega); replace D3 := hw9.cell D3 (by simp; omega); replace D4 := hw9.cell D4 (by simp; omega); replace D5 := hw9.cell D5 (by simp; omega); replace D6 := hw9.cell D6 (by simp; omega); replace D7 := hw9.cell D7 (by simp; omega)
    go_simp
    try with_reducible rfl
  simp only [Act.put, stA, stB, stC]
  refine Abs.take_np (i := 1) (d := some 116) (v := ?_) rfl rfl (by kernel_rfl) (by kernel_rfl) (by kernel_rfl) hG ⟨by rfl, fun w9 hw9 => Or.inl ?_⟩ ?_
  rotate_left
  · replace w11_0 := hw9.cell w11_0 (by simp; omega); replace w11_1 := hw9.cell w11_1 (by simp; omega); replace w11_2 := hw9.cell w11_2 (by simp; omega); replace w11_3 := hw9.cell w11_3 (by simp; omega)
    go_simp
    try with_reducible rfl
  simp only [Act.put, stA, stB, stC]
  refine Abs.take_np (i := 2) (d := some 117) (v := ?_) rfl rfl (by kernel_rfl) (by kernel_rfl) (by kernel_rfl) hG ⟨by rfl, fun w9 hw9 => Or.inl ?_⟩ ?_
  rotate_left
  · replace w11_0 := hw9.cell w11_0 (by simp; omega); replace w11_1 := hw9.cell w11_1 (by simp; omega); replace w11_2 := hw9.cell w11_2 (by simp; omega); replace w11_3 := hw9.cell w11_3 (by simp; omega)
    go_simp
    try with_reducible rfl
  simp only [Act.put, stA, stB, stC]
  refine Abs.take_np (i := 3) (d := some 118) (v := _) rfl rfl (by kernel_rfl) (by kernel_rfl) (by kernel_rfl) hG ⟨by rfl, fun w9 hw9 => Or.inr ⟨_, _, ?_, C20.out w9⟩⟩ ?_
  · go_simp
    try with_reducible rfl
  simp only [Act.put, stA, stB, stC]
  refine Abs.take_np (i := 4) (d := some 119) (v := ?_) rfl rfl (by kernel_rfl) (by kernel_rfl) (by kernel_rfl) hG ⟨by rfl, fun w9 hw9 => Or.inl ?_⟩ ?_
  rotate_left
  · replace D0 := hw9.cell D0 (by simp; omega); replace D1 := hw9.cell D1 (by simp; omega); replace D2 := hw9.cell D2 (by simp; omega); replace D3 := hw9.cell D3 (by simp; omega); replace D4 := hw9.cell D4 (by simp; omega); replace D5 := hw9.cell D5 (by simp; omega); replace D6 := hw9.cell D6 (by simp; omega); replace D7 := hw9.cell D7 (by simp; omega)
    go_simp
    try with_reducible rfl
  simp only [Act.put, stA, stB, stC]
  refine Abs.take_np (i := 5) (d := some 120) (v := ?_) rfl rfl (by kernel_rfl) (by kernel_rfl) (by kernel_rfl) hG ⟨by rfl, fun w9 hw9 => Or.inl ?_⟩ ?_
  rotate_left
  · replace D0 := hw9.cell D0 (by simp; omega); replace D1 := hw9.cell D1 (by simp; omega); replace D2 := hw9.cell D2 (by simp; omega); replace D3 := hw9.cell D3 (by simp; omega); replace D4 := hw9.cell D4 (by simp; omega); replace D5 := hw9.cell D5 (by simp; omega); replace D6 := hw9.cell D6 (by simp; omega); replace D7 := hw9.cell D7 (by simp; omega)
    go_simp
    try with_reducible rfl
  simp only [Act.put, stA, stB, stC]
  refine Abs.take_np (i := 6) (d := some 121) (v := ?_) rfl rfl (by kernel_rfl) (by kernel_rfl) (by kernel_rfl) hG ⟨by rfl, fun w9 hw9 => Or.inl ?_⟩ ?_
  rotate_left
  · replace w2_0 := hw9.cell w2_0 (by simp; omega); replace w2_1 := hw9.cell w2_1 (by simp; omega); replace w2_2 := hw9.cell w2_2 (by simp; omega); replace w2_3 := hw9.cell w2_3 (by simp; omega)
    go_simp
    try with_reducible rfl
  simp only [Act.put, stA, stB, stC]
  refine Abs.take_np (i := 7) (d := some 122) (v := ?_) rfl rfl (by kernel_rfl) (by kernel_rfl) (by kernel_rfl) hG ⟨by rfl, fun w9 hw9 => Or.inl ?_⟩ ?_
  rotate_left
  · replace D0 := hw9.cell D0 (by simp; omega); replace D1 := hw9.cell D1 (by simp; omega); replace D2 := hw9.cell D2 (by simp; omega); replace D3 := hw9.cell D3 (by simp; omega); replace D4 := hw9.cell D4 (by simp; omega); replace D5 := hw9.cell D5 (by simp; omega); replace D6 := hw9.cell D6 (by simp; omega); replace D7 := hw9.cell D7 (by simp; omega)
    go_simp
    try with_reducible rfl
  simp only [Act.put, stA, stB, stC]
  refine Abs.take_np (i := 8) (d := some 123) (v := ?_) rfl rfl (by kernel_rfl) (by kernel_rfl) (by kernel_rfl) hG ⟨by rfl, fun w9 hw9 => Or.inl ?_⟩ ?_
  rotate_left
  · replace w7_0 := hw9.cell w7_0 (by simp; omega); replace w7_1 := hw9.cell w7_1 (by simp; omega); replace w7_2 := hw9.cell w7_2 (by simp; omega); replace w7_3 := hw9.cell w7_3 (by simp; omega)
    go_simp
    try with_reducible rfl
  simp only [Act.put, stA, stB, stC]
  refine Abs.take_np (i := 9) (d := some 124) (v := ?_) rfl rfl (by kernel_rfl) (by kernel_rfl) (by kernel_rfl) hG ⟨by rfl, fun w9 hw9 => Or.inl ?_⟩ ?_
  rotate_left
  · replace w10_0 := hw9.cell w10_0 (by simp; omega); replace w10_1 := hw9.cell w10_1 (by simp; omega); replace w10_2 := hw9.cell w10_2 (by simp; omega); replace w10_3 := hw9.cell w10_3 (by simp; omega)
    go_simp
    try with_reducible rfl
  simp only [Act.put, stA, stB, stC]
  refine Abs.take_np (i := 10) (d := some 125) (v := _) rfl rfl (by kernel_rfl) (by kernel_rfl) (by kernel_rfl) hG ⟨by rfl, fun w9 hw9 => Or.inr ⟨_, _, ?_, C21.out w9⟩⟩ ?_
  · go_simp
    try with_reducible rfl
  simp only [Act.put, stA, stB, stC]
  refine Abs.take_np (i := 11) (d := some 126) (v := _) rfl rfl (by kernel_rfl) (by kernel_rfl) (by kernel_rfl) hG ⟨by rfl, fun w9 hw9 => Or.inr ⟨_, _, ?_, C22.out w9⟩⟩ ?_
  · go_simp
    try with_reducible rfl
  simp only [Act.put, stA, stB, stC]
  refine Abs.take_np (i := 12) (d := some 127) (v := ?_) rfl rfl (by kernel_rfl) (by kernel_rfl) (by kernel_rfl) hG ⟨by rfl, fun w9 hw9 => Or.inl ?_⟩ ?_
  rotate_left
  · replace D0 := hw9.cell D0 (by simp; omega); replace D1 := hw9.cell D1 (by simp; omega); replace D2 := hw9.cell D2 (by simp; omega); replace D3 := hw9.cell D3 (by simp; omega); replace D4 := hw9.cell D4 (by simp; omega); replace D5 := hw9.cell D5 (by simp; omega); replace D6 := hw9.cell D6 (by simp; omega); replace D7 := hw9.cell D7 (by simp; omega)
    go_simp
    try with_reducible rfl
  simp only [Act.put, stA, stB, stC]
  refine Abs.take_np (i := 13) (d := some 128) (v := ?_) rfl rfl (by kernel_rfl) (by kernel_rfl) (by kernel_rfl) hG ⟨by rfl, fun w9 hw9 => Or.inl ?_⟩ ?_
  rotate_left
  · replace w15_0 := hw9.cell w15_0 (by simp; omega); replace w15_1 := hw9.cell w15_1 (by simp; omega); replace w15_2 := hw9.cell w15_2 (by simp; omega); replace w15_3 := hw9.cell w15_3 (by simp; omega)
    go_simp
    try with_reducible rfl
  simp only [Act.put, stA, stB, stC]
  refine Abs.take_np (i := 14) (d := some 129) (v := ?_) rfl rfl (by kernel_rfl) (by kernel_rfl) (by kernel_rfl) hG ⟨by rfl, fun w9 hw9 => Or.inl ?_⟩ ?_
  rotate_left
  · replace w15_0 := hw9.cell w15_0 (by simp; omega); replace w15_1 := hw9.cell w15_1 (by simp; omega); replace w15_2 := hw9.cell w15_2 (by simp; omega); replace w15_3 := hw9.cell w15_3 (by simp; omega)
    go_simp
    try with_reducible rfl
  simp only [Act.put, stA, stB, stC]
  refine Abs.take_np (i := 15) (d := some 130) (v := _) rfl rfl (by kernel_rfl) (by kernel_rfl) (by kernel_rfl) hG ⟨by rfl, fun w9 hw9 => Or.inr ⟨_, _, ?_, C23.out w9⟩⟩ ?_
  · go_simp
    try with_reducible rfl
  simp only [Act.put, stA, stB, stC]
  refine Abs.take_np (i := 16) (d := some 131) (v := _) rfl rfl (by kernel_rfl) (by kernel_rfl) (by kernel_rfl) hG ⟨by rfl, fun w9 hw9 => Or.inr ⟨_, _, ?_, C24.out w9⟩⟩ ?_
  · go_simp
    try with_reducible rfl
  simp only [Act.put, stA, stB, stC]
  refine Abs.take_np (i := 17) (d := some 132) (v := ?_) rfl rfl (by kernel_rfl) (by kernel_rfl) (by kernel_rfl) hG ⟨by rfl, fun w9 hw9 => Or.inl ?_⟩ ?_
  rotate_left
  · replace D0 := hw9.cell D0 (by simp; omega); replace D1 := hw9.cell D1 (by simp; omega); replace D2 := hw9.cell D2 (by simp; omega); replace D3 := hw9.cell D3 (by simp; omega); replace D4 := hw9.cell D4 (by simp; omega); replace D5 := hw9.cell D5 (by simp; omega); replace D6 := hw9.cell D6 (by simp; omega); replace D7 := hw9.cell D7 (by simp; omega)
    go_simp
    try with_reducible rfl
  simp only [Act.put, stA, stB, stC]
  refine Abs.take_np (i := 18) (d := some 133) (v := ?_) rfl rfl (by kernel_rfl) (by kernel_rfl) (by kernel_rfl) hG ⟨by rfl, fun w9 hw9 => Or.inl ?_⟩ ?_
  rotate_left
  · replace w19_0 := hw9.cell w19_0 (by simp; omega); replace w19_1 := hw9.cell w19_1 (by simp; omega); replace w19_2 := hw9.cell w19_2 (by simp; omega); replace w19_3 := hw9.cell w19_3 (by simp; omega)
    go_simp
    try with_reducible rfl
  simp only [Act.put, stA, stB, stC]
  refine Abs.take_np (i := 19) (d := some 134) (v := ?_) rfl rfl (by kernel_rfl) (by kernel_rfl) (by kernel_rfl) hG ⟨by rfl, fun w9 hw9 => Or.inl ?_⟩ ?_
  rotate_left
  · replace w19_0 := hw9.cell w19_0 (by simp; omega); replace w19_1 := hw9.cell w19_1 (by simp; omega); replace w19_2 := hw9.cell w19_2 (by simp; omega); replace w19_3 := hw9.cell w19_3 (by simp; omega)
    go_simp
    try with_reducible rfl
  simp only [Act.put, stA, stB, stC]
  refine Abs.take_np (i := 20) (d := some 135) (v := _) rfl rfl (by kernel_rfl) (by kernel_rfl) (by kernel_rfl) hG ⟨by rfl, fun w9 hw9 => Or.inr ⟨_, _, ?_, C25.out w9⟩⟩ ?_
  · go_simp
    try with_reducible rfl
  simp only [Act.put, stA, stB, stC]
  refine Abs.take_np (i := 21) (d := some 136) (v := ?_) rfl rfl (by kernel_rfl) (by kernel_rfl) (by kernel_rfl) hG ⟨by rfl, fun w9 hw9 => Or.inl ?_⟩ ?_
  rotate_left
  · go_simp
    try with_reducible rfl
  simp only [Act.put, stA, stB, stC]
  refine Abs.store4 (i := 22) (b := R) (ds := #[.int .u64 (lm v20 0 : Nat), .int .u64 (lm v20 1 : Nat), .int .u64 (lm v20 2 : Nat), .int .u64 (lm v20 3 : Nat), .int .u64 (lm v24 0 : Nat), .int .u64 (lm v24 1 : Nat), .int .u64 (lm v24 2 : Nat), .int .u64 (lm v24 3 : Nat), .int .u64 (lm v25 0 : Nat), .int .u64 (lm v25 1 : Nat), .int .u64 (lm v25 2 : Nat), .int .u64 (lm v25 3 : Nat)]) rfl (by kernel_rfl) (by rfl) (fun w9 => ((((((((((((w9.setCell ⟨R, 0, none⟩ (.int .u64 (lm v20 0 : Nat))).setCell ⟨R, 1, none⟩ (.int .u64 (lm v20 1 : Nat))).setCell ⟨R, 2, none⟩ (.int .u64 (lm v20 2 : Nat))).setCell ⟨R, 3, none⟩ (.int .u64 (lm v20 3 : Nat))).setCell ⟨R, 4, none⟩ (.int .u64 (lm v24 0 : Nat))).setCell ⟨R, 5, none⟩ (.int .u64 (lm v24 1 : Nat))).setCell ⟨R, 6, none⟩ (.int .u64 (lm v24 2 : Nat))).setCell ⟨R, 7, none⟩ (.int .u64 (lm v24 3 : Nat))).setCell ⟨R, 8, none⟩ (.int .u64 (lm v25 0 : Nat))).setCell ⟨R, 9, none⟩ (.int .u64 (lm v25 1 : Nat))).setCell ⟨R, 10, none⟩ (.int .u64 (lm v25 2 : Nat))).setCell ⟨R, 11, none⟩ (.int .u64 (lm v25 3 : Nat)))) (fun w9 h9 => ⟨?_, ?_, ?_⟩) (fun _ _ h k => Chg.keeps (Or.inl (by simp)) h k) (good_chg [R] wx) (fun hG => ?_)
  · have n0 := cell_of_has h9 0; have n1 := cell_of_has h9 1; have n2 := cell_of_has h9 2; have n3 := cell_of_has h9 3; have n4 := cell_of_has h9 4; have n5 := cell_of_has h9 5; have n6 := cell_of_has h9 6; have n7 := cell_of_has h9 7; have n8 := cell_of_has h9 8; have n9 := cell_of_has h9 9; have n10 := cell_of_has h9 10; have n11 := cell_of_has h9 11
    simp only [glA, glB, glC] at n0 n1 n2 n3 n4 n5 n6 n7 n8 n9 n10 n11
    have nz0 := frozen_of_has h9 0; have nz1 := frozen_of_has h9 1; have nz2 := frozen_of_has h9 2; have nz3 := frozen_of_has h9 3; have nz4 := frozen_of_has h9 4; have nz5 := frozen_of_has h9 5; have nz6 := frozen_of_has h9 6; have nz7 := frozen_of_has h9 7; have nz8 := frozen_of_has h9 8; have nz9 := frozen_of_has h9 9; have nz10 := frozen_of_has h9 10; have nz11 := frozen_of_has h9 11
    clear h9
    go_simp
    try with_reducible rfl
  · exact U12.put (x := 0) (y := 0) (z := 0) (by unfold U12; rw [lm_zero, lm_zero, lm_zero, lm_zero]; exact h9) v20 v24 v25
  · exact Chg.put12 (Chg.refl _ _) (Or.inl (by simp)) v20 v24 v25
  refine Abs.at_put (d := none) rfl ?_
  simp only [Act.put, stA, stB, stC]
  refine Abs.done (by kernel_rfl) (fun wx hx => NoPanic.normal ?_) _
  clear D0 D1 D2 D3 D4 D5 D6 D7 w11_0 w11_1 w11_2 w11_3 w2_0 w2_1 w2_2 w2_3 w7_0 w7_1 w7_2 w7_3 w10_0 w10_1 w10_2 w10_3 w15_0 w15_1 w15_2 w15_3 w19_0 w19_1 w19_2 w19_3
  obtain ⟨hA, hN⟩ := hx
  have hCF : Chg [] w wx := HC.out.trans_new hA (by simp; have := hP.out; omega)
  have g0 := cell_of_has hN 0; have g1 := cell_of_has hN 1; have g2 := cell_of_has hN 2; have g3 := cell_of_has hN 3; have g4 := cell_of_has hN 4; have g5 := cell_of_has hN 5; have g6 := cell_of_has hN 6; have g7 := cell_of_has hN 7; have g8 := cell_of_has hN 8; have g9 := cell_of_has hN 9; have g10 := cell_of_has hN 10; have g11 := cell_of_has hN 11
  simp only [glA, glB, glC] at g0 g1 g2 g3 g4 g5 g6 g7 g8 g9 g10 g11
  go_wp2_with fail
  exact bodyPost_ret (v := .agg #[.int .u64 (lm v20 0 : Nat), .int .u64 (lm v20 1 : Nat), .int .u64 (lm v20 2 : Nat), .int .u64 (lm v20 3 : Nat), .int .u64 (lm v24 0 : Nat), .int .u64 (lm v24 1 : Nat), .int .u64 (lm v24 2 : Nat), .int .u64 (lm v24 3 : Nat), .int .u64 (lm v25 0 : Nat), .int .u64 (lm v25 1 : Nat), .int .u64 (lm v25 2 : Nat), .int .u64 (lm v25 3 : Nat)]) (by simp [results, Try.results74, go_sem, g0, g1, g2, g3, g4, g5, g6, g7, g8, g9, g10, g11]) rfl ⟨by rw [HZ.out], hCF⟩

end Go.Proofs.Ytplldbmjdnikeaa
