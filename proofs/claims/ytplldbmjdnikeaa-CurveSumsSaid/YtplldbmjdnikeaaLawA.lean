/- CurveGroup: the walks. Printed by lawa.py. -/
import Derived.Test.YtplldbmjdnikeaaRe4
namespace Go.Proofs.Ytplldbmjdnikeaa
set_option linter.unusedVariables false
set_option linter.unusedSimpArgs false
open Go.RowKit
theorem ofP_lt (P : Pc) : (ofP P).x < B6 ^ 4 ∧ (ofP P).y < B6 ^ 4 := by
  cases P with
  | inf => exact ⟨by show 0 < B6 ^ 4; decide, by show 0 < B6 ^ 4; decide⟩
  | aff x y => exact ⟨val_lt4 x, val_lt4 y⟩

set_option maxRecDepth 100000 in
set_option maxHeartbeats 8000000 in
theorem group_good {P Q R : Pc} (hP : P.on 7) (hQ : Q.on 7) (hR : R.on 7) (w : World) :
    Calls Try.prog 4 #[.agg (pv (ofP P)), .agg (pv (ofP Q)), .agg (pv (ofP R))] w fun e w' => e = .returned (.bool true) ∧ Chg [] w w' := by
  have c1 := fun w => curve_add hP hQ w
  have c2 := fun w => curve_add hQ hP w
  rw [curve_comm hQ hP] at c2
  have c3 := fun w => curve_add hQ hR w
  have c4 := fun w => curve_add (curve_on hP hQ) hR w
  have c5 := fun w => curve_add hP (curve_on hQ hR) w
  rw [← curve_assoc hP hQ hR] at c5
  have hinf : Pt.on 7 (.inf : Pc) := trivial
  have c6 := fun w => curve_add hP hinf w
  rw [add_inf] at c6
  have hpi : pv (ofP .inf) = #[.int .u64 (lm 0 0 : Nat), .int .u64 (lm 0 1 : Nat), .int .u64 (lm 0 2 : Nat), .int .u64 (lm 0 3 : Nat), .int .u64 (lm 0 0 : Nat), .int .u64 (lm 0 1 : Nat), .int .u64 (lm 0 2 : Nat), .int .u64 (lm 0 3 : Nat), .bool true] := rfl
  rw [hpi, lm_zero, lm_zero, lm_zero, lm_zero] at c6
  clear hpi
  have c7 := fun w => is_ok (curve_on (curve_on hP hQ) hR) w
  have c8 := fun w => law_g w
  obtain ⟨ax, hax⟩ : ∃ t, (ofP P).x = t := ⟨_, rfl⟩
  obtain ⟨ay, hay⟩ : ∃ t, (ofP P).y = t := ⟨_, rfl⟩
  obtain ⟨ai, hai⟩ : ∃ t, (ofP P).inf = t := ⟨_, rfl⟩
  have ea : pv (ofP P) = #[.int .u64 (lm ax 0 : Nat), .int .u64 (lm ax 1 : Nat), .int .u64 (lm ax 2 : Nat), .int .u64 (lm ax 3 : Nat), .int .u64 (lm ay 0 : Nat), .int .u64 (lm ay 1 : Nat), .int .u64 (lm ay 2 : Nat), .int .u64 (lm ay 3 : Nat), .bool ai] := by unfold pv; rw [hax, hay, hai]
  obtain ⟨dx, hdx⟩ : ∃ t, (ofP Q).x = t := ⟨_, rfl⟩
  obtain ⟨dy, hdy⟩ : ∃ t, (ofP Q).y = t := ⟨_, rfl⟩
  obtain ⟨di, hdi⟩ : ∃ t, (ofP Q).inf = t := ⟨_, rfl⟩
  have ed : pv (ofP Q) = #[.int .u64 (lm dx 0 : Nat), .int .u64 (lm dx 1 : Nat), .int .u64 (lm dx 2 : Nat), .int .u64 (lm dx 3 : Nat), .int .u64 (lm dy 0 : Nat), .int .u64 (lm dy 1 : Nat), .int .u64 (lm dy 2 : Nat), .int .u64 (lm dy 3 : Nat), .bool di] := by unfold pv; rw [hdx, hdy, hdi]
  obtain ⟨cx, hcx⟩ : ∃ t, (ofP R).x = t := ⟨_, rfl⟩
  obtain ⟨cy, hcy⟩ : ∃ t, (ofP R).y = t := ⟨_, rfl⟩
  obtain ⟨ci, hci⟩ : ∃ t, (ofP R).inf = t := ⟨_, rfl⟩
  have ec : pv (ofP R) = #[.int .u64 (lm cx 0 : Nat), .int .u64 (lm cx 1 : Nat), .int .u64 (lm cx 2 : Nat), .int .u64 (lm cx 3 : Nat), .int .u64 (lm cy 0 : Nat), .int .u64 (lm cy 1 : Nat), .int .u64 (lm cy 2 : Nat), .int .u64 (lm cy 3 : Nat), .bool ci] := by unfold pv; rw [hcx, hcy, hci]
  obtain ⟨ux, hux⟩ : ∃ t, (ofP (addP P Q)).x = t := ⟨_, rfl⟩
  obtain ⟨uy, huy⟩ : ∃ t, (ofP (addP P Q)).y = t := ⟨_, rfl⟩
  obtain ⟨ui, hui⟩ : ∃ t, (ofP (addP P Q)).inf = t := ⟨_, rfl⟩
  have eu : pv (ofP (addP P Q)) = #[.int .u64 (lm ux 0 : Nat), .int .u64 (lm ux 1 : Nat), .int .u64 (lm ux 2 : Nat), .int .u64 (lm ux 3 : Nat), .int .u64 (lm uy 0 : Nat), .int .u64 (lm uy 1 : Nat), .int .u64 (lm uy 2 : Nat), .int .u64 (lm uy 3 : Nat), .bool ui] := by unfold pv; rw [hux, huy, hui]
  obtain ⟨sx, hsx⟩ : ∃ t, (ofP (addP Q R)).x = t := ⟨_, rfl⟩
  obtain ⟨sy, hsy⟩ : ∃ t, (ofP (addP Q R)).y = t := ⟨_, rfl⟩
  obtain ⟨si, hsi⟩ : ∃ t, (ofP (addP Q R)).inf = t := ⟨_, rfl⟩
  have es : pv (ofP (addP Q R)) = #[.int .u64 (lm sx 0 : Nat), .int .u64 (lm sx 1 : Nat), .int .u64 (lm sx 2 : Nat), .int .u64 (lm sx 3 : Nat), .int .u64 (lm sy 0 : Nat), .int .u64 (lm sy 1 : Nat), .int .u64 (lm sy 2 : Nat), .int .u64 (lm sy 3 : Nat), .bool si] := by unfold pv; rw [hsx, hsy, hsi]
  obtain ⟨lx, hlx⟩ : ∃ t, (ofP (addP (addP P Q) R)).x = t := ⟨_, rfl⟩
  obtain ⟨ly, hly⟩ : ∃ t, (ofP (addP (addP P Q) R)).y = t := ⟨_, rfl⟩
  obtain ⟨li, hli⟩ : ∃ t, (ofP (addP (addP P Q) R)).inf = t := ⟨_, rfl⟩
  have el : pv (ofP (addP (addP P Q) R)) = #[.int .u64 (lm lx 0 : Nat), .int .u64 (lm lx 1 : Nat), .int .u64 (lm lx 2 : Nat), .int .u64 (lm lx 3 : Nat), .int .u64 (lm ly 0 : Nat), .int .u64 (lm ly 1 : Nat), .int .u64 (lm ly 2 : Nat), .int .u64 (lm ly 3 : Nat), .bool li] := by unfold pv; rw [hlx, hly, hli]
  have la := ofP_lt (P)
  rw [hax, hay] at la
  have ea1 := fun w => num_eq9 la.1 la.1 w
  have ea2 := fun w => num_eq9 la.2 la.2 w
  simp only [decide_true] at ea1 ea2
  have lu := ofP_lt (addP P Q)
  rw [hux, huy] at lu
  have eu1 := fun w => num_eq9 lu.1 lu.1 w
  have eu2 := fun w => num_eq9 lu.2 lu.2 w
  simp only [decide_true] at eu1 eu2
  have ll := ofP_lt (addP (addP P Q) R)
  rw [hlx, hly] at ll
  have el1 := fun w => num_eq9 ll.1 ll.1 w
  have el2 := fun w => num_eq9 ll.2 ll.2 w
  simp only [decide_true] at el1 el2
  rw [ea] at c1 c2 c5 c6 ⊢
  rw [ed] at c1 c2 c3 ⊢
  rw [ec] at c3 c4 ⊢
  rw [eu] at c1 c2 c4
  rw [es] at c3 c5
  rw [el] at c4 c5 c7
  have C1 := Lib.hid c1; have C2 := Lib.hid c2; have C3 := Lib.hid c3; have C4 := Lib.hid c4; have C5 := Lib.hid c5; have C6 := Lib.hid c6; have C7 := Lib.hid c7; have C8 := Lib.hid c8
  clear c1 c2 c3 c4 c5 c6 c7 c8 hinf la lu ll hax hay hai ea hdx hdy hdi ed hcx hcy hci ec hux huy hui eu hsx hsy hsi es hlx hly hli el hP hQ hR
  obtain ⟨W0, hW0⟩ : ∃ W0, (((w.alloc (.cells #[.int .u64 (lm ax 0 : Nat), .int .u64 (lm ax 1 : Nat), .int .u64 (lm ax 2 : Nat), .int .u64 (lm ax 3 : Nat), .int .u64 (lm ay 0 : Nat), .int .u64 (lm ay 1 : Nat), .int .u64 (lm ay 2 : Nat), .int .u64 (lm ay 3 : Nat), .bool ai] 26)).alloc (.cells #[.int .u64 (lm dx 0 : Nat), .int .u64 (lm dx 1 : Nat), .int .u64 (lm dx 2 : Nat), .int .u64 (lm dx 3 : Nat), .int .u64 (lm dy 0 : Nat), .int .u64 (lm dy 1 : Nat), .int .u64 (lm dy 2 : Nat), .int .u64 (lm dy 3 : Nat), .bool di] 26)).alloc (.cells #[.int .u64 (lm cx 0 : Nat), .int .u64 (lm cx 1 : Nat), .int .u64 (lm cx 2 : Nat), .int .u64 (lm cx 3 : Nat), .int .u64 (lm cy 0 : Nat), .int .u64 (lm cy 1 : Nat), .int .u64 (lm cy 2 : Nat), .int .u64 (lm cy 3 : Nat), .bool ci] 26)) = W0 := ⟨_, rfl⟩
  have Ha := Lib.hid (show U9 W0 (w.heap.size) ax ay ai by rw [← hW0]; exact has_alloc (has_alloc (has_alloc_new _ _)))
  have Hd := Lib.hid (show U9 W0 (w.heap.size + 1) dx dy di by rw [← hW0]; exact has_alloc (has_alloc_at (by simp)))
  have Hc := Lib.hid (show U9 W0 (w.heap.size + 1 + 1) cx cy ci by rw [← hW0]; exact has_alloc_at (by simp))
  have HC := Lib.hid (show Chg [] w W0 by rw [← hW0]; exact (((Chg.refl _ _).alloc _).alloc _).alloc _)
  go_enter Try.func4, Try.ntmps4
  go_upto_region 1 with fail
  try rw [hW0]
  clear hW0
  obtain ⟨P0, hP⟩ : ∃ P, w.heap.size = P := ⟨_, rfl⟩
  rw [hP] at Ha Hd Hc ⊢
  replace hP := Lib.hid hP
  obtain ⟨a0, a1, a2, a3, a4, a5, a6, a7, a8⟩ := (Ha.out).all
  obtain ⟨d0, d1, d2, d3, d4, d5, d6, d7, d8⟩ := (Hd.out).all
  go_wp2_with fail
  refine (C1.out _).mono ?_
  rintro e w1 ⟨rfl, hC1⟩
  clear a0 a1 a2 a3 a4 a5 a6 a7 a8
  clear d0 d1 d2 d3 d4 d5 d6 d7 d8
  replace Ha := Lib.hid (Ha.out.chg hC1 nmN)
  replace Hd := Lib.hid (Hd.out.chg hC1 nmN)
  replace Hc := Lib.hid (Hc.out.chg hC1 nmN)
  replace HC := Lib.hid (HC.out.trans hC1)
  clear hC1
  obtain ⟨W1, hW1⟩ : ∃ W1, w1.alloc (.cells #[.int .u64 (lm ux 0 : Nat), .int .u64 (lm ux 1 : Nat), .int .u64 (lm ux 2 : Nat), .int .u64 (lm ux 3 : Nat), .int .u64 (lm uy 0 : Nat), .int .u64 (lm uy 1 : Nat), .int .u64 (lm uy 2 : Nat), .int .u64 (lm uy 3 : Nat), .bool ui] 26) = W1 := ⟨_, rfl⟩
  have hA : Chg [] w1 W1 := by rw [← hW1]; exact (Chg.refl _ _).alloc _
  have hN : U9 W1 w1.heap.size ux uy ui := by rw [← hW1]; exact has_alloc_new _ _
  obtain ⟨b_u, hb⟩ : ∃ b, w1.heap.size = b := ⟨_, rfl⟩
  rw [hb] at hN
  replace Ha := Lib.hid (Ha.out.chg hA nmN)
  replace Hd := Lib.hid (Hd.out.chg hA nmN)
  replace Hc := Lib.hid (Hc.out.chg hA nmN)
  replace HC := Lib.hid (HC.out.trans hA)
  have Hu := Lib.hid hN
  have HW1 := Lib.hid hW1; have Hb := Lib.hid hb
  clear hW1 hb hA hN
  go_upto_region 2 with fail
  try rw [HW1.out]
  try rw [Hb.out]
  clear HW1 Hb
  obtain ⟨d0, d1, d2, d3, d4, d5, d6, d7, d8⟩ := (Hd.out).all
  obtain ⟨a0, a1, a2, a3, a4, a5, a6, a7, a8⟩ := (Ha.out).all
  go_wp2_with fail
  refine (C2.out _).mono ?_
  rintro e w1 ⟨rfl, hC1⟩
  clear d0 d1 d2 d3 d4 d5 d6 d7 d8
  clear a0 a1 a2 a3 a4 a5 a6 a7 a8
  replace Ha := Lib.hid (Ha.out.chg hC1 nmN)
  replace Hd := Lib.hid (Hd.out.chg hC1 nmN)
  replace Hc := Lib.hid (Hc.out.chg hC1 nmN)
  replace HC := Lib.hid (HC.out.trans hC1)
  replace Hu := Lib.hid (Hu.out.chg hC1 nmN)
  clear hC1
  obtain ⟨W1, hW1⟩ : ∃ W1, w1.alloc (.cells #[.int .u64 (lm ux 0 : Nat), .int .u64 (lm ux 1 : Nat), .int .u64 (lm ux 2 : Nat), .int .u64 (lm ux 3 : Nat), .int .u64 (lm uy 0 : Nat), .int .u64 (lm uy 1 : Nat), .int .u64 (lm uy 2 : Nat), .int .u64 (lm uy 3 : Nat), .bool ui] 26) = W1 := ⟨_, rfl⟩
  have hA : Chg [] w1 W1 := by rw [← hW1]; exact (Chg.refl _ _).alloc _
  have hN : U9 W1 w1.heap.size ux uy ui := by rw [← hW1]; exact has_alloc_new _ _
  obtain ⟨b_v, hb⟩ : ∃ b, w1.heap.size = b := ⟨_, rfl⟩
  rw [hb] at hN
  replace Ha := Lib.hid (Ha.out.chg hA nmN)
  replace Hd := Lib.hid (Hd.out.chg hA nmN)
  replace Hc := Lib.hid (Hc.out.chg hA nmN)
  replace HC := Lib.hid (HC.out.trans hA)
  replace Hu := Lib.hid (Hu.out.chg hA nmN)
  have Hv := Lib.hid hN
  have HW1 := Lib.hid hW1; have Hb := Lib.hid hb
  clear hW1 hb hA hN
  go_upto_region 3 with fail
  try rw [HW1.out]
  try rw [Hb.out]
  clear HW1 Hb
  obtain ⟨d0, d1, d2, d3, d4, d5, d6, d7, d8⟩ := (Hd.out).all
  obtain ⟨c0, c1, c2, c3, c4, c5, c6, c7, c8⟩ := (Hc.out).all
  go_wp2_with fail
  refine (C3.out _).mono ?_
  rintro e w1 ⟨rfl, hC1⟩
  clear d0 d1 d2 d3 d4 d5 d6 d7 d8
  clear c0 c1 c2 c3 c4 c5 c6 c7 c8
  replace Ha := Lib.hid (Ha.out.chg hC1 nmN)
  replace Hd := Lib.hid (Hd.out.chg hC1 nmN)
  replace Hc := Lib.hid (Hc.out.chg hC1 nmN)
  replace HC := Lib.hid (HC.out.trans hC1)
  replace Hu := Lib.hid (Hu.out.chg hC1 nmN)
  replace Hv := Lib.hid (Hv.out.chg hC1 nmN)
  clear hC1
  obtain ⟨W1, hW1⟩ : ∃ W1, w1.alloc (.cells #[.int .u64 (lm sx 0 : Nat), .int .u64 (lm sx 1 : Nat), .int .u64 (lm sx 2 : Nat), .int .u64 (lm sx 3 : Nat), .int .u64 (lm sy 0 : Nat), .int .u64 (lm sy 1 : Nat), .int .u64 (lm sy 2 : Nat), .int .u64 (lm sy 3 : Nat), .bool si] 26) = W1 := ⟨_, rfl⟩
  have hA : Chg [] w1 W1 := by rw [← hW1]; exact (Chg.refl _ _).alloc _
  have hN : U9 W1 w1.heap.size sx sy si := by rw [← hW1]; exact has_alloc_new _ _
  obtain ⟨b_s, hb⟩ : ∃ b, w1.heap.size = b := ⟨_, rfl⟩
  rw [hb] at hN
  replace Ha := Lib.hid (Ha.out.chg hA nmN)
  replace Hd := Lib.hid (Hd.out.chg hA nmN)
  replace Hc := Lib.hid (Hc.out.chg hA nmN)
  replace HC := Lib.hid (HC.out.trans hA)
  replace Hu := Lib.hid (Hu.out.chg hA nmN)
  replace Hv := Lib.hid (Hv.out.chg hA nmN)
  have Hs := Lib.hid hN
  have HW1 := Lib.hid hW1; have Hb := Lib.hid hb
  clear hW1 hb hA hN
  go_upto_region 6 with fail
  try rw [HW1.out]
  try rw [Hb.out]
  clear HW1 Hb
  obtain ⟨u0, u1, u2, u3, u4, u5, u6, u7, u8⟩ := (Hu.out).all
  obtain ⟨c0, c1, c2, c3, c4, c5, c6, c7, c8⟩ := (Hc.out).all
  go_wp2_with fail
  refine (C4.out _).mono ?_
  rintro e w1 ⟨rfl, hC1⟩
  clear u0 u1 u2 u3 u4 u5 u6 u7 u8
  clear c0 c1 c2 c3 c4 c5 c6 c7 c8
  replace Ha := Lib.hid (Ha.out.chg hC1 nmN)
  replace Hd := Lib.hid (Hd.out.chg hC1 nmN)
  replace Hc := Lib.hid (Hc.out.chg hC1 nmN)
  replace HC := Lib.hid (HC.out.trans hC1)
  replace Hu := Lib.hid (Hu.out.chg hC1 nmN)
  replace Hv := Lib.hid (Hv.out.chg hC1 nmN)
  replace Hs := Lib.hid (Hs.out.chg hC1 nmN)
  clear hC1
  obtain ⟨W1, hW1⟩ : ∃ W1, w1.alloc (.cells #[.int .u64 (lm lx 0 : Nat), .int .u64 (lm lx 1 : Nat), .int .u64 (lm lx 2 : Nat), .int .u64 (lm lx 3 : Nat), .int .u64 (lm ly 0 : Nat), .int .u64 (lm ly 1 : Nat), .int .u64 (lm ly 2 : Nat), .int .u64 (lm ly 3 : Nat), .bool li] 26) = W1 := ⟨_, rfl⟩
  have hA : Chg [] w1 W1 := by rw [← hW1]; exact (Chg.refl _ _).alloc _
  have hN : U9 W1 w1.heap.size lx ly li := by rw [← hW1]; exact has_alloc_new _ _
  obtain ⟨b_l, hb⟩ : ∃ b, w1.heap.size = b := ⟨_, rfl⟩
  rw [hb] at hN
  replace Ha := Lib.hid (Ha.out.chg hA nmN)
  replace Hd := Lib.hid (Hd.out.chg hA nmN)
  replace Hc := Lib.hid (Hc.out.chg hA nmN)
  replace HC := Lib.hid (HC.out.trans hA)
  replace Hu := Lib.hid (Hu.out.chg hA nmN)
  replace Hv := Lib.hid (Hv.out.chg hA nmN)
  replace Hs := Lib.hid (Hs.out.chg hA nmN)
  have Hl := Lib.hid hN
  have HW1 := Lib.hid hW1; have Hb := Lib.hid hb
  clear hW1 hb hA hN
  go_upto_region 7 with fail
  try rw [HW1.out]
  try rw [Hb.out]
  clear HW1 Hb
  obtain ⟨a0, a1, a2, a3, a4, a5, a6, a7, a8⟩ := (Ha.out).all
  obtain ⟨s0, s1, s2, s3, s4, s5, s6, s7, s8⟩ := (Hs.out).all
  go_wp2_with fail
  refine (C5.out _).mono ?_
  rintro e w1 ⟨rfl, hC1⟩
  clear a0 a1 a2 a3 a4 a5 a6 a7 a8
  clear s0 s1 s2 s3 s4 s5 s6 s7 s8
  replace Ha := Lib.hid (Ha.out.chg hC1 nmN)
  replace Hd := Lib.hid (Hd.out.chg hC1 nmN)
  replace Hc := Lib.hid (Hc.out.chg hC1 nmN)
  replace HC := Lib.hid (HC.out.trans hC1)
  replace Hu := Lib.hid (Hu.out.chg hC1 nmN)
  replace Hv := Lib.hid (Hv.out.chg hC1 nmN)
  replace Hs := Lib.hid (Hs.out.chg hC1 nmN)
  replace Hl := Lib.hid (Hl.out.chg hC1 nmN)
  clear hC1
  obtain ⟨W1, hW1⟩ : ∃ W1, w1.alloc (.cells #[.int .u64 (lm lx 0 : Nat), .int .u64 (lm lx 1 : Nat), .int .u64 (lm lx 2 : Nat), .int .u64 (lm lx 3 : Nat), .int .u64 (lm ly 0 : Nat), .int .u64 (lm ly 1 : Nat), .int .u64 (lm ly 2 : Nat), .int .u64 (lm ly 3 : Nat), .bool li] 26) = W1 := ⟨_, rfl⟩
  have hA : Chg [] w1 W1 := by rw [← hW1]; exact (Chg.refl _ _).alloc _
  have hN : U9 W1 w1.heap.size lx ly li := by rw [← hW1]; exact has_alloc_new _ _
  obtain ⟨b_r, hb⟩ : ∃ b, w1.heap.size = b := ⟨_, rfl⟩
  rw [hb] at hN
  replace Ha := Lib.hid (Ha.out.chg hA nmN)
  replace Hd := Lib.hid (Hd.out.chg hA nmN)
  replace Hc := Lib.hid (Hc.out.chg hA nmN)
  replace HC := Lib.hid (HC.out.trans hA)
  replace Hu := Lib.hid (Hu.out.chg hA nmN)
  replace Hv := Lib.hid (Hv.out.chg hA nmN)
  replace Hs := Lib.hid (Hs.out.chg hA nmN)
  replace Hl := Lib.hid (Hl.out.chg hA nmN)
  have Hr := Lib.hid hN
  have HW1 := Lib.hid hW1; have Hb := Lib.hid hb
  clear hW1 hb hA hN
  go_upto_region 8 with fail
  try rw [HW1.out]
  try rw [Hb.out]
  clear HW1 Hb
  obtain ⟨a0, a1, a2, a3, a4, a5, a6, a7, a8⟩ := (Ha.out).all
  go_wp2_with fail
  refine (C6.out _).mono ?_
  rintro e w1 ⟨rfl, hC1⟩
  clear a0 a1 a2 a3 a4 a5 a6 a7 a8
  replace Ha := Lib.hid (Ha.out.chg hC1 nmN)
  replace Hd := Lib.hid (Hd.out.chg hC1 nmN)
  replace Hc := Lib.hid (Hc.out.chg hC1 nmN)
  replace HC := Lib.hid (HC.out.trans hC1)
  replace Hu := Lib.hid (Hu.out.chg hC1 nmN)
  replace Hv := Lib.hid (Hv.out.chg hC1 nmN)
  replace Hs := Lib.hid (Hs.out.chg hC1 nmN)
  replace Hl := Lib.hid (Hl.out.chg hC1 nmN)
  replace Hr := Lib.hid (Hr.out.chg hC1 nmN)
  clear hC1
  obtain ⟨W1, hW1⟩ : ∃ W1, w1.alloc (.cells #[.int .u64 (lm ax 0 : Nat), .int .u64 (lm ax 1 : Nat), .int .u64 (lm ax 2 : Nat), .int .u64 (lm ax 3 : Nat), .int .u64 (lm ay 0 : Nat), .int .u64 (lm ay 1 : Nat), .int .u64 (lm ay 2 : Nat), .int .u64 (lm ay 3 : Nat), .bool ai] 26) = W1 := ⟨_, rfl⟩
  have hA : Chg [] w1 W1 := by rw [← hW1]; exact (Chg.refl _ _).alloc _
  have hN : U9 W1 w1.heap.size ax ay ai := by rw [← hW1]; exact has_alloc_new _ _
  obtain ⟨b_z, hb⟩ : ∃ b, w1.heap.size = b := ⟨_, rfl⟩
  rw [hb] at hN
  replace Ha := Lib.hid (Ha.out.chg hA nmN)
  replace Hd := Lib.hid (Hd.out.chg hA nmN)
  replace Hc := Lib.hid (Hc.out.chg hA nmN)
  replace HC := Lib.hid (HC.out.trans hA)
  replace Hu := Lib.hid (Hu.out.chg hA nmN)
  replace Hv := Lib.hid (Hv.out.chg hA nmN)
  replace Hs := Lib.hid (Hs.out.chg hA nmN)
  replace Hl := Lib.hid (Hl.out.chg hA nmN)
  replace Hr := Lib.hid (Hr.out.chg hA nmN)
  have Hz := Lib.hid hN
  have HW1 := Lib.hid hW1; have Hb := Lib.hid hb
  clear hW1 hb hA hN
  go_upto_region 9 with fail
  try rw [HW1.out]
  try rw [Hb.out]
  clear HW1 Hb
  obtain ⟨a0, a1, a2, a3, a4, a5, a6, a7, a8⟩ := (Ha.out).all
  obtain ⟨u0, u1, u2, u3, u4, u5, u6, u7, u8⟩ := (Hu.out).all
  obtain ⟨v0, v1, v2, v3, v4, v5, v6, v7, v8⟩ := (Hv.out).all
  obtain ⟨l0, l1, l2, l3, l4, l5, l6, l7, l8⟩ := (Hl.out).all
  obtain ⟨r0, r1, r2, r3, r4, r5, r6, r7, r8⟩ := (Hr.out).all
  obtain ⟨z0, z1, z2, z3, z4, z5, z6, z7, z8⟩ := (Hz.out).all
  go_wp2_with fail
  refine (C7.out _).mono ?_
  rintro e w1 ⟨rfl, hC1⟩
  clear a0 a1 a2 a3 a4 a5 a6 a7 a8
  clear u0 u1 u2 u3 u4 u5 u6 u7 u8
  clear v0 v1 v2 v3 v4 v5 v6 v7 v8
  clear l0 l1 l2 l3 l4 l5 l6 l7 l8
  clear r0 r1 r2 r3 r4 r5 r6 r7 r8
  clear z0 z1 z2 z3 z4 z5 z6 z7 z8
  replace Ha := Lib.hid (Ha.out.chg hC1 nmN)
  replace Hd := Lib.hid (Hd.out.chg hC1 nmN)
  replace Hc := Lib.hid (Hc.out.chg hC1 nmN)
  replace HC := Lib.hid (HC.out.trans hC1)
  replace Hu := Lib.hid (Hu.out.chg hC1 nmN)
  replace Hv := Lib.hid (Hv.out.chg hC1 nmN)
  replace Hs := Lib.hid (Hs.out.chg hC1 nmN)
  replace Hl := Lib.hid (Hl.out.chg hC1 nmN)
  replace Hr := Lib.hid (Hr.out.chg hC1 nmN)
  replace Hz := Lib.hid (Hz.out.chg hC1 nmN)
  clear hC1
  go_wp2_with fail
  refine (C8.out _).mono ?_
  rintro e w1 ⟨rfl, hC1⟩
  replace Ha := Lib.hid (Ha.out.chg hC1 nmN)
  replace Hd := Lib.hid (Hd.out.chg hC1 nmN)
  replace Hc := Lib.hid (Hc.out.chg hC1 nmN)
  replace HC := Lib.hid (HC.out.trans hC1)
  replace Hu := Lib.hid (Hu.out.chg hC1 nmN)
  replace Hv := Lib.hid (Hv.out.chg hC1 nmN)
  replace Hs := Lib.hid (Hs.out.chg hC1 nmN)
  replace Hl := Lib.hid (Hl.out.chg hC1 nmN)
  replace Hr := Lib.hid (Hr.out.chg hC1 nmN)
  replace Hz := Lib.hid (Hz.out.chg hC1 nmN)
  clear hC1
  go_wp2_with fail
  go_ret
  exact ⟨rfl, HC.out⟩

set_option maxRecDepth 100000 in
set_option maxHeartbeats 8000000 in
theorem group_e {ax ay dx dy cx cy ux uy vx vy sx sy : Nat} {ai di ci ui vi si : Bool} {h f : Int} (C1 : Hid (∀ w : World, Calls Try.prog 11 #[.agg #[.int .u64 (lm ax 0 : Nat), .int .u64 (lm ax 1 : Nat), .int .u64 (lm ax 2 : Nat), .int .u64 (lm ax 3 : Nat), .int .u64 (lm ay 0 : Nat), .int .u64 (lm ay 1 : Nat), .int .u64 (lm ay 2 : Nat), .int .u64 (lm ay 3 : Nat), .bool ai], .agg #[.int .u64 (lm dx 0 : Nat), .int .u64 (lm dx 1 : Nat), .int .u64 (lm dx 2 : Nat), .int .u64 (lm dx 3 : Nat), .int .u64 (lm dy 0 : Nat), .int .u64 (lm dy 1 : Nat), .int .u64 (lm dy 2 : Nat), .int .u64 (lm dy 3 : Nat), .bool di]] w fun e w' => e = .returned (.tuple #[.agg #[.int .u64 (lm ux 0 : Nat), .int .u64 (lm ux 1 : Nat), .int .u64 (lm ux 2 : Nat), .int .u64 (lm ux 3 : Nat), .int .u64 (lm uy 0 : Nat), .int .u64 (lm uy 1 : Nat), .int .u64 (lm uy 2 : Nat), .int .u64 (lm uy 3 : Nat), .bool ui], .int .i64 30]) ∧ Chg [] w w'))
    (C2 : Hid (∀ w : World, Calls Try.prog 11 #[.agg #[.int .u64 (lm dx 0 : Nat), .int .u64 (lm dx 1 : Nat), .int .u64 (lm dx 2 : Nat), .int .u64 (lm dx 3 : Nat), .int .u64 (lm dy 0 : Nat), .int .u64 (lm dy 1 : Nat), .int .u64 (lm dy 2 : Nat), .int .u64 (lm dy 3 : Nat), .bool di], .agg #[.int .u64 (lm ax 0 : Nat), .int .u64 (lm ax 1 : Nat), .int .u64 (lm ax 2 : Nat), .int .u64 (lm ax 3 : Nat), .int .u64 (lm ay 0 : Nat), .int .u64 (lm ay 1 : Nat), .int .u64 (lm ay 2 : Nat), .int .u64 (lm ay 3 : Nat), .bool ai]] w fun e w' => e = .returned (.tuple #[.agg #[.int .u64 (lm vx 0 : Nat), .int .u64 (lm vx 1 : Nat), .int .u64 (lm vx 2 : Nat), .int .u64 (lm vx 3 : Nat), .int .u64 (lm vy 0 : Nat), .int .u64 (lm vy 1 : Nat), .int .u64 (lm vy 2 : Nat), .int .u64 (lm vy 3 : Nat), .bool vi], .int .i64 h]) ∧ Chg [] w w'))
    (C3 : Hid (∀ w : World, Calls Try.prog 11 #[.agg #[.int .u64 (lm dx 0 : Nat), .int .u64 (lm dx 1 : Nat), .int .u64 (lm dx 2 : Nat), .int .u64 (lm dx 3 : Nat), .int .u64 (lm dy 0 : Nat), .int .u64 (lm dy 1 : Nat), .int .u64 (lm dy 2 : Nat), .int .u64 (lm dy 3 : Nat), .bool di], .agg #[.int .u64 (lm cx 0 : Nat), .int .u64 (lm cx 1 : Nat), .int .u64 (lm cx 2 : Nat), .int .u64 (lm cx 3 : Nat), .int .u64 (lm cy 0 : Nat), .int .u64 (lm cy 1 : Nat), .int .u64 (lm cy 2 : Nat), .int .u64 (lm cy 3 : Nat), .bool ci]] w fun e w' => e = .returned (.tuple #[.agg #[.int .u64 (lm sx 0 : Nat), .int .u64 (lm sx 1 : Nat), .int .u64 (lm sx 2 : Nat), .int .u64 (lm sx 3 : Nat), .int .u64 (lm sy 0 : Nat), .int .u64 (lm sy 1 : Nat), .int .u64 (lm sy 2 : Nat), .int .u64 (lm sy 3 : Nat), .bool si], .int .i64 f]) ∧ Chg [] w w')) (w : World) :
    Calls Try.prog 4 #[.agg #[.int .u64 (lm ax 0 : Nat), .int .u64 (lm ax 1 : Nat), .int .u64 (lm ax 2 : Nat), .int .u64 (lm ax 3 : Nat), .int .u64 (lm ay 0 : Nat), .int .u64 (lm ay 1 : Nat), .int .u64 (lm ay 2 : Nat), .int .u64 (lm ay 3 : Nat), .bool ai], .agg #[.int .u64 (lm dx 0 : Nat), .int .u64 (lm dx 1 : Nat), .int .u64 (lm dx 2 : Nat), .int .u64 (lm dx 3 : Nat), .int .u64 (lm dy 0 : Nat), .int .u64 (lm dy 1 : Nat), .int .u64 (lm dy 2 : Nat), .int .u64 (lm dy 3 : Nat), .bool di], .agg #[.int .u64 (lm cx 0 : Nat), .int .u64 (lm cx 1 : Nat), .int .u64 (lm cx 2 : Nat), .int .u64 (lm cx 3 : Nat), .int .u64 (lm cy 0 : Nat), .int .u64 (lm cy 1 : Nat), .int .u64 (lm cy 2 : Nat), .int .u64 (lm cy 3 : Nat), .bool ci]] w fun e w' => e = .returned (.bool true) ∧ Chg [] w w' := by
  have C8 := Lib.hid (fun w => law_g w)
  obtain ⟨W0, hW0⟩ : ∃ W0, (((w.alloc (.cells #[.int .u64 (lm ax 0 : Nat), .int .u64 (lm ax 1 : Nat), .int .u64 (lm ax 2 : Nat), .int .u64 (lm ax 3 : Nat), .int .u64 (lm ay 0 : Nat), .int .u64 (lm ay 1 : Nat), .int .u64 (lm ay 2 : Nat), .int .u64 (lm ay 3 : Nat), .bool ai] 26)).alloc (.cells #[.int .u64 (lm dx 0 : Nat), .int .u64 (lm dx 1 : Nat), .int .u64 (lm dx 2 : Nat), .int .u64 (lm dx 3 : Nat), .int .u64 (lm dy 0 : Nat), .int .u64 (lm dy 1 : Nat), .int .u64 (lm dy 2 : Nat), .int .u64 (lm dy 3 : Nat), .bool di] 26)).alloc (.cells #[.int .u64 (lm cx 0 : Nat), .int .u64 (lm cx 1 : Nat), .int .u64 (lm cx 2 : Nat), .int .u64 (lm cx 3 : Nat), .int .u64 (lm cy 0 : Nat), .int .u64 (lm cy 1 : Nat), .int .u64 (lm cy 2 : Nat), .int .u64 (lm cy 3 : Nat), .bool ci] 26)) = W0 := ⟨_, rfl⟩
  have Ha := Lib.hid (show U9 W0 (w.heap.size) ax ay ai by rw [← hW0]; exact has_alloc (has_alloc (has_alloc_new _ _)))
  have Hd := Lib.hid (show U9 W0 (w.heap.size + 1) dx dy di by rw [← hW0]; exact has_alloc (has_alloc_at (by simp)))
  have Hc := Lib.hid (show U9 W0 (w.heap.size + 1 + 1) cx cy ci by rw [← hW0]; exact has_alloc_at (by simp))
  have HC := Lib.hid (show Chg [] w W0 by rw [← hW0]; exact (((Chg.refl _ _).alloc _).alloc _).alloc _)
  go_enter Try.func4, Try.ntmps4
  go_upto_region 1 with fail
  try rw [hW0]
  clear hW0
  obtain ⟨P0, hP⟩ : ∃ P, w.heap.size = P := ⟨_, rfl⟩
  rw [hP] at Ha Hd Hc ⊢
  replace hP := Lib.hid hP
  obtain ⟨a0, a1, a2, a3, a4, a5, a6, a7, a8⟩ := (Ha.out).all
  obtain ⟨d0, d1, d2, d3, d4, d5, d6, d7, d8⟩ := (Hd.out).all
  go_wp2_with fail
  refine (C1.out _).mono ?_
  rintro e w1 ⟨rfl, hC1⟩
  clear a0 a1 a2 a3 a4 a5 a6 a7 a8
  clear d0 d1 d2 d3 d4 d5 d6 d7 d8
  replace Ha := Lib.hid (Ha.out.chg hC1 nmN)
  replace Hd := Lib.hid (Hd.out.chg hC1 nmN)
  replace Hc := Lib.hid (Hc.out.chg hC1 nmN)
  replace HC := Lib.hid (HC.out.trans hC1)
  clear hC1
  obtain ⟨W1, hW1⟩ : ∃ W1, w1.alloc (.cells #[.int .u64 (lm ux 0 : Nat), .int .u64 (lm ux 1 : Nat), .int .u64 (lm ux 2 : Nat), .int .u64 (lm ux 3 : Nat), .int .u64 (lm uy 0 : Nat), .int .u64 (lm uy 1 : Nat), .int .u64 (lm uy 2 : Nat), .int .u64 (lm uy 3 : Nat), .bool ui] 26) = W1 := ⟨_, rfl⟩
  have hA : Chg [] w1 W1 := by rw [← hW1]; exact (Chg.refl _ _).alloc _
  have hN : U9 W1 w1.heap.size ux uy ui := by rw [← hW1]; exact has_alloc_new _ _
  obtain ⟨b_u, hb⟩ : ∃ b, w1.heap.size = b := ⟨_, rfl⟩
  rw [hb] at hN
  replace Ha := Lib.hid (Ha.out.chg hA nmN)
  replace Hd := Lib.hid (Hd.out.chg hA nmN)
  replace Hc := Lib.hid (Hc.out.chg hA nmN)
  replace HC := Lib.hid (HC.out.trans hA)
  have Hu := Lib.hid hN
  have HW1 := Lib.hid hW1; have Hb := Lib.hid hb
  clear hW1 hb hA hN
  go_upto_region 2 with fail
  try rw [HW1.out]
  try rw [Hb.out]
  clear HW1 Hb
  obtain ⟨d0, d1, d2, d3, d4, d5, d6, d7, d8⟩ := (Hd.out).all
  obtain ⟨a0, a1, a2, a3, a4, a5, a6, a7, a8⟩ := (Ha.out).all
  go_wp2_with fail
  refine (C2.out _).mono ?_
  rintro e w1 ⟨rfl, hC1⟩
  clear d0 d1 d2 d3 d4 d5 d6 d7 d8
  clear a0 a1 a2 a3 a4 a5 a6 a7 a8
  replace Ha := Lib.hid (Ha.out.chg hC1 nmN)
  replace Hd := Lib.hid (Hd.out.chg hC1 nmN)
  replace Hc := Lib.hid (Hc.out.chg hC1 nmN)
  replace HC := Lib.hid (HC.out.trans hC1)
  replace Hu := Lib.hid (Hu.out.chg hC1 nmN)
  clear hC1
  obtain ⟨W1, hW1⟩ : ∃ W1, w1.alloc (.cells #[.int .u64 (lm vx 0 : Nat), .int .u64 (lm vx 1 : Nat), .int .u64 (lm vx 2 : Nat), .int .u64 (lm vx 3 : Nat), .int .u64 (lm vy 0 : Nat), .int .u64 (lm vy 1 : Nat), .int .u64 (lm vy 2 : Nat), .int .u64 (lm vy 3 : Nat), .bool vi] 26) = W1 := ⟨_, rfl⟩
  have hA : Chg [] w1 W1 := by rw [← hW1]; exact (Chg.refl _ _).alloc _
  have hN : U9 W1 w1.heap.size vx vy vi := by rw [← hW1]; exact has_alloc_new _ _
  obtain ⟨b_v, hb⟩ : ∃ b, w1.heap.size = b := ⟨_, rfl⟩
  rw [hb] at hN
  replace Ha := Lib.hid (Ha.out.chg hA nmN)
  replace Hd := Lib.hid (Hd.out.chg hA nmN)
  replace Hc := Lib.hid (Hc.out.chg hA nmN)
  replace HC := Lib.hid (HC.out.trans hA)
  replace Hu := Lib.hid (Hu.out.chg hA nmN)
  have Hv := Lib.hid hN
  have HW1 := Lib.hid hW1; have Hb := Lib.hid hb
  clear hW1 hb hA hN
  go_upto_region 3 with fail
  try rw [HW1.out]
  try rw [Hb.out]
  clear HW1 Hb
  obtain ⟨d0, d1, d2, d3, d4, d5, d6, d7, d8⟩ := (Hd.out).all
  obtain ⟨c0, c1, c2, c3, c4, c5, c6, c7, c8⟩ := (Hc.out).all
  go_wp2_with fail
  refine (C3.out _).mono ?_
  rintro e w1 ⟨rfl, hC1⟩
  clear d0 d1 d2 d3 d4 d5 d6 d7 d8
  clear c0 c1 c2 c3 c4 c5 c6 c7 c8
  replace Ha := Lib.hid (Ha.out.chg hC1 nmN)
  replace Hd := Lib.hid (Hd.out.chg hC1 nmN)
  replace Hc := Lib.hid (Hc.out.chg hC1 nmN)
  replace HC := Lib.hid (HC.out.trans hC1)
  replace Hu := Lib.hid (Hu.out.chg hC1 nmN)
  replace Hv := Lib.hid (Hv.out.chg hC1 nmN)
  clear hC1
  obtain ⟨W1, hW1⟩ : ∃ W1, w1.alloc (.cells #[.int .u64 (lm sx 0 : Nat), .int .u64 (lm sx 1 : Nat), .int .u64 (lm sx 2 : Nat), .int .u64 (lm sx 3 : Nat), .int .u64 (lm sy 0 : Nat), .int .u64 (lm sy 1 : Nat), .int .u64 (lm sy 2 : Nat), .int .u64 (lm sy 3 : Nat), .bool si] 26) = W1 := ⟨_, rfl⟩
  have hA : Chg [] w1 W1 := by rw [← hW1]; exact (Chg.refl _ _).alloc _
  have hN : U9 W1 w1.heap.size sx sy si := by rw [← hW1]; exact has_alloc_new _ _
  obtain ⟨b_s, hb⟩ : ∃ b, w1.heap.size = b := ⟨_, rfl⟩
  rw [hb] at hN
  replace Ha := Lib.hid (Ha.out.chg hA nmN)
  replace Hd := Lib.hid (Hd.out.chg hA nmN)
  replace Hc := Lib.hid (Hc.out.chg hA nmN)
  replace HC := Lib.hid (HC.out.trans hA)
  replace Hu := Lib.hid (Hu.out.chg hA nmN)
  replace Hv := Lib.hid (Hv.out.chg hA nmN)
  have Hs := Lib.hid hN
  have HW1 := Lib.hid hW1; have Hb := Lib.hid hb
  clear hW1 hb hA hN
  go_wp2_with fail
  try rw [HW1.out]
  try rw [Hb.out]
  clear HW1 Hb
  refine (C8.out _).mono ?_
  rintro e w1 ⟨rfl, hC1⟩
  replace Ha := Lib.hid (Ha.out.chg hC1 nmN)
  replace Hd := Lib.hid (Hd.out.chg hC1 nmN)
  replace Hc := Lib.hid (Hc.out.chg hC1 nmN)
  replace HC := Lib.hid (HC.out.trans hC1)
  replace Hu := Lib.hid (Hu.out.chg hC1 nmN)
  replace Hv := Lib.hid (Hv.out.chg hC1 nmN)
  replace Hs := Lib.hid (Hs.out.chg hC1 nmN)
  clear hC1
  go_wp2_with fail
  go_ret
  exact ⟨rfl, HC.out⟩

set_option maxRecDepth 100000 in
set_option maxHeartbeats 8000000 in
theorem group_f {ax ay dx dy cx cy ux uy vx vy sx sy : Nat} {ai di ci ui vi si : Bool} {h : Int} (C1 : Hid (∀ w : World, Calls Try.prog 11 #[.agg #[.int .u64 (lm ax 0 : Nat), .int .u64 (lm ax 1 : Nat), .int .u64 (lm ax 2 : Nat), .int .u64 (lm ax 3 : Nat), .int .u64 (lm ay 0 : Nat), .int .u64 (lm ay 1 : Nat), .int .u64 (lm ay 2 : Nat), .int .u64 (lm ay 3 : Nat), .bool ai], .agg #[.int .u64 (lm dx 0 : Nat), .int .u64 (lm dx 1 : Nat), .int .u64 (lm dx 2 : Nat), .int .u64 (lm dx 3 : Nat), .int .u64 (lm dy 0 : Nat), .int .u64 (lm dy 1 : Nat), .int .u64 (lm dy 2 : Nat), .int .u64 (lm dy 3 : Nat), .bool di]] w fun e w' => e = .returned (.tuple #[.agg #[.int .u64 (lm ux 0 : Nat), .int .u64 (lm ux 1 : Nat), .int .u64 (lm ux 2 : Nat), .int .u64 (lm ux 3 : Nat), .int .u64 (lm uy 0 : Nat), .int .u64 (lm uy 1 : Nat), .int .u64 (lm uy 2 : Nat), .int .u64 (lm uy 3 : Nat), .bool ui], .int .i64 0]) ∧ Chg [] w w'))
    (C2 : Hid (∀ w : World, Calls Try.prog 11 #[.agg #[.int .u64 (lm dx 0 : Nat), .int .u64 (lm dx 1 : Nat), .int .u64 (lm dx 2 : Nat), .int .u64 (lm dx 3 : Nat), .int .u64 (lm dy 0 : Nat), .int .u64 (lm dy 1 : Nat), .int .u64 (lm dy 2 : Nat), .int .u64 (lm dy 3 : Nat), .bool di], .agg #[.int .u64 (lm ax 0 : Nat), .int .u64 (lm ax 1 : Nat), .int .u64 (lm ax 2 : Nat), .int .u64 (lm ax 3 : Nat), .int .u64 (lm ay 0 : Nat), .int .u64 (lm ay 1 : Nat), .int .u64 (lm ay 2 : Nat), .int .u64 (lm ay 3 : Nat), .bool ai]] w fun e w' => e = .returned (.tuple #[.agg #[.int .u64 (lm vx 0 : Nat), .int .u64 (lm vx 1 : Nat), .int .u64 (lm vx 2 : Nat), .int .u64 (lm vx 3 : Nat), .int .u64 (lm vy 0 : Nat), .int .u64 (lm vy 1 : Nat), .int .u64 (lm vy 2 : Nat), .int .u64 (lm vy 3 : Nat), .bool vi], .int .i64 h]) ∧ Chg [] w w'))
    (C3 : Hid (∀ w : World, Calls Try.prog 11 #[.agg #[.int .u64 (lm dx 0 : Nat), .int .u64 (lm dx 1 : Nat), .int .u64 (lm dx 2 : Nat), .int .u64 (lm dx 3 : Nat), .int .u64 (lm dy 0 : Nat), .int .u64 (lm dy 1 : Nat), .int .u64 (lm dy 2 : Nat), .int .u64 (lm dy 3 : Nat), .bool di], .agg #[.int .u64 (lm cx 0 : Nat), .int .u64 (lm cx 1 : Nat), .int .u64 (lm cx 2 : Nat), .int .u64 (lm cx 3 : Nat), .int .u64 (lm cy 0 : Nat), .int .u64 (lm cy 1 : Nat), .int .u64 (lm cy 2 : Nat), .int .u64 (lm cy 3 : Nat), .bool ci]] w fun e w' => e = .returned (.tuple #[.agg #[.int .u64 (lm sx 0 : Nat), .int .u64 (lm sx 1 : Nat), .int .u64 (lm sx 2 : Nat), .int .u64 (lm sx 3 : Nat), .int .u64 (lm sy 0 : Nat), .int .u64 (lm sy 1 : Nat), .int .u64 (lm sy 2 : Nat), .int .u64 (lm sy 3 : Nat), .bool si], .int .i64 30]) ∧ Chg [] w w')) (w : World) :
    Calls Try.prog 4 #[.agg #[.int .u64 (lm ax 0 : Nat), .int .u64 (lm ax 1 : Nat), .int .u64 (lm ax 2 : Nat), .int .u64 (lm ax 3 : Nat), .int .u64 (lm ay 0 : Nat), .int .u64 (lm ay 1 : Nat), .int .u64 (lm ay 2 : Nat), .int .u64 (lm ay 3 : Nat), .bool ai], .agg #[.int .u64 (lm dx 0 : Nat), .int .u64 (lm dx 1 : Nat), .int .u64 (lm dx 2 : Nat), .int .u64 (lm dx 3 : Nat), .int .u64 (lm dy 0 : Nat), .int .u64 (lm dy 1 : Nat), .int .u64 (lm dy 2 : Nat), .int .u64 (lm dy 3 : Nat), .bool di], .agg #[.int .u64 (lm cx 0 : Nat), .int .u64 (lm cx 1 : Nat), .int .u64 (lm cx 2 : Nat), .int .u64 (lm cx 3 : Nat), .int .u64 (lm cy 0 : Nat), .int .u64 (lm cy 1 : Nat), .int .u64 (lm cy 2 : Nat), .int .u64 (lm cy 3 : Nat), .bool ci]] w fun e w' => e = .returned (.bool true) ∧ Chg [] w w' := by
  have C8 := Lib.hid (fun w => law_g w)
  obtain ⟨W0, hW0⟩ : ∃ W0, (((w.alloc (.cells #[.int .u64 (lm ax 0 : Nat), .int .u64 (lm ax 1 : Nat), .int .u64 (lm ax 2 : Nat), .int .u64 (lm ax 3 : Nat), .int .u64 (lm ay 0 : Nat), .int .u64 (lm ay 1 : Nat), .int .u64 (lm ay 2 : Nat), .int .u64 (lm ay 3 : Nat), .bool ai] 26)).alloc (.cells #[.int .u64 (lm dx 0 : Nat), .int .u64 (lm dx 1 : Nat), .int .u64 (lm dx 2 : Nat), .int .u64 (lm dx 3 : Nat), .int .u64 (lm dy 0 : Nat), .int .u64 (lm dy 1 : Nat), .int .u64 (lm dy 2 : Nat), .int .u64 (lm dy 3 : Nat), .bool di] 26)).alloc (.cells #[.int .u64 (lm cx 0 : Nat), .int .u64 (lm cx 1 : Nat), .int .u64 (lm cx 2 : Nat), .int .u64 (lm cx 3 : Nat), .int .u64 (lm cy 0 : Nat), .int .u64 (lm cy 1 : Nat), .int .u64 (lm cy 2 : Nat), .int .u64 (lm cy 3 : Nat), .bool ci] 26)) = W0 := ⟨_, rfl⟩
  have Ha := Lib.hid (show U9 W0 (w.heap.size) ax ay ai by rw [← hW0]; exact has_alloc (has_alloc (has_alloc_new _ _)))
  have Hd := Lib.hid (show U9 W0 (w.heap.size + 1) dx dy di by rw [← hW0]; exact has_alloc (has_alloc_at (by simp)))
  have Hc := Lib.hid (show U9 W0 (w.heap.size + 1 + 1) cx cy ci by rw [← hW0]; exact has_alloc_at (by simp))
  have HC := Lib.hid (show Chg [] w W0 by rw [← hW0]; exact (((Chg.refl _ _).alloc _).alloc _).alloc _)
  go_enter Try.func4, Try.ntmps4
  go_upto_region 1 with fail
  try rw [hW0]
  clear hW0
  obtain ⟨P0, hP⟩ : ∃ P, w.heap.size = P := ⟨_, rfl⟩
  rw [hP] at Ha Hd Hc ⊢
  replace hP := Lib.hid hP
  obtain ⟨a0, a1, a2, a3, a4, a5, a6, a7, a8⟩ := (Ha.out).all
  obtain ⟨d0, d1, d2, d3, d4, d5, d6, d7, d8⟩ := (Hd.out).all
  go_wp2_with fail
  refine (C1.out _).mono ?_
  rintro e w1 ⟨rfl, hC1⟩
  clear a0 a1 a2 a3 a4 a5 a6 a7 a8
  clear d0 d1 d2 d3 d4 d5 d6 d7 d8
  replace Ha := Lib.hid (Ha.out.chg hC1 nmN)
  replace Hd := Lib.hid (Hd.out.chg hC1 nmN)
  replace Hc := Lib.hid (Hc.out.chg hC1 nmN)
  replace HC := Lib.hid (HC.out.trans hC1)
  clear hC1
  obtain ⟨W1, hW1⟩ : ∃ W1, w1.alloc (.cells #[.int .u64 (lm ux 0 : Nat), .int .u64 (lm ux 1 : Nat), .int .u64 (lm ux 2 : Nat), .int .u64 (lm ux 3 : Nat), .int .u64 (lm uy 0 : Nat), .int .u64 (lm uy 1 : Nat), .int .u64 (lm uy 2 : Nat), .int .u64 (lm uy 3 : Nat), .bool ui] 26) = W1 := ⟨_, rfl⟩
  have hA : Chg [] w1 W1 := by rw [← hW1]; exact (Chg.refl _ _).alloc _
  have hN : U9 W1 w1.heap.size ux uy ui := by rw [← hW1]; exact has_alloc_new _ _
  obtain ⟨b_u, hb⟩ : ∃ b, w1.heap.size = b := ⟨_, rfl⟩
  rw [hb] at hN
  replace Ha := Lib.hid (Ha.out.chg hA nmN)
  replace Hd := Lib.hid (Hd.out.chg hA nmN)
  replace Hc := Lib.hid (Hc.out.chg hA nmN)
  replace HC := Lib.hid (HC.out.trans hA)
  have Hu := Lib.hid hN
  have HW1 := Lib.hid hW1; have Hb := Lib.hid hb
  clear hW1 hb hA hN
  go_upto_region 2 with fail
  try rw [HW1.out]
  try rw [Hb.out]
  clear HW1 Hb
  obtain ⟨d0, d1, d2, d3, d4, d5, d6, d7, d8⟩ := (Hd.out).all
  obtain ⟨a0, a1, a2, a3, a4, a5, a6, a7, a8⟩ := (Ha.out).all
  go_wp2_with fail
  refine (C2.out _).mono ?_
  rintro e w1 ⟨rfl, hC1⟩
  clear d0 d1 d2 d3 d4 d5 d6 d7 d8
  clear a0 a1 a2 a3 a4 a5 a6 a7 a8
  replace Ha := Lib.hid (Ha.out.chg hC1 nmN)
  replace Hd := Lib.hid (Hd.out.chg hC1 nmN)
  replace Hc := Lib.hid (Hc.out.chg hC1 nmN)
  replace HC := Lib.hid (HC.out.trans hC1)
  replace Hu := Lib.hid (Hu.out.chg hC1 nmN)
  clear hC1
  obtain ⟨W1, hW1⟩ : ∃ W1, w1.alloc (.cells #[.int .u64 (lm vx 0 : Nat), .int .u64 (lm vx 1 : Nat), .int .u64 (lm vx 2 : Nat), .int .u64 (lm vx 3 : Nat), .int .u64 (lm vy 0 : Nat), .int .u64 (lm vy 1 : Nat), .int .u64 (lm vy 2 : Nat), .int .u64 (lm vy 3 : Nat), .bool vi] 26) = W1 := ⟨_, rfl⟩
  have hA : Chg [] w1 W1 := by rw [← hW1]; exact (Chg.refl _ _).alloc _
  have hN : U9 W1 w1.heap.size vx vy vi := by rw [← hW1]; exact has_alloc_new _ _
  obtain ⟨b_v, hb⟩ : ∃ b, w1.heap.size = b := ⟨_, rfl⟩
  rw [hb] at hN
  replace Ha := Lib.hid (Ha.out.chg hA nmN)
  replace Hd := Lib.hid (Hd.out.chg hA nmN)
  replace Hc := Lib.hid (Hc.out.chg hA nmN)
  replace HC := Lib.hid (HC.out.trans hA)
  replace Hu := Lib.hid (Hu.out.chg hA nmN)
  have Hv := Lib.hid hN
  have HW1 := Lib.hid hW1; have Hb := Lib.hid hb
  clear hW1 hb hA hN
  go_upto_region 3 with fail
  try rw [HW1.out]
  try rw [Hb.out]
  clear HW1 Hb
  obtain ⟨d0, d1, d2, d3, d4, d5, d6, d7, d8⟩ := (Hd.out).all
  obtain ⟨c0, c1, c2, c3, c4, c5, c6, c7, c8⟩ := (Hc.out).all
  go_wp2_with fail
  refine (C3.out _).mono ?_
  rintro e w1 ⟨rfl, hC1⟩
  clear d0 d1 d2 d3 d4 d5 d6 d7 d8
  clear c0 c1 c2 c3 c4 c5 c6 c7 c8
  replace Ha := Lib.hid (Ha.out.chg hC1 nmN)
  replace Hd := Lib.hid (Hd.out.chg hC1 nmN)
  replace Hc := Lib.hid (Hc.out.chg hC1 nmN)
  replace HC := Lib.hid (HC.out.trans hC1)
  replace Hu := Lib.hid (Hu.out.chg hC1 nmN)
  replace Hv := Lib.hid (Hv.out.chg hC1 nmN)
  clear hC1
  obtain ⟨W1, hW1⟩ : ∃ W1, w1.alloc (.cells #[.int .u64 (lm sx 0 : Nat), .int .u64 (lm sx 1 : Nat), .int .u64 (lm sx 2 : Nat), .int .u64 (lm sx 3 : Nat), .int .u64 (lm sy 0 : Nat), .int .u64 (lm sy 1 : Nat), .int .u64 (lm sy 2 : Nat), .int .u64 (lm sy 3 : Nat), .bool si] 26) = W1 := ⟨_, rfl⟩
  have hA : Chg [] w1 W1 := by rw [← hW1]; exact (Chg.refl _ _).alloc _
  have hN : U9 W1 w1.heap.size sx sy si := by rw [← hW1]; exact has_alloc_new _ _
  obtain ⟨b_s, hb⟩ : ∃ b, w1.heap.size = b := ⟨_, rfl⟩
  rw [hb] at hN
  replace Ha := Lib.hid (Ha.out.chg hA nmN)
  replace Hd := Lib.hid (Hd.out.chg hA nmN)
  replace Hc := Lib.hid (Hc.out.chg hA nmN)
  replace HC := Lib.hid (HC.out.trans hA)
  replace Hu := Lib.hid (Hu.out.chg hA nmN)
  replace Hv := Lib.hid (Hv.out.chg hA nmN)
  have Hs := Lib.hid hN
  have HW1 := Lib.hid hW1; have Hb := Lib.hid hb
  clear hW1 hb hA hN
  go_wp2_with fail
  try rw [HW1.out]
  try rw [Hb.out]
  clear HW1 Hb
  refine (C8.out _).mono ?_
  rintro e w1 ⟨rfl, hC1⟩
  replace Ha := Lib.hid (Ha.out.chg hC1 nmN)
  replace Hd := Lib.hid (Hd.out.chg hC1 nmN)
  replace Hc := Lib.hid (Hc.out.chg hC1 nmN)
  replace HC := Lib.hid (HC.out.trans hC1)
  replace Hu := Lib.hid (Hu.out.chg hC1 nmN)
  replace Hv := Lib.hid (Hv.out.chg hC1 nmN)
  replace Hs := Lib.hid (Hs.out.chg hC1 nmN)
  clear hC1
  go_wp2_with fail
  go_ret
  exact ⟨rfl, HC.out⟩

end Go.Proofs.Ytplldbmjdnikeaa
