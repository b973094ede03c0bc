/- CurveOrder: the walk and the law; the law's help 'in'. Printed by lawg.py. -/
import Derived.Test.YtplldbmjdnikeaaLawD
import Derived.Test.YtplldbmjdnikeaaOrd
namespace Go.Proofs.Ytplldbmjdnikeaa
set_option linter.unusedVariables false
set_option linter.unusedSimpArgs false
open Go.RowKit Go.WideShapes Go.ChangeShapes

theorem lmh {a k : Nat} (ha : a < B6 ^ 4) (hk : 4 ≤ k) : ((lm a k : Nat) : Int) = 0 := by
  have h : lm a k = 0 := by
    unfold lm
    have : B6 ^ 4 ≤ B6 ^ k := Nat.pow_le_pow_right (by decide) hk
    rw [Nat.div_eq_of_lt (by omega), Nat.zero_mod]
  rw [h]; rfl
set_option maxRecDepth 100000 in
set_option maxHeartbeats 8000000 in
theorem law_in {a : Nat} (ha : a < B6 ^ 4) (w : World) :
    Calls Try.prog 22 #[.agg #[.int .u64 (lm a 0 : Nat), .int .u64 (lm a 1 : Nat), .int .u64 (lm a 2 : Nat), .int .u64 (lm a 3 : Nat)]] w fun e w' => e = .returned (.agg #[.int .u64 (lm (a % QQ) 0 : Nat), .int .u64 (lm (a % QQ) 1 : Nat), .int .u64 (lm (a % QQ) 2 : Nat), .int .u64 (lm (a % QQ) 3 : Nat)]) ∧ Chg [] w w' := by
  have hsc := ref_scalars
  have hrd := fun w => ref_reduce dc_Q a (Nat.lt_trans ha (by decide +kernel)) w
  rw [lmh ha (Nat.le_refl 4), lmh ha (show 4 ≤ 5 by omega), lmh ha (show 4 ≤ 6 by omega), lmh ha (show 4 ≤ 7 by omega)] at hrd
  obtain ⟨z, hz⟩ : ∃ z, a % QQ = z := ⟨_, rfl⟩
  rw [hz] at hrd ⊢
  unfold dcCells at hsc hrd
  have HSc := Lib.hid hsc; have HRd := Lib.hid hrd
  clear hsc hrd hz ha
  obtain ⟨W0, hW0⟩ : ∃ W0, (w.alloc (.cells #[.int .u64 (lm a 0 : Nat), .int .u64 (lm a 1 : Nat), .int .u64 (lm a 2 : Nat), .int .u64 (lm a 3 : Nat)] 24)).alloc (.cells #[.int .u64 0, .int .u64 0, .int .u64 0, .int .u64 0] 24) = W0 := ⟨_, rfl⟩
  obtain ⟨B, hB⟩ : ∃ B, w.heap.size = B := ⟨_, rfl⟩
  have HA := Lib.hid (show U4 W0 B 24 (lm a) by rw [← hW0, ← hB]; exact has_alloc (has_alloc_new _ _))
  have HR := Lib.hid (show U4 W0 (B + 1) 24 (fun _ => 0) by rw [← hW0, ← hB]; exact has_alloc_at (by simp))
  have HC := Lib.hid (show Chg [] w W0 by rw [← hW0]; exact ((Chg.refl _ _).alloc _).alloc _)
  go_enter Try.func22, Try.ntmps22
  go_wp2_with fail
  try rw [hW0]
  obtain ⟨R, hRe⟩ : ∃ R, B + 1 = R := ⟨_, rfl⟩
  rw [hRe] at HR ⊢
  have HwR := Lib.hid (show w.heap.size ≤ R by omega)
  clear hW0 hB hRe
  refine (HSc.out _).mono ?_
  rintro e w1 ⟨rfl, hC1⟩
  obtain ⟨W1, hW1⟩ : ∃ W1, w1.alloc (.cells #[.int .u64 (lm QQ 0 : Nat), .int .u64 (lm QQ 1 : Nat), .int .u64 (lm QQ 2 : Nat), .int .u64 (lm QQ 3 : Nat), .int .u64 (lm cQ 0 : Nat), .int .u64 (lm cQ 1 : Nat), .int .u64 (lm cQ 2 : Nat), .int .u64 (lm cQ 3 : Nat)] 76) = W1 := ⟨_, rfl⟩
  have hA : Chg [] w1 W1 := by rw [← hW1]; exact (Chg.refl _ _).alloc _
  have hN : UD W1 w1.heap.size QQ cQ := by rw [← hW1]; exact has_alloc_new _ _
  obtain ⟨D, hb⟩ : ∃ b, w1.heap.size = b := ⟨_, rfl⟩
  rw [hb] at hN
  replace HA := Lib.hid ((HA.out.chg hC1 nmN).chg hA nmN)
  replace HR := Lib.hid ((HR.out.chg hC1 nmN).chg hA nmN)
  replace HC := Lib.hid ((HC.out.trans hC1).trans hA)
  have HD := Lib.hid hN
  have HW1 := Lib.hid hW1; have Hb := Lib.hid hb
  clear hW1 hb hA hN hC1 HSc
  go_upto_region 2 with fail
  try rw [HW1.out]
  try rw [Hb.out]
  clear HW1 Hb
  obtain ⟨D0, D1, D2, D3⟩ := four4 fun _ => (HD.out).cm; obtain ⟨D4, D5, D6, D7⟩ := four4 fun _ => (HD.out).cc
  obtain ⟨a0, a1, a2, a3⟩ := four4 fun _ => HA.out.cell
  go_wp2_with fail
  refine (HRd.out _).mono ?_
  rintro e w2 ⟨rfl, hC1⟩
  have hR9 := HR.out.chg hC1 nmN
  have hC9 := HC.out.trans hC1
  clear D0 D1 D2 D3 D4 D5 D6 D7 a0 a1 a2 a3 hC1 HA HD HR HC
  have q0 := hR9.cell (k := 0) (by omega); have qz0 := hR9.fz 0; have q1 := hR9.cell (k := 1) (by omega); have qz1 := hR9.fz 1; have q2 := hR9.cell (k := 2) (by omega); have qz2 := hR9.fz 2; have q3 := hR9.cell (k := 3) (by omega); have qz3 := hR9.fz 3
  have hll := hR9.lt
  have HF9 := Lib.hid (hR9.put (lm z)); have HCF := Lib.hid (hC9.put4 (b := R) (Or.inr HwR.out) (lm z))
  clear hR9 hC9
  go_wp2_with fail
  have hF := HF9.out; have hCF := HCF.out
  refine (id ?_ : bodyPost _ _ _ _ _ (put4 w2 R (lm z)))
  clear HF9 HCF
  generalize put4 w2 R (lm z) = W5 at *
  obtain ⟨g0, g1, g2, g3⟩ := four4 fun _ => hF.cell
  exact bodyPost_ret (v := .agg #[.int .u64 (lm z 0 : Nat), .int .u64 (lm z 1 : Nat), .int .u64 (lm z 2 : Nat), .int .u64 (lm z 3 : Nat)]) (by simp [results, Try.results22, go_sem, g0, g1, g2, g3]) rfl ⟨rfl, hCF⟩

set_option maxRecDepth 100000 in
set_option maxHeartbeats 8000000 in
theorem order_off {k px py : Nat} {pi : Bool} (C1 : Hid (∀ w, Calls Try.prog 14 #[.agg #[.int .u64 (lm px 0 : Nat), .int .u64 (lm px 1 : Nat), .int .u64 (lm px 2 : Nat), .int .u64 (lm px 3 : Nat), .int .u64 (lm py 0 : Nat), .int .u64 (lm py 1 : Nat), .int .u64 (lm py 2 : Nat), .int .u64 (lm py 3 : Nat), .bool pi]] w fun e w' => e = .returned (.bool false) ∧ Chg [] w w')) (w : World) :
    Calls Try.prog 8 #[.agg #[.int .u64 (lm k 0 : Nat), .int .u64 (lm k 1 : Nat), .int .u64 (lm k 2 : Nat), .int .u64 (lm k 3 : Nat)], .agg #[.int .u64 (lm px 0 : Nat), .int .u64 (lm px 1 : Nat), .int .u64 (lm px 2 : Nat), .int .u64 (lm px 3 : Nat), .int .u64 (lm py 0 : Nat), .int .u64 (lm py 1 : Nat), .int .u64 (lm py 2 : Nat), .int .u64 (lm py 3 : Nat), .bool pi]] w fun x w' => x = .returned (.bool true) ∧ Chg [] w w' := by
  have C8 := Lib.hid fun w => law_g w
  obtain ⟨W0, hW0⟩ : ∃ W0, ((w.alloc (.cells #[.int .u64 (lm k 0 : Nat), .int .u64 (lm k 1 : Nat), .int .u64 (lm k 2 : Nat), .int .u64 (lm k 3 : Nat)] 24)).alloc (.cells #[.int .u64 (lm px 0 : Nat), .int .u64 (lm px 1 : Nat), .int .u64 (lm px 2 : Nat), .int .u64 (lm px 3 : Nat), .int .u64 (lm py 0 : Nat), .int .u64 (lm py 1 : Nat), .int .u64 (lm py 2 : Nat), .int .u64 (lm py 3 : Nat), .bool pi] 26)) = W0 := ⟨_, rfl⟩
  obtain ⟨B, hB⟩ : ∃ B, w.heap.size = B := ⟨_, rfl⟩
  have Hk := Lib.hid (show U4 W0 (B) 24 (lm k) by rw [← hW0, ← hB]; exact has_alloc (has_alloc_new _ _))
  have Hp := Lib.hid (show U9 W0 (B + 1) px py pi by rw [← hW0, ← hB]; exact has_alloc_at (by simp))
  have HC := Lib.hid (show Chg [] w W0 by rw [← hW0]; exact ((Chg.refl _ _).alloc _).alloc _)
  go_enter Try.func8, Try.ntmps8
  go_upto_region 1 with fail
  try rw [hW0]
  try rw [hB]
  clear hW0 hB
  obtain ⟨p0, p1, p2, p3, p4, p5, p6, p7, p8⟩ := Hp.out.all
  go_wp2_with fail
  refine (C1.out _).mono ?_
  rintro e w1 ⟨rfl, hC1⟩
  clear p0 p1 p2 p3 p4 p5 p6 p7 p8
  replace Hk := Lib.hid (Hk.out.chg hC1 nmN)
  replace Hp := Lib.hid (Hp.out.chg hC1 nmN)
  replace HC := Lib.hid (HC.out.trans hC1)
  clear hC1
  go_wp2_with fail
  refine (C8.out _).mono ?_
  rintro e w1 ⟨rfl, hC1⟩
  replace Hk := Lib.hid (Hk.out.chg hC1 nmN)
  replace Hp := Lib.hid (Hp.out.chg hC1 nmN)
  replace HC := Lib.hid (HC.out.trans hC1)
  clear hC1
  go_wp2_with fail
  go_ret
  exact ⟨rfl, HC.out⟩
set_option maxRecDepth 100000 in
set_option maxHeartbeats 8000000 in
theorem order_on {k : Nat} (hk : k < B6 ^ 4) {P : Pc} (hP : P.on 7) (w : World) :
    Calls Try.prog 8 #[.agg #[.int .u64 (lm k 0 : Nat), .int .u64 (lm k 1 : Nat), .int .u64 (lm k 2 : Nat), .int .u64 (lm k 3 : Nat)], .agg (pv (ofP P))] w fun x w' => x = .returned (.bool true) ∧ Chg [] w w' := by
  have C8 := Lib.hid fun w => law_g w
  have c1 := fun w => is_ok hP w
  have c2 := fun w => law_in hk w
  have hlast : (0 + QQ - 1) % QQ = QQ - 1 := by decide +kernel
  have c3 := fun f fa w hF => field_neg (f := f) (a := fa) (root := 0) way_Q way_Q.one w hF
  rw [num_one, hlast] at c3
  have hzQ : k % QQ < QQ := Nat.mod_lt _ (by decide)
  obtain ⟨z, hz⟩ : ∃ z, k % QQ = z := ⟨_, rfl⟩
  rw [hz] at c2 hzQ
  have c4 := fun w => curve_mul (k := QQ - 1) (p := ofP P) (P := P) (e := 0) (.fine (by decide) hP rfl) w
  have c5 := fun w => curve_neg hP w
  have c6 := fun w => curve_mul (k := z) (p := ofP P) (P := P) (e := 0) (.fine hzQ hP rfl) w
  have c7 := fun w => curve_mul (k := z) (p := ofP P.neg) (P := P.neg) (e := 0) (.fine hzQ (on_neg hP) rfl) w
  have c9 := fun w => curve_neg (mulP_on hP z) w
  rw [show mulV 0 (QQ - 1) P = ofP (mulP (QQ - 1) P) from if_pos rfl, mul_last hP] at c4
  rw [show mulV 0 z P = ofP (mulP z P) from if_pos rfl] at c6
  rw [show mulV 0 z P.neg = ofP (mulP z P.neg) from if_pos rfl, mulP_neg hP] at c7
  have ln := ofP_lt P.neg
  have ly := ofP_lt (mulP z P).neg
  generalize QQ - 1 = last at *
  obtain ⟨px, hpx⟩ : ∃ t, (ofP P).x = t := ⟨_, rfl⟩
  obtain ⟨py, hpy⟩ : ∃ t, (ofP P).y = t := ⟨_, rfl⟩
  obtain ⟨pi, hpi⟩ : ∃ t, (ofP P).inf = t := ⟨_, rfl⟩
  have ep : pv (ofP P) = #[.int .u64 (lm px 0 : Nat), .int .u64 (lm px 1 : Nat), .int .u64 (lm px 2 : Nat), .int .u64 (lm px 3 : Nat), .int .u64 (lm py 0 : Nat), .int .u64 (lm py 1 : Nat), .int .u64 (lm py 2 : Nat), .int .u64 (lm py 3 : Nat), .bool pi] := by unfold pv; rw [hpx, hpy, hpi]
  obtain ⟨nx, hnx⟩ : ∃ t, (ofP P.neg).x = t := ⟨_, rfl⟩
  obtain ⟨ny, hny⟩ : ∃ t, (ofP P.neg).y = t := ⟨_, rfl⟩
  obtain ⟨ni, hni⟩ : ∃ t, (ofP P.neg).inf = t := ⟨_, rfl⟩
  have en : pv (ofP P.neg) = #[.int .u64 (lm nx 0 : Nat), .int .u64 (lm nx 1 : Nat), .int .u64 (lm nx 2 : Nat), .int .u64 (lm nx 3 : Nat), .int .u64 (lm ny 0 : Nat), .int .u64 (lm ny 1 : Nat), .int .u64 (lm ny 2 : Nat), .int .u64 (lm ny 3 : Nat), .bool ni] := by unfold pv; rw [hnx, hny, hni]
  obtain ⟨xx, hxx⟩ : ∃ t, (ofP (mulP z P)).x = t := ⟨_, rfl⟩
  obtain ⟨xy, hxy⟩ : ∃ t, (ofP (mulP z P)).y = t := ⟨_, rfl⟩
  obtain ⟨xi, hxi⟩ : ∃ t, (ofP (mulP z P)).inf = t := ⟨_, rfl⟩
  have ex : pv (ofP (mulP z P)) = #[.int .u64 (lm xx 0 : Nat), .int .u64 (lm xx 1 : Nat), .int .u64 (lm xx 2 : Nat), .int .u64 (lm xx 3 : Nat), .int .u64 (lm xy 0 : Nat), .int .u64 (lm xy 1 : Nat), .int .u64 (lm xy 2 : Nat), .int .u64 (lm xy 3 : Nat), .bool xi] := by unfold pv; rw [hxx, hxy, hxi]
  obtain ⟨yx, hyx⟩ : ∃ t, (ofP (mulP z P).neg).x = t := ⟨_, rfl⟩
  obtain ⟨yy, hyy⟩ : ∃ t, (ofP (mulP z P).neg).y = t := ⟨_, rfl⟩
  obtain ⟨yi, hyi⟩ : ∃ t, (ofP (mulP z P).neg).inf = t := ⟨_, rfl⟩
  have ey : pv (ofP (mulP z P).neg) = #[.int .u64 (lm yx 0 : Nat), .int .u64 (lm yx 1 : Nat), .int .u64 (lm yx 2 : Nat), .int .u64 (lm yx 3 : Nat), .int .u64 (lm yy 0 : Nat), .int .u64 (lm yy 1 : Nat), .int .u64 (lm yy 2 : Nat), .int .u64 (lm yy 3 : Nat), .bool yi] := by unfold pv; rw [hyx, hyy, hyi]
  rw [ep] at c1 c4 c5 c6 ⊢
  rw [en] at c4 c5 c7
  rw [ex] at c6 c9
  rw [ey] at c7 c9
  rw [hnx, hny] at ln
  rw [hyx, hyy] at ly
  unfold num limbs at c3
  have en1 := fun w => num_eq9 ln.1 ln.1 w
  have en2 := fun w => num_eq9 ln.2 ln.2 w
  simp only [decide_true] at en1 en2
  have ey1 := fun w => num_eq9 ly.1 ly.1 w
  have ey2 := fun w => num_eq9 ly.2 ly.2 w
  simp only [decide_true] at ey1 ey2
  have C1 := Lib.hid c1; have C2 := Lib.hid c2; have C3 := Lib.hid c3; have C4 := Lib.hid c4; have C5 := Lib.hid c5; have C6 := Lib.hid c6; have C7 := Lib.hid c7; have C9 := Lib.hid c9
  clear c1 c2 c3 c4 c5 c6 c7 c9 hlast hzQ hz ln ly hk hP hpx hpy hpi ep hnx hny hni en hxx hxy hxi ex hyx hyy hyi ey
  obtain ⟨W0, hW0⟩ : ∃ W0, ((w.alloc (.cells #[.int .u64 (lm k 0 : Nat), .int .u64 (lm k 1 : Nat), .int .u64 (lm k 2 : Nat), .int .u64 (lm k 3 : Nat)] 24)).alloc (.cells #[.int .u64 (lm px 0 : Nat), .int .u64 (lm px 1 : Nat), .int .u64 (lm px 2 : Nat), .int .u64 (lm px 3 : Nat), .int .u64 (lm py 0 : Nat), .int .u64 (lm py 1 : Nat), .int .u64 (lm py 2 : Nat), .int .u64 (lm py 3 : Nat), .bool pi] 26)) = W0 := ⟨_, rfl⟩
  obtain ⟨B, hB⟩ : ∃ B, w.heap.size = B := ⟨_, rfl⟩
  have Hk := Lib.hid (show U4 W0 (B) 24 (lm k) by rw [← hW0, ← hB]; exact has_alloc (has_alloc_new _ _))
  have Hp := Lib.hid (show U9 W0 (B + 1) px py pi by rw [← hW0, ← hB]; exact has_alloc_at (by simp))
  have HC := Lib.hid (show Chg [] w W0 by rw [← hW0]; exact ((Chg.refl _ _).alloc _).alloc _)
  go_enter Try.func8, Try.ntmps8
  go_upto_region 1 with fail
  try rw [hW0]
  try rw [hB]
  clear hW0 hB
  obtain ⟨p0, p1, p2, p3, p4, p5, p6, p7, p8⟩ := Hp.out.all
  go_wp2_with fail
  refine (C1.out _).mono ?_
  rintro e w1 ⟨rfl, hC1⟩
  clear p0 p1 p2 p3 p4 p5 p6 p7 p8
  replace Hk := Lib.hid (Hk.out.chg hC1 nmN)
  replace Hp := Lib.hid (Hp.out.chg hC1 nmN)
  replace HC := Lib.hid (HC.out.trans hC1)
  clear hC1
  obtain ⟨k0, k1, k2, k3⟩ := four4 fun _ => Hk.out.cell
  go_wp2_with fail
  refine (C2.out _).mono ?_
  rintro e w1 ⟨rfl, hC1⟩
  clear k0 k1 k2 k3
  replace Hk := Lib.hid (Hk.out.chg hC1 nmN)
  replace Hp := Lib.hid (Hp.out.chg hC1 nmN)
  replace HC := Lib.hid (HC.out.trans hC1)
  clear hC1
  obtain ⟨W1, hW1⟩ : ∃ W1, w1.alloc (.cells #[.int .u64 (lm z 0 : Nat), .int .u64 (lm z 1 : Nat), .int .u64 (lm z 2 : Nat), .int .u64 (lm z 3 : Nat)] 24) = W1 := ⟨_, rfl⟩
  have hA : Chg [] w1 W1 := by rw [← hW1]; exact (Chg.refl _ _).alloc _
  obtain ⟨b_a, hb⟩ : ∃ b, w1.heap.size = b := ⟨_, rfl⟩
  have hN : U4 W1 (b_a) 24 (lm z) := by rw [← hb, ← hW1]; exact has_alloc_new _ _
  replace Hk := Lib.hid (Hk.out.chg hA nmN)
  replace Hp := Lib.hid (Hp.out.chg hA nmN)
  replace HC := Lib.hid (HC.out.trans hA)
  have Ha := Lib.hid hN
  have HW1 := Lib.hid hW1; have Hb := Lib.hid hb
  clear hW1 hb hA hN
  go_upto_region 4 with fail
  try rw [HW1.out]
  try rw [Hb.out]
  clear HW1 Hb
  go_wp2_with fail
  refine (field_scalars _).mono ?_
  rintro e w1 ⟨f, fa, rfl, hC1, hF⟩
  replace Hk := Lib.hid (Hk.out.chg hC1 nmN)
  replace Hp := Lib.hid (Hp.out.chg hC1 nmN)
  replace Ha := Lib.hid (Ha.out.chg hC1 nmN)
  replace HC := Lib.hid (HC.out.trans hC1)
  have HF := Lib.hid hF
  clear hC1 hF
  go_wp2_with fail
  refine (C3.out _ _ _ HF.out).mono ?_
  rintro e w1 ⟨rfl, hC1⟩
  replace Hk := Lib.hid (Hk.out.chg hC1 nmN)
  replace Hp := Lib.hid (Hp.out.chg hC1 nmN)
  replace Ha := Lib.hid (Ha.out.chg hC1 nmN)
  replace HC := Lib.hid (HC.out.trans hC1)
  clear hC1
  obtain ⟨W1, hW1⟩ : ∃ W1, w1.alloc (.cells #[.int .u64 (lm last 0 : Nat), .int .u64 (lm last 1 : Nat), .int .u64 (lm last 2 : Nat), .int .u64 (lm last 3 : Nat)] 24) = W1 := ⟨_, rfl⟩
  have hA : Chg [] w1 W1 := by rw [← hW1]; exact (Chg.refl _ _).alloc _
  obtain ⟨b_l, hb⟩ : ∃ b, w1.heap.size = b := ⟨_, rfl⟩
  have hN : U4 W1 (b_l) 24 (lm last) := by rw [← hb, ← hW1]; exact has_alloc_new _ _
  replace Hk := Lib.hid (Hk.out.chg hA nmN)
  replace Hp := Lib.hid (Hp.out.chg hA nmN)
  replace Ha := Lib.hid (Ha.out.chg hA nmN)
  replace HC := Lib.hid (HC.out.trans hA)
  have Hl := Lib.hid hN
  have HW1 := Lib.hid hW1; have Hb := Lib.hid hb
  clear hW1 hb hA hN
  go_upto_region 5 with fail
  try rw [HW1.out]
  try rw [Hb.out]
  clear HW1 Hb
  obtain ⟨l0, l1, l2, l3⟩ := four4 fun _ => Hl.out.cell
  obtain ⟨p0, p1, p2, p3, p4, p5, p6, p7, p8⟩ := Hp.out.all
  go_wp2_with fail
  refine (C4.out _).mono ?_
  rintro e w1 ⟨rfl, hC1⟩
  clear l0 l1 l2 l3 p0 p1 p2 p3 p4 p5 p6 p7 p8
  replace Hk := Lib.hid (Hk.out.chg hC1 nmN)
  replace Hp := Lib.hid (Hp.out.chg hC1 nmN)
  replace Ha := Lib.hid (Ha.out.chg hC1 nmN)
  replace Hl := Lib.hid (Hl.out.chg hC1 nmN)
  replace HC := Lib.hid (HC.out.trans hC1)
  clear hC1
  obtain ⟨W1, hW1⟩ : ∃ W1, w1.alloc (.cells #[.int .u64 (lm nx 0 : Nat), .int .u64 (lm nx 1 : Nat), .int .u64 (lm nx 2 : Nat), .int .u64 (lm nx 3 : Nat), .int .u64 (lm ny 0 : Nat), .int .u64 (lm ny 1 : Nat), .int .u64 (lm ny 2 : Nat), .int .u64 (lm ny 3 : Nat), .bool ni] 26) = W1 := ⟨_, rfl⟩
  have hA : Chg [] w1 W1 := by rw [← hW1]; exact (Chg.refl _ _).alloc _
  obtain ⟨b_n, hb⟩ : ∃ b, w1.heap.size = b := ⟨_, rfl⟩
  have hN : U9 W1 (b_n) nx ny ni := by rw [← hb, ← hW1]; exact has_alloc_new _ _
  replace Hk := Lib.hid (Hk.out.chg hA nmN)
  replace Hp := Lib.hid (Hp.out.chg hA nmN)
  replace Ha := Lib.hid (Ha.out.chg hA nmN)
  replace Hl := Lib.hid (Hl.out.chg hA nmN)
  replace HC := Lib.hid (HC.out.trans hA)
  have Hn := Lib.hid hN
  have HW1 := Lib.hid hW1; have Hb := Lib.hid hb
  clear hW1 hb hA hN
  go_upto_region 6 with fail
  try rw [HW1.out]
  try rw [Hb.out]
  clear HW1 Hb
  obtain ⟨p0, p1, p2, p3, p4, p5, p6, p7, p8⟩ := Hp.out.all
  go_wp2_with fail
  refine (C5.out _).mono ?_
  rintro e w1 ⟨rfl, hC1⟩
  clear p0 p1 p2 p3 p4 p5 p6 p7 p8
  replace Hk := Lib.hid (Hk.out.chg hC1 nmN)
  replace Hp := Lib.hid (Hp.out.chg hC1 nmN)
  replace Ha := Lib.hid (Ha.out.chg hC1 nmN)
  replace Hl := Lib.hid (Hl.out.chg hC1 nmN)
  replace Hn := Lib.hid (Hn.out.chg hC1 nmN)
  replace HC := Lib.hid (HC.out.trans hC1)
  clear hC1
  obtain ⟨W1, hW1⟩ : ∃ W1, w1.alloc (.cells #[.int .u64 (lm nx 0 : Nat), .int .u64 (lm nx 1 : Nat), .int .u64 (lm nx 2 : Nat), .int .u64 (lm nx 3 : Nat), .int .u64 (lm ny 0 : Nat), .int .u64 (lm ny 1 : Nat), .int .u64 (lm ny 2 : Nat), .int .u64 (lm ny 3 : Nat), .bool ni] 26) = W1 := ⟨_, rfl⟩
  have hA : Chg [] w1 W1 := by rw [← hW1]; exact (Chg.refl _ _).alloc _
  obtain ⟨b_m, hb⟩ : ∃ b, w1.heap.size = b := ⟨_, rfl⟩
  have hN : U9 W1 (b_m) nx ny ni := by rw [← hb, ← hW1]; exact has_alloc_new _ _
  replace Hk := Lib.hid (Hk.out.chg hA nmN)
  replace Hp := Lib.hid (Hp.out.chg hA nmN)
  replace Ha := Lib.hid (Ha.out.chg hA nmN)
  replace Hl := Lib.hid (Hl.out.chg hA nmN)
  replace Hn := Lib.hid (Hn.out.chg hA nmN)
  replace HC := Lib.hid (HC.out.trans hA)
  have Hm := Lib.hid hN
  have HW1 := Lib.hid hW1; have Hb := Lib.hid hb
  clear hW1 hb hA hN
  go_upto_region 7 with fail
  try rw [HW1.out]
  try rw [Hb.out]
  clear HW1 Hb
  obtain ⟨a0, a1, a2, a3⟩ := four4 fun _ => Ha.out.cell
  obtain ⟨p0, p1, p2, p3, p4, p5, p6, p7, p8⟩ := Hp.out.all
  go_wp2_with fail
  refine (C6.out _).mono ?_
  rintro e w1 ⟨rfl, hC1⟩
  clear a0 a1 a2 a3 p0 p1 p2 p3 p4 p5 p6 p7 p8
  replace Hk := Lib.hid (Hk.out.chg hC1 nmN)
  replace Hp := Lib.hid (Hp.out.chg hC1 nmN)
  replace Ha := Lib.hid (Ha.out.chg hC1 nmN)
  replace Hl := Lib.hid (Hl.out.chg hC1 nmN)
  replace Hn := Lib.hid (Hn.out.chg hC1 nmN)
  replace Hm := Lib.hid (Hm.out.chg hC1 nmN)
  replace HC := Lib.hid (HC.out.trans hC1)
  clear hC1
  obtain ⟨W1, hW1⟩ : ∃ W1, w1.alloc (.cells #[.int .u64 (lm xx 0 : Nat), .int .u64 (lm xx 1 : Nat), .int .u64 (lm xx 2 : Nat), .int .u64 (lm xx 3 : Nat), .int .u64 (lm xy 0 : Nat), .int .u64 (lm xy 1 : Nat), .int .u64 (lm xy 2 : Nat), .int .u64 (lm xy 3 : Nat), .bool xi] 26) = W1 := ⟨_, rfl⟩
  have hA : Chg [] w1 W1 := by rw [← hW1]; exact (Chg.refl _ _).alloc _
  obtain ⟨b_x, hb⟩ : ∃ b, w1.heap.size = b := ⟨_, rfl⟩
  have hN : U9 W1 (b_x) xx xy xi := by rw [← hb, ← hW1]; exact has_alloc_new _ _
  replace Hk := Lib.hid (Hk.out.chg hA nmN)
  replace Hp := Lib.hid (Hp.out.chg hA nmN)
  replace Ha := Lib.hid (Ha.out.chg hA nmN)
  replace Hl := Lib.hid (Hl.out.chg hA nmN)
  replace Hn := Lib.hid (Hn.out.chg hA nmN)
  replace Hm := Lib.hid (Hm.out.chg hA nmN)
  replace HC := Lib.hid (HC.out.trans hA)
  have Hx := Lib.hid hN
  have HW1 := Lib.hid hW1; have Hb := Lib.hid hb
  clear hW1 hb hA hN
  go_upto_region 8 with fail
  try rw [HW1.out]
  try rw [Hb.out]
  clear HW1 Hb
  obtain ⟨a0, a1, a2, a3⟩ := four4 fun _ => Ha.out.cell
  obtain ⟨m0, m1, m2, m3, m4, m5, m6, m7, m8⟩ := Hm.out.all
  go_wp2_with fail
  refine (C7.out _).mono ?_
  rintro e w1 ⟨rfl, hC1⟩
  clear a0 a1 a2 a3 m0 m1 m2 m3 m4 m5 m6 m7 m8
  replace Hk := Lib.hid (Hk.out.chg hC1 nmN)
  replace Hp := Lib.hid (Hp.out.chg hC1 nmN)
  replace Ha := Lib.hid (Ha.out.chg hC1 nmN)
  replace Hl := Lib.hid (Hl.out.chg hC1 nmN)
  replace Hn := Lib.hid (Hn.out.chg hC1 nmN)
  replace Hm := Lib.hid (Hm.out.chg hC1 nmN)
  replace Hx := Lib.hid (Hx.out.chg hC1 nmN)
  replace HC := Lib.hid (HC.out.trans hC1)
  clear hC1
  obtain ⟨W1, hW1⟩ : ∃ W1, w1.alloc (.cells #[.int .u64 (lm yx 0 : Nat), .int .u64 (lm yx 1 : Nat), .int .u64 (lm yx 2 : Nat), .int .u64 (lm yx 3 : Nat), .int .u64 (lm yy 0 : Nat), .int .u64 (lm yy 1 : Nat), .int .u64 (lm yy 2 : Nat), .int .u64 (lm yy 3 : Nat), .bool yi] 26) = W1 := ⟨_, rfl⟩
  have hA : Chg [] w1 W1 := by rw [← hW1]; exact (Chg.refl _ _).alloc _
  obtain ⟨b_y, hb⟩ : ∃ b, w1.heap.size = b := ⟨_, rfl⟩
  have hN : U9 W1 (b_y) yx yy yi := by rw [← hb, ← hW1]; exact has_alloc_new _ _
  replace Hk := Lib.hid (Hk.out.chg hA nmN)
  replace Hp := Lib.hid (Hp.out.chg hA nmN)
  replace Ha := Lib.hid (Ha.out.chg hA nmN)
  replace Hl := Lib.hid (Hl.out.chg hA nmN)
  replace Hn := Lib.hid (Hn.out.chg hA nmN)
  replace Hm := Lib.hid (Hm.out.chg hA nmN)
  replace Hx := Lib.hid (Hx.out.chg hA nmN)
  replace HC := Lib.hid (HC.out.trans hA)
  have Hy := Lib.hid hN
  have HW1 := Lib.hid hW1; have Hb := Lib.hid hb
  clear hW1 hb hA hN
  go_upto_region 9 with fail
  try rw [HW1.out]
  try rw [Hb.out]
  clear HW1 Hb
  obtain ⟨x0, x1, x2, x3, x4, x5, x6, x7, x8⟩ := Hx.out.all
  go_wp2_with fail
  refine (C9.out _).mono ?_
  rintro e w1 ⟨rfl, hC1⟩
  clear x0 x1 x2 x3 x4 x5 x6 x7 x8
  replace Hk := Lib.hid (Hk.out.chg hC1 nmN)
  replace Hp := Lib.hid (Hp.out.chg hC1 nmN)
  replace Ha := Lib.hid (Ha.out.chg hC1 nmN)
  replace Hl := Lib.hid (Hl.out.chg hC1 nmN)
  replace Hn := Lib.hid (Hn.out.chg hC1 nmN)
  replace Hm := Lib.hid (Hm.out.chg hC1 nmN)
  replace Hx := Lib.hid (Hx.out.chg hC1 nmN)
  replace Hy := Lib.hid (Hy.out.chg hC1 nmN)
  replace HC := Lib.hid (HC.out.trans hC1)
  clear hC1
  obtain ⟨W1, hW1⟩ : ∃ W1, w1.alloc (.cells #[.int .u64 (lm yx 0 : Nat), .int .u64 (lm yx 1 : Nat), .int .u64 (lm yx 2 : Nat), .int .u64 (lm yx 3 : Nat), .int .u64 (lm yy 0 : Nat), .int .u64 (lm yy 1 : Nat), .int .u64 (lm yy 2 : Nat), .int .u64 (lm yy 3 : Nat), .bool yi] 26) = W1 := ⟨_, rfl⟩
  have hA : Chg [] w1 W1 := by rw [← hW1]; exact (Chg.refl _ _).alloc _
  obtain ⟨b_z, hb⟩ : ∃ b, w1.heap.size = b := ⟨_, rfl⟩
  have hN : U9 W1 (b_z) yx yy yi := by rw [← hb, ← hW1]; exact has_alloc_new _ _
  replace Hk := Lib.hid (Hk.out.chg hA nmN)
  replace Hp := Lib.hid (Hp.out.chg hA nmN)
  replace Ha := Lib.hid (Ha.out.chg hA nmN)
  replace Hl := Lib.hid (Hl.out.chg hA nmN)
  replace Hn := Lib.hid (Hn.out.chg hA nmN)
  replace Hm := Lib.hid (Hm.out.chg hA nmN)
  replace Hx := Lib.hid (Hx.out.chg hA nmN)
  replace Hy := Lib.hid (Hy.out.chg hA nmN)
  replace HC := Lib.hid (HC.out.trans hA)
  have Hz := Lib.hid hN
  have HW1 := Lib.hid hW1; have Hb := Lib.hid hb
  clear hW1 hb hA hN
  go_upto_region 10 with fail
  try rw [HW1.out]
  try rw [Hb.out]
  clear HW1 Hb
  obtain ⟨n0, n1, n2, n3, n4, n5, n6, n7, n8⟩ := Hn.out.all
  obtain ⟨m0, m1, m2, m3, m4, m5, m6, m7, m8⟩ := Hm.out.all
  obtain ⟨y0, y1, y2, y3, y4, y5, y6, y7, y8⟩ := Hy.out.all
  obtain ⟨z0, z1, z2, z3, z4, z5, z6, z7, z8⟩ := Hz.out.all
  go_wp2_with fail
  refine (C8.out _).mono ?_
  rintro e w1 ⟨rfl, hC1⟩
  replace Hk := Lib.hid (Hk.out.chg hC1 nmN)
  replace Hp := Lib.hid (Hp.out.chg hC1 nmN)
  replace Ha := Lib.hid (Ha.out.chg hC1 nmN)
  replace Hl := Lib.hid (Hl.out.chg hC1 nmN)
  replace Hn := Lib.hid (Hn.out.chg hC1 nmN)
  replace Hm := Lib.hid (Hm.out.chg hC1 nmN)
  replace Hx := Lib.hid (Hx.out.chg hC1 nmN)
  replace Hy := Lib.hid (Hy.out.chg hC1 nmN)
  replace Hz := Lib.hid (Hz.out.chg hC1 nmN)
  replace HC := Lib.hid (HC.out.trans hC1)
  clear hC1
  go_wp2_with fail
  go_ret
  exact ⟨rfl, HC.out⟩

section
variable {H : Type} (enc : TypeId × Value → H) (W : World)
set_option linter.constructorNameAsVariable false in
set_option maxRecDepth 100000 in
theorem curveOrder_law {v0 v1 : Value} {d0 d1 : DataW H} {p0 p1 : List MemPlace} {base : Nat}
    (h0 : DataW.Trod enc Try.prog W 0 (fun _ => true) true 24 v0 d0 p0) (k0 : Value.okWide Try.prog W .any base 24 v0)
    (h1 : DataW.Trod enc Try.prog W 0 (fun _ => true) true 26 v1 d1 p1) (k1 : Value.okWide Try.prog W .any base 26 v1)
    (_hsz : (DataW.weightsEach Try.prog [24, 26] [d0, d1]).all (· ≤ reachBytes) = true) :
    Calls Try.prog 8 #[v0, v1] W fun e w' => e = .returned (.bool true) ∧ Below W.heap.size W w' := by
  obtain ⟨k, hk, rfl⟩ := open_number k0 h0
  obtain ⟨p, hpx, hpy, rfl⟩ := open_point k1 h1
  refine PtCase.elim' (pt_cases p hpx hpy) (fun P hP hPe => ?_) (fun hb => ?_)
  · subst hPe
    exact (order_on hk hP W).mono fun e w' h => ⟨h.1, h.2.below⟩
  · exact (order_off (Lib.hid fun w => is_bad hb w) W).mono fun e w' h => ⟨h.1, h.2.below⟩
end

end Go.Proofs.Ytplldbmjdnikeaa
