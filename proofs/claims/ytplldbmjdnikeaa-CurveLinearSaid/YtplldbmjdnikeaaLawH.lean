/- CurveLinear: the walk and the law. Printed by lawh.py. -/
import Derived.Test.YtplldbmjdnikeaaLawG
namespace Go.Proofs.Ytplldbmjdnikeaa
set_option linter.unusedVariables false
set_option linter.unusedSimpArgs false
open Go.RowKit Go.WideShapes Go.ChangeShapes

theorem reads_two {w : World} {b x y : Nat} {t : TypeId} (h : w.heap[b]? = some (.cells #[.int .u64 (lm x 0 : Nat), .int .u64 (lm x 1 : Nat), .int .u64 (lm x 2 : Nat), .int .u64 (lm x 3 : Nat), .int .u64 (lm y 0 : Nat), .int .u64 (lm y 1 : Nat), .int .u64 (lm y 2 : Nat), .int .u64 (lm y 3 : Nat)] t (0, 0))) : ReadsN w (some ⟨b, 0, none⟩) [x, y] := fun _ => ⟨b, 0, rfl, lt_of_has h, fun i hi c hc => by
  have hi : i = 0 ∨ i = 1 := by simp at hi; omega
  have hc : c = 0 ∨ c = 1 ∨ c = 2 ∨ c = 3 := by omega
  rw [cell_of_has h]
  rcases hi with rfl | rfl <;> rcases hc with rfl | rfl | rfl | rfl <;> rfl⟩
theorem readsP_two {w : World} {b x y : Nat} {i : Bool} {t : TypeId} (h : w.heap[b]? = some (.cells #[.int .u64 (lm x 0 : Nat), .int .u64 (lm x 1 : Nat), .int .u64 (lm x 2 : Nat), .int .u64 (lm x 3 : Nat), .int .u64 (lm y 0 : Nat), .int .u64 (lm y 1 : Nat), .int .u64 (lm y 2 : Nat), .int .u64 (lm y 3 : Nat), .bool i, .int .u64 (lm x 0 : Nat), .int .u64 (lm x 1 : Nat), .int .u64 (lm x 2 : Nat), .int .u64 (lm x 3 : Nat), .int .u64 (lm y 0 : Nat), .int .u64 (lm y 1 : Nat), .int .u64 (lm y 2 : Nat), .int .u64 (lm y 3 : Nat), .bool i] t (0, 0))) : ReadsP w (some ⟨b, 0, none⟩) [⟨x, y, i⟩, ⟨x, y, i⟩] := fun _ => ⟨b, 0, rfl, lt_of_has h, fun i hi c hc => by
  have hi : i = 0 ∨ i = 1 := by simp at hi; omega
  have hc : c = 0 ∨ c = 1 ∨ c = 2 ∨ c = 3 ∨ c = 4 ∨ c = 5 ∨ c = 6 ∨ c = 7 ∨ c = 8 := by omega
  rw [cell_of_has h]
  rcases hi with rfl | rfl <;> rcases hc with rfl | rfl | rfl | rfl | rfl | rfl | rfl | rfl | rfl <;> rfl⟩
set_option maxRecDepth 100000 in
set_option maxHeartbeats 8000000 in
theorem linear_off {x y px py : Nat} {pi : Bool} (C1 : Hid (∀ w, Calls Try.prog 14 #[.agg #[.int .u64 (lm px 0 : Nat), .int .u64 (lm px 1 : Nat), .int .u64 (lm px 2 : Nat), .int .u64 (lm px 3 : Nat), .int .u64 (lm py 0 : Nat), .int .u64 (lm py 1 : Nat), .int .u64 (lm py 2 : Nat), .int .u64 (lm py 3 : Nat), .bool pi]] w fun e w' => e = .returned (.bool false) ∧ Chg [] w w')) (w : World) :
    Calls Try.prog 7 #[.agg #[.int .u64 (lm x 0 : Nat), .int .u64 (lm x 1 : Nat), .int .u64 (lm x 2 : Nat), .int .u64 (lm x 3 : Nat)], .agg #[.int .u64 (lm y 0 : Nat), .int .u64 (lm y 1 : Nat), .int .u64 (lm y 2 : Nat), .int .u64 (lm y 3 : Nat)], .agg #[.int .u64 (lm px 0 : Nat), .int .u64 (lm px 1 : Nat), .int .u64 (lm px 2 : Nat), .int .u64 (lm px 3 : Nat), .int .u64 (lm py 0 : Nat), .int .u64 (lm py 1 : Nat), .int .u64 (lm py 2 : Nat), .int .u64 (lm py 3 : Nat), .bool pi]] w fun x w' => x = .returned (.bool true) ∧ Chg [] w w' := by
  have C8 := Lib.hid fun w => law_g w
  obtain ⟨W0, hW0⟩ : ∃ W0, (((w.alloc (.cells #[.int .u64 (lm x 0 : Nat), .int .u64 (lm x 1 : Nat), .int .u64 (lm x 2 : Nat), .int .u64 (lm x 3 : Nat)] 24)).alloc (.cells #[.int .u64 (lm y 0 : Nat), .int .u64 (lm y 1 : Nat), .int .u64 (lm y 2 : Nat), .int .u64 (lm y 3 : Nat)] 24)).alloc (.cells #[.int .u64 (lm px 0 : Nat), .int .u64 (lm px 1 : Nat), .int .u64 (lm px 2 : Nat), .int .u64 (lm px 3 : Nat), .int .u64 (lm py 0 : Nat), .int .u64 (lm py 1 : Nat), .int .u64 (lm py 2 : Nat), .int .u64 (lm py 3 : Nat), .bool pi] 26)) = W0 := ⟨_, rfl⟩
  obtain ⟨B, hB⟩ : ∃ B, w.heap.size = B := ⟨_, rfl⟩
  have Hx := Lib.hid (show U4 W0 (B) 24 (lm x) by rw [← hW0, ← hB]; exact has_alloc (has_alloc (has_alloc_new _ _)))
  have Hy := Lib.hid (show U4 W0 (B + 1) 24 (lm y) by rw [← hW0, ← hB]; exact has_alloc (has_alloc_at (by simp)))
  have Hp := Lib.hid (show U9 W0 (B + 1 + 1) px py pi by rw [← hW0, ← hB]; exact has_alloc_at (by simp))
  have HC := Lib.hid (show Chg [] w W0 by rw [← hW0]; exact (((Chg.refl _ _).alloc _).alloc _).alloc _)
  go_enter Try.func7, Try.ntmps7
  go_upto_region 1 with fail
  try rw [hW0]
  try rw [hB]
  clear hW0 hB
  obtain ⟨p0, p1, p2, p3, p4, p5, p6, p7, p8⟩ := Hp.out.all
  go_wp2_with fail
  refine (C1.out _).mono ?_
  rintro e w1 ⟨rfl, hC1⟩
  clear p0 p1 p2 p3 p4 p5 p6 p7 p8
  replace Hx := Lib.hid (Hx.out.chg hC1 nmN)
  replace Hy := Lib.hid (Hy.out.chg hC1 nmN)
  replace Hp := Lib.hid (Hp.out.chg hC1 nmN)
  replace HC := Lib.hid (HC.out.trans hC1)
  clear hC1
  go_wp2_with fail
  refine (C8.out _).mono ?_
  rintro e w1 ⟨rfl, hC1⟩
  replace Hx := Lib.hid (Hx.out.chg hC1 nmN)
  replace Hy := Lib.hid (Hy.out.chg hC1 nmN)
  replace Hp := Lib.hid (Hp.out.chg hC1 nmN)
  replace HC := Lib.hid (HC.out.trans hC1)
  clear hC1
  go_wp2_with fail
  go_ret
  exact ⟨rfl, HC.out⟩
set_option maxRecDepth 100000 in
set_option maxHeartbeats 8000000 in
theorem linear_on {x y : Nat} (hx : x < B6 ^ 4) (hy : y < B6 ^ 4) {P : Pc} (hP : P.on 7) (w : World) :
    Calls Try.prog 7 #[.agg #[.int .u64 (lm x 0 : Nat), .int .u64 (lm x 1 : Nat), .int .u64 (lm x 2 : Nat), .int .u64 (lm x 3 : Nat)], .agg #[.int .u64 (lm y 0 : Nat), .int .u64 (lm y 1 : Nat), .int .u64 (lm y 2 : Nat), .int .u64 (lm y 3 : Nat)], .agg (pv (ofP P))] w fun x w' => x = .returned (.bool true) ∧ Chg [] w w' := by
  have C8 := Lib.hid fun w => law_g w
  have c1 := fun w => is_ok hP w
  have c2 := fun w => law_in hx w
  have c3 := fun w => law_in hy w
  have hQ : 0 < QQ := by decide
  have haQ : x % QQ < QQ := Nat.mod_lt _ hQ
  have hbQ : y % QQ < QQ := Nat.mod_lt _ hQ
  obtain ⟨a, ha⟩ : ∃ z, x % QQ = z := ⟨_, rfl⟩
  obtain ⟨b, hb⟩ : ∃ z, y % QQ = z := ⟨_, rfl⟩
  rw [ha] at c2 haQ
  rw [hb] at c3 hbQ
  have cA := fun f fa w hF => field_add (f := f) (a := fa) (root := 0) way_Q haQ hbQ w hF
  have cM := fun f fa w hF => field_mul (f := f) (a := fa) (root := 0) way_Q haQ hbQ w hF
  have hsQ : (a + b) % QQ < QQ := Nat.mod_lt _ hQ
  have hmQ : a * b % QQ < QQ := Nat.mod_lt _ hQ
  have c4 := fun w => curve_mul (k := a) (p := ofP P) (P := P) (e := 0) (.fine haQ hP rfl) w
  have c5 := fun w => curve_mul (k := b) (p := ofP P) (P := P) (e := 0) (.fine hbQ hP rfl) w
  have c6 := fun w => curve_mul (k := (a + b) % QQ) (p := ofP P) (P := P) (e := 0) (.fine hsQ hP rfl) w
  have c7 := fun w => curve_add (mulP_on hP a) (mulP_on hP b) w
  have c9 := fun w => curve_mul (k := a * b % QQ) (p := ofP P) (P := P) (e := 0) (.fine hmQ hP rfl) w
  have c10 := fun w => curve_mul (k := a) (p := ofP (mulP b P)) (P := mulP b P) (e := 0) (.fine haQ (mulP_on hP b) rfl) w
  have c11 := fun Ak Ap ck cp w hK hS => curve_sum (ks := [a, b]) (ps := [ofP P, ofP P]) (P := fun _ => P) (es := fun _ => 0) (Ak := Ak) (Ap := Ap) (ck := ck) (cp := cp) rfl (Nat.le_of_ble_eq_true rfl) w hK hS (fun i hi => by
    have hi : i = 0 ∨ i = 1 := by simp at hi; omega
    rcases hi with rfl | rfl
    · exact .fine haQ hP rfl
    · exact .fine hbQ hP rfl)
  rw [show mulV 0 a P = ofP (mulP a P) from if_pos rfl] at c4
  rw [show mulV 0 b P = ofP (mulP b P) from if_pos rfl] at c5
  rw [show mulV 0 ((a + b) % QQ) P = ofP (mulP ((a + b) % QQ) P) from if_pos rfl, mul_mod hP, mulP_add hP] at c6
  rw [show mulV 0 (a * b % QQ) P = ofP (mulP (a * b % QQ) P) from if_pos rfl, mul_mod hP, mulP_mul hP] at c9
  rw [show mulV 0 a (mulP b P) = ofP (mulP a (mulP b P)) from if_pos rfl] at c10
  rw [show manyV (fun _ => 0) [a, b] (fun _ => P) [a, b].length = ofP (addP (mulP a P) (mulP b P)) from (if_pos rfl).trans (by
    show ofP (addP (addP .inf (mulP a P)) (mulP b P)) = _
    rw [inf_add]), show firstE (fun _ => 0) [a, b].length = 0 from rfl] at c11
  have ls := ofP_lt (addP (mulP a P) (mulP b P))
  have lr := ofP_lt (mulP a (mulP b P))
  obtain ⟨zs, hzs⟩ : ∃ z, (a + b) % QQ = z := ⟨_, rfl⟩
  obtain ⟨zm, hzm⟩ : ∃ z, a * b % QQ = z := ⟨_, rfl⟩
  rw [hzs] at cA c6
  rw [hzm] at cM c9
  obtain ⟨px, hpx⟩ : ∃ t, (ofP P).x = t := ⟨_, rfl⟩
  obtain ⟨py, hpy⟩ : ∃ t, (ofP P).y = t := ⟨_, rfl⟩
  obtain ⟨pi, hpi⟩ : ∃ t, (ofP P).inf = t := ⟨_, rfl⟩
  have ep : pv (ofP P) = #[.int .u64 (lm px 0 : Nat), .int .u64 (lm px 1 : Nat), .int .u64 (lm px 2 : Nat), .int .u64 (lm px 3 : Nat), .int .u64 (lm py 0 : Nat), .int .u64 (lm py 1 : Nat), .int .u64 (lm py 2 : Nat), .int .u64 (lm py 3 : Nat), .bool pi] := by unfold pv; rw [hpx, hpy, hpi]
  obtain ⟨ux, hux⟩ : ∃ t, (ofP (mulP a P)).x = t := ⟨_, rfl⟩
  obtain ⟨uy, huy⟩ : ∃ t, (ofP (mulP a P)).y = t := ⟨_, rfl⟩
  obtain ⟨ui, hui⟩ : ∃ t, (ofP (mulP a P)).inf = t := ⟨_, rfl⟩
  have eu : pv (ofP (mulP a P)) = #[.int .u64 (lm ux 0 : Nat), .int .u64 (lm ux 1 : Nat), .int .u64 (lm ux 2 : Nat), .int .u64 (lm ux 3 : Nat), .int .u64 (lm uy 0 : Nat), .int .u64 (lm uy 1 : Nat), .int .u64 (lm uy 2 : Nat), .int .u64 (lm uy 3 : Nat), .bool ui] := by unfold pv; rw [hux, huy, hui]
  obtain ⟨vx, hvx⟩ : ∃ t, (ofP (mulP b P)).x = t := ⟨_, rfl⟩
  obtain ⟨vy, hvy⟩ : ∃ t, (ofP (mulP b P)).y = t := ⟨_, rfl⟩
  obtain ⟨vi, hvi⟩ : ∃ t, (ofP (mulP b P)).inf = t := ⟨_, rfl⟩
  have ev : pv (ofP (mulP b P)) = #[.int .u64 (lm vx 0 : Nat), .int .u64 (lm vx 1 : Nat), .int .u64 (lm vx 2 : Nat), .int .u64 (lm vx 3 : Nat), .int .u64 (lm vy 0 : Nat), .int .u64 (lm vy 1 : Nat), .int .u64 (lm vy 2 : Nat), .int .u64 (lm vy 3 : Nat), .bool vi] := by unfold pv; rw [hvx, hvy, hvi]
  obtain ⟨sx, hsx⟩ : ∃ t, (ofP (addP (mulP a P) (mulP b P))).x = t := ⟨_, rfl⟩
  obtain ⟨sy, hsy⟩ : ∃ t, (ofP (addP (mulP a P) (mulP b P))).y = t := ⟨_, rfl⟩
  obtain ⟨si, hsi⟩ : ∃ t, (ofP (addP (mulP a P) (mulP b P))).inf = t := ⟨_, rfl⟩
  have es : pv (ofP (addP (mulP a P) (mulP b P))) = #[.int .u64 (lm sx 0 : Nat), .int .u64 (lm sx 1 : Nat), .int .u64 (lm sx 2 : Nat), .int .u64 (lm sx 3 : Nat), .int .u64 (lm sy 0 : Nat), .int .u64 (lm sy 1 : Nat), .int .u64 (lm sy 2 : Nat), .int .u64 (lm sy 3 : Nat), .bool si] := by unfold pv; rw [hsx, hsy, hsi]
  obtain ⟨rx, hrx⟩ : ∃ t, (ofP (mulP a (mulP b P))).x = t := ⟨_, rfl⟩
  obtain ⟨ry, hry⟩ : ∃ t, (ofP (mulP a (mulP b P))).y = t := ⟨_, rfl⟩
  obtain ⟨ri, hri⟩ : ∃ t, (ofP (mulP a (mulP b P))).inf = t := ⟨_, rfl⟩
  have er : pv (ofP (mulP a (mulP b P))) = #[.int .u64 (lm rx 0 : Nat), .int .u64 (lm rx 1 : Nat), .int .u64 (lm rx 2 : Nat), .int .u64 (lm rx 3 : Nat), .int .u64 (lm ry 0 : Nat), .int .u64 (lm ry 1 : Nat), .int .u64 (lm ry 2 : Nat), .int .u64 (lm ry 3 : Nat), .bool ri] := by unfold pv; rw [hrx, hry, hri]
  rw [ep] at c1 c4 c5 c6 c9 ⊢
  rw [eu] at c4 c7
  rw [ev] at c5 c7 c10
  rw [es] at c6 c7 c11
  rw [er] at c9 c10
  rw [show ofP P = ⟨px, py, pi⟩ by rw [← hpx, ← hpy, ← hpi]] at c11
  rw [hsx, hsy] at ls
  rw [hrx, hry] at lr
  unfold num limbs at cA cM
  have es1 := fun w => num_eq9 ls.1 ls.1 w
  have es2 := fun w => num_eq9 ls.2 ls.2 w
  simp only [decide_true] at es1 es2
  have er1 := fun w => num_eq9 lr.1 lr.1 w
  have er2 := fun w => num_eq9 lr.2 lr.2 w
  simp only [decide_true] at er1 er2
  have C1 := Lib.hid c1; have C2 := Lib.hid c2; have C3 := Lib.hid c3; have C4 := Lib.hid c4; have C5 := Lib.hid c5; have C6 := Lib.hid c6; have C7 := Lib.hid c7; have C9 := Lib.hid c9; have C10 := Lib.hid c10; have C11 := Lib.hid c11; have CA := Lib.hid cA; have CM := Lib.hid cM
  clear c1 c2 c3 c4 c5 c6 c7 c9 c10 c11 cA cM haQ hbQ hsQ hmQ hQ ha hb hzs hzm ls lr hx hy hP hpx hpy hpi ep hux huy hui eu hvx hvy hvi ev hsx hsy hsi es hrx hry hri er
  obtain ⟨W0, hW0⟩ : ∃ W0, (((w.alloc (.cells #[.int .u64 (lm x 0 : Nat), .int .u64 (lm x 1 : Nat), .int .u64 (lm x 2 : Nat), .int .u64 (lm x 3 : Nat)] 24)).alloc (.cells #[.int .u64 (lm y 0 : Nat), .int .u64 (lm y 1 : Nat), .int .u64 (lm y 2 : Nat), .int .u64 (lm y 3 : Nat)] 24)).alloc (.cells #[.int .u64 (lm px 0 : Nat), .int .u64 (lm px 1 : Nat), .int .u64 (lm px 2 : Nat), .int .u64 (lm px 3 : Nat), .int .u64 (lm py 0 : Nat), .int .u64 (lm py 1 : Nat), .int .u64 (lm py 2 : Nat), .int .u64 (lm py 3 : Nat), .bool pi] 26)) = W0 := ⟨_, rfl⟩
  obtain ⟨B, hB⟩ : ∃ B, w.heap.size = B := ⟨_, rfl⟩
  have Hx := Lib.hid (show U4 W0 (B) 24 (lm x) by rw [← hW0, ← hB]; exact has_alloc (has_alloc (has_alloc_new _ _)))
  have Hy := Lib.hid (show U4 W0 (B + 1) 24 (lm y) by rw [← hW0, ← hB]; exact has_alloc (has_alloc_at (by simp)))
  have Hp := Lib.hid (show U9 W0 (B + 1 + 1) px py pi by rw [← hW0, ← hB]; exact has_alloc_at (by simp))
  have HC := Lib.hid (show Chg [] w W0 by rw [← hW0]; exact (((Chg.refl _ _).alloc _).alloc _).alloc _)
  go_enter Try.func7, Try.ntmps7
  go_upto_region 1 with fail
  try rw [hW0]
  try rw [hB]
  clear hW0 hB
  obtain ⟨p0, p1, p2, p3, p4, p5, p6, p7, p8⟩ := Hp.out.all
  go_wp2_with fail
  refine (C1.out _).mono ?_
  rintro e w1 ⟨rfl, hC1⟩
  clear p0 p1 p2 p3 p4 p5 p6 p7 p8
  replace Hx := Lib.hid (Hx.out.chg hC1 nmN)
  replace Hy := Lib.hid (Hy.out.chg hC1 nmN)
  replace Hp := Lib.hid (Hp.out.chg hC1 nmN)
  replace HC := Lib.hid (HC.out.trans hC1)
  clear hC1
  obtain ⟨x0, x1, x2, x3⟩ := four4 fun _ => Hx.out.cell
  go_wp2_with fail
  refine (C2.out _).mono ?_
  rintro e w1 ⟨rfl, hC1⟩
  clear x0 x1 x2 x3
  replace Hx := Lib.hid (Hx.out.chg hC1 nmN)
  replace Hy := Lib.hid (Hy.out.chg hC1 nmN)
  replace Hp := Lib.hid (Hp.out.chg hC1 nmN)
  replace HC := Lib.hid (HC.out.trans hC1)
  clear hC1
  obtain ⟨W1, hW1⟩ : ∃ W1, w1.alloc (.cells #[.int .u64 (lm a 0 : Nat), .int .u64 (lm a 1 : Nat), .int .u64 (lm a 2 : Nat), .int .u64 (lm a 3 : Nat)] 24) = W1 := ⟨_, rfl⟩
  have hA : Chg [] w1 W1 := by rw [← hW1]; exact (Chg.refl _ _).alloc _
  obtain ⟨b_a, hb⟩ : ∃ b, w1.heap.size = b := ⟨_, rfl⟩
  have hN : U4 W1 (b_a) 24 (lm a) := by rw [← hb, ← hW1]; exact has_alloc_new _ _
  replace Hx := Lib.hid (Hx.out.chg hA nmN)
  replace Hy := Lib.hid (Hy.out.chg hA nmN)
  replace Hp := Lib.hid (Hp.out.chg hA nmN)
  replace HC := Lib.hid (HC.out.trans hA)
  have Ha := Lib.hid hN
  have HW1 := Lib.hid hW1; have Hb := Lib.hid hb
  clear hW1 hb hA hN
  go_upto_region 4 with fail
  try rw [HW1.out]
  try rw [Hb.out]
  clear HW1 Hb
  obtain ⟨y0, y1, y2, y3⟩ := four4 fun _ => Hy.out.cell
  go_wp2_with fail
  refine (C3.out _).mono ?_
  rintro e w1 ⟨rfl, hC1⟩
  clear y0 y1 y2 y3
  replace Hx := Lib.hid (Hx.out.chg hC1 nmN)
  replace Hy := Lib.hid (Hy.out.chg hC1 nmN)
  replace Hp := Lib.hid (Hp.out.chg hC1 nmN)
  replace Ha := Lib.hid (Ha.out.chg hC1 nmN)
  replace HC := Lib.hid (HC.out.trans hC1)
  clear hC1
  obtain ⟨W1, hW1⟩ : ∃ W1, w1.alloc (.cells #[.int .u64 (lm b 0 : Nat), .int .u64 (lm b 1 : Nat), .int .u64 (lm b 2 : Nat), .int .u64 (lm b 3 : Nat)] 24) = W1 := ⟨_, rfl⟩
  have hA : Chg [] w1 W1 := by rw [← hW1]; exact (Chg.refl _ _).alloc _
  obtain ⟨b_b, hb⟩ : ∃ b, w1.heap.size = b := ⟨_, rfl⟩
  have hN : U4 W1 (b_b) 24 (lm b) := by rw [← hb, ← hW1]; exact has_alloc_new _ _
  replace Hx := Lib.hid (Hx.out.chg hA nmN)
  replace Hy := Lib.hid (Hy.out.chg hA nmN)
  replace Hp := Lib.hid (Hp.out.chg hA nmN)
  replace Ha := Lib.hid (Ha.out.chg hA nmN)
  replace HC := Lib.hid (HC.out.trans hA)
  have Hb := Lib.hid hN
  have HW1 := Lib.hid hW1; have Hb := Lib.hid hb
  clear hW1 hb hA hN
  go_upto_region 5 with fail
  try rw [HW1.out]
  try rw [Hb.out]
  clear HW1 Hb
  obtain ⟨a0, a1, a2, a3⟩ := four4 fun _ => Ha.out.cell
  obtain ⟨b0, b1, b2, b3⟩ := four4 fun _ => Hb.out.cell
  go_upto_region 5 with fail
  go_cut [9, 10] from 35 to 41 (fun cv lv wx => ∃ cb, cv = .pointer (some ⟨cb, 0, none⟩) ∧ lv = .int .i64 0 ∧ U4 wx cb 24 (lm (zs)) ∧ Chg [] W1 wx)
  case first =>
    have hlt0 : b_a < W1.heap.size := World.block_lt_of_cell? _ _ a0
    have hlt1 : b_b < W1.heap.size := World.block_lt_of_cell? _ _ b0
    have HC4 := Lib.hid (Chg.refl [] W1)
    have H9a0 := Lib.hid a0; have H9a1 := Lib.hid a1; have H9a2 := Lib.hid a2; have H9a3 := Lib.hid a3; have H9b0 := Lib.hid b0; have H9b1 := Lib.hid b1; have H9b2 := Lib.hid b2; have H9b3 := Lib.hid b3
    go_region_held3 (fun w9 => w9.cell? ⟨b_a, 0, none⟩ = some (.int .u64 (lm a 0 : Nat)) ∧ w9.cell? ⟨b_a, 1, none⟩ = some (.int .u64 (lm a 1 : Nat)) ∧ w9.cell? ⟨b_a, 2, none⟩ = some (.int .u64 (lm a 2 : Nat)) ∧ w9.cell? ⟨b_a, 3, none⟩ = some (.int .u64 (lm a 3 : Nat)) ∧ w9.cell? ⟨b_b, 0, none⟩ = some (.int .u64 (lm b 0 : Nat)) ∧ w9.cell? ⟨b_b, 1, none⟩ = some (.int .u64 (lm b 1 : Nat)) ∧ w9.cell? ⟨b_b, 2, none⟩ = some (.int .u64 (lm b 2 : Nat)) ∧ w9.cell? ⟨b_b, 3, none⟩ = some (.int .u64 (lm b 3 : Nat)))
      (first | with_reducible exact ⟨a0, a1, a2, a3, b0, b1, b2, b3⟩ | with_reducible exact ⟨cell_put4 a0 (Nat.ne_of_lt (Nat.lt_of_lt_of_le hlt0 HGE.out)), cell_put4 a1 (Nat.ne_of_lt (Nat.lt_of_lt_of_le hlt0 HGE.out)), cell_put4 a2 (Nat.ne_of_lt (Nat.lt_of_lt_of_le hlt0 HGE.out)), cell_put4 a3 (Nat.ne_of_lt (Nat.lt_of_lt_of_le hlt0 HGE.out)), cell_put4 b0 (Nat.ne_of_lt (Nat.lt_of_lt_of_le hlt1 HGE.out)), cell_put4 b1 (Nat.ne_of_lt (Nat.lt_of_lt_of_le hlt1 HGE.out)), cell_put4 b2 (Nat.ne_of_lt (Nat.lt_of_lt_of_le hlt1 HGE.out)), cell_put4 b3 (Nat.ne_of_lt (Nat.lt_of_lt_of_le hlt1 HGE.out))⟩ | go_keep)
      (first | (go_at_call 23; go_loud (refine (field_scalars _).mono ?_; rintro e w3 ⟨f, fa, rfl, hC3, hF⟩; have HF := Lib.hid hF; clear hF; have hC4 := Chg.trans (S := []) (a := W1) (by repeat (with_reducible first | exact HC4.out | apply Chg.drew | apply Chg.drewN | apply Chg.alloc)) hC3; (first | (with_reducible have hN3 := HN3.out.chg hC3 nmN; clear HN3; obtain ⟨n0, n1, n2, n3⟩ := four4 fun _ => (hN3).cell; have nz0 := (hN3).fz 0; have nz1 := (hN3).fz 1; have nz2 := (hN3).fz 2; have nz3 := (hN3).fz 3; have HN3 := Lib.hid hN3; clear hN3) | (with_reducible (first | have hN3 := U4.kept hC3 | have hN3 := U4.kept1 hC3 | have hN3 := U4.kept2 hC3); have HGE := Lib.hid (HC4.out.size); obtain ⟨n0, n1, n2, n3⟩ := four4 fun _ => (hN3).cell; have nz0 := (hN3).fz 0; have nz1 := (hN3).fz 1; have nz2 := (hN3).fz 2; have nz3 := (hN3).fz 3; have HN3 := Lib.hid hN3; clear hN3) | skip); have hsz := hC4.size; replace a0 := hC4.cell H9a0.out nmN; replace a1 := hC4.cell H9a1.out nmN; replace a2 := hC4.cell H9a2.out nmN; replace a3 := hC4.cell H9a3.out nmN; replace b0 := hC4.cell H9b0.out nmN; replace b1 := hC4.cell H9b1.out nmN; replace b2 := hC4.cell H9b2.out nmN; replace b3 := hC4.cell H9b3.out nmN; clear HC4 hC3; have HC4 := Lib.hid hC4; clear hC4)) | (go_at_call 24; go_loud (refine (CA.out f fa _ (HF.out.ch (by repeat (with_reducible first | exact Chg.refl _ _ | apply Chg.drew | apply Chg.drewN | apply Chg.alloc)))).mono ?_; rintro e w3 ⟨rfl, hC3⟩; have hC4 := Chg.trans (S := []) (a := W1) (by repeat (with_reducible first | exact HC4.out | apply Chg.drew | apply Chg.drewN | apply Chg.alloc)) hC3; (first | (with_reducible have hN3 := HN3.out.chg hC3 nmN; clear HN3; obtain ⟨n0, n1, n2, n3⟩ := four4 fun _ => (hN3).cell; have nz0 := (hN3).fz 0; have nz1 := (hN3).fz 1; have nz2 := (hN3).fz 2; have nz3 := (hN3).fz 3; have HN3 := Lib.hid hN3; clear hN3) | (with_reducible (first | have hN3 := U4.kept hC3 | have hN3 := U4.kept1 hC3 | have hN3 := U4.kept2 hC3); have HGE := Lib.hid (HC4.out.size); obtain ⟨n0, n1, n2, n3⟩ := four4 fun _ => (hN3).cell; have nz0 := (hN3).fz 0; have nz1 := (hN3).fz 1; have nz2 := (hN3).fz 2; have nz3 := (hN3).fz 3; have HN3 := Lib.hid hN3; clear hN3) | skip); have hsz := hC4.size; replace a0 := hC4.cell H9a0.out nmN; replace a1 := hC4.cell H9a1.out nmN; replace a2 := hC4.cell H9a2.out nmN; replace a3 := hC4.cell H9a3.out nmN; replace b0 := hC4.cell H9b0.out nmN; replace b1 := hC4.cell H9b1.out nmN; replace b2 := hC4.cell H9b2.out nmN; replace b3 := hC4.cell H9b3.out nmN; clear HC4 hC3; have HC4 := Lib.hid hC4; clear hC4)))
    all_goals (go_wp2_with fail; go_meet)
    all_goals (first | with_reducible exact ⟨_, rfl, rfl, U4.new _ _ _, HC4.out.alloc _⟩ | with_reducible exact ⟨_, rfl, rfl, U4.put_x HN3.out _, HC4.out.put_x (Or.inr HGE.out) _⟩)
  case rest =>
    obtain ⟨b_c, rfl, rfl, hN, hC1⟩ := hcut
    clear a0 a1 a2 a3 b0 b1 b2 b3
    replace Hx := Lib.hid (Hx.out.chg hC1 nmN)
    replace Hy := Lib.hid (Hy.out.chg hC1 nmN)
    replace Hp := Lib.hid (Hp.out.chg hC1 nmN)
    replace Ha := Lib.hid (Ha.out.chg hC1 nmN)
    replace Hb := Lib.hid (Hb.out.chg hC1 nmN)
    replace HC := Lib.hid (HC.out.trans hC1)
    have Hc := Lib.hid hN
    clear hC1 hN
    obtain ⟨a0, a1, a2, a3⟩ := four4 fun _ => Ha.out.cell
    obtain ⟨b0, b1, b2, b3⟩ := four4 fun _ => Hb.out.cell
    go_upto_region 6 with fail
    go_cut [11, 12] from 42 to 48 (fun cv lv wx => ∃ cb, cv = .pointer (some ⟨cb, 0, none⟩) ∧ lv = .int .i64 0 ∧ U4 wx cb 24 (lm (zm)) ∧ Chg [] wc wx)
    case first =>
      have hlt0 : b_a < wc.heap.size := World.block_lt_of_cell? _ _ a0
      have hlt1 : b_b < wc.heap.size := World.block_lt_of_cell? _ _ b0
      have HC4 := Lib.hid (Chg.refl [] wc)
      have H9a0 := Lib.hid a0; have H9a1 := Lib.hid a1; have H9a2 := Lib.hid a2; have H9a3 := Lib.hid a3; have H9b0 := Lib.hid b0; have H9b1 := Lib.hid b1; have H9b2 := Lib.hid b2; have H9b3 := Lib.hid b3
      go_region_held3 (fun w9 => w9.cell? ⟨b_a, 0, none⟩ = some (.int .u64 (lm a 0 : Nat)) ∧ w9.cell? ⟨b_a, 1, none⟩ = some (.int .u64 (lm a 1 : Nat)) ∧ w9.cell? ⟨b_a, 2, none⟩ = some (.int .u64 (lm a 2 : Nat)) ∧ w9.cell? ⟨b_a, 3, none⟩ = some (.int .u64 (lm a 3 : Nat)) ∧ w9.cell? ⟨b_b, 0, none⟩ = some (.int .u64 (lm b 0 : Nat)) ∧ w9.cell? ⟨b_b, 1, none⟩ = some (.int .u64 (lm b 1 : Nat)) ∧ w9.cell? ⟨b_b, 2, none⟩ = some (.int .u64 (lm b 2 : Nat)) ∧ w9.cell? ⟨b_b, 3, none⟩ = some (.int .u64 (lm b 3 : Nat)))
        (first | with_reducible exact ⟨a0, a1, a2, a3, b0, b1, b2, b3⟩ | with_reducible exact ⟨cell_put4 a0 (Nat.ne_of_lt (Nat.lt_of_lt_of_le hlt0 HGE.out)), cell_put4 a1 (Nat.ne_of_lt (Nat.lt_of_lt_of_le hlt0 HGE.out)), cell_put4 a2 (Nat.ne_of_lt (Nat.lt_of_lt_of_le hlt0 HGE.out)), cell_put4 a3 (Nat.ne_of_lt (Nat.lt_of_lt_of_le hlt0 HGE.out)), cell_put4 b0 (Nat.ne_of_lt (Nat.lt_of_lt_of_le hlt1 HGE.out)), cell_put4 b1 (Nat.ne_of_lt (Nat.lt_of_lt_of_le hlt1 HGE.out)), cell_put4 b2 (Nat.ne_of_lt (Nat.lt_of_lt_of_le hlt1 HGE.out)), cell_put4 b3 (Nat.ne_of_lt (Nat.lt_of_lt_of_le hlt1 HGE.out))⟩ | go_keep)
        (first | (go_at_call 23; go_loud (refine (field_scalars _).mono ?_; rintro e w3 ⟨f, fa, rfl, hC3, hF⟩; have HF := Lib.hid hF; clear hF; have hC4 := Chg.trans (S := []) (a := wc) (by repeat (with_reducible first | exact HC4.out | apply Chg.drew | apply Chg.drewN | apply Chg.alloc)) hC3; (first | (with_reducible have hN3 := HN3.out.chg hC3 nmN; clear HN3; obtain ⟨n0, n1, n2, n3⟩ := four4 fun _ => (hN3).cell; have nz0 := (hN3).fz 0; have nz1 := (hN3).fz 1; have nz2 := (hN3).fz 2; have nz3 := (hN3).fz 3; have HN3 := Lib.hid hN3; clear hN3) | (with_reducible (first | have hN3 := U4.kept hC3 | have hN3 := U4.kept1 hC3 | have hN3 := U4.kept2 hC3); have HGE := Lib.hid (HC4.out.size); obtain ⟨n0, n1, n2, n3⟩ := four4 fun _ => (hN3).cell; have nz0 := (hN3).fz 0; have nz1 := (hN3).fz 1; have nz2 := (hN3).fz 2; have nz3 := (hN3).fz 3; have HN3 := Lib.hid hN3; clear hN3) | skip); have hsz := hC4.size; replace a0 := hC4.cell H9a0.out nmN; replace a1 := hC4.cell H9a1.out nmN; replace a2 := hC4.cell H9a2.out nmN; replace a3 := hC4.cell H9a3.out nmN; replace b0 := hC4.cell H9b0.out nmN; replace b1 := hC4.cell H9b1.out nmN; replace b2 := hC4.cell H9b2.out nmN; replace b3 := hC4.cell H9b3.out nmN; clear HC4 hC3; have HC4 := Lib.hid hC4; clear hC4)) | (go_at_call 25; go_loud (refine (CM.out f fa _ (HF.out.ch (by repeat (with_reducible first | exact Chg.refl _ _ | apply Chg.drew | apply Chg.drewN | apply Chg.alloc)))).mono ?_; rintro e w3 ⟨rfl, hC3⟩; have hC4 := Chg.trans (S := []) (a := wc) (by repeat (with_reducible first | exact HC4.out | apply Chg.drew | apply Chg.drewN | apply Chg.alloc)) hC3; (first | (with_reducible have hN3 := HN3.out.chg hC3 nmN; clear HN3; obtain ⟨n0, n1, n2, n3⟩ := four4 fun _ => (hN3).cell; have nz0 := (hN3).fz 0; have nz1 := (hN3).fz 1; have nz2 := (hN3).fz 2; have nz3 := (hN3).fz 3; have HN3 := Lib.hid hN3; clear hN3) | (with_reducible (first | have hN3 := U4.kept hC3 | have hN3 := U4.kept1 hC3 | have hN3 := U4.kept2 hC3); have HGE := Lib.hid (HC4.out.size); obtain ⟨n0, n1, n2, n3⟩ := four4 fun _ => (hN3).cell; have nz0 := (hN3).fz 0; have nz1 := (hN3).fz 1; have nz2 := (hN3).fz 2; have nz3 := (hN3).fz 3; have HN3 := Lib.hid hN3; clear hN3) | skip); have hsz := hC4.size; replace a0 := hC4.cell H9a0.out nmN; replace a1 := hC4.cell H9a1.out nmN; replace a2 := hC4.cell H9a2.out nmN; replace a3 := hC4.cell H9a3.out nmN; replace b0 := hC4.cell H9b0.out nmN; replace b1 := hC4.cell H9b1.out nmN; replace b2 := hC4.cell H9b2.out nmN; replace b3 := hC4.cell H9b3.out nmN; clear HC4 hC3; have HC4 := Lib.hid hC4; clear hC4)))
      all_goals (go_wp2_with fail; go_meet)
      all_goals (first | with_reducible exact ⟨_, rfl, rfl, U4.new _ _ _, HC4.out.alloc _⟩ | with_reducible exact ⟨_, rfl, rfl, U4.put_x HN3.out _, HC4.out.put_x (Or.inr HGE.out) _⟩)
    case rest =>
      obtain ⟨b_d, rfl, rfl, hN, hC1⟩ := hcut
      clear a0 a1 a2 a3 b0 b1 b2 b3
      replace Hx := Lib.hid (Hx.out.chg hC1 nmN)
      replace Hy := Lib.hid (Hy.out.chg hC1 nmN)
      replace Hp := Lib.hid (Hp.out.chg hC1 nmN)
      replace Ha := Lib.hid (Ha.out.chg hC1 nmN)
      replace Hb := Lib.hid (Hb.out.chg hC1 nmN)
      replace Hc := Lib.hid (Hc.out.chg hC1 nmN)
      replace HC := Lib.hid (HC.out.trans hC1)
      have Hd := Lib.hid hN
      clear hC1 hN
      go_upto_region 7 with fail
      obtain ⟨a0, a1, a2, a3⟩ := four4 fun _ => Ha.out.cell
      obtain ⟨p0, p1, p2, p3, p4, p5, p6, p7, p8⟩ := Hp.out.all
      go_wp2_with fail
      refine (C4.out _).mono ?_
      rintro e w1 ⟨rfl, hC1⟩
      clear a0 a1 a2 a3 p0 p1 p2 p3 p4 p5 p6 p7 p8
      replace Hx := Lib.hid (Hx.out.chg hC1 nmN)
      replace Hy := Lib.hid (Hy.out.chg hC1 nmN)
      replace Hp := Lib.hid (Hp.out.chg hC1 nmN)
      replace Ha := Lib.hid (Ha.out.chg hC1 nmN)
      replace Hb := Lib.hid (Hb.out.chg hC1 nmN)
      replace Hc := Lib.hid (Hc.out.chg hC1 nmN)
      replace Hd := Lib.hid (Hd.out.chg hC1 nmN)
      replace HC := Lib.hid (HC.out.trans hC1)
      clear hC1
      obtain ⟨W1, hW1⟩ : ∃ W1, w1.alloc (.cells #[.int .u64 (lm ux 0 : Nat), .int .u64 (lm ux 1 : Nat), .int .u64 (lm ux 2 : Nat), .int .u64 (lm ux 3 : Nat), .int .u64 (lm uy 0 : Nat), .int .u64 (lm uy 1 : Nat), .int .u64 (lm uy 2 : Nat), .int .u64 (lm uy 3 : Nat), .bool ui] 26) = W1 := ⟨_, rfl⟩
      have hA : Chg [] w1 W1 := by rw [← hW1]; exact (Chg.refl _ _).alloc _
      obtain ⟨b_u, hb⟩ : ∃ b, w1.heap.size = b := ⟨_, rfl⟩
      have hN : U9 W1 (b_u) ux uy ui := by rw [← hb, ← hW1]; exact has_alloc_new _ _
      replace Hx := Lib.hid (Hx.out.chg hA nmN)
      replace Hy := Lib.hid (Hy.out.chg hA nmN)
      replace Hp := Lib.hid (Hp.out.chg hA nmN)
      replace Ha := Lib.hid (Ha.out.chg hA nmN)
      replace Hb := Lib.hid (Hb.out.chg hA nmN)
      replace Hc := Lib.hid (Hc.out.chg hA nmN)
      replace Hd := Lib.hid (Hd.out.chg hA nmN)
      replace HC := Lib.hid (HC.out.trans hA)
      have Hu := Lib.hid hN
      have HW1 := Lib.hid hW1; have Hb := Lib.hid hb
      clear hW1 hb hA hN
      go_upto_region 8 with fail
      try rw [HW1.out]
      try rw [Hb.out]
      clear HW1 Hb
      obtain ⟨b0, b1, b2, b3⟩ := four4 fun _ => Hb.out.cell
      obtain ⟨p0, p1, p2, p3, p4, p5, p6, p7, p8⟩ := Hp.out.all
      go_wp2_with fail
      refine (C5.out _).mono ?_
      rintro e w1 ⟨rfl, hC1⟩
      clear b0 b1 b2 b3 p0 p1 p2 p3 p4 p5 p6 p7 p8
      replace Hx := Lib.hid (Hx.out.chg hC1 nmN)
      replace Hy := Lib.hid (Hy.out.chg hC1 nmN)
      replace Hp := Lib.hid (Hp.out.chg hC1 nmN)
      replace Ha := Lib.hid (Ha.out.chg hC1 nmN)
      replace Hb := Lib.hid (Hb.out.chg hC1 nmN)
      replace Hc := Lib.hid (Hc.out.chg hC1 nmN)
      replace Hd := Lib.hid (Hd.out.chg hC1 nmN)
      replace Hu := Lib.hid (Hu.out.chg hC1 nmN)
      replace HC := Lib.hid (HC.out.trans hC1)
      clear hC1
      obtain ⟨W1, hW1⟩ : ∃ W1, w1.alloc (.cells #[.int .u64 (lm vx 0 : Nat), .int .u64 (lm vx 1 : Nat), .int .u64 (lm vx 2 : Nat), .int .u64 (lm vx 3 : Nat), .int .u64 (lm vy 0 : Nat), .int .u64 (lm vy 1 : Nat), .int .u64 (lm vy 2 : Nat), .int .u64 (lm vy 3 : Nat), .bool vi] 26) = W1 := ⟨_, rfl⟩
      have hA : Chg [] w1 W1 := by rw [← hW1]; exact (Chg.refl _ _).alloc _
      obtain ⟨b_v, hb⟩ : ∃ b, w1.heap.size = b := ⟨_, rfl⟩
      have hN : U9 W1 (b_v) vx vy vi := by rw [← hb, ← hW1]; exact has_alloc_new _ _
      replace Hx := Lib.hid (Hx.out.chg hA nmN)
      replace Hy := Lib.hid (Hy.out.chg hA nmN)
      replace Hp := Lib.hid (Hp.out.chg hA nmN)
      replace Ha := Lib.hid (Ha.out.chg hA nmN)
      replace Hb := Lib.hid (Hb.out.chg hA nmN)
      replace Hc := Lib.hid (Hc.out.chg hA nmN)
      replace Hd := Lib.hid (Hd.out.chg hA nmN)
      replace Hu := Lib.hid (Hu.out.chg hA nmN)
      replace HC := Lib.hid (HC.out.trans hA)
      have Hv := Lib.hid hN
      have HW1 := Lib.hid hW1; have Hb := Lib.hid hb
      clear hW1 hb hA hN
      go_upto_region 9 with fail
      try rw [HW1.out]
      try rw [Hb.out]
      clear HW1 Hb
      obtain ⟨c0, c1, c2, c3⟩ := four4 fun _ => Hc.out.cell
      obtain ⟨p0, p1, p2, p3, p4, p5, p6, p7, p8⟩ := Hp.out.all
      go_wp2_with fail
      refine (C6.out _).mono ?_
      rintro e w1 ⟨rfl, hC1⟩
      clear c0 c1 c2 c3 p0 p1 p2 p3 p4 p5 p6 p7 p8
      replace Hx := Lib.hid (Hx.out.chg hC1 nmN)
      replace Hy := Lib.hid (Hy.out.chg hC1 nmN)
      replace Hp := Lib.hid (Hp.out.chg hC1 nmN)
      replace Ha := Lib.hid (Ha.out.chg hC1 nmN)
      replace Hb := Lib.hid (Hb.out.chg hC1 nmN)
      replace Hc := Lib.hid (Hc.out.chg hC1 nmN)
      replace Hd := Lib.hid (Hd.out.chg hC1 nmN)
      replace Hu := Lib.hid (Hu.out.chg hC1 nmN)
      replace Hv := Lib.hid (Hv.out.chg hC1 nmN)
      replace HC := Lib.hid (HC.out.trans hC1)
      clear hC1
      obtain ⟨W1, hW1⟩ : ∃ W1, w1.alloc (.cells #[.int .u64 (lm sx 0 : Nat), .int .u64 (lm sx 1 : Nat), .int .u64 (lm sx 2 : Nat), .int .u64 (lm sx 3 : Nat), .int .u64 (lm sy 0 : Nat), .int .u64 (lm sy 1 : Nat), .int .u64 (lm sy 2 : Nat), .int .u64 (lm sy 3 : Nat), .bool si] 26) = W1 := ⟨_, rfl⟩
      have hA : Chg [] w1 W1 := by rw [← hW1]; exact (Chg.refl _ _).alloc _
      obtain ⟨b_s, hb⟩ : ∃ b, w1.heap.size = b := ⟨_, rfl⟩
      have hN : U9 W1 (b_s) sx sy si := by rw [← hb, ← hW1]; exact has_alloc_new _ _
      replace Hx := Lib.hid (Hx.out.chg hA nmN)
      replace Hy := Lib.hid (Hy.out.chg hA nmN)
      replace Hp := Lib.hid (Hp.out.chg hA nmN)
      replace Ha := Lib.hid (Ha.out.chg hA nmN)
      replace Hb := Lib.hid (Hb.out.chg hA nmN)
      replace Hc := Lib.hid (Hc.out.chg hA nmN)
      replace Hd := Lib.hid (Hd.out.chg hA nmN)
      replace Hu := Lib.hid (Hu.out.chg hA nmN)
      replace Hv := Lib.hid (Hv.out.chg hA nmN)
      replace HC := Lib.hid (HC.out.trans hA)
      have Hs := Lib.hid hN
      have HW1 := Lib.hid hW1; have Hb := Lib.hid hb
      clear hW1 hb hA hN
      go_upto_region 10 with fail
      try rw [HW1.out]
      try rw [Hb.out]
      clear HW1 Hb
      obtain ⟨u0, u1, u2, u3, u4, u5, u6, u7, u8⟩ := Hu.out.all
      obtain ⟨v0, v1, v2, v3, v4, v5, v6, v7, v8⟩ := Hv.out.all
      go_wp2_with fail
      refine (C7.out _).mono ?_
      rintro e w1 ⟨rfl, hC1⟩
      clear u0 u1 u2 u3 u4 u5 u6 u7 u8 v0 v1 v2 v3 v4 v5 v6 v7 v8
      replace Hx := Lib.hid (Hx.out.chg hC1 nmN)
      replace Hy := Lib.hid (Hy.out.chg hC1 nmN)
      replace Hp := Lib.hid (Hp.out.chg hC1 nmN)
      replace Ha := Lib.hid (Ha.out.chg hC1 nmN)
      replace Hb := Lib.hid (Hb.out.chg hC1 nmN)
      replace Hc := Lib.hid (Hc.out.chg hC1 nmN)
      replace Hd := Lib.hid (Hd.out.chg hC1 nmN)
      replace Hu := Lib.hid (Hu.out.chg hC1 nmN)
      replace Hv := Lib.hid (Hv.out.chg hC1 nmN)
      replace Hs := Lib.hid (Hs.out.chg hC1 nmN)
      replace HC := Lib.hid (HC.out.trans hC1)
      clear hC1
      obtain ⟨W1, hW1⟩ : ∃ W1, w1.alloc (.cells #[.int .u64 (lm sx 0 : Nat), .int .u64 (lm sx 1 : Nat), .int .u64 (lm sx 2 : Nat), .int .u64 (lm sx 3 : Nat), .int .u64 (lm sy 0 : Nat), .int .u64 (lm sy 1 : Nat), .int .u64 (lm sy 2 : Nat), .int .u64 (lm sy 3 : Nat), .bool si] 26) = W1 := ⟨_, rfl⟩
      have hA : Chg [] w1 W1 := by rw [← hW1]; exact (Chg.refl _ _).alloc _
      obtain ⟨b_t, hb⟩ : ∃ b, w1.heap.size = b := ⟨_, rfl⟩
      have hN : U9 W1 (b_t) sx sy si := by rw [← hb, ← hW1]; exact has_alloc_new _ _
      replace Hx := Lib.hid (Hx.out.chg hA nmN)
      replace Hy := Lib.hid (Hy.out.chg hA nmN)
      replace Hp := Lib.hid (Hp.out.chg hA nmN)
      replace Ha := Lib.hid (Ha.out.chg hA nmN)
      replace Hb := Lib.hid (Hb.out.chg hA nmN)
      replace Hc := Lib.hid (Hc.out.chg hA nmN)
      replace Hd := Lib.hid (Hd.out.chg hA nmN)
      replace Hu := Lib.hid (Hu.out.chg hA nmN)
      replace Hv := Lib.hid (Hv.out.chg hA nmN)
      replace Hs := Lib.hid (Hs.out.chg hA nmN)
      replace HC := Lib.hid (HC.out.trans hA)
      have Ht := Lib.hid hN
      have HW1 := Lib.hid hW1; have Hb := Lib.hid hb
      clear hW1 hb hA hN
      go_upto_region 11 with fail
      try rw [HW1.out]
      try rw [Hb.out]
      clear HW1 Hb
      obtain ⟨d0, d1, d2, d3⟩ := four4 fun _ => Hd.out.cell
      obtain ⟨p0, p1, p2, p3, p4, p5, p6, p7, p8⟩ := Hp.out.all
      go_wp2_with fail
      refine (C9.out _).mono ?_
      rintro e w1 ⟨rfl, hC1⟩
      clear d0 d1 d2 d3 p0 p1 p2 p3 p4 p5 p6 p7 p8
      replace Hx := Lib.hid (Hx.out.chg hC1 nmN)
      replace Hy := Lib.hid (Hy.out.chg hC1 nmN)
      replace Hp := Lib.hid (Hp.out.chg hC1 nmN)
      replace Ha := Lib.hid (Ha.out.chg hC1 nmN)
      replace Hb := Lib.hid (Hb.out.chg hC1 nmN)
      replace Hc := Lib.hid (Hc.out.chg hC1 nmN)
      replace Hd := Lib.hid (Hd.out.chg hC1 nmN)
      replace Hu := Lib.hid (Hu.out.chg hC1 nmN)
      replace Hv := Lib.hid (Hv.out.chg hC1 nmN)
      replace Hs := Lib.hid (Hs.out.chg hC1 nmN)
      replace Ht := Lib.hid (Ht.out.chg hC1 nmN)
      replace HC := Lib.hid (HC.out.trans hC1)
      clear hC1
      obtain ⟨W1, hW1⟩ : ∃ W1, w1.alloc (.cells #[.int .u64 (lm rx 0 : Nat), .int .u64 (lm rx 1 : Nat), .int .u64 (lm rx 2 : Nat), .int .u64 (lm rx 3 : Nat), .int .u64 (lm ry 0 : Nat), .int .u64 (lm ry 1 : Nat), .int .u64 (lm ry 2 : Nat), .int .u64 (lm ry 3 : Nat), .bool ri] 26) = W1 := ⟨_, rfl⟩
      have hA : Chg [] w1 W1 := by rw [← hW1]; exact (Chg.refl _ _).alloc _
      obtain ⟨b_m, hb⟩ : ∃ b, w1.heap.size = b := ⟨_, rfl⟩
      have hN : U9 W1 (b_m) rx ry ri := by rw [← hb, ← hW1]; exact has_alloc_new _ _
      replace Hx := Lib.hid (Hx.out.chg hA nmN)
      replace Hy := Lib.hid (Hy.out.chg hA nmN)
      replace Hp := Lib.hid (Hp.out.chg hA nmN)
      replace Ha := Lib.hid (Ha.out.chg hA nmN)
      replace Hb := Lib.hid (Hb.out.chg hA nmN)
      replace Hc := Lib.hid (Hc.out.chg hA nmN)
      replace Hd := Lib.hid (Hd.out.chg hA nmN)
      replace Hu := Lib.hid (Hu.out.chg hA nmN)
      replace Hv := Lib.hid (Hv.out.chg hA nmN)
      replace Hs := Lib.hid (Hs.out.chg hA nmN)
      replace Ht := Lib.hid (Ht.out.chg hA nmN)
      replace HC := Lib.hid (HC.out.trans hA)
      have Hm := Lib.hid hN
      have HW1 := Lib.hid hW1; have Hb := Lib.hid hb
      clear hW1 hb hA hN
      go_upto_region 12 with fail
      try rw [HW1.out]
      try rw [Hb.out]
      clear HW1 Hb
      obtain ⟨a0, a1, a2, a3⟩ := four4 fun _ => Ha.out.cell
      obtain ⟨v0, v1, v2, v3, v4, v5, v6, v7, v8⟩ := Hv.out.all
      go_wp2_with fail
      refine (C10.out _).mono ?_
      rintro e w1 ⟨rfl, hC1⟩
      clear a0 a1 a2 a3 v0 v1 v2 v3 v4 v5 v6 v7 v8
      replace Hx := Lib.hid (Hx.out.chg hC1 nmN)
      replace Hy := Lib.hid (Hy.out.chg hC1 nmN)
      replace Hp := Lib.hid (Hp.out.chg hC1 nmN)
      replace Ha := Lib.hid (Ha.out.chg hC1 nmN)
      replace Hb := Lib.hid (Hb.out.chg hC1 nmN)
      replace Hc := Lib.hid (Hc.out.chg hC1 nmN)
      replace Hd := Lib.hid (Hd.out.chg hC1 nmN)
      replace Hu := Lib.hid (Hu.out.chg hC1 nmN)
      replace Hv := Lib.hid (Hv.out.chg hC1 nmN)
      replace Hs := Lib.hid (Hs.out.chg hC1 nmN)
      replace Ht := Lib.hid (Ht.out.chg hC1 nmN)
      replace Hm := Lib.hid (Hm.out.chg hC1 nmN)
      replace HC := Lib.hid (HC.out.trans hC1)
      clear hC1
      obtain ⟨W1, hW1⟩ : ∃ W1, w1.alloc (.cells #[.int .u64 (lm rx 0 : Nat), .int .u64 (lm rx 1 : Nat), .int .u64 (lm rx 2 : Nat), .int .u64 (lm rx 3 : Nat), .int .u64 (lm ry 0 : Nat), .int .u64 (lm ry 1 : Nat), .int .u64 (lm ry 2 : Nat), .int .u64 (lm ry 3 : Nat), .bool ri] 26) = W1 := ⟨_, rfl⟩
      have hA : Chg [] w1 W1 := by rw [← hW1]; exact (Chg.refl _ _).alloc _
      obtain ⟨b_k, hb⟩ : ∃ b, w1.heap.size = b := ⟨_, rfl⟩
      have hN : U9 W1 (b_k) rx ry ri := by rw [← hb, ← hW1]; exact has_alloc_new _ _
      replace Hx := Lib.hid (Hx.out.chg hA nmN)
      replace Hy := Lib.hid (Hy.out.chg hA nmN)
      replace Hp := Lib.hid (Hp.out.chg hA nmN)
      replace Ha := Lib.hid (Ha.out.chg hA nmN)
      replace Hb := Lib.hid (Hb.out.chg hA nmN)
      replace Hc := Lib.hid (Hc.out.chg hA nmN)
      replace Hd := Lib.hid (Hd.out.chg hA nmN)
      replace Hu := Lib.hid (Hu.out.chg hA nmN)
      replace Hv := Lib.hid (Hv.out.chg hA nmN)
      replace Hs := Lib.hid (Hs.out.chg hA nmN)
      replace Ht := Lib.hid (Ht.out.chg hA nmN)
      replace Hm := Lib.hid (Hm.out.chg hA nmN)
      replace HC := Lib.hid (HC.out.trans hA)
      have Hk := Lib.hid hN
      have HW1 := Lib.hid hW1; have Hb := Lib.hid hb
      clear hW1 hb hA hN
      go_upto_region 13 with fail
      try rw [HW1.out]
      try rw [Hb.out]
      clear HW1 Hb
      obtain ⟨a0, a1, a2, a3⟩ := four4 fun _ => Ha.out.cell
      obtain ⟨b0, b1, b2, b3⟩ := four4 fun _ => Hb.out.cell
      obtain ⟨p0, p1, p2, p3, p4, p5, p6, p7, p8⟩ := Hp.out.all
      have hla := Ha.out.lt; have hlb := Hb.out.lt; have hlp := Hp.out.lt
      go_wp2_with fail
      refine (C11.out _ _ _ _ _ (reads_two (has_alloc (has_alloc_new _ _))) (readsP_two (has_alloc_at (by simp)))).mono ?_
      rintro e w1 ⟨rfl, hC1⟩
      clear a0 a1 a2 a3 b0 b1 b2 b3 p0 p1 p2 p3 p4 p5 p6 p7 p8
      have hC2 : Chg [] W1 w1 := (((Chg.refl _ _).alloc _).alloc _).trans hC1
      replace Hx := Lib.hid (Hx.out.chg hC2 nmN)
      replace Hy := Lib.hid (Hy.out.chg hC2 nmN)
      replace Hp := Lib.hid (Hp.out.chg hC2 nmN)
      replace Ha := Lib.hid (Ha.out.chg hC2 nmN)
      replace Hb := Lib.hid (Hb.out.chg hC2 nmN)
      replace Hc := Lib.hid (Hc.out.chg hC2 nmN)
      replace Hd := Lib.hid (Hd.out.chg hC2 nmN)
      replace Hu := Lib.hid (Hu.out.chg hC2 nmN)
      replace Hv := Lib.hid (Hv.out.chg hC2 nmN)
      replace Hs := Lib.hid (Hs.out.chg hC2 nmN)
      replace Ht := Lib.hid (Ht.out.chg hC2 nmN)
      replace Hm := Lib.hid (Hm.out.chg hC2 nmN)
      replace Hk := Lib.hid (Hk.out.chg hC2 nmN)
      replace HC := Lib.hid (HC.out.trans hC2)
      clear hC1 hC2 hla hlb hlp
      obtain ⟨W1, hW1⟩ : ∃ W1, w1.alloc (.cells #[.int .u64 (lm sx 0 : Nat), .int .u64 (lm sx 1 : Nat), .int .u64 (lm sx 2 : Nat), .int .u64 (lm sx 3 : Nat), .int .u64 (lm sy 0 : Nat), .int .u64 (lm sy 1 : Nat), .int .u64 (lm sy 2 : Nat), .int .u64 (lm sy 3 : Nat), .bool si] 26) = W1 := ⟨_, rfl⟩
      have hA : Chg [] w1 W1 := by rw [← hW1]; exact (Chg.refl _ _).alloc _
      obtain ⟨b_z, hb⟩ : ∃ b, w1.heap.size = b := ⟨_, rfl⟩
      have hN : U9 W1 (b_z) sx sy si := by rw [← hb, ← hW1]; exact has_alloc_new _ _
      replace Hx := Lib.hid (Hx.out.chg hA nmN)
      replace Hy := Lib.hid (Hy.out.chg hA nmN)
      replace Hp := Lib.hid (Hp.out.chg hA nmN)
      replace Ha := Lib.hid (Ha.out.chg hA nmN)
      replace Hb := Lib.hid (Hb.out.chg hA nmN)
      replace Hc := Lib.hid (Hc.out.chg hA nmN)
      replace Hd := Lib.hid (Hd.out.chg hA nmN)
      replace Hu := Lib.hid (Hu.out.chg hA nmN)
      replace Hv := Lib.hid (Hv.out.chg hA nmN)
      replace Hs := Lib.hid (Hs.out.chg hA nmN)
      replace Ht := Lib.hid (Ht.out.chg hA nmN)
      replace Hm := Lib.hid (Hm.out.chg hA nmN)
      replace Hk := Lib.hid (Hk.out.chg hA nmN)
      replace HC := Lib.hid (HC.out.trans hA)
      have Hz := Lib.hid hN
      have HW1 := Lib.hid hW1; have Hb := Lib.hid hb
      clear hW1 hb hA hN
      go_upto_region 14 with fail
      try rw [HW1.out]
      try rw [Hb.out]
      clear HW1 Hb
      obtain ⟨s0, s1, s2, s3, s4, s5, s6, s7, s8⟩ := Hs.out.all
      obtain ⟨t0, t1, t2, t3, t4, t5, t6, t7, t8⟩ := Ht.out.all
      obtain ⟨m0, m1, m2, m3, m4, m5, m6, m7, m8⟩ := Hm.out.all
      obtain ⟨k0, k1, k2, k3, k4, k5, k6, k7, k8⟩ := Hk.out.all
      obtain ⟨z0, z1, z2, z3, z4, z5, z6, z7, z8⟩ := Hz.out.all
      go_wp2_with fail
      refine (C8.out _).mono ?_
      rintro e w1 ⟨rfl, hC1⟩
      replace Hx := Lib.hid (Hx.out.chg hC1 nmN)
      replace Hy := Lib.hid (Hy.out.chg hC1 nmN)
      replace Hp := Lib.hid (Hp.out.chg hC1 nmN)
      replace Ha := Lib.hid (Ha.out.chg hC1 nmN)
      replace Hb := Lib.hid (Hb.out.chg hC1 nmN)
      replace Hc := Lib.hid (Hc.out.chg hC1 nmN)
      replace Hd := Lib.hid (Hd.out.chg hC1 nmN)
      replace Hu := Lib.hid (Hu.out.chg hC1 nmN)
      replace Hv := Lib.hid (Hv.out.chg hC1 nmN)
      replace Hs := Lib.hid (Hs.out.chg hC1 nmN)
      replace Ht := Lib.hid (Ht.out.chg hC1 nmN)
      replace Hm := Lib.hid (Hm.out.chg hC1 nmN)
      replace Hk := Lib.hid (Hk.out.chg hC1 nmN)
      replace Hz := Lib.hid (Hz.out.chg hC1 nmN)
      replace HC := Lib.hid (HC.out.trans hC1)
      clear hC1
      go_wp2_with fail
      go_ret
      exact ⟨rfl, HC.out⟩

section
variable {H : Type} (enc : TypeId × Value → H) (W : World)
set_option linter.constructorNameAsVariable false in
set_option maxRecDepth 100000 in
theorem curveLinear_law {v0 v1 v2 : Value} {d0 d1 d2 : DataW H} {p0 p1 p2 : List MemPlace} {base : Nat}
    (h0 : DataW.Trod enc Try.prog W 0 (fun _ => true) true 24 v0 d0 p0) (k0 : Value.okWide Try.prog W .any base 24 v0)
    (h1 : DataW.Trod enc Try.prog W 0 (fun _ => true) true 24 v1 d1 p1) (k1 : Value.okWide Try.prog W .any base 24 v1)
    (h2 : DataW.Trod enc Try.prog W 0 (fun _ => true) true 26 v2 d2 p2) (k2 : Value.okWide Try.prog W .any base 26 v2)
    (_hsz : (DataW.weightsEach Try.prog [24, 24, 26] [d0, d1, d2]).all (· ≤ reachBytes) = true) :
    Calls Try.prog 7 #[v0, v1, v2] W fun e w' => e = .returned (.bool true) ∧ Below W.heap.size W w' := by
  obtain ⟨x, hx, rfl⟩ := open_number k0 h0
  obtain ⟨y, hy, rfl⟩ := open_number k1 h1
  obtain ⟨p, hpx, hpy, rfl⟩ := open_point k2 h2
  refine PtCase.elim' (pt_cases p hpx hpy) (fun P hP hPe => ?_) (fun hb => ?_)
  · subst hPe
    exact (linear_on hx hy hP W).mono fun e w' h => ⟨h.1, h.2.below⟩
  · exact (linear_off (Lib.hid fun w => is_bad hb w) W).mono fun e w' h => ⟨h.1, h.2.below⟩
end

end Go.Proofs.Ytplldbmjdnikeaa
