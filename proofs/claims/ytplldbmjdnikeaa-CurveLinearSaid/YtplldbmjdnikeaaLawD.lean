/- CurveTimes: the walk and the law. Printed by lawd.py. -/
import Derived.Test.YtplldbmjdnikeaaMulD
import Derived.Test.YtplldbmjdnikeaaOpenPt
namespace Go.Proofs.Ytplldbmjdnikeaa
set_option linter.unusedVariables false
set_option linter.unusedSimpArgs false
open Go.RowKit Go.WideShapes Go.ChangeShapes

/-- Each number and point is one of the three. -/
inductive AnyErr (k : Nat) (p : Pd) : Prop
  | mk (P : Pc) (e : Nat) (h : ErrOf k p P e) : AnyErr k p
theorem any_err {k : Nat} {p : Pd} (hk : k < B6 ^ 4) (hx : p.x < B6 ^ 4) (hy : p.y < B6 ^ 4) : AnyErr k p := by
  by_cases hq : k < QQ
  · refine PtCase.elim' (pt_cases p hx hy) (fun P hP hPe => ?_) (fun hb => ?_)
    · exact ⟨P, 0, .fine hq hP hPe⟩
    · exact ⟨.inf, 30, .curve hq hb⟩
  · exact ⟨.inf, 20, .range hq hk⟩
theorem mulV_lt (e k : Nat) (P : Pc) : (mulV e k P).x < B6 ^ 4 ∧ (mulV e k P).y < B6 ^ 4 := by
  unfold mulV
  by_cases h : e = 0
  · rw [if_pos h]; exact ofP_lt _
  · rw [if_neg h]; exact ⟨by show 0 < B6 ^ 4; decide, by show 0 < B6 ^ 4; decide⟩

set_option maxRecDepth 100000 in
set_option maxHeartbeats 8000000 in
theorem times_any {k e : Nat} {p : Pd} {P : Pc} (hE : ErrOf k p P e) (w : World) :
    Calls Try.prog 6 #[.agg #[.int .u64 (lm k 0 : Nat), .int .u64 (lm k 1 : Nat), .int .u64 (lm k 2 : Nat), .int .u64 (lm k 3 : Nat)], .agg (pv p)] w fun x w' => x = .returned (.bool true) ∧ Chg [] w w' := by
  have c1 := fun w => curve_mul hE w
  have c2 := fun w => ref_mul3 hE w
  have c8 := fun w => law_g w
  obtain ⟨T, hT⟩ : ∃ T, mulV e k P = T := ⟨_, rfl⟩
  have lr := mulV_lt e k P
  rw [hT] at c1 c2 lr
  obtain ⟨rx, ry, ri⟩ := T
  obtain ⟨px, py, pi⟩ := p
  unfold pv at c1 c2 ⊢
  obtain ⟨E, hEe⟩ : ∃ E : Int, ((e : Nat) : Int) = E := ⟨_, rfl⟩
  rw [hEe] at c1 c2

  have er1 := fun w => num_eq9 lr.1 lr.1 w
  have er2 := fun w => num_eq9 lr.2 lr.2 w
  simp only [decide_true] at er1 er2
  have C1 := Lib.hid c1; have C2 := Lib.hid c2; have C8 := Lib.hid c8
  clear c1 c2 c8 hT hEe hE lr
  obtain ⟨W0, hW0⟩ : ∃ W0, ((w.alloc (.cells #[.int .u64 (lm k 0 : Nat), .int .u64 (lm k 1 : Nat), .int .u64 (lm k 2 : Nat), .int .u64 (lm k 3 : Nat)] 24)).alloc (.cells #[.int .u64 (lm px 0 : Nat), .int .u64 (lm px 1 : Nat), .int .u64 (lm px 2 : Nat), .int .u64 (lm px 3 : Nat), .int .u64 (lm py 0 : Nat), .int .u64 (lm py 1 : Nat), .int .u64 (lm py 2 : Nat), .int .u64 (lm py 3 : Nat), .bool pi] 26)) = W0 := ⟨_, rfl⟩
  obtain ⟨B, hB⟩ : ∃ B, w.heap.size = B := ⟨_, rfl⟩
  have Hk := Lib.hid (show U4 W0 (B) 24 (lm k) by rw [← hW0, ← hB]; exact has_alloc (has_alloc_new _ _))
  have Hp := Lib.hid (show U9 W0 (B + 1) px py pi by rw [← hW0, ← hB]; exact has_alloc_at (by simp))
  have HC := Lib.hid (show Chg [] w W0 by rw [← hW0]; exact ((Chg.refl _ _).alloc _).alloc _)
  go_enter Try.func6, Try.ntmps6
  go_upto_region 1 with fail
  try rw [hW0]
  try rw [hB]
  clear hW0 hB
  obtain ⟨k0, k1, k2, k3⟩ := four4 fun _ => Hk.out.cell
  obtain ⟨p0, p1, p2, p3, p4, p5, p6, p7, p8⟩ := Hp.out.all
  go_wp2_with fail
  refine (C1.out _).mono ?_
  rintro e w1 ⟨rfl, hC1⟩
  clear k0 k1 k2 k3 p0 p1 p2 p3 p4 p5 p6 p7 p8
  replace Hk := Lib.hid (Hk.out.chg hC1 nmN)
  replace Hp := Lib.hid (Hp.out.chg hC1 nmN)
  replace HC := Lib.hid (HC.out.trans hC1)
  clear hC1
  obtain ⟨W1, hW1⟩ : ∃ W1, w1.alloc (.cells #[.int .u64 (lm rx 0 : Nat), .int .u64 (lm rx 1 : Nat), .int .u64 (lm rx 2 : Nat), .int .u64 (lm rx 3 : Nat), .int .u64 (lm ry 0 : Nat), .int .u64 (lm ry 1 : Nat), .int .u64 (lm ry 2 : Nat), .int .u64 (lm ry 3 : Nat), .bool ri] 26) = W1 := ⟨_, rfl⟩
  have hA : Chg [] w1 W1 := by rw [← hW1]; exact (Chg.refl _ _).alloc _
  obtain ⟨b_s, hb⟩ : ∃ b, w1.heap.size = b := ⟨_, rfl⟩
  have hN : U9 W1 (b_s) rx ry ri := by rw [← hb, ← hW1]; exact has_alloc_new _ _
  replace Hk := Lib.hid (Hk.out.chg hA nmN)
  replace Hp := Lib.hid (Hp.out.chg hA nmN)
  replace HC := Lib.hid (HC.out.trans hA)
  have Hs := Lib.hid hN
  have HW1 := Lib.hid hW1; have Hb := Lib.hid hb
  clear hW1 hb hA hN
  go_upto_region 2 with fail
  try rw [HW1.out]
  try rw [Hb.out]
  clear HW1 Hb
  obtain ⟨k0, k1, k2, k3⟩ := four4 fun _ => Hk.out.cell
  obtain ⟨p0, p1, p2, p3, p4, p5, p6, p7, p8⟩ := Hp.out.all
  go_wp2_with fail
  refine (C2.out _).mono ?_
  rintro e w1 ⟨rfl, hC1⟩
  clear k0 k1 k2 k3 p0 p1 p2 p3 p4 p5 p6 p7 p8
  replace Hk := Lib.hid (Hk.out.chg hC1 nmN)
  replace Hp := Lib.hid (Hp.out.chg hC1 nmN)
  replace Hs := Lib.hid (Hs.out.chg hC1 nmN)
  replace HC := Lib.hid (HC.out.trans hC1)
  clear hC1
  obtain ⟨W1, hW1⟩ : ∃ W1, w1.alloc (.cells #[.int .u64 (lm rx 0 : Nat), .int .u64 (lm rx 1 : Nat), .int .u64 (lm rx 2 : Nat), .int .u64 (lm rx 3 : Nat), .int .u64 (lm ry 0 : Nat), .int .u64 (lm ry 1 : Nat), .int .u64 (lm ry 2 : Nat), .int .u64 (lm ry 3 : Nat), .bool ri] 26) = W1 := ⟨_, rfl⟩
  have hA : Chg [] w1 W1 := by rw [← hW1]; exact (Chg.refl _ _).alloc _
  obtain ⟨b_t, hb⟩ : ∃ b, w1.heap.size = b := ⟨_, rfl⟩
  have hN : U9 W1 (b_t) rx ry ri := by rw [← hb, ← hW1]; exact has_alloc_new _ _
  replace Hk := Lib.hid (Hk.out.chg hA nmN)
  replace Hp := Lib.hid (Hp.out.chg hA nmN)
  replace Hs := Lib.hid (Hs.out.chg hA nmN)
  replace HC := Lib.hid (HC.out.trans hA)
  have Ht := Lib.hid hN
  have HW1 := Lib.hid hW1; have Hb := Lib.hid hb
  clear hW1 hb hA hN
  go_upto_region 3 with fail
  try rw [HW1.out]
  try rw [Hb.out]
  clear HW1 Hb
  obtain ⟨s0, s1, s2, s3, s4, s5, s6, s7, s8⟩ := Hs.out.all
  obtain ⟨t0, t1, t2, t3, t4, t5, t6, t7, t8⟩ := Ht.out.all
  go_wp2_with fail
  refine (C8.out _).mono ?_
  rintro e w1 ⟨rfl, hC1⟩
  replace Hk := Lib.hid (Hk.out.chg hC1 nmN)
  replace Hp := Lib.hid (Hp.out.chg hC1 nmN)
  replace Hs := Lib.hid (Hs.out.chg hC1 nmN)
  replace Ht := Lib.hid (Ht.out.chg hC1 nmN)
  replace HC := Lib.hid (HC.out.trans hC1)
  clear hC1
  go_wp2_with fail
  go_ret
  exact ⟨rfl, HC.out⟩

section
variable {H : Type} (enc : TypeId × Value → H) (W : World)
set_option maxRecDepth 100000 in
theorem curveTimes_law {v0 v1 : Value} {d0 d1 : DataW H} {p0 p1 : List MemPlace} {base : Nat}
    (h0 : DataW.Trod enc Try.prog W 0 (fun _ => true) true 24 v0 d0 p0) (k0 : Value.okWide Try.prog W .any base 24 v0)
    (h1 : DataW.Trod enc Try.prog W 0 (fun _ => true) true 26 v1 d1 p1) (k1 : Value.okWide Try.prog W .any base 26 v1)
    (_hsz : (DataW.weightsEach Try.prog [24, 26] [d0, d1]).all (· ≤ reachBytes) = true) :
    Calls Try.prog 6 #[v0, v1] W fun e w' => e = .returned (.bool true) ∧ Below W.heap.size W w' := by
  obtain ⟨k, hk, rfl⟩ := open_number k0 h0
  obtain ⟨p, hpx, hpy, rfl⟩ := open_point k1 h1
  cases any_err hk hpx hpy with
  | mk P e hE => exact (times_any hE W).mono fun e w' h => ⟨h.1, h.2.below⟩
end

end Go.Proofs.Ytplldbmjdnikeaa
