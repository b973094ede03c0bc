/- The walk of wardmoteref03.Mul. Printed by muld.py. -/
import Derived.Test.YtplldbmjdnikeaaMulC
import Derived.Test.YtplldbmjdnikeaaTimes
import Derived.Test.YtplldbmjdnikeaaRe4
namespace Go.Proofs.Ytplldbmjdnikeaa
set_option linter.unusedVariables false
set_option linter.unusedSimpArgs false
open Go.RowKit

set_option maxRecDepth 100000 in
set_option maxHeartbeats 4000000 in
theorem ref_mul_k {k px py : Nat} {pi : Bool} (hk : k < B6 ^ 4) (hq : ¬ k < QQ) (w : World) :
    Calls Try.prog 21 #[.agg #[.int .u64 (lm k 0 : Nat), .int .u64 (lm k 1 : Nat), .int .u64 (lm k 2 : Nat), .int .u64 (lm k 3 : Nat)], .agg #[.int .u64 (lm px 0 : Nat), .int .u64 (lm px 1 : Nat), .int .u64 (lm px 2 : Nat), .int .u64 (lm px 3 : Nat), .int .u64 (lm py 0 : Nat), .int .u64 (lm py 1 : Nat), .int .u64 (lm py 2 : Nat), .int .u64 (lm py 3 : Nat), .bool pi]] w fun e w' => e = .returned (.tuple #[.agg #[.int .u64 0, .int .u64 0, .int .u64 0, .int .u64 0, .int .u64 0, .int .u64 0, .int .u64 0, .int .u64 0, .bool false], .int .i64 20]) ∧ Chg [] w w' := by
  have hhs := fun w => ref_has (c := cQ) way_Q.lt hk w
  rw [show decide (k < QQ) = false by simpa using hq] at hhs
  unfold dcCells at hhs
  have HHs := Lib.hid hhs
  clear hhs hk hq
  have HSc := Lib.hid ref_scalars
  unfold dcCells at HSc
  obtain ⟨W0, hW0⟩ : ∃ W0, ((w.alloc (.cells #[.int .u64 (lm k 0 : Nat), .int .u64 (lm k 1 : Nat), .int .u64 (lm k 2 : Nat), .int .u64 (lm k 3 : Nat)] 24)).alloc (.cells #[.int .u64 (lm px 0 : Nat), .int .u64 (lm px 1 : Nat), .int .u64 (lm px 2 : Nat), .int .u64 (lm px 3 : Nat), .int .u64 (lm py 0 : Nat), .int .u64 (lm py 1 : Nat), .int .u64 (lm py 2 : Nat), .int .u64 (lm py 3 : Nat), .bool pi] 26)).alloc (.cells #[.int .u64 0, .int .u64 0, .int .u64 0, .int .u64 0, .int .u64 0, .int .u64 0, .int .u64 0, .int .u64 0, .bool false] 26) = W0 := ⟨_, rfl⟩
  obtain ⟨B, hB⟩ : ∃ B, w.heap.size = B := ⟨_, rfl⟩
  have HK := Lib.hid (show U4 W0 B 24 (lm k) by rw [← hW0, ← hB]; exact has_alloc (has_alloc (has_alloc_new _ _)))
  have HP := Lib.hid (show U9 W0 (B + 1) px py pi by rw [← hW0, ← hB]; exact has_alloc (has_alloc_at (by simp)))
  have HR := Lib.hid (show U9 W0 (B + 1 + 1) 0 0 false from U9.zero (by rw [← hW0, ← hB]; exact has_alloc_at (by simp)))
  have HC := Lib.hid (show Chg [] w W0 by rw [← hW0]; exact (((Chg.refl _ _).alloc _).alloc _).alloc _)
  go_enter Try.func21, Try.ntmps21
  go_wp2_with fail
  try rw [hW0]
  obtain ⟨R, hRe⟩ : ∃ R, B + 1 + 1 = R := ⟨_, rfl⟩
  rw [hRe] at HR ⊢
  have hwR : w.heap.size ≤ R := by omega
  have hBR : B + 1 < R := by omega
  clear hW0 hB hRe
  refine (HSc.out _).mono ?_
  rintro e w1 ⟨rfl, hC1⟩
  obtain ⟨W1, hW1⟩ : ∃ W1, w1.alloc (.cells #[.int .u64 (lm QQ 0 : Nat), .int .u64 (lm QQ 1 : Nat), .int .u64 (lm QQ 2 : Nat), .int .u64 (lm QQ 3 : Nat), .int .u64 (lm cQ 0 : Nat), .int .u64 (lm cQ 1 : Nat), .int .u64 (lm cQ 2 : Nat), .int .u64 (lm cQ 3 : Nat)] 76) = W1 := ⟨_, rfl⟩
  have hA : Chg [] w1 W1 := by rw [← hW1]; exact (Chg.refl _ _).alloc _
  have hN : UD W1 w1.heap.size QQ cQ := by rw [← hW1]; exact has_alloc_new _ _
  obtain ⟨D, hb⟩ : ∃ b, w1.heap.size = b := ⟨_, rfl⟩
  rw [hb] at hN
  replace HK := Lib.hid ((HK.out.chg hC1 nmN).chg hA nmN)
  replace HP := Lib.hid ((HP.out.chg hC1 nmN).chg hA nmN)
  replace HR := Lib.hid ((HR.out.chg hC1 nmN).chg hA nmN)
  replace HC := Lib.hid ((HC.out.trans hC1).trans hA)
  have HD := Lib.hid hN
  have HW1 := Lib.hid hW1; have Hb := Lib.hid hb
  clear hW1 hb hA hN hC1 HSc
  go_upto_region 2 with fail
  try rw [HW1.out]
  try rw [Hb.out]
  clear HW1 Hb
  obtain ⟨D0, D1, D2, D3⟩ := four4 fun _ => (HD.out).cm; obtain ⟨D4, D5, D6, D7⟩ := four4 fun _ => (HD.out).cc
  obtain ⟨k0, k1, k2, k3⟩ := four4 fun _ => HK.out.cell
  go_wp2_with fail
  refine (HHs.out _).mono ?_
  rintro e w2 ⟨rfl, hC1⟩
  replace HK := Lib.hid (HK.out.chg hC1 nmN)
  replace HP := Lib.hid (HP.out.chg hC1 nmN)
  replace HR := Lib.hid (HR.out.chg hC1 nmN)
  replace HC := Lib.hid (HC.out.trans hC1)
  clear hC1 D0 D1 D2 D3 D4 D5 D6 D7 k0 k1 k2 k3
  go_upto_region 3 with fail
  obtain ⟨n0, n1, n2, n3, n4, n5, n6, n7, n8⟩ := HR.out.all
  simp only [lmz] at n0 n1 n2 n3 n4 n5 n6 n7
  obtain ⟨nz0, nz1, nz2, nz3, nz4, nz5, nz6, nz7, nz8⟩ := HR.out.fzs
  have hll := HR.out.lt
  have HF := Lib.hid (HR.out.put 0 0 false); have HCF := Lib.hid (HC.out.put9 (b := R) (Or.inr hwR) 0 0 false)
  go_wp2_with fail
  have hF := HF.out; have hCF := HCF.out
  refine (id ?_ : bodyPost _ _ _ _ _ (put9 w2 R 0 0 false))
  clear HF HCF
  generalize put9 w2 R 0 0 false = W5 at *
  obtain ⟨g0, g1, g2, g3, g4, g5, g6, g7, g8⟩ := hF.all
  simp only [lmz] at g0 g1 g2 g3 g4 g5 g6 g7
  exact bodyPost_ret (v := .tuple #[.agg #[.int .u64 0, .int .u64 0, .int .u64 0, .int .u64 0, .int .u64 0, .int .u64 0, .int .u64 0, .int .u64 0, .bool false], .int .i64 20]) (by simp [results, Try.results21, go_sem, g0, g1, g2, g3, g4, g5, g6, g7, g8]) rfl ⟨rfl, hCF⟩

set_option maxRecDepth 100000 in
set_option maxHeartbeats 4000000 in
theorem ref_mul_p {k px py : Nat} {pi : Bool} (hq : k < QQ) (hb : Bad ⟨px, py, pi⟩) (w : World) :
    Calls Try.prog 21 #[.agg #[.int .u64 (lm k 0 : Nat), .int .u64 (lm k 1 : Nat), .int .u64 (lm k 2 : Nat), .int .u64 (lm k 3 : Nat)], .agg #[.int .u64 (lm px 0 : Nat), .int .u64 (lm px 1 : Nat), .int .u64 (lm px 2 : Nat), .int .u64 (lm px 3 : Nat), .int .u64 (lm py 0 : Nat), .int .u64 (lm py 1 : Nat), .int .u64 (lm py 2 : Nat), .int .u64 (lm py 3 : Nat), .bool pi]] w fun e w' => e = .returned (.tuple #[.agg #[.int .u64 0, .int .u64 0, .int .u64 0, .int .u64 0, .int .u64 0, .int .u64 0, .int .u64 0, .int .u64 0, .bool false], .int .i64 30]) ∧ Chg [] w w' := by
  have hhs := fun w => ref_has (c := cQ) way_Q.lt (Nat.lt_trans hq way_Q.lt) w
  rw [show decide (k < QQ) = true by simpa using hq] at hhs
  unfold dcCells at hhs
  have his := fun w => is_bad hb w
  unfold pv at his
  have HHs := Lib.hid hhs; have HIs := Lib.hid his
  clear hhs hq his hb
  have HSc := Lib.hid ref_scalars
  unfold dcCells at HSc
  obtain ⟨W0, hW0⟩ : ∃ W0, ((w.alloc (.cells #[.int .u64 (lm k 0 : Nat), .int .u64 (lm k 1 : Nat), .int .u64 (lm k 2 : Nat), .int .u64 (lm k 3 : Nat)] 24)).alloc (.cells #[.int .u64 (lm px 0 : Nat), .int .u64 (lm px 1 : Nat), .int .u64 (lm px 2 : Nat), .int .u64 (lm px 3 : Nat), .int .u64 (lm py 0 : Nat), .int .u64 (lm py 1 : Nat), .int .u64 (lm py 2 : Nat), .int .u64 (lm py 3 : Nat), .bool pi] 26)).alloc (.cells #[.int .u64 0, .int .u64 0, .int .u64 0, .int .u64 0, .int .u64 0, .int .u64 0, .int .u64 0, .int .u64 0, .bool false] 26) = W0 := ⟨_, rfl⟩
  obtain ⟨B, hB⟩ : ∃ B, w.heap.size = B := ⟨_, rfl⟩
  have HK := Lib.hid (show U4 W0 B 24 (lm k) by rw [← hW0, ← hB]; exact has_alloc (has_alloc (has_alloc_new _ _)))
  have HP := Lib.hid (show U9 W0 (B + 1) px py pi by rw [← hW0, ← hB]; exact has_alloc (has_alloc_at (by simp)))
  have HR := Lib.hid (show U9 W0 (B + 1 + 1) 0 0 false from U9.zero (by rw [← hW0, ← hB]; exact has_alloc_at (by simp)))
  have HC := Lib.hid (show Chg [] w W0 by rw [← hW0]; exact (((Chg.refl _ _).alloc _).alloc _).alloc _)
  go_enter Try.func21, Try.ntmps21
  go_wp2_with fail
  try rw [hW0]
  obtain ⟨R, hRe⟩ : ∃ R, B + 1 + 1 = R := ⟨_, rfl⟩
  rw [hRe] at HR ⊢
  have hwR : w.heap.size ≤ R := by omega
  have hBR : B + 1 < R := by omega
  clear hW0 hB hRe
  refine (HSc.out _).mono ?_
  rintro e w1 ⟨rfl, hC1⟩
  obtain ⟨W1, hW1⟩ : ∃ W1, w1.alloc (.cells #[.int .u64 (lm QQ 0 : Nat), .int .u64 (lm QQ 1 : Nat), .int .u64 (lm QQ 2 : Nat), .int .u64 (lm QQ 3 : Nat), .int .u64 (lm cQ 0 : Nat), .int .u64 (lm cQ 1 : Nat), .int .u64 (lm cQ 2 : Nat), .int .u64 (lm cQ 3 : Nat)] 76) = W1 := ⟨_, rfl⟩
  have hA : Chg [] w1 W1 := by rw [← hW1]; exact (Chg.refl _ _).alloc _
  have hN : UD W1 w1.heap.size QQ cQ := by rw [← hW1]; exact has_alloc_new _ _
  obtain ⟨D, hb⟩ : ∃ b, w1.heap.size = b := ⟨_, rfl⟩
  rw [hb] at hN
  replace HK := Lib.hid ((HK.out.chg hC1 nmN).chg hA nmN)
  replace HP := Lib.hid ((HP.out.chg hC1 nmN).chg hA nmN)
  replace HR := Lib.hid ((HR.out.chg hC1 nmN).chg hA nmN)
  replace HC := Lib.hid ((HC.out.trans hC1).trans hA)
  have HD := Lib.hid hN
  have HW1 := Lib.hid hW1; have Hb := Lib.hid hb
  clear hW1 hb hA hN hC1 HSc
  go_upto_region 2 with fail
  try rw [HW1.out]
  try rw [Hb.out]
  clear HW1 Hb
  obtain ⟨D0, D1, D2, D3⟩ := four4 fun _ => (HD.out).cm; obtain ⟨D4, D5, D6, D7⟩ := four4 fun _ => (HD.out).cc
  obtain ⟨k0, k1, k2, k3⟩ := four4 fun _ => HK.out.cell
  go_wp2_with fail
  refine (HHs.out _).mono ?_
  rintro e w2 ⟨rfl, hC1⟩
  replace HK := Lib.hid (HK.out.chg hC1 nmN)
  replace HP := Lib.hid (HP.out.chg hC1 nmN)
  replace HR := Lib.hid (HR.out.chg hC1 nmN)
  replace HC := Lib.hid (HC.out.trans hC1)
  clear hC1 D0 D1 D2 D3 D4 D5 D6 D7 k0 k1 k2 k3
  obtain ⟨p0, p1, p2, p3, p4, p5, p6, p7, p8⟩ := HP.out.all
  go_wp2_with fail
  refine (HIs.out _).mono ?_
  rintro e w3 ⟨rfl, hC1⟩
  replace HK := Lib.hid (HK.out.chg hC1 nmN)
  replace HP := Lib.hid (HP.out.chg hC1 nmN)
  replace HR := Lib.hid (HR.out.chg hC1 nmN)
  replace HC := Lib.hid (HC.out.trans hC1)
  clear hC1 p0 p1 p2 p3 p4 p5 p6 p7 p8
  go_upto_region 5 with fail
  obtain ⟨n0, n1, n2, n3, n4, n5, n6, n7, n8⟩ := HR.out.all
  simp only [lmz] at n0 n1 n2 n3 n4 n5 n6 n7
  obtain ⟨nz0, nz1, nz2, nz3, nz4, nz5, nz6, nz7, nz8⟩ := HR.out.fzs
  have hll := HR.out.lt
  have HF := Lib.hid (HR.out.put 0 0 false); have HCF := Lib.hid (HC.out.put9 (b := R) (Or.inr hwR) 0 0 false)
  go_wp2_with fail
  have hF := HF.out; have hCF := HCF.out
  refine (id ?_ : bodyPost _ _ _ _ _ (put9 w3 R 0 0 false))
  clear HF HCF
  generalize put9 w3 R 0 0 false = W5 at *
  obtain ⟨g0, g1, g2, g3, g4, g5, g6, g7, g8⟩ := hF.all
  simp only [lmz] at g0 g1 g2 g3 g4 g5 g6 g7
  exact bodyPost_ret (v := .tuple #[.agg #[.int .u64 0, .int .u64 0, .int .u64 0, .int .u64 0, .int .u64 0, .int .u64 0, .int .u64 0, .int .u64 0, .bool false], .int .i64 30]) (by simp [results, Try.results21, go_sem, g0, g1, g2, g3, g4, g5, g6, g7, g8]) rfl ⟨rfl, hCF⟩

set_option maxRecDepth 100000 in
set_option maxHeartbeats 4000000 in
theorem ref_mul_ok {k : Nat} {P : Pc} (hq : k < QQ) (hP : P.on 7) (w : World) :
    Calls Try.prog 21 #[.agg #[.int .u64 (lm k 0 : Nat), .int .u64 (lm k 1 : Nat), .int .u64 (lm k 2 : Nat), .int .u64 (lm k 3 : Nat)], .agg (pv (ofP P))] w fun e w' => e = .returned (.tuple #[.agg (pv (ofP (mulP k P))), .int .i64 0]) ∧ Chg [] w w' := by
  have hk := Nat.lt_trans hq way_Q.lt
  have hhs := fun w => ref_has (c := cQ) way_Q.lt hk w
  rw [show decide (k < QQ) = true by simpa using hq] at hhs
  unfold dcCells at hhs
  have his := fun w => is_ok hP w
  have hr := repo_out (rtm_all hk hP)
  have i1 := fun w => ref_inP P w
  have i2 := fun w => ref_ktimes k (rin P) w
  have i3 := fun w => ref_out (rtm k (rin P) 256) w
  rw [hr] at i3
  obtain ⟨px, hpx⟩ : ∃ t, (ofP P).x = t := ⟨_, rfl⟩
  obtain ⟨py, hpy⟩ : ∃ t, (ofP P).y = t := ⟨_, rfl⟩
  obtain ⟨pi, hpi⟩ : ∃ t, (ofP P).inf = t := ⟨_, rfl⟩
  have ep : pv (ofP P) = #[.int .u64 (lm px 0 : Nat), .int .u64 (lm px 1 : Nat), .int .u64 (lm px 2 : Nat), .int .u64 (lm px 3 : Nat), .int .u64 (lm py 0 : Nat), .int .u64 (lm py 1 : Nat), .int .u64 (lm py 2 : Nat), .int .u64 (lm py 3 : Nat), .bool pi] := by unfold pv; rw [hpx, hpy, hpi]
  obtain ⟨T, hT⟩ : ∃ T, ofP (mulP k P) = T := ⟨_, rfl⟩
  obtain ⟨u, hu⟩ : ∃ u, ov (rin P) = u := ⟨_, rfl⟩
  obtain ⟨v, hv⟩ : ∃ v, ov (rtm k (rin P) 256) = v := ⟨_, rfl⟩
  rw [hT] at i3 ⊢
  obtain ⟨rx, ry, ri⟩ := T
  rw [ep] at his i1 ⊢
  rw [hu] at i1 i2
  rw [hv] at i2 i3
  unfold pv at i3 ⊢
  have HHs := Lib.hid hhs; have HIs := Lib.hid his; have I1 := Lib.hid i1; have I2 := Lib.hid i2; have I3 := Lib.hid i3
  clear hhs his hr i1 i2 i3 ep hpx hpy hpi hT hu hv hk hP hq
  have HSc := Lib.hid ref_scalars
  unfold dcCells at HSc
  obtain ⟨W0, hW0⟩ : ∃ W0, ((w.alloc (.cells #[.int .u64 (lm k 0 : Nat), .int .u64 (lm k 1 : Nat), .int .u64 (lm k 2 : Nat), .int .u64 (lm k 3 : Nat)] 24)).alloc (.cells #[.int .u64 (lm px 0 : Nat), .int .u64 (lm px 1 : Nat), .int .u64 (lm px 2 : Nat), .int .u64 (lm px 3 : Nat), .int .u64 (lm py 0 : Nat), .int .u64 (lm py 1 : Nat), .int .u64 (lm py 2 : Nat), .int .u64 (lm py 3 : Nat), .bool pi] 26)).alloc (.cells #[.int .u64 0, .int .u64 0, .int .u64 0, .int .u64 0, .int .u64 0, .int .u64 0, .int .u64 0, .int .u64 0, .bool false] 26) = W0 := ⟨_, rfl⟩
  obtain ⟨B, hB⟩ : ∃ B, w.heap.size = B := ⟨_, rfl⟩
  have HK := Lib.hid (show U4 W0 B 24 (lm k) by rw [← hW0, ← hB]; exact has_alloc (has_alloc (has_alloc_new _ _)))
  have HP := Lib.hid (show U9 W0 (B + 1) px py pi by rw [← hW0, ← hB]; exact has_alloc (has_alloc_at (by simp)))
  have HR := Lib.hid (show U9 W0 (B + 1 + 1) 0 0 false from U9.zero (by rw [← hW0, ← hB]; exact has_alloc_at (by simp)))
  have HC := Lib.hid (show Chg [] w W0 by rw [← hW0]; exact (((Chg.refl _ _).alloc _).alloc _).alloc _)
  go_enter Try.func21, Try.ntmps21
  go_wp2_with fail
  try rw [hW0]
  obtain ⟨R, hRe⟩ : ∃ R, B + 1 + 1 = R := ⟨_, rfl⟩
  rw [hRe] at HR ⊢
  have hwR : w.heap.size ≤ R := by omega
  have hBR : B + 1 < R := by omega
  clear hW0 hB hRe
  refine (HSc.out _).mono ?_
  rintro e w1 ⟨rfl, hC1⟩
  obtain ⟨W1, hW1⟩ : ∃ W1, w1.alloc (.cells #[.int .u64 (lm QQ 0 : Nat), .int .u64 (lm QQ 1 : Nat), .int .u64 (lm QQ 2 : Nat), .int .u64 (lm QQ 3 : Nat), .int .u64 (lm cQ 0 : Nat), .int .u64 (lm cQ 1 : Nat), .int .u64 (lm cQ 2 : Nat), .int .u64 (lm cQ 3 : Nat)] 76) = W1 := ⟨_, rfl⟩
  have hA : Chg [] w1 W1 := by rw [← hW1]; exact (Chg.refl _ _).alloc _
  have hN : UD W1 w1.heap.size QQ cQ := by rw [← hW1]; exact has_alloc_new _ _
  obtain ⟨D, hb⟩ : ∃ b, w1.heap.size = b := ⟨_, rfl⟩
  rw [hb] at hN
  replace HK := Lib.hid ((HK.out.chg hC1 nmN).chg hA nmN)
  replace HP := Lib.hid ((HP.out.chg hC1 nmN).chg hA nmN)
  replace HR := Lib.hid ((HR.out.chg hC1 nmN).chg hA nmN)
  replace HC := Lib.hid ((HC.out.trans hC1).trans hA)
  have HD := Lib.hid hN
  have HW1 := Lib.hid hW1; have Hb := Lib.hid hb
  clear hW1 hb hA hN hC1 HSc
  go_upto_region 2 with fail
  try rw [HW1.out]
  try rw [Hb.out]
  clear HW1 Hb
  obtain ⟨D0, D1, D2, D3⟩ := four4 fun _ => (HD.out).cm; obtain ⟨D4, D5, D6, D7⟩ := four4 fun _ => (HD.out).cc
  obtain ⟨k0, k1, k2, k3⟩ := four4 fun _ => HK.out.cell
  go_wp2_with fail
  refine (HHs.out _).mono ?_
  rintro e w2 ⟨rfl, hC1⟩
  replace HK := Lib.hid (HK.out.chg hC1 nmN)
  replace HP := Lib.hid (HP.out.chg hC1 nmN)
  replace HR := Lib.hid (HR.out.chg hC1 nmN)
  replace HC := Lib.hid (HC.out.trans hC1)
  clear hC1 D0 D1 D2 D3 D4 D5 D6 D7 k0 k1 k2 k3
  obtain ⟨p0, p1, p2, p3, p4, p5, p6, p7, p8⟩ := HP.out.all
  go_wp2_with fail
  refine (HIs.out _).mono ?_
  rintro e w3 ⟨rfl, hC1⟩
  replace HK := Lib.hid (HK.out.chg hC1 nmN)
  replace HP := Lib.hid (HP.out.chg hC1 nmN)
  replace HR := Lib.hid (HR.out.chg hC1 nmN)
  replace HC := Lib.hid (HC.out.trans hC1)
  clear hC1 p0 p1 p2 p3 p4 p5 p6 p7 p8
  obtain ⟨p0, p1, p2, p3, p4, p5, p6, p7, p8⟩ := HP.out.all
  obtain ⟨k0, k1, k2, k3⟩ := four4 fun _ => HK.out.cell
  have hRz := HR.out
  unfold U9 at hRz
  simp only [lmz] at hRz
  go_upto_region 6 with fail
  refine abs_region (B := Chg [R] w3) (S := fun w => Chg [R] w3 w ∧ w.heap[R]? = some (.cells #[.int .u64 0, .int .u64 0, .int .u64 0, .int .u64 0, .int .u64 0, .int .u64 0, .int .u64 0, .int .u64 0, .bool false] 26 (0, 0))) (by kernel_rfl) ⟨(Chg.refl _ _).drew, hRz⟩ ?_
  have hG := good_at [R] w3 R (.cells #[.int .u64 0, .int .u64 0, .int .u64 0, .int .u64 0, .int .u64 0, .int .u64 0, .int .u64 0, .int .u64 0, .bool false] 26 (0, 0))
  refine Abs.take_np (i := 0) (d := some 17) (v := ?_) rfl rfl (by kernel_rfl) (by kernel_rfl) (by kernel_rfl) hG ⟨by rfl, fun w9 hw9 => Or.inl ?_⟩ ?_
  rotate_left
  · replace k0 := hw9.cell k0 (by simp; omega); replace k1 := hw9.cell k1 (by simp; omega); replace k2 := hw9.cell k2 (by simp; omega); replace k3 := hw9.cell k3 (by simp; omega)
    go_simp
    try with_reducible rfl
  simp only [Act.put, stA, stB, stC]
  refine Abs.take_np (i := 1) (d := some 18) (v := ?_) rfl rfl (by kernel_rfl) (by kernel_rfl) (by kernel_rfl) hG ⟨by rfl, fun w9 hw9 => Or.inl ?_⟩ ?_
  rotate_left
  · replace p0 := hw9.cell p0 (by simp; omega); replace p1 := hw9.cell p1 (by simp; omega); replace p2 := hw9.cell p2 (by simp; omega); replace p3 := hw9.cell p3 (by simp; omega); replace p4 := hw9.cell p4 (by simp; omega); replace p5 := hw9.cell p5 (by simp; omega); replace p6 := hw9.cell p6 (by simp; omega); replace p7 := hw9.cell p7 (by simp; omega); replace p8 := hw9.cell p8 (by simp; omega)
    go_simp
    try with_reducible rfl
  simp only [Act.put, stA, stB, stC]
  refine Abs.take_np (i := 2) (d := some 19) (v := _) rfl rfl (by kernel_rfl) (by kernel_rfl) (by kernel_rfl) hG ⟨by rfl, fun w9 hw9 => Or.inr ⟨_, _, ?_, I1.out w9⟩⟩ ?_
  · go_simp
    try with_reducible rfl
  simp only [Act.put, stA, stB, stC]
  refine Abs.take_np (i := 3) (d := some 20) (v := _) rfl rfl (by kernel_rfl) (by kernel_rfl) (by kernel_rfl) hG ⟨by rfl, fun w9 hw9 => Or.inr ⟨_, _, ?_, I2.out w9⟩⟩ ?_
  · go_simp
    try with_reducible rfl
  simp only [Act.put, stA, stB, stC]
  refine Abs.take_np (i := 4) (d := some 21) (v := _) rfl rfl (by kernel_rfl) (by kernel_rfl) (by kernel_rfl) hG ⟨by rfl, fun w9 hw9 => Or.inr ⟨_, _, ?_, I3.out w9⟩⟩ ?_
  · go_simp
    try with_reducible rfl
  simp only [Act.put, stA, stB, stC]
  refine Abs.store4 (i := 5) (b := R) (ds := #[.int .u64 (lm rx 0 : Nat), .int .u64 (lm rx 1 : Nat), .int .u64 (lm rx 2 : Nat), .int .u64 (lm rx 3 : Nat), .int .u64 (lm ry 0 : Nat), .int .u64 (lm ry 1 : Nat), .int .u64 (lm ry 2 : Nat), .int .u64 (lm ry 3 : Nat), .bool ri]) rfl (by kernel_rfl) (by rfl) (fun w9 => (((((((((w9.setCell ⟨R, 0, none⟩ (.int .u64 (lm rx 0 : Nat))).setCell ⟨R, 1, none⟩ (.int .u64 (lm rx 1 : Nat))).setCell ⟨R, 2, none⟩ (.int .u64 (lm rx 2 : Nat))).setCell ⟨R, 3, none⟩ (.int .u64 (lm rx 3 : Nat))).setCell ⟨R, 4, none⟩ (.int .u64 (lm ry 0 : Nat))).setCell ⟨R, 5, none⟩ (.int .u64 (lm ry 1 : Nat))).setCell ⟨R, 6, none⟩ (.int .u64 (lm ry 2 : Nat))).setCell ⟨R, 7, none⟩ (.int .u64 (lm ry 3 : Nat))).setCell ⟨R, 8, none⟩ (.bool ri))) (fun w9 h9 => ⟨?_, ?_, ?_⟩) (fun _ _ h k => Chg.keeps (Or.inl (by simp)) h k) (good_chg [R] w3) (fun hG => ?_)
  · have n0 := cell_of_has h9 0; have n1 := cell_of_has h9 1; have n2 := cell_of_has h9 2; have n3 := cell_of_has h9 3; have n4 := cell_of_has h9 4; have n5 := cell_of_has h9 5; have n6 := cell_of_has h9 6; have n7 := cell_of_has h9 7; have n8 := cell_of_has h9 8
    simp only [glA, glB, glC] at n0 n1 n2 n3 n4 n5 n6 n7 n8
    have nz0 := frozen_of_has h9 0; have nz1 := frozen_of_has h9 1; have nz2 := frozen_of_has h9 2; have nz3 := frozen_of_has h9 3; have nz4 := frozen_of_has h9 4; have nz5 := frozen_of_has h9 5; have nz6 := frozen_of_has h9 6; have nz7 := frozen_of_has h9 7; have nz8 := frozen_of_has h9 8
    clear h9
    go_simp
    try with_reducible rfl
  · exact U9.put (U9.zero h9) rx ry ri
  · exact Chg.put9 (Chg.refl _ _) (Or.inl (by simp)) rx ry ri
  refine Abs.at_put (d := none) rfl ?_
  simp only [Act.put, stA, stB, stC]
  refine Abs.take_np (i := 6) (d := some 5) (v := ?_) rfl rfl (by kernel_rfl) (by kernel_rfl) (by kernel_rfl) hG ⟨by rfl, fun w9 hw9 => Or.inl ?_⟩ ?_
  rotate_left
  · go_simp
    try with_reducible rfl
  simp only [Act.put, stA, stB, stC]
  refine Abs.done (by kernel_rfl) (fun wx hx => NoPanic.normal ?_) _
  obtain ⟨hA, hN⟩ := hx
  have hCF : Chg [] w wx := HC.out.trans_new hA (by simp; omega)
  have g0 := cell_of_has hN 0; have g1 := cell_of_has hN 1; have g2 := cell_of_has hN 2; have g3 := cell_of_has hN 3; have g4 := cell_of_has hN 4; have g5 := cell_of_has hN 5; have g6 := cell_of_has hN 6; have g7 := cell_of_has hN 7; have g8 := cell_of_has hN 8
  simp only [glA, glB, glC] at g0 g1 g2 g3 g4 g5 g6 g7 g8
  go_wp2_with fail
  exact bodyPost_ret (v := .tuple #[.agg #[.int .u64 (lm rx 0 : Nat), .int .u64 (lm rx 1 : Nat), .int .u64 (lm rx 2 : Nat), .int .u64 (lm rx 3 : Nat), .int .u64 (lm ry 0 : Nat), .int .u64 (lm ry 1 : Nat), .int .u64 (lm ry 2 : Nat), .int .u64 (lm ry 3 : Nat), .bool ri], .int .i64 0]) (by simp [results, Try.results21, go_sem, g0, g1, g2, g3, g4, g5, g6, g7, g8]) rfl ⟨rfl, hCF⟩

theorem ref_mul3 {k e : Nat} {p : Pd} {P : Pc} (hE : ErrOf k p P e) (w : World) :
    Calls Try.prog 21 #[.agg #[.int .u64 (lm k 0 : Nat), .int .u64 (lm k 1 : Nat), .int .u64 (lm k 2 : Nat), .int .u64 (lm k 3 : Nat)], .agg (pv p)] w fun x w' => x = .returned (.tuple #[.agg (pv (mulV e k P)), .int .i64 (e : Nat)]) ∧ Chg [] w w' := by
  have hz : pv ⟨0, 0, false⟩ = #[.int .u64 0, .int .u64 0, .int .u64 0, .int .u64 0, .int .u64 0, .int .u64 0, .int .u64 0, .int .u64 0, .bool false] := by unfold pv; simp only [lmz]
  cases hE with
  | range h hk =>
    rw [show mulV 20 k P = ⟨0, 0, false⟩ from rfl, hz]
    exact ref_mul_k hk h w
  | curve h hb =>
    rw [show mulV 30 k P = ⟨0, 0, false⟩ from rfl, hz]
    exact ref_mul_p h hb w
  | fine h hP hp =>
    rw [hp, show mulV 0 k P = ofP (mulP k P) from rfl]
    exact ref_mul_ok h hP w

end Go.Proofs.Ytplldbmjdnikeaa
