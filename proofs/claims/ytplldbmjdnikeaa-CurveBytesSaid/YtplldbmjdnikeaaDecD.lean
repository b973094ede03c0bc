/- The walk of curve.Decode where a number follows. Printed by decd.py. -/
import Derived.Test.YtplldbmjdnikeaaDecC
import Derived.Test.YtplldbmjdnikeaaCu3
namespace Go.Proofs.Ytplldbmjdnikeaa
set_option linter.unusedVariables false
set_option linter.unusedSimpArgs false
open Go.RowKit

theorem drop_str {l : List UInt8} (hl : l.length = 33) : (⟨l.toArray⟩ : ByteArray).extract 1 33 = ⟨(l.drop 1).toArray⟩ := by
  apply ByteArray.ext
  rw [ByteArray.data_extract, List.extract_toArray]
  congr 1
  rw [List.extract_eq_take_drop, List.take_of_length_le (by simp; omega)]
theorem evR_lt {m r : Nat} (h : r < m) : evR m r < m := by
  unfold evR
  by_cases h1 : r % 2 = 1
  · rw [if_pos h1]; exact Nat.mod_lt _ (by omega)
  · rw [if_neg h1]; exact h

set_option maxRecDepth 100000 in
set_option maxHeartbeats 8000000 in
theorem dec_range2 {l : List UInt8} (hl : l.length = 33) (hc : sb l 0 = 2) (hn : ¬ nb (l.drop 1) < PP) (w : World) :
    Calls Try.prog 29 #[.string ⟨l.toArray⟩] w fun e w' => e = .returned (.tuple #[.agg #[.int .u64 0, .int .u64 0, .int .u64 0, .int .u64 0, .int .u64 0, .int .u64 0, .int .u64 0, .int .u64 0, .bool false], .int .i64 20]) ∧ Chg [] w w' := by
  have hix := fun w => index_sb (l := l) (j := 0) (by omega) w
  have hl1 : (l.drop 1).length = 32 := by rw [List.length_drop]; omega
  have hext := drop_str hl
  have hdc := fun f w hF => field_decode_bad (f := f) hl1 way_P.lt hn w hF
  obtain ⟨s, hs⟩ : ∃ s : ByteArray, ⟨l.toArray⟩ = s := ⟨_, rfl⟩
  obtain ⟨s1, hs1⟩ : ∃ s : ByteArray, ⟨(l.drop 1).toArray⟩ = s := ⟨_, rfl⟩
  have hsz := size_str hs
  rw [hl] at hsz
  rw [hc] at hix
  rw [hs] at hix hext ⊢
  rw [hs1] at hext hdc
  have HDc := Lib.hid hdc
  replace hix : ∀ w, (Instr.index 9 (.string s) (.int .i64 0)).run Try.prog w = .ok (.int .u8 2) w := hix
  clear hs hs1 hl hl1 hc hdc hn
  obtain ⟨W0, hW0⟩ : ∃ W0, w.alloc (.cells #[.int .u64 0, .int .u64 0, .int .u64 0, .int .u64 0, .int .u64 0, .int .u64 0, .int .u64 0, .int .u64 0, .bool false] 26) = W0 := ⟨_, rfl⟩
  obtain ⟨R, hR⟩ : ∃ R, w.heap.size = R := ⟨_, rfl⟩
  have HR := Lib.hid (show U9 W0 R 0 0 false from U9.zero (by rw [← hW0, ← hR]; exact has_alloc_new _ _))
  have HC := Lib.hid (show Chg [] w W0 by rw [← hW0]; exact (Chg.refl _ _).alloc _)
  have HwR := Lib.hid (Nat.le_of_eq hR)
  go_enter Try.func29, Try.ntmps29
  go_upto_region 1 with fail
  try rw [hW0]
  try rw [hR]
  clear hW0 hR
  go_wp2_with fail
  refine (field_base _).mono ?_
  rintro e w1 ⟨f, fa, rfl, hC1, hF⟩
  replace HR := Lib.hid (HR.out.chg hC1 nmN); replace HC := Lib.hid (HC.out.trans hC1)
  have HF := Lib.hid hF
  clear hC1 hF
  go_wp2_with fail
  refine (HDc.out f _ HF.out.m4).mono ?_
  rintro e w1 ⟨rfl, hC1⟩
  obtain ⟨W1, hW1⟩ : ∃ W1, w1.alloc (.cells #[.int .u64 0, .int .u64 0, .int .u64 0, .int .u64 0] 24) = W1 := ⟨_, rfl⟩
  have hA : Chg [] w1 W1 := by rw [← hW1]; exact (Chg.refl _ _).alloc _
  obtain ⟨X, hb⟩ : ∃ b, w1.heap.size = b := ⟨_, rfl⟩
  have HBX := Lib.hid (show U4 W1 X 24 (fun _ => 0) by rw [← hb, ← hW1]; exact has_alloc_new _ _)
  replace HR := Lib.hid ((HR.out.chg hC1 nmN).chg hA nmN); replace HC := Lib.hid ((HC.out.trans hC1).trans hA); replace HF := Lib.hid ((HF.out.ch hC1).ch hA)
  have HW1 := Lib.hid hW1; have Hb := Lib.hid hb
  clear hC1 hA hW1 hb
  go_upto_region 9 with fail
  try rw [HW1.out]
  try rw [Hb.out]
  clear HW1 Hb
  go_upto_region 10 with fail
  obtain ⟨n0, n1, n2, n3, n4, n5, n6, n7, n8⟩ := HR.out.all
  simp only [lm_zero'] at n0 n1 n2 n3 n4 n5 n6 n7
  obtain ⟨nz0, nz1, nz2, nz3, nz4, nz5, nz6, nz7, nz8⟩ := HR.out.fzs'
  have hll := HR.out.lt
  have HF := Lib.hid (HR.out.put 0 0 false); have HCF := Lib.hid (HC.out.put9 (b := R) (Or.inr HwR.out) 0 0 false)
  go_wp2_with fail
  have hF := HF.out; have hCF := HCF.out
  refine (id ?_ : bodyPost _ _ _ _ _ (put9 W1 R 0 0 false))
  clear HF HCF
  generalize put9 W1 R 0 0 false = W5 at *
  obtain ⟨g0, g1, g2, g3, g4, g5, g6, g7, g8⟩ := hF.all
  simp only [lm_zero'] at g0 g1 g2 g3 g4 g5 g6 g7
  exact bodyPost_ret (v := .tuple #[.agg #[.int .u64 0, .int .u64 0, .int .u64 0, .int .u64 0, .int .u64 0, .int .u64 0, .int .u64 0, .int .u64 0, .bool false], .int .i64 20]) (by simp [results, Try.results29, go_sem, g0, g1, g2, g3, g4, g5, g6, g7, g8]) rfl ⟨rfl, hCF⟩

set_option maxRecDepth 100000 in
set_option maxHeartbeats 8000000 in
theorem dec_root2 {l : List UInt8} (hl : l.length = 33) (hc : sb l 0 = 2) {x : Fin PP} (hn : nb (l.drop 1) = x.val) (hr : ¬ ((cub x).val ^ rootP % PP) * ((cub x).val ^ rootP % PP) % PP = (cub x).val) (w : World) :
    Calls Try.prog 29 #[.string ⟨l.toArray⟩] w fun e w' => e = .returned (.tuple #[.agg #[.int .u64 0, .int .u64 0, .int .u64 0, .int .u64 0, .int .u64 0, .int .u64 0, .int .u64 0, .int .u64 0, .bool false], .int .i64 30]) ∧ Chg [] w w' := by
  have hix := fun w => index_sb (l := l) (j := 0) (by omega) w
  have hl1 : (l.drop 1).length = 32 := by rw [List.length_drop]; omega
  have hext := drop_str hl
  have hdc := fun f w hF => field_decode_ok (f := f) hl1 way_P.lt (by rw [hn]; exact x.isLt) w hF
  rw [hn] at hdc
  have hcb := fun f a w hF => curve_cubic (f := f) (a := a) (x := x) rfl rfl w hF
  have hsq := fun f a w hF => field_sqrt_bad (f := f) (fa := a) way_P (show 1 < PP by decide) (show rootP < B6 ^ 4 by decide +kernel) (by decide) (cub x).isLt hr w hF
  obtain ⟨xv, hxv⟩ : ∃ v, x.val = v := ⟨_, rfl⟩
  obtain ⟨cv, hcv⟩ : ∃ v, (cub x).val = v := ⟨_, rfl⟩
  rw [hxv] at hdc hcb
  rw [hcv] at hcb hsq
  have HCb := Lib.hid hcb; have HSq := Lib.hid hsq
  clear hcb hsq hcv hr
  obtain ⟨s, hs⟩ : ∃ s : ByteArray, ⟨l.toArray⟩ = s := ⟨_, rfl⟩
  obtain ⟨s1, hs1⟩ : ∃ s : ByteArray, ⟨(l.drop 1).toArray⟩ = s := ⟨_, rfl⟩
  have hsz := size_str hs
  rw [hl] at hsz
  rw [hc] at hix
  rw [hs] at hix hext ⊢
  rw [hs1] at hext hdc
  have HDc := Lib.hid hdc
  replace hix : ∀ w, (Instr.index 9 (.string s) (.int .i64 0)).run Try.prog w = .ok (.int .u8 2) w := hix
  clear hs hs1 hl hl1 hc hdc hxv hn
  obtain ⟨W0, hW0⟩ : ∃ W0, w.alloc (.cells #[.int .u64 0, .int .u64 0, .int .u64 0, .int .u64 0, .int .u64 0, .int .u64 0, .int .u64 0, .int .u64 0, .bool false] 26) = W0 := ⟨_, rfl⟩
  obtain ⟨R, hR⟩ : ∃ R, w.heap.size = R := ⟨_, rfl⟩
  have HR := Lib.hid (show U9 W0 R 0 0 false from U9.zero (by rw [← hW0, ← hR]; exact has_alloc_new _ _))
  have HC := Lib.hid (show Chg [] w W0 by rw [← hW0]; exact (Chg.refl _ _).alloc _)
  have HwR := Lib.hid (Nat.le_of_eq hR)
  go_enter Try.func29, Try.ntmps29
  go_upto_region 1 with fail
  try rw [hW0]
  try rw [hR]
  clear hW0 hR
  go_wp2_with fail
  refine (field_base _).mono ?_
  rintro e w1 ⟨f, fa, rfl, hC1, hF⟩
  replace HR := Lib.hid (HR.out.chg hC1 nmN); replace HC := Lib.hid (HC.out.trans hC1)
  have HF := Lib.hid hF
  clear hC1 hF
  go_wp2_with fail
  refine (HDc.out f _ HF.out.m4).mono ?_
  rintro e w1 ⟨rfl, hC1⟩
  obtain ⟨W1, hW1⟩ : ∃ W1, w1.alloc (.cells #[.int .u64 (lm xv 0 : Nat), .int .u64 (lm xv 1 : Nat), .int .u64 (lm xv 2 : Nat), .int .u64 (lm xv 3 : Nat)] 24) = W1 := ⟨_, rfl⟩
  have hA : Chg [] w1 W1 := by rw [← hW1]; exact (Chg.refl _ _).alloc _
  obtain ⟨X, hb⟩ : ∃ b, w1.heap.size = b := ⟨_, rfl⟩
  have HBX := Lib.hid (show U4 W1 X 24 (lm xv) by rw [← hb, ← hW1]; exact has_alloc_new _ _)
  replace HR := Lib.hid ((HR.out.chg hC1 nmN).chg hA nmN); replace HC := Lib.hid ((HC.out.trans hC1).trans hA); replace HF := Lib.hid ((HF.out.ch hC1).ch hA)
  have HW1 := Lib.hid hW1; have Hb := Lib.hid hb
  clear hC1 hA hW1 hb
  go_upto_region 11 with fail
  try rw [HW1.out]
  try rw [Hb.out]
  clear HW1 Hb
  obtain ⟨x0, x1, x2, x3⟩ := four4 fun _ => HBX.out.cell
  go_wp2_with fail
  refine (HCb.out f fa _ HF.out).mono ?_
  rintro e w1 ⟨rfl, hC1⟩
  replace HR := Lib.hid (HR.out.chg hC1 nmN); replace HC := Lib.hid (HC.out.trans hC1); replace HF := Lib.hid (HF.out.ch hC1); replace HBX := Lib.hid (HBX.out.chg hC1 nmN)
  clear hC1 x0 x1 x2 x3
  go_wp2_with fail
  refine (HSq.out f fa _ HF.out).mono ?_
  rintro e w1 ⟨rfl, hC1⟩
  clear HBX
  obtain ⟨W1, hW1⟩ : ∃ W1, w1.alloc (.cells #[.int .u64 0, .int .u64 0, .int .u64 0, .int .u64 0] 24) = W1 := ⟨_, rfl⟩
  have hA : Chg [] w1 W1 := by rw [← hW1]; exact (Chg.refl _ _).alloc _
  obtain ⟨Y, hb⟩ : ∃ b, w1.heap.size = b := ⟨_, rfl⟩
  have HBY := Lib.hid (show U4 W1 Y 24 (fun _ => 0) by rw [← hb, ← hW1]; exact has_alloc_new _ _)
  replace HR := Lib.hid ((HR.out.chg hC1 nmN).chg hA nmN); replace HC := Lib.hid ((HC.out.trans hC1).trans hA); replace HF := Lib.hid ((HF.out.ch hC1).ch hA)
  have HW1 := Lib.hid hW1; have Hb := Lib.hid hb
  clear hC1 hA hW1 hb
  go_upto_region 12 with fail
  try rw [HW1.out]
  try rw [Hb.out]
  clear HW1 Hb
  go_upto_region 13 with fail
  obtain ⟨n0, n1, n2, n3, n4, n5, n6, n7, n8⟩ := HR.out.all
  simp only [lm_zero'] at n0 n1 n2 n3 n4 n5 n6 n7
  obtain ⟨nz0, nz1, nz2, nz3, nz4, nz5, nz6, nz7, nz8⟩ := HR.out.fzs'
  have hll := HR.out.lt
  have HF := Lib.hid (HR.out.put 0 0 false); have HCF := Lib.hid (HC.out.put9 (b := R) (Or.inr HwR.out) 0 0 false)
  go_wp2_with fail
  have hF := HF.out; have hCF := HCF.out
  refine (id ?_ : bodyPost _ _ _ _ _ (put9 W1 R 0 0 false))
  clear HF HCF
  generalize put9 W1 R 0 0 false = W5 at *
  obtain ⟨g0, g1, g2, g3, g4, g5, g6, g7, g8⟩ := hF.all
  simp only [lm_zero'] at g0 g1 g2 g3 g4 g5 g6 g7
  exact bodyPost_ret (v := .tuple #[.agg #[.int .u64 0, .int .u64 0, .int .u64 0, .int .u64 0, .int .u64 0, .int .u64 0, .int .u64 0, .int .u64 0, .bool false], .int .i64 30]) (by simp [results, Try.results29, go_sem, g0, g1, g2, g3, g4, g5, g6, g7, g8]) rfl ⟨rfl, hCF⟩

set_option maxRecDepth 100000 in
set_option maxHeartbeats 8000000 in
theorem dec_ok2 {l : List UInt8} (hl : l.length = 33) (hc : sb l 0 = 2) {x : Fin PP} (hn : nb (l.drop 1) = x.val) (hr : ((cub x).val ^ rootP % PP) * ((cub x).val ^ rootP % PP) % PP = (cub x).val) (w : World) :
    Calls Try.prog 29 #[.string ⟨l.toArray⟩] w fun e w' => e = .returned (.tuple #[.agg #[.int .u64 (lm x.val 0 : Nat), .int .u64 (lm x.val 1 : Nat), .int .u64 (lm x.val 2 : Nat), .int .u64 (lm x.val 3 : Nat), .int .u64 (lm (evR PP ((cub x).val ^ rootP % PP)) 0 : Nat), .int .u64 (lm (evR PP ((cub x).val ^ rootP % PP)) 1 : Nat), .int .u64 (lm (evR PP ((cub x).val ^ rootP % PP)) 2 : Nat), .int .u64 (lm (evR PP ((cub x).val ^ rootP % PP)) 3 : Nat), .bool false], .int .i64 0]) ∧ Chg [] w w' := by
  have hix := fun w => index_sb (l := l) (j := 0) (by omega) w
  have hl1 : (l.drop 1).length = 32 := by rw [List.length_drop]; omega
  have hext := drop_str hl
  have hdc := fun f w hF => field_decode_ok (f := f) hl1 way_P.lt (by rw [hn]; exact x.isLt) w hF
  rw [hn] at hdc
  have hcb := fun f a w hF => curve_cubic (f := f) (a := a) (x := x) rfl rfl w hF
  have hsq := fun f a w hF => field_sqrt_ok (f := f) (fa := a) way_P (show 1 < PP by decide) (show rootP < B6 ^ 4 by decide +kernel) (by decide) (cub x).isLt hr w hF
  obtain ⟨xv, hxv⟩ : ∃ v, x.val = v := ⟨_, rfl⟩
  obtain ⟨cv, hcv⟩ : ∃ v, (cub x).val = v := ⟨_, rfl⟩
  have hyl : evR PP ((cub x).val ^ rootP % PP) < PP := evR_lt (Nat.mod_lt _ (by decide))
  obtain ⟨yv, hyv⟩ : ∃ v, evR PP ((cub x).val ^ rootP % PP) = v := ⟨_, rfl⟩
  rw [hyv] at hsq hyl ⊢
  rw [hxv] at hdc hcb ⊢
  rw [hcv] at hcb hsq
  have HCb := Lib.hid hcb; have HSq := Lib.hid hsq
  clear hcb hsq hcv hr hyv hyl
  obtain ⟨s, hs⟩ : ∃ s : ByteArray, ⟨l.toArray⟩ = s := ⟨_, rfl⟩
  obtain ⟨s1, hs1⟩ : ∃ s : ByteArray, ⟨(l.drop 1).toArray⟩ = s := ⟨_, rfl⟩
  have hsz := size_str hs
  rw [hl] at hsz
  rw [hc] at hix
  rw [hs] at hix hext ⊢
  rw [hs1] at hext hdc
  have HDc := Lib.hid hdc
  replace hix : ∀ w, (Instr.index 9 (.string s) (.int .i64 0)).run Try.prog w = .ok (.int .u8 2) w := hix
  clear hs hs1 hl hl1 hc hdc hxv hn
  obtain ⟨W0, hW0⟩ : ∃ W0, w.alloc (.cells #[.int .u64 0, .int .u64 0, .int .u64 0, .int .u64 0, .int .u64 0, .int .u64 0, .int .u64 0, .int .u64 0, .bool false] 26) = W0 := ⟨_, rfl⟩
  obtain ⟨R, hR⟩ : ∃ R, w.heap.size = R := ⟨_, rfl⟩
  have HR := Lib.hid (show U9 W0 R 0 0 false from U9.zero (by rw [← hW0, ← hR]; exact has_alloc_new _ _))
  have HC := Lib.hid (show Chg [] w W0 by rw [← hW0]; exact (Chg.refl _ _).alloc _)
  have HwR := Lib.hid (Nat.le_of_eq hR)
  go_enter Try.func29, Try.ntmps29
  go_upto_region 1 with fail
  try rw [hW0]
  try rw [hR]
  clear hW0 hR
  go_wp2_with fail
  refine (field_base _).mono ?_
  rintro e w1 ⟨f, fa, rfl, hC1, hF⟩
  replace HR := Lib.hid (HR.out.chg hC1 nmN); replace HC := Lib.hid (HC.out.trans hC1)
  have HF := Lib.hid hF
  clear hC1 hF
  go_wp2_with fail
  refine (HDc.out f _ HF.out.m4).mono ?_
  rintro e w1 ⟨rfl, hC1⟩
  obtain ⟨W1, hW1⟩ : ∃ W1, w1.alloc (.cells #[.int .u64 (lm xv 0 : Nat), .int .u64 (lm xv 1 : Nat), .int .u64 (lm xv 2 : Nat), .int .u64 (lm xv 3 : Nat)] 24) = W1 := ⟨_, rfl⟩
  have hA : Chg [] w1 W1 := by rw [← hW1]; exact (Chg.refl _ _).alloc _
  obtain ⟨X, hb⟩ : ∃ b, w1.heap.size = b := ⟨_, rfl⟩
  have HBX := Lib.hid (show U4 W1 X 24 (lm xv) by rw [← hb, ← hW1]; exact has_alloc_new _ _)
  replace HR := Lib.hid ((HR.out.chg hC1 nmN).chg hA nmN); replace HC := Lib.hid ((HC.out.trans hC1).trans hA); replace HF := Lib.hid ((HF.out.ch hC1).ch hA)
  have HW1 := Lib.hid hW1; have Hb := Lib.hid hb
  clear hC1 hA hW1 hb
  go_upto_region 11 with fail
  try rw [HW1.out]
  try rw [Hb.out]
  clear HW1 Hb
  obtain ⟨x0, x1, x2, x3⟩ := four4 fun _ => HBX.out.cell
  go_wp2_with fail
  refine (HCb.out f fa _ HF.out).mono ?_
  rintro e w1 ⟨rfl, hC1⟩
  replace HR := Lib.hid (HR.out.chg hC1 nmN); replace HC := Lib.hid (HC.out.trans hC1); replace HF := Lib.hid (HF.out.ch hC1); replace HBX := Lib.hid (HBX.out.chg hC1 nmN)
  clear hC1 x0 x1 x2 x3
  go_wp2_with fail
  refine (HSq.out f fa _ HF.out).mono ?_
  rintro e w1 ⟨rfl, hC1⟩
  replace HBX := Lib.hid (HBX.out.chg hC1 nmN)
  obtain ⟨W1, hW1⟩ : ∃ W1, w1.alloc (.cells #[.int .u64 (lm yv 0 : Nat), .int .u64 (lm yv 1 : Nat), .int .u64 (lm yv 2 : Nat), .int .u64 (lm yv 3 : Nat)] 24) = W1 := ⟨_, rfl⟩
  have hA : Chg [] w1 W1 := by rw [← hW1]; exact (Chg.refl _ _).alloc _
  obtain ⟨Y, hb⟩ : ∃ b, w1.heap.size = b := ⟨_, rfl⟩
  have HBY := Lib.hid (show U4 W1 Y 24 (lm yv) by rw [← hb, ← hW1]; exact has_alloc_new _ _)
  have HwY := Lib.hid (show w.heap.size ≤ Y ∧ R < Y ∧ X < Y by rw [← hb]; exact ⟨(HC.out.trans hC1).size, lt_of_has (HR.out.chg hC1 nmN), lt_of_has HBX.out⟩)
  replace HBX := Lib.hid (HBX.out.chg hA nmN)
  replace HR := Lib.hid ((HR.out.chg hC1 nmN).chg hA nmN); replace HC := Lib.hid ((HC.out.trans hC1).trans hA); replace HF := Lib.hid ((HF.out.ch hC1).ch hA)
  have HW1 := Lib.hid hW1; have Hb := Lib.hid hb
  clear hC1 hA hW1 hb
  go_upto_region 16 with fail
  try rw [HW1.out]
  try rw [Hb.out]
  clear HW1 Hb
  obtain ⟨x0, x1, x2, x3⟩ := four4 fun _ => HBX.out.cell
  obtain ⟨y0, y1, y2, y3⟩ := four4 fun _ => HBY.out.cell
  obtain ⟨n0, n1, n2, n3, n4, n5, n6, n7, n8⟩ := HR.out.all
  simp only [lm_zero'] at n0 n1 n2 n3 n4 n5 n6 n7
  obtain ⟨nz0, nz1, nz2, nz3, nz4, nz5, nz6, nz7, nz8⟩ := HR.out.fzs'
  have hll := HR.out.lt
  have HF9 := Lib.hid (HR.out.put xv yv false); have HCF := Lib.hid (HC.out.put9 (b := R) (Or.inr HwR.out) xv yv false)
  go_wp2_with fail
  have hF := HF9.out; have hCF := HCF.out
  refine (id ?_ : bodyPost _ _ _ _ _ (put9 W1 R xv yv false))
  clear HF9 HCF
  generalize put9 W1 R xv yv false = W5 at *
  obtain ⟨g0, g1, g2, g3, g4, g5, g6, g7, g8⟩ := hF.all
  exact bodyPost_ret (v := .tuple #[.agg #[.int .u64 (lm xv 0 : Nat), .int .u64 (lm xv 1 : Nat), .int .u64 (lm xv 2 : Nat), .int .u64 (lm xv 3 : Nat), .int .u64 (lm yv 0 : Nat), .int .u64 (lm yv 1 : Nat), .int .u64 (lm yv 2 : Nat), .int .u64 (lm yv 3 : Nat), .bool false], .int .i64 0]) (by simp [results, Try.results29, go_sem, g0, g1, g2, g3, g4, g5, g6, g7, g8]) rfl ⟨rfl, hCF⟩

set_option maxRecDepth 100000 in
set_option maxHeartbeats 8000000 in
theorem dec_range3 {l : List UInt8} (hl : l.length = 33) (hc : sb l 0 = 3) (hn : ¬ nb (l.drop 1) < PP) (w : World) :
    Calls Try.prog 29 #[.string ⟨l.toArray⟩] w fun e w' => e = .returned (.tuple #[.agg #[.int .u64 0, .int .u64 0, .int .u64 0, .int .u64 0, .int .u64 0, .int .u64 0, .int .u64 0, .int .u64 0, .bool false], .int .i64 20]) ∧ Chg [] w w' := by
  have hix := fun w => index_sb (l := l) (j := 0) (by omega) w
  have hl1 : (l.drop 1).length = 32 := by rw [List.length_drop]; omega
  have hext := drop_str hl
  have hdc := fun f w hF => field_decode_bad (f := f) hl1 way_P.lt hn w hF
  obtain ⟨s, hs⟩ : ∃ s : ByteArray, ⟨l.toArray⟩ = s := ⟨_, rfl⟩
  obtain ⟨s1, hs1⟩ : ∃ s : ByteArray, ⟨(l.drop 1).toArray⟩ = s := ⟨_, rfl⟩
  have hsz := size_str hs
  rw [hl] at hsz
  rw [hc] at hix
  rw [hs] at hix hext ⊢
  rw [hs1] at hext hdc
  have HDc := Lib.hid hdc
  replace hix : ∀ w, (Instr.index 9 (.string s) (.int .i64 0)).run Try.prog w = .ok (.int .u8 3) w := hix
  clear hs hs1 hl hl1 hc hdc hn
  obtain ⟨W0, hW0⟩ : ∃ W0, w.alloc (.cells #[.int .u64 0, .int .u64 0, .int .u64 0, .int .u64 0, .int .u64 0, .int .u64 0, .int .u64 0, .int .u64 0, .bool false] 26) = W0 := ⟨_, rfl⟩
  obtain ⟨R, hR⟩ : ∃ R, w.heap.size = R := ⟨_, rfl⟩
  have HR := Lib.hid (show U9 W0 R 0 0 false from U9.zero (by rw [← hW0, ← hR]; exact has_alloc_new _ _))
  have HC := Lib.hid (show Chg [] w W0 by rw [← hW0]; exact (Chg.refl _ _).alloc _)
  have HwR := Lib.hid (Nat.le_of_eq hR)
  go_enter Try.func29, Try.ntmps29
  go_upto_region 1 with fail
  try rw [hW0]
  try rw [hR]
  clear hW0 hR
  go_wp2_with fail
  refine (field_base _).mono ?_
  rintro e w1 ⟨f, fa, rfl, hC1, hF⟩
  replace HR := Lib.hid (HR.out.chg hC1 nmN); replace HC := Lib.hid (HC.out.trans hC1)
  have HF := Lib.hid hF
  clear hC1 hF
  go_wp2_with fail
  refine (HDc.out f _ HF.out.m4).mono ?_
  rintro e w1 ⟨rfl, hC1⟩
  obtain ⟨W1, hW1⟩ : ∃ W1, w1.alloc (.cells #[.int .u64 0, .int .u64 0, .int .u64 0, .int .u64 0] 24) = W1 := ⟨_, rfl⟩
  have hA : Chg [] w1 W1 := by rw [← hW1]; exact (Chg.refl _ _).alloc _
  obtain ⟨X, hb⟩ : ∃ b, w1.heap.size = b := ⟨_, rfl⟩
  have HBX := Lib.hid (show U4 W1 X 24 (fun _ => 0) by rw [← hb, ← hW1]; exact has_alloc_new _ _)
  replace HR := Lib.hid ((HR.out.chg hC1 nmN).chg hA nmN); replace HC := Lib.hid ((HC.out.trans hC1).trans hA); replace HF := Lib.hid ((HF.out.ch hC1).ch hA)
  have HW1 := Lib.hid hW1; have Hb := Lib.hid hb
  clear hC1 hA hW1 hb
  go_upto_region 9 with fail
  try rw [HW1.out]
  try rw [Hb.out]
  clear HW1 Hb
  go_upto_region 10 with fail
  obtain ⟨n0, n1, n2, n3, n4, n5, n6, n7, n8⟩ := HR.out.all
  simp only [lm_zero'] at n0 n1 n2 n3 n4 n5 n6 n7
  obtain ⟨nz0, nz1, nz2, nz3, nz4, nz5, nz6, nz7, nz8⟩ := HR.out.fzs'
  have hll := HR.out.lt
  have HF := Lib.hid (HR.out.put 0 0 false); have HCF := Lib.hid (HC.out.put9 (b := R) (Or.inr HwR.out) 0 0 false)
  go_wp2_with fail
  have hF := HF.out; have hCF := HCF.out
  refine (id ?_ : bodyPost _ _ _ _ _ (put9 W1 R 0 0 false))
  clear HF HCF
  generalize put9 W1 R 0 0 false = W5 at *
  obtain ⟨g0, g1, g2, g3, g4, g5, g6, g7, g8⟩ := hF.all
  simp only [lm_zero'] at g0 g1 g2 g3 g4 g5 g6 g7
  exact bodyPost_ret (v := .tuple #[.agg #[.int .u64 0, .int .u64 0, .int .u64 0, .int .u64 0, .int .u64 0, .int .u64 0, .int .u64 0, .int .u64 0, .bool false], .int .i64 20]) (by simp [results, Try.results29, go_sem, g0, g1, g2, g3, g4, g5, g6, g7, g8]) rfl ⟨rfl, hCF⟩

set_option maxRecDepth 100000 in
set_option maxHeartbeats 8000000 in
theorem dec_root3 {l : List UInt8} (hl : l.length = 33) (hc : sb l 0 = 3) {x : Fin PP} (hn : nb (l.drop 1) = x.val) (hr : ¬ ((cub x).val ^ rootP % PP) * ((cub x).val ^ rootP % PP) % PP = (cub x).val) (w : World) :
    Calls Try.prog 29 #[.string ⟨l.toArray⟩] w fun e w' => e = .returned (.tuple #[.agg #[.int .u64 0, .int .u64 0, .int .u64 0, .int .u64 0, .int .u64 0, .int .u64 0, .int .u64 0, .int .u64 0, .bool false], .int .i64 30]) ∧ Chg [] w w' := by
  have hix := fun w => index_sb (l := l) (j := 0) (by omega) w
  have hl1 : (l.drop 1).length = 32 := by rw [List.length_drop]; omega
  have hext := drop_str hl
  have hdc := fun f w hF => field_decode_ok (f := f) hl1 way_P.lt (by rw [hn]; exact x.isLt) w hF
  rw [hn] at hdc
  have hcb := fun f a w hF => curve_cubic (f := f) (a := a) (x := x) rfl rfl w hF
  have hsq := fun f a w hF => field_sqrt_bad (f := f) (fa := a) way_P (show 1 < PP by decide) (show rootP < B6 ^ 4 by decide +kernel) (by decide) (cub x).isLt hr w hF
  obtain ⟨xv, hxv⟩ : ∃ v, x.val = v := ⟨_, rfl⟩
  obtain ⟨cv, hcv⟩ : ∃ v, (cub x).val = v := ⟨_, rfl⟩
  rw [hxv] at hdc hcb
  rw [hcv] at hcb hsq
  have HCb := Lib.hid hcb; have HSq := Lib.hid hsq
  clear hcb hsq hcv hr
  obtain ⟨s, hs⟩ : ∃ s : ByteArray, ⟨l.toArray⟩ = s := ⟨_, rfl⟩
  obtain ⟨s1, hs1⟩ : ∃ s : ByteArray, ⟨(l.drop 1).toArray⟩ = s := ⟨_, rfl⟩
  have hsz := size_str hs
  rw [hl] at hsz
  rw [hc] at hix
  rw [hs] at hix hext ⊢
  rw [hs1] at hext hdc
  have HDc := Lib.hid hdc
  replace hix : ∀ w, (Instr.index 9 (.string s) (.int .i64 0)).run Try.prog w = .ok (.int .u8 3) w := hix
  clear hs hs1 hl hl1 hc hdc hxv hn
  obtain ⟨W0, hW0⟩ : ∃ W0, w.alloc (.cells #[.int .u64 0, .int .u64 0, .int .u64 0, .int .u64 0, .int .u64 0, .int .u64 0, .int .u64 0, .int .u64 0, .bool false] 26) = W0 := ⟨_, rfl⟩
  obtain ⟨R, hR⟩ : ∃ R, w.heap.size = R := ⟨_, rfl⟩
  have HR := Lib.hid (show U9 W0 R 0 0 false from U9.zero (by rw [← hW0, ← hR]; exact has_alloc_new _ _))
  have HC := Lib.hid (show Chg [] w W0 by rw [← hW0]; exact (Chg.refl _ _).alloc _)
  have HwR := Lib.hid (Nat.le_of_eq hR)
  go_enter Try.func29, Try.ntmps29
  go_upto_region 1 with fail
  try rw [hW0]
  try rw [hR]
  clear hW0 hR
  go_wp2_with fail
  refine (field_base _).mono ?_
  rintro e w1 ⟨f, fa, rfl, hC1, hF⟩
  replace HR := Lib.hid (HR.out.chg hC1 nmN); replace HC := Lib.hid (HC.out.trans hC1)
  have HF := Lib.hid hF
  clear hC1 hF
  go_wp2_with fail
  refine (HDc.out f _ HF.out.m4).mono ?_
  rintro e w1 ⟨rfl, hC1⟩
  obtain ⟨W1, hW1⟩ : ∃ W1, w1.alloc (.cells #[.int .u64 (lm xv 0 : Nat), .int .u64 (lm xv 1 : Nat), .int .u64 (lm xv 2 : Nat), .int .u64 (lm xv 3 : Nat)] 24) = W1 := ⟨_, rfl⟩
  have hA : Chg [] w1 W1 := by rw [← hW1]; exact (Chg.refl _ _).alloc _
  obtain ⟨X, hb⟩ : ∃ b, w1.heap.size = b := ⟨_, rfl⟩
  have HBX := Lib.hid (show U4 W1 X 24 (lm xv) by rw [← hb, ← hW1]; exact has_alloc_new _ _)
  replace HR := Lib.hid ((HR.out.chg hC1 nmN).chg hA nmN); replace HC := Lib.hid ((HC.out.trans hC1).trans hA); replace HF := Lib.hid ((HF.out.ch hC1).ch hA)
  have HW1 := Lib.hid hW1; have Hb := Lib.hid hb
  clear hC1 hA hW1 hb
  go_upto_region 11 with fail
  try rw [HW1.out]
  try rw [Hb.out]
  clear HW1 Hb
  obtain ⟨x0, x1, x2, x3⟩ := four4 fun _ => HBX.out.cell
  go_wp2_with fail
  refine (HCb.out f fa _ HF.out).mono ?_
  rintro e w1 ⟨rfl, hC1⟩
  replace HR := Lib.hid (HR.out.chg hC1 nmN); replace HC := Lib.hid (HC.out.trans hC1); replace HF := Lib.hid (HF.out.ch hC1); replace HBX := Lib.hid (HBX.out.chg hC1 nmN)
  clear hC1 x0 x1 x2 x3
  go_wp2_with fail
  refine (HSq.out f fa _ HF.out).mono ?_
  rintro e w1 ⟨rfl, hC1⟩
  clear HBX
  obtain ⟨W1, hW1⟩ : ∃ W1, w1.alloc (.cells #[.int .u64 0, .int .u64 0, .int .u64 0, .int .u64 0] 24) = W1 := ⟨_, rfl⟩
  have hA : Chg [] w1 W1 := by rw [← hW1]; exact (Chg.refl _ _).alloc _
  obtain ⟨Y, hb⟩ : ∃ b, w1.heap.size = b := ⟨_, rfl⟩
  have HBY := Lib.hid (show U4 W1 Y 24 (fun _ => 0) by rw [← hb, ← hW1]; exact has_alloc_new _ _)
  replace HR := Lib.hid ((HR.out.chg hC1 nmN).chg hA nmN); replace HC := Lib.hid ((HC.out.trans hC1).trans hA); replace HF := Lib.hid ((HF.out.ch hC1).ch hA)
  have HW1 := Lib.hid hW1; have Hb := Lib.hid hb
  clear hC1 hA hW1 hb
  go_upto_region 12 with fail
  try rw [HW1.out]
  try rw [Hb.out]
  clear HW1 Hb
  go_upto_region 13 with fail
  obtain ⟨n0, n1, n2, n3, n4, n5, n6, n7, n8⟩ := HR.out.all
  simp only [lm_zero'] at n0 n1 n2 n3 n4 n5 n6 n7
  obtain ⟨nz0, nz1, nz2, nz3, nz4, nz5, nz6, nz7, nz8⟩ := HR.out.fzs'
  have hll := HR.out.lt
  have HF := Lib.hid (HR.out.put 0 0 false); have HCF := Lib.hid (HC.out.put9 (b := R) (Or.inr HwR.out) 0 0 false)
  go_wp2_with fail
  have hF := HF.out; have hCF := HCF.out
  refine (id ?_ : bodyPost _ _ _ _ _ (put9 W1 R 0 0 false))
  clear HF HCF
  generalize put9 W1 R 0 0 false = W5 at *
  obtain ⟨g0, g1, g2, g3, g4, g5, g6, g7, g8⟩ := hF.all
  simp only [lm_zero'] at g0 g1 g2 g3 g4 g5 g6 g7
  exact bodyPost_ret (v := .tuple #[.agg #[.int .u64 0, .int .u64 0, .int .u64 0, .int .u64 0, .int .u64 0, .int .u64 0, .int .u64 0, .int .u64 0, .bool false], .int .i64 30]) (by simp [results, Try.results29, go_sem, g0, g1, g2, g3, g4, g5, g6, g7, g8]) rfl ⟨rfl, hCF⟩

set_option maxRecDepth 100000 in
set_option maxHeartbeats 8000000 in
theorem dec_ok3 {l : List UInt8} (hl : l.length = 33) (hc : sb l 0 = 3) {x : Fin PP} (hn : nb (l.drop 1) = x.val) (hr : ((cub x).val ^ rootP % PP) * ((cub x).val ^ rootP % PP) % PP = (cub x).val) (w : World) :
    Calls Try.prog 29 #[.string ⟨l.toArray⟩] w fun e w' => e = .returned (.tuple #[.agg #[.int .u64 (lm x.val 0 : Nat), .int .u64 (lm x.val 1 : Nat), .int .u64 (lm x.val 2 : Nat), .int .u64 (lm x.val 3 : Nat), .int .u64 (lm ((0 + PP - evR PP ((cub x).val ^ rootP % PP)) % PP) 0 : Nat), .int .u64 (lm ((0 + PP - evR PP ((cub x).val ^ rootP % PP)) % PP) 1 : Nat), .int .u64 (lm ((0 + PP - evR PP ((cub x).val ^ rootP % PP)) % PP) 2 : Nat), .int .u64 (lm ((0 + PP - evR PP ((cub x).val ^ rootP % PP)) % PP) 3 : Nat), .bool false], .int .i64 0]) ∧ Chg [] w w' := by
  have hix := fun w => index_sb (l := l) (j := 0) (by omega) w
  have hl1 : (l.drop 1).length = 32 := by rw [List.length_drop]; omega
  have hext := drop_str hl
  have hdc := fun f w hF => field_decode_ok (f := f) hl1 way_P.lt (by rw [hn]; exact x.isLt) w hF
  rw [hn] at hdc
  have hcb := fun f a w hF => curve_cubic (f := f) (a := a) (x := x) rfl rfl w hF
  have hsq := fun f a w hF => field_sqrt_ok (f := f) (fa := a) way_P (show 1 < PP by decide) (show rootP < B6 ^ 4 by decide +kernel) (by decide) (cub x).isLt hr w hF
  obtain ⟨xv, hxv⟩ : ∃ v, x.val = v := ⟨_, rfl⟩
  obtain ⟨cv, hcv⟩ : ∃ v, (cub x).val = v := ⟨_, rfl⟩
  have hyl : evR PP ((cub x).val ^ rootP % PP) < PP := evR_lt (Nat.mod_lt _ (by decide))
  obtain ⟨yv, hyv⟩ : ∃ v, evR PP ((cub x).val ^ rootP % PP) = v := ⟨_, rfl⟩
  rw [hyv] at hsq hyl ⊢
  have hng := fun f a w hF => field_neg (f := f) (a := a) (root := rootP) way_P hyl w hF
  obtain ⟨ny, hny⟩ : ∃ v, (0 + PP - yv) % PP = v := ⟨_, rfl⟩
  rw [hny] at hng ⊢
  unfold num limbs at hng
  have HNg := Lib.hid hng
  clear hng hny
  rw [hxv] at hdc hcb ⊢
  rw [hcv] at hcb hsq
  have HCb := Lib.hid hcb; have HSq := Lib.hid hsq
  clear hcb hsq hcv hr hyv hyl
  obtain ⟨s, hs⟩ : ∃ s : ByteArray, ⟨l.toArray⟩ = s := ⟨_, rfl⟩
  obtain ⟨s1, hs1⟩ : ∃ s : ByteArray, ⟨(l.drop 1).toArray⟩ = s := ⟨_, rfl⟩
  have hsz := size_str hs
  rw [hl] at hsz
  rw [hc] at hix
  rw [hs] at hix hext ⊢
  rw [hs1] at hext hdc
  have HDc := Lib.hid hdc
  replace hix : ∀ w, (Instr.index 9 (.string s) (.int .i64 0)).run Try.prog w = .ok (.int .u8 3) w := hix
  clear hs hs1 hl hl1 hc hdc hxv hn
  obtain ⟨W0, hW0⟩ : ∃ W0, w.alloc (.cells #[.int .u64 0, .int .u64 0, .int .u64 0, .int .u64 0, .int .u64 0, .int .u64 0, .int .u64 0, .int .u64 0, .bool false] 26) = W0 := ⟨_, rfl⟩
  obtain ⟨R, hR⟩ : ∃ R, w.heap.size = R := ⟨_, rfl⟩
  have HR := Lib.hid (show U9 W0 R 0 0 false from U9.zero (by rw [← hW0, ← hR]; exact has_alloc_new _ _))
  have HC := Lib.hid (show Chg [] w W0 by rw [← hW0]; exact (Chg.refl _ _).alloc _)
  have HwR := Lib.hid (Nat.le_of_eq hR)
  go_enter Try.func29, Try.ntmps29
  go_upto_region 1 with fail
  try rw [hW0]
  try rw [hR]
  clear hW0 hR
  go_wp2_with fail
  refine (field_base _).mono ?_
  rintro e w1 ⟨f, fa, rfl, hC1, hF⟩
  replace HR := Lib.hid (HR.out.chg hC1 nmN); replace HC := Lib.hid (HC.out.trans hC1)
  have HF := Lib.hid hF
  clear hC1 hF
  go_wp2_with fail
  refine (HDc.out f _ HF.out.m4).mono ?_
  rintro e w1 ⟨rfl, hC1⟩
  obtain ⟨W1, hW1⟩ : ∃ W1, w1.alloc (.cells #[.int .u64 (lm xv 0 : Nat), .int .u64 (lm xv 1 : Nat), .int .u64 (lm xv 2 : Nat), .int .u64 (lm xv 3 : Nat)] 24) = W1 := ⟨_, rfl⟩
  have hA : Chg [] w1 W1 := by rw [← hW1]; exact (Chg.refl _ _).alloc _
  obtain ⟨X, hb⟩ : ∃ b, w1.heap.size = b := ⟨_, rfl⟩
  have HBX := Lib.hid (show U4 W1 X 24 (lm xv) by rw [← hb, ← hW1]; exact has_alloc_new _ _)
  replace HR := Lib.hid ((HR.out.chg hC1 nmN).chg hA nmN); replace HC := Lib.hid ((HC.out.trans hC1).trans hA); replace HF := Lib.hid ((HF.out.ch hC1).ch hA)
  have HW1 := Lib.hid hW1; have Hb := Lib.hid hb
  clear hC1 hA hW1 hb
  go_upto_region 11 with fail
  try rw [HW1.out]
  try rw [Hb.out]
  clear HW1 Hb
  obtain ⟨x0, x1, x2, x3⟩ := four4 fun _ => HBX.out.cell
  go_wp2_with fail
  refine (HCb.out f fa _ HF.out).mono ?_
  rintro e w1 ⟨rfl, hC1⟩
  replace HR := Lib.hid (HR.out.chg hC1 nmN); replace HC := Lib.hid (HC.out.trans hC1); replace HF := Lib.hid (HF.out.ch hC1); replace HBX := Lib.hid (HBX.out.chg hC1 nmN)
  clear hC1 x0 x1 x2 x3
  go_wp2_with fail
  refine (HSq.out f fa _ HF.out).mono ?_
  rintro e w1 ⟨rfl, hC1⟩
  replace HBX := Lib.hid (HBX.out.chg hC1 nmN)
  obtain ⟨W1, hW1⟩ : ∃ W1, w1.alloc (.cells #[.int .u64 (lm yv 0 : Nat), .int .u64 (lm yv 1 : Nat), .int .u64 (lm yv 2 : Nat), .int .u64 (lm yv 3 : Nat)] 24) = W1 := ⟨_, rfl⟩
  have hA : Chg [] w1 W1 := by rw [← hW1]; exact (Chg.refl _ _).alloc _
  obtain ⟨Y, hb⟩ : ∃ b, w1.heap.size = b := ⟨_, rfl⟩
  have HBY := Lib.hid (show U4 W1 Y 24 (lm yv) by rw [← hb, ← hW1]; exact has_alloc_new _ _)
  have HwY := Lib.hid (show w.heap.size ≤ Y ∧ R < Y ∧ X < Y by rw [← hb]; exact ⟨(HC.out.trans hC1).size, lt_of_has (HR.out.chg hC1 nmN), lt_of_has HBX.out⟩)
  replace HBX := Lib.hid (HBX.out.chg hA nmN)
  replace HR := Lib.hid ((HR.out.chg hC1 nmN).chg hA nmN); replace HC := Lib.hid ((HC.out.trans hC1).trans hA); replace HF := Lib.hid ((HF.out.ch hC1).ch hA)
  have HW1 := Lib.hid hW1; have Hb := Lib.hid hb
  clear hC1 hA hW1 hb
  go_upto_region 15 with fail
  try rw [HW1.out]
  try rw [Hb.out]
  clear HW1 Hb
  obtain ⟨y0, y1, y2, y3⟩ := four4 fun _ => HBY.out.cell
  go_wp2_with fail
  refine (HNg.out f fa _ HF.out).mono ?_
  rintro e w6 ⟨rfl, hC1⟩
  replace HR := Lib.hid (HR.out.chg hC1 nmN); replace HC := Lib.hid (HC.out.trans hC1); replace HBX := Lib.hid (HBX.out.chg hC1 nmN); replace HBY := Lib.hid (HBY.out.chg hC1 nmN)
  clear hC1 y0 y1 y2 y3
  have q0 := HBY.out.cell (k := 0) (by omega); have qz0 := HBY.out.fz 0; have q1 := HBY.out.cell (k := 1) (by omega); have qz1 := HBY.out.fz 1; have q2 := HBY.out.cell (k := 2) (by omega); have qz2 := HBY.out.fz 2; have q3 := HBY.out.cell (k := 3) (by omega); have qz3 := HBY.out.fz 3
  have hll := HBY.out.lt
  have hP := (Chg.refl [Y] w6).put4 (b := Y) (Or.inl (by simp)) (lm ny)
  have HBY2 := Lib.hid (HBY.out.put (lm ny))
  have HC2 := Lib.hid (HC.out.put4 (b := Y) (Or.inr HwY.out.1) (lm ny))
  have HR2 := Lib.hid (HR.out.chg hP (by have := HwY.out; simp; omega))
  have HBX2 := Lib.hid (HBX.out.chg hP (by have := HwY.out; simp; omega))
  clear hP
  go_upto_region 16 with fail
  refine (id ?_ : Code.wp _ _ _ _ (put4 w6 Y (lm ny)))
  clear q0 q1 q2 q3 qz0 qz1 qz2 qz3 hll HBY HC HR HBX HF
  have HBY := HBY2; have HC := HC2; have HR := HR2; have HBX := HBX2
  clear HBY2 HC2 HR2 HBX2
  generalize put4 w6 Y (lm ny) = w7 at *
  obtain ⟨x0, x1, x2, x3⟩ := four4 fun _ => HBX.out.cell
  obtain ⟨y0, y1, y2, y3⟩ := four4 fun _ => HBY.out.cell
  obtain ⟨n0, n1, n2, n3, n4, n5, n6, n7, n8⟩ := HR.out.all
  simp only [lm_zero'] at n0 n1 n2 n3 n4 n5 n6 n7
  obtain ⟨nz0, nz1, nz2, nz3, nz4, nz5, nz6, nz7, nz8⟩ := HR.out.fzs'
  have hll := HR.out.lt
  have HF9 := Lib.hid (HR.out.put xv ny false); have HCF := Lib.hid (HC.out.put9 (b := R) (Or.inr HwR.out) xv ny false)
  go_wp2_with fail
  have hF := HF9.out; have hCF := HCF.out
  refine (id ?_ : bodyPost _ _ _ _ _ (put9 w7 R xv ny false))
  clear HF9 HCF
  generalize put9 w7 R xv ny false = W5 at *
  obtain ⟨g0, g1, g2, g3, g4, g5, g6, g7, g8⟩ := hF.all
  exact bodyPost_ret (v := .tuple #[.agg #[.int .u64 (lm xv 0 : Nat), .int .u64 (lm xv 1 : Nat), .int .u64 (lm xv 2 : Nat), .int .u64 (lm xv 3 : Nat), .int .u64 (lm ny 0 : Nat), .int .u64 (lm ny 1 : Nat), .int .u64 (lm ny 2 : Nat), .int .u64 (lm ny 3 : Nat), .bool false], .int .i64 0]) (by simp [results, Try.results29, go_sem, g0, g1, g2, g3, g4, g5, g6, g7, g8]) rfl ⟨rfl, hCF⟩

end Go.Proofs.Ytplldbmjdnikeaa
