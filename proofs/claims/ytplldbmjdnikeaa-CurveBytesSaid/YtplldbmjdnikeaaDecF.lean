/- The walks of field.Field.Decode and the document's. Printed by decf.py. -/
import Derived.Test.YtplldbmjdnikeaaByteB
import Derived.Test.YtplldbmjdnikeaaFi2
import Derived.Test.YtplldbmjdnikeaaRe2
namespace Go.Proofs.Ytplldbmjdnikeaa
set_option linter.unusedVariables false
set_option linter.unusedSimpArgs false
open Go.RowKit

set_option maxRecDepth 100000 in
set_option maxHeartbeats 4000000 in
theorem field_decode_ok {f m : Nat} {l : List UInt8} (hl : l.length = 32) (hm : m < B6 ^ 4) (hn : nb l < m) (w : World) (hF : M4 w f 0 m) :
    Calls Try.prog 61 #[.pointer (some ⟨f, 0, none⟩), .string ⟨l.toArray⟩] w fun e w' => e = .returned (.tuple #[.agg #[.int .u64 (lm (nb l) 0 : Nat), .int .u64 (lm (nb l) 1 : Nat), .int .u64 (lm (nb l) 2 : Nat), .int .u64 (lm (nb l) 3 : Nat)], .int .i64 0]) ∧ Chg [] w w' := by
  have hfb := fun w => limb_from hl w
  have hck := fun w hF => field_check (m := m) (f := f) hm (nb_lt l) w hF
  rw [show chkN (nb l) m = 0 from if_pos hn] at hck
  obtain ⟨z, hz⟩ : ∃ z, nb l = z := ⟨_, rfl⟩
  rw [hz] at hfb hck ⊢
  unfold num limbs at hck
  obtain ⟨s, hs⟩ : ∃ s : ByteArray, ⟨l.toArray⟩ = s := ⟨_, rfl⟩
  rw [hs] at hfb ⊢
  have HFb := Lib.hid hfb; have HCk := Lib.hid hck
  clear hfb hck hz hs hl hn hm
  obtain ⟨W0, hW0⟩ : ∃ W0, w.alloc (.cells #[.int .u64 0, .int .u64 0, .int .u64 0, .int .u64 0] 24) = W0 := ⟨_, rfl⟩
  obtain ⟨R, hR⟩ : ∃ R, w.heap.size = R := ⟨_, rfl⟩
  have HR := Lib.hid (show U4 W0 R 24 (fun _ => 0) by rw [← hW0, ← hR]; exact has_alloc_new _ _)
  have hC : Chg [] w W0 := by rw [← hW0]; exact (Chg.refl _ _).alloc _
  have HC := Lib.hid hC
  have HF := Lib.hid (hF.chg hC nmN)
  have HwR := Lib.hid (Nat.le_of_eq hR)
  clear hC hF
  go_enter Try.func61, Try.ntmps61
  go_upto_region 3 with fail
  try rw [hW0]
  try rw [hR]
  clear hW0 hR
  go_wp2_with fail
  refine (HFb.out _).mono ?_
  rintro e w1 ⟨rfl, hC1⟩
  obtain ⟨W1, hW1⟩ : ∃ W1, w1.alloc (.cells #[.int .u64 (lm z 0 : Nat), .int .u64 (lm z 1 : Nat), .int .u64 (lm z 2 : Nat), .int .u64 (lm z 3 : Nat)] 24) = W1 := ⟨_, rfl⟩
  have hA : Chg [] w1 W1 := by rw [← hW1]; exact (Chg.refl _ _).alloc _
  obtain ⟨K, hK⟩ : ∃ b, w1.heap.size = b := ⟨_, rfl⟩
  have HK := Lib.hid (show U4 W1 K 24 (lm z) by rw [← hK, ← hW1]; exact has_alloc_new _ _)
  replace HR := Lib.hid (HR.out.chg (hC1.trans hA) nmN); replace HC := Lib.hid (HC.out.trans (hC1.trans hA)); replace HF := Lib.hid (HF.out.chg (hC1.trans hA) nmN)
  have HW1 := Lib.hid hW1; have HKe := Lib.hid hK
  clear hC1 hA hW1 hK
  go_upto_region 5 with fail
  try rw [HW1.out]
  try rw [HKe.out]
  clear HW1 HKe
  obtain ⟨k0, k1, k2, k3⟩ := four4 fun _ => HK.out.cell
  go_wp2_with fail
  refine (HCk.out _ HF.out).mono ?_
  rintro e wx ⟨rfl, hC1⟩
  replace HR := Lib.hid (HR.out.chg hC1 nmN); replace HC := Lib.hid (HC.out.trans hC1); replace HK := Lib.hid (HK.out.chg hC1 nmN)
  clear hC1 k0 k1 k2 k3
  go_upto_region 8 with fail
  obtain ⟨k0, k1, k2, k3⟩ := four4 fun _ => HK.out.cell
  have hR9 := HR.out
  have hC9 := HC.out
  have q0 := hR9.cell (k := 0) (by omega); have qz0 := hR9.fz 0; have q1 := hR9.cell (k := 1) (by omega); have qz1 := hR9.fz 1; have q2 := hR9.cell (k := 2) (by omega); have qz2 := hR9.fz 2; have q3 := hR9.cell (k := 3) (by omega); have qz3 := hR9.fz 3
  have hll := hR9.lt
  have HF9 := Lib.hid (hR9.put (lm z)); have HCF := Lib.hid (hC9.put4 (b := R) (Or.inr HwR.out) (lm z))
  clear hR9 hC9
  go_wp2_with fail
  have hF := HF9.out; have hCF := HCF.out
  refine (id ?_ : bodyPost _ _ _ _ _ (put4 wx R (lm z)))
  clear HF9 HCF
  generalize put4 wx R (lm z) = W5 at *
  obtain ⟨g0, g1, g2, g3⟩ := four4 fun _ => hF.cell
  exact bodyPost_ret (v := .tuple #[.agg #[.int .u64 (lm z 0 : Nat), .int .u64 (lm z 1 : Nat), .int .u64 (lm z 2 : Nat), .int .u64 (lm z 3 : Nat)], .int .i64 0]) (by simp [results, Try.results61, go_sem, g0, g1, g2, g3]) rfl ⟨rfl, hCF⟩

set_option maxRecDepth 100000 in
set_option maxHeartbeats 4000000 in
theorem field_decode_bad {f m : Nat} {l : List UInt8} (hl : l.length = 32) (hm : m < B6 ^ 4) (hn : ¬ nb l < m) (w : World) (hF : M4 w f 0 m) :
    Calls Try.prog 61 #[.pointer (some ⟨f, 0, none⟩), .string ⟨l.toArray⟩] w fun e w' => e = .returned (.tuple #[.agg #[.int .u64 0, .int .u64 0, .int .u64 0, .int .u64 0], .int .i64 20]) ∧ Chg [] w w' := by
  have hfb := fun w => limb_from hl w
  have hck := fun w hF => field_check (m := m) (f := f) hm (nb_lt l) w hF
  rw [show chkN (nb l) m = 20 from if_neg hn] at hck
  obtain ⟨z, hz⟩ : ∃ z, nb l = z := ⟨_, rfl⟩
  rw [hz] at hfb hck
  unfold num limbs at hck
  obtain ⟨s, hs⟩ : ∃ s : ByteArray, ⟨l.toArray⟩ = s := ⟨_, rfl⟩
  rw [hs] at hfb ⊢
  have HFb := Lib.hid hfb; have HCk := Lib.hid hck
  clear hfb hck hz hs hl hn hm
  obtain ⟨W0, hW0⟩ : ∃ W0, w.alloc (.cells #[.int .u64 0, .int .u64 0, .int .u64 0, .int .u64 0] 24) = W0 := ⟨_, rfl⟩
  obtain ⟨R, hR⟩ : ∃ R, w.heap.size = R := ⟨_, rfl⟩
  have HR := Lib.hid (show U4 W0 R 24 (fun _ => 0) by rw [← hW0, ← hR]; exact has_alloc_new _ _)
  have hC : Chg [] w W0 := by rw [← hW0]; exact (Chg.refl _ _).alloc _
  have HC := Lib.hid hC
  have HF := Lib.hid (hF.chg hC nmN)
  have HwR := Lib.hid (Nat.le_of_eq hR)
  clear hC hF
  go_enter Try.func61, Try.ntmps61
  go_upto_region 3 with fail
  try rw [hW0]
  try rw [hR]
  clear hW0 hR
  go_wp2_with fail
  refine (HFb.out _).mono ?_
  rintro e w1 ⟨rfl, hC1⟩
  obtain ⟨W1, hW1⟩ : ∃ W1, w1.alloc (.cells #[.int .u64 (lm z 0 : Nat), .int .u64 (lm z 1 : Nat), .int .u64 (lm z 2 : Nat), .int .u64 (lm z 3 : Nat)] 24) = W1 := ⟨_, rfl⟩
  have hA : Chg [] w1 W1 := by rw [← hW1]; exact (Chg.refl _ _).alloc _
  obtain ⟨K, hK⟩ : ∃ b, w1.heap.size = b := ⟨_, rfl⟩
  have HK := Lib.hid (show U4 W1 K 24 (lm z) by rw [← hK, ← hW1]; exact has_alloc_new _ _)
  replace HR := Lib.hid (HR.out.chg (hC1.trans hA) nmN); replace HC := Lib.hid (HC.out.trans (hC1.trans hA)); replace HF := Lib.hid (HF.out.chg (hC1.trans hA) nmN)
  have HW1 := Lib.hid hW1; have HKe := Lib.hid hK
  clear hC1 hA hW1 hK
  go_upto_region 5 with fail
  try rw [HW1.out]
  try rw [HKe.out]
  clear HW1 HKe
  obtain ⟨k0, k1, k2, k3⟩ := four4 fun _ => HK.out.cell
  go_wp2_with fail
  refine (HCk.out _ HF.out).mono ?_
  rintro e wx ⟨rfl, hC1⟩
  replace HR := Lib.hid (HR.out.chg hC1 nmN); replace HC := Lib.hid (HC.out.trans hC1); replace HK := Lib.hid (HK.out.chg hC1 nmN)
  clear hC1 k0 k1 k2 k3
  go_upto_region 7 with fail
  have hR9 := HR.out
  have hC9 := HC.out
  have q0 := hR9.cell (k := 0) (by omega); have qz0 := hR9.fz 0; have q1 := hR9.cell (k := 1) (by omega); have qz1 := hR9.fz 1; have q2 := hR9.cell (k := 2) (by omega); have qz2 := hR9.fz 2; have q3 := hR9.cell (k := 3) (by omega); have qz3 := hR9.fz 3
  have hll := hR9.lt
  have HF9 := Lib.hid (hR9.put (fun _ => 0)); have HCF := Lib.hid (hC9.put4 (b := R) (Or.inr HwR.out) (fun _ => 0))
  clear hR9 hC9
  go_wp2_with fail
  have hF := HF9.out; have hCF := HCF.out
  refine (id ?_ : bodyPost _ _ _ _ _ (put4 wx R (fun _ => 0)))
  clear HF9 HCF
  generalize put4 wx R (fun _ => 0) = W5 at *
  obtain ⟨g0, g1, g2, g3⟩ := four4 fun _ => hF.cell
  exact bodyPost_ret (v := .tuple #[.agg #[.int .u64 0, .int .u64 0, .int .u64 0, .int .u64 0], .int .i64 20]) (by simp [results, Try.results61, go_sem, g0, g1, g2, g3]) rfl ⟨rfl, hCF⟩

set_option maxRecDepth 100000 in
set_option maxHeartbeats 4000000 in
theorem ref_decode_ok {m c : Nat} {l : List UInt8} (hl : l.length = 32) (hm : m < B6 ^ 4) (hn : nb l < m) (w : World) :
    Calls Try.prog 63 #[.agg (dcCells m c), .string ⟨l.toArray⟩] w fun e w' => e = .returned (.tuple #[.agg #[.int .u64 (lm (nb l) 0 : Nat), .int .u64 (lm (nb l) 1 : Nat), .int .u64 (lm (nb l) 2 : Nat), .int .u64 (lm (nb l) 3 : Nat)], .int .i64 0]) ∧ Chg [] w w' := by
  have hfb := fun w => ref_from hl w
  have hck := fun w => ref_has (c := c) hm (nb_lt l) w
  rw [show decide (nb l < m) = true by simpa using hn] at hck
  obtain ⟨z, hz⟩ : ∃ z, nb l = z := ⟨_, rfl⟩
  rw [hz] at hfb hck ⊢
  unfold dcCells at hck ⊢
  obtain ⟨s, hs⟩ : ∃ s : ByteArray, ⟨l.toArray⟩ = s := ⟨_, rfl⟩
  rw [hs] at hfb ⊢
  have HFb := Lib.hid hfb; have HCk := Lib.hid hck
  clear hfb hck hz hs hl hn hm
  obtain ⟨W0, hW0⟩ : ∃ W0, (w.alloc (.cells #[.int .u64 (lm m 0 : Nat), .int .u64 (lm m 1 : Nat), .int .u64 (lm m 2 : Nat), .int .u64 (lm m 3 : Nat), .int .u64 (lm c 0 : Nat), .int .u64 (lm c 1 : Nat), .int .u64 (lm c 2 : Nat), .int .u64 (lm c 3 : Nat)] 76)).alloc (.cells #[.int .u64 0, .int .u64 0, .int .u64 0, .int .u64 0] 24) = W0 := ⟨_, rfl⟩
  obtain ⟨B, hB⟩ : ∃ B, w.heap.size = B := ⟨_, rfl⟩
  have HD := Lib.hid (show UD W0 B m c by rw [← hW0, ← hB]; exact has_alloc (has_alloc_new _ _))
  have HR := Lib.hid (show U4 W0 (B + 1) 24 (fun _ => 0) by rw [← hW0, ← hB]; exact has_alloc_at (by simp))
  have HC := Lib.hid (show Chg [] w W0 by rw [← hW0]; exact ((Chg.refl _ _).alloc _).alloc _)
  go_enter Try.func63, Try.ntmps63
  go_upto_region 1 with fail
  try rw [hW0]
  try rw [hB]
  obtain ⟨R, hRe⟩ : ∃ R, B + 1 = R := ⟨_, rfl⟩
  rw [hRe] at HR ⊢
  have HwR := Lib.hid (show w.heap.size ≤ R by omega)
  clear hW0 hB hRe
  go_wp2_with fail
  refine (HFb.out _).mono ?_
  rintro e w1 ⟨rfl, hC1⟩
  obtain ⟨W1, hW1⟩ : ∃ W1, w1.alloc (.cells #[.int .u64 (lm z 0 : Nat), .int .u64 (lm z 1 : Nat), .int .u64 (lm z 2 : Nat), .int .u64 (lm z 3 : Nat)] 24) = W1 := ⟨_, rfl⟩
  have hA : Chg [] w1 W1 := by rw [← hW1]; exact (Chg.refl _ _).alloc _
  obtain ⟨K, hK⟩ : ∃ b, w1.heap.size = b := ⟨_, rfl⟩
  have HK := Lib.hid (show U4 W1 K 24 (lm z) by rw [← hK, ← hW1]; exact has_alloc_new _ _)
  replace HR := Lib.hid (HR.out.chg (hC1.trans hA) nmN); replace HC := Lib.hid (HC.out.trans (hC1.trans hA)); replace HD := Lib.hid (HD.out.chg (hC1.trans hA) nmN)
  have HW1 := Lib.hid hW1; have HKe := Lib.hid hK
  clear hC1 hA hW1 hK
  go_upto_region 4 with fail
  try rw [HW1.out]
  try rw [HKe.out]
  clear HW1 HKe
  obtain ⟨k0, k1, k2, k3⟩ := four4 fun _ => HK.out.cell
  obtain ⟨D0, D1, D2, D3⟩ := four4 fun _ => (HD.out).cm; obtain ⟨D4, D5, D6, D7⟩ := four4 fun _ => (HD.out).cc
  go_wp2_with fail
  refine (HCk.out _).mono ?_
  rintro e wx ⟨rfl, hC1⟩
  replace HR := Lib.hid (HR.out.chg hC1 nmN); replace HC := Lib.hid (HC.out.trans hC1); replace HK := Lib.hid (HK.out.chg hC1 nmN)
  clear hC1 k0 k1 k2 k3 D0 D1 D2 D3 D4 D5 D6 D7 HD
  go_upto_region 6 with fail
  obtain ⟨k0, k1, k2, k3⟩ := four4 fun _ => HK.out.cell
  have hR9 := HR.out
  have hC9 := HC.out
  have q0 := hR9.cell (k := 0) (by omega); have qz0 := hR9.fz 0; have q1 := hR9.cell (k := 1) (by omega); have qz1 := hR9.fz 1; have q2 := hR9.cell (k := 2) (by omega); have qz2 := hR9.fz 2; have q3 := hR9.cell (k := 3) (by omega); have qz3 := hR9.fz 3
  have hll := hR9.lt
  have HF9 := Lib.hid (hR9.put (lm z)); have HCF := Lib.hid (hC9.put4 (b := R) (Or.inr HwR.out) (lm z))
  clear hR9 hC9
  go_wp2_with fail
  have hF := HF9.out; have hCF := HCF.out
  refine (id ?_ : bodyPost _ _ _ _ _ (put4 wx R (lm z)))
  clear HF9 HCF
  generalize put4 wx R (lm z) = W5 at *
  obtain ⟨g0, g1, g2, g3⟩ := four4 fun _ => hF.cell
  exact bodyPost_ret (v := .tuple #[.agg #[.int .u64 (lm z 0 : Nat), .int .u64 (lm z 1 : Nat), .int .u64 (lm z 2 : Nat), .int .u64 (lm z 3 : Nat)], .int .i64 0]) (by simp [results, Try.results63, go_sem, g0, g1, g2, g3]) rfl ⟨rfl, hCF⟩

set_option maxRecDepth 100000 in
set_option maxHeartbeats 4000000 in
theorem ref_decode_bad {m c : Nat} {l : List UInt8} (hl : l.length = 32) (hm : m < B6 ^ 4) (hn : ¬ nb l < m) (w : World) :
    Calls Try.prog 63 #[.agg (dcCells m c), .string ⟨l.toArray⟩] w fun e w' => e = .returned (.tuple #[.agg #[.int .u64 0, .int .u64 0, .int .u64 0, .int .u64 0], .int .i64 20]) ∧ Chg [] w w' := by
  have hfb := fun w => ref_from hl w
  have hck := fun w => ref_has (c := c) hm (nb_lt l) w
  rw [show decide (nb l < m) = false by simpa using hn] at hck
  obtain ⟨z, hz⟩ : ∃ z, nb l = z := ⟨_, rfl⟩
  rw [hz] at hfb hck
  unfold dcCells at hck ⊢
  obtain ⟨s, hs⟩ : ∃ s : ByteArray, ⟨l.toArray⟩ = s := ⟨_, rfl⟩
  rw [hs] at hfb ⊢
  have HFb := Lib.hid hfb; have HCk := Lib.hid hck
  clear hfb hck hz hs hl hn hm
  obtain ⟨W0, hW0⟩ : ∃ W0, (w.alloc (.cells #[.int .u64 (lm m 0 : Nat), .int .u64 (lm m 1 : Nat), .int .u64 (lm m 2 : Nat), .int .u64 (lm m 3 : Nat), .int .u64 (lm c 0 : Nat), .int .u64 (lm c 1 : Nat), .int .u64 (lm c 2 : Nat), .int .u64 (lm c 3 : Nat)] 76)).alloc (.cells #[.int .u64 0, .int .u64 0, .int .u64 0, .int .u64 0] 24) = W0 := ⟨_, rfl⟩
  obtain ⟨B, hB⟩ : ∃ B, w.heap.size = B := ⟨_, rfl⟩
  have HD := Lib.hid (show UD W0 B m c by rw [← hW0, ← hB]; exact has_alloc (has_alloc_new _ _))
  have HR := Lib.hid (show U4 W0 (B + 1) 24 (fun _ => 0) by rw [← hW0, ← hB]; exact has_alloc_at (by simp))
  have HC := Lib.hid (show Chg [] w W0 by rw [← hW0]; exact ((Chg.refl _ _).alloc _).alloc _)
  go_enter Try.func63, Try.ntmps63
  go_upto_region 1 with fail
  try rw [hW0]
  try rw [hB]
  obtain ⟨R, hRe⟩ : ∃ R, B + 1 = R := ⟨_, rfl⟩
  rw [hRe] at HR ⊢
  have HwR := Lib.hid (show w.heap.size ≤ R by omega)
  clear hW0 hB hRe
  go_wp2_with fail
  refine (HFb.out _).mono ?_
  rintro e w1 ⟨rfl, hC1⟩
  obtain ⟨W1, hW1⟩ : ∃ W1, w1.alloc (.cells #[.int .u64 (lm z 0 : Nat), .int .u64 (lm z 1 : Nat), .int .u64 (lm z 2 : Nat), .int .u64 (lm z 3 : Nat)] 24) = W1 := ⟨_, rfl⟩
  have hA : Chg [] w1 W1 := by rw [← hW1]; exact (Chg.refl _ _).alloc _
  obtain ⟨K, hK⟩ : ∃ b, w1.heap.size = b := ⟨_, rfl⟩
  have HK := Lib.hid (show U4 W1 K 24 (lm z) by rw [← hK, ← hW1]; exact has_alloc_new _ _)
  replace HR := Lib.hid (HR.out.chg (hC1.trans hA) nmN); replace HC := Lib.hid (HC.out.trans (hC1.trans hA)); replace HD := Lib.hid (HD.out.chg (hC1.trans hA) nmN)
  have HW1 := Lib.hid hW1; have HKe := Lib.hid hK
  clear hC1 hA hW1 hK
  go_upto_region 4 with fail
  try rw [HW1.out]
  try rw [HKe.out]
  clear HW1 HKe
  obtain ⟨k0, k1, k2, k3⟩ := four4 fun _ => HK.out.cell
  obtain ⟨D0, D1, D2, D3⟩ := four4 fun _ => (HD.out).cm; obtain ⟨D4, D5, D6, D7⟩ := four4 fun _ => (HD.out).cc
  go_wp2_with fail
  refine (HCk.out _).mono ?_
  rintro e wx ⟨rfl, hC1⟩
  replace HR := Lib.hid (HR.out.chg hC1 nmN); replace HC := Lib.hid (HC.out.trans hC1); replace HK := Lib.hid (HK.out.chg hC1 nmN)
  clear hC1 k0 k1 k2 k3 D0 D1 D2 D3 D4 D5 D6 D7 HD
  go_upto_region 5 with fail
  have hR9 := HR.out
  have hC9 := HC.out
  have q0 := hR9.cell (k := 0) (by omega); have qz0 := hR9.fz 0; have q1 := hR9.cell (k := 1) (by omega); have qz1 := hR9.fz 1; have q2 := hR9.cell (k := 2) (by omega); have qz2 := hR9.fz 2; have q3 := hR9.cell (k := 3) (by omega); have qz3 := hR9.fz 3
  have hll := hR9.lt
  have HF9 := Lib.hid (hR9.put (fun _ => 0)); have HCF := Lib.hid (hC9.put4 (b := R) (Or.inr HwR.out) (fun _ => 0))
  clear hR9 hC9
  go_wp2_with fail
  have hF := HF9.out; have hCF := HCF.out
  refine (id ?_ : bodyPost _ _ _ _ _ (put4 wx R (fun _ => 0)))
  clear HF9 HCF
  generalize put4 wx R (fun _ => 0) = W5 at *
  obtain ⟨g0, g1, g2, g3⟩ := four4 fun _ => hF.cell
  exact bodyPost_ret (v := .tuple #[.agg #[.int .u64 0, .int .u64 0, .int .u64 0, .int .u64 0], .int .i64 20]) (by simp [results, Try.results63, go_sem, g0, g1, g2, g3]) rfl ⟨rfl, hCF⟩

end Go.Proofs.Ytplldbmjdnikeaa
