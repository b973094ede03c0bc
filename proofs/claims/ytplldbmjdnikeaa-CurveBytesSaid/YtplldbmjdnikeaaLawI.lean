/- CurveBytes: the walk and the law. Printed by lawi.py. -/
import Derived.Test.YtplldbmjdnikeaaDecR
import Derived.Test.YtplldbmjdnikeaaBytP
import Derived.Test.YtplldbmjdnikeaaRbO
import Derived.ShutString
namespace Go.Proofs.Ytplldbmjdnikeaa
set_option linter.unusedVariables false
set_option linter.unusedSimpArgs false
open Go.RowKit Go.WideShapes Go.ChangeShapes

set_option maxRecDepth 100000 in
set_option maxHeartbeats 8000000 in
theorem bytes_ps {px py tx ty : Nat} {pi ti : Bool} {b s : ByteArray} 
    (C1 : Hid (∀ w : World, Calls Try.prog 27 #[.agg #[.int .u64 (lm px 0 : Nat), .int .u64 (lm px 1 : Nat), .int .u64 (lm px 2 : Nat), .int .u64 (lm px 3 : Nat), .int .u64 (lm py 0 : Nat), .int .u64 (lm py 1 : Nat), .int .u64 (lm py 2 : Nat), .int .u64 (lm py 3 : Nat), .bool pi]] w fun e w' => e = .returned (.tuple #[.string b, .int .i64 0]) ∧ Chg [] w w'))
    (C2 : Hid (∀ w : World, Calls Try.prog 28 #[.agg #[.int .u64 (lm px 0 : Nat), .int .u64 (lm px 1 : Nat), .int .u64 (lm px 2 : Nat), .int .u64 (lm px 3 : Nat), .int .u64 (lm py 0 : Nat), .int .u64 (lm py 1 : Nat), .int .u64 (lm py 2 : Nat), .int .u64 (lm py 3 : Nat), .bool pi]] w fun e w' => e = .returned (.tuple #[.string b, .int .i64 0]) ∧ Chg [] w w'))
    (C3 : Hid (∀ w : World, Calls Try.prog 29 #[.string s] w fun e w' => e = .returned (.tuple #[.agg #[.int .u64 (lm tx 0 : Nat), .int .u64 (lm tx 1 : Nat), .int .u64 (lm tx 2 : Nat), .int .u64 (lm tx 3 : Nat), .int .u64 (lm ty 0 : Nat), .int .u64 (lm ty 1 : Nat), .int .u64 (lm ty 2 : Nat), .int .u64 (lm ty 3 : Nat), .bool ti], .int .i64 0]) ∧ Chg [] w w'))
    (C4 : Hid (∀ w : World, Calls Try.prog 30 #[.string s] w fun e w' => e = .returned (.tuple #[.agg #[.int .u64 (lm tx 0 : Nat), .int .u64 (lm tx 1 : Nat), .int .u64 (lm tx 2 : Nat), .int .u64 (lm tx 3 : Nat), .int .u64 (lm ty 0 : Nat), .int .u64 (lm ty 1 : Nat), .int .u64 (lm ty 2 : Nat), .int .u64 (lm ty 3 : Nat), .bool ti], .int .i64 0]) ∧ Chg [] w w'))
    (C5 : Hid (∀ w : World, Calls Try.prog 29 #[.string b] w fun e w' => e = .returned (.tuple #[.agg #[.int .u64 (lm px 0 : Nat), .int .u64 (lm px 1 : Nat), .int .u64 (lm px 2 : Nat), .int .u64 (lm px 3 : Nat), .int .u64 (lm py 0 : Nat), .int .u64 (lm py 1 : Nat), .int .u64 (lm py 2 : Nat), .int .u64 (lm py 3 : Nat), .bool pi], .int .i64 0]) ∧ Chg [] w w'))
    (C6 : Hid (∀ w : World, Calls Try.prog 27 #[.agg #[.int .u64 (lm tx 0 : Nat), .int .u64 (lm tx 1 : Nat), .int .u64 (lm tx 2 : Nat), .int .u64 (lm tx 3 : Nat), .int .u64 (lm ty 0 : Nat), .int .u64 (lm ty 1 : Nat), .int .u64 (lm ty 2 : Nat), .int .u64 (lm ty 3 : Nat), .bool ti]] w fun e w' => e = .returned (.tuple #[.string s, .int .i64 0]) ∧ Chg [] w w'))
    (lt : tx < B6 ^ 4 ∧ ty < B6 ^ 4) (lp : px < B6 ^ 4 ∧ py < B6 ^ 4) (w : World) :
    Calls Try.prog 10 #[.agg #[.int .u64 (lm px 0 : Nat), .int .u64 (lm px 1 : Nat), .int .u64 (lm px 2 : Nat), .int .u64 (lm px 3 : Nat), .int .u64 (lm py 0 : Nat), .int .u64 (lm py 1 : Nat), .int .u64 (lm py 2 : Nat), .int .u64 (lm py 3 : Nat), .bool pi], .string s] w fun e w' => e = .returned (.bool true) ∧ Chg [] w w' := by
  have C8 := Lib.hid fun w => law_g w
  have et1 := fun w => num_eq9 lt.1 lt.1 w
  have et2 := fun w => num_eq9 lt.2 lt.2 w
  simp only [decide_true] at et1 et2
  have ep1 := fun w => num_eq9 lp.1 lp.1 w
  have ep2 := fun w => num_eq9 lp.2 lp.2 w
  simp only [decide_true] at ep1 ep2
  clear lt lp
  obtain ⟨W0, hW0⟩ : ∃ W0, (w.alloc (.cells #[.int .u64 (lm px 0 : Nat), .int .u64 (lm px 1 : Nat), .int .u64 (lm px 2 : Nat), .int .u64 (lm px 3 : Nat), .int .u64 (lm py 0 : Nat), .int .u64 (lm py 1 : Nat), .int .u64 (lm py 2 : Nat), .int .u64 (lm py 3 : Nat), .bool pi] 26)) = W0 := ⟨_, rfl⟩
  obtain ⟨B, hB⟩ : ∃ B, w.heap.size = B := ⟨_, rfl⟩
  have Hp := Lib.hid (show U9 W0 (B) px py pi by rw [← hW0, ← hB]; exact has_alloc_new _ _)
  have HC := Lib.hid (show Chg [] w W0 by rw [← hW0]; exact (Chg.refl _ _).alloc _)
  go_enter Try.func10, Try.ntmps10
  go_upto_region 1 with fail
  try rw [hW0]
  try rw [hB]
  clear hW0 hB
  obtain ⟨p0, p1, p2, p3, p4, p5, p6, p7, p8⟩ := Hp.out.all
  go_wp2_with fail
  refine (C1.out _).mono ?_
  rintro e w1 ⟨rfl, hC1⟩
  clear p0 p1 p2 p3 p4 p5 p6 p7 p8
  replace Hp := Lib.hid (Hp.out.chg hC1 nmN)
  replace HC := Lib.hid (HC.out.trans hC1)
  clear hC1
  go_upto_region 2 with fail
  obtain ⟨p0, p1, p2, p3, p4, p5, p6, p7, p8⟩ := Hp.out.all
  go_wp2_with fail
  refine (C2.out _).mono ?_
  rintro e w1 ⟨rfl, hC1⟩
  clear p0 p1 p2 p3 p4 p5 p6 p7 p8
  replace Hp := Lib.hid (Hp.out.chg hC1 nmN)
  replace HC := Lib.hid (HC.out.trans hC1)
  clear hC1
  go_upto_region 3 with fail
  go_wp2_with fail
  refine (C3.out _).mono ?_
  rintro e w1 ⟨rfl, hC1⟩
  replace Hp := Lib.hid (Hp.out.chg hC1 nmN)
  replace HC := Lib.hid (HC.out.trans hC1)
  clear hC1
  obtain ⟨W1, hW1⟩ : ∃ W1, w1.alloc (.cells #[.int .u64 (lm tx 0 : Nat), .int .u64 (lm tx 1 : Nat), .int .u64 (lm tx 2 : Nat), .int .u64 (lm tx 3 : Nat), .int .u64 (lm ty 0 : Nat), .int .u64 (lm ty 1 : Nat), .int .u64 (lm ty 2 : Nat), .int .u64 (lm ty 3 : Nat), .bool ti] 26) = W1 := ⟨_, rfl⟩
  have hA : Chg [] w1 W1 := by rw [← hW1]; exact (Chg.refl _ _).alloc _
  obtain ⟨b_t, hb⟩ : ∃ b, w1.heap.size = b := ⟨_, rfl⟩
  have hN : U9 W1 (b_t) tx ty ti := by rw [← hb, ← hW1]; exact has_alloc_new _ _
  replace Hp := Lib.hid (Hp.out.chg hA nmN)
  replace HC := Lib.hid (HC.out.trans hA)
  have Ht := Lib.hid hN
  have HW1 := Lib.hid hW1; have Hb := Lib.hid hb
  clear hW1 hb hA hN
  go_upto_region 4 with fail
  try rw [HW1.out]
  try rw [Hb.out]
  clear HW1 Hb
  go_wp2_with fail
  refine (C4.out _).mono ?_
  rintro e w1 ⟨rfl, hC1⟩
  replace Hp := Lib.hid (Hp.out.chg hC1 nmN)
  replace Ht := Lib.hid (Ht.out.chg hC1 nmN)
  replace HC := Lib.hid (HC.out.trans hC1)
  clear hC1
  obtain ⟨W1, hW1⟩ : ∃ W1, w1.alloc (.cells #[.int .u64 (lm tx 0 : Nat), .int .u64 (lm tx 1 : Nat), .int .u64 (lm tx 2 : Nat), .int .u64 (lm tx 3 : Nat), .int .u64 (lm ty 0 : Nat), .int .u64 (lm ty 1 : Nat), .int .u64 (lm ty 2 : Nat), .int .u64 (lm ty 3 : Nat), .bool ti] 26) = W1 := ⟨_, rfl⟩
  have hA : Chg [] w1 W1 := by rw [← hW1]; exact (Chg.refl _ _).alloc _
  obtain ⟨b_u, hb⟩ : ∃ b, w1.heap.size = b := ⟨_, rfl⟩
  have hN : U9 W1 (b_u) tx ty ti := by rw [← hb, ← hW1]; exact has_alloc_new _ _
  replace Hp := Lib.hid (Hp.out.chg hA nmN)
  replace Ht := Lib.hid (Ht.out.chg hA nmN)
  replace HC := Lib.hid (HC.out.trans hA)
  have Hu := Lib.hid hN
  have HW1 := Lib.hid hW1; have Hb := Lib.hid hb
  clear hW1 hb hA hN
  go_upto_region 5 with fail
  try rw [HW1.out]
  try rw [Hb.out]
  clear HW1 Hb
  obtain ⟨t0, t1, t2, t3, t4, t5, t6, t7, t8⟩ := Ht.out.all
  obtain ⟨u0, u1, u2, u3, u4, u5, u6, u7, u8⟩ := Hu.out.all
  go_upto_region 7 with fail
  clear t0 t1 t2 t3 t4 t5 t6 t7 t8 u0 u1 u2 u3 u4 u5 u6 u7 u8
  go_wp2_with fail
  refine (C5.out _).mono ?_
  rintro e w1 ⟨rfl, hC1⟩
  replace Hp := Lib.hid (Hp.out.chg hC1 nmN)
  replace Ht := Lib.hid (Ht.out.chg hC1 nmN)
  replace Hu := Lib.hid (Hu.out.chg hC1 nmN)
  replace HC := Lib.hid (HC.out.trans hC1)
  clear hC1
  obtain ⟨W1, hW1⟩ : ∃ W1, w1.alloc (.cells #[.int .u64 (lm px 0 : Nat), .int .u64 (lm px 1 : Nat), .int .u64 (lm px 2 : Nat), .int .u64 (lm px 3 : Nat), .int .u64 (lm py 0 : Nat), .int .u64 (lm py 1 : Nat), .int .u64 (lm py 2 : Nat), .int .u64 (lm py 3 : Nat), .bool pi] 26) = W1 := ⟨_, rfl⟩
  have hA : Chg [] w1 W1 := by rw [← hW1]; exact (Chg.refl _ _).alloc _
  obtain ⟨b_k, hb⟩ : ∃ b, w1.heap.size = b := ⟨_, rfl⟩
  have hN : U9 W1 (b_k) px py pi := by rw [← hb, ← hW1]; exact has_alloc_new _ _
  replace Hp := Lib.hid (Hp.out.chg hA nmN)
  replace Ht := Lib.hid (Ht.out.chg hA nmN)
  replace Hu := Lib.hid (Hu.out.chg hA nmN)
  replace HC := Lib.hid (HC.out.trans hA)
  have Hk := Lib.hid hN
  have HW1 := Lib.hid hW1; have Hb := Lib.hid hb
  clear hW1 hb hA hN
  go_upto_region 9 with fail
  try rw [HW1.out]
  try rw [Hb.out]
  clear HW1 Hb
  obtain ⟨k0, k1, k2, k3, k4, k5, k6, k7, k8⟩ := Hk.out.all
  obtain ⟨p0, p1, p2, p3, p4, p5, p6, p7, p8⟩ := Hp.out.all
  go_upto_region 11 with fail
  clear k0 k1 k2 k3 k4 k5 k6 k7 k8 p0 p1 p2 p3 p4 p5 p6 p7 p8
  obtain ⟨t0, t1, t2, t3, t4, t5, t6, t7, t8⟩ := Ht.out.all
  go_wp2_with fail
  refine (C6.out _).mono ?_
  rintro e w1 ⟨rfl, hC1⟩
  clear t0 t1 t2 t3 t4 t5 t6 t7 t8
  replace Hp := Lib.hid (Hp.out.chg hC1 nmN)
  replace Ht := Lib.hid (Ht.out.chg hC1 nmN)
  replace Hu := Lib.hid (Hu.out.chg hC1 nmN)
  replace Hk := Lib.hid (Hk.out.chg hC1 nmN)
  replace HC := Lib.hid (HC.out.trans hC1)
  clear hC1
  go_wp2_with fail
  refine (C8.out _).mono ?_
  rintro e w1 ⟨rfl, hC1⟩
  replace Hp := Lib.hid (Hp.out.chg hC1 nmN)
  replace Ht := Lib.hid (Ht.out.chg hC1 nmN)
  replace Hu := Lib.hid (Hu.out.chg hC1 nmN)
  replace Hk := Lib.hid (Hk.out.chg hC1 nmN)
  replace HC := Lib.hid (HC.out.trans hC1)
  clear hC1
  go_wp2_with fail
  go_ret
  exact ⟨rfl, HC.out⟩

set_option maxRecDepth 100000 in
set_option maxHeartbeats 8000000 in
theorem bytes_pt {px py tx ty : Nat} {pi ti : Bool} {b s : ByteArray} {H : Int} (hH : H ≠ 0)
    (C1 : Hid (∀ w : World, Calls Try.prog 27 #[.agg #[.int .u64 (lm px 0 : Nat), .int .u64 (lm px 1 : Nat), .int .u64 (lm px 2 : Nat), .int .u64 (lm px 3 : Nat), .int .u64 (lm py 0 : Nat), .int .u64 (lm py 1 : Nat), .int .u64 (lm py 2 : Nat), .int .u64 (lm py 3 : Nat), .bool pi]] w fun e w' => e = .returned (.tuple #[.string b, .int .i64 0]) ∧ Chg [] w w'))
    (C2 : Hid (∀ w : World, Calls Try.prog 28 #[.agg #[.int .u64 (lm px 0 : Nat), .int .u64 (lm px 1 : Nat), .int .u64 (lm px 2 : Nat), .int .u64 (lm px 3 : Nat), .int .u64 (lm py 0 : Nat), .int .u64 (lm py 1 : Nat), .int .u64 (lm py 2 : Nat), .int .u64 (lm py 3 : Nat), .bool pi]] w fun e w' => e = .returned (.tuple #[.string b, .int .i64 0]) ∧ Chg [] w w'))
    (C3 : Hid (∀ w : World, Calls Try.prog 29 #[.string s] w fun e w' => e = .returned (.tuple #[.agg #[.int .u64 (lm tx 0 : Nat), .int .u64 (lm tx 1 : Nat), .int .u64 (lm tx 2 : Nat), .int .u64 (lm tx 3 : Nat), .int .u64 (lm ty 0 : Nat), .int .u64 (lm ty 1 : Nat), .int .u64 (lm ty 2 : Nat), .int .u64 (lm ty 3 : Nat), .bool ti], .int .i64 H]) ∧ Chg [] w w'))
    (C4 : Hid (∀ w : World, Calls Try.prog 30 #[.string s] w fun e w' => e = .returned (.tuple #[.agg #[.int .u64 (lm tx 0 : Nat), .int .u64 (lm tx 1 : Nat), .int .u64 (lm tx 2 : Nat), .int .u64 (lm tx 3 : Nat), .int .u64 (lm ty 0 : Nat), .int .u64 (lm ty 1 : Nat), .int .u64 (lm ty 2 : Nat), .int .u64 (lm ty 3 : Nat), .bool ti], .int .i64 H]) ∧ Chg [] w w'))
    (C5 : Hid (∀ w : World, Calls Try.prog 29 #[.string b] w fun e w' => e = .returned (.tuple #[.agg #[.int .u64 (lm px 0 : Nat), .int .u64 (lm px 1 : Nat), .int .u64 (lm px 2 : Nat), .int .u64 (lm px 3 : Nat), .int .u64 (lm py 0 : Nat), .int .u64 (lm py 1 : Nat), .int .u64 (lm py 2 : Nat), .int .u64 (lm py 3 : Nat), .bool pi], .int .i64 0]) ∧ Chg [] w w'))
    (lt : tx < B6 ^ 4 ∧ ty < B6 ^ 4) (lp : px < B6 ^ 4 ∧ py < B6 ^ 4) (w : World) :
    Calls Try.prog 10 #[.agg #[.int .u64 (lm px 0 : Nat), .int .u64 (lm px 1 : Nat), .int .u64 (lm px 2 : Nat), .int .u64 (lm px 3 : Nat), .int .u64 (lm py 0 : Nat), .int .u64 (lm py 1 : Nat), .int .u64 (lm py 2 : Nat), .int .u64 (lm py 3 : Nat), .bool pi], .string s] w fun e w' => e = .returned (.bool true) ∧ Chg [] w w' := by
  have C8 := Lib.hid fun w => law_g w
  have et1 := fun w => num_eq9 lt.1 lt.1 w
  have et2 := fun w => num_eq9 lt.2 lt.2 w
  simp only [decide_true] at et1 et2
  have ep1 := fun w => num_eq9 lp.1 lp.1 w
  have ep2 := fun w => num_eq9 lp.2 lp.2 w
  simp only [decide_true] at ep1 ep2
  clear lt lp
  have tH : (H == 0) = false := by simp; omega
  clear hH
  obtain ⟨W0, hW0⟩ : ∃ W0, (w.alloc (.cells #[.int .u64 (lm px 0 : Nat), .int .u64 (lm px 1 : Nat), .int .u64 (lm px 2 : Nat), .int .u64 (lm px 3 : Nat), .int .u64 (lm py 0 : Nat), .int .u64 (lm py 1 : Nat), .int .u64 (lm py 2 : Nat), .int .u64 (lm py 3 : Nat), .bool pi] 26)) = W0 := ⟨_, rfl⟩
  obtain ⟨B, hB⟩ : ∃ B, w.heap.size = B := ⟨_, rfl⟩
  have Hp := Lib.hid (show U9 W0 (B) px py pi by rw [← hW0, ← hB]; exact has_alloc_new _ _)
  have HC := Lib.hid (show Chg [] w W0 by rw [← hW0]; exact (Chg.refl _ _).alloc _)
  go_enter Try.func10, Try.ntmps10
  go_upto_region 1 with fail
  try rw [hW0]
  try rw [hB]
  clear hW0 hB
  obtain ⟨p0, p1, p2, p3, p4, p5, p6, p7, p8⟩ := Hp.out.all
  go_wp2_with fail
  refine (C1.out _).mono ?_
  rintro e w1 ⟨rfl, hC1⟩
  clear p0 p1 p2 p3 p4 p5 p6 p7 p8
  replace Hp := Lib.hid (Hp.out.chg hC1 nmN)
  replace HC := Lib.hid (HC.out.trans hC1)
  clear hC1
  go_upto_region 2 with fail
  obtain ⟨p0, p1, p2, p3, p4, p5, p6, p7, p8⟩ := Hp.out.all
  go_wp2_with fail
  refine (C2.out _).mono ?_
  rintro e w1 ⟨rfl, hC1⟩
  clear p0 p1 p2 p3 p4 p5 p6 p7 p8
  replace Hp := Lib.hid (Hp.out.chg hC1 nmN)
  replace HC := Lib.hid (HC.out.trans hC1)
  clear hC1
  go_upto_region 3 with fail
  go_wp2_with fail
  refine (C3.out _).mono ?_
  rintro e w1 ⟨rfl, hC1⟩
  replace Hp := Lib.hid (Hp.out.chg hC1 nmN)
  replace HC := Lib.hid (HC.out.trans hC1)
  clear hC1
  obtain ⟨W1, hW1⟩ : ∃ W1, w1.alloc (.cells #[.int .u64 (lm tx 0 : Nat), .int .u64 (lm tx 1 : Nat), .int .u64 (lm tx 2 : Nat), .int .u64 (lm tx 3 : Nat), .int .u64 (lm ty 0 : Nat), .int .u64 (lm ty 1 : Nat), .int .u64 (lm ty 2 : Nat), .int .u64 (lm ty 3 : Nat), .bool ti] 26) = W1 := ⟨_, rfl⟩
  have hA : Chg [] w1 W1 := by rw [← hW1]; exact (Chg.refl _ _).alloc _
  obtain ⟨b_t, hb⟩ : ∃ b, w1.heap.size = b := ⟨_, rfl⟩
  have hN : U9 W1 (b_t) tx ty ti := by rw [← hb, ← hW1]; exact has_alloc_new _ _
  replace Hp := Lib.hid (Hp.out.chg hA nmN)
  replace HC := Lib.hid (HC.out.trans hA)
  have Ht := Lib.hid hN
  have HW1 := Lib.hid hW1; have Hb := Lib.hid hb
  clear hW1 hb hA hN
  go_upto_region 4 with fail
  try rw [HW1.out]
  try rw [Hb.out]
  clear HW1 Hb
  go_wp2_with fail
  refine (C4.out _).mono ?_
  rintro e w1 ⟨rfl, hC1⟩
  replace Hp := Lib.hid (Hp.out.chg hC1 nmN)
  replace Ht := Lib.hid (Ht.out.chg hC1 nmN)
  replace HC := Lib.hid (HC.out.trans hC1)
  clear hC1
  obtain ⟨W1, hW1⟩ : ∃ W1, w1.alloc (.cells #[.int .u64 (lm tx 0 : Nat), .int .u64 (lm tx 1 : Nat), .int .u64 (lm tx 2 : Nat), .int .u64 (lm tx 3 : Nat), .int .u64 (lm ty 0 : Nat), .int .u64 (lm ty 1 : Nat), .int .u64 (lm ty 2 : Nat), .int .u64 (lm ty 3 : Nat), .bool ti] 26) = W1 := ⟨_, rfl⟩
  have hA : Chg [] w1 W1 := by rw [← hW1]; exact (Chg.refl _ _).alloc _
  obtain ⟨b_u, hb⟩ : ∃ b, w1.heap.size = b := ⟨_, rfl⟩
  have hN : U9 W1 (b_u) tx ty ti := by rw [← hb, ← hW1]; exact has_alloc_new _ _
  replace Hp := Lib.hid (Hp.out.chg hA nmN)
  replace Ht := Lib.hid (Ht.out.chg hA nmN)
  replace HC := Lib.hid (HC.out.trans hA)
  have Hu := Lib.hid hN
  have HW1 := Lib.hid hW1; have Hb := Lib.hid hb
  clear hW1 hb hA hN
  go_upto_region 5 with fail
  try rw [HW1.out]
  try rw [Hb.out]
  clear HW1 Hb
  obtain ⟨t0, t1, t2, t3, t4, t5, t6, t7, t8⟩ := Ht.out.all
  obtain ⟨u0, u1, u2, u3, u4, u5, u6, u7, u8⟩ := Hu.out.all
  go_upto_region 7 with fail
  clear t0 t1 t2 t3 t4 t5 t6 t7 t8 u0 u1 u2 u3 u4 u5 u6 u7 u8
  go_wp2_with fail
  refine (C5.out _).mono ?_
  rintro e w1 ⟨rfl, hC1⟩
  replace Hp := Lib.hid (Hp.out.chg hC1 nmN)
  replace Ht := Lib.hid (Ht.out.chg hC1 nmN)
  replace Hu := Lib.hid (Hu.out.chg hC1 nmN)
  replace HC := Lib.hid (HC.out.trans hC1)
  clear hC1
  obtain ⟨W1, hW1⟩ : ∃ W1, w1.alloc (.cells #[.int .u64 (lm px 0 : Nat), .int .u64 (lm px 1 : Nat), .int .u64 (lm px 2 : Nat), .int .u64 (lm px 3 : Nat), .int .u64 (lm py 0 : Nat), .int .u64 (lm py 1 : Nat), .int .u64 (lm py 2 : Nat), .int .u64 (lm py 3 : Nat), .bool pi] 26) = W1 := ⟨_, rfl⟩
  have hA : Chg [] w1 W1 := by rw [← hW1]; exact (Chg.refl _ _).alloc _
  obtain ⟨b_k, hb⟩ : ∃ b, w1.heap.size = b := ⟨_, rfl⟩
  have hN : U9 W1 (b_k) px py pi := by rw [← hb, ← hW1]; exact has_alloc_new _ _
  replace Hp := Lib.hid (Hp.out.chg hA nmN)
  replace Ht := Lib.hid (Ht.out.chg hA nmN)
  replace Hu := Lib.hid (Hu.out.chg hA nmN)
  replace HC := Lib.hid (HC.out.trans hA)
  have Hk := Lib.hid hN
  have HW1 := Lib.hid hW1; have Hb := Lib.hid hb
  clear hW1 hb hA hN
  go_upto_region 9 with fail
  try rw [HW1.out]
  try rw [Hb.out]
  clear HW1 Hb
  obtain ⟨k0, k1, k2, k3, k4, k5, k6, k7, k8⟩ := Hk.out.all
  obtain ⟨p0, p1, p2, p3, p4, p5, p6, p7, p8⟩ := Hp.out.all
  go_upto_region 11 with fail
  clear k0 k1 k2 k3 k4 k5 k6 k7 k8 p0 p1 p2 p3 p4 p5 p6 p7 p8
  go_wp2_with fail
  refine (C8.out _).mono ?_
  rintro e w1 ⟨rfl, hC1⟩
  replace Hp := Lib.hid (Hp.out.chg hC1 nmN)
  replace Ht := Lib.hid (Ht.out.chg hC1 nmN)
  replace Hu := Lib.hid (Hu.out.chg hC1 nmN)
  replace Hk := Lib.hid (Hk.out.chg hC1 nmN)
  replace HC := Lib.hid (HC.out.trans hC1)
  clear hC1
  go_wp2_with fail
  go_ret
  exact ⟨rfl, HC.out⟩

set_option maxRecDepth 100000 in
set_option maxHeartbeats 8000000 in
theorem bytes_qs {px py tx ty : Nat} {pi ti : Bool} {b s : ByteArray} 
    (C1 : Hid (∀ w : World, Calls Try.prog 27 #[.agg #[.int .u64 (lm px 0 : Nat), .int .u64 (lm px 1 : Nat), .int .u64 (lm px 2 : Nat), .int .u64 (lm px 3 : Nat), .int .u64 (lm py 0 : Nat), .int .u64 (lm py 1 : Nat), .int .u64 (lm py 2 : Nat), .int .u64 (lm py 3 : Nat), .bool pi]] w fun e w' => e = .returned (.tuple #[.string b, .int .i64 30]) ∧ Chg [] w w'))
    (C2 : Hid (∀ w : World, Calls Try.prog 28 #[.agg #[.int .u64 (lm px 0 : Nat), .int .u64 (lm px 1 : Nat), .int .u64 (lm px 2 : Nat), .int .u64 (lm px 3 : Nat), .int .u64 (lm py 0 : Nat), .int .u64 (lm py 1 : Nat), .int .u64 (lm py 2 : Nat), .int .u64 (lm py 3 : Nat), .bool pi]] w fun e w' => e = .returned (.tuple #[.string b, .int .i64 30]) ∧ Chg [] w w'))
    (C3 : Hid (∀ w : World, Calls Try.prog 29 #[.string s] w fun e w' => e = .returned (.tuple #[.agg #[.int .u64 (lm tx 0 : Nat), .int .u64 (lm tx 1 : Nat), .int .u64 (lm tx 2 : Nat), .int .u64 (lm tx 3 : Nat), .int .u64 (lm ty 0 : Nat), .int .u64 (lm ty 1 : Nat), .int .u64 (lm ty 2 : Nat), .int .u64 (lm ty 3 : Nat), .bool ti], .int .i64 0]) ∧ Chg [] w w'))
    (C4 : Hid (∀ w : World, Calls Try.prog 30 #[.string s] w fun e w' => e = .returned (.tuple #[.agg #[.int .u64 (lm tx 0 : Nat), .int .u64 (lm tx 1 : Nat), .int .u64 (lm tx 2 : Nat), .int .u64 (lm tx 3 : Nat), .int .u64 (lm ty 0 : Nat), .int .u64 (lm ty 1 : Nat), .int .u64 (lm ty 2 : Nat), .int .u64 (lm ty 3 : Nat), .bool ti], .int .i64 0]) ∧ Chg [] w w'))
    (C6 : Hid (∀ w : World, Calls Try.prog 27 #[.agg #[.int .u64 (lm tx 0 : Nat), .int .u64 (lm tx 1 : Nat), .int .u64 (lm tx 2 : Nat), .int .u64 (lm tx 3 : Nat), .int .u64 (lm ty 0 : Nat), .int .u64 (lm ty 1 : Nat), .int .u64 (lm ty 2 : Nat), .int .u64 (lm ty 3 : Nat), .bool ti]] w fun e w' => e = .returned (.tuple #[.string s, .int .i64 0]) ∧ Chg [] w w'))
    (lt : tx < B6 ^ 4 ∧ ty < B6 ^ 4) (lp : px < B6 ^ 4 ∧ py < B6 ^ 4) (w : World) :
    Calls Try.prog 10 #[.agg #[.int .u64 (lm px 0 : Nat), .int .u64 (lm px 1 : Nat), .int .u64 (lm px 2 : Nat), .int .u64 (lm px 3 : Nat), .int .u64 (lm py 0 : Nat), .int .u64 (lm py 1 : Nat), .int .u64 (lm py 2 : Nat), .int .u64 (lm py 3 : Nat), .bool pi], .string s] w fun e w' => e = .returned (.bool true) ∧ Chg [] w w' := by
  have C8 := Lib.hid fun w => law_g w
  have et1 := fun w => num_eq9 lt.1 lt.1 w
  have et2 := fun w => num_eq9 lt.2 lt.2 w
  simp only [decide_true] at et1 et2
  clear lt lp
  obtain ⟨W0, hW0⟩ : ∃ W0, (w.alloc (.cells #[.int .u64 (lm px 0 : Nat), .int .u64 (lm px 1 : Nat), .int .u64 (lm px 2 : Nat), .int .u64 (lm px 3 : Nat), .int .u64 (lm py 0 : Nat), .int .u64 (lm py 1 : Nat), .int .u64 (lm py 2 : Nat), .int .u64 (lm py 3 : Nat), .bool pi] 26)) = W0 := ⟨_, rfl⟩
  obtain ⟨B, hB⟩ : ∃ B, w.heap.size = B := ⟨_, rfl⟩
  have Hp := Lib.hid (show U9 W0 (B) px py pi by rw [← hW0, ← hB]; exact has_alloc_new _ _)
  have HC := Lib.hid (show Chg [] w W0 by rw [← hW0]; exact (Chg.refl _ _).alloc _)
  go_enter Try.func10, Try.ntmps10
  go_upto_region 1 with fail
  try rw [hW0]
  try rw [hB]
  clear hW0 hB
  obtain ⟨p0, p1, p2, p3, p4, p5, p6, p7, p8⟩ := Hp.out.all
  go_wp2_with fail
  refine (C1.out _).mono ?_
  rintro e w1 ⟨rfl, hC1⟩
  clear p0 p1 p2 p3 p4 p5 p6 p7 p8
  replace Hp := Lib.hid (Hp.out.chg hC1 nmN)
  replace HC := Lib.hid (HC.out.trans hC1)
  clear hC1
  go_upto_region 2 with fail
  obtain ⟨p0, p1, p2, p3, p4, p5, p6, p7, p8⟩ := Hp.out.all
  go_wp2_with fail
  refine (C2.out _).mono ?_
  rintro e w1 ⟨rfl, hC1⟩
  clear p0 p1 p2 p3 p4 p5 p6 p7 p8
  replace Hp := Lib.hid (Hp.out.chg hC1 nmN)
  replace HC := Lib.hid (HC.out.trans hC1)
  clear hC1
  go_upto_region 3 with fail
  go_wp2_with fail
  refine (C3.out _).mono ?_
  rintro e w1 ⟨rfl, hC1⟩
  replace Hp := Lib.hid (Hp.out.chg hC1 nmN)
  replace HC := Lib.hid (HC.out.trans hC1)
  clear hC1
  obtain ⟨W1, hW1⟩ : ∃ W1, w1.alloc (.cells #[.int .u64 (lm tx 0 : Nat), .int .u64 (lm tx 1 : Nat), .int .u64 (lm tx 2 : Nat), .int .u64 (lm tx 3 : Nat), .int .u64 (lm ty 0 : Nat), .int .u64 (lm ty 1 : Nat), .int .u64 (lm ty 2 : Nat), .int .u64 (lm ty 3 : Nat), .bool ti] 26) = W1 := ⟨_, rfl⟩
  have hA : Chg [] w1 W1 := by rw [← hW1]; exact (Chg.refl _ _).alloc _
  obtain ⟨b_t, hb⟩ : ∃ b, w1.heap.size = b := ⟨_, rfl⟩
  have hN : U9 W1 (b_t) tx ty ti := by rw [← hb, ← hW1]; exact has_alloc_new _ _
  replace Hp := Lib.hid (Hp.out.chg hA nmN)
  replace HC := Lib.hid (HC.out.trans hA)
  have Ht := Lib.hid hN
  have HW1 := Lib.hid hW1; have Hb := Lib.hid hb
  clear hW1 hb hA hN
  go_upto_region 4 with fail
  try rw [HW1.out]
  try rw [Hb.out]
  clear HW1 Hb
  go_wp2_with fail
  refine (C4.out _).mono ?_
  rintro e w1 ⟨rfl, hC1⟩
  replace Hp := Lib.hid (Hp.out.chg hC1 nmN)
  replace Ht := Lib.hid (Ht.out.chg hC1 nmN)
  replace HC := Lib.hid (HC.out.trans hC1)
  clear hC1
  obtain ⟨W1, hW1⟩ : ∃ W1, w1.alloc (.cells #[.int .u64 (lm tx 0 : Nat), .int .u64 (lm tx 1 : Nat), .int .u64 (lm tx 2 : Nat), .int .u64 (lm tx 3 : Nat), .int .u64 (lm ty 0 : Nat), .int .u64 (lm ty 1 : Nat), .int .u64 (lm ty 2 : Nat), .int .u64 (lm ty 3 : Nat), .bool ti] 26) = W1 := ⟨_, rfl⟩
  have hA : Chg [] w1 W1 := by rw [← hW1]; exact (Chg.refl _ _).alloc _
  obtain ⟨b_u, hb⟩ : ∃ b, w1.heap.size = b := ⟨_, rfl⟩
  have hN : U9 W1 (b_u) tx ty ti := by rw [← hb, ← hW1]; exact has_alloc_new _ _
  replace Hp := Lib.hid (Hp.out.chg hA nmN)
  replace Ht := Lib.hid (Ht.out.chg hA nmN)
  replace HC := Lib.hid (HC.out.trans hA)
  have Hu := Lib.hid hN
  have HW1 := Lib.hid hW1; have Hb := Lib.hid hb
  clear hW1 hb hA hN
  go_upto_region 5 with fail
  try rw [HW1.out]
  try rw [Hb.out]
  clear HW1 Hb
  obtain ⟨t0, t1, t2, t3, t4, t5, t6, t7, t8⟩ := Ht.out.all
  obtain ⟨u0, u1, u2, u3, u4, u5, u6, u7, u8⟩ := Hu.out.all
  go_upto_region 7 with fail
  clear t0 t1 t2 t3 t4 t5 t6 t7 t8 u0 u1 u2 u3 u4 u5 u6 u7 u8
  obtain ⟨t0, t1, t2, t3, t4, t5, t6, t7, t8⟩ := Ht.out.all
  go_wp2_with fail
  refine (C6.out _).mono ?_
  rintro e w1 ⟨rfl, hC1⟩
  clear t0 t1 t2 t3 t4 t5 t6 t7 t8
  replace Hp := Lib.hid (Hp.out.chg hC1 nmN)
  replace Ht := Lib.hid (Ht.out.chg hC1 nmN)
  replace Hu := Lib.hid (Hu.out.chg hC1 nmN)
  replace HC := Lib.hid (HC.out.trans hC1)
  clear hC1
  go_wp2_with fail
  refine (C8.out _).mono ?_
  rintro e w1 ⟨rfl, hC1⟩
  replace Hp := Lib.hid (Hp.out.chg hC1 nmN)
  replace Ht := Lib.hid (Ht.out.chg hC1 nmN)
  replace Hu := Lib.hid (Hu.out.chg hC1 nmN)
  replace HC := Lib.hid (HC.out.trans hC1)
  clear hC1
  go_wp2_with fail
  go_ret
  exact ⟨rfl, HC.out⟩

set_option maxRecDepth 100000 in
set_option maxHeartbeats 8000000 in
theorem bytes_qt {px py tx ty : Nat} {pi ti : Bool} {b s : ByteArray} {H : Int} (hH : H ≠ 0)
    (C1 : Hid (∀ w : World, Calls Try.prog 27 #[.agg #[.int .u64 (lm px 0 : Nat), .int .u64 (lm px 1 : Nat), .int .u64 (lm px 2 : Nat), .int .u64 (lm px 3 : Nat), .int .u64 (lm py 0 : Nat), .int .u64 (lm py 1 : Nat), .int .u64 (lm py 2 : Nat), .int .u64 (lm py 3 : Nat), .bool pi]] w fun e w' => e = .returned (.tuple #[.string b, .int .i64 30]) ∧ Chg [] w w'))
    (C2 : Hid (∀ w : World, Calls Try.prog 28 #[.agg #[.int .u64 (lm px 0 : Nat), .int .u64 (lm px 1 : Nat), .int .u64 (lm px 2 : Nat), .int .u64 (lm px 3 : Nat), .int .u64 (lm py 0 : Nat), .int .u64 (lm py 1 : Nat), .int .u64 (lm py 2 : Nat), .int .u64 (lm py 3 : Nat), .bool pi]] w fun e w' => e = .returned (.tuple #[.string b, .int .i64 30]) ∧ Chg [] w w'))
    (C3 : Hid (∀ w : World, Calls Try.prog 29 #[.string s] w fun e w' => e = .returned (.tuple #[.agg #[.int .u64 (lm tx 0 : Nat), .int .u64 (lm tx 1 : Nat), .int .u64 (lm tx 2 : Nat), .int .u64 (lm tx 3 : Nat), .int .u64 (lm ty 0 : Nat), .int .u64 (lm ty 1 : Nat), .int .u64 (lm ty 2 : Nat), .int .u64 (lm ty 3 : Nat), .bool ti], .int .i64 H]) ∧ Chg [] w w'))
    (C4 : Hid (∀ w : World, Calls Try.prog 30 #[.string s] w fun e w' => e = .returned (.tuple #[.agg #[.int .u64 (lm tx 0 : Nat), .int .u64 (lm tx 1 : Nat), .int .u64 (lm tx 2 : Nat), .int .u64 (lm tx 3 : Nat), .int .u64 (lm ty 0 : Nat), .int .u64 (lm ty 1 : Nat), .int .u64 (lm ty 2 : Nat), .int .u64 (lm ty 3 : Nat), .bool ti], .int .i64 H]) ∧ Chg [] w w'))
    (lt : tx < B6 ^ 4 ∧ ty < B6 ^ 4) (lp : px < B6 ^ 4 ∧ py < B6 ^ 4) (w : World) :
    Calls Try.prog 10 #[.agg #[.int .u64 (lm px 0 : Nat), .int .u64 (lm px 1 : Nat), .int .u64 (lm px 2 : Nat), .int .u64 (lm px 3 : Nat), .int .u64 (lm py 0 : Nat), .int .u64 (lm py 1 : Nat), .int .u64 (lm py 2 : Nat), .int .u64 (lm py 3 : Nat), .bool pi], .string s] w fun e w' => e = .returned (.bool true) ∧ Chg [] w w' := by
  have C8 := Lib.hid fun w => law_g w
  have et1 := fun w => num_eq9 lt.1 lt.1 w
  have et2 := fun w => num_eq9 lt.2 lt.2 w
  simp only [decide_true] at et1 et2
  clear lt lp
  have tH : (H == 0) = false := by simp; omega
  clear hH
  obtain ⟨W0, hW0⟩ : ∃ W0, (w.alloc (.cells #[.int .u64 (lm px 0 : Nat), .int .u64 (lm px 1 : Nat), .int .u64 (lm px 2 : Nat), .int .u64 (lm px 3 : Nat), .int .u64 (lm py 0 : Nat), .int .u64 (lm py 1 : Nat), .int .u64 (lm py 2 : Nat), .int .u64 (lm py 3 : Nat), .bool pi] 26)) = W0 := ⟨_, rfl⟩
  obtain ⟨B, hB⟩ : ∃ B, w.heap.size = B := ⟨_, rfl⟩
  have Hp := Lib.hid (show U9 W0 (B) px py pi by rw [← hW0, ← hB]; exact has_alloc_new _ _)
  have HC := Lib.hid (show Chg [] w W0 by rw [← hW0]; exact (Chg.refl _ _).alloc _)
  go_enter Try.func10, Try.ntmps10
  go_upto_region 1 with fail
  try rw [hW0]
  try rw [hB]
  clear hW0 hB
  obtain ⟨p0, p1, p2, p3, p4, p5, p6, p7, p8⟩ := Hp.out.all
  go_wp2_with fail
  refine (C1.out _).mono ?_
  rintro e w1 ⟨rfl, hC1⟩
  clear p0 p1 p2 p3 p4 p5 p6 p7 p8
  replace Hp := Lib.hid (Hp.out.chg hC1 nmN)
  replace HC := Lib.hid (HC.out.trans hC1)
  clear hC1
  go_upto_region 2 with fail
  obtain ⟨p0, p1, p2, p3, p4, p5, p6, p7, p8⟩ := Hp.out.all
  go_wp2_with fail
  refine (C2.out _).mono ?_
  rintro e w1 ⟨rfl, hC1⟩
  clear p0 p1 p2 p3 p4 p5 p6 p7 p8
  replace Hp := Lib.hid (Hp.out.chg hC1 nmN)
  replace HC := Lib.hid (HC.out.trans hC1)
  clear hC1
  go_upto_region 3 with fail
  go_wp2_with fail
  refine (C3.out _).mono ?_
  rintro e w1 ⟨rfl, hC1⟩
  replace Hp := Lib.hid (Hp.out.chg hC1 nmN)
  replace HC := Lib.hid (HC.out.trans hC1)
  clear hC1
  obtain ⟨W1, hW1⟩ : ∃ W1, w1.alloc (.cells #[.int .u64 (lm tx 0 : Nat), .int .u64 (lm tx 1 : Nat), .int .u64 (lm tx 2 : Nat), .int .u64 (lm tx 3 : Nat), .int .u64 (lm ty 0 : Nat), .int .u64 (lm ty 1 : Nat), .int .u64 (lm ty 2 : Nat), .int .u64 (lm ty 3 : Nat), .bool ti] 26) = W1 := ⟨_, rfl⟩
  have hA : Chg [] w1 W1 := by rw [← hW1]; exact (Chg.refl _ _).alloc _
  obtain ⟨b_t, hb⟩ : ∃ b, w1.heap.size = b := ⟨_, rfl⟩
  have hN : U9 W1 (b_t) tx ty ti := by rw [← hb, ← hW1]; exact has_alloc_new _ _
  replace Hp := Lib.hid (Hp.out.chg hA nmN)
  replace HC := Lib.hid (HC.out.trans hA)
  have Ht := Lib.hid hN
  have HW1 := Lib.hid hW1; have Hb := Lib.hid hb
  clear hW1 hb hA hN
  go_upto_region 4 with fail
  try rw [HW1.out]
  try rw [Hb.out]
  clear HW1 Hb
  go_wp2_with fail
  refine (C4.out _).mono ?_
  rintro e w1 ⟨rfl, hC1⟩
  replace Hp := Lib.hid (Hp.out.chg hC1 nmN)
  replace Ht := Lib.hid (Ht.out.chg hC1 nmN)
  replace HC := Lib.hid (HC.out.trans hC1)
  clear hC1
  obtain ⟨W1, hW1⟩ : ∃ W1, w1.alloc (.cells #[.int .u64 (lm tx 0 : Nat), .int .u64 (lm tx 1 : Nat), .int .u64 (lm tx 2 : Nat), .int .u64 (lm tx 3 : Nat), .int .u64 (lm ty 0 : Nat), .int .u64 (lm ty 1 : Nat), .int .u64 (lm ty 2 : Nat), .int .u64 (lm ty 3 : Nat), .bool ti] 26) = W1 := ⟨_, rfl⟩
  have hA : Chg [] w1 W1 := by rw [← hW1]; exact (Chg.refl _ _).alloc _
  obtain ⟨b_u, hb⟩ : ∃ b, w1.heap.size = b := ⟨_, rfl⟩
  have hN : U9 W1 (b_u) tx ty ti := by rw [← hb, ← hW1]; exact has_alloc_new _ _
  replace Hp := Lib.hid (Hp.out.chg hA nmN)
  replace Ht := Lib.hid (Ht.out.chg hA nmN)
  replace HC := Lib.hid (HC.out.trans hA)
  have Hu := Lib.hid hN
  have HW1 := Lib.hid hW1; have Hb := Lib.hid hb
  clear hW1 hb hA hN
  go_upto_region 5 with fail
  try rw [HW1.out]
  try rw [Hb.out]
  clear HW1 Hb
  obtain ⟨t0, t1, t2, t3, t4, t5, t6, t7, t8⟩ := Ht.out.all
  obtain ⟨u0, u1, u2, u3, u4, u5, u6, u7, u8⟩ := Hu.out.all
  go_upto_region 7 with fail
  clear t0 t1 t2 t3 t4 t5 t6 t7 t8 u0 u1 u2 u3 u4 u5 u6 u7 u8
  go_wp2_with fail
  refine (C8.out _).mono ?_
  rintro e w1 ⟨rfl, hC1⟩
  replace Hp := Lib.hid (Hp.out.chg hC1 nmN)
  replace Ht := Lib.hid (Ht.out.chg hC1 nmN)
  replace Hu := Lib.hid (Hu.out.chg hC1 nmN)
  replace HC := Lib.hid (HC.out.trans hC1)
  clear hC1
  go_wp2_with fail
  go_ret
  exact ⟨rfl, HC.out⟩

/-- What a string is decoded to. -/
inductive DecR (l : List UInt8) : Prop
  | ok (Q : Pc) (hQ : Q.on 7) (h1 : ∀ w : World, Calls Try.prog 29 #[.string ⟨l.toArray⟩] w fun e w' => e = .returned (.tuple #[.agg (pv (ofP Q)), .int .i64 0]) ∧ Chg [] w w')
    (h2 : ∀ w : World, Calls Try.prog 30 #[.string ⟨l.toArray⟩] w fun e w' => e = .returned (.tuple #[.agg (pv (ofP Q)), .int .i64 0]) ∧ Chg [] w w') (he : encL Q = l) : DecR l
  | bad (H : Int) (hH : H ≠ 0) (h1 : ∀ w : World, Calls Try.prog 29 #[.string ⟨l.toArray⟩] w fun e w' => e = .returned (.tuple #[.agg #[.int .u64 0, .int .u64 0, .int .u64 0, .int .u64 0, .int .u64 0, .int .u64 0, .int .u64 0, .int .u64 0, .bool false], .int .i64 H]) ∧ Chg [] w w')
    (h2 : ∀ w : World, Calls Try.prog 30 #[.string ⟨l.toArray⟩] w fun e w' => e = .returned (.tuple #[.agg #[.int .u64 0, .int .u64 0, .int .u64 0, .int .u64 0, .int .u64 0, .int .u64 0, .int .u64 0, .int .u64 0, .bool false], .int .i64 H]) ∧ Chg [] w w') : DecR l
theorem pv_inf8 : pv (ofP .inf) = #[.int .u64 0, .int .u64 0, .int .u64 0, .int .u64 0, .int .u64 0, .int .u64 0, .int .u64 0, .int .u64 0, .bool true] := by
  show (#[.int .u64 (lm 0 0 : Nat), .int .u64 (lm 0 1 : Nat), .int .u64 (lm 0 2 : Nat), .int .u64 (lm 0 3 : Nat), .int .u64 (lm 0 0 : Nat), .int .u64 (lm 0 1 : Nat), .int .u64 (lm 0 2 : Nat), .int .u64 (lm 0 3 : Nat), .bool true] : Array Value) = _
  simp only [lm_zero']

set_option maxRecDepth 100000 in
set_option linter.constructorNameAsVariable false in
theorem dec_any (l : List UInt8) : DecR l := by
  by_cases hl : l.length = 33
  · by_cases h0 : sb l 0 = 0
    · by_cases hz : l = List.replicate 33 0
      · refine .ok .inf trivial (fun w => ?_) (fun w => ?_) hz.symm
        · rw [pv_inf8]; exact dec_zero hl h0 hz w
        · rw [pv_inf8]; exact ref_dec_zero hl h0 ((all_zero hl).1 hz) w
      · have hne : ∃ i, i < 33 ∧ sb l i ≠ 0 := Classical.byContradiction fun hn => hz ((all_zero hl).2 fun i hi => Classical.byContradiction fun h => hn ⟨i, hi, h⟩)
        exact .bad 4 (by decide) (fun w => dec_zbad hl h0 hz w) (fun w => ref_dec_zbad hl h0 hne w)
    · by_cases h2 : sb l 0 = 2
      · by_cases hn : nb (l.drop 1) < PP
        · obtain ⟨x, hx⟩ : ∃ x : Fin PP, nb (l.drop 1) = x.val := ⟨⟨_, hn⟩, rfl⟩
          by_cases hr : rootOK x
          · obtain ⟨y, hy, hv, hp⟩ := (tag_on hr).1
            have e : pv (ofP (.aff x y)) = #[.int .u64 (lm x.val 0 : Nat), .int .u64 (lm x.val 1 : Nat), .int .u64 (lm x.val 2 : Nat), .int .u64 (lm x.val 3 : Nat), .int .u64 (lm (yE x) 0 : Nat), .int .u64 (lm (yE x) 1 : Nat), .int .u64 (lm (yE x) 2 : Nat), .int .u64 (lm (yE x) 3 : Nat), .bool false] := by rw [← hv]; rfl
            refine .ok (.aff x y) hy (fun w => ?_) (fun w => ?_) (enc_tag hl hx (by omega))
            · rw [e]; exact dec_ok2 hl h2 hx hr w
            · rw [e]; exact ref_dec_ok2 hl h2 hx hr w
          · exact .bad 30 (by decide) (fun w => dec_root2 hl h2 hx hr w) (fun w => ref_dec_root2 hl h2 hx hr w)
        · exact .bad 20 (by decide) (fun w => dec_range2 hl h2 hn w) (fun w => ref_dec_range2 hl h2 hn w)
      · by_cases h3 : sb l 0 = 3
        · by_cases hn : nb (l.drop 1) < PP
          · obtain ⟨x, hx⟩ : ∃ x : Fin PP, nb (l.drop 1) = x.val := ⟨⟨_, hn⟩, rfl⟩
            by_cases hr : rootOK x
            · obtain ⟨y, hy, hv, hp⟩ := (tag_on hr).2
              have e : pv (ofP (.aff x y)) = #[.int .u64 (lm x.val 0 : Nat), .int .u64 (lm x.val 1 : Nat), .int .u64 (lm x.val 2 : Nat), .int .u64 (lm x.val 3 : Nat), .int .u64 (lm ((0 + PP - yE x) % PP) 0 : Nat), .int .u64 (lm ((0 + PP - yE x) % PP) 1 : Nat), .int .u64 (lm ((0 + PP - yE x) % PP) 2 : Nat), .int .u64 (lm ((0 + PP - yE x) % PP) 3 : Nat), .bool false] := by rw [← hv]; rfl
              refine .ok (.aff x y) hy (fun w => ?_) (fun w => ?_) (enc_tag hl hx (by omega))
              · rw [e]; exact dec_ok3 hl h3 hx hr w
              · rw [e]; exact ref_dec_ok3 hl h3 hx hr w
            · exact .bad 30 (by decide) (fun w => dec_root3 hl h3 hx hr w) (fun w => ref_dec_root3 hl h3 hx hr w)
          · exact .bad 20 (by decide) (fun w => dec_range3 hl h3 hn w) (fun w => ref_dec_range3 hl h3 hn w)
        · exact .bad 4 (by decide) (fun w => dec_tag hl h0 h2 h3 w) (fun w => ref_dec_tag hl h0 h2 h3 w)
  · exact .bad 4 (by decide) (fun w => dec_len hl w) (fun w => ref_dec_len hl w)
theorem enc_ok {P : Pc} (hP : P.on 7) (w : World) : Calls Try.prog 27 #[.agg (pv (ofP P))] w fun e w' => e = .returned (.tuple #[.string ⟨(encL P).toArray⟩, .int .i64 0]) ∧ Chg [] w w' := by
  cases P with
  | inf => exact enc_inf w
  | aff x y => exact enc_aff hP w
theorem ref_enc_ok {P : Pc} (hP : P.on 7) (w : World) : Calls Try.prog 28 #[.agg (pv (ofP P))] w fun e w' => e = .returned (.tuple #[.string ⟨(encL P).toArray⟩, .int .i64 0]) ∧ Chg [] w w' := by
  cases P with
  | inf => exact ref_enc_inf w
  | aff x y => exact ref_enc_aff hP w
set_option maxRecDepth 100000 in
theorem dec_enc {P : Pc} (hP : P.on 7) (w : World) : Calls Try.prog 29 #[.string ⟨(encL P).toArray⟩] w fun e w' => e = .returned (.tuple #[.agg (pv (ofP P)), .int .i64 0]) ∧ Chg [] w w' := by
  cases P with
  | inf =>
    rw [pv_inf8]
    exact dec_zero (enc_len .inf) rfl rfl w
  | aff x y =>
    have hy : y * y = cub x := hP
    have ht := tag_back hy
    have hn := enc_nb x y
    have hs := enc_sb x y
    have hl := enc_len (.aff x y)
    have hp : y.val % 2 = 0 ∨ y.val % 2 = 1 := by omega
    rcases hp with hp | hp
    · have e : pv (ofP (.aff x y)) = #[.int .u64 (lm x.val 0 : Nat), .int .u64 (lm x.val 1 : Nat), .int .u64 (lm x.val 2 : Nat), .int .u64 (lm x.val 3 : Nat), .int .u64 (lm (yE x) 0 : Nat), .int .u64 (lm (yE x) 1 : Nat), .int .u64 (lm (yE x) 2 : Nat), .int .u64 (lm (yE x) 3 : Nat), .bool false] := by rw [ht.1 hp]; rfl
      rw [e]
      exact dec_ok2 hl (by rw [hs, hp]) hn (root_sq hy) w
    · have e : pv (ofP (.aff x y)) = #[.int .u64 (lm x.val 0 : Nat), .int .u64 (lm x.val 1 : Nat), .int .u64 (lm x.val 2 : Nat), .int .u64 (lm x.val 3 : Nat), .int .u64 (lm ((0 + PP - yE x) % PP) 0 : Nat), .int .u64 (lm ((0 + PP - yE x) % PP) 1 : Nat), .int .u64 (lm ((0 + PP - yE x) % PP) 2 : Nat), .int .u64 (lm ((0 + PP - yE x) % PP) 3 : Nat), .bool false] := by rw [ht.2 hp]; rfl
      rw [e]
      exact dec_ok3 hl (by rw [hs, hp]) hn (root_sq hy) w
theorem zero8 : (#[.int .u64 0, .int .u64 0, .int .u64 0, .int .u64 0, .int .u64 0, .int .u64 0, .int .u64 0, .int .u64 0, .bool false] : Array Value) = #[.int .u64 (lm 0 0 : Nat), .int .u64 (lm 0 1 : Nat), .int .u64 (lm 0 2 : Nat), .int .u64 (lm 0 3 : Nat), .int .u64 (lm 0 0 : Nat), .int .u64 (lm 0 1 : Nat), .int .u64 (lm 0 2 : Nat), .int .u64 (lm 0 3 : Nat), .bool false] := by simp only [lm_zero']
theorem zero_lt8 : (0 : Nat) < B6 ^ 4 ∧ (0 : Nat) < B6 ^ 4 := by decide

set_option maxRecDepth 100000 in
set_option linter.constructorNameAsVariable false in
theorem bytes_any (p : Pd) (hpx : p.x < B6 ^ 4) (hpy : p.y < B6 ^ 4) (l : List UInt8) (w : World) :
    Calls Try.prog 10 #[.agg (pv p), .string ⟨l.toArray⟩] w fun e w' => e = .returned (.bool true) ∧ Chg [] w w' := by
  cases dec_any l with
  | ok Q hQ h1 h2 he =>
    have h3 := fun w => enc_ok hQ w
    rw [he] at h3
    refine PtCase.elim' (pt_cases p hpx hpy) (fun P hP hPe => ?_) (fun hb => ?_)
    · subst hPe
      exact bytes_ps (Lib.hid fun w => enc_ok hP w) (Lib.hid fun w => ref_enc_ok hP w) (Lib.hid h1) (Lib.hid h2) (Lib.hid fun w => dec_enc hP w) (Lib.hid h3) (ofP_lt Q) (ofP_lt P) w
    · exact bytes_qs (Lib.hid fun w => enc_bad hb w) (Lib.hid fun w => ref_enc_bad hb w) (Lib.hid h1) (Lib.hid h2) (Lib.hid h3) (ofP_lt Q) ⟨hpx, hpy⟩ w
  | bad H hH h1 h2 =>
    rw [zero8] at h1 h2
    refine PtCase.elim' (pt_cases p hpx hpy) (fun P hP hPe => ?_) (fun hb => ?_)
    · subst hPe
      exact bytes_pt hH (Lib.hid fun w => enc_ok hP w) (Lib.hid fun w => ref_enc_ok hP w) (Lib.hid h1) (Lib.hid h2) (Lib.hid fun w => dec_enc hP w) zero_lt8 (ofP_lt P) w
    · exact bytes_qt hH (Lib.hid fun w => enc_bad hb w) (Lib.hid fun w => ref_enc_bad hb w) (Lib.hid h1) (Lib.hid h2) zero_lt8 ⟨hpx, hpy⟩ w

section
variable {H : Type} (enc : TypeId × Value → H) (W : World)
set_option maxRecDepth 100000 in
theorem curveBytes_law {v0 v1 : Value} {d0 d1 : DataW H} {p0 p1 : List MemPlace} {base : Nat}
    (h0 : DataW.Trod enc Try.prog W 0 (fun _ => true) true 26 v0 d0 p0) (k0 : Value.okWide Try.prog W .any base 26 v0)
    (h1 : DataW.Trod enc Try.prog W 0 (fun _ => true) true 9 v1 d1 p1) (k1 : Value.okWide Try.prog W .any base 9 v1)
    (_hsz : (DataW.weightsEach Try.prog [26, 9] [d0, d1]).all (· ≤ reachBytes) = true) :
    Calls Try.prog 10 #[v0, v1] W fun e w' => e = .returned (.bool true) ∧ Below W.heap.size W w' := by
  obtain ⟨p, hpx, hpy, rfl⟩ := open_point k0 h0
  obtain ⟨s, rfl⟩ := okWide_string Try.underlying9 k1
  have hs : s = ⟨s.data.toList.toArray⟩ := by rw [Array.toArray_toList]
  rw [hs]
  exact (bytes_any p hpx hpy s.data.toList W).mono fun e w' h => ⟨h.1, h.2.below⟩
end

end Go.Proofs.Ytplldbmjdnikeaa
