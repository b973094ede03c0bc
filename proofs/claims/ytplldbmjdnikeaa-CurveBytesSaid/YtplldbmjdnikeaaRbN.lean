/- The generator, and the law's help that asks of it. Printed by refn.py. -/
import Derived.Test.YtplldbmjdnikeaaRbL
import Derived.Test.YtplldbmjdnikeaaAn
namespace Go.Proofs.Ytplldbmjdnikeaa
set_option linter.unusedVariables false
set_option linter.unusedSimpArgs false
open Go.RowKit

def gx : Fin PP := ⟨55066263022277343669578718895168534326250603453777594175500187360389116729240, by decide +kernel⟩
def gy : Fin PP := ⟨32670510020758816978083085130507043184471273380659243275938904335757337482424, by decide +kernel⟩
/-- The generator. -/
def Gp : Pc := .aff gx gy
theorem on_G : Gp.on 7 := by
  show gy * gy = gx * gx * gx + 7
  decide +kernel
theorem pv_G : pv (ofP Gp) = #[.int .u64 6481385041966929816, .int .u64 188021827762530521, .int .u64 6170039885052185351, .int .u64 8772561819708210092, .int .u64 11261198710074299576, .int .u64 18237243440184513561, .int .u64 6747795201694173352, .int .u64 5204712524664259685, .bool false] := by
  show (#[.int .u64 (lm gx.val 0 : Nat), .int .u64 (lm gx.val 1 : Nat), .int .u64 (lm gx.val 2 : Nat), .int .u64 (lm gx.val 3 : Nat), .int .u64 (lm gy.val 0 : Nat), .int .u64 (lm gy.val 1 : Nat), .int .u64 (lm gy.val 2 : Nat), .int .u64 (lm gy.val 3 : Nat), .bool false] : Array Value) = _
  rw [show lm gx.val 0 = 6481385041966929816 by decide +kernel, show lm gx.val 1 = 188021827762530521 by decide +kernel, show lm gx.val 2 = 6170039885052185351 by decide +kernel, show lm gx.val 3 = 8772561819708210092 by decide +kernel, show lm gy.val 0 = 11261198710074299576 by decide +kernel, show lm gy.val 1 = 18237243440184513561 by decide +kernel, show lm gy.val 2 = 6747795201694173352 by decide +kernel, show lm gy.val 3 = 5204712524664259685 by decide +kernel]
  rfl

set_option maxRecDepth 100000 in
set_option maxHeartbeats 4000000 in
theorem curve_G (w : World) : Calls Try.prog 47 #[] w fun e w' => e = .returned (.agg (pv (ofP Gp))) ∧ Chg [] w w' := by
  rw [pv_G]
  go_enter Try.func47, Try.ntmps47
  go_wp2_with fail
  refine bodyPost_ret (v := .agg #[.int .u64 6481385041966929816, .int .u64 188021827762530521, .int .u64 6170039885052185351, .int .u64 8772561819708210092, .int .u64 11261198710074299576, .int .u64 18237243440184513561, .int .u64 6747795201694173352, .int .u64 5204712524664259685, .bool false]) (by simp [results, Try.results47, go_sem]) rfl ⟨rfl, ?_⟩
  repeat (with_reducible first | exact Chg.refl _ _ | apply Chg.alloc | refine Chg.setCell ?_ (Or.inr (by simp)) _)

set_option maxRecDepth 100000 in
set_option maxHeartbeats 4000000 in
theorem ref_G (w : World) : Calls Try.prog 48 #[] w fun e w' => e = .returned (.agg (pv (ofP Gp))) ∧ Chg [] w w' := by
  rw [pv_G]
  go_enter Try.func48, Try.ntmps48
  go_wp2_with fail
  refine bodyPost_ret (v := .agg #[.int .u64 6481385041966929816, .int .u64 188021827762530521, .int .u64 6170039885052185351, .int .u64 8772561819708210092, .int .u64 11261198710074299576, .int .u64 18237243440184513561, .int .u64 6747795201694173352, .int .u64 5204712524664259685, .bool false]) (by simp [results, Try.results48, go_sem]) rfl ⟨rfl, ?_⟩
  repeat (with_reducible first | exact Chg.refl _ _ | apply Chg.alloc | refine Chg.setCell ?_ (Or.inr (by simp)) _)

/-- '==' on two numbers inside a struct. -/
theorem num_eq9 {a b : Nat} (ha : a < B6 ^ 4) (hb : b < B6 ^ 4) (w : World) :
    (Op.equalIn 9999 24 (.agg #[.int .u64 (lm a 0 : Nat), .int .u64 (lm a 1 : Nat), .int .u64 (lm a 2 : Nat), .int .u64 (lm a 3 : Nat)]) (.agg #[.int .u64 (lm b 0 : Nat), .int .u64 (lm b 1 : Nat), .int .u64 (lm b 2 : Nat), .int .u64 (lm b 3 : Nat)])).run Try.prog w = .ok (decide (a = b)) w := by
  rw [num_eql (k := 9997)]
  congr 1
  by_cases h : a = b
  · subst h; simp
  · rw [decide_eq_false h]
    have : ∃ k, k < 4 ∧ lm a k ≠ lm b k := by
      apply Classical.byContradiction
      intro hn
      exact h (lm_inj ha hb fun k hk => Classical.byContradiction fun e => hn ⟨k, hk, e⟩)
    obtain ⟨k, hk, hne⟩ := this
    have h4 : k = 0 ∨ k = 1 ∨ k = 2 ∨ k = 3 := by omega
    have hi : ∀ x y : Nat, x ≠ y → ((x : Int) == (y : Int)) = false := fun x y h => by simp; omega
    rcases h4 with rfl | rfl | rfl | rfl <;> simp only [hi _ _ hne, Bool.false_and, Bool.and_false]
theorem num_eq90 (w : World) : (Op.equalIn 9999 24 (.agg #[.int .u64 0, .int .u64 0, .int .u64 0, .int .u64 0]) (.agg #[.int .u64 0, .int .u64 0, .int .u64 0, .int .u64 0])).run Try.prog w = .ok true w := by
  have h := num_eq9 (a := 0) (b := 0) (by decide) (by decide) w
  rw [lm_zero, lm_zero, lm_zero, lm_zero, show decide (0 = 0) = true from rfl] at h
  exact h

set_option maxRecDepth 100000 in
set_option maxHeartbeats 8000000 in
theorem law_g (w : World) : Calls Try.prog 17 #[] w fun e w' => e = .returned (.bool true) ∧ Chg [] w w' := by
  have hs : addP Gp Gp.neg = .inf := add_neg inv_PP two_PP on_G
  have c1 := fun w => curve_G w
  have c2 := fun w => curve_neg on_G w
  have c3 := fun w => curve_add on_G (on_neg on_G) w
  have c4 := fun w => ref_G w
  rw [hs] at c3
  have hinf : pv (ofP .inf) = #[.int .u64 (lm 0 0 : Nat), .int .u64 (lm 0 1 : Nat), .int .u64 (lm 0 2 : Nat), .int .u64 (lm 0 3 : Nat), .int .u64 (lm 0 0 : Nat), .int .u64 (lm 0 1 : Nat), .int .u64 (lm 0 2 : Nat), .int .u64 (lm 0 3 : Nat), .bool true] := rfl
  rw [hinf] at c3
  obtain ⟨px, hpx⟩ : ∃ t, (ofP Gp).x = t := ⟨_, rfl⟩
  obtain ⟨py, hpy⟩ : ∃ t, (ofP Gp).y = t := ⟨_, rfl⟩
  obtain ⟨pi, hpi⟩ : ∃ t, (ofP Gp).inf = t := ⟨_, rfl⟩
  have ep : pv (ofP Gp) = #[.int .u64 (lm px 0 : Nat), .int .u64 (lm px 1 : Nat), .int .u64 (lm px 2 : Nat), .int .u64 (lm px 3 : Nat), .int .u64 (lm py 0 : Nat), .int .u64 (lm py 1 : Nat), .int .u64 (lm py 2 : Nat), .int .u64 (lm py 3 : Nat), .bool pi] := by unfold pv; rw [hpx, hpy, hpi]
  obtain ⟨qx, hqx⟩ : ∃ t, (ofP Gp.neg).x = t := ⟨_, rfl⟩
  obtain ⟨qy, hqy⟩ : ∃ t, (ofP Gp.neg).y = t := ⟨_, rfl⟩
  obtain ⟨qi, hqi⟩ : ∃ t, (ofP Gp.neg).inf = t := ⟨_, rfl⟩
  have eq : pv (ofP Gp.neg) = #[.int .u64 (lm qx 0 : Nat), .int .u64 (lm qx 1 : Nat), .int .u64 (lm qx 2 : Nat), .int .u64 (lm qx 3 : Nat), .int .u64 (lm qy 0 : Nat), .int .u64 (lm qy 1 : Nat), .int .u64 (lm qy 2 : Nat), .int .u64 (lm qy 3 : Nat), .bool qi] := by unfold pv; rw [hqx, hqy, hqi]
  have hpx4 : px < B6 ^ 4 := by rw [← hpx]; exact val_lt4 gx
  have hpy4 : py < B6 ^ 4 := by rw [← hpy]; exact val_lt4 gy
  have e1 := fun w => num_eq9 hpx4 hpx4 w
  have e2 := fun w => num_eq9 hpy4 hpy4 w
  have e3 : ∀ w : World, (Op.equalIn 9999 24 (.agg #[.int .u64 0, .int .u64 0, .int .u64 0, .int .u64 0]) (.agg #[.int .u64 0, .int .u64 0, .int .u64 0, .int .u64 0])).run Try.prog w = .ok true w := fun w => num_eq90 w
  simp only [decide_true] at e1 e2
  rw [ep] at c1 c2 c3 c4
  rw [eq] at c2 c3
  have hl := lm_zero
  have C1 := Lib.hid c1; have C2 := Lib.hid c2; have C3 := Lib.hid c3; have C4 := Lib.hid c4
  clear c1 c2 c3 c4 hs hinf hpx hpy hpi ep hqx hqy hqi eq hpx4 hpy4 hl
  go_enter Try.func17, Try.ntmps17
  go_wp2_with fail
  refine (C1.out _).mono ?_
  rintro e w1 ⟨rfl, hC1⟩
  have HC := Lib.hid hC1
  clear hC1
  go_wp2_with fail
  refine (C2.out _).mono ?_
  rintro e w2 ⟨rfl, hC1⟩
  replace HC := Lib.hid (HC.out.trans hC1)
  clear hC1
  obtain ⟨W1, hW1⟩ : ∃ W1, w2.alloc (.cells #[.int .u64 (lm qx 0 : Nat), .int .u64 (lm qx 1 : Nat), .int .u64 (lm qx 2 : Nat), .int .u64 (lm qx 3 : Nat), .int .u64 (lm qy 0 : Nat), .int .u64 (lm qy 1 : Nat), .int .u64 (lm qy 2 : Nat), .int .u64 (lm qy 3 : Nat), .bool qi] 26) = W1 := ⟨_, rfl⟩
  have hA : Chg [] w2 W1 := by rw [← hW1]; exact (Chg.refl _ _).alloc _
  have hN : U9 W1 w2.heap.size qx qy qi := by rw [← hW1]; exact has_alloc_new _ _
  obtain ⟨bn, hb⟩ : ∃ b, w2.heap.size = b := ⟨_, rfl⟩
  rw [hb] at hN
  replace HC := Lib.hid (HC.out.trans hA)
  have HN := Lib.hid hN
  have HW1 := Lib.hid hW1; have Hb := Lib.hid hb
  obtain ⟨q0, q1, q2, q3, q4, q5, q6, q7, q8⟩ := hN.all
  clear hW1 hb hA hN
  go_upto_region 2 with fail
  try rw [HW1.out]
  try rw [Hb.out]
  clear HW1 Hb
  refine abs_region (B := Chg [] W1) (S := Chg [] W1) (by kernel_rfl) ((Chg.refl _ _).drew) ?_
  have hG := good_chg [] W1
  refine Abs.take_np (i := 0) (d := some 11) (v := _) rfl rfl (by kernel_rfl) (by kernel_rfl) (by kernel_rfl) hG ⟨by rfl, fun w9 hw9 => Or.inr ⟨_, _, ?_, C1.out w9⟩⟩ ?_
  · go_simp
    try with_reducible rfl
  simp only [Act.put, stA, stB, stC]
  refine Abs.take_np (i := 1) (d := some 12) (v := ?_) rfl rfl (by kernel_rfl) (by kernel_rfl) (by kernel_rfl) hG ⟨by rfl, fun w9 hw9 => Or.inl ?_⟩ ?_
  rotate_left
  · replace q0 := hw9.cell q0 nmN; replace q1 := hw9.cell q1 nmN; replace q2 := hw9.cell q2 nmN; replace q3 := hw9.cell q3 nmN; replace q4 := hw9.cell q4 nmN; replace q5 := hw9.cell q5 nmN; replace q6 := hw9.cell q6 nmN; replace q7 := hw9.cell q7 nmN; replace q8 := hw9.cell q8 nmN
    go_simp
    try with_reducible rfl
  simp only [Act.put, stA, stB, stC]
  refine Abs.take_np (i := 2) (d := some 13) (v := _) rfl rfl (by kernel_rfl) (by kernel_rfl) (by kernel_rfl) hG ⟨by rfl, fun w9 hw9 => Or.inr ⟨_, _, ?_, C3.out w9⟩⟩ ?_
  · go_simp
    try with_reducible rfl
  simp only [Act.put, stA, stB, stC]
  refine Abs.take_np (i := 3) (d := some 10) (v := ?_) rfl rfl (by kernel_rfl) (by kernel_rfl) (by kernel_rfl) hG ⟨by rfl, fun w9 hw9 => Or.inl ?_⟩ ?_
  rotate_left
  · go_simp
    try with_reducible rfl
  simp only [Act.put, stA, stB, stC]
  refine Abs.take_np (i := 4) (d := some 14) (v := ?_) rfl rfl (by kernel_rfl) (by kernel_rfl) (by kernel_rfl) hG ⟨by rfl, fun w9 hw9 => Or.inl ?_⟩ ?_
  rotate_left
  · go_simp
    try with_reducible rfl
  simp only [Act.put, stA, stB, stC]
  refine Abs.take_np (i := 5) (d := some 15) (v := ?_) rfl rfl (by kernel_rfl) (by kernel_rfl) (by kernel_rfl) hG ⟨by rfl, fun w9 hw9 => Or.inl ?_⟩ ?_
  rotate_left
  · go_simp
    try with_reducible rfl
  simp only [Act.put, stA, stB, stC]
  refine Abs.allocN (i := 6) (t := 26) (X := []) (W := W1) #[.int .u64 0, .int .u64 0, .int .u64 0, .int .u64 0, .int .u64 0, .int .u64 0, .int .u64 0, .int .u64 0, .bool false] rfl rfl (by kernel_rfl) (by rfl) hG (fun _ h => h) (fun w9 => ?_) (fun bs hbs hG => ?_)
  · go_simp
    try with_reducible rfl
  simp only [Act.put, stA, stB, stC]
  refine Abs.store4 (i := 7) (b := bs) (ds := #[.int .u64 (lm 0 0 : Nat), .int .u64 (lm 0 1 : Nat), .int .u64 (lm 0 2 : Nat), .int .u64 (lm 0 3 : Nat), .int .u64 (lm 0 0 : Nat), .int .u64 (lm 0 1 : Nat), .int .u64 (lm 0 2 : Nat), .int .u64 (lm 0 3 : Nat), .bool true]) rfl (by kernel_rfl) (by rfl) (fun w9 => (((((((((w9.setCell ⟨bs, 0, none⟩ (.int .u64 (lm 0 0 : Nat))).setCell ⟨bs, 1, none⟩ (.int .u64 (lm 0 1 : Nat))).setCell ⟨bs, 2, none⟩ (.int .u64 (lm 0 2 : Nat))).setCell ⟨bs, 3, none⟩ (.int .u64 (lm 0 3 : Nat))).setCell ⟨bs, 4, none⟩ (.int .u64 (lm 0 0 : Nat))).setCell ⟨bs, 5, none⟩ (.int .u64 (lm 0 1 : Nat))).setCell ⟨bs, 6, none⟩ (.int .u64 (lm 0 2 : Nat))).setCell ⟨bs, 7, none⟩ (.int .u64 (lm 0 3 : Nat))).setCell ⟨bs, 8, none⟩ (.bool true))) (fun w9 h9 => ⟨?_, ?_, ?_⟩) (fun _ _ h k => Chg.keeps (Or.inr hbs) h k) (good_chg [] W1) (fun hG => ?_)
  · have n0 := cell_of_has h9 0; have n1 := cell_of_has h9 1; have n2 := cell_of_has h9 2; have n3 := cell_of_has h9 3; have n4 := cell_of_has h9 4; have n5 := cell_of_has h9 5; have n6 := cell_of_has h9 6; have n7 := cell_of_has h9 7; have n8 := cell_of_has h9 8
    simp only [glA, glB, glC] at n0 n1 n2 n3 n4 n5 n6 n7 n8
    have nz0 := frozen_of_has h9 0; have nz1 := frozen_of_has h9 1; have nz2 := frozen_of_has h9 2; have nz3 := frozen_of_has h9 3; have nz4 := frozen_of_has h9 4; have nz5 := frozen_of_has h9 5; have nz6 := frozen_of_has h9 6; have nz7 := frozen_of_has h9 7; have nz8 := frozen_of_has h9 8
    clear h9
    go_simp
    try with_reducible rfl
  · exact U9.put (U9.zero h9) 0 0 true
  · exact Chg.put9 (Chg.refl _ _) (Or.inl (by simp)) 0 0 true
  refine Abs.at_put (d := none) rfl ?_
  simp only [Act.put, stA, stB, stC]
  refine Abs.take_np (i := 8) (d := some 4) (v := ?_) rfl rfl (by kernel_rfl) (by kernel_rfl) (by kernel_rfl) hG ⟨by rfl, fun w9 hw9 => Or.inl ?_⟩ ?_
  rotate_left
  · go_simp
    try with_reducible rfl
  simp only [Act.put, stA, stB, stC]
  refine Abs.done (by kernel_rfl) (fun wx hx => NoPanic.normal ?_) _
  clear q0 q1 q2 q3 q4 q5 q6 q7 q8
  obtain ⟨hA, hN⟩ := hx
  have hN : U9 wx bs 0 0 true := hN
  replace HC := Lib.hid (HC.out.trans hA)
  have HS := Lib.hid hN
  clear hA hN hbs
  go_wp2_with fail
  refine (C1.out _).mono ?_
  rintro e w3 ⟨rfl, hC1⟩
  replace HC := Lib.hid (HC.out.trans hC1)
  replace HS := Lib.hid (HS.out.chg hC1 nmN)
  clear hC1
  go_wp2_with fail
  refine (C4.out _).mono ?_
  rintro e w4 ⟨rfl, hC1⟩
  replace HC := Lib.hid (HC.out.trans hC1)
  replace HS := Lib.hid (HS.out.chg hC1 nmN)
  clear hC1
  obtain ⟨s0, s1, s2, s3, s4, s5, s6, s7, s8⟩ := (HS.out).all
  rw [lm_zero] at s0 s1 s2 s3 s4 s5 s6 s7
  go_wp2_with fail
  go_ret
  exact ⟨rfl, HC.out⟩

end Go.Proofs.Ytplldbmjdnikeaa
