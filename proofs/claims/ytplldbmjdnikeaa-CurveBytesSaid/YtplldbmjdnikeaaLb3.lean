import Derived.Test.YtplldbmjdnikeaaLb2
import Derived.Test.YtplldbmjdnikeaaBase

/- The walk of limb.Mont.below. -/
namespace Go.Proofs.Ytplldbmjdnikeaa
set_option linter.unusedVariables false
set_option linter.unusedSimpArgs false
open Go.RowKit

theorem cell_put4 {w : World} {c : Nat} {d : Nat → Nat} {p : Addr} {v : Value} (h : w.cell? p = some v) (hne : ¬ p.block = c) :
    ((((w.setCell ⟨c, 0, none⟩ (.int .u64 (d 0 : Nat))).setCell ⟨c, 1, none⟩ (.int .u64 (d 1 : Nat))).setCell ⟨c, 2, none⟩ (.int .u64 (d 2 : Nat))).setCell ⟨c, 3, none⟩ (.int .u64 (d 3 : Nat))).cell? p = some v :=
  (Chg.put4 (S := [c]) (Chg.refl _ w) (Or.inl (by simp)) d).cell h (by simpa using hne)

set_option maxRecDepth 100000 in
set_option maxHeartbeats 4000000 in
theorem mont_below (a b m v x : Nat) (hm : m < B6 ^ 4) (hx : x < B6 ^ 4) (w : World) (hM : Mt w a m v) (hX : U4 w b 24 (lm x)) :
    Calls Try.prog 92 #[.pointer (some ⟨a, 0, none⟩), .pointer (some ⟨b, 0, none⟩)] w fun e w' =>
    e = .returned (.bool (decide (x < m))) ∧ Chg [] w w' := by
  have hsub := fun w => limb_sub0 x m _ rfl (by omega) w
  have hl : ∃ l : Nat, bor x m 4 = l ∧ decide (x < m) = ((l : Int) == 1) := by
    refine ⟨_, rfl, ?_⟩
    rw [bor4 hx hm]
    by_cases h : x < m <;> simp [h]
  obtain ⟨l, hl1, hl2⟩ := hl
  rw [hl2]
  rw [hl1] at hsub
  generalize x + B6 ^ 4 - m = d at *
  unfold num limbs at hsub
  have HSub := Lib.hid hsub; have HM := Lib.hid hM; have HX := Lib.hid hX
  obtain ⟨m0, m1, m2, m3⟩ := four4 fun _ => (hM).cell
  obtain ⟨x0, x1, x2, x3⟩ := four4 fun _ => (hX).cell
  clear hsub hM hX hm hx hl1 hl2
  go_enter Try.func92, Try.ntmps92
  go_upto_region 3 with fail
  go_cut [5, 6] from 7 to 19 (fun cv lv wx => ∃ cb, cv = .pointer (some ⟨cb, 0, none⟩) ∧ lv = .int .u64 (l : Nat) ∧ U4 wx cb 24 (lm (d)) ∧ Chg [] w wx)
  case first =>
    have hne0 : ¬ b = w.heap.size := Nat.ne_of_lt (World.block_lt_of_cell? _ _ x0)
    have hne1 : ¬ a = w.heap.size := Nat.ne_of_lt (World.block_lt_of_cell? _ _ m0)
    go_region_held3 (fun w9 => w9.cell? ⟨b, 0, none⟩ = some (.int .u64 (lm x 0 : Nat)) ∧ w9.cell? ⟨b, 1, none⟩ = some (.int .u64 (lm x 1 : Nat)) ∧ w9.cell? ⟨b, 2, none⟩ = some (.int .u64 (lm x 2 : Nat)) ∧ w9.cell? ⟨b, 3, none⟩ = some (.int .u64 (lm x 3 : Nat)) ∧ w9.cell? ⟨a, 0, none⟩ = some (.int .u64 (lm m 0 : Nat)) ∧ w9.cell? ⟨a, 1, none⟩ = some (.int .u64 (lm m 1 : Nat)) ∧ w9.cell? ⟨a, 2, none⟩ = some (.int .u64 (lm m 2 : Nat)) ∧ w9.cell? ⟨a, 3, none⟩ = some (.int .u64 (lm m 3 : Nat)))
      (first | with_reducible exact ⟨x0, x1, x2, x3, m0, m1, m2, m3⟩ | with_reducible exact ⟨cell_put4 x0 hne0, cell_put4 x1 hne0, cell_put4 x2 hne0, cell_put4 x3 hne0, cell_put4 m0 hne1, cell_put4 m1 hne1, cell_put4 m2 hne1, cell_put4 m3 hne1⟩ | go_keep)
      (first | (go_at_call 85; go_loud (refine (HSub.out _).mono ?_; rintro e w3 ⟨rfl, hC3⟩; have hC4 : Chg [] w w3 := Chg.trans (by repeat (with_reducible first | exact Chg.refl _ _ | apply Chg.drew | apply Chg.alloc)) hC3; (try (have hN3 : U4 w3 w.heap.size 24 (fun _ => 0) := hC3.has (has_alloc_at rfl) nmN; obtain ⟨n0, n1, n2, n3⟩ := four4 fun _ => (hN3).cell; have nz0 := (hN3).fz 0; have nz1 := (hN3).fz 1; have nz2 := (hN3).fz 2; have nz3 := (hN3).fz 3; have HN3 := Lib.hid hN3; clear hN3)); clear hC3; replace x0 := hC4.cell x0 nmN; replace x1 := hC4.cell x1 nmN; replace x2 := hC4.cell x2 nmN; replace x3 := hC4.cell x3 nmN; replace m0 := hC4.cell m0 nmN; replace m1 := hC4.cell m1 nmN; replace m2 := hC4.cell m2 nmN; replace m3 := hC4.cell m3 nmN; have HC4 := Lib.hid hC4; clear hC4)))
    · go_wp2_with fail
      go_meet
      case rel => exact ⟨_, rfl, rfl, has_alloc_new _ _, HC4.out.alloc _⟩
    · go_wp2_with fail
      go_meet
      case rel => exact ⟨_, rfl, rfl, HN3.out.put (lm (d)), HC4.out.put4 (Or.inr (Nat.le_refl _)) (lm (d))⟩
  case rest =>
    obtain ⟨cb, rfl, rfl, hcb, hC3⟩ := hcut
    clear x0 x1 x2 x3 m0 m1 m2 m3
    go_wp2_with fail
    go_ret
    exact ⟨rfl, hC3⟩

end Go.Proofs.Ytplldbmjdnikeaa

/- The walks of limb.Mont.Mul, To, From. -/
namespace Go.Proofs.Ytplldbmjdnikeaa
set_option linter.unusedVariables false
set_option linter.unusedSimpArgs false
open Go.RowKit

/-- What is told of a modulus. -/
structure Way (m v ri : Nat) : Prop where
  lt : m < B6 ^ 4
  inv : Minv m v
  ri : B6 ^ 4 * ri % m = 1
  one : 1 < m

set_option maxRecDepth 100000 in
set_option maxHeartbeats 4000000 in
theorem mont_mul {m v ri : Nat} (hW : Way m v ri) (a x y : Nat) (hx : x < m) (hy : y < m) (w : World) (hM : Mt w a m v) :
    Calls Try.prog 69 #[.pointer (some ⟨a, 0, none⟩), .agg (num x), .agg (num y)] w fun e w' =>
    e = .returned (.tuple #[.agg (num (x * y * ri % m)), .int .i64 0]) ∧ Chg [] w w' := by
  have hx4 : x < B6 ^ 4 := Nat.lt_trans hx hW.lt
  have hy4 : y < B6 ^ 4 := Nat.lt_trans hy hW.lt
  have hmul := fun w => limb_mul x y hx4 hy4 w
  have hxy : x * y < m * B6 ^ 4 := by
    have h1 : x * y ≤ m * y := Nat.mul_le_mul_right _ (by omega)
    have h2 : m * y < m * B6 ^ 4 := Nat.mul_lt_mul_of_pos_left hy4 (by omega)
    omega
  have hred := fun w hM => mont_reduce a m v (x * y) ri hW.lt hW.inv hxy hW.ri w hM
  have hbx := fun b w hM hX => mont_below a b m v x hW.lt hx4 w hM hX
  have hby := fun b w hM hX => mont_below a b m v y hW.lt hy4 w hM hX
  rw [show decide (x < m) = true by simpa using hx] at hbx
  rw [show decide (y < m) = true by simpa using hy] at hby
  generalize x * y * ri % m = z at *
  generalize x * y = V at *
  unfold num limbs at hmul
  have HMul := Lib.hid hmul; have HRed := Lib.hid hred; have HBx := Lib.hid hbx; have HBy := Lib.hid hby
  clear hmul hred hbx hby hx hy hx4 hy4 hxy
  obtain ⟨W0, hW0⟩ : ∃ W0, ((w.alloc (.cells #[.int .u64 (lm x 0 : Nat), .int .u64 (lm x 1 : Nat), .int .u64 (lm x 2 : Nat), .int .u64 (lm x 3 : Nat)] 24)).alloc (.cells #[.int .u64 (lm y 0 : Nat), .int .u64 (lm y 1 : Nat), .int .u64 (lm y 2 : Nat), .int .u64 (lm y 3 : Nat)] 24)).alloc (.cells #[.int .u64 0, .int .u64 0, .int .u64 0, .int .u64 0] 24) = W0 := ⟨_, rfl⟩
  have uX : U4 W0 w.heap.size 24 (lm x) := by rw [← hW0]; exact has_alloc (has_alloc (has_alloc_new _ _))
  have uY : U4 W0 (w.heap.size + 1) 24 (lm y) := by rw [← hW0]; exact has_alloc (has_alloc_at (by simp))
  have uR : U4 W0 (w.heap.size + 1 + 1) 24 (fun _ => 0) := by rw [← hW0]; exact has_alloc_at (by simp)
  have hC0 : Chg [] w W0 := by rw [← hW0]; exact (((Chg.refl _ _).alloc _).alloc _).alloc _
  have hM0 := hM.chg hC0 nmN
  have HX := Lib.hid uX; have HY := Lib.hid uY; have HR := Lib.hid uR; have HC0 := Lib.hid hC0; have HM0 := Lib.hid hM0
  unfold num limbs
  clear uX uY uR hC0 hM hM0
  go_enter Try.func69, Try.ntmps69
  go_wp2_with fail
  try rw [hW0]
  clear hW0
  obtain ⟨P, hP⟩ : ∃ P, w.heap.size = P := ⟨_, rfl⟩
  rw [hP] at HX HY HR ⊢
  refine (HBx.out P _ HM0.out HX.out).mono ?_
  rintro e w1 ⟨rfl, hC1⟩
  have HX1 := Lib.hid (HX.out.chg hC1 nmN); have HY1 := Lib.hid (HY.out.chg hC1 nmN); have HR1 := Lib.hid (HR.out.chg hC1 nmN); have HM1 := Lib.hid (HM0.out.chg hC1 nmN); have HC1 := Lib.hid (HC0.out.trans hC1)
  clear hC1 HX HY HR HM0 HC0
  go_wp2_with fail
  refine (HBy.out (P + 1) _ HM1.out HY1.out).mono ?_
  rintro e w2 ⟨rfl, hC2⟩
  have hX2 := HX1.out.chg hC2 nmN; have hY2 := HY1.out.chg hC2 nmN
  have HR2 := Lib.hid (HR1.out.chg hC2 nmN); have HM2 := Lib.hid (HM1.out.chg hC2 nmN); have HC2 := Lib.hid (HC1.out.trans hC2)
  obtain ⟨x0, x1, x2, x3⟩ := four4 fun _ => (hX2).cell
  obtain ⟨y0, y1, y2, y3⟩ := four4 fun _ => (hY2).cell
  clear hC2 HX1 HY1 HR1 HM1 HC1 hX2 hY2
  go_wp2_with fail
  refine (HMul.out _).mono ?_
  rintro e w3 ⟨rfl, hC3⟩
  have HR3 := Lib.hid (HR2.out.chg hC3 nmN); have HM3 := Lib.hid (HM2.out.chg hC3 nmN); have HC3 := Lib.hid (HC2.out.trans hC3)
  clear hC3 HR2 HM2 HC2 x0 x1 x2 x3 y0 y1 y2 y3
  go_wp2_with fail
  refine (HRed.out _ HM3.out).mono ?_
  rintro e w4 ⟨rfl, hC4⟩
  have hR4 := HR3.out.chg hC4 nmN
  have hw4 := HC3.out.trans hC4
  have hll := hR4.lt
  obtain ⟨q0, q1, q2, q3⟩ := four4 fun _ => (hR4).cell
  have qz0 := (hR4).fz 0; have qz1 := (hR4).fz 1; have qz2 := (hR4).fz 2; have qz3 := (hR4).fz 3
  have HF := Lib.hid (hR4.put (lm z)); have HCF := Lib.hid (hw4.put4 (b := P + 1 + 1) (Or.inr (by omega)) (lm z))
  clear hR4 hw4 hC4 HR3 HM3 HC3
  unfold num limbs
  go_wp2_with fail
  have hF := HF.out
  have hCF := HCF.out
  refine (id ?_ : bodyPost _ _ _ _ _ (put4 w4 (P + 1 + 1) (lm z)))
  clear HF HCF
  generalize put4 w4 (P + 1 + 1) (lm z) = W5 at *
  obtain ⟨g0, g1, g2, g3⟩ := four4 fun _ => (hF).cell
  exact bodyPost_ret (v := .tuple #[.agg (num z), .int .i64 0]) (by simp [results, Try.results69, go_sem, num, limbs, g0, g1, g2, g3]) rfl ⟨rfl, hCF⟩

set_option maxRecDepth 100000 in
set_option maxHeartbeats 4000000 in
theorem mont_to {m v ri : Nat} (hW : Way m v ri) (a x : Nat) (hx : x < m) (w : World) (hM : Mt w a m v) :
    Calls Try.prog 66 #[.pointer (some ⟨a, 0, none⟩), .agg (num x)] w fun e w' =>
    e = .returned (.tuple #[.agg (num (x * B6 ^ 4 % m)), .int .i64 0]) ∧ Chg [] w w' := by
  have hx4 : x < B6 ^ 4 := Nat.lt_trans hx hW.lt
  have hq : B6 ^ 4 * B6 ^ 4 % m < m := Nat.mod_lt _ (by have := hW.one; omega)
  have hq4 : B6 ^ 4 * B6 ^ 4 % m < B6 ^ 4 := Nat.lt_trans hq hW.lt
  have hmul := fun w => limb_mul x (B6 ^ 4 * B6 ^ 4 % m) hx4 hq4 w
  have hxy : x * (B6 ^ 4 * B6 ^ 4 % m) < m * B6 ^ 4 := by
    have h1 : x * (B6 ^ 4 * B6 ^ 4 % m) ≤ m * (B6 ^ 4 * B6 ^ 4 % m) := Nat.mul_le_mul_right _ (by omega)
    have h2 : m * (B6 ^ 4 * B6 ^ 4 % m) < m * B6 ^ 4 := Nat.mul_lt_mul_of_pos_left hq4 (by omega)
    omega
  have hred := fun w hM => mont_reduce a m v _ ri hW.lt hW.inv hxy hW.ri w hM
  have hz : x * (B6 ^ 4 * B6 ^ 4 % m) * ri % m = x * B6 ^ 4 % m := by
    have e1 : x * (B6 ^ 4 * B6 ^ 4 % m) * ri % m = x * B6 ^ 4 * (B6 ^ 4 * ri) % m := by
      rw [Nat.mul_right_comm, ← Nat.mul_mod_mod, Nat.mod_mod, Nat.mul_mod_mod]
      congr 1
      simp only [Nat.mul_comm, Nat.mul_left_comm, Nat.mul_assoc]
    rw [e1, Nat.mul_mod, hW.ri, Nat.mul_one, Nat.mod_mod]
  rw [hz] at hred
  have hbx := fun b w hM hX => mont_below a b m v x hW.lt hx4 w hM hX
  rw [show decide (x < m) = true by simpa using hx] at hbx
  clear hz hxy hq hq4
  obtain ⟨q, hqe⟩ : ∃ q, B6 ^ 4 * B6 ^ 4 % m = q := ⟨_, rfl⟩
  rw [hqe] at hmul hred
  obtain ⟨z, hze⟩ : ∃ z, x * B6 ^ 4 % m = z := ⟨_, rfl⟩
  rw [hze] at hred ⊢
  clear hze
  generalize x * q = V at *
  unfold num limbs at hmul
  have HMul := Lib.hid hmul; have HRed := Lib.hid hred; have HBx := Lib.hid hbx; have HQ := Lib.hid hqe
  clear hmul hred hbx hx hx4 hqe
  obtain ⟨W0, hW0⟩ : ∃ W0, (w.alloc (.cells #[.int .u64 (lm x 0 : Nat), .int .u64 (lm x 1 : Nat), .int .u64 (lm x 2 : Nat), .int .u64 (lm x 3 : Nat)] 24)).alloc (.cells #[.int .u64 0, .int .u64 0, .int .u64 0, .int .u64 0] 24) = W0 := ⟨_, rfl⟩
  have uX : U4 W0 w.heap.size 24 (lm x) := by rw [← hW0]; exact has_alloc (has_alloc_new _ _)
  have uR : U4 W0 (w.heap.size + 1) 24 (fun _ => 0) := by rw [← hW0]; exact has_alloc_at (by simp)
  have hC0 : Chg [] w W0 := by rw [← hW0]; exact ((Chg.refl _ _).alloc _).alloc _
  have hM0 := hM.chg hC0 nmN
  have HX := Lib.hid uX; have HR := Lib.hid uR; have HC0 := Lib.hid hC0; have HM0 := Lib.hid hM0
  have hal := hM.lt
  unfold num limbs
  clear uX uR hC0 hM hM0
  go_enter Try.func66, Try.ntmps66
  go_wp2_with fail
  try rw [hW0]
  clear hW0
  obtain ⟨P, hP⟩ : ∃ P, w.heap.size = P := ⟨_, rfl⟩
  rw [hP] at HX HR hal ⊢
  refine (HBx.out P _ HM0.out HX.out).mono ?_
  rintro e w1 ⟨rfl, hC1⟩
  have hX1 := HX.out.chg hC1 nmN; have hM1 := HM0.out.chg hC1 nmN
  have HR1 := Lib.hid (HR.out.chg hC1 nmN); have HC1 := Lib.hid (HC0.out.trans hC1)
  obtain ⟨x0, x1, x2, x3⟩ := four4 fun _ => (hX1).cell
  obtain ⟨m0, m1, m2, m3⟩ := four4 fun _ => hM1.cell2
  rw [HQ.out] at m0 m1 m2 m3
  have HM1 := Lib.hid hM1
  clear hC1 hX1 hM1 HX HR HM0 HC0
  have hne1 : ¬ P = P + 1 := by omega
  have hne2 : ¬ a = P + 1 := by omega
  go_wp2_with fail
  go_region_held3 (fun w9 => w9.cell? ⟨P, 0, none⟩ = some (.int .u64 (lm x 0 : Nat)) ∧ w9.cell? ⟨P, 1, none⟩ = some (.int .u64 (lm x 1 : Nat)) ∧ w9.cell? ⟨P, 2, none⟩ = some (.int .u64 (lm x 2 : Nat)) ∧ w9.cell? ⟨P, 3, none⟩ = some (.int .u64 (lm x 3 : Nat)) ∧ w9.cell? ⟨a, 4, none⟩ = some (.int .u64 (lm q 0 : Nat)) ∧ w9.cell? ⟨a, 5, none⟩ = some (.int .u64 (lm q 1 : Nat)) ∧ w9.cell? ⟨a, 6, none⟩ = some (.int .u64 (lm q 2 : Nat)) ∧ w9.cell? ⟨a, 7, none⟩ = some (.int .u64 (lm q 3 : Nat)))
    (first | with_reducible exact ⟨x0, x1, x2, x3, m0, m1, m2, m3⟩ | with_reducible exact ⟨cell_put4 x0 hne1, cell_put4 x1 hne1, cell_put4 x2 hne1, cell_put4 x3 hne1, cell_put4 m0 hne2, cell_put4 m1 hne2, cell_put4 m2 hne2, cell_put4 m3 hne2⟩ | go_keep)
    (first | (go_at_call 83; go_loud (refine (HMul.out _).mono ?_; rintro e w3 ⟨rfl, hC3⟩; have hC5 : Chg [] w1 w3 := Chg.trans (by repeat (with_reducible first | exact Chg.refl _ _ | apply Chg.drew)) hC3; clear hC3; replace x0 := hC5.cell x0 nmN; replace x1 := hC5.cell x1 nmN; replace x2 := hC5.cell x2 nmN; replace x3 := hC5.cell x3 nmN; replace m0 := hC5.cell m0 nmN; replace m1 := hC5.cell m1 nmN; replace m2 := hC5.cell m2 nmN; replace m3 := hC5.cell m3 nmN; have HR3 := Lib.hid (HR1.out.chg hC5 nmN); have HM3 := Lib.hid (HM1.out.chg hC5 nmN); have HC5 := Lib.hid (HC1.out.trans hC5); clear hC5)) | (go_at_call 93; go_loud (refine (HRed.out _ HM3.out).mono ?_; rintro e w4 ⟨rfl, hC5⟩; replace x0 := hC5.cell x0 nmN; replace x1 := hC5.cell x1 nmN; replace x2 := hC5.cell x2 nmN; replace x3 := hC5.cell x3 nmN; replace m0 := hC5.cell m0 nmN; replace m1 := hC5.cell m1 nmN; replace m2 := hC5.cell m2 nmN; replace m3 := hC5.cell m3 nmN; have hR4 := HR3.out.chg hC5 nmN; have hll := hR4.lt; obtain ⟨q0, q1, q2, q3⟩ := four4 fun _ => (hR4).cell; have qz0 := (hR4).fz 0; have qz1 := (hR4).fz 1; have qz2 := (hR4).fz 2; have qz3 := (hR4).fz 3; have HF := Lib.hid (hR4.put (lm z)); have HCF := Lib.hid ((HC5.out.trans hC5).put4 (b := P + 1) (Or.inr (by omega)) (lm z)); clear hR4 hC5; unfold num limbs)))
  go_wp2_with fail
  have hF := HF.out
  have hCF := HCF.out
  refine (id ?_ : bodyPost _ _ _ _ _ (put4 w4 (P + 1) (lm z)))
  clear HF HCF
  generalize put4 w4 (P + 1) (lm z) = W5 at *
  obtain ⟨g0, g1, g2, g3⟩ := four4 fun _ => (hF).cell
  exact bodyPost_ret (v := .tuple #[.agg (num z), .int .i64 0]) (by simp [results, Try.results66, go_sem, num, limbs, g0, g1, g2, g3]) rfl ⟨rfl, hCF⟩

set_option maxRecDepth 100000 in
set_option maxHeartbeats 4000000 in
theorem mont_from {m v ri : Nat} (hW : Way m v ri) (a x : Nat) (hx : x < m) (w : World) (hM : Mt w a m v) :
    Calls Try.prog 67 #[.pointer (some ⟨a, 0, none⟩), .agg (num x)] w fun e w' =>
    e = .returned (.tuple #[.agg (num (x * ri % m)), .int .i64 0]) ∧ Chg [] w w' := by
  have hx4 : x < B6 ^ 4 := Nat.lt_trans hx hW.lt
  have hxy : x < m * B6 ^ 4 := by
    have h1 : m * 1 ≤ m * B6 ^ 4 := Nat.mul_le_mul_left _ (by decide)
    omega
  have hred := fun w hM => mont_reduce a m v _ ri hW.lt hW.inv hxy hW.ri w hM
  have hbx := fun b w hM hX => mont_below a b m v x hW.lt hx4 w hM hX
  rw [show decide (x < m) = true by simpa using hx] at hbx
  have hhi : ∀ k, 4 ≤ k → lm x k = 0 := fun k hk => by
    unfold lm
    rw [Nat.div_eq_of_lt (Nat.lt_of_lt_of_le hx4 (Nat.pow_le_pow_right (by decide) hk)), Nat.zero_mod]
  have hwid : wid x = #[.int .u64 (lm x 0 : Nat), .int .u64 (lm x 1 : Nat), .int .u64 (lm x 2 : Nat), .int .u64 (lm x 3 : Nat), .int .u64 0, .int .u64 0, .int .u64 0, .int .u64 0] := by
    unfold wid limbs8
    rw [hhi 4 (by omega), hhi 5 (by omega), hhi 6 (by omega), hhi 7 (by omega)]
    rfl
  rw [hwid] at hred
  generalize x * ri % m = z at *
  have HRed := Lib.hid hred; have HBx := Lib.hid hbx
  clear hred hbx hx hx4 hxy hhi hwid
  obtain ⟨W0, hW0⟩ : ∃ W0, (w.alloc (.cells #[.int .u64 (lm x 0 : Nat), .int .u64 (lm x 1 : Nat), .int .u64 (lm x 2 : Nat), .int .u64 (lm x 3 : Nat)] 24)).alloc (.cells #[.int .u64 0, .int .u64 0, .int .u64 0, .int .u64 0] 24) = W0 := ⟨_, rfl⟩
  have uX : U4 W0 w.heap.size 24 (lm x) := by rw [← hW0]; exact has_alloc (has_alloc_new _ _)
  have uR : U4 W0 (w.heap.size + 1) 24 (fun _ => 0) := by rw [← hW0]; exact has_alloc_at (by simp)
  have hC0 : Chg [] w W0 := by rw [← hW0]; exact ((Chg.refl _ _).alloc _).alloc _
  have hM0 := hM.chg hC0 nmN
  have HX := Lib.hid uX; have HR := Lib.hid uR; have HC0 := Lib.hid hC0; have HM0 := Lib.hid hM0
  unfold num limbs
  clear uX uR hC0 hM hM0
  go_enter Try.func67, Try.ntmps67
  go_wp2_with fail
  try rw [hW0]
  clear hW0
  obtain ⟨P, hP⟩ : ∃ P, w.heap.size = P := ⟨_, rfl⟩
  rw [hP] at HX HR ⊢
  refine (HBx.out P _ HM0.out HX.out).mono ?_
  rintro e w1 ⟨rfl, hC1⟩
  have hX1 := HX.out.chg hC1 nmN; have HM1 := Lib.hid (HM0.out.chg hC1 nmN)
  have HR1 := Lib.hid (HR.out.chg hC1 nmN); have HC1 := Lib.hid (HC0.out.trans hC1)
  obtain ⟨x0, x1, x2, x3⟩ := four4 fun _ => (hX1).cell
  clear hC1 hX1 HX HR HM0 HC0
  go_wp2_with fail
  refine (HRed.out _ HM1.out).mono ?_
  rintro e w4 ⟨rfl, hC4⟩
  have hR4 := HR1.out.chg hC4 nmN
  have hw4 := HC1.out.trans hC4
  have hll := hR4.lt
  obtain ⟨q0, q1, q2, q3⟩ := four4 fun _ => (hR4).cell
  have qz0 := (hR4).fz 0; have qz1 := (hR4).fz 1; have qz2 := (hR4).fz 2; have qz3 := (hR4).fz 3
  have HF := Lib.hid (hR4.put (lm z)); have HCF := Lib.hid (hw4.put4 (b := P + 1) (Or.inr (by omega)) (lm z))
  clear hR4 hw4 hC4 HR1 HM1 HC1
  unfold num limbs
  go_wp2_with fail
  have hF := HF.out
  have hCF := HCF.out
  refine (id ?_ : bodyPost _ _ _ _ _ (put4 w4 (P + 1) (lm z)))
  clear HF HCF
  generalize put4 w4 (P + 1) (lm z) = W5 at *
  obtain ⟨g0, g1, g2, g3⟩ := four4 fun _ => (hF).cell
  exact bodyPost_ret (v := .tuple #[.agg (num z), .int .i64 0]) (by simp [results, Try.results67, go_sem, num, limbs, g0, g1, g2, g3]) rfl ⟨rfl, hCF⟩

end Go.Proofs.Ytplldbmjdnikeaa

/- '==' of arrays and structs whose cells are numbers, bools, strings: cell by cell. -/
namespace Go.Proofs.Ytplldbmjdnikeaa
set_option linter.unusedVariables false
set_option linter.unusedSimpArgs false
open Go.RowKit

section
variable {P : Program} (w : World)

def eqElems (d : Nat) (e : TypeId) (n : Nat) (xs ys : Array Value) : List Nat → Sem Bool
  | [] => pure true
  | i :: is => do
    let a ← part e xs (i * n)
    let b ← part e ys (i * n)
    let r ← Op.equalIn d e a b
    if (!r) = true then pure false else eqElems d e n xs ys is

theorem run_equalIn_array (d : Nat) (t e : TypeId) (len n : Nat) (xs ys : Array Value) (ht : P.underlying t = some (.array len e)) (hn : (P.info? e).map (·.size) = some n) :
    (Op.equalIn (d + 1) t (.agg xs) (.agg ys)).run P w = (eqElems d e n xs ys (List.range' 0 len)).run P w := by
  obtain ⟨i, hi, hs⟩ := Option.map_eq_some_iff.1 hn
  have hsz : ∀ w : World, (sizeOf e).run P w = .ok n w := fun w => by simp [sizeOf, typeInfo, hi, hs]
  simp only [Op.equalIn, Sem.run_bind, run_underlying ht, Result.andThen_ok, hsz]
  rw [Std.Legacy.Range.forIn_eq_forIn_range']
  have hsize : Std.Legacy.Range.size [0:len] = len := by simp [Std.Legacy.Range.size]
  rw [hsize]
  show _ = (eqElems d e n xs ys (List.range' 0 len)).run P w
  generalize List.range' 0 len = is
  induction is generalizing w with
  | nil => simp [eqElems]
  | cons f fs ih =>
    simp only [List.forIn_cons, eqElems, Sem.run_bind, Sem.run_ite]
    generalize (part e xs (f * n)).run P w = r1
    cases r1 with
    | ok a w1 =>
      simp only [Result.andThen_ok]
      generalize (part e ys (f * n)).run P w1 = r2
      cases r2 with
      | ok b w2 =>
        simp only [Result.andThen_ok]
        generalize (Op.equalIn d e a b).run P w2 = r3
        cases r3 with
        | ok r w3 =>
          cases r
          · simp only [Result.andThen_ok, Bool.not_false, if_true, Sem.run_pure]
          · simp only [Result.andThen_ok, Bool.not_true, Bool.false_eq_true, if_false, Sem.run_pure]
            exact ih w3
        | halt x w3 => simp [Result.andThen]
      | halt x w2 => simp [Result.andThen]
    | halt x w1 => simp [Result.andThen]
end


/-- '==' on two numbers of 256 bits. -/
theorem num_eql (a b c d a' b' c' d' : Int) (k : Nat) (w : World) :
    (Op.equalIn (k + 2) 24 (.agg #[.int .u64 a, .int .u64 b, .int .u64 c, .int .u64 d]) (.agg #[.int .u64 a', .int .u64 b', .int .u64 c', .int .u64 d'])).run Try.prog w = .ok (a == a' && (b == b' && (c == c' && d == d'))) w := by
  rw [run_equalIn_array w (k+1) _ 22 4 1 _ _ Try.underlying24 (by kernel_rfl)]
  cases h1 : a == a' <;> cases h2 : b == b' <;> cases h3 : c == c' <;> cases h4 : d == d' <;> simp [List.range', eqElems, part, go_sem, h1, h2, h3, h4]

end Go.Proofs.Ytplldbmjdnikeaa

/- The walk of limb.Mod. -/
namespace Go.Proofs.Ytplldbmjdnikeaa
set_option linter.unusedVariables false
set_option linter.unusedSimpArgs false
open Go.RowKit

theorem lm_inj {a b : Nat} (ha : a < B6 ^ 4) (hb : b < B6 ^ 4) (h : ∀ k, k < 4 → lm a k = lm b k) : a = b := by
  rw [← val_lm' ha, ← val_lm' hb]; exact val_same 4 h
theorem lm_zero (k : Nat) : lm 0 k = 0 := by unfold lm; rw [Nat.zero_div, Nat.zero_mod]
/-- '==' on two numbers. -/
theorem num_eq {a b : Nat} (ha : a < B6 ^ 4) (hb : b < B6 ^ 4) (w : World) :
    (Op.equalIn 10000 24 (.agg #[.int .u64 (lm a 0 : Nat), .int .u64 (lm a 1 : Nat), .int .u64 (lm a 2 : Nat), .int .u64 (lm a 3 : Nat)]) (.agg #[.int .u64 (lm b 0 : Nat), .int .u64 (lm b 1 : Nat), .int .u64 (lm b 2 : Nat), .int .u64 (lm b 3 : Nat)])).run Try.prog w = .ok (decide (a = b)) w := by
  rw [num_eql (k := 9998)]
  congr 1
  by_cases h : a = b
  · subst h; simp
  · rw [decide_eq_false h]
    have : ∃ k, k < 4 ∧ lm a k ≠ lm b k := by
      apply Classical.byContradiction
      intro hn
      exact h (lm_inj ha hb fun k hk => Classical.byContradiction fun e => hn ⟨k, hk, e⟩)
    obtain ⟨k, hk, hne⟩ := this
    have h4 : k = 0 ∨ k = 1 ∨ k = 2 ∨ k = 3 := by omega
    have hi : ∀ x y : Nat, x ≠ y → ((x : Int) == (y : Int)) = false := fun x y h => by simp; omega
    rcases h4 with rfl | rfl | rfl | rfl <;> simp only [hi _ _ hne, Bool.false_and, Bool.and_false]
theorem num_eq0 {a : Nat} (ha : a < B6 ^ 4) (w : World) :
    (Op.equalIn 10000 24 (.agg #[.int .u64 (lm a 0 : Nat), .int .u64 (lm a 1 : Nat), .int .u64 (lm a 2 : Nat), .int .u64 (lm a 3 : Nat)]) (.agg #[.int .u64 0, .int .u64 0, .int .u64 0, .int .u64 0])).run Try.prog w = .ok (decide (a = 0)) w := by
  have h := num_eq ha (b := 0) (by decide) w
  rw [lm_zero, lm_zero, lm_zero, lm_zero] at h
  exact h
theorem num_mod (t : Nat) : num (t % B6 ^ 4) = num t := by
  have hlm : ∀ k, k < 4 → lm (t % B6 ^ 4) k = lm t k := fun k hk => by
    obtain ⟨j, hj⟩ : ∃ j, 4 = k + 1 + j := ⟨3 - k, by omega⟩
    unfold lm
    rw [hj, Nat.pow_add, Nat.pow_succ, Nat.mul_assoc, Nat.mod_mul_right_div_self, Nat.mod_mul_right_mod]
  unfold num limbs
  rw [hlm 0 (by omega), hlm 1 (by omega), hlm 2 (by omega), hlm 3 (by omega)]

/-- One bit more. -/
theorem mod_bit {V m j : Nat} : (2 * (V / 2 ^ (j + 1) % m) + V / 2 ^ j % 2) % m = V / 2 ^ j % m := by
  have h : V / 2 ^ j = 2 * (V / 2 ^ (j + 1)) + V / 2 ^ j % 2 := by
    rw [Nat.pow_succ, ← Nat.div_div_eq_div_mul]; omega
  conv => rhs; rw [h]
  rw [Nat.add_mod, Nat.mul_mod_mod, ← Nat.add_mod]
theorem lm_even (R : Nat) {b : Nat} (hb : b ≤ 1) (k : Nat) : lm (R + R + b) (k + 1) = lm (R + R) (k + 1) := by
  unfold lm
  congr 1
  rw [Nat.pow_succ, Nat.mul_comm, ← Nat.div_div_eq_div_mul, ← Nat.div_div_eq_div_mul]
  congr 1
  simp only [B6]; omega
theorem or_bit (R : Nat) {b : Nat} (hb : b ≤ 1) : bits .or .u64 (lm (R + R) 0 : Nat) (b : Nat) = (lm (R + R + b) 0 : Nat) := by
  have h := bits_or_u64_nat (lm (R + R) 0) b (lm_lt _ _) (by omega)
  rw [h]
  have e : lm (R + R) 0 ||| b = lm (R + R) 0 + b := by
    have h2 : lm (R + R) 0 = 2 * (lm (R + R) 0 / 2) := by unfold lm; simp only [B6]; omega
    rw [h2]
    exact (Nat.two_pow_add_eq_or_of_lt (i := 1) (by omega) _).symm
  rw [e]
  congr 1
  unfold lm
  simp only [B6, Nat.pow_zero, Nat.div_one]
  omega

set_option maxRecDepth 100000 in
set_option maxHeartbeats 4000000 in
theorem limb_mod (V m : Nat) (hV : V < B6 ^ 8) (hm : m < B6 ^ 4) (h0 : m ≠ 0) (w : World) :
    Calls Try.prog 82 #[.agg (wid V), .agg (num m)] w fun e w' =>
    e = .returned (.tuple #[.agg (num (V % m)), .int .i64 0]) ∧ Chg [] w w' := by
  have hz := fun w => num_eq0 hm w
  rw [show decide (m = 0) = false by simpa using h0] at hz
  unfold num limbs wid limbs8
  have HV := Lib.hid hV; have HM := Lib.hid hm; have H0 := Lib.hid h0
  clear hV hm h0
  obtain ⟨W0, hW0⟩ : ∃ W0, (((w.alloc (.cells #[.int .u64 (lm V 0 : Nat), .int .u64 (lm V 1 : Nat), .int .u64 (lm V 2 : Nat), .int .u64 (lm V 3 : Nat), .int .u64 (lm V 4 : Nat), .int .u64 (lm V 5 : Nat), .int .u64 (lm V 6 : Nat), .int .u64 (lm V 7 : Nat)] 90)).alloc (.cells #[.int .u64 (lm m 0 : Nat), .int .u64 (lm m 1 : Nat), .int .u64 (lm m 2 : Nat), .int .u64 (lm m 3 : Nat)] 24)).alloc (.cells #[.int .u64 0, .int .u64 0, .int .u64 0, .int .u64 0] 24)).alloc (.cells #[.int .u64 0, .int .u64 0, .int .u64 0, .int .u64 0] 24) = W0 := ⟨_, rfl⟩
  have uV : U8 W0 w.heap.size 90 (lm V) := by rw [← hW0]; exact has_alloc (has_alloc (has_alloc (has_alloc_new _ _)))
  have uM : U4 W0 (w.heap.size + 1) 24 (lm m) := by rw [← hW0]; exact has_alloc (has_alloc (has_alloc_at (by simp)))
  have uO : U4 W0 (w.heap.size + 1 + 1) 24 (fun _ => 0) := by rw [← hW0]; exact has_alloc (has_alloc_at (by simp))
  have uR : U4 W0 (w.heap.size + 1 + 1 + 1) 24 (fun _ => 0) := by rw [← hW0]; exact has_alloc_at (by simp)
  have hC0 : Chg [] w W0 := by rw [← hW0]; exact ((((Chg.refl _ _).alloc _).alloc _).alloc _).alloc _
  have UV := Lib.hid uV; have UM := Lib.hid uM; have UR := Lib.hid uR; have UO := Lib.hid uO; have HC0 := Lib.hid hC0
  clear uV uM uO uR hC0
  go_enter Try.func82, Try.ntmps82
  go_upto_block 0 with fail
  try rw [hW0]
  clear hW0
  obtain ⟨P, hP⟩ : ∃ P, w.heap.size = P := ⟨_, rfl⟩
  rw [hP] at UV UM UR UO ⊢
  go_cut [7] from 16 to 26 (fun tv wx => ∃ (k : Nat) (t : Int), k ≤ 8 ∧ t = 64 * (k : Int) - 1 ∧ tv = .int .i64 t ∧ V < B6 ^ k ∧ W0 = wx)
  case first =>
    go_wp2_with fail
    go_loop [7] (fun i => ∃ (k : Nat) (t : Int), k ≤ 8 ∧ t = 64 * (k : Int) - 1 ∧ i = .int .i64 t ∧ Hid (V < B6 ^ k)) (fun i => (intOf i + 1).toNat)
    case atStart => exact ⟨8, _, by omega, rfl, rfl, HV⟩
    case round =>
      obtain ⟨k, t, hk, ht, rfl, hVk⟩ := hrel
      by_cases hk0 : k = 0
      · have ht0 : ¬ 0 ≤ t := by omega
        have HT := Lib.hid ht
        clear ht
        go_wp2_with fail
        go_meet
        case rel => exact ⟨k, t, hk, HT.out, rfl, hVk.out, rfl⟩
      · obtain ⟨j, rfl⟩ : ∃ j, k = j + 1 := ⟨k - 1, by omega⟩
        have ht0 : 0 ≤ t := by omega
        have hq : t.tdiv 64 = (j : Nat) := by rw [Int.tdiv_eq_ediv_of_nonneg (by omega)]; omega
        have hs : IntKind.i64.wrap (t - 64) = t - 64 := IntWalk.i64_in _ (by omega)
        have cV := UV.out.cell (k := j) (by omega)
        have HT := Lib.hid ht
        clear ht
        by_cases hu : lm V j = 0
        · have hV2 : V < B6 ^ j := by
            have h1 := hVk.out
            rw [← Nat.mod_eq_of_lt h1, mod_succ, hu, Nat.mul_zero, Nat.add_zero]
            exact Nat.mod_lt _ (Nat.pow_pos (by decide))
          have cV' : W0.cell? ⟨P, j, none⟩ = some (.int .u64 0) := by rw [cV, hu]; rfl
          have HV2 := Lib.hid hV2
          clear cV hu hV2
          have hj8 : j < 8 := by omega
          go_wp2_with fail
          exact ⟨⟨j, t - 64, by omega, by have := HT.out; omega, rfl, HV2⟩, by simp [intOf]; omega⟩
        · obtain ⟨u, hue⟩ : ∃ u, lm V j = u := ⟨_, rfl⟩
          rw [hue] at cV hu
          have hu1 : ((u : Int) == 0) = false := by simp; omega
          clear hue hu
          have hj8 : j < 8 := by omega
          go_wp2_with fail
          go_meet
          case rel => exact ⟨j + 1, t, hk, HT.out, rfl, hVk.out, rfl⟩
  case rest =>
    obtain ⟨k, t, hk, ht, rfl, hVk, rfl⟩ := hcut
    have HVK := Lib.hid hVk; have HT := Lib.hid ht
    clear hVk ht
    go_wp2_with fail
    go_loopw [8] (fun i wr => ∃ n : Nat, n ≤ 64 * k ∧ i = .int .i64 ((n : Int) - 1) ∧ U4 wr (P + 1 + 1 + 1) 24 (lm (V / 2 ^ n % m)) ∧ Chg [P + 1 + 1 + 1] W0 wr) (fun i _ => (intOf i + 1).toNat)
    case atStart =>
      refine ⟨64 * k, Nat.le_refl _, ?_, UR.out.same fun i _ => ?_, Chg.refl _ _⟩
      · rw [HT.out]; first | rfl | (congr 1; omega)
      · rw [Nat.div_eq_of_lt, Nat.zero_mod, lm_zero]
        have := HVK.out
        rwa [show B6 = 2 ^ 64 from rfl, ← Nat.pow_mul] at this
    case round =>
      obtain ⟨n, hn, rfl, hR, hC⟩ := hrel
      have HC := Lib.hid hC; have HR := Lib.hid hR
      clear hC hR
      by_cases hn0 : n = 0
      · subst hn0
        rw [Nat.pow_zero, Nat.div_one] at HR
        obtain ⟨z, hz2⟩ : ∃ z, V % m = z := ⟨_, rfl⟩
        rw [hz2] at HR
        have hR4 := HR.out
        have hO4 := UO.out.chg HC.out (by simp)
        have hC4 := HC0.out.trans_new HC.out (by simp; omega)
        obtain ⟨r0, r1, r2, r3⟩ := four4 fun _ => (hR4).cell
        obtain ⟨o0, o1, o2, o3⟩ := four4 fun _ => (hO4).cell
        have oz0 := (hO4).fz 0; have oz1 := (hO4).fz 1; have oz2 := (hO4).fz 2; have oz3 := (hO4).fz 3
        have hll := hO4.lt
        have HF := Lib.hid (hO4.put (lm z)); have HCF := Lib.hid (hC4.put4 (b := P + 1 + 1) (Or.inr (by omega)) (lm z)); have HZ := Lib.hid hz2
        clear hR4 hO4 hC4 HR HC hz2
        go_wp2_with fail
        have hF := HF.out
        have hCF := HCF.out
        refine (id ?_ : bodyPost _ _ _ _ _ (put4 wr (P + 1 + 1) (lm z)))
        clear HF HCF
        generalize put4 wr (P + 1 + 1) (lm z) = W5 at *
        obtain ⟨g0, g1, g2, g3⟩ := four4 fun _ => (hF).cell
        exact bodyPost_ret (v := .tuple #[.agg (num z), .int .i64 0]) (by simp [results, Try.results82, go_sem, num, limbs, g0, g1, g2, g3]) rfl ⟨by rw [← HZ.out]; rfl, hCF⟩
      · obtain ⟨j, rfl⟩ : ∃ j, n = j + 1 := ⟨n - 1, by omega⟩
        have e0 : ((j + 1 : Nat) : Int) - 1 = (j : Nat) := by omega
        rw [e0]
        clear e0 hn0
        have hmb := mod_bit (V := V) (m := m) (j := j)
        obtain ⟨R, hRe⟩ : ∃ R, V / 2 ^ (j + 1) % m = R := ⟨_, rfl⟩
        rw [hRe] at HR hmb
        have hRm : R < m := by rw [← hRe]; exact Nat.mod_lt _ (by have := H0.out; omega)
        have hR1 := HR.out
        obtain ⟨r0, r1, r2, r3⟩ := four4 fun _ => (hR1).cell
        have rz0 := (hR1).fz 0; have rz1 := (hR1).fz 1; have rz2 := (hR1).fz 2; have rz3 := (hR1).fz 3
        have hll := hR1.lt
        obtain ⟨kk, hkk⟩ : ∃ kk, j / 64 = kk := ⟨_, rfl⟩
        obtain ⟨rr, hrr⟩ : ∃ rr, j % 64 = rr := ⟨_, rfl⟩
        have hkk8 : kk < 8 := by omega
        have hrr64 : rr < 64 := by omega
        have e1 : (j : Int).tdiv 64 = kk := by rw [Int.tdiv_eq_ediv_of_nonneg (by omega)]; omega
        have e2 : (j : Int).tmod 64 = rr := by rw [Int.tmod_eq_emod_of_nonneg (by omega)]; omega
        have hbi := bit_int V j kk rr hkk hrr
        have hb1 : V / 2 ^ j % 2 ≤ 1 := by omega
        obtain ⟨b, hb⟩ : ∃ b, V / 2 ^ j % 2 = b := ⟨_, rfl⟩
        rw [hb] at hbi hmb hb1
        have hor := or_bit R hb1
        have hadd := fun w => limb_add R R w
        have hRB : R < B6 ^ 4 := Nat.lt_trans hRm HM.out
        obtain ⟨t, ht⟩ : ∃ t, R + R + b = t := ⟨_, rfl⟩
        obtain ⟨top, htop⟩ : ∃ top, t / B6 ^ 4 = top := ⟨_, rfl⟩
        have hov : (lm R 3 : Int) / 9223372036854775808 = (top : Nat) := by
          have : lm R 3 / 9223372036854775808 = top := by
            rw [← htop, ← ht]
            unfold lm
            simp only [B6] at *
            omega
          rw [← this]; rfl
        obtain ⟨l, n, bit, s1, s2, s3, s4, s5, s6⟩ := sel_red (t := t) (m := m) (r := t % B6 ^ 4) (top := top) (by rw [← htop, Nat.mul_comm, Nat.mod_add_div]) (Nat.mod_lt _ (by decide)) (by omega) HM.out (by
          rw [← htop]; simp only [B6] at *; omega)
        have hsub := fun w => limb_sub0 (t % B6 ^ 4) m _ rfl (by have := HM.out; omega) w
        rw [num_mod, s1] at hsub
        obtain ⟨d, hd⟩ : ∃ d, t % B6 ^ 4 + B6 ^ 4 - m = d := ⟨_, rfl⟩
        rw [hd] at hsub s6
        have hsel := fun w => limb_select bit s5 d (t % B6 ^ 4) w
        rw [s6, num_mod] at hsel
        rw [show 2 * R + b = t by omega] at hmb
        rw [hmb] at hsel
        rw [ht] at hor
        have hlt := fun k => lm_even R hb1 k
        rw [ht] at hlt
        unfold num limbs at hadd hsub hsel
        have HSub := Lib.hid hsub; have HSel := Lib.hid hsel; have HLt := Lib.hid hlt; have HS2 := Lib.hid s2; have HHT := Lib.hid ht
        clear hsub hsel hd htop s1 s2 s6 hRB hlt ht
        have HAdd := Lib.hid hadd; have HMB := Lib.hid hmb; have HB1 := Lib.hid hb1; have HRM := Lib.hid hRm
        clear hadd hmb hb1 hRm hRe hb hkk hrr hR1
        go_wp2_with fail
        refine (HAdd.out _).mono ?_
        rintro e w1 ⟨rfl, hC1⟩
        have hR2 := HR.out.chg hC1 nmN
        have hC2 := HC.out.trans (hC1.mono (by simp))
        clear r0 r1 r2 r3 rz0 rz1 rz2 rz3
        obtain ⟨r0, r1, r2, r3⟩ := four4 fun _ => (hR2).cell
        have rz0 := (hR2).fz 0; have rz1 := (hR2).fz 1; have rz2 := (hR2).fz 2; have rz3 := (hR2).fz 3
        obtain ⟨W2, hW2⟩ : ∃ W2, ((((w1.setCell ⟨P + 1 + 1 + 1, 0, none⟩ (.int .u64 (lm (R + R) 0 : Nat))).setCell ⟨P + 1 + 1 + 1, 1, none⟩ (.int .u64 (lm (R + R) 1 : Nat))).setCell ⟨P + 1 + 1 + 1, 2, none⟩ (.int .u64 (lm (R + R) 2 : Nat))).setCell ⟨P + 1 + 1 + 1, 3, none⟩ (.int .u64 (lm (R + R) 3 : Nat))) = W2 := ⟨_, rfl⟩
        have hR3 : U4 W2 (P + 1 + 1 + 1) 24 (lm (R + R)) := by rw [← hW2]; exact hR2.put _
        have hC3 : Chg [P + 1 + 1 + 1] W0 W2 := by rw [← hW2]; exact hC2.put4 (Or.inl (by simp)) _
        have hV3 := UV.out.chg hC3 (by simp; omega)
        have q0 := hR3.cell (k := 0) (by omega)
        have q1 := hV3.cell hkk8
        have q2 := hR3.fz 0
        have hll2 := hR3.lt
        have HR3 := Lib.hid hR3; have HC3 := Lib.hid hC3
        clear hR2 hC2 hR3 hC3 hV3 hC1 HR HC
        go_wp2_with fail
        go_region
        go_upto_region 13 with fail
        have hR4 : U4 (W2.setCell ⟨P + 1 + 1 + 1, 0, none⟩ (.int .u64 (lm t 0 : Nat))).drew (P + 1 + 1 + 1) 24 (lm t) := by
          refine U4.same (x := fun i => if i = 0 then lm t 0 else lm (R + R) i) (HR3.out.set (k := 0) (by omega) _) fun i hi => ?_
          by_cases e : i = 0
          · rw [e, if_pos rfl]
          · obtain ⟨i', rfl⟩ : ∃ i', i = i' + 1 := ⟨i - 1, by omega⟩
            rw [if_neg (by omega), ← HLt.out]
        have hC4 : Chg [P + 1 + 1 + 1] W0 (W2.setCell ⟨P + 1 + 1 + 1, 0, none⟩ (.int .u64 (lm t 0 : Nat))).drew := (HC3.out.setCell (Or.inl (by simp)) _).drew
        have hM4 := UM.out.chg hC4 (by simp)
        generalize (W2.setCell ⟨P + 1 + 1 + 1, 0, none⟩ (.int .u64 (lm t 0 : Nat))).drew = W3 at *
        clear r0 r1 r2 r3 rz0 rz1 rz2 rz3 q0 q1 q2 hW2 hll2
        obtain ⟨r0, r1, r2, r3⟩ := four4 fun _ => (hR4).cell
        obtain ⟨m0, m1, m2, m3⟩ := four4 fun _ => (hM4).cell
        have hll3 := hR4.lt
        have HR4 := Lib.hid hR4; have HC4 := Lib.hid hC4
        clear hR4 hC4 hM4 HR3 HC3
        go_wp2_with fail
        refine (HSub.out _).mono ?_
        rintro e w5 ⟨rfl, hC5⟩
        have hR5 := HR4.out.chg hC5 nmN
        have hC6 := HC4.out.trans (hC5.mono (by simp))
        clear r0 r1 r2 r3 m0 m1 m2 m3
        obtain ⟨r0, r1, r2, r3⟩ := four4 fun _ => (hR5).cell
        have hll4 := hR5.lt
        have HR5 := Lib.hid hR5; have HC5 := Lib.hid hC6
        clear hR5 hC6 hC5 HR4 HC4
        go_wp2_with fail
        refine (HSel.out _).mono ?_
        rintro e w6 ⟨rfl, hC6⟩
        have hR6 := (HR5.out.chg ((Chg.refl [] _).alloc _) nmN).chg hC6 nmN
        have hC7 := (HC5.out.alloc _).trans (hC6.mono (by simp))
        clear r0 r1 r2 r3
        obtain ⟨r0, r1, r2, r3⟩ := four4 fun _ => (hR6).cell
        have rz0 := (hR6).fz 0; have rz1 := (hR6).fz 1; have rz2 := (hR6).fz 2; have rz3 := (hR6).fz 3
        have hll5 := hR6.lt
        have HR6 := Lib.hid (hR6.put (lm (V / 2 ^ j % m))); have HC7 := Lib.hid (hC7.put4 (b := P + 1 + 1 + 1) (Or.inl (by simp)) (lm (V / 2 ^ j % m)))
        clear hR6 hC7 hC6 HR5 HC5
        go_wp2_with fail
        exact ⟨⟨j, by omega, by first | rfl | go_num, HR6.out, HC7.out⟩, by simp [intOf]⟩

end Go.Proofs.Ytplldbmjdnikeaa

/- The walk of limb.NewMont. -/
namespace Go.Proofs.Ytplldbmjdnikeaa
set_option linter.unusedVariables false
set_option linter.unusedSimpArgs false
open Go.RowKit

theorem U4.new (w : World) (t : TypeId) (d : Nat) : U4 (w.alloc (.cells #[.int .u64 (lm d 0 : Nat), .int .u64 (lm d 1 : Nat), .int .u64 (lm d 2 : Nat), .int .u64 (lm d 3 : Nat)] t)) w.heap.size t (lm d) := has_alloc_new _ _
theorem U4.put_x {w : World} {b : Nat} {t : TypeId} {x : Nat → Nat} (h : U4 w b t x) (d : Nat) :
    U4 ((((w.setCell ⟨b, 0, none⟩ (.int .u64 (lm d 0 : Nat))).setCell ⟨b, 1, none⟩ (.int .u64 (lm d 1 : Nat))).setCell ⟨b, 2, none⟩ (.int .u64 (lm d 2 : Nat))).setCell ⟨b, 3, none⟩ (.int .u64 (lm d 3 : Nat))) b t (lm d) := h.put (lm d)
theorem Chg.put_x {S : List Nat} {a w : World} (h : Chg S a w) {b : Nat} (hb : b ∈ S ∨ a.heap.size ≤ b) (d : Nat) :
    Chg S a ((((w.setCell ⟨b, 0, none⟩ (.int .u64 (lm d 0 : Nat))).setCell ⟨b, 1, none⟩ (.int .u64 (lm d 1 : Nat))).setCell ⟨b, 2, none⟩ (.int .u64 (lm d 2 : Nat))).setCell ⟨b, 3, none⟩ (.int .u64 (lm d 3 : Nat))) := h.put4 hb (lm d)

theorem U4.kept {w w3 : World} {t : TypeId} (h : Chg [] (w.alloc (.cells #[.int .u64 0, .int .u64 0, .int .u64 0, .int .u64 0] t)) w3) : U4 w3 w.heap.size t (fun _ => 0) := h.has (has_alloc_new _ _) nmN
theorem U4.kept1 {w w3 : World} {t : TypeId} (h : Chg [] (w.alloc (.cells #[.int .u64 0, .int .u64 0, .int .u64 0, .int .u64 0] t)).drew w3) : U4 w3 w.heap.size t (fun _ => 0) := h.has (has_alloc_new w _) nmN
theorem U4.kept2 {w w3 : World} {t : TypeId} {n : Nat} (h : Chg [] ((w.alloc (.cells #[.int .u64 0, .int .u64 0, .int .u64 0, .int .u64 0] t)).drewN n) w3) : U4 w3 w.heap.size t (fun _ => 0) := h.has (has_alloc_new w _) nmN

/-- One round of the inverse. -/
def nwStep (u i : Nat) : Nat := i * ((2 + 18446744073709551616 - u * i % 18446744073709551616) % 18446744073709551616) % 18446744073709551616
def nwN (u : Nat) : Nat → Nat
  | 0 => u
  | n + 1 => nwStep u (nwN u n)
theorem wrap_two (x : Nat) (hx : x ≤ 18446744073709551616) : IntKind.u64.wrap (2 - (x : Int)) = ((2 + 18446744073709551616 - x) % 18446744073709551616 : Nat) := by
  rw [IntKind.wrap_u64]; omega
theorem wrap_neg (x : Nat) (hx : x ≤ 18446744073709551616) : IntKind.u64.wrap (-(x : Int)) = ((18446744073709551616 - x) % 18446744073709551616 : Nat) := by
  rw [IntKind.wrap_u64]; omega
theorem nwN_lt (u : Nat) (hu : u < 18446744073709551616) : ∀ k, nwN u k < 18446744073709551616
  | 0 => hu
  | k + 1 => Nat.mod_lt _ (by decide)
theorem lm_one (k : Nat) : lm 1 (k + 1) = 0 := by
  unfold lm
  rw [Nat.div_eq_of_lt, Nat.zero_mod]
  exact Nat.one_lt_pow (by omega) (by decide)
theorem num_eq1 {a : Nat} (ha : a < B6 ^ 4) (w : World) :
    (Op.equalIn 10000 24 (.agg #[.int .u64 (lm a 0 : Nat), .int .u64 (lm a 1 : Nat), .int .u64 (lm a 2 : Nat), .int .u64 (lm a 3 : Nat)]) (.agg #[.int .u64 1, .int .u64 0, .int .u64 0, .int .u64 0])).run Try.prog w = .ok (decide (a = 1)) w := by
  have h := num_eq ha (b := 1) (by decide) w
  rw [lm_one, lm_one, lm_one, show lm 1 0 = 1 from rfl] at h
  exact h

theorem wid_R : wid (B6 ^ 4) = #[.int .u64 0, .int .u64 0, .int .u64 0, .int .u64 0, .int .u64 1, .int .u64 0, .int .u64 0, .int .u64 0] := by
  unfold wid limbs8
  rw [show lm (B6 ^ 4) 0 = 0 by decide +kernel, show lm (B6 ^ 4) 1 = 0 by decide +kernel, show lm (B6 ^ 4) 2 = 0 by decide +kernel, show lm (B6 ^ 4) 3 = 0 by decide +kernel, show lm (B6 ^ 4) 4 = 1 by decide +kernel, show lm (B6 ^ 4) 5 = 0 by decide +kernel, show lm (B6 ^ 4) 6 = 0 by decide +kernel, show lm (B6 ^ 4) 7 = 0 by decide +kernel]
  rfl

set_option maxRecDepth 100000 in
set_option maxHeartbeats 4000000 in
theorem limb_newMont (m : Nat) (hm : m < B6 ^ 4) (h1 : 1 < m) (hodd : lm m 0 % 2 = 1) (hinv : Minv m ((18446744073709551616 - nwN (lm m 0) 6) % 18446744073709551616)) (w : World) :
    Calls Try.prog 54 #[.agg (num m)] w fun e w' =>
    ∃ a, e = .returned (.tuple #[.pointer (some ⟨a, 0, none⟩), .int .i64 0]) ∧ w.heap.size ≤ a ∧ Chg [] w w' ∧ Mt w' a m ((18446744073709551616 - nwN (lm m 0) 6) % 18446744073709551616) := by
  have hz := fun w => num_eq1 hm w
  rw [show decide (m = 1) = false by simp; omega] at hz
  have hand : bits .and .u64 (lm m 0 : Nat) 1 = 1 := by
    have h := bits_and_u64_nat (lm m 0) 1 (lm_lt _ _) (by omega)
    rw [Nat.and_one_is_mod, hodd] at h
    exact h
  have hB8 : B6 ^ 4 < B6 ^ 8 := by decide
  have hr : B6 ^ 4 % m < m := Nat.mod_lt _ (by omega)
  have hr4 : B6 ^ 4 % m < B6 ^ 4 := Nat.lt_trans hr hm
  have hmod1 := fun w => limb_mod (B6 ^ 4) m hB8 hm (by omega) w
  have hmul := fun w => limb_mul _ _ hr4 hr4 w
  have hmod2 := fun w => limb_mod (B6 ^ 4 % m * (B6 ^ 4 % m)) m (by
    have : B6 ^ 4 % m * (B6 ^ 4 % m) < B6 ^ 4 * B6 ^ 4 := Nat.mul_lt_mul'' hr4 hr4
    have h8 : B6 ^ 4 * B6 ^ 4 = B6 ^ 8 := by decide
    omega) hm (by omega) w
  rw [show B6 ^ 4 % m * (B6 ^ 4 % m) % m = B6 ^ 4 * B6 ^ 4 % m from (Nat.mul_mod _ _ _).symm] at hmod2
  rw [show wid (B6 ^ 4) = #[.int .u64 0, .int .u64 0, .int .u64 0, .int .u64 0, .int .u64 1, .int .u64 0, .int .u64 0, .int .u64 0] from wid_R] at hmod1
  obtain ⟨r, hre⟩ : ∃ r, B6 ^ 4 % m = r := ⟨_, rfl⟩
  rw [hre] at hmod1 hmul hmod2
  obtain ⟨q, hqe⟩ : ∃ q, B6 ^ 4 * B6 ^ 4 % m = q := ⟨_, rfl⟩
  rw [hqe] at hmod2
  have HQ := Lib.hid hqe; have HInv := Lib.hid hinv
  obtain ⟨v, hv⟩ : ∃ v, (18446744073709551616 - nwN (lm m 0) 6) % 18446744073709551616 = v := ⟨_, rfl⟩
  rw [hv]
  have HV := Lib.hid hv
  clear hv
  clear hB8 hr hr4 hre hqe hinv hodd
  unfold num limbs at hmod1 hmul hmod2
  unfold wid limbs8 at hmul hmod2
  have HMod1 := Lib.hid hmod1; have HMul := Lib.hid hmul; have HMod2 := Lib.hid hmod2
  clear hmod1 hmul hmod2
  obtain ⟨W0, hW0⟩ : ∃ W0, w.alloc (.cells #[.int .u64 (lm m 0 : Nat), .int .u64 (lm m 1 : Nat), .int .u64 (lm m 2 : Nat), .int .u64 (lm m 3 : Nat)] 24) = W0 := ⟨_, rfl⟩
  have uM : U4 W0 w.heap.size 24 (lm m) := by rw [← hW0]; exact has_alloc_new _ _
  have hC0 : Chg [] w W0 := by rw [← hW0]; exact (Chg.refl _ _).alloc _
  have HM := Lib.hid uM; have HC0 := Lib.hid hC0
  obtain ⟨m0, m1, m2, m3⟩ := four4 fun _ => (uM).cell
  clear uM hC0
  unfold num limbs
  go_enter Try.func54, Try.ntmps54
  go_wp2_with fail
  try rw [hW0]
  clear hW0 hz hand
  obtain ⟨P, hP⟩ : ∃ P, w.heap.size = P := ⟨_, rfl⟩
  rw [hP] at HM m0 m1 m2 m3 ⊢
  go_loop [4, 20] (fun v i => ∃ k : Nat, k ≤ 6 ∧ i = .int .i64 k ∧ v = .int .u64 (nwN (lm m 0) k : Nat)) (fun _ i => 6 - (intOf i).toNat)
  case atStart => exact ⟨0, by omega, rfl, rfl⟩
  case round =>
    obtain ⟨k, hk, rfl, rfl⟩ := hrel
    by_cases hlt : k < 6
    · have e1 := wrap_mul (lm m 0) (nwN (lm m 0) k)
      have e2 := wrap_two (lm m 0 * nwN (lm m 0) k % 18446744073709551616) (Nat.le_of_lt (Nat.mod_lt _ (by decide)))
      have e3 := wrap_mul (nwN (lm m 0) k) ((2 + 18446744073709551616 - lm m 0 * nwN (lm m 0) k % 18446744073709551616) % 18446744073709551616)
      have e4 : nwN (lm m 0) k * ((2 + 18446744073709551616 - lm m 0 * nwN (lm m 0) k % 18446744073709551616) % 18446744073709551616) % 18446744073709551616 = nwN (lm m 0) (k + 1) := rfl
      rw [e4] at e3
      generalize (2 + 18446744073709551616 - lm m 0 * nwN (lm m 0) k % 18446744073709551616) % 18446744073709551616 = y at *
      generalize lm m 0 * nwN (lm m 0) k % 18446744073709551616 = x at *
      clear e4
      generalize nwN (lm m 0) k = z at *
      go_wp2_with fail
      exact ⟨⟨k + 1, by omega, by go_num, rfl⟩, by simp [intOf]; omega⟩
    · obtain rfl : k = 6 := by omega
      have hwn := wrap_neg (nwN (lm m 0) 6) (Nat.le_of_lt (nwN_lt _ (lm_lt m 0) 6))
      rw [HV.out] at hwn
      clear HV HInv
      generalize nwN (lm m 0) 6 = y at *
      go_wp2_with fail
      refine (HMod1.out _).mono ?_
      rintro e w1 ⟨rfl, hC1⟩
      have hM1 := HM.out.chg hC1 nmN
      have hC1' := HC0.out.trans hC1
      clear m0 m1 m2 m3
      obtain ⟨W1, hW1⟩ : ∃ W1, w1.alloc (.cells #[.int .u64 (lm r 0 : Nat), .int .u64 (lm r 1 : Nat), .int .u64 (lm r 2 : Nat), .int .u64 (lm r 3 : Nat)] 24) = W1 := ⟨_, rfl⟩
      have hR2 : U4 W1 w1.heap.size 24 (lm r) := by rw [← hW1]; exact has_alloc_new _ _
      have hC2 : Chg [] w W1 := by rw [← hW1]; exact hC1'.alloc _
      have hM2 : U4 W1 P 24 (lm m) := by rw [← hW1]; exact has_alloc hM1
      obtain ⟨B, hB⟩ : ∃ B, w1.heap.size = B := ⟨_, rfl⟩
      rw [hB] at hR2
      obtain ⟨r0, r1, r2, r3⟩ := four4 fun _ => (hR2).cell
      obtain ⟨m0, m1, m2, m3⟩ := four4 fun _ => (hM2).cell
      have c1 := hM1.cell (k := 0) (by omega)
      have HR2 := Lib.hid hR2; have HM2 := Lib.hid hM2; have HC2 := Lib.hid hC2
      clear c1 hR2 hM2 hC2 hC1' hC1 hM1
      go_upto_region 9 with fail
      try rw [hW1]
      try rw [hB]
      clear hW1 hB
      go_upto_region 9 with fail
      go_cut [7, 8] from 36 to 43 (fun cv lv wx => ∃ cb, cv = .pointer (some ⟨cb, 0, none⟩) ∧ lv = .int .i64 0 ∧ U4 wx cb 24 (lm (q)) ∧ Chg [] W1 wx)
      case first =>
        have hlt0 : B < W1.heap.size := World.block_lt_of_cell? _ _ r0
        have hlt1 : P < W1.heap.size := World.block_lt_of_cell? _ _ m0
        have HC4 := Lib.hid (Chg.refl [] W1)
        have H9r0 := Lib.hid r0; have H9r1 := Lib.hid r1; have H9r2 := Lib.hid r2; have H9r3 := Lib.hid r3; have H9m0 := Lib.hid m0; have H9m1 := Lib.hid m1; have H9m2 := Lib.hid m2; have H9m3 := Lib.hid m3
        go_region_held3 (fun w9 => w9.cell? ⟨B, 0, none⟩ = some (.int .u64 (lm r 0 : Nat)) ∧ w9.cell? ⟨B, 1, none⟩ = some (.int .u64 (lm r 1 : Nat)) ∧ w9.cell? ⟨B, 2, none⟩ = some (.int .u64 (lm r 2 : Nat)) ∧ w9.cell? ⟨B, 3, none⟩ = some (.int .u64 (lm r 3 : Nat)) ∧ w9.cell? ⟨P, 0, none⟩ = some (.int .u64 (lm m 0 : Nat)) ∧ w9.cell? ⟨P, 1, none⟩ = some (.int .u64 (lm m 1 : Nat)) ∧ w9.cell? ⟨P, 2, none⟩ = some (.int .u64 (lm m 2 : Nat)) ∧ w9.cell? ⟨P, 3, none⟩ = some (.int .u64 (lm m 3 : Nat)))
          (first | with_reducible exact ⟨r0, r1, r2, r3, m0, m1, m2, m3⟩ | with_reducible exact ⟨cell_put4 r0 (Nat.ne_of_lt (Nat.lt_of_lt_of_le hlt0 HGE.out)), cell_put4 r1 (Nat.ne_of_lt (Nat.lt_of_lt_of_le hlt0 HGE.out)), cell_put4 r2 (Nat.ne_of_lt (Nat.lt_of_lt_of_le hlt0 HGE.out)), cell_put4 r3 (Nat.ne_of_lt (Nat.lt_of_lt_of_le hlt0 HGE.out)), cell_put4 m0 (Nat.ne_of_lt (Nat.lt_of_lt_of_le hlt1 HGE.out)), cell_put4 m1 (Nat.ne_of_lt (Nat.lt_of_lt_of_le hlt1 HGE.out)), cell_put4 m2 (Nat.ne_of_lt (Nat.lt_of_lt_of_le hlt1 HGE.out)), cell_put4 m3 (Nat.ne_of_lt (Nat.lt_of_lt_of_le hlt1 HGE.out))⟩ | go_keep)
          (first | (go_at_call 83; go_loud (refine (HMul.out _).mono ?_; rintro e w3 ⟨rfl, hC3⟩; have hC4 := Chg.trans (S := []) (a := W1) (by repeat (with_reducible first | exact HC4.out | apply Chg.drew | apply Chg.drewN | apply Chg.alloc)) hC3; (first | (with_reducible have hN3 := HN3.out.chg hC3 nmN; clear HN3; obtain ⟨n0, n1, n2, n3⟩ := four4 fun _ => (hN3).cell; have nz0 := (hN3).fz 0; have nz1 := (hN3).fz 1; have nz2 := (hN3).fz 2; have nz3 := (hN3).fz 3; have HN3 := Lib.hid hN3; clear hN3) | (with_reducible (first | have hN3 := U4.kept hC3 | have hN3 := U4.kept1 hC3 | have hN3 := U4.kept2 hC3); have HGE := Lib.hid (HC4.out.size); obtain ⟨n0, n1, n2, n3⟩ := four4 fun _ => (hN3).cell; have nz0 := (hN3).fz 0; have nz1 := (hN3).fz 1; have nz2 := (hN3).fz 2; have nz3 := (hN3).fz 3; have HN3 := Lib.hid hN3; clear hN3) | skip); have hsz := hC4.size; replace r0 := hC4.cell H9r0.out nmN; replace r1 := hC4.cell H9r1.out nmN; replace r2 := hC4.cell H9r2.out nmN; replace r3 := hC4.cell H9r3.out nmN; replace m0 := hC4.cell H9m0.out nmN; replace m1 := hC4.cell H9m1.out nmN; replace m2 := hC4.cell H9m2.out nmN; replace m3 := hC4.cell H9m3.out nmN; clear HC4 hC3; have HC4 := Lib.hid hC4; clear hC4)) | (go_at_call 82; go_loud (refine (HMod2.out _).mono ?_; rintro e w3 ⟨rfl, hC3⟩; have hC4 := Chg.trans (S := []) (a := W1) (by repeat (with_reducible first | exact HC4.out | apply Chg.drew | apply Chg.drewN | apply Chg.alloc)) hC3; (first | (with_reducible have hN3 := HN3.out.chg hC3 nmN; clear HN3; obtain ⟨n0, n1, n2, n3⟩ := four4 fun _ => (hN3).cell; have nz0 := (hN3).fz 0; have nz1 := (hN3).fz 1; have nz2 := (hN3).fz 2; have nz3 := (hN3).fz 3; have HN3 := Lib.hid hN3; clear hN3) | (with_reducible (first | have hN3 := U4.kept hC3 | have hN3 := U4.kept1 hC3 | have hN3 := U4.kept2 hC3); have HGE := Lib.hid (HC4.out.size); obtain ⟨n0, n1, n2, n3⟩ := four4 fun _ => (hN3).cell; have nz0 := (hN3).fz 0; have nz1 := (hN3).fz 1; have nz2 := (hN3).fz 2; have nz3 := (hN3).fz 3; have HN3 := Lib.hid hN3; clear hN3) | skip); have hsz := hC4.size; replace r0 := hC4.cell H9r0.out nmN; replace r1 := hC4.cell H9r1.out nmN; replace r2 := hC4.cell H9r2.out nmN; replace r3 := hC4.cell H9r3.out nmN; replace m0 := hC4.cell H9m0.out nmN; replace m1 := hC4.cell H9m1.out nmN; replace m2 := hC4.cell H9m2.out nmN; replace m3 := hC4.cell H9m3.out nmN; clear HC4 hC3; have HC4 := Lib.hid hC4; clear hC4)))
        all_goals (go_wp2_with fail; go_meet)
        all_goals (first | with_reducible exact ⟨_, rfl, rfl, U4.new _ _ _, HC4.out.alloc _⟩ | with_reducible exact ⟨_, rfl, rfl, U4.put_x HN3.out _, HC4.out.put_x (Or.inr HGE.out) _⟩)
      case rest =>
        obtain ⟨cb, rfl, rfl, hcb, hC3⟩ := hcut
        clear r0 r1 r2 r3
        replace m0 := hC3.cell m0 nmN
        replace m1 := hC3.cell m1 nmN
        replace m2 := hC3.cell m2 nmN
        replace m3 := hC3.cell m3 nmN
        obtain ⟨q0, q1, q2, q3⟩ := four4 fun _ => (hcb).cell
        have HW := Lib.hid (HC2.out.trans hC3)
        clear hC3 hcb
        go_wp2_with fail
        refine bodyPost_ret (v := .tuple #[.pointer (some ⟨wc.heap.size, 0, none⟩), .int .i64 0]) (by simp [results, Try.results54, go_sem]) rfl ?_
        refine ⟨_, rfl, HW.out.size, HW.out.alloc _, ?_⟩
        rw [← HQ.out]
        exact has_alloc_new _ _

end Go.Proofs.Ytplldbmjdnikeaa
