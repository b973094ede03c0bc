import Derived.Test.YtplldbmjdnikeaaCu1

/- The walk of curve.newPlane; the base field over Fin PP. -/
namespace Go.Proofs.Ytplldbmjdnikeaa
set_option linter.unusedVariables false
set_option linter.unusedSimpArgs false
open Go.RowKit

theorem num_one : num 1 = #[.int .u64 1, .int .u64 0, .int .u64 0, .int .u64 0] := by
  unfold num limbs
  rw [lm_one, lm_one, lm_one, show lm 1 0 = 1 from rfl]
  rfl

set_option maxRecDepth 100000 in
set_option maxHeartbeats 4000000 in
theorem new_plane (w : World) : Calls Try.prog 31 #[] w fun e w' =>
    ∃ l a, e = .returned (.pointer (some ⟨l, 0, none⟩)) ∧ Chg [] w w' ∧ Pl w' l a PP vP := by
  have hnew := fun w => limb_newMont PP (by decide +kernel) (by decide +kernel) (by decide +kernel) way_P.inv w
  have hmod := fun f w hF => field_modulus (z := PP) (f := f) w hF
  have hto := fun a w hM => mont_to way_P a 1 way_P.one w hM
  rw [num_one, Nat.one_mul] at hto
  obtain ⟨q, hq⟩ : ∃ q, B6 ^ 4 % PP = q := ⟨_, rfl⟩
  rw [hq] at hto
  have hpl : ∀ (w : World) (a : Nat), Mt w a PP vP → Pl (w.alloc (.cells #[.pointer (some ⟨a, 0, none⟩), .int .u64 (lm PP 0 : Nat), .int .u64 (lm PP 1 : Nat), .int .u64 (lm PP 2 : Nat), .int .u64 (lm PP 3 : Nat), .int .u64 (lm q 0 : Nat), .int .u64 (lm q 1 : Nat), .int .u64 (lm q 2 : Nat), .int .u64 (lm q 3 : Nat)] 105)) w.heap.size a PP vP := fun w a h => by
    refine ⟨?_, h.chg ((Chg.refl [] w).alloc _) nmN⟩
    unfold plCells
    rw [hq]
    exact has_alloc_new w _
  unfold num limbs at hnew hmod hto
  have HNew := Lib.hid hnew; have HMod := Lib.hid hmod; have HTo := Lib.hid hto; have HPl := Lib.hid hpl
  have HBase := Lib.hid field_base
  clear hnew hmod hto hpl hq
  go_enter Try.func31, Try.ntmps31
  go_wp2_with fail
  refine (HBase.out _).mono ?_
  rintro e w1 ⟨f, a0, rfl, hC1, hF1⟩
  have HC1 := Lib.hid hC1; have HF1 := Lib.hid hF1
  clear hC1 hF1
  go_wp2_with fail
  refine (HMod.out f _ HF1.out.m4).mono ?_
  rintro e w2 ⟨rfl, hC2⟩
  have hC2 := HC1.out.trans hC2
  obtain ⟨W2, hW2⟩ : ∃ W2, w2.alloc (.cells #[.int .u64 (lm PP 0 : Nat), .int .u64 (lm PP 1 : Nat), .int .u64 (lm PP 2 : Nat), .int .u64 (lm PP 3 : Nat)] 24) = W2 := ⟨_, rfl⟩
  have hM2 : U4 W2 w2.heap.size 24 (lm PP) := by rw [← hW2]; exact has_alloc_new _ _
  have hA : Chg [] w W2 := by rw [← hW2]; exact hC2.alloc _
  obtain ⟨b, hb⟩ : ∃ b, w2.heap.size = b := ⟨_, rfl⟩
  rw [hb] at hM2
  obtain ⟨m0, m1, m2, m3⟩ := four4 fun _ => (hM2).cell
  have HM2 := Lib.hid hM2; have HC2 := Lib.hid hA
  clear HF1 HC1 hC2 hM2 hA
  go_upto_region 2 with fail
  try rw [hW2]
  try rw [hb]
  clear hW2 hb
  go_wp2_with fail
  refine (HNew.out _).mono ?_
  rintro e w3 ⟨a, rfl, ha, hC3, hM3⟩
  have HM3 := Lib.hid (HM2.out.chg hC3 nmN); have HC3 := Lib.hid (HC2.out.trans hC3); have HT3 := Lib.hid hM3
  clear m0 m1 m2 m3 HM2 HC2 ha hC3 hM3
  go_wp2_with fail
  refine (HTo.out a _ HT3.out).mono ?_
  rintro e w4 ⟨rfl, hC4⟩
  have hM4 := HM3.out.chg hC4 nmN; have hT4 := HT3.out.chg hC4 nmN
  have hC5 := HC3.out.trans hC4
  obtain ⟨W4, hW4⟩ : ∃ W4, w4.alloc (.cells #[.int .u64 (lm q 0 : Nat), .int .u64 (lm q 1 : Nat), .int .u64 (lm q 2 : Nat), .int .u64 (lm q 3 : Nat)] 24) = W4 := ⟨_, rfl⟩
  have hA : Chg [] w4 W4 := by rw [← hW4]; exact (Chg.refl _ _).alloc _
  have hQ : U4 W4 w4.heap.size 24 (lm q) := by rw [← hW4]; exact has_alloc_new _ _
  obtain ⟨c, hc⟩ : ∃ c, w4.heap.size = c := ⟨_, rfl⟩
  rw [hc] at hQ
  have hM5 := hM4.chg hA nmN
  obtain ⟨m0, m1, m2, m3⟩ := four4 fun _ => (hM5).cell
  obtain ⟨q0, q1, q2, q3⟩ := four4 fun _ => (hQ).cell
  have HT5 := Lib.hid (hT4.chg hA nmN); have HC5 := Lib.hid (hC5.trans hA)
  clear HM3 HC3 HT3 hC4 hM4 hT4 hC5 hA hM5 hQ
  go_upto_region 4 with fail
  try rw [hW4]
  try rw [hc]
  clear hW4 hc
  go_wp2_with fail
  go_ret
  exact ⟨_, a, rfl, HC5.out.alloc _, HPl.out _ _ HT5.out⟩

end Go.Proofs.Ytplldbmjdnikeaa

/- The base field's numbers as Fin PP; the walks of curve.plane.out, in. Printed by outp.py. -/
namespace Go.Proofs.Ytplldbmjdnikeaa
set_option linter.unusedVariables false
set_option linter.unusedSimpArgs false
open Go.RowKit

/-- The inverse. -/
def finv (x : Fin PP) : Fin PP := ⟨x.val ^ (PP - 2) % PP, Nat.mod_lt _ (by decide)⟩
theorem finv_mul {x : Fin PP} (hx : x ≠ 0) : finv x * x = 1 := by
  have hv : x.val ≠ 0 := fun e => hx (Fin.ext (by rw [e]; rfl))
  have hd : ¬ PP ∣ x.val := fun hd => by
    have := Nat.le_of_dvd (by omega) hd
    have := x.isLt
    omega
  have hf := fermat prm_PP hd
  apply Fin.ext
  rw [Fin.val_mul]
  unfold finv
  show x.val ^ (PP - 2) % PP * x.val % PP = (1 : Fin PP).val
  have e : (PP - 2).succ = PP - 1 := by decide +kernel
  rw [Nat.mod_mul_mod, ← Nat.pow_succ, e, hf]
  decide +kernel

theorem val_lt4 (x : Fin PP) : x.val < B6 ^ 4 := Nat.lt_trans x.isLt way_P.lt
section
variable {f a : Nat}
theorem fp_add {x y : Fin PP} {u v t : Nat} (hu : x.val = u) (hv : y.val = v) (ht : (x + y).val = t) (w : World) (hF : Fd w f a PP vP rootP) :
    Calls Try.prog 24 #[.pointer (some ⟨f, 0, none⟩), .agg #[.int .u64 (lm u 0 : Nat), .int .u64 (lm u 1 : Nat), .int .u64 (lm u 2 : Nat), .int .u64 (lm u 3 : Nat)], .agg #[.int .u64 (lm v 0 : Nat), .int .u64 (lm v 1 : Nat), .int .u64 (lm v 2 : Nat), .int .u64 (lm v 3 : Nat)]] w fun e w' => e = .returned (.tuple #[.agg #[.int .u64 (lm t 0 : Nat), .int .u64 (lm t 1 : Nat), .int .u64 (lm t 2 : Nat), .int .u64 (lm t 3 : Nat)], .int .i64 0]) ∧ Chg [] w w' := by
  subst hu; subst hv; subst ht
  rw [Fin.val_add]
  exact field_add way_P x.isLt y.isLt w hF
theorem fp_mul {x y : Fin PP} {u v t : Nat} (hu : x.val = u) (hv : y.val = v) (ht : (x * y).val = t) (w : World) (hF : Fd w f a PP vP rootP) :
    Calls Try.prog 25 #[.pointer (some ⟨f, 0, none⟩), .agg #[.int .u64 (lm u 0 : Nat), .int .u64 (lm u 1 : Nat), .int .u64 (lm u 2 : Nat), .int .u64 (lm u 3 : Nat)], .agg #[.int .u64 (lm v 0 : Nat), .int .u64 (lm v 1 : Nat), .int .u64 (lm v 2 : Nat), .int .u64 (lm v 3 : Nat)]] w fun e w' => e = .returned (.tuple #[.agg #[.int .u64 (lm t 0 : Nat), .int .u64 (lm t 1 : Nat), .int .u64 (lm t 2 : Nat), .int .u64 (lm t 3 : Nat)], .int .i64 0]) ∧ Chg [] w w' := by
  subst hu; subst hv; subst ht
  rw [Fin.val_mul]
  exact field_mul way_P x.isLt y.isLt w hF
theorem fp_neg {x : Fin PP} {u t : Nat} (hu : x.val = u) (ht : (-x).val = t) (w : World) (hF : Fd w f a PP vP rootP) :
    Calls Try.prog 26 #[.pointer (some ⟨f, 0, none⟩), .agg #[.int .u64 (lm u 0 : Nat), .int .u64 (lm u 1 : Nat), .int .u64 (lm u 2 : Nat), .int .u64 (lm u 3 : Nat)]] w fun e w' => e = .returned (.tuple #[.agg #[.int .u64 (lm t 0 : Nat), .int .u64 (lm t 1 : Nat), .int .u64 (lm t 2 : Nat), .int .u64 (lm t 3 : Nat)], .int .i64 0]) ∧ Chg [] w w' := by
  subst hu; subst ht
  have h := field_neg way_P x.isLt w hF
  have e : (-x).val = (0 + PP - x.val) % PP := by
    rw [Fin.val_neg', Nat.zero_add]
  rw [e]
  exact h
theorem fp_inv {x : Fin PP} {u t : Nat} (hu : x.val = u) (h0 : x ≠ 0) (ht : (finv x).val = t) (w : World) (hF : Fd w f a PP vP rootP) :
    Calls Try.prog 68 #[.pointer (some ⟨f, 0, none⟩), .agg #[.int .u64 (lm u 0 : Nat), .int .u64 (lm u 1 : Nat), .int .u64 (lm u 2 : Nat), .int .u64 (lm u 3 : Nat)]] w fun e w' => e = .returned (.tuple #[.agg #[.int .u64 (lm t 0 : Nat), .int .u64 (lm t 1 : Nat), .int .u64 (lm t 2 : Nat), .int .u64 (lm t 3 : Nat)], .int .i64 0]) ∧ Chg [] w w' := by
  subst hu; subst ht
  exact field_inv way_P (by decide +kernel) x.isLt (Nat.pos_of_ne_zero fun e => h0 (Fin.ext (by rw [e]; rfl))) w hF
theorem mt_from {x : Fin PP} {u t : Nat} (hu : mu x = u) (ht : x.val = t) (w : World) (hM : Mt w a PP vP) :
    Calls Try.prog 67 #[.pointer (some ⟨a, 0, none⟩), .agg #[.int .u64 (lm u 0 : Nat), .int .u64 (lm u 1 : Nat), .int .u64 (lm u 2 : Nat), .int .u64 (lm u 3 : Nat)]] w fun e w' => e = .returned (.tuple #[.agg #[.int .u64 (lm t 0 : Nat), .int .u64 (lm t 1 : Nat), .int .u64 (lm t 2 : Nat), .int .u64 (lm t 3 : Nat)], .int .i64 0]) ∧ Chg [] w w' := by
  subst hu; subst ht
  have h := mont_from way_P a (mu x) (mu_lt x) w hM
  rw [mu_back] at h
  exact h
theorem mt_to {x : Fin PP} {u t : Nat} (hu : x.val = u) (ht : mu x = t) (w : World) (hM : Mt w a PP vP) :
    Calls Try.prog 66 #[.pointer (some ⟨a, 0, none⟩), .agg #[.int .u64 (lm u 0 : Nat), .int .u64 (lm u 1 : Nat), .int .u64 (lm u 2 : Nat), .int .u64 (lm u 3 : Nat)]] w fun e w' => e = .returned (.tuple #[.agg #[.int .u64 (lm t 0 : Nat), .int .u64 (lm t 1 : Nat), .int .u64 (lm t 2 : Nat), .int .u64 (lm t 3 : Nat)], .int .i64 0]) ∧ Chg [] w w' := by
  subst hu; subst ht
  exact mont_to way_P a x.val x.isLt w hM
theorem mt_mulv {x y : Fin PP} {u v t : Nat} (hu : mu x = u) (hv : y.val = v) (ht : (x * y).val = t) (w : World) (hM : Mt w a PP vP) :
    Calls Try.prog 69 #[.pointer (some ⟨a, 0, none⟩), .agg #[.int .u64 (lm u 0 : Nat), .int .u64 (lm u 1 : Nat), .int .u64 (lm u 2 : Nat), .int .u64 (lm u 3 : Nat)], .agg #[.int .u64 (lm v 0 : Nat), .int .u64 (lm v 1 : Nat), .int .u64 (lm v 2 : Nat), .int .u64 (lm v 3 : Nat)]] w fun e w' => e = .returned (.tuple #[.agg #[.int .u64 (lm t 0 : Nat), .int .u64 (lm t 1 : Nat), .int .u64 (lm t 2 : Nat), .int .u64 (lm t 3 : Nat)], .int .i64 0]) ∧ Chg [] w w' := by
  subst hu; subst hv; subst ht
  have h := mont_mul way_P a (mu x) y.val (mu_lt x) y.isLt w hM
  have e : mu x * y.val * riP % PP = (x * y).val := by
    rw [Fin.val_mul, Nat.mul_right_comm, ← Nat.mod_mul_mod, mu_back]
  rw [e] at h
  exact h
end

/-- A point as it is told. -/
structure Pd where
  x : Nat
  y : Nat
  inf : Bool
/-- Its cells. -/
def pv (p : Pd) : Array Value := #[.int .u64 (lm p.x 0 : Nat), .int .u64 (lm p.x 1 : Nat), .int .u64 (lm p.x 2 : Nat), .int .u64 (lm p.x 3 : Nat), .int .u64 (lm p.y 0 : Nat), .int .u64 (lm p.y 1 : Nat), .int .u64 (lm p.y 2 : Nat), .int .u64 (lm p.y 3 : Nat), .bool p.inf]
/-- Block b holds a point. -/
def U9 (w : World) (b : Nat) (x y : Nat) (i : Bool) : Prop := w.heap[b]? = some (.cells #[.int .u64 (lm x 0 : Nat), .int .u64 (lm x 1 : Nat), .int .u64 (lm x 2 : Nat), .int .u64 (lm x 3 : Nat), .int .u64 (lm y 0 : Nat), .int .u64 (lm y 1 : Nat), .int .u64 (lm y 2 : Nat), .int .u64 (lm y 3 : Nat), .bool i] 26 (0, 0))
theorem U9.cx {w : World} {b x y : Nat} {i : Bool} (h : U9 w b x y i) {k : Nat} (hk : k < 4) : w.cell? ⟨b, k, none⟩ = some (.int .u64 (lm x k : Nat)) := by
  rw [cell_of_has h]
  have : k = 0 ∨ k = 1 ∨ k = 2 ∨ k = 3 := by omega
  rcases this with rfl | rfl | rfl | rfl <;> rfl
theorem U9.cy {w : World} {b x y : Nat} {i : Bool} (h : U9 w b x y i) {k : Nat} (hk : k < 4) : w.cell? ⟨b, 4 + k, none⟩ = some (.int .u64 (lm y k : Nat)) := by
  rw [cell_of_has h]
  have : k = 0 ∨ k = 1 ∨ k = 2 ∨ k = 3 := by omega
  rcases this with rfl | rfl | rfl | rfl <;> rfl
theorem U9.ci {w : World} {b x y : Nat} {i : Bool} (h : U9 w b x y i) : w.cell? ⟨b, 8, none⟩ = some (.bool i) := by
  rw [cell_of_has h]; rfl
theorem U9.all {w : World} {b x y : Nat} {i : Bool} (h : U9 w b x y i) : w.cell? ⟨b, 0, none⟩ = some (.int .u64 (lm x 0 : Nat)) ∧ w.cell? ⟨b, 1, none⟩ = some (.int .u64 (lm x 1 : Nat)) ∧ w.cell? ⟨b, 2, none⟩ = some (.int .u64 (lm x 2 : Nat)) ∧ w.cell? ⟨b, 3, none⟩ = some (.int .u64 (lm x 3 : Nat)) ∧ w.cell? ⟨b, 4, none⟩ = some (.int .u64 (lm y 0 : Nat)) ∧ w.cell? ⟨b, 5, none⟩ = some (.int .u64 (lm y 1 : Nat)) ∧ w.cell? ⟨b, 6, none⟩ = some (.int .u64 (lm y 2 : Nat)) ∧ w.cell? ⟨b, 7, none⟩ = some (.int .u64 (lm y 3 : Nat)) ∧ w.cell? ⟨b, 8, none⟩ = some (.bool i) :=
  ⟨h.cx (k := 0) (by omega), h.cx (k := 1) (by omega), h.cx (k := 2) (by omega), h.cx (k := 3) (by omega), h.cy (k := 0) (by omega), h.cy (k := 1) (by omega), h.cy (k := 2) (by omega), h.cy (k := 3) (by omega), h.ci⟩
theorem U9.fz {w : World} {b x y : Nat} {i : Bool} (h : U9 w b x y i) (k : Nat) : w.frozen? ⟨b, k, none⟩ = false := frozen_of_has h k
theorem U9.chg {S : List Nat} {w w' : World} {b x y : Nat} {i : Bool} (h : U9 w b x y i) (hc : Chg S w w') (hs : b ∉ S) : U9 w' b x y i := hc.has h hs
theorem U9.lt {w : World} {b x y : Nat} {i : Bool} (h : U9 w b x y i) : b < w.heap.size := lt_of_has h
/-- Nine stores. -/
def put9 (w : World) (b : Nat) (x y : Nat) (i : Bool) : World :=
  (((((((((w.setCell ⟨b, 0, none⟩ (.int .u64 (lm x 0 : Nat))).setCell ⟨b, 1, none⟩ (.int .u64 (lm x 1 : Nat))).setCell ⟨b, 2, none⟩ (.int .u64 (lm x 2 : Nat))).setCell ⟨b, 3, none⟩ (.int .u64 (lm x 3 : Nat))).setCell ⟨b, 4, none⟩ (.int .u64 (lm y 0 : Nat))).setCell ⟨b, 5, none⟩ (.int .u64 (lm y 1 : Nat))).setCell ⟨b, 6, none⟩ (.int .u64 (lm y 2 : Nat))).setCell ⟨b, 7, none⟩ (.int .u64 (lm y 3 : Nat))).setCell ⟨b, 8, none⟩ (.bool i))
set_option maxHeartbeats 1000000 in
theorem U9.put {w : World} {b x y : Nat} {i : Bool} (h : U9 w b x y i) (x' y' : Nat) (i' : Bool) : U9 (put9 w b x' y' i') b x' y' i' := by
  unfold put9
  have h0 := has_set h 0 (.int .u64 (lm x' 0 : Nat))
  simp only [List.setIfInBounds_toArray, List.set_cons_zero, List.set_cons_succ] at h0
  have h1 := has_set h0 1 (.int .u64 (lm x' 1 : Nat))
  simp only [List.setIfInBounds_toArray, List.set_cons_zero, List.set_cons_succ] at h1
  have h2 := has_set h1 2 (.int .u64 (lm x' 2 : Nat))
  simp only [List.setIfInBounds_toArray, List.set_cons_zero, List.set_cons_succ] at h2
  have h3 := has_set h2 3 (.int .u64 (lm x' 3 : Nat))
  simp only [List.setIfInBounds_toArray, List.set_cons_zero, List.set_cons_succ] at h3
  have h4 := has_set h3 4 (.int .u64 (lm y' 0 : Nat))
  simp only [List.setIfInBounds_toArray, List.set_cons_zero, List.set_cons_succ] at h4
  have h5 := has_set h4 5 (.int .u64 (lm y' 1 : Nat))
  simp only [List.setIfInBounds_toArray, List.set_cons_zero, List.set_cons_succ] at h5
  have h6 := has_set h5 6 (.int .u64 (lm y' 2 : Nat))
  simp only [List.setIfInBounds_toArray, List.set_cons_zero, List.set_cons_succ] at h6
  have h7 := has_set h6 7 (.int .u64 (lm y' 3 : Nat))
  simp only [List.setIfInBounds_toArray, List.set_cons_zero, List.set_cons_succ] at h7
  have h8 := has_set h7 8 (.bool i')
  simp only [List.setIfInBounds_toArray, List.set_cons_zero, List.set_cons_succ] at h8
  exact h8
theorem Chg.put9 {S : List Nat} {a w : World} (h : Chg S a w) {b : Nat} (hb : b ∈ S ∨ a.heap.size ≤ b) (x y : Nat) (i : Bool) : Chg S a (Go.Proofs.Ytplldbmjdnikeaa.put9 w b x y i) :=
  (((((((((h.setCell hb _).setCell hb _).setCell hb _).setCell hb _).setCell hb _).setCell hb _).setCell hb _).setCell hb _).setCell hb _)
theorem U9.zero {w : World} {b : Nat} (h : w.heap[b]? = some (.cells #[.int .u64 0, .int .u64 0, .int .u64 0, .int .u64 0, .int .u64 0, .int .u64 0, .int .u64 0, .int .u64 0, .bool false] 26 (0, 0))) : U9 w b 0 0 false := by
  unfold U9; rw [lm_zero, lm_zero, lm_zero, lm_zero]; exact h

/-- A point out of the plane. -/
def jout (j : J) : Pd := if j.z = 0 then ⟨0, 0, true⟩ else
  let i := finv j.z
  let i2 := i * i
  ⟨(j.x * i2).val, (j.y * (i2 * i)).val, false⟩

set_option maxRecDepth 100000 in
set_option maxHeartbeats 8000000 in
theorem plane_out_z {l a : Nat} (j : J) (hz : j.z = 0) (w : World) (hP : Pl w l a PP vP) :
    Calls Try.prog 32 #[.pointer (some ⟨l, 0, none⟩), .agg (jv j)] w fun e w' =>
    e = .returned (.agg (pv (jout j))) ∧ Chg [] w w' := by
  obtain ⟨Zr, hZr⟩ : ∃ Z, pv (jout j) = Z := ⟨_, rfl⟩
  rw [hZr]

  obtain ⟨Axv, hv_Ax⟩ : ∃ v, mu j.x = v := ⟨_, rfl⟩
  obtain ⟨Ayv, hv_Ay⟩ : ∃ v, mu j.y = v := ⟨_, rfl⟩
  obtain ⟨Azv, hv_Az⟩ : ∃ v, mu j.z = v := ⟨_, rfl⟩
  have q1 := fun w => pl_eq0 hv_Az true (by simpa using hz) w
  have HZ := Lib.hid (show Zr = #[.int .u64 (lm 0 0 : Nat), .int .u64 (lm 0 1 : Nat), .int .u64 (lm 0 2 : Nat), .int .u64 (lm 0 3 : Nat), .int .u64 (lm 0 0 : Nat), .int .u64 (lm 0 1 : Nat), .int .u64 (lm 0 2 : Nat), .int .u64 (lm 0 3 : Nat), .bool true] by rw [← hZr]; unfold jout; rw [if_pos hz]; rfl)
  clear hZr
  unfold jv
  rw [hv_Ax, hv_Ay, hv_Az]
  obtain ⟨W0, hW0⟩ : ∃ W0, (w.alloc (.cells #[.int .u64 (lm Axv 0 : Nat), .int .u64 (lm Axv 1 : Nat), .int .u64 (lm Axv 2 : Nat), .int .u64 (lm Axv 3 : Nat), .int .u64 (lm Ayv 0 : Nat), .int .u64 (lm Ayv 1 : Nat), .int .u64 (lm Ayv 2 : Nat), .int .u64 (lm Ayv 3 : Nat), .int .u64 (lm Azv 0 : Nat), .int .u64 (lm Azv 1 : Nat), .int .u64 (lm Azv 2 : Nat), .int .u64 (lm Azv 3 : Nat)] 66)).alloc (.cells #[.int .u64 0, .int .u64 0, .int .u64 0, .int .u64 0, .int .u64 0, .int .u64 0, .int .u64 0, .int .u64 0, .bool false] 26) = W0 := ⟨_, rfl⟩
  have hBA : U12 W0 (w.heap.size) 66 Axv Ayv Azv := by rw [← hW0]; exact has_alloc (has_alloc_new _ _)
  have hR : U9 W0 (w.heap.size + 1) 0 0 false := U9.zero (by rw [← hW0]; exact has_alloc_at (by simp))
  have hC : Chg [] w W0 := by rw [← hW0]; exact ((Chg.refl _ _).alloc _).alloc _
  replace hP := hP.ch hC
  have HP := Lib.hid hP; have HC := Lib.hid hC; have HR := Lib.hid hR; have HBA := Lib.hid hBA
  clear hP hC hR hBA
  have hbA := HBA.out
  obtain ⟨Az0, Az1, Az2, Az3⟩ := four4 fun _ => hbA.cz
  clear hbA
  go_enter Try.func32, Try.ntmps32
  go_upto_region 2 with fail
  try rw [hW0]
  clear hW0
  obtain ⟨P, hP⟩ : ∃ P, w.heap.size = P := ⟨_, rfl⟩
  rw [hP] at HBA HR ⊢
  obtain ⟨R, hR⟩ : ∃ R, P + 1 = R := ⟨_, rfl⟩
  rw [hR] at HR ⊢
  have hRP : P < R := by omega
  replace hP := Lib.hid hP
  replace hR := Lib.hid hR
  clear q1 Az0 Az1 Az2 Az3
  have hRz := HR.out
  obtain ⟨n0, n1, n2, n3, n4, n5, n6, n7, n8⟩ := hRz.all
  have nz0 := hRz.fz 0; have nz1 := hRz.fz 1; have nz2 := hRz.fz 2; have nz3 := hRz.fz 3; have nz4 := hRz.fz 4; have nz5 := hRz.fz 5; have nz6 := hRz.fz 6; have nz7 := hRz.fz 7; have nz8 := hRz.fz 8
  have hll := hRz.lt
  have HF9 := Lib.hid (hRz.put 0 0 true); have HCF := Lib.hid (HC.out.put9 (b := R) (Or.inr (by have := hP.out; omega)) 0 0 true)
  clear hRz
  have hl0 := lm_zero 0; have hl1 := lm_zero 1; have hl2 := lm_zero 2; have hl3 := lm_zero 3
  go_wp2_with fail
  have hF := HF9.out; have hCF := HCF.out
  simp only [put9, lm_zero] at hF hCF
  refine (id ?_ : bodyPost _ _ _ _ _ ((((((((((W0.setCell ⟨R, 0, none⟩ (.int .u64 ((0 : Nat) : Int))).setCell ⟨R, 1, none⟩ (.int .u64 ((0 : Nat) : Int))).setCell ⟨R, 2, none⟩ (.int .u64 ((0 : Nat) : Int))).setCell ⟨R, 3, none⟩ (.int .u64 ((0 : Nat) : Int))).setCell ⟨R, 4, none⟩ (.int .u64 ((0 : Nat) : Int))).setCell ⟨R, 5, none⟩ (.int .u64 ((0 : Nat) : Int))).setCell ⟨R, 6, none⟩ (.int .u64 ((0 : Nat) : Int))).setCell ⟨R, 7, none⟩ (.int .u64 ((0 : Nat) : Int))).setCell ⟨R, 8, none⟩ (.bool true))))
  clear HF9 HCF
  generalize (((((((((W0.setCell ⟨R, 0, none⟩ (.int .u64 ((0 : Nat) : Int))).setCell ⟨R, 1, none⟩ (.int .u64 ((0 : Nat) : Int))).setCell ⟨R, 2, none⟩ (.int .u64 ((0 : Nat) : Int))).setCell ⟨R, 3, none⟩ (.int .u64 ((0 : Nat) : Int))).setCell ⟨R, 4, none⟩ (.int .u64 ((0 : Nat) : Int))).setCell ⟨R, 5, none⟩ (.int .u64 ((0 : Nat) : Int))).setCell ⟨R, 6, none⟩ (.int .u64 ((0 : Nat) : Int))).setCell ⟨R, 7, none⟩ (.int .u64 ((0 : Nat) : Int))).setCell ⟨R, 8, none⟩ (.bool true)) = W5 at *
  obtain ⟨g0, g1, g2, g3, g4, g5, g6, g7, g8⟩ := hF.all
  rw [lm_zero] at g0 g1 g2 g3 g4 g5 g6 g7
  exact bodyPost_ret (v := .agg #[.int .u64 (lm 0 0 : Nat), .int .u64 (lm 0 1 : Nat), .int .u64 (lm 0 2 : Nat), .int .u64 (lm 0 3 : Nat), .int .u64 (lm 0 0 : Nat), .int .u64 (lm 0 1 : Nat), .int .u64 (lm 0 2 : Nat), .int .u64 (lm 0 3 : Nat), .bool true]) (by simp [results, Try.results32, go_sem, g0, g1, g2, g3, g4, g5, g6, g7, g8, lm_zero]) rfl ⟨by rw [HZ.out], hCF⟩

set_option maxRecDepth 100000 in
set_option maxHeartbeats 8000000 in
theorem plane_out_n {l a : Nat} (j : J) (hz : ¬ j.z = 0) (w : World) (hP : Pl w l a PP vP) :
    Calls Try.prog 32 #[.pointer (some ⟨l, 0, none⟩), .agg (jv j)] w fun e w' =>
    e = .returned (.agg (pv (jout j))) ∧ Chg [] w w' := by
  obtain ⟨Zr, hZr⟩ : ∃ Z, pv (jout j) = Z := ⟨_, rfl⟩
  rw [hZr]

  obtain ⟨Axv, hv_Ax⟩ : ∃ v, mu j.x = v := ⟨_, rfl⟩
  obtain ⟨Ayv, hv_Ay⟩ : ∃ v, mu j.y = v := ⟨_, rfl⟩
  obtain ⟨Azv, hv_Az⟩ : ∃ v, mu j.z = v := ⟨_, rfl⟩
  have q1 := fun w => pl_eq0 hv_Az false (by simpa using hz) w
  obtain ⟨zv, hzv⟩ : ∃ v, j.z.val = v := ⟨_, rfl⟩
  obtain ⟨ei, hei⟩ : ∃ e, finv j.z = e := ⟨_, rfl⟩
  obtain ⟨iv, hiv⟩ : ∃ v, ei.val = v := ⟨_, rfl⟩
  obtain ⟨e2, he2⟩ : ∃ e, ei * ei = e := ⟨_, rfl⟩
  obtain ⟨i2v, hi2v⟩ : ∃ v, e2.val = v := ⟨_, rfl⟩
  obtain ⟨e3, he3⟩ : ∃ e, e2 * ei = e := ⟨_, rfl⟩
  obtain ⟨i3v, hi3v⟩ : ∃ v, e3.val = v := ⟨_, rfl⟩
  obtain ⟨rx, hrx⟩ : ∃ v, (j.x * e2).val = v := ⟨_, rfl⟩
  obtain ⟨ry, hry⟩ : ∃ v, (j.y * e3).val = v := ⟨_, rfl⟩
  have HZ := Lib.hid (show Zr = #[.int .u64 (lm rx 0 : Nat), .int .u64 (lm rx 1 : Nat), .int .u64 (lm rx 2 : Nat), .int .u64 (lm rx 3 : Nat), .int .u64 (lm ry 0 : Nat), .int .u64 (lm ry 1 : Nat), .int .u64 (lm ry 2 : Nat), .int .u64 (lm ry 3 : Nat), .bool false] by
    rw [← hZr]; unfold jout; rw [if_neg hz]
    subst hrx; subst hry; subst he3; subst he2; subst hei
    rfl)
  have C_from := Lib.hid (fun w hM => mt_from (a := a) hv_Az hzv w hM)
  have C_inv := Lib.hid (fun f a w hF => fp_inv (f := f) (a := a) (t := iv) hzv hz (by rw [hei]; exact hiv) w hF)
  have C_i2 := Lib.hid (fun f a w hF => fp_mul (f := f) (a := a) (t := i2v) hiv hiv (by rw [he2]; exact hi2v) w hF)
  have C_i3 := Lib.hid (fun f a w hF => fp_mul (f := f) (a := a) (t := i3v) hi2v hiv (by rw [he3]; exact hi3v) w hF)
  have C_x := Lib.hid (fun w hM => mt_mulv (a := a) hv_Ax hi2v hrx w hM)
  have C_y := Lib.hid (fun w hM => mt_mulv (a := a) hv_Ay hi3v hry w hM)
  have HBase := Lib.hid field_base
  clear hZr hei he2 he3 hrx hry hzv hiv hi2v hi3v hz
  unfold jv
  rw [hv_Ax, hv_Ay, hv_Az]
  obtain ⟨W0, hW0⟩ : ∃ W0, (w.alloc (.cells #[.int .u64 (lm Axv 0 : Nat), .int .u64 (lm Axv 1 : Nat), .int .u64 (lm Axv 2 : Nat), .int .u64 (lm Axv 3 : Nat), .int .u64 (lm Ayv 0 : Nat), .int .u64 (lm Ayv 1 : Nat), .int .u64 (lm Ayv 2 : Nat), .int .u64 (lm Ayv 3 : Nat), .int .u64 (lm Azv 0 : Nat), .int .u64 (lm Azv 1 : Nat), .int .u64 (lm Azv 2 : Nat), .int .u64 (lm Azv 3 : Nat)] 66)).alloc (.cells #[.int .u64 0, .int .u64 0, .int .u64 0, .int .u64 0, .int .u64 0, .int .u64 0, .int .u64 0, .int .u64 0, .bool false] 26) = W0 := ⟨_, rfl⟩
  have hBA : U12 W0 (w.heap.size) 66 Axv Ayv Azv := by rw [← hW0]; exact has_alloc (has_alloc_new _ _)
  have hR : U9 W0 (w.heap.size + 1) 0 0 false := U9.zero (by rw [← hW0]; exact has_alloc_at (by simp))
  have hC : Chg [] w W0 := by rw [← hW0]; exact ((Chg.refl _ _).alloc _).alloc _
  replace hP := hP.ch hC
  have HP := Lib.hid hP; have HC := Lib.hid hC; have HR := Lib.hid hR; have HBA := Lib.hid hBA
  clear hP hC hR hBA
  have hbA := HBA.out
  obtain ⟨Az0, Az1, Az2, Az3⟩ := four4 fun _ => hbA.cz
  clear hbA
  clear hv_Ax hv_Ay hv_Az
  go_enter Try.func32, Try.ntmps32
  go_upto_region 3 with fail
  try rw [hW0]
  clear hW0
  obtain ⟨P, hP⟩ : ∃ P, w.heap.size = P := ⟨_, rfl⟩
  rw [hP] at HBA HR ⊢
  obtain ⟨R, hR⟩ : ∃ R, P + 1 = R := ⟨_, rfl⟩
  rw [hR] at HR ⊢
  have hRP : P < R := by omega
  replace hP := Lib.hid hP
  replace hR := Lib.hid hR
  clear q1 Az0 Az1 Az2 Az3
  go_wp2_with fail
  refine (HBase.out _).mono ?_
  rintro e w1 ⟨f, a0, rfl, hC1, hF1⟩
  replace HP := Lib.hid (HP.out.ch hC1); replace HBA := Lib.hid (HBA.out.chg hC1 nmN); replace HR := Lib.hid (HR.out.chg hC1 nmN); replace HC := Lib.hid (HC.out.trans hC1)
  have HF := Lib.hid hF1
  clear hC1 hF1
  go_upto_region 4 with fail
  have p0 := HP.out.way
  obtain ⟨Az0, Az1, Az2, Az3⟩ := four4 fun _ => HBA.out.cz
  refine abs_region (B := Chg [] w1) (S := Chg [] w1) (by kernel_rfl) ((Chg.refl _ _).drew) ?_
  have hG := good_chg [] w1
  refine Abs.take_at (i := 0) (d := some 25) (v := ?_) rfl rfl (by kernel_rfl) (by kernel_rfl) (by kernel_rfl) (fun _ _ _ h => h) hG ⟨by rfl, fun w9 hw9 => Or.inl ?_⟩ ?_
  rotate_left
  · go_simp
    try with_reducible rfl
  simp only [Act.put, stA, stB, stC]
  refine Abs.take_at (i := 1) (d := some 26) (v := ?_) rfl rfl (by kernel_rfl) (by kernel_rfl) (by kernel_rfl) (fun _ _ _ h => h) hG ⟨by rfl, fun w9 hw9 => Or.inl ?_⟩ ?_
  rotate_left
  · go_simp
    try with_reducible rfl
  simp only [Act.put, stA, stB, stC]
  refine Abs.take_at (i := 2) (d := some 27) (v := ?_) rfl rfl (by kernel_rfl) (by kernel_rfl) (by kernel_rfl) (fun _ _ _ h => h) hG ⟨by rfl, fun w9 hw9 => Or.inl ?_⟩ ?_
  rotate_left
  · go_simp
    try with_reducible rfl
  simp only [Act.put, stA, stB, stC]
  refine Abs.take_at (i := 3) (d := some 28) (v := ?_) rfl rfl (by kernel_rfl) (by kernel_rfl) (by kernel_rfl) (fun _ _ _ h => h) hG ⟨by rfl, fun w9 hw9 => Or.inl ?_⟩ ?_
  rotate_left
  · replace p0 := hw9.cell p0 nmN
    go_simp
    try with_reducible rfl
  simp only [Act.put, stA, stB, stC]
  refine Abs.take_at (i := 4) (d := some 29) (v := ?_) rfl rfl (by kernel_rfl) (by kernel_rfl) (by kernel_rfl) (fun _ _ _ h => h) hG ⟨by rfl, fun w9 hw9 => Or.inl ?_⟩ ?_
  rotate_left
  · go_simp
    try with_reducible rfl
  simp only [Act.put, stA, stB, stC]
  refine Abs.take_at (i := 5) (d := some 30) (v := ?_) rfl rfl (by kernel_rfl) (by kernel_rfl) (by kernel_rfl) (fun _ _ _ h => h) hG ⟨by rfl, fun w9 hw9 => Or.inl ?_⟩ ?_
  rotate_left
  · replace Az0 := hw9.cell Az0 nmN; replace Az1 := hw9.cell Az1 nmN; replace Az2 := hw9.cell Az2 nmN; replace Az3 := hw9.cell Az3 nmN
    go_simp
    try with_reducible rfl
  simp only [Act.put, stA, stB, stC]
  refine Abs.take_at (i := 6) (d := some 31) (v := _) rfl rfl (by kernel_rfl) (by kernel_rfl) (by kernel_rfl) (fun _ _ _ h => h) hG ⟨by rfl, fun w9 hw9 => Or.inr ⟨_, _, ?_, C_from.out w9 (HP.out.2.chg hw9 nmN)⟩⟩ ?_
  · go_simp
    try with_reducible rfl
  simp only [Act.put, stA, stB, stC]
  refine Abs.take_at (i := 7) (d := some 24) (v := ?_) rfl rfl (by kernel_rfl) (by kernel_rfl) (by kernel_rfl) (fun _ _ _ h => h) hG ⟨by rfl, fun w9 hw9 => Or.inl ?_⟩ ?_
  rotate_left
  · go_simp
    try with_reducible rfl
  simp only [Act.put, stA, stB, stC]
  refine Abs.take_at (i := 8) (d := some 32) (v := ?_) rfl rfl (by kernel_rfl) (by kernel_rfl) (by kernel_rfl) (fun _ _ _ h => h) hG ⟨by rfl, fun w9 hw9 => Or.inl ?_⟩ ?_
  rotate_left
  · go_simp
    try with_reducible rfl
  simp only [Act.put, stA, stB, stC]
  refine Abs.take_at (i := 9) (d := some 33) (v := ?_) rfl rfl (by kernel_rfl) (by kernel_rfl) (by kernel_rfl) (fun _ _ _ h => h) hG ⟨by rfl, fun w9 hw9 => Or.inl ?_⟩ ?_
  rotate_left
  · go_simp
    try with_reducible rfl
  simp only [Act.put, stA, stB, stC]
  refine Abs.alloc4 (i := 10) (t := 24) (X := []) (W := w1) rfl (by kernel_rfl) (by rfl) hG (fun _ h => h) (fun w9 => ?_) (fun b_z hb_z hG => ?_)
  · go_simp
    try with_reducible rfl
  refine Abs.at_put (d := some 6) rfl ?_
  simp only [Act.put, stA, stB, stC]
  refine Abs.store4 (i := 11) (b := b_z) (ds := #[.int .u64 (lm zv 0 : Nat), .int .u64 (lm zv 1 : Nat), .int .u64 (lm zv 2 : Nat), .int .u64 (lm zv 3 : Nat)]) rfl (by kernel_rfl) (by rfl) (fun w9 => (((w9.setCell ⟨b_z, 0, none⟩ (.int .u64 (lm zv 0 : Nat))).setCell ⟨b_z, 1, none⟩ (.int .u64 (lm zv 1 : Nat))).setCell ⟨b_z, 2, none⟩ (.int .u64 (lm zv 2 : Nat))).setCell ⟨b_z, 3, none⟩ (.int .u64 (lm zv 3 : Nat))) (fun w9 h9 => ⟨?_, ?_, ?_⟩) (fun _ _ h k => Chg.keeps (Or.inr hb_z) h k) (good_chg [] w1) (fun hG => ?_)
  · have n0 := cell_of_has h9 0; have n1 := cell_of_has h9 1; have n2 := cell_of_has h9 2; have n3 := cell_of_has h9 3
    simp only [glA, glB, glC] at n0 n1 n2 n3
    have z0 := frozen_of_has h9 0; have z1 := frozen_of_has h9 1; have z2 := frozen_of_has h9 2; have z3 := frozen_of_has h9 3
    clear h9
    go_simp
    try with_reducible rfl
  · exact U4.put_x (x := fun _ => 0) h9 zv
  · exact Chg.put_x (Chg.refl _ _) (Or.inl (by simp)) zv
  refine Abs.at_put (d := none) rfl ?_
  simp only [Act.put, stA, stB, stC]
  refine Abs.take_at (i := 12) (d := some 7) (v := ?_) rfl rfl (by kernel_rfl) (by kernel_rfl) (by kernel_rfl) (fun _ _ _ h => h) hG ⟨by rfl, fun w9 hw9 => Or.inl ?_⟩ ?_
  rotate_left
  · go_simp
    try with_reducible rfl
  simp only [Act.put, stA, stB, stC]
  refine Abs.done (by kernel_rfl) (fun wx hx => NoPanic.normal ?_) _
  clear p0 Az0 Az1 Az2 Az3 
  obtain ⟨hA, hN⟩ := hx
  have l_z : R < b_z := Nat.lt_of_lt_of_le HR.out.lt hb_z
  have hN : U4 wx b_z 24 (lm zv) := hN
  replace HP := Lib.hid (HP.out.ch hA); replace HBA := Lib.hid (HBA.out.chg hA nmN); replace HR := Lib.hid (HR.out.chg hA nmN); replace HC := Lib.hid (HC.out.trans hA)
  replace HF := Lib.hid (HF.out.ch hA)
  have H_z := Lib.hid hN
  clear hA hN hb_z
  go_upto_region 5 with fail
  obtain ⟨v_z_0, v_z_1, v_z_2, v_z_3⟩ := four4 fun _ => (H_z.out).cell
  go_wp2_with fail
  refine (C_inv.out _ _ _ HF.out).mono ?_
  rintro e w1 ⟨rfl, hC1⟩
  clear v_z_0 v_z_1 v_z_2 v_z_3
  replace HP := Lib.hid (HP.out.ch hC1); replace HBA := Lib.hid (HBA.out.chg hC1 nmN); replace HR := Lib.hid (HR.out.chg hC1 nmN); replace HC := Lib.hid (HC.out.trans hC1)
  replace HF := Lib.hid (HF.out.ch hC1)
  replace H_z := Lib.hid (H_z.out.chg hC1 nmN)
  clear hC1
  obtain ⟨W1, hW1⟩ : ∃ W1, w1.alloc (.cells #[.int .u64 (lm iv 0 : Nat), .int .u64 (lm iv 1 : Nat), .int .u64 (lm iv 2 : Nat), .int .u64 (lm iv 3 : Nat)] 24) = W1 := ⟨_, rfl⟩
  have hA : Chg [] w1 W1 := by rw [← hW1]; exact (Chg.refl _ _).alloc _
  have hN : U4 W1 w1.heap.size 24 (lm iv) := by rw [← hW1]; exact has_alloc_new _ _
  obtain ⟨b_i, hb⟩ : ∃ b, w1.heap.size = b := ⟨_, rfl⟩
  have l_i : b_z < b_i := by rw [← hb]; exact H_z.out.lt
  rw [hb] at hN
  replace HP := Lib.hid (HP.out.ch hA); replace HBA := Lib.hid (HBA.out.chg hA nmN); replace HR := Lib.hid (HR.out.chg hA nmN); replace HC := Lib.hid (HC.out.trans hA)
  replace HF := Lib.hid (HF.out.ch hA)
  replace H_z := Lib.hid (H_z.out.chg hA nmN)
  have H_i := Lib.hid hN
  go_upto_region 6 with fail
  try rw [hW1]
  try rw [hb]
  clear hW1 hb hA hN
  obtain ⟨v_i_0, v_i_1, v_i_2, v_i_3⟩ := four4 fun _ => (H_i.out).cell
  go_wp2_with fail
  refine (C_i2.out _ _ _ HF.out).mono ?_
  rintro e w1 ⟨rfl, hC1⟩
  clear v_i_0 v_i_1 v_i_2 v_i_3
  replace HP := Lib.hid (HP.out.ch hC1); replace HBA := Lib.hid (HBA.out.chg hC1 nmN); replace HR := Lib.hid (HR.out.chg hC1 nmN); replace HC := Lib.hid (HC.out.trans hC1)
  replace HF := Lib.hid (HF.out.ch hC1)
  replace H_z := Lib.hid (H_z.out.chg hC1 nmN)
  replace H_i := Lib.hid (H_i.out.chg hC1 nmN)
  clear hC1
  obtain ⟨W1, hW1⟩ : ∃ W1, w1.alloc (.cells #[.int .u64 (lm i2v 0 : Nat), .int .u64 (lm i2v 1 : Nat), .int .u64 (lm i2v 2 : Nat), .int .u64 (lm i2v 3 : Nat)] 24) = W1 := ⟨_, rfl⟩
  have hA : Chg [] w1 W1 := by rw [← hW1]; exact (Chg.refl _ _).alloc _
  have hN : U4 W1 w1.heap.size 24 (lm i2v) := by rw [← hW1]; exact has_alloc_new _ _
  obtain ⟨b_i2, hb⟩ : ∃ b, w1.heap.size = b := ⟨_, rfl⟩
  have l_i2 : b_i < b_i2 := by rw [← hb]; exact H_i.out.lt
  rw [hb] at hN
  replace HP := Lib.hid (HP.out.ch hA); replace HBA := Lib.hid (HBA.out.chg hA nmN); replace HR := Lib.hid (HR.out.chg hA nmN); replace HC := Lib.hid (HC.out.trans hA)
  replace HF := Lib.hid (HF.out.ch hA)
  replace H_z := Lib.hid (H_z.out.chg hA nmN)
  replace H_i := Lib.hid (H_i.out.chg hA nmN)
  have H_i2 := Lib.hid hN
  go_upto_region 7 with fail
  try rw [hW1]
  try rw [hb]
  clear hW1 hb hA hN
  obtain ⟨v_i2_0, v_i2_1, v_i2_2, v_i2_3⟩ := four4 fun _ => (H_i2.out).cell
  obtain ⟨v_i_0, v_i_1, v_i_2, v_i_3⟩ := four4 fun _ => (H_i.out).cell
  go_wp2_with fail
  refine (C_i3.out _ _ _ HF.out).mono ?_
  rintro e w1 ⟨rfl, hC1⟩
  clear v_i2_0 v_i2_1 v_i2_2 v_i2_3 v_i_0 v_i_1 v_i_2 v_i_3
  replace HP := Lib.hid (HP.out.ch hC1); replace HBA := Lib.hid (HBA.out.chg hC1 nmN); replace HR := Lib.hid (HR.out.chg hC1 nmN); replace HC := Lib.hid (HC.out.trans hC1)
  replace HF := Lib.hid (HF.out.ch hC1)
  replace H_z := Lib.hid (H_z.out.chg hC1 nmN)
  replace H_i := Lib.hid (H_i.out.chg hC1 nmN)
  replace H_i2 := Lib.hid (H_i2.out.chg hC1 nmN)
  clear hC1
  obtain ⟨W1, hW1⟩ : ∃ W1, w1.alloc (.cells #[.int .u64 (lm i3v 0 : Nat), .int .u64 (lm i3v 1 : Nat), .int .u64 (lm i3v 2 : Nat), .int .u64 (lm i3v 3 : Nat)] 24) = W1 := ⟨_, rfl⟩
  have hA : Chg [] w1 W1 := by rw [← hW1]; exact (Chg.refl _ _).alloc _
  have hN : U4 W1 w1.heap.size 24 (lm i3v) := by rw [← hW1]; exact has_alloc_new _ _
  obtain ⟨b_i3, hb⟩ : ∃ b, w1.heap.size = b := ⟨_, rfl⟩
  have l_i3 : b_i2 < b_i3 := by rw [← hb]; exact H_i2.out.lt
  rw [hb] at hN
  replace HP := Lib.hid (HP.out.ch hA); replace HBA := Lib.hid (HBA.out.chg hA nmN); replace HR := Lib.hid (HR.out.chg hA nmN); replace HC := Lib.hid (HC.out.trans hA)
  replace HF := Lib.hid (HF.out.ch hA)
  replace H_z := Lib.hid (H_z.out.chg hA nmN)
  replace H_i := Lib.hid (H_i.out.chg hA nmN)
  replace H_i2 := Lib.hid (H_i2.out.chg hA nmN)
  have H_i3 := Lib.hid hN
  go_upto_region 8 with fail
  try rw [hW1]
  try rw [hb]
  clear hW1 hb hA hN
  have p0 := HP.out.way
  obtain ⟨Ax0, Ax1, Ax2, Ax3⟩ := four4 fun _ => HBA.out.cx
  obtain ⟨v_i2_0, v_i2_1, v_i2_2, v_i2_3⟩ := four4 fun _ => (H_i2.out).cell
  refine abs_region (B := Chg [] W1) (S := Chg [] W1) (by kernel_rfl) ((Chg.refl _ _).drew) ?_
  have hG := good_chg [] W1
  refine Abs.take_at (i := 0) (d := some 55) (v := ?_) rfl rfl (by kernel_rfl) (by kernel_rfl) (by kernel_rfl) (fun _ _ _ h => h) hG ⟨by rfl, fun w9 hw9 => Or.inl ?_⟩ ?_
  rotate_left
  · go_simp
    try with_reducible rfl
  simp only [Act.put, stA, stB, stC]
  refine Abs.take_at (i := 1) (d := some 56) (v := ?_) rfl rfl (by kernel_rfl) (by kernel_rfl) (by kernel_rfl) (fun _ _ _ h => h) hG ⟨by rfl, fun w9 hw9 => Or.inl ?_⟩ ?_
  rotate_left
  · go_simp
    try with_reducible rfl
  simp only [Act.put, stA, stB, stC]
  refine Abs.take_at (i := 2) (d := some 57) (v := ?_) rfl rfl (by kernel_rfl) (by kernel_rfl) (by kernel_rfl) (fun _ _ _ h => h) hG ⟨by rfl, fun w9 hw9 => Or.inl ?_⟩ ?_
  rotate_left
  · go_simp
    try with_reducible rfl
  simp only [Act.put, stA, stB, stC]
  refine Abs.take_at (i := 3) (d := some 58) (v := ?_) rfl rfl (by kernel_rfl) (by kernel_rfl) (by kernel_rfl) (fun _ _ _ h => h) hG ⟨by rfl, fun w9 hw9 => Or.inl ?_⟩ ?_
  rotate_left
  · replace p0 := hw9.cell p0 nmN
    go_simp
    try with_reducible rfl
  simp only [Act.put, stA, stB, stC]
  refine Abs.take_at (i := 4) (d := some 59) (v := ?_) rfl rfl (by kernel_rfl) (by kernel_rfl) (by kernel_rfl) (fun _ _ _ h => h) hG ⟨by rfl, fun w9 hw9 => Or.inl ?_⟩ ?_
  rotate_left
  · go_simp
    try with_reducible rfl
  simp only [Act.put, stA, stB, stC]
  refine Abs.take_at (i := 5) (d := some 60) (v := ?_) rfl rfl (by kernel_rfl) (by kernel_rfl) (by kernel_rfl) (fun _ _ _ h => h) hG ⟨by rfl, fun w9 hw9 => Or.inl ?_⟩ ?_
  rotate_left
  · replace Ax0 := hw9.cell Ax0 nmN; replace Ax1 := hw9.cell Ax1 nmN; replace Ax2 := hw9.cell Ax2 nmN; replace Ax3 := hw9.cell Ax3 nmN
    go_simp
    try with_reducible rfl
  simp only [Act.put, stA, stB, stC]
  refine Abs.take_at (i := 6) (d := some 61) (v := ?_) rfl rfl (by kernel_rfl) (by kernel_rfl) (by kernel_rfl) (fun _ _ _ h => h) hG ⟨by rfl, fun w9 hw9 => Or.inl ?_⟩ ?_
  rotate_left
  · replace v_i2_0 := hw9.cell v_i2_0 nmN; replace v_i2_1 := hw9.cell v_i2_1 nmN; replace v_i2_2 := hw9.cell v_i2_2 nmN; replace v_i2_3 := hw9.cell v_i2_3 nmN
    go_simp
    try with_reducible rfl
  simp only [Act.put, stA, stB, stC]
  refine Abs.take_at (i := 7) (d := some 62) (v := _) rfl rfl (by kernel_rfl) (by kernel_rfl) (by kernel_rfl) (fun _ _ _ h => h) hG ⟨by rfl, fun w9 hw9 => Or.inr ⟨_, _, ?_, C_x.out w9 (HP.out.2.chg hw9 nmN)⟩⟩ ?_
  · go_simp
    try with_reducible rfl
  simp only [Act.put, stA, stB, stC]
  refine Abs.take_at (i := 8) (d := some 54) (v := ?_) rfl rfl (by kernel_rfl) (by kernel_rfl) (by kernel_rfl) (fun _ _ _ h => h) hG ⟨by rfl, fun w9 hw9 => Or.inl ?_⟩ ?_
  rotate_left
  · go_simp
    try with_reducible rfl
  simp only [Act.put, stA, stB, stC]
  refine Abs.take_at (i := 9) (d := some 63) (v := ?_) rfl rfl (by kernel_rfl) (by kernel_rfl) (by kernel_rfl) (fun _ _ _ h => h) hG ⟨by rfl, fun w9 hw9 => Or.inl ?_⟩ ?_
  rotate_left
  · go_simp
    try with_reducible rfl
  simp only [Act.put, stA, stB, stC]
  refine Abs.take_at (i := 10) (d := some 64) (v := ?_) rfl rfl (by kernel_rfl) (by kernel_rfl) (by kernel_rfl) (fun _ _ _ h => h) hG ⟨by rfl, fun w9 hw9 => Or.inl ?_⟩ ?_
  rotate_left
  · go_simp
    try with_reducible rfl
  simp only [Act.put, stA, stB, stC]
  refine Abs.alloc4 (i := 11) (t := 24) (X := []) (W := W1) rfl (by kernel_rfl) (by rfl) hG (fun _ h => h) (fun w9 => ?_) (fun b_x hb_x hG => ?_)
  · go_simp
    try with_reducible rfl
  refine Abs.at_put (d := some 14) rfl ?_
  simp only [Act.put, stA, stB, stC]
  refine Abs.store4 (i := 12) (b := b_x) (ds := #[.int .u64 (lm rx 0 : Nat), .int .u64 (lm rx 1 : Nat), .int .u64 (lm rx 2 : Nat), .int .u64 (lm rx 3 : Nat)]) rfl (by kernel_rfl) (by rfl) (fun w9 => (((w9.setCell ⟨b_x, 0, none⟩ (.int .u64 (lm rx 0 : Nat))).setCell ⟨b_x, 1, none⟩ (.int .u64 (lm rx 1 : Nat))).setCell ⟨b_x, 2, none⟩ (.int .u64 (lm rx 2 : Nat))).setCell ⟨b_x, 3, none⟩ (.int .u64 (lm rx 3 : Nat))) (fun w9 h9 => ⟨?_, ?_, ?_⟩) (fun _ _ h k => Chg.keeps (Or.inr hb_x) h k) (good_chg [] W1) (fun hG => ?_)
  · have n0 := cell_of_has h9 0; have n1 := cell_of_has h9 1; have n2 := cell_of_has h9 2; have n3 := cell_of_has h9 3
    simp only [glA, glB, glC] at n0 n1 n2 n3
    have z0 := frozen_of_has h9 0; have z1 := frozen_of_has h9 1; have z2 := frozen_of_has h9 2; have z3 := frozen_of_has h9 3
    clear h9
    go_simp
    try with_reducible rfl
  · exact U4.put_x (x := fun _ => 0) h9 rx
  · exact Chg.put_x (Chg.refl _ _) (Or.inl (by simp)) rx
  refine Abs.at_put (d := none) rfl ?_
  simp only [Act.put, stA, stB, stC]
  refine Abs.take_at (i := 13) (d := some 15) (v := ?_) rfl rfl (by kernel_rfl) (by kernel_rfl) (by kernel_rfl) (fun _ _ _ h => h) hG ⟨by rfl, fun w9 hw9 => Or.inl ?_⟩ ?_
  rotate_left
  · go_simp
    try with_reducible rfl
  simp only [Act.put, stA, stB, stC]
  refine Abs.done (by kernel_rfl) (fun wx hx => NoPanic.normal ?_) _
  clear p0 Ax0 Ax1 Ax2 Ax3 v_i2_0 v_i2_1 v_i2_2 v_i2_3
  obtain ⟨hA, hN⟩ := hx
  have l_x : b_i3 < b_x := Nat.lt_of_lt_of_le H_i3.out.lt hb_x
  have hN : U4 wx b_x 24 (lm rx) := hN
  replace HP := Lib.hid (HP.out.ch hA); replace HBA := Lib.hid (HBA.out.chg hA nmN); replace HR := Lib.hid (HR.out.chg hA nmN); replace HC := Lib.hid (HC.out.trans hA)
  replace HF := Lib.hid (HF.out.ch hA)
  replace H_z := Lib.hid (H_z.out.chg hA nmN)
  replace H_i := Lib.hid (H_i.out.chg hA nmN)
  replace H_i2 := Lib.hid (H_i2.out.chg hA nmN)
  replace H_i3 := Lib.hid (H_i3.out.chg hA nmN)
  have H_x := Lib.hid hN
  clear hA hN hb_x
  go_upto_region 9 with fail
  have p0 := HP.out.way
  obtain ⟨Ay0, Ay1, Ay2, Ay3⟩ := four4 fun _ => HBA.out.cy
  obtain ⟨v_i3_0, v_i3_1, v_i3_2, v_i3_3⟩ := four4 fun _ => (H_i3.out).cell
  refine abs_region (B := Chg [] wx) (S := Chg [] wx) (by kernel_rfl) ((Chg.refl _ _).drew) ?_
  have hG := good_chg [] wx
  refine Abs.take_at (i := 0) (d := some 66) (v := ?_) rfl rfl (by kernel_rfl) (by kernel_rfl) (by kernel_rfl) (fun _ _ _ h => h) hG ⟨by rfl, fun w9 hw9 => Or.inl ?_⟩ ?_
  rotate_left
  · go_simp
    try with_reducible rfl
  simp only [Act.put, stA, stB, stC]
  refine Abs.take_at (i := 1) (d := some 67) (v := ?_) rfl rfl (by kernel_rfl) (by kernel_rfl) (by kernel_rfl) (fun _ _ _ h => h) hG ⟨by rfl, fun w9 hw9 => Or.inl ?_⟩ ?_
  rotate_left
  · go_simp
    try with_reducible rfl
  simp only [Act.put, stA, stB, stC]
  refine Abs.take_at (i := 2) (d := some 68) (v := ?_) rfl rfl (by kernel_rfl) (by kernel_rfl) (by kernel_rfl) (fun _ _ _ h => h) hG ⟨by rfl, fun w9 hw9 => Or.inl ?_⟩ ?_
  rotate_left
  · go_simp
    try with_reducible rfl
  simp only [Act.put, stA, stB, stC]
  refine Abs.take_at (i := 3) (d := some 69) (v := ?_) rfl rfl (by kernel_rfl) (by kernel_rfl) (by kernel_rfl) (fun _ _ _ h => h) hG ⟨by rfl, fun w9 hw9 => Or.inl ?_⟩ ?_
  rotate_left
  · replace p0 := hw9.cell p0 nmN
    go_simp
    try with_reducible rfl
  simp only [Act.put, stA, stB, stC]
  refine Abs.take_at (i := 4) (d := some 70) (v := ?_) rfl rfl (by kernel_rfl) (by kernel_rfl) (by kernel_rfl) (fun _ _ _ h => h) hG ⟨by rfl, fun w9 hw9 => Or.inl ?_⟩ ?_
  rotate_left
  · go_simp
    try with_reducible rfl
  simp only [Act.put, stA, stB, stC]
  refine Abs.take_at (i := 5) (d := some 71) (v := ?_) rfl rfl (by kernel_rfl) (by kernel_rfl) (by kernel_rfl) (fun _ _ _ h => h) hG ⟨by rfl, fun w9 hw9 => Or.inl ?_⟩ ?_
  rotate_left
  · replace Ay0 := hw9.cell Ay0 nmN; replace Ay1 := hw9.cell Ay1 nmN; replace Ay2 := hw9.cell Ay2 nmN; replace Ay3 := hw9.cell Ay3 nmN
    go_simp
    try with_reducible rfl
  simp only [Act.put, stA, stB, stC]
  refine Abs.take_at (i := 6) (d := some 72) (v := ?_) rfl rfl (by kernel_rfl) (by kernel_rfl) (by kernel_rfl) (fun _ _ _ h => h) hG ⟨by rfl, fun w9 hw9 => Or.inl ?_⟩ ?_
  rotate_left
  · replace v_i3_0 := hw9.cell v_i3_0 nmN; replace v_i3_1 := hw9.cell v_i3_1 nmN; replace v_i3_2 := hw9.cell v_i3_2 nmN; replace v_i3_3 := hw9.cell v_i3_3 nmN
    go_simp
    try with_reducible rfl
  simp only [Act.put, stA, stB, stC]
  refine Abs.take_at (i := 7) (d := some 73) (v := _) rfl rfl (by kernel_rfl) (by kernel_rfl) (by kernel_rfl) (fun _ _ _ h => h) hG ⟨by rfl, fun w9 hw9 => Or.inr ⟨_, _, ?_, C_y.out w9 (HP.out.2.chg hw9 nmN)⟩⟩ ?_
  · go_simp
    try with_reducible rfl
  simp only [Act.put, stA, stB, stC]
  refine Abs.take_at (i := 8) (d := some 65) (v := ?_) rfl rfl (by kernel_rfl) (by kernel_rfl) (by kernel_rfl) (fun _ _ _ h => h) hG ⟨by rfl, fun w9 hw9 => Or.inl ?_⟩ ?_
  rotate_left
  · go_simp
    try with_reducible rfl
  simp only [Act.put, stA, stB, stC]
  refine Abs.take_at (i := 9) (d := some 74) (v := ?_) rfl rfl (by kernel_rfl) (by kernel_rfl) (by kernel_rfl) (fun _ _ _ h => h) hG ⟨by rfl, fun w9 hw9 => Or.inl ?_⟩ ?_
  rotate_left
  · go_simp
    try with_reducible rfl
  simp only [Act.put, stA, stB, stC]
  refine Abs.take_at (i := 10) (d := some 75) (v := ?_) rfl rfl (by kernel_rfl) (by kernel_rfl) (by kernel_rfl) (fun _ _ _ h => h) hG ⟨by rfl, fun w9 hw9 => Or.inl ?_⟩ ?_
  rotate_left
  · go_simp
    try with_reducible rfl
  simp only [Act.put, stA, stB, stC]
  refine Abs.alloc4 (i := 11) (t := 24) (X := []) (W := wx) rfl (by kernel_rfl) (by rfl) hG (fun _ h => h) (fun w9 => ?_) (fun b_y hb_y hG => ?_)
  · go_simp
    try with_reducible rfl
  refine Abs.at_put (d := some 16) rfl ?_
  simp only [Act.put, stA, stB, stC]
  refine Abs.store4 (i := 12) (b := b_y) (ds := #[.int .u64 (lm ry 0 : Nat), .int .u64 (lm ry 1 : Nat), .int .u64 (lm ry 2 : Nat), .int .u64 (lm ry 3 : Nat)]) rfl (by kernel_rfl) (by rfl) (fun w9 => (((w9.setCell ⟨b_y, 0, none⟩ (.int .u64 (lm ry 0 : Nat))).setCell ⟨b_y, 1, none⟩ (.int .u64 (lm ry 1 : Nat))).setCell ⟨b_y, 2, none⟩ (.int .u64 (lm ry 2 : Nat))).setCell ⟨b_y, 3, none⟩ (.int .u64 (lm ry 3 : Nat))) (fun w9 h9 => ⟨?_, ?_, ?_⟩) (fun _ _ h k => Chg.keeps (Or.inr hb_y) h k) (good_chg [] wx) (fun hG => ?_)
  · have n0 := cell_of_has h9 0; have n1 := cell_of_has h9 1; have n2 := cell_of_has h9 2; have n3 := cell_of_has h9 3
    simp only [glA, glB, glC] at n0 n1 n2 n3
    have z0 := frozen_of_has h9 0; have z1 := frozen_of_has h9 1; have z2 := frozen_of_has h9 2; have z3 := frozen_of_has h9 3
    clear h9
    go_simp
    try with_reducible rfl
  · exact U4.put_x (x := fun _ => 0) h9 ry
  · exact Chg.put_x (Chg.refl _ _) (Or.inl (by simp)) ry
  refine Abs.at_put (d := none) rfl ?_
  simp only [Act.put, stA, stB, stC]
  refine Abs.take_at (i := 13) (d := some 17) (v := ?_) rfl rfl (by kernel_rfl) (by kernel_rfl) (by kernel_rfl) (fun _ _ _ h => h) hG ⟨by rfl, fun w9 hw9 => Or.inl ?_⟩ ?_
  rotate_left
  · go_simp
    try with_reducible rfl
  simp only [Act.put, stA, stB, stC]
  refine Abs.done (by kernel_rfl) (fun wx hx => NoPanic.normal ?_) _
  clear p0 Ay0 Ay1 Ay2 Ay3 v_i3_0 v_i3_1 v_i3_2 v_i3_3
  obtain ⟨hA, hN⟩ := hx
  have l_y : b_x < b_y := Nat.lt_of_lt_of_le H_x.out.lt hb_y
  have hN : U4 wx b_y 24 (lm ry) := hN
  replace HP := Lib.hid (HP.out.ch hA); replace HBA := Lib.hid (HBA.out.chg hA nmN); replace HR := Lib.hid (HR.out.chg hA nmN); replace HC := Lib.hid (HC.out.trans hA)
  replace HF := Lib.hid (HF.out.ch hA)
  replace H_z := Lib.hid (H_z.out.chg hA nmN)
  replace H_i := Lib.hid (H_i.out.chg hA nmN)
  replace H_i2 := Lib.hid (H_i2.out.chg hA nmN)
  replace H_i3 := Lib.hid (H_i3.out.chg hA nmN)
  replace H_x := Lib.hid (H_x.out.chg hA nmN)
  have H_y := Lib.hid hN
  clear hA hN hb_y
  skip
  obtain ⟨v_x_0, v_x_1, v_x_2, v_x_3⟩ := four4 fun _ => (H_x.out).cell
  obtain ⟨v_y_0, v_y_1, v_y_2, v_y_3⟩ := four4 fun _ => (H_y.out).cell
  have hRz := HR.out
  obtain ⟨n0, n1, n2, n3, n4, n5, n6, n7, n8⟩ := hRz.all
  have nz0 := hRz.fz 0; have nz1 := hRz.fz 1; have nz2 := hRz.fz 2; have nz3 := hRz.fz 3; have nz4 := hRz.fz 4; have nz5 := hRz.fz 5; have nz6 := hRz.fz 6; have nz7 := hRz.fz 7; have nz8 := hRz.fz 8
  have hll := hRz.lt
  have HF9 := Lib.hid (hRz.put rx ry false); have HCF := Lib.hid (HC.out.put9 (b := R) (Or.inr (by have := hP.out; omega)) rx ry false)
  clear hRz
  go_wp2_with fail
  have hF := HF9.out; have hCF := HCF.out
  refine (id ?_ : bodyPost _ _ _ _ _ (put9 wx R rx ry false))
  clear HF9 HCF
  generalize put9 wx R rx ry false = W5 at *
  obtain ⟨g0, g1, g2, g3, g4, g5, g6, g7, g8⟩ := hF.all
  exact bodyPost_ret (v := .agg #[.int .u64 (lm rx 0 : Nat), .int .u64 (lm rx 1 : Nat), .int .u64 (lm rx 2 : Nat), .int .u64 (lm rx 3 : Nat), .int .u64 (lm ry 0 : Nat), .int .u64 (lm ry 1 : Nat), .int .u64 (lm ry 2 : Nat), .int .u64 (lm ry 3 : Nat), .bool false]) (by simp [results, Try.results32, go_sem, g0, g1, g2, g3, g4, g5, g6, g7, g8]) rfl ⟨by rw [HZ.out], hCF⟩

theorem plane_out {l a : Nat} (j : J) (w : World) (hP : Pl w l a PP vP) :
    Calls Try.prog 32 #[.pointer (some ⟨l, 0, none⟩), .agg (jv j)] w fun e w' =>
    e = .returned (.agg (pv (jout j))) ∧ Chg [] w w' := by
  by_cases hz : j.z = 0
  · exact plane_out_z j hz w hP
  · exact plane_out_n j hz w hP

end Go.Proofs.Ytplldbmjdnikeaa

/- The walk of curve.plane.in. Printed by inp.py. -/
namespace Go.Proofs.Ytplldbmjdnikeaa
set_option linter.unusedVariables false
set_option linter.unusedSimpArgs false
open Go.RowKit

theorem mu_one : B6 ^ 4 % PP = mu 1 := by
  unfold mu
  rw [show ((1 : Fin PP).val) = 1 from by decide +kernel, Nat.one_mul]

set_option maxRecDepth 100000 in
set_option maxHeartbeats 8000000 in
theorem plane_in_inf {l a : Nat} (x y : Nat) (w : World) (hP : Pl w l a PP vP) :
    Calls Try.prog 34 #[.pointer (some ⟨l, 0, none⟩), .agg (pv ⟨x, y, true⟩)] w fun e w' =>
    e = .returned (.agg (jv ⟨0, 0, 0⟩)) ∧ Chg [] w w' := by
  rw [jv_zero]
  unfold pv
  obtain ⟨W0, hW0⟩ : ∃ W0, (w.alloc (.cells #[.int .u64 (lm x 0 : Nat), .int .u64 (lm x 1 : Nat), .int .u64 (lm x 2 : Nat), .int .u64 (lm x 3 : Nat), .int .u64 (lm y 0 : Nat), .int .u64 (lm y 1 : Nat), .int .u64 (lm y 2 : Nat), .int .u64 (lm y 3 : Nat), .bool true] 26)).alloc (.cells #[.int .u64 0, .int .u64 0, .int .u64 0, .int .u64 0, .int .u64 0, .int .u64 0, .int .u64 0, .int .u64 0, .int .u64 0, .int .u64 0, .int .u64 0, .int .u64 0] 66) = W0 := ⟨_, rfl⟩
  have hBA : U9 W0 (w.heap.size) x y true := by rw [← hW0]; exact has_alloc (has_alloc_new _ _)
  have hR : Z12 W0 (w.heap.size + 1) 66 := by rw [← hW0]; exact has_alloc_at (by simp)
  have hC : Chg [] w W0 := by rw [← hW0]; exact ((Chg.refl _ _).alloc _).alloc _
  have hlP : l < w.heap.size := lt_of_has hP.1
  have haP : a < w.heap.size := lt_of_has hP.2
  replace hP := hP.ch hC
  have HP := Lib.hid hP; have HC := Lib.hid hC; have HR := Lib.hid hR; have HBA := Lib.hid hBA
  have Ai := hBA.ci
  clear hP hC hR hBA
  go_enter Try.func34, Try.ntmps34
  go_upto_region 2 with fail
  try rw [hW0]
  clear hW0
  obtain ⟨P, hP⟩ : ∃ P, w.heap.size = P := ⟨_, rfl⟩
  rw [hP] at HBA HR Ai hlP haP ⊢
  obtain ⟨R, hR⟩ : ∃ R, P + 1 = R := ⟨_, rfl⟩
  rw [hR] at HR ⊢
  have hRP : P < R := by omega
  replace hR := Lib.hid hR
  clear Ai
  have hRz := HR.out
  have n0 := cell_of_has hRz 0; have n1 := cell_of_has hRz 1; have n2 := cell_of_has hRz 2; have n3 := cell_of_has hRz 3; have n4 := cell_of_has hRz 4; have n5 := cell_of_has hRz 5; have n6 := cell_of_has hRz 6; have n7 := cell_of_has hRz 7; have n8 := cell_of_has hRz 8; have n9 := cell_of_has hRz 9; have n10 := cell_of_has hRz 10; have n11 := cell_of_has hRz 11
  simp only [glA, glB, glC] at n0 n1 n2 n3 n4 n5 n6 n7 n8 n9 n10 n11
  have nz0 := frozen_of_has hRz 0; have nz1 := frozen_of_has hRz 1; have nz2 := frozen_of_has hRz 2; have nz3 := frozen_of_has hRz 3; have nz4 := frozen_of_has hRz 4; have nz5 := frozen_of_has hRz 5; have nz6 := frozen_of_has hRz 6; have nz7 := frozen_of_has hRz 7; have nz8 := frozen_of_has hRz 8; have nz9 := frozen_of_has hRz 9; have nz10 := frozen_of_has hRz 10; have nz11 := frozen_of_has hRz 11
  have hll := hRz.lt
  have HF := Lib.hid hRz.putz; have HCF := Lib.hid (HC.out.putz (b := R) (Or.inr (by omega)))
  clear hRz
  go_wp2_with fail
  have hF := HF.out
  have hCF := HCF.out
  refine (id ?_ : bodyPost _ _ _ _ _ ((((((((((((W0.setCell ⟨R, 0, none⟩ (.int .u64 0)).setCell ⟨R, 1, none⟩ (.int .u64 0)).setCell ⟨R, 2, none⟩ (.int .u64 0)).setCell ⟨R, 3, none⟩ (.int .u64 0)).setCell ⟨R, 4, none⟩ (.int .u64 0)).setCell ⟨R, 5, none⟩ (.int .u64 0)).setCell ⟨R, 6, none⟩ (.int .u64 0)).setCell ⟨R, 7, none⟩ (.int .u64 0)).setCell ⟨R, 8, none⟩ (.int .u64 0)).setCell ⟨R, 9, none⟩ (.int .u64 0)).setCell ⟨R, 10, none⟩ (.int .u64 0)).setCell ⟨R, 11, none⟩ (.int .u64 0)))
  clear HF HCF
  generalize ((((((((((((W0.setCell ⟨R, 0, none⟩ (.int .u64 0)).setCell ⟨R, 1, none⟩ (.int .u64 0)).setCell ⟨R, 2, none⟩ (.int .u64 0)).setCell ⟨R, 3, none⟩ (.int .u64 0)).setCell ⟨R, 4, none⟩ (.int .u64 0)).setCell ⟨R, 5, none⟩ (.int .u64 0)).setCell ⟨R, 6, none⟩ (.int .u64 0)).setCell ⟨R, 7, none⟩ (.int .u64 0)).setCell ⟨R, 8, none⟩ (.int .u64 0)).setCell ⟨R, 9, none⟩ (.int .u64 0)).setCell ⟨R, 10, none⟩ (.int .u64 0)).setCell ⟨R, 11, none⟩ (.int .u64 0)) = W5 at *
  have g0 := cell_of_has hF 0; have g1 := cell_of_has hF 1; have g2 := cell_of_has hF 2; have g3 := cell_of_has hF 3; have g4 := cell_of_has hF 4; have g5 := cell_of_has hF 5; have g6 := cell_of_has hF 6; have g7 := cell_of_has hF 7; have g8 := cell_of_has hF 8; have g9 := cell_of_has hF 9; have g10 := cell_of_has hF 10; have g11 := cell_of_has hF 11
  simp only [glA, glB, glC] at g0 g1 g2 g3 g4 g5 g6 g7 g8 g9 g10 g11
  exact bodyPost_ret (v := .agg #[.int .u64 0, .int .u64 0, .int .u64 0, .int .u64 0, .int .u64 0, .int .u64 0, .int .u64 0, .int .u64 0, .int .u64 0, .int .u64 0, .int .u64 0, .int .u64 0]) (by simp [results, Try.results34, go_sem, g0, g1, g2, g3, g4, g5, g6, g7, g8, g9, g10, g11]) rfl ⟨rfl, hCF⟩

set_option maxRecDepth 100000 in
set_option maxHeartbeats 8000000 in
theorem plane_in {l a : Nat} (x y : Fin PP) (w : World) (hP : Pl w l a PP vP) :
    Calls Try.prog 34 #[.pointer (some ⟨l, 0, none⟩), .agg (pv ⟨x.val, y.val, false⟩)] w fun e w' =>
    e = .returned (.agg (jv ⟨x, y, 1⟩)) ∧ Chg [] w w' := by
  obtain ⟨xv, hxv⟩ : ∃ v, x.val = v := ⟨_, rfl⟩
  obtain ⟨yv, hyv⟩ : ∃ v, y.val = v := ⟨_, rfl⟩
  obtain ⟨mx, hmx⟩ : ∃ v, mu x = v := ⟨_, rfl⟩
  obtain ⟨my, hmy⟩ : ∃ v, mu y = v := ⟨_, rfl⟩
  obtain ⟨mo, hmo⟩ : ∃ v, mu 1 = v := ⟨_, rfl⟩
  have hj : jv ⟨x, y, 1⟩ = #[.int .u64 (lm mx 0 : Nat), .int .u64 (lm mx 1 : Nat), .int .u64 (lm mx 2 : Nat), .int .u64 (lm mx 3 : Nat), .int .u64 (lm my 0 : Nat), .int .u64 (lm my 1 : Nat), .int .u64 (lm my 2 : Nat), .int .u64 (lm my 3 : Nat), .int .u64 (lm mo 0 : Nat), .int .u64 (lm mo 1 : Nat), .int .u64 (lm mo 2 : Nat), .int .u64 (lm mo 3 : Nat)] := by
    unfold jv
    rw [show (J.mk x y 1).x = x from rfl, show (J.mk x y 1).y = y from rfl, show (J.mk x y 1).z = 1 from rfl, hmx, hmy, hmo]
  rw [hj, hxv, hyv]
  have C_x := Lib.hid (fun w hM => mt_to (a := a) hxv hmx w hM)
  have C_y := Lib.hid (fun w hM => mt_to (a := a) hyv hmy w hM)
  have HMo := Lib.hid (mu_one.trans hmo)
  clear hj hxv hyv hmx hmy hmo
  unfold pv
  obtain ⟨W0, hW0⟩ : ∃ W0, (w.alloc (.cells #[.int .u64 (lm xv 0 : Nat), .int .u64 (lm xv 1 : Nat), .int .u64 (lm xv 2 : Nat), .int .u64 (lm xv 3 : Nat), .int .u64 (lm yv 0 : Nat), .int .u64 (lm yv 1 : Nat), .int .u64 (lm yv 2 : Nat), .int .u64 (lm yv 3 : Nat), .bool false] 26)).alloc (.cells #[.int .u64 0, .int .u64 0, .int .u64 0, .int .u64 0, .int .u64 0, .int .u64 0, .int .u64 0, .int .u64 0, .int .u64 0, .int .u64 0, .int .u64 0, .int .u64 0] 66) = W0 := ⟨_, rfl⟩
  have hBA : U9 W0 (w.heap.size) xv yv false := by rw [← hW0]; exact has_alloc (has_alloc_new _ _)
  have hR : Z12 W0 (w.heap.size + 1) 66 := by rw [← hW0]; exact has_alloc_at (by simp)
  have hC : Chg [] w W0 := by rw [← hW0]; exact ((Chg.refl _ _).alloc _).alloc _
  have hlP : l < w.heap.size := lt_of_has hP.1
  have haP : a < w.heap.size := lt_of_has hP.2
  replace hP := hP.ch hC
  have HP := Lib.hid hP; have HC := Lib.hid hC; have HR := Lib.hid hR; have HBA := Lib.hid hBA
  have Ai := hBA.ci
  clear hP hC hR hBA
  go_enter Try.func34, Try.ntmps34
  go_upto_region 3 with fail
  try rw [hW0]
  clear hW0
  obtain ⟨P, hP⟩ : ∃ P, w.heap.size = P := ⟨_, rfl⟩
  rw [hP] at HBA HR Ai hlP haP ⊢
  obtain ⟨R, hR⟩ : ∃ R, P + 1 = R := ⟨_, rfl⟩
  rw [hR] at HR ⊢
  have hRP : P < R := by omega
  replace hR := Lib.hid hR
  clear Ai
  have p0 := HP.out.way
  obtain ⟨Ax0, Ax1, Ax2, Ax3⟩ := four4 fun _ => HBA.out.cx
  refine abs_region (B := Chg [] W0) (S := Chg [] W0) (by kernel_rfl) ((Chg.refl _ _).drew) ?_
  have hG := good_chg [] W0
  refine Abs.take_at (i := 0) (d := some 13) (v := ?_) rfl rfl (by kernel_rfl) (by kernel_rfl) (by kernel_rfl) (fun _ _ _ h => h) hG ⟨by rfl, fun w9 hw9 => Or.inl ?_⟩ ?_
  rotate_left
  · go_simp
    try with_reducible rfl
  simp only [Act.put, stA, stB, stC]
  refine Abs.take_at (i := 1) (d := some 14) (v := ?_) rfl rfl (by kernel_rfl) (by kernel_rfl) (by kernel_rfl) (fun _ _ _ h => h) hG ⟨by rfl, fun w9 hw9 => Or.inl ?_⟩ ?_
  rotate_left
  · go_simp
    try with_reducible rfl
  simp only [Act.put, stA, stB, stC]
  refine Abs.take_at (i := 2) (d := some 15) (v := ?_) rfl rfl (by kernel_rfl) (by kernel_rfl) (by kernel_rfl) (fun _ _ _ h => h) hG ⟨by rfl, fun w9 hw9 => Or.inl ?_⟩ ?_
  rotate_left
  · go_simp
    try with_reducible rfl
  simp only [Act.put, stA, stB, stC]
  refine Abs.take_at (i := 3) (d := some 16) (v := ?_) rfl rfl (by kernel_rfl) (by kernel_rfl) (by kernel_rfl) (fun _ _ _ h => h) hG ⟨by rfl, fun w9 hw9 => Or.inl ?_⟩ ?_
  rotate_left
  · replace p0 := hw9.cell p0 nmN
    go_simp
    try with_reducible rfl
  simp only [Act.put, stA, stB, stC]
  refine Abs.take_at (i := 4) (d := some 17) (v := ?_) rfl rfl (by kernel_rfl) (by kernel_rfl) (by kernel_rfl) (fun _ _ _ h => h) hG ⟨by rfl, fun w9 hw9 => Or.inl ?_⟩ ?_
  rotate_left
  · go_simp
    try with_reducible rfl
  simp only [Act.put, stA, stB, stC]
  refine Abs.take_at (i := 5) (d := some 18) (v := ?_) rfl rfl (by kernel_rfl) (by kernel_rfl) (by kernel_rfl) (fun _ _ _ h => h) hG ⟨by rfl, fun w9 hw9 => Or.inl ?_⟩ ?_
  rotate_left
  · replace Ax0 := hw9.cell Ax0 nmN; replace Ax1 := hw9.cell Ax1 nmN; replace Ax2 := hw9.cell Ax2 nmN; replace Ax3 := hw9.cell Ax3 nmN
    go_simp
    try with_reducible rfl
  simp only [Act.put, stA, stB, stC]
  refine Abs.take_at (i := 6) (d := some 19) (v := _) rfl rfl (by kernel_rfl) (by kernel_rfl) (by kernel_rfl) (fun _ _ _ h => h) hG ⟨by rfl, fun w9 hw9 => Or.inr ⟨_, _, ?_, C_x.out w9 (HP.out.2.chg hw9 nmN)⟩⟩ ?_
  · go_simp
    try with_reducible rfl
  simp only [Act.put, stA, stB, stC]
  refine Abs.take_at (i := 7) (d := some 12) (v := ?_) rfl rfl (by kernel_rfl) (by kernel_rfl) (by kernel_rfl) (fun _ _ _ h => h) hG ⟨by rfl, fun w9 hw9 => Or.inl ?_⟩ ?_
  rotate_left
  · go_simp
    try with_reducible rfl
  simp only [Act.put, stA, stB, stC]
  refine Abs.take_at (i := 8) (d := some 20) (v := ?_) rfl rfl (by kernel_rfl) (by kernel_rfl) (by kernel_rfl) (fun _ _ _ h => h) hG ⟨by rfl, fun w9 hw9 => Or.inl ?_⟩ ?_
  rotate_left
  · go_simp
    try with_reducible rfl
  simp only [Act.put, stA, stB, stC]
  refine Abs.take_at (i := 9) (d := some 21) (v := ?_) rfl rfl (by kernel_rfl) (by kernel_rfl) (by kernel_rfl) (fun _ _ _ h => h) hG ⟨by rfl, fun w9 hw9 => Or.inl ?_⟩ ?_
  rotate_left
  · go_simp
    try with_reducible rfl
  simp only [Act.put, stA, stB, stC]
  refine Abs.alloc4 (i := 10) (t := 24) (X := []) (W := W0) rfl (by kernel_rfl) (by rfl) hG (fun _ h => h) (fun w9 => ?_) (fun b_x hb_x hG => ?_)
  · go_simp
    try with_reducible rfl
  refine Abs.at_put (d := some 5) rfl ?_
  simp only [Act.put, stA, stB, stC]
  refine Abs.store4 (i := 11) (b := b_x) (ds := #[.int .u64 (lm mx 0 : Nat), .int .u64 (lm mx 1 : Nat), .int .u64 (lm mx 2 : Nat), .int .u64 (lm mx 3 : Nat)]) rfl (by kernel_rfl) (by rfl) (fun w9 => (((w9.setCell ⟨b_x, 0, none⟩ (.int .u64 (lm mx 0 : Nat))).setCell ⟨b_x, 1, none⟩ (.int .u64 (lm mx 1 : Nat))).setCell ⟨b_x, 2, none⟩ (.int .u64 (lm mx 2 : Nat))).setCell ⟨b_x, 3, none⟩ (.int .u64 (lm mx 3 : Nat))) (fun w9 h9 => ⟨?_, ?_, ?_⟩) (fun _ _ h k => Chg.keeps (Or.inr hb_x) h k) (good_chg [] W0) (fun hG => ?_)
  · have n0 := cell_of_has h9 0; have n1 := cell_of_has h9 1; have n2 := cell_of_has h9 2; have n3 := cell_of_has h9 3
    simp only [glA, glB, glC] at n0 n1 n2 n3
    have z0 := frozen_of_has h9 0; have z1 := frozen_of_has h9 1; have z2 := frozen_of_has h9 2; have z3 := frozen_of_has h9 3
    clear h9
    go_simp
    try with_reducible rfl
  · exact U4.put_x (x := fun _ => 0) h9 mx
  · exact Chg.put_x (Chg.refl _ _) (Or.inl (by simp)) mx
  refine Abs.at_put (d := none) rfl ?_
  simp only [Act.put, stA, stB, stC]
  refine Abs.take_at (i := 12) (d := some 6) (v := ?_) rfl rfl (by kernel_rfl) (by kernel_rfl) (by kernel_rfl) (fun _ _ _ h => h) hG ⟨by rfl, fun w9 hw9 => Or.inl ?_⟩ ?_
  rotate_left
  · go_simp
    try with_reducible rfl
  simp only [Act.put, stA, stB, stC]
  refine Abs.done (by kernel_rfl) (fun wx hx => NoPanic.normal ?_) _
  clear p0 Ax0 Ax1 Ax2 Ax3 
  obtain ⟨hA, hN⟩ := hx
  have l_x : R < b_x := Nat.lt_of_lt_of_le HR.out.lt hb_x
  have hN : U4 wx b_x 24 (lm mx) := hN
  replace HP := Lib.hid (HP.out.ch hA); replace HBA := Lib.hid (HBA.out.chg hA nmN); replace HR := Lib.hid (HR.out.chg hA nmN); replace HC := Lib.hid (HC.out.trans hA)
  have H_x := Lib.hid hN
  clear hA hN hb_x
  go_upto_region 4 with fail
  have p0 := HP.out.way
  obtain ⟨Ay0, Ay1, Ay2, Ay3⟩ := four4 fun _ => HBA.out.cy
  refine abs_region (B := Chg [] wx) (S := Chg [] wx) (by kernel_rfl) ((Chg.refl _ _).drew) ?_
  have hG := good_chg [] wx
  refine Abs.take_at (i := 0) (d := some 23) (v := ?_) rfl rfl (by kernel_rfl) (by kernel_rfl) (by kernel_rfl) (fun _ _ _ h => h) hG ⟨by rfl, fun w9 hw9 => Or.inl ?_⟩ ?_
  rotate_left
  · go_simp
    try with_reducible rfl
  simp only [Act.put, stA, stB, stC]
  refine Abs.take_at (i := 1) (d := some 24) (v := ?_) rfl rfl (by kernel_rfl) (by kernel_rfl) (by kernel_rfl) (fun _ _ _ h => h) hG ⟨by rfl, fun w9 hw9 => Or.inl ?_⟩ ?_
  rotate_left
  · go_simp
    try with_reducible rfl
  simp only [Act.put, stA, stB, stC]
  refine Abs.take_at (i := 2) (d := some 25) (v := ?_) rfl rfl (by kernel_rfl) (by kernel_rfl) (by kernel_rfl) (fun _ _ _ h => h) hG ⟨by rfl, fun w9 hw9 => Or.inl ?_⟩ ?_
  rotate_left
  · go_simp
    try with_reducible rfl
  simp only [Act.put, stA, stB, stC]
  refine Abs.take_at (i := 3) (d := some 26) (v := ?_) rfl rfl (by kernel_rfl) (by kernel_rfl) (by kernel_rfl) (fun _ _ _ h => h) hG ⟨by rfl, fun w9 hw9 => Or.inl ?_⟩ ?_
  rotate_left
  · replace p0 := hw9.cell p0 nmN
    go_simp
    try with_reducible rfl
  simp only [Act.put, stA, stB, stC]
  refine Abs.take_at (i := 4) (d := some 27) (v := ?_) rfl rfl (by kernel_rfl) (by kernel_rfl) (by kernel_rfl) (fun _ _ _ h => h) hG ⟨by rfl, fun w9 hw9 => Or.inl ?_⟩ ?_
  rotate_left
  · go_simp
    try with_reducible rfl
  simp only [Act.put, stA, stB, stC]
  refine Abs.take_at (i := 5) (d := some 28) (v := ?_) rfl rfl (by kernel_rfl) (by kernel_rfl) (by kernel_rfl) (fun _ _ _ h => h) hG ⟨by rfl, fun w9 hw9 => Or.inl ?_⟩ ?_
  rotate_left
  · replace Ay0 := hw9.cell Ay0 nmN; replace Ay1 := hw9.cell Ay1 nmN; replace Ay2 := hw9.cell Ay2 nmN; replace Ay3 := hw9.cell Ay3 nmN
    go_simp
    try with_reducible rfl
  simp only [Act.put, stA, stB, stC]
  refine Abs.take_at (i := 6) (d := some 29) (v := _) rfl rfl (by kernel_rfl) (by kernel_rfl) (by kernel_rfl) (fun _ _ _ h => h) hG ⟨by rfl, fun w9 hw9 => Or.inr ⟨_, _, ?_, C_y.out w9 (HP.out.2.chg hw9 nmN)⟩⟩ ?_
  · go_simp
    try with_reducible rfl
  simp only [Act.put, stA, stB, stC]
  refine Abs.take_at (i := 7) (d := some 22) (v := ?_) rfl rfl (by kernel_rfl) (by kernel_rfl) (by kernel_rfl) (fun _ _ _ h => h) hG ⟨by rfl, fun w9 hw9 => Or.inl ?_⟩ ?_
  rotate_left
  · go_simp
    try with_reducible rfl
  simp only [Act.put, stA, stB, stC]
  refine Abs.take_at (i := 8) (d := some 30) (v := ?_) rfl rfl (by kernel_rfl) (by kernel_rfl) (by kernel_rfl) (fun _ _ _ h => h) hG ⟨by rfl, fun w9 hw9 => Or.inl ?_⟩ ?_
  rotate_left
  · go_simp
    try with_reducible rfl
  simp only [Act.put, stA, stB, stC]
  refine Abs.take_at (i := 9) (d := some 31) (v := ?_) rfl rfl (by kernel_rfl) (by kernel_rfl) (by kernel_rfl) (fun _ _ _ h => h) hG ⟨by rfl, fun w9 hw9 => Or.inl ?_⟩ ?_
  rotate_left
  · go_simp
    try with_reducible rfl
  simp only [Act.put, stA, stB, stC]
  refine Abs.alloc4 (i := 10) (t := 24) (X := []) (W := wx) rfl (by kernel_rfl) (by rfl) hG (fun _ h => h) (fun w9 => ?_) (fun b_y hb_y hG => ?_)
  · go_simp
    try with_reducible rfl
  refine Abs.at_put (d := some 7) rfl ?_
  simp only [Act.put, stA, stB, stC]
  refine Abs.store4 (i := 11) (b := b_y) (ds := #[.int .u64 (lm my 0 : Nat), .int .u64 (lm my 1 : Nat), .int .u64 (lm my 2 : Nat), .int .u64 (lm my 3 : Nat)]) rfl (by kernel_rfl) (by rfl) (fun w9 => (((w9.setCell ⟨b_y, 0, none⟩ (.int .u64 (lm my 0 : Nat))).setCell ⟨b_y, 1, none⟩ (.int .u64 (lm my 1 : Nat))).setCell ⟨b_y, 2, none⟩ (.int .u64 (lm my 2 : Nat))).setCell ⟨b_y, 3, none⟩ (.int .u64 (lm my 3 : Nat))) (fun w9 h9 => ⟨?_, ?_, ?_⟩) (fun _ _ h k => Chg.keeps (Or.inr hb_y) h k) (good_chg [] wx) (fun hG => ?_)
  · have n0 := cell_of_has h9 0; have n1 := cell_of_has h9 1; have n2 := cell_of_has h9 2; have n3 := cell_of_has h9 3
    simp only [glA, glB, glC] at n0 n1 n2 n3
    have z0 := frozen_of_has h9 0; have z1 := frozen_of_has h9 1; have z2 := frozen_of_has h9 2; have z3 := frozen_of_has h9 3
    clear h9
    go_simp
    try with_reducible rfl
  · exact U4.put_x (x := fun _ => 0) h9 my
  · exact Chg.put_x (Chg.refl _ _) (Or.inl (by simp)) my
  refine Abs.at_put (d := none) rfl ?_
  simp only [Act.put, stA, stB, stC]
  refine Abs.take_at (i := 12) (d := some 8) (v := ?_) rfl rfl (by kernel_rfl) (by kernel_rfl) (by kernel_rfl) (fun _ _ _ h => h) hG ⟨by rfl, fun w9 hw9 => Or.inl ?_⟩ ?_
  rotate_left
  · go_simp
    try with_reducible rfl
  simp only [Act.put, stA, stB, stC]
  refine Abs.done (by kernel_rfl) (fun wx hx => NoPanic.normal ?_) _
  clear p0 Ay0 Ay1 Ay2 Ay3 
  obtain ⟨hA, hN⟩ := hx
  have l_y : b_x < b_y := Nat.lt_of_lt_of_le H_x.out.lt hb_y
  have hN : U4 wx b_y 24 (lm my) := hN
  replace HP := Lib.hid (HP.out.ch hA); replace HBA := Lib.hid (HBA.out.chg hA nmN); replace HR := Lib.hid (HR.out.chg hA nmN); replace HC := Lib.hid (HC.out.trans hA)
  replace H_x := Lib.hid (H_x.out.chg hA nmN)
  have H_y := Lib.hid hN
  clear hA hN hb_y
  go_upto_region 5 with fail
  obtain ⟨v_x_0, v_x_1, v_x_2, v_x_3⟩ := four4 fun _ => (H_x.out).cell
  obtain ⟨v_y_0, v_y_1, v_y_2, v_y_3⟩ := four4 fun _ => (H_y.out).cell
  have ho4 := HP.out.o4
  rw [HMo.out] at ho4
  obtain ⟨o0, o1, o2, o3⟩ := four4 fun _ => ho4.cell
  clear ho4
  have hRz := HR.out
  refine abs_region (B := Chg [R] wx) (S := fun w => Chg [R] wx w ∧ w.heap[R]? = some (.cells #[.int .u64 0, .int .u64 0, .int .u64 0, .int .u64 0, .int .u64 0, .int .u64 0, .int .u64 0, .int .u64 0, .int .u64 0, .int .u64 0, .int .u64 0, .int .u64 0] 66 (0, 0))) (by kernel_rfl) ⟨(Chg.refl _ _).drew, hRz⟩ ?_
  have hG := good_at [R] wx R (.cells #[.int .u64 0, .int .u64 0, .int .u64 0, .int .u64 0, .int .u64 0, .int .u64 0, .int .u64 0, .int .u64 0, .int .u64 0, .int .u64 0, .int .u64 0, .int .u64 0] 66 (0, 0))
  refine Abs.take_at (i := 0) (d := some 32) (v := ?_) rfl rfl (by kernel_rfl) (by kernel_rfl) (by kernel_rfl) (fun _ _ _ h => h) hG ⟨by rfl, fun w9 hw9 => Or.inl ?_⟩ ?_
  rotate_left
  · replace v_x_0 := hw9.cell v_x_0 (by simp; omega); replace v_x_1 := hw9.cell v_x_1 (by simp; omega); replace v_x_2 := hw9.cell v_x_2 (by simp; omega); replace v_x_3 := hw9.cell v_x_3 (by simp; omega)
    go_simp
    try with_reducible rfl
  simp only [Act.put, stA, stB, stC]
  refine Abs.take_at (i := 1) (d := some 33) (v := ?_) rfl rfl (by kernel_rfl) (by kernel_rfl) (by kernel_rfl) (fun _ _ _ h => h) hG ⟨by rfl, fun w9 hw9 => Or.inl ?_⟩ ?_
  rotate_left
  · replace v_y_0 := hw9.cell v_y_0 (by simp; omega); replace v_y_1 := hw9.cell v_y_1 (by simp; omega); replace v_y_2 := hw9.cell v_y_2 (by simp; omega); replace v_y_3 := hw9.cell v_y_3 (by simp; omega)
    go_simp
    try with_reducible rfl
  simp only [Act.put, stA, stB, stC]
  refine Abs.take_at (i := 2) (d := some 34) (v := ?_) rfl rfl (by kernel_rfl) (by kernel_rfl) (by kernel_rfl) (fun _ _ _ h => h) hG ⟨by rfl, fun w9 hw9 => Or.inl ?_⟩ ?_
  rotate_left
  · go_simp
    try with_reducible rfl
  simp only [Act.put, stA, stB, stC]
  refine Abs.take_at (i := 3) (d := some 35) (v := ?_) rfl rfl (by kernel_rfl) (by kernel_rfl) (by kernel_rfl) (fun _ _ _ h => h) hG ⟨by rfl, fun w9 hw9 => Or.inl ?_⟩ ?_
  rotate_left
  · go_simp
    try with_reducible rfl
  simp only [Act.put, stA, stB, stC]
  refine Abs.take_at (i := 4) (d := some 36) (v := ?_) rfl rfl (by kernel_rfl) (by kernel_rfl) (by kernel_rfl) (fun _ _ _ h => h) hG ⟨by rfl, fun w9 hw9 => Or.inl ?_⟩ ?_
  rotate_left
  · go_simp
    try with_reducible rfl
  simp only [Act.put, stA, stB, stC]
  refine Abs.take_at (i := 5) (d := some 37) (v := ?_) rfl rfl (by kernel_rfl) (by kernel_rfl) (by kernel_rfl) (fun _ _ _ h => h) hG ⟨by rfl, fun w9 hw9 => Or.inl ?_⟩ ?_
  rotate_left
  · replace o0 := hw9.cell o0 (by simp; omega); replace o1 := hw9.cell o1 (by simp; omega); replace o2 := hw9.cell o2 (by simp; omega); replace o3 := hw9.cell o3 (by simp; omega)
    go_simp
    try with_reducible rfl
  simp only [Act.put, stA, stB, stC]
  refine Abs.take_at (i := 6) (d := some 38) (v := ?_) rfl rfl (by kernel_rfl) (by kernel_rfl) (by kernel_rfl) (fun _ _ _ h => h) hG ⟨by rfl, fun w9 hw9 => Or.inl ?_⟩ ?_
  rotate_left
  · go_simp
    try with_reducible rfl
  simp only [Act.put, stA, stB, stC]
  refine Abs.store4 (i := 7) (b := R) (ds := #[.int .u64 (lm mx 0 : Nat), .int .u64 (lm mx 1 : Nat), .int .u64 (lm mx 2 : Nat), .int .u64 (lm mx 3 : Nat), .int .u64 (lm my 0 : Nat), .int .u64 (lm my 1 : Nat), .int .u64 (lm my 2 : Nat), .int .u64 (lm my 3 : Nat), .int .u64 (lm mo 0 : Nat), .int .u64 (lm mo 1 : Nat), .int .u64 (lm mo 2 : Nat), .int .u64 (lm mo 3 : Nat)]) rfl (by kernel_rfl) (by rfl) (fun w9 => ((((((((((((w9.setCell ⟨R, 0, none⟩ (.int .u64 (lm mx 0 : Nat))).setCell ⟨R, 1, none⟩ (.int .u64 (lm mx 1 : Nat))).setCell ⟨R, 2, none⟩ (.int .u64 (lm mx 2 : Nat))).setCell ⟨R, 3, none⟩ (.int .u64 (lm mx 3 : Nat))).setCell ⟨R, 4, none⟩ (.int .u64 (lm my 0 : Nat))).setCell ⟨R, 5, none⟩ (.int .u64 (lm my 1 : Nat))).setCell ⟨R, 6, none⟩ (.int .u64 (lm my 2 : Nat))).setCell ⟨R, 7, none⟩ (.int .u64 (lm my 3 : Nat))).setCell ⟨R, 8, none⟩ (.int .u64 (lm mo 0 : Nat))).setCell ⟨R, 9, none⟩ (.int .u64 (lm mo 1 : Nat))).setCell ⟨R, 10, none⟩ (.int .u64 (lm mo 2 : Nat))).setCell ⟨R, 11, none⟩ (.int .u64 (lm mo 3 : Nat)))) (fun w9 h9 => ⟨?_, ?_, ?_⟩) (fun _ _ h k => Chg.keeps (Or.inl (by simp)) h k) (good_chg [R] wx) (fun hG => ?_)
  · have n0 := cell_of_has h9 0; have n1 := cell_of_has h9 1; have n2 := cell_of_has h9 2; have n3 := cell_of_has h9 3; have n4 := cell_of_has h9 4; have n5 := cell_of_has h9 5; have n6 := cell_of_has h9 6; have n7 := cell_of_has h9 7; have n8 := cell_of_has h9 8; have n9 := cell_of_has h9 9; have n10 := cell_of_has h9 10; have n11 := cell_of_has h9 11
    simp only [glA, glB, glC] at n0 n1 n2 n3 n4 n5 n6 n7 n8 n9 n10 n11
    have nz0 := frozen_of_has h9 0; have nz1 := frozen_of_has h9 1; have nz2 := frozen_of_has h9 2; have nz3 := frozen_of_has h9 3; have nz4 := frozen_of_has h9 4; have nz5 := frozen_of_has h9 5; have nz6 := frozen_of_has h9 6; have nz7 := frozen_of_has h9 7; have nz8 := frozen_of_has h9 8; have nz9 := frozen_of_has h9 9; have nz10 := frozen_of_has h9 10; have nz11 := frozen_of_has h9 11
    clear h9
    go_simp
    try with_reducible rfl
  · exact U12.put (x := 0) (y := 0) (z := 0) (by unfold U12; rw [lm_zero, lm_zero, lm_zero, lm_zero]; exact h9) mx my mo
  · exact Chg.put12 (Chg.refl _ _) (Or.inl (by simp)) mx my mo
  refine Abs.at_put (d := none) rfl ?_
  simp only [Act.put, stA, stB, stC]
  refine Abs.done (by kernel_rfl) (fun wx hx => NoPanic.normal ?_) _
  clear v_x_0 v_y_0 o0 v_x_1 v_y_1 o1 v_x_2 v_y_2 o2 v_x_3 v_y_3 o3
  obtain ⟨hA, hN⟩ := hx
  have hCF : Chg [] w wx := HC.out.trans_new hA (by simp; omega)
  clear hA HC HP HR
  have g0 := cell_of_has hN 0; have g1 := cell_of_has hN 1; have g2 := cell_of_has hN 2; have g3 := cell_of_has hN 3; have g4 := cell_of_has hN 4; have g5 := cell_of_has hN 5; have g6 := cell_of_has hN 6; have g7 := cell_of_has hN 7; have g8 := cell_of_has hN 8; have g9 := cell_of_has hN 9; have g10 := cell_of_has hN 10; have g11 := cell_of_has hN 11
  simp only [glA, glB, glC] at g0 g1 g2 g3 g4 g5 g6 g7 g8 g9 g10 g11
  go_wp2_with fail
  exact bodyPost_ret (v := .agg #[.int .u64 (lm mx 0 : Nat), .int .u64 (lm mx 1 : Nat), .int .u64 (lm mx 2 : Nat), .int .u64 (lm mx 3 : Nat), .int .u64 (lm my 0 : Nat), .int .u64 (lm my 1 : Nat), .int .u64 (lm my 2 : Nat), .int .u64 (lm my 3 : Nat), .int .u64 (lm mo 0 : Nat), .int .u64 (lm mo 1 : Nat), .int .u64 (lm mo 2 : Nat), .int .u64 (lm mo 3 : Nat)]) (by simp [results, Try.results34, go_sem, g0, g1, g2, g3, g4, g5, g6, g7, g8, g9, g10, g11]) rfl ⟨rfl, hCF⟩

end Go.Proofs.Ytplldbmjdnikeaa
