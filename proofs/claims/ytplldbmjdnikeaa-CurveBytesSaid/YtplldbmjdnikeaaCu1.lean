import Derived.Test.YtplldbmjdnikeaaFi2
import Derived.Test.YtplldbmjdnikeaaGr
import Derived.Test.YtplldbmjdnikeaaAn

/- The curve's base field in Montgomery's way; points with a denominator; plane's mul, add, sub over Fin PP. -/
namespace Go.Proofs.Ytplldbmjdnikeaa
set_option linter.unusedVariables false
set_option linter.unusedSimpArgs false
open Go.RowKit

/-- A number of the field, with R. -/
def mu (x : Fin PP) : Nat := x.val * B6 ^ 4 % PP
theorem mu_lt (x : Fin PP) : mu x < PP := Nat.mod_lt _ (by decide)
theorem mu_lt4 (x : Fin PP) : mu x < B6 ^ 4 := Nat.lt_trans (mu_lt x) way_P.lt
theorem mu_back (x : Fin PP) : mu x * riP % PP = x.val := by
  unfold mu
  rw [way_P.mf, Nat.mod_eq_of_lt x.isLt]
theorem mu_inj {x y : Fin PP} (h : mu x = mu y) : x = y := Fin.ext (by rw [← mu_back x, ← mu_back y, h])
theorem mu_zero : mu 0 = 0 := by unfold mu; rw [show ((0 : Fin PP).val) = 0 from rfl, Nat.zero_mul, Nat.zero_mod]
theorem mu_eq0 (x : Fin PP) : (mu x = 0) ↔ x = 0 := ⟨fun h => mu_inj (h.trans mu_zero.symm), fun h => by rw [h, mu_zero]⟩
theorem mu_mul (x y : Fin PP) : mu x * mu y * riP % PP = mu (x * y) := by
  unfold mu
  rw [way_P.mm, Fin.val_mul, Nat.mod_mul_mod]
theorem mu_add (x y : Fin PP) : (mu x + mu y) % PP = mu (x + y) := by
  unfold mu
  rw [Fin.val_add, Nat.mod_mul_mod, ← Nat.add_mod, Nat.add_mul]
theorem mu_sub (x y : Fin PP) : (mu x + PP - mu y) % PP = mu (x - y) := by
  have h : x = (x - y) + y := by grind -lia -linarith (ringSteps := 200000)
  have h2 := mu_add (x - y) y
  rw [← h] at h2
  have h3 := mu_lt x
  have h4 := mu_lt y
  have h5 := mu_lt (x - y)
  rw [← h2]
  generalize mu (x - y) = d at *
  generalize mu y = b at *
  generalize mu x = c at *
  by_cases hlt : d + b < PP
  · rw [Nat.mod_eq_of_lt hlt, show d + b + PP - b = d + PP by omega, Nat.add_mod_right, Nat.mod_eq_of_lt h5]
  · have e : (d + b) % PP = d + b - PP := by rw [Nat.mod_eq_sub_mod (by omega), Nat.mod_eq_of_lt (by omega)]
    rw [e, show d + b - PP + PP - b = d by omega, Nat.mod_eq_of_lt h5]

section
variable {l a : Nat}
theorem pl_mul {x y : Fin PP} {u v t : Nat} (hu : mu x = u) (hv : mu y = v) (ht : mu (x * y) = t) (w : World) (hP : Pl w l a PP vP) :
    Calls Try.prog 70 #[.pointer (some ⟨l, 0, none⟩), .agg #[.int .u64 (lm u 0 : Nat), .int .u64 (lm u 1 : Nat), .int .u64 (lm u 2 : Nat), .int .u64 (lm u 3 : Nat)], .agg #[.int .u64 (lm v 0 : Nat), .int .u64 (lm v 1 : Nat), .int .u64 (lm v 2 : Nat), .int .u64 (lm v 3 : Nat)]] w fun e w' => e = .returned (.agg #[.int .u64 (lm t 0 : Nat), .int .u64 (lm t 1 : Nat), .int .u64 (lm t 2 : Nat), .int .u64 (lm t 3 : Nat)]) ∧ Chg [] w w' := by
  subst hu; subst hv; subst ht
  rw [← mu_mul]
  exact plane_mul way_P (mu_lt x) (mu_lt y) w hP
theorem pl_add {x y : Fin PP} {u v t : Nat} (hu : mu x = u) (hv : mu y = v) (ht : mu (x + y) = t) (w : World) (hP : Pl w l a PP vP) :
    Calls Try.prog 72 #[.pointer (some ⟨l, 0, none⟩), .agg #[.int .u64 (lm u 0 : Nat), .int .u64 (lm u 1 : Nat), .int .u64 (lm u 2 : Nat), .int .u64 (lm u 3 : Nat)], .agg #[.int .u64 (lm v 0 : Nat), .int .u64 (lm v 1 : Nat), .int .u64 (lm v 2 : Nat), .int .u64 (lm v 3 : Nat)]] w fun e w' => e = .returned (.agg #[.int .u64 (lm t 0 : Nat), .int .u64 (lm t 1 : Nat), .int .u64 (lm t 2 : Nat), .int .u64 (lm t 3 : Nat)]) ∧ Chg [] w w' := by
  subst hu; subst hv; subst ht
  rw [← mu_add]
  exact plane_add way_P.lt (mu_lt x) (mu_lt y) w hP.m4
theorem pl_sub {x y : Fin PP} {u v t : Nat} (hu : mu x = u) (hv : mu y = v) (ht : mu (x - y) = t) (w : World) (hP : Pl w l a PP vP) :
    Calls Try.prog 71 #[.pointer (some ⟨l, 0, none⟩), .agg #[.int .u64 (lm u 0 : Nat), .int .u64 (lm u 1 : Nat), .int .u64 (lm u 2 : Nat), .int .u64 (lm u 3 : Nat)], .agg #[.int .u64 (lm v 0 : Nat), .int .u64 (lm v 1 : Nat), .int .u64 (lm v 2 : Nat), .int .u64 (lm v 3 : Nat)]] w fun e w' => e = .returned (.agg #[.int .u64 (lm t 0 : Nat), .int .u64 (lm t 1 : Nat), .int .u64 (lm t 2 : Nat), .int .u64 (lm t 3 : Nat)]) ∧ Chg [] w w' := by
  subst hu; subst hv; subst ht
  rw [← mu_sub]
  exact plane_sub way_P.lt (mu_lt x) (mu_lt y) w hP.m4
theorem pl_eq0 {x : Fin PP} {u : Nat} (hu : mu x = u) (c : Bool) (hc : decide (x = 0) = c) (w : World) :
    (Op.equalIn 10000 24 (.agg #[.int .u64 (lm u 0 : Nat), .int .u64 (lm u 1 : Nat), .int .u64 (lm u 2 : Nat), .int .u64 (lm u 3 : Nat)]) (.agg #[.int .u64 0, .int .u64 0, .int .u64 0, .int .u64 0])).run Try.prog w = .ok c w := by
  subst hu
  rw [num_eq0 (mu_lt4 x) w, ← hc]
  congr 1
  exact decide_eq_decide.2 (mu_eq0 x)
end

/-- A point X / Z^2, Y / Z^3. -/
structure J where
  x : Fin PP
  y : Fin PP
  z : Fin PP
/-- Its cells. -/
def jv (p : J) : Array Value := #[.int .u64 (lm (mu p.x) 0 : Nat), .int .u64 (lm (mu p.x) 1 : Nat), .int .u64 (lm (mu p.x) 2 : Nat), .int .u64 (lm (mu p.x) 3 : Nat), .int .u64 (lm (mu p.y) 0 : Nat), .int .u64 (lm (mu p.y) 1 : Nat), .int .u64 (lm (mu p.y) 2 : Nat), .int .u64 (lm (mu p.y) 3 : Nat), .int .u64 (lm (mu p.z) 0 : Nat), .int .u64 (lm (mu p.z) 1 : Nat), .int .u64 (lm (mu p.z) 2 : Nat), .int .u64 (lm (mu p.z) 3 : Nat)]
/-- Block b holds three numbers. -/
def U12 (w : World) (b : Nat) (t : TypeId) (x y z : Nat) : Prop := w.heap[b]? = some (.cells #[.int .u64 (lm x 0 : Nat), .int .u64 (lm x 1 : Nat), .int .u64 (lm x 2 : Nat), .int .u64 (lm x 3 : Nat), .int .u64 (lm y 0 : Nat), .int .u64 (lm y 1 : Nat), .int .u64 (lm y 2 : Nat), .int .u64 (lm y 3 : Nat), .int .u64 (lm z 0 : Nat), .int .u64 (lm z 1 : Nat), .int .u64 (lm z 2 : Nat), .int .u64 (lm z 3 : Nat)] t (0, 0))
theorem U12.cx {w : World} {b : Nat} {t : TypeId} {x y z : Nat} (h : U12 w b t x y z) {k : Nat} (hk : k < 4) : w.cell? ⟨b, k, none⟩ = some (.int .u64 (lm x k : Nat)) := by
  rw [cell_of_has h]
  have : k = 0 ∨ k = 1 ∨ k = 2 ∨ k = 3 := by omega
  rcases this with rfl | rfl | rfl | rfl <;> rfl
theorem U12.cy {w : World} {b : Nat} {t : TypeId} {x y z : Nat} (h : U12 w b t x y z) {k : Nat} (hk : k < 4) : w.cell? ⟨b, 4 + k, none⟩ = some (.int .u64 (lm y k : Nat)) := by
  rw [cell_of_has h]
  have : k = 0 ∨ k = 1 ∨ k = 2 ∨ k = 3 := by omega
  rcases this with rfl | rfl | rfl | rfl <;> rfl
theorem U12.cz {w : World} {b : Nat} {t : TypeId} {x y z : Nat} (h : U12 w b t x y z) {k : Nat} (hk : k < 4) : w.cell? ⟨b, 8 + k, none⟩ = some (.int .u64 (lm z k : Nat)) := by
  rw [cell_of_has h]
  have : k = 0 ∨ k = 1 ∨ k = 2 ∨ k = 3 := by omega
  rcases this with rfl | rfl | rfl | rfl <;> rfl
theorem U12.fz {w : World} {b : Nat} {t : TypeId} {x y z : Nat} (h : U12 w b t x y z) (k : Nat) : w.frozen? ⟨b, k, none⟩ = false := frozen_of_has h k
theorem U12.chg {S : List Nat} {w w' : World} {b : Nat} {t : TypeId} {x y z : Nat} (h : U12 w b t x y z) (hc : Chg S w w') (hs : b ∉ S) : U12 w' b t x y z := hc.has h hs
theorem U12.lt {w : World} {b : Nat} {t : TypeId} {x y z : Nat} (h : U12 w b t x y z) : b < w.heap.size := lt_of_has h
/-- Block b holds three zeros. -/
def Z12 (w : World) (b : Nat) (t : TypeId) : Prop := w.heap[b]? = some (.cells #[.int .u64 0, .int .u64 0, .int .u64 0, .int .u64 0, .int .u64 0, .int .u64 0, .int .u64 0, .int .u64 0, .int .u64 0, .int .u64 0, .int .u64 0, .int .u64 0] t (0, 0))
theorem Z12.chg {S : List Nat} {w w' : World} {b : Nat} {t : TypeId} (h : Z12 w b t) (hc : Chg S w w') (hs : b ∉ S) : Z12 w' b t := hc.has h hs
theorem Z12.lt {w : World} {b : Nat} {t : TypeId} (h : Z12 w b t) : b < w.heap.size := lt_of_has h
theorem Z12.u12 {w : World} {b : Nat} {t : TypeId} (h : Z12 w b t) : U12 w b t 0 0 0 := by
  unfold U12; rw [lm_zero, lm_zero, lm_zero, lm_zero]; exact h
theorem Pl.chS {S : List Nat} {w w' : World} {f a m v : Nat} (h : Pl w f a m v) (hc : Chg S w w') (hs : f ∉ S) (hs2 : a ∉ S) : Pl w' f a m v := ⟨hc.has h.1 hs, h.2.chg hc hs2⟩
/-- Twelve stores. -/
def put12 (w : World) (b : Nat) (x y z : Nat) : World :=
  ((((((((((((w.setCell ⟨b, 0, none⟩ (.int .u64 (lm x 0 : Nat))).setCell ⟨b, 1, none⟩ (.int .u64 (lm x 1 : Nat))).setCell ⟨b, 2, none⟩ (.int .u64 (lm x 2 : Nat))).setCell ⟨b, 3, none⟩ (.int .u64 (lm x 3 : Nat))).setCell ⟨b, 4, none⟩ (.int .u64 (lm y 0 : Nat))).setCell ⟨b, 5, none⟩ (.int .u64 (lm y 1 : Nat))).setCell ⟨b, 6, none⟩ (.int .u64 (lm y 2 : Nat))).setCell ⟨b, 7, none⟩ (.int .u64 (lm y 3 : Nat))).setCell ⟨b, 8, none⟩ (.int .u64 (lm z 0 : Nat))).setCell ⟨b, 9, none⟩ (.int .u64 (lm z 1 : Nat))).setCell ⟨b, 10, none⟩ (.int .u64 (lm z 2 : Nat))).setCell ⟨b, 11, none⟩ (.int .u64 (lm z 3 : Nat)))
set_option maxHeartbeats 1000000 in
theorem U12.put {w : World} {b : Nat} {t : TypeId} {x y z : Nat} (h : U12 w b t x y z) (x' y' z' : Nat) : U12 (put12 w b x' y' z') b t x' y' z' := by
  unfold put12
  have h0 := has_set h 0 (.int .u64 (lm x' 0 : Nat))
  simp only [List.setIfInBounds_toArray, List.set_cons_zero, List.set_cons_succ] at h0
  have h1 := has_set h0 1 (.int .u64 (lm x' 1 : Nat))
  simp only [List.setIfInBounds_toArray, List.set_cons_zero, List.set_cons_succ] at h1
  have h2 := has_set h1 2 (.int .u64 (lm x' 2 : Nat))
  simp only [List.setIfInBounds_toArray, List.set_cons_zero, List.set_cons_succ] at h2
  have h3 := has_set h2 3 (.int .u64 (lm x' 3 : Nat))
  simp only [List.setIfInBounds_toArray, List.set_cons_zero, List.set_cons_succ] at h3
  have h4 := has_set h3 4 (.int .u64 (lm y' 0 : Nat))
  simp only [List.setIfInBounds_toArray, List.set_cons_zero, List.set_cons_succ] at h4
  have h5 := has_set h4 5 (.int .u64 (lm y' 1 : Nat))
  simp only [List.setIfInBounds_toArray, List.set_cons_zero, List.set_cons_succ] at h5
  have h6 := has_set h5 6 (.int .u64 (lm y' 2 : Nat))
  simp only [List.setIfInBounds_toArray, List.set_cons_zero, List.set_cons_succ] at h6
  have h7 := has_set h6 7 (.int .u64 (lm y' 3 : Nat))
  simp only [List.setIfInBounds_toArray, List.set_cons_zero, List.set_cons_succ] at h7
  have h8 := has_set h7 8 (.int .u64 (lm z' 0 : Nat))
  simp only [List.setIfInBounds_toArray, List.set_cons_zero, List.set_cons_succ] at h8
  have h9 := has_set h8 9 (.int .u64 (lm z' 1 : Nat))
  simp only [List.setIfInBounds_toArray, List.set_cons_zero, List.set_cons_succ] at h9
  have h10 := has_set h9 10 (.int .u64 (lm z' 2 : Nat))
  simp only [List.setIfInBounds_toArray, List.set_cons_zero, List.set_cons_succ] at h10
  have h11 := has_set h10 11 (.int .u64 (lm z' 3 : Nat))
  simp only [List.setIfInBounds_toArray, List.set_cons_zero, List.set_cons_succ] at h11
  exact h11
theorem Chg.put12 {S : List Nat} {a w : World} (h : Chg S a w) {b : Nat} (hb : b ∈ S ∨ a.heap.size ≤ b) (x y z : Nat) : Chg S a (Go.Proofs.Ytplldbmjdnikeaa.put12 w b x y z) :=
  ((((((((((((h.setCell hb _).setCell hb _).setCell hb _).setCell hb _).setCell hb _).setCell hb _).setCell hb _).setCell hb _).setCell hb _).setCell hb _).setCell hb _).setCell hb _)

end Go.Proofs.Ytplldbmjdnikeaa

/- The walk of curve.plane.twice. Printed by twice.py, slp.py. -/
namespace Go.Proofs.Ytplldbmjdnikeaa
set_option linter.unusedVariables false
set_option linter.unusedSimpArgs false
open Go.RowKit

/-- A point twice, by the tangent. -/
def jtwN (p : J) : J :=
  let y2 := p.y * p.y
  let s0 := p.x * y2
  let s1 := s0 + s0
  let s := s1 + s1
  let x2 := p.x * p.x
  let m := x2 + x2 + x2
  let x := m * m - (s + s)
  let y40 := y2 * y2
  let y41 := y40 + y40
  let y4 := y41 + y41
  let y := m * (s - x) - (y4 + y4)
  let z := p.y * p.z
  ⟨x, y, z + z⟩
def jtw (p : J) : J := if p.z = 0 ∨ p.y = 0 then ⟨0, 0, 0⟩ else jtwN p

set_option maxRecDepth 100000 in
set_option maxHeartbeats 8000000 in
theorem plane_twice_n {l a : Nat} (p : J) (hz : ¬ p.z = 0) (hy : ¬ p.y = 0) (w : World) (hP : Pl w l a PP vP) :
    Calls Try.prog 50 #[.pointer (some ⟨l, 0, none⟩), .agg (jv p)] w fun e w' =>
    e = .returned (.agg (jv (jtwN p))) ∧ Chg [] w w' := by

  obtain ⟨Axv, hv_Ax⟩ : ∃ v, mu p.x = v := ⟨_, rfl⟩
  obtain ⟨Ayv, hv_Ay⟩ : ∃ v, mu p.y = v := ⟨_, rfl⟩
  obtain ⟨Azv, hv_Az⟩ : ∃ v, mu p.z = v := ⟨_, rfl⟩
  obtain ⟨e_y2, he_y2⟩ : ∃ e, p.y * p.y = e := ⟨_, rfl⟩
  obtain ⟨v_y2, hv_y2⟩ : ∃ v, mu e_y2 = v := ⟨_, rfl⟩
  obtain ⟨e_s0, he_s0⟩ : ∃ e, p.x * e_y2 = e := ⟨_, rfl⟩
  obtain ⟨v_s0, hv_s0⟩ : ∃ v, mu e_s0 = v := ⟨_, rfl⟩
  obtain ⟨e_s1, he_s1⟩ : ∃ e, e_s0 + e_s0 = e := ⟨_, rfl⟩
  obtain ⟨v_s1, hv_s1⟩ : ∃ v, mu e_s1 = v := ⟨_, rfl⟩
  obtain ⟨e_s, he_s⟩ : ∃ e, e_s1 + e_s1 = e := ⟨_, rfl⟩
  obtain ⟨v_s, hv_s⟩ : ∃ v, mu e_s = v := ⟨_, rfl⟩
  obtain ⟨e_x2, he_x2⟩ : ∃ e, p.x * p.x = e := ⟨_, rfl⟩
  obtain ⟨v_x2, hv_x2⟩ : ∃ v, mu e_x2 = v := ⟨_, rfl⟩
  obtain ⟨e_x22, he_x22⟩ : ∃ e, e_x2 + e_x2 = e := ⟨_, rfl⟩
  obtain ⟨v_x22, hv_x22⟩ : ∃ v, mu e_x22 = v := ⟨_, rfl⟩
  obtain ⟨e_m, he_m⟩ : ∃ e, e_x22 + e_x2 = e := ⟨_, rfl⟩
  obtain ⟨v_m, hv_m⟩ : ∃ v, mu e_m = v := ⟨_, rfl⟩
  obtain ⟨e_mm, he_mm⟩ : ∃ e, e_m * e_m = e := ⟨_, rfl⟩
  obtain ⟨v_mm, hv_mm⟩ : ∃ v, mu e_mm = v := ⟨_, rfl⟩
  obtain ⟨e_ss, he_ss⟩ : ∃ e, e_s + e_s = e := ⟨_, rfl⟩
  obtain ⟨v_ss, hv_ss⟩ : ∃ v, mu e_ss = v := ⟨_, rfl⟩
  obtain ⟨e_x, he_x⟩ : ∃ e, e_mm - e_ss = e := ⟨_, rfl⟩
  obtain ⟨v_x, hv_x⟩ : ∃ v, mu e_x = v := ⟨_, rfl⟩
  obtain ⟨e_y40, he_y40⟩ : ∃ e, e_y2 * e_y2 = e := ⟨_, rfl⟩
  obtain ⟨v_y40, hv_y40⟩ : ∃ v, mu e_y40 = v := ⟨_, rfl⟩
  obtain ⟨e_y41, he_y41⟩ : ∃ e, e_y40 + e_y40 = e := ⟨_, rfl⟩
  obtain ⟨v_y41, hv_y41⟩ : ∃ v, mu e_y41 = v := ⟨_, rfl⟩
  obtain ⟨e_y4, he_y4⟩ : ∃ e, e_y41 + e_y41 = e := ⟨_, rfl⟩
  obtain ⟨v_y4, hv_y4⟩ : ∃ v, mu e_y4 = v := ⟨_, rfl⟩
  obtain ⟨e_sx, he_sx⟩ : ∃ e, e_s - e_x = e := ⟨_, rfl⟩
  obtain ⟨v_sx, hv_sx⟩ : ∃ v, mu e_sx = v := ⟨_, rfl⟩
  obtain ⟨e_msx, he_msx⟩ : ∃ e, e_m * e_sx = e := ⟨_, rfl⟩
  obtain ⟨v_msx, hv_msx⟩ : ∃ v, mu e_msx = v := ⟨_, rfl⟩
  obtain ⟨e_y44, he_y44⟩ : ∃ e, e_y4 + e_y4 = e := ⟨_, rfl⟩
  obtain ⟨v_y44, hv_y44⟩ : ∃ v, mu e_y44 = v := ⟨_, rfl⟩
  obtain ⟨e_y, he_y⟩ : ∃ e, e_msx - e_y44 = e := ⟨_, rfl⟩
  obtain ⟨v_y, hv_y⟩ : ∃ v, mu e_y = v := ⟨_, rfl⟩
  obtain ⟨e_z0, he_z0⟩ : ∃ e, p.y * p.z = e := ⟨_, rfl⟩
  obtain ⟨v_z0, hv_z0⟩ : ∃ v, mu e_z0 = v := ⟨_, rfl⟩
  obtain ⟨e_z, he_z⟩ : ∃ e, e_z0 + e_z0 = e := ⟨_, rfl⟩
  obtain ⟨v_z, hv_z⟩ : ∃ v, mu e_z = v := ⟨_, rfl⟩
  have C_y2 := Lib.hid (fun w (hP : Pl w l a PP vP) => pl_mul (l := l) (a := a) (t := v_y2) hv_Ay hv_Ay (by rw [he_y2]; exact hv_y2) w hP)
  have C_s0 := Lib.hid (fun w (hP : Pl w l a PP vP) => pl_mul (l := l) (a := a) (t := v_s0) hv_Ax hv_y2 (by rw [he_s0]; exact hv_s0) w hP)
  have C_s1 := Lib.hid (fun w (hP : Pl w l a PP vP) => pl_add (l := l) (a := a) (t := v_s1) hv_s0 hv_s0 (by rw [he_s1]; exact hv_s1) w hP)
  have C_s := Lib.hid (fun w (hP : Pl w l a PP vP) => pl_add (l := l) (a := a) (t := v_s) hv_s1 hv_s1 (by rw [he_s]; exact hv_s) w hP)
  have C_x2 := Lib.hid (fun w (hP : Pl w l a PP vP) => pl_mul (l := l) (a := a) (t := v_x2) hv_Ax hv_Ax (by rw [he_x2]; exact hv_x2) w hP)
  have C_x22 := Lib.hid (fun w (hP : Pl w l a PP vP) => pl_add (l := l) (a := a) (t := v_x22) hv_x2 hv_x2 (by rw [he_x22]; exact hv_x22) w hP)
  have C_m := Lib.hid (fun w (hP : Pl w l a PP vP) => pl_add (l := l) (a := a) (t := v_m) hv_x22 hv_x2 (by rw [he_m]; exact hv_m) w hP)
  have C_mm := Lib.hid (fun w (hP : Pl w l a PP vP) => pl_mul (l := l) (a := a) (t := v_mm) hv_m hv_m (by rw [he_mm]; exact hv_mm) w hP)
  have C_ss := Lib.hid (fun w (hP : Pl w l a PP vP) => pl_add (l := l) (a := a) (t := v_ss) hv_s hv_s (by rw [he_ss]; exact hv_ss) w hP)
  have C_x := Lib.hid (fun w (hP : Pl w l a PP vP) => pl_sub (l := l) (a := a) (t := v_x) hv_mm hv_ss (by rw [he_x]; exact hv_x) w hP)
  have C_y40 := Lib.hid (fun w (hP : Pl w l a PP vP) => pl_mul (l := l) (a := a) (t := v_y40) hv_y2 hv_y2 (by rw [he_y40]; exact hv_y40) w hP)
  have C_y41 := Lib.hid (fun w (hP : Pl w l a PP vP) => pl_add (l := l) (a := a) (t := v_y41) hv_y40 hv_y40 (by rw [he_y41]; exact hv_y41) w hP)
  have C_y4 := Lib.hid (fun w (hP : Pl w l a PP vP) => pl_add (l := l) (a := a) (t := v_y4) hv_y41 hv_y41 (by rw [he_y4]; exact hv_y4) w hP)
  have C_sx := Lib.hid (fun w (hP : Pl w l a PP vP) => pl_sub (l := l) (a := a) (t := v_sx) hv_s hv_x (by rw [he_sx]; exact hv_sx) w hP)
  have C_msx := Lib.hid (fun w (hP : Pl w l a PP vP) => pl_mul (l := l) (a := a) (t := v_msx) hv_m hv_sx (by rw [he_msx]; exact hv_msx) w hP)
  have C_y44 := Lib.hid (fun w (hP : Pl w l a PP vP) => pl_add (l := l) (a := a) (t := v_y44) hv_y4 hv_y4 (by rw [he_y44]; exact hv_y44) w hP)
  have C_y := Lib.hid (fun w (hP : Pl w l a PP vP) => pl_sub (l := l) (a := a) (t := v_y) hv_msx hv_y44 (by rw [he_y]; exact hv_y) w hP)
  have C_z0 := Lib.hid (fun w (hP : Pl w l a PP vP) => pl_mul (l := l) (a := a) (t := v_z0) hv_Ay hv_Az (by rw [he_z0]; exact hv_z0) w hP)
  have C_z := Lib.hid (fun w (hP : Pl w l a PP vP) => pl_add (l := l) (a := a) (t := v_z) hv_z0 hv_z0 (by rw [he_z]; exact hv_z) w hP)
  have q1 := fun w => pl_eq0 hv_Az false (by simpa using hz) w
  have q2 := fun w => pl_eq0 hv_Ay false (by simpa using hy) w
  unfold jv
  have hres : jtwN p = ⟨e_x, e_y, e_z⟩ := by
    subst he_z; subst he_z0; subst he_y; subst he_y44; subst he_msx; subst he_sx; subst he_y4; subst he_y41; subst he_y40; subst he_x; subst he_ss; subst he_mm; subst he_m; subst he_x22; subst he_x2; subst he_s; subst he_s1; subst he_s0; subst he_y2
    rfl
  rw [hres]
  clear hres
  rw [show (J.mk e_x e_y e_z).x = e_x from rfl, show (J.mk e_x e_y e_z).y = e_y from rfl, show (J.mk e_x e_y e_z).z = e_z from rfl, hv_x, hv_y, hv_z]
  rw [hv_Ax, hv_Ay, hv_Az]
  obtain ⟨W0, hW0⟩ : ∃ W0, (w.alloc (.cells #[.int .u64 (lm Axv 0 : Nat), .int .u64 (lm Axv 1 : Nat), .int .u64 (lm Axv 2 : Nat), .int .u64 (lm Axv 3 : Nat), .int .u64 (lm Ayv 0 : Nat), .int .u64 (lm Ayv 1 : Nat), .int .u64 (lm Ayv 2 : Nat), .int .u64 (lm Ayv 3 : Nat), .int .u64 (lm Azv 0 : Nat), .int .u64 (lm Azv 1 : Nat), .int .u64 (lm Azv 2 : Nat), .int .u64 (lm Azv 3 : Nat)] 66)).alloc (.cells #[.int .u64 0, .int .u64 0, .int .u64 0, .int .u64 0, .int .u64 0, .int .u64 0, .int .u64 0, .int .u64 0, .int .u64 0, .int .u64 0, .int .u64 0, .int .u64 0] 66) = W0 := ⟨_, rfl⟩
  have hBA : U12 W0 (w.heap.size) 66 Axv Ayv Azv := by rw [← hW0]; exact has_alloc (has_alloc_new _ _)
  have hR : Z12 W0 (w.heap.size + 1) 66 := by rw [← hW0]; exact has_alloc_at (by simp)
  have hC : Chg [] w W0 := by rw [← hW0]; exact ((Chg.refl _ _).alloc _).alloc _
  have hlP : l < w.heap.size := lt_of_has hP.1
  have haP : a < w.heap.size := lt_of_has hP.2
  replace hP := hP.ch hC
  have HP := Lib.hid hP; have HC := Lib.hid hC; have HR := Lib.hid hR
  have HBA := Lib.hid hBA
  clear hP hC hR hBA
  clear he_y2 hv_y2 he_s0 hv_s0 he_s1 hv_s1 he_s hv_s he_x2 hv_x2 he_x22 hv_x22 he_m hv_m he_mm hv_mm he_ss hv_ss he_x hv_x he_y40 hv_y40 he_y41 hv_y41 he_y4 hv_y4 he_sx hv_sx he_msx hv_msx he_y44 hv_y44 he_y hv_y he_z0 hv_z0 he_z hv_z hv_Ax hv_Ay hv_Az hz hy
  have hbA := HBA.out
  obtain ⟨Az0, Az1, Az2, Az3⟩ := four4 fun _ => hbA.cz; obtain ⟨Ay0, Ay1, Ay2, Ay3⟩ := four4 fun _ => hbA.cy
  clear hbA
  go_enter Try.func50, Try.ntmps50
  go_upto_region 3 with fail
  try rw [hW0]
  clear hW0
  obtain ⟨P, hP⟩ : ∃ P, w.heap.size = P := ⟨_, rfl⟩
  rw [hP] at HBA HR hlP haP ⊢
  obtain ⟨R, hR⟩ : ∃ R, P + 1 = R := ⟨_, rfl⟩
  rw [hR] at HR ⊢
  have hRP : P < R := by omega
  have hPw := hP
  replace hPw := Lib.hid hPw
  have hRR := Lib.hid hR
  clear hR
  clear q1 q2 Az0 Ay0 Az1 Ay1 Az2 Ay2 Az3 Ay3
  have Ay0 := (HBA.out).cy (k := 0) (by omega)
  have Ay1 := (HBA.out).cy (k := 1) (by omega)
  have Ay2 := (HBA.out).cy (k := 2) (by omega)
  have Ay3 := (HBA.out).cy (k := 3) (by omega)
  have hllR := HR.out.lt
  go_wp2_with fail
  refine (C_y2.out _ HP.out).mono ?_
  rintro e w1 ⟨rfl, hC1⟩
  clear hllR Ay0 Ay1 Ay2 Ay3
  replace HP := Lib.hid (HP.out.ch hC1)
  replace HBA := Lib.hid (HBA.out.chg hC1 nmN)
  replace HR := Lib.hid (HR.out.chg hC1 nmN)
  replace HC := Lib.hid (HC.out.trans hC1)
  clear hC1
  obtain ⟨W1, hW1⟩ : ∃ W1, w1.alloc (.cells #[.int .u64 (lm v_y2 0 : Nat), .int .u64 (lm v_y2 1 : Nat), .int .u64 (lm v_y2 2 : Nat), .int .u64 (lm v_y2 3 : Nat)] 24) = W1 := ⟨_, rfl⟩
  have hA : Chg [] w1 W1 := by rw [← hW1]; exact (Chg.refl _ _).alloc _
  have hN : U4 W1 w1.heap.size 24 (lm v_y2) := by rw [← hW1]; exact has_alloc_new _ _
  obtain ⟨b_y2, hb⟩ : ∃ b, w1.heap.size = b := ⟨_, rfl⟩
  have l_y2 : R < b_y2 := by rw [← hb]; exact HR.out.lt
  rw [hb] at hN
  replace HP := Lib.hid (HP.out.ch hA)
  replace HBA := Lib.hid (HBA.out.chg hA nmN)
  replace HR := Lib.hid (HR.out.chg hA nmN)
  replace HC := Lib.hid (HC.out.trans hA)
  have H_y2 := Lib.hid hN
  go_upto_region 4 with fail
  try rw [hW1]
  try rw [hb]
  clear hW1 hb hA hN
  have Ax0 := (HBA.out).cx (k := 0) (by omega)
  have Ax1 := (HBA.out).cx (k := 1) (by omega)
  have Ax2 := (HBA.out).cx (k := 2) (by omega)
  have Ax3 := (HBA.out).cx (k := 3) (by omega)
  obtain ⟨v_y2_0, v_y2_1, v_y2_2, v_y2_3⟩ := four4 fun _ => (H_y2.out).cell
  have hllR := HR.out.lt
  go_wp2_with fail
  refine (C_s0.out _ HP.out).mono ?_
  rintro e w1 ⟨rfl, hC1⟩
  clear hllR Ax0 Ax1 Ax2 Ax3 v_y2_0 v_y2_1 v_y2_2 v_y2_3
  replace HP := Lib.hid (HP.out.ch hC1)
  replace HBA := Lib.hid (HBA.out.chg hC1 nmN)
  replace HR := Lib.hid (HR.out.chg hC1 nmN)
  replace H_y2 := Lib.hid (H_y2.out.chg hC1 nmN)
  replace HC := Lib.hid (HC.out.trans hC1)
  clear hC1
  obtain ⟨W1, hW1⟩ : ∃ W1, w1.alloc (.cells #[.int .u64 (lm v_s0 0 : Nat), .int .u64 (lm v_s0 1 : Nat), .int .u64 (lm v_s0 2 : Nat), .int .u64 (lm v_s0 3 : Nat)] 24) = W1 := ⟨_, rfl⟩
  have hA : Chg [] w1 W1 := by rw [← hW1]; exact (Chg.refl _ _).alloc _
  have hN : U4 W1 w1.heap.size 24 (lm v_s0) := by rw [← hW1]; exact has_alloc_new _ _
  obtain ⟨b_s, hb⟩ : ∃ b, w1.heap.size = b := ⟨_, rfl⟩
  have l_s : b_y2 < b_s := by rw [← hb]; exact H_y2.out.lt
  rw [hb] at hN
  replace HP := Lib.hid (HP.out.ch hA)
  replace HBA := Lib.hid (HBA.out.chg hA nmN)
  replace HR := Lib.hid (HR.out.chg hA nmN)
  replace H_y2 := Lib.hid (H_y2.out.chg hA nmN)
  replace HC := Lib.hid (HC.out.trans hA)
  have H_s := Lib.hid hN
  go_upto_region 5 with fail
  try rw [hW1]
  try rw [hb]
  clear hW1 hb hA hN
  obtain ⟨v_s_0, v_s_1, v_s_2, v_s_3⟩ := four4 fun _ => (H_s.out).cell
  have hllR := HR.out.lt
  go_wp2_with fail
  refine (C_s1.out _ HP.out).mono ?_
  rintro e w1 ⟨rfl, hC1⟩
  clear hllR v_s_0 v_s_1 v_s_2 v_s_3
  replace HP := Lib.hid (HP.out.ch hC1)
  replace HBA := Lib.hid (HBA.out.chg hC1 nmN)
  replace HR := Lib.hid (HR.out.chg hC1 nmN)
  replace H_y2 := Lib.hid (H_y2.out.chg hC1 nmN)
  replace H_s := Lib.hid (H_s.out.chg hC1 nmN)
  replace HC := Lib.hid (HC.out.trans hC1)
  clear hC1
  have hQ := H_s.out
  obtain ⟨q0, q1, q2, q3⟩ := four4 fun _ => hQ.cell
  have qz0 := hQ.fz 0; have qz1 := hQ.fz 1; have qz2 := hQ.fz 2; have qz3 := hQ.fz 3
  have hll := hQ.lt
  obtain ⟨W1, hW1⟩ : ∃ W1, ((((w1.setCell ⟨b_s, 0, none⟩ (.int .u64 (lm v_s1 0 : Nat))).setCell ⟨b_s, 1, none⟩ (.int .u64 (lm v_s1 1 : Nat))).setCell ⟨b_s, 2, none⟩ (.int .u64 (lm v_s1 2 : Nat))).setCell ⟨b_s, 3, none⟩ (.int .u64 (lm v_s1 3 : Nat))) = W1 := ⟨_, rfl⟩
  have hA : Chg [b_s] w1 W1 := by rw [← hW1]; exact (Chg.refl _ _).put_x (Or.inl (by simp)) _
  have hN : U4 W1 b_s 24 (lm v_s1) := by rw [← hW1]; exact hQ.put_x _
  clear hQ
  replace HP := Lib.hid (HP.out.chS hA (by simp; omega) (by simp; omega))
  replace HBA := Lib.hid (HBA.out.chg hA (by simp; omega))
  replace HR := Lib.hid (HR.out.chg hA (by simp; omega))
  replace H_y2 := Lib.hid (H_y2.out.chg hA (by simp; omega))
  replace HC := Lib.hid (HC.out.trans_new hA (by simp; omega))
  replace H_s := Lib.hid hN
  go_upto_region 6 with fail
  try rw [hW1]
  clear hW1 hA hN hll q0 qz0 q1 qz1 q2 qz2 q3 qz3
  obtain ⟨v_s_0, v_s_1, v_s_2, v_s_3⟩ := four4 fun _ => (H_s.out).cell
  have hllR := HR.out.lt
  go_wp2_with fail
  refine (C_s.out _ HP.out).mono ?_
  rintro e w1 ⟨rfl, hC1⟩
  clear hllR v_s_0 v_s_1 v_s_2 v_s_3
  replace HP := Lib.hid (HP.out.ch hC1)
  replace HBA := Lib.hid (HBA.out.chg hC1 nmN)
  replace HR := Lib.hid (HR.out.chg hC1 nmN)
  replace H_y2 := Lib.hid (H_y2.out.chg hC1 nmN)
  replace H_s := Lib.hid (H_s.out.chg hC1 nmN)
  replace HC := Lib.hid (HC.out.trans hC1)
  clear hC1
  have hQ := H_s.out
  obtain ⟨q0, q1, q2, q3⟩ := four4 fun _ => hQ.cell
  have qz0 := hQ.fz 0; have qz1 := hQ.fz 1; have qz2 := hQ.fz 2; have qz3 := hQ.fz 3
  have hll := hQ.lt
  obtain ⟨W1, hW1⟩ : ∃ W1, ((((w1.setCell ⟨b_s, 0, none⟩ (.int .u64 (lm v_s 0 : Nat))).setCell ⟨b_s, 1, none⟩ (.int .u64 (lm v_s 1 : Nat))).setCell ⟨b_s, 2, none⟩ (.int .u64 (lm v_s 2 : Nat))).setCell ⟨b_s, 3, none⟩ (.int .u64 (lm v_s 3 : Nat))) = W1 := ⟨_, rfl⟩
  have hA : Chg [b_s] w1 W1 := by rw [← hW1]; exact (Chg.refl _ _).put_x (Or.inl (by simp)) _
  have hN : U4 W1 b_s 24 (lm v_s) := by rw [← hW1]; exact hQ.put_x _
  clear hQ
  replace HP := Lib.hid (HP.out.chS hA (by simp; omega) (by simp; omega))
  replace HBA := Lib.hid (HBA.out.chg hA (by simp; omega))
  replace HR := Lib.hid (HR.out.chg hA (by simp; omega))
  replace H_y2 := Lib.hid (H_y2.out.chg hA (by simp; omega))
  replace HC := Lib.hid (HC.out.trans_new hA (by simp; omega))
  replace H_s := Lib.hid hN
  go_upto_region 7 with fail
  try rw [hW1]
  clear hW1 hA hN hll q0 qz0 q1 qz1 q2 qz2 q3 qz3
  have Ax0 := (HBA.out).cx (k := 0) (by omega)
  have Ax1 := (HBA.out).cx (k := 1) (by omega)
  have Ax2 := (HBA.out).cx (k := 2) (by omega)
  have Ax3 := (HBA.out).cx (k := 3) (by omega)
  have hllR := HR.out.lt
  go_wp2_with fail
  refine (C_x2.out _ HP.out).mono ?_
  rintro e w1 ⟨rfl, hC1⟩
  clear hllR Ax0 Ax1 Ax2 Ax3
  replace HP := Lib.hid (HP.out.ch hC1)
  replace HBA := Lib.hid (HBA.out.chg hC1 nmN)
  replace HR := Lib.hid (HR.out.chg hC1 nmN)
  replace H_y2 := Lib.hid (H_y2.out.chg hC1 nmN)
  replace H_s := Lib.hid (H_s.out.chg hC1 nmN)
  replace HC := Lib.hid (HC.out.trans hC1)
  clear hC1
  obtain ⟨W1, hW1⟩ : ∃ W1, w1.alloc (.cells #[.int .u64 (lm v_x2 0 : Nat), .int .u64 (lm v_x2 1 : Nat), .int .u64 (lm v_x2 2 : Nat), .int .u64 (lm v_x2 3 : Nat)] 24) = W1 := ⟨_, rfl⟩
  have hA : Chg [] w1 W1 := by rw [← hW1]; exact (Chg.refl _ _).alloc _
  have hN : U4 W1 w1.heap.size 24 (lm v_x2) := by rw [← hW1]; exact has_alloc_new _ _
  obtain ⟨b_x2, hb⟩ : ∃ b, w1.heap.size = b := ⟨_, rfl⟩
  have l_x2 : b_s < b_x2 := by rw [← hb]; exact H_s.out.lt
  rw [hb] at hN
  replace HP := Lib.hid (HP.out.ch hA)
  replace HBA := Lib.hid (HBA.out.chg hA nmN)
  replace HR := Lib.hid (HR.out.chg hA nmN)
  replace H_y2 := Lib.hid (H_y2.out.chg hA nmN)
  replace H_s := Lib.hid (H_s.out.chg hA nmN)
  replace HC := Lib.hid (HC.out.trans hA)
  have H_x2 := Lib.hid hN
  go_upto_region 8 with fail
  try rw [hW1]
  try rw [hb]
  clear hW1 hb hA hN
  obtain ⟨v_x2_0, v_x2_1, v_x2_2, v_x2_3⟩ := four4 fun _ => (H_x2.out).cell
  have hllR := HR.out.lt
  refine abs_region (B := Chg [] W1) (S := Chg [] W1) (by kernel_rfl) ((Chg.refl _ _).drew) ?_
  have hG := good_chg [] W1
  refine Abs.take_at (i := 0) (d := some 49) (v := ?_) rfl rfl (by kernel_rfl) (by kernel_rfl) (by kernel_rfl) (fun _ _ _ h => h) hG ⟨by rfl, fun w9 hw9 => Or.inl ?_⟩ ?_
  rotate_left
  · go_simp
    try with_reducible rfl
  simp only [Act.put, stA, stB, stC]
  refine Abs.take_at (i := 1) (d := some 50) (v := ?_) rfl rfl (by kernel_rfl) (by kernel_rfl) (by kernel_rfl) (fun _ _ _ h => h) hG ⟨by rfl, fun w9 hw9 => Or.inl ?_⟩ ?_
  rotate_left
  · go_simp
    try with_reducible rfl
  simp only [Act.put, stA, stB, stC]
  refine Abs.take_at (i := 2) (d := some 51) (v := ?_) rfl rfl (by kernel_rfl) (by kernel_rfl) (by kernel_rfl) (fun _ _ _ h => h) hG ⟨by rfl, fun w9 hw9 => Or.inl ?_⟩ ?_
  rotate_left
  · replace v_x2_0 := hw9.cell v_x2_0 nmN; replace v_x2_1 := hw9.cell v_x2_1 nmN; replace v_x2_2 := hw9.cell v_x2_2 nmN; replace v_x2_3 := hw9.cell v_x2_3 nmN
    go_simp
    try with_reducible rfl
  simp only [Act.put, stA, stB, stC]
  refine Abs.take_at (i := 3) (d := some 52) (v := ?_) rfl rfl (by kernel_rfl) (by kernel_rfl) (by kernel_rfl) (fun _ _ _ h => h) hG ⟨by rfl, fun w9 hw9 => Or.inl ?_⟩ ?_
  rotate_left
  · replace v_x2_0 := hw9.cell v_x2_0 nmN; replace v_x2_1 := hw9.cell v_x2_1 nmN; replace v_x2_2 := hw9.cell v_x2_2 nmN; replace v_x2_3 := hw9.cell v_x2_3 nmN
    go_simp
    try with_reducible rfl
  simp only [Act.put, stA, stB, stC]
  refine Abs.take_at (i := 4) (d := some 53) (v := _) rfl rfl (by kernel_rfl) (by kernel_rfl) (by kernel_rfl) (fun _ _ _ h => h) hG ⟨by rfl, fun w9 hw9 => Or.inr ⟨_, _, ?_, C_x22.out w9 (HP.out.ch hw9)⟩⟩ ?_
  · go_simp
    try with_reducible rfl
  simp only [Act.put, stA, stB, stC]
  refine Abs.take_at (i := 5) (d := some 54) (v := ?_) rfl rfl (by kernel_rfl) (by kernel_rfl) (by kernel_rfl) (fun _ _ _ h => h) hG ⟨by rfl, fun w9 hw9 => Or.inl ?_⟩ ?_
  rotate_left
  · replace v_x2_0 := hw9.cell v_x2_0 nmN; replace v_x2_1 := hw9.cell v_x2_1 nmN; replace v_x2_2 := hw9.cell v_x2_2 nmN; replace v_x2_3 := hw9.cell v_x2_3 nmN
    go_simp
    try with_reducible rfl
  simp only [Act.put, stA, stB, stC]
  refine Abs.take_at (i := 6) (d := some 55) (v := _) rfl rfl (by kernel_rfl) (by kernel_rfl) (by kernel_rfl) (fun _ _ _ h => h) hG ⟨by rfl, fun w9 hw9 => Or.inr ⟨_, _, ?_, C_m.out w9 (HP.out.ch hw9)⟩⟩ ?_
  · go_simp
    try with_reducible rfl
  simp only [Act.put, stA, stB, stC]
  refine Abs.alloc4 (i := 7) (t := 24) (X := []) (W := W1) rfl (by kernel_rfl) (by rfl) hG (fun _ h => h) (fun w9 => ?_) (fun b_m hb_m hG => ?_)
  · go_simp
    try with_reducible rfl
  refine Abs.at_put (d := some 8) rfl ?_
  simp only [Act.put, stA, stB, stC]
  refine Abs.store4 (i := 8) (b := b_m) (ds := #[.int .u64 (lm v_m 0 : Nat), .int .u64 (lm v_m 1 : Nat), .int .u64 (lm v_m 2 : Nat), .int .u64 (lm v_m 3 : Nat)]) rfl (by kernel_rfl) (by rfl) (fun w9 => (((w9.setCell ⟨b_m, 0, none⟩ (.int .u64 (lm v_m 0 : Nat))).setCell ⟨b_m, 1, none⟩ (.int .u64 (lm v_m 1 : Nat))).setCell ⟨b_m, 2, none⟩ (.int .u64 (lm v_m 2 : Nat))).setCell ⟨b_m, 3, none⟩ (.int .u64 (lm v_m 3 : Nat))) (fun w9 h9 => ⟨?_, ?_, ?_⟩) (fun _ _ h k => Chg.keeps (Or.inr hb_m) h k) (good_chg [] W1) (fun hG => ?_)
  · have n0 := cell_of_has h9 0; have n1 := cell_of_has h9 1; have n2 := cell_of_has h9 2; have n3 := cell_of_has h9 3
    simp only [glA, glB, glC] at n0 n1 n2 n3
    have z0 := frozen_of_has h9 0; have z1 := frozen_of_has h9 1; have z2 := frozen_of_has h9 2; have z3 := frozen_of_has h9 3
    clear h9
    go_simp
    try with_reducible rfl
  · exact U4.put_x (x := fun _ => 0) h9 v_m
  · exact Chg.put_x (Chg.refl _ _) (Or.inl (by simp)) v_m
  refine Abs.at_put (d := none) rfl ?_
  simp only [Act.put, stA, stB, stC]
  refine Abs.done (by kernel_rfl) (fun wx hx => NoPanic.normal ?_) _
  clear hllR v_x2_0 v_x2_1 v_x2_2 v_x2_3
  obtain ⟨hA, hN⟩ := hx
  have l_m : b_x2 < b_m := Nat.lt_of_lt_of_le H_x2.out.lt hb_m
  have hN : U4 wx b_m 24 (lm v_m) := hN
  replace HP := Lib.hid (HP.out.ch hA)
  replace HBA := Lib.hid (HBA.out.chg hA nmN)
  replace HR := Lib.hid (HR.out.chg hA nmN)
  replace H_y2 := Lib.hid (H_y2.out.chg hA nmN)
  replace H_s := Lib.hid (H_s.out.chg hA nmN)
  replace H_x2 := Lib.hid (H_x2.out.chg hA nmN)
  replace HC := Lib.hid (HC.out.trans hA)
  have H_m := Lib.hid hN
  clear hA hN hb_m
  go_upto_region 9 with fail
  obtain ⟨v_m_0, v_m_1, v_m_2, v_m_3⟩ := four4 fun _ => (H_m.out).cell
  obtain ⟨v_s_0, v_s_1, v_s_2, v_s_3⟩ := four4 fun _ => (H_s.out).cell
  have hllR := HR.out.lt
  refine abs_region (B := Chg [] wx) (S := Chg [] wx) (by kernel_rfl) ((Chg.refl _ _).drew) ?_
  have hG := good_chg [] wx
  refine Abs.take_at (i := 0) (d := some 56) (v := ?_) rfl rfl (by kernel_rfl) (by kernel_rfl) (by kernel_rfl) (fun _ _ _ h => h) hG ⟨by rfl, fun w9 hw9 => Or.inl ?_⟩ ?_
  rotate_left
  · go_simp
    try with_reducible rfl
  simp only [Act.put, stA, stB, stC]
  refine Abs.take_at (i := 1) (d := some 57) (v := ?_) rfl rfl (by kernel_rfl) (by kernel_rfl) (by kernel_rfl) (fun _ _ _ h => h) hG ⟨by rfl, fun w9 hw9 => Or.inl ?_⟩ ?_
  rotate_left
  · go_simp
    try with_reducible rfl
  simp only [Act.put, stA, stB, stC]
  refine Abs.take_at (i := 2) (d := some 58) (v := ?_) rfl rfl (by kernel_rfl) (by kernel_rfl) (by kernel_rfl) (fun _ _ _ h => h) hG ⟨by rfl, fun w9 hw9 => Or.inl ?_⟩ ?_
  rotate_left
  · replace v_m_0 := hw9.cell v_m_0 nmN; replace v_m_1 := hw9.cell v_m_1 nmN; replace v_m_2 := hw9.cell v_m_2 nmN; replace v_m_3 := hw9.cell v_m_3 nmN
    go_simp
    try with_reducible rfl
  simp only [Act.put, stA, stB, stC]
  refine Abs.take_at (i := 3) (d := some 59) (v := ?_) rfl rfl (by kernel_rfl) (by kernel_rfl) (by kernel_rfl) (fun _ _ _ h => h) hG ⟨by rfl, fun w9 hw9 => Or.inl ?_⟩ ?_
  rotate_left
  · replace v_m_0 := hw9.cell v_m_0 nmN; replace v_m_1 := hw9.cell v_m_1 nmN; replace v_m_2 := hw9.cell v_m_2 nmN; replace v_m_3 := hw9.cell v_m_3 nmN
    go_simp
    try with_reducible rfl
  simp only [Act.put, stA, stB, stC]
  refine Abs.take_at (i := 4) (d := some 60) (v := _) rfl rfl (by kernel_rfl) (by kernel_rfl) (by kernel_rfl) (fun _ _ _ h => h) hG ⟨by rfl, fun w9 hw9 => Or.inr ⟨_, _, ?_, C_mm.out w9 (HP.out.ch hw9)⟩⟩ ?_
  · go_simp
    try with_reducible rfl
  simp only [Act.put, stA, stB, stC]
  refine Abs.take_at (i := 5) (d := some 61) (v := ?_) rfl rfl (by kernel_rfl) (by kernel_rfl) (by kernel_rfl) (fun _ _ _ h => h) hG ⟨by rfl, fun w9 hw9 => Or.inl ?_⟩ ?_
  rotate_left
  · go_simp
    try with_reducible rfl
  simp only [Act.put, stA, stB, stC]
  refine Abs.take_at (i := 6) (d := some 62) (v := ?_) rfl rfl (by kernel_rfl) (by kernel_rfl) (by kernel_rfl) (fun _ _ _ h => h) hG ⟨by rfl, fun w9 hw9 => Or.inl ?_⟩ ?_
  rotate_left
  · replace v_s_0 := hw9.cell v_s_0 nmN; replace v_s_1 := hw9.cell v_s_1 nmN; replace v_s_2 := hw9.cell v_s_2 nmN; replace v_s_3 := hw9.cell v_s_3 nmN
    go_simp
    try with_reducible rfl
  simp only [Act.put, stA, stB, stC]
  refine Abs.take_at (i := 7) (d := some 63) (v := ?_) rfl rfl (by kernel_rfl) (by kernel_rfl) (by kernel_rfl) (fun _ _ _ h => h) hG ⟨by rfl, fun w9 hw9 => Or.inl ?_⟩ ?_
  rotate_left
  · replace v_s_0 := hw9.cell v_s_0 nmN; replace v_s_1 := hw9.cell v_s_1 nmN; replace v_s_2 := hw9.cell v_s_2 nmN; replace v_s_3 := hw9.cell v_s_3 nmN
    go_simp
    try with_reducible rfl
  simp only [Act.put, stA, stB, stC]
  refine Abs.take_at (i := 8) (d := some 64) (v := _) rfl rfl (by kernel_rfl) (by kernel_rfl) (by kernel_rfl) (fun _ _ _ h => h) hG ⟨by rfl, fun w9 hw9 => Or.inr ⟨_, _, ?_, C_ss.out w9 (HP.out.ch hw9)⟩⟩ ?_
  · go_simp
    try with_reducible rfl
  simp only [Act.put, stA, stB, stC]
  refine Abs.take_at (i := 9) (d := some 65) (v := _) rfl rfl (by kernel_rfl) (by kernel_rfl) (by kernel_rfl) (fun _ _ _ h => h) hG ⟨by rfl, fun w9 hw9 => Or.inr ⟨_, _, ?_, C_x.out w9 (HP.out.ch hw9)⟩⟩ ?_
  · go_simp
    try with_reducible rfl
  simp only [Act.put, stA, stB, stC]
  refine Abs.alloc4 (i := 10) (t := 24) (X := []) (W := wx) rfl (by kernel_rfl) (by rfl) hG (fun _ h => h) (fun w9 => ?_) (fun b_x hb_x hG => ?_)
  · go_simp
    try with_reducible rfl
  refine Abs.at_put (d := some 9) rfl ?_
  simp only [Act.put, stA, stB, stC]
  refine Abs.store4 (i := 11) (b := b_x) (ds := #[.int .u64 (lm v_x 0 : Nat), .int .u64 (lm v_x 1 : Nat), .int .u64 (lm v_x 2 : Nat), .int .u64 (lm v_x 3 : Nat)]) rfl (by kernel_rfl) (by rfl) (fun w9 => (((w9.setCell ⟨b_x, 0, none⟩ (.int .u64 (lm v_x 0 : Nat))).setCell ⟨b_x, 1, none⟩ (.int .u64 (lm v_x 1 : Nat))).setCell ⟨b_x, 2, none⟩ (.int .u64 (lm v_x 2 : Nat))).setCell ⟨b_x, 3, none⟩ (.int .u64 (lm v_x 3 : Nat))) (fun w9 h9 => ⟨?_, ?_, ?_⟩) (fun _ _ h k => Chg.keeps (Or.inr hb_x) h k) (good_chg [] wx) (fun hG => ?_)
  · have n0 := cell_of_has h9 0; have n1 := cell_of_has h9 1; have n2 := cell_of_has h9 2; have n3 := cell_of_has h9 3
    simp only [glA, glB, glC] at n0 n1 n2 n3
    have z0 := frozen_of_has h9 0; have z1 := frozen_of_has h9 1; have z2 := frozen_of_has h9 2; have z3 := frozen_of_has h9 3
    clear h9
    go_simp
    try with_reducible rfl
  · exact U4.put_x (x := fun _ => 0) h9 v_x
  · exact Chg.put_x (Chg.refl _ _) (Or.inl (by simp)) v_x
  refine Abs.at_put (d := none) rfl ?_
  simp only [Act.put, stA, stB, stC]
  refine Abs.done (by kernel_rfl) (fun wx hx => NoPanic.normal ?_) _
  clear hllR v_m_0 v_m_1 v_m_2 v_m_3 v_s_0 v_s_1 v_s_2 v_s_3
  obtain ⟨hA, hN⟩ := hx
  have l_x : b_m < b_x := Nat.lt_of_lt_of_le H_m.out.lt hb_x
  have hN : U4 wx b_x 24 (lm v_x) := hN
  replace HP := Lib.hid (HP.out.ch hA)
  replace HBA := Lib.hid (HBA.out.chg hA nmN)
  replace HR := Lib.hid (HR.out.chg hA nmN)
  replace H_y2 := Lib.hid (H_y2.out.chg hA nmN)
  replace H_s := Lib.hid (H_s.out.chg hA nmN)
  replace H_x2 := Lib.hid (H_x2.out.chg hA nmN)
  replace H_m := Lib.hid (H_m.out.chg hA nmN)
  replace HC := Lib.hid (HC.out.trans hA)
  have H_x := Lib.hid hN
  clear hA hN hb_x
  go_upto_region 10 with fail
  obtain ⟨v_y2_0, v_y2_1, v_y2_2, v_y2_3⟩ := four4 fun _ => (H_y2.out).cell
  have hllR := HR.out.lt
  go_wp2_with fail
  refine (C_y40.out _ HP.out).mono ?_
  rintro e w1 ⟨rfl, hC1⟩
  clear hllR v_y2_0 v_y2_1 v_y2_2 v_y2_3
  replace HP := Lib.hid (HP.out.ch hC1)
  replace HBA := Lib.hid (HBA.out.chg hC1 nmN)
  replace HR := Lib.hid (HR.out.chg hC1 nmN)
  replace H_y2 := Lib.hid (H_y2.out.chg hC1 nmN)
  replace H_s := Lib.hid (H_s.out.chg hC1 nmN)
  replace H_x2 := Lib.hid (H_x2.out.chg hC1 nmN)
  replace H_m := Lib.hid (H_m.out.chg hC1 nmN)
  replace H_x := Lib.hid (H_x.out.chg hC1 nmN)
  replace HC := Lib.hid (HC.out.trans hC1)
  clear hC1
  obtain ⟨W1, hW1⟩ : ∃ W1, w1.alloc (.cells #[.int .u64 (lm v_y40 0 : Nat), .int .u64 (lm v_y40 1 : Nat), .int .u64 (lm v_y40 2 : Nat), .int .u64 (lm v_y40 3 : Nat)] 24) = W1 := ⟨_, rfl⟩
  have hA : Chg [] w1 W1 := by rw [← hW1]; exact (Chg.refl _ _).alloc _
  have hN : U4 W1 w1.heap.size 24 (lm v_y40) := by rw [← hW1]; exact has_alloc_new _ _
  obtain ⟨b_y4, hb⟩ : ∃ b, w1.heap.size = b := ⟨_, rfl⟩
  have l_y4 : b_x < b_y4 := by rw [← hb]; exact H_x.out.lt
  rw [hb] at hN
  replace HP := Lib.hid (HP.out.ch hA)
  replace HBA := Lib.hid (HBA.out.chg hA nmN)
  replace HR := Lib.hid (HR.out.chg hA nmN)
  replace H_y2 := Lib.hid (H_y2.out.chg hA nmN)
  replace H_s := Lib.hid (H_s.out.chg hA nmN)
  replace H_x2 := Lib.hid (H_x2.out.chg hA nmN)
  replace H_m := Lib.hid (H_m.out.chg hA nmN)
  replace H_x := Lib.hid (H_x.out.chg hA nmN)
  replace HC := Lib.hid (HC.out.trans hA)
  have H_y4 := Lib.hid hN
  go_upto_region 11 with fail
  try rw [hW1]
  try rw [hb]
  clear hW1 hb hA hN
  obtain ⟨v_y4_0, v_y4_1, v_y4_2, v_y4_3⟩ := four4 fun _ => (H_y4.out).cell
  have hllR := HR.out.lt
  go_wp2_with fail
  refine (C_y41.out _ HP.out).mono ?_
  rintro e w1 ⟨rfl, hC1⟩
  clear hllR v_y4_0 v_y4_1 v_y4_2 v_y4_3
  replace HP := Lib.hid (HP.out.ch hC1)
  replace HBA := Lib.hid (HBA.out.chg hC1 nmN)
  replace HR := Lib.hid (HR.out.chg hC1 nmN)
  replace H_y2 := Lib.hid (H_y2.out.chg hC1 nmN)
  replace H_s := Lib.hid (H_s.out.chg hC1 nmN)
  replace H_x2 := Lib.hid (H_x2.out.chg hC1 nmN)
  replace H_m := Lib.hid (H_m.out.chg hC1 nmN)
  replace H_x := Lib.hid (H_x.out.chg hC1 nmN)
  replace H_y4 := Lib.hid (H_y4.out.chg hC1 nmN)
  replace HC := Lib.hid (HC.out.trans hC1)
  clear hC1
  have hQ := H_y4.out
  obtain ⟨q0, q1, q2, q3⟩ := four4 fun _ => hQ.cell
  have qz0 := hQ.fz 0; have qz1 := hQ.fz 1; have qz2 := hQ.fz 2; have qz3 := hQ.fz 3
  have hll := hQ.lt
  obtain ⟨W1, hW1⟩ : ∃ W1, ((((w1.setCell ⟨b_y4, 0, none⟩ (.int .u64 (lm v_y41 0 : Nat))).setCell ⟨b_y4, 1, none⟩ (.int .u64 (lm v_y41 1 : Nat))).setCell ⟨b_y4, 2, none⟩ (.int .u64 (lm v_y41 2 : Nat))).setCell ⟨b_y4, 3, none⟩ (.int .u64 (lm v_y41 3 : Nat))) = W1 := ⟨_, rfl⟩
  have hA : Chg [b_y4] w1 W1 := by rw [← hW1]; exact (Chg.refl _ _).put_x (Or.inl (by simp)) _
  have hN : U4 W1 b_y4 24 (lm v_y41) := by rw [← hW1]; exact hQ.put_x _
  clear hQ
  replace HP := Lib.hid (HP.out.chS hA (by simp; omega) (by simp; omega))
  replace HBA := Lib.hid (HBA.out.chg hA (by simp; omega))
  replace HR := Lib.hid (HR.out.chg hA (by simp; omega))
  replace H_y2 := Lib.hid (H_y2.out.chg hA (by simp; omega))
  replace H_s := Lib.hid (H_s.out.chg hA (by simp; omega))
  replace H_x2 := Lib.hid (H_x2.out.chg hA (by simp; omega))
  replace H_m := Lib.hid (H_m.out.chg hA (by simp; omega))
  replace H_x := Lib.hid (H_x.out.chg hA (by simp; omega))
  replace HC := Lib.hid (HC.out.trans_new hA (by simp; omega))
  replace H_y4 := Lib.hid hN
  go_upto_region 12 with fail
  try rw [hW1]
  clear hW1 hA hN hll q0 qz0 q1 qz1 q2 qz2 q3 qz3
  obtain ⟨v_y4_0, v_y4_1, v_y4_2, v_y4_3⟩ := four4 fun _ => (H_y4.out).cell
  have hllR := HR.out.lt
  go_wp2_with fail
  refine (C_y4.out _ HP.out).mono ?_
  rintro e w1 ⟨rfl, hC1⟩
  clear hllR v_y4_0 v_y4_1 v_y4_2 v_y4_3
  replace HP := Lib.hid (HP.out.ch hC1)
  replace HBA := Lib.hid (HBA.out.chg hC1 nmN)
  replace HR := Lib.hid (HR.out.chg hC1 nmN)
  replace H_y2 := Lib.hid (H_y2.out.chg hC1 nmN)
  replace H_s := Lib.hid (H_s.out.chg hC1 nmN)
  replace H_x2 := Lib.hid (H_x2.out.chg hC1 nmN)
  replace H_m := Lib.hid (H_m.out.chg hC1 nmN)
  replace H_x := Lib.hid (H_x.out.chg hC1 nmN)
  replace H_y4 := Lib.hid (H_y4.out.chg hC1 nmN)
  replace HC := Lib.hid (HC.out.trans hC1)
  clear hC1
  have hQ := H_y4.out
  obtain ⟨q0, q1, q2, q3⟩ := four4 fun _ => hQ.cell
  have qz0 := hQ.fz 0; have qz1 := hQ.fz 1; have qz2 := hQ.fz 2; have qz3 := hQ.fz 3
  have hll := hQ.lt
  obtain ⟨W1, hW1⟩ : ∃ W1, ((((w1.setCell ⟨b_y4, 0, none⟩ (.int .u64 (lm v_y4 0 : Nat))).setCell ⟨b_y4, 1, none⟩ (.int .u64 (lm v_y4 1 : Nat))).setCell ⟨b_y4, 2, none⟩ (.int .u64 (lm v_y4 2 : Nat))).setCell ⟨b_y4, 3, none⟩ (.int .u64 (lm v_y4 3 : Nat))) = W1 := ⟨_, rfl⟩
  have hA : Chg [b_y4] w1 W1 := by rw [← hW1]; exact (Chg.refl _ _).put_x (Or.inl (by simp)) _
  have hN : U4 W1 b_y4 24 (lm v_y4) := by rw [← hW1]; exact hQ.put_x _
  clear hQ
  replace HP := Lib.hid (HP.out.chS hA (by simp; omega) (by simp; omega))
  replace HBA := Lib.hid (HBA.out.chg hA (by simp; omega))
  replace HR := Lib.hid (HR.out.chg hA (by simp; omega))
  replace H_y2 := Lib.hid (H_y2.out.chg hA (by simp; omega))
  replace H_s := Lib.hid (H_s.out.chg hA (by simp; omega))
  replace H_x2 := Lib.hid (H_x2.out.chg hA (by simp; omega))
  replace H_m := Lib.hid (H_m.out.chg hA (by simp; omega))
  replace H_x := Lib.hid (H_x.out.chg hA (by simp; omega))
  replace HC := Lib.hid (HC.out.trans_new hA (by simp; omega))
  replace H_y4 := Lib.hid hN
  go_upto_region 13 with fail
  try rw [hW1]
  clear hW1 hA hN hll q0 qz0 q1 qz1 q2 qz2 q3 qz3
  obtain ⟨v_m_0, v_m_1, v_m_2, v_m_3⟩ := four4 fun _ => (H_m.out).cell
  obtain ⟨v_s_0, v_s_1, v_s_2, v_s_3⟩ := four4 fun _ => (H_s.out).cell
  obtain ⟨v_x_0, v_x_1, v_x_2, v_x_3⟩ := four4 fun _ => (H_x.out).cell
  obtain ⟨v_y4_0, v_y4_1, v_y4_2, v_y4_3⟩ := four4 fun _ => (H_y4.out).cell
  have hllR := HR.out.lt
  refine abs_region (B := Chg [] W1) (S := Chg [] W1) (by kernel_rfl) ((Chg.refl _ _).drew) ?_
  have hG := good_chg [] W1
  refine Abs.take_at (i := 0) (d := some 78) (v := ?_) rfl rfl (by kernel_rfl) (by kernel_rfl) (by kernel_rfl) (fun _ _ _ h => h) hG ⟨by rfl, fun w9 hw9 => Or.inl ?_⟩ ?_
  rotate_left
  · go_simp
    try with_reducible rfl
  simp only [Act.put, stA, stB, stC]
  refine Abs.take_at (i := 1) (d := some 79) (v := ?_) rfl rfl (by kernel_rfl) (by kernel_rfl) (by kernel_rfl) (fun _ _ _ h => h) hG ⟨by rfl, fun w9 hw9 => Or.inl ?_⟩ ?_
  rotate_left
  · go_simp
    try with_reducible rfl
  simp only [Act.put, stA, stB, stC]
  refine Abs.take_at (i := 2) (d := some 80) (v := ?_) rfl rfl (by kernel_rfl) (by kernel_rfl) (by kernel_rfl) (fun _ _ _ h => h) hG ⟨by rfl, fun w9 hw9 => Or.inl ?_⟩ ?_
  rotate_left
  · replace v_m_0 := hw9.cell v_m_0 nmN; replace v_m_1 := hw9.cell v_m_1 nmN; replace v_m_2 := hw9.cell v_m_2 nmN; replace v_m_3 := hw9.cell v_m_3 nmN
    go_simp
    try with_reducible rfl
  simp only [Act.put, stA, stB, stC]
  refine Abs.take_at (i := 3) (d := some 81) (v := ?_) rfl rfl (by kernel_rfl) (by kernel_rfl) (by kernel_rfl) (fun _ _ _ h => h) hG ⟨by rfl, fun w9 hw9 => Or.inl ?_⟩ ?_
  rotate_left
  · go_simp
    try with_reducible rfl
  simp only [Act.put, stA, stB, stC]
  refine Abs.take_at (i := 4) (d := some 82) (v := ?_) rfl rfl (by kernel_rfl) (by kernel_rfl) (by kernel_rfl) (fun _ _ _ h => h) hG ⟨by rfl, fun w9 hw9 => Or.inl ?_⟩ ?_
  rotate_left
  · replace v_s_0 := hw9.cell v_s_0 nmN; replace v_s_1 := hw9.cell v_s_1 nmN; replace v_s_2 := hw9.cell v_s_2 nmN; replace v_s_3 := hw9.cell v_s_3 nmN
    go_simp
    try with_reducible rfl
  simp only [Act.put, stA, stB, stC]
  refine Abs.take_at (i := 5) (d := some 83) (v := ?_) rfl rfl (by kernel_rfl) (by kernel_rfl) (by kernel_rfl) (fun _ _ _ h => h) hG ⟨by rfl, fun w9 hw9 => Or.inl ?_⟩ ?_
  rotate_left
  · replace v_x_0 := hw9.cell v_x_0 nmN; replace v_x_1 := hw9.cell v_x_1 nmN; replace v_x_2 := hw9.cell v_x_2 nmN; replace v_x_3 := hw9.cell v_x_3 nmN
    go_simp
    try with_reducible rfl
  simp only [Act.put, stA, stB, stC]
  refine Abs.take_at (i := 6) (d := some 84) (v := _) rfl rfl (by kernel_rfl) (by kernel_rfl) (by kernel_rfl) (fun _ _ _ h => h) hG ⟨by rfl, fun w9 hw9 => Or.inr ⟨_, _, ?_, C_sx.out w9 (HP.out.ch hw9)⟩⟩ ?_
  · go_simp
    try with_reducible rfl
  simp only [Act.put, stA, stB, stC]
  refine Abs.take_at (i := 7) (d := some 85) (v := _) rfl rfl (by kernel_rfl) (by kernel_rfl) (by kernel_rfl) (fun _ _ _ h => h) hG ⟨by rfl, fun w9 hw9 => Or.inr ⟨_, _, ?_, C_msx.out w9 (HP.out.ch hw9)⟩⟩ ?_
  · go_simp
    try with_reducible rfl
  simp only [Act.put, stA, stB, stC]
  refine Abs.take_at (i := 8) (d := some 86) (v := ?_) rfl rfl (by kernel_rfl) (by kernel_rfl) (by kernel_rfl) (fun _ _ _ h => h) hG ⟨by rfl, fun w9 hw9 => Or.inl ?_⟩ ?_
  rotate_left
  · go_simp
    try with_reducible rfl
  simp only [Act.put, stA, stB, stC]
  refine Abs.take_at (i := 9) (d := some 87) (v := ?_) rfl rfl (by kernel_rfl) (by kernel_rfl) (by kernel_rfl) (fun _ _ _ h => h) hG ⟨by rfl, fun w9 hw9 => Or.inl ?_⟩ ?_
  rotate_left
  · replace v_y4_0 := hw9.cell v_y4_0 nmN; replace v_y4_1 := hw9.cell v_y4_1 nmN; replace v_y4_2 := hw9.cell v_y4_2 nmN; replace v_y4_3 := hw9.cell v_y4_3 nmN
    go_simp
    try with_reducible rfl
  simp only [Act.put, stA, stB, stC]
  refine Abs.take_at (i := 10) (d := some 88) (v := ?_) rfl rfl (by kernel_rfl) (by kernel_rfl) (by kernel_rfl) (fun _ _ _ h => h) hG ⟨by rfl, fun w9 hw9 => Or.inl ?_⟩ ?_
  rotate_left
  · replace v_y4_0 := hw9.cell v_y4_0 nmN; replace v_y4_1 := hw9.cell v_y4_1 nmN; replace v_y4_2 := hw9.cell v_y4_2 nmN; replace v_y4_3 := hw9.cell v_y4_3 nmN
    go_simp
    try with_reducible rfl
  simp only [Act.put, stA, stB, stC]
  refine Abs.take_at (i := 11) (d := some 89) (v := _) rfl rfl (by kernel_rfl) (by kernel_rfl) (by kernel_rfl) (fun _ _ _ h => h) hG ⟨by rfl, fun w9 hw9 => Or.inr ⟨_, _, ?_, C_y44.out w9 (HP.out.ch hw9)⟩⟩ ?_
  · go_simp
    try with_reducible rfl
  simp only [Act.put, stA, stB, stC]
  refine Abs.take_at (i := 12) (d := some 90) (v := _) rfl rfl (by kernel_rfl) (by kernel_rfl) (by kernel_rfl) (fun _ _ _ h => h) hG ⟨by rfl, fun w9 hw9 => Or.inr ⟨_, _, ?_, C_y.out w9 (HP.out.ch hw9)⟩⟩ ?_
  · go_simp
    try with_reducible rfl
  simp only [Act.put, stA, stB, stC]
  refine Abs.alloc4 (i := 13) (t := 24) (X := []) (W := W1) rfl (by kernel_rfl) (by rfl) hG (fun _ h => h) (fun w9 => ?_) (fun b_y hb_y hG => ?_)
  · go_simp
    try with_reducible rfl
  refine Abs.at_put (d := some 11) rfl ?_
  simp only [Act.put, stA, stB, stC]
  refine Abs.store4 (i := 14) (b := b_y) (ds := #[.int .u64 (lm v_y 0 : Nat), .int .u64 (lm v_y 1 : Nat), .int .u64 (lm v_y 2 : Nat), .int .u64 (lm v_y 3 : Nat)]) rfl (by kernel_rfl) (by rfl) (fun w9 => (((w9.setCell ⟨b_y, 0, none⟩ (.int .u64 (lm v_y 0 : Nat))).setCell ⟨b_y, 1, none⟩ (.int .u64 (lm v_y 1 : Nat))).setCell ⟨b_y, 2, none⟩ (.int .u64 (lm v_y 2 : Nat))).setCell ⟨b_y, 3, none⟩ (.int .u64 (lm v_y 3 : Nat))) (fun w9 h9 => ⟨?_, ?_, ?_⟩) (fun _ _ h k => Chg.keeps (Or.inr hb_y) h k) (good_chg [] W1) (fun hG => ?_)
  · have n0 := cell_of_has h9 0; have n1 := cell_of_has h9 1; have n2 := cell_of_has h9 2; have n3 := cell_of_has h9 3
    simp only [glA, glB, glC] at n0 n1 n2 n3
    have z0 := frozen_of_has h9 0; have z1 := frozen_of_has h9 1; have z2 := frozen_of_has h9 2; have z3 := frozen_of_has h9 3
    clear h9
    go_simp
    try with_reducible rfl
  · exact U4.put_x (x := fun _ => 0) h9 v_y
  · exact Chg.put_x (Chg.refl _ _) (Or.inl (by simp)) v_y
  refine Abs.at_put (d := none) rfl ?_
  simp only [Act.put, stA, stB, stC]
  refine Abs.done (by kernel_rfl) (fun wx hx => NoPanic.normal ?_) _
  clear hllR v_m_0 v_m_1 v_m_2 v_m_3 v_s_0 v_s_1 v_s_2 v_s_3 v_x_0 v_x_1 v_x_2 v_x_3 v_y4_0 v_y4_1 v_y4_2 v_y4_3
  obtain ⟨hA, hN⟩ := hx
  have l_y : b_y4 < b_y := Nat.lt_of_lt_of_le H_y4.out.lt hb_y
  have hN : U4 wx b_y 24 (lm v_y) := hN
  replace HP := Lib.hid (HP.out.ch hA)
  replace HBA := Lib.hid (HBA.out.chg hA nmN)
  replace HR := Lib.hid (HR.out.chg hA nmN)
  replace H_y2 := Lib.hid (H_y2.out.chg hA nmN)
  replace H_s := Lib.hid (H_s.out.chg hA nmN)
  replace H_x2 := Lib.hid (H_x2.out.chg hA nmN)
  replace H_m := Lib.hid (H_m.out.chg hA nmN)
  replace H_x := Lib.hid (H_x.out.chg hA nmN)
  replace H_y4 := Lib.hid (H_y4.out.chg hA nmN)
  replace HC := Lib.hid (HC.out.trans hA)
  have H_y := Lib.hid hN
  clear hA hN hb_y
  go_upto_region 14 with fail
  have Ay0 := (HBA.out).cy (k := 0) (by omega)
  have Ay1 := (HBA.out).cy (k := 1) (by omega)
  have Ay2 := (HBA.out).cy (k := 2) (by omega)
  have Ay3 := (HBA.out).cy (k := 3) (by omega)
  have Az0 := (HBA.out).cz (k := 0) (by omega)
  have Az1 := (HBA.out).cz (k := 1) (by omega)
  have Az2 := (HBA.out).cz (k := 2) (by omega)
  have Az3 := (HBA.out).cz (k := 3) (by omega)
  have hllR := HR.out.lt
  go_wp2_with fail
  refine (C_z0.out _ HP.out).mono ?_
  rintro e w1 ⟨rfl, hC1⟩
  clear hllR Ay0 Ay1 Ay2 Ay3 Az0 Az1 Az2 Az3
  replace HP := Lib.hid (HP.out.ch hC1)
  replace HBA := Lib.hid (HBA.out.chg hC1 nmN)
  replace HR := Lib.hid (HR.out.chg hC1 nmN)
  replace H_y2 := Lib.hid (H_y2.out.chg hC1 nmN)
  replace H_s := Lib.hid (H_s.out.chg hC1 nmN)
  replace H_x2 := Lib.hid (H_x2.out.chg hC1 nmN)
  replace H_m := Lib.hid (H_m.out.chg hC1 nmN)
  replace H_x := Lib.hid (H_x.out.chg hC1 nmN)
  replace H_y4 := Lib.hid (H_y4.out.chg hC1 nmN)
  replace H_y := Lib.hid (H_y.out.chg hC1 nmN)
  replace HC := Lib.hid (HC.out.trans hC1)
  clear hC1
  obtain ⟨W1, hW1⟩ : ∃ W1, w1.alloc (.cells #[.int .u64 (lm v_z0 0 : Nat), .int .u64 (lm v_z0 1 : Nat), .int .u64 (lm v_z0 2 : Nat), .int .u64 (lm v_z0 3 : Nat)] 24) = W1 := ⟨_, rfl⟩
  have hA : Chg [] w1 W1 := by rw [← hW1]; exact (Chg.refl _ _).alloc _
  have hN : U4 W1 w1.heap.size 24 (lm v_z0) := by rw [← hW1]; exact has_alloc_new _ _
  obtain ⟨b_z, hb⟩ : ∃ b, w1.heap.size = b := ⟨_, rfl⟩
  have l_z : b_y < b_z := by rw [← hb]; exact H_y.out.lt
  rw [hb] at hN
  replace HP := Lib.hid (HP.out.ch hA)
  replace HBA := Lib.hid (HBA.out.chg hA nmN)
  replace HR := Lib.hid (HR.out.chg hA nmN)
  replace H_y2 := Lib.hid (H_y2.out.chg hA nmN)
  replace H_s := Lib.hid (H_s.out.chg hA nmN)
  replace H_x2 := Lib.hid (H_x2.out.chg hA nmN)
  replace H_m := Lib.hid (H_m.out.chg hA nmN)
  replace H_x := Lib.hid (H_x.out.chg hA nmN)
  replace H_y4 := Lib.hid (H_y4.out.chg hA nmN)
  replace H_y := Lib.hid (H_y.out.chg hA nmN)
  replace HC := Lib.hid (HC.out.trans hA)
  have H_z := Lib.hid hN
  go_upto_region 15 with fail
  try rw [hW1]
  try rw [hb]
  clear hW1 hb hA hN
  obtain ⟨v_x_0, v_x_1, v_x_2, v_x_3⟩ := four4 fun _ => (H_x.out).cell
  obtain ⟨v_y_0, v_y_1, v_y_2, v_y_3⟩ := four4 fun _ => (H_y.out).cell
  obtain ⟨v_z_0, v_z_1, v_z_2, v_z_3⟩ := four4 fun _ => (H_z.out).cell
  have hllR := HR.out.lt
  have hRz := HR.out
  refine abs_region (B := Chg [R] W1) (S := fun w => Chg [R] W1 w ∧ w.heap[R]? = some (.cells #[.int .u64 0, .int .u64 0, .int .u64 0, .int .u64 0, .int .u64 0, .int .u64 0, .int .u64 0, .int .u64 0, .int .u64 0, .int .u64 0, .int .u64 0, .int .u64 0] 66 (0, 0))) (by kernel_rfl) ⟨(Chg.refl _ _).drew, hRz⟩ ?_
  have hG := good_at [R] W1 R (.cells #[.int .u64 0, .int .u64 0, .int .u64 0, .int .u64 0, .int .u64 0, .int .u64 0, .int .u64 0, .int .u64 0, .int .u64 0, .int .u64 0, .int .u64 0, .int .u64 0] 66 (0, 0))
  refine Abs.take_at (i := 0) (d := some 97) (v := ?_) rfl rfl (by kernel_rfl) (by kernel_rfl) (by kernel_rfl) (fun _ _ _ h => h) hG ⟨by rfl, fun w9 hw9 => Or.inl ?_⟩ ?_
  rotate_left
  · replace v_x_0 := hw9.cell v_x_0 (by simp; omega); replace v_x_1 := hw9.cell v_x_1 (by simp; omega); replace v_x_2 := hw9.cell v_x_2 (by simp; omega); replace v_x_3 := hw9.cell v_x_3 (by simp; omega)
    go_simp
    try with_reducible rfl
  simp only [Act.put, stA, stB, stC]
  refine Abs.take_at (i := 1) (d := some 98) (v := ?_) rfl rfl (by kernel_rfl) (by kernel_rfl) (by kernel_rfl) (fun _ _ _ h => h) hG ⟨by rfl, fun w9 hw9 => Or.inl ?_⟩ ?_
  rotate_left
  · replace v_y_0 := hw9.cell v_y_0 (by simp; omega); replace v_y_1 := hw9.cell v_y_1 (by simp; omega); replace v_y_2 := hw9.cell v_y_2 (by simp; omega); replace v_y_3 := hw9.cell v_y_3 (by simp; omega)
    go_simp
    try with_reducible rfl
  simp only [Act.put, stA, stB, stC]
  refine Abs.take_at (i := 2) (d := some 99) (v := ?_) rfl rfl (by kernel_rfl) (by kernel_rfl) (by kernel_rfl) (fun _ _ _ h => h) hG ⟨by rfl, fun w9 hw9 => Or.inl ?_⟩ ?_
  rotate_left
  · go_simp
    try with_reducible rfl
  simp only [Act.put, stA, stB, stC]
  refine Abs.take_at (i := 3) (d := some 100) (v := ?_) rfl rfl (by kernel_rfl) (by kernel_rfl) (by kernel_rfl) (fun _ _ _ h => h) hG ⟨by rfl, fun w9 hw9 => Or.inl ?_⟩ ?_
  rotate_left
  · replace v_z_0 := hw9.cell v_z_0 (by simp; omega); replace v_z_1 := hw9.cell v_z_1 (by simp; omega); replace v_z_2 := hw9.cell v_z_2 (by simp; omega); replace v_z_3 := hw9.cell v_z_3 (by simp; omega)
    go_simp
    try with_reducible rfl
  simp only [Act.put, stA, stB, stC]
  refine Abs.take_at (i := 4) (d := some 101) (v := ?_) rfl rfl (by kernel_rfl) (by kernel_rfl) (by kernel_rfl) (fun _ _ _ h => h) hG ⟨by rfl, fun w9 hw9 => Or.inl ?_⟩ ?_
  rotate_left
  · replace v_z_0 := hw9.cell v_z_0 (by simp; omega); replace v_z_1 := hw9.cell v_z_1 (by simp; omega); replace v_z_2 := hw9.cell v_z_2 (by simp; omega); replace v_z_3 := hw9.cell v_z_3 (by simp; omega)
    go_simp
    try with_reducible rfl
  simp only [Act.put, stA, stB, stC]
  refine Abs.take_at (i := 5) (d := some 102) (v := _) rfl rfl (by kernel_rfl) (by kernel_rfl) (by kernel_rfl) (fun _ _ _ h => h) hG ⟨by rfl, fun w9 hw9 => Or.inr ⟨_, _, ?_, C_z.out w9 (HP.out.chS hw9 (by simp; omega) (by simp; omega))⟩⟩ ?_
  · go_simp
    try with_reducible rfl
  simp only [Act.put, stA, stB, stC]
  refine Abs.take_at (i := 6) (d := some 103) (v := ?_) rfl rfl (by kernel_rfl) (by kernel_rfl) (by kernel_rfl) (fun _ _ _ h => h) hG ⟨by rfl, fun w9 hw9 => Or.inl ?_⟩ ?_
  rotate_left
  · go_simp
    try with_reducible rfl
  simp only [Act.put, stA, stB, stC]
  refine Abs.store4 (i := 7) (b := R) (ds := #[.int .u64 (lm v_x 0 : Nat), .int .u64 (lm v_x 1 : Nat), .int .u64 (lm v_x 2 : Nat), .int .u64 (lm v_x 3 : Nat), .int .u64 (lm v_y 0 : Nat), .int .u64 (lm v_y 1 : Nat), .int .u64 (lm v_y 2 : Nat), .int .u64 (lm v_y 3 : Nat), .int .u64 (lm v_z 0 : Nat), .int .u64 (lm v_z 1 : Nat), .int .u64 (lm v_z 2 : Nat), .int .u64 (lm v_z 3 : Nat)]) rfl (by kernel_rfl) (by rfl) (fun w9 => ((((((((((((w9.setCell ⟨R, 0, none⟩ (.int .u64 (lm v_x 0 : Nat))).setCell ⟨R, 1, none⟩ (.int .u64 (lm v_x 1 : Nat))).setCell ⟨R, 2, none⟩ (.int .u64 (lm v_x 2 : Nat))).setCell ⟨R, 3, none⟩ (.int .u64 (lm v_x 3 : Nat))).setCell ⟨R, 4, none⟩ (.int .u64 (lm v_y 0 : Nat))).setCell ⟨R, 5, none⟩ (.int .u64 (lm v_y 1 : Nat))).setCell ⟨R, 6, none⟩ (.int .u64 (lm v_y 2 : Nat))).setCell ⟨R, 7, none⟩ (.int .u64 (lm v_y 3 : Nat))).setCell ⟨R, 8, none⟩ (.int .u64 (lm v_z 0 : Nat))).setCell ⟨R, 9, none⟩ (.int .u64 (lm v_z 1 : Nat))).setCell ⟨R, 10, none⟩ (.int .u64 (lm v_z 2 : Nat))).setCell ⟨R, 11, none⟩ (.int .u64 (lm v_z 3 : Nat)))) (fun w9 h9 => ⟨?_, ?_, ?_⟩) (fun _ _ h k => Chg.keeps (Or.inl (by simp)) h k) (good_chg [R] W1) (fun hG => ?_)
  · have n0 := cell_of_has h9 0; have n1 := cell_of_has h9 1; have n2 := cell_of_has h9 2; have n3 := cell_of_has h9 3; have n4 := cell_of_has h9 4; have n5 := cell_of_has h9 5; have n6 := cell_of_has h9 6; have n7 := cell_of_has h9 7; have n8 := cell_of_has h9 8; have n9 := cell_of_has h9 9; have n10 := cell_of_has h9 10; have n11 := cell_of_has h9 11
    simp only [glA, glB, glC] at n0 n1 n2 n3 n4 n5 n6 n7 n8 n9 n10 n11
    have nz0 := frozen_of_has h9 0; have nz1 := frozen_of_has h9 1; have nz2 := frozen_of_has h9 2; have nz3 := frozen_of_has h9 3; have nz4 := frozen_of_has h9 4; have nz5 := frozen_of_has h9 5; have nz6 := frozen_of_has h9 6; have nz7 := frozen_of_has h9 7; have nz8 := frozen_of_has h9 8; have nz9 := frozen_of_has h9 9; have nz10 := frozen_of_has h9 10; have nz11 := frozen_of_has h9 11
    clear h9
    go_simp
    try with_reducible rfl
  · exact U12.put (x := 0) (y := 0) (z := 0) (by unfold U12; rw [lm_zero, lm_zero, lm_zero, lm_zero]; exact h9) v_x v_y v_z
  · exact Chg.put12 (Chg.refl _ _) (Or.inl (by simp)) v_x v_y v_z
  refine Abs.at_put (d := none) rfl ?_
  simp only [Act.put, stA, stB, stC]
  refine Abs.done (by kernel_rfl) (fun wx hx => NoPanic.normal ?_) _
  clear hllR v_x_0 v_x_1 v_x_2 v_x_3 v_y_0 v_y_1 v_y_2 v_y_3 v_z_0 v_z_1 v_z_2 v_z_3
  obtain ⟨hA, hN⟩ := hx
  have hCF : Chg [] w wx := HC.out.trans_new hA (by simp; omega)
  clear hA HC HP HR
  have g0 := cell_of_has hN 0; have g1 := cell_of_has hN 1; have g2 := cell_of_has hN 2; have g3 := cell_of_has hN 3; have g4 := cell_of_has hN 4; have g5 := cell_of_has hN 5; have g6 := cell_of_has hN 6; have g7 := cell_of_has hN 7; have g8 := cell_of_has hN 8; have g9 := cell_of_has hN 9; have g10 := cell_of_has hN 10; have g11 := cell_of_has hN 11
  simp only [glA, glB, glC] at g0 g1 g2 g3 g4 g5 g6 g7 g8 g9 g10 g11
  go_wp2_with fail
  exact bodyPost_ret (v := .agg #[.int .u64 (lm v_x 0 : Nat), .int .u64 (lm v_x 1 : Nat), .int .u64 (lm v_x 2 : Nat), .int .u64 (lm v_x 3 : Nat), .int .u64 (lm v_y 0 : Nat), .int .u64 (lm v_y 1 : Nat), .int .u64 (lm v_y 2 : Nat), .int .u64 (lm v_y 3 : Nat), .int .u64 (lm v_z 0 : Nat), .int .u64 (lm v_z 1 : Nat), .int .u64 (lm v_z 2 : Nat), .int .u64 (lm v_z 3 : Nat)]) (by simp [results, Try.results50, go_sem, g0, g1, g2, g3, g4, g5, g6, g7, g8, g9, g10, g11]) rfl ⟨rfl, hCF⟩

end Go.Proofs.Ytplldbmjdnikeaa

/- The walks of curve.plane.twice at zero, curve.plane.plus. Printed by plus.py, slp.py. -/
namespace Go.Proofs.Ytplldbmjdnikeaa
set_option linter.unusedVariables false
set_option linter.unusedSimpArgs false
open Go.RowKit

set_option maxHeartbeats 1000000 in
theorem Z12.putz {w : World} {b : Nat} {t : TypeId} (h : Z12 w b t) : Z12 ((((((((((((w.setCell ⟨b, 0, none⟩ (.int .u64 0)).setCell ⟨b, 1, none⟩ (.int .u64 0)).setCell ⟨b, 2, none⟩ (.int .u64 0)).setCell ⟨b, 3, none⟩ (.int .u64 0)).setCell ⟨b, 4, none⟩ (.int .u64 0)).setCell ⟨b, 5, none⟩ (.int .u64 0)).setCell ⟨b, 6, none⟩ (.int .u64 0)).setCell ⟨b, 7, none⟩ (.int .u64 0)).setCell ⟨b, 8, none⟩ (.int .u64 0)).setCell ⟨b, 9, none⟩ (.int .u64 0)).setCell ⟨b, 10, none⟩ (.int .u64 0)).setCell ⟨b, 11, none⟩ (.int .u64 0)) b t := by
  have h0 := has_set h 0 (.int .u64 0)
  simp only [List.setIfInBounds_toArray, List.set_cons_zero, List.set_cons_succ] at h0
  have h1 := has_set h0 1 (.int .u64 0)
  simp only [List.setIfInBounds_toArray, List.set_cons_zero, List.set_cons_succ] at h1
  have h2 := has_set h1 2 (.int .u64 0)
  simp only [List.setIfInBounds_toArray, List.set_cons_zero, List.set_cons_succ] at h2
  have h3 := has_set h2 3 (.int .u64 0)
  simp only [List.setIfInBounds_toArray, List.set_cons_zero, List.set_cons_succ] at h3
  have h4 := has_set h3 4 (.int .u64 0)
  simp only [List.setIfInBounds_toArray, List.set_cons_zero, List.set_cons_succ] at h4
  have h5 := has_set h4 5 (.int .u64 0)
  simp only [List.setIfInBounds_toArray, List.set_cons_zero, List.set_cons_succ] at h5
  have h6 := has_set h5 6 (.int .u64 0)
  simp only [List.setIfInBounds_toArray, List.set_cons_zero, List.set_cons_succ] at h6
  have h7 := has_set h6 7 (.int .u64 0)
  simp only [List.setIfInBounds_toArray, List.set_cons_zero, List.set_cons_succ] at h7
  have h8 := has_set h7 8 (.int .u64 0)
  simp only [List.setIfInBounds_toArray, List.set_cons_zero, List.set_cons_succ] at h8
  have h9 := has_set h8 9 (.int .u64 0)
  simp only [List.setIfInBounds_toArray, List.set_cons_zero, List.set_cons_succ] at h9
  have h10 := has_set h9 10 (.int .u64 0)
  simp only [List.setIfInBounds_toArray, List.set_cons_zero, List.set_cons_succ] at h10
  have h11 := has_set h10 11 (.int .u64 0)
  simp only [List.setIfInBounds_toArray, List.set_cons_zero, List.set_cons_succ] at h11
  exact h11
theorem Chg.putz {S : List Nat} {a w : World} (h : Chg S a w) {b : Nat} (hb : b ∈ S ∨ a.heap.size ≤ b) : Chg S a ((((((((((((w.setCell ⟨b, 0, none⟩ (.int .u64 0)).setCell ⟨b, 1, none⟩ (.int .u64 0)).setCell ⟨b, 2, none⟩ (.int .u64 0)).setCell ⟨b, 3, none⟩ (.int .u64 0)).setCell ⟨b, 4, none⟩ (.int .u64 0)).setCell ⟨b, 5, none⟩ (.int .u64 0)).setCell ⟨b, 6, none⟩ (.int .u64 0)).setCell ⟨b, 7, none⟩ (.int .u64 0)).setCell ⟨b, 8, none⟩ (.int .u64 0)).setCell ⟨b, 9, none⟩ (.int .u64 0)).setCell ⟨b, 10, none⟩ (.int .u64 0)).setCell ⟨b, 11, none⟩ (.int .u64 0)) :=
  ((((((((((((h.setCell hb _).setCell hb _).setCell hb _).setCell hb _).setCell hb _).setCell hb _).setCell hb _).setCell hb _).setCell hb _).setCell hb _).setCell hb _).setCell hb _)
theorem jv_zero : jv ⟨0, 0, 0⟩ = #[.int .u64 0, .int .u64 0, .int .u64 0, .int .u64 0, .int .u64 0, .int .u64 0, .int .u64 0, .int .u64 0, .int .u64 0, .int .u64 0, .int .u64 0, .int .u64 0] := by
  unfold jv
  rw [show (J.mk 0 0 0).x = 0 from rfl, show (J.mk 0 0 0).y = 0 from rfl, show (J.mk 0 0 0).z = 0 from rfl, mu_zero, lm_zero, lm_zero, lm_zero, lm_zero]
  rfl

set_option maxRecDepth 100000 in
set_option maxHeartbeats 8000000 in
theorem plane_twice_z {l a : Nat} (p : J) (hz : p.z = 0) (w : World) (hP : Pl w l a PP vP) :
    Calls Try.prog 50 #[.pointer (some ⟨l, 0, none⟩), .agg (jv p)] w fun e w' =>
    e = .returned (.agg (jv ⟨0, 0, 0⟩)) ∧ Chg [] w w' := by
  rw [jv_zero]
  obtain ⟨Axv, hv_Ax⟩ : ∃ v, mu p.x = v := ⟨_, rfl⟩
  obtain ⟨Ayv, hv_Ay⟩ : ∃ v, mu p.y = v := ⟨_, rfl⟩
  obtain ⟨Azv, hv_Az⟩ : ∃ v, mu p.z = v := ⟨_, rfl⟩
  have q1 := fun w => pl_eq0 hv_Az true (by simpa using hz) w
  unfold jv
  rw [hv_Ax, hv_Ay, hv_Az]
  obtain ⟨W0, hW0⟩ : ∃ W0, (w.alloc (.cells #[.int .u64 (lm Axv 0 : Nat), .int .u64 (lm Axv 1 : Nat), .int .u64 (lm Axv 2 : Nat), .int .u64 (lm Axv 3 : Nat), .int .u64 (lm Ayv 0 : Nat), .int .u64 (lm Ayv 1 : Nat), .int .u64 (lm Ayv 2 : Nat), .int .u64 (lm Ayv 3 : Nat), .int .u64 (lm Azv 0 : Nat), .int .u64 (lm Azv 1 : Nat), .int .u64 (lm Azv 2 : Nat), .int .u64 (lm Azv 3 : Nat)] 66)).alloc (.cells #[.int .u64 0, .int .u64 0, .int .u64 0, .int .u64 0, .int .u64 0, .int .u64 0, .int .u64 0, .int .u64 0, .int .u64 0, .int .u64 0, .int .u64 0, .int .u64 0] 66) = W0 := ⟨_, rfl⟩
  have hBA : U12 W0 (w.heap.size) 66 Axv Ayv Azv := by rw [← hW0]; exact has_alloc (has_alloc_new _ _)
  have hR : Z12 W0 (w.heap.size + 1) 66 := by rw [← hW0]; exact has_alloc_at (by simp)
  have hC : Chg [] w W0 := by rw [← hW0]; exact ((Chg.refl _ _).alloc _).alloc _
  have hlP : l < w.heap.size := lt_of_has hP.1
  have haP : a < w.heap.size := lt_of_has hP.2
  replace hP := hP.ch hC
  have HP := Lib.hid hP; have HC := Lib.hid hC; have HR := Lib.hid hR
  have HBA := Lib.hid hBA
  clear hP hC hR hBA
  have hbA := HBA.out
  obtain ⟨Az0, Az1, Az2, Az3⟩ := four4 fun _ => hbA.cz
  clear hbA
  go_enter Try.func50, Try.ntmps50
  go_upto_region 2 with fail
  try rw [hW0]
  clear hW0
  obtain ⟨P, hP⟩ : ∃ P, w.heap.size = P := ⟨_, rfl⟩
  rw [hP] at HBA HR hlP haP ⊢
  obtain ⟨R, hR⟩ : ∃ R, P + 1 = R := ⟨_, rfl⟩
  rw [hR] at HR ⊢
  have hRP : P < R := by omega
  have hPw := hP
  replace hPw := Lib.hid hPw
  have hRR := Lib.hid hR
  clear hR
  clear q1 Az0 Az1 Az2 Az3
  have hRz := HR.out
  have n0 := cell_of_has hRz 0; have n1 := cell_of_has hRz 1; have n2 := cell_of_has hRz 2; have n3 := cell_of_has hRz 3; have n4 := cell_of_has hRz 4; have n5 := cell_of_has hRz 5; have n6 := cell_of_has hRz 6; have n7 := cell_of_has hRz 7; have n8 := cell_of_has hRz 8; have n9 := cell_of_has hRz 9; have n10 := cell_of_has hRz 10; have n11 := cell_of_has hRz 11
  simp only [glA, glB, glC] at n0 n1 n2 n3 n4 n5 n6 n7 n8 n9 n10 n11
  have nz0 := frozen_of_has hRz 0; have nz1 := frozen_of_has hRz 1; have nz2 := frozen_of_has hRz 2; have nz3 := frozen_of_has hRz 3; have nz4 := frozen_of_has hRz 4; have nz5 := frozen_of_has hRz 5; have nz6 := frozen_of_has hRz 6; have nz7 := frozen_of_has hRz 7; have nz8 := frozen_of_has hRz 8; have nz9 := frozen_of_has hRz 9; have nz10 := frozen_of_has hRz 10; have nz11 := frozen_of_has hRz 11
  have hll := hRz.lt
  have HF := Lib.hid hRz.putz; have HCF := Lib.hid (HC.out.putz (b := R) (Or.inr (by omega)))
  clear hRz
  go_wp2_with fail
  have hF := HF.out
  have hCF := HCF.out
  refine (id ?_ : bodyPost _ _ _ _ _ ((((((((((((W0.setCell ⟨R, 0, none⟩ (.int .u64 0)).setCell ⟨R, 1, none⟩ (.int .u64 0)).setCell ⟨R, 2, none⟩ (.int .u64 0)).setCell ⟨R, 3, none⟩ (.int .u64 0)).setCell ⟨R, 4, none⟩ (.int .u64 0)).setCell ⟨R, 5, none⟩ (.int .u64 0)).setCell ⟨R, 6, none⟩ (.int .u64 0)).setCell ⟨R, 7, none⟩ (.int .u64 0)).setCell ⟨R, 8, none⟩ (.int .u64 0)).setCell ⟨R, 9, none⟩ (.int .u64 0)).setCell ⟨R, 10, none⟩ (.int .u64 0)).setCell ⟨R, 11, none⟩ (.int .u64 0)))
  clear HF HCF
  generalize ((((((((((((W0.setCell ⟨R, 0, none⟩ (.int .u64 0)).setCell ⟨R, 1, none⟩ (.int .u64 0)).setCell ⟨R, 2, none⟩ (.int .u64 0)).setCell ⟨R, 3, none⟩ (.int .u64 0)).setCell ⟨R, 4, none⟩ (.int .u64 0)).setCell ⟨R, 5, none⟩ (.int .u64 0)).setCell ⟨R, 6, none⟩ (.int .u64 0)).setCell ⟨R, 7, none⟩ (.int .u64 0)).setCell ⟨R, 8, none⟩ (.int .u64 0)).setCell ⟨R, 9, none⟩ (.int .u64 0)).setCell ⟨R, 10, none⟩ (.int .u64 0)).setCell ⟨R, 11, none⟩ (.int .u64 0)) = W5 at *
  have g0 := cell_of_has hF 0; have g1 := cell_of_has hF 1; have g2 := cell_of_has hF 2; have g3 := cell_of_has hF 3; have g4 := cell_of_has hF 4; have g5 := cell_of_has hF 5; have g6 := cell_of_has hF 6; have g7 := cell_of_has hF 7; have g8 := cell_of_has hF 8; have g9 := cell_of_has hF 9; have g10 := cell_of_has hF 10; have g11 := cell_of_has hF 11
  simp only [glA, glB, glC] at g0 g1 g2 g3 g4 g5 g6 g7 g8 g9 g10 g11
  exact bodyPost_ret (v := .agg #[.int .u64 0, .int .u64 0, .int .u64 0, .int .u64 0, .int .u64 0, .int .u64 0, .int .u64 0, .int .u64 0, .int .u64 0, .int .u64 0, .int .u64 0, .int .u64 0]) (by simp [results, Try.results50, go_sem, g0, g1, g2, g3, g4, g5, g6, g7, g8, g9, g10, g11]) rfl ⟨rfl, hCF⟩

set_option maxRecDepth 100000 in
set_option maxHeartbeats 8000000 in
theorem plane_twice_y {l a : Nat} (p : J) (hz : ¬ p.z = 0) (hy : p.y = 0) (w : World) (hP : Pl w l a PP vP) :
    Calls Try.prog 50 #[.pointer (some ⟨l, 0, none⟩), .agg (jv p)] w fun e w' =>
    e = .returned (.agg (jv ⟨0, 0, 0⟩)) ∧ Chg [] w w' := by
  rw [jv_zero]
  obtain ⟨Axv, hv_Ax⟩ : ∃ v, mu p.x = v := ⟨_, rfl⟩
  obtain ⟨Ayv, hv_Ay⟩ : ∃ v, mu p.y = v := ⟨_, rfl⟩
  obtain ⟨Azv, hv_Az⟩ : ∃ v, mu p.z = v := ⟨_, rfl⟩
  have q1 := fun w => pl_eq0 hv_Az false (by simpa using hz) w
  have q2 := fun w => pl_eq0 hv_Ay true (by simpa using hy) w
  unfold jv
  rw [hv_Ax, hv_Ay, hv_Az]
  obtain ⟨W0, hW0⟩ : ∃ W0, (w.alloc (.cells #[.int .u64 (lm Axv 0 : Nat), .int .u64 (lm Axv 1 : Nat), .int .u64 (lm Axv 2 : Nat), .int .u64 (lm Axv 3 : Nat), .int .u64 (lm Ayv 0 : Nat), .int .u64 (lm Ayv 1 : Nat), .int .u64 (lm Ayv 2 : Nat), .int .u64 (lm Ayv 3 : Nat), .int .u64 (lm Azv 0 : Nat), .int .u64 (lm Azv 1 : Nat), .int .u64 (lm Azv 2 : Nat), .int .u64 (lm Azv 3 : Nat)] 66)).alloc (.cells #[.int .u64 0, .int .u64 0, .int .u64 0, .int .u64 0, .int .u64 0, .int .u64 0, .int .u64 0, .int .u64 0, .int .u64 0, .int .u64 0, .int .u64 0, .int .u64 0] 66) = W0 := ⟨_, rfl⟩
  have hBA : U12 W0 (w.heap.size) 66 Axv Ayv Azv := by rw [← hW0]; exact has_alloc (has_alloc_new _ _)
  have hR : Z12 W0 (w.heap.size + 1) 66 := by rw [← hW0]; exact has_alloc_at (by simp)
  have hC : Chg [] w W0 := by rw [← hW0]; exact ((Chg.refl _ _).alloc _).alloc _
  have hlP : l < w.heap.size := lt_of_has hP.1
  have haP : a < w.heap.size := lt_of_has hP.2
  replace hP := hP.ch hC
  have HP := Lib.hid hP; have HC := Lib.hid hC; have HR := Lib.hid hR
  have HBA := Lib.hid hBA
  clear hP hC hR hBA
  have hbA := HBA.out
  obtain ⟨Az0, Az1, Az2, Az3⟩ := four4 fun _ => hbA.cz; obtain ⟨Ay0, Ay1, Ay2, Ay3⟩ := four4 fun _ => hbA.cy
  clear hbA
  go_enter Try.func50, Try.ntmps50
  go_upto_region 2 with fail
  try rw [hW0]
  clear hW0
  obtain ⟨P, hP⟩ : ∃ P, w.heap.size = P := ⟨_, rfl⟩
  rw [hP] at HBA HR hlP haP ⊢
  obtain ⟨R, hR⟩ : ∃ R, P + 1 = R := ⟨_, rfl⟩
  rw [hR] at HR ⊢
  have hRP : P < R := by omega
  have hPw := hP
  replace hPw := Lib.hid hPw
  have hRR := Lib.hid hR
  clear hR
  clear q1 q2 Az0 Ay0 Az1 Ay1 Az2 Ay2 Az3 Ay3
  have hRz := HR.out
  have n0 := cell_of_has hRz 0; have n1 := cell_of_has hRz 1; have n2 := cell_of_has hRz 2; have n3 := cell_of_has hRz 3; have n4 := cell_of_has hRz 4; have n5 := cell_of_has hRz 5; have n6 := cell_of_has hRz 6; have n7 := cell_of_has hRz 7; have n8 := cell_of_has hRz 8; have n9 := cell_of_has hRz 9; have n10 := cell_of_has hRz 10; have n11 := cell_of_has hRz 11
  simp only [glA, glB, glC] at n0 n1 n2 n3 n4 n5 n6 n7 n8 n9 n10 n11
  have nz0 := frozen_of_has hRz 0; have nz1 := frozen_of_has hRz 1; have nz2 := frozen_of_has hRz 2; have nz3 := frozen_of_has hRz 3; have nz4 := frozen_of_has hRz 4; have nz5 := frozen_of_has hRz 5; have nz6 := frozen_of_has hRz 6; have nz7 := frozen_of_has hRz 7; have nz8 := frozen_of_has hRz 8; have nz9 := frozen_of_has hRz 9; have nz10 := frozen_of_has hRz 10; have nz11 := frozen_of_has hRz 11
  have hll := hRz.lt
  have HF := Lib.hid hRz.putz; have HCF := Lib.hid (HC.out.putz (b := R) (Or.inr (by omega)))
  clear hRz
  go_wp2_with fail
  have hF := HF.out
  have hCF := HCF.out
  refine (id ?_ : bodyPost _ _ _ _ _ ((((((((((((W0.setCell ⟨R, 0, none⟩ (.int .u64 0)).setCell ⟨R, 1, none⟩ (.int .u64 0)).setCell ⟨R, 2, none⟩ (.int .u64 0)).setCell ⟨R, 3, none⟩ (.int .u64 0)).setCell ⟨R, 4, none⟩ (.int .u64 0)).setCell ⟨R, 5, none⟩ (.int .u64 0)).setCell ⟨R, 6, none⟩ (.int .u64 0)).setCell ⟨R, 7, none⟩ (.int .u64 0)).setCell ⟨R, 8, none⟩ (.int .u64 0)).setCell ⟨R, 9, none⟩ (.int .u64 0)).setCell ⟨R, 10, none⟩ (.int .u64 0)).setCell ⟨R, 11, none⟩ (.int .u64 0)))
  clear HF HCF
  generalize ((((((((((((W0.setCell ⟨R, 0, none⟩ (.int .u64 0)).setCell ⟨R, 1, none⟩ (.int .u64 0)).setCell ⟨R, 2, none⟩ (.int .u64 0)).setCell ⟨R, 3, none⟩ (.int .u64 0)).setCell ⟨R, 4, none⟩ (.int .u64 0)).setCell ⟨R, 5, none⟩ (.int .u64 0)).setCell ⟨R, 6, none⟩ (.int .u64 0)).setCell ⟨R, 7, none⟩ (.int .u64 0)).setCell ⟨R, 8, none⟩ (.int .u64 0)).setCell ⟨R, 9, none⟩ (.int .u64 0)).setCell ⟨R, 10, none⟩ (.int .u64 0)).setCell ⟨R, 11, none⟩ (.int .u64 0)) = W5 at *
  have g0 := cell_of_has hF 0; have g1 := cell_of_has hF 1; have g2 := cell_of_has hF 2; have g3 := cell_of_has hF 3; have g4 := cell_of_has hF 4; have g5 := cell_of_has hF 5; have g6 := cell_of_has hF 6; have g7 := cell_of_has hF 7; have g8 := cell_of_has hF 8; have g9 := cell_of_has hF 9; have g10 := cell_of_has hF 10; have g11 := cell_of_has hF 11
  simp only [glA, glB, glC] at g0 g1 g2 g3 g4 g5 g6 g7 g8 g9 g10 g11
  exact bodyPost_ret (v := .agg #[.int .u64 0, .int .u64 0, .int .u64 0, .int .u64 0, .int .u64 0, .int .u64 0, .int .u64 0, .int .u64 0, .int .u64 0, .int .u64 0, .int .u64 0, .int .u64 0]) (by simp [results, Try.results50, go_sem, g0, g1, g2, g3, g4, g5, g6, g7, g8, g9, g10, g11]) rfl ⟨rfl, hCF⟩

theorem plane_twice {l a : Nat} (p : J) (w : World) (hP : Pl w l a PP vP) :
    Calls Try.prog 50 #[.pointer (some ⟨l, 0, none⟩), .agg (jv p)] w fun e w' =>
    e = .returned (.agg (jv (jtw p))) ∧ Chg [] w w' := by
  unfold jtw
  by_cases hz : p.z = 0
  · rw [if_pos (Or.inl hz)]; exact plane_twice_z p hz w hP
  · by_cases hy : p.y = 0
    · rw [if_pos (Or.inr hy)]; exact plane_twice_y p hz hy w hP
    · rw [if_neg (by simp [hz, hy])]; exact plane_twice_n p hz hy w hP

end Go.Proofs.Ytplldbmjdnikeaa
