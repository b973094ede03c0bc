/- The document's base field: small contracts. Printed by cutb.py. -/
import Derived.Test.YtplldbmjdnikeaaRe2
import Derived.Test.YtplldbmjdnikeaaCurveJ
import Derived.Test.YtplldbmjdnikeaaAn
namespace Go.Proofs.Ytplldbmjdnikeaa
set_option linter.unusedVariables false
set_option linter.unusedSimpArgs false
open Go.RowKit

theorem rp_mul {x y : Fin PP} {u v t : Nat} (hu : x.val = u) (hv : y.val = v) (ht : (x * y).val = t) (w : World) : Calls Try.prog 42 #[.agg #[.int .u64 (lm PP 0 : Nat), .int .u64 (lm PP 1 : Nat), .int .u64 (lm PP 2 : Nat), .int .u64 (lm PP 3 : Nat), .int .u64 (lm cP 0 : Nat), .int .u64 (lm cP 1 : Nat), .int .u64 (lm cP 2 : Nat), .int .u64 (lm cP 3 : Nat)], .agg #[.int .u64 (lm u 0 : Nat), .int .u64 (lm u 1 : Nat), .int .u64 (lm u 2 : Nat), .int .u64 (lm u 3 : Nat)], .agg #[.int .u64 (lm v 0 : Nat), .int .u64 (lm v 1 : Nat), .int .u64 (lm v 2 : Nat), .int .u64 (lm v 3 : Nat)]] w fun e w' => e = .returned (.agg #[.int .u64 (lm t 0 : Nat), .int .u64 (lm t 1 : Nat), .int .u64 (lm t 2 : Nat), .int .u64 (lm t 3 : Nat)]) ∧ Chg [] w w' := by
  subst hu; subst hv; subst ht
  rw [Fin.val_mul]
  exact ref_mul dc_P (val_lt4 x) (val_lt4 y) w
theorem rp_add {x y : Fin PP} {u v t : Nat} (hu : x.val = u) (hv : y.val = v) (ht : (x + y).val = t) (w : World) : Calls Try.prog 75 #[.agg #[.int .u64 (lm PP 0 : Nat), .int .u64 (lm PP 1 : Nat), .int .u64 (lm PP 2 : Nat), .int .u64 (lm PP 3 : Nat), .int .u64 (lm cP 0 : Nat), .int .u64 (lm cP 1 : Nat), .int .u64 (lm cP 2 : Nat), .int .u64 (lm cP 3 : Nat)], .agg #[.int .u64 (lm u 0 : Nat), .int .u64 (lm u 1 : Nat), .int .u64 (lm u 2 : Nat), .int .u64 (lm u 3 : Nat)], .agg #[.int .u64 (lm v 0 : Nat), .int .u64 (lm v 1 : Nat), .int .u64 (lm v 2 : Nat), .int .u64 (lm v 3 : Nat)]] w fun e w' => e = .returned (.agg #[.int .u64 (lm t 0 : Nat), .int .u64 (lm t 1 : Nat), .int .u64 (lm t 2 : Nat), .int .u64 (lm t 3 : Nat)]) ∧ Chg [] w w' := by
  subst hu; subst hv; subst ht
  rw [Fin.val_add]
  exact ref_add dc_P.lt x.isLt y.isLt w
theorem sub_val (x y : Fin PP) : (x - y).val = (x.val + PP - y.val) % PP := by
  have h : (x - y).val = (PP - y.val + x.val) % PP := Fin.val_sub x y
  rw [h]
  congr 1
  have := y.isLt
  omega
theorem rp_sub {x y : Fin PP} {u v t : Nat} (hu : x.val = u) (hv : y.val = v) (ht : (x - y).val = t) (w : World) : Calls Try.prog 46 #[.agg #[.int .u64 (lm PP 0 : Nat), .int .u64 (lm PP 1 : Nat), .int .u64 (lm PP 2 : Nat), .int .u64 (lm PP 3 : Nat), .int .u64 (lm cP 0 : Nat), .int .u64 (lm cP 1 : Nat), .int .u64 (lm cP 2 : Nat), .int .u64 (lm cP 3 : Nat)], .agg #[.int .u64 (lm u 0 : Nat), .int .u64 (lm u 1 : Nat), .int .u64 (lm u 2 : Nat), .int .u64 (lm u 3 : Nat)], .agg #[.int .u64 (lm v 0 : Nat), .int .u64 (lm v 1 : Nat), .int .u64 (lm v 2 : Nat), .int .u64 (lm v 3 : Nat)]] w fun e w' => e = .returned (.agg #[.int .u64 (lm t 0 : Nat), .int .u64 (lm t 1 : Nat), .int .u64 (lm t 2 : Nat), .int .u64 (lm t 3 : Nat)]) ∧ Chg [] w w' := by
  subst hu; subst hv; subst ht
  rw [sub_val]
  exact ref_sub dc_P.lt x.isLt y.isLt w
theorem rp_zero {x : Fin PP} {u : Nat} (hu : x.val = u) (c : Bool) (hc : decide (x = 0) = c) (w : World) : Calls Try.prog 39 #[.agg #[.int .u64 (lm u 0 : Nat), .int .u64 (lm u 1 : Nat), .int .u64 (lm u 2 : Nat), .int .u64 (lm u 3 : Nat)]] w fun e w' => e = .returned (.bool c) ∧ Chg [] w w' := by
  subst hu
  have h := ref_zero (val_lt4 x) w
  rwa [show decide (x.val = 0) = c from by rw [← hc]; exact decide_eq_decide.2 ⟨fun h => Fin.ext (by rw [h]; rfl), fun h => by rw [h]; rfl⟩] at h

/-- The cells of a wardmoteref03.Over. -/
def ov (p : J) : Array Value := #[.int .u64 (lm p.x.val 0 : Nat), .int .u64 (lm p.x.val 1 : Nat), .int .u64 (lm p.x.val 2 : Nat), .int .u64 (lm p.x.val 3 : Nat), .int .u64 (lm p.y.val 0 : Nat), .int .u64 (lm p.y.val 1 : Nat), .int .u64 (lm p.y.val 2 : Nat), .int .u64 (lm p.y.val 3 : Nat), .int .u64 (lm p.z.val 0 : Nat), .int .u64 (lm p.z.val 1 : Nat), .int .u64 (lm p.z.val 2 : Nat), .int .u64 (lm p.z.val 3 : Nat)]
theorem ov_mk {x y z : Fin PP} {u v t : Nat} (hu : x.val = u) (hv : y.val = v) (ht : z.val = t) : ov ⟨x, y, z⟩ = #[.int .u64 (lm u 0 : Nat), .int .u64 (lm u 1 : Nat), .int .u64 (lm u 2 : Nat), .int .u64 (lm u 3 : Nat), .int .u64 (lm v 0 : Nat), .int .u64 (lm v 1 : Nat), .int .u64 (lm v 2 : Nat), .int .u64 (lm v 3 : Nat), .int .u64 (lm t 0 : Nat), .int .u64 (lm t 1 : Nat), .int .u64 (lm t 2 : Nat), .int .u64 (lm t 3 : Nat)] := by
  subst hu; subst hv; subst ht; rfl
theorem l4_one : (#[.int .u64 (lm 1 0 : Nat), .int .u64 (lm 1 1 : Nat), .int .u64 (lm 1 2 : Nat), .int .u64 (lm 1 3 : Nat)] : Array Value) = #[.int .u64 1, .int .u64 0, .int .u64 0, .int .u64 0] := num_1
theorem one_cells : lm 1 0 = 1 ∧ lm 1 1 = 0 ∧ lm 1 2 = 0 ∧ lm 1 3 = 0 := by decide +kernel
theorem one_val : ((1 : Fin PP).val) = 1 := by decide +kernel
theorem zero_val : ((0 : Fin PP).val) = 0 := by decide +kernel
theorem rp_base (w : World) : Calls Try.prog 40 #[] w fun e w' => e = .returned (.agg #[.int .u64 (lm PP 0 : Nat), .int .u64 (lm PP 1 : Nat), .int .u64 (lm PP 2 : Nat), .int .u64 (lm PP 3 : Nat), .int .u64 (lm cP 0 : Nat), .int .u64 (lm cP 1 : Nat), .int .u64 (lm cP 2 : Nat), .int .u64 (lm cP 3 : Nat)]) ∧ Chg [] w w' := ref_base w

end Go.Proofs.Ytplldbmjdnikeaa
