/- The walk of curve.Mul. Printed by mulc.py. -/
import Derived.Test.YtplldbmjdnikeaaSumC
namespace Go.Proofs.Ytplldbmjdnikeaa
set_option linter.unusedVariables false
set_option linter.unusedSimpArgs false
open Go.RowKit

/-- A multiple, or nothing. -/
noncomputable def mulV (e k : Nat) (P : Pc) : Pd := if e = 0 then ofP (mulP k P) else ⟨0, 0, false⟩
theorem reads_one {w : World} {b k : Nat} {t : TypeId} (h : U4 w b t (lm k)) : ReadsN w (some ⟨b, 0, none⟩) [k] := fun _ => ⟨b, 0, rfl, lt_of_has h, fun i hi c hc => by
  obtain rfl : i = 0 := by simpa using hi
  rw [Nat.zero_mul, Nat.add_zero, Nat.zero_add]
  exact h.cell hc⟩
theorem readsP_one {w : World} {b : Nat} {p : Pd} {t : TypeId} (h : w.heap[b]? = some (.cells (pv p) t (0, 0))) : ReadsP w (some ⟨b, 0, none⟩) [p] := fun _ => ⟨b, 0, rfl, lt_of_has h, fun i hi c hc => by
  obtain rfl : i = 0 := by simpa using hi
  rw [Nat.zero_mul, Nat.add_zero, Nat.zero_add]
  exact cell_of_has h c⟩

set_option maxRecDepth 100000 in
set_option maxHeartbeats 4000000 in
theorem curve_mul {k e : Nat} {p : Pd} {P : Pc} (hE : ErrOf k p P e) (w : World) :
    Calls Try.prog 20 #[.agg #[.int .u64 (lm k 0 : Nat), .int .u64 (lm k 1 : Nat), .int .u64 (lm k 2 : Nat), .int .u64 (lm k 3 : Nat)], .agg (pv p)] w fun x w' => x = .returned (.tuple #[.agg (pv (mulV e k P)), .int .i64 (e : Nat)]) ∧ Chg [] w w' := by
  have hsum := fun Ak Ap ck cp w hK hS => curve_sum (ks := [k]) (ps := [p]) (P := fun _ => P) (es := fun _ => e) (Ak := Ak) (Ap := Ap) (ck := ck) (cp := cp) rfl (Nat.le_of_ble_eq_true rfl) w hK hS (fun i hi => by
    obtain rfl : i = 0 := by simpa using hi
    exact hE)
  have e1 : firstE (fun _ => e) [k].length = e := rfl
  have e2 : manyV (fun _ => e) [k] (fun _ => P) [k].length = mulV e k P := by
    unfold manyV mulV
    rw [e1]
    show (if e = 0 then ofP (addP .inf (mulP k P)) else _) = _
    rw [inf_add]
  rw [e1, e2] at hsum
  obtain ⟨T, hT⟩ : ∃ T, mulV e k P = T := ⟨_, rfl⟩
  rw [hT] at hsum ⊢
  obtain ⟨rx, ry, ri⟩ := T
  obtain ⟨px, py, pi⟩ := p
  unfold pv at hsum ⊢
  obtain ⟨E, hEe⟩ : ∃ E : Int, ((e : Nat) : Int) = E := ⟨_, rfl⟩
  rw [hEe] at hsum ⊢
  have HSum := Lib.hid hsum
  clear hsum e1 e2 hE hT hEe
  obtain ⟨W0, hW0⟩ : ∃ W0, ((w.alloc (.cells #[.int .u64 (lm k 0 : Nat), .int .u64 (lm k 1 : Nat), .int .u64 (lm k 2 : Nat), .int .u64 (lm k 3 : Nat)] 24)).alloc (.cells #[.int .u64 (lm px 0 : Nat), .int .u64 (lm px 1 : Nat), .int .u64 (lm px 2 : Nat), .int .u64 (lm px 3 : Nat), .int .u64 (lm py 0 : Nat), .int .u64 (lm py 1 : Nat), .int .u64 (lm py 2 : Nat), .int .u64 (lm py 3 : Nat), .bool pi] 26)).alloc (.cells #[.int .u64 0, .int .u64 0, .int .u64 0, .int .u64 0, .int .u64 0, .int .u64 0, .int .u64 0, .int .u64 0, .bool false] 26) = W0 := ⟨_, rfl⟩
  obtain ⟨B, hB⟩ : ∃ B, w.heap.size = B := ⟨_, rfl⟩
  have hUk : U4 W0 B 24 (lm k) := by rw [← hW0, ← hB]; exact has_alloc (has_alloc (has_alloc_new _ _))
  have hUp : U9 W0 (B + 1) px py pi := by rw [← hW0, ← hB]; exact has_alloc (has_alloc_at (by simp))
  have hR : U9 W0 (B + 2) 0 0 false := U9.zero (by rw [← hW0, ← hB]; exact has_alloc_at (by simp))
  have hC : Chg [] w W0 := by rw [← hW0]; exact (((Chg.refl _ _).alloc _).alloc _).alloc _
  have hS0 : W0.heap.size = B + 3 := by rw [← hW0, ← hB]; simp
  obtain ⟨k0, k1, k2, k3⟩ := four4 fun _ => hUk.cell
  obtain ⟨p0, p1, p2, p3, p4, p5, p6, p7, p8⟩ := hUp.all
  have HK := Lib.hid hUk; have HP := Lib.hid hUp; have HR := Lib.hid hR; have HC := Lib.hid hC
  have hl1 : B < W0.heap.size := by omega
  have hl2 : B + 1 < W0.heap.size := by omega
  clear hUk hUp hR hC
  go_enter Try.func20, Try.ntmps20
  go_upto_region 1 with fail
  try rw [hW0]
  clear hW0
  go_wp2_with fail
  refine (HSum.out _ _ _ _ _ (reads_one (has_alloc (has_alloc_at hS0))) (readsP_one (has_alloc_at (by simp; omega)))).mono ?_
  rintro e w9 ⟨rfl, hC9⟩
  have hCw : Chg [] w w9 := ((HC.out.alloc _).alloc _).trans hC9
  have hR9 : U9 w9 (B + 2) 0 0 false := U9.chg (has_alloc (has_alloc HR.out)) hC9 nmN
  obtain ⟨R, hRe⟩ : ∃ R, B + 2 = R := ⟨_, rfl⟩
  rw [show B + 1 + 1 = R from hRe]
  rw [hRe] at hR9
  have hwR : w.heap.size ≤ R := by omega
  clear k0 k1 k2 k3 p0 p1 p2 p3 p4 p5 p6 p7 p8 hS0 hl1 hl2 hB hRe hC9
  obtain ⟨n0, n1, n2, n3, n4, n5, n6, n7, n8⟩ := hR9.all
  obtain ⟨nz0, nz1, nz2, nz3, nz4, nz5, nz6, nz7, nz8⟩ := hR9.fzs
  have hll := hR9.lt
  have HF9 := Lib.hid (hR9.put rx ry ri); have HCF := Lib.hid (hCw.put9 (b := R) (Or.inr hwR) rx ry ri)
  clear hR9 hCw
  go_wp2_with fail
  have hF := HF9.out; have hCF := HCF.out
  refine (id ?_ : bodyPost _ _ _ _ _ (put9 w9 R rx ry ri))
  clear HF9 HCF
  generalize put9 w9 R rx ry ri = W5 at *
  obtain ⟨g0, g1, g2, g3, g4, g5, g6, g7, g8⟩ := hF.all
  exact bodyPost_ret (v := .tuple #[.agg #[.int .u64 (lm rx 0 : Nat), .int .u64 (lm rx 1 : Nat), .int .u64 (lm rx 2 : Nat), .int .u64 (lm rx 3 : Nat), .int .u64 (lm ry 0 : Nat), .int .u64 (lm ry 1 : Nat), .int .u64 (lm ry 2 : Nat), .int .u64 (lm ry 3 : Nat), .bool ri], .int .i64 E]) (by simp [results, Try.results20, go_sem, g0, g1, g2, g3, g4, g5, g6, g7, g8]) rfl ⟨rfl, hCF⟩

end Go.Proofs.Ytplldbmjdnikeaa
