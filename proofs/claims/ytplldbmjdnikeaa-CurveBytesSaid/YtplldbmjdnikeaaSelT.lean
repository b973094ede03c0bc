/- limb.Select for any bit. Printed by selt.py. -/
import Derived.Test.YtplldbmjdnikeaaLb1
namespace Go.Proofs.Ytplldbmjdnikeaa
set_option linter.unusedVariables false
set_option linter.unusedSimpArgs false
open Go.RowKit

set_option maxRecDepth 100000 in
set_option maxHeartbeats 2000000 in
theorem limb_sel1 (t : Nat) (hb : bits .and .u64 ((t : Nat) : Int) 1 = 1) (a b : Nat) (w : World) : Calls Try.prog 86 #[.int .u64 (t : Nat), .agg (num a), .agg (num b)] w fun e w' =>
    e = .returned (.agg (num a)) ∧ Chg [] w w' := by
  unfold num limbs
  obtain ⟨W0, hW0⟩ : ∃ W0, (((w.alloc (.cells (limbs (lm a)) 24)).alloc (.cells (limbs (lm b)) 24)).alloc (.cells (limbs fun _ => 0) 24)).alloc (.cells (limbs fun _ => 0) 24) = W0 := ⟨_, rfl⟩
  have uA : U4 W0 w.heap.size 24 (lm a) := by rw [← hW0]; exact has_alloc (has_alloc (has_alloc (has_alloc_new _ _)))
  have uB : U4 W0 (w.heap.size + 1) 24 (lm b) := by rw [← hW0]; exact has_alloc (has_alloc (has_alloc_at (by simp)))
  have uR : U4 W0 (w.heap.size + 1 + 1) 24 (fun _ => 0) := by rw [← hW0]; exact has_alloc (has_alloc_at (by simp))
  have uO : U4 W0 (w.heap.size + 1 + 1 + 1) 24 (fun _ => 0) := by rw [← hW0]; exact has_alloc_at (by simp)
  have hC0 : Chg [] w W0 := by rw [← hW0]; exact ((((Chg.refl _ _).alloc _).alloc _).alloc _).alloc _
  have UA := Lib.hid uA; have UB := Lib.hid uB; have UR := Lib.hid uR; have UO := Lib.hid uO; have HC0 := Lib.hid hC0
  unfold limbs at hW0
  clear uA uB uR uO hC0
  have hm : IntKind.u64.wrap (-bits BinOp.and IntKind.u64 ((t : Nat) : Int) 1) = 18446744073709551615 := by rw [hb]; kernel_rfl
  clear hb
  go_enter Try.func86, Try.ntmps86
  go_wp2_with fail
  rw [show (((w.alloc (.cells #[.int .u64 (lm a 0 : Nat), .int .u64 (lm a 1 : Nat), .int .u64 (lm a 2 : Nat), .int .u64 (lm a 3 : Nat)] 24)).alloc (.cells #[.int .u64 (lm b 0 : Nat), .int .u64 (lm b 1 : Nat), .int .u64 (lm b 2 : Nat), .int .u64 (lm b 3 : Nat)] 24)).alloc (.cells #[.int .u64 0, .int .u64 0, .int .u64 0, .int .u64 0] 24)).alloc (.cells #[.int .u64 0, .int .u64 0, .int .u64 0, .int .u64 0] 24) = W0 from hW0]
  clear hW0 hm
  obtain ⟨P, hP⟩ : ∃ P, w.heap.size = P := ⟨_, rfl⟩
  rw [hP] at UA UB UR UO ⊢
  go_loopw [13] (fun i wr => ∃ k : Nat, k ≤ 4 ∧ i = .int .i64 k ∧ U4 wr (P + 1 + 1 + 1) 24 (fun j => if j < k then lm a j else 0) ∧ Chg [P + 1 + 1 + 1] W0 wr) (fun i _ => 4 - (intOf i).toNat)
  case atStart => exact ⟨0, by omega, rfl, UO.out.same (fun k _ => by simp), Chg.refl _ _⟩
  case round =>
    obtain ⟨k, hk, rfl, hO, hC⟩ := hrel
    have HC := Lib.hid hC; have HO := Lib.hid hO
    clear hC hO
    by_cases hlt : k < 4
    · have cA := (UA.out.chg HC.out (by simp; omega)).cell hlt
      have cB := (UB.out.chg HC.out (by simp; try omega)).cell hlt
      have cO := HO.out.cell hlt
      have zO := HO.out.fz k
      have hll := HO.out.lt
      have hxl := lm_lt a k
      obtain ⟨x, hx⟩ : ∃ x, lm a k = x := ⟨_, rfl⟩
      obtain ⟨y, hy⟩ : ∃ y, lm b k = y := ⟨_, rfl⟩
      rw [hx] at cA hxl
      rw [hy] at cB
      have HX := Lib.hid hx
      have f1 := and_full x hxl
      have f2 := andNot_full y
      have f3 := or_zero x hxl
      clear hx hy
      go_wp2_with fail
      go_region
      go_wp2_with fail
      refine ⟨⟨k+1, by omega, by go_num, ?_, ?_⟩, by simp [intOf]; omega⟩
      · refine ((HO.out.set hlt x).same fun j hj => ?_)
        by_cases e : j = k
        · subst e; simp [HX.out]
        · by_cases e2 : j < k
          · simp [e, e2, Nat.lt_succ_of_lt e2]
          · have : ¬ j < k + 1 := by omega
            simp [e, e2, this]
      · repeat (with_reducible first | exact HC.out | refine Chg.setCell ?_ (Or.inl (by simp)) _ | apply Chg.drew | apply Chg.drewN)
    · obtain rfl : k = 4 := by omega
      have hO4 := HO.out.same (y := lm a) (fun k hk => by simp [hk])
      have hR4 := UR.out.chg HC.out (by simp)
      obtain ⟨o0, o1, o2, o3⟩ := four4 fun _ => hO4.cell
      obtain ⟨r0, r1, r2, r3⟩ := four4 fun _ => hR4.cell
      have z0 := hR4.fz 0; have z1 := hR4.fz 1; have z2 := hR4.fz 2; have z3 := hR4.fz 3
      have hCW := HC0.out.trans_new HC.out (by simp; omega)
      have hll := hR4.lt
      have HF := Lib.hid (hR4.put (lm a)); have HCF := Lib.hid (hCW.put4 (b := P + 1 + 1) (Or.inr (by omega)) (lm a))
      clear hO4 hR4 hCW
      go_wp2_with fail
      have hF := HF.out
      have hCF := HCF.out
      refine (id ?_ : bodyPost _ _ _ _ _ (put4 wr (P + 1 + 1) (lm a)))
      clear HF HCF
      generalize put4 wr (P + 1 + 1) (lm a) = W5 at *
      obtain ⟨g0, g1, g2, g3⟩ := four4 fun _ => hF.cell
      exact bodyPost_ret (v := .agg (num a)) (by simp [results, Try.results86, go_sem, num, limbs, g0, g1, g2, g3]) rfl ⟨rfl, hCF⟩

set_option maxRecDepth 100000 in
set_option maxHeartbeats 2000000 in
theorem limb_sel0 (t : Nat) (hb : bits .and .u64 ((t : Nat) : Int) 1 = 0) (a b : Nat) (w : World) : Calls Try.prog 86 #[.int .u64 (t : Nat), .agg (num a), .agg (num b)] w fun e w' =>
    e = .returned (.agg (num b)) ∧ Chg [] w w' := by
  unfold num limbs
  obtain ⟨W0, hW0⟩ : ∃ W0, (((w.alloc (.cells (limbs (lm a)) 24)).alloc (.cells (limbs (lm b)) 24)).alloc (.cells (limbs fun _ => 0) 24)).alloc (.cells (limbs fun _ => 0) 24) = W0 := ⟨_, rfl⟩
  have uA : U4 W0 w.heap.size 24 (lm a) := by rw [← hW0]; exact has_alloc (has_alloc (has_alloc (has_alloc_new _ _)))
  have uB : U4 W0 (w.heap.size + 1) 24 (lm b) := by rw [← hW0]; exact has_alloc (has_alloc (has_alloc_at (by simp)))
  have uR : U4 W0 (w.heap.size + 1 + 1) 24 (fun _ => 0) := by rw [← hW0]; exact has_alloc (has_alloc_at (by simp))
  have uO : U4 W0 (w.heap.size + 1 + 1 + 1) 24 (fun _ => 0) := by rw [← hW0]; exact has_alloc_at (by simp)
  have hC0 : Chg [] w W0 := by rw [← hW0]; exact ((((Chg.refl _ _).alloc _).alloc _).alloc _).alloc _
  have UA := Lib.hid uA; have UB := Lib.hid uB; have UR := Lib.hid uR; have UO := Lib.hid uO; have HC0 := Lib.hid hC0
  unfold limbs at hW0
  clear uA uB uR uO hC0
  have hm : IntKind.u64.wrap (-bits BinOp.and IntKind.u64 ((t : Nat) : Int) 1) = 0 := by rw [hb]; kernel_rfl
  clear hb
  go_enter Try.func86, Try.ntmps86
  go_wp2_with fail
  rw [show (((w.alloc (.cells #[.int .u64 (lm a 0 : Nat), .int .u64 (lm a 1 : Nat), .int .u64 (lm a 2 : Nat), .int .u64 (lm a 3 : Nat)] 24)).alloc (.cells #[.int .u64 (lm b 0 : Nat), .int .u64 (lm b 1 : Nat), .int .u64 (lm b 2 : Nat), .int .u64 (lm b 3 : Nat)] 24)).alloc (.cells #[.int .u64 0, .int .u64 0, .int .u64 0, .int .u64 0] 24)).alloc (.cells #[.int .u64 0, .int .u64 0, .int .u64 0, .int .u64 0] 24) = W0 from hW0]
  clear hW0 hm
  obtain ⟨P, hP⟩ : ∃ P, w.heap.size = P := ⟨_, rfl⟩
  rw [hP] at UA UB UR UO ⊢
  go_loopw [13] (fun i wr => ∃ k : Nat, k ≤ 4 ∧ i = .int .i64 k ∧ U4 wr (P + 1 + 1 + 1) 24 (fun j => if j < k then lm b j else 0) ∧ Chg [P + 1 + 1 + 1] W0 wr) (fun i _ => 4 - (intOf i).toNat)
  case atStart => exact ⟨0, by omega, rfl, UO.out.same (fun k _ => by simp), Chg.refl _ _⟩
  case round =>
    obtain ⟨k, hk, rfl, hO, hC⟩ := hrel
    have HC := Lib.hid hC; have HO := Lib.hid hO
    clear hC hO
    by_cases hlt : k < 4
    · have cA := (UA.out.chg HC.out (by simp; omega)).cell hlt
      have cB := (UB.out.chg HC.out (by simp; try omega)).cell hlt
      have cO := HO.out.cell hlt
      have zO := HO.out.fz k
      have hll := HO.out.lt
      have hxl := lm_lt b k
      obtain ⟨x, hx⟩ : ∃ x, lm a k = x := ⟨_, rfl⟩
      obtain ⟨y, hy⟩ : ∃ y, lm b k = y := ⟨_, rfl⟩
      rw [hx] at cA
      rw [hy] at cB hxl
      have HX := Lib.hid hy
      have f1 := and_zero x
      have f2 := andNot_zero y hxl
      have f3 := zero_or y hxl
      clear hx hy
      go_wp2_with fail
      go_region
      go_wp2_with fail
      refine ⟨⟨k+1, by omega, by go_num, ?_, ?_⟩, by simp [intOf]; omega⟩
      · refine ((HO.out.set hlt y).same fun j hj => ?_)
        by_cases e : j = k
        · subst e; simp [HX.out]
        · by_cases e2 : j < k
          · simp [e, e2, Nat.lt_succ_of_lt e2]
          · have : ¬ j < k + 1 := by omega
            simp [e, e2, this]
      · repeat (with_reducible first | exact HC.out | refine Chg.setCell ?_ (Or.inl (by simp)) _ | apply Chg.drew | apply Chg.drewN)
    · obtain rfl : k = 4 := by omega
      have hO4 := HO.out.same (y := lm b) (fun k hk => by simp [hk])
      have hR4 := UR.out.chg HC.out (by simp)
      obtain ⟨o0, o1, o2, o3⟩ := four4 fun _ => hO4.cell
      obtain ⟨r0, r1, r2, r3⟩ := four4 fun _ => hR4.cell
      have z0 := hR4.fz 0; have z1 := hR4.fz 1; have z2 := hR4.fz 2; have z3 := hR4.fz 3
      have hCW := HC0.out.trans_new HC.out (by simp; omega)
      have hll := hR4.lt
      have HF := Lib.hid (hR4.put (lm b)); have HCF := Lib.hid (hCW.put4 (b := P + 1 + 1) (Or.inr (by omega)) (lm b))
      clear hO4 hR4 hCW
      go_wp2_with fail
      have hF := HF.out
      have hCF := HCF.out
      refine (id ?_ : bodyPost _ _ _ _ _ (put4 wr (P + 1 + 1) (lm b)))
      clear HF HCF
      generalize put4 wr (P + 1 + 1) (lm b) = W5 at *
      obtain ⟨g0, g1, g2, g3⟩ := four4 fun _ => hF.cell
      exact bodyPost_ret (v := .agg (num b)) (by simp [results, Try.results86, go_sem, num, limbs, g0, g1, g2, g3]) rfl ⟨rfl, hCF⟩

theorem limb_sel (t : Nat) (ht : t < 18446744073709551616) (a b : Nat) (w : World) : Calls Try.prog 86 #[.int .u64 (t : Nat), .agg (num a), .agg (num b)] w fun e w' =>
    e = .returned (.agg (num (if t % 2 = 1 then a else b))) ∧ Chg [] w w' := by
  have h := bits_and_u64_nat t 1 ht (by omega)
  rw [Nat.and_one_is_mod] at h
  have : t % 2 = 0 ∨ t % 2 = 1 := by omega
  rcases this with h0 | h0
  · rw [h0] at h
    rw [if_neg (by omega)]
    exact limb_sel0 t h a b w
  · rw [h0] at h
    rw [if_pos h0]
    exact limb_sel1 t h a b w

end Go.Proofs.Ytplldbmjdnikeaa
