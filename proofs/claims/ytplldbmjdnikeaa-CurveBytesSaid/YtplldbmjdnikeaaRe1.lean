import Derived.Test.YtplldbmjdnikeaaLb3
import Derived.Test.YtplldbmjdnikeaaFi1

/- The document's numbers: the walks of wardmoteref02.Less, Zero. -/
namespace Go.Proofs.Ytplldbmjdnikeaa
set_option linter.unusedVariables false
set_option linter.unusedSimpArgs false
open Go.RowKit

theorem four_limbs {a : Nat} (ha : a < B6 ^ 4) : a = lm a 0 + lm a 1 * 18446744073709551616 + lm a 2 * 340282366920938463463374607431768211456 + lm a 3 * 6277101735386680763835789423207666416102355444464034512896 := by
  have h := val_lm' ha
  simp only [val, B6] at h
  omega
theorem less_limb {a b : Nat} (ha : a < B6 ^ 4) (hb : b < B6 ^ 4) {j : Nat} (hj : j < 4) (he : ∀ k, j < k → k < 4 → lm a k = lm b k) (hne : lm a j ≠ lm b j) : decide (a < b) = decide (lm a j < lm b j) := by
  have h1 := four_limbs ha
  have h2 := four_limbs hb
  have a0 := lm_lt a 0; have a1 := lm_lt a 1; have a2 := lm_lt a 2; have a3 := lm_lt a 3
  have b0 := lm_lt b 0; have b1 := lm_lt b 1; have b2 := lm_lt b 2; have b3 := lm_lt b 3
  have hc : j = 0 ∨ j = 1 ∨ j = 2 ∨ j = 3 := by omega
  apply decide_eq_decide.2
  rcases hc with rfl | rfl | rfl | rfl
  · have e1 := he 1 (by omega) (by omega); have e2 := he 2 (by omega) (by omega); have e3 := he 3 (by omega) (by omega)
    omega
  · have e2 := he 2 (by omega) (by omega); have e3 := he 3 (by omega) (by omega)
    omega
  · have e3 := he 3 (by omega) (by omega)
    omega
  · omega

set_option maxRecDepth 100000 in
set_option maxHeartbeats 4000000 in
theorem ref_less {a b : Nat} (ha : a < B6 ^ 4) (hb : b < B6 ^ 4) (w : World) : Calls Try.prog 76 #[.agg #[.int .u64 (lm a 0 : Nat), .int .u64 (lm a 1 : Nat), .int .u64 (lm a 2 : Nat), .int .u64 (lm a 3 : Nat)], .agg #[.int .u64 (lm b 0 : Nat), .int .u64 (lm b 1 : Nat), .int .u64 (lm b 2 : Nat), .int .u64 (lm b 3 : Nat)]] w fun e w' => e = .returned (.bool (decide (a < b))) ∧ Chg [] w w' := by
  obtain ⟨z, hz⟩ : ∃ z, decide (a < b) = z := ⟨_, rfl⟩
  rw [hz]
  have HZ := Lib.hid hz; have HA := Lib.hid ha; have HB := Lib.hid hb
  clear hz ha hb
  obtain ⟨W0, hW0⟩ : ∃ W0, (w.alloc (.cells #[.int .u64 (lm a 0 : Nat), .int .u64 (lm a 1 : Nat), .int .u64 (lm a 2 : Nat), .int .u64 (lm a 3 : Nat)] 24)).alloc (.cells #[.int .u64 (lm b 0 : Nat), .int .u64 (lm b 1 : Nat), .int .u64 (lm b 2 : Nat), .int .u64 (lm b 3 : Nat)] 24) = W0 := ⟨_, rfl⟩
  have UA := Lib.hid (show U4 W0 w.heap.size 24 (lm a) by rw [← hW0]; exact has_alloc (has_alloc_new _ _))
  have UB := Lib.hid (show U4 W0 (w.heap.size + 1) 24 (lm b) by rw [← hW0]; exact has_alloc_at (by simp))
  have HC := Lib.hid (show Chg [] w W0 by rw [← hW0]; exact ((Chg.refl _ _).alloc _).alloc _)
  go_enter Try.func76, Try.ntmps76
  go_wp2_with fail
  try rw [hW0]
  clear hW0
  obtain ⟨P, hP⟩ : ∃ P, w.heap.size = P := ⟨_, rfl⟩
  rw [hP] at UA UB ⊢
  go_loopw [5] (fun i wr => ∃ n : Nat, n ≤ 4 ∧ i = .int .i64 ((n : Int) - 1) ∧ Hid (∀ k, n ≤ k → k < 4 → lm a k = lm b k) ∧ Chg [] W0 wr) (fun i _ => (intOf i + 1).toNat)
  case atStart => exact ⟨4, by omega, rfl, Lib.hid (fun k h1 h2 => by omega), Chg.refl _ _⟩
  case round =>
    obtain ⟨n, hn, rfl, hE, hC⟩ := hrel
    by_cases hn0 : n = 0
    · subst hn0
      have HC2 := Lib.hid (HC.out.trans hC)
      have hab : a = b := lm_inj HA.out HB.out fun k hk => hE.out k (by omega) hk
      have HF : Hid (z = false) := Lib.hid (by rw [← HZ.out, hab]; simp)
      clear hC hab
      go_wp2_with fail
      go_ret
      exact ⟨by rw [HF.out]; rfl, HC2.out⟩
    · obtain ⟨j, rfl⟩ : ∃ j, n = j + 1 := ⟨n - 1, by omega⟩
      have e0 : ((j + 1 : Nat) : Int) - 1 = (j : Nat) := by omega
      rw [e0]
      clear e0 hn0
      have hj4 : j < 4 := by omega
      have cA := (UA.out.chg hC nmN).cell hj4
      have cB := (UB.out.chg hC nmN).cell hj4
      have HC2 := Lib.hid hC
      clear hC
      by_cases he : lm a j = lm b j
      · have HE2 : Hid (∀ k, j ≤ k → k < 4 → lm a k = lm b k) := Lib.hid (fun k h1 h2 => by
          by_cases e : k = j
          · rw [e]; exact he
          · exact hE.out k (by omega) h2)
        rw [he] at cA
        clear he hE
        go_wp2_with fail
        go_region
        go_wp2_with fail
        exact ⟨⟨j, by omega, by first | rfl | go_num, HE2, by repeat (with_reducible first | exact HC2.out | apply Chg.drew | apply Chg.drewN)⟩, by simp [intOf]⟩
      · have hl := less_limb HA.out HB.out hj4 (fun k h1 h2 => hE.out k (by omega) h2) he
        rw [HZ.out] at hl
        obtain ⟨x, hx⟩ : ∃ x, lm a j = x := ⟨_, rfl⟩
        obtain ⟨y, hy⟩ : ∃ y, lm b j = y := ⟨_, rfl⟩
        rw [hx, hy] at hl he
        rw [hx] at cA
        rw [hy] at cB
        have hne : ((x : Int) == (y : Int)) = false := by simp; omega
        have HL := Lib.hid hl
        clear hx hy hl he hE
        go_wp2_with fail
        go_region
        go_wp2_with fail
        go_region
        go_wp2_with fail
        go_ret
        refine ⟨by rw [HL.out]; rfl, ?_⟩
        repeat (with_reducible first | exact HC.out.trans HC2.out | apply Chg.drew | apply Chg.drewN)

set_option maxRecDepth 100000 in
set_option maxHeartbeats 4000000 in
theorem ref_zero {a : Nat} (ha : a < B6 ^ 4) (w : World) : Calls Try.prog 39 #[.agg #[.int .u64 (lm a 0 : Nat), .int .u64 (lm a 1 : Nat), .int .u64 (lm a 2 : Nat), .int .u64 (lm a 3 : Nat)]] w fun e w' => e = .returned (.bool (decide (a = 0))) ∧ Chg [] w w' := by
  have h4 := four_limbs ha
  have hne : ∀ x : Nat, x ≠ 0 → ((x : Int) == 0) = false := fun x h => by simp; omega
  obtain ⟨z, hz⟩ : ∃ z, decide (a = 0) = z := ⟨_, rfl⟩
  rw [hz]
  have hzf : ∀ k, k < 4 → lm a k ≠ 0 → z = false := fun k hk h => by
    rw [← hz, decide_eq_false_iff_not]
    intro e
    rw [e, lm_zero] at h
    exact h rfl
  have hzt : lm a 0 = 0 → lm a 1 = 0 → lm a 2 = 0 → lm a 3 = 0 → z = true := fun h0 h1 h2 h3 => by
    rw [← hz, decide_eq_true_iff]; omega
  have HC0 := hzf 0 (by omega); have HC1 := hzf 1 (by omega); have HC2 := hzf 2 (by omega); have HC3 := hzf 3 (by omega)
  clear hz hzf ha h4
  generalize lm a 0 = l0 at *
  generalize lm a 1 = l1 at *
  generalize lm a 2 = l2 at *
  generalize lm a 3 = l3 at *
  by_cases c0 : l0 = 0
  · subst c0
    by_cases c1 : l1 = 0
    · subst c1
      by_cases c2 : l2 = 0
      · subst c2
        by_cases c3 : l3 = 0
        · subst c3
          have HZ := Lib.hid (hzt rfl rfl rfl rfl)
          clear HC0 HC1 HC2 HC3 hzt hne
          go_enter Try.func39, Try.ntmps39
          go_wp2_with fail
          go_ret
          exact ⟨by rw [HZ.out]; rfl, (Chg.refl _ _).alloc _⟩
        · have HZ := Lib.hid (HC3 c3)
          have e3 := hne _ c3
          clear HC0 HC1 HC2 HC3 hzt hne c3
          go_enter Try.func39, Try.ntmps39
          go_wp2_with fail
          go_ret
          exact ⟨by rw [HZ.out]; rfl, (Chg.refl _ _).alloc _⟩
      · have HZ := Lib.hid (HC2 c2)
        have e2 := hne _ c2
        clear HC0 HC1 HC2 HC3 hzt hne c2
        go_enter Try.func39, Try.ntmps39
        go_wp2_with fail
        go_ret
        exact ⟨by rw [HZ.out]; rfl, (Chg.refl _ _).alloc _⟩
    · have HZ := Lib.hid (HC1 c1)
      have e1 := hne _ c1
      clear HC0 HC1 HC2 HC3 hzt hne c1
      go_enter Try.func39, Try.ntmps39
      go_wp2_with fail
      go_ret
      exact ⟨by rw [HZ.out]; rfl, (Chg.refl _ _).alloc _⟩
  · have HZ := Lib.hid (HC0 c0)
    have e0 := hne _ c0
    clear HC0 HC1 HC2 HC3 hzt hne c0
    go_enter Try.func39, Try.ntmps39
    go_wp2_with fail
    go_ret
    exact ⟨by rw [HZ.out]; rfl, (Chg.refl _ _).alloc _⟩

end Go.Proofs.Ytplldbmjdnikeaa

/- The document's numbers: the walks of wardmoteref02.Plus, Minus. -/
namespace Go.Proofs.Ytplldbmjdnikeaa
set_option linter.unusedVariables false
set_option linter.unusedSimpArgs false
open Go.RowKit

set_option maxRecDepth 100000 in
set_option maxHeartbeats 4000000 in
theorem ref_plus (a b : Nat) (w : World) : Calls Try.prog 79 #[.agg #[.int .u64 (lm a 0 : Nat), .int .u64 (lm a 1 : Nat), .int .u64 (lm a 2 : Nat), .int .u64 (lm a 3 : Nat)], .agg #[.int .u64 (lm b 0 : Nat), .int .u64 (lm b 1 : Nat), .int .u64 (lm b 2 : Nat), .int .u64 (lm b 3 : Nat)]] w fun e w' => e = .returned (.tuple #[.agg #[.int .u64 (lm (a + b) 0 : Nat), .int .u64 (lm (a + b) 1 : Nat), .int .u64 (lm (a + b) 2 : Nat), .int .u64 (lm (a + b) 3 : Nat)], .bool (decide (cry a b 4 = 1))]) ∧ Chg [] w w' := by
  have HLm := Lib.hid (fun k (hk : k < 4) => lm_add a b k)
  have HSu := Lib.hid (fun k => cry_succ a b k); have HLe := Lib.hid (fun k => cry_le a b k); have HZe := Lib.hid (cry_zero a b)
  obtain ⟨d, hd⟩ : ∃ d, a + b = d := ⟨_, rfl⟩
  rw [hd] at HLm ⊢
  have HD := Lib.hid hd
  clear hd
  obtain ⟨c4, hc4⟩ : ∃ c, cry a b 4 = c := ⟨_, rfl⟩
  have hcc : decide (cry a b 4 = 1) = ((c4 : Int) == 1) := by rw [hc4]; by_cases h : c4 = 1 <;> simp [h] <;> omega
  rw [hcc]
  have HC4 := Lib.hid hc4
  clear hcc hc4
  obtain ⟨W0, hW0⟩ : ∃ W0, (((w.alloc (.cells #[.int .u64 (lm a 0 : Nat), .int .u64 (lm a 1 : Nat), .int .u64 (lm a 2 : Nat), .int .u64 (lm a 3 : Nat)] 24)).alloc (.cells #[.int .u64 (lm b 0 : Nat), .int .u64 (lm b 1 : Nat), .int .u64 (lm b 2 : Nat), .int .u64 (lm b 3 : Nat)] 24)).alloc (.cells #[.int .u64 0, .int .u64 0, .int .u64 0, .int .u64 0] 24)).alloc (.cells #[.int .u64 0, .int .u64 0, .int .u64 0, .int .u64 0] 24) = W0 := ⟨_, rfl⟩
  have UA := Lib.hid (show U4 W0 w.heap.size 24 (lm a) by rw [← hW0]; exact has_alloc (has_alloc (has_alloc (has_alloc_new _ _))))
  have UB := Lib.hid (show U4 W0 (w.heap.size + 1) 24 (lm b) by rw [← hW0]; exact has_alloc (has_alloc (has_alloc_at (by simp))))
  have UR := Lib.hid (show U4 W0 (w.heap.size + 1 + 1) 24 (fun _ => 0) by rw [← hW0]; exact has_alloc (has_alloc_at (by simp)))
  have UO := Lib.hid (show U4 W0 (w.heap.size + 1 + 1 + 1) 24 (fun _ => 0) by rw [← hW0]; exact has_alloc_at (by simp))
  have HC0 := Lib.hid (show Chg [] w W0 by rw [← hW0]; exact ((((Chg.refl _ _).alloc _).alloc _).alloc _).alloc _)
  go_enter Try.func79, Try.ntmps79
  go_wp2_with fail
  try rw [hW0]
  clear hW0
  obtain ⟨P, hP⟩ : ∃ P, w.heap.size = P := ⟨_, rfl⟩
  rw [hP] at UA UB UR UO ⊢
  go_loopw [7, 8] (fun c i wr => ∃ k : Nat, k ≤ 4 ∧ i = .int .i64 k ∧ c = .int .u64 (cry a b k : Nat) ∧ U4 wr (P + 1 + 1 + 1) 24 (fun j => if j < k then lm d j else 0) ∧ Chg [P + 1 + 1 + 1] W0 wr) (fun _ i _ => 4 - (intOf i).toNat)
  case atStart => exact ⟨0, by omega, rfl, by rw [HZe.out]; rfl, UO.out.same (fun k _ => by simp), Chg.refl _ _⟩
  case round =>
    obtain ⟨k, hk, rfl, rfl, hO, hC⟩ := hrel
    have HC := Lib.hid hC; have HO := Lib.hid hO
    clear hC hO
    by_cases hlt : k < 4
    · have cA := (UA.out.chg HC.out (by simp; omega)).cell hlt
      have cB := (UB.out.chg HC.out (by simp; try omega)).cell hlt
      have cO := HO.out.cell hlt
      have zO := HO.out.fz k
      have hll := HO.out.lt
      obtain ⟨x, hx⟩ : ∃ x, lm a k = x := ⟨_, rfl⟩
      obtain ⟨y, hy⟩ : ∃ y, lm b k = y := ⟨_, rfl⟩
      obtain ⟨c, hc⟩ : ∃ c, cry a b k = c := ⟨_, rfl⟩
      obtain ⟨s, hs⟩ : ∃ s, (x + y + c) % 18446744073709551616 = s := ⟨_, rfl⟩
      obtain ⟨e, he⟩ : ∃ e : Nat, (x + y + c) / 18446744073709551616 = e := ⟨_, rfl⟩
      have hadd := fun w => add64 x y c (by rw [← hc]; exact HLe.out k) w
      have hS := HSu.out k
      have hL := HLm.out k hlt
      rw [hx, hy, hc, he] at hS
      rw [hx, hy, hc, hs] at hL
      simp only [hs, he] at hadd
      have HS := Lib.hid hS; have HL := Lib.hid hL
      rw [hx] at cA
      rw [hy] at cB
      rw [hc]
      clear hS hL hx hy hc hs he
      go_wp2_with fail
      go_region
      go_wp2_with fail
      refine ⟨⟨k+1, by omega, by go_num, ?_, ?_, ?_⟩, by simp [intOf]; omega⟩
      · rw [HS.out]
      · refine (HO.out.set hlt s).same fun j hj => ?_
        by_cases e : j = k
        · subst e; simp [HL.out]
        · by_cases e2 : j < k
          · simp [e, e2, Nat.lt_succ_of_lt e2]
          · have : ¬ j < k + 1 := by omega
            simp [e, e2, this]
      · repeat (with_reducible first | exact HC.out | refine Chg.setCell ?_ (Or.inl (by simp)) _ | apply Chg.drew | apply Chg.drewN)
    · obtain rfl : k = 4 := by omega
      have hO4 := HO.out.same (y := lm d) (fun k hk => by simp [hk])
      have hR4 := UR.out.chg HC.out (by simp)
      obtain ⟨o0, o1, o2, o3⟩ := four4 fun _ => (hO4).cell
      obtain ⟨r0, r1, r2, r3⟩ := four4 fun _ => (hR4).cell
      have rz0 := (hR4).fz 0; have rz1 := (hR4).fz 1; have rz2 := (hR4).fz 2; have rz3 := (hR4).fz 3
      have hCW := HC0.out.trans_new HC.out (by simp; omega)
      have hll := hR4.lt
      have HF := Lib.hid (hR4.put (lm d)); have HCF := Lib.hid (hCW.put4 (b := P + 1 + 1) (Or.inr (by omega)) (lm d))
      rw [HC4.out]
      clear hO4 hR4 hCW
      go_wp2_with fail
      have hF := HF.out
      have hCF := HCF.out
      refine (id ?_ : bodyPost _ _ _ _ _ (put4 wr (P + 1 + 1) (lm d)))
      clear HF HCF
      generalize put4 wr (P + 1 + 1) (lm d) = W5 at *
      obtain ⟨g0, g1, g2, g3⟩ := four4 fun _ => (hF).cell
      exact bodyPost_ret (v := .tuple #[.agg #[.int .u64 (lm d 0 : Nat), .int .u64 (lm d 1 : Nat), .int .u64 (lm d 2 : Nat), .int .u64 (lm d 3 : Nat)], .bool ((c4 : Int) == 1)]) (by simp [results, Try.results79, go_sem, g0, g1, g2, g3]) rfl ⟨rfl, hCF⟩

set_option maxRecDepth 100000 in
set_option maxHeartbeats 4000000 in
theorem ref_minus (a b : Nat) (hb : b ≤ B6 ^ 4) (w : World) : Calls Try.prog 80 #[.agg #[.int .u64 (lm a 0 : Nat), .int .u64 (lm a 1 : Nat), .int .u64 (lm a 2 : Nat), .int .u64 (lm a 3 : Nat)], .agg #[.int .u64 (lm b 0 : Nat), .int .u64 (lm b 1 : Nat), .int .u64 (lm b 2 : Nat), .int .u64 (lm b 3 : Nat)]] w fun e w' => e = .returned (.agg #[.int .u64 (lm (a + B6 ^ 4 - b) 0 : Nat), .int .u64 (lm (a + B6 ^ 4 - b) 1 : Nat), .int .u64 (lm (a + B6 ^ 4 - b) 2 : Nat), .int .u64 (lm (a + B6 ^ 4 - b) 3 : Nat)]) ∧ Chg [] w w' := by
  have HLm := Lib.hid (fun k (hk : k < 4) => lm_sub a b k hb hk)
  have HSu := Lib.hid (fun k => bor_succ a b k); have HLe := Lib.hid (fun k => bor_le a b k); have HZe := Lib.hid (bor_zero a b)
  obtain ⟨d, hd⟩ : ∃ d, a + B6 ^ 4 - b = d := ⟨_, rfl⟩
  rw [hd] at HLm ⊢
  clear hb
  clear hd
  obtain ⟨W0, hW0⟩ : ∃ W0, (((w.alloc (.cells #[.int .u64 (lm a 0 : Nat), .int .u64 (lm a 1 : Nat), .int .u64 (lm a 2 : Nat), .int .u64 (lm a 3 : Nat)] 24)).alloc (.cells #[.int .u64 (lm b 0 : Nat), .int .u64 (lm b 1 : Nat), .int .u64 (lm b 2 : Nat), .int .u64 (lm b 3 : Nat)] 24)).alloc (.cells #[.int .u64 0, .int .u64 0, .int .u64 0, .int .u64 0] 24)).alloc (.cells #[.int .u64 0, .int .u64 0, .int .u64 0, .int .u64 0] 24) = W0 := ⟨_, rfl⟩
  have UA := Lib.hid (show U4 W0 w.heap.size 24 (lm a) by rw [← hW0]; exact has_alloc (has_alloc (has_alloc (has_alloc_new _ _))))
  have UB := Lib.hid (show U4 W0 (w.heap.size + 1) 24 (lm b) by rw [← hW0]; exact has_alloc (has_alloc (has_alloc_at (by simp))))
  have UR := Lib.hid (show U4 W0 (w.heap.size + 1 + 1) 24 (fun _ => 0) by rw [← hW0]; exact has_alloc (has_alloc_at (by simp)))
  have UO := Lib.hid (show U4 W0 (w.heap.size + 1 + 1 + 1) 24 (fun _ => 0) by rw [← hW0]; exact has_alloc_at (by simp))
  have HC0 := Lib.hid (show Chg [] w W0 by rw [← hW0]; exact ((((Chg.refl _ _).alloc _).alloc _).alloc _).alloc _)
  go_enter Try.func80, Try.ntmps80
  go_wp2_with fail
  try rw [hW0]
  clear hW0
  obtain ⟨P, hP⟩ : ∃ P, w.heap.size = P := ⟨_, rfl⟩
  rw [hP] at UA UB UR UO ⊢
  go_loopw [6, 7] (fun c i wr => ∃ k : Nat, k ≤ 4 ∧ i = .int .i64 k ∧ c = .int .u64 (bor a b k : Nat) ∧ U4 wr (P + 1 + 1 + 1) 24 (fun j => if j < k then lm d j else 0) ∧ Chg [P + 1 + 1 + 1] W0 wr) (fun _ i _ => 4 - (intOf i).toNat)
  case atStart => exact ⟨0, by omega, rfl, by rw [HZe.out]; rfl, UO.out.same (fun k _ => by simp), Chg.refl _ _⟩
  case round =>
    obtain ⟨k, hk, rfl, rfl, hO, hC⟩ := hrel
    have HC := Lib.hid hC; have HO := Lib.hid hO
    clear hC hO
    by_cases hlt : k < 4
    · have cA := (UA.out.chg HC.out (by simp; omega)).cell hlt
      have cB := (UB.out.chg HC.out (by simp; try omega)).cell hlt
      have cO := HO.out.cell hlt
      have zO := HO.out.fz k
      have hll := HO.out.lt
      obtain ⟨x, hx⟩ : ∃ x, lm a k = x := ⟨_, rfl⟩
      obtain ⟨y, hy⟩ : ∃ y, lm b k = y := ⟨_, rfl⟩
      obtain ⟨c, hc⟩ : ∃ c, bor a b k = c := ⟨_, rfl⟩
      obtain ⟨s, hs⟩ : ∃ s, (x + 18446744073709551616 - y - c) % 18446744073709551616 = s := ⟨_, rfl⟩
      obtain ⟨e, he⟩ : ∃ e : Nat, (if x < y + c then 1 else 0) = e := ⟨_, rfl⟩
      have hadd := fun w => sub64 x y c (by rw [← hc]; exact HLe.out k) w
      have hS := HSu.out k
      have hL := HLm.out k hlt
      rw [hx, hy, hc, he] at hS
      rw [hx, hy, hc, hs] at hL
      simp only [hs, he] at hadd
      have HS := Lib.hid hS; have HL := Lib.hid hL
      rw [hx] at cA
      rw [hy] at cB
      rw [hc]
      clear hS hL hx hy hc hs he
      go_wp2_with fail
      go_region
      go_wp2_with fail
      refine ⟨⟨k+1, by omega, by go_num, ?_, ?_, ?_⟩, by simp [intOf]; omega⟩
      · rw [HS.out]
      · refine (HO.out.set hlt s).same fun j hj => ?_
        by_cases e : j = k
        · subst e; simp [HL.out]
        · by_cases e2 : j < k
          · simp [e, e2, Nat.lt_succ_of_lt e2]
          · have : ¬ j < k + 1 := by omega
            simp [e, e2, this]
      · repeat (with_reducible first | exact HC.out | refine Chg.setCell ?_ (Or.inl (by simp)) _ | apply Chg.drew | apply Chg.drewN)
    · obtain rfl : k = 4 := by omega
      have hO4 := HO.out.same (y := lm d) (fun k hk => by simp [hk])
      have hR4 := UR.out.chg HC.out (by simp)
      obtain ⟨o0, o1, o2, o3⟩ := four4 fun _ => (hO4).cell
      obtain ⟨r0, r1, r2, r3⟩ := four4 fun _ => (hR4).cell
      have rz0 := (hR4).fz 0; have rz1 := (hR4).fz 1; have rz2 := (hR4).fz 2; have rz3 := (hR4).fz 3
      have hCW := HC0.out.trans_new HC.out (by simp; omega)
      have hll := hR4.lt
      have HF := Lib.hid (hR4.put (lm d)); have HCF := Lib.hid (hCW.put4 (b := P + 1 + 1) (Or.inr (by omega)) (lm d))
      
      clear hO4 hR4 hCW
      go_wp2_with fail
      have hF := HF.out
      have hCF := HCF.out
      refine (id ?_ : bodyPost _ _ _ _ _ (put4 wr (P + 1 + 1) (lm d)))
      clear HF HCF
      generalize put4 wr (P + 1 + 1) (lm d) = W5 at *
      obtain ⟨g0, g1, g2, g3⟩ := four4 fun _ => (hF).cell
      exact bodyPost_ret (v := .agg #[.int .u64 (lm d 0 : Nat), .int .u64 (lm d 1 : Nat), .int .u64 (lm d 2 : Nat), .int .u64 (lm d 3 : Nat)]) (by simp [results, Try.results80, go_sem, g0, g1, g2, g3]) rfl ⟨rfl, hCF⟩

end Go.Proofs.Ytplldbmjdnikeaa

/- The document's numbers: the walk of wardmoteref02.Times. -/
namespace Go.Proofs.Ytplldbmjdnikeaa
set_option linter.unusedVariables false
set_option linter.unusedSimpArgs false
open Go.RowKit

theorem MI.skip {a b i : Nat} {o : Nat → Nat} (h : MI a b i o) (hz : lm a i = 0) : MI a b (i + 1) o :=
  ⟨h.1, by rw [h.2.1, mod_succ, hz, Nat.mul_zero, Nat.add_zero], fun k hk hk8 => h.2.2 k (by omega) hk8⟩

set_option maxRecDepth 100000 in
set_option maxHeartbeats 2000000 in
theorem ref_times (a b : Nat) (ha : a < B6 ^ 4) (hb : b < B6 ^ 4) (w : World) : Calls Try.prog 77 #[.agg (num a), .agg (num b)] w fun e w' =>
    e = .returned (.agg (wid (a * b))) ∧ Chg [] w w' := by
  unfold num limbs
  obtain ⟨T, hT⟩ : ∃ T, a * b = T := ⟨_, rfl⟩
  rw [hT]
  have HA := Lib.hid ha; have HB := Lib.hid hb; have HT := Lib.hid hT
  clear ha hb hT
  obtain ⟨W0, hW0⟩ : ∃ W0, (((w.alloc (.cells #[.int .u64 (lm a 0 : Nat), .int .u64 (lm a 1 : Nat), .int .u64 (lm a 2 : Nat), .int .u64 (lm a 3 : Nat)] 24)).alloc (.cells #[.int .u64 (lm b 0 : Nat), .int .u64 (lm b 1 : Nat), .int .u64 (lm b 2 : Nat), .int .u64 (lm b 3 : Nat)] 24)).alloc (.cells #[.int .u64 0, .int .u64 0, .int .u64 0, .int .u64 0, .int .u64 0, .int .u64 0, .int .u64 0, .int .u64 0] 90)).alloc (.cells #[.int .u64 0, .int .u64 0, .int .u64 0, .int .u64 0, .int .u64 0, .int .u64 0, .int .u64 0, .int .u64 0] 90) = W0 := ⟨_, rfl⟩
  have uA : U4 W0 w.heap.size 24 (lm a) := by rw [← hW0]; exact has_alloc (has_alloc (has_alloc (has_alloc_new _ _)))
  have uB : U4 W0 (w.heap.size + 1) 24 (lm b) := by rw [← hW0]; exact has_alloc (has_alloc (has_alloc_at (by simp)))
  have uR : U8 W0 (w.heap.size + 1 + 1) 90 (fun _ => 0) := by rw [← hW0]; exact has_alloc (has_alloc_at (by simp))
  have uO : U8 W0 (w.heap.size + 1 + 1 + 1) 90 (fun _ => 0) := by rw [← hW0]; exact has_alloc_at (by simp)
  have hC0 : Chg [] w W0 := by rw [← hW0]; exact ((((Chg.refl _ _).alloc _).alloc _).alloc _).alloc _
  have UA := Lib.hid uA; have UB := Lib.hid uB; have UR := Lib.hid uR; have UO := Lib.hid uO; have HC0 := Lib.hid hC0
  clear uA uB uR uO hC0
  go_enter Try.func77, Try.ntmps77
  go_wp2_with fail
  try rw [hW0]
  clear hW0
  obtain ⟨P, hP⟩ : ∃ P, w.heap.size = P := ⟨_, rfl⟩
  rw [hP] at UA UB UR UO ⊢
  go_loopg [6] 4 (fun gk i wr => ∃ (k : Nat) (o : Nat → Nat), gk + k = 4 ∧ i = .int .i64 k ∧ U8 wr (P + 1 + 1 + 1) 90 o ∧ Hid (MI a b k o) ∧ Chg [P + 1 + 1 + 1] W0 wr)
  case atStart => exact ⟨0, _, by omega, rfl, UO.out, Lib.hid (MI.zero a b), Chg.refl _ _⟩
  case round =>
    obtain ⟨k, o, hk, rfl, hO, hM, hC⟩ := hrel
    have HC := Lib.hid hC; have HO := Lib.hid hO
    clear hC hO
    by_cases hlt : k < 4
    · have cA := (UA.out.chg HC.out (by simp; try omega)).cell hlt
      by_cases hz : lm a k = 0
      · have hcl := hM.out.skip hz
        rw [hz] at cA
        have HS := Lib.hid hcl
        clear hcl hz
        go_wp2_with fail
        go_roundg (4 - (k + 1))
        case measure => omega
        case rel => exact ⟨k + 1, o, by omega, by go_num, HO.out, HS, HC.out⟩
      obtain ⟨x0, hx0⟩ : ∃ x, lm a k = x := ⟨_, rfl⟩
      have hz' : ((lm a k : Int) == 0) = false := by simp; omega
      clear hx0
      have hkt : decide ((k : Int) < 4) = true := by simp; omega
      go_wp2_with fail
      clear hkt cA hz'
      go_loopg [7, 8] 4 (fun gj c j wq => ∃ (n m : Nat) (p : Nat → Nat), gj + n = 4 ∧ j = .int .i64 n ∧ c = .int .u64 m ∧ U8 wq (P + 1 + 1 + 1) 90 p ∧ Hid (MJ a b k n m p) ∧ Chg [P + 1 + 1 + 1] W0 wq)
      case atStart => exact ⟨0, 0, o, by omega, rfl, rfl, HO.out, Lib.hid hM.out.start, HC.out⟩
      case round =>
        obtain ⟨j, c, p, hj, rfl, rfl, hP', hN, hC'⟩ := hrel
        have HC' := Lib.hid hC'; have HP' := Lib.hid hP'
        clear hC' hP' HO HC hM
        by_cases hlj : j < 4
        · obtain ⟨n, hn⟩ : ∃ n, k + j = n := ⟨_, rfl⟩
          have hn8 : n < 8 := by omega
          have wn : IntKind.i64.wrap ((k : Int) + j) = (n : Nat) := by rw [IntWalk.i64_in _ (by omega)]; omega
          have hst := hN.out.step hlt hlj
          rw [hn] at hst
          have hx := lm_lt a k
          have hy := lm_lt b j
          have hu : p n < 18446744073709551616 := hN.out.1 n hn8
          have hcb : c < 18446744073709551616 := hN.out.2.1
          obtain ⟨hi, lo, s1, k1, h1, k2, c2, v2, e1, e2, add1, add2, g1, g2, e3, e4, hv2⟩ := mstep hx hy hu hcb
          rw [← e3, ← e4] at hst
          have HS := Lib.hid hst
          have hmul := fun w => bits_mul64 (lm a k) (lm b j) hx hy w
          rw [e1, e2] at hmul
          have HMc := Lib.hid (fun w => (hmul w).mono (fun e w' h => (⟨h.1, h.2 ▸ Chg.refl [] w⟩ : _ ∧ Chg [] w w')))
          clear hst hmul e1 e2 e3 e4 hx hy hu hcb
          have cA := (UA.out.chg HC'.out (by simp; try omega)).cell hlt
          have cB := (UB.out.chg HC'.out (by simp; try omega)).cell hlj
          have HN := Lib.hid hn
          clear hn
          go_wp2_with fail
          have hk4 : (k : Int) < 4 := by omega
          have hj4 : (j : Int) < 4 := by omega
          have hk0 : (0 : Int) ≤ (k : Int) := by omega
          have hj0 : (0 : Int) ≤ (j : Int) := by omega
          have HC4 := Lib.hid (Chg.refl [] wr)
          have H9cA := Lib.hid cA; have H9cB := Lib.hid cB
          go_region_held3 (fun w9 => w9.cell? ⟨P, k, none⟩ = some (.int .u64 (lm a k : Nat)) ∧ w9.cell? ⟨P + 1, j, none⟩ = some (.int .u64 (lm b j : Nat)))
            (first | with_reducible exact ⟨cA, cB⟩ | go_keep)
            (first | (go_at_call 94; go_loud (refine (HMc.out _).mono ?_; rintro e w3 ⟨rfl, hC3⟩; have hC4 := Chg.trans (S := []) (a := wr) (by repeat (with_reducible first | exact HC4.out | apply Chg.drew | apply Chg.drewN | apply Chg.alloc)) hC3; replace cA := hC4.cell H9cA.out nmN; replace cB := hC4.cell H9cB.out nmN; clear HC4 hC3; have HC4 := Lib.hid hC4; clear hC4)))
          clear hk4 hj4 hk0 hj0
          replace HP' := Lib.hid (HP'.out.chg HC4.out nmN)
          replace HC' := Lib.hid (HC'.out.trans (HC4.out.mono (by simp)))
          have cO := HP'.out.cell hn8
          have zO := HP'.out.fz n
          have hll := HP'.out.lt
          go_wp2_with fail
          go_roundg (4 - (j + 1))
          case measure => omega
          case rel => exact ⟨j + 1, c2, upd p n v2, by omega, by go_num, rfl, HP'.out.set hn8 v2, HS, by
            repeat (with_reducible first | exact HC'.out | refine Chg.setCell ?_ (Or.inl (by simp)) _ | apply Chg.drew | apply Chg.drewN)⟩
        · obtain rfl : j = 4 := by omega
          obtain ⟨n, hn⟩ : ∃ n, k + 4 = n := ⟨_, rfl⟩
          have hn8 : n < 8 := by omega
          have wn : IntKind.i64.wrap ((k : Int) + 4) = (n : Nat) := by rw [IntWalk.i64_in _ (by omega)]; omega
          have zO := HP'.out.fz n
          have cO := HP'.out.cell hn8
          have hll := HP'.out.lt
          have hcl := hN.out.close HB.out hlt
          rw [hn] at hcl
          have HS := Lib.hid hcl
          clear hcl hn
          go_wp2_with fail
          go_roundg (4 - (k + 1))
          case measure => omega
          case rel => exact ⟨k + 1, upd p n c, by omega, by go_num, HP'.out.set hn8 c, HS, by
            repeat (with_reducible first | exact HC'.out | refine Chg.setCell ?_ (Or.inl (by simp)) _ | apply Chg.drew | apply Chg.drewN)⟩
    · obtain rfl : k = 4 := by omega
      have hO8 := HO.out.same (y := lm (a * b)) (hM.out.ends HA.out)
      have hR8 := UR.out.chg HC.out (by simp)
      rw [HT.out] at hO8
      have o0 := hO8.cell (k := 0) (by omega); have o1 := hO8.cell (k := 1) (by omega); have o2 := hO8.cell (k := 2) (by omega); have o3 := hO8.cell (k := 3) (by omega)
      have o4 := hO8.cell (k := 4) (by omega); have o5 := hO8.cell (k := 5) (by omega); have o6 := hO8.cell (k := 6) (by omega); have o7 := hO8.cell (k := 7) (by omega)
      have r0 := hR8.cell (k := 0) (by omega); have r1 := hR8.cell (k := 1) (by omega); have r2 := hR8.cell (k := 2) (by omega); have r3 := hR8.cell (k := 3) (by omega)
      have r4 := hR8.cell (k := 4) (by omega); have r5 := hR8.cell (k := 5) (by omega); have r6 := hR8.cell (k := 6) (by omega); have r7 := hR8.cell (k := 7) (by omega)
      have z0 := hR8.fz 0; have z1 := hR8.fz 1; have z2 := hR8.fz 2; have z3 := hR8.fz 3; have z4 := hR8.fz 4; have z5 := hR8.fz 5; have z6 := hR8.fz 6; have z7 := hR8.fz 7
      have hCW := HC0.out.trans_new HC.out (by simp; omega)
      have hll := hR8.lt
      have HF := Lib.hid (hR8.put (lm T)); have HCF := Lib.hid (hCW.put8 (b := P + 1 + 1) (Or.inr (by omega)) (lm T))
      clear hO8 hR8 hCW hM
      go_wp2_with fail
      have hF := HF.out
      have hCF := HCF.out
      refine (id ?_ : bodyPost _ _ _ _ _ (put8 wr (P + 1 + 1) (lm T)))
      clear HF HCF
      generalize put8 wr (P + 1 + 1) (lm T) = W5 at *
      have g0 := hF.cell (k := 0) (by omega); have g1 := hF.cell (k := 1) (by omega); have g2 := hF.cell (k := 2) (by omega); have g3 := hF.cell (k := 3) (by omega)
      have g4 := hF.cell (k := 4) (by omega); have g5 := hF.cell (k := 5) (by omega); have g6 := hF.cell (k := 6) (by omega); have g7 := hF.cell (k := 7) (by omega)
      exact bodyPost_ret (v := .agg (wid T)) (by simp [results, Try.results77, go_sem, wid, limbs8, g0, g1, g2, g3, g4, g5, g6, g7]) rfl ⟨rfl, hCF⟩

end Go.Proofs.Ytplldbmjdnikeaa

/- The document's numbers: the walk of wardmoteref02.Field.Reduce. -/
namespace Go.Proofs.Ytplldbmjdnikeaa
set_option linter.unusedVariables false
set_option linter.unusedSimpArgs false
open Go.RowKit

/-- A document's field: a prime, and 2^256 less it. -/
structure Dc (m c : Nat) : Prop where
  lt : m < B6 ^ 4
  sum : m + c = B6 ^ 4
  small : c < 2 ^ 129
/-- How great it may be ahead of round i. -/
def bd : Nat → Nat
  | 0 => B6 ^ 4 * B6 ^ 4
  | 1 => B6 ^ 4 * (2 ^ 129 + 1)
  | 2 => B6 ^ 4 * 8
  | 3 => B6 ^ 4 + 8 * 2 ^ 129
  | _ => B6 ^ 4
theorem fold_mod {m c T : Nat} (h : Dc m c) : (T % B6 ^ 4 + c * (T / B6 ^ 4)) % m = T % m := by
  have h1 := Nat.div_add_mod T (B6 ^ 4)
  have h2 := h.sum
  generalize T / B6 ^ 4 = q at *
  generalize T % B6 ^ 4 = r at *
  generalize B6 ^ 4 = R at *
  have : T = (r + c * q) + m * q := by rw [← h1, ← h2, Nat.add_mul]; omega
  rw [this, Nat.add_mul_mod_self_left]
theorem bd_facts : ∃ R E : Nat, B6 ^ 4 = R ∧ 2 ^ 129 = E ∧ E * E = 4 * R ∧ 9 * E < R ∧ 0 < R := ⟨_, _, rfl, rfl, by decide +kernel, by decide +kernel, by decide +kernel⟩
theorem fold_bd {m c T k : Nat} (h : Dc m c) (hT : T < bd k) (hk : k ≤ 3) (hne : T / B6 ^ 4 ≠ 0) : T % B6 ^ 4 + c * (T / B6 ^ 4) < bd (k + 1) := by
  have h0 := h.small
  obtain ⟨R, E, hR, hE, h1, h2, hp⟩ := bd_facts
  rw [hE] at h0
  rw [hR] at hne
  have hc : k = 0 ∨ k = 1 ∨ k = 2 ∨ k = 3 := by omega
  rcases hc with rfl | rfl | rfl | rfl
  all_goals (simp only [bd] at hT ⊢; rw [hR] at *; try rw [hE] at *)
  · have hr : T % R < R := Nat.mod_lt _ hp
    have hq : T / R < R := Nat.div_lt_of_lt_mul hT
    have : c * (T / R) < E * R := Nat.mul_lt_mul'' h0 hq
    rw [Nat.mul_add, Nat.mul_comm R E]
    omega
  · have hr : T % R < R := Nat.mod_lt _ hp
    have hq : T / R < E + 1 := Nat.div_lt_of_lt_mul hT
    have : c * (T / R) ≤ E * E := Nat.mul_le_mul (by omega) (by omega)
    omega
  · have hr : T % R < R := Nat.mod_lt _ hp
    have hq : T / R < 8 := Nat.div_lt_of_lt_mul hT
    have : c * (T / R) ≤ c * 7 := Nat.mul_le_mul_left _ (by omega)
    omega
  · have hq : T / R < 2 := Nat.div_lt_of_lt_mul (by omega)
    have hd := Nat.div_add_mod T R
    generalize T / R = q at *
    obtain rfl : q = 1 := by omega
    omega
theorem lm_high (p k : Nat) : lm (p / B6 ^ 4) k = lm p (4 + k) := by
  unfold lm
  rw [Nat.div_div_eq_div_mul, ← Nat.pow_add]
theorem lm_low {a b k : Nat} (hk : k < 4) (h : a % B6 ^ 4 = b % B6 ^ 4) : lm a k = lm b k := by
  have e : ∀ x, lm x k = lm (x % B6 ^ 4) k := fun x => by
    unfold lm
    obtain ⟨j, hj⟩ : ∃ j, 4 = k + 1 + j := ⟨3 - k, by omega⟩
    rw [hj, Nat.pow_add, Nat.pow_succ, Nat.mul_assoc, Nat.mod_mul_right_div_self, Nat.mod_mul_right_mod]
  rw [e a, e b, h]
/-- A fold's two halves. -/
theorem fold_hi {lo p : Nat} (hlo : lo < B6 ^ 4) : (lo + p) / B6 ^ 4 = p / B6 ^ 4 + cry lo p 4 := by
  unfold cry
  rw [Nat.mod_eq_of_lt hlo, Nat.add_div (by decide)]
  have h1 := Nat.mod_lt p (show 0 < B6 ^ 4 by decide)
  rw [Nat.div_eq_of_lt hlo, Nat.mod_eq_of_lt hlo, Nat.zero_add]
  congr 1
  by_cases h : B6 ^ 4 ≤ lo + p % B6 ^ 4
  · rw [if_pos h, Nat.div_eq_sub_div (by decide) h, Nat.div_eq_of_lt (by omega)]
  · rw [if_neg h, Nat.div_eq_of_lt (by omega)]

/-- The cells of a wardmoteref02.Field. -/
def dcCells (m c : Nat) : Array Value := #[.int .u64 (lm m 0 : Nat), .int .u64 (lm m 1 : Nat), .int .u64 (lm m 2 : Nat), .int .u64 (lm m 3 : Nat), .int .u64 (lm c 0 : Nat), .int .u64 (lm c 1 : Nat), .int .u64 (lm c 2 : Nat), .int .u64 (lm c 3 : Nat)]

theorem bd_hi {T k : Nat} (h : T < bd k) : T / B6 ^ 4 < B6 ^ 4 := by
  obtain ⟨R, E, hR, hE, h1, h2, hp⟩ := bd_facts
  refine Nat.div_lt_of_lt_mul ?_
  have hr : R * 9 ≤ R * R := Nat.mul_le_mul_left _ (by have h3 : 9 < B6 ^ 4 := by decide +kernel
                                                       omega)
  have hr2 : R * (E + 1) ≤ R * R := Nat.mul_le_mul_left _ (by omega)
  have hb : bd k ≤ B6 ^ 4 * B6 ^ 4 := by
    unfold bd
    rw [hR, hE]
    split <;> omega
  omega
theorem num_1 : num 1 = #[.int .u64 1, .int .u64 0, .int .u64 0, .int .u64 0] := by
  unfold num limbs
  rw [show lm 1 0 = 1 by decide +kernel, show lm 1 1 = 0 by decide +kernel, show lm 1 2 = 0 by decide +kernel, show lm 1 3 = 0 by decide +kernel]
  rfl
/-- The document's field as a value. -/
def UD (w : World) (b m c : Nat) : Prop := w.heap[b]? = some (.cells (dcCells m c) 76 (0, 0))
theorem UD.cm {w : World} {b m c : Nat} (h : UD w b m c) {k : Nat} (hk : k < 4) : w.cell? ⟨b, k, none⟩ = some (.int .u64 (lm m k : Nat)) := by
  rw [cell_of_has h]
  have : k = 0 ∨ k = 1 ∨ k = 2 ∨ k = 3 := by omega
  rcases this with rfl | rfl | rfl | rfl <;> rfl
theorem UD.cc {w : World} {b m c : Nat} (h : UD w b m c) {k : Nat} (hk : k < 4) : w.cell? ⟨b, 4 + k, none⟩ = some (.int .u64 (lm c k : Nat)) := by
  rw [cell_of_has h]
  have : k = 0 ∨ k = 1 ∨ k = 2 ∨ k = 3 := by omega
  rcases this with rfl | rfl | rfl | rfl <;> rfl
theorem UD.chg {S : List Nat} {w w' : World} {b m c : Nat} (h : UD w b m c) (hc : Chg S w w') (hs : b ∉ S) : UD w' b m c := hc.has h hs
theorem UD.lt {w : World} {b m c : Nat} (h : UD w b m c) : b < w.heap.size := lt_of_has h

set_option maxRecDepth 100000 in
set_option maxHeartbeats 8000000 in
theorem ref_reduce {m c : Nat} (hD : Dc m c) (V : Nat) (hV : V < B6 ^ 8) (w : World) : Calls Try.prog 53 #[.agg (dcCells m c), .agg #[.int .u64 (lm V 0 : Nat), .int .u64 (lm V 1 : Nat), .int .u64 (lm V 2 : Nat), .int .u64 (lm V 3 : Nat), .int .u64 (lm V 4 : Nat), .int .u64 (lm V 5 : Nat), .int .u64 (lm V 6 : Nat), .int .u64 (lm V 7 : Nat)]] w fun e w' => e = .returned (.agg #[.int .u64 (lm (V % m) 0 : Nat), .int .u64 (lm (V % m) 1 : Nat), .int .u64 (lm (V % m) 2 : Nat), .int .u64 (lm (V % m) 3 : Nat)]) ∧ Chg [] w w' := by
  have hc4 : c < B6 ^ 4 := Nat.lt_trans hD.small (by decide +kernel)
  have hm0 : 0 < m := by have := hD.sum; have := hD.lt; have h2 : 2 ^ 129 < B6 ^ 4 := by decide +kernel
                         have := hD.small; omega
  have htimes := fun q hq w => ref_times c q hc4 hq w
  have hplus := fun a b w => ref_plus a b w
  have hminus := fun a w => ref_minus a m (by have := hD.lt; omega) w
  have hless := fun a ha w => ref_less (a := a) (b := m) ha hD.lt w
  unfold num limbs wid limbs8 at htimes
  have HTimes := Lib.hid htimes; have HPlus := Lib.hid hplus; have HMinus := Lib.hid hminus; have HLess := Lib.hid hless; have HD := Lib.hid hD; have HM0 := Lib.hid hm0
  obtain ⟨z, hz⟩ : ∃ z, V % m = z := ⟨_, rfl⟩
  rw [hz]
  have HZ := Lib.hid hz; have HV := Lib.hid hV
  clear htimes hplus hminus hless hc4 hm0 hz hV
  obtain ⟨W0, hW0⟩ : ∃ W0, ((w.alloc (.cells #[.int .u64 (lm m 0 : Nat), .int .u64 (lm m 1 : Nat), .int .u64 (lm m 2 : Nat), .int .u64 (lm m 3 : Nat), .int .u64 (lm c 0 : Nat), .int .u64 (lm c 1 : Nat), .int .u64 (lm c 2 : Nat), .int .u64 (lm c 3 : Nat)] 76)).alloc (.cells #[.int .u64 (lm V 0 : Nat), .int .u64 (lm V 1 : Nat), .int .u64 (lm V 2 : Nat), .int .u64 (lm V 3 : Nat), .int .u64 (lm V 4 : Nat), .int .u64 (lm V 5 : Nat), .int .u64 (lm V 6 : Nat), .int .u64 (lm V 7 : Nat)] 90)).alloc (.cells #[.int .u64 0, .int .u64 0, .int .u64 0, .int .u64 0] 24) = W0 := ⟨_, rfl⟩
  have HB := Lib.hid (show UD W0 w.heap.size m c by rw [← hW0]; exact has_alloc (has_alloc (has_alloc_new _ _)))
  have HW := Lib.hid (show U8 W0 (w.heap.size + 1) 90 (lm V) by rw [← hW0]; exact has_alloc (has_alloc_at (by simp)))
  have HR := Lib.hid (show U4 W0 (w.heap.size + 1 + 1) 24 (fun _ => 0) by rw [← hW0]; exact has_alloc_at (by simp))
  have HC := Lib.hid (show Chg [] w W0 by rw [← hW0]; exact (((Chg.refl _ _).alloc _).alloc _).alloc _)
  unfold dcCells
  go_enter Try.func53, Try.ntmps53
  go_upto_region 1 with fail
  try rw [hW0]
  clear hW0
  obtain ⟨P, hP⟩ : ∃ P, w.heap.size = P := ⟨_, rfl⟩
  rw [hP] at HB HW HR ⊢
  have hW := HW.out
  have v0 := (hW).cell (k := 0) (by omega); have v1 := (hW).cell (k := 1) (by omega); have v2 := (hW).cell (k := 2) (by omega); have v3 := (hW).cell (k := 3) (by omega); have v4 := (hW).cell (k := 4) (by omega); have v5 := (hW).cell (k := 5) (by omega); have v6 := (hW).cell (k := 6) (by omega); have v7 := (hW).cell (k := 7) (by omega)
  have hl1 := hW.lt; have hl2 := HR.out.lt
  clear hW
  obtain ⟨W1, hW1⟩ : ∃ W1, (W0.alloc (.cells #[.int .u64 (lm V 0 : Nat), .int .u64 (lm V 1 : Nat), .int .u64 (lm V 2 : Nat), .int .u64 (lm V 3 : Nat)] 24)).alloc (.cells #[.int .u64 (lm V 4 : Nat), .int .u64 (lm V 5 : Nat), .int .u64 (lm V 6 : Nat), .int .u64 (lm V 7 : Nat)] 24) = W1 := ⟨_, rfl⟩
  have hA : Chg [] W0 W1 := by rw [← hW1]; exact ((Chg.refl _ _).alloc _).alloc _
  have hLo : U4 W1 W0.heap.size 24 (lm V) := by rw [← hW1]; exact has_alloc (has_alloc_new _ _)
  have hHi : U4 W1 (W0.heap.size + 1) 24 (lm (V / B6 ^ 4)) := by
    refine U4.same (x := fun k => lm V (4 + k)) (by rw [← hW1]; exact has_alloc_at (by simp)) fun k _ => (lm_high V k).symm
  go_upto_region 3 with fail
  try rw [hW1]
  clear hW1 v0 v1 v2 v3 v4 v5 v6 v7
  obtain ⟨L, hL⟩ : ∃ L, W0.heap.size = L := ⟨_, rfl⟩
  rw [hL] at hLo hHi hl1 hl2 ⊢
  clear hL
  replace HB := Lib.hid (HB.out.chg hA nmN); replace HR := Lib.hid (HR.out.chg hA nmN); replace HC := Lib.hid (HC.out.trans hA)
  have hLP : P + 1 + 1 < L := hl2
  have HLo := Lib.hid hLo; have HHi := Lib.hid hHi
  have hPP := Lib.hid hP
  clear hA hLo hHi hl1 hl2 hP HW
  go_upto_block 0 with fail
  go_cut [5, 6, 7, 8, 9, 10, 11, 12] from 31 to 88 (fun lo hi _ _ _ _ _ _ wx => ∃ T, lo = .pointer (some ⟨L, 0, none⟩) ∧ T < B6 ^ 4 ∧ T % m = z ∧ U4 wx L 24 (lm T) ∧ Chg [L, L + 1] W1 wx)
  case first =>
    go_wp2_with fail
    go_loopg [7] 5 (fun gk i wr => ∃ (k T : Nat), gk + k = 5 ∧ k ≤ 4 ∧ i = .int .i64 k ∧ Hid (T < bd k) ∧ Hid (T % m = z) ∧ U4 wr L 24 (lm T) ∧ U4 wr (L + 1) 24 (lm (T / B6 ^ 4)) ∧ Chg [L, L + 1] W1 wr)
    case atStart => exact ⟨0, V, rfl, by omega, rfl, Lib.hid (by have h := HV.out; rw [show B6 ^ 8 = B6 ^ 4 * B6 ^ 4 by decide +kernel] at h; exact h), HZ, HLo.out, HHi.out, Chg.refl _ _⟩
    case round =>
      obtain ⟨k, T, hk, hk4, rfl, hTb, hTz, hLo, hHi, hCr⟩ := hrel
      obtain ⟨q, hq⟩ : ∃ q, T / B6 ^ 4 = q := ⟨_, rfl⟩
      have hq4 : q < B6 ^ 4 := by rw [← hq]; exact bd_hi hTb.out
      rw [hq] at hHi
      have HQ := Lib.hid hq
      obtain ⟨h0, h1, h2, h3⟩ := four4 fun _ => (hHi).cell
      have HLo := Lib.hid hLo; have HHi := Lib.hid hHi; have HCr := Lib.hid hCr
      clear hq hLo hHi hCr
      by_cases hq0 : q = 0
      · rw [hq0, lm_zero] at h0 h1 h2 h3
        have hT4 : T < B6 ^ 4 := by
          have h1 := HQ.out
          rw [hq0] at h1
          exact Nat.lt_of_div_eq_zero (by decide) h1
        have HT4 := Lib.hid hT4
        clear hq0 hT4 hq4
        have hk8 : k < 8 := by omega
        go_wp2_with fail
        go_meet
        case rel => exact ⟨T, rfl, HT4.out, hTz.out, HLo.out, HCr.out⟩
      · have hk3 : k ≤ 3 := by
          rcases Nat.lt_or_ge k 4 with h | h
          · omega
          · obtain rfl : k = 4 := by omega
            have h2 : T < B6 ^ 4 := hTb.out
            exact absurd (HQ.out.symm.trans (Nat.div_eq_of_lt h2)) hq0
        have HTn := Lib.hid (fold_bd HD.out hTb.out hk3 (by rw [HQ.out]; exact hq0))
        have HTm := Lib.hid (fold_mod (T := T) HD.out)
        have hk8 : k < 8 := by omega
        rw [HQ.out] at HTn HTm
        go_upto_region 6 with fail
        go_cut [52] from 35 to 51 (fun v wx => v = .bool false ∧ wr = wx)
        case first =>
          have hne : ∀ x : Nat, x ≠ 0 → ((x : Int) == 0) = false := fun x h => by simp; omega
          have h4 := four_limbs hq4
          by_cases d0 : lm q 0 = 0
          · rw [d0] at h0
            by_cases d1 : lm q 1 = 0
            · rw [d1] at h1
              by_cases d2 : lm q 2 = 0
              · rw [d2] at h2
                have e3 := hne (lm q 3) (by omega)
                clear h4 d0 d1 d2 hne hq0
                go_wp2_with fail
                go_meet
                case rel => exact ⟨rfl, rfl⟩
              · have e2 := hne _ d2
                clear h4 d0 d1 d2 hne hq0
                go_wp2_with fail
                go_meet
                case rel => exact ⟨rfl, rfl⟩
            · have e1 := hne _ d1
              clear h4 d0 d1 hne hq0
              go_wp2_with fail
              go_meet
              case rel => exact ⟨rfl, rfl⟩
          · have e0 := hne _ d0
            clear h4 d0 hne hq0
            go_wp2_with fail
            go_meet
            case rel => exact ⟨rfl, rfl⟩
        case rest =>
          obtain ⟨rfl, rfl⟩ := hcut
          have hb := HB.out.chg HCr.out (by simp; omega)
          obtain ⟨c0, c1, c2, c3⟩ := four4 fun _ => (hb).cc
          have hbl := hb.lt
          have htm := fun w => HTimes.out q hq4 w
          obtain ⟨p, hp⟩ : ∃ p, c * q = p := ⟨_, rfl⟩
          rw [hp] at htm HTn HTm
          have HTq := Lib.hid htm
          have hp8 : p < B6 ^ 4 * B6 ^ 4 := by
            rw [← hp]
            exact Nat.mul_lt_mul'' (Nat.lt_trans HD.out.small (by decide +kernel)) hq4
          have HP8 := Lib.hid hp8
          clear htm hb hq0 hq4 hp hp8
          go_wp2_with fail
          refine (HTq.out _).mono ?_
          rintro e w1 ⟨rfl, hC1⟩
          clear c0 c1 c2 c3 h0 h1 h2 h3 hbl HTq
          have hlo1 := HLo.out.chg hC1 nmN
          have hhi1 := HHi.out.chg hC1 nmN
          obtain ⟨W2, hW2⟩ : ∃ W2, w1.alloc (.cells #[.int .u64 (lm p 0 : Nat), .int .u64 (lm p 1 : Nat), .int .u64 (lm p 2 : Nat), .int .u64 (lm p 3 : Nat), .int .u64 (lm p 4 : Nat), .int .u64 (lm p 5 : Nat), .int .u64 (lm p 6 : Nat), .int .u64 (lm p 7 : Nat)] 90) = W2 := ⟨_, rfl⟩
          have hA : Chg [] w1 W2 := by rw [← hW2]; exact (Chg.refl _ _).alloc _
          have hp2 : U8 W2 w1.heap.size 90 (lm p) := by rw [← hW2]; exact has_alloc_new _ _
          obtain ⟨bp, hbp⟩ : ∃ b, w1.heap.size = b := ⟨_, rfl⟩
          have hLb : L + 1 < bp := by rw [← hbp]; exact hhi1.lt
          rw [hbp] at hp2
          have hlo2 := hlo1.chg hA nmN
          have HLo2 := Lib.hid hlo2; have HHi2 := Lib.hid (hhi1.chg hA nmN); have HC2 := Lib.hid ((HCr.out.trans (hC1.mono (by simp))).trans (hA.mono (by simp))); have HP2 := Lib.hid hp2
          have v0 := (hp2).cell (k := 0) (by omega); have v1 := (hp2).cell (k := 1) (by omega); have v2 := (hp2).cell (k := 2) (by omega); have v3 := (hp2).cell (k := 3) (by omega); have v4 := (hp2).cell (k := 4) (by omega); have v5 := (hp2).cell (k := 5) (by omega); have v6 := (hp2).cell (k := 6) (by omega); have v7 := (hp2).cell (k := 7) (by omega)
          obtain ⟨l0, l1, l2, l3⟩ := four4 fun _ => (hlo2).cell
          clear hlo1 hhi1 hA hp2 hlo2 hC1 HLo HHi HCr
          go_upto_region 8 with fail
          try rw [hW2]
          try rw [hbp]
          clear hW2 hbp
          go_wp2_with fail
          refine (HPlus.out T p _).mono ?_
          rintro e w3 ⟨rfl, hC3⟩
          clear v0 v1 v2 v3 v4 v5 v6 v7 l0 l1 l2 l3
          obtain ⟨s, hs⟩ : ∃ s, T + p = s := ⟨_, rfl⟩
          rw [hs]
          have hlo3 := HLo2.out.chg hC3 nmN
          obtain ⟨W4, hW4⟩ : ∃ W4, w3.alloc (.cells #[.int .u64 (lm s 0 : Nat), .int .u64 (lm s 1 : Nat), .int .u64 (lm s 2 : Nat), .int .u64 (lm s 3 : Nat)] 24) = W4 := ⟨_, rfl⟩
          have hA : Chg [] w3 W4 := by rw [← hW4]; exact (Chg.refl _ _).alloc _
          have hs4 : U4 W4 w3.heap.size 24 (lm s) := by rw [← hW4]; exact has_alloc_new _ _
          obtain ⟨bs, hbs⟩ : ∃ b, w3.heap.size = b := ⟨_, rfl⟩
          rw [hbs] at hs4
          have hlo4 := hlo3.chg hA nmN
          have hAA : Chg [] W2 W4 := hC3.trans hA
          have HHi4 := Lib.hid (HHi2.out.chg hAA nmN); have HC4 := Lib.hid (HC2.out.trans (hAA.mono (by simp))); have HP4 := Lib.hid (HP2.out.chg hAA nmN)
          obtain ⟨s0, s1, s2, s3⟩ := four4 fun _ => (hs4).cell
          obtain ⟨l0, l1, l2, l3⟩ := four4 fun _ => (hlo4).cell
          have lz0 := (hlo4).fz 0; have lz1 := (hlo4).fz 1; have lz2 := (hlo4).fz 2; have lz3 := (hlo4).fz 3
          have hll := hlo4.lt
          have HLo4 := Lib.hid hlo4; have HS := Lib.hid hs
          clear hlo3 hA hs4 hlo4 hAA hC3 HLo2 HHi2 HC2 HP2 hs
          go_upto_region 9 with fail
          try rw [hW4]
          try rw [hbs]
          clear hW4 hbs
          obtain ⟨W5, hW5⟩ : ∃ W5, ((((W4.setCell ⟨L, 0, none⟩ (.int .u64 (lm s 0 : Nat))).setCell ⟨L, 1, none⟩ (.int .u64 (lm s 1 : Nat))).setCell ⟨L, 2, none⟩ (.int .u64 (lm s 2 : Nat))).setCell ⟨L, 3, none⟩ (.int .u64 (lm s 3 : Nat))) = W5 := ⟨_, rfl⟩
          have hA : Chg [L] W4 W5 := by rw [← hW5]; exact (Chg.refl _ _).put_x (Or.inl (by simp)) s
          have hlo5 : U4 W5 L 24 (lm s) := by rw [← hW5]; exact HLo4.out.put_x s
          have hp5 := HP4.out.chg hA (by simp; omega)
          have hhi5 := HHi4.out.chg hA (by simp)
          have HC5 := Lib.hid (HC4.out.trans (hA.mono (by simp)))
          have v0 := (hp5).cell (k := 0) (by omega); have v1 := (hp5).cell (k := 1) (by omega); have v2 := (hp5).cell (k := 2) (by omega); have v3 := (hp5).cell (k := 3) (by omega); have v4 := (hp5).cell (k := 4) (by omega); have v5 := (hp5).cell (k := 5) (by omega); have v6 := (hp5).cell (k := 6) (by omega); have v7 := (hp5).cell (k := 7) (by omega)
          obtain ⟨h0, h1, h2, h3⟩ := four4 fun _ => (hhi5).cell
          have hz0 := (hhi5).fz 0; have hz1 := (hhi5).fz 1; have hz2 := (hhi5).fz 2; have hz3 := (hhi5).fz 3
          have hll5 := hhi5.lt
          have HLo5 := Lib.hid hlo5; have HHi5 := Lib.hid hhi5
          clear hA hlo5 hp5 hhi5 HLo4 HP4 HHi4 HC4
          go_upto_region 10 with fail
          clear s0 s1 s2 s3 l0 l1 l2 l3 lz0 lz1 lz2 lz3 hll
          try rw [hW5]
          clear hW5
          obtain ⟨W6, hW6⟩ : ∃ W6, ((((W5.setCell ⟨(L + 1), 0, none⟩ (.int .u64 (lm p 4 : Nat))).setCell ⟨(L + 1), 1, none⟩ (.int .u64 (lm p 5 : Nat))).setCell ⟨(L + 1), 2, none⟩ (.int .u64 (lm p 6 : Nat))).setCell ⟨(L + 1), 3, none⟩ (.int .u64 (lm p 7 : Nat))) = W6 := ⟨_, rfl⟩
          have hhi6 : U4 W6 (L + 1) 24 (lm (p / B6 ^ 4)) := by
            refine U4.same (x := fun k => lm p (4 + k)) ?_ fun k _ => (lm_high p k).symm
            rw [← hW6]
            exact HHi5.out.put (fun k => lm p (4 + k))
          have hA : Chg [L + 1] W5 W6 := by rw [← hW6]; exact (Chg.refl _ _).put4 (Or.inl (by simp)) (fun k => lm p (4 + k))
          have HLo6 := Lib.hid (HLo5.out.chg hA (by simp)); have HC6 := Lib.hid (HC5.out.trans (hA.mono (by simp))); have HHi6 := Lib.hid hhi6
          clear hA hhi6 HLo5 HHi5 HC5
          go_upto_region 11 with fail
          clear v0 v1 v2 v3 v4 v5 v6 v7 h0 h1 h2 h3 hz0 hz1 hz2 hz3 hll5
          try rw [hW6]
          clear hW6
          have hfh := fold_hi (lo := T % B6 ^ 4) (p := p) (Nat.mod_lt _ (by decide))
          have hcr : cry (T % B6 ^ 4) p 4 = cry T p 4 := by unfold cry; rw [Nat.mod_mod]
          rw [hcr] at hfh
          have hsl : ∀ k, k < 4 → lm s k = lm (T % B6 ^ 4 + p) k := fun k hk => lm_low hk (by rw [← HS.out, Nat.mod_add_mod])
          have hlo7 := HLo6.out.same hsl
          have HLo7 := Lib.hid hlo7
          have hc01 := cry_le T p 4
          clear hcr hsl hlo7 HLo6
          obtain ⟨cr, hcre⟩ : ∃ cr, cry T p 4 = cr := ⟨_, rfl⟩
          rw [hcre] at hfh hc01 ⊢
          have HFh := Lib.hid hfh
          clear hfh hcre
          have hcc : cr = 0 ∨ cr = 1 := by omega
          clear hc01
          rcases hcc with rfl | rfl
          · have HHi7 : Hid (U4 W6 (L + 1) 24 (lm ((T % B6 ^ 4 + p) / B6 ^ 4))) := Lib.hid (by rw [HFh.out]; exact HHi6.out)
            go_wp2_with fail
            go_roundg (5 - (k + 1))
            case measure => omega
            case rel => exact ⟨k + 1, T % B6 ^ 4 + p, by omega, by omega, by go_num, HTn, Lib.hid (HTm.out.trans hTz.out), HLo7.out, HHi7.out, HC6.out⟩
          · have hhi6 := HHi6.out
            obtain ⟨u, hu⟩ : ∃ u, p / B6 ^ 4 = u := ⟨_, rfl⟩
            rw [hu] at hhi6 HFh
            obtain ⟨h0, h1, h2, h3⟩ := four4 fun _ => (hhi6).cell
            have hpl := fun w => HPlus.out u 1 w
            have h1n := num_1
            unfold num limbs at h1n
            rw [h1n] at hpl
            have HPl := Lib.hid hpl
            obtain ⟨x, hx⟩ : ∃ x, u + 1 = x := ⟨_, rfl⟩
            rw [hx] at HPl HFh
            have HH6 := Lib.hid hhi6
            clear hpl h1n hhi6 hu HHi6 hx
            go_wp2_with fail
            refine (HPl.out _).mono ?_
            rintro e w7 ⟨rfl, hC7⟩
            clear h0 h1 h2 h3
            have hhi7 := HH6.out.chg hC7 nmN
            have hlo8 := HLo7.out.chg hC7 nmN
            obtain ⟨W8, hW8⟩ : ∃ W8, w7.alloc (.cells #[.int .u64 (lm x 0 : Nat), .int .u64 (lm x 1 : Nat), .int .u64 (lm x 2 : Nat), .int .u64 (lm x 3 : Nat)] 24) = W8 := ⟨_, rfl⟩
            have hA : Chg [] w7 W8 := by rw [← hW8]; exact (Chg.refl _ _).alloc _
            have hx8 : U4 W8 w7.heap.size 24 (lm x) := by rw [← hW8]; exact has_alloc_new _ _
            obtain ⟨bx, hbx⟩ : ∃ b, w7.heap.size = b := ⟨_, rfl⟩
            rw [hbx] at hx8
            have hhi8 := hhi7.chg hA nmN
            obtain ⟨x0, x1, x2, x3⟩ := four4 fun _ => (hx8).cell
            obtain ⟨h0, h1, h2, h3⟩ := four4 fun _ => (hhi8).cell
            have hz0 := (hhi8).fz 0; have hz1 := (hhi8).fz 1; have hz2 := (hhi8).fz 2; have hz3 := (hhi8).fz 3
            have hll := hhi8.lt
            have HHi8 := Lib.hid hhi8; have HLo8 := Lib.hid (hlo8.chg hA nmN); have HC8 := Lib.hid (HC6.out.trans ((hC7.trans hA).mono (by simp)))
            clear hC7 hhi7 hlo8 hA hx8 hhi8 HLo7 HC6 HH6
            go_upto_region 13 with fail
            try rw [hW8]
            try rw [hbx]
            clear hW8 hbx
            have hA : Chg [L + 1] W8 (((((W8.setCell ⟨(L + 1), 0, none⟩ (.int .u64 (lm x 0 : Nat))).setCell ⟨(L + 1), 1, none⟩ (.int .u64 (lm x 1 : Nat))).setCell ⟨(L + 1), 2, none⟩ (.int .u64 (lm x 2 : Nat))).setCell ⟨(L + 1), 3, none⟩ (.int .u64 (lm x 3 : Nat)))) := (Chg.refl _ _).put_x (Or.inl (by simp)) x
            have HHi9 : Hid (U4 (((((W8.setCell ⟨(L + 1), 0, none⟩ (.int .u64 (lm x 0 : Nat))).setCell ⟨(L + 1), 1, none⟩ (.int .u64 (lm x 1 : Nat))).setCell ⟨(L + 1), 2, none⟩ (.int .u64 (lm x 2 : Nat))).setCell ⟨(L + 1), 3, none⟩ (.int .u64 (lm x 3 : Nat)))) (L + 1) 24 (lm ((T % B6 ^ 4 + p) / B6 ^ 4))) := Lib.hid (by rw [HFh.out]; exact HHi8.out.put_x x)
            have HLo9 := Lib.hid (HLo8.out.chg hA (by simp)); have HC9 := Lib.hid (HC8.out.trans (hA.mono (by simp)))
            clear hA
            go_wp2_with fail
            go_roundg (5 - (k + 1))
            case measure => omega
            case rel => exact ⟨k + 1, T % B6 ^ 4 + p, by omega, by omega, by go_num, HTn, Lib.hid (HTm.out.trans hTz.out), HLo9.out, HHi9.out, HC9.out⟩
  case rest =>
    obtain ⟨T, rfl, hT4, hTz, hLo, hCr⟩ := hcut
    have HT4 := Lib.hid hT4; have HTz := Lib.hid hTz; have HLo2 := Lib.hid hLo; have HCr := Lib.hid hCr
    clear hT4 hTz hLo hCr HLo HHi
    go_wp2_with fail
    go_loopg [] T (fun gk wr => gk < B6 ^ 4 ∧ gk % m = z ∧ U4 wr L 24 (lm gk) ∧ Chg [L, L + 1] W1 wr)
    case atStart => exact ⟨HT4.out, HTz.out, HLo2.out, HCr.out⟩
    case round =>
      obtain ⟨hg4, hgz, hLo, hCr2⟩ := hrel
      have hb := HB.out.chg hCr2 (by simp; omega)
      obtain ⟨m0, m1, m2, m3⟩ := four4 fun _ => (hb).cm
      obtain ⟨l0, l1, l2, l3⟩ := four4 fun _ => (hLo).cell
      have hls := fun w => HLess.out gk hg4 w
      have HLo := Lib.hid hLo; have HCr2 := Lib.hid hCr2; have HB2 := Lib.hid hb; have HG4 := Lib.hid hg4; have HGz := Lib.hid hgz
      by_cases hlt : gk < m
      · rw [show decide (gk < m) = true by simpa using hlt] at hls
        have HLs := Lib.hid hls
        have HGf : Hid (gk = z) := Lib.hid (by rw [← hgz, Nat.mod_eq_of_lt hlt])
        clear hls hLo hCr2 hb hg4 hgz hlt
        go_wp2_with fail
        refine (HLs.out _).mono ?_
        rintro e w1 ⟨rfl, hC1⟩
        have hlo1 := HLo.out.chg hC1 nmN
        rw [HGf.out] at hlo1
        clear m0 m1 m2 m3 l0 l1 l2 l3
        have hR1 := (HR.out.chg HCr2.out (by simp; omega)).chg hC1 nmN
        have hw1 : Chg [] w w1 := (HC.out.trans_new HCr2.out (by simp; have := hPP.out; omega)).trans hC1
        obtain ⟨l0, l1, l2, l3⟩ := four4 fun _ => (hlo1).cell
        obtain ⟨r0, r1, r2, r3⟩ := four4 fun _ => (hR1).cell
        have rz0 := (hR1).fz 0; have rz1 := (hR1).fz 1; have rz2 := (hR1).fz 2; have rz3 := (hR1).fz 3
        have hll := hR1.lt
        have HF := Lib.hid (hR1.put (lm z)); have HCF := Lib.hid (hw1.put4 (b := P + 1 + 1) (Or.inr (by have := hPP.out; omega)) (lm z))
        clear hlo1 hR1 hw1 hC1
        go_wp2_with fail
        have hF := HF.out
        have hCF := HCF.out
        refine (id ?_ : bodyPost _ _ _ _ _ (put4 w1 (P + 1 + 1) (lm z)))
        clear HF HCF
        generalize put4 w1 (P + 1 + 1) (lm z) = W9 at *
        obtain ⟨g0, g1, g2, g3⟩ := four4 fun _ => (hF).cell
        exact bodyPost_ret (v := .agg #[.int .u64 (lm z 0 : Nat), .int .u64 (lm z 1 : Nat), .int .u64 (lm z 2 : Nat), .int .u64 (lm z 3 : Nat)]) (by simp [results, Try.results53, go_sem, g0, g1, g2, g3]) rfl ⟨rfl, hCF⟩
      · rw [show decide (gk < m) = false by simpa using hlt] at hls
        have HLs := Lib.hid hls
        have hmn := fun w => HMinus.out gk w
        have hnt : num (gk + B6 ^ 4 - m) = num (gk - m) := by
          rw [← num_top (gk - m)]; congr 1; omega
        unfold num limbs at hnt
        rw [hnt] at hmn
        obtain ⟨x, hx⟩ : ∃ x, gk - m = x := ⟨_, rfl⟩
        rw [hx] at hmn
        have HMn := Lib.hid hmn
        have HXl : Hid (x < gk) := Lib.hid (by have := HM0.out; omega)
        have HXz : Hid (x % m = z) := Lib.hid (by rw [← hgz, ← hx, ← Nat.mod_eq_sub_mod (by omega)])
        clear hls hLo hCr2 hb hg4 hgz hlt hmn hnt hx
        go_wp2_with fail
        refine (HLs.out _).mono ?_
        rintro e w1 ⟨rfl, hC1⟩
        have hlo1 := HLo.out.chg hC1 nmN
        have hb1 := HB2.out.chg hC1 nmN
        clear m0 m1 m2 m3 l0 l1 l2 l3
        obtain ⟨m0, m1, m2, m3⟩ := four4 fun _ => (hb1).cm
        obtain ⟨l0, l1, l2, l3⟩ := four4 fun _ => (hlo1).cell
        have HLo1 := Lib.hid hlo1; have HC1 := Lib.hid (HCr2.out.trans (hC1.mono (by simp)))
        clear hlo1 hb1 hC1
        go_wp2_with fail
        refine (HMn.out _).mono ?_
        rintro e w2 ⟨rfl, hC2⟩
        clear m0 m1 m2 m3 l0 l1 l2 l3
        have hlo2 := HLo1.out.chg hC2 nmN
        obtain ⟨l0, l1, l2, l3⟩ := four4 fun _ => (hlo2).cell
        have lz0 := (hlo2).fz 0; have lz1 := (hlo2).fz 1; have lz2 := (hlo2).fz 2; have lz3 := (hlo2).fz 3
        have hll := hlo2.lt
        have HLo3 := Lib.hid (hlo2.put_x x); have HC3 := Lib.hid ((HC1.out.trans (hC2.mono (by simp))).put_x (b := L) (Or.inl (by simp)) x)
        clear hlo2 hC2
        go_wp2_with fail
        go_roundg x
        case measure => exact HXl.out
        case rel => exact ⟨Nat.lt_trans HXl.out HG4.out, HXz.out, HLo3.out, HC3.out⟩

end Go.Proofs.Ytplldbmjdnikeaa
