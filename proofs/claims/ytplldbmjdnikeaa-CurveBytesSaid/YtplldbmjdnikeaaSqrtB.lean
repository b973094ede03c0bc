/- The walk of wardmoteref02.Field.Sqrt over the base field. Printed by sqrtb.py. -/
import Derived.Test.YtplldbmjdnikeaaSqrtA
import Derived.Test.YtplldbmjdnikeaaRe2
import Derived.Test.YtplldbmjdnikeaaRbA
import Derived.Laws.Bits64b
namespace Go.Proofs.Ytplldbmjdnikeaa
set_option linter.unusedVariables false
set_option linter.unusedSimpArgs false
open Go.RowKit

theorem quarter {i : Nat} (h : i < 3) : bits .or .u64 (((lm (PP + 1) i : Nat) : Int) / 4) (IntKind.u64.wrap (((lm (PP + 1) (i + 1) : Nat) : Int) * 4611686018427387904)) = (lm rootP i : Nat) := by
  have : i = 0 ∨ i = 1 ∨ i = 2 := by omega
  rcases this with rfl | rfl | rfl <;> decide +kernel
theorem bit_rem2 (a i k r : Nat) (hk : i / 64 = k) (hr : i % 64 = r) : ((lm a k : Int) / 2 ^ r).tmod 2 = ((a / 2 ^ i % 2 : Nat) : Int) := by
  rw [← bit_nat a i k r hk hr, Int.tmod_eq_emod_of_nonneg (Int.ediv_nonneg (by omega) (Int.pow_nonneg (by omega)))]
  rfl
theorem par2 (a : Nat) : ((lm a 0 : Nat) : Int).tmod 2 = (a % 2 : Nat) := by
  have h := bit_rem2 a 0 0 0 (by omega) (by omega)
  simpa using h
theorem quarter3 : ((lm (PP + 1) 3 : Nat) : Int) / 4 = (lm rootP 3 : Nat) := by decide +kernel

set_option maxRecDepth 100000 in
set_option maxHeartbeats 8000000 in
theorem ref_sqrt_bad {a : Nat} (ha : a < PP) (hr : ¬  (a ^ rootP % PP) * (a ^ rootP % PP) % PP = a) (w : World) :
    Calls Try.prog 64 #[.agg (dcCells PP cP), .agg #[.int .u64 (lm a 0 : Nat), .int .u64 (lm a 1 : Nat), .int .u64 (lm a 2 : Nat), .int .u64 (lm a 3 : Nat)], .bool true] w fun e w' => e = .returned (.tuple #[.agg #[.int .u64 0, .int .u64 0, .int .u64 0, .int .u64 0], .int .i64 22]) ∧ Chg [] w w' := by
  have hP0 : 0 < PP := by decide
  have ha4 := Nat.lt_trans ha way_P.lt
  have hz4 : ∀ y, y % PP < PP := fun y => Nat.mod_lt y hP0
  have hhs := fun w => ref_has (c := cP) way_P.lt ha4 w
  rw [show decide (a < PP) = true by simpa using ha] at hhs
  have hplus := fun w => ref_plus PP 1 w
  rw [one_cells.1, one_cells.2.1, one_cells.2.2.1, one_cells.2.2.2] at hplus
  have hpow := fun w => ref_pow dc_P (by decide) ha (show rootP < B6 ^ 4 by decide +kernel) w
  have hrl := hz4 (a ^ rootP)
  obtain ⟨r, hre⟩ : ∃ r, a ^ rootP % PP = r := ⟨_, rfl⟩
  rw [hre] at hpow hrl hr
  have hmul := fun w => ref_mul (c := cP) dc_P (Nat.lt_trans hrl way_P.lt) (Nat.lt_trans hrl way_P.lt) w
  have hr4 : r * r % PP < B6 ^ 4 := Nat.lt_trans (hz4 _) way_P.lt
  have eq1 := fun w => num_eq hr4 ha4 w
  rw [decide_eq_false hr] at eq1
  obtain ⟨rr, hrr⟩ : ∃ rr, r * r % PP = rr := ⟨_, rfl⟩
  rw [hrr] at hmul eq1
  unfold dcCells at hhs hpow hmul
  obtain ⟨cy, hcy⟩ : ∃ cy, decide (cry PP 1 4 = 1) = cy := ⟨_, rfl⟩
  rw [hcy] at hplus
  have HHs := Lib.hid hhs; have HPlus := Lib.hid hplus; have HPow := Lib.hid hpow; have HMul := Lib.hid hmul
  clear hP0 ha4 hz4 hhs hplus hpow hrl hre hr hmul hr4 hrr hcy ha
  unfold dcCells
  obtain ⟨W0, hW0⟩ : ∃ W0, ((w.alloc (.cells #[.int .u64 (lm PP 0 : Nat), .int .u64 (lm PP 1 : Nat), .int .u64 (lm PP 2 : Nat), .int .u64 (lm PP 3 : Nat), .int .u64 (lm cP 0 : Nat), .int .u64 (lm cP 1 : Nat), .int .u64 (lm cP 2 : Nat), .int .u64 (lm cP 3 : Nat)] 76)).alloc (.cells #[.int .u64 (lm a 0 : Nat), .int .u64 (lm a 1 : Nat), .int .u64 (lm a 2 : Nat), .int .u64 (lm a 3 : Nat)] 24)).alloc (.cells #[.int .u64 0, .int .u64 0, .int .u64 0, .int .u64 0] 24) = W0 := ⟨_, rfl⟩
  obtain ⟨B, hB⟩ : ∃ B, w.heap.size = B := ⟨_, rfl⟩
  have HD := Lib.hid (show UD W0 B PP cP by rw [← hW0, ← hB]; exact has_alloc (has_alloc (has_alloc_new _ _)))
  have HA := Lib.hid (show U4 W0 (B + 1) 24 (lm a) by rw [← hW0, ← hB]; exact has_alloc (has_alloc_at (by simp)))
  have HR := Lib.hid (show U4 W0 (B + 1 + 1) 24 (fun _ => 0) by rw [← hW0, ← hB]; exact has_alloc_at (by simp))
  have HC := Lib.hid (show Chg [] w W0 by rw [← hW0]; exact (((Chg.refl _ _).alloc _).alloc _).alloc _)
  go_enter Try.func64, Try.ntmps64
  go_upto_region 1 with fail
  try rw [hW0]
  try rw [hB]
  obtain ⟨R, hRe⟩ : ∃ R, B + 1 + 1 = R := ⟨_, rfl⟩
  rw [hRe] at HR ⊢
  have HwR := Lib.hid (show w.heap.size ≤ R by omega)
  clear hW0 hB hRe
  obtain ⟨D0, D1, D2, D3⟩ := four4 fun _ => (HD.out).cm; obtain ⟨D4, D5, D6, D7⟩ := four4 fun _ => (HD.out).cc
  obtain ⟨a0, a1, a2, a3⟩ := four4 fun _ => HA.out.cell
  go_wp2_with fail
  refine (HHs.out _).mono ?_
  rintro e w1 ⟨rfl, hC1⟩
  replace HD := Lib.hid (HD.out.chg hC1 nmN); replace HA := Lib.hid (HA.out.chg hC1 nmN); replace HR := Lib.hid (HR.out.chg hC1 nmN); replace HC := Lib.hid (HC.out.trans hC1)
  clear hC1 a0 a1 a2 a3
  clear D0 D1 D2 D3 D4 D5 D6 D7
  obtain ⟨D0, D1, D2, D3⟩ := four4 fun _ => (HD.out).cm; obtain ⟨D4, D5, D6, D7⟩ := four4 fun _ => (HD.out).cc
  go_wp2_with fail
  refine (HPlus.out _).mono ?_
  rintro e w1 ⟨rfl, hC1⟩
  replace HD := Lib.hid (HD.out.chg hC1 nmN); replace HA := Lib.hid (HA.out.chg hC1 nmN); replace HR := Lib.hid (HR.out.chg hC1 nmN); replace HC := Lib.hid (HC.out.trans hC1)
  clear hC1
  clear D0 D1 D2 D3 D4 D5 D6 D7
  obtain ⟨W1, hW1⟩ : ∃ W1, w1.alloc (.cells #[.int .u64 (lm (PP + 1) 0 : Nat), .int .u64 (lm (PP + 1) 1 : Nat), .int .u64 (lm (PP + 1) 2 : Nat), .int .u64 (lm (PP + 1) 3 : Nat)] 24) = W1 := ⟨_, rfl⟩
  have hC1 : Chg [] w1 W1 := by rw [← hW1]; exact (Chg.refl _ _).alloc _
  obtain ⟨E, hE⟩ : ∃ b, w1.heap.size = b := ⟨_, rfl⟩
  have HE := Lib.hid (show U4 W1 E 24 (lm (PP + 1)) by rw [← hE, ← hW1]; exact has_alloc_new _ _)
  replace HD := Lib.hid (HD.out.chg hC1 nmN); replace HA := Lib.hid (HA.out.chg hC1 nmN); replace HR := Lib.hid (HR.out.chg hC1 nmN); replace HC := Lib.hid (HC.out.trans hC1)
  have HW1 := Lib.hid hW1; have HEe := Lib.hid hE
  clear hC1 hW1 hE
  go_upto_region 6 with fail
  try rw [HW1.out]
  try rw [HEe.out]
  clear HW1 HEe
  go_upto_region 7 with fail
  obtain ⟨Q, hQ⟩ : ∃ b, W1.heap.size = b := ⟨_, rfl⟩
  obtain ⟨W2, hW2⟩ : ∃ W2, W1.alloc (.cells #[.int .u64 0, .int .u64 0, .int .u64 0, .int .u64 0] 24) = W2 := ⟨_, rfl⟩
  have hC1 : Chg [] W1 W2 := by rw [← hW2]; exact (Chg.refl _ _).alloc _
  have HQ := Lib.hid (show U4 W2 Q 24 (fun _ => 0) by rw [← hQ, ← hW2]; exact has_alloc_new _ _)
  have HQge := Lib.hid (Nat.le_of_eq hQ)
  try rw [hW2]
  try rw [hQ]
  have HC2 := Lib.hid hC1
  clear hC1 hW2 hQ
  go_wp2_with fail
  go_loopg [11] 4 (fun gk i wr => ∃ n : Nat, gk + n = 4 ∧ i = .int .i64 n ∧ U4 wr Q 24 (fun k => if k < n then lm rootP k else 0) ∧ Chg [] W1 wr)
  case atStart => exact ⟨0, rfl, rfl, HQ.out.same (fun k hk => by simp), HC2.out⟩
  case round =>
    obtain ⟨n, hn, rfl, hU, hCr⟩ := hrel
    clear HQ HC2
    by_cases hlt : n < 4
    · have ce := (HE.out.chg hCr nmN).cell hlt
      have cq := hU.cell hlt
      have zq := hU.fz n
      have hll := hU.lt
      have hx64 := lm_lt (PP + 1) n
      obtain ⟨x, hx⟩ : ∃ x, lm (PP + 1) n = x := ⟨_, rfl⟩
      rw [hx] at ce hx64
      have HCr := Lib.hid hCr; have HN := Lib.hid hn; have HU := Lib.hid hU
      by_cases h3 : n < 3
      · have ce1 := (HE.out.chg hCr nmN).cell (k := n + 1) (by omega)
        have hor := quarter h3
        rw [hx] at hor
        obtain ⟨y, hy⟩ : ∃ y, lm (PP + 1) (n + 1) = y := ⟨_, rfl⟩
        have hy64 := lm_lt (PP + 1) (n + 1)
        rw [hy] at ce1 hor hy64
        have hn1 : n + 1 < 4 := by omega
        obtain ⟨v, hv⟩ : ∃ v, x / 4 = v := ⟨_, rfl⟩
        have ev : ((x : Nat) : Int) / 4 = (v : Nat) := by rw [← hv]; rfl
        have hv64 : v < 18446744073709551616 := by omega
        rw [ev] at hor
        have hU1 : U4 (wr.setCell ⟨Q, n, none⟩ (.int .u64 (v : Nat))) Q 24 (fun i => if i = n then v else if i < n then lm rootP i else 0) := hU.set hlt v
        have hC1 : Chg [] W1 (wr.setCell ⟨Q, n, none⟩ (.int .u64 (v : Nat))) := hCr.setCell (Or.inr HQge.out) _
        have HU1 := Lib.hid hU1; have HC1 := Lib.hid hC1; have HEv := Lib.hid ev; have HOr := Lib.hid hor; have HY := Lib.hid hy
        clear hU hCr hn hU1 hC1 hx hy hv ev hor
        go_upto_region 12 with fail
        try rw [HEv.out]
        generalize hW5 : wr.setCell ⟨Q, n, none⟩ (.int .u64 (v : Nat)) = W5 at *
        clear ce ce1 cq zq hll hW5
        have ce1 := (HE.out.chg HC1.out nmN).cell hn1
        rw [HY.out] at ce1
        have cq := HU1.out.cell hlt
        rw [if_pos rfl] at cq
        have zq := HU1.out.fz n
        have hll := HU1.out.lt
        go_region
        try rw [HOr.out]
        go_wp2_with fail
        go_roundg (4 - (n + 1))
        case measure => have := HN.out; omega
        case rel =>
          refine ⟨n + 1, by have := HN.out; omega, by go_num, (HU1.out.set hlt (lm rootP n)).same fun i hi => ?_, (HC1.out.setCell (Or.inr HQge.out) _).drew⟩
          by_cases hin : i = n
          · simp [hin]
          · by_cases hil : i < n
            · simp [hin, hil, Nat.lt_succ_of_lt hil]
            · have : ¬ i < n + 1 := by omega
              simp [hin, hil, this]
      · have hn3 : n = 3 := by omega
        subst hn3
        have hq3 := quarter3
        rw [hx] at hq3
        obtain ⟨v, hv⟩ : ∃ v, lm rootP 3 = v := ⟨_, rfl⟩
        rw [hv] at hq3
        have hU1 : U4 (wr.setCell ⟨Q, 3, none⟩ (.int .u64 (v : Nat))) Q 24 (fun k => if k < 3 + 1 then lm rootP k else 0) := (hU.set hlt v).same (fun i hi => by
          by_cases hin : i = 3
          · simp [hin, hv]
          · have h1 : i < 3 := by omega
            have h2 : i < 3 + 1 := by omega
            simp [hin, h1, h2])
        have HU1 := Lib.hid hU1; have HQ3 := Lib.hid hq3
        have ce3 : wr.cell? ⟨E, 3, none⟩ = some (.int .u64 (x : Nat)) := ce
        clear hU hCr hn hU1 hx hv hq3 ce
        go_wp2_with fail
        try rw [HQ3.out]
        go_roundg (4 - (3 + 1))
        case measure => have := HN.out; omega
        case rel => exact ⟨3 + 1, by have := HN.out; omega, by first | rfl | go_num, HU1.out, HCr.out.setCell (Or.inr HQge.out) _⟩
    · obtain rfl : n = 4 := by omega
      have hQ4 : U4 wr Q 24 (lm rootP) := hU.same fun k hk => by rw [if_pos hk]
      have HQ := Lib.hid hQ4
      have hC1 := hCr
      replace HD := Lib.hid (HD.out.chg hC1 nmN); replace HA := Lib.hid (HA.out.chg hC1 nmN); replace HR := Lib.hid (HR.out.chg hC1 nmN); replace HC := Lib.hid (HC.out.trans hC1)
      clear hU hQ4 hC1 hCr hn
      obtain ⟨D0, D1, D2, D3⟩ := four4 fun _ => (HD.out).cm; obtain ⟨D4, D5, D6, D7⟩ := four4 fun _ => (HD.out).cc
      obtain ⟨a0, a1, a2, a3⟩ := four4 fun _ => HA.out.cell
      obtain ⟨q0, q1, q2, q3⟩ := four4 fun _ => HQ.out.cell
      go_wp2_with fail
      refine (HPow.out _).mono ?_
      rintro e w1 ⟨rfl, hC1⟩
      replace HD := Lib.hid (HD.out.chg hC1 nmN); replace HA := Lib.hid (HA.out.chg hC1 nmN); replace HR := Lib.hid (HR.out.chg hC1 nmN); replace HC := Lib.hid (HC.out.trans hC1)
      clear hC1 a0 a1 a2 a3 q0 q1 q2 q3
      clear D0 D1 D2 D3 D4 D5 D6 D7
      obtain ⟨W3, hW3⟩ : ∃ W3, w1.alloc (.cells #[.int .u64 (lm r 0 : Nat), .int .u64 (lm r 1 : Nat), .int .u64 (lm r 2 : Nat), .int .u64 (lm r 3 : Nat)] 24) = W3 := ⟨_, rfl⟩
      have hC1 : Chg [] w1 W3 := by rw [← hW3]; exact (Chg.refl _ _).alloc _
      obtain ⟨S, hS⟩ : ∃ b, w1.heap.size = b := ⟨_, rfl⟩
      have HS := Lib.hid (show U4 W3 S 24 (lm r) by rw [← hS, ← hW3]; exact has_alloc_new _ _)
      have hRS : R < S := by rw [← hS]; exact HR.out.lt
      have HSw := Lib.hid (show w.heap.size ≤ S by have := HwR.out; omega)
      replace HD := Lib.hid (HD.out.chg hC1 nmN); replace HA := Lib.hid (HA.out.chg hC1 nmN); replace HR := Lib.hid (HR.out.chg hC1 nmN); replace HC := Lib.hid (HC.out.trans hC1)
      have HW3 := Lib.hid hW3; have HSe := Lib.hid hS
      clear hC1 hW3 hS
      go_upto_region 14 with fail
      try rw [HW3.out]
      try rw [HSe.out]
      clear HW3 HSe
      obtain ⟨D0, D1, D2, D3⟩ := four4 fun _ => (HD.out).cm; obtain ⟨D4, D5, D6, D7⟩ := four4 fun _ => (HD.out).cc
      obtain ⟨a0, a1, a2, a3⟩ := four4 fun _ => HA.out.cell
      obtain ⟨r0, r1, r2, r3⟩ := four4 fun _ => HS.out.cell
      refine abs_region (B := Chg [] W3) (S := Chg [] W3) (by kernel_rfl) ((Chg.refl _ _).drew) ?_
      have hG := good_chg [] W3
      refine Abs.take_np (i := 0) (d := some 55) (v := ?_) rfl rfl (by kernel_rfl) (by kernel_rfl) (by kernel_rfl) hG ⟨by rfl, fun w9 hw9 => Or.inl ?_⟩ ?_
      rotate_left
      · replace D0 := hw9.cell D0 nmN; replace D1 := hw9.cell D1 nmN; replace D2 := hw9.cell D2 nmN; replace D3 := hw9.cell D3 nmN; replace D4 := hw9.cell D4 nmN; replace D5 := hw9.cell D5 nmN; replace D6 := hw9.cell D6 nmN; replace D7 := hw9.cell D7 nmN
        go_simp
        try with_reducible rfl
      simp only [Act.put, stA, stB, stC]
      refine Abs.take_np (i := 1) (d := some 56) (v := ?_) rfl rfl (by kernel_rfl) (by kernel_rfl) (by kernel_rfl) hG ⟨by rfl, fun w9 hw9 => Or.inl ?_⟩ ?_
      rotate_left
      · replace r0 := hw9.cell r0 nmN; replace r1 := hw9.cell r1 nmN; replace r2 := hw9.cell r2 nmN; replace r3 := hw9.cell r3 nmN
        go_simp
        try with_reducible rfl
      simp only [Act.put, stA, stB, stC]
      refine Abs.take_np (i := 2) (d := some 57) (v := ?_) rfl rfl (by kernel_rfl) (by kernel_rfl) (by kernel_rfl) hG ⟨by rfl, fun w9 hw9 => Or.inl ?_⟩ ?_
      rotate_left
      · replace r0 := hw9.cell r0 nmN; replace r1 := hw9.cell r1 nmN; replace r2 := hw9.cell r2 nmN; replace r3 := hw9.cell r3 nmN
        go_simp
        try with_reducible rfl
      simp only [Act.put, stA, stB, stC]
      refine Abs.take_np (i := 3) (d := some 58) (v := _) rfl rfl (by kernel_rfl) (by kernel_rfl) (by kernel_rfl) hG ⟨by rfl, fun w9 hw9 => Or.inr ⟨_, _, ?_, HMul.out w9⟩⟩ ?_
      · go_simp
        try with_reducible rfl
      simp only [Act.put, stA, stB, stC]
      refine Abs.take_np (i := 4) (d := some 59) (v := ?_) rfl rfl (by kernel_rfl) (by kernel_rfl) (by kernel_rfl) hG ⟨by rfl, fun w9 hw9 => Or.inl ?_⟩ ?_
      rotate_left
      · replace a0 := hw9.cell a0 nmN; replace a1 := hw9.cell a1 nmN; replace a2 := hw9.cell a2 nmN; replace a3 := hw9.cell a3 nmN
        go_simp
        try with_reducible rfl
      simp only [Act.put, stA, stB, stC]
      refine Abs.take_np (i := 5) (d := some 60) (v := ?_) rfl rfl (by kernel_rfl) (by kernel_rfl) (by kernel_rfl) hG ⟨by rfl, fun w9 hw9 => Or.inl ?_⟩ ?_
      rotate_left
      · go_simp
        try with_reducible rfl
      simp only [Act.put, stA, stB, stC]
      refine Abs.done (by kernel_rfl) (fun wx hx => NoPanic.normal ?_) _
      replace HS := Lib.hid (HS.out.chg hx nmN)
      replace HD := Lib.hid (HD.out.chg hx nmN); replace HA := Lib.hid (HA.out.chg hx nmN); replace HR := Lib.hid (HR.out.chg hx nmN); replace HC := Lib.hid (HC.out.trans hx)
      clear hx a0 a1 a2 a3 r0 r1 r2 r3
      clear D0 D1 D2 D3 D4 D5 D6 D7
      go_upto_region 15 with fail
      have hR9 := HR.out
      have hC9 := HC.out
      have q0 := hR9.cell (k := 0) (by omega); have qz0 := hR9.fz 0; have q1 := hR9.cell (k := 1) (by omega); have qz1 := hR9.fz 1; have q2 := hR9.cell (k := 2) (by omega); have qz2 := hR9.fz 2; have q3 := hR9.cell (k := 3) (by omega); have qz3 := hR9.fz 3
      have hll := hR9.lt
      have HF9 := Lib.hid (hR9.put (fun _ => 0)); have HCF := Lib.hid (hC9.put4 (b := R) (Or.inr HwR.out) (fun _ => 0))
      clear hR9 hC9
      go_wp2_with fail
      have hF := HF9.out; have hCF := HCF.out
      refine (id ?_ : bodyPost _ _ _ _ _ (put4 wx R (fun _ => 0)))
      clear HF9 HCF
      generalize put4 wx R (fun _ => 0) = W5 at *
      obtain ⟨g0, g1, g2, g3⟩ := four4 fun _ => hF.cell
      exact bodyPost_ret (v := .tuple #[.agg #[.int .u64 0, .int .u64 0, .int .u64 0, .int .u64 0], .int .i64 22]) (by simp [results, Try.results64, go_sem, g0, g1, g2, g3]) rfl ⟨rfl, hCF⟩

set_option maxRecDepth 100000 in
set_option maxHeartbeats 8000000 in
theorem ref_sqrt_even {a : Nat} (ha : a < PP) (hr :  (a ^ rootP % PP) * (a ^ rootP % PP) % PP = a) (hp : ¬ a ^ rootP % PP % 2 = 1) (w : World) :
    Calls Try.prog 64 #[.agg (dcCells PP cP), .agg #[.int .u64 (lm a 0 : Nat), .int .u64 (lm a 1 : Nat), .int .u64 (lm a 2 : Nat), .int .u64 (lm a 3 : Nat)], .bool true] w fun e w' => e = .returned (.tuple #[.agg #[.int .u64 (lm (evR PP (a ^ rootP % PP)) 0 : Nat), .int .u64 (lm (evR PP (a ^ rootP % PP)) 1 : Nat), .int .u64 (lm (evR PP (a ^ rootP % PP)) 2 : Nat), .int .u64 (lm (evR PP (a ^ rootP % PP)) 3 : Nat)], .int .i64 0]) ∧ Chg [] w w' := by
  have hP0 : 0 < PP := by decide
  have ha4 := Nat.lt_trans ha way_P.lt
  have hz4 : ∀ y, y % PP < PP := fun y => Nat.mod_lt y hP0
  have hhs := fun w => ref_has (c := cP) way_P.lt ha4 w
  rw [show decide (a < PP) = true by simpa using ha] at hhs
  have hplus := fun w => ref_plus PP 1 w
  rw [one_cells.1, one_cells.2.1, one_cells.2.2.1, one_cells.2.2.2] at hplus
  have hpow := fun w => ref_pow dc_P (by decide) ha (show rootP < B6 ^ 4 by decide +kernel) w
  have hrl := hz4 (a ^ rootP)
  rw [show evR PP (a ^ rootP % PP) = a ^ rootP % PP from if_neg hp]
  obtain ⟨r, hre⟩ : ∃ r, a ^ rootP % PP = r := ⟨_, rfl⟩
  rw [hre] at hpow hrl hr hp ⊢
  have hmul := fun w => ref_mul (c := cP) dc_P (Nat.lt_trans hrl way_P.lt) (Nat.lt_trans hrl way_P.lt) w
  have hr4 : r * r % PP < B6 ^ 4 := Nat.lt_trans (hz4 _) way_P.lt
  have eq1 := fun w => num_eq hr4 ha4 w
  rw [decide_eq_true hr] at eq1
  have hpar := par2 r
  have hpar2 : r % 2 = 0 := by omega
  rw [hpar2] at hpar
  obtain ⟨rr, hrr⟩ : ∃ rr, r * r % PP = rr := ⟨_, rfl⟩
  rw [hrr] at hmul eq1
  unfold dcCells at hhs hpow hmul
  obtain ⟨cy, hcy⟩ : ∃ cy, decide (cry PP 1 4 = 1) = cy := ⟨_, rfl⟩
  rw [hcy] at hplus
  have HHs := Lib.hid hhs; have HPlus := Lib.hid hplus; have HPow := Lib.hid hpow; have HMul := Lib.hid hmul
  clear hP0 ha4 hz4 hhs hplus hpow hrl hre hr hmul hr4 hrr hcy ha hp hpar2
  unfold dcCells
  obtain ⟨W0, hW0⟩ : ∃ W0, ((w.alloc (.cells #[.int .u64 (lm PP 0 : Nat), .int .u64 (lm PP 1 : Nat), .int .u64 (lm PP 2 : Nat), .int .u64 (lm PP 3 : Nat), .int .u64 (lm cP 0 : Nat), .int .u64 (lm cP 1 : Nat), .int .u64 (lm cP 2 : Nat), .int .u64 (lm cP 3 : Nat)] 76)).alloc (.cells #[.int .u64 (lm a 0 : Nat), .int .u64 (lm a 1 : Nat), .int .u64 (lm a 2 : Nat), .int .u64 (lm a 3 : Nat)] 24)).alloc (.cells #[.int .u64 0, .int .u64 0, .int .u64 0, .int .u64 0] 24) = W0 := ⟨_, rfl⟩
  obtain ⟨B, hB⟩ : ∃ B, w.heap.size = B := ⟨_, rfl⟩
  have HD := Lib.hid (show UD W0 B PP cP by rw [← hW0, ← hB]; exact has_alloc (has_alloc (has_alloc_new _ _)))
  have HA := Lib.hid (show U4 W0 (B + 1) 24 (lm a) by rw [← hW0, ← hB]; exact has_alloc (has_alloc_at (by simp)))
  have HR := Lib.hid (show U4 W0 (B + 1 + 1) 24 (fun _ => 0) by rw [← hW0, ← hB]; exact has_alloc_at (by simp))
  have HC := Lib.hid (show Chg [] w W0 by rw [← hW0]; exact (((Chg.refl _ _).alloc _).alloc _).alloc _)
  go_enter Try.func64, Try.ntmps64
  go_upto_region 1 with fail
  try rw [hW0]
  try rw [hB]
  obtain ⟨R, hRe⟩ : ∃ R, B + 1 + 1 = R := ⟨_, rfl⟩
  rw [hRe] at HR ⊢
  have HwR := Lib.hid (show w.heap.size ≤ R by omega)
  clear hW0 hB hRe
  obtain ⟨D0, D1, D2, D3⟩ := four4 fun _ => (HD.out).cm; obtain ⟨D4, D5, D6, D7⟩ := four4 fun _ => (HD.out).cc
  obtain ⟨a0, a1, a2, a3⟩ := four4 fun _ => HA.out.cell
  go_wp2_with fail
  refine (HHs.out _).mono ?_
  rintro e w1 ⟨rfl, hC1⟩
  replace HD := Lib.hid (HD.out.chg hC1 nmN); replace HA := Lib.hid (HA.out.chg hC1 nmN); replace HR := Lib.hid (HR.out.chg hC1 nmN); replace HC := Lib.hid (HC.out.trans hC1)
  clear hC1 a0 a1 a2 a3
  clear D0 D1 D2 D3 D4 D5 D6 D7
  obtain ⟨D0, D1, D2, D3⟩ := four4 fun _ => (HD.out).cm; obtain ⟨D4, D5, D6, D7⟩ := four4 fun _ => (HD.out).cc
  go_wp2_with fail
  refine (HPlus.out _).mono ?_
  rintro e w1 ⟨rfl, hC1⟩
  replace HD := Lib.hid (HD.out.chg hC1 nmN); replace HA := Lib.hid (HA.out.chg hC1 nmN); replace HR := Lib.hid (HR.out.chg hC1 nmN); replace HC := Lib.hid (HC.out.trans hC1)
  clear hC1
  clear D0 D1 D2 D3 D4 D5 D6 D7
  obtain ⟨W1, hW1⟩ : ∃ W1, w1.alloc (.cells #[.int .u64 (lm (PP + 1) 0 : Nat), .int .u64 (lm (PP + 1) 1 : Nat), .int .u64 (lm (PP + 1) 2 : Nat), .int .u64 (lm (PP + 1) 3 : Nat)] 24) = W1 := ⟨_, rfl⟩
  have hC1 : Chg [] w1 W1 := by rw [← hW1]; exact (Chg.refl _ _).alloc _
  obtain ⟨E, hE⟩ : ∃ b, w1.heap.size = b := ⟨_, rfl⟩
  have HE := Lib.hid (show U4 W1 E 24 (lm (PP + 1)) by rw [← hE, ← hW1]; exact has_alloc_new _ _)
  replace HD := Lib.hid (HD.out.chg hC1 nmN); replace HA := Lib.hid (HA.out.chg hC1 nmN); replace HR := Lib.hid (HR.out.chg hC1 nmN); replace HC := Lib.hid (HC.out.trans hC1)
  have HW1 := Lib.hid hW1; have HEe := Lib.hid hE
  clear hC1 hW1 hE
  go_upto_region 6 with fail
  try rw [HW1.out]
  try rw [HEe.out]
  clear HW1 HEe
  go_upto_region 7 with fail
  obtain ⟨Q, hQ⟩ : ∃ b, W1.heap.size = b := ⟨_, rfl⟩
  obtain ⟨W2, hW2⟩ : ∃ W2, W1.alloc (.cells #[.int .u64 0, .int .u64 0, .int .u64 0, .int .u64 0] 24) = W2 := ⟨_, rfl⟩
  have hC1 : Chg [] W1 W2 := by rw [← hW2]; exact (Chg.refl _ _).alloc _
  have HQ := Lib.hid (show U4 W2 Q 24 (fun _ => 0) by rw [← hQ, ← hW2]; exact has_alloc_new _ _)
  have HQge := Lib.hid (Nat.le_of_eq hQ)
  try rw [hW2]
  try rw [hQ]
  have HC2 := Lib.hid hC1
  clear hC1 hW2 hQ
  go_wp2_with fail
  go_loopg [11] 4 (fun gk i wr => ∃ n : Nat, gk + n = 4 ∧ i = .int .i64 n ∧ U4 wr Q 24 (fun k => if k < n then lm rootP k else 0) ∧ Chg [] W1 wr)
  case atStart => exact ⟨0, rfl, rfl, HQ.out.same (fun k hk => by simp), HC2.out⟩
  case round =>
    obtain ⟨n, hn, rfl, hU, hCr⟩ := hrel
    clear HQ HC2
    by_cases hlt : n < 4
    · have ce := (HE.out.chg hCr nmN).cell hlt
      have cq := hU.cell hlt
      have zq := hU.fz n
      have hll := hU.lt
      have hx64 := lm_lt (PP + 1) n
      obtain ⟨x, hx⟩ : ∃ x, lm (PP + 1) n = x := ⟨_, rfl⟩
      rw [hx] at ce hx64
      have HCr := Lib.hid hCr; have HN := Lib.hid hn; have HU := Lib.hid hU
      by_cases h3 : n < 3
      · have ce1 := (HE.out.chg hCr nmN).cell (k := n + 1) (by omega)
        have hor := quarter h3
        rw [hx] at hor
        obtain ⟨y, hy⟩ : ∃ y, lm (PP + 1) (n + 1) = y := ⟨_, rfl⟩
        have hy64 := lm_lt (PP + 1) (n + 1)
        rw [hy] at ce1 hor hy64
        have hn1 : n + 1 < 4 := by omega
        obtain ⟨v, hv⟩ : ∃ v, x / 4 = v := ⟨_, rfl⟩
        have ev : ((x : Nat) : Int) / 4 = (v : Nat) := by rw [← hv]; rfl
        have hv64 : v < 18446744073709551616 := by omega
        rw [ev] at hor
        have hU1 : U4 (wr.setCell ⟨Q, n, none⟩ (.int .u64 (v : Nat))) Q 24 (fun i => if i = n then v else if i < n then lm rootP i else 0) := hU.set hlt v
        have hC1 : Chg [] W1 (wr.setCell ⟨Q, n, none⟩ (.int .u64 (v : Nat))) := hCr.setCell (Or.inr HQge.out) _
        have HU1 := Lib.hid hU1; have HC1 := Lib.hid hC1; have HEv := Lib.hid ev; have HOr := Lib.hid hor; have HY := Lib.hid hy
        clear hU hCr hn hU1 hC1 hx hy hv ev hor
        go_upto_region 12 with fail
        try rw [HEv.out]
        generalize hW5 : wr.setCell ⟨Q, n, none⟩ (.int .u64 (v : Nat)) = W5 at *
        clear ce ce1 cq zq hll hW5
        have ce1 := (HE.out.chg HC1.out nmN).cell hn1
        rw [HY.out] at ce1
        have cq := HU1.out.cell hlt
        rw [if_pos rfl] at cq
        have zq := HU1.out.fz n
        have hll := HU1.out.lt
        go_region
        try rw [HOr.out]
        go_wp2_with fail
        go_roundg (4 - (n + 1))
        case measure => have := HN.out; omega
        case rel =>
          refine ⟨n + 1, by have := HN.out; omega, by go_num, (HU1.out.set hlt (lm rootP n)).same fun i hi => ?_, (HC1.out.setCell (Or.inr HQge.out) _).drew⟩
          by_cases hin : i = n
          · simp [hin]
          · by_cases hil : i < n
            · simp [hin, hil, Nat.lt_succ_of_lt hil]
            · have : ¬ i < n + 1 := by omega
              simp [hin, hil, this]
      · have hn3 : n = 3 := by omega
        subst hn3
        have hq3 := quarter3
        rw [hx] at hq3
        obtain ⟨v, hv⟩ : ∃ v, lm rootP 3 = v := ⟨_, rfl⟩
        rw [hv] at hq3
        have hU1 : U4 (wr.setCell ⟨Q, 3, none⟩ (.int .u64 (v : Nat))) Q 24 (fun k => if k < 3 + 1 then lm rootP k else 0) := (hU.set hlt v).same (fun i hi => by
          by_cases hin : i = 3
          · simp [hin, hv]
          · have h1 : i < 3 := by omega
            have h2 : i < 3 + 1 := by omega
            simp [hin, h1, h2])
        have HU1 := Lib.hid hU1; have HQ3 := Lib.hid hq3
        have ce3 : wr.cell? ⟨E, 3, none⟩ = some (.int .u64 (x : Nat)) := ce
        clear hU hCr hn hU1 hx hv hq3 ce
        go_wp2_with fail
        try rw [HQ3.out]
        go_roundg (4 - (3 + 1))
        case measure => have := HN.out; omega
        case rel => exact ⟨3 + 1, by have := HN.out; omega, by first | rfl | go_num, HU1.out, HCr.out.setCell (Or.inr HQge.out) _⟩
    · obtain rfl : n = 4 := by omega
      have hQ4 : U4 wr Q 24 (lm rootP) := hU.same fun k hk => by rw [if_pos hk]
      have HQ := Lib.hid hQ4
      have hC1 := hCr
      replace HD := Lib.hid (HD.out.chg hC1 nmN); replace HA := Lib.hid (HA.out.chg hC1 nmN); replace HR := Lib.hid (HR.out.chg hC1 nmN); replace HC := Lib.hid (HC.out.trans hC1)
      clear hU hQ4 hC1 hCr hn
      obtain ⟨D0, D1, D2, D3⟩ := four4 fun _ => (HD.out).cm; obtain ⟨D4, D5, D6, D7⟩ := four4 fun _ => (HD.out).cc
      obtain ⟨a0, a1, a2, a3⟩ := four4 fun _ => HA.out.cell
      obtain ⟨q0, q1, q2, q3⟩ := four4 fun _ => HQ.out.cell
      go_wp2_with fail
      refine (HPow.out _).mono ?_
      rintro e w1 ⟨rfl, hC1⟩
      replace HD := Lib.hid (HD.out.chg hC1 nmN); replace HA := Lib.hid (HA.out.chg hC1 nmN); replace HR := Lib.hid (HR.out.chg hC1 nmN); replace HC := Lib.hid (HC.out.trans hC1)
      clear hC1 a0 a1 a2 a3 q0 q1 q2 q3
      clear D0 D1 D2 D3 D4 D5 D6 D7
      obtain ⟨W3, hW3⟩ : ∃ W3, w1.alloc (.cells #[.int .u64 (lm r 0 : Nat), .int .u64 (lm r 1 : Nat), .int .u64 (lm r 2 : Nat), .int .u64 (lm r 3 : Nat)] 24) = W3 := ⟨_, rfl⟩
      have hC1 : Chg [] w1 W3 := by rw [← hW3]; exact (Chg.refl _ _).alloc _
      obtain ⟨S, hS⟩ : ∃ b, w1.heap.size = b := ⟨_, rfl⟩
      have HS := Lib.hid (show U4 W3 S 24 (lm r) by rw [← hS, ← hW3]; exact has_alloc_new _ _)
      have hRS : R < S := by rw [← hS]; exact HR.out.lt
      have HSw := Lib.hid (show w.heap.size ≤ S by have := HwR.out; omega)
      replace HD := Lib.hid (HD.out.chg hC1 nmN); replace HA := Lib.hid (HA.out.chg hC1 nmN); replace HR := Lib.hid (HR.out.chg hC1 nmN); replace HC := Lib.hid (HC.out.trans hC1)
      have HW3 := Lib.hid hW3; have HSe := Lib.hid hS
      clear hC1 hW3 hS
      go_upto_region 14 with fail
      try rw [HW3.out]
      try rw [HSe.out]
      clear HW3 HSe
      obtain ⟨D0, D1, D2, D3⟩ := four4 fun _ => (HD.out).cm; obtain ⟨D4, D5, D6, D7⟩ := four4 fun _ => (HD.out).cc
      obtain ⟨a0, a1, a2, a3⟩ := four4 fun _ => HA.out.cell
      obtain ⟨r0, r1, r2, r3⟩ := four4 fun _ => HS.out.cell
      refine abs_region (B := Chg [] W3) (S := Chg [] W3) (by kernel_rfl) ((Chg.refl _ _).drew) ?_
      have hG := good_chg [] W3
      refine Abs.take_np (i := 0) (d := some 55) (v := ?_) rfl rfl (by kernel_rfl) (by kernel_rfl) (by kernel_rfl) hG ⟨by rfl, fun w9 hw9 => Or.inl ?_⟩ ?_
      rotate_left
      · replace D0 := hw9.cell D0 nmN; replace D1 := hw9.cell D1 nmN; replace D2 := hw9.cell D2 nmN; replace D3 := hw9.cell D3 nmN; replace D4 := hw9.cell D4 nmN; replace D5 := hw9.cell D5 nmN; replace D6 := hw9.cell D6 nmN; replace D7 := hw9.cell D7 nmN
        go_simp
        try with_reducible rfl
      simp only [Act.put, stA, stB, stC]
      refine Abs.take_np (i := 1) (d := some 56) (v := ?_) rfl rfl (by kernel_rfl) (by kernel_rfl) (by kernel_rfl) hG ⟨by rfl, fun w9 hw9 => Or.inl ?_⟩ ?_
      rotate_left
      · replace r0 := hw9.cell r0 nmN; replace r1 := hw9.cell r1 nmN; replace r2 := hw9.cell r2 nmN; replace r3 := hw9.cell r3 nmN
        go_simp
        try with_reducible rfl
      simp only [Act.put, stA, stB, stC]
      refine Abs.take_np (i := 2) (d := some 57) (v := ?_) rfl rfl (by kernel_rfl) (by kernel_rfl) (by kernel_rfl) hG ⟨by rfl, fun w9 hw9 => Or.inl ?_⟩ ?_
      rotate_left
      · replace r0 := hw9.cell r0 nmN; replace r1 := hw9.cell r1 nmN; replace r2 := hw9.cell r2 nmN; replace r3 := hw9.cell r3 nmN
        go_simp
        try with_reducible rfl
      simp only [Act.put, stA, stB, stC]
      refine Abs.take_np (i := 3) (d := some 58) (v := _) rfl rfl (by kernel_rfl) (by kernel_rfl) (by kernel_rfl) hG ⟨by rfl, fun w9 hw9 => Or.inr ⟨_, _, ?_, HMul.out w9⟩⟩ ?_
      · go_simp
        try with_reducible rfl
      simp only [Act.put, stA, stB, stC]
      refine Abs.take_np (i := 4) (d := some 59) (v := ?_) rfl rfl (by kernel_rfl) (by kernel_rfl) (by kernel_rfl) hG ⟨by rfl, fun w9 hw9 => Or.inl ?_⟩ ?_
      rotate_left
      · replace a0 := hw9.cell a0 nmN; replace a1 := hw9.cell a1 nmN; replace a2 := hw9.cell a2 nmN; replace a3 := hw9.cell a3 nmN
        go_simp
        try with_reducible rfl
      simp only [Act.put, stA, stB, stC]
      refine Abs.take_np (i := 5) (d := some 60) (v := ?_) rfl rfl (by kernel_rfl) (by kernel_rfl) (by kernel_rfl) hG ⟨by rfl, fun w9 hw9 => Or.inl ?_⟩ ?_
      rotate_left
      · go_simp
        try with_reducible rfl
      simp only [Act.put, stA, stB, stC]
      refine Abs.done (by kernel_rfl) (fun wx hx => NoPanic.normal ?_) _
      replace HS := Lib.hid (HS.out.chg hx nmN)
      replace HD := Lib.hid (HD.out.chg hx nmN); replace HA := Lib.hid (HA.out.chg hx nmN); replace HR := Lib.hid (HR.out.chg hx nmN); replace HC := Lib.hid (HC.out.trans hx)
      clear hx a0 a1 a2 a3 r0 r1 r2 r3
      clear D0 D1 D2 D3 D4 D5 D6 D7
      obtain ⟨r0, r1, r2, r3⟩ := four4 fun _ => HS.out.cell
      go_upto_region 18 with fail
      clear r0 r1 r2 r3 hpar
      obtain ⟨r0, r1, r2, r3⟩ := four4 fun _ => HS.out.cell
      have hR9 := HR.out
      have hC9 := HC.out
      have q0 := hR9.cell (k := 0) (by omega); have qz0 := hR9.fz 0; have q1 := hR9.cell (k := 1) (by omega); have qz1 := hR9.fz 1; have q2 := hR9.cell (k := 2) (by omega); have qz2 := hR9.fz 2; have q3 := hR9.cell (k := 3) (by omega); have qz3 := hR9.fz 3
      have hll := hR9.lt
      have HF9 := Lib.hid (hR9.put (lm r)); have HCF := Lib.hid (hC9.put4 (b := R) (Or.inr HwR.out) (lm r))
      clear hR9 hC9
      go_wp2_with fail
      have hF := HF9.out; have hCF := HCF.out
      refine (id ?_ : bodyPost _ _ _ _ _ (put4 wx R (lm r)))
      clear HF9 HCF
      generalize put4 wx R (lm r) = W5 at *
      obtain ⟨g0, g1, g2, g3⟩ := four4 fun _ => hF.cell
      exact bodyPost_ret (v := .tuple #[.agg #[.int .u64 (lm r 0 : Nat), .int .u64 (lm r 1 : Nat), .int .u64 (lm r 2 : Nat), .int .u64 (lm r 3 : Nat)], .int .i64 0]) (by simp [results, Try.results64, go_sem, g0, g1, g2, g3]) rfl ⟨rfl, hCF⟩

set_option maxRecDepth 100000 in
set_option maxHeartbeats 8000000 in
theorem ref_sqrt_odd {a : Nat} (ha : a < PP) (hr :  (a ^ rootP % PP) * (a ^ rootP % PP) % PP = a) (hp : a ^ rootP % PP % 2 = 1) (w : World) :
    Calls Try.prog 64 #[.agg (dcCells PP cP), .agg #[.int .u64 (lm a 0 : Nat), .int .u64 (lm a 1 : Nat), .int .u64 (lm a 2 : Nat), .int .u64 (lm a 3 : Nat)], .bool true] w fun e w' => e = .returned (.tuple #[.agg #[.int .u64 (lm (evR PP (a ^ rootP % PP)) 0 : Nat), .int .u64 (lm (evR PP (a ^ rootP % PP)) 1 : Nat), .int .u64 (lm (evR PP (a ^ rootP % PP)) 2 : Nat), .int .u64 (lm (evR PP (a ^ rootP % PP)) 3 : Nat)], .int .i64 0]) ∧ Chg [] w w' := by
  have hP0 : 0 < PP := by decide
  have ha4 := Nat.lt_trans ha way_P.lt
  have hz4 : ∀ y, y % PP < PP := fun y => Nat.mod_lt y hP0
  have hhs := fun w => ref_has (c := cP) way_P.lt ha4 w
  rw [show decide (a < PP) = true by simpa using ha] at hhs
  have hplus := fun w => ref_plus PP 1 w
  rw [one_cells.1, one_cells.2.1, one_cells.2.2.1, one_cells.2.2.2] at hplus
  have hpow := fun w => ref_pow dc_P (by decide) ha (show rootP < B6 ^ 4 by decide +kernel) w
  have hrl := hz4 (a ^ rootP)
  rw [show evR PP (a ^ rootP % PP) = (0 + PP - a ^ rootP % PP) % PP from if_pos hp]
  obtain ⟨r, hre⟩ : ∃ r, a ^ rootP % PP = r := ⟨_, rfl⟩
  rw [hre] at hpow hrl hr hp ⊢
  have hmul := fun w => ref_mul (c := cP) dc_P (Nat.lt_trans hrl way_P.lt) (Nat.lt_trans hrl way_P.lt) w
  have hr4 : r * r % PP < B6 ^ 4 := Nat.lt_trans (hz4 _) way_P.lt
  have eq1 := fun w => num_eq hr4 ha4 w
  rw [decide_eq_true hr] at eq1
  have hsub := fun w => ref_sub (c := cP) (x := 0) (y := r) way_P.lt hP0 hrl w
  rw [lm_zero, lm_zero, lm_zero, lm_zero] at hsub
  obtain ⟨z, hz⟩ : ∃ z, (0 + PP - r) % PP = z := ⟨_, rfl⟩
  rw [hz] at hsub ⊢
  have hpar := par2 r
  have hpar2 : r % 2 = 1 := by omega
  rw [hpar2] at hpar
  obtain ⟨rr, hrr⟩ : ∃ rr, r * r % PP = rr := ⟨_, rfl⟩
  rw [hrr] at hmul eq1
  unfold dcCells at hhs hpow hmul hsub
  obtain ⟨cy, hcy⟩ : ∃ cy, decide (cry PP 1 4 = 1) = cy := ⟨_, rfl⟩
  rw [hcy] at hplus
  have HHs := Lib.hid hhs; have HPlus := Lib.hid hplus; have HPow := Lib.hid hpow; have HMul := Lib.hid hmul; have HSub := Lib.hid hsub
  clear hP0 ha4 hz4 hhs hplus hpow hrl hre hr hmul hr4 hrr hcy ha hsub hz hp hpar2
  unfold dcCells
  obtain ⟨W0, hW0⟩ : ∃ W0, ((w.alloc (.cells #[.int .u64 (lm PP 0 : Nat), .int .u64 (lm PP 1 : Nat), .int .u64 (lm PP 2 : Nat), .int .u64 (lm PP 3 : Nat), .int .u64 (lm cP 0 : Nat), .int .u64 (lm cP 1 : Nat), .int .u64 (lm cP 2 : Nat), .int .u64 (lm cP 3 : Nat)] 76)).alloc (.cells #[.int .u64 (lm a 0 : Nat), .int .u64 (lm a 1 : Nat), .int .u64 (lm a 2 : Nat), .int .u64 (lm a 3 : Nat)] 24)).alloc (.cells #[.int .u64 0, .int .u64 0, .int .u64 0, .int .u64 0] 24) = W0 := ⟨_, rfl⟩
  obtain ⟨B, hB⟩ : ∃ B, w.heap.size = B := ⟨_, rfl⟩
  have HD := Lib.hid (show UD W0 B PP cP by rw [← hW0, ← hB]; exact has_alloc (has_alloc (has_alloc_new _ _)))
  have HA := Lib.hid (show U4 W0 (B + 1) 24 (lm a) by rw [← hW0, ← hB]; exact has_alloc (has_alloc_at (by simp)))
  have HR := Lib.hid (show U4 W0 (B + 1 + 1) 24 (fun _ => 0) by rw [← hW0, ← hB]; exact has_alloc_at (by simp))
  have HC := Lib.hid (show Chg [] w W0 by rw [← hW0]; exact (((Chg.refl _ _).alloc _).alloc _).alloc _)
  go_enter Try.func64, Try.ntmps64
  go_upto_region 1 with fail
  try rw [hW0]
  try rw [hB]
  obtain ⟨R, hRe⟩ : ∃ R, B + 1 + 1 = R := ⟨_, rfl⟩
  rw [hRe] at HR ⊢
  have HwR := Lib.hid (show w.heap.size ≤ R by omega)
  clear hW0 hB hRe
  obtain ⟨D0, D1, D2, D3⟩ := four4 fun _ => (HD.out).cm; obtain ⟨D4, D5, D6, D7⟩ := four4 fun _ => (HD.out).cc
  obtain ⟨a0, a1, a2, a3⟩ := four4 fun _ => HA.out.cell
  go_wp2_with fail
  refine (HHs.out _).mono ?_
  rintro e w1 ⟨rfl, hC1⟩
  replace HD := Lib.hid (HD.out.chg hC1 nmN); replace HA := Lib.hid (HA.out.chg hC1 nmN); replace HR := Lib.hid (HR.out.chg hC1 nmN); replace HC := Lib.hid (HC.out.trans hC1)
  clear hC1 a0 a1 a2 a3
  clear D0 D1 D2 D3 D4 D5 D6 D7
  obtain ⟨D0, D1, D2, D3⟩ := four4 fun _ => (HD.out).cm; obtain ⟨D4, D5, D6, D7⟩ := four4 fun _ => (HD.out).cc
  go_wp2_with fail
  refine (HPlus.out _).mono ?_
  rintro e w1 ⟨rfl, hC1⟩
  replace HD := Lib.hid (HD.out.chg hC1 nmN); replace HA := Lib.hid (HA.out.chg hC1 nmN); replace HR := Lib.hid (HR.out.chg hC1 nmN); replace HC := Lib.hid (HC.out.trans hC1)
  clear hC1
  clear D0 D1 D2 D3 D4 D5 D6 D7
  obtain ⟨W1, hW1⟩ : ∃ W1, w1.alloc (.cells #[.int .u64 (lm (PP + 1) 0 : Nat), .int .u64 (lm (PP + 1) 1 : Nat), .int .u64 (lm (PP + 1) 2 : Nat), .int .u64 (lm (PP + 1) 3 : Nat)] 24) = W1 := ⟨_, rfl⟩
  have hC1 : Chg [] w1 W1 := by rw [← hW1]; exact (Chg.refl _ _).alloc _
  obtain ⟨E, hE⟩ : ∃ b, w1.heap.size = b := ⟨_, rfl⟩
  have HE := Lib.hid (show U4 W1 E 24 (lm (PP + 1)) by rw [← hE, ← hW1]; exact has_alloc_new _ _)
  replace HD := Lib.hid (HD.out.chg hC1 nmN); replace HA := Lib.hid (HA.out.chg hC1 nmN); replace HR := Lib.hid (HR.out.chg hC1 nmN); replace HC := Lib.hid (HC.out.trans hC1)
  have HW1 := Lib.hid hW1; have HEe := Lib.hid hE
  clear hC1 hW1 hE
  go_upto_region 6 with fail
  try rw [HW1.out]
  try rw [HEe.out]
  clear HW1 HEe
  go_upto_region 7 with fail
  obtain ⟨Q, hQ⟩ : ∃ b, W1.heap.size = b := ⟨_, rfl⟩
  obtain ⟨W2, hW2⟩ : ∃ W2, W1.alloc (.cells #[.int .u64 0, .int .u64 0, .int .u64 0, .int .u64 0] 24) = W2 := ⟨_, rfl⟩
  have hC1 : Chg [] W1 W2 := by rw [← hW2]; exact (Chg.refl _ _).alloc _
  have HQ := Lib.hid (show U4 W2 Q 24 (fun _ => 0) by rw [← hQ, ← hW2]; exact has_alloc_new _ _)
  have HQge := Lib.hid (Nat.le_of_eq hQ)
  try rw [hW2]
  try rw [hQ]
  have HC2 := Lib.hid hC1
  clear hC1 hW2 hQ
  go_wp2_with fail
  go_loopg [11] 4 (fun gk i wr => ∃ n : Nat, gk + n = 4 ∧ i = .int .i64 n ∧ U4 wr Q 24 (fun k => if k < n then lm rootP k else 0) ∧ Chg [] W1 wr)
  case atStart => exact ⟨0, rfl, rfl, HQ.out.same (fun k hk => by simp), HC2.out⟩
  case round =>
    obtain ⟨n, hn, rfl, hU, hCr⟩ := hrel
    clear HQ HC2
    by_cases hlt : n < 4
    · have ce := (HE.out.chg hCr nmN).cell hlt
      have cq := hU.cell hlt
      have zq := hU.fz n
      have hll := hU.lt
      have hx64 := lm_lt (PP + 1) n
      obtain ⟨x, hx⟩ : ∃ x, lm (PP + 1) n = x := ⟨_, rfl⟩
      rw [hx] at ce hx64
      have HCr := Lib.hid hCr; have HN := Lib.hid hn; have HU := Lib.hid hU
      by_cases h3 : n < 3
      · have ce1 := (HE.out.chg hCr nmN).cell (k := n + 1) (by omega)
        have hor := quarter h3
        rw [hx] at hor
        obtain ⟨y, hy⟩ : ∃ y, lm (PP + 1) (n + 1) = y := ⟨_, rfl⟩
        have hy64 := lm_lt (PP + 1) (n + 1)
        rw [hy] at ce1 hor hy64
        have hn1 : n + 1 < 4 := by omega
        obtain ⟨v, hv⟩ : ∃ v, x / 4 = v := ⟨_, rfl⟩
        have ev : ((x : Nat) : Int) / 4 = (v : Nat) := by rw [← hv]; rfl
        have hv64 : v < 18446744073709551616 := by omega
        rw [ev] at hor
        have hU1 : U4 (wr.setCell ⟨Q, n, none⟩ (.int .u64 (v : Nat))) Q 24 (fun i => if i = n then v else if i < n then lm rootP i else 0) := hU.set hlt v
        have hC1 : Chg [] W1 (wr.setCell ⟨Q, n, none⟩ (.int .u64 (v : Nat))) := hCr.setCell (Or.inr HQge.out) _
        have HU1 := Lib.hid hU1; have HC1 := Lib.hid hC1; have HEv := Lib.hid ev; have HOr := Lib.hid hor; have HY := Lib.hid hy
        clear hU hCr hn hU1 hC1 hx hy hv ev hor
        go_upto_region 12 with fail
        try rw [HEv.out]
        generalize hW5 : wr.setCell ⟨Q, n, none⟩ (.int .u64 (v : Nat)) = W5 at *
        clear ce ce1 cq zq hll hW5
        have ce1 := (HE.out.chg HC1.out nmN).cell hn1
        rw [HY.out] at ce1
        have cq := HU1.out.cell hlt
        rw [if_pos rfl] at cq
        have zq := HU1.out.fz n
        have hll := HU1.out.lt
        go_region
        try rw [HOr.out]
        go_wp2_with fail
        go_roundg (4 - (n + 1))
        case measure => have := HN.out; omega
        case rel =>
          refine ⟨n + 1, by have := HN.out; omega, by go_num, (HU1.out.set hlt (lm rootP n)).same fun i hi => ?_, (HC1.out.setCell (Or.inr HQge.out) _).drew⟩
          by_cases hin : i = n
          · simp [hin]
          · by_cases hil : i < n
            · simp [hin, hil, Nat.lt_succ_of_lt hil]
            · have : ¬ i < n + 1 := by omega
              simp [hin, hil, this]
      · have hn3 : n = 3 := by omega
        subst hn3
        have hq3 := quarter3
        rw [hx] at hq3
        obtain ⟨v, hv⟩ : ∃ v, lm rootP 3 = v := ⟨_, rfl⟩
        rw [hv] at hq3
        have hU1 : U4 (wr.setCell ⟨Q, 3, none⟩ (.int .u64 (v : Nat))) Q 24 (fun k => if k < 3 + 1 then lm rootP k else 0) := (hU.set hlt v).same (fun i hi => by
          by_cases hin : i = 3
          · simp [hin, hv]
          · have h1 : i < 3 := by omega
            have h2 : i < 3 + 1 := by omega
            simp [hin, h1, h2])
        have HU1 := Lib.hid hU1; have HQ3 := Lib.hid hq3
        have ce3 : wr.cell? ⟨E, 3, none⟩ = some (.int .u64 (x : Nat)) := ce
        clear hU hCr hn hU1 hx hv hq3 ce
        go_wp2_with fail
        try rw [HQ3.out]
        go_roundg (4 - (3 + 1))
        case measure => have := HN.out; omega
        case rel => exact ⟨3 + 1, by have := HN.out; omega, by first | rfl | go_num, HU1.out, HCr.out.setCell (Or.inr HQge.out) _⟩
    · obtain rfl : n = 4 := by omega
      have hQ4 : U4 wr Q 24 (lm rootP) := hU.same fun k hk => by rw [if_pos hk]
      have HQ := Lib.hid hQ4
      have hC1 := hCr
      replace HD := Lib.hid (HD.out.chg hC1 nmN); replace HA := Lib.hid (HA.out.chg hC1 nmN); replace HR := Lib.hid (HR.out.chg hC1 nmN); replace HC := Lib.hid (HC.out.trans hC1)
      clear hU hQ4 hC1 hCr hn
      obtain ⟨D0, D1, D2, D3⟩ := four4 fun _ => (HD.out).cm; obtain ⟨D4, D5, D6, D7⟩ := four4 fun _ => (HD.out).cc
      obtain ⟨a0, a1, a2, a3⟩ := four4 fun _ => HA.out.cell
      obtain ⟨q0, q1, q2, q3⟩ := four4 fun _ => HQ.out.cell
      go_wp2_with fail
      refine (HPow.out _).mono ?_
      rintro e w1 ⟨rfl, hC1⟩
      replace HD := Lib.hid (HD.out.chg hC1 nmN); replace HA := Lib.hid (HA.out.chg hC1 nmN); replace HR := Lib.hid (HR.out.chg hC1 nmN); replace HC := Lib.hid (HC.out.trans hC1)
      clear hC1 a0 a1 a2 a3 q0 q1 q2 q3
      clear D0 D1 D2 D3 D4 D5 D6 D7
      obtain ⟨W3, hW3⟩ : ∃ W3, w1.alloc (.cells #[.int .u64 (lm r 0 : Nat), .int .u64 (lm r 1 : Nat), .int .u64 (lm r 2 : Nat), .int .u64 (lm r 3 : Nat)] 24) = W3 := ⟨_, rfl⟩
      have hC1 : Chg [] w1 W3 := by rw [← hW3]; exact (Chg.refl _ _).alloc _
      obtain ⟨S, hS⟩ : ∃ b, w1.heap.size = b := ⟨_, rfl⟩
      have HS := Lib.hid (show U4 W3 S 24 (lm r) by rw [← hS, ← hW3]; exact has_alloc_new _ _)
      have hRS : R < S := by rw [← hS]; exact HR.out.lt
      have HSw := Lib.hid (show w.heap.size ≤ S by have := HwR.out; omega)
      replace HD := Lib.hid (HD.out.chg hC1 nmN); replace HA := Lib.hid (HA.out.chg hC1 nmN); replace HR := Lib.hid (HR.out.chg hC1 nmN); replace HC := Lib.hid (HC.out.trans hC1)
      have HW3 := Lib.hid hW3; have HSe := Lib.hid hS
      clear hC1 hW3 hS
      go_upto_region 14 with fail
      try rw [HW3.out]
      try rw [HSe.out]
      clear HW3 HSe
      obtain ⟨D0, D1, D2, D3⟩ := four4 fun _ => (HD.out).cm; obtain ⟨D4, D5, D6, D7⟩ := four4 fun _ => (HD.out).cc
      obtain ⟨a0, a1, a2, a3⟩ := four4 fun _ => HA.out.cell
      obtain ⟨r0, r1, r2, r3⟩ := four4 fun _ => HS.out.cell
      refine abs_region (B := Chg [] W3) (S := Chg [] W3) (by kernel_rfl) ((Chg.refl _ _).drew) ?_
      have hG := good_chg [] W3
      refine Abs.take_np (i := 0) (d := some 55) (v := ?_) rfl rfl (by kernel_rfl) (by kernel_rfl) (by kernel_rfl) hG ⟨by rfl, fun w9 hw9 => Or.inl ?_⟩ ?_
      rotate_left
      · replace D0 := hw9.cell D0 nmN; replace D1 := hw9.cell D1 nmN; replace D2 := hw9.cell D2 nmN; replace D3 := hw9.cell D3 nmN; replace D4 := hw9.cell D4 nmN; replace D5 := hw9.cell D5 nmN; replace D6 := hw9.cell D6 nmN; replace D7 := hw9.cell D7 nmN
        go_simp
        try with_reducible rfl
      simp only [Act.put, stA, stB, stC]
      refine Abs.take_np (i := 1) (d := some 56) (v := ?_) rfl rfl (by kernel_rfl) (by kernel_rfl) (by kernel_rfl) hG ⟨by rfl, fun w9 hw9 => Or.inl ?_⟩ ?_
      rotate_left
      · replace r0 := hw9.cell r0 nmN; replace r1 := hw9.cell r1 nmN; replace r2 := hw9.cell r2 nmN; replace r3 := hw9.cell r3 nmN
        go_simp
        try with_reducible rfl
      simp only [Act.put, stA, stB, stC]
      refine Abs.take_np (i := 2) (d := some 57) (v := ?_) rfl rfl (by kernel_rfl) (by kernel_rfl) (by kernel_rfl) hG ⟨by rfl, fun w9 hw9 => Or.inl ?_⟩ ?_
      rotate_left
      · replace r0 := hw9.cell r0 nmN; replace r1 := hw9.cell r1 nmN; replace r2 := hw9.cell r2 nmN; replace r3 := hw9.cell r3 nmN
        go_simp
        try with_reducible rfl
      simp only [Act.put, stA, stB, stC]
      refine Abs.take_np (i := 3) (d := some 58) (v := _) rfl rfl (by kernel_rfl) (by kernel_rfl) (by kernel_rfl) hG ⟨by rfl, fun w9 hw9 => Or.inr ⟨_, _, ?_, HMul.out w9⟩⟩ ?_
      · go_simp
        try with_reducible rfl
      simp only [Act.put, stA, stB, stC]
      refine Abs.take_np (i := 4) (d := some 59) (v := ?_) rfl rfl (by kernel_rfl) (by kernel_rfl) (by kernel_rfl) hG ⟨by rfl, fun w9 hw9 => Or.inl ?_⟩ ?_
      rotate_left
      · replace a0 := hw9.cell a0 nmN; replace a1 := hw9.cell a1 nmN; replace a2 := hw9.cell a2 nmN; replace a3 := hw9.cell a3 nmN
        go_simp
        try with_reducible rfl
      simp only [Act.put, stA, stB, stC]
      refine Abs.take_np (i := 5) (d := some 60) (v := ?_) rfl rfl (by kernel_rfl) (by kernel_rfl) (by kernel_rfl) hG ⟨by rfl, fun w9 hw9 => Or.inl ?_⟩ ?_
      rotate_left
      · go_simp
        try with_reducible rfl
      simp only [Act.put, stA, stB, stC]
      refine Abs.done (by kernel_rfl) (fun wx hx => NoPanic.normal ?_) _
      replace HS := Lib.hid (HS.out.chg hx nmN)
      replace HD := Lib.hid (HD.out.chg hx nmN); replace HA := Lib.hid (HA.out.chg hx nmN); replace HR := Lib.hid (HR.out.chg hx nmN); replace HC := Lib.hid (HC.out.trans hx)
      clear hx a0 a1 a2 a3 r0 r1 r2 r3
      clear D0 D1 D2 D3 D4 D5 D6 D7
      obtain ⟨r0, r1, r2, r3⟩ := four4 fun _ => HS.out.cell
      go_upto_region 17 with fail
      clear hpar
      obtain ⟨D0, D1, D2, D3⟩ := four4 fun _ => (HD.out).cm; obtain ⟨D4, D5, D6, D7⟩ := four4 fun _ => (HD.out).cc
      go_wp2_with fail
      refine (HSub.out _).mono ?_
      rintro e w6 ⟨rfl, hC1⟩
      replace HS := Lib.hid (HS.out.chg hC1 nmN)
      replace HD := Lib.hid (HD.out.chg hC1 nmN); replace HA := Lib.hid (HA.out.chg hC1 nmN); replace HR := Lib.hid (HR.out.chg hC1 nmN); replace HC := Lib.hid (HC.out.trans hC1)
      clear hC1 r0 r1 r2 r3
      clear D0 D1 D2 D3 D4 D5 D6 D7
      have q0 := HS.out.cell (k := 0) (by omega); have qz0 := HS.out.fz 0; have q1 := HS.out.cell (k := 1) (by omega); have qz1 := HS.out.fz 1; have q2 := HS.out.cell (k := 2) (by omega); have qz2 := HS.out.fz 2; have q3 := HS.out.cell (k := 3) (by omega); have qz3 := HS.out.fz 3
      have hll := HS.out.lt
      have hS2 := HS.out.put (lm z)
      have hC2 := HC.out.put4 (b := S) (Or.inr HSw.out) (lm z)
      have hR2 := HR.out.chg ((Chg.refl [S] w6).put4 (b := S) (Or.inl (by simp)) (lm z)) (by simp; omega)
      have HS2 := Lib.hid hS2; have HC2 := Lib.hid hC2; have HR2 := Lib.hid hR2
      clear hS2 hC2 hR2
      go_upto_region 18 with fail
      refine (id ?_ : Code.wp _ _ _ _ (put4 w6 S (lm z)))
      clear q0 q1 q2 q3 qz0 qz1 qz2 qz3 hll HS HR HC
      have HS := HS2; have HR := HR2; have HC := HC2
      clear HS2 HR2 HC2 HD HA
      generalize put4 w6 S (lm z) = w7 at *
      obtain ⟨r0, r1, r2, r3⟩ := four4 fun _ => HS.out.cell
      have hR9 := HR.out
      have hC9 := HC.out
      have q0 := hR9.cell (k := 0) (by omega); have qz0 := hR9.fz 0; have q1 := hR9.cell (k := 1) (by omega); have qz1 := hR9.fz 1; have q2 := hR9.cell (k := 2) (by omega); have qz2 := hR9.fz 2; have q3 := hR9.cell (k := 3) (by omega); have qz3 := hR9.fz 3
      have hll := hR9.lt
      have HF9 := Lib.hid (hR9.put (lm z)); have HCF := Lib.hid (hC9.put4 (b := R) (Or.inr HwR.out) (lm z))
      clear hR9 hC9
      go_wp2_with fail
      have hF := HF9.out; have hCF := HCF.out
      refine (id ?_ : bodyPost _ _ _ _ _ (put4 w7 R (lm z)))
      clear HF9 HCF
      generalize put4 w7 R (lm z) = W5 at *
      obtain ⟨g0, g1, g2, g3⟩ := four4 fun _ => hF.cell
      exact bodyPost_ret (v := .tuple #[.agg #[.int .u64 (lm z 0 : Nat), .int .u64 (lm z 1 : Nat), .int .u64 (lm z 2 : Nat), .int .u64 (lm z 3 : Nat)], .int .i64 0]) (by simp [results, Try.results64, go_sem, g0, g1, g2, g3]) rfl ⟨rfl, hCF⟩

end Go.Proofs.Ytplldbmjdnikeaa
