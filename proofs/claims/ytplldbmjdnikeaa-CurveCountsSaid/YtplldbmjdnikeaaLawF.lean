/- CurveCounts: the walk and the law. Printed by lawf.py. -/
import Derived.Test.YtplldbmjdnikeaaLawD
namespace Go.Proofs.Ytplldbmjdnikeaa
set_option linter.unusedVariables false
set_option linter.unusedSimpArgs false
open Go.RowKit Go.WideShapes Go.ChangeShapes

set_option maxRecDepth 100000 in
set_option maxHeartbeats 8000000 in
theorem counts_off {px py : Nat} {pi : Bool} {k : Int} {is : Bool} (C1 : Hid (∀ w, Calls Try.prog 14 #[.agg #[.int .u64 (lm px 0 : Nat), .int .u64 (lm px 1 : Nat), .int .u64 (lm px 2 : Nat), .int .u64 (lm px 3 : Nat), .int .u64 (lm py 0 : Nat), .int .u64 (lm py 1 : Nat), .int .u64 (lm py 2 : Nat), .int .u64 (lm py 3 : Nat), .bool pi]] w fun e w' => e = .returned (.bool is) ∧ Chg [] w w')) (h : is = false ∨ (is = true ∧ k < 0) ∨ (is = true ∧ 0 ≤ k ∧ 24 < k)) (w : World) :
    Calls Try.prog 9 #[.agg #[.int .u64 (lm px 0 : Nat), .int .u64 (lm px 1 : Nat), .int .u64 (lm px 2 : Nat), .int .u64 (lm px 3 : Nat), .int .u64 (lm py 0 : Nat), .int .u64 (lm py 1 : Nat), .int .u64 (lm py 2 : Nat), .int .u64 (lm py 3 : Nat), .bool pi], .int .i64 k] w fun x w' => x = .returned (.bool true) ∧ Chg [] w w' := by
  have C8 := Lib.hid fun w => law_g w
  rcases h with rfl | ⟨rfl, h1⟩ | ⟨rfl, h1, h2⟩
  all_goals
    obtain ⟨W0, hW0⟩ : ∃ W0, (w.alloc (.cells #[.int .u64 (lm px 0 : Nat), .int .u64 (lm px 1 : Nat), .int .u64 (lm px 2 : Nat), .int .u64 (lm px 3 : Nat), .int .u64 (lm py 0 : Nat), .int .u64 (lm py 1 : Nat), .int .u64 (lm py 2 : Nat), .int .u64 (lm py 3 : Nat), .bool pi] 26)) = W0 := ⟨_, rfl⟩
    obtain ⟨B, hB⟩ : ∃ B, w.heap.size = B := ⟨_, rfl⟩
    have Hp := Lib.hid (show U9 W0 (B) px py pi by rw [← hW0, ← hB]; exact has_alloc_new _ _)
    have HC := Lib.hid (show Chg [] w W0 by rw [← hW0]; exact (Chg.refl _ _).alloc _)
    go_enter Try.func9, Try.ntmps9
    go_upto_region 1 with fail
    try rw [hW0]
    try rw [hB]
    clear hW0 hB
    obtain ⟨p0, p1, p2, p3, p4, p5, p6, p7, p8⟩ := Hp.out.all
    go_wp2_with fail
    refine (C1.out _).mono ?_
    rintro e w1 ⟨rfl, hC1⟩
    clear p0 p1 p2 p3 p4 p5 p6 p7 p8
    replace Hp := Lib.hid (Hp.out.chg hC1 nmN)
    replace HC := Lib.hid (HC.out.trans hC1)
    clear hC1
    go_wp2_with fail
    refine (C8.out _).mono ?_
    rintro e w1 ⟨rfl, hC1⟩
    replace Hp := Lib.hid (Hp.out.chg hC1 nmN)
    replace HC := Lib.hid (HC.out.trans hC1)
    clear hC1
    go_wp2_with fail
    go_ret
    exact ⟨rfl, HC.out⟩
set_option maxRecDepth 100000 in
set_option maxHeartbeats 8000000 in
theorem lm_small {k : Nat} (h : k < B6) : lm k 0 = k ∧ lm k 1 = 0 ∧ lm k 2 = 0 ∧ lm k 3 = 0 := by
  have h1 : ∀ i, 0 < i → lm k i = 0 := fun i hi => by
    unfold lm
    have : B6 ≤ B6 ^ i := Nat.le_self_pow (by omega) B6
    rw [Nat.div_eq_of_lt (by omega), Nat.zero_mod]
  exact ⟨by unfold lm; rw [Nat.pow_zero, Nat.div_one, Nat.mod_eq_of_lt h], h1 1 (by omega), h1 2 (by omega), h1 3 (by omega)⟩

set_option maxRecDepth 100000 in
set_option maxHeartbeats 8000000 in
theorem counts_on {P : Pc} (hP : P.on 7) {K : Nat} (hk : K ≤ 24) (w : World) :
    Calls Try.prog 9 #[.agg (pv (ofP P)), .int .i64 (K : Nat)] w fun x w' => x = .returned (.bool true) ∧ Chg [] w w' := by
  have C8 := Lib.hid fun w => law_g w
  have c1 := fun w => is_ok hP w
  have hadd := fun m w => curve_add (mulP_on hP m) hP w
  have hmul := fun w => curve_mul (k := K) (p := ofP P) (P := P) (e := 0) (.fine (Nat.lt_of_le_of_lt hk (by decide)) hP rfl) w
  have hs := lm_small (k := K) (Nat.lt_of_le_of_lt hk (by decide))
  rw [hs.1, hs.2.1, hs.2.2.1, hs.2.2.2, show mulV 0 K P = ofP (mulP K P) from rfl] at hmul
  have lr := ofP_lt (mulP K P)
  obtain ⟨px, hpx⟩ : ∃ t, (ofP P).x = t := ⟨_, rfl⟩
  obtain ⟨py, hpy⟩ : ∃ t, (ofP P).y = t := ⟨_, rfl⟩
  obtain ⟨pi, hpi⟩ : ∃ t, (ofP P).inf = t := ⟨_, rfl⟩
  have ep : pv (ofP P) = #[.int .u64 (lm px 0 : Nat), .int .u64 (lm px 1 : Nat), .int .u64 (lm px 2 : Nat), .int .u64 (lm px 3 : Nat), .int .u64 (lm py 0 : Nat), .int .u64 (lm py 1 : Nat), .int .u64 (lm py 2 : Nat), .int .u64 (lm py 3 : Nat), .bool pi] := by unfold pv; rw [hpx, hpy, hpi]
  obtain ⟨rx, hrx⟩ : ∃ t, (ofP (mulP K P)).x = t := ⟨_, rfl⟩
  obtain ⟨ry, hry⟩ : ∃ t, (ofP (mulP K P)).y = t := ⟨_, rfl⟩
  obtain ⟨ri, hri⟩ : ∃ t, (ofP (mulP K P)).inf = t := ⟨_, rfl⟩
  have er : pv (ofP (mulP K P)) = #[.int .u64 (lm rx 0 : Nat), .int .u64 (lm rx 1 : Nat), .int .u64 (lm rx 2 : Nat), .int .u64 (lm rx 3 : Nat), .int .u64 (lm ry 0 : Nat), .int .u64 (lm ry 1 : Nat), .int .u64 (lm ry 2 : Nat), .int .u64 (lm ry 3 : Nat), .bool ri] := by unfold pv; rw [hrx, hry, hri]
  rw [ep] at c1 hadd hmul ⊢
  rw [er] at hmul
  rw [hrx, hry] at lr
  have er1 := fun w => num_eq9 lr.1 lr.1 w
  have er2 := fun w => num_eq9 lr.2 lr.2 w
  simp only [decide_true] at er1 er2
  have C1 := Lib.hid c1; have HAdd := Lib.hid hadd; have HMul := Lib.hid hmul
  have HEr := Lib.hid er
  clear c1 hadd hmul hs lr hpx hpy hpi ep hrx hry hri er hP
  obtain ⟨W0, hW0⟩ : ∃ W0, (w.alloc (.cells #[.int .u64 (lm px 0 : Nat), .int .u64 (lm px 1 : Nat), .int .u64 (lm px 2 : Nat), .int .u64 (lm px 3 : Nat), .int .u64 (lm py 0 : Nat), .int .u64 (lm py 1 : Nat), .int .u64 (lm py 2 : Nat), .int .u64 (lm py 3 : Nat), .bool pi] 26)) = W0 := ⟨_, rfl⟩
  obtain ⟨B, hB⟩ : ∃ B, w.heap.size = B := ⟨_, rfl⟩
  have Hp := Lib.hid (show U9 W0 (B) px py pi by rw [← hW0, ← hB]; exact has_alloc_new _ _)
  have HC := Lib.hid (show Chg [] w W0 by rw [← hW0]; exact (Chg.refl _ _).alloc _)
  go_enter Try.func9, Try.ntmps9
  go_upto_region 1 with fail
  try rw [hW0]
  try rw [hB]
  clear hW0 hB
  obtain ⟨p0, p1, p2, p3, p4, p5, p6, p7, p8⟩ := Hp.out.all
  go_wp2_with fail
  refine (C1.out _).mono ?_
  rintro e w1 ⟨rfl, hC1⟩
  clear p0 p1 p2 p3 p4 p5 p6 p7 p8
  replace Hp := Lib.hid (Hp.out.chg hC1 nmN)
  replace HC := Lib.hid (HC.out.trans hC1)
  clear hC1
  go_upto_region 3 with fail
  obtain ⟨S, hS⟩ : ∃ S, w1.heap.size = S := ⟨_, rfl⟩
  obtain ⟨W1, hW1⟩ : ∃ W1, w1.alloc (.cells #[.int .u64 0, .int .u64 0, .int .u64 0, .int .u64 0, .int .u64 0, .int .u64 0, .int .u64 0, .int .u64 0, .bool false] 26) = W1 := ⟨_, rfl⟩
  have HSw := Lib.hid (Nat.le_of_eq hS)
  have hZ : U9 W1 S 0 0 false := U9.zero (by rw [← hW1, ← hS]; exact has_alloc_new _ _)
  obtain ⟨n0, n1, n2, n3, n4, n5, n6, n7, n8⟩ := hZ.all
  simp only [lmz] at n0 n1 n2 n3 n4 n5 n6 n7
  obtain ⟨nz0, nz1, nz2, nz3, nz4, nz5, nz6, nz7, nz8⟩ := hZ.fzs
  have hll := hZ.lt
  have HZ := Lib.hid (hZ.put 0 0 true)
  have HC1 := Lib.hid (((show Chg [] w1 W1 by rw [← hW1]; exact (Chg.refl _ _).alloc _)).put9 (b := S) (Or.inr HSw.out) 0 0 true)
  clear hZ
  go_upto_region 4 with fail
  try rw [hW1]
  clear n0 n1 n2 n3 n4 n5 n6 n7 n8 nz0 nz1 nz2 nz3 nz4 nz5 nz6 nz7 nz8 hll hW1 hS
  refine (id ?_ : Code.wp _ _ _ _ (put9 W1 S 0 0 true))
  generalize put9 W1 S 0 0 true = W2 at *
  have HI := Lib.hid (show pv (ofP (mulP 0 P)) = #[.int .u64 (lm 0 0 : Nat), .int .u64 (lm 0 1 : Nat), .int .u64 (lm 0 2 : Nat), .int .u64 (lm 0 3 : Nat), .int .u64 (lm 0 0 : Nat), .int .u64 (lm 0 1 : Nat), .int .u64 (lm 0 2 : Nat), .int .u64 (lm 0 3 : Nat), .bool true] from rfl)
  go_wp2_with fail
  go_loopg [6] K (fun gk i wr => ∃ m : Nat, gk + m = K ∧ i = .int .i64 m ∧ wr.heap[S]? = some (.cells (pv (ofP (mulP m P))) 26 (0, 0)) ∧ Chg [] w1 wr)
  case atStart => exact ⟨0, by omega, rfl, HZ.out, HC1.out⟩
  case round =>
    obtain ⟨m, hm, rfl, hU, hCr⟩ := hrel
    clear HI HZ HC1
    have Hpr := Lib.hid (Hp.out.chg hCr nmN)
    obtain ⟨p0, p1, p2, p3, p4, p5, p6, p7, p8⟩ := Hpr.out.all
    by_cases hlt : m < K
    · have hadd := HAdd.out m
      have e1 : addP (mulP m P) P = mulP (m + 1) P := rfl
      rw [e1] at hadd
      obtain ⟨sx, hsx⟩ : ∃ t, (ofP (mulP m P)).x = t := ⟨_, rfl⟩
      obtain ⟨sy, hsy⟩ : ∃ t, (ofP (mulP m P)).y = t := ⟨_, rfl⟩
      obtain ⟨si, hsi⟩ : ∃ t, (ofP (mulP m P)).inf = t := ⟨_, rfl⟩
      have es : pv (ofP (mulP m P)) = #[.int .u64 (lm sx 0 : Nat), .int .u64 (lm sx 1 : Nat), .int .u64 (lm sx 2 : Nat), .int .u64 (lm sx 3 : Nat), .int .u64 (lm sy 0 : Nat), .int .u64 (lm sy 1 : Nat), .int .u64 (lm sy 2 : Nat), .int .u64 (lm sy 3 : Nat), .bool si] := by unfold pv; rw [hsx, hsy, hsi]
      obtain ⟨tx, htx⟩ : ∃ t, (ofP (mulP (m + 1) P)).x = t := ⟨_, rfl⟩
      obtain ⟨ty, hty⟩ : ∃ t, (ofP (mulP (m + 1) P)).y = t := ⟨_, rfl⟩
      obtain ⟨ti, hti⟩ : ∃ t, (ofP (mulP (m + 1) P)).inf = t := ⟨_, rfl⟩
      have et : pv (ofP (mulP (m + 1) P)) = #[.int .u64 (lm tx 0 : Nat), .int .u64 (lm tx 1 : Nat), .int .u64 (lm tx 2 : Nat), .int .u64 (lm tx 3 : Nat), .int .u64 (lm ty 0 : Nat), .int .u64 (lm ty 1 : Nat), .int .u64 (lm ty 2 : Nat), .int .u64 (lm ty 3 : Nat), .bool ti] := by unfold pv; rw [htx, hty, hti]
      rw [es] at hadd hU
      rw [et] at hadd
      have HA := Lib.hid hadd; have Het := Lib.hid et; have HM := Lib.hid hm; have HCr := Lib.hid hCr
      have Hs := Lib.hid (show U9 wr S sx sy si from hU)
      clear hadd e1 hsx hsy hsi es htx hty hti et hm hCr hU
      obtain ⟨q0, q1, q2, q3, q4, q5, q6, q7, q8⟩ := Hs.out.all
      go_wp2_with fail
      refine (HA.out _).mono ?_
      rintro e w2 ⟨rfl, hC2⟩
      replace HCr := Lib.hid (HCr.out.trans hC2)
      replace Hs := Lib.hid (Hs.out.chg hC2 nmN)
      clear p0 p1 p2 p3 p4 p5 p6 p7 p8 q0 q1 q2 q3 q4 q5 q6 q7 q8 hC2
      obtain ⟨W3, hW3⟩ : ∃ W3, w2.alloc (.cells #[.int .u64 (lm tx 0 : Nat), .int .u64 (lm tx 1 : Nat), .int .u64 (lm tx 2 : Nat), .int .u64 (lm tx 3 : Nat), .int .u64 (lm ty 0 : Nat), .int .u64 (lm ty 1 : Nat), .int .u64 (lm ty 2 : Nat), .int .u64 (lm ty 3 : Nat), .bool ti] 26) = W3 := ⟨_, rfl⟩
      have hA : Chg [] w2 W3 := by rw [← hW3]; exact (Chg.refl _ _).alloc _
      obtain ⟨T, hT⟩ : ∃ T, w2.heap.size = T := ⟨_, rfl⟩
      have hN : U9 W3 T tx ty ti := by rw [← hT, ← hW3]; exact has_alloc_new _ _
      replace HCr := Lib.hid (HCr.out.trans hA)
      replace Hs := Lib.hid (Hs.out.chg hA nmN)
      have Ht := Lib.hid hN
      have HW3 := Lib.hid hW3; have HT := Lib.hid hT
      clear hA hN hW3 hT
      go_upto_region 10 with fail
      try rw [HW3.out]
      try rw [HT.out]
      clear HW3 HT
      obtain ⟨t0, t1, t2, t3, t4, t5, t6, t7, t8⟩ := Ht.out.all
      obtain ⟨q0, q1, q2, q3, q4, q5, q6, q7, q8⟩ := Hs.out.all
      obtain ⟨nz0, nz1, nz2, nz3, nz4, nz5, nz6, nz7, nz8⟩ := Hs.out.fzs
      have hll := Hs.out.lt
      have HF := Lib.hid (Hs.out.put tx ty ti); have HCF := Lib.hid (HCr.out.put9 (b := S) (Or.inr HSw.out) tx ty ti)
      go_wp2_with fail
      go_roundg (K - (m + 1))
      case measure => have := HM.out; omega
      case rel => exact ⟨m + 1, by have := HM.out; omega, by go_num, by rw [Het.out]; exact HF.out, HCF.out⟩
    · obtain rfl : m = K := by omega
      rw [HEr.out] at hU
      have Hs := Lib.hid (show U9 wr S rx ry ri from hU)
      have HCr := Lib.hid hCr
      clear hU hCr hm
      go_wp2_with fail
      refine (HMul.out _).mono ?_
      rintro e w2 ⟨rfl, hC2⟩
      clear p0 p1 p2 p3 p4 p5 p6 p7 p8
      replace HCr := Lib.hid (HCr.out.trans hC2)
      replace Hs := Lib.hid (Hs.out.chg hC2 nmN)
      clear hC2
      obtain ⟨W3, hW3⟩ : ∃ W3, w2.alloc (.cells #[.int .u64 (lm rx 0 : Nat), .int .u64 (lm rx 1 : Nat), .int .u64 (lm rx 2 : Nat), .int .u64 (lm rx 3 : Nat), .int .u64 (lm ry 0 : Nat), .int .u64 (lm ry 1 : Nat), .int .u64 (lm ry 2 : Nat), .int .u64 (lm ry 3 : Nat), .bool ri] 26) = W3 := ⟨_, rfl⟩
      have hA : Chg [] w2 W3 := by rw [← hW3]; exact (Chg.refl _ _).alloc _
      obtain ⟨T, hT⟩ : ∃ T, w2.heap.size = T := ⟨_, rfl⟩
      have hN : U9 W3 T rx ry ri := by rw [← hT, ← hW3]; exact has_alloc_new _ _
      replace HCr := Lib.hid (HCr.out.trans hA)
      replace Hs := Lib.hid (Hs.out.chg hA nmN)
      have Ht := Lib.hid hN
      have HW3 := Lib.hid hW3; have HT := Lib.hid hT
      clear hA hN hW3 hT
      go_upto_region 12 with fail
      try rw [HW3.out]
      try rw [HT.out]
      clear HW3 HT
      obtain ⟨t0, t1, t2, t3, t4, t5, t6, t7, t8⟩ := Ht.out.all
      obtain ⟨q0, q1, q2, q3, q4, q5, q6, q7, q8⟩ := Hs.out.all
      go_wp2_with fail
      refine (C8.out _).mono ?_
      rintro e w4 ⟨rfl, hC4⟩
      clear t0 t1 t2 t3 t4 t5 t6 t7 t8 q0 q1 q2 q3 q4 q5 q6 q7 q8
      replace HCr := Lib.hid (HCr.out.trans hC4)
      clear hC4
      go_wp2_with fail
      go_ret
      exact ⟨rfl, HC.out.trans HCr.out⟩

section
variable {H : Type} (enc : TypeId × Value → H) (W : World)
set_option linter.constructorNameAsVariable false in
set_option maxRecDepth 100000 in
theorem curveCounts_law {v0 v1 : Value} {d0 d1 : DataW H} {p0 p1 : List MemPlace} {base : Nat}
    (h0 : DataW.Trod enc Try.prog W 0 (fun _ => true) true 26 v0 d0 p0) (k0 : Value.okWide Try.prog W .any base 26 v0)
    (h1 : DataW.Trod enc Try.prog W 0 (fun _ => true) true 3 v1 d1 p1) (k1 : Value.okWide Try.prog W .any base 3 v1)
    (_hsz : (DataW.weightsEach Try.prog [26, 3] [d0, d1]).all (· ≤ reachBytes) = true) :
    Calls Try.prog 9 #[v0, v1] W fun e w' => e = .returned (.bool true) ∧ Below W.heap.size W w' := by
  obtain ⟨p, hpx, hpy, rfl⟩ := open_point k0 h0
  obtain ⟨k, rfl, _⟩ := okWide_int Try.underlying3 k1
  refine PtCase.elim' (pt_cases p hpx hpy) (fun P hP hPe => ?_) (fun hb => ?_)
  · subst hPe
    by_cases hk : 0 ≤ k ∧ k ≤ 24
    · obtain ⟨K, rfl⟩ : ∃ K : Nat, k = (K : Nat) := ⟨k.toNat, by omega⟩
      exact (counts_on hP (by omega) W).mono fun e w' h => ⟨h.1, h.2.below⟩
    · exact (counts_off (is := true) (Lib.hid fun w => is_ok hP w) (by simp only [true_and, reduceCtorEq, false_or]; omega) W).mono fun e w' h => ⟨h.1, h.2.below⟩
  · exact (counts_off (is := false) (Lib.hid fun w => is_bad hb w) (Or.inl rfl) W).mono fun e w' h => ⟨h.1, h.2.below⟩
end

end Go.Proofs.Ytplldbmjdnikeaa
