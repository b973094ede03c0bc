/- The walk of wardmoteref03.Sum. Printed by sumd.py. -/
import Derived.Test.YtplldbmjdnikeaaMulD
namespace Go.Proofs.Ytplldbmjdnikeaa
set_option linter.unusedVariables false
set_option linter.unusedSimpArgs false
open Go.RowKit

set_option maxRecDepth 100000 in
set_option maxHeartbeats 8000000 in
theorem ref_sum_len {Ak Ap : Option Addr} {n m ck cp : Nat} (h : n ≠ m ∨ 64 < n) (w : World) :
    Calls Try.prog 19 #[.slice Ak n ck, .slice Ap m cp] w fun e w' => e = .returned (.tuple #[.agg (pv ⟨0, 0, false⟩), .int .i64 1]) ∧ Chg [] w w' := by
  obtain ⟨Zr, hZr⟩ : ∃ Z, Ending.returned (.tuple #[.agg (pv ⟨0, 0, false⟩), .int .i64 1]) = Z := ⟨_, rfl⟩
  have HZ : Hid (Ending.returned (.tuple #[.agg #[.int .u64 0, .int .u64 0, .int .u64 0, .int .u64 0, .int .u64 0, .int .u64 0, .int .u64 0, .int .u64 0, .bool false], .int .i64 1]) = Zr) := Lib.hid (by rw [← hZr]; unfold pv; simp only [lmz])
  rw [hZr]
  clear hZr
  obtain ⟨W0, hW0⟩ : ∃ W0, w.alloc (.cells #[.int .u64 0, .int .u64 0, .int .u64 0, .int .u64 0, .int .u64 0, .int .u64 0, .int .u64 0, .int .u64 0, .bool false] 26) = W0 := ⟨_, rfl⟩
  have HR := Lib.hid (show U9 W0 w.heap.size 0 0 false from U9.zero (by rw [← hW0]; exact has_alloc_new _ _))
  have HC := Lib.hid (show Chg [] w W0 by rw [← hW0]; exact (Chg.refl _ _).alloc _)
  have h' : (n ≠ m) ∨ (n = m ∧ 64 < n) := by omega
  clear h
  rcases h' with h | ⟨rfl, h2⟩
  have t1 : ((n : Int) != (m : Int)) = true := by simp; omega
  all_goals
    go_enter Try.func19, Try.ntmps19
    go_upto_region 2 with fail
    try rw [hW0]
    clear hW0
    obtain ⟨R, hwR'⟩ : ∃ R, w.heap.size = R := ⟨_, rfl⟩
    have hwR : w.heap.size ≤ R := Nat.le_of_eq hwR'
    rw [hwR'] at HR ⊢
    clear hwR'
    generalize W0 = w9 at *
    go_upto_region 2 with fail
    obtain ⟨n0, n1, n2, n3, n4, n5, n6, n7, n8⟩ := HR.out.all
    simp only [lmz] at n0 n1 n2 n3 n4 n5 n6 n7
    obtain ⟨nz0, nz1, nz2, nz3, nz4, nz5, nz6, nz7, nz8⟩ := HR.out.fzs
    have hll := HR.out.lt
    have HF := Lib.hid (HR.out.put 0 0 false); have HCF := Lib.hid (HC.out.put9 (b := R) (Or.inr hwR) 0 0 false)
    go_wp2_with fail
    have hF := HF.out; have hCF := HCF.out
    refine (id ?_ : bodyPost _ _ _ _ _ (put9 w9 R 0 0 false))
    clear HF HCF
    generalize put9 w9 R 0 0 false = W5 at *
    obtain ⟨g0, g1, g2, g3, g4, g5, g6, g7, g8⟩ := hF.all
    simp only [lmz] at g0 g1 g2 g3 g4 g5 g6 g7
    exact bodyPost_ret (v := .tuple #[.agg #[.int .u64 0, .int .u64 0, .int .u64 0, .int .u64 0, .int .u64 0, .int .u64 0, .int .u64 0, .int .u64 0, .bool false], .int .i64 1]) (by simp [results, Try.results19, go_sem, g0, g1, g2, g3, g4, g5, g6, g7, g8]) rfl ⟨HZ.out, hCF⟩

set_option maxRecDepth 100000 in
set_option maxHeartbeats 8000000 in
theorem ref_sum {Ak Ap : Option Addr} {ck cp : Nat} {ks : List Nat} {ps : List Pd} {P : Nat → Pc} {es : Nat → Nat} (hlen : ps.length = ks.length) (h64 : ks.length ≤ 64) (w : World) (hK : ReadsN w Ak ks) (hS : ReadsP w Ap ps)
    (hE : ∀ i, i < ks.length → ErrOf (ks.getD i 0) (ps.getD i ⟨0, 0, false⟩) (P i) (es i)) :
    Calls Try.prog 19 #[.slice Ak ks.length ck, .slice Ap ps.length cp] w fun e w' => e = .returned (.tuple #[.agg (pv (manyV es ks P ks.length)), .int .i64 (firstE es ks.length : Nat)]) ∧ Chg [] w w' := by
  have hhs := fun (x : Nat) (hx : x < B6 ^ 4) w => ref_has (c := cQ) way_Q.lt hx w
  unfold dcCells at hhs
  have hsc := ref_scalars
  unfold dcCells at hsc
  have HHs := Lib.hid hhs; have HSc := Lib.hid hsc
  have HIn := Lib.hid fun P w => ref_inP P w
  have HTm := Lib.hid fun k j w => ref_ktimes k j w
  have HPl := Lib.hid fun p q w => rplus p q w
  have HOut := Lib.hid fun j w => ref_out j w
  have HE := Lib.hid hE
  obtain ⟨Zr, hZr⟩ : ∃ Z, (Ending.returned (.tuple #[.agg (pv (manyV es ks P ks.length)), .int .i64 (firstE es ks.length : Nat)])) = Z := ⟨_, rfl⟩
  rw [hZr]
  rw [hlen]
  obtain ⟨n, hn⟩ : ∃ n, ks.length = n := ⟨_, rfl⟩
  rw [hn] at h64 hZr ⊢
  have HZr := Lib.hid hZr; have HN := Lib.hid hn; have HLen := Lib.hid hlen
  clear hZr hn hlen hhs hsc hE
  obtain ⟨W0, hW0⟩ : ∃ W0, w.alloc (.cells #[.int .u64 0, .int .u64 0, .int .u64 0, .int .u64 0, .int .u64 0, .int .u64 0, .int .u64 0, .int .u64 0, .bool false] 26) = W0 := ⟨_, rfl⟩
  obtain ⟨R, hwR'⟩ : ∃ R, w.heap.size = R := ⟨_, rfl⟩
  have hR : U9 W0 R 0 0 false := U9.zero (by rw [← hW0, ← hwR']; exact has_alloc_new _ _)
  have hC : Chg [] w W0 := by rw [← hW0]; exact (Chg.refl _ _).alloc _
  have HR := Lib.hid hR; have HC := Lib.hid hC; have HKr := Lib.hid (hK.chg hC (by simp)); have HSr := Lib.hid (hS.chg hC (by simp))
  clear hR hC hK hS
  go_enter Try.func19, Try.ntmps19
  go_wp2_with fail
  try rw [hW0]
  try rw [hwR']
  have hwR : w.heap.size ≤ R := Nat.le_of_eq hwR'
  clear hW0 hwR'
  refine (HSc.out _).mono ?_
  rintro e w1 ⟨rfl, hC1⟩
  obtain ⟨W1, hW1⟩ : ∃ W1, w1.alloc (.cells #[.int .u64 (lm QQ 0 : Nat), .int .u64 (lm QQ 1 : Nat), .int .u64 (lm QQ 2 : Nat), .int .u64 (lm QQ 3 : Nat), .int .u64 (lm cQ 0 : Nat), .int .u64 (lm cQ 1 : Nat), .int .u64 (lm cQ 2 : Nat), .int .u64 (lm cQ 3 : Nat)] 76) = W1 := ⟨_, rfl⟩
  have hA : Chg [] w1 W1 := by rw [← hW1]; exact (Chg.refl _ _).alloc _
  have hN : UD W1 w1.heap.size QQ cQ := by rw [← hW1]; exact has_alloc_new _ _
  obtain ⟨D, hb⟩ : ∃ b, w1.heap.size = b := ⟨_, rfl⟩
  rw [hb] at hN
  replace HR := Lib.hid ((HR.out.chg hC1 nmN).chg hA nmN); replace HC := Lib.hid ((HC.out.trans hC1).trans hA); replace HKr := Lib.hid (HKr.out.chg (hC1.trans hA) (by simp)); replace HSr := Lib.hid (HSr.out.chg (hC1.trans hA) (by simp))
  have HD := Lib.hid hN
  have HW1 := Lib.hid hW1; have Hb := Lib.hid hb
  clear hW1 hb hA hN hC1 HSc
  go_upto_region 4 with fail
  try rw [HW1.out]
  try rw [Hb.out]
  clear HW1 Hb
  have hRD : R < W1.heap.size ∧ D < W1.heap.size := ⟨lt_of_has HR.out, lt_of_has HD.out⟩
  obtain ⟨O, hOe⟩ : ∃ O, W1.heap.size = O := ⟨_, rfl⟩
  rw [hOe] at hRD
  obtain ⟨W2, hW2⟩ : ∃ W2, W1.alloc (.cells #[.int .u64 0, .int .u64 0, .int .u64 0, .int .u64 0, .int .u64 0, .int .u64 0, .int .u64 0, .int .u64 0, .int .u64 0, .int .u64 0, .int .u64 0, .int .u64 0] 71) = W2 := ⟨_, rfl⟩
  have hA : Chg [] W1 W2 := by rw [← hW2]; exact (Chg.refl _ _).alloc _
  have hZ : Z12 W2 O 71 := by rw [← hW2, ← hOe]; exact has_alloc_new _ _
  obtain ⟨n0, n1, n2, n3, n4, n5, n6, n7, n8, n9, n10, n11⟩ := hZ.u12.all
  simp only [lmz] at n0 n1 n2 n3 n4 n5 n6 n7 n8 n9 n10 n11
  obtain ⟨nz0, nz1, nz2, nz3, nz4, nz5, nz6, nz7, nz8, nz9, nz10, nz11⟩ := hZ.u12.fzs
  have hll := lt_of_has hZ
  have HZ := Lib.hid hZ
  have HA := Lib.hid hA
  clear hZ hA
  go_upto_region 5 with fail
  clear n0 n1 n2 n3 n4 n5 n6 n7 n8 n9 n10 n11 nz0 nz1 nz2 nz3 nz4 nz5 nz6 nz7 nz8 nz9 nz10 nz11 hll
  try rw [hW2]
  clear hW2
  refine (id ?_ : Code.wp _ _ _ _ (put12 W2 O 0 1 0))
  have hO1 : W1.heap.size ≤ O := Nat.le_of_eq hOe
  have HO := Lib.hid (UO.one HZ.out)
  have HC2 := Lib.hid (HA.out.put12 (b := O) (Or.inr hO1) 0 1 0)
  clear HZ HA hOe
  generalize put12 W2 O 0 1 0 = W3 at *
  go_wp2_with fail
  go_loopg [26] n (fun gk i wr => ∃ m : Nat, gk + m = n ∧ i = .int .i64 m ∧ firstE es m = 0 ∧ UO wr O ⟨0, 1, 0⟩ ∧ Chg [] W1 wr)
  case atStart => exact ⟨0, by omega, rfl, rfl, HO.out, HC2.out⟩
  case round =>
    obtain ⟨m, hm, rfl, h0, hU, hCm⟩ := hrel
    by_cases hlt : m < n
    · have HKw := HKr.out.chg hCm (by simp)
      obtain ⟨bk, offk, rfl, hbk, hxk⟩ := HKw (by rw [HN.out]; omega)
      have HSw := HSr.out.chg hCm (by simp)
      obtain ⟨bp, offp, rfl, hbp, hxp⟩ := HSw (by rw [HLen.out, HN.out]; omega)
      replace hxk := hxk m (by rw [HN.out]; omega)
      replace hxp := hxp m (by rw [HLen.out, HN.out]; omega)
      have hEr := HE.out m (by rw [HN.out]; omega)
      obtain ⟨x, hx⟩ : ∃ x, ks.getD m 0 = x := ⟨_, rfl⟩
      obtain ⟨q, hq⟩ : ∃ q, ps.getD m ⟨0, 0, false⟩ = q := ⟨_, rfl⟩
      obtain ⟨Pm, hPm⟩ : ∃ Pm, P m = Pm := ⟨_, rfl⟩
      obtain ⟨em, hem⟩ : ∃ em, es m = em := ⟨_, rfl⟩
      rw [hx] at hxk
      rw [hq] at hxp
      rw [hx, hq, hPm, hem] at hEr
      obtain ⟨qx, qy, qi⟩ := q
      have k0 : wr.cell? ⟨bk, offk + m * 4, none⟩ = some (.int .u64 (lm x 0 : Nat)) := hxk 0 (by omega); have k1 : wr.cell? ⟨bk, offk + m * 4 + 1, none⟩ = some (.int .u64 (lm x 1 : Nat)) := hxk 1 (by omega); have k2 : wr.cell? ⟨bk, offk + m * 4 + 2, none⟩ = some (.int .u64 (lm x 2 : Nat)) := hxk 2 (by omega); have k3 : wr.cell? ⟨bk, offk + m * 4 + 3, none⟩ = some (.int .u64 (lm x 3 : Nat)) := hxk 3 (by omega)
      have HXp := Lib.hid hxp; have HM := Lib.hid hm
      have HE1 : Hid (em ≠ 0 → firstE es n = em) := Lib.hid fun hne => by rw [← hem]; exact firstE_at h0 (by rw [hem]; exact hne) hlt
      have HE0 : Hid (em = 0 → firstE es (m + 1) = 0) := Lib.hid fun he => firstE_next h0 (by rw [hem]; exact he)
      have HUw := Lib.hid hU
      replace HR := Lib.hid (HR.out.chg hCm nmN); replace HC := Lib.hid (HC.out.trans hCm); replace HD := Lib.hid (HD.out.chg hCm nmN)
      have HCm := Lib.hid hCm
      clear HKw HSw hxk hxp hx hq hPm hem hm hbk h0 hU hCm
      obtain ⟨D0, D1, D2, D3⟩ := four4 fun _ => (HD.out).cm; obtain ⟨D4, D5, D6, D7⟩ := four4 fun _ => (HD.out).cc
      have hx4 : x < B6 ^ 4 := by
        cases hEr with
        | range _ hk => exact hk
        | curve h _ => exact Nat.lt_trans h way_Q.lt
        | fine h _ _ => exact Nat.lt_trans h way_Q.lt
      have hhs := fun w => HHs.out x hx4 w
      obtain ⟨cb, hcb⟩ : ∃ cb, decide (x < QQ) = cb := ⟨_, rfl⟩
      rw [hcb] at hhs
      have H1 := Lib.hid hhs
      have HCb := Lib.hid hcb
      have HEr := Lib.hid hEr
      clear hhs hcb hEr hx4
      go_upto_region 8 with fail
      refine abs_region (B := Chg [] wr) (S := Chg [] wr) (by kernel_rfl) ((Chg.refl _ _).drew) ?_
      have hG := good_chg [] wr
      refine Abs.take_np (i := 0) (d := some 29) (v := ?_) rfl rfl (by kernel_rfl) (by kernel_rfl) (by kernel_rfl) hG ⟨by rfl, fun w9 hw9 => Or.inl ?_⟩ ?_
      rotate_left
      · replace D0 := hw9.cell D0 nmN; replace D1 := hw9.cell D1 nmN; replace D2 := hw9.cell D2 nmN; replace D3 := hw9.cell D3 nmN; replace D4 := hw9.cell D4 nmN; replace D5 := hw9.cell D5 nmN; replace D6 := hw9.cell D6 nmN; replace D7 := hw9.cell D7 nmN
        go_simp
        try with_reducible rfl
      simp only [Act.put, stA, stB, stC]
      refine Abs.take_np (i := 1) (d := some 30) (v := ?_) rfl rfl (by kernel_rfl) (by kernel_rfl) (by kernel_rfl) hG ⟨by rfl, fun w9 hw9 => Or.inl ?_⟩ ?_
      rotate_left
      · go_simp
        try with_reducible rfl
      simp only [Act.put, stA, stB, stC]
      refine Abs.take_np (i := 2) (d := some 31) (v := ?_) rfl rfl (by kernel_rfl) (by kernel_rfl) (by kernel_rfl) hG ⟨by rfl, fun w9 hw9 => Or.inl ?_⟩ ?_
      rotate_left
      · go_simp
        try with_reducible rfl
      simp only [Act.put, stA, stB, stC]
      refine Abs.take_np (i := 3) (d := some 32) (v := ?_) rfl rfl (by kernel_rfl) (by kernel_rfl) (by kernel_rfl) hG ⟨by rfl, fun w9 hw9 => Or.inl ?_⟩ ?_
      rotate_left
      · go_simp
        try with_reducible rfl
      simp only [Act.put, stA, stB, stC]
      refine Abs.take_np (i := 4) (d := some 33) (v := ?_) rfl rfl (by kernel_rfl) (by kernel_rfl) (by kernel_rfl) hG ⟨by rfl, fun w9 hw9 => Or.inl ?_⟩ ?_
      rotate_left
      · replace k0 := hw9.cell k0 nmN; replace k1 := hw9.cell k1 nmN; replace k2 := hw9.cell k2 nmN; replace k3 := hw9.cell k3 nmN
        go_simp
        try with_reducible rfl
      simp only [Act.put, stA, stB, stC]
      refine Abs.take_np (i := 5) (d := some 34) (v := _) rfl rfl (by kernel_rfl) (by kernel_rfl) (by kernel_rfl) hG ⟨by rfl, fun w9 hw9 => Or.inr ⟨_, _, ?_, H1.out w9⟩⟩ ?_
      · go_simp
        try with_reducible rfl
      simp only [Act.put, stA, stB, stC]
      refine Abs.take_np (i := 6) (d := some 35) (v := ?_) rfl rfl (by kernel_rfl) (by kernel_rfl) (by kernel_rfl) hG ⟨by rfl, fun w9 hw9 => Or.inl ?_⟩ ?_
      rotate_left
      · go_simp
        try with_reducible rfl
      simp only [Act.put, stA, stB, stC]
      refine Abs.done (by kernel_rfl) (fun wx hx => NoPanic.normal ?_) _
      clear k0 k1 k2 k3 D0 D1 D2 D3 D4 D5 D6 D7
      replace HR := Lib.hid (HR.out.chg hx nmN); replace HC := Lib.hid (HC.out.trans hx); replace HCm := Lib.hid (HCm.out.trans hx); replace HUw := Lib.hid (U12.chg HUw.out hx nmN)
      have HX := Lib.hid hx
      have hEr := HEr.out
      have hcb := HCb.out
      clear HEr HCb hx
      cases hEr with
      | range hxQ hx4 =>
        have HZ : Hid (Ending.returned (.tuple #[.agg #[.int .u64 0, .int .u64 0, .int .u64 0, .int .u64 0, .int .u64 0, .int .u64 0, .int .u64 0, .int .u64 0, .bool false], .int .i64 20]) = Zr) := Lib.hid (by
          rw [← HZr.out]
          unfold manyV
          rw [HE1.out (by decide), if_neg (by decide)]
          unfold pv
          simp only [lmz]
          rfl)
        obtain rfl : cb = false := by rw [← hcb]; simpa using hxQ
        clear hcb hxQ hx4
        go_upto_region 9 with fail
        obtain ⟨n0, n1, n2, n3, n4, n5, n6, n7, n8⟩ := HR.out.all
        simp only [lmz] at n0 n1 n2 n3 n4 n5 n6 n7
        obtain ⟨nz0, nz1, nz2, nz3, nz4, nz5, nz6, nz7, nz8⟩ := HR.out.fzs
        have hll := HR.out.lt
        have HF := Lib.hid (HR.out.put 0 0 false); have HCF := Lib.hid (HC.out.put9 (b := R) (Or.inr hwR) 0 0 false)
        go_wp2_with fail
        have hF := HF.out; have hCF := HCF.out
        refine (id ?_ : bodyPost _ _ _ _ _ (put9 wx R 0 0 false))
        clear HF HCF
        generalize put9 wx R 0 0 false = W5 at *
        obtain ⟨g0, g1, g2, g3, g4, g5, g6, g7, g8⟩ := hF.all
        simp only [lmz] at g0 g1 g2 g3 g4 g5 g6 g7
        exact bodyPost_ret (v := .tuple #[.agg #[.int .u64 0, .int .u64 0, .int .u64 0, .int .u64 0, .int .u64 0, .int .u64 0, .int .u64 0, .int .u64 0, .bool false], .int .i64 20]) (by simp [results, Try.results19, go_sem, g0, g1, g2, g3, g4, g5, g6, g7, g8]) rfl ⟨HZ.out, hCF⟩
      | curve hxQ hb =>
        have HZ : Hid (Ending.returned (.tuple #[.agg #[.int .u64 0, .int .u64 0, .int .u64 0, .int .u64 0, .int .u64 0, .int .u64 0, .int .u64 0, .int .u64 0, .bool false], .int .i64 30]) = Zr) := Lib.hid (by
          rw [← HZr.out]
          unfold manyV
          rw [HE1.out (by decide), if_neg (by decide)]
          unfold pv
          simp only [lmz]
          rfl)
        obtain rfl : cb = true := by rw [← hcb]; simpa using hxQ
        have hib := fun w => is_bad hb w
        unfold pv at hib
        have HIb := Lib.hid hib
        clear hcb hxQ hb hib
        have p0 : wx.cell? ⟨bp, offp + m * 9, none⟩ = some (.int .u64 (lm qx 0 : Nat)) := (World.cell?_of_block (HX.out.block bp hbp nmN)).trans (HXp.out 0 (by omega)); have p1 : wx.cell? ⟨bp, offp + m * 9 + 1, none⟩ = some (.int .u64 (lm qx 1 : Nat)) := (World.cell?_of_block (HX.out.block bp hbp nmN)).trans (HXp.out 1 (by omega)); have p2 : wx.cell? ⟨bp, offp + m * 9 + 2, none⟩ = some (.int .u64 (lm qx 2 : Nat)) := (World.cell?_of_block (HX.out.block bp hbp nmN)).trans (HXp.out 2 (by omega)); have p3 : wx.cell? ⟨bp, offp + m * 9 + 3, none⟩ = some (.int .u64 (lm qx 3 : Nat)) := (World.cell?_of_block (HX.out.block bp hbp nmN)).trans (HXp.out 3 (by omega)); have p4 : wx.cell? ⟨bp, offp + m * 9 + 4, none⟩ = some (.int .u64 (lm qy 0 : Nat)) := (World.cell?_of_block (HX.out.block bp hbp nmN)).trans (HXp.out 4 (by omega)); have p5 : wx.cell? ⟨bp, offp + m * 9 + 5, none⟩ = some (.int .u64 (lm qy 1 : Nat)) := (World.cell?_of_block (HX.out.block bp hbp nmN)).trans (HXp.out 5 (by omega)); have p6 : wx.cell? ⟨bp, offp + m * 9 + 6, none⟩ = some (.int .u64 (lm qy 2 : Nat)) := (World.cell?_of_block (HX.out.block bp hbp nmN)).trans (HXp.out 6 (by omega)); have p7 : wx.cell? ⟨bp, offp + m * 9 + 7, none⟩ = some (.int .u64 (lm qy 3 : Nat)) := (World.cell?_of_block (HX.out.block bp hbp nmN)).trans (HXp.out 7 (by omega)); have p8 : wx.cell? ⟨bp, offp + m * 9 + 8, none⟩ = some (.bool qi) := (World.cell?_of_block (HX.out.block bp hbp nmN)).trans (HXp.out 8 (by omega))
        go_wp2_with fail
        refine (HIb.out _).mono ?_
        rintro e w9 ⟨rfl, hC9⟩
        replace HR := Lib.hid (HR.out.chg hC9 nmN); replace HC := Lib.hid (HC.out.trans hC9)
        clear hC9 p0 p1 p2 p3 p4 p5 p6 p7 p8
        go_upto_region 11 with fail
        obtain ⟨n0, n1, n2, n3, n4, n5, n6, n7, n8⟩ := HR.out.all
        simp only [lmz] at n0 n1 n2 n3 n4 n5 n6 n7
        obtain ⟨nz0, nz1, nz2, nz3, nz4, nz5, nz6, nz7, nz8⟩ := HR.out.fzs
        have hll := HR.out.lt
        have HF := Lib.hid (HR.out.put 0 0 false); have HCF := Lib.hid (HC.out.put9 (b := R) (Or.inr hwR) 0 0 false)
        go_wp2_with fail
        have hF := HF.out; have hCF := HCF.out
        refine (id ?_ : bodyPost _ _ _ _ _ (put9 w9 R 0 0 false))
        clear HF HCF
        generalize put9 w9 R 0 0 false = W5 at *
        obtain ⟨g0, g1, g2, g3, g4, g5, g6, g7, g8⟩ := hF.all
        simp only [lmz] at g0 g1 g2 g3 g4 g5 g6 g7
        exact bodyPost_ret (v := .tuple #[.agg #[.int .u64 0, .int .u64 0, .int .u64 0, .int .u64 0, .int .u64 0, .int .u64 0, .int .u64 0, .int .u64 0, .bool false], .int .i64 30]) (by simp [results, Try.results19, go_sem, g0, g1, g2, g3, g4, g5, g6, g7, g8]) rfl ⟨HZ.out, hCF⟩
      | fine hxQ hPm hp =>
        obtain rfl : cb = true := by rw [← hcb]; simpa using hxQ
        have hib := fun w => is_ok hPm w
        rw [← hp] at hib
        unfold pv at hib
        have HIb := Lib.hid hib
        clear hcb hxQ hPm hp hib
        have p0 : wx.cell? ⟨bp, offp + m * 9, none⟩ = some (.int .u64 (lm qx 0 : Nat)) := (World.cell?_of_block (HX.out.block bp hbp nmN)).trans (HXp.out 0 (by omega)); have p1 : wx.cell? ⟨bp, offp + m * 9 + 1, none⟩ = some (.int .u64 (lm qx 1 : Nat)) := (World.cell?_of_block (HX.out.block bp hbp nmN)).trans (HXp.out 1 (by omega)); have p2 : wx.cell? ⟨bp, offp + m * 9 + 2, none⟩ = some (.int .u64 (lm qx 2 : Nat)) := (World.cell?_of_block (HX.out.block bp hbp nmN)).trans (HXp.out 2 (by omega)); have p3 : wx.cell? ⟨bp, offp + m * 9 + 3, none⟩ = some (.int .u64 (lm qx 3 : Nat)) := (World.cell?_of_block (HX.out.block bp hbp nmN)).trans (HXp.out 3 (by omega)); have p4 : wx.cell? ⟨bp, offp + m * 9 + 4, none⟩ = some (.int .u64 (lm qy 0 : Nat)) := (World.cell?_of_block (HX.out.block bp hbp nmN)).trans (HXp.out 4 (by omega)); have p5 : wx.cell? ⟨bp, offp + m * 9 + 5, none⟩ = some (.int .u64 (lm qy 1 : Nat)) := (World.cell?_of_block (HX.out.block bp hbp nmN)).trans (HXp.out 5 (by omega)); have p6 : wx.cell? ⟨bp, offp + m * 9 + 6, none⟩ = some (.int .u64 (lm qy 2 : Nat)) := (World.cell?_of_block (HX.out.block bp hbp nmN)).trans (HXp.out 6 (by omega)); have p7 : wx.cell? ⟨bp, offp + m * 9 + 7, none⟩ = some (.int .u64 (lm qy 3 : Nat)) := (World.cell?_of_block (HX.out.block bp hbp nmN)).trans (HXp.out 7 (by omega)); have p8 : wx.cell? ⟨bp, offp + m * 9 + 8, none⟩ = some (.bool qi) := (World.cell?_of_block (HX.out.block bp hbp nmN)).trans (HXp.out 8 (by omega))
        go_wp2_with fail
        refine (HIb.out _).mono ?_
        rintro e w9 ⟨rfl, hC9⟩
        replace HUw := Lib.hid (U12.chg HUw.out hC9 nmN); replace HCm := Lib.hid (HCm.out.trans hC9)
        clear hC9 p0 p1 p2 p3 p4 p5 p6 p7 p8
        go_wp2_with fail
        go_roundg (n - (m + 1))
        case measure => have := HM.out; omega
        case rel => exact ⟨m + 1, by have := HM.out; omega, by go_num, HE0.out (by first | rfl | trivial), HUw.out, HCm.out⟩
    · obtain rfl : m = n := by omega
      have hz := firstE_zero h0
      have hok : ∀ i, i < m → ks.getD i 0 < QQ ∧ (P i).on 7 ∧ ps.getD i ⟨0, 0, false⟩ = ofP (P i) := fun i hi => by
        have h := HE.out i (by rw [HN.out]; exact hi)
        rw [hz i hi] at h
        exact h.ok
      have HOk := Lib.hid hok; have HUw := Lib.hid hU; have HCm := Lib.hid hCm; have H0 := Lib.hid h0
      clear hz hok h0 hU hCm hm HO HC2
      go_wp2_with fail
      go_loopg [47] m (fun gk i wr => ∃ (t : Nat) (j : J), gk + t = m ∧ i = .int .i64 t ∧ RepO j (sumF (fun j => ks.getD j 0) P t) ∧ UO wr O j ∧ Chg [] W1 wr)
      case atStart => exact ⟨0, ⟨0, 1, 0⟩, by omega, rfl, .inf rfl, HUw.out, HCm.out⟩
      case round =>
        obtain ⟨t, o, ht, rfl, hrep, hU, hCt⟩ := hrel
        clear HUw HCm
        by_cases hlt : t < m
        · have HKw := HKr.out.chg hCt (by simp)
          obtain ⟨bk, offk, rfl, hbk, hxk⟩ := HKw (by rw [HN.out]; omega)
          have HSw := HSr.out.chg hCt (by simp)
          obtain ⟨bp, offp, rfl, hbp, hxp⟩ := HSw (by rw [HLen.out, HN.out]; omega)
          replace hxk := hxk t (by rw [HN.out]; omega)
          replace hxp := hxp t (by rw [HLen.out, HN.out]; omega)
          have hok := HOk.out t hlt
          obtain ⟨x, hx⟩ : ∃ x, ks.getD t 0 = x := ⟨_, rfl⟩
          obtain ⟨q, hq⟩ : ∃ q, ps.getD t ⟨0, 0, false⟩ = q := ⟨_, rfl⟩
          obtain ⟨Pm, hPm⟩ : ∃ Pm, P t = Pm := ⟨_, rfl⟩
          rw [hx] at hxk
          rw [hq] at hxp
          rw [hx, hq, hPm] at hok
          obtain ⟨hxQ, hPo, hqe⟩ := hok
          have hx4 := Nat.lt_trans hxQ way_Q.lt
          have hnx : ∀ j, RepO (rpl o j) (addP (sumF (fun j => ks.getD j 0) P t) (mulP x Pm)) → RepO (rpl o j) (sumF (fun j => ks.getD j 0) P (t + 1)) := fun j h => by
            show RepO _ (addP (sumF (fun j => ks.getD j 0) P t) (mulP (ks.getD t 0) (P t)))
            rw [hx, hPm]; exact h
          have hnx2 := hnx _ (repo_pl (sumF_on fun i hi => (HOk.out i (by omega)).2.1) (mulP_on hPo x) hrep (rtm_all hx4 hPo))
          have hin := fun w => HIn.out Pm w
          have htm := fun w => HTm.out x (rin Pm) w
          have hpl := fun w => HPl.out o (rtm x (rin Pm) 256) w
          rw [← hqe] at hin
          obtain ⟨qx, qy, qi⟩ := q
          unfold pv at hin
          obtain ⟨u, hu⟩ : ∃ u, ov (rin Pm) = u := ⟨_, rfl⟩
          obtain ⟨v, hv⟩ : ∃ v, ov (rtm x (rin Pm) 256) = v := ⟨_, rfl⟩
          obtain ⟨r, hr⟩ : ∃ r, rpl o (rtm x (rin Pm) 256) = r := ⟨_, rfl⟩
          rw [hu] at hin htm
          rw [hv] at htm hpl
          rw [hr] at hpl hnx2
          obtain ⟨ox, hox⟩ : ∃ v, o.x.val = v := ⟨_, rfl⟩
          obtain ⟨oy, hoy⟩ : ∃ v, o.y.val = v := ⟨_, rfl⟩
          obtain ⟨oz, hoz⟩ : ∃ v, o.z.val = v := ⟨_, rfl⟩
          obtain ⟨rx, hrx⟩ : ∃ v, r.x.val = v := ⟨_, rfl⟩
          obtain ⟨ry, hry⟩ : ∃ v, r.y.val = v := ⟨_, rfl⟩
          obtain ⟨rz, hrz⟩ : ∃ v, r.z.val = v := ⟨_, rfl⟩
          have hU' : U12 wr O 71 ox oy oz := by rw [← hox, ← hoy, ← hoz]; exact hU
          unfold ov at hpl
          rw [hox, hoy, hoz, hrx, hry, hrz] at hpl
          have I1 := Lib.hid hin; have I2 := Lib.hid htm; have I3 := Lib.hid hpl
          have HrU := Lib.hid (show ∀ w, U12 w O 71 rx ry rz → UO w O r from fun w h => UO.of h hrx hry hrz)
          have HRep := Lib.hid hnx2; have HT := Lib.hid ht; have HUO := Lib.hid hU'; have HCt := Lib.hid hCt
          have k0 : wr.cell? ⟨bk, offk + t * 4, none⟩ = some (.int .u64 (lm x 0 : Nat)) := hxk 0 (by omega); have k1 : wr.cell? ⟨bk, offk + t * 4 + 1, none⟩ = some (.int .u64 (lm x 1 : Nat)) := hxk 1 (by omega); have k2 : wr.cell? ⟨bk, offk + t * 4 + 2, none⟩ = some (.int .u64 (lm x 2 : Nat)) := hxk 2 (by omega); have k3 : wr.cell? ⟨bk, offk + t * 4 + 3, none⟩ = some (.int .u64 (lm x 3 : Nat)) := hxk 3 (by omega)
          have p0 : wr.cell? ⟨bp, offp + t * 9, none⟩ = some (.int .u64 (lm qx 0 : Nat)) := hxp 0 (by omega); have p1 : wr.cell? ⟨bp, offp + t * 9 + 1, none⟩ = some (.int .u64 (lm qx 1 : Nat)) := hxp 1 (by omega); have p2 : wr.cell? ⟨bp, offp + t * 9 + 2, none⟩ = some (.int .u64 (lm qx 2 : Nat)) := hxp 2 (by omega); have p3 : wr.cell? ⟨bp, offp + t * 9 + 3, none⟩ = some (.int .u64 (lm qx 3 : Nat)) := hxp 3 (by omega); have p4 : wr.cell? ⟨bp, offp + t * 9 + 4, none⟩ = some (.int .u64 (lm qy 0 : Nat)) := hxp 4 (by omega); have p5 : wr.cell? ⟨bp, offp + t * 9 + 5, none⟩ = some (.int .u64 (lm qy 1 : Nat)) := hxp 5 (by omega); have p6 : wr.cell? ⟨bp, offp + t * 9 + 6, none⟩ = some (.int .u64 (lm qy 2 : Nat)) := hxp 6 (by omega); have p7 : wr.cell? ⟨bp, offp + t * 9 + 7, none⟩ = some (.int .u64 (lm qy 3 : Nat)) := hxp 7 (by omega); have p8 : wr.cell? ⟨bp, offp + t * 9 + 8, none⟩ = some (.bool qi) := hxp 8 (by omega)
          obtain ⟨ox0, ox1, ox2, ox3, oy0, oy1, oy2, oy3, oz0, oz1, oz2, oz3⟩ := hU'.all
          clear HKw HSw hxk hxp hx hq hPm hxQ hPo hqe hx4 hnx hnx2 hin htm hpl hu hv hr hox hoy hoz hrx hry hrz hU hU' hrep ht hCt hbk hbp
          go_upto_region 16 with fail
          obtain ⟨nz0, nz1, nz2, nz3, nz4, nz5, nz6, nz7, nz8, nz9, nz10, nz11⟩ := HUO.out.fzs
          have hll := HUO.out.lt
          have HC4 := Lib.hid (Chg.refl [] wr)
          have H9k0 := Lib.hid k0; have H9k1 := Lib.hid k1; have H9k2 := Lib.hid k2; have H9k3 := Lib.hid k3; have H9p0 := Lib.hid p0; have H9p1 := Lib.hid p1; have H9p2 := Lib.hid p2; have H9p3 := Lib.hid p3; have H9p4 := Lib.hid p4; have H9p5 := Lib.hid p5; have H9p6 := Lib.hid p6; have H9p7 := Lib.hid p7; have H9p8 := Lib.hid p8; have H9ox0 := Lib.hid ox0; have H9ox1 := Lib.hid ox1; have H9ox2 := Lib.hid ox2; have H9ox3 := Lib.hid ox3; have H9oy0 := Lib.hid oy0; have H9oy1 := Lib.hid oy1; have H9oy2 := Lib.hid oy2; have H9oy3 := Lib.hid oy3; have H9oz0 := Lib.hid oz0; have H9oz1 := Lib.hid oz1; have H9oz2 := Lib.hid oz2; have H9oz3 := Lib.hid oz3
          go_region_with (first | (go_at_call 37; go_loud (refine (I1.out _).mono ?_; rintro e w3 ⟨rfl, hC3⟩; have hC4 := Chg.trans (S := []) (a := wr) (by repeat (with_reducible first | exact HC4.out | apply Chg.drew | apply Chg.drewN | apply Chg.alloc)) hC3; replace k0 := hC4.cell H9k0.out nmN; replace k1 := hC4.cell H9k1.out nmN; replace k2 := hC4.cell H9k2.out nmN; replace k3 := hC4.cell H9k3.out nmN; replace p0 := hC4.cell H9p0.out nmN; replace p1 := hC4.cell H9p1.out nmN; replace p2 := hC4.cell H9p2.out nmN; replace p3 := hC4.cell H9p3.out nmN; replace p4 := hC4.cell H9p4.out nmN; replace p5 := hC4.cell H9p5.out nmN; replace p6 := hC4.cell H9p6.out nmN; replace p7 := hC4.cell H9p7.out nmN; replace p8 := hC4.cell H9p8.out nmN; replace ox0 := hC4.cell H9ox0.out nmN; replace ox1 := hC4.cell H9ox1.out nmN; replace ox2 := hC4.cell H9ox2.out nmN; replace ox3 := hC4.cell H9ox3.out nmN; replace oy0 := hC4.cell H9oy0.out nmN; replace oy1 := hC4.cell H9oy1.out nmN; replace oy2 := hC4.cell H9oy2.out nmN; replace oy3 := hC4.cell H9oy3.out nmN; replace oz0 := hC4.cell H9oz0.out nmN; replace oz1 := hC4.cell H9oz1.out nmN; replace oz2 := hC4.cell H9oz2.out nmN; replace oz3 := hC4.cell H9oz3.out nmN; clear nz0 nz1 nz2 nz3 nz4 nz5 nz6 nz7 nz8 nz9 nz10 nz11 hll; obtain ⟨nz0, nz1, nz2, nz3, nz4, nz5, nz6, nz7, nz8, nz9, nz10, nz11⟩ := (HUO.out.chg hC4 nmN).fzs; have hll := (HUO.out.chg hC4 nmN).lt; clear HC4 hC3; have HC4 := Lib.hid hC4; clear hC4)) | (go_at_call 52; go_loud (refine (I2.out _).mono ?_; rintro e w3 ⟨rfl, hC3⟩; have hC4 := Chg.trans (S := []) (a := wr) (by repeat (with_reducible first | exact HC4.out | apply Chg.drew | apply Chg.drewN | apply Chg.alloc)) hC3; replace k0 := hC4.cell H9k0.out nmN; replace k1 := hC4.cell H9k1.out nmN; replace k2 := hC4.cell H9k2.out nmN; replace k3 := hC4.cell H9k3.out nmN; replace p0 := hC4.cell H9p0.out nmN; replace p1 := hC4.cell H9p1.out nmN; replace p2 := hC4.cell H9p2.out nmN; replace p3 := hC4.cell H9p3.out nmN; replace p4 := hC4.cell H9p4.out nmN; replace p5 := hC4.cell H9p5.out nmN; replace p6 := hC4.cell H9p6.out nmN; replace p7 := hC4.cell H9p7.out nmN; replace p8 := hC4.cell H9p8.out nmN; replace ox0 := hC4.cell H9ox0.out nmN; replace ox1 := hC4.cell H9ox1.out nmN; replace ox2 := hC4.cell H9ox2.out nmN; replace ox3 := hC4.cell H9ox3.out nmN; replace oy0 := hC4.cell H9oy0.out nmN; replace oy1 := hC4.cell H9oy1.out nmN; replace oy2 := hC4.cell H9oy2.out nmN; replace oy3 := hC4.cell H9oy3.out nmN; replace oz0 := hC4.cell H9oz0.out nmN; replace oz1 := hC4.cell H9oz1.out nmN; replace oz2 := hC4.cell H9oz2.out nmN; replace oz3 := hC4.cell H9oz3.out nmN; clear nz0 nz1 nz2 nz3 nz4 nz5 nz6 nz7 nz8 nz9 nz10 nz11 hll; obtain ⟨nz0, nz1, nz2, nz3, nz4, nz5, nz6, nz7, nz8, nz9, nz10, nz11⟩ := (HUO.out.chg hC4 nmN).fzs; have hll := (HUO.out.chg hC4 nmN).lt; clear HC4 hC3; have HC4 := Lib.hid hC4; clear hC4)) | (go_at_call 36; go_loud (refine (I3.out _).mono ?_; rintro e w3 ⟨rfl, hC3⟩; have hC4 := Chg.trans (S := []) (a := wr) (by repeat (with_reducible first | exact HC4.out | apply Chg.drew | apply Chg.drewN | apply Chg.alloc)) hC3; replace k0 := hC4.cell H9k0.out nmN; replace k1 := hC4.cell H9k1.out nmN; replace k2 := hC4.cell H9k2.out nmN; replace k3 := hC4.cell H9k3.out nmN; replace p0 := hC4.cell H9p0.out nmN; replace p1 := hC4.cell H9p1.out nmN; replace p2 := hC4.cell H9p2.out nmN; replace p3 := hC4.cell H9p3.out nmN; replace p4 := hC4.cell H9p4.out nmN; replace p5 := hC4.cell H9p5.out nmN; replace p6 := hC4.cell H9p6.out nmN; replace p7 := hC4.cell H9p7.out nmN; replace p8 := hC4.cell H9p8.out nmN; replace ox0 := hC4.cell H9ox0.out nmN; replace ox1 := hC4.cell H9ox1.out nmN; replace ox2 := hC4.cell H9ox2.out nmN; replace ox3 := hC4.cell H9ox3.out nmN; replace oy0 := hC4.cell H9oy0.out nmN; replace oy1 := hC4.cell H9oy1.out nmN; replace oy2 := hC4.cell H9oy2.out nmN; replace oy3 := hC4.cell H9oy3.out nmN; replace oz0 := hC4.cell H9oz0.out nmN; replace oz1 := hC4.cell H9oz1.out nmN; replace oz2 := hC4.cell H9oz2.out nmN; replace oz3 := hC4.cell H9oz3.out nmN; clear nz0 nz1 nz2 nz3 nz4 nz5 nz6 nz7 nz8 nz9 nz10 nz11 hll; obtain ⟨nz0, nz1, nz2, nz3, nz4, nz5, nz6, nz7, nz8, nz9, nz10, nz11⟩ := (HUO.out.chg hC4 nmN).fzs; have hll := (HUO.out.chg hC4 nmN).lt; clear HC4 hC3; have HC4 := Lib.hid hC4; clear hC4)))
          all_goals (
            have HUn := Lib.hid ((HUO.out.chg HC4.out nmN).put rx ry rz); have HCn := Lib.hid ((HCt.out.trans HC4.out).put12 (b := O) (Or.inr hO1) rx ry rz)
            go_wp2_with fail
            go_roundg (m - (t + 1))
            case measure => have := HT.out; omega
            case rel => exact ⟨t + 1, r, by have := HT.out; omega, by go_num, HRep.out, HrU.out _ HUn.out, HCn.out⟩)
        · obtain rfl : t = m := by omega
          have hout := fun w => HOut.out o w
          rw [repo_out hrep] at hout
          obtain ⟨T, hT⟩ : ∃ T, ofP (sumF (fun j => ks.getD j 0) P t) = T := ⟨_, rfl⟩
          have hzr : Ending.returned (.tuple #[.agg (pv T), .int .i64 0]) = Zr := by
            rw [← HZr.out, H0.out]
            unfold manyV
            rw [if_pos H0.out, hT]
            rfl
          rw [hT] at hout
          obtain ⟨rx, ry, ri⟩ := T
          unfold pv at hout hzr
          obtain ⟨ox, hox⟩ : ∃ v, o.x.val = v := ⟨_, rfl⟩
          obtain ⟨oy, hoy⟩ : ∃ v, o.y.val = v := ⟨_, rfl⟩
          obtain ⟨oz, hoz⟩ : ∃ v, o.z.val = v := ⟨_, rfl⟩
          have hU' : U12 wr O 71 ox oy oz := by rw [← hox, ← hoy, ← hoz]; exact hU
          unfold ov at hout
          rw [hox, hoy, hoz] at hout
          obtain ⟨ox0, ox1, ox2, ox3, oy0, oy1, oy2, oy3, oz0, oz1, oz2, oz3⟩ := hU'.all
          have HOt := Lib.hid hout; have HZ := Lib.hid hzr; have HCt := Lib.hid hCt
          clear hout hT hzr hox hoy hoz hU hU' hrep hCt ht
          go_wp2_with fail
          refine (HOt.out _).mono ?_
          rintro e w9 ⟨rfl, hC9⟩
          replace HCt := Lib.hid (HCt.out.trans hC9)
          have HR9 := Lib.hid (HR.out.chg HCt.out nmN)
          clear hC9 ox0 ox1 ox2 ox3 oy0 oy1 oy2 oy3 oz0 oz1 oz2 oz3
          obtain ⟨n0, n1, n2, n3, n4, n5, n6, n7, n8⟩ := HR9.out.all
          obtain ⟨nz0, nz1, nz2, nz3, nz4, nz5, nz6, nz7, nz8⟩ := HR9.out.fzs
          have hll := HR9.out.lt
          have HF9 := Lib.hid (HR9.out.put rx ry ri); have HCF := Lib.hid ((HC.out.trans HCt.out).put9 (b := R) (Or.inr hwR) rx ry ri)
          go_wp2_with fail
          have hF := HF9.out; have hCF := HCF.out
          refine (id ?_ : bodyPost _ _ _ _ _ (put9 w9 R rx ry ri))
          clear HF9 HCF
          generalize put9 w9 R rx ry ri = W5 at *
          obtain ⟨g0, g1, g2, g3, g4, g5, g6, g7, g8⟩ := hF.all
          exact bodyPost_ret (v := .tuple #[.agg #[.int .u64 (lm rx 0 : Nat), .int .u64 (lm rx 1 : Nat), .int .u64 (lm rx 2 : Nat), .int .u64 (lm rx 3 : Nat), .int .u64 (lm ry 0 : Nat), .int .u64 (lm ry 1 : Nat), .int .u64 (lm ry 2 : Nat), .int .u64 (lm ry 3 : Nat), .bool ri], .int .i64 0]) (by simp [results, Try.results19, go_sem, g0, g1, g2, g3, g4, g5, g6, g7, g8]) rfl ⟨HZ.out, hCF⟩

end Go.Proofs.Ytplldbmjdnikeaa
