/- The document's answer for king: the third round; a new node. -/
import Derived.Test.YtgiackgdceanhaaKingS
namespace Go.Proofs.Ytgiackgdceanhaa
set_option linter.unusedVariables false
set_option linter.unusedSimpArgs false
open Go.RowKit

set_option maxRecDepth 100000 in
set_option maxHeartbeats 4000000 in
theorem ref_hear_2 (b : Nat) (n f s v r q : Int) (a : Option Addr) (len cap : Nat) (zs : List Int) (w : World) (hK : RN w b n f s v r q) (hf : 0 ≤ f ∧ f ≤ 100) (hr : r ≠ 3 * (f + 1))
    (hq0 : 0 ≤ q ∧ q ≤ 100)
    (hr0 : 0 ≤ r) (hr3 : r < 3 * (f + 1)) (hfn : f < n) (hn : n ≤ 100) (hz : zs.length = len) (hl : (len : Int) = n) (hc : ReadsI w a zs) (hcb : ∀ c o, a = some ⟨c, o, none⟩ → c ≠ b) (h0 : r % 3 = 2) :
    Calls Try.prog 26 #[.pointer (some ⟨b, 0, none⟩), .slice a len cap] w fun e w' => e = .returned (.int .i64 0) ∧
      RN w' b n f s (crV v r (decide (n - f ≤ q)) zs) (r + 1) q ∧ Chg [b] w w' := by
  have hb : (r == 3 * (f+1)) = false := by simp [hr]
  have hl' : ((len : Int) != n) = false := by simp [hl]
  have t0 : (r % 3 == 0) = false := by simp [h0]
  have t1 : (r % 3 == 1) = false := by simp [h0]
  have hm : len ≤ 9223372036854775807 := by omega
  have hq : r.tmod 3 = r % 3 := Int.tmod_eq_emod_of_nonneg hr0
  have hws : IntKind.i64.wrap (n - f) = n - f := IntWalk.i64_in _ (by omega)
  obtain ⟨k, hk⟩ : ∃ k : Nat, r / 3 = k := ⟨(r/3).toNat, by omega⟩
  have hk' : k < zs.length := by omega
  obtain ⟨c, o, rfl, hcl, hcc⟩ := hc (by omega)
  have hcell := hcc k hk'
  have hcne := hcb c o rfl
  have hz0 : zs.getD (r / 3).toNat 0 = zs.getD k 0 := by rw [hk]; rfl
  have hklen : k < len := by omega
  generalize zs.getD k 0 = z at *
  have HZ0 := Lib.hid hz0
  have hqd : (r.tdiv 3) = (k : Int) := by rw [Int.tdiv_eq_ediv_of_nonneg hr0]; exact hk
  have f0 := hK.c0
  have f1 := hK.c1
  have f3 := hK.c3
  have f4 := hK.c4
  have f5 := hK.c5
  have z3 := hK.fz 3
  have z4 := hK.fz 4
  have hlt := hK.lt
  generalize hV : crV v r (decide (n - f ≤ q)) zs = V at *
  have HV := Lib.hid hV
  have HL := Lib.hid hl; have HQ := Lib.hid hq; have H0 := Lib.hid h0; have HZ := Lib.hid hz; have HK := Lib.hid hk
  clear hV hl hr hq h0 hz hcc hcb hc hz0 hk
  have hVV : V = if v ≠ 2 ∧ n - f ≤ q then v else if z = 0 then 0 else 1 := by rw [← HV.out]; unfold crV; rw [HZ0.out]; simp
  have HVV := Lib.hid hVV
  clear hVV
  by_cases hv2 : v = 2
  · have e2 : (v == 2) = true := by simp [hv2]
    have HV2 := Lib.hid hv2
    clear hv2
    by_cases hz0 : z = 0
    · have hvv := HVV.out
      rw [if_neg (by rintro ⟨hx, _⟩; exact hx HV2.out)] at hvv
      subst hz0
      simp at hvv
      subst hvv
      go_enter Try.func26, Try.ntmps26
      go_wp2_with fail
      go_quiet ((go_at_call 24; exact Calls.quiet_of_same (ref_rounds b n f s v r q _ ⟨hK.h⟩ hf.1 hf.2)))
      go_wp2_with fail
      go_quiet (fail)
      go_wp2_with fail
      go_ret
      refine ⟨rfl, ?_, ?_⟩
      · repeat first | exact hK | apply RN.set4 | apply RN.drewN | apply RN.set3
      · repeat first | exact Chg.refl _ _ | apply Chg.drewN | refine Chg.setCell ?_ (by simp) _
    · by_cases hz1 : z = 1
      · have hvv := HVV.out
        rw [if_neg (by rintro ⟨hx, _⟩; exact hx HV2.out)] at hvv
        subst hz1
        simp at hvv
        subst hvv
        go_enter Try.func26, Try.ntmps26
        go_wp2_with fail
        go_quiet ((go_at_call 24; exact Calls.quiet_of_same (ref_rounds b n f s v r q _ ⟨hK.h⟩ hf.1 hf.2)))
        go_wp2_with fail
        go_quiet (fail)
        go_wp2_with fail
        go_ret
        refine ⟨rfl, ?_, ?_⟩
        · repeat first | exact hK | apply RN.set4 | apply RN.drewN | apply RN.set3
        · repeat first | exact Chg.refl _ _ | apply Chg.drewN | refine Chg.setCell ?_ (by simp) _
      · have hvv := HVV.out
        rw [if_neg (by rintro ⟨hx, _⟩; exact hx HV2.out)] at hvv
        simp [hz0] at hvv
        subst hvv
        have y0 : (z != 0) = true := by simpa using hz0
        have y1 : (z != 1) = true := by simpa using hz1
        go_enter Try.func26, Try.ntmps26
        go_wp2_with fail
        go_quiet ((go_at_call 24; exact Calls.quiet_of_same (ref_rounds b n f s v r q _ ⟨hK.h⟩ hf.1 hf.2)))
        go_wp2_with fail
        go_quiet (fail)
        go_wp2_with fail
        go_ret
        refine ⟨rfl, ?_, ?_⟩
        · repeat first | exact hK | apply RN.set4 | apply RN.drewN | apply RN.set3
        · repeat first | exact Chg.refl _ _ | apply Chg.drewN | refine Chg.setCell ?_ (by simp) _
  · have e2 : (v == 2) = false := by simpa using hv2
    by_cases hqq : n - f ≤ q
    · have hd : decide (q < n - f) = false := decide_eq_false (by omega)
      have hvv := HVV.out
      rw [if_pos ⟨hv2, hqq⟩] at hvv
      have hv9 := hvv.symm
      clear hvv
      subst hv9
      go_enter Try.func26, Try.ntmps26
      go_wp2_with fail
      go_quiet ((go_at_call 24; exact Calls.quiet_of_same (ref_rounds b n f s v r q _ ⟨hK.h⟩ hf.1 hf.2)))
      go_wp2_with fail
      go_quiet (fail)
      go_wp2_with fail
      go_ret
      refine ⟨rfl, ?_, ?_⟩
      · repeat first | exact hK | apply RN.set4 | apply RN.drewN | apply RN.set3
      · repeat first | exact Chg.refl _ _ | apply Chg.drewN | refine Chg.setCell ?_ (by simp) _
    · have hd : decide (q < n - f) = true := decide_eq_true (by omega)
      have HQQ := Lib.hid (show ¬ (v ≠ 2 ∧ n - f ≤ q) from fun hx => hqq hx.2)
      by_cases hz0 : z = 0
      · have hvv := HVV.out
        rw [if_neg (fun hx => hqq hx.2)] at hvv
        subst hz0
        simp at hvv
        subst hvv
        go_enter Try.func26, Try.ntmps26
        go_wp2_with fail
        go_quiet ((go_at_call 24; exact Calls.quiet_of_same (ref_rounds b n f s v r q _ ⟨hK.h⟩ hf.1 hf.2)))
        go_wp2_with fail
        go_quiet (fail)
        go_wp2_with fail
        go_ret
        refine ⟨rfl, ?_, ?_⟩
        · repeat first | exact hK | apply RN.set4 | apply RN.drewN | apply RN.set3
        · repeat first | exact Chg.refl _ _ | apply Chg.drewN | refine Chg.setCell ?_ (by simp) _
      · by_cases hz1 : z = 1
        · have hvv := HVV.out
          rw [if_neg (fun hx => hqq hx.2)] at hvv
          subst hz1
          simp at hvv
          subst hvv
          go_enter Try.func26, Try.ntmps26
          go_wp2_with fail
          go_quiet ((go_at_call 24; exact Calls.quiet_of_same (ref_rounds b n f s v r q _ ⟨hK.h⟩ hf.1 hf.2)))
          go_wp2_with fail
          go_quiet (fail)
          go_wp2_with fail
          go_ret
          refine ⟨rfl, ?_, ?_⟩
          · repeat first | exact hK | apply RN.set4 | apply RN.drewN | apply RN.set3
          · repeat first | exact Chg.refl _ _ | apply Chg.drewN | refine Chg.setCell ?_ (by simp) _
        · have hvv := HVV.out
          rw [if_neg (fun hx => hqq hx.2)] at hvv
          simp [hz0] at hvv
          subst hvv
          have y0 : (z != 0) = true := by simpa using hz0
          have y1 : (z != 1) = true := by simpa using hz1
          go_enter Try.func26, Try.ntmps26
          go_wp2_with fail
          go_quiet ((go_at_call 24; exact Calls.quiet_of_same (ref_rounds b n f s v r q _ ⟨hK.h⟩ hf.1 hf.2)))
          go_wp2_with fail
          go_quiet (fail)
          go_wp2_with fail
          go_ret
          refine ⟨rfl, ?_, ?_⟩
          · repeat first | exact hK | apply RN.set4 | apply RN.drewN | apply RN.set3
          · repeat first | exact Chg.refl _ _ | apply Chg.drewN | refine Chg.setCell ?_ (by simp) _


/-- The document's answer goes through a round as the node does. -/
theorem ref_hear_ok (b : Nat) (n f s v r q : Int) (a : Option Addr) (len cap : Nat) (zs : List Int) (w : World) (hK : RN w b n f s v r q) (hf : 0 ≤ f ∧ f ≤ 100) (hr : r ≠ 3 * (f + 1))
    (hv : v = 0 ∨ v = 1 ∨ v = 2) (hq : 0 ≤ q ∧ q ≤ 100) (bk : Bool) (hbk : bk = decide (n - f ≤ q))
    (hr0 : 0 ≤ r) (hr3 : r < 3 * (f + 1)) (hfn : f < n) (hn : n ≤ 100) (hz : zs.length = len) (hl : (len : Int) = n) (hc : ReadsI w a zs) (hcb : ∀ c o, a = some ⟨c, o, none⟩ → c ≠ b) :
    Calls Try.prog 26 #[.pointer (some ⟨b, 0, none⟩), .slice a len cap] w fun e w' => e = .returned (.int .i64 0) ∧
      ∃ q', RN w' b n f s (hearV n f v r bk zs).1 (r + 1) q' ∧ (hearV n f v r bk zs).2 = decide (n - f ≤ q') ∧ (0 ≤ q' ∧ q' ≤ 100) ∧ Chg [b] w w' := by
  have hcases : r % 3 = 0 ∨ r % 3 = 1 ∨ r % 3 = 2 := by omega
  rcases hcases with h0 | h0 | h0
  · refine (ref_hear_0 b n f s v r q a len cap zs w hK hf hr hr0 hr3 hfn hn hz hl hc hcb h0).mono ?_
    rintro e w' ⟨h1, h2, h3⟩
    refine ⟨h1, q, ?_, ?_, hq, h3⟩
    · simp only [hearV, h0, if_true]; exact h2
    · simp only [hearV, h0, if_true]; exact hbk
  · refine (ref_hear_1 b n f s v r q a len cap zs w hK hf hr hv hr0 hr3 hfn hn hz hl hc hcb h0).mono ?_
    rintro e w' ⟨h1, h2, h3⟩
    have hb := cc_bd zs (seV v f zs)
    refine ⟨h1, _, ?_, ?_, ⟨hb.1, by omega⟩, h3⟩
    · simp only [hearV]; rw [if_neg (by omega), if_pos h0]; exact h2
    · simp only [hearV]; rw [if_neg (by omega), if_pos h0]
  · refine (ref_hear_2 b n f s v r q a len cap zs w hK hf hr hq hr0 hr3 hfn hn hz hl hc hcb h0).mono ?_
    rintro e w' ⟨h1, h2, h3⟩
    refine ⟨h1, q, ?_, ?_, hq, h3⟩
    · simp only [hearV]; rw [if_neg (by omega), if_neg (by omega), hbk]; exact h2
    · simp only [hearV]; rw [if_neg (by omega), if_neg (by omega)]; exact hbk

set_option maxHeartbeats 1000000 in
theorem ref_new_ok (n f s v : Int) (w : World) (hk : okNew n f s v) :
    Calls Try.prog 19 #[.int .i64 n, .int .i64 f, .int .i64 s, .int .i64 v] w fun e w' => e = .returned (.tuple #[.pointer (some ⟨w.heap.size, 0, none⟩), .int .i64 0]) ∧
      w' = w.alloc (refObj n f s v 0 0) := by
  obtain ⟨h1, h2, h3, h4, h5, h6, h7⟩ := hk
  rcases h7 with rfl | rfl
  all_goals
    go_enter Try.func19, Try.ntmps19
    go_wp2_with fail
    refine (ref_table_yes n f _ (by unfold Tb; omega)).mono ?_
    rintro e w2 ⟨rfl, hw2⟩
    obtain rfl := hw2.symm
    clear hw2
    go_wp2
    go_ret2
    exact ⟨rfl, rfl⟩

set_option maxHeartbeats 1000000 in
theorem ref_new_no (n f s v : Int) (w : World) (hk : ¬ okNew n f s v) :
    Calls Try.prog 19 #[.int .i64 n, .int .i64 f, .int .i64 s, .int .i64 v] w fun e w' => e = .returned (.tuple #[.pointer none, .int .i64 1]) ∧ w' = w := by
  unfold okNew at hk
  by_cases hT : Tb n f
  · have hTT := hT
    unfold Tb at hTT
    by_cases h1 : 1 ≤ s
    · by_cases h2 : s ≤ n
      · by_cases h3 : v < 0
        · have HK := Lib.hid hk; clear hk
          go_enter Try.func19, Try.ntmps19
          go_wp2_with fail
          refine (ref_table_yes n f _ hT).mono ?_
          rintro e w2 ⟨rfl, hw2⟩
          obtain rfl := hw2.symm
          clear hw2
          go_wp2
          go_ret2
          exact ⟨rfl, rfl⟩
        · have h4 : 1 < v := by omega
          have HK := Lib.hid hk; clear hk
          go_enter Try.func19, Try.ntmps19
          go_wp2_with fail
          refine (ref_table_yes n f _ hT).mono ?_
          rintro e w2 ⟨rfl, hw2⟩
          obtain rfl := hw2.symm
          clear hw2
          go_wp2
          go_ret2
          exact ⟨rfl, rfl⟩
      · have HK := Lib.hid hk; clear hk
        go_enter Try.func19, Try.ntmps19
        go_wp2_with fail
        refine (ref_table_yes n f _ hT).mono ?_
        rintro e w2 ⟨rfl, hw2⟩
        obtain rfl := hw2.symm
        clear hw2
        go_wp2
        go_ret2
        exact ⟨rfl, rfl⟩
    · have HK := Lib.hid hk; clear hk
      go_enter Try.func19, Try.ntmps19
      go_wp2_with fail
      refine (ref_table_yes n f _ hT).mono ?_
      rintro e w2 ⟨rfl, hw2⟩
      obtain rfl := hw2.symm
      clear hw2
      go_wp2
      go_ret2
      exact ⟨rfl, rfl⟩
  · have HK := Lib.hid hk; clear hk
    go_enter Try.func19, Try.ntmps19
    go_wp2_with fail
    refine (ref_table_no n f _ hT).mono ?_
    rintro e w2 ⟨rfl, hw2⟩
    obtain rfl := hw2.symm
    clear hw2
    go_wp2
    go_ret2
    exact ⟨rfl, rfl⟩

set_option maxHeartbeats 2000000 in
theorem king_new_no (n f s v : Int) (w : World) (hk : ¬ okNew n f s v) :
    Calls Try.prog 18 #[.int .i64 n, .int .i64 f, .int .i64 s, .int .i64 v] w fun e w' => e = .returned (.tuple #[.pointer none, .int .i64 1]) ∧ w' = w := by
  unfold okNew at hk
  have go : (n < 1 ∨ 10 < n) ∨ (1 ≤ n ∧ n ≤ 10 ∧ (f < 0 ∨ n < f)) ∨ (1 ≤ n ∧ n ≤ 10 ∧ 0 ≤ f ∧ f ≤ n ∧ n ≤ 3 * f) ∨ (1 ≤ n ∧ n ≤ 10 ∧ 0 ≤ f ∧ f ≤ n ∧ 3 * f < n ∧ (s < 1 ∨ n < s)) ∨
      (1 ≤ n ∧ n ≤ 10 ∧ 0 ≤ f ∧ f ≤ n ∧ 3 * f < n ∧ 1 ≤ s ∧ s ≤ n ∧ v ≠ 0 ∧ v ≠ 1) := by omega
  clear hk
  rcases go with (h1 | h1) | ⟨h1, h2, h3 | h3⟩ | ⟨h1, h2, h3, h4, h5⟩ | ⟨h1, h2, h3, h4, h5, h6 | h6⟩ | ⟨h1, h2, h3, h4, h5, h6, h7, h8, h9⟩
  case inr.inr.inr.inr =>
    have e8 : (v != 0) = true := by simpa using h8
    have e9 : (v != 1) = true := by simpa using h9
    go_enter Try.func18, Try.ntmps18
    go_wp2
    go_ret2
    exact ⟨rfl, rfl⟩
  all_goals
    go_enter Try.func18, Try.ntmps18
    go_wp2
    go_ret2
    exact ⟨rfl, rfl⟩

end Go.Proofs.Ytgiackgdceanhaa
