/- The choice of a line: the walk of the document's choice. Printed by rchoice.py. -/
import Derived.Test.YtkcfbacapaonaaaDoorWrP
import Derived.Test.YtkcfbacapaonaaaDoorWrQ
namespace Go.Proofs.YtkcfbacapaonaaaDoor
set_option linter.unusedVariables false
set_option linter.unusedSimpArgs false
open Go.RowKit Go.Lib

theorem choice_kind {t : List UInt8} {k : Int} (h : 1 ≤ k ∧ k ≤ 10) (hw : wordL k = (parts 32 t).headD []) : choiceS t = strictC (Ch.of k) (namesL k) (parts 32 t).tail := by
  have := (word_kind h).1 hw
  unfold choiceS
  rw [this, if_neg (by omega)]
theorem strict_len {y : Ch} : ∀ {cs : List UInt8} {ws : List (List UInt8)}, ws.length ≠ cs.length → strictC y cs ws = none := by
  intro cs ws h
  cases e : strictC y cs ws with
  | none => rfl
  | some x => exact absurd (strict_fill e).2 h

set_option maxRecDepth 100000 in
set_option maxHeartbeats 16000000 in
theorem ref_choice (s : ByteArray) (hs : s.size ≤ 1000000) (w : World) (hg : GW w) : Calls Tryd.prog 29 #[.string s] w fun e w' => ChOut (choiceS s.data.toList) e ∧ Chg [] w w' := by
  have hsz : s.data.toList.length = s.size := rfl
  obtain ⟨ws, hws⟩ : ∃ l, parts 32 s.data.toList = l := ⟨_, rfl⟩
  have hne : ws ≠ [] := by rw [← hws]; exact parts_ne _ _
  obtain ⟨v0, vs, hvs⟩ : ∃ v vs, ws = v :: vs := by
    cases ws with
    | nil => exact absurd rfl hne
    | cons v vs => exact ⟨v, vs, rfl⟩
  have hlen : ∀ p ∈ ws, p.length ≤ 1000000 := fun p hp => by
    have := parts_len (c := 32) (s := s.data.toList) (p := p) (by rw [hws]; exact hp)
    omega
  have hwl : ws.length ≤ 1000001 := by
    have := parts_count (c := 32) s.data.toList
    rw [hws, hsz] at this
    omega
  obtain ⟨b, hb⟩ : ∃ b, w.heap.size = b := ⟨_, rfl⟩
  obtain ⟨W1, hW1⟩ : ∃ W1, w.alloc (.cells #[.int .i64 0, .int .i64 0, .int .i64 0, .int .i64 0, .int .i64 0, .string ⟨#[]⟩] 61) = W1 := ⟨_, rfl⟩
  have hX : CB W1 b Ch.zero := by rw [← hW1, ← hb]; exact has_alloc_new _ _
  have hC1 : Chg [] w W1 := by rw [← hW1]; exact (Chg.refl _ _).alloc _
  have c1 := ref_split s 32 hs W1
  rw [hws] at c1
  have HX := Lib.hid hX; have HC1 := Lib.hid hC1; have HG := Lib.hid (hg.chg hC1); have HW1 := Lib.hid hW1; have Hb := Lib.hid hb; have C1 := Lib.hid c1
  have HWS := Lib.hid hws; have HVS := Lib.hid hvs; have HLen := Lib.hid hlen; have HSZ := Lib.hid hsz
  have hwl0 : 0 < ws.length := by rw [hvs]; simp
  clear hX hC1 hg hW1 hb c1 hws hvs hlen hsz hne
  go_enter Tryd.func29, Tryd.ntmps29
  go_upto_region 1 with fail
  try rw [show (w.alloc (.cells #[.int .i64 0, .int .i64 0, .int .i64 0, .int .i64 0, .int .i64 0, .string ByteArray.empty] 61)) = W1 from HW1.out]
  try rw [HW1.out]
  try rw [Hb.out]
  go_wp2_with fail
  refine C1.out.mono ?_
  rintro e w1 ⟨⟨bw, wcap, rfl, hRS⟩, hC⟩
  have HRS := Lib.hid hRS; have HC := Lib.hid hC; have HX1 := Lib.hid (HX.out.chg hC); have HG1 := Lib.hid (HG.out.chg hC)
  clear hRS hC
  go_wp2_with fail
  go_loopg [5, 6, 7, 8, 9, 10, 11, 12] 10 (fun g i _ _ _ _ _ _ _ wr => ∃ k : Nat, g + k = 11 ∧ 1 ≤ k ∧ i = .int .i64 k ∧ (∀ j : Int, 1 ≤ j → j < k → wordL j ≠ v0) ∧ Chg [] w1 wr)
  case atStart => exact ⟨1, rfl, Nat.le_refl _, rfl, fun j h1 h2 => by omega, Chg.refl _ _⟩
  case round =>
    obtain ⟨k, hk, hk1, rfl, hno, hCr⟩ := hrel
    by_cases hlt : k ≤ 10
    · obtain ⟨wk, hwk⟩ : ∃ l, wordL (k : Int) = l := ⟨_, rfl⟩
      have c2 := fun w => ref_word (k : Int) w
      rw [hwk] at c2
      have q0 : w1.cell? ⟨bw, 0, none⟩ = some (.string ⟨v0.toArray⟩) := HRS.out.2 0 v0 (by rw [HVS.out]; rfl)
      have HNo := Lib.hid hno; have HK := Lib.hid hk; have Hwk := Lib.hid hwk; have HCr := Lib.hid hCr
      clear hno hk hwk hCr
      go_upto_region 5 with fail
      refine abs_region (B := Chg [] w1) (S := Chg [] w1) (by kernel_rfl) (HCr.out.drew) ?_
      have hG := good_chg [] w1
      refine Abs.tk (i := 0) (d := some 19) (v := ?_) rfl rfl hG ⟨by rfl, fun w9 hw9 => Or.inl ?_⟩ ?_
      rotate_left
      · go_simp
        try with_reducible rfl
      simp only [Act.put, stA, stB, stC]
      refine Abs.tk (i := 1) (d := some 20) (v := ?_) rfl rfl hG ⟨by rfl, fun w9 hw9 => Or.inl ?_⟩ ?_
      rotate_left
      · go_simp
        try with_reducible rfl
      simp only [Act.put, stA, stB, stC]
      refine Abs.tk (i := 2) (d := some 21) (v := ?_) rfl rfl hG ⟨by rfl, fun w9 hw9 => Or.inl ?_⟩ ?_
      rotate_left
      · replace q0 := hw9.cell q0 nmN
        go_simp
        try with_reducible rfl
      simp only [Act.put, stA, stB, stC]
      refine Abs.tk (i := 3) (d := some 22) (v := ?_) rfl rfl hG ⟨by rfl, fun w9 hw9 => Or.inl ?_⟩ ?_
      rotate_left
      · go_simp
        try with_reducible rfl
      simp only [Act.put, stA, stB, stC]
      refine Abs.tk (i := 4) (d := some 23) (v := _) rfl rfl hG ⟨by rfl, fun w9 hw9 => Or.inr ⟨_, _, ?_, c2 w9⟩⟩ ?_
      · go_simp
        try with_reducible rfl
      simp only [Act.put, stA, stB, stC]
      refine Abs.tk (i := 5) (d := some 24) (v := ?_) rfl rfl hG ⟨by rfl, fun w9 hw9 => Or.inl ?_⟩ ?_
      rotate_left
      · go_simp
        try with_reducible rfl
      simp only [Act.put, stA, stB, stC]
      refine Abs.done (by kernel_rfl) (fun wz hx => NoPanic.normal ?_) _
      have HZ := Lib.hid hx
      clear hx hG q0 c2
      by_cases hw : v0 = wk
      · have f1 : (v0 != wk) = false := by simpa using hw
        have f1b : (v0 == wk) = true := by simpa using hw
        have f1c : (!v0 == wk) = false := by rw [f1b]; rfl
        rw [f1c]
        have HW := Lib.hid hw
        have hk9 : (1 : Int) ≤ k ∧ (k : Int) ≤ 10 := by omega
        have hck : choiceS s.data.toList = strictC (Ch.of k) (namesL (k : Int)) vs := by
          have h := choice_kind (t := s.data.toList) hk9 (by rw [HWS.out, HVS.out, Hwk.out, hw]; rfl)
          rw [HWS.out, HVS.out] at h
          exact h
        clear hw
        obtain ⟨ns, hns⟩ : ∃ l, namesL (k : Int) = l := ⟨_, rfl⟩
        obtain ⟨nb, hnb⟩ : ∃ nb : ByteArray, ⟨ns.toArray⟩ = nb := ⟨_, rfl⟩
        have c3 := fun w => ref_names hk9 w
        rw [hns, hnb] at c3
        have hns9 : nb.size = ns.length := by rw [← hnb]; rfl
        have hnl : nb.data.toList = ns := by rw [← hnb]
        have hns3 : nb.size ≤ 3 := by rw [hns9, ← hns]; exact namesL_len _
        rw [hns] at hck
        have C3 := Lib.hid c3; have HCK := Lib.hid hck; have Hns := Lib.hid hns; have Hnsz := Lib.hid hns9; have Hnl := Lib.hid hnl
        clear c3 hck hns hnb hns9 hnl
        go_wp2_with fail
        refine (C3.out _).mono ?_
        rintro e w3 ⟨rfl, hC3⟩
        have HC3 := Lib.hid (HZ.out.trans hC3)
        clear hC3
        by_cases hln : ws.length = 1 + nb.size
        · have f2 : ((ws.length : Int) != 1 + (nb.size : Int)) = false := by rw [bne_eq_false_iff_eq]; omega
          have HLn := Lib.hid hln
          clear hln
          obtain ⟨bX, hbX⟩ : ∃ b, w3.heap.size = b := ⟨_, rfl⟩
          obtain ⟨W2, hW2⟩ : ∃ W2, w3.alloc (.cells #[.int .i64 (k : Int), .int .i64 0, .int .i64 0, .int .i64 0, .int .i64 0, .string ⟨#[]⟩] 61) = W2 := ⟨_, rfl⟩
          have hY : CB W2 bX (Ch.of k) := by rw [← hW2, ← hbX]; exact has_alloc_new _ _
          have hC2 : Chg [] w3 W2 := by rw [← hW2]; exact (Chg.refl _ _).alloc _
          have hle : w3.heap.size ≤ bX := Nat.le_of_eq hbX
          have HW2 := Lib.hid hW2; have HbX := Lib.hid hbX
          have HY := Lib.hid hY; have HC2 := Lib.hid hC2; have HLe := Lib.hid hle
          clear hY hC2 hW2 hbX hle
          go_upto_region 10 with fail
          try rw [show w3.alloc (.cells #[.int .i64 (k : Int), .int .i64 0, .int .i64 0, .int .i64 0, .int .i64 0, .string ByteArray.empty] 61) = W2 from HW2.out]
          try rw [HW2.out]
          try rw [HbX.out]
          go_wp2_with fail
          go_loopg [8, 9, 10, 11, 12] nb.size (fun g i _ _ _ _ wr => ∃ (j : Nat) (y : Ch), g + j = nb.size ∧ i = .int .i64 j ∧ CB wr bX y ∧ strictC (Ch.of k) ns vs = strictC y (ns.drop j) (vs.drop j) ∧ Chg [] w3 wr)
          case atStart => exact ⟨0, _, rfl, rfl, HY.out, rfl, HC2.out⟩
          case round =>
            obtain ⟨j, y, hj, rfl, hCB, hst, hC4⟩ := hrel
            by_cases hltj : j < nb.size
            · obtain ⟨c, hc⟩ : ∃ c, nb[j] = c := ⟨_, rfl⟩
              have hnj : j < ns.length := by rw [← Hnsz.out]; exact hltj
              have hcn : ns[j] = c := by rw [← hc]; have := Hnl.out; subst this; rfl
              have hvl' : vs.length = nb.size := by have := HLn.out; rw [HVS.out, List.length_cons] at this; omega
              obtain ⟨v, hv⟩ : ∃ v, vs[j] = v := ⟨_, rfl⟩
              have hcs := namesL_set (k := (k : Int)) (c := c) (by rw [Hns.out, ← hcn]; exact List.getElem_mem hnj)
              have hvl : v.length ≤ 1000000 := HLen.out v (by rw [HVS.out, ← hv]; exact List.mem_cons_of_mem _ (List.getElem_mem _))
              have hst2 : strictC (Ch.of k) ns vs = strictC y (c :: ns.drop (j + 1)) (v :: vs.drop (j + 1)) := by
                rw [hst, List.drop_eq_getElem_cons hnj, hcn, List.drop_eq_getElem_cons (by omega : j < vs.length), hv]
              have q1 : w1.cell? ⟨bw, 1 + j, none⟩ = some (.string ⟨v.toArray⟩) := by
                have h := HRS.out.2 (j + 1) v (by rw [HVS.out, List.getElem?_cons_succ, List.getElem?_eq_getElem (by omega), hv])
                rw [Nat.zero_add, Nat.add_comm j 1] at h
                exact h
              have q := (HC3.out.trans hC4).cell q1 nmN
              have hwj : 1 + j < ws.length := by have := HLn.out; omega
              have HCB := Lib.hid hCB; have HC4 := Lib.hid hC4; have HJ := Lib.hid hj; have HSt := Lib.hid hst2
              have HG4 := Lib.hid (HG1.out.chg (HC3.out.trans hC4))
              clear hCB hC4 hj hcn hst hst2 hv hvl' q1
              have g1 : 0 ≤ 1 + (j : Int) := by omega
              have g2 : 1 + (j : Int) < ws.length := by omega
              have g3 : (1 + (j : Int)).toNat = 1 + j := by omega
              rcases hcs with rfl | rfl | rfl | rfl | rfl
              · have c5 := ref_number ⟨v.toArray⟩ hvl
                have HVL := Lib.hid hvl
                rw [show (⟨v.toArray⟩ : ByteArray).data.toList = v from rfl] at c5
                cases hnv : numS v with
                | none =>
                    rw [hnv] at c5
                    have HN := Lib.hid (show choiceS s.data.toList = none by rw [HCK.out, HSt.out, strictC, if_neg (by decide), hnv]; rfl)
                    clear hnv
                    have C5 := Lib.hid c5
                    clear c5
                    go_wp2_with fail
                    refine (C5.out _ HG4.out).mono ?_
                    rintro e w5 ⟨⟨n5, rfl⟩, hC5⟩
                    have HC5 := Lib.hid ((HC3.out.trans HC4.out).trans hC5)
                    clear hC5 q
                    have HX5 := Lib.hid (HX1.out.chg (HC5.out))
                    obtain ⟨x0, x1, x2, x3, x4, x5⟩ := HX5.out.all
                    have z0 := HX5.out.fz 0; have z1 := HX5.out.fz 1; have z2 := HX5.out.fz 2; have z3 := HX5.out.fz 3; have z4 := HX5.out.fz 4; have z5 := HX5.out.fz 5
                    go_wp2_with fail
                    obtain ⟨W6, hW6⟩ : ∃ W6, (((((w5.setCell ⟨b, 0, none⟩ (.int .i64 0)).setCell ⟨b, 1, none⟩ (.int .i64 0)).setCell ⟨b, 2, none⟩ (.int .i64 0)).setCell ⟨b, 3, none⟩ (.int .i64 0)).setCell ⟨b, 4, none⟩ (.int .i64 0)).setCell ⟨b, 5, none⟩ (.string ⟨#[]⟩) = W6 := ⟨_, rfl⟩
                    have hB6 : CB W6 b Ch.zero := by rw [← hW6]; exact put6_has HX5.out Ch.zero
                    have HCF := Lib.hid (show Chg [] w W6 by rw [← hW6]; exact ((HC1.out.trans HC.out).trans (HC5.out)).put6 (Or.inr (Nat.le_of_eq Hb.out)) Ch.zero)
                    obtain ⟨g0, g1, g2, g3, g4, g5⟩ : W6.cell? ⟨b, 0, none⟩ = some (.int .i64 0) ∧ W6.cell? ⟨b, 1, none⟩ = some (.int .i64 0) ∧ W6.cell? ⟨b, 2, none⟩ = some (.int .i64 0) ∧ W6.cell? ⟨b, 3, none⟩ = some (.int .i64 0) ∧ W6.cell? ⟨b, 4, none⟩ = some (.int .i64 0) ∧ W6.cell? ⟨b, 5, none⟩ = some (.string ⟨#[]⟩) := hB6.all
                    rw [hW6]
                    clear hW6 hB6
                    exact bodyPost_ret (v := .tuple #[.agg (cv Ch.zero), .bool false]) (by simp [results, Tryd.results29, go_sem, cv, Ch.zero, g0, g1, g2, g3, g4, g5]) rfl ⟨by rw [HN.out]; exact ⟨Ch.zero, rfl⟩, HCF.out⟩
                | some m5 =>
                    rw [hnv] at c5
                    have HS5 := Lib.hid (show strictC (Ch.of k) ns vs = strictC (setI y 110 m5) (ns.drop (j + 1)) (vs.drop (j + 1)) by rw [HSt.out, strictC, if_neg (by decide), hnv]; rfl)
                    clear hnv
                    have C5 := Lib.hid c5
                    clear c5
                    go_wp2_with fail
                    refine (C5.out _ HG4.out).mono ?_
                    rintro e w5 ⟨rfl, hC5⟩
                    have HCB5 := Lib.hid (HCB.out.chg hC5); have HC5 := Lib.hid (HC4.out.trans hC5)
                    clear hC5 q
                    obtain ⟨y0, y1, y2, y3, y4, y5⟩ := HCB5.out.all
                    have zz := HCB5.out.fz 1
                    have hs5 := has_set HCB5.out 1 (.int .i64 m5)
                    obtain ⟨W5, hW5⟩ : ∃ W5, w5.setCell ⟨bX, 1, none⟩ (.int .i64 m5) = W5 := ⟨_, rfl⟩
                    rw [hW5] at hs5
                    have hC6 : Chg [] w3 W5 := by rw [← hW5]; exact HC5.out.setCell (Or.inr HLe.out) _
                    have HW5 := Lib.hid hW5; have HCB6 := Lib.hid hs5; have HC6 := Lib.hid hC6
                    clear hW5 hs5 hC6
                    go_wp2_with fail
                    try rw [HW5.out]
                    go_roundg (nb.size - (j + 1))
                    case measure => have := HJ.out; omega
                    case rel => exact ⟨j + 1, _, by have := HJ.out; omega, by go_num, CB.chg (x := setI y 110 m5) HCB6.out (Chg.refl _ _), HS5.out, HC6.out⟩
              · have c5 := ref_number ⟨v.toArray⟩ hvl
                have HVL := Lib.hid hvl
                rw [show (⟨v.toArray⟩ : ByteArray).data.toList = v from rfl] at c5
                cases hnv : numS v with
                | none =>
                    rw [hnv] at c5
                    have HN := Lib.hid (show choiceS s.data.toList = none by rw [HCK.out, HSt.out, strictC, if_neg (by decide), hnv]; rfl)
                    clear hnv
                    have C5 := Lib.hid c5
                    clear c5
                    go_wp2_with fail
                    refine (C5.out _ HG4.out).mono ?_
                    rintro e w5 ⟨⟨n5, rfl⟩, hC5⟩
                    have HC5 := Lib.hid ((HC3.out.trans HC4.out).trans hC5)
                    clear hC5 q
                    have HX5 := Lib.hid (HX1.out.chg (HC5.out))
                    obtain ⟨x0, x1, x2, x3, x4, x5⟩ := HX5.out.all
                    have z0 := HX5.out.fz 0; have z1 := HX5.out.fz 1; have z2 := HX5.out.fz 2; have z3 := HX5.out.fz 3; have z4 := HX5.out.fz 4; have z5 := HX5.out.fz 5
                    go_wp2_with fail
                    obtain ⟨W6, hW6⟩ : ∃ W6, (((((w5.setCell ⟨b, 0, none⟩ (.int .i64 0)).setCell ⟨b, 1, none⟩ (.int .i64 0)).setCell ⟨b, 2, none⟩ (.int .i64 0)).setCell ⟨b, 3, none⟩ (.int .i64 0)).setCell ⟨b, 4, none⟩ (.int .i64 0)).setCell ⟨b, 5, none⟩ (.string ⟨#[]⟩) = W6 := ⟨_, rfl⟩
                    have hB6 : CB W6 b Ch.zero := by rw [← hW6]; exact put6_has HX5.out Ch.zero
                    have HCF := Lib.hid (show Chg [] w W6 by rw [← hW6]; exact ((HC1.out.trans HC.out).trans (HC5.out)).put6 (Or.inr (Nat.le_of_eq Hb.out)) Ch.zero)
                    obtain ⟨g0, g1, g2, g3, g4, g5⟩ : W6.cell? ⟨b, 0, none⟩ = some (.int .i64 0) ∧ W6.cell? ⟨b, 1, none⟩ = some (.int .i64 0) ∧ W6.cell? ⟨b, 2, none⟩ = some (.int .i64 0) ∧ W6.cell? ⟨b, 3, none⟩ = some (.int .i64 0) ∧ W6.cell? ⟨b, 4, none⟩ = some (.int .i64 0) ∧ W6.cell? ⟨b, 5, none⟩ = some (.string ⟨#[]⟩) := hB6.all
                    rw [hW6]
                    clear hW6 hB6
                    exact bodyPost_ret (v := .tuple #[.agg (cv Ch.zero), .bool false]) (by simp [results, Tryd.results29, go_sem, cv, Ch.zero, g0, g1, g2, g3, g4, g5]) rfl ⟨by rw [HN.out]; exact ⟨Ch.zero, rfl⟩, HCF.out⟩
                | some m5 =>
                    rw [hnv] at c5
                    have HS5 := Lib.hid (show strictC (Ch.of k) ns vs = strictC (setI y 107 m5) (ns.drop (j + 1)) (vs.drop (j + 1)) by rw [HSt.out, strictC, if_neg (by decide), hnv]; rfl)
                    clear hnv
                    have C5 := Lib.hid c5
                    clear c5
                    go_wp2_with fail
                    refine (C5.out _ HG4.out).mono ?_
                    rintro e w5 ⟨rfl, hC5⟩
                    have HCB5 := Lib.hid (HCB.out.chg hC5); have HC5 := Lib.hid (HC4.out.trans hC5)
                    clear hC5 q
                    obtain ⟨y0, y1, y2, y3, y4, y5⟩ := HCB5.out.all
                    have zz := HCB5.out.fz 2
                    have hs5 := has_set HCB5.out 2 (.int .i64 m5)
                    obtain ⟨W5, hW5⟩ : ∃ W5, w5.setCell ⟨bX, 2, none⟩ (.int .i64 m5) = W5 := ⟨_, rfl⟩
                    rw [hW5] at hs5
                    have hC6 : Chg [] w3 W5 := by rw [← hW5]; exact HC5.out.setCell (Or.inr HLe.out) _
                    have HW5 := Lib.hid hW5; have HCB6 := Lib.hid hs5; have HC6 := Lib.hid hC6
                    clear hW5 hs5 hC6
                    go_wp2_with fail
                    try rw [HW5.out]
                    go_roundg (nb.size - (j + 1))
                    case measure => have := HJ.out; omega
                    case rel => exact ⟨j + 1, _, by have := HJ.out; omega, by go_num, CB.chg (x := setI y 107 m5) HCB6.out (Chg.refl _ _), HS5.out, HC6.out⟩
              · have c5 := ref_number ⟨v.toArray⟩ hvl
                have HVL := Lib.hid hvl
                rw [show (⟨v.toArray⟩ : ByteArray).data.toList = v from rfl] at c5
                cases hnv : numS v with
                | none =>
                    rw [hnv] at c5
                    have HN := Lib.hid (show choiceS s.data.toList = none by rw [HCK.out, HSt.out, strictC, if_neg (by decide), hnv]; rfl)
                    clear hnv
                    have C5 := Lib.hid c5
                    clear c5
                    go_wp2_with fail
                    refine (C5.out _ HG4.out).mono ?_
                    rintro e w5 ⟨⟨n5, rfl⟩, hC5⟩
                    have HC5 := Lib.hid ((HC3.out.trans HC4.out).trans hC5)
                    clear hC5 q
                    have HX5 := Lib.hid (HX1.out.chg (HC5.out))
                    obtain ⟨x0, x1, x2, x3, x4, x5⟩ := HX5.out.all
                    have z0 := HX5.out.fz 0; have z1 := HX5.out.fz 1; have z2 := HX5.out.fz 2; have z3 := HX5.out.fz 3; have z4 := HX5.out.fz 4; have z5 := HX5.out.fz 5
                    go_wp2_with fail
                    obtain ⟨W6, hW6⟩ : ∃ W6, (((((w5.setCell ⟨b, 0, none⟩ (.int .i64 0)).setCell ⟨b, 1, none⟩ (.int .i64 0)).setCell ⟨b, 2, none⟩ (.int .i64 0)).setCell ⟨b, 3, none⟩ (.int .i64 0)).setCell ⟨b, 4, none⟩ (.int .i64 0)).setCell ⟨b, 5, none⟩ (.string ⟨#[]⟩) = W6 := ⟨_, rfl⟩
                    have hB6 : CB W6 b Ch.zero := by rw [← hW6]; exact put6_has HX5.out Ch.zero
                    have HCF := Lib.hid (show Chg [] w W6 by rw [← hW6]; exact ((HC1.out.trans HC.out).trans (HC5.out)).put6 (Or.inr (Nat.le_of_eq Hb.out)) Ch.zero)
                    obtain ⟨g0, g1, g2, g3, g4, g5⟩ : W6.cell? ⟨b, 0, none⟩ = some (.int .i64 0) ∧ W6.cell? ⟨b, 1, none⟩ = some (.int .i64 0) ∧ W6.cell? ⟨b, 2, none⟩ = some (.int .i64 0) ∧ W6.cell? ⟨b, 3, none⟩ = some (.int .i64 0) ∧ W6.cell? ⟨b, 4, none⟩ = some (.int .i64 0) ∧ W6.cell? ⟨b, 5, none⟩ = some (.string ⟨#[]⟩) := hB6.all
                    rw [hW6]
                    clear hW6 hB6
                    exact bodyPost_ret (v := .tuple #[.agg (cv Ch.zero), .bool false]) (by simp [results, Tryd.results29, go_sem, cv, Ch.zero, g0, g1, g2, g3, g4, g5]) rfl ⟨by rw [HN.out]; exact ⟨Ch.zero, rfl⟩, HCF.out⟩
                | some m5 =>
                    rw [hnv] at c5
                    have HS5 := Lib.hid (show strictC (Ch.of k) ns vs = strictC (setI y 105 m5) (ns.drop (j + 1)) (vs.drop (j + 1)) by rw [HSt.out, strictC, if_neg (by decide), hnv]; rfl)
                    clear hnv
                    have C5 := Lib.hid c5
                    clear c5
                    go_wp2_with fail
                    refine (C5.out _ HG4.out).mono ?_
                    rintro e w5 ⟨rfl, hC5⟩
                    have HCB5 := Lib.hid (HCB.out.chg hC5); have HC5 := Lib.hid (HC4.out.trans hC5)
                    clear hC5 q
                    obtain ⟨y0, y1, y2, y3, y4, y5⟩ := HCB5.out.all
                    have zz := HCB5.out.fz 3
                    have hs5 := has_set HCB5.out 3 (.int .i64 m5)
                    obtain ⟨W5, hW5⟩ : ∃ W5, w5.setCell ⟨bX, 3, none⟩ (.int .i64 m5) = W5 := ⟨_, rfl⟩
                    rw [hW5] at hs5
                    have hC6 : Chg [] w3 W5 := by rw [← hW5]; exact HC5.out.setCell (Or.inr HLe.out) _
                    have HW5 := Lib.hid hW5; have HCB6 := Lib.hid hs5; have HC6 := Lib.hid hC6
                    clear hW5 hs5 hC6
                    go_wp2_with fail
                    try rw [HW5.out]
                    go_roundg (nb.size - (j + 1))
                    case measure => have := HJ.out; omega
                    case rel => exact ⟨j + 1, _, by have := HJ.out; omega, by go_num, CB.chg (x := setI y 105 m5) HCB6.out (Chg.refl _ _), HS5.out, HC6.out⟩
              · have c5 := ref_number ⟨v.toArray⟩ hvl
                have HVL := Lib.hid hvl
                rw [show (⟨v.toArray⟩ : ByteArray).data.toList = v from rfl] at c5
                cases hnv : numS v with
                | none =>
                    rw [hnv] at c5
                    have HN := Lib.hid (show choiceS s.data.toList = none by rw [HCK.out, HSt.out, strictC, if_neg (by decide), hnv]; rfl)
                    clear hnv
                    have C5 := Lib.hid c5
                    clear c5
                    go_wp2_with fail
                    refine (C5.out _ HG4.out).mono ?_
                    rintro e w5 ⟨⟨n5, rfl⟩, hC5⟩
                    have HC5 := Lib.hid ((HC3.out.trans HC4.out).trans hC5)
                    clear hC5 q
                    have HX5 := Lib.hid (HX1.out.chg (HC5.out))
                    obtain ⟨x0, x1, x2, x3, x4, x5⟩ := HX5.out.all
                    have z0 := HX5.out.fz 0; have z1 := HX5.out.fz 1; have z2 := HX5.out.fz 2; have z3 := HX5.out.fz 3; have z4 := HX5.out.fz 4; have z5 := HX5.out.fz 5
                    go_wp2_with fail
                    obtain ⟨W6, hW6⟩ : ∃ W6, (((((w5.setCell ⟨b, 0, none⟩ (.int .i64 0)).setCell ⟨b, 1, none⟩ (.int .i64 0)).setCell ⟨b, 2, none⟩ (.int .i64 0)).setCell ⟨b, 3, none⟩ (.int .i64 0)).setCell ⟨b, 4, none⟩ (.int .i64 0)).setCell ⟨b, 5, none⟩ (.string ⟨#[]⟩) = W6 := ⟨_, rfl⟩
                    have hB6 : CB W6 b Ch.zero := by rw [← hW6]; exact put6_has HX5.out Ch.zero
                    have HCF := Lib.hid (show Chg [] w W6 by rw [← hW6]; exact ((HC1.out.trans HC.out).trans (HC5.out)).put6 (Or.inr (Nat.le_of_eq Hb.out)) Ch.zero)
                    obtain ⟨g0, g1, g2, g3, g4, g5⟩ : W6.cell? ⟨b, 0, none⟩ = some (.int .i64 0) ∧ W6.cell? ⟨b, 1, none⟩ = some (.int .i64 0) ∧ W6.cell? ⟨b, 2, none⟩ = some (.int .i64 0) ∧ W6.cell? ⟨b, 3, none⟩ = some (.int .i64 0) ∧ W6.cell? ⟨b, 4, none⟩ = some (.int .i64 0) ∧ W6.cell? ⟨b, 5, none⟩ = some (.string ⟨#[]⟩) := hB6.all
                    rw [hW6]
                    clear hW6 hB6
                    exact bodyPost_ret (v := .tuple #[.agg (cv Ch.zero), .bool false]) (by simp [results, Tryd.results29, go_sem, cv, Ch.zero, g0, g1, g2, g3, g4, g5]) rfl ⟨by rw [HN.out]; exact ⟨Ch.zero, rfl⟩, HCF.out⟩
                | some m5 =>
                    rw [hnv] at c5
                    have HS5 := Lib.hid (show strictC (Ch.of k) ns vs = strictC (setI y 109 m5) (ns.drop (j + 1)) (vs.drop (j + 1)) by rw [HSt.out, strictC, if_neg (by decide), hnv]; rfl)
                    clear hnv
                    have C5 := Lib.hid c5
                    clear c5
                    go_wp2_with fail
                    refine (C5.out _ HG4.out).mono ?_
                    rintro e w5 ⟨rfl, hC5⟩
                    have HCB5 := Lib.hid (HCB.out.chg hC5); have HC5 := Lib.hid (HC4.out.trans hC5)
                    clear hC5 q
                    obtain ⟨y0, y1, y2, y3, y4, y5⟩ := HCB5.out.all
                    have zz := HCB5.out.fz 4
                    have hs5 := has_set HCB5.out 4 (.int .i64 m5)
                    obtain ⟨W5, hW5⟩ : ∃ W5, w5.setCell ⟨bX, 4, none⟩ (.int .i64 m5) = W5 := ⟨_, rfl⟩
                    rw [hW5] at hs5
                    have hC6 : Chg [] w3 W5 := by rw [← hW5]; exact HC5.out.setCell (Or.inr HLe.out) _
                    have HW5 := Lib.hid hW5; have HCB6 := Lib.hid hs5; have HC6 := Lib.hid hC6
                    clear hW5 hs5 hC6
                    go_wp2_with fail
                    try rw [HW5.out]
                    go_roundg (nb.size - (j + 1))
                    case measure => have := HJ.out; omega
                    case rel => exact ⟨j + 1, _, by have := HJ.out; omega, by go_num, CB.chg (x := setI y 109 m5) HCB6.out (Chg.refl _ _), HS5.out, HC6.out⟩
              · have c5 := ref_text ⟨v.toArray⟩ hvl
                have HVL := Lib.hid hvl
                rw [show (⟨v.toArray⟩ : ByteArray).data.toList = v from rfl] at c5
                cases hnv : txtS v with
                | none =>
                    rw [hnv] at c5
                    have HN := Lib.hid (show choiceS s.data.toList = none by rw [HCK.out, HSt.out, strictC, if_pos rfl, hnv]; rfl)
                    clear hnv
                    have C5 := Lib.hid c5
                    clear c5
                    go_wp2_with fail
                    refine (C5.out _).mono ?_
                    rintro e w5 ⟨rfl, hC5⟩
                    have HC5 := Lib.hid ((HC3.out.trans HC4.out).trans hC5)
                    clear hC5 q
                    have HX5 := Lib.hid (HX1.out.chg (HC5.out))
                    obtain ⟨x0, x1, x2, x3, x4, x5⟩ := HX5.out.all
                    have z0 := HX5.out.fz 0; have z1 := HX5.out.fz 1; have z2 := HX5.out.fz 2; have z3 := HX5.out.fz 3; have z4 := HX5.out.fz 4; have z5 := HX5.out.fz 5
                    go_wp2_with fail
                    obtain ⟨W6, hW6⟩ : ∃ W6, (((((w5.setCell ⟨b, 0, none⟩ (.int .i64 0)).setCell ⟨b, 1, none⟩ (.int .i64 0)).setCell ⟨b, 2, none⟩ (.int .i64 0)).setCell ⟨b, 3, none⟩ (.int .i64 0)).setCell ⟨b, 4, none⟩ (.int .i64 0)).setCell ⟨b, 5, none⟩ (.string ⟨#[]⟩) = W6 := ⟨_, rfl⟩
                    have hB6 : CB W6 b Ch.zero := by rw [← hW6]; exact put6_has HX5.out Ch.zero
                    have HCF := Lib.hid (show Chg [] w W6 by rw [← hW6]; exact ((HC1.out.trans HC.out).trans (HC5.out)).put6 (Or.inr (Nat.le_of_eq Hb.out)) Ch.zero)
                    obtain ⟨g0, g1, g2, g3, g4, g5⟩ : W6.cell? ⟨b, 0, none⟩ = some (.int .i64 0) ∧ W6.cell? ⟨b, 1, none⟩ = some (.int .i64 0) ∧ W6.cell? ⟨b, 2, none⟩ = some (.int .i64 0) ∧ W6.cell? ⟨b, 3, none⟩ = some (.int .i64 0) ∧ W6.cell? ⟨b, 4, none⟩ = some (.int .i64 0) ∧ W6.cell? ⟨b, 5, none⟩ = some (.string ⟨#[]⟩) := hB6.all
                    rw [hW6]
                    clear hW6 hB6
                    exact bodyPost_ret (v := .tuple #[.agg (cv Ch.zero), .bool false]) (by simp [results, Tryd.results29, go_sem, cv, Ch.zero, g0, g1, g2, g3, g4, g5]) rfl ⟨by rw [HN.out]; exact ⟨Ch.zero, rfl⟩, HCF.out⟩
                | some m5 =>
                    rw [hnv] at c5
                    have HS5 := Lib.hid (show strictC (Ch.of k) ns vs = strictC ({ y with m := m5 }) (ns.drop (j + 1)) (vs.drop (j + 1)) by rw [HSt.out, strictC, if_pos rfl, hnv]; rfl)
                    clear hnv
                    have C5 := Lib.hid c5
                    clear c5
                    go_wp2_with fail
                    refine (C5.out _).mono ?_
                    rintro e w5 ⟨rfl, hC5⟩
                    have HCB5 := Lib.hid (HCB.out.chg hC5); have HC5 := Lib.hid (HC4.out.trans hC5)
                    clear hC5 q
                    obtain ⟨y0, y1, y2, y3, y4, y5⟩ := HCB5.out.all
                    have zz := HCB5.out.fz 5
                    have hs5 := has_set HCB5.out 5 (.string ⟨m5.toArray⟩)
                    obtain ⟨W5, hW5⟩ : ∃ W5, w5.setCell ⟨bX, 5, none⟩ (.string ⟨m5.toArray⟩) = W5 := ⟨_, rfl⟩
                    rw [hW5] at hs5
                    have hC6 : Chg [] w3 W5 := by rw [← hW5]; exact HC5.out.setCell (Or.inr HLe.out) _
                    have HW5 := Lib.hid hW5; have HCB6 := Lib.hid hs5; have HC6 := Lib.hid hC6
                    clear hW5 hs5 hC6
                    go_wp2_with fail
                    try rw [HW5.out]
                    go_roundg (nb.size - (j + 1))
                    case measure => have := HJ.out; omega
                    case rel => exact ⟨j + 1, _, by have := HJ.out; omega, by go_num, CB.chg (x := { y with m := m5 }) HCB6.out (Chg.refl _ _), HS5.out, HC6.out⟩
            · have hvl' : vs.length = nb.size := by have := HLn.out; rw [HVS.out, List.length_cons] at this; omega
              obtain rfl : j = nb.size := by omega
              have HF := Lib.hid (show choiceS s.data.toList = some y by
                rw [HCK.out, hst, List.drop_of_length_le (by rw [Hnsz.out]; exact Nat.le_refl _), List.drop_of_length_le (by omega)]
                rfl)
              have HC4 := Lib.hid (HC3.out.trans hC4)
              have HCB := Lib.hid hCB
              clear hCB hj hst hC4 hvl'
              obtain ⟨y0, y1, y2, y3, y4, y5⟩ := HCB.out.all
              have HX5 := Lib.hid (HX1.out.chg HC4.out)
              obtain ⟨x0, x1, x2, x3, x4, x5⟩ := HX5.out.all
              have z0 := HX5.out.fz 0; have z1 := HX5.out.fz 1; have z2 := HX5.out.fz 2; have z3 := HX5.out.fz 3; have z4 := HX5.out.fz 4; have z5 := HX5.out.fz 5
              go_wp2_with fail
              obtain ⟨W6, hW6⟩ : ∃ W6, put6 wr b y = W6 := ⟨_, rfl⟩
              have hB6 : CB W6 b y := by rw [← hW6]; exact put6_has HX5.out y
              have HCF := Lib.hid (show Chg [] w W6 by rw [← hW6]; exact ((HC1.out.trans HC.out).trans HC4.out).put6 (Or.inr (Nat.le_of_eq Hb.out)) y)
              obtain ⟨g0, g1, g2, g3, g4, g5⟩ := hB6.all
              unfold put6 at hW6
              rw [hW6]
              clear hW6 hB6
              exact bodyPost_ret (v := .tuple #[.agg (cv y), .bool true]) (by simp [results, Tryd.results29, go_sem, cv, g0, g1, g2, g3, g4, g5]) rfl ⟨by rw [HF.out]; rfl, HCF.out⟩
        · have f2 : ((ws.length : Int) != 1 + (nb.size : Int)) = true := by rw [bne_iff_ne]; omega
          have HN := Lib.hid (show choiceS s.data.toList = none by
            rw [HCK.out]
            refine strict_len ?_
            have h := congrArg List.length HVS.out
            rw [List.length_cons] at h
            rw [← Hnsz.out]
            omega)
          clear hln
          have HX5 := Lib.hid (HX1.out.chg (HC3.out))
          obtain ⟨x0, x1, x2, x3, x4, x5⟩ := HX5.out.all
          have z0 := HX5.out.fz 0; have z1 := HX5.out.fz 1; have z2 := HX5.out.fz 2; have z3 := HX5.out.fz 3; have z4 := HX5.out.fz 4; have z5 := HX5.out.fz 5
          go_wp2_with fail
          obtain ⟨W6, hW6⟩ : ∃ W6, (((((w3.setCell ⟨b, 0, none⟩ (.int .i64 0)).setCell ⟨b, 1, none⟩ (.int .i64 0)).setCell ⟨b, 2, none⟩ (.int .i64 0)).setCell ⟨b, 3, none⟩ (.int .i64 0)).setCell ⟨b, 4, none⟩ (.int .i64 0)).setCell ⟨b, 5, none⟩ (.string ⟨#[]⟩) = W6 := ⟨_, rfl⟩
          have hB6 : CB W6 b Ch.zero := by rw [← hW6]; exact put6_has HX5.out Ch.zero
          have HCF := Lib.hid (show Chg [] w W6 by rw [← hW6]; exact ((HC1.out.trans HC.out).trans (HC3.out)).put6 (Or.inr (Nat.le_of_eq Hb.out)) Ch.zero)
          obtain ⟨g0, g1, g2, g3, g4, g5⟩ : W6.cell? ⟨b, 0, none⟩ = some (.int .i64 0) ∧ W6.cell? ⟨b, 1, none⟩ = some (.int .i64 0) ∧ W6.cell? ⟨b, 2, none⟩ = some (.int .i64 0) ∧ W6.cell? ⟨b, 3, none⟩ = some (.int .i64 0) ∧ W6.cell? ⟨b, 4, none⟩ = some (.int .i64 0) ∧ W6.cell? ⟨b, 5, none⟩ = some (.string ⟨#[]⟩) := hB6.all
          rw [hW6]
          clear hW6 hB6
          exact bodyPost_ret (v := .tuple #[.agg (cv Ch.zero), .bool false]) (by simp [results, Tryd.results29, go_sem, cv, Ch.zero, g0, g1, g2, g3, g4, g5]) rfl ⟨by rw [HN.out]; exact ⟨Ch.zero, rfl⟩, HCF.out⟩
      · have f1 : (v0 != wk) = true := by simpa using hw
        have f1b : (v0 == wk) = false := by simpa using hw
        have f1c : (!v0 == wk) = true := by rw [f1b]; rfl
        rw [f1c]
        have HW := Lib.hid hw
        clear hw
        go_wp2_with fail
        go_roundg (11 - (k + 1))
        case measure => have := HK.out; omega
        case rel =>
          refine ⟨k + 1, by have := HK.out; omega, by omega, by go_num, fun j h1 h2 => ?_, HZ.out⟩
          by_cases hj : j < k
          · exact HNo.out j h1 hj
          · have e : j = k := by omega
            rw [e, Hwk.out]; exact fun h => HW.out h.symm
    · have HN := Lib.hid (show choiceS s.data.toList = none from choice_none fun j h1 h2 h => hno j h1 (by omega) (by rw [h.1, HWS.out, HVS.out]; rfl))
      have HCr := Lib.hid hCr
      clear hno hCr
      have HX5 := Lib.hid (HX1.out.chg (HCr.out))
      obtain ⟨x0, x1, x2, x3, x4, x5⟩ := HX5.out.all
      have z0 := HX5.out.fz 0; have z1 := HX5.out.fz 1; have z2 := HX5.out.fz 2; have z3 := HX5.out.fz 3; have z4 := HX5.out.fz 4; have z5 := HX5.out.fz 5
      go_wp2_with fail
      obtain ⟨W6, hW6⟩ : ∃ W6, (((((wr.setCell ⟨b, 0, none⟩ (.int .i64 0)).setCell ⟨b, 1, none⟩ (.int .i64 0)).setCell ⟨b, 2, none⟩ (.int .i64 0)).setCell ⟨b, 3, none⟩ (.int .i64 0)).setCell ⟨b, 4, none⟩ (.int .i64 0)).setCell ⟨b, 5, none⟩ (.string ⟨#[]⟩) = W6 := ⟨_, rfl⟩
      have hB6 : CB W6 b Ch.zero := by rw [← hW6]; exact put6_has HX5.out Ch.zero
      have HCF := Lib.hid (show Chg [] w W6 by rw [← hW6]; exact ((HC1.out.trans HC.out).trans (HCr.out)).put6 (Or.inr (Nat.le_of_eq Hb.out)) Ch.zero)
      obtain ⟨g0, g1, g2, g3, g4, g5⟩ : W6.cell? ⟨b, 0, none⟩ = some (.int .i64 0) ∧ W6.cell? ⟨b, 1, none⟩ = some (.int .i64 0) ∧ W6.cell? ⟨b, 2, none⟩ = some (.int .i64 0) ∧ W6.cell? ⟨b, 3, none⟩ = some (.int .i64 0) ∧ W6.cell? ⟨b, 4, none⟩ = some (.int .i64 0) ∧ W6.cell? ⟨b, 5, none⟩ = some (.string ⟨#[]⟩) := hB6.all
      rw [hW6]
      clear hW6 hB6
      exact bodyPost_ret (v := .tuple #[.agg (cv Ch.zero), .bool false]) (by simp [results, Tryd.results29, go_sem, cv, Ch.zero, g0, g1, g2, g3, g4, g5]) rfl ⟨by rw [HN.out]; exact ⟨Ch.zero, rfl⟩, HCF.out⟩

end Go.Proofs.YtkcfbacapaonaaaDoor
