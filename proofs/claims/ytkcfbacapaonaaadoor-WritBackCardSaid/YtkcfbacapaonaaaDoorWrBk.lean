/- WritBack: the walk of the law. -/
import Derived.Test.YtkcfbacapaonaaaDoorWrFm
import Derived.Test.YtkcfbacapaonaaaDoorWrBp
namespace Go.Proofs.YtkcfbacapaonaaaDoor
set_option linter.unusedVariables false
set_option linter.unusedSimpArgs false
open Go.RowKit Go.Lib

set_option maxRecDepth 100000 in
set_option maxHeartbeats 16000000 in
theorem back_walk {s : Sc} {A : Option Addr} {cap : Nat} (hs : s.ok) (hse : s.seed.length ≤ reachBytes) (h63 : s.l.length ≤ 9223372036854775807) (hl : ∀ x ∈ s.l, x.m.length ≤ reachBytes) (t : ByteArray) (w : World) (hg : GW w) (hR : ReadsC w A s.l) :
    Calls Tryd.prog 5 #[.agg (scv s (.slice A s.l.length cap)), .string t] w fun e w' => e = .returned (.bool true) ∧ Chg [] w w' := by
  obtain ⟨b, hb⟩ : ∃ b, w.heap.size = b := ⟨_, rfl⟩
  obtain ⟨W1, hW1⟩ : ∃ W1, w.alloc (.cells (scv s (.slice A s.l.length cap)) 24) = W1 := ⟨_, rfl⟩
  have hX : W1.heap[b]? = some (.cells (scv s (.slice A s.l.length cap)) 24 (0, 0)) := by rw [← hW1, ← hb]; exact has_alloc_new _ _
  have hC1 : Chg [] w W1 := by rw [← hW1]; exact (Chg.refl _ _).alloc _
  obtain ⟨x0, x1, x2, x3, x4⟩ := sc_all hX
  have HX := Lib.hid hX; have HC1 := Lib.hid hC1; have HG := Lib.hid (hg.chg hC1); have HW1 := Lib.hid hW1; have Hb := Lib.hid hb
  have lg := large_any (cap := cap) hse hl h63 W1 (hR.chg hC1 (by simp))
  simp only [scv] at lg
  have HL := Lib.hid lg
  have HR := Lib.hid (hR.chg hC1 (by simp)); have HS := Lib.hid hs
  clear hX hC1 hg hW1 hb hR hs hl lg
  go_enter Tryd.func5, Tryd.ntmps5
  go_upto_region 1 with fail
  try rw [show (w.alloc (.cells (scv s (.slice A s.l.length cap)) 24)) = W1 from HW1.out]
  try rw [Hb.out]
  go_wp2_with fail
  refine HL.out.mono ?_
  rintro e w2 ⟨⟨r, rfl, hr⟩, hC2⟩
  have HC2 := Lib.hid hC2
  clear x0 x1 x2 x3 x4
  obtain ⟨x0, x1, x2, x3, x4⟩ := sc_all (hC2.has HX.out nmN)
  clear hC2
  cases r with
  | true =>
    clear hr x0 x1 x2 x3 x4
    have c3 := three_any w2 (HG.out.chg HC2.out)
    have C3 := Lib.hid c3
    clear c3
    go_wp2_with fail
    refine C3.out.mono ?_
    rintro e w6 ⟨rfl, hC6⟩
    go_wp2_with fail
    go_ret
    exact ⟨rfl, (HC1.out.trans HC2.out).trans hC6⟩
  | false =>
    have HQ := Lib.hid (hr rfl)
    clear hr
    by_cases q1 : 1000 < s.seed.length
    · have f1 : decide ((1000 : Int) < s.seed.length) = true := decide_eq_true (by omega)
      have c3 := three_any w2 (HG.out.chg HC2.out)
      have C3 := Lib.hid c3
      clear c3
      go_wp2_with fail
      refine C3.out.mono ?_
      rintro e w6 ⟨rfl, hC6⟩
      go_wp2_with fail
      go_ret
      exact ⟨rfl, (HC1.out.trans HC2.out).trans hC6⟩
    · have f1 : decide ((1000 : Int) < s.seed.length) = false := decide_eq_false (by omega)
      by_cases q2 : 20000 < t.size
      · have f2 : decide ((20000 : Int) < t.size) = true := decide_eq_true (by omega)
        have c3 := three_any w2 (HG.out.chg HC2.out)
        have C3 := Lib.hid c3
        clear c3
        go_wp2_with fail
        refine C3.out.mono ?_
        rintro e w6 ⟨rfl, hC6⟩
        go_wp2_with fail
        go_ret
        exact ⟨rfl, (HC1.out.trans HC2.out).trans hC6⟩
      · have f2 : decide ((20000 : Int) < t.size) = false := decide_eq_false (by omega)
        have HPt := Lib.hid (fun w hg => parse_any t (by omega) w hg)
        obtain ⟨sc, i, g, htt⟩ : ∃ sc i g, parseS t.data.toList = (sc, i, g) := ⟨_, _, _, rfl⟩
        have HTt := Lib.hid htt
        clear htt
        have cf := format_any (cap := cap) HS.out (by omega) (fun x hx => Nat.le_trans (Nat.le_trans (msum_mem hx) HQ.out.2) (by decide)) h63 w2 (HG.out.chg HC2.out) (HR.out.chg HC2.out (by simp))
        simp only [scv] at cf
        have CF := Lib.hid cf
        clear cf
        go_wp2_with fail
        refine CF.out.mono ?_
        rintro e w3 ⟨hF, hC3⟩
        unfold FmtOut at hF
        subst hF
        have HC3 := Lib.hid (HC2.out.trans hC3)
        clear hC3 x0 x1 x2 x3 x4
        obtain ⟨a, k, ht⟩ : ∃ a k, formatS s = (a, k) := ⟨_, _, rfl⟩
        have HT := Lib.hid ht
        rw [ht]
        clear ht
        go_upto_region 4 with fail
        by_cases hk0 : k = 0
        · obtain rfl : k = 0 := hk0
          have cp := parse_any ⟨a.toArray⟩ (fmt_len HS.out HQ.out.2 HT.out) w3 (HG.out.chg HC3.out)
          rw [show (⟨a.toArray⟩ : ByteArray).data.toList = a from rfl, format_parse HS.out HT.out] at cp
          have CP := Lib.hid cp
          clear cp
          go_wp2_with fail
          refine CP.out.mono ?_
          rintro e w4 ⟨⟨A4, cap4, rfl, hRd⟩, hC4⟩
          dsimp only [scv]
          have hA : Chg [] w3 (w4.alloc (.cells (scv s (.slice A4 s.l.length cap4)) 24)) := hC4.alloc _
          have hR1 := hRd.chg ((Chg.refl [] w4).alloc (.cells (scv s (.slice A4 s.l.length cap4)) 24)) (by simp)
          obtain ⟨b5, hb⟩ : ∃ b, w4.heap.size = b := ⟨_, rfl⟩
          obtain ⟨W5, hW5⟩ : ∃ W5, w4.alloc (.cells (scv s (.slice A4 s.l.length cap4)) 24) = W5 := ⟨_, rfl⟩
          have hX : W5.heap[b5]? = some (.cells (scv s (.slice A4 s.l.length cap4)) 24 (0, 0)) := by rw [← hW5, ← hb]; exact has_alloc_new _ _
          rw [hW5] at hA hR1
          have HX5 := Lib.hid hX; have HC5 := Lib.hid (HC3.out.trans hA); have HR5 := Lib.hid hR1; have HW5 := Lib.hid hW5; have Hb5 := Lib.hid hb
          clear hC4 hRd hA hR1 hb hW5 hX
          go_upto_region 6 with fail
          try rw [show w4.alloc (.cells #[.int .i64 s.n, .int .i64 s.f, .int .i64 s.odd, .string ⟨s.seed.toArray⟩, .slice A4 s.l.length cap4] 24) = W5 from HW5.out]
          try rw [HW5.out]
          try rw [Hb5.out]
          obtain ⟨p0, p1, p2, p3, p4⟩ := sc_all HX5.out
          obtain ⟨x0, x1, x2, x3, x4⟩ := sc_all (HC5.out.has HX.out nmN)
          have cr := fun w9 => ref_any (s := s) (A := A) (n := s.l.length) (cap := cap) w9
          simp only [scv] at cr
          have cs := fun w9 (hw9 : Chg [] W5 w9) => same_eq (s := s) (ca := cap4) (cb := cap) (n := s.l.length) rfl h63 w9 (HR5.out.chg hw9 (by simp)) (HR.out.chg (HC5.out.trans hw9) (by simp))
          simp only [scv] at cs
          refine abs_region (B := Chg [] W5) (S := fun wz => Chg [] W5 wz) (by kernel_rfl) (Chg.refl _ _).drew ?_
          have hG := good_chg [] W5
          refine Abs.tk (i := 0) (d := some 42) (v := ?_) rfl rfl hG ⟨by rfl, fun w9 hw9 => Or.inl ?_⟩ ?_
          rotate_left
          · go_simp
            try with_reducible rfl
          simp only [Act.put, stA, stB, stC]
          refine Abs.tk (i := 1) (d := some 43) (v := ?_) rfl rfl hG ⟨by rfl, fun w9 hw9 => Or.inl ?_⟩ ?_
          rotate_left
          · go_simp
            try with_reducible rfl
          simp only [Act.put, stA, stB, stC]
          refine Abs.tk (i := 2) (d := some 44) (v := ?_) rfl rfl hG ⟨by rfl, fun w9 hw9 => Or.inl ?_⟩ ?_
          rotate_left
          · go_simp
            try with_reducible rfl
          simp only [Act.put, stA, stB, stC]
          refine Abs.tk (i := 3) (d := some 45) (v := ?_) rfl rfl hG ⟨by rfl, fun w9 hw9 => Or.inl ?_⟩ ?_
          rotate_left
          · go_simp
            try with_reducible rfl
          simp only [Act.put, stA, stB, stC]
          refine Abs.tk (i := 4) (d := some 46) (v := ?_) rfl rfl hG ⟨by rfl, fun w9 hw9 => Or.inl ?_⟩ ?_
          rotate_left
          · go_simp
            try with_reducible rfl
          simp only [Act.put, stA, stB, stC]
          refine Abs.tk (i := 5) (d := some 47) (v := ?_) rfl rfl hG ⟨by rfl, fun w9 hw9 => Or.inl ?_⟩ ?_
          rotate_left
          · go_simp
            try with_reducible rfl
          simp only [Act.put, stA, stB, stC]
          refine Abs.tk (i := 6) (d := some 48) (v := ?_) rfl rfl hG ⟨by rfl, fun w9 hw9 => Or.inl ?_⟩ ?_
          rotate_left
          · go_simp
            try with_reducible rfl
          simp only [Act.put, stA, stB, stC]
          refine Abs.tk (i := 7) (d := some 49) (v := ?_) rfl rfl hG ⟨by rfl, fun w9 hw9 => Or.inl ?_⟩ ?_
          rotate_left
          · replace p0 := hw9.cell p0 nmN; replace p1 := hw9.cell p1 nmN; replace p2 := hw9.cell p2 nmN; replace p3 := hw9.cell p3 nmN; replace p4 := hw9.cell p4 nmN
            go_simp
            try with_reducible rfl
          simp only [Act.put, stA, stB, stC]
          refine Abs.tk (i := 8) (d := some 50) (v := ?_) rfl rfl hG ⟨by rfl, fun w9 hw9 => Or.inl ?_⟩ ?_
          rotate_left
          · replace x0 := hw9.cell x0 nmN; replace x1 := hw9.cell x1 nmN; replace x2 := hw9.cell x2 nmN; replace x3 := hw9.cell x3 nmN; replace x4 := hw9.cell x4 nmN
            go_simp
            try with_reducible rfl
          simp only [Act.put, stA, stB, stC]
          refine Abs.tk (i := 9) (d := some 51) (v := _) rfl rfl hG ⟨by rfl, fun w9 hw9 => Or.inr ⟨_, _, ?_, cr w9⟩⟩ ?_
          · go_simp
            try with_reducible rfl
          simp only [Act.put, stA, stB, stC]
          refine Abs.tk (i := 10) (d := some 52) (v := _) rfl rfl hG ⟨by rfl, fun w9 hw9 => Or.inr ⟨_, _, ?_, cs w9 hw9⟩⟩ ?_
          · go_simp
            try with_reducible rfl
          simp only [Act.put, stA, stB, stC]
          refine Abs.tk (i := 11) (d := some 53) (v := ?_) rfl rfl hG ⟨by rfl, fun w9 hw9 => Or.inl ?_⟩ ?_
          rotate_left
          · go_simp
            try with_reducible rfl
          simp only [Act.put, stA, stB, stC]
          refine Abs.tk (i := 12) (d := some 54) (v := ?_) rfl rfl hG ⟨by rfl, fun w9 hw9 => Or.inl ?_⟩ ?_
          rotate_left
          · go_simp
            try with_reducible rfl
          simp only [Act.put, stA, stB, stC]
          refine Abs.done (by kernel_rfl) (fun wx hx => NoPanic.normal ?_) _
          clear p0 p1 p2 p3 p4 x0 x1 x2 x3 x4 cr cs

          -- the text's own parse
          have HCt := Lib.hid (HC5.out.trans hx)
          go_wp2_with fail
          refine (HPt.out _ (HG.out.chg HCt.out)).mono ?_
          rintro e w7 ⟨hP, hC7⟩
          rw [HTt.out] at hP
          obtain ⟨A2, cap2, rfl, hRd⟩ := hP
          dsimp only [scv]
          have hA : Chg [] wx (w7.alloc (.cells (scv sc (.slice A2 sc.l.length cap2)) 24)) := hC7.alloc _
          have hR1 := hRd.chg ((Chg.refl [] w7).alloc (.cells (scv sc (.slice A2 sc.l.length cap2)) 24)) (by simp)
          obtain ⟨b8, hb⟩ : ∃ b, w7.heap.size = b := ⟨_, rfl⟩
          obtain ⟨W8, hW8⟩ : ∃ W8, w7.alloc (.cells (scv sc (.slice A2 sc.l.length cap2)) 24) = W8 := ⟨_, rfl⟩
          have hX : W8.heap[b8]? = some (.cells (scv sc (.slice A2 sc.l.length cap2)) 24 (0, 0)) := by rw [← hW8, ← hb]; exact has_alloc_new _ _
          rw [hW8] at hA hR1
          have HX8 := Lib.hid hX; have HC8 := Lib.hid (HCt.out.trans hA); have HR8 := Lib.hid hR1; have HW8 := Lib.hid hW8; have Hb8 := Lib.hid hb
          clear hC7 hRd hA hR1 hb hW8 hX
          go_upto_region 9 with fail
          try rw [show w7.alloc (.cells #[.int .i64 sc.n, .int .i64 sc.f, .int .i64 sc.odd, .string ⟨sc.seed.toArray⟩, .slice A2 sc.l.length cap2] 24) = W8 from HW8.out]
          try rw [HW8.out]
          try rw [Hb8.out]
          obtain ⟨r0, r1, r2, r3, r4⟩ := sc_all HX8.out
          by_cases hg0 : g = 0
          · obtain rfl : g = 0 := hg0
            obtain ⟨_, hfm, hok⟩ := parse_format HTt.out
            obtain ⟨hf1, hf2, hf3⟩ := fmt_in hfm
            have cf := format_any (cap := cap2) hok (by omega) (fun x hx => Nat.le_trans (hf3 x hx) (by have : t.data.toList.length = t.size := rfl; omega)) (by omega) W8 (HG.out.chg HC8.out) HR8.out
            simp only [scv] at cf
            rw [hfm] at cf
            have CF := Lib.hid cf
            clear cf hfm hok hf1 hf2 hf3
            go_wp2_with fail
            refine CF.out.mono ?_
            rintro e w9 ⟨hF, hC9⟩
            unfold FmtOut at hF
            rw [show (⟨t.data.toList.toArray⟩ : ByteArray) = t from (str_list t).symm] at hF
            subst hF
            have HC9 := Lib.hid (HC8.out.trans hC9)
            clear hC9
            have c3 := three_any w9 (HG.out.chg HC9.out)
            have C3 := Lib.hid c3
            clear c3
            go_wp2_with fail
            refine C3.out.mono ?_
            rintro e w10 ⟨rfl, hC10⟩
            go_wp2_with fail
            go_ret
            exact ⟨rfl, (HC1.out.trans HC9.out).trans hC10⟩
          · obtain ⟨hz, h1k⟩ := parse_err HTt.out hg0
            have f5 : (g == (0 : Int)) = false := beq_eq_false_iff_ne.2 hg0
            have f6 : decide (g = (0 : Int)) = false := decide_eq_false hg0
            have f7 : decide ((1 : Int) ≤ i) = true := decide_eq_true h1k
            have f8 : decide (i ≥ (1 : Int)) = true := decide_eq_true h1k
            have cs := same_eq (s := sc) (A := A2) (B := none) (ca := cap2) (cb := 0) (n := sc.l.length) rfl (by rw [hz]; decide) W8 HR8.out (fun h => by rw [hz] at h; exact absurd h (by simp [Sc.zero]))
            have hzz : scv sc (.slice none sc.l.length 0) = #[.int .i64 0, .int .i64 0, .int .i64 0, .string ⟨#[]⟩, .slice none 0 0] := by rw [hz]; rfl
            rw [hzz] at cs
            simp only [scv] at cs
            have CS := Lib.hid cs
            clear cs hz hzz
            go_wp2_with fail
            refine CS.out.mono ?_
            rintro e w9 ⟨rfl, hC9⟩
            have HC9 := Lib.hid (HC8.out.trans hC9)
            clear hC9
            have c3 := three_any w9 (HG.out.chg HC9.out)
            have C3 := Lib.hid c3
            clear c3
            go_wp2_with fail
            refine C3.out.mono ?_
            rintro e w10 ⟨rfl, hC10⟩
            go_wp2_with fail
            go_ret
            exact ⟨rfl, (HC1.out.trans HC9.out).trans hC10⟩
        · have f3 : (k == (0 : Int)) = false := beq_eq_false_iff_ne.2 hk0
          have f4 : decide (k = (0 : Int)) = false := decide_eq_false hk0

          -- the text's own parse
          have HCt := Lib.hid (HC3.out)
          go_wp2_with fail
          refine (HPt.out _ (HG.out.chg HCt.out)).mono ?_
          rintro e w7 ⟨hP, hC7⟩
          rw [HTt.out] at hP
          obtain ⟨A2, cap2, rfl, hRd⟩ := hP
          dsimp only [scv]
          have hA : Chg [] w3 (w7.alloc (.cells (scv sc (.slice A2 sc.l.length cap2)) 24)) := hC7.alloc _
          have hR1 := hRd.chg ((Chg.refl [] w7).alloc (.cells (scv sc (.slice A2 sc.l.length cap2)) 24)) (by simp)
          obtain ⟨b8, hb⟩ : ∃ b, w7.heap.size = b := ⟨_, rfl⟩
          obtain ⟨W8, hW8⟩ : ∃ W8, w7.alloc (.cells (scv sc (.slice A2 sc.l.length cap2)) 24) = W8 := ⟨_, rfl⟩
          have hX : W8.heap[b8]? = some (.cells (scv sc (.slice A2 sc.l.length cap2)) 24 (0, 0)) := by rw [← hW8, ← hb]; exact has_alloc_new _ _
          rw [hW8] at hA hR1
          have HX8 := Lib.hid hX; have HC8 := Lib.hid (HCt.out.trans hA); have HR8 := Lib.hid hR1; have HW8 := Lib.hid hW8; have Hb8 := Lib.hid hb
          clear hC7 hRd hA hR1 hb hW8 hX
          go_upto_region 9 with fail
          try rw [show w7.alloc (.cells #[.int .i64 sc.n, .int .i64 sc.f, .int .i64 sc.odd, .string ⟨sc.seed.toArray⟩, .slice A2 sc.l.length cap2] 24) = W8 from HW8.out]
          try rw [HW8.out]
          try rw [Hb8.out]
          obtain ⟨r0, r1, r2, r3, r4⟩ := sc_all HX8.out
          by_cases hg0 : g = 0
          · obtain rfl : g = 0 := hg0
            obtain ⟨_, hfm, hok⟩ := parse_format HTt.out
            obtain ⟨hf1, hf2, hf3⟩ := fmt_in hfm
            have cf := format_any (cap := cap2) hok (by omega) (fun x hx => Nat.le_trans (hf3 x hx) (by have : t.data.toList.length = t.size := rfl; omega)) (by omega) W8 (HG.out.chg HC8.out) HR8.out
            simp only [scv] at cf
            rw [hfm] at cf
            have CF := Lib.hid cf
            clear cf hfm hok hf1 hf2 hf3
            go_wp2_with fail
            refine CF.out.mono ?_
            rintro e w9 ⟨hF, hC9⟩
            unfold FmtOut at hF
            rw [show (⟨t.data.toList.toArray⟩ : ByteArray) = t from (str_list t).symm] at hF
            subst hF
            have HC9 := Lib.hid (HC8.out.trans hC9)
            clear hC9
            have c3 := three_any w9 (HG.out.chg HC9.out)
            have C3 := Lib.hid c3
            clear c3
            go_wp2_with fail
            refine C3.out.mono ?_
            rintro e w10 ⟨rfl, hC10⟩
            go_wp2_with fail
            go_ret
            exact ⟨rfl, (HC1.out.trans HC9.out).trans hC10⟩
          · obtain ⟨hz, h1k⟩ := parse_err HTt.out hg0
            have f5 : (g == (0 : Int)) = false := beq_eq_false_iff_ne.2 hg0
            have f6 : decide (g = (0 : Int)) = false := decide_eq_false hg0
            have f7 : decide ((1 : Int) ≤ i) = true := decide_eq_true h1k
            have f8 : decide (i ≥ (1 : Int)) = true := decide_eq_true h1k
            have cs := same_eq (s := sc) (A := A2) (B := none) (ca := cap2) (cb := 0) (n := sc.l.length) rfl (by rw [hz]; decide) W8 HR8.out (fun h => by rw [hz] at h; exact absurd h (by simp [Sc.zero]))
            have hzz : scv sc (.slice none sc.l.length 0) = #[.int .i64 0, .int .i64 0, .int .i64 0, .string ⟨#[]⟩, .slice none 0 0] := by rw [hz]; rfl
            rw [hzz] at cs
            simp only [scv] at cs
            have CS := Lib.hid cs
            clear cs hz hzz
            go_wp2_with fail
            refine CS.out.mono ?_
            rintro e w9 ⟨rfl, hC9⟩
            have HC9 := Lib.hid (HC8.out.trans hC9)
            clear hC9
            have c3 := three_any w9 (HG.out.chg HC9.out)
            have C3 := Lib.hid c3
            clear c3
            go_wp2_with fail
            refine C3.out.mono ?_
            rintro e w10 ⟨rfl, hC10⟩
            go_wp2_with fail
            go_ret
            exact ⟨rfl, (HC1.out.trans HC9.out).trans hC10⟩

set_option maxRecDepth 100000 in
theorem writBack_law {H : Type} (enc : TypeId × Value → H) (W : World) (hg : GW W) {base : Nat} {v0 v1 : Value} {d0 d1 : DataW H} {p0 p1 : List MemPlace}
    (h0 : DataW.Trod enc Tryd.prog W 0 (fun _ => true) true 24 v0 d0 p0) (k0 : Value.okWide Tryd.prog W .any base 24 v0)
    (h1 : DataW.Trod enc Tryd.prog W 0 (fun _ => true) true 9 v1 d1 p1) (k1 : Value.okWide Tryd.prog W .any base 9 v1)
    (hsz : (DataW.weightsEach Tryd.prog [24, 9] [d0, d1]).all (· ≤ reachBytes) = true) :
    Calls Tryd.prog 5 #[v0, v1] W fun e W' => e = .returned (.bool true) ∧ Below W.heap.size W W' := by
  have hw : ∀ k ∈ d0.weights Tryd.prog 24, k ≤ reachBytes := fun k hk => by
    have := List.all_eq_true.1 hsz k (DataW.weights_mem_each (j := 0) rfl rfl k hk)
    exact of_decide_eq_true this
  obtain ⟨t, rfl, rfl, rfl, _⟩ := Go.ChangeMaps.open_string Tryd.underlying9 k1 h1
  obtain ⟨s, A, cap, rfl, h1, h2, h3, h4, h5⟩ := open_script k0 h0 hw
  exact (back_walk h1 h2 h3 h4 t W hg h5).mono fun _ _ ⟨h1, h2⟩ => ⟨h1, h2.below⟩

end Go.Proofs.YtkcfbacapaonaaaDoor
