/- WritFormats: the walk of the law. -/
import Derived.Test.YtkcfbacapaonaaaDoorWrX
import Derived.Test.YtkcfbacapaonaaaDoorWrLg
import Derived.Test.YtkcfbacapaonaaaDoorWrO
namespace Go.Proofs.YtkcfbacapaonaaaDoor
set_option linter.unusedVariables false
set_option linter.unusedSimpArgs false
open Go.RowKit Go.Lib

set_option maxRecDepth 100000 in
set_option maxHeartbeats 16000000 in
theorem formats_walk {s : Sc} {A : Option Addr} {cap : Nat} (hs : s.ok) (hse : s.seed.length ≤ reachBytes) (h63 : s.l.length ≤ 9223372036854775807) (hl : ∀ x ∈ s.l, x.m.length ≤ reachBytes) (w : World) (hg : GW w) (hR : ReadsC w A s.l) :
    Calls Tryd.prog 3 #[.agg (scv s (.slice A s.l.length cap))] w fun e w' => e = .returned (.bool true) ∧ Chg [] w w' := by
  obtain ⟨b, hb⟩ : ∃ b, w.heap.size = b := ⟨_, rfl⟩
  obtain ⟨W1, hW1⟩ : ∃ W1, w.alloc (.cells (scv s (.slice A s.l.length cap)) 24) = W1 := ⟨_, rfl⟩
  have hX : W1.heap[b]? = some (.cells (scv s (.slice A s.l.length cap)) 24 (0, 0)) := by rw [← hW1, ← hb]; exact has_alloc_new _ _
  have hC1 : Chg [] w W1 := by rw [← hW1]; exact (Chg.refl _ _).alloc _
  obtain ⟨x0, x1, x2, x3, x4⟩ := sc_all hX
  have HX := Lib.hid hX; have HC1 := Lib.hid hC1; have HG := Lib.hid (hg.chg hC1); have HW1 := Lib.hid hW1; have Hb := Lib.hid hb
  have lg := large_any (cap := cap) hse hl h63 W1 (hR.chg hC1 (by simp))
  simp only [scv] at lg
  have HL := Lib.hid lg
  have HR := Lib.hid (hR.chg hC1 (by simp)); have HS := Lib.hid hs
  clear hX hC1 hg hW1 hb hR hs hl lg
  go_enter Tryd.func3, Tryd.ntmps3
  go_upto_region 1 with fail
  try rw [show (w.alloc (.cells (scv s (.slice A s.l.length cap)) 24)) = W1 from HW1.out]
  try rw [Hb.out]
  go_wp2_with fail
  refine HL.out.mono ?_
  rintro e w2 ⟨⟨r, rfl, hr⟩, hC2⟩
  cases r with
  | true =>
    have HC2 := Lib.hid hC2
    have c3 := three_any w2 (HG.out.chg hC2)
    clear hr hC2 x0 x1 x2 x3 x4
    have C3 := Lib.hid c3
    clear c3
    go_wp2_with fail
    refine C3.out.mono ?_
    rintro e w6 ⟨rfl, hC6⟩
    go_wp2_with fail
    go_ret
    exact ⟨rfl, (HC1.out.trans HC2.out).trans hC6⟩
  | false =>
    have HQ := Lib.hid (hr rfl)
    have HC2 := Lib.hid hC2
    clear hr x0 x1 x2 x3 x4
    obtain ⟨x0, x1, x2, x3, x4⟩ := sc_all (hC2.has HX.out nmN)
    by_cases q1 : 1000 < s.seed.length
    · have f1 : decide ((1000 : Int) < s.seed.length) = true := decide_eq_true (by omega)
      have c3 := three_any w2 (HG.out.chg hC2)
      have C3 := Lib.hid c3
      clear c3 hC2
      go_wp2_with fail
      refine C3.out.mono ?_
      rintro e w6 ⟨rfl, hC6⟩
      go_wp2_with fail
      go_ret
      exact ⟨rfl, (HC1.out.trans HC2.out).trans hC6⟩
    · have f1 : decide ((1000 : Int) < s.seed.length) = false := decide_eq_false (by omega)
      have cf := format_any (cap := cap) HS.out (by omega) (fun x hx => Nat.le_trans (Nat.le_trans (msum_mem hx) HQ.out.2) (by decide)) h63 w2 (HG.out.chg hC2) (HR.out.chg hC2 (by simp))
      simp only [scv] at cf
      have CF := Lib.hid cf
      clear cf hC2
      go_wp2_with fail
      refine CF.out.mono ?_
      rintro e w3 ⟨hF, hC3⟩
      unfold FmtOut at hF
      subst hF
      have HC3 := Lib.hid (HC2.out.trans hC3)
      clear hC3 x0 x1 x2 x3 x4
      obtain ⟨x0, x1, x2, x3, x4⟩ := sc_all (HC3.out.has HX.out nmN)
      obtain ⟨t, k, ht⟩ : ∃ t k, formatS s = (t, k) := ⟨_, _, rfl⟩
      have HT := Lib.hid ht
      rw [ht]
      clear ht
      go_wp2_with fail
      have cr := ref_any (s := s) (A := A) (n := s.l.length) (cap := cap) w3
      simp only [scv] at cr
      refine cr.mono ?_
      rintro e w4 ⟨rfl, hC4⟩
      clear cr
      have HC4 := Lib.hid (HC3.out.trans hC4)
      clear hC4
      have cf := ref_format (cap := cap) HS.out (by omega) (fun x hx => Nat.le_trans (Nat.le_trans (msum_mem hx) HQ.out.2) (by decide)) h63 w4 (HG.out.chg HC4.out) (HR.out.chg HC4.out (by simp))
      simp only [scv] at cf
      rw [HT.out] at cf
      have CF := Lib.hid cf
      clear cf
      go_wp2_with fail
      refine CF.out.mono ?_
      rintro e w5 ⟨hF, hC5⟩
      unfold FmtOut at hF
      subst hF
      have HC5 := Lib.hid (HC4.out.trans hC5)
      clear hC5 x0 x1 x2 x3 x4
      have c3 := three_any w5 (HG.out.chg HC5.out)
      have C3 := Lib.hid c3
      clear c3
      go_wp2_with fail
      refine C3.out.mono ?_
      rintro e w6 ⟨rfl, hC6⟩
      go_wp2_with fail
      go_ret
      exact ⟨rfl, (HC1.out.trans HC5.out).trans hC6⟩

set_option maxRecDepth 100000 in
theorem writFormats_law {H : Type} (enc : TypeId × Value → H) (W : World) (hg : GW W) {base : Nat} {v0 : Value} {d0 : DataW H} {p0 : List MemPlace}
    (h0 : DataW.Trod enc Tryd.prog W 0 (fun _ => true) true 24 v0 d0 p0) (k0 : Value.okWide Tryd.prog W .any base 24 v0)
    (hsz : (DataW.weightsEach Tryd.prog [24] [d0]).all (· ≤ reachBytes) = true) :
    Calls Tryd.prog 3 #[v0] W fun e W' => e = .returned (.bool true) ∧ Below W.heap.size W W' := by
  have hw : ∀ k ∈ d0.weights Tryd.prog 24, k ≤ reachBytes := fun k hk => by
    have := List.all_eq_true.1 hsz k (DataW.weights_mem_each (j := 0) rfl rfl k hk)
    exact of_decide_eq_true this
  obtain ⟨s, A, cap, rfl, h1, h2, h3, h4, h5⟩ := open_script k0 h0 hw
  exact (formats_walk h1 h2 h3 h4 W hg h5).mono fun _ _ ⟨h1, h2⟩ => ⟨h1, h2.below⟩

end Go.Proofs.YtkcfbacapaonaaaDoor
