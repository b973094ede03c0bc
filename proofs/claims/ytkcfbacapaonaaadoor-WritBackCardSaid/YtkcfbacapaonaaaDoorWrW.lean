/- The script of three lines, walked. -/
import Derived.Test.YtkcfbacapaonaaaDoorWrV
namespace Go.Proofs.YtkcfbacapaonaaaDoor
set_option linter.unusedVariables false
set_option linter.unusedSimpArgs false
open Go.RowKit Go.Lib

set_option maxRecDepth 100000 in
set_option maxHeartbeats 16000000 in
theorem three_any (w : World) (hg : GW w) : Calls Tryd.prog 8 #[] w fun e w' => e = .returned (.bool true) ∧ Chg [] w w' := by
  have c1 := parse_any ⟨t3.toArray⟩ (by decide) w hg
  rw [show (⟨t3.toArray⟩ : ByteArray).data.toList = t3 from rfl, sc3_parse] at c1
  have C1 := Lib.hid c1; have HG := Lib.hid hg
  clear c1 hg
  go_enter Tryd.func8, Tryd.ntmps8
  go_wp2_with fail
  refine C1.out.mono ?_
  rintro e w1 ⟨⟨A, cap, rfl, hR⟩, hC⟩
  dsimp only [scv, sc3, List.length_cons, List.length_nil, Nat.zero_add, Nat.reduceAdd]
  have hA : Chg [] w (w1.alloc (.cells (scv sc3 (.slice A 2 cap)) 24)) := hC.alloc _
  have hR1 := hR.chg ((Chg.refl [] w1).alloc (.cells (scv sc3 (.slice A 2 cap)) 24)) (by simp)
  obtain ⟨b, hb⟩ : ∃ b, w1.heap.size = b := ⟨_, rfl⟩
  obtain ⟨W2, hW2⟩ : ∃ W2, w1.alloc (.cells (scv sc3 (.slice A 2 cap)) 24) = W2 := ⟨_, rfl⟩
  have hX : W2.heap[b]? = some (.cells (scv sc3 (.slice A 2 cap)) 24 (0, 0)) := by rw [← hW2, ← hb]; exact has_alloc_new _ _
  rw [hW2] at hA hR1
  have c2 := format_any (s := sc3) (A := A) (cap := cap) sc3_ok (by decide) (by decide) (by decide) W2 (HG.out.chg hA) hR1
  rw [sc3_format] at c2
  simp only [scv, sc3, List.length_cons, List.length_nil, Nat.zero_add, Nat.reduceAdd] at c2
  have HX := Lib.hid hX; have HC := Lib.hid hA; have HR := Lib.hid hR1; have HW2 := Lib.hid hW2; have Hb := Lib.hid hb; have C2 := Lib.hid c2
  clear hC hR hA hR1 hb hW2 hX c2
  go_upto_region 3 with fail
  try rw [show w1.alloc (.cells #[.int .i64 4, .int .i64 1, .int .i64 0, .string ⟨#[97]⟩, .slice A 2 cap] 24) = W2 from HW2.out]
  try rw [HW2.out]
  try rw [Hb.out]
  obtain ⟨x0, x1, x2, x3, x4⟩ := sc_all HX.out
  simp only [sc3] at x0 x1 x2 x3
  go_wp2_with fail
  refine C2.out.mono ?_
  rintro e w3 ⟨hF, hC3⟩
  obtain rfl : e = _ := hF
  have HX3 := Lib.hid (hC3.has HX.out nmN); have HC3 := Lib.hid (HC.out.trans hC3)
  have hR3 := HR.out.chg hC3 (by simp)
  clear hC3 x0 x1 x2 x3 x4
  obtain ⟨x0, x1, x2, x3, x4⟩ := sc_all HX3.out
  simp only [sc3] at x0 x1 x2 x3
  obtain ⟨bl, off, rfl, _, hcl⟩ := hR3 (by decide)
  obtain ⟨u0, u1, u2, u3, u4, u5⟩ := readsC_at (k := 1) hcl (x := ⟨1, 1, 0, 7, 0, [109]⟩) rfl
  simp only [Nat.one_mul] at u0 u1 u2 u3 u4 u5
  clear hcl
  dsimp only [t3]
  go_wp2_with fail
  go_ret
  exact ⟨rfl, HC3.out⟩

end Go.Proofs.YtkcfbacapaonaaaDoor
