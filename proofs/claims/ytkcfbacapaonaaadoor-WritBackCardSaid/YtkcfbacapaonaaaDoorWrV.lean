/- What the laws share: equal scripts, the script of three lines. -/
import Derived.Test.YtkcfbacapaonaaaDoorWrU
namespace Go.Proofs.YtkcfbacapaonaaaDoor
set_option linter.unusedVariables false
set_option linter.unusedSimpArgs false
open Go.RowKit Go.Lib

theorem readsC_at {w : World} {b off : Nat} {xs : List Ch} {k : Nat} {x : Ch} (hc : ∀ (i : Nat) x, xs[i]? = some x → ∀ c, c < 6 → w.cell? ⟨b, off + i * 6 + c, none⟩ = (cv x)[c]?) (hx : xs[k]? = some x) :
    w.cell? ⟨b, off + k * 6, none⟩ = some (.int .i64 x.kind) ∧ w.cell? ⟨b, off + k * 6 + 1, none⟩ = some (.int .i64 x.node) ∧ w.cell? ⟨b, off + k * 6 + 2, none⟩ = some (.int .i64 x.n) ∧ w.cell? ⟨b, off + k * 6 + 3, none⟩ = some (.int .i64 x.id) ∧ w.cell? ⟨b, off + k * 6 + 4, none⟩ = some (.int .i64 x.mask) ∧ w.cell? ⟨b, off + k * 6 + 5, none⟩ = some (.string ⟨x.m.toArray⟩) :=
  ⟨hc k x hx 0 (by decide), hc k x hx 1 (by decide), hc k x hx 2 (by decide), hc k x hx 3 (by decide), hc k x hx 4 (by decide), hc k x hx 5 (by decide)⟩

set_option maxRecDepth 100000 in
set_option maxHeartbeats 16000000 in
theorem same_eq {s : Sc} {A B : Option Addr} {ca cb n : Nat} (hn : n = s.l.length) (h63 : s.l.length ≤ 9223372036854775807) (w : World) (hA : ReadsC w A s.l) (hB : ReadsC w B s.l) :
    Calls Tryd.prog 14 #[.agg (scv s (.slice A n ca)), .agg (scv s (.slice B n cb))] w fun e w' => e = .returned (.bool true) ∧ Chg [] w w' := by
  obtain ⟨b, hb⟩ : ∃ b, w.heap.size = b := ⟨_, rfl⟩
  obtain ⟨W1, hW1⟩ : ∃ W1, (w.alloc (.cells (scv s (.slice A n ca)) 24)).alloc (.cells (scv s (.slice B n cb)) 32) = W1 := ⟨_, rfl⟩
  have hX : W1.heap[b]? = some (.cells (scv s (.slice A n ca)) 24 (0, 0)) := by rw [← hW1, ← hb]; exact has_alloc (has_alloc_new _ _)
  have hY : W1.heap[b + 1]? = some (.cells (scv s (.slice B n cb)) 32 (0, 0)) := by rw [← hW1, ← hb]; exact has_alloc_at (by simp)
  have hC1 : Chg [] w W1 := by rw [← hW1]; exact ((Chg.refl _ _).alloc _).alloc _
  have HX := Lib.hid hX; have HY := Lib.hid hY; have HC1 := Lib.hid hC1; have HW1 := Lib.hid hW1; have Hb := Lib.hid hb
  have HA := Lib.hid (hA.chg hC1 (by simp)); have HB := Lib.hid (hB.chg hC1 (by simp)); have HN := Lib.hid hn
  obtain ⟨x0, x1, x2, x3, x4⟩ := sc_all hX
  obtain ⟨y0, y1, y2, y3, y4⟩ := sc_all hY
  have hn63 : n ≤ 9223372036854775807 := by omega
  clear hX hY hC1 hW1 hb hA hB hn
  go_enter Tryd.func14, Tryd.ntmps14
  go_upto_region 1 with fail
  try rw [show (w.alloc (.cells (scv s (.slice A n ca)) 24)).alloc (.cells (scv s (.slice B n cb)) 32) = W1 from HW1.out]
  try rw [Hb.out]
  go_wp2_with fail
  go_loopg [5, 44] n (fun g _ i wr => ∃ k : Nat, g + k = n ∧ i = .int .i64 k ∧ Chg [] W1 wr)
  case atStart => exact ⟨0, rfl, rfl, Chg.refl _ _⟩
  case round =>
    obtain ⟨k, hk, rfl, hC⟩ := hrel
    obtain ⟨x0, x1, x2, x3, x4⟩ := sc_all (hC.has HX.out nmN)
    obtain ⟨y0, y1, y2, y3, y4⟩ := sc_all (hC.has HY.out nmN)
    by_cases hlt : k < n
    · have hlt2 : k < s.l.length := by rw [← HN.out]; exact hlt
      obtain ⟨x, hx⟩ : ∃ x, s.l[k]? = some x := ⟨_, List.getElem?_eq_getElem hlt2⟩
      obtain ⟨ba, oa, rfl, _, hca⟩ := (HA.out.chg hC (by simp)) (by omega)
      obtain ⟨bb, ob, rfl, _, hcb⟩ := (HB.out.chg hC (by simp)) (by omega)
      obtain ⟨u0, u1, u2, u3, u4, u5⟩ := readsC_at hca hx
      obtain ⟨v0, v1, v2, v3, v4, v5⟩ := readsC_at hcb hx
      have en := fun w => ch_neq x x w
      simp only [cv, decide_true, Bool.not_true] at en
      have HC := Lib.hid hC; have HK := Lib.hid hk
      clear hca hcb hx hC hk
      go_upto_region 6 with fail
      go_quiet (fail)
      go_wp2_with fail
      go_roundg (n - (k + 1))
      case measure => have := HK.out; omega
      case rel => exact ⟨k + 1, by have := HK.out; omega, by go_num, by first | exact HC.out.drewN _ | exact HC.out⟩
    · obtain rfl : k = n := by omega
      have HC := Lib.hid hC
      clear hC hk
      go_wp2_with fail
      go_ret
      exact ⟨rfl, HC1.out.trans HC.out⟩

theorem itoa_digit {u : Nat} (h : u < 10) : itoa (u : Int) = [UInt8.ofNat (48 + u)] := by
  unfold itoa
  rw [if_neg (by omega), show ((u : Int)).toNat = u by omega, decDigits, dif_pos h]
/-- The script of three lines. -/
def sc3 : Sc := ⟨4, 1, 0, [97], [⟨2, 2, 0, 0, 0, []⟩, ⟨1, 1, 0, 7, 0, [109]⟩]⟩
def t3 : List UInt8 := [98, 101, 110, 99, 104, 32, 52, 32, 49, 32, 48, 32, 54, 49, 10, 116, 105, 99, 107, 32, 50, 10, 115, 117, 98, 109, 105, 116, 32, 49, 32, 55, 32, 54, 100, 10]
theorem sc3_ok : sc3.ok := by
  refine ⟨by unfold In64 sc3; decide, by unfold In64 sc3; decide, by unfold In64 sc3; decide, fun x hx => ?_⟩
  simp only [sc3, List.mem_cons] at hx
  rcases hx with rfl | rfl | hx
  · exact ⟨by decide, by decide, by decide, by decide, by decide⟩
  · exact ⟨by decide, by decide, by decide, by decide, by decide⟩
  · cases hx
theorem sc3_format : formatS sc3 = (t3, 0) := by
  have e0 : itoa 0 = [48] := itoa_digit (u := 0) (by decide)
  have e1 : itoa 1 = [49] := itoa_digit (u := 1) (by decide)
  have e2 : itoa 2 = [50] := itoa_digit (u := 2) (by decide)
  have e4 : itoa 4 = [52] := itoa_digit (u := 4) (by decide)
  have e7 : itoa 7 = [55] := itoa_digit (u := 7) (by decide)
  have h1 : headL sc3 = [98, 101, 110, 99, 104, 32, 52, 32, 49, 32, 48, 32, 54, 49] := by
    show join [benchW, itoa 4, itoa 1, itoa 0, hexL [97]] [32] = _
    rw [e4, e1, e0]; decide
  have h2 : lineL ⟨2, 2, 0, 0, 0, []⟩ = [116, 105, 99, 107, 32, 50] := by
    show [116, 105, 99, 107] ++ ((32 :: itoa 2) ++ []) = _
    rw [e2]; rfl
  have h3 : lineL ⟨1, 1, 0, 7, 0, [109]⟩ = [115, 117, 98, 109, 105, 116, 32, 49, 32, 55, 32, 54, 100] := by
    show [115, 117, 98, 109, 105, 116] ++ ((32 :: itoa 1) ++ ((32 :: itoa 7) ++ ((32 :: hexL [109]) ++ []))) = _
    rw [e1, e7]; decide
  unfold formatS
  rw [if_neg (by decide), if_neg (by decide), if_pos (by decide)]
  show (join (headL sc3 :: [lineL ⟨2, 2, 0, 0, 0, []⟩, lineL ⟨1, 1, 0, 7, 0, [109]⟩]) [10] ++ [10], (0 : Int)) = _
  rw [h1, h2, h3]
  decide
theorem sc3_parse : parseS t3 = (sc3, 0, 0) := format_parse sc3_ok sc3_format

end Go.Proofs.YtkcfbacapaonaaaDoor
