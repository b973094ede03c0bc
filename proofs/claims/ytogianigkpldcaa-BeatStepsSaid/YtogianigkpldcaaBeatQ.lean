/- BeatSteps: its arguments opened; the law. -/
import Derived.Test.YtogianigkpldcaaBeatP
namespace Go.Proofs.Ytogianigkpldcaa
set_option linter.unusedVariables false
set_option linter.unusedSimpArgs false
open Go.RowKit

set_option maxRecDepth 100000 in
theorem bsteps_any (n me : Int) (a : Option Addr) (cap : Nat) (zs : List St3) (W : World) (hR : ReadsT W a zs) :
    Calls Try.prog 5 #[.int .i64 n, .int .i64 me, .slice a zs.length cap] W fun e w' => e = .returned (.bool true) ∧ Below W.heap.size W w' := by
  by_cases hb : newOK n me 3
  · obtain ⟨h1, h2, h3, h4, h5, h6⟩ := hb
    obtain ⟨k, rfl⟩ : ∃ k : Nat, n = k := ⟨n.toNat, by omega⟩
    obtain ⟨m, rfl⟩ : ∃ m : Nat, me = m := ⟨me.toNat, by omega⟩
    by_cases hz : zs.length ≤ 400
    · exact bsteps_main k m a cap zs W hR hz (by omega) (by omega)
    · clear hR
      have h1 : 400 < (zs.length : Int) := by omega
      go_enter Try.func5, Try.ntmps5
      go_wp2_with fail
      refine (new_ok k m 3 _ ⟨by omega, h2, h3, h4, h5, h6⟩).mono ?_
      rintro e w1 ⟨p, q, rfl, hp, hq, hW, hC⟩
      have HC := Lib.hid hC; clear hC hW
      go_wp2_with fail
      refine (rnew_ok k m 3 _ ⟨by omega, h2, h3, h4, h5, h6⟩).mono ?_
      rintro e w2 ⟨p', q', c', rfl, hp', hq', hR, hC2⟩
      have HC2 := Lib.hid (HC.out.trans hC2); clear hC2 hR
      go_wp2_with fail
      refine (five_ok _).mono ?_
      rintro e w3 ⟨rfl, hC3⟩
      go_wp2_with fail
      go_ret
      exact ⟨rfl, (HC2.out.trans hC3).below⟩
  · have HB := Lib.hid hb
    clear hR hb
    go_enter Try.func5, Try.ntmps5
    go_wp2_with fail
    refine (new_bad n me 3 _ HB.out).mono ?_
    rintro e w1 ⟨rfl, rfl⟩
    go_wp2_with fail
    refine (rnew_bad n me 3 _ HB.out).mono ?_
    rintro e w2 ⟨rfl, rfl⟩
    go_wp2_with fail
    refine (five_ok _).mono ?_
    rintro e w3 ⟨rfl, hC3⟩
    go_wp2_with fail
    go_ret
    exact ⟨rfl, hC3.below⟩

section
open Go.WideShapes Go.ChangeShapes
variable {H : Type} (enc : TypeId × Value → H) (W : World)

theorem beatSteps_law {v0 v1 v2 : Value} {d0 d1 d2 : DataW H} {p0 p1 p2 : List MemPlace} {base : Nat}
    (h0 : DataW.Trod enc Try.prog W 0 (fun _ => true) true 3 v0 d0 p0) (k0 : Value.okWide Try.prog W .any base 3 v0)
    (h1 : DataW.Trod enc Try.prog W 0 (fun _ => true) true 3 v1 d1 p1) (k1 : Value.okWide Try.prog W .any base 3 v1)
    (h2 : DataW.Trod enc Try.prog W 0 (fun _ => true) true 22 v2 d2 p2) (k2 : Value.okWide Try.prog W .any base 22 v2)
    (_hsz : (DataW.weightsEach Try.prog [3, 3, 22] [d0, d1, d2]).all (· ≤ reachBytes) = true) :
    Calls Try.prog 5 #[v0, v1, v2] W fun e w' => e = .returned (.bool true) ∧ Below W.heap.size W w' := by
  obtain ⟨z, rfl, _⟩ := open_int (k := .i64) Try.underlying3 k0 h0
  obtain ⟨y, rfl, _⟩ := open_int (k := .i64) Try.underlying3 k1 h1
  obtain ⟨n2, g2⟩ := h2
  obtain ⟨a0, len0, cap0, rfl⟩ := okWide_slice Try.underlying22 k2
  obtain ⟨A, c, zs, hv, hz, hR⟩ := open_steps g2
  injection hv with e1 e2 e3
  subst e1; subst e2; subst e3
  exact bsteps_any z y _ _ zs W hR

end

end Go.Proofs.Ytogianigkpldcaa
