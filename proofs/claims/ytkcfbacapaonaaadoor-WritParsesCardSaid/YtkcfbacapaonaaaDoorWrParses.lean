/- WritParses over readings. -/
import Derived.Test.YtkcfbacapaonaaaDoorWrX
import Derived.Test.YtkcfbacapaonaaaDoorWrY
namespace Go.Proofs.YtkcfbacapaonaaaDoor
set_option linter.unusedVariables false
set_option linter.unusedSimpArgs false
open Go.ChangeShapes Go.WideShapes Go.ChangeAt Go.RowKit Go.Lib

set_option maxRecDepth 100000 in
theorem writParses_law {H : Type} (enc : TypeId × Value → H) (W : World) (hg : GW W) {base : Nat} {v0 : Value} {d0 : DataW H} {p0 : List MemPlace}
    (h0 : DataW.Trod enc Tryd.prog W 0 (fun _ => true) true 9 v0 d0 p0) (k0 : Value.okWide Tryd.prog W .any base 9 v0)
    (_ : (DataW.weightsEach Tryd.prog [9] [d0]).all (· ≤ reachBytes) = true) :
    Calls Tryd.prog 4 #[v0] W fun e W' => e = .returned (.bool true) ∧ Below W.heap.size W W' := by
  obtain ⟨s, rfl, rfl, rfl, _⟩ := Go.ChangeMaps.open_string Tryd.underlying9 k0 h0
  exact (parses_walk s W hg).mono fun _ _ ⟨h1, h2⟩ => ⟨h1, h2.below⟩

end Go.Proofs.YtkcfbacapaonaaaDoor
