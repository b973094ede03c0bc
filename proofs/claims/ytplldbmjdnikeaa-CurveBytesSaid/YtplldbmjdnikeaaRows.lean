/-
  No cell of these rows narrows 'for every input' (looked for: loops, veiled, ifaces, maps, wideKeys, modest, calm, conditions, laid).
  DERIVED. THE GIVEN ROWS OF THIS SEAT. 8 by the template 'for every input the law returns true; each argument reads behind the call as it read before'; 0 by the template 'total and deterministic' (their statements: YtplldbmjdnikeaaTotals.lean).
  GIVEN WITH THE SEED: the statements are not yours to turn. If you find one false, say at which input.
  Laid BY PROGRAM, IN A SANDBOX (cutbox-rows.mjs): the forced cells as the released guide's own fill.sh prints them over the translation 959a6b5777cc2395… (all of the seat's roots in one cut). By AI agents, Wed Nov 11 2026. No macro, syntax, notation, axiom, sorry.
-/
import Derived.Test.YtplldbmjdnikeaaChecked
import GoSem.Claim
import GoSem.ClaimJoined
import GoSem.ClaimMapViews
import Derived.JoinedTies
import Derived.KernelRfl
namespace Go.Proofs.Ytplldbmjdnikeaa
/- THE CELL 'sum', in the pinned program and in every row, IS THE sha256 OF THE DUMP (.gsa) THAT YtplldbmjdnikeaaProg.lean LOADS. Nothing in Lean hashes anything: it is a label: what it is worth is what the hold of that sum in a sandbox is worth. -/
noncomputable def Try.pinned : Pinned := { name := "ytplldbmjdnikeaa", sum := "959a6b5777cc2395cc0080e66bf0278dd36a14673c023efb8f75c33a153490d0", checked := Try.checked }
namespace Rows
def none {H : Type} : Left H := { results := [], args := [] }

/-- 'wardmotelaw03.CurveSums': WHATEVER THE INPUT: true; the input reads as it did. -/
def curveSumsSpec : ChangeSpec := { name := "curveSums", fn := fun _ => fun
  | [d1, d2] => { results := [.lit (.bool true)], args := [d1, d2] }
  | _ => none }
def curveSumsRow : OpenClaim := { program := "ytplldbmjdnikeaa", sum := "959a6b5777cc2395cc0080e66bf0278dd36a14673c023efb8f75c33a153490d0", func := "wardmote/wardmotelaw03.CurveSums", spec := "curveSums", inPlace := ["math/bits.Add64", "math/bits.Sub64"], unfollowed := true, recurses := true, apart := false }
def CurveSumsSaid : Prop := curveSumsRow.holds Try.pinned (OpenSpec.ofChange curveSumsSpec)

/-- ITS FALSE NEIGHBOUR: 'it returns false'. Refute it at one input. -/
def curveSumsWrong : ChangeSpec := { name := "curveSums", fn := fun _ => fun
  | [d1, d2] => { results := [.lit (.bool false)], args := [d1, d2] }
  | _ => none }
def CurveSumsWrongFalsely : Prop := curveSumsRow.holds Try.pinned (OpenSpec.ofChange curveSumsWrong)

/-- 'wardmotelaw03.CurveGroup': WHATEVER THE INPUT: true; the input reads as it did. -/
def curveGroupSpec : ChangeSpec := { name := "curveGroup", fn := fun _ => fun
  | [d1, d2, d3] => { results := [.lit (.bool true)], args := [d1, d2, d3] }
  | _ => none }
def curveGroupRow : OpenClaim := { program := "ytplldbmjdnikeaa", sum := "959a6b5777cc2395cc0080e66bf0278dd36a14673c023efb8f75c33a153490d0", func := "wardmote/wardmotelaw03.CurveGroup", spec := "curveGroup", inPlace := ["math/bits.Add64", "math/bits.Sub64"], unfollowed := true, recurses := true, apart := false }
def CurveGroupSaid : Prop := curveGroupRow.holds Try.pinned (OpenSpec.ofChange curveGroupSpec)

/-- ITS FALSE NEIGHBOUR: 'it returns false'. Refute it at one input. -/
def curveGroupWrong : ChangeSpec := { name := "curveGroup", fn := fun _ => fun
  | [d1, d2, d3] => { results := [.lit (.bool false)], args := [d1, d2, d3] }
  | _ => none }
def CurveGroupWrongFalsely : Prop := curveGroupRow.holds Try.pinned (OpenSpec.ofChange curveGroupWrong)

/-- 'wardmotelaw03.CurveMany': WHATEVER THE INPUT: true; the input reads as it did. -/
def curveManySpec : ChangeSpec := { name := "curveMany", fn := fun _ => fun
  | [d1, d2] => { results := [.lit (.bool true)], args := [d1, d2] }
  | _ => none }
def curveManyRow : OpenClaim := { program := "ytplldbmjdnikeaa", sum := "959a6b5777cc2395cc0080e66bf0278dd36a14673c023efb8f75c33a153490d0", func := "wardmote/wardmotelaw03.CurveMany", spec := "curveMany", inPlace := ["math/bits.Add64", "math/bits.Sub64"], unfollowed := true, recurses := true, apart := false }
def CurveManySaid : Prop := curveManyRow.holds Try.pinned (OpenSpec.ofChange curveManySpec)

/-- ITS FALSE NEIGHBOUR: 'it returns false'. Refute it at one input. -/
def curveManyWrong : ChangeSpec := { name := "curveMany", fn := fun _ => fun
  | [d1, d2] => { results := [.lit (.bool false)], args := [d1, d2] }
  | _ => none }
def CurveManyWrongFalsely : Prop := curveManyRow.holds Try.pinned (OpenSpec.ofChange curveManyWrong)

/-- 'wardmotelaw03.CurveTimes': WHATEVER THE INPUT: true; the input reads as it did. -/
def curveTimesSpec : ChangeSpec := { name := "curveTimes", fn := fun _ => fun
  | [d1, d2] => { results := [.lit (.bool true)], args := [d1, d2] }
  | _ => none }
def curveTimesRow : OpenClaim := { program := "ytplldbmjdnikeaa", sum := "959a6b5777cc2395cc0080e66bf0278dd36a14673c023efb8f75c33a153490d0", func := "wardmote/wardmotelaw03.CurveTimes", spec := "curveTimes", inPlace := ["math/bits.Add64", "math/bits.Sub64"], unfollowed := true, recurses := true, apart := false }
def CurveTimesSaid : Prop := curveTimesRow.holds Try.pinned (OpenSpec.ofChange curveTimesSpec)

/-- ITS FALSE NEIGHBOUR: 'it returns false'. Refute it at one input. -/
def curveTimesWrong : ChangeSpec := { name := "curveTimes", fn := fun _ => fun
  | [d1, d2] => { results := [.lit (.bool false)], args := [d1, d2] }
  | _ => none }
def CurveTimesWrongFalsely : Prop := curveTimesRow.holds Try.pinned (OpenSpec.ofChange curveTimesWrong)

/-- 'wardmotelaw03.CurveLinear': WHATEVER THE INPUT: true; the input reads as it did. -/
def curveLinearSpec : ChangeSpec := { name := "curveLinear", fn := fun _ => fun
  | [d1, d2, d3] => { results := [.lit (.bool true)], args := [d1, d2, d3] }
  | _ => none }
def curveLinearRow : OpenClaim := { program := "ytplldbmjdnikeaa", sum := "959a6b5777cc2395cc0080e66bf0278dd36a14673c023efb8f75c33a153490d0", func := "wardmote/wardmotelaw03.CurveLinear", spec := "curveLinear", inPlace := ["math/bits.Add64", "math/bits.Sub64"], unfollowed := true, recurses := true, apart := false }
def CurveLinearSaid : Prop := curveLinearRow.holds Try.pinned (OpenSpec.ofChange curveLinearSpec)

/-- ITS FALSE NEIGHBOUR: 'it returns false'. Refute it at one input. -/
def curveLinearWrong : ChangeSpec := { name := "curveLinear", fn := fun _ => fun
  | [d1, d2, d3] => { results := [.lit (.bool false)], args := [d1, d2, d3] }
  | _ => none }
def CurveLinearWrongFalsely : Prop := curveLinearRow.holds Try.pinned (OpenSpec.ofChange curveLinearWrong)

/-- 'wardmotelaw03.CurveOrder': WHATEVER THE INPUT: true; the input reads as it did. -/
def curveOrderSpec : ChangeSpec := { name := "curveOrder", fn := fun _ => fun
  | [d1, d2] => { results := [.lit (.bool true)], args := [d1, d2] }
  | _ => none }
def curveOrderRow : OpenClaim := { program := "ytplldbmjdnikeaa", sum := "959a6b5777cc2395cc0080e66bf0278dd36a14673c023efb8f75c33a153490d0", func := "wardmote/wardmotelaw03.CurveOrder", spec := "curveOrder", inPlace := ["math/bits.Add64", "math/bits.Sub64"], unfollowed := true, recurses := true, apart := false }
def CurveOrderSaid : Prop := curveOrderRow.holds Try.pinned (OpenSpec.ofChange curveOrderSpec)

/-- ITS FALSE NEIGHBOUR: 'it returns false'. Refute it at one input. -/
def curveOrderWrong : ChangeSpec := { name := "curveOrder", fn := fun _ => fun
  | [d1, d2] => { results := [.lit (.bool false)], args := [d1, d2] }
  | _ => none }
def CurveOrderWrongFalsely : Prop := curveOrderRow.holds Try.pinned (OpenSpec.ofChange curveOrderWrong)

/-- 'wardmotelaw03.CurveCounts': WHATEVER THE INPUT: true; the input reads as it did. -/
def curveCountsSpec : ChangeSpec := { name := "curveCounts", fn := fun _ => fun
  | [d1, d2] => { results := [.lit (.bool true)], args := [d1, d2] }
  | _ => none }
def curveCountsRow : OpenClaim := { program := "ytplldbmjdnikeaa", sum := "959a6b5777cc2395cc0080e66bf0278dd36a14673c023efb8f75c33a153490d0", func := "wardmote/wardmotelaw03.CurveCounts", spec := "curveCounts", inPlace := ["math/bits.Add64", "math/bits.Sub64"], unfollowed := true, recurses := true, apart := false }
def CurveCountsSaid : Prop := curveCountsRow.holds Try.pinned (OpenSpec.ofChange curveCountsSpec)

/-- ITS FALSE NEIGHBOUR: 'it returns false'. Refute it at one input. -/
def curveCountsWrong : ChangeSpec := { name := "curveCounts", fn := fun _ => fun
  | [d1, d2] => { results := [.lit (.bool false)], args := [d1, d2] }
  | _ => none }
def CurveCountsWrongFalsely : Prop := curveCountsRow.holds Try.pinned (OpenSpec.ofChange curveCountsWrong)

/-- 'wardmotelaw03.CurveBytes': WHATEVER THE INPUT: true; the input reads as it did. -/
def curveBytesSpec : ChangeSpec := { name := "curveBytes", fn := fun _ => fun
  | [d1, d2] => { results := [.lit (.bool true)], args := [d1, d2] }
  | _ => none }
def curveBytesRow : OpenClaim := { program := "ytplldbmjdnikeaa", sum := "959a6b5777cc2395cc0080e66bf0278dd36a14673c023efb8f75c33a153490d0", func := "wardmote/wardmotelaw03.CurveBytes", spec := "curveBytes", inPlace := ["math/bits.Add64", "math/bits.Sub64"], unfollowed := true, recurses := true, apart := false }
def CurveBytesSaid : Prop := curveBytesRow.holds Try.pinned (OpenSpec.ofChange curveBytesSpec)

/-- ITS FALSE NEIGHBOUR: 'it returns false'. Refute it at one input. -/
def curveBytesWrong : ChangeSpec := { name := "curveBytes", fn := fun _ => fun
  | [d1, d2] => { results := [.lit (.bool false)], args := [d1, d2] }
  | _ => none }
def CurveBytesWrongFalsely : Prop := curveBytesRow.holds Try.pinned (OpenSpec.ofChange curveBytesWrong)

/- THE SECOND FORM. 'bulk': how many values and letters a reading holds, each counted each time it is reached (what is shared counts as often as it is met; a slice's spare places count too). A statement '..UptoSaid' is the law's where the arguments, and the package variables that the reading takes, are together of bulk at most 1048576: NARROWER than '..Said'. Prove '..Said' where nothing that the law and all that it calls make is longer than what came in: it says more and counts as full. Else prove '..UptoSaid'. A law counts once. -/
mutual
def uptoBulk {H : Type} : DataW H → Nat
  | .lit (.string bytes) => bytes.length + 1
  | .lit _ => 1
  | .nil => 1
  | .ptr d => uptoBulk d + 1
  | .slice elems spare => uptoBulkAll elems + uptoBulkAll spare + 1
  | .agg parts => uptoBulkAll parts + 1
  | .iface _ d => uptoBulk d + 1
  | .map entries => uptoBulkEntries entries + 1
  | .held _ => 1
def uptoBulkAll {H : Type} : List (DataW H) → Nat
  | [] => 0
  | d :: r => uptoBulk d + uptoBulkAll r
def uptoBulkEntries {H : Type} : List (Lit × DataW H) → Nat
  | [] => 0
  | x :: r => uptoBulkEntry x + uptoBulkEntries r
def uptoBulkEntry {H : Type} : Lit × DataW H → Nat
  | (.string bytes, d) => bytes.length + uptoBulk d + 1
  | (_, d) => uptoBulk d + 1
 end
def uptoSmall : (H : Type) → List (DataW H) → Bool := fun _ ds => decide (uptoBulkAll ds ≤ 1048576)
def OpenSpec.upto (s : _root_.Go.ChangeSpec) : _root_.Go.OpenSpec := { _root_.Go.OpenSpec.ofChange s with cond := some uptoSmall }

/-- 'wardmotelaw03.CurveSums', WHERE WHAT IT READS IS OF BULK AT MOST 1048576: true; the input reads as it did. -/
def curveSumsUptoRow : OpenClaim := { program := "ytplldbmjdnikeaa", sum := "959a6b5777cc2395cc0080e66bf0278dd36a14673c023efb8f75c33a153490d0", func := "wardmote/wardmotelaw03.CurveSums", spec := "curveSums", inPlace := ["math/bits.Add64", "math/bits.Sub64"], unfollowed := true, recurses := true, apart := false, narrowed := true }
def CurveSumsUptoSaid : Prop := curveSumsUptoRow.holds Try.pinned (OpenSpec.upto curveSumsSpec)

/-- 'wardmotelaw03.CurveGroup', WHERE WHAT IT READS IS OF BULK AT MOST 1048576: true; the input reads as it did. -/
def curveGroupUptoRow : OpenClaim := { program := "ytplldbmjdnikeaa", sum := "959a6b5777cc2395cc0080e66bf0278dd36a14673c023efb8f75c33a153490d0", func := "wardmote/wardmotelaw03.CurveGroup", spec := "curveGroup", inPlace := ["math/bits.Add64", "math/bits.Sub64"], unfollowed := true, recurses := true, apart := false, narrowed := true }
def CurveGroupUptoSaid : Prop := curveGroupUptoRow.holds Try.pinned (OpenSpec.upto curveGroupSpec)

/-- 'wardmotelaw03.CurveMany', WHERE WHAT IT READS IS OF BULK AT MOST 1048576: true; the input reads as it did. -/
def curveManyUptoRow : OpenClaim := { program := "ytplldbmjdnikeaa", sum := "959a6b5777cc2395cc0080e66bf0278dd36a14673c023efb8f75c33a153490d0", func := "wardmote/wardmotelaw03.CurveMany", spec := "curveMany", inPlace := ["math/bits.Add64", "math/bits.Sub64"], unfollowed := true, recurses := true, apart := false, narrowed := true }
def CurveManyUptoSaid : Prop := curveManyUptoRow.holds Try.pinned (OpenSpec.upto curveManySpec)

/-- 'wardmotelaw03.CurveTimes', WHERE WHAT IT READS IS OF BULK AT MOST 1048576: true; the input reads as it did. -/
def curveTimesUptoRow : OpenClaim := { program := "ytplldbmjdnikeaa", sum := "959a6b5777cc2395cc0080e66bf0278dd36a14673c023efb8f75c33a153490d0", func := "wardmote/wardmotelaw03.CurveTimes", spec := "curveTimes", inPlace := ["math/bits.Add64", "math/bits.Sub64"], unfollowed := true, recurses := true, apart := false, narrowed := true }
def CurveTimesUptoSaid : Prop := curveTimesUptoRow.holds Try.pinned (OpenSpec.upto curveTimesSpec)

/-- 'wardmotelaw03.CurveLinear', WHERE WHAT IT READS IS OF BULK AT MOST 1048576: true; the input reads as it did. -/
def curveLinearUptoRow : OpenClaim := { program := "ytplldbmjdnikeaa", sum := "959a6b5777cc2395cc0080e66bf0278dd36a14673c023efb8f75c33a153490d0", func := "wardmote/wardmotelaw03.CurveLinear", spec := "curveLinear", inPlace := ["math/bits.Add64", "math/bits.Sub64"], unfollowed := true, recurses := true, apart := false, narrowed := true }
def CurveLinearUptoSaid : Prop := curveLinearUptoRow.holds Try.pinned (OpenSpec.upto curveLinearSpec)

/-- 'wardmotelaw03.CurveOrder', WHERE WHAT IT READS IS OF BULK AT MOST 1048576: true; the input reads as it did. -/
def curveOrderUptoRow : OpenClaim := { program := "ytplldbmjdnikeaa", sum := "959a6b5777cc2395cc0080e66bf0278dd36a14673c023efb8f75c33a153490d0", func := "wardmote/wardmotelaw03.CurveOrder", spec := "curveOrder", inPlace := ["math/bits.Add64", "math/bits.Sub64"], unfollowed := true, recurses := true, apart := false, narrowed := true }
def CurveOrderUptoSaid : Prop := curveOrderUptoRow.holds Try.pinned (OpenSpec.upto curveOrderSpec)

/-- 'wardmotelaw03.CurveCounts', WHERE WHAT IT READS IS OF BULK AT MOST 1048576: true; the input reads as it did. -/
def curveCountsUptoRow : OpenClaim := { program := "ytplldbmjdnikeaa", sum := "959a6b5777cc2395cc0080e66bf0278dd36a14673c023efb8f75c33a153490d0", func := "wardmote/wardmotelaw03.CurveCounts", spec := "curveCounts", inPlace := ["math/bits.Add64", "math/bits.Sub64"], unfollowed := true, recurses := true, apart := false, narrowed := true }
def CurveCountsUptoSaid : Prop := curveCountsUptoRow.holds Try.pinned (OpenSpec.upto curveCountsSpec)

/-- 'wardmotelaw03.CurveBytes', WHERE WHAT IT READS IS OF BULK AT MOST 1048576: true; the input reads as it did. -/
def curveBytesUptoRow : OpenClaim := { program := "ytplldbmjdnikeaa", sum := "959a6b5777cc2395cc0080e66bf0278dd36a14673c023efb8f75c33a153490d0", func := "wardmote/wardmotelaw03.CurveBytes", spec := "curveBytes", inPlace := ["math/bits.Add64", "math/bits.Sub64"], unfollowed := true, recurses := true, apart := false, narrowed := true }
def CurveBytesUptoSaid : Prop := curveBytesUptoRow.holds Try.pinned (OpenSpec.upto curveBytesSpec)

end Rows
end Go.Proofs.Ytplldbmjdnikeaa
