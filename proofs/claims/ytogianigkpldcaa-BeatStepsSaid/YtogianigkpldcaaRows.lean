/-
  No cell of these rows narrows 'for every input' (looked for: loops, veiled, ifaces, maps, wideKeys, modest, calm, conditions, laid).
  DERIVED. THE GIVEN ROWS OF THIS SEAT. 6 by the template 'for every input the law returns true; each argument reads behind the call as it read before'; 0 by the template 'total and deterministic' (their statements: YtogianigkpldcaaTotals.lean).
  GIVEN WITH THE SEED: the statements are not yours to turn. If you find one false, say at which input.
  Laid BY PROGRAM, IN A SANDBOX (cutbox-rows.mjs): the forced cells as the released guide's own fill.sh prints them over the translation 80675641e5a498b4… (all of the seat's roots in one cut). By AI agents, Wed Nov 11 2026. No macro, syntax, notation, axiom, sorry.
-/
import Derived.Test.YtogianigkpldcaaChecked
import GoSem.Claim
import GoSem.ClaimJoined
import GoSem.ClaimMapViews
import Derived.JoinedTies
import Derived.KernelRfl
namespace Go.Proofs.Ytogianigkpldcaa
/- THE CELL 'sum', in the pinned program and in every row, IS THE sha256 OF THE DUMP (.gsa) THAT YtogianigkpldcaaProg.lean LOADS. Nothing in Lean hashes anything: it is a label: what it is worth is what the hold of that sum in a sandbox is worth. -/
noncomputable def Try.pinned : Pinned := { name := "ytogianigkpldcaa", sum := "80675641e5a498b49ceeb77e625b9639d76b652dc219aa6307a767ad1433b20a", checked := Try.checked }
namespace Rows
def none {H : Type} : Left H := { results := [], args := [] }

/-- 'wardmotelaw14.BeatFew': WHATEVER THE INPUT: true; the input reads as it did. -/
def beatFewSpec : ChangeSpec := { name := "beatFew", fn := fun _ => fun
  | [d] => { results := [.lit (.bool true)], args := [d] }
  | _ => none }
def beatFewRow : OpenClaim := { program := "ytogianigkpldcaa", sum := "80675641e5a498b49ceeb77e625b9639d76b652dc219aa6307a767ad1433b20a", func := "wardmote/wardmotelaw14.BeatFew", spec := "beatFew", unfollowed := true, recurses := true, apart := false }
def BeatFewSaid : Prop := beatFewRow.holds Try.pinned (OpenSpec.ofChange beatFewSpec)

/-- ITS FALSE NEIGHBOUR: 'it returns false'. Refute it at one input. -/
def beatFewWrong : ChangeSpec := { name := "beatFew", fn := fun _ => fun
  | [d] => { results := [.lit (.bool false)], args := [d] }
  | _ => none }
def BeatFewWrongFalsely : Prop := beatFewRow.holds Try.pinned (OpenSpec.ofChange beatFewWrong)

/-- 'wardmotelaw14.BeatHeard': WHATEVER THE INPUT: true; the input reads as it did. -/
def beatHeardSpec : ChangeSpec := { name := "beatHeard", fn := fun _ => fun
  | [d1, d2, d3] => { results := [.lit (.bool true)], args := [d1, d2, d3] }
  | _ => none }
def beatHeardRow : OpenClaim := { program := "ytogianigkpldcaa", sum := "80675641e5a498b49ceeb77e625b9639d76b652dc219aa6307a767ad1433b20a", func := "wardmote/wardmotelaw14.BeatHeard", spec := "beatHeard", unfollowed := true, recurses := true, apart := false }
def BeatHeardSaid : Prop := beatHeardRow.holds Try.pinned (OpenSpec.ofChange beatHeardSpec)

/-- ITS FALSE NEIGHBOUR: 'it returns false'. Refute it at one input. -/
def beatHeardWrong : ChangeSpec := { name := "beatHeard", fn := fun _ => fun
  | [d1, d2, d3] => { results := [.lit (.bool false)], args := [d1, d2, d3] }
  | _ => none }
def BeatHeardWrongFalsely : Prop := beatHeardRow.holds Try.pinned (OpenSpec.ofChange beatHeardWrong)

/-- 'wardmotelaw14.BeatSteps': WHATEVER THE INPUT: true; the input reads as it did. -/
def beatStepsSpec : ChangeSpec := { name := "beatSteps", fn := fun _ => fun
  | [d1, d2, d3] => { results := [.lit (.bool true)], args := [d1, d2, d3] }
  | _ => none }
def beatStepsRow : OpenClaim := { program := "ytogianigkpldcaa", sum := "80675641e5a498b49ceeb77e625b9639d76b652dc219aa6307a767ad1433b20a", func := "wardmote/wardmotelaw14.BeatSteps", spec := "beatSteps", unfollowed := true, recurses := true, apart := false }
def BeatStepsSaid : Prop := beatStepsRow.holds Try.pinned (OpenSpec.ofChange beatStepsSpec)

/-- ITS FALSE NEIGHBOUR: 'it returns false'. Refute it at one input. -/
def beatStepsWrong : ChangeSpec := { name := "beatSteps", fn := fun _ => fun
  | [d1, d2, d3] => { results := [.lit (.bool false)], args := [d1, d2, d3] }
  | _ => none }
def BeatStepsWrongFalsely : Prop := beatStepsRow.holds Try.pinned (OpenSpec.ofChange beatStepsWrong)

/-- 'wardmotelaw14.BeatRound': WHATEVER THE INPUT: true; the input reads as it did. -/
def beatRoundSpec : ChangeSpec := { name := "beatRound", fn := fun _ => fun
  | [d1, d2] => { results := [.lit (.bool true)], args := [d1, d2] }
  | _ => none }
def beatRoundRow : OpenClaim := { program := "ytogianigkpldcaa", sum := "80675641e5a498b49ceeb77e625b9639d76b652dc219aa6307a767ad1433b20a", func := "wardmote/wardmotelaw14.BeatRound", spec := "beatRound", unfollowed := true, recurses := true, apart := false }
def BeatRoundSaid : Prop := beatRoundRow.holds Try.pinned (OpenSpec.ofChange beatRoundSpec)

/-- ITS FALSE NEIGHBOUR: 'it returns false'. Refute it at one input. -/
def beatRoundWrong : ChangeSpec := { name := "beatRound", fn := fun _ => fun
  | [d1, d2] => { results := [.lit (.bool false)], args := [d1, d2] }
  | _ => none }
def BeatRoundWrongFalsely : Prop := beatRoundRow.holds Try.pinned (OpenSpec.ofChange beatRoundWrong)

/-- 'wardmotelaw14.BeatNil': WHATEVER THE INPUT: true; the input reads as it did. -/
def beatNilSpec : ChangeSpec := { name := "beatNil", fn := fun _ => fun
  | [d] => { results := [.lit (.bool true)], args := [d] }
  | _ => none }
def beatNilRow : OpenClaim := { program := "ytogianigkpldcaa", sum := "80675641e5a498b49ceeb77e625b9639d76b652dc219aa6307a767ad1433b20a", func := "wardmote/wardmotelaw14.BeatNil", spec := "beatNil", unfollowed := true, recurses := true, apart := false }
def BeatNilSaid : Prop := beatNilRow.holds Try.pinned (OpenSpec.ofChange beatNilSpec)

/-- ITS FALSE NEIGHBOUR: 'it returns false'. Refute it at one input. -/
def beatNilWrong : ChangeSpec := { name := "beatNil", fn := fun _ => fun
  | [d] => { results := [.lit (.bool false)], args := [d] }
  | _ => none }
def BeatNilWrongFalsely : Prop := beatNilRow.holds Try.pinned (OpenSpec.ofChange beatNilWrong)

/-- 'wardmotelaw14.BeatTurns': WHATEVER THE INPUT: true; the input reads as it did. -/
def beatTurnsSpec : ChangeSpec := { name := "beatTurns", fn := fun _ => fun
  | [d1, d2, d3] => { results := [.lit (.bool true)], args := [d1, d2, d3] }
  | _ => none }
def beatTurnsRow : OpenClaim := { program := "ytogianigkpldcaa", sum := "80675641e5a498b49ceeb77e625b9639d76b652dc219aa6307a767ad1433b20a", func := "wardmote/wardmotelaw14.BeatTurns", spec := "beatTurns", unfollowed := true, recurses := true, apart := false }
def BeatTurnsSaid : Prop := beatTurnsRow.holds Try.pinned (OpenSpec.ofChange beatTurnsSpec)

/-- ITS FALSE NEIGHBOUR: 'it returns false'. Refute it at one input. -/
def beatTurnsWrong : ChangeSpec := { name := "beatTurns", fn := fun _ => fun
  | [d1, d2, d3] => { results := [.lit (.bool false)], args := [d1, d2, d3] }
  | _ => none }
def BeatTurnsWrongFalsely : Prop := beatTurnsRow.holds Try.pinned (OpenSpec.ofChange beatTurnsWrong)

/- THE SECOND FORM. 'bulk': how many values and letters a reading holds, each counted each time it is reached (what is shared counts as often as it is met; a slice's spare places count too). A statement '..UptoSaid' is the law's where the arguments, and the package variables that the reading takes, are together of bulk at most 1048576: NARROWER than '..Said'. Prove '..Said' where nothing that the law and all that it calls make is longer than what came in: it says more and counts as full. Else prove '..UptoSaid'. A law counts once. -/
mutual
def uptoBulk {H : Type} : DataW H → Nat
  | .lit (.string bytes) => bytes.length + 1
  | .lit _ => 1
  | .nil => 1
  | .ptr d => uptoBulk d + 1
  | .slice elems spare => uptoBulkAll elems + uptoBulkAll spare + 1
  | .agg parts => uptoBulkAll parts + 1
  | .iface _ d => uptoBulk d + 1
  | .map entries => uptoBulkEntries entries + 1
  | .held _ => 1
def uptoBulkAll {H : Type} : List (DataW H) → Nat
  | [] => 0
  | d :: r => uptoBulk d + uptoBulkAll r
def uptoBulkEntries {H : Type} : List (Lit × DataW H) → Nat
  | [] => 0
  | x :: r => uptoBulkEntry x + uptoBulkEntries r
def uptoBulkEntry {H : Type} : Lit × DataW H → Nat
  | (.string bytes, d) => bytes.length + uptoBulk d + 1
  | (_, d) => uptoBulk d + 1
 end
def uptoSmall : (H : Type) → List (DataW H) → Bool := fun _ ds => decide (uptoBulkAll ds ≤ 1048576)
def OpenSpec.upto (s : _root_.Go.ChangeSpec) : _root_.Go.OpenSpec := { _root_.Go.OpenSpec.ofChange s with cond := some uptoSmall }

/-- 'wardmotelaw14.BeatFew', WHERE WHAT IT READS IS OF BULK AT MOST 1048576: true; the input reads as it did. -/
def beatFewUptoRow : OpenClaim := { program := "ytogianigkpldcaa", sum := "80675641e5a498b49ceeb77e625b9639d76b652dc219aa6307a767ad1433b20a", func := "wardmote/wardmotelaw14.BeatFew", spec := "beatFew", unfollowed := true, recurses := true, apart := false, narrowed := true }
def BeatFewUptoSaid : Prop := beatFewUptoRow.holds Try.pinned (OpenSpec.upto beatFewSpec)

/-- 'wardmotelaw14.BeatHeard', WHERE WHAT IT READS IS OF BULK AT MOST 1048576: true; the input reads as it did. -/
def beatHeardUptoRow : OpenClaim := { program := "ytogianigkpldcaa", sum := "80675641e5a498b49ceeb77e625b9639d76b652dc219aa6307a767ad1433b20a", func := "wardmote/wardmotelaw14.BeatHeard", spec := "beatHeard", unfollowed := true, recurses := true, apart := false, narrowed := true }
def BeatHeardUptoSaid : Prop := beatHeardUptoRow.holds Try.pinned (OpenSpec.upto beatHeardSpec)

/-- 'wardmotelaw14.BeatSteps', WHERE WHAT IT READS IS OF BULK AT MOST 1048576: true; the input reads as it did. -/
def beatStepsUptoRow : OpenClaim := { program := "ytogianigkpldcaa", sum := "80675641e5a498b49ceeb77e625b9639d76b652dc219aa6307a767ad1433b20a", func := "wardmote/wardmotelaw14.BeatSteps", spec := "beatSteps", unfollowed := true, recurses := true, apart := false, narrowed := true }
def BeatStepsUptoSaid : Prop := beatStepsUptoRow.holds Try.pinned (OpenSpec.upto beatStepsSpec)

/-- 'wardmotelaw14.BeatRound', WHERE WHAT IT READS IS OF BULK AT MOST 1048576: true; the input reads as it did. -/
def beatRoundUptoRow : OpenClaim := { program := "ytogianigkpldcaa", sum := "80675641e5a498b49ceeb77e625b9639d76b652dc219aa6307a767ad1433b20a", func := "wardmote/wardmotelaw14.BeatRound", spec := "beatRound", unfollowed := true, recurses := true, apart := false, narrowed := true }
def BeatRoundUptoSaid : Prop := beatRoundUptoRow.holds Try.pinned (OpenSpec.upto beatRoundSpec)

/-- 'wardmotelaw14.BeatNil', WHERE WHAT IT READS IS OF BULK AT MOST 1048576: true; the input reads as it did. -/
def beatNilUptoRow : OpenClaim := { program := "ytogianigkpldcaa", sum := "80675641e5a498b49ceeb77e625b9639d76b652dc219aa6307a767ad1433b20a", func := "wardmote/wardmotelaw14.BeatNil", spec := "beatNil", unfollowed := true, recurses := true, apart := false, narrowed := true }
def BeatNilUptoSaid : Prop := beatNilUptoRow.holds Try.pinned (OpenSpec.upto beatNilSpec)

/-- 'wardmotelaw14.BeatTurns', WHERE WHAT IT READS IS OF BULK AT MOST 1048576: true; the input reads as it did. -/
def beatTurnsUptoRow : OpenClaim := { program := "ytogianigkpldcaa", sum := "80675641e5a498b49ceeb77e625b9639d76b652dc219aa6307a767ad1433b20a", func := "wardmote/wardmotelaw14.BeatTurns", spec := "beatTurns", unfollowed := true, recurses := true, apart := false, narrowed := true }
def BeatTurnsUptoSaid : Prop := beatTurnsUptoRow.holds Try.pinned (OpenSpec.upto beatTurnsSpec)

end Rows
end Go.Proofs.Ytogianigkpldcaa
