/-
  No cell of these rows narrows 'for every input' (looked for: loops, veiled, ifaces, maps, wideKeys, modest, calm, conditions, laid).
  DERIVED. THE GIVEN ROWS OF THIS SEAT. 9 by the template 'for every input the law returns true; each argument reads behind the call as it read before'; 0 by the template 'total and deterministic' (their statements: YtgiackgdceanhaaTotals.lean).
  GIVEN WITH THE SEED: the statements are not yours to turn. If you find one false, say at which input.
  Laid BY PROGRAM, IN A SANDBOX (cutbox-rows.mjs): the forced cells as the released guide's own fill.sh prints them over the translation e128018fbf8fc9d3… (all of the seat's roots in one cut). By AI agents, Wed Nov 11 2026. No macro, syntax, notation, axiom, sorry.
-/
import Derived.Test.YtgiackgdceanhaaChecked
import GoSem.Claim
import GoSem.ClaimJoined
import GoSem.ClaimMapViews
import Derived.JoinedTies
import Derived.KernelRfl
namespace Go.Proofs.Ytgiackgdceanhaa
/- THE CELL 'sum', in the pinned program and in every row, IS THE sha256 OF THE DUMP (.gsa) THAT YtgiackgdceanhaaProg.lean LOADS. Nothing in Lean hashes anything: it is a label: what it is worth is what the hold of that sum in a sandbox is worth. -/
noncomputable def Try.pinned : Pinned := { name := "ytgiackgdceanhaa", sum := "e128018fbf8fc9d3088192e5ee88fabb39bfe4f302eb96c0c5e7c81e8380a6dc", checked := Try.checked }
namespace Rows
def none {H : Type} : Left H := { results := [], args := [] }

/-- 'wardmotelaw22.QueueRoom': WHATEVER THE INPUT: true; the input reads as it did. -/
def queueRoomSpec : ChangeSpec := { name := "queueRoom", fn := fun _ => fun
  | [d1, d2] => { results := [.lit (.bool true)], args := [d1, d2] }
  | _ => none }
def queueRoomRow : OpenClaim := { program := "ytgiackgdceanhaa", sum := "e128018fbf8fc9d3088192e5ee88fabb39bfe4f302eb96c0c5e7c81e8380a6dc", func := "wardmote/wardmotelaw22.QueueRoom", spec := "queueRoom", apart := false }
def QueueRoomSaid : Prop := queueRoomRow.holds Try.pinned (OpenSpec.ofChange queueRoomSpec)

/-- ITS FALSE NEIGHBOUR: 'it returns false'. Refute it at one input. -/
def queueRoomWrong : ChangeSpec := { name := "queueRoom", fn := fun _ => fun
  | [d1, d2] => { results := [.lit (.bool false)], args := [d1, d2] }
  | _ => none }
def QueueRoomWrongFalsely : Prop := queueRoomRow.holds Try.pinned (OpenSpec.ofChange queueRoomWrong)

/-- 'wardmotelaw22.QueueKeeps': WHATEVER THE INPUT: true; the input reads as it did. -/
def queueKeepsSpec : ChangeSpec := { name := "queueKeeps", fn := fun _ => fun
  | [d] => { results := [.lit (.bool true)], args := [d] }
  | _ => none }
def queueKeepsRow : OpenClaim := { program := "ytgiackgdceanhaa", sum := "e128018fbf8fc9d3088192e5ee88fabb39bfe4f302eb96c0c5e7c81e8380a6dc", func := "wardmote/wardmotelaw22.QueueKeeps", spec := "queueKeeps", apart := false }
def QueueKeepsSaid : Prop := queueKeepsRow.holds Try.pinned (OpenSpec.ofChange queueKeepsSpec)

/-- ITS FALSE NEIGHBOUR: 'it returns false'. Refute it at one input. -/
def queueKeepsWrong : ChangeSpec := { name := "queueKeeps", fn := fun _ => fun
  | [d] => { results := [.lit (.bool false)], args := [d] }
  | _ => none }
def QueueKeepsWrongFalsely : Prop := queueKeepsRow.holds Try.pinned (OpenSpec.ofChange queueKeepsWrong)

/-- 'wardmotelaw15.KingSteps': WHATEVER THE INPUT: true; the input reads as it did. -/
def kingStepsSpec : ChangeSpec := { name := "kingSteps", fn := fun _ => fun
  | [d1, d2] => { results := [.lit (.bool true)], args := [d1, d2] }
  | _ => none }
def kingStepsRow : OpenClaim := { program := "ytgiackgdceanhaa", sum := "e128018fbf8fc9d3088192e5ee88fabb39bfe4f302eb96c0c5e7c81e8380a6dc", func := "wardmote/wardmotelaw15.KingSteps", spec := "kingSteps", apart := false }
def KingStepsSaid : Prop := kingStepsRow.holds Try.pinned (OpenSpec.ofChange kingStepsSpec)

/-- ITS FALSE NEIGHBOUR: 'it returns false'. Refute it at one input. -/
def kingStepsWrong : ChangeSpec := { name := "kingSteps", fn := fun _ => fun
  | [d1, d2] => { results := [.lit (.bool false)], args := [d1, d2] }
  | _ => none }
def KingStepsWrongFalsely : Prop := kingStepsRow.holds Try.pinned (OpenSpec.ofChange kingStepsWrong)

/-- 'wardmotelaw15.KingAgrees': WHATEVER THE INPUT: true; the input reads as it did. -/
def kingAgreesSpec : ChangeSpec := { name := "kingAgrees", fn := fun _ => fun
  | [d1, d2, d3] => { results := [.lit (.bool true)], args := [d1, d2, d3] }
  | _ => none }
def kingAgreesRow : OpenClaim := { program := "ytgiackgdceanhaa", sum := "e128018fbf8fc9d3088192e5ee88fabb39bfe4f302eb96c0c5e7c81e8380a6dc", func := "wardmote/wardmotelaw15.KingAgrees", spec := "kingAgrees", apart := false }
def KingAgreesSaid : Prop := kingAgreesRow.holds Try.pinned (OpenSpec.ofChange kingAgreesSpec)

/-- ITS FALSE NEIGHBOUR: 'it returns false'. Refute it at one input. -/
def kingAgreesWrong : ChangeSpec := { name := "kingAgrees", fn := fun _ => fun
  | [d1, d2, d3] => { results := [.lit (.bool false)], args := [d1, d2, d3] }
  | _ => none }
def KingAgreesWrongFalsely : Prop := kingAgreesRow.holds Try.pinned (OpenSpec.ofChange kingAgreesWrong)

/-- 'wardmotelaw15.KingKeeps': WHATEVER THE INPUT: true; the input reads as it did. -/
def kingKeepsSpec : ChangeSpec := { name := "kingKeeps", fn := fun _ => fun
  | [d1, d2] => { results := [.lit (.bool true)], args := [d1, d2] }
  | _ => none }
def kingKeepsRow : OpenClaim := { program := "ytgiackgdceanhaa", sum := "e128018fbf8fc9d3088192e5ee88fabb39bfe4f302eb96c0c5e7c81e8380a6dc", func := "wardmote/wardmotelaw15.KingKeeps", spec := "kingKeeps", apart := false }
def KingKeepsSaid : Prop := kingKeepsRow.holds Try.pinned (OpenSpec.ofChange kingKeepsSpec)

/-- ITS FALSE NEIGHBOUR: 'it returns false'. Refute it at one input. -/
def kingKeepsWrong : ChangeSpec := { name := "kingKeeps", fn := fun _ => fun
  | [d1, d2] => { results := [.lit (.bool false)], args := [d1, d2] }
  | _ => none }
def KingKeepsWrongFalsely : Prop := kingKeepsRow.holds Try.pinned (OpenSpec.ofChange kingKeepsWrong)

/-- 'wardmotelaw15.KingNil': WHATEVER THE INPUT: true; the input reads as it did. -/
def kingNilSpec : ChangeSpec := { name := "kingNil", fn := fun _ => fun
  | [d] => { results := [.lit (.bool true)], args := [d] }
  | _ => none }
def kingNilRow : OpenClaim := { program := "ytgiackgdceanhaa", sum := "e128018fbf8fc9d3088192e5ee88fabb39bfe4f302eb96c0c5e7c81e8380a6dc", func := "wardmote/wardmotelaw15.KingNil", spec := "kingNil", apart := false }
def KingNilSaid : Prop := kingNilRow.holds Try.pinned (OpenSpec.ofChange kingNilSpec)

/-- ITS FALSE NEIGHBOUR: 'it returns false'. Refute it at one input. -/
def kingNilWrong : ChangeSpec := { name := "kingNil", fn := fun _ => fun
  | [d] => { results := [.lit (.bool false)], args := [d] }
  | _ => none }
def KingNilWrongFalsely : Prop := kingNilRow.holds Try.pinned (OpenSpec.ofChange kingNilWrong)

/-- 'wardmotelaw15.KingAlone': WHATEVER THE INPUT: true; the input reads as it did. -/
def kingAloneSpec : ChangeSpec := { name := "kingAlone", fn := fun _ => fun
  | [d1, d2] => { results := [.lit (.bool true)], args := [d1, d2] }
  | _ => none }
def kingAloneRow : OpenClaim := { program := "ytgiackgdceanhaa", sum := "e128018fbf8fc9d3088192e5ee88fabb39bfe4f302eb96c0c5e7c81e8380a6dc", func := "wardmote/wardmotelaw15.KingAlone", spec := "kingAlone", apart := false }
def KingAloneSaid : Prop := kingAloneRow.holds Try.pinned (OpenSpec.ofChange kingAloneSpec)

/-- ITS FALSE NEIGHBOUR: 'it returns false'. Refute it at one input. -/
def kingAloneWrong : ChangeSpec := { name := "kingAlone", fn := fun _ => fun
  | [d1, d2] => { results := [.lit (.bool false)], args := [d1, d2] }
  | _ => none }
def KingAloneWrongFalsely : Prop := kingAloneRow.holds Try.pinned (OpenSpec.ofChange kingAloneWrong)

/-- 'wardmotelaw22.QueueSteps': WHATEVER THE INPUT: true; the input reads as it did. -/
def queueStepsSpec : ChangeSpec := { name := "queueSteps", fn := fun _ => fun
  | [d] => { results := [.lit (.bool true)], args := [d] }
  | _ => none }
def queueStepsRow : OpenClaim := { program := "ytgiackgdceanhaa", sum := "e128018fbf8fc9d3088192e5ee88fabb39bfe4f302eb96c0c5e7c81e8380a6dc", func := "wardmote/wardmotelaw22.QueueSteps", spec := "queueSteps", apart := false }
def QueueStepsSaid : Prop := queueStepsRow.holds Try.pinned (OpenSpec.ofChange queueStepsSpec)

/-- ITS FALSE NEIGHBOUR: 'it returns false'. Refute it at one input. -/
def queueStepsWrong : ChangeSpec := { name := "queueSteps", fn := fun _ => fun
  | [d] => { results := [.lit (.bool false)], args := [d] }
  | _ => none }
def QueueStepsWrongFalsely : Prop := queueStepsRow.holds Try.pinned (OpenSpec.ofChange queueStepsWrong)

/-- 'wardmotelaw22.QueueNil': WHATEVER THE INPUT: true; the input reads as it did. -/
def queueNilSpec : ChangeSpec := { name := "queueNil", fn := fun _ => fun
  | [d] => { results := [.lit (.bool true)], args := [d] }
  | _ => none }
def queueNilRow : OpenClaim := { program := "ytgiackgdceanhaa", sum := "e128018fbf8fc9d3088192e5ee88fabb39bfe4f302eb96c0c5e7c81e8380a6dc", func := "wardmote/wardmotelaw22.QueueNil", spec := "queueNil", apart := false }
def QueueNilSaid : Prop := queueNilRow.holds Try.pinned (OpenSpec.ofChange queueNilSpec)

/-- ITS FALSE NEIGHBOUR: 'it returns false'. Refute it at one input. -/
def queueNilWrong : ChangeSpec := { name := "queueNil", fn := fun _ => fun
  | [d] => { results := [.lit (.bool false)], args := [d] }
  | _ => none }
def QueueNilWrongFalsely : Prop := queueNilRow.holds Try.pinned (OpenSpec.ofChange queueNilWrong)

/- THE SECOND FORM. 'bulk': how many values and letters a reading holds, each counted each time it is reached (what is shared counts as often as it is met; a slice's spare places count too). A statement '..UptoSaid' is the law's where the arguments, and the package variables that the reading takes, are together of bulk at most 1048576: NARROWER than '..Said'. Prove '..Said' where nothing that the law and all that it calls make is longer than what came in: it says more and counts as full. Else prove '..UptoSaid'. A law counts once. -/
mutual
def uptoBulk {H : Type} : DataW H → Nat
  | .lit (.string bytes) => bytes.length + 1
  | .lit _ => 1
  | .nil => 1
  | .ptr d => uptoBulk d + 1
  | .slice elems spare => uptoBulkAll elems + uptoBulkAll spare + 1
  | .agg parts => uptoBulkAll parts + 1
  | .iface _ d => uptoBulk d + 1
  | .map entries => uptoBulkEntries entries + 1
  | .held _ => 1
def uptoBulkAll {H : Type} : List (DataW H) → Nat
  | [] => 0
  | d :: r => uptoBulk d + uptoBulkAll r
def uptoBulkEntries {H : Type} : List (Lit × DataW H) → Nat
  | [] => 0
  | x :: r => uptoBulkEntry x + uptoBulkEntries r
def uptoBulkEntry {H : Type} : Lit × DataW H → Nat
  | (.string bytes, d) => bytes.length + uptoBulk d + 1
  | (_, d) => uptoBulk d + 1
 end
def uptoSmall : (H : Type) → List (DataW H) → Bool := fun _ ds => decide (uptoBulkAll ds ≤ 1048576)
def OpenSpec.upto (s : _root_.Go.ChangeSpec) : _root_.Go.OpenSpec := { _root_.Go.OpenSpec.ofChange s with cond := some uptoSmall }

/-- 'wardmotelaw22.QueueRoom', WHERE WHAT IT READS IS OF BULK AT MOST 1048576: true; the input reads as it did. -/
def queueRoomUptoRow : OpenClaim := { program := "ytgiackgdceanhaa", sum := "e128018fbf8fc9d3088192e5ee88fabb39bfe4f302eb96c0c5e7c81e8380a6dc", func := "wardmote/wardmotelaw22.QueueRoom", spec := "queueRoom", apart := false, narrowed := true }
def QueueRoomUptoSaid : Prop := queueRoomUptoRow.holds Try.pinned (OpenSpec.upto queueRoomSpec)

/-- 'wardmotelaw22.QueueKeeps', WHERE WHAT IT READS IS OF BULK AT MOST 1048576: true; the input reads as it did. -/
def queueKeepsUptoRow : OpenClaim := { program := "ytgiackgdceanhaa", sum := "e128018fbf8fc9d3088192e5ee88fabb39bfe4f302eb96c0c5e7c81e8380a6dc", func := "wardmote/wardmotelaw22.QueueKeeps", spec := "queueKeeps", apart := false, narrowed := true }
def QueueKeepsUptoSaid : Prop := queueKeepsUptoRow.holds Try.pinned (OpenSpec.upto queueKeepsSpec)

/-- 'wardmotelaw15.KingSteps', WHERE WHAT IT READS IS OF BULK AT MOST 1048576: true; the input reads as it did. -/
def kingStepsUptoRow : OpenClaim := { program := "ytgiackgdceanhaa", sum := "e128018fbf8fc9d3088192e5ee88fabb39bfe4f302eb96c0c5e7c81e8380a6dc", func := "wardmote/wardmotelaw15.KingSteps", spec := "kingSteps", apart := false, narrowed := true }
def KingStepsUptoSaid : Prop := kingStepsUptoRow.holds Try.pinned (OpenSpec.upto kingStepsSpec)

/-- 'wardmotelaw15.KingAgrees', WHERE WHAT IT READS IS OF BULK AT MOST 1048576: true; the input reads as it did. -/
def kingAgreesUptoRow : OpenClaim := { program := "ytgiackgdceanhaa", sum := "e128018fbf8fc9d3088192e5ee88fabb39bfe4f302eb96c0c5e7c81e8380a6dc", func := "wardmote/wardmotelaw15.KingAgrees", spec := "kingAgrees", apart := false, narrowed := true }
def KingAgreesUptoSaid : Prop := kingAgreesUptoRow.holds Try.pinned (OpenSpec.upto kingAgreesSpec)

/-- 'wardmotelaw15.KingKeeps', WHERE WHAT IT READS IS OF BULK AT MOST 1048576: true; the input reads as it did. -/
def kingKeepsUptoRow : OpenClaim := { program := "ytgiackgdceanhaa", sum := "e128018fbf8fc9d3088192e5ee88fabb39bfe4f302eb96c0c5e7c81e8380a6dc", func := "wardmote/wardmotelaw15.KingKeeps", spec := "kingKeeps", apart := false, narrowed := true }
def KingKeepsUptoSaid : Prop := kingKeepsUptoRow.holds Try.pinned (OpenSpec.upto kingKeepsSpec)

/-- 'wardmotelaw15.KingNil', WHERE WHAT IT READS IS OF BULK AT MOST 1048576: true; the input reads as it did. -/
def kingNilUptoRow : OpenClaim := { program := "ytgiackgdceanhaa", sum := "e128018fbf8fc9d3088192e5ee88fabb39bfe4f302eb96c0c5e7c81e8380a6dc", func := "wardmote/wardmotelaw15.KingNil", spec := "kingNil", apart := false, narrowed := true }
def KingNilUptoSaid : Prop := kingNilUptoRow.holds Try.pinned (OpenSpec.upto kingNilSpec)

/-- 'wardmotelaw15.KingAlone', WHERE WHAT IT READS IS OF BULK AT MOST 1048576: true; the input reads as it did. -/
def kingAloneUptoRow : OpenClaim := { program := "ytgiackgdceanhaa", sum := "e128018fbf8fc9d3088192e5ee88fabb39bfe4f302eb96c0c5e7c81e8380a6dc", func := "wardmote/wardmotelaw15.KingAlone", spec := "kingAlone", apart := false, narrowed := true }
def KingAloneUptoSaid : Prop := kingAloneUptoRow.holds Try.pinned (OpenSpec.upto kingAloneSpec)

/-- 'wardmotelaw22.QueueSteps', WHERE WHAT IT READS IS OF BULK AT MOST 1048576: true; the input reads as it did. -/
def queueStepsUptoRow : OpenClaim := { program := "ytgiackgdceanhaa", sum := "e128018fbf8fc9d3088192e5ee88fabb39bfe4f302eb96c0c5e7c81e8380a6dc", func := "wardmote/wardmotelaw22.QueueSteps", spec := "queueSteps", apart := false, narrowed := true }
def QueueStepsUptoSaid : Prop := queueStepsUptoRow.holds Try.pinned (OpenSpec.upto queueStepsSpec)

/-- 'wardmotelaw22.QueueNil', WHERE WHAT IT READS IS OF BULK AT MOST 1048576: true; the input reads as it did. -/
def queueNilUptoRow : OpenClaim := { program := "ytgiackgdceanhaa", sum := "e128018fbf8fc9d3088192e5ee88fabb39bfe4f302eb96c0c5e7c81e8380a6dc", func := "wardmote/wardmotelaw22.QueueNil", spec := "queueNil", apart := false, narrowed := true }
def QueueNilUptoSaid : Prop := queueNilUptoRow.holds Try.pinned (OpenSpec.upto queueNilSpec)

end Rows
end Go.Proofs.Ytgiackgdceanhaa
