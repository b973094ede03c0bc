/-
  DERIVED. GIVEN WITH THE SEED: THE CARDS: each row of YtkcfbacapaonaaaDoorRows.lean that lists a variable, with what it lists TIED to the program's text (the seventh form; the later family's looks); each row that meets fmt, with fmt's text TOLD by the authors' own Lean function (tested against real Go, not proved from fmt's source: count such statements apart). THE CARD IS WHAT COUNTS. Prove the row's statement (the work); the ties are given (YtkcfbacapaonaaaDoorTie.lean); close each card by the builder's one call (the guide's Derived/Test/ToyasCard.lean, 'card_holds'). Laid BY PROGRAM, IN A SANDBOX (cutbox-door.mjs). By AI agents, Wed Nov 11 2026. No macro, syntax, notation, axiom, sorry.
-/
import Derived.Test.YtkcfbacapaonaaaDoorRows
import GoSem.ClaimSeven
namespace Go.Proofs.YtkcfbacapaonaaaDoor
namespace Rows

/-- THE TIED CARD OF 'wardmotelaw27.WritFormats'. -/
def writFormatsCard : Claim7 := { stood := { row := writFormatsRow, standIns := [], harness := (true, "e2423685cf1b0eba8e34d246086ee860febdcb02162f35de7aaeb9cd85299a88"), looks := true }, kinds := [], alts := [], laidByText := true, laidKinds := [.data, .data, .data, .data, .sentinel, .sentinel, .pinned], laidTests := true, laidLooks := .later }
def WritFormatsCardSaid : Prop := Claim7.holds Tryd.pinned (.plain (OpenSpec.ofChange writFormatsSpec)) writFormatsCard

/-- THE TIED CARD OF 'wardmotelaw27.WritParses'. -/
def writParsesCard : Claim7 := { stood := { row := writParsesRow, standIns := [], harness := (true, "e2423685cf1b0eba8e34d246086ee860febdcb02162f35de7aaeb9cd85299a88"), looks := true }, kinds := [], alts := [], laidByText := true, laidKinds := [.data, .data, .data, .data, .sentinel, .sentinel, .pinned], laidTests := true, laidLooks := .later }
def WritParsesCardSaid : Prop := Claim7.holds Tryd.pinned (.plain (OpenSpec.ofChange writParsesSpec)) writParsesCard

/-- THE TIED CARD OF 'wardmotelaw27.WritBack'. -/
def writBackCard : Claim7 := { stood := { row := writBackRow, standIns := [], harness := (true, "e2423685cf1b0eba8e34d246086ee860febdcb02162f35de7aaeb9cd85299a88"), looks := true }, kinds := [], alts := [], laidByText := true, laidKinds := [.data, .data, .data, .data, .sentinel, .sentinel, .pinned], laidTests := true, laidLooks := .later }
def WritBackCardSaid : Prop := Claim7.holds Tryd.pinned (.plain (OpenSpec.ofChange writBackSpec)) writBackCard

/-- THE TIED CARD OF 'wardmotelaw27.WritTells'. -/
def writTellsCard : Claim7 := { stood := { row := writTellsRow, standIns := [], harness := (true, "e2423685cf1b0eba8e34d246086ee860febdcb02162f35de7aaeb9cd85299a88"), looks := true }, kinds := [], alts := [], laidByText := true, laidKinds := [.data, .data, .data, .data, .sentinel, .sentinel, .pinned], laidTests := true, laidLooks := .later }
def WritTellsCardSaid : Prop := Claim7.holds Tryd.pinned (.plain (OpenSpec.ofChange writTellsSpec)) writTellsCard

/-- THE SECOND FORM's CARD OF 'wardmotelaw27.WritFormats'. -/
def writFormatsUptoCard : Claim7 := { stood := { row := writFormatsUptoRow, standIns := [], harness := (true, "e2423685cf1b0eba8e34d246086ee860febdcb02162f35de7aaeb9cd85299a88"), looks := true }, kinds := [], alts := [], laidByText := true, laidKinds := [.data, .data, .data, .data, .sentinel, .sentinel, .pinned], laidTests := true, laidLooks := .later }
def WritFormatsUptoCardSaid : Prop := Claim7.holds Tryd.pinned (.plain (OpenSpec.upto writFormatsSpec)) writFormatsUptoCard

/-- THE SECOND FORM's CARD OF 'wardmotelaw27.WritParses'. -/
def writParsesUptoCard : Claim7 := { stood := { row := writParsesUptoRow, standIns := [], harness := (true, "e2423685cf1b0eba8e34d246086ee860febdcb02162f35de7aaeb9cd85299a88"), looks := true }, kinds := [], alts := [], laidByText := true, laidKinds := [.data, .data, .data, .data, .sentinel, .sentinel, .pinned], laidTests := true, laidLooks := .later }
def WritParsesUptoCardSaid : Prop := Claim7.holds Tryd.pinned (.plain (OpenSpec.upto writParsesSpec)) writParsesUptoCard

/-- THE SECOND FORM's CARD OF 'wardmotelaw27.WritBack'. -/
def writBackUptoCard : Claim7 := { stood := { row := writBackUptoRow, standIns := [], harness := (true, "e2423685cf1b0eba8e34d246086ee860febdcb02162f35de7aaeb9cd85299a88"), looks := true }, kinds := [], alts := [], laidByText := true, laidKinds := [.data, .data, .data, .data, .sentinel, .sentinel, .pinned], laidTests := true, laidLooks := .later }
def WritBackUptoCardSaid : Prop := Claim7.holds Tryd.pinned (.plain (OpenSpec.upto writBackSpec)) writBackUptoCard

/-- THE SECOND FORM's CARD OF 'wardmotelaw27.WritTells'. -/
def writTellsUptoCard : Claim7 := { stood := { row := writTellsUptoRow, standIns := [], harness := (true, "e2423685cf1b0eba8e34d246086ee860febdcb02162f35de7aaeb9cd85299a88"), looks := true }, kinds := [], alts := [], laidByText := true, laidKinds := [.data, .data, .data, .data, .sentinel, .sentinel, .pinned], laidTests := true, laidLooks := .later }
def WritTellsUptoCardSaid : Prop := Claim7.holds Tryd.pinned (.plain (OpenSpec.upto writTellsSpec)) writTellsUptoCard
end Rows
end Go.Proofs.YtkcfbacapaonaaaDoor
