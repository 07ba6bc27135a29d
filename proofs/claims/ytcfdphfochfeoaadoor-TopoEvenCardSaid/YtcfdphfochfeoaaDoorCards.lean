/-
  DERIVED. GIVEN WITH THE SEED: THE CARDS: each row of YtcfdphfochfeoaaDoorRows.lean that lists a variable, with what it lists TIED to the program's text (the seventh form; the later family's looks); each row that meets fmt, with fmt's text TOLD by the authors' own Lean function (tested against real Go, not proved from fmt's source: count such statements apart). THE CARD IS WHAT COUNTS. Prove the row's statement (the work); the ties are given (YtcfdphfochfeoaaDoorTie.lean); close each card by the builder's one call (the guide's Derived/Test/ToyasCard.lean, 'card_holds'). Laid BY PROGRAM, IN A SANDBOX (cutbox-door.mjs). By AI agents, Wed Nov 11 2026. No macro, syntax, notation, axiom, sorry.
-/
import Derived.Test.YtcfdphfochfeoaaDoorRows
import GoSem.ClaimSeven
namespace Go.Proofs.YtcfdphfochfeoaaDoor
namespace Rows

/-- THE TIED CARD OF 'kissgatelaw04.LineSays'. -/
def lineSaysCard : Claim7 := { stood := { row := lineSaysRow, standIns := [], harness := (true, "c4848ac68af72e0fc98facd45dac24ec27e312ab5818eabcadb89c6808a56749"), looks := false }, kinds := [], alts := [], laidByText := true, laidKinds := [.data, .pinned], laidTests := true, laidLooks := .later }
def LineSaysCardSaid : Prop := Claim7.holds Tryd.pinned (.plain (OpenSpec.ofChange lineSaysSpec)) lineSaysCard

/-- THE TIED CARD OF 'kissgatelaw04.LineBack'. -/
def lineBackCard : Claim7 := { stood := { row := lineBackRow, standIns := [], harness := (true, "c4848ac68af72e0fc98facd45dac24ec27e312ab5818eabcadb89c6808a56749"), looks := false }, kinds := [], alts := [], laidByText := true, laidKinds := [.data, .pinned], laidTests := true, laidLooks := .later }
def LineBackCardSaid : Prop := Claim7.holds Tryd.pinned (.plain (OpenSpec.ofChange lineBackSpec)) lineBackCard

/-- THE TIED CARD OF 'kissgatelaw03.DecSays'. -/
def decSaysCard : Claim7 := { stood := { row := decSaysRow, standIns := [], harness := (true, "c4848ac68af72e0fc98facd45dac24ec27e312ab5818eabcadb89c6808a56749"), looks := false }, kinds := [], alts := [], laidByText := true, laidKinds := [.data, .pinned], laidTests := true, laidLooks := .later }
def DecSaysCardSaid : Prop := Claim7.holds Tryd.pinned (.plain (OpenSpec.ofChange decSaysSpec)) decSaysCard

/-- THE TIED CARD OF 'kissgatelaw03.DecLists'. -/
def decListsCard : Claim7 := { stood := { row := decListsRow, standIns := [], harness := (true, "c4848ac68af72e0fc98facd45dac24ec27e312ab5818eabcadb89c6808a56749"), looks := false }, kinds := [], alts := [], laidByText := true, laidKinds := [.data, .pinned], laidTests := true, laidLooks := .later }
def DecListsCardSaid : Prop := Claim7.holds Tryd.pinned (.plain (OpenSpec.ofChange decListsSpec)) decListsCard

/-- THE TIED CARD OF 'kissgatelaw03.DecBack'. -/
def decBackCard : Claim7 := { stood := { row := decBackRow, standIns := [], harness := (true, "c4848ac68af72e0fc98facd45dac24ec27e312ab5818eabcadb89c6808a56749"), looks := false }, kinds := [], alts := [], laidByText := true, laidKinds := [.data, .pinned], laidTests := true, laidLooks := .later }
def DecBackCardSaid : Prop := Claim7.holds Tryd.pinned (.plain (OpenSpec.ofChange decBackSpec)) decBackCard

/-- THE TIED CARD OF 'kissgatelaw08.PickSays'. -/
def pickSaysCard : Claim7 := { stood := { row := pickSaysRow, standIns := [], harness := (true, "c4848ac68af72e0fc98facd45dac24ec27e312ab5818eabcadb89c6808a56749"), looks := false }, kinds := [], alts := [], laidByText := true, laidKinds := [.data, .pinned], laidTests := true, laidLooks := .later }
def PickSaysCardSaid : Prop := Claim7.holds Tryd.pinned (.plain (OpenSpec.ofChange pickSaysSpec)) pickSaysCard

/-- THE TIED CARD OF 'kissgatelaw08.PickBack'. -/
def pickBackCard : Claim7 := { stood := { row := pickBackRow, standIns := [], harness := (true, "c4848ac68af72e0fc98facd45dac24ec27e312ab5818eabcadb89c6808a56749"), looks := false }, kinds := [], alts := [], laidByText := true, laidKinds := [.data, .pinned], laidTests := true, laidLooks := .later }
def PickBackCardSaid : Prop := Claim7.holds Tryd.pinned (.plain (OpenSpec.ofChange pickBackSpec)) pickBackCard

/-- THE TIED CARD OF 'kissgatelaw42.TraceSays'. -/
def traceSaysCard : Claim7 := { stood := { row := traceSaysRow, standIns := [], harness := (true, "c4848ac68af72e0fc98facd45dac24ec27e312ab5818eabcadb89c6808a56749"), looks := false }, kinds := [], alts := [], laidByText := true, laidKinds := [.data, .pinned], laidTests := true, laidLooks := .later }
def TraceSaysCardSaid : Prop := Claim7.holds Tryd.pinned (.plain (OpenSpec.ofChange traceSaysSpec)) traceSaysCard

/-- THE TIED CARD OF 'kissgatelaw42.TraceBack'. -/
def traceBackCard : Claim7 := { stood := { row := traceBackRow, standIns := [], harness := (true, "c4848ac68af72e0fc98facd45dac24ec27e312ab5818eabcadb89c6808a56749"), looks := false }, kinds := [], alts := [], laidByText := true, laidKinds := [.data, .pinned], laidTests := true, laidLooks := .later }
def TraceBackCardSaid : Prop := Claim7.holds Tryd.pinned (.plain (OpenSpec.ofChange traceBackSpec)) traceBackCard

/-- THE TIED CARD OF 'kissgatelaw06.TopoChecks'. -/
def topoChecksCard : Claim7 := { stood := { row := topoChecksRow, standIns := [], harness := (true, "c4848ac68af72e0fc98facd45dac24ec27e312ab5818eabcadb89c6808a56749"), looks := false }, kinds := [], alts := [], laidByText := true, laidKinds := [.data, .pinned], laidTests := true, laidLooks := .later }
def TopoChecksCardSaid : Prop := Claim7.holds Tryd.pinned (.plain (OpenSpec.ofChange topoChecksSpec)) topoChecksCard

/-- THE TIED CARD OF 'kissgatelaw06.TopoEven'. -/
def topoEvenCard : Claim7 := { stood := { row := topoEvenRow, standIns := [], harness := (true, "c4848ac68af72e0fc98facd45dac24ec27e312ab5818eabcadb89c6808a56749"), looks := false }, kinds := [], alts := [], laidByText := true, laidKinds := [.data, .pinned], laidTests := true, laidLooks := .later }
def TopoEvenCardSaid : Prop := Claim7.holds Tryd.pinned (.plain (OpenSpec.ofChange topoEvenSpec)) topoEvenCard

/-- THE TIED CARD OF 'kissgatelaw06.TopoParses'. -/
def topoParsesCard : Claim7 := { stood := { row := topoParsesRow, standIns := [], harness := (true, "c4848ac68af72e0fc98facd45dac24ec27e312ab5818eabcadb89c6808a56749"), looks := false }, kinds := [], alts := [], laidByText := true, laidKinds := [.data, .pinned], laidTests := true, laidLooks := .later }
def TopoParsesCardSaid : Prop := Claim7.holds Tryd.pinned (.plain (OpenSpec.ofChange topoParsesSpec)) topoParsesCard

/-- THE TIED CARD OF 'kissgatelaw06.TopoBack'. -/
def topoBackCard : Claim7 := { stood := { row := topoBackRow, standIns := [], harness := (true, "c4848ac68af72e0fc98facd45dac24ec27e312ab5818eabcadb89c6808a56749"), looks := false }, kinds := [], alts := [], laidByText := true, laidKinds := [.data, .pinned], laidTests := true, laidLooks := .later }
def TopoBackCardSaid : Prop := Claim7.holds Tryd.pinned (.plain (OpenSpec.ofChange topoBackSpec)) topoBackCard

/-- THE SECOND FORM's CARD OF 'kissgatelaw04.LineSays'. -/
def lineSaysUptoCard : Claim7 := { stood := { row := lineSaysUptoRow, standIns := [], harness := (true, "c4848ac68af72e0fc98facd45dac24ec27e312ab5818eabcadb89c6808a56749"), looks := false }, kinds := [], alts := [], laidByText := true, laidKinds := [.data, .pinned], laidTests := true, laidLooks := .later }
def LineSaysUptoCardSaid : Prop := Claim7.holds Tryd.pinned (.plain (OpenSpec.upto lineSaysSpec)) lineSaysUptoCard

/-- THE SECOND FORM's CARD OF 'kissgatelaw04.LineBack'. -/
def lineBackUptoCard : Claim7 := { stood := { row := lineBackUptoRow, standIns := [], harness := (true, "c4848ac68af72e0fc98facd45dac24ec27e312ab5818eabcadb89c6808a56749"), looks := false }, kinds := [], alts := [], laidByText := true, laidKinds := [.data, .pinned], laidTests := true, laidLooks := .later }
def LineBackUptoCardSaid : Prop := Claim7.holds Tryd.pinned (.plain (OpenSpec.upto lineBackSpec)) lineBackUptoCard

/-- THE SECOND FORM's CARD OF 'kissgatelaw03.DecSays'. -/
def decSaysUptoCard : Claim7 := { stood := { row := decSaysUptoRow, standIns := [], harness := (true, "c4848ac68af72e0fc98facd45dac24ec27e312ab5818eabcadb89c6808a56749"), looks := false }, kinds := [], alts := [], laidByText := true, laidKinds := [.data, .pinned], laidTests := true, laidLooks := .later }
def DecSaysUptoCardSaid : Prop := Claim7.holds Tryd.pinned (.plain (OpenSpec.upto decSaysSpec)) decSaysUptoCard

/-- THE SECOND FORM's CARD OF 'kissgatelaw03.DecLists'. -/
def decListsUptoCard : Claim7 := { stood := { row := decListsUptoRow, standIns := [], harness := (true, "c4848ac68af72e0fc98facd45dac24ec27e312ab5818eabcadb89c6808a56749"), looks := false }, kinds := [], alts := [], laidByText := true, laidKinds := [.data, .pinned], laidTests := true, laidLooks := .later }
def DecListsUptoCardSaid : Prop := Claim7.holds Tryd.pinned (.plain (OpenSpec.upto decListsSpec)) decListsUptoCard

/-- THE SECOND FORM's CARD OF 'kissgatelaw03.DecBack'. -/
def decBackUptoCard : Claim7 := { stood := { row := decBackUptoRow, standIns := [], harness := (true, "c4848ac68af72e0fc98facd45dac24ec27e312ab5818eabcadb89c6808a56749"), looks := false }, kinds := [], alts := [], laidByText := true, laidKinds := [.data, .pinned], laidTests := true, laidLooks := .later }
def DecBackUptoCardSaid : Prop := Claim7.holds Tryd.pinned (.plain (OpenSpec.upto decBackSpec)) decBackUptoCard

/-- THE SECOND FORM's CARD OF 'kissgatelaw08.PickSays'. -/
def pickSaysUptoCard : Claim7 := { stood := { row := pickSaysUptoRow, standIns := [], harness := (true, "c4848ac68af72e0fc98facd45dac24ec27e312ab5818eabcadb89c6808a56749"), looks := false }, kinds := [], alts := [], laidByText := true, laidKinds := [.data, .pinned], laidTests := true, laidLooks := .later }
def PickSaysUptoCardSaid : Prop := Claim7.holds Tryd.pinned (.plain (OpenSpec.upto pickSaysSpec)) pickSaysUptoCard

/-- THE SECOND FORM's CARD OF 'kissgatelaw08.PickBack'. -/
def pickBackUptoCard : Claim7 := { stood := { row := pickBackUptoRow, standIns := [], harness := (true, "c4848ac68af72e0fc98facd45dac24ec27e312ab5818eabcadb89c6808a56749"), looks := false }, kinds := [], alts := [], laidByText := true, laidKinds := [.data, .pinned], laidTests := true, laidLooks := .later }
def PickBackUptoCardSaid : Prop := Claim7.holds Tryd.pinned (.plain (OpenSpec.upto pickBackSpec)) pickBackUptoCard

/-- THE SECOND FORM's CARD OF 'kissgatelaw42.TraceSays'. -/
def traceSaysUptoCard : Claim7 := { stood := { row := traceSaysUptoRow, standIns := [], harness := (true, "c4848ac68af72e0fc98facd45dac24ec27e312ab5818eabcadb89c6808a56749"), looks := false }, kinds := [], alts := [], laidByText := true, laidKinds := [.data, .pinned], laidTests := true, laidLooks := .later }
def TraceSaysUptoCardSaid : Prop := Claim7.holds Tryd.pinned (.plain (OpenSpec.upto traceSaysSpec)) traceSaysUptoCard

/-- THE SECOND FORM's CARD OF 'kissgatelaw42.TraceBack'. -/
def traceBackUptoCard : Claim7 := { stood := { row := traceBackUptoRow, standIns := [], harness := (true, "c4848ac68af72e0fc98facd45dac24ec27e312ab5818eabcadb89c6808a56749"), looks := false }, kinds := [], alts := [], laidByText := true, laidKinds := [.data, .pinned], laidTests := true, laidLooks := .later }
def TraceBackUptoCardSaid : Prop := Claim7.holds Tryd.pinned (.plain (OpenSpec.upto traceBackSpec)) traceBackUptoCard

/-- THE SECOND FORM's CARD OF 'kissgatelaw06.TopoChecks'. -/
def topoChecksUptoCard : Claim7 := { stood := { row := topoChecksUptoRow, standIns := [], harness := (true, "c4848ac68af72e0fc98facd45dac24ec27e312ab5818eabcadb89c6808a56749"), looks := false }, kinds := [], alts := [], laidByText := true, laidKinds := [.data, .pinned], laidTests := true, laidLooks := .later }
def TopoChecksUptoCardSaid : Prop := Claim7.holds Tryd.pinned (.plain (OpenSpec.upto topoChecksSpec)) topoChecksUptoCard

/-- THE SECOND FORM's CARD OF 'kissgatelaw06.TopoEven'. -/
def topoEvenUptoCard : Claim7 := { stood := { row := topoEvenUptoRow, standIns := [], harness := (true, "c4848ac68af72e0fc98facd45dac24ec27e312ab5818eabcadb89c6808a56749"), looks := false }, kinds := [], alts := [], laidByText := true, laidKinds := [.data, .pinned], laidTests := true, laidLooks := .later }
def TopoEvenUptoCardSaid : Prop := Claim7.holds Tryd.pinned (.plain (OpenSpec.upto topoEvenSpec)) topoEvenUptoCard

/-- THE SECOND FORM's CARD OF 'kissgatelaw06.TopoParses'. -/
def topoParsesUptoCard : Claim7 := { stood := { row := topoParsesUptoRow, standIns := [], harness := (true, "c4848ac68af72e0fc98facd45dac24ec27e312ab5818eabcadb89c6808a56749"), looks := false }, kinds := [], alts := [], laidByText := true, laidKinds := [.data, .pinned], laidTests := true, laidLooks := .later }
def TopoParsesUptoCardSaid : Prop := Claim7.holds Tryd.pinned (.plain (OpenSpec.upto topoParsesSpec)) topoParsesUptoCard

/-- THE SECOND FORM's CARD OF 'kissgatelaw06.TopoBack'. -/
def topoBackUptoCard : Claim7 := { stood := { row := topoBackUptoRow, standIns := [], harness := (true, "c4848ac68af72e0fc98facd45dac24ec27e312ab5818eabcadb89c6808a56749"), looks := false }, kinds := [], alts := [], laidByText := true, laidKinds := [.data, .pinned], laidTests := true, laidLooks := .later }
def TopoBackUptoCardSaid : Prop := Claim7.holds Tryd.pinned (.plain (OpenSpec.upto topoBackSpec)) topoBackUptoCard
end Rows
end Go.Proofs.YtcfdphfochfeoaaDoor
