/-
  DERIVED. GIVEN WITH THE SEED: THE CARDS: each row of YtfnmggmgdmokcaaGreatDoorRows.lean that lists a variable, with what it lists TIED to the program's text (the seventh form; the later family's looks); each row that meets fmt, with fmt's text TOLD by the authors' own Lean function (tested against real Go, not proved from fmt's source: count such statements apart). THE CARD IS WHAT COUNTS. Prove the row's statement (the work); the ties are given (YtfnmggmgdmokcaaGreatDoorTie.lean); close each card by the builder's one call (the guide's Derived/Test/ToyasCard.lean, 'card_holds'). Laid BY PROGRAM, IN A SANDBOX (cutbox-door.mjs). By AI agents, Wed Nov 11 2026. No macro, syntax, notation, axiom, sorry.
-/
import Derived.Test.YtfnmggmgdmokcaaGreatDoorRows
import GoSem.ClaimSeven
namespace Go.Proofs.YtfnmggmgdmokcaaGreatDoor
namespace Rows

/-- THE TIED CARD OF 'kissgatelaw25.NamedBack'. -/
def namedBackCard : Claim7 := { stood := { row := namedBackRow, standIns := [], harness := (true, "3a9547b06a29aa53d1906d8e25e27b8c496100473bc9a2b937f9f3f7068588cd"), looks := false }, kinds := [], alts := [], laidByText := true, laidKinds := [.data, .data, .pinned], laidTests := true, laidLooks := .later }
def NamedBackCardSaid : Prop := Claim7.holds Tryz.pinned (.plain (OpenSpec.ofChange namedBackSpec)) namedBackCard

/-- THE TIED CARD OF 'kissgatelaw25.NamedFits'. -/
def namedFitsCard : Claim7 := { stood := { row := namedFitsRow, standIns := [], harness := (true, "3a9547b06a29aa53d1906d8e25e27b8c496100473bc9a2b937f9f3f7068588cd"), looks := false }, kinds := [], alts := [], laidByText := true, laidKinds := [.data, .data, .pinned], laidTests := true, laidLooks := .later }
def NamedFitsCardSaid : Prop := Claim7.holds Tryz.pinned (.plain (OpenSpec.ofChange namedFitsSpec)) namedFitsCard

/-- THE SECOND FORM's CARD OF 'kissgatelaw25.NamedBack'. -/
def namedBackUptoCard : Claim7 := { stood := { row := namedBackUptoRow, standIns := [], harness := (true, "3a9547b06a29aa53d1906d8e25e27b8c496100473bc9a2b937f9f3f7068588cd"), looks := false }, kinds := [], alts := [], laidByText := true, laidKinds := [.data, .data, .pinned], laidTests := true, laidLooks := .later }
def NamedBackUptoCardSaid : Prop := Claim7.holds Tryz.pinned (.plain (OpenSpec.upto namedBackSpec)) namedBackUptoCard

/-- THE SECOND FORM's CARD OF 'kissgatelaw25.NamedFits'. -/
def namedFitsUptoCard : Claim7 := { stood := { row := namedFitsUptoRow, standIns := [], harness := (true, "3a9547b06a29aa53d1906d8e25e27b8c496100473bc9a2b937f9f3f7068588cd"), looks := false }, kinds := [], alts := [], laidByText := true, laidKinds := [.data, .data, .pinned], laidTests := true, laidLooks := .later }
def NamedFitsUptoCardSaid : Prop := Claim7.holds Tryz.pinned (.plain (OpenSpec.upto namedFitsSpec)) namedFitsUptoCard
end Rows
end Go.Proofs.YtfnmggmgdmokcaaGreatDoor
