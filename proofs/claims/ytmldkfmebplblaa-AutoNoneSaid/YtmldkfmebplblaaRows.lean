/-
  No cell of these rows narrows 'for every input' (looked for: loops, veiled, ifaces, maps, wideKeys, modest, calm, conditions, laid).
  DERIVED. THE GIVEN ROWS OF THIS SEAT. 11 by the template 'for every input the law returns true; each argument reads behind the call as it read before'; 0 by the template 'total and deterministic' (their statements: YtmldkfmebplblaaTotals.lean).
  GIVEN WITH THE SEED: the statements are not yours to turn. If you find one false, say at which input.
  Laid BY PROGRAM, IN A SANDBOX (cutbox-rows.mjs): the forced cells as the released guide's own fill.sh prints them over the translation e1cc53b6152ccc14… (all of the seat's roots in one cut). By AI agents, Wed Nov 11 2026. No macro, syntax, notation, axiom, sorry.
-/
import Derived.Test.YtmldkfmebplblaaChecked
import GoSem.Claim
import GoSem.ClaimJoined
import GoSem.ClaimMapViews
import Derived.JoinedTies
import Derived.KernelRfl
namespace Go.Proofs.Ytmldkfmebplblaa
/- THE CELL 'sum', in the pinned program and in every row, IS THE sha256 OF THE DUMP (.gsa) THAT YtmldkfmebplblaaProg.lean LOADS. Nothing in Lean hashes anything: it is a label: what it is worth is what the hold of that sum in a sandbox is worth. -/
noncomputable def Try.pinned : Pinned := { name := "ytmldkfmebplblaa", sum := "e1cc53b6152ccc14dae505ebe3b48b4d91516b2017a4f3c8162352e4558d0ac7", checked := Try.checked }
namespace Rows
def none {H : Type} : Left H := { results := [], args := [] }

/-- 'kissgatelaw23.BudgetSays': WHATEVER THE INPUT: true; the input reads as it did. -/
def budgetSaysSpec : ChangeSpec := { name := "budgetSays", fn := fun _ => fun
  | [d1, d2, d3] => { results := [.lit (.bool true)], args := [d1, d2, d3] }
  | _ => none }
def budgetSaysRow : OpenClaim := { program := "ytmldkfmebplblaa", sum := "e1cc53b6152ccc14dae505ebe3b48b4d91516b2017a4f3c8162352e4558d0ac7", func := "kissgate/kissgatelaw23.BudgetSays", spec := "budgetSays", apart := false }
def BudgetSaysSaid : Prop := budgetSaysRow.holds Try.pinned (OpenSpec.ofChange budgetSaysSpec)

/-- ITS FALSE NEIGHBOUR: 'it returns false'. Refute it at one input. -/
def budgetSaysWrong : ChangeSpec := { name := "budgetSays", fn := fun _ => fun
  | [d1, d2, d3] => { results := [.lit (.bool false)], args := [d1, d2, d3] }
  | _ => none }
def BudgetSaysWrongFalsely : Prop := budgetSaysRow.holds Try.pinned (OpenSpec.ofChange budgetSaysWrong)

/-- 'kissgatelaw23.BudgetEnds': WHATEVER THE INPUT: true; the input reads as it did. -/
def budgetEndsSpec : ChangeSpec := { name := "budgetEnds", fn := fun _ => fun
  | [d] => { results := [.lit (.bool true)], args := [d] }
  | _ => none }
def budgetEndsRow : OpenClaim := { program := "ytmldkfmebplblaa", sum := "e1cc53b6152ccc14dae505ebe3b48b4d91516b2017a4f3c8162352e4558d0ac7", func := "kissgate/kissgatelaw23.BudgetEnds", spec := "budgetEnds", apart := false }
def BudgetEndsSaid : Prop := budgetEndsRow.holds Try.pinned (OpenSpec.ofChange budgetEndsSpec)

/-- ITS FALSE NEIGHBOUR: 'it returns false'. Refute it at one input. -/
def budgetEndsWrong : ChangeSpec := { name := "budgetEnds", fn := fun _ => fun
  | [d] => { results := [.lit (.bool false)], args := [d] }
  | _ => none }
def BudgetEndsWrongFalsely : Prop := budgetEndsRow.holds Try.pinned (OpenSpec.ofChange budgetEndsWrong)

/-- 'kissgatelaw23.BudgetGrows': WHATEVER THE INPUT: true; the input reads as it did. -/
def budgetGrowsSpec : ChangeSpec := { name := "budgetGrows", fn := fun _ => fun
  | [d1, d2] => { results := [.lit (.bool true)], args := [d1, d2] }
  | _ => none }
def budgetGrowsRow : OpenClaim := { program := "ytmldkfmebplblaa", sum := "e1cc53b6152ccc14dae505ebe3b48b4d91516b2017a4f3c8162352e4558d0ac7", func := "kissgate/kissgatelaw23.BudgetGrows", spec := "budgetGrows", apart := false }
def BudgetGrowsSaid : Prop := budgetGrowsRow.holds Try.pinned (OpenSpec.ofChange budgetGrowsSpec)

/-- ITS FALSE NEIGHBOUR: 'it returns false'. Refute it at one input. -/
def budgetGrowsWrong : ChangeSpec := { name := "budgetGrows", fn := fun _ => fun
  | [d1, d2] => { results := [.lit (.bool false)], args := [d1, d2] }
  | _ => none }
def BudgetGrowsWrongFalsely : Prop := budgetGrowsRow.holds Try.pinned (OpenSpec.ofChange budgetGrowsWrong)

/-- 'kissgatelaw13.TenureSays': WHATEVER THE INPUT: true; the input reads as it did. -/
def tenureSaysSpec : ChangeSpec := { name := "tenureSays", fn := fun _ => fun
  | [d1, d2, d3] => { results := [.lit (.bool true)], args := [d1, d2, d3] }
  | _ => none }
def tenureSaysRow : OpenClaim := { program := "ytmldkfmebplblaa", sum := "e1cc53b6152ccc14dae505ebe3b48b4d91516b2017a4f3c8162352e4558d0ac7", func := "kissgate/kissgatelaw13.TenureSays", spec := "tenureSays", apart := false }
def TenureSaysSaid : Prop := tenureSaysRow.holds Try.pinned (OpenSpec.ofChange tenureSaysSpec)

/-- ITS FALSE NEIGHBOUR: 'it returns false'. Refute it at one input. -/
def tenureSaysWrong : ChangeSpec := { name := "tenureSays", fn := fun _ => fun
  | [d1, d2, d3] => { results := [.lit (.bool false)], args := [d1, d2, d3] }
  | _ => none }
def TenureSaysWrongFalsely : Prop := tenureSaysRow.holds Try.pinned (OpenSpec.ofChange tenureSaysWrong)

/-- 'kissgatelaw13.TenureAll': WHATEVER THE INPUT: true; the input reads as it did. -/
def tenureAllSpec : ChangeSpec := { name := "tenureAll", fn := fun _ => fun
  | [d1, d2] => { results := [.lit (.bool true)], args := [d1, d2] }
  | _ => none }
def tenureAllRow : OpenClaim := { program := "ytmldkfmebplblaa", sum := "e1cc53b6152ccc14dae505ebe3b48b4d91516b2017a4f3c8162352e4558d0ac7", func := "kissgate/kissgatelaw13.TenureAll", spec := "tenureAll", apart := false }
def TenureAllSaid : Prop := tenureAllRow.holds Try.pinned (OpenSpec.ofChange tenureAllSpec)

/-- ITS FALSE NEIGHBOUR: 'it returns false'. Refute it at one input. -/
def tenureAllWrong : ChangeSpec := { name := "tenureAll", fn := fun _ => fun
  | [d1, d2] => { results := [.lit (.bool false)], args := [d1, d2] }
  | _ => none }
def TenureAllWrongFalsely : Prop := tenureAllRow.holds Try.pinned (OpenSpec.ofChange tenureAllWrong)

/-- 'kissgatelaw09.FairSays': WHATEVER THE INPUT: true; the input reads as it did. -/
def fairSaysSpec : ChangeSpec := { name := "fairSays", fn := fun _ => fun
  | [d1, d2, d3] => { results := [.lit (.bool true)], args := [d1, d2, d3] }
  | _ => none }
def fairSaysRow : OpenClaim := { program := "ytmldkfmebplblaa", sum := "e1cc53b6152ccc14dae505ebe3b48b4d91516b2017a4f3c8162352e4558d0ac7", func := "kissgate/kissgatelaw09.FairSays", spec := "fairSays", apart := false }
def FairSaysSaid : Prop := fairSaysRow.holds Try.pinned (OpenSpec.ofChange fairSaysSpec)

/-- ITS FALSE NEIGHBOUR: 'it returns false'. Refute it at one input. -/
def fairSaysWrong : ChangeSpec := { name := "fairSays", fn := fun _ => fun
  | [d1, d2, d3] => { results := [.lit (.bool false)], args := [d1, d2, d3] }
  | _ => none }
def FairSaysWrongFalsely : Prop := fairSaysRow.holds Try.pinned (OpenSpec.ofChange fairSaysWrong)

/-- 'kissgatelaw09.FairRounds': WHATEVER THE INPUT: true; the input reads as it did. -/
def fairRoundsSpec : ChangeSpec := { name := "fairRounds", fn := fun _ => fun
  | [d1, d2, d3] => { results := [.lit (.bool true)], args := [d1, d2, d3] }
  | _ => none }
def fairRoundsRow : OpenClaim := { program := "ytmldkfmebplblaa", sum := "e1cc53b6152ccc14dae505ebe3b48b4d91516b2017a4f3c8162352e4558d0ac7", func := "kissgate/kissgatelaw09.FairRounds", spec := "fairRounds", apart := false }
def FairRoundsSaid : Prop := fairRoundsRow.holds Try.pinned (OpenSpec.ofChange fairRoundsSpec)

/-- ITS FALSE NEIGHBOUR: 'it returns false'. Refute it at one input. -/
def fairRoundsWrong : ChangeSpec := { name := "fairRounds", fn := fun _ => fun
  | [d1, d2, d3] => { results := [.lit (.bool false)], args := [d1, d2, d3] }
  | _ => none }
def FairRoundsWrongFalsely : Prop := fairRoundsRow.holds Try.pinned (OpenSpec.ofChange fairRoundsWrong)

/-- 'kissgatelaw09.FairMore': WHATEVER THE INPUT: true; the input reads as it did. -/
def fairMoreSpec : ChangeSpec := { name := "fairMore", fn := fun _ => fun
  | [d1, d2, d3] => { results := [.lit (.bool true)], args := [d1, d2, d3] }
  | _ => none }
def fairMoreRow : OpenClaim := { program := "ytmldkfmebplblaa", sum := "e1cc53b6152ccc14dae505ebe3b48b4d91516b2017a4f3c8162352e4558d0ac7", func := "kissgate/kissgatelaw09.FairMore", spec := "fairMore", apart := false }
def FairMoreSaid : Prop := fairMoreRow.holds Try.pinned (OpenSpec.ofChange fairMoreSpec)

/-- ITS FALSE NEIGHBOUR: 'it returns false'. Refute it at one input. -/
def fairMoreWrong : ChangeSpec := { name := "fairMore", fn := fun _ => fun
  | [d1, d2, d3] => { results := [.lit (.bool false)], args := [d1, d2, d3] }
  | _ => none }
def FairMoreWrongFalsely : Prop := fairMoreRow.holds Try.pinned (OpenSpec.ofChange fairMoreWrong)

/-- 'kissgatelaw10.AutoPlays': WHATEVER THE INPUT: true; the input reads as it did. -/
def autoPlaysSpec : ChangeSpec := { name := "autoPlays", fn := fun _ => fun
  | [d1, d2, d3] => { results := [.lit (.bool true)], args := [d1, d2, d3] }
  | _ => none }
def autoPlaysRow : OpenClaim := { program := "ytmldkfmebplblaa", sum := "e1cc53b6152ccc14dae505ebe3b48b4d91516b2017a4f3c8162352e4558d0ac7", func := "kissgate/kissgatelaw10.AutoPlays", spec := "autoPlays", apart := false }
def AutoPlaysSaid : Prop := autoPlaysRow.holds Try.pinned (OpenSpec.ofChange autoPlaysSpec)

/-- ITS FALSE NEIGHBOUR: 'it returns false'. Refute it at one input. -/
def autoPlaysWrong : ChangeSpec := { name := "autoPlays", fn := fun _ => fun
  | [d1, d2, d3] => { results := [.lit (.bool false)], args := [d1, d2, d3] }
  | _ => none }
def AutoPlaysWrongFalsely : Prop := autoPlaysRow.holds Try.pinned (OpenSpec.ofChange autoPlaysWrong)

/-- 'kissgatelaw10.AutoOne': WHATEVER THE INPUT: true; the input reads as it did. -/
def autoOneSpec : ChangeSpec := { name := "autoOne", fn := fun _ => fun
  | [d1, d2] => { results := [.lit (.bool true)], args := [d1, d2] }
  | _ => none }
def autoOneRow : OpenClaim := { program := "ytmldkfmebplblaa", sum := "e1cc53b6152ccc14dae505ebe3b48b4d91516b2017a4f3c8162352e4558d0ac7", func := "kissgate/kissgatelaw10.AutoOne", spec := "autoOne", apart := false }
def AutoOneSaid : Prop := autoOneRow.holds Try.pinned (OpenSpec.ofChange autoOneSpec)

/-- ITS FALSE NEIGHBOUR: 'it returns false'. Refute it at one input. -/
def autoOneWrong : ChangeSpec := { name := "autoOne", fn := fun _ => fun
  | [d1, d2] => { results := [.lit (.bool false)], args := [d1, d2] }
  | _ => none }
def AutoOneWrongFalsely : Prop := autoOneRow.holds Try.pinned (OpenSpec.ofChange autoOneWrong)

/-- 'kissgatelaw10.AutoNone': WHATEVER THE INPUT: true; the input reads as it did. -/
def autoNoneSpec : ChangeSpec := { name := "autoNone", fn := fun _ => fun
  | [d1, d2] => { results := [.lit (.bool true)], args := [d1, d2] }
  | _ => none }
def autoNoneRow : OpenClaim := { program := "ytmldkfmebplblaa", sum := "e1cc53b6152ccc14dae505ebe3b48b4d91516b2017a4f3c8162352e4558d0ac7", func := "kissgate/kissgatelaw10.AutoNone", spec := "autoNone", apart := false }
def AutoNoneSaid : Prop := autoNoneRow.holds Try.pinned (OpenSpec.ofChange autoNoneSpec)

/-- ITS FALSE NEIGHBOUR: 'it returns false'. Refute it at one input. -/
def autoNoneWrong : ChangeSpec := { name := "autoNone", fn := fun _ => fun
  | [d1, d2] => { results := [.lit (.bool false)], args := [d1, d2] }
  | _ => none }
def AutoNoneWrongFalsely : Prop := autoNoneRow.holds Try.pinned (OpenSpec.ofChange autoNoneWrong)

/- THE SECOND FORM. 'bulk': how many values and letters a reading holds, each counted each time it is reached (what is shared counts as often as it is met; a slice's spare places count too). A statement '..UptoSaid' is the law's where the arguments, and the package variables that the reading takes, are together of bulk at most 1048576: NARROWER than '..Said'. Prove '..Said' where nothing that the law and all that it calls make is longer than what came in: it says more and counts as full. Else prove '..UptoSaid'. A law counts once. -/
mutual
def uptoBulk {H : Type} : DataW H → Nat
  | .lit (.string bytes) => bytes.length + 1
  | .lit _ => 1
  | .nil => 1
  | .ptr d => uptoBulk d + 1
  | .slice elems spare => uptoBulkAll elems + uptoBulkAll spare + 1
  | .agg parts => uptoBulkAll parts + 1
  | .iface _ d => uptoBulk d + 1
  | .map entries => uptoBulkEntries entries + 1
  | .held _ => 1
def uptoBulkAll {H : Type} : List (DataW H) → Nat
  | [] => 0
  | d :: r => uptoBulk d + uptoBulkAll r
def uptoBulkEntries {H : Type} : List (Lit × DataW H) → Nat
  | [] => 0
  | x :: r => uptoBulkEntry x + uptoBulkEntries r
def uptoBulkEntry {H : Type} : Lit × DataW H → Nat
  | (.string bytes, d) => bytes.length + uptoBulk d + 1
  | (_, d) => uptoBulk d + 1
 end
def uptoSmall : (H : Type) → List (DataW H) → Bool := fun _ ds => decide (uptoBulkAll ds ≤ 1048576)
def OpenSpec.upto (s : _root_.Go.ChangeSpec) : _root_.Go.OpenSpec := { _root_.Go.OpenSpec.ofChange s with cond := some uptoSmall }

/-- 'kissgatelaw23.BudgetSays', WHERE WHAT IT READS IS OF BULK AT MOST 1048576: true; the input reads as it did. -/
def budgetSaysUptoRow : OpenClaim := { program := "ytmldkfmebplblaa", sum := "e1cc53b6152ccc14dae505ebe3b48b4d91516b2017a4f3c8162352e4558d0ac7", func := "kissgate/kissgatelaw23.BudgetSays", spec := "budgetSays", apart := false, narrowed := true }
def BudgetSaysUptoSaid : Prop := budgetSaysUptoRow.holds Try.pinned (OpenSpec.upto budgetSaysSpec)

/-- 'kissgatelaw23.BudgetEnds', WHERE WHAT IT READS IS OF BULK AT MOST 1048576: true; the input reads as it did. -/
def budgetEndsUptoRow : OpenClaim := { program := "ytmldkfmebplblaa", sum := "e1cc53b6152ccc14dae505ebe3b48b4d91516b2017a4f3c8162352e4558d0ac7", func := "kissgate/kissgatelaw23.BudgetEnds", spec := "budgetEnds", apart := false, narrowed := true }
def BudgetEndsUptoSaid : Prop := budgetEndsUptoRow.holds Try.pinned (OpenSpec.upto budgetEndsSpec)

/-- 'kissgatelaw23.BudgetGrows', WHERE WHAT IT READS IS OF BULK AT MOST 1048576: true; the input reads as it did. -/
def budgetGrowsUptoRow : OpenClaim := { program := "ytmldkfmebplblaa", sum := "e1cc53b6152ccc14dae505ebe3b48b4d91516b2017a4f3c8162352e4558d0ac7", func := "kissgate/kissgatelaw23.BudgetGrows", spec := "budgetGrows", apart := false, narrowed := true }
def BudgetGrowsUptoSaid : Prop := budgetGrowsUptoRow.holds Try.pinned (OpenSpec.upto budgetGrowsSpec)

/-- 'kissgatelaw13.TenureSays', WHERE WHAT IT READS IS OF BULK AT MOST 1048576: true; the input reads as it did. -/
def tenureSaysUptoRow : OpenClaim := { program := "ytmldkfmebplblaa", sum := "e1cc53b6152ccc14dae505ebe3b48b4d91516b2017a4f3c8162352e4558d0ac7", func := "kissgate/kissgatelaw13.TenureSays", spec := "tenureSays", apart := false, narrowed := true }
def TenureSaysUptoSaid : Prop := tenureSaysUptoRow.holds Try.pinned (OpenSpec.upto tenureSaysSpec)

/-- 'kissgatelaw13.TenureAll', WHERE WHAT IT READS IS OF BULK AT MOST 1048576: true; the input reads as it did. -/
def tenureAllUptoRow : OpenClaim := { program := "ytmldkfmebplblaa", sum := "e1cc53b6152ccc14dae505ebe3b48b4d91516b2017a4f3c8162352e4558d0ac7", func := "kissgate/kissgatelaw13.TenureAll", spec := "tenureAll", apart := false, narrowed := true }
def TenureAllUptoSaid : Prop := tenureAllUptoRow.holds Try.pinned (OpenSpec.upto tenureAllSpec)

/-- 'kissgatelaw09.FairSays', WHERE WHAT IT READS IS OF BULK AT MOST 1048576: true; the input reads as it did. -/
def fairSaysUptoRow : OpenClaim := { program := "ytmldkfmebplblaa", sum := "e1cc53b6152ccc14dae505ebe3b48b4d91516b2017a4f3c8162352e4558d0ac7", func := "kissgate/kissgatelaw09.FairSays", spec := "fairSays", apart := false, narrowed := true }
def FairSaysUptoSaid : Prop := fairSaysUptoRow.holds Try.pinned (OpenSpec.upto fairSaysSpec)

/-- 'kissgatelaw09.FairRounds', WHERE WHAT IT READS IS OF BULK AT MOST 1048576: true; the input reads as it did. -/
def fairRoundsUptoRow : OpenClaim := { program := "ytmldkfmebplblaa", sum := "e1cc53b6152ccc14dae505ebe3b48b4d91516b2017a4f3c8162352e4558d0ac7", func := "kissgate/kissgatelaw09.FairRounds", spec := "fairRounds", apart := false, narrowed := true }
def FairRoundsUptoSaid : Prop := fairRoundsUptoRow.holds Try.pinned (OpenSpec.upto fairRoundsSpec)

/-- 'kissgatelaw09.FairMore', WHERE WHAT IT READS IS OF BULK AT MOST 1048576: true; the input reads as it did. -/
def fairMoreUptoRow : OpenClaim := { program := "ytmldkfmebplblaa", sum := "e1cc53b6152ccc14dae505ebe3b48b4d91516b2017a4f3c8162352e4558d0ac7", func := "kissgate/kissgatelaw09.FairMore", spec := "fairMore", apart := false, narrowed := true }
def FairMoreUptoSaid : Prop := fairMoreUptoRow.holds Try.pinned (OpenSpec.upto fairMoreSpec)

/-- 'kissgatelaw10.AutoPlays', WHERE WHAT IT READS IS OF BULK AT MOST 1048576: true; the input reads as it did. -/
def autoPlaysUptoRow : OpenClaim := { program := "ytmldkfmebplblaa", sum := "e1cc53b6152ccc14dae505ebe3b48b4d91516b2017a4f3c8162352e4558d0ac7", func := "kissgate/kissgatelaw10.AutoPlays", spec := "autoPlays", apart := false, narrowed := true }
def AutoPlaysUptoSaid : Prop := autoPlaysUptoRow.holds Try.pinned (OpenSpec.upto autoPlaysSpec)

/-- 'kissgatelaw10.AutoOne', WHERE WHAT IT READS IS OF BULK AT MOST 1048576: true; the input reads as it did. -/
def autoOneUptoRow : OpenClaim := { program := "ytmldkfmebplblaa", sum := "e1cc53b6152ccc14dae505ebe3b48b4d91516b2017a4f3c8162352e4558d0ac7", func := "kissgate/kissgatelaw10.AutoOne", spec := "autoOne", apart := false, narrowed := true }
def AutoOneUptoSaid : Prop := autoOneUptoRow.holds Try.pinned (OpenSpec.upto autoOneSpec)

/-- 'kissgatelaw10.AutoNone', WHERE WHAT IT READS IS OF BULK AT MOST 1048576: true; the input reads as it did. -/
def autoNoneUptoRow : OpenClaim := { program := "ytmldkfmebplblaa", sum := "e1cc53b6152ccc14dae505ebe3b48b4d91516b2017a4f3c8162352e4558d0ac7", func := "kissgate/kissgatelaw10.AutoNone", spec := "autoNone", apart := false, narrowed := true }
def AutoNoneUptoSaid : Prop := autoNoneUptoRow.holds Try.pinned (OpenSpec.upto autoNoneSpec)

end Rows
end Go.Proofs.Ytmldkfmebplblaa
