/-
  NARROWER THAN 'FOR EVERY INPUT', by the rows' own cells (each row's printed sentence says how): LineSays: laid · LineBack: laid · DecSays: laid · DecLists: laid · DecBack: laid · PickSays: laid · PickBack: laid · TraceSays: laid · TraceBack: laid · TopoChecks: laid · TopoEven: laid · TopoParses: laid · TopoBack: laid.
  DERIVED. THE GIVEN ROWS OF THIS SEAT. 13 by the template 'for every input the law returns true; each argument reads behind the call as it read before'; 0 by the template 'total and deterministic' (their statements: YtcfdphfochfeoaaDoorTotals.lean).
  GIVEN WITH THE SEED: the statements are not yours to turn. If you find one false, say at which input.
  Laid BY PROGRAM, IN A SANDBOX (cutbox-rows.mjs): the forced cells as the released guide's own fill.sh prints them over the translation c900cd50e3627a78… (all of the seat's roots in one cut). By AI agents, Wed Nov 11 2026. No macro, syntax, notation, axiom, sorry.
-/
import Derived.Test.YtcfdphfochfeoaaDoorChecked
import GoSem.PinnedTables
import GoSem.Claim
import GoSem.ClaimJoined
import GoSem.ClaimMapViews
import Derived.JoinedTies
import Derived.KernelRfl
namespace Go.Proofs.YtcfdphfochfeoaaDoor
/- THE CELL 'sum', in the pinned program and in every row, IS THE sha256 OF THE DUMP (.gsa) THAT YtcfdphfochfeoaaDoorProg.lean LOADS. Nothing in Lean hashes anything: it is a label: what it is worth is what the hold of that sum in a sandbox is worth. -/
noncomputable def Tryd.pinned : Pinned := { name := "ytcfdphfochfeoaadoor", sum := "c900cd50e3627a78dc4ea58adf1f1248d1d75e1f48c236ccf2bb011cdcf91e06", checked := Tryd.checked }
namespace Rows
def none {H : Type} : Left H := { results := [], args := [] }

/- WHAT THE LISTED PACKAGE-LEVEL VARIABLES READ AS WHEN THE CALL BEGINS. Each datum BY PROGRAM (the guide's laid-datum.mjs) off the statement by which the dump's own 'gosem.cut.vars' lays the variable. In a bare row this is a premise. The card (YtcfdphfochfeoaaDoorCards.lean) ties it to the program's text. -/
def laid_unicode_utf8_acceptRanges {H : Type} : DataW H := .agg [.agg [.lit (.int .u8 128), .lit (.int .u8 191)], .agg [.lit (.int .u8 160), .lit (.int .u8 191)], .agg [.lit (.int .u8 128), .lit (.int .u8 159)], .agg [.lit (.int .u8 144), .lit (.int .u8 191)], .agg [.lit (.int .u8 128), .lit (.int .u8 143)], .agg [.lit (.int .u8 0), .lit (.int .u8 0)], .agg [.lit (.int .u8 0), .lit (.int .u8 0)], .agg [.lit (.int .u8 0), .lit (.int .u8 0)], .agg [.lit (.int .u8 0), .lit (.int .u8 0)], .agg [.lit (.int .u8 0), .lit (.int .u8 0)], .agg [.lit (.int .u8 0), .lit (.int .u8 0)], .agg [.lit (.int .u8 0), .lit (.int .u8 0)], .agg [.lit (.int .u8 0), .lit (.int .u8 0)], .agg [.lit (.int .u8 0), .lit (.int .u8 0)], .agg [.lit (.int .u8 0), .lit (.int .u8 0)], .agg [.lit (.int .u8 0), .lit (.int .u8 0)]]
/-- One of Go's own tables, pinned by name: the form's constant. -/
def laid_unicode_utf8_first : DataW Unit := Go.Pinned.utf8First

/-- 'kissgatelaw04.LineSays': WHATEVER THE INPUT: true; the input reads as it did. -/
def lineSaysSpec : ChangeSpec := { name := "lineSays", fn := fun _ => fun
  | [d1, d2] => { results := [.lit (.bool true)], args := [d1, d2] }
  | _ => none }
def lineSaysRow : OpenClaim := { program := "ytcfdphfochfeoaadoor", sum := "c900cd50e3627a78dc4ea58adf1f1248d1d75e1f48c236ccf2bb011cdcf91e06", func := "kissgate/kissgatelaw04.LineSays", spec := "lineSays", inPlace := ["internal/bytealg.CountString", "internal/bytealg.IndexByteString", "internal/bytealg.IndexString"], unfollowed := true, recurses := true, named := ["unicode/utf8.first", "unicode/utf8.acceptRanges", "internal/bytealg.MaxLen"], apart := false, laid := [("unicode/utf8.acceptRanges", laid_unicode_utf8_acceptRanges), ("unicode/utf8.first", laid_unicode_utf8_first)] }
def LineSaysSaid : Prop := lineSaysRow.holds Tryd.pinned (OpenSpec.ofChange lineSaysSpec)

/-- ITS FALSE NEIGHBOUR: 'it returns false'. Refute it at one input. -/
def lineSaysWrong : ChangeSpec := { name := "lineSays", fn := fun _ => fun
  | [d1, d2] => { results := [.lit (.bool false)], args := [d1, d2] }
  | _ => none }
def LineSaysWrongFalsely : Prop := lineSaysRow.holds Tryd.pinned (OpenSpec.ofChange lineSaysWrong)

/-- 'kissgatelaw04.LineBack': WHATEVER THE INPUT: true; the input reads as it did. -/
def lineBackSpec : ChangeSpec := { name := "lineBack", fn := fun _ => fun
  | [d1, d2] => { results := [.lit (.bool true)], args := [d1, d2] }
  | _ => none }
def lineBackRow : OpenClaim := { program := "ytcfdphfochfeoaadoor", sum := "c900cd50e3627a78dc4ea58adf1f1248d1d75e1f48c236ccf2bb011cdcf91e06", func := "kissgate/kissgatelaw04.LineBack", spec := "lineBack", inPlace := ["internal/bytealg.CountString", "internal/bytealg.IndexByteString", "internal/bytealg.IndexString"], unfollowed := true, recurses := true, named := ["unicode/utf8.first", "unicode/utf8.acceptRanges", "internal/bytealg.MaxLen"], apart := false, laid := [("unicode/utf8.acceptRanges", laid_unicode_utf8_acceptRanges), ("unicode/utf8.first", laid_unicode_utf8_first)] }
def LineBackSaid : Prop := lineBackRow.holds Tryd.pinned (OpenSpec.ofChange lineBackSpec)

/-- ITS FALSE NEIGHBOUR: 'it returns false'. Refute it at one input. -/
def lineBackWrong : ChangeSpec := { name := "lineBack", fn := fun _ => fun
  | [d1, d2] => { results := [.lit (.bool false)], args := [d1, d2] }
  | _ => none }
def LineBackWrongFalsely : Prop := lineBackRow.holds Tryd.pinned (OpenSpec.ofChange lineBackWrong)

/-- 'kissgatelaw03.DecSays': WHATEVER THE INPUT: true; the input reads as it did. -/
def decSaysSpec : ChangeSpec := { name := "decSays", fn := fun _ => fun
  | [d1, d2] => { results := [.lit (.bool true)], args := [d1, d2] }
  | _ => none }
def decSaysRow : OpenClaim := { program := "ytcfdphfochfeoaadoor", sum := "c900cd50e3627a78dc4ea58adf1f1248d1d75e1f48c236ccf2bb011cdcf91e06", func := "kissgate/kissgatelaw03.DecSays", spec := "decSays", inPlace := ["internal/bytealg.CountString", "internal/bytealg.IndexByteString", "internal/bytealg.IndexString", "internal/abi.NoEscape", "internal/bytealg.MakeNoZero"], recurses := true, named := ["unicode/utf8.first", "unicode/utf8.acceptRanges", "internal/bytealg.MaxLen"], apart := false, laid := [("unicode/utf8.acceptRanges", laid_unicode_utf8_acceptRanges), ("unicode/utf8.first", laid_unicode_utf8_first)] }
def DecSaysSaid : Prop := decSaysRow.holds Tryd.pinned (OpenSpec.ofChange decSaysSpec)

/-- ITS FALSE NEIGHBOUR: 'it returns false'. Refute it at one input. -/
def decSaysWrong : ChangeSpec := { name := "decSays", fn := fun _ => fun
  | [d1, d2] => { results := [.lit (.bool false)], args := [d1, d2] }
  | _ => none }
def DecSaysWrongFalsely : Prop := decSaysRow.holds Tryd.pinned (OpenSpec.ofChange decSaysWrong)

/-- 'kissgatelaw03.DecLists': WHATEVER THE INPUT: true; the input reads as it did. -/
def decListsSpec : ChangeSpec := { name := "decLists", fn := fun _ => fun
  | [d1, d2] => { results := [.lit (.bool true)], args := [d1, d2] }
  | _ => none }
def decListsRow : OpenClaim := { program := "ytcfdphfochfeoaadoor", sum := "c900cd50e3627a78dc4ea58adf1f1248d1d75e1f48c236ccf2bb011cdcf91e06", func := "kissgate/kissgatelaw03.DecLists", spec := "decLists", inPlace := ["internal/bytealg.CountString", "internal/bytealg.IndexByteString", "internal/bytealg.IndexString", "internal/abi.NoEscape", "internal/bytealg.MakeNoZero"], recurses := true, named := ["unicode/utf8.first", "unicode/utf8.acceptRanges", "internal/bytealg.MaxLen"], apart := false, laid := [("unicode/utf8.acceptRanges", laid_unicode_utf8_acceptRanges), ("unicode/utf8.first", laid_unicode_utf8_first)] }
def DecListsSaid : Prop := decListsRow.holds Tryd.pinned (OpenSpec.ofChange decListsSpec)

/-- ITS FALSE NEIGHBOUR: 'it returns false'. Refute it at one input. -/
def decListsWrong : ChangeSpec := { name := "decLists", fn := fun _ => fun
  | [d1, d2] => { results := [.lit (.bool false)], args := [d1, d2] }
  | _ => none }
def DecListsWrongFalsely : Prop := decListsRow.holds Tryd.pinned (OpenSpec.ofChange decListsWrong)

/-- 'kissgatelaw03.DecBack': WHATEVER THE INPUT: true; the input reads as it did. -/
def decBackSpec : ChangeSpec := { name := "decBack", fn := fun _ => fun
  | [d1, d2, d3] => { results := [.lit (.bool true)], args := [d1, d2, d3] }
  | _ => none }
def decBackRow : OpenClaim := { program := "ytcfdphfochfeoaadoor", sum := "c900cd50e3627a78dc4ea58adf1f1248d1d75e1f48c236ccf2bb011cdcf91e06", func := "kissgate/kissgatelaw03.DecBack", spec := "decBack", inPlace := ["internal/bytealg.CountString", "internal/bytealg.IndexByteString", "internal/bytealg.IndexString", "internal/abi.NoEscape", "internal/bytealg.MakeNoZero"], named := ["unicode/utf8.first", "unicode/utf8.acceptRanges", "internal/bytealg.MaxLen"], apart := false, laid := [("unicode/utf8.acceptRanges", laid_unicode_utf8_acceptRanges), ("unicode/utf8.first", laid_unicode_utf8_first)] }
def DecBackSaid : Prop := decBackRow.holds Tryd.pinned (OpenSpec.ofChange decBackSpec)

/-- ITS FALSE NEIGHBOUR: 'it returns false'. Refute it at one input. -/
def decBackWrong : ChangeSpec := { name := "decBack", fn := fun _ => fun
  | [d1, d2, d3] => { results := [.lit (.bool false)], args := [d1, d2, d3] }
  | _ => none }
def DecBackWrongFalsely : Prop := decBackRow.holds Tryd.pinned (OpenSpec.ofChange decBackWrong)

/-- 'kissgatelaw08.PickSays': WHATEVER THE INPUT: true; the input reads as it did. -/
def pickSaysSpec : ChangeSpec := { name := "pickSays", fn := fun _ => fun
  | [d1, d2, d3] => { results := [.lit (.bool true)], args := [d1, d2, d3] }
  | _ => none }
def pickSaysRow : OpenClaim := { program := "ytcfdphfochfeoaadoor", sum := "c900cd50e3627a78dc4ea58adf1f1248d1d75e1f48c236ccf2bb011cdcf91e06", func := "kissgate/kissgatelaw08.PickSays", spec := "pickSays", inPlace := ["internal/bytealg.CountString", "internal/bytealg.IndexByteString", "internal/bytealg.IndexString", "internal/abi.NoEscape", "internal/bytealg.MakeNoZero"], unfollowed := true, recurses := true, named := ["unicode/utf8.first", "unicode/utf8.acceptRanges", "internal/bytealg.MaxLen"], apart := false, laid := [("unicode/utf8.acceptRanges", laid_unicode_utf8_acceptRanges), ("unicode/utf8.first", laid_unicode_utf8_first)] }
def PickSaysSaid : Prop := pickSaysRow.holds Tryd.pinned (OpenSpec.ofChange pickSaysSpec)

/-- ITS FALSE NEIGHBOUR: 'it returns false'. Refute it at one input. -/
def pickSaysWrong : ChangeSpec := { name := "pickSays", fn := fun _ => fun
  | [d1, d2, d3] => { results := [.lit (.bool false)], args := [d1, d2, d3] }
  | _ => none }
def PickSaysWrongFalsely : Prop := pickSaysRow.holds Tryd.pinned (OpenSpec.ofChange pickSaysWrong)

/-- 'kissgatelaw08.PickBack': WHATEVER THE INPUT: true; the input reads as it did. -/
def pickBackSpec : ChangeSpec := { name := "pickBack", fn := fun _ => fun
  | [d1, d2] => { results := [.lit (.bool true)], args := [d1, d2] }
  | _ => none }
def pickBackRow : OpenClaim := { program := "ytcfdphfochfeoaadoor", sum := "c900cd50e3627a78dc4ea58adf1f1248d1d75e1f48c236ccf2bb011cdcf91e06", func := "kissgate/kissgatelaw08.PickBack", spec := "pickBack", inPlace := ["internal/bytealg.CountString", "internal/bytealg.IndexByteString", "internal/bytealg.IndexString", "internal/abi.NoEscape", "internal/bytealg.MakeNoZero"], unfollowed := true, recurses := true, named := ["unicode/utf8.first", "unicode/utf8.acceptRanges", "internal/bytealg.MaxLen"], apart := false, laid := [("unicode/utf8.acceptRanges", laid_unicode_utf8_acceptRanges), ("unicode/utf8.first", laid_unicode_utf8_first)] }
def PickBackSaid : Prop := pickBackRow.holds Tryd.pinned (OpenSpec.ofChange pickBackSpec)

/-- ITS FALSE NEIGHBOUR: 'it returns false'. Refute it at one input. -/
def pickBackWrong : ChangeSpec := { name := "pickBack", fn := fun _ => fun
  | [d1, d2] => { results := [.lit (.bool false)], args := [d1, d2] }
  | _ => none }
def PickBackWrongFalsely : Prop := pickBackRow.holds Tryd.pinned (OpenSpec.ofChange pickBackWrong)

/-- 'kissgatelaw42.TraceSays': WHATEVER THE INPUT: true; the input reads as it did. -/
def traceSaysSpec : ChangeSpec := { name := "traceSays", fn := fun _ => fun
  | [d1, d2, d3] => { results := [.lit (.bool true)], args := [d1, d2, d3] }
  | _ => none }
def traceSaysRow : OpenClaim := { program := "ytcfdphfochfeoaadoor", sum := "c900cd50e3627a78dc4ea58adf1f1248d1d75e1f48c236ccf2bb011cdcf91e06", func := "kissgate/kissgatelaw42.TraceSays", spec := "traceSays", inPlace := ["internal/bytealg.CountString", "internal/bytealg.IndexByteString", "internal/bytealg.IndexString", "internal/abi.NoEscape", "internal/bytealg.MakeNoZero"], unfollowed := true, recurses := true, named := ["unicode/utf8.first", "unicode/utf8.acceptRanges", "internal/bytealg.MaxLen"], apart := false, laid := [("unicode/utf8.acceptRanges", laid_unicode_utf8_acceptRanges), ("unicode/utf8.first", laid_unicode_utf8_first)] }
def TraceSaysSaid : Prop := traceSaysRow.holds Tryd.pinned (OpenSpec.ofChange traceSaysSpec)

/-- ITS FALSE NEIGHBOUR: 'it returns false'. Refute it at one input. -/
def traceSaysWrong : ChangeSpec := { name := "traceSays", fn := fun _ => fun
  | [d1, d2, d3] => { results := [.lit (.bool false)], args := [d1, d2, d3] }
  | _ => none }
def TraceSaysWrongFalsely : Prop := traceSaysRow.holds Tryd.pinned (OpenSpec.ofChange traceSaysWrong)

/-- 'kissgatelaw42.TraceBack': WHATEVER THE INPUT: true; the input reads as it did. -/
def traceBackSpec : ChangeSpec := { name := "traceBack", fn := fun _ => fun
  | [d1, d2] => { results := [.lit (.bool true)], args := [d1, d2] }
  | _ => none }
def traceBackRow : OpenClaim := { program := "ytcfdphfochfeoaadoor", sum := "c900cd50e3627a78dc4ea58adf1f1248d1d75e1f48c236ccf2bb011cdcf91e06", func := "kissgate/kissgatelaw42.TraceBack", spec := "traceBack", inPlace := ["internal/bytealg.CountString", "internal/bytealg.IndexByteString", "internal/bytealg.IndexString", "internal/abi.NoEscape", "internal/bytealg.MakeNoZero"], unfollowed := true, recurses := true, named := ["unicode/utf8.first", "unicode/utf8.acceptRanges", "internal/bytealg.MaxLen"], apart := false, laid := [("unicode/utf8.acceptRanges", laid_unicode_utf8_acceptRanges), ("unicode/utf8.first", laid_unicode_utf8_first)] }
def TraceBackSaid : Prop := traceBackRow.holds Tryd.pinned (OpenSpec.ofChange traceBackSpec)

/-- ITS FALSE NEIGHBOUR: 'it returns false'. Refute it at one input. -/
def traceBackWrong : ChangeSpec := { name := "traceBack", fn := fun _ => fun
  | [d1, d2] => { results := [.lit (.bool false)], args := [d1, d2] }
  | _ => none }
def TraceBackWrongFalsely : Prop := traceBackRow.holds Tryd.pinned (OpenSpec.ofChange traceBackWrong)

/-- 'kissgatelaw06.TopoChecks': WHATEVER THE INPUT: true; the input reads as it did. -/
def topoChecksSpec : ChangeSpec := { name := "topoChecks", fn := fun _ => fun
  | [d1, d2] => { results := [.lit (.bool true)], args := [d1, d2] }
  | _ => none }
def topoChecksRow : OpenClaim := { program := "ytcfdphfochfeoaadoor", sum := "c900cd50e3627a78dc4ea58adf1f1248d1d75e1f48c236ccf2bb011cdcf91e06", func := "kissgate/kissgatelaw06.TopoChecks", spec := "topoChecks", inPlace := ["internal/bytealg.CountString", "internal/bytealg.IndexByteString", "internal/bytealg.IndexString", "internal/abi.NoEscape", "internal/bytealg.MakeNoZero"], unfollowed := true, recurses := true, named := ["unicode/utf8.first", "unicode/utf8.acceptRanges", "internal/bytealg.MaxLen"], apart := false, laid := [("unicode/utf8.acceptRanges", laid_unicode_utf8_acceptRanges), ("unicode/utf8.first", laid_unicode_utf8_first)] }
def TopoChecksSaid : Prop := topoChecksRow.holds Tryd.pinned (OpenSpec.ofChange topoChecksSpec)

/-- ITS FALSE NEIGHBOUR: 'it returns false'. Refute it at one input. -/
def topoChecksWrong : ChangeSpec := { name := "topoChecks", fn := fun _ => fun
  | [d1, d2] => { results := [.lit (.bool false)], args := [d1, d2] }
  | _ => none }
def TopoChecksWrongFalsely : Prop := topoChecksRow.holds Tryd.pinned (OpenSpec.ofChange topoChecksWrong)

/-- 'kissgatelaw06.TopoEven': WHATEVER THE INPUT: true; the input reads as it did. -/
def topoEvenSpec : ChangeSpec := { name := "topoEven", fn := fun _ => fun
  | [d1, d2] => { results := [.lit (.bool true)], args := [d1, d2] }
  | _ => none }
def topoEvenRow : OpenClaim := { program := "ytcfdphfochfeoaadoor", sum := "c900cd50e3627a78dc4ea58adf1f1248d1d75e1f48c236ccf2bb011cdcf91e06", func := "kissgate/kissgatelaw06.TopoEven", spec := "topoEven", inPlace := ["internal/bytealg.CountString", "internal/bytealg.IndexByteString", "internal/bytealg.IndexString", "internal/abi.NoEscape", "internal/bytealg.MakeNoZero"], unfollowed := true, recurses := true, named := ["unicode/utf8.first", "unicode/utf8.acceptRanges", "internal/bytealg.MaxLen"], apart := false, laid := [("unicode/utf8.acceptRanges", laid_unicode_utf8_acceptRanges), ("unicode/utf8.first", laid_unicode_utf8_first)] }
def TopoEvenSaid : Prop := topoEvenRow.holds Tryd.pinned (OpenSpec.ofChange topoEvenSpec)

/-- ITS FALSE NEIGHBOUR: 'it returns false'. Refute it at one input. -/
def topoEvenWrong : ChangeSpec := { name := "topoEven", fn := fun _ => fun
  | [d1, d2] => { results := [.lit (.bool false)], args := [d1, d2] }
  | _ => none }
def TopoEvenWrongFalsely : Prop := topoEvenRow.holds Tryd.pinned (OpenSpec.ofChange topoEvenWrong)

/-- 'kissgatelaw06.TopoParses': WHATEVER THE INPUT: true; the input reads as it did. -/
def topoParsesSpec : ChangeSpec := { name := "topoParses", fn := fun _ => fun
  | [d] => { results := [.lit (.bool true)], args := [d] }
  | _ => none }
def topoParsesRow : OpenClaim := { program := "ytcfdphfochfeoaadoor", sum := "c900cd50e3627a78dc4ea58adf1f1248d1d75e1f48c236ccf2bb011cdcf91e06", func := "kissgate/kissgatelaw06.TopoParses", spec := "topoParses", inPlace := ["internal/bytealg.CountString", "internal/bytealg.IndexByteString", "internal/bytealg.IndexString", "internal/abi.NoEscape", "internal/bytealg.MakeNoZero"], unfollowed := true, recurses := true, named := ["unicode/utf8.first", "unicode/utf8.acceptRanges", "internal/bytealg.MaxLen"], apart := false, laid := [("unicode/utf8.acceptRanges", laid_unicode_utf8_acceptRanges), ("unicode/utf8.first", laid_unicode_utf8_first)] }
def TopoParsesSaid : Prop := topoParsesRow.holds Tryd.pinned (OpenSpec.ofChange topoParsesSpec)

/-- ITS FALSE NEIGHBOUR: 'it returns false'. Refute it at one input. -/
def topoParsesWrong : ChangeSpec := { name := "topoParses", fn := fun _ => fun
  | [d] => { results := [.lit (.bool false)], args := [d] }
  | _ => none }
def TopoParsesWrongFalsely : Prop := topoParsesRow.holds Tryd.pinned (OpenSpec.ofChange topoParsesWrong)

/-- 'kissgatelaw06.TopoBack': WHATEVER THE INPUT: true; the input reads as it did. -/
def topoBackSpec : ChangeSpec := { name := "topoBack", fn := fun _ => fun
  | [d] => { results := [.lit (.bool true)], args := [d] }
  | _ => none }
def topoBackRow : OpenClaim := { program := "ytcfdphfochfeoaadoor", sum := "c900cd50e3627a78dc4ea58adf1f1248d1d75e1f48c236ccf2bb011cdcf91e06", func := "kissgate/kissgatelaw06.TopoBack", spec := "topoBack", inPlace := ["internal/bytealg.CountString", "internal/bytealg.IndexByteString", "internal/bytealg.IndexString", "internal/abi.NoEscape", "internal/bytealg.MakeNoZero"], unfollowed := true, recurses := true, named := ["unicode/utf8.first", "unicode/utf8.acceptRanges", "internal/bytealg.MaxLen"], apart := false, laid := [("unicode/utf8.acceptRanges", laid_unicode_utf8_acceptRanges), ("unicode/utf8.first", laid_unicode_utf8_first)] }
def TopoBackSaid : Prop := topoBackRow.holds Tryd.pinned (OpenSpec.ofChange topoBackSpec)

/-- ITS FALSE NEIGHBOUR: 'it returns false'. Refute it at one input. -/
def topoBackWrong : ChangeSpec := { name := "topoBack", fn := fun _ => fun
  | [d] => { results := [.lit (.bool false)], args := [d] }
  | _ => none }
def TopoBackWrongFalsely : Prop := topoBackRow.holds Tryd.pinned (OpenSpec.ofChange topoBackWrong)

/- THE SECOND FORM. 'bulk': how many values and letters a reading holds, each counted each time it is reached (what is shared counts as often as it is met; a slice's spare places count too). A statement '..UptoSaid' is the law's where the arguments, and the package variables that the reading takes, are together of bulk at most 1048576: NARROWER than '..Said'. Prove '..Said' where nothing that the law and all that it calls make is longer than what came in: it says more and counts as full. Else prove '..UptoSaid'. A law counts once. -/
mutual
def uptoBulk {H : Type} : DataW H → Nat
  | .lit (.string bytes) => bytes.length + 1
  | .lit _ => 1
  | .nil => 1
  | .ptr d => uptoBulk d + 1
  | .slice elems spare => uptoBulkAll elems + uptoBulkAll spare + 1
  | .agg parts => uptoBulkAll parts + 1
  | .iface _ d => uptoBulk d + 1
  | .map entries => uptoBulkEntries entries + 1
  | .held _ => 1
def uptoBulkAll {H : Type} : List (DataW H) → Nat
  | [] => 0
  | d :: r => uptoBulk d + uptoBulkAll r
def uptoBulkEntries {H : Type} : List (Lit × DataW H) → Nat
  | [] => 0
  | x :: r => uptoBulkEntry x + uptoBulkEntries r
def uptoBulkEntry {H : Type} : Lit × DataW H → Nat
  | (.string bytes, d) => bytes.length + uptoBulk d + 1
  | (_, d) => uptoBulk d + 1
 end
def uptoSmall : (H : Type) → List (DataW H) → Bool := fun _ ds => decide (uptoBulkAll ds ≤ 1048576)
def OpenSpec.upto (s : _root_.Go.ChangeSpec) : _root_.Go.OpenSpec := { _root_.Go.OpenSpec.ofChange s with cond := some uptoSmall }

/-- 'kissgatelaw04.LineSays', WHERE WHAT IT READS IS OF BULK AT MOST 1048576: true; the input reads as it did. -/
def lineSaysUptoRow : OpenClaim := { program := "ytcfdphfochfeoaadoor", sum := "c900cd50e3627a78dc4ea58adf1f1248d1d75e1f48c236ccf2bb011cdcf91e06", func := "kissgate/kissgatelaw04.LineSays", spec := "lineSays", inPlace := ["internal/bytealg.CountString", "internal/bytealg.IndexByteString", "internal/bytealg.IndexString"], unfollowed := true, recurses := true, named := ["unicode/utf8.first", "unicode/utf8.acceptRanges", "internal/bytealg.MaxLen"], apart := false, laid := [("unicode/utf8.acceptRanges", laid_unicode_utf8_acceptRanges), ("unicode/utf8.first", laid_unicode_utf8_first)], narrowed := true }
def LineSaysUptoSaid : Prop := lineSaysUptoRow.holds Tryd.pinned (OpenSpec.upto lineSaysSpec)

/-- 'kissgatelaw04.LineBack', WHERE WHAT IT READS IS OF BULK AT MOST 1048576: true; the input reads as it did. -/
def lineBackUptoRow : OpenClaim := { program := "ytcfdphfochfeoaadoor", sum := "c900cd50e3627a78dc4ea58adf1f1248d1d75e1f48c236ccf2bb011cdcf91e06", func := "kissgate/kissgatelaw04.LineBack", spec := "lineBack", inPlace := ["internal/bytealg.CountString", "internal/bytealg.IndexByteString", "internal/bytealg.IndexString"], unfollowed := true, recurses := true, named := ["unicode/utf8.first", "unicode/utf8.acceptRanges", "internal/bytealg.MaxLen"], apart := false, laid := [("unicode/utf8.acceptRanges", laid_unicode_utf8_acceptRanges), ("unicode/utf8.first", laid_unicode_utf8_first)], narrowed := true }
def LineBackUptoSaid : Prop := lineBackUptoRow.holds Tryd.pinned (OpenSpec.upto lineBackSpec)

/-- 'kissgatelaw03.DecSays', WHERE WHAT IT READS IS OF BULK AT MOST 1048576: true; the input reads as it did. -/
def decSaysUptoRow : OpenClaim := { program := "ytcfdphfochfeoaadoor", sum := "c900cd50e3627a78dc4ea58adf1f1248d1d75e1f48c236ccf2bb011cdcf91e06", func := "kissgate/kissgatelaw03.DecSays", spec := "decSays", inPlace := ["internal/bytealg.CountString", "internal/bytealg.IndexByteString", "internal/bytealg.IndexString", "internal/abi.NoEscape", "internal/bytealg.MakeNoZero"], recurses := true, named := ["unicode/utf8.first", "unicode/utf8.acceptRanges", "internal/bytealg.MaxLen"], apart := false, laid := [("unicode/utf8.acceptRanges", laid_unicode_utf8_acceptRanges), ("unicode/utf8.first", laid_unicode_utf8_first)], narrowed := true }
def DecSaysUptoSaid : Prop := decSaysUptoRow.holds Tryd.pinned (OpenSpec.upto decSaysSpec)

/-- 'kissgatelaw03.DecLists', WHERE WHAT IT READS IS OF BULK AT MOST 1048576: true; the input reads as it did. -/
def decListsUptoRow : OpenClaim := { program := "ytcfdphfochfeoaadoor", sum := "c900cd50e3627a78dc4ea58adf1f1248d1d75e1f48c236ccf2bb011cdcf91e06", func := "kissgate/kissgatelaw03.DecLists", spec := "decLists", inPlace := ["internal/bytealg.CountString", "internal/bytealg.IndexByteString", "internal/bytealg.IndexString", "internal/abi.NoEscape", "internal/bytealg.MakeNoZero"], recurses := true, named := ["unicode/utf8.first", "unicode/utf8.acceptRanges", "internal/bytealg.MaxLen"], apart := false, laid := [("unicode/utf8.acceptRanges", laid_unicode_utf8_acceptRanges), ("unicode/utf8.first", laid_unicode_utf8_first)], narrowed := true }
def DecListsUptoSaid : Prop := decListsUptoRow.holds Tryd.pinned (OpenSpec.upto decListsSpec)

/-- 'kissgatelaw03.DecBack', WHERE WHAT IT READS IS OF BULK AT MOST 1048576: true; the input reads as it did. -/
def decBackUptoRow : OpenClaim := { program := "ytcfdphfochfeoaadoor", sum := "c900cd50e3627a78dc4ea58adf1f1248d1d75e1f48c236ccf2bb011cdcf91e06", func := "kissgate/kissgatelaw03.DecBack", spec := "decBack", inPlace := ["internal/bytealg.CountString", "internal/bytealg.IndexByteString", "internal/bytealg.IndexString", "internal/abi.NoEscape", "internal/bytealg.MakeNoZero"], named := ["unicode/utf8.first", "unicode/utf8.acceptRanges", "internal/bytealg.MaxLen"], apart := false, laid := [("unicode/utf8.acceptRanges", laid_unicode_utf8_acceptRanges), ("unicode/utf8.first", laid_unicode_utf8_first)], narrowed := true }
def DecBackUptoSaid : Prop := decBackUptoRow.holds Tryd.pinned (OpenSpec.upto decBackSpec)

/-- 'kissgatelaw08.PickSays', WHERE WHAT IT READS IS OF BULK AT MOST 1048576: true; the input reads as it did. -/
def pickSaysUptoRow : OpenClaim := { program := "ytcfdphfochfeoaadoor", sum := "c900cd50e3627a78dc4ea58adf1f1248d1d75e1f48c236ccf2bb011cdcf91e06", func := "kissgate/kissgatelaw08.PickSays", spec := "pickSays", inPlace := ["internal/bytealg.CountString", "internal/bytealg.IndexByteString", "internal/bytealg.IndexString", "internal/abi.NoEscape", "internal/bytealg.MakeNoZero"], unfollowed := true, recurses := true, named := ["unicode/utf8.first", "unicode/utf8.acceptRanges", "internal/bytealg.MaxLen"], apart := false, laid := [("unicode/utf8.acceptRanges", laid_unicode_utf8_acceptRanges), ("unicode/utf8.first", laid_unicode_utf8_first)], narrowed := true }
def PickSaysUptoSaid : Prop := pickSaysUptoRow.holds Tryd.pinned (OpenSpec.upto pickSaysSpec)

/-- 'kissgatelaw08.PickBack', WHERE WHAT IT READS IS OF BULK AT MOST 1048576: true; the input reads as it did. -/
def pickBackUptoRow : OpenClaim := { program := "ytcfdphfochfeoaadoor", sum := "c900cd50e3627a78dc4ea58adf1f1248d1d75e1f48c236ccf2bb011cdcf91e06", func := "kissgate/kissgatelaw08.PickBack", spec := "pickBack", inPlace := ["internal/bytealg.CountString", "internal/bytealg.IndexByteString", "internal/bytealg.IndexString", "internal/abi.NoEscape", "internal/bytealg.MakeNoZero"], unfollowed := true, recurses := true, named := ["unicode/utf8.first", "unicode/utf8.acceptRanges", "internal/bytealg.MaxLen"], apart := false, laid := [("unicode/utf8.acceptRanges", laid_unicode_utf8_acceptRanges), ("unicode/utf8.first", laid_unicode_utf8_first)], narrowed := true }
def PickBackUptoSaid : Prop := pickBackUptoRow.holds Tryd.pinned (OpenSpec.upto pickBackSpec)

/-- 'kissgatelaw42.TraceSays', WHERE WHAT IT READS IS OF BULK AT MOST 1048576: true; the input reads as it did. -/
def traceSaysUptoRow : OpenClaim := { program := "ytcfdphfochfeoaadoor", sum := "c900cd50e3627a78dc4ea58adf1f1248d1d75e1f48c236ccf2bb011cdcf91e06", func := "kissgate/kissgatelaw42.TraceSays", spec := "traceSays", inPlace := ["internal/bytealg.CountString", "internal/bytealg.IndexByteString", "internal/bytealg.IndexString", "internal/abi.NoEscape", "internal/bytealg.MakeNoZero"], unfollowed := true, recurses := true, named := ["unicode/utf8.first", "unicode/utf8.acceptRanges", "internal/bytealg.MaxLen"], apart := false, laid := [("unicode/utf8.acceptRanges", laid_unicode_utf8_acceptRanges), ("unicode/utf8.first", laid_unicode_utf8_first)], narrowed := true }
def TraceSaysUptoSaid : Prop := traceSaysUptoRow.holds Tryd.pinned (OpenSpec.upto traceSaysSpec)

/-- 'kissgatelaw42.TraceBack', WHERE WHAT IT READS IS OF BULK AT MOST 1048576: true; the input reads as it did. -/
def traceBackUptoRow : OpenClaim := { program := "ytcfdphfochfeoaadoor", sum := "c900cd50e3627a78dc4ea58adf1f1248d1d75e1f48c236ccf2bb011cdcf91e06", func := "kissgate/kissgatelaw42.TraceBack", spec := "traceBack", inPlace := ["internal/bytealg.CountString", "internal/bytealg.IndexByteString", "internal/bytealg.IndexString", "internal/abi.NoEscape", "internal/bytealg.MakeNoZero"], unfollowed := true, recurses := true, named := ["unicode/utf8.first", "unicode/utf8.acceptRanges", "internal/bytealg.MaxLen"], apart := false, laid := [("unicode/utf8.acceptRanges", laid_unicode_utf8_acceptRanges), ("unicode/utf8.first", laid_unicode_utf8_first)], narrowed := true }
def TraceBackUptoSaid : Prop := traceBackUptoRow.holds Tryd.pinned (OpenSpec.upto traceBackSpec)

/-- 'kissgatelaw06.TopoChecks', WHERE WHAT IT READS IS OF BULK AT MOST 1048576: true; the input reads as it did. -/
def topoChecksUptoRow : OpenClaim := { program := "ytcfdphfochfeoaadoor", sum := "c900cd50e3627a78dc4ea58adf1f1248d1d75e1f48c236ccf2bb011cdcf91e06", func := "kissgate/kissgatelaw06.TopoChecks", spec := "topoChecks", inPlace := ["internal/bytealg.CountString", "internal/bytealg.IndexByteString", "internal/bytealg.IndexString", "internal/abi.NoEscape", "internal/bytealg.MakeNoZero"], unfollowed := true, recurses := true, named := ["unicode/utf8.first", "unicode/utf8.acceptRanges", "internal/bytealg.MaxLen"], apart := false, laid := [("unicode/utf8.acceptRanges", laid_unicode_utf8_acceptRanges), ("unicode/utf8.first", laid_unicode_utf8_first)], narrowed := true }
def TopoChecksUptoSaid : Prop := topoChecksUptoRow.holds Tryd.pinned (OpenSpec.upto topoChecksSpec)

/-- 'kissgatelaw06.TopoEven', WHERE WHAT IT READS IS OF BULK AT MOST 1048576: true; the input reads as it did. -/
def topoEvenUptoRow : OpenClaim := { program := "ytcfdphfochfeoaadoor", sum := "c900cd50e3627a78dc4ea58adf1f1248d1d75e1f48c236ccf2bb011cdcf91e06", func := "kissgate/kissgatelaw06.TopoEven", spec := "topoEven", inPlace := ["internal/bytealg.CountString", "internal/bytealg.IndexByteString", "internal/bytealg.IndexString", "internal/abi.NoEscape", "internal/bytealg.MakeNoZero"], unfollowed := true, recurses := true, named := ["unicode/utf8.first", "unicode/utf8.acceptRanges", "internal/bytealg.MaxLen"], apart := false, laid := [("unicode/utf8.acceptRanges", laid_unicode_utf8_acceptRanges), ("unicode/utf8.first", laid_unicode_utf8_first)], narrowed := true }
def TopoEvenUptoSaid : Prop := topoEvenUptoRow.holds Tryd.pinned (OpenSpec.upto topoEvenSpec)

/-- 'kissgatelaw06.TopoParses', WHERE WHAT IT READS IS OF BULK AT MOST 1048576: true; the input reads as it did. -/
def topoParsesUptoRow : OpenClaim := { program := "ytcfdphfochfeoaadoor", sum := "c900cd50e3627a78dc4ea58adf1f1248d1d75e1f48c236ccf2bb011cdcf91e06", func := "kissgate/kissgatelaw06.TopoParses", spec := "topoParses", inPlace := ["internal/bytealg.CountString", "internal/bytealg.IndexByteString", "internal/bytealg.IndexString", "internal/abi.NoEscape", "internal/bytealg.MakeNoZero"], unfollowed := true, recurses := true, named := ["unicode/utf8.first", "unicode/utf8.acceptRanges", "internal/bytealg.MaxLen"], apart := false, laid := [("unicode/utf8.acceptRanges", laid_unicode_utf8_acceptRanges), ("unicode/utf8.first", laid_unicode_utf8_first)], narrowed := true }
def TopoParsesUptoSaid : Prop := topoParsesUptoRow.holds Tryd.pinned (OpenSpec.upto topoParsesSpec)

/-- 'kissgatelaw06.TopoBack', WHERE WHAT IT READS IS OF BULK AT MOST 1048576: true; the input reads as it did. -/
def topoBackUptoRow : OpenClaim := { program := "ytcfdphfochfeoaadoor", sum := "c900cd50e3627a78dc4ea58adf1f1248d1d75e1f48c236ccf2bb011cdcf91e06", func := "kissgate/kissgatelaw06.TopoBack", spec := "topoBack", inPlace := ["internal/bytealg.CountString", "internal/bytealg.IndexByteString", "internal/bytealg.IndexString", "internal/abi.NoEscape", "internal/bytealg.MakeNoZero"], unfollowed := true, recurses := true, named := ["unicode/utf8.first", "unicode/utf8.acceptRanges", "internal/bytealg.MaxLen"], apart := false, laid := [("unicode/utf8.acceptRanges", laid_unicode_utf8_acceptRanges), ("unicode/utf8.first", laid_unicode_utf8_first)], narrowed := true }
def TopoBackUptoSaid : Prop := topoBackUptoRow.holds Tryd.pinned (OpenSpec.upto topoBackSpec)

end Rows
end Go.Proofs.YtcfdphfochfeoaaDoor
