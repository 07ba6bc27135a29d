/-
  No cell of these rows narrows 'for every input' (looked for: loops, veiled, ifaces, maps, wideKeys, modest, calm, conditions, laid).
  DERIVED. THE GIVEN ROWS OF THIS SEAT. 6 by the template 'for every input the law returns true; each argument reads behind the call as it read before'; 0 by the template 'total and deterministic' (their statements: YthffhhgaeolpgaaGreatTotals.lean).
  GIVEN WITH THE SEED: the statements are not yours to turn. If you find one false, say at which input.
  Laid BY PROGRAM, IN A SANDBOX (cutbox-rows.mjs): the forced cells as the released guide's own fill.sh prints them over the translation 1b9bfe16d2b12fb4… (all of the seat's roots in one cut). By AI agents, Wed Nov 11 2026. No macro, syntax, notation, axiom, sorry.
-/
import Derived.Test.YthffhhgaeolpgaaGreatChecked
import GoSem.Claim
import GoSem.ClaimJoined
import GoSem.ClaimMapViews
import Derived.JoinedTies
import Derived.KernelRfl
namespace Go.Proofs.YthffhhgaeolpgaaGreat
/- THE CELL 'sum', in the pinned program and in every row, IS THE sha256 OF THE DUMP (.gsa) THAT YthffhhgaeolpgaaGreatProg.lean LOADS. Nothing in Lean hashes anything: it is a label: what it is worth is what the hold of that sum in a sandbox is worth. -/
noncomputable def Tryz.pinned : Pinned := { name := "ythffhhgaeolpgaagreat", sum := "1b9bfe16d2b12fb409f05f41e17f793acde7a79896bedd1da82b7eaba52e792e", checked := Tryz.checked }
namespace Rows
def none {H : Type} : Left H := { results := [], args := [] }

/-- 'kissgatelaw20.FlatPlays': WHATEVER THE INPUT: true; the input reads as it did. -/
def flatPlaysSpec : ChangeSpec := { name := "flatPlays", fn := fun _ => fun
  | [d1, d2] => { results := [.lit (.bool true)], args := [d1, d2] }
  | _ => none }
def flatPlaysRow : OpenClaim := { program := "ythffhhgaeolpgaagreat", sum := "1b9bfe16d2b12fb409f05f41e17f793acde7a79896bedd1da82b7eaba52e792e", func := "kissgate/kissgatelaw20.FlatPlays", spec := "flatPlays", inPlace := ["sync/atomic.StoreInt64", "sync/atomic.LoadInt64"], unfollowed := true, recurses := true, apart := false }
def FlatPlaysSaid : Prop := flatPlaysRow.holds Tryz.pinned (OpenSpec.ofChange flatPlaysSpec)

/-- ITS FALSE NEIGHBOUR: 'it returns false'. Refute it at one input. -/
def flatPlaysWrong : ChangeSpec := { name := "flatPlays", fn := fun _ => fun
  | [d1, d2] => { results := [.lit (.bool false)], args := [d1, d2] }
  | _ => none }
def FlatPlaysWrongFalsely : Prop := flatPlaysRow.holds Tryz.pinned (OpenSpec.ofChange flatPlaysWrong)

/-- 'kissgatelaw21.GatePlays': WHATEVER THE INPUT: true; the input reads as it did. -/
def gatePlaysSpec : ChangeSpec := { name := "gatePlays", fn := fun _ => fun
  | [d1, d2, d3] => { results := [.lit (.bool true)], args := [d1, d2, d3] }
  | _ => none }
def gatePlaysRow : OpenClaim := { program := "ythffhhgaeolpgaagreat", sum := "1b9bfe16d2b12fb409f05f41e17f793acde7a79896bedd1da82b7eaba52e792e", func := "kissgate/kissgatelaw21.GatePlays", spec := "gatePlays", inPlace := ["sync/atomic.StoreInt64", "sync/atomic.LoadInt64"], unfollowed := true, recurses := true, apart := false }
def GatePlaysSaid : Prop := gatePlaysRow.holds Tryz.pinned (OpenSpec.ofChange gatePlaysSpec)

/-- ITS FALSE NEIGHBOUR: 'it returns false'. Refute it at one input. -/
def gatePlaysWrong : ChangeSpec := { name := "gatePlays", fn := fun _ => fun
  | [d1, d2, d3] => { results := [.lit (.bool false)], args := [d1, d2, d3] }
  | _ => none }
def GatePlaysWrongFalsely : Prop := gatePlaysRow.holds Tryz.pinned (OpenSpec.ofChange gatePlaysWrong)

/-- 'kissgatelaw21.GateNone': WHATEVER THE INPUT: true; the input reads as it did. -/
def gateNoneSpec : ChangeSpec := { name := "gateNone", fn := fun _ => fun
  | [d] => { results := [.lit (.bool true)], args := [d] }
  | _ => none }
def gateNoneRow : OpenClaim := { program := "ythffhhgaeolpgaagreat", sum := "1b9bfe16d2b12fb409f05f41e17f793acde7a79896bedd1da82b7eaba52e792e", func := "kissgate/kissgatelaw21.GateNone", spec := "gateNone", inPlace := ["sync/atomic.LoadInt64", "sync/atomic.StoreInt64"], unfollowed := true, recurses := true, apart := false }
def GateNoneSaid : Prop := gateNoneRow.holds Tryz.pinned (OpenSpec.ofChange gateNoneSpec)

/-- ITS FALSE NEIGHBOUR: 'it returns false'. Refute it at one input. -/
def gateNoneWrong : ChangeSpec := { name := "gateNone", fn := fun _ => fun
  | [d] => { results := [.lit (.bool false)], args := [d] }
  | _ => none }
def GateNoneWrongFalsely : Prop := gateNoneRow.holds Tryz.pinned (OpenSpec.ofChange gateNoneWrong)

/-- 'kissgatelaw21.GateTrace': WHATEVER THE INPUT: true; the input reads as it did. -/
def gateTraceSpec : ChangeSpec := { name := "gateTrace", fn := fun _ => fun
  | [d1, d2, d3] => { results := [.lit (.bool true)], args := [d1, d2, d3] }
  | _ => none }
def gateTraceRow : OpenClaim := { program := "ythffhhgaeolpgaagreat", sum := "1b9bfe16d2b12fb409f05f41e17f793acde7a79896bedd1da82b7eaba52e792e", func := "kissgate/kissgatelaw21.GateTrace", spec := "gateTrace", inPlace := ["sync/atomic.StoreInt64", "sync/atomic.LoadInt64"], unfollowed := true, recurses := true, apart := false }
def GateTraceSaid : Prop := gateTraceRow.holds Tryz.pinned (OpenSpec.ofChange gateTraceSpec)

/-- ITS FALSE NEIGHBOUR: 'it returns false'. Refute it at one input. -/
def gateTraceWrong : ChangeSpec := { name := "gateTrace", fn := fun _ => fun
  | [d1, d2, d3] => { results := [.lit (.bool false)], args := [d1, d2, d3] }
  | _ => none }
def GateTraceWrongFalsely : Prop := gateTraceRow.holds Tryz.pinned (OpenSpec.ofChange gateTraceWrong)

/-- 'kissgatelaw22.SpanEach': WHATEVER THE INPUT: true; the input reads as it did. -/
def spanEachSpec : ChangeSpec := { name := "spanEach", fn := fun _ => fun
  | [d1, d2, d3] => { results := [.lit (.bool true)], args := [d1, d2, d3] }
  | _ => none }
def spanEachRow : OpenClaim := { program := "ythffhhgaeolpgaagreat", sum := "1b9bfe16d2b12fb409f05f41e17f793acde7a79896bedd1da82b7eaba52e792e", func := "kissgate/kissgatelaw22.SpanEach", spec := "spanEach", inPlace := ["sync/atomic.StoreInt64"], unfollowed := true, recurses := true, apart := false }
def SpanEachSaid : Prop := spanEachRow.holds Tryz.pinned (OpenSpec.ofChange spanEachSpec)

/-- ITS FALSE NEIGHBOUR: 'it returns false'. Refute it at one input. -/
def spanEachWrong : ChangeSpec := { name := "spanEach", fn := fun _ => fun
  | [d1, d2, d3] => { results := [.lit (.bool false)], args := [d1, d2, d3] }
  | _ => none }
def SpanEachWrongFalsely : Prop := spanEachRow.holds Tryz.pinned (OpenSpec.ofChange spanEachWrong)

/-- 'kissgatelaw22.SpanSome': WHATEVER THE INPUT: true; the input reads as it did. -/
def spanSomeSpec : ChangeSpec := { name := "spanSome", fn := fun _ => fun
  | [d1, d2, d3] => { results := [.lit (.bool true)], args := [d1, d2, d3] }
  | _ => none }
def spanSomeRow : OpenClaim := { program := "ythffhhgaeolpgaagreat", sum := "1b9bfe16d2b12fb409f05f41e17f793acde7a79896bedd1da82b7eaba52e792e", func := "kissgate/kissgatelaw22.SpanSome", spec := "spanSome", inPlace := ["sync/atomic.StoreInt64"], unfollowed := true, recurses := true, apart := false }
def SpanSomeSaid : Prop := spanSomeRow.holds Tryz.pinned (OpenSpec.ofChange spanSomeSpec)

/-- ITS FALSE NEIGHBOUR: 'it returns false'. Refute it at one input. -/
def spanSomeWrong : ChangeSpec := { name := "spanSome", fn := fun _ => fun
  | [d1, d2, d3] => { results := [.lit (.bool false)], args := [d1, d2, d3] }
  | _ => none }
def SpanSomeWrongFalsely : Prop := spanSomeRow.holds Tryz.pinned (OpenSpec.ofChange spanSomeWrong)

/- THE SECOND FORM. 'bulk': how many values and letters a reading holds, each counted each time it is reached (what is shared counts as often as it is met; a slice's spare places count too). A statement '..UptoSaid' is the law's where the arguments, and the package variables that the reading takes, are together of bulk at most 1048576: NARROWER than '..Said'. Prove '..Said' where nothing that the law and all that it calls make is longer than what came in: it says more and counts as full. Else prove '..UptoSaid'. A law counts once. -/
mutual
def uptoBulk {H : Type} : DataW H → Nat
  | .lit (.string bytes) => bytes.length + 1
  | .lit _ => 1
  | .nil => 1
  | .ptr d => uptoBulk d + 1
  | .slice elems spare => uptoBulkAll elems + uptoBulkAll spare + 1
  | .agg parts => uptoBulkAll parts + 1
  | .iface _ d => uptoBulk d + 1
  | .map entries => uptoBulkEntries entries + 1
  | .held _ => 1
def uptoBulkAll {H : Type} : List (DataW H) → Nat
  | [] => 0
  | d :: r => uptoBulk d + uptoBulkAll r
def uptoBulkEntries {H : Type} : List (Lit × DataW H) → Nat
  | [] => 0
  | x :: r => uptoBulkEntry x + uptoBulkEntries r
def uptoBulkEntry {H : Type} : Lit × DataW H → Nat
  | (.string bytes, d) => bytes.length + uptoBulk d + 1
  | (_, d) => uptoBulk d + 1
 end
def uptoSmall : (H : Type) → List (DataW H) → Bool := fun _ ds => decide (uptoBulkAll ds ≤ 1048576)
def OpenSpec.upto (s : _root_.Go.ChangeSpec) : _root_.Go.OpenSpec := { _root_.Go.OpenSpec.ofChange s with cond := some uptoSmall }

/-- 'kissgatelaw20.FlatPlays', WHERE WHAT IT READS IS OF BULK AT MOST 1048576: true; the input reads as it did. -/
def flatPlaysUptoRow : OpenClaim := { program := "ythffhhgaeolpgaagreat", sum := "1b9bfe16d2b12fb409f05f41e17f793acde7a79896bedd1da82b7eaba52e792e", func := "kissgate/kissgatelaw20.FlatPlays", spec := "flatPlays", inPlace := ["sync/atomic.StoreInt64", "sync/atomic.LoadInt64"], unfollowed := true, recurses := true, apart := false, narrowed := true }
def FlatPlaysUptoSaid : Prop := flatPlaysUptoRow.holds Tryz.pinned (OpenSpec.upto flatPlaysSpec)

/-- 'kissgatelaw21.GatePlays', WHERE WHAT IT READS IS OF BULK AT MOST 1048576: true; the input reads as it did. -/
def gatePlaysUptoRow : OpenClaim := { program := "ythffhhgaeolpgaagreat", sum := "1b9bfe16d2b12fb409f05f41e17f793acde7a79896bedd1da82b7eaba52e792e", func := "kissgate/kissgatelaw21.GatePlays", spec := "gatePlays", inPlace := ["sync/atomic.StoreInt64", "sync/atomic.LoadInt64"], unfollowed := true, recurses := true, apart := false, narrowed := true }
def GatePlaysUptoSaid : Prop := gatePlaysUptoRow.holds Tryz.pinned (OpenSpec.upto gatePlaysSpec)

/-- 'kissgatelaw21.GateNone', WHERE WHAT IT READS IS OF BULK AT MOST 1048576: true; the input reads as it did. -/
def gateNoneUptoRow : OpenClaim := { program := "ythffhhgaeolpgaagreat", sum := "1b9bfe16d2b12fb409f05f41e17f793acde7a79896bedd1da82b7eaba52e792e", func := "kissgate/kissgatelaw21.GateNone", spec := "gateNone", inPlace := ["sync/atomic.LoadInt64", "sync/atomic.StoreInt64"], unfollowed := true, recurses := true, apart := false, narrowed := true }
def GateNoneUptoSaid : Prop := gateNoneUptoRow.holds Tryz.pinned (OpenSpec.upto gateNoneSpec)

/-- 'kissgatelaw21.GateTrace', WHERE WHAT IT READS IS OF BULK AT MOST 1048576: true; the input reads as it did. -/
def gateTraceUptoRow : OpenClaim := { program := "ythffhhgaeolpgaagreat", sum := "1b9bfe16d2b12fb409f05f41e17f793acde7a79896bedd1da82b7eaba52e792e", func := "kissgate/kissgatelaw21.GateTrace", spec := "gateTrace", inPlace := ["sync/atomic.StoreInt64", "sync/atomic.LoadInt64"], unfollowed := true, recurses := true, apart := false, narrowed := true }
def GateTraceUptoSaid : Prop := gateTraceUptoRow.holds Tryz.pinned (OpenSpec.upto gateTraceSpec)

/-- 'kissgatelaw22.SpanEach', WHERE WHAT IT READS IS OF BULK AT MOST 1048576: true; the input reads as it did. -/
def spanEachUptoRow : OpenClaim := { program := "ythffhhgaeolpgaagreat", sum := "1b9bfe16d2b12fb409f05f41e17f793acde7a79896bedd1da82b7eaba52e792e", func := "kissgate/kissgatelaw22.SpanEach", spec := "spanEach", inPlace := ["sync/atomic.StoreInt64"], unfollowed := true, recurses := true, apart := false, narrowed := true }
def SpanEachUptoSaid : Prop := spanEachUptoRow.holds Tryz.pinned (OpenSpec.upto spanEachSpec)

/-- 'kissgatelaw22.SpanSome', WHERE WHAT IT READS IS OF BULK AT MOST 1048576: true; the input reads as it did. -/
def spanSomeUptoRow : OpenClaim := { program := "ythffhhgaeolpgaagreat", sum := "1b9bfe16d2b12fb409f05f41e17f793acde7a79896bedd1da82b7eaba52e792e", func := "kissgate/kissgatelaw22.SpanSome", spec := "spanSome", inPlace := ["sync/atomic.StoreInt64"], unfollowed := true, recurses := true, apart := false, narrowed := true }
def SpanSomeUptoSaid : Prop := spanSomeUptoRow.holds Tryz.pinned (OpenSpec.upto spanSomeSpec)

end Rows
end Go.Proofs.YthffhhgaeolpgaaGreat
