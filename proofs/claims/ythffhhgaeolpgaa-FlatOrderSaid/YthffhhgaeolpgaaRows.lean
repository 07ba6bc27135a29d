/-
  No cell of these rows narrows 'for every input' (looked for: loops, veiled, ifaces, maps, wideKeys, modest, calm, conditions, laid).
  DERIVED. THE GIVEN ROWS OF THIS SEAT. 9 by the template 'for every input the law returns true; each argument reads behind the call as it read before'; 0 by the template 'total and deterministic' (their statements: YthffhhgaeolpgaaTotals.lean).
  GIVEN WITH THE SEED: the statements are not yours to turn. If you find one false, say at which input.
  Laid BY PROGRAM, IN A SANDBOX (cutbox-rows.mjs): the forced cells as the released guide's own fill.sh prints them over the translation b90c6fd6e38ad3b6… (all of the seat's roots in one cut). By AI agents, Wed Nov 11 2026. No macro, syntax, notation, axiom, sorry.
-/
import Derived.Test.YthffhhgaeolpgaaChecked
import GoSem.Claim
import GoSem.ClaimJoined
import GoSem.ClaimMapViews
import Derived.JoinedTies
import Derived.KernelRfl
namespace Go.Proofs.Ythffhhgaeolpgaa
/- THE CELL 'sum', in the pinned program and in every row, IS THE sha256 OF THE DUMP (.gsa) THAT YthffhhgaeolpgaaProg.lean LOADS. Nothing in Lean hashes anything: it is a label: what it is worth is what the hold of that sum in a sandbox is worth. -/
noncomputable def Try.pinned : Pinned := { name := "ythffhhgaeolpgaa", sum := "b90c6fd6e38ad3b6e3b2e4d7d41c12b9ba5719d616642ba4b00a3c7afd048d31", checked := Try.checked }
namespace Rows
def none {H : Type} : Left H := { results := [], args := [] }

/-- 'kissgatelaw17.PartedOne': WHATEVER THE INPUT: true; the input reads as it did. -/
def partedOneSpec : ChangeSpec := { name := "partedOne", fn := fun _ => fun
  | [d1, d2] => { results := [.lit (.bool true)], args := [d1, d2] }
  | _ => none }
def partedOneRow : OpenClaim := { program := "ythffhhgaeolpgaa", sum := "b90c6fd6e38ad3b6e3b2e4d7d41c12b9ba5719d616642ba4b00a3c7afd048d31", func := "kissgate/kissgatelaw17.PartedOne", spec := "partedOne", inPlace := ["sync/atomic.StoreInt64", "sync/atomic.AddInt64", "sync/atomic.LoadInt64"], unfollowed := true, recurses := true, apart := false }
def PartedOneSaid : Prop := partedOneRow.holds Try.pinned (OpenSpec.ofChange partedOneSpec)

/-- ITS FALSE NEIGHBOUR: 'it returns false'. Refute it at one input. -/
def partedOneWrong : ChangeSpec := { name := "partedOne", fn := fun _ => fun
  | [d1, d2] => { results := [.lit (.bool false)], args := [d1, d2] }
  | _ => none }
def PartedOneWrongFalsely : Prop := partedOneRow.holds Try.pinned (OpenSpec.ofChange partedOneWrong)

/-- 'kissgatelaw17.PartedOrder': WHATEVER THE INPUT: true; the input reads as it did. -/
def partedOrderSpec : ChangeSpec := { name := "partedOrder", fn := fun _ => fun
  | [d1, d2] => { results := [.lit (.bool true)], args := [d1, d2] }
  | _ => none }
def partedOrderRow : OpenClaim := { program := "ythffhhgaeolpgaa", sum := "b90c6fd6e38ad3b6e3b2e4d7d41c12b9ba5719d616642ba4b00a3c7afd048d31", func := "kissgate/kissgatelaw17.PartedOrder", spec := "partedOrder", inPlace := ["sync/atomic.StoreInt64", "sync/atomic.AddInt64", "sync/atomic.LoadInt64"], unfollowed := true, recurses := true, apart := false }
def PartedOrderSaid : Prop := partedOrderRow.holds Try.pinned (OpenSpec.ofChange partedOrderSpec)

/-- ITS FALSE NEIGHBOUR: 'it returns false'. Refute it at one input. -/
def partedOrderWrong : ChangeSpec := { name := "partedOrder", fn := fun _ => fun
  | [d1, d2] => { results := [.lit (.bool false)], args := [d1, d2] }
  | _ => none }
def PartedOrderWrongFalsely : Prop := partedOrderRow.holds Try.pinned (OpenSpec.ofChange partedOrderWrong)

/-- 'kissgatelaw19.ClhOne': WHATEVER THE INPUT: true; the input reads as it did. -/
def clhOneSpec : ChangeSpec := { name := "clhOne", fn := fun _ => fun
  | [d1, d2] => { results := [.lit (.bool true)], args := [d1, d2] }
  | _ => none }
def clhOneRow : OpenClaim := { program := "ythffhhgaeolpgaa", sum := "b90c6fd6e38ad3b6e3b2e4d7d41c12b9ba5719d616642ba4b00a3c7afd048d31", func := "kissgate/kissgatelaw19.ClhOne", spec := "clhOne", inPlace := ["sync/atomic.StoreInt64", "sync/atomic.SwapInt64", "sync/atomic.LoadInt64"], unfollowed := true, recurses := true, apart := false }
def ClhOneSaid : Prop := clhOneRow.holds Try.pinned (OpenSpec.ofChange clhOneSpec)

/-- ITS FALSE NEIGHBOUR: 'it returns false'. Refute it at one input. -/
def clhOneWrong : ChangeSpec := { name := "clhOne", fn := fun _ => fun
  | [d1, d2] => { results := [.lit (.bool false)], args := [d1, d2] }
  | _ => none }
def ClhOneWrongFalsely : Prop := clhOneRow.holds Try.pinned (OpenSpec.ofChange clhOneWrong)

/-- 'kissgatelaw19.ClhOrder': WHATEVER THE INPUT: true; the input reads as it did. -/
def clhOrderSpec : ChangeSpec := { name := "clhOrder", fn := fun _ => fun
  | [d1, d2] => { results := [.lit (.bool true)], args := [d1, d2] }
  | _ => none }
def clhOrderRow : OpenClaim := { program := "ythffhhgaeolpgaa", sum := "b90c6fd6e38ad3b6e3b2e4d7d41c12b9ba5719d616642ba4b00a3c7afd048d31", func := "kissgate/kissgatelaw19.ClhOrder", spec := "clhOrder", inPlace := ["sync/atomic.StoreInt64", "sync/atomic.SwapInt64", "sync/atomic.LoadInt64"], unfollowed := true, recurses := true, apart := false }
def ClhOrderSaid : Prop := clhOrderRow.holds Try.pinned (OpenSpec.ofChange clhOrderSpec)

/-- ITS FALSE NEIGHBOUR: 'it returns false'. Refute it at one input. -/
def clhOrderWrong : ChangeSpec := { name := "clhOrder", fn := fun _ => fun
  | [d1, d2] => { results := [.lit (.bool false)], args := [d1, d2] }
  | _ => none }
def ClhOrderWrongFalsely : Prop := clhOrderRow.holds Try.pinned (OpenSpec.ofChange clhOrderWrong)

/-- 'kissgatelaw18.McsOne': WHATEVER THE INPUT: true; the input reads as it did. -/
def mcsOneSpec : ChangeSpec := { name := "mcsOne", fn := fun _ => fun
  | [d1, d2] => { results := [.lit (.bool true)], args := [d1, d2] }
  | _ => none }
def mcsOneRow : OpenClaim := { program := "ythffhhgaeolpgaa", sum := "b90c6fd6e38ad3b6e3b2e4d7d41c12b9ba5719d616642ba4b00a3c7afd048d31", func := "kissgate/kissgatelaw18.McsOne", spec := "mcsOne", inPlace := ["sync/atomic.StoreInt64", "sync/atomic.SwapInt64", "sync/atomic.LoadInt64", "sync/atomic.CompareAndSwapInt64"], unfollowed := true, recurses := true, apart := false }
def McsOneSaid : Prop := mcsOneRow.holds Try.pinned (OpenSpec.ofChange mcsOneSpec)

/-- ITS FALSE NEIGHBOUR: 'it returns false'. Refute it at one input. -/
def mcsOneWrong : ChangeSpec := { name := "mcsOne", fn := fun _ => fun
  | [d1, d2] => { results := [.lit (.bool false)], args := [d1, d2] }
  | _ => none }
def McsOneWrongFalsely : Prop := mcsOneRow.holds Try.pinned (OpenSpec.ofChange mcsOneWrong)

/-- 'kissgatelaw18.McsOrder': WHATEVER THE INPUT: true; the input reads as it did. -/
def mcsOrderSpec : ChangeSpec := { name := "mcsOrder", fn := fun _ => fun
  | [d1, d2] => { results := [.lit (.bool true)], args := [d1, d2] }
  | _ => none }
def mcsOrderRow : OpenClaim := { program := "ythffhhgaeolpgaa", sum := "b90c6fd6e38ad3b6e3b2e4d7d41c12b9ba5719d616642ba4b00a3c7afd048d31", func := "kissgate/kissgatelaw18.McsOrder", spec := "mcsOrder", inPlace := ["sync/atomic.StoreInt64", "sync/atomic.SwapInt64", "sync/atomic.LoadInt64", "sync/atomic.CompareAndSwapInt64"], unfollowed := true, recurses := true, apart := false }
def McsOrderSaid : Prop := mcsOrderRow.holds Try.pinned (OpenSpec.ofChange mcsOrderSpec)

/-- ITS FALSE NEIGHBOUR: 'it returns false'. Refute it at one input. -/
def mcsOrderWrong : ChangeSpec := { name := "mcsOrder", fn := fun _ => fun
  | [d1, d2] => { results := [.lit (.bool false)], args := [d1, d2] }
  | _ => none }
def McsOrderWrongFalsely : Prop := mcsOrderRow.holds Try.pinned (OpenSpec.ofChange mcsOrderWrong)

/-- 'kissgatelaw20.FlatOrder': WHATEVER THE INPUT: true; the input reads as it did. -/
def flatOrderSpec : ChangeSpec := { name := "flatOrder", fn := fun _ => fun
  | [d1, d2, d3] => { results := [.lit (.bool true)], args := [d1, d2, d3] }
  | _ => none }
def flatOrderRow : OpenClaim := { program := "ythffhhgaeolpgaa", sum := "b90c6fd6e38ad3b6e3b2e4d7d41c12b9ba5719d616642ba4b00a3c7afd048d31", func := "kissgate/kissgatelaw20.FlatOrder", spec := "flatOrder", inPlace := ["sync/atomic.StoreInt64"], unfollowed := true, recurses := true, apart := false }
def FlatOrderSaid : Prop := flatOrderRow.holds Try.pinned (OpenSpec.ofChange flatOrderSpec)

/-- ITS FALSE NEIGHBOUR: 'it returns false'. Refute it at one input. -/
def flatOrderWrong : ChangeSpec := { name := "flatOrder", fn := fun _ => fun
  | [d1, d2, d3] => { results := [.lit (.bool false)], args := [d1, d2, d3] }
  | _ => none }
def FlatOrderWrongFalsely : Prop := flatOrderRow.holds Try.pinned (OpenSpec.ofChange flatOrderWrong)

/-- 'kissgatelaw20.FlatNone': WHATEVER THE INPUT: true; the input reads as it did. -/
def flatNoneSpec : ChangeSpec := { name := "flatNone", fn := fun _ => fun
  | [d] => { results := [.lit (.bool true)], args := [d] }
  | _ => none }
def flatNoneRow : OpenClaim := { program := "ythffhhgaeolpgaa", sum := "b90c6fd6e38ad3b6e3b2e4d7d41c12b9ba5719d616642ba4b00a3c7afd048d31", func := "kissgate/kissgatelaw20.FlatNone", spec := "flatNone", inPlace := ["sync/atomic.StoreInt64"], unfollowed := true, recurses := true, apart := false }
def FlatNoneSaid : Prop := flatNoneRow.holds Try.pinned (OpenSpec.ofChange flatNoneSpec)

/-- ITS FALSE NEIGHBOUR: 'it returns false'. Refute it at one input. -/
def flatNoneWrong : ChangeSpec := { name := "flatNone", fn := fun _ => fun
  | [d] => { results := [.lit (.bool false)], args := [d] }
  | _ => none }
def FlatNoneWrongFalsely : Prop := flatNoneRow.holds Try.pinned (OpenSpec.ofChange flatNoneWrong)

/-- 'kissgatelaw20.FlatOne': WHATEVER THE INPUT: true; the input reads as it did. -/
def flatOneSpec : ChangeSpec := { name := "flatOne", fn := fun _ => fun
  | [d1, d2, d3] => { results := [.lit (.bool true)], args := [d1, d2, d3] }
  | _ => none }
def flatOneRow : OpenClaim := { program := "ythffhhgaeolpgaa", sum := "b90c6fd6e38ad3b6e3b2e4d7d41c12b9ba5719d616642ba4b00a3c7afd048d31", func := "kissgate/kissgatelaw20.FlatOne", spec := "flatOne", inPlace := ["sync/atomic.StoreInt64"], unfollowed := true, recurses := true, apart := false }
def FlatOneSaid : Prop := flatOneRow.holds Try.pinned (OpenSpec.ofChange flatOneSpec)

/-- ITS FALSE NEIGHBOUR: 'it returns false'. Refute it at one input. -/
def flatOneWrong : ChangeSpec := { name := "flatOne", fn := fun _ => fun
  | [d1, d2, d3] => { results := [.lit (.bool false)], args := [d1, d2, d3] }
  | _ => none }
def FlatOneWrongFalsely : Prop := flatOneRow.holds Try.pinned (OpenSpec.ofChange flatOneWrong)

/- THE SECOND FORM. 'bulk': how many values and letters a reading holds, each counted each time it is reached (what is shared counts as often as it is met; a slice's spare places count too). A statement '..UptoSaid' is the law's where the arguments, and the package variables that the reading takes, are together of bulk at most 1048576: NARROWER than '..Said'. Prove '..Said' where nothing that the law and all that it calls make is longer than what came in: it says more and counts as full. Else prove '..UptoSaid'. A law counts once. -/
mutual
def uptoBulk {H : Type} : DataW H → Nat
  | .lit (.string bytes) => bytes.length + 1
  | .lit _ => 1
  | .nil => 1
  | .ptr d => uptoBulk d + 1
  | .slice elems spare => uptoBulkAll elems + uptoBulkAll spare + 1
  | .agg parts => uptoBulkAll parts + 1
  | .iface _ d => uptoBulk d + 1
  | .map entries => uptoBulkEntries entries + 1
  | .held _ => 1
def uptoBulkAll {H : Type} : List (DataW H) → Nat
  | [] => 0
  | d :: r => uptoBulk d + uptoBulkAll r
def uptoBulkEntries {H : Type} : List (Lit × DataW H) → Nat
  | [] => 0
  | x :: r => uptoBulkEntry x + uptoBulkEntries r
def uptoBulkEntry {H : Type} : Lit × DataW H → Nat
  | (.string bytes, d) => bytes.length + uptoBulk d + 1
  | (_, d) => uptoBulk d + 1
 end
def uptoSmall : (H : Type) → List (DataW H) → Bool := fun _ ds => decide (uptoBulkAll ds ≤ 1048576)
def OpenSpec.upto (s : _root_.Go.ChangeSpec) : _root_.Go.OpenSpec := { _root_.Go.OpenSpec.ofChange s with cond := some uptoSmall }

/-- 'kissgatelaw17.PartedOne', WHERE WHAT IT READS IS OF BULK AT MOST 1048576: true; the input reads as it did. -/
def partedOneUptoRow : OpenClaim := { program := "ythffhhgaeolpgaa", sum := "b90c6fd6e38ad3b6e3b2e4d7d41c12b9ba5719d616642ba4b00a3c7afd048d31", func := "kissgate/kissgatelaw17.PartedOne", spec := "partedOne", inPlace := ["sync/atomic.StoreInt64", "sync/atomic.AddInt64", "sync/atomic.LoadInt64"], unfollowed := true, recurses := true, apart := false, narrowed := true }
def PartedOneUptoSaid : Prop := partedOneUptoRow.holds Try.pinned (OpenSpec.upto partedOneSpec)

/-- 'kissgatelaw17.PartedOrder', WHERE WHAT IT READS IS OF BULK AT MOST 1048576: true; the input reads as it did. -/
def partedOrderUptoRow : OpenClaim := { program := "ythffhhgaeolpgaa", sum := "b90c6fd6e38ad3b6e3b2e4d7d41c12b9ba5719d616642ba4b00a3c7afd048d31", func := "kissgate/kissgatelaw17.PartedOrder", spec := "partedOrder", inPlace := ["sync/atomic.StoreInt64", "sync/atomic.AddInt64", "sync/atomic.LoadInt64"], unfollowed := true, recurses := true, apart := false, narrowed := true }
def PartedOrderUptoSaid : Prop := partedOrderUptoRow.holds Try.pinned (OpenSpec.upto partedOrderSpec)

/-- 'kissgatelaw19.ClhOne', WHERE WHAT IT READS IS OF BULK AT MOST 1048576: true; the input reads as it did. -/
def clhOneUptoRow : OpenClaim := { program := "ythffhhgaeolpgaa", sum := "b90c6fd6e38ad3b6e3b2e4d7d41c12b9ba5719d616642ba4b00a3c7afd048d31", func := "kissgate/kissgatelaw19.ClhOne", spec := "clhOne", inPlace := ["sync/atomic.StoreInt64", "sync/atomic.SwapInt64", "sync/atomic.LoadInt64"], unfollowed := true, recurses := true, apart := false, narrowed := true }
def ClhOneUptoSaid : Prop := clhOneUptoRow.holds Try.pinned (OpenSpec.upto clhOneSpec)

/-- 'kissgatelaw19.ClhOrder', WHERE WHAT IT READS IS OF BULK AT MOST 1048576: true; the input reads as it did. -/
def clhOrderUptoRow : OpenClaim := { program := "ythffhhgaeolpgaa", sum := "b90c6fd6e38ad3b6e3b2e4d7d41c12b9ba5719d616642ba4b00a3c7afd048d31", func := "kissgate/kissgatelaw19.ClhOrder", spec := "clhOrder", inPlace := ["sync/atomic.StoreInt64", "sync/atomic.SwapInt64", "sync/atomic.LoadInt64"], unfollowed := true, recurses := true, apart := false, narrowed := true }
def ClhOrderUptoSaid : Prop := clhOrderUptoRow.holds Try.pinned (OpenSpec.upto clhOrderSpec)

/-- 'kissgatelaw18.McsOne', WHERE WHAT IT READS IS OF BULK AT MOST 1048576: true; the input reads as it did. -/
def mcsOneUptoRow : OpenClaim := { program := "ythffhhgaeolpgaa", sum := "b90c6fd6e38ad3b6e3b2e4d7d41c12b9ba5719d616642ba4b00a3c7afd048d31", func := "kissgate/kissgatelaw18.McsOne", spec := "mcsOne", inPlace := ["sync/atomic.StoreInt64", "sync/atomic.SwapInt64", "sync/atomic.LoadInt64", "sync/atomic.CompareAndSwapInt64"], unfollowed := true, recurses := true, apart := false, narrowed := true }
def McsOneUptoSaid : Prop := mcsOneUptoRow.holds Try.pinned (OpenSpec.upto mcsOneSpec)

/-- 'kissgatelaw18.McsOrder', WHERE WHAT IT READS IS OF BULK AT MOST 1048576: true; the input reads as it did. -/
def mcsOrderUptoRow : OpenClaim := { program := "ythffhhgaeolpgaa", sum := "b90c6fd6e38ad3b6e3b2e4d7d41c12b9ba5719d616642ba4b00a3c7afd048d31", func := "kissgate/kissgatelaw18.McsOrder", spec := "mcsOrder", inPlace := ["sync/atomic.StoreInt64", "sync/atomic.SwapInt64", "sync/atomic.LoadInt64", "sync/atomic.CompareAndSwapInt64"], unfollowed := true, recurses := true, apart := false, narrowed := true }
def McsOrderUptoSaid : Prop := mcsOrderUptoRow.holds Try.pinned (OpenSpec.upto mcsOrderSpec)

/-- 'kissgatelaw20.FlatOrder', WHERE WHAT IT READS IS OF BULK AT MOST 1048576: true; the input reads as it did. -/
def flatOrderUptoRow : OpenClaim := { program := "ythffhhgaeolpgaa", sum := "b90c6fd6e38ad3b6e3b2e4d7d41c12b9ba5719d616642ba4b00a3c7afd048d31", func := "kissgate/kissgatelaw20.FlatOrder", spec := "flatOrder", inPlace := ["sync/atomic.StoreInt64"], unfollowed := true, recurses := true, apart := false, narrowed := true }
def FlatOrderUptoSaid : Prop := flatOrderUptoRow.holds Try.pinned (OpenSpec.upto flatOrderSpec)

/-- 'kissgatelaw20.FlatNone', WHERE WHAT IT READS IS OF BULK AT MOST 1048576: true; the input reads as it did. -/
def flatNoneUptoRow : OpenClaim := { program := "ythffhhgaeolpgaa", sum := "b90c6fd6e38ad3b6e3b2e4d7d41c12b9ba5719d616642ba4b00a3c7afd048d31", func := "kissgate/kissgatelaw20.FlatNone", spec := "flatNone", inPlace := ["sync/atomic.StoreInt64"], unfollowed := true, recurses := true, apart := false, narrowed := true }
def FlatNoneUptoSaid : Prop := flatNoneUptoRow.holds Try.pinned (OpenSpec.upto flatNoneSpec)

/-- 'kissgatelaw20.FlatOne', WHERE WHAT IT READS IS OF BULK AT MOST 1048576: true; the input reads as it did. -/
def flatOneUptoRow : OpenClaim := { program := "ythffhhgaeolpgaa", sum := "b90c6fd6e38ad3b6e3b2e4d7d41c12b9ba5719d616642ba4b00a3c7afd048d31", func := "kissgate/kissgatelaw20.FlatOne", spec := "flatOne", inPlace := ["sync/atomic.StoreInt64"], unfollowed := true, recurses := true, apart := false, narrowed := true }
def FlatOneUptoSaid : Prop := flatOneUptoRow.holds Try.pinned (OpenSpec.upto flatOneSpec)

end Rows
end Go.Proofs.Ythffhhgaeolpgaa
