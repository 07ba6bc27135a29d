/-
  No cell of these rows narrows 'for every input' (looked for: loops, veiled, ifaces, maps, wideKeys, modest, calm, conditions, laid).
  DERIVED. THE GIVEN ROWS OF THIS SEAT. 11 by the template 'for every input the law returns true; each argument reads behind the call as it read before'; 0 by the template 'total and deterministic' (their statements: YtfdcojhgpfmloaaTotals.lean).
  GIVEN WITH THE SEED: the statements are not yours to turn. If you find one false, say at which input.
  Laid BY PROGRAM, IN A SANDBOX (cutbox-rows.mjs): the forced cells as the released guide's own fill.sh prints them over the translation ddddb82052d2bfc6… (all of the seat's roots in one cut). By AI agents, Wed Nov 11 2026. No macro, syntax, notation, axiom, sorry.
-/
import Derived.Test.YtfdcojhgpfmloaaChecked
import GoSem.Claim
import GoSem.ClaimJoined
import GoSem.ClaimMapViews
import Derived.JoinedTies
import Derived.KernelRfl
namespace Go.Proofs.Ytfdcojhgpfmloaa
/- THE CELL 'sum', in the pinned program and in every row, IS THE sha256 OF THE DUMP (.gsa) THAT YtfdcojhgpfmloaaProg.lean LOADS. Nothing in Lean hashes anything: it is a label: what it is worth is what the hold of that sum in a sandbox is worth. -/
noncomputable def Try.pinned : Pinned := { name := "ytfdcojhgpfmloaa", sum := "ddddb82052d2bfc6e8c8aa8bded9e5e4380a997a5af50ca43903d67f60395c55", checked := Try.checked }
namespace Rows
def none {H : Type} : Left H := { results := [], args := [] }

/-- 'kissgatelaw11.SharedPlays': WHATEVER THE INPUT: true; the input reads as it did. -/
def sharedPlaysSpec : ChangeSpec := { name := "sharedPlays", fn := fun _ => fun
  | [d1, d2, d3] => { results := [.lit (.bool true)], args := [d1, d2, d3] }
  | _ => none }
def sharedPlaysRow : OpenClaim := { program := "ytfdcojhgpfmloaa", sum := "ddddb82052d2bfc6e8c8aa8bded9e5e4380a997a5af50ca43903d67f60395c55", func := "kissgate/kissgatelaw11.SharedPlays", spec := "sharedPlays", apart := false }
def SharedPlaysSaid : Prop := sharedPlaysRow.holds Try.pinned (OpenSpec.ofChange sharedPlaysSpec)

/-- ITS FALSE NEIGHBOUR: 'it returns false'. Refute it at one input. -/
def sharedPlaysWrong : ChangeSpec := { name := "sharedPlays", fn := fun _ => fun
  | [d1, d2, d3] => { results := [.lit (.bool false)], args := [d1, d2, d3] }
  | _ => none }
def SharedPlaysWrongFalsely : Prop := sharedPlaysRow.holds Try.pinned (OpenSpec.ofChange sharedPlaysWrong)

/-- 'kissgatelaw11.SharedAlone': WHATEVER THE INPUT: true; the input reads as it did. -/
def sharedAloneSpec : ChangeSpec := { name := "sharedAlone", fn := fun _ => fun
  | [d1, d2] => { results := [.lit (.bool true)], args := [d1, d2] }
  | _ => none }
def sharedAloneRow : OpenClaim := { program := "ytfdcojhgpfmloaa", sum := "ddddb82052d2bfc6e8c8aa8bded9e5e4380a997a5af50ca43903d67f60395c55", func := "kissgate/kissgatelaw11.SharedAlone", spec := "sharedAlone", apart := false }
def SharedAloneSaid : Prop := sharedAloneRow.holds Try.pinned (OpenSpec.ofChange sharedAloneSpec)

/-- ITS FALSE NEIGHBOUR: 'it returns false'. Refute it at one input. -/
def sharedAloneWrong : ChangeSpec := { name := "sharedAlone", fn := fun _ => fun
  | [d1, d2] => { results := [.lit (.bool false)], args := [d1, d2] }
  | _ => none }
def SharedAloneWrongFalsely : Prop := sharedAloneRow.holds Try.pinned (OpenSpec.ofChange sharedAloneWrong)

/-- 'kissgatelaw11.SharedNone': WHATEVER THE INPUT: true; the input reads as it did. -/
def sharedNoneSpec : ChangeSpec := { name := "sharedNone", fn := fun _ => fun
  | [d1, d2] => { results := [.lit (.bool true)], args := [d1, d2] }
  | _ => none }
def sharedNoneRow : OpenClaim := { program := "ytfdcojhgpfmloaa", sum := "ddddb82052d2bfc6e8c8aa8bded9e5e4380a997a5af50ca43903d67f60395c55", func := "kissgate/kissgatelaw11.SharedNone", spec := "sharedNone", apart := false }
def SharedNoneSaid : Prop := sharedNoneRow.holds Try.pinned (OpenSpec.ofChange sharedNoneSpec)

/-- ITS FALSE NEIGHBOUR: 'it returns false'. Refute it at one input. -/
def sharedNoneWrong : ChangeSpec := { name := "sharedNone", fn := fun _ => fun
  | [d1, d2] => { results := [.lit (.bool false)], args := [d1, d2] }
  | _ => none }
def SharedNoneWrongFalsely : Prop := sharedNoneRow.holds Try.pinned (OpenSpec.ofChange sharedNoneWrong)

/-- 'kissgatelaw01.ArenaPlays': WHATEVER THE INPUT: true; the input reads as it did. -/
def arenaPlaysSpec : ChangeSpec := { name := "arenaPlays", fn := fun _ => fun
  | [d1, d2] => { results := [.lit (.bool true)], args := [d1, d2] }
  | _ => none }
def arenaPlaysRow : OpenClaim := { program := "ytfdcojhgpfmloaa", sum := "ddddb82052d2bfc6e8c8aa8bded9e5e4380a997a5af50ca43903d67f60395c55", func := "kissgate/kissgatelaw01.ArenaPlays", spec := "arenaPlays", inPlace := ["sync/atomic.AddInt64", "sync/atomic.CompareAndSwapInt64", "sync/atomic.LoadInt64", "sync/atomic.SwapInt64", "sync/atomic.StoreInt64"], apart := false }
def ArenaPlaysSaid : Prop := arenaPlaysRow.holds Try.pinned (OpenSpec.ofChange arenaPlaysSpec)

/-- ITS FALSE NEIGHBOUR: 'it returns false'. Refute it at one input. -/
def arenaPlaysWrong : ChangeSpec := { name := "arenaPlays", fn := fun _ => fun
  | [d1, d2] => { results := [.lit (.bool false)], args := [d1, d2] }
  | _ => none }
def ArenaPlaysWrongFalsely : Prop := arenaPlaysRow.holds Try.pinned (OpenSpec.ofChange arenaPlaysWrong)

/-- 'kissgatelaw01.ArenaNone': WHATEVER THE INPUT: true; the input reads as it did. -/
def arenaNoneSpec : ChangeSpec := { name := "arenaNone", fn := fun _ => fun
  | [d1, d2] => { results := [.lit (.bool true)], args := [d1, d2] }
  | _ => none }
def arenaNoneRow : OpenClaim := { program := "ytfdcojhgpfmloaa", sum := "ddddb82052d2bfc6e8c8aa8bded9e5e4380a997a5af50ca43903d67f60395c55", func := "kissgate/kissgatelaw01.ArenaNone", spec := "arenaNone", inPlace := ["sync/atomic.LoadInt64", "sync/atomic.StoreInt64", "sync/atomic.SwapInt64", "sync/atomic.CompareAndSwapInt64", "sync/atomic.AddInt64"], apart := false }
def ArenaNoneSaid : Prop := arenaNoneRow.holds Try.pinned (OpenSpec.ofChange arenaNoneSpec)

/-- ITS FALSE NEIGHBOUR: 'it returns false'. Refute it at one input. -/
def arenaNoneWrong : ChangeSpec := { name := "arenaNone", fn := fun _ => fun
  | [d1, d2] => { results := [.lit (.bool false)], args := [d1, d2] }
  | _ => none }
def ArenaNoneWrongFalsely : Prop := arenaNoneRow.holds Try.pinned (OpenSpec.ofChange arenaNoneWrong)

/-- 'kissgatelaw01.ArenaOne': WHATEVER THE INPUT: true; the input reads as it did. -/
def arenaOneSpec : ChangeSpec := { name := "arenaOne", fn := fun _ => fun
  | [d1, d2] => { results := [.lit (.bool true)], args := [d1, d2] }
  | _ => none }
def arenaOneRow : OpenClaim := { program := "ytfdcojhgpfmloaa", sum := "ddddb82052d2bfc6e8c8aa8bded9e5e4380a997a5af50ca43903d67f60395c55", func := "kissgate/kissgatelaw01.ArenaOne", spec := "arenaOne", inPlace := ["sync/atomic.AddInt64", "sync/atomic.CompareAndSwapInt64", "sync/atomic.LoadInt64", "sync/atomic.SwapInt64", "sync/atomic.StoreInt64"], apart := false }
def ArenaOneSaid : Prop := arenaOneRow.holds Try.pinned (OpenSpec.ofChange arenaOneSpec)

/-- ITS FALSE NEIGHBOUR: 'it returns false'. Refute it at one input. -/
def arenaOneWrong : ChangeSpec := { name := "arenaOne", fn := fun _ => fun
  | [d1, d2] => { results := [.lit (.bool false)], args := [d1, d2] }
  | _ => none }
def ArenaOneWrongFalsely : Prop := arenaOneRow.holds Try.pinned (OpenSpec.ofChange arenaOneWrong)

/-- 'kissgatelaw22.SpanSays': WHATEVER THE INPUT: true; the input reads as it did. -/
def spanSaysSpec : ChangeSpec := { name := "spanSays", fn := fun _ => fun
  | [d1, d2, d3] => { results := [.lit (.bool true)], args := [d1, d2, d3] }
  | _ => none }
def spanSaysRow : OpenClaim := { program := "ytfdcojhgpfmloaa", sum := "ddddb82052d2bfc6e8c8aa8bded9e5e4380a997a5af50ca43903d67f60395c55", func := "kissgate/kissgatelaw22.SpanSays", spec := "spanSays", apart := false }
def SpanSaysSaid : Prop := spanSaysRow.holds Try.pinned (OpenSpec.ofChange spanSaysSpec)

/-- ITS FALSE NEIGHBOUR: 'it returns false'. Refute it at one input. -/
def spanSaysWrong : ChangeSpec := { name := "spanSays", fn := fun _ => fun
  | [d1, d2, d3] => { results := [.lit (.bool false)], args := [d1, d2, d3] }
  | _ => none }
def SpanSaysWrongFalsely : Prop := spanSaysRow.holds Try.pinned (OpenSpec.ofChange spanSaysWrong)

/-- 'kissgatelaw30.ScanPlays': WHATEVER THE INPUT: true; the input reads as it did. -/
def scanPlaysSpec : ChangeSpec := { name := "scanPlays", fn := fun _ => fun
  | [d1, d2, d3] => { results := [.lit (.bool true)], args := [d1, d2, d3] }
  | _ => none }
def scanPlaysRow : OpenClaim := { program := "ytfdcojhgpfmloaa", sum := "ddddb82052d2bfc6e8c8aa8bded9e5e4380a997a5af50ca43903d67f60395c55", func := "kissgate/kissgatelaw30.ScanPlays", spec := "scanPlays", inPlace := ["sync/atomic.StoreInt64", "sync/atomic.LoadInt64"], unfollowed := true, recurses := true, apart := false }
def ScanPlaysSaid : Prop := scanPlaysRow.holds Try.pinned (OpenSpec.ofChange scanPlaysSpec)

/-- ITS FALSE NEIGHBOUR: 'it returns false'. Refute it at one input. -/
def scanPlaysWrong : ChangeSpec := { name := "scanPlays", fn := fun _ => fun
  | [d1, d2, d3] => { results := [.lit (.bool false)], args := [d1, d2, d3] }
  | _ => none }
def ScanPlaysWrongFalsely : Prop := scanPlaysRow.holds Try.pinned (OpenSpec.ofChange scanPlaysWrong)

/-- 'kissgatelaw30.ScanFinds': WHATEVER THE INPUT: true; the input reads as it did. -/
def scanFindsSpec : ChangeSpec := { name := "scanFinds", fn := fun _ => fun
  | [d1, d2, d3] => { results := [.lit (.bool true)], args := [d1, d2, d3] }
  | _ => none }
def scanFindsRow : OpenClaim := { program := "ytfdcojhgpfmloaa", sum := "ddddb82052d2bfc6e8c8aa8bded9e5e4380a997a5af50ca43903d67f60395c55", func := "kissgate/kissgatelaw30.ScanFinds", spec := "scanFinds", inPlace := ["sync/atomic.StoreInt64", "sync/atomic.LoadInt64"], unfollowed := true, recurses := true, apart := false }
def ScanFindsSaid : Prop := scanFindsRow.holds Try.pinned (OpenSpec.ofChange scanFindsSpec)

/-- ITS FALSE NEIGHBOUR: 'it returns false'. Refute it at one input. -/
def scanFindsWrong : ChangeSpec := { name := "scanFinds", fn := fun _ => fun
  | [d1, d2, d3] => { results := [.lit (.bool false)], args := [d1, d2, d3] }
  | _ => none }
def ScanFindsWrongFalsely : Prop := scanFindsRow.holds Try.pinned (OpenSpec.ofChange scanFindsWrong)

/-- 'kissgatelaw30.ScanEnds': WHATEVER THE INPUT: true; the input reads as it did. -/
def scanEndsSpec : ChangeSpec := { name := "scanEnds", fn := fun _ => fun
  | [d1, d2, d3] => { results := [.lit (.bool true)], args := [d1, d2, d3] }
  | _ => none }
def scanEndsRow : OpenClaim := { program := "ytfdcojhgpfmloaa", sum := "ddddb82052d2bfc6e8c8aa8bded9e5e4380a997a5af50ca43903d67f60395c55", func := "kissgate/kissgatelaw30.ScanEnds", spec := "scanEnds", inPlace := ["sync/atomic.StoreInt64", "sync/atomic.LoadInt64"], unfollowed := true, recurses := true, apart := false }
def ScanEndsSaid : Prop := scanEndsRow.holds Try.pinned (OpenSpec.ofChange scanEndsSpec)

/-- ITS FALSE NEIGHBOUR: 'it returns false'. Refute it at one input. -/
def scanEndsWrong : ChangeSpec := { name := "scanEnds", fn := fun _ => fun
  | [d1, d2, d3] => { results := [.lit (.bool false)], args := [d1, d2, d3] }
  | _ => none }
def ScanEndsWrongFalsely : Prop := scanEndsRow.holds Try.pinned (OpenSpec.ofChange scanEndsWrong)

/-- 'kissgatelaw11.SharedPlain': WHATEVER THE INPUT: true; the input reads as it did. -/
def sharedPlainSpec : ChangeSpec := { name := "sharedPlain", fn := fun _ => fun
  | [d1, d2] => { results := [.lit (.bool true)], args := [d1, d2] }
  | _ => none }
def sharedPlainRow : OpenClaim := { program := "ytfdcojhgpfmloaa", sum := "ddddb82052d2bfc6e8c8aa8bded9e5e4380a997a5af50ca43903d67f60395c55", func := "kissgate/kissgatelaw11.SharedPlain", spec := "sharedPlain", apart := false }
def SharedPlainSaid : Prop := sharedPlainRow.holds Try.pinned (OpenSpec.ofChange sharedPlainSpec)

/-- ITS FALSE NEIGHBOUR: 'it returns false'. Refute it at one input. -/
def sharedPlainWrong : ChangeSpec := { name := "sharedPlain", fn := fun _ => fun
  | [d1, d2] => { results := [.lit (.bool false)], args := [d1, d2] }
  | _ => none }
def SharedPlainWrongFalsely : Prop := sharedPlainRow.holds Try.pinned (OpenSpec.ofChange sharedPlainWrong)

/- THE SECOND FORM. 'bulk': how many values and letters a reading holds, each counted each time it is reached (what is shared counts as often as it is met; a slice's spare places count too). A statement '..UptoSaid' is the law's where the arguments, and the package variables that the reading takes, are together of bulk at most 1048576: NARROWER than '..Said'. Prove '..Said' where nothing that the law and all that it calls make is longer than what came in: it says more and counts as full. Else prove '..UptoSaid'. A law counts once. -/
mutual
def uptoBulk {H : Type} : DataW H → Nat
  | .lit (.string bytes) => bytes.length + 1
  | .lit _ => 1
  | .nil => 1
  | .ptr d => uptoBulk d + 1
  | .slice elems spare => uptoBulkAll elems + uptoBulkAll spare + 1
  | .agg parts => uptoBulkAll parts + 1
  | .iface _ d => uptoBulk d + 1
  | .map entries => uptoBulkEntries entries + 1
  | .held _ => 1
def uptoBulkAll {H : Type} : List (DataW H) → Nat
  | [] => 0
  | d :: r => uptoBulk d + uptoBulkAll r
def uptoBulkEntries {H : Type} : List (Lit × DataW H) → Nat
  | [] => 0
  | x :: r => uptoBulkEntry x + uptoBulkEntries r
def uptoBulkEntry {H : Type} : Lit × DataW H → Nat
  | (.string bytes, d) => bytes.length + uptoBulk d + 1
  | (_, d) => uptoBulk d + 1
 end
def uptoSmall : (H : Type) → List (DataW H) → Bool := fun _ ds => decide (uptoBulkAll ds ≤ 1048576)
def OpenSpec.upto (s : _root_.Go.ChangeSpec) : _root_.Go.OpenSpec := { _root_.Go.OpenSpec.ofChange s with cond := some uptoSmall }

/-- 'kissgatelaw11.SharedPlays', WHERE WHAT IT READS IS OF BULK AT MOST 1048576: true; the input reads as it did. -/
def sharedPlaysUptoRow : OpenClaim := { program := "ytfdcojhgpfmloaa", sum := "ddddb82052d2bfc6e8c8aa8bded9e5e4380a997a5af50ca43903d67f60395c55", func := "kissgate/kissgatelaw11.SharedPlays", spec := "sharedPlays", apart := false, narrowed := true }
def SharedPlaysUptoSaid : Prop := sharedPlaysUptoRow.holds Try.pinned (OpenSpec.upto sharedPlaysSpec)

/-- 'kissgatelaw11.SharedAlone', WHERE WHAT IT READS IS OF BULK AT MOST 1048576: true; the input reads as it did. -/
def sharedAloneUptoRow : OpenClaim := { program := "ytfdcojhgpfmloaa", sum := "ddddb82052d2bfc6e8c8aa8bded9e5e4380a997a5af50ca43903d67f60395c55", func := "kissgate/kissgatelaw11.SharedAlone", spec := "sharedAlone", apart := false, narrowed := true }
def SharedAloneUptoSaid : Prop := sharedAloneUptoRow.holds Try.pinned (OpenSpec.upto sharedAloneSpec)

/-- 'kissgatelaw11.SharedNone', WHERE WHAT IT READS IS OF BULK AT MOST 1048576: true; the input reads as it did. -/
def sharedNoneUptoRow : OpenClaim := { program := "ytfdcojhgpfmloaa", sum := "ddddb82052d2bfc6e8c8aa8bded9e5e4380a997a5af50ca43903d67f60395c55", func := "kissgate/kissgatelaw11.SharedNone", spec := "sharedNone", apart := false, narrowed := true }
def SharedNoneUptoSaid : Prop := sharedNoneUptoRow.holds Try.pinned (OpenSpec.upto sharedNoneSpec)

/-- 'kissgatelaw01.ArenaPlays', WHERE WHAT IT READS IS OF BULK AT MOST 1048576: true; the input reads as it did. -/
def arenaPlaysUptoRow : OpenClaim := { program := "ytfdcojhgpfmloaa", sum := "ddddb82052d2bfc6e8c8aa8bded9e5e4380a997a5af50ca43903d67f60395c55", func := "kissgate/kissgatelaw01.ArenaPlays", spec := "arenaPlays", inPlace := ["sync/atomic.AddInt64", "sync/atomic.CompareAndSwapInt64", "sync/atomic.LoadInt64", "sync/atomic.SwapInt64", "sync/atomic.StoreInt64"], apart := false, narrowed := true }
def ArenaPlaysUptoSaid : Prop := arenaPlaysUptoRow.holds Try.pinned (OpenSpec.upto arenaPlaysSpec)

/-- 'kissgatelaw01.ArenaNone', WHERE WHAT IT READS IS OF BULK AT MOST 1048576: true; the input reads as it did. -/
def arenaNoneUptoRow : OpenClaim := { program := "ytfdcojhgpfmloaa", sum := "ddddb82052d2bfc6e8c8aa8bded9e5e4380a997a5af50ca43903d67f60395c55", func := "kissgate/kissgatelaw01.ArenaNone", spec := "arenaNone", inPlace := ["sync/atomic.LoadInt64", "sync/atomic.StoreInt64", "sync/atomic.SwapInt64", "sync/atomic.CompareAndSwapInt64", "sync/atomic.AddInt64"], apart := false, narrowed := true }
def ArenaNoneUptoSaid : Prop := arenaNoneUptoRow.holds Try.pinned (OpenSpec.upto arenaNoneSpec)

/-- 'kissgatelaw01.ArenaOne', WHERE WHAT IT READS IS OF BULK AT MOST 1048576: true; the input reads as it did. -/
def arenaOneUptoRow : OpenClaim := { program := "ytfdcojhgpfmloaa", sum := "ddddb82052d2bfc6e8c8aa8bded9e5e4380a997a5af50ca43903d67f60395c55", func := "kissgate/kissgatelaw01.ArenaOne", spec := "arenaOne", inPlace := ["sync/atomic.AddInt64", "sync/atomic.CompareAndSwapInt64", "sync/atomic.LoadInt64", "sync/atomic.SwapInt64", "sync/atomic.StoreInt64"], apart := false, narrowed := true }
def ArenaOneUptoSaid : Prop := arenaOneUptoRow.holds Try.pinned (OpenSpec.upto arenaOneSpec)

/-- 'kissgatelaw22.SpanSays', WHERE WHAT IT READS IS OF BULK AT MOST 1048576: true; the input reads as it did. -/
def spanSaysUptoRow : OpenClaim := { program := "ytfdcojhgpfmloaa", sum := "ddddb82052d2bfc6e8c8aa8bded9e5e4380a997a5af50ca43903d67f60395c55", func := "kissgate/kissgatelaw22.SpanSays", spec := "spanSays", apart := false, narrowed := true }
def SpanSaysUptoSaid : Prop := spanSaysUptoRow.holds Try.pinned (OpenSpec.upto spanSaysSpec)

/-- 'kissgatelaw30.ScanPlays', WHERE WHAT IT READS IS OF BULK AT MOST 1048576: true; the input reads as it did. -/
def scanPlaysUptoRow : OpenClaim := { program := "ytfdcojhgpfmloaa", sum := "ddddb82052d2bfc6e8c8aa8bded9e5e4380a997a5af50ca43903d67f60395c55", func := "kissgate/kissgatelaw30.ScanPlays", spec := "scanPlays", inPlace := ["sync/atomic.StoreInt64", "sync/atomic.LoadInt64"], unfollowed := true, recurses := true, apart := false, narrowed := true }
def ScanPlaysUptoSaid : Prop := scanPlaysUptoRow.holds Try.pinned (OpenSpec.upto scanPlaysSpec)

/-- 'kissgatelaw30.ScanFinds', WHERE WHAT IT READS IS OF BULK AT MOST 1048576: true; the input reads as it did. -/
def scanFindsUptoRow : OpenClaim := { program := "ytfdcojhgpfmloaa", sum := "ddddb82052d2bfc6e8c8aa8bded9e5e4380a997a5af50ca43903d67f60395c55", func := "kissgate/kissgatelaw30.ScanFinds", spec := "scanFinds", inPlace := ["sync/atomic.StoreInt64", "sync/atomic.LoadInt64"], unfollowed := true, recurses := true, apart := false, narrowed := true }
def ScanFindsUptoSaid : Prop := scanFindsUptoRow.holds Try.pinned (OpenSpec.upto scanFindsSpec)

/-- 'kissgatelaw30.ScanEnds', WHERE WHAT IT READS IS OF BULK AT MOST 1048576: true; the input reads as it did. -/
def scanEndsUptoRow : OpenClaim := { program := "ytfdcojhgpfmloaa", sum := "ddddb82052d2bfc6e8c8aa8bded9e5e4380a997a5af50ca43903d67f60395c55", func := "kissgate/kissgatelaw30.ScanEnds", spec := "scanEnds", inPlace := ["sync/atomic.StoreInt64", "sync/atomic.LoadInt64"], unfollowed := true, recurses := true, apart := false, narrowed := true }
def ScanEndsUptoSaid : Prop := scanEndsUptoRow.holds Try.pinned (OpenSpec.upto scanEndsSpec)

/-- 'kissgatelaw11.SharedPlain', WHERE WHAT IT READS IS OF BULK AT MOST 1048576: true; the input reads as it did. -/
def sharedPlainUptoRow : OpenClaim := { program := "ytfdcojhgpfmloaa", sum := "ddddb82052d2bfc6e8c8aa8bded9e5e4380a997a5af50ca43903d67f60395c55", func := "kissgate/kissgatelaw11.SharedPlain", spec := "sharedPlain", apart := false, narrowed := true }
def SharedPlainUptoSaid : Prop := sharedPlainUptoRow.holds Try.pinned (OpenSpec.upto sharedPlainSpec)

end Rows
end Go.Proofs.Ytfdcojhgpfmloaa
