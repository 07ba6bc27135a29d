/-
  No cell of these rows narrows 'for every input' (looked for: loops, veiled, ifaces, maps, wideKeys, modest, calm, conditions, laid).
  DERIVED. THE GIVEN ROWS OF THIS SEAT. 5 by the template 'for every input the law returns true; each argument reads behind the call as it read before'; 0 by the template 'total and deterministic' (their statements: YtfnmggmgdmokcaaGreatTotals.lean).
  GIVEN WITH THE SEED: the statements are not yours to turn. If you find one false, say at which input.
  Laid BY PROGRAM, IN A SANDBOX (cutbox-rows.mjs): the forced cells as the released guide's own fill.sh prints them over the translation 1282c43d3d71ec45… (all of the seat's roots in one cut). By AI agents, Wed Nov 11 2026. No macro, syntax, notation, axiom, sorry.
-/
import Derived.Test.YtfnmggmgdmokcaaGreatChecked
import GoSem.Claim
import GoSem.ClaimJoined
import GoSem.ClaimMapViews
import Derived.JoinedTies
import Derived.KernelRfl
namespace Go.Proofs.YtfnmggmgdmokcaaGreat
/- THE CELL 'sum', in the pinned program and in every row, IS THE sha256 OF THE DUMP (.gsa) THAT YtfnmggmgdmokcaaGreatProg.lean LOADS. Nothing in Lean hashes anything: it is a label: what it is worth is what the hold of that sum in a sandbox is worth. -/
noncomputable def Tryz.pinned : Pinned := { name := "ytfnmggmgdmokcaagreat", sum := "1282c43d3d71ec45f68cd2b3fd5f1525dacac8aad320c8b24ee368519b21daef", checked := Tryz.checked }
namespace Rows
def none {H : Type} : Left H := { results := [], args := [] }

/-- 'kissgatelaw24.CohortAll': WHATEVER THE INPUT: true; the input reads as it did. -/
def cohortAllSpec : ChangeSpec := { name := "cohortAll", fn := fun _ => fun
  | [d1, d2, d3] => { results := [.lit (.bool true)], args := [d1, d2, d3] }
  | _ => none }
def cohortAllRow : OpenClaim := { program := "ytfnmggmgdmokcaagreat", sum := "1282c43d3d71ec45f68cd2b3fd5f1525dacac8aad320c8b24ee368519b21daef", func := "kissgate/kissgatelaw24.CohortAll", spec := "cohortAll", inPlace := ["sync/atomic.LoadUint32", "(*internal/sync.Mutex).Lock", "internal/race.Disable", "sync/atomic.CompareAndSwapInt32", "internal/race.Enable", "internal/race.Acquire", "(*internal/sync.Mutex).lockSlow", "internal/sync.runtime_canSpin", "internal/sync.runtime_doSpin", "internal/sync.throw", "internal/sync.runtime_nanotime", "internal/sync.runtime_SemacquireMutex", "sync/atomic.AddInt32", "(*internal/sync.Mutex).Unlock", "internal/race.ReleaseMerge", "(*internal/sync.Mutex).unlockSlow", "internal/sync.fatal", "internal/sync.runtime_Semrelease", "sync/atomic.StoreUint32", "sync/atomic.StoreInt64", "sync/atomic.LoadInt64"], unfollowed := true, recurses := true, apart := false }
def CohortAllSaid : Prop := cohortAllRow.holds Tryz.pinned (OpenSpec.ofChange cohortAllSpec)

/-- ITS FALSE NEIGHBOUR: 'it returns false'. Refute it at one input. -/
def cohortAllWrong : ChangeSpec := { name := "cohortAll", fn := fun _ => fun
  | [d1, d2, d3] => { results := [.lit (.bool false)], args := [d1, d2, d3] }
  | _ => none }
def CohortAllWrongFalsely : Prop := cohortAllRow.holds Tryz.pinned (OpenSpec.ofChange cohortAllWrong)

/-- 'kissgatelaw24.CohortOne': WHATEVER THE INPUT: true; the input reads as it did. -/
def cohortOneSpec : ChangeSpec := { name := "cohortOne", fn := fun _ => fun
  | [d1, d2, d3] => { results := [.lit (.bool true)], args := [d1, d2, d3] }
  | _ => none }
def cohortOneRow : OpenClaim := { program := "ytfnmggmgdmokcaagreat", sum := "1282c43d3d71ec45f68cd2b3fd5f1525dacac8aad320c8b24ee368519b21daef", func := "kissgate/kissgatelaw24.CohortOne", spec := "cohortOne", inPlace := ["sync/atomic.LoadUint32", "(*internal/sync.Mutex).Lock", "internal/race.Disable", "sync/atomic.CompareAndSwapInt32", "internal/race.Enable", "internal/race.Acquire", "(*internal/sync.Mutex).lockSlow", "internal/sync.runtime_canSpin", "internal/sync.runtime_doSpin", "internal/sync.throw", "internal/sync.runtime_nanotime", "internal/sync.runtime_SemacquireMutex", "sync/atomic.AddInt32", "(*internal/sync.Mutex).Unlock", "internal/race.ReleaseMerge", "(*internal/sync.Mutex).unlockSlow", "internal/sync.fatal", "internal/sync.runtime_Semrelease", "sync/atomic.StoreUint32", "sync/atomic.StoreInt64", "sync/atomic.LoadInt64"], unfollowed := true, recurses := true, apart := false }
def CohortOneSaid : Prop := cohortOneRow.holds Tryz.pinned (OpenSpec.ofChange cohortOneSpec)

/-- ITS FALSE NEIGHBOUR: 'it returns false'. Refute it at one input. -/
def cohortOneWrong : ChangeSpec := { name := "cohortOne", fn := fun _ => fun
  | [d1, d2, d3] => { results := [.lit (.bool false)], args := [d1, d2, d3] }
  | _ => none }
def CohortOneWrongFalsely : Prop := cohortOneRow.holds Tryz.pinned (OpenSpec.ofChange cohortOneWrong)

/-- 'kissgatelaw24.CohortAhead': WHATEVER THE INPUT: true; the input reads as it did. -/
def cohortAheadSpec : ChangeSpec := { name := "cohortAhead", fn := fun _ => fun
  | [d1, d2, d3] => { results := [.lit (.bool true)], args := [d1, d2, d3] }
  | _ => none }
def cohortAheadRow : OpenClaim := { program := "ytfnmggmgdmokcaagreat", sum := "1282c43d3d71ec45f68cd2b3fd5f1525dacac8aad320c8b24ee368519b21daef", func := "kissgate/kissgatelaw24.CohortAhead", spec := "cohortAhead", inPlace := ["sync/atomic.LoadUint32", "(*internal/sync.Mutex).Lock", "internal/race.Disable", "sync/atomic.CompareAndSwapInt32", "internal/race.Enable", "internal/race.Acquire", "(*internal/sync.Mutex).lockSlow", "internal/sync.runtime_canSpin", "internal/sync.runtime_doSpin", "internal/sync.throw", "internal/sync.runtime_nanotime", "internal/sync.runtime_SemacquireMutex", "sync/atomic.AddInt32", "(*internal/sync.Mutex).Unlock", "internal/race.ReleaseMerge", "(*internal/sync.Mutex).unlockSlow", "internal/sync.fatal", "internal/sync.runtime_Semrelease", "sync/atomic.StoreUint32", "sync/atomic.StoreInt64", "sync/atomic.LoadInt64"], unfollowed := true, recurses := true, apart := false }
def CohortAheadSaid : Prop := cohortAheadRow.holds Tryz.pinned (OpenSpec.ofChange cohortAheadSpec)

/-- ITS FALSE NEIGHBOUR: 'it returns false'. Refute it at one input. -/
def cohortAheadWrong : ChangeSpec := { name := "cohortAhead", fn := fun _ => fun
  | [d1, d2, d3] => { results := [.lit (.bool false)], args := [d1, d2, d3] }
  | _ => none }
def CohortAheadWrongFalsely : Prop := cohortAheadRow.holds Tryz.pinned (OpenSpec.ofChange cohortAheadWrong)

/-- 'kissgatelaw24.CohortTotal': WHATEVER THE INPUT: true; the input reads as it did. -/
def cohortTotalSpec : ChangeSpec := { name := "cohortTotal", fn := fun _ => fun
  | [d1, d2, d3] => { results := [.lit (.bool true)], args := [d1, d2, d3] }
  | _ => none }
def cohortTotalRow : OpenClaim := { program := "ytfnmggmgdmokcaagreat", sum := "1282c43d3d71ec45f68cd2b3fd5f1525dacac8aad320c8b24ee368519b21daef", func := "kissgate/kissgatelaw24.CohortTotal", spec := "cohortTotal", inPlace := ["sync/atomic.LoadUint32", "(*internal/sync.Mutex).Lock", "internal/race.Disable", "sync/atomic.CompareAndSwapInt32", "internal/race.Enable", "internal/race.Acquire", "(*internal/sync.Mutex).lockSlow", "internal/sync.runtime_canSpin", "internal/sync.runtime_doSpin", "internal/sync.throw", "internal/sync.runtime_nanotime", "internal/sync.runtime_SemacquireMutex", "sync/atomic.AddInt32", "(*internal/sync.Mutex).Unlock", "internal/race.ReleaseMerge", "(*internal/sync.Mutex).unlockSlow", "internal/sync.fatal", "internal/sync.runtime_Semrelease", "sync/atomic.StoreUint32", "sync/atomic.StoreInt64", "sync/atomic.LoadInt64"], unfollowed := true, recurses := true, apart := false }
def CohortTotalSaid : Prop := cohortTotalRow.holds Tryz.pinned (OpenSpec.ofChange cohortTotalSpec)

/-- ITS FALSE NEIGHBOUR: 'it returns false'. Refute it at one input. -/
def cohortTotalWrong : ChangeSpec := { name := "cohortTotal", fn := fun _ => fun
  | [d1, d2, d3] => { results := [.lit (.bool false)], args := [d1, d2, d3] }
  | _ => none }
def CohortTotalWrongFalsely : Prop := cohortTotalRow.holds Tryz.pinned (OpenSpec.ofChange cohortTotalWrong)

/-- 'kissgatelaw24.CohortTenure': WHATEVER THE INPUT: true; the input reads as it did. -/
def cohortTenureSpec : ChangeSpec := { name := "cohortTenure", fn := fun _ => fun
  | [d1, d2, d3] => { results := [.lit (.bool true)], args := [d1, d2, d3] }
  | _ => none }
def cohortTenureRow : OpenClaim := { program := "ytfnmggmgdmokcaagreat", sum := "1282c43d3d71ec45f68cd2b3fd5f1525dacac8aad320c8b24ee368519b21daef", func := "kissgate/kissgatelaw24.CohortTenure", spec := "cohortTenure", inPlace := ["sync/atomic.LoadUint32", "(*internal/sync.Mutex).Lock", "internal/race.Disable", "sync/atomic.CompareAndSwapInt32", "internal/race.Enable", "internal/race.Acquire", "(*internal/sync.Mutex).lockSlow", "internal/sync.runtime_canSpin", "internal/sync.runtime_doSpin", "internal/sync.throw", "internal/sync.runtime_nanotime", "internal/sync.runtime_SemacquireMutex", "sync/atomic.AddInt32", "(*internal/sync.Mutex).Unlock", "internal/race.ReleaseMerge", "(*internal/sync.Mutex).unlockSlow", "internal/sync.fatal", "internal/sync.runtime_Semrelease", "sync/atomic.StoreUint32", "sync/atomic.StoreInt64", "sync/atomic.LoadInt64"], unfollowed := true, recurses := true, apart := false }
def CohortTenureSaid : Prop := cohortTenureRow.holds Tryz.pinned (OpenSpec.ofChange cohortTenureSpec)

/-- ITS FALSE NEIGHBOUR: 'it returns false'. Refute it at one input. -/
def cohortTenureWrong : ChangeSpec := { name := "cohortTenure", fn := fun _ => fun
  | [d1, d2, d3] => { results := [.lit (.bool false)], args := [d1, d2, d3] }
  | _ => none }
def CohortTenureWrongFalsely : Prop := cohortTenureRow.holds Tryz.pinned (OpenSpec.ofChange cohortTenureWrong)

/- THE SECOND FORM. 'bulk': how many values and letters a reading holds, each counted each time it is reached (what is shared counts as often as it is met; a slice's spare places count too). A statement '..UptoSaid' is the law's where the arguments, and the package variables that the reading takes, are together of bulk at most 1048576: NARROWER than '..Said'. Prove '..Said' where nothing that the law and all that it calls make is longer than what came in: it says more and counts as full. Else prove '..UptoSaid'. A law counts once. -/
mutual
def uptoBulk {H : Type} : DataW H → Nat
  | .lit (.string bytes) => bytes.length + 1
  | .lit _ => 1
  | .nil => 1
  | .ptr d => uptoBulk d + 1
  | .slice elems spare => uptoBulkAll elems + uptoBulkAll spare + 1
  | .agg parts => uptoBulkAll parts + 1
  | .iface _ d => uptoBulk d + 1
  | .map entries => uptoBulkEntries entries + 1
  | .held _ => 1
def uptoBulkAll {H : Type} : List (DataW H) → Nat
  | [] => 0
  | d :: r => uptoBulk d + uptoBulkAll r
def uptoBulkEntries {H : Type} : List (Lit × DataW H) → Nat
  | [] => 0
  | x :: r => uptoBulkEntry x + uptoBulkEntries r
def uptoBulkEntry {H : Type} : Lit × DataW H → Nat
  | (.string bytes, d) => bytes.length + uptoBulk d + 1
  | (_, d) => uptoBulk d + 1
 end
def uptoSmall : (H : Type) → List (DataW H) → Bool := fun _ ds => decide (uptoBulkAll ds ≤ 1048576)
def OpenSpec.upto (s : _root_.Go.ChangeSpec) : _root_.Go.OpenSpec := { _root_.Go.OpenSpec.ofChange s with cond := some uptoSmall }

/-- 'kissgatelaw24.CohortAll', WHERE WHAT IT READS IS OF BULK AT MOST 1048576: true; the input reads as it did. -/
def cohortAllUptoRow : OpenClaim := { program := "ytfnmggmgdmokcaagreat", sum := "1282c43d3d71ec45f68cd2b3fd5f1525dacac8aad320c8b24ee368519b21daef", func := "kissgate/kissgatelaw24.CohortAll", spec := "cohortAll", inPlace := ["sync/atomic.LoadUint32", "(*internal/sync.Mutex).Lock", "internal/race.Disable", "sync/atomic.CompareAndSwapInt32", "internal/race.Enable", "internal/race.Acquire", "(*internal/sync.Mutex).lockSlow", "internal/sync.runtime_canSpin", "internal/sync.runtime_doSpin", "internal/sync.throw", "internal/sync.runtime_nanotime", "internal/sync.runtime_SemacquireMutex", "sync/atomic.AddInt32", "(*internal/sync.Mutex).Unlock", "internal/race.ReleaseMerge", "(*internal/sync.Mutex).unlockSlow", "internal/sync.fatal", "internal/sync.runtime_Semrelease", "sync/atomic.StoreUint32", "sync/atomic.StoreInt64", "sync/atomic.LoadInt64"], unfollowed := true, recurses := true, apart := false, narrowed := true }
def CohortAllUptoSaid : Prop := cohortAllUptoRow.holds Tryz.pinned (OpenSpec.upto cohortAllSpec)

/-- 'kissgatelaw24.CohortOne', WHERE WHAT IT READS IS OF BULK AT MOST 1048576: true; the input reads as it did. -/
def cohortOneUptoRow : OpenClaim := { program := "ytfnmggmgdmokcaagreat", sum := "1282c43d3d71ec45f68cd2b3fd5f1525dacac8aad320c8b24ee368519b21daef", func := "kissgate/kissgatelaw24.CohortOne", spec := "cohortOne", inPlace := ["sync/atomic.LoadUint32", "(*internal/sync.Mutex).Lock", "internal/race.Disable", "sync/atomic.CompareAndSwapInt32", "internal/race.Enable", "internal/race.Acquire", "(*internal/sync.Mutex).lockSlow", "internal/sync.runtime_canSpin", "internal/sync.runtime_doSpin", "internal/sync.throw", "internal/sync.runtime_nanotime", "internal/sync.runtime_SemacquireMutex", "sync/atomic.AddInt32", "(*internal/sync.Mutex).Unlock", "internal/race.ReleaseMerge", "(*internal/sync.Mutex).unlockSlow", "internal/sync.fatal", "internal/sync.runtime_Semrelease", "sync/atomic.StoreUint32", "sync/atomic.StoreInt64", "sync/atomic.LoadInt64"], unfollowed := true, recurses := true, apart := false, narrowed := true }
def CohortOneUptoSaid : Prop := cohortOneUptoRow.holds Tryz.pinned (OpenSpec.upto cohortOneSpec)

/-- 'kissgatelaw24.CohortAhead', WHERE WHAT IT READS IS OF BULK AT MOST 1048576: true; the input reads as it did. -/
def cohortAheadUptoRow : OpenClaim := { program := "ytfnmggmgdmokcaagreat", sum := "1282c43d3d71ec45f68cd2b3fd5f1525dacac8aad320c8b24ee368519b21daef", func := "kissgate/kissgatelaw24.CohortAhead", spec := "cohortAhead", inPlace := ["sync/atomic.LoadUint32", "(*internal/sync.Mutex).Lock", "internal/race.Disable", "sync/atomic.CompareAndSwapInt32", "internal/race.Enable", "internal/race.Acquire", "(*internal/sync.Mutex).lockSlow", "internal/sync.runtime_canSpin", "internal/sync.runtime_doSpin", "internal/sync.throw", "internal/sync.runtime_nanotime", "internal/sync.runtime_SemacquireMutex", "sync/atomic.AddInt32", "(*internal/sync.Mutex).Unlock", "internal/race.ReleaseMerge", "(*internal/sync.Mutex).unlockSlow", "internal/sync.fatal", "internal/sync.runtime_Semrelease", "sync/atomic.StoreUint32", "sync/atomic.StoreInt64", "sync/atomic.LoadInt64"], unfollowed := true, recurses := true, apart := false, narrowed := true }
def CohortAheadUptoSaid : Prop := cohortAheadUptoRow.holds Tryz.pinned (OpenSpec.upto cohortAheadSpec)

/-- 'kissgatelaw24.CohortTotal', WHERE WHAT IT READS IS OF BULK AT MOST 1048576: true; the input reads as it did. -/
def cohortTotalUptoRow : OpenClaim := { program := "ytfnmggmgdmokcaagreat", sum := "1282c43d3d71ec45f68cd2b3fd5f1525dacac8aad320c8b24ee368519b21daef", func := "kissgate/kissgatelaw24.CohortTotal", spec := "cohortTotal", inPlace := ["sync/atomic.LoadUint32", "(*internal/sync.Mutex).Lock", "internal/race.Disable", "sync/atomic.CompareAndSwapInt32", "internal/race.Enable", "internal/race.Acquire", "(*internal/sync.Mutex).lockSlow", "internal/sync.runtime_canSpin", "internal/sync.runtime_doSpin", "internal/sync.throw", "internal/sync.runtime_nanotime", "internal/sync.runtime_SemacquireMutex", "sync/atomic.AddInt32", "(*internal/sync.Mutex).Unlock", "internal/race.ReleaseMerge", "(*internal/sync.Mutex).unlockSlow", "internal/sync.fatal", "internal/sync.runtime_Semrelease", "sync/atomic.StoreUint32", "sync/atomic.StoreInt64", "sync/atomic.LoadInt64"], unfollowed := true, recurses := true, apart := false, narrowed := true }
def CohortTotalUptoSaid : Prop := cohortTotalUptoRow.holds Tryz.pinned (OpenSpec.upto cohortTotalSpec)

/-- 'kissgatelaw24.CohortTenure', WHERE WHAT IT READS IS OF BULK AT MOST 1048576: true; the input reads as it did. -/
def cohortTenureUptoRow : OpenClaim := { program := "ytfnmggmgdmokcaagreat", sum := "1282c43d3d71ec45f68cd2b3fd5f1525dacac8aad320c8b24ee368519b21daef", func := "kissgate/kissgatelaw24.CohortTenure", spec := "cohortTenure", inPlace := ["sync/atomic.LoadUint32", "(*internal/sync.Mutex).Lock", "internal/race.Disable", "sync/atomic.CompareAndSwapInt32", "internal/race.Enable", "internal/race.Acquire", "(*internal/sync.Mutex).lockSlow", "internal/sync.runtime_canSpin", "internal/sync.runtime_doSpin", "internal/sync.throw", "internal/sync.runtime_nanotime", "internal/sync.runtime_SemacquireMutex", "sync/atomic.AddInt32", "(*internal/sync.Mutex).Unlock", "internal/race.ReleaseMerge", "(*internal/sync.Mutex).unlockSlow", "internal/sync.fatal", "internal/sync.runtime_Semrelease", "sync/atomic.StoreUint32", "sync/atomic.StoreInt64", "sync/atomic.LoadInt64"], unfollowed := true, recurses := true, apart := false, narrowed := true }
def CohortTenureUptoSaid : Prop := cohortTenureUptoRow.holds Tryz.pinned (OpenSpec.upto cohortTenureSpec)

end Rows
end Go.Proofs.YtfnmggmgdmokcaaGreat
