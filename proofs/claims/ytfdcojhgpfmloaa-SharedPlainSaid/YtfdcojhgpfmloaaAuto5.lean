/- Walks of the reference of layer 10: Holder. -/
import Derived.Test.YtfdcojhgpfmloaaAuto4
namespace Go.Proofs.Ytfdcojhgpfmloaa.Aut
open Go.RowKit

/-- At what each thread is, behind events. -/
def stOf (n : Nat) (l : List Ev) : List Nat := (List.range n).map fun i => rstate l (i : Nat)
theorem som_le (t : Int) : som t ≤ 32 := by unfold som; split; omega; split <;> omega

end Go.Proofs.Ytfdcojhgpfmloaa.Aut
