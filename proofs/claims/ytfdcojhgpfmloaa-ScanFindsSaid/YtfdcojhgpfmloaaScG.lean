/- Layer 30's law ScanFinds: whatever comes. -/
import Derived.Test.YtfdcojhgpfmloaaScF
namespace Go.Proofs.Ytfdcojhgpfmloaa.Ara
open Go.RowKit

theorem flatU (l : List Int) : l.flatMap (fun n => [Value.int .u8 n]) = l.map (Value.int .u8) := by
  induction l with
  | nil => rfl
  | cons x l ih => rw [List.flatMap_cons, ih, List.map_cons]; rfl
theorem finds30_law (w : World) (A : Option Addr) (c : Nat) (order : List Int) (hc : order.length ≤ c) (hm : c ≤ maxLen) (w0 : ∀ e ∈ order, isU8 e) (hs : Sl w w.heap.size A (order.flatMap (fun n => [Value.int .u8 n]))) (nds : List Int) (hn : nds.length = 12 ∧ ∀ e ∈ nds, isU8 e) (nd : Int) (h : isU8 nd) :
    Calls Try.prog 11 #[.slice A order.length c, .agg (nds.flatMap (fun n => [Value.int .u8 n])).toArray, .int .u8 nd] w fun e w' => e = .returned (.bool true) ∧ Below w.heap.size w w' := by
  rw [flatU] at hs ⊢
  exact finds_rest nds hn.1 hn.2 nd h.1 h.2 order A c w0 (by omega) w hs _ rfl
end Go.Proofs.Ytfdcojhgpfmloaa.Ara
