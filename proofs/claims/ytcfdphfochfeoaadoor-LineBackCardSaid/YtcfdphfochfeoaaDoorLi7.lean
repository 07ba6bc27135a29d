/- The laws of texts, their arguments as they are read. -/
import Derived.Test.YtcfdphfochfeoaaDoorLi5
import Derived.Test.YtcfdphfochfeoaaDoorLi6
import Derived.Test.YtcfdphfochfeoaaDoorDoor
namespace Go.Proofs.YtcfdphfochfeoaaDoor.Li
open Go.RowKit
theorem says (w : World) (ho : Ok w) (s : ByteArray) (hs : s.size ≤ maxLen) (A : Option Addr) (cap : Nat) (ls : List (List UInt8)) (hc : ls.length ≤ cap) (hm : cap ≤ maxLen) (h63 : ∀ x ∈ ls, x.length ≤ maxLen) (hsl : Sl w w.heap.size A (ls.flatMap fun l => [vS l])) :
    Calls Tryd.prog 3 #[.string s, .slice A ls.length cap] w fun e w' => e = .returned (.bool true) ∧ Below w.heap.size w w' :=
  says_law w ho s hs A cap ls (Nat.le_trans hc hm) h63 (by rw [← flatS]; exact hsl)
theorem back (w : World) (ho : Ok w) (A : Option Addr) (cap : Nat) (ls : List (List UInt8)) (hc : ls.length ≤ cap) (hm : cap ≤ maxLen) (h63 : ∀ x ∈ ls, x.length ≤ maxLen) (hsl : Sl w w.heap.size A (ls.flatMap fun l => [vS l])) (s : ByteArray) (hs : s.size ≤ maxLen) :
    Calls Tryd.prog 4 #[.slice A ls.length cap, .string s] w fun e w' => e = .returned (.bool true) ∧ Below w.heap.size w w' :=
  back_law w ho A cap ls (Nat.le_trans hc hm) h63 (by rw [← flatS]; exact hsl) s hs
end Go.Proofs.YtcfdphfochfeoaaDoor.Li
