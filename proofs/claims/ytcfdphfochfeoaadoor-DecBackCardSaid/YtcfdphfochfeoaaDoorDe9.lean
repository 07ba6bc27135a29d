/- The laws of numbers' texts, their arguments as they are read. -/
import Derived.Test.YtcfdphfochfeoaaDoorDe8
import Derived.Test.YtcfdphfochfeoaaDoorDoor
namespace Go.Proofs.YtcfdphfochfeoaaDoor.De
open Go.RowKit Go.Proofs.YtcfdphfochfeoaaDoor.Li Go.Proofs.YtcfdphfochfeoaaDoor.Ara
theorem says (w : World) (ho : Ok w) (n : Int) (hn : isI64 n) (s : ByteArray) (hs : s.size ≤ maxLen) :
    Calls Tryd.prog 5 #[.int .i64 n, .string s] w fun e w' => e = .returned (.bool true) ∧ Below w.heap.size w w' := by
  have := says_law w ho n hn (L s) (by rw [← size_L]; exact hs)
  rw [vS, B_L] at this
  exact this
theorem lists (w : World) (ho : Ok w) (A : Option Addr) (cap : Nat) (ns : List Int) (hc : ns.length ≤ cap) (hm : cap ≤ maxLen) (h64 : ∀ n ∈ ns, isI64 n) (hsl : Sl w w.heap.size A (ns.flatMap fun n : Int => [.int .i64 n])) (s : ByteArray) (hs : s.size ≤ maxLen) :
    Calls Tryd.prog 6 #[.slice A ns.length cap, .string s] w fun e w' => e = .returned (.bool true) ∧ Below w.heap.size w w' := by
  have := lists_law w ho A cap ns (Nat.le_trans hc hm) h64 hsl (L s) (by rw [← size_L]; exact hs)
  rw [vS, B_L] at this
  exact this
theorem back (w : World) (ho : Ok w) (n : Int) (hn : isI64 n) (A : Option Addr) (cap : Nat) (ns : List Int) (hc : ns.length ≤ cap) (hm : cap ≤ maxLen) (h64 : ∀ n ∈ ns, isI64 n) (hsl : Sl w w.heap.size A (ns.flatMap fun n : Int => [.int .i64 n])) (s : ByteArray) (hs : s.size ≤ maxLen) :
    Calls Tryd.prog 7 #[.int .i64 n, .slice A ns.length cap, .string s] w fun e w' => e = .returned (.bool true) ∧ Below w.heap.size w w' := by
  have := back_law w ho n hn A cap ns (Nat.le_trans hc hm) h64 hsl (L s) (by rw [← size_L]; exact hs)
  rw [vS, B_L] at this
  exact this
end Go.Proofs.YtcfdphfochfeoaaDoor.De
