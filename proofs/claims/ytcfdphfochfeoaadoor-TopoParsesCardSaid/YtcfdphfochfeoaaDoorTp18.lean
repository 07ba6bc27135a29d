/- TopoParses, its argument as it is read. -/
import Derived.Test.YtcfdphfochfeoaaDoorTp15
namespace Go.Proofs.YtcfdphfochfeoaaDoor.Tp
open Go.RowKit Go.Proofs.YtcfdphfochfeoaaDoor.Li Go.Proofs.YtcfdphfochfeoaaDoor.De Go.Proofs.YtcfdphfochfeoaaDoor.Ara
theorem parses (w : World) (ho : Ok w) (s : ByteArray) (hs : s.size ≤ maxLen) : Calls Tryd.prog 14 #[.string s] w fun e w' => e = .returned (.bool true) ∧ Below w.heap.size w w' := by
  have := parses_law w ho (L s) (by rw [← size_L]; exact hs)
  rw [vS, B_L] at this
  exact this
end Go.Proofs.YtcfdphfochfeoaaDoor.Tp
