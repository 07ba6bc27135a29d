/- TopoChecks, its arguments as they are read. -/
import Derived.Test.YtcfdphfochfeoaaDoorTp14
import Derived.Test.YtcfdphfochfeoaaDoorTpA
namespace Go.Proofs.YtcfdphfochfeoaaDoor.Tp
open Go.RowKit Go.Proofs.YtcfdphfochfeoaaDoor.Li Go.Proofs.YtcfdphfochfeoaaDoor.De Go.Proofs.YtcfdphfochfeoaaDoor.Ara
theorem checks (w : World) (ho : Ok w) (A B : Option Addr) (c d : Nat) (p t : List Int) (hc : p.length ≤ c) (hm : c ≤ maxLen) (hd : t.length ≤ d) (hn : d ≤ maxLen) (hs : Sl w w.heap.size A (p.flatMap decI)) (ht : Sl w w.heap.size B (t.flatMap decI))
    (A2 B2 : Option Addr) (c2 d2 : Nat) (q u : List Int) (hc2 : q.length ≤ c2) (hm2 : c2 ≤ maxLen) (hd2 : u.length ≤ d2) (hn2 : d2 ≤ maxLen) (hs2 : Sl w w.heap.size A2 (q.flatMap decI)) (ht2 : Sl w w.heap.size B2 (u.flatMap decI)) :
    Calls Tryd.prog 12 #[.agg #[.slice A p.length c, .slice B t.length d], .agg #[.slice A2 q.length c2, .slice B2 u.length d2]] w fun e w' => e = .returned (.bool true) ∧ Below w.heap.size w w' :=
  checks_law w ho p t q u A B A2 B2 c d c2 d2 (Nat.le_trans hc hm) (Nat.le_trans hd hn) (Nat.le_trans hc2 hm2) (Nat.le_trans hd2 hn2) hs ht hs2 ht2
end Go.Proofs.YtcfdphfochfeoaaDoor.Tp
