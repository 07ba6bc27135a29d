/- The laws of events, their arguments as they are read. -/
import Derived.Test.YtcfdphfochfeoaaDoorTr8
import Derived.Test.YtcfdphfochfeoaaDoorDoor
namespace Go.Proofs.YtcfdphfochfeoaaDoor.Tr
open Go.RowKit Go.Proofs.YtcfdphfochfeoaaDoor.Li Go.Proofs.YtcfdphfochfeoaaDoor.De Go.Proofs.YtcfdphfochfeoaaDoor.Ara
theorem reads_ev {H : Type} {enc : TypeId × Value → H} : Reads enc Tryd.prog 105 dE okE :=
  (reads_s4 (d0 := Value.int .i64) (d1 := Value.int .i64) (d2 := Value.bool) (d3 := Value.int .i64) Tryd.underlying105 (by kernel_rfl) (by kernel_rfl) (reads_i64 Tryd.underlying3) (reads_i64 Tryd.underlying3) (reads_bool Tryd.underlying4) (reads_i64 Tryd.underlying3)).map
    (fun p => ⟨p.1, p.2.1, p.2.2.1, p.2.2.2⟩) (fun _ => rfl) (fun _ h => ⟨h.1, h.2.1, h.2.2.2⟩)
theorem says (w : World) (ho : Ok w) (A : Option Addr) (cap : Nat) (ps : List Ev) (hc : ps.length ≤ cap) (hm : cap ≤ maxLen) (h64 : ∀ p ∈ ps, okE p) (hsl : Sl w w.heap.size A (ps.flatMap dE))
    (A2 : Option Addr) (cap2 : Nat) (ms : List Ev) (hc2 : ms.length ≤ cap2) (hm2 : cap2 ≤ maxLen) (_ : ∀ p ∈ ms, okE p) (hsl2 : Sl w w.heap.size A2 (ms.flatMap dE)) (s : ByteArray) (hs : s.size ≤ maxLen) :
    Calls Tryd.prog 10 #[.slice A ps.length cap, .slice A2 ms.length cap2, .string s] w fun e w' => e = .returned (.bool true) ∧ Below w.heap.size w w' := by
  have := says_law w ho A cap ps (Nat.le_trans hc hm) h64 hsl A2 cap2 ms (Nat.le_trans hc2 hm2) hsl2 (L s) (by rw [← size_L]; exact hs)
  rw [vS, B_L] at this
  exact this
theorem back (w : World) (ho : Ok w) (A : Option Addr) (cap : Nat) (ps : List Ev) (hc : ps.length ≤ cap) (hm : cap ≤ maxLen) (h64 : ∀ p ∈ ps, okE p) (hsl : Sl w w.heap.size A (ps.flatMap dE)) (s : ByteArray) (hs : s.size ≤ maxLen) :
    Calls Tryd.prog 11 #[.slice A ps.length cap, .string s] w fun e w' => e = .returned (.bool true) ∧ Below w.heap.size w w' := by
  have := back_law w ho A cap ps (Nat.le_trans hc hm) h64 hsl (L s) (by rw [← size_L]; exact hs)
  rw [vS, B_L] at this
  exact this
end Go.Proofs.YtcfdphfochfeoaaDoor.Tr
