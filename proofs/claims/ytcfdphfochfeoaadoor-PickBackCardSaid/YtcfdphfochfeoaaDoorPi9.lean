/- The laws of picks, their arguments as they are read. -/
import Derived.Test.YtcfdphfochfeoaaDoorPi8
import Derived.Test.YtcfdphfochfeoaaDoorDoor
namespace Go.Proofs.YtcfdphfochfeoaaDoor.Pi
open Go.RowKit Go.Proofs.YtcfdphfochfeoaaDoor.Li Go.Proofs.YtcfdphfochfeoaaDoor.De Go.Proofs.YtcfdphfochfeoaaDoor.Ara
theorem reads_pk {H : Type} {enc : TypeId × Value → H} : Reads enc Tryd.prog 59 dP okP :=
  (reads_s2 (d0 := Value.int .i64) (d1 := Value.int .i64) Tryd.underlying59 (by kernel_rfl) (by kernel_rfl) (reads_i64 Tryd.underlying3) (reads_i64 Tryd.underlying3)).map
    (fun p => ⟨p.1, p.2⟩) (fun _ => rfl) (fun _ h => h)
theorem says (w : World) (ho : Ok w) (A : Option Addr) (cap : Nat) (ps : List Pk) (hc : ps.length ≤ cap) (hm : cap ≤ maxLen) (h64 : ∀ p ∈ ps, okP p) (hsl : Sl w w.heap.size A (ps.flatMap dP)) (s : ByteArray) (hs : s.size ≤ maxLen) (x : Int) (hx : isU8 x) :
    Calls Tryd.prog 8 #[.slice A ps.length cap, .string s, .int .u8 x] w fun e w' => e = .returned (.bool true) ∧ Below w.heap.size w w' := by
  obtain ⟨h0, h1⟩ := hx
  have hn : ((UInt8.ofNat x.toNat).toNat : Int) = x := by
    rw [UInt8.toNat_ofNat']
    omega
  have := says_law w ho A cap ps (Nat.le_trans hc hm) h64 hsl (L s) (by rw [← size_L]; exact hs) (UInt8.ofNat x.toNat)
  rw [vS, B_L, hn] at this
  exact this
theorem back (w : World) (ho : Ok w) (A : Option Addr) (cap : Nat) (ps : List Pk) (hc : ps.length ≤ cap) (hm : cap ≤ maxLen) (h64 : ∀ p ∈ ps, okP p) (hsl : Sl w w.heap.size A (ps.flatMap dP)) (s : ByteArray) (hs : s.size ≤ maxLen) :
    Calls Tryd.prog 9 #[.slice A ps.length cap, .string s] w fun e w' => e = .returned (.bool true) ∧ Below w.heap.size w w' := by
  have := back_law w ho A cap ps (Nat.le_trans hc hm) h64 hsl (L s) (by rw [← size_L]; exact hs)
  rw [vS, B_L] at this
  exact this
end Go.Proofs.YtcfdphfochfeoaaDoor.Pi
