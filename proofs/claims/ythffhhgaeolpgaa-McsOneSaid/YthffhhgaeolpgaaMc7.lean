/- Layer 18's law McsOne: whatever comes. -/
import Derived.Test.YthffhhgaeolpgaaMc6
namespace Go.Proofs.Ythffhhgaeolpgaa.Mc
open Go.RowKit Go.Proofs.Ythffhhgaeolpgaa.Ara Go.Proofs.Ythffhhgaeolpgaa.Lok

theorem reads_ac {H : Type} {enc : TypeId × Value → H} : Reads enc Try.prog 34 decAc (fun e => isI64 e.kind ∧ isI64 e.i) :=
  (reads_s2 (d0 := Value.int .i64) (d1 := Value.int .i64) Try.underlying34 (by kernel_rfl) (by kernel_rfl) (reads_i64 Try.underlying3) (reads_i64 Try.underlying3)).map
    (fun p => ⟨p.1, p.2⟩) (fun _ => rfl) (fun _ h => h)
set_option maxRecDepth 100000 in
theorem one_law (w : World) (n : Int) (h0 : isU8 n) (A : Option Addr) (c : Nat) (l : List Ac) (hc : l.length ≤ c) (hm : c ≤ maxLen) (_w0 : ∀ e ∈ l, isI64 e.kind ∧ isI64 e.i) (hs : Sl w w.heap.size A (l.flatMap decAc)) :
    Calls Try.prog 7 #[.int .u8 n, .slice A l.length c] w fun e w' => e = .returned (.bool true) ∧ Below w.heap.size w w' := by
  by_cases hl : l.length ≤ 100
  · exact one_walk n h0.1 h0.2 l A c w hl hs
  · have i1 : (100 : Int) < (l.length : Int) := by omega
    have i2 : (l.length : Int) ≤ 9223372036854775807 := by simp only [maxLen] at hm; omega
    clear hs
    go_enter Try.func7, Try.ntmps7
    go_wp2_with fail
    refine (awake_lk _).mono ?_
    rintro e W9 ⟨rfl, hb9⟩
    go_wp2_with fail
    go_ret
    exact ⟨rfl, hb9⟩

end Go.Proofs.Ythffhhgaeolpgaa.Mc
