/- Layer 17's law PartedOrder: whatever comes. -/
import Derived.Test.YthffhhgaeolpgaaPt8
namespace Go.Proofs.Ythffhhgaeolpgaa.Pt
open Go.RowKit Go.Proofs.Ythffhhgaeolpgaa.Ara Go.Proofs.Ythffhhgaeolpgaa.Lok

set_option maxRecDepth 100000 in
theorem order_law (w : World) (n : Int) (h0 : isU8 n) (A : Option Addr) (c : Nat) (l : List Ac) (hc : l.length ≤ c) (hm : c ≤ maxLen) (_w0 : ∀ e ∈ l, isI64 e.kind ∧ isI64 e.i) (hs : Sl w w.heap.size A (l.flatMap decAc)) (hnil : A = none → c = 0) :
    Calls Try.prog 4 #[.int .u8 n, .slice A l.length c] w fun e w' => e = .returned (.bool true) ∧ Below w.heap.size w w' := by
  by_cases hl : l.length ≤ 100
  · exact order_walk n h0.1 h0.2 l A c w hl hs hnil
  · have i1 : (100 : Int) < (l.length : Int) := by omega
    have i2 : (l.length : Int) ≤ 9223372036854775807 := by simp only [maxLen] at hm; omega
    clear hs
    go_enter Try.func4, Try.ntmps4
    go_wp2_with fail
    refine (awake_lk _).mono ?_
    rintro e W9 ⟨rfl, hb9⟩
    go_wp2_with fail
    go_ret
    exact ⟨rfl, hb9⟩

end Go.Proofs.Ythffhhgaeolpgaa.Pt
