/- Layer 30's law ScanPlays: whatever lists come. -/
import Derived.Test.YtfdcojhgpfmloaaScan9
namespace Go.Proofs.Ytfdcojhgpfmloaa.Ara
open Go.RowKit

set_option maxRecDepth 100000 in
theorem plays30_law (w : World) (A1 : Option Addr) (c1 : Nat) (ws : List Int) (hc1 : ws.length ≤ c1) (hm1 : c1 ≤ maxLen) (_w1 : ∀ e ∈ ws, isI64 e) (hs1 : Sl w w.heap.size A1 (ws.flatMap decI)) (A2 : Option Addr) (c2 : Nat) (ns : List Int) (hc2 : ns.length ≤ c2) (hm2 : c2 ≤ maxLen) (_w2 : ∀ e ∈ ns, isI64 e) (hs2 : Sl w w.heap.size A2 (ns.flatMap decI))
    (A3 : Option Addr) (c3 : Nat) (l : List Q4) (hc3 : l.length ≤ c3) (hm3 : c3 ≤ maxLen) (_w3 : ∀ e ∈ l, (fun _ => True) e) (hs3 : Sl w w.heap.size A3 (l.flatMap decQ)) :
    Calls Try.prog 10 #[.slice A1 ws.length c1, .slice A2 ns.length c2, .slice A3 l.length c3] w fun e w' => e = .returned (.bool true) ∧ Below w.heap.size w w' := by
  rw [flatI] at hs1 hs2
  by_cases h1 : ws.length ≤ 30
  · by_cases h2 : ns.length ≤ 12
    · by_cases h3 : l.length ≤ 20
      · exact plays30 ws A1 c1 ns A2 c2 l A3 c3 w h1 h2 h3 hs1 hs2 hs3
      · have i1 : (ws.length : Int) ≤ 30 := by omega
        have i2 : (ns.length : Int) ≤ 12 := by omega
        have i3 : (20 : Int) < (l.length : Int) := by omega
        have i4 : (l.length : Int) ≤ 9223372036854775807 := by simp only [maxLen] at hm3; omega
        clear hs1 hs2 hs3
        go_enter Try.func10, Try.ntmps10
        go_wp2_with fail
        refine (awake30 _).mono ?_
        rintro e W3 ⟨rfl, hb⟩
        go_wp2_with fail
        go_ret
        exact ⟨rfl, hb⟩
    · have i1 : (ws.length : Int) ≤ 30 := by omega
      have i2 : (12 : Int) < (ns.length : Int) := by omega
      have i4 : (ns.length : Int) ≤ 9223372036854775807 := by simp only [maxLen] at hm2; omega
      clear hs1 hs2 hs3
      go_enter Try.func10, Try.ntmps10
      go_wp2_with fail
      refine (awake30 _).mono ?_
      rintro e W3 ⟨rfl, hb⟩
      go_wp2_with fail
      go_ret
      exact ⟨rfl, hb⟩
  · have i1 : (30 : Int) < (ws.length : Int) := by omega
    have i4 : (ws.length : Int) ≤ 9223372036854775807 := by simp only [maxLen] at hm1; omega
    clear hs1 hs2 hs3
    go_enter Try.func10, Try.ntmps10
    go_wp2_with fail
    refine (awake30 _).mono ?_
    rintro e W3 ⟨rfl, hb⟩
    go_wp2_with fail
    go_ret
    exact ⟨rfl, hb⟩
end Go.Proofs.Ytfdcojhgpfmloaa.Ara
