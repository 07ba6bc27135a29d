/- Layer 1's law: same. -/
import Derived.Test.YtfdcojhgpfmloaaAl3
namespace Go.Proofs.Ytfdcojhgpfmloaa.Ara
open Go.RowKit

theorem words_nil (w : World) : Calls Try.prog 34 #[.pointer none] w fun e w' => e = .returned (.slice none 0 0) ∧ Below w.heap.size w w' := by
  go_enter Try.func34, Try.ntmps34
  go_wp2_with fail
  refine (len_nil _).mono ?_
  rintro e wx ⟨rfl, hwx⟩
  obtain rfl := hwx.symm
  go_wp2_with fail
  go_loop [3, 7] (fun o i => o = .slice none 0 0 ∧ i = .int .i64 0) (fun _ _ => 0)
  case atStart => exact ⟨rfl, rfl⟩
  case round =>
    obtain ⟨rfl, rfl⟩ := hrel
    go_wp2_with fail
    go_ret
    exact ⟨rfl, Below.refl _ _⟩
section
variable (q : Option Addr) (g h : Nat) (σ : Ar) (w : World) (H : AO q g h w σ)
include H
theorem len_ao : Calls Try.prog 32 #[.pointer q] w fun e w' => e = .returned (.int .i64 σ.t) ∧ w' = w := by
  rcases H with ⟨rfl, H⟩ | ⟨rfl, rfl⟩
  · exact len_any g h σ w H
  · exact len_nil w
theorem ops_ao : Calls Try.prog 33 #[.pointer q] w fun e w' => e = .returned (.int .i64 σ.ops) ∧ w' = w := by
  rcases H with ⟨rfl, H⟩ | ⟨rfl, rfl⟩
  · exact ops_any g h σ w H
  · exact ops_nil w
theorem last_ao : Calls Try.prog 35 #[.pointer q] w fun e w' => e = .returned (.agg #[.int .i64 σ.kind, .int .i64 σ.pos, .bool σ.wrote]) ∧ Below w.heap.size w w' := by
  rcases H with ⟨rfl, H⟩ | ⟨rfl, rfl⟩
  · exact last_any g h σ w H
  · exact last_nil w
theorem words_ao : Calls Try.prog 34 #[.pointer q] w fun e w' => ∃ A c, e = .returned (.slice A σ.t c) ∧ Sl w' w'.heap.size A ((σ.ws.take σ.t).flatMap decI) ∧ Below w.heap.size w w' := by
  rcases H with ⟨rfl, H⟩ | ⟨rfl, rfl⟩
  · refine (words_any g h σ w H).mono ?_
    rintro e w' ⟨v, rfl, hown, hb⟩
    obtain ⟨A, c, rfl, _, _, hs⟩ := own_slice hown
    refine ⟨A, c, rfl, ?_, hb⟩
    rw [flatI]
    exact hs
  · refine (words_nil w).mono ?_
    rintro e w' ⟨rfl, hb⟩
    exact ⟨none, 0, rfl, .inl rfl, hb⟩
end
end Go.Proofs.Ytfdcojhgpfmloaa.Ara
