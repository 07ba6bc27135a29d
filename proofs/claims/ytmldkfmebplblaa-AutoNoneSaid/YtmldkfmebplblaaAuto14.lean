/- The reference's Do of layer 10, whole. -/
import Derived.Test.YtmldkfmebplblaaAuto13
namespace Go.Proofs.Ytmldkfmebplblaa.Aut
open Go.RowKit

theorem rdo_any (T : Int) (l : List Ev) (e : Ev) (A : Option Addr) (cap : Nat) (w : World) (hm : l.length ≤ 9223372036854775807) (hs : Sl w w.heap.size A (l.flatMap decE)) :
    Calls Try.prog 50 #[.int .i64 T, .slice A l.length cap, .agg (decE e).toArray] w fun r w' => r = .returned (.int .i64 (rdo T l e)) ∧ ∃ n, w' = (w.alloc (boxE e)).drewN n := by
  obtain ⟨kd, th, rd, ct⟩ := e
  unfold rdo
  by_cases h1 : rd = true ∨ kd < 0 ∨ 5 < kd
  · rw [if_pos h1]
    refine (rdo_kind T l kd th ct rd A cap w h1).mono ?_
    rintro r w' ⟨rfl, rfl⟩
    exact ⟨rfl, 0, rfl⟩
  rw [if_neg h1]
  have hr : rd = false := by cases rd <;> simp at h1 ⊢
  subst hr
  have hk : 0 ≤ kd ∧ kd ≤ 5 := by simp at h1; omega
  by_cases h2 : kd = 0 ∨ kd = 5
  · rw [if_pos h2]
    refine (rdo_free T l kd th ct A cap w h2).mono ?_
    rintro r w' ⟨rfl, rfl⟩
    exact ⟨rfl, 0, rfl⟩
  rw [if_neg h2]
  by_cases h3 : th < 0 ∨ (som T : Int) ≤ th
  · rw [if_pos h3]
    exact rdo_none T l kd th ct A cap w (by omega) h3
  rw [if_neg h3]
  have g1 : ¬ th < 0 := fun h => h3 (.inl h)
  have g2 : ¬ (som T : Int) ≤ th := fun h => h3 (.inr h)
  rcases (show kd = 1 ∨ kd = 2 ∨ kd = 3 ∨ kd = 4 by omega) with rfl | rfl | rfl | rfl
  · exact rdo_ask T l th ct A cap w hm hs g1 g2
  · exact rdo_at2 T l th ct A cap w hm hs g1 g2
  · exact rdo_at3 T l th ct A cap w hm hs g1 g2
  · exact rdo_at4 T l th ct A cap w hm hs g1 g2
end Go.Proofs.Ytmldkfmebplblaa.Aut
