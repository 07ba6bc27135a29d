/- Package auto: Do without a lock; the reference's Do. -/
import Derived.Test.YtmldkfmebplblaaAuto9
namespace Go.Proofs.Ytmldkfmebplblaa.Aut
open Go.RowKit

theorem do_nil (e : Ev) (w : World) :
    Calls Try.prog 49 #[.pointer none, .agg (decE e).toArray] w fun r w' => r = .returned (.int .i64 (doS [] e).1) ∧ w' = w.alloc (boxE e) := by
  obtain ⟨kd, th, rd, ct⟩ := e
  change Calls Try.prog 49 #[.pointer none, .agg #[.int .i64 kd, .int .i64 th, .bool rd, .int .i64 ct]] w _
  unfold doS
  cases rd
  · rw [if_neg (by simp)]
    by_cases k0 : kd = 0 ∨ kd = 5
    · rw [if_pos k0]
      rcases k0 with rfl | rfl
      all_goals
        go_enter Try.func49, Try.ntmps49
        go_wp2_with fail
        go_ret
        exact ⟨rfl, rfl⟩
    rw [if_neg k0]
    by_cases k1 : kd < 0 ∨ 5 < kd
    · rw [if_pos k1]
      have e0 := ibeq_no (show ¬ kd = 0 by omega)
      have e1 := ibeq_no (show ¬ kd = 1 by omega)
      have e2 := ibeq_no (show ¬ kd = 2 by omega)
      have e3 := ibeq_no (show ¬ kd = 3 by omega)
      have e4 := ibeq_no (show ¬ kd = 4 by omega)
      have e5 := ibeq_no (show ¬ kd = 5 by omega)
      clear k0 k1
      go_enter Try.func49, Try.ntmps49
      go_wp2_with fail
      go_ret
      exact ⟨rfl, rfl⟩
    rw [if_neg k1, if_pos (show hasB [] th = false by simp [hasB])]
    rcases (show kd = 1 ∨ kd = 2 ∨ kd = 3 ∨ kd = 4 by omega) with rfl | rfl | rfl | rfl
    all_goals
      clear k0 k1
      go_enter Try.func49, Try.ntmps49
      go_wp2_with fail
      refine (has_nil th _).mono ?_
      rintro e wx ⟨rfl, hwx⟩
      obtain rfl := hwx.symm
      go_wp2_with fail
      go_ret
      exact ⟨rfl, rfl⟩
  · rw [if_pos rfl]
    go_enter Try.func49, Try.ntmps49
    go_wp2_with fail
    go_ret
    exact ⟨rfl, rfl⟩
end Go.Proofs.Ytmldkfmebplblaa.Aut
