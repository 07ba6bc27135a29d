/- The reference's Do of layer 10. -/
import Derived.Test.YtmldkfmebplblaaAuto10
namespace Go.Proofs.Ytmldkfmebplblaa.Aut
open Go.RowKit

def rdo (T : Int) (l : List Ev) (e : Ev) : Nat :=
  if e.read = true ∨ e.kind < 0 ∨ 5 < e.kind then 7 else if e.kind = 0 ∨ e.kind = 5 then 0
  else if e.thread < 0 ∨ (som T : Int) ≤ e.thread then 4
  else if e.kind = 1 then (if rstate l e.thread ≠ 0 then 5 else 0)
  else if (rstate l e.thread : Int) ≠ e.kind - 1 then 6
  else if e.kind = 2 ∧ 0 ≤ idxOf (stOf (som T) l) 2 then 5 else 0

theorem rdo_kind (T : Int) (l : List Ev) (kd th ct : Int) (rd : Bool) (A : Option Addr) (cap : Nat) (w : World) (h : rd = true ∨ kd < 0 ∨ 5 < kd) :
    Calls Try.prog 50 #[.int .i64 T, .slice A l.length cap, .agg #[.int .i64 kd, .int .i64 th, .bool rd, .int .i64 ct]] w fun r w' => r = .returned (.int .i64 7) ∧ w' = w.alloc (boxE ⟨kd, th, rd, ct⟩) := by
  cases rd
  · by_cases h1 : kd < 0
    · go_enter Try.func50, Try.ntmps50
      go_wp2_with fail
      go_ret
      exact ⟨rfl, rfl⟩
    · have h2 : 5 < kd := by simpa [h1] using h
      go_enter Try.func50, Try.ntmps50
      go_wp2_with fail
      go_ret
      exact ⟨rfl, rfl⟩
  · go_enter Try.func50, Try.ntmps50
    go_wp2_with fail
    go_ret
    exact ⟨rfl, rfl⟩
theorem rdo_free (T : Int) (l : List Ev) (kd th ct : Int) (A : Option Addr) (cap : Nat) (w : World) (h : kd = 0 ∨ kd = 5) :
    Calls Try.prog 50 #[.int .i64 T, .slice A l.length cap, .agg #[.int .i64 kd, .int .i64 th, .bool false, .int .i64 ct]] w fun r w' => r = .returned (.int .i64 0) ∧ w' = w.alloc (boxE ⟨kd, th, false, ct⟩) := by
  rcases h with rfl | rfl
  all_goals
    go_enter Try.func50, Try.ntmps50
    go_wp2_with fail
    go_ret
    exact ⟨rfl, rfl⟩
theorem rdo_none (T : Int) (l : List Ev) (kd th ct : Int) (A : Option Addr) (cap : Nat) (w : World) (hk : 1 ≤ kd ∧ kd ≤ 4) (ht : th < 0 ∨ (som T : Int) ≤ th) :
    Calls Try.prog 50 #[.int .i64 T, .slice A l.length cap, .agg #[.int .i64 kd, .int .i64 th, .bool false, .int .i64 ct]] w fun r w' => r = .returned (.int .i64 4) ∧ ∃ n, w' = (w.alloc (boxE ⟨kd, th, false, ct⟩)).drewN n := by
  by_cases h1 : th < 0
  · rcases (show kd = 1 ∨ kd = 2 ∨ kd = 3 ∨ kd = 4 by omega) with rfl | rfl | rfl | rfl
    all_goals
      go_enter Try.func50, Try.ntmps50
      go_wp2_with fail
      go_quiet (fail)
      go_wp2_with fail
      go_ret
      exact ⟨rfl, _, rfl⟩
  · have h2 : (som T : Int) ≤ th := by omega
    rcases (show kd = 1 ∨ kd = 2 ∨ kd = 3 ∨ kd = 4 by omega) with rfl | rfl | rfl | rfl
    all_goals
      go_enter Try.func50, Try.ntmps50
      go_wp2_with fail
      go_quiet ((go_at_call 58; exact Calls.quiet_of_same (some_any T _)))
      go_wp2_with fail
      go_ret
      exact ⟨rfl, _, rfl⟩
end Go.Proofs.Ytmldkfmebplblaa.Aut
