/- The reference's Do of layer 10, of a thread that is there. -/
import Derived.Test.YtmldkfmebplblaaAuto11
namespace Go.Proofs.Ytmldkfmebplblaa.Aut
open Go.RowKit

/-- What it is behind the kind and the thread. -/
def rdoIn (T : Int) (l : List Ev) (kd th : Int) : Nat :=
  if kd = 1 then (if rstate l th ≠ 0 then 5 else 0) else if (rstate l th : Int) ≠ kd - 1 then 6
  else if kd = 2 ∧ 0 ≤ idxOf (stOf (som T) l) 2 then 5 else 0

theorem rdo_ask (T : Int) (l : List Ev) (th ct : Int) (A : Option Addr) (cap : Nat) (w : World) (hm : l.length ≤ 9223372036854775807) (hs : Sl w w.heap.size A (l.flatMap decE)) (h1 : ¬ th < 0) (h2 : ¬ (som T : Int) ≤ th) :
    Calls Try.prog 50 #[.int .i64 T, .slice A l.length cap, .agg #[.int .i64 1, .int .i64 th, .bool false, .int .i64 ct]] w fun r w' => r = .returned (.int .i64 (rdoIn T l 1 th)) ∧ ∃ n, w' = (w.alloc (boxE ⟨1, th, false, ct⟩)).drewN n := by
  have hst : ∀ n, _ := fun n => rstate_any l A cap th _ ((w.alloc (boxE ⟨1, th, false, ct⟩)).drewN n) hm ((hs.push _).drews n)
  simp only [boxE] at hst ⊢
  have HS := Lib.hid hst
  clear hst hs
  unfold rdoIn
  rw [if_pos rfl]
  generalize rstate l th = q at HS ⊢
  by_cases hq : q = 0
  · subst hq
    go_enter Try.func50, Try.ntmps50
    go_wp2_with fail
    go_quiet ((go_at_call 58; exact Calls.quiet_of_same (some_any T _)))
    go_wp2_with fail
    refine (HS.out _).mono ?_
    rintro e wx ⟨rfl, hwx⟩
    obtain rfl := hwx.symm
    go_wp2_with fail
    go_ret
    exact ⟨rfl, _, rfl⟩
  · have e1 := nbne hq
    rw [if_pos hq]
    go_enter Try.func50, Try.ntmps50
    go_wp2_with fail
    go_quiet ((go_at_call 58; exact Calls.quiet_of_same (some_any T _)))
    go_wp2_with fail
    refine (HS.out _).mono ?_
    rintro e wx ⟨rfl, hwx⟩
    obtain rfl := hwx.symm
    go_wp2_with fail
    go_ret
    exact ⟨rfl, _, rfl⟩
theorem rdo_at3 (T : Int) (l : List Ev) (th ct : Int) (A : Option Addr) (cap : Nat) (w : World) (hm : l.length ≤ 9223372036854775807) (hs : Sl w w.heap.size A (l.flatMap decE)) (h1 : ¬ th < 0) (h2 : ¬ (som T : Int) ≤ th) :
    Calls Try.prog 50 #[.int .i64 T, .slice A l.length cap, .agg #[.int .i64 3, .int .i64 th, .bool false, .int .i64 ct]] w fun r w' => r = .returned (.int .i64 (rdoIn T l 3 th)) ∧ ∃ n, w' = (w.alloc (boxE ⟨3, th, false, ct⟩)).drewN n := by
  have hst : ∀ n, _ := fun n => rstate_any l A cap th _ ((w.alloc (boxE ⟨3, th, false, ct⟩)).drewN n) hm ((hs.push _).drews n)
  simp only [boxE] at hst ⊢
  have HS := Lib.hid hst
  clear hst hs
  unfold rdoIn
  rw [if_neg (by decide)]
  generalize rstate l th = q at HS ⊢
  by_cases hq : q = 2
  · subst hq
    rw [if_neg (by decide), if_neg (fun k => absurd k.1 (by decide))]
    go_enter Try.func50, Try.ntmps50
    go_wp2_with fail
    go_quiet ((go_at_call 58; exact Calls.quiet_of_same (some_any T _)))
    go_wp2_with fail
    refine (HS.out _).mono ?_
    rintro e wx ⟨rfl, hwx⟩
    obtain rfl := hwx.symm
    go_wp2_with fail
    go_ret
    exact ⟨rfl, _, rfl⟩
  · have e1 := nbne hq
    rw [if_pos (by omega)]
    go_enter Try.func50, Try.ntmps50
    go_wp2_with fail
    go_quiet ((go_at_call 58; exact Calls.quiet_of_same (some_any T _)))
    go_wp2_with fail
    refine (HS.out _).mono ?_
    rintro e wx ⟨rfl, hwx⟩
    obtain rfl := hwx.symm
    go_wp2_with fail
    go_ret
    exact ⟨rfl, _, rfl⟩
theorem rdo_at4 (T : Int) (l : List Ev) (th ct : Int) (A : Option Addr) (cap : Nat) (w : World) (hm : l.length ≤ 9223372036854775807) (hs : Sl w w.heap.size A (l.flatMap decE)) (h1 : ¬ th < 0) (h2 : ¬ (som T : Int) ≤ th) :
    Calls Try.prog 50 #[.int .i64 T, .slice A l.length cap, .agg #[.int .i64 4, .int .i64 th, .bool false, .int .i64 ct]] w fun r w' => r = .returned (.int .i64 (rdoIn T l 4 th)) ∧ ∃ n, w' = (w.alloc (boxE ⟨4, th, false, ct⟩)).drewN n := by
  have hst : ∀ n, _ := fun n => rstate_any l A cap th _ ((w.alloc (boxE ⟨4, th, false, ct⟩)).drewN n) hm ((hs.push _).drews n)
  simp only [boxE] at hst ⊢
  have HS := Lib.hid hst
  clear hst hs
  unfold rdoIn
  rw [if_neg (by decide)]
  generalize rstate l th = q at HS ⊢
  by_cases hq : q = 3
  · subst hq
    rw [if_neg (by decide), if_neg (fun k => absurd k.1 (by decide))]
    go_enter Try.func50, Try.ntmps50
    go_wp2_with fail
    go_quiet ((go_at_call 58; exact Calls.quiet_of_same (some_any T _)))
    go_wp2_with fail
    refine (HS.out _).mono ?_
    rintro e wx ⟨rfl, hwx⟩
    obtain rfl := hwx.symm
    go_wp2_with fail
    go_ret
    exact ⟨rfl, _, rfl⟩
  · have e1 := nbne hq
    rw [if_pos (by omega)]
    go_enter Try.func50, Try.ntmps50
    go_wp2_with fail
    go_quiet ((go_at_call 58; exact Calls.quiet_of_same (some_any T _)))
    go_wp2_with fail
    refine (HS.out _).mono ?_
    rintro e wx ⟨rfl, hwx⟩
    obtain rfl := hwx.symm
    go_wp2_with fail
    go_ret
    exact ⟨rfl, _, rfl⟩
end Go.Proofs.Ytmldkfmebplblaa.Aut
