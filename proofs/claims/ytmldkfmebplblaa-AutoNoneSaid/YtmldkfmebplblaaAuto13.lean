/- The reference's Do of layer 10, of Enter; whole. -/
import Derived.Test.YtmldkfmebplblaaAuto12
namespace Go.Proofs.Ytmldkfmebplblaa.Aut
open Go.RowKit

theorem rdo_at2 (T : Int) (l : List Ev) (th ct : Int) (A : Option Addr) (cap : Nat) (w : World) (hm : l.length ≤ 9223372036854775807) (hs : Sl w w.heap.size A (l.flatMap decE)) (h1 : ¬ th < 0) (h2 : ¬ (som T : Int) ≤ th) :
    Calls Try.prog 50 #[.int .i64 T, .slice A l.length cap, .agg #[.int .i64 2, .int .i64 th, .bool false, .int .i64 ct]] w fun r w' => r = .returned (.int .i64 (rdoIn T l 2 th)) ∧ ∃ n, w' = (w.alloc (boxE ⟨2, th, false, ct⟩)).drewN n := by
  have hst : ∀ n, _ := fun n => rstate_any l A cap th _ ((w.alloc (boxE ⟨2, th, false, ct⟩)).drewN n) hm ((hs.push _).drews n)
  have hho : ∀ n, _ := fun n => rholder_any T l A cap _ ((w.alloc (boxE ⟨2, th, false, ct⟩)).drewN n) hm ((hs.push _).drews n)
  simp only [boxE] at hst hho ⊢
  have HS := Lib.hid hst
  have HH := Lib.hid hho
  clear hst hho hs
  unfold rdoIn
  rw [if_neg (by decide)]
  generalize rstate l th = q at HS ⊢
  generalize idxOf (stOf (som T) l) 2 = y at HH ⊢
  by_cases hq : q = 1
  · subst hq
    rw [if_neg (by decide)]
    by_cases hy : 0 ≤ y
    · rw [if_pos ⟨rfl, hy⟩]
      go_enter Try.func50, Try.ntmps50
      go_wp2_with fail
      go_quiet ((go_at_call 58; exact Calls.quiet_of_same (some_any T _)))
      go_wp2_with fail
      refine (HS.out _).mono ?_
      rintro e wx ⟨rfl, hwx⟩
      obtain rfl := hwx.symm
      go_wp2_with fail
      refine (HH.out _).mono ?_
      rintro e wx ⟨rfl, hwx⟩
      obtain rfl := hwx.symm
      go_wp2_with fail
      go_ret
      exact ⟨rfl, _, rfl⟩
    · have hy2 : y < 0 := by omega
      rw [if_neg (fun k => hy k.2)]
      clear hy
      go_enter Try.func50, Try.ntmps50
      go_wp2_with fail
      go_quiet ((go_at_call 58; exact Calls.quiet_of_same (some_any T _)))
      go_wp2_with fail
      refine (HS.out _).mono ?_
      rintro e wx ⟨rfl, hwx⟩
      obtain rfl := hwx.symm
      go_wp2_with fail
      refine (HH.out _).mono ?_
      rintro e wx ⟨rfl, hwx⟩
      obtain rfl := hwx.symm
      go_wp2_with fail
      go_ret
      exact ⟨rfl, _, rfl⟩
  · have e1 := nbne hq
    rw [if_pos (by omega)]
    go_enter Try.func50, Try.ntmps50
    go_wp2_with fail
    go_quiet ((go_at_call 58; exact Calls.quiet_of_same (some_any T _)))
    go_wp2_with fail
    refine (HS.out _).mono ?_
    rintro e wx ⟨rfl, hwx⟩
    obtain rfl := hwx.symm
    go_wp2_with fail
    go_ret
    exact ⟨rfl, _, rfl⟩
end Go.Proofs.Ytmldkfmebplblaa.Aut
