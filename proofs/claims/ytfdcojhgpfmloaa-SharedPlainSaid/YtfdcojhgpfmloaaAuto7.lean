/- Walks of package auto: Do of an event that may be. -/
import Derived.Test.YtfdcojhgpfmloaaAuto6
namespace Go.Proofs.Ytfdcojhgpfmloaa.Aut
open Go.RowKit



theorem do_not (g h k : Nat) (s : List Nat) (kd ct : Int) (w : World) (hk : 1 ≤ kd ∧ kd ≤ 4) (H : AutoIn w g h s) (hl : k < s.length) (hm : s.length ≤ 9223372036854775807) (hx : (s[k] : Int) ≠ (from3 kd).1) :
    Calls Try.prog 65 #[.pointer (some ⟨g, 0, none⟩), .agg #[.int .i64 kd, .int .i64 k, .bool false, .int .i64 ct]] w fun r w' => r = .returned (.int .i64 (from3 kd).2.2) ∧ ∃ n, w' = (w.alloc (boxE ⟨kd, k, false, ct⟩)).drewN n := by
  have hh : hasB s k = true := by simp [hasB, hl]
  have ha := has_any g s k _ (H.alloc (boxE ⟨kd, k, false, ct⟩)).at_
  have hf := from_any kd (w.alloc (boxE ⟨kd, k, false, ct⟩))
  simp only [boxE] at ha hf ⊢
  have HA := Lib.hid ha
  have HF := Lib.hid hf
  obtain ⟨A, c, c0, _, hc⟩ := (H.alloc (boxE ⟨kd, k, false, ct⟩)).at_.slot
  obtain ⟨b, rfl, c1, _⟩ := hc k hl
  clear H hc ha hf
  simp only [boxE] at c0 c1
  generalize s[k] = x at hx c1
  rcases (show kd = 1 ∨ kd = 2 ∨ kd = 3 ∨ kd = 4 by omega) with rfl | rfl | rfl | rfl
  · have e1 := nbne (show x ≠ 0 by
      intro hz
      subst hz
      exact hx rfl)
    clear hx
    go_enter Try.func65, Try.ntmps65
    go_wp2_with fail
    refine (HA.out).mono ?_
    rintro e wx ⟨rfl, hwx⟩
    obtain rfl := hwx.symm
    rw [hh]
    go_wp2_with fail
    refine (HF.out).mono ?_
    rintro e wx ⟨rfl, hwx⟩
    obtain rfl := hwx.symm
    simp only [from3]
    go_wp2_with fail
    go_quiet (fail)
    go_wp2_with fail
    go_ret
    exact ⟨rfl, _, rfl⟩
  · have e1 := nbne (show x ≠ 1 by
      intro hz
      subst hz
      exact hx rfl)
    clear hx
    go_enter Try.func65, Try.ntmps65
    go_wp2_with fail
    refine (HA.out).mono ?_
    rintro e wx ⟨rfl, hwx⟩
    obtain rfl := hwx.symm
    rw [hh]
    go_wp2_with fail
    refine (HF.out).mono ?_
    rintro e wx ⟨rfl, hwx⟩
    obtain rfl := hwx.symm
    simp only [from3]
    go_wp2_with fail
    go_quiet (fail)
    go_wp2_with fail
    go_ret
    exact ⟨rfl, _, rfl⟩
  · have e1 := nbne (show x ≠ 2 by
      intro hz
      subst hz
      exact hx rfl)
    clear hx
    go_enter Try.func65, Try.ntmps65
    go_wp2_with fail
    refine (HA.out).mono ?_
    rintro e wx ⟨rfl, hwx⟩
    obtain rfl := hwx.symm
    rw [hh]
    go_wp2_with fail
    refine (HF.out).mono ?_
    rintro e wx ⟨rfl, hwx⟩
    obtain rfl := hwx.symm
    simp only [from3]
    go_wp2_with fail
    go_quiet (fail)
    go_wp2_with fail
    go_ret
    exact ⟨rfl, _, rfl⟩
  · have e1 := nbne (show x ≠ 3 by
      intro hz
      subst hz
      exact hx rfl)
    clear hx
    go_enter Try.func65, Try.ntmps65
    go_wp2_with fail
    refine (HA.out).mono ?_
    rintro e wx ⟨rfl, hwx⟩
    obtain rfl := hwx.symm
    rw [hh]
    go_wp2_with fail
    refine (HF.out).mono ?_
    rintro e wx ⟨rfl, hwx⟩
    obtain rfl := hwx.symm
    simp only [from3]
    go_wp2_with fail
    go_quiet (fail)
    go_wp2_with fail
    go_ret
    exact ⟨rfl, _, rfl⟩

/-- Enter, and somebody is in. -/
theorem do_busy (g h k : Nat) (s : List Nat) (ct : Int) (w : World) (H : AutoIn w g h s) (hl : k < s.length) (hm : s.length ≤ 9223372036854775807) (hx : s[k] = 1) (hi : 0 ≤ idxOf s 2) :
    Calls Try.prog 65 #[.pointer (some ⟨g, 0, none⟩), .agg #[.int .i64 2, .int .i64 k, .bool false, .int .i64 ct]] w fun r w' => r = .returned (.int .i64 5) ∧ ∃ n, w' = (w.alloc (boxE ⟨2, k, false, ct⟩)).drewN n := by
  have hh : hasB s k = true := by simp [hasB, hl]
  have ha := has_any g s k _ (H.alloc (boxE ⟨2, k, false, ct⟩)).at_
  have hf := from_any 2 (w.alloc (boxE ⟨2, k, false, ct⟩))
  have hd : ∀ n, _ := fun n => holder_any g s _ hm ((H.alloc (boxE ⟨2, k, false, ct⟩)).drewN n).at_
  obtain ⟨A, c, c0, _, hc⟩ := (H.alloc (boxE ⟨2, k, false, ct⟩)).at_.slot
  obtain ⟨b, rfl, c1, _⟩ := hc k hl
  simp only [boxE] at ha hf hd c0 c1 ⊢
  have HA := Lib.hid ha
  have HF := Lib.hid hf
  have HD := Lib.hid hd
  clear H hc ha hf hd
  rw [hx] at c1
  generalize idxOf s 2 = y at hi HD
  go_enter Try.func65, Try.ntmps65
  go_wp2_with fail
  refine (HA.out).mono ?_
  rintro e wx ⟨rfl, hwx⟩
  obtain rfl := hwx.symm
  rw [hh]
  go_wp2_with fail
  refine (HF.out).mono ?_
  rintro e wx ⟨rfl, hwx⟩
  obtain rfl := hwx.symm
  simp only [from3]
  go_wp2_with fail
  go_quiet (fail)
  go_wp2_with fail
  refine (HD.out _).mono ?_
  rintro e wx ⟨rfl, hwx⟩
  obtain rfl := hwx.symm
  go_wp2_with fail
  go_ret
  exact ⟨rfl, _, rfl⟩
end Go.Proofs.Ytfdcojhgpfmloaa.Aut
