/- Walks of package budget and its reference, and of the law's awake. -/
import Derived.Test.YtmldkfmebplblaaKit
namespace Go.Proofs.Ytmldkfmebplblaa.Bud
open Go.RowKit

def inB (n a b : Int) : Bool := decide (a ≤ n) && decide (n ≤ b)
def right (b : Int) : Bool := inB b 0 1000
def longest (b : Int) : Int × Int := if right b then (b + 1, 0) else (0, 1)
def ahead (v b : Int) : Int × Int := if right b && inB v 1 32 then ((v - 1) * (b + 1), 0) else (0, 1)
def total (m v b : Int) : Int × Int := if right b && inB v 1 32 && inB m 1 32 then (m - 1 + m * ((v - 1) * (b + 1)), 0) else (0, 1)
def passes (c b : Int) (alone : Bool) : Bool := right b && inB c 1 b && !alone

theorem inB_iff {n a b : Int} : inB n a b = true ↔ a ≤ n ∧ n ≤ b := by simp [inB]
theorem inB_no {n a b : Int} : inB n a b = false ↔ n < a ∨ b < n := by simp [inB]; omega
theorem right_iff {b : Int} : right b = true ↔ 0 ≤ b ∧ b ≤ 1000 := inB_iff
theorem right_no {b : Int} : right b = false ↔ b < 0 ∨ 1000 < b := inB_no

theorem in_any (n a b : Int) (w : World) :
    Calls Try.prog 59 #[.int .i64 n, .int .i64 a, .int .i64 b] w fun e w' => e = .returned (.bool (inB n a b)) ∧ w' = w := by
  unfold inB
  go_enter Try.func59, Try.ntmps59
  go_wp2
  all_goals go_ret
  all_goals exact ⟨by simp [*] <;> omega, rfl⟩

theorem right_any (b : Int) (w : World) :
    Calls Try.prog 20 #[.int .i64 b] w fun e w' => e = .returned (.bool (right b)) ∧ w' = w := by
  unfold right
  go_enter Try.func20, Try.ntmps20
  go_wp2_with (go_at_call 59; refine (in_any _ _ _ _).mono ?_; rintro e w' ⟨rfl, rfl⟩)
  go_ret
  exact ⟨rfl, rfl⟩

theorem rright_any (b : Int) (w : World) :
    Calls Try.prog 21 #[.int .i64 b] w fun e w' => e = .returned (.bool (right b)) ∧ w' = w := by
  unfold right inB
  go_enter Try.func21, Try.ntmps21
  go_wp2
  all_goals go_ret
  all_goals exact ⟨by simp [*] <;> omega, rfl⟩

theorem longest_yes (b : Int) (w : World) (h : right b = true) :
    Calls Try.prog 14 #[.int .i64 b] w fun e w' => e = .returned (.tuple #[.int .i64 (b + 1), .int .i64 0]) ∧ w' = w := by
  obtain ⟨hb0, hb1⟩ := right_iff.1 h
  go_enter Try.func14, Try.ntmps14
  go_wp2_with (go_at_call 20; refine (right_any _ _).mono ?_; rintro e w' ⟨rfl, rfl⟩)
  go_loop [4, 9] (fun n i => ∃ k : Nat, (k : Int) ≤ b ∧ i = .int .i64 k ∧ n = .int .i64 (k + 1)) (fun _ i => (b - intOf i).toNat)
  case atStart => exact ⟨0, by omega, rfl, rfl⟩
  case round =>
    obtain ⟨k, hk, rfl, rfl⟩ := hrel
    by_cases hlt : (k : Int) < b
    · go_wp2
      go_round
      case rel => exact ⟨k + 1, by omega, by go_num, by go_num⟩
      case measure => simp [intOf]; omega
    · have hkb : (k : Int) = b := by omega
      go_wp2
      go_ret2
      exact ⟨rfl, rfl⟩

theorem longest_no (b : Int) (w : World) (h : right b = false) :
    Calls Try.prog 14 #[.int .i64 b] w fun e w' => e = .returned (.tuple #[.int .i64 0, .int .i64 1]) ∧ w' = w := by
  go_enter Try.func14, Try.ntmps14
  go_wp2_with (go_at_call 20; refine (right_any _ _).mono ?_; rintro e w' ⟨rfl, rfl⟩)
  go_ret2
  exact ⟨rfl, rfl⟩

theorem rlongest_yes (b : Int) (w : World) (h : right b = true) :
    Calls Try.prog 15 #[.int .i64 b] w fun e w' => e = .returned (.tuple #[.int .i64 (b + 1), .int .i64 0]) ∧ w' = w := by
  obtain ⟨hb0, hb1⟩ := right_iff.1 h
  go_enter Try.func15, Try.ntmps15
  go_wp2_with (go_at_call 21; refine (rright_any _ _).mono ?_; rintro e w' ⟨rfl, rfl⟩)
  go_ret2
  exact ⟨rfl, rfl⟩

theorem rlongest_no (b : Int) (w : World) (h : right b = false) :
    Calls Try.prog 15 #[.int .i64 b] w fun e w' => e = .returned (.tuple #[.int .i64 0, .int .i64 1]) ∧ w' = w := by
  go_enter Try.func15, Try.ntmps15
  go_wp2_with (go_at_call 21; refine (rright_any _ _).mono ?_; rintro e w' ⟨rfl, rfl⟩)
  go_ret2
  exact ⟨rfl, rfl⟩

theorem mulb (v b : Int) (h0 : 0 ≤ v) (h1 : v ≤ 31) (h2 : 0 ≤ b) (h3 : b ≤ 1001) : 0 ≤ v * b ∧ v * b ≤ 31031 := by
  refine ⟨Int.mul_nonneg h0 h2, ?_⟩
  have : v * b ≤ 31 * 1001 := Int.mul_le_mul h1 h3 h2 (by omega)
  omega

theorem ahead_yes (v b : Int) (w : World) (h : right b = true) (h1 : inB v 1 32 = true) :
    Calls Try.prog 16 #[.int .i64 v, .int .i64 b] w fun e w' => e = .returned (.tuple #[.int .i64 ((v - 1) * (b + 1)), .int .i64 0]) ∧ w' = w := by
  obtain ⟨hb0, hb1⟩ := right_iff.1 h
  obtain ⟨hv0, hv1⟩ := inB_iff.1 h1
  obtain ⟨hm0, hm1⟩ := mulb (v - 1) (b + 1) (by omega) (by omega) (by omega) (by omega)
  go_enter Try.func16, Try.ntmps16
  go_wp2_with (first | (go_at_call 14; refine (longest_yes _ _ h).mono ?_; rintro e w' ⟨rfl, rfl⟩) | (go_at_call 59; refine (in_any _ _ _ _).mono ?_; rintro e w' ⟨rfl, rfl⟩))
  go_ret2
  exact ⟨rfl, rfl⟩

theorem ahead_no (v b : Int) (w : World) (h : right b = false ∨ inB v 1 32 = false) :
    Calls Try.prog 16 #[.int .i64 v, .int .i64 b] w fun e w' => e = .returned (.tuple #[.int .i64 0, .int .i64 1]) ∧ w' = w := by
  by_cases hr : right b = true
  · have h1 : inB v 1 32 = false := by simpa [hr] using h
    clear h
    go_enter Try.func16, Try.ntmps16
    go_wp2_with (first | (go_at_call 14; refine (longest_yes _ _ hr).mono ?_; rintro e w' ⟨rfl, rfl⟩) | (go_at_call 59; refine (in_any _ _ _ _).mono ?_; rintro e w' ⟨rfl, rfl⟩))
    go_ret2
    exact ⟨rfl, rfl⟩
  · have hr' : right b = false := by simpa using hr
    clear h hr
    go_enter Try.func16, Try.ntmps16
    go_wp2_with (first | (go_at_call 14; refine (longest_no _ _ hr').mono ?_; rintro e w' ⟨rfl, rfl⟩) | (go_at_call 59; refine (in_any _ _ _ _).mono ?_; rintro e w' ⟨rfl, rfl⟩))
    go_ret2
    exact ⟨rfl, rfl⟩

theorem rahead_yes (v b : Int) (w : World) (h : right b = true) (h1 : inB v 1 32 = true) :
    Calls Try.prog 17 #[.int .i64 v, .int .i64 b] w fun e w' => e = .returned (.tuple #[.int .i64 ((v - 1) * (b + 1)), .int .i64 0]) ∧ w' = w := by
  obtain ⟨hb0, hb1⟩ := right_iff.1 h
  obtain ⟨hv0, hv1⟩ := inB_iff.1 h1
  obtain ⟨hm0, hm1⟩ := mulb (v - 1) (b + 1) (by omega) (by omega) (by omega) (by omega)
  go_enter Try.func17, Try.ntmps17
  go_wp2_with (go_at_call 21; refine (rright_any _ _).mono ?_; rintro e w' ⟨rfl, rfl⟩)
  go_ret2
  exact ⟨rfl, rfl⟩

theorem rahead_no (v b : Int) (w : World) (h : right b = false ∨ inB v 1 32 = false) :
    Calls Try.prog 17 #[.int .i64 v, .int .i64 b] w fun e w' => e = .returned (.tuple #[.int .i64 0, .int .i64 1]) ∧ w' = w := by
  by_cases hr : right b = true
  · have h1 : inB v 1 32 = false := by simpa [hr] using h
    clear h
    rcases inB_no.1 h1 with hv | hv
    all_goals
      go_enter Try.func17, Try.ntmps17
      go_wp2_with (go_at_call 21; refine (rright_any _ _).mono ?_; rintro e w' ⟨rfl, rfl⟩)
      go_ret2
      exact ⟨rfl, rfl⟩
  · have hr' : right b = false := by simpa using hr
    clear h hr
    go_enter Try.func17, Try.ntmps17
    go_wp2_with (go_at_call 21; refine (rright_any _ _).mono ?_; rintro e w' ⟨rfl, rfl⟩)
    go_ret2
    exact ⟨rfl, rfl⟩
end Go.Proofs.Ytmldkfmebplblaa.Bud
