/- Walks of package budget: Total, Passes, and of the law's awake. -/
import Derived.Test.YtmldkfmebplblaaBudget
namespace Go.Proofs.Ytmldkfmebplblaa.Bud
open Go.RowKit

theorem mulc (m x : Int) (h0 : 1 ≤ m) (h1 : m ≤ 32) (h2 : 0 ≤ x) (h3 : x ≤ 31031) : 0 ≤ m * x ∧ m * x ≤ 992992 := by
  refine ⟨Int.mul_nonneg (by omega) h2, ?_⟩
  have : m * x ≤ 32 * 31031 := Int.mul_le_mul h1 h3 h2 (by omega)
  omega

theorem total_yes (m v b : Int) (w : World) (h : right b = true) (h1 : inB v 1 32 = true) (h2 : inB m 1 32 = true) :
    Calls Try.prog 18 #[.int .i64 m, .int .i64 v, .int .i64 b] w fun e w' => e = .returned (.tuple #[.int .i64 (m - 1 + m * ((v - 1) * (b + 1))), .int .i64 0]) ∧ w' = w := by
  obtain ⟨hb0, hb1⟩ := right_iff.1 h
  obtain ⟨hv0, hv1⟩ := inB_iff.1 h1
  obtain ⟨hq0, hq1⟩ := inB_iff.1 h2
  obtain ⟨hm0, hm1⟩ := mulb (v - 1) (b + 1) (by omega) (by omega) (by omega) (by omega)
  obtain ⟨hc0, hc1⟩ := mulc m _ hq0 hq1 hm0 hm1
  go_enter Try.func18, Try.ntmps18
  go_wp2_with (first | (go_at_call 16; refine (ahead_yes _ _ _ h h1).mono ?_; rintro e w' ⟨rfl, rfl⟩) | (go_at_call 59; refine (in_any _ _ _ _).mono ?_; rintro e w' ⟨rfl, rfl⟩))
  go_ret2
  exact ⟨rfl, rfl⟩

theorem total_no (m v b : Int) (w : World) (h : (right b = false ∨ inB v 1 32 = false) ∨ inB m 1 32 = false) :
    Calls Try.prog 18 #[.int .i64 m, .int .i64 v, .int .i64 b] w fun e w' => e = .returned (.tuple #[.int .i64 0, .int .i64 1]) ∧ w' = w := by
  by_cases hr : right b = false ∨ inB v 1 32 = false
  · have H := Lib.hid hr
    clear h hr
    go_enter Try.func18, Try.ntmps18
    go_wp2_with (first | (go_at_call 16; refine (ahead_no _ _ _ H.out).mono ?_; rintro e w' ⟨rfl, rfl⟩) | (go_at_call 59; refine (in_any _ _ _ _).mono ?_; rintro e w' ⟨rfl, rfl⟩))
    go_ret2
    exact ⟨rfl, rfl⟩
  · have h3 : inB m 1 32 = false := h.resolve_left hr
    have h1 : right b = true := by cases hh : right b <;> simp_all
    have h2 : inB v 1 32 = true := by cases hh : inB v 1 32 <;> simp_all
    clear h hr
    go_enter Try.func18, Try.ntmps18
    go_wp2_with (first | (go_at_call 16; refine (ahead_yes _ _ _ h1 h2).mono ?_; rintro e w' ⟨rfl, rfl⟩) | (go_at_call 59; refine (in_any _ _ _ _).mono ?_; rintro e w' ⟨rfl, rfl⟩))
    go_ret2
    exact ⟨rfl, rfl⟩

theorem rtotal_yes (m v b : Int) (w : World) (h : right b = true) (h1 : inB v 1 32 = true) (h2 : inB m 1 32 = true) :
    Calls Try.prog 19 #[.int .i64 m, .int .i64 v, .int .i64 b] w fun e w' => e = .returned (.tuple #[.int .i64 (m - 1 + m * ((v - 1) * (b + 1))), .int .i64 0]) ∧ w' = w := by
  obtain ⟨hb0, hb1⟩ := right_iff.1 h
  obtain ⟨hv0, hv1⟩ := inB_iff.1 h1
  obtain ⟨hq0, hq1⟩ := inB_iff.1 h2
  obtain ⟨hm0, hm1⟩ := mulb (v - 1) (b + 1) (by omega) (by omega) (by omega) (by omega)
  obtain ⟨hc0, hc1⟩ := mulc m _ hq0 hq1 hm0 hm1
  go_enter Try.func19, Try.ntmps19
  go_wp2_with (go_at_call 17; refine (rahead_yes _ _ _ h h1).mono ?_; rintro e w' ⟨rfl, rfl⟩)
  go_ret2
  exact ⟨rfl, rfl⟩

theorem rtotal_no (m v b : Int) (w : World) (h : (right b = false ∨ inB v 1 32 = false) ∨ inB m 1 32 = false) :
    Calls Try.prog 19 #[.int .i64 m, .int .i64 v, .int .i64 b] w fun e w' => e = .returned (.tuple #[.int .i64 0, .int .i64 1]) ∧ w' = w := by
  by_cases hr : right b = false ∨ inB v 1 32 = false
  · have H := Lib.hid hr
    clear h hr
    go_enter Try.func19, Try.ntmps19
    go_wp2_with (go_at_call 17; refine (rahead_no _ _ _ H.out).mono ?_; rintro e w' ⟨rfl, rfl⟩)
    go_ret2
    exact ⟨rfl, rfl⟩
  · have h3 : inB m 1 32 = false := h.resolve_left hr
    have h1 : right b = true := by cases hh : right b <;> simp_all
    have h2 : inB v 1 32 = true := by cases hh : inB v 1 32 <;> simp_all
    clear h hr
    rcases inB_no.1 h3 with hv | hv
    all_goals
      go_enter Try.func19, Try.ntmps19
      go_wp2_with (go_at_call 17; refine (rahead_yes _ _ _ h1 h2).mono ?_; rintro e w' ⟨rfl, rfl⟩)
      go_ret2
      exact ⟨rfl, rfl⟩

theorem passes_any (c b : Int) (al : Bool) (w : World) :
    Calls Try.prog 22 #[.int .i64 c, .int .i64 b, .bool al] w fun e w' => e = .returned (.bool (passes c b al)) ∧ w' = w := by
  unfold passes
  go_enter Try.func22, Try.ntmps22
  go_wp2_with (first | (go_at_call 20; refine (right_any _ _).mono ?_; rintro e w' ⟨rfl, rfl⟩) | (go_at_call 59; refine (in_any _ _ _ _).mono ?_; rintro e w' ⟨rfl, rfl⟩))
  all_goals go_ret
  all_goals exact ⟨by simp [*], rfl⟩

theorem rpasses_any (c b : Int) (al : Bool) (w : World) :
    Calls Try.prog 23 #[.int .i64 c, .int .i64 b, .bool al] w fun e w' => e = .returned (.bool (passes c b al)) ∧ w' = w := by
  unfold passes inB
  go_enter Try.func23, Try.ntmps23
  go_wp2_with (go_at_call 21; refine (rright_any _ _).mono ?_; rintro e w' ⟨rfl, rfl⟩)
  all_goals go_ret
  all_goals exact ⟨by simp [*] <;> omega, rfl⟩

theorem awake_any (w : World) :
    Calls Try.prog 24 #[] w fun e w' => e = .returned (.bool true) ∧ w' = w := by
  go_enter Try.func24, Try.ntmps24
  go_wp2_with fail
  refine (total_yes 2 3 1 _ rfl rfl rfl).mono ?_; rintro e w' ⟨rfl, rfl⟩
  go_wp2_with fail
  refine (longest_no 1001 _ rfl).mono ?_; rintro e w' ⟨rfl, rfl⟩
  go_wp2_with fail
  refine (passes_any 2 2 false _).mono ?_; rintro e w' ⟨rfl, rfl⟩
  have p1 : passes 2 2 false = true := by decide
  have p2 : passes 3 2 false = false := by decide
  have p3 : passes 1 2 true = false := by decide
  have p4 : right 0 = true := by decide
  go_wp2_with fail
  refine (passes_any 3 2 false _).mono ?_; rintro e w' ⟨rfl, rfl⟩
  go_wp2_with fail
  refine (passes_any 1 2 true _).mono ?_; rintro e w' ⟨rfl, rfl⟩
  go_wp2_with fail
  refine (right_any 0 _).mono ?_; rintro e w' ⟨rfl, rfl⟩
  go_wp2
  go_ret
  exact ⟨rfl, rfl⟩
end Go.Proofs.Ytmldkfmebplblaa.Bud
