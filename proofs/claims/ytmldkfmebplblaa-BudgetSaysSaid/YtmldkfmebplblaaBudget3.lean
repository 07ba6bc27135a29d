/- The laws of layer 23: their walks. -/
import Derived.Test.YtmldkfmebplblaaBudget2
import Derived.Test.YtmldkfmebplblaaOpen
namespace Go.Proofs.Ytmldkfmebplblaa.Bud
open Go.RowKit

abbrev two (p : Int × Int) : Ending := .returned (.tuple #[.int .i64 p.1, .int .i64 p.2])

theorem longest_any (b : Int) (w : World) : Calls Try.prog 14 #[.int .i64 b] w fun e w' => e = two (longest b) ∧ w' = w := by
  cases h : right b
  · rw [show longest b = (0, 1) by simp [longest, h]]; exact longest_no b w h
  · rw [show longest b = (b + 1, 0) by simp [longest, h]]; exact longest_yes b w h
theorem rlongest_any (b : Int) (w : World) : Calls Try.prog 15 #[.int .i64 b] w fun e w' => e = two (longest b) ∧ w' = w := by
  cases h : right b
  · rw [show longest b = (0, 1) by simp [longest, h]]; exact rlongest_no b w h
  · rw [show longest b = (b + 1, 0) by simp [longest, h]]; exact rlongest_yes b w h
theorem ahead_any (v b : Int) (w : World) : Calls Try.prog 16 #[.int .i64 v, .int .i64 b] w fun e w' => e = two (ahead v b) ∧ w' = w := by
  by_cases h : right b = true ∧ inB v 1 32 = true
  · rw [show ahead v b = ((v - 1) * (b + 1), 0) by simp [ahead, h.1, h.2]]; exact ahead_yes v b w h.1 h.2
  · rw [show ahead v b = (0, 1) by simp only [ahead, Bool.and_eq_true, if_neg h]]; exact ahead_no v b w (by cases h1 : right b <;> simp_all)
theorem rahead_any (v b : Int) (w : World) : Calls Try.prog 17 #[.int .i64 v, .int .i64 b] w fun e w' => e = two (ahead v b) ∧ w' = w := by
  by_cases h : right b = true ∧ inB v 1 32 = true
  · rw [show ahead v b = ((v - 1) * (b + 1), 0) by simp [ahead, h.1, h.2]]; exact rahead_yes v b w h.1 h.2
  · rw [show ahead v b = (0, 1) by simp only [ahead, Bool.and_eq_true, if_neg h]]; exact rahead_no v b w (by cases h1 : right b <;> simp_all)
theorem total_any (m v b : Int) (w : World) : Calls Try.prog 18 #[.int .i64 m, .int .i64 v, .int .i64 b] w fun e w' => e = two (total m v b) ∧ w' = w := by
  by_cases h : (right b = true ∧ inB v 1 32 = true) ∧ inB m 1 32 = true
  · rw [show total m v b = (m - 1 + m * ((v - 1) * (b + 1)), 0) by simp [total, h.1.1, h.1.2, h.2]]; exact total_yes m v b w h.1.1 h.1.2 h.2
  · rw [show total m v b = (0, 1) by simp only [total, Bool.and_eq_true, if_neg h]]; exact total_no m v b w (by cases h1 : right b <;> cases h2 : inB v 1 32 <;> simp_all)
theorem rtotal_any (m v b : Int) (w : World) : Calls Try.prog 19 #[.int .i64 m, .int .i64 v, .int .i64 b] w fun e w' => e = two (total m v b) ∧ w' = w := by
  by_cases h : (right b = true ∧ inB v 1 32 = true) ∧ inB m 1 32 = true
  · rw [show total m v b = (m - 1 + m * ((v - 1) * (b + 1)), 0) by simp [total, h.1.1, h.1.2, h.2]]; exact rtotal_yes m v b w h.1.1 h.1.2 h.2
  · rw [show total m v b = (0, 1) by simp only [total, Bool.and_eq_true, if_neg h]]; exact rtotal_no m v b w (by cases h1 : right b <;> cases h2 : inB v 1 32 <;> simp_all)

set_option maxHeartbeats 1000000 in
theorem says_walk (b v m c : Int) (al : Bool) (w : World) :
    Calls Try.prog 3 #[.agg #[.int .i64 b, .int .i64 v, .int .i64 m], .int .i64 c, .bool al] w fun e w' => e = .returned (.bool true) ∧ Below w.heap.size w w' := by
  go_enter Try.func3, Try.ntmps3
  go_wp2_with (first
    | (go_at_call 14; refine (longest_any _ _).mono ?_; rintro e w' ⟨rfl, rfl⟩)
    | (go_at_call 15; refine (rlongest_any _ _).mono ?_; rintro e w' ⟨rfl, rfl⟩)
    | (go_at_call 16; refine (ahead_any _ _ _).mono ?_; rintro e w' ⟨rfl, rfl⟩)
    | (go_at_call 17; refine (rahead_any _ _ _).mono ?_; rintro e w' ⟨rfl, rfl⟩)
    | (go_at_call 18; refine (total_any _ _ _ _).mono ?_; rintro e w' ⟨rfl, rfl⟩)
    | (go_at_call 19; refine (rtotal_any _ _ _ _).mono ?_; rintro e w' ⟨rfl, rfl⟩)
    | (go_at_call 20; refine (right_any _ _).mono ?_; rintro e w' ⟨rfl, rfl⟩)
    | (go_at_call 21; refine (rright_any _ _).mono ?_; rintro e w' ⟨rfl, rfl⟩)
    | (go_at_call 22; refine (passes_any _ _ _ _).mono ?_; rintro e w' ⟨rfl, rfl⟩)
    | (go_at_call 23; refine (rpasses_any _ _ _ _).mono ?_; rintro e w' ⟨rfl, rfl⟩)
    | (go_at_call 24; refine (awake_any _).mono ?_; rintro e w' ⟨rfl, rfl⟩))
  go_quiet ((first
    | (go_at_call 20; exact Calls.quiet_of_same (right_any _ _))
    | (go_at_call 21; exact Calls.quiet_of_same (rright_any _ _))
    | (go_at_call 22; exact Calls.quiet_of_same (passes_any _ _ _ _))
    | (go_at_call 23; exact Calls.quiet_of_same (rpasses_any _ _ _ _))
    | (go_at_call 24; exact Calls.quiet_of_same (awake_any _))))
  go_wp2
  go_ret
  exact ⟨rfl, below_drewN (below_new _ _) _⟩

set_option maxHeartbeats 1000000 in
theorem ends_walk (b : Int) (w : World) :
    Calls Try.prog 4 #[.int .i64 b] w fun e w' => e = .returned (.bool true) ∧ Below w.heap.size w w' := by
  by_cases h : right b = true
  · obtain ⟨hb0, hb1⟩ := right_iff.1 h
    go_enter Try.func4, Try.ntmps4
    go_wp2_with (go_at_call 14; refine (longest_yes _ _ h).mono ?_; rintro e w' ⟨rfl, rfl⟩)
    go_loop [5] (fun n => ∃ k : Nat, 1 ≤ k ∧ (k : Int) ≤ b + 1 ∧ n = .int .i64 k) (fun n => (b + 1 - intOf n).toNat)
    case atStart => exact ⟨1, by omega, by omega, rfl⟩
    case round =>
      obtain ⟨k, hk1, hk, rfl⟩ := hrel
      by_cases hlt : (k : Int) < b + 1
      · have hp : passes k b false = true := by simp [passes, h, inB]; omega
        have hk2 : (k : Int) ≤ 1000 := by omega
        go_wp2_with (go_at_call 22; refine (passes_any _ _ _ _).mono ?_; rintro e w' ⟨rfl, rfl⟩)
        go_round
        case rel => exact ⟨k + 1, by omega, by omega, by go_num⟩
        case measure => simp [intOf]; omega
      · have hkb : (k : Int) = b + 1 := by omega
        have hp : passes (b + 1) b false = false := by simp [passes, h, inB]; omega
        by_cases hk2 : (k : Int) ≤ 1000
        all_goals
          go_wp2_with (first | (go_at_call 22; refine (passes_any _ _ _ _).mono ?_; rintro e w' ⟨rfl, rfl⟩) | (go_at_call 24; refine (awake_any _).mono ?_; rintro e w' ⟨rfl, rfl⟩))
          go_ret
          exact ⟨rfl, Below.refl _ _⟩
  · have h' : right b = false := by simpa using h
    have p1 : passes 1 b false = false := by simp [passes, h']
    go_enter Try.func4, Try.ntmps4
    go_wp2_with (first | (go_at_call 14; refine (longest_no _ _ h').mono ?_; rintro e w' ⟨rfl, rfl⟩) | (go_at_call 22; refine (passes_any _ _ _ _).mono ?_; rintro e w' ⟨rfl, rfl⟩) | (go_at_call 20; refine (right_any _ _).mono ?_; rintro e w' ⟨rfl, rfl⟩) | (go_at_call 24; refine (awake_any _).mono ?_; rintro e w' ⟨rfl, rfl⟩))
    go_ret
    exact ⟨rfl, Below.refl _ _⟩

theorem mono_ahead {v b v' b' : Int} (h0 : 1 ≤ v) (h1 : 0 ≤ b) (h2 : v ≤ v') (h3 : b ≤ b') : (v - 1) * (b + 1) ≤ (v' - 1) * (b' + 1) :=
  Int.mul_le_mul (by omega) (by omega) (by omega) (by omega)
theorem mono_total {m v b m' v' b' : Int} (h : 1 ≤ m) (h0 : 1 ≤ v) (h1 : 0 ≤ b) (h4 : m ≤ m') (h2 : v ≤ v') (h3 : b ≤ b') :
    m - 1 + m * ((v - 1) * (b + 1)) ≤ m' - 1 + m' * ((v' - 1) * (b' + 1)) := by
  have := Int.mul_le_mul h4 (mono_ahead h0 h1 h2 h3) (Int.mul_nonneg (by omega) (by omega)) (by omega)
  omega
theorem ahead_total {m v b : Int} (h : 1 ≤ m) (h0 : 1 ≤ v) (h1 : 0 ≤ b) : (v - 1) * (b + 1) ≤ m - 1 + m * ((v - 1) * (b + 1)) := by
  have h2 : 0 ≤ (v - 1) * (b + 1) := Int.mul_nonneg (by omega) (by omega)
  have := Int.mul_le_mul_of_nonneg_right h h2
  omega

/-- What the law compares at the end, decided. -/
theorem total_one (m b : Int) (w : World) (h : right b = true) (h2 : inB m 1 32 = true) :
    Calls Try.prog 18 #[.int .i64 m, .int .i64 1, .int .i64 b] w fun e w' => e = .returned (.tuple #[.int .i64 (m - 1), .int .i64 0]) ∧ w' = w := by
  have := total_yes m 1 b w h rfl h2
  simpa using this

set_option maxHeartbeats 4000000 in
theorem grows_walk (n0 n1 n2 m0 m1 m2 : Int) (w : World) (a0 : 0 ≤ n0) (b0 : n0 ≤ 255) (a1 : 0 ≤ n1) (b1 : n1 ≤ 255) (a2 : 0 ≤ n2) (b2 : n2 ≤ 255)
    (c0 : 0 ≤ m0) (d0 : m0 ≤ 255) (c1 : 0 ≤ m1) (d1 : m1 ≤ 255) (c2 : 0 ≤ m2) (d2 : m2 ≤ 255) :
    Calls Try.prog 5 #[.agg #[.int .u8 n0, .int .u8 n1, .int .u8 n2], .agg #[.int .u8 m0, .int .u8 m1, .int .u8 m2]] w fun e w' => e = .returned (.bool true) ∧ Below w.heap.size w w' := by
  have r0 : right n0 = true := right_iff.2 (by omega)
  have r1 : right (n0 + m0) = true := right_iff.2 (by omega)
  have i0 : inB (1 + n1 % 32) 1 32 = true := inB_iff.2 (by omega)
  have i1 : inB (1 + n2 % 32) 1 32 = true := inB_iff.2 (by omega)
  go_enter Try.func5, Try.ntmps5
  go_wp2_with fail
  go_quiet (fail)
  go_wp2_with fail
  go_quiet (fail)
  go_wp2_with fail
  all_goals
    refine (total_yes _ _ _ _ r0 i0 i1).mono ?_
    rintro e w' ⟨rfl, rfl⟩
    go_wp2_with fail
    refine (total_yes _ _ _ _ r1 (inB_iff.2 (by omega)) (inB_iff.2 (by omega))).mono ?_
    rintro e w' ⟨rfl, rfl⟩
    go_wp2_with fail
    refine (total_one _ _ _ r0 i1).mono ?_
    rintro e w' ⟨rfl, rfl⟩
    go_wp2_with fail
    refine (ahead_yes _ _ _ r0 i0).mono ?_
    rintro e w' ⟨rfl, rfl⟩
    go_wp2_with fail
    refine (ahead_yes _ _ _ r1 (inB_iff.2 (by omega))).mono ?_
    rintro e w' ⟨rfl, rfl⟩
    have f1 := @mono_total (1 + n2 % 32) (1 + n1 % 32) n0 32 32 (n0 + m0) (by omega) (by omega) (by omega) (by omega) (by omega) (by omega)
    have f2 := @mono_total (1 + n2 % 32) (1 + n1 % 32) n0 32 (1 + n1 % 32 + m1) (n0 + m0) (by omega) (by omega) (by omega) (by omega) (by omega) (by omega)
    have f3 := @mono_total (1 + n2 % 32) (1 + n1 % 32) n0 (1 + n2 % 32 + m2) 32 (n0 + m0) (by omega) (by omega) (by omega) (by omega) (by omega) (by omega)
    have f4 := @mono_total (1 + n2 % 32) (1 + n1 % 32) n0 (1 + n2 % 32 + m2) (1 + n1 % 32 + m1) (n0 + m0) (by omega) (by omega) (by omega) (by omega) (by omega) (by omega)
    have f5 := @mono_ahead (1 + n1 % 32) n0 32 (n0 + m0) (by omega) (by omega) (by omega) (by omega)
    have f6 := @mono_ahead (1 + n1 % 32) n0 (1 + n1 % 32 + m1) (n0 + m0) (by omega) (by omega) (by omega) (by omega)
    have f7 := @ahead_total (1 + n2 % 32) (1 + n1 % 32) n0 (by omega) (by omega) (by omega)
    go_wp2_with (go_at_call 24; refine (awake_any _).mono ?_; rintro e w' ⟨rfl, rfl⟩)
  go_goals
  all_goals go_ret
  all_goals exact ⟨rfl, below_drewN (((Below.refl _ _).alloc (Nat.le_refl _) _).alloc (by simp) _) _⟩

/-! As the row's step calls them. -/
theorem says_law (w : World) (l : List Int) (hl : l.length = 3 ∧ ∀ a ∈ l, isI64 a) (c : Int) (_hc : isI64 c) (al : Bool) :
    Calls Try.prog 3 #[.agg (l.flatMap fun n => [.int .i64 n]).toArray, .int .i64 c, .bool al] w fun e w' => e = .returned (.bool true) ∧ Below w.heap.size w w' := by
  obtain ⟨b, v, m, rfl⟩ := list3 hl.1
  exact says_walk b v m c al w
theorem ends_law (w : World) (b : Int) (_hb : isI64 b) :
    Calls Try.prog 4 #[.int .i64 b] w fun e w' => e = .returned (.bool true) ∧ Below w.heap.size w w' := ends_walk b w
theorem grows_law (w : World) (l : List Int) (hl : l.length = 3 ∧ ∀ a ∈ l, isU8 a) (k : List Int) (hk : k.length = 3 ∧ ∀ a ∈ k, isU8 a) :
    Calls Try.prog 5 #[.agg (l.flatMap fun n => [.int .u8 n]).toArray, .agg (k.flatMap fun n => [.int .u8 n]).toArray] w fun e w' => e = .returned (.bool true) ∧ Below w.heap.size w w' := by
  obtain ⟨hl, hl2⟩ := hl
  obtain ⟨hk, hk2⟩ := hk
  obtain ⟨a, b, c, rfl⟩ := list3 hl
  obtain ⟨x, y, z, rfl⟩ := list3 hk
  simp only [List.mem_cons, List.not_mem_nil, or_false, forall_eq_or_imp, forall_eq] at hl2 hk2
  obtain ⟨⟨p1, p2⟩, ⟨p3, p4⟩, ⟨p5, p6⟩⟩ := hl2
  obtain ⟨⟨q1, q2⟩, ⟨q3, q4⟩, ⟨q5, q6⟩⟩ := hk2
  exact grows_walk a b c x y z w p1 p2 p3 p4 p5 p6 q1 q2 q3 q4 q5 q6
end Go.Proofs.Ytmldkfmebplblaa.Bud
