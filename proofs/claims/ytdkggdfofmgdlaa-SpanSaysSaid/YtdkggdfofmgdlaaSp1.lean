/- Walks of layer 22: parts, may. -/
import Derived.Test.YtdkggdfofmgdlaaSpQ
import Derived.Test.YtdkggdfofmgdlaaHeap
namespace Go.Proofs.Ytdkggdfofmgdlaa.Sp
open Go.RowKit

def mayD (t k s : Int) : Bool := decide (1 ≤ t) && decide (t ≤ 32) && decide (1 ≤ k) && decide (k ≤ 4000) && decide (0 ≤ s) && decide (s ≤ 4000)
def isK (kind : Int) : Bool := decide (2 ≤ kind) && decide (kind ≤ 5)
def onceD (kind : Int) : Int := if kind = 4 then 6 else if kind = 5 then 4 else 3
def stepD (kind : Int) : Int := if kind = 4 then 8 else 4
def partsD (kind : Int) : Value := if isK kind then .tuple #[.int .i64 (onceD kind), .int .i64 (stepD kind), .bool true] else .tuple #[.int .i64 0, .int .i64 0, .bool false]
theorem parts_no {kind : Int} (h : ¬ (2 ≤ kind ∧ kind ≤ 5)) : partsD kind = .tuple #[.int .i64 0, .int .i64 0, .bool false] := by
  unfold partsD isK
  rw [if_neg]
  simp only [Bool.and_eq_true, decide_eq_true_eq]
  exact h
theorem parts_any (kind : Int) (w : World) : Calls Try.prog 13 #[.int .i64 kind] w fun e w' => e = .returned (partsD kind) ∧ w' = w := by
  by_cases k4 : kind = 4
  · subst k4
    go_enter Try.func13, Try.ntmps13
    go_wp2_with fail
    go_ret3
    exact ⟨rfl, rfl⟩
  by_cases k5 : kind = 5
  · subst k5
    go_enter Try.func13, Try.ntmps13
    go_wp2_with fail
    go_ret3
    exact ⟨rfl, rfl⟩
  by_cases k2 : kind = 2
  · subst k2
    go_enter Try.func13, Try.ntmps13
    go_wp2_with fail
    go_ret3
    exact ⟨rfl, rfl⟩
  by_cases k3 : kind = 3
  · subst k3
    go_enter Try.func13, Try.ntmps13
    go_wp2_with fail
    go_ret3
    exact ⟨rfl, rfl⟩
  have HN := Lib.hid (parts_no (kind := kind) (by omega))
  have q4 := ibeq_no k4
  have q5 := ibeq_no k5
  have q2 := ibeq_no k2
  have q3 := ibeq_no k3
  clear k2 k3 k4 k5
  go_enter Try.func13, Try.ntmps13
  go_wp2_with fail
  go_ret3
  exact ⟨by rw [HN.out]; rfl, rfl⟩
theorem may_iff (t k s : Int) : mayD t k s = true ↔ 1 ≤ t ∧ t ≤ 32 ∧ 1 ≤ k ∧ k ≤ 4000 ∧ 0 ≤ s ∧ s ≤ 4000 := by
  unfold mayD
  simp only [Bool.and_eq_true, decide_eq_true_eq, and_assoc]
theorem may_no {t k s : Int} (h : ¬ (1 ≤ t ∧ t ≤ 32 ∧ 1 ≤ k ∧ k ≤ 4000 ∧ 0 ≤ s ∧ s ≤ 4000)) : mayD t k s = false := by
  cases hm : mayD t k s with
  | false => rfl
  | true => exact absurd ((may_iff t k s).1 hm) h
theorem may_any (t k s : Int) (w : World) : Calls Try.prog 14 #[.int .i64 t, .int .i64 k, .int .i64 s] w fun e w' => e = .returned (.bool (mayD t k s)) ∧ w' = w := by
  by_cases h1 : 1 ≤ t
  · by_cases h2 : t ≤ 32
    · by_cases h3 : 1 ≤ k
      · by_cases h4 : k ≤ 4000
        · by_cases h5 : 0 ≤ s
          · by_cases h6 : s ≤ 4000
            · have HN := Lib.hid ((may_iff t k s).2 ⟨h1, h2, h3, h4, h5, h6⟩)
              go_enter Try.func14, Try.ntmps14
              go_wp2_with fail
              go_ret
              exact ⟨by rw [HN.out]; rfl, rfl⟩
            · have HN := Lib.hid (may_no (t := t) (k := k) (s := s) (by omega))
              go_enter Try.func14, Try.ntmps14
              go_wp2_with fail
              go_ret
              exact ⟨by rw [HN.out]; rfl, rfl⟩
          · have HN := Lib.hid (may_no (t := t) (k := k) (s := s) (by omega))
            go_enter Try.func14, Try.ntmps14
            go_wp2_with fail
            go_ret
            exact ⟨by rw [HN.out]; rfl, rfl⟩
        · have HN := Lib.hid (may_no (t := t) (k := k) (s := s) (by omega))
          go_enter Try.func14, Try.ntmps14
          go_wp2_with fail
          go_ret
          exact ⟨by rw [HN.out]; rfl, rfl⟩
      · have HN := Lib.hid (may_no (t := t) (k := k) (s := s) (by omega))
        go_enter Try.func14, Try.ntmps14
        go_wp2_with fail
        go_ret
        exact ⟨by rw [HN.out]; rfl, rfl⟩
    · have HN := Lib.hid (may_no (t := t) (k := k) (s := s) (by omega))
      go_enter Try.func14, Try.ntmps14
      go_wp2_with fail
      go_ret
      exact ⟨by rw [HN.out]; rfl, rfl⟩
  · have HN := Lib.hid (may_no (t := t) (k := k) (s := s) (by omega))
    go_enter Try.func14, Try.ntmps14
    go_wp2_with fail
    go_ret
    exact ⟨by rw [HN.out]; rfl, rfl⟩
end Go.Proofs.Ytdkggdfofmgdlaa.Sp
