/- Walks of package fair and its reference: some, Own, among, Least. -/
import Derived.Test.YtmldkfmebplblaaOpen
import Derived.Test.YtmldkfmebplblaaFairP
import Derived.Deep.OwnRows
namespace Go.Proofs.Ytmldkfmebplblaa.Fai
open Go.RowKit

def decI (n : Int) : List Value := [.int .i64 n]
theorem infoI : (Try.prog.info? 3).map (fun i => (i.zero, i.size, i.bytes)) = some (some (.int .i64 0), 1, 8) := by kernel_rfl

def som (t : Int) : Nat := if t < 0 then 0 else if 32 < t then 32 else t.toNat
theorem som_le (t : Int) : som t ≤ 32 := by unfold som; split; omega; split <;> omega

theorem some_any (t : Int) (w : World) :
    Calls Try.prog 62 #[.int .i64 t] w fun e w' => e = .returned (.int .i64 (som t)) ∧ w' = w := by
  by_cases h : t < 0
  · have hn := Lib.hid (show (som t : Int) = 0 by simp [som, h])
    go_enter Try.func62, Try.ntmps62
    go_wp2
    all_goals go_ret
    all_goals exact ⟨by rw [hn.out]; rfl, rfl⟩
  · by_cases h2 : 32 < t
    · have hn := Lib.hid (show (som t : Int) = 32 by simp [som, h, h2])
      go_enter Try.func62, Try.ntmps62
      go_wp2
      all_goals go_ret
      all_goals exact ⟨by rw [hn.out]; rfl, rfl⟩
    · have hn := Lib.hid (show (som t : Int) = t by simp [som, h, h2]; omega)
      go_enter Try.func62, Try.ntmps62
      go_wp2
      all_goals go_ret
      all_goals exact ⟨by rw [hn.out]; first | rfl | (congr 2; simp; omega), rfl⟩

theorem rsome_any (t : Int) (w : World) :
    Calls Try.prog 46 #[.int .i64 t] w fun e w' => e = .returned (.int .i64 (som t)) ∧ w' = w := by
  by_cases h : t < 0
  · have hn := Lib.hid (show (som t : Int) = 0 by simp [som, h])
    go_enter Try.func46, Try.ntmps46
    go_wp2
    go_ret
    exact ⟨by rw [hn.out]; rfl, rfl⟩
  · by_cases h2 : 32 < t
    · have hn := Lib.hid (show (som t : Int) = 32 by simp [som, h, h2])
      go_enter Try.func46, Try.ntmps46
      go_wp2
      go_ret
      exact ⟨by rw [hn.out]; rfl, rfl⟩
    · have hn := Lib.hid (show (som t : Int) = t by simp [som, h, h2]; omega)
      go_enter Try.func46, Try.ntmps46
      go_wp2
      go_ret
      exact ⟨by rw [hn.out]; rfl, rfl⟩

/-- How often a thread is picked, up to a place. -/
def ownTo (l : List Int) (t : Int) (to : Int) : Nat → Nat
  | 0 => 0
  | k + 1 => ownTo l t to k + (if decide ((k : Int) < to) && (l[k]? == some t) then 1 else 0)
def own (l : List Int) (t to : Int) : Int := ownTo l t to l.length
theorem ownTo_le (l : List Int) (t to : Int) (k : Nat) : ownTo l t to k ≤ k := by
  induction k with
  | zero => exact Nat.le_refl _
  | succ k ih => simp only [ownTo]; split <;> omega
theorem ownTo_over (l : List Int) (t to : Int) (k j : Nat) (h : to ≤ k) : ownTo l t to (k + j) = ownTo l t to k := by
  induction j with
  | zero => rfl
  | succ j ih =>
    rw [← Nat.add_assoc, ownTo, ih]
    simp
    omega

set_option maxHeartbeats 400000 in
theorem own_any (l : List Int) (A : Option Addr) (cap : Nat) (t to : Int) (B : Nat) (w : World) (hm : l.length ≤ 9223372036854775807) (hs : Sl w B A (l.flatMap decI)) :
    Calls Try.prog 39 #[.slice A l.length cap, .int .i64 t, .int .i64 to] w fun e w' => e = .returned (.int .i64 (own l t to)) ∧ w' = w := by
  go_enter Try.func39, Try.ntmps39
  go_wp2
  go_loop [7, 12] (fun n i => ∃ k : Nat, k ≤ l.length ∧ i = .int .i64 k ∧ n = .int .i64 (ownTo l t to k)) (fun _ i => l.length - (intOf i).toNat)
  case atStart => exact ⟨0, by omega, rfl, rfl⟩
  case round =>
    obtain ⟨k, hk, rfl, rfl⟩ := hrel
    have hle := ownTo_le l t to k
    by_cases hlt : k < l.length
    · obtain ⟨b, off, rfl, hbb, hcell⟩ := Sl_at (k := 1) (fun _ => rfl) (by omega) hs (by omega)
      have h0 := hcell k hlt 0 (by omega)
      simp only [decI, List.getElem?_cons_zero, Nat.add_zero, Nat.mul_one] at h0
      have hst := Lib.hid (show ownTo l t to (k + 1) = ownTo l t to k + (if decide ((k : Int) < to) && (l[k] == t) then 1 else 0) by
        rw [ownTo, List.getElem?_eq_getElem hlt]
        simp)
      clear hcell
      generalize l[k] = x at h0 hst
      generalize ownTo l t to k = q at hst hle ⊢
      by_cases hx : x = t
      · have e1 := ibeq hx
        have HX := Lib.hid hx
        clear hx
        by_cases hto : (k : Int) < to
        · go_wp2
          go_round
          case rel => exact ⟨k + 1, by omega, by go_num, by rw [hst.out]; simp [hto, e1]⟩
          case measure => simp [intOf]; omega
        · go_wp2
          go_round
          case rel => exact ⟨k + 1, by omega, by go_num, by rw [hst.out]; simp [hto]⟩
          case measure => simp [intOf]; omega
      · have e1 := ibeq_no hx
        clear hx
        go_wp2
        go_round
        case rel => exact ⟨k + 1, by omega, by go_num, by rw [hst.out]; simp [e1]⟩
        case measure => simp [intOf]; omega
    · have he := Lib.hid (show own l t to = ownTo l t to k by unfold own; rw [show l.length = k by omega])
      go_wp2
      go_ret
      exact ⟨by rw [he.out]; rfl, rfl⟩

set_option maxHeartbeats 400000 in
theorem rown_any (l : List Int) (A : Option Addr) (cap : Nat) (t to : Int) (B : Nat) (w : World) (hm : l.length ≤ 9223372036854775807) (hs : Sl w B A (l.flatMap decI)) :
    Calls Try.prog 40 #[.slice A l.length cap, .int .i64 t, .int .i64 to] w fun e w' => e = .returned (.int .i64 (own l t to)) ∧ w' = w := by
  go_enter Try.func40, Try.ntmps40
  go_wp2
  go_loop [7, 8] (fun n i => ∃ k : Nat, k ≤ l.length ∧ i = .int .i64 k ∧ n = .int .i64 (ownTo l t to k)) (fun _ i => l.length - (intOf i).toNat)
  case atStart => exact ⟨0, by omega, rfl, rfl⟩
  case round =>
    obtain ⟨k, hk, rfl, rfl⟩ := hrel
    have hle := ownTo_le l t to k
    by_cases hlt : k < l.length
    · by_cases hto : (k : Int) < to
      · obtain ⟨b, off, rfl, hbb, hcell⟩ := Sl_at (k := 1) (fun _ => rfl) (by omega) hs (by omega)
        have h0 := hcell k hlt 0 (by omega)
        simp only [decI, List.getElem?_cons_zero, Nat.add_zero, Nat.mul_one] at h0
        have hst := Lib.hid (show ownTo l t to (k + 1) = ownTo l t to k + (if decide ((k : Int) < to) && (l[k] == t) then 1 else 0) by
          rw [ownTo, List.getElem?_eq_getElem hlt]
          simp)
        clear hcell
        generalize l[k] = x at h0 hst
        generalize ownTo l t to k = q at hst hle ⊢
        by_cases hx : x = t
        · have e1 := ibeq hx
          have HX := Lib.hid hx
          clear hx
          go_wp2
          go_round
          case rel => exact ⟨k + 1, by omega, by go_num, by rw [hst.out]; simp [hto, e1]⟩
          case measure => simp [intOf]; omega
        · have e1 := ibeq_no hx
          clear hx
          go_wp2
          go_round
          case rel => exact ⟨k + 1, by omega, by go_num, by rw [hst.out]; simp [e1]⟩
          case measure => simp [intOf]; omega
      · have he := Lib.hid (show own l t to = ownTo l t to k by
          unfold own
          rw [show l.length = k + (l.length - k) by omega, ownTo_over _ _ _ _ _ (by omega)])
        go_wp2
        go_ret
        exact ⟨by rw [he.out]; rfl, rfl⟩
    · have he := Lib.hid (show own l t to = ownTo l t to k by unfold own; rw [show l.length = k by omega])
      go_wp2
      go_ret
      exact ⟨by rw [he.out]; rfl, rfl⟩

def among (l : List Int) (t : Int) : Bool := decide (t ∈ l)
set_option maxHeartbeats 400000 in
theorem among_any (l : List Int) (A : Option Addr) (cap : Nat) (t : Int) (B : Nat) (w : World) (hm : l.length ≤ 9223372036854775807) (hs : Sl w B A (l.flatMap decI)) :
    Calls Try.prog 63 #[.slice A l.length cap, .int .i64 t] w fun e w' => e = .returned (.bool (among l t)) ∧ w' = w := by
  go_enter Try.func63, Try.ntmps63
  go_wp2
  go_loop [5] (fun i => ∃ k : Nat, k ≤ l.length ∧ i = .int .i64 k ∧ ∀ j (h : j < l.length), j < k → l[j] ≠ t) (fun i => l.length - (intOf i).toNat)
  case atStart => exact ⟨0, by omega, rfl, by intro j _ h; omega⟩
  case round =>
    obtain ⟨k, hk, rfl, hno⟩ := hrel
    have HN := Lib.hid hno
    clear hno
    by_cases hlt : k < l.length
    · obtain ⟨b, off, rfl, hbb, hcell⟩ := Sl_at (k := 1) (fun _ => rfl) (by omega) hs (by omega)
      have h0 := hcell k hlt 0 (by omega)
      simp only [decI, List.getElem?_cons_zero, Nat.add_zero, Nat.mul_one] at h0
      clear hcell
      by_cases hx : l[k] = t
      · have e1 := ibeq hx
        have he := Lib.hid (show among l t = true by simp only [among, decide_eq_true_eq]; rw [← hx]; exact List.getElem_mem _)
        clear hx
        go_wp2
        go_ret
        exact ⟨by rw [he.out]; rfl, rfl⟩
      · have e1 := ibeq_no hx
        have HX := Lib.hid hx
        clear hx
        go_wp2
        go_round
        case rel => exact ⟨k + 1, by omega, by go_num, fun j h1 h2 => by
          by_cases h3 : j < k
          · exact HN.out j h1 h3
          · obtain rfl : j = k := by omega
            exact HX.out⟩
        case measure => simp [intOf]; omega
    · have he := Lib.hid (show among l t = false by
        simp only [among, decide_eq_false_iff_not]
        intro hmem
        obtain ⟨j, hj, hjt⟩ := List.getElem_of_mem hmem
        exact HN.out j hj (by omega) hjt)
      go_wp2
      go_ret
      exact ⟨by rw [he.out]; rfl, rfl⟩
end Go.Proofs.Ytmldkfmebplblaa.Fai
