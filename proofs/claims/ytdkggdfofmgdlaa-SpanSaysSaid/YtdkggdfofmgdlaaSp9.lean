/- Walks of layer 22's reference: waits, enters, Keeps. -/
import Derived.Test.YtdkggdfofmgdlaaSp8
import Derived.Test.YtdkggdfofmgdlaaSpQ
namespace Go.Proofs.Ytdkggdfofmgdlaa.Sp
open Go.RowKit
theorem any_step {f : St → Bool} {l : List St} {j : Nat} (h : j < l.length) : (l.drop j).any f = (f (l.getD j s0) || (l.drop (j + 1)).any f) := by
  rw [List.drop_eq_getElem_cons h, List.any_cons, List.getD_eq_getElem?_getD, List.getElem?_eq_getElem h]
  rfl
theorem any_end {f : St → Bool} {l : List St} {j : Nat} (h : l.length ≤ j) : (l.drop j).any f = false := by rw [List.drop_eq_nil_of_le h]; rfl
def fW (k : Nat) (s : St) : Bool := decide (s.ask ≤ (k : Int)) && (decide (s.en < 0) || decide ((k : Int) < s.en))
def fE (k : Nat) (s : St) : Bool := decide (s.en = (k : Int))
set_option maxRecDepth 100000 in
theorem waits_any (l : List St) (A : Option Addr) (cap k : Nat) (w : World) (hm : l.length ≤ 1000) (hs : Sl w w.heap.size A (l.flatMap dSt)) :
    Calls Try.prog 17 #[.slice A l.length cap, .int .i64 (k : Int)] w fun e w' => e = .returned (.bool (wtD l k)) ∧ w' = w := by
  obtain ⟨tgt, ht⟩ : ∃ x, wtD l k = x := ⟨_, rfl⟩
  rw [ht]
  have HT := Lib.hid (show (l.drop 0).any (fW k) = tgt from ht)
  clear ht
  go_enter Try.func17, Try.ntmps17
  go_wp2_with fail
  go_loopw [5] (fun i wr => ∃ j : Nat, j ≤ l.length ∧ i = .int .i64 (j : Int) ∧ (l.drop j).any (fW k) = tgt ∧ wr = w) (fun i _ => l.length - (intOf i).toNat)
  case atStart => exact ⟨0, Nat.zero_le _, rfl, HT.out, rfl⟩
  case round =>
    obtain ⟨j, hj, rfl, hrun, rfl⟩ := hrel
    by_cases hlt : j < l.length
    · obtain ⟨b, off, rfl, hbb, hcell⟩ := sl_st hs (by omega)
      obtain ⟨_, c2, c3, _⟩ := hcell j hlt
      have i1 : (j : Int) < (l.length : Int) := by omega
      rw [any_step hlt] at hrun
      clear hcell hs
      generalize l.getD j s0 = st at *
      unfold fW at hrun
      by_cases h1 : st.ask ≤ (k : Int)
      · by_cases h2 : st.en < 0
        · simp only [h1, h2, decide_true, Bool.true_or, Bool.and_true] at hrun
          have HN := Lib.hid hrun
          clear hrun
          go_wp2_with fail
          go_ret
          exact ⟨by rw [← HN.out]; rfl, rfl⟩
        · by_cases h3 : (k : Int) < st.en
          · simp only [h1, h2, h3, decide_true, Bool.true_or, Bool.or_true, Bool.and_true] at hrun
            have HN := Lib.hid hrun
            clear hrun
            go_wp2_with fail
            go_ret
            exact ⟨by rw [← HN.out]; rfl, rfl⟩
          · simp only [h1, h2, h3, decide_true, decide_false, Bool.or_false, Bool.and_false, Bool.false_or] at hrun
            have HN := Lib.hid hrun
            clear hrun
            go_wp2_with fail
            go_roundw
            case rel => exact ⟨j + 1, by omega, by go_num, HN.out, trivial⟩
            case measure => simp [intOf]; omega
      · simp only [h1, decide_false, Bool.false_and, Bool.false_or] at hrun
        have HN := Lib.hid hrun
        clear hrun
        go_wp2_with fail
        go_roundw
        case rel => exact ⟨j + 1, by omega, by go_num, HN.out, trivial⟩
        case measure => simp [intOf]; omega
    · rw [any_end (by omega)] at hrun
      have i1 : ¬ (j : Int) < (l.length : Int) := by omega
      clear hs
      have HN := Lib.hid hrun
      clear hrun
      go_wp2_with fail
      go_ret
      exact ⟨by rw [← HN.out]; rfl, rfl⟩
set_option maxRecDepth 100000 in
theorem enters_any (l : List St) (A : Option Addr) (cap k : Nat) (w : World) (hm : l.length ≤ 1000) (hs : Sl w w.heap.size A (l.flatMap dSt)) :
    Calls Try.prog 18 #[.slice A l.length cap, .int .i64 (k : Int)] w fun e w' => e = .returned (.bool (entD l k)) ∧ w' = w := by
  obtain ⟨tgt, ht⟩ : ∃ x, entD l k = x := ⟨_, rfl⟩
  rw [ht]
  have HT := Lib.hid (show (l.drop 0).any (fE k) = tgt from ht)
  clear ht
  go_enter Try.func18, Try.ntmps18
  go_wp2_with fail
  go_loopw [5] (fun i wr => ∃ j : Nat, j ≤ l.length ∧ i = .int .i64 (j : Int) ∧ (l.drop j).any (fE k) = tgt ∧ wr = w) (fun i _ => l.length - (intOf i).toNat)
  case atStart => exact ⟨0, Nat.zero_le _, rfl, HT.out, rfl⟩
  case round =>
    obtain ⟨j, hj, rfl, hrun, rfl⟩ := hrel
    by_cases hlt : j < l.length
    · obtain ⟨b, off, rfl, hbb, hcell⟩ := sl_st hs (by omega)
      obtain ⟨_, c2, c3, _⟩ := hcell j hlt
      have i1 : (j : Int) < (l.length : Int) := by omega
      rw [any_step hlt] at hrun
      clear hcell hs
      generalize l.getD j s0 = st at *
      unfold fE at hrun
      by_cases h1 : st.en = (k : Int)
      · simp only [h1, decide_true, Bool.true_or] at hrun
        have q := ibeq h1
        clear h1
        have HN := Lib.hid hrun
        clear hrun
        go_wp2_with fail
        go_ret
        exact ⟨by rw [← HN.out]; rfl, rfl⟩
      · simp only [h1, decide_false, Bool.false_or] at hrun
        have q := ibeq_no h1
        clear h1
        have HN := Lib.hid hrun
        clear hrun
        go_wp2_with fail
        go_roundw
        case rel => exact ⟨j + 1, by omega, by go_num, HN.out, trivial⟩
        case measure => simp [intOf]; omega
    · rw [any_end (by omega)] at hrun
      have i1 : ¬ (j : Int) < (l.length : Int) := by omega
      clear hs
      have HN := Lib.hid hrun
      clear hrun
      go_wp2_with fail
      go_ret
      exact ⟨by rw [← HN.out]; rfl, rfl⟩
end Go.Proofs.Ytdkggdfofmgdlaa.Sp
