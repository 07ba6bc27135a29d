/- Walks of package tenure and its reference: Turns, Same, entries. -/
import Derived.Test.YtmldkfmebplblaaTen
namespace Go.Proofs.Ytmldkfmebplblaa.Ten
open Go.RowKit

def turnAt (l : List Rn) (i : Nat) : Bool := match l[i]?, l[i - 1]? with | some a, some b => a.node != b.node | _, _ => false
def turnsTo (l : List Rn) : Nat → Nat
  | 0 => 0
  | k + 1 => turnsTo l k + (if turnAt l (k + 1) then 1 else 0)
def turns (l : List Rn) : Int := turnsTo l (l.length - 1)
theorem turnsTo_le (l : List Rn) (k : Nat) : turnsTo l k ≤ k := by
  induction k with
  | zero => exact Nat.le_refl _
  | succ k ih => simp only [turnsTo]; split <;> omega

set_option maxHeartbeats 1000000 in
theorem turns_any (l : List Rn) (A : Option Addr) (cap : Nat) (w : World) (hm : l.length ≤ 9223372036854775807) (hs : Sl w w.heap.size A (l.flatMap decRn)) :
    Calls Try.prog 33 #[.slice A l.length cap] w fun e w' => e = .returned (.int .i64 (turns l)) ∧ Below w.heap.size w w' := by
  go_enter Try.func33, Try.ntmps33
  go_wp2
  go_loopw [3, 4] (fun m i wr => ∃ k : Nat, (k = 0 ∨ k < l.length) ∧ i = .int .i64 (k + 1) ∧ m = .int .i64 (turnsTo l k) ∧ Below w.heap.size w wr) (fun _ i _ => l.length - (intOf i).toNat)
  case atStart => exact ⟨0, .inl rfl, rfl, rfl, Below.refl _ _⟩
  case round =>
    obtain ⟨k, hk, rfl, rfl, hb⟩ := hrel
    have hle := turnsTo_le l k
    by_cases hlt : k + 1 < l.length
    · obtain ⟨b, off, rfl, hbb, hcell⟩ := Sl_at (k := 3) (fun _ => rfl) (by omega) (hs.below hb) (by omega)
      have h0 := hcell (k + 1) hlt 0 (by omega)
      have h1 := hcell k (by omega) 0 (by omega)
      simp only [decRn, List.getElem?_cons_zero, List.getElem?_cons_succ, Nat.add_zero, ← Nat.add_assoc] at h0 h1
      have ht := Lib.hid (show turnsTo l (k + 1) = turnsTo l k + (if l[k + 1].node != l[k].node then 1 else 0) by
        simp only [turnsTo, turnAt, Nat.add_sub_cancel, List.getElem?_eq_getElem hlt, List.getElem?_eq_getElem (show k < l.length by omega)])
      clear hcell hk
      generalize l[k + 1].node = r1 at h0 ht
      generalize l[k].node = r0 at h1 ht
      generalize turnsTo l k = m at ht hle ⊢
      have i1 : (k : Int) + 1 < (l.length : Int) := by omega
      have i0 : (k : Int) < (l.length : Int) := by omega
      by_cases hne : (r1 != r0) = true
      all_goals
        go_wp2_with fail
        go_quiet (fail)
        go_wp2
        go_roundw
        case rel => exact ⟨k + 1, .inr hlt, by go_num, by rw [ht.out]; simp [hne], below_drewN hb _⟩
        case measure => simp [intOf]; omega
    · have hn := Lib.hid (show turns l = turnsTo l k by
        unfold turns
        rw [show l.length - 1 = k by omega])
      go_wp2
      go_ret
      exact ⟨by rw [hn.out]; rfl, hb⟩

def neqR (r s : Rn) : Bool := decide (r ≠ s)
theorem run_neqR (r s : Rn) (w : World) : (binOp .neq 48 (.agg #[.int .i64 r.node, .int .i64 r.frm, .int .i64 r.many]) (.agg #[.int .i64 s.node, .int .i64 s.frm, .int .i64 s.many])).run Try.prog w = .ok (.bool (neqR r s)) w := by
  have h : neqR r s = !(r.node == s.node && (r.frm == s.frm && r.many == s.many)) := by
    cases r; cases s
    rw [Bool.eq_iff_iff]
    simp [neqR]
  rw [h]
  go_simp
  repeat' split
  all_goals simp_all

set_option maxHeartbeats 1000000 in
theorem same_any (l k : List Rn) (A C : Option Addr) (c1 c2 : Nat) (w : World) (hm : l.length ≤ 9223372036854775807) (hm2 : k.length ≤ 9223372036854775807)
    (hs : Sl w w.heap.size A (l.flatMap decRn)) (ht : Sl w w.heap.size C (k.flatMap decRn)) :
    Calls Try.prog 28 #[.slice A l.length c1, .slice C k.length c2] w fun e w' => e = .returned (.bool (decide (l = k))) ∧ Below w.heap.size w w' := by
  by_cases hl : l.length = k.length
  · have hlb := nbeq hl
    have hlb2 := nbne_no hl
    have HL := Lib.hid hl
    clear hl
    go_enter Try.func28, Try.ntmps28
    go_wp2
    go_loopw [5] (fun i wr => ∃ j : Nat, j ≤ l.length ∧ i = .int .i64 j ∧ l.take j = k.take j ∧ Below w.heap.size w wr) (fun i _ => l.length - (intOf i).toNat)
    case atStart => exact ⟨0, by omega, rfl, rfl, Below.refl _ _⟩
    case round =>
      obtain ⟨j, hj, rfl, hjt, hb⟩ := hrel
      have HJ := Lib.hid hjt
      clear hjt
      by_cases hlt : j < l.length
      · have hlt2 : j < k.length := by have := HL.out; omega
        obtain ⟨b, off, rfl, hbb, hcell⟩ := Sl_at (k := 3) (fun _ => rfl) (by omega) (hs.below hb) (by omega)
        obtain ⟨b', off', rfl, hbb', hcell'⟩ := Sl_at (k := 3) (fun _ => rfl) (by omega) (ht.below hb) (by omega)
        have h0 := hcell j hlt 0 (by omega)
        have h1 := hcell j hlt 1 (by omega)
        have h2 := hcell j hlt 2 (by omega)
        have g0 := hcell' j hlt2 0 (by omega)
        have g1 := hcell' j hlt2 1 (by omega)
        have g2 := hcell' j hlt2 2 (by omega)
        simp only [decRn, List.getElem?_cons_zero, List.getElem?_cons_succ, Nat.add_zero, ← Nat.add_assoc] at h0 h1 h2 g0 g1 g2
        clear hcell hcell'
        have i1 : (j : Int) < (k.length : Int) := by omega
        have i0 : (j : Int) < (l.length : Int) := by omega
        have hq := fun w => run_neqR l[j] k[j] w
        have hnx := Lib.hid (show neqR l[j] k[j] = false → l.take (j + 1) = k.take (j + 1) by
          intro h
          rw [List.take_succ_eq_append_getElem hlt, List.take_succ_eq_append_getElem hlt2, HJ.out, show l[j] = k[j] by simpa [neqR] using h])
        have hno := Lib.hid (show neqR l[j] k[j] = true → decide (l = k) = false by
          intro h
          rw [decide_eq_false_iff_not]
          rintro rfl
          simp [neqR] at h)
        by_cases hn : neqR l[j] k[j] = true
        · go_wp2_with fail
          go_quiet (fail)
          go_wp2
          go_ret
          exact ⟨by rw [hno.out hn]; rfl, below_drewN hb _⟩
        · have hn' : neqR l[j] k[j] = false := by simpa using hn
          clear hn
          go_wp2_with fail
          go_quiet (fail)
          go_wp2
          go_roundw
          case rel => exact ⟨j + 1, by omega, by go_num, hnx.out hn', below_drewN hb _⟩
          case measure => simp [intOf]; omega
      · have he := Lib.hid (show decide (l = k) = true by
          rw [decide_eq_true_iff]
          have := HJ.out
          rwa [List.take_of_length_le (by omega), List.take_of_length_le (by have := HL.out; omega)] at this)
        go_wp2
        go_ret
        exact ⟨by rw [he.out]; rfl, hb⟩
  · have hlb2 := nbne hl
    have hn := Lib.hid (show decide (l = k) = false by simp; rintro rfl; exact hl rfl)
    clear hl
    go_enter Try.func28, Try.ntmps28
    go_wp2
    go_ret
    exact ⟨by rw [hn.out]; rfl, Below.refl _ _⟩
end Go.Proofs.Ytmldkfmebplblaa.Ten
