/- Walks of layer 12's reference: next, behind. -/
import Derived.Test.YtdkggdfofmgdlaaSp3
namespace Go.Proofs.Ytdkggdfofmgdlaa.Sp
open Go.RowKit
def dE (e : E) : List Value := [.int .i64 e.kind, .int .i64 e.th, .bool e.rd, .int .i64 e.ct]
theorem sl_ev {w : World} {Bd : Nat} {A : Option Addr} {l : List E} (h : Sl w Bd A (l.flatMap dE)) (hk : 0 < l.length) : ∃ b off, A = some ⟨b, off, none⟩ ∧ b < Bd ∧ ∀ j, j < l.length → w.cell? ⟨b, off + j * 4, none⟩ = some (.int .i64 (l.getD j e0).kind) ∧ w.cell? ⟨b, off + j * 4 + 1, none⟩ = some (.int .i64 (l.getD j e0).th) ∧ w.cell? ⟨b, off + j * 4 + 2, none⟩ = some (.bool (l.getD j e0).rd) ∧ w.cell? ⟨b, off + j * 4 + 3, none⟩ = some (.int .i64 (l.getD j e0).ct) := by
  obtain ⟨b, off, rfl, hb, hc⟩ := Sl_at (dec := dE) (k := 4) (fun _ => rfl) (by omega) h hk
  refine ⟨b, off, rfl, hb, fun j hj => ?_⟩
  have h0 := hc j hj 0 (by omega)
  have h1 := hc j hj 1 (by omega)
  have h2 := hc j hj 2 (by omega)
  have h3 := hc j hj 3 (by omega)
  simp only [dE, List.getElem?_cons_zero, List.getElem?_cons_succ, Nat.add_zero, ← Nat.add_assoc] at h0 h1 h2 h3
  have e : l.getD j e0 = l[j] := by rw [List.getD_eq_getElem?_getD, List.getElem?_eq_getElem hj]; rfl
  rw [e]
  exact ⟨h0, h1, h2, h3⟩
set_option maxRecDepth 100000 in
theorem next_any (l : List E) (A : Option Addr) (cap f : Nat) (kd t : Int) (w : World) (hm : l.length ≤ 1000) (hf : f ≤ 1001) (hs : Sl w w.heap.size A (l.flatMap dE)) :
    Calls Try.prog 22 #[.slice A l.length cap, .int .i64 (f : Int), .int .i64 kd, .int .i64 t] w fun e w' => e = .returned (.int .i64 (nx l f kd t)) ∧ w' = w := by
  obtain ⟨tgt, ht⟩ : ∃ x, nx l f kd t = x := ⟨_, rfl⟩
  rw [ht]
  have HT := Lib.hid ht
  clear ht
  go_enter Try.func22, Try.ntmps22
  go_wp2_with fail
  go_loopw [9] (fun i wr => ∃ j : Nat, j ≤ 1001 ∧ i = .int .i64 (j : Int) ∧ nx l j kd t = tgt ∧ wr = w) (fun i _ => l.length + 1 - (intOf i).toNat)
  case atStart => exact ⟨f, hf, rfl, HT.out, rfl⟩
  case round =>
    obtain ⟨j, hj, rfl, hrun, rfl⟩ := hrel
    have i0 : (0 : Int) ≤ (j : Int) := by omega
    by_cases hlt : j < l.length
    · obtain ⟨b, off, rfl, hbb, hcell⟩ := sl_ev hs (by omega)
      obtain ⟨c0, c1, _, _⟩ := hcell j hlt
      have i1 : (j : Int) < (l.length : Int) := by omega
      rw [nx_step hlt] at hrun
      have hh := hit_iff kd t (l.getD j e0)
      clear hcell hs
      generalize l.getD j e0 = ev at *
      by_cases h1 : ev.kind = kd
      · by_cases h2 : ev.th = t
        · rw [if_pos (hh.2 ⟨h1, h2⟩)] at hrun
          have HN := Lib.hid hrun
          have q1 := beq_iff_eq.2 h1
          have q2 := beq_iff_eq.2 h2
          clear hrun hh h1 h2
          go_wp2_with fail
          go_ret
          exact ⟨by rw [← HN.out]; rfl, rfl⟩
        · rw [if_neg (fun h => h2 (hh.1 h).2)] at hrun
          have HN := Lib.hid hrun
          have q1 := beq_iff_eq.2 h1
          have q2 := beq_eq_false_iff_ne.2 h2
          clear hrun hh h1 h2
          go_wp2_with fail
          go_roundw
          case rel => exact ⟨j + 1, by omega, by go_num, HN.out, trivial⟩
          case measure => simp [intOf]; omega
      · rw [if_neg (fun h => h1 (hh.1 h).1)] at hrun
        have HN := Lib.hid hrun
        have q1 := beq_eq_false_iff_ne.2 h1
        clear hrun hh h1
        go_wp2_with fail
        go_roundw
        case rel => exact ⟨j + 1, by omega, by go_num, HN.out, trivial⟩
        case measure => simp [intOf]; omega
    · rw [nx_end (by omega)] at hrun
      have HN := Lib.hid hrun
      have i1 : ¬ (j : Int) < (l.length : Int) := by omega
      clear hrun hs
      go_wp2_with fail
      go_ret
      exact ⟨by rw [← HN.out]; rfl, rfl⟩
theorem behind_any (l : List E) (A : Option Addr) (cap : Nat) (a kd t : Int) (w : World) (hm : l.length ≤ 1000) (ha : a ≤ 1000) (hs : Sl w w.heap.size A (l.flatMap dE)) :
    Calls Try.prog 21 #[.slice A l.length cap, .int .i64 a, .int .i64 kd, .int .i64 t] w fun e w' => e = .returned (.int .i64 (bh l a kd t)) ∧ w' = w := by
  by_cases h : a < 0
  · have HN := Lib.hid (show bh l a kd t = -1 by unfold bh; rw [if_pos h])
    clear hs
    go_enter Try.func21, Try.ntmps21
    go_wp2_with fail
    go_ret
    exact ⟨by rw [HN.out]; rfl, rfl⟩
  · obtain ⟨m, rfl⟩ : ∃ m : Nat, a = (m : Int) := ⟨a.toNat, by omega⟩
    have HN := Lib.hid (show bh l (m : Int) kd t = nx l (m + 1) kd t by unfold bh; rw [if_neg h]; rfl)
    have HC := Lib.hid (next_any l A cap (m + 1) kd t w hm (by omega) hs)
    rw [HN.out]
    have w1 : IntKind.i64.wrap ((m : Int) + 1) = ((m + 1 : Nat) : Int) := by rw [IntWalk.i64_in _ (by omega)]; rfl
    clear hs
    go_enter Try.func21, Try.ntmps21
    go_wp2_with fail
    refine (HC.out).mono ?_
    rintro e wx ⟨rfl, hwx⟩
    obtain rfl := hwx.symm
    go_wp2_with fail
    go_ret
    exact ⟨rfl, rfl⟩
end Go.Proofs.Ytdkggdfofmgdlaa.Sp
