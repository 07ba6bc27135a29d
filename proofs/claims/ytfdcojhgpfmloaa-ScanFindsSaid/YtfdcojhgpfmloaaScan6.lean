/- Layer 30's law: awake. -/
import Derived.Test.YtfdcojhgpfmloaaScan5
namespace Go.Proofs.Ytfdcojhgpfmloaa.Ara
open Go.RowKit

theorem flatV (l : List Int) : l.flatMap (fun n => [Value.int .i64 n]) = l.map (Value.int .i64) := by
  induction l with
  | nil => rfl
  | cons x l ih => rw [List.flatMap_cons, ih, List.map_cons]; rfl
theorem news_at (ga ha : Nat) (σ : Ar) (pos step : Int) (A : Option Addr) (c : Nat) (ns : List Int) (w : World) (H : ArAt w ga ha σ) (hh : ha < w.heap.size) (hn : ns.length ≤ 4096) (hs : Sl w w.heap.size A (ns.map (Value.int .i64))) :
    Calls Try.prog 53 #[.pointer (some ⟨ga, 0, none⟩), .int .i64 pos, .int .i64 step, .slice A ns.length c] w fun e w' => e = .returned (.pointer (some ⟨w.heap.size + 1 + 1 + 1 + 1, 0, none⟩)) ∧ Sc w' w.heap.size ga ha ns pos step σ ⟨0, false, 0, 0, 0⟩ ∧ Below w.heap.size w w' := by
  refine (new_sc ga pos step A c ns w hn hs).mono ?_
  rintro e w' ⟨rfl, h1, h2, _, h4⟩
  exact ⟨rfl, ⟨h1, H.step h4, h2, H.lt, hh⟩, h4⟩
section
variable (n ga ha : Nat) (ns : List Int) (pos step : Int) (σ : Ar) (s : Wk) (w : World) (H : Sc w n ga ha ns pos step σ s)
include H
theorem begin_at (x nd : Int) (s' : Wk) (b : Bool) (h1 : (s.first nd).take ns x = s') (h2 : (!s'.way) = b) : Calls Try.prog 57 #[.pointer (some ⟨n + 1 + 1 + 1 + 1, 0, none⟩), .int .i64 x, .int .i64 nd] w fun e w' => e = .returned (.bool b) ∧ Sc w' n ga ha ns pos step σ s' ∧ Mod [n + 1 + 1 + 1 + 1] w w' := by
  subst h1 h2
  refine (begin_wk _ _ _ _ s w H.1 x nd).mono ?_
  rintro e w' ⟨rfl, h1, h2⟩
  exact ⟨rfl, H.walk h1 h2, h2⟩
theorem step_at (s' : Wk) (σ' : Ar) (b : Bool) (ho : σ.ops ≤ 1000000) (p1 : -1000 ≤ pos) (p2 : pos ≤ 1000) (s1 : -1000 ≤ step) (s2 : step ≤ 1000) (hp : s.passed ≤ ns.length) (hl : s.way = true → 1 ≤ s.last ∧ s.last ≤ 4096) (h1 : s.next ns pos step σ = s') (h2 : stepA pos step σ s = σ') (h3 : (s.way && !s'.way) = b) :
    Calls Try.prog 56 #[.pointer (some ⟨n + 1 + 1 + 1 + 1, 0, none⟩)] w fun e w' => e = .returned (.bool b) ∧ Sc w' n ga ha ns pos step σ' s' ∧ Mod [n + 1 + 1 + 1 + 1, ga, ha] w w' := by
  subst h1 h2 h3
  exact step_sc n ga ha ns pos step σ s w H ho p1 p2 s1 s2 hp hl
theorem over_at (b : Bool) (h : (!s.way) = b) : Calls Try.prog 55 #[.pointer (some ⟨n + 1 + 1 + 1 + 1, 0, none⟩)] w fun e w' => e = .returned (.bool b) ∧ w' = w := by
  subst h
  exact over_wk _ _ _ _ s w H.1
theorem found_at (x : Int) (h : s.found = x) : Calls Try.prog 60 #[.pointer (some ⟨n + 1 + 1 + 1 + 1, 0, none⟩)] w fun e w' => e = .returned (.int .i64 x) ∧ w' = w := by
  subst h
  exact found_wk _ _ _ _ s w H.1
theorem lastw_at (x : Int) (h : s.last = x) : Calls Try.prog 61 #[.pointer (some ⟨n + 1 + 1 + 1 + 1, 0, none⟩)] w fun e w' => e = .returned (.int .i64 x) ∧ w' = w := by
  subst h
  exact lastw_wk _ _ _ _ s w H.1
theorem aops_at (x : Int) (h : (σ.ops : Int) = x) : Calls Try.prog 33 #[.pointer (some ⟨ga, 0, none⟩)] w fun e w' => e = .returned (.int .i64 x) ∧ w' = w := by
  subst h
  exact ops_any ga ha σ w H.2.1
end

set_option maxHeartbeats 8000000 in
set_option maxRecDepth 100000 in
theorem awake30 (w : World) : Calls Try.prog 51 #[] w fun e w' => e = .returned (.bool true) ∧ Below w.heap.size w w' := by
  go_enter Try.func51, Try.ntmps51
  go_wp2_with fail
  refine (laid_any [3, 1, 0] _ 3 _ (by decide) (Sl.made w #[.int .i64 3, .int .i64 1, .int .i64 0] 3)).mono ?_
  rintro e w2 ⟨rfl, ⟨ws, t, o, kd, ps, wr⟩, ρ, h2, hl1, hl2, hl3⟩
  simp only at hl1 hl2 hl3
  subst hl1 hl2 hl3
  have e0 : (w.alloc (.cells #[.int .i64 3, .int .i64 1, .int .i64 0] 3)).heap.size = w.heap.size + 1 := by simp
  rw [e0] at h2 ⊢
  have hA := h2.1
  have hB0 := (below_new w (.cells #[.int .i64 3, .int .i64 1, .int .i64 0] 3)).trans (h2.2.2.2.mono (by omega))
  have hzz : w.heap.size + 1 + 1 + 1 ≤ w2.heap.size := by have := lt_of_blk h2.2.1.2.2.2.2.2.choose_spec.1; omega
  clear h2 e0
  go_wp2_with fail
  have hA2 := hA.step (below_new w2 (.cells #[.int .i64 5, .int .i64 6, .int .i64 5] 3))
  have hB1 := hB0.trans ((below_new w2 (.cells #[.int .i64 5, .int .i64 6, .int .i64 5] 3)).mono (by omega))
  refine (news_at _ _ _ 1 1 _ 3 [5, 6, 5] _ hA2 (by simp; omega) (by decide) (Sl.made w2 #[.int .i64 5, .int .i64 6, .int .i64 5] 3)).mono ?_
  rintro e w3 ⟨rfl, hs3, hb3⟩
  have e1 : (w2.alloc (.cells #[.int .i64 5, .int .i64 6, .int .i64 5] 3)).heap.size = w2.heap.size + 1 := by simp
  rw [e1] at hs3 ⊢
  have hB := hB1.trans (hb3.mono (by rw [e1]; omega))
  have hz : w2.heap.size + 1 ≤ w3.heap.size := by have := hs3.1.lt; omega
  have hbz : w.heap.size ≤ w2.heap.size + 1 := by omega
  have HS := Lib.hid hs3
  clear hA hA2 hB0 hB1 hs3 hb3 e1
  generalize w2.heap.size + 1 = n at *
  go_wp2_with fail
  refine (over_at _ _ _ _ _ _ _ _ _ HS.out true rfl).mono ?_
  rintro e wx ⟨rfl, hwx⟩
  obtain rfl := hwx.symm
  go_wp2_with fail
  refine (begin_at _ _ _ _ _ _ _ _ _ HS.out 2 5 ⟨5, true, 1, 2, 0⟩ false rfl rfl).mono ?_
  rintro e w7 ⟨rfl, hs7, hm7⟩
  have hB := hB.trans (hm7.below (Nat.le_trans hbz hz) (by simp; omega))
  have hz := Nat.le_trans hz hm7.size
  have HS := Lib.hid hs7
  clear hs7 hm7
  go_wp2_with fail
  refine (over_at _ _ _ _ _ _ _ _ _ HS.out false rfl).mono ?_
  rintro e wx ⟨rfl, hwx⟩
  obtain rfl := hwx.symm
  go_wp2_with fail
  refine (lastw_at _ _ _ _ _ _ _ _ _ HS.out 2 rfl).mono ?_
  rintro e wx ⟨rfl, hwx⟩
  obtain rfl := hwx.symm
  go_wp2_with fail
  refine (step_at _ _ _ _ _ _ _ _ _ HS.out ⟨5, false, 1, 2, 1⟩ ⟨[3, 1, 0], 3, 4, 1, 2, false⟩ true (Nat.le_of_ble_eq_true rfl) (by decide) (by decide) (by decide) (by decide) (by decide) (by decide) rfl rfl rfl).mono ?_
  rintro e w7 ⟨rfl, hs7, hm7⟩
  have hB := hB.trans (hm7.below (Nat.le_trans hbz hz) (by simp; omega))
  have hz := Nat.le_trans hz hm7.size
  have HS := Lib.hid hs7
  clear hs7 hm7
  go_wp2_with fail
  refine (over_at _ _ _ _ _ _ _ _ _ HS.out true rfl).mono ?_
  rintro e wx ⟨rfl, hwx⟩
  obtain rfl := hwx.symm
  go_wp2_with fail
  refine (found_at _ _ _ _ _ _ _ _ _ HS.out 1 rfl).mono ?_
  rintro e wx ⟨rfl, hwx⟩
  obtain rfl := hwx.symm
  go_wp2_with fail
  refine (lastw_at _ _ _ _ _ _ _ _ _ HS.out 2 rfl).mono ?_
  rintro e wx ⟨rfl, hwx⟩
  obtain rfl := hwx.symm
  go_wp2_with fail
  refine (aops_at _ _ _ _ _ _ _ _ _ HS.out 4 rfl).mono ?_
  rintro e wx ⟨rfl, hwx⟩
  obtain rfl := hwx.symm
  go_wp2_with fail
  refine (begin_at _ _ _ _ _ _ _ _ _ HS.out 1 5 ⟨5, false, 0, 0, 1⟩ true rfl rfl).mono ?_
  rintro e w7 ⟨rfl, hs7, hm7⟩
  have hB := hB.trans (hm7.below (Nat.le_trans hbz hz) (by simp; omega))
  have hz := Nat.le_trans hz hm7.size
  have HS := Lib.hid hs7
  clear hs7 hm7
  go_wp2_with fail
  refine (found_at _ _ _ _ _ _ _ _ _ HS.out 1 rfl).mono ?_
  rintro e wx ⟨rfl, hwx⟩
  obtain rfl := hwx.symm
  go_wp2_with fail
  refine (lastw_at _ _ _ _ _ _ _ _ _ HS.out 0 rfl).mono ?_
  rintro e wx ⟨rfl, hwx⟩
  obtain rfl := hwx.symm
  go_wp2_with fail
  refine (begin_at _ _ _ _ _ _ _ _ _ HS.out 2 7 ⟨7, true, 1, 2, 0⟩ false rfl rfl).mono ?_
  rintro e w7 ⟨rfl, hs7, hm7⟩
  have hB := hB.trans (hm7.below (Nat.le_trans hbz hz) (by simp; omega))
  have hz := Nat.le_trans hz hm7.size
  have HS := Lib.hid hs7
  clear hs7 hm7
  go_wp2_with fail
  refine (step_at _ _ _ _ _ _ _ _ _ HS.out ⟨7, true, 2, 1, 0⟩ ⟨[3, 1, 0], 3, 5, 1, 2, false⟩ false (Nat.le_of_ble_eq_true rfl) (by decide) (by decide) (by decide) (by decide) (by decide) (by decide) rfl rfl rfl).mono ?_
  rintro e w7 ⟨rfl, hs7, hm7⟩
  have hB := hB.trans (hm7.below (Nat.le_trans hbz hz) (by simp; omega))
  have hz := Nat.le_trans hz hm7.size
  have HS := Lib.hid hs7
  clear hs7 hm7
  go_wp2_with fail
  refine (step_at _ _ _ _ _ _ _ _ _ HS.out ⟨7, true, 3, 3, 0⟩ ⟨[3, 1, 0], 3, 6, 1, 1, false⟩ false (Nat.le_of_ble_eq_true rfl) (by decide) (by decide) (by decide) (by decide) (by decide) (by decide) rfl rfl rfl).mono ?_
  rintro e w7 ⟨rfl, hs7, hm7⟩
  have hB := hB.trans (hm7.below (Nat.le_trans hbz hz) (by simp; omega))
  have hz := Nat.le_trans hz hm7.size
  have HS := Lib.hid hs7
  clear hs7 hm7
  go_wp2_with fail
  refine (step_at _ _ _ _ _ _ _ _ _ HS.out ⟨7, false, 3, 3, 0⟩ ⟨[3, 1, 0], 3, 7, 1, 3, false⟩ true (Nat.le_of_ble_eq_true rfl) (by decide) (by decide) (by decide) (by decide) (by decide) (by decide) rfl rfl rfl).mono ?_
  rintro e w7 ⟨rfl, hs7, hm7⟩
  have hB := hB.trans (hm7.below (Nat.le_trans hbz hz) (by simp; omega))
  have hz := Nat.le_trans hz hm7.size
  have HS := Lib.hid hs7
  clear hs7 hm7
  go_wp2_with fail
  refine (found_at _ _ _ _ _ _ _ _ _ HS.out 0 rfl).mono ?_
  rintro e wx ⟨rfl, hwx⟩
  obtain rfl := hwx.symm
  go_wp2_with fail
  refine (lastw_at _ _ _ _ _ _ _ _ _ HS.out 3 rfl).mono ?_
  rintro e wx ⟨rfl, hwx⟩
  obtain rfl := hwx.symm
  go_wp2_with fail
  refine (begin_at _ _ _ _ _ _ _ _ _ HS.out 4 5 ⟨5, false, 0, 0, 0⟩ true rfl rfl).mono ?_
  rintro e w7 ⟨rfl, hs7, hm7⟩
  have hB := hB.trans (hm7.below (Nat.le_trans hbz hz) (by simp; omega))
  have hz := Nat.le_trans hz hm7.size
  have HS := Lib.hid hs7
  clear hs7 hm7
  go_wp2_with fail
  refine (found_at _ _ _ _ _ _ _ _ _ HS.out 0 rfl).mono ?_
  rintro e wx ⟨rfl, hwx⟩
  obtain rfl := hwx.symm
  go_wp2_with fail
  go_ret
  exact ⟨rfl, hB⟩
end Go.Proofs.Ytfdcojhgpfmloaa.Ara
