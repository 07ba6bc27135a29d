/- Package scan: Begin, Step, Over, Found, Last, New. -/
import Derived.Test.YtfdcojhgpfmloaaScan1
import Derived.Test.YtfdcojhgpfmloaaCopy
namespace Go.Proofs.Ytfdcojhgpfmloaa.Ara
open Go.RowKit

def Wk.first (s : Wk) (node : Int) : Wk := ⟨node, s.way, 0, 0, 0⟩
theorem begin_nil (x n : Int) (w : World) : Calls Try.prog 57 #[.pointer none, .int .i64 x, .int .i64 n] w fun e w' => e = .returned (.bool true) ∧ w' = w := by
  go_enter Try.func57, Try.ntmps57
  go_wp2_with fail
  go_ret
  exact ⟨rfl, rfl⟩
theorem over_nil (w : World) : Calls Try.prog 55 #[.pointer none] w fun e w' => e = .returned (.bool true) ∧ w' = w := by
  go_enter Try.func55, Try.ntmps55
  go_wp2_with fail
  go_ret
  exact ⟨rfl, rfl⟩
theorem step_nil (w : World) : Calls Try.prog 56 #[.pointer none] w fun e w' => e = .returned (.bool false) ∧ w' = w := by
  go_enter Try.func56, Try.ntmps56
  go_wp2_with fail
  refine (over_nil _).mono ?_
  rintro e wx ⟨rfl, hwx⟩
  obtain rfl := hwx.symm
  go_wp2_with fail
  go_ret
  exact ⟨rfl, rfl⟩
theorem found_nil (w : World) : Calls Try.prog 60 #[.pointer none] w fun e w' => e = .returned (.int .i64 0) ∧ w' = w := by
  go_enter Try.func60, Try.ntmps60
  go_wp2_with fail
  go_ret
  exact ⟨rfl, rfl⟩
theorem lastw_nil (w : World) : Calls Try.prog 61 #[.pointer none] w fun e w' => e = .returned (.int .i64 0) ∧ w' = w := by
  go_enter Try.func61, Try.ntmps61
  go_wp2_with fail
  go_ret
  exact ⟨rfl, rfl⟩
section
variable (g h : Nat) (fv : Value) (ns : List Int) (s : Wk) (w : World) (H : WkAt w g h fv ns s)
include H
theorem over_wk : Calls Try.prog 55 #[.pointer (some ⟨g, 0, none⟩)] w fun e w' => e = .returned (.bool (!s.way)) ∧ w' = w := by
  obtain ⟨A, _, _, _, _, c3, _⟩ := H.heads
  clear H
  go_enter Try.func55, Try.ntmps55
  go_wp2_with fail
  go_ret
  exact ⟨rfl, rfl⟩
theorem found_wk : Calls Try.prog 60 #[.pointer (some ⟨g, 0, none⟩)] w fun e w' => e = .returned (.int .i64 s.found) ∧ w' = w := by
  obtain ⟨A, _, _, _, _, _, _, _, c6, _⟩ := H.heads
  clear H
  go_enter Try.func60, Try.ntmps60
  go_wp2_with fail
  go_ret
  exact ⟨rfl, rfl⟩
theorem lastw_wk : Calls Try.prog 61 #[.pointer (some ⟨g, 0, none⟩)] w fun e w' => e = .returned (.int .i64 s.last) ∧ w' = w := by
  obtain ⟨A, _, _, _, _, _, _, c5, _⟩ := H.heads
  clear H
  go_enter Try.func61, Try.ntmps61
  go_wp2_with fail
  go_ret
  exact ⟨rfl, rfl⟩
set_option maxRecDepth 100000 in
theorem begin_wk (x n : Int) : Calls Try.prog 57 #[.pointer (some ⟨g, 0, none⟩), .int .i64 x, .int .i64 n] w fun e w' => e = .returned (.bool (!((s.first n).take ns x).way)) ∧ WkAt w' g h fv ns ((s.first n).take ns x) ∧ Mod [g] w w' := by
  obtain ⟨A, hb, _, c1, c2, _, c4, c5, c6, fz, _⟩ := H.heads
  have f2 := fz 2
  have f4 := fz 4
  have f5 := fz 5
  have f6 := fz 6
  have hm : Mod [g] w ((((w.setCell ⟨g, 2, none⟩ (.int .i64 n)).setCell ⟨g, 4, none⟩ (.int .i64 0)).setCell ⟨g, 5, none⟩ (.int .i64 0)).setCell ⟨g, 6, none⟩ (.int .i64 0)) := ((((Mod.refl _ _).setCell (by simp) _).setCell (by simp) _).setCell (by simp) _).setCell (by simp) _
  have HT := Lib.hid (H.put (s' := s.first n) hm c1 (blk_set (blk_set (blk_set (blk_set hb 2 (.int .i64 n)) 4 (.int .i64 0)) 5 (.int .i64 0)) 6 (.int .i64 0)))
  have HM := Lib.hid hm
  have HC := Lib.hid (fun W K => take_wk g h fv ns (s.first n) W K (Nat.zero_le _) x)
  clear H hb fz hm
  generalize (s.first n).take ns x = s2 at *
  go_enter Try.func57, Try.ntmps57
  go_wp2_with fail
  refine (HC.out _ HT.out).mono ?_
  rintro e w2 ⟨rfl, h2, hm2⟩
  have H2 := Lib.hid h2
  clear h2
  go_wp2_with fail
  go_ret
  exact ⟨rfl, H2.out, HM.out.trans hm2⟩
end

/-- What a walk's function has captured: the arena, the first word, how far the next. -/
def ClAt (W : World) (n : Nat) (q : Option Addr) (pos step : Int) : Prop :=
  W.heap[n]? = some (.cells #[.pointer q] 48 (0, 0)) ∧ W.heap[n + 1]? = some (.cells #[.int .i64 pos] 3 (0, 0)) ∧ W.heap[n + 1 + 1]? = some (.cells #[.int .i64 step] 3 (0, 0))
theorem ClAt.mod {S : List Nat} {W W' : World} {n : Nat} {q : Option Addr} {pos step : Int} (k : ClAt W n q pos step) (hm : Mod S W W') (hS : ∀ x ∈ S, x < n ∨ n + 1 + 1 < x) : ClAt W' n q pos step :=
  ⟨hm.blk k.1 (fun e => by have := hS _ e; omega), hm.blk k.2.1 (fun e => by have := hS _ e; omega), hm.blk k.2.2 (fun e => by have := hS _ e; omega)⟩
def clF (n : Nat) : Value := .func (.func 91) #[] #[.pointer (some ⟨n, 0, none⟩), .pointer (some ⟨n + 1, 0, none⟩), .pointer (some ⟨n + 1 + 1, 0, none⟩)]
theorem mul_bound {a b : Int} (h1 : -1000 ≤ a) (h2 : a ≤ 1000) (h3 : 0 ≤ b) (h4 : b ≤ 5000) : -5000000 ≤ a * b ∧ a * b ≤ 5000000 := by
  have h : (a * b).natAbs ≤ 1000 * 5000 := by
    rw [Int.natAbs_mul]
    exact Nat.mul_le_mul (by omega) (by omega)
  omega
set_option maxRecDepth 100000 in
theorem behind_any (n ga ha : Nat) (σ : Ar) (pos step : Int) (w : World) (H : ArAt w ga ha σ) (K : ClAt w n (some ⟨ga, 0, none⟩) pos step) (ho : σ.ops ≤ 1000000) (p1 : -1000 ≤ pos) (p2 : pos ≤ 1000) (s1 : -1000 ≤ step) (s2 : step ≤ 1000) (x : Int) (x1 : 1 ≤ x) (x2 : x ≤ 5000) :
    Calls Try.prog 91 #[.int .i64 x, .pointer (some ⟨n, 0, none⟩), .pointer (some ⟨n + 1, 0, none⟩), .pointer (some ⟨n + 1 + 1, 0, none⟩)] w fun e w' => e = .returned (.int .i64 (σ.get (pos + step * (x - 1)))) ∧ ArAt w' ga ha (σ.op 1 (pos + step * (x - 1)) false 0) ∧ Mod [ga, ha] w w' := by
  obtain ⟨k1, k2, k3⟩ := K
  have c1 := blk_cell k1 0 (by simp)
  have c2 := blk_cell k2 0 (by simp)
  have c3 := blk_cell k3 0 (by simp)
  simp only [List.getElem_toArray, List.getElem_cons_zero] at c1 c2 c3
  have HH := Lib.hid H
  have hO := Lib.hid ho
  have hmb := mul_bound s1 s2 (show 0 ≤ x - 1 by omega) (show x - 1 ≤ 5000 by omega)
  obtain ⟨m1, m2⟩ := hmb
  clear k1 k2 k3 H ho
  go_enter Try.func91, Try.ntmps91
  go_wp2_with fail
  refine (load_any ga ha σ _ HH.out hO.out _).mono ?_
  rintro e w2 ⟨rfl, h2, hm2⟩
  go_wp2_with fail
  go_ret
  exact ⟨rfl, h2, hm2⟩
end Go.Proofs.Ytfdcojhgpfmloaa.Ara
