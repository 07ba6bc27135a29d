/- Package scan: a walk along a row of things. -/
import Derived.Test.YtfdcojhgpfmloaaAta
import Derived.Test.YtfdcojhgpfmloaaKeep
namespace Go.Proofs.Ytfdcojhgpfmloaa.Ara
open Go.RowKit

def vL (l : List Int) : Array Value := (l.map (Value.int .i64)).toArray
structure Wk where
  node : Int
  way : Bool
  passed : Nat
  last : Int
  found : Int
  deriving DecidableEq
def wkCells (fv : Value) (A : Option Addr) (n : Nat) (s : Wk) : Array Value := #[fv, .slice A n n, .int .i64 s.node, .bool s.way, .int .i64 s.passed, .int .i64 s.last, .int .i64 s.found]
/-- A walk in memory: its struct at g, the nodes at h; fv is behind. -/
def WkAt (W : World) (g h : Nat) (fv : Value) (ns : List Int) (s : Wk) : Prop :=
  ns.length ≤ 4096 ∧ ∃ A, W.heap[g]? = some (.cells (wkCells fv A ns.length s) 97 (0, 0)) ∧
    (ns = [] ∨ (A = some ⟨h, 0, none⟩ ∧ h ≠ g ∧ W.heap[h]? = some (.cells (vL ns) 3 (0, 0))))
theorem WkAt.lt {W : World} {g h : Nat} {fv : Value} {ns : List Int} {s : Wk} (k : WkAt W g h fv ns s) : g < W.heap.size := by
  obtain ⟨_, A, h1, _⟩ := k
  exact lt_of_blk h1
theorem WkAt.mod {S : List Nat} {W W' : World} {g h : Nat} {fv : Value} {ns : List Int} {s : Wk} (k : WkAt W g h fv ns s) (hm : Mod S W W') (hg : g ∉ S) (hh : h ∉ S) : WkAt W' g h fv ns s := by
  obtain ⟨h1, A, h2, h3⟩ := k
  refine ⟨h1, A, hm.blk h2 hg, ?_⟩
  rcases h3 with h3 | ⟨a, b, c⟩
  · exact .inl h3
  · exact .inr ⟨a, b, hm.blk c hh⟩
theorem WkAt.step {W W' : World} {g h : Nat} {fv : Value} {ns : List Int} {s : Wk} (k : WkAt W g h fv ns s) (hb : Below W.heap.size W W') : WkAt W' g h fv ns s := k.mod (S := []) (Mod.of_below hb) (by simp) (by simp)
theorem WkAt.put {W W' : World} {g h : Nat} {fv : Value} {ns : List Int} {s s' : Wk} {A0 : Option Addr} (k : WkAt W g h fv ns s) (hm : Mod [g] W W') (h0 : W.cell? ⟨g, 1, none⟩ = some (.slice A0 ns.length ns.length))
    (hb : W'.heap[g]? = some (.cells (wkCells fv A0 ns.length s') 97 (0, 0))) : WkAt W' g h fv ns s' := by
  obtain ⟨h1, A, h2, h3⟩ := k
  have := blk_cell h2 1 (by simp [wkCells])
  rw [h0] at this
  simp [wkCells] at this
  subst this
  refine ⟨h1, A0, hb, ?_⟩
  rcases h3 with h3 | ⟨a, b, c⟩
  · exact .inl h3
  · exact .inr ⟨a, b, hm.blk c (by simp; exact b)⟩
theorem WkAt.heads {W : World} {g h : Nat} {fv : Value} {ns : List Int} {s : Wk} (k : WkAt W g h fv ns s) : ∃ A, W.heap[g]? = some (.cells (wkCells fv A ns.length s) 97 (0, 0)) ∧ W.cell? ⟨g, 0, none⟩ = some fv ∧ W.cell? ⟨g, 1, none⟩ = some (.slice A ns.length ns.length) ∧
    W.cell? ⟨g, 2, none⟩ = some (.int .i64 s.node) ∧ W.cell? ⟨g, 3, none⟩ = some (.bool s.way) ∧ W.cell? ⟨g, 4, none⟩ = some (.int .i64 s.passed) ∧ W.cell? ⟨g, 5, none⟩ = some (.int .i64 s.last) ∧ W.cell? ⟨g, 6, none⟩ = some (.int .i64 s.found) ∧
    (∀ i, W.frozen? ⟨g, i, none⟩ = false) ∧ ∀ j, j < ns.length → ∃ _ : A = some ⟨h, 0, none⟩, W.cell? ⟨h, j, none⟩ = some (.int .i64 (ns.getD j 0)) := by
  obtain ⟨h1, A, h2, h3⟩ := k
  refine ⟨A, h2, blk_cell h2 0 (by simp [wkCells]), blk_cell h2 1 (by simp [wkCells]), blk_cell h2 2 (by simp [wkCells]), blk_cell h2 3 (by simp [wkCells]), blk_cell h2 4 (by simp [wkCells]), blk_cell h2 5 (by simp [wkCells]), blk_cell h2 6 (by simp [wkCells]), fun i => blk_free h2 i, fun j hj => ?_⟩
  rcases h3 with h3 | ⟨a, b, c⟩
  · rw [h3] at hj; simp at hj
  · refine ⟨a, ?_⟩
    rw [blk_cell c j (by simpa [vL] using hj)]
    simp [vL, hj]

def Wk.take (ns : List Int) (s : Wk) (x : Int) : Wk :=
  if x < 1 ∨ (ns.length : Int) < x ∨ s.passed = ns.length then { s with way := false }
  else if ns.getD (x - 1).toNat 0 = s.node then { s with way := false, found := x }
  else { s with way := true, last := x, passed := s.passed + 1 }
theorem Wk.take_le {ns : List Int} {s : Wk} {x : Int} (h : s.passed ≤ ns.length) : (s.take ns x).passed ≤ ns.length := by
  unfold Wk.take
  split
  · exact h
  · split
    · exact h
    · show s.passed + 1 ≤ ns.length
      omega

theorem is_nil (x : Int) (w : World) : Calls Try.prog 107 #[.pointer none, .int .i64 x] w fun e w' => e = .returned (.bool false) ∧ w' = w := by
  go_enter Try.func107, Try.ntmps107
  go_wp2_with fail
  go_ret
  exact ⟨rfl, rfl⟩
section
variable (g h : Nat) (fv : Value) (ns : List Int) (s : Wk) (w : World) (H : WkAt w g h fv ns s)
include H
theorem is_no (x : Int) (hx : x < 1 ∨ (ns.length : Int) < x) : Calls Try.prog 107 #[.pointer (some ⟨g, 0, none⟩), .int .i64 x] w fun e w' => e = .returned (.bool false) ∧ w' = w := by
  obtain ⟨A, _, _, c1, _⟩ := H.heads
  have hl := H.1
  clear H
  by_cases h0 : x < 1
  · go_enter Try.func107, Try.ntmps107
    go_wp2_with fail
    go_ret
    exact ⟨rfl, rfl⟩
  · have h1 : (ns.length : Int) < x := by omega
    have e1 : decide (x ≤ (ns.length : Int)) = false := by simp; omega
    have e2 : decide ((1 : Int) ≤ x) = true := by simp; omega
    go_enter Try.func107, Try.ntmps107
    go_wp2_with fail
    go_ret
    exact ⟨rfl, rfl⟩
theorem is_yes (x : Int) (h1 : 1 ≤ x) (h2 : x ≤ (ns.length : Int)) : Calls Try.prog 107 #[.pointer (some ⟨g, 0, none⟩), .int .i64 x] w fun e w' => e = .returned (.bool true) ∧ w' = w := by
  obtain ⟨A, _, _, c1, _⟩ := H.heads
  have hl := H.1
  clear H
  have e1 : decide (x ≤ (ns.length : Int)) = true := by simp; omega
  have e2 : decide ((1 : Int) ≤ x) = true := by simp; omega
  go_enter Try.func107, Try.ntmps107
  go_wp2_with fail
  go_ret
  exact ⟨rfl, rfl⟩
set_option maxHeartbeats 4000000 in
set_option maxRecDepth 100000 in
theorem take_wk (hp : s.passed ≤ ns.length) (x : Int) : Calls Try.prog 92 #[.pointer (some ⟨g, 0, none⟩), .int .i64 x] w fun e w' => e = .returned (.bool (!(s.take ns x).way)) ∧ WkAt w' g h fv ns (s.take ns x) ∧ Mod [g] w w' := by
  obtain ⟨A, hb, c0, c1, c2, c3, c4, c5, c6, fz, hc⟩ := H.heads
  have hl := H.1
  have f3 := fz 3
  have f4 := fz 4
  have f5 := fz 5
  have f6 := fz 6
  have b0 : (ns.length : Int) ≤ 4096 := by omega
  by_cases hx : x < 1 ∨ (ns.length : Int) < x
  · have ht : s.take ns x = { s with way := false } := by unfold Wk.take; rw [if_pos (by omega)]
    rw [ht]
    have hm : Mod [g] w (w.setCell ⟨g, 3, none⟩ (.bool false)) := (Mod.refl _ _).setCell (by simp) _
    have HT := Lib.hid (H.put (s' := { s with way := false }) hm c1 (blk_set hb 3 (.bool false)))
    have HN := Lib.hid (fun m => is_no g h fv ns s (w.drewN m) H x hx)
    clear H hm hb hc fz ht hx
    go_enter Try.func92, Try.ntmps92
    go_wp2_with fail
    go_quiet ((go_at_call 107; exact Calls.quiet_of_same (HN.out _)))
    go_wp2_with fail
    go_ret
    exact ⟨rfl, HT.out, ((Mod.refl _ _).drewN _).setCell (by simp) _⟩
  obtain ⟨j, hj⟩ := Int.eq_ofNat_of_zero_le (show 0 ≤ x - 1 by omega)
  obtain rfl : x = (j : Int) + 1 := by omega
  clear hj
  have hjl : j < ns.length := by omega
  have HY := Lib.hid (fun m => is_yes g h fv ns s (w.drewN m) H ((j : Int) + 1) (by omega) (by omega))
  by_cases hpn : s.passed = ns.length
  · have ht : s.take ns ((j : Int) + 1) = { s with way := false } := by unfold Wk.take; rw [if_pos (by omega)]
    rw [ht]
    have hm : Mod [g] w (w.setCell ⟨g, 3, none⟩ (.bool false)) := (Mod.refl _ _).setCell (by simp) _
    have HT := Lib.hid (H.put (s' := { s with way := false }) hm c1 (blk_set hb 3 (.bool false)))
    have e1 := nbeq hpn
    clear H hm hb hc fz ht hx hpn
    go_enter Try.func92, Try.ntmps92
    go_wp2_with fail
    go_quiet ((go_at_call 107; exact Calls.quiet_of_same (HY.out _)))
    go_wp2_with fail
    go_ret
    exact ⟨rfl, HT.out, ((Mod.refl _ _).drewN _).setCell (by simp) _⟩
  clear c0 c1 c2 c3 c4 c5 c6 hb hc
  have e1 := nbeq_no hpn
  have e2 : IntKind.i64.wrap ((j : Int) + 1 - 1) = (j : Int) := by rw [IntWalk.i64_in _ (by omega)]; omega
  have e3 : (j : Int) < (ns.length : Int) := by omega
  have e4 : (0 : Int) ≤ (j : Int) := by omega
  have e5 : IntKind.i64.wrap (j : Int) = (j : Int) := IntWalk.i64_in _ (by omega)
  have hpl : (s.passed : Int) ≤ 4096 := by omega
  have HH := Lib.hid H
  obtain ⟨A, _, _, c1, _, _, c4, _⟩ := H.heads
  by_cases hn : ns.getD j 0 = s.node
  · have HX := Lib.hid (show s.take ns ((j : Int) + 1) = { s with way := false, found := (j : Int) + 1 } by unfold Wk.take; rw [if_neg (by omega), show ((j : Int) + 1 - 1).toNat = j by omega, if_pos hn])
    have HN := Lib.hid hn
    clear H fz f3 f4 f5 f6 hx hpn hn
    rw [HX.out]
    go_enter Try.func92, Try.ntmps92
    go_wp2_with fail
    go_quiet ((go_at_call 107; exact Calls.quiet_of_same (HY.out _)))
    have HK := Lib.hid (show WkAt (w.drewN nq) g h fv ns s from HH.out)
    have HM := Lib.hid (show Mod [g] w (w.drewN nq) from (Mod.refl _ _).drewN nq)
    generalize w.drewN nq = w1 at *
    clear c1 c4
    obtain ⟨A, hb, _, c1, c2, c3, c4, c5, c6, fz, hc⟩ := HK.out.heads
    obtain ⟨hA, hcj⟩ := hc j hjl
    subst hA
    rw [HN.out] at hcj
    have e6 := ibeq (rfl : s.node = s.node)
    have f3 := fz 3
    have f6 := fz 6
    have hm : Mod [g] w1 ((w1.setCell ⟨g, 3, none⟩ (.bool false)).setCell ⟨g, 6, none⟩ (.int .i64 ((j : Int) + 1))) := ((Mod.refl _ _).setCell (by simp) _).setCell (by simp) _
    have HT := Lib.hid (HK.out.put (s' := { s with way := false, found := (j : Int) + 1 }) hm c1 (blk_set (blk_set hb 3 (.bool false)) 6 (.int .i64 ((j : Int) + 1))))
    clear hb hc fz hm
    go_wp2_with fail
    go_quiet (fail)
    go_wp2_with fail
    go_ret
    exact ⟨rfl, HT.out, HM.out.trans ((((Mod.refl _ _).drewN _).setCell (by simp) _).setCell (by simp) _)⟩
  · have HX := Lib.hid (show s.take ns ((j : Int) + 1) = { s with way := true, last := (j : Int) + 1, passed := s.passed + 1 } by unfold Wk.take; rw [if_neg (by omega), show ((j : Int) + 1 - 1).toNat = j by omega, if_neg hn])
    have HN := Lib.hid hn
    clear H fz f3 f4 f5 f6 hx hpn hn
    rw [HX.out]
    go_enter Try.func92, Try.ntmps92
    go_wp2_with fail
    go_quiet ((go_at_call 107; exact Calls.quiet_of_same (HY.out _)))
    have HK := Lib.hid (show WkAt (w.drewN nq) g h fv ns s from HH.out)
    have HM := Lib.hid (show Mod [g] w (w.drewN nq) from (Mod.refl _ _).drewN nq)
    generalize w.drewN nq = w1 at *
    clear c1 c4
    obtain ⟨A, hb, _, c1, c2, c3, c4, c5, c6, fz, hc⟩ := HK.out.heads
    obtain ⟨hA, hcj⟩ := hc j hjl
    subst hA
    have e6 := ibeq_no HN.out
    have f3 := fz 3
    have f4 := fz 4
    have f5 := fz 5
    have hm : Mod [g] w1 (((w1.setCell ⟨g, 3, none⟩ (.bool true)).setCell ⟨g, 5, none⟩ (.int .i64 ((j : Int) + 1))).setCell ⟨g, 4, none⟩ (.int .i64 ((s.passed : Int) + 1))) := (((Mod.refl _ _).setCell (by simp) _).setCell (by simp) _).setCell (by simp) _
    have HT := Lib.hid (HK.out.put (s' := { s with way := true, last := (j : Int) + 1, passed := s.passed + 1 }) hm c1 (blk_set (blk_set (blk_set hb 3 (.bool true)) 5 (.int .i64 ((j : Int) + 1))) 4 (.int .i64 ((s.passed : Int) + 1))))
    generalize ns.getD j 0 = y at *
    clear hb hc fz hm
    go_wp2_with fail
    go_quiet (fail)
    go_wp2_with fail
    go_ret
    exact ⟨rfl, HT.out, HM.out.trans (((((Mod.refl _ _).drewN _).setCell (by simp) _).setCell (by simp) _).setCell (by simp) _)⟩
end
end Go.Proofs.Ytfdcojhgpfmloaa.Ara
