/- The document's walk: take, Begin, Last, Step, New. -/
import Derived.Test.YtfdcojhgpfmloaaScan4
import Derived.Deep.RegionHeld3
namespace Go.Proofs.Ytfdcojhgpfmloaa.Ara
open Go.RowKit

theorem RkAt.slot {W : World} {g base gr : Nat} {pos step : Int} {An : Option Addr} {cn : Nat} {ns : List Int} {s : Rk} (k : RkAt W g base gr pos step An cn ns s) :
    ∃ A c, W.heap[g]? = some (.cells (rkCells gr pos step (.slice An ns.length cn) (.slice A s.ps.length c) s) 87 (0, 0)) ∧ W.cell? ⟨g, 0, none⟩ = some (.pointer (some ⟨gr, 0, none⟩)) ∧ W.cell? ⟨g, 1, none⟩ = some (.int .i64 pos) ∧ W.cell? ⟨g, 2, none⟩ = some (.int .i64 step) ∧
      W.cell? ⟨g, 3, none⟩ = some (.slice An ns.length cn) ∧ W.cell? ⟨g, 4, none⟩ = some (.int .i64 s.node) ∧ W.cell? ⟨g, 5, none⟩ = some (.bool s.way) ∧ W.cell? ⟨g, 6, none⟩ = some (.slice A s.ps.length c) ∧ W.cell? ⟨g, 7, none⟩ = some (.int .i64 s.found) ∧
      (∀ i, W.frozen? ⟨g, i, none⟩ = false) ∧ W.ownsRow base 3 1 (.slice A s.ps.length c) s.ps.length (s.ps.map vI) := by
  obtain ⟨h1, h2, h3, h4, h5, v, h6, h7⟩ := k
  obtain ⟨A, c, rfl, _⟩ := own_slice h7
  exact ⟨A, c, h6, blk_cell h6 0 (by simp [rkCells]), blk_cell h6 1 (by simp [rkCells]), blk_cell h6 2 (by simp [rkCells]), blk_cell h6 3 (by simp [rkCells]), blk_cell h6 4 (by simp [rkCells]), blk_cell h6 5 (by simp [rkCells]), blk_cell h6 6 (by simp [rkCells]), blk_cell h6 7 (by simp [rkCells]), fun i => blk_free h6 i, h7⟩
theorem RkAt.drewN {W : World} {g base gr : Nat} {pos step : Int} {An : Option Addr} {cn : Nat} {ns : List Int} {s : Rk} (k : RkAt W g base gr pos step An cn ns s) (n : Nat) : RkAt (W.drewN n) g base gr pos step An cn ns s := k
/-- Its struct turns, and its row. -/
theorem RkAt.turns {W W' : World} {g base gr : Nat} {pos step : Int} {An : Option Addr} {cn : Nat} {ns : List Int} {s s' : Rk} {v : Value} (k : RkAt W g base gr pos step An cn ns s) (hu : Upd base [g] W W') (hl : s'.ps.length ≤ ns.length)
    (hb : W'.heap[g]? = some (.cells (rkCells gr pos step (.slice An ns.length cn) v s') 87 (0, 0))) (ho : W'.ownsRow base 3 1 v s'.ps.length (s'.ps.map vI)) : RkAt W' g base gr pos step An cn ns s' := by
  obtain ⟨h1, h2, h3, h4, h5, _⟩ := k
  refine ⟨h1, Nat.le_trans h2 hu.size, hl, h4, ?_, v, hb, ho⟩
  exact h5.below (hu.below (by omega) (by simp))
theorem RkAt.node {W : World} {g base gr : Nat} {pos step : Int} {An : Option Addr} {cn : Nat} {ns : List Int} {s : Rk} (k : RkAt W g base gr pos step An cn ns s) (q : Nat) (hq : q < ns.length) : ∃ b off, An = some ⟨b, off, none⟩ ∧ W.cell? ⟨b, off + q, none⟩ = some (.int .i64 (ns.getD q 0)) := by
  obtain ⟨_, _, _, _, h5, _⟩ := k
  obtain ⟨b, off, h1, _, h2⟩ := h5.at_ (by rw [List.length_map]; omega)
  refine ⟨b, off, h1, ?_⟩
  rw [h2 q (by simpa using hq)]
  simp [hq]
section
variable (g base gr : Nat) (pos step : Int) (An : Option Addr) (cn : Nat) (ns : List Int) (s : Rk) (w : World) (H : RkAt w g base gr pos step An cn ns s)
include H
set_option maxHeartbeats 4000000 in
set_option maxRecDepth 100000 in
theorem rtake30 (x : Int) : Calls Try.prog 93 #[.pointer (some ⟨g, 0, none⟩), .int .i64 x] w fun e w' => e = .returned (.bool (!(s.take ns x).way)) ∧ RkAt w' g base gr pos step An cn ns (s.take ns x) ∧ Upd base [g] w w' := by
  by_cases hx1 : x < 1
  · have HX := Lib.hid (show s.take ns x = { s with way := false } by unfold Rk.take; rw [if_pos (by omega)])
    rw [HX.out]
    have HH := Lib.hid H
    obtain ⟨A, c, hb, c0, c1, c2, c3, c4, c5, c6, c7, fz, hown⟩ := H.slot
    have f5 := fz 5
    have hg := H.1
    have hlp := H.2.2.1
    have hln := H.2.2.2.1
    have hbz := H.2.1
    have HB := Lib.hid hb
    have HW := Lib.hid hown
    clear H hb hown fz
    go_enter Try.func93, Try.ntmps93
    go_wp2_with fail
    go_quiet (fail)
    have hu : Upd base [g] w (((w.drewN nq).setCell ⟨g, 5, none⟩ (.bool false))) := ((Upd.refl _ _ _).drewN _).setCell (.inl (by simp)) _
    have HF := Lib.hid (HH.out.turns (s' := { s with way := false }) hu hlp (blk_set (show (w.drewN nq).heap[g]? = _ from HB.out) 5 (.bool false)) (ownsRow_setCell_below (show (w.drewN nq).ownsRow _ _ _ _ _ _ from HW.out) hg _))
    go_wp2_with fail
    go_ret
    exact ⟨rfl, HF.out, hu⟩
  by_cases hx2 : (ns.length : Int) < x
  · have HX := Lib.hid (show s.take ns x = { s with way := false } by unfold Rk.take; rw [if_pos (by omega)])
    rw [HX.out]
    have HH := Lib.hid H
    obtain ⟨A, c, hb, c0, c1, c2, c3, c4, c5, c6, c7, fz, hown⟩ := H.slot
    have f5 := fz 5
    have hg := H.1
    have hlp := H.2.2.1
    have hln := H.2.2.2.1
    have hbz := H.2.1
    have HB := Lib.hid hb
    have HW := Lib.hid hown
    clear H hb hown fz
    have e1 : decide (x < 1) = false := by simp; omega
    have e2 : decide ((ns.length : Int) < x) = true := by simp; omega
    go_enter Try.func93, Try.ntmps93
    go_wp2_with fail
    go_quiet (fail)
    have hu : Upd base [g] w (((w.drewN nq).setCell ⟨g, 5, none⟩ (.bool false))) := ((Upd.refl _ _ _).drewN _).setCell (.inl (by simp)) _
    have HF := Lib.hid (HH.out.turns (s' := { s with way := false }) hu hlp (blk_set (show (w.drewN nq).heap[g]? = _ from HB.out) 5 (.bool false)) (ownsRow_setCell_below (show (w.drewN nq).ownsRow _ _ _ _ _ _ from HW.out) hg _))
    go_wp2_with fail
    go_ret
    exact ⟨rfl, HF.out, hu⟩
  obtain ⟨j, hj⟩ := Int.eq_ofNat_of_zero_le (show 0 ≤ x - 1 by omega)
  obtain rfl : x = (j : Int) + 1 := by omega
  clear hj
  have hjl : j < ns.length := by omega
  by_cases hpn : s.ps.length = ns.length
  · have HX := Lib.hid (show s.take ns ((j : Int) + 1) = { s with way := false } by unfold Rk.take; rw [if_pos (by omega)])
    rw [HX.out]
    have HH := Lib.hid H
    obtain ⟨A, c, hb, c0, c1, c2, c3, c4, c5, c6, c7, fz, hown⟩ := H.slot
    have f5 := fz 5
    have hg := H.1
    have hlp := H.2.2.1
    have hln := H.2.2.2.1
    have hbz := H.2.1
    have HB := Lib.hid hb
    have HW := Lib.hid hown
    clear H hb hown fz
    have e1 : decide ((j : Int) + 1 < 1) = false := by simp; omega
    have e2 : decide ((ns.length : Int) < (j : Int) + 1) = false := by simp; omega
    have e3 := nbeq hpn
    have hx3 : (j : Int) + 1 ≤ (ns.length : Int) := by omega
    clear hpn hx1 hx2
    go_enter Try.func93, Try.ntmps93
    go_wp2_with fail
    go_quiet (fail)
    have hu : Upd base [g] w (((w.drewN nq).setCell ⟨g, 5, none⟩ (.bool false))) := ((Upd.refl _ _ _).drewN _).setCell (.inl (by simp)) _
    have HF := Lib.hid (HH.out.turns (s' := { s with way := false }) hu hlp (blk_set (show (w.drewN nq).heap[g]? = _ from HB.out) 5 (.bool false)) (ownsRow_setCell_below (show (w.drewN nq).ownsRow _ _ _ _ _ _ from HW.out) hg _))
    go_wp2_with fail
    go_ret
    exact ⟨rfl, HF.out, hu⟩
  have hx3 : (j : Int) + 1 ≤ (ns.length : Int) := by omega
  have hx4 : (j : Int) < (ns.length : Int) := by omega
  have hx5 : (0 : Int) ≤ (j : Int) := by omega
  have hlp := H.2.2.1
  have hln := H.2.2.2.1
  have hl0 : (ns.length : Int) ≤ 4096 := by omega
  have e1 : decide ((j : Int) + 1 < 1) = false := by simp; omega
  have e2 : decide ((ns.length : Int) < (j : Int) + 1) = false := by simp; omega
  have e3 := nbeq_no hpn
  have e4 : IntKind.i64.wrap ((j : Int) + 1 - 1) = (j : Int) := by rw [IntWalk.i64_in _ (by omega)]; omega
  have e5 : IntKind.i64.wrap (j : Int) = (j : Int) := IntWalk.i64_in _ (by omega)
  have e6 : (j : Int).toNat = j := by omega
  have hg := H.1
  have hbz := H.2.1
  have HH := Lib.hid H
  obtain ⟨A, c, _, _, _, _, c3, _, _, c6, _⟩ := H.slot
  by_cases hn : ns.getD j 0 = s.node
  · have HX := Lib.hid (show s.take ns ((j : Int) + 1) = { s with way := false, found := (j : Int) + 1 } by unfold Rk.take; rw [if_neg (by omega), show ((j : Int) + 1 - 1).toNat = j by omega, if_pos hn])
    rw [HX.out]
    have HN := Lib.hid hn
    have e7 := ibeq (rfl : s.node = s.node)
    clear H hpn hx1 hx2 hn
    go_enter Try.func93, Try.ntmps93
    go_wp2_with fail
    go_quiet (fail)
    have HK := Lib.hid (HH.out.drewN nq)
    have hu0 : Upd base [g] w (w.drewN nq) := (Upd.refl _ _ _).drewN nq
    generalize w.drewN nq = w1 at *
    clear c3 c6
    obtain ⟨A, c, hb, _, _, _, c3, c4, c5, c6, c7, fz, hown⟩ := HK.out.slot
    obtain ⟨bn, on, rfl, hcn⟩ := HK.out.node j hjl
    rw [HN.out] at hcn
    have f5 := fz 5
    have f7 := fz 7
    have HB := Lib.hid hb
    have HW := Lib.hid hown
    clear hb hown fz
    go_wp2_with fail
    go_quiet (fail)
    have hu : Upd base [g] w1 (((w1.drewN nq).setCell ⟨g, 5, none⟩ (.bool false)).setCell ⟨g, 7, none⟩ (.int .i64 ((j : Int) + 1))) := (((Upd.refl _ _ _).drewN _).setCell (.inl (by simp)) _).setCell (.inl (by simp)) _
    have HF := Lib.hid (HK.out.turns (s' := { s with way := false, found := (j : Int) + 1 }) hu hlp (blk_set (blk_set (show (w1.drewN nq).heap[g]? = _ from HB.out) 5 (.bool false)) 7 (.int .i64 ((j : Int) + 1))) (ownsRow_setCell_below (ownsRow_setCell_below (show (w1.drewN nq).ownsRow _ _ _ _ _ _ from HW.out) hg _) hg _))
    go_wp2_with fail
    go_ret
    exact ⟨rfl, HF.out, hu0.trans hu⟩
  · have HX := Lib.hid (show s.take ns ((j : Int) + 1) = { s with way := true, ps := s.ps ++ [(j : Int) + 1] } by unfold Rk.take; rw [if_neg (by omega), show ((j : Int) + 1 - 1).toNat = j by omega, if_neg hn])
    rw [HX.out]
    have HN := Lib.hid hn
    clear H hx1 hx2 hn
    go_enter Try.func93, Try.ntmps93
    go_wp2_with fail
    go_quiet (fail)
    have HK := Lib.hid (HH.out.drewN nq)
    have hu0 : Upd base [g] w (w.drewN nq) := (Upd.refl _ _ _).drewN nq
    have hbz1 : base ≤ (w.drewN nq).heap.size := hbz
    generalize w.drewN nq = w1 at *
    clear c3 c6
    obtain ⟨A, c, hb, _, _, _, c3, c4, c5, c6, _, fz, hown⟩ := HK.out.slot
    obtain ⟨bn, on, rfl, hcn⟩ := HK.out.node j hjl
    have e7 := ibeq_no HN.out
    have f5 := fz 5
    have f6 := fz 6
    have HB := Lib.hid hb
    have HW := Lib.hid hown
    generalize ns.getD j 0 = y at *
    clear hb hown fz HX
    go_wp2_with fail
    go_quiet (fail)
    have HB2 := Lib.hid (show (w1.drewN nq).heap[g]? = _ from HB.out)
    have HW2 := Lib.hid (show (w1.drewN nq).ownsRow _ _ _ _ _ _ from HW.out)
    have HK2 := Lib.hid (HK.out.drewN nq)
    have hu1 : Upd base [g] w (w1.drewN nq) := hu0.trans ((Upd.refl _ _ _).drewN nq)
    have hbz2 : base ≤ (w1.drewN nq).heap.size := hbz1
    have c5 := (show (w1.drewN nq).cell? _ = _ from c5)
    have c6 := (show (w1.drewN nq).cell? _ = _ from c6)
    have f5 := (show (w1.drewN nq).frozen? _ = _ from f5)
    have f6 := (show (w1.drewN nq).frozen? _ = _ from f6)
    generalize w1.drewN nq = w2 at *
    have hownS : (w2.setCell ⟨g, 5, none⟩ (.bool true)).ownsRow base 3 1 (.slice A s.ps.length c) s.ps.length (s.ps.map vI) := ownsRow_setCell_below HW2.out hg _
    have c6S : (w2.setCell ⟨g, 5, none⟩ (.bool true)).cell? ⟨g, 6, none⟩ = some (.slice A s.ps.length c) := by rw [World.cell?_setCell_other]; exact c6; simp
    have huS : Upd base [g] w2 (w2.setCell ⟨g, 5, none⟩ (.bool true)) := (Upd.refl _ _ _).setCell (.inl (by simp)) _
    have hbS : (w2.setCell ⟨g, 5, none⟩ (.bool true)).heap[g]? = _ := blk_set HB2.out 5 (.bool true)
    have f6S : (w2.setCell ⟨g, 5, none⟩ (.bool true)).frozen? ⟨g, 6, none⟩ = false := blk_free hbS 6
    have HBS := Lib.hid hbS
    have hzS : base ≤ (w2.setCell ⟨g, 5, none⟩ (.bool true)).heap.size := by simpa [World.setCell] using hbz2
    clear hbS HB HW HK c3 hcn
    have hps1 : s.ps.length + 1 ≤ ns.length := by omega
    clear hpn
    go_wp2_with (at_builtin; refine wpList_append1 (.tmp 59) (.tmp 61) 63 3 _ 1 8 rfl rfl Try.underlying63 infoI rfl (by decide) base _ _ _ _ _ _ _ _ hownS rfl rfl ?cg rfl ?d1 ?d2 ?d3 ?d4 ?ck; case' ck => intro v' w3 hown3 hb3 _; have q6 := (hb3.cell (p := ⟨g, 6, none⟩) hg).trans c6S; have r6 := (hb3.frozen (p := ⟨g, 6, none⟩) hg).trans f6S; obtain ⟨A3, c3, rfl, _, _, _⟩ := own_slice hown3)
    case cg => first | rfl | simp
    case d1 => simp [Value.oneCell']
    case d2 => simp only [maxLen]; omega
    case d3 => omega
    try (case d4 => exact hzS)
    have HF := HK2.out.turns (s' := { s with way := true, ps := s.ps ++ [(j : Int) + 1] }) ((huS.trans (Upd.of_below hb3)).setCell (p := ⟨g, 6, none⟩) (.inl (by simp)) (.slice A3 (s.ps.length + 1) c3)) (by simpa using hps1) (blk_set ((hb3.block g hg).trans HBS.out) 6 (.slice A3 (s.ps.length + 1) c3)) (by
      have := ownsRow_setCell_below hown3 (a := ⟨g, 6, none⟩) hg (.slice A3 (s.ps.length + 1) c3)
      simpa [vI] using this)
    go_ret
    exact ⟨rfl, HF, hu1.trans ((huS.trans (Upd.of_below hb3)).setCell (.inl (by simp)) _)⟩
theorem rlastw (hw : s.ps.length ≤ 4096) : Calls Try.prog 62 #[.pointer (some ⟨g, 0, none⟩)] w fun e w' => e = .returned (.int .i64 s.lastw) ∧ ∃ n, w' = w.drewN n := by
  obtain ⟨A, c, _, _, _, _, _, _, _, c6, _, _, hown⟩ := H.slot
  clear H
  unfold Rk.lastw
  by_cases h0 : s.ps.length = 0
  · have e0 : s.ps = [] := List.eq_nil_of_length_eq_zero h0
    rw [h0] at c6
    rw [e0]
    clear hown e0 h0 hw
    go_enter Try.func62, Try.ntmps62
    go_wp2_with fail
    go_ret
    exact ⟨rfl, 0, rfl⟩
  · obtain ⟨m, hm⟩ : ∃ m, s.ps.length = m + 1 := ⟨s.ps.length - 1, by omega⟩
    obtain ⟨A', c', h1, _, _, h2⟩ := own_slice hown
    rcases h2 with h2 | ⟨b, off, h3, _, h4⟩
    · simp at h2; simp [h2] at h0
    · injection h1 with h1 _ _
      subst h1 h3
      have g1 := h4 m (by simp; omega)
      have e1 : s.ps.getLastD 0 = s.ps[m]'(by omega) := by
        rw [List.getLastD_eq_getLast?, List.getLast?_eq_getElem?, List.getElem?_eq_getElem (by omega), Option.getD_some]
        congr 1
        omega
      rw [e1]
      simp only [List.getElem_map, vI] at g1
      generalize s.ps[m]'(by omega) = y at *
      have e2 := nbeq_no (show ¬ m + 1 = 0 by omega)
      have e3 : IntKind.i64.wrap ((m : Int) + 1 - 1) = (m : Int) := by rw [IntWalk.i64_in _ (by omega)]; omega
      have e4 : (m : Int) < (m : Int) + 1 := by omega
      have e5 : IntKind.i64.wrap (m : Int) = (m : Int) := IntWalk.i64_in _ (by omega)
      have e6 : (0 : Int) ≤ (m : Int) := by omega
      have e7 : (m : Int).toNat = m := by omega
      have e8 : ¬ (m : Int) + 1 = 0 := by omega
      rw [hm] at c6
      clear hown h0 hm h4 hw e1
      go_enter Try.func62, Try.ntmps62
      go_wp2_with fail
      go_quiet (fail)
      go_wp2_with fail
      go_ret
      exact ⟨rfl, _, rfl⟩
def Rk.first (s : Rk) (nd : Int) : Rk := ⟨nd, s.way, [], 0⟩
set_option maxRecDepth 100000 in
theorem rbegin30 (x nd : Int) : Calls Try.prog 58 #[.pointer (some ⟨g, 0, none⟩), .int .i64 x, .int .i64 nd] w fun e w' => e = .returned (.bool (!((s.first nd).take ns x).way)) ∧ RkAt w' g base gr pos step An cn ns ((s.first nd).take ns x) ∧ Upd base [g] w w' := by
  obtain ⟨A, c, hb, _, _, _, _, c4, _, c6, c7, fz, hown⟩ := H.slot
  have f4 := fz 4
  have f6 := fz 6
  have f7 := fz 7
  have hu : Upd base [g] w (((w.setCell ⟨g, 4, none⟩ (.int .i64 nd)).setCell ⟨g, 6, none⟩ (.slice none 0 0)).setCell ⟨g, 7, none⟩ (.int .i64 0)) := (((Upd.refl _ _ _).setCell (.inl (by simp)) _).setCell (.inl (by simp)) _).setCell (.inl (by simp)) _
  have HF := Lib.hid (H.turns (s' := s.first nd) hu (Nat.zero_le _) (blk_set (blk_set (blk_set hb 4 (.int .i64 nd)) 6 (.slice none 0 0)) 7 (.int .i64 0)) (World.ownsRow_nil _ _ _ _))
  have HC := Lib.hid (fun W K => rtake30 g base gr pos step An cn ns (s.first nd) W K x)
  generalize (s.first nd).take ns x = s2 at *
  clear H hb fz hown
  go_enter Try.func58, Try.ntmps58
  go_wp2_with fail
  refine (HC.out _ HF.out).mono ?_
  rintro e w2 ⟨rfl, h2, hu2⟩
  have H2 := Lib.hid h2
  clear h2
  go_wp2_with fail
  go_ret
  exact ⟨rfl, H2.out, hu.trans hu2⟩
end
def Rk.next (ns : List Int) (pos step : Int) (ρ : Rf) (s : Rk) : Rk := if s.way then s.take ns (ρ.get (pos + step * (s.lastw - 1))) else s
def stepR (pos step : Int) (ρ : Rf) (s : Rk) : Rf := if s.way then ρ.op 1 (pos + step * (s.lastw - 1)) false 0 else ρ
theorem mul_bd {a b : Int} (h1 : -1000 ≤ a) (h2 : a ≤ 1000) (h3 : 0 ≤ b) (h4 : b ≤ 5000) : -5000000 ≤ a * b ∧ a * b ≤ 5000000 := by
  have h : (a * b).natAbs ≤ 1000 * 5000 := by
    rw [Int.natAbs_mul]
    exact Nat.mul_le_mul (by omega) (by omega)
  omega
/-- The document's walk over its arena, whose row is v. -/
def Rs (W : World) (g base gr br : Nat) (v : Value) (pos step : Int) (An : Option Addr) (cn : Nat) (ns : List Int) (ρ : Rf) (s : Rk) : Prop :=
  RkAt W g base gr pos step An cn ns s ∧ RfV W gr br v ρ ∧ gr < g ∧ br ≤ g ∧ (∀ b, v.ownBlock = some b → b < g) ∧ (ns = [] ∨ ∀ b off, An = some ⟨b, off, none⟩ → b ≠ gr)
theorem Rs.turn {W W' : World} {g base gr br : Nat} {v : Value} {pos step : Int} {An : Option Addr} {cn : Nat} {ns : List Int} {ρ : Rf} {s s' : Rk} (k : Rs W g base gr br v pos step An cn ns ρ s) (h : RkAt W' g base gr pos step An cn ns s') (hu : Upd base [g] W W') : Rs W' g base gr br v pos step An cn ns ρ s' := by
  obtain ⟨k1, k2, k3, k4, k5, k6⟩ := k
  have hg := k1.1
  refine ⟨h, k2.upd hu (by omega) (by simp; omega) (fun b hb => ⟨by have := k5 b hb; omega, by have := k5 b hb; simp; omega⟩), k3, k4, k5, k6⟩
theorem Rs.load {W W' : World} {g base gr br : Nat} {v : Value} {pos step : Int} {An : Option Addr} {cn : Nat} {ns : List Int} {ρ ρ' : Rf} {s : Rk} (k : Rs W g base gr br v pos step An cn ns ρ s) (h : RfV W' gr br v ρ') (hm : Mod [gr] W W') : Rs W' g base gr br v pos step An cn ns ρ' s := by
  obtain ⟨k1, k2, k3, k4, k5, k6⟩ := k
  have hg := k1.1
  refine ⟨k1.mod (Upd.of_mod hm (Nat.le_refl _)) (by simp; omega) (k6.imp id (fun k6 x hx b off e => ?_)), h, k3, k4, k5, k6⟩
  simp at hx
  subst hx
  exact fun e2 => k6 b off e e2.symm
theorem Rs.drewN {W : World} {g base gr br : Nat} {v : Value} {pos step : Int} {An : Option Addr} {cn : Nat} {ns : List Int} {ρ : Rf} {s : Rk} (k : Rs W g base gr br v pos step An cn ns ρ s) (n : Nat) : Rs (W.drewN n) g base gr br v pos step An cn ns ρ s := k
section
variable (g base gr br : Nat) (v : Value) (pos step : Int) (An : Option Addr) (cn : Nat) (ns : List Int) (ρ : Rf) (s : Rk) (w : World) (H : Rs w g base gr br v pos step An cn ns ρ s)
include H
set_option maxHeartbeats 4000000 in
set_option maxRecDepth 100000 in
theorem rstep30 (ho : ρ.ops < 1000000) (p1 : -1000 ≤ pos) (p2 : pos ≤ 1000) (s1 : -1000 ≤ step) (s2 : step ≤ 1000) (hl : s.way = true → 1 ≤ s.lastw ∧ s.lastw ≤ 4096) :
    Calls Try.prog 59 #[.pointer (some ⟨g, 0, none⟩)] w fun e w' => e = .returned (.bool (s.way && !(s.next ns pos step ρ).way)) ∧ Rs w' g base gr br v pos step An cn ns (stepR pos step ρ s) (s.next ns pos step ρ) ∧ Upd base [g, gr] w w' := by
  unfold Rk.next stepR
  obtain ⟨A, c, _, c0, c1, c2, _, _, c5, _, _, _, _⟩ := H.1.slot
  cases hw : s.way
  · rw [hw] at c5
    have HH := Lib.hid H
    clear H hl hw c0 c1 c2
    rw [if_neg (by decide), if_neg (by decide), Bool.false_and]
    go_enter Try.func59, Try.ntmps59
    go_wp2_with fail
    go_ret
    exact ⟨rfl, HH.out, Upd.refl _ _ _⟩
  · rw [hw] at c5
    obtain ⟨l1, l2⟩ := hl hw
    have hlen : s.ps.length ≤ 4096 := by have := H.1.2.2.1; have := H.1.2.2.2.1; omega
    have HL := Lib.hid (fun n => rlastw g base gr pos step An cn ns s (w.drewN n) H.1 hlen)
    have HR := Lib.hid (fun W (K : Rs W g base gr br v pos step An cn ns ρ s) => rload_v gr br v ρ W K.2.1 (pos + step * (s.lastw - 1)) ho)
    have HT := Lib.hid (fun W (K : RkAt W g base gr pos step An cn ns s) => rtake30 g base gr pos step An cn ns s W K (ρ.get (pos + step * (s.lastw - 1))))
    have hg : gr < g := H.2.2.1
    have hgb := H.1.1
    have hbz := H.1.2.1
    have HH := Lib.hid H
    clear H hl hw hlen
    rw [if_pos rfl, if_pos rfl, Bool.true_and]
    obtain ⟨m1, m2⟩ := mul_bd s1 s2 (show 0 ≤ s.lastw - 1 by omega) (show s.lastw - 1 ≤ 5000 by omega)
    have e1 : IntKind.i64.wrap (s.lastw - 1) = s.lastw - 1 := IntWalk.i64_in _ (by omega)
    have e2 : IntKind.i64.wrap (step * (s.lastw - 1)) = step * (s.lastw - 1) := IntWalk.i64_in _ (by omega)
    have e3 : IntKind.i64.wrap (pos + step * (s.lastw - 1)) = pos + step * (s.lastw - 1) := IntWalk.i64_in _ (by omega)
    generalize s.lastw = y at *
    generalize ρ.get (pos + step * (y - 1)) = x at *
    generalize ρ.op 1 (pos + step * (y - 1)) false 0 = ρ2 at *
    generalize s.take ns x = s2' at *
    go_enter Try.func59, Try.ntmps59
    go_wp2_with fail
    go_region_held3 (fun V => V.cell? ⟨g, 0, none⟩ = some (.pointer (some ⟨gr, 0, none⟩)) ∧ V.cell? ⟨g, 1, none⟩ = some (.int .i64 pos) ∧ V.cell? ⟨g, 2, none⟩ = some (.int .i64 step))
      (first | exact ⟨c0, c1, c2⟩ | exact k3 | exact k2)
      (first
        | (go_at_call 62; refine (HL.out 1).mono ?_; rintro e w1 ⟨rfl, n1, rfl⟩)
        | (go_at_call 73; refine (HR.out _ (HH.out.drewN _)).mono ?_; rintro e w2 ⟨rfl, hv2, hm2⟩; have H2 := (HH.out.drewN _).load hv2 hm2; have k2 := And.intro (keepM hm2 (show (w.drewN _).cell? _ = _ from c0) (by simp; omega)) (And.intro (keepM hm2 (show (w.drewN _).cell? _ = _ from c1) (by simp; omega)) (keepM hm2 (show (w.drewN _).cell? _ = _ from c2) (by simp; omega))))
        | (go_at_call 93; refine (HT.out _ H2.1).mono ?_; rintro e w3 ⟨rfl, ht3, hu3⟩; have H3 := H2.turn ht3 hu3; obtain ⟨_, _, _, r0, r1, r2, _⟩ := ht3.slot; have k3 := And.intro r0 (And.intro r1 r2)))
    go_wp2_with fail
    go_ret
    exact ⟨rfl, H3, (((Upd.refl _ _ _).drewN _).trans ((Upd.of_mod hm2 hbz).sub (Nat.le_refl _) (by simp))).trans (hu3.sub (Nat.le_refl _) (by simp))⟩
end
theorem rnew30 (gr : Nat) (pos step : Int) (An : Option Addr) (cn : Nat) (ns : List Int) (w : World) (hn : ns.length ≤ 4096) (hs : Sl w w.heap.size An (ns.map (Value.int .i64))) :
    Calls Try.prog 54 #[.pointer (some ⟨gr, 0, none⟩), .int .i64 pos, .int .i64 step, .slice An ns.length cn] w fun e w' => e = .returned (.pointer (some ⟨w.heap.size, 0, none⟩)) ∧ RkAt w' w.heap.size (w.heap.size + 1) gr pos step An cn ns ⟨0, false, [], 0⟩ ∧ Below w.heap.size w w' := by
  have HS := Lib.hid (hs.below (below_new w (.cells #[.pointer (some ⟨gr, 0, none⟩), .int .i64 pos, .int .i64 step, .slice An ns.length cn, .int .i64 0, .bool false, .slice none 0 0, .int .i64 0] 87)))
  clear hs
  go_enter Try.func54, Try.ntmps54
  go_wp2_with fail
  go_ret
  exact ⟨rfl, ⟨by omega, by simp, by simp, hn, HS.out, .slice none 0 0, blk_new _ _, World.ownsRow_nil _ _ _ _⟩, below_new _ _⟩
end Go.Proofs.Ytfdcojhgpfmloaa.Ara
