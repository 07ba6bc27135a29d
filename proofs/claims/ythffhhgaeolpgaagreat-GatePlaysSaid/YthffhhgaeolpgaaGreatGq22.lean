/- Merged texts: Ga2, Ga3. -/
import Derived.Test.YthffhhgaeolpgaaGreatGq21
import Derived.Deep.RegionHeld3
import Derived.RegionTactic
import Derived.BigRegion
set_option linter.unusedVariables false
/- Package gate: what comes of a pick. -/
namespace Go.Proofs.YthffhhgaeolpgaaGreat.Ga
open Go.RowKit Go.Proofs.YthffhhgaeolpgaaGreat.Ara Go.Proofs.YthffhhgaeolpgaaGreat.Lok Go.Proofs.YthffhhgaeolpgaaGreat.Fl


def gact (p : PK) (σ : Ar) (sp : List Sp) (t w : Int) : (Int × Int × Int) × Ar × List Sp :=
  if t < 0 ∨ (sp.length : Int) ≤ t then ((0, 0, 0), σ, sp)
  else if w = 0 then
    if gst (spOf sp t) = 1 ∨ gst (spOf sp t) = 3 then
      (if (doK p σ sp 0 t).1 then (if gst (spOf sp t) = 1 then (2, t, 1) else (4, t, 0)) else (0, t, 0), (doK p σ sp 0 t).2)
    else ((0, t, 0), σ, sp)
  else if w = 1 then (if (doK p σ sp 1 t).1 then (1, t, 0) else (5, t, 0), (doK p σ sp 1 t).2)
  else if w = 2 then (if (doK p σ sp 2 t).1 then (3, t, 0) else (5, t, 0), (doK p σ sp 2 t).2)
  else ((5, t, 0), σ, sp)
theorem gst_in (s : Sp) : gst s = 0 ∨ gst s = 1 ∨ gst s = 2 ∨ gst s = 3 := by unfold gst; repeat (first | split | simp)
section
variable {gg gf gl ga ha hs : Nat} {p : PK}
theorem ev_end {W w : World} {σ : Ar} {sp : List Sp} (k : GAt W gg gf gl ga ha hs p σ sp) {x : Nat} (hm : Mod [ga, ha, hs] w W) (hx : w.heap.size ≤ x) (hg : gg < w.heap.size ∧ gf < w.heap.size ∧ gl < w.heap.size ∧ ga < w.heap.size ∧ ha < w.heap.size ∧ hs < w.heap.size) {W' : World} (h : Mod [x] W W') :
    GAt W' gg gf gl ga ha hs p σ sp ∧ Mod [ga, ha, hs] w W' :=
  ⟨k.mod h (by simp; omega) (by simp; omega) (by simp; omega) (by simp; omega) (by simp; omega) (by simp; omega), ⟨h.os.trans hm.os, h.tape.trans hm.tape, h.output.trans hm.output, Nat.le_trans hm.size h.size, fun q hq hn => (h.block q (Nat.lt_of_lt_of_le hq hm.size) (by simp; omega)).trans (hm.block q hq hn)⟩⟩
variable {σ : Ar} {sp : List Sp} {w : World} (K : GAt w gg gf gl ga ha hs p σ sp)
include K
set_option maxHeartbeats 4000000 in
set_option maxRecDepth 100000 in
theorem do_out (t want : Int) (ht : t < 0 ∨ (sp.length : Int) ≤ t) : Calls Tryz.prog 32 #[.pointer (some ⟨gg, 0, none⟩), .agg #[.int .i64 t, .int .i64 want]] w fun e w' => e = .returned (gev 0 0 0) ∧ GAt w' gg gf gl ga ha hs p σ sp ∧ Mod [ga, ha, hs] w w' := by
  have hb1 : Below w.heap.size w (w.alloc (.cells #[.int .i64 t, .int .i64 want] 68)) := below_new _ _
  have hb2 : Below w.heap.size w ((w.alloc (.cells #[.int .i64 t, .int .i64 want] 68)).alloc (.cells #[.int .i64 0, .int .i64 0, .bool false, .int .i64 0] 65)) := hb1.alloc hb1.size _
  have HE := Lib.hid (show ((w.alloc (.cells #[.int .i64 t, .int .i64 want] 68)).alloc (.cells #[.int .i64 0, .int .i64 0, .bool false, .int .i64 0] 65)).heap[w.heap.size + 1]? = some (.cells #[.int .i64 0, .int .i64 0, .bool false, .int .i64 0] 65) from by simpa using blk_new (w.alloc (.cells #[.int .i64 t, .int .i64 want] 68)) (.cells #[.int .i64 0, .int .i64 0, .bool false, .int .i64 0] 65))
  have HP := Lib.hid (show ((w.alloc (.cells #[.int .i64 t, .int .i64 want] 68)).alloc (.cells #[.int .i64 0, .int .i64 0, .bool false, .int .i64 0] 65)).heap[w.heap.size]? = some (.cells #[.int .i64 t, .int .i64 want] 68) from (heap_alloc_old _ _ (by simp)).trans (blk_new _ _))
  have hK := K.same hb2
  have HT := Lib.hid (fun n => threads_g (hK.drewN n))
  have HK := Lib.hid hK
  have HG := Lib.hid K.blocks
  have HM := Lib.hid (Mod.of_below (S := [ga, ha, hs]) hb2)
  clear K hK hb1 hb2
  by_cases h0 : t < 0
  · clear HT ht
    have HT := Lib.hid trivial
    go_enter Tryz.func32, Tryz.ntmps32
    go_wp2_with fail
    go_quiet (fail)
    have HK2 := Lib.hid (HK.out.drewN nq)
    have HM2 := Lib.hid (HM.out.drewN nq)
    have HE2 := Lib.hid (show (((w.alloc (.cells #[.int .i64 t, .int .i64 want] 68)).alloc (.cells #[.int .i64 0, .int .i64 0, .bool false, .int .i64 0] 65)).drewN nq).heap[w.heap.size + 1]? = some (.cells #[.int .i64 0, .int .i64 0, .bool false, .int .i64 0] 65) from HE.out)
    have HP2 := Lib.hid (show (((w.alloc (.cells #[.int .i64 t, .int .i64 want] 68)).alloc (.cells #[.int .i64 0, .int .i64 0, .bool false, .int .i64 0] 65)).drewN nq).heap[w.heap.size]? = some (.cells #[.int .i64 t, .int .i64 want] 68) from HP.out)
    have HZ2 := Lib.hid (show w.heap.size ≤ (((w.alloc (.cells #[.int .i64 t, .int .i64 want] 68)).alloc (.cells #[.int .i64 0, .int .i64 0, .bool false, .int .i64 0] 65)).drewN nq).heap.size from HM2.out.size)
    clear HK HM HE HP HT
    generalize ((w.alloc (.cells #[.int .i64 t, .int .i64 want] 68)).alloc (.cells #[.int .i64 0, .int .i64 0, .bool false, .int .i64 0] 65)).drewN nq = W2 at *
    have c0 := blk_cell HP2.out 0 (by simp)
    have c1 := blk_cell HP2.out 1 (by simp)
    simp only [List.getElem_toArray, List.getElem_cons_zero, List.getElem_cons_succ] at c0 c1
    have d0 := blk_cell HE2.out 0 (by simp)
    have d1 := blk_cell HE2.out 1 (by simp)
    have d2 := blk_cell HE2.out 2 (by simp)
    have d3 := blk_cell HE2.out 3 (by simp)
    simp only [List.getElem_toArray, List.getElem_cons_zero, List.getElem_cons_succ] at d0 d1 d2 d3
    have f0 := blk_free HE2.out 0
    have f1 := blk_free HE2.out 1
    have f2 := blk_free HE2.out 2
    have f3 := blk_free HE2.out 3
    have k0 := blk_set HE2.out 0 (.int .i64 (0))
    have k1 := blk_set k0 1 (.int .i64 (0))
    have k2 := blk_set k1 2 (.bool false)
    have k3 := blk_set k2 3 (.int .i64 (0))
    have g0 := blk_cell k0 0 (by simp)
    have g1 := blk_cell k1 1 (by simp)
    have g2 := blk_cell k2 2 (by simp)
    have g3 := blk_cell k3 3 (by simp)
    simp at g0 g1 g2 g3
    clear k0 k1 k2 k3
    go_wp2_with fail
    refine bodyPost_ret (v := gev (0) (0) (0)) ?_ rfl ⟨rfl, ?_⟩
    · simp [gev, results, Tryz.results32, go_sem, g0, g1, g2, g3]
    · exact ev_end HK2.out HM2.out (x := w.heap.size + 1) (Nat.le_succ _) HG.out (((((Mod.refl [w.heap.size + 1] _).setCell (by simp) _).setCell (by simp) _).setCell (by simp) _).setCell (by simp) _)
  · have h1 : (sp.length : Int) ≤ t := by omega
    have h2 : decide (t < 0) = false := decide_eq_false h0
    clear ht
    go_enter Tryz.func32, Tryz.ntmps32
    go_wp2_with fail
    go_quiet ((go_at_call 38; exact Calls.quiet_of_same (HT.out _)))
    have HK2 := Lib.hid (HK.out.drewN nq)
    have HM2 := Lib.hid (HM.out.drewN nq)
    have HE2 := Lib.hid (show (((w.alloc (.cells #[.int .i64 t, .int .i64 want] 68)).alloc (.cells #[.int .i64 0, .int .i64 0, .bool false, .int .i64 0] 65)).drewN nq).heap[w.heap.size + 1]? = some (.cells #[.int .i64 0, .int .i64 0, .bool false, .int .i64 0] 65) from HE.out)
    have HP2 := Lib.hid (show (((w.alloc (.cells #[.int .i64 t, .int .i64 want] 68)).alloc (.cells #[.int .i64 0, .int .i64 0, .bool false, .int .i64 0] 65)).drewN nq).heap[w.heap.size]? = some (.cells #[.int .i64 t, .int .i64 want] 68) from HP.out)
    have HZ2 := Lib.hid (show w.heap.size ≤ (((w.alloc (.cells #[.int .i64 t, .int .i64 want] 68)).alloc (.cells #[.int .i64 0, .int .i64 0, .bool false, .int .i64 0] 65)).drewN nq).heap.size from HM2.out.size)
    clear HK HM HE HP HT
    generalize ((w.alloc (.cells #[.int .i64 t, .int .i64 want] 68)).alloc (.cells #[.int .i64 0, .int .i64 0, .bool false, .int .i64 0] 65)).drewN nq = W2 at *
    have c0 := blk_cell HP2.out 0 (by simp)
    have c1 := blk_cell HP2.out 1 (by simp)
    simp only [List.getElem_toArray, List.getElem_cons_zero, List.getElem_cons_succ] at c0 c1
    have d0 := blk_cell HE2.out 0 (by simp)
    have d1 := blk_cell HE2.out 1 (by simp)
    have d2 := blk_cell HE2.out 2 (by simp)
    have d3 := blk_cell HE2.out 3 (by simp)
    simp only [List.getElem_toArray, List.getElem_cons_zero, List.getElem_cons_succ] at d0 d1 d2 d3
    have f0 := blk_free HE2.out 0
    have f1 := blk_free HE2.out 1
    have f2 := blk_free HE2.out 2
    have f3 := blk_free HE2.out 3
    have k0 := blk_set HE2.out 0 (.int .i64 (0))
    have k1 := blk_set k0 1 (.int .i64 (0))
    have k2 := blk_set k1 2 (.bool false)
    have k3 := blk_set k2 3 (.int .i64 (0))
    have g0 := blk_cell k0 0 (by simp)
    have g1 := blk_cell k1 1 (by simp)
    have g2 := blk_cell k2 2 (by simp)
    have g3 := blk_cell k3 3 (by simp)
    simp at g0 g1 g2 g3
    clear k0 k1 k2 k3
    go_wp2_with fail
    refine bodyPost_ret (v := gev (0) (0) (0)) ?_ rfl ⟨rfl, ?_⟩
    · simp [gev, results, Tryz.results32, go_sem, g0, g1, g2, g3]
    · exact ev_end HK2.out HM2.out (x := w.heap.size + 1) (Nat.le_succ _) HG.out (((((Mod.refl [w.heap.size + 1] _).setCell (by simp) _).setCell (by simp) _).setCell (by simp) _).setCell (by simp) _)
set_option maxHeartbeats 4000000 in
set_option maxRecDepth 100000 in
theorem do_bad (t want : Int) (ht : ¬ (t < 0 ∨ (sp.length : Int) ≤ t)) (hw : want < 0 ∨ 2 < want) : Calls Tryz.prog 32 #[.pointer (some ⟨gg, 0, none⟩), .agg #[.int .i64 t, .int .i64 want]] w fun e w' => e = .returned (gev 5 t 0) ∧ GAt w' gg gf gl ga ha hs p σ sp ∧ Mod [ga, ha, hs] w w' := by
  have hb1 : Below w.heap.size w (w.alloc (.cells #[.int .i64 t, .int .i64 want] 68)) := below_new _ _
  have hb2 : Below w.heap.size w ((w.alloc (.cells #[.int .i64 t, .int .i64 want] 68)).alloc (.cells #[.int .i64 0, .int .i64 0, .bool false, .int .i64 0] 65)) := hb1.alloc hb1.size _
  have HE := Lib.hid (show ((w.alloc (.cells #[.int .i64 t, .int .i64 want] 68)).alloc (.cells #[.int .i64 0, .int .i64 0, .bool false, .int .i64 0] 65)).heap[w.heap.size + 1]? = some (.cells #[.int .i64 0, .int .i64 0, .bool false, .int .i64 0] 65) from by simpa using blk_new (w.alloc (.cells #[.int .i64 t, .int .i64 want] 68)) (.cells #[.int .i64 0, .int .i64 0, .bool false, .int .i64 0] 65))
  have HP := Lib.hid (show ((w.alloc (.cells #[.int .i64 t, .int .i64 want] 68)).alloc (.cells #[.int .i64 0, .int .i64 0, .bool false, .int .i64 0] 65)).heap[w.heap.size]? = some (.cells #[.int .i64 t, .int .i64 want] 68) from (heap_alloc_old _ _ (by simp)).trans (blk_new _ _))
  have hK := K.same hb2
  have HT := Lib.hid (fun n => threads_g (hK.drewN n))
  have HK := Lib.hid hK
  have HG := Lib.hid K.blocks
  have HM := Lib.hid (Mod.of_below (S := [ga, ha, hs]) hb2)
  clear K hK hb1 hb2
  have hr0 : ¬ t < 0 := by omega
  have hr1 : ¬ (sp.length : Int) ≤ t := by omega
  have hr2 : decide (t < 0) = false := decide_eq_false hr0
  have hr3 : decide ((sp.length : Int) ≤ t) = false := decide_eq_false hr1
  have e0 := ibeq_no (show ¬ want = 0 by omega)
  have e1 := ibeq_no (show ¬ want = 1 by omega)
  have e2 := ibeq_no (show ¬ want = 2 by omega)
  clear ht hw
  go_enter Tryz.func32, Tryz.ntmps32
  go_wp2_with fail
  go_quiet ((go_at_call 38; exact Calls.quiet_of_same (HT.out _)))
  have HK2 := Lib.hid (HK.out.drewN nq)
  have HM2 := Lib.hid (HM.out.drewN nq)
  have HE2 := Lib.hid (show (((w.alloc (.cells #[.int .i64 t, .int .i64 want] 68)).alloc (.cells #[.int .i64 0, .int .i64 0, .bool false, .int .i64 0] 65)).drewN nq).heap[w.heap.size + 1]? = some (.cells #[.int .i64 0, .int .i64 0, .bool false, .int .i64 0] 65) from HE.out)
  have HP2 := Lib.hid (show (((w.alloc (.cells #[.int .i64 t, .int .i64 want] 68)).alloc (.cells #[.int .i64 0, .int .i64 0, .bool false, .int .i64 0] 65)).drewN nq).heap[w.heap.size]? = some (.cells #[.int .i64 t, .int .i64 want] 68) from HP.out)
  have HZ2 := Lib.hid (show w.heap.size ≤ (((w.alloc (.cells #[.int .i64 t, .int .i64 want] 68)).alloc (.cells #[.int .i64 0, .int .i64 0, .bool false, .int .i64 0] 65)).drewN nq).heap.size from HM2.out.size)
  clear HK HM HE HP HT
  generalize ((w.alloc (.cells #[.int .i64 t, .int .i64 want] 68)).alloc (.cells #[.int .i64 0, .int .i64 0, .bool false, .int .i64 0] 65)).drewN nq = W2 at *
  have c0 := blk_cell HP2.out 0 (by simp)
  have c1 := blk_cell HP2.out 1 (by simp)
  simp only [List.getElem_toArray, List.getElem_cons_zero, List.getElem_cons_succ] at c0 c1
  go_wp2_with fail
  refine (state_g HK2.out t).mono ?_
  rintro e w3 ⟨rfl, hb3⟩
  have HK3 := Lib.hid (HK2.out.same hb3)
  have HM3 := Lib.hid (HM2.out.trans (Mod.of_below (S := [ga, ha, hs]) hb3))
  have HE3 := Lib.hid (show w3.heap[w.heap.size + 1]? = some (.cells #[.int .i64 0, .int .i64 0, .bool false, .int .i64 0] 65) from (Mod.of_below (S := []) hb3).blk HE2.out (by simp))
  have HP3 := Lib.hid (show w3.heap[w.heap.size]? = some (.cells #[.int .i64 t, .int .i64 want] 68) from (Mod.of_below (S := []) hb3).blk HP2.out (by simp))
  have HZ3 := Lib.hid (show w.heap.size ≤ w3.heap.size from HM3.out.size)
  clear HK2 HM2 HE2 HP2 HZ2 hb3 c0 c1
  have c0 := blk_cell HP3.out 0 (by simp)
  have c1 := blk_cell HP3.out 1 (by simp)
  simp only [List.getElem_toArray, List.getElem_cons_zero, List.getElem_cons_succ] at c0 c1
  have hst := gst_in (spOf sp t)
  generalize gst (spOf sp t) = st at *
  rcases hst with rfl | rfl | rfl | rfl
  all_goals
    go_wp2_with fail
    go_quiet (fail)
    have HKn := Lib.hid (HK3.out.drewN nq)
    have HMn := Lib.hid (HM3.out.drewN nq)
    have HEn := Lib.hid (show (w3.drewN nq).heap[w.heap.size + 1]? = some (.cells #[.int .i64 0, .int .i64 0, .bool false, .int .i64 0] 65) from HE3.out)
    have HPn := Lib.hid (show (w3.drewN nq).heap[w.heap.size]? = some (.cells #[.int .i64 t, .int .i64 want] 68) from HP3.out)
    have HZn := Lib.hid (show w.heap.size ≤ (w3.drewN nq).heap.size from HMn.out.size)
    clear HK3 HM3 HE3 HP3 HZ3 c0 c1
    generalize w3.drewN nq = W4 at *
    have HK3 := HKn
    have HM3 := HMn
    have HE3 := HEn
    have HP3 := HPn
    have HZ3 := HZn
    clear HKn HMn HEn HPn HZn
    have c0 := blk_cell HP3.out 0 (by simp)
    have c1 := blk_cell HP3.out 1 (by simp)
    simp only [List.getElem_toArray, List.getElem_cons_zero, List.getElem_cons_succ] at c0 c1
    go_wp2_with fail
    go_quiet (fail)
    have HKn := Lib.hid (HK3.out.drewN nq)
    have HMn := Lib.hid (HM3.out.drewN nq)
    have HEn := Lib.hid (show (W4.drewN nq).heap[w.heap.size + 1]? = some (.cells #[.int .i64 0, .int .i64 0, .bool false, .int .i64 0] 65) from HE3.out)
    have HPn := Lib.hid (show (W4.drewN nq).heap[w.heap.size]? = some (.cells #[.int .i64 t, .int .i64 want] 68) from HP3.out)
    have HZn := Lib.hid (show w.heap.size ≤ (W4.drewN nq).heap.size from HMn.out.size)
    clear HK3 HM3 HE3 HP3 HZ3 c0 c1
    generalize W4.drewN nq = W5 at *
    have HK3 := HKn
    have HM3 := HMn
    have HE3 := HEn
    have HP3 := HPn
    have HZ3 := HZn
    clear HKn HMn HEn HPn HZn
    have c0 := blk_cell HP3.out 0 (by simp)
    have c1 := blk_cell HP3.out 1 (by simp)
    simp only [List.getElem_toArray, List.getElem_cons_zero, List.getElem_cons_succ] at c0 c1
    have d0 := blk_cell HE3.out 0 (by simp)
    have d1 := blk_cell HE3.out 1 (by simp)
    have d2 := blk_cell HE3.out 2 (by simp)
    have d3 := blk_cell HE3.out 3 (by simp)
    simp only [List.getElem_toArray, List.getElem_cons_zero, List.getElem_cons_succ] at d0 d1 d2 d3
    have f0 := blk_free HE3.out 0
    have f1 := blk_free HE3.out 1
    have f2 := blk_free HE3.out 2
    have f3 := blk_free HE3.out 3
    have k0 := blk_set HE3.out 0 (.int .i64 (5))
    have k1 := blk_set k0 1 (.int .i64 (t))
    have k2 := blk_set k1 2 (.bool false)
    have k3 := blk_set k2 3 (.int .i64 (0))
    have g0 := blk_cell k0 0 (by simp)
    have g1 := blk_cell k1 1 (by simp)
    have g2 := blk_cell k2 2 (by simp)
    have g3 := blk_cell k3 3 (by simp)
    simp at g0 g1 g2 g3
    clear k0 k1 k2 k3
    go_wp2_with fail
    refine bodyPost_ret (v := gev (5) (t) (0)) ?_ rfl ⟨rfl, ?_⟩
    · simp [gev, results, Tryz.results32, go_sem, g0, g1, g2, g3]
    · exact ev_end HK3.out HM3.out (x := w.heap.size + 1) (Nat.le_succ _) HG.out (((((Mod.refl [w.heap.size + 1] _).setCell (by simp) _).setCell (by simp) _).setCell (by simp) _).setCell (by simp) _)
set_option maxHeartbeats 4000000 in
set_option maxRecDepth 100000 in
theorem do_stay (t want : Int) (ht : ¬ (t < 0 ∨ (sp.length : Int) ≤ t)) (hw : want = 0) (hs0 : gst (spOf sp t) = 0 ∨ gst (spOf sp t) = 2) : Calls Tryz.prog 32 #[.pointer (some ⟨gg, 0, none⟩), .agg #[.int .i64 t, .int .i64 want]] w fun e w' => e = .returned (gev 0 t 0) ∧ GAt w' gg gf gl ga ha hs p σ sp ∧ Mod [ga, ha, hs] w w' := by
  have hb1 : Below w.heap.size w (w.alloc (.cells #[.int .i64 t, .int .i64 want] 68)) := below_new _ _
  have hb2 : Below w.heap.size w ((w.alloc (.cells #[.int .i64 t, .int .i64 want] 68)).alloc (.cells #[.int .i64 0, .int .i64 0, .bool false, .int .i64 0] 65)) := hb1.alloc hb1.size _
  have HE := Lib.hid (show ((w.alloc (.cells #[.int .i64 t, .int .i64 want] 68)).alloc (.cells #[.int .i64 0, .int .i64 0, .bool false, .int .i64 0] 65)).heap[w.heap.size + 1]? = some (.cells #[.int .i64 0, .int .i64 0, .bool false, .int .i64 0] 65) from by simpa using blk_new (w.alloc (.cells #[.int .i64 t, .int .i64 want] 68)) (.cells #[.int .i64 0, .int .i64 0, .bool false, .int .i64 0] 65))
  have HP := Lib.hid (show ((w.alloc (.cells #[.int .i64 t, .int .i64 want] 68)).alloc (.cells #[.int .i64 0, .int .i64 0, .bool false, .int .i64 0] 65)).heap[w.heap.size]? = some (.cells #[.int .i64 t, .int .i64 want] 68) from (heap_alloc_old _ _ (by simp)).trans (blk_new _ _))
  have hK := K.same hb2
  have HT := Lib.hid (fun n => threads_g (hK.drewN n))
  have HK := Lib.hid hK
  have HG := Lib.hid K.blocks
  have HM := Lib.hid (Mod.of_below (S := [ga, ha, hs]) hb2)
  clear K hK hb1 hb2
  have hr0 : ¬ t < 0 := by omega
  have hr1 : ¬ (sp.length : Int) ≤ t := by omega
  have hr2 : decide (t < 0) = false := decide_eq_false hr0
  have hr3 : decide ((sp.length : Int) ≤ t) = false := decide_eq_false hr1
  have e0 := ibeq hw
  clear ht hw
  go_enter Tryz.func32, Tryz.ntmps32
  go_wp2_with fail
  go_quiet ((go_at_call 38; exact Calls.quiet_of_same (HT.out _)))
  have HK2 := Lib.hid (HK.out.drewN nq)
  have HM2 := Lib.hid (HM.out.drewN nq)
  have HE2 := Lib.hid (show (((w.alloc (.cells #[.int .i64 t, .int .i64 want] 68)).alloc (.cells #[.int .i64 0, .int .i64 0, .bool false, .int .i64 0] 65)).drewN nq).heap[w.heap.size + 1]? = some (.cells #[.int .i64 0, .int .i64 0, .bool false, .int .i64 0] 65) from HE.out)
  have HP2 := Lib.hid (show (((w.alloc (.cells #[.int .i64 t, .int .i64 want] 68)).alloc (.cells #[.int .i64 0, .int .i64 0, .bool false, .int .i64 0] 65)).drewN nq).heap[w.heap.size]? = some (.cells #[.int .i64 t, .int .i64 want] 68) from HP.out)
  have HZ2 := Lib.hid (show w.heap.size ≤ (((w.alloc (.cells #[.int .i64 t, .int .i64 want] 68)).alloc (.cells #[.int .i64 0, .int .i64 0, .bool false, .int .i64 0] 65)).drewN nq).heap.size from HM2.out.size)
  clear HK HM HE HP HT
  generalize ((w.alloc (.cells #[.int .i64 t, .int .i64 want] 68)).alloc (.cells #[.int .i64 0, .int .i64 0, .bool false, .int .i64 0] 65)).drewN nq = W2 at *
  have c0 := blk_cell HP2.out 0 (by simp)
  have c1 := blk_cell HP2.out 1 (by simp)
  simp only [List.getElem_toArray, List.getElem_cons_zero, List.getElem_cons_succ] at c0 c1
  go_wp2_with fail
  refine (state_g HK2.out t).mono ?_
  rintro e w3 ⟨rfl, hb3⟩
  have HK3 := Lib.hid (HK2.out.same hb3)
  have HM3 := Lib.hid (HM2.out.trans (Mod.of_below (S := [ga, ha, hs]) hb3))
  have HE3 := Lib.hid (show w3.heap[w.heap.size + 1]? = some (.cells #[.int .i64 0, .int .i64 0, .bool false, .int .i64 0] 65) from (Mod.of_below (S := []) hb3).blk HE2.out (by simp))
  have HP3 := Lib.hid (show w3.heap[w.heap.size]? = some (.cells #[.int .i64 t, .int .i64 want] 68) from (Mod.of_below (S := []) hb3).blk HP2.out (by simp))
  have HZ3 := Lib.hid (show w.heap.size ≤ w3.heap.size from HM3.out.size)
  clear HK2 HM2 HE2 HP2 HZ2 hb3 c0 c1
  have c0 := blk_cell HP3.out 0 (by simp)
  have c1 := blk_cell HP3.out 1 (by simp)
  simp only [List.getElem_toArray, List.getElem_cons_zero, List.getElem_cons_succ] at c0 c1
  have hst := gst_in (spOf sp t)
  clear hst
  generalize gst (spOf sp t) = st at *
  rcases hs0 with rfl | rfl
  all_goals
    have d0 := blk_cell HE3.out 0 (by simp)
    have d1 := blk_cell HE3.out 1 (by simp)
    have d2 := blk_cell HE3.out 2 (by simp)
    have d3 := blk_cell HE3.out 3 (by simp)
    simp only [List.getElem_toArray, List.getElem_cons_zero, List.getElem_cons_succ] at d0 d1 d2 d3
    have f0 := blk_free HE3.out 0
    have f1 := blk_free HE3.out 1
    have f2 := blk_free HE3.out 2
    have f3 := blk_free HE3.out 3
    have k0 := blk_set HE3.out 0 (.int .i64 (0))
    have k1 := blk_set k0 1 (.int .i64 (t))
    have k2 := blk_set k1 2 (.bool false)
    have k3 := blk_set k2 3 (.int .i64 (0))
    have g0 := blk_cell k0 0 (by simp)
    have g1 := blk_cell k1 1 (by simp)
    have g2 := blk_cell k2 2 (by simp)
    have g3 := blk_cell k3 3 (by simp)
    simp at g0 g1 g2 g3
    clear k0 k1 k2 k3
    go_wp2_with fail
    refine bodyPost_ret (v := gev (0) (t) (0)) ?_ rfl ⟨rfl, ?_⟩
    · simp [gev, results, Tryz.results32, go_sem, g0, g1, g2, g3]
    · exact ev_end HK3.out HM3.out (x := w.heap.size + 1) (Nat.le_succ _) HG.out (((((Mod.refl [w.heap.size + 1] _).setCell (by simp) _).setCell (by simp) _).setCell (by simp) _).setCell (by simp) _)
set_option maxHeartbeats 4000000 in
set_option maxRecDepth 100000 in
theorem step_g (n m : Nat) (ho : OkK p σ sp n m) (hm : m ≤ 100000) (t s : Int) (hs1 : s = 1 ∨ s = 3) (b : Bool) (σ2 : Ar) (sp2 : List Sp) (hr : doK p σ sp 0 t = (b, σ2, sp2)) (k c : Int) (hkc : (k, c) = if b then (if s = 1 then (2, 1) else (4, 0)) else ((0, 0) : Int × Int)) :
    Calls Tryz.prog 71 #[.pointer (some ⟨gg, 0, none⟩), .int .i64 t, .int .i64 s] w fun e w' => e = .returned (gev k t c) ∧ GAt w' gg gf gl ga ha hs p σ2 sp2 ∧ Mod [ga, ha, hs] w w' := by
  have hb1 : Below w.heap.size w (w.alloc (.cells #[.int .i64 0, .int .i64 0, .bool false, .int .i64 0] 65)) := below_new _ _
  have hb2 : Below w.heap.size w ((w.alloc (.cells #[.int .i64 0, .int .i64 0, .bool false, .int .i64 0] 65)).alloc (.cells #[.int .i64 0, .int .i64 t, .bool false, .int .i64 0] 65)) := hb1.alloc hb1.size _
  have HE := Lib.hid (show ((w.alloc (.cells #[.int .i64 0, .int .i64 0, .bool false, .int .i64 0] 65)).alloc (.cells #[.int .i64 0, .int .i64 t, .bool false, .int .i64 0] 65)).heap[w.heap.size + 1]? = some (.cells #[.int .i64 0, .int .i64 t, .bool false, .int .i64 0] 65) by simpa using blk_new (w.alloc (.cells #[.int .i64 0, .int .i64 0, .bool false, .int .i64 0] 65)) (.cells #[.int .i64 0, .int .i64 t, .bool false, .int .i64 0] 65))
  have HR := Lib.hid (show ((w.alloc (.cells #[.int .i64 0, .int .i64 0, .bool false, .int .i64 0] 65)).alloc (.cells #[.int .i64 0, .int .i64 t, .bool false, .int .i64 0] 65)).heap[w.heap.size]? = some (.cells #[.int .i64 0, .int .i64 0, .bool false, .int .i64 0] 65) from (heap_alloc_old _ _ (by simp)).trans (blk_new _ _))
  have HG := Lib.hid K.blocks
  have HK := Lib.hid (K.same hb2)
  have HM := Lib.hid (Mod.of_below (S := [ga, ha, hs]) hb2)
  have HS := Lib.hid (Step_flat HK.out.fl n m ho hm t)
  rw [hr] at HS
  simp only at HS
  obtain ⟨g0, g1⟩ := HK.out.cells
  clear K hb1 hb2 ho hr
  go_enter Tryz.func71, Tryz.ntmps71
  go_wp2_with fail
  refine HS.out.mono ?_
  rintro e w2 ⟨rfl, hf2, hm2⟩
  have hgb := HG.out
  have HR2 := Lib.hid (show w2.heap[w.heap.size]? = some (.cells #[.int .i64 0, .int .i64 0, .bool false, .int .i64 0] 65) from hm2.blk HR.out (by simp; omega))
  have HE2 := Lib.hid (show w2.heap[w.heap.size + 1]? = _ from hm2.blk HE.out (by simp; omega))
  have HK2 := Lib.hid (HK.out.acts hf2 hm2)
  have HM2 := Lib.hid (HM.out.trans hm2)
  clear HR HE HK HM HS hf2 hm2 g0 g1 hgb
  have e0 := blk_cell HE2.out 0 (by simp)
  have e1 := blk_cell HE2.out 1 (by simp)
  have e2 := blk_cell HE2.out 2 (by simp)
  have e3 := blk_cell HE2.out 3 (by simp)
  simp only [List.getElem_toArray, List.getElem_cons_zero, List.getElem_cons_succ] at e0 e1 e2 e3
  cases b with
  | false =>
    obtain ⟨rfl, rfl⟩ : k = 0 ∧ c = 0 := by simpa using hkc
    clear hkc
    have d0 := blk_cell HR2.out 0 (by simp)
    have d1 := blk_cell HR2.out 1 (by simp)
    have d2 := blk_cell HR2.out 2 (by simp)
    have d3 := blk_cell HR2.out 3 (by simp)
    simp only [List.getElem_toArray, List.getElem_cons_zero, List.getElem_cons_succ] at d0 d1 d2 d3
    have f0 := blk_free HR2.out 0
    have f1 := blk_free HR2.out 1
    have f2 := blk_free HR2.out 2
    have f3 := blk_free HR2.out 3
    have k0 := blk_set HR2.out 0 (.int .i64 (0))
    have k1 := blk_set k0 1 (.int .i64 (t))
    have k2 := blk_set k1 2 (.bool false)
    have k3 := blk_set k2 3 (.int .i64 (0))
    have g0 := blk_cell k0 0 (by simp)
    have g1 := blk_cell k1 1 (by simp)
    have g2 := blk_cell k2 2 (by simp)
    have g3 := blk_cell k3 3 (by simp)
    simp at g0 g1 g2 g3
    clear k0 k1 k2 k3
    go_wp2_with fail
    refine bodyPost_ret (v := gev (0) (t) (0)) ?_ rfl ⟨rfl, ?_⟩
    · simp [gev, results, Tryz.results71, go_sem, g0, g1, g2, g3]
    · exact ev_end HK2.out HM2.out (x := w.heap.size) (Nat.le_refl _) HG.out (((((Mod.refl [w.heap.size] _).setCell (by simp) _).setCell (by simp) _).setCell (by simp) _).setCell (by simp) _)
  | true =>
    have fE0 := blk_free HE2.out 0
    have fE3 := blk_free HE2.out 3
    rcases hs1 with rfl | rfl
    · obtain ⟨rfl, rfl⟩ : k = 2 ∧ c = 1 := by simpa using hkc
      clear hkc
      have hmm : Mod [w.heap.size + 1] w2 ((w2.setCell ⟨w.heap.size + 1, 0, none⟩ (.int .i64 2)).setCell ⟨w.heap.size + 1, 3, none⟩ (.int .i64 1)) := ((Mod.refl [w.heap.size + 1] w2).setCell (by simp) _).setCell (by simp) _
      have hend := ev_end HK2.out HM2.out (x := w.heap.size + 1) (Nat.le_succ _) HG.out hmm
      have HR3 := Lib.hid (hmm.blk HR2.out (by simp))
      have hbl := (blk_set (blk_set HE2.out 0 (.int .i64 2)) 3 (.int .i64 1))
      simp only [Array.set!_eq_setIfInBounds, List.setIfInBounds_toArray, List.set_cons_zero, List.set_cons_succ] at hbl
      have HKn := Lib.hid hend.1
      have HMn := Lib.hid hend.2
      have x0 := blk_cell hbl 0 (by simp)
      have x1 := blk_cell hbl 1 (by simp)
      have x2 := blk_cell hbl 2 (by simp)
      have x3 := blk_cell hbl 3 (by simp)
      simp only [List.getElem_toArray, List.getElem_cons_zero, List.getElem_cons_succ] at x0 x1 x2 x3
      clear hmm hend hbl HR2 HE2 HK2 HM2
      have d0 := blk_cell HR3.out 0 (by simp)
      have d1 := blk_cell HR3.out 1 (by simp)
      have d2 := blk_cell HR3.out 2 (by simp)
      have d3 := blk_cell HR3.out 3 (by simp)
      simp only [List.getElem_toArray, List.getElem_cons_zero, List.getElem_cons_succ] at d0 d1 d2 d3
      have f0 := blk_free HR3.out 0
      have f1 := blk_free HR3.out 1
      have f2 := blk_free HR3.out 2
      have f3 := blk_free HR3.out 3
      have k0 := blk_set HR3.out 0 (.int .i64 (2))
      have k1 := blk_set k0 1 (.int .i64 (t))
      have k2 := blk_set k1 2 (.bool false)
      have k3 := blk_set k2 3 (.int .i64 (1))
      have g0 := blk_cell k0 0 (by simp)
      have g1 := blk_cell k1 1 (by simp)
      have g2 := blk_cell k2 2 (by simp)
      have g3 := blk_cell k3 3 (by simp)
      simp at g0 g1 g2 g3
      clear k0 k1 k2 k3
      go_wp2_with fail
      refine bodyPost_ret (v := gev (2) (t) (1)) ?_ rfl ⟨rfl, ?_⟩
      · simp [gev, results, Tryz.results71, go_sem, g0, g1, g2, g3]
      · exact ev_end HKn.out HMn.out (x := w.heap.size) (Nat.le_refl _) HG.out (((((Mod.refl [w.heap.size] _).setCell (by simp) _).setCell (by simp) _).setCell (by simp) _).setCell (by simp) _)
    · obtain ⟨rfl, rfl⟩ : k = 4 ∧ c = 0 := by simpa using hkc
      clear hkc
      have hmm : Mod [w.heap.size + 1] w2 (w2.setCell ⟨w.heap.size + 1, 0, none⟩ (.int .i64 4)) := (Mod.refl [w.heap.size + 1] w2).setCell (by simp) _
      have hend := ev_end HK2.out HM2.out (x := w.heap.size + 1) (Nat.le_succ _) HG.out hmm
      have HR3 := Lib.hid (hmm.blk HR2.out (by simp))
      have hbl := (blk_set HE2.out 0 (.int .i64 4))
      simp only [Array.set!_eq_setIfInBounds, List.setIfInBounds_toArray, List.set_cons_zero, List.set_cons_succ] at hbl
      have HKn := Lib.hid hend.1
      have HMn := Lib.hid hend.2
      have x0 := blk_cell hbl 0 (by simp)
      have x1 := blk_cell hbl 1 (by simp)
      have x2 := blk_cell hbl 2 (by simp)
      have x3 := blk_cell hbl 3 (by simp)
      simp only [List.getElem_toArray, List.getElem_cons_zero, List.getElem_cons_succ] at x0 x1 x2 x3
      clear hmm hend hbl HR2 HE2 HK2 HM2
      have d0 := blk_cell HR3.out 0 (by simp)
      have d1 := blk_cell HR3.out 1 (by simp)
      have d2 := blk_cell HR3.out 2 (by simp)
      have d3 := blk_cell HR3.out 3 (by simp)
      simp only [List.getElem_toArray, List.getElem_cons_zero, List.getElem_cons_succ] at d0 d1 d2 d3
      have f0 := blk_free HR3.out 0
      have f1 := blk_free HR3.out 1
      have f2 := blk_free HR3.out 2
      have f3 := blk_free HR3.out 3
      have k0 := blk_set HR3.out 0 (.int .i64 (4))
      have k1 := blk_set k0 1 (.int .i64 (t))
      have k2 := blk_set k1 2 (.bool false)
      have k3 := blk_set k2 3 (.int .i64 (0))
      have g0 := blk_cell k0 0 (by simp)
      have g1 := blk_cell k1 1 (by simp)
      have g2 := blk_cell k2 2 (by simp)
      have g3 := blk_cell k3 3 (by simp)
      simp at g0 g1 g2 g3
      clear k0 k1 k2 k3
      go_wp2_with fail
      refine bodyPost_ret (v := gev (4) (t) (0)) ?_ rfl ⟨rfl, ?_⟩
      · simp [gev, results, Tryz.results71, go_sem, g0, g1, g2, g3]
      · exact ev_end HKn.out HMn.out (x := w.heap.size) (Nat.le_refl _) HG.out (((((Mod.refl [w.heap.size] _).setCell (by simp) _).setCell (by simp) _).setCell (by simp) _).setCell (by simp) _)
end
end Go.Proofs.YthffhhgaeolpgaaGreat.Ga

/- Package gate: what comes of a pick that asks, leaves or steps. -/
namespace Go.Proofs.YthffhhgaeolpgaaGreat.Ga
open Go.RowKit Go.Proofs.YthffhhgaeolpgaaGreat.Ara Go.Proofs.YthffhhgaeolpgaaGreat.Lok Go.Proofs.YthffhhgaeolpgaaGreat.Fl


section
variable {gg gf gl ga ha hs : Nat} {p : PK} {σ : Ar} {sp : List Sp} {w : World} (K : GAt w gg gf gl ga ha hs p σ sp)
include K
set_option maxHeartbeats 4000000 in
set_option maxRecDepth 100000 in
theorem do_way (n m : Nat) (ho : OkK p σ sp n m) (hm : m ≤ 100000) (t want : Int) (ht : ¬ (t < 0 ∨ (sp.length : Int) ≤ t)) (hw : want = 0) (hs0 : gst (spOf sp t) = 1 ∨ gst (spOf sp t) = 3) (b : Bool) (σ2 : Ar) (sp2 : List Sp) (hr : doK p σ sp 0 t = (b, σ2, sp2)) (k c : Int) (hkc : (k, c) = if b then (if gst (spOf sp t) = 1 then (2, 1) else (4, 0)) else ((0, 0) : Int × Int)) : Calls Tryz.prog 32 #[.pointer (some ⟨gg, 0, none⟩), .agg #[.int .i64 t, .int .i64 want]] w fun e w' => e = .returned (gev k t c) ∧ GAt w' gg gf gl ga ha hs p σ2 sp2 ∧ Mod [ga, ha, hs] w w' := by
  have HSt := Lib.hid (fun W (K : GAt W gg gf gl ga ha hs p σ sp) => step_g K n m ho hm t (gst (spOf sp t)) hs0 b σ2 sp2 hr k c hkc)
  clear ho hm hr hkc
  have hb1 : Below w.heap.size w (w.alloc (.cells #[.int .i64 t, .int .i64 want] 68)) := below_new _ _
  have hb2 : Below w.heap.size w ((w.alloc (.cells #[.int .i64 t, .int .i64 want] 68)).alloc (.cells #[.int .i64 0, .int .i64 0, .bool false, .int .i64 0] 65)) := hb1.alloc hb1.size _
  have HE := Lib.hid (show ((w.alloc (.cells #[.int .i64 t, .int .i64 want] 68)).alloc (.cells #[.int .i64 0, .int .i64 0, .bool false, .int .i64 0] 65)).heap[w.heap.size + 1]? = some (.cells #[.int .i64 0, .int .i64 0, .bool false, .int .i64 0] 65) from by simpa using blk_new (w.alloc (.cells #[.int .i64 t, .int .i64 want] 68)) (.cells #[.int .i64 0, .int .i64 0, .bool false, .int .i64 0] 65))
  have HP := Lib.hid (show ((w.alloc (.cells #[.int .i64 t, .int .i64 want] 68)).alloc (.cells #[.int .i64 0, .int .i64 0, .bool false, .int .i64 0] 65)).heap[w.heap.size]? = some (.cells #[.int .i64 t, .int .i64 want] 68) from (heap_alloc_old _ _ (by simp)).trans (blk_new _ _))
  have hK := K.same hb2
  have HT := Lib.hid (fun n => threads_g (hK.drewN n))
  have HK := Lib.hid hK
  have HG := Lib.hid K.blocks
  have HM := Lib.hid (Mod.of_below (S := [ga, ha, hs]) hb2)
  clear K hK hb1 hb2
  have hr0 : ¬ t < 0 := by omega
  have hr1 : ¬ (sp.length : Int) ≤ t := by omega
  have hr2 : decide (t < 0) = false := decide_eq_false hr0
  have hr3 : decide ((sp.length : Int) ≤ t) = false := decide_eq_false hr1
  have e0 := ibeq hw
  clear ht hw
  go_enter Tryz.func32, Tryz.ntmps32
  go_wp2_with fail
  go_quiet ((go_at_call 38; exact Calls.quiet_of_same (HT.out _)))
  have HK2 := Lib.hid (HK.out.drewN nq)
  have HM2 := Lib.hid (HM.out.drewN nq)
  have HE2 := Lib.hid (show (((w.alloc (.cells #[.int .i64 t, .int .i64 want] 68)).alloc (.cells #[.int .i64 0, .int .i64 0, .bool false, .int .i64 0] 65)).drewN nq).heap[w.heap.size + 1]? = some (.cells #[.int .i64 0, .int .i64 0, .bool false, .int .i64 0] 65) from HE.out)
  have HP2 := Lib.hid (show (((w.alloc (.cells #[.int .i64 t, .int .i64 want] 68)).alloc (.cells #[.int .i64 0, .int .i64 0, .bool false, .int .i64 0] 65)).drewN nq).heap[w.heap.size]? = some (.cells #[.int .i64 t, .int .i64 want] 68) from HP.out)
  have HZ2 := Lib.hid (show w.heap.size ≤ (((w.alloc (.cells #[.int .i64 t, .int .i64 want] 68)).alloc (.cells #[.int .i64 0, .int .i64 0, .bool false, .int .i64 0] 65)).drewN nq).heap.size from HM2.out.size)
  clear HK HM HE HP HT
  generalize ((w.alloc (.cells #[.int .i64 t, .int .i64 want] 68)).alloc (.cells #[.int .i64 0, .int .i64 0, .bool false, .int .i64 0] 65)).drewN nq = W2 at *
  have c0 := blk_cell HP2.out 0 (by simp)
  have c1 := blk_cell HP2.out 1 (by simp)
  simp only [List.getElem_toArray, List.getElem_cons_zero, List.getElem_cons_succ] at c0 c1
  go_wp2_with fail
  refine (state_g HK2.out t).mono ?_
  rintro e w3 ⟨rfl, hb3⟩
  have HK3 := Lib.hid (HK2.out.same hb3)
  have HM3 := Lib.hid (HM2.out.trans (Mod.of_below (S := [ga, ha, hs]) hb3))
  have HE3 := Lib.hid (show w3.heap[w.heap.size + 1]? = some (.cells #[.int .i64 0, .int .i64 0, .bool false, .int .i64 0] 65) from (Mod.of_below (S := []) hb3).blk HE2.out (by simp))
  have HP3 := Lib.hid (show w3.heap[w.heap.size]? = some (.cells #[.int .i64 t, .int .i64 want] 68) from (Mod.of_below (S := []) hb3).blk HP2.out (by simp))
  have HZ3 := Lib.hid (show w.heap.size ≤ w3.heap.size from HM3.out.size)
  clear HK2 HM2 HE2 HP2 HZ2 hb3 c0 c1
  have c0 := blk_cell HP3.out 0 (by simp)
  have c1 := blk_cell HP3.out 1 (by simp)
  simp only [List.getElem_toArray, List.getElem_cons_zero, List.getElem_cons_succ] at c0 c1
  have hst := gst_in (spOf sp t)
  clear hst
  generalize gst (spOf sp t) = st at *
  rcases hs0 with rfl | rfl
  all_goals
    go_wp2_with fail
    refine (HSt.out _ HK3.out).mono ?_
    rintro e w4 ⟨rfl, hk4, hm4⟩
    have hgb := HG.out
    have HE4 := Lib.hid (hm4.blk HE3.out (by simp; omega))
    have HK5 := Lib.hid hk4
    have HM5 := Lib.hid (HM3.out.trans hm4)
    clear hk4 hm4 HK3 HM3 HE3 HP3 HZ3 c0 c1 hgb HSt
    simp only [gev]
    have d0 := blk_cell HE4.out 0 (by simp)
    have d1 := blk_cell HE4.out 1 (by simp)
    have d2 := blk_cell HE4.out 2 (by simp)
    have d3 := blk_cell HE4.out 3 (by simp)
    simp only [List.getElem_toArray, List.getElem_cons_zero, List.getElem_cons_succ] at d0 d1 d2 d3
    have f0 := blk_free HE4.out 0
    have f1 := blk_free HE4.out 1
    have f2 := blk_free HE4.out 2
    have f3 := blk_free HE4.out 3
    have k0 := blk_set HE4.out 0 (.int .i64 (k))
    have k1 := blk_set k0 1 (.int .i64 (t))
    have k2 := blk_set k1 2 (.bool false)
    have k3 := blk_set k2 3 (.int .i64 (c))
    have g0 := blk_cell k0 0 (by simp)
    have g1 := blk_cell k1 1 (by simp)
    have g2 := blk_cell k2 2 (by simp)
    have g3 := blk_cell k3 3 (by simp)
    simp at g0 g1 g2 g3
    clear k0 k1 k2 k3
    go_wp2_with fail
    refine bodyPost_ret (v := gev (k) (t) (c)) ?_ rfl ⟨rfl, ?_⟩
    · simp [gev, results, Tryz.results32, go_sem, g0, g1, g2, g3]
    · exact ev_end HK5.out HM5.out (x := w.heap.size + 1) (Nat.le_succ _) HG.out (((((Mod.refl [w.heap.size + 1] _).setCell (by simp) _).setCell (by simp) _).setCell (by simp) _).setCell (by simp) _)
omit K in
theorem held4 {W : World} {σ : Ar} {sp : List Sp} {t want : Int} {x : Nat} (k : GAt W gg gf gl ga ha hs p σ sp) (hP : W.heap[x]? = some (.cells #[.int .i64 t, .int .i64 want] 68)) : W.cell? ⟨x, 0, none⟩ = some (.int .i64 t) ∧ W.cell? ⟨x, 1, none⟩ = some (.int .i64 want) ∧ W.cell? ⟨gg, 1, none⟩ = some (.pointer (some ⟨gf, 0, none⟩)) :=
  ⟨blk_cell hP 0 (by simp), blk_cell hP 1 (by simp), k.cells.2⟩
set_option maxHeartbeats 8000000 in
set_option maxRecDepth 100000 in
theorem do_ask (n m : Nat) (ho : OkK p σ sp n m) (hm : m ≤ 100000) (t : Int) (ht : ¬ (t < 0 ∨ (sp.length : Int) ≤ t)) (b : Bool) (σ2 : Ar) (sp2 : List Sp) (hr : doK p σ sp 1 t = (b, σ2, sp2)) : Calls Tryz.prog 32 #[.pointer (some ⟨gg, 0, none⟩), .agg #[.int .i64 t, .int .i64 1]] w fun e w' => e = .returned (gev (if b then 1 else 5) t 0) ∧ GAt w' gg gf gl ga ha hs p σ2 sp2 ∧ Mod [ga, ha, hs] w w' := by
  have HSt := fun W (K : GAt W gg gf gl ga ha hs p σ sp) => Ask_flat K.fl n m ho hm t
  rw [hr] at HSt
  replace HSt := Lib.hid HSt
  clear ho hm hr
  have hb1 : Below w.heap.size w (w.alloc (.cells #[.int .i64 t, .int .i64 1] 68)) := below_new _ _
  have hb2 : Below w.heap.size w ((w.alloc (.cells #[.int .i64 t, .int .i64 1] 68)).alloc (.cells #[.int .i64 0, .int .i64 0, .bool false, .int .i64 0] 65)) := hb1.alloc hb1.size _
  have HE := Lib.hid (show ((w.alloc (.cells #[.int .i64 t, .int .i64 1] 68)).alloc (.cells #[.int .i64 0, .int .i64 0, .bool false, .int .i64 0] 65)).heap[w.heap.size + 1]? = some (.cells #[.int .i64 0, .int .i64 0, .bool false, .int .i64 0] 65) from by simpa using blk_new (w.alloc (.cells #[.int .i64 t, .int .i64 1] 68)) (.cells #[.int .i64 0, .int .i64 0, .bool false, .int .i64 0] 65))
  have HP := Lib.hid (show ((w.alloc (.cells #[.int .i64 t, .int .i64 1] 68)).alloc (.cells #[.int .i64 0, .int .i64 0, .bool false, .int .i64 0] 65)).heap[w.heap.size]? = some (.cells #[.int .i64 t, .int .i64 1] 68) from (heap_alloc_old _ _ (by simp)).trans (blk_new _ _))
  have hK := K.same hb2
  have HT := Lib.hid (fun n => threads_g (hK.drewN n))
  have HK := Lib.hid hK
  have HG := Lib.hid K.blocks
  have HM := Lib.hid (Mod.of_below (S := [ga, ha, hs]) hb2)
  clear K hK hb1 hb2
  have hr0 : ¬ t < 0 := by omega
  have hr1 : ¬ (sp.length : Int) ≤ t := by omega
  have hr2 : decide (t < 0) = false := decide_eq_false hr0
  have hr3 : decide ((sp.length : Int) ≤ t) = false := decide_eq_false hr1
  clear ht
  go_enter Tryz.func32, Tryz.ntmps32
  go_wp2_with fail
  go_quiet ((go_at_call 38; exact Calls.quiet_of_same (HT.out _)))
  have HK2 := Lib.hid (HK.out.drewN nq)
  have HM2 := Lib.hid (HM.out.drewN nq)
  have HE2 := Lib.hid (show (((w.alloc (.cells #[.int .i64 t, .int .i64 1] 68)).alloc (.cells #[.int .i64 0, .int .i64 0, .bool false, .int .i64 0] 65)).drewN nq).heap[w.heap.size + 1]? = some (.cells #[.int .i64 0, .int .i64 0, .bool false, .int .i64 0] 65) from HE.out)
  have HP2 := Lib.hid (show (((w.alloc (.cells #[.int .i64 t, .int .i64 1] 68)).alloc (.cells #[.int .i64 0, .int .i64 0, .bool false, .int .i64 0] 65)).drewN nq).heap[w.heap.size]? = some (.cells #[.int .i64 t, .int .i64 1] 68) from HP.out)
  have HZ2 := Lib.hid (show w.heap.size ≤ (((w.alloc (.cells #[.int .i64 t, .int .i64 1] 68)).alloc (.cells #[.int .i64 0, .int .i64 0, .bool false, .int .i64 0] 65)).drewN nq).heap.size from HM2.out.size)
  clear HK HM HE HP HT
  generalize ((w.alloc (.cells #[.int .i64 t, .int .i64 1] 68)).alloc (.cells #[.int .i64 0, .int .i64 0, .bool false, .int .i64 0] 65)).drewN nq = W2 at *
  have c0 := blk_cell HP2.out 0 (by simp)
  have c1 := blk_cell HP2.out 1 (by simp)
  simp only [List.getElem_toArray, List.getElem_cons_zero, List.getElem_cons_succ] at c0 c1
  go_wp2_with fail
  refine (state_g HK2.out t).mono ?_
  rintro e w3 ⟨rfl, hb3⟩
  have HK3 := Lib.hid (HK2.out.same hb3)
  have HM3 := Lib.hid (HM2.out.trans (Mod.of_below (S := [ga, ha, hs]) hb3))
  have HE3 := Lib.hid (show w3.heap[w.heap.size + 1]? = some (.cells #[.int .i64 0, .int .i64 0, .bool false, .int .i64 0] 65) from (Mod.of_below (S := []) hb3).blk HE2.out (by simp))
  have HP3 := Lib.hid (show w3.heap[w.heap.size]? = some (.cells #[.int .i64 t, .int .i64 1] 68) from (Mod.of_below (S := []) hb3).blk HP2.out (by simp))
  have HZ3 := Lib.hid (show w.heap.size ≤ w3.heap.size from HM3.out.size)
  clear HK2 HM2 HE2 HP2 HZ2 hb3 c0 c1
  have c0 := blk_cell HP3.out 0 (by simp)
  have c1 := blk_cell HP3.out 1 (by simp)
  simp only [List.getElem_toArray, List.getElem_cons_zero, List.getElem_cons_succ] at c0 c1
  have hst := gst_in (spOf sp t)
  have g1 := HK3.out.cells.2
  generalize gst (spOf sp t) = st at *
  rcases hst with rfl | rfl | rfl | rfl
  all_goals
    cases b
    · go_wp2_with fail
      go_region_held3 (fun V => V.cell? ⟨w.heap.size, 0, none⟩ = some (.int .i64 t) ∧ V.cell? ⟨w.heap.size, 1, none⟩ = some (.int .i64 1) ∧ V.cell? ⟨gg, 1, none⟩ = some (.pointer (some ⟨gf, 0, none⟩)))
        (first | exact ⟨c0, c1, g1⟩ | exact k2)
        (first | (go_at_call 50; refine (HSt.out _ (HK3.out.drewN 1)).mono ?_; rintro e w4 ⟨rfl, hf4, hm4⟩; have H4 := Lib.hid ((HK3.out.drewN 1).acts hf4 hm4); have HP4 := Lib.hid (show w4.heap[w.heap.size]? = _ from hm4.blk (show (w3.drewN 1).heap[w.heap.size]? = _ from HP3.out) (by have := HG.out; simp; omega)); have k2 := held4 H4.out HP4.out))
      have HE4 := Lib.hid (show w4.heap[w.heap.size + 1]? = _ from hm4.blk (show (w3.drewN 1).heap[w.heap.size + 1]? = _ from HE3.out) (by have := HG.out; simp; omega))
      have HM4 := Lib.hid ((HM3.out.drewN 1).trans hm4)
      clear HK3 HM3 HE3 HP3 HZ3 hf4 hm4 k2 c0 c1 g1 HSt
      have HK3 := H4
      have HM3 := HM4
      have HE3 := HE4
      have HP3 := HP4
      have HZ3 := Lib.hid (show w.heap.size ≤ w4.heap.size from HM4.out.size)
      clear H4 HM4 HE4 HP4
      have c0 := blk_cell HP3.out 0 (by simp)
      have c1 := blk_cell HP3.out 1 (by simp)
      simp only [List.getElem_toArray, List.getElem_cons_zero, List.getElem_cons_succ] at c0 c1
      go_wp2_with fail
      go_quiet (fail)
      have HKn := Lib.hid (HK3.out.drewN nq)
      have HMn := Lib.hid (HM3.out.drewN nq)
      have HEn := Lib.hid (show (w4.drewN nq).heap[w.heap.size + 1]? = some (.cells #[.int .i64 0, .int .i64 0, .bool false, .int .i64 0] 65) from HE3.out)
      have HPn := Lib.hid (show (w4.drewN nq).heap[w.heap.size]? = some (.cells #[.int .i64 t, .int .i64 1] 68) from HP3.out)
      have HZn := Lib.hid (show w.heap.size ≤ (w4.drewN nq).heap.size from HMn.out.size)
      clear HK3 HM3 HE3 HP3 HZ3 c0 c1
      generalize w4.drewN nq = W5 at *
      have HK3 := HKn
      have HM3 := HMn
      have HE3 := HEn
      have HP3 := HPn
      have HZ3 := HZn
      clear HKn HMn HEn HPn HZn
      have c0 := blk_cell HP3.out 0 (by simp)
      have c1 := blk_cell HP3.out 1 (by simp)
      simp only [List.getElem_toArray, List.getElem_cons_zero, List.getElem_cons_succ] at c0 c1
      have d0 := blk_cell HE3.out 0 (by simp)
      have d1 := blk_cell HE3.out 1 (by simp)
      have d2 := blk_cell HE3.out 2 (by simp)
      have d3 := blk_cell HE3.out 3 (by simp)
      simp only [List.getElem_toArray, List.getElem_cons_zero, List.getElem_cons_succ] at d0 d1 d2 d3
      have f0 := blk_free HE3.out 0
      have f1 := blk_free HE3.out 1
      have f2 := blk_free HE3.out 2
      have f3 := blk_free HE3.out 3
      have k0 := blk_set HE3.out 0 (.int .i64 (5))
      have k1 := blk_set k0 1 (.int .i64 (t))
      have k2 := blk_set k1 2 (.bool false)
      have k3 := blk_set k2 3 (.int .i64 (0))
      have g0 := blk_cell k0 0 (by simp)
      have g1 := blk_cell k1 1 (by simp)
      have g2 := blk_cell k2 2 (by simp)
      have g3 := blk_cell k3 3 (by simp)
      simp at g0 g1 g2 g3
      clear k0 k1 k2 k3
      go_wp2_with fail
      refine bodyPost_ret (v := gev (5) (t) (0)) ?_ rfl ⟨rfl, ?_⟩
      · simp [gev, results, Tryz.results32, go_sem, g0, g1, g2, g3]
      · exact ev_end HK3.out HM3.out (x := w.heap.size + 1) (Nat.le_succ _) HG.out (((((Mod.refl [w.heap.size + 1] _).setCell (by simp) _).setCell (by simp) _).setCell (by simp) _).setCell (by simp) _)
    · go_wp2_with fail
      go_region_held3 (fun V => V.cell? ⟨w.heap.size, 0, none⟩ = some (.int .i64 t) ∧ V.cell? ⟨w.heap.size, 1, none⟩ = some (.int .i64 1) ∧ V.cell? ⟨gg, 1, none⟩ = some (.pointer (some ⟨gf, 0, none⟩)))
        (first | exact ⟨c0, c1, g1⟩ | exact k2)
        (first | (go_at_call 50; refine (HSt.out _ (HK3.out.drewN 1)).mono ?_; rintro e w4 ⟨rfl, hf4, hm4⟩; have H4 := Lib.hid ((HK3.out.drewN 1).acts hf4 hm4); have HP4 := Lib.hid (show w4.heap[w.heap.size]? = _ from hm4.blk (show (w3.drewN 1).heap[w.heap.size]? = _ from HP3.out) (by have := HG.out; simp; omega)); have k2 := held4 H4.out HP4.out))
      have HE4 := Lib.hid (show w4.heap[w.heap.size + 1]? = _ from hm4.blk (show (w3.drewN 1).heap[w.heap.size + 1]? = _ from HE3.out) (by have := HG.out; simp; omega))
      have HM4 := Lib.hid ((HM3.out.drewN 1).trans hm4)
      clear HK3 HM3 HE3 HP3 HZ3 hf4 hm4 k2 c0 c1 g1 HSt
      have HK3 := H4
      have HM3 := HM4
      have HE3 := HE4
      have HP3 := HP4
      have HZ3 := Lib.hid (show w.heap.size ≤ w4.heap.size from HM4.out.size)
      clear H4 HM4 HE4 HP4
      have c0 := blk_cell HP3.out 0 (by simp)
      have c1 := blk_cell HP3.out 1 (by simp)
      simp only [List.getElem_toArray, List.getElem_cons_zero, List.getElem_cons_succ] at c0 c1
      have d0 := blk_cell HE3.out 0 (by simp)
      have d1 := blk_cell HE3.out 1 (by simp)
      have d2 := blk_cell HE3.out 2 (by simp)
      have d3 := blk_cell HE3.out 3 (by simp)
      simp only [List.getElem_toArray, List.getElem_cons_zero, List.getElem_cons_succ] at d0 d1 d2 d3
      have f0 := blk_free HE3.out 0
      have f1 := blk_free HE3.out 1
      have f2 := blk_free HE3.out 2
      have f3 := blk_free HE3.out 3
      have k0 := blk_set HE3.out 0 (.int .i64 (1))
      have k1 := blk_set k0 1 (.int .i64 (t))
      have k2 := blk_set k1 2 (.bool false)
      have k3 := blk_set k2 3 (.int .i64 (0))
      have g0 := blk_cell k0 0 (by simp)
      have g1 := blk_cell k1 1 (by simp)
      have g2 := blk_cell k2 2 (by simp)
      have g3 := blk_cell k3 3 (by simp)
      simp at g0 g1 g2 g3
      clear k0 k1 k2 k3
      go_wp2_with fail
      refine bodyPost_ret (v := gev (1) (t) (0)) ?_ rfl ⟨rfl, ?_⟩
      · simp [gev, results, Tryz.results32, go_sem, g0, g1, g2, g3]
      · exact ev_end HK3.out HM3.out (x := w.heap.size + 1) (Nat.le_succ _) HG.out (((((Mod.refl [w.heap.size + 1] _).setCell (by simp) _).setCell (by simp) _).setCell (by simp) _).setCell (by simp) _)
set_option maxHeartbeats 8000000 in
set_option maxRecDepth 100000 in
theorem do_leave (n m : Nat) (ho : OkK p σ sp n m) (hm : m ≤ 100000) (t : Int) (ht : ¬ (t < 0 ∨ (sp.length : Int) ≤ t)) (b : Bool) (σ2 : Ar) (sp2 : List Sp) (hr : doK p σ sp 2 t = (b, σ2, sp2)) : Calls Tryz.prog 32 #[.pointer (some ⟨gg, 0, none⟩), .agg #[.int .i64 t, .int .i64 2]] w fun e w' => e = .returned (gev (if b then 3 else 5) t 0) ∧ GAt w' gg gf gl ga ha hs p σ2 sp2 ∧ Mod [ga, ha, hs] w w' := by
  have HSt := fun W (K : GAt W gg gf gl ga ha hs p σ sp) => Leave_flat K.fl n m ho hm t
  rw [hr] at HSt
  replace HSt := Lib.hid HSt
  clear ho hm hr
  have hb1 : Below w.heap.size w (w.alloc (.cells #[.int .i64 t, .int .i64 2] 68)) := below_new _ _
  have hb2 : Below w.heap.size w ((w.alloc (.cells #[.int .i64 t, .int .i64 2] 68)).alloc (.cells #[.int .i64 0, .int .i64 0, .bool false, .int .i64 0] 65)) := hb1.alloc hb1.size _
  have HE := Lib.hid (show ((w.alloc (.cells #[.int .i64 t, .int .i64 2] 68)).alloc (.cells #[.int .i64 0, .int .i64 0, .bool false, .int .i64 0] 65)).heap[w.heap.size + 1]? = some (.cells #[.int .i64 0, .int .i64 0, .bool false, .int .i64 0] 65) from by simpa using blk_new (w.alloc (.cells #[.int .i64 t, .int .i64 2] 68)) (.cells #[.int .i64 0, .int .i64 0, .bool false, .int .i64 0] 65))
  have HP := Lib.hid (show ((w.alloc (.cells #[.int .i64 t, .int .i64 2] 68)).alloc (.cells #[.int .i64 0, .int .i64 0, .bool false, .int .i64 0] 65)).heap[w.heap.size]? = some (.cells #[.int .i64 t, .int .i64 2] 68) from (heap_alloc_old _ _ (by simp)).trans (blk_new _ _))
  have hK := K.same hb2
  have HT := Lib.hid (fun n => threads_g (hK.drewN n))
  have HK := Lib.hid hK
  have HG := Lib.hid K.blocks
  have HM := Lib.hid (Mod.of_below (S := [ga, ha, hs]) hb2)
  clear K hK hb1 hb2
  have hr0 : ¬ t < 0 := by omega
  have hr1 : ¬ (sp.length : Int) ≤ t := by omega
  have hr2 : decide (t < 0) = false := decide_eq_false hr0
  have hr3 : decide ((sp.length : Int) ≤ t) = false := decide_eq_false hr1
  clear ht
  go_enter Tryz.func32, Tryz.ntmps32
  go_wp2_with fail
  go_quiet ((go_at_call 38; exact Calls.quiet_of_same (HT.out _)))
  have HK2 := Lib.hid (HK.out.drewN nq)
  have HM2 := Lib.hid (HM.out.drewN nq)
  have HE2 := Lib.hid (show (((w.alloc (.cells #[.int .i64 t, .int .i64 2] 68)).alloc (.cells #[.int .i64 0, .int .i64 0, .bool false, .int .i64 0] 65)).drewN nq).heap[w.heap.size + 1]? = some (.cells #[.int .i64 0, .int .i64 0, .bool false, .int .i64 0] 65) from HE.out)
  have HP2 := Lib.hid (show (((w.alloc (.cells #[.int .i64 t, .int .i64 2] 68)).alloc (.cells #[.int .i64 0, .int .i64 0, .bool false, .int .i64 0] 65)).drewN nq).heap[w.heap.size]? = some (.cells #[.int .i64 t, .int .i64 2] 68) from HP.out)
  have HZ2 := Lib.hid (show w.heap.size ≤ (((w.alloc (.cells #[.int .i64 t, .int .i64 2] 68)).alloc (.cells #[.int .i64 0, .int .i64 0, .bool false, .int .i64 0] 65)).drewN nq).heap.size from HM2.out.size)
  clear HK HM HE HP HT
  generalize ((w.alloc (.cells #[.int .i64 t, .int .i64 2] 68)).alloc (.cells #[.int .i64 0, .int .i64 0, .bool false, .int .i64 0] 65)).drewN nq = W2 at *
  have c0 := blk_cell HP2.out 0 (by simp)
  have c1 := blk_cell HP2.out 1 (by simp)
  simp only [List.getElem_toArray, List.getElem_cons_zero, List.getElem_cons_succ] at c0 c1
  go_wp2_with fail
  refine (state_g HK2.out t).mono ?_
  rintro e w3 ⟨rfl, hb3⟩
  have HK3 := Lib.hid (HK2.out.same hb3)
  have HM3 := Lib.hid (HM2.out.trans (Mod.of_below (S := [ga, ha, hs]) hb3))
  have HE3 := Lib.hid (show w3.heap[w.heap.size + 1]? = some (.cells #[.int .i64 0, .int .i64 0, .bool false, .int .i64 0] 65) from (Mod.of_below (S := []) hb3).blk HE2.out (by simp))
  have HP3 := Lib.hid (show w3.heap[w.heap.size]? = some (.cells #[.int .i64 t, .int .i64 2] 68) from (Mod.of_below (S := []) hb3).blk HP2.out (by simp))
  have HZ3 := Lib.hid (show w.heap.size ≤ w3.heap.size from HM3.out.size)
  clear HK2 HM2 HE2 HP2 HZ2 hb3 c0 c1
  have c0 := blk_cell HP3.out 0 (by simp)
  have c1 := blk_cell HP3.out 1 (by simp)
  simp only [List.getElem_toArray, List.getElem_cons_zero, List.getElem_cons_succ] at c0 c1
  have hst := gst_in (spOf sp t)
  have g1 := HK3.out.cells.2
  generalize gst (spOf sp t) = st at *
  rcases hst with rfl | rfl | rfl | rfl
  all_goals
    cases b
    · go_wp2_with fail
      go_quiet (fail)
      have HKn := Lib.hid (HK3.out.drewN nq)
      have HMn := Lib.hid (HM3.out.drewN nq)
      have HEn := Lib.hid (show (w3.drewN nq).heap[w.heap.size + 1]? = some (.cells #[.int .i64 0, .int .i64 0, .bool false, .int .i64 0] 65) from HE3.out)
      have HPn := Lib.hid (show (w3.drewN nq).heap[w.heap.size]? = some (.cells #[.int .i64 t, .int .i64 2] 68) from HP3.out)
      have HZn := Lib.hid (show w.heap.size ≤ (w3.drewN nq).heap.size from HMn.out.size)
      clear HK3 HM3 HE3 HP3 HZ3 c0 c1
      generalize w3.drewN nq = W4 at *
      have HK3 := HKn
      have HM3 := HMn
      have HE3 := HEn
      have HP3 := HPn
      have HZ3 := HZn
      clear HKn HMn HEn HPn HZn
      have c0 := blk_cell HP3.out 0 (by simp)
      have c1 := blk_cell HP3.out 1 (by simp)
      simp only [List.getElem_toArray, List.getElem_cons_zero, List.getElem_cons_succ] at c0 c1
      have g1 := HK3.out.cells.2
      go_wp2_with fail
      go_region_held3 (fun V => V.cell? ⟨w.heap.size, 0, none⟩ = some (.int .i64 t) ∧ V.cell? ⟨w.heap.size, 1, none⟩ = some (.int .i64 2) ∧ V.cell? ⟨gg, 1, none⟩ = some (.pointer (some ⟨gf, 0, none⟩)))
        (first | exact ⟨c0, c1, g1⟩ | exact k2)
        (first | (go_at_call 53; refine (HSt.out _ (HK3.out.drewN 1)).mono ?_; rintro e w4 ⟨rfl, hf4, hm4⟩; have H4 := Lib.hid ((HK3.out.drewN 1).acts hf4 hm4); have HP4 := Lib.hid (show w4.heap[w.heap.size]? = _ from hm4.blk (show (W4.drewN 1).heap[w.heap.size]? = _ from HP3.out) (by have := HG.out; simp; omega)); have k2 := held4 H4.out HP4.out))
      have HE4 := Lib.hid (show w4.heap[w.heap.size + 1]? = _ from hm4.blk (show (W4.drewN 1).heap[w.heap.size + 1]? = _ from HE3.out) (by have := HG.out; simp; omega))
      have HM4 := Lib.hid ((HM3.out.drewN 1).trans hm4)
      clear HK3 HM3 HE3 HP3 HZ3 hf4 hm4 k2 c0 c1 g1 HSt
      have HK3 := H4
      have HM3 := HM4
      have HE3 := HE4
      have HP3 := HP4
      have HZ3 := Lib.hid (show w.heap.size ≤ w4.heap.size from HM4.out.size)
      clear H4 HM4 HE4 HP4
      have c0 := blk_cell HP3.out 0 (by simp)
      have c1 := blk_cell HP3.out 1 (by simp)
      simp only [List.getElem_toArray, List.getElem_cons_zero, List.getElem_cons_succ] at c0 c1
      have HZZ := Lib.hid trivial
      have d0 := blk_cell HE3.out 0 (by simp)
      have d1 := blk_cell HE3.out 1 (by simp)
      have d2 := blk_cell HE3.out 2 (by simp)
      have d3 := blk_cell HE3.out 3 (by simp)
      simp only [List.getElem_toArray, List.getElem_cons_zero, List.getElem_cons_succ] at d0 d1 d2 d3
      have f0 := blk_free HE3.out 0
      have f1 := blk_free HE3.out 1
      have f2 := blk_free HE3.out 2
      have f3 := blk_free HE3.out 3
      have k0 := blk_set HE3.out 0 (.int .i64 (5))
      have k1 := blk_set k0 1 (.int .i64 (t))
      have k2 := blk_set k1 2 (.bool false)
      have k3 := blk_set k2 3 (.int .i64 (0))
      have g0 := blk_cell k0 0 (by simp)
      have g1 := blk_cell k1 1 (by simp)
      have g2 := blk_cell k2 2 (by simp)
      have g3 := blk_cell k3 3 (by simp)
      simp at g0 g1 g2 g3
      clear k0 k1 k2 k3
      go_wp2_with fail
      refine bodyPost_ret (v := gev (5) (t) (0)) ?_ rfl ⟨rfl, ?_⟩
      · simp [gev, results, Tryz.results32, go_sem, g0, g1, g2, g3]
      · exact ev_end HK3.out HM3.out (x := w.heap.size + 1) (Nat.le_succ _) HG.out (((((Mod.refl [w.heap.size + 1] _).setCell (by simp) _).setCell (by simp) _).setCell (by simp) _).setCell (by simp) _)
    · go_wp2_with fail
      go_quiet (fail)
      have HKn := Lib.hid (HK3.out.drewN nq)
      have HMn := Lib.hid (HM3.out.drewN nq)
      have HEn := Lib.hid (show (w3.drewN nq).heap[w.heap.size + 1]? = some (.cells #[.int .i64 0, .int .i64 0, .bool false, .int .i64 0] 65) from HE3.out)
      have HPn := Lib.hid (show (w3.drewN nq).heap[w.heap.size]? = some (.cells #[.int .i64 t, .int .i64 2] 68) from HP3.out)
      have HZn := Lib.hid (show w.heap.size ≤ (w3.drewN nq).heap.size from HMn.out.size)
      clear HK3 HM3 HE3 HP3 HZ3 c0 c1
      generalize w3.drewN nq = W4 at *
      have HK3 := HKn
      have HM3 := HMn
      have HE3 := HEn
      have HP3 := HPn
      have HZ3 := HZn
      clear HKn HMn HEn HPn HZn
      have c0 := blk_cell HP3.out 0 (by simp)
      have c1 := blk_cell HP3.out 1 (by simp)
      simp only [List.getElem_toArray, List.getElem_cons_zero, List.getElem_cons_succ] at c0 c1
      have g1 := HK3.out.cells.2
      go_wp2_with fail
      go_region_held3 (fun V => V.cell? ⟨w.heap.size, 0, none⟩ = some (.int .i64 t) ∧ V.cell? ⟨w.heap.size, 1, none⟩ = some (.int .i64 2) ∧ V.cell? ⟨gg, 1, none⟩ = some (.pointer (some ⟨gf, 0, none⟩)))
        (first | exact ⟨c0, c1, g1⟩ | exact k2)
        (first | (go_at_call 53; refine (HSt.out _ (HK3.out.drewN 1)).mono ?_; rintro e w4 ⟨rfl, hf4, hm4⟩; have H4 := Lib.hid ((HK3.out.drewN 1).acts hf4 hm4); have HP4 := Lib.hid (show w4.heap[w.heap.size]? = _ from hm4.blk (show (W4.drewN 1).heap[w.heap.size]? = _ from HP3.out) (by have := HG.out; simp; omega)); have k2 := held4 H4.out HP4.out))
      have HE4 := Lib.hid (show w4.heap[w.heap.size + 1]? = _ from hm4.blk (show (W4.drewN 1).heap[w.heap.size + 1]? = _ from HE3.out) (by have := HG.out; simp; omega))
      have HM4 := Lib.hid ((HM3.out.drewN 1).trans hm4)
      clear HK3 HM3 HE3 HP3 HZ3 hf4 hm4 k2 c0 c1 g1 HSt
      have HK3 := H4
      have HM3 := HM4
      have HE3 := HE4
      have HP3 := HP4
      have HZ3 := Lib.hid (show w.heap.size ≤ w4.heap.size from HM4.out.size)
      clear H4 HM4 HE4 HP4
      have c0 := blk_cell HP3.out 0 (by simp)
      have c1 := blk_cell HP3.out 1 (by simp)
      simp only [List.getElem_toArray, List.getElem_cons_zero, List.getElem_cons_succ] at c0 c1
      have d0 := blk_cell HE3.out 0 (by simp)
      have d1 := blk_cell HE3.out 1 (by simp)
      have d2 := blk_cell HE3.out 2 (by simp)
      have d3 := blk_cell HE3.out 3 (by simp)
      simp only [List.getElem_toArray, List.getElem_cons_zero, List.getElem_cons_succ] at d0 d1 d2 d3
      have f0 := blk_free HE3.out 0
      have f1 := blk_free HE3.out 1
      have f2 := blk_free HE3.out 2
      have f3 := blk_free HE3.out 3
      have k0 := blk_set HE3.out 0 (.int .i64 (3))
      have k1 := blk_set k0 1 (.int .i64 (t))
      have k2 := blk_set k1 2 (.bool false)
      have k3 := blk_set k2 3 (.int .i64 (0))
      have g0 := blk_cell k0 0 (by simp)
      have g1 := blk_cell k1 1 (by simp)
      have g2 := blk_cell k2 2 (by simp)
      have g3 := blk_cell k3 3 (by simp)
      simp at g0 g1 g2 g3
      clear k0 k1 k2 k3
      go_wp2_with fail
      refine bodyPost_ret (v := gev (3) (t) (0)) ?_ rfl ⟨rfl, ?_⟩
      · simp [gev, results, Tryz.results32, go_sem, g0, g1, g2, g3]
      · exact ev_end HK3.out HM3.out (x := w.heap.size + 1) (Nat.le_succ _) HG.out (((((Mod.refl [w.heap.size + 1] _).setCell (by simp) _).setCell (by simp) _).setCell (by simp) _).setCell (by simp) _)
end
end Go.Proofs.YthffhhgaeolpgaaGreat.Ga

