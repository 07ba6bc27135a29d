/- Merged texts: Rgc. -/
import Derived.Test.YthffhhgaeolpgaaGreatGq24
set_option linter.unusedVariables false
/- The document's gate of layer 21: Do: steps. -/
namespace Go.Proofs.YthffhhgaeolpgaaGreat.Ga
open Go.RowKit Go.Proofs.YthffhhgaeolpgaaGreat.Ara Go.Proofs.YthffhhgaeolpgaaGreat.Lok Go.Proofs.YthffhhgaeolpgaaGreat.Fl


section
variable {gy gK gL gr base hr : Nat} {p : PK} {ρ : Rf} {sp : List Sp} {w : World} (K : RG w gy gK gL gr base hr p ρ sp) (t want : Int) (ht : ¬ (t < 0 ∨ (sp.length : Int) ≤ t))
include K ht
set_option maxHeartbeats 8000000 in
set_option maxRecDepth 100000 in
theorem rdo_bad (hw : want < 0 ∨ 2 < want) : Calls Tryz.prog 33 #[.pointer (some ⟨gy, 0, none⟩), .agg #[.int .i64 t, .int .i64 want]] w fun e w' => e = .returned (gev 5 t 0) ∧ RG w' gy gK gL gr base hr p ρ sp ∧ RMs base [gr, hr] w w' := by
  have e0 := ibeq_no (show ¬ want = 0 by omega)
  have e1 := ibeq_no (show ¬ want = 1 by omega)
  have e2 := ibeq_no (show ¬ want = 2 by omega)
  clear hw
  have hb1 : Below w.heap.size w (w.alloc (.cells #[.int .i64 t, .int .i64 want] 68)) := below_new _ _
  have hb2 : Below w.heap.size w ((w.alloc (.cells #[.int .i64 t, .int .i64 want] 68)).alloc (.cells #[.int .i64 0, .int .i64 0, .bool false, .int .i64 0] 65)) := hb1.alloc hb1.size _
  have HE := Lib.hid (show ((w.alloc (.cells #[.int .i64 t, .int .i64 want] 68)).alloc (.cells #[.int .i64 0, .int .i64 0, .bool false, .int .i64 0] 65)).heap[w.heap.size + 1]? = some (.cells #[.int .i64 0, .int .i64 0, .bool false, .int .i64 0] 65 (0, 0)) from by simpa using blk_new (w.alloc (.cells #[.int .i64 t, .int .i64 want] 68)) (.cells #[.int .i64 0, .int .i64 0, .bool false, .int .i64 0] 65))
  have HP := Lib.hid (show ((w.alloc (.cells #[.int .i64 t, .int .i64 want] 68)).alloc (.cells #[.int .i64 0, .int .i64 0, .bool false, .int .i64 0] 65)).heap[w.heap.size]? = some (.cells #[.int .i64 t, .int .i64 want] 68 (0, 0)) from (heap_alloc_old _ _ (by simp)).trans (blk_new _ _))
  have hK := K.same hb2
  have ap := Lib.hid K.blocks
  obtain ⟨cc, hSp⟩ := rSpots_q hK.rl
  have HSp := Lib.hid hSp
  have HK := Lib.hid hK
  have HM := Lib.hid (RMs.of_mod (base := base) (Mod.of_below (S := [gr, hr]) hb2))
  have hz2 : ((w.alloc (.cells #[.int .i64 t, .int .i64 want] 68)).alloc (.cells #[.int .i64 0, .int .i64 0, .bool false, .int .i64 0] 65)).heap.size = w.heap.size + 2 := by simp
  obtain ⟨q0, q1⟩ := hK.cells
  obtain ⟨_, _, hl32, _⟩ := hK.rl.at_.facts
  clear K hK hb1 hb2 hSp
  have h0 : decide (t < 0) = false := decide_eq_false (by omega)
  have h1 : decide ((sp.length : Int) ≤ t) = false := decide_eq_false (by omega)
  have h0' : ¬ t < 0 := by omega
  have h1' : ¬ (sp.length : Int) ≤ t := by omega
  have hst := gst_in (spOf sp t)
  clear ht
  go_enter Tryz.func33, Tryz.ntmps33
  go_wp2_with fail
  go_quiet ((go_at_call 23; exact Calls.quiet_of_same (HSp.out _)))
  have HK2 := Lib.hid (HK.out.drewN nq)
  have HM2 := Lib.hid (HM.out.drewN nq)
  have HE2 := Lib.hid (show (((w.alloc (.cells #[.int .i64 t, .int .i64 want] 68)).alloc (.cells #[.int .i64 0, .int .i64 0, .bool false, .int .i64 0] 65)).drewN nq).heap[w.heap.size + 1]? = some (.cells #[.int .i64 0, .int .i64 0, .bool false, .int .i64 0] 65 (0, 0)) from HE.out)
  have HP2 := Lib.hid (show (((w.alloc (.cells #[.int .i64 t, .int .i64 want] 68)).alloc (.cells #[.int .i64 0, .int .i64 0, .bool false, .int .i64 0] 65)).drewN nq).heap[w.heap.size]? = some (.cells #[.int .i64 t, .int .i64 want] 68 (0, 0)) from HP.out)
  have hz3 : (((w.alloc (.cells #[.int .i64 t, .int .i64 want] 68)).alloc (.cells #[.int .i64 0, .int .i64 0, .bool false, .int .i64 0] 65)).drewN nq).heap.size = w.heap.size + 2 := hz2
  clear HK HM HE HP q0 q1 hz2
  generalize ((w.alloc (.cells #[.int .i64 t, .int .i64 want] 68)).alloc (.cells #[.int .i64 0, .int .i64 0, .bool false, .int .i64 0] 65)).drewN nq = W2 at *
  have c0 := blk_cell HP2.out 0 (by simp)
  simp only [List.getElem_toArray, List.getElem_cons_zero, List.getElem_cons_succ] at c0
  have HD := Lib.hid (show RDo gy gK gL gr base hr p ρ sp t want 0 w (W2.alloc (.cells #[.int .i64 0, .int .i64 t, .bool false, .int .i64 0] 65)) from ⟨HK2.out.same (below_new _ _), HM2.out.trans (RMs.of_mod (Mod.of_below (below_new _ _))), (heap_alloc_old _ _ (by omega)).trans HP2.out, (heap_alloc_old _ _ (by omega)).trans HE2.out, by rw [← hz3]; exact blk_new W2 (.cells #[.int .i64 0, .int .i64 t, .bool false, .int .i64 0] 65), ap.out⟩)
  clear HK2 HM2 HE2 HP2
  go_wp2_with fail
  refine (rstate21 HD.out.rg t).mono ?_
  rintro e w4 ⟨rfl, hb4⟩
  have H4 := Lib.hid (HD.out.same hb4)
  clear hb4 HD c0 hz3
  have c0 := blk_cell (H4.out).bp 0 (by simp)
  have c1 := blk_cell (H4.out).bp 1 (by simp)
  have a0 := blk_cell (H4.out).be 0 (by simp)
  have a1 := blk_cell (H4.out).be 1 (by simp)
  have a2 := blk_cell (H4.out).be 2 (by simp)
  have a3 := blk_cell (H4.out).be 3 (by simp)
  simp only [List.getElem_toArray, List.getElem_cons_zero, List.getElem_cons_succ] at c0 c1 a0 a1 a2 a3
  have fa0 := blk_free (H4.out).be 0
  have fa3 := blk_free (H4.out).be 3
  obtain ⟨q0, q1⟩ := (H4.out).rg.cells
  have HB := Lib.hid (blk_other H4.out.bo (p := ⟨w.heap.size + 2, 0, none⟩) (by simp) (.int .i64 5))
  generalize gst (spOf sp t) = st at *
  have d0 := blk_cell HB.out 0 (by simp)
  have d1 := blk_cell HB.out 1 (by simp)
  have d2 := blk_cell HB.out 2 (by simp)
  have d3 := blk_cell HB.out 3 (by simp)
  simp only [List.getElem_toArray, List.getElem_cons_zero, List.getElem_cons_succ] at d0 d1 d2 d3
  have f0 := blk_free HB.out 0
  have f1 := blk_free HB.out 1
  have f2 := blk_free HB.out 2
  have f3 := blk_free HB.out 3
  have k0 := blk_set HB.out 0 (.int .i64 (5))
  have k1 := blk_set k0 1 (.int .i64 (t))
  have k2 := blk_set k1 2 (.bool false)
  have k3 := blk_set k2 3 (.int .i64 (0))
  have g0 := blk_cell k0 0 (by simp)
  have g1 := blk_cell k1 1 (by simp)
  have g2 := blk_cell k2 2 (by simp)
  have g3 := blk_cell k3 3 (by simp)
  simp at g0 g1 g2 g3
  clear k0 k1 k2 k3
  go_wp2_with fail
  refine bodyPost_ret (v := gev (5) (t) (0)) ?_ rfl ⟨rfl, ?_⟩
  · simp [gev, results, Tryz.results33, go_sem, g0, g1, g2, g3]
  · exact (H4.out).fin ((((((Mod.refl [w.heap.size + 1, w.heap.size + 2] _).setCell (p := ⟨w.heap.size + 2, 0, none⟩) (by simp) (.int .i64 5)).setCell (by simp) _).setCell (by simp) _).setCell (by simp) _).setCell (by simp) _)
set_option maxHeartbeats 8000000 in
set_option maxRecDepth 100000 in
theorem rdo_stay (hw : want = 0) (hs0 : gst (spOf sp t) = 0 ∨ gst (spOf sp t) = 2) : Calls Tryz.prog 33 #[.pointer (some ⟨gy, 0, none⟩), .agg #[.int .i64 t, .int .i64 want]] w fun e w' => e = .returned (gev 0 t 0) ∧ RG w' gy gK gL gr base hr p ρ sp ∧ RMs base [gr, hr] w w' := by
  have e0 := ibeq hw
  clear hw
  have hb1 : Below w.heap.size w (w.alloc (.cells #[.int .i64 t, .int .i64 want] 68)) := below_new _ _
  have hb2 : Below w.heap.size w ((w.alloc (.cells #[.int .i64 t, .int .i64 want] 68)).alloc (.cells #[.int .i64 0, .int .i64 0, .bool false, .int .i64 0] 65)) := hb1.alloc hb1.size _
  have HE := Lib.hid (show ((w.alloc (.cells #[.int .i64 t, .int .i64 want] 68)).alloc (.cells #[.int .i64 0, .int .i64 0, .bool false, .int .i64 0] 65)).heap[w.heap.size + 1]? = some (.cells #[.int .i64 0, .int .i64 0, .bool false, .int .i64 0] 65 (0, 0)) from by simpa using blk_new (w.alloc (.cells #[.int .i64 t, .int .i64 want] 68)) (.cells #[.int .i64 0, .int .i64 0, .bool false, .int .i64 0] 65))
  have HP := Lib.hid (show ((w.alloc (.cells #[.int .i64 t, .int .i64 want] 68)).alloc (.cells #[.int .i64 0, .int .i64 0, .bool false, .int .i64 0] 65)).heap[w.heap.size]? = some (.cells #[.int .i64 t, .int .i64 want] 68 (0, 0)) from (heap_alloc_old _ _ (by simp)).trans (blk_new _ _))
  have hK := K.same hb2
  have ap := Lib.hid K.blocks
  obtain ⟨cc, hSp⟩ := rSpots_q hK.rl
  have HSp := Lib.hid hSp
  have HK := Lib.hid hK
  have HM := Lib.hid (RMs.of_mod (base := base) (Mod.of_below (S := [gr, hr]) hb2))
  have hz2 : ((w.alloc (.cells #[.int .i64 t, .int .i64 want] 68)).alloc (.cells #[.int .i64 0, .int .i64 0, .bool false, .int .i64 0] 65)).heap.size = w.heap.size + 2 := by simp
  obtain ⟨q0, q1⟩ := hK.cells
  obtain ⟨_, _, hl32, _⟩ := hK.rl.at_.facts
  clear K hK hb1 hb2 hSp
  have h0 : decide (t < 0) = false := decide_eq_false (by omega)
  have h1 : decide ((sp.length : Int) ≤ t) = false := decide_eq_false (by omega)
  have h0' : ¬ t < 0 := by omega
  have h1' : ¬ (sp.length : Int) ≤ t := by omega
  have hst := gst_in (spOf sp t)
  clear ht
  go_enter Tryz.func33, Tryz.ntmps33
  go_wp2_with fail
  go_quiet ((go_at_call 23; exact Calls.quiet_of_same (HSp.out _)))
  have HK2 := Lib.hid (HK.out.drewN nq)
  have HM2 := Lib.hid (HM.out.drewN nq)
  have HE2 := Lib.hid (show (((w.alloc (.cells #[.int .i64 t, .int .i64 want] 68)).alloc (.cells #[.int .i64 0, .int .i64 0, .bool false, .int .i64 0] 65)).drewN nq).heap[w.heap.size + 1]? = some (.cells #[.int .i64 0, .int .i64 0, .bool false, .int .i64 0] 65 (0, 0)) from HE.out)
  have HP2 := Lib.hid (show (((w.alloc (.cells #[.int .i64 t, .int .i64 want] 68)).alloc (.cells #[.int .i64 0, .int .i64 0, .bool false, .int .i64 0] 65)).drewN nq).heap[w.heap.size]? = some (.cells #[.int .i64 t, .int .i64 want] 68 (0, 0)) from HP.out)
  have hz3 : (((w.alloc (.cells #[.int .i64 t, .int .i64 want] 68)).alloc (.cells #[.int .i64 0, .int .i64 0, .bool false, .int .i64 0] 65)).drewN nq).heap.size = w.heap.size + 2 := hz2
  clear HK HM HE HP q0 q1 hz2
  generalize ((w.alloc (.cells #[.int .i64 t, .int .i64 want] 68)).alloc (.cells #[.int .i64 0, .int .i64 0, .bool false, .int .i64 0] 65)).drewN nq = W2 at *
  have c0 := blk_cell HP2.out 0 (by simp)
  simp only [List.getElem_toArray, List.getElem_cons_zero, List.getElem_cons_succ] at c0
  have HD := Lib.hid (show RDo gy gK gL gr base hr p ρ sp t want 0 w (W2.alloc (.cells #[.int .i64 0, .int .i64 t, .bool false, .int .i64 0] 65)) from ⟨HK2.out.same (below_new _ _), HM2.out.trans (RMs.of_mod (Mod.of_below (below_new _ _))), (heap_alloc_old _ _ (by omega)).trans HP2.out, (heap_alloc_old _ _ (by omega)).trans HE2.out, by rw [← hz3]; exact blk_new W2 (.cells #[.int .i64 0, .int .i64 t, .bool false, .int .i64 0] 65), ap.out⟩)
  clear HK2 HM2 HE2 HP2
  go_wp2_with fail
  refine (rstate21 HD.out.rg t).mono ?_
  rintro e w4 ⟨rfl, hb4⟩
  have H4 := Lib.hid (HD.out.same hb4)
  clear hb4 HD c0 hz3
  have c0 := blk_cell (H4.out).bp 0 (by simp)
  have c1 := blk_cell (H4.out).bp 1 (by simp)
  have a0 := blk_cell (H4.out).be 0 (by simp)
  have a1 := blk_cell (H4.out).be 1 (by simp)
  have a2 := blk_cell (H4.out).be 2 (by simp)
  have a3 := blk_cell (H4.out).be 3 (by simp)
  simp only [List.getElem_toArray, List.getElem_cons_zero, List.getElem_cons_succ] at c0 c1 a0 a1 a2 a3
  have fa0 := blk_free (H4.out).be 0
  have fa3 := blk_free (H4.out).be 3
  obtain ⟨q0, q1⟩ := (H4.out).rg.cells
  generalize gst (spOf sp t) = st at *
  clear hst
  rcases hs0 with rfl | rfl
  all_goals
    go_wp2_with fail
    go_quiet (fail)
    have H5 := Lib.hid (H4.out.drewN nq)
    clear H4 c0 c1 a0 a1 a2 a3 fa0 fa3 q0 q1
    generalize w4.drewN nq = w5 at *
    have c0 := blk_cell (H5.out).bp 0 (by simp)
    have c1 := blk_cell (H5.out).bp 1 (by simp)
    have a0 := blk_cell (H5.out).be 0 (by simp)
    have a1 := blk_cell (H5.out).be 1 (by simp)
    have a2 := blk_cell (H5.out).be 2 (by simp)
    have a3 := blk_cell (H5.out).be 3 (by simp)
    simp only [List.getElem_toArray, List.getElem_cons_zero, List.getElem_cons_succ] at c0 c1 a0 a1 a2 a3
    have fa0 := blk_free (H5.out).be 0
    have fa3 := blk_free (H5.out).be 3
    obtain ⟨q0, q1⟩ := (H5.out).rg.cells
    have d0 := blk_cell H5.out.bo 0 (by simp)
    have d1 := blk_cell H5.out.bo 1 (by simp)
    have d2 := blk_cell H5.out.bo 2 (by simp)
    have d3 := blk_cell H5.out.bo 3 (by simp)
    simp only [List.getElem_toArray, List.getElem_cons_zero, List.getElem_cons_succ] at d0 d1 d2 d3
    have f0 := blk_free H5.out.bo 0
    have f1 := blk_free H5.out.bo 1
    have f2 := blk_free H5.out.bo 2
    have f3 := blk_free H5.out.bo 3
    have k0 := blk_set H5.out.bo 0 (.int .i64 (0))
    have k1 := blk_set k0 1 (.int .i64 (t))
    have k2 := blk_set k1 2 (.bool false)
    have k3 := blk_set k2 3 (.int .i64 (0))
    have g0 := blk_cell k0 0 (by simp)
    have g1 := blk_cell k1 1 (by simp)
    have g2 := blk_cell k2 2 (by simp)
    have g3 := blk_cell k3 3 (by simp)
    simp at g0 g1 g2 g3
    clear k0 k1 k2 k3
    go_wp2_with fail
    refine bodyPost_ret (v := gev (0) (t) (0)) ?_ rfl ⟨rfl, ?_⟩
    · simp [gev, results, Tryz.results33, go_sem, g0, g1, g2, g3]
    · exact (H5.out).fin (((((Mod.refl [w.heap.size + 1, w.heap.size + 2] _).setCell (by simp) _).setCell (by simp) _).setCell (by simp) _).setCell (by simp) _)
set_option maxHeartbeats 8000000 in
set_option maxRecDepth 100000 in
theorem rdo_ask_no (hw : want = 1) (hs0 : ¬ gst (spOf sp t) = 0) : Calls Tryz.prog 33 #[.pointer (some ⟨gy, 0, none⟩), .agg #[.int .i64 t, .int .i64 want]] w fun e w' => e = .returned (gev 5 t 0) ∧ RG w' gy gK gL gr base hr p ρ sp ∧ RMs base [gr, hr] w w' := by
  have e0 := ibeq_no (show ¬ want = 0 by omega)
  have e1 := ibeq hw
  have e2 := ibeq_no (show ¬ want = 2 by omega)
  clear hw
  have hb1 : Below w.heap.size w (w.alloc (.cells #[.int .i64 t, .int .i64 want] 68)) := below_new _ _
  have hb2 : Below w.heap.size w ((w.alloc (.cells #[.int .i64 t, .int .i64 want] 68)).alloc (.cells #[.int .i64 0, .int .i64 0, .bool false, .int .i64 0] 65)) := hb1.alloc hb1.size _
  have HE := Lib.hid (show ((w.alloc (.cells #[.int .i64 t, .int .i64 want] 68)).alloc (.cells #[.int .i64 0, .int .i64 0, .bool false, .int .i64 0] 65)).heap[w.heap.size + 1]? = some (.cells #[.int .i64 0, .int .i64 0, .bool false, .int .i64 0] 65 (0, 0)) from by simpa using blk_new (w.alloc (.cells #[.int .i64 t, .int .i64 want] 68)) (.cells #[.int .i64 0, .int .i64 0, .bool false, .int .i64 0] 65))
  have HP := Lib.hid (show ((w.alloc (.cells #[.int .i64 t, .int .i64 want] 68)).alloc (.cells #[.int .i64 0, .int .i64 0, .bool false, .int .i64 0] 65)).heap[w.heap.size]? = some (.cells #[.int .i64 t, .int .i64 want] 68 (0, 0)) from (heap_alloc_old _ _ (by simp)).trans (blk_new _ _))
  have hK := K.same hb2
  have ap := Lib.hid K.blocks
  obtain ⟨cc, hSp⟩ := rSpots_q hK.rl
  have HSp := Lib.hid hSp
  have HK := Lib.hid hK
  have HM := Lib.hid (RMs.of_mod (base := base) (Mod.of_below (S := [gr, hr]) hb2))
  have hz2 : ((w.alloc (.cells #[.int .i64 t, .int .i64 want] 68)).alloc (.cells #[.int .i64 0, .int .i64 0, .bool false, .int .i64 0] 65)).heap.size = w.heap.size + 2 := by simp
  obtain ⟨q0, q1⟩ := hK.cells
  obtain ⟨_, _, hl32, _⟩ := hK.rl.at_.facts
  clear K hK hb1 hb2 hSp
  have h0 : decide (t < 0) = false := decide_eq_false (by omega)
  have h1 : decide ((sp.length : Int) ≤ t) = false := decide_eq_false (by omega)
  have h0' : ¬ t < 0 := by omega
  have h1' : ¬ (sp.length : Int) ≤ t := by omega
  have hst := gst_in (spOf sp t)
  clear ht
  go_enter Tryz.func33, Tryz.ntmps33
  go_wp2_with fail
  go_quiet ((go_at_call 23; exact Calls.quiet_of_same (HSp.out _)))
  have HK2 := Lib.hid (HK.out.drewN nq)
  have HM2 := Lib.hid (HM.out.drewN nq)
  have HE2 := Lib.hid (show (((w.alloc (.cells #[.int .i64 t, .int .i64 want] 68)).alloc (.cells #[.int .i64 0, .int .i64 0, .bool false, .int .i64 0] 65)).drewN nq).heap[w.heap.size + 1]? = some (.cells #[.int .i64 0, .int .i64 0, .bool false, .int .i64 0] 65 (0, 0)) from HE.out)
  have HP2 := Lib.hid (show (((w.alloc (.cells #[.int .i64 t, .int .i64 want] 68)).alloc (.cells #[.int .i64 0, .int .i64 0, .bool false, .int .i64 0] 65)).drewN nq).heap[w.heap.size]? = some (.cells #[.int .i64 t, .int .i64 want] 68 (0, 0)) from HP.out)
  have hz3 : (((w.alloc (.cells #[.int .i64 t, .int .i64 want] 68)).alloc (.cells #[.int .i64 0, .int .i64 0, .bool false, .int .i64 0] 65)).drewN nq).heap.size = w.heap.size + 2 := hz2
  clear HK HM HE HP q0 q1 hz2
  generalize ((w.alloc (.cells #[.int .i64 t, .int .i64 want] 68)).alloc (.cells #[.int .i64 0, .int .i64 0, .bool false, .int .i64 0] 65)).drewN nq = W2 at *
  have c0 := blk_cell HP2.out 0 (by simp)
  simp only [List.getElem_toArray, List.getElem_cons_zero, List.getElem_cons_succ] at c0
  have HD := Lib.hid (show RDo gy gK gL gr base hr p ρ sp t want 0 w (W2.alloc (.cells #[.int .i64 0, .int .i64 t, .bool false, .int .i64 0] 65)) from ⟨HK2.out.same (below_new _ _), HM2.out.trans (RMs.of_mod (Mod.of_below (below_new _ _))), (heap_alloc_old _ _ (by omega)).trans HP2.out, (heap_alloc_old _ _ (by omega)).trans HE2.out, by rw [← hz3]; exact blk_new W2 (.cells #[.int .i64 0, .int .i64 t, .bool false, .int .i64 0] 65), ap.out⟩)
  clear HK2 HM2 HE2 HP2
  go_wp2_with fail
  refine (rstate21 HD.out.rg t).mono ?_
  rintro e w4 ⟨rfl, hb4⟩
  have H4 := Lib.hid (HD.out.same hb4)
  clear hb4 HD c0 hz3
  have c0 := blk_cell (H4.out).bp 0 (by simp)
  have c1 := blk_cell (H4.out).bp 1 (by simp)
  have a0 := blk_cell (H4.out).be 0 (by simp)
  have a1 := blk_cell (H4.out).be 1 (by simp)
  have a2 := blk_cell (H4.out).be 2 (by simp)
  have a3 := blk_cell (H4.out).be 3 (by simp)
  simp only [List.getElem_toArray, List.getElem_cons_zero, List.getElem_cons_succ] at c0 c1 a0 a1 a2 a3
  have fa0 := blk_free (H4.out).be 0
  have fa3 := blk_free (H4.out).be 3
  obtain ⟨q0, q1⟩ := (H4.out).rg.cells
  have HB := Lib.hid (blk_other H4.out.bo (p := ⟨w.heap.size + 2, 0, none⟩) (by simp) (.int .i64 5))
  generalize gst (spOf sp t) = st at *
  have e3 := ibeq_no hs0
  clear hst hs0
  have d0 := blk_cell HB.out 0 (by simp)
  have d1 := blk_cell HB.out 1 (by simp)
  have d2 := blk_cell HB.out 2 (by simp)
  have d3 := blk_cell HB.out 3 (by simp)
  simp only [List.getElem_toArray, List.getElem_cons_zero, List.getElem_cons_succ] at d0 d1 d2 d3
  have f0 := blk_free HB.out 0
  have f1 := blk_free HB.out 1
  have f2 := blk_free HB.out 2
  have f3 := blk_free HB.out 3
  have k0 := blk_set HB.out 0 (.int .i64 (5))
  have k1 := blk_set k0 1 (.int .i64 (t))
  have k2 := blk_set k1 2 (.bool false)
  have k3 := blk_set k2 3 (.int .i64 (0))
  have g0 := blk_cell k0 0 (by simp)
  have g1 := blk_cell k1 1 (by simp)
  have g2 := blk_cell k2 2 (by simp)
  have g3 := blk_cell k3 3 (by simp)
  simp at g0 g1 g2 g3
  clear k0 k1 k2 k3
  go_wp2_with fail
  refine bodyPost_ret (v := gev (5) (t) (0)) ?_ rfl ⟨rfl, ?_⟩
  · simp [gev, results, Tryz.results33, go_sem, g0, g1, g2, g3]
  · exact (H4.out).fin ((((((Mod.refl [w.heap.size + 1, w.heap.size + 2] _).setCell (p := ⟨w.heap.size + 2, 0, none⟩) (by simp) (.int .i64 5)).setCell (by simp) _).setCell (by simp) _).setCell (by simp) _).setCell (by simp) _)
set_option maxHeartbeats 8000000 in
set_option maxRecDepth 100000 in
theorem rdo_leave_no (hw : want = 2) (hs0 : ¬ gst (spOf sp t) = 2) : Calls Tryz.prog 33 #[.pointer (some ⟨gy, 0, none⟩), .agg #[.int .i64 t, .int .i64 want]] w fun e w' => e = .returned (gev 5 t 0) ∧ RG w' gy gK gL gr base hr p ρ sp ∧ RMs base [gr, hr] w w' := by
  have e0 := ibeq_no (show ¬ want = 0 by omega)
  have e1 := ibeq_no (show ¬ want = 1 by omega)
  have e2 := ibeq hw
  clear hw
  have hb1 : Below w.heap.size w (w.alloc (.cells #[.int .i64 t, .int .i64 want] 68)) := below_new _ _
  have hb2 : Below w.heap.size w ((w.alloc (.cells #[.int .i64 t, .int .i64 want] 68)).alloc (.cells #[.int .i64 0, .int .i64 0, .bool false, .int .i64 0] 65)) := hb1.alloc hb1.size _
  have HE := Lib.hid (show ((w.alloc (.cells #[.int .i64 t, .int .i64 want] 68)).alloc (.cells #[.int .i64 0, .int .i64 0, .bool false, .int .i64 0] 65)).heap[w.heap.size + 1]? = some (.cells #[.int .i64 0, .int .i64 0, .bool false, .int .i64 0] 65 (0, 0)) from by simpa using blk_new (w.alloc (.cells #[.int .i64 t, .int .i64 want] 68)) (.cells #[.int .i64 0, .int .i64 0, .bool false, .int .i64 0] 65))
  have HP := Lib.hid (show ((w.alloc (.cells #[.int .i64 t, .int .i64 want] 68)).alloc (.cells #[.int .i64 0, .int .i64 0, .bool false, .int .i64 0] 65)).heap[w.heap.size]? = some (.cells #[.int .i64 t, .int .i64 want] 68 (0, 0)) from (heap_alloc_old _ _ (by simp)).trans (blk_new _ _))
  have hK := K.same hb2
  have ap := Lib.hid K.blocks
  obtain ⟨cc, hSp⟩ := rSpots_q hK.rl
  have HSp := Lib.hid hSp
  have HK := Lib.hid hK
  have HM := Lib.hid (RMs.of_mod (base := base) (Mod.of_below (S := [gr, hr]) hb2))
  have hz2 : ((w.alloc (.cells #[.int .i64 t, .int .i64 want] 68)).alloc (.cells #[.int .i64 0, .int .i64 0, .bool false, .int .i64 0] 65)).heap.size = w.heap.size + 2 := by simp
  obtain ⟨q0, q1⟩ := hK.cells
  obtain ⟨_, _, hl32, _⟩ := hK.rl.at_.facts
  clear K hK hb1 hb2 hSp
  have h0 : decide (t < 0) = false := decide_eq_false (by omega)
  have h1 : decide ((sp.length : Int) ≤ t) = false := decide_eq_false (by omega)
  have h0' : ¬ t < 0 := by omega
  have h1' : ¬ (sp.length : Int) ≤ t := by omega
  have hst := gst_in (spOf sp t)
  clear ht
  go_enter Tryz.func33, Tryz.ntmps33
  go_wp2_with fail
  go_quiet ((go_at_call 23; exact Calls.quiet_of_same (HSp.out _)))
  have HK2 := Lib.hid (HK.out.drewN nq)
  have HM2 := Lib.hid (HM.out.drewN nq)
  have HE2 := Lib.hid (show (((w.alloc (.cells #[.int .i64 t, .int .i64 want] 68)).alloc (.cells #[.int .i64 0, .int .i64 0, .bool false, .int .i64 0] 65)).drewN nq).heap[w.heap.size + 1]? = some (.cells #[.int .i64 0, .int .i64 0, .bool false, .int .i64 0] 65 (0, 0)) from HE.out)
  have HP2 := Lib.hid (show (((w.alloc (.cells #[.int .i64 t, .int .i64 want] 68)).alloc (.cells #[.int .i64 0, .int .i64 0, .bool false, .int .i64 0] 65)).drewN nq).heap[w.heap.size]? = some (.cells #[.int .i64 t, .int .i64 want] 68 (0, 0)) from HP.out)
  have hz3 : (((w.alloc (.cells #[.int .i64 t, .int .i64 want] 68)).alloc (.cells #[.int .i64 0, .int .i64 0, .bool false, .int .i64 0] 65)).drewN nq).heap.size = w.heap.size + 2 := hz2
  clear HK HM HE HP q0 q1 hz2
  generalize ((w.alloc (.cells #[.int .i64 t, .int .i64 want] 68)).alloc (.cells #[.int .i64 0, .int .i64 0, .bool false, .int .i64 0] 65)).drewN nq = W2 at *
  have c0 := blk_cell HP2.out 0 (by simp)
  simp only [List.getElem_toArray, List.getElem_cons_zero, List.getElem_cons_succ] at c0
  have HD := Lib.hid (show RDo gy gK gL gr base hr p ρ sp t want 0 w (W2.alloc (.cells #[.int .i64 0, .int .i64 t, .bool false, .int .i64 0] 65)) from ⟨HK2.out.same (below_new _ _), HM2.out.trans (RMs.of_mod (Mod.of_below (below_new _ _))), (heap_alloc_old _ _ (by omega)).trans HP2.out, (heap_alloc_old _ _ (by omega)).trans HE2.out, by rw [← hz3]; exact blk_new W2 (.cells #[.int .i64 0, .int .i64 t, .bool false, .int .i64 0] 65), ap.out⟩)
  clear HK2 HM2 HE2 HP2
  go_wp2_with fail
  refine (rstate21 HD.out.rg t).mono ?_
  rintro e w4 ⟨rfl, hb4⟩
  have H4 := Lib.hid (HD.out.same hb4)
  clear hb4 HD c0 hz3
  have c0 := blk_cell (H4.out).bp 0 (by simp)
  have c1 := blk_cell (H4.out).bp 1 (by simp)
  have a0 := blk_cell (H4.out).be 0 (by simp)
  have a1 := blk_cell (H4.out).be 1 (by simp)
  have a2 := blk_cell (H4.out).be 2 (by simp)
  have a3 := blk_cell (H4.out).be 3 (by simp)
  simp only [List.getElem_toArray, List.getElem_cons_zero, List.getElem_cons_succ] at c0 c1 a0 a1 a2 a3
  have fa0 := blk_free (H4.out).be 0
  have fa3 := blk_free (H4.out).be 3
  obtain ⟨q0, q1⟩ := (H4.out).rg.cells
  have HB := Lib.hid (blk_other H4.out.bo (p := ⟨w.heap.size + 2, 0, none⟩) (by simp) (.int .i64 5))
  generalize gst (spOf sp t) = st at *
  have e3 := ibeq_no hs0
  clear hst hs0
  have d0 := blk_cell HB.out 0 (by simp)
  have d1 := blk_cell HB.out 1 (by simp)
  have d2 := blk_cell HB.out 2 (by simp)
  have d3 := blk_cell HB.out 3 (by simp)
  simp only [List.getElem_toArray, List.getElem_cons_zero, List.getElem_cons_succ] at d0 d1 d2 d3
  have f0 := blk_free HB.out 0
  have f1 := blk_free HB.out 1
  have f2 := blk_free HB.out 2
  have f3 := blk_free HB.out 3
  have k0 := blk_set HB.out 0 (.int .i64 (5))
  have k1 := blk_set k0 1 (.int .i64 (t))
  have k2 := blk_set k1 2 (.bool false)
  have k3 := blk_set k2 3 (.int .i64 (0))
  have g0 := blk_cell k0 0 (by simp)
  have g1 := blk_cell k1 1 (by simp)
  have g2 := blk_cell k2 2 (by simp)
  have g3 := blk_cell k3 3 (by simp)
  simp at g0 g1 g2 g3
  clear k0 k1 k2 k3
  go_wp2_with fail
  refine bodyPost_ret (v := gev (5) (t) (0)) ?_ rfl ⟨rfl, ?_⟩
  · simp [gev, results, Tryz.results33, go_sem, g0, g1, g2, g3]
  · exact (H4.out).fin ((((((Mod.refl [w.heap.size + 1, w.heap.size + 2] _).setCell (p := ⟨w.heap.size + 2, 0, none⟩) (by simp) (.int .i64 5)).setCell (by simp) _).setCell (by simp) _).setCell (by simp) _).setCell (by simp) _)
variable {σ : Ar} (hA : Alk σ ρ) (n m : Nat) (ho : OkK p σ sp n m) (hm : m ≤ 100000) (b : Bool) (σ2 : Ar) (sp2 : List Sp)
include hA ho hm
set_option maxHeartbeats 8000000 in
set_option maxRecDepth 100000 in
theorem rdo_ask (hw : want = 1) (hs0 : gst (spOf sp t) = 0) (hd : doK p σ sp 1 t = (b, σ2, sp2)) : Calls Tryz.prog 33 #[.pointer (some ⟨gy, 0, none⟩), .agg #[.int .i64 t, .int .i64 want]] w fun e w' => e = .returned (gev 1 t 0) ∧ (∃ ρ', Alk σ2 ρ' ∧ RG w' gy gK gL gr base hr p ρ' sp2) ∧ RMs base [gr, hr] w w' := by
  have HS := fun W (K : RFL W gK gL gr base hr p ρ sp) => rAsk_flat K hA n m ho hm t
  rw [hd] at HS
  replace HS := Lib.hid HS
  have e0 := ibeq_no (show ¬ want = 0 by omega)
  have e1 := ibeq (show want = 1 by omega)
  have e2 := ibeq_no (show ¬ want = 2 by omega)
  have hw2 := Lib.hid hw
  clear hw hA ho hm hd
  have hb1 : Below w.heap.size w (w.alloc (.cells #[.int .i64 t, .int .i64 want] 68)) := below_new _ _
  have hb2 : Below w.heap.size w ((w.alloc (.cells #[.int .i64 t, .int .i64 want] 68)).alloc (.cells #[.int .i64 0, .int .i64 0, .bool false, .int .i64 0] 65)) := hb1.alloc hb1.size _
  have HE := Lib.hid (show ((w.alloc (.cells #[.int .i64 t, .int .i64 want] 68)).alloc (.cells #[.int .i64 0, .int .i64 0, .bool false, .int .i64 0] 65)).heap[w.heap.size + 1]? = some (.cells #[.int .i64 0, .int .i64 0, .bool false, .int .i64 0] 65 (0, 0)) from by simpa using blk_new (w.alloc (.cells #[.int .i64 t, .int .i64 want] 68)) (.cells #[.int .i64 0, .int .i64 0, .bool false, .int .i64 0] 65))
  have HP := Lib.hid (show ((w.alloc (.cells #[.int .i64 t, .int .i64 want] 68)).alloc (.cells #[.int .i64 0, .int .i64 0, .bool false, .int .i64 0] 65)).heap[w.heap.size]? = some (.cells #[.int .i64 t, .int .i64 want] 68 (0, 0)) from (heap_alloc_old _ _ (by simp)).trans (blk_new _ _))
  have hK := K.same hb2
  have ap := Lib.hid K.blocks
  obtain ⟨cc, hSp⟩ := rSpots_q hK.rl
  have HSp := Lib.hid hSp
  have HK := Lib.hid hK
  have HM := Lib.hid (RMs.of_mod (base := base) (Mod.of_below (S := [gr, hr]) hb2))
  have hz2 : ((w.alloc (.cells #[.int .i64 t, .int .i64 want] 68)).alloc (.cells #[.int .i64 0, .int .i64 0, .bool false, .int .i64 0] 65)).heap.size = w.heap.size + 2 := by simp
  obtain ⟨q0, q1⟩ := hK.cells
  obtain ⟨_, _, hl32, _⟩ := hK.rl.at_.facts
  clear K hK hb1 hb2 hSp
  have h0 : decide (t < 0) = false := decide_eq_false (by omega)
  have h1 : decide ((sp.length : Int) ≤ t) = false := decide_eq_false (by omega)
  have h0' : ¬ t < 0 := by omega
  have h1' : ¬ (sp.length : Int) ≤ t := by omega
  have hst := gst_in (spOf sp t)
  clear ht
  go_enter Tryz.func33, Tryz.ntmps33
  go_wp2_with fail
  go_quiet ((go_at_call 23; exact Calls.quiet_of_same (HSp.out _)))
  have HK2 := Lib.hid (HK.out.drewN nq)
  have HM2 := Lib.hid (HM.out.drewN nq)
  have HE2 := Lib.hid (show (((w.alloc (.cells #[.int .i64 t, .int .i64 want] 68)).alloc (.cells #[.int .i64 0, .int .i64 0, .bool false, .int .i64 0] 65)).drewN nq).heap[w.heap.size + 1]? = some (.cells #[.int .i64 0, .int .i64 0, .bool false, .int .i64 0] 65 (0, 0)) from HE.out)
  have HP2 := Lib.hid (show (((w.alloc (.cells #[.int .i64 t, .int .i64 want] 68)).alloc (.cells #[.int .i64 0, .int .i64 0, .bool false, .int .i64 0] 65)).drewN nq).heap[w.heap.size]? = some (.cells #[.int .i64 t, .int .i64 want] 68 (0, 0)) from HP.out)
  have hz3 : (((w.alloc (.cells #[.int .i64 t, .int .i64 want] 68)).alloc (.cells #[.int .i64 0, .int .i64 0, .bool false, .int .i64 0] 65)).drewN nq).heap.size = w.heap.size + 2 := hz2
  clear HK HM HE HP q0 q1 hz2
  generalize ((w.alloc (.cells #[.int .i64 t, .int .i64 want] 68)).alloc (.cells #[.int .i64 0, .int .i64 0, .bool false, .int .i64 0] 65)).drewN nq = W2 at *
  have c0 := blk_cell HP2.out 0 (by simp)
  simp only [List.getElem_toArray, List.getElem_cons_zero, List.getElem_cons_succ] at c0
  have HD := Lib.hid (show RDo gy gK gL gr base hr p ρ sp t want 0 w (W2.alloc (.cells #[.int .i64 0, .int .i64 t, .bool false, .int .i64 0] 65)) from ⟨HK2.out.same (below_new _ _), HM2.out.trans (RMs.of_mod (Mod.of_below (below_new _ _))), (heap_alloc_old _ _ (by omega)).trans HP2.out, (heap_alloc_old _ _ (by omega)).trans HE2.out, by rw [← hz3]; exact blk_new W2 (.cells #[.int .i64 0, .int .i64 t, .bool false, .int .i64 0] 65), ap.out⟩)
  clear HK2 HM2 HE2 HP2
  go_wp2_with fail
  refine (rstate21 HD.out.rg t).mono ?_
  rintro e w4 ⟨rfl, hb4⟩
  have H4 := Lib.hid (HD.out.same hb4)
  clear hb4 HD c0 hz3
  have c0 := blk_cell (H4.out).bp 0 (by simp)
  have c1 := blk_cell (H4.out).bp 1 (by simp)
  have a0 := blk_cell (H4.out).be 0 (by simp)
  have a1 := blk_cell (H4.out).be 1 (by simp)
  have a2 := blk_cell (H4.out).be 2 (by simp)
  have a3 := blk_cell (H4.out).be 3 (by simp)
  simp only [List.getElem_toArray, List.getElem_cons_zero, List.getElem_cons_succ] at c0 c1 a0 a1 a2 a3
  have fa0 := blk_free (H4.out).be 0
  have fa3 := blk_free (H4.out).be 3
  obtain ⟨q0, q1⟩ := (H4.out).rg.cells
  clear hst
  rw [hs0]
  clear hs0
  go_wp2_with fail
  have H6 := Lib.hid (H4.out.kind 5)
  clear H4 c0 c1 a0 a1 a2 a3 fa0 fa3 q0 q1
  have H4 := H6
  clear H6
  generalize w4.setCell ⟨w.heap.size + 2, 0, none⟩ (.int .i64 5) = w6 at *
  have c0 := blk_cell (H4.out).bp 0 (by simp)
  have c1 := blk_cell (H4.out).bp 1 (by simp)
  have a0 := blk_cell (H4.out).be 0 (by simp)
  have a1 := blk_cell (H4.out).be 1 (by simp)
  have a2 := blk_cell (H4.out).be 2 (by simp)
  have a3 := blk_cell (H4.out).be 3 (by simp)
  simp only [List.getElem_toArray, List.getElem_cons_zero, List.getElem_cons_succ] at c0 c1 a0 a1 a2 a3
  have fa0 := blk_free (H4.out).be 0
  have fa3 := blk_free (H4.out).be 3
  obtain ⟨q0, q1⟩ := (H4.out).rg.cells
  go_region_held3 (fun V => V.cell? ⟨gy, 1, none⟩ = some (.pointer (some ⟨gK, 0, none⟩)) ∧ V.cell? ⟨w.heap.size, 0, none⟩ = some (.int .i64 t))
    (first | exact ⟨q1, c0⟩ | exact k2)
    (first | (go_at_call 65; refine (HS.out _ (H4.out.drewN 1).rg.rl).mono ?_; rintro e w5 ⟨rfl, ⟨⟨ρ2, al2, hl5⟩, hm5⟩⟩; have H5 := Lib.hid ((H4.out.drewN 1).acts hl5 hm5); have k2 := And.intro H5.out.rg.cells.2 (blk_cell H5.out.bp 0 (by simp))))
  have HA2 := Lib.hid al2
  clear k2 hl5 hm5 al2 c0 c1 a0 a1 a2 a3 fa0 fa3 q0 q1 H4
  have c0 := blk_cell (H5.out).bp 0 (by simp)
  have c1 := blk_cell (H5.out).bp 1 (by simp)
  have a0 := blk_cell (H5.out).be 0 (by simp)
  have a1 := blk_cell (H5.out).be 1 (by simp)
  have a2 := blk_cell (H5.out).be 2 (by simp)
  have a3 := blk_cell (H5.out).be 3 (by simp)
  simp only [List.getElem_toArray, List.getElem_cons_zero, List.getElem_cons_succ] at c0 c1 a0 a1 a2 a3
  have fa0 := blk_free (H5.out).be 0
  have fa3 := blk_free (H5.out).be 3
  obtain ⟨q0, q1⟩ := (H5.out).rg.cells
  have HB := Lib.hid (blk_other H5.out.bo (p := ⟨w.heap.size + 2, 0, none⟩) (by simp) (.int .i64 1))
  have d0 := blk_cell HB.out 0 (by simp)
  have d1 := blk_cell HB.out 1 (by simp)
  have d2 := blk_cell HB.out 2 (by simp)
  have d3 := blk_cell HB.out 3 (by simp)
  simp only [List.getElem_toArray, List.getElem_cons_zero, List.getElem_cons_succ] at d0 d1 d2 d3
  have f0 := blk_free HB.out 0
  have f1 := blk_free HB.out 1
  have f2 := blk_free HB.out 2
  have f3 := blk_free HB.out 3
  have k0 := blk_set HB.out 0 (.int .i64 (1))
  have k1 := blk_set k0 1 (.int .i64 (t))
  have k2 := blk_set k1 2 (.bool false)
  have k3 := blk_set k2 3 (.int .i64 (0))
  have g0 := blk_cell k0 0 (by simp)
  have g1 := blk_cell k1 1 (by simp)
  have g2 := blk_cell k2 2 (by simp)
  have g3 := blk_cell k3 3 (by simp)
  simp at g0 g1 g2 g3
  clear k0 k1 k2 k3
  go_wp2_with fail
  refine bodyPost_ret (v := gev (1) (t) (0)) ?_ rfl ⟨rfl, ?_⟩
  · simp [gev, results, Tryz.results33, go_sem, g0, g1, g2, g3]
  · exact (fun h => ⟨⟨ρ2, HA2.out, h.1⟩, h.2⟩) (H5.out.fin ((((((Mod.refl [w.heap.size + 1, w.heap.size + 2] _).setCell (p := ⟨w.heap.size + 2, 0, none⟩) (by simp) (.int .i64 1)).setCell (by simp) _).setCell (by simp) _).setCell (by simp) _).setCell (by simp) _))
set_option maxHeartbeats 8000000 in
set_option maxRecDepth 100000 in
theorem rdo_leave (hw : want = 2) (hs0 : gst (spOf sp t) = 2) (hd : doK p σ sp 2 t = (b, σ2, sp2)) : Calls Tryz.prog 33 #[.pointer (some ⟨gy, 0, none⟩), .agg #[.int .i64 t, .int .i64 want]] w fun e w' => e = .returned (gev 3 t 0) ∧ (∃ ρ', Alk σ2 ρ' ∧ RG w' gy gK gL gr base hr p ρ' sp2) ∧ RMs base [gr, hr] w w' := by
  have HS := fun W (K : RFL W gK gL gr base hr p ρ sp) => rLeave_flat K hA n m ho hm t
  rw [hd] at HS
  replace HS := Lib.hid HS
  have e0 := ibeq_no (show ¬ want = 0 by omega)
  have e1 := ibeq_no (show ¬ want = 1 by omega)
  have e2 := ibeq (show want = 2 by omega)
  have hw2 := Lib.hid hw
  clear hw hA ho hm hd
  have hb1 : Below w.heap.size w (w.alloc (.cells #[.int .i64 t, .int .i64 want] 68)) := below_new _ _
  have hb2 : Below w.heap.size w ((w.alloc (.cells #[.int .i64 t, .int .i64 want] 68)).alloc (.cells #[.int .i64 0, .int .i64 0, .bool false, .int .i64 0] 65)) := hb1.alloc hb1.size _
  have HE := Lib.hid (show ((w.alloc (.cells #[.int .i64 t, .int .i64 want] 68)).alloc (.cells #[.int .i64 0, .int .i64 0, .bool false, .int .i64 0] 65)).heap[w.heap.size + 1]? = some (.cells #[.int .i64 0, .int .i64 0, .bool false, .int .i64 0] 65 (0, 0)) from by simpa using blk_new (w.alloc (.cells #[.int .i64 t, .int .i64 want] 68)) (.cells #[.int .i64 0, .int .i64 0, .bool false, .int .i64 0] 65))
  have HP := Lib.hid (show ((w.alloc (.cells #[.int .i64 t, .int .i64 want] 68)).alloc (.cells #[.int .i64 0, .int .i64 0, .bool false, .int .i64 0] 65)).heap[w.heap.size]? = some (.cells #[.int .i64 t, .int .i64 want] 68 (0, 0)) from (heap_alloc_old _ _ (by simp)).trans (blk_new _ _))
  have hK := K.same hb2
  have ap := Lib.hid K.blocks
  obtain ⟨cc, hSp⟩ := rSpots_q hK.rl
  have HSp := Lib.hid hSp
  have HK := Lib.hid hK
  have HM := Lib.hid (RMs.of_mod (base := base) (Mod.of_below (S := [gr, hr]) hb2))
  have hz2 : ((w.alloc (.cells #[.int .i64 t, .int .i64 want] 68)).alloc (.cells #[.int .i64 0, .int .i64 0, .bool false, .int .i64 0] 65)).heap.size = w.heap.size + 2 := by simp
  obtain ⟨q0, q1⟩ := hK.cells
  obtain ⟨_, _, hl32, _⟩ := hK.rl.at_.facts
  clear K hK hb1 hb2 hSp
  have h0 : decide (t < 0) = false := decide_eq_false (by omega)
  have h1 : decide ((sp.length : Int) ≤ t) = false := decide_eq_false (by omega)
  have h0' : ¬ t < 0 := by omega
  have h1' : ¬ (sp.length : Int) ≤ t := by omega
  have hst := gst_in (spOf sp t)
  clear ht
  go_enter Tryz.func33, Tryz.ntmps33
  go_wp2_with fail
  go_quiet ((go_at_call 23; exact Calls.quiet_of_same (HSp.out _)))
  have HK2 := Lib.hid (HK.out.drewN nq)
  have HM2 := Lib.hid (HM.out.drewN nq)
  have HE2 := Lib.hid (show (((w.alloc (.cells #[.int .i64 t, .int .i64 want] 68)).alloc (.cells #[.int .i64 0, .int .i64 0, .bool false, .int .i64 0] 65)).drewN nq).heap[w.heap.size + 1]? = some (.cells #[.int .i64 0, .int .i64 0, .bool false, .int .i64 0] 65 (0, 0)) from HE.out)
  have HP2 := Lib.hid (show (((w.alloc (.cells #[.int .i64 t, .int .i64 want] 68)).alloc (.cells #[.int .i64 0, .int .i64 0, .bool false, .int .i64 0] 65)).drewN nq).heap[w.heap.size]? = some (.cells #[.int .i64 t, .int .i64 want] 68 (0, 0)) from HP.out)
  have hz3 : (((w.alloc (.cells #[.int .i64 t, .int .i64 want] 68)).alloc (.cells #[.int .i64 0, .int .i64 0, .bool false, .int .i64 0] 65)).drewN nq).heap.size = w.heap.size + 2 := hz2
  clear HK HM HE HP q0 q1 hz2
  generalize ((w.alloc (.cells #[.int .i64 t, .int .i64 want] 68)).alloc (.cells #[.int .i64 0, .int .i64 0, .bool false, .int .i64 0] 65)).drewN nq = W2 at *
  have c0 := blk_cell HP2.out 0 (by simp)
  simp only [List.getElem_toArray, List.getElem_cons_zero, List.getElem_cons_succ] at c0
  have HD := Lib.hid (show RDo gy gK gL gr base hr p ρ sp t want 0 w (W2.alloc (.cells #[.int .i64 0, .int .i64 t, .bool false, .int .i64 0] 65)) from ⟨HK2.out.same (below_new _ _), HM2.out.trans (RMs.of_mod (Mod.of_below (below_new _ _))), (heap_alloc_old _ _ (by omega)).trans HP2.out, (heap_alloc_old _ _ (by omega)).trans HE2.out, by rw [← hz3]; exact blk_new W2 (.cells #[.int .i64 0, .int .i64 t, .bool false, .int .i64 0] 65), ap.out⟩)
  clear HK2 HM2 HE2 HP2
  go_wp2_with fail
  refine (rstate21 HD.out.rg t).mono ?_
  rintro e w4 ⟨rfl, hb4⟩
  have H4 := Lib.hid (HD.out.same hb4)
  clear hb4 HD c0 hz3
  have c0 := blk_cell (H4.out).bp 0 (by simp)
  have c1 := blk_cell (H4.out).bp 1 (by simp)
  have a0 := blk_cell (H4.out).be 0 (by simp)
  have a1 := blk_cell (H4.out).be 1 (by simp)
  have a2 := blk_cell (H4.out).be 2 (by simp)
  have a3 := blk_cell (H4.out).be 3 (by simp)
  simp only [List.getElem_toArray, List.getElem_cons_zero, List.getElem_cons_succ] at c0 c1 a0 a1 a2 a3
  have fa0 := blk_free (H4.out).be 0
  have fa3 := blk_free (H4.out).be 3
  obtain ⟨q0, q1⟩ := (H4.out).rg.cells
  clear hst
  rw [hs0]
  clear hs0
  go_wp2_with fail
  have H6 := Lib.hid (H4.out.kind 5)
  clear H4 c0 c1 a0 a1 a2 a3 fa0 fa3 q0 q1
  have H4 := H6
  clear H6
  generalize w4.setCell ⟨w.heap.size + 2, 0, none⟩ (.int .i64 5) = w6 at *
  have c0 := blk_cell (H4.out).bp 0 (by simp)
  have c1 := blk_cell (H4.out).bp 1 (by simp)
  have a0 := blk_cell (H4.out).be 0 (by simp)
  have a1 := blk_cell (H4.out).be 1 (by simp)
  have a2 := blk_cell (H4.out).be 2 (by simp)
  have a3 := blk_cell (H4.out).be 3 (by simp)
  simp only [List.getElem_toArray, List.getElem_cons_zero, List.getElem_cons_succ] at c0 c1 a0 a1 a2 a3
  have fa0 := blk_free (H4.out).be 0
  have fa3 := blk_free (H4.out).be 3
  obtain ⟨q0, q1⟩ := (H4.out).rg.cells
  go_region_held3 (fun V => V.cell? ⟨gy, 1, none⟩ = some (.pointer (some ⟨gK, 0, none⟩)) ∧ V.cell? ⟨w.heap.size, 0, none⟩ = some (.int .i64 t))
    (first | exact ⟨q1, c0⟩ | exact k2)
    (first | (go_at_call 66; refine (HS.out _ (H4.out.drewN 1).rg.rl).mono ?_; rintro e w5 ⟨rfl, ⟨⟨ρ2, al2, hl5⟩, hm5⟩⟩; have H5 := Lib.hid ((H4.out.drewN 1).acts hl5 hm5); have k2 := And.intro H5.out.rg.cells.2 (blk_cell H5.out.bp 0 (by simp))))
  have HA2 := Lib.hid al2
  clear k2 hl5 hm5 al2 c0 c1 a0 a1 a2 a3 fa0 fa3 q0 q1 H4
  have c0 := blk_cell (H5.out).bp 0 (by simp)
  have c1 := blk_cell (H5.out).bp 1 (by simp)
  have a0 := blk_cell (H5.out).be 0 (by simp)
  have a1 := blk_cell (H5.out).be 1 (by simp)
  have a2 := blk_cell (H5.out).be 2 (by simp)
  have a3 := blk_cell (H5.out).be 3 (by simp)
  simp only [List.getElem_toArray, List.getElem_cons_zero, List.getElem_cons_succ] at c0 c1 a0 a1 a2 a3
  have fa0 := blk_free (H5.out).be 0
  have fa3 := blk_free (H5.out).be 3
  obtain ⟨q0, q1⟩ := (H5.out).rg.cells
  have HB := Lib.hid (blk_other H5.out.bo (p := ⟨w.heap.size + 2, 0, none⟩) (by simp) (.int .i64 3))
  have d0 := blk_cell HB.out 0 (by simp)
  have d1 := blk_cell HB.out 1 (by simp)
  have d2 := blk_cell HB.out 2 (by simp)
  have d3 := blk_cell HB.out 3 (by simp)
  simp only [List.getElem_toArray, List.getElem_cons_zero, List.getElem_cons_succ] at d0 d1 d2 d3
  have f0 := blk_free HB.out 0
  have f1 := blk_free HB.out 1
  have f2 := blk_free HB.out 2
  have f3 := blk_free HB.out 3
  have k0 := blk_set HB.out 0 (.int .i64 (3))
  have k1 := blk_set k0 1 (.int .i64 (t))
  have k2 := blk_set k1 2 (.bool false)
  have k3 := blk_set k2 3 (.int .i64 (0))
  have g0 := blk_cell k0 0 (by simp)
  have g1 := blk_cell k1 1 (by simp)
  have g2 := blk_cell k2 2 (by simp)
  have g3 := blk_cell k3 3 (by simp)
  simp at g0 g1 g2 g3
  clear k0 k1 k2 k3
  go_wp2_with fail
  refine bodyPost_ret (v := gev (3) (t) (0)) ?_ rfl ⟨rfl, ?_⟩
  · simp [gev, results, Tryz.results33, go_sem, g0, g1, g2, g3]
  · exact (fun h => ⟨⟨ρ2, HA2.out, h.1⟩, h.2⟩) (H5.out.fin ((((((Mod.refl [w.heap.size + 1, w.heap.size + 2] _).setCell (p := ⟨w.heap.size + 2, 0, none⟩) (by simp) (.int .i64 3)).setCell (by simp) _).setCell (by simp) _).setCell (by simp) _).setCell (by simp) _))
end
end Go.Proofs.YthffhhgaeolpgaaGreat.Ga

