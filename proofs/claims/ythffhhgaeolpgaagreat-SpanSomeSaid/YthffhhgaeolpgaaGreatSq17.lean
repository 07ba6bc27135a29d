/- Merged texts: Ga3, Ga4, Fm. -/
import Derived.Test.YthffhhgaeolpgaaGreatSq16
import Derived.Maps.OwnSet
set_option linter.unusedVariables false
/- Package gate: what comes of a pick that asks, leaves or steps. -/
namespace Go.Proofs.YthffhhgaeolpgaaGreat.Ga
open Go.RowKit Go.Proofs.YthffhhgaeolpgaaGreat.Ara Go.Proofs.YthffhhgaeolpgaaGreat.Lok Go.Proofs.YthffhhgaeolpgaaGreat.Fl


section
variable {gg gf gl ga ha hs : Nat} {p : PK} {σ : Ar} {sp : List Sp} {w : World} (K : GAt w gg gf gl ga ha hs p σ sp)
include K
set_option maxHeartbeats 4000000 in
set_option maxRecDepth 100000 in
theorem do_way (n m : Nat) (ho : OkK p σ sp n m) (hm : m ≤ 100000) (t want : Int) (ht : ¬ (t < 0 ∨ (sp.length : Int) ≤ t)) (hw : want = 0) (hs0 : gst (spOf sp t) = 1 ∨ gst (spOf sp t) = 3) (b : Bool) (σ2 : Ar) (sp2 : List Sp) (hr : doK p σ sp 0 t = (b, σ2, sp2)) (k c : Int) (hkc : (k, c) = if b then (if gst (spOf sp t) = 1 then (2, 1) else (4, 0)) else ((0, 0) : Int × Int)) : Calls Tryz.prog 32 #[.pointer (some ⟨gg, 0, none⟩), .agg #[.int .i64 t, .int .i64 want]] w fun e w' => e = .returned (gev k t c) ∧ GAt w' gg gf gl ga ha hs p σ2 sp2 ∧ Mod [ga, ha, hs] w w' := by
  have HSt := Lib.hid (fun W (K : GAt W gg gf gl ga ha hs p σ sp) => step_g K n m ho hm t (gst (spOf sp t)) hs0 b σ2 sp2 hr k c hkc)
  clear ho hm hr hkc
  have hb1 : Below w.heap.size w (w.alloc (.cells #[.int .i64 t, .int .i64 want] 68)) := below_new _ _
  have hb2 : Below w.heap.size w ((w.alloc (.cells #[.int .i64 t, .int .i64 want] 68)).alloc (.cells #[.int .i64 0, .int .i64 0, .bool false, .int .i64 0] 65)) := hb1.alloc hb1.size _
  have HE := Lib.hid (show ((w.alloc (.cells #[.int .i64 t, .int .i64 want] 68)).alloc (.cells #[.int .i64 0, .int .i64 0, .bool false, .int .i64 0] 65)).heap[w.heap.size + 1]? = some (.cells #[.int .i64 0, .int .i64 0, .bool false, .int .i64 0] 65) from by simpa using blk_new (w.alloc (.cells #[.int .i64 t, .int .i64 want] 68)) (.cells #[.int .i64 0, .int .i64 0, .bool false, .int .i64 0] 65))
  have HP := Lib.hid (show ((w.alloc (.cells #[.int .i64 t, .int .i64 want] 68)).alloc (.cells #[.int .i64 0, .int .i64 0, .bool false, .int .i64 0] 65)).heap[w.heap.size]? = some (.cells #[.int .i64 t, .int .i64 want] 68) from (heap_alloc_old _ _ (by simp)).trans (blk_new _ _))
  have hK := K.same hb2
  have HT := Lib.hid (fun n => threads_g (hK.drewN n))
  have HK := Lib.hid hK
  have HG := Lib.hid K.blocks
  have HM := Lib.hid (Mod.of_below (S := [ga, ha, hs]) hb2)
  clear K hK hb1 hb2
  have hr0 : ¬ t < 0 := by omega
  have hr1 : ¬ (sp.length : Int) ≤ t := by omega
  have hr2 : decide (t < 0) = false := decide_eq_false hr0
  have hr3 : decide ((sp.length : Int) ≤ t) = false := decide_eq_false hr1
  have e0 := ibeq hw
  clear ht hw
  go_enter Tryz.func32, Tryz.ntmps32
  go_wp2_with fail
  go_quiet ((go_at_call 38; exact Calls.quiet_of_same (HT.out _)))
  have HK2 := Lib.hid (HK.out.drewN nq)
  have HM2 := Lib.hid (HM.out.drewN nq)
  have HE2 := Lib.hid (show (((w.alloc (.cells #[.int .i64 t, .int .i64 want] 68)).alloc (.cells #[.int .i64 0, .int .i64 0, .bool false, .int .i64 0] 65)).drewN nq).heap[w.heap.size + 1]? = some (.cells #[.int .i64 0, .int .i64 0, .bool false, .int .i64 0] 65) from HE.out)
  have HP2 := Lib.hid (show (((w.alloc (.cells #[.int .i64 t, .int .i64 want] 68)).alloc (.cells #[.int .i64 0, .int .i64 0, .bool false, .int .i64 0] 65)).drewN nq).heap[w.heap.size]? = some (.cells #[.int .i64 t, .int .i64 want] 68) from HP.out)
  have HZ2 := Lib.hid (show w.heap.size ≤ (((w.alloc (.cells #[.int .i64 t, .int .i64 want] 68)).alloc (.cells #[.int .i64 0, .int .i64 0, .bool false, .int .i64 0] 65)).drewN nq).heap.size from HM2.out.size)
  clear HK HM HE HP HT
  generalize ((w.alloc (.cells #[.int .i64 t, .int .i64 want] 68)).alloc (.cells #[.int .i64 0, .int .i64 0, .bool false, .int .i64 0] 65)).drewN nq = W2 at *
  have c0 := blk_cell HP2.out 0 (by simp)
  have c1 := blk_cell HP2.out 1 (by simp)
  simp only [List.getElem_toArray, List.getElem_cons_zero, List.getElem_cons_succ] at c0 c1
  go_wp2_with fail
  refine (state_g HK2.out t).mono ?_
  rintro e w3 ⟨rfl, hb3⟩
  have HK3 := Lib.hid (HK2.out.same hb3)
  have HM3 := Lib.hid (HM2.out.trans (Mod.of_below (S := [ga, ha, hs]) hb3))
  have HE3 := Lib.hid (show w3.heap[w.heap.size + 1]? = some (.cells #[.int .i64 0, .int .i64 0, .bool false, .int .i64 0] 65) from (Mod.of_below (S := []) hb3).blk HE2.out (by simp))
  have HP3 := Lib.hid (show w3.heap[w.heap.size]? = some (.cells #[.int .i64 t, .int .i64 want] 68) from (Mod.of_below (S := []) hb3).blk HP2.out (by simp))
  have HZ3 := Lib.hid (show w.heap.size ≤ w3.heap.size from HM3.out.size)
  clear HK2 HM2 HE2 HP2 HZ2 hb3 c0 c1
  have c0 := blk_cell HP3.out 0 (by simp)
  have c1 := blk_cell HP3.out 1 (by simp)
  simp only [List.getElem_toArray, List.getElem_cons_zero, List.getElem_cons_succ] at c0 c1
  have hst := gst_in (spOf sp t)
  clear hst
  generalize gst (spOf sp t) = st at *
  rcases hs0 with rfl | rfl
  all_goals
    go_wp2_with fail
    refine (HSt.out _ HK3.out).mono ?_
    rintro e w4 ⟨rfl, hk4, hm4⟩
    have hgb := HG.out
    have HE4 := Lib.hid (hm4.blk HE3.out (by simp; omega))
    have HK5 := Lib.hid hk4
    have HM5 := Lib.hid (HM3.out.trans hm4)
    clear hk4 hm4 HK3 HM3 HE3 HP3 HZ3 c0 c1 hgb HSt
    simp only [gev]
    have d0 := blk_cell HE4.out 0 (by simp)
    have d1 := blk_cell HE4.out 1 (by simp)
    have d2 := blk_cell HE4.out 2 (by simp)
    have d3 := blk_cell HE4.out 3 (by simp)
    simp only [List.getElem_toArray, List.getElem_cons_zero, List.getElem_cons_succ] at d0 d1 d2 d3
    have f0 := blk_free HE4.out 0
    have f1 := blk_free HE4.out 1
    have f2 := blk_free HE4.out 2
    have f3 := blk_free HE4.out 3
    have k0 := blk_set HE4.out 0 (.int .i64 (k))
    have k1 := blk_set k0 1 (.int .i64 (t))
    have k2 := blk_set k1 2 (.bool false)
    have k3 := blk_set k2 3 (.int .i64 (c))
    have g0 := blk_cell k0 0 (by simp)
    have g1 := blk_cell k1 1 (by simp)
    have g2 := blk_cell k2 2 (by simp)
    have g3 := blk_cell k3 3 (by simp)
    simp at g0 g1 g2 g3
    clear k0 k1 k2 k3
    go_wp2_with fail
    refine bodyPost_ret (v := gev (k) (t) (c)) ?_ rfl ⟨rfl, ?_⟩
    · simp [gev, results, Tryz.results32, go_sem, g0, g1, g2, g3]
    · exact ev_end HK5.out HM5.out (x := w.heap.size + 1) (Nat.le_succ _) HG.out (((((Mod.refl [w.heap.size + 1] _).setCell (by simp) _).setCell (by simp) _).setCell (by simp) _).setCell (by simp) _)
omit K in
theorem held4 {W : World} {σ : Ar} {sp : List Sp} {t want : Int} {x : Nat} (k : GAt W gg gf gl ga ha hs p σ sp) (hP : W.heap[x]? = some (.cells #[.int .i64 t, .int .i64 want] 68)) : W.cell? ⟨x, 0, none⟩ = some (.int .i64 t) ∧ W.cell? ⟨x, 1, none⟩ = some (.int .i64 want) ∧ W.cell? ⟨gg, 1, none⟩ = some (.pointer (some ⟨gf, 0, none⟩)) :=
  ⟨blk_cell hP 0 (by simp), blk_cell hP 1 (by simp), k.cells.2⟩
set_option maxHeartbeats 8000000 in
set_option maxRecDepth 100000 in
theorem do_ask (n m : Nat) (ho : OkK p σ sp n m) (hm : m ≤ 100000) (t : Int) (ht : ¬ (t < 0 ∨ (sp.length : Int) ≤ t)) (b : Bool) (σ2 : Ar) (sp2 : List Sp) (hr : doK p σ sp 1 t = (b, σ2, sp2)) : Calls Tryz.prog 32 #[.pointer (some ⟨gg, 0, none⟩), .agg #[.int .i64 t, .int .i64 1]] w fun e w' => e = .returned (gev (if b then 1 else 5) t 0) ∧ GAt w' gg gf gl ga ha hs p σ2 sp2 ∧ Mod [ga, ha, hs] w w' := by
  have HSt := fun W (K : GAt W gg gf gl ga ha hs p σ sp) => Ask_flat K.fl n m ho hm t
  rw [hr] at HSt
  replace HSt := Lib.hid HSt
  clear ho hm hr
  have hb1 : Below w.heap.size w (w.alloc (.cells #[.int .i64 t, .int .i64 1] 68)) := below_new _ _
  have hb2 : Below w.heap.size w ((w.alloc (.cells #[.int .i64 t, .int .i64 1] 68)).alloc (.cells #[.int .i64 0, .int .i64 0, .bool false, .int .i64 0] 65)) := hb1.alloc hb1.size _
  have HE := Lib.hid (show ((w.alloc (.cells #[.int .i64 t, .int .i64 1] 68)).alloc (.cells #[.int .i64 0, .int .i64 0, .bool false, .int .i64 0] 65)).heap[w.heap.size + 1]? = some (.cells #[.int .i64 0, .int .i64 0, .bool false, .int .i64 0] 65) from by simpa using blk_new (w.alloc (.cells #[.int .i64 t, .int .i64 1] 68)) (.cells #[.int .i64 0, .int .i64 0, .bool false, .int .i64 0] 65))
  have HP := Lib.hid (show ((w.alloc (.cells #[.int .i64 t, .int .i64 1] 68)).alloc (.cells #[.int .i64 0, .int .i64 0, .bool false, .int .i64 0] 65)).heap[w.heap.size]? = some (.cells #[.int .i64 t, .int .i64 1] 68) from (heap_alloc_old _ _ (by simp)).trans (blk_new _ _))
  have hK := K.same hb2
  have HT := Lib.hid (fun n => threads_g (hK.drewN n))
  have HK := Lib.hid hK
  have HG := Lib.hid K.blocks
  have HM := Lib.hid (Mod.of_below (S := [ga, ha, hs]) hb2)
  clear K hK hb1 hb2
  have hr0 : ¬ t < 0 := by omega
  have hr1 : ¬ (sp.length : Int) ≤ t := by omega
  have hr2 : decide (t < 0) = false := decide_eq_false hr0
  have hr3 : decide ((sp.length : Int) ≤ t) = false := decide_eq_false hr1
  clear ht
  go_enter Tryz.func32, Tryz.ntmps32
  go_wp2_with fail
  go_quiet ((go_at_call 38; exact Calls.quiet_of_same (HT.out _)))
  have HK2 := Lib.hid (HK.out.drewN nq)
  have HM2 := Lib.hid (HM.out.drewN nq)
  have HE2 := Lib.hid (show (((w.alloc (.cells #[.int .i64 t, .int .i64 1] 68)).alloc (.cells #[.int .i64 0, .int .i64 0, .bool false, .int .i64 0] 65)).drewN nq).heap[w.heap.size + 1]? = some (.cells #[.int .i64 0, .int .i64 0, .bool false, .int .i64 0] 65) from HE.out)
  have HP2 := Lib.hid (show (((w.alloc (.cells #[.int .i64 t, .int .i64 1] 68)).alloc (.cells #[.int .i64 0, .int .i64 0, .bool false, .int .i64 0] 65)).drewN nq).heap[w.heap.size]? = some (.cells #[.int .i64 t, .int .i64 1] 68) from HP.out)
  have HZ2 := Lib.hid (show w.heap.size ≤ (((w.alloc (.cells #[.int .i64 t, .int .i64 1] 68)).alloc (.cells #[.int .i64 0, .int .i64 0, .bool false, .int .i64 0] 65)).drewN nq).heap.size from HM2.out.size)
  clear HK HM HE HP HT
  generalize ((w.alloc (.cells #[.int .i64 t, .int .i64 1] 68)).alloc (.cells #[.int .i64 0, .int .i64 0, .bool false, .int .i64 0] 65)).drewN nq = W2 at *
  have c0 := blk_cell HP2.out 0 (by simp)
  have c1 := blk_cell HP2.out 1 (by simp)
  simp only [List.getElem_toArray, List.getElem_cons_zero, List.getElem_cons_succ] at c0 c1
  go_wp2_with fail
  refine (state_g HK2.out t).mono ?_
  rintro e w3 ⟨rfl, hb3⟩
  have HK3 := Lib.hid (HK2.out.same hb3)
  have HM3 := Lib.hid (HM2.out.trans (Mod.of_below (S := [ga, ha, hs]) hb3))
  have HE3 := Lib.hid (show w3.heap[w.heap.size + 1]? = some (.cells #[.int .i64 0, .int .i64 0, .bool false, .int .i64 0] 65) from (Mod.of_below (S := []) hb3).blk HE2.out (by simp))
  have HP3 := Lib.hid (show w3.heap[w.heap.size]? = some (.cells #[.int .i64 t, .int .i64 1] 68) from (Mod.of_below (S := []) hb3).blk HP2.out (by simp))
  have HZ3 := Lib.hid (show w.heap.size ≤ w3.heap.size from HM3.out.size)
  clear HK2 HM2 HE2 HP2 HZ2 hb3 c0 c1
  have c0 := blk_cell HP3.out 0 (by simp)
  have c1 := blk_cell HP3.out 1 (by simp)
  simp only [List.getElem_toArray, List.getElem_cons_zero, List.getElem_cons_succ] at c0 c1
  have hst := gst_in (spOf sp t)
  have g1 := HK3.out.cells.2
  generalize gst (spOf sp t) = st at *
  rcases hst with rfl | rfl | rfl | rfl
  all_goals
    cases b
    · go_wp2_with fail
      go_region_held3 (fun V => V.cell? ⟨w.heap.size, 0, none⟩ = some (.int .i64 t) ∧ V.cell? ⟨w.heap.size, 1, none⟩ = some (.int .i64 1) ∧ V.cell? ⟨gg, 1, none⟩ = some (.pointer (some ⟨gf, 0, none⟩)))
        (first | exact ⟨c0, c1, g1⟩ | exact k2)
        (first | (go_at_call 50; refine (HSt.out _ (HK3.out.drewN 1)).mono ?_; rintro e w4 ⟨rfl, hf4, hm4⟩; have H4 := Lib.hid ((HK3.out.drewN 1).acts hf4 hm4); have HP4 := Lib.hid (show w4.heap[w.heap.size]? = _ from hm4.blk (show (w3.drewN 1).heap[w.heap.size]? = _ from HP3.out) (by have := HG.out; simp; omega)); have k2 := held4 H4.out HP4.out))
      have HE4 := Lib.hid (show w4.heap[w.heap.size + 1]? = _ from hm4.blk (show (w3.drewN 1).heap[w.heap.size + 1]? = _ from HE3.out) (by have := HG.out; simp; omega))
      have HM4 := Lib.hid ((HM3.out.drewN 1).trans hm4)
      clear HK3 HM3 HE3 HP3 HZ3 hf4 hm4 k2 c0 c1 g1 HSt
      have HK3 := H4
      have HM3 := HM4
      have HE3 := HE4
      have HP3 := HP4
      have HZ3 := Lib.hid (show w.heap.size ≤ w4.heap.size from HM4.out.size)
      clear H4 HM4 HE4 HP4
      have c0 := blk_cell HP3.out 0 (by simp)
      have c1 := blk_cell HP3.out 1 (by simp)
      simp only [List.getElem_toArray, List.getElem_cons_zero, List.getElem_cons_succ] at c0 c1
      go_wp2_with fail
      go_quiet (fail)
      have HKn := Lib.hid (HK3.out.drewN nq)
      have HMn := Lib.hid (HM3.out.drewN nq)
      have HEn := Lib.hid (show (w4.drewN nq).heap[w.heap.size + 1]? = some (.cells #[.int .i64 0, .int .i64 0, .bool false, .int .i64 0] 65) from HE3.out)
      have HPn := Lib.hid (show (w4.drewN nq).heap[w.heap.size]? = some (.cells #[.int .i64 t, .int .i64 1] 68) from HP3.out)
      have HZn := Lib.hid (show w.heap.size ≤ (w4.drewN nq).heap.size from HMn.out.size)
      clear HK3 HM3 HE3 HP3 HZ3 c0 c1
      generalize w4.drewN nq = W5 at *
      have HK3 := HKn
      have HM3 := HMn
      have HE3 := HEn
      have HP3 := HPn
      have HZ3 := HZn
      clear HKn HMn HEn HPn HZn
      have c0 := blk_cell HP3.out 0 (by simp)
      have c1 := blk_cell HP3.out 1 (by simp)
      simp only [List.getElem_toArray, List.getElem_cons_zero, List.getElem_cons_succ] at c0 c1
      have d0 := blk_cell HE3.out 0 (by simp)
      have d1 := blk_cell HE3.out 1 (by simp)
      have d2 := blk_cell HE3.out 2 (by simp)
      have d3 := blk_cell HE3.out 3 (by simp)
      simp only [List.getElem_toArray, List.getElem_cons_zero, List.getElem_cons_succ] at d0 d1 d2 d3
      have f0 := blk_free HE3.out 0
      have f1 := blk_free HE3.out 1
      have f2 := blk_free HE3.out 2
      have f3 := blk_free HE3.out 3
      have k0 := blk_set HE3.out 0 (.int .i64 (5))
      have k1 := blk_set k0 1 (.int .i64 (t))
      have k2 := blk_set k1 2 (.bool false)
      have k3 := blk_set k2 3 (.int .i64 (0))
      have g0 := blk_cell k0 0 (by simp)
      have g1 := blk_cell k1 1 (by simp)
      have g2 := blk_cell k2 2 (by simp)
      have g3 := blk_cell k3 3 (by simp)
      simp at g0 g1 g2 g3
      clear k0 k1 k2 k3
      go_wp2_with fail
      refine bodyPost_ret (v := gev (5) (t) (0)) ?_ rfl ⟨rfl, ?_⟩
      · simp [gev, results, Tryz.results32, go_sem, g0, g1, g2, g3]
      · exact ev_end HK3.out HM3.out (x := w.heap.size + 1) (Nat.le_succ _) HG.out (((((Mod.refl [w.heap.size + 1] _).setCell (by simp) _).setCell (by simp) _).setCell (by simp) _).setCell (by simp) _)
    · go_wp2_with fail
      go_region_held3 (fun V => V.cell? ⟨w.heap.size, 0, none⟩ = some (.int .i64 t) ∧ V.cell? ⟨w.heap.size, 1, none⟩ = some (.int .i64 1) ∧ V.cell? ⟨gg, 1, none⟩ = some (.pointer (some ⟨gf, 0, none⟩)))
        (first | exact ⟨c0, c1, g1⟩ | exact k2)
        (first | (go_at_call 50; refine (HSt.out _ (HK3.out.drewN 1)).mono ?_; rintro e w4 ⟨rfl, hf4, hm4⟩; have H4 := Lib.hid ((HK3.out.drewN 1).acts hf4 hm4); have HP4 := Lib.hid (show w4.heap[w.heap.size]? = _ from hm4.blk (show (w3.drewN 1).heap[w.heap.size]? = _ from HP3.out) (by have := HG.out; simp; omega)); have k2 := held4 H4.out HP4.out))
      have HE4 := Lib.hid (show w4.heap[w.heap.size + 1]? = _ from hm4.blk (show (w3.drewN 1).heap[w.heap.size + 1]? = _ from HE3.out) (by have := HG.out; simp; omega))
      have HM4 := Lib.hid ((HM3.out.drewN 1).trans hm4)
      clear HK3 HM3 HE3 HP3 HZ3 hf4 hm4 k2 c0 c1 g1 HSt
      have HK3 := H4
      have HM3 := HM4
      have HE3 := HE4
      have HP3 := HP4
      have HZ3 := Lib.hid (show w.heap.size ≤ w4.heap.size from HM4.out.size)
      clear H4 HM4 HE4 HP4
      have c0 := blk_cell HP3.out 0 (by simp)
      have c1 := blk_cell HP3.out 1 (by simp)
      simp only [List.getElem_toArray, List.getElem_cons_zero, List.getElem_cons_succ] at c0 c1
      have d0 := blk_cell HE3.out 0 (by simp)
      have d1 := blk_cell HE3.out 1 (by simp)
      have d2 := blk_cell HE3.out 2 (by simp)
      have d3 := blk_cell HE3.out 3 (by simp)
      simp only [List.getElem_toArray, List.getElem_cons_zero, List.getElem_cons_succ] at d0 d1 d2 d3
      have f0 := blk_free HE3.out 0
      have f1 := blk_free HE3.out 1
      have f2 := blk_free HE3.out 2
      have f3 := blk_free HE3.out 3
      have k0 := blk_set HE3.out 0 (.int .i64 (1))
      have k1 := blk_set k0 1 (.int .i64 (t))
      have k2 := blk_set k1 2 (.bool false)
      have k3 := blk_set k2 3 (.int .i64 (0))
      have g0 := blk_cell k0 0 (by simp)
      have g1 := blk_cell k1 1 (by simp)
      have g2 := blk_cell k2 2 (by simp)
      have g3 := blk_cell k3 3 (by simp)
      simp at g0 g1 g2 g3
      clear k0 k1 k2 k3
      go_wp2_with fail
      refine bodyPost_ret (v := gev (1) (t) (0)) ?_ rfl ⟨rfl, ?_⟩
      · simp [gev, results, Tryz.results32, go_sem, g0, g1, g2, g3]
      · exact ev_end HK3.out HM3.out (x := w.heap.size + 1) (Nat.le_succ _) HG.out (((((Mod.refl [w.heap.size + 1] _).setCell (by simp) _).setCell (by simp) _).setCell (by simp) _).setCell (by simp) _)
set_option maxHeartbeats 8000000 in
set_option maxRecDepth 100000 in
theorem do_leave (n m : Nat) (ho : OkK p σ sp n m) (hm : m ≤ 100000) (t : Int) (ht : ¬ (t < 0 ∨ (sp.length : Int) ≤ t)) (b : Bool) (σ2 : Ar) (sp2 : List Sp) (hr : doK p σ sp 2 t = (b, σ2, sp2)) : Calls Tryz.prog 32 #[.pointer (some ⟨gg, 0, none⟩), .agg #[.int .i64 t, .int .i64 2]] w fun e w' => e = .returned (gev (if b then 3 else 5) t 0) ∧ GAt w' gg gf gl ga ha hs p σ2 sp2 ∧ Mod [ga, ha, hs] w w' := by
  have HSt := fun W (K : GAt W gg gf gl ga ha hs p σ sp) => Leave_flat K.fl n m ho hm t
  rw [hr] at HSt
  replace HSt := Lib.hid HSt
  clear ho hm hr
  have hb1 : Below w.heap.size w (w.alloc (.cells #[.int .i64 t, .int .i64 2] 68)) := below_new _ _
  have hb2 : Below w.heap.size w ((w.alloc (.cells #[.int .i64 t, .int .i64 2] 68)).alloc (.cells #[.int .i64 0, .int .i64 0, .bool false, .int .i64 0] 65)) := hb1.alloc hb1.size _
  have HE := Lib.hid (show ((w.alloc (.cells #[.int .i64 t, .int .i64 2] 68)).alloc (.cells #[.int .i64 0, .int .i64 0, .bool false, .int .i64 0] 65)).heap[w.heap.size + 1]? = some (.cells #[.int .i64 0, .int .i64 0, .bool false, .int .i64 0] 65) from by simpa using blk_new (w.alloc (.cells #[.int .i64 t, .int .i64 2] 68)) (.cells #[.int .i64 0, .int .i64 0, .bool false, .int .i64 0] 65))
  have HP := Lib.hid (show ((w.alloc (.cells #[.int .i64 t, .int .i64 2] 68)).alloc (.cells #[.int .i64 0, .int .i64 0, .bool false, .int .i64 0] 65)).heap[w.heap.size]? = some (.cells #[.int .i64 t, .int .i64 2] 68) from (heap_alloc_old _ _ (by simp)).trans (blk_new _ _))
  have hK := K.same hb2
  have HT := Lib.hid (fun n => threads_g (hK.drewN n))
  have HK := Lib.hid hK
  have HG := Lib.hid K.blocks
  have HM := Lib.hid (Mod.of_below (S := [ga, ha, hs]) hb2)
  clear K hK hb1 hb2
  have hr0 : ¬ t < 0 := by omega
  have hr1 : ¬ (sp.length : Int) ≤ t := by omega
  have hr2 : decide (t < 0) = false := decide_eq_false hr0
  have hr3 : decide ((sp.length : Int) ≤ t) = false := decide_eq_false hr1
  clear ht
  go_enter Tryz.func32, Tryz.ntmps32
  go_wp2_with fail
  go_quiet ((go_at_call 38; exact Calls.quiet_of_same (HT.out _)))
  have HK2 := Lib.hid (HK.out.drewN nq)
  have HM2 := Lib.hid (HM.out.drewN nq)
  have HE2 := Lib.hid (show (((w.alloc (.cells #[.int .i64 t, .int .i64 2] 68)).alloc (.cells #[.int .i64 0, .int .i64 0, .bool false, .int .i64 0] 65)).drewN nq).heap[w.heap.size + 1]? = some (.cells #[.int .i64 0, .int .i64 0, .bool false, .int .i64 0] 65) from HE.out)
  have HP2 := Lib.hid (show (((w.alloc (.cells #[.int .i64 t, .int .i64 2] 68)).alloc (.cells #[.int .i64 0, .int .i64 0, .bool false, .int .i64 0] 65)).drewN nq).heap[w.heap.size]? = some (.cells #[.int .i64 t, .int .i64 2] 68) from HP.out)
  have HZ2 := Lib.hid (show w.heap.size ≤ (((w.alloc (.cells #[.int .i64 t, .int .i64 2] 68)).alloc (.cells #[.int .i64 0, .int .i64 0, .bool false, .int .i64 0] 65)).drewN nq).heap.size from HM2.out.size)
  clear HK HM HE HP HT
  generalize ((w.alloc (.cells #[.int .i64 t, .int .i64 2] 68)).alloc (.cells #[.int .i64 0, .int .i64 0, .bool false, .int .i64 0] 65)).drewN nq = W2 at *
  have c0 := blk_cell HP2.out 0 (by simp)
  have c1 := blk_cell HP2.out 1 (by simp)
  simp only [List.getElem_toArray, List.getElem_cons_zero, List.getElem_cons_succ] at c0 c1
  go_wp2_with fail
  refine (state_g HK2.out t).mono ?_
  rintro e w3 ⟨rfl, hb3⟩
  have HK3 := Lib.hid (HK2.out.same hb3)
  have HM3 := Lib.hid (HM2.out.trans (Mod.of_below (S := [ga, ha, hs]) hb3))
  have HE3 := Lib.hid (show w3.heap[w.heap.size + 1]? = some (.cells #[.int .i64 0, .int .i64 0, .bool false, .int .i64 0] 65) from (Mod.of_below (S := []) hb3).blk HE2.out (by simp))
  have HP3 := Lib.hid (show w3.heap[w.heap.size]? = some (.cells #[.int .i64 t, .int .i64 2] 68) from (Mod.of_below (S := []) hb3).blk HP2.out (by simp))
  have HZ3 := Lib.hid (show w.heap.size ≤ w3.heap.size from HM3.out.size)
  clear HK2 HM2 HE2 HP2 HZ2 hb3 c0 c1
  have c0 := blk_cell HP3.out 0 (by simp)
  have c1 := blk_cell HP3.out 1 (by simp)
  simp only [List.getElem_toArray, List.getElem_cons_zero, List.getElem_cons_succ] at c0 c1
  have hst := gst_in (spOf sp t)
  have g1 := HK3.out.cells.2
  generalize gst (spOf sp t) = st at *
  rcases hst with rfl | rfl | rfl | rfl
  all_goals
    cases b
    · go_wp2_with fail
      go_quiet (fail)
      have HKn := Lib.hid (HK3.out.drewN nq)
      have HMn := Lib.hid (HM3.out.drewN nq)
      have HEn := Lib.hid (show (w3.drewN nq).heap[w.heap.size + 1]? = some (.cells #[.int .i64 0, .int .i64 0, .bool false, .int .i64 0] 65) from HE3.out)
      have HPn := Lib.hid (show (w3.drewN nq).heap[w.heap.size]? = some (.cells #[.int .i64 t, .int .i64 2] 68) from HP3.out)
      have HZn := Lib.hid (show w.heap.size ≤ (w3.drewN nq).heap.size from HMn.out.size)
      clear HK3 HM3 HE3 HP3 HZ3 c0 c1
      generalize w3.drewN nq = W4 at *
      have HK3 := HKn
      have HM3 := HMn
      have HE3 := HEn
      have HP3 := HPn
      have HZ3 := HZn
      clear HKn HMn HEn HPn HZn
      have c0 := blk_cell HP3.out 0 (by simp)
      have c1 := blk_cell HP3.out 1 (by simp)
      simp only [List.getElem_toArray, List.getElem_cons_zero, List.getElem_cons_succ] at c0 c1
      have g1 := HK3.out.cells.2
      go_wp2_with fail
      go_region_held3 (fun V => V.cell? ⟨w.heap.size, 0, none⟩ = some (.int .i64 t) ∧ V.cell? ⟨w.heap.size, 1, none⟩ = some (.int .i64 2) ∧ V.cell? ⟨gg, 1, none⟩ = some (.pointer (some ⟨gf, 0, none⟩)))
        (first | exact ⟨c0, c1, g1⟩ | exact k2)
        (first | (go_at_call 53; refine (HSt.out _ (HK3.out.drewN 1)).mono ?_; rintro e w4 ⟨rfl, hf4, hm4⟩; have H4 := Lib.hid ((HK3.out.drewN 1).acts hf4 hm4); have HP4 := Lib.hid (show w4.heap[w.heap.size]? = _ from hm4.blk (show (W4.drewN 1).heap[w.heap.size]? = _ from HP3.out) (by have := HG.out; simp; omega)); have k2 := held4 H4.out HP4.out))
      have HE4 := Lib.hid (show w4.heap[w.heap.size + 1]? = _ from hm4.blk (show (W4.drewN 1).heap[w.heap.size + 1]? = _ from HE3.out) (by have := HG.out; simp; omega))
      have HM4 := Lib.hid ((HM3.out.drewN 1).trans hm4)
      clear HK3 HM3 HE3 HP3 HZ3 hf4 hm4 k2 c0 c1 g1 HSt
      have HK3 := H4
      have HM3 := HM4
      have HE3 := HE4
      have HP3 := HP4
      have HZ3 := Lib.hid (show w.heap.size ≤ w4.heap.size from HM4.out.size)
      clear H4 HM4 HE4 HP4
      have c0 := blk_cell HP3.out 0 (by simp)
      have c1 := blk_cell HP3.out 1 (by simp)
      simp only [List.getElem_toArray, List.getElem_cons_zero, List.getElem_cons_succ] at c0 c1
      have HZZ := Lib.hid trivial
      have d0 := blk_cell HE3.out 0 (by simp)
      have d1 := blk_cell HE3.out 1 (by simp)
      have d2 := blk_cell HE3.out 2 (by simp)
      have d3 := blk_cell HE3.out 3 (by simp)
      simp only [List.getElem_toArray, List.getElem_cons_zero, List.getElem_cons_succ] at d0 d1 d2 d3
      have f0 := blk_free HE3.out 0
      have f1 := blk_free HE3.out 1
      have f2 := blk_free HE3.out 2
      have f3 := blk_free HE3.out 3
      have k0 := blk_set HE3.out 0 (.int .i64 (5))
      have k1 := blk_set k0 1 (.int .i64 (t))
      have k2 := blk_set k1 2 (.bool false)
      have k3 := blk_set k2 3 (.int .i64 (0))
      have g0 := blk_cell k0 0 (by simp)
      have g1 := blk_cell k1 1 (by simp)
      have g2 := blk_cell k2 2 (by simp)
      have g3 := blk_cell k3 3 (by simp)
      simp at g0 g1 g2 g3
      clear k0 k1 k2 k3
      go_wp2_with fail
      refine bodyPost_ret (v := gev (5) (t) (0)) ?_ rfl ⟨rfl, ?_⟩
      · simp [gev, results, Tryz.results32, go_sem, g0, g1, g2, g3]
      · exact ev_end HK3.out HM3.out (x := w.heap.size + 1) (Nat.le_succ _) HG.out (((((Mod.refl [w.heap.size + 1] _).setCell (by simp) _).setCell (by simp) _).setCell (by simp) _).setCell (by simp) _)
    · go_wp2_with fail
      go_quiet (fail)
      have HKn := Lib.hid (HK3.out.drewN nq)
      have HMn := Lib.hid (HM3.out.drewN nq)
      have HEn := Lib.hid (show (w3.drewN nq).heap[w.heap.size + 1]? = some (.cells #[.int .i64 0, .int .i64 0, .bool false, .int .i64 0] 65) from HE3.out)
      have HPn := Lib.hid (show (w3.drewN nq).heap[w.heap.size]? = some (.cells #[.int .i64 t, .int .i64 2] 68) from HP3.out)
      have HZn := Lib.hid (show w.heap.size ≤ (w3.drewN nq).heap.size from HMn.out.size)
      clear HK3 HM3 HE3 HP3 HZ3 c0 c1
      generalize w3.drewN nq = W4 at *
      have HK3 := HKn
      have HM3 := HMn
      have HE3 := HEn
      have HP3 := HPn
      have HZ3 := HZn
      clear HKn HMn HEn HPn HZn
      have c0 := blk_cell HP3.out 0 (by simp)
      have c1 := blk_cell HP3.out 1 (by simp)
      simp only [List.getElem_toArray, List.getElem_cons_zero, List.getElem_cons_succ] at c0 c1
      have g1 := HK3.out.cells.2
      go_wp2_with fail
      go_region_held3 (fun V => V.cell? ⟨w.heap.size, 0, none⟩ = some (.int .i64 t) ∧ V.cell? ⟨w.heap.size, 1, none⟩ = some (.int .i64 2) ∧ V.cell? ⟨gg, 1, none⟩ = some (.pointer (some ⟨gf, 0, none⟩)))
        (first | exact ⟨c0, c1, g1⟩ | exact k2)
        (first | (go_at_call 53; refine (HSt.out _ (HK3.out.drewN 1)).mono ?_; rintro e w4 ⟨rfl, hf4, hm4⟩; have H4 := Lib.hid ((HK3.out.drewN 1).acts hf4 hm4); have HP4 := Lib.hid (show w4.heap[w.heap.size]? = _ from hm4.blk (show (W4.drewN 1).heap[w.heap.size]? = _ from HP3.out) (by have := HG.out; simp; omega)); have k2 := held4 H4.out HP4.out))
      have HE4 := Lib.hid (show w4.heap[w.heap.size + 1]? = _ from hm4.blk (show (W4.drewN 1).heap[w.heap.size + 1]? = _ from HE3.out) (by have := HG.out; simp; omega))
      have HM4 := Lib.hid ((HM3.out.drewN 1).trans hm4)
      clear HK3 HM3 HE3 HP3 HZ3 hf4 hm4 k2 c0 c1 g1 HSt
      have HK3 := H4
      have HM3 := HM4
      have HE3 := HE4
      have HP3 := HP4
      have HZ3 := Lib.hid (show w.heap.size ≤ w4.heap.size from HM4.out.size)
      clear H4 HM4 HE4 HP4
      have c0 := blk_cell HP3.out 0 (by simp)
      have c1 := blk_cell HP3.out 1 (by simp)
      simp only [List.getElem_toArray, List.getElem_cons_zero, List.getElem_cons_succ] at c0 c1
      have d0 := blk_cell HE3.out 0 (by simp)
      have d1 := blk_cell HE3.out 1 (by simp)
      have d2 := blk_cell HE3.out 2 (by simp)
      have d3 := blk_cell HE3.out 3 (by simp)
      simp only [List.getElem_toArray, List.getElem_cons_zero, List.getElem_cons_succ] at d0 d1 d2 d3
      have f0 := blk_free HE3.out 0
      have f1 := blk_free HE3.out 1
      have f2 := blk_free HE3.out 2
      have f3 := blk_free HE3.out 3
      have k0 := blk_set HE3.out 0 (.int .i64 (3))
      have k1 := blk_set k0 1 (.int .i64 (t))
      have k2 := blk_set k1 2 (.bool false)
      have k3 := blk_set k2 3 (.int .i64 (0))
      have g0 := blk_cell k0 0 (by simp)
      have g1 := blk_cell k1 1 (by simp)
      have g2 := blk_cell k2 2 (by simp)
      have g3 := blk_cell k3 3 (by simp)
      simp at g0 g1 g2 g3
      clear k0 k1 k2 k3
      go_wp2_with fail
      refine bodyPost_ret (v := gev (3) (t) (0)) ?_ rfl ⟨rfl, ?_⟩
      · simp [gev, results, Tryz.results32, go_sem, g0, g1, g2, g3]
      · exact ev_end HK3.out HM3.out (x := w.heap.size + 1) (Nat.le_succ _) HG.out (((((Mod.refl [w.heap.size + 1] _).setCell (by simp) _).setCell (by simp) _).setCell (by simp) _).setCell (by simp) _)
end
end Go.Proofs.YthffhhgaeolpgaaGreat.Ga

/- Package gate: what a thread wants by its plan. -/
namespace Go.Proofs.YthffhhgaeolpgaaGreat.Ga
open Go.RowKit Go.Proofs.YthffhhgaeolpgaaGreat.Ara Go.Proofs.YthffhhgaeolpgaaGreat.Lok Go.Proofs.YthffhhgaeolpgaaGreat.Fl

structure Pl where
  rest : Int
  stay : Int
  times : Int
  rd : Bool
structure Wn where
  pk : Int
  as_ : Int
  ws : Int
def wn0 : Wn := ⟨0, 0, -1⟩
def wantT (pl : Pl) (pk as_ st : Int) : Int × Wn :=
  if st = 0 ∧ as_ < pl.times ∧ pl.rest < pk then (1, ⟨pk, as_ + 1, st⟩) else if st = 2 ∧ pl.stay < pk then (2, ⟨pk, as_, st⟩) else (0, ⟨pk, as_, st⟩)
def wantS (pl : Pl) (x : Wn) (st : Int) : Int × Wn := wantT pl ((if st = x.ws then x.pk else 0) + 1) x.as_ st
def planO (pl : Pl) : Obj := .cells #[.int .i64 pl.rest, .int .i64 pl.stay, .int .i64 pl.times, .bool pl.rd] 149
structure CloAt (W : World) (B : Nat) (pl : Pl) (x : Wn) : Prop where
  b0 : W.heap[B]? = some (.cells #[.int .i64 pl.rest, .int .i64 pl.stay, .int .i64 pl.times, .bool pl.rd] 149 (0, 0))
  b1 : W.heap[B + 1]? = some (.cells #[.int .i64 x.pk] 3 (0, 0))
  b2 : W.heap[B + 2]? = some (.cells #[.int .i64 x.as_] 3 (0, 0))
  b3 : W.heap[B + 3]? = some (.cells #[.int .i64 x.ws] 3 (0, 0))
theorem CloAt.mod {S : List Nat} {W W' : World} {B : Nat} {pl : Pl} {x : Wn} (k : CloAt W B pl x) (hm : Mod S W W') (h : ∀ q ∈ S, q < B ∨ B + 4 ≤ q) : CloAt W' B pl x :=
  ⟨hm.blk k.b0 (fun e => by have := h _ e; omega), hm.blk k.b1 (fun e => by have := h _ e; omega), hm.blk k.b2 (fun e => by have := h _ e; omega), hm.blk k.b3 (fun e => by have := h _ e; omega)⟩
theorem CloAt.lt {W : World} {B : Nat} {pl : Pl} {x : Wn} (k : CloAt W B pl x) : B + 4 ≤ W.heap.size := lt_of_blk k.b3
def clo (B : Nat) : Value := .func (.func 108) #[] #[.pointer (some ⟨B + 3, 0, none⟩), .pointer (some ⟨B + 1, 0, none⟩), .pointer (some ⟨B + 2, 0, none⟩), .pointer (some ⟨B, 0, none⟩)]
theorem CloAt.cells {W : World} {B : Nat} {pl : Pl} {x : Wn} (k : CloAt W B pl x) : (W.cell? ⟨B, 0, none⟩ = some (.int .i64 pl.rest) ∧ W.cell? ⟨B, 1, none⟩ = some (.int .i64 pl.stay) ∧ W.cell? ⟨B, 2, none⟩ = some (.int .i64 pl.times)) ∧ W.cell? ⟨B + 1, 0, none⟩ = some (.int .i64 x.pk) ∧ W.cell? ⟨B + 2, 0, none⟩ = some (.int .i64 x.as_) ∧ W.cell? ⟨B + 3, 0, none⟩ = some (.int .i64 x.ws) ∧ W.frozen? ⟨B + 1, 0, none⟩ = false ∧ W.frozen? ⟨B + 2, 0, none⟩ = false ∧ W.frozen? ⟨B + 3, 0, none⟩ = false :=
  ⟨⟨blk_cell k.b0 0 (by simp), blk_cell k.b0 1 (by simp), blk_cell k.b0 2 (by simp)⟩, blk_cell k.b1 0 (by simp), blk_cell k.b2 0 (by simp), blk_cell k.b3 0 (by simp), blk_free k.b1 0, blk_free k.b2 0, blk_free k.b3 0⟩
theorem CloAt.pk {W : World} {B : Nat} {pl : Pl} {x : Wn} (k : CloAt W B pl x) (v : Int) : CloAt (W.setCell ⟨B + 1, 0, none⟩ (.int .i64 v)) B pl { x with pk := v } := by
  have hm : Mod [B + 1] W (W.setCell ⟨B + 1, 0, none⟩ (.int .i64 v)) := (Mod.refl _ _).setCell (by simp) _
  exact ⟨hm.blk k.b0 (by simp), by simpa using blk_set k.b1 0 (.int .i64 v), hm.blk k.b2 (by simp), hm.blk k.b3 (by simp)⟩
theorem CloAt.asks {W : World} {B : Nat} {pl : Pl} {x : Wn} (k : CloAt W B pl x) (v : Int) : CloAt (W.setCell ⟨B + 2, 0, none⟩ (.int .i64 v)) B pl { x with as_ := v } := by
  have hm : Mod [B + 2] W (W.setCell ⟨B + 2, 0, none⟩ (.int .i64 v)) := (Mod.refl _ _).setCell (by simp) _
  exact ⟨hm.blk k.b0 (by simp), hm.blk k.b1 (by simp), by simpa using blk_set k.b2 0 (.int .i64 v), hm.blk k.b3 (by simp)⟩
theorem CloAt.was {W : World} {B : Nat} {pl : Pl} {x : Wn} (k : CloAt W B pl x) (v : Int) : CloAt (W.setCell ⟨B + 3, 0, none⟩ (.int .i64 v)) B pl { x with ws := v } := by
  have hm : Mod [B + 3] W (W.setCell ⟨B + 3, 0, none⟩ (.int .i64 v)) := (Mod.refl _ _).setCell (by simp) _
  exact ⟨hm.blk k.b0 (by simp), hm.blk k.b1 (by simp), hm.blk k.b2 (by simp), by simpa using blk_set k.b3 0 (.int .i64 v)⟩
theorem four (w : World) (a b c d : Obj) : ((((w.alloc a).alloc b).alloc c).alloc d).heap[w.heap.size]? = some a ∧ ((((w.alloc a).alloc b).alloc c).alloc d).heap[w.heap.size + 1]? = some b ∧ ((((w.alloc a).alloc b).alloc c).alloc d).heap[w.heap.size + 2]? = some c ∧ ((((w.alloc a).alloc b).alloc c).alloc d).heap[w.heap.size + 3]? = some d := by
  have s1 : (w.alloc a).heap.size = w.heap.size + 1 := by simp
  have s2 : ((w.alloc a).alloc b).heap.size = w.heap.size + 2 := by simp
  have s3 : (((w.alloc a).alloc b).alloc c).heap.size = w.heap.size + 3 := by simp
  refine ⟨?_, ?_, ?_, ?_⟩
  · exact (heap_alloc_old _ _ (by omega)).trans ((heap_alloc_old _ _ (by omega)).trans ((heap_alloc_old _ _ (by omega)).trans (blk_new _ _)))
  · exact (heap_alloc_old _ _ (by omega)).trans ((heap_alloc_old _ _ (by omega)).trans (by rw [← s1]; exact blk_new _ _))
  · exact (heap_alloc_old _ _ (by omega)).trans (by rw [← s2]; exact blk_new _ _)
  · rw [← s3]; exact blk_new _ _
theorem wants_any (pl : Pl) (w : World) : Calls Tryz.prog 73 #[.agg #[.int .i64 pl.rest, .int .i64 pl.stay, .int .i64 pl.times, .bool pl.rd]] w fun e w' => e = .returned (clo w.heap.size) ∧ CloAt w' w.heap.size pl wn0 ∧ Below w.heap.size w w' ∧ w.heap.size + 4 ≤ w'.heap.size := by
  have hmf : ∀ (fn : Fn) (first cap : Array Value) (w : World), (Instr.makeFunc fn first cap).run Tryz.prog w = .ok (.func fn first cap) w := fun _ _ _ _ => rfl
  obtain ⟨pr, ps, pt, pd⟩ := pl
  go_enter Tryz.func73, Tryz.ntmps73
  go_wp2_with fail
  go_ret
  obtain ⟨h0, h1, h2, h3⟩ := four w (planO ⟨pr, ps, pt, pd⟩) (.cells #[.int .i64 0] 3) (.cells #[.int .i64 0] 3) (.cells #[.int .i64 (-1)] 3)
  exact ⟨rfl, ⟨h0, h1, h2, h3⟩, ((((below_new _ _).alloc (by simp) _).alloc (by simp; omega) _).alloc (by simp; omega) _), by simp⟩
def CloP (B : Nat) (pl : Pl) (x : Wn) (w : World) (e : Ending) (w' : World) (r : Int × Wn) : Prop := e = .returned (.int .i64 r.1) ∧ CloAt w' B pl r.2 ∧ Mod [B + 1, B + 2, B + 3] w w'
theorem CloP.of {B : Nat} {pl : Pl} {x : Wn} {w w' : World} {e : Ending} {r r' : Int × Wn} (h : r = r') (he : e = .returned (.int .i64 r'.1)) (hk : CloAt w' B pl r'.2) (hm : Mod [B + 1, B + 2, B + 3] w w') : CloP B pl x w e w' r := by
  subst h
  exact ⟨he, hk, hm⟩
theorem wt_lock {pr ps pt pk as_ st : Int} {pd : Bool} (h1 : st = 0) (h2 : as_ < pt) (h3 : pr < pk) : wantT ⟨pr, ps, pt, pd⟩ pk as_ st = (1, ⟨pk, as_ + 1, st⟩) := by
  unfold wantT
  exact if_pos ⟨h1, h2, h3⟩
theorem wt_unlock {pr ps pt pk as_ st : Int} {pd : Bool} (h1 : st = 2) (h2 : ps < pk) : wantT ⟨pr, ps, pt, pd⟩ pk as_ st = (2, ⟨pk, as_, st⟩) := by
  unfold wantT
  rw [if_neg (fun h => by have := h.1; omega)]
  exact if_pos ⟨h1, h2⟩
theorem wt_step {pr ps pt pk as_ st : Int} {pd : Bool} (h1 : ¬ (st = 0 ∧ as_ < pt ∧ pr < pk)) (h2 : ¬ (st = 2 ∧ ps < pk)) : wantT ⟨pr, ps, pt, pd⟩ pk as_ st = (0, ⟨pk, as_, st⟩) := by
  unfold wantT
  rw [if_neg h1, if_neg h2]
section
variable (B : Nat) (pl : Pl) (x : Wn) (w : World) (K : CloAt w B pl x)
include K
set_option maxHeartbeats 4000000 in
set_option maxRecDepth 100000 in
theorem clo_any (h0 : 0 ≤ x.pk ∧ x.pk ≤ 1000000) (h1 : 0 ≤ x.as_ ∧ x.as_ ≤ 1000000) (state : Int) : Calls Tryz.prog 108 #[.int .i64 state, .pointer (some ⟨B + 3, 0, none⟩), .pointer (some ⟨B + 1, 0, none⟩), .pointer (some ⟨B + 2, 0, none⟩), .pointer (some ⟨B, 0, none⟩)] w fun e w' => CloP B pl x w e w' (wantS pl x state) := by
  obtain ⟨pr, ps, pt, pd⟩ := pl
  obtain ⟨xp, xa, xw⟩ := x
  simp only at h0 h1
  have w1 : IntKind.i64.wrap (xp + 1) = xp + 1 := IntWalk.i64_in _ (by omega)
  have w2 : IntKind.i64.wrap (xa + 1) = xa + 1 := IntWalk.i64_in _ (by omega)
  by_cases hs : state = xw
  · subst hs
    have HW := Lib.hid (show wantS ⟨pr, ps, pt, pd⟩ ⟨xp, xa, state⟩ state = wantT ⟨pr, ps, pt, pd⟩ (xp + 1) xa state by unfold wantS; rw [if_pos rfl])
    have HK1 := Lib.hid (K.pk (xp + 1))
    have HM1 := Lib.hid (show Mod [B + 1, B + 2, B + 3] w _ from (Mod.refl _ w).setCell (p := ⟨B + 1, 0, none⟩) (by simp) (.int .i64 (xp + 1)))
    have HK2 := Lib.hid (HK1.out.asks (xa + 1))
    have HM2 := Lib.hid (show Mod [B + 1, B + 2, B + 3] w _ from HM1.out.setCell (p := ⟨B + 2, 0, none⟩) (by simp) (.int .i64 (xa + 1)))
    obtain ⟨_, c1, c2, c3, f1, f2, f3⟩ := K.cells
    obtain ⟨⟨d0, d1, d2⟩, d3, d4, d5, e1, e2, e3⟩ := HK1.out.cells
    simp only at c1 c2 c3 d0 d1 d2 d3 d4 d5
    clear K
    go_enter Tryz.func108, Tryz.ntmps108
    go_wp2_with fail
    all_goals
      try subst_vars
      go_ret
      first
        | exact CloP.of (HW.out.trans (wt_lock (by omega) (by omega) (by omega))) rfl HK2.out HM2.out
        | exact CloP.of (HW.out.trans (wt_unlock (by omega) (by omega))) rfl HK1.out HM1.out
        | exact CloP.of (HW.out.trans (wt_step (by omega) (by omega))) rfl HK1.out HM1.out
  · have HW := Lib.hid (show wantS ⟨pr, ps, pt, pd⟩ ⟨xp, xa, xw⟩ state = wantT ⟨pr, ps, pt, pd⟩ (0 + 1) xa state by unfold wantS; rw [if_neg hs])
    have HK1 := Lib.hid (((K.pk 0).was state).pk (0 + 1))
    have HM1 := Lib.hid (show Mod [B + 1, B + 2, B + 3] w _ from (((Mod.refl _ w).setCell (p := ⟨B + 1, 0, none⟩) (by simp) (.int .i64 0)).setCell (p := ⟨B + 3, 0, none⟩) (by simp) (.int .i64 state)).setCell (p := ⟨B + 1, 0, none⟩) (by simp) (.int .i64 (0 + 1)))
    have HK2 := Lib.hid (HK1.out.asks (xa + 1))
    have HM2 := Lib.hid (show Mod [B + 1, B + 2, B + 3] w _ from HM1.out.setCell (p := ⟨B + 2, 0, none⟩) (by simp) (.int .i64 (xa + 1)))
    obtain ⟨_, c1, c2, c3, f1, f2, f3⟩ := K.cells
    obtain ⟨_, g1, g2, g3, k1, k2, k3⟩ := ((K.pk 0).was state).cells
    obtain ⟨⟨d0, d1, d2⟩, d3, d4, d5, e1, e2, e3⟩ := HK1.out.cells
    simp only at c1 c2 c3 d0 d1 d2 d3 d4 d5
    have e0 := ibne hs
    clear K hs
    go_enter Tryz.func108, Tryz.ntmps108
    go_wp2_with fail
    all_goals
      try subst_vars
      go_ret
      first
        | exact CloP.of (HW.out.trans (wt_lock (by omega) (by omega) (by omega))) rfl HK2.out HM2.out
        | exact CloP.of (HW.out.trans (wt_unlock (by omega) (by omega))) rfl HK1.out HM1.out
        | exact CloP.of (HW.out.trans (wt_step (by omega) (by omega))) rfl HK1.out HM1.out
end
end Go.Proofs.YthffhhgaeolpgaaGreat.Ga

/- A map from threads to closures; append as one operation of a drawn region. -/
namespace Go.Proofs.YthffhhgaeolpgaaGreat.Ga
open Go.RowKit Go.Maps

abbrev kI (t : Int) : Lit := .int .i64 t
theorem kI_ne {a b : Int} (h : a ≠ b) : kI a ≠ kI b := by
  intro e
  injection e with _ e
  exact h e
theorem isK_kI (t : Int) : WideAt.IsKeyLit (kI t) := by simp [WideAt.IsKeyLit]
theorem lawI : Keyed Tryz.prog 3 := int_keyed Tryz.underlying3
theorem zeroF (w : World) : (zeroValue 37).run Tryz.prog w = .ok .nilFunc w := by kernel_rfl
theorem clo_inj {a b : Nat} (h : clo a = clo b) : a = b := by
  unfold clo at h
  simp at h
  exact h
open Classical in
noncomputable def funR (v : Value) : Option (DataW Unit × List MemPlace) := if v = .nilFunc then some (.nil, []) else if h : ∃ B, v = clo B then some (.lit (.int .i64 ((h.choose : Nat) : Int)), []) else none
theorem funR_nil : funR .nilFunc = some (.nil, []) := by unfold funR; rw [if_pos rfl]
theorem funR_clo (B : Nat) : funR (clo B) = some (.lit (.int .i64 (B : Int)), []) := by
  have hne : clo B ≠ .nilFunc := by unfold clo; simp
  have hex : ∃ B', clo B = clo B' := ⟨B, rfl⟩
  unfold funR
  rw [if_neg hne, dif_pos hex]
  have := clo_inj hex.choose_spec
  rw [← this]
theorem funR_inv_nil {v : Value} {ps : List MemPlace} (h : funR v = some (.nil, ps)) : v = .nilFunc := by
  unfold funR at h
  split at h
  · assumption
  · split at h <;> simp at h
theorem funR_inv {v : Value} {B : Nat} {ps : List MemPlace} (h : funR v = some (.lit (.int .i64 (B : Int)), ps)) : v = clo B := by
  unfold funR at h
  split at h
  · simp at h
  · split at h
    · rename_i hx
      have hs := hx.choose_spec
      simp at h
      have : hx.choose = B := by omega
      rw [this] at hs
      exact hs
    · simp at h
def FM (W : World) (mb n : Nat) (F : Int → Option Nat) : Prop :=
  ∃ D, W.ownsMap Tryz.prog 3 funR mb n D ∧ ∀ t, (F t = none → Maps.has D (kI t) = false) ∧ ∀ B, F t = some B → ∀ z, D.atKey (kI t) z = .lit (.int .i64 (B : Int))
theorem FM.made (w : World) : FM (w.alloc (.map #[] 0)) w.heap.size 0 fun _ => none := ⟨_, World.ownsMap_made _ _ _ _, fun _ => ⟨fun _ => rfl, fun _ h => by cases h⟩⟩
theorem FM.blk {W W' : World} {mb n : Nat} {F : Int → Option Nat} (h : FM W mb n F) (hb : W'.heap[mb]? = W.heap[mb]?) : FM W' mb n F := by
  obtain ⟨D, ⟨es, clock, h1, h2⟩, h3⟩ := h
  exact ⟨D, ⟨es, clock, hb.trans h1, h2⟩, h3⟩
theorem FM.lt {W : World} {mb n : Nat} {F : Int → Option Nat} (h : FM W mb n F) : mb < W.heap.size := by
  obtain ⟨D, h1, _⟩ := h
  exact h1.lt
theorem FM.mod {S : List Nat} {W W' : World} {mb n : Nat} {F : Int → Option Nat} (h : FM W mb n F) (hm : Mod S W W') (hs : mb ∉ S) : FM W' mb n F := h.blk (hm.block mb h.lt hs)
def isI (t : Int) : Prop := (Lit.int .i64 t).wf = true
theorem FM.look0 {W : World} {mb n : Nat} {F : Int → Option Nat} (h : FM W mb n F) {t : Int} (hw : isI t) (hF : F t = none) : (Instr.lookup 152 (.map (some mb)) (.int .i64 t) false).run Tryz.prog W = .ok .nilFunc W := by
  obtain ⟨D, h1, h2⟩ := h
  obtain ⟨v, ps, hr, hv⟩ := h1.lookup lawI (e := 37) Tryz.underlying152 (zeroF _) funR_nil (keyOf_int_mk Tryz.underlying3 hw)
  rw [atKey_of_not_has ((h2 t).1 hF)] at hv
  rw [funR_inv_nil hv] at hr
  exact hr
theorem FM.look1 {W : World} {mb n : Nat} {F : Int → Option Nat} (h : FM W mb n F) {t : Int} (hw : isI t) {B : Nat} (hF : F t = some B) : (Instr.lookup 152 (.map (some mb)) (.int .i64 t) false).run Tryz.prog W = .ok (clo B) W := by
  obtain ⟨D, h1, h2⟩ := h
  obtain ⟨v, ps, hr, hv⟩ := h1.lookup lawI (e := 37) Tryz.underlying152 (zeroF _) funR_nil (keyOf_int_mk Tryz.underlying3 hw)
  rw [(h2 t).2 B hF] at hv
  rw [funR_inv hv] at hr
  exact hr
set_option maxRecDepth 10000 in
theorem FM.put {W : World} {mb n : Nat} {F : Int → Option Nat} (h : FM W mb n F) (hn : n < 1000000) {t : Int} (hw : isI t) (B : Nat) : ∃ W', (Instr.mapUpdate 152 (.map (some mb)) (.int .i64 t) (clo B)).run Tryz.prog W = .ok () W' ∧ FM W' mb (n + 1) (fun u => if u = t then some B else F u) ∧ Mod [mb] W W' := by
  obtain ⟨D, h1, h2⟩ := h
  obtain ⟨W', hr, ho, ht⟩ := h1.store lawI (e := 37) Tryz.underlying152 (by unfold maxLen; omega) (keyOf_int_mk Tryz.underlying3 hw) (funR_clo B)
  refine ⟨W', hr, ⟨_, ho, fun u => ?_⟩, ⟨ht.grown.os, ht.grown.tape, ht.grown.output, ht.grown.size, fun k hk hx => ht.grown.block k hk (fun e => hx (by injection e with e; simp [e]))⟩⟩
  by_cases e : u = t
  · subst e
    refine ⟨fun h => by simp at h, fun B' h z => ?_⟩
    simp at h
    subst h
    exact atKey_put_same h1.isMap (isK_kI _) _ _
  · refine ⟨fun h => ?_, fun B' h z => ?_⟩
    · simp only [if_neg e] at h
      rw [has_put_other (kI_ne e)]
      exact (h2 u).1 h
    · simp only [if_neg e] at h
      rw [atKey_put_other (kI_ne e)]
      exact (h2 u).2 B' h z
theorem wp_append1 {P : Program} {o : Oper} {a : Act} {K : Act → World → Prop} {Q : Exit → Act → World → Prop} (s x : Operand) (t e : TypeId) (z : Value) (size bytes : Nat)
    (ho : o.op = .call { callee := .builtin .append, args := #[s, x], argTypes := #[t, t] }) (ht : P.underlying t = some (.slice e))
    (hinfo : (P.info? e).map (fun i => (i.zero, i.size, i.bytes)) = some (some z, size, bytes)) (hzs : z.cells.size = size) (hsz : 0 < size)
    (base : Nat) (w : World) (v : Value) (n : Nat) (xs : List Value) (news : Array Value) (e' : TypeId) (c g : Nat) (hown : w.ownsRow base e size v n xs) (hs : a.eval s = v) (hx : a.eval x = .slice (some ⟨g, 0, none⟩) 1 c) (hgs : w.heap.size = g)
    (hl : news.size = size) (h1 : ∀ u ∈ news.toList, u.oneCell' = true) (h63 : n + 1 ≤ maxLen) (hbytes : (n + 1) * bytes ≤ 140737488355328) (hbase : base ≤ w.heap.size)
    (h : ∀ v' w', Hid (w'.ownsRow base e size v' (n + 1) (xs ++ news.toList)) → Hid (Below base w w') → Hid (w.grownBy w' v.ownBlock) → K (a.put o.dst v') w') :
    o.wp P a (w.alloc (.cells news e')) K Q := by
  subst hgs
  obtain ⟨i0, hi0, hz0, hz1, hz2⟩ := info_parts hinfo
  refine wp_append_own (w.alloc (.cells news e')) s x t ho base e i0 z size bytes ht hi0 hz0 hz1 hz2 hzs hsz v n xs hs (hown.alloc _) ⟨w.heap.size, 0, none⟩ 1 c news.toList hx (by simpa using hl) ?_ h1 h63 hbytes (by simp; omega) ?_
  · intro j u hu
    have hadd : (⟨w.heap.size, 0, none⟩ : Addr).add j = ⟨w.heap.size, j, none⟩ := by unfold Addr.add; split <;> simp_all
    rw [hadd, World.cell?_alloc_at _ _ _ _ rfl]
    simpa using hu
  · intro v' w' h2 h3 _
    have hg := grown_trans (World.grownBy_alloc w (.cells news e') v.ownBlock) h3
    exact h v' w' h2 ((Below.refl _ _).grown hg hbase (fun k hk => (hown.lt k hk).1)) hg
end Go.Proofs.YthffhhgaeolpgaaGreat.Ga

