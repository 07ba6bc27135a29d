/- Merged texts: Wo4, Lk3, Tp7, PaP, Pa1. -/
import Derived.Test.YtfmiioddhpkdkaaGreatWh19
import Derived.Maps.AppendAt
set_option linter.unusedVariables false
/- Package world: what comes of a pick. -/
namespace Go.Proofs.YtfmiioddhpkdkaaGreat.Wo
open Go.RowKit Go.Proofs.YtfmiioddhpkdkaaGreat.Ara Go.Proofs.YtfmiioddhpkdkaaGreat.Lok Go.Proofs.YtfmiioddhpkdkaaGreat.Ga Go.Proofs.YtfmiioddhpkdkaaGreat.Wf


section
variable {gw ga gt gl : Nat} {X : Type} {D : LD X} {At : Nat → World → X → Prop} {may : Bool → Prop} {S : List Nat} {L : Nat} {k : Nat} {w : World} {x : X} (hG : LI gl D At may S L) (K : WoA gw ga gt gl D At S L k w x)
include hG K
set_option maxHeartbeats 4000000 in
set_option maxRecDepth 100000 in
theorem do_out (t wn : Int) (ht : t < 0 ∨ (D.N : Int) ≤ t) : Calls Tryz.prog 11 #[.pointer (some ⟨gw, 0, none⟩), .agg #[.int .i64 t, .int .i64 wn]] w (WAft gw ga gt gl D At S L k w ((0, 0, false, 0), x)) := by
  unfold WAft
  have hb1 : Below w.heap.size w (w.alloc (.cells #[.int .i64 t, .int .i64 wn] 47)) := below_new _ _
  have hb2 : Below w.heap.size w ((w.alloc (.cells #[.int .i64 t, .int .i64 wn] 47)).alloc (.cells #[.int .i64 0, .int .i64 0, .bool false, .int .i64 0] 44)) := hb1.alloc hb1.size _
  have HE := Lib.hid (show ((w.alloc (.cells #[.int .i64 t, .int .i64 wn] 47)).alloc (.cells #[.int .i64 0, .int .i64 0, .bool false, .int .i64 0] 44)).heap[w.heap.size + 1]? = some (.cells #[.int .i64 0, .int .i64 0, .bool false, .int .i64 0] 44) from by simpa using blk_new (w.alloc (.cells #[.int .i64 t, .int .i64 wn] 47)) (.cells #[.int .i64 0, .int .i64 0, .bool false, .int .i64 0] 44))
  have HP := Lib.hid (show ((w.alloc (.cells #[.int .i64 t, .int .i64 wn] 47)).alloc (.cells #[.int .i64 0, .int .i64 0, .bool false, .int .i64 0] 44)).heap[w.heap.size]? = some (.cells #[.int .i64 t, .int .i64 wn] 47) from (heap_alloc_old _ _ (by simp)).trans (blk_new _ _))
  have hK := K.same hG hb2
  have HT := Lib.hid (fun n => threads_wo hG (hK.drewN hG n))
  have HK := Lib.hid hK
  have HG := Lib.hid hG
  have hL := K.sz
  have HM := Lib.hid (Mod.of_below (S := S) hb2)
  clear K hK hb1 hb2 hG
  by_cases h0 : t < 0
  · clear HT ht
    have HT := Lib.hid trivial
    go_enter Tryz.func11, Tryz.ntmps11
    go_wp2_with fail
    go_quiet (fail)
    have HK2 := Lib.hid (HK.out.drewN HG.out nq)
    have HM2 := Lib.hid (HM.out.drewN nq)
    have HE2 := Lib.hid (show (((w.alloc (.cells #[.int .i64 t, .int .i64 wn] 47)).alloc (.cells #[.int .i64 0, .int .i64 0, .bool false, .int .i64 0] 44)).drewN nq).heap[w.heap.size + 1]? = some (.cells #[.int .i64 0, .int .i64 0, .bool false, .int .i64 0] 44) from HE.out)
    have HP2 := Lib.hid (show (((w.alloc (.cells #[.int .i64 t, .int .i64 wn] 47)).alloc (.cells #[.int .i64 0, .int .i64 0, .bool false, .int .i64 0] 44)).drewN nq).heap[w.heap.size]? = some (.cells #[.int .i64 t, .int .i64 wn] 47) from HP.out)
    have HZ2 := Lib.hid (show w.heap.size ≤ (((w.alloc (.cells #[.int .i64 t, .int .i64 wn] 47)).alloc (.cells #[.int .i64 0, .int .i64 0, .bool false, .int .i64 0] 44)).drewN nq).heap.size from HM2.out.size)
    clear HK HM HE HP HT
    generalize ((w.alloc (.cells #[.int .i64 t, .int .i64 wn] 47)).alloc (.cells #[.int .i64 0, .int .i64 0, .bool false, .int .i64 0] 44)).drewN nq = W2 at *
    have c0 := blk_cell HP2.out 0 (by simp)
    have c1 := blk_cell HP2.out 1 (by simp)
    simp only [List.getElem_toArray, List.getElem_cons_zero, List.getElem_cons_succ] at c0 c1
    have HK4 := Lib.hid (HK2.out.up HG.out)
    have d0 := blk_cell HE2.out 0 (by simp)
    have d1 := blk_cell HE2.out 1 (by simp)
    have d2 := blk_cell HE2.out 2 (by simp)
    have d3 := blk_cell HE2.out 3 (by simp)
    simp only [List.getElem_toArray, List.getElem_cons_zero, List.getElem_cons_succ] at d0 d1 d2 d3
    have f0 := blk_free HE2.out 0
    have f1 := blk_free HE2.out 1
    have f2 := blk_free HE2.out 2
    have f3 := blk_free HE2.out 3
    have k0 := blk_set HE2.out 0 (.int .i64 (0))
    have k1 := blk_set k0 1 (.int .i64 (0))
    have k2 := blk_set k1 2 (.bool false)
    have k3 := blk_set k2 3 (.int .i64 (0))
    have g0 := blk_cell k0 0 (by simp)
    have g1 := blk_cell k1 1 (by simp)
    have g2 := blk_cell k2 2 (by simp)
    have g3 := blk_cell k3 3 (by simp)
    simp at g0 g1 g2 g3
    clear k0 k1 k2 k3
    go_wp2_with fail
    refine bodyPost_ret (v := wev (0, 0, false, 0)) ?_ rfl ⟨rfl, ?_⟩
    · simp [wev, results, Tryz.results11, go_sem, g0, g1, g2, g3]
    · exact WoA.fin HG.out hL HK4.out HM2.out (q := w.heap.size + 1) (Nat.le_succ _) (((((Mod.refl [w.heap.size + 1] _).setCell (by simp) _).setCell (by simp) _).setCell (by simp) _).setCell (by simp) _)
  · have h1 : (D.N : Int) ≤ t := by omega
    have h2 : decide (t < 0) = false := decide_eq_false h0
    clear ht
    go_enter Tryz.func11, Tryz.ntmps11
    go_wp2_with fail
    go_quiet ((go_at_call 24; exact Calls.quiet_of_same (HT.out _)))
    have HK2 := Lib.hid (HK.out.drewN HG.out nq)
    have HM2 := Lib.hid (HM.out.drewN nq)
    have HE2 := Lib.hid (show (((w.alloc (.cells #[.int .i64 t, .int .i64 wn] 47)).alloc (.cells #[.int .i64 0, .int .i64 0, .bool false, .int .i64 0] 44)).drewN nq).heap[w.heap.size + 1]? = some (.cells #[.int .i64 0, .int .i64 0, .bool false, .int .i64 0] 44) from HE.out)
    have HP2 := Lib.hid (show (((w.alloc (.cells #[.int .i64 t, .int .i64 wn] 47)).alloc (.cells #[.int .i64 0, .int .i64 0, .bool false, .int .i64 0] 44)).drewN nq).heap[w.heap.size]? = some (.cells #[.int .i64 t, .int .i64 wn] 47) from HP.out)
    have HZ2 := Lib.hid (show w.heap.size ≤ (((w.alloc (.cells #[.int .i64 t, .int .i64 wn] 47)).alloc (.cells #[.int .i64 0, .int .i64 0, .bool false, .int .i64 0] 44)).drewN nq).heap.size from HM2.out.size)
    clear HK HM HE HP HT
    generalize ((w.alloc (.cells #[.int .i64 t, .int .i64 wn] 47)).alloc (.cells #[.int .i64 0, .int .i64 0, .bool false, .int .i64 0] 44)).drewN nq = W2 at *
    have c0 := blk_cell HP2.out 0 (by simp)
    have c1 := blk_cell HP2.out 1 (by simp)
    simp only [List.getElem_toArray, List.getElem_cons_zero, List.getElem_cons_succ] at c0 c1
    have HK4 := Lib.hid (HK2.out.up HG.out)
    have d0 := blk_cell HE2.out 0 (by simp)
    have d1 := blk_cell HE2.out 1 (by simp)
    have d2 := blk_cell HE2.out 2 (by simp)
    have d3 := blk_cell HE2.out 3 (by simp)
    simp only [List.getElem_toArray, List.getElem_cons_zero, List.getElem_cons_succ] at d0 d1 d2 d3
    have f0 := blk_free HE2.out 0
    have f1 := blk_free HE2.out 1
    have f2 := blk_free HE2.out 2
    have f3 := blk_free HE2.out 3
    have k0 := blk_set HE2.out 0 (.int .i64 (0))
    have k1 := blk_set k0 1 (.int .i64 (0))
    have k2 := blk_set k1 2 (.bool false)
    have k3 := blk_set k2 3 (.int .i64 (0))
    have g0 := blk_cell k0 0 (by simp)
    have g1 := blk_cell k1 1 (by simp)
    have g2 := blk_cell k2 2 (by simp)
    have g3 := blk_cell k3 3 (by simp)
    simp at g0 g1 g2 g3
    clear k0 k1 k2 k3
    go_wp2_with fail
    refine bodyPost_ret (v := wev (0, 0, false, 0)) ?_ rfl ⟨rfl, ?_⟩
    · simp [wev, results, Tryz.results11, go_sem, g0, g1, g2, g3]
    · exact WoA.fin HG.out hL HK4.out HM2.out (q := w.heap.size + 1) (Nat.le_succ _) (((((Mod.refl [w.heap.size + 1] _).setCell (by simp) _).setCell (by simp) _).setCell (by simp) _).setCell (by simp) _)
set_option maxHeartbeats 4000000 in
set_option maxRecDepth 100000 in
theorem do_in (t wn : Int) (hk : k < 1000) (ht : ¬ (t < 0 ∨ (D.N : Int) ≤ t)) (hm1 : wn = 1 → may false) (hm3 : wn = 3 → D.sh = true → may true) (r : Ev4 × X)
    (hw : (if wn = 0 then wstep D x t else if wn = 1 then wask D x t false else if wn = 3 then wask D x t true else if wn = 2 then wleave D x t false else if wn = 4 then wleave D x t true else ((5, t, D.rd x t, 0), x)) = r) :
    Calls Tryz.prog 11 #[.pointer (some ⟨gw, 0, none⟩), .agg #[.int .i64 t, .int .i64 wn]] w (WAft gw ga gt gl D At S L k w r) := by
  obtain ⟨⟨ek, et, er, ec⟩, x2⟩ := r
  unfold WAft
  have hr0 : ¬ t < 0 := by omega
  have hr1 : ¬ (D.N : Int) ≤ t := by omega
  have hr2 : decide (t < 0) = false := decide_eq_false hr0
  have hr3 : decide ((D.N : Int) ≤ t) = false := decide_eq_false hr1
  have hr4 : 0 ≤ t := by omega
  have hr5 : t < (D.N : Int) := by omega
  clear ht
  have hb1 : Below w.heap.size w (w.alloc (.cells #[.int .i64 t, .int .i64 wn] 47)) := below_new _ _
  have hb2 : Below w.heap.size w ((w.alloc (.cells #[.int .i64 t, .int .i64 wn] 47)).alloc (.cells #[.int .i64 0, .int .i64 0, .bool false, .int .i64 0] 44)) := hb1.alloc hb1.size _
  have HE := Lib.hid (show ((w.alloc (.cells #[.int .i64 t, .int .i64 wn] 47)).alloc (.cells #[.int .i64 0, .int .i64 0, .bool false, .int .i64 0] 44)).heap[w.heap.size + 1]? = some (.cells #[.int .i64 0, .int .i64 0, .bool false, .int .i64 0] 44) from by simpa using blk_new (w.alloc (.cells #[.int .i64 t, .int .i64 wn] 47)) (.cells #[.int .i64 0, .int .i64 0, .bool false, .int .i64 0] 44))
  have HP := Lib.hid (show ((w.alloc (.cells #[.int .i64 t, .int .i64 wn] 47)).alloc (.cells #[.int .i64 0, .int .i64 0, .bool false, .int .i64 0] 44)).heap[w.heap.size]? = some (.cells #[.int .i64 t, .int .i64 wn] 47) from (heap_alloc_old _ _ (by simp)).trans (blk_new _ _))
  have hK := K.same hG hb2
  have HT := Lib.hid (fun n => threads_wo hG (hK.drewN hG n))
  have HK := Lib.hid hK
  have HG := Lib.hid hG
  have hL := K.sz
  have HM := Lib.hid (Mod.of_below (S := S) hb2)
  clear K hK hb1 hb2 hG
  replace hw := Lib.hid hw
  by_cases h0 : wn = 0
  · subst h0
    have hw2 := hw.out
    rw [if_pos rfl] at hw2
    have HC := fun W (K : WoA gw ga gt gl D At S L k W x) => hw2 ▸ step_wo HG.out K t hk hr4 hr5
    unfold WAft at HC
    clear hw hw2 hm1 hm3
    go_enter Tryz.func11, Tryz.ntmps11
    go_wp2_with fail
    go_quiet ((go_at_call 24; exact Calls.quiet_of_same (HT.out _)))
    have HK2 := Lib.hid (HK.out.drewN HG.out nq)
    have HM2 := Lib.hid (HM.out.drewN nq)
    have HE2 := Lib.hid (show (((w.alloc (.cells #[.int .i64 t, .int .i64 0] 47)).alloc (.cells #[.int .i64 0, .int .i64 0, .bool false, .int .i64 0] 44)).drewN nq).heap[w.heap.size + 1]? = some (.cells #[.int .i64 0, .int .i64 0, .bool false, .int .i64 0] 44) from HE.out)
    have HP2 := Lib.hid (show (((w.alloc (.cells #[.int .i64 t, .int .i64 0] 47)).alloc (.cells #[.int .i64 0, .int .i64 0, .bool false, .int .i64 0] 44)).drewN nq).heap[w.heap.size]? = some (.cells #[.int .i64 t, .int .i64 0] 47) from HP.out)
    have HZ2 := Lib.hid (show w.heap.size ≤ (((w.alloc (.cells #[.int .i64 t, .int .i64 0] 47)).alloc (.cells #[.int .i64 0, .int .i64 0, .bool false, .int .i64 0] 44)).drewN nq).heap.size from HM2.out.size)
    clear HK HM HE HP HT
    generalize ((w.alloc (.cells #[.int .i64 t, .int .i64 0] 47)).alloc (.cells #[.int .i64 0, .int .i64 0, .bool false, .int .i64 0] 44)).drewN nq = W2 at *
    have c0 := blk_cell HP2.out 0 (by simp)
    have c1 := blk_cell HP2.out 1 (by simp)
    simp only [List.getElem_toArray, List.getElem_cons_zero, List.getElem_cons_succ] at c0 c1
    go_wp2_with fail
    refine (HC _ HK2.out).mono ?_
    rintro e w4 ⟨rfl, hk4, hm4⟩
    have hlt : ∀ q ∈ S, q < L := HG.out.lt
    have HE4 := Lib.hid (hm4.blk HE2.out (fun h => by have := hlt _ h; omega))
    have HK4 := Lib.hid hk4
    have HM4 := Lib.hid (HM2.out.trans hm4)
    clear hk4 hm4 HK2 HE2 HP2 HM2 c0 c1 hlt HC
    simp only [wev]
    have d0 := blk_cell HE4.out 0 (by simp)
    have d1 := blk_cell HE4.out 1 (by simp)
    have d2 := blk_cell HE4.out 2 (by simp)
    have d3 := blk_cell HE4.out 3 (by simp)
    simp only [List.getElem_toArray, List.getElem_cons_zero, List.getElem_cons_succ] at d0 d1 d2 d3
    have f0 := blk_free HE4.out 0
    have f1 := blk_free HE4.out 1
    have f2 := blk_free HE4.out 2
    have f3 := blk_free HE4.out 3
    have k0 := blk_set HE4.out 0 (.int .i64 (ek))
    have k1 := blk_set k0 1 (.int .i64 (et))
    have k2 := blk_set k1 2 (.bool er)
    have k3 := blk_set k2 3 (.int .i64 (ec))
    have g0 := blk_cell k0 0 (by simp)
    have g1 := blk_cell k1 1 (by simp)
    have g2 := blk_cell k2 2 (by simp)
    have g3 := blk_cell k3 3 (by simp)
    simp at g0 g1 g2 g3
    clear k0 k1 k2 k3
    go_wp2_with fail
    refine bodyPost_ret (v := wev (ek, et, er, ec)) ?_ rfl ⟨rfl, ?_⟩
    · simp [wev, results, Tryz.results11, go_sem, g0, g1, g2, g3]
    · exact WoA.fin HG.out hL HK4.out HM4.out (q := w.heap.size + 1) (Nat.le_succ _) (((((Mod.refl [w.heap.size + 1] _).setCell (by simp) _).setCell (by simp) _).setCell (by simp) _).setCell (by simp) _)
  by_cases h1 : wn = 1
  · subst h1
    have hw2 := hw.out
    rw [if_neg (by decide), if_pos rfl] at hw2
    have HC := fun W (K : WoA gw ga gt gl D At S L k W x) => hw2 ▸ asks_wo HG.out K t false hk hr4 hr5 (fun _ => hm1 rfl)
    unfold WAft at HC
    clear hw hw2 hm1 hm3
    go_enter Tryz.func11, Tryz.ntmps11
    go_wp2_with fail
    go_quiet ((go_at_call 24; exact Calls.quiet_of_same (HT.out _)))
    have HK2 := Lib.hid (HK.out.drewN HG.out nq)
    have HM2 := Lib.hid (HM.out.drewN nq)
    have HE2 := Lib.hid (show (((w.alloc (.cells #[.int .i64 t, .int .i64 1] 47)).alloc (.cells #[.int .i64 0, .int .i64 0, .bool false, .int .i64 0] 44)).drewN nq).heap[w.heap.size + 1]? = some (.cells #[.int .i64 0, .int .i64 0, .bool false, .int .i64 0] 44) from HE.out)
    have HP2 := Lib.hid (show (((w.alloc (.cells #[.int .i64 t, .int .i64 1] 47)).alloc (.cells #[.int .i64 0, .int .i64 0, .bool false, .int .i64 0] 44)).drewN nq).heap[w.heap.size]? = some (.cells #[.int .i64 t, .int .i64 1] 47) from HP.out)
    have HZ2 := Lib.hid (show w.heap.size ≤ (((w.alloc (.cells #[.int .i64 t, .int .i64 1] 47)).alloc (.cells #[.int .i64 0, .int .i64 0, .bool false, .int .i64 0] 44)).drewN nq).heap.size from HM2.out.size)
    clear HK HM HE HP HT
    generalize ((w.alloc (.cells #[.int .i64 t, .int .i64 1] 47)).alloc (.cells #[.int .i64 0, .int .i64 0, .bool false, .int .i64 0] 44)).drewN nq = W2 at *
    have c0 := blk_cell HP2.out 0 (by simp)
    have c1 := blk_cell HP2.out 1 (by simp)
    simp only [List.getElem_toArray, List.getElem_cons_zero, List.getElem_cons_succ] at c0 c1
    go_wp2_with fail
    refine (HC _ HK2.out).mono ?_
    rintro e w4 ⟨rfl, hk4, hm4⟩
    have hlt : ∀ q ∈ S, q < L := HG.out.lt
    have HE4 := Lib.hid (hm4.blk HE2.out (fun h => by have := hlt _ h; omega))
    have HK4 := Lib.hid hk4
    have HM4 := Lib.hid (HM2.out.trans hm4)
    clear hk4 hm4 HK2 HE2 HP2 HM2 c0 c1 hlt HC
    simp only [wev]
    have d0 := blk_cell HE4.out 0 (by simp)
    have d1 := blk_cell HE4.out 1 (by simp)
    have d2 := blk_cell HE4.out 2 (by simp)
    have d3 := blk_cell HE4.out 3 (by simp)
    simp only [List.getElem_toArray, List.getElem_cons_zero, List.getElem_cons_succ] at d0 d1 d2 d3
    have f0 := blk_free HE4.out 0
    have f1 := blk_free HE4.out 1
    have f2 := blk_free HE4.out 2
    have f3 := blk_free HE4.out 3
    have k0 := blk_set HE4.out 0 (.int .i64 (ek))
    have k1 := blk_set k0 1 (.int .i64 (et))
    have k2 := blk_set k1 2 (.bool er)
    have k3 := blk_set k2 3 (.int .i64 (ec))
    have g0 := blk_cell k0 0 (by simp)
    have g1 := blk_cell k1 1 (by simp)
    have g2 := blk_cell k2 2 (by simp)
    have g3 := blk_cell k3 3 (by simp)
    simp at g0 g1 g2 g3
    clear k0 k1 k2 k3
    go_wp2_with fail
    refine bodyPost_ret (v := wev (ek, et, er, ec)) ?_ rfl ⟨rfl, ?_⟩
    · simp [wev, results, Tryz.results11, go_sem, g0, g1, g2, g3]
    · exact WoA.fin HG.out hL HK4.out HM4.out (q := w.heap.size + 1) (Nat.le_succ _) (((((Mod.refl [w.heap.size + 1] _).setCell (by simp) _).setCell (by simp) _).setCell (by simp) _).setCell (by simp) _)
  by_cases h3 : wn = 3
  · subst h3
    have hw2 := hw.out
    rw [if_neg (by decide), if_neg (by decide), if_pos rfl] at hw2
    have HC := fun W (K : WoA gw ga gt gl D At S L k W x) => hw2 ▸ asks_wo HG.out K t true hk hr4 hr5 (fun h => hm3 rfl (by simpa using h))
    unfold WAft at HC
    clear hw hw2 hm1 hm3
    go_enter Tryz.func11, Tryz.ntmps11
    go_wp2_with fail
    go_quiet ((go_at_call 24; exact Calls.quiet_of_same (HT.out _)))
    have HK2 := Lib.hid (HK.out.drewN HG.out nq)
    have HM2 := Lib.hid (HM.out.drewN nq)
    have HE2 := Lib.hid (show (((w.alloc (.cells #[.int .i64 t, .int .i64 3] 47)).alloc (.cells #[.int .i64 0, .int .i64 0, .bool false, .int .i64 0] 44)).drewN nq).heap[w.heap.size + 1]? = some (.cells #[.int .i64 0, .int .i64 0, .bool false, .int .i64 0] 44) from HE.out)
    have HP2 := Lib.hid (show (((w.alloc (.cells #[.int .i64 t, .int .i64 3] 47)).alloc (.cells #[.int .i64 0, .int .i64 0, .bool false, .int .i64 0] 44)).drewN nq).heap[w.heap.size]? = some (.cells #[.int .i64 t, .int .i64 3] 47) from HP.out)
    have HZ2 := Lib.hid (show w.heap.size ≤ (((w.alloc (.cells #[.int .i64 t, .int .i64 3] 47)).alloc (.cells #[.int .i64 0, .int .i64 0, .bool false, .int .i64 0] 44)).drewN nq).heap.size from HM2.out.size)
    clear HK HM HE HP HT
    generalize ((w.alloc (.cells #[.int .i64 t, .int .i64 3] 47)).alloc (.cells #[.int .i64 0, .int .i64 0, .bool false, .int .i64 0] 44)).drewN nq = W2 at *
    have c0 := blk_cell HP2.out 0 (by simp)
    have c1 := blk_cell HP2.out 1 (by simp)
    simp only [List.getElem_toArray, List.getElem_cons_zero, List.getElem_cons_succ] at c0 c1
    go_wp2_with fail
    refine (HC _ HK2.out).mono ?_
    rintro e w4 ⟨rfl, hk4, hm4⟩
    have hlt : ∀ q ∈ S, q < L := HG.out.lt
    have HE4 := Lib.hid (hm4.blk HE2.out (fun h => by have := hlt _ h; omega))
    have HK4 := Lib.hid hk4
    have HM4 := Lib.hid (HM2.out.trans hm4)
    clear hk4 hm4 HK2 HE2 HP2 HM2 c0 c1 hlt HC
    simp only [wev]
    have d0 := blk_cell HE4.out 0 (by simp)
    have d1 := blk_cell HE4.out 1 (by simp)
    have d2 := blk_cell HE4.out 2 (by simp)
    have d3 := blk_cell HE4.out 3 (by simp)
    simp only [List.getElem_toArray, List.getElem_cons_zero, List.getElem_cons_succ] at d0 d1 d2 d3
    have f0 := blk_free HE4.out 0
    have f1 := blk_free HE4.out 1
    have f2 := blk_free HE4.out 2
    have f3 := blk_free HE4.out 3
    have k0 := blk_set HE4.out 0 (.int .i64 (ek))
    have k1 := blk_set k0 1 (.int .i64 (et))
    have k2 := blk_set k1 2 (.bool er)
    have k3 := blk_set k2 3 (.int .i64 (ec))
    have g0 := blk_cell k0 0 (by simp)
    have g1 := blk_cell k1 1 (by simp)
    have g2 := blk_cell k2 2 (by simp)
    have g3 := blk_cell k3 3 (by simp)
    simp at g0 g1 g2 g3
    clear k0 k1 k2 k3
    go_wp2_with fail
    refine bodyPost_ret (v := wev (ek, et, er, ec)) ?_ rfl ⟨rfl, ?_⟩
    · simp [wev, results, Tryz.results11, go_sem, g0, g1, g2, g3]
    · exact WoA.fin HG.out hL HK4.out HM4.out (q := w.heap.size + 1) (Nat.le_succ _) (((((Mod.refl [w.heap.size + 1] _).setCell (by simp) _).setCell (by simp) _).setCell (by simp) _).setCell (by simp) _)
  by_cases h2 : wn = 2
  · subst h2
    have hw2 := hw.out
    rw [if_neg (by decide), if_neg (by decide), if_neg (by decide), if_pos rfl] at hw2
    have HC := fun W (K : WoA gw ga gt gl D At S L k W x) => hw2 ▸ leaves_wo HG.out K t false hk hr4 hr5
    unfold WAft at HC
    clear hw hw2 hm1 hm3
    go_enter Tryz.func11, Tryz.ntmps11
    go_wp2_with fail
    go_quiet ((go_at_call 24; exact Calls.quiet_of_same (HT.out _)))
    have HK2 := Lib.hid (HK.out.drewN HG.out nq)
    have HM2 := Lib.hid (HM.out.drewN nq)
    have HE2 := Lib.hid (show (((w.alloc (.cells #[.int .i64 t, .int .i64 2] 47)).alloc (.cells #[.int .i64 0, .int .i64 0, .bool false, .int .i64 0] 44)).drewN nq).heap[w.heap.size + 1]? = some (.cells #[.int .i64 0, .int .i64 0, .bool false, .int .i64 0] 44) from HE.out)
    have HP2 := Lib.hid (show (((w.alloc (.cells #[.int .i64 t, .int .i64 2] 47)).alloc (.cells #[.int .i64 0, .int .i64 0, .bool false, .int .i64 0] 44)).drewN nq).heap[w.heap.size]? = some (.cells #[.int .i64 t, .int .i64 2] 47) from HP.out)
    have HZ2 := Lib.hid (show w.heap.size ≤ (((w.alloc (.cells #[.int .i64 t, .int .i64 2] 47)).alloc (.cells #[.int .i64 0, .int .i64 0, .bool false, .int .i64 0] 44)).drewN nq).heap.size from HM2.out.size)
    clear HK HM HE HP HT
    generalize ((w.alloc (.cells #[.int .i64 t, .int .i64 2] 47)).alloc (.cells #[.int .i64 0, .int .i64 0, .bool false, .int .i64 0] 44)).drewN nq = W2 at *
    have c0 := blk_cell HP2.out 0 (by simp)
    have c1 := blk_cell HP2.out 1 (by simp)
    simp only [List.getElem_toArray, List.getElem_cons_zero, List.getElem_cons_succ] at c0 c1
    go_wp2_with fail
    refine (HC _ HK2.out).mono ?_
    rintro e w4 ⟨rfl, hk4, hm4⟩
    have hlt : ∀ q ∈ S, q < L := HG.out.lt
    have HE4 := Lib.hid (hm4.blk HE2.out (fun h => by have := hlt _ h; omega))
    have HK4 := Lib.hid hk4
    have HM4 := Lib.hid (HM2.out.trans hm4)
    clear hk4 hm4 HK2 HE2 HP2 HM2 c0 c1 hlt HC
    simp only [wev]
    have d0 := blk_cell HE4.out 0 (by simp)
    have d1 := blk_cell HE4.out 1 (by simp)
    have d2 := blk_cell HE4.out 2 (by simp)
    have d3 := blk_cell HE4.out 3 (by simp)
    simp only [List.getElem_toArray, List.getElem_cons_zero, List.getElem_cons_succ] at d0 d1 d2 d3
    have f0 := blk_free HE4.out 0
    have f1 := blk_free HE4.out 1
    have f2 := blk_free HE4.out 2
    have f3 := blk_free HE4.out 3
    have k0 := blk_set HE4.out 0 (.int .i64 (ek))
    have k1 := blk_set k0 1 (.int .i64 (et))
    have k2 := blk_set k1 2 (.bool er)
    have k3 := blk_set k2 3 (.int .i64 (ec))
    have g0 := blk_cell k0 0 (by simp)
    have g1 := blk_cell k1 1 (by simp)
    have g2 := blk_cell k2 2 (by simp)
    have g3 := blk_cell k3 3 (by simp)
    simp at g0 g1 g2 g3
    clear k0 k1 k2 k3
    go_wp2_with fail
    refine bodyPost_ret (v := wev (ek, et, er, ec)) ?_ rfl ⟨rfl, ?_⟩
    · simp [wev, results, Tryz.results11, go_sem, g0, g1, g2, g3]
    · exact WoA.fin HG.out hL HK4.out HM4.out (q := w.heap.size + 1) (Nat.le_succ _) (((((Mod.refl [w.heap.size + 1] _).setCell (by simp) _).setCell (by simp) _).setCell (by simp) _).setCell (by simp) _)
  by_cases h4 : wn = 4
  · subst h4
    have hw2 := hw.out
    rw [if_neg (by decide), if_neg (by decide), if_neg (by decide), if_neg (by decide), if_pos rfl] at hw2
    have HC := fun W (K : WoA gw ga gt gl D At S L k W x) => hw2 ▸ leaves_wo HG.out K t true hk hr4 hr5
    unfold WAft at HC
    clear hw hw2 hm1 hm3
    go_enter Tryz.func11, Tryz.ntmps11
    go_wp2_with fail
    go_quiet ((go_at_call 24; exact Calls.quiet_of_same (HT.out _)))
    have HK2 := Lib.hid (HK.out.drewN HG.out nq)
    have HM2 := Lib.hid (HM.out.drewN nq)
    have HE2 := Lib.hid (show (((w.alloc (.cells #[.int .i64 t, .int .i64 4] 47)).alloc (.cells #[.int .i64 0, .int .i64 0, .bool false, .int .i64 0] 44)).drewN nq).heap[w.heap.size + 1]? = some (.cells #[.int .i64 0, .int .i64 0, .bool false, .int .i64 0] 44) from HE.out)
    have HP2 := Lib.hid (show (((w.alloc (.cells #[.int .i64 t, .int .i64 4] 47)).alloc (.cells #[.int .i64 0, .int .i64 0, .bool false, .int .i64 0] 44)).drewN nq).heap[w.heap.size]? = some (.cells #[.int .i64 t, .int .i64 4] 47) from HP.out)
    have HZ2 := Lib.hid (show w.heap.size ≤ (((w.alloc (.cells #[.int .i64 t, .int .i64 4] 47)).alloc (.cells #[.int .i64 0, .int .i64 0, .bool false, .int .i64 0] 44)).drewN nq).heap.size from HM2.out.size)
    clear HK HM HE HP HT
    generalize ((w.alloc (.cells #[.int .i64 t, .int .i64 4] 47)).alloc (.cells #[.int .i64 0, .int .i64 0, .bool false, .int .i64 0] 44)).drewN nq = W2 at *
    have c0 := blk_cell HP2.out 0 (by simp)
    have c1 := blk_cell HP2.out 1 (by simp)
    simp only [List.getElem_toArray, List.getElem_cons_zero, List.getElem_cons_succ] at c0 c1
    go_wp2_with fail
    refine (HC _ HK2.out).mono ?_
    rintro e w4 ⟨rfl, hk4, hm4⟩
    have hlt : ∀ q ∈ S, q < L := HG.out.lt
    have HE4 := Lib.hid (hm4.blk HE2.out (fun h => by have := hlt _ h; omega))
    have HK4 := Lib.hid hk4
    have HM4 := Lib.hid (HM2.out.trans hm4)
    clear hk4 hm4 HK2 HE2 HP2 HM2 c0 c1 hlt HC
    simp only [wev]
    have d0 := blk_cell HE4.out 0 (by simp)
    have d1 := blk_cell HE4.out 1 (by simp)
    have d2 := blk_cell HE4.out 2 (by simp)
    have d3 := blk_cell HE4.out 3 (by simp)
    simp only [List.getElem_toArray, List.getElem_cons_zero, List.getElem_cons_succ] at d0 d1 d2 d3
    have f0 := blk_free HE4.out 0
    have f1 := blk_free HE4.out 1
    have f2 := blk_free HE4.out 2
    have f3 := blk_free HE4.out 3
    have k0 := blk_set HE4.out 0 (.int .i64 (ek))
    have k1 := blk_set k0 1 (.int .i64 (et))
    have k2 := blk_set k1 2 (.bool er)
    have k3 := blk_set k2 3 (.int .i64 (ec))
    have g0 := blk_cell k0 0 (by simp)
    have g1 := blk_cell k1 1 (by simp)
    have g2 := blk_cell k2 2 (by simp)
    have g3 := blk_cell k3 3 (by simp)
    simp at g0 g1 g2 g3
    clear k0 k1 k2 k3
    go_wp2_with fail
    refine bodyPost_ret (v := wev (ek, et, er, ec)) ?_ rfl ⟨rfl, ?_⟩
    · simp [wev, results, Tryz.results11, go_sem, g0, g1, g2, g3]
    · exact WoA.fin HG.out hL HK4.out HM4.out (q := w.heap.size + 1) (Nat.le_succ _) (((((Mod.refl [w.heap.size + 1] _).setCell (by simp) _).setCell (by simp) _).setCell (by simp) _).setCell (by simp) _)
  have hw2 := hw.out
  rw [if_neg h0, if_neg h1, if_neg h3, if_neg h2, if_neg h4] at hw2
  simp only [Prod.mk.injEq] at hw2
  obtain ⟨⟨rfl, rfl, rfl, rfl⟩, rfl⟩ := hw2
  have e0 := ibeq_no h0
  have e1 := ibeq_no h1
  have e2 := ibeq_no h2
  have e3 := ibeq_no h3
  have e4 := ibeq_no h4
  clear hw hm1 hm3 h0 h1 h2 h3 h4
  go_enter Tryz.func11, Tryz.ntmps11
  go_wp2_with fail
  go_quiet ((go_at_call 24; exact Calls.quiet_of_same (HT.out _)))
  have HK2 := Lib.hid (HK.out.drewN HG.out nq)
  have HM2 := Lib.hid (HM.out.drewN nq)
  have HE2 := Lib.hid (show (((w.alloc (.cells #[.int .i64 t, .int .i64 wn] 47)).alloc (.cells #[.int .i64 0, .int .i64 0, .bool false, .int .i64 0] 44)).drewN nq).heap[w.heap.size + 1]? = some (.cells #[.int .i64 0, .int .i64 0, .bool false, .int .i64 0] 44) from HE.out)
  have HP2 := Lib.hid (show (((w.alloc (.cells #[.int .i64 t, .int .i64 wn] 47)).alloc (.cells #[.int .i64 0, .int .i64 0, .bool false, .int .i64 0] 44)).drewN nq).heap[w.heap.size]? = some (.cells #[.int .i64 t, .int .i64 wn] 47) from HP.out)
  have HZ2 := Lib.hid (show w.heap.size ≤ (((w.alloc (.cells #[.int .i64 t, .int .i64 wn] 47)).alloc (.cells #[.int .i64 0, .int .i64 0, .bool false, .int .i64 0] 44)).drewN nq).heap.size from HM2.out.size)
  clear HK HM HE HP HT
  generalize ((w.alloc (.cells #[.int .i64 t, .int .i64 wn] 47)).alloc (.cells #[.int .i64 0, .int .i64 0, .bool false, .int .i64 0] 44)).drewN nq = W2 at *
  have c0 := blk_cell HP2.out 0 (by simp)
  have c1 := blk_cell HP2.out 1 (by simp)
  simp only [List.getElem_toArray, List.getElem_cons_zero, List.getElem_cons_succ] at c0 c1
  go_wp2_with fail
  refine (state_wo HG.out HK2.out t).mono ?_
  rintro e w4 ⟨rfl, hb4⟩
  have HE4 := Lib.hid ((Mod.of_below (S := []) hb4).blk HE2.out (by simp))
  have HP4 := (Mod.of_below (S := []) hb4).blk HP2.out (by simp)
  have HK4 := Lib.hid ((HK2.out.same HG.out hb4).up HG.out)
  have HM4 := Lib.hid (HM2.out.trans (Mod.of_below (S := S) hb4))
  clear c0 c1
  have c0 := blk_cell HP4 0 (by simp)
  have c1 := blk_cell HP4 1 (by simp)
  simp only [List.getElem_toArray, List.getElem_cons_zero, List.getElem_cons_succ] at c0 c1
  clear hb4 HK2 HE2 HP2 HM2 HP4
  have d0 := blk_cell HE4.out 0 (by simp)
  have d1 := blk_cell HE4.out 1 (by simp)
  have d2 := blk_cell HE4.out 2 (by simp)
  have d3 := blk_cell HE4.out 3 (by simp)
  simp only [List.getElem_toArray, List.getElem_cons_zero, List.getElem_cons_succ] at d0 d1 d2 d3
  have f0 := blk_free HE4.out 0
  have f1 := blk_free HE4.out 1
  have f2 := blk_free HE4.out 2
  have f3 := blk_free HE4.out 3
  have k0 := blk_set HE4.out 0 (.int .i64 (5))
  have k1 := blk_set k0 1 (.int .i64 (t))
  have k2 := blk_set k1 2 (.bool (D.rd x t))
  have k3 := blk_set k2 3 (.int .i64 (0))
  have g0 := blk_cell k0 0 (by simp)
  have g1 := blk_cell k1 1 (by simp)
  have g2 := blk_cell k2 2 (by simp)
  have g3 := blk_cell k3 3 (by simp)
  simp at g0 g1 g2 g3
  clear k0 k1 k2 k3
  go_wp2_with fail
  refine bodyPost_ret (v := wev (5, t, (D.rd x t), 0)) ?_ rfl ⟨rfl, ?_⟩
  · simp [wev, results, Tryz.results11, go_sem, g0, g1, g2, g3]
  · exact WoA.fin HG.out hL HK4.out HM4.out (q := w.heap.size + 1) (Nat.le_succ _) (((((Mod.refl [w.heap.size + 1] _).setCell (by simp) _).setCell (by simp) _).setCell (by simp) _).setCell (by simp) _)
theorem do_wo (t wn : Int) (hk : k < 1000) (hm1 : wn = 1 → may false) (hm3 : wn = 3 → D.sh = true → may true) :
    Calls Tryz.prog 11 #[.pointer (some ⟨gw, 0, none⟩), .agg #[.int .i64 t, .int .i64 wn]] w (WAft gw ga gt gl D At S L k w (wact D x t wn)) := by
  by_cases ht : t < 0 ∨ (D.N : Int) ≤ t
  · have := do_out hG K t wn ht
    rw [show wact D x t wn = ((0, 0, false, 0), x) by unfold wact; rw [if_pos ht]]
    exact this
  · exact do_in hG K t wn hk ht hm1 hm3 _ (by unfold wact; rw [if_neg ht])
end
end Go.Proofs.YtfmiioddhpkdkaaGreat.Wo

/- Package locks: Spot of a thread that is none. -/
namespace Go.Proofs.YtfmiioddhpkdkaaGreat.Lk
open Go.RowKit Go.Proofs.YtfmiioddhpkdkaaGreat.Ara Go.Proofs.YtfmiioddhpkdkaaGreat.Lok Go.Proofs.YtfmiioddhpkdkaaGreat.Ga

set_option maxRecDepth 100000 in
theorem Spot_out (gl : Nat) (kind T : Int) (Ty : TypeId) (v : Value) (w : World) (H : LkB w gl kind T Ty v) (i : Int) (h : i < 0 ∨ T ≤ i) :
    Calls Tryz.prog 61 #[.pointer (some ⟨gl, 0, none⟩), .int .i64 i] w fun e w' => e = .returned (vSp ⟨0, 0, 0, 0⟩) ∧ Below w.heap.size w w' := by
  have hb := below_new w (.cells #[.int .i64 0, .int .i64 0, .int .i64 0, .int .i64 0] 134)
  have HX := Lib.hid (blk_new w (.cells #[.int .i64 0, .int .i64 0, .int .i64 0, .int .i64 0] 134))
  have HB := Lib.hid hb
  have HH := Lib.hid (has_out gl kind T Ty v _ (LkB.same H hb) i h)
  clear H hb
  unfold vSp
  go_enter Tryz.func61, Tryz.ntmps61
  go_wp2_with fail
  refine HH.out.mono ?_
  rintro e wx ⟨rfl, hwx⟩
  obtain rfl := hwx.symm
  generalize w.alloc (.cells #[.int .i64 0, .int .i64 0, .int .i64 0, .int .i64 0] 134) = W2 at *
  have d0 := blk_cell HX.out 0 (by simp)
  have d1 := blk_cell HX.out 1 (by simp)
  have d2 := blk_cell HX.out 2 (by simp)
  have d3 := blk_cell HX.out 3 (by simp)
  simp only [List.getElem_toArray, List.getElem_cons_zero, List.getElem_cons_succ] at d0 d1 d2 d3
  have f0 := blk_free HX.out 0
  have f1 := blk_free HX.out 1
  have f2 := blk_free HX.out 2
  have f3 := blk_free HX.out 3
  have k0 := blk_set HX.out 0 (.int .i64 0)
  have k1 := blk_set k0 1 (.int .i64 0)
  have k2 := blk_set k1 2 (.int .i64 0)
  have k3 := blk_set k2 3 (.int .i64 0)
  have g0 := blk_cell k0 0 (by simp)
  have g1 := blk_cell k1 1 (by simp)
  have g2 := blk_cell k2 2 (by simp)
  have g3 := blk_cell k3 3 (by simp)
  simp at g0 g1 g2 g3
  clear k0 k1 k2 k3
  go_wp2_with fail
  refine bodyPost_ret (v := .agg #[.int .i64 0, .int .i64 0, .int .i64 0, .int .i64 0]) ?_ rfl ⟨rfl, ?_⟩
  · simp [results, Tryz.results61, go_sem, g0, g1, g2, g3]
  · exact (((HB.out.setCell (Nat.le_refl _) _).setCell (Nat.le_refl _) _).setCell (Nat.le_refl _) _).setCell (Nat.le_refl _) _
end Go.Proofs.YtfmiioddhpkdkaaGreat.Lk

/- Rows of one's own, apart from one another: what Even builds. -/
namespace Go.Proofs.YtfmiioddhpkdkaaGreat.Tp
open Go.RowKit Go.Proofs.YtfmiioddhpkdkaaGreat.Li Go.Proofs.YtfmiioddhpkdkaaGreat.De Go.Proofs.YtfmiioddhpkdkaaGreat.Ara

theorem grown_mod {w w' : World} {row : Option Nat} (h : w.grownBy w' row) : Mod row.toList w w' :=
  ⟨h.os, h.tape, h.output, h.size, fun k hk hn => h.block k hk (fun e => hn (by rw [← e]; simp))⟩
theorem own_apart {S : List Nat} {w w' : World} {base : Nat} {e : TypeId} {size : Nat} {v : Value} {n : Nat} {xs : List Value} (h : w.ownsRow base e size v n xs) (hm : Mod S w w') (hb : ∀ b, v.ownBlock = some b → b ∉ S) : w'.ownsRow base e size v n xs := by
  obtain ⟨h1, h2⟩ := h
  refine ⟨h1, ?_⟩
  rcases h2 with h2 | ⟨g, cap, cur, rfl, hg, hbk, rest⟩
  · exact .inl h2
  · exact .inr ⟨g, cap, cur, rfl, hg, hm.blk hbk (hb g rfl), rest⟩
theorem own_block {w : World} {base : Nat} {e : TypeId} {size : Nat} {v : Value} {n : Nat} {xs : List Value} (h : w.ownsRow base e size v n xs) {b : Nat} (hb : v.ownBlock = some b) : base ≤ b ∧ b < w.heap.size := by
  rcases h.2 with ⟨rfl, _⟩ | ⟨g, cap, cur, rfl, hg, hbk, rest⟩
  · cases hb
  · simp [Value.ownBlock] at hb
    subst hb
    exact ⟨hg, lt_of_blk hbk⟩
theorem wpList_append1_at {P : Program} {ops : Array Oper} {rest : List Oper} {o : Oper} {a : Act} {Q : Exit → Act → World → Prop} (s x : Operand) (t e : TypeId) (z : Value) (size bytes : Nat)
    (hgd : o.guard = none) (ho : o.op = .call { callee := .builtin .append, args := #[s, x], argTypes := #[t, t] }) (ht : P.underlying t = some (.slice e))
    (hinfo : (P.info? e).map (fun i => (i.zero, i.size, i.bytes)) = some (some z, size, bytes)) (hzs : z.cells.size = size) (hsz : 0 < size)
    (base : Nat) (w : World) (v : Value) (n : Nat) (xs : List Value) (news : Array Value) (e' : TypeId) (c g : Nat) (hown : w.ownsRow base e size v n xs) (hs : a.eval s = v) (hx : a.eval x = .slice (some ⟨g, 0, none⟩) 1 c) (hgs : w.heap.size = g)
    (hl : news.size = size) (h1 : ∀ u ∈ news.toList, u.oneCell' = true) (h63 : n + 1 ≤ maxLen) (hbytes : (n + 1) * bytes ≤ 140737488355328) (hbase : base ≤ w.heap.size)
    (h : ∀ v' w', Hid (w'.ownsRow base e size v' (n + 1) (xs ++ news.toList)) → Hid (w.grownBy w' v.ownBlock) → Hid (∀ b, v'.ownBlock = some b → v.ownBlock = some b ∨ w.heap.size ≤ b) → wpList P ops Q rest (a.put o.dst v') w') :
    wpList P ops Q (o :: rest) a (w.alloc (.cells news e')) := by
  subst hgs
  obtain ⟨i0, hi0, hz0, hz1, hz2⟩ := info_parts hinfo
  refine wpList_append_own_at _ hgd s x t ho base e i0 z size bytes ht hi0 hz0 hz1 hz2 hzs hsz v n xs hs (hown.alloc _) ⟨w.heap.size, 0, none⟩ 1 c news.toList hx (by simpa using hl) ?_ h1 h63 hbytes (by simp; omega) ?_
  · intro j u hu
    have hadd : (⟨w.heap.size, 0, none⟩ : Addr).add j = ⟨w.heap.size, j, none⟩ := by unfold Addr.add; split <;> simp_all
    rw [hadd, World.cell?_alloc_at _ _ _ _ rfl]
    simpa using hu
  · intro v' w' h2 h3 _ h4
    have hg := grown_trans (World.grownBy_alloc w (.cells news e') v.ownBlock) h3
    refine h v' w' h2 hg (fun b hb => ?_)
    rcases h4 with h4 | h4
    · left; rw [← h4]; exact hb
    · right
      rw [h4] at hb
      injection hb with hb
      rw [← hb]
      simp
def Row (B G : Nat) (W : World) (v : Value) (xs : List Int) : Prop := W.ownsRow B 3 1 v xs.length (xs.map (Value.int .i64)) ∧ ∀ b, v.ownBlock = some b → b ≠ G
def Apart (v u : Value) : Prop := ∀ b, v.ownBlock = some b → u.ownBlock ≠ some b
theorem Apart.symm {v u : Value} (h : Apart v u) : Apart u v := fun b hb e => h b e hb
def Tri (B G : Nat) (W : World) (a b c : Value) (la lb lc : List Int) : Prop :=
  Row B G W a la ∧ Row B G W b lb ∧ Row B G W c lc ∧ Apart a b ∧ Apart a c ∧ Apart b c ∧ B ≤ G ∧ G < W.heap.size
section
variable {B G : Nat} {W W' : World} {a b c : Value} {la lb lc : List Int}
theorem Row.mod {S : List Nat} {v : Value} {xs : List Int} (h : Row B G W v xs) (hm : Mod S W W') (hS : ∀ x ∈ S, x < B ∨ x = G) : Row B G W' v xs :=
  ⟨own_apart h.1 hm (fun b hb hx => by have := h.2 b hb; have := (own_block h.1 hb).1; have := hS b hx; omega), h.2⟩
theorem Tri.mod {S : List Nat} (h : Tri B G W a b c la lb lc) (hm : Mod S W W') (hS : ∀ x ∈ S, x < B ∨ x = G) : Tri B G W' a b c la lb lc := by
  obtain ⟨h1, h2, h3, h4, h5, h6, h7, h8⟩ := h
  exact ⟨h1.mod hm hS, h2.mod hm hS, h3.mod hm hS, h4, h5, h6, h7, Nat.lt_of_lt_of_le h8 hm.size⟩
theorem Tri.own (h : Tri B G W a b c la lb lc) : W.ownsRow B 3 1 c lc.length (lc.map (Value.int .i64)) := h.2.2.1.1
theorem Tri.push {c' : Value} {x : Int} (h : Tri B G W a b c la lb lc) (hown : W'.ownsRow B 3 1 c' (lc.length + 1) (lc.map (Value.int .i64) ++ [.int .i64 x])) (hg : W.grownBy W' c.ownBlock) (hn : ∀ b, c'.ownBlock = some b → c.ownBlock = some b ∨ W.heap.size ≤ b) :
    Tri B G W' a b c' la lb (lc ++ [x]) ∧ Mod c.ownBlock.toList W W' ∧ ∀ y ∈ c.ownBlock.toList, B ≤ y ∧ y ≠ G := by
  obtain ⟨h1, h2, h3, h4, h5, h6, h7, h8⟩ := h
  have hm := grown_mod hg
  have hS : ∀ x ∈ c.ownBlock.toList, c.ownBlock = some x := by simp
  have key : ∀ v, (∀ b, v.ownBlock = some b → b < W.heap.size) → Apart v c → Apart v c' := fun v hv ha b hb e => by
    rcases hn b e with h | h
    · exact ha b hb h
    · have := hv b hb; omega
  refine ⟨⟨⟨own_apart h1.1 hm (fun b hb hx => h5 b hb (hS b hx)), h1.2⟩, ⟨own_apart h2.1 hm (fun b hb hx => h6 b hb (hS b hx)), h2.2⟩, ⟨by simpa using hown, fun b hb => ?_⟩, h4, key a (fun b hb => (own_block h1.1 hb).2) h5, key b (fun b hb => (own_block h2.1 hb).2) h6, h7, Nat.lt_of_lt_of_le h8 hm.size⟩, hm, fun y hy => ⟨(own_block h3.1 (hS y hy)).1, h3.2 y (hS y hy)⟩⟩
  rcases hn b hb with h | h
  · exact h3.2 b h
  · omega
theorem Tri.next (h : Tri B G W a b c la lb lc) : Tri B G W a c (.slice none 0 0) la lc [] := by
  obtain ⟨h1, h2, h3, h4, h5, h6, h7, h8⟩ := h
  exact ⟨h1, h3, ⟨World.ownsRow_nil _ _ _ _, fun b hb => by cases hb⟩, h5, (fun b hb e => by cases e), (fun b hb e => by cases e), h7, h8⟩
theorem Tri.clear (h : Tri B G W a b c la lb lc) : Tri B G W a b (.slice none 0 0) la lb [] := by
  obtain ⟨h1, h2, h3, h4, h5, h6, h7, h8⟩ := h
  exact ⟨h1, h2, ⟨World.ownsRow_nil _ _ _ _, fun b hb => by cases hb⟩, h4, (fun b hb e => by cases e), (fun b hb e => by cases e), h7, h8⟩
theorem Row.cell {v : Value} {xs : List Int} (h : Row B G W v xs) (hn : 0 < xs.length) : ∃ g cap, v = .slice (some ⟨g, 0, none⟩) xs.length cap ∧ ∀ j, j < xs.length → W.cell? ⟨g, j, none⟩ = some (.int .i64 (xs.getD j 0)) := by
  obtain ⟨A, cp, rfl, _, _, hsl⟩ := own_slice h.1
  have hsl2 : Sl W W.heap.size A (xs.flatMap decI) := by rw [Ara.flatI]; exact hsl
  obtain ⟨h1, h2⟩ := h
  rcases h1.2 with ⟨h3, h4⟩ | ⟨g, cap, cur, h3, hg, hbk, rest⟩
  · omega
  · injection h3 with h3 _ h5
    subst h3
    obtain ⟨b, off, e, _, hcell⟩ := sl_g hsl2 hn
    injection e with e
    injection e with e1 e2
    subst e1 e2
    exact ⟨g, cp, rfl, fun j hj => by have := hcell j hj; rwa [Nat.zero_add] at this⟩
theorem Row.slice {v : Value} {xs : List Int} (h : Row B G W v xs) : ∃ A cap, v = .slice A xs.length cap ∧ Sl W W.heap.size A (xs.flatMap decI) := by
  obtain ⟨A, cp, rfl, _, _, hsl⟩ := own_slice h.1
  exact ⟨A, cp, rfl, by rw [Ara.flatI]; exact hsl⟩
end
def EvW (w W : World) (x y : Value) : Prop := Below w.heap.size w W ∧ W.heap[w.heap.size]? = some (.cells #[.slice none 0 0, .slice none 0 0] 24 (0, 0)) ∧ W.heap[w.heap.size + 2]? = some (.cells #[x, y] 24 (0, 0))
theorem EvW.mod {w W W' : World} {x y : Value} {S : List Nat} (h : EvW w W x y) (hm : Mod S W W') (hS : ∀ k ∈ S, w.heap.size + 1 ≤ k ∧ k ≠ w.heap.size + 2) : EvW w W' x y :=
  ⟨Mod.below_of h.1 hm h.1.size (fun k hk => by have := hS k hk; omega), hm.blk h.2.1 (fun hk => by have := hS _ hk; omega), hm.blk h.2.2 (fun hk => (hS _ hk).2 rfl)⟩
theorem Tri.set {B G k : Nat} {W : World} {a b c : Value} {la lb lc : List Int} (h : Tri B G W a b c la lb lc) (v : Value) : Tri B G (W.setCell ⟨G, k, none⟩ v) a b c la lb lc :=
  h.mod (S := [G]) ((Mod.refl _ _).setCell (by simp) _) (fun x hx => by rw [List.mem_singleton] at hx; exact .inr hx)
end Go.Proofs.YtfmiioddhpkdkaaGreat.Tp

/- The leaf of each thread, by its place among all leaves, and the number of each among those of its leaf: the plain law. -/
namespace Go.Proofs.YtfmiioddhpkdkaaGreat.Tp

def cntK (t : List Int) (x : Int) : Nat → Nat
  | 0 => 0
  | k + 1 => cntK t x k + if t.getD k 0 = x then 1 else 0
def ndI (p t : List Int) (k : Nat) : Nat := (idxI (lvs p) (t.getD k 0)).toNat
def slI (t : List Int) (k : Nat) : Nat := cntK t (t.getD k 0) k
def mtI (p t : List Int) (n : Nat) : Nat := cntK t ((lvs p).getD n 0) t.length
theorem cntK_le (t : List Int) (x : Int) {k j : Nat} (h : k ≤ j) : cntK t x k ≤ cntK t x j := by
  induction j with
  | zero => obtain rfl : k = 0 := by omega
            exact Nat.le_refl _
  | succ j ih =>
    by_cases e : k = j + 1
    · rw [e]; exact Nat.le_refl _
    · exact Nat.le_trans (ih (by omega)) (Nat.le_add_right _ _)
theorem cntK_self (t : List Int) (k : Nat) : cntK t (t.getD k 0) (k + 1) = cntK t (t.getD k 0) k + 1 := by
  show _ + (if t.getD k 0 = t.getD k 0 then 1 else 0) = _
  rw [if_pos rfl]
theorem cntK_bound (t : List Int) (x : Int) (k : Nat) : cntK t x k ≤ k := by
  induction k with
  | zero => exact Nat.le_refl _
  | succ k ih =>
    show cntK t x k + _ ≤ _
    split <;> omega
theorem nd_at {p t : List Int} {k : Nat} (h : t.getD k 0 ∈ lvs p) : ndI p t k < (lvs p).length ∧ (lvs p).getD (ndI p t k) 0 = t.getD k 0 ∧ idxI (lvs p) (t.getD k 0) = (ndI p t k : Int) := by
  obtain ⟨j, h1, h2, h3⟩ := idx_at (n := 0) h
  have e : idxI (lvs p) (t.getD k 0) = (j : Int) := by unfold idxI; rw [h2, Nat.zero_add]
  have e2 : ndI p t k = j := by unfold ndI; rw [e]; exact Int.toNat_natCast j
  rw [e2]
  exact ⟨h1, h3, e⟩
theorem chk_mem {p t : List Int} (h : chk p t = 0) {k : Nat} (hk : k < t.length) : t.getD k 0 ∈ lvs p := mem_lvs.2 ((chk_ok h).2.2.2 _ (getD_mem hk))
theorem lvs_nodup (p : List Int) : (lvs p).Nodup := by
  unfold lvs lvK
  refine List.Pairwise.filter _ ?_
  refine List.Pairwise.map _ (fun a b (hab : a ≠ b) e => hab (by omega)) List.nodup_range
section
variable {p t : List Int} (h : chk p t = 0)
include h
theorem nd_lt {k : Nat} (hk : k < t.length) : ndI p t k < (lvs p).length ∧ slI t k < mtI p t (ndI p t k) := by
  obtain ⟨h1, h2, _⟩ := nd_at (chk_mem h hk)
  refine ⟨h1, ?_⟩
  unfold mtI slI
  rw [h2]
  have := cntK_self t k
  have := cntK_le t (t.getD k 0) (show k + 1 ≤ t.length from hk)
  omega
theorem nd_inj {k u : Nat} (hk : k < t.length) (hu : u < t.length) (e : ndI p t k = ndI p t u) (e2 : slI t k = slI t u) : k = u := by
  obtain ⟨_, h2, _⟩ := nd_at (chk_mem h hk)
  obtain ⟨_, h4, _⟩ := nd_at (chk_mem h hu)
  rw [e, h4] at h2
  have key : ∀ a b, a < b → t.getD a 0 = t.getD b 0 → slI t a < slI t b := fun a b hab h9 => by
    have s1 := cntK_self t a
    have s2 := cntK_le t (t.getD a 0) (show a + 1 ≤ b from hab)
    unfold slI
    rw [← h9]
    omega
  rcases Nat.lt_trichotomy k u with h5 | h5 | h5
  · have := key k u h5 h2.symm
    omega
  · exact h5
  · have := key u k h5 h2
    omega
end
theorem mt_le (p t : List Int) (n : Nat) : mtI p t n ≤ t.length := cntK_bound _ _ _
end Go.Proofs.YtfmiioddhpkdkaaGreat.Tp

/- Package path: a topology's table in memory; New, where the topology may be. -/
namespace Go.Proofs.YtfmiioddhpkdkaaGreat.Pa
open Go.RowKit Go.Proofs.YtfmiioddhpkdkaaGreat.Tp Go.Proofs.YtfmiioddhpkdkaaGreat.Li Go.Proofs.YtfmiioddhpkdkaaGreat.De Go.Proofs.YtfmiioddhpkdkaaGreat.Ara

def Rw (W : World) (b : Nat) (l : List Int) : Prop := ∀ j, j < l.length → W.cell? ⟨b, j, none⟩ = some (.int .i64 (l.getD j 0))
theorem cell_mod {S : List Nat} {a w : World} (hm : Mod S a w) {p : Addr} (hp : p.block < a.heap.size) (hn : p.block ∉ S) : w.cell? p = a.cell? p := by
  unfold World.cell?
  rw [hm.block _ hp hn]
theorem Rw.mod {S : List Nat} {a w : World} {b : Nat} {l : List Int} (h : Rw a b l) (hm : Mod S a w) (hb : b < a.heap.size) (hn : b ∉ S) : Rw w b l := fun j hj => (cell_mod hm (p := ⟨b, j, none⟩) hb hn).trans (h j hj)
theorem Rw.of_own {B : Nat} {W : World} {v : Value} {l : List Int} (h1 : W.ownsRow B 3 1 v l.length (l.map (Value.int .i64))) (hn : 0 < l.length) : ∃ g cap, v = .slice (some ⟨g, 0, none⟩) l.length cap ∧ B ≤ g ∧ g < W.heap.size ∧ Rw W g l := by
  obtain ⟨A2, c2, rfl, _, _, hs2⟩ := own_slice h1
  have hs3 : Sl W W.heap.size A2 (l.flatMap decI) := by rw [Ara.flatI]; exact hs2
  rcases h1.2 with ⟨_, h4⟩ | ⟨g, cp, cur, h3, hg, hbk, rest⟩
  · omega
  · injection h3 with h3 _ h5
    subst h3
    obtain ⟨b, off, e, hb, hcell⟩ := sl_g hs3 hn
    injection e with e
    injection e with e1 e2
    subst e1 e2
    exact ⟨g, c2, rfl, hg, hb, fun j hj => by have := hcell j hj; rwa [Nat.zero_add] at this⟩
set_option maxRecDepth 100000 in
theorem clone_int (l : List Int) (A : Option Addr) (cap : Nat) (w : World) (hn : 0 < l.length) (hm : l.length ≤ 1000) (hs : Sl w w.heap.size A (l.flatMap decI)) :
    Calls Tryz.prog 59 #[.slice A l.length cap] w fun e w' => ∃ g c, e = .returned (.slice (some ⟨g, 0, none⟩) l.length c) ∧ w.heap.size ≤ g ∧ g < w'.heap.size ∧ Rw w' g l ∧ Below w.heap.size w w' := by
  suffices h : Calls Tryz.prog 59 #[.slice A l.length cap] w fun e w' => ∃ v, e = .returned v ∧ w'.ownsRow w.heap.size 3 1 v l.length (l.map (Value.int .i64)) ∧ Below w.heap.size w w' by
    refine h.mono ?_
    rintro e w' ⟨v, rfl, h1, h2⟩
    obtain ⟨g, c, rfl, a, b, d⟩ := Rw.of_own h1 hn
    exact ⟨g, c, rfl, a, b, d, h2⟩
  obtain ⟨b, off, rfl, hb, hcell⟩ := sl_g hs hn
  obtain ⟨i0, hi0, hz0, hz1, hz2⟩ := info_parts infoI
  have HC := Lib.hid hcell
  have hq : ∀ W : World, (binOp .eql 22 (.slice (some ⟨b, off, none⟩) l.length cap) (.slice none 0 0)).run Tryz.prog W = .ok (.bool false) W := fun W => by kernel_rfl
  clear hs hcell
  go_enter Tryz.func59, Tryz.ntmps59
  go_wp2_with (at_builtin; refine wpList_append_own_at _ rfl (.tmp 5) (.tmp 6) 22 rfl w.heap.size 3 i0 (.int .i64 0) 1 8 Tryz.underlying22 hi0 hz0 hz1 hz2 rfl (by decide) (.slice (some ⟨w.heap.size, 0, none⟩) 0 0) 0 [] rfl ?own ⟨b, off, none⟩ l.length cap (l.map (Value.int .i64)) rfl (by simp) ?cells ?one ?m63 ?by_ ?base ?k; case' k => intro v' w2 hown2 hg2 _ _)
  case own => exact World.ownsRow_made w #[] 0 (Nat.le_refl _) (Nat.zero_le _) rfl
  case cells =>
    intro j u hu
    have hj : j < l.length := by have := (List.getElem?_eq_some_iff.1 hu).1; simpa using this
    have hadd : (⟨b, off, none⟩ : Addr).add j = ⟨b, off + j, none⟩ := by unfold Addr.add; split <;> simp_all
    rw [hadd, (below_new w (.cells #[] 3)).cell (p := ⟨b, off + j, none⟩) hb, HC.out j hj, ← hu]
    simp [List.getElem?_eq_getElem hj]
  case one => intro u hu; obtain ⟨y, _, rfl⟩ := List.mem_map.1 hu; rfl
  case m63 => simp only [maxLen]; omega
  case by_ => omega
  case base => simp
  go_wp2_with fail
  go_ret
  refine ⟨v', rfl, by simpa using hown2, ?_⟩
  exact ((below_new w (.cells #[] 3)).grown hg2 (by simp) (fun k hk => by simp [Value.ownBlock] at hk; omega))
set_option maxRecDepth 100000 in
theorem tleaves_row (p t : List Int) (A B : Option Addr) (c d : Nat) (w : World) (h : chk p t = 0) (hs : Sl w w.heap.size A (p.flatMap decI)) (ht : Sl w w.heap.size B (t.flatMap decI)) :
    Calls Tryz.prog 119 #[(.agg #[.slice A p.length c, .slice B t.length d])] w fun e w' => ∃ g k, e = .returned (.slice (some ⟨g, 0, none⟩) (lvs p).length k) ∧ w.heap.size ≤ g ∧ g < w'.heap.size ∧ Rw w' g (lvs p) ∧ Below w.heap.size w w' := by
  obtain ⟨l1, l2, l3, l4⟩ := chk_len h
  have HL := Lib.hid (fun W hW => leaves_row p A c W (by omega) l1 (chk_ok h).2.1 hW)
  have HCK := Lib.hid (fun W h1 h2 => check_any p t A B c d W (by omega) (by omega) h1 h2)
  rw [h] at HCK
  have HS := Lib.hid hs
  have HT := Lib.hid ht
  clear hs ht h
  go_enter Tryz.func119, Tryz.ntmps119
  go_upto_region 1 with fail
  have HX := Lib.hid (Bx.made w (.slice A p.length c) (.slice B t.length d) 24)
  generalize w.alloc (.cells #[.slice A p.length c, .slice B t.length d] 24) = W0 at *
  have c0 := HX.out.2.2.1
  have c1 := HX.out.2.2.2
  have SP := Lib.hid (HX.out.sl HS.out)
  have ST := Lib.hid (HX.out.sl HT.out)
  go_wp2_with fail
  refine (HCK.out _ SP.out ST.out).mono ?_
  rintro e W1 ⟨rfl, b1⟩
  have HX1 := Lib.hid (HX.out.step b1)
  clear c0 c1 SP ST HX b1 HCK
  have c0 := HX1.out.2.2.1
  have c1 := HX1.out.2.2.2
  have hsz := HX1.out.1.size
  go_wp2_with fail
  refine (HL.out _ (HX1.out.sl HS.out)).mono ?_
  rintro e W2 ⟨g, k, rfl, g1, g2, hr, b2⟩
  have HB2 := Lib.hid (nx HX1.out.1 b2)
  have HR := Lib.hid hr
  clear hr b2
  go_wp2_with fail
  go_ret
  exact ⟨g, k, rfl, by omega, g2, HR.out, HB2.out⟩
def TbB (W : World) (gt : Nat) (A B : Value) (d st : Int) (vu vn vs vm : Value) : Prop := W.heap[gt]? = some (.cells #[A, B, .int .u32 d, .int .i32 st, .int .u32 0, vu, vn, vs, vm] 132 (0, 0))
def slA (b : Nat) (l : List Int) (c : Nat) : Value := .slice (some ⟨b, 0, none⟩) l.length c
abbrev nilV : Value := .slice none 0 0
def PnAft (p t : List Int) (w : World) (e : Ending) (w' : World) : Prop :=
  ∃ gt pb tb c d, e = .returned (.tuple #[.pointer (some ⟨gt, 0, none⟩), .int .i64 0]) ∧ TbB w' gt (slA pb p c) (slA tb t d) 0 0 nilV nilV nilV nilV ∧ Rw w' pb p ∧ Rw w' tb t ∧ (w.heap.size ≤ pb ∧ w.heap.size ≤ tb ∧ pb < gt ∧ tb < gt) ∧ Below w.heap.size w w'
set_option maxRecDepth 100000 in
theorem pnew_ok (p t : List Int) (A B : Option Addr) (c d : Nat) (w : World) (h : chk p t = 0) (hs : Sl w w.heap.size A (p.flatMap decI)) (ht : Sl w w.heap.size B (t.flatMap decI)) :
    Calls Tryz.prog 39 #[(.agg #[.slice A p.length c, .slice B t.length d])] w (PnAft p t w) := by
  obtain ⟨l1, l2, l3, l4⟩ := chk_len h
  have HCK := Lib.hid (fun W h1 h2 => check_any p t A B c d W (by omega) (by omega) h1 h2)
  have HCP := Lib.hid (fun W hW => clone_int p A c W l1 (by omega) hW)
  have HCT := Lib.hid (fun W hW => clone_int t B d W l3 (by omega) hW)
  rw [h] at HCK
  have HS := Lib.hid hs
  have HT := Lib.hid ht
  clear hs ht h
  go_enter Tryz.func39, Tryz.ntmps39
  go_upto_region 1 with fail
  have HX := Lib.hid (Bx.made w (.slice A p.length c) (.slice B t.length d) 24)
  generalize w.alloc (.cells #[.slice A p.length c, .slice B t.length d] 24) = W0 at *
  have c0 := HX.out.2.2.1
  have c1 := HX.out.2.2.2
  have SP := Lib.hid (HX.out.sl HS.out)
  have ST := Lib.hid (HX.out.sl HT.out)
  go_wp2_with fail
  refine (HCK.out _ SP.out ST.out).mono ?_
  rintro e W1 ⟨rfl, b1⟩
  have HX1 := Lib.hid (HX.out.step b1)
  clear c0 c1 SP ST HX b1 HCK
  have c0 := HX1.out.2.2.1
  have c1 := HX1.out.2.2.2
  go_upto_region 4 with fail
  have SPd : Hid (Sl W1.drew W1.drew.heap.size A (p.flatMap decI)) := Lib.hid (HX1.out.sl HS.out)
  have STd : Hid (Sl W1.drew W1.drew.heap.size B (t.flatMap decI)) := Lib.hid (HX1.out.sl HT.out)
  have HXd : Hid (Bx w W1.drew (.slice A p.length c) (.slice B t.length d)) := Lib.hid ⟨Below.drew HX1.out.1, HX1.out.2⟩
  have d0 : W1.drew.cell? ⟨w.heap.size, 0, none⟩ = some (.slice A p.length c) ∧ W1.drew.cell? ⟨w.heap.size, 1, none⟩ = some (.slice B t.length d) := ⟨c0, c1⟩
  refine wp_region_held_drew (S := fun V => V.cell? ⟨w.heap.size, 0, none⟩ = some (.slice A p.length c) ∧ V.cell? ⟨w.heap.size, 1, none⟩ = some (.slice B t.length d)) (by kernel_rfl) d0 (fun hHeld => ?_)
  clear c0 c1 d0 HX1
  generalize W1.drew = X0 at *
  have ho0 := HXd.out.1.size
  refine tkA 0 10 (v := ?_) ?_ ?_
  rotate_left
  focus (intro w hSw; (try dsimp only at hSw); go_simp; (try with_reducible rfl))
  simp only [Act.put, List.setIfInBounds_toArray, List.set_cons_zero, List.set_cons_succ]
  refine tkA 1 11 (v := ?_) ?_ ?_
  rotate_left
  focus (intro w hSw; (try dsimp only at hSw); go_simp; (try with_reducible rfl))
  simp only [Act.put, List.setIfInBounds_toArray, List.set_cons_zero, List.set_cons_succ]
  refine tkA 3 13 (v := ?_) ?_ ?_
  rotate_left
  focus (intro w hSw; (try dsimp only at hSw); go_simp; (try with_reducible rfl))
  simp only [Act.put, List.setIfInBounds_toArray, List.set_cons_zero, List.set_cons_succ]
  refine tkA 4 14 (v := ?_) ?_ ?_
  rotate_left
  focus (intro w hSw; (try dsimp only at hSw); go_simp; (try with_reducible rfl))
  simp only [Act.put, List.setIfInBounds_toArray, List.set_cons_zero, List.set_cons_succ]
  refine wpAnyH_ready (rs := [2]) (by kernel_rfl) (by simp) ?_
  refine AllReadyH.cons rfl (fun K hK => ?_) AllReadyH.nil
  go_simp
  refine (HCP.out _ SPd.out).mono ?_
  rintro e W2 ⟨ga, ca, rfl, a1, a2, ra, b2⟩
  have HX2 := Lib.hid (HXd.out.step b2)
  have SB2 := Lib.hid (STd.out.step b2)
  have RA2 := Lib.hid ra
  have ho2 := HX2.out.1.size
  clear ra b2
  go_simp
  refine hK.out _ _ HX2.out.2.2 (fun hHeld => ?_)
  refine wpAnyH_ready (rs := [5]) (by kernel_rfl) (by simp) ?_
  refine AllReadyH.cons rfl (fun K hK => ?_) AllReadyH.nil
  go_simp
  refine (HCT.out _ SB2.out).mono ?_
  rintro e W3 ⟨gb, cb, rfl, k1, k2, rb, b3⟩
  have HX3 := Lib.hid (HX2.out.step b3)
  have RA3 := Lib.hid (RA2.out.mod (S := []) (Mod.of_below b3) a2 (by simp))
  have RB3 := Lib.hid rb
  have ho3 := HX3.out.1.size
  have hs3 := b3.size
  clear rb b3
  go_simp
  refine hK.out _ _ HX3.out.2.2 (fun hHeld => ?_)
  refine tkA 6 16 (v := ?_) ?_ ?_
  rotate_left
  focus (intro w hSw; (try dsimp only at hSw); go_simp; (try with_reducible rfl))
  simp only [Act.put, List.setIfInBounds_toArray, List.set_cons_zero, List.set_cons_succ]
  refine tkA 7 17 (v := ?_) ?_ ?_
  rotate_left
  focus (intro w hSw; (try dsimp only at hSw); go_simp; (try with_reducible rfl))
  simp only [Act.put, List.setIfInBounds_toArray, List.set_cons_zero, List.set_cons_succ]
  refine wpAnyH_ready (rs := [8]) (by kernel_rfl) (by simp) ?_
  refine AllReadyH.cons rfl (fun K hK => ?_) AllReadyH.nil
  go_simp
  refine hK.out _ _ (HX3.out.step (below_new W3 _)).2.2 (fun hHeld => ?_)
  refine tkA 9 2 (v := ?_) ?_ ?_
  rotate_left
  focus (intro w hSw; (try dsimp only at hSw); go_simp; (try with_reducible rfl))
  simp only [Act.put, List.setIfInBounds_toArray, List.set_cons_zero, List.set_cons_succ]
  refine tkA 10 3 (v := ?_) ?_ ?_
  rotate_left
  focus (intro w hSw; (try dsimp only at hSw); go_simp; (try with_reducible rfl))
  simp only [Act.put, List.setIfInBounds_toArray, List.set_cons_zero, List.set_cons_succ]
  refine wpAnyH_done (by kernel_rfl) ?_ _
  go_wp2_with fail
  go_ret2
  exact ⟨_, ga, gb, ca, cb, rfl, blk_new _ _, RA3.out.mod (S := []) (Mod.of_below (below_new _ _)) (by omega) (by simp), RB3.out.mod (S := []) (Mod.of_below (below_new _ _)) (by omega) (by simp), ⟨by omega, by omega, by omega, by omega⟩, nx HX3.out.1 (below_new _ _)⟩
end Go.Proofs.YtfmiioddhpkdkaaGreat.Pa

