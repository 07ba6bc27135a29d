/- Merged texts: Wo3, Wo4, Lk3, WoF, WoG, WoI. -/
import Derived.Test.YtfmiioddhpkdkaaGreatWz24
set_option linter.unusedVariables false
set_option maxRecDepth 100000
set_option maxHeartbeats 8000000
/- Package world: what comes of an asking, and of a leaving. -/
namespace Go.Proofs.YtfmiioddhpkdkaaGreat.Wo
open Go.RowKit Ara Lok Ga Wf


section
variable {gw ga gt gl : Nat} {X : Type} {D : LD X} {At : Nat → World → X → Prop} {may : Bool → Prop} {S : List Nat} {L : Nat} {k : Nat} {w : World} {x : X} (hG : LI gl D At may S L) (K : WoA gw ga gt gl D At S L k w x)
include hG K
theorem asks_wo (t : Int) (b : Bool) (hk : k < 1000) (h0 : 0 ≤ t) (h1 : t < D.N) (hb : (b && !D.sh) = false → may b) : Calls Tryz.prog 26 #[.pointer (some ⟨gw, 0, none⟩), .int .i64 t, .bool b] w (WAft gw ga gt gl D At S L k w (wask D x t b)) := by
  unfold WAft
  generalize hw : wask D x t b = r0
  unfold wask at hw
  replace hw := Lib.hid hw
  have HG := Lib.hid hG
  have HK1 := Lib.hid (K.same hG (below_new w (.cells #[.int .i64 0, .int .i64 0, .bool false, .int .i64 0] 44)))
  have hL := K.sz
  have HR := Lib.hid (blk_new w (.cells #[.int .i64 0, .int .i64 0, .bool false, .int .i64 0] 44))
  have HB := Lib.hid (below_new w (.cells #[.int .i64 0, .int .i64 0, .bool false, .int .i64 0] 44))
  clear hG K
  go_enter Tryz.func26, Tryz.ntmps26
  go_wp2_with fail
  refine (state_wo HG.out HK1.out t).mono ?_
  rintro e w2 ⟨rfl, hb2⟩
  have HK2 := Lib.hid (HK1.out.same HG.out hb2)
  have HR2 := Lib.hid ((Mod.of_below (S := []) hb2).blk HR.out (by simp))
  have HM2 := Lib.hid (Mod.of_below (S := S) (HB.out.trans (hb2.mono HB.out.size)))
  clear HK1 HR HB hb2
  generalize hrd : D.rd x t = rd at *
  generalize hs : D.st x t = st at *
  clear hrd hs
  have c2 := HK2.out.cells.1
  have c3 := HK2.out.cells.2
  by_cases hbs : (b && !D.sh) = true
  · have hw2 := hw.out
    rw [if_pos hbs] at hw2
    subst hw2
    clear hw
    have HK4 := Lib.hid (HK2.out.up HG.out)
    rw [Bool.and_eq_true, Bool.not_eq_true'] at hbs
    obtain ⟨rfl, hsh⟩ := hbs
    rw [hsh] at c3
    clear hb hsh
    have d0 := blk_cell HR2.out 0 (by simp)
    have d1 := blk_cell HR2.out 1 (by simp)
    have d2 := blk_cell HR2.out 2 (by simp)
    have d3 := blk_cell HR2.out 3 (by simp)
    simp only [List.getElem_toArray, List.getElem_cons_zero, List.getElem_cons_succ] at d0 d1 d2 d3
    have f0 := blk_free HR2.out 0
    have f1 := blk_free HR2.out 1
    have f2 := blk_free HR2.out 2
    have f3 := blk_free HR2.out 3
    have k0 := blk_set HR2.out 0 (.int .i64 (5))
    have k1 := blk_set k0 1 (.int .i64 (t))
    have k2 := blk_set k1 2 (.bool rd)
    have k3 := blk_set k2 3 (.int .i64 (0))
    have g0 := blk_cell k0 0 (by simp)
    have g1 := blk_cell k1 1 (by simp)
    have g2 := blk_cell k2 2 (by simp)
    have g3 := blk_cell k3 3 (by simp)
    simp at g0 g1 g2 g3
    clear k0 k1 k2 k3
    go_wp2_with fail
    refine bodyPost_ret (v := wev (5, t, rd, 0)) ?_ rfl ⟨rfl, ?_⟩
    · simp [wev, results, Tryz.results26, go_sem, g0, g1, g2, g3]
    · exact WoA.fin HG.out hL HK4.out HM2.out (Nat.le_refl _) (((((Mod.refl [w.heap.size] _).setCell (by simp) _).setCell (by simp) _).setCell (by simp) _).setCell (by simp) _)
  · have hw2 := hw.out
    rw [if_neg hbs] at hw2
    clear hw
    have hbs : (b && !D.sh) = false := by simpa using hbs
    have HA := Lib.hid (HG.out.asks _ _ _ t b hk (hb hbs) HK2.out.at_ h0 h1)
    generalize D.ask x t b = r at *
    obtain ⟨r, x2⟩ := r
    simp only at HA
    subst hw2
    generalize hsh : D.sh = sh at *
    clear hsh
    clear hb
    cases b with
    | false =>
      clear hbs
      go_wp2_with fail
      refine HA.out.mono ?_
      rintro e w4 ⟨rfl, ha4, hm4⟩
      have HK4 := Lib.hid (HK2.out.act ha4 hm4)
      have hlt : ∀ q ∈ S, q < L := HG.out.lt
      have HR4 := Lib.hid (hm4.blk HR2.out (fun h => by have := hlt _ h; omega))
      have HM4 := Lib.hid (HM2.out.trans hm4)
      clear ha4 hm4 HK2 HR2 HM2 HA c2 c3
      cases r with
      | false =>
        have d0 := blk_cell HR4.out 0 (by simp)
        have d1 := blk_cell HR4.out 1 (by simp)
        have d2 := blk_cell HR4.out 2 (by simp)
        have d3 := blk_cell HR4.out 3 (by simp)
        simp only [List.getElem_toArray, List.getElem_cons_zero, List.getElem_cons_succ] at d0 d1 d2 d3
        have f0 := blk_free HR4.out 0
        have f1 := blk_free HR4.out 1
        have f2 := blk_free HR4.out 2
        have f3 := blk_free HR4.out 3
        have k0 := blk_set HR4.out 0 (.int .i64 (5))
        have k1 := blk_set k0 1 (.int .i64 (t))
        have k2 := blk_set k1 2 (.bool rd)
        have k3 := blk_set k2 3 (.int .i64 (0))
        have g0 := blk_cell k0 0 (by simp)
        have g1 := blk_cell k1 1 (by simp)
        have g2 := blk_cell k2 2 (by simp)
        have g3 := blk_cell k3 3 (by simp)
        simp at g0 g1 g2 g3
        clear k0 k1 k2 k3
        go_wp2_with fail
        refine bodyPost_ret (v := wev (5, t, rd, 0)) ?_ rfl ⟨rfl, ?_⟩
        · simp [wev, results, Tryz.results26, go_sem, g0, g1, g2, g3]
        · exact WoA.fin HG.out hL HK4.out HM4.out (Nat.le_refl _) (((((Mod.refl [w.heap.size] _).setCell (by simp) _).setCell (by simp) _).setCell (by simp) _).setCell (by simp) _)
      | true =>
        have d0 := blk_cell HR4.out 0 (by simp)
        have d1 := blk_cell HR4.out 1 (by simp)
        have d2 := blk_cell HR4.out 2 (by simp)
        have d3 := blk_cell HR4.out 3 (by simp)
        simp only [List.getElem_toArray, List.getElem_cons_zero, List.getElem_cons_succ] at d0 d1 d2 d3
        have f0 := blk_free HR4.out 0
        have f1 := blk_free HR4.out 1
        have f2 := blk_free HR4.out 2
        have f3 := blk_free HR4.out 3
        have k0 := blk_set HR4.out 0 (.int .i64 (1))
        have k1 := blk_set k0 1 (.int .i64 (t))
        have k2 := blk_set k1 2 (.bool false)
        have k3 := blk_set k2 3 (.int .i64 (0))
        have g0 := blk_cell k0 0 (by simp)
        have g1 := blk_cell k1 1 (by simp)
        have g2 := blk_cell k2 2 (by simp)
        have g3 := blk_cell k3 3 (by simp)
        simp at g0 g1 g2 g3
        clear k0 k1 k2 k3
        go_wp2_with fail
        refine bodyPost_ret (v := wev (1, t, false, 0)) ?_ rfl ⟨rfl, ?_⟩
        · simp [wev, results, Tryz.results26, go_sem, g0, g1, g2, g3]
        · exact WoA.fin HG.out hL HK4.out HM4.out (Nat.le_refl _) (((((Mod.refl [w.heap.size] _).setCell (by simp) _).setCell (by simp) _).setCell (by simp) _).setCell (by simp) _)
    | true =>
      obtain rfl : sh = true := by simpa using hbs
      clear hbs
      go_wp2_with fail
      refine HA.out.mono ?_
      rintro e w4 ⟨rfl, ha4, hm4⟩
      have HK4 := Lib.hid (HK2.out.act ha4 hm4)
      have hlt : ∀ q ∈ S, q < L := HG.out.lt
      have HR4 := Lib.hid (hm4.blk HR2.out (fun h => by have := hlt _ h; omega))
      have HM4 := Lib.hid (HM2.out.trans hm4)
      clear ha4 hm4 HK2 HR2 HM2 HA c2 c3
      cases r with
      | false =>
        have d0 := blk_cell HR4.out 0 (by simp)
        have d1 := blk_cell HR4.out 1 (by simp)
        have d2 := blk_cell HR4.out 2 (by simp)
        have d3 := blk_cell HR4.out 3 (by simp)
        simp only [List.getElem_toArray, List.getElem_cons_zero, List.getElem_cons_succ] at d0 d1 d2 d3
        have f0 := blk_free HR4.out 0
        have f1 := blk_free HR4.out 1
        have f2 := blk_free HR4.out 2
        have f3 := blk_free HR4.out 3
        have k0 := blk_set HR4.out 0 (.int .i64 (5))
        have k1 := blk_set k0 1 (.int .i64 (t))
        have k2 := blk_set k1 2 (.bool rd)
        have k3 := blk_set k2 3 (.int .i64 (0))
        have g0 := blk_cell k0 0 (by simp)
        have g1 := blk_cell k1 1 (by simp)
        have g2 := blk_cell k2 2 (by simp)
        have g3 := blk_cell k3 3 (by simp)
        simp at g0 g1 g2 g3
        clear k0 k1 k2 k3
        go_wp2_with fail
        refine bodyPost_ret (v := wev (5, t, rd, 0)) ?_ rfl ⟨rfl, ?_⟩
        · simp [wev, results, Tryz.results26, go_sem, g0, g1, g2, g3]
        · exact WoA.fin HG.out hL HK4.out HM4.out (Nat.le_refl _) (((((Mod.refl [w.heap.size] _).setCell (by simp) _).setCell (by simp) _).setCell (by simp) _).setCell (by simp) _)
      | true =>
        have d0 := blk_cell HR4.out 0 (by simp)
        have d1 := blk_cell HR4.out 1 (by simp)
        have d2 := blk_cell HR4.out 2 (by simp)
        have d3 := blk_cell HR4.out 3 (by simp)
        simp only [List.getElem_toArray, List.getElem_cons_zero, List.getElem_cons_succ] at d0 d1 d2 d3
        have f0 := blk_free HR4.out 0
        have f1 := blk_free HR4.out 1
        have f2 := blk_free HR4.out 2
        have f3 := blk_free HR4.out 3
        have k0 := blk_set HR4.out 0 (.int .i64 (1))
        have k1 := blk_set k0 1 (.int .i64 (t))
        have k2 := blk_set k1 2 (.bool true)
        have k3 := blk_set k2 3 (.int .i64 (0))
        have g0 := blk_cell k0 0 (by simp)
        have g1 := blk_cell k1 1 (by simp)
        have g2 := blk_cell k2 2 (by simp)
        have g3 := blk_cell k3 3 (by simp)
        simp at g0 g1 g2 g3
        clear k0 k1 k2 k3
        go_wp2_with fail
        refine bodyPost_ret (v := wev (1, t, true, 0)) ?_ rfl ⟨rfl, ?_⟩
        · simp [wev, results, Tryz.results26, go_sem, g0, g1, g2, g3]
        · exact WoA.fin HG.out hL HK4.out HM4.out (Nat.le_refl _) (((((Mod.refl [w.heap.size] _).setCell (by simp) _).setCell (by simp) _).setCell (by simp) _).setCell (by simp) _)
theorem leaves_wo (t : Int) (b : Bool) (hk : k < 1000) (h0 : 0 ≤ t) (h1 : t < D.N) : Calls Tryz.prog 27 #[.pointer (some ⟨gw, 0, none⟩), .int .i64 t, .bool b] w (WAft gw ga gt gl D At S L k w (wleave D x t b)) := by
  unfold WAft
  generalize hw : wleave D x t b = r0
  unfold wleave at hw
  replace hw := Lib.hid hw
  have HG := Lib.hid hG
  have HK1 := Lib.hid (K.same hG (below_new w (.cells #[.int .i64 0, .int .i64 0, .bool false, .int .i64 0] 44)))
  have hL := K.sz
  have HR := Lib.hid (blk_new w (.cells #[.int .i64 0, .int .i64 0, .bool false, .int .i64 0] 44))
  have HB := Lib.hid (below_new w (.cells #[.int .i64 0, .int .i64 0, .bool false, .int .i64 0] 44))
  clear hG K
  go_enter Tryz.func27, Tryz.ntmps27
  go_wp2_with fail
  refine (state_wo HG.out HK1.out t).mono ?_
  rintro e w2 ⟨rfl, hb2⟩
  have HK2 := Lib.hid (HK1.out.same HG.out hb2)
  have HR2 := Lib.hid ((Mod.of_below (S := []) hb2).blk HR.out (by simp))
  have HM2 := Lib.hid (Mod.of_below (S := S) (HB.out.trans (hb2.mono HB.out.size)))
  clear HK1 HR HB hb2
  have HA := Lib.hid (HG.out.leaves _ _ _ t hk HK2.out.at_ h0 h1)
  generalize hrd : D.rd x t = rd at *
  generalize hs : D.st x t = st at *
  clear hrd hs
  generalize D.leave x t = r at *
  obtain ⟨r, x2⟩ := r
  simp only at HA
  have c2 := HK2.out.cells.1
  have c3 := Lib.hid trivial
  by_cases hrb : rd = b
  · subst hrb
    have hw2 := hw.out
    rw [if_pos rfl] at hw2
    subst hw2
    clear hw
    cases rd
    all_goals
      go_wp2_with fail
      refine HA.out.mono ?_
      rintro e w4 ⟨rfl, ha4, hm4⟩
      have HK4 := Lib.hid (HK2.out.act ha4 hm4)
      have hlt : ∀ q ∈ S, q < L := HG.out.lt
      have HR4 := Lib.hid (hm4.blk HR2.out (fun h => by have := hlt _ h; omega))
      have HM4 := Lib.hid (HM2.out.trans hm4)
      clear ha4 hm4 HK2 HR2 HM2 HA c2 c3
      cases r
    · have d0 := blk_cell HR4.out 0 (by simp)
      have d1 := blk_cell HR4.out 1 (by simp)
      have d2 := blk_cell HR4.out 2 (by simp)
      have d3 := blk_cell HR4.out 3 (by simp)
      simp only [List.getElem_toArray, List.getElem_cons_zero, List.getElem_cons_succ] at d0 d1 d2 d3
      have f0 := blk_free HR4.out 0
      have f1 := blk_free HR4.out 1
      have f2 := blk_free HR4.out 2
      have f3 := blk_free HR4.out 3
      have k0 := blk_set HR4.out 0 (.int .i64 (5))
      have k1 := blk_set k0 1 (.int .i64 (t))
      have k2 := blk_set k1 2 (.bool false)
      have k3 := blk_set k2 3 (.int .i64 (0))
      have g0 := blk_cell k0 0 (by simp)
      have g1 := blk_cell k1 1 (by simp)
      have g2 := blk_cell k2 2 (by simp)
      have g3 := blk_cell k3 3 (by simp)
      simp at g0 g1 g2 g3
      clear k0 k1 k2 k3
      go_wp2_with fail
      refine bodyPost_ret (v := wev (5, t, false, 0)) ?_ rfl ⟨rfl, ?_⟩
      · simp [wev, results, Tryz.results27, go_sem, g0, g1, g2, g3]
      · exact WoA.fin HG.out hL HK4.out HM4.out (Nat.le_refl _) (((((Mod.refl [w.heap.size] _).setCell (by simp) _).setCell (by simp) _).setCell (by simp) _).setCell (by simp) _)
    · have d0 := blk_cell HR4.out 0 (by simp)
      have d1 := blk_cell HR4.out 1 (by simp)
      have d2 := blk_cell HR4.out 2 (by simp)
      have d3 := blk_cell HR4.out 3 (by simp)
      simp only [List.getElem_toArray, List.getElem_cons_zero, List.getElem_cons_succ] at d0 d1 d2 d3
      have f0 := blk_free HR4.out 0
      have f1 := blk_free HR4.out 1
      have f2 := blk_free HR4.out 2
      have f3 := blk_free HR4.out 3
      have k0 := blk_set HR4.out 0 (.int .i64 (3))
      have k1 := blk_set k0 1 (.int .i64 (t))
      have k2 := blk_set k1 2 (.bool false)
      have k3 := blk_set k2 3 (.int .i64 (0))
      have g0 := blk_cell k0 0 (by simp)
      have g1 := blk_cell k1 1 (by simp)
      have g2 := blk_cell k2 2 (by simp)
      have g3 := blk_cell k3 3 (by simp)
      simp at g0 g1 g2 g3
      clear k0 k1 k2 k3
      go_wp2_with fail
      refine bodyPost_ret (v := wev (3, t, false, 0)) ?_ rfl ⟨rfl, ?_⟩
      · simp [wev, results, Tryz.results27, go_sem, g0, g1, g2, g3]
      · exact WoA.fin HG.out hL HK4.out HM4.out (Nat.le_refl _) (((((Mod.refl [w.heap.size] _).setCell (by simp) _).setCell (by simp) _).setCell (by simp) _).setCell (by simp) _)
    · have d0 := blk_cell HR4.out 0 (by simp)
      have d1 := blk_cell HR4.out 1 (by simp)
      have d2 := blk_cell HR4.out 2 (by simp)
      have d3 := blk_cell HR4.out 3 (by simp)
      simp only [List.getElem_toArray, List.getElem_cons_zero, List.getElem_cons_succ] at d0 d1 d2 d3
      have f0 := blk_free HR4.out 0
      have f1 := blk_free HR4.out 1
      have f2 := blk_free HR4.out 2
      have f3 := blk_free HR4.out 3
      have k0 := blk_set HR4.out 0 (.int .i64 (5))
      have k1 := blk_set k0 1 (.int .i64 (t))
      have k2 := blk_set k1 2 (.bool true)
      have k3 := blk_set k2 3 (.int .i64 (0))
      have g0 := blk_cell k0 0 (by simp)
      have g1 := blk_cell k1 1 (by simp)
      have g2 := blk_cell k2 2 (by simp)
      have g3 := blk_cell k3 3 (by simp)
      simp at g0 g1 g2 g3
      clear k0 k1 k2 k3
      go_wp2_with fail
      refine bodyPost_ret (v := wev (5, t, true, 0)) ?_ rfl ⟨rfl, ?_⟩
      · simp [wev, results, Tryz.results27, go_sem, g0, g1, g2, g3]
      · exact WoA.fin HG.out hL HK4.out HM4.out (Nat.le_refl _) (((((Mod.refl [w.heap.size] _).setCell (by simp) _).setCell (by simp) _).setCell (by simp) _).setCell (by simp) _)
    · have d0 := blk_cell HR4.out 0 (by simp)
      have d1 := blk_cell HR4.out 1 (by simp)
      have d2 := blk_cell HR4.out 2 (by simp)
      have d3 := blk_cell HR4.out 3 (by simp)
      simp only [List.getElem_toArray, List.getElem_cons_zero, List.getElem_cons_succ] at d0 d1 d2 d3
      have f0 := blk_free HR4.out 0
      have f1 := blk_free HR4.out 1
      have f2 := blk_free HR4.out 2
      have f3 := blk_free HR4.out 3
      have k0 := blk_set HR4.out 0 (.int .i64 (3))
      have k1 := blk_set k0 1 (.int .i64 (t))
      have k2 := blk_set k1 2 (.bool true)
      have k3 := blk_set k2 3 (.int .i64 (0))
      have g0 := blk_cell k0 0 (by simp)
      have g1 := blk_cell k1 1 (by simp)
      have g2 := blk_cell k2 2 (by simp)
      have g3 := blk_cell k3 3 (by simp)
      simp at g0 g1 g2 g3
      clear k0 k1 k2 k3
      go_wp2_with fail
      refine bodyPost_ret (v := wev (3, t, true, 0)) ?_ rfl ⟨rfl, ?_⟩
      · simp [wev, results, Tryz.results27, go_sem, g0, g1, g2, g3]
      · exact WoA.fin HG.out hL HK4.out HM4.out (Nat.le_refl _) (((((Mod.refl [w.heap.size] _).setCell (by simp) _).setCell (by simp) _).setCell (by simp) _).setCell (by simp) _)
  · have hw2 := hw.out
    rw [if_neg hrb] at hw2
    subst hw2
    clear hw
    have HK4 := Lib.hid (HK2.out.up HG.out)
    cases rd
    all_goals
      cases b
    · exact absurd rfl hrb
    · clear hrb
      have d0 := blk_cell HR2.out 0 (by simp)
      have d1 := blk_cell HR2.out 1 (by simp)
      have d2 := blk_cell HR2.out 2 (by simp)
      have d3 := blk_cell HR2.out 3 (by simp)
      simp only [List.getElem_toArray, List.getElem_cons_zero, List.getElem_cons_succ] at d0 d1 d2 d3
      have f0 := blk_free HR2.out 0
      have f1 := blk_free HR2.out 1
      have f2 := blk_free HR2.out 2
      have f3 := blk_free HR2.out 3
      have k0 := blk_set HR2.out 0 (.int .i64 (5))
      have k1 := blk_set k0 1 (.int .i64 (t))
      have k2 := blk_set k1 2 (.bool false)
      have k3 := blk_set k2 3 (.int .i64 (0))
      have g0 := blk_cell k0 0 (by simp)
      have g1 := blk_cell k1 1 (by simp)
      have g2 := blk_cell k2 2 (by simp)
      have g3 := blk_cell k3 3 (by simp)
      simp at g0 g1 g2 g3
      clear k0 k1 k2 k3
      go_wp2_with fail
      refine bodyPost_ret (v := wev (5, t, false, 0)) ?_ rfl ⟨rfl, ?_⟩
      · simp [wev, results, Tryz.results27, go_sem, g0, g1, g2, g3]
      · exact WoA.fin HG.out hL HK4.out HM2.out (Nat.le_refl _) (((((Mod.refl [w.heap.size] _).setCell (by simp) _).setCell (by simp) _).setCell (by simp) _).setCell (by simp) _)
    · clear hrb
      have d0 := blk_cell HR2.out 0 (by simp)
      have d1 := blk_cell HR2.out 1 (by simp)
      have d2 := blk_cell HR2.out 2 (by simp)
      have d3 := blk_cell HR2.out 3 (by simp)
      simp only [List.getElem_toArray, List.getElem_cons_zero, List.getElem_cons_succ] at d0 d1 d2 d3
      have f0 := blk_free HR2.out 0
      have f1 := blk_free HR2.out 1
      have f2 := blk_free HR2.out 2
      have f3 := blk_free HR2.out 3
      have k0 := blk_set HR2.out 0 (.int .i64 (5))
      have k1 := blk_set k0 1 (.int .i64 (t))
      have k2 := blk_set k1 2 (.bool true)
      have k3 := blk_set k2 3 (.int .i64 (0))
      have g0 := blk_cell k0 0 (by simp)
      have g1 := blk_cell k1 1 (by simp)
      have g2 := blk_cell k2 2 (by simp)
      have g3 := blk_cell k3 3 (by simp)
      simp at g0 g1 g2 g3
      clear k0 k1 k2 k3
      go_wp2_with fail
      refine bodyPost_ret (v := wev (5, t, true, 0)) ?_ rfl ⟨rfl, ?_⟩
      · simp [wev, results, Tryz.results27, go_sem, g0, g1, g2, g3]
      · exact WoA.fin HG.out hL HK4.out HM2.out (Nat.le_refl _) (((((Mod.refl [w.heap.size] _).setCell (by simp) _).setCell (by simp) _).setCell (by simp) _).setCell (by simp) _)
    · exact absurd rfl hrb
end
end Go.Proofs.YtfmiioddhpkdkaaGreat.Wo

/- Package world: what comes of a pick. -/
namespace Go.Proofs.YtfmiioddhpkdkaaGreat.Wo
open Go.RowKit Ara Lok Ga Wf


section
variable {gw ga gt gl : Nat} {X : Type} {D : LD X} {At : Nat → World → X → Prop} {may : Bool → Prop} {S : List Nat} {L : Nat} {k : Nat} {w : World} {x : X} (hG : LI gl D At may S L) (K : WoA gw ga gt gl D At S L k w x)
include hG K
theorem do_out (t wn : Int) (ht : t < 0 ∨ (D.N : Int) ≤ t) : Calls Tryz.prog 11 #[.pointer (some ⟨gw, 0, none⟩), .agg #[.int .i64 t, .int .i64 wn]] w (WAft gw ga gt gl D At S L k w ((0, 0, false, 0), x)) := by
  unfold WAft
  have hb1 : Below w.heap.size w (w.alloc (.cells #[.int .i64 t, .int .i64 wn] 47)) := below_new _ _
  have hb2 : Below w.heap.size w ((w.alloc (.cells #[.int .i64 t, .int .i64 wn] 47)).alloc (.cells #[.int .i64 0, .int .i64 0, .bool false, .int .i64 0] 44)) := hb1.alloc hb1.size _
  have HE := Lib.hid (show ((w.alloc (.cells #[.int .i64 t, .int .i64 wn] 47)).alloc (.cells #[.int .i64 0, .int .i64 0, .bool false, .int .i64 0] 44)).heap[w.heap.size + 1]? = some (.cells #[.int .i64 0, .int .i64 0, .bool false, .int .i64 0] 44) from by simpa using blk_new (w.alloc (.cells #[.int .i64 t, .int .i64 wn] 47)) (.cells #[.int .i64 0, .int .i64 0, .bool false, .int .i64 0] 44))
  have HP := Lib.hid (show ((w.alloc (.cells #[.int .i64 t, .int .i64 wn] 47)).alloc (.cells #[.int .i64 0, .int .i64 0, .bool false, .int .i64 0] 44)).heap[w.heap.size]? = some (.cells #[.int .i64 t, .int .i64 wn] 47) from (heap_alloc_old _ _ (by simp)).trans (blk_new _ _))
  have hK := K.same hG hb2
  have HT := Lib.hid (fun n => threads_wo hG (hK.drewN hG n))
  have HK := Lib.hid hK
  have HG := Lib.hid hG
  have hL := K.sz
  have HM := Lib.hid (Mod.of_below (S := S) hb2)
  clear K hK hb1 hb2 hG
  by_cases h0 : t < 0
  · clear HT ht
    have HT := Lib.hid trivial
    go_enter Tryz.func11, Tryz.ntmps11
    go_wp2_with fail
    go_quiet (fail)
    have HK2 := Lib.hid (HK.out.drewN HG.out nq)
    have HM2 := Lib.hid (HM.out.drewN nq)
    have HE2 := Lib.hid (show (((w.alloc (.cells #[.int .i64 t, .int .i64 wn] 47)).alloc (.cells #[.int .i64 0, .int .i64 0, .bool false, .int .i64 0] 44)).drewN nq).heap[w.heap.size + 1]? = some (.cells #[.int .i64 0, .int .i64 0, .bool false, .int .i64 0] 44) from HE.out)
    have HP2 := Lib.hid (show (((w.alloc (.cells #[.int .i64 t, .int .i64 wn] 47)).alloc (.cells #[.int .i64 0, .int .i64 0, .bool false, .int .i64 0] 44)).drewN nq).heap[w.heap.size]? = some (.cells #[.int .i64 t, .int .i64 wn] 47) from HP.out)
    have HZ2 := Lib.hid (show w.heap.size ≤ (((w.alloc (.cells #[.int .i64 t, .int .i64 wn] 47)).alloc (.cells #[.int .i64 0, .int .i64 0, .bool false, .int .i64 0] 44)).drewN nq).heap.size from HM2.out.size)
    clear HK HM HE HP HT
    generalize ((w.alloc (.cells #[.int .i64 t, .int .i64 wn] 47)).alloc (.cells #[.int .i64 0, .int .i64 0, .bool false, .int .i64 0] 44)).drewN nq = W2 at *
    have c0 := blk_cell HP2.out 0 (by simp)
    have c1 := blk_cell HP2.out 1 (by simp)
    simp only [List.getElem_toArray, List.getElem_cons_zero, List.getElem_cons_succ] at c0 c1
    have HK4 := Lib.hid (HK2.out.up HG.out)
    have d0 := blk_cell HE2.out 0 (by simp)
    have d1 := blk_cell HE2.out 1 (by simp)
    have d2 := blk_cell HE2.out 2 (by simp)
    have d3 := blk_cell HE2.out 3 (by simp)
    simp only [List.getElem_toArray, List.getElem_cons_zero, List.getElem_cons_succ] at d0 d1 d2 d3
    have f0 := blk_free HE2.out 0
    have f1 := blk_free HE2.out 1
    have f2 := blk_free HE2.out 2
    have f3 := blk_free HE2.out 3
    have k0 := blk_set HE2.out 0 (.int .i64 (0))
    have k1 := blk_set k0 1 (.int .i64 (0))
    have k2 := blk_set k1 2 (.bool false)
    have k3 := blk_set k2 3 (.int .i64 (0))
    have g0 := blk_cell k0 0 (by simp)
    have g1 := blk_cell k1 1 (by simp)
    have g2 := blk_cell k2 2 (by simp)
    have g3 := blk_cell k3 3 (by simp)
    simp at g0 g1 g2 g3
    clear k0 k1 k2 k3
    go_wp2_with fail
    refine bodyPost_ret (v := wev (0, 0, false, 0)) ?_ rfl ⟨rfl, ?_⟩
    · simp [wev, results, Tryz.results11, go_sem, g0, g1, g2, g3]
    · exact WoA.fin HG.out hL HK4.out HM2.out (q := w.heap.size + 1) (Nat.le_succ _) (((((Mod.refl [w.heap.size + 1] _).setCell (by simp) _).setCell (by simp) _).setCell (by simp) _).setCell (by simp) _)
  · have h1 : (D.N : Int) ≤ t := by omega
    have h2 : decide (t < 0) = false := decide_eq_false h0
    clear ht
    go_enter Tryz.func11, Tryz.ntmps11
    go_wp2_with fail
    go_quiet ((go_at_call 24; exact Calls.quiet_of_same (HT.out _)))
    have HK2 := Lib.hid (HK.out.drewN HG.out nq)
    have HM2 := Lib.hid (HM.out.drewN nq)
    have HE2 := Lib.hid (show (((w.alloc (.cells #[.int .i64 t, .int .i64 wn] 47)).alloc (.cells #[.int .i64 0, .int .i64 0, .bool false, .int .i64 0] 44)).drewN nq).heap[w.heap.size + 1]? = some (.cells #[.int .i64 0, .int .i64 0, .bool false, .int .i64 0] 44) from HE.out)
    have HP2 := Lib.hid (show (((w.alloc (.cells #[.int .i64 t, .int .i64 wn] 47)).alloc (.cells #[.int .i64 0, .int .i64 0, .bool false, .int .i64 0] 44)).drewN nq).heap[w.heap.size]? = some (.cells #[.int .i64 t, .int .i64 wn] 47) from HP.out)
    have HZ2 := Lib.hid (show w.heap.size ≤ (((w.alloc (.cells #[.int .i64 t, .int .i64 wn] 47)).alloc (.cells #[.int .i64 0, .int .i64 0, .bool false, .int .i64 0] 44)).drewN nq).heap.size from HM2.out.size)
    clear HK HM HE HP HT
    generalize ((w.alloc (.cells #[.int .i64 t, .int .i64 wn] 47)).alloc (.cells #[.int .i64 0, .int .i64 0, .bool false, .int .i64 0] 44)).drewN nq = W2 at *
    have c0 := blk_cell HP2.out 0 (by simp)
    have c1 := blk_cell HP2.out 1 (by simp)
    simp only [List.getElem_toArray, List.getElem_cons_zero, List.getElem_cons_succ] at c0 c1
    have HK4 := Lib.hid (HK2.out.up HG.out)
    have d0 := blk_cell HE2.out 0 (by simp)
    have d1 := blk_cell HE2.out 1 (by simp)
    have d2 := blk_cell HE2.out 2 (by simp)
    have d3 := blk_cell HE2.out 3 (by simp)
    simp only [List.getElem_toArray, List.getElem_cons_zero, List.getElem_cons_succ] at d0 d1 d2 d3
    have f0 := blk_free HE2.out 0
    have f1 := blk_free HE2.out 1
    have f2 := blk_free HE2.out 2
    have f3 := blk_free HE2.out 3
    have k0 := blk_set HE2.out 0 (.int .i64 (0))
    have k1 := blk_set k0 1 (.int .i64 (0))
    have k2 := blk_set k1 2 (.bool false)
    have k3 := blk_set k2 3 (.int .i64 (0))
    have g0 := blk_cell k0 0 (by simp)
    have g1 := blk_cell k1 1 (by simp)
    have g2 := blk_cell k2 2 (by simp)
    have g3 := blk_cell k3 3 (by simp)
    simp at g0 g1 g2 g3
    clear k0 k1 k2 k3
    go_wp2_with fail
    refine bodyPost_ret (v := wev (0, 0, false, 0)) ?_ rfl ⟨rfl, ?_⟩
    · simp [wev, results, Tryz.results11, go_sem, g0, g1, g2, g3]
    · exact WoA.fin HG.out hL HK4.out HM2.out (q := w.heap.size + 1) (Nat.le_succ _) (((((Mod.refl [w.heap.size + 1] _).setCell (by simp) _).setCell (by simp) _).setCell (by simp) _).setCell (by simp) _)
theorem do_in (t wn : Int) (hk : k < 1000) (ht : ¬ (t < 0 ∨ (D.N : Int) ≤ t)) (hm1 : wn = 1 → may false) (hm3 : wn = 3 → D.sh = true → may true) (r : Ev4 × X)
    (hw : (if wn = 0 then wstep D x t else if wn = 1 then wask D x t false else if wn = 3 then wask D x t true else if wn = 2 then wleave D x t false else if wn = 4 then wleave D x t true else ((5, t, D.rd x t, 0), x)) = r) :
    Calls Tryz.prog 11 #[.pointer (some ⟨gw, 0, none⟩), .agg #[.int .i64 t, .int .i64 wn]] w (WAft gw ga gt gl D At S L k w r) := by
  obtain ⟨⟨ek, et, er, ec⟩, x2⟩ := r
  unfold WAft
  have hr0 : ¬ t < 0 := by omega
  have hr1 : ¬ (D.N : Int) ≤ t := by omega
  have hr2 : decide (t < 0) = false := decide_eq_false hr0
  have hr3 : decide ((D.N : Int) ≤ t) = false := decide_eq_false hr1
  have hr4 : 0 ≤ t := by omega
  have hr5 : t < (D.N : Int) := by omega
  clear ht
  have hb1 : Below w.heap.size w (w.alloc (.cells #[.int .i64 t, .int .i64 wn] 47)) := below_new _ _
  have hb2 : Below w.heap.size w ((w.alloc (.cells #[.int .i64 t, .int .i64 wn] 47)).alloc (.cells #[.int .i64 0, .int .i64 0, .bool false, .int .i64 0] 44)) := hb1.alloc hb1.size _
  have HE := Lib.hid (show ((w.alloc (.cells #[.int .i64 t, .int .i64 wn] 47)).alloc (.cells #[.int .i64 0, .int .i64 0, .bool false, .int .i64 0] 44)).heap[w.heap.size + 1]? = some (.cells #[.int .i64 0, .int .i64 0, .bool false, .int .i64 0] 44) from by simpa using blk_new (w.alloc (.cells #[.int .i64 t, .int .i64 wn] 47)) (.cells #[.int .i64 0, .int .i64 0, .bool false, .int .i64 0] 44))
  have HP := Lib.hid (show ((w.alloc (.cells #[.int .i64 t, .int .i64 wn] 47)).alloc (.cells #[.int .i64 0, .int .i64 0, .bool false, .int .i64 0] 44)).heap[w.heap.size]? = some (.cells #[.int .i64 t, .int .i64 wn] 47) from (heap_alloc_old _ _ (by simp)).trans (blk_new _ _))
  have hK := K.same hG hb2
  have HT := Lib.hid (fun n => threads_wo hG (hK.drewN hG n))
  have HK := Lib.hid hK
  have HG := Lib.hid hG
  have hL := K.sz
  have HM := Lib.hid (Mod.of_below (S := S) hb2)
  clear K hK hb1 hb2 hG
  replace hw := Lib.hid hw
  by_cases h0 : wn = 0
  · subst h0
    have hw2 := hw.out
    rw [if_pos rfl] at hw2
    have HC := fun W (K : WoA gw ga gt gl D At S L k W x) => hw2 ▸ step_wo HG.out K t hk hr4 hr5
    unfold WAft at HC
    clear hw hw2 hm1 hm3
    go_enter Tryz.func11, Tryz.ntmps11
    go_wp2_with fail
    go_quiet ((go_at_call 24; exact Calls.quiet_of_same (HT.out _)))
    have HK2 := Lib.hid (HK.out.drewN HG.out nq)
    have HM2 := Lib.hid (HM.out.drewN nq)
    have HE2 := Lib.hid (show (((w.alloc (.cells #[.int .i64 t, .int .i64 0] 47)).alloc (.cells #[.int .i64 0, .int .i64 0, .bool false, .int .i64 0] 44)).drewN nq).heap[w.heap.size + 1]? = some (.cells #[.int .i64 0, .int .i64 0, .bool false, .int .i64 0] 44) from HE.out)
    have HP2 := Lib.hid (show (((w.alloc (.cells #[.int .i64 t, .int .i64 0] 47)).alloc (.cells #[.int .i64 0, .int .i64 0, .bool false, .int .i64 0] 44)).drewN nq).heap[w.heap.size]? = some (.cells #[.int .i64 t, .int .i64 0] 47) from HP.out)
    have HZ2 := Lib.hid (show w.heap.size ≤ (((w.alloc (.cells #[.int .i64 t, .int .i64 0] 47)).alloc (.cells #[.int .i64 0, .int .i64 0, .bool false, .int .i64 0] 44)).drewN nq).heap.size from HM2.out.size)
    clear HK HM HE HP HT
    generalize ((w.alloc (.cells #[.int .i64 t, .int .i64 0] 47)).alloc (.cells #[.int .i64 0, .int .i64 0, .bool false, .int .i64 0] 44)).drewN nq = W2 at *
    have c0 := blk_cell HP2.out 0 (by simp)
    have c1 := blk_cell HP2.out 1 (by simp)
    simp only [List.getElem_toArray, List.getElem_cons_zero, List.getElem_cons_succ] at c0 c1
    go_wp2_with fail
    refine (HC _ HK2.out).mono ?_
    rintro e w4 ⟨rfl, hk4, hm4⟩
    have hlt : ∀ q ∈ S, q < L := HG.out.lt
    have HE4 := Lib.hid (hm4.blk HE2.out (fun h => by have := hlt _ h; omega))
    have HK4 := Lib.hid hk4
    have HM4 := Lib.hid (HM2.out.trans hm4)
    clear hk4 hm4 HK2 HE2 HP2 HM2 c0 c1 hlt HC
    simp only [wev]
    have d0 := blk_cell HE4.out 0 (by simp)
    have d1 := blk_cell HE4.out 1 (by simp)
    have d2 := blk_cell HE4.out 2 (by simp)
    have d3 := blk_cell HE4.out 3 (by simp)
    simp only [List.getElem_toArray, List.getElem_cons_zero, List.getElem_cons_succ] at d0 d1 d2 d3
    have f0 := blk_free HE4.out 0
    have f1 := blk_free HE4.out 1
    have f2 := blk_free HE4.out 2
    have f3 := blk_free HE4.out 3
    have k0 := blk_set HE4.out 0 (.int .i64 (ek))
    have k1 := blk_set k0 1 (.int .i64 (et))
    have k2 := blk_set k1 2 (.bool er)
    have k3 := blk_set k2 3 (.int .i64 (ec))
    have g0 := blk_cell k0 0 (by simp)
    have g1 := blk_cell k1 1 (by simp)
    have g2 := blk_cell k2 2 (by simp)
    have g3 := blk_cell k3 3 (by simp)
    simp at g0 g1 g2 g3
    clear k0 k1 k2 k3
    go_wp2_with fail
    refine bodyPost_ret (v := wev (ek, et, er, ec)) ?_ rfl ⟨rfl, ?_⟩
    · simp [wev, results, Tryz.results11, go_sem, g0, g1, g2, g3]
    · exact WoA.fin HG.out hL HK4.out HM4.out (q := w.heap.size + 1) (Nat.le_succ _) (((((Mod.refl [w.heap.size + 1] _).setCell (by simp) _).setCell (by simp) _).setCell (by simp) _).setCell (by simp) _)
  by_cases h1 : wn = 1
  · subst h1
    have hw2 := hw.out
    rw [if_neg (by decide), if_pos rfl] at hw2
    have HC := fun W (K : WoA gw ga gt gl D At S L k W x) => hw2 ▸ asks_wo HG.out K t false hk hr4 hr5 (fun _ => hm1 rfl)
    unfold WAft at HC
    clear hw hw2 hm1 hm3
    go_enter Tryz.func11, Tryz.ntmps11
    go_wp2_with fail
    go_quiet ((go_at_call 24; exact Calls.quiet_of_same (HT.out _)))
    have HK2 := Lib.hid (HK.out.drewN HG.out nq)
    have HM2 := Lib.hid (HM.out.drewN nq)
    have HE2 := Lib.hid (show (((w.alloc (.cells #[.int .i64 t, .int .i64 1] 47)).alloc (.cells #[.int .i64 0, .int .i64 0, .bool false, .int .i64 0] 44)).drewN nq).heap[w.heap.size + 1]? = some (.cells #[.int .i64 0, .int .i64 0, .bool false, .int .i64 0] 44) from HE.out)
    have HP2 := Lib.hid (show (((w.alloc (.cells #[.int .i64 t, .int .i64 1] 47)).alloc (.cells #[.int .i64 0, .int .i64 0, .bool false, .int .i64 0] 44)).drewN nq).heap[w.heap.size]? = some (.cells #[.int .i64 t, .int .i64 1] 47) from HP.out)
    have HZ2 := Lib.hid (show w.heap.size ≤ (((w.alloc (.cells #[.int .i64 t, .int .i64 1] 47)).alloc (.cells #[.int .i64 0, .int .i64 0, .bool false, .int .i64 0] 44)).drewN nq).heap.size from HM2.out.size)
    clear HK HM HE HP HT
    generalize ((w.alloc (.cells #[.int .i64 t, .int .i64 1] 47)).alloc (.cells #[.int .i64 0, .int .i64 0, .bool false, .int .i64 0] 44)).drewN nq = W2 at *
    have c0 := blk_cell HP2.out 0 (by simp)
    have c1 := blk_cell HP2.out 1 (by simp)
    simp only [List.getElem_toArray, List.getElem_cons_zero, List.getElem_cons_succ] at c0 c1
    go_wp2_with fail
    refine (HC _ HK2.out).mono ?_
    rintro e w4 ⟨rfl, hk4, hm4⟩
    have hlt : ∀ q ∈ S, q < L := HG.out.lt
    have HE4 := Lib.hid (hm4.blk HE2.out (fun h => by have := hlt _ h; omega))
    have HK4 := Lib.hid hk4
    have HM4 := Lib.hid (HM2.out.trans hm4)
    clear hk4 hm4 HK2 HE2 HP2 HM2 c0 c1 hlt HC
    simp only [wev]
    have d0 := blk_cell HE4.out 0 (by simp)
    have d1 := blk_cell HE4.out 1 (by simp)
    have d2 := blk_cell HE4.out 2 (by simp)
    have d3 := blk_cell HE4.out 3 (by simp)
    simp only [List.getElem_toArray, List.getElem_cons_zero, List.getElem_cons_succ] at d0 d1 d2 d3
    have f0 := blk_free HE4.out 0
    have f1 := blk_free HE4.out 1
    have f2 := blk_free HE4.out 2
    have f3 := blk_free HE4.out 3
    have k0 := blk_set HE4.out 0 (.int .i64 (ek))
    have k1 := blk_set k0 1 (.int .i64 (et))
    have k2 := blk_set k1 2 (.bool er)
    have k3 := blk_set k2 3 (.int .i64 (ec))
    have g0 := blk_cell k0 0 (by simp)
    have g1 := blk_cell k1 1 (by simp)
    have g2 := blk_cell k2 2 (by simp)
    have g3 := blk_cell k3 3 (by simp)
    simp at g0 g1 g2 g3
    clear k0 k1 k2 k3
    go_wp2_with fail
    refine bodyPost_ret (v := wev (ek, et, er, ec)) ?_ rfl ⟨rfl, ?_⟩
    · simp [wev, results, Tryz.results11, go_sem, g0, g1, g2, g3]
    · exact WoA.fin HG.out hL HK4.out HM4.out (q := w.heap.size + 1) (Nat.le_succ _) (((((Mod.refl [w.heap.size + 1] _).setCell (by simp) _).setCell (by simp) _).setCell (by simp) _).setCell (by simp) _)
  by_cases h3 : wn = 3
  · subst h3
    have hw2 := hw.out
    rw [if_neg (by decide), if_neg (by decide), if_pos rfl] at hw2
    have HC := fun W (K : WoA gw ga gt gl D At S L k W x) => hw2 ▸ asks_wo HG.out K t true hk hr4 hr5 (fun h => hm3 rfl (by simpa using h))
    unfold WAft at HC
    clear hw hw2 hm1 hm3
    go_enter Tryz.func11, Tryz.ntmps11
    go_wp2_with fail
    go_quiet ((go_at_call 24; exact Calls.quiet_of_same (HT.out _)))
    have HK2 := Lib.hid (HK.out.drewN HG.out nq)
    have HM2 := Lib.hid (HM.out.drewN nq)
    have HE2 := Lib.hid (show (((w.alloc (.cells #[.int .i64 t, .int .i64 3] 47)).alloc (.cells #[.int .i64 0, .int .i64 0, .bool false, .int .i64 0] 44)).drewN nq).heap[w.heap.size + 1]? = some (.cells #[.int .i64 0, .int .i64 0, .bool false, .int .i64 0] 44) from HE.out)
    have HP2 := Lib.hid (show (((w.alloc (.cells #[.int .i64 t, .int .i64 3] 47)).alloc (.cells #[.int .i64 0, .int .i64 0, .bool false, .int .i64 0] 44)).drewN nq).heap[w.heap.size]? = some (.cells #[.int .i64 t, .int .i64 3] 47) from HP.out)
    have HZ2 := Lib.hid (show w.heap.size ≤ (((w.alloc (.cells #[.int .i64 t, .int .i64 3] 47)).alloc (.cells #[.int .i64 0, .int .i64 0, .bool false, .int .i64 0] 44)).drewN nq).heap.size from HM2.out.size)
    clear HK HM HE HP HT
    generalize ((w.alloc (.cells #[.int .i64 t, .int .i64 3] 47)).alloc (.cells #[.int .i64 0, .int .i64 0, .bool false, .int .i64 0] 44)).drewN nq = W2 at *
    have c0 := blk_cell HP2.out 0 (by simp)
    have c1 := blk_cell HP2.out 1 (by simp)
    simp only [List.getElem_toArray, List.getElem_cons_zero, List.getElem_cons_succ] at c0 c1
    go_wp2_with fail
    refine (HC _ HK2.out).mono ?_
    rintro e w4 ⟨rfl, hk4, hm4⟩
    have hlt : ∀ q ∈ S, q < L := HG.out.lt
    have HE4 := Lib.hid (hm4.blk HE2.out (fun h => by have := hlt _ h; omega))
    have HK4 := Lib.hid hk4
    have HM4 := Lib.hid (HM2.out.trans hm4)
    clear hk4 hm4 HK2 HE2 HP2 HM2 c0 c1 hlt HC
    simp only [wev]
    have d0 := blk_cell HE4.out 0 (by simp)
    have d1 := blk_cell HE4.out 1 (by simp)
    have d2 := blk_cell HE4.out 2 (by simp)
    have d3 := blk_cell HE4.out 3 (by simp)
    simp only [List.getElem_toArray, List.getElem_cons_zero, List.getElem_cons_succ] at d0 d1 d2 d3
    have f0 := blk_free HE4.out 0
    have f1 := blk_free HE4.out 1
    have f2 := blk_free HE4.out 2
    have f3 := blk_free HE4.out 3
    have k0 := blk_set HE4.out 0 (.int .i64 (ek))
    have k1 := blk_set k0 1 (.int .i64 (et))
    have k2 := blk_set k1 2 (.bool er)
    have k3 := blk_set k2 3 (.int .i64 (ec))
    have g0 := blk_cell k0 0 (by simp)
    have g1 := blk_cell k1 1 (by simp)
    have g2 := blk_cell k2 2 (by simp)
    have g3 := blk_cell k3 3 (by simp)
    simp at g0 g1 g2 g3
    clear k0 k1 k2 k3
    go_wp2_with fail
    refine bodyPost_ret (v := wev (ek, et, er, ec)) ?_ rfl ⟨rfl, ?_⟩
    · simp [wev, results, Tryz.results11, go_sem, g0, g1, g2, g3]
    · exact WoA.fin HG.out hL HK4.out HM4.out (q := w.heap.size + 1) (Nat.le_succ _) (((((Mod.refl [w.heap.size + 1] _).setCell (by simp) _).setCell (by simp) _).setCell (by simp) _).setCell (by simp) _)
  by_cases h2 : wn = 2
  · subst h2
    have hw2 := hw.out
    rw [if_neg (by decide), if_neg (by decide), if_neg (by decide), if_pos rfl] at hw2
    have HC := fun W (K : WoA gw ga gt gl D At S L k W x) => hw2 ▸ leaves_wo HG.out K t false hk hr4 hr5
    unfold WAft at HC
    clear hw hw2 hm1 hm3
    go_enter Tryz.func11, Tryz.ntmps11
    go_wp2_with fail
    go_quiet ((go_at_call 24; exact Calls.quiet_of_same (HT.out _)))
    have HK2 := Lib.hid (HK.out.drewN HG.out nq)
    have HM2 := Lib.hid (HM.out.drewN nq)
    have HE2 := Lib.hid (show (((w.alloc (.cells #[.int .i64 t, .int .i64 2] 47)).alloc (.cells #[.int .i64 0, .int .i64 0, .bool false, .int .i64 0] 44)).drewN nq).heap[w.heap.size + 1]? = some (.cells #[.int .i64 0, .int .i64 0, .bool false, .int .i64 0] 44) from HE.out)
    have HP2 := Lib.hid (show (((w.alloc (.cells #[.int .i64 t, .int .i64 2] 47)).alloc (.cells #[.int .i64 0, .int .i64 0, .bool false, .int .i64 0] 44)).drewN nq).heap[w.heap.size]? = some (.cells #[.int .i64 t, .int .i64 2] 47) from HP.out)
    have HZ2 := Lib.hid (show w.heap.size ≤ (((w.alloc (.cells #[.int .i64 t, .int .i64 2] 47)).alloc (.cells #[.int .i64 0, .int .i64 0, .bool false, .int .i64 0] 44)).drewN nq).heap.size from HM2.out.size)
    clear HK HM HE HP HT
    generalize ((w.alloc (.cells #[.int .i64 t, .int .i64 2] 47)).alloc (.cells #[.int .i64 0, .int .i64 0, .bool false, .int .i64 0] 44)).drewN nq = W2 at *
    have c0 := blk_cell HP2.out 0 (by simp)
    have c1 := blk_cell HP2.out 1 (by simp)
    simp only [List.getElem_toArray, List.getElem_cons_zero, List.getElem_cons_succ] at c0 c1
    go_wp2_with fail
    refine (HC _ HK2.out).mono ?_
    rintro e w4 ⟨rfl, hk4, hm4⟩
    have hlt : ∀ q ∈ S, q < L := HG.out.lt
    have HE4 := Lib.hid (hm4.blk HE2.out (fun h => by have := hlt _ h; omega))
    have HK4 := Lib.hid hk4
    have HM4 := Lib.hid (HM2.out.trans hm4)
    clear hk4 hm4 HK2 HE2 HP2 HM2 c0 c1 hlt HC
    simp only [wev]
    have d0 := blk_cell HE4.out 0 (by simp)
    have d1 := blk_cell HE4.out 1 (by simp)
    have d2 := blk_cell HE4.out 2 (by simp)
    have d3 := blk_cell HE4.out 3 (by simp)
    simp only [List.getElem_toArray, List.getElem_cons_zero, List.getElem_cons_succ] at d0 d1 d2 d3
    have f0 := blk_free HE4.out 0
    have f1 := blk_free HE4.out 1
    have f2 := blk_free HE4.out 2
    have f3 := blk_free HE4.out 3
    have k0 := blk_set HE4.out 0 (.int .i64 (ek))
    have k1 := blk_set k0 1 (.int .i64 (et))
    have k2 := blk_set k1 2 (.bool er)
    have k3 := blk_set k2 3 (.int .i64 (ec))
    have g0 := blk_cell k0 0 (by simp)
    have g1 := blk_cell k1 1 (by simp)
    have g2 := blk_cell k2 2 (by simp)
    have g3 := blk_cell k3 3 (by simp)
    simp at g0 g1 g2 g3
    clear k0 k1 k2 k3
    go_wp2_with fail
    refine bodyPost_ret (v := wev (ek, et, er, ec)) ?_ rfl ⟨rfl, ?_⟩
    · simp [wev, results, Tryz.results11, go_sem, g0, g1, g2, g3]
    · exact WoA.fin HG.out hL HK4.out HM4.out (q := w.heap.size + 1) (Nat.le_succ _) (((((Mod.refl [w.heap.size + 1] _).setCell (by simp) _).setCell (by simp) _).setCell (by simp) _).setCell (by simp) _)
  by_cases h4 : wn = 4
  · subst h4
    have hw2 := hw.out
    rw [if_neg (by decide), if_neg (by decide), if_neg (by decide), if_neg (by decide), if_pos rfl] at hw2
    have HC := fun W (K : WoA gw ga gt gl D At S L k W x) => hw2 ▸ leaves_wo HG.out K t true hk hr4 hr5
    unfold WAft at HC
    clear hw hw2 hm1 hm3
    go_enter Tryz.func11, Tryz.ntmps11
    go_wp2_with fail
    go_quiet ((go_at_call 24; exact Calls.quiet_of_same (HT.out _)))
    have HK2 := Lib.hid (HK.out.drewN HG.out nq)
    have HM2 := Lib.hid (HM.out.drewN nq)
    have HE2 := Lib.hid (show (((w.alloc (.cells #[.int .i64 t, .int .i64 4] 47)).alloc (.cells #[.int .i64 0, .int .i64 0, .bool false, .int .i64 0] 44)).drewN nq).heap[w.heap.size + 1]? = some (.cells #[.int .i64 0, .int .i64 0, .bool false, .int .i64 0] 44) from HE.out)
    have HP2 := Lib.hid (show (((w.alloc (.cells #[.int .i64 t, .int .i64 4] 47)).alloc (.cells #[.int .i64 0, .int .i64 0, .bool false, .int .i64 0] 44)).drewN nq).heap[w.heap.size]? = some (.cells #[.int .i64 t, .int .i64 4] 47) from HP.out)
    have HZ2 := Lib.hid (show w.heap.size ≤ (((w.alloc (.cells #[.int .i64 t, .int .i64 4] 47)).alloc (.cells #[.int .i64 0, .int .i64 0, .bool false, .int .i64 0] 44)).drewN nq).heap.size from HM2.out.size)
    clear HK HM HE HP HT
    generalize ((w.alloc (.cells #[.int .i64 t, .int .i64 4] 47)).alloc (.cells #[.int .i64 0, .int .i64 0, .bool false, .int .i64 0] 44)).drewN nq = W2 at *
    have c0 := blk_cell HP2.out 0 (by simp)
    have c1 := blk_cell HP2.out 1 (by simp)
    simp only [List.getElem_toArray, List.getElem_cons_zero, List.getElem_cons_succ] at c0 c1
    go_wp2_with fail
    refine (HC _ HK2.out).mono ?_
    rintro e w4 ⟨rfl, hk4, hm4⟩
    have hlt : ∀ q ∈ S, q < L := HG.out.lt
    have HE4 := Lib.hid (hm4.blk HE2.out (fun h => by have := hlt _ h; omega))
    have HK4 := Lib.hid hk4
    have HM4 := Lib.hid (HM2.out.trans hm4)
    clear hk4 hm4 HK2 HE2 HP2 HM2 c0 c1 hlt HC
    simp only [wev]
    have d0 := blk_cell HE4.out 0 (by simp)
    have d1 := blk_cell HE4.out 1 (by simp)
    have d2 := blk_cell HE4.out 2 (by simp)
    have d3 := blk_cell HE4.out 3 (by simp)
    simp only [List.getElem_toArray, List.getElem_cons_zero, List.getElem_cons_succ] at d0 d1 d2 d3
    have f0 := blk_free HE4.out 0
    have f1 := blk_free HE4.out 1
    have f2 := blk_free HE4.out 2
    have f3 := blk_free HE4.out 3
    have k0 := blk_set HE4.out 0 (.int .i64 (ek))
    have k1 := blk_set k0 1 (.int .i64 (et))
    have k2 := blk_set k1 2 (.bool er)
    have k3 := blk_set k2 3 (.int .i64 (ec))
    have g0 := blk_cell k0 0 (by simp)
    have g1 := blk_cell k1 1 (by simp)
    have g2 := blk_cell k2 2 (by simp)
    have g3 := blk_cell k3 3 (by simp)
    simp at g0 g1 g2 g3
    clear k0 k1 k2 k3
    go_wp2_with fail
    refine bodyPost_ret (v := wev (ek, et, er, ec)) ?_ rfl ⟨rfl, ?_⟩
    · simp [wev, results, Tryz.results11, go_sem, g0, g1, g2, g3]
    · exact WoA.fin HG.out hL HK4.out HM4.out (q := w.heap.size + 1) (Nat.le_succ _) (((((Mod.refl [w.heap.size + 1] _).setCell (by simp) _).setCell (by simp) _).setCell (by simp) _).setCell (by simp) _)
  have hw2 := hw.out
  rw [if_neg h0, if_neg h1, if_neg h3, if_neg h2, if_neg h4] at hw2
  simp only [Prod.mk.injEq] at hw2
  obtain ⟨⟨rfl, rfl, rfl, rfl⟩, rfl⟩ := hw2
  have e0 := ibeq_no h0
  have e1 := ibeq_no h1
  have e2 := ibeq_no h2
  have e3 := ibeq_no h3
  have e4 := ibeq_no h4
  clear hw hm1 hm3 h0 h1 h2 h3 h4
  go_enter Tryz.func11, Tryz.ntmps11
  go_wp2_with fail
  go_quiet ((go_at_call 24; exact Calls.quiet_of_same (HT.out _)))
  have HK2 := Lib.hid (HK.out.drewN HG.out nq)
  have HM2 := Lib.hid (HM.out.drewN nq)
  have HE2 := Lib.hid (show (((w.alloc (.cells #[.int .i64 t, .int .i64 wn] 47)).alloc (.cells #[.int .i64 0, .int .i64 0, .bool false, .int .i64 0] 44)).drewN nq).heap[w.heap.size + 1]? = some (.cells #[.int .i64 0, .int .i64 0, .bool false, .int .i64 0] 44) from HE.out)
  have HP2 := Lib.hid (show (((w.alloc (.cells #[.int .i64 t, .int .i64 wn] 47)).alloc (.cells #[.int .i64 0, .int .i64 0, .bool false, .int .i64 0] 44)).drewN nq).heap[w.heap.size]? = some (.cells #[.int .i64 t, .int .i64 wn] 47) from HP.out)
  have HZ2 := Lib.hid (show w.heap.size ≤ (((w.alloc (.cells #[.int .i64 t, .int .i64 wn] 47)).alloc (.cells #[.int .i64 0, .int .i64 0, .bool false, .int .i64 0] 44)).drewN nq).heap.size from HM2.out.size)
  clear HK HM HE HP HT
  generalize ((w.alloc (.cells #[.int .i64 t, .int .i64 wn] 47)).alloc (.cells #[.int .i64 0, .int .i64 0, .bool false, .int .i64 0] 44)).drewN nq = W2 at *
  have c0 := blk_cell HP2.out 0 (by simp)
  have c1 := blk_cell HP2.out 1 (by simp)
  simp only [List.getElem_toArray, List.getElem_cons_zero, List.getElem_cons_succ] at c0 c1
  go_wp2_with fail
  refine (state_wo HG.out HK2.out t).mono ?_
  rintro e w4 ⟨rfl, hb4⟩
  have HE4 := Lib.hid ((Mod.of_below (S := []) hb4).blk HE2.out (by simp))
  have HP4 := (Mod.of_below (S := []) hb4).blk HP2.out (by simp)
  have HK4 := Lib.hid ((HK2.out.same HG.out hb4).up HG.out)
  have HM4 := Lib.hid (HM2.out.trans (Mod.of_below (S := S) hb4))
  clear c0 c1
  have c0 := blk_cell HP4 0 (by simp)
  have c1 := blk_cell HP4 1 (by simp)
  simp only [List.getElem_toArray, List.getElem_cons_zero, List.getElem_cons_succ] at c0 c1
  clear hb4 HK2 HE2 HP2 HM2 HP4
  have d0 := blk_cell HE4.out 0 (by simp)
  have d1 := blk_cell HE4.out 1 (by simp)
  have d2 := blk_cell HE4.out 2 (by simp)
  have d3 := blk_cell HE4.out 3 (by simp)
  simp only [List.getElem_toArray, List.getElem_cons_zero, List.getElem_cons_succ] at d0 d1 d2 d3
  have f0 := blk_free HE4.out 0
  have f1 := blk_free HE4.out 1
  have f2 := blk_free HE4.out 2
  have f3 := blk_free HE4.out 3
  have k0 := blk_set HE4.out 0 (.int .i64 (5))
  have k1 := blk_set k0 1 (.int .i64 (t))
  have k2 := blk_set k1 2 (.bool (D.rd x t))
  have k3 := blk_set k2 3 (.int .i64 (0))
  have g0 := blk_cell k0 0 (by simp)
  have g1 := blk_cell k1 1 (by simp)
  have g2 := blk_cell k2 2 (by simp)
  have g3 := blk_cell k3 3 (by simp)
  simp at g0 g1 g2 g3
  clear k0 k1 k2 k3
  go_wp2_with fail
  refine bodyPost_ret (v := wev (5, t, (D.rd x t), 0)) ?_ rfl ⟨rfl, ?_⟩
  · simp [wev, results, Tryz.results11, go_sem, g0, g1, g2, g3]
  · exact WoA.fin HG.out hL HK4.out HM4.out (q := w.heap.size + 1) (Nat.le_succ _) (((((Mod.refl [w.heap.size + 1] _).setCell (by simp) _).setCell (by simp) _).setCell (by simp) _).setCell (by simp) _)
theorem do_wo (t wn : Int) (hk : k < 1000) (hm1 : wn = 1 → may false) (hm3 : wn = 3 → D.sh = true → may true) :
    Calls Tryz.prog 11 #[.pointer (some ⟨gw, 0, none⟩), .agg #[.int .i64 t, .int .i64 wn]] w (WAft gw ga gt gl D At S L k w (wact D x t wn)) := by
  by_cases ht : t < 0 ∨ (D.N : Int) ≤ t
  · have := do_out hG K t wn ht
    rw [show wact D x t wn = ((0, 0, false, 0), x) by unfold wact; rw [if_pos ht]]
    exact this
  · exact do_in hG K t wn hk ht hm1 hm3 _ (by unfold wact; rw [if_neg ht])
end
end Go.Proofs.YtfmiioddhpkdkaaGreat.Wo

/- Package locks: Spot of a thread that is none. -/
namespace Go.Proofs.YtfmiioddhpkdkaaGreat.Lk
open Go.RowKit Ara Lok Ga

theorem Spot_out (gl : Nat) (kind T : Int) (Ty : TypeId) (v : Value) (w : World) (H : LkB w gl kind T Ty v) (i : Int) (h : i < 0 ∨ T ≤ i) :
    Calls Tryz.prog 61 #[.pointer (some ⟨gl, 0, none⟩), .int .i64 i] w fun e w' => e = .returned (vSp ⟨0, 0, 0, 0⟩) ∧ Below w.heap.size w w' := by
  have hb := below_new w (.cells #[.int .i64 0, .int .i64 0, .int .i64 0, .int .i64 0] 134)
  have HX := Lib.hid (blk_new w (.cells #[.int .i64 0, .int .i64 0, .int .i64 0, .int .i64 0] 134))
  have HB := Lib.hid hb
  have HH := Lib.hid (has_out gl kind T Ty v _ (LkB.same H hb) i h)
  clear H hb
  unfold vSp
  go_enter Tryz.func61, Tryz.ntmps61
  go_wp2_with fail
  refine HH.out.mono ?_
  rintro e wx ⟨rfl, hwx⟩
  obtain rfl := hwx.symm
  generalize w.alloc (.cells #[.int .i64 0, .int .i64 0, .int .i64 0, .int .i64 0] 134) = W2 at *
  have d0 := blk_cell HX.out 0 (by simp)
  have d1 := blk_cell HX.out 1 (by simp)
  have d2 := blk_cell HX.out 2 (by simp)
  have d3 := blk_cell HX.out 3 (by simp)
  simp only [List.getElem_toArray, List.getElem_cons_zero, List.getElem_cons_succ] at d0 d1 d2 d3
  have f0 := blk_free HX.out 0
  have f1 := blk_free HX.out 1
  have f2 := blk_free HX.out 2
  have f3 := blk_free HX.out 3
  have k0 := blk_set HX.out 0 (.int .i64 0)
  have k1 := blk_set k0 1 (.int .i64 0)
  have k2 := blk_set k1 2 (.int .i64 0)
  have k3 := blk_set k2 3 (.int .i64 0)
  have g0 := blk_cell k0 0 (by simp)
  have g1 := blk_cell k1 1 (by simp)
  have g2 := blk_cell k2 2 (by simp)
  have g3 := blk_cell k3 3 (by simp)
  simp at g0 g1 g2 g3
  clear k0 k1 k2 k3
  go_wp2_with fail
  refine bodyPost_ret (v := .agg #[.int .i64 0, .int .i64 0, .int .i64 0, .int .i64 0]) ?_ rfl ⟨rfl, ?_⟩
  · simp [results, Tryz.results61, go_sem, g0, g1, g2, g3]
  · exact (((HB.out.setCell (Nat.le_refl _) _).setCell (Nat.le_refl _) _).setCell (Nat.le_refl _) _).setCell (Nat.le_refl _) _
end Go.Proofs.YtfmiioddhpkdkaaGreat.Lk

/- Package locks: a flat lock, as a world asks it. -/
namespace Go.Proofs.YtfmiioddhpkdkaaGreat.Wo
open Go.RowKit Ara Lok Ga Wf Fl Lk

end Go.Proofs.YtfmiioddhpkdkaaGreat.Wo

/- Package locks: what a lock without readers tells: Ask and Count. -/
namespace Go.Proofs.YtfmiioddhpkdkaaGreat.Wo
open Go.RowKit Ara Lok Ga Wf Fl Lk

section
variable {gf gl ga ha hs : Nat} {p : PK} {σ : Ar} {sp : List Sp} {w : World} (K : FLAt w gf gl ga ha hs p σ sp)
include K
end
end Go.Proofs.YtfmiioddhpkdkaaGreat.Wo

/- A flat lock inside package locks is a lock as a world asks it. -/
namespace Go.Proofs.YtfmiioddhpkdkaaGreat.Wo
open Go.RowKit Ara Lok Ga Wf Fl Lk

structure Fp where
  g : Nat
  gf : Nat
  gl : Nat
  ga : Nat
  ha : Nat
  hs : Nat
  kind : Int
theorem fl_base {B gf gl ga ha hs : Nat} {p : PK} {σ : Ar} {sp : List Sp} {W W' : World} (k : FLAt W gf gl ga ha hs p σ sp) (hb : Below B W W') (h0 : gf < B) (h1 : gl < B) (h2 : ga < B) (h3 : ha < B) (h4 : hs < B) : FLAt W' gf gl ga ha hs p σ sp := by
  have key : ∀ {X : Nat}, X < B → W'.heap[X]? = W.heap[X]? := fun h => hb.block _ h
  refine ⟨(key h0).trans k.fb, ?_, k.n1, k.n2, k.n3⟩
  have a := k.at_
  cases p with
  | tas P => obtain ⟨k1, k2, k3, ⟨c, k4⟩, k5⟩ := a; exact ⟨k1.upd (S := []) (Upd.of_below hb) h2 h3 (by simp) (by simp), k2.of_blk (key h4), k3, ⟨c, (key h1).trans k4⟩, k5⟩
  | tic P => obtain ⟨k1, k2, k3, ⟨c, k4⟩, k5⟩ := a; exact ⟨k1.upd (S := []) (Upd.of_below hb) h2 h3 (by simp) (by simp), k2.of_blk (key h4), k3, ⟨c, (key h1).trans k4⟩, k5⟩
  | par P => obtain ⟨k1, k2, k3, ⟨c, k4⟩, k5⟩ := a; exact ⟨k1.upd (S := []) (Upd.of_below hb) h2 h3 (by simp) (by simp), k2.of_blk (key h4), k3, ⟨c, (key h1).trans k4⟩, k5⟩
  | mcs P => obtain ⟨k1, k2, k3, ⟨c, k4⟩, k5⟩ := a; exact ⟨k1.upd (S := []) (Upd.of_below hb) h2 h3 (by simp) (by simp), k2.of_blk (key h4), k3, ⟨c, (key h1).trans k4⟩, k5⟩
  | clh P => obtain ⟨k1, k2, k3, ⟨c, k4⟩, k5⟩ := a; exact ⟨k1.upd (S := []) (Upd.of_below hb) h2 h3 (by simp) (by simp), k2.of_blk (key h4), k3, ⟨c, (key h1).trans k4⟩, k5⟩
section
variable {c : Fp} {p : PK} {n m0 L k : Nat} {W W' : World} {x : Ar × List Sp}
end
end Go.Proofs.YtfmiioddhpkdkaaGreat.Wo

