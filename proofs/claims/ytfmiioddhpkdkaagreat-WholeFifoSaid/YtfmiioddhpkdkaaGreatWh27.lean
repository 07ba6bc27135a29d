/- Merged texts: Wo1, Wo2, Wo3. -/
import Derived.Test.YtfmiioddhpkdkaaGreatWh26
import Derived.Deep.Cut
import Derived.Deep.CutBlock
import Derived.Deep.RegionHeld3
import Derived.RegionTactic
import Derived.BigRegion
set_option linter.unusedVariables false
/- Package world: Threads, State, and what comes of a step. -/
namespace Go.Proofs.YtfmiioddhpkdkaaGreat.Wo
open Go.RowKit Go.Proofs.YtfmiioddhpkdkaaGreat.Ara Go.Proofs.YtfmiioddhpkdkaaGreat.Lok Go.Proofs.YtfmiioddhpkdkaaGreat.Ga Go.Proofs.YtfmiioddhpkdkaaGreat.Wf

section
variable {gw ga gt gl : Nat} {X : Type} {D : LD X} {At : Nat → World → X → Prop} {may : Bool → Prop} {S : List Nat} {L : Nat} {k : Nat} {w : World} {x : X} (hG : LI gl D At may S L) (K : WoA gw ga gt gl D At S L k w x)
include hG K
set_option maxRecDepth 100000 in
theorem threads_wo : Calls Tryz.prog 24 #[.pointer (some ⟨gw, 0, none⟩)] w fun e w' => e = .returned (.int .i64 (D.N : Int)) ∧ w' = w := by
  have HS := Lib.hid (hG.threads _ _ _ K.at_)
  have c2 := K.cells.1
  clear K hG
  go_enter Tryz.func24, Tryz.ntmps24
  go_wp2_with fail
  refine (HS.out).mono ?_
  rintro e wx ⟨rfl, hwx⟩
  obtain rfl := hwx.symm
  go_wp2_with fail
  go_ret
  exact ⟨rfl, rfl⟩
set_option maxRecDepth 100000 in
theorem state_wo (t : Int) : Calls Tryz.prog 22 #[.pointer (some ⟨gw, 0, none⟩), .int .i64 t] w fun e w' => e = .returned (.tuple #[.int .i64 (D.st x t), .bool (D.rd x t)]) ∧ Below w.heap.size w w' := by
  have HG := Lib.hid hG
  have HK := Lib.hid K
  clear K hG
  go_enter Tryz.func22, Tryz.ntmps22
  go_upto_region 3 with fail
  have HKd := Lib.hid (HK.out.same HG.out (show Below w.heap.size w w.drew from Below.drew (Below.refl _ _)))
  have HBd := Lib.hid (show Below w.heap.size w w.drew from Below.drew (Below.refl _ _))
  have c2 : w.drew.cell? ⟨gw, 2, none⟩ = some (.pointer (some ⟨gl, 0, none⟩)) := HKd.out.cells.1
  have HS := Lib.hid (HG.out.state _ _ _ t HKd.out.at_)
  refine wp_region_held_drew (S := fun V => V.cell? ⟨gw, 2, none⟩ = some (.pointer (some ⟨gl, 0, none⟩))) (by kernel_rfl) c2 (fun hHeld => ?_)
  clear HK
  generalize w.drew = W2 at *
  refine tkA 0 8 (v := ?_) ?_ ?_
  rotate_left
  focus (intro w hSw; (try dsimp only at hSw); go_simp; (try with_reducible rfl))
  simp only [Act.put, List.setIfInBounds_toArray, List.set_cons_zero, List.set_cons_succ]
  refine tkA 1 9 (v := ?_) ?_ ?_
  rotate_left
  focus (intro w hSw; (try dsimp only at hSw); go_simp; (try with_reducible rfl))
  simp only [Act.put, List.setIfInBounds_toArray, List.set_cons_zero, List.set_cons_succ]
  refine tkA 2 10 (v := ?_) ?_ ?_
  rotate_left
  focus (intro w hSw; (try dsimp only at hSw); go_simp; (try with_reducible rfl))
  simp only [Act.put, List.setIfInBounds_toArray, List.set_cons_zero, List.set_cons_succ]
  refine tkA 3 11 (v := ?_) ?_ ?_
  rotate_left
  focus (intro w hSw; (try dsimp only at hSw); go_simp; (try with_reducible rfl))
  simp only [Act.put, List.setIfInBounds_toArray, List.set_cons_zero, List.set_cons_succ]
  refine tkA 4 12 (v := ?_) ?_ ?_
  rotate_left
  focus (intro w hSw; (try dsimp only at hSw); go_simp; (try with_reducible rfl))
  simp only [Act.put, List.setIfInBounds_toArray, List.set_cons_zero, List.set_cons_succ]
  refine tkA 6 14 (v := ?_) ?_ ?_
  rotate_left
  focus (intro w hSw; (try dsimp only at hSw); go_simp; (try with_reducible rfl))
  simp only [Act.put, List.setIfInBounds_toArray, List.set_cons_zero, List.set_cons_succ]
  refine tkA 7 15 (v := ?_) ?_ ?_
  rotate_left
  focus (intro w hSw; (try dsimp only at hSw); go_simp; (try with_reducible rfl))
  simp only [Act.put, List.setIfInBounds_toArray, List.set_cons_zero, List.set_cons_succ]
  refine tkA 8 16 (v := ?_) ?_ ?_
  rotate_left
  focus (intro w hSw; (try dsimp only at hSw); go_simp; (try with_reducible rfl))
  simp only [Act.put, List.setIfInBounds_toArray, List.set_cons_zero, List.set_cons_succ]
  refine tkA 9 17 (v := ?_) ?_ ?_
  rotate_left
  focus (intro w hSw; (try dsimp only at hSw); go_simp; (try with_reducible rfl))
  simp only [Act.put, List.setIfInBounds_toArray, List.set_cons_zero, List.set_cons_succ]
  refine tkA 10 18 (v := ?_) ?_ ?_
  rotate_left
  focus (intro w hSw; (try dsimp only at hSw); go_simp; (try with_reducible rfl))
  simp only [Act.put, List.setIfInBounds_toArray, List.set_cons_zero, List.set_cons_succ]
  refine wpAnyH_ready (rs := [5]) (by kernel_rfl) (by simp) ?_
  refine AllReadyH.cons rfl (fun K hK => ?_) AllReadyH.nil
  go_simp
  refine HS.out.mono ?_
  rintro e w3 ⟨rfl, hb3⟩
  have HK3 := Lib.hid (HKd.out.same HG.out hb3)
  have HB3 := Lib.hid (HBd.out.trans (hb3.mono HBd.out.size))
  have c3 := HK3.out.cells.1
  have HR := Lib.hid (HG.out.reads _ _ _ t HK3.out.at_)
  clear hb3 HKd HBd c2 HS
  go_simp
  refine hK.out _ _ c3 (fun hHeld => ?_)
  refine wpAnyH_ready (rs := [11]) (by kernel_rfl) (by simp) ?_
  refine AllReadyH.cons rfl (fun K hK => ?_) AllReadyH.nil
  go_simp
  refine HR.out.mono ?_
  rintro e w4 ⟨rfl, hb4⟩
  have HK4 := Lib.hid (HK3.out.same HG.out hb4)
  have HB4 := Lib.hid (HB3.out.trans (hb4.mono HB3.out.size))
  have c4 := HK4.out.cells.1
  clear hb4 HK3 HB3 c3 HR
  go_simp
  refine hK.out _ _ c4 (fun hHeld => ?_)
  refine tkA 12 4 (v := ?_) ?_ ?_
  rotate_left
  focus (intro w hSw; (try dsimp only at hSw); go_simp; (try with_reducible rfl))
  simp only [Act.put, List.setIfInBounds_toArray, List.set_cons_zero, List.set_cons_succ]
  refine tkA 13 5 (v := ?_) ?_ ?_
  rotate_left
  focus (intro w hSw; (try dsimp only at hSw); go_simp; (try with_reducible rfl))
  simp only [Act.put, List.setIfInBounds_toArray, List.set_cons_zero, List.set_cons_succ]
  refine wpAnyH_done (by kernel_rfl) ?_ _
  go_wp2_with fail
  go_ret2
  exact ⟨rfl, HB4.out⟩
end
end Go.Proofs.YtfmiioddhpkdkaaGreat.Wo

/- Package world: what comes of a step. -/
namespace Go.Proofs.YtfmiioddhpkdkaaGreat.Wo
open Go.RowKit Go.Proofs.YtfmiioddhpkdkaaGreat.Ara Go.Proofs.YtfmiioddhpkdkaaGreat.Lok Go.Proofs.YtfmiioddhpkdkaaGreat.Ga Go.Proofs.YtfmiioddhpkdkaaGreat.Wf


def WAft (gw ga gt gl : Nat) {X : Type} (D : LD X) (At : Nat → World → X → Prop) (S : List Nat) (L k : Nat) (w : World) (r : Ev4 × X) (e : Ending) (w' : World) : Prop :=
  e = .returned (wev r.1) ∧ WoA gw ga gt gl D At S L (k + 1) w' r.2 ∧ Mod S w w'
section
variable {gw ga gt gl : Nat} {X : Type} {D : LD X} {At : Nat → World → X → Prop} {may : Bool → Prop} {S : List Nat} {L : Nat} {k : Nat} {w : World} {x : X} (hG : LI gl D At may S L) (K : WoA gw ga gt gl D At S L k w x)
include hG K
set_option maxHeartbeats 4000000 in
set_option maxRecDepth 100000 in
theorem step_wo (t : Int) (hk : k < 1000) (h0 : 0 ≤ t) (h1 : t < D.N) : Calls Tryz.prog 25 #[.pointer (some ⟨gw, 0, none⟩), .int .i64 t] w (WAft gw ga gt gl D At S L k w (wstep D x t)) := by
  unfold WAft
  generalize hw : wstep D x t = r
  unfold wstep at hw
  replace hw := Lib.hid hw
  have HG := Lib.hid hG
  have HK1 := Lib.hid (K.same hG (below_new w (.cells #[.int .i64 0, .int .i64 0, .bool false, .int .i64 0] 44)))
  have hL := K.sz
  have HR := Lib.hid (blk_new w (.cells #[.int .i64 0, .int .i64 0, .bool false, .int .i64 0] 44))
  have HB := Lib.hid (below_new w (.cells #[.int .i64 0, .int .i64 0, .bool false, .int .i64 0] 44))
  clear hG K
  go_enter Tryz.func25, Tryz.ntmps25
  go_wp2_with fail
  refine (state_wo HG.out HK1.out t).mono ?_
  rintro e w2 ⟨rfl, hb2⟩
  have hz := HB.out.size
  have hz1 : w.heap.size + 1 ≤ w2.heap.size := by have := hb2.size; simp at this; omega
  have HK2 := Lib.hid (HK1.out.same HG.out hb2)
  have HR2 := Lib.hid ((Mod.of_below (S := []) hb2).blk HR.out (by simp))
  have HB2 := Lib.hid (HB.out.trans (hb2.mono HB.out.size))
  clear HK1 HR HB hb2 hz
  have HSt := Lib.hid (fun W (K : WoA gw ga gt gl D At S L k W x) => HG.out.steps k W x t hk K.at_ h0 h1)
  generalize hrd : D.rd x t = rd at *
  generalize hs : D.st x t = st at *
  clear hrd
  have HK3 := Lib.hid (HK2.out.same HG.out (below_new w2 (.cells #[.int .i64 0, .int .i64 t, .bool rd, .int .i64 0] 44)))
  have HE3 := Lib.hid (blk_new w2 (.cells #[.int .i64 0, .int .i64 t, .bool rd, .int .i64 0] 44))
  have HR3 := Lib.hid ((Mod.of_below (S := []) (below_new w2 (.cells #[.int .i64 0, .int .i64 t, .bool rd, .int .i64 0] 44))).blk HR2.out (by simp))
  have HB3 := Lib.hid (HB2.out.trans ((below_new w2 (.cells #[.int .i64 0, .int .i64 t, .bool rd, .int .i64 0] 44)).mono HB2.out.size))
  have HM3 := Lib.hid (Mod.of_below (S := S) HB3.out)
  clear HK2 HR2 HB2 HB3
  by_cases hs13 : st = 1 ∨ st = 3
  · have HSt2 := Lib.hid (HSt.out _ HK3.out hs13)
    have c2 := HK3.out.cells.1
    generalize hX : D.step x t = bx at *
    clear hX
    obtain ⟨b, x2⟩ := bx
    simp only at HSt2
    rcases hs13 with rfl | rfl
    · have hw2 := hw.out
      rw [if_pos rfl] at hw2
      subst hw2
      clear hw
      go_wp2_with fail
      refine HSt2.out.mono ?_
      rintro e w4 ⟨rfl, ha4, hm4⟩
      have HK4 := Lib.hid (HK3.out.act ha4 hm4)
      have hlt : ∀ q ∈ S, q < L := HG.out.lt
      have HE4 := Lib.hid (hm4.blk HE3.out (fun h => by have := hlt _ h; omega))
      have HR4 := Lib.hid (hm4.blk HR3.out (fun h => by have := hlt _ h; omega))
      have HM4 := Lib.hid (HM3.out.trans hm4)
      clear ha4 hm4 HK3 HE3 HR3 HM3 HSt HSt2 c2
      cases b with
      | false =>
        have e0 := blk_cell HE4.out 0 (by simp)
        have e1 := blk_cell HE4.out 1 (by simp)
        have e2 := blk_cell HE4.out 2 (by simp)
        have e3 := blk_cell HE4.out 3 (by simp)
        simp only [List.getElem_toArray, List.getElem_cons_zero, List.getElem_cons_succ] at e0 e1 e2 e3
        have d0 := blk_cell HR4.out 0 (by simp)
        have d1 := blk_cell HR4.out 1 (by simp)
        have d2 := blk_cell HR4.out 2 (by simp)
        have d3 := blk_cell HR4.out 3 (by simp)
        simp only [List.getElem_toArray, List.getElem_cons_zero, List.getElem_cons_succ] at d0 d1 d2 d3
        have f0 := blk_free HR4.out 0
        have f1 := blk_free HR4.out 1
        have f2 := blk_free HR4.out 2
        have f3 := blk_free HR4.out 3
        have k0 := blk_set HR4.out 0 (.int .i64 (0))
        have k1 := blk_set k0 1 (.int .i64 (t))
        have k2 := blk_set k1 2 (.bool rd)
        have k3 := blk_set k2 3 (.int .i64 (0))
        have g0 := blk_cell k0 0 (by simp)
        have g1 := blk_cell k1 1 (by simp)
        have g2 := blk_cell k2 2 (by simp)
        have g3 := blk_cell k3 3 (by simp)
        simp at g0 g1 g2 g3
        clear k0 k1 k2 k3
        go_wp2_with fail
        refine bodyPost_ret (v := wev (0, t, rd, 0)) ?_ rfl ⟨rfl, ?_⟩
        · simp [wev, results, Tryz.results25, go_sem, g0, g1, g2, g3]
        · exact WoA.fin HG.out hL HK4.out HM4.out (Nat.le_refl _) (((((Mod.refl [w.heap.size] _).setCell (by simp) _).setCell (by simp) _).setCell (by simp) _).setCell (by simp) _)
      | true =>
        have c2 := HK4.out.cells.1
        have HC := Lib.hid (HG.out.count _ _ _ t HK4.out.at_ h0 h1)
        go_wp2_with fail
        refine HC.out.mono ?_
        rintro e w5 ⟨rfl, hb5⟩
        have HK5 := Lib.hid (HK4.out.same HG.out hb5)
        have HE5 := Lib.hid ((Mod.of_below (S := []) hb5).blk HE4.out (by simp))
        have HR5 := Lib.hid ((Mod.of_below (S := []) hb5).blk HR4.out (by simp))
        have HM5 := Lib.hid (HM4.out.trans (Mod.of_below (S := S) hb5))
        clear HK4 HE4 HR4 HM4 hb5 c2 HC
        have hmm : Mod [w2.heap.size] w5 ((w5.setCell ⟨w2.heap.size, 0, none⟩ (.int .i64 2)).setCell ⟨w2.heap.size, 3, none⟩ (.int .i64 (D.cn x2 t))) := ((Mod.refl [w2.heap.size] w5).setCell (by simp) _).setCell (by simp) _
        have hend := WoA.fin HG.out hL HK5.out HM5.out (show w.heap.size ≤ w2.heap.size by omega) hmm
        have HR6 := Lib.hid (hmm.blk HR5.out (by simp; omega))
        have hbl := blk_set (blk_set HE5.out 0 (.int .i64 2)) 3 (.int .i64 (D.cn x2 t))
        simp only [Array.set!_eq_setIfInBounds, List.setIfInBounds_toArray, List.set_cons_zero, List.set_cons_succ] at hbl
        have HKn := Lib.hid hend.1
        have HMn := Lib.hid hend.2
        have e0 := blk_cell HE5.out 0 (by simp)
        have e1 := blk_cell HE5.out 1 (by simp)
        have e2 := blk_cell HE5.out 2 (by simp)
        have e3 := blk_cell HE5.out 3 (by simp)
        simp only [List.getElem_toArray, List.getElem_cons_zero, List.getElem_cons_succ] at e0 e1 e2 e3
        have y0 := blk_cell hbl 0 (by simp)
        have y1 := blk_cell hbl 1 (by simp)
        have y2 := blk_cell hbl 2 (by simp)
        have y3 := blk_cell hbl 3 (by simp)
        simp only [List.getElem_toArray, List.getElem_cons_zero, List.getElem_cons_succ] at y0 y1 y2 y3
        have fE0 := blk_free HE5.out 0
        have fE3 := blk_free HE5.out 3
        clear hmm hend hbl HR5 HE5 HK5 HM5
        have d0 := blk_cell HR6.out 0 (by simp)
        have d1 := blk_cell HR6.out 1 (by simp)
        have d2 := blk_cell HR6.out 2 (by simp)
        have d3 := blk_cell HR6.out 3 (by simp)
        simp only [List.getElem_toArray, List.getElem_cons_zero, List.getElem_cons_succ] at d0 d1 d2 d3
        have f0 := blk_free HR6.out 0
        have f1 := blk_free HR6.out 1
        have f2 := blk_free HR6.out 2
        have f3 := blk_free HR6.out 3
        have k0 := blk_set HR6.out 0 (.int .i64 (2))
        have k1 := blk_set k0 1 (.int .i64 (t))
        have k2 := blk_set k1 2 (.bool rd)
        have k3 := blk_set k2 3 (.int .i64 (D.cn x2 t))
        have g0 := blk_cell k0 0 (by simp)
        have g1 := blk_cell k1 1 (by simp)
        have g2 := blk_cell k2 2 (by simp)
        have g3 := blk_cell k3 3 (by simp)
        simp at g0 g1 g2 g3
        clear k0 k1 k2 k3
        go_wp2_with fail
        refine bodyPost_ret (v := wev (2, t, rd, D.cn x2 t)) ?_ rfl ⟨rfl, ?_⟩
        · simp [wev, results, Tryz.results25, go_sem, g0, g1, g2, g3]
        · exact WoA.fin HG.out hL HKn.out HMn.out (Nat.le_refl _) (((((Mod.refl [w.heap.size] _).setCell (by simp) _).setCell (by simp) _).setCell (by simp) _).setCell (by simp) _)
    · have hw2 := hw.out
      rw [if_neg (by decide), if_pos rfl] at hw2
      subst hw2
      clear hw
      go_wp2_with fail
      refine HSt2.out.mono ?_
      rintro e w4 ⟨rfl, ha4, hm4⟩
      have HK4 := Lib.hid (HK3.out.act ha4 hm4)
      have hlt : ∀ q ∈ S, q < L := HG.out.lt
      have HE4 := Lib.hid (hm4.blk HE3.out (fun h => by have := hlt _ h; omega))
      have HR4 := Lib.hid (hm4.blk HR3.out (fun h => by have := hlt _ h; omega))
      have HM4 := Lib.hid (HM3.out.trans hm4)
      clear ha4 hm4 HK3 HE3 HR3 HM3 HSt HSt2 c2
      have e0 := blk_cell HE4.out 0 (by simp)
      have e1 := blk_cell HE4.out 1 (by simp)
      have e2 := blk_cell HE4.out 2 (by simp)
      have e3 := blk_cell HE4.out 3 (by simp)
      simp only [List.getElem_toArray, List.getElem_cons_zero, List.getElem_cons_succ] at e0 e1 e2 e3
      cases b with
      | false =>
        have d0 := blk_cell HR4.out 0 (by simp)
        have d1 := blk_cell HR4.out 1 (by simp)
        have d2 := blk_cell HR4.out 2 (by simp)
        have d3 := blk_cell HR4.out 3 (by simp)
        simp only [List.getElem_toArray, List.getElem_cons_zero, List.getElem_cons_succ] at d0 d1 d2 d3
        have f0 := blk_free HR4.out 0
        have f1 := blk_free HR4.out 1
        have f2 := blk_free HR4.out 2
        have f3 := blk_free HR4.out 3
        have k0 := blk_set HR4.out 0 (.int .i64 (0))
        have k1 := blk_set k0 1 (.int .i64 (t))
        have k2 := blk_set k1 2 (.bool rd)
        have k3 := blk_set k2 3 (.int .i64 (0))
        have g0 := blk_cell k0 0 (by simp)
        have g1 := blk_cell k1 1 (by simp)
        have g2 := blk_cell k2 2 (by simp)
        have g3 := blk_cell k3 3 (by simp)
        simp at g0 g1 g2 g3
        clear k0 k1 k2 k3
        go_wp2_with fail
        refine bodyPost_ret (v := wev (0, t, rd, 0)) ?_ rfl ⟨rfl, ?_⟩
        · simp [wev, results, Tryz.results25, go_sem, g0, g1, g2, g3]
        · exact WoA.fin HG.out hL HK4.out HM4.out (Nat.le_refl _) (((((Mod.refl [w.heap.size] _).setCell (by simp) _).setCell (by simp) _).setCell (by simp) _).setCell (by simp) _)
      | true =>
        have hmm : Mod [w2.heap.size] w4 (w4.setCell ⟨w2.heap.size, 0, none⟩ (.int .i64 4)) := (Mod.refl [w2.heap.size] w4).setCell (by simp) _
        have hend := WoA.fin HG.out hL HK4.out HM4.out (show w.heap.size ≤ w2.heap.size by omega) hmm
        have HR6 := Lib.hid (hmm.blk HR4.out (by simp; omega))
        have hbl := blk_set HE4.out 0 (.int .i64 4)
        simp only [Array.set!_eq_setIfInBounds, List.setIfInBounds_toArray, List.set_cons_zero, List.set_cons_succ] at hbl
        have HKn := Lib.hid hend.1
        have HMn := Lib.hid hend.2
        have y0 := blk_cell hbl 0 (by simp)
        have y1 := blk_cell hbl 1 (by simp)
        have y2 := blk_cell hbl 2 (by simp)
        have y3 := blk_cell hbl 3 (by simp)
        simp only [List.getElem_toArray, List.getElem_cons_zero, List.getElem_cons_succ] at y0 y1 y2 y3
        have fE0 := blk_free HE4.out 0
        clear hmm hend hbl HR4 HE4 HK4 HM4
        have d0 := blk_cell HR6.out 0 (by simp)
        have d1 := blk_cell HR6.out 1 (by simp)
        have d2 := blk_cell HR6.out 2 (by simp)
        have d3 := blk_cell HR6.out 3 (by simp)
        simp only [List.getElem_toArray, List.getElem_cons_zero, List.getElem_cons_succ] at d0 d1 d2 d3
        have f0 := blk_free HR6.out 0
        have f1 := blk_free HR6.out 1
        have f2 := blk_free HR6.out 2
        have f3 := blk_free HR6.out 3
        have k0 := blk_set HR6.out 0 (.int .i64 (4))
        have k1 := blk_set k0 1 (.int .i64 (t))
        have k2 := blk_set k1 2 (.bool rd)
        have k3 := blk_set k2 3 (.int .i64 (0))
        have g0 := blk_cell k0 0 (by simp)
        have g1 := blk_cell k1 1 (by simp)
        have g2 := blk_cell k2 2 (by simp)
        have g3 := blk_cell k3 3 (by simp)
        simp at g0 g1 g2 g3
        clear k0 k1 k2 k3
        go_wp2_with fail
        refine bodyPost_ret (v := wev (4, t, rd, 0)) ?_ rfl ⟨rfl, ?_⟩
        · simp [wev, results, Tryz.results25, go_sem, g0, g1, g2, g3]
        · exact WoA.fin HG.out hL HKn.out HMn.out (Nat.le_refl _) (((((Mod.refl [w.heap.size] _).setCell (by simp) _).setCell (by simp) _).setCell (by simp) _).setCell (by simp) _)
  · have n1 : ¬ st = 1 := fun h => hs13 (.inl h)
    have n3 : ¬ st = 3 := fun h => hs13 (.inr h)
    have hw2 := hw.out
    rw [if_neg n1, if_neg n3] at hw2
    subst hw2
    clear hw
    have m1 := ibeq_no n1
    have m3 := ibeq_no n3
    have e0 := blk_cell HE3.out 0 (by simp)
    have e1 := blk_cell HE3.out 1 (by simp)
    have e2 := blk_cell HE3.out 2 (by simp)
    have e3 := blk_cell HE3.out 3 (by simp)
    simp only [List.getElem_toArray, List.getElem_cons_zero, List.getElem_cons_succ] at e0 e1 e2 e3
    clear hs13 n1 n3 HSt
    have HK4 := Lib.hid (HK3.out.up HG.out)
    have d0 := blk_cell HR3.out 0 (by simp)
    have d1 := blk_cell HR3.out 1 (by simp)
    have d2 := blk_cell HR3.out 2 (by simp)
    have d3 := blk_cell HR3.out 3 (by simp)
    simp only [List.getElem_toArray, List.getElem_cons_zero, List.getElem_cons_succ] at d0 d1 d2 d3
    have f0 := blk_free HR3.out 0
    have f1 := blk_free HR3.out 1
    have f2 := blk_free HR3.out 2
    have f3 := blk_free HR3.out 3
    have k0 := blk_set HR3.out 0 (.int .i64 (0))
    have k1 := blk_set k0 1 (.int .i64 (t))
    have k2 := blk_set k1 2 (.bool rd)
    have k3 := blk_set k2 3 (.int .i64 (0))
    have g0 := blk_cell k0 0 (by simp)
    have g1 := blk_cell k1 1 (by simp)
    have g2 := blk_cell k2 2 (by simp)
    have g3 := blk_cell k3 3 (by simp)
    simp at g0 g1 g2 g3
    clear k0 k1 k2 k3
    go_wp2_with fail
    refine bodyPost_ret (v := wev (0, t, rd, 0)) ?_ rfl ⟨rfl, ?_⟩
    · simp [wev, results, Tryz.results25, go_sem, g0, g1, g2, g3]
    · exact WoA.fin HG.out hL HK4.out HM3.out (Nat.le_refl _) (((((Mod.refl [w.heap.size] _).setCell (by simp) _).setCell (by simp) _).setCell (by simp) _).setCell (by simp) _)
end
end Go.Proofs.YtfmiioddhpkdkaaGreat.Wo

/- Package world: what comes of an asking, and of a leaving. -/
namespace Go.Proofs.YtfmiioddhpkdkaaGreat.Wo
open Go.RowKit Go.Proofs.YtfmiioddhpkdkaaGreat.Ara Go.Proofs.YtfmiioddhpkdkaaGreat.Lok Go.Proofs.YtfmiioddhpkdkaaGreat.Ga Go.Proofs.YtfmiioddhpkdkaaGreat.Wf


section
variable {gw ga gt gl : Nat} {X : Type} {D : LD X} {At : Nat → World → X → Prop} {may : Bool → Prop} {S : List Nat} {L : Nat} {k : Nat} {w : World} {x : X} (hG : LI gl D At may S L) (K : WoA gw ga gt gl D At S L k w x)
include hG K
set_option maxHeartbeats 4000000 in
set_option maxRecDepth 100000 in
theorem asks_wo (t : Int) (b : Bool) (hk : k < 1000) (h0 : 0 ≤ t) (h1 : t < D.N) (hb : (b && !D.sh) = false → may b) : Calls Tryz.prog 26 #[.pointer (some ⟨gw, 0, none⟩), .int .i64 t, .bool b] w (WAft gw ga gt gl D At S L k w (wask D x t b)) := by
  unfold WAft
  generalize hw : wask D x t b = r0
  unfold wask at hw
  replace hw := Lib.hid hw
  have HG := Lib.hid hG
  have HK1 := Lib.hid (K.same hG (below_new w (.cells #[.int .i64 0, .int .i64 0, .bool false, .int .i64 0] 44)))
  have hL := K.sz
  have HR := Lib.hid (blk_new w (.cells #[.int .i64 0, .int .i64 0, .bool false, .int .i64 0] 44))
  have HB := Lib.hid (below_new w (.cells #[.int .i64 0, .int .i64 0, .bool false, .int .i64 0] 44))
  clear hG K
  go_enter Tryz.func26, Tryz.ntmps26
  go_wp2_with fail
  refine (state_wo HG.out HK1.out t).mono ?_
  rintro e w2 ⟨rfl, hb2⟩
  have HK2 := Lib.hid (HK1.out.same HG.out hb2)
  have HR2 := Lib.hid ((Mod.of_below (S := []) hb2).blk HR.out (by simp))
  have HM2 := Lib.hid (Mod.of_below (S := S) (HB.out.trans (hb2.mono HB.out.size)))
  clear HK1 HR HB hb2
  generalize hrd : D.rd x t = rd at *
  generalize hs : D.st x t = st at *
  clear hrd hs
  have c2 := HK2.out.cells.1
  have c3 := HK2.out.cells.2
  by_cases hbs : (b && !D.sh) = true
  · have hw2 := hw.out
    rw [if_pos hbs] at hw2
    subst hw2
    clear hw
    have HK4 := Lib.hid (HK2.out.up HG.out)
    rw [Bool.and_eq_true, Bool.not_eq_true'] at hbs
    obtain ⟨rfl, hsh⟩ := hbs
    rw [hsh] at c3
    clear hb hsh
    have d0 := blk_cell HR2.out 0 (by simp)
    have d1 := blk_cell HR2.out 1 (by simp)
    have d2 := blk_cell HR2.out 2 (by simp)
    have d3 := blk_cell HR2.out 3 (by simp)
    simp only [List.getElem_toArray, List.getElem_cons_zero, List.getElem_cons_succ] at d0 d1 d2 d3
    have f0 := blk_free HR2.out 0
    have f1 := blk_free HR2.out 1
    have f2 := blk_free HR2.out 2
    have f3 := blk_free HR2.out 3
    have k0 := blk_set HR2.out 0 (.int .i64 (5))
    have k1 := blk_set k0 1 (.int .i64 (t))
    have k2 := blk_set k1 2 (.bool rd)
    have k3 := blk_set k2 3 (.int .i64 (0))
    have g0 := blk_cell k0 0 (by simp)
    have g1 := blk_cell k1 1 (by simp)
    have g2 := blk_cell k2 2 (by simp)
    have g3 := blk_cell k3 3 (by simp)
    simp at g0 g1 g2 g3
    clear k0 k1 k2 k3
    go_wp2_with fail
    refine bodyPost_ret (v := wev (5, t, rd, 0)) ?_ rfl ⟨rfl, ?_⟩
    · simp [wev, results, Tryz.results26, go_sem, g0, g1, g2, g3]
    · exact WoA.fin HG.out hL HK4.out HM2.out (Nat.le_refl _) (((((Mod.refl [w.heap.size] _).setCell (by simp) _).setCell (by simp) _).setCell (by simp) _).setCell (by simp) _)
  · have hw2 := hw.out
    rw [if_neg hbs] at hw2
    clear hw
    have hbs : (b && !D.sh) = false := by simpa using hbs
    have HA := Lib.hid (HG.out.asks _ _ _ t b hk (hb hbs) HK2.out.at_ h0 h1)
    generalize D.ask x t b = r at *
    obtain ⟨r, x2⟩ := r
    simp only at HA
    subst hw2
    generalize hsh : D.sh = sh at *
    clear hsh
    clear hb
    cases b with
    | false =>
      clear hbs
      go_wp2_with fail
      refine HA.out.mono ?_
      rintro e w4 ⟨rfl, ha4, hm4⟩
      have HK4 := Lib.hid (HK2.out.act ha4 hm4)
      have hlt : ∀ q ∈ S, q < L := HG.out.lt
      have HR4 := Lib.hid (hm4.blk HR2.out (fun h => by have := hlt _ h; omega))
      have HM4 := Lib.hid (HM2.out.trans hm4)
      clear ha4 hm4 HK2 HR2 HM2 HA c2 c3
      cases r with
      | false =>
        have d0 := blk_cell HR4.out 0 (by simp)
        have d1 := blk_cell HR4.out 1 (by simp)
        have d2 := blk_cell HR4.out 2 (by simp)
        have d3 := blk_cell HR4.out 3 (by simp)
        simp only [List.getElem_toArray, List.getElem_cons_zero, List.getElem_cons_succ] at d0 d1 d2 d3
        have f0 := blk_free HR4.out 0
        have f1 := blk_free HR4.out 1
        have f2 := blk_free HR4.out 2
        have f3 := blk_free HR4.out 3
        have k0 := blk_set HR4.out 0 (.int .i64 (5))
        have k1 := blk_set k0 1 (.int .i64 (t))
        have k2 := blk_set k1 2 (.bool rd)
        have k3 := blk_set k2 3 (.int .i64 (0))
        have g0 := blk_cell k0 0 (by simp)
        have g1 := blk_cell k1 1 (by simp)
        have g2 := blk_cell k2 2 (by simp)
        have g3 := blk_cell k3 3 (by simp)
        simp at g0 g1 g2 g3
        clear k0 k1 k2 k3
        go_wp2_with fail
        refine bodyPost_ret (v := wev (5, t, rd, 0)) ?_ rfl ⟨rfl, ?_⟩
        · simp [wev, results, Tryz.results26, go_sem, g0, g1, g2, g3]
        · exact WoA.fin HG.out hL HK4.out HM4.out (Nat.le_refl _) (((((Mod.refl [w.heap.size] _).setCell (by simp) _).setCell (by simp) _).setCell (by simp) _).setCell (by simp) _)
      | true =>
        have d0 := blk_cell HR4.out 0 (by simp)
        have d1 := blk_cell HR4.out 1 (by simp)
        have d2 := blk_cell HR4.out 2 (by simp)
        have d3 := blk_cell HR4.out 3 (by simp)
        simp only [List.getElem_toArray, List.getElem_cons_zero, List.getElem_cons_succ] at d0 d1 d2 d3
        have f0 := blk_free HR4.out 0
        have f1 := blk_free HR4.out 1
        have f2 := blk_free HR4.out 2
        have f3 := blk_free HR4.out 3
        have k0 := blk_set HR4.out 0 (.int .i64 (1))
        have k1 := blk_set k0 1 (.int .i64 (t))
        have k2 := blk_set k1 2 (.bool false)
        have k3 := blk_set k2 3 (.int .i64 (0))
        have g0 := blk_cell k0 0 (by simp)
        have g1 := blk_cell k1 1 (by simp)
        have g2 := blk_cell k2 2 (by simp)
        have g3 := blk_cell k3 3 (by simp)
        simp at g0 g1 g2 g3
        clear k0 k1 k2 k3
        go_wp2_with fail
        refine bodyPost_ret (v := wev (1, t, false, 0)) ?_ rfl ⟨rfl, ?_⟩
        · simp [wev, results, Tryz.results26, go_sem, g0, g1, g2, g3]
        · exact WoA.fin HG.out hL HK4.out HM4.out (Nat.le_refl _) (((((Mod.refl [w.heap.size] _).setCell (by simp) _).setCell (by simp) _).setCell (by simp) _).setCell (by simp) _)
    | true =>
      obtain rfl : sh = true := by simpa using hbs
      clear hbs
      go_wp2_with fail
      refine HA.out.mono ?_
      rintro e w4 ⟨rfl, ha4, hm4⟩
      have HK4 := Lib.hid (HK2.out.act ha4 hm4)
      have hlt : ∀ q ∈ S, q < L := HG.out.lt
      have HR4 := Lib.hid (hm4.blk HR2.out (fun h => by have := hlt _ h; omega))
      have HM4 := Lib.hid (HM2.out.trans hm4)
      clear ha4 hm4 HK2 HR2 HM2 HA c2 c3
      cases r with
      | false =>
        have d0 := blk_cell HR4.out 0 (by simp)
        have d1 := blk_cell HR4.out 1 (by simp)
        have d2 := blk_cell HR4.out 2 (by simp)
        have d3 := blk_cell HR4.out 3 (by simp)
        simp only [List.getElem_toArray, List.getElem_cons_zero, List.getElem_cons_succ] at d0 d1 d2 d3
        have f0 := blk_free HR4.out 0
        have f1 := blk_free HR4.out 1
        have f2 := blk_free HR4.out 2
        have f3 := blk_free HR4.out 3
        have k0 := blk_set HR4.out 0 (.int .i64 (5))
        have k1 := blk_set k0 1 (.int .i64 (t))
        have k2 := blk_set k1 2 (.bool rd)
        have k3 := blk_set k2 3 (.int .i64 (0))
        have g0 := blk_cell k0 0 (by simp)
        have g1 := blk_cell k1 1 (by simp)
        have g2 := blk_cell k2 2 (by simp)
        have g3 := blk_cell k3 3 (by simp)
        simp at g0 g1 g2 g3
        clear k0 k1 k2 k3
        go_wp2_with fail
        refine bodyPost_ret (v := wev (5, t, rd, 0)) ?_ rfl ⟨rfl, ?_⟩
        · simp [wev, results, Tryz.results26, go_sem, g0, g1, g2, g3]
        · exact WoA.fin HG.out hL HK4.out HM4.out (Nat.le_refl _) (((((Mod.refl [w.heap.size] _).setCell (by simp) _).setCell (by simp) _).setCell (by simp) _).setCell (by simp) _)
      | true =>
        have d0 := blk_cell HR4.out 0 (by simp)
        have d1 := blk_cell HR4.out 1 (by simp)
        have d2 := blk_cell HR4.out 2 (by simp)
        have d3 := blk_cell HR4.out 3 (by simp)
        simp only [List.getElem_toArray, List.getElem_cons_zero, List.getElem_cons_succ] at d0 d1 d2 d3
        have f0 := blk_free HR4.out 0
        have f1 := blk_free HR4.out 1
        have f2 := blk_free HR4.out 2
        have f3 := blk_free HR4.out 3
        have k0 := blk_set HR4.out 0 (.int .i64 (1))
        have k1 := blk_set k0 1 (.int .i64 (t))
        have k2 := blk_set k1 2 (.bool true)
        have k3 := blk_set k2 3 (.int .i64 (0))
        have g0 := blk_cell k0 0 (by simp)
        have g1 := blk_cell k1 1 (by simp)
        have g2 := blk_cell k2 2 (by simp)
        have g3 := blk_cell k3 3 (by simp)
        simp at g0 g1 g2 g3
        clear k0 k1 k2 k3
        go_wp2_with fail
        refine bodyPost_ret (v := wev (1, t, true, 0)) ?_ rfl ⟨rfl, ?_⟩
        · simp [wev, results, Tryz.results26, go_sem, g0, g1, g2, g3]
        · exact WoA.fin HG.out hL HK4.out HM4.out (Nat.le_refl _) (((((Mod.refl [w.heap.size] _).setCell (by simp) _).setCell (by simp) _).setCell (by simp) _).setCell (by simp) _)
set_option maxHeartbeats 4000000 in
set_option maxRecDepth 100000 in
theorem leaves_wo (t : Int) (b : Bool) (hk : k < 1000) (h0 : 0 ≤ t) (h1 : t < D.N) : Calls Tryz.prog 27 #[.pointer (some ⟨gw, 0, none⟩), .int .i64 t, .bool b] w (WAft gw ga gt gl D At S L k w (wleave D x t b)) := by
  unfold WAft
  generalize hw : wleave D x t b = r0
  unfold wleave at hw
  replace hw := Lib.hid hw
  have HG := Lib.hid hG
  have HK1 := Lib.hid (K.same hG (below_new w (.cells #[.int .i64 0, .int .i64 0, .bool false, .int .i64 0] 44)))
  have hL := K.sz
  have HR := Lib.hid (blk_new w (.cells #[.int .i64 0, .int .i64 0, .bool false, .int .i64 0] 44))
  have HB := Lib.hid (below_new w (.cells #[.int .i64 0, .int .i64 0, .bool false, .int .i64 0] 44))
  clear hG K
  go_enter Tryz.func27, Tryz.ntmps27
  go_wp2_with fail
  refine (state_wo HG.out HK1.out t).mono ?_
  rintro e w2 ⟨rfl, hb2⟩
  have HK2 := Lib.hid (HK1.out.same HG.out hb2)
  have HR2 := Lib.hid ((Mod.of_below (S := []) hb2).blk HR.out (by simp))
  have HM2 := Lib.hid (Mod.of_below (S := S) (HB.out.trans (hb2.mono HB.out.size)))
  clear HK1 HR HB hb2
  have HA := Lib.hid (HG.out.leaves _ _ _ t hk HK2.out.at_ h0 h1)
  generalize hrd : D.rd x t = rd at *
  generalize hs : D.st x t = st at *
  clear hrd hs
  generalize D.leave x t = r at *
  obtain ⟨r, x2⟩ := r
  simp only at HA
  have c2 := HK2.out.cells.1
  have c3 := Lib.hid trivial
  by_cases hrb : rd = b
  · subst hrb
    have hw2 := hw.out
    rw [if_pos rfl] at hw2
    subst hw2
    clear hw
    cases rd
    all_goals
      go_wp2_with fail
      refine HA.out.mono ?_
      rintro e w4 ⟨rfl, ha4, hm4⟩
      have HK4 := Lib.hid (HK2.out.act ha4 hm4)
      have hlt : ∀ q ∈ S, q < L := HG.out.lt
      have HR4 := Lib.hid (hm4.blk HR2.out (fun h => by have := hlt _ h; omega))
      have HM4 := Lib.hid (HM2.out.trans hm4)
      clear ha4 hm4 HK2 HR2 HM2 HA c2 c3
      cases r
    · have d0 := blk_cell HR4.out 0 (by simp)
      have d1 := blk_cell HR4.out 1 (by simp)
      have d2 := blk_cell HR4.out 2 (by simp)
      have d3 := blk_cell HR4.out 3 (by simp)
      simp only [List.getElem_toArray, List.getElem_cons_zero, List.getElem_cons_succ] at d0 d1 d2 d3
      have f0 := blk_free HR4.out 0
      have f1 := blk_free HR4.out 1
      have f2 := blk_free HR4.out 2
      have f3 := blk_free HR4.out 3
      have k0 := blk_set HR4.out 0 (.int .i64 (5))
      have k1 := blk_set k0 1 (.int .i64 (t))
      have k2 := blk_set k1 2 (.bool false)
      have k3 := blk_set k2 3 (.int .i64 (0))
      have g0 := blk_cell k0 0 (by simp)
      have g1 := blk_cell k1 1 (by simp)
      have g2 := blk_cell k2 2 (by simp)
      have g3 := blk_cell k3 3 (by simp)
      simp at g0 g1 g2 g3
      clear k0 k1 k2 k3
      go_wp2_with fail
      refine bodyPost_ret (v := wev (5, t, false, 0)) ?_ rfl ⟨rfl, ?_⟩
      · simp [wev, results, Tryz.results27, go_sem, g0, g1, g2, g3]
      · exact WoA.fin HG.out hL HK4.out HM4.out (Nat.le_refl _) (((((Mod.refl [w.heap.size] _).setCell (by simp) _).setCell (by simp) _).setCell (by simp) _).setCell (by simp) _)
    · have d0 := blk_cell HR4.out 0 (by simp)
      have d1 := blk_cell HR4.out 1 (by simp)
      have d2 := blk_cell HR4.out 2 (by simp)
      have d3 := blk_cell HR4.out 3 (by simp)
      simp only [List.getElem_toArray, List.getElem_cons_zero, List.getElem_cons_succ] at d0 d1 d2 d3
      have f0 := blk_free HR4.out 0
      have f1 := blk_free HR4.out 1
      have f2 := blk_free HR4.out 2
      have f3 := blk_free HR4.out 3
      have k0 := blk_set HR4.out 0 (.int .i64 (3))
      have k1 := blk_set k0 1 (.int .i64 (t))
      have k2 := blk_set k1 2 (.bool false)
      have k3 := blk_set k2 3 (.int .i64 (0))
      have g0 := blk_cell k0 0 (by simp)
      have g1 := blk_cell k1 1 (by simp)
      have g2 := blk_cell k2 2 (by simp)
      have g3 := blk_cell k3 3 (by simp)
      simp at g0 g1 g2 g3
      clear k0 k1 k2 k3
      go_wp2_with fail
      refine bodyPost_ret (v := wev (3, t, false, 0)) ?_ rfl ⟨rfl, ?_⟩
      · simp [wev, results, Tryz.results27, go_sem, g0, g1, g2, g3]
      · exact WoA.fin HG.out hL HK4.out HM4.out (Nat.le_refl _) (((((Mod.refl [w.heap.size] _).setCell (by simp) _).setCell (by simp) _).setCell (by simp) _).setCell (by simp) _)
    · have d0 := blk_cell HR4.out 0 (by simp)
      have d1 := blk_cell HR4.out 1 (by simp)
      have d2 := blk_cell HR4.out 2 (by simp)
      have d3 := blk_cell HR4.out 3 (by simp)
      simp only [List.getElem_toArray, List.getElem_cons_zero, List.getElem_cons_succ] at d0 d1 d2 d3
      have f0 := blk_free HR4.out 0
      have f1 := blk_free HR4.out 1
      have f2 := blk_free HR4.out 2
      have f3 := blk_free HR4.out 3
      have k0 := blk_set HR4.out 0 (.int .i64 (5))
      have k1 := blk_set k0 1 (.int .i64 (t))
      have k2 := blk_set k1 2 (.bool true)
      have k3 := blk_set k2 3 (.int .i64 (0))
      have g0 := blk_cell k0 0 (by simp)
      have g1 := blk_cell k1 1 (by simp)
      have g2 := blk_cell k2 2 (by simp)
      have g3 := blk_cell k3 3 (by simp)
      simp at g0 g1 g2 g3
      clear k0 k1 k2 k3
      go_wp2_with fail
      refine bodyPost_ret (v := wev (5, t, true, 0)) ?_ rfl ⟨rfl, ?_⟩
      · simp [wev, results, Tryz.results27, go_sem, g0, g1, g2, g3]
      · exact WoA.fin HG.out hL HK4.out HM4.out (Nat.le_refl _) (((((Mod.refl [w.heap.size] _).setCell (by simp) _).setCell (by simp) _).setCell (by simp) _).setCell (by simp) _)
    · have d0 := blk_cell HR4.out 0 (by simp)
      have d1 := blk_cell HR4.out 1 (by simp)
      have d2 := blk_cell HR4.out 2 (by simp)
      have d3 := blk_cell HR4.out 3 (by simp)
      simp only [List.getElem_toArray, List.getElem_cons_zero, List.getElem_cons_succ] at d0 d1 d2 d3
      have f0 := blk_free HR4.out 0
      have f1 := blk_free HR4.out 1
      have f2 := blk_free HR4.out 2
      have f3 := blk_free HR4.out 3
      have k0 := blk_set HR4.out 0 (.int .i64 (3))
      have k1 := blk_set k0 1 (.int .i64 (t))
      have k2 := blk_set k1 2 (.bool true)
      have k3 := blk_set k2 3 (.int .i64 (0))
      have g0 := blk_cell k0 0 (by simp)
      have g1 := blk_cell k1 1 (by simp)
      have g2 := blk_cell k2 2 (by simp)
      have g3 := blk_cell k3 3 (by simp)
      simp at g0 g1 g2 g3
      clear k0 k1 k2 k3
      go_wp2_with fail
      refine bodyPost_ret (v := wev (3, t, true, 0)) ?_ rfl ⟨rfl, ?_⟩
      · simp [wev, results, Tryz.results27, go_sem, g0, g1, g2, g3]
      · exact WoA.fin HG.out hL HK4.out HM4.out (Nat.le_refl _) (((((Mod.refl [w.heap.size] _).setCell (by simp) _).setCell (by simp) _).setCell (by simp) _).setCell (by simp) _)
  · have hw2 := hw.out
    rw [if_neg hrb] at hw2
    subst hw2
    clear hw
    have HK4 := Lib.hid (HK2.out.up HG.out)
    cases rd
    all_goals
      cases b
    · exact absurd rfl hrb
    · clear hrb
      have d0 := blk_cell HR2.out 0 (by simp)
      have d1 := blk_cell HR2.out 1 (by simp)
      have d2 := blk_cell HR2.out 2 (by simp)
      have d3 := blk_cell HR2.out 3 (by simp)
      simp only [List.getElem_toArray, List.getElem_cons_zero, List.getElem_cons_succ] at d0 d1 d2 d3
      have f0 := blk_free HR2.out 0
      have f1 := blk_free HR2.out 1
      have f2 := blk_free HR2.out 2
      have f3 := blk_free HR2.out 3
      have k0 := blk_set HR2.out 0 (.int .i64 (5))
      have k1 := blk_set k0 1 (.int .i64 (t))
      have k2 := blk_set k1 2 (.bool false)
      have k3 := blk_set k2 3 (.int .i64 (0))
      have g0 := blk_cell k0 0 (by simp)
      have g1 := blk_cell k1 1 (by simp)
      have g2 := blk_cell k2 2 (by simp)
      have g3 := blk_cell k3 3 (by simp)
      simp at g0 g1 g2 g3
      clear k0 k1 k2 k3
      go_wp2_with fail
      refine bodyPost_ret (v := wev (5, t, false, 0)) ?_ rfl ⟨rfl, ?_⟩
      · simp [wev, results, Tryz.results27, go_sem, g0, g1, g2, g3]
      · exact WoA.fin HG.out hL HK4.out HM2.out (Nat.le_refl _) (((((Mod.refl [w.heap.size] _).setCell (by simp) _).setCell (by simp) _).setCell (by simp) _).setCell (by simp) _)
    · clear hrb
      have d0 := blk_cell HR2.out 0 (by simp)
      have d1 := blk_cell HR2.out 1 (by simp)
      have d2 := blk_cell HR2.out 2 (by simp)
      have d3 := blk_cell HR2.out 3 (by simp)
      simp only [List.getElem_toArray, List.getElem_cons_zero, List.getElem_cons_succ] at d0 d1 d2 d3
      have f0 := blk_free HR2.out 0
      have f1 := blk_free HR2.out 1
      have f2 := blk_free HR2.out 2
      have f3 := blk_free HR2.out 3
      have k0 := blk_set HR2.out 0 (.int .i64 (5))
      have k1 := blk_set k0 1 (.int .i64 (t))
      have k2 := blk_set k1 2 (.bool true)
      have k3 := blk_set k2 3 (.int .i64 (0))
      have g0 := blk_cell k0 0 (by simp)
      have g1 := blk_cell k1 1 (by simp)
      have g2 := blk_cell k2 2 (by simp)
      have g3 := blk_cell k3 3 (by simp)
      simp at g0 g1 g2 g3
      clear k0 k1 k2 k3
      go_wp2_with fail
      refine bodyPost_ret (v := wev (5, t, true, 0)) ?_ rfl ⟨rfl, ?_⟩
      · simp [wev, results, Tryz.results27, go_sem, g0, g1, g2, g3]
      · exact WoA.fin HG.out hL HK4.out HM2.out (Nat.le_refl _) (((((Mod.refl [w.heap.size] _).setCell (by simp) _).setCell (by simp) _).setCell (by simp) _).setCell (by simp) _)
    · exact absurd rfl hrb
end
end Go.Proofs.YtfmiioddhpkdkaaGreat.Wo

