/- Merged texts: Rw4, Rw5, Rw6. -/
import Derived.Test.YtfmiioddhpkdkaaGreatWz29
import Derived.Deep.RegionHeld3
import Derived.RegionTactic
import Derived.BigRegion
set_option linter.unusedVariables false
set_option maxRecDepth 100000
set_option maxHeartbeats 8000000
/- Locks of readers and writers: a reader's Ask and Leave. -/
namespace Go.Proofs.YtfmiioddhpkdkaaGreat.Rw
open Go.RowKit Ara Lok Ga Lk Wr

def put4 (W : World) (h i : Nat) (s : Sp) : World := (((W.setCell ⟨h, i, none⟩ (.int .i64 s.pc)).setCell ⟨h, i + 1, none⟩ (.int .i64 s.a)).setCell ⟨h, i + 2, none⟩ (.int .i64 s.b)).setCell ⟨h, i + 3, none⟩ (.int .i64 s.c)
section
variable {Ty : TypeId} {L : Nat} {W : World} {c : Rc} {P : Rp} {x : Ar × List Sp}
theorem RdA.store (K : RdA Ty L W c P x) {k : Nat} (hk : k < P.T) (s : Sp) : RdA Ty L (put4 W c.hs (k * 4) s) c P (x.1, x.2.set k s) ∧ Mod [c.ga, c.ha, c.hs] W (put4 W c.hs (k * 4) s) := by
  have at_ : ∀ (l : List Sp) (s' : Sp), l.length = P.T → spOf (l.set k s') (k : Int) = s' := fun l s' hl => by
    rw [spOf_in (by rw [List.length_set, hl]; exact hk)]
    exact List.getElem_set_self _
  obtain ⟨xp, xa, xb, xc⟩ := s
  generalize h0 : spOf x.2 (k : Int) = s0
  obtain ⟨yp, ya, yb, yc⟩ := s0
  obtain ⟨K1, m1⟩ := K.spot hk 0 (by omega) (.int .i64 xp) ⟨xp, ya, yb, yc⟩ (by rw [h0]; rfl)
  have e1 := at_ x.2 ⟨xp, ya, yb, yc⟩ K.len
  obtain ⟨K2, m2⟩ := K1.spot hk 1 (by omega) (.int .i64 xa) ⟨xp, xa, yb, yc⟩ (by rw [e1]; rfl)
  have e2 := at_ (x.2.set k ⟨xp, ya, yb, yc⟩) ⟨xp, xa, yb, yc⟩ K1.len
  obtain ⟨K3, m3⟩ := K2.spot hk 2 (by omega) (.int .i64 xb) ⟨xp, xa, xb, yc⟩ (by rw [e2]; rfl)
  have e3 := at_ ((x.2.set k ⟨xp, ya, yb, yc⟩).set k ⟨xp, xa, yb, yc⟩) ⟨xp, xa, xb, yc⟩ K2.len
  obtain ⟨K4, m4⟩ := K3.spot hk 3 (by omega) (.int .i64 xc) ⟨xp, xa, xb, xc⟩ (by rw [e3]; rfl)
  simp only [List.set_set] at K4
  exact ⟨K4, ((m1.trans m2).trans m3).trans m4⟩
theorem RdA.pc (K : RdA Ty L W c P x) {k : Nat} (hk : k < P.T) (n : Int) : RdA Ty L (W.setCell ⟨c.hs, k * 4, none⟩ (.int .i64 n)) c P (x.1, x.2.set k { spOf x.2 (k : Int) with pc := n }) ∧ Mod [c.ga, c.ha, c.hs] W (W.setCell ⟨c.hs, k * 4, none⟩ (.int .i64 n)) :=
  K.spot hk 0 (by omega) (.int .i64 n) _ rfl
theorem rask_yes {k : Nat} (h : (spOf x.2 (k : Int)).pc = 0) : rask x (k : Int) = (true, (x.1, x.2.set k ⟨1, 1, 0, 0⟩)) := by
  unfold rask
  rw [if_pos h]
  rfl
theorem rask_no {k : Nat} (h : ¬ (spOf x.2 (k : Int)).pc = 0) : rask x (k : Int) = (false, x) := by
  unfold rask
  rw [if_neg h]
theorem rlv_yes {k : Nat} (h : (spOf x.2 (k : Int)).pc = 10) : rlv x (k : Int) = (true, (x.1, x.2.set k { spOf x.2 (k : Int) with pc := 11 })) := by
  unfold rlv
  rw [if_pos h]
  rfl
theorem rlv_no {k : Nat} (h : ¬ (spOf x.2 (k : Int)).pc = 10) : rlv x (k : Int) = (false, x) := by
  unfold rlv
  rw [if_neg h]
end
theorem ask_neutral {L : Nat} {W : World} {c : Rc} {P : Rp} {x : Ar × List Sp} (K : RdA 254 L W c P x) (k : Nat) (hk : k < P.T) : Calls Tryz.prog 291 #[.pointer (some ⟨c.gk, 0, none⟩), .int .i64 (k : Int), .bool true] W (RAft 254 L c P (rask x (k : Int)) W) := by
  have HS := Lib.hid (has_in_neutral K k hk)
  obtain ⟨c0, c1, c2, c3, fz⟩ := K.spots hk
  obtain ⟨-, -, c8⟩ := K.cells
  have i1 : (k : Int) < (P.T : Int) := by omega
  have i0 : (0 : Int) ≤ (k : Int) := by omega
  by_cases h : (spOf x.2 (k : Int)).pc = 0
  · rw [rask_yes h]
    have HF := Lib.hid (K.store hk ⟨1, 1, 0, 0⟩)
    have f0 := fz (k * 4)
    have f1 := fz (k * 4 + 1)
    have f2 := fz (k * 4 + 2)
    have f3 := fz (k * 4 + 3)
    rw [h] at c0
    skip
    clear K fz h
    generalize spOf x.2 (k : Int) = s at *
    unfold put4 at HF
    go_enter Tryz.func291, Tryz.ntmps291
    go_wp2_with fail
    refine (HS.out).mono ?_
    rintro e wx ⟨rfl, hwx⟩
    obtain rfl := hwx.symm
    go_wp2_with fail
    go_ret
    exact ⟨rfl, HF.out.1, HF.out.2⟩
  · rw [rask_no h]
    have HA := Lib.hid (fun (e : Ending) w' (he : e = .returned (.bool false)) (h : Below W.heap.size W w') => RAft.self K he h)
    have e0 := ibne h
    clear K fz h c1 c2 c3
    generalize (spOf x.2 (k : Int)).pc = s at *
    go_enter Tryz.func291, Tryz.ntmps291
    go_wp2_with fail
    refine (HS.out).mono ?_
    rintro e wx ⟨rfl, hwx⟩
    obtain rfl := hwx.symm
    go_wp2_with fail
    go_ret
    exact HA.out _ _ rfl (Below.refl _ _)
theorem ask_readers {L : Nat} {W : World} {c : Rc} {P : Rp} {x : Ar × List Sp} (K : RdA 259 L W c P x) (k : Nat) (hk : k < P.T) : Calls Tryz.prog 315 #[.pointer (some ⟨c.gk, 0, none⟩), .int .i64 (k : Int), .bool true] W (RAft 259 L c P (rask x (k : Int)) W) := by
  have HS := Lib.hid (has_in_readers K k hk)
  obtain ⟨c0, c1, c2, c3, fz⟩ := K.spots hk
  obtain ⟨-, -, c8⟩ := K.cells
  have i1 : (k : Int) < (P.T : Int) := by omega
  have i0 : (0 : Int) ≤ (k : Int) := by omega
  by_cases h : (spOf x.2 (k : Int)).pc = 0
  · rw [rask_yes h]
    have HF := Lib.hid (K.store hk ⟨1, 1, 0, 0⟩)
    have f0 := fz (k * 4)
    have f1 := fz (k * 4 + 1)
    have f2 := fz (k * 4 + 2)
    have f3 := fz (k * 4 + 3)
    rw [h] at c0
    skip
    clear K fz h
    generalize spOf x.2 (k : Int) = s at *
    unfold put4 at HF
    go_enter Tryz.func315, Tryz.ntmps315
    go_wp2_with fail
    refine (HS.out).mono ?_
    rintro e wx ⟨rfl, hwx⟩
    obtain rfl := hwx.symm
    go_wp2_with fail
    go_ret
    exact ⟨rfl, HF.out.1, HF.out.2⟩
  · rw [rask_no h]
    have HA := Lib.hid (fun (e : Ending) w' (he : e = .returned (.bool false)) (h : Below W.heap.size W w') => RAft.self K he h)
    have e0 := ibne h
    clear K fz h c1 c2 c3
    generalize (spOf x.2 (k : Int)).pc = s at *
    go_enter Tryz.func315, Tryz.ntmps315
    go_wp2_with fail
    refine (HS.out).mono ?_
    rintro e wx ⟨rfl, hwx⟩
    obtain rfl := hwx.symm
    go_wp2_with fail
    go_ret
    exact HA.out _ _ rfl (Below.refl _ _)
theorem ask_writers {L : Nat} {W : World} {c : Rc} {P : Rp} {x : Ar × List Sp} (K : RdA 261 L W c P x) (k : Nat) (hk : k < P.T) : Calls Tryz.prog 326 #[.pointer (some ⟨c.gk, 0, none⟩), .int .i64 (k : Int), .bool true] W (RAft 261 L c P (rask x (k : Int)) W) := by
  have HS := Lib.hid (has_in_writers K k hk)
  obtain ⟨c0, c1, c2, c3, fz⟩ := K.spots hk
  obtain ⟨-, -, c8⟩ := K.cells
  have i1 : (k : Int) < (P.T : Int) := by omega
  have i0 : (0 : Int) ≤ (k : Int) := by omega
  by_cases h : (spOf x.2 (k : Int)).pc = 0
  · rw [rask_yes h]
    have hF1 := K.store hk ⟨5, 0, 0, 0⟩
    have hF2 := hF1.1.store hk ⟨1, 1, 0, 0⟩
    simp only [List.set_set] at hF2
    have HF := Lib.hid hF2.1
    have HM := Lib.hid (hF1.2.trans hF2.2)
    have f0 := fz (k * 4)
    have f1 := fz (k * 4 + 1)
    have f2 := fz (k * 4 + 2)
    have f3 := fz (k * 4 + 3)
    obtain ⟨d0, d1, d2, d3, gz⟩ := hF1.1.spots hk
    obtain ⟨-, -, d8⟩ := hF1.1.cells
    rw [show spOf (x.2.set k ⟨5, 0, 0, 0⟩) (k : Int) = ⟨5, 0, 0, 0⟩ by
      rw [spOf_in (by rw [List.length_set, K.len]; exact hk)]
      exact List.getElem_set_self _] at d0 d1 d2 d3
    have g0 := gz (k * 4)
    have g1 := gz (k * 4 + 1)
    have g2 := gz (k * 4 + 2)
    have g3 := gz (k * 4 + 3)
    rw [h] at c0
    clear K fz h gz hF1 hF2
    generalize spOf x.2 (k : Int) = s at *
    unfold put4 at HF HM d0 d1 d2 d3 d8 g0 g1 g2 g3
    simp only at d0 d1 d2 d3 d8 g0 g1 g2 g3
    go_enter Tryz.func326, Tryz.ntmps326
    go_wp2_with fail
    refine (HS.out).mono ?_
    rintro e wx ⟨rfl, hwx⟩
    obtain rfl := hwx.symm
    go_wp2_with fail
    go_ret
    exact ⟨rfl, HF.out, HM.out⟩
  · rw [rask_no h]
    have HA := Lib.hid (fun (e : Ending) w' (he : e = .returned (.bool false)) (h : Below W.heap.size W w') => RAft.self K he h)
    have e0 := ibne h
    clear K fz h c1 c2 c3
    generalize (spOf x.2 (k : Int)).pc = s at *
    go_enter Tryz.func326, Tryz.ntmps326
    go_wp2_with fail
    refine (HS.out).mono ?_
    rintro e wx ⟨rfl, hwx⟩
    obtain rfl := hwx.symm
    go_wp2_with fail
    go_ret
    exact HA.out _ _ rfl (Below.refl _ _)
section
variable {L : Nat} {W : World} {c : Rc} {P : Rp} {x : Ar × List Sp}
theorem leave_readers (K : RdA 259 L W c P x) (k : Nat) (hk : k < P.T) (ha : (spOf x.2 (k : Int)).pc = 10 → (spOf x.2 (k : Int)).a = 1) : Calls Tryz.prog 316 #[.pointer (some ⟨c.gk, 0, none⟩), .int .i64 (k : Int)] W (RAft 259 L c P (rlv x (k : Int)) W) := by
  have HS := Lib.hid (spot_readers K (k : Int))
  have hf := fun a b c d W => sfld a b c d W
  unfold vSp at HS
  by_cases h : (spOf x.2 (k : Int)).pc = 10
  · rw [rlv_yes h]
    have i1 : (k : Int) < (P.T : Int) := by omega
    have HK := Lib.hid (fun W' (h : Below W.heap.size W W') => K.same h)
    have h1 := ha h
    clear K ha
    generalize hsp : spOf x.2 (k : Int) = s at *
    have HSP := Lib.hid hsp
    clear hsp
    obtain ⟨xp, xa, xb, xc⟩ := s
    simp only at HS h h1
    subst h h1
    go_enter Tryz.func316, Tryz.ntmps316
    go_wp2_with fail
    refine HS.out.mono ?_
    rintro e w2 ⟨rfl, hb⟩
    have hb2 := hb.trans ((below_new w2 (.cells #[.int .i64 10, .int .i64 1, .int .i64 xb, .int .i64 xc] 134)).mono hb.size)
    have HB := Lib.hid hb2
    have HK2 := Lib.hid (HK.out _ hb2)
    obtain ⟨c0, -, -, -, fz⟩ := HK2.out.spots hk
    obtain ⟨-, -, c8⟩ := HK2.out.cells
    have f0 := fz (k * 4)
    rw [HSP.out] at c0
    have HF := Lib.hid (HK2.out.pc hk 11)
    rw [HSP.out] at HF
    clear fz hb hb2
    go_wp2_with fail
    go_ret
    exact ⟨rfl, HF.out.1, (Mod.of_below HB.out).trans HF.out.2⟩
  · rw [rlv_no h]
    have HA := Lib.hid (fun (e : Ending) w' (he : e = .returned (.bool false)) (h : Below W.heap.size W w') => RAft.self K he h)
    have e0 := ibne h
    clear K h
    generalize spOf x.2 (k : Int) = s at *
    obtain ⟨xp, xa, xb, xc⟩ := s
    simp only at HS e0
    go_enter Tryz.func316, Tryz.ntmps316
    go_wp2_with fail
    refine HS.out.mono ?_
    rintro e w2 ⟨rfl, hb⟩
    have HB := Lib.hid hb
    clear hb
    go_wp2_with fail
    go_ret
    exact HA.out _ _ rfl (by first | exact HB.out | exact HB.out.alloc HB.out.size _)
theorem leave_writers (K : RdA 261 L W c P x) (k : Nat) (hk : k < P.T) (ha : (spOf x.2 (k : Int)).pc = 10 → (spOf x.2 (k : Int)).a = 1) : Calls Tryz.prog 327 #[.pointer (some ⟨c.gk, 0, none⟩), .int .i64 (k : Int)] W (RAft 261 L c P (rlv x (k : Int)) W) := by
  have HS := Lib.hid (spot_writers K (k : Int))
  have hf := fun a b c d W => sfld a b c d W
  unfold vSp at HS
  by_cases h : (spOf x.2 (k : Int)).pc = 10
  · rw [rlv_yes h]
    have i1 : (k : Int) < (P.T : Int) := by omega
    have HK := Lib.hid (fun W' (h : Below W.heap.size W W') => K.same h)
    have h1 := ha h
    have hz0 := K.sz
    obtain ⟨-, la, lb, lc⟩ := K.lo
    clear K ha
    generalize hsp : spOf x.2 (k : Int) = s at *
    have HSP := Lib.hid hsp
    clear hsp
    obtain ⟨xp, xa, xb, xc⟩ := s
    simp only at HS h h1
    subst h h1
    go_enter Tryz.func327, Tryz.ntmps327
    go_wp2_with fail
    refine HS.out.mono ?_
    rintro e w2 ⟨rfl, hb⟩
    have hb2 := hb.trans ((below_new w2 (.cells #[.int .i64 10, .int .i64 1, .int .i64 xb, .int .i64 xc] 134)).mono hb.size)
    have hbz := hb.size
    have HB := Lib.hid (Below.drew hb2)
    have HX := Lib.hid (show (w2.alloc (.cells #[.int .i64 10, .int .i64 1, .int .i64 xb, .int .i64 xc] 134)).drew.heap[w2.heap.size]? = some (.cells #[.int .i64 10, .int .i64 1, .int .i64 xb, .int .i64 xc] 134 (0, 0)) from blk_new w2 (.cells #[.int .i64 10, .int .i64 1, .int .i64 xb, .int .i64 xc] 134))
    have HK2 := Lib.hid (HK.out _ (Below.drew hb2))
    clear hb hb2
    go_wp2_with fail
    go_upto_region 4 with fail
    obtain ⟨c0, -, -, -, fz⟩ := HK2.out.spots hk
    obtain ⟨-, -, c8⟩ := HK2.out.cells
    have f0 := fz (k * 4)
    have HF := Lib.hid (HK2.out.pc hk 11)
    have q1 := blk_cell HX.out 1 (by simp)
    simp only [List.getElem_toArray, List.getElem_cons_zero, List.getElem_cons_succ] at q1
    rw [HSP.out] at c0 HF
    have c8' := HF.out.1.cells.2.2
    have hne : w2.heap.size ∉ [c.ga, c.ha, c.hs] := by simp; omega
    have HX3 := HF.out.2.blk HX.out hne
    have q3 := blk_cell HX3 1 (by simp)
    simp only [List.getElem_toArray, List.getElem_cons_zero, List.getElem_cons_succ] at q3
    clear HX HX3 fz
    refine wp_region_held_drew (S := fun V => V.cell? ⟨c.gk, 6, none⟩ = some (.slice (some ⟨c.hs, 0, none⟩) P.T P.T) ∧ V.cell? ⟨w2.heap.size, 1, none⟩ = some (.int .i64 1)) (by kernel_rfl) ⟨c8, q1⟩ (fun hHeld => ?_)
    generalize (w2.alloc (.cells #[.int .i64 10, .int .i64 1, .int .i64 xb, .int .i64 xc] 134)).drew = Wd at *
    refine tkC 0 12 ?_
    refine tkC 1 13 ?_
    refine tkC 2 14 ?_
    refine tkC 3 15 ?_
    refine tkC 4 16 ?_
    refine tkC 5 17 ?_
    refine tkC 6 18 ?_
    refine tkC 7 19 ?_
    refine tkC 8 20 ?_
    refine tkC 9 21 ?_
    refine wpAnyH_ready (rs := [10]) (by kernel_rfl) (by simp) ?_
    refine AllReadyH.cons rfl (fun K hK => ?_) AllReadyH.nil
    go_simp
    refine hK.out _ _ ⟨c8', q3⟩ (fun hHeld => ?_)
    refine wpAnyH_done (by kernel_rfl) ?_ _
    go_wp2_with fail
    go_ret
    exact ⟨rfl, HF.out.1, (Mod.of_below HB.out).trans HF.out.2⟩
  · rw [rlv_no h]
    have HA := Lib.hid (fun (e : Ending) w' (he : e = .returned (.bool false)) (h : Below W.heap.size W w') => RAft.self K he h)
    have e0 := ibne h
    clear K h
    generalize spOf x.2 (k : Int) = s at *
    obtain ⟨xp, xa, xb, xc⟩ := s
    simp only at HS e0
    go_enter Tryz.func327, Tryz.ntmps327
    go_wp2_with fail
    refine HS.out.mono ?_
    rintro e w2 ⟨rfl, hb⟩
    have HB := Lib.hid hb
    clear hb
    go_wp2_with fail
    go_ret
    exact HA.out _ _ rfl (by first | exact HB.out | exact HB.out.alloc HB.out.size _)
theorem leave_neutral (K : RdA 254 L W c P x) (k : Nat) (hk : k < P.T) (ha : (spOf x.2 (k : Int)).pc = 10 → (spOf x.2 (k : Int)).a = 1) : Calls Tryz.prog 292 #[.pointer (some ⟨c.gk, 0, none⟩), .int .i64 (k : Int)] W (RAft 254 L c P (rlv x (k : Int)) W) := by
  have HS := Lib.hid (spot_neutral K (k : Int))
  have hf := fun a b c d W => sfld a b c d W
  unfold vSp at HS
  by_cases h : (spOf x.2 (k : Int)).pc = 10
  · rw [rlv_yes h]
    have i1 : (k : Int) < (P.T : Int) := by omega
    have HK := Lib.hid (fun W' (h : Below W.heap.size W W') => K.same h)
    have h1 := ha h
    clear K ha
    generalize hsp : spOf x.2 (k : Int) = s at *
    have HSP := Lib.hid hsp
    clear hsp
    obtain ⟨xp, xa, xb, xc⟩ := s
    simp only at HS h h1
    subst h h1
    go_enter Tryz.func292, Tryz.ntmps292
    go_wp2_with fail
    refine HS.out.mono ?_
    rintro e w2 ⟨rfl, hb⟩
    have HB := Lib.hid (Below.drew hb)
    have HK2 := Lib.hid (HK.out _ (Below.drew hb))
    clear hb
    go_upto_region 3 with fail
    obtain ⟨c0, c1, -, -, fz⟩ := HK2.out.spots hk
    obtain ⟨-, -, c8⟩ := HK2.out.cells
    have f0 := fz (k * 4)
    have HF := Lib.hid (HK2.out.pc hk 11)
    rw [HSP.out] at c0 c1 HF
    have c8' := HF.out.1.cells.2.2
    have c1' := (HF.out.1.spots hk).2.1
    rw [show spOf (x.2.set k { (⟨10, 1, xb, xc⟩ : Sp) with pc := 11 }) (k : Int) = ⟨11, 1, xb, xc⟩ by
      rw [spOf_in (by rw [List.length_set, HK2.out.len]; exact hk)]
      exact List.getElem_set_self _] at c1'
    clear fz
    refine wp_region_held_drew (S := fun V => V.cell? ⟨c.gk, 6, none⟩ = some (.slice (some ⟨c.hs, 0, none⟩) P.T P.T) ∧ V.cell? ⟨c.hs, k * 4 + 1, none⟩ = some (.int .i64 1)) (by kernel_rfl) ⟨c8, c1⟩ (fun hHeld => ?_)
    generalize w2.drew = Wd at *
    refine tkC 0 10 ?_
    refine tkC 1 11 ?_
    refine tkC 2 12 ?_
    refine tkC 3 13 ?_
    refine tkC 4 14 ?_
    refine tkC 5 15 ?_
    refine tkC 6 16 ?_
    refine tkC 7 17 ?_
    refine tkC 8 18 ?_
    refine tkC 9 19 ?_
    refine tkC 10 20 ?_
    refine tkC 11 21 ?_
    refine tkC 12 22 ?_
    refine tkC 13 23 ?_
    refine tkC 14 24 ?_
    refine tkC 15 25 ?_
    refine wpAnyH_ready (rs := [16]) (by kernel_rfl) (by simp) ?_
    refine AllReadyH.cons rfl (fun K hK => ?_) AllReadyH.nil
    go_simp
    refine hK.out _ _ ⟨c8', c1'⟩ (fun hHeld => ?_)
    refine wpAnyH_done (by kernel_rfl) ?_ _
    go_wp2_with fail
    go_ret
    exact ⟨rfl, HF.out.1, (Mod.of_below HB.out).trans HF.out.2⟩
  · rw [rlv_no h]
    have HA := Lib.hid (fun (e : Ending) w' (he : e = .returned (.bool false)) (h : Below W.heap.size W w') => RAft.self K he h)
    have e0 := ibne h
    clear K h
    generalize spOf x.2 (k : Int) = s at *
    obtain ⟨xp, xa, xb, xc⟩ := s
    simp only at HS e0
    go_enter Tryz.func292, Tryz.ntmps292
    go_wp2_with fail
    refine HS.out.mono ?_
    rintro e w2 ⟨rfl, hb⟩
    have HB := Lib.hid hb
    clear hb
    go_wp2_with fail
    go_ret
    exact HA.out _ _ rfl (by first | exact HB.out | exact HB.out.alloc HB.out.size _)
end
end Go.Proofs.YtfmiioddhpkdkaaGreat.Rw

/- Locks of readers and writers: a reader's Step: that prefers nobody. -/
namespace Go.Proofs.YtfmiioddhpkdkaaGreat.Rw
open Go.RowKit Ara Lok Ga Lk Wr

theorem rstp_eq {P : Rp} {x : Ar × List Sp} {k : Nat} {pc n : Int} {σ' : Ar} (h : (spOf x.2 (k : Int)).pc = pc) (hw : rword P x.1 k pc = σ') (hn : rpc P pc = n) : rstp P x (k : Int) = (decide (n = 10) || decide (n = 0), (σ', x.2.set k { spOf x.2 (k : Int) with pc := n })) := by
  unfold rstp
  rw [h, hn, Int.toNat_natCast, hw]
theorem ok_pcs {P : Rp} {x : Ar × List Sp} {m : Nat} (h : OkR P x m) {t : Int} (hs : gst (spOf x.2 t) = 1 ∨ gst (spOf x.2 t) = 3) : ((1 ≤ (spOf x.2 t).pc ∧ (spOf x.2 t).pc ≤ lastR P.m) ∨ (spOf x.2 t).pc = 11) ∧ (spOf x.2 t).a = 1 := by
  have hp := h.pcs t
  have h0 : (spOf x.2 t).pc ≠ 0 := fun e => by unfold gst at hs; rw [if_pos e] at hs; omega
  have h10 : (spOf x.2 t).pc ≠ 10 := fun e => by unfold gst at hs; rw [if_neg (by omega), if_neg (by omega), if_pos e] at hs; omega
  exact ⟨by omega, h.rd t h0⟩
section
variable {L : Nat} {W : World} {c : Rc} {P : Rp} {x : Ar × List Sp}
theorem does_enter (K : RdA 254 L W c P x) (O : RpOk P) (ho : x.1.ops ≤ 1000000) (k : Nat) (hk : k < P.T) (h : (spOf x.2 (k : Int)).pc = 1) : Calls Tryz.prog 298 #[.pointer (some ⟨c.gk, 0, none⟩), .int .i64 (k : Int)] W fun e w' => e = .returned (.bool true) ∧ RdA 254 L w' c P (bump x.1 (P.f + 2 * (P.nd k : Int) + 0), x.2) ∧ Mod [c.ga, c.ha, c.hs] W w' := by
  have hb := below_new W (.cells #[.pointer (some ⟨c.gk, 0, none⟩)] 210)
  have K1 := K.same hb
  have hmf : ∀ (fn : Fn) (first cap : Array Value) (w : World), (Instr.makeFunc fn first cap).run Tryz.prog w = .ok (.func fn first cap) w := fun _ _ _ _ => rfl
  have hnd := O.nd k hk
  have hf1 := O.f1
  have hnn := O.nn
  have HN := Lib.hid (K1.node hk)
  have HG := Lib.hid (Gg.Enter_gg c.gg c.ga P.f P.NN _ K1.gb c.ha x.1 K1.ar ho (P.nd k : Int) (by omega) (by omega) (by omega) (by omega))
  obtain ⟨⟨-, c1, c2⟩, -, c8⟩ := K1.cells
  obtain ⟨p0, -, -, -, -⟩ := K1.spots hk
  have i1 : (k : Int) < (P.T : Int) := by omega
  have HK1 := Lib.hid K1
  have HB := Lib.hid hb
  rw [h] at p0
  clear K K1 hb O ho h hnd hf1 hnn
  go_enter Tryz.func298, Tryz.ntmps298
  go_wp2_with fail
  refine (HN.out).mono ?_
  rintro e wx ⟨rfl, hwx⟩
  obtain rfl := hwx.symm
  go_wp2_with fail
  refine HG.out.mono ?_
  rintro e w2 ⟨rfl, ha2, hm2⟩
  have H2 := Lib.hid (HK1.out.word ha2 hm2)
  clear ha2 hm2
  go_wp2_with fail
  go_ret
  exact ⟨rfl, H2.out.1, (Mod.of_below HB.out).trans H2.out.2⟩
theorem does_exit (K : RdA 254 L W c P x) (O : RpOk P) (ho : x.1.ops ≤ 1000000) (k : Nat) (hk : k < P.T) (h : (spOf x.2 (k : Int)).pc = 11) : Calls Tryz.prog 298 #[.pointer (some ⟨c.gk, 0, none⟩), .int .i64 (k : Int)] W fun e w' => e = .returned (.bool true) ∧ RdA 254 L w' c P (bump x.1 (P.f + 2 * (P.nd k : Int) + 1), x.2) ∧ Mod [c.ga, c.ha, c.hs] W w' := by
  have hb := below_new W (.cells #[.pointer (some ⟨c.gk, 0, none⟩)] 210)
  have K1 := K.same hb
  have hmf : ∀ (fn : Fn) (first cap : Array Value) (w : World), (Instr.makeFunc fn first cap).run Tryz.prog w = .ok (.func fn first cap) w := fun _ _ _ _ => rfl
  have hnd := O.nd k hk
  have hf1 := O.f1
  have hnn := O.nn
  have HN := Lib.hid (K1.node hk)
  have HG := Lib.hid (Gg.Exit_gg c.gg c.ga P.f P.NN _ K1.gb c.ha x.1 K1.ar ho (P.nd k : Int) (by omega) (by omega) (by omega) (by omega))
  obtain ⟨⟨-, c1, c2⟩, -, c8⟩ := K1.cells
  obtain ⟨p0, -, -, -, -⟩ := K1.spots hk
  have i1 : (k : Int) < (P.T : Int) := by omega
  have HK1 := Lib.hid K1
  have HB := Lib.hid hb
  rw [h] at p0
  clear K K1 hb O ho h hnd hf1 hnn
  go_enter Tryz.func298, Tryz.ntmps298
  go_wp2_with fail
  refine (HN.out).mono ?_
  rintro e wx ⟨rfl, hwx⟩
  obtain rfl := hwx.symm
  go_wp2_with fail
  refine HG.out.mono ?_
  rintro e w2 ⟨rfl, ha2, hm2⟩
  have H2 := Lib.hid (HK1.out.word ha2 hm2)
  clear ha2 hm2
  go_wp2_with fail
  go_ret
  exact ⟨rfl, H2.out.1, (Mod.of_below HB.out).trans H2.out.2⟩
theorem next_1 (w : World) : Calls Tryz.prog 299 #[.int .i64 1] w fun e w' => e = .returned (.int .i64 2) ∧ w' = w := by
  go_enter Tryz.func299, Tryz.ntmps299
  go_wp2_with fail
  go_ret
  exact ⟨rfl, rfl⟩
theorem next_11 (w : World) : Calls Tryz.prog 299 #[.int .i64 11] w fun e w' => e = .returned (.int .i64 0) ∧ w' = w := by
  go_enter Tryz.func299, Tryz.ntmps299
  go_wp2_with fail
  go_ret
  exact ⟨rfl, rfl⟩
theorem step_enter (K : RdA 254 L W c P x) (O : RpOk P) (ho : x.1.ops ≤ 1000000) (k : Nat) (hk : k < P.T) (h : (spOf x.2 (k : Int)).pc = 1) : Calls Tryz.prog 295 #[.pointer (some ⟨c.gk, 0, none⟩), .int .i64 (k : Int)] W (RAft 254 L c P (decide ((2 : Int) = 10) || decide ((2 : Int) = 0), (bump x.1 (P.f + 2 * (P.nd k : Int) + 0), x.2.set k { spOf x.2 (k : Int) with pc := 2 })) W) := by
  have HD := Lib.hid (fun W' (K' : RdA 254 L W' c P x) => does_enter K' O ho k hk h)
  have HX := Lib.hid (fun W => next_1 W)
  have hq := h
  have HS := Lib.hid (spot_neutral K (k : Int))
  have hf := fun a b c d W => sfld a b c d W
  unfold vSp at HS
  have i1 : (k : Int) < (P.T : Int) := by omega
  have HK := Lib.hid (fun W' (h : Below W.heap.size W W') => K.same h)
  generalize hsp : spOf x.2 (k : Int) = s at *
  have HSP := Lib.hid hsp
  clear hsp
  obtain ⟨xp, xa, xb, xc⟩ := s
  simp only at HS h
  subst h
  go_enter Tryz.func295, Tryz.ntmps295
  go_wp2_with fail
  refine HS.out.mono ?_
  rintro e w2 ⟨rfl, hb⟩
  have HB := Lib.hid hb
  obtain ⟨-, -, c8⟩ := (HK.out _ hb).cells
  clear hb K O
  go_upto_region 6 with fail
  go_quiet (fail)
  have HB3 := Lib.hid (below_drewN HB.out nq)
  have HK3 := Lib.hid (HK.out _ HB3.out)
  have HD3 := Lib.hid (HD.out _ HK3.out)
  clear HD HK HB c8
  generalize w2.drewN nq = W3 at *
  go_wp2_with fail
  refine HD3.out.mono ?_
  rintro e w4 ⟨rfl, hk4, hm4⟩
  obtain ⟨c0, -, -, -, fz⟩ := hk4.spots hk
  have f0 := fz (k * 4)
  have HF := Lib.hid (hk4.pc hk 2)
  have HM := Lib.hid ((Mod.of_below HB3.out).trans hm4)
  simp only at c0 HF
  rw [HSP.out] at c0 HF
  clear hk4 hm4 fz HD3 HK3
  go_wp2_with fail
  refine (HX.out _).mono ?_
  rintro e wx ⟨rfl, hwx⟩
  obtain rfl := hwx.symm
  go_wp2_with fail
  go_ret
  exact ⟨rfl, HF.out.1, HM.out.trans HF.out.2⟩
theorem step_exit (K : RdA 254 L W c P x) (O : RpOk P) (ho : x.1.ops ≤ 1000000) (k : Nat) (hk : k < P.T) (h : (spOf x.2 (k : Int)).pc = 11) : Calls Tryz.prog 295 #[.pointer (some ⟨c.gk, 0, none⟩), .int .i64 (k : Int)] W (RAft 254 L c P (decide ((0 : Int) = 10) || decide ((0 : Int) = 0), (bump x.1 (P.f + 2 * (P.nd k : Int) + 1), x.2.set k { spOf x.2 (k : Int) with pc := 0 })) W) := by
  have HD := Lib.hid (fun W' (K' : RdA 254 L W' c P x) => does_exit K' O ho k hk h)
  have HX := Lib.hid (fun W => next_11 W)
  have hq := h
  have HS := Lib.hid (spot_neutral K (k : Int))
  have hf := fun a b c d W => sfld a b c d W
  unfold vSp at HS
  have i1 : (k : Int) < (P.T : Int) := by omega
  have HK := Lib.hid (fun W' (h : Below W.heap.size W W') => K.same h)
  generalize hsp : spOf x.2 (k : Int) = s at *
  have HSP := Lib.hid hsp
  clear hsp
  obtain ⟨xp, xa, xb, xc⟩ := s
  simp only at HS h
  subst h
  go_enter Tryz.func295, Tryz.ntmps295
  go_wp2_with fail
  refine HS.out.mono ?_
  rintro e w2 ⟨rfl, hb⟩
  have HB := Lib.hid hb
  obtain ⟨-, -, c8⟩ := (HK.out _ hb).cells
  clear hb K O
  go_upto_region 6 with fail
  go_quiet (fail)
  have HB3 := Lib.hid (below_drewN HB.out nq)
  have HK3 := Lib.hid (HK.out _ HB3.out)
  have HD3 := Lib.hid (HD.out _ HK3.out)
  clear HD HK HB c8
  generalize w2.drewN nq = W3 at *
  go_wp2_with fail
  refine HD3.out.mono ?_
  rintro e w4 ⟨rfl, hk4, hm4⟩
  obtain ⟨c0, -, -, -, fz⟩ := hk4.spots hk
  have f0 := fz (k * 4)
  have HF := Lib.hid (hk4.pc hk 0)
  have HM := Lib.hid ((Mod.of_below HB3.out).trans hm4)
  simp only at c0 HF
  rw [HSP.out] at c0 HF
  clear hk4 hm4 fz HD3 HK3
  go_wp2_with fail
  refine (HX.out _).mono ?_
  rintro e wx ⟨rfl, hwx⟩
  obtain rfl := hwx.symm
  go_wp2_with fail
  go_ret
  exact ⟨rfl, HF.out.1, HM.out.trans HF.out.2⟩
theorem step_load (K : RdA 254 L W c P x) (ho : x.1.ops ≤ 1000000) (hz : x.1.get P.fl = 0) (k : Nat) (hk : k < P.T) (h : (spOf x.2 (k : Int)).pc = 2) : Calls Tryz.prog 295 #[.pointer (some ⟨c.gk, 0, none⟩), .int .i64 (k : Int)] W (RAft 254 L c P (true, (x.1.op 1 P.fl false 0, x.2.set k { spOf x.2 (k : Int) with pc := 10 })) W) := by
  have HS := Lib.hid (spot_neutral K (k : Int))
  have hf := fun a b c d W => sfld a b c d W
  unfold vSp at HS
  have i1 : (k : Int) < (P.T : Int) := by omega
  have HK := Lib.hid (fun W' (h : Below W.heap.size W W') => K.same h)
  generalize hsp : spOf x.2 (k : Int) = s at *
  have HSP := Lib.hid hsp
  clear hsp
  obtain ⟨xp, xa, xb, xc⟩ := s
  simp only at HS h
  subst h
  go_enter Tryz.func295, Tryz.ntmps295
  go_wp2_with fail
  refine HS.out.mono ?_
  rintro e w2 ⟨rfl, hb⟩
  have HB := Lib.hid (Below.drew hb)
  have HK3 := Lib.hid (HK.out _ (Below.drew hb))
  obtain ⟨-, -, c8⟩ := (HK.out _ hb).cells
  clear hb K HK
  go_upto_region 6 with fail
  clear c8
  have SW : w2.drew.cell? ⟨c.gk, 0, none⟩ = some (.pointer (some ⟨c.ga, 0, none⟩)) ∧ w2.drew.cell? ⟨c.gk, 4, none⟩ = some (.int .i64 P.fl) := ⟨HK3.out.cells.1.1, HK3.out.cells.2.1⟩
  refine wp_region_held_drew (S := fun V => V.cell? ⟨c.gk, 0, none⟩ = some (.pointer (some ⟨c.ga, 0, none⟩)) ∧ V.cell? ⟨c.gk, 4, none⟩ = some (.int .i64 P.fl)) (by kernel_rfl) SW (fun hHeld => ?_)
  generalize w2.drew = W3 at *
  have hLd := load_any c.ga c.ha x.1 W3 HK3.out.ar ho P.fl
  rw [hz] at hLd
  have HLd := Lib.hid hLd
  clear hLd
  refine tkC 0 24 ?_
  refine tkC 1 25 ?_
  refine tkC 2 26 ?_
  refine tkC 3 27 ?_
  refine tkC 4 28 ?_
  refine tkC 5 29 ?_
  refine tkC 6 30 ?_
  refine tkC 7 31 ?_
  refine tkC 8 32 ?_
  refine tkC 9 33 ?_
  refine tkC 10 34 ?_
  refine wpAnyH_ready (rs := [11]) (by kernel_rfl) (by simp) ?_
  refine AllReadyH.cons rfl (fun K hK => ?_) AllReadyH.nil
  go_simp
  refine HLd.out.mono ?_
  rintro e w4 ⟨rfl, ha4, hm4⟩
  have H4 := HK3.out.word ha4 hm4
  have SW4 : w4.cell? ⟨c.gk, 0, none⟩ = some (.pointer (some ⟨c.ga, 0, none⟩)) ∧ w4.cell? ⟨c.gk, 4, none⟩ = some (.int .i64 P.fl) := ⟨H4.1.cells.1.1, H4.1.cells.2.1⟩
  obtain ⟨c0, -, -, -, fz⟩ := H4.1.spots hk
  have f0 := fz (k * 4)
  have HF := Lib.hid (H4.1.pc hk 10)
  have HM := Lib.hid ((Mod.of_below HB.out).trans H4.2)
  simp only at c0 HF
  rw [HSP.out] at c0 HF
  clear ha4 hm4 H4 fz HK3 HLd SW HB
  go_simp
  refine hK.out _ _ SW4 (fun hHeld => ?_)
  refine tkC 12 36 ?_
  refine tkC 13 37 ?_
  refine tkC 14 23 ?_
  refine wpAnyH_done (by kernel_rfl) ?_ _
  clear SW4
  go_wp2_with fail
  go_ret
  exact ⟨rfl, HF.out.1, HM.out.trans HF.out.2⟩
theorem step_neutral (K : RdA 254 L W c P x) (O : RpOk P) (hm : P.m ≠ 3) {mm : Nat} (ok : OkR P x mm) (ho : mm ≤ 1000000) (k : Nat) (hk : k < P.T) (hs : gst (spOf x.2 (k : Int)) = 1 ∨ gst (spOf x.2 (k : Int)) = 3) : Calls Tryz.prog 295 #[.pointer (some ⟨c.gk, 0, none⟩), .int .i64 (k : Int)] W (RAft 254 L c P (rstp P x (k : Int)) W) := by
  have hl : lastR P.m = 2 := by unfold lastR; rw [if_neg hm]
  have he : entR P.m = 1 := by unfold entR; rw [if_neg hm]
  have h1 := (ok_pcs ok hs).1
  have hops := ok.ops
  rw [hl] at h1
  have hc : (spOf x.2 (k : Int)).pc = 1 ∨ (spOf x.2 (k : Int)).pc = 2 ∨ (spOf x.2 (k : Int)).pc = 11 := by omega
  rcases hc with h | h | h
  · rw [rstp_eq h (σ' := bump x.1 (P.f + 2 * (P.nd k : Int) + 0)) (n := 2) (by unfold rword; rw [if_neg (by omega), if_pos he.symm]) (by unfold rpc rnext; rw [if_neg (by omega), hl, if_neg (by omega)]; rfl)]
    exact step_enter K O (by omega) k hk h
  · rw [rstp_eq h (σ' := x.1.op 1 P.fl false 0) (n := 10) (by unfold rword; rw [if_neg (by omega), he, if_neg (by omega)]) (by unfold rpc rnext; rw [if_neg (by omega), hl, if_pos rfl])]
    exact step_load K (by omega) ok.fl0 k hk h
  · rw [rstp_eq h (σ' := bump x.1 (P.f + 2 * (P.nd k : Int) + 1)) (n := 0) (by unfold rword; rw [if_pos rfl]) (by unfold rpc; rw [if_pos rfl])]
    exact step_exit K O (by omega) k hk h
end
end Go.Proofs.YtfmiioddhpkdkaaGreat.Rw

/- Locks of readers and writers: a reader's Step: that prefers readers. -/
namespace Go.Proofs.YtfmiioddhpkdkaaGreat.Rw
open Go.RowKit Ara Lok Ga Lk Wr

section
variable {L : Nat} {W : World} {c : Rc} {P : Rp} {x : Ar × List Sp}
theorem reads_enter (K : RdA 259 L W c P x) (O : RpOk P) (ho : x.1.ops ≤ 1000000) (k : Nat) (hk : k < P.T) : Calls Tryz.prog 322 #[.pointer (some ⟨c.gk, 0, none⟩), .int .i64 1, .int .i64 (P.nd k : Int)] W fun e w' => e = .returned (.int .i64 2) ∧ RdA 259 L w' c P (bump x.1 (P.f + 2 * (P.nd k : Int) + 0), x.2) ∧ Mod [c.ga, c.ha, c.hs] W w' := by
  have hnd := O.nd k hk
  have hf1 := O.f1
  have hnn := O.nn
  have HG := Lib.hid (Gg.Enter_gg c.gg c.ga P.f P.NN _ K.gb c.ha x.1 K.ar ho (P.nd k : Int) (by omega) (by omega) (by omega) (by omega))
  obtain ⟨⟨-, -, c2⟩, -, -⟩ := K.cells
  have HK1 := Lib.hid K
  clear K O ho hnd hf1 hnn
  go_enter Tryz.func322, Tryz.ntmps322
  go_wp2_with fail
  refine HG.out.mono ?_
  rintro e w2 ⟨rfl, ha2, hm2⟩
  have H2 := Lib.hid (HK1.out.word ha2 hm2)
  clear ha2 hm2
  go_wp2_with fail
  go_ret
  exact ⟨rfl, H2.out.1, H2.out.2⟩
theorem reads_exit (K : RdA 259 L W c P x) (O : RpOk P) (ho : x.1.ops ≤ 1000000) (k : Nat) (hk : k < P.T) : Calls Tryz.prog 322 #[.pointer (some ⟨c.gk, 0, none⟩), .int .i64 11, .int .i64 (P.nd k : Int)] W fun e w' => e = .returned (.int .i64 0) ∧ RdA 259 L w' c P (bump x.1 (P.f + 2 * (P.nd k : Int) + 1), x.2) ∧ Mod [c.ga, c.ha, c.hs] W w' := by
  have hnd := O.nd k hk
  have hf1 := O.f1
  have hnn := O.nn
  have HG := Lib.hid (Gg.Exit_gg c.gg c.ga P.f P.NN _ K.gb c.ha x.1 K.ar ho (P.nd k : Int) (by omega) (by omega) (by omega) (by omega))
  obtain ⟨⟨-, -, c2⟩, -, -⟩ := K.cells
  have HK1 := Lib.hid K
  clear K O ho hnd hf1 hnn
  go_enter Tryz.func322, Tryz.ntmps322
  go_wp2_with fail
  refine HG.out.mono ?_
  rintro e w2 ⟨rfl, ha2, hm2⟩
  have H2 := Lib.hid (HK1.out.word ha2 hm2)
  clear ha2 hm2
  go_wp2_with fail
  go_ret
  exact ⟨rfl, H2.out.1, H2.out.2⟩
theorem reads_load (K : RdA 259 L W c P x) (ho : x.1.ops ≤ 1000000) (hz : x.1.get P.fl = 0) (v : Value) : Calls Tryz.prog 322 #[.pointer (some ⟨c.gk, 0, none⟩), .int .i64 2, v] W fun e w' => e = .returned (.int .i64 10) ∧ RdA 259 L w' c P (x.1.op 1 P.fl false 0, x.2) ∧ Mod [c.ga, c.ha, c.hs] W w' := by
  have HB := Lib.hid (Below.drew (Below.refl W.heap.size W))
  have HK3 := Lib.hid K.drew
  clear K
  go_enter Tryz.func322, Tryz.ntmps322
  go_wp2_with fail
  go_upto_region 6 with fail
  have SW : W.drew.cell? ⟨c.gk, 0, none⟩ = some (.pointer (some ⟨c.ga, 0, none⟩)) ∧ W.drew.cell? ⟨c.gk, 4, none⟩ = some (.int .i64 P.fl) := ⟨HK3.out.cells.1.1, HK3.out.cells.2.1⟩
  refine wp_region_held_drew (S := fun V => V.cell? ⟨c.gk, 0, none⟩ = some (.pointer (some ⟨c.ga, 0, none⟩)) ∧ V.cell? ⟨c.gk, 4, none⟩ = some (.int .i64 P.fl)) (by kernel_rfl) SW (fun hHeld => ?_)
  generalize W.drew = W3 at *
  have hLd := load_any c.ga c.ha x.1 W3 HK3.out.ar ho P.fl
  rw [hz] at hLd
  have HLd := Lib.hid hLd
  clear hLd
  refine tkC 0 18 ?_
  refine tkC 1 19 ?_
  refine tkC 2 20 ?_
  refine tkC 3 21 ?_
  refine tkC 4 22 ?_
  refine tkC 5 23 ?_
  refine tkC 6 24 ?_
  refine tkC 7 25 ?_
  refine wpAnyH_ready (rs := [8]) (by kernel_rfl) (by simp) ?_
  refine AllReadyH.cons rfl (fun K hK => ?_) AllReadyH.nil
  go_simp
  refine HLd.out.mono ?_
  rintro e w4 ⟨rfl, ha4, hm4⟩
  have H4 := HK3.out.word ha4 hm4
  have SW4 : w4.cell? ⟨c.gk, 0, none⟩ = some (.pointer (some ⟨c.ga, 0, none⟩)) ∧ w4.cell? ⟨c.gk, 4, none⟩ = some (.int .i64 P.fl) := ⟨H4.1.cells.1.1, H4.1.cells.2.1⟩
  have HF := Lib.hid H4.1
  have HM := Lib.hid ((Mod.of_below HB.out).trans H4.2)
  clear ha4 hm4 H4 HK3 HLd SW HB
  go_simp
  refine hK.out _ _ SW4 (fun hHeld => ?_)
  refine tkC 9 27 ?_
  refine wpAnyH_done (by kernel_rfl) ?_ _
  clear SW4
  go_wp2_with fail
  go_ret
  exact ⟨rfl, HF.out, HM.out⟩
theorem step_by (K : RdA 259 L W c P x) (k : Nat) (hk : k < P.T) (pc n : Int) (hpc : pc ≠ 0 ∧ pc ≠ 10) (h : (spOf x.2 (k : Int)).pc = pc) (ha : (spOf x.2 (k : Int)).a = 1) (σ' : Ar)
    (HD : ∀ W, RdA 259 L W c P x → Calls Tryz.prog 322 #[.pointer (some ⟨c.gk, 0, none⟩), .int .i64 pc, .int .i64 (P.nd k : Int)] W fun e w' => e = .returned (.int .i64 n) ∧ RdA 259 L w' c P (σ', x.2) ∧ Mod [c.ga, c.ha, c.hs] W w') :
    Calls Tryz.prog 319 #[.pointer (some ⟨c.gk, 0, none⟩), .int .i64 (k : Int)] W (RAft 259 L c P (decide (n = 10) || decide (n = 0), (σ', x.2.set k { spOf x.2 (k : Int) with pc := n })) W) := by
  generalize hw : (decide (n = 10) || decide (n = 0)) = rb
  replace hw := Lib.hid hw
  have HDh := Lib.hid HD
  have HS := Lib.hid (spot_readers K (k : Int))
  unfold vSp at HS
  have i1 : (k : Int) < (P.T : Int) := by omega
  have HK := Lib.hid (fun W' (h : Below W.heap.size W W') => K.same h)
  have e0 := ibeq_no hpc.1
  have e1 := ibeq_no hpc.2
  have hz0 := K.sz
  obtain ⟨-, la, lb, lc⟩ := K.lo
  generalize hsp : spOf x.2 (k : Int) = s at *
  have HSP := Lib.hid hsp
  clear hsp HD K hpc
  obtain ⟨xp, xa, xb, xc⟩ := s
  simp only at HS h ha
  subst h ha
  go_enter Tryz.func319, Tryz.ntmps319
  go_wp2_with fail
  refine HS.out.mono ?_
  rintro e w2 ⟨rfl, hb⟩
  have hbz := hb.size
  have hb2 := hb.trans ((below_new w2 (.cells #[.int .i64 xp, .int .i64 1, .int .i64 xb, .int .i64 xc] 134)).mono hb.size)
  have HB := Lib.hid (Below.drew hb2)
  have HX := Lib.hid (show (w2.alloc (.cells #[.int .i64 xp, .int .i64 1, .int .i64 xb, .int .i64 xc] 134)).drew.heap[w2.heap.size]? = some (.cells #[.int .i64 xp, .int .i64 1, .int .i64 xb, .int .i64 xc] 134 (0, 0)) from blk_new w2 (.cells #[.int .i64 xp, .int .i64 1, .int .i64 xb, .int .i64 xc] 134))
  have HK2 := Lib.hid (HK.out _ (Below.drew hb2))
  clear hb hb2 HK
  go_upto_region 6 with fail
  have hne : w2.heap.size ∉ [c.ga, c.ha, c.hs] := by simp; omega
  have q0 := blk_cell HX.out 0 (by simp)
  simp only [List.getElem_toArray, List.getElem_cons_zero, List.getElem_cons_succ] at q0
  have SW := And.intro q0 HK2.out.cells.1.2.1
  clear q0
  refine wp_region_held_drew (S := fun V => V.cell? ⟨w2.heap.size, 0, none⟩ = some (.int .i64 xp) ∧ V.cell? ⟨c.gk, 1, none⟩ = some (.pointer (some ⟨c.gt, 0, none⟩))) (by kernel_rfl) SW (fun hHeld => ?_)
  generalize (w2.alloc (.cells #[.int .i64 xp, .int .i64 1, .int .i64 xb, .int .i64 xc] 134)).drew = W3 at *
  have HN := Lib.hid (HK2.out.node hk)
  have HD3 := Lib.hid (HDh.out W3 HK2.out)
  refine tkC 0 21 ?_
  refine tkC 1 22 ?_
  refine tkC 2 23 ?_
  refine tkC 3 24 ?_
  refine tkC 4 25 ?_
  refine tkC 5 26 ?_
  refine tkC 6 27 ?_
  refine tkC 7 28 ?_
  refine wpAnyH_ready (rs := [8]) (by kernel_rfl) (by simp) ?_
  refine AllReadyH.cons rfl (fun K hK => ?_) AllReadyH.nil
  go_simp
  refine HN.out.mono ?_
  rintro e wx ⟨rfl, hwx⟩
  obtain rfl := hwx.symm
  go_simp
  refine hK.out _ _ SW (fun hHeld => ?_)
  refine wpAnyH_ready (rs := [9]) (by kernel_rfl) (by simp) ?_
  refine AllReadyH.cons rfl (fun K hK => ?_) AllReadyH.nil
  go_simp
  refine HD3.out.mono ?_
  rintro e w4 ⟨rfl, hk4, hm4⟩
  have HX4 := hm4.blk HX.out hne
  have q4 := blk_cell HX4 0 (by simp)
  simp only [List.getElem_toArray, List.getElem_cons_zero, List.getElem_cons_succ] at q4
  have SW4 := And.intro q4 hk4.cells.1.2.1
  obtain ⟨c0, -, -, -, fz⟩ := hk4.spots hk
  obtain ⟨-, -, c8⟩ := hk4.cells
  have f0 := fz (k * 4)
  have HF := Lib.hid (hk4.pc hk n)
  have HM := Lib.hid ((Mod.of_below HB.out).trans hm4)
  simp only at c0 HF
  rw [HSP.out] at c0 HF
  clear hk4 hm4 fz HK2 HD3 HDh SW HB HX HX4 q4 HN hne
  go_simp
  refine hK.out _ _ SW4 (fun hHeld => ?_)
  refine tkC 10 6 ?_
  refine wpAnyH_done (by kernel_rfl) ?_ _
  clear SW4
  by_cases h10 : n = 10
  · subst h10
    obtain rfl : true = rb := hw.out
    go_wp2_with fail
    go_ret
    exact ⟨rfl, HF.out.1, HM.out.trans HF.out.2⟩
  · have m10 := ibeq_no h10
    by_cases h0 : n = 0
    · subst h0
      obtain rfl : true = rb := hw.out
      go_wp2_with fail
      go_ret
      exact ⟨rfl, HF.out.1, HM.out.trans HF.out.2⟩
    · have m0 := ibeq_no h0
      obtain rfl : false = rb := by
        have := hw.out
        rw [decide_eq_false h10, decide_eq_false h0] at this
        exact this
      go_wp2_with fail
      go_ret
      exact ⟨rfl, HF.out.1, HM.out.trans HF.out.2⟩
theorem step_readers (K : RdA 259 L W c P x) (O : RpOk P) (hm : P.m ≠ 3) {mm : Nat} (ok : OkR P x mm) (ho : mm ≤ 1000000) (k : Nat) (hk : k < P.T) (hs : gst (spOf x.2 (k : Int)) = 1 ∨ gst (spOf x.2 (k : Int)) = 3) : Calls Tryz.prog 319 #[.pointer (some ⟨c.gk, 0, none⟩), .int .i64 (k : Int)] W (RAft 259 L c P (rstp P x (k : Int)) W) := by
  have hl : lastR P.m = 2 := by unfold lastR; rw [if_neg hm]
  have he : entR P.m = 1 := by unfold entR; rw [if_neg hm]
  obtain ⟨h1, h2⟩ := ok_pcs ok hs
  have hops := ok.ops
  rw [hl] at h1
  have hc : (spOf x.2 (k : Int)).pc = 1 ∨ (spOf x.2 (k : Int)).pc = 2 ∨ (spOf x.2 (k : Int)).pc = 11 := by omega
  rcases hc with h | h | h
  · rw [rstp_eq h (σ' := bump x.1 (P.f + 2 * (P.nd k : Int) + 0)) (n := 2) (by unfold rword; rw [if_neg (by omega), if_pos he.symm]) (by unfold rpc rnext; rw [if_neg (by omega), hl, if_neg (by omega)]; rfl)]
    exact step_by K k hk 1 2 (by decide) h h2 _ fun W' K' => reads_enter K' O (by omega) k hk
  · rw [rstp_eq h (σ' := x.1.op 1 P.fl false 0) (n := 10) (by unfold rword; rw [if_neg (by omega), he, if_neg (by omega)]) (by unfold rpc rnext; rw [if_neg (by omega), hl, if_pos rfl])]
    exact step_by K k hk 2 10 (by decide) h h2 _ fun W' K' => reads_load K' (by omega) ok.fl0 _
  · rw [rstp_eq h (σ' := bump x.1 (P.f + 2 * (P.nd k : Int) + 1)) (n := 0) (by unfold rword; rw [if_pos rfl]) (by unfold rpc; rw [if_pos rfl])]
    exact step_by K k hk 11 0 (by decide) h h2 _ fun W' K' => reads_exit K' O (by omega) k hk
end
end Go.Proofs.YtfmiioddhpkdkaaGreat.Rw

