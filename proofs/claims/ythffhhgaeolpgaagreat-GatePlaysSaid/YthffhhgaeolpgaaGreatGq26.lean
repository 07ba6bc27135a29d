/- Merged texts: Rgd, Fpe. -/
import Derived.Test.YthffhhgaeolpgaaGreatGq25
import Derived.RegionTactic
import Derived.BigRegion
set_option linter.unusedVariables false
/- The document's gate of layer 21: Do: a thread on its way. -/
namespace Go.Proofs.YthffhhgaeolpgaaGreat.Ga
open Go.RowKit Go.Proofs.YthffhhgaeolpgaaGreat.Ara Go.Proofs.YthffhhgaeolpgaaGreat.Lok Go.Proofs.YthffhhgaeolpgaaGreat.Fl


section
variable {gy gK gL gr base hr : Nat} {p : PK} {ρ : Rf} {sp : List Sp} {w : World} (K : RG w gy gK gL gr base hr p ρ sp) (t want : Int) (ht : ¬ (t < 0 ∨ (sp.length : Int) ≤ t))
include K ht
variable {σ : Ar} (hA : Alk σ ρ) (n m : Nat) (ho : OkK p σ sp n m) (hm : m ≤ 100000) (σ2 : Ar) (sp2 : List Sp)
include hA ho hm
set_option maxHeartbeats 8000000 in
set_option maxRecDepth 100000 in
theorem rdo_1n (hw : want = 0) (hs0 : gst (spOf sp t) = 1) (hd : doK p σ sp 0 t = (false, σ2, sp2)) : Calls Tryz.prog 33 #[.pointer (some ⟨gy, 0, none⟩), .agg #[.int .i64 t, .int .i64 want]] w fun e w' => e = .returned (gev 0 t 0) ∧ (∃ ρ', Alk σ2 ρ' ∧ RG w' gy gK gL gr base hr p ρ' sp2) ∧ RMs base [gr, hr] w w' := by
  have HS := fun W (K : RFL W gK gL gr base hr p ρ sp) => rStep_flat K hA n m ho hm t
  rw [hd] at HS
  replace HS := Lib.hid HS
  have e0 := ibeq hw
  clear hw hA ho hm hd
  have hb1 : Below w.heap.size w (w.alloc (.cells #[.int .i64 t, .int .i64 want] 68)) := below_new _ _
  have hb2 : Below w.heap.size w ((w.alloc (.cells #[.int .i64 t, .int .i64 want] 68)).alloc (.cells #[.int .i64 0, .int .i64 0, .bool false, .int .i64 0] 65)) := hb1.alloc hb1.size _
  have HE := Lib.hid (show ((w.alloc (.cells #[.int .i64 t, .int .i64 want] 68)).alloc (.cells #[.int .i64 0, .int .i64 0, .bool false, .int .i64 0] 65)).heap[w.heap.size + 1]? = some (.cells #[.int .i64 0, .int .i64 0, .bool false, .int .i64 0] 65 (0, 0)) from by simpa using blk_new (w.alloc (.cells #[.int .i64 t, .int .i64 want] 68)) (.cells #[.int .i64 0, .int .i64 0, .bool false, .int .i64 0] 65))
  have HP := Lib.hid (show ((w.alloc (.cells #[.int .i64 t, .int .i64 want] 68)).alloc (.cells #[.int .i64 0, .int .i64 0, .bool false, .int .i64 0] 65)).heap[w.heap.size]? = some (.cells #[.int .i64 t, .int .i64 want] 68 (0, 0)) from (heap_alloc_old _ _ (by simp)).trans (blk_new _ _))
  have hK := K.same hb2
  have ap := Lib.hid K.blocks
  obtain ⟨cc, hSp⟩ := rSpots_q hK.rl
  have HSp := Lib.hid hSp
  have HK := Lib.hid hK
  have HM := Lib.hid (RMs.of_mod (base := base) (Mod.of_below (S := [gr, hr]) hb2))
  have hz2 : ((w.alloc (.cells #[.int .i64 t, .int .i64 want] 68)).alloc (.cells #[.int .i64 0, .int .i64 0, .bool false, .int .i64 0] 65)).heap.size = w.heap.size + 2 := by simp
  obtain ⟨q0, q1⟩ := hK.cells
  obtain ⟨_, _, hl32, _⟩ := hK.rl.at_.facts
  clear K hK hb1 hb2 hSp
  have h0 : decide (t < 0) = false := decide_eq_false (by omega)
  have h1 : decide ((sp.length : Int) ≤ t) = false := decide_eq_false (by omega)
  have h0' : ¬ t < 0 := by omega
  have h1' : ¬ (sp.length : Int) ≤ t := by omega
  have hst := gst_in (spOf sp t)
  clear ht
  go_enter Tryz.func33, Tryz.ntmps33
  go_wp2_with fail
  go_quiet ((go_at_call 23; exact Calls.quiet_of_same (HSp.out _)))
  have HK2 := Lib.hid (HK.out.drewN nq)
  have HM2 := Lib.hid (HM.out.drewN nq)
  have HE2 := Lib.hid (show (((w.alloc (.cells #[.int .i64 t, .int .i64 want] 68)).alloc (.cells #[.int .i64 0, .int .i64 0, .bool false, .int .i64 0] 65)).drewN nq).heap[w.heap.size + 1]? = some (.cells #[.int .i64 0, .int .i64 0, .bool false, .int .i64 0] 65 (0, 0)) from HE.out)
  have HP2 := Lib.hid (show (((w.alloc (.cells #[.int .i64 t, .int .i64 want] 68)).alloc (.cells #[.int .i64 0, .int .i64 0, .bool false, .int .i64 0] 65)).drewN nq).heap[w.heap.size]? = some (.cells #[.int .i64 t, .int .i64 want] 68 (0, 0)) from HP.out)
  have hz3 : (((w.alloc (.cells #[.int .i64 t, .int .i64 want] 68)).alloc (.cells #[.int .i64 0, .int .i64 0, .bool false, .int .i64 0] 65)).drewN nq).heap.size = w.heap.size + 2 := hz2
  clear HK HM HE HP q0 q1 hz2
  generalize ((w.alloc (.cells #[.int .i64 t, .int .i64 want] 68)).alloc (.cells #[.int .i64 0, .int .i64 0, .bool false, .int .i64 0] 65)).drewN nq = W2 at *
  have c0 := blk_cell HP2.out 0 (by simp)
  simp only [List.getElem_toArray, List.getElem_cons_zero, List.getElem_cons_succ] at c0
  have HD := Lib.hid (show RDo gy gK gL gr base hr p ρ sp t want 0 w (W2.alloc (.cells #[.int .i64 0, .int .i64 t, .bool false, .int .i64 0] 65)) from ⟨HK2.out.same (below_new _ _), HM2.out.trans (RMs.of_mod (Mod.of_below (below_new _ _))), (heap_alloc_old _ _ (by omega)).trans HP2.out, (heap_alloc_old _ _ (by omega)).trans HE2.out, by rw [← hz3]; exact blk_new W2 (.cells #[.int .i64 0, .int .i64 t, .bool false, .int .i64 0] 65), ap.out⟩)
  clear HK2 HM2 HE2 HP2
  go_wp2_with fail
  refine (rstate21 HD.out.rg t).mono ?_
  rintro e w4 ⟨rfl, hb4⟩
  have H4 := Lib.hid (HD.out.same hb4)
  clear hb4 HD c0 hz3
  have c0 := blk_cell (H4.out).bp 0 (by simp)
  have c1 := blk_cell (H4.out).bp 1 (by simp)
  have a0 := blk_cell (H4.out).be 0 (by simp)
  have a1 := blk_cell (H4.out).be 1 (by simp)
  have a2 := blk_cell (H4.out).be 2 (by simp)
  have a3 := blk_cell (H4.out).be 3 (by simp)
  simp only [List.getElem_toArray, List.getElem_cons_zero, List.getElem_cons_succ] at c0 c1 a0 a1 a2 a3
  have fa0 := blk_free (H4.out).be 0
  have fa3 := blk_free (H4.out).be 3
  obtain ⟨q0, q1⟩ := (H4.out).rg.cells
  clear hst
  rw [hs0]
  clear hs0
  go_wp2_with fail
  refine wp_region_held_drew (S := fun V => V.cell? ⟨gy, 1, none⟩ = some (.pointer (some ⟨gK, 0, none⟩)) ∧ V.cell? ⟨w.heap.size, 0, none⟩ = some (.int .i64 t)) (by kernel_rfl) ⟨q1, c0⟩ (fun hHeld => ?_)
  refine take_to 0 (some 32) (v := ?_) rfl rfl (by kernel_rfl) (by kernel_rfl) (by kernel_rfl) (fun _ _ _ h => h) (Or.inl ⟨by rfl, ?_⟩) (by first | trivial | assumption) ?_
  rotate_left
  focus (intro w hSw; (try dsimp only at hSw); go_simp; (try with_reducible rfl))
  simp only [Act.put, List.setIfInBounds_toArray, List.set_cons_zero, List.set_cons_succ]
  refine take_to 1 (some 33) (v := ?_) rfl rfl (by kernel_rfl) (by kernel_rfl) (by kernel_rfl) (fun _ _ _ h => h) (Or.inl ⟨by rfl, ?_⟩) (by first | trivial | assumption) ?_
  rotate_left
  focus (intro w hSw; (try dsimp only at hSw); go_simp; (try with_reducible rfl))
  simp only [Act.put, List.setIfInBounds_toArray, List.set_cons_zero, List.set_cons_succ]
  refine take_to 2 (some 34) (v := ?_) rfl rfl (by kernel_rfl) (by kernel_rfl) (by kernel_rfl) (fun _ _ _ h => h) (Or.inl ⟨by rfl, ?_⟩) (by first | trivial | assumption) ?_
  rotate_left
  focus (intro w hSw; (try dsimp only at hSw); go_simp; (try with_reducible rfl))
  simp only [Act.put, List.setIfInBounds_toArray, List.set_cons_zero, List.set_cons_succ]
  refine take_to 3 (some 35) (v := undef) rfl rfl (by kernel_rfl) (by kernel_rfl) (by kernel_rfl) (fun _ _ _ h => h) (Or.inr ⟨by rfl, rfl⟩) (by first | trivial | assumption) ?_
  simp only [Act.put, List.setIfInBounds_toArray, List.set_cons_zero, List.set_cons_succ]
  refine take_to 4 (some 36) (v := undef) rfl rfl (by kernel_rfl) (by kernel_rfl) (by kernel_rfl) (fun _ _ _ h => h) (Or.inr ⟨by rfl, rfl⟩) (by first | trivial | assumption) ?_
  simp only [Act.put, List.setIfInBounds_toArray, List.set_cons_zero, List.set_cons_succ]
  refine take_to 5 (some 37) (v := ?_) rfl rfl (by kernel_rfl) (by kernel_rfl) (by kernel_rfl) (fun _ _ _ h => h) (Or.inl ⟨by rfl, ?_⟩) (by first | trivial | assumption) ?_
  rotate_left
  focus (intro w hSw; (try dsimp only at hSw); go_simp; (try with_reducible rfl))
  simp only [Act.put, List.setIfInBounds_toArray, List.set_cons_zero, List.set_cons_succ]
  refine take_to 6 (some 38) (v := ?_) rfl rfl (by kernel_rfl) (by kernel_rfl) (by kernel_rfl) (fun _ _ _ h => h) (Or.inl ⟨by rfl, ?_⟩) (by first | trivial | assumption) ?_
  rotate_left
  focus (intro w hSw; (try dsimp only at hSw); go_simp; (try with_reducible rfl))
  simp only [Act.put, List.setIfInBounds_toArray, List.set_cons_zero, List.set_cons_succ]
  refine take_to 7 (some 39) (v := ?_) rfl rfl (by kernel_rfl) (by kernel_rfl) (by kernel_rfl) (fun _ _ _ h => h) (Or.inl ⟨by rfl, ?_⟩) (by first | trivial | assumption) ?_
  rotate_left
  focus (intro w hSw; (try dsimp only at hSw); go_simp; (try with_reducible rfl))
  simp only [Act.put, List.setIfInBounds_toArray, List.set_cons_zero, List.set_cons_succ]
  refine take_to 8 (some 40) (v := ?_) rfl rfl (by kernel_rfl) (by kernel_rfl) (by kernel_rfl) (fun _ _ _ h => h) (Or.inl ⟨by rfl, ?_⟩) (by first | trivial | assumption) ?_
  rotate_left
  focus (intro w hSw; (try dsimp only at hSw); go_simp; (try with_reducible rfl))
  simp only [Act.put, List.setIfInBounds_toArray, List.set_cons_zero, List.set_cons_succ]
  refine take_to 9 (some 41) (v := ?_) rfl rfl (by kernel_rfl) (by kernel_rfl) (by kernel_rfl) (fun _ _ _ h => h) (Or.inl ⟨by rfl, ?_⟩) (by first | trivial | assumption) ?_
  rotate_left
  focus (intro w hSw; (try dsimp only at hSw); go_simp; (try with_reducible rfl))
  simp only [Act.put, List.setIfInBounds_toArray, List.set_cons_zero, List.set_cons_succ]
  refine take_to 10 (some 42) (v := ?_) rfl rfl (by kernel_rfl) (by kernel_rfl) (by kernel_rfl) (fun _ _ _ h => h) (Or.inl ⟨by rfl, ?_⟩) (by first | trivial | assumption) ?_
  rotate_left
  focus (intro w hSw; (try dsimp only at hSw); go_simp; (try with_reducible rfl))
  simp only [Act.put, List.setIfInBounds_toArray, List.set_cons_zero, List.set_cons_succ]
  refine take_to 11 (some 43) (v := ?_) rfl rfl (by kernel_rfl) (by kernel_rfl) (by kernel_rfl) (fun _ _ _ h => h) (Or.inl ⟨by rfl, ?_⟩) (by first | trivial | assumption) ?_
  rotate_left
  focus (intro w hSw; (try dsimp only at hSw); go_simp; (try with_reducible rfl))
  simp only [Act.put, List.setIfInBounds_toArray, List.set_cons_zero, List.set_cons_succ]
  refine take_to 12 (some 44) (v := ?_) rfl rfl (by kernel_rfl) (by kernel_rfl) (by kernel_rfl) (fun _ _ _ h => h) (Or.inl ⟨by rfl, ?_⟩) (by first | trivial | assumption) ?_
  rotate_left
  focus (intro w hSw; (try dsimp only at hSw); go_simp; (try with_reducible rfl))
  simp only [Act.put, List.setIfInBounds_toArray, List.set_cons_zero, List.set_cons_succ]
  refine wpAnyH_ready (rs := [13]) (by kernel_rfl) (by simp) ?_
  refine AllReadyH.cons rfl (fun K hK => ?_) AllReadyH.nil
  go_simp
  refine (HS.out _ (H4.out.drewN 1).rg.rl).mono ?_
  rintro e w5 ⟨rfl, ⟨⟨ρ2, al2, hl5⟩, hm5⟩⟩
  have H5 := Lib.hid ((H4.out.drewN 1).acts hl5 hm5)
  have k2 := And.intro H5.out.rg.cells.2 (blk_cell H5.out.bp 0 (by simp))
  go_simp
  refine hK.out _ _ k2 (fun hHeld => ?_)
  refine take_to 14 (some 46) (v := ?_) rfl rfl (by kernel_rfl) (by kernel_rfl) (by kernel_rfl) (fun _ _ _ h => h) (Or.inl ⟨by rfl, ?_⟩) (by first | trivial | assumption) ?_
  rotate_left
  focus (intro w hSw; (try dsimp only at hSw); go_simp; (try with_reducible rfl))
  simp only [Act.put, List.setIfInBounds_toArray, List.set_cons_zero, List.set_cons_succ]
  refine wpAnyH_done (by kernel_rfl) ?_ _
  have HA2 := Lib.hid al2
  clear k2 hl5 hm5 al2 c0 c1 a0 a1 a2 a3 fa0 fa3 q0 q1 H4
  have c0 := blk_cell (H5.out).bp 0 (by simp)
  have c1 := blk_cell (H5.out).bp 1 (by simp)
  have a0 := blk_cell (H5.out).be 0 (by simp)
  have a1 := blk_cell (H5.out).be 1 (by simp)
  have a2 := blk_cell (H5.out).be 2 (by simp)
  have a3 := blk_cell (H5.out).be 3 (by simp)
  simp only [List.getElem_toArray, List.getElem_cons_zero, List.getElem_cons_succ] at c0 c1 a0 a1 a2 a3
  have fa0 := blk_free (H5.out).be 0
  have fa3 := blk_free (H5.out).be 3
  obtain ⟨q0, q1⟩ := (H5.out).rg.cells
  have d0 := blk_cell H5.out.bo 0 (by simp)
  have d1 := blk_cell H5.out.bo 1 (by simp)
  have d2 := blk_cell H5.out.bo 2 (by simp)
  have d3 := blk_cell H5.out.bo 3 (by simp)
  simp only [List.getElem_toArray, List.getElem_cons_zero, List.getElem_cons_succ] at d0 d1 d2 d3
  have f0 := blk_free H5.out.bo 0
  have f1 := blk_free H5.out.bo 1
  have f2 := blk_free H5.out.bo 2
  have f3 := blk_free H5.out.bo 3
  have k0 := blk_set H5.out.bo 0 (.int .i64 (0))
  have k1 := blk_set k0 1 (.int .i64 (t))
  have k2 := blk_set k1 2 (.bool false)
  have k3 := blk_set k2 3 (.int .i64 (0))
  have g0 := blk_cell k0 0 (by simp)
  have g1 := blk_cell k1 1 (by simp)
  have g2 := blk_cell k2 2 (by simp)
  have g3 := blk_cell k3 3 (by simp)
  simp at g0 g1 g2 g3
  clear k0 k1 k2 k3
  go_wp2_with fail
  refine bodyPost_ret (v := gev (0) (t) (0)) ?_ rfl ⟨rfl, ?_⟩
  · simp [gev, results, Tryz.results33, go_sem, g0, g1, g2, g3]
  · exact (fun h => ⟨⟨ρ2, HA2.out, h.1⟩, h.2⟩) (H5.out.fin (((((Mod.refl [w.heap.size + 1, w.heap.size + 2] _).setCell (by simp) _).setCell (by simp) _).setCell (by simp) _).setCell (by simp) _))
set_option maxHeartbeats 8000000 in
set_option maxRecDepth 100000 in
theorem rdo_3n (hw : want = 0) (hs0 : gst (spOf sp t) = 3) (hd : doK p σ sp 0 t = (false, σ2, sp2)) : Calls Tryz.prog 33 #[.pointer (some ⟨gy, 0, none⟩), .agg #[.int .i64 t, .int .i64 want]] w fun e w' => e = .returned (gev 0 t 0) ∧ (∃ ρ', Alk σ2 ρ' ∧ RG w' gy gK gL gr base hr p ρ' sp2) ∧ RMs base [gr, hr] w w' := by
  have HS := fun W (K : RFL W gK gL gr base hr p ρ sp) => rStep_flat K hA n m ho hm t
  rw [hd] at HS
  replace HS := Lib.hid HS
  have e0 := ibeq hw
  clear hw hA ho hm hd
  have hb1 : Below w.heap.size w (w.alloc (.cells #[.int .i64 t, .int .i64 want] 68)) := below_new _ _
  have hb2 : Below w.heap.size w ((w.alloc (.cells #[.int .i64 t, .int .i64 want] 68)).alloc (.cells #[.int .i64 0, .int .i64 0, .bool false, .int .i64 0] 65)) := hb1.alloc hb1.size _
  have HE := Lib.hid (show ((w.alloc (.cells #[.int .i64 t, .int .i64 want] 68)).alloc (.cells #[.int .i64 0, .int .i64 0, .bool false, .int .i64 0] 65)).heap[w.heap.size + 1]? = some (.cells #[.int .i64 0, .int .i64 0, .bool false, .int .i64 0] 65 (0, 0)) from by simpa using blk_new (w.alloc (.cells #[.int .i64 t, .int .i64 want] 68)) (.cells #[.int .i64 0, .int .i64 0, .bool false, .int .i64 0] 65))
  have HP := Lib.hid (show ((w.alloc (.cells #[.int .i64 t, .int .i64 want] 68)).alloc (.cells #[.int .i64 0, .int .i64 0, .bool false, .int .i64 0] 65)).heap[w.heap.size]? = some (.cells #[.int .i64 t, .int .i64 want] 68 (0, 0)) from (heap_alloc_old _ _ (by simp)).trans (blk_new _ _))
  have hK := K.same hb2
  have ap := Lib.hid K.blocks
  obtain ⟨cc, hSp⟩ := rSpots_q hK.rl
  have HSp := Lib.hid hSp
  have HK := Lib.hid hK
  have HM := Lib.hid (RMs.of_mod (base := base) (Mod.of_below (S := [gr, hr]) hb2))
  have hz2 : ((w.alloc (.cells #[.int .i64 t, .int .i64 want] 68)).alloc (.cells #[.int .i64 0, .int .i64 0, .bool false, .int .i64 0] 65)).heap.size = w.heap.size + 2 := by simp
  obtain ⟨q0, q1⟩ := hK.cells
  obtain ⟨_, _, hl32, _⟩ := hK.rl.at_.facts
  clear K hK hb1 hb2 hSp
  have h0 : decide (t < 0) = false := decide_eq_false (by omega)
  have h1 : decide ((sp.length : Int) ≤ t) = false := decide_eq_false (by omega)
  have h0' : ¬ t < 0 := by omega
  have h1' : ¬ (sp.length : Int) ≤ t := by omega
  have hst := gst_in (spOf sp t)
  clear ht
  go_enter Tryz.func33, Tryz.ntmps33
  go_wp2_with fail
  go_quiet ((go_at_call 23; exact Calls.quiet_of_same (HSp.out _)))
  have HK2 := Lib.hid (HK.out.drewN nq)
  have HM2 := Lib.hid (HM.out.drewN nq)
  have HE2 := Lib.hid (show (((w.alloc (.cells #[.int .i64 t, .int .i64 want] 68)).alloc (.cells #[.int .i64 0, .int .i64 0, .bool false, .int .i64 0] 65)).drewN nq).heap[w.heap.size + 1]? = some (.cells #[.int .i64 0, .int .i64 0, .bool false, .int .i64 0] 65 (0, 0)) from HE.out)
  have HP2 := Lib.hid (show (((w.alloc (.cells #[.int .i64 t, .int .i64 want] 68)).alloc (.cells #[.int .i64 0, .int .i64 0, .bool false, .int .i64 0] 65)).drewN nq).heap[w.heap.size]? = some (.cells #[.int .i64 t, .int .i64 want] 68 (0, 0)) from HP.out)
  have hz3 : (((w.alloc (.cells #[.int .i64 t, .int .i64 want] 68)).alloc (.cells #[.int .i64 0, .int .i64 0, .bool false, .int .i64 0] 65)).drewN nq).heap.size = w.heap.size + 2 := hz2
  clear HK HM HE HP q0 q1 hz2
  generalize ((w.alloc (.cells #[.int .i64 t, .int .i64 want] 68)).alloc (.cells #[.int .i64 0, .int .i64 0, .bool false, .int .i64 0] 65)).drewN nq = W2 at *
  have c0 := blk_cell HP2.out 0 (by simp)
  simp only [List.getElem_toArray, List.getElem_cons_zero, List.getElem_cons_succ] at c0
  have HD := Lib.hid (show RDo gy gK gL gr base hr p ρ sp t want 0 w (W2.alloc (.cells #[.int .i64 0, .int .i64 t, .bool false, .int .i64 0] 65)) from ⟨HK2.out.same (below_new _ _), HM2.out.trans (RMs.of_mod (Mod.of_below (below_new _ _))), (heap_alloc_old _ _ (by omega)).trans HP2.out, (heap_alloc_old _ _ (by omega)).trans HE2.out, by rw [← hz3]; exact blk_new W2 (.cells #[.int .i64 0, .int .i64 t, .bool false, .int .i64 0] 65), ap.out⟩)
  clear HK2 HM2 HE2 HP2
  go_wp2_with fail
  refine (rstate21 HD.out.rg t).mono ?_
  rintro e w4 ⟨rfl, hb4⟩
  have H4 := Lib.hid (HD.out.same hb4)
  clear hb4 HD c0 hz3
  have c0 := blk_cell (H4.out).bp 0 (by simp)
  have c1 := blk_cell (H4.out).bp 1 (by simp)
  have a0 := blk_cell (H4.out).be 0 (by simp)
  have a1 := blk_cell (H4.out).be 1 (by simp)
  have a2 := blk_cell (H4.out).be 2 (by simp)
  have a3 := blk_cell (H4.out).be 3 (by simp)
  simp only [List.getElem_toArray, List.getElem_cons_zero, List.getElem_cons_succ] at c0 c1 a0 a1 a2 a3
  have fa0 := blk_free (H4.out).be 0
  have fa3 := blk_free (H4.out).be 3
  obtain ⟨q0, q1⟩ := (H4.out).rg.cells
  clear hst
  rw [hs0]
  clear hs0
  go_wp2_with fail
  refine wp_region_held_drew (S := fun V => V.cell? ⟨gy, 1, none⟩ = some (.pointer (some ⟨gK, 0, none⟩)) ∧ V.cell? ⟨w.heap.size, 0, none⟩ = some (.int .i64 t)) (by kernel_rfl) ⟨q1, c0⟩ (fun hHeld => ?_)
  refine take_to 0 (some 32) (v := ?_) rfl rfl (by kernel_rfl) (by kernel_rfl) (by kernel_rfl) (fun _ _ _ h => h) (Or.inl ⟨by rfl, ?_⟩) (by first | trivial | assumption) ?_
  rotate_left
  focus (intro w hSw; (try dsimp only at hSw); go_simp; (try with_reducible rfl))
  simp only [Act.put, List.setIfInBounds_toArray, List.set_cons_zero, List.set_cons_succ]
  refine take_to 1 (some 33) (v := ?_) rfl rfl (by kernel_rfl) (by kernel_rfl) (by kernel_rfl) (fun _ _ _ h => h) (Or.inl ⟨by rfl, ?_⟩) (by first | trivial | assumption) ?_
  rotate_left
  focus (intro w hSw; (try dsimp only at hSw); go_simp; (try with_reducible rfl))
  simp only [Act.put, List.setIfInBounds_toArray, List.set_cons_zero, List.set_cons_succ]
  refine take_to 2 (some 34) (v := ?_) rfl rfl (by kernel_rfl) (by kernel_rfl) (by kernel_rfl) (fun _ _ _ h => h) (Or.inl ⟨by rfl, ?_⟩) (by first | trivial | assumption) ?_
  rotate_left
  focus (intro w hSw; (try dsimp only at hSw); go_simp; (try with_reducible rfl))
  simp only [Act.put, List.setIfInBounds_toArray, List.set_cons_zero, List.set_cons_succ]
  refine take_to 3 (some 35) (v := ?_) rfl rfl (by kernel_rfl) (by kernel_rfl) (by kernel_rfl) (fun _ _ _ h => h) (Or.inl ⟨by rfl, ?_⟩) (by first | trivial | assumption) ?_
  rotate_left
  focus (intro w hSw; (try dsimp only at hSw); go_simp; (try with_reducible rfl))
  simp only [Act.put, List.setIfInBounds_toArray, List.set_cons_zero, List.set_cons_succ]
  refine take_to 4 (some 36) (v := ?_) rfl rfl (by kernel_rfl) (by kernel_rfl) (by kernel_rfl) (fun _ _ _ h => h) (Or.inl ⟨by rfl, ?_⟩) (by first | trivial | assumption) ?_
  rotate_left
  focus (intro w hSw; (try dsimp only at hSw); go_simp; (try with_reducible rfl))
  simp only [Act.put, List.setIfInBounds_toArray, List.set_cons_zero, List.set_cons_succ]
  refine take_to 5 (some 37) (v := ?_) rfl rfl (by kernel_rfl) (by kernel_rfl) (by kernel_rfl) (fun _ _ _ h => h) (Or.inl ⟨by rfl, ?_⟩) (by first | trivial | assumption) ?_
  rotate_left
  focus (intro w hSw; (try dsimp only at hSw); go_simp; (try with_reducible rfl))
  simp only [Act.put, List.setIfInBounds_toArray, List.set_cons_zero, List.set_cons_succ]
  refine take_to 6 (some 38) (v := ?_) rfl rfl (by kernel_rfl) (by kernel_rfl) (by kernel_rfl) (fun _ _ _ h => h) (Or.inl ⟨by rfl, ?_⟩) (by first | trivial | assumption) ?_
  rotate_left
  focus (intro w hSw; (try dsimp only at hSw); go_simp; (try with_reducible rfl))
  simp only [Act.put, List.setIfInBounds_toArray, List.set_cons_zero, List.set_cons_succ]
  refine take_to 7 (some 39) (v := ?_) rfl rfl (by kernel_rfl) (by kernel_rfl) (by kernel_rfl) (fun _ _ _ h => h) (Or.inl ⟨by rfl, ?_⟩) (by first | trivial | assumption) ?_
  rotate_left
  focus (intro w hSw; (try dsimp only at hSw); go_simp; (try with_reducible rfl))
  simp only [Act.put, List.setIfInBounds_toArray, List.set_cons_zero, List.set_cons_succ]
  refine take_to 8 (some 40) (v := ?_) rfl rfl (by kernel_rfl) (by kernel_rfl) (by kernel_rfl) (fun _ _ _ h => h) (Or.inl ⟨by rfl, ?_⟩) (by first | trivial | assumption) ?_
  rotate_left
  focus (intro w hSw; (try dsimp only at hSw); go_simp; (try with_reducible rfl))
  simp only [Act.put, List.setIfInBounds_toArray, List.set_cons_zero, List.set_cons_succ]
  refine take_to 9 (some 41) (v := ?_) rfl rfl (by kernel_rfl) (by kernel_rfl) (by kernel_rfl) (fun _ _ _ h => h) (Or.inl ⟨by rfl, ?_⟩) (by first | trivial | assumption) ?_
  rotate_left
  focus (intro w hSw; (try dsimp only at hSw); go_simp; (try with_reducible rfl))
  simp only [Act.put, List.setIfInBounds_toArray, List.set_cons_zero, List.set_cons_succ]
  refine take_to 10 (some 42) (v := ?_) rfl rfl (by kernel_rfl) (by kernel_rfl) (by kernel_rfl) (fun _ _ _ h => h) (Or.inl ⟨by rfl, ?_⟩) (by first | trivial | assumption) ?_
  rotate_left
  focus (intro w hSw; (try dsimp only at hSw); go_simp; (try with_reducible rfl))
  simp only [Act.put, List.setIfInBounds_toArray, List.set_cons_zero, List.set_cons_succ]
  refine take_to 11 (some 43) (v := ?_) rfl rfl (by kernel_rfl) (by kernel_rfl) (by kernel_rfl) (fun _ _ _ h => h) (Or.inl ⟨by rfl, ?_⟩) (by first | trivial | assumption) ?_
  rotate_left
  focus (intro w hSw; (try dsimp only at hSw); go_simp; (try with_reducible rfl))
  simp only [Act.put, List.setIfInBounds_toArray, List.set_cons_zero, List.set_cons_succ]
  refine take_to 12 (some 44) (v := ?_) rfl rfl (by kernel_rfl) (by kernel_rfl) (by kernel_rfl) (fun _ _ _ h => h) (Or.inl ⟨by rfl, ?_⟩) (by first | trivial | assumption) ?_
  rotate_left
  focus (intro w hSw; (try dsimp only at hSw); go_simp; (try with_reducible rfl))
  simp only [Act.put, List.setIfInBounds_toArray, List.set_cons_zero, List.set_cons_succ]
  refine wpAnyH_ready (rs := [13]) (by kernel_rfl) (by simp) ?_
  refine AllReadyH.cons rfl (fun K hK => ?_) AllReadyH.nil
  go_simp
  refine (HS.out _ (H4.out.drewN 1).rg.rl).mono ?_
  rintro e w5 ⟨rfl, ⟨⟨ρ2, al2, hl5⟩, hm5⟩⟩
  have H5 := Lib.hid ((H4.out.drewN 1).acts hl5 hm5)
  have k2 := And.intro H5.out.rg.cells.2 (blk_cell H5.out.bp 0 (by simp))
  go_simp
  refine hK.out _ _ k2 (fun hHeld => ?_)
  refine take_to 14 (some 46) (v := ?_) rfl rfl (by kernel_rfl) (by kernel_rfl) (by kernel_rfl) (fun _ _ _ h => h) (Or.inl ⟨by rfl, ?_⟩) (by first | trivial | assumption) ?_
  rotate_left
  focus (intro w hSw; (try dsimp only at hSw); go_simp; (try with_reducible rfl))
  simp only [Act.put, List.setIfInBounds_toArray, List.set_cons_zero, List.set_cons_succ]
  refine wpAnyH_done (by kernel_rfl) ?_ _
  have HA2 := Lib.hid al2
  clear k2 hl5 hm5 al2 c0 c1 a0 a1 a2 a3 fa0 fa3 q0 q1 H4
  have c0 := blk_cell (H5.out).bp 0 (by simp)
  have c1 := blk_cell (H5.out).bp 1 (by simp)
  have a0 := blk_cell (H5.out).be 0 (by simp)
  have a1 := blk_cell (H5.out).be 1 (by simp)
  have a2 := blk_cell (H5.out).be 2 (by simp)
  have a3 := blk_cell (H5.out).be 3 (by simp)
  simp only [List.getElem_toArray, List.getElem_cons_zero, List.getElem_cons_succ] at c0 c1 a0 a1 a2 a3
  have fa0 := blk_free (H5.out).be 0
  have fa3 := blk_free (H5.out).be 3
  obtain ⟨q0, q1⟩ := (H5.out).rg.cells
  have d0 := blk_cell H5.out.bo 0 (by simp)
  have d1 := blk_cell H5.out.bo 1 (by simp)
  have d2 := blk_cell H5.out.bo 2 (by simp)
  have d3 := blk_cell H5.out.bo 3 (by simp)
  simp only [List.getElem_toArray, List.getElem_cons_zero, List.getElem_cons_succ] at d0 d1 d2 d3
  have f0 := blk_free H5.out.bo 0
  have f1 := blk_free H5.out.bo 1
  have f2 := blk_free H5.out.bo 2
  have f3 := blk_free H5.out.bo 3
  have k0 := blk_set H5.out.bo 0 (.int .i64 (0))
  have k1 := blk_set k0 1 (.int .i64 (t))
  have k2 := blk_set k1 2 (.bool false)
  have k3 := blk_set k2 3 (.int .i64 (0))
  have g0 := blk_cell k0 0 (by simp)
  have g1 := blk_cell k1 1 (by simp)
  have g2 := blk_cell k2 2 (by simp)
  have g3 := blk_cell k3 3 (by simp)
  simp at g0 g1 g2 g3
  clear k0 k1 k2 k3
  go_wp2_with fail
  refine bodyPost_ret (v := gev (0) (t) (0)) ?_ rfl ⟨rfl, ?_⟩
  · simp [gev, results, Tryz.results33, go_sem, g0, g1, g2, g3]
  · exact (fun h => ⟨⟨ρ2, HA2.out, h.1⟩, h.2⟩) (H5.out.fin (((((Mod.refl [w.heap.size + 1, w.heap.size + 2] _).setCell (by simp) _).setCell (by simp) _).setCell (by simp) _).setCell (by simp) _))
set_option maxHeartbeats 8000000 in
set_option maxRecDepth 100000 in
theorem rdo_3y (hw : want = 0) (hs0 : gst (spOf sp t) = 3) (hd : doK p σ sp 0 t = (true, σ2, sp2)) : Calls Tryz.prog 33 #[.pointer (some ⟨gy, 0, none⟩), .agg #[.int .i64 t, .int .i64 want]] w fun e w' => e = .returned (gev 4 t 0) ∧ (∃ ρ', Alk σ2 ρ' ∧ RG w' gy gK gL gr base hr p ρ' sp2) ∧ RMs base [gr, hr] w w' := by
  have HS := fun W (K : RFL W gK gL gr base hr p ρ sp) => rStep_flat K hA n m ho hm t
  rw [hd] at HS
  replace HS := Lib.hid HS
  have e0 := ibeq hw
  clear hw hA ho hm hd
  have hb1 : Below w.heap.size w (w.alloc (.cells #[.int .i64 t, .int .i64 want] 68)) := below_new _ _
  have hb2 : Below w.heap.size w ((w.alloc (.cells #[.int .i64 t, .int .i64 want] 68)).alloc (.cells #[.int .i64 0, .int .i64 0, .bool false, .int .i64 0] 65)) := hb1.alloc hb1.size _
  have HE := Lib.hid (show ((w.alloc (.cells #[.int .i64 t, .int .i64 want] 68)).alloc (.cells #[.int .i64 0, .int .i64 0, .bool false, .int .i64 0] 65)).heap[w.heap.size + 1]? = some (.cells #[.int .i64 0, .int .i64 0, .bool false, .int .i64 0] 65 (0, 0)) from by simpa using blk_new (w.alloc (.cells #[.int .i64 t, .int .i64 want] 68)) (.cells #[.int .i64 0, .int .i64 0, .bool false, .int .i64 0] 65))
  have HP := Lib.hid (show ((w.alloc (.cells #[.int .i64 t, .int .i64 want] 68)).alloc (.cells #[.int .i64 0, .int .i64 0, .bool false, .int .i64 0] 65)).heap[w.heap.size]? = some (.cells #[.int .i64 t, .int .i64 want] 68 (0, 0)) from (heap_alloc_old _ _ (by simp)).trans (blk_new _ _))
  have hK := K.same hb2
  have ap := Lib.hid K.blocks
  obtain ⟨cc, hSp⟩ := rSpots_q hK.rl
  have HSp := Lib.hid hSp
  have HK := Lib.hid hK
  have HM := Lib.hid (RMs.of_mod (base := base) (Mod.of_below (S := [gr, hr]) hb2))
  have hz2 : ((w.alloc (.cells #[.int .i64 t, .int .i64 want] 68)).alloc (.cells #[.int .i64 0, .int .i64 0, .bool false, .int .i64 0] 65)).heap.size = w.heap.size + 2 := by simp
  obtain ⟨q0, q1⟩ := hK.cells
  obtain ⟨_, _, hl32, _⟩ := hK.rl.at_.facts
  clear K hK hb1 hb2 hSp
  have h0 : decide (t < 0) = false := decide_eq_false (by omega)
  have h1 : decide ((sp.length : Int) ≤ t) = false := decide_eq_false (by omega)
  have h0' : ¬ t < 0 := by omega
  have h1' : ¬ (sp.length : Int) ≤ t := by omega
  have hst := gst_in (spOf sp t)
  clear ht
  go_enter Tryz.func33, Tryz.ntmps33
  go_wp2_with fail
  go_quiet ((go_at_call 23; exact Calls.quiet_of_same (HSp.out _)))
  have HK2 := Lib.hid (HK.out.drewN nq)
  have HM2 := Lib.hid (HM.out.drewN nq)
  have HE2 := Lib.hid (show (((w.alloc (.cells #[.int .i64 t, .int .i64 want] 68)).alloc (.cells #[.int .i64 0, .int .i64 0, .bool false, .int .i64 0] 65)).drewN nq).heap[w.heap.size + 1]? = some (.cells #[.int .i64 0, .int .i64 0, .bool false, .int .i64 0] 65 (0, 0)) from HE.out)
  have HP2 := Lib.hid (show (((w.alloc (.cells #[.int .i64 t, .int .i64 want] 68)).alloc (.cells #[.int .i64 0, .int .i64 0, .bool false, .int .i64 0] 65)).drewN nq).heap[w.heap.size]? = some (.cells #[.int .i64 t, .int .i64 want] 68 (0, 0)) from HP.out)
  have hz3 : (((w.alloc (.cells #[.int .i64 t, .int .i64 want] 68)).alloc (.cells #[.int .i64 0, .int .i64 0, .bool false, .int .i64 0] 65)).drewN nq).heap.size = w.heap.size + 2 := hz2
  clear HK HM HE HP q0 q1 hz2
  generalize ((w.alloc (.cells #[.int .i64 t, .int .i64 want] 68)).alloc (.cells #[.int .i64 0, .int .i64 0, .bool false, .int .i64 0] 65)).drewN nq = W2 at *
  have c0 := blk_cell HP2.out 0 (by simp)
  simp only [List.getElem_toArray, List.getElem_cons_zero, List.getElem_cons_succ] at c0
  have HD := Lib.hid (show RDo gy gK gL gr base hr p ρ sp t want 0 w (W2.alloc (.cells #[.int .i64 0, .int .i64 t, .bool false, .int .i64 0] 65)) from ⟨HK2.out.same (below_new _ _), HM2.out.trans (RMs.of_mod (Mod.of_below (below_new _ _))), (heap_alloc_old _ _ (by omega)).trans HP2.out, (heap_alloc_old _ _ (by omega)).trans HE2.out, by rw [← hz3]; exact blk_new W2 (.cells #[.int .i64 0, .int .i64 t, .bool false, .int .i64 0] 65), ap.out⟩)
  clear HK2 HM2 HE2 HP2
  go_wp2_with fail
  refine (rstate21 HD.out.rg t).mono ?_
  rintro e w4 ⟨rfl, hb4⟩
  have H4 := Lib.hid (HD.out.same hb4)
  clear hb4 HD c0 hz3
  have c0 := blk_cell (H4.out).bp 0 (by simp)
  have c1 := blk_cell (H4.out).bp 1 (by simp)
  have a0 := blk_cell (H4.out).be 0 (by simp)
  have a1 := blk_cell (H4.out).be 1 (by simp)
  have a2 := blk_cell (H4.out).be 2 (by simp)
  have a3 := blk_cell (H4.out).be 3 (by simp)
  simp only [List.getElem_toArray, List.getElem_cons_zero, List.getElem_cons_succ] at c0 c1 a0 a1 a2 a3
  have fa0 := blk_free (H4.out).be 0
  have fa3 := blk_free (H4.out).be 3
  obtain ⟨q0, q1⟩ := (H4.out).rg.cells
  clear hst
  rw [hs0]
  clear hs0
  go_wp2_with fail
  refine wp_region_held_drew (S := fun V => V.cell? ⟨gy, 1, none⟩ = some (.pointer (some ⟨gK, 0, none⟩)) ∧ V.cell? ⟨w.heap.size, 0, none⟩ = some (.int .i64 t)) (by kernel_rfl) ⟨q1, c0⟩ (fun hHeld => ?_)
  refine take_to 0 (some 32) (v := ?_) rfl rfl (by kernel_rfl) (by kernel_rfl) (by kernel_rfl) (fun _ _ _ h => h) (Or.inl ⟨by rfl, ?_⟩) (by first | trivial | assumption) ?_
  rotate_left
  focus (intro w hSw; (try dsimp only at hSw); go_simp; (try with_reducible rfl))
  simp only [Act.put, List.setIfInBounds_toArray, List.set_cons_zero, List.set_cons_succ]
  refine take_to 1 (some 33) (v := ?_) rfl rfl (by kernel_rfl) (by kernel_rfl) (by kernel_rfl) (fun _ _ _ h => h) (Or.inl ⟨by rfl, ?_⟩) (by first | trivial | assumption) ?_
  rotate_left
  focus (intro w hSw; (try dsimp only at hSw); go_simp; (try with_reducible rfl))
  simp only [Act.put, List.setIfInBounds_toArray, List.set_cons_zero, List.set_cons_succ]
  refine take_to 2 (some 34) (v := ?_) rfl rfl (by kernel_rfl) (by kernel_rfl) (by kernel_rfl) (fun _ _ _ h => h) (Or.inl ⟨by rfl, ?_⟩) (by first | trivial | assumption) ?_
  rotate_left
  focus (intro w hSw; (try dsimp only at hSw); go_simp; (try with_reducible rfl))
  simp only [Act.put, List.setIfInBounds_toArray, List.set_cons_zero, List.set_cons_succ]
  refine take_to 3 (some 35) (v := ?_) rfl rfl (by kernel_rfl) (by kernel_rfl) (by kernel_rfl) (fun _ _ _ h => h) (Or.inl ⟨by rfl, ?_⟩) (by first | trivial | assumption) ?_
  rotate_left
  focus (intro w hSw; (try dsimp only at hSw); go_simp; (try with_reducible rfl))
  simp only [Act.put, List.setIfInBounds_toArray, List.set_cons_zero, List.set_cons_succ]
  refine take_to 4 (some 36) (v := ?_) rfl rfl (by kernel_rfl) (by kernel_rfl) (by kernel_rfl) (fun _ _ _ h => h) (Or.inl ⟨by rfl, ?_⟩) (by first | trivial | assumption) ?_
  rotate_left
  focus (intro w hSw; (try dsimp only at hSw); go_simp; (try with_reducible rfl))
  simp only [Act.put, List.setIfInBounds_toArray, List.set_cons_zero, List.set_cons_succ]
  refine take_to 5 (some 37) (v := ?_) rfl rfl (by kernel_rfl) (by kernel_rfl) (by kernel_rfl) (fun _ _ _ h => h) (Or.inl ⟨by rfl, ?_⟩) (by first | trivial | assumption) ?_
  rotate_left
  focus (intro w hSw; (try dsimp only at hSw); go_simp; (try with_reducible rfl))
  simp only [Act.put, List.setIfInBounds_toArray, List.set_cons_zero, List.set_cons_succ]
  refine take_to 6 (some 38) (v := ?_) rfl rfl (by kernel_rfl) (by kernel_rfl) (by kernel_rfl) (fun _ _ _ h => h) (Or.inl ⟨by rfl, ?_⟩) (by first | trivial | assumption) ?_
  rotate_left
  focus (intro w hSw; (try dsimp only at hSw); go_simp; (try with_reducible rfl))
  simp only [Act.put, List.setIfInBounds_toArray, List.set_cons_zero, List.set_cons_succ]
  refine take_to 7 (some 39) (v := ?_) rfl rfl (by kernel_rfl) (by kernel_rfl) (by kernel_rfl) (fun _ _ _ h => h) (Or.inl ⟨by rfl, ?_⟩) (by first | trivial | assumption) ?_
  rotate_left
  focus (intro w hSw; (try dsimp only at hSw); go_simp; (try with_reducible rfl))
  simp only [Act.put, List.setIfInBounds_toArray, List.set_cons_zero, List.set_cons_succ]
  refine take_to 8 (some 40) (v := ?_) rfl rfl (by kernel_rfl) (by kernel_rfl) (by kernel_rfl) (fun _ _ _ h => h) (Or.inl ⟨by rfl, ?_⟩) (by first | trivial | assumption) ?_
  rotate_left
  focus (intro w hSw; (try dsimp only at hSw); go_simp; (try with_reducible rfl))
  simp only [Act.put, List.setIfInBounds_toArray, List.set_cons_zero, List.set_cons_succ]
  refine take_to 9 (some 41) (v := ?_) rfl rfl (by kernel_rfl) (by kernel_rfl) (by kernel_rfl) (fun _ _ _ h => h) (Or.inl ⟨by rfl, ?_⟩) (by first | trivial | assumption) ?_
  rotate_left
  focus (intro w hSw; (try dsimp only at hSw); go_simp; (try with_reducible rfl))
  simp only [Act.put, List.setIfInBounds_toArray, List.set_cons_zero, List.set_cons_succ]
  refine take_to 10 (some 42) (v := ?_) rfl rfl (by kernel_rfl) (by kernel_rfl) (by kernel_rfl) (fun _ _ _ h => h) (Or.inl ⟨by rfl, ?_⟩) (by first | trivial | assumption) ?_
  rotate_left
  focus (intro w hSw; (try dsimp only at hSw); go_simp; (try with_reducible rfl))
  simp only [Act.put, List.setIfInBounds_toArray, List.set_cons_zero, List.set_cons_succ]
  refine take_to 11 (some 43) (v := ?_) rfl rfl (by kernel_rfl) (by kernel_rfl) (by kernel_rfl) (fun _ _ _ h => h) (Or.inl ⟨by rfl, ?_⟩) (by first | trivial | assumption) ?_
  rotate_left
  focus (intro w hSw; (try dsimp only at hSw); go_simp; (try with_reducible rfl))
  simp only [Act.put, List.setIfInBounds_toArray, List.set_cons_zero, List.set_cons_succ]
  refine take_to 12 (some 44) (v := ?_) rfl rfl (by kernel_rfl) (by kernel_rfl) (by kernel_rfl) (fun _ _ _ h => h) (Or.inl ⟨by rfl, ?_⟩) (by first | trivial | assumption) ?_
  rotate_left
  focus (intro w hSw; (try dsimp only at hSw); go_simp; (try with_reducible rfl))
  simp only [Act.put, List.setIfInBounds_toArray, List.set_cons_zero, List.set_cons_succ]
  refine wpAnyH_ready (rs := [13]) (by kernel_rfl) (by simp) ?_
  refine AllReadyH.cons rfl (fun K hK => ?_) AllReadyH.nil
  go_simp
  refine (HS.out _ (H4.out.drewN 1).rg.rl).mono ?_
  rintro e w5 ⟨rfl, ⟨⟨ρ2, al2, hl5⟩, hm5⟩⟩
  have H5 := Lib.hid ((H4.out.drewN 1).acts hl5 hm5)
  have k2 := And.intro H5.out.rg.cells.2 (blk_cell H5.out.bp 0 (by simp))
  go_simp
  refine hK.out _ _ k2 (fun hHeld => ?_)
  refine take_to 14 (some 46) (v := ?_) rfl rfl (by kernel_rfl) (by kernel_rfl) (by kernel_rfl) (fun _ _ _ h => h) (Or.inl ⟨by rfl, ?_⟩) (by first | trivial | assumption) ?_
  rotate_left
  focus (intro w hSw; (try dsimp only at hSw); go_simp; (try with_reducible rfl))
  simp only [Act.put, List.setIfInBounds_toArray, List.set_cons_zero, List.set_cons_succ]
  refine wpAnyH_done (by kernel_rfl) ?_ _
  have HA2 := Lib.hid al2
  clear k2 hl5 hm5 al2 c0 c1 a0 a1 a2 a3 fa0 fa3 q0 q1 H4
  have c0 := blk_cell (H5.out).bp 0 (by simp)
  have c1 := blk_cell (H5.out).bp 1 (by simp)
  have a0 := blk_cell (H5.out).be 0 (by simp)
  have a1 := blk_cell (H5.out).be 1 (by simp)
  have a2 := blk_cell (H5.out).be 2 (by simp)
  have a3 := blk_cell (H5.out).be 3 (by simp)
  simp only [List.getElem_toArray, List.getElem_cons_zero, List.getElem_cons_succ] at c0 c1 a0 a1 a2 a3
  have fa0 := blk_free (H5.out).be 0
  have fa3 := blk_free (H5.out).be 3
  obtain ⟨q0, q1⟩ := (H5.out).rg.cells
  have HB := Lib.hid (blk_other H5.out.bo (p := ⟨w.heap.size + 2, 0, none⟩) (by simp) (.int .i64 4))
  have d0 := blk_cell HB.out 0 (by simp)
  have d1 := blk_cell HB.out 1 (by simp)
  have d2 := blk_cell HB.out 2 (by simp)
  have d3 := blk_cell HB.out 3 (by simp)
  simp only [List.getElem_toArray, List.getElem_cons_zero, List.getElem_cons_succ] at d0 d1 d2 d3
  have f0 := blk_free HB.out 0
  have f1 := blk_free HB.out 1
  have f2 := blk_free HB.out 2
  have f3 := blk_free HB.out 3
  have k0 := blk_set HB.out 0 (.int .i64 (4))
  have k1 := blk_set k0 1 (.int .i64 (t))
  have k2 := blk_set k1 2 (.bool false)
  have k3 := blk_set k2 3 (.int .i64 (0))
  have g0 := blk_cell k0 0 (by simp)
  have g1 := blk_cell k1 1 (by simp)
  have g2 := blk_cell k2 2 (by simp)
  have g3 := blk_cell k3 3 (by simp)
  simp at g0 g1 g2 g3
  clear k0 k1 k2 k3
  go_wp2_with fail
  refine bodyPost_ret (v := gev (4) (t) (0)) ?_ rfl ⟨rfl, ?_⟩
  · simp [gev, results, Tryz.results33, go_sem, g0, g1, g2, g3]
  · exact (fun h => ⟨⟨ρ2, HA2.out, h.1⟩, h.2⟩) (H5.out.fin ((((((Mod.refl [w.heap.size + 1, w.heap.size + 2] _).setCell (p := ⟨w.heap.size + 2, 0, none⟩) (by simp) (.int .i64 4)).setCell (by simp) _).setCell (by simp) _).setCell (by simp) _).setCell (by simp) _))
set_option maxHeartbeats 8000000 in
set_option maxRecDepth 100000 in
theorem rdo_1y (hw : want = 0) (hs0 : gst (spOf sp t) = 1) (hd : doK p σ sp 0 t = (true, σ2, sp2)) : Calls Tryz.prog 33 #[.pointer (some ⟨gy, 0, none⟩), .agg #[.int .i64 t, .int .i64 want]] w fun e w' => e = .returned (gev 2 t 1) ∧ (∃ ρ', Alk σ2 ρ' ∧ RG w' gy gK gL gr base hr p ρ' sp2) ∧ RMs base [gr, hr] w w' := by
  have HS := fun W (K : RFL W gK gL gr base hr p ρ sp) => rStep_flat K hA n m ho hm t
  rw [hd] at HS
  replace HS := Lib.hid HS
  have e0 := ibeq hw
  clear hw hA ho hm hd
  have hb1 : Below w.heap.size w (w.alloc (.cells #[.int .i64 t, .int .i64 want] 68)) := below_new _ _
  have hb2 : Below w.heap.size w ((w.alloc (.cells #[.int .i64 t, .int .i64 want] 68)).alloc (.cells #[.int .i64 0, .int .i64 0, .bool false, .int .i64 0] 65)) := hb1.alloc hb1.size _
  have HE := Lib.hid (show ((w.alloc (.cells #[.int .i64 t, .int .i64 want] 68)).alloc (.cells #[.int .i64 0, .int .i64 0, .bool false, .int .i64 0] 65)).heap[w.heap.size + 1]? = some (.cells #[.int .i64 0, .int .i64 0, .bool false, .int .i64 0] 65 (0, 0)) from by simpa using blk_new (w.alloc (.cells #[.int .i64 t, .int .i64 want] 68)) (.cells #[.int .i64 0, .int .i64 0, .bool false, .int .i64 0] 65))
  have HP := Lib.hid (show ((w.alloc (.cells #[.int .i64 t, .int .i64 want] 68)).alloc (.cells #[.int .i64 0, .int .i64 0, .bool false, .int .i64 0] 65)).heap[w.heap.size]? = some (.cells #[.int .i64 t, .int .i64 want] 68 (0, 0)) from (heap_alloc_old _ _ (by simp)).trans (blk_new _ _))
  have hK := K.same hb2
  have ap := Lib.hid K.blocks
  obtain ⟨cc, hSp⟩ := rSpots_q hK.rl
  have HSp := Lib.hid hSp
  have HK := Lib.hid hK
  have HM := Lib.hid (RMs.of_mod (base := base) (Mod.of_below (S := [gr, hr]) hb2))
  have hz2 : ((w.alloc (.cells #[.int .i64 t, .int .i64 want] 68)).alloc (.cells #[.int .i64 0, .int .i64 0, .bool false, .int .i64 0] 65)).heap.size = w.heap.size + 2 := by simp
  obtain ⟨q0, q1⟩ := hK.cells
  obtain ⟨_, _, hl32, _⟩ := hK.rl.at_.facts
  clear K hK hb1 hb2 hSp
  have h0 : decide (t < 0) = false := decide_eq_false (by omega)
  have h1 : decide ((sp.length : Int) ≤ t) = false := decide_eq_false (by omega)
  have h0' : ¬ t < 0 := by omega
  have h1' : ¬ (sp.length : Int) ≤ t := by omega
  have hst := gst_in (spOf sp t)
  clear ht
  go_enter Tryz.func33, Tryz.ntmps33
  go_wp2_with fail
  go_quiet ((go_at_call 23; exact Calls.quiet_of_same (HSp.out _)))
  have HK2 := Lib.hid (HK.out.drewN nq)
  have HM2 := Lib.hid (HM.out.drewN nq)
  have HE2 := Lib.hid (show (((w.alloc (.cells #[.int .i64 t, .int .i64 want] 68)).alloc (.cells #[.int .i64 0, .int .i64 0, .bool false, .int .i64 0] 65)).drewN nq).heap[w.heap.size + 1]? = some (.cells #[.int .i64 0, .int .i64 0, .bool false, .int .i64 0] 65 (0, 0)) from HE.out)
  have HP2 := Lib.hid (show (((w.alloc (.cells #[.int .i64 t, .int .i64 want] 68)).alloc (.cells #[.int .i64 0, .int .i64 0, .bool false, .int .i64 0] 65)).drewN nq).heap[w.heap.size]? = some (.cells #[.int .i64 t, .int .i64 want] 68 (0, 0)) from HP.out)
  have hz3 : (((w.alloc (.cells #[.int .i64 t, .int .i64 want] 68)).alloc (.cells #[.int .i64 0, .int .i64 0, .bool false, .int .i64 0] 65)).drewN nq).heap.size = w.heap.size + 2 := hz2
  clear HK HM HE HP q0 q1 hz2
  generalize ((w.alloc (.cells #[.int .i64 t, .int .i64 want] 68)).alloc (.cells #[.int .i64 0, .int .i64 0, .bool false, .int .i64 0] 65)).drewN nq = W2 at *
  have c0 := blk_cell HP2.out 0 (by simp)
  simp only [List.getElem_toArray, List.getElem_cons_zero, List.getElem_cons_succ] at c0
  have HD := Lib.hid (show RDo gy gK gL gr base hr p ρ sp t want 0 w (W2.alloc (.cells #[.int .i64 0, .int .i64 t, .bool false, .int .i64 0] 65)) from ⟨HK2.out.same (below_new _ _), HM2.out.trans (RMs.of_mod (Mod.of_below (below_new _ _))), (heap_alloc_old _ _ (by omega)).trans HP2.out, (heap_alloc_old _ _ (by omega)).trans HE2.out, by rw [← hz3]; exact blk_new W2 (.cells #[.int .i64 0, .int .i64 t, .bool false, .int .i64 0] 65), ap.out⟩)
  clear HK2 HM2 HE2 HP2
  go_wp2_with fail
  refine (rstate21 HD.out.rg t).mono ?_
  rintro e w4 ⟨rfl, hb4⟩
  have H4 := Lib.hid (HD.out.same hb4)
  clear hb4 HD c0 hz3
  have c0 := blk_cell (H4.out).bp 0 (by simp)
  have c1 := blk_cell (H4.out).bp 1 (by simp)
  have a0 := blk_cell (H4.out).be 0 (by simp)
  have a1 := blk_cell (H4.out).be 1 (by simp)
  have a2 := blk_cell (H4.out).be 2 (by simp)
  have a3 := blk_cell (H4.out).be 3 (by simp)
  simp only [List.getElem_toArray, List.getElem_cons_zero, List.getElem_cons_succ] at c0 c1 a0 a1 a2 a3
  have fa0 := blk_free (H4.out).be 0
  have fa3 := blk_free (H4.out).be 3
  obtain ⟨q0, q1⟩ := (H4.out).rg.cells
  clear hst
  rw [hs0]
  clear hs0
  go_wp2_with fail
  refine wp_region_held_drew (S := fun V => V.cell? ⟨gy, 1, none⟩ = some (.pointer (some ⟨gK, 0, none⟩)) ∧ V.cell? ⟨w.heap.size, 0, none⟩ = some (.int .i64 t)) (by kernel_rfl) ⟨q1, c0⟩ (fun hHeld => ?_)
  refine take_to 0 (some 32) (v := ?_) rfl rfl (by kernel_rfl) (by kernel_rfl) (by kernel_rfl) (fun _ _ _ h => h) (Or.inl ⟨by rfl, ?_⟩) (by first | trivial | assumption) ?_
  rotate_left
  focus (intro w hSw; (try dsimp only at hSw); go_simp; (try with_reducible rfl))
  simp only [Act.put, List.setIfInBounds_toArray, List.set_cons_zero, List.set_cons_succ]
  refine take_to 1 (some 33) (v := ?_) rfl rfl (by kernel_rfl) (by kernel_rfl) (by kernel_rfl) (fun _ _ _ h => h) (Or.inl ⟨by rfl, ?_⟩) (by first | trivial | assumption) ?_
  rotate_left
  focus (intro w hSw; (try dsimp only at hSw); go_simp; (try with_reducible rfl))
  simp only [Act.put, List.setIfInBounds_toArray, List.set_cons_zero, List.set_cons_succ]
  refine take_to 2 (some 34) (v := ?_) rfl rfl (by kernel_rfl) (by kernel_rfl) (by kernel_rfl) (fun _ _ _ h => h) (Or.inl ⟨by rfl, ?_⟩) (by first | trivial | assumption) ?_
  rotate_left
  focus (intro w hSw; (try dsimp only at hSw); go_simp; (try with_reducible rfl))
  simp only [Act.put, List.setIfInBounds_toArray, List.set_cons_zero, List.set_cons_succ]
  refine take_to 3 (some 35) (v := undef) rfl rfl (by kernel_rfl) (by kernel_rfl) (by kernel_rfl) (fun _ _ _ h => h) (Or.inr ⟨by rfl, rfl⟩) (by first | trivial | assumption) ?_
  simp only [Act.put, List.setIfInBounds_toArray, List.set_cons_zero, List.set_cons_succ]
  refine take_to 4 (some 36) (v := undef) rfl rfl (by kernel_rfl) (by kernel_rfl) (by kernel_rfl) (fun _ _ _ h => h) (Or.inr ⟨by rfl, rfl⟩) (by first | trivial | assumption) ?_
  simp only [Act.put, List.setIfInBounds_toArray, List.set_cons_zero, List.set_cons_succ]
  refine take_to 5 (some 37) (v := ?_) rfl rfl (by kernel_rfl) (by kernel_rfl) (by kernel_rfl) (fun _ _ _ h => h) (Or.inl ⟨by rfl, ?_⟩) (by first | trivial | assumption) ?_
  rotate_left
  focus (intro w hSw; (try dsimp only at hSw); go_simp; (try with_reducible rfl))
  simp only [Act.put, List.setIfInBounds_toArray, List.set_cons_zero, List.set_cons_succ]
  refine take_to 6 (some 38) (v := ?_) rfl rfl (by kernel_rfl) (by kernel_rfl) (by kernel_rfl) (fun _ _ _ h => h) (Or.inl ⟨by rfl, ?_⟩) (by first | trivial | assumption) ?_
  rotate_left
  focus (intro w hSw; (try dsimp only at hSw); go_simp; (try with_reducible rfl))
  simp only [Act.put, List.setIfInBounds_toArray, List.set_cons_zero, List.set_cons_succ]
  refine take_to 7 (some 39) (v := ?_) rfl rfl (by kernel_rfl) (by kernel_rfl) (by kernel_rfl) (fun _ _ _ h => h) (Or.inl ⟨by rfl, ?_⟩) (by first | trivial | assumption) ?_
  rotate_left
  focus (intro w hSw; (try dsimp only at hSw); go_simp; (try with_reducible rfl))
  simp only [Act.put, List.setIfInBounds_toArray, List.set_cons_zero, List.set_cons_succ]
  refine take_to 8 (some 40) (v := ?_) rfl rfl (by kernel_rfl) (by kernel_rfl) (by kernel_rfl) (fun _ _ _ h => h) (Or.inl ⟨by rfl, ?_⟩) (by first | trivial | assumption) ?_
  rotate_left
  focus (intro w hSw; (try dsimp only at hSw); go_simp; (try with_reducible rfl))
  simp only [Act.put, List.setIfInBounds_toArray, List.set_cons_zero, List.set_cons_succ]
  refine take_to 9 (some 41) (v := ?_) rfl rfl (by kernel_rfl) (by kernel_rfl) (by kernel_rfl) (fun _ _ _ h => h) (Or.inl ⟨by rfl, ?_⟩) (by first | trivial | assumption) ?_
  rotate_left
  focus (intro w hSw; (try dsimp only at hSw); go_simp; (try with_reducible rfl))
  simp only [Act.put, List.setIfInBounds_toArray, List.set_cons_zero, List.set_cons_succ]
  refine take_to 10 (some 42) (v := ?_) rfl rfl (by kernel_rfl) (by kernel_rfl) (by kernel_rfl) (fun _ _ _ h => h) (Or.inl ⟨by rfl, ?_⟩) (by first | trivial | assumption) ?_
  rotate_left
  focus (intro w hSw; (try dsimp only at hSw); go_simp; (try with_reducible rfl))
  simp only [Act.put, List.setIfInBounds_toArray, List.set_cons_zero, List.set_cons_succ]
  refine take_to 11 (some 43) (v := ?_) rfl rfl (by kernel_rfl) (by kernel_rfl) (by kernel_rfl) (fun _ _ _ h => h) (Or.inl ⟨by rfl, ?_⟩) (by first | trivial | assumption) ?_
  rotate_left
  focus (intro w hSw; (try dsimp only at hSw); go_simp; (try with_reducible rfl))
  simp only [Act.put, List.setIfInBounds_toArray, List.set_cons_zero, List.set_cons_succ]
  refine take_to 12 (some 44) (v := ?_) rfl rfl (by kernel_rfl) (by kernel_rfl) (by kernel_rfl) (fun _ _ _ h => h) (Or.inl ⟨by rfl, ?_⟩) (by first | trivial | assumption) ?_
  rotate_left
  focus (intro w hSw; (try dsimp only at hSw); go_simp; (try with_reducible rfl))
  simp only [Act.put, List.setIfInBounds_toArray, List.set_cons_zero, List.set_cons_succ]
  refine wpAnyH_ready (rs := [13]) (by kernel_rfl) (by simp) ?_
  refine AllReadyH.cons rfl (fun K hK => ?_) AllReadyH.nil
  go_simp
  refine (HS.out _ (H4.out.drewN 1).rg.rl).mono ?_
  rintro e w5 ⟨rfl, ⟨⟨ρ2, al2, hl5⟩, hm5⟩⟩
  have H5 := Lib.hid ((H4.out.drewN 1).acts hl5 hm5)
  have k2 := And.intro H5.out.rg.cells.2 (blk_cell H5.out.bp 0 (by simp))
  go_simp
  refine hK.out _ _ k2 (fun hHeld => ?_)
  refine take_to 14 (some 46) (v := ?_) rfl rfl (by kernel_rfl) (by kernel_rfl) (by kernel_rfl) (fun _ _ _ h => h) (Or.inl ⟨by rfl, ?_⟩) (by first | trivial | assumption) ?_
  rotate_left
  focus (intro w hSw; (try dsimp only at hSw); go_simp; (try with_reducible rfl))
  simp only [Act.put, List.setIfInBounds_toArray, List.set_cons_zero, List.set_cons_succ]
  refine wpAnyH_done (by kernel_rfl) ?_ _
  have HA2 := Lib.hid al2
  clear k2 hl5 hm5 al2 c0 c1 a0 a1 a2 a3 fa0 fa3 q0 q1 H4
  have c0 := blk_cell (H5.out).bp 0 (by simp)
  have c1 := blk_cell (H5.out).bp 1 (by simp)
  have a0 := blk_cell (H5.out).be 0 (by simp)
  have a1 := blk_cell (H5.out).be 1 (by simp)
  have a2 := blk_cell (H5.out).be 2 (by simp)
  have a3 := blk_cell (H5.out).be 3 (by simp)
  simp only [List.getElem_toArray, List.getElem_cons_zero, List.getElem_cons_succ] at c0 c1 a0 a1 a2 a3
  have fa0 := blk_free (H5.out).be 0
  have fa3 := blk_free (H5.out).be 3
  obtain ⟨q0, q1⟩ := (H5.out).rg.cells
  have HB := Lib.hid (blk_other (blk_other (blk_other H5.out.bo (p := ⟨w.heap.size + 2, 0, none⟩) (by simp) (.int .i64 4)) (p := ⟨w.heap.size + 2, 0, none⟩) (by simp) (.int .i64 2)) (p := ⟨w.heap.size + 2, 3, none⟩) (by simp) (.int .i64 1))
  have d0 := blk_cell HB.out 0 (by simp)
  have d1 := blk_cell HB.out 1 (by simp)
  have d2 := blk_cell HB.out 2 (by simp)
  have d3 := blk_cell HB.out 3 (by simp)
  simp only [List.getElem_toArray, List.getElem_cons_zero, List.getElem_cons_succ] at d0 d1 d2 d3
  have f0 := blk_free HB.out 0
  have f1 := blk_free HB.out 1
  have f2 := blk_free HB.out 2
  have f3 := blk_free HB.out 3
  have k0 := blk_set HB.out 0 (.int .i64 (2))
  have k1 := blk_set k0 1 (.int .i64 (t))
  have k2 := blk_set k1 2 (.bool false)
  have k3 := blk_set k2 3 (.int .i64 (1))
  have g0 := blk_cell k0 0 (by simp)
  have g1 := blk_cell k1 1 (by simp)
  have g2 := blk_cell k2 2 (by simp)
  have g3 := blk_cell k3 3 (by simp)
  simp at g0 g1 g2 g3
  clear k0 k1 k2 k3
  go_wp2_with fail
  refine bodyPost_ret (v := gev (2) (t) (1)) ?_ rfl ⟨rfl, ?_⟩
  · simp [gev, results, Tryz.results33, go_sem, g0, g1, g2, g3]
  · exact (fun h => ⟨⟨ρ2, HA2.out, h.1⟩, h.2⟩) (H5.out.fin ((((((((Mod.refl [w.heap.size + 1, w.heap.size + 2] _).setCell (p := ⟨w.heap.size + 2, 0, none⟩) (by simp) (.int .i64 4)).setCell (p := ⟨w.heap.size + 2, 0, none⟩) (by simp) (.int .i64 2)).setCell (p := ⟨w.heap.size + 2, 3, none⟩) (by simp) (.int .i64 1)).setCell (by simp) _).setCell (by simp) _).setCell (by simp) _).setCell (by simp) _))
end
end Go.Proofs.YthffhhgaeolpgaaGreat.Ga

/- Layer 20's law FlatPlays: where nothing is made. -/
namespace Go.Proofs.YthffhhgaeolpgaaGreat.Fl
open Go.RowKit Go.Proofs.YthffhhgaeolpgaaGreat.Ara Go.Proofs.YthffhhgaeolpgaaGreat.Lok

theorem rf_low {S : List Nat} {W W' : World} {g base : Nat} {ρ : Rf} (k : RfAt W g base ρ) (hm : Mod S W W') (hS : ∀ x ∈ S, x ≠ g ∧ x < base) : RfAt W' g base ρ := by
  obtain ⟨h1, hz, h2, h3, h4, v, h5, h6⟩ := k
  refine ⟨h1, Nat.le_trans hz hm.size, h2, h3, h4, v, hm.blk h5 (fun e => (hS g e).1 rfl), h6.1, ?_⟩
  rcases h6.2 with h | ⟨q, cap, cur, rfl, hq, hbk, rest⟩
  · exact .inl h
  · exact .inr ⟨q, cap, cur, rfl, hq, hm.blk hbk (fun e => by have := (hS q e).2; omega), rest⟩
theorem keepR {base : Nat} {S : List Nat} {W W' : World} {p : Addr} {v : Value} (hm : RMs base S W W') (h : W.cell? p = some v) (hn : p.block ∉ S) (hb : p.block < base) : W'.cell? p = some v := by
  have hb := hm.block p.block (World.block_lt_of_cell? _ _ h) hn (.inl hb)
  simpa [World.cell?, hb] using h
set_option maxHeartbeats 4000000 in
set_option maxRecDepth 100000 in
theorem plays_err (n0 n1 n2 n3 : Int) (l : List Ac) (A : Option Addr) (cap : Nat) (w : World) (hl : l.length ≤ 100) (er sz : Int) (her : er = 1 ∨ er = 3 ∨ er = 7)
    (HPn : ∀ ga ha W, ArAt W ga ha (Ar.fresh (room n0)) → Calls Tryz.prog 12 #[.pointer (some ⟨ga, 0, none⟩), .int .i64 n1, .int .i64 n2, .int .i64 n3] W fun e w' => e = .returned (.tuple #[.pointer none, .int .i64 er]) ∧ Mod [ga, ha] W w')
    (HRn : ∀ gr base W, RfAt W gr base ⟨room n0, [], 0, 0, 0, false⟩ → gr < W.heap.size → base ≤ W.heap.size → Calls Tryz.prog 13 #[.pointer (some ⟨gr, 0, none⟩), .int .i64 n1, .int .i64 n2, .int .i64 n3] W fun e w' => e = .returned (.tuple #[.pointer none, .int .i64 er]) ∧ RMs base [gr] W w')
    (HSz : ∀ W, Calls Tryz.prog 14 #[.int .i64 n1, .int .i64 n2, .int .i64 n3] W fun e w' => e = .returned (.int .i64 sz) ∧ Below W.heap.size W w')
    (HRz : ∀ W, Calls Tryz.prog 15 #[.int .i64 n1, .int .i64 n2, .int .i64 n3] W fun e w' => e = .returned (.int .i64 sz) ∧ w' = W) :
    Calls Tryz.prog 3 #[.agg #[.int .i64 n0, .int .i64 n1, .int .i64 n2, .int .i64 n3], .slice A l.length cap] w fun e w' => e = .returned (.bool true) ∧ Below w.heap.size w w' := by
  have i1 : ¬ (100 : Int) < (l.length : Int) := by omega
  replace HPn := Lib.hid HPn
  replace HRn := Lib.hid HRn
  replace HSz := Lib.hid HSz
  replace HRz := Lib.hid HRz
  have hbx := blk_new w (.cells #[.int .i64 n0, .int .i64 n1, .int .i64 n2, .int .i64 n3] 22)
  have q0 := blk_cell hbx 0 (by simp)
  have q1 := blk_cell hbx 1 (by simp)
  have q2 := blk_cell hbx 2 (by simp)
  have q3 := blk_cell hbx 3 (by simp)
  simp only [List.getElem_toArray, List.getElem_cons_zero, List.getElem_cons_succ] at q0 q1 q2 q3
  have hB0 := Lib.hid (below_new w (.cells #[.int .i64 n0, .int .i64 n1, .int .i64 n2, .int .i64 n3] 22))
  have hz0 : (w.alloc (.cells #[.int .i64 n0, .int .i64 n1, .int .i64 n2, .int .i64 n3] 22)).heap.size = w.heap.size + 1 := by simp
  clear hbx
  go_enter Tryz.func3, Tryz.ntmps3
  go_wp2_with fail
  go_region_held3 (fun V => V.cell? ⟨w.heap.size, 0, none⟩ = some (.int .i64 n0) ∧ V.cell? ⟨w.heap.size, 1, none⟩ = some (.int .i64 n1) ∧ V.cell? ⟨w.heap.size, 2, none⟩ = some (.int .i64 n2) ∧ V.cell? ⟨w.heap.size, 3, none⟩ = some (.int .i64 n3))
    (first | exact ⟨q0, q1, q2, q3⟩ | exact k1 | exact k2)
    (first
      | (go_at_call 10; refine (new_in n0 _).mono ?_; rintro e w1 ⟨rfl, hat, hz1, hb1⟩; have k1 := And.intro (keep1 hb1 (show ((w.alloc (.cells #[.int .i64 n0, .int .i64 n1, .int .i64 n2, .int .i64 n3] 22)).drewN 1).cell? _ = _ from q0)) (And.intro (keep1 hb1 (show ((w.alloc (.cells #[.int .i64 n0, .int .i64 n1, .int .i64 n2, .int .i64 n3] 22)).drewN 1).cell? _ = _ from q1)) (And.intro (keep1 hb1 (show ((w.alloc (.cells #[.int .i64 n0, .int .i64 n1, .int .i64 n2, .int .i64 n3] 22)).drewN 1).cell? _ = _ from q2)) (keep1 hb1 (show ((w.alloc (.cells #[.int .i64 n0, .int .i64 n1, .int .i64 n2, .int .i64 n3] 22)).drewN 1).cell? _ = _ from q3)))))
      | (go_at_call 11; refine (rnew_any n0 _).mono ?_; rintro e w2 ⟨rfl, hr, hz2, hb2⟩; have k2 := And.intro (keep1 hb2 k1.1) (And.intro (keep1 hb2 k1.2.1) (And.intro (keep1 hb2 k1.2.2.1) (keep1 hb2 k1.2.2.2)))))
  have hzd : (w.alloc (.cells #[.int .i64 n0, .int .i64 n1, .int .i64 n2, .int .i64 n3] 22)).drew.heap.size = w.heap.size + 1 := hz0
  have hBd : Below w.heap.size w (w.alloc (.cells #[.int .i64 n0, .int .i64 n1, .int .i64 n2, .int .i64 n3] 22)).drew := Below.drew hB0.out
  rw [hzd] at hat hz1 hb1
  have hB1 : Below w.heap.size w w1 := hBd.trans (hb1.mono (by omega))
  have hz1' : w1.heap.size = w.heap.size + 3 := by omega
  rw [hz1'] at hr hz2 hb2
  have HA := Lib.hid (show ArAt w2 (w.heap.size + 2) (w.heap.size + 1) (Ar.fresh (room n0)) from hat.step (by rw [hz1']; exact hb2))
  have HR := Lib.hid (show RfAt w2 (w.heap.size + 3) (w.heap.size + 4) ⟨room n0, [], 0, 0, 0, false⟩ from hr)
  have HB := Lib.hid (hB1.trans (hb2.mono (by omega)))
  have hz : w2.heap.size = w.heap.size + 4 := by omega
  obtain ⟨c0, c1, c2, c3⟩ := k2
  clear hat hr hB0 hB1 hBd hb1 hb2 hz2 hz1 hzd hz0 hz1' k1 q0 q1 q2 q3
  go_wp2_with fail
  refine (HPn.out _ _ _ HA.out).mono ?_
  rintro e w3 ⟨rfl, hm3⟩
  have d0 := keepM hm3 c0 (by simp)
  have d1 := keepM hm3 c1 (by simp)
  have d2 := keepM hm3 c2 (by simp)
  have d3 := keepM hm3 c3 (by simp)
  have HR3 := Lib.hid (rf_low HR.out hm3 (by simp))
  have HB3 := Lib.hid (HB.out.trans (hm3.below (by omega) (by simp)))
  have hz3 := hm3.size
  clear c0 c1 c2 c3 HR HB HA hm3
  go_wp2_with fail
  refine (HRn.out _ _ _ HR3.out (by omega) (by omega)).mono ?_
  rintro e w4 ⟨rfl, hm4⟩
  have c0 := keepR hm4 d0 (by simp) (by simp)
  have c1 := keepR hm4 d1 (by simp) (by simp)
  have c2 := keepR hm4 d2 (by simp) (by simp)
  have c3 := keepR hm4 d3 (by simp) (by simp)
  have HB4 := Lib.hid (RMs.below HB3.out hm4 (by omega) (by omega) (by simp))
  have hz4 := hm4.size
  clear d0 d1 d2 d3 HR3 HB3 hm4 HPn HRn
  have HD := Lib.hid (fun W => pdoor n1 W)
  have HE := Lib.hid (fun W => rdoor n1 W)
  generalize doorK n1 = dk at *
  rcases her with rfl | rfl | rfl
  all_goals
    go_wp2_with fail
    go_region_held3 (fun V => V.cell? ⟨w.heap.size, 1, none⟩ = some (.int .i64 n1) ∧ V.cell? ⟨w.heap.size, 2, none⟩ = some (.int .i64 n2) ∧ V.cell? ⟨w.heap.size, 3, none⟩ = some (.int .i64 n3))
      (first | exact ⟨c1, c2, c3⟩ | exact k1)
      (first
        | (go_at_call 14; refine (HSz.out _).mono ?_; rintro e w5 ⟨rfl, hb5⟩; have k1 := And.intro (keep1 hb5 (show (w4.drewN 1).cell? _ = _ from c1)) (And.intro (keep1 hb5 (show (w4.drewN 1).cell? _ = _ from c2)) (keep1 hb5 (show (w4.drewN 1).cell? _ = _ from c3))))
        | (go_at_call 15; refine (HRz.out _).mono ?_; rintro e wx ⟨rfl, hwx⟩; obtain rfl := hwx.symm)
        | (go_at_call 16; refine (HD.out _).mono ?_; rintro e wx ⟨rfl, hwx⟩; obtain rfl := hwx.symm)
        | (go_at_call 17; refine (HE.out _).mono ?_; rintro e wx ⟨rfl, hwx⟩; obtain rfl := hwx.symm))
    have HB5 := Lib.hid (HB4.out.trans ((Below.drew (Below.refl _ w4)).trans (hb5.mono (by show w.heap.size ≤ w4.heap.size; omega))))
    clear k1 hb5 c0 c1 c2 c3
    go_wp2_with fail
    refine (awake20 _).mono ?_
    rintro e w9 ⟨rfl, hb9⟩
    have HB9 := Lib.hid (HB5.out.trans (hb9.mono HB5.out.size))
    clear hb9
    go_wp2_with fail
    go_ret
    exact ⟨rfl, HB9.out⟩
end Go.Proofs.YthffhhgaeolpgaaGreat.Fl

