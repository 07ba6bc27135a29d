/- Merged texts: Cl3, Cl4, Cl5, Rsp, Ta1, Ta2. -/
import Derived.Test.YthffhhgaeolpgaaGreatGq4
import Derived.Deep.RegionHeld3
set_option linter.unusedVariables false
/- Package clh: Step, Alone. -/
namespace Go.Proofs.YthffhhgaeolpgaaGreat.Cl
open Go.RowKit Go.Proofs.YthffhhgaeolpgaaGreat.Ara Go.Proofs.YthffhhgaeolpgaaGreat.Lok

theorem sfld0 (a b c d : Int) (W : World) : (Instr.field 53 (.agg #[.int .i64 a, .int .i64 b, .int .i64 c, .int .i64 d]) 0).run Tryz.prog W = .ok (.int .i64 a) W := by
  simp [Instr.field, run_underlying Tryz.underlying53, asAgg, go_sem]
section
variable (gl ga ha hs : Nat) (P : Par) (σ : Ar) (sp : List Sp) (w : World) (H : LkAt w gl ga ha hs P σ sp)
include H
theorem step_none (i : Int) (h1 : (spOf sp i).pc ≠ 1) (h2 : (spOf sp i).pc ≠ 2) (h3 : (spOf sp i).pc ≠ 3) (h4 : (spOf sp i).pc ≠ 11) : Calls Tryz.prog 198 #[.pointer (some ⟨gl, 0, none⟩), .int .i64 i] w fun e w' => e = .returned (.bool false) ∧ LkAt w' gl ga ha hs P σ sp ∧ Mod [ga, ha, hs] w w' := by
  have hbn := below_new w (.cells #[.pointer (some ⟨gl, 0, none⟩)] 111)
  have H1 := Lib.hid (H.same hbn)
  have c0 := blk_cell (blk_new w (.cells #[.pointer (some ⟨gl, 0, none⟩)] 111)) 0 (by simp)
  simp only [List.getElem_toArray, List.getElem_cons_zero] at c0
  by_cases hi : i < 0 ∨ (sp.length : Int) ≤ i
  · have HS := Lib.hid (spot_out_lk gl ga ha hs P σ sp _ H1.out i hi)
    clear H hi h1 h2 h3 h4
    go_enter Tryz.func198, Tryz.ntmps198
    go_wp2_with fail
    refine (HS.out).mono ?_
    rintro e wx ⟨rfl, hwx⟩
    obtain rfl := hwx.symm
    go_wp2_with fail
    go_ret
    exact ⟨rfl, H1.out, Mod.of_below hbn⟩
  · obtain ⟨k, rfl⟩ := Int.eq_ofNat_of_zero_le (show 0 ≤ i by omega)
    have hk : k < sp.length := by omega
    have hmf : ∀ (fn : Fn) (first cap : Array Value) (w : World), (Instr.makeFunc fn first cap).run Tryz.prog w = .ok (.func fn first cap) w := fun _ _ _ _ => rfl
    have HS := Lib.hid (spot_in_lk gl ga ha hs P σ sp _ H1.out k hk)
    have s0 := (H1.out.2.1.cells k hk).1
    rw [spOf_in hk] at h1 h2 h3 h4
    generalize sp[k].pc = xp at *
    have e1 := ibeq_no h1
    have e2 := ibeq_no h2
    have e3 := ibeq_no h3
    have e4 := ibeq_no h4
    clear H hi h1 h2 h3 h4 hk
    go_enter Tryz.func198, Tryz.ntmps198
    go_wp2_with fail
    refine (HS.out).mono ?_
    rintro e wx ⟨rfl, hwx⟩
    obtain rfl := hwx.symm
    go_wp2_with fail
    go_ret
    exact ⟨rfl, H1.out, Mod.of_below hbn⟩
theorem step_lk (hN : Num P σ sp) (i : Int) : Calls Tryz.prog 198 #[.pointer (some ⟨gl, 0, none⟩), .int .i64 i] w fun e w' => e = .returned (.bool (stepP P σ sp i).1) ∧ LkAt w' gl ga ha hs P (stepP P σ sp i).2.1 (stepP P σ sp i).2.2 ∧ Mod [ga, ha, hs] w w' := by
  by_cases h : (spOf sp i).pc = 1 ∨ (spOf sp i).pc = 2 ∨ (spOf sp i).pc = 3 ∨ (spOf sp i).pc = 11
  · obtain ⟨i0, i1⟩ := spOf_range (sp := sp) (i := i) (by omega)
    obtain ⟨k, rfl⟩ := Int.eq_ofNat_of_zero_le i0
    have hk : k < sp.length := by omega
    unfold stepP
    rw [spOf_in hk] at h ⊢
    simp only [Int.toNat_natCast]
    rcases h with h | h | h | h
    · rw [if_pos h]
      exact step_one gl ga ha hs P σ sp w H hN k hk h
    · rw [if_neg (by omega), if_pos h]
      exact step_two gl ga ha hs P σ sp w H hN k hk h
    · rw [if_neg (by omega), if_neg (by omega), if_pos h]
      exact step_three gl ga ha hs P σ sp w H hN k hk h
    · rw [if_neg (by omega), if_neg (by omega), if_neg (by omega), if_pos h]
      exact step_out gl ga ha hs P σ sp w H hN k hk h
  · have e : stepP P σ sp i = (false, σ, sp) := by unfold stepP; rw [if_neg (by omega), if_neg (by omega), if_neg (by omega), if_neg (by omega)]
    rw [e]
    exact step_none gl ga ha hs P σ sp w H i (by omega) (by omega) (by omega) (by omega)
set_option maxHeartbeats 4000000 in
set_option maxRecDepth 100000 in
theorem alone_lk (hN : Num P σ sp) (i : Int) : Calls Tryz.prog 193 #[.pointer (some ⟨gl, 0, none⟩), .int .i64 i] w fun e w' => e = .returned (.bool (aloneP P σ sp i).1) ∧ LkAt w' gl ga ha hs P (aloneP P σ sp i).2 sp ∧ Mod [ga, ha] w w' := by
  have q1 := fun a b c d W => sfld0 a b c d W
  by_cases hp : (spOf sp i).pc = 10
  · have e : aloneP P σ sp i = (σ.get P.tail == (spOf sp i).a, σ.op 1 P.tail false 0) := by unfold aloneP; rw [if_pos hp]
    rw [e]
    clear e
    obtain ⟨i0, i1⟩ := spOf_range (sp := sp) (i := i) (by omega)
    obtain ⟨k, rfl⟩ := Int.eq_ofNat_of_zero_le i0
    have hk : k < sp.length := by omega
    have HSt := Lib.hid (fun W (K : LkAt W gl ga ha hs P σ sp) => load_any ga ha σ W K.1 hN.2.2.1 P.tail)
    have hth := lth H.1 hN.2.2.2
    obtain ⟨d1, d2, d3, d4, d5⟩ := H.2.2.2.2
    have HK7 := Lib.hid (H.drewN 1)
    obtain ⟨⟨cc, q0, q1', q2⟩, _⟩ := H.heads
    have s1 := (H.2.1.cells k hk).2.1
    have HSp := Lib.hid (Spot_lk gl ga ha hs P σ sp (w.drewN 1) HK7.out (k : Int))
    rw [spOf_in hk] at hp
    rw [spOf_in hk, hp] at HSp
    rw [spOf_in hk]
    have e3 : (k : Int) < (sp.length : Int) := by omega
    have e4 : (0 : Int) ≤ (k : Int) := by omega
    have e5 : (k : Int).toNat = k := by omega
    generalize sp[k].a = xa at *
    generalize sp[k].b = xb at *
    generalize sp[k].c = xc at *
    generalize σ.op 1 P.tail false 0 = σ2 at *
    generalize σ.get P.tail = x at *
    have hm1 : Mod [ga, ha] w (w.drewN 1) := (Mod.refl _ _).drewN 1
    have e6 : (x == xa) = decide (x = xa) := by by_cases h : x = xa <;> simp [h]
    have HE6 := Lib.hid e6
    clear H hN hp hk i0 i1 e6
    go_enter Tryz.func193, Tryz.ntmps193
    go_wp2_with fail
    refine wp_region_held_drew (S := fun V => V.cell? ⟨gl, 0, none⟩ = some (.pointer (some ⟨ga, 0, none⟩)) ∧ V.cell? ⟨gl, 1, none⟩ = some (.int .i64 P.tail) ∧ V.cell? ⟨gl, 2, none⟩ = some (.slice (some ⟨hs, 0, none⟩) sp.length cc) ∧ V.cell? ⟨hs, k * 4 + 1, none⟩ = some (.int .i64 xa)) (by kernel_rfl) ⟨q0, q1', q2, s1⟩ (fun hHeld => ?_)
    refine take_to 0 (some 5) (v := ?_) rfl rfl (by kernel_rfl) (by kernel_rfl) (by kernel_rfl) (fun _ _ _ h => h) (Or.inl ⟨by rfl, ?_⟩) (by first | trivial | assumption) ?_
    rotate_left
    focus (intro w hSw; (try dsimp only at hSw); go_simp; (try with_reducible rfl))
    simp only [Act.put, List.setIfInBounds_toArray, List.set_cons_zero, List.set_cons_succ]
    refine take_to 1 (some 6) (v := ?_) rfl rfl (by kernel_rfl) (by kernel_rfl) (by kernel_rfl) (fun _ _ _ h => h) (Or.inl ⟨by rfl, ?_⟩) (by first | trivial | assumption) ?_
    rotate_left
    focus (intro w hSw; (try dsimp only at hSw); go_simp; (try with_reducible rfl))
    simp only [Act.put, List.setIfInBounds_toArray, List.set_cons_zero, List.set_cons_succ]
    refine wpAnyH_ready (rs := [2]) (by kernel_rfl) (by simp) ?_
    refine AllReadyH.cons rfl (fun K hK => ?_) AllReadyH.nil
    go_simp
    refine HSp.out.mono ?_
    rintro e w2 ⟨rfl, hb2⟩
    have H2 := Lib.hid (HK7.out.same hb2)
    have hm2 : Mod [ga, ha] w w2 := hm1.trans (Mod.of_below hb2)
    go_simp
    refine hK.out _ _ ⟨keep1 hb2 hHeld.1, keep1 hb2 hHeld.2.1, keep1 hb2 hHeld.2.2.1, keep1 hb2 hHeld.2.2.2⟩ (fun hHeld => ?_)
    clear hb2
    refine take_to 3 (some 8) (v := ?_) rfl rfl (by kernel_rfl) (by kernel_rfl) (by kernel_rfl) (fun _ _ _ h => h) (Or.inl ⟨by rfl, ?_⟩) (by first | trivial | assumption) ?_
    rotate_left
    focus (intro w hSw; (try dsimp only at hSw); go_simp; (try with_reducible rfl))
    simp only [Act.put, List.setIfInBounds_toArray, List.set_cons_zero, List.set_cons_succ]
    refine take_to 4 (some 9) (v := ?_) rfl rfl (by kernel_rfl) (by kernel_rfl) (by kernel_rfl) (fun _ _ _ h => h) (Or.inl ⟨by rfl, ?_⟩) (by first | trivial | assumption) ?_
    rotate_left
    focus (intro w hSw; (try dsimp only at hSw); go_simp; (try with_reducible rfl))
    simp only [Act.put, List.setIfInBounds_toArray, List.set_cons_zero, List.set_cons_succ]
    refine take_to 5 (some 10) (v := ?_) rfl rfl (by kernel_rfl) (by kernel_rfl) (by kernel_rfl) (fun _ _ _ h => h) (Or.inl ⟨by rfl, ?_⟩) (by first | trivial | assumption) ?_
    rotate_left
    focus (intro w hSw; (try dsimp only at hSw); go_simp; (try with_reducible rfl))
    simp only [Act.put, List.setIfInBounds_toArray, List.set_cons_zero, List.set_cons_succ]
    refine take_to 6 (some 11) (v := ?_) rfl rfl (by kernel_rfl) (by kernel_rfl) (by kernel_rfl) (fun _ _ _ h => h) (Or.inl ⟨by rfl, ?_⟩) (by first | trivial | assumption) ?_
    rotate_left
    focus (intro w hSw; (try dsimp only at hSw); go_simp; (try with_reducible rfl))
    simp only [Act.put, List.setIfInBounds_toArray, List.set_cons_zero, List.set_cons_succ]
    refine take_to 7 (some 12) (v := ?_) rfl rfl (by kernel_rfl) (by kernel_rfl) (by kernel_rfl) (fun _ _ _ h => h) (Or.inl ⟨by rfl, ?_⟩) (by first | trivial | assumption) ?_
    rotate_left
    focus (intro w hSw; (try dsimp only at hSw); go_simp; (try with_reducible rfl))
    simp only [Act.put, List.setIfInBounds_toArray, List.set_cons_zero, List.set_cons_succ]
    refine take_to 8 (some 13) (v := ?_) rfl rfl (by kernel_rfl) (by kernel_rfl) (by kernel_rfl) (fun _ _ _ h => h) (Or.inl ⟨by rfl, ?_⟩) (by first | trivial | assumption) ?_
    rotate_left
    focus (intro w hSw; (try dsimp only at hSw); go_simp; (try with_reducible rfl))
    simp only [Act.put, List.setIfInBounds_toArray, List.set_cons_zero, List.set_cons_succ]
    refine take_to 9 (some 14) (v := ?_) rfl rfl (by kernel_rfl) (by kernel_rfl) (by kernel_rfl) (fun _ _ _ h => h) (Or.inl ⟨by rfl, ?_⟩) (by first | trivial | assumption) ?_
    rotate_left
    focus (intro w hSw; (try dsimp only at hSw); go_simp; (try with_reducible rfl))
    simp only [Act.put, List.setIfInBounds_toArray, List.set_cons_zero, List.set_cons_succ]
    refine take_to 10 (some 15) (v := ?_) rfl rfl (by kernel_rfl) (by kernel_rfl) (by kernel_rfl) (fun _ _ _ h => h) (Or.inl ⟨by rfl, ?_⟩) (by first | trivial | assumption) ?_
    rotate_left
    focus (intro w hSw; (try dsimp only at hSw); go_simp; (try with_reducible rfl))
    simp only [Act.put, List.setIfInBounds_toArray, List.set_cons_zero, List.set_cons_succ]
    refine take_to 11 (some 16) (v := ?_) rfl rfl (by kernel_rfl) (by kernel_rfl) (by kernel_rfl) (fun _ _ _ h => h) (Or.inl ⟨by rfl, ?_⟩) (by first | trivial | assumption) ?_
    rotate_left
    focus (intro w hSw; (try dsimp only at hSw); go_simp; (try with_reducible rfl))
    simp only [Act.put, List.setIfInBounds_toArray, List.set_cons_zero, List.set_cons_succ]
    refine take_to 12 (some 17) (v := ?_) rfl rfl (by kernel_rfl) (by kernel_rfl) (by kernel_rfl) (fun _ _ _ h => h) (Or.inl ⟨by rfl, ?_⟩) (by first | trivial | assumption) ?_
    rotate_left
    focus (intro w hSw; (try dsimp only at hSw); go_simp; (try with_reducible rfl))
    simp only [Act.put, List.setIfInBounds_toArray, List.set_cons_zero, List.set_cons_succ]
    refine take_to 13 (some 18) (v := ?_) rfl rfl (by kernel_rfl) (by kernel_rfl) (by kernel_rfl) (fun _ _ _ h => h) (Or.inl ⟨by rfl, ?_⟩) (by first | trivial | assumption) ?_
    rotate_left
    focus (intro w hSw; (try dsimp only at hSw); go_simp; (try with_reducible rfl))
    simp only [Act.put, List.setIfInBounds_toArray, List.set_cons_zero, List.set_cons_succ]
    refine take_to 15 (some 20) (v := ?_) rfl rfl (by kernel_rfl) (by kernel_rfl) (by kernel_rfl) (fun _ _ _ h => h) (Or.inl ⟨by rfl, ?_⟩) (by first | trivial | assumption) ?_
    rotate_left
    focus (intro w hSw; (try dsimp only at hSw); go_simp; (try with_reducible rfl))
    simp only [Act.put, List.setIfInBounds_toArray, List.set_cons_zero, List.set_cons_succ]
    refine take_to 16 (some 21) (v := ?_) rfl rfl (by kernel_rfl) (by kernel_rfl) (by kernel_rfl) (fun _ _ _ h => h) (Or.inl ⟨by rfl, ?_⟩) (by first | trivial | assumption) ?_
    rotate_left
    focus (intro w hSw; (try dsimp only at hSw); go_simp; (try with_reducible rfl))
    simp only [Act.put, List.setIfInBounds_toArray, List.set_cons_zero, List.set_cons_succ]
    refine take_to 17 (some 22) (v := ?_) rfl rfl (by kernel_rfl) (by kernel_rfl) (by kernel_rfl) (fun _ _ _ h => h) (Or.inl ⟨by rfl, ?_⟩) (by first | trivial | assumption) ?_
    rotate_left
    focus (intro w hSw; (try dsimp only at hSw); go_simp; (try with_reducible rfl))
    simp only [Act.put, List.setIfInBounds_toArray, List.set_cons_zero, List.set_cons_succ]
    refine take_to 18 (some 23) (v := ?_) rfl rfl (by kernel_rfl) (by kernel_rfl) (by kernel_rfl) (fun _ _ _ h => h) (Or.inl ⟨by rfl, ?_⟩) (by first | trivial | assumption) ?_
    rotate_left
    focus (intro w hSw; (try dsimp only at hSw); go_simp; (try with_reducible rfl))
    simp only [Act.put, List.setIfInBounds_toArray, List.set_cons_zero, List.set_cons_succ]
    refine take_to 19 (some 24) (v := ?_) rfl rfl (by kernel_rfl) (by kernel_rfl) (by kernel_rfl) (fun _ _ _ h => h) (Or.inl ⟨by rfl, ?_⟩) (by first | trivial | assumption) ?_
    rotate_left
    focus (intro w hSw; (try dsimp only at hSw); go_simp; (try with_reducible rfl))
    simp only [Act.put, List.setIfInBounds_toArray, List.set_cons_zero, List.set_cons_succ]
    refine take_to 20 (some 25) (v := ?_) rfl rfl (by kernel_rfl) (by kernel_rfl) (by kernel_rfl) (fun _ _ _ h => h) (Or.inl ⟨by rfl, ?_⟩) (by first | trivial | assumption) ?_
    rotate_left
    focus (intro w hSw; (try dsimp only at hSw); go_simp; (try with_reducible rfl))
    simp only [Act.put, List.setIfInBounds_toArray, List.set_cons_zero, List.set_cons_succ]
    refine take_to 21 (some 26) (v := ?_) rfl rfl (by kernel_rfl) (by kernel_rfl) (by kernel_rfl) (fun _ _ _ h => h) (Or.inl ⟨by rfl, ?_⟩) (by first | trivial | assumption) ?_
    rotate_left
    focus (intro w hSw; (try dsimp only at hSw); go_simp; (try with_reducible rfl))
    simp only [Act.put, List.setIfInBounds_toArray, List.set_cons_zero, List.set_cons_succ]
    refine take_to 22 (some 27) (v := ?_) rfl rfl (by kernel_rfl) (by kernel_rfl) (by kernel_rfl) (fun _ _ _ h => h) (Or.inl ⟨by rfl, ?_⟩) (by first | trivial | assumption) ?_
    rotate_left
    focus (intro w hSw; (try dsimp only at hSw); go_simp; (try with_reducible rfl))
    simp only [Act.put, List.setIfInBounds_toArray, List.set_cons_zero, List.set_cons_succ]
    refine wpAnyH_ready (rs := [14]) (by kernel_rfl) (by simp) ?_
    refine AllReadyH.cons rfl (fun K hK => ?_) AllReadyH.nil
    go_simp
    refine (HSt.out _ H2.out).mono ?_
    rintro e w3 ⟨rfl, ha3, hm3⟩
    have H3 := Lib.hid (H2.out.arena ha3 hm3)
    go_simp
    refine hK.out _ _ ⟨keepM hm3 hHeld.1 (by simp; omega), keepM hm3 hHeld.2.1 (by simp; omega), keepM hm3 hHeld.2.2.1 (by simp; omega), keepM hm3 hHeld.2.2.2 (by simp; omega)⟩ (fun hHeld => ?_)
    refine take_to 23 (some 28) (v := ?_) rfl rfl (by kernel_rfl) (by kernel_rfl) (by kernel_rfl) (fun _ _ _ h => h) (Or.inl ⟨by rfl, ?_⟩) (by first | trivial | assumption) ?_
    rotate_left
    focus (intro w hSw; (try dsimp only at hSw); go_simp; (try with_reducible rfl))
    simp only [Act.put, List.setIfInBounds_toArray, List.set_cons_zero, List.set_cons_succ]
    refine take_to 24 (some 29) (v := ?_) rfl rfl (by kernel_rfl) (by kernel_rfl) (by kernel_rfl) (fun _ _ _ h => h) (Or.inl ⟨by rfl, ?_⟩) (by first | trivial | assumption) ?_
    rotate_left
    focus (intro w hSw; (try dsimp only at hSw); go_simp; (try with_reducible rfl))
    simp only [Act.put, List.setIfInBounds_toArray, List.set_cons_zero, List.set_cons_succ]
    refine take_to 25 (some 4) (v := ?_) rfl rfl (by kernel_rfl) (by kernel_rfl) (by kernel_rfl) (fun _ _ _ h => h) (Or.inl ⟨by rfl, ?_⟩) (by first | trivial | assumption) ?_
    rotate_left
    focus (intro w hSw; (try dsimp only at hSw); go_simp; (try with_reducible rfl))
    simp only [Act.put, List.setIfInBounds_toArray, List.set_cons_zero, List.set_cons_succ]
    refine wpAnyH_done (by kernel_rfl) ?_ _
    have hm4 := hm2.trans hm3
    clear ha3 hm3
    go_wp2_with fail
    go_ret
    exact ⟨rfl, H3.out, hm4⟩
  · have e : aloneP P σ sp i = (false, σ) := by unfold aloneP; rw [if_neg hp]
    rw [e]
    clear e
    have HK7 := Lib.hid (H.drewN 1)
    have HSp := Lib.hid (Spot_lk gl ga ha hs P σ sp (w.drewN 1) HK7.out i)
    have hm1 : Mod [ga, ha] w (w.drewN 1) := (Mod.refl _ _).drewN 1
    have e9 := ibeq_no hp
    generalize spOf sp i = s at *
    obtain ⟨xp, xa, xb, xc⟩ := s
    clear H hN hp
    go_enter Tryz.func193, Tryz.ntmps193
    go_wp2_with fail
    refine wp_region_held_drew (S := fun _ => True) (by kernel_rfl) trivial (fun hHeld => ?_)
    refine take_to 0 (some 5) (v := ?_) rfl rfl (by kernel_rfl) (by kernel_rfl) (by kernel_rfl) (fun _ _ _ h => h) (Or.inl ⟨by rfl, ?_⟩) (by first | trivial | assumption) ?_
    rotate_left
    focus (intro w hSw; (try dsimp only at hSw); go_simp; (try with_reducible rfl))
    simp only [Act.put, List.setIfInBounds_toArray, List.set_cons_zero, List.set_cons_succ]
    refine take_to 1 (some 6) (v := ?_) rfl rfl (by kernel_rfl) (by kernel_rfl) (by kernel_rfl) (fun _ _ _ h => h) (Or.inl ⟨by rfl, ?_⟩) (by first | trivial | assumption) ?_
    rotate_left
    focus (intro w hSw; (try dsimp only at hSw); go_simp; (try with_reducible rfl))
    simp only [Act.put, List.setIfInBounds_toArray, List.set_cons_zero, List.set_cons_succ]
    refine wpAnyH_ready (rs := [2]) (by kernel_rfl) (by simp) ?_
    refine AllReadyH.cons rfl (fun K hK => ?_) AllReadyH.nil
    go_simp
    refine HSp.out.mono ?_
    rintro e w2 ⟨rfl, hb2⟩
    have H2 := Lib.hid (HK7.out.same hb2)
    have hm2 : Mod [ga, ha] w w2 := hm1.trans (Mod.of_below hb2)
    go_simp
    refine hK.out _ _ trivial (fun hHeld => ?_)
    clear hb2
    refine take_to 3 (some 8) (v := ?_) rfl rfl (by kernel_rfl) (by kernel_rfl) (by kernel_rfl) (fun _ _ _ h => h) (Or.inl ⟨by rfl, ?_⟩) (by first | trivial | assumption) ?_
    rotate_left
    focus (intro w hSw; (try dsimp only at hSw); go_simp; (try with_reducible rfl))
    simp only [Act.put, List.setIfInBounds_toArray, List.set_cons_zero, List.set_cons_succ]
    refine take_to 4 (some 9) (v := ?_) rfl rfl (by kernel_rfl) (by kernel_rfl) (by kernel_rfl) (fun _ _ _ h => h) (Or.inl ⟨by rfl, ?_⟩) (by first | trivial | assumption) ?_
    rotate_left
    focus (intro w hSw; (try dsimp only at hSw); go_simp; (try with_reducible rfl))
    simp only [Act.put, List.setIfInBounds_toArray, List.set_cons_zero, List.set_cons_succ]
    refine take_to 5 (some 10) (v := ?_) rfl rfl (by kernel_rfl) (by kernel_rfl) (by kernel_rfl) (fun _ _ _ h => h) (Or.inl ⟨by rfl, ?_⟩) (by first | trivial | assumption) ?_
    rotate_left
    focus (intro w hSw; (try dsimp only at hSw); go_simp; (try with_reducible rfl))
    simp only [Act.put, List.setIfInBounds_toArray, List.set_cons_zero, List.set_cons_succ]
    refine take_to 6 (some 11) (v := undef) rfl rfl (by kernel_rfl) (by kernel_rfl) (by kernel_rfl) (fun _ _ _ h => h) (Or.inr ⟨by rfl, rfl⟩) (by first | trivial | assumption) ?_
    simp only [Act.put, List.setIfInBounds_toArray, List.set_cons_zero, List.set_cons_succ]
    refine take_to 7 (some 12) (v := undef) rfl rfl (by kernel_rfl) (by kernel_rfl) (by kernel_rfl) (fun _ _ _ h => h) (Or.inr ⟨by rfl, rfl⟩) (by first | trivial | assumption) ?_
    simp only [Act.put, List.setIfInBounds_toArray, List.set_cons_zero, List.set_cons_succ]
    refine take_to 8 (some 13) (v := undef) rfl rfl (by kernel_rfl) (by kernel_rfl) (by kernel_rfl) (fun _ _ _ h => h) (Or.inr ⟨by rfl, rfl⟩) (by first | trivial | assumption) ?_
    simp only [Act.put, List.setIfInBounds_toArray, List.set_cons_zero, List.set_cons_succ]
    refine take_to 9 (some 14) (v := undef) rfl rfl (by kernel_rfl) (by kernel_rfl) (by kernel_rfl) (fun _ _ _ h => h) (Or.inr ⟨by rfl, rfl⟩) (by first | trivial | assumption) ?_
    simp only [Act.put, List.setIfInBounds_toArray, List.set_cons_zero, List.set_cons_succ]
    refine take_to 10 (some 15) (v := undef) rfl rfl (by kernel_rfl) (by kernel_rfl) (by kernel_rfl) (fun _ _ _ h => h) (Or.inr ⟨by rfl, rfl⟩) (by first | trivial | assumption) ?_
    simp only [Act.put, List.setIfInBounds_toArray, List.set_cons_zero, List.set_cons_succ]
    refine take_to 11 (some 16) (v := undef) rfl rfl (by kernel_rfl) (by kernel_rfl) (by kernel_rfl) (fun _ _ _ h => h) (Or.inr ⟨by rfl, rfl⟩) (by first | trivial | assumption) ?_
    simp only [Act.put, List.setIfInBounds_toArray, List.set_cons_zero, List.set_cons_succ]
    refine take_to 12 (some 17) (v := undef) rfl rfl (by kernel_rfl) (by kernel_rfl) (by kernel_rfl) (fun _ _ _ h => h) (Or.inr ⟨by rfl, rfl⟩) (by first | trivial | assumption) ?_
    simp only [Act.put, List.setIfInBounds_toArray, List.set_cons_zero, List.set_cons_succ]
    refine take_to 13 (some 18) (v := undef) rfl rfl (by kernel_rfl) (by kernel_rfl) (by kernel_rfl) (fun _ _ _ h => h) (Or.inr ⟨by rfl, rfl⟩) (by first | trivial | assumption) ?_
    simp only [Act.put, List.setIfInBounds_toArray, List.set_cons_zero, List.set_cons_succ]
    refine take_to 14 (some 19) (v := undef) rfl rfl (by kernel_rfl) (by kernel_rfl) (by kernel_rfl) (fun _ _ _ h => h) (Or.inr ⟨by rfl, rfl⟩) (by first | trivial | assumption) ?_
    simp only [Act.put, List.setIfInBounds_toArray, List.set_cons_zero, List.set_cons_succ]
    refine take_to 15 (some 20) (v := undef) rfl rfl (by kernel_rfl) (by kernel_rfl) (by kernel_rfl) (fun _ _ _ h => h) (Or.inr ⟨by rfl, rfl⟩) (by first | trivial | assumption) ?_
    simp only [Act.put, List.setIfInBounds_toArray, List.set_cons_zero, List.set_cons_succ]
    refine take_to 16 (some 21) (v := undef) rfl rfl (by kernel_rfl) (by kernel_rfl) (by kernel_rfl) (fun _ _ _ h => h) (Or.inr ⟨by rfl, rfl⟩) (by first | trivial | assumption) ?_
    simp only [Act.put, List.setIfInBounds_toArray, List.set_cons_zero, List.set_cons_succ]
    refine take_to 17 (some 22) (v := undef) rfl rfl (by kernel_rfl) (by kernel_rfl) (by kernel_rfl) (fun _ _ _ h => h) (Or.inr ⟨by rfl, rfl⟩) (by first | trivial | assumption) ?_
    simp only [Act.put, List.setIfInBounds_toArray, List.set_cons_zero, List.set_cons_succ]
    refine take_to 18 (some 23) (v := undef) rfl rfl (by kernel_rfl) (by kernel_rfl) (by kernel_rfl) (fun _ _ _ h => h) (Or.inr ⟨by rfl, rfl⟩) (by first | trivial | assumption) ?_
    simp only [Act.put, List.setIfInBounds_toArray, List.set_cons_zero, List.set_cons_succ]
    refine take_to 19 (some 24) (v := undef) rfl rfl (by kernel_rfl) (by kernel_rfl) (by kernel_rfl) (fun _ _ _ h => h) (Or.inr ⟨by rfl, rfl⟩) (by first | trivial | assumption) ?_
    simp only [Act.put, List.setIfInBounds_toArray, List.set_cons_zero, List.set_cons_succ]
    refine take_to 20 (some 25) (v := undef) rfl rfl (by kernel_rfl) (by kernel_rfl) (by kernel_rfl) (fun _ _ _ h => h) (Or.inr ⟨by rfl, rfl⟩) (by first | trivial | assumption) ?_
    simp only [Act.put, List.setIfInBounds_toArray, List.set_cons_zero, List.set_cons_succ]
    refine take_to 21 (some 26) (v := undef) rfl rfl (by kernel_rfl) (by kernel_rfl) (by kernel_rfl) (fun _ _ _ h => h) (Or.inr ⟨by rfl, rfl⟩) (by first | trivial | assumption) ?_
    simp only [Act.put, List.setIfInBounds_toArray, List.set_cons_zero, List.set_cons_succ]
    refine take_to 22 (some 27) (v := undef) rfl rfl (by kernel_rfl) (by kernel_rfl) (by kernel_rfl) (fun _ _ _ h => h) (Or.inr ⟨by rfl, rfl⟩) (by first | trivial | assumption) ?_
    simp only [Act.put, List.setIfInBounds_toArray, List.set_cons_zero, List.set_cons_succ]
    refine take_to 23 (some 28) (v := undef) rfl rfl (by kernel_rfl) (by kernel_rfl) (by kernel_rfl) (fun _ _ _ h => h) (Or.inr ⟨by rfl, rfl⟩) (by first | trivial | assumption) ?_
    simp only [Act.put, List.setIfInBounds_toArray, List.set_cons_zero, List.set_cons_succ]
    refine take_to 24 (some 29) (v := ?_) rfl rfl (by kernel_rfl) (by kernel_rfl) (by kernel_rfl) (fun _ _ _ h => h) (Or.inl ⟨by rfl, ?_⟩) (by first | trivial | assumption) ?_
    rotate_left
    focus (intro w hSw; (try dsimp only at hSw); go_simp; (try with_reducible rfl))
    simp only [Act.put, List.setIfInBounds_toArray, List.set_cons_zero, List.set_cons_succ]
    refine take_to 25 (some 4) (v := ?_) rfl rfl (by kernel_rfl) (by kernel_rfl) (by kernel_rfl) (fun _ _ _ h => h) (Or.inl ⟨by rfl, ?_⟩) (by first | trivial | assumption) ?_
    rotate_left
    focus (intro w hSw; (try dsimp only at hSw); go_simp; (try with_reducible rfl))
    simp only [Act.put, List.setIfInBounds_toArray, List.set_cons_zero, List.set_cons_succ]
    refine wpAnyH_done (by kernel_rfl) ?_ _
    go_wp2_with fail
    go_ret
    exact ⟨rfl, H2.out, hm2⟩
end
end Go.Proofs.YthffhhgaeolpgaaGreat.Cl

/- Layer 19's law: do. -/
namespace Go.Proofs.YthffhhgaeolpgaaGreat.Cl
open Go.RowKit Go.Proofs.YthffhhgaeolpgaaGreat.Ara Go.Proofs.YthffhhgaeolpgaaGreat.Lok

end Go.Proofs.YthffhhgaeolpgaaGreat.Cl

/- Package clh: New. -/
namespace Go.Proofs.YthffhhgaeolpgaaGreat.Cl
open Go.RowKit Go.Proofs.YthffhhgaeolpgaaGreat.Ara Go.Proofs.YthffhhgaeolpgaaGreat.Lok

theorem frame53 {a : Act} (h : a.tmps.size = 53) (hd : a.defers = []) : ∃ u : Nat → Value, a = { tmps := #[u 0, u 1, u 2, u 3, u 4, u 5, u 6, u 7, u 8, u 9, u 10, u 11, u 12, u 13, u 14, u 15, u 16, u 17, u 18, u 19, u 20, u 21, u 22, u 23, u 24, u 25, u 26, u 27, u 28, u 29, u 30, u 31, u 32, u 33, u 34, u 35, u 36, u 37, u 38, u 39, u 40, u 41, u 42, u 43, u 44, u 45, u 46, u 47, u 48, u 49, u 50, u 51, u 52], defers := [] } ∧ ∀ n, a.tmps.getD n undef = u n := by
  refine ⟨fun n => a.tmps.getD n undef, ?_, fun _ => rfl⟩
  have h1 := arr_lit a.tmps h
  cases a with
  | mk t d =>
    simp only at hd h1
    subst hd
    congr 1
theorem infoSp : (Tryz.prog.info? 53).map (fun i => (i.zero, i.size, i.bytes)) = some (some (.agg #[.int .i64 0, .int .i64 0, .int .i64 0, .int .i64 0]), 4, 32) := by kernel_rfl
theorem first0_succ (i : Nat) : first0 (i + 1) = first0 i ++ [⟨0, (i : Int) + 1, 0, 0⟩] := by
  unfold first0
  rw [List.range_succ, List.map_append]
  rfl
theorem first0_len (i : Nat) : (first0 i).length = i := by simp [first0]
def lkCells (ga : Nat) (tail : Int) (v : Value) : Array Value := #[.pointer (some ⟨ga, 0, none⟩), .int .i64 tail, v]
def NwJ (N ga ha gl : Nat) (tail : Int) (σ : Ar) (w2 : World) (a : Act) (W : World) : Prop :=
  a.tmps.size = 53 ∧ a.defers = [] ∧ a.tmps.getD 0 undef = .pointer (some ⟨ga, 0, none⟩) ∧ a.tmps.getD 1 undef = .int .i64 N ∧ a.tmps.getD 6 undef = .int .i64 tail ∧ a.tmps.getD 8 undef = .pointer (some ⟨gl, 0, none⟩) ∧ a.tmps.getD 30 undef = .int .i64 N ∧
    ∃ (i : Nat) (v : Value), a.tmps.getD 31 undef = .int .i64 i ∧ i ≤ N ∧ W.heap[gl]? = some (.cells (lkCells ga tail v) 181 (0, 0)) ∧ W.ownsRow (gl + 1) 53 4 v i ((first0 i).flatMap decSp) ∧ ArAt W ga ha σ ∧ Below gl w2 W ∧ gl + 1 ≤ W.heap.size
set_option maxHeartbeats 4000000 in
set_option maxRecDepth 100000 in
theorem new_lk (ga ha : Nat) (σ σ1 : Ar) (w : World) (H : ArAt w ga ha σ) (hh : ha < w.heap.size) (n : Nat) (n1 : 1 ≤ n) (n2 : n ≤ 32) (next : Int) (x1 : 1 ≤ next) (x2 : next ≤ 4096)
    (ht : σ.take ((n : Int) + 2) = ((next, 0), σ1)) (ho : σ1.ops ≤ 1000000) :
    Calls Tryz.prog 58 #[.pointer (some ⟨ga, 0, none⟩), .int .i64 (n : Int)] w fun e w' => ∃ gl hs, e = .returned (.tuple #[.pointer (some ⟨gl, 0, none⟩), .int .i64 0]) ∧ LkAt w' gl ga ha hs ⟨next⟩ (σ1.op 2 next true ((n : Int) + 1)) (first0 n) ∧ w.heap.size ≤ gl ∧ w.heap.size ≤ hs ∧ Mod [ga, ha] w w' := by
  have HT := take_any ga ha σ w H ((n : Int) + 2)
  rw [ht] at HT
  replace HT := Lib.hid HT
  have hga := H.lt
  have i1 : (1 : Int) ≤ (n : Int) := by omega
  have i2 : (n : Int) ≤ 32 := by omega
  have HO := Lib.hid ho
  clear H ht ho
  go_enter Tryz.func58, Tryz.ntmps58
  go_wp2_with fail
  refine HT.out.mono ?_
  rintro e w2 ⟨rfl, h2, hm2⟩
  have hz2 := hm2.size
  have hb0 := below_new w2 (.cells #[.pointer (some ⟨ga, 0, none⟩), .int .i64 next, .slice none 0 0] 181)
  have HK0 := Lib.hid (blk_new w2 (.cells #[.pointer (some ⟨ga, 0, none⟩), .int .i64 next, .slice none 0 0] 181))
  have HA0 := Lib.hid (h2.step hb0)
  have hz0 : w2.heap.size + 1 ≤ (w2.alloc (.cells #[.pointer (some ⟨ga, 0, none⟩), .int .i64 next, .slice none 0 0] 181)).heap.size := by simp
  have HB0 := Lib.hid hb0
  have HM := Lib.hid hm2
  clear hb0 h2 hm2 HT
  go_wp2_with fail
  generalize w2.alloc (.cells #[.pointer (some ⟨ga, 0, none⟩), .int .i64 next, .slice none 0 0] 181) = W0 at *
  generalize hgl : w2.heap.size = gl at *
  refine wp_loop (NwJ n ga ha gl next σ1 w2) (fun a' _ => n - (intOf (a'.tmps.getD 31 undef)).toNat) ?_ ?_
  · exact ⟨rfl, rfl, rfl, rfl, rfl, rfl, rfl, 0, .slice none 0 0, rfl, Nat.zero_le _, HK0.out, World.ownsRow_nil _ _ _ _, HA0.out, HB0.out, hz0⟩
  · clear HK0 HA0 HB0 hz0
    rintro a' W ⟨hsz, hdf, s0, s1, s6, s8, s30, i, v, s31, hi, hbk, hown, hat, hb, hz⟩
    obtain ⟨u, rfl, hu⟩ := frame53 hsz hdf
    rw [hu] at s0 s1 s6 s8 s30 s31
    simp only [s0, s1, s6, s8, s30, s31]
    clear hsz hdf s0 s1 s6 s8 s30 s31 hu
    by_cases hlt : i < n
    · obtain ⟨A, c, rfl, _⟩ := own_slice hown
      have c2 := blk_cell hbk 2 (by simp [lkCells])
      have f2 := blk_free hbk 2
      simp only [lkCells, List.getElem_toArray, List.getElem_cons_zero, List.getElem_cons_succ] at c2
      have HBk := Lib.hid hbk
      have HAt := Lib.hid hat
      have HB := Lib.hid hb
      have e1 : IntKind.i64.wrap ((i : Int) + 1) = (i : Int) + 1 := IntWalk.i64_in _ (by omega)
      clear hbk hat hb
      go_wp2_with (at_builtin; refine wpList_append1 (.tmp 38) (.tmp 42) 50 53 _ 4 32 rfl rfl Tryz.underlying50 infoSp rfl (by decide) (gl + 1) _ _ _ _ _ _ _ _ hown rfl rfl ?cg rfl ?d1 ?d2 ?d3 ?d4 ?ck; case' ck => intro v' w3 hown3 hb3 _; have q6 := (hb3.cell (p := ⟨gl, 2, none⟩) (Nat.lt_succ_self gl)).trans c2; have r6 := (hb3.frozen (p := ⟨gl, 2, none⟩) (Nat.lt_succ_self gl)).trans f2; obtain ⟨A3, c3, rfl, _, _, _⟩ := own_slice hown3)
      case cg => first | rfl | simp
      case d1 => simp [Value.oneCell']
      case d2 => simp only [maxLen]; omega
      case d3 => omega
      try (case d4 => exact hz)
      have hu : Upd (gl + 1) [gl] W (w3.setCell ⟨gl, 2, none⟩ (.slice A3 (i + 1) c3)) := (Upd.of_below hb3).setCell (.inl (by simp)) _
      have hbk2 := blk_set ((hb3.block gl (Nat.lt_succ_self gl)).trans HBk.out) 2 (.slice A3 (i + 1) c3)
      have hown4 : (w3.setCell ⟨gl, 2, none⟩ (.slice A3 (i + 1) c3)).ownsRow (gl + 1) 53 4 (.slice A3 (i + 1) c3) (i + 1) ((first0 (i + 1)).flatMap decSp) := by
        have := ownsRow_setCell_below hown3 (a := ⟨gl, 2, none⟩) (Nat.lt_succ_self gl) (.slice A3 (i + 1) c3)
        rw [first0_succ, List.flatMap_append]
        simpa [decSp] using this
      exact ⟨⟨rfl, rfl, rfl, rfl, rfl, rfl, rfl, i + 1, _, rfl, hlt, hbk2, hown4, HAt.out.upd hu (by omega) (by omega) (by simp; omega) (by simp; omega), HB.out.trans (hu.below (by omega) (by simp)), Nat.le_trans hz hu.size⟩, by simp [intOf]; omega⟩
    · obtain rfl : i = n := by omega
      rcases hown.2 with ⟨_, h0⟩ | ⟨g, cc, cur, rfl, hg, hgb, _, _, _, htk⟩
      · omega
      · have hK : LkAt W gl ga ha g ⟨next⟩ σ1 (first0 i) := by
          refine ⟨hat, ⟨cur, hgb, by rw [first0_len]; exact htk⟩, by rw [first0_len]; exact n2, ⟨cc, by rw [first0_len]; exact hbk⟩, by omega, by omega, by omega, by omega, by omega⟩
        have HK := Lib.hid hK
        have HB := Lib.hid hb
        have e1 : IntKind.i64.wrap ((i : Int) + 1) = (i : Int) + 1 := IntWalk.i64_in _ (by omega)
        clear hown hat hbk hb hgb htk hK
        go_wp2_with fail
        refine (store_any ga ha σ1 _ HK.out.1 HO.out next ((i : Int) + 1)).mono ?_
        rintro e w5 ⟨rfl, h5, hm5⟩
        have hK5 := Lib.hid (HK.out.arena h5 hm5)
        have hm6 : Mod [ga, ha] w w5 := (HM.out.trans (Mod.of_below (by rw [hgl]; exact HB.out))).trans hm5
        clear h5 hm5
        go_wp2_with fail
        go_ret2
        exact ⟨gl, g, rfl, hK5.out, by omega, by omega, hm6⟩
end Go.Proofs.YthffhhgaeolpgaaGreat.Cl

/- The document's Spots: spots of slots at rest. -/
namespace Go.Proofs.YthffhhgaeolpgaaGreat.Lok
open Go.RowKit Go.Proofs.YthffhhgaeolpgaaGreat.Ara

theorem frame15 {a : Act} (h : a.tmps.size = 15) (hd : a.defers = []) : ∃ u : Nat → Value, a = { tmps := #[u 0, u 1, u 2, u 3, u 4, u 5, u 6, u 7, u 8, u 9, u 10, u 11, u 12, u 13, u 14], defers := [] } ∧ ∀ n, a.tmps.getD n undef = u n := by
  refine ⟨fun n => a.tmps.getD n undef, ?_, fun _ => rfl⟩
  have h1 := arr_lit a.tmps h
  cases a with
  | mk t d =>
    simp only at hd h1
    subst hd
    congr 1
def zeros (n : Nat) : List Sp := List.replicate n sp0
theorem zeros_succ (i : Nat) : zeros (i + 1) = zeros i ++ [sp0] := List.replicate_succ' ..
theorem zeros_len (i : Nat) : (zeros i).length = i := List.length_replicate
def RspJ (n : Nat) (w : World) (a : Act) (W : World) : Prop :=
  a.tmps.size = 15 ∧ a.defers = [] ∧ a.tmps.getD 0 undef = .int .i64 n ∧ ∃ (i : Nat) (v : Value), a.tmps.getD 3 undef = v ∧ a.tmps.getD 4 undef = .int .i64 i ∧ i ≤ n ∧ W.ownsRow w.heap.size 53 4 v i ((zeros i).flatMap decSp) ∧ Below w.heap.size w W
set_option maxHeartbeats 4000000 in
set_option maxRecDepth 100000 in
theorem rspots (n : Nat) (n1 : 1 ≤ n) (n2 : n ≤ 32) (w : World) : Calls Tryz.prog 86 #[.int .i64 (n : Int)] w fun e w' => ∃ hs c : Nat, e = .returned (.slice (some ⟨hs, 0, none⟩) n c) ∧ SpAt w' hs (zeros n) ∧ w.heap.size ≤ hs ∧ Below w.heap.size w w' := by
  go_enter Tryz.func86, Tryz.ntmps86
  go_wp2_with fail
  refine wp_loop (RspJ n w) (fun a' _ => n - (intOf (a'.tmps.getD 4 undef)).toNat) ?_ ?_
  · exact ⟨rfl, rfl, rfl, 0, .slice none 0 0, rfl, rfl, Nat.zero_le _, World.ownsRow_nil _ _ _ _, Below.refl _ _⟩
  · rintro a' W ⟨hsz, hdf, s0, i, v, s3, s4, hi, hown, hb⟩
    obtain ⟨u, rfl, hu⟩ := frame15 hsz hdf
    rw [hu] at s0 s3 s4
    simp only [s0, s3, s4]
    clear hsz hdf s0 s3 s4 hu
    have HB := Lib.hid hb
    have hBW := hb.size
    clear hb
    by_cases hlt : i < n
    · obtain ⟨A, c, rfl, _⟩ := own_slice hown
      have e1 : IntKind.i64.wrap ((i : Int) + 1) = (i : Int) + 1 := IntWalk.i64_in _ (by omega)
      go_wp2_with (at_builtin; refine wpList_append1 (.tmp 10) (.tmp 12) 50 53 _ 4 32 rfl rfl Tryz.underlying50 Cl.infoSp rfl (by decide) w.heap.size _ _ _ _ _ _ _ _ hown rfl rfl ?cg rfl ?d1 ?d2 ?d3 ?d4 ?ck; case' ck => intro v' w3 hown3 hb3 _)
      case cg => first | rfl | simp
      case d1 => simp [Value.oneCell']
      case d2 => simp only [maxLen]; omega
      case d3 => omega
      try (case d4 => exact hBW)
      exact ⟨⟨rfl, rfl, rfl, i + 1, v', rfl, rfl, hlt, by rw [zeros_succ, List.flatMap_append]; simpa [decSp, sp0] using hown3, HB.out.trans hb3⟩, by simp [intOf]; omega⟩
    · obtain rfl : i = n := by omega
      rcases hown.2 with ⟨_, h0⟩ | ⟨g, cc, cur, rfl, hg, hgb, _, _, _, htk⟩
      · omega
      · have HK := Lib.hid (show SpAt W g (zeros i) from ⟨cur, hgb, by rw [zeros_len]; exact htk⟩)
        clear hown hgb htk
        go_wp2_with fail
        go_ret
        exact ⟨g, cc, rfl, HK.out, hg, HB.out⟩
end Go.Proofs.YthffhhgaeolpgaaGreat.Lok

/- Package tas: slots, spots. -/
namespace Go.Proofs.YthffhhgaeolpgaaGreat.Ta
open Go.RowKit Go.Proofs.YthffhhgaeolpgaaGreat.Ara Go.Proofs.YthffhhgaeolpgaaGreat.Lok

structure Par where
  word : Int
  most : Int
def LkAt (W : World) (gl ga ha hs : Nat) (P : Par) (σ : Ar) (sp : List Sp) : Prop :=
  ArAt W ga ha σ ∧ SpAt W hs sp ∧ sp.length ≤ 32 ∧ (∃ c : Nat, W.heap[gl]? = some (.cells #[.pointer (some ⟨ga, 0, none⟩), .int .i64 P.word, .int .i64 P.most, .slice (some ⟨hs, 0, none⟩) sp.length c] 170 (0, 0))) ∧ gl ≠ ga ∧ gl ≠ ha ∧ gl ≠ hs ∧ hs ≠ ga ∧ hs ≠ ha
theorem LkAt.mod {S : List Nat} {W W' : World} {gl ga ha hs : Nat} {P : Par} {σ : Ar} {sp : List Sp} (k : LkAt W gl ga ha hs P σ sp) (hm : Mod S W W') (h1 : gl ∉ S) (h2 : ga ∉ S) (h3 : ha ∉ S) (h4 : hs ∉ S) : LkAt W' gl ga ha hs P σ sp := by
  obtain ⟨k1, k2, k3, ⟨c, k4⟩, k5⟩ := k
  exact ⟨k1.mod hm h2 h3, k2.mod hm h4, k3, ⟨c, hm.blk k4 h1⟩, k5⟩
theorem LkAt.same {W W' : World} {gl ga ha hs : Nat} {P : Par} {σ : Ar} {sp : List Sp} (k : LkAt W gl ga ha hs P σ sp) (hb : Below W.heap.size W W') : LkAt W' gl ga ha hs P σ sp :=
  k.mod (S := []) (Mod.of_below hb) (by simp) (by simp) (by simp) (by simp)
theorem LkAt.drewN {W : World} {gl ga ha hs : Nat} {P : Par} {σ : Ar} {sp : List Sp} (k : LkAt W gl ga ha hs P σ sp) (n : Nat) : LkAt (W.drewN n) gl ga ha hs P σ sp := k
theorem LkAt.arena {W W' : World} {gl ga ha hs : Nat} {P : Par} {σ σ' : Ar} {sp : List Sp} (k : LkAt W gl ga ha hs P σ sp) (ha' : ArAt W' ga ha σ') (hm : Mod [ga, ha] W W') : LkAt W' gl ga ha hs P σ' sp := by
  obtain ⟨_, k2, k3, ⟨c, k4⟩, d1, d2, d3, d4, d5⟩ := k
  exact ⟨ha', k2.mod hm (by simp; omega), k3, ⟨c, hm.blk k4 (by simp; omega)⟩, d1, d2, d3, d4, d5⟩
theorem LkAt.spots {W W' : World} {gl ga ha hs : Nat} {P : Par} {σ : Ar} {sp sp' : List Sp} (k : LkAt W gl ga ha hs P σ sp) (hs' : SpAt W' hs sp') (hm : Mod [hs] W W') (hl : sp'.length = sp.length) : LkAt W' gl ga ha hs P σ sp' := by
  obtain ⟨k1, _, k3, ⟨c, k4⟩, d1, d2, d3, d4, d5⟩ := k
  refine ⟨k1.mod hm (by simp; omega) (by simp; omega), hs', by omega, ⟨c, ?_⟩, d1, d2, d3, d4, d5⟩
  have := hm.blk k4 (by simp; omega)
  rw [hl]
  exact this
theorem LkAt.heads {W : World} {gl ga ha hs : Nat} {P : Par} {σ : Ar} {sp : List Sp} (k : LkAt W gl ga ha hs P σ sp) : (∃ c : Nat, W.cell? ⟨gl, 0, none⟩ = some (.pointer (some ⟨ga, 0, none⟩)) ∧ W.cell? ⟨gl, 1, none⟩ = some (.int .i64 P.word) ∧ W.cell? ⟨gl, 2, none⟩ = some (.int .i64 P.most) ∧ W.cell? ⟨gl, 3, none⟩ = some (.slice (some ⟨hs, 0, none⟩) sp.length c)) ∧ sp.length ≤ 32 := by
  obtain ⟨_, _, k3, ⟨c, k4⟩, _⟩ := k
  exact ⟨⟨c, blk_cell k4 0 (by simp), blk_cell k4 1 (by simp), blk_cell k4 2 (by simp), blk_cell k4 3 (by simp)⟩, k3⟩
section
variable (gl ga ha hs : Nat) (P : Par) (σ : Ar) (sp : List Sp) (w : World) (H : LkAt w gl ga ha hs P σ sp)
include H
theorem slots_lk : Calls Tryz.prog 142 #[.pointer (some ⟨gl, 0, none⟩)] w fun e w' => e = .returned (.int .i64 sp.length) ∧ w' = w := by
  obtain ⟨⟨cc, q0, q1, q2, q3⟩, hl⟩ := H.heads
  clear H
  go_enter Tryz.func142, Tryz.ntmps142
  go_wp2_with fail
  go_ret
  exact ⟨rfl, rfl⟩
theorem spot_out_lk (i : Int) (hi : i < 0 ∨ (sp.length : Int) ≤ i) : Calls Tryz.prog 145 #[.pointer (some ⟨gl, 0, none⟩), .int .i64 i] w fun e w' => e = .returned (.pointer none) ∧ w' = w := by
  have HS := Lib.hid (slots_lk gl ga ha hs P σ sp w H)
  obtain ⟨⟨cc, q0, q1, q2, q3⟩, hl⟩ := H.heads
  clear H
  by_cases h0 : i < 0
  · go_enter Tryz.func145, Tryz.ntmps145
    go_wp2_with fail
    go_ret
    exact ⟨rfl, rfl⟩
  · have h1 : (sp.length : Int) ≤ i := by omega
    go_enter Tryz.func145, Tryz.ntmps145
    go_wp2_with fail
    refine (HS.out).mono ?_
    rintro e wx ⟨rfl, hwx⟩
    obtain rfl := hwx.symm
    go_wp2_with fail
    go_ret
    exact ⟨rfl, rfl⟩
theorem spot_in_lk (k : Nat) (hk : k < sp.length) : Calls Tryz.prog 145 #[.pointer (some ⟨gl, 0, none⟩), .int .i64 (k : Int)] w fun e w' => e = .returned (.pointer (some ⟨hs, k * 4, none⟩)) ∧ w' = w := by
  have HS := Lib.hid (slots_lk gl ga ha hs P σ sp w H)
  obtain ⟨⟨cc, q0, q1, q2, q3⟩, hl⟩ := H.heads
  have h1 : (k : Int) < (sp.length : Int) := by omega
  have h2 : (0 : Int) ≤ (k : Int) := by omega
  clear H
  go_enter Tryz.func145, Tryz.ntmps145
  go_wp2_with fail
  refine (HS.out).mono ?_
  rintro e wx ⟨rfl, hwx⟩
  obtain rfl := hwx.symm
  go_wp2_with fail
  go_ret
  exact ⟨rfl, rfl⟩
theorem Spot_lk (i : Int) : Calls Tryz.prog 143 #[.pointer (some ⟨gl, 0, none⟩), .int .i64 i] w fun e w' => e = .returned (.agg #[.int .i64 (spOf sp i).pc, .int .i64 (spOf sp i).a, .int .i64 (spOf sp i).b, .int .i64 (spOf sp i).c]) ∧ Below w.heap.size w w' := by
  by_cases hi : i < 0 ∨ (sp.length : Int) ≤ i
  · rw [spOf_out hi]
    have HS := Lib.hid (fun W K => spot_out_lk gl ga ha hs P σ sp W K i hi)
    have HH := Lib.hid (H.same (below_new w (.cells #[.int .i64 0, .int .i64 0, .int .i64 0, .int .i64 0] 53)))
    clear H hi
    go_enter Tryz.func143, Tryz.ntmps143
    go_wp2_with fail
    refine (HS.out _ HH.out).mono ?_
    rintro e wx ⟨rfl, hwx⟩
    obtain rfl := hwx.symm
    go_wp2_with fail
    exact bodyPost_ret (v := .agg #[.int .i64 0, .int .i64 0, .int .i64 0, .int .i64 0]) (by simp [results, Tryz.results143, go_sem]) rfl ⟨rfl, (Below.refl _ _).alloc (Nat.le_refl _) _⟩
  · obtain ⟨k, rfl⟩ := Int.eq_ofNat_of_zero_le (show 0 ≤ i by omega)
    have hk : k < sp.length := by omega
    have HS := Lib.hid (fun W K => spot_in_lk gl ga ha hs P σ sp W K k hk)
    have HH := Lib.hid (H.same (below_new w (.cells #[.int .i64 0, .int .i64 0, .int .i64 0, .int .i64 0] 53)))
    obtain ⟨c0, c1, c2, c3, _⟩ := H.2.1.cells k hk
    have hlt := H.2.1.lt
    have e0 := spOf_in hk
    rw [e0]
    clear H hi e0
    generalize sp[k] = s at *
    obtain ⟨xp, xa, xb, xc⟩ := s
    simp only at c0 c1 c2 c3 ⊢
    go_enter Tryz.func143, Tryz.ntmps143
    go_wp2_with fail
    refine (HS.out _ HH.out).mono ?_
    rintro e wx ⟨rfl, hwx⟩
    obtain rfl := hwx.symm
    go_wp2_with fail
    exact bodyPost_ret (v := .agg #[.int .i64 xp, .int .i64 xa, .int .i64 xb, .int .i64 xc]) (by simp [results, Tryz.results143, go_sem]) rfl ⟨rfl, (Below.refl _ _).alloc (Nat.le_refl _) _⟩
end

end Go.Proofs.YthffhhgaeolpgaaGreat.Ta

/- Package tas: Ask, Leave; a step by which a slot gets the word, or sets it free; New. -/
namespace Go.Proofs.YthffhhgaeolpgaaGreat.Ta
open Go.RowKit Go.Proofs.YthffhhgaeolpgaaGreat.Ara Go.Proofs.YthffhhgaeolpgaaGreat.Lok

section
variable (gl ga ha hs : Nat) (P : Par) (σ : Ar) (sp : List Sp) (w : World) (H : LkAt w gl ga ha hs P σ sp) (k : Nat) (hk : k < sp.length)
include H hk
set_option maxHeartbeats 4000000 in
set_option maxRecDepth 100000 in
theorem ask_yes (hp : sp[k].pc = 0) (sp2 : List Sp) (h2 : sp2 = sp.set k { sp[k] with pc := 1, a := 1 }) : Calls Tryz.prog 140 #[.pointer (some ⟨gl, 0, none⟩), .int .i64 (k : Int)] w fun e w' => e = .returned (.bool true) ∧ LkAt w' gl ga ha hs P σ sp2 ∧ Mod [hs] w w' := by
  have HS := Lib.hid (spot_in_lk gl ga ha hs P σ sp w H k hk)
  obtain ⟨⟨cc, q0, q1, q2, q3⟩, hl32⟩ := H.heads
  obtain ⟨d1, d2, d3, d4, d5⟩ := H.2.2.2.2
  obtain ⟨s0, s1, s2, s3, sf⟩ := H.2.1.cells k hk
  rw [hp] at s0
  have HH := Lib.hid H
  have HP := Lib.hid hp
  have hu1 : LkAt (w.setCell ⟨hs, k * 4, none⟩ (.int .i64 1)) gl ga ha hs P σ (sp.set k { sp[k] with pc := 1 }) := H.spots (H.2.1.setPc k hk 1) ((Mod.refl [hs] w).setCell (by simp) _) (by rw [List.length_set])
  have hkk : k < (sp.set k { sp[k] with pc := 1 }).length := by rw [List.length_set]; exact hk
  have hu2 := hu1.spots (hu1.2.1.setA k hkk 1) ((Mod.refl [hs] _).setCell (by simp) _) (by rw [List.length_set])
  have e : (sp.set k { sp[k] with pc := 1 }).set k { (sp.set k { sp[k] with pc := 1 })[k] with a := 1 } = sp2 := by
    have e0 : (sp.set k { sp[k] with pc := 1 })[k] = { sp[k] with pc := 1 } := List.getElem_set_self hkk
    rw [e0, List.set_set, h2]
  rw [e] at hu2
  have HU := Lib.hid hu2
  have f0 := sf (k * 4)
  have f1 := sf (k * 4 + 1)
  clear hu1 hu2 e h2 hkk H hp
  go_enter Tryz.func140, Tryz.ntmps140
  go_wp2_with fail
  refine (HS.out).mono ?_
  rintro e wx ⟨rfl, hwx⟩
  obtain rfl := hwx.symm
  go_wp2_with fail
  go_ret
  exact ⟨rfl, HU.out, ((Mod.refl _ _).setCell (by simp) _).setCell (by simp) _⟩
set_option maxHeartbeats 4000000 in
set_option maxRecDepth 100000 in
theorem leave_yes (hp : sp[k].pc = 10) (sp2 : List Sp) (h2 : sp2 = sp.set k { sp[k] with pc := 11 }) : Calls Tryz.prog 141 #[.pointer (some ⟨gl, 0, none⟩), .int .i64 (k : Int)] w fun e w' => e = .returned (.bool true) ∧ LkAt w' gl ga ha hs P σ sp2 ∧ Mod [hs] w w' := by
  have HS := Lib.hid (spot_in_lk gl ga ha hs P σ sp w H k hk)
  obtain ⟨⟨cc, q0, q1, q2, q3⟩, hl32⟩ := H.heads
  obtain ⟨d1, d2, d3, d4, d5⟩ := H.2.2.2.2
  obtain ⟨s0, s1, s2, s3, sf⟩ := H.2.1.cells k hk
  rw [hp] at s0
  have HH := Lib.hid H
  have HP := Lib.hid hp
  have HU := Lib.hid (show LkAt (w.setCell ⟨hs, k * 4, none⟩ (.int .i64 11)) gl ga ha hs P σ sp2 by rw [h2]; exact H.spots (H.2.1.setPc k hk 11) ((Mod.refl [hs] w).setCell (by simp) _) (by rw [List.length_set]))
  have f0 := sf (k * 4)
  clear h2 H hp
  go_enter Tryz.func141, Tryz.ntmps141
  go_wp2_with fail
  refine (HS.out).mono ?_
  rintro e wx ⟨rfl, hwx⟩
  obtain rfl := hwx.symm
  go_wp2_with fail
  go_ret
  exact ⟨rfl, HU.out, (Mod.refl _ _).setCell (by simp) _⟩
set_option maxHeartbeats 4000000 in
set_option maxRecDepth 100000 in
theorem step_one_yes (ho : σ.ops ≤ 1000000) (hp : sp[k].pc = 1) (hc : (σ.has P.word && (σ.get P.word == 0)) = true) (sp2 : List Sp) (h2 : sp2 = sp.set k { sp[k] with pc := 10 }) : Calls Tryz.prog 144 #[.pointer (some ⟨gl, 0, none⟩), .int .i64 (k : Int)] w fun e w' => e = .returned (.bool true) ∧ LkAt w' gl ga ha hs P (σ.op 4 P.word true ((k : Int) + 1)) sp2 ∧ Mod [ga, ha, hs] w w' := by
  have HSt := fun W (K : LkAt W gl ga ha hs P σ sp) => cas_any ga ha σ W K.1 ho P.word 0 ((k : Int) + 1)
  rw [hc] at HSt
  replace HSt := Lib.hid HSt
  have HS := Lib.hid (spot_in_lk gl ga ha hs P σ sp w H k hk)
  obtain ⟨⟨cc, q0, q1, q2, q3⟩, hl32⟩ := H.heads
  obtain ⟨d1, d2, d3, d4, d5⟩ := H.2.2.2.2
  obtain ⟨s0, s1, s2, s3, sf⟩ := H.2.1.cells k hk
  rw [hp] at s0
  have HH := Lib.hid H
  have HP := Lib.hid hp
  have HC := Lib.hid (fun W (K : LkAt W gl ga ha hs P (σ.op 4 P.word true ((k : Int) + 1)) sp) => show W.cell? ⟨hs, k * 4, none⟩ = some (.int .i64 sp[k].pc) ∧ W.frozen? ⟨hs, k * 4, none⟩ = false ∧ LkAt (W.setCell ⟨hs, k * 4, none⟩ (.int .i64 10)) gl ga ha hs P (σ.op 4 P.word true ((k : Int) + 1)) sp2 from ⟨(K.2.1.cells k hk).1, (K.2.1.cells k hk).2.2.2.2 _, by rw [h2]; exact K.spots (K.2.1.setPc k hk 10) ((Mod.refl [hs] W).setCell (by simp) _) (by rw [List.length_set])⟩)
  have e1 : IntKind.i64.wrap ((k : Int) + 1) = (k : Int) + 1 := IntWalk.i64_in _ (by omega)
  generalize σ.op 4 P.word true ((k : Int) + 1) = σ2 at *
  generalize sp[k].pc = xp at *
  clear h2 H hp hc ho
  go_enter Tryz.func144, Tryz.ntmps144
  go_wp2_with fail
  refine (HS.out).mono ?_
  rintro e wx ⟨rfl, hwx⟩
  obtain rfl := hwx.symm
  go_wp2_with fail
  go_region_held3 (fun V => V.cell? ⟨gl, 0, none⟩ = some (.pointer (some ⟨ga, 0, none⟩)) ∧ V.cell? ⟨gl, 1, none⟩ = some (.int .i64 P.word))
    (first | exact ⟨q0, q1⟩ | exact k2)
    (first
      | (go_at_call 146; refine (HSt.out _ (HH.out.drewN 1)).mono ?_; rintro e w2 ⟨rfl, ha2, hm2⟩; have k2 := And.intro (keepM hm2 (show (w.drewN 1).cell? _ = _ from q0) (by simp; omega)) (keepM hm2 (show (w.drewN 1).cell? _ = _ from q1) (by simp; omega)); have H2 := Lib.hid ((HH.out.drewN 1).arena ha2 hm2)))
  have hmm : Mod [ga, ha, hs] w w2 := ((Mod.refl _ _).drewN 1).trans (hm2.sub (by simp))
  clear k2 ha2 hm2
  obtain ⟨c0, f0, h3⟩ := HC.out _ H2.out
  have H3 := Lib.hid h3
  clear h3
  go_wp2_with fail
  go_ret
  exact ⟨rfl, H3.out, hmm.setCell (by simp) _⟩
set_option maxHeartbeats 4000000 in
set_option maxRecDepth 100000 in
theorem step_out (ho : σ.ops ≤ 1000000) (hp : sp[k].pc = 11) (sp2 : List Sp) (h2 : sp2 = sp.set k { sp[k] with pc := 0 }) : Calls Tryz.prog 144 #[.pointer (some ⟨gl, 0, none⟩), .int .i64 (k : Int)] w fun e w' => e = .returned (.bool true) ∧ LkAt w' gl ga ha hs P (σ.op 2 P.word true 0) sp2 ∧ Mod [ga, ha, hs] w w' := by
  have HSt := Lib.hid (fun W (K : LkAt W gl ga ha hs P σ sp) => store_any ga ha σ W K.1 ho P.word 0)
  have HS := Lib.hid (spot_in_lk gl ga ha hs P σ sp w H k hk)
  obtain ⟨⟨cc, q0, q1, q2, q3⟩, hl32⟩ := H.heads
  obtain ⟨d1, d2, d3, d4, d5⟩ := H.2.2.2.2
  obtain ⟨s0, s1, s2, s3, sf⟩ := H.2.1.cells k hk
  rw [hp] at s0
  have HH := Lib.hid H
  have HP := Lib.hid hp
  have HC := Lib.hid (fun W (K : LkAt W gl ga ha hs P (σ.op 2 P.word true 0) sp) => show W.cell? ⟨hs, k * 4, none⟩ = some (.int .i64 sp[k].pc) ∧ W.frozen? ⟨hs, k * 4, none⟩ = false ∧ LkAt (W.setCell ⟨hs, k * 4, none⟩ (.int .i64 0)) gl ga ha hs P (σ.op 2 P.word true 0) sp2 from ⟨(K.2.1.cells k hk).1, (K.2.1.cells k hk).2.2.2.2 _, by rw [h2]; exact K.spots (K.2.1.setPc k hk 0) ((Mod.refl [hs] W).setCell (by simp) _) (by rw [List.length_set])⟩)
  generalize σ.op 2 P.word true 0 = σ2 at *
  generalize sp[k].pc = xp at *
  clear h2 H hp ho
  go_enter Tryz.func144, Tryz.ntmps144
  go_wp2_with fail
  refine (HS.out).mono ?_
  rintro e wx ⟨rfl, hwx⟩
  obtain rfl := hwx.symm
  go_wp2_with fail
  go_region_held3 (fun V => V.cell? ⟨gl, 0, none⟩ = some (.pointer (some ⟨ga, 0, none⟩)) ∧ V.cell? ⟨gl, 1, none⟩ = some (.int .i64 P.word))
    (first | exact ⟨q0, q1⟩ | exact k2)
    (first
      | (go_at_call 83; refine (HSt.out _ (HH.out.drewN 1)).mono ?_; rintro e w2 ⟨rfl, ha2, hm2⟩; have k2 := And.intro (keepM hm2 (show (w.drewN 1).cell? _ = _ from q0) (by simp; omega)) (keepM hm2 (show (w.drewN 1).cell? _ = _ from q1) (by simp; omega)); have H2 := Lib.hid ((HH.out.drewN 1).arena ha2 hm2)))
  have hmm : Mod [ga, ha, hs] w w2 := ((Mod.refl _ _).drewN 1).trans (hm2.sub (by simp))
  clear k2 ha2 hm2
  obtain ⟨c0, f0, h3⟩ := HC.out _ H2.out
  have H3 := Lib.hid h3
  clear h3
  go_wp2_with fail
  go_ret
  exact ⟨rfl, H3.out, hmm.setCell (by simp) _⟩
end
theorem infoSp : (Tryz.prog.info? 53).map (fun i => (i.zero, i.size, i.bytes)) = some (some (.agg #[.int .i64 0, .int .i64 0, .int .i64 0, .int .i64 0]), 4, 32) := by kernel_rfl
def zeroS (n : Nat) : List Sp := List.replicate n sp0
theorem zeroS_flat (n : Nat) : ((List.replicate n ((Value.agg #[.int .i64 0, .int .i64 0, .int .i64 0, .int .i64 0]).cells.toList)).flatten).toArray = ((zeroS n).flatMap decSp).toArray := by
  congr 1
  induction n with
  | zero => rfl
  | succ n ih => rw [List.replicate_succ, List.flatten_cons, ih, zeroS, zeroS, List.replicate_succ, List.flatMap_cons]; rfl
theorem make_spots (n : Nat) (h : n ≤ 65536) (W : World) : (Instr.makeSlice 50 (.int .i64 (n : Int)) (.int .i64 (n : Int))).run Tryz.prog W = .ok (.slice (some ⟨W.heap.size, 0, none⟩) n n) (W.alloc (.cells ((zeroS n).flatMap decSp).toArray 53)) := by
  rw [run_make_rows (P := Tryz.prog) 50 53 (.agg #[.int .i64 0, .int .i64 0, .int .i64 0, .int .i64 0]) 4 32 Tryz.underlying50 infoSp rfl .i64 .i64 n (by omega) (by omega) W, zeroS_flat]
theorem spAt_new (W : World) (n : Nat) : SpAt (W.alloc (.cells ((zeroS n).flatMap decSp).toArray 53)) W.heap.size (zeroS n) :=
  ⟨_, blk_new _ _, by rw [List.take_of_length_le (by rw [flat_len decSp_len]; omega)]⟩
set_option maxHeartbeats 4000000 in
set_option maxRecDepth 100000 in
theorem new_lk (ga ha : Nat) (σ σ1 : Ar) (w : World) (H : ArAt w ga ha σ) (hh : ha < w.heap.size) (n : Nat) (n1 : 1 ≤ n) (n2 : n ≤ 32) (most : Int) (m1 : 1 ≤ most) (m2 : most ≤ 1024) (next : Int)
    (ht : σ.take 1 = ((next, 0), σ1)) :
    Calls Tryz.prog 54 #[.pointer (some ⟨ga, 0, none⟩), .int .i64 (n : Int), .int .i64 most] w fun e w' => ∃ gl hs, e = .returned (.tuple #[.pointer (some ⟨gl, 0, none⟩), .int .i64 0]) ∧ LkAt w' gl ga ha hs ⟨next, most⟩ σ1 (zeroS n) ∧ w.heap.size ≤ gl ∧ w.heap.size ≤ hs ∧ Mod [ga, ha] w w' := by
  have HT := take_any ga ha σ w H 1
  rw [ht] at HT
  replace HT := Lib.hid HT
  have hmk := fun W => make_spots n (by omega) W
  have hga := H.lt
  have i1 : (1 : Int) ≤ (n : Int) := by omega
  have i2 : (n : Int) ≤ 32 := by omega
  clear H ht
  go_enter Tryz.func54, Tryz.ntmps54
  go_wp2_with fail
  refine HT.out.mono ?_
  rintro e w2 ⟨rfl, h2, hm2⟩
  have H2 := Lib.hid h2
  clear h2
  have hz2 := hm2.size
  have hK : LkAt ((w2.alloc (.cells ((zeroS n).flatMap decSp).toArray 53)).alloc (.cells #[.pointer (some ⟨ga, 0, none⟩), .int .i64 next, .int .i64 most, .slice (some ⟨w2.heap.size, 0, none⟩) n n] 170)) (w2.heap.size + 1) ga ha w2.heap.size ⟨next, most⟩ σ1 (zeroS n) := by
    have hb := (below_new w2 (.cells ((zeroS n).flatMap decSp).toArray 53))
    have hb2 := below_new (w2.alloc (.cells ((zeroS n).flatMap decSp).toArray 53)) (.cells #[.pointer (some ⟨ga, 0, none⟩), .int .i64 next, .int .i64 most, .slice (some ⟨w2.heap.size, 0, none⟩) n n] 170)
    have hbl := blk_new (w2.alloc (.cells ((zeroS n).flatMap decSp).toArray 53)) (.cells #[.pointer (some ⟨ga, 0, none⟩), .int .i64 next, .int .i64 most, .slice (some ⟨w2.heap.size, 0, none⟩) n n] 170)
    have hzl : (zeroS n).length = n := by simp [zeroS]
    refine ⟨(H2.out.step hb).step hb2, (spAt_new w2 n).mod (S := []) (Mod.of_below hb2) (by simp), by omega, ⟨n, ?_⟩, by omega, by omega, by omega, by omega, by omega⟩
    rw [hzl]
    simpa using hbl
  have hmm : Mod [ga, ha] w ((w2.alloc (.cells ((zeroS n).flatMap decSp).toArray 53)).alloc (.cells #[.pointer (some ⟨ga, 0, none⟩), .int .i64 next, .int .i64 most, .slice (some ⟨w2.heap.size, 0, none⟩) n n] 170)) := (hm2.alloc _).alloc _
  have HK := Lib.hid hK
  clear H2 hm2 hK
  have e0 : (w2.alloc (.cells ((zeroS n).flatMap decSp).toArray 53)).heap.size = w2.heap.size + 1 := by simp
  go_wp2_with fail
  go_ret2
  exact ⟨w2.heap.size + 1, w2.heap.size, rfl, HK.out, by omega, hz2, hmm⟩
end Go.Proofs.YthffhhgaeolpgaaGreat.Ta

