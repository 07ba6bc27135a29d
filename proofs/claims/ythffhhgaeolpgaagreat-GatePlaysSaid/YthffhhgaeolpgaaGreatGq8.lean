/- Merged texts: Tk2, Tk3. -/
import Derived.Test.YthffhhgaeolpgaaGreatGq7
import Derived.Deep.RegionHeld3
set_option linter.unusedVariables false
/- Package ticket: Step, Alone, New. -/
namespace Go.Proofs.YthffhhgaeolpgaaGreat.Tk
open Go.RowKit Go.Proofs.YthffhhgaeolpgaaGreat.Ara Go.Proofs.YthffhhgaeolpgaaGreat.Lok

def Num (P : Par) (σ : Ar) (sp : List Sp) : Prop := (1 ≤ P.next ∧ P.next ≤ 4096) ∧ (∀ k (h : k < sp.length), 0 ≤ sp[k].a ∧ sp[k].a ≤ 1000000) ∧ σ.ops ≤ 1000000 ∧ σ.has P.next = true ∧ 0 ≤ σ.get P.next ∧ σ.get P.next ≤ 1000000
theorem turn_setA (sp : List Sp) (k : Nat) (hk : k < sp.length) (fr to x : Int) (hp : sp[k].pc = fr) : turnS (sp.set k { sp[k] with a := x }) (k : Int) fr to = sp.set k { sp[k] with pc := to, a := x } := by
  have hk2 : k < (sp.set k { sp[k] with a := x }).length := by rw [List.length_set]; exact hk
  have e : (sp.set k { sp[k] with a := x })[k] = { sp[k] with a := x } := List.getElem_set_self hk2
  rw [turnS_in hk2, e, if_pos hp, List.set_set]
theorem place_eq (P : Par) (t : Int) : place P t = P.next + 1 := by
  unfold place
  have : t % P.parts = 0 := by show t % 1 = 0; omega
  omega
section
variable (gl ga ha hs : Nat) (P : Par) (σ : Ar) (sp : List Sp) (w : World) (H : LkAt w gl ga ha hs P σ sp)
include H
section
variable (hN : Num P σ sp) (k : Nat) (hk : k < sp.length)
include hN hk
set_option maxHeartbeats 4000000 in
set_option maxRecDepth 100000 in
theorem step_one (hp : sp[k].pc = 1) (sp2 sp3 : List Sp) (h2 : sp2 = sp.set k { sp[k] with a := σ.get P.next }) (h3 : turnS sp2 (k : Int) 1 2 = sp3 ∧ turnB sp2 (k : Int) 1 = true) : Calls Tryz.prog 155 #[.pointer (some ⟨gl, 0, none⟩), .int .i64 (k : Int)] w fun e w' =>
    e = .returned (.bool false) ∧ LkAt w' gl ga ha hs P (σ.op 5 P.next true (σ.get P.next + 1)) sp3 ∧ Mod [ga, ha, hs] w w' := by
  have HA := fun W (K : LkAt W gl ga ha hs P σ sp) => add_any ga ha σ W K.1 hN.2.2.1 P.next 1
  have ew : wrap64 (σ.get P.next + 1) = σ.get P.next + 1 := IntWalk.wrap64_in _ (by have := hN.2.2.2.2.1; have := hN.2.2.2.2.2; omega)
  rw [if_pos hN.2.2.2.1, ew] at HA
  replace HA := Lib.hid HA
  have HC := Lib.hid (fun W σ2 (K : LkAt W gl ga ha hs P σ2 sp) => show W.cell? ⟨hs, k * 4 + 1, none⟩ = some (.int .i64 sp[k].a) ∧ W.frozen? ⟨hs, k * 4 + 1, none⟩ = false ∧ LkAt (W.setCell ⟨hs, k * 4 + 1, none⟩ (.int .i64 (σ.get P.next))) gl ga ha hs P σ2 sp2 from ⟨(K.2.1.cells k hk).2.1, (K.2.1.cells k hk).2.2.2.2 (k * 4 + 1), by rw [h2]; exact K.spots (K.2.1.setA k hk (σ.get P.next)) ((Mod.refl [hs] W).setCell (by simp) _) (by rw [List.length_set])⟩)
  have HT := fun W σ2 (K : LkAt W gl ga ha hs P σ2 sp2) => turn_lk gl ga ha hs P σ2 sp2 W K (k : Int) 1 2
  rw [h3.1, h3.2] at HT
  replace HT := Lib.hid HT
  clear h2 h3 ew
  have HS := Lib.hid (spot_in_lk gl ga ha hs P σ sp w H k hk)
  have HO := Lib.hid (fun W => of_lk gl W)
  obtain ⟨⟨hP1, hP2⟩, hS, ho, hh, g0, g1⟩ := hN
  obtain ⟨d1, d2, d3, d4, d5⟩ := H.2.2.2.2
  obtain ⟨⟨cc, q0, q1, q2⟩, hl32⟩ := H.heads
  obtain ⟨s0, s1, s2, s3, sf⟩ := H.2.1.cells k hk
  obtain ⟨na0, na1⟩ := hS k hk
  rw [hp] at s0
  have HH := Lib.hid H
  have HP := Lib.hid hp
  have hm0 : Mod [ga, ha, hs] w (w.drewN 1) := (Mod.refl _ _).drewN 1
  clear H hS s2 s3 sf
  generalize sp[k].a = xa at *
  generalize sp[k].pc = xp at *
  have e1 : IntKind.i64.wrap (σ.get P.next + 1 - 1) = σ.get P.next := by rw [IntWalk.i64_in _ (by omega)]; omega
  have e2 : IntKind.i64.wrap (σ.get P.next) = σ.get P.next := IntWalk.i64_in _ (by omega)
  generalize σ.get P.next = x at *
  generalize σ.op 5 P.next true (x + 1) = σ2 at *
  clear hp
  go_enter Tryz.func155, Tryz.ntmps155
  go_wp2_with fail
  refine (HO.out _).mono ?_
  rintro e wx ⟨rfl, hwx⟩
  obtain rfl := hwx.symm
  go_wp2_with fail
  refine (HS.out).mono ?_
  rintro e wx ⟨rfl, hwx⟩
  obtain rfl := hwx.symm
  go_wp2_with fail
  go_region_held3 (fun V => V.cell? ⟨gl, 1, none⟩ = some (.pointer (some ⟨ga, 0, none⟩)) ∧ V.cell? ⟨gl, 2, none⟩ = some (.int .i64 P.next))
    (first | exact ⟨q1, q2⟩ | exact k2 | exact k3)
    (first
      | (go_at_call 163; refine (HA.out _ (HH.out.drewN 1)).mono ?_; rintro e w2 ⟨rfl, ha2, hm2⟩; have k2 := And.intro (keepM hm2 (show (w.drewN 1).cell? _ = _ from q1) (by simp; omega)) (keepM hm2 (show (w.drewN 1).cell? _ = _ from q2) (by simp; omega)); have H2 := Lib.hid ((HH.out.drewN 1).arena ha2 hm2); have c2 := (HC.out _ _ H2.out).1; have f2 := (HC.out _ _ H2.out).2.1; have k3 := And.intro (((World.cell?_setCell_far w2 ⟨hs, k * 4 + 1, none⟩ ⟨gl, 1, none⟩ (.int .i64 x) (by simp; omega))).trans k2.1) (((World.cell?_setCell_far w2 ⟨hs, k * 4 + 1, none⟩ ⟨gl, 2, none⟩ (.int .i64 x) (by simp; omega))).trans k2.2)))
  have H3 := Lib.hid (HC.out _ _ H2.out).2.2
  have hmm : Mod [ga, ha, hs] w (w2.setCell ⟨hs, k * 4 + 1, none⟩ (.int .i64 x)) := (hm0.trans (hm2.sub (by simp))).setCell (by simp) _
  clear k2 k3 ha2 hm2 c2 f2
  generalize w2.setCell ⟨hs, k * 4 + 1, none⟩ (.int .i64 x) = w3 at *
  go_wp2_with fail
  refine (HT.out _ _ H3.out).mono ?_
  rintro e w4 ⟨rfl, h4, hm4⟩
  have H4 := Lib.hid h4
  clear h4
  go_wp2_with fail
  go_ret
  exact ⟨rfl, H4.out, hmm.trans (hm4.sub (by simp))⟩
set_option maxHeartbeats 4000000 in
set_option maxRecDepth 100000 in
theorem step_out (hp : sp[k].pc = 11) (sp2 : List Sp) (h2 : turnS sp (k : Int) 11 0 = sp2 ∧ turnB sp (k : Int) 11 = true) : Calls Tryz.prog 155 #[.pointer (some ⟨gl, 0, none⟩), .int .i64 (k : Int)] w fun e w' =>
    e = .returned (.bool true) ∧ LkAt w' gl ga ha hs P (σ.op 2 (P.next + 1) true (sp[k].a + 1)) sp2 ∧ Mod [ga, ha, hs] w w' := by
  have HSt := Lib.hid (fun W (K : LkAt W gl ga ha hs P σ sp) => store_any ga ha σ W K.1 hN.2.2.1 (P.next + 1) (sp[k].a + 1))
  have HT := fun W σ2 (K : LkAt W gl ga ha hs P σ2 sp) => turn_lk gl ga ha hs P σ2 sp W K (k : Int) 11 0
  rw [h2.1, h2.2] at HT
  replace HT := Lib.hid HT
  clear h2
  have HS := Lib.hid (spot_in_lk gl ga ha hs P σ sp w H k hk)
  have HO := Lib.hid (fun W => of_lk gl W)
  obtain ⟨⟨hP1, hP2⟩, hS, ho, hh, g0, g1⟩ := hN
  obtain ⟨d1, d2, d3, d4, d5⟩ := H.2.2.2.2
  obtain ⟨⟨cc, q0, q1, q2⟩, hl32⟩ := H.heads
  obtain ⟨s0, s1, s2, s3, sf⟩ := H.2.1.cells k hk
  obtain ⟨na0, na1⟩ := hS k hk
  rw [hp] at s0
  have HH := Lib.hid H
  have HP := Lib.hid hp
  have hm0 : Mod [ga, ha, hs] w (w.drewN 1) := (Mod.refl _ _).drewN 1
  clear H hS s2 s3 sf
  have e1 : IntKind.i64.wrap (P.next + 1) = P.next + 1 := IntWalk.i64_in _ (by omega)
  have e2 : IntKind.i64.wrap (sp[k].a + 1) = sp[k].a + 1 := IntWalk.i64_in _ (by omega)
  generalize sp[k].a = xa at *
  generalize sp[k].pc = xp at *
  generalize σ.op 2 (P.next + 1) true (xa + 1) = σ2 at *
  clear hp
  go_enter Tryz.func155, Tryz.ntmps155
  go_wp2_with fail
  refine (HO.out _).mono ?_
  rintro e wx ⟨rfl, hwx⟩
  obtain rfl := hwx.symm
  go_wp2_with fail
  refine (HS.out).mono ?_
  rintro e wx ⟨rfl, hwx⟩
  obtain rfl := hwx.symm
  go_wp2_with fail
  go_region_held3 (fun V => V.cell? ⟨gl, 1, none⟩ = some (.pointer (some ⟨ga, 0, none⟩)) ∧ V.cell? ⟨gl, 2, none⟩ = some (.int .i64 P.next) ∧ V.cell? ⟨hs, k * 4 + 1, none⟩ = some (.int .i64 xa))
    (first | exact ⟨q1, q2, s1⟩ | exact k2)
    (first
      | (go_at_call 83; refine (HSt.out _ (HH.out.drewN 1)).mono ?_; rintro e w2 ⟨rfl, ha2, hm2⟩; have k2 := And.intro (keepM hm2 (show (w.drewN 1).cell? _ = _ from q1) (by simp; omega)) (And.intro (keepM hm2 (show (w.drewN 1).cell? _ = _ from q2) (by simp; omega)) (keepM hm2 (show (w.drewN 1).cell? _ = _ from s1) (by simp; omega))); have H2 := Lib.hid ((HH.out.drewN 1).arena ha2 hm2)))
  have hmm : Mod [ga, ha, hs] w w2 := hm0.trans (hm2.sub (by simp))
  clear k2 ha2 hm2
  go_wp2_with fail
  refine (HT.out _ _ H2.out).mono ?_
  rintro e w4 ⟨rfl, h4, hm4⟩
  have H4 := Lib.hid h4
  clear h4
  go_wp2_with fail
  go_ret
  exact ⟨rfl, H4.out, hmm.trans (hm4.sub (by simp))⟩
set_option maxHeartbeats 4000000 in
set_option maxRecDepth 100000 in
theorem step_two (hp : sp[k].pc = 2) (sp2 : List Sp) (h2 : sp2 = sp.set k { sp[k] with pc := 10 }) (h3 : turnS sp (k : Int) 2 10 = sp2 ∧ turnB sp (k : Int) 2 = true) : Calls Tryz.prog 155 #[.pointer (some ⟨gl, 0, none⟩), .int .i64 (k : Int)] w fun e w' =>
    e = .returned (.bool (σ.get (P.next + 1) == sp[k].a)) ∧ LkAt w' gl ga ha hs P (σ.op 1 (P.next + 1) false 0) (if σ.get (P.next + 1) = sp[k].a then sp2 else sp) ∧ Mod [ga, ha, hs] w w' := by
  have HSt := Lib.hid (fun W (K : LkAt W gl ga ha hs P σ sp) => load_any ga ha σ W K.1 hN.2.2.1 (P.next + 1))
  have HT := fun W σ2 (K : LkAt W gl ga ha hs P σ2 sp) => turn_lk gl ga ha hs P σ2 sp W K (k : Int) 2 10
  rw [h3.1, h3.2] at HT
  replace HT := Lib.hid HT
  have HCc := Lib.hid (fun W σ2 (K : LkAt W gl ga ha hs P σ2 sp2) => show W.cell? ⟨hs, k * 4 + 1, none⟩ = some (.int .i64 sp[k].a) by
    rw [h2] at K
    have := (K.2.1.cells k (by rw [List.length_set]; exact hk)).2.1
    rw [List.getElem_set_self] at this
    exact this)
  clear h2 h3
  by_cases hx : σ.get (P.next + 1) = sp[k].a
  · rw [if_pos hx, beq_iff_eq.2 hx]
    have e9 := ibeq hx
    clear hx
    have HS := Lib.hid (spot_in_lk gl ga ha hs P σ sp w H k hk)
    have HO := Lib.hid (fun W => of_lk gl W)
    obtain ⟨⟨hP1, hP2⟩, hS, ho, hh, g0, g1⟩ := hN
    obtain ⟨d1, d2, d3, d4, d5⟩ := H.2.2.2.2
    obtain ⟨⟨cc, q0, q1, q2⟩, hl32⟩ := H.heads
    obtain ⟨s0, s1, s2, s3, sf⟩ := H.2.1.cells k hk
    obtain ⟨na0, na1⟩ := hS k hk
    rw [hp] at s0
    have HH := Lib.hid H
    have HP := Lib.hid hp
    have hm0 : Mod [ga, ha, hs] w (w.drewN 1) := (Mod.refl _ _).drewN 1
    clear H hS s2 s3 sf
    have e1 : IntKind.i64.wrap (P.next + 1) = P.next + 1 := IntWalk.i64_in _ (by omega)
    have HC := Lib.hid (fun W σ2 (K : LkAt W gl ga ha hs P σ2 sp2) => (HCc.out _ _ K))
    generalize sp[k].a = xa at *
    generalize sp[k].pc = xp at *
    generalize σ.op 1 (P.next + 1) false 0 = σ2 at *
    generalize σ.get (P.next + 1) = x at *
    clear hp
    go_enter Tryz.func155, Tryz.ntmps155
    go_wp2_with fail
    refine (HO.out _).mono ?_
    rintro e wx ⟨rfl, hwx⟩
    obtain rfl := hwx.symm
    go_wp2_with fail
    refine (HS.out).mono ?_
    rintro e wx ⟨rfl, hwx⟩
    obtain rfl := hwx.symm
    go_wp2_with fail
    refine wp_region_held_drew (S := fun V => V.cell? ⟨gl, 1, none⟩ = some (.pointer (some ⟨ga, 0, none⟩)) ∧ V.cell? ⟨gl, 2, none⟩ = some (.int .i64 P.next) ∧ V.cell? ⟨hs, k * 4 + 1, none⟩ = some (.int .i64 xa)) (by kernel_rfl) ⟨q1, q2, s1⟩ (fun hHeld => ?_)
    refine take_to 0 (some 39) (v := ?_) rfl rfl (by kernel_rfl) (by kernel_rfl) (by kernel_rfl) (fun _ _ _ h => h) (Or.inl ⟨by rfl, ?_⟩) (by first | trivial | assumption) ?_
    rotate_left
    focus (intro w hSw; (try dsimp only at hSw); go_simp; (try with_reducible rfl))
    simp only [Act.put, List.setIfInBounds_toArray, List.set_cons_zero, List.set_cons_succ]
    refine take_to 1 (some 40) (v := ?_) rfl rfl (by kernel_rfl) (by kernel_rfl) (by kernel_rfl) (fun _ _ _ h => h) (Or.inl ⟨by rfl, ?_⟩) (by first | trivial | assumption) ?_
    rotate_left
    focus (intro w hSw; (try dsimp only at hSw); go_simp; (try with_reducible rfl))
    simp only [Act.put, List.setIfInBounds_toArray, List.set_cons_zero, List.set_cons_succ]
    refine take_to 2 (some 41) (v := ?_) rfl rfl (by kernel_rfl) (by kernel_rfl) (by kernel_rfl) (fun _ _ _ h => h) (Or.inl ⟨by rfl, ?_⟩) (by first | trivial | assumption) ?_
    rotate_left
    focus (intro w hSw; (try dsimp only at hSw); go_simp; (try with_reducible rfl))
    simp only [Act.put, List.setIfInBounds_toArray, List.set_cons_zero, List.set_cons_succ]
    refine take_to 3 (some 42) (v := ?_) rfl rfl (by kernel_rfl) (by kernel_rfl) (by kernel_rfl) (fun _ _ _ h => h) (Or.inl ⟨by rfl, ?_⟩) (by first | trivial | assumption) ?_
    rotate_left
    focus (intro w hSw; (try dsimp only at hSw); go_simp; (try with_reducible rfl))
    simp only [Act.put, List.setIfInBounds_toArray, List.set_cons_zero, List.set_cons_succ]
    refine take_to 4 (some 43) (v := ?_) rfl rfl (by kernel_rfl) (by kernel_rfl) (by kernel_rfl) (fun _ _ _ h => h) (Or.inl ⟨by rfl, ?_⟩) (by first | trivial | assumption) ?_
    rotate_left
    focus (intro w hSw; (try dsimp only at hSw); go_simp; (try with_reducible rfl))
    simp only [Act.put, List.setIfInBounds_toArray, List.set_cons_zero, List.set_cons_succ]
    refine take_to 5 (some 44) (v := ?_) rfl rfl (by kernel_rfl) (by kernel_rfl) (by kernel_rfl) (fun _ _ _ h => h) (Or.inl ⟨by rfl, ?_⟩) (by first | trivial | assumption) ?_
    rotate_left
    focus (intro w hSw; (try dsimp only at hSw); go_simp; (try with_reducible rfl))
    simp only [Act.put, List.setIfInBounds_toArray, List.set_cons_zero, List.set_cons_succ]
    refine take_to 6 (some 45) (v := ?_) rfl rfl (by kernel_rfl) (by kernel_rfl) (by kernel_rfl) (fun _ _ _ h => h) (Or.inl ⟨by rfl, ?_⟩) (by first | trivial | assumption) ?_
    rotate_left
    focus (intro w hSw; (try dsimp only at hSw); go_simp; (try with_reducible rfl))
    simp only [Act.put, List.setIfInBounds_toArray, List.set_cons_zero, List.set_cons_succ]
    refine take_to 7 (some 46) (v := ?_) rfl rfl (by kernel_rfl) (by kernel_rfl) (by kernel_rfl) (fun _ _ _ h => h) (Or.inl ⟨by rfl, ?_⟩) (by first | trivial | assumption) ?_
    rotate_left
    focus (intro w hSw; (try dsimp only at hSw); go_simp; (try with_reducible rfl))
    simp only [Act.put, List.setIfInBounds_toArray, List.set_cons_zero, List.set_cons_succ]
    refine take_to 8 (some 47) (v := ?_) rfl rfl (by kernel_rfl) (by kernel_rfl) (by kernel_rfl) (fun _ _ _ h => h) (Or.inl ⟨by rfl, ?_⟩) (by first | trivial | assumption) ?_
    rotate_left
    focus (intro w hSw; (try dsimp only at hSw); go_simp; (try with_reducible rfl))
    simp only [Act.put, List.setIfInBounds_toArray, List.set_cons_zero, List.set_cons_succ]
    refine take_to 10 (some 49) (v := ?_) rfl rfl (by kernel_rfl) (by kernel_rfl) (by kernel_rfl) (fun _ _ _ h => h) (Or.inl ⟨by rfl, ?_⟩) (by first | trivial | assumption) ?_
    rotate_left
    focus (intro w hSw; (try dsimp only at hSw); go_simp; (try with_reducible rfl))
    simp only [Act.put, List.setIfInBounds_toArray, List.set_cons_zero, List.set_cons_succ]
    refine take_to 11 (some 50) (v := ?_) rfl rfl (by kernel_rfl) (by kernel_rfl) (by kernel_rfl) (fun _ _ _ h => h) (Or.inl ⟨by rfl, ?_⟩) (by first | trivial | assumption) ?_
    rotate_left
    focus (intro w hSw; (try dsimp only at hSw); go_simp; (try with_reducible rfl))
    simp only [Act.put, List.setIfInBounds_toArray, List.set_cons_zero, List.set_cons_succ]
    refine take_to 12 (some 51) (v := ?_) rfl rfl (by kernel_rfl) (by kernel_rfl) (by kernel_rfl) (fun _ _ _ h => h) (Or.inl ⟨by rfl, ?_⟩) (by first | trivial | assumption) ?_
    rotate_left
    focus (intro w hSw; (try dsimp only at hSw); go_simp; (try with_reducible rfl))
    simp only [Act.put, List.setIfInBounds_toArray, List.set_cons_zero, List.set_cons_succ]
    refine take_to 13 (some 52) (v := ?_) rfl rfl (by kernel_rfl) (by kernel_rfl) (by kernel_rfl) (fun _ _ _ h => h) (Or.inl ⟨by rfl, ?_⟩) (by first | trivial | assumption) ?_
    rotate_left
    focus (intro w hSw; (try dsimp only at hSw); go_simp; (try with_reducible rfl))
    simp only [Act.put, List.setIfInBounds_toArray, List.set_cons_zero, List.set_cons_succ]
    refine wpAnyH_ready (rs := [9]) (by kernel_rfl) (by simp) ?_
    refine AllReadyH.cons rfl (fun K hK => ?_) AllReadyH.nil
    go_simp
    refine (HSt.out _ (HH.out.drewN 1)).mono ?_
    rintro e w2 ⟨rfl, ha2, hm2⟩
    have k2 := And.intro (keepM hm2 (show (w.drewN 1).cell? _ = _ from q1) (by simp; omega)) (And.intro (keepM hm2 (show (w.drewN 1).cell? _ = _ from q2) (by simp; omega)) (keepM hm2 (show (w.drewN 1).cell? _ = _ from s1) (by simp; omega)))
    have H2 := Lib.hid ((HH.out.drewN 1).arena ha2 hm2)
    have hmm : Mod [ga, ha, hs] w w2 := hm0.trans (hm2.sub (by simp))
    go_simp
    refine hK.out _ _ k2 (fun hHeld => ?_)
    refine take_to 14 (some 53) (v := ?_) rfl rfl (by kernel_rfl) (by kernel_rfl) (by kernel_rfl) (fun _ _ _ h => h) (Or.inl ⟨by rfl, ?_⟩) (by first | trivial | assumption) ?_
    rotate_left
    focus (intro w hSw; (try dsimp only at hSw); go_simp; (try with_reducible rfl))
    simp only [Act.put, List.setIfInBounds_toArray, List.set_cons_zero, List.set_cons_succ]
    refine take_to 15 (some 54) (v := ?_) rfl rfl (by kernel_rfl) (by kernel_rfl) (by kernel_rfl) (fun _ _ _ h => h) (Or.inl ⟨by rfl, ?_⟩) (by first | trivial | assumption) ?_
    rotate_left
    focus (intro w hSw; (try dsimp only at hSw); go_simp; (try with_reducible rfl))
    simp only [Act.put, List.setIfInBounds_toArray, List.set_cons_zero, List.set_cons_succ]
    refine take_to 16 (some 55) (v := ?_) rfl rfl (by kernel_rfl) (by kernel_rfl) (by kernel_rfl) (fun _ _ _ h => h) (Or.inl ⟨by rfl, ?_⟩) (by first | trivial | assumption) ?_
    rotate_left
    focus (intro w hSw; (try dsimp only at hSw); go_simp; (try with_reducible rfl))
    simp only [Act.put, List.setIfInBounds_toArray, List.set_cons_zero, List.set_cons_succ]
    refine take_to 17 (some 56) (v := ?_) rfl rfl (by kernel_rfl) (by kernel_rfl) (by kernel_rfl) (fun _ _ _ h => h) (Or.inl ⟨by rfl, ?_⟩) (by first | trivial | assumption) ?_
    rotate_left
    focus (intro w hSw; (try dsimp only at hSw); go_simp; (try with_reducible rfl))
    simp only [Act.put, List.setIfInBounds_toArray, List.set_cons_zero, List.set_cons_succ]
    refine take_to 18 (some 57) (v := ?_) rfl rfl (by kernel_rfl) (by kernel_rfl) (by kernel_rfl) (fun _ _ _ h => h) (Or.inl ⟨by rfl, ?_⟩) (by first | trivial | assumption) ?_
    rotate_left
    focus (intro w hSw; (try dsimp only at hSw); go_simp; (try with_reducible rfl))
    simp only [Act.put, List.setIfInBounds_toArray, List.set_cons_zero, List.set_cons_succ]
    refine take_to 19 (some 58) (v := ?_) rfl rfl (by kernel_rfl) (by kernel_rfl) (by kernel_rfl) (fun _ _ _ h => h) (Or.inl ⟨by rfl, ?_⟩) (by first | trivial | assumption) ?_
    rotate_left
    focus (intro w hSw; (try dsimp only at hSw); go_simp; (try with_reducible rfl))
    simp only [Act.put, List.setIfInBounds_toArray, List.set_cons_zero, List.set_cons_succ]
    refine wpAnyH_ready (rs := [20]) (by kernel_rfl) (by simp) ?_
    refine AllReadyH.cons rfl (fun K hK => ?_) AllReadyH.nil
    go_simp
    refine (HT.out _ _ H2.out).mono ?_
    rintro e w3 ⟨rfl, h3, hm3⟩
    have H3 := Lib.hid h3
    have k3 := And.intro (keepM hm3 k2.1 (by simp; omega)) (And.intro (keepM hm3 k2.2.1 (by simp; omega)) (HC.out _ _ h3))
    go_simp
    refine hK.out _ _ k3 (fun hHeld => ?_)
    refine take_to 21 (some 60) (v := ?_) rfl rfl (by kernel_rfl) (by kernel_rfl) (by kernel_rfl) (fun _ _ _ h => h) (Or.inl ⟨by rfl, ?_⟩) (by first | trivial | assumption) ?_
    rotate_left
    focus (intro w hSw; (try dsimp only at hSw); go_simp; (try with_reducible rfl))
    simp only [Act.put, List.setIfInBounds_toArray, List.set_cons_zero, List.set_cons_succ]
    refine take_to 22 (some 4) (v := ?_) rfl rfl (by kernel_rfl) (by kernel_rfl) (by kernel_rfl) (fun _ _ _ h => h) (Or.inl ⟨by rfl, ?_⟩) (by first | trivial | assumption) ?_
    rotate_left
    focus (intro w hSw; (try dsimp only at hSw); go_simp; (try with_reducible rfl))
    simp only [Act.put, List.setIfInBounds_toArray, List.set_cons_zero, List.set_cons_succ]
    refine wpAnyH_done (by kernel_rfl) ?_ _
    go_wp2_with fail
    go_ret
    exact ⟨rfl, H3.out, hmm.trans (hm3.sub (by simp))⟩
  · rw [if_neg hx, beq_eq_false_iff_ne.2 hx]
    have e9 := ibeq_no hx
    clear hx
    have HS := Lib.hid (spot_in_lk gl ga ha hs P σ sp w H k hk)
    have HO := Lib.hid (fun W => of_lk gl W)
    obtain ⟨⟨hP1, hP2⟩, hS, ho, hh, g0, g1⟩ := hN
    obtain ⟨d1, d2, d3, d4, d5⟩ := H.2.2.2.2
    obtain ⟨⟨cc, q0, q1, q2⟩, hl32⟩ := H.heads
    obtain ⟨s0, s1, s2, s3, sf⟩ := H.2.1.cells k hk
    obtain ⟨na0, na1⟩ := hS k hk
    rw [hp] at s0
    have HH := Lib.hid H
    have HP := Lib.hid hp
    have hm0 : Mod [ga, ha, hs] w (w.drewN 1) := (Mod.refl _ _).drewN 1
    clear H hS s2 s3 sf
    have e1 : IntKind.i64.wrap (P.next + 1) = P.next + 1 := IntWalk.i64_in _ (by omega)
    have HC := Lib.hid (fun W σ2 (K : LkAt W gl ga ha hs P σ2 sp2) => (HCc.out _ _ K))
    generalize sp[k].a = xa at *
    generalize sp[k].pc = xp at *
    generalize σ.op 1 (P.next + 1) false 0 = σ2 at *
    generalize σ.get (P.next + 1) = x at *
    clear hp
    go_enter Tryz.func155, Tryz.ntmps155
    go_wp2_with fail
    refine (HO.out _).mono ?_
    rintro e wx ⟨rfl, hwx⟩
    obtain rfl := hwx.symm
    go_wp2_with fail
    refine (HS.out).mono ?_
    rintro e wx ⟨rfl, hwx⟩
    obtain rfl := hwx.symm
    go_wp2_with fail
    refine wp_region_held_drew (S := fun V => V.cell? ⟨gl, 1, none⟩ = some (.pointer (some ⟨ga, 0, none⟩)) ∧ V.cell? ⟨gl, 2, none⟩ = some (.int .i64 P.next) ∧ V.cell? ⟨hs, k * 4 + 1, none⟩ = some (.int .i64 xa)) (by kernel_rfl) ⟨q1, q2, s1⟩ (fun hHeld => ?_)
    refine take_to 0 (some 39) (v := ?_) rfl rfl (by kernel_rfl) (by kernel_rfl) (by kernel_rfl) (fun _ _ _ h => h) (Or.inl ⟨by rfl, ?_⟩) (by first | trivial | assumption) ?_
    rotate_left
    focus (intro w hSw; (try dsimp only at hSw); go_simp; (try with_reducible rfl))
    simp only [Act.put, List.setIfInBounds_toArray, List.set_cons_zero, List.set_cons_succ]
    refine take_to 1 (some 40) (v := ?_) rfl rfl (by kernel_rfl) (by kernel_rfl) (by kernel_rfl) (fun _ _ _ h => h) (Or.inl ⟨by rfl, ?_⟩) (by first | trivial | assumption) ?_
    rotate_left
    focus (intro w hSw; (try dsimp only at hSw); go_simp; (try with_reducible rfl))
    simp only [Act.put, List.setIfInBounds_toArray, List.set_cons_zero, List.set_cons_succ]
    refine take_to 2 (some 41) (v := ?_) rfl rfl (by kernel_rfl) (by kernel_rfl) (by kernel_rfl) (fun _ _ _ h => h) (Or.inl ⟨by rfl, ?_⟩) (by first | trivial | assumption) ?_
    rotate_left
    focus (intro w hSw; (try dsimp only at hSw); go_simp; (try with_reducible rfl))
    simp only [Act.put, List.setIfInBounds_toArray, List.set_cons_zero, List.set_cons_succ]
    refine take_to 3 (some 42) (v := ?_) rfl rfl (by kernel_rfl) (by kernel_rfl) (by kernel_rfl) (fun _ _ _ h => h) (Or.inl ⟨by rfl, ?_⟩) (by first | trivial | assumption) ?_
    rotate_left
    focus (intro w hSw; (try dsimp only at hSw); go_simp; (try with_reducible rfl))
    simp only [Act.put, List.setIfInBounds_toArray, List.set_cons_zero, List.set_cons_succ]
    refine take_to 4 (some 43) (v := ?_) rfl rfl (by kernel_rfl) (by kernel_rfl) (by kernel_rfl) (fun _ _ _ h => h) (Or.inl ⟨by rfl, ?_⟩) (by first | trivial | assumption) ?_
    rotate_left
    focus (intro w hSw; (try dsimp only at hSw); go_simp; (try with_reducible rfl))
    simp only [Act.put, List.setIfInBounds_toArray, List.set_cons_zero, List.set_cons_succ]
    refine take_to 5 (some 44) (v := ?_) rfl rfl (by kernel_rfl) (by kernel_rfl) (by kernel_rfl) (fun _ _ _ h => h) (Or.inl ⟨by rfl, ?_⟩) (by first | trivial | assumption) ?_
    rotate_left
    focus (intro w hSw; (try dsimp only at hSw); go_simp; (try with_reducible rfl))
    simp only [Act.put, List.setIfInBounds_toArray, List.set_cons_zero, List.set_cons_succ]
    refine take_to 6 (some 45) (v := ?_) rfl rfl (by kernel_rfl) (by kernel_rfl) (by kernel_rfl) (fun _ _ _ h => h) (Or.inl ⟨by rfl, ?_⟩) (by first | trivial | assumption) ?_
    rotate_left
    focus (intro w hSw; (try dsimp only at hSw); go_simp; (try with_reducible rfl))
    simp only [Act.put, List.setIfInBounds_toArray, List.set_cons_zero, List.set_cons_succ]
    refine take_to 7 (some 46) (v := ?_) rfl rfl (by kernel_rfl) (by kernel_rfl) (by kernel_rfl) (fun _ _ _ h => h) (Or.inl ⟨by rfl, ?_⟩) (by first | trivial | assumption) ?_
    rotate_left
    focus (intro w hSw; (try dsimp only at hSw); go_simp; (try with_reducible rfl))
    simp only [Act.put, List.setIfInBounds_toArray, List.set_cons_zero, List.set_cons_succ]
    refine take_to 8 (some 47) (v := ?_) rfl rfl (by kernel_rfl) (by kernel_rfl) (by kernel_rfl) (fun _ _ _ h => h) (Or.inl ⟨by rfl, ?_⟩) (by first | trivial | assumption) ?_
    rotate_left
    focus (intro w hSw; (try dsimp only at hSw); go_simp; (try with_reducible rfl))
    simp only [Act.put, List.setIfInBounds_toArray, List.set_cons_zero, List.set_cons_succ]
    refine take_to 10 (some 49) (v := ?_) rfl rfl (by kernel_rfl) (by kernel_rfl) (by kernel_rfl) (fun _ _ _ h => h) (Or.inl ⟨by rfl, ?_⟩) (by first | trivial | assumption) ?_
    rotate_left
    focus (intro w hSw; (try dsimp only at hSw); go_simp; (try with_reducible rfl))
    simp only [Act.put, List.setIfInBounds_toArray, List.set_cons_zero, List.set_cons_succ]
    refine take_to 11 (some 50) (v := ?_) rfl rfl (by kernel_rfl) (by kernel_rfl) (by kernel_rfl) (fun _ _ _ h => h) (Or.inl ⟨by rfl, ?_⟩) (by first | trivial | assumption) ?_
    rotate_left
    focus (intro w hSw; (try dsimp only at hSw); go_simp; (try with_reducible rfl))
    simp only [Act.put, List.setIfInBounds_toArray, List.set_cons_zero, List.set_cons_succ]
    refine take_to 12 (some 51) (v := ?_) rfl rfl (by kernel_rfl) (by kernel_rfl) (by kernel_rfl) (fun _ _ _ h => h) (Or.inl ⟨by rfl, ?_⟩) (by first | trivial | assumption) ?_
    rotate_left
    focus (intro w hSw; (try dsimp only at hSw); go_simp; (try with_reducible rfl))
    simp only [Act.put, List.setIfInBounds_toArray, List.set_cons_zero, List.set_cons_succ]
    refine take_to 13 (some 52) (v := ?_) rfl rfl (by kernel_rfl) (by kernel_rfl) (by kernel_rfl) (fun _ _ _ h => h) (Or.inl ⟨by rfl, ?_⟩) (by first | trivial | assumption) ?_
    rotate_left
    focus (intro w hSw; (try dsimp only at hSw); go_simp; (try with_reducible rfl))
    simp only [Act.put, List.setIfInBounds_toArray, List.set_cons_zero, List.set_cons_succ]
    refine wpAnyH_ready (rs := [9]) (by kernel_rfl) (by simp) ?_
    refine AllReadyH.cons rfl (fun K hK => ?_) AllReadyH.nil
    go_simp
    refine (HSt.out _ (HH.out.drewN 1)).mono ?_
    rintro e w2 ⟨rfl, ha2, hm2⟩
    have k2 := And.intro (keepM hm2 (show (w.drewN 1).cell? _ = _ from q1) (by simp; omega)) (And.intro (keepM hm2 (show (w.drewN 1).cell? _ = _ from q2) (by simp; omega)) (keepM hm2 (show (w.drewN 1).cell? _ = _ from s1) (by simp; omega)))
    have H2 := Lib.hid ((HH.out.drewN 1).arena ha2 hm2)
    have hmm : Mod [ga, ha, hs] w w2 := hm0.trans (hm2.sub (by simp))
    go_simp
    refine hK.out _ _ k2 (fun hHeld => ?_)
    refine take_to 14 (some 53) (v := ?_) rfl rfl (by kernel_rfl) (by kernel_rfl) (by kernel_rfl) (fun _ _ _ h => h) (Or.inl ⟨by rfl, ?_⟩) (by first | trivial | assumption) ?_
    rotate_left
    focus (intro w hSw; (try dsimp only at hSw); go_simp; (try with_reducible rfl))
    simp only [Act.put, List.setIfInBounds_toArray, List.set_cons_zero, List.set_cons_succ]
    refine take_to 15 (some 54) (v := ?_) rfl rfl (by kernel_rfl) (by kernel_rfl) (by kernel_rfl) (fun _ _ _ h => h) (Or.inl ⟨by rfl, ?_⟩) (by first | trivial | assumption) ?_
    rotate_left
    focus (intro w hSw; (try dsimp only at hSw); go_simp; (try with_reducible rfl))
    simp only [Act.put, List.setIfInBounds_toArray, List.set_cons_zero, List.set_cons_succ]
    refine take_to 16 (some 55) (v := undef) rfl rfl (by kernel_rfl) (by kernel_rfl) (by kernel_rfl) (fun _ _ _ h => h) (Or.inr ⟨by rfl, rfl⟩) (by first | trivial | assumption) ?_
    simp only [Act.put, List.setIfInBounds_toArray, List.set_cons_zero, List.set_cons_succ]
    refine take_to 17 (some 56) (v := undef) rfl rfl (by kernel_rfl) (by kernel_rfl) (by kernel_rfl) (fun _ _ _ h => h) (Or.inr ⟨by rfl, rfl⟩) (by first | trivial | assumption) ?_
    simp only [Act.put, List.setIfInBounds_toArray, List.set_cons_zero, List.set_cons_succ]
    refine take_to 18 (some 57) (v := undef) rfl rfl (by kernel_rfl) (by kernel_rfl) (by kernel_rfl) (fun _ _ _ h => h) (Or.inr ⟨by rfl, rfl⟩) (by first | trivial | assumption) ?_
    simp only [Act.put, List.setIfInBounds_toArray, List.set_cons_zero, List.set_cons_succ]
    refine take_to 19 (some 58) (v := undef) rfl rfl (by kernel_rfl) (by kernel_rfl) (by kernel_rfl) (fun _ _ _ h => h) (Or.inr ⟨by rfl, rfl⟩) (by first | trivial | assumption) ?_
    simp only [Act.put, List.setIfInBounds_toArray, List.set_cons_zero, List.set_cons_succ]
    refine take_to 20 (some 59) (v := undef) rfl rfl (by kernel_rfl) (by kernel_rfl) (by kernel_rfl) (fun _ _ _ h => h) (Or.inr ⟨by rfl, rfl⟩) (by first | trivial | assumption) ?_
    simp only [Act.put, List.setIfInBounds_toArray, List.set_cons_zero, List.set_cons_succ]
    refine take_to 21 (some 60) (v := ?_) rfl rfl (by kernel_rfl) (by kernel_rfl) (by kernel_rfl) (fun _ _ _ h => h) (Or.inl ⟨by rfl, ?_⟩) (by first | trivial | assumption) ?_
    rotate_left
    focus (intro w hSw; (try dsimp only at hSw); go_simp; (try with_reducible rfl))
    simp only [Act.put, List.setIfInBounds_toArray, List.set_cons_zero, List.set_cons_succ]
    refine take_to 22 (some 4) (v := ?_) rfl rfl (by kernel_rfl) (by kernel_rfl) (by kernel_rfl) (fun _ _ _ h => h) (Or.inl ⟨by rfl, ?_⟩) (by first | trivial | assumption) ?_
    rotate_left
    focus (intro w hSw; (try dsimp only at hSw); go_simp; (try with_reducible rfl))
    simp only [Act.put, List.setIfInBounds_toArray, List.set_cons_zero, List.set_cons_succ]
    refine wpAnyH_done (by kernel_rfl) ?_ _
    go_wp2_with fail
    go_ret
    exact ⟨rfl, H2.out, hmm⟩
end
end
end Go.Proofs.YthffhhgaeolpgaaGreat.Tk

/- Package ticket: all steps, Alone, New. -/
namespace Go.Proofs.YthffhhgaeolpgaaGreat.Tk
open Go.RowKit Go.Proofs.YthffhhgaeolpgaaGreat.Ara Go.Proofs.YthffhhgaeolpgaaGreat.Lok

section
variable (gl ga ha hs : Nat) (P : Par) (σ : Ar) (sp : List Sp) (w : World) (H : LkAt w gl ga ha hs P σ sp)
include H
set_option maxRecDepth 100000 in
theorem step_none (i : Int) (h : ¬ ((spOf sp i).pc = 1 ∨ (spOf sp i).pc = 2 ∨ (spOf sp i).pc = 11)) : Calls Tryz.prog 155 #[.pointer (some ⟨gl, 0, none⟩), .int .i64 i] w fun e w' => e = .returned (.bool false) ∧ LkAt w' gl ga ha hs P σ sp ∧ Mod [ga, ha, hs] w w' := by
  have HO := Lib.hid (fun W => of_lk gl W)
  have HH := Lib.hid H
  by_cases hi : i < 0 ∨ (sp.length : Int) ≤ i
  · have HS := Lib.hid (spot_out_lk gl ga ha hs P σ sp w H i hi)
    clear H hi h
    go_enter Tryz.func155, Tryz.ntmps155
    go_wp2_with fail
    refine (HO.out _).mono ?_
    rintro e wx ⟨rfl, hwx⟩
    obtain rfl := hwx.symm
    go_wp2_with fail
    refine (HS.out).mono ?_
    rintro e wx ⟨rfl, hwx⟩
    obtain rfl := hwx.symm
    go_wp2_with fail
    go_ret
    exact ⟨rfl, HH.out, Mod.refl _ _⟩
  · obtain ⟨k, rfl⟩ := Int.eq_ofNat_of_zero_le (show 0 ≤ i by omega)
    have hk : k < sp.length := by omega
    have HS := Lib.hid (spot_in_lk gl ga ha hs P σ sp w H k hk)
    have c0 := (H.2.1.cells k hk).1
    rw [spOf_in hk] at h
    have e1 := ibeq_no (show ¬ sp[k].pc = 1 by omega)
    have e2 := ibeq_no (show ¬ sp[k].pc = 2 by omega)
    have e3 := ibeq_no (show ¬ sp[k].pc = 11 by omega)
    generalize sp[k].pc = x at *
    clear H hi h hk
    go_enter Tryz.func155, Tryz.ntmps155
    go_wp2_with fail
    refine (HO.out _).mono ?_
    rintro e wx ⟨rfl, hwx⟩
    obtain rfl := hwx.symm
    go_wp2_with fail
    refine (HS.out).mono ?_
    rintro e wx ⟨rfl, hwx⟩
    obtain rfl := hwx.symm
    go_wp2_with fail
    go_ret
    exact ⟨rfl, HH.out, Mod.refl _ _⟩
theorem step_lk (hN : Num P σ sp) (i : Int) : Calls Tryz.prog 155 #[.pointer (some ⟨gl, 0, none⟩), .int .i64 i] w fun e w' => e = .returned (.bool (stepP P σ sp i).1) ∧ LkAt w' gl ga ha hs P (stepP P σ sp i).2.1 (stepP P σ sp i).2.2 ∧ Mod [ga, ha, hs] w w' := by
  by_cases h : (spOf sp i).pc = 1 ∨ (spOf sp i).pc = 2 ∨ (spOf sp i).pc = 11
  · obtain ⟨i0, i1⟩ := spOf_range (sp := sp) (i := i) (by omega)
    obtain ⟨k, rfl⟩ := Int.eq_ofNat_of_zero_le i0
    have hk : k < sp.length := by omega
    unfold stepP
    rw [spOf_in hk] at h ⊢
    simp only [Int.toNat_natCast, place_eq]
    rcases h with h | h | h
    · rw [if_pos h]
      have hk2 : k < (sp.set k { sp[k] with a := σ.get P.next }).length := by rw [List.length_set]; exact hk
      have hp2 : (sp.set k { sp[k] with a := σ.get P.next })[k].pc = 1 := by rw [List.getElem_set_self]; exact h
      exact step_one gl ga ha hs P σ sp w H hN k hk h _ _ rfl ⟨turn_setA sp k hk 1 2 _ h, by rw [turn_in hk2, hp2]; rfl⟩
    · rw [if_neg (by omega), if_pos h]
      exact step_two gl ga ha hs P σ sp w H hN k hk h _ rfl ⟨by rw [turnS_in hk, if_pos h], by rw [turn_in hk, h]; rfl⟩
    · rw [if_neg (by omega), if_neg (by omega), if_pos h]
      exact step_out gl ga ha hs P σ sp w H hN k hk h _ ⟨by rw [turnS_in hk, if_pos h], by rw [turn_in hk, h]; rfl⟩
  · have e : stepP P σ sp i = (false, σ, sp) := by unfold stepP; rw [if_neg (by omega), if_neg (by omega), if_neg (by omega)]
    rw [e]
    exact step_none gl ga ha hs P σ sp w H i h
theorem at_no (i p : Int) (h : ¬ (spOf sp i).pc = p) (hp : p ≠ 0) : Calls Tryz.prog 157 #[.pointer (some ⟨gl, 0, none⟩), .int .i64 i, .int .i64 p] w fun e w' => e = .returned (.pointer none) ∧ w' = w := by
  by_cases hi : i < 0 ∨ (sp.length : Int) ≤ i
  · have HS := Lib.hid (spot_out_lk gl ga ha hs P σ sp w H i hi)
    clear H hi h
    go_enter Tryz.func157, Tryz.ntmps157
    go_wp2_with fail
    refine (HS.out).mono ?_
    rintro e wx ⟨rfl, hwx⟩
    obtain rfl := hwx.symm
    go_wp2_with fail
    go_ret
    exact ⟨rfl, rfl⟩
  · obtain ⟨k, rfl⟩ := Int.eq_ofNat_of_zero_le (show 0 ≤ i by omega)
    have hk : k < sp.length := by omega
    have HS := Lib.hid (spot_in_lk gl ga ha hs P σ sp w H k hk)
    have c0 := (H.2.1.cells k hk).1
    rw [spOf_in hk] at h
    have e1 := ibne h
    generalize sp[k].pc = x at *
    clear H hi h hk hp
    go_enter Tryz.func157, Tryz.ntmps157
    go_wp2_with fail
    refine (HS.out).mono ?_
    rintro e wx ⟨rfl, hwx⟩
    obtain rfl := hwx.symm
    go_wp2_with fail
    go_ret
    exact ⟨rfl, rfl⟩
theorem at_yes (k : Nat) (hk : k < sp.length) (p : Int) (h : sp[k].pc = p) : Calls Tryz.prog 157 #[.pointer (some ⟨gl, 0, none⟩), .int .i64 (k : Int), .int .i64 p] w fun e w' => e = .returned (.pointer (some ⟨hs, k * 4, none⟩)) ∧ w' = w := by
  have HS := Lib.hid (spot_in_lk gl ga ha hs P σ sp w H k hk)
  have c0 := (H.2.1.cells k hk).1
  rw [h] at c0
  have e1 := ibne_no (rfl : p = p)
  clear H h hk
  go_enter Tryz.func157, Tryz.ntmps157
  go_wp2_with fail
  refine (HS.out).mono ?_
  rintro e wx ⟨rfl, hwx⟩
  obtain rfl := hwx.symm
  go_wp2_with fail
  go_ret
  exact ⟨rfl, rfl⟩
set_option maxHeartbeats 4000000 in
set_option maxRecDepth 100000 in
theorem alone_lk (hN : Num P σ sp) (i : Int) : Calls Tryz.prog 150 #[.pointer (some ⟨gl, 0, none⟩), .int .i64 i] w fun e w' => e = .returned (.bool (aloneP P σ sp i).1) ∧ LkAt w' gl ga ha hs P (aloneP P σ sp i).2 sp ∧ Mod [ga, ha] w w' := by
  have HO := Lib.hid (fun W => of_lk gl W)
  have HH := Lib.hid H
  by_cases h : (spOf sp i).pc = 10
  · obtain ⟨i0, i1⟩ := spOf_range (sp := sp) (i := i) (by omega)
    obtain ⟨k, rfl⟩ := Int.eq_ofNat_of_zero_le i0
    have hk : k < sp.length := by omega
    unfold aloneP
    rw [spOf_in hk] at h ⊢
    rw [if_pos h]
    have HS := Lib.hid (at_yes gl ga ha hs P σ sp w H k hk 10 h)
    obtain ⟨⟨hP1, hP2⟩, hS, ho, hh, g0, g1⟩ := hN
    obtain ⟨na0, na1⟩ := hS k hk
    have HSt := Lib.hid (fun W (K : LkAt W gl ga ha hs P σ sp) => load_any ga ha σ W K.1 ho P.next)
    obtain ⟨d1, d2, d3, d4, d5⟩ := H.2.2.2.2
    obtain ⟨⟨cc, q0, q1, q2⟩, hl32⟩ := H.heads
    have s1 := (H.2.1.cells k hk).2.1
    generalize sp[k].a = xa at *
    have e1 : IntKind.i64.wrap (xa + 1) = xa + 1 := IntWalk.i64_in _ (by omega)
    generalize σ.op 1 P.next false 0 = σ2 at *
    generalize σ.get P.next = x at *
    have HP := Lib.hid h
    clear H h i0 i1 hS hh
    simp only
    go_enter Tryz.func150, Tryz.ntmps150
    go_wp2_with fail
    refine (HO.out _).mono ?_
    rintro e wx ⟨rfl, hwx⟩
    obtain rfl := hwx.symm
    go_wp2_with fail
    refine (HS.out).mono ?_
    rintro e wx ⟨rfl, hwx⟩
    obtain rfl := hwx.symm
    go_wp2_with fail
    go_region_held3 (fun V => V.cell? ⟨gl, 1, none⟩ = some (.pointer (some ⟨ga, 0, none⟩)) ∧ V.cell? ⟨gl, 2, none⟩ = some (.int .i64 P.next) ∧ V.cell? ⟨hs, k * 4 + 1, none⟩ = some (.int .i64 xa))
      (first | exact ⟨q1, q2, s1⟩ | exact k2)
      (first
        | (go_at_call 158; refine (HSt.out _ (HH.out.drewN 1)).mono ?_; rintro e w2 ⟨rfl, ha2, hm2⟩; have k2 := And.intro (keepM hm2 (show (w.drewN 1).cell? _ = _ from q1) (by simp; omega)) (And.intro (keepM hm2 (show (w.drewN 1).cell? _ = _ from q2) (by simp; omega)) (keepM hm2 (show (w.drewN 1).cell? _ = _ from s1) (by simp; omega))); have H2 := Lib.hid ((HH.out.drewN 1).arena ha2 hm2)))
    have hmm : Mod [ga, ha] w w2 := ((Mod.refl _ _).drewN 1).trans hm2
    clear k2 ha2 hm2 q1 q2 s1
    go_wp2_with fail
    go_ret
    exact ⟨rfl, H2.out, hmm⟩
  · have e : aloneP P σ sp i = (false, σ) := by unfold aloneP; rw [if_neg h]
    rw [e]
    have HS := Lib.hid (at_no gl ga ha hs P σ sp w H i 10 h (by decide))
    clear H h hN e
    go_enter Tryz.func150, Tryz.ntmps150
    go_wp2_with fail
    refine (HO.out _).mono ?_
    rintro e wx ⟨rfl, hwx⟩
    obtain rfl := hwx.symm
    go_wp2_with fail
    refine (HS.out).mono ?_
    rintro e wx ⟨rfl, hwx⟩
    obtain rfl := hwx.symm
    go_wp2_with fail
    go_quiet (fail)
    go_wp2_with fail
    go_ret
    exact ⟨rfl, HH.out.drewN _, (Mod.refl _ _).drewN _⟩
end
set_option maxHeartbeats 4000000 in
set_option maxRecDepth 100000 in
theorem new_lk (ga ha : Nat) (σ σ1 : Ar) (w : World) (H : ArAt w ga ha σ) (hh : ha < w.heap.size) (n : Nat) (n1 : 1 ≤ n) (n2 : n ≤ 32) (next : Int)
    (ht : σ.take 2 = ((next, 0), σ1)) :
    Calls Tryz.prog 55 #[.pointer (some ⟨ga, 0, none⟩), .int .i64 (n : Int)] w fun e w' => ∃ gl hs, e = .returned (.tuple #[.pointer (some ⟨gl, 0, none⟩), .int .i64 0]) ∧ LkAt w' gl ga ha hs ⟨next⟩ σ1 (Ta.zeroS n) ∧ w.heap.size ≤ gl ∧ w.heap.size ≤ hs ∧ Mod [ga, ha] w w' := by
  have HT := take_any ga ha σ w H 2
  rw [ht] at HT
  replace HT := Lib.hid HT
  have hmk := fun W => Ta.make_spots n (by omega) W
  have hga := H.lt
  have i1 : (1 : Int) ≤ (n : Int) := by omega
  have i2 : (n : Int) ≤ 32 := by omega
  clear H ht
  go_enter Tryz.func55, Tryz.ntmps55
  go_wp2_with fail
  refine HT.out.mono ?_
  rintro e w2 ⟨rfl, h2, hm2⟩
  have H2 := Lib.hid h2
  clear h2
  have hz2 := hm2.size
  have hK : LkAt ((w2.alloc (.cells ((Ta.zeroS n).flatMap decSp).toArray 53)).alloc (.cells #[.slice (some ⟨w2.heap.size, 0, none⟩) n n, .pointer (some ⟨ga, 0, none⟩), .int .i64 next] 174)) (w2.heap.size + 1) ga ha w2.heap.size ⟨next⟩ σ1 (Ta.zeroS n) := by
    have hb := (below_new w2 (.cells ((Ta.zeroS n).flatMap decSp).toArray 53))
    have hb2 := below_new (w2.alloc (.cells ((Ta.zeroS n).flatMap decSp).toArray 53)) (.cells #[.slice (some ⟨w2.heap.size, 0, none⟩) n n, .pointer (some ⟨ga, 0, none⟩), .int .i64 next] 174)
    have hbl := blk_new (w2.alloc (.cells ((Ta.zeroS n).flatMap decSp).toArray 53)) (.cells #[.slice (some ⟨w2.heap.size, 0, none⟩) n n, .pointer (some ⟨ga, 0, none⟩), .int .i64 next] 174)
    have hzl : (Ta.zeroS n).length = n := by simp [Ta.zeroS]
    refine ⟨(H2.out.step hb).step hb2, (Ta.spAt_new w2 n).mod (S := []) (Mod.of_below hb2) (by simp), by omega, ⟨n, ?_⟩, by omega, by omega, by omega, by omega, by omega⟩
    rw [hzl]
    simpa using hbl
  have hmm : Mod [ga, ha] w ((w2.alloc (.cells ((Ta.zeroS n).flatMap decSp).toArray 53)).alloc (.cells #[.slice (some ⟨w2.heap.size, 0, none⟩) n n, .pointer (some ⟨ga, 0, none⟩), .int .i64 next] 174)) := (hm2.alloc _).alloc _
  have HK := Lib.hid hK
  clear H2 hm2 hK
  have e0 : (w2.alloc (.cells ((Ta.zeroS n).flatMap decSp).toArray 53)).heap.size = w2.heap.size + 1 := by simp
  go_wp2_with fail
  go_ret2
  exact ⟨w2.heap.size + 1, w2.heap.size, rfl, HK.out, by omega, hz2, hmm⟩
end Go.Proofs.YthffhhgaeolpgaaGreat.Tk

