/- Package parted: Step. -/
import Derived.Test.YthffhhgaeolpgaaPt2
namespace Go.Proofs.Ythffhhgaeolpgaa.Pt
open Go.RowKit Go.Proofs.Ythffhhgaeolpgaa.Ara Go.Proofs.Ythffhhgaeolpgaa.Lok

theorem sfld0 (a b c d : Int) (W : World) : (Instr.field 31 (.agg #[.int .i64 a, .int .i64 b, .int .i64 c, .int .i64 d]) 0).run Try.prog W = .ok (.int .i64 a) W := by
  simp [Instr.field, run_underlying Try.underlying31, asAgg, go_sem]
theorem turn_setA (sp : List Sp) (k : Nat) (hk : k < sp.length) (fr to x : Int) (hp : sp[k].pc = fr) : turnS (sp.set k { sp[k] with a := x }) (k : Int) fr to = sp.set k { sp[k] with pc := to, a := x } := by
  have hk2 : k < (sp.set k { sp[k] with a := x }).length := by rw [List.length_set]; exact hk
  have e : (sp.set k { sp[k] with a := x })[k] = { sp[k] with a := x } := List.getElem_set_self hk2
  rw [turnS_in hk2, e, if_pos hp, List.set_set]
/-- What the walk of Step asks of the numbers. -/
def Num (P : Par) (σ : Ar) (sp : List Sp) : Prop := POk P ∧ SOk sp ∧ σ.ops ≤ 1000000 ∧ σ.has P.next = true ∧ 0 ≤ σ.get P.next ∧ σ.get P.next ≤ 1000000
theorem LkAt.all {W W' : World} {gl ga ha hs : Nat} {P : Par} {σ : Ar} {sp : List Sp} (k : LkAt W gl ga ha hs P σ sp) (n : Nat) (e : W' = W.drewN n) : LkAt W' gl ga ha hs P σ sp := by
  subst e
  exact k
section
variable (gl ga ha hs : Nat) (P : Par) (σ : Ar) (sp : List Sp) (w : World) (H : LkAt w gl ga ha hs P σ sp) (hN : Num P σ sp)
include H hN
set_option maxHeartbeats 4000000 in
set_option maxRecDepth 100000 in
theorem step_one (k : Nat) (hk : k < sp.length) (hp : sp[k].pc = 1) : Calls Try.prog 37 #[.pointer (some ⟨gl, 0, none⟩), .int .i64 (k : Int)] w fun e w' =>
    e = .returned (.bool false) ∧ LkAt w' gl ga ha hs P (σ.op 5 P.next true (σ.get P.next + 1)) (sp.set k { sp[k] with pc := 2, a := σ.get P.next }) ∧ Mod [ga, ha, hs] w w' := by
  have HS := Lib.hid (Spot_lk gl ga ha hs P σ sp w H (k : Int))
  rw [spOf_in hk, hp] at HS
  generalize sp[k].a = ya at HS
  generalize sp[k].b = yb at HS
  generalize sp[k].c = yc at HS
  obtain ⟨hP, hS, ho, hh, g0, g1⟩ := hN
  have q1 := fun a b c d W => sfld0 a b c d W
  have HH := Lib.hid H
  obtain ⟨d1, d2, d3, d4, d5⟩ := H.2.2.2.2
  have HA := Lib.hid (fun W K => add_any ga ha σ W K ho P.next 1)
  have ew : wrap64 (σ.get P.next + 1) = σ.get P.next + 1 := IntWalk.wrap64_in _ (by omega)
  rw [if_pos hh, ew] at HA
  have HK := Lib.hid hk
  have HP := Lib.hid hp
  have e1 : IntKind.i64.wrap (σ.get P.next + 1 - 1) = σ.get P.next := by rw [IntWalk.i64_in _ (by omega)]; omega
  have e2 : IntKind.i64.wrap (σ.get P.next) = σ.get P.next := IntWalk.i64_in _ (by omega)
  have e3 : (k : Int) < (sp.length : Int) := by omega
  have e4 : (0 : Int) ≤ (k : Int) := by omega
  have e5 : (k : Int).toNat = k := by omega
  have HFin := Lib.hid (fun x => turn_setA sp k hk 1 2 x hp)
  clear H hP hS ho hh ew hp
  generalize σ.get P.next = x at *
  generalize σ.op 5 P.next true (x + 1) = σ2 at *
  go_enter Try.func37, Try.ntmps37
  go_wp2_with fail
  refine HS.out.mono ?_
  rintro e w1 ⟨rfl, hb1⟩
  have hm1 : Mod [ga, ha, hs] w w1 := Mod.of_below hb1
  have H1 := Lib.hid (HH.out.same hb1)
  clear hb1
  obtain ⟨⟨cc, q0, r1, _, r3⟩, _⟩ := H1.out.heads
  go_wp2_with fail
  go_region_held3 (fun V => V.cell? ⟨gl, 0, none⟩ = some (.pointer (some ⟨ga, 0, none⟩)) ∧ V.cell? ⟨gl, 1, none⟩ = some (.int .i64 P.next) ∧ V.cell? ⟨gl, 3, none⟩ = some (.slice (some ⟨hs, 0, none⟩) sp.length cc))
    (first | exact ⟨q0, r1, r3⟩ | exact k2 | exact k3)
    (first
      | (go_at_call 69; refine (HA.out _ (H1.out.drewN 1).1).mono ?_; rintro e w2 ⟨rfl, ha2, hm2⟩; have k2 := And.intro (keepM hm2 (show (w1.drewN _).cell? _ = _ from q0) (by simp; omega)) (And.intro (keepM hm2 (show (w1.drewN _).cell? _ = _ from r1) (by simp; omega)) (keepM hm2 (show (w1.drewN _).cell? _ = _ from r3) (by simp; omega))); have H2 := (H1.out.drewN 1).arena ha2 hm2; have c1 := (H2.2.1.cells k hk).2.1; have f1 := (H2.2.1.cells k hk).2.2.2.2 (k * 4 + 1); have k3 := And.intro (((World.cell?_setCell_far w2 ⟨hs, k * 4 + 1, none⟩ ⟨gl, 0, none⟩ (.int .i64 x) (by simp; omega))).trans k2.1) (And.intro (((World.cell?_setCell_far w2 ⟨hs, k * 4 + 1, none⟩ ⟨gl, 1, none⟩ (.int .i64 x) (by simp; omega))).trans k2.2.1) (((World.cell?_setCell_far w2 ⟨hs, k * 4 + 1, none⟩ ⟨gl, 3, none⟩ (.int .i64 x) (by simp; omega))).trans k2.2.2))))
  have hm3 : Mod [hs] w2 (w2.setCell ⟨hs, k * 4 + 1, none⟩ (.int .i64 x)) := (Mod.refl _ _).setCell (by simp) _
  have H3 := Lib.hid (H2.spots (H2.2.1.setA k hk x) hm3 (by rw [List.length_set]))
  have hmm : Mod [ga, ha, hs] w (w2.setCell ⟨hs, k * 4 + 1, none⟩ (.int .i64 x)) := ((hm1.drewN 1).trans (hm2.sub (by simp))).trans (hm3.sub (by simp))
  clear k2 k3 H2 c1 f1 ha2 hm2 hm3 q0 r1 r3
  generalize w2.setCell ⟨hs, k * 4 + 1, none⟩ (.int .i64 x) = w3 at *
  go_wp2_with fail
  refine (turn_lk gl ga ha hs P σ2 _ w3 H3.out (k : Int) 1 2).mono ?_
  rintro e w4 ⟨rfl, h4, hm4⟩
  rw [HFin.out x] at h4
  have H4 := Lib.hid h4
  clear h4
  go_wp2_with fail
  go_ret
  exact ⟨rfl, H4.out, hmm.trans (hm4.sub (by simp))⟩
set_option maxHeartbeats 4000000 in
set_option maxRecDepth 100000 in
theorem step_two (k : Nat) (hk : k < sp.length) (hp : sp[k].pc = 2) : Calls Try.prog 37 #[.pointer (some ⟨gl, 0, none⟩), .int .i64 (k : Int)] w fun e w' =>
    e = .returned (.bool (σ.get (place P sp[k].a) == sp[k].a + 1)) ∧ LkAt w' gl ga ha hs P (σ.op 1 (place P sp[k].a) false 0) (if σ.get (place P sp[k].a) = sp[k].a + 1 then sp.set k { sp[k] with pc := 10 } else sp) ∧ Mod [ga, ha, hs] w w' := by
  have HS := Lib.hid (Spot_lk gl ga ha hs P σ sp w H (k : Int))
  rw [spOf_in hk, hp] at HS
  have HA := Lib.hid (fun W (K : LkAt W gl ga ha hs P σ sp) => asks_served gl ga ha hs P σ sp W K hN.1 hN.2.1 hN.2.2.1 (k : Int))
  rw [spOf_in hk, if_pos hp, if_pos hp] at HA
  have HT := Lib.hid (fun W σ2 (K : LkAt W gl ga ha hs P σ2 sp) => turn_lk gl ga ha hs P σ2 sp W K (k : Int) 2 10)
  rw [turn_in hk, turnS_in hk, if_pos hp, beq_iff_eq.2 hp] at HT
  have q1 := fun a b c d W => sfld0 a b c d W
  have HH := Lib.hid H
  generalize sp[k].a = ya at *
  generalize sp[k].b = yb at *
  generalize sp[k].c = yc at *
  generalize sp.set k { sp[k] with pc := 10 } = sp2 at *
  generalize σ.op 1 (place P ya) false 0 = σ2 at *
  clear H hN hp
  by_cases hg : σ.get (place P ya) = ya + 1
  · rw [if_pos hg, beq_iff_eq.2 hg]
    rw [beq_iff_eq.2 hg] at HA
    clear hg
    go_enter Try.func37, Try.ntmps37
    go_wp2_with fail
    refine HS.out.mono ?_
    rintro e w1 ⟨rfl, hb1⟩
    have H1 := Lib.hid (HH.out.same hb1)
    have hm1 : Mod [ga, ha, hs] w w1 := Mod.of_below hb1
    clear hb1
    go_wp2_with fail
    refine (HA.out _ H1.out).mono ?_
    rintro e w2 ⟨rfl, h2, hm2⟩
    have H2 := Lib.hid h2
    clear h2
    go_wp2_with fail
    refine (HT.out _ _ H2.out).mono ?_
    rintro e w3 ⟨rfl, h3, hm3⟩
    have H3 := Lib.hid h3
    clear h3
    go_wp2_with fail
    go_ret
    exact ⟨rfl, H3.out, (hm1.trans (hm2.sub (by simp))).trans (hm3.sub (by simp))⟩
  · rw [if_neg hg, beq_eq_false_iff_ne.2 hg]
    rw [beq_eq_false_iff_ne.2 hg] at HA
    clear hg
    go_enter Try.func37, Try.ntmps37
    go_wp2_with fail
    refine HS.out.mono ?_
    rintro e w1 ⟨rfl, hb1⟩
    have H1 := Lib.hid (HH.out.same hb1)
    have hm1 : Mod [ga, ha, hs] w w1 := Mod.of_below hb1
    clear hb1
    go_wp2_with fail
    refine (HA.out _ H1.out).mono ?_
    rintro e w2 ⟨rfl, h2, hm2⟩
    have H2 := Lib.hid h2
    clear h2
    go_wp2_with fail
    go_ret
    exact ⟨rfl, H2.out, hm1.trans (hm2.sub (by simp))⟩
set_option maxHeartbeats 4000000 in
set_option maxRecDepth 100000 in
theorem step_out (k : Nat) (hk : k < sp.length) (hp : sp[k].pc = 11) : Calls Try.prog 37 #[.pointer (some ⟨gl, 0, none⟩), .int .i64 (k : Int)] w fun e w' =>
    e = .returned (.bool true) ∧ LkAt w' gl ga ha hs P (σ.op 2 (place P (sp[k].a + 1)) true (sp[k].a + 2)) (sp.set k { sp[k] with pc := 0 }) ∧ Mod [ga, ha, hs] w w' := by
  have HS := Lib.hid (Spot_lk gl ga ha hs P σ sp w H (k : Int))
  rw [spOf_in hk, hp] at HS
  obtain ⟨a0, a1⟩ := hN.2.1 k hk
  have HPl := Lib.hid (fun W (K : LkAt W gl ga ha hs P σ sp) => place_lk gl ga ha hs P σ sp W K hN.1 (sp[k].a + 1) (by omega) (by omega))
  have HSt := Lib.hid (fun W (K : LkAt W gl ga ha hs P σ sp) => store_any ga ha σ W K.1 hN.2.2.1 (place P (sp[k].a + 1)) (sp[k].a + 2))
  have HT := Lib.hid (fun W σ2 (K : LkAt W gl ga ha hs P σ2 sp) => turn_lk gl ga ha hs P σ2 sp W K (k : Int) 11 0)
  rw [turn_in hk, turnS_in hk, if_pos hp, beq_iff_eq.2 hp] at HT
  have HC := Lib.hid (fun W (K : LkAt W gl ga ha hs P σ sp) => (K.2.1.cells k hk).2.1)
  have q1 := fun a b c d W => sfld0 a b c d W
  have HH := Lib.hid H
  obtain ⟨d1, d2, d3, d4, d5⟩ := H.2.2.2.2
  have e3 : (k : Int) < (sp.length : Int) := by omega
  have e4 : (0 : Int) ≤ (k : Int) := by omega
  have e5 : (k : Int).toNat = k := by omega
  generalize sp[k].a = ya at *
  generalize sp[k].b = yb at *
  generalize sp[k].c = yc at *
  generalize sp.set k { sp[k] with pc := 0 } = sp2 at *
  have e6 : IntKind.i64.wrap (ya + 1) = ya + 1 := IntWalk.i64_in _ (by omega)
  have e7 : IntKind.i64.wrap (ya + 2) = ya + 2 := IntWalk.i64_in _ (by omega)
  generalize place P (ya + 1) = p at *
  generalize σ.op 2 p true (ya + 2) = σ2 at *
  clear H hN hp hk a0 a1
  go_enter Try.func37, Try.ntmps37
  go_wp2_with fail
  refine HS.out.mono ?_
  rintro e w1 ⟨rfl, hb1⟩
  have H1 := Lib.hid (HH.out.same hb1)
  have hm1 : Mod [ga, ha, hs] w w1 := Mod.of_below hb1
  clear hb1
  obtain ⟨⟨cc, q0, _, _, r3⟩, _⟩ := H1.out.heads
  have c1 := HC.out _ H1.out
  go_wp2_with fail
  go_region_held3 (fun V => V.cell? ⟨gl, 0, none⟩ = some (.pointer (some ⟨ga, 0, none⟩)) ∧ V.cell? ⟨gl, 3, none⟩ = some (.slice (some ⟨hs, 0, none⟩) sp.length cc) ∧ V.cell? ⟨hs, k * 4 + 1, none⟩ = some (.int .i64 ya))
    (first | exact ⟨q0, r3, c1⟩ | exact k2)
    (first
      | (go_at_call 44; refine (HPl.out _ (H1.out.drewN 1)).mono ?_; rintro e w2 ⟨rfl, n2, rfl⟩)
      | (go_at_call 43; refine (HSt.out _ (H1.out.drewN _)).mono ?_; rintro e w2 ⟨rfl, ha2, hm2⟩; have k2 := And.intro (keepM hm2 (show (w1.drewN _).cell? _ = _ from q0) (by simp; omega)) (And.intro (keepM hm2 (show (w1.drewN _).cell? _ = _ from r3) (by simp; omega)) (keepM hm2 (show (w1.drewN _).cell? _ = _ from c1) (by simp; omega))); have H2 := Lib.hid ((H1.out.drewN _).arena ha2 hm2)))
  have hmm : Mod [ga, ha, hs] w w2 := (hm1.drewN _).trans (hm2.sub (by simp))
  clear k2 ha2 hm2 q0 r3 c1
  go_wp2_with fail
  refine (HT.out _ _ H2.out).mono ?_
  rintro e w3 ⟨rfl, h3, hm3⟩
  have H3 := Lib.hid h3
  clear h3
  go_wp2_with fail
  go_ret
  exact ⟨rfl, H3.out, hmm.trans (hm3.sub (by simp))⟩
omit hN in
set_option maxRecDepth 100000 in
theorem step_none (i : Int) (h1 : (spOf sp i).pc ≠ 1) (h2 : (spOf sp i).pc ≠ 2) (h3 : (spOf sp i).pc ≠ 11) : Calls Try.prog 37 #[.pointer (some ⟨gl, 0, none⟩), .int .i64 i] w fun e w' => e = .returned (.bool false) ∧ LkAt w' gl ga ha hs P σ sp ∧ Mod [ga, ha, hs] w w' := by
  have HS := Lib.hid (Spot_lk gl ga ha hs P σ sp w H i)
  have q1 := fun a b c d W => sfld0 a b c d W
  have HH := Lib.hid H
  have e1 := ibeq_no h1
  have e2 := ibeq_no h2
  have e3 := ibeq_no h3
  generalize (spOf sp i).pc = yp at *
  generalize (spOf sp i).a = ya at *
  generalize (spOf sp i).b = yb at *
  generalize (spOf sp i).c = yc at *
  clear H h1 h2 h3
  go_enter Try.func37, Try.ntmps37
  go_wp2_with fail
  refine HS.out.mono ?_
  rintro e w1 ⟨rfl, hb1⟩
  go_wp2_with fail
  go_ret
  exact ⟨rfl, HH.out.same hb1, Mod.of_below hb1⟩
theorem step_lk (i : Int) : Calls Try.prog 37 #[.pointer (some ⟨gl, 0, none⟩), .int .i64 i] w fun e w' => e = .returned (.bool (stepP P σ sp i).1) ∧ LkAt w' gl ga ha hs P (stepP P σ sp i).2.1 (stepP P σ sp i).2.2 ∧ Mod [ga, ha, hs] w w' := by
  by_cases h : (spOf sp i).pc = 1 ∨ (spOf sp i).pc = 2 ∨ (spOf sp i).pc = 11
  · obtain ⟨i0, i1⟩ := spOf_range (sp := sp) (i := i) (by omega)
    obtain ⟨k, rfl⟩ := Int.eq_ofNat_of_zero_le i0
    have hk : k < sp.length := by omega
    unfold stepP
    rw [spOf_in hk] at h ⊢
    simp only [Int.toNat_natCast]
    rcases h with h | h | h
    · rw [if_pos h]
      exact step_one gl ga ha hs P σ sp w H hN k hk h
    · rw [if_neg (by omega), if_pos h]
      exact step_two gl ga ha hs P σ sp w H hN k hk h
    · rw [if_neg (by omega), if_neg (by omega), if_pos h]
      exact step_out gl ga ha hs P σ sp w H hN k hk h
  · have e : stepP P σ sp i = (false, σ, sp) := by unfold stepP; rw [if_neg (by omega), if_neg (by omega), if_neg (by omega)]
    rw [e]
    exact step_none gl ga ha hs P σ sp w H i (by omega) (by omega) (by omega)
end
end Go.Proofs.Ythffhhgaeolpgaa.Pt
