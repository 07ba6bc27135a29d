/- Merged texts: Mc2. -/
import Derived.Test.YtfnmggmgdmokcaaGreatCt8
import Derived.Deep.RegionHeld3
import Derived.Laws.EntriesVeiled
set_option linter.unusedVariables false
/- Package mcs: a slot comes in, and goes out, by a step. -/
namespace Go.Proofs.YtfnmggmgdmokcaaGreat.Mc
open Go.RowKit Go.Proofs.YtfnmggmgdmokcaaGreat.Ara Go.Proofs.YtfnmggmgdmokcaaGreat.Lok

def pcOk (p : Int) : Prop := p = 0 ∨ p = 1 ∨ p = 2 ∨ p = 3 ∨ p = 4 ∨ p = 5 ∨ p = 10 ∨ p = 11 ∨ p = 12 ∨ p = 13 ∨ p = 14
def Num (P : Par) (σ : Ar) (sp : List Sp) : Prop := (1 ≤ P.tail ∧ P.tail ≤ 4096) ∧ (∀ k (h : k < sp.length), (0 ≤ sp[k].a ∧ sp[k].a ≤ 4096) ∧ pcOk sp[k].pc) ∧ σ.ops ≤ 1000000
theorem LkAt.ltl {W : World} {gl ga ha hs : Nat} {P : Par} {σ : Ar} {sp : List Sp} (k : LkAt W gl ga ha hs P σ sp) : gl < W.heap.size := by
  obtain ⟨_, _, _, ⟨c, k4⟩, _⟩ := k
  exact lt_of_blk k4
section
variable (gl ga ha hs : Nat) (P : Par) (σ : Ar) (sp : List Sp) (w : World) (H : LkAt w gl ga ha hs P σ sp) (hP : 1 ≤ P.tail ∧ P.tail ≤ 4096)
include H hP
theorem next_lk (x : Int) (h : 0 ≤ x ∧ x ≤ 4096) : Calls Tryz.prog 179 #[.pointer (some ⟨gl, 0, none⟩), .int .i64 x] w fun e w' => e = .returned (.int .i64 (nx P x)) ∧ w' = w := by
  obtain ⟨⟨cc, q0, q1, q2⟩, _⟩ := H.heads
  unfold nx
  have e1 : IntKind.i64.wrap (2 * x) = 2 * x := IntWalk.i64_in _ (by omega)
  have e2 : IntKind.i64.wrap (P.tail + 2 * x) = P.tail + 2 * x := IntWalk.i64_in _ (by omega)
  have e3 : IntKind.i64.wrap (P.tail + 2 * x - 1) = P.tail + 2 * x - 1 := IntWalk.i64_in _ (by omega)
  clear H
  go_enter Tryz.func179, Tryz.ntmps179
  go_wp2_with fail
  go_ret
  exact ⟨rfl, rfl⟩
theorem wait_lk (x : Int) (h : 0 ≤ x ∧ x ≤ 4096) : Calls Tryz.prog 185 #[.pointer (some ⟨gl, 0, none⟩), .int .i64 x] w fun e w' => e = .returned (.int .i64 (wt P x)) ∧ w' = w := by
  obtain ⟨⟨cc, q0, q1, q2⟩, _⟩ := H.heads
  unfold wt
  have e1 : IntKind.i64.wrap (2 * x) = 2 * x := IntWalk.i64_in _ (by omega)
  have e2 : IntKind.i64.wrap (P.tail + 2 * x) = P.tail + 2 * x := IntWalk.i64_in _ (by omega)
  clear H
  go_enter Tryz.func185, Tryz.ntmps185
  go_wp2_with fail
  go_ret
  exact ⟨rfl, rfl⟩
end
section
variable (gl ga ha hs : Nat) (P : Par) (σ : Ar) (sp : List Sp) (w : World) (H : LkAt w gl ga ha hs P σ sp) (hN : Num P σ sp) (k : Nat) (hk : k < sp.length)
include H hN
set_option maxHeartbeats 4000000 in
set_option maxRecDepth 100000 in
theorem in_one (hp : sp[k].pc = 1) : Calls Tryz.prog 183 #[.pointer (some ⟨gl, 0, none⟩), .pointer (some ⟨hs, k * 4, none⟩), .int .i64 ((k : Int) + 1)] w fun e w' => e = .returned (.int .i64 2) ∧ LkAt w' gl ga ha hs P (σ.op 2 (nx P ((k : Int) + 1)) true 0) sp ∧ Mod [ga, ha, hs] w w' := by
  have HSt := Lib.hid (fun W (K : LkAt W gl ga ha hs P σ sp) => store_any ga ha σ W K.1 hN.2.2 (nx P ((k : Int) + 1)) 0)
  obtain ⟨hP, hS, ho⟩ := hN
  obtain ⟨d1, d2, d3, d4, d5⟩ := H.2.2.2.2
  obtain ⟨⟨cc, q0, q1, q2⟩, hl32⟩ := H.heads
  obtain ⟨s0, s1, s2, s3, sf⟩ := H.2.1.cells k hk
  have hna := (hS k hk).1
  rw [hp] at s0
  have HH := Lib.hid H
  have HK := Lib.hid hk
  have hm0 : Mod [ga, ha, hs] w (w.drewN 1) := (Mod.refl _ _).drewN 1
  clear H s2 s3 hS
  have HX := Lib.hid (fun W (K : LkAt W gl ga ha hs P σ sp) => next_lk gl ga ha hs P σ sp W K hP ((k : Int) + 1) (by omega))
  generalize sp[k].a = xa at *
  generalize σ.op 2 (nx P ((k : Int) + 1)) true 0 = σ2 at *
  generalize nx P ((k : Int) + 1) = p at *
  clear hp
  go_enter Tryz.func183, Tryz.ntmps183
  go_wp2_with fail
  go_region_held3 (fun V => V.cell? ⟨gl, 0, none⟩ = some (.pointer (some ⟨ga, 0, none⟩)) ∧ V.cell? ⟨hs, k * 4 + 1, none⟩ = some (.int .i64 xa))
    (first | exact ⟨q0, s1⟩ | exact k2)
    (first
      | (go_at_call 179; refine (HX.out (w.drewN 1) (HH.out.drewN 1)).mono ?_; rintro e wx ⟨rfl, hwx⟩; obtain rfl := hwx.symm)
      | (go_at_call 56; refine (HSt.out _ (HH.out.drewN 1)).mono ?_; rintro e w2 ⟨rfl, ha2, hm2⟩; have k2 := And.intro (keepM hm2 (show (w.drewN 1).cell? _ = _ from q0) (by simp; omega)) (keepM hm2 (show (w.drewN 1).cell? _ = _ from s1) (by simp; omega)); have H2 := Lib.hid ((HH.out.drewN 1).arena ha2 hm2)))
  have hmm : Mod [ga, ha, hs] w w2 := hm0.trans (hm2.sub (by simp))
  clear k2 ha2 hm2
  go_wp2_with fail
  go_ret
  exact ⟨rfl, H2.out, hmm⟩
set_option maxHeartbeats 4000000 in
set_option maxRecDepth 100000 in
theorem in_two (hp : sp[k].pc = 2) : Calls Tryz.prog 183 #[.pointer (some ⟨gl, 0, none⟩), .pointer (some ⟨hs, k * 4, none⟩), .int .i64 ((k : Int) + 1)] w fun e w' => e = .returned (.int .i64 3) ∧ LkAt w' gl ga ha hs P (σ.op 2 (wt P ((k : Int) + 1)) true 1) sp ∧ Mod [ga, ha, hs] w w' := by
  have HSt := Lib.hid (fun W (K : LkAt W gl ga ha hs P σ sp) => store_any ga ha σ W K.1 hN.2.2 (wt P ((k : Int) + 1)) 1)
  obtain ⟨hP, hS, ho⟩ := hN
  obtain ⟨d1, d2, d3, d4, d5⟩ := H.2.2.2.2
  obtain ⟨⟨cc, q0, q1, q2⟩, hl32⟩ := H.heads
  obtain ⟨s0, s1, s2, s3, sf⟩ := H.2.1.cells k hk
  have hna := (hS k hk).1
  rw [hp] at s0
  have HH := Lib.hid H
  have HK := Lib.hid hk
  have hm0 : Mod [ga, ha, hs] w (w.drewN 1) := (Mod.refl _ _).drewN 1
  clear H s2 s3 hS
  have HX := Lib.hid (fun W (K : LkAt W gl ga ha hs P σ sp) => wait_lk gl ga ha hs P σ sp W K hP ((k : Int) + 1) (by omega))
  generalize sp[k].a = xa at *
  generalize σ.op 2 (wt P ((k : Int) + 1)) true 1 = σ2 at *
  generalize wt P ((k : Int) + 1) = p at *
  clear hp
  go_enter Tryz.func183, Tryz.ntmps183
  go_wp2_with fail
  go_region_held3 (fun V => V.cell? ⟨gl, 0, none⟩ = some (.pointer (some ⟨ga, 0, none⟩)) ∧ V.cell? ⟨hs, k * 4 + 1, none⟩ = some (.int .i64 xa))
    (first | exact ⟨q0, s1⟩ | exact k2)
    (first
      | (go_at_call 185; refine (HX.out (w.drewN 1) (HH.out.drewN 1)).mono ?_; rintro e wx ⟨rfl, hwx⟩; obtain rfl := hwx.symm)
      | (go_at_call 56; refine (HSt.out _ (HH.out.drewN 1)).mono ?_; rintro e w2 ⟨rfl, ha2, hm2⟩; have k2 := And.intro (keepM hm2 (show (w.drewN 1).cell? _ = _ from q0) (by simp; omega)) (keepM hm2 (show (w.drewN 1).cell? _ = _ from s1) (by simp; omega)); have H2 := Lib.hid ((HH.out.drewN 1).arena ha2 hm2)))
  have hmm : Mod [ga, ha, hs] w w2 := hm0.trans (hm2.sub (by simp))
  clear k2 ha2 hm2
  go_wp2_with fail
  go_ret
  exact ⟨rfl, H2.out, hmm⟩
set_option maxHeartbeats 4000000 in
set_option maxRecDepth 100000 in
theorem in_four (hp : sp[k].pc = 4) : Calls Tryz.prog 183 #[.pointer (some ⟨gl, 0, none⟩), .pointer (some ⟨hs, k * 4, none⟩), .int .i64 ((k : Int) + 1)] w fun e w' => e = .returned (.int .i64 5) ∧ LkAt w' gl ga ha hs P (σ.op 2 (nx P sp[k].a) true ((k : Int) + 1)) sp ∧ Mod [ga, ha, hs] w w' := by
  have HSt := Lib.hid (fun W (K : LkAt W gl ga ha hs P σ sp) => store_any ga ha σ W K.1 hN.2.2 (nx P sp[k].a) ((k : Int) + 1))
  obtain ⟨hP, hS, ho⟩ := hN
  obtain ⟨d1, d2, d3, d4, d5⟩ := H.2.2.2.2
  obtain ⟨⟨cc, q0, q1, q2⟩, hl32⟩ := H.heads
  obtain ⟨s0, s1, s2, s3, sf⟩ := H.2.1.cells k hk
  have hna := (hS k hk).1
  rw [hp] at s0
  have HH := Lib.hid H
  have HK := Lib.hid hk
  have hm0 : Mod [ga, ha, hs] w (w.drewN 1) := (Mod.refl _ _).drewN 1
  clear H s2 s3 hS
  have HX := Lib.hid (fun W (K : LkAt W gl ga ha hs P σ sp) => next_lk gl ga ha hs P σ sp W K hP sp[k].a hna)
  generalize sp[k].a = xa at *
  generalize σ.op 2 (nx P xa) true ((k : Int) + 1) = σ2 at *
  generalize nx P xa = p at *
  clear hp
  go_enter Tryz.func183, Tryz.ntmps183
  go_wp2_with fail
  go_region_held3 (fun V => V.cell? ⟨gl, 0, none⟩ = some (.pointer (some ⟨ga, 0, none⟩)) ∧ V.cell? ⟨hs, k * 4 + 1, none⟩ = some (.int .i64 xa))
    (first | exact ⟨q0, s1⟩ | exact k2)
    (first
      | (go_at_call 179; refine (HX.out (w.drewN 1) (HH.out.drewN 1)).mono ?_; rintro e wx ⟨rfl, hwx⟩; obtain rfl := hwx.symm)
      | (go_at_call 56; refine (HSt.out _ (HH.out.drewN 1)).mono ?_; rintro e w2 ⟨rfl, ha2, hm2⟩; have k2 := And.intro (keepM hm2 (show (w.drewN 1).cell? _ = _ from q0) (by simp; omega)) (keepM hm2 (show (w.drewN 1).cell? _ = _ from s1) (by simp; omega)); have H2 := Lib.hid ((HH.out.drewN 1).arena ha2 hm2)))
  have hmm : Mod [ga, ha, hs] w w2 := hm0.trans (hm2.sub (by simp))
  clear k2 ha2 hm2
  go_wp2_with fail
  go_ret
  exact ⟨rfl, H2.out, hmm⟩
set_option maxHeartbeats 4000000 in
set_option maxRecDepth 100000 in
theorem in_five (hp : sp[k].pc = 5) : Calls Tryz.prog 183 #[.pointer (some ⟨gl, 0, none⟩), .pointer (some ⟨hs, k * 4, none⟩), .int .i64 ((k : Int) + 1)] w fun e w' => e = .returned (.int .i64 (if σ.get (wt P ((k : Int) + 1)) = 0 then 10 else 5)) ∧ LkAt w' gl ga ha hs P (σ.op 1 (wt P ((k : Int) + 1)) false 0) sp ∧ Mod [ga, ha, hs] w w' := by
  have HSt := Lib.hid (fun W (K : LkAt W gl ga ha hs P σ sp) => load_any ga ha σ W K.1 hN.2.2 (wt P ((k : Int) + 1)))
  obtain ⟨hP, hS, ho⟩ := hN
  obtain ⟨d1, d2, d3, d4, d5⟩ := H.2.2.2.2
  obtain ⟨⟨cc, q0, q1, q2⟩, hl32⟩ := H.heads
  obtain ⟨s0, s1, s2, s3, sf⟩ := H.2.1.cells k hk
  have hna := (hS k hk).1
  rw [hp] at s0
  have HH := Lib.hid H
  have HK := Lib.hid hk
  have hm0 : Mod [ga, ha, hs] w (w.drewN 1) := (Mod.refl _ _).drewN 1
  clear H s2 s3 hS
  have HX := Lib.hid (fun W (K : LkAt W gl ga ha hs P σ sp) => wait_lk gl ga ha hs P σ sp W K hP ((k : Int) + 1) (by omega))
  generalize sp[k].a = xa at *
  generalize σ.op 1 (wt P ((k : Int) + 1)) false 0 = σ2 at *
  generalize wt P ((k : Int) + 1) = p at *
  clear hp
  by_cases hx : σ.get p = 0
  · rw [if_pos hx]
    rw [hx] at HSt
    clear hx
    go_enter Tryz.func183, Tryz.ntmps183
    go_wp2_with fail
    go_region_held3 (fun V => V.cell? ⟨gl, 0, none⟩ = some (.pointer (some ⟨ga, 0, none⟩)) ∧ V.cell? ⟨hs, k * 4 + 1, none⟩ = some (.int .i64 xa))
      (first | exact ⟨q0, s1⟩ | exact k2)
      (first
        | (go_at_call 185; refine (HX.out (w.drewN 1) (HH.out.drewN 1)).mono ?_; rintro e wx ⟨rfl, hwx⟩; obtain rfl := hwx.symm)
        | (go_at_call 55; refine (HSt.out _ (HH.out.drewN 1)).mono ?_; rintro e w2 ⟨rfl, ha2, hm2⟩; have k2 := And.intro (keepM hm2 (show (w.drewN 1).cell? _ = _ from q0) (by simp; omega)) (keepM hm2 (show (w.drewN 1).cell? _ = _ from s1) (by simp; omega)); have H2 := Lib.hid ((HH.out.drewN 1).arena ha2 hm2)))
    have hmm : Mod [ga, ha, hs] w w2 := hm0.trans (hm2.sub (by simp))
    clear k2 ha2 hm2
    go_wp2_with fail
    go_ret
    exact ⟨rfl, H2.out, hmm⟩
  · rw [if_neg hx]
    generalize σ.get p = x at *
    have e9 := ibeq_no hx
    clear hx
    go_enter Tryz.func183, Tryz.ntmps183
    go_wp2_with fail
    go_region_held3 (fun V => V.cell? ⟨gl, 0, none⟩ = some (.pointer (some ⟨ga, 0, none⟩)) ∧ V.cell? ⟨hs, k * 4 + 1, none⟩ = some (.int .i64 xa))
      (first | exact ⟨q0, s1⟩ | exact k2)
      (first
        | (go_at_call 185; refine (HX.out (w.drewN 1) (HH.out.drewN 1)).mono ?_; rintro e wx ⟨rfl, hwx⟩; obtain rfl := hwx.symm)
        | (go_at_call 55; refine (HSt.out _ (HH.out.drewN 1)).mono ?_; rintro e w2 ⟨rfl, ha2, hm2⟩; have k2 := And.intro (keepM hm2 (show (w.drewN 1).cell? _ = _ from q0) (by simp; omega)) (keepM hm2 (show (w.drewN 1).cell? _ = _ from s1) (by simp; omega)); have H2 := Lib.hid ((HH.out.drewN 1).arena ha2 hm2)))
    have hmm : Mod [ga, ha, hs] w w2 := hm0.trans (hm2.sub (by simp))
    clear k2 ha2 hm2
    go_wp2_with fail
    go_ret
    exact ⟨rfl, H2.out, hmm⟩
set_option maxHeartbeats 4000000 in
set_option maxRecDepth 100000 in
theorem in_three (hp : sp[k].pc = 3) (sp2 : List Sp) (h2 : sp2 = sp.set k { sp[k] with a := σ.get P.tail }) : Calls Tryz.prog 183 #[.pointer (some ⟨gl, 0, none⟩), .pointer (some ⟨hs, k * 4, none⟩), .int .i64 ((k : Int) + 1)] w fun e w' => e = .returned (.int .i64 (if σ.get P.tail = 0 then 10 else 4)) ∧ LkAt w' gl ga ha hs P (σ.op 3 P.tail true ((k : Int) + 1)) sp2 ∧ Mod [ga, ha, hs] w w' := by
  have HSt := Lib.hid (fun W (K : LkAt W gl ga ha hs P σ sp) => swap_any ga ha σ W K.1 hN.2.2 P.tail ((k : Int) + 1))
  obtain ⟨hP, hS, ho⟩ := hN
  obtain ⟨d1, d2, d3, d4, d5⟩ := H.2.2.2.2
  obtain ⟨⟨cc, q0, q1, q2⟩, hl32⟩ := H.heads
  obtain ⟨s0, s1, s2, s3, sf⟩ := H.2.1.cells k hk
  have hna := (hS k hk).1
  rw [hp] at s0
  have HH := Lib.hid H
  have HK := Lib.hid hk
  have hm0 : Mod [ga, ha, hs] w (w.drewN 1) := (Mod.refl _ _).drewN 1
  clear H s2 s3 hS
  have HC : ∀ W σ2, LkAt W gl ga ha hs P σ2 sp → W.cell? ⟨hs, k * 4 + 1, none⟩ = some (.int .i64 sp[k].a) ∧ W.frozen? ⟨hs, k * 4 + 1, none⟩ = false ∧ LkAt (W.setCell ⟨hs, k * 4 + 1, none⟩ (.int .i64 (σ.get P.tail))) gl ga ha hs P σ2 sp2 :=
    fun W σ2 K => ⟨(K.2.1.cells k hk).2.1, (K.2.1.cells k hk).2.2.2.2 (k * 4 + 1), by rw [h2]; exact K.spots (K.2.1.setA k hk (σ.get P.tail)) ((Mod.refl [hs] W).setCell (by simp) _) (by rw [List.length_set])⟩
  have HCv : ∀ W σ2, LkAt W gl ga ha hs P σ2 sp2 → W.cell? ⟨hs, k * 4 + 1, none⟩ = some (.int .i64 (σ.get P.tail)) := fun W σ2 K => by
    rw [h2] at K
    have := (K.2.1.cells k (by rw [List.length_set]; exact hk)).2.1
    rw [List.getElem_set_self] at this
    exact this
  have HCp : ∀ W σ2, LkAt W gl ga ha hs P σ2 sp2 → W.cell? ⟨hs, k * 4, none⟩ = some (.int .i64 3) := fun W σ2 K => by
    rw [h2] at K
    have := (K.2.1.cells k (by rw [List.length_set]; exact hk)).1
    rw [List.getElem_set_self] at this
    exact this.trans (congrArg (fun z => some (Value.int .i64 z)) hp)
  replace HC := Lib.hid HC
  replace HCv := Lib.hid HCv
  replace HCp := Lib.hid HCp
  clear h2
  generalize sp[k].a = xa at *
  generalize σ.op 3 P.tail true ((k : Int) + 1) = σ2 at *
  clear hp
  by_cases hx : σ.get P.tail = 0
  · rw [if_pos hx]
    rw [hx] at HSt HC HCv
    clear hx
    go_enter Tryz.func183, Tryz.ntmps183
    go_wp2_with fail
    go_region_held3 (fun V => V.cell? ⟨gl, 0, none⟩ = some (.pointer (some ⟨ga, 0, none⟩)) ∧ V.cell? ⟨gl, 1, none⟩ = some (.int .i64 P.tail))
      (first | exact ⟨q0, q1⟩ | exact k2 | exact k3)
      (first
        | (go_at_call 186; refine (HSt.out _ (HH.out.drewN 1)).mono ?_; rintro e w2 ⟨rfl, ha2, hm2⟩; have k2 := And.intro (keepM hm2 (show (w.drewN 1).cell? _ = _ from q0) (by simp; omega)) (keepM hm2 (show (w.drewN 1).cell? _ = _ from q1) (by simp; omega)); have H2 := Lib.hid ((HH.out.drewN 1).arena ha2 hm2); have c2 := (HC.out _ _ H2.out).1; have f2 := (HC.out _ _ H2.out).2.1; have k3 := And.intro (((World.cell?_setCell_far w2 ⟨hs, k * 4 + 1, none⟩ ⟨gl, 0, none⟩ (.int .i64 0) (by simp; omega))).trans k2.1) (((World.cell?_setCell_far w2 ⟨hs, k * 4 + 1, none⟩ ⟨gl, 1, none⟩ (.int .i64 0) (by simp; omega))).trans k2.2)))
    have H3 := (HC.out _ _ H2.out).2.2
    have hmm : Mod [ga, ha, hs] w (w2.setCell ⟨hs, k * 4 + 1, none⟩ (.int .i64 0)) := (hm0.trans (hm2.sub (by simp))).setCell (by simp) _
    have v1 := (HCv.out _ _ H3)
    have v0 := (HCp.out _ _ H3)
    replace H3 := Lib.hid H3
    clear k2 k3 ha2 hm2 c2 f2
    generalize w2.setCell ⟨hs, k * 4 + 1, none⟩ (.int .i64 0) = w3 at *
    go_wp2_with fail
    go_ret
    exact ⟨rfl, H3.out, hmm⟩
  · rw [if_neg hx]
    generalize σ.get P.tail = x at *
    have e9 := ibeq_no hx
    clear hx
    go_enter Tryz.func183, Tryz.ntmps183
    go_wp2_with fail
    go_region_held3 (fun V => V.cell? ⟨gl, 0, none⟩ = some (.pointer (some ⟨ga, 0, none⟩)) ∧ V.cell? ⟨gl, 1, none⟩ = some (.int .i64 P.tail))
      (first | exact ⟨q0, q1⟩ | exact k2 | exact k3)
      (first
        | (go_at_call 186; refine (HSt.out _ (HH.out.drewN 1)).mono ?_; rintro e w2 ⟨rfl, ha2, hm2⟩; have k2 := And.intro (keepM hm2 (show (w.drewN 1).cell? _ = _ from q0) (by simp; omega)) (keepM hm2 (show (w.drewN 1).cell? _ = _ from q1) (by simp; omega)); have H2 := Lib.hid ((HH.out.drewN 1).arena ha2 hm2); have c2 := (HC.out _ _ H2.out).1; have f2 := (HC.out _ _ H2.out).2.1; have k3 := And.intro (((World.cell?_setCell_far w2 ⟨hs, k * 4 + 1, none⟩ ⟨gl, 0, none⟩ (.int .i64 x) (by simp; omega))).trans k2.1) (((World.cell?_setCell_far w2 ⟨hs, k * 4 + 1, none⟩ ⟨gl, 1, none⟩ (.int .i64 x) (by simp; omega))).trans k2.2)))
    have H3 := (HC.out _ _ H2.out).2.2
    have hmm : Mod [ga, ha, hs] w (w2.setCell ⟨hs, k * 4 + 1, none⟩ (.int .i64 x)) := (hm0.trans (hm2.sub (by simp))).setCell (by simp) _
    have v1 := (HCv.out _ _ H3)
    have v0 := (HCp.out _ _ H3)
    replace H3 := Lib.hid H3
    clear k2 k3 ha2 hm2 c2 f2
    generalize w2.setCell ⟨hs, k * 4 + 1, none⟩ (.int .i64 x) = w3 at *
    go_wp2_with fail
    go_ret
    exact ⟨rfl, H3.out, hmm⟩
set_option maxHeartbeats 4000000 in
set_option maxRecDepth 100000 in
theorem out_14 (hp : sp[k].pc = 14) : Calls Tryz.prog 184 #[.pointer (some ⟨gl, 0, none⟩), .pointer (some ⟨hs, k * 4, none⟩), .int .i64 ((k : Int) + 1)] w fun e w' => e = .returned (.int .i64 0) ∧ LkAt w' gl ga ha hs P (σ.op 2 (wt P sp[k].a) true 0) sp ∧ Mod [ga, ha, hs] w w' := by
  have HSt := Lib.hid (fun W (K : LkAt W gl ga ha hs P σ sp) => store_any ga ha σ W K.1 hN.2.2 (wt P sp[k].a) 0)
  obtain ⟨hP, hS, ho⟩ := hN
  obtain ⟨d1, d2, d3, d4, d5⟩ := H.2.2.2.2
  obtain ⟨⟨cc, q0, q1, q2⟩, hl32⟩ := H.heads
  obtain ⟨s0, s1, s2, s3, sf⟩ := H.2.1.cells k hk
  have hna := (hS k hk).1
  rw [hp] at s0
  have HH := Lib.hid H
  have HK := Lib.hid hk
  have hm0 : Mod [ga, ha, hs] w (w.drewN 1) := (Mod.refl _ _).drewN 1
  clear H s2 s3 hS
  have HX := Lib.hid (fun W (K : LkAt W gl ga ha hs P σ sp) => wait_lk gl ga ha hs P σ sp W K hP sp[k].a hna)
  generalize sp[k].a = xa at *
  generalize σ.op 2 (wt P xa) true 0 = σ2 at *
  generalize wt P xa = p at *
  clear hp
  go_enter Tryz.func184, Tryz.ntmps184
  go_wp2_with fail
  go_region_held3 (fun V => V.cell? ⟨gl, 0, none⟩ = some (.pointer (some ⟨ga, 0, none⟩)) ∧ V.cell? ⟨hs, k * 4 + 1, none⟩ = some (.int .i64 xa))
    (first | exact ⟨q0, s1⟩ | exact k2)
    (first
      | (go_at_call 185; refine (HX.out (w.drewN 1) (HH.out.drewN 1)).mono ?_; rintro e wx ⟨rfl, hwx⟩; obtain rfl := hwx.symm)
      | (go_at_call 56; refine (HSt.out _ (HH.out.drewN 1)).mono ?_; rintro e w2 ⟨rfl, ha2, hm2⟩; have k2 := And.intro (keepM hm2 (show (w.drewN 1).cell? _ = _ from q0) (by simp; omega)) (keepM hm2 (show (w.drewN 1).cell? _ = _ from s1) (by simp; omega)); have H2 := Lib.hid ((HH.out.drewN 1).arena ha2 hm2)))
  have hmm : Mod [ga, ha, hs] w w2 := hm0.trans (hm2.sub (by simp))
  clear k2 ha2 hm2
  go_wp2_with fail
  go_ret
  exact ⟨rfl, H2.out, hmm⟩
set_option maxHeartbeats 4000000 in
set_option maxRecDepth 100000 in
theorem out_12 (hp : sp[k].pc = 12) : Calls Tryz.prog 184 #[.pointer (some ⟨gl, 0, none⟩), .pointer (some ⟨hs, k * 4, none⟩), .int .i64 ((k : Int) + 1)] w fun e w' => e = .returned (.int .i64 (if (σ.has P.tail && (σ.get P.tail == (k : Int) + 1)) = true then 0 else 13)) ∧ LkAt w' gl ga ha hs P (σ.op 4 P.tail (σ.has P.tail && (σ.get P.tail == (k : Int) + 1)) 0) sp ∧ Mod [ga, ha, hs] w w' := by
  have HSt := Lib.hid (fun W (K : LkAt W gl ga ha hs P σ sp) => cas_any ga ha σ W K.1 hN.2.2 P.tail ((k : Int) + 1) 0)
  obtain ⟨hP, hS, ho⟩ := hN
  obtain ⟨d1, d2, d3, d4, d5⟩ := H.2.2.2.2
  obtain ⟨⟨cc, q0, q1, q2⟩, hl32⟩ := H.heads
  obtain ⟨s0, s1, s2, s3, sf⟩ := H.2.1.cells k hk
  have hna := (hS k hk).1
  rw [hp] at s0
  have HH := Lib.hid H
  have HK := Lib.hid hk
  have hm0 : Mod [ga, ha, hs] w (w.drewN 1) := (Mod.refl _ _).drewN 1
  clear H s2 s3 hS
  generalize sp[k].a = xa at *
  clear hp
  generalize (σ.has P.tail && (σ.get P.tail == (k : Int) + 1)) = b at *
  generalize σ.op 4 P.tail b 0 = σ2 at *
  cases b
  · rw [if_neg (by decide)]
    go_enter Tryz.func184, Tryz.ntmps184
    go_wp2_with fail
    go_region_held3 (fun V => V.cell? ⟨gl, 0, none⟩ = some (.pointer (some ⟨ga, 0, none⟩)) ∧ V.cell? ⟨gl, 1, none⟩ = some (.int .i64 P.tail))
      (first | exact ⟨q0, q1⟩ | exact k2)
      (first
        | (go_at_call 143; refine (HSt.out _ (HH.out.drewN 1)).mono ?_; rintro e w2 ⟨rfl, ha2, hm2⟩; have k2 := And.intro (keepM hm2 (show (w.drewN 1).cell? _ = _ from q0) (by simp; omega)) (keepM hm2 (show (w.drewN 1).cell? _ = _ from q1) (by simp; omega)); have H2 := Lib.hid ((HH.out.drewN 1).arena ha2 hm2)))
    have hmm : Mod [ga, ha, hs] w w2 := hm0.trans (hm2.sub (by simp))
    clear k2 ha2 hm2
    go_wp2_with fail
    go_ret
    exact ⟨rfl, H2.out, hmm⟩
  · rw [if_pos rfl]
    go_enter Tryz.func184, Tryz.ntmps184
    go_wp2_with fail
    go_region_held3 (fun V => V.cell? ⟨gl, 0, none⟩ = some (.pointer (some ⟨ga, 0, none⟩)) ∧ V.cell? ⟨gl, 1, none⟩ = some (.int .i64 P.tail))
      (first | exact ⟨q0, q1⟩ | exact k2)
      (first
        | (go_at_call 143; refine (HSt.out _ (HH.out.drewN 1)).mono ?_; rintro e w2 ⟨rfl, ha2, hm2⟩; have k2 := And.intro (keepM hm2 (show (w.drewN 1).cell? _ = _ from q0) (by simp; omega)) (keepM hm2 (show (w.drewN 1).cell? _ = _ from q1) (by simp; omega)); have H2 := Lib.hid ((HH.out.drewN 1).arena ha2 hm2)))
    have hmm : Mod [ga, ha, hs] w w2 := hm0.trans (hm2.sub (by simp))
    clear k2 ha2 hm2
    go_wp2_with fail
    go_ret
    exact ⟨rfl, H2.out, hmm⟩
set_option maxHeartbeats 4000000 in
set_option maxRecDepth 100000 in
theorem out_11 (hp : sp[k].pc = 11) (sp2 : List Sp) (h2 : sp2 = sp.set k { sp[k] with a := σ.get (nx P ((k : Int) + 1)) }) : Calls Tryz.prog 184 #[.pointer (some ⟨gl, 0, none⟩), .pointer (some ⟨hs, k * 4, none⟩), .int .i64 ((k : Int) + 1)] w fun e w' => e = .returned (.int .i64 (if σ.get (nx P ((k : Int) + 1)) = 0 then 12 else 14)) ∧ LkAt w' gl ga ha hs P (σ.op 1 (nx P ((k : Int) + 1)) false 0) sp2 ∧ Mod [ga, ha, hs] w w' := by
  have HSt := Lib.hid (fun W (K : LkAt W gl ga ha hs P σ sp) => load_any ga ha σ W K.1 hN.2.2 (nx P ((k : Int) + 1)))
  obtain ⟨hP, hS, ho⟩ := hN
  obtain ⟨d1, d2, d3, d4, d5⟩ := H.2.2.2.2
  obtain ⟨⟨cc, q0, q1, q2⟩, hl32⟩ := H.heads
  obtain ⟨s0, s1, s2, s3, sf⟩ := H.2.1.cells k hk
  have hna := (hS k hk).1
  rw [hp] at s0
  have HH := Lib.hid H
  have HK := Lib.hid hk
  have hm0 : Mod [ga, ha, hs] w (w.drewN 1) := (Mod.refl _ _).drewN 1
  clear H s2 s3 hS
  have HX := Lib.hid (fun W (K : LkAt W gl ga ha hs P σ sp) => next_lk gl ga ha hs P σ sp W K hP ((k : Int) + 1) (by omega))
  have HC : ∀ W σ2, LkAt W gl ga ha hs P σ2 sp → W.cell? ⟨hs, k * 4 + 1, none⟩ = some (.int .i64 sp[k].a) ∧ W.frozen? ⟨hs, k * 4 + 1, none⟩ = false ∧ LkAt (W.setCell ⟨hs, k * 4 + 1, none⟩ (.int .i64 (σ.get (nx P ((k : Int) + 1))))) gl ga ha hs P σ2 sp2 :=
    fun W σ2 K => ⟨(K.2.1.cells k hk).2.1, (K.2.1.cells k hk).2.2.2.2 (k * 4 + 1), by rw [h2]; exact K.spots (K.2.1.setA k hk (σ.get (nx P ((k : Int) + 1)))) ((Mod.refl [hs] W).setCell (by simp) _) (by rw [List.length_set])⟩
  have HCv : ∀ W σ2, LkAt W gl ga ha hs P σ2 sp2 → W.cell? ⟨hs, k * 4 + 1, none⟩ = some (.int .i64 (σ.get (nx P ((k : Int) + 1)))) := fun W σ2 K => by
    rw [h2] at K
    have := (K.2.1.cells k (by rw [List.length_set]; exact hk)).2.1
    rw [List.getElem_set_self] at this
    exact this
  have HCp : ∀ W σ2, LkAt W gl ga ha hs P σ2 sp2 → W.cell? ⟨hs, k * 4, none⟩ = some (.int .i64 11) := fun W σ2 K => by
    rw [h2] at K
    have := (K.2.1.cells k (by rw [List.length_set]; exact hk)).1
    rw [List.getElem_set_self] at this
    exact this.trans (congrArg (fun z => some (Value.int .i64 z)) hp)
  replace HC := Lib.hid HC
  replace HCv := Lib.hid HCv
  replace HCp := Lib.hid HCp
  clear h2
  generalize sp[k].a = xa at *
  generalize σ.op 1 (nx P ((k : Int) + 1)) false 0 = σ2 at *
  generalize nx P ((k : Int) + 1) = p at *
  clear hp
  by_cases hx : σ.get p = 0
  · rw [if_pos hx]
    rw [hx] at HSt HC HCv
    clear hx
    go_enter Tryz.func184, Tryz.ntmps184
    go_wp2_with fail
    go_region_held3 (fun V => V.cell? ⟨gl, 0, none⟩ = some (.pointer (some ⟨ga, 0, none⟩)))
      (first | exact q0 | exact k2 | exact k3)
      (first
        | (go_at_call 179; refine (HX.out (w.drewN 1) (HH.out.drewN 1)).mono ?_; rintro e wx ⟨rfl, hwx⟩; obtain rfl := hwx.symm)
        | (go_at_call 55; refine (HSt.out _ (HH.out.drewN 1)).mono ?_; rintro e w2 ⟨rfl, ha2, hm2⟩; have k2 := keepM hm2 (show (w.drewN 1).cell? _ = _ from q0) (by simp; omega); have H2 := Lib.hid ((HH.out.drewN 1).arena ha2 hm2); have c2 := (HC.out _ _ H2.out).1; have f2 := (HC.out _ _ H2.out).2.1; have k3 := ((World.cell?_setCell_far w2 ⟨hs, k * 4 + 1, none⟩ ⟨gl, 0, none⟩ (.int .i64 0) (by simp; omega))).trans k2))
    have H3 := (HC.out _ _ H2.out).2.2
    have hmm : Mod [ga, ha, hs] w (w2.setCell ⟨hs, k * 4 + 1, none⟩ (.int .i64 0)) := (hm0.trans (hm2.sub (by simp))).setCell (by simp) _
    have v1 := (HCv.out _ _ H3)
    have v0 := (HCp.out _ _ H3)
    replace H3 := Lib.hid H3
    clear k2 k3 ha2 hm2 c2 f2
    generalize w2.setCell ⟨hs, k * 4 + 1, none⟩ (.int .i64 0) = w3 at *
    go_wp2_with fail
    go_ret
    exact ⟨rfl, H3.out, hmm⟩
  · rw [if_neg hx]
    generalize σ.get p = x at *
    have e9 := ibne hx
    clear hx
    go_enter Tryz.func184, Tryz.ntmps184
    go_wp2_with fail
    go_region_held3 (fun V => V.cell? ⟨gl, 0, none⟩ = some (.pointer (some ⟨ga, 0, none⟩)))
      (first | exact q0 | exact k2 | exact k3)
      (first
        | (go_at_call 179; refine (HX.out (w.drewN 1) (HH.out.drewN 1)).mono ?_; rintro e wx ⟨rfl, hwx⟩; obtain rfl := hwx.symm)
        | (go_at_call 55; refine (HSt.out _ (HH.out.drewN 1)).mono ?_; rintro e w2 ⟨rfl, ha2, hm2⟩; have k2 := keepM hm2 (show (w.drewN 1).cell? _ = _ from q0) (by simp; omega); have H2 := Lib.hid ((HH.out.drewN 1).arena ha2 hm2); have c2 := (HC.out _ _ H2.out).1; have f2 := (HC.out _ _ H2.out).2.1; have k3 := ((World.cell?_setCell_far w2 ⟨hs, k * 4 + 1, none⟩ ⟨gl, 0, none⟩ (.int .i64 x) (by simp; omega))).trans k2))
    have H3 := (HC.out _ _ H2.out).2.2
    have hmm : Mod [ga, ha, hs] w (w2.setCell ⟨hs, k * 4 + 1, none⟩ (.int .i64 x)) := (hm0.trans (hm2.sub (by simp))).setCell (by simp) _
    have v1 := (HCv.out _ _ H3)
    have v0 := (HCp.out _ _ H3)
    replace H3 := Lib.hid H3
    clear k2 k3 ha2 hm2 c2 f2
    generalize w2.setCell ⟨hs, k * 4 + 1, none⟩ (.int .i64 x) = w3 at *
    go_wp2_with fail
    go_ret
    exact ⟨rfl, H3.out, hmm⟩
set_option maxHeartbeats 4000000 in
set_option maxRecDepth 100000 in
theorem out_13 (hp : sp[k].pc = 13) (sp2 : List Sp) (h2 : sp2 = sp.set k { sp[k] with a := σ.get (nx P ((k : Int) + 1)) }) : Calls Tryz.prog 184 #[.pointer (some ⟨gl, 0, none⟩), .pointer (some ⟨hs, k * 4, none⟩), .int .i64 ((k : Int) + 1)] w fun e w' => e = .returned (.int .i64 (if σ.get (nx P ((k : Int) + 1)) = 0 then 13 else 14)) ∧ LkAt w' gl ga ha hs P (σ.op 1 (nx P ((k : Int) + 1)) false 0) sp2 ∧ Mod [ga, ha, hs] w w' := by
  have HSt := Lib.hid (fun W (K : LkAt W gl ga ha hs P σ sp) => load_any ga ha σ W K.1 hN.2.2 (nx P ((k : Int) + 1)))
  obtain ⟨hP, hS, ho⟩ := hN
  obtain ⟨d1, d2, d3, d4, d5⟩ := H.2.2.2.2
  obtain ⟨⟨cc, q0, q1, q2⟩, hl32⟩ := H.heads
  obtain ⟨s0, s1, s2, s3, sf⟩ := H.2.1.cells k hk
  have hna := (hS k hk).1
  rw [hp] at s0
  have HH := Lib.hid H
  have HK := Lib.hid hk
  have hm0 : Mod [ga, ha, hs] w (w.drewN 1) := (Mod.refl _ _).drewN 1
  clear H s2 s3 hS
  have HX := Lib.hid (fun W (K : LkAt W gl ga ha hs P σ sp) => next_lk gl ga ha hs P σ sp W K hP ((k : Int) + 1) (by omega))
  have HC : ∀ W σ2, LkAt W gl ga ha hs P σ2 sp → W.cell? ⟨hs, k * 4 + 1, none⟩ = some (.int .i64 sp[k].a) ∧ W.frozen? ⟨hs, k * 4 + 1, none⟩ = false ∧ LkAt (W.setCell ⟨hs, k * 4 + 1, none⟩ (.int .i64 (σ.get (nx P ((k : Int) + 1))))) gl ga ha hs P σ2 sp2 :=
    fun W σ2 K => ⟨(K.2.1.cells k hk).2.1, (K.2.1.cells k hk).2.2.2.2 (k * 4 + 1), by rw [h2]; exact K.spots (K.2.1.setA k hk (σ.get (nx P ((k : Int) + 1)))) ((Mod.refl [hs] W).setCell (by simp) _) (by rw [List.length_set])⟩
  have HCv : ∀ W σ2, LkAt W gl ga ha hs P σ2 sp2 → W.cell? ⟨hs, k * 4 + 1, none⟩ = some (.int .i64 (σ.get (nx P ((k : Int) + 1)))) := fun W σ2 K => by
    rw [h2] at K
    have := (K.2.1.cells k (by rw [List.length_set]; exact hk)).2.1
    rw [List.getElem_set_self] at this
    exact this
  have HCp : ∀ W σ2, LkAt W gl ga ha hs P σ2 sp2 → W.cell? ⟨hs, k * 4, none⟩ = some (.int .i64 13) := fun W σ2 K => by
    rw [h2] at K
    have := (K.2.1.cells k (by rw [List.length_set]; exact hk)).1
    rw [List.getElem_set_self] at this
    exact this.trans (congrArg (fun z => some (Value.int .i64 z)) hp)
  replace HC := Lib.hid HC
  replace HCv := Lib.hid HCv
  replace HCp := Lib.hid HCp
  clear h2
  generalize sp[k].a = xa at *
  generalize σ.op 1 (nx P ((k : Int) + 1)) false 0 = σ2 at *
  generalize nx P ((k : Int) + 1) = p at *
  clear hp
  by_cases hx : σ.get p = 0
  · rw [if_pos hx]
    rw [hx] at HSt HC HCv
    clear hx
    go_enter Tryz.func184, Tryz.ntmps184
    go_wp2_with fail
    go_region_held3 (fun V => V.cell? ⟨gl, 0, none⟩ = some (.pointer (some ⟨ga, 0, none⟩)))
      (first | exact q0 | exact k2 | exact k3)
      (first
        | (go_at_call 179; refine (HX.out (w.drewN 1) (HH.out.drewN 1)).mono ?_; rintro e wx ⟨rfl, hwx⟩; obtain rfl := hwx.symm)
        | (go_at_call 55; refine (HSt.out _ (HH.out.drewN 1)).mono ?_; rintro e w2 ⟨rfl, ha2, hm2⟩; have k2 := keepM hm2 (show (w.drewN 1).cell? _ = _ from q0) (by simp; omega); have H2 := Lib.hid ((HH.out.drewN 1).arena ha2 hm2); have c2 := (HC.out _ _ H2.out).1; have f2 := (HC.out _ _ H2.out).2.1; have k3 := ((World.cell?_setCell_far w2 ⟨hs, k * 4 + 1, none⟩ ⟨gl, 0, none⟩ (.int .i64 0) (by simp; omega))).trans k2))
    have H3 := (HC.out _ _ H2.out).2.2
    have hmm : Mod [ga, ha, hs] w (w2.setCell ⟨hs, k * 4 + 1, none⟩ (.int .i64 0)) := (hm0.trans (hm2.sub (by simp))).setCell (by simp) _
    have v1 := (HCv.out _ _ H3)
    have v0 := (HCp.out _ _ H3)
    replace H3 := Lib.hid H3
    clear k2 k3 ha2 hm2 c2 f2
    generalize w2.setCell ⟨hs, k * 4 + 1, none⟩ (.int .i64 0) = w3 at *
    go_wp2_with fail
    go_ret
    exact ⟨rfl, H3.out, hmm⟩
  · rw [if_neg hx]
    generalize σ.get p = x at *
    have e9 := ibne hx
    clear hx
    go_enter Tryz.func184, Tryz.ntmps184
    go_wp2_with fail
    go_region_held3 (fun V => V.cell? ⟨gl, 0, none⟩ = some (.pointer (some ⟨ga, 0, none⟩)))
      (first | exact q0 | exact k2 | exact k3)
      (first
        | (go_at_call 179; refine (HX.out (w.drewN 1) (HH.out.drewN 1)).mono ?_; rintro e wx ⟨rfl, hwx⟩; obtain rfl := hwx.symm)
        | (go_at_call 55; refine (HSt.out _ (HH.out.drewN 1)).mono ?_; rintro e w2 ⟨rfl, ha2, hm2⟩; have k2 := keepM hm2 (show (w.drewN 1).cell? _ = _ from q0) (by simp; omega); have H2 := Lib.hid ((HH.out.drewN 1).arena ha2 hm2); have c2 := (HC.out _ _ H2.out).1; have f2 := (HC.out _ _ H2.out).2.1; have k3 := ((World.cell?_setCell_far w2 ⟨hs, k * 4 + 1, none⟩ ⟨gl, 0, none⟩ (.int .i64 x) (by simp; omega))).trans k2))
    have H3 := (HC.out _ _ H2.out).2.2
    have hmm : Mod [ga, ha, hs] w (w2.setCell ⟨hs, k * 4 + 1, none⟩ (.int .i64 x)) := (hm0.trans (hm2.sub (by simp))).setCell (by simp) _
    have v1 := (HCv.out _ _ H3)
    have v0 := (HCp.out _ _ H3)
    replace H3 := Lib.hid H3
    clear k2 k3 ha2 hm2 c2 f2
    generalize w2.setCell ⟨hs, k * 4 + 1, none⟩ (.int .i64 x) = w3 at *
    go_wp2_with fail
    go_ret
    exact ⟨rfl, H3.out, hmm⟩
end
end Go.Proofs.YtfnmggmgdmokcaaGreat.Mc

