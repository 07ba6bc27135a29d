/- Merged texts: Rpt, Rpl, McP. -/
import Derived.Test.YthffhhgaeolpgaaGreatGq10
set_option linter.unusedVariables false
/- The document's lock of layer 17, in memory: what its methods do. -/
namespace Go.Proofs.YthffhhgaeolpgaaGreat.Pt
open Go.RowKit Go.Proofs.YthffhhgaeolpgaaGreat.Ara Go.Proofs.YthffhhgaeolpgaaGreat.Lok

def RLk (W : World) (gL gr base hs : Nat) (P : Par) (ρ : Rf) (sp : List Sp) : Prop :=
  RfAt W gr base ρ ∧ SpAt W hs sp ∧ sp.length ≤ 32 ∧ (∃ c : Nat, W.heap[gL]? = some (.cells #[.pointer (some ⟨gr, 0, none⟩), .int .i64 P.next, .int .i64 P.parts, .slice (some ⟨hs, 0, none⟩) sp.length c] 144 (0, 0))) ∧ gL ≠ gr ∧ gL ≠ hs ∧ hs ≠ gr
theorem RLk.rms {base : Nat} {S : List Nat} {W W' : World} {gL gr hs : Nat} {P : Par} {ρ ρ' : Rf} {sp : List Sp} (k : RLk W gL gr base hs P ρ sp) (hr : RfAt W' gr base ρ') (hm : RMs base S W W') (h1 : gL ∉ S) (h2 : hs ∉ S) : RLk W' gL gr base hs P ρ' sp := by
  obtain ⟨_, k2, k3, ⟨c, k4⟩, k5⟩ := k
  exact ⟨hr, k2.rms hm h2, k3, ⟨c, (hm.blk k4 (by decide) h1).trans k4⟩, k5⟩
theorem RLk.mod {base : Nat} {S : List Nat} {W W' : World} {gL gr hs : Nat} {P : Par} {ρ : Rf} {sp : List Sp} (k : RLk W gL gr base hs P ρ sp) (hm : Mod S W W') (h : ∀ x ∈ S, x ≠ gr ∧ ¬ IntRow W x) (h1 : gL ∉ S) (h2 : hs ∉ S) : RLk W' gL gr base hs P ρ sp := by
  obtain ⟨k1, k2, k3, ⟨c, k4⟩, k5⟩ := k
  exact ⟨rf_mod k1 hm h, k2.mod hm h2, k3, ⟨c, hm.blk k4 h1⟩, k5⟩
theorem RLk.same {base : Nat} {W W' : World} {gL gr hs : Nat} {P : Par} {ρ : Rf} {sp : List Sp} (k : RLk W gL gr base hs P ρ sp) (hb : Below W.heap.size W W') : RLk W' gL gr base hs P ρ sp := k.mod (S := []) (Mod.of_below hb) (by simp) (by simp) (by simp)
theorem RLk.drewN {base : Nat} {W : World} {gL gr hs : Nat} {P : Par} {ρ : Rf} {sp : List Sp} (k : RLk W gL gr base hs P ρ sp) (n : Nat) : RLk (W.drewN n) gL gr base hs P ρ sp := k
theorem RLk.drew {base : Nat} {W : World} {gL gr hs : Nat} {P : Par} {ρ : Rf} {sp : List Sp} (k : RLk W gL gr base hs P ρ sp) : RLk W.drew gL gr base hs P ρ sp := k
theorem RLk.arena {base : Nat} {W W' : World} {gL gr hs : Nat} {P : Par} {ρ ρ' : Rf} {sp : List Sp} (k : RLk W gL gr base hs P ρ sp) (hr : RfAt W' gr base ρ') (hm : RMod base gr W W') : RLk W' gL gr base hs P ρ' sp := by
  obtain ⟨d1, d2, d3⟩ := k.2.2.2.2
  exact k.rms (S := [gr]) hr (RMs.of_r hm (by simp)) (by simp; omega) (by simp; omega)
theorem RLk.cellL {base : Nat} {W W' : World} {gL gr hs : Nat} {P : Par} {ρ : Rf} {sp : List Sp} (k : RLk W gL gr base hs P ρ sp) (hm : RMod base gr W W') (j : Nat) : W'.cell? ⟨gL, j, none⟩ = W.cell? ⟨gL, j, none⟩ := by
  obtain ⟨d1, d2, d3⟩ := k.2.2.2.2
  obtain ⟨_, _, _, ⟨c, k4⟩, _⟩ := k
  have := (RMs.of_r (S := [gr]) hm (by simp)).blk k4 (by decide) (by simp; omega)
  unfold World.cell?
  rw [this]
theorem RLk.cellS {base : Nat} {W W' : World} {gL gr hs : Nat} {P : Par} {ρ : Rf} {sp : List Sp} (k : RLk W gL gr base hs P ρ sp) (hm : RMod base gr W W') (j : Nat) : W'.cell? ⟨hs, j, none⟩ = W.cell? ⟨hs, j, none⟩ := by
  obtain ⟨d1, d2, d3⟩ := k.2.2.2.2
  obtain ⟨cur, k4, _⟩ := k.2.1
  have := (RMs.of_r (S := [gr]) hm (by simp)).blk k4 (by decide) (by simp; omega)
  unfold World.cell?
  rw [this]
theorem RLk.put {base : Nat} {W : World} {gL gr hs : Nat} {P : Par} {ρ : Rf} {sp : List Sp} (k : RLk W gL gr base hs P ρ sp) (i : Nat) (hi : i < sp.length) (j : Nat) (hj : j < 4) (v : Value) (s' : Sp) (hv : decSp s' = (decSp sp[i]).set j v) : RLk (W.setCell ⟨hs, i * 4 + j, none⟩ v) gL gr base hs P ρ (sp.set i s') := by
  have hm : Mod [hs] W (W.setCell ⟨hs, i * 4 + j, none⟩ v) := (Mod.refl _ _).setCell (by simp) _
  obtain ⟨k1, k2, k3, ⟨c, k4⟩, d1, d2, d3⟩ := k
  refine ⟨rf_mod k1 hm (fun x hx => ?_), k2.set i hi j hj v s' hv, by rw [List.length_set]; exact k3, ⟨c, ?_⟩, d1, d2, d3⟩
  · obtain rfl : x = hs := by simpa using hx
    exact ⟨d3, spot_not_int k2⟩
  · rw [List.length_set]
    exact hm.blk k4 (by simp; omega)
theorem RLk.heads {base : Nat} {W : World} {gL gr hs : Nat} {P : Par} {ρ : Rf} {sp : List Sp} (k : RLk W gL gr base hs P ρ sp) : (∃ c : Nat, W.cell? ⟨gL, 0, none⟩ = some (.pointer (some ⟨gr, 0, none⟩)) ∧ W.cell? ⟨gL, 1, none⟩ = some (.int .i64 P.next) ∧ W.cell? ⟨gL, 2, none⟩ = some (.int .i64 P.parts) ∧ W.cell? ⟨gL, 3, none⟩ = some (.slice (some ⟨hs, 0, none⟩) sp.length c)) ∧ sp.length ≤ 32 := by
  obtain ⟨_, _, k3, ⟨c, k4⟩, _⟩ := k
  exact ⟨⟨c, blk_cell k4 0 (by simp), blk_cell k4 1 (by simp), blk_cell k4 2 (by simp), blk_cell k4 3 (by simp)⟩, k3⟩
theorem RLk.sets {base : Nat} {W : World} {gL gr hs : Nat} {P : Par} {ρ : Rf} {sp : List Sp} {i : Nat} {s : Sp} (k : RLk W gL gr base hs P ρ (sp.set i s)) (hi : i < sp.length) : (∃ c : Nat, W.cell? ⟨gL, 0, none⟩ = some (.pointer (some ⟨gr, 0, none⟩)) ∧ W.cell? ⟨gL, 1, none⟩ = some (.int .i64 P.next) ∧ W.cell? ⟨gL, 2, none⟩ = some (.int .i64 P.parts) ∧ W.cell? ⟨gL, 3, none⟩ = some (.slice (some ⟨hs, 0, none⟩) sp.length c)) ∧ W.cell? ⟨hs, i * 4, none⟩ = some (.int .i64 s.pc) ∧ W.cell? ⟨hs, i * 4 + 1, none⟩ = some (.int .i64 s.a) ∧ W.cell? ⟨hs, i * 4 + 2, none⟩ = some (.int .i64 s.b) ∧ ∀ j, W.frozen? ⟨hs, j, none⟩ = false := by
  obtain ⟨h1, _⟩ := k.heads
  rw [List.length_set] at h1
  obtain ⟨c0, c1, c2, c3, cf⟩ := k.2.1.cells i (by rw [List.length_set]; exact hi)
  rw [List.getElem_set_self] at c0 c1 c2
  exact ⟨h1, c0, c1, c2, cf⟩
theorem RLk.put2 {base : Nat} {W : World} {gL gr hs : Nat} {P : Par} {ρ : Rf} {sp : List Sp} {i : Nat} {s : Sp} (k : RLk W gL gr base hs P ρ (sp.set i s)) (hi : i < sp.length) (j : Nat) (hj : j < 4) (v : Value) (s' : Sp) (hv : decSp s' = (decSp s).set j v) : RLk (W.setCell ⟨hs, i * 4 + j, none⟩ v) gL gr base hs P ρ (sp.set i s') := by
  have := k.put i (by rw [List.length_set]; exact hi) j hj v s' (by rw [List.getElem_set_self]; exact hv)
  rw [List.set_set] at this
  exact this
theorem RLk.self {base : Nat} {W : World} {gL gr hs : Nat} {P : Par} {ρ : Rf} {sp : List Sp} {i : Nat} (k : RLk W gL gr base hs P ρ sp) (hi : i < sp.length) : RLk W gL gr base hs P ρ (sp.set i sp[i]) := by
  rw [List.set_getElem_self]
  exact k
section
variable (gL gr base hs : Nat) (P : Par) (ρ : Rf) (sp : List Sp) (w : World) (H : RLk w gL gr base hs P ρ sp)
include H
end

section
variable (gL gr base hs : Nat) (P : Par) (ρ : Rf) (sp : List Sp) (w : World) (H : RLk w gL gr base hs P ρ sp)
include H
set_option maxRecDepth 100000 in
theorem rask_out (i : Int) (hi : i < 0 ∨ (sp.length : Int) ≤ i) : Calls Tryz.prog 95 #[.pointer (some ⟨gL, 0, none⟩), .int .i64 i] w fun e w' => e = .returned (.bool false) ∧ w' = w := by
  · obtain ⟨⟨cc, q0, q1, q2, q3⟩, hl32⟩ := H.heads
    clear H
    by_cases h0 : i < 0
    · go_enter Tryz.func95, Tryz.ntmps95
      go_wp2_with fail
      go_ret
      exact ⟨rfl, by trivial⟩
    · have h1 : (sp.length : Int) ≤ i := by omega
      have h2 : decide (i < 0) = false := decide_eq_false h0
      go_enter Tryz.func95, Tryz.ntmps95
      go_wp2_with fail
      go_ret
      exact ⟨rfl, by trivial⟩
set_option maxRecDepth 100000 in
theorem rask_no (k : Nat) (hk : k < sp.length) (hp : ¬ sp[k].pc = 0) : Calls Tryz.prog 95 #[.pointer (some ⟨gL, 0, none⟩), .int .i64 (k : Int)] w fun e w' => e = .returned (.bool false) ∧ w' = w := by
  have hk1 : (k : Int) < (sp.length : Int) := by omega
  have hk2 : (0 : Int) ≤ (k : Int) := by omega
  have hk3 : decide ((k : Int) < 0) = false := decide_eq_false (by omega)
  have hk4 : decide ((sp.length : Int) ≤ (k : Int)) = false := decide_eq_false (by omega)
  obtain ⟨⟨cc, q0, q1, q2, q3⟩, hl32⟩ := H.heads
  obtain ⟨c0, c1, c2, c3, cf⟩ := H.2.1.cells k hk
  have hlt := H.2.1.lt
  have e1 := ibne hp
  generalize sp[k].pc = x at *
  clear H hp c1 c2 c3 cf
  go_enter Tryz.func95, Tryz.ntmps95
  go_wp2_with fail
  go_ret
  exact ⟨rfl, by trivial⟩
set_option maxRecDepth 100000 in
theorem rask_yes (k : Nat) (hk : k < sp.length) (hp : sp[k].pc = 0) (sp2 : List Sp) (h2 : sp2 = sp.set k { sp[k] with pc := 1 }) : Calls Tryz.prog 95 #[.pointer (some ⟨gL, 0, none⟩), .int .i64 (k : Int)] w fun e w' => e = .returned (.bool true) ∧ RLk w' gL gr base hs P ρ sp2 ∧ Mod [hs] w w' := by
  have hk1 : (k : Int) < (sp.length : Int) := by omega
  have hk2 : (0 : Int) ≤ (k : Int) := by omega
  have hk3 : decide ((k : Int) < 0) = false := decide_eq_false (by omega)
  have hk4 : decide ((sp.length : Int) ≤ (k : Int)) = false := decide_eq_false (by omega)
  obtain ⟨⟨cc, q0, q1, q2, q3⟩, hl32⟩ := H.heads
  obtain ⟨c0, c1, c2, c3, cf⟩ := H.2.1.cells k hk
  have hlt := H.2.1.lt
  have u1 := H.put k hk 0 (by omega) (.int .i64 1) { sp[k] with pc := 1 } rfl
  rw [← h2] at u1
  have HU := Lib.hid u1
  rw [hp] at c0
  have f0 := cf (k * 4)
  have HMM := Lib.hid (show Mod [hs] w (w.setCell ⟨hs, k * 4, none⟩ (.int .i64 1)) from (Mod.refl _ _).setCell (by simp) _)
  have HP := Lib.hid hp
  clear u1 h2 H hp c1 c2 c3 cf
  go_enter Tryz.func95, Tryz.ntmps95
  go_wp2_with fail
  go_ret
  exact ⟨rfl, HU.out, HMM.out⟩
set_option maxRecDepth 100000 in
theorem rleave_out (i : Int) (hi : i < 0 ∨ (sp.length : Int) ≤ i) : Calls Tryz.prog 100 #[.pointer (some ⟨gL, 0, none⟩), .int .i64 i] w fun e w' => e = .returned (.bool false) ∧ w' = w := by
  · obtain ⟨⟨cc, q0, q1, q2, q3⟩, hl32⟩ := H.heads
    clear H
    by_cases h0 : i < 0
    · go_enter Tryz.func100, Tryz.ntmps100
      go_wp2_with fail
      go_ret
      exact ⟨rfl, by trivial⟩
    · have h1 : (sp.length : Int) ≤ i := by omega
      have h2 : decide (i < 0) = false := decide_eq_false h0
      go_enter Tryz.func100, Tryz.ntmps100
      go_wp2_with fail
      go_ret
      exact ⟨rfl, by trivial⟩
set_option maxRecDepth 100000 in
theorem rleave_no (k : Nat) (hk : k < sp.length) (hp : ¬ sp[k].pc = 10) : Calls Tryz.prog 100 #[.pointer (some ⟨gL, 0, none⟩), .int .i64 (k : Int)] w fun e w' => e = .returned (.bool false) ∧ w' = w := by
  have hk1 : (k : Int) < (sp.length : Int) := by omega
  have hk2 : (0 : Int) ≤ (k : Int) := by omega
  have hk3 : decide ((k : Int) < 0) = false := decide_eq_false (by omega)
  have hk4 : decide ((sp.length : Int) ≤ (k : Int)) = false := decide_eq_false (by omega)
  obtain ⟨⟨cc, q0, q1, q2, q3⟩, hl32⟩ := H.heads
  obtain ⟨c0, c1, c2, c3, cf⟩ := H.2.1.cells k hk
  have hlt := H.2.1.lt
  have e1 := ibne hp
  generalize sp[k].pc = x at *
  clear H hp c1 c2 c3 cf
  go_enter Tryz.func100, Tryz.ntmps100
  go_wp2_with fail
  go_ret
  exact ⟨rfl, by trivial⟩
set_option maxRecDepth 100000 in
theorem rleave_yes (k : Nat) (hk : k < sp.length) (hp : sp[k].pc = 10) (sp2 : List Sp) (h2 : sp2 = sp.set k { sp[k] with pc := 11 }) : Calls Tryz.prog 100 #[.pointer (some ⟨gL, 0, none⟩), .int .i64 (k : Int)] w fun e w' => e = .returned (.bool true) ∧ RLk w' gL gr base hs P ρ sp2 ∧ Mod [hs] w w' := by
  have hk1 : (k : Int) < (sp.length : Int) := by omega
  have hk2 : (0 : Int) ≤ (k : Int) := by omega
  have hk3 : decide ((k : Int) < 0) = false := decide_eq_false (by omega)
  have hk4 : decide ((sp.length : Int) ≤ (k : Int)) = false := decide_eq_false (by omega)
  obtain ⟨⟨cc, q0, q1, q2, q3⟩, hl32⟩ := H.heads
  obtain ⟨c0, c1, c2, c3, cf⟩ := H.2.1.cells k hk
  have hlt := H.2.1.lt
  have u1 := H.put k hk 0 (by omega) (.int .i64 11) { sp[k] with pc := 11 } rfl
  rw [← h2] at u1
  have HU := Lib.hid u1
  rw [hp] at c0
  have f0 := cf (k * 4)
  have HMM := Lib.hid (show Mod [hs] w (w.setCell ⟨hs, k * 4, none⟩ (.int .i64 11)) from (Mod.refl _ _).setCell (by simp) _)
  have HP := Lib.hid hp
  clear u1 h2 H hp c1 c2 c3 cf
  go_enter Tryz.func100, Tryz.ntmps100
  go_wp2_with fail
  go_ret
  exact ⟨rfl, HU.out, HMM.out⟩
set_option maxRecDepth 100000 in
theorem rstep_outr (i : Int) (hi : i < 0 ∨ (sp.length : Int) ≤ i) : Calls Tryz.prog 90 #[.pointer (some ⟨gL, 0, none⟩), .int .i64 i] w fun e w' => e = .returned (.bool false) ∧ w' = w := by
  · obtain ⟨⟨cc, q0, q1, q2, q3⟩, hl32⟩ := H.heads
    clear H
    by_cases h0 : i < 0
    · go_enter Tryz.func90, Tryz.ntmps90
      go_wp2_with fail
      go_ret
      exact ⟨rfl, by trivial⟩
    · have h1 : (sp.length : Int) ≤ i := by omega
      have h2 : decide (i < 0) = false := decide_eq_false h0
      go_enter Tryz.func90, Tryz.ntmps90
      go_wp2_with fail
      go_ret
      exact ⟨rfl, by trivial⟩
set_option maxRecDepth 100000 in
theorem ralone_outr (i : Int) (hi : i < 0 ∨ (sp.length : Int) ≤ i) : Calls Tryz.prog 104 #[.pointer (some ⟨gL, 0, none⟩), .int .i64 i] w fun e w' => e = .returned (.bool false) ∧ w' = w := by
  · obtain ⟨⟨cc, q0, q1, q2, q3⟩, hl32⟩ := H.heads
    clear H
    by_cases h0 : i < 0
    · go_enter Tryz.func104, Tryz.ntmps104
      go_wp2_with fail
      go_ret
      exact ⟨rfl, by trivial⟩
    · have h1 : (sp.length : Int) ≤ i := by omega
      have h2 : decide (i < 0) = false := decide_eq_false h0
      go_enter Tryz.func104, Tryz.ntmps104
      go_wp2_with fail
      go_ret
      exact ⟨rfl, by trivial⟩
set_option maxRecDepth 100000 in
theorem ralone_no (k : Nat) (hk : k < sp.length) (hp : ¬ sp[k].pc = 10) : Calls Tryz.prog 104 #[.pointer (some ⟨gL, 0, none⟩), .int .i64 (k : Int)] w fun e w' => e = .returned (.bool false) ∧ w' = w := by
  have hk1 : (k : Int) < (sp.length : Int) := by omega
  have hk2 : (0 : Int) ≤ (k : Int) := by omega
  have hk3 : decide ((k : Int) < 0) = false := decide_eq_false (by omega)
  have hk4 : decide ((sp.length : Int) ≤ (k : Int)) = false := decide_eq_false (by omega)
  obtain ⟨⟨cc, q0, q1, q2, q3⟩, hl32⟩ := H.heads
  obtain ⟨c0, c1, c2, c3, cf⟩ := H.2.1.cells k hk
  have hlt := H.2.1.lt
  have e1 := ibne hp
  generalize sp[k].pc = x at *
  clear H hp c1 c2 c3 cf
  go_enter Tryz.func104, Tryz.ntmps104
  go_wp2_with fail
  go_ret
  exact ⟨rfl, by trivial⟩
end

section
variable (gL gr base hs : Nat) (P : Par) (ρ : Rf) (sp : List Sp) (w : World) (H : RLk w gL gr base hs P ρ sp)
include H
set_option maxRecDepth 100000 in
theorem rplace (hP : POk P) (t : Int) (t0 : 0 ≤ t) (t1 : t ≤ 2000000) : Calls Tryz.prog 120 #[.pointer (some ⟨gL, 0, none⟩), .int .i64 t] w fun e w' => e = .returned (.int .i64 (place P t)) ∧ ∃ n, w' = w.drewN n := by
  obtain ⟨⟨cc, q0, q1, q2, q3⟩, hl⟩ := H.heads
  obtain ⟨p1, p2, p3, p4⟩ := hP
  unfold place
  have m0 : 0 ≤ t % P.parts := Int.emod_nonneg _ (by omega)
  have m1 : t % P.parts < P.parts := Int.emod_lt_of_pos _ (by omega)
  have e0 : t.tmod P.parts = t % P.parts := Int.tmod_eq_emod_of_nonneg t0
  have e1 : IntKind.i64.wrap (P.next + 1) = P.next + 1 := IntWalk.i64_in _ (by omega)
  have e2 : IntKind.i64.wrap (t % P.parts) = t % P.parts := IntWalk.i64_in _ (by omega)
  have e3 : IntKind.i64.wrap (P.next + 1 + t % P.parts) = P.next + 1 + t % P.parts := IntWalk.i64_in _ (by omega)
  have e4 : ¬ P.parts = 0 := by omega
  have e5 : (P.parts == 0) = false := ibeq_no e4
  have e6 : ¬ P.parts < 1 := by omega
  generalize t % P.parts = m at *
  clear H
  go_enter Tryz.func120, Tryz.ntmps120
  go_wp2_with fail
  go_quiet (fail)
  go_wp2_with fail
  go_ret
  exact ⟨rfl, _, rfl⟩
set_option maxHeartbeats 4000000 in
set_option maxRecDepth 100000 in
theorem rstep_out (hP : POk P) (ho : ρ.ops < 1000000) (k : Nat) (hk : k < sp.length) (hp : sp[k].pc = 11) (hr : 0 ≤ sp[k].a ∧ sp[k].a ≤ 1000000) (sp2 : List Sp) (h2 : sp2 = sp.set k { sp[k] with pc := 0 }) (ρ2 : Rf) (hρ : ρ2 = ρ.op 2 (place P (sp[k].a + 1)) true (sp[k].a + 2)) : Calls Tryz.prog 90 #[.pointer (some ⟨gL, 0, none⟩), .int .i64 (k : Int)] w fun e w' => e = .returned (.bool true) ∧ RLk w' gL gr base hs P ρ2 sp2 ∧ RMs base [gr, hs] w w' := by
  have hk1 : (k : Int) < (sp.length : Int) := by omega
  have hk2 : (0 : Int) ≤ (k : Int) := by omega
  have hk3 : decide ((k : Int) < 0) = false := decide_eq_false (by omega)
  have hk4 : decide ((sp.length : Int) ≤ (k : Int)) = false := decide_eq_false (by omega)
  obtain ⟨⟨cc, q0, q1, q2, q3⟩, hl32⟩ := H.heads
  obtain ⟨c0, c1, c2, c3, cf⟩ := H.2.1.cells k hk
  have hlt := H.2.1.lt
  have HH := H.self hk
  rw [hp] at c0
  obtain ⟨xp, xa, xb, xc, hx⟩ : ∃ xp xa xb xc, sp[k] = ⟨xp, xa, xb, xc⟩ := ⟨_, _, _, _, rfl⟩
  have HP := Lib.hid (show xp = 11 by rw [hx] at hp; exact hp)
  have HSF := Lib.hid (show sp.set k ⟨xp, xa, xb, xc⟩ = sp by rw [← hx, List.set_getElem_self])
  simp only [hx] at HH c1 h2 hr hρ
  replace HH := Lib.hid HH
  clear H hp c2 c3 cf hx
  have HPl := Lib.hid (fun W (K : RLk W gL gr base hs P ρ (sp.set k ⟨xp, xa, xb, xc⟩)) => rplace gL gr base hs P ρ _ W K hP (xa + 1) (by omega) (by omega))
  have HSt := fun W (K : RfAt W gr base ρ) => rstore_any gr base ρ W K (place P (xa + 1)) ho (xa + 2)
  rw [← hρ] at HSt
  replace HSt := Lib.hid HSt
  have HS2 := Lib.hid h2
  have e1 : IntKind.i64.wrap (xa + 1) = xa + 1 := IntWalk.i64_in _ (by omega)
  have e2 : IntKind.i64.wrap (xa + 2) = xa + 2 := IntWalk.i64_in _ (by omega)
  clear hρ h2
  generalize place P (xa + 1) = p at *
  go_enter Tryz.func90, Tryz.ntmps90
  go_wp2_with fail
  go_region_held3 (fun V => V.cell? ⟨gL, 0, none⟩ = some (.pointer (some ⟨gr, 0, none⟩)) ∧ V.cell? ⟨gL, 3, none⟩ = some (.slice (some ⟨hs, 0, none⟩) sp.length cc) ∧ V.cell? ⟨hs, k * 4 + 1, none⟩ = some (.int .i64 xa))
    (first | exact ⟨q0, q3, c1⟩ | exact k2)
    (first
      | (go_at_call 120; refine (HPl.out _ (HH.out.drewN 1)).mono ?_; rintro e w1 ⟨rfl, n1, rfl⟩)
      | (go_at_call 87; refine (HSt.out _ (HH.out.drewN _).1).mono ?_; rintro e w2 ⟨rfl, ha2, hm2⟩; have H2 := Lib.hid ((HH.out.drewN _).arena ha2 hm2); have k2 := And.intro (((HH.out.drewN _).cellL hm2 0).trans q0) (And.intro (((HH.out.drewN _).cellL hm2 3).trans q3) (((HH.out.drewN _).cellS hm2 (k * 4 + 1)).trans c1))))
  have HM := Lib.hid (show RMs base [gr, hs] w w2 from ((RMs.refl _ _ _).drewN _).trans (RMs.of_r hm2 (by simp)))
  clear k2 ha2 hm2 q0 q1 q2 q3 c0 c1
  obtain ⟨⟨cc, q0, q1, q2, q3⟩, c0, c1, c2, cf⟩ := (H2).out.sets hk
  have f0 := cf (k * 4)
  have f1 := cf (k * 4 + 1)
  clear cf
  simp only at c0 c1 c2
  rw [HP.out] at c0
  go_wp2_with fail
  go_ret
  exact ⟨rfl, by rw [HS2.out]; exact H2.out.put2 hk 0 (by omega) _ _ rfl, HM.out.trans (RMs.of_mod ((Mod.refl _ _).setCell (by simp) _))⟩
set_option maxHeartbeats 4000000 in
set_option maxRecDepth 100000 in
theorem rstep_two_yes (hP : POk P) (ho : ρ.ops < 1000000) (k : Nat) (hk : k < sp.length) (hp : sp[k].pc = 2) (hr : 0 ≤ sp[k].a ∧ sp[k].a ≤ 1000000) (hb : (ρ.get (place P sp[k].a) == sp[k].a + 1) = true) (sp2 : List Sp) (h2 : sp2 = sp.set k { sp[k] with pc := 10 }) (ρ2 : Rf) (hρ : ρ2 = ρ.op 1 (place P sp[k].a) false 0) : Calls Tryz.prog 90 #[.pointer (some ⟨gL, 0, none⟩), .int .i64 (k : Int)] w fun e w' => e = .returned (.bool true) ∧ RLk w' gL gr base hs P ρ2 sp2 ∧ RMs base [gr, hs] w w' := by
  have hk1 : (k : Int) < (sp.length : Int) := by omega
  have hk2 : (0 : Int) ≤ (k : Int) := by omega
  have hk3 : decide ((k : Int) < 0) = false := decide_eq_false (by omega)
  have hk4 : decide ((sp.length : Int) ≤ (k : Int)) = false := decide_eq_false (by omega)
  obtain ⟨⟨cc, q0, q1, q2, q3⟩, hl32⟩ := H.heads
  obtain ⟨c0, c1, c2, c3, cf⟩ := H.2.1.cells k hk
  have hlt := H.2.1.lt
  have HH := H.self hk
  rw [hp] at c0
  obtain ⟨xp, xa, xb, xc, hx⟩ : ∃ xp xa xb xc, sp[k] = ⟨xp, xa, xb, xc⟩ := ⟨_, _, _, _, rfl⟩
  have HP := Lib.hid (show xp = 2 by rw [hx] at hp; exact hp)
  have HSF := Lib.hid (show sp.set k ⟨xp, xa, xb, xc⟩ = sp by rw [← hx, List.set_getElem_self])
  simp only [hx] at HH c1 hb hr hρ h2
  replace HH := Lib.hid HH
  clear H hp c2 c3 cf hx
  have HPl := Lib.hid (fun W (K : RLk W gL gr base hs P ρ (sp.set k ⟨xp, xa, xb, xc⟩)) => rplace gL gr base hs P ρ _ W K hP xa (by omega) (by omega))
  have HSt := fun W (K : RfAt W gr base ρ) => rload_any gr base ρ W K (place P xa) ho
  rw [← hρ] at HSt
  generalize ρ.get (place P xa) = y at HSt hb
  replace HSt := Lib.hid HSt
  have e1 : IntKind.i64.wrap (xa + 1) = xa + 1 := IntWalk.i64_in _ (by omega)
  clear hρ
  generalize place P xa = p at *
  go_enter Tryz.func90, Tryz.ntmps90
  go_wp2_with fail
  go_region_held3 (fun V => V.cell? ⟨gL, 0, none⟩ = some (.pointer (some ⟨gr, 0, none⟩)) ∧ V.cell? ⟨gL, 3, none⟩ = some (.slice (some ⟨hs, 0, none⟩) sp.length cc) ∧ V.cell? ⟨hs, k * 4 + 1, none⟩ = some (.int .i64 xa))
    (first | exact ⟨q0, q3, c1⟩ | exact k2)
    (first
      | (go_at_call 120; refine (HPl.out _ (HH.out.drewN 1)).mono ?_; rintro e w1 ⟨rfl, n1, rfl⟩)
      | (go_at_call 119; refine (HSt.out _ (HH.out.drewN _).1).mono ?_; rintro e w2 ⟨rfl, ha2, hm2⟩; have H2 := Lib.hid ((HH.out.drewN _).arena ha2 hm2); have k2 := And.intro (((HH.out.drewN _).cellL hm2 0).trans q0) (And.intro (((HH.out.drewN _).cellL hm2 3).trans q3) (((HH.out.drewN _).cellS hm2 (k * 4 + 1)).trans c1))))
  have HM := Lib.hid (show RMs base [gr, hs] w w2 from ((RMs.refl _ _ _).drewN _).trans (RMs.of_r hm2 (by simp)))
  clear k2 ha2 hm2 q0 q1 q2 q3 c0 c1
  obtain ⟨⟨cc, q0, q1, q2, q3⟩, c0, c1, c2, cf⟩ := (H2).out.sets hk
  have f0 := cf (k * 4)
  have f1 := cf (k * 4 + 1)
  clear cf
  simp only at c0 c1 c2
  rw [HP.out] at c0
  go_wp2_with fail
  go_ret
  exact ⟨rfl, by rw [h2]; exact H2.out.put2 hk 0 (by omega) _ _ rfl, HM.out.trans (RMs.of_mod ((Mod.refl _ _).setCell (by simp) _))⟩
set_option maxHeartbeats 4000000 in
set_option maxRecDepth 100000 in
theorem rstep_two_no (hP : POk P) (ho : ρ.ops < 1000000) (k : Nat) (hk : k < sp.length) (hp : sp[k].pc = 2) (hr : 0 ≤ sp[k].a ∧ sp[k].a ≤ 1000000) (hb : (ρ.get (place P sp[k].a) == sp[k].a + 1) = false) (ρ2 : Rf) (hρ : ρ2 = ρ.op 1 (place P sp[k].a) false 0) : Calls Tryz.prog 90 #[.pointer (some ⟨gL, 0, none⟩), .int .i64 (k : Int)] w fun e w' => e = .returned (.bool false) ∧ RLk w' gL gr base hs P ρ2 sp ∧ RMs base [gr, hs] w w' := by
  have hk1 : (k : Int) < (sp.length : Int) := by omega
  have hk2 : (0 : Int) ≤ (k : Int) := by omega
  have hk3 : decide ((k : Int) < 0) = false := decide_eq_false (by omega)
  have hk4 : decide ((sp.length : Int) ≤ (k : Int)) = false := decide_eq_false (by omega)
  obtain ⟨⟨cc, q0, q1, q2, q3⟩, hl32⟩ := H.heads
  obtain ⟨c0, c1, c2, c3, cf⟩ := H.2.1.cells k hk
  have hlt := H.2.1.lt
  have HH := H.self hk
  rw [hp] at c0
  obtain ⟨xp, xa, xb, xc, hx⟩ : ∃ xp xa xb xc, sp[k] = ⟨xp, xa, xb, xc⟩ := ⟨_, _, _, _, rfl⟩
  have HP := Lib.hid (show xp = 2 by rw [hx] at hp; exact hp)
  have HSF := Lib.hid (show sp.set k ⟨xp, xa, xb, xc⟩ = sp by rw [← hx, List.set_getElem_self])
  simp only [hx] at HH c1 hb hr hρ
  replace HH := Lib.hid HH
  clear H hp c2 c3 cf hx
  have HPl := Lib.hid (fun W (K : RLk W gL gr base hs P ρ (sp.set k ⟨xp, xa, xb, xc⟩)) => rplace gL gr base hs P ρ _ W K hP xa (by omega) (by omega))
  have HSt := fun W (K : RfAt W gr base ρ) => rload_any gr base ρ W K (place P xa) ho
  rw [← hρ] at HSt
  generalize ρ.get (place P xa) = y at HSt hb
  replace HSt := Lib.hid HSt
  have e1 : IntKind.i64.wrap (xa + 1) = xa + 1 := IntWalk.i64_in _ (by omega)
  clear hρ
  generalize place P xa = p at *
  go_enter Tryz.func90, Tryz.ntmps90
  go_wp2_with fail
  go_region_held3 (fun V => V.cell? ⟨gL, 0, none⟩ = some (.pointer (some ⟨gr, 0, none⟩)) ∧ V.cell? ⟨gL, 3, none⟩ = some (.slice (some ⟨hs, 0, none⟩) sp.length cc) ∧ V.cell? ⟨hs, k * 4 + 1, none⟩ = some (.int .i64 xa))
    (first | exact ⟨q0, q3, c1⟩ | exact k2)
    (first
      | (go_at_call 120; refine (HPl.out _ (HH.out.drewN 1)).mono ?_; rintro e w1 ⟨rfl, n1, rfl⟩)
      | (go_at_call 119; refine (HSt.out _ (HH.out.drewN _).1).mono ?_; rintro e w2 ⟨rfl, ha2, hm2⟩; have H2 := Lib.hid ((HH.out.drewN _).arena ha2 hm2); have k2 := And.intro (((HH.out.drewN _).cellL hm2 0).trans q0) (And.intro (((HH.out.drewN _).cellL hm2 3).trans q3) (((HH.out.drewN _).cellS hm2 (k * 4 + 1)).trans c1))))
  have HM := Lib.hid (show RMs base [gr, hs] w w2 from ((RMs.refl _ _ _).drewN _).trans (RMs.of_r hm2 (by simp)))
  clear k2 ha2 hm2 q0 q1 q2 q3 c0 c1
  obtain ⟨⟨cc, q0, q1, q2, q3⟩, c0, c1, c2, cf⟩ := (H2).out.sets hk
  have f0 := cf (k * 4)
  have f1 := cf (k * 4 + 1)
  clear cf
  simp only at c0 c1 c2
  rw [HP.out] at c0
  go_wp2_with fail
  go_ret
  exact ⟨rfl, by rw [← HSF.out]; exact H2.out, HM.out⟩
set_option maxHeartbeats 4000000 in
set_option maxRecDepth 100000 in
theorem rstep_in (ho : ρ.ops < 1000000) (hh : ρ.has P.next = true) (hg : 0 ≤ ρ.get P.next ∧ ρ.get P.next ≤ 1000000) (k : Nat) (hk : k < sp.length) (hp : sp[k].pc = 1) (sp2 : List Sp) (h2 : sp2 = sp.set k { sp[k] with pc := 2, a := ρ.get P.next }) (ρ2 : Rf) (hρ : ρ2 = ρ.op 5 P.next true (ρ.get P.next + 1)) : Calls Tryz.prog 90 #[.pointer (some ⟨gL, 0, none⟩), .int .i64 (k : Int)] w fun e w' => e = .returned (.bool false) ∧ RLk w' gL gr base hs P ρ2 sp2 ∧ RMs base [gr, hs] w w' := by
  have hne : gL ≠ hs := H.2.2.2.2.2.1
  have hk1 : (k : Int) < (sp.length : Int) := by omega
  have hk2 : (0 : Int) ≤ (k : Int) := by omega
  have hk3 : decide ((k : Int) < 0) = false := decide_eq_false (by omega)
  have hk4 : decide ((sp.length : Int) ≤ (k : Int)) = false := decide_eq_false (by omega)
  obtain ⟨⟨cc, q0, q1, q2, q3⟩, hl32⟩ := H.heads
  obtain ⟨c0, c1, c2, c3, cf⟩ := H.2.1.cells k hk
  have hlt := H.2.1.lt
  have HH := H.self hk
  rw [hp] at c0
  obtain ⟨xp, xa, xb, xc, hx⟩ : ∃ xp xa xb xc, sp[k] = ⟨xp, xa, xb, xc⟩ := ⟨_, _, _, _, rfl⟩
  have HP := Lib.hid (show xp = 1 by rw [hx] at hp; exact hp)
  have HSF := Lib.hid (show sp.set k ⟨xp, xa, xb, xc⟩ = sp by rw [← hx, List.set_getElem_self])
  simp only [hx] at HH c1 h2
  replace HH := Lib.hid HH
  clear H hp c2 c3 cf hx
  have HSt := fun W (K : RfAt W gr base ρ) => radd_any gr base ρ W K P.next ho 1
  have ew : wrap64 (ρ.get P.next + 1) = ρ.get P.next + 1 := IntWalk.wrap64_in _ (by omega)
  rw [if_pos hh, ew, ← hρ] at HSt
  replace HSt := Lib.hid HSt
  have HS2 := Lib.hid h2
  clear hρ h2 hh ew
  generalize ρ.get P.next = x at *
  have e1 : IntKind.i64.wrap (x + 1 - 1) = x := by rw [IntWalk.i64_in _ (by omega)]; omega
  have e2 : IntKind.i64.wrap x = x := IntWalk.i64_in _ (by omega)
  clear c0 c1
  have c0 := ((HH.out).sets hk).2.1
  have c1 := ((HH.out).sets hk).2.2.1
  simp only at c0 c1
  rw [HP.out] at c0
  go_enter Tryz.func90, Tryz.ntmps90
  go_wp2_with fail
  go_region_held3 (fun V => V.cell? ⟨gL, 0, none⟩ = some (.pointer (some ⟨gr, 0, none⟩)) ∧ V.cell? ⟨gL, 1, none⟩ = some (.int .i64 P.next) ∧ V.cell? ⟨gL, 2, none⟩ = some (.int .i64 P.parts) ∧ V.cell? ⟨gL, 3, none⟩ = some (.slice (some ⟨hs, 0, none⟩) sp.length cc))
    (first | exact ⟨q0, q1, q2, q3⟩ | exact k2 | exact k3)
    (first | (go_at_call 118; refine (HSt.out _ (HH.out.drewN 1).1).mono ?_; rintro e w2 ⟨rfl, ha2, hm2⟩; have H2 := (HH.out.drewN 1).arena ha2 hm2; have k2 := And.intro (((HH.out.drewN 1).cellL hm2 0).trans q0) (And.intro (((HH.out.drewN 1).cellL hm2 1).trans q1) (And.intro (((HH.out.drewN 1).cellL hm2 2).trans q2) (((HH.out.drewN 1).cellL hm2 3).trans q3))); have c1 := (H2.sets hk).2.2.1; have f1 := (H2.sets hk).2.2.2.2 (k * 4 + 1); have k3 := And.intro ((World.cell?_setCell_far w2 ⟨hs, k * 4 + 1, none⟩ ⟨gL, 0, none⟩ (.int .i64 x) (by simp; omega)).trans k2.1) (And.intro ((World.cell?_setCell_far w2 ⟨hs, k * 4 + 1, none⟩ ⟨gL, 1, none⟩ (.int .i64 x) (by simp; omega)).trans k2.2.1) (And.intro ((World.cell?_setCell_far w2 ⟨hs, k * 4 + 1, none⟩ ⟨gL, 2, none⟩ (.int .i64 x) (by simp; omega)).trans k2.2.2.1) ((World.cell?_setCell_far w2 ⟨hs, k * 4 + 1, none⟩ ⟨gL, 3, none⟩ (.int .i64 x) (by simp; omega)).trans k2.2.2.2)))))
  have HM := Lib.hid (show RMs base [gr, hs] w (w2.setCell ⟨hs, k * 4 + 1, none⟩ (.int .i64 x)) from (((RMs.refl _ _ _).drewN 1).trans (RMs.of_r hm2 (by simp))).trans (RMs.of_mod ((Mod.refl _ _).setCell (by simp) _)))
  have H3 := Lib.hid (H2.put2 hk 1 (by omega) (.int .i64 x) ⟨xp, x, xb, xc⟩ rfl)
  clear k2 k3 ha2 hm2 q0 q1 q2 q3 c0 c1 f1 H2
  generalize w2.setCell ⟨hs, k * 4 + 1, none⟩ (.int .i64 x) = w3 at *
  obtain ⟨⟨cc, q0, q1, q2, q3⟩, c0, c1, c2, cf⟩ := (H3).out.sets hk
  have f0 := cf (k * 4)
  have f1 := cf (k * 4 + 1)
  clear cf
  simp only at c0 c1 c2
  rw [HP.out] at c0
  go_wp2_with fail
  go_ret
  exact ⟨rfl, by rw [HS2.out]; exact H3.out.put2 hk 0 (by omega) _ _ rfl, HM.out.trans (RMs.of_mod ((Mod.refl _ _).setCell (by simp) _))⟩
set_option maxHeartbeats 4000000 in
set_option maxRecDepth 100000 in
theorem ralone_yes (ho : ρ.ops < 1000000) (k : Nat) (hk : k < sp.length) (hp : sp[k].pc = 10) (hr : 0 ≤ sp[k].a ∧ sp[k].a ≤ 1000000) (ρ2 : Rf) (hρ : ρ2 = ρ.op 1 P.next false 0) : Calls Tryz.prog 104 #[.pointer (some ⟨gL, 0, none⟩), .int .i64 (k : Int)] w fun e w' => e = .returned (.bool (ρ.get P.next == sp[k].a + 1)) ∧ RLk w' gL gr base hs P ρ2 sp ∧ RMs base [gr, hs] w w' := by
  obtain ⟨ya, hya⟩ : ∃ ya, sp[k].a = ya := ⟨_, rfl⟩
  rw [hya]
  have hk1 : (k : Int) < (sp.length : Int) := by omega
  have hk2 : (0 : Int) ≤ (k : Int) := by omega
  have hk3 : decide ((k : Int) < 0) = false := decide_eq_false (by omega)
  have hk4 : decide ((sp.length : Int) ≤ (k : Int)) = false := decide_eq_false (by omega)
  obtain ⟨⟨cc, q0, q1, q2, q3⟩, hl32⟩ := H.heads
  obtain ⟨c0, c1, c2, c3, cf⟩ := H.2.1.cells k hk
  have hlt := H.2.1.lt
  have HH := H.self hk
  rw [hp] at c0
  obtain ⟨xp, xa, xb, xc, hx⟩ : ∃ xp xa xb xc, sp[k] = ⟨xp, xa, xb, xc⟩ := ⟨_, _, _, _, rfl⟩
  have HP := Lib.hid (show xp = 10 by rw [hx] at hp; exact hp)
  have HSF := Lib.hid (show sp.set k ⟨xp, xa, xb, xc⟩ = sp by rw [← hx, List.set_getElem_self])
  simp only [hx] at HH c1 hr hya
  replace HH := Lib.hid HH
  clear H hp c2 c3 cf hx
  obtain rfl : xa = ya := hya
  have HSt := fun W (K : RfAt W gr base ρ) => rload_any gr base ρ W K P.next ho
  rw [← hρ] at HSt
  generalize ρ.get P.next = y at HSt ⊢
  replace HSt := Lib.hid HSt
  have e1 : IntKind.i64.wrap (xa + 1) = xa + 1 := IntWalk.i64_in _ (by omega)
  clear hρ
  go_enter Tryz.func104, Tryz.ntmps104
  go_wp2_with fail
  go_region_held3 (fun V => V.cell? ⟨gL, 0, none⟩ = some (.pointer (some ⟨gr, 0, none⟩)) ∧ V.cell? ⟨gL, 1, none⟩ = some (.int .i64 P.next) ∧ V.cell? ⟨gL, 3, none⟩ = some (.slice (some ⟨hs, 0, none⟩) sp.length cc) ∧ V.cell? ⟨hs, k * 4 + 1, none⟩ = some (.int .i64 xa))
    (first | exact ⟨q0, q1, q3, c1⟩ | exact k2)
    (first | (go_at_call 119; refine (HSt.out _ (HH.out.drewN 1).1).mono ?_; rintro e w2 ⟨rfl, ha2, hm2⟩; have H2 := Lib.hid ((HH.out.drewN 1).arena ha2 hm2); have k2 := And.intro (((HH.out.drewN 1).cellL hm2 0).trans q0) (And.intro (((HH.out.drewN 1).cellL hm2 1).trans q1) (And.intro (((HH.out.drewN 1).cellL hm2 3).trans q3) (((HH.out.drewN 1).cellS hm2 (k * 4 + 1)).trans c1)))))
  have HM := Lib.hid (show RMs base [gr, hs] w w2 from ((RMs.refl _ _ _).drewN 1).trans (RMs.of_r hm2 (by simp)))
  clear k2 ha2 hm2 q0 q1 q2 q3 c0 c1
  go_wp2_with fail
  go_ret
  exact ⟨rfl, by rw [← HSF.out]; exact H2.out, HM.out⟩
set_option maxRecDepth 100000 in
theorem rstep_none (k : Nat) (hk : k < sp.length) (h : ¬ (sp[k].pc = 1 ∨ sp[k].pc = 2 ∨ sp[k].pc = 11)) : Calls Tryz.prog 90 #[.pointer (some ⟨gL, 0, none⟩), .int .i64 (k : Int)] w fun e w' => e = .returned (.bool false) ∧ w' = w := by
  have hk1 : (k : Int) < (sp.length : Int) := by omega
  have hk2 : (0 : Int) ≤ (k : Int) := by omega
  have hk3 : decide ((k : Int) < 0) = false := decide_eq_false (by omega)
  have hk4 : decide ((sp.length : Int) ≤ (k : Int)) = false := decide_eq_false (by omega)
  obtain ⟨⟨cc, q0, q1, q2, q3⟩, hl32⟩ := H.heads
  obtain ⟨c0, c1, c2, c3, cf⟩ := H.2.1.cells k hk
  have hlt := H.2.1.lt
  have e1 := ibeq_no (show ¬ sp[k].pc = 1 by omega)
  have e2 := ibeq_no (show ¬ sp[k].pc = 2 by omega)
  have e3 := ibeq_no (show ¬ sp[k].pc = 11 by omega)
  generalize sp[k].pc = x at *
  clear H h c2 c3 cf
  go_enter Tryz.func90, Tryz.ntmps90
  go_wp2_with fail
  go_ret
  exact ⟨rfl, by trivial⟩
end
end Go.Proofs.YthffhhgaeolpgaaGreat.Pt

/- The document's lock of layer 17: each act, whole. -/
namespace Go.Proofs.YthffhhgaeolpgaaGreat.Pt
open Go.RowKit Go.Proofs.YthffhhgaeolpgaaGreat.Ara Go.Proofs.YthffhhgaeolpgaaGreat.Lok

def RAft (gL gr base hs : Nat) (P : Par) (r : Bool × Ar × List Sp) (w : World) (e : Ending) (w' : World) : Prop :=
  e = .returned (.bool r.1) ∧ (∃ ρ', Alk r.2.1 ρ' ∧ RLk w' gL gr base hs P ρ' r.2.2) ∧ RMs base [gr, hs] w w'
section
variable (gL gr base hs : Nat) (P : Par) (σ : Ar) (ρ : Rf) (sp : List Sp) (w : World) (H : RLk w gL gr base hs P ρ sp) (hA : Alk σ ρ) (i : Int)
include H hA
theorem rask : Calls Tryz.prog 95 #[.pointer (some ⟨gL, 0, none⟩), .int .i64 i] w (RAft gL gr base hs P (turnB sp i 0, σ, turnS sp i 0 1) w) := by
  by_cases hi : i < 0 ∨ (sp.length : Int) ≤ i
  · refine (rask_out gL gr base hs P ρ sp w H i hi).mono ?_
    rintro e w' ⟨rfl, rfl⟩
    rw [turn_out hi, turnS_out hi]
    exact ⟨rfl, ⟨ρ, hA, H⟩, RMs.refl _ _ _⟩
  · obtain ⟨k, rfl⟩ := Int.eq_ofNat_of_zero_le (show 0 ≤ i by omega)
    have hk : k < sp.length := by omega
    rw [turn_in hk, turnS_in hk]
    by_cases hp : sp[k].pc = 0
    · rw [show (sp[k].pc == 0) = true from by simpa using hp, if_pos hp]
      refine (rask_yes gL gr base hs P ρ sp w H k hk hp _ rfl).mono ?_
      rintro e w' ⟨rfl, h1, h2⟩
      exact ⟨rfl, ⟨ρ, hA, h1⟩, RMs.of_mod (h2.sub (by simp))⟩
    · rw [show (sp[k].pc == 0) = false from by simpa using hp, if_neg hp]
      refine (rask_no gL gr base hs P ρ sp w H k hk hp).mono ?_
      rintro e w' ⟨rfl, rfl⟩
      exact ⟨rfl, ⟨ρ, hA, H⟩, RMs.refl _ _ _⟩
theorem rleave : Calls Tryz.prog 100 #[.pointer (some ⟨gL, 0, none⟩), .int .i64 i] w (RAft gL gr base hs P (turnB sp i 10, σ, turnS sp i 10 11) w) := by
  by_cases hi : i < 0 ∨ (sp.length : Int) ≤ i
  · refine (rleave_out gL gr base hs P ρ sp w H i hi).mono ?_
    rintro e w' ⟨rfl, rfl⟩
    rw [turn_out hi, turnS_out hi]
    exact ⟨rfl, ⟨ρ, hA, H⟩, RMs.refl _ _ _⟩
  · obtain ⟨k, rfl⟩ := Int.eq_ofNat_of_zero_le (show 0 ≤ i by omega)
    have hk : k < sp.length := by omega
    rw [turn_in hk, turnS_in hk]
    by_cases hp : sp[k].pc = 10
    · rw [show (sp[k].pc == 10) = true from by simpa using hp, if_pos hp]
      refine (rleave_yes gL gr base hs P ρ sp w H k hk hp _ rfl).mono ?_
      rintro e w' ⟨rfl, h1, h2⟩
      exact ⟨rfl, ⟨ρ, hA, h1⟩, RMs.of_mod (h2.sub (by simp))⟩
    · rw [show (sp[k].pc == 10) = false from by simpa using hp, if_neg hp]
      refine (rleave_no gL gr base hs P ρ sp w H k hk hp).mono ?_
      rintro e w' ⟨rfl, rfl⟩
      exact ⟨rfl, ⟨ρ, hA, H⟩, RMs.refl _ _ _⟩
end

section
variable (gL gr base hs : Nat) (P : Par) (σ : Ar) (ρ : Rf) (sp : List Sp) (w : World) (H : RLk w gL gr base hs P ρ sp) (hA : Alk σ ρ)
include H hA
theorem ralone (hN : Num P σ sp) (ho : σ.ops < 1000000) (i : Int) : Calls Tryz.prog 104 #[.pointer (some ⟨gL, 0, none⟩), .int .i64 i] w (RAft gL gr base hs P ((aloneP P σ sp i).1, (aloneP P σ sp i).2, sp) w) := by
  have hro : ρ.ops < 1000000 := by have := hA.2.2.2.2.1; omega
  by_cases hi : i < 0 ∨ (sp.length : Int) ≤ i
  · refine (ralone_outr gL gr base hs P ρ sp w H i hi).mono ?_
    rintro e w' ⟨rfl, rfl⟩
    have e : aloneP P σ sp i = (false, σ) := by unfold aloneP; rw [spOf_out hi, if_neg (by decide)]
    rw [e]
    exact ⟨rfl, ⟨ρ, hA, H⟩, RMs.refl _ _ _⟩
  obtain ⟨k, rfl⟩ := Int.eq_ofNat_of_zero_le (show 0 ≤ i by omega)
  have hk : k < sp.length := by omega
  unfold aloneP
  rw [spOf_in hk]
  by_cases hp : sp[k].pc = 10
  · rw [if_pos hp]
    refine (ralone_yes gL gr base hs P ρ sp w H hro k hk hp (hN.2.1 k hk) _ rfl).mono ?_
    rintro e w' ⟨rfl, h1, h2⟩
    rw [hA.get]
    exact ⟨rfl, ⟨_, hA.op 1 _ _ _, h1⟩, h2⟩
  · rw [if_neg hp]
    refine (ralone_no gL gr base hs P ρ sp w H k hk hp).mono ?_
    rintro e w' ⟨rfl, rfl⟩
    exact ⟨rfl, ⟨ρ, hA, H⟩, RMs.refl _ _ _⟩
theorem rstep (hN : Num P σ sp) (ho : σ.ops < 1000000) (i : Int) : Calls Tryz.prog 90 #[.pointer (some ⟨gL, 0, none⟩), .int .i64 i] w (RAft gL gr base hs P (stepP P σ sp i) w) := by
  have hro : ρ.ops < 1000000 := by have := hA.2.2.2.2.1; omega
  by_cases hi : i < 0 ∨ (sp.length : Int) ≤ i
  · refine (rstep_outr gL gr base hs P ρ sp w H i hi).mono ?_
    rintro e w' ⟨rfl, rfl⟩
    have e : stepP P σ sp i = (false, σ, sp) := by unfold stepP; rw [spOf_out hi, if_neg (by decide), if_neg (by decide), if_neg (by decide)]
    rw [e]
    exact ⟨rfl, ⟨ρ, hA, H⟩, RMs.refl _ _ _⟩
  obtain ⟨k, rfl⟩ := Int.eq_ofNat_of_zero_le (show 0 ≤ i by omega)
  have hk : k < sp.length := by omega
  obtain ⟨hP, hS, _, hh, g0, g1⟩ := hN
  have hr := hS k hk
  unfold stepP
  rw [spOf_in hk]
  simp only [Int.toNat_natCast]
  by_cases h1 : sp[k].pc = 1
  · rw [if_pos h1]
    refine (rstep_in gL gr base hs P ρ sp w H hro (by rw [hA.has]; exact hh) (by rw [hA.get]; exact ⟨g0, g1⟩) k hk h1 _ rfl _ rfl).mono ?_
    rintro e w' ⟨rfl, h1, h2⟩
    rw [hA.get] at h1
    exact ⟨rfl, ⟨_, hA.op 5 _ _ _, h1⟩, h2⟩
  rw [if_neg h1]
  by_cases h2 : sp[k].pc = 2
  · rw [if_pos h2]
    by_cases hc : σ.get (place P sp[k].a) = sp[k].a + 1
    · have hb : (ρ.get (place P sp[k].a) == sp[k].a + 1) = true := by rw [hA.get]; simpa using hc
      have hb2 : (σ.get (place P sp[k].a) == sp[k].a + 1) = true := by simpa using hc
      rw [if_pos hc, hb2]
      refine (rstep_two_yes gL gr base hs P ρ sp w H hP hro k hk h2 hr hb _ rfl _ rfl).mono ?_
      rintro e w' ⟨rfl, h1, h2⟩
      exact ⟨rfl, ⟨_, hA.op 1 _ _ _, h1⟩, h2⟩
    · have hb : (ρ.get (place P sp[k].a) == sp[k].a + 1) = false := by rw [hA.get]; simpa using hc
      have hb2 : (σ.get (place P sp[k].a) == sp[k].a + 1) = false := by simpa using hc
      rw [if_neg hc, hb2]
      refine (rstep_two_no gL gr base hs P ρ sp w H hP hro k hk h2 hr hb _ rfl).mono ?_
      rintro e w' ⟨rfl, h1, h2⟩
      exact ⟨rfl, ⟨_, hA.op 1 _ _ _, h1⟩, h2⟩
  rw [if_neg h2]
  by_cases h3 : sp[k].pc = 11
  · rw [if_pos h3]
    refine (rstep_out gL gr base hs P ρ sp w H hP hro k hk h3 hr _ rfl _ rfl).mono ?_
    rintro e w' ⟨rfl, h1, h2⟩
    exact ⟨rfl, ⟨_, hA.op 2 _ _ _, h1⟩, h2⟩
  rw [if_neg h3]
  refine (rstep_none gL gr base hs P ρ sp w H k hk (by omega)).mono ?_
  rintro e w' ⟨rfl, rfl⟩
  exact ⟨rfl, ⟨ρ, hA, H⟩, RMs.refl _ _ _⟩
end
end Go.Proofs.YthffhhgaeolpgaaGreat.Pt

/- Package mcs, as Lean has it: no two slots hold at once. -/
namespace Go.Proofs.YthffhhgaeolpgaaGreat.Mc
open Go.RowKit Go.Proofs.YthffhhgaeolpgaaGreat.Ara Go.Proofs.YthffhhgaeolpgaaGreat.Lok

structure Par where
  tail : Int
def nx (P : Par) (x : Int) : Int := P.tail + 2 * x - 1
def wt (P : Par) (x : Int) : Int := P.tail + 2 * x
def stepP (P : Par) (σ : Ar) (sp : List Sp) (i : Int) : Bool × Ar × List Sp :=
  if (spOf sp i).pc = 1 then (false, σ.op 2 (nx P (i + 1)) true 0, sp.set i.toNat { spOf sp i with pc := 2 })
  else if (spOf sp i).pc = 2 then (false, σ.op 2 (wt P (i + 1)) true 1, sp.set i.toNat { spOf sp i with pc := 3 })
  else if (spOf sp i).pc = 3 then (σ.get P.tail == 0, σ.op 3 P.tail true (i + 1), sp.set i.toNat { spOf sp i with pc := if σ.get P.tail = 0 then 10 else 4, a := σ.get P.tail })
  else if (spOf sp i).pc = 4 then (false, σ.op 2 (nx P (spOf sp i).a) true (i + 1), sp.set i.toNat { spOf sp i with pc := 5 })
  else if (spOf sp i).pc = 5 then (σ.get (wt P (i + 1)) == 0, σ.op 1 (wt P (i + 1)) false 0, sp.set i.toNat { spOf sp i with pc := if σ.get (wt P (i + 1)) = 0 then 10 else 5 })
  else if (spOf sp i).pc = 11 then (false, σ.op 1 (nx P (i + 1)) false 0, sp.set i.toNat { spOf sp i with pc := if σ.get (nx P (i + 1)) = 0 then 12 else 14, a := σ.get (nx P (i + 1)) })
  else if (spOf sp i).pc = 12 then (σ.has P.tail && (σ.get P.tail == i + 1), σ.op 4 P.tail (σ.has P.tail && (σ.get P.tail == i + 1)) 0, sp.set i.toNat { spOf sp i with pc := if (σ.has P.tail && (σ.get P.tail == i + 1)) = true then 0 else 13 })
  else if (spOf sp i).pc = 13 then (false, σ.op 1 (nx P (i + 1)) false 0, sp.set i.toNat { spOf sp i with pc := if σ.get (nx P (i + 1)) = 0 then 13 else 14, a := σ.get (nx P (i + 1)) })
  else if (spOf sp i).pc = 14 then (true, σ.op 2 (wt P (spOf sp i).a) true 0, sp.set i.toNat { spOf sp i with pc := 0 })
  else (false, σ, sp)
def aloneP (P : Par) (σ : Ar) (sp : List Sp) (i : Int) : Bool × Ar :=
  if (spOf sp i).pc = 10 then (σ.get (nx P (i + 1)) == 0, σ.op 1 (nx P (i + 1)) false 0) else (false, σ)
def doP (P : Par) (σ : Ar) (sp : List Sp) (kd i : Int) : Bool × Ar × List Sp :=
  if kd = 0 then stepP P σ sp i else if kd = 1 then (turnB sp i 0, σ, turnS sp i 0 1) else if kd = 2 then (turnB sp i 10, σ, turnS sp i 10 11)
  else if kd = 3 then ((aloneP P σ sp i).1, (aloneP P σ sp i).2, sp) else (false, σ, sp)
def outs (s : Sp) : Prop := s.pc = 10 ∨ s.pc = 11 ∨ s.pc = 12 ∨ s.pc = 13 ∨ s.pc = 14
def inq (s : Sp) : Prop := s.pc = 4 ∨ s.pc = 5 ∨ outs s
def tailOf : List Int → Int
  | [] => 0
  | [i] => i + 1
  | _ :: j :: q => tailOf (j :: q)
def Chain (P : Par) (σ : Ar) (sp : List Sp) : List Int → Prop
  | [] => True
  | [i] => σ.get (nx P (i + 1)) = 0
  | i :: j :: q => (((spOf sp j).pc = 4 ∧ (spOf sp j).a = i + 1 ∧ σ.get (nx P (i + 1)) = 0) ∨ ((spOf sp j).pc = 5 ∧ σ.get (nx P (i + 1)) = j + 1)) ∧ σ.get (wt P (j + 1)) = 1 ∧ Chain P σ sp (j :: q)
theorem Chain.same {P : Par} {σ σ' : Ar} {sp sp' : List Sp} {q : List Int} (h : Chain P σ sp q) (hs : ∀ j, j ∈ q.tail → spOf sp' j = spOf sp j) (hg : ∀ j, j ∈ q → σ'.get (nx P (j + 1)) = σ.get (nx P (j + 1))) (hw : ∀ j, j ∈ q.tail → σ'.get (wt P (j + 1)) = σ.get (wt P (j + 1))) : Chain P σ' sp' q := by
  induction q with
  | nil => trivial
  | cons i q ih =>
    cases q with
    | nil => show _ = _; rw [hg i (by simp)]; exact h
    | cons j q =>
      obtain ⟨h1, h2, h3⟩ := h
      refine ⟨?_, by rw [hw j (by simp)]; exact h2, ih h3 (fun k hk => hs k (by simp at hk ⊢; exact .inr hk)) (fun k hk => hg k (by simp at hk ⊢; exact .inr hk)) (fun k hk => hw k (by simp at hk ⊢; exact .inr hk))⟩
      rw [hs j (by simp), hg i (by simp)]
      exact h1
theorem tailOf_push (q : List Int) (i : Int) : tailOf (q ++ [i]) = i + 1 := by
  induction q with
  | nil => rfl
  | cons k q ih =>
    cases q with
    | nil => rfl
    | cons j q => exact ih
theorem tailOf_mem {q : List Int} (h : q ≠ []) : ∃ j, j ∈ q ∧ tailOf q = j + 1 := by
  induction q with
  | nil => exact absurd rfl h
  | cons k q ih =>
    cases q with
    | nil => exact ⟨k, by simp, rfl⟩
    | cons j q =>
      obtain ⟨m, m1, m2⟩ := ih (by simp)
      exact ⟨m, by simp at m1 ⊢; exact .inr m1, m2⟩
theorem Chain.push {P : Par} {σ : Ar} {sp : List Sp} {q : List Int} {i : Int} (h : Chain P σ sp q) (h0 : q ≠ []) (h4 : (spOf sp i).pc = 4) (ha : (spOf sp i).a = tailOf q) (hl : σ.get (nx P (i + 1)) = 0) (hw : σ.get (wt P (i + 1)) = 1) : Chain P σ sp (q ++ [i]) := by
  induction q with
  | nil => exact absurd rfl h0
  | cons k q ih =>
    cases q with
    | nil => exact ⟨.inl ⟨h4, ha, h⟩, hw, hl⟩
    | cons j q => exact ⟨h.1, h.2.1, ih h.2.2 (by simp) ha⟩
theorem Chain.link {P : Par} {σ σ' : Ar} {sp sp' : List Sp} {q : List Int} {i : Int} (h : Chain P σ sp q) (hi : i ∈ q.tail) (hn : q.Nodup) (h4 : (spOf sp i).pc = 4) (h5 : (spOf sp' i).pc = 5) (hs : ∀ j, j ≠ i → spOf sp' j = spOf sp j)
    (hg : ∀ j, σ'.get (nx P (j + 1)) = if j + 1 = (spOf sp i).a then i + 1 else σ.get (nx P (j + 1))) (hw : ∀ j, σ'.get (wt P (j + 1)) = σ.get (wt P (j + 1))) : Chain P σ' sp' q := by
  induction q with
  | nil => simp at hi
  | cons k q ih =>
    cases q with
    | nil => simp at hi
    | cons j q =>
      obtain ⟨h1, h2, h3⟩ := h
      rw [List.nodup_cons] at hn
      by_cases e : j = i
      · subst e
        rcases h1 with ⟨_, ha, hz⟩ | ⟨h1, _⟩
        · refine ⟨.inr ⟨h5, by rw [hg, if_pos ha.symm]⟩, by rw [hw]; exact h2, ?_⟩
          have hn2 := (List.nodup_cons.1 hn.2).1
          refine h3.same (fun m hm => hs m (fun e => hn2 (by simp at hm; rw [← e]; exact hm))) (fun m hm => ?_) (fun m _ => hw m)
          rw [hg, if_neg]
          intro e
          have : m = k := by omega
          subst this
          exact hn.1 hm
        · omega
      · have hi2 : i ∈ q := by
          simp at hi
          rcases hi with hi | hi
          · exact absurd hi.symm e
          · exact hi
        refine ⟨?_, by rw [hw]; exact h2, ih h3 hi2 hn.2⟩
        have hk : ¬ k + 1 = (spOf sp i).a := by
          have key : ∀ (m : Int) (q : List Int), Chain P σ sp (m :: q) → i ∈ q → ∃ p, p ∈ (m :: q) ∧ (spOf sp i).a = p + 1 := by
            intro m q
            induction q generalizing m with
            | nil => intro _ h; simp at h
            | cons n q ihq =>
              intro hc hm
              obtain ⟨c1, _, c3⟩ := hc
              by_cases en : n = i
              · subst en
                rcases c1 with ⟨_, c, _⟩ | ⟨c, _⟩
                · exact ⟨m, by simp, c⟩
                · omega
              · obtain ⟨p, p1, p2⟩ := ihq n c3 (by simp at hm; rcases hm with hm | hm; exact absurd hm.symm en; exact hm)
                exact ⟨p, by simp at p1 ⊢; exact .inr p1, p2⟩
          obtain ⟨p, p1, p2⟩ := key j q h3 hi2
          intro e2
          have : p = k := by omega
          subst this
          exact hn.1 p1
        rw [hs j e, hg, if_neg hk]
        exact h1
structure Inv (P : Par) (σ : Ar) (sp : List Sp) (q : List Int) : Prop where
  hl : σ.t ≤ σ.ws.length
  t1 : 1 ≤ P.tail
  t2 : P.tail + 2 * sp.length ≤ σ.t
  pcs : ∀ i, (spOf sp i).pc = 0 ∨ (spOf sp i).pc = 1 ∨ (spOf sp i).pc = 2 ∨ (spOf sp i).pc = 3 ∨ inq (spOf sp i)
  ar : ∀ i, 0 ≤ (spOf sp i).a ∧ (spOf sp i).a ≤ sp.length
  mem : ∀ i, i ∈ q ↔ inq (spOf sp i)
  nd : q.Nodup
  first : ∀ i, outs (spOf sp i) → q.head? = some i
  gT : σ.get P.tail = tailOf q
  ch : Chain P σ sp q
  hd : ∀ i, q.head? = some i → (spOf sp i).pc ≠ 4 ∧ ((spOf sp i).pc = 5 → σ.get (wt P (i + 1)) = 0)
  p2 : ∀ i, (spOf sp i).pc = 2 ∨ (spOf sp i).pc = 3 → σ.get (nx P (i + 1)) = 0
  p3 : ∀ i, (spOf sp i).pc = 3 → σ.get (wt P (i + 1)) = 1
  p13 : ∀ i, (spOf sp i).pc = 13 → q ≠ [i]
  pa : ∀ i, (spOf sp i).pc = 12 ∨ (spOf sp i).pc = 13 → (spOf sp i).a = 0
  p14 : ∀ i, (spOf sp i).pc = 14 → (spOf sp i).a = σ.get (nx P (i + 1)) ∧ σ.get (nx P (i + 1)) ≠ 0
theorem inq_range {sp : List Sp} {i : Int} (h : inq (spOf sp i)) : 0 ≤ i ∧ i < sp.length := spOf_range (by unfold inq outs at h; omega)
section
variable {P : Par} {σ : Ar} {sp : List Sp} {q : List Int} (h : Inv P σ sp q)
include h
theorem Inv.hasP (p : Int) (h0 : P.tail ≤ p) (h1 : p ≤ P.tail + 2 * sp.length) : σ.has p = true := by
  have := h.t1
  have := h.t2
  unfold Ar.has
  rw [decide_eq_true (by omega), decide_eq_true (by omega)]
  rfl
theorem Inv.hasT : σ.has P.tail = true := h.hasP _ (by omega) (by omega)
theorem Inv.hasN (x : Int) (h0 : 1 ≤ x) (h1 : x ≤ sp.length) : σ.has (nx P x) = true := h.hasP _ (by unfold nx; omega) (by unfold nx; omega)
theorem Inv.hasW (x : Int) (h0 : 0 ≤ x) (h1 : x ≤ sp.length) : σ.has (wt P x) = true := h.hasP _ (by unfold wt; omega) (by unfold wt; omega)
theorem Inv.range (i : Int) (hi : i ∈ q) : 0 ≤ i ∧ i < sp.length := inq_range ((h.mem i).1 hi)
theorem Inv.same {σ' : Ar} (hw : σ'.ws.length = σ.ws.length) (ht : σ'.t = σ.t) (hg : ∀ p, σ'.get p = σ.get p) : Inv P σ' sp q :=
  { h with hl := by rw [ht, hw]; exact h.hl, t2 := by rw [ht]; exact h.t2, gT := (hg _).trans h.gT, ch := h.ch.same (fun _ _ => rfl) (fun _ _ => hg _) (fun _ _ => hg _), hd := fun i hi => ⟨(h.hd i hi).1, fun e => (hg _).trans ((h.hd i hi).2 e)⟩, p2 := fun i hi => (hg _).trans (h.p2 i hi), p3 := fun i hi => (hg _).trans (h.p3 i hi), p14 := fun i hi => by rw [hg]; exact h.p14 i hi }
theorem Inv.read (p v : Int) : Inv P (σ.op 1 p false v) sp q := h.same (op_len _ _ _ _ _) (op_t _ _ _ _ _) (fun q => get_read σ h.hl 1 p v q)
theorem Inv.turns {σ' : Ar} {sp' : List Sp} (hlen : sp'.length = sp.length) (i : Int) (s' : Sp) (hs : ∀ j, spOf sp' j = if j = i then s' else spOf sp j) (hw : σ'.ws.length = σ.ws.length) (ht : σ'.t = σ.t)
    (hT : σ'.get P.tail = σ.get P.tail) (hN : ∀ j, inq (spOf sp j) ∨ j ≠ i → 0 ≤ j → σ'.get (nx P (j + 1)) = σ.get (nx P (j + 1))) (hW : ∀ j, inq (spOf sp j) ∨ j ≠ i → 0 ≤ j → σ'.get (wt P (j + 1)) = σ.get (wt P (j + 1)))
    (hp : s'.pc = 0 ∨ s'.pc = 1 ∨ s'.pc = 2 ∨ s'.pc = 3 ∨ inq s') (ha : 0 ≤ s'.a ∧ s'.a ≤ sp.length) (hq : inq s' ↔ inq (spOf sp i)) (hf : inq s' → q.head? = some i) (h45 : s'.pc ≠ 4) (h5 : s'.pc = 5 → σ.get (wt P (i + 1)) = 0)
    (h2 : s'.pc = 2 ∨ s'.pc = 3 → σ'.get (nx P (i + 1)) = 0) (h3 : s'.pc = 3 → σ'.get (wt P (i + 1)) = 1) (h13 : s'.pc = 13 → q ≠ [i]) (hz : s'.pc = 12 ∨ s'.pc = 13 → s'.a = 0) (h14 : s'.pc = 14 → s'.a = σ.get (nx P (i + 1)) ∧ σ.get (nx P (i + 1)) ≠ 0) : Inv P σ' sp' q := by
  have hQ : ∀ j, inq (spOf sp' j) ↔ inq (spOf sp j) := by
    intro j; rw [hs]; split
    · rename_i e; subst e; exact hq
    · exact Iff.rfl
  have hr0 : ∀ j, (spOf sp j).pc ≠ 0 → 0 ≤ j := fun j hj => (spOf_range hj).1
  have htl : ∀ j, j ∈ q.tail → j ≠ i := by
    intro j hj e
    subst e
    have hjq : j ∈ q := List.mem_of_mem_tail hj
    have := hf ((hq).2 ((h.mem j).1 hjq))
    cases q with
    | nil => simp at this
    | cons k q =>
      obtain rfl : k = j := by simpa using this
      exact (List.nodup_cons.1 h.nd).1 (by simpa using hj)
  refine { hl := ?_, t1 := h.t1, t2 := ?_, pcs := ?_, ar := ?_, mem := ?_, nd := h.nd, first := ?_, gT := hT.trans h.gT, ch := ?_, hd := ?_, p2 := ?_, p3 := ?_, p13 := ?_, pa := ?_, p14 := ?_ }
  · rw [ht, hw]; exact h.hl
  · rw [hlen, ht]; exact h.t2
  · intro j; rw [hs]; split
    · exact hp
    · exact h.pcs j
  · intro j; rw [hs, hlen]; split
    · exact ha
    · exact h.ar j
  · intro j; rw [hQ]; exact h.mem j
  · intro j hj
    rw [hs] at hj
    split at hj
    · rename_i e; subst e; exact hf (.inr (.inr hj))
    · exact h.first j hj
  · exact h.ch.same (fun j hj => by rw [hs, if_neg (htl j hj)]) (fun j hj => hN j (.inl ((h.mem j).1 hj)) (h.range j hj).1) (fun j hj => hW j (.inl ((h.mem j).1 (List.mem_of_mem_tail hj))) (h.range j (List.mem_of_mem_tail hj)).1)
  · intro j hj
    have hjq : j ∈ q := List.mem_of_mem_head? hj
    rw [hs]
    split
    · rename_i e; subst e
      exact ⟨h45, fun e5 => (hW j (.inl ((h.mem j).1 hjq)) (h.range j hjq).1).trans (h5 e5)⟩
    · exact ⟨(h.hd j hj).1, fun e5 => (hW j (.inl ((h.mem j).1 hjq)) (h.range j hjq).1).trans ((h.hd j hj).2 e5)⟩
  · intro j hj
    rw [hs] at hj
    split at hj
    · rename_i e; subst e; exact h2 hj
    · rename_i e; exact (hN j (.inr e) (hr0 j (by omega))).trans (h.p2 j hj)
  · intro j hj
    rw [hs] at hj
    split at hj
    · rename_i e; subst e; exact h3 hj
    · rename_i e; exact (hW j (.inr e) (hr0 j (by omega))).trans (h.p3 j hj)
  · intro j hj
    rw [hs] at hj
    split at hj
    · rename_i e; subst e; exact h13 hj
    · exact h.p13 j hj
  · intro j hj
    rw [hs] at hj ⊢
    split at hj
    · rename_i e; rw [if_pos e]; exact hz hj
    · rename_i e; rw [if_neg e]; exact h.pa j hj
  · intro j hj
    rw [hs] at hj ⊢
    split at hj
    · rename_i e; subst e
      rw [if_pos rfl]
      have hi : inq s' := by unfold inq outs; omega
      have hjq := (h.mem j).2 (hq.1 hi)
      rw [hN j (.inl (hq.1 hi)) (h.range j hjq).1]
      exact h14 hj
    · rename_i e; rw [if_neg e]
      rw [hN j (.inr e) (hr0 j (by omega))]
      exact h.p14 j hj
theorem Inv.one (n : Nat) : cnt (fun s => s.pc == 10) sp n ≤ 1 := by
  refine cnt_one _ _ (fun i j hi hj => ?_) n
  simp only [beq_iff_eq] at hi hj
  have h1 := h.first i (.inl hi)
  have h2 := h.first j (.inl hj)
  rw [h1] at h2
  exact Option.some.inj h2
theorem Inv.linked (i : Int) (hp : outs (spOf sp i)) : (∃ j t, q = i :: j :: t ∧ (((spOf sp j).pc = 4 ∧ (spOf sp j).a = i + 1 ∧ σ.get (nx P (i + 1)) = 0) ∨ ((spOf sp j).pc = 5 ∧ σ.get (nx P (i + 1)) = j + 1))) ∨ (q = [i] ∧ σ.get (nx P (i + 1)) = 0) := by
  have hf := h.first i hp
  have hc := h.ch
  cases q with
  | nil => simp at hf
  | cons k q =>
    obtain rfl : k = i := by simpa using hf
    cases q with
    | nil => exact .inr ⟨rfl, hc⟩
    | cons j t => exact .inl ⟨j, t, rfl, hc.1⟩
theorem Inv.behind (i : Int) (hp : (spOf sp i).pc = 10) (ha : (aloneP P σ sp i).1 = false) : 0 < cnt (fun s => decide (0 < s.pc) && decide (s.pc < 10)) sp sp.length := by
  unfold aloneP at ha
  rw [if_pos hp] at ha
  simp at ha
  rcases h.linked i (.inl hp) with ⟨j, t, _, hj | hj⟩ | ⟨_, hj⟩
  · exact absurd hj.2.2 ha
  · obtain ⟨r0, r1⟩ := spOf_range (sp := sp) (i := j) (by omega)
    exact cnt_some _ _ j (by rw [hj.1]; rfl) r0 _ r1
  · exact absurd hj ha
end
end Go.Proofs.YthffhhgaeolpgaaGreat.Mc

