/- Merged texts: Rtk, Rtl, PtP. -/
import Derived.Test.YthffhhgaeolpgaaGreatGq8
set_option linter.unusedVariables false
/- The document's lock of layer 16, in memory: what its methods do. -/
namespace Go.Proofs.YthffhhgaeolpgaaGreat.Tk
open Go.RowKit Go.Proofs.YthffhhgaeolpgaaGreat.Ara Go.Proofs.YthffhhgaeolpgaaGreat.Lok

def RLk (W : World) (gL gr base hs : Nat) (P : Par) (ρ : Rf) (sp : List Sp) : Prop :=
  RfAt W gr base ρ ∧ SpAt W hs sp ∧ sp.length ≤ 32 ∧ (∃ c : Nat, W.heap[gL]? = some (.cells #[.pointer (some ⟨gr, 0, none⟩), .int .i64 P.next, .int .i64 (P.next + 1), .slice (some ⟨hs, 0, none⟩) sp.length c] 142 (0, 0))) ∧ gL ≠ gr ∧ gL ≠ hs ∧ hs ≠ gr
theorem RLk.rms {base : Nat} {S : List Nat} {W W' : World} {gL gr hs : Nat} {P : Par} {ρ ρ' : Rf} {sp : List Sp} (k : RLk W gL gr base hs P ρ sp) (hr : RfAt W' gr base ρ') (hm : RMs base S W W') (h1 : gL ∉ S) (h2 : hs ∉ S) : RLk W' gL gr base hs P ρ' sp := by
  obtain ⟨_, k2, k3, ⟨c, k4⟩, k5⟩ := k
  exact ⟨hr, k2.rms hm h2, k3, ⟨c, (hm.blk k4 (by decide) h1).trans k4⟩, k5⟩
theorem RLk.mod {base : Nat} {S : List Nat} {W W' : World} {gL gr hs : Nat} {P : Par} {ρ : Rf} {sp : List Sp} (k : RLk W gL gr base hs P ρ sp) (hm : Mod S W W') (h : ∀ x ∈ S, x ≠ gr ∧ ¬ IntRow W x) (h1 : gL ∉ S) (h2 : hs ∉ S) : RLk W' gL gr base hs P ρ sp := by
  obtain ⟨k1, k2, k3, ⟨c, k4⟩, k5⟩ := k
  exact ⟨rf_mod k1 hm h, k2.mod hm h2, k3, ⟨c, hm.blk k4 h1⟩, k5⟩
theorem RLk.same {base : Nat} {W W' : World} {gL gr hs : Nat} {P : Par} {ρ : Rf} {sp : List Sp} (k : RLk W gL gr base hs P ρ sp) (hb : Below W.heap.size W W') : RLk W' gL gr base hs P ρ sp := k.mod (S := []) (Mod.of_below hb) (by simp) (by simp) (by simp)
theorem RLk.drewN {base : Nat} {W : World} {gL gr hs : Nat} {P : Par} {ρ : Rf} {sp : List Sp} (k : RLk W gL gr base hs P ρ sp) (n : Nat) : RLk (W.drewN n) gL gr base hs P ρ sp := k
theorem RLk.drew {base : Nat} {W : World} {gL gr hs : Nat} {P : Par} {ρ : Rf} {sp : List Sp} (k : RLk W gL gr base hs P ρ sp) : RLk W.drew gL gr base hs P ρ sp := k
theorem RLk.arena {base : Nat} {W W' : World} {gL gr hs : Nat} {P : Par} {ρ ρ' : Rf} {sp : List Sp} (k : RLk W gL gr base hs P ρ sp) (hr : RfAt W' gr base ρ') (hm : RMod base gr W W') : RLk W' gL gr base hs P ρ' sp := by
  obtain ⟨d1, d2, d3⟩ := k.2.2.2.2
  exact k.rms (S := [gr]) hr (RMs.of_r hm (by simp)) (by simp; omega) (by simp; omega)
theorem RLk.cellL {base : Nat} {W W' : World} {gL gr hs : Nat} {P : Par} {ρ : Rf} {sp : List Sp} (k : RLk W gL gr base hs P ρ sp) (hm : RMod base gr W W') (j : Nat) : W'.cell? ⟨gL, j, none⟩ = W.cell? ⟨gL, j, none⟩ := by
  obtain ⟨d1, d2, d3⟩ := k.2.2.2.2
  obtain ⟨_, _, _, ⟨c, k4⟩, _⟩ := k
  have := (RMs.of_r (S := [gr]) hm (by simp)).blk k4 (by decide) (by simp; omega)
  unfold World.cell?
  rw [this]
theorem RLk.cellS {base : Nat} {W W' : World} {gL gr hs : Nat} {P : Par} {ρ : Rf} {sp : List Sp} (k : RLk W gL gr base hs P ρ sp) (hm : RMod base gr W W') (j : Nat) : W'.cell? ⟨hs, j, none⟩ = W.cell? ⟨hs, j, none⟩ := by
  obtain ⟨d1, d2, d3⟩ := k.2.2.2.2
  obtain ⟨cur, k4, _⟩ := k.2.1
  have := (RMs.of_r (S := [gr]) hm (by simp)).blk k4 (by decide) (by simp; omega)
  unfold World.cell?
  rw [this]
theorem RLk.put {base : Nat} {W : World} {gL gr hs : Nat} {P : Par} {ρ : Rf} {sp : List Sp} (k : RLk W gL gr base hs P ρ sp) (i : Nat) (hi : i < sp.length) (j : Nat) (hj : j < 4) (v : Value) (s' : Sp) (hv : decSp s' = (decSp sp[i]).set j v) : RLk (W.setCell ⟨hs, i * 4 + j, none⟩ v) gL gr base hs P ρ (sp.set i s') := by
  have hm : Mod [hs] W (W.setCell ⟨hs, i * 4 + j, none⟩ v) := (Mod.refl _ _).setCell (by simp) _
  obtain ⟨k1, k2, k3, ⟨c, k4⟩, d1, d2, d3⟩ := k
  refine ⟨rf_mod k1 hm (fun x hx => ?_), k2.set i hi j hj v s' hv, by rw [List.length_set]; exact k3, ⟨c, ?_⟩, d1, d2, d3⟩
  · obtain rfl : x = hs := by simpa using hx
    exact ⟨d3, spot_not_int k2⟩
  · rw [List.length_set]
    exact hm.blk k4 (by simp; omega)
theorem RLk.heads {base : Nat} {W : World} {gL gr hs : Nat} {P : Par} {ρ : Rf} {sp : List Sp} (k : RLk W gL gr base hs P ρ sp) : (∃ c : Nat, W.cell? ⟨gL, 0, none⟩ = some (.pointer (some ⟨gr, 0, none⟩)) ∧ W.cell? ⟨gL, 1, none⟩ = some (.int .i64 P.next) ∧ W.cell? ⟨gL, 2, none⟩ = some (.int .i64 (P.next + 1)) ∧ W.cell? ⟨gL, 3, none⟩ = some (.slice (some ⟨hs, 0, none⟩) sp.length c)) ∧ sp.length ≤ 32 := by
  obtain ⟨_, _, k3, ⟨c, k4⟩, _⟩ := k
  exact ⟨⟨c, blk_cell k4 0 (by simp), blk_cell k4 1 (by simp), blk_cell k4 2 (by simp), blk_cell k4 3 (by simp)⟩, k3⟩
theorem RLk.sets {base : Nat} {W : World} {gL gr hs : Nat} {P : Par} {ρ : Rf} {sp : List Sp} {i : Nat} {s : Sp} (k : RLk W gL gr base hs P ρ (sp.set i s)) (hi : i < sp.length) : (∃ c : Nat, W.cell? ⟨gL, 0, none⟩ = some (.pointer (some ⟨gr, 0, none⟩)) ∧ W.cell? ⟨gL, 1, none⟩ = some (.int .i64 P.next) ∧ W.cell? ⟨gL, 2, none⟩ = some (.int .i64 (P.next + 1)) ∧ W.cell? ⟨gL, 3, none⟩ = some (.slice (some ⟨hs, 0, none⟩) sp.length c)) ∧ W.cell? ⟨hs, i * 4, none⟩ = some (.int .i64 s.pc) ∧ W.cell? ⟨hs, i * 4 + 1, none⟩ = some (.int .i64 s.a) ∧ W.cell? ⟨hs, i * 4 + 2, none⟩ = some (.int .i64 s.b) ∧ ∀ j, W.frozen? ⟨hs, j, none⟩ = false := by
  obtain ⟨h1, _⟩ := k.heads
  rw [List.length_set] at h1
  obtain ⟨c0, c1, c2, c3, cf⟩ := k.2.1.cells i (by rw [List.length_set]; exact hi)
  rw [List.getElem_set_self] at c0 c1 c2
  exact ⟨h1, c0, c1, c2, cf⟩
theorem RLk.put2 {base : Nat} {W : World} {gL gr hs : Nat} {P : Par} {ρ : Rf} {sp : List Sp} {i : Nat} {s : Sp} (k : RLk W gL gr base hs P ρ (sp.set i s)) (hi : i < sp.length) (j : Nat) (hj : j < 4) (v : Value) (s' : Sp) (hv : decSp s' = (decSp s).set j v) : RLk (W.setCell ⟨hs, i * 4 + j, none⟩ v) gL gr base hs P ρ (sp.set i s') := by
  have := k.put i (by rw [List.length_set]; exact hi) j hj v s' (by rw [List.getElem_set_self]; exact hv)
  rw [List.set_set] at this
  exact this
theorem RLk.self {base : Nat} {W : World} {gL gr hs : Nat} {P : Par} {ρ : Rf} {sp : List Sp} {i : Nat} (k : RLk W gL gr base hs P ρ sp) (hi : i < sp.length) : RLk W gL gr base hs P ρ (sp.set i sp[i]) := by
  rw [List.set_getElem_self]
  exact k
section
variable (gL gr base hs : Nat) (P : Par) (ρ : Rf) (sp : List Sp) (w : World) (H : RLk w gL gr base hs P ρ sp)
include H
end

section
variable (gL gr base hs : Nat) (P : Par) (ρ : Rf) (sp : List Sp) (w : World) (H : RLk w gL gr base hs P ρ sp)
include H
set_option maxRecDepth 100000 in
theorem rask_out (i : Int) (hi : i < 0 ∨ (sp.length : Int) ≤ i) : Calls Tryz.prog 94 #[.pointer (some ⟨gL, 0, none⟩), .int .i64 i] w fun e w' => e = .returned (.bool false) ∧ w' = w := by
  · obtain ⟨⟨cc, q0, q1, q2, q3⟩, hl32⟩ := H.heads
    clear H
    by_cases h0 : i < 0
    · go_enter Tryz.func94, Tryz.ntmps94
      go_wp2_with fail
      go_ret
      exact ⟨rfl, by trivial⟩
    · have h1 : (sp.length : Int) ≤ i := by omega
      have h2 : decide (i < 0) = false := decide_eq_false h0
      go_enter Tryz.func94, Tryz.ntmps94
      go_wp2_with fail
      go_ret
      exact ⟨rfl, by trivial⟩
set_option maxRecDepth 100000 in
theorem rask_no (k : Nat) (hk : k < sp.length) (hp : ¬ sp[k].pc = 0) : Calls Tryz.prog 94 #[.pointer (some ⟨gL, 0, none⟩), .int .i64 (k : Int)] w fun e w' => e = .returned (.bool false) ∧ w' = w := by
  have hk1 : (k : Int) < (sp.length : Int) := by omega
  have hk2 : (0 : Int) ≤ (k : Int) := by omega
  have hk3 : decide ((k : Int) < 0) = false := decide_eq_false (by omega)
  have hk4 : decide ((sp.length : Int) ≤ (k : Int)) = false := decide_eq_false (by omega)
  obtain ⟨⟨cc, q0, q1, q2, q3⟩, hl32⟩ := H.heads
  obtain ⟨c0, c1, c2, c3, cf⟩ := H.2.1.cells k hk
  have hlt := H.2.1.lt
  have e1 := ibne hp
  generalize sp[k].pc = x at *
  clear H hp c1 c2 c3 cf
  go_enter Tryz.func94, Tryz.ntmps94
  go_wp2_with fail
  go_ret
  exact ⟨rfl, by trivial⟩
set_option maxRecDepth 100000 in
theorem rask_yes (k : Nat) (hk : k < sp.length) (hp : sp[k].pc = 0) (sp2 : List Sp) (h2 : sp2 = sp.set k { sp[k] with pc := 1 }) : Calls Tryz.prog 94 #[.pointer (some ⟨gL, 0, none⟩), .int .i64 (k : Int)] w fun e w' => e = .returned (.bool true) ∧ RLk w' gL gr base hs P ρ sp2 ∧ Mod [hs] w w' := by
  have hk1 : (k : Int) < (sp.length : Int) := by omega
  have hk2 : (0 : Int) ≤ (k : Int) := by omega
  have hk3 : decide ((k : Int) < 0) = false := decide_eq_false (by omega)
  have hk4 : decide ((sp.length : Int) ≤ (k : Int)) = false := decide_eq_false (by omega)
  obtain ⟨⟨cc, q0, q1, q2, q3⟩, hl32⟩ := H.heads
  obtain ⟨c0, c1, c2, c3, cf⟩ := H.2.1.cells k hk
  have hlt := H.2.1.lt
  have u1 := H.put k hk 0 (by omega) (.int .i64 1) { sp[k] with pc := 1 } rfl
  rw [← h2] at u1
  have HU := Lib.hid u1
  rw [hp] at c0
  have f0 := cf (k * 4)
  have HMM := Lib.hid (show Mod [hs] w (w.setCell ⟨hs, k * 4, none⟩ (.int .i64 1)) from (Mod.refl _ _).setCell (by simp) _)
  have HP := Lib.hid hp
  clear u1 h2 H hp c1 c2 c3 cf
  go_enter Tryz.func94, Tryz.ntmps94
  go_wp2_with fail
  go_ret
  exact ⟨rfl, HU.out, HMM.out⟩
set_option maxRecDepth 100000 in
theorem rleave_out (i : Int) (hi : i < 0 ∨ (sp.length : Int) ≤ i) : Calls Tryz.prog 99 #[.pointer (some ⟨gL, 0, none⟩), .int .i64 i] w fun e w' => e = .returned (.bool false) ∧ w' = w := by
  · obtain ⟨⟨cc, q0, q1, q2, q3⟩, hl32⟩ := H.heads
    clear H
    by_cases h0 : i < 0
    · go_enter Tryz.func99, Tryz.ntmps99
      go_wp2_with fail
      go_ret
      exact ⟨rfl, by trivial⟩
    · have h1 : (sp.length : Int) ≤ i := by omega
      have h2 : decide (i < 0) = false := decide_eq_false h0
      go_enter Tryz.func99, Tryz.ntmps99
      go_wp2_with fail
      go_ret
      exact ⟨rfl, by trivial⟩
set_option maxRecDepth 100000 in
theorem rleave_no (k : Nat) (hk : k < sp.length) (hp : ¬ sp[k].pc = 10) : Calls Tryz.prog 99 #[.pointer (some ⟨gL, 0, none⟩), .int .i64 (k : Int)] w fun e w' => e = .returned (.bool false) ∧ w' = w := by
  have hk1 : (k : Int) < (sp.length : Int) := by omega
  have hk2 : (0 : Int) ≤ (k : Int) := by omega
  have hk3 : decide ((k : Int) < 0) = false := decide_eq_false (by omega)
  have hk4 : decide ((sp.length : Int) ≤ (k : Int)) = false := decide_eq_false (by omega)
  obtain ⟨⟨cc, q0, q1, q2, q3⟩, hl32⟩ := H.heads
  obtain ⟨c0, c1, c2, c3, cf⟩ := H.2.1.cells k hk
  have hlt := H.2.1.lt
  have e1 := ibne hp
  generalize sp[k].pc = x at *
  clear H hp c1 c2 c3 cf
  go_enter Tryz.func99, Tryz.ntmps99
  go_wp2_with fail
  go_ret
  exact ⟨rfl, by trivial⟩
set_option maxRecDepth 100000 in
theorem rleave_yes (k : Nat) (hk : k < sp.length) (hp : sp[k].pc = 10) (sp2 : List Sp) (h2 : sp2 = sp.set k { sp[k] with pc := 11 }) : Calls Tryz.prog 99 #[.pointer (some ⟨gL, 0, none⟩), .int .i64 (k : Int)] w fun e w' => e = .returned (.bool true) ∧ RLk w' gL gr base hs P ρ sp2 ∧ Mod [hs] w w' := by
  have hk1 : (k : Int) < (sp.length : Int) := by omega
  have hk2 : (0 : Int) ≤ (k : Int) := by omega
  have hk3 : decide ((k : Int) < 0) = false := decide_eq_false (by omega)
  have hk4 : decide ((sp.length : Int) ≤ (k : Int)) = false := decide_eq_false (by omega)
  obtain ⟨⟨cc, q0, q1, q2, q3⟩, hl32⟩ := H.heads
  obtain ⟨c0, c1, c2, c3, cf⟩ := H.2.1.cells k hk
  have hlt := H.2.1.lt
  have u1 := H.put k hk 0 (by omega) (.int .i64 11) { sp[k] with pc := 11 } rfl
  rw [← h2] at u1
  have HU := Lib.hid u1
  rw [hp] at c0
  have f0 := cf (k * 4)
  have HMM := Lib.hid (show Mod [hs] w (w.setCell ⟨hs, k * 4, none⟩ (.int .i64 11)) from (Mod.refl _ _).setCell (by simp) _)
  have HP := Lib.hid hp
  clear u1 h2 H hp c1 c2 c3 cf
  go_enter Tryz.func99, Tryz.ntmps99
  go_wp2_with fail
  go_ret
  exact ⟨rfl, HU.out, HMM.out⟩
set_option maxRecDepth 100000 in
theorem rstep_outr (i : Int) (hi : i < 0 ∨ (sp.length : Int) ≤ i) : Calls Tryz.prog 89 #[.pointer (some ⟨gL, 0, none⟩), .int .i64 i] w fun e w' => e = .returned (.bool false) ∧ w' = w := by
  · obtain ⟨⟨cc, q0, q1, q2, q3⟩, hl32⟩ := H.heads
    clear H
    by_cases h0 : i < 0
    · go_enter Tryz.func89, Tryz.ntmps89
      go_wp2_with fail
      go_ret
      exact ⟨rfl, by trivial⟩
    · have h1 : (sp.length : Int) ≤ i := by omega
      have h2 : decide (i < 0) = false := decide_eq_false h0
      go_enter Tryz.func89, Tryz.ntmps89
      go_wp2_with fail
      go_ret
      exact ⟨rfl, by trivial⟩
set_option maxRecDepth 100000 in
theorem ralone_outr (i : Int) (hi : i < 0 ∨ (sp.length : Int) ≤ i) : Calls Tryz.prog 103 #[.pointer (some ⟨gL, 0, none⟩), .int .i64 i] w fun e w' => e = .returned (.bool false) ∧ w' = w := by
  · obtain ⟨⟨cc, q0, q1, q2, q3⟩, hl32⟩ := H.heads
    clear H
    by_cases h0 : i < 0
    · go_enter Tryz.func103, Tryz.ntmps103
      go_wp2_with fail
      go_ret
      exact ⟨rfl, by trivial⟩
    · have h1 : (sp.length : Int) ≤ i := by omega
      have h2 : decide (i < 0) = false := decide_eq_false h0
      go_enter Tryz.func103, Tryz.ntmps103
      go_wp2_with fail
      go_ret
      exact ⟨rfl, by trivial⟩
set_option maxRecDepth 100000 in
theorem ralone_no (k : Nat) (hk : k < sp.length) (hp : ¬ sp[k].pc = 10) : Calls Tryz.prog 103 #[.pointer (some ⟨gL, 0, none⟩), .int .i64 (k : Int)] w fun e w' => e = .returned (.bool false) ∧ w' = w := by
  have hk1 : (k : Int) < (sp.length : Int) := by omega
  have hk2 : (0 : Int) ≤ (k : Int) := by omega
  have hk3 : decide ((k : Int) < 0) = false := decide_eq_false (by omega)
  have hk4 : decide ((sp.length : Int) ≤ (k : Int)) = false := decide_eq_false (by omega)
  obtain ⟨⟨cc, q0, q1, q2, q3⟩, hl32⟩ := H.heads
  obtain ⟨c0, c1, c2, c3, cf⟩ := H.2.1.cells k hk
  have hlt := H.2.1.lt
  have e1 := ibne hp
  generalize sp[k].pc = x at *
  clear H hp c1 c2 c3 cf
  go_enter Tryz.func103, Tryz.ntmps103
  go_wp2_with fail
  go_ret
  exact ⟨rfl, by trivial⟩
end

section
variable (gL gr base hs : Nat) (P : Par) (ρ : Rf) (sp : List Sp) (w : World) (H : RLk w gL gr base hs P ρ sp)
include H
set_option maxHeartbeats 4000000 in
set_option maxRecDepth 100000 in
theorem rstep_out (ho : ρ.ops < 1000000) (k : Nat) (hk : k < sp.length) (hp : sp[k].pc = 11) (hr : 0 ≤ sp[k].a ∧ sp[k].a ≤ 1000000) (sp2 : List Sp) (h2 : sp2 = sp.set k { sp[k] with pc := 0 }) (ρ2 : Rf) (hρ : ρ2 = ρ.op 2 (P.next + 1) true (sp[k].a + 1)) : Calls Tryz.prog 89 #[.pointer (some ⟨gL, 0, none⟩), .int .i64 (k : Int)] w fun e w' => e = .returned (.bool true) ∧ RLk w' gL gr base hs P ρ2 sp2 ∧ RMs base [gr, hs] w w' := by
  have hk1 : (k : Int) < (sp.length : Int) := by omega
  have hk2 : (0 : Int) ≤ (k : Int) := by omega
  have hk3 : decide ((k : Int) < 0) = false := decide_eq_false (by omega)
  have hk4 : decide ((sp.length : Int) ≤ (k : Int)) = false := decide_eq_false (by omega)
  obtain ⟨⟨cc, q0, q1, q2, q3⟩, hl32⟩ := H.heads
  obtain ⟨c0, c1, c2, c3, cf⟩ := H.2.1.cells k hk
  have hlt := H.2.1.lt
  have HH := H.self hk
  rw [hp] at c0
  obtain ⟨xp, xa, xb, xc, hx⟩ : ∃ xp xa xb xc, sp[k] = ⟨xp, xa, xb, xc⟩ := ⟨_, _, _, _, rfl⟩
  have HP := Lib.hid (show xp = 11 by rw [hx] at hp; exact hp)
  have HSF := Lib.hid (show sp.set k ⟨xp, xa, xb, xc⟩ = sp by rw [← hx, List.set_getElem_self])
  simp only [hx] at HH c1 h2 hr hρ
  replace HH := Lib.hid HH
  clear H hp c2 c3 cf hx
  have HSt := fun W (K : RfAt W gr base ρ) => rstore_any gr base ρ W K (P.next + 1) ho (xa + 1)
  rw [← hρ] at HSt
  replace HSt := Lib.hid HSt
  have HS2 := Lib.hid h2
  have e1 : IntKind.i64.wrap (xa + 1) = xa + 1 := IntWalk.i64_in _ (by omega)
  clear hρ h2
  go_enter Tryz.func89, Tryz.ntmps89
  go_wp2_with fail
  go_region_held3 (fun V => V.cell? ⟨gL, 0, none⟩ = some (.pointer (some ⟨gr, 0, none⟩)) ∧ V.cell? ⟨gL, 1, none⟩ = some (.int .i64 P.next) ∧ V.cell? ⟨gL, 2, none⟩ = some (.int .i64 (P.next + 1)) ∧ V.cell? ⟨gL, 3, none⟩ = some (.slice (some ⟨hs, 0, none⟩) sp.length cc) ∧ V.cell? ⟨hs, k * 4 + 1, none⟩ = some (.int .i64 xa))
    (first | exact ⟨q0, q1, q2, q3, c1⟩ | exact k2)
    (first | (go_at_call 87; refine (HSt.out _ (HH.out.drewN 1).1).mono ?_; rintro e w2 ⟨rfl, ha2, hm2⟩; have H2 := Lib.hid ((HH.out.drewN 1).arena ha2 hm2); have k2 := And.intro (((HH.out.drewN 1).cellL hm2 0).trans q0) (And.intro (((HH.out.drewN 1).cellL hm2 1).trans q1) (And.intro (((HH.out.drewN 1).cellL hm2 2).trans q2) (And.intro (((HH.out.drewN 1).cellL hm2 3).trans q3) (((HH.out.drewN 1).cellS hm2 (k * 4 + 1)).trans c1))))))
  have HM := Lib.hid (show RMs base [gr, hs] w w2 from ((RMs.refl _ _ _).drewN 1).trans (RMs.of_r hm2 (by simp)))
  clear k2 ha2 hm2 q0 q1 q2 q3 c0 c1
  obtain ⟨⟨cc, q0, q1, q2, q3⟩, c0, c1, c2, cf⟩ := (H2).out.sets hk
  have f0 := cf (k * 4)
  have f1 := cf (k * 4 + 1)
  clear cf
  simp only at c0 c1 c2
  rw [HP.out] at c0
  go_wp2_with fail
  go_ret
  exact ⟨rfl, by rw [HS2.out]; exact H2.out.put2 hk 0 (by omega) _ _ rfl, HM.out.trans (RMs.of_mod ((Mod.refl _ _).setCell (by simp) _))⟩
set_option maxHeartbeats 4000000 in
set_option maxRecDepth 100000 in
theorem rstep_two_yes (ho : ρ.ops < 1000000) (k : Nat) (hk : k < sp.length) (hp : sp[k].pc = 2) (hb : (ρ.get (P.next + 1) == sp[k].a) = true) (sp2 : List Sp) (h2 : sp2 = sp.set k { sp[k] with pc := 10 }) (ρ2 : Rf) (hρ : ρ2 = ρ.op 1 (P.next + 1) false 0) : Calls Tryz.prog 89 #[.pointer (some ⟨gL, 0, none⟩), .int .i64 (k : Int)] w fun e w' => e = .returned (.bool true) ∧ RLk w' gL gr base hs P ρ2 sp2 ∧ RMs base [gr, hs] w w' := by
  have hk1 : (k : Int) < (sp.length : Int) := by omega
  have hk2 : (0 : Int) ≤ (k : Int) := by omega
  have hk3 : decide ((k : Int) < 0) = false := decide_eq_false (by omega)
  have hk4 : decide ((sp.length : Int) ≤ (k : Int)) = false := decide_eq_false (by omega)
  obtain ⟨⟨cc, q0, q1, q2, q3⟩, hl32⟩ := H.heads
  obtain ⟨c0, c1, c2, c3, cf⟩ := H.2.1.cells k hk
  have hlt := H.2.1.lt
  have HH := H.self hk
  rw [hp] at c0
  obtain ⟨xp, xa, xb, xc, hx⟩ : ∃ xp xa xb xc, sp[k] = ⟨xp, xa, xb, xc⟩ := ⟨_, _, _, _, rfl⟩
  have HP := Lib.hid (show xp = 2 by rw [hx] at hp; exact hp)
  have HSF := Lib.hid (show sp.set k ⟨xp, xa, xb, xc⟩ = sp by rw [← hx, List.set_getElem_self])
  simp only [hx] at HH c1 hb h2
  replace HH := Lib.hid HH
  clear H hp c2 c3 cf hx
  have HSt := fun W (K : RfAt W gr base ρ) => rload_any gr base ρ W K (P.next + 1) ho
  rw [← hρ] at HSt
  generalize ρ.get (P.next + 1) = y at HSt hb
  replace HSt := Lib.hid HSt
  clear hρ
  go_enter Tryz.func89, Tryz.ntmps89
  go_wp2_with fail
  go_region_held3 (fun V => V.cell? ⟨gL, 0, none⟩ = some (.pointer (some ⟨gr, 0, none⟩)) ∧ V.cell? ⟨gL, 1, none⟩ = some (.int .i64 P.next) ∧ V.cell? ⟨gL, 2, none⟩ = some (.int .i64 (P.next + 1)) ∧ V.cell? ⟨gL, 3, none⟩ = some (.slice (some ⟨hs, 0, none⟩) sp.length cc) ∧ V.cell? ⟨hs, k * 4 + 1, none⟩ = some (.int .i64 xa))
    (first | exact ⟨q0, q1, q2, q3, c1⟩ | exact k2)
    (first | (go_at_call 119; refine (HSt.out _ (HH.out.drewN 1).1).mono ?_; rintro e w2 ⟨rfl, ha2, hm2⟩; have H2 := Lib.hid ((HH.out.drewN 1).arena ha2 hm2); have k2 := And.intro (((HH.out.drewN 1).cellL hm2 0).trans q0) (And.intro (((HH.out.drewN 1).cellL hm2 1).trans q1) (And.intro (((HH.out.drewN 1).cellL hm2 2).trans q2) (And.intro (((HH.out.drewN 1).cellL hm2 3).trans q3) (((HH.out.drewN 1).cellS hm2 (k * 4 + 1)).trans c1))))))
  have HM := Lib.hid (show RMs base [gr, hs] w w2 from ((RMs.refl _ _ _).drewN 1).trans (RMs.of_r hm2 (by simp)))
  clear k2 ha2 hm2 q0 q1 q2 q3 c0 c1
  obtain ⟨⟨cc, q0, q1, q2, q3⟩, c0, c1, c2, cf⟩ := (H2).out.sets hk
  have f0 := cf (k * 4)
  have f1 := cf (k * 4 + 1)
  clear cf
  simp only at c0 c1 c2
  rw [HP.out] at c0
  go_wp2_with fail
  go_ret
  exact ⟨rfl, by rw [h2]; exact H2.out.put2 hk 0 (by omega) _ _ rfl, HM.out.trans (RMs.of_mod ((Mod.refl _ _).setCell (by simp) _))⟩
set_option maxHeartbeats 4000000 in
set_option maxRecDepth 100000 in
theorem rstep_two_no (ho : ρ.ops < 1000000) (k : Nat) (hk : k < sp.length) (hp : sp[k].pc = 2) (hb : (ρ.get (P.next + 1) == sp[k].a) = false) (ρ2 : Rf) (hρ : ρ2 = ρ.op 1 (P.next + 1) false 0) : Calls Tryz.prog 89 #[.pointer (some ⟨gL, 0, none⟩), .int .i64 (k : Int)] w fun e w' => e = .returned (.bool false) ∧ RLk w' gL gr base hs P ρ2 sp ∧ RMs base [gr, hs] w w' := by
  have hk1 : (k : Int) < (sp.length : Int) := by omega
  have hk2 : (0 : Int) ≤ (k : Int) := by omega
  have hk3 : decide ((k : Int) < 0) = false := decide_eq_false (by omega)
  have hk4 : decide ((sp.length : Int) ≤ (k : Int)) = false := decide_eq_false (by omega)
  obtain ⟨⟨cc, q0, q1, q2, q3⟩, hl32⟩ := H.heads
  obtain ⟨c0, c1, c2, c3, cf⟩ := H.2.1.cells k hk
  have hlt := H.2.1.lt
  have HH := H.self hk
  rw [hp] at c0
  obtain ⟨xp, xa, xb, xc, hx⟩ : ∃ xp xa xb xc, sp[k] = ⟨xp, xa, xb, xc⟩ := ⟨_, _, _, _, rfl⟩
  have HP := Lib.hid (show xp = 2 by rw [hx] at hp; exact hp)
  have HSF := Lib.hid (show sp.set k ⟨xp, xa, xb, xc⟩ = sp by rw [← hx, List.set_getElem_self])
  simp only [hx] at HH c1 hb
  replace HH := Lib.hid HH
  clear H hp c2 c3 cf hx
  have HSt := fun W (K : RfAt W gr base ρ) => rload_any gr base ρ W K (P.next + 1) ho
  rw [← hρ] at HSt
  generalize ρ.get (P.next + 1) = y at HSt hb
  replace HSt := Lib.hid HSt
  clear hρ
  go_enter Tryz.func89, Tryz.ntmps89
  go_wp2_with fail
  go_region_held3 (fun V => V.cell? ⟨gL, 0, none⟩ = some (.pointer (some ⟨gr, 0, none⟩)) ∧ V.cell? ⟨gL, 1, none⟩ = some (.int .i64 P.next) ∧ V.cell? ⟨gL, 2, none⟩ = some (.int .i64 (P.next + 1)) ∧ V.cell? ⟨gL, 3, none⟩ = some (.slice (some ⟨hs, 0, none⟩) sp.length cc) ∧ V.cell? ⟨hs, k * 4 + 1, none⟩ = some (.int .i64 xa))
    (first | exact ⟨q0, q1, q2, q3, c1⟩ | exact k2)
    (first | (go_at_call 119; refine (HSt.out _ (HH.out.drewN 1).1).mono ?_; rintro e w2 ⟨rfl, ha2, hm2⟩; have H2 := Lib.hid ((HH.out.drewN 1).arena ha2 hm2); have k2 := And.intro (((HH.out.drewN 1).cellL hm2 0).trans q0) (And.intro (((HH.out.drewN 1).cellL hm2 1).trans q1) (And.intro (((HH.out.drewN 1).cellL hm2 2).trans q2) (And.intro (((HH.out.drewN 1).cellL hm2 3).trans q3) (((HH.out.drewN 1).cellS hm2 (k * 4 + 1)).trans c1))))))
  have HM := Lib.hid (show RMs base [gr, hs] w w2 from ((RMs.refl _ _ _).drewN 1).trans (RMs.of_r hm2 (by simp)))
  clear k2 ha2 hm2 q0 q1 q2 q3 c0 c1
  obtain ⟨⟨cc, q0, q1, q2, q3⟩, c0, c1, c2, cf⟩ := (H2).out.sets hk
  have f0 := cf (k * 4)
  have f1 := cf (k * 4 + 1)
  clear cf
  simp only at c0 c1 c2
  rw [HP.out] at c0
  go_wp2_with fail
  go_ret
  exact ⟨rfl, by rw [← HSF.out]; exact H2.out, HM.out⟩
set_option maxHeartbeats 4000000 in
set_option maxRecDepth 100000 in
theorem rstep_in (ho : ρ.ops < 1000000) (hh : ρ.has P.next = true) (hg : 0 ≤ ρ.get P.next ∧ ρ.get P.next ≤ 1000000) (k : Nat) (hk : k < sp.length) (hp : sp[k].pc = 1) (sp2 : List Sp) (h2 : sp2 = sp.set k { sp[k] with pc := 2, a := ρ.get P.next }) (ρ2 : Rf) (hρ : ρ2 = ρ.op 5 P.next true (ρ.get P.next + 1)) : Calls Tryz.prog 89 #[.pointer (some ⟨gL, 0, none⟩), .int .i64 (k : Int)] w fun e w' => e = .returned (.bool false) ∧ RLk w' gL gr base hs P ρ2 sp2 ∧ RMs base [gr, hs] w w' := by
  have hne : gL ≠ hs := H.2.2.2.2.2.1
  have hk1 : (k : Int) < (sp.length : Int) := by omega
  have hk2 : (0 : Int) ≤ (k : Int) := by omega
  have hk3 : decide ((k : Int) < 0) = false := decide_eq_false (by omega)
  have hk4 : decide ((sp.length : Int) ≤ (k : Int)) = false := decide_eq_false (by omega)
  obtain ⟨⟨cc, q0, q1, q2, q3⟩, hl32⟩ := H.heads
  obtain ⟨c0, c1, c2, c3, cf⟩ := H.2.1.cells k hk
  have hlt := H.2.1.lt
  have HH := H.self hk
  rw [hp] at c0
  obtain ⟨xp, xa, xb, xc, hx⟩ : ∃ xp xa xb xc, sp[k] = ⟨xp, xa, xb, xc⟩ := ⟨_, _, _, _, rfl⟩
  have HP := Lib.hid (show xp = 1 by rw [hx] at hp; exact hp)
  have HSF := Lib.hid (show sp.set k ⟨xp, xa, xb, xc⟩ = sp by rw [← hx, List.set_getElem_self])
  simp only [hx] at HH c1 h2
  replace HH := Lib.hid HH
  clear H hp c2 c3 cf hx
  have HSt := fun W (K : RfAt W gr base ρ) => radd_any gr base ρ W K P.next ho 1
  have ew : wrap64 (ρ.get P.next + 1) = ρ.get P.next + 1 := IntWalk.wrap64_in _ (by omega)
  rw [if_pos hh, ew, ← hρ] at HSt
  replace HSt := Lib.hid HSt
  have HS2 := Lib.hid h2
  clear hρ h2 hh ew
  generalize ρ.get P.next = x at *
  have e1 : IntKind.i64.wrap (x + 1 - 1) = x := by rw [IntWalk.i64_in _ (by omega)]; omega
  have e2 : IntKind.i64.wrap x = x := IntWalk.i64_in _ (by omega)
  clear c0 c1
  have c0 := ((HH.out).sets hk).2.1
  simp only at c0
  rw [HP.out] at c0
  go_enter Tryz.func89, Tryz.ntmps89
  go_wp2_with fail
  go_region_held3 (fun V => V.cell? ⟨gL, 0, none⟩ = some (.pointer (some ⟨gr, 0, none⟩)) ∧ V.cell? ⟨gL, 1, none⟩ = some (.int .i64 P.next) ∧ V.cell? ⟨gL, 2, none⟩ = some (.int .i64 (P.next + 1)) ∧ V.cell? ⟨gL, 3, none⟩ = some (.slice (some ⟨hs, 0, none⟩) sp.length cc))
    (first | exact ⟨q0, q1, q2, q3⟩ | exact k2 | exact k3)
    (first | (go_at_call 118; refine (HSt.out _ (HH.out.drewN 1).1).mono ?_; rintro e w2 ⟨rfl, ha2, hm2⟩; have H2 := (HH.out.drewN 1).arena ha2 hm2; have k2 := And.intro (((HH.out.drewN 1).cellL hm2 0).trans q0) (And.intro (((HH.out.drewN 1).cellL hm2 1).trans q1) (And.intro (((HH.out.drewN 1).cellL hm2 2).trans q2) (((HH.out.drewN 1).cellL hm2 3).trans q3))); have c1 := (H2.sets hk).2.2.1; have f1 := (H2.sets hk).2.2.2.2 (k * 4 + 1); have k3 := And.intro ((World.cell?_setCell_far w2 ⟨hs, k * 4 + 1, none⟩ ⟨gL, 0, none⟩ (.int .i64 x) (by simp; omega)).trans k2.1) (And.intro ((World.cell?_setCell_far w2 ⟨hs, k * 4 + 1, none⟩ ⟨gL, 1, none⟩ (.int .i64 x) (by simp; omega)).trans k2.2.1) (And.intro ((World.cell?_setCell_far w2 ⟨hs, k * 4 + 1, none⟩ ⟨gL, 2, none⟩ (.int .i64 x) (by simp; omega)).trans k2.2.2.1) ((World.cell?_setCell_far w2 ⟨hs, k * 4 + 1, none⟩ ⟨gL, 3, none⟩ (.int .i64 x) (by simp; omega)).trans k2.2.2.2)))))
  have HM := Lib.hid (show RMs base [gr, hs] w (w2.setCell ⟨hs, k * 4 + 1, none⟩ (.int .i64 x)) from (((RMs.refl _ _ _).drewN 1).trans (RMs.of_r hm2 (by simp))).trans (RMs.of_mod ((Mod.refl _ _).setCell (by simp) _)))
  have H3 := Lib.hid (H2.put2 hk 1 (by omega) (.int .i64 x) ⟨xp, x, xb, xc⟩ rfl)
  clear k2 k3 ha2 hm2 q0 q1 q2 q3 c0 c1 f1 H2
  generalize w2.setCell ⟨hs, k * 4 + 1, none⟩ (.int .i64 x) = w3 at *
  obtain ⟨⟨cc, q0, q1, q2, q3⟩, c0, c1, c2, cf⟩ := (H3).out.sets hk
  have f0 := cf (k * 4)
  have f1 := cf (k * 4 + 1)
  clear cf
  simp only at c0 c1 c2
  rw [HP.out] at c0
  go_wp2_with fail
  go_ret
  exact ⟨rfl, by rw [HS2.out]; exact H3.out.put2 hk 0 (by omega) _ _ rfl, HM.out.trans (RMs.of_mod ((Mod.refl _ _).setCell (by simp) _))⟩
set_option maxHeartbeats 4000000 in
set_option maxRecDepth 100000 in
theorem ralone_yes (ho : ρ.ops < 1000000) (k : Nat) (hk : k < sp.length) (hp : sp[k].pc = 10) (hr : 0 ≤ sp[k].a ∧ sp[k].a ≤ 1000000) (ρ2 : Rf) (hρ : ρ2 = ρ.op 1 P.next false 0) : Calls Tryz.prog 103 #[.pointer (some ⟨gL, 0, none⟩), .int .i64 (k : Int)] w fun e w' => e = .returned (.bool (ρ.get P.next == sp[k].a + 1)) ∧ RLk w' gL gr base hs P ρ2 sp ∧ RMs base [gr, hs] w w' := by
  obtain ⟨ya, hya⟩ : ∃ ya, sp[k].a = ya := ⟨_, rfl⟩
  rw [hya]
  have hk1 : (k : Int) < (sp.length : Int) := by omega
  have hk2 : (0 : Int) ≤ (k : Int) := by omega
  have hk3 : decide ((k : Int) < 0) = false := decide_eq_false (by omega)
  have hk4 : decide ((sp.length : Int) ≤ (k : Int)) = false := decide_eq_false (by omega)
  obtain ⟨⟨cc, q0, q1, q2, q3⟩, hl32⟩ := H.heads
  obtain ⟨c0, c1, c2, c3, cf⟩ := H.2.1.cells k hk
  have hlt := H.2.1.lt
  have HH := H.self hk
  rw [hp] at c0
  obtain ⟨xp, xa, xb, xc, hx⟩ : ∃ xp xa xb xc, sp[k] = ⟨xp, xa, xb, xc⟩ := ⟨_, _, _, _, rfl⟩
  have HP := Lib.hid (show xp = 10 by rw [hx] at hp; exact hp)
  have HSF := Lib.hid (show sp.set k ⟨xp, xa, xb, xc⟩ = sp by rw [← hx, List.set_getElem_self])
  simp only [hx] at HH c1 hr hya
  replace HH := Lib.hid HH
  clear H hp c2 c3 cf hx
  obtain rfl : xa = ya := hya
  have HSt := fun W (K : RfAt W gr base ρ) => rload_any gr base ρ W K P.next ho
  rw [← hρ] at HSt
  generalize ρ.get P.next = y at HSt ⊢
  replace HSt := Lib.hid HSt
  have e1 : IntKind.i64.wrap (xa + 1) = xa + 1 := IntWalk.i64_in _ (by omega)
  clear hρ
  go_enter Tryz.func103, Tryz.ntmps103
  go_wp2_with fail
  go_region_held3 (fun V => V.cell? ⟨gL, 0, none⟩ = some (.pointer (some ⟨gr, 0, none⟩)) ∧ V.cell? ⟨gL, 1, none⟩ = some (.int .i64 P.next) ∧ V.cell? ⟨gL, 2, none⟩ = some (.int .i64 (P.next + 1)) ∧ V.cell? ⟨gL, 3, none⟩ = some (.slice (some ⟨hs, 0, none⟩) sp.length cc) ∧ V.cell? ⟨hs, k * 4 + 1, none⟩ = some (.int .i64 xa))
    (first | exact ⟨q0, q1, q2, q3, c1⟩ | exact k2)
    (first | (go_at_call 119; refine (HSt.out _ (HH.out.drewN 1).1).mono ?_; rintro e w2 ⟨rfl, ha2, hm2⟩; have H2 := Lib.hid ((HH.out.drewN 1).arena ha2 hm2); have k2 := And.intro (((HH.out.drewN 1).cellL hm2 0).trans q0) (And.intro (((HH.out.drewN 1).cellL hm2 1).trans q1) (And.intro (((HH.out.drewN 1).cellL hm2 2).trans q2) (And.intro (((HH.out.drewN 1).cellL hm2 3).trans q3) (((HH.out.drewN 1).cellS hm2 (k * 4 + 1)).trans c1))))))
  have HM := Lib.hid (show RMs base [gr, hs] w w2 from ((RMs.refl _ _ _).drewN 1).trans (RMs.of_r hm2 (by simp)))
  clear k2 ha2 hm2 q0 q1 q2 q3 c0 c1
  go_wp2_with fail
  go_ret
  exact ⟨rfl, by rw [← HSF.out]; exact H2.out, HM.out⟩
set_option maxRecDepth 100000 in
theorem rstep_none (k : Nat) (hk : k < sp.length) (h : ¬ (sp[k].pc = 1 ∨ sp[k].pc = 2 ∨ sp[k].pc = 11)) : Calls Tryz.prog 89 #[.pointer (some ⟨gL, 0, none⟩), .int .i64 (k : Int)] w fun e w' => e = .returned (.bool false) ∧ w' = w := by
  have hk1 : (k : Int) < (sp.length : Int) := by omega
  have hk2 : (0 : Int) ≤ (k : Int) := by omega
  have hk3 : decide ((k : Int) < 0) = false := decide_eq_false (by omega)
  have hk4 : decide ((sp.length : Int) ≤ (k : Int)) = false := decide_eq_false (by omega)
  obtain ⟨⟨cc, q0, q1, q2, q3⟩, hl32⟩ := H.heads
  obtain ⟨c0, c1, c2, c3, cf⟩ := H.2.1.cells k hk
  have hlt := H.2.1.lt
  have e1 := ibeq_no (show ¬ sp[k].pc = 1 by omega)
  have e2 := ibeq_no (show ¬ sp[k].pc = 2 by omega)
  have e3 := ibeq_no (show ¬ sp[k].pc = 11 by omega)
  generalize sp[k].pc = x at *
  clear H h c1 c2 c3 cf
  go_enter Tryz.func89, Tryz.ntmps89
  go_wp2_with fail
  go_ret
  exact ⟨rfl, by trivial⟩
end
end Go.Proofs.YthffhhgaeolpgaaGreat.Tk

/- The document's lock of layer 16: each act, whole. -/
namespace Go.Proofs.YthffhhgaeolpgaaGreat.Tk
open Go.RowKit Go.Proofs.YthffhhgaeolpgaaGreat.Ara Go.Proofs.YthffhhgaeolpgaaGreat.Lok

def RAft (gL gr base hs : Nat) (P : Par) (r : Bool × Ar × List Sp) (w : World) (e : Ending) (w' : World) : Prop :=
  e = .returned (.bool r.1) ∧ (∃ ρ', Alk r.2.1 ρ' ∧ RLk w' gL gr base hs P ρ' r.2.2) ∧ RMs base [gr, hs] w w'
section
variable (gL gr base hs : Nat) (P : Par) (σ : Ar) (ρ : Rf) (sp : List Sp) (w : World) (H : RLk w gL gr base hs P ρ sp) (hA : Alk σ ρ) (i : Int)
include H hA
theorem rask : Calls Tryz.prog 94 #[.pointer (some ⟨gL, 0, none⟩), .int .i64 i] w (RAft gL gr base hs P (turnB sp i 0, σ, turnS sp i 0 1) w) := by
  by_cases hi : i < 0 ∨ (sp.length : Int) ≤ i
  · refine (rask_out gL gr base hs P ρ sp w H i hi).mono ?_
    rintro e w' ⟨rfl, rfl⟩
    rw [turn_out hi, turnS_out hi]
    exact ⟨rfl, ⟨ρ, hA, H⟩, RMs.refl _ _ _⟩
  · obtain ⟨k, rfl⟩ := Int.eq_ofNat_of_zero_le (show 0 ≤ i by omega)
    have hk : k < sp.length := by omega
    rw [turn_in hk, turnS_in hk]
    by_cases hp : sp[k].pc = 0
    · rw [show (sp[k].pc == 0) = true from by simpa using hp, if_pos hp]
      refine (rask_yes gL gr base hs P ρ sp w H k hk hp _ rfl).mono ?_
      rintro e w' ⟨rfl, h1, h2⟩
      exact ⟨rfl, ⟨ρ, hA, h1⟩, RMs.of_mod (h2.sub (by simp))⟩
    · rw [show (sp[k].pc == 0) = false from by simpa using hp, if_neg hp]
      refine (rask_no gL gr base hs P ρ sp w H k hk hp).mono ?_
      rintro e w' ⟨rfl, rfl⟩
      exact ⟨rfl, ⟨ρ, hA, H⟩, RMs.refl _ _ _⟩
theorem rleave : Calls Tryz.prog 99 #[.pointer (some ⟨gL, 0, none⟩), .int .i64 i] w (RAft gL gr base hs P (turnB sp i 10, σ, turnS sp i 10 11) w) := by
  by_cases hi : i < 0 ∨ (sp.length : Int) ≤ i
  · refine (rleave_out gL gr base hs P ρ sp w H i hi).mono ?_
    rintro e w' ⟨rfl, rfl⟩
    rw [turn_out hi, turnS_out hi]
    exact ⟨rfl, ⟨ρ, hA, H⟩, RMs.refl _ _ _⟩
  · obtain ⟨k, rfl⟩ := Int.eq_ofNat_of_zero_le (show 0 ≤ i by omega)
    have hk : k < sp.length := by omega
    rw [turn_in hk, turnS_in hk]
    by_cases hp : sp[k].pc = 10
    · rw [show (sp[k].pc == 10) = true from by simpa using hp, if_pos hp]
      refine (rleave_yes gL gr base hs P ρ sp w H k hk hp _ rfl).mono ?_
      rintro e w' ⟨rfl, h1, h2⟩
      exact ⟨rfl, ⟨ρ, hA, h1⟩, RMs.of_mod (h2.sub (by simp))⟩
    · rw [show (sp[k].pc == 10) = false from by simpa using hp, if_neg hp]
      refine (rleave_no gL gr base hs P ρ sp w H k hk hp).mono ?_
      rintro e w' ⟨rfl, rfl⟩
      exact ⟨rfl, ⟨ρ, hA, H⟩, RMs.refl _ _ _⟩
end

section
variable (gL gr base hs : Nat) (P : Par) (σ : Ar) (ρ : Rf) (sp : List Sp) (w : World) (H : RLk w gL gr base hs P ρ sp) (hA : Alk σ ρ)
include H hA
theorem ralone (hN : Num P σ sp) (ho : σ.ops < 1000000) (i : Int) : Calls Tryz.prog 103 #[.pointer (some ⟨gL, 0, none⟩), .int .i64 i] w (RAft gL gr base hs P ((aloneP P σ sp i).1, (aloneP P σ sp i).2, sp) w) := by
  have hro : ρ.ops < 1000000 := by have := hA.2.2.2.2.1; omega
  by_cases hi : i < 0 ∨ (sp.length : Int) ≤ i
  · refine (ralone_outr gL gr base hs P ρ sp w H i hi).mono ?_
    rintro e w' ⟨rfl, rfl⟩
    have e : aloneP P σ sp i = (false, σ) := by unfold aloneP; rw [spOf_out hi, if_neg (by decide)]
    rw [e]
    exact ⟨rfl, ⟨ρ, hA, H⟩, RMs.refl _ _ _⟩
  obtain ⟨k, rfl⟩ := Int.eq_ofNat_of_zero_le (show 0 ≤ i by omega)
  have hk : k < sp.length := by omega
  unfold aloneP
  rw [spOf_in hk]
  by_cases hp : sp[k].pc = 10
  · rw [if_pos hp]
    refine (ralone_yes gL gr base hs P ρ sp w H hro k hk hp (hN.2.1 k hk) _ rfl).mono ?_
    rintro e w' ⟨rfl, h1, h2⟩
    rw [hA.get]
    exact ⟨rfl, ⟨_, hA.op 1 _ _ _, h1⟩, h2⟩
  · rw [if_neg hp]
    refine (ralone_no gL gr base hs P ρ sp w H k hk hp).mono ?_
    rintro e w' ⟨rfl, rfl⟩
    exact ⟨rfl, ⟨ρ, hA, H⟩, RMs.refl _ _ _⟩
theorem rstep (hN : Num P σ sp) (ho : σ.ops < 1000000) (i : Int) : Calls Tryz.prog 89 #[.pointer (some ⟨gL, 0, none⟩), .int .i64 i] w (RAft gL gr base hs P (stepP P σ sp i) w) := by
  have hro : ρ.ops < 1000000 := by have := hA.2.2.2.2.1; omega
  by_cases hi : i < 0 ∨ (sp.length : Int) ≤ i
  · refine (rstep_outr gL gr base hs P ρ sp w H i hi).mono ?_
    rintro e w' ⟨rfl, rfl⟩
    have e : stepP P σ sp i = (false, σ, sp) := by unfold stepP; rw [spOf_out hi, if_neg (by decide), if_neg (by decide), if_neg (by decide)]
    rw [e]
    exact ⟨rfl, ⟨ρ, hA, H⟩, RMs.refl _ _ _⟩
  obtain ⟨k, rfl⟩ := Int.eq_ofNat_of_zero_le (show 0 ≤ i by omega)
  have hk : k < sp.length := by omega
  obtain ⟨_, hS, _, hh, g0, g1⟩ := hN
  have hr := hS k hk
  unfold stepP
  rw [spOf_in hk]
  simp only [Int.toNat_natCast, place_eq]
  by_cases h1 : sp[k].pc = 1
  · rw [if_pos h1]
    refine (rstep_in gL gr base hs P ρ sp w H hro (by rw [hA.has]; exact hh) (by rw [hA.get]; exact ⟨g0, g1⟩) k hk h1 _ rfl _ rfl).mono ?_
    rintro e w' ⟨rfl, h1, h2⟩
    rw [hA.get] at h1
    exact ⟨rfl, ⟨_, hA.op 5 _ _ _, h1⟩, h2⟩
  rw [if_neg h1]
  by_cases h2 : sp[k].pc = 2
  · rw [if_pos h2]
    by_cases hc : σ.get (P.next + 1) = sp[k].a
    · have hb : (ρ.get (P.next + 1) == sp[k].a) = true := by rw [hA.get]; simpa using hc
      have hb2 : (σ.get (P.next + 1) == sp[k].a) = true := by simpa using hc
      rw [if_pos hc, hb2]
      refine (rstep_two_yes gL gr base hs P ρ sp w H hro k hk h2 hb _ rfl _ rfl).mono ?_
      rintro e w' ⟨rfl, h1, h2⟩
      exact ⟨rfl, ⟨_, hA.op 1 _ _ _, h1⟩, h2⟩
    · have hb : (ρ.get (P.next + 1) == sp[k].a) = false := by rw [hA.get]; simpa using hc
      have hb2 : (σ.get (P.next + 1) == sp[k].a) = false := by simpa using hc
      rw [if_neg hc, hb2]
      refine (rstep_two_no gL gr base hs P ρ sp w H hro k hk h2 hb _ rfl).mono ?_
      rintro e w' ⟨rfl, h1, h2⟩
      exact ⟨rfl, ⟨_, hA.op 1 _ _ _, h1⟩, h2⟩
  rw [if_neg h2]
  by_cases h3 : sp[k].pc = 11
  · rw [if_pos h3]
    refine (rstep_out gL gr base hs P ρ sp w H hro k hk h3 hr _ rfl _ rfl).mono ?_
    rintro e w' ⟨rfl, h1, h2⟩
    exact ⟨rfl, ⟨_, hA.op 2 _ _ _, h1⟩, h2⟩
  rw [if_neg h3]
  refine (rstep_none gL gr base hs P ρ sp w H k hk (by omega)).mono ?_
  rintro e w' ⟨rfl, rfl⟩
  exact ⟨rfl, ⟨ρ, hA, H⟩, RMs.refl _ _ _⟩
end
end Go.Proofs.YthffhhgaeolpgaaGreat.Tk

/- Package parted, as Lean has it: no two slots hold at once. -/
namespace Go.Proofs.YthffhhgaeolpgaaGreat.Pt
open Go.RowKit Go.Proofs.YthffhhgaeolpgaaGreat.Ara Go.Proofs.YthffhhgaeolpgaaGreat.Lok

structure Par where
  next : Int
  parts : Int
def place (P : Par) (t : Int) : Int := P.next + 1 + t % P.parts
def stepP (P : Par) (σ : Ar) (sp : List Sp) (i : Int) : Bool × Ar × List Sp :=
  if (spOf sp i).pc = 1 then (false, σ.op 5 P.next true (σ.get P.next + 1), sp.set i.toNat { spOf sp i with pc := 2, a := σ.get P.next })
  else if (spOf sp i).pc = 2 then (σ.get (place P (spOf sp i).a) == (spOf sp i).a + 1, σ.op 1 (place P (spOf sp i).a) false 0, if σ.get (place P (spOf sp i).a) = (spOf sp i).a + 1 then sp.set i.toNat { spOf sp i with pc := 10 } else sp)
  else if (spOf sp i).pc = 11 then (true, σ.op 2 (place P ((spOf sp i).a + 1)) true ((spOf sp i).a + 2), sp.set i.toNat { spOf sp i with pc := 0 })
  else (false, σ, sp)
def aloneP (P : Par) (σ : Ar) (sp : List Sp) (i : Int) : Bool × Ar :=
  if (spOf sp i).pc = 10 then (σ.get P.next == (spOf sp i).a + 1, σ.op 1 P.next false 0) else (false, σ)
def doP (P : Par) (σ : Ar) (sp : List Sp) (kd i : Int) : Bool × Ar × List Sp :=
  if kd = 0 then stepP P σ sp i else if kd = 1 then (turnB sp i 0, σ, turnS sp i 0 1) else if kd = 2 then (turnB sp i 10, σ, turnS sp i 10 11)
  else if kd = 3 then ((aloneP P σ sp i).1, (aloneP P σ sp i).2, sp) else (false, σ, sp)

def inq (s : Sp) : Prop := s.pc = 2 ∨ s.pc = 10 ∨ s.pc = 11
structure Inv (P : Par) (σ : Ar) (sp : List Sp) (S T : Nat) : Prop where
  hl : σ.t ≤ σ.ws.length
  p1 : 1 ≤ P.parts
  p2 : P.parts ≤ 32
  n1 : 1 ≤ P.next
  n2 : P.next + P.parts ≤ σ.t
  gT : σ.get P.next = T
  le : S ≤ T
  srv : σ.get (place P S) = S + 1
  low : ∀ x : Int, 0 ≤ x → x < P.parts → σ.get (P.next + 1 + x) ≤ S + 1
  pcs : ∀ i, (spOf sp i).pc = 0 ∨ (spOf sp i).pc = 1 ∨ inq (spOf sp i)
  tick : ∀ i, inq (spOf sp i) → (S : Int) ≤ (spOf sp i).a ∧ (spOf sp i).a < T
  hold : ∀ i, (spOf sp i).pc = 10 ∨ (spOf sp i).pc = 11 → (spOf sp i).a = S
  inj : ∀ i j, inq (spOf sp i) → inq (spOf sp j) → (spOf sp i).a = (spOf sp j).a → i = j
  all : ∀ t : Int, S ≤ t → t < T → ∃ i, inq (spOf sp i) ∧ (spOf sp i).a = t
  rng : ∀ i, 0 ≤ (spOf sp i).a ∧ (spOf sp i).a ≤ T
theorem place_in {P : Par} (h : 1 ≤ P.parts) (t : Int) : ∃ x, 0 ≤ x ∧ x < P.parts ∧ place P t = P.next + 1 + x :=
  ⟨t % P.parts, Int.emod_nonneg _ (by omega), Int.emod_lt_of_pos _ (by omega), rfl⟩
theorem Inv.has {P : Par} {σ : Ar} {sp : List Sp} {S T : Nat} (h : Inv P σ sp S T) (t : Int) : σ.has (place P t) = true := by
  obtain ⟨x, x0, x1, e⟩ := place_in h.p1 t
  rw [e]
  have := h.n1
  have := h.n2
  simp [Ar.has]
  omega
theorem Inv.hasN {P : Par} {σ : Ar} {sp : List Sp} {S T : Nat} (h : Inv P σ sp S T) : σ.has P.next = true := by
  have := h.n1
  have := h.n2
  have := h.p1
  simp [Ar.has]
  omega
theorem Inv.read {P : Par} {σ : Ar} {sp : List Sp} {S T : Nat} (h : Inv P σ sp S T) (p v : Int) : Inv P (σ.op 1 p false v) sp S T := by
  refine { h with hl := ?_, n2 := ?_, gT := ?_, srv := ?_, low := ?_ }
  · rw [op_t, op_len]; exact h.hl
  · rw [op_t]; exact h.n2
  · rw [get_read σ h.hl]; exact h.gT
  · rw [get_read σ h.hl]; exact h.srv
  · intro x h0 h1
    rw [get_read σ h.hl]
    exact h.low x h0 h1
theorem Inv.idle {P : Par} {σ : Ar} {sp sp' : List Sp} {S T : Nat} (h : Inv P σ sp S T) (i : Int) (s' : Sp) (hs : ∀ j, spOf sp' j = if j = i then s' else spOf sp j) (h0 : ¬ inq (spOf sp i)) (h1 : s'.pc = 0 ∨ s'.pc = 1) (ha : s'.a = (spOf sp i).a) : Inv P σ sp' S T := by
  have h2 : ¬ inq s' := by unfold inq; omega
  refine { h with pcs := fun j => ?_, tick := fun j hj => ?_, hold := fun j hj => ?_, inj := fun j k hj hk e => ?_, all := fun t t0 t1 => ?_, rng := fun j => ?r }
  case r =>
    rw [hs]; split
    · rw [ha]; exact h.rng i
    · exact h.rng j
  · rw [hs]; split
    · omega
    · exact h.pcs j
  · rw [hs] at hj ⊢; split at hj
    · exact absurd hj h2
    · rename_i e; rw [if_neg e]; exact h.tick j hj
  · rw [hs] at hj ⊢; split at hj
    · omega
    · rename_i e; rw [if_neg e]; exact h.hold j hj
  · rw [hs] at hj hk e; rw [hs k] at e
    split at hj
    · exact absurd hj h2
    · split at hk
      · exact absurd hk h2
      · rename_i e1 e2
        rw [if_neg e1, if_neg e2] at e
        exact h.inj j k hj hk e
  · obtain ⟨k, k1, k2⟩ := h.all t t0 t1
    refine ⟨k, ?_⟩
    have : k ≠ i := fun e => h0 (e ▸ k1)
    rw [hs, if_neg this]
    exact ⟨k1, k2⟩
theorem Inv.keeps {P : Par} {σ : Ar} {sp sp' : List Sp} {S T : Nat} (h : Inv P σ sp S T) (i : Int) (s' : Sp) (hs : ∀ j, spOf sp' j = if j = i then s' else spOf sp j) (h0 : inq (spOf sp i)) (h1 : s'.pc = 10 ∨ s'.pc = 11) (ha : s'.a = (spOf sp i).a) (hS : s'.a = S) : Inv P σ sp' S T := by
  have h2 : inq s' := by unfold inq; omega
  have hh : ∀ j, inq (spOf sp' j) ↔ inq (spOf sp j) := by
    intro j; rw [hs]; split
    · rename_i e; subst e; exact ⟨fun _ => h0, fun _ => h2⟩
    · exact Iff.rfl
  have hA : ∀ j, (spOf sp' j).a = (spOf sp j).a := by
    intro j; rw [hs]; split
    · rename_i e; subst e; exact ha
    · rfl
  refine { h with pcs := fun j => ?_, tick := fun j hj => ?_, hold := fun j hj => ?_, inj := fun j k hj hk e => ?_, all := fun t t0 t1 => ?_, rng := fun j => ?r }
  case r => rw [hA]; exact h.rng j
  · rw [hs]; split
    · exact .inr (.inr h2)
    · exact h.pcs j
  · rw [hA]; exact h.tick j ((hh j).1 hj)
  · rw [hs] at hj ⊢; split at hj
    · rename_i e; rw [if_pos e]; exact hS
    · rename_i e; rw [if_neg e]; exact h.hold j hj
  · rw [hA, hA] at e; exact h.inj j k ((hh j).1 hj) ((hh k).1 hk) e
  · obtain ⟨k, k1, k2⟩ := h.all t t0 t1
    exact ⟨k, (hh k).2 k1, by rw [hA]; exact k2⟩
theorem Inv.takes {P : Par} {σ : Ar} {sp sp' : List Sp} {S T : Nat} (h : Inv P σ sp S T) (i : Int) (s' : Sp) (hs : ∀ j, spOf sp' j = if j = i then s' else spOf sp j) (h0 : ¬ inq (spOf sp i)) (h1 : s'.pc = 2) (ha : s'.a = T) : Inv P (σ.op 5 P.next true (T + 1)) sp' S (T + 1) := by
  have hg := fun q => get_op σ h.hl 5 P.next ((T : Int) + 1) true q
  simp only [h.hasN, true_and] at hg
  have h2 : inq s' := .inl h1
  refine { p1 := h.p1, p2 := h.p2, n1 := h.n1, le := by have := h.le; omega, hl := ?_, n2 := ?_, gT := ?_, srv := ?_, low := ?_, pcs := fun j => ?_, tick := fun j hj => ?_, hold := fun j hj => ?_, inj := fun j k hj hk e => ?_, all := fun t t0 t1 => ?_, rng := fun j => ?r }
  case r =>
    have hr := h.rng j
    rw [hs]; split
    · rw [ha]; have := h.rng i; omega
    · omega
  · rw [op_t, op_len]; exact h.hl
  · rw [op_t]; exact h.n2
  · rw [hg, if_pos rfl]; simp
  · obtain ⟨x, x0, x1, e⟩ := place_in h.p1 S
    have := h.srv
    rw [hg, if_neg (by rw [e]; omega)]
    exact this
  · intro x x0 x1
    rw [hg, if_neg (by omega)]
    exact h.low x x0 x1
  · rw [hs]; split
    · exact .inr (.inr h2)
    · exact h.pcs j
  · rw [hs] at hj ⊢; split at hj
    · rename_i e; rw [if_pos e, ha]; have := h.le; omega
    · rename_i e; rw [if_neg e]; have := h.tick j hj; omega
  · rw [hs] at hj ⊢; split at hj
    · omega
    · rename_i e; rw [if_neg e]; exact h.hold j hj
  · rw [hs] at hj hk e; rw [hs k] at e
    split at hj
    · split at hk
      · omega
      · rename_i e1 e2
        rw [if_pos e1, if_neg e2, ha] at e
        have := h.tick k hk
        omega
    · split at hk
      · rename_i e1 e2
        rw [if_neg e1, if_pos e2, ha] at e
        have := h.tick j hj
        omega
      · rename_i e1 e2
        rw [if_neg e1, if_neg e2] at e
        exact h.inj j k hj hk e
  · by_cases e : t = T
    · exact ⟨i, by rw [hs, if_pos rfl]; exact ⟨h2, by rw [ha, e]⟩⟩
    · obtain ⟨k, k1, k2⟩ := h.all t t0 (by omega)
      refine ⟨k, ?_⟩
      have : k ≠ i := fun e => h0 (e ▸ k1)
      rw [hs, if_neg this]
      exact ⟨k1, k2⟩
theorem Inv.passes {P : Par} {σ : Ar} {sp sp' : List Sp} {S T : Nat} (h : Inv P σ sp S T) (i : Int) (s' : Sp) (hs : ∀ j, spOf sp' j = if j = i then s' else spOf sp j) (h0 : (spOf sp i).pc = 10 ∨ (spOf sp i).pc = 11) (h1 : s'.pc = 0) (ha : s'.a = (spOf sp i).a) : Inv P (σ.op 2 (place P ((S : Int) + 1)) true (S + 2)) sp' (S + 1) T := by
  have hg := fun q => get_op σ h.hl 2 (place P ((S : Int) + 1)) ((S : Int) + 2) true q
  simp only [h.has, true_and] at hg
  have hq : inq (spOf sp i) := .inr h0
  have hS := h.hold i h0
  have hT := h.tick i hq
  have h2 : ¬ inq s' := by unfold inq; omega
  obtain ⟨y, y0, y1, ey⟩ := place_in h.p1 ((S : Int) + 1)
  refine { p1 := h.p1, p2 := h.p2, n1 := h.n1, le := by omega, hl := ?_, n2 := ?_, gT := ?_, srv := ?_, low := ?_, pcs := fun j => ?_, tick := fun j hj => ?_, hold := fun j hj => ?_, inj := fun j k hj hk e => ?_, all := fun t t0 t1 => ?_, rng := fun j => ?r }
  case r =>
    have hr := h.rng j
    rw [hs]; split
    · rw [ha]; have := h.rng i; omega
    · omega
  · rw [op_t, op_len]; exact h.hl
  · rw [op_t]; exact h.n2
  · rw [hg, if_neg (by rw [ey]; omega)]; exact h.gT
  · rw [hg, if_pos (by simp)]; simp; omega
  · intro x x0 x1
    rw [hg]
    have := h.low x x0 x1
    split <;> omega
  · rw [hs]; split
    · exact .inl h1
    · exact h.pcs j
  · rw [hs] at hj ⊢; split at hj
    · exact absurd hj h2
    · rename_i e
      rw [if_neg e]
      have h3 := h.tick j hj
      have h4 : (spOf sp j).a ≠ (spOf sp i).a := fun e' => e (h.inj j i hj hq e')
      omega
  · rw [hs] at hj ⊢; split at hj
    · omega
    · rename_i e
      exact absurd (h.inj j i (.inr hj) hq (by rw [h.hold j hj, hS])) e
  · rw [hs] at hj hk e; rw [hs k] at e
    split at hj
    · exact absurd hj h2
    · split at hk
      · exact absurd hk h2
      · rename_i e1 e2
        rw [if_neg e1, if_neg e2] at e
        exact h.inj j k hj hk e
  · obtain ⟨k, k1, k2⟩ := h.all t (by omega) t1
    refine ⟨k, ?_⟩
    have : k ≠ i := fun e => by subst e; omega
    rw [hs, if_neg this]
    exact ⟨k1, k2⟩
theorem Inv.served {P : Par} {σ : Ar} {sp : List Sp} {S T : Nat} (h : Inv P σ sp S T) (i : Int) (h0 : inq (spOf sp i)) (h1 : σ.get (place P (spOf sp i).a) = (spOf sp i).a + 1) : (spOf sp i).a = S := by
  obtain ⟨x, x0, x1, e⟩ := place_in h.p1 (spOf sp i).a
  have := h.low x x0 x1
  rw [e] at h1
  have := h.tick i h0
  omega
theorem step_inv {P : Par} {σ : Ar} {sp : List Sp} {S T : Nat} (h : Inv P σ sp S T) (i : Int) : ∃ S' T', T' ≤ T + 1 ∧ Inv P (stepP P σ sp i).2.1 (stepP P σ sp i).2.2 S' T' := by
  unfold stepP
  by_cases h1 : (spOf sp i).pc = 1
  · rw [if_pos h1]
    obtain ⟨i0, i1⟩ := spOf_range (sp := sp) (i := i) (by omega)
    refine ⟨S, T + 1, Nat.le_refl _, ?_⟩
    have := h.takes i _ (spOf_set i0 i1 { spOf sp i with pc := 2, a := σ.get P.next }) (by unfold inq; omega) rfl h.gT
    rw [← h.gT] at this
    exact this
  rw [if_neg h1]
  by_cases h2 : (spOf sp i).pc = 2
  · rw [if_pos h2]
    obtain ⟨i0, i1⟩ := spOf_range (sp := sp) (i := i) (by omega)
    refine ⟨S, T, Nat.le_succ _, ?_⟩
    by_cases h3 : σ.get (place P (spOf sp i).a) = (spOf sp i).a + 1
    · simp only [h3, if_true]
      exact (h.keeps i _ (spOf_set i0 i1 { spOf sp i with pc := 10 }) (.inl h2) (.inl rfl) rfl (h.served i (.inl h2) h3)).read _ _
    · simp only [h3, if_false]
      exact h.read _ _
  rw [if_neg h2]
  by_cases h3 : (spOf sp i).pc = 11
  · rw [if_pos h3]
    obtain ⟨i0, i1⟩ := spOf_range (sp := sp) (i := i) (by omega)
    refine ⟨S + 1, T, Nat.le_succ _, ?_⟩
    have := h.passes i _ (spOf_set i0 i1 { spOf sp i with pc := 0 }) (.inr h3) rfl rfl
    have e := h.hold i (.inr h3)
    rw [← e] at this
    exact this
  rw [if_neg h3]
  exact ⟨S, T, Nat.le_succ _, h⟩
theorem do_inv {P : Par} {σ : Ar} {sp : List Sp} {S T : Nat} (h : Inv P σ sp S T) (kd i : Int) : ∃ S' T', T' ≤ T + 1 ∧ Inv P (doP P σ sp kd i).2.1 (doP P σ sp kd i).2.2 S' T' := by
  unfold doP
  split
  · exact step_inv h i
  split
  · refine ⟨S, T, Nat.le_succ _, ?_⟩
    cases ht : turnB sp i 0
    · simp only [turn_no 1 ht]; exact h
    · have hp := (turn_true ht).2
      exact h.idle i _ (spOf_turn 1 ht) (by unfold inq; omega) (.inr rfl) rfl
  split
  · refine ⟨S, T, Nat.le_succ _, ?_⟩
    cases ht : turnB sp i 10
    · simp only [turn_no 11 ht]; exact h
    · have hp := (turn_true ht).2
      exact h.keeps i _ (spOf_turn 11 ht) (.inr (.inl hp)) (.inr rfl) rfl (h.hold i (.inl hp))
  split
  · refine ⟨S, T, Nat.le_succ _, ?_⟩
    unfold aloneP
    split
    · exact h.read _ _
    · exact h
  · exact ⟨S, T, Nat.le_succ _, h⟩
theorem Inv.one {P : Par} {σ : Ar} {sp : List Sp} {S T : Nat} (h : Inv P σ sp S T) (n : Nat) : cnt (fun s => s.pc == 10) sp n ≤ 1 := by
  refine cnt_one _ _ (fun i j hi hj => ?_) n
  simp only [beq_iff_eq] at hi hj
  exact h.inj i j (.inr (.inl hi)) (.inr (.inl hj)) (by rw [h.hold i (.inl hi), h.hold j (.inl hj)])
theorem Inv.behind {P : Par} {σ : Ar} {sp : List Sp} {S T : Nat} (h : Inv P σ sp S T) (i : Int) (hp : (spOf sp i).pc = 10) (ha : (aloneP P σ sp i).1 = false) : 0 < cnt (fun s => decide (0 < s.pc) && decide (s.pc < 10)) sp sp.length := by
  unfold aloneP at ha
  rw [if_pos hp, h.gT, h.hold i (.inl hp)] at ha
  simp at ha
  have hT := h.tick i (.inr (.inl hp))
  have hS := h.hold i (.inl hp)
  obtain ⟨k, k1, k2⟩ := h.all (S + 1) (by omega) (by omega)
  have h3 : (spOf sp k).pc = 2 := by
    rcases k1 with k1 | k1
    · exact k1
    · have := h.hold k k1
      omega
  obtain ⟨r0, r1⟩ := spOf_range (sp := sp) (i := k) (by omega)
  exact cnt_some _ _ k (by rw [h3]; rfl) r0 _ r1
theorem zero_get (n t : Nat) (o k p : Int) (ops : Nat) (wr : Bool) (q : Int) : (⟨zerosW n, t, ops, k, p, wr⟩ : Ar).get q = 0 := by
  unfold Ar.get
  split
  · simp [zerosW, List.getD_eq_getElem?_getD, List.getElem?_replicate]
    split <;> rfl
  · rfl
theorem zero_spot (n : Nat) (i : Int) : spOf (List.replicate n sp0) i = sp0 := by
  unfold spOf
  split
  · simp [List.getD_eq_getElem?_getD, List.getElem?_replicate]
    split <;> rfl
  · rfl
theorem inv_start (parts : Int) (p1 : 1 ≤ parts) (p2 : parts ≤ 32) (n : Nat) : Inv ⟨1, parts⟩ ((⟨zerosW 100, (1 + parts).toNat, 0, 0, 0, false⟩ : Ar).op 2 (place ⟨1, parts⟩ 0) true 1) (List.replicate n sp0) 0 0 := by
  have hh : (⟨zerosW 100, (1 + parts).toNat, 0, 0, 0, false⟩ : Ar).has (place ⟨1, parts⟩ 0) = true := by
    obtain ⟨x, x0, x1, e⟩ := place_in (P := ⟨1, parts⟩) p1 0
    rw [e]
    simp only at x1
    simp [Ar.has]
    omega
  have hg := fun q => get_op (⟨zerosW 100, (1 + parts).toNat, 0, 0, 0, false⟩ : Ar) (by simp [zerosW]; omega) 2 (place ⟨1, parts⟩ 0) 1 true q
  simp only [hh, true_and, zero_get 100 (1 + parts).toNat 0 0 0 0 false] at hg
  have hs := zero_spot n
  have hq : ∀ i, ¬ inq (spOf (List.replicate n sp0) i) := by
    intro i; rw [hs]; unfold inq sp0; simp
  refine { p1 := p1, p2 := p2, n1 := Int.le_refl _, le := Nat.le_refl _, hl := ?_, n2 := ?_, gT := ?_, srv := ?_, low := ?_, pcs := fun i => ?_, tick := fun i hi => absurd hi (hq i), hold := fun i hi => absurd (Or.inr hi) (hq i), inj := fun i j hi => absurd hi (hq i), all := fun t t0 t1 => ?_, rng := fun i => ?_ }
  · rw [op_t, op_len]; simp [zerosW]; omega
  · rw [op_t]; show 1 + parts ≤ _; simp; omega
  · rw [hg]
    obtain ⟨x, x0, x1, e⟩ := place_in (P := ⟨1, parts⟩) p1 0
    rw [if_neg (by rw [e]; show ¬ (1 : Int) = 1 + 1 + x; omega)]
    rfl
  · rw [hg, if_pos (show place ⟨1, parts⟩ ((0 : Nat) : Int) = place ⟨1, parts⟩ 0 from rfl)]; rfl
  · intro x x0 x1
    rw [hg]
    split <;> simp
  · left; rw [hs]; rfl
  · omega
  · rw [hs]; exact ⟨Int.le_refl _, Int.le_refl _⟩
end Go.Proofs.YthffhhgaeolpgaaGreat.Pt

