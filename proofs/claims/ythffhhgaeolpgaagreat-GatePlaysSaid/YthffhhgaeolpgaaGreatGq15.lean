/- Merged texts: Rmc. -/
import Derived.Test.YthffhhgaeolpgaaGreatGq14
set_option linter.unusedVariables false
/- The document's lock of layer 18, in memory: what its methods do. -/
namespace Go.Proofs.YthffhhgaeolpgaaGreat.Mc
open Go.RowKit Go.Proofs.YthffhhgaeolpgaaGreat.Ara Go.Proofs.YthffhhgaeolpgaaGreat.Lok

def RLk (W : World) (gL gr base hs : Nat) (P : Par) (ρ : Rf) (sp : List Sp) : Prop :=
  RfAt W gr base ρ ∧ SpAt W hs sp ∧ sp.length ≤ 32 ∧ (∃ c : Nat, W.heap[gL]? = some (.cells #[.pointer (some ⟨gr, 0, none⟩), .int .i64 P.tail, .slice (some ⟨hs, 0, none⟩) sp.length c] 146 (0, 0))) ∧ gL ≠ gr ∧ gL ≠ hs ∧ hs ≠ gr
theorem RLk.rms {base : Nat} {S : List Nat} {W W' : World} {gL gr hs : Nat} {P : Par} {ρ ρ' : Rf} {sp : List Sp} (k : RLk W gL gr base hs P ρ sp) (hr : RfAt W' gr base ρ') (hm : RMs base S W W') (h1 : gL ∉ S) (h2 : hs ∉ S) : RLk W' gL gr base hs P ρ' sp := by
  obtain ⟨_, k2, k3, ⟨c, k4⟩, k5⟩ := k
  exact ⟨hr, k2.rms hm h2, k3, ⟨c, (hm.blk k4 (by decide) h1).trans k4⟩, k5⟩
theorem RLk.mod {base : Nat} {S : List Nat} {W W' : World} {gL gr hs : Nat} {P : Par} {ρ : Rf} {sp : List Sp} (k : RLk W gL gr base hs P ρ sp) (hm : Mod S W W') (h : ∀ x ∈ S, x ≠ gr ∧ ¬ IntRow W x) (h1 : gL ∉ S) (h2 : hs ∉ S) : RLk W' gL gr base hs P ρ sp := by
  obtain ⟨k1, k2, k3, ⟨c, k4⟩, k5⟩ := k
  exact ⟨rf_mod k1 hm h, k2.mod hm h2, k3, ⟨c, hm.blk k4 h1⟩, k5⟩
theorem RLk.same {base : Nat} {W W' : World} {gL gr hs : Nat} {P : Par} {ρ : Rf} {sp : List Sp} (k : RLk W gL gr base hs P ρ sp) (hb : Below W.heap.size W W') : RLk W' gL gr base hs P ρ sp := k.mod (S := []) (Mod.of_below hb) (by simp) (by simp) (by simp)
theorem RLk.drewN {base : Nat} {W : World} {gL gr hs : Nat} {P : Par} {ρ : Rf} {sp : List Sp} (k : RLk W gL gr base hs P ρ sp) (n : Nat) : RLk (W.drewN n) gL gr base hs P ρ sp := k
theorem RLk.drew {base : Nat} {W : World} {gL gr hs : Nat} {P : Par} {ρ : Rf} {sp : List Sp} (k : RLk W gL gr base hs P ρ sp) : RLk W.drew gL gr base hs P ρ sp := k
theorem RLk.arena {base : Nat} {W W' : World} {gL gr hs : Nat} {P : Par} {ρ ρ' : Rf} {sp : List Sp} (k : RLk W gL gr base hs P ρ sp) (hr : RfAt W' gr base ρ') (hm : RMod base gr W W') : RLk W' gL gr base hs P ρ' sp := by
  obtain ⟨d1, d2, d3⟩ := k.2.2.2.2
  exact k.rms (S := [gr]) hr (RMs.of_r hm (by simp)) (by simp; omega) (by simp; omega)
theorem RLk.cellL {base : Nat} {W W' : World} {gL gr hs : Nat} {P : Par} {ρ : Rf} {sp : List Sp} (k : RLk W gL gr base hs P ρ sp) (hm : RMod base gr W W') (j : Nat) : W'.cell? ⟨gL, j, none⟩ = W.cell? ⟨gL, j, none⟩ := by
  obtain ⟨d1, d2, d3⟩ := k.2.2.2.2
  obtain ⟨_, _, _, ⟨c, k4⟩, _⟩ := k
  have := (RMs.of_r (S := [gr]) hm (by simp)).blk k4 (by decide) (by simp; omega)
  unfold World.cell?
  rw [this]
theorem RLk.cellS {base : Nat} {W W' : World} {gL gr hs : Nat} {P : Par} {ρ : Rf} {sp : List Sp} (k : RLk W gL gr base hs P ρ sp) (hm : RMod base gr W W') (j : Nat) : W'.cell? ⟨hs, j, none⟩ = W.cell? ⟨hs, j, none⟩ := by
  obtain ⟨d1, d2, d3⟩ := k.2.2.2.2
  obtain ⟨cur, k4, _⟩ := k.2.1
  have := (RMs.of_r (S := [gr]) hm (by simp)).blk k4 (by decide) (by simp; omega)
  unfold World.cell?
  rw [this]
theorem RLk.put {base : Nat} {W : World} {gL gr hs : Nat} {P : Par} {ρ : Rf} {sp : List Sp} (k : RLk W gL gr base hs P ρ sp) (i : Nat) (hi : i < sp.length) (j : Nat) (hj : j < 4) (v : Value) (s' : Sp) (hv : decSp s' = (decSp sp[i]).set j v) : RLk (W.setCell ⟨hs, i * 4 + j, none⟩ v) gL gr base hs P ρ (sp.set i s') := by
  have hm : Mod [hs] W (W.setCell ⟨hs, i * 4 + j, none⟩ v) := (Mod.refl _ _).setCell (by simp) _
  obtain ⟨k1, k2, k3, ⟨c, k4⟩, d1, d2, d3⟩ := k
  refine ⟨rf_mod k1 hm (fun x hx => ?_), k2.set i hi j hj v s' hv, by rw [List.length_set]; exact k3, ⟨c, ?_⟩, d1, d2, d3⟩
  · obtain rfl : x = hs := by simpa using hx
    exact ⟨d3, spot_not_int k2⟩
  · rw [List.length_set]
    exact hm.blk k4 (by simp; omega)
theorem RLk.heads {base : Nat} {W : World} {gL gr hs : Nat} {P : Par} {ρ : Rf} {sp : List Sp} (k : RLk W gL gr base hs P ρ sp) : (∃ c : Nat, W.cell? ⟨gL, 0, none⟩ = some (.pointer (some ⟨gr, 0, none⟩)) ∧ W.cell? ⟨gL, 1, none⟩ = some (.int .i64 P.tail) ∧ W.cell? ⟨gL, 2, none⟩ = some (.slice (some ⟨hs, 0, none⟩) sp.length c)) ∧ sp.length ≤ 32 := by
  obtain ⟨_, _, k3, ⟨c, k4⟩, _⟩ := k
  exact ⟨⟨c, blk_cell k4 0 (by simp), blk_cell k4 1 (by simp), blk_cell k4 2 (by simp)⟩, k3⟩
theorem RLk.sets {base : Nat} {W : World} {gL gr hs : Nat} {P : Par} {ρ : Rf} {sp : List Sp} {i : Nat} {s : Sp} (k : RLk W gL gr base hs P ρ (sp.set i s)) (hi : i < sp.length) : (∃ c : Nat, W.cell? ⟨gL, 0, none⟩ = some (.pointer (some ⟨gr, 0, none⟩)) ∧ W.cell? ⟨gL, 1, none⟩ = some (.int .i64 P.tail) ∧ W.cell? ⟨gL, 2, none⟩ = some (.slice (some ⟨hs, 0, none⟩) sp.length c)) ∧ W.cell? ⟨hs, i * 4, none⟩ = some (.int .i64 s.pc) ∧ W.cell? ⟨hs, i * 4 + 1, none⟩ = some (.int .i64 s.a) ∧ W.cell? ⟨hs, i * 4 + 2, none⟩ = some (.int .i64 s.b) ∧ ∀ j, W.frozen? ⟨hs, j, none⟩ = false := by
  obtain ⟨h1, _⟩ := k.heads
  rw [List.length_set] at h1
  obtain ⟨c0, c1, c2, c3, cf⟩ := k.2.1.cells i (by rw [List.length_set]; exact hi)
  rw [List.getElem_set_self] at c0 c1 c2
  exact ⟨h1, c0, c1, c2, cf⟩
theorem RLk.put2 {base : Nat} {W : World} {gL gr hs : Nat} {P : Par} {ρ : Rf} {sp : List Sp} {i : Nat} {s : Sp} (k : RLk W gL gr base hs P ρ (sp.set i s)) (hi : i < sp.length) (j : Nat) (hj : j < 4) (v : Value) (s' : Sp) (hv : decSp s' = (decSp s).set j v) : RLk (W.setCell ⟨hs, i * 4 + j, none⟩ v) gL gr base hs P ρ (sp.set i s') := by
  have := k.put i (by rw [List.length_set]; exact hi) j hj v s' (by rw [List.getElem_set_self]; exact hv)
  rw [List.set_set] at this
  exact this
theorem RLk.self {base : Nat} {W : World} {gL gr hs : Nat} {P : Par} {ρ : Rf} {sp : List Sp} {i : Nat} (k : RLk W gL gr base hs P ρ sp) (hi : i < sp.length) : RLk W gL gr base hs P ρ (sp.set i sp[i]) := by
  rw [List.set_getElem_self]
  exact k
section
variable (gL gr base hs : Nat) (P : Par) (ρ : Rf) (sp : List Sp) (w : World) (H : RLk w gL gr base hs P ρ sp)
include H
end

section
variable (gL gr base hs : Nat) (P : Par) (ρ : Rf) (sp : List Sp) (w : World) (H : RLk w gL gr base hs P ρ sp)
include H
set_option maxRecDepth 100000 in
theorem rask_out (i : Int) (hi : i < 0 ∨ (sp.length : Int) ≤ i) : Calls Tryz.prog 96 #[.pointer (some ⟨gL, 0, none⟩), .int .i64 i] w fun e w' => e = .returned (.bool false) ∧ w' = w := by
  · obtain ⟨⟨cc, q0, q1, q2⟩, hl32⟩ := H.heads
    clear H
    by_cases h0 : i < 0
    · go_enter Tryz.func96, Tryz.ntmps96
      go_wp2_with fail
      go_ret
      exact ⟨rfl, by trivial⟩
    · have h1 : (sp.length : Int) ≤ i := by omega
      have h2 : decide (i < 0) = false := decide_eq_false h0
      go_enter Tryz.func96, Tryz.ntmps96
      go_wp2_with fail
      go_ret
      exact ⟨rfl, by trivial⟩
set_option maxRecDepth 100000 in
theorem rask_no (k : Nat) (hk : k < sp.length) (hp : ¬ sp[k].pc = 0) : Calls Tryz.prog 96 #[.pointer (some ⟨gL, 0, none⟩), .int .i64 (k : Int)] w fun e w' => e = .returned (.bool false) ∧ w' = w := by
  have hk1 : (k : Int) < (sp.length : Int) := by omega
  have hk2 : (0 : Int) ≤ (k : Int) := by omega
  have hk3 : decide ((k : Int) < 0) = false := decide_eq_false (by omega)
  have hk4 : decide ((sp.length : Int) ≤ (k : Int)) = false := decide_eq_false (by omega)
  obtain ⟨⟨cc, q0, q1, q2⟩, hl32⟩ := H.heads
  obtain ⟨c0, c1, c2, c3, cf⟩ := H.2.1.cells k hk
  have hlt := H.2.1.lt
  have e1 := ibne hp
  generalize sp[k].pc = x at *
  clear H hp c1 c2 c3 cf
  go_enter Tryz.func96, Tryz.ntmps96
  go_wp2_with fail
  go_ret
  exact ⟨rfl, by trivial⟩
set_option maxRecDepth 100000 in
theorem rask_yes (k : Nat) (hk : k < sp.length) (hp : sp[k].pc = 0) (sp2 : List Sp) (h2 : sp2 = sp.set k { sp[k] with pc := 1 }) : Calls Tryz.prog 96 #[.pointer (some ⟨gL, 0, none⟩), .int .i64 (k : Int)] w fun e w' => e = .returned (.bool true) ∧ RLk w' gL gr base hs P ρ sp2 ∧ Mod [hs] w w' := by
  have hk1 : (k : Int) < (sp.length : Int) := by omega
  have hk2 : (0 : Int) ≤ (k : Int) := by omega
  have hk3 : decide ((k : Int) < 0) = false := decide_eq_false (by omega)
  have hk4 : decide ((sp.length : Int) ≤ (k : Int)) = false := decide_eq_false (by omega)
  obtain ⟨⟨cc, q0, q1, q2⟩, hl32⟩ := H.heads
  obtain ⟨c0, c1, c2, c3, cf⟩ := H.2.1.cells k hk
  have hlt := H.2.1.lt
  have u1 := H.put k hk 0 (by omega) (.int .i64 1) { sp[k] with pc := 1 } rfl
  rw [← h2] at u1
  have HU := Lib.hid u1
  rw [hp] at c0
  have f0 := cf (k * 4)
  have HMM := Lib.hid (show Mod [hs] w (w.setCell ⟨hs, k * 4, none⟩ (.int .i64 1)) from (Mod.refl _ _).setCell (by simp) _)
  have HP := Lib.hid hp
  clear u1 h2 H hp c1 c2 c3 cf
  go_enter Tryz.func96, Tryz.ntmps96
  go_wp2_with fail
  go_ret
  exact ⟨rfl, HU.out, HMM.out⟩
set_option maxRecDepth 100000 in
theorem rleave_out (i : Int) (hi : i < 0 ∨ (sp.length : Int) ≤ i) : Calls Tryz.prog 101 #[.pointer (some ⟨gL, 0, none⟩), .int .i64 i] w fun e w' => e = .returned (.bool false) ∧ w' = w := by
  · obtain ⟨⟨cc, q0, q1, q2⟩, hl32⟩ := H.heads
    clear H
    by_cases h0 : i < 0
    · go_enter Tryz.func101, Tryz.ntmps101
      go_wp2_with fail
      go_ret
      exact ⟨rfl, by trivial⟩
    · have h1 : (sp.length : Int) ≤ i := by omega
      have h2 : decide (i < 0) = false := decide_eq_false h0
      go_enter Tryz.func101, Tryz.ntmps101
      go_wp2_with fail
      go_ret
      exact ⟨rfl, by trivial⟩
set_option maxRecDepth 100000 in
theorem rleave_no (k : Nat) (hk : k < sp.length) (hp : ¬ sp[k].pc = 10) : Calls Tryz.prog 101 #[.pointer (some ⟨gL, 0, none⟩), .int .i64 (k : Int)] w fun e w' => e = .returned (.bool false) ∧ w' = w := by
  have hk1 : (k : Int) < (sp.length : Int) := by omega
  have hk2 : (0 : Int) ≤ (k : Int) := by omega
  have hk3 : decide ((k : Int) < 0) = false := decide_eq_false (by omega)
  have hk4 : decide ((sp.length : Int) ≤ (k : Int)) = false := decide_eq_false (by omega)
  obtain ⟨⟨cc, q0, q1, q2⟩, hl32⟩ := H.heads
  obtain ⟨c0, c1, c2, c3, cf⟩ := H.2.1.cells k hk
  have hlt := H.2.1.lt
  have e1 := ibne hp
  generalize sp[k].pc = x at *
  clear H hp c1 c2 c3 cf
  go_enter Tryz.func101, Tryz.ntmps101
  go_wp2_with fail
  go_ret
  exact ⟨rfl, by trivial⟩
set_option maxRecDepth 100000 in
theorem rleave_yes (k : Nat) (hk : k < sp.length) (hp : sp[k].pc = 10) (sp2 : List Sp) (h2 : sp2 = sp.set k { sp[k] with pc := 11 }) : Calls Tryz.prog 101 #[.pointer (some ⟨gL, 0, none⟩), .int .i64 (k : Int)] w fun e w' => e = .returned (.bool true) ∧ RLk w' gL gr base hs P ρ sp2 ∧ Mod [hs] w w' := by
  have hk1 : (k : Int) < (sp.length : Int) := by omega
  have hk2 : (0 : Int) ≤ (k : Int) := by omega
  have hk3 : decide ((k : Int) < 0) = false := decide_eq_false (by omega)
  have hk4 : decide ((sp.length : Int) ≤ (k : Int)) = false := decide_eq_false (by omega)
  obtain ⟨⟨cc, q0, q1, q2⟩, hl32⟩ := H.heads
  obtain ⟨c0, c1, c2, c3, cf⟩ := H.2.1.cells k hk
  have hlt := H.2.1.lt
  have u1 := H.put k hk 0 (by omega) (.int .i64 11) { sp[k] with pc := 11 } rfl
  rw [← h2] at u1
  have HU := Lib.hid u1
  rw [hp] at c0
  have f0 := cf (k * 4)
  have HMM := Lib.hid (show Mod [hs] w (w.setCell ⟨hs, k * 4, none⟩ (.int .i64 11)) from (Mod.refl _ _).setCell (by simp) _)
  have HP := Lib.hid hp
  clear u1 h2 H hp c1 c2 c3 cf
  go_enter Tryz.func101, Tryz.ntmps101
  go_wp2_with fail
  go_ret
  exact ⟨rfl, HU.out, HMM.out⟩
set_option maxRecDepth 100000 in
theorem rstep_outr (i : Int) (hi : i < 0 ∨ (sp.length : Int) ≤ i) : Calls Tryz.prog 91 #[.pointer (some ⟨gL, 0, none⟩), .int .i64 i] w fun e w' => e = .returned (.bool false) ∧ w' = w := by
  · obtain ⟨⟨cc, q0, q1, q2⟩, hl32⟩ := H.heads
    clear H
    by_cases h0 : i < 0
    · go_enter Tryz.func91, Tryz.ntmps91
      go_wp2_with fail
      go_ret
      exact ⟨rfl, by trivial⟩
    · have h1 : (sp.length : Int) ≤ i := by omega
      have h2 : decide (i < 0) = false := decide_eq_false h0
      go_enter Tryz.func91, Tryz.ntmps91
      go_wp2_with fail
      go_ret
      exact ⟨rfl, by trivial⟩
set_option maxRecDepth 100000 in
theorem ralone_outr (i : Int) (hi : i < 0 ∨ (sp.length : Int) ≤ i) : Calls Tryz.prog 105 #[.pointer (some ⟨gL, 0, none⟩), .int .i64 i] w fun e w' => e = .returned (.bool false) ∧ w' = w := by
  · obtain ⟨⟨cc, q0, q1, q2⟩, hl32⟩ := H.heads
    clear H
    by_cases h0 : i < 0
    · go_enter Tryz.func105, Tryz.ntmps105
      go_wp2_with fail
      go_ret
      exact ⟨rfl, by trivial⟩
    · have h1 : (sp.length : Int) ≤ i := by omega
      have h2 : decide (i < 0) = false := decide_eq_false h0
      go_enter Tryz.func105, Tryz.ntmps105
      go_wp2_with fail
      go_ret
      exact ⟨rfl, by trivial⟩
set_option maxRecDepth 100000 in
theorem ralone_no (k : Nat) (hk : k < sp.length) (hp : ¬ sp[k].pc = 10) : Calls Tryz.prog 105 #[.pointer (some ⟨gL, 0, none⟩), .int .i64 (k : Int)] w fun e w' => e = .returned (.bool false) ∧ w' = w := by
  have hk1 : (k : Int) < (sp.length : Int) := by omega
  have hk2 : (0 : Int) ≤ (k : Int) := by omega
  have hk3 : decide ((k : Int) < 0) = false := decide_eq_false (by omega)
  have hk4 : decide ((sp.length : Int) ≤ (k : Int)) = false := decide_eq_false (by omega)
  obtain ⟨⟨cc, q0, q1, q2⟩, hl32⟩ := H.heads
  obtain ⟨c0, c1, c2, c3, cf⟩ := H.2.1.cells k hk
  have hlt := H.2.1.lt
  have e1 := ibne hp
  generalize sp[k].pc = x at *
  clear H hp c1 c2 c3 cf
  go_enter Tryz.func105, Tryz.ntmps105
  go_wp2_with fail
  go_ret
  exact ⟨rfl, by trivial⟩
end

section
variable (gL gr base hs : Nat) (P : Par) (ρ : Rf) (sp : List Sp) (w : World) (H : RLk w gL gr base hs P ρ sp) (hP : 1 ≤ P.tail ∧ P.tail ≤ 4096) (k : Nat) (hk : k < sp.length)
include H hP hk
set_option maxHeartbeats 4000000 in
set_option maxRecDepth 100000 in
theorem rstep_1 (ho : ρ.ops < 1000000) (hp : sp[k].pc = 1) (sp2 : List Sp) (h2 : sp2 = sp.set k { sp[k] with pc := 2 }) (ρ2 : Rf) (hρ : ρ2 = ρ.op 2 (nx P ((k : Int) + 1)) true 0) : Calls Tryz.prog 91 #[.pointer (some ⟨gL, 0, none⟩), .int .i64 (k : Int)] w fun e w' => e = .returned (.bool false) ∧ RLk w' gL gr base hs P ρ2 sp2 ∧ RMs base [gr, hs] w w' := by
  have hk1 : (k : Int) < (sp.length : Int) := by omega
  have hk2 : (0 : Int) ≤ (k : Int) := by omega
  have hk3 : decide ((k : Int) < 0) = false := decide_eq_false (by omega)
  have hk4 : decide ((sp.length : Int) ≤ (k : Int)) = false := decide_eq_false (by omega)
  obtain ⟨⟨cc, q0, q1, q2⟩, hl32⟩ := H.heads
  obtain ⟨c0, c1, c2, c3, cf⟩ := H.2.1.cells k hk
  have hlt := H.2.1.lt
  obtain ⟨xp, xa, xb, xc, hx⟩ : ∃ xp xa xb xc, sp[k] = ⟨xp, xa, xb, xc⟩ := ⟨_, _, _, _, rfl⟩
  have HH := H.self hk
  have HP := Lib.hid (show xp = 1 by rw [hx] at hp; exact hp)
  have HSF := Lib.hid (show sp.set k ⟨xp, xa, xb, xc⟩ = sp by rw [← hx, List.set_getElem_self])
  rw [hp] at c0
  simp only [hx] at HH c1 h2
  replace HH := Lib.hid HH
  obtain ⟨t1, t2⟩ := hP
  have ek : (k : Int) ≤ 31 := by omega
  have e1 : IntKind.i64.wrap ((k : Int) + 1) = (k : Int) + 1 := IntWalk.i64_in _ (by omega)
  have e2 : IntKind.i64.wrap (P.tail + 1) = P.tail + 1 := IntWalk.i64_in _ (by omega)
  have e3 : IntKind.i64.wrap (2 * (k : Int)) = 2 * (k : Int) := IntWalk.i64_in _ (by omega)
  have e4 : IntKind.i64.wrap (P.tail + 1 + 2 * (k : Int)) = P.tail + 1 + 2 * (k : Int) := IntWalk.i64_in _ (by omega)
  have e5 : IntKind.i64.wrap (P.tail + 2) = P.tail + 2 := IntWalk.i64_in _ (by omega)
  have e6 : IntKind.i64.wrap (P.tail + 2 + 2 * (k : Int)) = P.tail + 2 + 2 * (k : Int) := IntWalk.i64_in _ (by omega)
  have en : nx P ((k : Int) + 1) = P.tail + 1 + 2 * (k : Int) := by unfold nx; omega
  have ew : wt P ((k : Int) + 1) = P.tail + 2 + 2 * (k : Int) := by unfold wt; omega
  clear H hp c2 c3 cf hx
  have HSt := fun W (K : RfAt W gr base ρ) => rstore_any gr base ρ W K (P.tail + 1 + 2 * (k : Int)) ho 0
  rw [← en, ← hρ, en] at HSt
  replace HSt := Lib.hid HSt
  have HS2 := Lib.hid h2
  clear hρ h2 en ew
  go_enter Tryz.func91, Tryz.ntmps91
  go_wp2_with fail
  go_quiet (fail)
  have HX := Lib.hid (HH.out.drewN nq)
  have HM := Lib.hid (show RMs base [gr, hs] w (w.drewN nq) from (RMs.refl _ _ _).drewN nq)
  clear HH q0 q1 q2 c0 c1
  have HH := HX
  clear HX
  generalize w.drewN nq = w0 at *
  obtain ⟨⟨cc, q0, q1, q2⟩, c0, c1, c2, cf⟩ := (HH).out.sets hk
  have f0 := cf (k * 4)
  have f1 := cf (k * 4 + 1)
  clear cf
  simp only at c0 c1
  rw [HP.out] at c0
  go_wp2_with fail
  refine ((HSt).out _ HH.out.1).mono ?_
  rintro e w2 ⟨rfl, ha2, hm2⟩
  have H2 := Lib.hid (HH.out.arena ha2 hm2)
  have HM2 := Lib.hid (HM.out.trans (RMs.of_r hm2 (by simp)))
  clear ha2 hm2 q0 q1 q2 c0 c1 f0 f1
  obtain ⟨⟨cc, q0, q1, q2⟩, c0, c1, c2, cf⟩ := (H2).out.sets hk
  have f0 := cf (k * 4)
  have f1 := cf (k * 4 + 1)
  clear cf
  simp only at c0 c1
  rw [HP.out] at c0
  go_wp2_with fail
  go_ret
  exact ⟨rfl, by rw [HS2.out]; exact H2.out.put2 hk 0 (by omega) _ _ rfl, HM2.out.trans (RMs.of_mod ((Mod.refl _ _).setCell (by simp) _))⟩
set_option maxHeartbeats 4000000 in
set_option maxRecDepth 100000 in
theorem rstep_2 (ho : ρ.ops < 1000000) (hp : sp[k].pc = 2) (sp2 : List Sp) (h2 : sp2 = sp.set k { sp[k] with pc := 3 }) (ρ2 : Rf) (hρ : ρ2 = ρ.op 2 (wt P ((k : Int) + 1)) true 1) : Calls Tryz.prog 91 #[.pointer (some ⟨gL, 0, none⟩), .int .i64 (k : Int)] w fun e w' => e = .returned (.bool false) ∧ RLk w' gL gr base hs P ρ2 sp2 ∧ RMs base [gr, hs] w w' := by
  have hk1 : (k : Int) < (sp.length : Int) := by omega
  have hk2 : (0 : Int) ≤ (k : Int) := by omega
  have hk3 : decide ((k : Int) < 0) = false := decide_eq_false (by omega)
  have hk4 : decide ((sp.length : Int) ≤ (k : Int)) = false := decide_eq_false (by omega)
  obtain ⟨⟨cc, q0, q1, q2⟩, hl32⟩ := H.heads
  obtain ⟨c0, c1, c2, c3, cf⟩ := H.2.1.cells k hk
  have hlt := H.2.1.lt
  obtain ⟨xp, xa, xb, xc, hx⟩ : ∃ xp xa xb xc, sp[k] = ⟨xp, xa, xb, xc⟩ := ⟨_, _, _, _, rfl⟩
  have HH := H.self hk
  have HP := Lib.hid (show xp = 2 by rw [hx] at hp; exact hp)
  have HSF := Lib.hid (show sp.set k ⟨xp, xa, xb, xc⟩ = sp by rw [← hx, List.set_getElem_self])
  rw [hp] at c0
  simp only [hx] at HH c1 h2
  replace HH := Lib.hid HH
  obtain ⟨t1, t2⟩ := hP
  have ek : (k : Int) ≤ 31 := by omega
  have e1 : IntKind.i64.wrap ((k : Int) + 1) = (k : Int) + 1 := IntWalk.i64_in _ (by omega)
  have e2 : IntKind.i64.wrap (P.tail + 1) = P.tail + 1 := IntWalk.i64_in _ (by omega)
  have e3 : IntKind.i64.wrap (2 * (k : Int)) = 2 * (k : Int) := IntWalk.i64_in _ (by omega)
  have e4 : IntKind.i64.wrap (P.tail + 1 + 2 * (k : Int)) = P.tail + 1 + 2 * (k : Int) := IntWalk.i64_in _ (by omega)
  have e5 : IntKind.i64.wrap (P.tail + 2) = P.tail + 2 := IntWalk.i64_in _ (by omega)
  have e6 : IntKind.i64.wrap (P.tail + 2 + 2 * (k : Int)) = P.tail + 2 + 2 * (k : Int) := IntWalk.i64_in _ (by omega)
  have en : nx P ((k : Int) + 1) = P.tail + 1 + 2 * (k : Int) := by unfold nx; omega
  have ew : wt P ((k : Int) + 1) = P.tail + 2 + 2 * (k : Int) := by unfold wt; omega
  clear H hp c2 c3 cf hx
  have HSt := fun W (K : RfAt W gr base ρ) => rstore_any gr base ρ W K (P.tail + 2 + 2 * (k : Int)) ho 1
  rw [← ew, ← hρ, ew] at HSt
  replace HSt := Lib.hid HSt
  have HS2 := Lib.hid h2
  clear hρ h2 en ew
  go_enter Tryz.func91, Tryz.ntmps91
  go_wp2_with fail
  go_quiet (fail)
  have HX := Lib.hid (HH.out.drewN nq)
  have HM := Lib.hid (show RMs base [gr, hs] w (w.drewN nq) from (RMs.refl _ _ _).drewN nq)
  clear HH q0 q1 q2 c0 c1
  have HH := HX
  clear HX
  generalize w.drewN nq = w0 at *
  obtain ⟨⟨cc, q0, q1, q2⟩, c0, c1, c2, cf⟩ := (HH).out.sets hk
  have f0 := cf (k * 4)
  have f1 := cf (k * 4 + 1)
  clear cf
  simp only at c0 c1
  rw [HP.out] at c0
  go_wp2_with fail
  refine ((HSt).out _ HH.out.1).mono ?_
  rintro e w2 ⟨rfl, ha2, hm2⟩
  have H2 := Lib.hid (HH.out.arena ha2 hm2)
  have HM2 := Lib.hid (HM.out.trans (RMs.of_r hm2 (by simp)))
  clear ha2 hm2 q0 q1 q2 c0 c1 f0 f1
  obtain ⟨⟨cc, q0, q1, q2⟩, c0, c1, c2, cf⟩ := (H2).out.sets hk
  have f0 := cf (k * 4)
  have f1 := cf (k * 4 + 1)
  clear cf
  simp only at c0 c1
  rw [HP.out] at c0
  go_wp2_with fail
  go_ret
  exact ⟨rfl, by rw [HS2.out]; exact H2.out.put2 hk 0 (by omega) _ _ rfl, HM2.out.trans (RMs.of_mod ((Mod.refl _ _).setCell (by simp) _))⟩
set_option maxHeartbeats 4000000 in
set_option maxRecDepth 100000 in
theorem rstep_3a (ho : ρ.ops < 1000000) (hp : sp[k].pc = 3) (hx : ρ.get P.tail = 0) (sp2 : List Sp) (h2 : sp2 = sp.set k { sp[k] with pc := 10, a := ρ.get P.tail }) (ρ2 : Rf) (hρ : ρ2 = ρ.op 3 P.tail true ((k : Int) + 1)) : Calls Tryz.prog 91 #[.pointer (some ⟨gL, 0, none⟩), .int .i64 (k : Int)] w fun e w' => e = .returned (.bool true) ∧ RLk w' gL gr base hs P ρ2 sp2 ∧ RMs base [gr, hs] w w' := by
  have hne : gL ≠ hs := H.2.2.2.2.2.1
  have hxx := hx
  clear hx
  have hk1 : (k : Int) < (sp.length : Int) := by omega
  have hk2 : (0 : Int) ≤ (k : Int) := by omega
  have hk3 : decide ((k : Int) < 0) = false := decide_eq_false (by omega)
  have hk4 : decide ((sp.length : Int) ≤ (k : Int)) = false := decide_eq_false (by omega)
  obtain ⟨⟨cc, q0, q1, q2⟩, hl32⟩ := H.heads
  obtain ⟨c0, c1, c2, c3, cf⟩ := H.2.1.cells k hk
  have hlt := H.2.1.lt
  obtain ⟨xp, xa, xb, xc, hx⟩ : ∃ xp xa xb xc, sp[k] = ⟨xp, xa, xb, xc⟩ := ⟨_, _, _, _, rfl⟩
  have HH := H.self hk
  have HP := Lib.hid (show xp = 3 by rw [hx] at hp; exact hp)
  have HSF := Lib.hid (show sp.set k ⟨xp, xa, xb, xc⟩ = sp by rw [← hx, List.set_getElem_self])
  rw [hp] at c0
  simp only [hx] at HH c1 h2
  replace HH := Lib.hid HH
  obtain ⟨t1, t2⟩ := hP
  have ek : (k : Int) ≤ 31 := by omega
  have e1 : IntKind.i64.wrap ((k : Int) + 1) = (k : Int) + 1 := IntWalk.i64_in _ (by omega)
  have e2 : IntKind.i64.wrap (P.tail + 1) = P.tail + 1 := IntWalk.i64_in _ (by omega)
  have e3 : IntKind.i64.wrap (2 * (k : Int)) = 2 * (k : Int) := IntWalk.i64_in _ (by omega)
  have e4 : IntKind.i64.wrap (P.tail + 1 + 2 * (k : Int)) = P.tail + 1 + 2 * (k : Int) := IntWalk.i64_in _ (by omega)
  have e5 : IntKind.i64.wrap (P.tail + 2) = P.tail + 2 := IntWalk.i64_in _ (by omega)
  have e6 : IntKind.i64.wrap (P.tail + 2 + 2 * (k : Int)) = P.tail + 2 + 2 * (k : Int) := IntWalk.i64_in _ (by omega)
  have en : nx P ((k : Int) + 1) = P.tail + 1 + 2 * (k : Int) := by unfold nx; omega
  have ew : wt P ((k : Int) + 1) = P.tail + 2 + 2 * (k : Int) := by unfold wt; omega
  clear H hp c2 c3 cf hx
  have HSt := fun W (K : RfAt W gr base ρ) => rswap_any gr base ρ W K P.tail ho ((k : Int) + 1)
  rw [← hρ] at HSt
  replace HSt := Lib.hid HSt
  have HS2 := Lib.hid h2
  clear hρ h2 en ew
  generalize ρ.get P.tail = x at *
  subst hxx
  go_enter Tryz.func91, Tryz.ntmps91
  go_wp2_with fail
  go_quiet (fail)
  have HX := Lib.hid (HH.out.drewN nq)
  have HM := Lib.hid (show RMs base [gr, hs] w (w.drewN nq) from (RMs.refl _ _ _).drewN nq)
  clear HH q0 q1 q2 c0 c1
  have HH := HX
  clear HX
  generalize w.drewN nq = w0 at *
  obtain ⟨⟨cc, q0, q1, q2⟩, c0, c1, c2, cf⟩ := (HH).out.sets hk
  have f0 := cf (k * 4)
  have f1 := cf (k * 4 + 1)
  clear cf
  simp only at c0 c1
  rw [HP.out] at c0
  go_wp2_with fail
  go_region_held3 (fun V => V.cell? ⟨gL, 0, none⟩ = some (.pointer (some ⟨gr, 0, none⟩)) ∧ V.cell? ⟨gL, 1, none⟩ = some (.int .i64 P.tail) ∧ V.cell? ⟨gL, 2, none⟩ = some (.slice (some ⟨hs, 0, none⟩) sp.length cc))
    (first | exact ⟨q0, q1, q2⟩ | exact k2 | exact k3)
    (first | (go_at_call 121; refine (HSt.out _ (HH.out.drewN 1).1).mono ?_; rintro e w2 ⟨rfl, ha2, hm2⟩; have H2 := (HH.out.drewN 1).arena ha2 hm2; have k2 := And.intro (((HH.out.drewN 1).cellL hm2 0).trans q0) (And.intro (((HH.out.drewN 1).cellL hm2 1).trans q1) (((HH.out.drewN 1).cellL hm2 2).trans q2)); have c1 := (H2.sets hk).2.2.1; have f1 := (H2.sets hk).2.2.2.2 (k * 4 + 1); have k3 := And.intro ((World.cell?_setCell_far w2 ⟨hs, k * 4 + 1, none⟩ ⟨gL, 0, none⟩ (.int .i64 (0)) (by simp; omega)).trans k2.1) (And.intro ((World.cell?_setCell_far w2 ⟨hs, k * 4 + 1, none⟩ ⟨gL, 1, none⟩ (.int .i64 (0)) (by simp; omega)).trans k2.2.1) ((World.cell?_setCell_far w2 ⟨hs, k * 4 + 1, none⟩ ⟨gL, 2, none⟩ (.int .i64 (0)) (by simp; omega)).trans k2.2.2))))
  have HM2 := Lib.hid (((HM.out.drewN 1).trans (RMs.of_r hm2 (by simp))).trans (RMs.of_mod ((Mod.refl _ _).setCell (p := ⟨hs, k * 4 + 1, none⟩) (by simp) (.int .i64 (0)))))
  have H3 := Lib.hid (H2.put2 hk 1 (by omega) (.int .i64 (0)) ⟨xp, 0, xb, xc⟩ rfl)
  clear k2 k3 ha2 hm2 q0 q1 q2 c0 c1 f0 f1 H2
  have H2 := H3
  clear H3
  generalize w2.setCell ⟨hs, k * 4 + 1, none⟩ (.int .i64 (0)) = w3 at *
  obtain ⟨⟨cc, q0, q1, q2⟩, c0, c1, c2, cf⟩ := (H2).out.sets hk
  have f0 := cf (k * 4)
  have f1 := cf (k * 4 + 1)
  clear cf
  simp only at c0 c1
  rw [HP.out] at c0
  go_wp2_with fail
  go_ret
  exact ⟨rfl, by rw [HS2.out]; exact H2.out.put2 hk 0 (by omega) _ _ rfl, HM2.out.trans (RMs.of_mod ((Mod.refl _ _).setCell (by simp) _))⟩
set_option maxHeartbeats 4000000 in
set_option maxRecDepth 100000 in
theorem rstep_3b (ho : ρ.ops < 1000000) (hp : sp[k].pc = 3) (hx : ¬ ρ.get P.tail = 0) (sp2 : List Sp) (h2 : sp2 = sp.set k { sp[k] with pc := 4, a := ρ.get P.tail }) (ρ2 : Rf) (hρ : ρ2 = ρ.op 3 P.tail true ((k : Int) + 1)) : Calls Tryz.prog 91 #[.pointer (some ⟨gL, 0, none⟩), .int .i64 (k : Int)] w fun e w' => e = .returned (.bool false) ∧ RLk w' gL gr base hs P ρ2 sp2 ∧ RMs base [gr, hs] w w' := by
  have hne : gL ≠ hs := H.2.2.2.2.2.1
  have hxx := hx
  clear hx
  have hk1 : (k : Int) < (sp.length : Int) := by omega
  have hk2 : (0 : Int) ≤ (k : Int) := by omega
  have hk3 : decide ((k : Int) < 0) = false := decide_eq_false (by omega)
  have hk4 : decide ((sp.length : Int) ≤ (k : Int)) = false := decide_eq_false (by omega)
  obtain ⟨⟨cc, q0, q1, q2⟩, hl32⟩ := H.heads
  obtain ⟨c0, c1, c2, c3, cf⟩ := H.2.1.cells k hk
  have hlt := H.2.1.lt
  obtain ⟨xp, xa, xb, xc, hx⟩ : ∃ xp xa xb xc, sp[k] = ⟨xp, xa, xb, xc⟩ := ⟨_, _, _, _, rfl⟩
  have HH := H.self hk
  have HP := Lib.hid (show xp = 3 by rw [hx] at hp; exact hp)
  have HSF := Lib.hid (show sp.set k ⟨xp, xa, xb, xc⟩ = sp by rw [← hx, List.set_getElem_self])
  rw [hp] at c0
  simp only [hx] at HH c1 h2
  replace HH := Lib.hid HH
  obtain ⟨t1, t2⟩ := hP
  have ek : (k : Int) ≤ 31 := by omega
  have e1 : IntKind.i64.wrap ((k : Int) + 1) = (k : Int) + 1 := IntWalk.i64_in _ (by omega)
  have e2 : IntKind.i64.wrap (P.tail + 1) = P.tail + 1 := IntWalk.i64_in _ (by omega)
  have e3 : IntKind.i64.wrap (2 * (k : Int)) = 2 * (k : Int) := IntWalk.i64_in _ (by omega)
  have e4 : IntKind.i64.wrap (P.tail + 1 + 2 * (k : Int)) = P.tail + 1 + 2 * (k : Int) := IntWalk.i64_in _ (by omega)
  have e5 : IntKind.i64.wrap (P.tail + 2) = P.tail + 2 := IntWalk.i64_in _ (by omega)
  have e6 : IntKind.i64.wrap (P.tail + 2 + 2 * (k : Int)) = P.tail + 2 + 2 * (k : Int) := IntWalk.i64_in _ (by omega)
  have en : nx P ((k : Int) + 1) = P.tail + 1 + 2 * (k : Int) := by unfold nx; omega
  have ew : wt P ((k : Int) + 1) = P.tail + 2 + 2 * (k : Int) := by unfold wt; omega
  clear H hp c2 c3 cf hx
  have HSt := fun W (K : RfAt W gr base ρ) => rswap_any gr base ρ W K P.tail ho ((k : Int) + 1)
  rw [← hρ] at HSt
  replace HSt := Lib.hid HSt
  have HS2 := Lib.hid h2
  clear hρ h2 en ew
  generalize ρ.get P.tail = x at *
  have hx0 := ibeq_no hxx
  go_enter Tryz.func91, Tryz.ntmps91
  go_wp2_with fail
  go_quiet (fail)
  have HX := Lib.hid (HH.out.drewN nq)
  have HM := Lib.hid (show RMs base [gr, hs] w (w.drewN nq) from (RMs.refl _ _ _).drewN nq)
  clear HH q0 q1 q2 c0 c1
  have HH := HX
  clear HX
  generalize w.drewN nq = w0 at *
  obtain ⟨⟨cc, q0, q1, q2⟩, c0, c1, c2, cf⟩ := (HH).out.sets hk
  have f0 := cf (k * 4)
  have f1 := cf (k * 4 + 1)
  clear cf
  simp only at c0 c1
  rw [HP.out] at c0
  go_wp2_with fail
  go_region_held3 (fun V => V.cell? ⟨gL, 0, none⟩ = some (.pointer (some ⟨gr, 0, none⟩)) ∧ V.cell? ⟨gL, 1, none⟩ = some (.int .i64 P.tail) ∧ V.cell? ⟨gL, 2, none⟩ = some (.slice (some ⟨hs, 0, none⟩) sp.length cc))
    (first | exact ⟨q0, q1, q2⟩ | exact k2 | exact k3)
    (first | (go_at_call 121; refine (HSt.out _ (HH.out.drewN 1).1).mono ?_; rintro e w2 ⟨rfl, ha2, hm2⟩; have H2 := (HH.out.drewN 1).arena ha2 hm2; have k2 := And.intro (((HH.out.drewN 1).cellL hm2 0).trans q0) (And.intro (((HH.out.drewN 1).cellL hm2 1).trans q1) (((HH.out.drewN 1).cellL hm2 2).trans q2)); have c1 := (H2.sets hk).2.2.1; have f1 := (H2.sets hk).2.2.2.2 (k * 4 + 1); have k3 := And.intro ((World.cell?_setCell_far w2 ⟨hs, k * 4 + 1, none⟩ ⟨gL, 0, none⟩ (.int .i64 (x)) (by simp; omega)).trans k2.1) (And.intro ((World.cell?_setCell_far w2 ⟨hs, k * 4 + 1, none⟩ ⟨gL, 1, none⟩ (.int .i64 (x)) (by simp; omega)).trans k2.2.1) ((World.cell?_setCell_far w2 ⟨hs, k * 4 + 1, none⟩ ⟨gL, 2, none⟩ (.int .i64 (x)) (by simp; omega)).trans k2.2.2))))
  have HM2 := Lib.hid (((HM.out.drewN 1).trans (RMs.of_r hm2 (by simp))).trans (RMs.of_mod ((Mod.refl _ _).setCell (p := ⟨hs, k * 4 + 1, none⟩) (by simp) (.int .i64 (x)))))
  have H3 := Lib.hid (H2.put2 hk 1 (by omega) (.int .i64 (x)) ⟨xp, x, xb, xc⟩ rfl)
  clear k2 k3 ha2 hm2 q0 q1 q2 c0 c1 f0 f1 H2
  have H2 := H3
  clear H3
  generalize w2.setCell ⟨hs, k * 4 + 1, none⟩ (.int .i64 (x)) = w3 at *
  obtain ⟨⟨cc, q0, q1, q2⟩, c0, c1, c2, cf⟩ := (H2).out.sets hk
  have f0 := cf (k * 4)
  have f1 := cf (k * 4 + 1)
  clear cf
  simp only at c0 c1
  rw [HP.out] at c0
  go_wp2_with fail
  go_ret
  exact ⟨rfl, by rw [HS2.out]; exact H2.out.put2 hk 0 (by omega) _ _ rfl, HM2.out.trans (RMs.of_mod ((Mod.refl _ _).setCell (by simp) _))⟩
set_option maxHeartbeats 4000000 in
set_option maxRecDepth 100000 in
theorem rstep_4 (ho : ρ.ops < 1000000) (hp : sp[k].pc = 4) (hr : 0 ≤ sp[k].a ∧ sp[k].a ≤ 4096) (sp2 : List Sp) (h2 : sp2 = sp.set k { sp[k] with pc := 5 }) (ρ2 : Rf) (hρ : ρ2 = ρ.op 2 (nx P sp[k].a) true ((k : Int) + 1)) : Calls Tryz.prog 91 #[.pointer (some ⟨gL, 0, none⟩), .int .i64 (k : Int)] w fun e w' => e = .returned (.bool false) ∧ RLk w' gL gr base hs P ρ2 sp2 ∧ RMs base [gr, hs] w w' := by
  have hk1 : (k : Int) < (sp.length : Int) := by omega
  have hk2 : (0 : Int) ≤ (k : Int) := by omega
  have hk3 : decide ((k : Int) < 0) = false := decide_eq_false (by omega)
  have hk4 : decide ((sp.length : Int) ≤ (k : Int)) = false := decide_eq_false (by omega)
  obtain ⟨⟨cc, q0, q1, q2⟩, hl32⟩ := H.heads
  obtain ⟨c0, c1, c2, c3, cf⟩ := H.2.1.cells k hk
  have hlt := H.2.1.lt
  obtain ⟨xp, xa, xb, xc, hx⟩ : ∃ xp xa xb xc, sp[k] = ⟨xp, xa, xb, xc⟩ := ⟨_, _, _, _, rfl⟩
  have HH := H.self hk
  have HP := Lib.hid (show xp = 4 by rw [hx] at hp; exact hp)
  have HSF := Lib.hid (show sp.set k ⟨xp, xa, xb, xc⟩ = sp by rw [← hx, List.set_getElem_self])
  rw [hp] at c0
  simp only [hx] at HH c1 h2 hρ hr
  replace HH := Lib.hid HH
  obtain ⟨t1, t2⟩ := hP
  have ek : (k : Int) ≤ 31 := by omega
  have e1 : IntKind.i64.wrap ((k : Int) + 1) = (k : Int) + 1 := IntWalk.i64_in _ (by omega)
  have e2 : IntKind.i64.wrap (P.tail + 1) = P.tail + 1 := IntWalk.i64_in _ (by omega)
  have e3 : IntKind.i64.wrap (2 * (k : Int)) = 2 * (k : Int) := IntWalk.i64_in _ (by omega)
  have e4 : IntKind.i64.wrap (P.tail + 1 + 2 * (k : Int)) = P.tail + 1 + 2 * (k : Int) := IntWalk.i64_in _ (by omega)
  have e5 : IntKind.i64.wrap (P.tail + 2) = P.tail + 2 := IntWalk.i64_in _ (by omega)
  have e6 : IntKind.i64.wrap (P.tail + 2 + 2 * (k : Int)) = P.tail + 2 + 2 * (k : Int) := IntWalk.i64_in _ (by omega)
  have en : nx P ((k : Int) + 1) = P.tail + 1 + 2 * (k : Int) := by unfold nx; omega
  have ew : wt P ((k : Int) + 1) = P.tail + 2 + 2 * (k : Int) := by unfold wt; omega
  clear H hp c2 c3 cf hx
  have HSt := fun W (K : RfAt W gr base ρ) => rstore_any gr base ρ W K (P.tail + 2 * xa - 1) ho ((k : Int) + 1)
  rw [show nx P xa = P.tail + 2 * xa - 1 from rfl] at hρ
  rw [← hρ] at HSt
  replace HSt := Lib.hid HSt
  have HS2 := Lib.hid h2
  have g1 : IntKind.i64.wrap (2 * xa) = 2 * xa := IntWalk.i64_in _ (by omega)
  have g2 : IntKind.i64.wrap (P.tail + 2 * xa) = P.tail + 2 * xa := IntWalk.i64_in _ (by omega)
  have g3 : IntKind.i64.wrap (P.tail + 2 * xa - 1) = P.tail + 2 * xa - 1 := IntWalk.i64_in _ (by omega)
  clear hρ h2 en ew
  go_enter Tryz.func91, Tryz.ntmps91
  go_wp2_with fail
  go_quiet (fail)
  have HX := Lib.hid (HH.out.drewN nq)
  have HM := Lib.hid (show RMs base [gr, hs] w (w.drewN nq) from (RMs.refl _ _ _).drewN nq)
  clear HH q0 q1 q2 c0 c1
  have HH := HX
  clear HX
  generalize w.drewN nq = w0 at *
  obtain ⟨⟨cc, q0, q1, q2⟩, c0, c1, c2, cf⟩ := (HH).out.sets hk
  have f0 := cf (k * 4)
  have f1 := cf (k * 4 + 1)
  clear cf
  simp only at c0 c1
  rw [HP.out] at c0
  go_wp2_with fail
  go_region_held3 (fun V => V.cell? ⟨gL, 0, none⟩ = some (.pointer (some ⟨gr, 0, none⟩)) ∧ V.cell? ⟨gL, 1, none⟩ = some (.int .i64 P.tail) ∧ V.cell? ⟨gL, 2, none⟩ = some (.slice (some ⟨hs, 0, none⟩) sp.length cc) ∧ V.cell? ⟨hs, k * 4 + 1, none⟩ = some (.int .i64 xa))
    (first | exact ⟨q0, q1, q2, c1⟩ | exact k2)
    (first | (go_at_call 87; refine (HSt.out _ (HH.out.drewN 1).1).mono ?_; rintro e w2 ⟨rfl, ha2, hm2⟩; have H2 := Lib.hid ((HH.out.drewN 1).arena ha2 hm2); have k2 := And.intro (((HH.out.drewN 1).cellL hm2 0).trans q0) (And.intro (((HH.out.drewN 1).cellL hm2 1).trans q1) (And.intro (((HH.out.drewN 1).cellL hm2 2).trans q2) (((HH.out.drewN 1).cellS hm2 (k * 4 + 1)).trans c1)))))
  have HM2 := Lib.hid ((HM.out.drewN 1).trans (RMs.of_r hm2 (by simp)))
  clear k2 ha2 hm2 q0 q1 q2 c0 c1 f0 f1
  obtain ⟨⟨cc, q0, q1, q2⟩, c0, c1, c2, cf⟩ := (H2).out.sets hk
  have f0 := cf (k * 4)
  have f1 := cf (k * 4 + 1)
  clear cf
  simp only at c0 c1
  rw [HP.out] at c0
  go_wp2_with fail
  go_ret
  exact ⟨rfl, by rw [HS2.out]; exact H2.out.put2 hk 0 (by omega) _ _ rfl, HM2.out.trans (RMs.of_mod ((Mod.refl _ _).setCell (by simp) _))⟩
set_option maxHeartbeats 4000000 in
set_option maxRecDepth 100000 in
theorem rstep_5a (ho : ρ.ops < 1000000) (hp : sp[k].pc = 5) (hxx : ρ.get (wt P ((k : Int) + 1)) = 0) (sp2 : List Sp) (h2 : sp2 = sp.set k { sp[k] with pc := 10 }) (ρ2 : Rf) (hρ : ρ2 = ρ.op 1 (wt P ((k : Int) + 1)) false 0) : Calls Tryz.prog 91 #[.pointer (some ⟨gL, 0, none⟩), .int .i64 (k : Int)] w fun e w' => e = .returned (.bool true) ∧ RLk w' gL gr base hs P ρ2 sp2 ∧ RMs base [gr, hs] w w' := by
  have hk1 : (k : Int) < (sp.length : Int) := by omega
  have hk2 : (0 : Int) ≤ (k : Int) := by omega
  have hk3 : decide ((k : Int) < 0) = false := decide_eq_false (by omega)
  have hk4 : decide ((sp.length : Int) ≤ (k : Int)) = false := decide_eq_false (by omega)
  obtain ⟨⟨cc, q0, q1, q2⟩, hl32⟩ := H.heads
  obtain ⟨c0, c1, c2, c3, cf⟩ := H.2.1.cells k hk
  have hlt := H.2.1.lt
  obtain ⟨xp, xa, xb, xc, hx⟩ : ∃ xp xa xb xc, sp[k] = ⟨xp, xa, xb, xc⟩ := ⟨_, _, _, _, rfl⟩
  have HH := H.self hk
  have HP := Lib.hid (show xp = 5 by rw [hx] at hp; exact hp)
  have HSF := Lib.hid (show sp.set k ⟨xp, xa, xb, xc⟩ = sp by rw [← hx, List.set_getElem_self])
  rw [hp] at c0
  simp only [hx] at HH c1 h2
  replace HH := Lib.hid HH
  obtain ⟨t1, t2⟩ := hP
  have ek : (k : Int) ≤ 31 := by omega
  have e1 : IntKind.i64.wrap ((k : Int) + 1) = (k : Int) + 1 := IntWalk.i64_in _ (by omega)
  have e2 : IntKind.i64.wrap (P.tail + 1) = P.tail + 1 := IntWalk.i64_in _ (by omega)
  have e3 : IntKind.i64.wrap (2 * (k : Int)) = 2 * (k : Int) := IntWalk.i64_in _ (by omega)
  have e4 : IntKind.i64.wrap (P.tail + 1 + 2 * (k : Int)) = P.tail + 1 + 2 * (k : Int) := IntWalk.i64_in _ (by omega)
  have e5 : IntKind.i64.wrap (P.tail + 2) = P.tail + 2 := IntWalk.i64_in _ (by omega)
  have e6 : IntKind.i64.wrap (P.tail + 2 + 2 * (k : Int)) = P.tail + 2 + 2 * (k : Int) := IntWalk.i64_in _ (by omega)
  have en : nx P ((k : Int) + 1) = P.tail + 1 + 2 * (k : Int) := by unfold nx; omega
  have ew : wt P ((k : Int) + 1) = P.tail + 2 + 2 * (k : Int) := by unfold wt; omega
  clear H hp c2 c3 cf hx
  have HSt := fun W (K : RfAt W gr base ρ) => rload_any gr base ρ W K (P.tail + 2 + 2 * (k : Int)) ho
  rw [← ew, ← hρ, ew] at HSt
  rw [ew] at hxx
  replace HSt := Lib.hid HSt
  have HS2 := Lib.hid h2
  clear hρ h2 en ew
  generalize ρ.get (P.tail + 2 + 2 * (k : Int)) = x at *
  have hx0 := ibeq hxx
  go_enter Tryz.func91, Tryz.ntmps91
  go_wp2_with fail
  go_quiet (fail)
  have HX := Lib.hid (HH.out.drewN nq)
  have HM := Lib.hid (show RMs base [gr, hs] w (w.drewN nq) from (RMs.refl _ _ _).drewN nq)
  clear HH q0 q1 q2 c0 c1
  have HH := HX
  clear HX
  generalize w.drewN nq = w0 at *
  obtain ⟨⟨cc, q0, q1, q2⟩, c0, c1, c2, cf⟩ := (HH).out.sets hk
  have f0 := cf (k * 4)
  have f1 := cf (k * 4 + 1)
  clear cf
  simp only at c0 c1
  rw [HP.out] at c0
  go_wp2_with fail
  refine ((HSt).out _ HH.out.1).mono ?_
  rintro e w2 ⟨rfl, ha2, hm2⟩
  have H2 := Lib.hid (HH.out.arena ha2 hm2)
  have HM2 := Lib.hid (HM.out.trans (RMs.of_r hm2 (by simp)))
  clear ha2 hm2 q0 q1 q2 c0 c1 f0 f1
  obtain ⟨⟨cc, q0, q1, q2⟩, c0, c1, c2, cf⟩ := (H2).out.sets hk
  have f0 := cf (k * 4)
  have f1 := cf (k * 4 + 1)
  clear cf
  simp only at c0 c1
  rw [HP.out] at c0
  go_wp2_with fail
  go_ret
  exact ⟨rfl, by rw [HS2.out]; exact H2.out.put2 hk 0 (by omega) _ _ rfl, HM2.out.trans (RMs.of_mod ((Mod.refl _ _).setCell (by simp) _))⟩
set_option maxHeartbeats 4000000 in
set_option maxRecDepth 100000 in
theorem rstep_5b (ho : ρ.ops < 1000000) (hp : sp[k].pc = 5) (hxx : ¬ ρ.get (wt P ((k : Int) + 1)) = 0) (sp2 : List Sp) (h2 : sp2 = sp.set k { sp[k] with pc := 5 }) (ρ2 : Rf) (hρ : ρ2 = ρ.op 1 (wt P ((k : Int) + 1)) false 0) : Calls Tryz.prog 91 #[.pointer (some ⟨gL, 0, none⟩), .int .i64 (k : Int)] w fun e w' => e = .returned (.bool false) ∧ RLk w' gL gr base hs P ρ2 sp2 ∧ RMs base [gr, hs] w w' := by
  have hk1 : (k : Int) < (sp.length : Int) := by omega
  have hk2 : (0 : Int) ≤ (k : Int) := by omega
  have hk3 : decide ((k : Int) < 0) = false := decide_eq_false (by omega)
  have hk4 : decide ((sp.length : Int) ≤ (k : Int)) = false := decide_eq_false (by omega)
  obtain ⟨⟨cc, q0, q1, q2⟩, hl32⟩ := H.heads
  obtain ⟨c0, c1, c2, c3, cf⟩ := H.2.1.cells k hk
  have hlt := H.2.1.lt
  obtain ⟨xp, xa, xb, xc, hx⟩ : ∃ xp xa xb xc, sp[k] = ⟨xp, xa, xb, xc⟩ := ⟨_, _, _, _, rfl⟩
  have HH := H.self hk
  have HP := Lib.hid (show xp = 5 by rw [hx] at hp; exact hp)
  have HSF := Lib.hid (show sp.set k ⟨xp, xa, xb, xc⟩ = sp by rw [← hx, List.set_getElem_self])
  rw [hp] at c0
  simp only [hx] at HH c1 h2
  replace HH := Lib.hid HH
  obtain ⟨t1, t2⟩ := hP
  have ek : (k : Int) ≤ 31 := by omega
  have e1 : IntKind.i64.wrap ((k : Int) + 1) = (k : Int) + 1 := IntWalk.i64_in _ (by omega)
  have e2 : IntKind.i64.wrap (P.tail + 1) = P.tail + 1 := IntWalk.i64_in _ (by omega)
  have e3 : IntKind.i64.wrap (2 * (k : Int)) = 2 * (k : Int) := IntWalk.i64_in _ (by omega)
  have e4 : IntKind.i64.wrap (P.tail + 1 + 2 * (k : Int)) = P.tail + 1 + 2 * (k : Int) := IntWalk.i64_in _ (by omega)
  have e5 : IntKind.i64.wrap (P.tail + 2) = P.tail + 2 := IntWalk.i64_in _ (by omega)
  have e6 : IntKind.i64.wrap (P.tail + 2 + 2 * (k : Int)) = P.tail + 2 + 2 * (k : Int) := IntWalk.i64_in _ (by omega)
  have en : nx P ((k : Int) + 1) = P.tail + 1 + 2 * (k : Int) := by unfold nx; omega
  have ew : wt P ((k : Int) + 1) = P.tail + 2 + 2 * (k : Int) := by unfold wt; omega
  clear H hp c2 c3 cf hx
  have HSt := fun W (K : RfAt W gr base ρ) => rload_any gr base ρ W K (P.tail + 2 + 2 * (k : Int)) ho
  rw [← ew, ← hρ, ew] at HSt
  rw [ew] at hxx
  replace HSt := Lib.hid HSt
  have HS2 := Lib.hid h2
  clear hρ h2 en ew
  generalize ρ.get (P.tail + 2 + 2 * (k : Int)) = x at *
  have hx0 := ibeq_no hxx
  go_enter Tryz.func91, Tryz.ntmps91
  go_wp2_with fail
  go_quiet (fail)
  have HX := Lib.hid (HH.out.drewN nq)
  have HM := Lib.hid (show RMs base [gr, hs] w (w.drewN nq) from (RMs.refl _ _ _).drewN nq)
  clear HH q0 q1 q2 c0 c1
  have HH := HX
  clear HX
  generalize w.drewN nq = w0 at *
  obtain ⟨⟨cc, q0, q1, q2⟩, c0, c1, c2, cf⟩ := (HH).out.sets hk
  have f0 := cf (k * 4)
  have f1 := cf (k * 4 + 1)
  clear cf
  simp only at c0 c1
  rw [HP.out] at c0
  go_wp2_with fail
  refine ((HSt).out _ HH.out.1).mono ?_
  rintro e w2 ⟨rfl, ha2, hm2⟩
  have H2 := Lib.hid (HH.out.arena ha2 hm2)
  have HM2 := Lib.hid (HM.out.trans (RMs.of_r hm2 (by simp)))
  clear ha2 hm2 q0 q1 q2 c0 c1 f0 f1
  obtain ⟨⟨cc, q0, q1, q2⟩, c0, c1, c2, cf⟩ := (H2).out.sets hk
  have f0 := cf (k * 4)
  have f1 := cf (k * 4 + 1)
  clear cf
  simp only at c0 c1
  rw [HP.out] at c0
  go_wp2_with fail
  go_ret
  exact ⟨rfl, by rw [HS2.out]; exact H2.out.put2 hk 0 (by omega) _ _ rfl, HM2.out.trans (RMs.of_mod ((Mod.refl _ _).setCell (by simp) _))⟩
set_option maxHeartbeats 4000000 in
set_option maxRecDepth 100000 in
theorem rstep_11a (ho : ρ.ops < 1000000) (hp : sp[k].pc = 11) (hxx : ρ.get (nx P ((k : Int) + 1)) = 0) (sp2 : List Sp) (h2 : sp2 = sp.set k { sp[k] with pc := 12, a := ρ.get (nx P ((k : Int) + 1)) }) (ρ2 : Rf) (hρ : ρ2 = ρ.op 1 (nx P ((k : Int) + 1)) false 0) : Calls Tryz.prog 91 #[.pointer (some ⟨gL, 0, none⟩), .int .i64 (k : Int)] w fun e w' => e = .returned (.bool false) ∧ RLk w' gL gr base hs P ρ2 sp2 ∧ RMs base [gr, hs] w w' := by
  have hne : gL ≠ hs := H.2.2.2.2.2.1
  have hk1 : (k : Int) < (sp.length : Int) := by omega
  have hk2 : (0 : Int) ≤ (k : Int) := by omega
  have hk3 : decide ((k : Int) < 0) = false := decide_eq_false (by omega)
  have hk4 : decide ((sp.length : Int) ≤ (k : Int)) = false := decide_eq_false (by omega)
  obtain ⟨⟨cc, q0, q1, q2⟩, hl32⟩ := H.heads
  obtain ⟨c0, c1, c2, c3, cf⟩ := H.2.1.cells k hk
  have hlt := H.2.1.lt
  obtain ⟨xp, xa, xb, xc, hx⟩ : ∃ xp xa xb xc, sp[k] = ⟨xp, xa, xb, xc⟩ := ⟨_, _, _, _, rfl⟩
  have HH := H.self hk
  have HP := Lib.hid (show xp = 11 by rw [hx] at hp; exact hp)
  have HSF := Lib.hid (show sp.set k ⟨xp, xa, xb, xc⟩ = sp by rw [← hx, List.set_getElem_self])
  rw [hp] at c0
  simp only [hx] at HH c1 h2
  replace HH := Lib.hid HH
  obtain ⟨t1, t2⟩ := hP
  have ek : (k : Int) ≤ 31 := by omega
  have e1 : IntKind.i64.wrap ((k : Int) + 1) = (k : Int) + 1 := IntWalk.i64_in _ (by omega)
  have e2 : IntKind.i64.wrap (P.tail + 1) = P.tail + 1 := IntWalk.i64_in _ (by omega)
  have e3 : IntKind.i64.wrap (2 * (k : Int)) = 2 * (k : Int) := IntWalk.i64_in _ (by omega)
  have e4 : IntKind.i64.wrap (P.tail + 1 + 2 * (k : Int)) = P.tail + 1 + 2 * (k : Int) := IntWalk.i64_in _ (by omega)
  have e5 : IntKind.i64.wrap (P.tail + 2) = P.tail + 2 := IntWalk.i64_in _ (by omega)
  have e6 : IntKind.i64.wrap (P.tail + 2 + 2 * (k : Int)) = P.tail + 2 + 2 * (k : Int) := IntWalk.i64_in _ (by omega)
  have en : nx P ((k : Int) + 1) = P.tail + 1 + 2 * (k : Int) := by unfold nx; omega
  have ew : wt P ((k : Int) + 1) = P.tail + 2 + 2 * (k : Int) := by unfold wt; omega
  clear H hp c2 c3 cf hx
  have HSt := fun W (K : RfAt W gr base ρ) => rload_any gr base ρ W K (P.tail + 1 + 2 * (k : Int)) ho
  rw [← en, ← hρ, en] at HSt
  rw [en] at hxx h2
  replace HSt := Lib.hid HSt
  have HS2 := Lib.hid h2
  clear hρ h2 en ew
  generalize ρ.get (P.tail + 1 + 2 * (k : Int)) = x at *
  subst hxx
  go_enter Tryz.func91, Tryz.ntmps91
  go_wp2_with fail
  go_quiet (fail)
  have HX := Lib.hid (HH.out.drewN nq)
  have HM := Lib.hid (show RMs base [gr, hs] w (w.drewN nq) from (RMs.refl _ _ _).drewN nq)
  clear HH q0 q1 q2 c0 c1
  have HH := HX
  clear HX
  generalize w.drewN nq = w0 at *
  obtain ⟨⟨cc, q0, q1, q2⟩, c0, c1, c2, cf⟩ := (HH).out.sets hk
  have f0 := cf (k * 4)
  have f1 := cf (k * 4 + 1)
  clear cf
  simp only at c0 c1
  rw [HP.out] at c0
  go_wp2_with fail
  go_region_held3 (fun V => V.cell? ⟨gL, 0, none⟩ = some (.pointer (some ⟨gr, 0, none⟩)) ∧ V.cell? ⟨gL, 1, none⟩ = some (.int .i64 P.tail) ∧ V.cell? ⟨gL, 2, none⟩ = some (.slice (some ⟨hs, 0, none⟩) sp.length cc))
    (first | exact ⟨q0, q1, q2⟩ | exact k2 | exact k3)
    (first | (go_at_call 119; refine (HSt.out _ (HH.out.drewN 1).1).mono ?_; rintro e w2 ⟨rfl, ha2, hm2⟩; have H2 := (HH.out.drewN 1).arena ha2 hm2; have k2 := And.intro (((HH.out.drewN 1).cellL hm2 0).trans q0) (And.intro (((HH.out.drewN 1).cellL hm2 1).trans q1) (((HH.out.drewN 1).cellL hm2 2).trans q2)); have c1 := (H2.sets hk).2.2.1; have f1 := (H2.sets hk).2.2.2.2 (k * 4 + 1); have k3 := And.intro ((World.cell?_setCell_far w2 ⟨hs, k * 4 + 1, none⟩ ⟨gL, 0, none⟩ (.int .i64 (0)) (by simp; omega)).trans k2.1) (And.intro ((World.cell?_setCell_far w2 ⟨hs, k * 4 + 1, none⟩ ⟨gL, 1, none⟩ (.int .i64 (0)) (by simp; omega)).trans k2.2.1) ((World.cell?_setCell_far w2 ⟨hs, k * 4 + 1, none⟩ ⟨gL, 2, none⟩ (.int .i64 (0)) (by simp; omega)).trans k2.2.2))))
  have HM2 := Lib.hid (((HM.out.drewN 1).trans (RMs.of_r hm2 (by simp))).trans (RMs.of_mod ((Mod.refl _ _).setCell (p := ⟨hs, k * 4 + 1, none⟩) (by simp) (.int .i64 (0)))))
  have H3 := Lib.hid (H2.put2 hk 1 (by omega) (.int .i64 (0)) ⟨xp, 0, xb, xc⟩ rfl)
  clear k2 k3 ha2 hm2 q0 q1 q2 c0 c1 f0 f1 H2
  have H2 := H3
  clear H3
  generalize w2.setCell ⟨hs, k * 4 + 1, none⟩ (.int .i64 (0)) = w3 at *
  obtain ⟨⟨cc, q0, q1, q2⟩, c0, c1, c2, cf⟩ := (H2).out.sets hk
  have f0 := cf (k * 4)
  have f1 := cf (k * 4 + 1)
  clear cf
  simp only at c0 c1
  rw [HP.out] at c0
  go_wp2_with fail
  go_ret
  exact ⟨rfl, by rw [HS2.out]; exact H2.out.put2 hk 0 (by omega) _ _ rfl, HM2.out.trans (RMs.of_mod ((Mod.refl _ _).setCell (by simp) _))⟩
set_option maxHeartbeats 4000000 in
set_option maxRecDepth 100000 in
theorem rstep_11b (ho : ρ.ops < 1000000) (hp : sp[k].pc = 11) (hxx : ¬ ρ.get (nx P ((k : Int) + 1)) = 0) (sp2 : List Sp) (h2 : sp2 = sp.set k { sp[k] with pc := 14, a := ρ.get (nx P ((k : Int) + 1)) }) (ρ2 : Rf) (hρ : ρ2 = ρ.op 1 (nx P ((k : Int) + 1)) false 0) : Calls Tryz.prog 91 #[.pointer (some ⟨gL, 0, none⟩), .int .i64 (k : Int)] w fun e w' => e = .returned (.bool false) ∧ RLk w' gL gr base hs P ρ2 sp2 ∧ RMs base [gr, hs] w w' := by
  have hne : gL ≠ hs := H.2.2.2.2.2.1
  have hk1 : (k : Int) < (sp.length : Int) := by omega
  have hk2 : (0 : Int) ≤ (k : Int) := by omega
  have hk3 : decide ((k : Int) < 0) = false := decide_eq_false (by omega)
  have hk4 : decide ((sp.length : Int) ≤ (k : Int)) = false := decide_eq_false (by omega)
  obtain ⟨⟨cc, q0, q1, q2⟩, hl32⟩ := H.heads
  obtain ⟨c0, c1, c2, c3, cf⟩ := H.2.1.cells k hk
  have hlt := H.2.1.lt
  obtain ⟨xp, xa, xb, xc, hx⟩ : ∃ xp xa xb xc, sp[k] = ⟨xp, xa, xb, xc⟩ := ⟨_, _, _, _, rfl⟩
  have HH := H.self hk
  have HP := Lib.hid (show xp = 11 by rw [hx] at hp; exact hp)
  have HSF := Lib.hid (show sp.set k ⟨xp, xa, xb, xc⟩ = sp by rw [← hx, List.set_getElem_self])
  rw [hp] at c0
  simp only [hx] at HH c1 h2
  replace HH := Lib.hid HH
  obtain ⟨t1, t2⟩ := hP
  have ek : (k : Int) ≤ 31 := by omega
  have e1 : IntKind.i64.wrap ((k : Int) + 1) = (k : Int) + 1 := IntWalk.i64_in _ (by omega)
  have e2 : IntKind.i64.wrap (P.tail + 1) = P.tail + 1 := IntWalk.i64_in _ (by omega)
  have e3 : IntKind.i64.wrap (2 * (k : Int)) = 2 * (k : Int) := IntWalk.i64_in _ (by omega)
  have e4 : IntKind.i64.wrap (P.tail + 1 + 2 * (k : Int)) = P.tail + 1 + 2 * (k : Int) := IntWalk.i64_in _ (by omega)
  have e5 : IntKind.i64.wrap (P.tail + 2) = P.tail + 2 := IntWalk.i64_in _ (by omega)
  have e6 : IntKind.i64.wrap (P.tail + 2 + 2 * (k : Int)) = P.tail + 2 + 2 * (k : Int) := IntWalk.i64_in _ (by omega)
  have en : nx P ((k : Int) + 1) = P.tail + 1 + 2 * (k : Int) := by unfold nx; omega
  have ew : wt P ((k : Int) + 1) = P.tail + 2 + 2 * (k : Int) := by unfold wt; omega
  clear H hp c2 c3 cf hx
  have HSt := fun W (K : RfAt W gr base ρ) => rload_any gr base ρ W K (P.tail + 1 + 2 * (k : Int)) ho
  rw [← en, ← hρ, en] at HSt
  rw [en] at hxx h2
  replace HSt := Lib.hid HSt
  have HS2 := Lib.hid h2
  clear hρ h2 en ew
  generalize ρ.get (P.tail + 1 + 2 * (k : Int)) = x at *
  have hx0 := ibeq_no hxx
  go_enter Tryz.func91, Tryz.ntmps91
  go_wp2_with fail
  go_quiet (fail)
  have HX := Lib.hid (HH.out.drewN nq)
  have HM := Lib.hid (show RMs base [gr, hs] w (w.drewN nq) from (RMs.refl _ _ _).drewN nq)
  clear HH q0 q1 q2 c0 c1
  have HH := HX
  clear HX
  generalize w.drewN nq = w0 at *
  obtain ⟨⟨cc, q0, q1, q2⟩, c0, c1, c2, cf⟩ := (HH).out.sets hk
  have f0 := cf (k * 4)
  have f1 := cf (k * 4 + 1)
  clear cf
  simp only at c0 c1
  rw [HP.out] at c0
  go_wp2_with fail
  go_region_held3 (fun V => V.cell? ⟨gL, 0, none⟩ = some (.pointer (some ⟨gr, 0, none⟩)) ∧ V.cell? ⟨gL, 1, none⟩ = some (.int .i64 P.tail) ∧ V.cell? ⟨gL, 2, none⟩ = some (.slice (some ⟨hs, 0, none⟩) sp.length cc))
    (first | exact ⟨q0, q1, q2⟩ | exact k2 | exact k3)
    (first | (go_at_call 119; refine (HSt.out _ (HH.out.drewN 1).1).mono ?_; rintro e w2 ⟨rfl, ha2, hm2⟩; have H2 := (HH.out.drewN 1).arena ha2 hm2; have k2 := And.intro (((HH.out.drewN 1).cellL hm2 0).trans q0) (And.intro (((HH.out.drewN 1).cellL hm2 1).trans q1) (((HH.out.drewN 1).cellL hm2 2).trans q2)); have c1 := (H2.sets hk).2.2.1; have f1 := (H2.sets hk).2.2.2.2 (k * 4 + 1); have k3 := And.intro ((World.cell?_setCell_far w2 ⟨hs, k * 4 + 1, none⟩ ⟨gL, 0, none⟩ (.int .i64 (x)) (by simp; omega)).trans k2.1) (And.intro ((World.cell?_setCell_far w2 ⟨hs, k * 4 + 1, none⟩ ⟨gL, 1, none⟩ (.int .i64 (x)) (by simp; omega)).trans k2.2.1) ((World.cell?_setCell_far w2 ⟨hs, k * 4 + 1, none⟩ ⟨gL, 2, none⟩ (.int .i64 (x)) (by simp; omega)).trans k2.2.2))))
  have HM2 := Lib.hid (((HM.out.drewN 1).trans (RMs.of_r hm2 (by simp))).trans (RMs.of_mod ((Mod.refl _ _).setCell (p := ⟨hs, k * 4 + 1, none⟩) (by simp) (.int .i64 (x)))))
  have H3 := Lib.hid (H2.put2 hk 1 (by omega) (.int .i64 (x)) ⟨xp, x, xb, xc⟩ rfl)
  clear k2 k3 ha2 hm2 q0 q1 q2 c0 c1 f0 f1 H2
  have H2 := H3
  clear H3
  generalize w2.setCell ⟨hs, k * 4 + 1, none⟩ (.int .i64 (x)) = w3 at *
  obtain ⟨⟨cc, q0, q1, q2⟩, c0, c1, c2, cf⟩ := (H2).out.sets hk
  have f0 := cf (k * 4)
  have f1 := cf (k * 4 + 1)
  clear cf
  simp only at c0 c1
  rw [HP.out] at c0
  go_wp2_with fail
  go_ret
  exact ⟨rfl, by rw [HS2.out]; exact H2.out.put2 hk 0 (by omega) _ _ rfl, HM2.out.trans (RMs.of_mod ((Mod.refl _ _).setCell (by simp) _))⟩
set_option maxHeartbeats 4000000 in
set_option maxRecDepth 100000 in
theorem rstep_13a (ho : ρ.ops < 1000000) (hp : sp[k].pc = 13) (hxx : ρ.get (nx P ((k : Int) + 1)) = 0) (sp2 : List Sp) (h2 : sp2 = sp.set k { sp[k] with pc := 13, a := ρ.get (nx P ((k : Int) + 1)) }) (ρ2 : Rf) (hρ : ρ2 = ρ.op 1 (nx P ((k : Int) + 1)) false 0) : Calls Tryz.prog 91 #[.pointer (some ⟨gL, 0, none⟩), .int .i64 (k : Int)] w fun e w' => e = .returned (.bool false) ∧ RLk w' gL gr base hs P ρ2 sp2 ∧ RMs base [gr, hs] w w' := by
  have hne : gL ≠ hs := H.2.2.2.2.2.1
  have hk1 : (k : Int) < (sp.length : Int) := by omega
  have hk2 : (0 : Int) ≤ (k : Int) := by omega
  have hk3 : decide ((k : Int) < 0) = false := decide_eq_false (by omega)
  have hk4 : decide ((sp.length : Int) ≤ (k : Int)) = false := decide_eq_false (by omega)
  obtain ⟨⟨cc, q0, q1, q2⟩, hl32⟩ := H.heads
  obtain ⟨c0, c1, c2, c3, cf⟩ := H.2.1.cells k hk
  have hlt := H.2.1.lt
  obtain ⟨xp, xa, xb, xc, hx⟩ : ∃ xp xa xb xc, sp[k] = ⟨xp, xa, xb, xc⟩ := ⟨_, _, _, _, rfl⟩
  have HH := H.self hk
  have HP := Lib.hid (show xp = 13 by rw [hx] at hp; exact hp)
  have HSF := Lib.hid (show sp.set k ⟨xp, xa, xb, xc⟩ = sp by rw [← hx, List.set_getElem_self])
  rw [hp] at c0
  simp only [hx] at HH c1 h2
  replace HH := Lib.hid HH
  obtain ⟨t1, t2⟩ := hP
  have ek : (k : Int) ≤ 31 := by omega
  have e1 : IntKind.i64.wrap ((k : Int) + 1) = (k : Int) + 1 := IntWalk.i64_in _ (by omega)
  have e2 : IntKind.i64.wrap (P.tail + 1) = P.tail + 1 := IntWalk.i64_in _ (by omega)
  have e3 : IntKind.i64.wrap (2 * (k : Int)) = 2 * (k : Int) := IntWalk.i64_in _ (by omega)
  have e4 : IntKind.i64.wrap (P.tail + 1 + 2 * (k : Int)) = P.tail + 1 + 2 * (k : Int) := IntWalk.i64_in _ (by omega)
  have e5 : IntKind.i64.wrap (P.tail + 2) = P.tail + 2 := IntWalk.i64_in _ (by omega)
  have e6 : IntKind.i64.wrap (P.tail + 2 + 2 * (k : Int)) = P.tail + 2 + 2 * (k : Int) := IntWalk.i64_in _ (by omega)
  have en : nx P ((k : Int) + 1) = P.tail + 1 + 2 * (k : Int) := by unfold nx; omega
  have ew : wt P ((k : Int) + 1) = P.tail + 2 + 2 * (k : Int) := by unfold wt; omega
  clear H hp c2 c3 cf hx
  have HSt := fun W (K : RfAt W gr base ρ) => rload_any gr base ρ W K (P.tail + 1 + 2 * (k : Int)) ho
  rw [← en, ← hρ, en] at HSt
  rw [en] at hxx h2
  replace HSt := Lib.hid HSt
  have HS2 := Lib.hid h2
  clear hρ h2 en ew
  generalize ρ.get (P.tail + 1 + 2 * (k : Int)) = x at *
  subst hxx
  go_enter Tryz.func91, Tryz.ntmps91
  go_wp2_with fail
  go_quiet (fail)
  have HX := Lib.hid (HH.out.drewN nq)
  have HM := Lib.hid (show RMs base [gr, hs] w (w.drewN nq) from (RMs.refl _ _ _).drewN nq)
  clear HH q0 q1 q2 c0 c1
  have HH := HX
  clear HX
  generalize w.drewN nq = w0 at *
  obtain ⟨⟨cc, q0, q1, q2⟩, c0, c1, c2, cf⟩ := (HH).out.sets hk
  have f0 := cf (k * 4)
  have f1 := cf (k * 4 + 1)
  clear cf
  simp only at c0 c1
  rw [HP.out] at c0
  go_wp2_with fail
  go_region_held3 (fun V => V.cell? ⟨gL, 0, none⟩ = some (.pointer (some ⟨gr, 0, none⟩)) ∧ V.cell? ⟨gL, 1, none⟩ = some (.int .i64 P.tail) ∧ V.cell? ⟨gL, 2, none⟩ = some (.slice (some ⟨hs, 0, none⟩) sp.length cc))
    (first | exact ⟨q0, q1, q2⟩ | exact k2 | exact k3)
    (first | (go_at_call 119; refine (HSt.out _ (HH.out.drewN 1).1).mono ?_; rintro e w2 ⟨rfl, ha2, hm2⟩; have H2 := (HH.out.drewN 1).arena ha2 hm2; have k2 := And.intro (((HH.out.drewN 1).cellL hm2 0).trans q0) (And.intro (((HH.out.drewN 1).cellL hm2 1).trans q1) (((HH.out.drewN 1).cellL hm2 2).trans q2)); have c1 := (H2.sets hk).2.2.1; have f1 := (H2.sets hk).2.2.2.2 (k * 4 + 1); have k3 := And.intro ((World.cell?_setCell_far w2 ⟨hs, k * 4 + 1, none⟩ ⟨gL, 0, none⟩ (.int .i64 (0)) (by simp; omega)).trans k2.1) (And.intro ((World.cell?_setCell_far w2 ⟨hs, k * 4 + 1, none⟩ ⟨gL, 1, none⟩ (.int .i64 (0)) (by simp; omega)).trans k2.2.1) ((World.cell?_setCell_far w2 ⟨hs, k * 4 + 1, none⟩ ⟨gL, 2, none⟩ (.int .i64 (0)) (by simp; omega)).trans k2.2.2))))
  have HM2 := Lib.hid (((HM.out.drewN 1).trans (RMs.of_r hm2 (by simp))).trans (RMs.of_mod ((Mod.refl _ _).setCell (p := ⟨hs, k * 4 + 1, none⟩) (by simp) (.int .i64 (0)))))
  have H3 := Lib.hid (H2.put2 hk 1 (by omega) (.int .i64 (0)) ⟨xp, 0, xb, xc⟩ rfl)
  clear k2 k3 ha2 hm2 q0 q1 q2 c0 c1 f0 f1 H2
  have H2 := H3
  clear H3
  generalize w2.setCell ⟨hs, k * 4 + 1, none⟩ (.int .i64 (0)) = w3 at *
  obtain ⟨⟨cc, q0, q1, q2⟩, c0, c1, c2, cf⟩ := (H2).out.sets hk
  have f0 := cf (k * 4)
  have f1 := cf (k * 4 + 1)
  clear cf
  simp only at c0 c1
  rw [HP.out] at c0
  go_wp2_with fail
  go_ret
  exact ⟨rfl, by rw [HS2.out]; exact H2.out.put2 hk 0 (by omega) _ _ rfl, HM2.out.trans (RMs.of_mod ((Mod.refl _ _).setCell (by simp) _))⟩
set_option maxHeartbeats 4000000 in
set_option maxRecDepth 100000 in
theorem rstep_13b (ho : ρ.ops < 1000000) (hp : sp[k].pc = 13) (hxx : ¬ ρ.get (nx P ((k : Int) + 1)) = 0) (sp2 : List Sp) (h2 : sp2 = sp.set k { sp[k] with pc := 14, a := ρ.get (nx P ((k : Int) + 1)) }) (ρ2 : Rf) (hρ : ρ2 = ρ.op 1 (nx P ((k : Int) + 1)) false 0) : Calls Tryz.prog 91 #[.pointer (some ⟨gL, 0, none⟩), .int .i64 (k : Int)] w fun e w' => e = .returned (.bool false) ∧ RLk w' gL gr base hs P ρ2 sp2 ∧ RMs base [gr, hs] w w' := by
  have hne : gL ≠ hs := H.2.2.2.2.2.1
  have hk1 : (k : Int) < (sp.length : Int) := by omega
  have hk2 : (0 : Int) ≤ (k : Int) := by omega
  have hk3 : decide ((k : Int) < 0) = false := decide_eq_false (by omega)
  have hk4 : decide ((sp.length : Int) ≤ (k : Int)) = false := decide_eq_false (by omega)
  obtain ⟨⟨cc, q0, q1, q2⟩, hl32⟩ := H.heads
  obtain ⟨c0, c1, c2, c3, cf⟩ := H.2.1.cells k hk
  have hlt := H.2.1.lt
  obtain ⟨xp, xa, xb, xc, hx⟩ : ∃ xp xa xb xc, sp[k] = ⟨xp, xa, xb, xc⟩ := ⟨_, _, _, _, rfl⟩
  have HH := H.self hk
  have HP := Lib.hid (show xp = 13 by rw [hx] at hp; exact hp)
  have HSF := Lib.hid (show sp.set k ⟨xp, xa, xb, xc⟩ = sp by rw [← hx, List.set_getElem_self])
  rw [hp] at c0
  simp only [hx] at HH c1 h2
  replace HH := Lib.hid HH
  obtain ⟨t1, t2⟩ := hP
  have ek : (k : Int) ≤ 31 := by omega
  have e1 : IntKind.i64.wrap ((k : Int) + 1) = (k : Int) + 1 := IntWalk.i64_in _ (by omega)
  have e2 : IntKind.i64.wrap (P.tail + 1) = P.tail + 1 := IntWalk.i64_in _ (by omega)
  have e3 : IntKind.i64.wrap (2 * (k : Int)) = 2 * (k : Int) := IntWalk.i64_in _ (by omega)
  have e4 : IntKind.i64.wrap (P.tail + 1 + 2 * (k : Int)) = P.tail + 1 + 2 * (k : Int) := IntWalk.i64_in _ (by omega)
  have e5 : IntKind.i64.wrap (P.tail + 2) = P.tail + 2 := IntWalk.i64_in _ (by omega)
  have e6 : IntKind.i64.wrap (P.tail + 2 + 2 * (k : Int)) = P.tail + 2 + 2 * (k : Int) := IntWalk.i64_in _ (by omega)
  have en : nx P ((k : Int) + 1) = P.tail + 1 + 2 * (k : Int) := by unfold nx; omega
  have ew : wt P ((k : Int) + 1) = P.tail + 2 + 2 * (k : Int) := by unfold wt; omega
  clear H hp c2 c3 cf hx
  have HSt := fun W (K : RfAt W gr base ρ) => rload_any gr base ρ W K (P.tail + 1 + 2 * (k : Int)) ho
  rw [← en, ← hρ, en] at HSt
  rw [en] at hxx h2
  replace HSt := Lib.hid HSt
  have HS2 := Lib.hid h2
  clear hρ h2 en ew
  generalize ρ.get (P.tail + 1 + 2 * (k : Int)) = x at *
  have hx0 := ibne hxx
  go_enter Tryz.func91, Tryz.ntmps91
  go_wp2_with fail
  go_quiet (fail)
  have HX := Lib.hid (HH.out.drewN nq)
  have HM := Lib.hid (show RMs base [gr, hs] w (w.drewN nq) from (RMs.refl _ _ _).drewN nq)
  clear HH q0 q1 q2 c0 c1
  have HH := HX
  clear HX
  generalize w.drewN nq = w0 at *
  obtain ⟨⟨cc, q0, q1, q2⟩, c0, c1, c2, cf⟩ := (HH).out.sets hk
  have f0 := cf (k * 4)
  have f1 := cf (k * 4 + 1)
  clear cf
  simp only at c0 c1
  rw [HP.out] at c0
  go_wp2_with fail
  go_region_held3 (fun V => V.cell? ⟨gL, 0, none⟩ = some (.pointer (some ⟨gr, 0, none⟩)) ∧ V.cell? ⟨gL, 1, none⟩ = some (.int .i64 P.tail) ∧ V.cell? ⟨gL, 2, none⟩ = some (.slice (some ⟨hs, 0, none⟩) sp.length cc))
    (first | exact ⟨q0, q1, q2⟩ | exact k2 | exact k3)
    (first | (go_at_call 119; refine (HSt.out _ (HH.out.drewN 1).1).mono ?_; rintro e w2 ⟨rfl, ha2, hm2⟩; have H2 := (HH.out.drewN 1).arena ha2 hm2; have k2 := And.intro (((HH.out.drewN 1).cellL hm2 0).trans q0) (And.intro (((HH.out.drewN 1).cellL hm2 1).trans q1) (((HH.out.drewN 1).cellL hm2 2).trans q2)); have c1 := (H2.sets hk).2.2.1; have f1 := (H2.sets hk).2.2.2.2 (k * 4 + 1); have k3 := And.intro ((World.cell?_setCell_far w2 ⟨hs, k * 4 + 1, none⟩ ⟨gL, 0, none⟩ (.int .i64 (x)) (by simp; omega)).trans k2.1) (And.intro ((World.cell?_setCell_far w2 ⟨hs, k * 4 + 1, none⟩ ⟨gL, 1, none⟩ (.int .i64 (x)) (by simp; omega)).trans k2.2.1) ((World.cell?_setCell_far w2 ⟨hs, k * 4 + 1, none⟩ ⟨gL, 2, none⟩ (.int .i64 (x)) (by simp; omega)).trans k2.2.2))))
  have HM2 := Lib.hid (((HM.out.drewN 1).trans (RMs.of_r hm2 (by simp))).trans (RMs.of_mod ((Mod.refl _ _).setCell (p := ⟨hs, k * 4 + 1, none⟩) (by simp) (.int .i64 (x)))))
  have H3 := Lib.hid (H2.put2 hk 1 (by omega) (.int .i64 (x)) ⟨xp, x, xb, xc⟩ rfl)
  clear k2 k3 ha2 hm2 q0 q1 q2 c0 c1 f0 f1 H2
  have H2 := H3
  clear H3
  generalize w2.setCell ⟨hs, k * 4 + 1, none⟩ (.int .i64 (x)) = w3 at *
  obtain ⟨⟨cc, q0, q1, q2⟩, c0, c1, c2, cf⟩ := (H2).out.sets hk
  have f0 := cf (k * 4)
  have f1 := cf (k * 4 + 1)
  clear cf
  simp only at c0 c1
  rw [HP.out] at c0
  go_wp2_with fail
  go_ret
  exact ⟨rfl, by rw [HS2.out]; exact H2.out.put2 hk 0 (by omega) _ _ rfl, HM2.out.trans (RMs.of_mod ((Mod.refl _ _).setCell (by simp) _))⟩
set_option maxHeartbeats 4000000 in
set_option maxRecDepth 100000 in
theorem rstep_12a (ho : ρ.ops < 1000000) (hp : sp[k].pc = 12) (hc : (ρ.has P.tail && (ρ.get P.tail == (k : Int) + 1)) = true) (sp2 : List Sp) (h2 : sp2 = sp.set k { sp[k] with pc := 0 }) (ρ2 : Rf) (hρ : ρ2 = ρ.op 4 P.tail (ρ.get P.tail == (k : Int) + 1) 0) : Calls Tryz.prog 91 #[.pointer (some ⟨gL, 0, none⟩), .int .i64 (k : Int)] w fun e w' => e = .returned (.bool true) ∧ RLk w' gL gr base hs P ρ2 sp2 ∧ RMs base [gr, hs] w w' := by
  have hk1 : (k : Int) < (sp.length : Int) := by omega
  have hk2 : (0 : Int) ≤ (k : Int) := by omega
  have hk3 : decide ((k : Int) < 0) = false := decide_eq_false (by omega)
  have hk4 : decide ((sp.length : Int) ≤ (k : Int)) = false := decide_eq_false (by omega)
  obtain ⟨⟨cc, q0, q1, q2⟩, hl32⟩ := H.heads
  obtain ⟨c0, c1, c2, c3, cf⟩ := H.2.1.cells k hk
  have hlt := H.2.1.lt
  obtain ⟨xp, xa, xb, xc, hx⟩ : ∃ xp xa xb xc, sp[k] = ⟨xp, xa, xb, xc⟩ := ⟨_, _, _, _, rfl⟩
  have HH := H.self hk
  have HP := Lib.hid (show xp = 12 by rw [hx] at hp; exact hp)
  have HSF := Lib.hid (show sp.set k ⟨xp, xa, xb, xc⟩ = sp by rw [← hx, List.set_getElem_self])
  rw [hp] at c0
  simp only [hx] at HH c1 h2
  replace HH := Lib.hid HH
  obtain ⟨t1, t2⟩ := hP
  have ek : (k : Int) ≤ 31 := by omega
  have e1 : IntKind.i64.wrap ((k : Int) + 1) = (k : Int) + 1 := IntWalk.i64_in _ (by omega)
  have e2 : IntKind.i64.wrap (P.tail + 1) = P.tail + 1 := IntWalk.i64_in _ (by omega)
  have e3 : IntKind.i64.wrap (2 * (k : Int)) = 2 * (k : Int) := IntWalk.i64_in _ (by omega)
  have e4 : IntKind.i64.wrap (P.tail + 1 + 2 * (k : Int)) = P.tail + 1 + 2 * (k : Int) := IntWalk.i64_in _ (by omega)
  have e5 : IntKind.i64.wrap (P.tail + 2) = P.tail + 2 := IntWalk.i64_in _ (by omega)
  have e6 : IntKind.i64.wrap (P.tail + 2 + 2 * (k : Int)) = P.tail + 2 + 2 * (k : Int) := IntWalk.i64_in _ (by omega)
  have en : nx P ((k : Int) + 1) = P.tail + 1 + 2 * (k : Int) := by unfold nx; omega
  have ew : wt P ((k : Int) + 1) = P.tail + 2 + 2 * (k : Int) := by unfold wt; omega
  clear H hp c2 c3 cf hx
  have HSt := fun W (K : RfAt W gr base ρ) => rcas_any gr base ρ W K P.tail ho ((k : Int) + 1) 0
  rw [← hρ, hc] at HSt
  replace HSt := Lib.hid HSt
  have HS2 := Lib.hid h2
  clear hρ h2 en ew hc
  go_enter Tryz.func91, Tryz.ntmps91
  go_wp2_with fail
  go_quiet (fail)
  have HX := Lib.hid (HH.out.drewN nq)
  have HM := Lib.hid (show RMs base [gr, hs] w (w.drewN nq) from (RMs.refl _ _ _).drewN nq)
  clear HH q0 q1 q2 c0 c1
  have HH := HX
  clear HX
  generalize w.drewN nq = w0 at *
  obtain ⟨⟨cc, q0, q1, q2⟩, c0, c1, c2, cf⟩ := (HH).out.sets hk
  have f0 := cf (k * 4)
  have f1 := cf (k * 4 + 1)
  clear cf
  simp only at c0 c1
  rw [HP.out] at c0
  go_wp2_with fail
  go_region_held3 (fun V => V.cell? ⟨gL, 0, none⟩ = some (.pointer (some ⟨gr, 0, none⟩)) ∧ V.cell? ⟨gL, 1, none⟩ = some (.int .i64 P.tail) ∧ V.cell? ⟨gL, 2, none⟩ = some (.slice (some ⟨hs, 0, none⟩) sp.length cc) ∧ V.cell? ⟨hs, k * 4 + 1, none⟩ = some (.int .i64 xa))
    (first | exact ⟨q0, q1, q2, c1⟩ | exact k2)
    (first | (go_at_call 117; refine (HSt.out _ (HH.out.drewN 1).1).mono ?_; rintro e w2 ⟨rfl, ha2, hm2⟩; have H2 := Lib.hid ((HH.out.drewN 1).arena ha2 hm2); have k2 := And.intro (((HH.out.drewN 1).cellL hm2 0).trans q0) (And.intro (((HH.out.drewN 1).cellL hm2 1).trans q1) (And.intro (((HH.out.drewN 1).cellL hm2 2).trans q2) (((HH.out.drewN 1).cellS hm2 (k * 4 + 1)).trans c1)))))
  have HM2 := Lib.hid ((HM.out.drewN 1).trans (RMs.of_r hm2 (by simp)))
  clear k2 ha2 hm2 q0 q1 q2 c0 c1 f0 f1
  obtain ⟨⟨cc, q0, q1, q2⟩, c0, c1, c2, cf⟩ := (H2).out.sets hk
  have f0 := cf (k * 4)
  have f1 := cf (k * 4 + 1)
  clear cf
  simp only at c0 c1
  rw [HP.out] at c0
  go_wp2_with fail
  go_ret
  exact ⟨rfl, by rw [HS2.out]; exact H2.out.put2 hk 0 (by omega) _ _ rfl, HM2.out.trans (RMs.of_mod ((Mod.refl _ _).setCell (by simp) _))⟩
set_option maxHeartbeats 4000000 in
set_option maxRecDepth 100000 in
theorem rstep_12b (ho : ρ.ops < 1000000) (hp : sp[k].pc = 12) (hc : (ρ.has P.tail && (ρ.get P.tail == (k : Int) + 1)) = false) (sp2 : List Sp) (h2 : sp2 = sp.set k { sp[k] with pc := 13 }) (ρ2 : Rf) (hρ : ρ2 = ρ.op 4 P.tail (ρ.get P.tail == (k : Int) + 1) 0) : Calls Tryz.prog 91 #[.pointer (some ⟨gL, 0, none⟩), .int .i64 (k : Int)] w fun e w' => e = .returned (.bool false) ∧ RLk w' gL gr base hs P ρ2 sp2 ∧ RMs base [gr, hs] w w' := by
  have hk1 : (k : Int) < (sp.length : Int) := by omega
  have hk2 : (0 : Int) ≤ (k : Int) := by omega
  have hk3 : decide ((k : Int) < 0) = false := decide_eq_false (by omega)
  have hk4 : decide ((sp.length : Int) ≤ (k : Int)) = false := decide_eq_false (by omega)
  obtain ⟨⟨cc, q0, q1, q2⟩, hl32⟩ := H.heads
  obtain ⟨c0, c1, c2, c3, cf⟩ := H.2.1.cells k hk
  have hlt := H.2.1.lt
  obtain ⟨xp, xa, xb, xc, hx⟩ : ∃ xp xa xb xc, sp[k] = ⟨xp, xa, xb, xc⟩ := ⟨_, _, _, _, rfl⟩
  have HH := H.self hk
  have HP := Lib.hid (show xp = 12 by rw [hx] at hp; exact hp)
  have HSF := Lib.hid (show sp.set k ⟨xp, xa, xb, xc⟩ = sp by rw [← hx, List.set_getElem_self])
  rw [hp] at c0
  simp only [hx] at HH c1 h2
  replace HH := Lib.hid HH
  obtain ⟨t1, t2⟩ := hP
  have ek : (k : Int) ≤ 31 := by omega
  have e1 : IntKind.i64.wrap ((k : Int) + 1) = (k : Int) + 1 := IntWalk.i64_in _ (by omega)
  have e2 : IntKind.i64.wrap (P.tail + 1) = P.tail + 1 := IntWalk.i64_in _ (by omega)
  have e3 : IntKind.i64.wrap (2 * (k : Int)) = 2 * (k : Int) := IntWalk.i64_in _ (by omega)
  have e4 : IntKind.i64.wrap (P.tail + 1 + 2 * (k : Int)) = P.tail + 1 + 2 * (k : Int) := IntWalk.i64_in _ (by omega)
  have e5 : IntKind.i64.wrap (P.tail + 2) = P.tail + 2 := IntWalk.i64_in _ (by omega)
  have e6 : IntKind.i64.wrap (P.tail + 2 + 2 * (k : Int)) = P.tail + 2 + 2 * (k : Int) := IntWalk.i64_in _ (by omega)
  have en : nx P ((k : Int) + 1) = P.tail + 1 + 2 * (k : Int) := by unfold nx; omega
  have ew : wt P ((k : Int) + 1) = P.tail + 2 + 2 * (k : Int) := by unfold wt; omega
  clear H hp c2 c3 cf hx
  have HSt := fun W (K : RfAt W gr base ρ) => rcas_any gr base ρ W K P.tail ho ((k : Int) + 1) 0
  rw [← hρ, hc] at HSt
  replace HSt := Lib.hid HSt
  have HS2 := Lib.hid h2
  clear hρ h2 en ew hc
  go_enter Tryz.func91, Tryz.ntmps91
  go_wp2_with fail
  go_quiet (fail)
  have HX := Lib.hid (HH.out.drewN nq)
  have HM := Lib.hid (show RMs base [gr, hs] w (w.drewN nq) from (RMs.refl _ _ _).drewN nq)
  clear HH q0 q1 q2 c0 c1
  have HH := HX
  clear HX
  generalize w.drewN nq = w0 at *
  obtain ⟨⟨cc, q0, q1, q2⟩, c0, c1, c2, cf⟩ := (HH).out.sets hk
  have f0 := cf (k * 4)
  have f1 := cf (k * 4 + 1)
  clear cf
  simp only at c0 c1
  rw [HP.out] at c0
  go_wp2_with fail
  go_region_held3 (fun V => V.cell? ⟨gL, 0, none⟩ = some (.pointer (some ⟨gr, 0, none⟩)) ∧ V.cell? ⟨gL, 1, none⟩ = some (.int .i64 P.tail) ∧ V.cell? ⟨gL, 2, none⟩ = some (.slice (some ⟨hs, 0, none⟩) sp.length cc) ∧ V.cell? ⟨hs, k * 4 + 1, none⟩ = some (.int .i64 xa))
    (first | exact ⟨q0, q1, q2, c1⟩ | exact k2)
    (first | (go_at_call 117; refine (HSt.out _ (HH.out.drewN 1).1).mono ?_; rintro e w2 ⟨rfl, ha2, hm2⟩; have H2 := Lib.hid ((HH.out.drewN 1).arena ha2 hm2); have k2 := And.intro (((HH.out.drewN 1).cellL hm2 0).trans q0) (And.intro (((HH.out.drewN 1).cellL hm2 1).trans q1) (And.intro (((HH.out.drewN 1).cellL hm2 2).trans q2) (((HH.out.drewN 1).cellS hm2 (k * 4 + 1)).trans c1)))))
  have HM2 := Lib.hid ((HM.out.drewN 1).trans (RMs.of_r hm2 (by simp)))
  clear k2 ha2 hm2 q0 q1 q2 c0 c1 f0 f1
  obtain ⟨⟨cc, q0, q1, q2⟩, c0, c1, c2, cf⟩ := (H2).out.sets hk
  have f0 := cf (k * 4)
  have f1 := cf (k * 4 + 1)
  clear cf
  simp only at c0 c1
  rw [HP.out] at c0
  go_wp2_with fail
  go_ret
  exact ⟨rfl, by rw [HS2.out]; exact H2.out.put2 hk 0 (by omega) _ _ rfl, HM2.out.trans (RMs.of_mod ((Mod.refl _ _).setCell (by simp) _))⟩
set_option maxHeartbeats 4000000 in
set_option maxRecDepth 100000 in
theorem rstep_14 (ho : ρ.ops < 1000000) (hp : sp[k].pc = 14) (hr : 0 ≤ sp[k].a ∧ sp[k].a ≤ 4096) (sp2 : List Sp) (h2 : sp2 = sp.set k { sp[k] with pc := 0 }) (ρ2 : Rf) (hρ : ρ2 = ρ.op 2 (wt P sp[k].a) true 0) : Calls Tryz.prog 91 #[.pointer (some ⟨gL, 0, none⟩), .int .i64 (k : Int)] w fun e w' => e = .returned (.bool true) ∧ RLk w' gL gr base hs P ρ2 sp2 ∧ RMs base [gr, hs] w w' := by
  have hk1 : (k : Int) < (sp.length : Int) := by omega
  have hk2 : (0 : Int) ≤ (k : Int) := by omega
  have hk3 : decide ((k : Int) < 0) = false := decide_eq_false (by omega)
  have hk4 : decide ((sp.length : Int) ≤ (k : Int)) = false := decide_eq_false (by omega)
  obtain ⟨⟨cc, q0, q1, q2⟩, hl32⟩ := H.heads
  obtain ⟨c0, c1, c2, c3, cf⟩ := H.2.1.cells k hk
  have hlt := H.2.1.lt
  obtain ⟨xp, xa, xb, xc, hx⟩ : ∃ xp xa xb xc, sp[k] = ⟨xp, xa, xb, xc⟩ := ⟨_, _, _, _, rfl⟩
  have HH := H.self hk
  have HP := Lib.hid (show xp = 14 by rw [hx] at hp; exact hp)
  have HSF := Lib.hid (show sp.set k ⟨xp, xa, xb, xc⟩ = sp by rw [← hx, List.set_getElem_self])
  rw [hp] at c0
  simp only [hx] at HH c1 h2 hρ hr
  replace HH := Lib.hid HH
  obtain ⟨t1, t2⟩ := hP
  have ek : (k : Int) ≤ 31 := by omega
  have e1 : IntKind.i64.wrap ((k : Int) + 1) = (k : Int) + 1 := IntWalk.i64_in _ (by omega)
  have e2 : IntKind.i64.wrap (P.tail + 1) = P.tail + 1 := IntWalk.i64_in _ (by omega)
  have e3 : IntKind.i64.wrap (2 * (k : Int)) = 2 * (k : Int) := IntWalk.i64_in _ (by omega)
  have e4 : IntKind.i64.wrap (P.tail + 1 + 2 * (k : Int)) = P.tail + 1 + 2 * (k : Int) := IntWalk.i64_in _ (by omega)
  have e5 : IntKind.i64.wrap (P.tail + 2) = P.tail + 2 := IntWalk.i64_in _ (by omega)
  have e6 : IntKind.i64.wrap (P.tail + 2 + 2 * (k : Int)) = P.tail + 2 + 2 * (k : Int) := IntWalk.i64_in _ (by omega)
  have en : nx P ((k : Int) + 1) = P.tail + 1 + 2 * (k : Int) := by unfold nx; omega
  have ew : wt P ((k : Int) + 1) = P.tail + 2 + 2 * (k : Int) := by unfold wt; omega
  clear H hp c2 c3 cf hx
  have HSt := fun W (K : RfAt W gr base ρ) => rstore_any gr base ρ W K (P.tail + 2 * xa) ho 0
  rw [show wt P xa = P.tail + 2 * xa from rfl] at hρ
  rw [← hρ] at HSt
  replace HSt := Lib.hid HSt
  have HS2 := Lib.hid h2
  have g1 : IntKind.i64.wrap (2 * xa) = 2 * xa := IntWalk.i64_in _ (by omega)
  have g2 : IntKind.i64.wrap (P.tail + 2 * xa) = P.tail + 2 * xa := IntWalk.i64_in _ (by omega)
  clear hρ h2 en ew
  go_enter Tryz.func91, Tryz.ntmps91
  go_wp2_with fail
  go_quiet (fail)
  have HX := Lib.hid (HH.out.drewN nq)
  have HM := Lib.hid (show RMs base [gr, hs] w (w.drewN nq) from (RMs.refl _ _ _).drewN nq)
  clear HH q0 q1 q2 c0 c1
  have HH := HX
  clear HX
  generalize w.drewN nq = w0 at *
  obtain ⟨⟨cc, q0, q1, q2⟩, c0, c1, c2, cf⟩ := (HH).out.sets hk
  have f0 := cf (k * 4)
  have f1 := cf (k * 4 + 1)
  clear cf
  simp only at c0 c1
  rw [HP.out] at c0
  go_wp2_with fail
  go_region_held3 (fun V => V.cell? ⟨gL, 0, none⟩ = some (.pointer (some ⟨gr, 0, none⟩)) ∧ V.cell? ⟨gL, 1, none⟩ = some (.int .i64 P.tail) ∧ V.cell? ⟨gL, 2, none⟩ = some (.slice (some ⟨hs, 0, none⟩) sp.length cc) ∧ V.cell? ⟨hs, k * 4 + 1, none⟩ = some (.int .i64 xa))
    (first | exact ⟨q0, q1, q2, c1⟩ | exact k2)
    (first | (go_at_call 87; refine (HSt.out _ (HH.out.drewN 1).1).mono ?_; rintro e w2 ⟨rfl, ha2, hm2⟩; have H2 := Lib.hid ((HH.out.drewN 1).arena ha2 hm2); have k2 := And.intro (((HH.out.drewN 1).cellL hm2 0).trans q0) (And.intro (((HH.out.drewN 1).cellL hm2 1).trans q1) (And.intro (((HH.out.drewN 1).cellL hm2 2).trans q2) (((HH.out.drewN 1).cellS hm2 (k * 4 + 1)).trans c1)))))
  have HM2 := Lib.hid ((HM.out.drewN 1).trans (RMs.of_r hm2 (by simp)))
  clear k2 ha2 hm2 q0 q1 q2 c0 c1 f0 f1
  obtain ⟨⟨cc, q0, q1, q2⟩, c0, c1, c2, cf⟩ := (H2).out.sets hk
  have f0 := cf (k * 4)
  have f1 := cf (k * 4 + 1)
  clear cf
  simp only at c0 c1
  rw [HP.out] at c0
  go_wp2_with fail
  go_ret
  exact ⟨rfl, by rw [HS2.out]; exact H2.out.put2 hk 0 (by omega) _ _ rfl, HM2.out.trans (RMs.of_mod ((Mod.refl _ _).setCell (by simp) _))⟩
set_option maxHeartbeats 4000000 in
set_option maxRecDepth 100000 in
theorem rstep_n0 (hp : sp[k].pc = 0) : Calls Tryz.prog 91 #[.pointer (some ⟨gL, 0, none⟩), .int .i64 (k : Int)] w fun e w' => e = .returned (.bool false) ∧ RLk w' gL gr base hs P ρ sp ∧ RMs base [gr, hs] w w' := by
  have hT : True := trivial
  have hk1 : (k : Int) < (sp.length : Int) := by omega
  have hk2 : (0 : Int) ≤ (k : Int) := by omega
  have hk3 : decide ((k : Int) < 0) = false := decide_eq_false (by omega)
  have hk4 : decide ((sp.length : Int) ≤ (k : Int)) = false := decide_eq_false (by omega)
  obtain ⟨⟨cc, q0, q1, q2⟩, hl32⟩ := H.heads
  obtain ⟨c0, c1, c2, c3, cf⟩ := H.2.1.cells k hk
  have hlt := H.2.1.lt
  obtain ⟨xp, xa, xb, xc, hx⟩ : ∃ xp xa xb xc, sp[k] = ⟨xp, xa, xb, xc⟩ := ⟨_, _, _, _, rfl⟩
  have HH := H.self hk
  have HP := Lib.hid (show xp = 0 by rw [hx] at hp; exact hp)
  have HSF := Lib.hid (show sp.set k ⟨xp, xa, xb, xc⟩ = sp by rw [← hx, List.set_getElem_self])
  rw [hp] at c0
  simp only [hx] at HH c1 
  replace HH := Lib.hid HH
  obtain ⟨t1, t2⟩ := hP
  have ek : (k : Int) ≤ 31 := by omega
  have e1 : IntKind.i64.wrap ((k : Int) + 1) = (k : Int) + 1 := IntWalk.i64_in _ (by omega)
  have e2 : IntKind.i64.wrap (P.tail + 1) = P.tail + 1 := IntWalk.i64_in _ (by omega)
  have e3 : IntKind.i64.wrap (2 * (k : Int)) = 2 * (k : Int) := IntWalk.i64_in _ (by omega)
  have e4 : IntKind.i64.wrap (P.tail + 1 + 2 * (k : Int)) = P.tail + 1 + 2 * (k : Int) := IntWalk.i64_in _ (by omega)
  have e5 : IntKind.i64.wrap (P.tail + 2) = P.tail + 2 := IntWalk.i64_in _ (by omega)
  have e6 : IntKind.i64.wrap (P.tail + 2 + 2 * (k : Int)) = P.tail + 2 + 2 * (k : Int) := IntWalk.i64_in _ (by omega)
  have en : nx P ((k : Int) + 1) = P.tail + 1 + 2 * (k : Int) := by unfold nx; omega
  have ew : wt P ((k : Int) + 1) = P.tail + 2 + 2 * (k : Int) := by unfold wt; omega
  clear H hp c2 c3 cf hx
  clear en ew
  go_enter Tryz.func91, Tryz.ntmps91
  go_wp2_with fail
  go_quiet (fail)
  have HX := Lib.hid (HH.out.drewN nq)
  have HM := Lib.hid (show RMs base [gr, hs] w (w.drewN nq) from (RMs.refl _ _ _).drewN nq)
  clear HH q0 q1 q2 c0 c1
  have HH := HX
  clear HX
  generalize w.drewN nq = w0 at *
  obtain ⟨⟨cc, q0, q1, q2⟩, c0, c1, c2, cf⟩ := (HH).out.sets hk
  have f0 := cf (k * 4)
  have f1 := cf (k * 4 + 1)
  clear cf
  simp only at c0 c1
  rw [HP.out] at c0
  go_wp2_with fail
  have H2 := HH
  have HM2 := HM
  go_ret
  exact ⟨rfl, by rw [← HSF.out, ← HP.out]; exact H2.out.put2 hk 0 (by omega) _ _ rfl, HM2.out.trans (RMs.of_mod ((Mod.refl _ _).setCell (by simp) _))⟩
set_option maxHeartbeats 4000000 in
set_option maxRecDepth 100000 in
theorem rstep_n10 (hp : sp[k].pc = 10) : Calls Tryz.prog 91 #[.pointer (some ⟨gL, 0, none⟩), .int .i64 (k : Int)] w fun e w' => e = .returned (.bool false) ∧ RLk w' gL gr base hs P ρ sp ∧ RMs base [gr, hs] w w' := by
  have hT : True := trivial
  have hk1 : (k : Int) < (sp.length : Int) := by omega
  have hk2 : (0 : Int) ≤ (k : Int) := by omega
  have hk3 : decide ((k : Int) < 0) = false := decide_eq_false (by omega)
  have hk4 : decide ((sp.length : Int) ≤ (k : Int)) = false := decide_eq_false (by omega)
  obtain ⟨⟨cc, q0, q1, q2⟩, hl32⟩ := H.heads
  obtain ⟨c0, c1, c2, c3, cf⟩ := H.2.1.cells k hk
  have hlt := H.2.1.lt
  obtain ⟨xp, xa, xb, xc, hx⟩ : ∃ xp xa xb xc, sp[k] = ⟨xp, xa, xb, xc⟩ := ⟨_, _, _, _, rfl⟩
  have HH := H.self hk
  have HP := Lib.hid (show xp = 10 by rw [hx] at hp; exact hp)
  have HSF := Lib.hid (show sp.set k ⟨xp, xa, xb, xc⟩ = sp by rw [← hx, List.set_getElem_self])
  rw [hp] at c0
  simp only [hx] at HH c1 
  replace HH := Lib.hid HH
  obtain ⟨t1, t2⟩ := hP
  have ek : (k : Int) ≤ 31 := by omega
  have e1 : IntKind.i64.wrap ((k : Int) + 1) = (k : Int) + 1 := IntWalk.i64_in _ (by omega)
  have e2 : IntKind.i64.wrap (P.tail + 1) = P.tail + 1 := IntWalk.i64_in _ (by omega)
  have e3 : IntKind.i64.wrap (2 * (k : Int)) = 2 * (k : Int) := IntWalk.i64_in _ (by omega)
  have e4 : IntKind.i64.wrap (P.tail + 1 + 2 * (k : Int)) = P.tail + 1 + 2 * (k : Int) := IntWalk.i64_in _ (by omega)
  have e5 : IntKind.i64.wrap (P.tail + 2) = P.tail + 2 := IntWalk.i64_in _ (by omega)
  have e6 : IntKind.i64.wrap (P.tail + 2 + 2 * (k : Int)) = P.tail + 2 + 2 * (k : Int) := IntWalk.i64_in _ (by omega)
  have en : nx P ((k : Int) + 1) = P.tail + 1 + 2 * (k : Int) := by unfold nx; omega
  have ew : wt P ((k : Int) + 1) = P.tail + 2 + 2 * (k : Int) := by unfold wt; omega
  clear H hp c2 c3 cf hx
  clear en ew
  go_enter Tryz.func91, Tryz.ntmps91
  go_wp2_with fail
  go_quiet (fail)
  have HX := Lib.hid (HH.out.drewN nq)
  have HM := Lib.hid (show RMs base [gr, hs] w (w.drewN nq) from (RMs.refl _ _ _).drewN nq)
  clear HH q0 q1 q2 c0 c1
  have HH := HX
  clear HX
  generalize w.drewN nq = w0 at *
  obtain ⟨⟨cc, q0, q1, q2⟩, c0, c1, c2, cf⟩ := (HH).out.sets hk
  have f0 := cf (k * 4)
  have f1 := cf (k * 4 + 1)
  clear cf
  simp only at c0 c1
  rw [HP.out] at c0
  go_wp2_with fail
  have H2 := HH
  have HM2 := HM
  go_ret
  exact ⟨rfl, by rw [← HSF.out, ← HP.out]; exact H2.out.put2 hk 0 (by omega) _ _ rfl, HM2.out.trans (RMs.of_mod ((Mod.refl _ _).setCell (by simp) _))⟩
set_option maxHeartbeats 4000000 in
set_option maxRecDepth 100000 in
theorem ralone_yes (ho : ρ.ops < 1000000) (hp : sp[k].pc = 10) (ρ2 : Rf) (hρ : ρ2 = ρ.op 1 (nx P ((k : Int) + 1)) false 0) : Calls Tryz.prog 105 #[.pointer (some ⟨gL, 0, none⟩), .int .i64 (k : Int)] w fun e w' => e = .returned (.bool (ρ.get (nx P ((k : Int) + 1)) == 0)) ∧ RLk w' gL gr base hs P ρ2 sp ∧ RMs base [gr, hs] w w' := by
  have hT : True := trivial
  have hk1 : (k : Int) < (sp.length : Int) := by omega
  have hk2 : (0 : Int) ≤ (k : Int) := by omega
  have hk3 : decide ((k : Int) < 0) = false := decide_eq_false (by omega)
  have hk4 : decide ((sp.length : Int) ≤ (k : Int)) = false := decide_eq_false (by omega)
  obtain ⟨⟨cc, q0, q1, q2⟩, hl32⟩ := H.heads
  obtain ⟨c0, c1, c2, c3, cf⟩ := H.2.1.cells k hk
  have hlt := H.2.1.lt
  obtain ⟨xp, xa, xb, xc, hx⟩ : ∃ xp xa xb xc, sp[k] = ⟨xp, xa, xb, xc⟩ := ⟨_, _, _, _, rfl⟩
  have HH := H.self hk
  have HP := Lib.hid (show xp = 10 by rw [hx] at hp; exact hp)
  have HSF := Lib.hid (show sp.set k ⟨xp, xa, xb, xc⟩ = sp by rw [← hx, List.set_getElem_self])
  rw [hp] at c0
  simp only [hx] at HH c1 
  replace HH := Lib.hid HH
  obtain ⟨t1, t2⟩ := hP
  have ek : (k : Int) ≤ 31 := by omega
  have e1 : IntKind.i64.wrap ((k : Int) + 1) = (k : Int) + 1 := IntWalk.i64_in _ (by omega)
  have e2 : IntKind.i64.wrap (P.tail + 1) = P.tail + 1 := IntWalk.i64_in _ (by omega)
  have e3 : IntKind.i64.wrap (2 * (k : Int)) = 2 * (k : Int) := IntWalk.i64_in _ (by omega)
  have e4 : IntKind.i64.wrap (P.tail + 1 + 2 * (k : Int)) = P.tail + 1 + 2 * (k : Int) := IntWalk.i64_in _ (by omega)
  have e5 : IntKind.i64.wrap (P.tail + 2) = P.tail + 2 := IntWalk.i64_in _ (by omega)
  have e6 : IntKind.i64.wrap (P.tail + 2 + 2 * (k : Int)) = P.tail + 2 + 2 * (k : Int) := IntWalk.i64_in _ (by omega)
  have en : nx P ((k : Int) + 1) = P.tail + 1 + 2 * (k : Int) := by unfold nx; omega
  have ew : wt P ((k : Int) + 1) = P.tail + 2 + 2 * (k : Int) := by unfold wt; omega
  clear H hp c2 c3 cf hx
  have HSt := fun W (K : RfAt W gr base ρ) => rload_any gr base ρ W K (P.tail + 1 + 2 * (k : Int)) ho
  rw [← en, ← hρ, en] at HSt
  rw [en]
  generalize ρ.get (P.tail + 1 + 2 * (k : Int)) = y at HSt ⊢
  replace HSt := Lib.hid HSt
  clear hρ en ew
  have HM := Lib.hid (RMs.refl base [gr, hs] w)
  go_enter Tryz.func105, Tryz.ntmps105
  go_wp2_with fail
  go_region_held3 (fun V => V.cell? ⟨gL, 0, none⟩ = some (.pointer (some ⟨gr, 0, none⟩)) ∧ V.cell? ⟨gL, 1, none⟩ = some (.int .i64 P.tail) ∧ V.cell? ⟨gL, 2, none⟩ = some (.slice (some ⟨hs, 0, none⟩) sp.length cc) ∧ V.cell? ⟨hs, k * 4 + 1, none⟩ = some (.int .i64 xa))
    (first | exact ⟨q0, q1, q2, c1⟩ | exact k2)
    (first | (go_at_call 119; refine (HSt.out _ (HH.out.drewN 1).1).mono ?_; rintro e w2 ⟨rfl, ha2, hm2⟩; have H2 := Lib.hid ((HH.out.drewN 1).arena ha2 hm2); have k2 := And.intro (((HH.out.drewN 1).cellL hm2 0).trans q0) (And.intro (((HH.out.drewN 1).cellL hm2 1).trans q1) (And.intro (((HH.out.drewN 1).cellL hm2 2).trans q2) (((HH.out.drewN 1).cellS hm2 (k * 4 + 1)).trans c1)))))
  have HM2 := Lib.hid ((HM.out.drewN 1).trans (RMs.of_r hm2 (by simp)))
  clear k2 ha2 hm2 q0 q1 q2 c0 c1
  go_wp2_with fail
  go_ret
  exact ⟨rfl, by rw [← HSF.out]; exact H2.out, HM2.out⟩
end
end Go.Proofs.YthffhhgaeolpgaaGreat.Mc

