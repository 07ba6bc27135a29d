/- Merged texts: Rml, Rcl, Rcm. -/
import Derived.Test.YthffhhgaeolpgaaGreatGq15
set_option linter.unusedVariables false
/- The document's lock of layer 18: each act, whole. -/
namespace Go.Proofs.YthffhhgaeolpgaaGreat.Mc
open Go.RowKit Go.Proofs.YthffhhgaeolpgaaGreat.Ara Go.Proofs.YthffhhgaeolpgaaGreat.Lok

def RAft (gL gr base hs : Nat) (P : Par) (r : Bool × Ar × List Sp) (w : World) (e : Ending) (w' : World) : Prop :=
  e = .returned (.bool r.1) ∧ (∃ ρ', Alk r.2.1 ρ' ∧ RLk w' gL gr base hs P ρ' r.2.2) ∧ RMs base [gr, hs] w w'
section
variable (gL gr base hs : Nat) (P : Par) (σ : Ar) (ρ : Rf) (sp : List Sp) (w : World) (H : RLk w gL gr base hs P ρ sp) (hA : Alk σ ρ) (i : Int)
include H hA
theorem rask : Calls Tryz.prog 96 #[.pointer (some ⟨gL, 0, none⟩), .int .i64 i] w (RAft gL gr base hs P (turnB sp i 0, σ, turnS sp i 0 1) w) := by
  by_cases hi : i < 0 ∨ (sp.length : Int) ≤ i
  · refine (rask_out gL gr base hs P ρ sp w H i hi).mono ?_
    rintro e w' ⟨rfl, rfl⟩
    rw [turn_out hi, turnS_out hi]
    exact ⟨rfl, ⟨ρ, hA, H⟩, RMs.refl _ _ _⟩
  · obtain ⟨k, rfl⟩ := Int.eq_ofNat_of_zero_le (show 0 ≤ i by omega)
    have hk : k < sp.length := by omega
    rw [turn_in hk, turnS_in hk]
    by_cases hp : sp[k].pc = 0
    · rw [show (sp[k].pc == 0) = true from by simpa using hp, if_pos hp]
      refine (rask_yes gL gr base hs P ρ sp w H k hk hp _ rfl).mono ?_
      rintro e w' ⟨rfl, h1, h2⟩
      exact ⟨rfl, ⟨ρ, hA, h1⟩, RMs.of_mod (h2.sub (by simp))⟩
    · rw [show (sp[k].pc == 0) = false from by simpa using hp, if_neg hp]
      refine (rask_no gL gr base hs P ρ sp w H k hk hp).mono ?_
      rintro e w' ⟨rfl, rfl⟩
      exact ⟨rfl, ⟨ρ, hA, H⟩, RMs.refl _ _ _⟩
theorem rleave : Calls Tryz.prog 101 #[.pointer (some ⟨gL, 0, none⟩), .int .i64 i] w (RAft gL gr base hs P (turnB sp i 10, σ, turnS sp i 10 11) w) := by
  by_cases hi : i < 0 ∨ (sp.length : Int) ≤ i
  · refine (rleave_out gL gr base hs P ρ sp w H i hi).mono ?_
    rintro e w' ⟨rfl, rfl⟩
    rw [turn_out hi, turnS_out hi]
    exact ⟨rfl, ⟨ρ, hA, H⟩, RMs.refl _ _ _⟩
  · obtain ⟨k, rfl⟩ := Int.eq_ofNat_of_zero_le (show 0 ≤ i by omega)
    have hk : k < sp.length := by omega
    rw [turn_in hk, turnS_in hk]
    by_cases hp : sp[k].pc = 10
    · rw [show (sp[k].pc == 10) = true from by simpa using hp, if_pos hp]
      refine (rleave_yes gL gr base hs P ρ sp w H k hk hp _ rfl).mono ?_
      rintro e w' ⟨rfl, h1, h2⟩
      exact ⟨rfl, ⟨ρ, hA, h1⟩, RMs.of_mod (h2.sub (by simp))⟩
    · rw [show (sp[k].pc == 10) = false from by simpa using hp, if_neg hp]
      refine (rleave_no gL gr base hs P ρ sp w H k hk hp).mono ?_
      rintro e w' ⟨rfl, rfl⟩
      exact ⟨rfl, ⟨ρ, hA, H⟩, RMs.refl _ _ _⟩
end

section
variable (gL gr base hs : Nat) (P : Par) (σ : Ar) (ρ : Rf) (sp : List Sp) (w : World) (H : RLk w gL gr base hs P ρ sp) (hA : Alk σ ρ)
include H hA
theorem ralone (hN : Num P σ sp) (ho : σ.ops < 1000000) (i : Int) : Calls Tryz.prog 105 #[.pointer (some ⟨gL, 0, none⟩), .int .i64 i] w (RAft gL gr base hs P ((aloneP P σ sp i).1, (aloneP P σ sp i).2, sp) w) := by
  have hro : ρ.ops < 1000000 := by have := hA.2.2.2.2.1; omega
  by_cases hi : i < 0 ∨ (sp.length : Int) ≤ i
  · refine (ralone_outr gL gr base hs P ρ sp w H i hi).mono ?_
    rintro e w' ⟨rfl, rfl⟩
    have e : aloneP P σ sp i = (false, σ) := by unfold aloneP; rw [spOf_out hi, if_neg (by decide)]
    rw [e]
    exact ⟨rfl, ⟨ρ, hA, H⟩, RMs.refl _ _ _⟩
  obtain ⟨k, rfl⟩ := Int.eq_ofNat_of_zero_le (show 0 ≤ i by omega)
  have hk : k < sp.length := by omega
  unfold aloneP
  rw [spOf_in hk]
  by_cases hp : sp[k].pc = 10
  · rw [if_pos hp]
    refine (ralone_yes gL gr base hs P ρ sp w H hN.1 k hk hro hp _ rfl).mono ?_
    rintro e w' ⟨rfl, h1, h2⟩
    rw [hA.get]
    exact ⟨rfl, ⟨_, hA.op 1 _ _ _, h1⟩, h2⟩
  · rw [if_neg hp]
    refine (ralone_no gL gr base hs P ρ sp w H k hk hp).mono ?_
    rintro e w' ⟨rfl, rfl⟩
    exact ⟨rfl, ⟨ρ, hA, H⟩, RMs.refl _ _ _⟩
theorem rstep (hN : Num P σ sp) (ho : σ.ops < 1000000) (i : Int) : Calls Tryz.prog 91 #[.pointer (some ⟨gL, 0, none⟩), .int .i64 i] w (RAft gL gr base hs P (stepP P σ sp i) w) := by
  have hro : ρ.ops < 1000000 := by have := hA.2.2.2.2.1; omega
  by_cases hi : i < 0 ∨ (sp.length : Int) ≤ i
  · refine (rstep_outr gL gr base hs P ρ sp w H i hi).mono ?_
    rintro e w' ⟨rfl, rfl⟩
    have e : stepP P σ sp i = (false, σ, sp) := by unfold stepP; rw [spOf_out hi, if_neg (by decide), if_neg (by decide), if_neg (by decide), if_neg (by decide), if_neg (by decide), if_neg (by decide), if_neg (by decide), if_neg (by decide), if_neg (by decide)]
    rw [e]
    exact ⟨rfl, ⟨ρ, hA, H⟩, RMs.refl _ _ _⟩
  obtain ⟨k, rfl⟩ := Int.eq_ofNat_of_zero_le (show 0 ≤ i by omega)
  have hk : k < sp.length := by omega
  have hP := hN.1
  have hr := (hN.2.1 k hk).1
  unfold stepP
  rw [spOf_in hk]
  simp only [Int.toNat_natCast]
  by_cases h1 : sp[k].pc = 1
  · rw [if_pos h1]
    refine (rstep_1 gL gr base hs P ρ sp w H hP k hk hro h1 _ rfl _ rfl).mono ?_
    rintro e w' ⟨rfl, h1, h2⟩
    exact ⟨rfl, ⟨_, hA.op 2 _ _ _, h1⟩, h2⟩
  rw [if_neg h1]
  by_cases h2 : sp[k].pc = 2
  · rw [if_pos h2]
    refine (rstep_2 gL gr base hs P ρ sp w H hP k hk hro h2 _ rfl _ rfl).mono ?_
    rintro e w' ⟨rfl, h1, h2⟩
    exact ⟨rfl, ⟨_, hA.op 2 _ _ _, h1⟩, h2⟩
  rw [if_neg h2]
  by_cases h3 : sp[k].pc = 3
  · rw [if_pos h3]
    by_cases hc : σ.get P.tail = 0
    · have hc2 : ρ.get P.tail = 0 := by rw [hA.get]; exact hc
      refine (rstep_3a gL gr base hs P ρ sp w H hP k hk hro h3 hc2 _ rfl _ rfl).mono ?_
      rintro e w' ⟨rfl, h1, h2⟩
      rw [hA.get] at h1; rw [if_pos hc]
      exact ⟨by rw [show (σ.get P.tail == 0) = true from by simpa using hc], ⟨_, hA.op 3 _ _ _, h1⟩, h2⟩
    · have hc2 : ¬ ρ.get P.tail = 0 := by rw [hA.get]; exact hc
      refine (rstep_3b gL gr base hs P ρ sp w H hP k hk hro h3 hc2 _ rfl _ rfl).mono ?_
      rintro e w' ⟨rfl, h1, h2⟩
      rw [hA.get] at h1; rw [if_neg hc]
      exact ⟨by rw [show (σ.get P.tail == 0) = false from by simpa using hc], ⟨_, hA.op 3 _ _ _, h1⟩, h2⟩
  rw [if_neg h3]
  by_cases h4 : sp[k].pc = 4
  · rw [if_pos h4]
    refine (rstep_4 gL gr base hs P ρ sp w H hP k hk hro h4 hr _ rfl _ rfl).mono ?_
    rintro e w' ⟨rfl, h1, h2⟩
    exact ⟨rfl, ⟨_, hA.op 2 _ _ _, h1⟩, h2⟩
  rw [if_neg h4]
  by_cases h5 : sp[k].pc = 5
  · rw [if_pos h5]
    by_cases hc : σ.get (wt P ((k : Int) + 1)) = 0
    · have hc2 : ρ.get (wt P ((k : Int) + 1)) = 0 := by rw [hA.get]; exact hc
      refine (rstep_5a gL gr base hs P ρ sp w H hP k hk hro h5 hc2 _ rfl _ rfl).mono ?_
      rintro e w' ⟨rfl, h1, h2⟩
      rw [if_pos hc]
      exact ⟨by rw [show (σ.get (wt P ((k : Int) + 1)) == 0) = true from by simpa using hc], ⟨_, hA.op 1 _ _ _, h1⟩, h2⟩
    · have hc2 : ¬ ρ.get (wt P ((k : Int) + 1)) = 0 := by rw [hA.get]; exact hc
      refine (rstep_5b gL gr base hs P ρ sp w H hP k hk hro h5 hc2 _ rfl _ rfl).mono ?_
      rintro e w' ⟨rfl, h1, h2⟩
      rw [if_neg hc]
      exact ⟨by rw [show (σ.get (wt P ((k : Int) + 1)) == 0) = false from by simpa using hc], ⟨_, hA.op 1 _ _ _, h1⟩, h2⟩
  rw [if_neg h5]
  by_cases h11 : sp[k].pc = 11
  · rw [if_pos h11]
    by_cases hc : σ.get (nx P ((k : Int) + 1)) = 0
    · have hc2 : ρ.get (nx P ((k : Int) + 1)) = 0 := by rw [hA.get]; exact hc
      refine (rstep_11a gL gr base hs P ρ sp w H hP k hk hro h11 hc2 _ rfl _ rfl).mono ?_
      rintro e w' ⟨rfl, h1, h2⟩
      rw [hA.get] at h1; rw [if_pos hc]
      exact ⟨rfl, ⟨_, hA.op 1 _ _ _, h1⟩, h2⟩
    · have hc2 : ¬ ρ.get (nx P ((k : Int) + 1)) = 0 := by rw [hA.get]; exact hc
      refine (rstep_11b gL gr base hs P ρ sp w H hP k hk hro h11 hc2 _ rfl _ rfl).mono ?_
      rintro e w' ⟨rfl, h1, h2⟩
      rw [hA.get] at h1; rw [if_neg hc]
      exact ⟨rfl, ⟨_, hA.op 1 _ _ _, h1⟩, h2⟩
  rw [if_neg h11]
  by_cases h12 : sp[k].pc = 12
  · rw [if_pos h12]
    have hal := cas_same hA P.tail ((k : Int) + 1) 0
    cases hc : (σ.has P.tail && (σ.get P.tail == (k : Int) + 1)) with
    | true =>
      rw [hc] at hal
      simp only [if_true]
      refine (rstep_12a gL gr base hs P ρ sp w H hP k hk hro h12 (by rw [hA.has, hA.get]; exact hc) _ rfl _ rfl).mono ?_
      rintro e w' ⟨rfl, h1, h2⟩
      exact ⟨rfl, ⟨_, hal, h1⟩, h2⟩
    | false =>
      rw [hc] at hal
      simp only [Bool.false_eq_true, if_false]
      refine (rstep_12b gL gr base hs P ρ sp w H hP k hk hro h12 (by rw [hA.has, hA.get]; exact hc) _ rfl _ rfl).mono ?_
      rintro e w' ⟨rfl, h1, h2⟩
      exact ⟨rfl, ⟨_, hal, h1⟩, h2⟩
  rw [if_neg h12]
  by_cases h13 : sp[k].pc = 13
  · rw [if_pos h13]
    by_cases hc : σ.get (nx P ((k : Int) + 1)) = 0
    · have hc2 : ρ.get (nx P ((k : Int) + 1)) = 0 := by rw [hA.get]; exact hc
      refine (rstep_13a gL gr base hs P ρ sp w H hP k hk hro h13 hc2 _ rfl _ rfl).mono ?_
      rintro e w' ⟨rfl, h1, h2⟩
      rw [hA.get] at h1; rw [if_pos hc]
      exact ⟨rfl, ⟨_, hA.op 1 _ _ _, h1⟩, h2⟩
    · have hc2 : ¬ ρ.get (nx P ((k : Int) + 1)) = 0 := by rw [hA.get]; exact hc
      refine (rstep_13b gL gr base hs P ρ sp w H hP k hk hro h13 hc2 _ rfl _ rfl).mono ?_
      rintro e w' ⟨rfl, h1, h2⟩
      rw [hA.get] at h1; rw [if_neg hc]
      exact ⟨rfl, ⟨_, hA.op 1 _ _ _, h1⟩, h2⟩
  rw [if_neg h13]
  by_cases h14 : sp[k].pc = 14
  · rw [if_pos h14]
    refine (rstep_14 gL gr base hs P ρ sp w H hP k hk hro h14 hr _ rfl _ rfl).mono ?_
    rintro e w' ⟨rfl, h1, h2⟩
    exact ⟨rfl, ⟨_, hA.op 2 _ _ _, h1⟩, h2⟩
  rw [if_neg h14]
  have hpc := (hN.2.1 k hk).2
  unfold pcOk at hpc
  rcases (show sp[k].pc = 0 ∨ sp[k].pc = 10 by omega) with h0 | h0
  · refine (rstep_n0 gL gr base hs P ρ sp w H hP k hk h0).mono ?_
    rintro e w' ⟨rfl, h1, h2⟩
    exact ⟨rfl, ⟨ρ, hA, h1⟩, h2⟩
  · refine (rstep_n10 gL gr base hs P ρ sp w H hP k hk h0).mono ?_
    rintro e w' ⟨rfl, h1, h2⟩
    exact ⟨rfl, ⟨ρ, hA, h1⟩, h2⟩
end
end Go.Proofs.YthffhhgaeolpgaaGreat.Mc

/- The document's lock of layer 19, in memory: what its methods do. -/
namespace Go.Proofs.YthffhhgaeolpgaaGreat.Cl
open Go.RowKit Go.Proofs.YthffhhgaeolpgaaGreat.Ara Go.Proofs.YthffhhgaeolpgaaGreat.Lok

def RLk (W : World) (gL gr base hs : Nat) (P : Par) (ρ : Rf) (sp : List Sp) : Prop :=
  RfAt W gr base ρ ∧ SpAt W hs sp ∧ sp.length ≤ 32 ∧ (∃ c : Nat, W.heap[gL]? = some (.cells #[.pointer (some ⟨gr, 0, none⟩), .int .i64 P.tail, .slice (some ⟨hs, 0, none⟩) sp.length c] 147 (0, 0))) ∧ gL ≠ gr ∧ gL ≠ hs ∧ hs ≠ gr
theorem RLk.rms {base : Nat} {S : List Nat} {W W' : World} {gL gr hs : Nat} {P : Par} {ρ ρ' : Rf} {sp : List Sp} (k : RLk W gL gr base hs P ρ sp) (hr : RfAt W' gr base ρ') (hm : RMs base S W W') (h1 : gL ∉ S) (h2 : hs ∉ S) : RLk W' gL gr base hs P ρ' sp := by
  obtain ⟨_, k2, k3, ⟨c, k4⟩, k5⟩ := k
  exact ⟨hr, k2.rms hm h2, k3, ⟨c, (hm.blk k4 (by decide) h1).trans k4⟩, k5⟩
theorem RLk.mod {base : Nat} {S : List Nat} {W W' : World} {gL gr hs : Nat} {P : Par} {ρ : Rf} {sp : List Sp} (k : RLk W gL gr base hs P ρ sp) (hm : Mod S W W') (h : ∀ x ∈ S, x ≠ gr ∧ ¬ IntRow W x) (h1 : gL ∉ S) (h2 : hs ∉ S) : RLk W' gL gr base hs P ρ sp := by
  obtain ⟨k1, k2, k3, ⟨c, k4⟩, k5⟩ := k
  exact ⟨rf_mod k1 hm h, k2.mod hm h2, k3, ⟨c, hm.blk k4 h1⟩, k5⟩
theorem RLk.same {base : Nat} {W W' : World} {gL gr hs : Nat} {P : Par} {ρ : Rf} {sp : List Sp} (k : RLk W gL gr base hs P ρ sp) (hb : Below W.heap.size W W') : RLk W' gL gr base hs P ρ sp := k.mod (S := []) (Mod.of_below hb) (by simp) (by simp) (by simp)
theorem RLk.drewN {base : Nat} {W : World} {gL gr hs : Nat} {P : Par} {ρ : Rf} {sp : List Sp} (k : RLk W gL gr base hs P ρ sp) (n : Nat) : RLk (W.drewN n) gL gr base hs P ρ sp := k
theorem RLk.drew {base : Nat} {W : World} {gL gr hs : Nat} {P : Par} {ρ : Rf} {sp : List Sp} (k : RLk W gL gr base hs P ρ sp) : RLk W.drew gL gr base hs P ρ sp := k
theorem RLk.arena {base : Nat} {W W' : World} {gL gr hs : Nat} {P : Par} {ρ ρ' : Rf} {sp : List Sp} (k : RLk W gL gr base hs P ρ sp) (hr : RfAt W' gr base ρ') (hm : RMod base gr W W') : RLk W' gL gr base hs P ρ' sp := by
  obtain ⟨d1, d2, d3⟩ := k.2.2.2.2
  exact k.rms (S := [gr]) hr (RMs.of_r hm (by simp)) (by simp; omega) (by simp; omega)
theorem RLk.cellL {base : Nat} {W W' : World} {gL gr hs : Nat} {P : Par} {ρ : Rf} {sp : List Sp} (k : RLk W gL gr base hs P ρ sp) (hm : RMod base gr W W') (j : Nat) : W'.cell? ⟨gL, j, none⟩ = W.cell? ⟨gL, j, none⟩ := by
  obtain ⟨d1, d2, d3⟩ := k.2.2.2.2
  obtain ⟨_, _, _, ⟨c, k4⟩, _⟩ := k
  have := (RMs.of_r (S := [gr]) hm (by simp)).blk k4 (by decide) (by simp; omega)
  unfold World.cell?
  rw [this]
theorem RLk.cellS {base : Nat} {W W' : World} {gL gr hs : Nat} {P : Par} {ρ : Rf} {sp : List Sp} (k : RLk W gL gr base hs P ρ sp) (hm : RMod base gr W W') (j : Nat) : W'.cell? ⟨hs, j, none⟩ = W.cell? ⟨hs, j, none⟩ := by
  obtain ⟨d1, d2, d3⟩ := k.2.2.2.2
  obtain ⟨cur, k4, _⟩ := k.2.1
  have := (RMs.of_r (S := [gr]) hm (by simp)).blk k4 (by decide) (by simp; omega)
  unfold World.cell?
  rw [this]
theorem RLk.put {base : Nat} {W : World} {gL gr hs : Nat} {P : Par} {ρ : Rf} {sp : List Sp} (k : RLk W gL gr base hs P ρ sp) (i : Nat) (hi : i < sp.length) (j : Nat) (hj : j < 4) (v : Value) (s' : Sp) (hv : decSp s' = (decSp sp[i]).set j v) : RLk (W.setCell ⟨hs, i * 4 + j, none⟩ v) gL gr base hs P ρ (sp.set i s') := by
  have hm : Mod [hs] W (W.setCell ⟨hs, i * 4 + j, none⟩ v) := (Mod.refl _ _).setCell (by simp) _
  obtain ⟨k1, k2, k3, ⟨c, k4⟩, d1, d2, d3⟩ := k
  refine ⟨rf_mod k1 hm (fun x hx => ?_), k2.set i hi j hj v s' hv, by rw [List.length_set]; exact k3, ⟨c, ?_⟩, d1, d2, d3⟩
  · obtain rfl : x = hs := by simpa using hx
    exact ⟨d3, spot_not_int k2⟩
  · rw [List.length_set]
    exact hm.blk k4 (by simp; omega)
theorem RLk.heads {base : Nat} {W : World} {gL gr hs : Nat} {P : Par} {ρ : Rf} {sp : List Sp} (k : RLk W gL gr base hs P ρ sp) : (∃ c : Nat, W.cell? ⟨gL, 0, none⟩ = some (.pointer (some ⟨gr, 0, none⟩)) ∧ W.cell? ⟨gL, 1, none⟩ = some (.int .i64 P.tail) ∧ W.cell? ⟨gL, 2, none⟩ = some (.slice (some ⟨hs, 0, none⟩) sp.length c)) ∧ sp.length ≤ 32 := by
  obtain ⟨_, _, k3, ⟨c, k4⟩, _⟩ := k
  exact ⟨⟨c, blk_cell k4 0 (by simp), blk_cell k4 1 (by simp), blk_cell k4 2 (by simp)⟩, k3⟩
theorem RLk.sets {base : Nat} {W : World} {gL gr hs : Nat} {P : Par} {ρ : Rf} {sp : List Sp} {i : Nat} {s : Sp} (k : RLk W gL gr base hs P ρ (sp.set i s)) (hi : i < sp.length) : (∃ c : Nat, W.cell? ⟨gL, 0, none⟩ = some (.pointer (some ⟨gr, 0, none⟩)) ∧ W.cell? ⟨gL, 1, none⟩ = some (.int .i64 P.tail) ∧ W.cell? ⟨gL, 2, none⟩ = some (.slice (some ⟨hs, 0, none⟩) sp.length c)) ∧ W.cell? ⟨hs, i * 4, none⟩ = some (.int .i64 s.pc) ∧ W.cell? ⟨hs, i * 4 + 1, none⟩ = some (.int .i64 s.a) ∧ W.cell? ⟨hs, i * 4 + 2, none⟩ = some (.int .i64 s.b) ∧ ∀ j, W.frozen? ⟨hs, j, none⟩ = false := by
  obtain ⟨h1, _⟩ := k.heads
  rw [List.length_set] at h1
  obtain ⟨c0, c1, c2, c3, cf⟩ := k.2.1.cells i (by rw [List.length_set]; exact hi)
  rw [List.getElem_set_self] at c0 c1 c2
  exact ⟨h1, c0, c1, c2, cf⟩
theorem RLk.put2 {base : Nat} {W : World} {gL gr hs : Nat} {P : Par} {ρ : Rf} {sp : List Sp} {i : Nat} {s : Sp} (k : RLk W gL gr base hs P ρ (sp.set i s)) (hi : i < sp.length) (j : Nat) (hj : j < 4) (v : Value) (s' : Sp) (hv : decSp s' = (decSp s).set j v) : RLk (W.setCell ⟨hs, i * 4 + j, none⟩ v) gL gr base hs P ρ (sp.set i s') := by
  have := k.put i (by rw [List.length_set]; exact hi) j hj v s' (by rw [List.getElem_set_self]; exact hv)
  rw [List.set_set] at this
  exact this
theorem RLk.self {base : Nat} {W : World} {gL gr hs : Nat} {P : Par} {ρ : Rf} {sp : List Sp} {i : Nat} (k : RLk W gL gr base hs P ρ sp) (hi : i < sp.length) : RLk W gL gr base hs P ρ (sp.set i sp[i]) := by
  rw [List.set_getElem_self]
  exact k
section
variable (gL gr base hs : Nat) (P : Par) (ρ : Rf) (sp : List Sp) (w : World) (H : RLk w gL gr base hs P ρ sp)
include H
end

section
variable (gL gr base hs : Nat) (P : Par) (ρ : Rf) (sp : List Sp) (w : World) (H : RLk w gL gr base hs P ρ sp)
include H
set_option maxRecDepth 100000 in
theorem rask_out (i : Int) (hi : i < 0 ∨ (sp.length : Int) ≤ i) : Calls Tryz.prog 97 #[.pointer (some ⟨gL, 0, none⟩), .int .i64 i] w fun e w' => e = .returned (.bool false) ∧ w' = w := by
  · obtain ⟨⟨cc, q0, q1, q2⟩, hl32⟩ := H.heads
    clear H
    by_cases h0 : i < 0
    · go_enter Tryz.func97, Tryz.ntmps97
      go_wp2_with fail
      go_ret
      exact ⟨rfl, by trivial⟩
    · have h1 : (sp.length : Int) ≤ i := by omega
      have h2 : decide (i < 0) = false := decide_eq_false h0
      go_enter Tryz.func97, Tryz.ntmps97
      go_wp2_with fail
      go_ret
      exact ⟨rfl, by trivial⟩
set_option maxRecDepth 100000 in
theorem rask_no (k : Nat) (hk : k < sp.length) (hp : ¬ sp[k].pc = 0) : Calls Tryz.prog 97 #[.pointer (some ⟨gL, 0, none⟩), .int .i64 (k : Int)] w fun e w' => e = .returned (.bool false) ∧ w' = w := by
  have hk1 : (k : Int) < (sp.length : Int) := by omega
  have hk2 : (0 : Int) ≤ (k : Int) := by omega
  have hk3 : decide ((k : Int) < 0) = false := decide_eq_false (by omega)
  have hk4 : decide ((sp.length : Int) ≤ (k : Int)) = false := decide_eq_false (by omega)
  obtain ⟨⟨cc, q0, q1, q2⟩, hl32⟩ := H.heads
  obtain ⟨c0, c1, c2, c3, cf⟩ := H.2.1.cells k hk
  have hlt := H.2.1.lt
  have e1 := ibne hp
  generalize sp[k].pc = x at *
  clear H hp c1 c2 c3 cf
  go_enter Tryz.func97, Tryz.ntmps97
  go_wp2_with fail
  go_ret
  exact ⟨rfl, by trivial⟩
set_option maxRecDepth 100000 in
theorem rask_yes (k : Nat) (hk : k < sp.length) (hp : sp[k].pc = 0) (sp2 : List Sp) (h2 : sp2 = sp.set k { sp[k] with pc := 1 }) : Calls Tryz.prog 97 #[.pointer (some ⟨gL, 0, none⟩), .int .i64 (k : Int)] w fun e w' => e = .returned (.bool true) ∧ RLk w' gL gr base hs P ρ sp2 ∧ Mod [hs] w w' := by
  have hk1 : (k : Int) < (sp.length : Int) := by omega
  have hk2 : (0 : Int) ≤ (k : Int) := by omega
  have hk3 : decide ((k : Int) < 0) = false := decide_eq_false (by omega)
  have hk4 : decide ((sp.length : Int) ≤ (k : Int)) = false := decide_eq_false (by omega)
  obtain ⟨⟨cc, q0, q1, q2⟩, hl32⟩ := H.heads
  obtain ⟨c0, c1, c2, c3, cf⟩ := H.2.1.cells k hk
  have hlt := H.2.1.lt
  have u1 := H.put k hk 0 (by omega) (.int .i64 1) { sp[k] with pc := 1 } rfl
  rw [← h2] at u1
  have HU := Lib.hid u1
  rw [hp] at c0
  have f0 := cf (k * 4)
  have HMM := Lib.hid (show Mod [hs] w (w.setCell ⟨hs, k * 4, none⟩ (.int .i64 1)) from (Mod.refl _ _).setCell (by simp) _)
  have HP := Lib.hid hp
  clear u1 h2 H hp c1 c2 c3 cf
  go_enter Tryz.func97, Tryz.ntmps97
  go_wp2_with fail
  go_ret
  exact ⟨rfl, HU.out, HMM.out⟩
set_option maxRecDepth 100000 in
theorem rleave_out (i : Int) (hi : i < 0 ∨ (sp.length : Int) ≤ i) : Calls Tryz.prog 102 #[.pointer (some ⟨gL, 0, none⟩), .int .i64 i] w fun e w' => e = .returned (.bool false) ∧ w' = w := by
  · obtain ⟨⟨cc, q0, q1, q2⟩, hl32⟩ := H.heads
    clear H
    by_cases h0 : i < 0
    · go_enter Tryz.func102, Tryz.ntmps102
      go_wp2_with fail
      go_ret
      exact ⟨rfl, by trivial⟩
    · have h1 : (sp.length : Int) ≤ i := by omega
      have h2 : decide (i < 0) = false := decide_eq_false h0
      go_enter Tryz.func102, Tryz.ntmps102
      go_wp2_with fail
      go_ret
      exact ⟨rfl, by trivial⟩
set_option maxRecDepth 100000 in
theorem rleave_no (k : Nat) (hk : k < sp.length) (hp : ¬ sp[k].pc = 10) : Calls Tryz.prog 102 #[.pointer (some ⟨gL, 0, none⟩), .int .i64 (k : Int)] w fun e w' => e = .returned (.bool false) ∧ w' = w := by
  have hk1 : (k : Int) < (sp.length : Int) := by omega
  have hk2 : (0 : Int) ≤ (k : Int) := by omega
  have hk3 : decide ((k : Int) < 0) = false := decide_eq_false (by omega)
  have hk4 : decide ((sp.length : Int) ≤ (k : Int)) = false := decide_eq_false (by omega)
  obtain ⟨⟨cc, q0, q1, q2⟩, hl32⟩ := H.heads
  obtain ⟨c0, c1, c2, c3, cf⟩ := H.2.1.cells k hk
  have hlt := H.2.1.lt
  have e1 := ibne hp
  generalize sp[k].pc = x at *
  clear H hp c1 c2 c3 cf
  go_enter Tryz.func102, Tryz.ntmps102
  go_wp2_with fail
  go_ret
  exact ⟨rfl, by trivial⟩
set_option maxRecDepth 100000 in
theorem rleave_yes (k : Nat) (hk : k < sp.length) (hp : sp[k].pc = 10) (sp2 : List Sp) (h2 : sp2 = sp.set k { sp[k] with pc := 11 }) : Calls Tryz.prog 102 #[.pointer (some ⟨gL, 0, none⟩), .int .i64 (k : Int)] w fun e w' => e = .returned (.bool true) ∧ RLk w' gL gr base hs P ρ sp2 ∧ Mod [hs] w w' := by
  have hk1 : (k : Int) < (sp.length : Int) := by omega
  have hk2 : (0 : Int) ≤ (k : Int) := by omega
  have hk3 : decide ((k : Int) < 0) = false := decide_eq_false (by omega)
  have hk4 : decide ((sp.length : Int) ≤ (k : Int)) = false := decide_eq_false (by omega)
  obtain ⟨⟨cc, q0, q1, q2⟩, hl32⟩ := H.heads
  obtain ⟨c0, c1, c2, c3, cf⟩ := H.2.1.cells k hk
  have hlt := H.2.1.lt
  have u1 := H.put k hk 0 (by omega) (.int .i64 11) { sp[k] with pc := 11 } rfl
  rw [← h2] at u1
  have HU := Lib.hid u1
  rw [hp] at c0
  have f0 := cf (k * 4)
  have HMM := Lib.hid (show Mod [hs] w (w.setCell ⟨hs, k * 4, none⟩ (.int .i64 11)) from (Mod.refl _ _).setCell (by simp) _)
  have HP := Lib.hid hp
  clear u1 h2 H hp c1 c2 c3 cf
  go_enter Tryz.func102, Tryz.ntmps102
  go_wp2_with fail
  go_ret
  exact ⟨rfl, HU.out, HMM.out⟩
set_option maxRecDepth 100000 in
theorem rstep_outr (i : Int) (hi : i < 0 ∨ (sp.length : Int) ≤ i) : Calls Tryz.prog 92 #[.pointer (some ⟨gL, 0, none⟩), .int .i64 i] w fun e w' => e = .returned (.bool false) ∧ w' = w := by
  · obtain ⟨⟨cc, q0, q1, q2⟩, hl32⟩ := H.heads
    clear H
    by_cases h0 : i < 0
    · go_enter Tryz.func92, Tryz.ntmps92
      go_wp2_with fail
      go_ret
      exact ⟨rfl, by trivial⟩
    · have h1 : (sp.length : Int) ≤ i := by omega
      have h2 : decide (i < 0) = false := decide_eq_false h0
      go_enter Tryz.func92, Tryz.ntmps92
      go_wp2_with fail
      go_ret
      exact ⟨rfl, by trivial⟩
set_option maxRecDepth 100000 in
theorem ralone_outr (i : Int) (hi : i < 0 ∨ (sp.length : Int) ≤ i) : Calls Tryz.prog 106 #[.pointer (some ⟨gL, 0, none⟩), .int .i64 i] w fun e w' => e = .returned (.bool false) ∧ w' = w := by
  · obtain ⟨⟨cc, q0, q1, q2⟩, hl32⟩ := H.heads
    clear H
    by_cases h0 : i < 0
    · go_enter Tryz.func106, Tryz.ntmps106
      go_wp2_with fail
      go_ret
      exact ⟨rfl, by trivial⟩
    · have h1 : (sp.length : Int) ≤ i := by omega
      have h2 : decide (i < 0) = false := decide_eq_false h0
      go_enter Tryz.func106, Tryz.ntmps106
      go_wp2_with fail
      go_ret
      exact ⟨rfl, by trivial⟩
set_option maxRecDepth 100000 in
theorem ralone_no (k : Nat) (hk : k < sp.length) (hp : ¬ sp[k].pc = 10) : Calls Tryz.prog 106 #[.pointer (some ⟨gL, 0, none⟩), .int .i64 (k : Int)] w fun e w' => e = .returned (.bool false) ∧ w' = w := by
  have hk1 : (k : Int) < (sp.length : Int) := by omega
  have hk2 : (0 : Int) ≤ (k : Int) := by omega
  have hk3 : decide ((k : Int) < 0) = false := decide_eq_false (by omega)
  have hk4 : decide ((sp.length : Int) ≤ (k : Int)) = false := decide_eq_false (by omega)
  obtain ⟨⟨cc, q0, q1, q2⟩, hl32⟩ := H.heads
  obtain ⟨c0, c1, c2, c3, cf⟩ := H.2.1.cells k hk
  have hlt := H.2.1.lt
  have e1 := ibne hp
  generalize sp[k].pc = x at *
  clear H hp c1 c2 c3 cf
  go_enter Tryz.func106, Tryz.ntmps106
  go_wp2_with fail
  go_ret
  exact ⟨rfl, by trivial⟩
end

section
variable (gL gr base hs : Nat) (P : Par) (ρ : Rf) (sp : List Sp) (w : World) (H : RLk w gL gr base hs P ρ sp) (hP : 1 ≤ P.tail ∧ P.tail ≤ 4096) (k : Nat) (hk : k < sp.length)
include H hP hk
set_option maxHeartbeats 4000000 in
set_option maxRecDepth 100000 in
theorem rstep_1 (ho : ρ.ops < 1000000) (hp : sp[k].pc = 1) (hr : 0 ≤ sp[k].a ∧ sp[k].a ≤ 4096) (sp2 : List Sp) (h2 : sp2 = sp.set k { sp[k] with pc := 2 }) (ρ2 : Rf) (hρ : ρ2 = ρ.op 2 (box P sp[k].a) true 1) : Calls Tryz.prog 92 #[.pointer (some ⟨gL, 0, none⟩), .int .i64 (k : Int)] w fun e w' => e = .returned (.bool false) ∧ RLk w' gL gr base hs P ρ2 sp2 ∧ RMs base [gr, hs] w w' := by
  have hk1 : (k : Int) < (sp.length : Int) := by omega
  have hk2 : (0 : Int) ≤ (k : Int) := by omega
  have hk3 : decide ((k : Int) < 0) = false := decide_eq_false (by omega)
  have hk4 : decide ((sp.length : Int) ≤ (k : Int)) = false := decide_eq_false (by omega)
  obtain ⟨⟨cc, q0, q1, q2⟩, hl32⟩ := H.heads
  obtain ⟨c0, c1, c2, c3, cf⟩ := H.2.1.cells k hk
  have hlt := H.2.1.lt
  obtain ⟨xp, xa, xb, xc, hx⟩ : ∃ xp xa xb xc, sp[k] = ⟨xp, xa, xb, xc⟩ := ⟨_, _, _, _, rfl⟩
  have HH := H.self hk
  have HP := Lib.hid (show xp = 1 by rw [hx] at hp; exact hp)
  have HSF := Lib.hid (show sp.set k ⟨xp, xa, xb, xc⟩ = sp by rw [← hx, List.set_getElem_self])
  rw [hp] at c0
  simp only [hx] at HH c1 c2 h2 hr hρ
  replace HH := Lib.hid HH
  obtain ⟨t1, t2⟩ := hP
  clear H hp c3 cf hx
  have HSt := fun W (K : RfAt W gr base ρ) => rstore_any gr base ρ W K (P.tail + xa) ho 1
  rw [show box P xa = P.tail + xa from rfl] at hρ
  rw [← hρ] at HSt
  replace HSt := Lib.hid HSt
  have HS2 := Lib.hid h2
  have e1 : IntKind.i64.wrap (P.tail + xa) = P.tail + xa := IntWalk.i64_in _ (by omega)
  clear hρ h2
  go_enter Tryz.func92, Tryz.ntmps92
  go_wp2_with fail
  go_region_held3 (fun V => V.cell? ⟨gL, 0, none⟩ = some (.pointer (some ⟨gr, 0, none⟩)) ∧ V.cell? ⟨gL, 1, none⟩ = some (.int .i64 P.tail) ∧ V.cell? ⟨gL, 2, none⟩ = some (.slice (some ⟨hs, 0, none⟩) sp.length cc) ∧ V.cell? ⟨hs, k * 4 + 1, none⟩ = some (.int .i64 xa) ∧ V.cell? ⟨hs, k * 4 + 2, none⟩ = some (.int .i64 xb))
    (first | exact ⟨q0, q1, q2, c1, c2⟩ | exact k2)
    (first | (go_at_call 87; refine (HSt.out _ (HH.out.drewN 1).1).mono ?_; rintro e w2 ⟨rfl, ha2, hm2⟩; have H2 := Lib.hid ((HH.out.drewN 1).arena ha2 hm2); have k2 := And.intro (((HH.out.drewN 1).cellL hm2 0).trans q0) (And.intro (((HH.out.drewN 1).cellL hm2 1).trans q1) (And.intro (((HH.out.drewN 1).cellL hm2 2).trans q2) (And.intro (((HH.out.drewN 1).cellS hm2 (k * 4 + 1)).trans c1) (((HH.out.drewN 1).cellS hm2 (k * 4 + 2)).trans c2))))))
  have HM := Lib.hid (show RMs base [gr, hs] w w2 from ((RMs.refl _ _ _).drewN 1).trans (RMs.of_r hm2 (by simp)))
  clear k2 ha2 hm2 q0 q1 q2 c0 c1 c2
  obtain ⟨⟨cc, q0, q1, q2⟩, c0, c1, c2, cf⟩ := (H2).out.sets hk
  simp only at c0 c1 c2
  rw [HP.out] at c0
  have f0 := cf (k * 4)
  have f1 := cf (k * 4 + 1)
  have f2 := cf (k * 4 + 2)
  clear cf
  go_wp2_with fail
  go_ret
  exact ⟨rfl, by rw [HS2.out]; exact H2.out.put2 hk 0 (by omega) _ _ rfl, HM.out.trans (RMs.of_mod ((Mod.refl _ _).setCell (by simp) _))⟩
set_option maxHeartbeats 4000000 in
set_option maxRecDepth 100000 in
theorem rstep_2 (ho : ρ.ops < 1000000) (hp : sp[k].pc = 2) (sp2 : List Sp) (h2 : sp2 = sp.set k { sp[k] with pc := 3, b := ρ.get (box P 0) }) (ρ2 : Rf) (hρ : ρ2 = ρ.op 3 (box P 0) true sp[k].a) : Calls Tryz.prog 92 #[.pointer (some ⟨gL, 0, none⟩), .int .i64 (k : Int)] w fun e w' => e = .returned (.bool false) ∧ RLk w' gL gr base hs P ρ2 sp2 ∧ RMs base [gr, hs] w w' := by
  have hne : gL ≠ hs := H.2.2.2.2.2.1
  have hk1 : (k : Int) < (sp.length : Int) := by omega
  have hk2 : (0 : Int) ≤ (k : Int) := by omega
  have hk3 : decide ((k : Int) < 0) = false := decide_eq_false (by omega)
  have hk4 : decide ((sp.length : Int) ≤ (k : Int)) = false := decide_eq_false (by omega)
  obtain ⟨⟨cc, q0, q1, q2⟩, hl32⟩ := H.heads
  obtain ⟨c0, c1, c2, c3, cf⟩ := H.2.1.cells k hk
  have hlt := H.2.1.lt
  obtain ⟨xp, xa, xb, xc, hx⟩ : ∃ xp xa xb xc, sp[k] = ⟨xp, xa, xb, xc⟩ := ⟨_, _, _, _, rfl⟩
  have HH := H.self hk
  have HP := Lib.hid (show xp = 2 by rw [hx] at hp; exact hp)
  have HSF := Lib.hid (show sp.set k ⟨xp, xa, xb, xc⟩ = sp by rw [← hx, List.set_getElem_self])
  rw [hp] at c0
  simp only [hx] at HH c1 c2 h2 hρ
  replace HH := Lib.hid HH
  obtain ⟨t1, t2⟩ := hP
  clear H hp c3 cf hx
  have HSt := fun W (K : RfAt W gr base ρ) => rswap_any gr base ρ W K P.tail ho xa
  rw [show box P 0 = P.tail from Int.add_zero _] at hρ h2
  rw [← hρ] at HSt
  generalize ρ.get P.tail = x at *
  replace HSt := Lib.hid HSt
  have HS2 := Lib.hid h2
  clear hρ h2
  go_enter Tryz.func92, Tryz.ntmps92
  go_wp2_with fail
  go_region_held3 (fun V => V.cell? ⟨gL, 0, none⟩ = some (.pointer (some ⟨gr, 0, none⟩)) ∧ V.cell? ⟨gL, 1, none⟩ = some (.int .i64 P.tail) ∧ V.cell? ⟨gL, 2, none⟩ = some (.slice (some ⟨hs, 0, none⟩) sp.length cc) ∧ V.cell? ⟨hs, k * 4 + 1, none⟩ = some (.int .i64 xa))
    (first | exact ⟨q0, q1, q2, c1⟩ | exact k2 | exact k3)
    (first | (go_at_call 121; refine (HSt.out _ (HH.out.drewN 1).1).mono ?_; rintro e w2 ⟨rfl, ha2, hm2⟩; have H2 := (HH.out.drewN 1).arena ha2 hm2; have k2 := And.intro (((HH.out.drewN 1).cellL hm2 0).trans q0) (And.intro (((HH.out.drewN 1).cellL hm2 1).trans q1) (And.intro (((HH.out.drewN 1).cellL hm2 2).trans q2) (((HH.out.drewN 1).cellS hm2 (k * 4 + 1)).trans c1))); have c2 := (H2.sets hk).2.2.2.1; have f2 := (H2.sets hk).2.2.2.2 (k * 4 + 2); have k3 := And.intro ((World.cell?_setCell_far w2 ⟨hs, k * 4 + 2, none⟩ ⟨gL, 0, none⟩ (.int .i64 x) (by simp; omega)).trans k2.1) (And.intro ((World.cell?_setCell_far w2 ⟨hs, k * 4 + 2, none⟩ ⟨gL, 1, none⟩ (.int .i64 x) (by simp; omega)).trans k2.2.1) (And.intro ((World.cell?_setCell_far w2 ⟨hs, k * 4 + 2, none⟩ ⟨gL, 2, none⟩ (.int .i64 x) (by simp; omega)).trans k2.2.2.1) ((World.cell?_setCell_other (w := w2) (a := ⟨hs, k * 4 + 2, none⟩) (b := ⟨hs, k * 4 + 1, none⟩) (v := .int .i64 x) (by simp)).trans k2.2.2.2)))))
  have HM := Lib.hid (show RMs base [gr, hs] w (w2.setCell ⟨hs, k * 4 + 2, none⟩ (.int .i64 x)) from (((RMs.refl _ _ _).drewN 1).trans (RMs.of_r hm2 (by simp))).trans (RMs.of_mod ((Mod.refl _ _).setCell (p := ⟨hs, k * 4 + 2, none⟩) (by simp) (.int .i64 x))))
  have H3 := Lib.hid (H2.put2 hk 2 (by omega) (.int .i64 x) ⟨xp, xa, x, xc⟩ rfl)
  clear k2 k3 ha2 hm2 q0 q1 q2 c0 c1 c2 f2 H2
  have H2 := H3
  clear H3
  generalize w2.setCell ⟨hs, k * 4 + 2, none⟩ (.int .i64 x) = w3 at *
  obtain ⟨⟨cc, q0, q1, q2⟩, c0, c1, c2, cf⟩ := (H2).out.sets hk
  simp only at c0 c1 c2
  rw [HP.out] at c0
  have f0 := cf (k * 4)
  have f1 := cf (k * 4 + 1)
  have f2 := cf (k * 4 + 2)
  clear cf
  go_wp2_with fail
  go_ret
  exact ⟨rfl, by rw [HS2.out]; exact H2.out.put2 hk 0 (by omega) _ _ rfl, HM.out.trans (RMs.of_mod ((Mod.refl _ _).setCell (by simp) _))⟩
set_option maxHeartbeats 4000000 in
set_option maxRecDepth 100000 in
theorem rstep_3a (ho : ρ.ops < 1000000) (hp : sp[k].pc = 3) (hr : 0 ≤ sp[k].b ∧ sp[k].b ≤ 4096) (hb : (ρ.get (box P sp[k].b) == 0) = true) (sp2 : List Sp) (h2 : sp2 = sp.set k { sp[k] with pc := 10 }) (ρ2 : Rf) (hρ : ρ2 = ρ.op 1 (box P sp[k].b) false 0) : Calls Tryz.prog 92 #[.pointer (some ⟨gL, 0, none⟩), .int .i64 (k : Int)] w fun e w' => e = .returned (.bool true) ∧ RLk w' gL gr base hs P ρ2 sp2 ∧ RMs base [gr, hs] w w' := by
  have hk1 : (k : Int) < (sp.length : Int) := by omega
  have hk2 : (0 : Int) ≤ (k : Int) := by omega
  have hk3 : decide ((k : Int) < 0) = false := decide_eq_false (by omega)
  have hk4 : decide ((sp.length : Int) ≤ (k : Int)) = false := decide_eq_false (by omega)
  obtain ⟨⟨cc, q0, q1, q2⟩, hl32⟩ := H.heads
  obtain ⟨c0, c1, c2, c3, cf⟩ := H.2.1.cells k hk
  have hlt := H.2.1.lt
  obtain ⟨xp, xa, xb, xc, hx⟩ : ∃ xp xa xb xc, sp[k] = ⟨xp, xa, xb, xc⟩ := ⟨_, _, _, _, rfl⟩
  have HH := H.self hk
  have HP := Lib.hid (show xp = 3 by rw [hx] at hp; exact hp)
  have HSF := Lib.hid (show sp.set k ⟨xp, xa, xb, xc⟩ = sp by rw [← hx, List.set_getElem_self])
  rw [hp] at c0
  simp only [hx] at HH c1 c2 hb hr hρ h2
  replace HH := Lib.hid HH
  obtain ⟨t1, t2⟩ := hP
  clear H hp c3 cf hx
  have HSt := fun W (K : RfAt W gr base ρ) => rload_any gr base ρ W K (P.tail + xb) ho
  rw [show box P xb = P.tail + xb from rfl] at hρ hb
  rw [← hρ] at HSt
  generalize ρ.get (P.tail + xb) = x at *
  replace HSt := Lib.hid HSt
  have e1 : IntKind.i64.wrap (P.tail + xb) = P.tail + xb := IntWalk.i64_in _ (by omega)
  clear hρ
  go_enter Tryz.func92, Tryz.ntmps92
  go_wp2_with fail
  go_region_held3 (fun V => V.cell? ⟨gL, 0, none⟩ = some (.pointer (some ⟨gr, 0, none⟩)) ∧ V.cell? ⟨gL, 1, none⟩ = some (.int .i64 P.tail) ∧ V.cell? ⟨gL, 2, none⟩ = some (.slice (some ⟨hs, 0, none⟩) sp.length cc) ∧ V.cell? ⟨hs, k * 4 + 1, none⟩ = some (.int .i64 xa) ∧ V.cell? ⟨hs, k * 4 + 2, none⟩ = some (.int .i64 xb))
    (first | exact ⟨q0, q1, q2, c1, c2⟩ | exact k2)
    (first | (go_at_call 119; refine (HSt.out _ (HH.out.drewN 1).1).mono ?_; rintro e w2 ⟨rfl, ha2, hm2⟩; have H2 := Lib.hid ((HH.out.drewN 1).arena ha2 hm2); have k2 := And.intro (((HH.out.drewN 1).cellL hm2 0).trans q0) (And.intro (((HH.out.drewN 1).cellL hm2 1).trans q1) (And.intro (((HH.out.drewN 1).cellL hm2 2).trans q2) (And.intro (((HH.out.drewN 1).cellS hm2 (k * 4 + 1)).trans c1) (((HH.out.drewN 1).cellS hm2 (k * 4 + 2)).trans c2))))))
  have HM := Lib.hid (show RMs base [gr, hs] w w2 from ((RMs.refl _ _ _).drewN 1).trans (RMs.of_r hm2 (by simp)))
  clear k2 ha2 hm2 q0 q1 q2 c0 c1 c2
  obtain ⟨⟨cc, q0, q1, q2⟩, c0, c1, c2, cf⟩ := (H2).out.sets hk
  simp only at c0 c1 c2
  rw [HP.out] at c0
  have f0 := cf (k * 4)
  have f1 := cf (k * 4 + 1)
  have f2 := cf (k * 4 + 2)
  clear cf
  go_wp2_with fail
  go_ret
  exact ⟨rfl, by rw [h2]; exact H2.out.put2 hk 0 (by omega) _ _ rfl, HM.out.trans (RMs.of_mod ((Mod.refl _ _).setCell (by simp) _))⟩
set_option maxHeartbeats 4000000 in
set_option maxRecDepth 100000 in
theorem rstep_3b (ho : ρ.ops < 1000000) (hp : sp[k].pc = 3) (hr : 0 ≤ sp[k].b ∧ sp[k].b ≤ 4096) (hb : (ρ.get (box P sp[k].b) == 0) = false) (ρ2 : Rf) (hρ : ρ2 = ρ.op 1 (box P sp[k].b) false 0) : Calls Tryz.prog 92 #[.pointer (some ⟨gL, 0, none⟩), .int .i64 (k : Int)] w fun e w' => e = .returned (.bool false) ∧ RLk w' gL gr base hs P ρ2 sp ∧ RMs base [gr, hs] w w' := by
  have hk1 : (k : Int) < (sp.length : Int) := by omega
  have hk2 : (0 : Int) ≤ (k : Int) := by omega
  have hk3 : decide ((k : Int) < 0) = false := decide_eq_false (by omega)
  have hk4 : decide ((sp.length : Int) ≤ (k : Int)) = false := decide_eq_false (by omega)
  obtain ⟨⟨cc, q0, q1, q2⟩, hl32⟩ := H.heads
  obtain ⟨c0, c1, c2, c3, cf⟩ := H.2.1.cells k hk
  have hlt := H.2.1.lt
  obtain ⟨xp, xa, xb, xc, hx⟩ : ∃ xp xa xb xc, sp[k] = ⟨xp, xa, xb, xc⟩ := ⟨_, _, _, _, rfl⟩
  have HH := H.self hk
  have HP := Lib.hid (show xp = 3 by rw [hx] at hp; exact hp)
  have HSF := Lib.hid (show sp.set k ⟨xp, xa, xb, xc⟩ = sp by rw [← hx, List.set_getElem_self])
  rw [hp] at c0
  simp only [hx] at HH c1 c2 hb hr hρ
  replace HH := Lib.hid HH
  obtain ⟨t1, t2⟩ := hP
  clear H hp c3 cf hx
  have HSt := fun W (K : RfAt W gr base ρ) => rload_any gr base ρ W K (P.tail + xb) ho
  rw [show box P xb = P.tail + xb from rfl] at hρ hb
  rw [← hρ] at HSt
  generalize ρ.get (P.tail + xb) = x at *
  replace HSt := Lib.hid HSt
  have e1 : IntKind.i64.wrap (P.tail + xb) = P.tail + xb := IntWalk.i64_in _ (by omega)
  clear hρ
  go_enter Tryz.func92, Tryz.ntmps92
  go_wp2_with fail
  go_region_held3 (fun V => V.cell? ⟨gL, 0, none⟩ = some (.pointer (some ⟨gr, 0, none⟩)) ∧ V.cell? ⟨gL, 1, none⟩ = some (.int .i64 P.tail) ∧ V.cell? ⟨gL, 2, none⟩ = some (.slice (some ⟨hs, 0, none⟩) sp.length cc) ∧ V.cell? ⟨hs, k * 4 + 1, none⟩ = some (.int .i64 xa) ∧ V.cell? ⟨hs, k * 4 + 2, none⟩ = some (.int .i64 xb))
    (first | exact ⟨q0, q1, q2, c1, c2⟩ | exact k2)
    (first | (go_at_call 119; refine (HSt.out _ (HH.out.drewN 1).1).mono ?_; rintro e w2 ⟨rfl, ha2, hm2⟩; have H2 := Lib.hid ((HH.out.drewN 1).arena ha2 hm2); have k2 := And.intro (((HH.out.drewN 1).cellL hm2 0).trans q0) (And.intro (((HH.out.drewN 1).cellL hm2 1).trans q1) (And.intro (((HH.out.drewN 1).cellL hm2 2).trans q2) (And.intro (((HH.out.drewN 1).cellS hm2 (k * 4 + 1)).trans c1) (((HH.out.drewN 1).cellS hm2 (k * 4 + 2)).trans c2))))))
  have HM := Lib.hid (show RMs base [gr, hs] w w2 from ((RMs.refl _ _ _).drewN 1).trans (RMs.of_r hm2 (by simp)))
  clear k2 ha2 hm2 q0 q1 q2 c0 c1 c2
  obtain ⟨⟨cc, q0, q1, q2⟩, c0, c1, c2, cf⟩ := (H2).out.sets hk
  simp only at c0 c1 c2
  rw [HP.out] at c0
  have f0 := cf (k * 4)
  have f1 := cf (k * 4 + 1)
  have f2 := cf (k * 4 + 2)
  clear cf
  go_wp2_with fail
  go_ret
  exact ⟨rfl, by rw [← HSF.out]; exact H2.out, HM.out⟩
set_option maxHeartbeats 4000000 in
set_option maxRecDepth 100000 in
theorem rstep_11 (ho : ρ.ops < 1000000) (hp : sp[k].pc = 11) (hr : 0 ≤ sp[k].a ∧ sp[k].a ≤ 4096) (sp2 : List Sp) (h2 : sp2 = sp.set k { sp[k] with pc := 0, a := sp[k].b }) (ρ2 : Rf) (hρ : ρ2 = ρ.op 2 (box P sp[k].a) true 0) : Calls Tryz.prog 92 #[.pointer (some ⟨gL, 0, none⟩), .int .i64 (k : Int)] w fun e w' => e = .returned (.bool true) ∧ RLk w' gL gr base hs P ρ2 sp2 ∧ RMs base [gr, hs] w w' := by
  have hk1 : (k : Int) < (sp.length : Int) := by omega
  have hk2 : (0 : Int) ≤ (k : Int) := by omega
  have hk3 : decide ((k : Int) < 0) = false := decide_eq_false (by omega)
  have hk4 : decide ((sp.length : Int) ≤ (k : Int)) = false := decide_eq_false (by omega)
  obtain ⟨⟨cc, q0, q1, q2⟩, hl32⟩ := H.heads
  obtain ⟨c0, c1, c2, c3, cf⟩ := H.2.1.cells k hk
  have hlt := H.2.1.lt
  obtain ⟨xp, xa, xb, xc, hx⟩ : ∃ xp xa xb xc, sp[k] = ⟨xp, xa, xb, xc⟩ := ⟨_, _, _, _, rfl⟩
  have HH := H.self hk
  have HP := Lib.hid (show xp = 11 by rw [hx] at hp; exact hp)
  have HSF := Lib.hid (show sp.set k ⟨xp, xa, xb, xc⟩ = sp by rw [← hx, List.set_getElem_self])
  rw [hp] at c0
  simp only [hx] at HH c1 c2 h2 hr hρ
  replace HH := Lib.hid HH
  obtain ⟨t1, t2⟩ := hP
  clear H hp c3 cf hx
  have HSt := fun W (K : RfAt W gr base ρ) => rstore_any gr base ρ W K (P.tail + xa) ho 0
  rw [show box P xa = P.tail + xa from rfl] at hρ
  rw [← hρ] at HSt
  replace HSt := Lib.hid HSt
  have HS2 := Lib.hid h2
  have e1 : IntKind.i64.wrap (P.tail + xa) = P.tail + xa := IntWalk.i64_in _ (by omega)
  clear hρ h2
  go_enter Tryz.func92, Tryz.ntmps92
  go_wp2_with fail
  go_region_held3 (fun V => V.cell? ⟨gL, 0, none⟩ = some (.pointer (some ⟨gr, 0, none⟩)) ∧ V.cell? ⟨gL, 1, none⟩ = some (.int .i64 P.tail) ∧ V.cell? ⟨gL, 2, none⟩ = some (.slice (some ⟨hs, 0, none⟩) sp.length cc) ∧ V.cell? ⟨hs, k * 4 + 1, none⟩ = some (.int .i64 xa) ∧ V.cell? ⟨hs, k * 4 + 2, none⟩ = some (.int .i64 xb))
    (first | exact ⟨q0, q1, q2, c1, c2⟩ | exact k2)
    (first | (go_at_call 87; refine (HSt.out _ (HH.out.drewN 1).1).mono ?_; rintro e w2 ⟨rfl, ha2, hm2⟩; have H2 := Lib.hid ((HH.out.drewN 1).arena ha2 hm2); have k2 := And.intro (((HH.out.drewN 1).cellL hm2 0).trans q0) (And.intro (((HH.out.drewN 1).cellL hm2 1).trans q1) (And.intro (((HH.out.drewN 1).cellL hm2 2).trans q2) (And.intro (((HH.out.drewN 1).cellS hm2 (k * 4 + 1)).trans c1) (((HH.out.drewN 1).cellS hm2 (k * 4 + 2)).trans c2))))))
  have HM := Lib.hid (show RMs base [gr, hs] w w2 from ((RMs.refl _ _ _).drewN 1).trans (RMs.of_r hm2 (by simp)))
  clear k2 ha2 hm2 q0 q1 q2 c0 c1 c2
  obtain ⟨⟨cc, q0, q1, q2⟩, c0, c1, c2, cf⟩ := (H2).out.sets hk
  simp only at c0 c1 c2
  rw [HP.out] at c0
  have f0 := cf (k * 4)
  have f1 := cf (k * 4 + 1)
  have f2 := cf (k * 4 + 2)
  clear cf
  go_wp2_with fail
  go_region
  have HX := Lib.hid (show RLk _ gL gr base hs P ρ2 (sp.set k ⟨xp, xb, xb, xc⟩) from (H2.out.put2 hk 1 (by omega) (.int .i64 xb) ⟨xp, xb, xb, xc⟩ rfl).drew)
  have HY := Lib.hid (HM.out.trans ((RMs.of_mod ((Mod.refl [gr, hs] w2).setCell (p := ⟨hs, k * 4 + 1, none⟩) (by simp) (.int .i64 xb))).drew))
  clear H2 HM q0 q1 q2 c0 c1 c2 f0 f1 f2
  have H2 := HX
  have HM := HY
  clear HX HY
  generalize (w2.setCell ⟨hs, k * 4 + 1, none⟩ (.int .i64 xb)).drew = w4 at *
  obtain ⟨⟨cc, q0, q1, q2⟩, c0, c1, c2, cf⟩ := (H2).out.sets hk
  simp only at c0 c1 c2
  rw [HP.out] at c0
  have f0 := cf (k * 4)
  have f1 := cf (k * 4 + 1)
  have f2 := cf (k * 4 + 2)
  clear cf
  go_wp2_with fail
  go_ret
  exact ⟨rfl, by rw [HS2.out]; exact H2.out.put2 hk 0 (by omega) _ _ rfl, HM.out.trans (RMs.of_mod ((Mod.refl _ _).setCell (by simp) _))⟩
set_option maxHeartbeats 4000000 in
set_option maxRecDepth 100000 in
theorem ralone_yes (ho : ρ.ops < 1000000) (hp : sp[k].pc = 10) (ρ2 : Rf) (hρ : ρ2 = ρ.op 1 P.tail false 0) : Calls Tryz.prog 106 #[.pointer (some ⟨gL, 0, none⟩), .int .i64 (k : Int)] w fun e w' => e = .returned (.bool (ρ.get P.tail == sp[k].a)) ∧ RLk w' gL gr base hs P ρ2 sp ∧ RMs base [gr, hs] w w' := by
  obtain ⟨ya, hya⟩ : ∃ ya, sp[k].a = ya := ⟨_, rfl⟩
  rw [hya]
  have hk1 : (k : Int) < (sp.length : Int) := by omega
  have hk2 : (0 : Int) ≤ (k : Int) := by omega
  have hk3 : decide ((k : Int) < 0) = false := decide_eq_false (by omega)
  have hk4 : decide ((sp.length : Int) ≤ (k : Int)) = false := decide_eq_false (by omega)
  obtain ⟨⟨cc, q0, q1, q2⟩, hl32⟩ := H.heads
  obtain ⟨c0, c1, c2, c3, cf⟩ := H.2.1.cells k hk
  have hlt := H.2.1.lt
  obtain ⟨xp, xa, xb, xc, hx⟩ : ∃ xp xa xb xc, sp[k] = ⟨xp, xa, xb, xc⟩ := ⟨_, _, _, _, rfl⟩
  have HH := H.self hk
  have HP := Lib.hid (show xp = 10 by rw [hx] at hp; exact hp)
  have HSF := Lib.hid (show sp.set k ⟨xp, xa, xb, xc⟩ = sp by rw [← hx, List.set_getElem_self])
  rw [hp] at c0
  simp only [hx] at HH c1 c2 hya
  replace HH := Lib.hid HH
  obtain ⟨t1, t2⟩ := hP
  clear H hp c3 cf hx
  obtain rfl : xa = ya := hya
  have HSt := fun W (K : RfAt W gr base ρ) => rload_any gr base ρ W K P.tail ho
  rw [← hρ] at HSt
  generalize ρ.get P.tail = y at HSt ⊢
  replace HSt := Lib.hid HSt
  clear hρ
  go_enter Tryz.func106, Tryz.ntmps106
  go_wp2_with fail
  go_region_held3 (fun V => V.cell? ⟨gL, 0, none⟩ = some (.pointer (some ⟨gr, 0, none⟩)) ∧ V.cell? ⟨gL, 1, none⟩ = some (.int .i64 P.tail) ∧ V.cell? ⟨gL, 2, none⟩ = some (.slice (some ⟨hs, 0, none⟩) sp.length cc) ∧ V.cell? ⟨hs, k * 4 + 1, none⟩ = some (.int .i64 xa) ∧ V.cell? ⟨hs, k * 4 + 2, none⟩ = some (.int .i64 xb))
    (first | exact ⟨q0, q1, q2, c1, c2⟩ | exact k2)
    (first | (go_at_call 119; refine (HSt.out _ (HH.out.drewN 1).1).mono ?_; rintro e w2 ⟨rfl, ha2, hm2⟩; have H2 := Lib.hid ((HH.out.drewN 1).arena ha2 hm2); have k2 := And.intro (((HH.out.drewN 1).cellL hm2 0).trans q0) (And.intro (((HH.out.drewN 1).cellL hm2 1).trans q1) (And.intro (((HH.out.drewN 1).cellL hm2 2).trans q2) (And.intro (((HH.out.drewN 1).cellS hm2 (k * 4 + 1)).trans c1) (((HH.out.drewN 1).cellS hm2 (k * 4 + 2)).trans c2))))))
  have HM := Lib.hid (show RMs base [gr, hs] w w2 from ((RMs.refl _ _ _).drewN 1).trans (RMs.of_r hm2 (by simp)))
  clear k2 ha2 hm2 q0 q1 q2 c0 c1 c2
  go_wp2_with fail
  go_ret
  exact ⟨rfl, by rw [← HSF.out]; exact H2.out, HM.out⟩
set_option maxRecDepth 100000 in
omit hP in
theorem rstep_none (h : ¬ (sp[k].pc = 1 ∨ sp[k].pc = 2 ∨ sp[k].pc = 3 ∨ sp[k].pc = 11)) : Calls Tryz.prog 92 #[.pointer (some ⟨gL, 0, none⟩), .int .i64 (k : Int)] w fun e w' => e = .returned (.bool false) ∧ w' = w := by
  have hk1 : (k : Int) < (sp.length : Int) := by omega
  have hk2 : (0 : Int) ≤ (k : Int) := by omega
  have hk3 : decide ((k : Int) < 0) = false := decide_eq_false (by omega)
  have hk4 : decide ((sp.length : Int) ≤ (k : Int)) = false := decide_eq_false (by omega)
  obtain ⟨⟨cc, q0, q1, q2⟩, hl32⟩ := H.heads
  obtain ⟨c0, c1, c2, c3, cf⟩ := H.2.1.cells k hk
  have hlt := H.2.1.lt
  have e1 := ibeq_no (show ¬ sp[k].pc = 1 by omega)
  have e2 := ibeq_no (show ¬ sp[k].pc = 2 by omega)
  have e3 := ibeq_no (show ¬ sp[k].pc = 3 by omega)
  have e4 := ibeq_no (show ¬ sp[k].pc = 11 by omega)
  generalize sp[k].pc = x at *
  clear H h c1 c2 c3 cf
  go_enter Tryz.func92, Tryz.ntmps92
  go_wp2_with fail
  go_ret
  exact ⟨rfl, by trivial⟩
end
end Go.Proofs.YthffhhgaeolpgaaGreat.Cl

/- The document's lock of layer 19: each act, whole. -/
namespace Go.Proofs.YthffhhgaeolpgaaGreat.Cl
open Go.RowKit Go.Proofs.YthffhhgaeolpgaaGreat.Ara Go.Proofs.YthffhhgaeolpgaaGreat.Lok

def RAft (gL gr base hs : Nat) (P : Par) (r : Bool × Ar × List Sp) (w : World) (e : Ending) (w' : World) : Prop :=
  e = .returned (.bool r.1) ∧ (∃ ρ', Alk r.2.1 ρ' ∧ RLk w' gL gr base hs P ρ' r.2.2) ∧ RMs base [gr, hs] w w'
section
variable (gL gr base hs : Nat) (P : Par) (σ : Ar) (ρ : Rf) (sp : List Sp) (w : World) (H : RLk w gL gr base hs P ρ sp) (hA : Alk σ ρ) (i : Int)
include H hA
theorem rask : Calls Tryz.prog 97 #[.pointer (some ⟨gL, 0, none⟩), .int .i64 i] w (RAft gL gr base hs P (turnB sp i 0, σ, turnS sp i 0 1) w) := by
  by_cases hi : i < 0 ∨ (sp.length : Int) ≤ i
  · refine (rask_out gL gr base hs P ρ sp w H i hi).mono ?_
    rintro e w' ⟨rfl, rfl⟩
    rw [turn_out hi, turnS_out hi]
    exact ⟨rfl, ⟨ρ, hA, H⟩, RMs.refl _ _ _⟩
  · obtain ⟨k, rfl⟩ := Int.eq_ofNat_of_zero_le (show 0 ≤ i by omega)
    have hk : k < sp.length := by omega
    rw [turn_in hk, turnS_in hk]
    by_cases hp : sp[k].pc = 0
    · rw [show (sp[k].pc == 0) = true from by simpa using hp, if_pos hp]
      refine (rask_yes gL gr base hs P ρ sp w H k hk hp _ rfl).mono ?_
      rintro e w' ⟨rfl, h1, h2⟩
      exact ⟨rfl, ⟨ρ, hA, h1⟩, RMs.of_mod (h2.sub (by simp))⟩
    · rw [show (sp[k].pc == 0) = false from by simpa using hp, if_neg hp]
      refine (rask_no gL gr base hs P ρ sp w H k hk hp).mono ?_
      rintro e w' ⟨rfl, rfl⟩
      exact ⟨rfl, ⟨ρ, hA, H⟩, RMs.refl _ _ _⟩
theorem rleave : Calls Tryz.prog 102 #[.pointer (some ⟨gL, 0, none⟩), .int .i64 i] w (RAft gL gr base hs P (turnB sp i 10, σ, turnS sp i 10 11) w) := by
  by_cases hi : i < 0 ∨ (sp.length : Int) ≤ i
  · refine (rleave_out gL gr base hs P ρ sp w H i hi).mono ?_
    rintro e w' ⟨rfl, rfl⟩
    rw [turn_out hi, turnS_out hi]
    exact ⟨rfl, ⟨ρ, hA, H⟩, RMs.refl _ _ _⟩
  · obtain ⟨k, rfl⟩ := Int.eq_ofNat_of_zero_le (show 0 ≤ i by omega)
    have hk : k < sp.length := by omega
    rw [turn_in hk, turnS_in hk]
    by_cases hp : sp[k].pc = 10
    · rw [show (sp[k].pc == 10) = true from by simpa using hp, if_pos hp]
      refine (rleave_yes gL gr base hs P ρ sp w H k hk hp _ rfl).mono ?_
      rintro e w' ⟨rfl, h1, h2⟩
      exact ⟨rfl, ⟨ρ, hA, h1⟩, RMs.of_mod (h2.sub (by simp))⟩
    · rw [show (sp[k].pc == 10) = false from by simpa using hp, if_neg hp]
      refine (rleave_no gL gr base hs P ρ sp w H k hk hp).mono ?_
      rintro e w' ⟨rfl, rfl⟩
      exact ⟨rfl, ⟨ρ, hA, H⟩, RMs.refl _ _ _⟩
end

section
variable (gL gr base hs : Nat) (P : Par) (σ : Ar) (ρ : Rf) (sp : List Sp) (w : World) (H : RLk w gL gr base hs P ρ sp) (hA : Alk σ ρ)
include H hA
theorem ralone (hN : Num P σ sp) (ho : σ.ops < 1000000) (i : Int) : Calls Tryz.prog 106 #[.pointer (some ⟨gL, 0, none⟩), .int .i64 i] w (RAft gL gr base hs P ((aloneP P σ sp i).1, (aloneP P σ sp i).2, sp) w) := by
  have hro : ρ.ops < 1000000 := by have := hA.2.2.2.2.1; omega
  by_cases hi : i < 0 ∨ (sp.length : Int) ≤ i
  · refine (ralone_outr gL gr base hs P ρ sp w H i hi).mono ?_
    rintro e w' ⟨rfl, rfl⟩
    have e : aloneP P σ sp i = (false, σ) := by unfold aloneP; rw [spOf_out hi, if_neg (by decide)]
    rw [e]
    exact ⟨rfl, ⟨ρ, hA, H⟩, RMs.refl _ _ _⟩
  obtain ⟨k, rfl⟩ := Int.eq_ofNat_of_zero_le (show 0 ≤ i by omega)
  have hk : k < sp.length := by omega
  unfold aloneP
  rw [spOf_in hk]
  by_cases hp : sp[k].pc = 10
  · rw [if_pos hp]
    refine (ralone_yes gL gr base hs P ρ sp w H hN.1 k hk hro hp _ rfl).mono ?_
    rintro e w' ⟨rfl, h1, h2⟩
    rw [hA.get]
    exact ⟨rfl, ⟨_, hA.op 1 _ _ _, h1⟩, h2⟩
  · rw [if_neg hp]
    refine (ralone_no gL gr base hs P ρ sp w H k hk hp).mono ?_
    rintro e w' ⟨rfl, rfl⟩
    exact ⟨rfl, ⟨ρ, hA, H⟩, RMs.refl _ _ _⟩
theorem rstep (hN : Num P σ sp) (ho : σ.ops < 1000000) (i : Int) : Calls Tryz.prog 92 #[.pointer (some ⟨gL, 0, none⟩), .int .i64 i] w (RAft gL gr base hs P (stepP P σ sp i) w) := by
  have hro : ρ.ops < 1000000 := by have := hA.2.2.2.2.1; omega
  by_cases hi : i < 0 ∨ (sp.length : Int) ≤ i
  · refine (rstep_outr gL gr base hs P ρ sp w H i hi).mono ?_
    rintro e w' ⟨rfl, rfl⟩
    have e : stepP P σ sp i = (false, σ, sp) := by unfold stepP; rw [spOf_out hi, if_neg (by decide), if_neg (by decide), if_neg (by decide), if_neg (by decide)]
    rw [e]
    exact ⟨rfl, ⟨ρ, hA, H⟩, RMs.refl _ _ _⟩
  obtain ⟨k, rfl⟩ := Int.eq_ofNat_of_zero_le (show 0 ≤ i by omega)
  have hk : k < sp.length := by omega
  have hP := hN.1
  have hr := (hN.2.1 k hk).1
  have hrb := (hN.2.1 k hk).2
  unfold stepP
  rw [spOf_in hk]
  simp only [Int.toNat_natCast]
  by_cases h1 : sp[k].pc = 1
  · rw [if_pos h1]
    refine (rstep_1 gL gr base hs P ρ sp w H hP k hk hro h1 hr _ rfl _ rfl).mono ?_
    rintro e w' ⟨rfl, h1, h2⟩
    exact ⟨rfl, ⟨_, hA.op 2 _ _ _, h1⟩, h2⟩
  rw [if_neg h1]
  by_cases h2 : sp[k].pc = 2
  · rw [if_pos h2]
    refine (rstep_2 gL gr base hs P ρ sp w H hP k hk hro h2 _ rfl _ rfl).mono ?_
    rintro e w' ⟨rfl, h1, h2⟩
    rw [hA.get] at h1
    exact ⟨rfl, ⟨_, hA.op 3 _ _ _, h1⟩, h2⟩
  rw [if_neg h2]
  by_cases h3 : sp[k].pc = 3
  · rw [if_pos h3]
    by_cases hc : σ.get (box P sp[k].b) = 0
    · have hb : (ρ.get (box P sp[k].b) == 0) = true := by rw [hA.get]; simpa using hc
      rw [if_pos hc, show (σ.get (box P sp[k].b) == 0) = true from by simpa using hc]
      refine (rstep_3a gL gr base hs P ρ sp w H hP k hk hro h3 hrb hb _ rfl _ rfl).mono ?_
      rintro e w' ⟨rfl, h1, h2⟩
      exact ⟨rfl, ⟨_, hA.op 1 _ _ _, h1⟩, h2⟩
    · have hb : (ρ.get (box P sp[k].b) == 0) = false := by rw [hA.get]; simpa using hc
      rw [if_neg hc, show (σ.get (box P sp[k].b) == 0) = false from by simpa using hc]
      refine (rstep_3b gL gr base hs P ρ sp w H hP k hk hro h3 hrb hb _ rfl).mono ?_
      rintro e w' ⟨rfl, h1, h2⟩
      exact ⟨rfl, ⟨_, hA.op 1 _ _ _, h1⟩, h2⟩
  rw [if_neg h3]
  by_cases h11 : sp[k].pc = 11
  · rw [if_pos h11]
    refine (rstep_11 gL gr base hs P ρ sp w H hP k hk hro h11 hr _ rfl _ rfl).mono ?_
    rintro e w' ⟨rfl, h1, h2⟩
    exact ⟨rfl, ⟨_, hA.op 2 _ _ _, h1⟩, h2⟩
  rw [if_neg h11]
  refine (rstep_none gL gr base hs P ρ sp w H k hk (by omega)).mono ?_
  rintro e w' ⟨rfl, rfl⟩
  exact ⟨rfl, ⟨ρ, hA, H⟩, RMs.refl _ _ _⟩
end
end Go.Proofs.YthffhhgaeolpgaaGreat.Cl

