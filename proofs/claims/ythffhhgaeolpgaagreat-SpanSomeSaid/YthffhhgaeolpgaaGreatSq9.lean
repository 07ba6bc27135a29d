/- Merged texts: Tk1, Tk2, Tk3, TkI. -/
import Derived.Test.YthffhhgaeolpgaaGreatSq8
import Derived.Deep.RegionHeld3
set_option linter.unusedVariables false
/- Package ticket: slots, spots, turns. -/
namespace Go.Proofs.YthffhhgaeolpgaaGreat.Tk
open Go.RowKit Go.Proofs.YthffhhgaeolpgaaGreat.Ara Go.Proofs.YthffhhgaeolpgaaGreat.Lok

def LkAt (W : World) (gl ga ha hs : Nat) (P : Par) (σ : Ar) (sp : List Sp) : Prop :=
  ArAt W ga ha σ ∧ SpAt W hs sp ∧ sp.length ≤ 32 ∧ (∃ c : Nat, W.heap[gl]? = some (.cells #[.slice (some ⟨hs, 0, none⟩) sp.length c, .pointer (some ⟨ga, 0, none⟩), .int .i64 P.next] 174 (0, 0))) ∧ gl ≠ ga ∧ gl ≠ ha ∧ gl ≠ hs ∧ hs ≠ ga ∧ hs ≠ ha
theorem LkAt.mod {S : List Nat} {W W' : World} {gl ga ha hs : Nat} {P : Par} {σ : Ar} {sp : List Sp} (k : LkAt W gl ga ha hs P σ sp) (hm : Mod S W W') (h1 : gl ∉ S) (h2 : ga ∉ S) (h3 : ha ∉ S) (h4 : hs ∉ S) : LkAt W' gl ga ha hs P σ sp := by
  obtain ⟨k1, k2, k3, ⟨c, k4⟩, k5⟩ := k
  exact ⟨k1.mod hm h2 h3, k2.mod hm h4, k3, ⟨c, hm.blk k4 h1⟩, k5⟩
theorem LkAt.same {W W' : World} {gl ga ha hs : Nat} {P : Par} {σ : Ar} {sp : List Sp} (k : LkAt W gl ga ha hs P σ sp) (hb : Below W.heap.size W W') : LkAt W' gl ga ha hs P σ sp :=
  k.mod (S := []) (Mod.of_below hb) (by simp) (by simp) (by simp) (by simp)
theorem LkAt.drewN {W : World} {gl ga ha hs : Nat} {P : Par} {σ : Ar} {sp : List Sp} (k : LkAt W gl ga ha hs P σ sp) (n : Nat) : LkAt (W.drewN n) gl ga ha hs P σ sp := k
theorem LkAt.arena {W W' : World} {gl ga ha hs : Nat} {P : Par} {σ σ' : Ar} {sp : List Sp} (k : LkAt W gl ga ha hs P σ sp) (ha' : ArAt W' ga ha σ') (hm : Mod [ga, ha] W W') : LkAt W' gl ga ha hs P σ' sp := by
  obtain ⟨_, k2, k3, ⟨c, k4⟩, d1, d2, d3, d4, d5⟩ := k
  exact ⟨ha', k2.mod hm (by simp; omega), k3, ⟨c, hm.blk k4 (by simp; omega)⟩, d1, d2, d3, d4, d5⟩
theorem LkAt.spots {W W' : World} {gl ga ha hs : Nat} {P : Par} {σ : Ar} {sp sp' : List Sp} (k : LkAt W gl ga ha hs P σ sp) (hs' : SpAt W' hs sp') (hm : Mod [hs] W W') (hl : sp'.length = sp.length) : LkAt W' gl ga ha hs P σ sp' := by
  obtain ⟨k1, _, k3, ⟨c, k4⟩, d1, d2, d3, d4, d5⟩ := k
  refine ⟨k1.mod hm (by simp; omega) (by simp; omega), hs', by omega, ⟨c, ?_⟩, d1, d2, d3, d4, d5⟩
  have := hm.blk k4 (by simp; omega)
  rw [hl]
  exact this
theorem LkAt.heads {W : World} {gl ga ha hs : Nat} {P : Par} {σ : Ar} {sp : List Sp} (k : LkAt W gl ga ha hs P σ sp) : (∃ c : Nat, W.cell? ⟨gl, 0, none⟩ = some (.slice (some ⟨hs, 0, none⟩) sp.length c) ∧ W.cell? ⟨gl, 1, none⟩ = some (.pointer (some ⟨ga, 0, none⟩)) ∧ W.cell? ⟨gl, 2, none⟩ = some (.int .i64 P.next)) ∧ sp.length ≤ 32 := by
  obtain ⟨_, _, k3, ⟨c, k4⟩, _⟩ := k
  exact ⟨⟨c, blk_cell k4 0 (by simp), blk_cell k4 1 (by simp), blk_cell k4 2 (by simp)⟩, k3⟩
section
variable (gl ga ha hs : Nat) (P : Par) (σ : Ar) (sp : List Sp) (w : World) (H : LkAt w gl ga ha hs P σ sp)
include H
theorem slots_lk : Calls Tryz.prog 160 #[.pointer (some ⟨gl, 0, none⟩)] w fun e w' => e = .returned (.int .i64 sp.length) ∧ w' = w := by
  obtain ⟨⟨cc, q0, q1, q2⟩, hl⟩ := H.heads
  clear H
  go_enter Tryz.func160, Tryz.ntmps160
  go_wp2_with fail
  go_ret
  exact ⟨rfl, rfl⟩
theorem spot_out_lk (i : Int) (hi : i < 0 ∨ (sp.length : Int) ≤ i) : Calls Tryz.prog 162 #[.pointer (some ⟨gl, 0, none⟩), .int .i64 i] w fun e w' => e = .returned (.pointer none) ∧ w' = w := by
  have HS := Lib.hid (slots_lk gl ga ha hs P σ sp w H)
  obtain ⟨⟨cc, q0, q1, q2⟩, hl⟩ := H.heads
  clear H
  by_cases h0 : i < 0
  · go_enter Tryz.func162, Tryz.ntmps162
    go_wp2_with fail
    go_ret
    exact ⟨rfl, rfl⟩
  · have h1 : (sp.length : Int) ≤ i := by omega
    go_enter Tryz.func162, Tryz.ntmps162
    go_wp2_with fail
    refine (HS.out).mono ?_
    rintro e wx ⟨rfl, hwx⟩
    obtain rfl := hwx.symm
    go_wp2_with fail
    go_ret
    exact ⟨rfl, rfl⟩
theorem spot_in_lk (k : Nat) (hk : k < sp.length) : Calls Tryz.prog 162 #[.pointer (some ⟨gl, 0, none⟩), .int .i64 (k : Int)] w fun e w' => e = .returned (.pointer (some ⟨hs, k * 4, none⟩)) ∧ w' = w := by
  have HS := Lib.hid (slots_lk gl ga ha hs P σ sp w H)
  obtain ⟨⟨cc, q0, q1, q2⟩, hl⟩ := H.heads
  have h1 : (k : Int) < (sp.length : Int) := by omega
  have h2 : (0 : Int) ≤ (k : Int) := by omega
  clear H
  go_enter Tryz.func162, Tryz.ntmps162
  go_wp2_with fail
  refine (HS.out).mono ?_
  rintro e wx ⟨rfl, hwx⟩
  obtain rfl := hwx.symm
  go_wp2_with fail
  go_ret
  exact ⟨rfl, rfl⟩
theorem Spot_lk (i : Int) : Calls Tryz.prog 161 #[.pointer (some ⟨gl, 0, none⟩), .int .i64 i] w fun e w' => e = .returned (.agg #[.int .i64 (spOf sp i).pc, .int .i64 (spOf sp i).a, .int .i64 (spOf sp i).b, .int .i64 (spOf sp i).c]) ∧ Below w.heap.size w w' := by
  by_cases hi : i < 0 ∨ (sp.length : Int) ≤ i
  · rw [spOf_out hi]
    have HS := Lib.hid (fun W K => spot_out_lk gl ga ha hs P σ sp W K i hi)
    have HH := Lib.hid (H.same (below_new w (.cells #[.int .i64 0, .int .i64 0, .int .i64 0, .int .i64 0] 53)))
    clear H hi
    go_enter Tryz.func161, Tryz.ntmps161
    go_wp2_with fail
    refine (HS.out _ HH.out).mono ?_
    rintro e wx ⟨rfl, hwx⟩
    obtain rfl := hwx.symm
    go_wp2_with fail
    exact bodyPost_ret (v := .agg #[.int .i64 0, .int .i64 0, .int .i64 0, .int .i64 0]) (by simp [results, Tryz.results161, go_sem]) rfl ⟨rfl, (Below.refl _ _).alloc (Nat.le_refl _) _⟩
  · obtain ⟨k, rfl⟩ := Int.eq_ofNat_of_zero_le (show 0 ≤ i by omega)
    have hk : k < sp.length := by omega
    have HS := Lib.hid (fun W K => spot_in_lk gl ga ha hs P σ sp W K k hk)
    have HH := Lib.hid (H.same (below_new w (.cells #[.int .i64 0, .int .i64 0, .int .i64 0, .int .i64 0] 53)))
    obtain ⟨c0, c1, c2, c3, _⟩ := H.2.1.cells k hk
    have hlt := H.2.1.lt
    have e0 := spOf_in hk
    rw [e0]
    clear H hi e0
    generalize sp[k] = s at *
    obtain ⟨xp, xa, xb, xc⟩ := s
    simp only at c0 c1 c2 c3 ⊢
    go_enter Tryz.func161, Tryz.ntmps161
    go_wp2_with fail
    refine (HS.out _ HH.out).mono ?_
    rintro e wx ⟨rfl, hwx⟩
    obtain rfl := hwx.symm
    go_wp2_with fail
    exact bodyPost_ret (v := .agg #[.int .i64 xp, .int .i64 xa, .int .i64 xb, .int .i64 xc]) (by simp [results, Tryz.results161, go_sem]) rfl ⟨rfl, (Below.refl _ _).alloc (Nat.le_refl _) _⟩
end

section
variable (gl ga ha hs : Nat) (P : Par) (σ : Ar) (sp : List Sp) (w : World) (H : LkAt w gl ga ha hs P σ sp)
include H
theorem turn_lk (i fr to : Int) : Calls Tryz.prog 159 #[.pointer (some ⟨gl, 0, none⟩), .int .i64 i, .int .i64 fr, .int .i64 to] w fun e w' => e = .returned (.bool (turnB sp i fr)) ∧ LkAt w' gl ga ha hs P σ (turnS sp i fr to) ∧ Mod [hs] w w' := by
  by_cases hi : i < 0 ∨ (sp.length : Int) ≤ i
  · rw [turn_out hi, turnS_out hi]
    have HS := Lib.hid (spot_out_lk gl ga ha hs P σ sp w H i hi)
    have HA : Calls Tryz.prog 157 #[.pointer (some ⟨gl, 0, none⟩), .int .i64 i, .int .i64 fr] w fun e w' => e = .returned (.pointer none) ∧ w' = w := by
      clear H hi
      go_enter Tryz.func157, Tryz.ntmps157
      go_wp2_with fail
      refine (HS.out).mono ?_
      rintro e wx ⟨rfl, hwx⟩
      obtain rfl := hwx.symm
      go_wp2_with fail
      go_ret
      exact ⟨rfl, rfl⟩
    replace HA := Lib.hid HA
    have HH := Lib.hid H
    clear H hi
    go_enter Tryz.func159, Tryz.ntmps159
    go_wp2_with fail
    refine (HA.out).mono ?_
    rintro e wx ⟨rfl, hwx⟩
    obtain rfl := hwx.symm
    go_wp2_with fail
    go_ret
    exact ⟨rfl, HH.out, Mod.refl _ _⟩
  · obtain ⟨k, rfl⟩ := Int.eq_ofNat_of_zero_le (show 0 ≤ i by omega)
    have hk : k < sp.length := by omega
    have HS := Lib.hid (spot_in_lk gl ga ha hs P σ sp w H k hk)
    have c0 := (H.2.1.cells k hk).1
    have f0 := (H.2.1.cells k hk).2.2.2.2 (k * 4)
    have HH := Lib.hid H
    have hm : Mod [hs] w (w.setCell ⟨hs, k * 4, none⟩ (.int .i64 to)) := (Mod.refl _ _).setCell (by simp) _
    have HT := Lib.hid (H.spots (H.2.1.setPc k hk to) hm (by rw [List.length_set]))
    rw [turn_in hk, turnS_in hk]
    by_cases hp : sp[k].pc = fr
    · rw [if_pos hp, beq_iff_eq.2 hp]
      rw [hp] at c0
      have e1 := ibne_no (rfl : fr = fr)
      generalize sp.set k { sp[k] with pc := to } = sp2 at *
      clear H hi hp hk
      have HA : Calls Tryz.prog 157 #[.pointer (some ⟨gl, 0, none⟩), .int .i64 (k : Int), .int .i64 fr] w fun e w' => e = .returned (.pointer (some ⟨hs, k * 4, none⟩)) ∧ w' = w := by
        go_enter Tryz.func157, Tryz.ntmps157
        go_wp2_with fail
        refine (HS.out).mono ?_
        rintro e wx ⟨rfl, hwx⟩
        obtain rfl := hwx.symm
        go_wp2_with fail
        go_ret
        exact ⟨rfl, rfl⟩
      replace HA := Lib.hid HA
      go_enter Tryz.func159, Tryz.ntmps159
      go_wp2_with fail
      refine (HA.out).mono ?_
      rintro e wx ⟨rfl, hwx⟩
      obtain rfl := hwx.symm
      go_wp2_with fail
      go_ret
      exact ⟨rfl, HT.out, hm⟩
    · rw [if_neg hp, beq_eq_false_iff_ne.2 hp]
      have e1 := ibne hp
      generalize sp[k].pc = x at *
      clear H hi hp HT hm hk f0
      have HA : Calls Tryz.prog 157 #[.pointer (some ⟨gl, 0, none⟩), .int .i64 (k : Int), .int .i64 fr] w fun e w' => e = .returned (.pointer none) ∧ w' = w := by
        go_enter Tryz.func157, Tryz.ntmps157
        go_wp2_with fail
        refine (HS.out).mono ?_
        rintro e wx ⟨rfl, hwx⟩
        obtain rfl := hwx.symm
        go_wp2_with fail
        go_ret
        exact ⟨rfl, rfl⟩
      replace HA := Lib.hid HA
      go_enter Tryz.func159, Tryz.ntmps159
      go_wp2_with fail
      refine (HA.out).mono ?_
      rintro e wx ⟨rfl, hwx⟩
      obtain rfl := hwx.symm
      go_wp2_with fail
      go_ret
      exact ⟨rfl, HH.out, Mod.refl _ _⟩
omit H in
theorem of_lk (W : World) : Calls Tryz.prog 156 #[.pointer (some ⟨gl, 0, none⟩)] W fun e w' => e = .returned (.pointer (some ⟨gl, 0, none⟩)) ∧ w' = W := by
  go_enter Tryz.func156, Tryz.ntmps156
  go_wp2_with fail
  go_ret
  exact ⟨rfl, rfl⟩
theorem Ask_lk (i : Int) : Calls Tryz.prog 151 #[.pointer (some ⟨gl, 0, none⟩), .int .i64 i] w fun e w' => e = .returned (.bool (turnB sp i 0)) ∧ LkAt w' gl ga ha hs P σ (turnS sp i 0 1) ∧ Mod [hs] w w' := by
  have HT := Lib.hid (turn_lk gl ga ha hs P σ sp w H i 0 1)
  clear H
  generalize turnB sp i 0 = b at *
  generalize turnS sp i 0 1 = sp2 at *
  go_enter Tryz.func151, Tryz.ntmps151
  go_wp2_with fail
  refine (of_lk gl _).mono ?_
  rintro e wx ⟨rfl, hwx⟩
  obtain rfl := hwx.symm
  go_wp2_with fail
  refine HT.out.mono ?_
  rintro e w2 ⟨rfl, h2, hm⟩
  go_wp2_with fail
  go_ret
  exact ⟨rfl, h2, hm⟩
theorem Leave_lk (i : Int) : Calls Tryz.prog 152 #[.pointer (some ⟨gl, 0, none⟩), .int .i64 i] w fun e w' => e = .returned (.bool (turnB sp i 10)) ∧ LkAt w' gl ga ha hs P σ (turnS sp i 10 11) ∧ Mod [hs] w w' := by
  have HT := Lib.hid (turn_lk gl ga ha hs P σ sp w H i 10 11)
  clear H
  generalize turnB sp i 10 = b at *
  generalize turnS sp i 10 11 = sp2 at *
  go_enter Tryz.func152, Tryz.ntmps152
  go_wp2_with fail
  refine (of_lk gl _).mono ?_
  rintro e wx ⟨rfl, hwx⟩
  obtain rfl := hwx.symm
  go_wp2_with fail
  refine HT.out.mono ?_
  rintro e w2 ⟨rfl, h2, hm⟩
  go_wp2_with fail
  go_ret
  exact ⟨rfl, h2, hm⟩
theorem LSlots_lk : Calls Tryz.prog 153 #[.pointer (some ⟨gl, 0, none⟩)] w fun e w' => e = .returned (.int .i64 sp.length) ∧ w' = w := by
  have HT := Lib.hid (slots_lk gl ga ha hs P σ sp w H)
  clear H
  go_enter Tryz.func153, Tryz.ntmps153
  go_wp2_with fail
  refine (of_lk gl _).mono ?_
  rintro e wx ⟨rfl, hwx⟩
  obtain rfl := hwx.symm
  go_wp2_with fail
  refine (HT.out).mono ?_
  rintro e wx ⟨rfl, hwx⟩
  obtain rfl := hwx.symm
  go_wp2_with fail
  go_ret
  exact ⟨rfl, rfl⟩

theorem LSpot_lk (i : Int) : Calls Tryz.prog 154 #[.pointer (some ⟨gl, 0, none⟩), .int .i64 i] w fun e w' => e = .returned (.agg #[.int .i64 (spOf sp i).pc, .int .i64 (spOf sp i).a, .int .i64 (spOf sp i).b, .int .i64 (spOf sp i).c]) ∧ Below w.heap.size w w' := by
  have hbn := below_new w (.cells #[.int .i64 0, .int .i64 0, .int .i64 0, .int .i64 0] 53)
  have hbk := blk_new w (.cells #[.int .i64 0, .int .i64 0, .int .i64 0, .int .i64 0] 53)
  have hz : w.heap.size < (w.alloc (.cells #[.int .i64 0, .int .i64 0, .int .i64 0, .int .i64 0] 53)).heap.size := by simp
  have HB := Lib.hid hbk
  clear hbk
  have HT := Lib.hid (Spot_lk gl ga ha hs P σ sp _ (H.same hbn) i)
  clear H
  generalize spOf sp i = s at *
  obtain ⟨xp, xa, xb, xc⟩ := s
  simp only at HT ⊢
  go_enter Tryz.func154, Tryz.ntmps154
  go_wp2_with fail
  refine (of_lk gl _).mono ?_
  rintro e wx ⟨rfl, hwx⟩
  obtain rfl := hwx.symm
  go_wp2_with fail
  refine HT.out.mono ?_
  rintro e w2 ⟨rfl, hb2⟩
  have hbk2 := (Mod.of_below (S := []) hb2).blk HB.out (by simp)
  have d0 := blk_cell hbk2 0 (by simp)
  have d1 := blk_cell hbk2 1 (by simp)
  have d2 := blk_cell hbk2 2 (by simp)
  have d3 := blk_cell hbk2 3 (by simp)
  have f0 := blk_free hbk2 0
  have f1 := blk_free hbk2 1
  have f2 := blk_free hbk2 2
  have f3 := blk_free hbk2 3
  simp only [List.getElem_toArray, List.getElem_cons_zero, List.getElem_cons_succ] at d0 d1 d2 d3
  have hB := Lib.hid (hbn.trans (hb2.mono hbn.size))
  have k0 := blk_set hbk2 0 (.int .i64 (xp))
  have k1 := blk_set k0 1 (.int .i64 (xa))
  have k2 := blk_set k1 2 (.int .i64 (xb))
  have k3 := blk_set k2 3 (.int .i64 (xc))
  have g0 := blk_cell k0 0 (by simp)
  have g1 := blk_cell k1 1 (by simp)
  have g2 := blk_cell k2 2 (by simp)
  have g3 := blk_cell k3 3 (by simp)
  simp at g0 g1 g2 g3
  clear hbk2 hb2 k0 k1 k2 k3
  go_wp2_with fail
  exact bodyPost_ret (v := .agg #[.int .i64 (xp), .int .i64 (xa), .int .i64 (xb), .int .i64 (xc)]) (by simp [results, Tryz.results154, go_sem, g0, g1, g2, g3]) rfl ⟨rfl, by first | exact hB.out | exact (((((hB.out.setCell (Nat.le_refl _) _).setCell (Nat.le_refl _) _).setCell (Nat.le_refl _) _).setCell (Nat.le_refl _) _))⟩
end
end Go.Proofs.YthffhhgaeolpgaaGreat.Tk

/- Package ticket: Step, Alone, New. -/
namespace Go.Proofs.YthffhhgaeolpgaaGreat.Tk
open Go.RowKit Go.Proofs.YthffhhgaeolpgaaGreat.Ara Go.Proofs.YthffhhgaeolpgaaGreat.Lok

def Num (P : Par) (σ : Ar) (sp : List Sp) : Prop := (1 ≤ P.next ∧ P.next ≤ 4096) ∧ (∀ k (h : k < sp.length), 0 ≤ sp[k].a ∧ sp[k].a ≤ 1000000) ∧ σ.ops ≤ 1000000 ∧ σ.has P.next = true ∧ 0 ≤ σ.get P.next ∧ σ.get P.next ≤ 1000000
theorem turn_setA (sp : List Sp) (k : Nat) (hk : k < sp.length) (fr to x : Int) (hp : sp[k].pc = fr) : turnS (sp.set k { sp[k] with a := x }) (k : Int) fr to = sp.set k { sp[k] with pc := to, a := x } := by
  have hk2 : k < (sp.set k { sp[k] with a := x }).length := by rw [List.length_set]; exact hk
  have e : (sp.set k { sp[k] with a := x })[k] = { sp[k] with a := x } := List.getElem_set_self hk2
  rw [turnS_in hk2, e, if_pos hp, List.set_set]
theorem place_eq (P : Par) (t : Int) : place P t = P.next + 1 := by
  unfold place
  have : t % P.parts = 0 := by show t % 1 = 0; omega
  omega
section
variable (gl ga ha hs : Nat) (P : Par) (σ : Ar) (sp : List Sp) (w : World) (H : LkAt w gl ga ha hs P σ sp)
include H
section
variable (hN : Num P σ sp) (k : Nat) (hk : k < sp.length)
include hN hk
set_option maxHeartbeats 4000000 in
set_option maxRecDepth 100000 in
theorem step_one (hp : sp[k].pc = 1) (sp2 sp3 : List Sp) (h2 : sp2 = sp.set k { sp[k] with a := σ.get P.next }) (h3 : turnS sp2 (k : Int) 1 2 = sp3 ∧ turnB sp2 (k : Int) 1 = true) : Calls Tryz.prog 155 #[.pointer (some ⟨gl, 0, none⟩), .int .i64 (k : Int)] w fun e w' =>
    e = .returned (.bool false) ∧ LkAt w' gl ga ha hs P (σ.op 5 P.next true (σ.get P.next + 1)) sp3 ∧ Mod [ga, ha, hs] w w' := by
  have HA := fun W (K : LkAt W gl ga ha hs P σ sp) => add_any ga ha σ W K.1 hN.2.2.1 P.next 1
  have ew : wrap64 (σ.get P.next + 1) = σ.get P.next + 1 := IntWalk.wrap64_in _ (by have := hN.2.2.2.2.1; have := hN.2.2.2.2.2; omega)
  rw [if_pos hN.2.2.2.1, ew] at HA
  replace HA := Lib.hid HA
  have HC := Lib.hid (fun W σ2 (K : LkAt W gl ga ha hs P σ2 sp) => show W.cell? ⟨hs, k * 4 + 1, none⟩ = some (.int .i64 sp[k].a) ∧ W.frozen? ⟨hs, k * 4 + 1, none⟩ = false ∧ LkAt (W.setCell ⟨hs, k * 4 + 1, none⟩ (.int .i64 (σ.get P.next))) gl ga ha hs P σ2 sp2 from ⟨(K.2.1.cells k hk).2.1, (K.2.1.cells k hk).2.2.2.2 (k * 4 + 1), by rw [h2]; exact K.spots (K.2.1.setA k hk (σ.get P.next)) ((Mod.refl [hs] W).setCell (by simp) _) (by rw [List.length_set])⟩)
  have HT := fun W σ2 (K : LkAt W gl ga ha hs P σ2 sp2) => turn_lk gl ga ha hs P σ2 sp2 W K (k : Int) 1 2
  rw [h3.1, h3.2] at HT
  replace HT := Lib.hid HT
  clear h2 h3 ew
  have HS := Lib.hid (spot_in_lk gl ga ha hs P σ sp w H k hk)
  have HO := Lib.hid (fun W => of_lk gl W)
  obtain ⟨⟨hP1, hP2⟩, hS, ho, hh, g0, g1⟩ := hN
  obtain ⟨d1, d2, d3, d4, d5⟩ := H.2.2.2.2
  obtain ⟨⟨cc, q0, q1, q2⟩, hl32⟩ := H.heads
  obtain ⟨s0, s1, s2, s3, sf⟩ := H.2.1.cells k hk
  obtain ⟨na0, na1⟩ := hS k hk
  rw [hp] at s0
  have HH := Lib.hid H
  have HP := Lib.hid hp
  have hm0 : Mod [ga, ha, hs] w (w.drewN 1) := (Mod.refl _ _).drewN 1
  clear H hS s2 s3 sf
  generalize sp[k].a = xa at *
  generalize sp[k].pc = xp at *
  have e1 : IntKind.i64.wrap (σ.get P.next + 1 - 1) = σ.get P.next := by rw [IntWalk.i64_in _ (by omega)]; omega
  have e2 : IntKind.i64.wrap (σ.get P.next) = σ.get P.next := IntWalk.i64_in _ (by omega)
  generalize σ.get P.next = x at *
  generalize σ.op 5 P.next true (x + 1) = σ2 at *
  clear hp
  go_enter Tryz.func155, Tryz.ntmps155
  go_wp2_with fail
  refine (HO.out _).mono ?_
  rintro e wx ⟨rfl, hwx⟩
  obtain rfl := hwx.symm
  go_wp2_with fail
  refine (HS.out).mono ?_
  rintro e wx ⟨rfl, hwx⟩
  obtain rfl := hwx.symm
  go_wp2_with fail
  go_region_held3 (fun V => V.cell? ⟨gl, 1, none⟩ = some (.pointer (some ⟨ga, 0, none⟩)) ∧ V.cell? ⟨gl, 2, none⟩ = some (.int .i64 P.next))
    (first | exact ⟨q1, q2⟩ | exact k2 | exact k3)
    (first
      | (go_at_call 163; refine (HA.out _ (HH.out.drewN 1)).mono ?_; rintro e w2 ⟨rfl, ha2, hm2⟩; have k2 := And.intro (keepM hm2 (show (w.drewN 1).cell? _ = _ from q1) (by simp; omega)) (keepM hm2 (show (w.drewN 1).cell? _ = _ from q2) (by simp; omega)); have H2 := Lib.hid ((HH.out.drewN 1).arena ha2 hm2); have c2 := (HC.out _ _ H2.out).1; have f2 := (HC.out _ _ H2.out).2.1; have k3 := And.intro (((World.cell?_setCell_far w2 ⟨hs, k * 4 + 1, none⟩ ⟨gl, 1, none⟩ (.int .i64 x) (by simp; omega))).trans k2.1) (((World.cell?_setCell_far w2 ⟨hs, k * 4 + 1, none⟩ ⟨gl, 2, none⟩ (.int .i64 x) (by simp; omega))).trans k2.2)))
  have H3 := Lib.hid (HC.out _ _ H2.out).2.2
  have hmm : Mod [ga, ha, hs] w (w2.setCell ⟨hs, k * 4 + 1, none⟩ (.int .i64 x)) := (hm0.trans (hm2.sub (by simp))).setCell (by simp) _
  clear k2 k3 ha2 hm2 c2 f2
  generalize w2.setCell ⟨hs, k * 4 + 1, none⟩ (.int .i64 x) = w3 at *
  go_wp2_with fail
  refine (HT.out _ _ H3.out).mono ?_
  rintro e w4 ⟨rfl, h4, hm4⟩
  have H4 := Lib.hid h4
  clear h4
  go_wp2_with fail
  go_ret
  exact ⟨rfl, H4.out, hmm.trans (hm4.sub (by simp))⟩
set_option maxHeartbeats 4000000 in
set_option maxRecDepth 100000 in
theorem step_out (hp : sp[k].pc = 11) (sp2 : List Sp) (h2 : turnS sp (k : Int) 11 0 = sp2 ∧ turnB sp (k : Int) 11 = true) : Calls Tryz.prog 155 #[.pointer (some ⟨gl, 0, none⟩), .int .i64 (k : Int)] w fun e w' =>
    e = .returned (.bool true) ∧ LkAt w' gl ga ha hs P (σ.op 2 (P.next + 1) true (sp[k].a + 1)) sp2 ∧ Mod [ga, ha, hs] w w' := by
  have HSt := Lib.hid (fun W (K : LkAt W gl ga ha hs P σ sp) => store_any ga ha σ W K.1 hN.2.2.1 (P.next + 1) (sp[k].a + 1))
  have HT := fun W σ2 (K : LkAt W gl ga ha hs P σ2 sp) => turn_lk gl ga ha hs P σ2 sp W K (k : Int) 11 0
  rw [h2.1, h2.2] at HT
  replace HT := Lib.hid HT
  clear h2
  have HS := Lib.hid (spot_in_lk gl ga ha hs P σ sp w H k hk)
  have HO := Lib.hid (fun W => of_lk gl W)
  obtain ⟨⟨hP1, hP2⟩, hS, ho, hh, g0, g1⟩ := hN
  obtain ⟨d1, d2, d3, d4, d5⟩ := H.2.2.2.2
  obtain ⟨⟨cc, q0, q1, q2⟩, hl32⟩ := H.heads
  obtain ⟨s0, s1, s2, s3, sf⟩ := H.2.1.cells k hk
  obtain ⟨na0, na1⟩ := hS k hk
  rw [hp] at s0
  have HH := Lib.hid H
  have HP := Lib.hid hp
  have hm0 : Mod [ga, ha, hs] w (w.drewN 1) := (Mod.refl _ _).drewN 1
  clear H hS s2 s3 sf
  have e1 : IntKind.i64.wrap (P.next + 1) = P.next + 1 := IntWalk.i64_in _ (by omega)
  have e2 : IntKind.i64.wrap (sp[k].a + 1) = sp[k].a + 1 := IntWalk.i64_in _ (by omega)
  generalize sp[k].a = xa at *
  generalize sp[k].pc = xp at *
  generalize σ.op 2 (P.next + 1) true (xa + 1) = σ2 at *
  clear hp
  go_enter Tryz.func155, Tryz.ntmps155
  go_wp2_with fail
  refine (HO.out _).mono ?_
  rintro e wx ⟨rfl, hwx⟩
  obtain rfl := hwx.symm
  go_wp2_with fail
  refine (HS.out).mono ?_
  rintro e wx ⟨rfl, hwx⟩
  obtain rfl := hwx.symm
  go_wp2_with fail
  go_region_held3 (fun V => V.cell? ⟨gl, 1, none⟩ = some (.pointer (some ⟨ga, 0, none⟩)) ∧ V.cell? ⟨gl, 2, none⟩ = some (.int .i64 P.next) ∧ V.cell? ⟨hs, k * 4 + 1, none⟩ = some (.int .i64 xa))
    (first | exact ⟨q1, q2, s1⟩ | exact k2)
    (first
      | (go_at_call 83; refine (HSt.out _ (HH.out.drewN 1)).mono ?_; rintro e w2 ⟨rfl, ha2, hm2⟩; have k2 := And.intro (keepM hm2 (show (w.drewN 1).cell? _ = _ from q1) (by simp; omega)) (And.intro (keepM hm2 (show (w.drewN 1).cell? _ = _ from q2) (by simp; omega)) (keepM hm2 (show (w.drewN 1).cell? _ = _ from s1) (by simp; omega))); have H2 := Lib.hid ((HH.out.drewN 1).arena ha2 hm2)))
  have hmm : Mod [ga, ha, hs] w w2 := hm0.trans (hm2.sub (by simp))
  clear k2 ha2 hm2
  go_wp2_with fail
  refine (HT.out _ _ H2.out).mono ?_
  rintro e w4 ⟨rfl, h4, hm4⟩
  have H4 := Lib.hid h4
  clear h4
  go_wp2_with fail
  go_ret
  exact ⟨rfl, H4.out, hmm.trans (hm4.sub (by simp))⟩
set_option maxHeartbeats 4000000 in
set_option maxRecDepth 100000 in
theorem step_two (hp : sp[k].pc = 2) (sp2 : List Sp) (h2 : sp2 = sp.set k { sp[k] with pc := 10 }) (h3 : turnS sp (k : Int) 2 10 = sp2 ∧ turnB sp (k : Int) 2 = true) : Calls Tryz.prog 155 #[.pointer (some ⟨gl, 0, none⟩), .int .i64 (k : Int)] w fun e w' =>
    e = .returned (.bool (σ.get (P.next + 1) == sp[k].a)) ∧ LkAt w' gl ga ha hs P (σ.op 1 (P.next + 1) false 0) (if σ.get (P.next + 1) = sp[k].a then sp2 else sp) ∧ Mod [ga, ha, hs] w w' := by
  have HSt := Lib.hid (fun W (K : LkAt W gl ga ha hs P σ sp) => load_any ga ha σ W K.1 hN.2.2.1 (P.next + 1))
  have HT := fun W σ2 (K : LkAt W gl ga ha hs P σ2 sp) => turn_lk gl ga ha hs P σ2 sp W K (k : Int) 2 10
  rw [h3.1, h3.2] at HT
  replace HT := Lib.hid HT
  have HCc := Lib.hid (fun W σ2 (K : LkAt W gl ga ha hs P σ2 sp2) => show W.cell? ⟨hs, k * 4 + 1, none⟩ = some (.int .i64 sp[k].a) by
    rw [h2] at K
    have := (K.2.1.cells k (by rw [List.length_set]; exact hk)).2.1
    rw [List.getElem_set_self] at this
    exact this)
  clear h2 h3
  by_cases hx : σ.get (P.next + 1) = sp[k].a
  · rw [if_pos hx, beq_iff_eq.2 hx]
    have e9 := ibeq hx
    clear hx
    have HS := Lib.hid (spot_in_lk gl ga ha hs P σ sp w H k hk)
    have HO := Lib.hid (fun W => of_lk gl W)
    obtain ⟨⟨hP1, hP2⟩, hS, ho, hh, g0, g1⟩ := hN
    obtain ⟨d1, d2, d3, d4, d5⟩ := H.2.2.2.2
    obtain ⟨⟨cc, q0, q1, q2⟩, hl32⟩ := H.heads
    obtain ⟨s0, s1, s2, s3, sf⟩ := H.2.1.cells k hk
    obtain ⟨na0, na1⟩ := hS k hk
    rw [hp] at s0
    have HH := Lib.hid H
    have HP := Lib.hid hp
    have hm0 : Mod [ga, ha, hs] w (w.drewN 1) := (Mod.refl _ _).drewN 1
    clear H hS s2 s3 sf
    have e1 : IntKind.i64.wrap (P.next + 1) = P.next + 1 := IntWalk.i64_in _ (by omega)
    have HC := Lib.hid (fun W σ2 (K : LkAt W gl ga ha hs P σ2 sp2) => (HCc.out _ _ K))
    generalize sp[k].a = xa at *
    generalize sp[k].pc = xp at *
    generalize σ.op 1 (P.next + 1) false 0 = σ2 at *
    generalize σ.get (P.next + 1) = x at *
    clear hp
    go_enter Tryz.func155, Tryz.ntmps155
    go_wp2_with fail
    refine (HO.out _).mono ?_
    rintro e wx ⟨rfl, hwx⟩
    obtain rfl := hwx.symm
    go_wp2_with fail
    refine (HS.out).mono ?_
    rintro e wx ⟨rfl, hwx⟩
    obtain rfl := hwx.symm
    go_wp2_with fail
    refine wp_region_held_drew (S := fun V => V.cell? ⟨gl, 1, none⟩ = some (.pointer (some ⟨ga, 0, none⟩)) ∧ V.cell? ⟨gl, 2, none⟩ = some (.int .i64 P.next) ∧ V.cell? ⟨hs, k * 4 + 1, none⟩ = some (.int .i64 xa)) (by kernel_rfl) ⟨q1, q2, s1⟩ (fun hHeld => ?_)
    refine take_to 0 (some 39) (v := ?_) rfl rfl (by kernel_rfl) (by kernel_rfl) (by kernel_rfl) (fun _ _ _ h => h) (Or.inl ⟨by rfl, ?_⟩) (by first | trivial | assumption) ?_
    rotate_left
    focus (intro w hSw; (try dsimp only at hSw); go_simp; (try with_reducible rfl))
    simp only [Act.put, List.setIfInBounds_toArray, List.set_cons_zero, List.set_cons_succ]
    refine take_to 1 (some 40) (v := ?_) rfl rfl (by kernel_rfl) (by kernel_rfl) (by kernel_rfl) (fun _ _ _ h => h) (Or.inl ⟨by rfl, ?_⟩) (by first | trivial | assumption) ?_
    rotate_left
    focus (intro w hSw; (try dsimp only at hSw); go_simp; (try with_reducible rfl))
    simp only [Act.put, List.setIfInBounds_toArray, List.set_cons_zero, List.set_cons_succ]
    refine take_to 2 (some 41) (v := ?_) rfl rfl (by kernel_rfl) (by kernel_rfl) (by kernel_rfl) (fun _ _ _ h => h) (Or.inl ⟨by rfl, ?_⟩) (by first | trivial | assumption) ?_
    rotate_left
    focus (intro w hSw; (try dsimp only at hSw); go_simp; (try with_reducible rfl))
    simp only [Act.put, List.setIfInBounds_toArray, List.set_cons_zero, List.set_cons_succ]
    refine take_to 3 (some 42) (v := ?_) rfl rfl (by kernel_rfl) (by kernel_rfl) (by kernel_rfl) (fun _ _ _ h => h) (Or.inl ⟨by rfl, ?_⟩) (by first | trivial | assumption) ?_
    rotate_left
    focus (intro w hSw; (try dsimp only at hSw); go_simp; (try with_reducible rfl))
    simp only [Act.put, List.setIfInBounds_toArray, List.set_cons_zero, List.set_cons_succ]
    refine take_to 4 (some 43) (v := ?_) rfl rfl (by kernel_rfl) (by kernel_rfl) (by kernel_rfl) (fun _ _ _ h => h) (Or.inl ⟨by rfl, ?_⟩) (by first | trivial | assumption) ?_
    rotate_left
    focus (intro w hSw; (try dsimp only at hSw); go_simp; (try with_reducible rfl))
    simp only [Act.put, List.setIfInBounds_toArray, List.set_cons_zero, List.set_cons_succ]
    refine take_to 5 (some 44) (v := ?_) rfl rfl (by kernel_rfl) (by kernel_rfl) (by kernel_rfl) (fun _ _ _ h => h) (Or.inl ⟨by rfl, ?_⟩) (by first | trivial | assumption) ?_
    rotate_left
    focus (intro w hSw; (try dsimp only at hSw); go_simp; (try with_reducible rfl))
    simp only [Act.put, List.setIfInBounds_toArray, List.set_cons_zero, List.set_cons_succ]
    refine take_to 6 (some 45) (v := ?_) rfl rfl (by kernel_rfl) (by kernel_rfl) (by kernel_rfl) (fun _ _ _ h => h) (Or.inl ⟨by rfl, ?_⟩) (by first | trivial | assumption) ?_
    rotate_left
    focus (intro w hSw; (try dsimp only at hSw); go_simp; (try with_reducible rfl))
    simp only [Act.put, List.setIfInBounds_toArray, List.set_cons_zero, List.set_cons_succ]
    refine take_to 7 (some 46) (v := ?_) rfl rfl (by kernel_rfl) (by kernel_rfl) (by kernel_rfl) (fun _ _ _ h => h) (Or.inl ⟨by rfl, ?_⟩) (by first | trivial | assumption) ?_
    rotate_left
    focus (intro w hSw; (try dsimp only at hSw); go_simp; (try with_reducible rfl))
    simp only [Act.put, List.setIfInBounds_toArray, List.set_cons_zero, List.set_cons_succ]
    refine take_to 8 (some 47) (v := ?_) rfl rfl (by kernel_rfl) (by kernel_rfl) (by kernel_rfl) (fun _ _ _ h => h) (Or.inl ⟨by rfl, ?_⟩) (by first | trivial | assumption) ?_
    rotate_left
    focus (intro w hSw; (try dsimp only at hSw); go_simp; (try with_reducible rfl))
    simp only [Act.put, List.setIfInBounds_toArray, List.set_cons_zero, List.set_cons_succ]
    refine take_to 10 (some 49) (v := ?_) rfl rfl (by kernel_rfl) (by kernel_rfl) (by kernel_rfl) (fun _ _ _ h => h) (Or.inl ⟨by rfl, ?_⟩) (by first | trivial | assumption) ?_
    rotate_left
    focus (intro w hSw; (try dsimp only at hSw); go_simp; (try with_reducible rfl))
    simp only [Act.put, List.setIfInBounds_toArray, List.set_cons_zero, List.set_cons_succ]
    refine take_to 11 (some 50) (v := ?_) rfl rfl (by kernel_rfl) (by kernel_rfl) (by kernel_rfl) (fun _ _ _ h => h) (Or.inl ⟨by rfl, ?_⟩) (by first | trivial | assumption) ?_
    rotate_left
    focus (intro w hSw; (try dsimp only at hSw); go_simp; (try with_reducible rfl))
    simp only [Act.put, List.setIfInBounds_toArray, List.set_cons_zero, List.set_cons_succ]
    refine take_to 12 (some 51) (v := ?_) rfl rfl (by kernel_rfl) (by kernel_rfl) (by kernel_rfl) (fun _ _ _ h => h) (Or.inl ⟨by rfl, ?_⟩) (by first | trivial | assumption) ?_
    rotate_left
    focus (intro w hSw; (try dsimp only at hSw); go_simp; (try with_reducible rfl))
    simp only [Act.put, List.setIfInBounds_toArray, List.set_cons_zero, List.set_cons_succ]
    refine take_to 13 (some 52) (v := ?_) rfl rfl (by kernel_rfl) (by kernel_rfl) (by kernel_rfl) (fun _ _ _ h => h) (Or.inl ⟨by rfl, ?_⟩) (by first | trivial | assumption) ?_
    rotate_left
    focus (intro w hSw; (try dsimp only at hSw); go_simp; (try with_reducible rfl))
    simp only [Act.put, List.setIfInBounds_toArray, List.set_cons_zero, List.set_cons_succ]
    refine wpAnyH_ready (rs := [9]) (by kernel_rfl) (by simp) ?_
    refine AllReadyH.cons rfl (fun K hK => ?_) AllReadyH.nil
    go_simp
    refine (HSt.out _ (HH.out.drewN 1)).mono ?_
    rintro e w2 ⟨rfl, ha2, hm2⟩
    have k2 := And.intro (keepM hm2 (show (w.drewN 1).cell? _ = _ from q1) (by simp; omega)) (And.intro (keepM hm2 (show (w.drewN 1).cell? _ = _ from q2) (by simp; omega)) (keepM hm2 (show (w.drewN 1).cell? _ = _ from s1) (by simp; omega)))
    have H2 := Lib.hid ((HH.out.drewN 1).arena ha2 hm2)
    have hmm : Mod [ga, ha, hs] w w2 := hm0.trans (hm2.sub (by simp))
    go_simp
    refine hK.out _ _ k2 (fun hHeld => ?_)
    refine take_to 14 (some 53) (v := ?_) rfl rfl (by kernel_rfl) (by kernel_rfl) (by kernel_rfl) (fun _ _ _ h => h) (Or.inl ⟨by rfl, ?_⟩) (by first | trivial | assumption) ?_
    rotate_left
    focus (intro w hSw; (try dsimp only at hSw); go_simp; (try with_reducible rfl))
    simp only [Act.put, List.setIfInBounds_toArray, List.set_cons_zero, List.set_cons_succ]
    refine take_to 15 (some 54) (v := ?_) rfl rfl (by kernel_rfl) (by kernel_rfl) (by kernel_rfl) (fun _ _ _ h => h) (Or.inl ⟨by rfl, ?_⟩) (by first | trivial | assumption) ?_
    rotate_left
    focus (intro w hSw; (try dsimp only at hSw); go_simp; (try with_reducible rfl))
    simp only [Act.put, List.setIfInBounds_toArray, List.set_cons_zero, List.set_cons_succ]
    refine take_to 16 (some 55) (v := ?_) rfl rfl (by kernel_rfl) (by kernel_rfl) (by kernel_rfl) (fun _ _ _ h => h) (Or.inl ⟨by rfl, ?_⟩) (by first | trivial | assumption) ?_
    rotate_left
    focus (intro w hSw; (try dsimp only at hSw); go_simp; (try with_reducible rfl))
    simp only [Act.put, List.setIfInBounds_toArray, List.set_cons_zero, List.set_cons_succ]
    refine take_to 17 (some 56) (v := ?_) rfl rfl (by kernel_rfl) (by kernel_rfl) (by kernel_rfl) (fun _ _ _ h => h) (Or.inl ⟨by rfl, ?_⟩) (by first | trivial | assumption) ?_
    rotate_left
    focus (intro w hSw; (try dsimp only at hSw); go_simp; (try with_reducible rfl))
    simp only [Act.put, List.setIfInBounds_toArray, List.set_cons_zero, List.set_cons_succ]
    refine take_to 18 (some 57) (v := ?_) rfl rfl (by kernel_rfl) (by kernel_rfl) (by kernel_rfl) (fun _ _ _ h => h) (Or.inl ⟨by rfl, ?_⟩) (by first | trivial | assumption) ?_
    rotate_left
    focus (intro w hSw; (try dsimp only at hSw); go_simp; (try with_reducible rfl))
    simp only [Act.put, List.setIfInBounds_toArray, List.set_cons_zero, List.set_cons_succ]
    refine take_to 19 (some 58) (v := ?_) rfl rfl (by kernel_rfl) (by kernel_rfl) (by kernel_rfl) (fun _ _ _ h => h) (Or.inl ⟨by rfl, ?_⟩) (by first | trivial | assumption) ?_
    rotate_left
    focus (intro w hSw; (try dsimp only at hSw); go_simp; (try with_reducible rfl))
    simp only [Act.put, List.setIfInBounds_toArray, List.set_cons_zero, List.set_cons_succ]
    refine wpAnyH_ready (rs := [20]) (by kernel_rfl) (by simp) ?_
    refine AllReadyH.cons rfl (fun K hK => ?_) AllReadyH.nil
    go_simp
    refine (HT.out _ _ H2.out).mono ?_
    rintro e w3 ⟨rfl, h3, hm3⟩
    have H3 := Lib.hid h3
    have k3 := And.intro (keepM hm3 k2.1 (by simp; omega)) (And.intro (keepM hm3 k2.2.1 (by simp; omega)) (HC.out _ _ h3))
    go_simp
    refine hK.out _ _ k3 (fun hHeld => ?_)
    refine take_to 21 (some 60) (v := ?_) rfl rfl (by kernel_rfl) (by kernel_rfl) (by kernel_rfl) (fun _ _ _ h => h) (Or.inl ⟨by rfl, ?_⟩) (by first | trivial | assumption) ?_
    rotate_left
    focus (intro w hSw; (try dsimp only at hSw); go_simp; (try with_reducible rfl))
    simp only [Act.put, List.setIfInBounds_toArray, List.set_cons_zero, List.set_cons_succ]
    refine take_to 22 (some 4) (v := ?_) rfl rfl (by kernel_rfl) (by kernel_rfl) (by kernel_rfl) (fun _ _ _ h => h) (Or.inl ⟨by rfl, ?_⟩) (by first | trivial | assumption) ?_
    rotate_left
    focus (intro w hSw; (try dsimp only at hSw); go_simp; (try with_reducible rfl))
    simp only [Act.put, List.setIfInBounds_toArray, List.set_cons_zero, List.set_cons_succ]
    refine wpAnyH_done (by kernel_rfl) ?_ _
    go_wp2_with fail
    go_ret
    exact ⟨rfl, H3.out, hmm.trans (hm3.sub (by simp))⟩
  · rw [if_neg hx, beq_eq_false_iff_ne.2 hx]
    have e9 := ibeq_no hx
    clear hx
    have HS := Lib.hid (spot_in_lk gl ga ha hs P σ sp w H k hk)
    have HO := Lib.hid (fun W => of_lk gl W)
    obtain ⟨⟨hP1, hP2⟩, hS, ho, hh, g0, g1⟩ := hN
    obtain ⟨d1, d2, d3, d4, d5⟩ := H.2.2.2.2
    obtain ⟨⟨cc, q0, q1, q2⟩, hl32⟩ := H.heads
    obtain ⟨s0, s1, s2, s3, sf⟩ := H.2.1.cells k hk
    obtain ⟨na0, na1⟩ := hS k hk
    rw [hp] at s0
    have HH := Lib.hid H
    have HP := Lib.hid hp
    have hm0 : Mod [ga, ha, hs] w (w.drewN 1) := (Mod.refl _ _).drewN 1
    clear H hS s2 s3 sf
    have e1 : IntKind.i64.wrap (P.next + 1) = P.next + 1 := IntWalk.i64_in _ (by omega)
    have HC := Lib.hid (fun W σ2 (K : LkAt W gl ga ha hs P σ2 sp2) => (HCc.out _ _ K))
    generalize sp[k].a = xa at *
    generalize sp[k].pc = xp at *
    generalize σ.op 1 (P.next + 1) false 0 = σ2 at *
    generalize σ.get (P.next + 1) = x at *
    clear hp
    go_enter Tryz.func155, Tryz.ntmps155
    go_wp2_with fail
    refine (HO.out _).mono ?_
    rintro e wx ⟨rfl, hwx⟩
    obtain rfl := hwx.symm
    go_wp2_with fail
    refine (HS.out).mono ?_
    rintro e wx ⟨rfl, hwx⟩
    obtain rfl := hwx.symm
    go_wp2_with fail
    refine wp_region_held_drew (S := fun V => V.cell? ⟨gl, 1, none⟩ = some (.pointer (some ⟨ga, 0, none⟩)) ∧ V.cell? ⟨gl, 2, none⟩ = some (.int .i64 P.next) ∧ V.cell? ⟨hs, k * 4 + 1, none⟩ = some (.int .i64 xa)) (by kernel_rfl) ⟨q1, q2, s1⟩ (fun hHeld => ?_)
    refine take_to 0 (some 39) (v := ?_) rfl rfl (by kernel_rfl) (by kernel_rfl) (by kernel_rfl) (fun _ _ _ h => h) (Or.inl ⟨by rfl, ?_⟩) (by first | trivial | assumption) ?_
    rotate_left
    focus (intro w hSw; (try dsimp only at hSw); go_simp; (try with_reducible rfl))
    simp only [Act.put, List.setIfInBounds_toArray, List.set_cons_zero, List.set_cons_succ]
    refine take_to 1 (some 40) (v := ?_) rfl rfl (by kernel_rfl) (by kernel_rfl) (by kernel_rfl) (fun _ _ _ h => h) (Or.inl ⟨by rfl, ?_⟩) (by first | trivial | assumption) ?_
    rotate_left
    focus (intro w hSw; (try dsimp only at hSw); go_simp; (try with_reducible rfl))
    simp only [Act.put, List.setIfInBounds_toArray, List.set_cons_zero, List.set_cons_succ]
    refine take_to 2 (some 41) (v := ?_) rfl rfl (by kernel_rfl) (by kernel_rfl) (by kernel_rfl) (fun _ _ _ h => h) (Or.inl ⟨by rfl, ?_⟩) (by first | trivial | assumption) ?_
    rotate_left
    focus (intro w hSw; (try dsimp only at hSw); go_simp; (try with_reducible rfl))
    simp only [Act.put, List.setIfInBounds_toArray, List.set_cons_zero, List.set_cons_succ]
    refine take_to 3 (some 42) (v := ?_) rfl rfl (by kernel_rfl) (by kernel_rfl) (by kernel_rfl) (fun _ _ _ h => h) (Or.inl ⟨by rfl, ?_⟩) (by first | trivial | assumption) ?_
    rotate_left
    focus (intro w hSw; (try dsimp only at hSw); go_simp; (try with_reducible rfl))
    simp only [Act.put, List.setIfInBounds_toArray, List.set_cons_zero, List.set_cons_succ]
    refine take_to 4 (some 43) (v := ?_) rfl rfl (by kernel_rfl) (by kernel_rfl) (by kernel_rfl) (fun _ _ _ h => h) (Or.inl ⟨by rfl, ?_⟩) (by first | trivial | assumption) ?_
    rotate_left
    focus (intro w hSw; (try dsimp only at hSw); go_simp; (try with_reducible rfl))
    simp only [Act.put, List.setIfInBounds_toArray, List.set_cons_zero, List.set_cons_succ]
    refine take_to 5 (some 44) (v := ?_) rfl rfl (by kernel_rfl) (by kernel_rfl) (by kernel_rfl) (fun _ _ _ h => h) (Or.inl ⟨by rfl, ?_⟩) (by first | trivial | assumption) ?_
    rotate_left
    focus (intro w hSw; (try dsimp only at hSw); go_simp; (try with_reducible rfl))
    simp only [Act.put, List.setIfInBounds_toArray, List.set_cons_zero, List.set_cons_succ]
    refine take_to 6 (some 45) (v := ?_) rfl rfl (by kernel_rfl) (by kernel_rfl) (by kernel_rfl) (fun _ _ _ h => h) (Or.inl ⟨by rfl, ?_⟩) (by first | trivial | assumption) ?_
    rotate_left
    focus (intro w hSw; (try dsimp only at hSw); go_simp; (try with_reducible rfl))
    simp only [Act.put, List.setIfInBounds_toArray, List.set_cons_zero, List.set_cons_succ]
    refine take_to 7 (some 46) (v := ?_) rfl rfl (by kernel_rfl) (by kernel_rfl) (by kernel_rfl) (fun _ _ _ h => h) (Or.inl ⟨by rfl, ?_⟩) (by first | trivial | assumption) ?_
    rotate_left
    focus (intro w hSw; (try dsimp only at hSw); go_simp; (try with_reducible rfl))
    simp only [Act.put, List.setIfInBounds_toArray, List.set_cons_zero, List.set_cons_succ]
    refine take_to 8 (some 47) (v := ?_) rfl rfl (by kernel_rfl) (by kernel_rfl) (by kernel_rfl) (fun _ _ _ h => h) (Or.inl ⟨by rfl, ?_⟩) (by first | trivial | assumption) ?_
    rotate_left
    focus (intro w hSw; (try dsimp only at hSw); go_simp; (try with_reducible rfl))
    simp only [Act.put, List.setIfInBounds_toArray, List.set_cons_zero, List.set_cons_succ]
    refine take_to 10 (some 49) (v := ?_) rfl rfl (by kernel_rfl) (by kernel_rfl) (by kernel_rfl) (fun _ _ _ h => h) (Or.inl ⟨by rfl, ?_⟩) (by first | trivial | assumption) ?_
    rotate_left
    focus (intro w hSw; (try dsimp only at hSw); go_simp; (try with_reducible rfl))
    simp only [Act.put, List.setIfInBounds_toArray, List.set_cons_zero, List.set_cons_succ]
    refine take_to 11 (some 50) (v := ?_) rfl rfl (by kernel_rfl) (by kernel_rfl) (by kernel_rfl) (fun _ _ _ h => h) (Or.inl ⟨by rfl, ?_⟩) (by first | trivial | assumption) ?_
    rotate_left
    focus (intro w hSw; (try dsimp only at hSw); go_simp; (try with_reducible rfl))
    simp only [Act.put, List.setIfInBounds_toArray, List.set_cons_zero, List.set_cons_succ]
    refine take_to 12 (some 51) (v := ?_) rfl rfl (by kernel_rfl) (by kernel_rfl) (by kernel_rfl) (fun _ _ _ h => h) (Or.inl ⟨by rfl, ?_⟩) (by first | trivial | assumption) ?_
    rotate_left
    focus (intro w hSw; (try dsimp only at hSw); go_simp; (try with_reducible rfl))
    simp only [Act.put, List.setIfInBounds_toArray, List.set_cons_zero, List.set_cons_succ]
    refine take_to 13 (some 52) (v := ?_) rfl rfl (by kernel_rfl) (by kernel_rfl) (by kernel_rfl) (fun _ _ _ h => h) (Or.inl ⟨by rfl, ?_⟩) (by first | trivial | assumption) ?_
    rotate_left
    focus (intro w hSw; (try dsimp only at hSw); go_simp; (try with_reducible rfl))
    simp only [Act.put, List.setIfInBounds_toArray, List.set_cons_zero, List.set_cons_succ]
    refine wpAnyH_ready (rs := [9]) (by kernel_rfl) (by simp) ?_
    refine AllReadyH.cons rfl (fun K hK => ?_) AllReadyH.nil
    go_simp
    refine (HSt.out _ (HH.out.drewN 1)).mono ?_
    rintro e w2 ⟨rfl, ha2, hm2⟩
    have k2 := And.intro (keepM hm2 (show (w.drewN 1).cell? _ = _ from q1) (by simp; omega)) (And.intro (keepM hm2 (show (w.drewN 1).cell? _ = _ from q2) (by simp; omega)) (keepM hm2 (show (w.drewN 1).cell? _ = _ from s1) (by simp; omega)))
    have H2 := Lib.hid ((HH.out.drewN 1).arena ha2 hm2)
    have hmm : Mod [ga, ha, hs] w w2 := hm0.trans (hm2.sub (by simp))
    go_simp
    refine hK.out _ _ k2 (fun hHeld => ?_)
    refine take_to 14 (some 53) (v := ?_) rfl rfl (by kernel_rfl) (by kernel_rfl) (by kernel_rfl) (fun _ _ _ h => h) (Or.inl ⟨by rfl, ?_⟩) (by first | trivial | assumption) ?_
    rotate_left
    focus (intro w hSw; (try dsimp only at hSw); go_simp; (try with_reducible rfl))
    simp only [Act.put, List.setIfInBounds_toArray, List.set_cons_zero, List.set_cons_succ]
    refine take_to 15 (some 54) (v := ?_) rfl rfl (by kernel_rfl) (by kernel_rfl) (by kernel_rfl) (fun _ _ _ h => h) (Or.inl ⟨by rfl, ?_⟩) (by first | trivial | assumption) ?_
    rotate_left
    focus (intro w hSw; (try dsimp only at hSw); go_simp; (try with_reducible rfl))
    simp only [Act.put, List.setIfInBounds_toArray, List.set_cons_zero, List.set_cons_succ]
    refine take_to 16 (some 55) (v := undef) rfl rfl (by kernel_rfl) (by kernel_rfl) (by kernel_rfl) (fun _ _ _ h => h) (Or.inr ⟨by rfl, rfl⟩) (by first | trivial | assumption) ?_
    simp only [Act.put, List.setIfInBounds_toArray, List.set_cons_zero, List.set_cons_succ]
    refine take_to 17 (some 56) (v := undef) rfl rfl (by kernel_rfl) (by kernel_rfl) (by kernel_rfl) (fun _ _ _ h => h) (Or.inr ⟨by rfl, rfl⟩) (by first | trivial | assumption) ?_
    simp only [Act.put, List.setIfInBounds_toArray, List.set_cons_zero, List.set_cons_succ]
    refine take_to 18 (some 57) (v := undef) rfl rfl (by kernel_rfl) (by kernel_rfl) (by kernel_rfl) (fun _ _ _ h => h) (Or.inr ⟨by rfl, rfl⟩) (by first | trivial | assumption) ?_
    simp only [Act.put, List.setIfInBounds_toArray, List.set_cons_zero, List.set_cons_succ]
    refine take_to 19 (some 58) (v := undef) rfl rfl (by kernel_rfl) (by kernel_rfl) (by kernel_rfl) (fun _ _ _ h => h) (Or.inr ⟨by rfl, rfl⟩) (by first | trivial | assumption) ?_
    simp only [Act.put, List.setIfInBounds_toArray, List.set_cons_zero, List.set_cons_succ]
    refine take_to 20 (some 59) (v := undef) rfl rfl (by kernel_rfl) (by kernel_rfl) (by kernel_rfl) (fun _ _ _ h => h) (Or.inr ⟨by rfl, rfl⟩) (by first | trivial | assumption) ?_
    simp only [Act.put, List.setIfInBounds_toArray, List.set_cons_zero, List.set_cons_succ]
    refine take_to 21 (some 60) (v := ?_) rfl rfl (by kernel_rfl) (by kernel_rfl) (by kernel_rfl) (fun _ _ _ h => h) (Or.inl ⟨by rfl, ?_⟩) (by first | trivial | assumption) ?_
    rotate_left
    focus (intro w hSw; (try dsimp only at hSw); go_simp; (try with_reducible rfl))
    simp only [Act.put, List.setIfInBounds_toArray, List.set_cons_zero, List.set_cons_succ]
    refine take_to 22 (some 4) (v := ?_) rfl rfl (by kernel_rfl) (by kernel_rfl) (by kernel_rfl) (fun _ _ _ h => h) (Or.inl ⟨by rfl, ?_⟩) (by first | trivial | assumption) ?_
    rotate_left
    focus (intro w hSw; (try dsimp only at hSw); go_simp; (try with_reducible rfl))
    simp only [Act.put, List.setIfInBounds_toArray, List.set_cons_zero, List.set_cons_succ]
    refine wpAnyH_done (by kernel_rfl) ?_ _
    go_wp2_with fail
    go_ret
    exact ⟨rfl, H2.out, hmm⟩
end
end
end Go.Proofs.YthffhhgaeolpgaaGreat.Tk

/- Package ticket: all steps, Alone, New. -/
namespace Go.Proofs.YthffhhgaeolpgaaGreat.Tk
open Go.RowKit Go.Proofs.YthffhhgaeolpgaaGreat.Ara Go.Proofs.YthffhhgaeolpgaaGreat.Lok

section
variable (gl ga ha hs : Nat) (P : Par) (σ : Ar) (sp : List Sp) (w : World) (H : LkAt w gl ga ha hs P σ sp)
include H
set_option maxRecDepth 100000 in
theorem step_none (i : Int) (h : ¬ ((spOf sp i).pc = 1 ∨ (spOf sp i).pc = 2 ∨ (spOf sp i).pc = 11)) : Calls Tryz.prog 155 #[.pointer (some ⟨gl, 0, none⟩), .int .i64 i] w fun e w' => e = .returned (.bool false) ∧ LkAt w' gl ga ha hs P σ sp ∧ Mod [ga, ha, hs] w w' := by
  have HO := Lib.hid (fun W => of_lk gl W)
  have HH := Lib.hid H
  by_cases hi : i < 0 ∨ (sp.length : Int) ≤ i
  · have HS := Lib.hid (spot_out_lk gl ga ha hs P σ sp w H i hi)
    clear H hi h
    go_enter Tryz.func155, Tryz.ntmps155
    go_wp2_with fail
    refine (HO.out _).mono ?_
    rintro e wx ⟨rfl, hwx⟩
    obtain rfl := hwx.symm
    go_wp2_with fail
    refine (HS.out).mono ?_
    rintro e wx ⟨rfl, hwx⟩
    obtain rfl := hwx.symm
    go_wp2_with fail
    go_ret
    exact ⟨rfl, HH.out, Mod.refl _ _⟩
  · obtain ⟨k, rfl⟩ := Int.eq_ofNat_of_zero_le (show 0 ≤ i by omega)
    have hk : k < sp.length := by omega
    have HS := Lib.hid (spot_in_lk gl ga ha hs P σ sp w H k hk)
    have c0 := (H.2.1.cells k hk).1
    rw [spOf_in hk] at h
    have e1 := ibeq_no (show ¬ sp[k].pc = 1 by omega)
    have e2 := ibeq_no (show ¬ sp[k].pc = 2 by omega)
    have e3 := ibeq_no (show ¬ sp[k].pc = 11 by omega)
    generalize sp[k].pc = x at *
    clear H hi h hk
    go_enter Tryz.func155, Tryz.ntmps155
    go_wp2_with fail
    refine (HO.out _).mono ?_
    rintro e wx ⟨rfl, hwx⟩
    obtain rfl := hwx.symm
    go_wp2_with fail
    refine (HS.out).mono ?_
    rintro e wx ⟨rfl, hwx⟩
    obtain rfl := hwx.symm
    go_wp2_with fail
    go_ret
    exact ⟨rfl, HH.out, Mod.refl _ _⟩
theorem step_lk (hN : Num P σ sp) (i : Int) : Calls Tryz.prog 155 #[.pointer (some ⟨gl, 0, none⟩), .int .i64 i] w fun e w' => e = .returned (.bool (stepP P σ sp i).1) ∧ LkAt w' gl ga ha hs P (stepP P σ sp i).2.1 (stepP P σ sp i).2.2 ∧ Mod [ga, ha, hs] w w' := by
  by_cases h : (spOf sp i).pc = 1 ∨ (spOf sp i).pc = 2 ∨ (spOf sp i).pc = 11
  · obtain ⟨i0, i1⟩ := spOf_range (sp := sp) (i := i) (by omega)
    obtain ⟨k, rfl⟩ := Int.eq_ofNat_of_zero_le i0
    have hk : k < sp.length := by omega
    unfold stepP
    rw [spOf_in hk] at h ⊢
    simp only [Int.toNat_natCast, place_eq]
    rcases h with h | h | h
    · rw [if_pos h]
      have hk2 : k < (sp.set k { sp[k] with a := σ.get P.next }).length := by rw [List.length_set]; exact hk
      have hp2 : (sp.set k { sp[k] with a := σ.get P.next })[k].pc = 1 := by rw [List.getElem_set_self]; exact h
      exact step_one gl ga ha hs P σ sp w H hN k hk h _ _ rfl ⟨turn_setA sp k hk 1 2 _ h, by rw [turn_in hk2, hp2]; rfl⟩
    · rw [if_neg (by omega), if_pos h]
      exact step_two gl ga ha hs P σ sp w H hN k hk h _ rfl ⟨by rw [turnS_in hk, if_pos h], by rw [turn_in hk, h]; rfl⟩
    · rw [if_neg (by omega), if_neg (by omega), if_pos h]
      exact step_out gl ga ha hs P σ sp w H hN k hk h _ ⟨by rw [turnS_in hk, if_pos h], by rw [turn_in hk, h]; rfl⟩
  · have e : stepP P σ sp i = (false, σ, sp) := by unfold stepP; rw [if_neg (by omega), if_neg (by omega), if_neg (by omega)]
    rw [e]
    exact step_none gl ga ha hs P σ sp w H i h
theorem at_no (i p : Int) (h : ¬ (spOf sp i).pc = p) (hp : p ≠ 0) : Calls Tryz.prog 157 #[.pointer (some ⟨gl, 0, none⟩), .int .i64 i, .int .i64 p] w fun e w' => e = .returned (.pointer none) ∧ w' = w := by
  by_cases hi : i < 0 ∨ (sp.length : Int) ≤ i
  · have HS := Lib.hid (spot_out_lk gl ga ha hs P σ sp w H i hi)
    clear H hi h
    go_enter Tryz.func157, Tryz.ntmps157
    go_wp2_with fail
    refine (HS.out).mono ?_
    rintro e wx ⟨rfl, hwx⟩
    obtain rfl := hwx.symm
    go_wp2_with fail
    go_ret
    exact ⟨rfl, rfl⟩
  · obtain ⟨k, rfl⟩ := Int.eq_ofNat_of_zero_le (show 0 ≤ i by omega)
    have hk : k < sp.length := by omega
    have HS := Lib.hid (spot_in_lk gl ga ha hs P σ sp w H k hk)
    have c0 := (H.2.1.cells k hk).1
    rw [spOf_in hk] at h
    have e1 := ibne h
    generalize sp[k].pc = x at *
    clear H hi h hk hp
    go_enter Tryz.func157, Tryz.ntmps157
    go_wp2_with fail
    refine (HS.out).mono ?_
    rintro e wx ⟨rfl, hwx⟩
    obtain rfl := hwx.symm
    go_wp2_with fail
    go_ret
    exact ⟨rfl, rfl⟩
theorem at_yes (k : Nat) (hk : k < sp.length) (p : Int) (h : sp[k].pc = p) : Calls Tryz.prog 157 #[.pointer (some ⟨gl, 0, none⟩), .int .i64 (k : Int), .int .i64 p] w fun e w' => e = .returned (.pointer (some ⟨hs, k * 4, none⟩)) ∧ w' = w := by
  have HS := Lib.hid (spot_in_lk gl ga ha hs P σ sp w H k hk)
  have c0 := (H.2.1.cells k hk).1
  rw [h] at c0
  have e1 := ibne_no (rfl : p = p)
  clear H h hk
  go_enter Tryz.func157, Tryz.ntmps157
  go_wp2_with fail
  refine (HS.out).mono ?_
  rintro e wx ⟨rfl, hwx⟩
  obtain rfl := hwx.symm
  go_wp2_with fail
  go_ret
  exact ⟨rfl, rfl⟩
set_option maxHeartbeats 4000000 in
set_option maxRecDepth 100000 in
theorem alone_lk (hN : Num P σ sp) (i : Int) : Calls Tryz.prog 150 #[.pointer (some ⟨gl, 0, none⟩), .int .i64 i] w fun e w' => e = .returned (.bool (aloneP P σ sp i).1) ∧ LkAt w' gl ga ha hs P (aloneP P σ sp i).2 sp ∧ Mod [ga, ha] w w' := by
  have HO := Lib.hid (fun W => of_lk gl W)
  have HH := Lib.hid H
  by_cases h : (spOf sp i).pc = 10
  · obtain ⟨i0, i1⟩ := spOf_range (sp := sp) (i := i) (by omega)
    obtain ⟨k, rfl⟩ := Int.eq_ofNat_of_zero_le i0
    have hk : k < sp.length := by omega
    unfold aloneP
    rw [spOf_in hk] at h ⊢
    rw [if_pos h]
    have HS := Lib.hid (at_yes gl ga ha hs P σ sp w H k hk 10 h)
    obtain ⟨⟨hP1, hP2⟩, hS, ho, hh, g0, g1⟩ := hN
    obtain ⟨na0, na1⟩ := hS k hk
    have HSt := Lib.hid (fun W (K : LkAt W gl ga ha hs P σ sp) => load_any ga ha σ W K.1 ho P.next)
    obtain ⟨d1, d2, d3, d4, d5⟩ := H.2.2.2.2
    obtain ⟨⟨cc, q0, q1, q2⟩, hl32⟩ := H.heads
    have s1 := (H.2.1.cells k hk).2.1
    generalize sp[k].a = xa at *
    have e1 : IntKind.i64.wrap (xa + 1) = xa + 1 := IntWalk.i64_in _ (by omega)
    generalize σ.op 1 P.next false 0 = σ2 at *
    generalize σ.get P.next = x at *
    have HP := Lib.hid h
    clear H h i0 i1 hS hh
    simp only
    go_enter Tryz.func150, Tryz.ntmps150
    go_wp2_with fail
    refine (HO.out _).mono ?_
    rintro e wx ⟨rfl, hwx⟩
    obtain rfl := hwx.symm
    go_wp2_with fail
    refine (HS.out).mono ?_
    rintro e wx ⟨rfl, hwx⟩
    obtain rfl := hwx.symm
    go_wp2_with fail
    go_region_held3 (fun V => V.cell? ⟨gl, 1, none⟩ = some (.pointer (some ⟨ga, 0, none⟩)) ∧ V.cell? ⟨gl, 2, none⟩ = some (.int .i64 P.next) ∧ V.cell? ⟨hs, k * 4 + 1, none⟩ = some (.int .i64 xa))
      (first | exact ⟨q1, q2, s1⟩ | exact k2)
      (first
        | (go_at_call 158; refine (HSt.out _ (HH.out.drewN 1)).mono ?_; rintro e w2 ⟨rfl, ha2, hm2⟩; have k2 := And.intro (keepM hm2 (show (w.drewN 1).cell? _ = _ from q1) (by simp; omega)) (And.intro (keepM hm2 (show (w.drewN 1).cell? _ = _ from q2) (by simp; omega)) (keepM hm2 (show (w.drewN 1).cell? _ = _ from s1) (by simp; omega))); have H2 := Lib.hid ((HH.out.drewN 1).arena ha2 hm2)))
    have hmm : Mod [ga, ha] w w2 := ((Mod.refl _ _).drewN 1).trans hm2
    clear k2 ha2 hm2 q1 q2 s1
    go_wp2_with fail
    go_ret
    exact ⟨rfl, H2.out, hmm⟩
  · have e : aloneP P σ sp i = (false, σ) := by unfold aloneP; rw [if_neg h]
    rw [e]
    have HS := Lib.hid (at_no gl ga ha hs P σ sp w H i 10 h (by decide))
    clear H h hN e
    go_enter Tryz.func150, Tryz.ntmps150
    go_wp2_with fail
    refine (HO.out _).mono ?_
    rintro e wx ⟨rfl, hwx⟩
    obtain rfl := hwx.symm
    go_wp2_with fail
    refine (HS.out).mono ?_
    rintro e wx ⟨rfl, hwx⟩
    obtain rfl := hwx.symm
    go_wp2_with fail
    go_quiet (fail)
    go_wp2_with fail
    go_ret
    exact ⟨rfl, HH.out.drewN _, (Mod.refl _ _).drewN _⟩
end
set_option maxHeartbeats 4000000 in
set_option maxRecDepth 100000 in
theorem new_lk (ga ha : Nat) (σ σ1 : Ar) (w : World) (H : ArAt w ga ha σ) (hh : ha < w.heap.size) (n : Nat) (n1 : 1 ≤ n) (n2 : n ≤ 32) (next : Int)
    (ht : σ.take 2 = ((next, 0), σ1)) :
    Calls Tryz.prog 55 #[.pointer (some ⟨ga, 0, none⟩), .int .i64 (n : Int)] w fun e w' => ∃ gl hs, e = .returned (.tuple #[.pointer (some ⟨gl, 0, none⟩), .int .i64 0]) ∧ LkAt w' gl ga ha hs ⟨next⟩ σ1 (Ta.zeroS n) ∧ w.heap.size ≤ gl ∧ w.heap.size ≤ hs ∧ Mod [ga, ha] w w' := by
  have HT := take_any ga ha σ w H 2
  rw [ht] at HT
  replace HT := Lib.hid HT
  have hmk := fun W => Ta.make_spots n (by omega) W
  have hga := H.lt
  have i1 : (1 : Int) ≤ (n : Int) := by omega
  have i2 : (n : Int) ≤ 32 := by omega
  clear H ht
  go_enter Tryz.func55, Tryz.ntmps55
  go_wp2_with fail
  refine HT.out.mono ?_
  rintro e w2 ⟨rfl, h2, hm2⟩
  have H2 := Lib.hid h2
  clear h2
  have hz2 := hm2.size
  have hK : LkAt ((w2.alloc (.cells ((Ta.zeroS n).flatMap decSp).toArray 53)).alloc (.cells #[.slice (some ⟨w2.heap.size, 0, none⟩) n n, .pointer (some ⟨ga, 0, none⟩), .int .i64 next] 174)) (w2.heap.size + 1) ga ha w2.heap.size ⟨next⟩ σ1 (Ta.zeroS n) := by
    have hb := (below_new w2 (.cells ((Ta.zeroS n).flatMap decSp).toArray 53))
    have hb2 := below_new (w2.alloc (.cells ((Ta.zeroS n).flatMap decSp).toArray 53)) (.cells #[.slice (some ⟨w2.heap.size, 0, none⟩) n n, .pointer (some ⟨ga, 0, none⟩), .int .i64 next] 174)
    have hbl := blk_new (w2.alloc (.cells ((Ta.zeroS n).flatMap decSp).toArray 53)) (.cells #[.slice (some ⟨w2.heap.size, 0, none⟩) n n, .pointer (some ⟨ga, 0, none⟩), .int .i64 next] 174)
    have hzl : (Ta.zeroS n).length = n := by simp [Ta.zeroS]
    refine ⟨(H2.out.step hb).step hb2, (Ta.spAt_new w2 n).mod (S := []) (Mod.of_below hb2) (by simp), by omega, ⟨n, ?_⟩, by omega, by omega, by omega, by omega, by omega⟩
    rw [hzl]
    simpa using hbl
  have hmm : Mod [ga, ha] w ((w2.alloc (.cells ((Ta.zeroS n).flatMap decSp).toArray 53)).alloc (.cells #[.slice (some ⟨w2.heap.size, 0, none⟩) n n, .pointer (some ⟨ga, 0, none⟩), .int .i64 next] 174)) := (hm2.alloc _).alloc _
  have HK := Lib.hid hK
  clear H2 hm2 hK
  have e0 : (w2.alloc (.cells ((Ta.zeroS n).flatMap decSp).toArray 53)).heap.size = w2.heap.size + 1 := by simp
  go_wp2_with fail
  go_ret2
  exact ⟨w2.heap.size + 1, w2.heap.size, rfl, HK.out, by omega, hz2, hmm⟩
end Go.Proofs.YthffhhgaeolpgaaGreat.Tk

/- Package ticket: what its laws ask of it. -/
namespace Go.Proofs.YthffhhgaeolpgaaGreat.Tk
open Go.RowKit Go.Proofs.YthffhhgaeolpgaaGreat.Ara Go.Proofs.YthffhhgaeolpgaaGreat.Lok

theorem Inv.num {P : Par} {σ : Ar} {sp : List Sp} {S T : Nat} (h : Inv P σ sp S T) (hT : T ≤ 1000000) (ho : σ.ops ≤ 1000000) (hn : P.next ≤ 4096) : Num P σ sp := by
  refine ⟨⟨h.n1, hn⟩, fun k hk => ?_, ho, h.hasN, ?_, ?_⟩
  · have := h.rng k
    rw [spOf_in hk] at this
    omega
  · rw [h.gT]; omega
  · rw [h.gT]; omega
structure OkP (P : Par) (σ : Ar) (sp : List Sp) (n m : Nat) : Prop where
  inv : ∃ S T, Inv P σ sp S T ∧ T ≤ m
  ops : σ.ops ≤ m + 1
  nx : P.next ≤ 4096
  len : sp.length = n
section
variable {P : Par} {σ : Ar} {sp : List Sp} {n m : Nat} (h : OkP P σ sp n m)
include h
theorem OkP.act (kd i : Int) : OkP P (doP P σ sp kd i).2.1 (doP P σ sp kd i).2.2 n (m + 1) := by
  obtain ⟨S, T, hi, hT⟩ := h.inv
  obtain ⟨S', T', hT', hi'⟩ := do_inv hi kd i
  exact ⟨⟨S', T', hi', by omega⟩, by have := do_ops P σ sp kd i; have := h.ops; omega, h.nx, (do_len P σ sp kd i).trans h.len⟩
theorem OkP.num (hm : m ≤ 100000) : Num P σ sp := by
  obtain ⟨S, T, hi, hT⟩ := h.inv
  exact hi.num (by omega) (by have := h.ops; omega) h.nx
theorem OkP.one : cnt (fun s => s.pc == 10) sp n ≤ 1 := by
  obtain ⟨S, T, hi, hT⟩ := h.inv
  exact hi.one n
end
def first1 (n : Nat) : Ar × List Sp := ((⟨zerosW 100, 2, 0, 0, 0, false⟩ : Ar), Ta.zeroS n)
theorem OkP.first (n : Nat) : OkP ⟨1⟩ (first1 n).1 (first1 n).2 n 0 :=
  ⟨⟨0, 0, inv_start n, Nat.le_refl _⟩, by show 0 ≤ 0 + 1; omega, by show (1 : Int) ≤ 4096; decide, by simp [first1, Ta.zeroS]⟩
theorem ord_first (n : Nat) : OrdP ⟨1⟩ ⟨(first1 n).1, (first1 n).2, [], []⟩ := ord_start n
end Go.Proofs.YthffhhgaeolpgaaGreat.Tk

