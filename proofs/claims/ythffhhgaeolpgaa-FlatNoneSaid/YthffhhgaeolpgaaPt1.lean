/- Package parted: slots, spots, turns. -/
import Derived.Test.YthffhhgaeolpgaaPtP
namespace Go.Proofs.Ythffhhgaeolpgaa.Pt
open Go.RowKit Go.Proofs.Ythffhhgaeolpgaa.Ara Go.Proofs.Ythffhhgaeolpgaa.Lok

/-- The lock in memory: its struct at gl, its spots at hs, its arena at ga, ha. -/
def LkAt (W : World) (gl ga ha hs : Nat) (P : Par) (σ : Ar) (sp : List Sp) : Prop :=
  ArAt W ga ha σ ∧ SpAt W hs sp ∧ sp.length ≤ 32 ∧ (∃ c : Nat, W.heap[gl]? = some (.cells #[.pointer (some ⟨ga, 0, none⟩), .int .i64 P.next, .int .i64 P.parts, .slice (some ⟨hs, 0, none⟩) sp.length c] 72 (0, 0))) ∧ gl ≠ ga ∧ gl ≠ ha ∧ gl ≠ hs ∧ hs ≠ ga ∧ hs ≠ ha
theorem LkAt.mod {S : List Nat} {W W' : World} {gl ga ha hs : Nat} {P : Par} {σ : Ar} {sp : List Sp} (k : LkAt W gl ga ha hs P σ sp) (hm : Mod S W W') (h1 : gl ∉ S) (h2 : ga ∉ S) (h3 : ha ∉ S) (h4 : hs ∉ S) : LkAt W' gl ga ha hs P σ sp := by
  obtain ⟨k1, k2, k3, ⟨c, k4⟩, k5⟩ := k
  exact ⟨k1.mod hm h2 h3, k2.mod hm h4, k3, ⟨c, hm.blk k4 h1⟩, k5⟩
theorem LkAt.same {W W' : World} {gl ga ha hs : Nat} {P : Par} {σ : Ar} {sp : List Sp} (k : LkAt W gl ga ha hs P σ sp) (hb : Below W.heap.size W W') : LkAt W' gl ga ha hs P σ sp :=
  k.mod (S := []) (Mod.of_below hb) (by simp) (by simp) (by simp) (by simp)
theorem LkAt.drewN {W : World} {gl ga ha hs : Nat} {P : Par} {σ : Ar} {sp : List Sp} (k : LkAt W gl ga ha hs P σ sp) (n : Nat) : LkAt (W.drewN n) gl ga ha hs P σ sp := k
theorem LkAt.arena {W W' : World} {gl ga ha hs : Nat} {P : Par} {σ σ' : Ar} {sp : List Sp} (k : LkAt W gl ga ha hs P σ sp) (ha' : ArAt W' ga ha σ') (hm : Mod [ga, ha] W W') : LkAt W' gl ga ha hs P σ' sp := by
  obtain ⟨_, k2, k3, ⟨c, k4⟩, d1, d2, d3, d4, d5⟩ := k
  exact ⟨ha', k2.mod hm (by simp; omega), k3, ⟨c, hm.blk k4 (by simp; omega)⟩, d1, d2, d3, d4, d5⟩
theorem LkAt.spots {W W' : World} {gl ga ha hs : Nat} {P : Par} {σ : Ar} {sp sp' : List Sp} (k : LkAt W gl ga ha hs P σ sp) (hs' : SpAt W' hs sp') (hm : Mod [hs] W W') (hl : sp'.length = sp.length) : LkAt W' gl ga ha hs P σ sp' := by
  obtain ⟨k1, _, k3, ⟨c, k4⟩, d1, d2, d3, d4, d5⟩ := k
  refine ⟨k1.mod hm (by simp; omega) (by simp; omega), hs', by omega, ⟨c, ?_⟩, d1, d2, d3, d4, d5⟩
  have := hm.blk k4 (by simp; omega)
  rw [hl]
  exact this
theorem LkAt.heads {W : World} {gl ga ha hs : Nat} {P : Par} {σ : Ar} {sp : List Sp} (k : LkAt W gl ga ha hs P σ sp) : (∃ c : Nat, W.cell? ⟨gl, 0, none⟩ = some (.pointer (some ⟨ga, 0, none⟩)) ∧ W.cell? ⟨gl, 1, none⟩ = some (.int .i64 P.next) ∧ W.cell? ⟨gl, 2, none⟩ = some (.int .i64 P.parts) ∧ W.cell? ⟨gl, 3, none⟩ = some (.slice (some ⟨hs, 0, none⟩) sp.length c)) ∧ sp.length ≤ 32 := by
  obtain ⟨_, _, k3, ⟨c, k4⟩, _⟩ := k
  exact ⟨⟨c, blk_cell k4 0 (by simp), blk_cell k4 1 (by simp), blk_cell k4 2 (by simp), blk_cell k4 3 (by simp)⟩, k3⟩
section
variable (gl ga ha hs : Nat) (P : Par) (σ : Ar) (sp : List Sp) (w : World) (H : LkAt w gl ga ha hs P σ sp)
include H
theorem slots_lk : Calls Try.prog 40 #[.pointer (some ⟨gl, 0, none⟩)] w fun e w' => e = .returned (.int .i64 sp.length) ∧ w' = w := by
  obtain ⟨⟨cc, q0, q1, q2, q3⟩, hl⟩ := H.heads
  clear H
  go_enter Try.func40, Try.ntmps40
  go_wp2_with fail
  go_ret
  exact ⟨rfl, rfl⟩
theorem spot_out_lk (i : Int) (hi : i < 0 ∨ (sp.length : Int) ≤ i) : Calls Try.prog 45 #[.pointer (some ⟨gl, 0, none⟩), .int .i64 i] w fun e w' => e = .returned (.pointer none) ∧ w' = w := by
  have HS := Lib.hid (slots_lk gl ga ha hs P σ sp w H)
  obtain ⟨⟨cc, q0, q1, q2, q3⟩, hl⟩ := H.heads
  clear H
  by_cases h0 : i < 0
  · go_enter Try.func45, Try.ntmps45
    go_wp2_with fail
    go_ret
    exact ⟨rfl, rfl⟩
  · have h1 : (sp.length : Int) ≤ i := by omega
    go_enter Try.func45, Try.ntmps45
    go_wp2_with fail
    refine (HS.out).mono ?_
    rintro e wx ⟨rfl, hwx⟩
    obtain rfl := hwx.symm
    go_wp2_with fail
    go_ret
    exact ⟨rfl, rfl⟩
theorem spot_in_lk (k : Nat) (hk : k < sp.length) : Calls Try.prog 45 #[.pointer (some ⟨gl, 0, none⟩), .int .i64 (k : Int)] w fun e w' => e = .returned (.pointer (some ⟨hs, k * 4, none⟩)) ∧ w' = w := by
  have HS := Lib.hid (slots_lk gl ga ha hs P σ sp w H)
  obtain ⟨⟨cc, q0, q1, q2, q3⟩, hl⟩ := H.heads
  have h1 : (k : Int) < (sp.length : Int) := by omega
  have h2 : (0 : Int) ≤ (k : Int) := by omega
  clear H
  go_enter Try.func45, Try.ntmps45
  go_wp2_with fail
  refine (HS.out).mono ?_
  rintro e wx ⟨rfl, hwx⟩
  obtain rfl := hwx.symm
  go_wp2_with fail
  go_ret
  exact ⟨rfl, rfl⟩
theorem Spot_lk (i : Int) : Calls Try.prog 15 #[.pointer (some ⟨gl, 0, none⟩), .int .i64 i] w fun e w' => e = .returned (.agg #[.int .i64 (spOf sp i).pc, .int .i64 (spOf sp i).a, .int .i64 (spOf sp i).b, .int .i64 (spOf sp i).c]) ∧ Below w.heap.size w w' := by
  by_cases hi : i < 0 ∨ (sp.length : Int) ≤ i
  · rw [spOf_out hi]
    have HS := Lib.hid (fun W K => spot_out_lk gl ga ha hs P σ sp W K i hi)
    have HH := Lib.hid (H.same (below_new w (.cells #[.int .i64 0, .int .i64 0, .int .i64 0, .int .i64 0] 31)))
    clear H hi
    go_enter Try.func15, Try.ntmps15
    go_wp2_with fail
    refine (HS.out _ HH.out).mono ?_
    rintro e wx ⟨rfl, hwx⟩
    obtain rfl := hwx.symm
    go_wp2_with fail
    exact bodyPost_ret (v := .agg #[.int .i64 0, .int .i64 0, .int .i64 0, .int .i64 0]) (by simp [results, Try.results15, go_sem]) rfl ⟨rfl, (Below.refl _ _).alloc (Nat.le_refl _) _⟩
  · obtain ⟨k, rfl⟩ := Int.eq_ofNat_of_zero_le (show 0 ≤ i by omega)
    have hk : k < sp.length := by omega
    have HS := Lib.hid (fun W K => spot_in_lk gl ga ha hs P σ sp W K k hk)
    have HH := Lib.hid (H.same (below_new w (.cells #[.int .i64 0, .int .i64 0, .int .i64 0, .int .i64 0] 31)))
    obtain ⟨c0, c1, c2, c3, _⟩ := H.2.1.cells k hk
    have hlt := H.2.1.lt
    have e0 := spOf_in hk
    rw [e0]
    clear H hi e0
    generalize sp[k] = s at *
    obtain ⟨xp, xa, xb, xc⟩ := s
    simp only at c0 c1 c2 c3 ⊢
    go_enter Try.func15, Try.ntmps15
    go_wp2_with fail
    refine (HS.out _ HH.out).mono ?_
    rintro e wx ⟨rfl, hwx⟩
    obtain rfl := hwx.symm
    go_wp2_with fail
    exact bodyPost_ret (v := .agg #[.int .i64 xp, .int .i64 xa, .int .i64 xb, .int .i64 xc]) (by simp [results, Try.results15, go_sem]) rfl ⟨rfl, (Below.refl _ _).alloc (Nat.le_refl _) _⟩
theorem turn_lk (i fr to : Int) : Calls Try.prog 68 #[.pointer (some ⟨gl, 0, none⟩), .int .i64 i, .int .i64 fr, .int .i64 to] w fun e w' => e = .returned (.bool (turnB sp i fr)) ∧ LkAt w' gl ga ha hs P σ (turnS sp i fr to) ∧ Mod [hs] w w' := by
  by_cases hi : i < 0 ∨ (sp.length : Int) ≤ i
  · rw [turn_out hi, turnS_out hi]
    have HS := Lib.hid (spot_out_lk gl ga ha hs P σ sp w H i hi)
    have HH := Lib.hid H
    clear H hi
    go_enter Try.func68, Try.ntmps68
    go_wp2_with fail
    refine (HS.out).mono ?_
    rintro e wx ⟨rfl, hwx⟩
    obtain rfl := hwx.symm
    go_wp2_with fail
    go_ret
    exact ⟨rfl, HH.out, Mod.refl _ _⟩
  · obtain ⟨k, rfl⟩ := Int.eq_ofNat_of_zero_le (show 0 ≤ i by omega)
    have hk : k < sp.length := by omega
    have HS := Lib.hid (spot_in_lk gl ga ha hs P σ sp w H k hk)
    have c0 := (H.2.1.cells k hk).1
    have f0 := (H.2.1.cells k hk).2.2.2.2 (k * 4)
    have HH := Lib.hid H
    have hm : Mod [hs] w (w.setCell ⟨hs, k * 4, none⟩ (.int .i64 to)) := (Mod.refl _ _).setCell (by simp) _
    have HT := Lib.hid (H.spots (H.2.1.setPc k hk to) hm (by rw [List.length_set]))
    rw [turn_in hk, turnS_in hk]
    by_cases hp : sp[k].pc = fr
    · rw [if_pos hp, beq_iff_eq.2 hp]
      rw [hp] at c0
      have e1 := ibne_no (rfl : fr = fr)
      generalize sp.set k { sp[k] with pc := to } = sp2 at *
      clear H hi hp hk
      go_enter Try.func68, Try.ntmps68
      go_wp2_with fail
      refine (HS.out).mono ?_
      rintro e wx ⟨rfl, hwx⟩
      obtain rfl := hwx.symm
      go_wp2_with fail
      go_ret
      exact ⟨rfl, HT.out, hm⟩
    · rw [if_neg hp, beq_eq_false_iff_ne.2 hp]
      have e1 := ibne hp
      generalize sp[k].pc = x at *
      clear H hi hp HT hm hk f0
      go_enter Try.func68, Try.ntmps68
      go_wp2_with fail
      refine (HS.out).mono ?_
      rintro e wx ⟨rfl, hwx⟩
      obtain rfl := hwx.symm
      go_wp2_with fail
      go_ret
      exact ⟨rfl, HH.out, Mod.refl _ _⟩
theorem Ask_lk (i : Int) : Calls Try.prog 36 #[.pointer (some ⟨gl, 0, none⟩), .int .i64 i] w fun e w' => e = .returned (.bool (turnB sp i 0)) ∧ LkAt w' gl ga ha hs P σ (turnS sp i 0 1) ∧ Mod [hs] w w' := by
  have HT := Lib.hid (turn_lk gl ga ha hs P σ sp w H i 0 1)
  clear H
  generalize turnB sp i 0 = b at *
  generalize turnS sp i 0 1 = sp2 at *
  go_enter Try.func36, Try.ntmps36
  go_wp2_with fail
  refine HT.out.mono ?_
  rintro e w2 ⟨rfl, h2, hm⟩
  go_wp2_with fail
  go_ret
  exact ⟨rfl, h2, hm⟩
theorem Leave_lk (i : Int) : Calls Try.prog 39 #[.pointer (some ⟨gl, 0, none⟩), .int .i64 i] w fun e w' => e = .returned (.bool (turnB sp i 10)) ∧ LkAt w' gl ga ha hs P σ (turnS sp i 10 11) ∧ Mod [hs] w w' := by
  have HT := Lib.hid (turn_lk gl ga ha hs P σ sp w H i 10 11)
  clear H
  generalize turnB sp i 10 = b at *
  generalize turnS sp i 10 11 = sp2 at *
  go_enter Try.func39, Try.ntmps39
  go_wp2_with fail
  refine HT.out.mono ?_
  rintro e w2 ⟨rfl, h2, hm⟩
  go_wp2_with fail
  go_ret
  exact ⟨rfl, h2, hm⟩
end

end Go.Proofs.Ythffhhgaeolpgaa.Pt
