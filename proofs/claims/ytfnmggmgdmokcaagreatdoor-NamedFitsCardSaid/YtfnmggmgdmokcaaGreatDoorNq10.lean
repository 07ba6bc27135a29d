/- Merged texts: ClO, Cl1, Cl2, Cl3, Cl4, Cl5, ClI, FlS, Fl4, Fl5. -/
import Derived.Test.YtfnmggmgdmokcaaGreatDoorNq9
import Derived.Deep.RegionHeld3
import Derived.Laws.EntriesVeiled
set_option linter.unusedVariables false
/- Package clh, as Lean has it: slots hold in the order of their doorways. -/
namespace Go.Proofs.YtfnmggmgdmokcaaGreatDoor.Cl
open Go.RowKit Go.Proofs.YtfnmggmgdmokcaaGreatDoor.Ara Go.Proofs.YtfnmggmgdmokcaaGreatDoor.Lok

structure St where
  σ : Ar
  sp : List Sp
  doors : List Int
  held : List Int
def ordS (P : Par) (x : St) (c : Ac) : St :=
  { σ := (doP P x.σ x.sp c.kind c.i).2.1, sp := (doP P x.σ x.sp c.kind c.i).2.2,
    doors := if c.kind = 0 ∧ 0 < (spOf x.sp c.i).pc ∧ (spOf x.sp c.i).pc < 10 ∧ x.σ.ops < (doP P x.σ x.sp c.kind c.i).2.1.ops ∧ (doP P x.σ x.sp c.kind c.i).2.1.kind = 3 then x.doors ++ [c.i] else x.doors,
    held := if (spOf x.sp c.i).pc < 10 ∧ (spOf (doP P x.σ x.sp c.kind c.i).2.2 c.i).pc = 10 then x.held ++ [c.i] else x.held }
structure OrdI (P : Par) (x : St) (z : Int) (q s : List Int) : Prop where
  inv : Inv P x.σ x.sp z q
  dl : x.doors = s ++ q
  hh : (∃ i, inn (spOf x.sp i) ∧ x.held = s ++ [i]) ∨ ((∀ i, ¬ inn (spOf x.sp i)) ∧ x.held = s)
def OrdP (P : Par) (x : St) : Prop := ∃ z q s, OrdI P x z q s
theorem OrdI.keep {P : Par} {x : St} {z : Int} {q s : List Int} (h : OrdI P x z q s) {σ' : Ar} {sp' : List Sp} (hi : Inv P σ' sp' z q) (hn : ∀ i, inn (spOf sp' i) ↔ inn (spOf x.sp i)) : OrdP P { σ := σ', sp := sp', doors := x.doors, held := x.held } := by
  refine ⟨z, q, s, hi, h.dl, ?_⟩
  rcases h.hh with ⟨i, h1, e⟩ | ⟨h1, e⟩
  · exact .inl ⟨i, (hn i).2 h1, e⟩
  · exact .inr ⟨fun i h2 => h1 i ((hn i).1 h2), e⟩
theorem do_0 (P : Par) (σ : Ar) (sp : List Sp) (i : Int) : doP P σ sp 0 i = stepP P σ sp i := rfl
theorem step_1 {P : Par} {σ : Ar} {sp : List Sp} {i : Int} (h : (spOf sp i).pc = 1) : stepP P σ sp i = (false, σ.op 2 (box P (spOf sp i).a) true 1, sp.set i.toNat { spOf sp i with pc := 2 }) := by
  unfold stepP; rw [if_pos h]
theorem step_2 {P : Par} {σ : Ar} {sp : List Sp} {i : Int} (h : (spOf sp i).pc = 2) : stepP P σ sp i = (false, σ.op 3 P.tail true (spOf sp i).a, sp.set i.toNat { spOf sp i with pc := 3, b := σ.get P.tail }) := by
  unfold stepP; rw [if_neg (by omega), if_pos h, show box P 0 = P.tail by simp [box]]
theorem step_3 {P : Par} {σ : Ar} {sp : List Sp} {i : Int} (h : (spOf sp i).pc = 3) : stepP P σ sp i = (σ.get (box P (spOf sp i).b) == 0, σ.op 1 (box P (spOf sp i).b) false 0, if σ.get (box P (spOf sp i).b) = 0 then sp.set i.toNat { spOf sp i with pc := 10 } else sp) := by
  unfold stepP; rw [if_neg (by omega), if_neg (by omega), if_pos h]
theorem step_11 {P : Par} {σ : Ar} {sp : List Sp} {i : Int} (h : (spOf sp i).pc = 11) : stepP P σ sp i = (true, σ.op 2 (box P (spOf sp i).a) true 0, sp.set i.toNat { spOf sp i with pc := 0, a := (spOf sp i).b }) := by
  unfold stepP; rw [if_neg (by omega), if_neg (by omega), if_neg (by omega), if_pos h]
theorem step_no {P : Par} {σ : Ar} {sp : List Sp} {i : Int} (h : (spOf sp i).pc = 0 ∨ (spOf sp i).pc = 10) : stepP P σ sp i = (false, σ, sp) := by
  unfold stepP; rw [if_neg (by omega), if_neg (by omega), if_neg (by omega), if_neg (by omega)]
theorem inv_1 {P : Par} {σ : Ar} {sp : List Sp} {z : Int} {q : List Int} (h : Inv P σ sp z q) {i : Int} (p : (spOf sp i).pc = 1) : Inv P (σ.op 2 (box P (spOf sp i).a) true 1) (sp.set i.toNat { spOf sp i with pc := 2 }) z q := by
  obtain ⟨i0, i1⟩ := spOf_range (sp := sp) (i := i) (by omega)
  have hr := h.ar i i0 i1
  obtain ⟨h1, h2⟩ := h.lays i i0 i1 1 (fun _ => rfl) (by omega)
  exact h1.turns (by simp) i _ (spOf_set i0 i1 { spOf sp i with pc := 2 }) rfl rfl (.inr (.inr (.inl rfl))) (by unfold inq inn; simp only; omega) (fun e => by unfold inn at e; simp at e) (fun _ => h2)
theorem inv_2 {P : Par} {σ : Ar} {sp : List Sp} {z : Int} {q : List Int} (h : Inv P σ sp z q) {i : Int} (p : (spOf sp i).pc = 2) : Inv P (σ.op 3 P.tail true (spOf sp i).a) (sp.set i.toNat { spOf sp i with pc := 3, b := σ.get P.tail }) z (q ++ [i]) := by
  obtain ⟨i0, i1⟩ := spOf_range (sp := sp) (i := i) (by omega)
  exact h.takes (by simp) i p (spOf_set i0 i1 _)
theorem inv_3 {P : Par} {σ : Ar} {sp : List Sp} {z : Int} {q : List Int} (h : Inv P σ sp z q) {i : Int} (p : (spOf sp i).pc = 3) (hg : σ.get (box P (spOf sp i).b) = 0) : Inv P (σ.op 1 (box P (spOf sp i).b) false 0) (sp.set i.toNat { spOf sp i with pc := 10 }) z q := by
  obtain ⟨i0, i1⟩ := spOf_range (sp := sp) (i := i) (by omega)
  exact (h.turns (by simp) i _ (spOf_set i0 i1 { spOf sp i with pc := 10 }) rfl rfl (.inr (.inr (.inr (.inr (.inl rfl))))) ⟨fun _ => .inl p, fun _ => .inr (.inl rfl)⟩ (fun _ => h.head i (.inl p) hg) (fun e => by simp at e)).read _ _
theorem inv_11 {P : Par} {σ : Ar} {sp : List Sp} {z : Int} {q : List Int} (h : Inv P σ sp z q) {i : Int} (p : (spOf sp i).pc = 11) : Inv P (σ.op 2 (box P (spOf sp i).a) true 0) (sp.set i.toNat { spOf sp i with pc := 0, a := (spOf sp i).b }) (spOf sp i).a q.tail := by
  obtain ⟨i0, i1⟩ := spOf_range (sp := sp) (i := i) (by omega)
  exact h.leaves (by simp) i p (spOf_set i0 i1 _)
theorem inv_ask {P : Par} {σ : Ar} {sp : List Sp} {z : Int} {q : List Int} (h : Inv P σ sp z q) (i : Int) : Inv P σ (turnS sp i 0 1) z q := by
  cases ht : turnB sp i 0
  · rw [turn_no 1 ht]; exact h
  · have hp := (turn_true ht).2
    exact h.turns (turnS_len _ _ _ _) i _ (spOf_turn 1 ht) rfl rfl (.inr (.inl rfl)) (by unfold inq inn; simp only; omega) (fun e => by unfold inn at e; simp at e) (fun e => by simp at e)
theorem inv_leave {P : Par} {σ : Ar} {sp : List Sp} {z : Int} {q : List Int} (h : Inv P σ sp z q) (i : Int) : Inv P σ (turnS sp i 10 11) z q := by
  cases ht : turnB sp i 10
  · rw [turn_no 11 ht]; exact h
  · have hp := (turn_true ht).2
    exact h.turns (turnS_len _ _ _ _) i _ (spOf_turn 11 ht) rfl rfl (.inr (.inr (.inr (.inr (.inr rfl))))) ⟨fun _ => .inr (.inl hp), fun _ => .inr (.inr rfl)⟩ (fun _ => h.first i (.inl hp)) (fun e => by simp at e)
theorem inv_alone {P : Par} {σ : Ar} {sp : List Sp} {z : Int} {q : List Int} (h : Inv P σ sp z q) (i : Int) : Inv P (aloneP P σ sp i).2 sp z q := by
  unfold aloneP
  split
  · exact h.read _ _
  · exact h
theorem do_inv {P : Par} {σ : Ar} {sp : List Sp} {z : Int} {q : List Int} (h : Inv P σ sp z q) (kd i : Int) : ∃ z' q', Inv P (doP P σ sp kd i).2.1 (doP P σ sp kd i).2.2 z' q' := by
  by_cases k0 : kd = 0
  · subst k0
    rw [do_0]
    rcases h.pcs i with p | p | p | p | p | p
    · rw [step_no (.inl p)]; exact ⟨_, _, h⟩
    · rw [step_1 p]; exact ⟨_, _, inv_1 h p⟩
    · rw [step_2 p]; exact ⟨_, _, inv_2 h p⟩
    · rw [step_3 p]
      by_cases hg : σ.get (box P (spOf sp i).b) = 0
      · simp only [if_pos hg]; exact ⟨_, _, inv_3 h p hg⟩
      · simp only [if_neg hg]; exact ⟨_, _, h.read _ _⟩
    · rw [step_no (.inr p)]; exact ⟨_, _, h⟩
    · rw [step_11 p]; exact ⟨_, _, inv_11 h p⟩
  by_cases k1 : kd = 1
  · subst k1; exact ⟨_, _, inv_ask h i⟩
  by_cases k2 : kd = 2
  · subst k2; exact ⟨_, _, inv_leave h i⟩
  by_cases k3 : kd = 3
  · subst k3; exact ⟨_, _, inv_alone h i⟩
  · have e : doP P σ sp kd i = (false, σ, sp) := by unfold doP; rw [if_neg k0, if_neg k1, if_neg k2, if_neg k3]
    rw [e]
    exact ⟨_, _, h⟩
theorem do_len (P : Par) (σ : Ar) (sp : List Sp) (kd i : Int) : (doP P σ sp kd i).2.2.length = sp.length := by
  unfold doP
  split
  · unfold stepP
    split
    · simp
    split
    · simp
    split
    · simp only; split <;> simp
    split
    · simp
    · rfl
  split
  · exact turnS_len _ _ _ _
  split
  · exact turnS_len _ _ _ _
  split <;> rfl
theorem do_ops (P : Par) (σ : Ar) (sp : List Sp) (kd i : Int) : (doP P σ sp kd i).2.1.ops ≤ σ.ops + 1 ∧ σ.ops ≤ (doP P σ sp kd i).2.1.ops := by
  have h : ∀ (kd p v : Int) (wr : Bool), (σ.op kd p wr v).ops ≤ σ.ops + 1 ∧ σ.ops ≤ (σ.op kd p wr v).ops := by
    intro kd p v wr
    rw [op_ops]
    split <;> omega
  unfold doP
  split
  · unfold stepP
    split
    · exact h _ _ _ _
    split
    · exact h _ _ _ _
    split
    · exact h _ _ _ _
    split
    · exact h _ _ _ _
    · exact ⟨Nat.le_succ _, Nat.le_refl _⟩
  split
  · exact ⟨Nat.le_succ _, Nat.le_refl _⟩
  split
  · exact ⟨Nat.le_succ _, Nat.le_refl _⟩
  split
  · unfold aloneP
    split
    · exact h _ _ _ _
    · exact ⟨Nat.le_succ _, Nat.le_refl _⟩
  · exact ⟨Nat.le_succ _, Nat.le_refl _⟩
def first0 (n : Nat) : List Sp := (List.range n).map (fun k : Nat => ⟨0, (k : Int) + 1, 0, 0⟩)
theorem first0_spot (n : Nat) (i : Int) : spOf (first0 n) i = if 0 ≤ i ∧ i < n then ⟨0, i + 1, 0, 0⟩ else sp0 := by
  by_cases hi : 0 ≤ i ∧ i < n
  · rw [if_pos hi]
    obtain ⟨k, rfl⟩ := Int.eq_ofNat_of_zero_le hi.1
    rw [spOf_in (by simp [first0]; omega)]
    simp [first0]
  · rw [if_neg hi, spOf_out (by simp [first0]; omega)]
theorem inv_start (n : Nat) (h1 : n ≤ 32) : Inv ⟨1⟩ ((⟨zerosW 100, n + 2, 0, 0, 0, false⟩ : Ar).op 2 1 true ((n : Int) + 1)) (first0 n) ((n : Int) + 1) [] := by
  have hzg : ∀ q, (⟨zerosW 100, n + 2, 0, 0, 0, false⟩ : Ar).get q = 0 := by
    intro q
    unfold Ar.get
    split
    · show (List.replicate 100 (0 : Int)).getD _ 0 = 0
      rw [List.getD_eq_getElem?_getD, List.getElem?_replicate]
      split <;> rfl
    · rfl
  have hh : (⟨zerosW 100, n + 2, 0, 0, 0, false⟩ : Ar).has 1 = true := by simp [Ar.has]; omega
  have hg := fun q => get_op (⟨zerosW 100, n + 2, 0, 0, 0, false⟩ : Ar) (by simp [zerosW]; omega) 2 1 ((n : Int) + 1) true q
  simp only [hh, true_and, hzg] at hg
  have hl : (first0 n).length = n := by simp [first0]
  have hp : ∀ i, (spOf (first0 n) i).pc = 0 := by
    intro i; rw [first0_spot]; split <;> rfl
  have ha : ∀ i : Int, 0 ≤ i → i < n → (spOf (first0 n) i).a = i + 1 := by
    intro i i0 i1; rw [first0_spot, if_pos ⟨i0, i1⟩]
  refine { hl := ?_, t1 := by decide, t2 := ?_, zr := ?_, ar := ?_, br := ?_, pcs := fun i => .inl (hp i), mem := ?_, nd := List.nodup_nil, first := ?_, inj := ?_, nz := ?_, ch := trivial, gz := ?_, g1 := ?_, gT := ?_ }
  · rw [op_t, op_len]; simp [zerosW]; omega
  · rw [op_t, hl]; show 1 + (n : Int) + 1 ≤ ((n + 2 : Nat) : Int); omega
  · rw [hl]; omega
  · intro i i0 i1; rw [hl] at i1 ⊢; rw [ha i i0 i1]; omega
  · intro i; rw [hl, first0_spot]; split
    · simp only; omega
    · simp only [sp0]; omega
  · intro i
    refine ⟨fun h => by simp at h, fun h => ?_⟩
    have := hp i
    unfold inq inn at h
    omega
  · intro i h
    have := hp i
    unfold inn at h
    omega
  · intro i j i0 i1 j0 j1 e
    rw [hl] at i1 j1
    rw [ha i i0 i1, ha j j0 j1] at e
    omega
  · intro i i0 i1
    rw [hl] at i1
    rw [ha i i0 i1]
    omega
  · rw [hg, if_neg (by simp [box]; omega)]
  · intro i h
    have := hp i
    unfold inq inn at h
    omega
  · rw [hg, if_pos rfl]; rfl
end Go.Proofs.YtfnmggmgdmokcaaGreatDoor.Cl

/- Package clh: slots, spots, turns. -/
namespace Go.Proofs.YtfnmggmgdmokcaaGreatDoor.Cl
open Go.RowKit Go.Proofs.YtfnmggmgdmokcaaGreatDoor.Ara Go.Proofs.YtfnmggmgdmokcaaGreatDoor.Lok

def LkAt (W : World) (gl ga ha hs : Nat) (P : Par) (σ : Ar) (sp : List Sp) : Prop :=
  ArAt W ga ha σ ∧ SpAt W hs sp ∧ sp.length ≤ 32 ∧ (∃ c : Nat, W.heap[gl]? = some (.cells #[.pointer (some ⟨ga, 0, none⟩), .int .i64 P.tail, .slice (some ⟨hs, 0, none⟩) sp.length c] 140 (0, 0))) ∧ gl ≠ ga ∧ gl ≠ ha ∧ gl ≠ hs ∧ hs ≠ ga ∧ hs ≠ ha
theorem LkAt.mod {S : List Nat} {W W' : World} {gl ga ha hs : Nat} {P : Par} {σ : Ar} {sp : List Sp} (k : LkAt W gl ga ha hs P σ sp) (hm : Mod S W W') (h1 : gl ∉ S) (h2 : ga ∉ S) (h3 : ha ∉ S) (h4 : hs ∉ S) : LkAt W' gl ga ha hs P σ sp := by
  obtain ⟨k1, k2, k3, ⟨c, k4⟩, k5⟩ := k
  exact ⟨k1.mod hm h2 h3, k2.mod hm h4, k3, ⟨c, hm.blk k4 h1⟩, k5⟩
theorem LkAt.same {W W' : World} {gl ga ha hs : Nat} {P : Par} {σ : Ar} {sp : List Sp} (k : LkAt W gl ga ha hs P σ sp) (hb : Below W.heap.size W W') : LkAt W' gl ga ha hs P σ sp :=
  k.mod (S := []) (Mod.of_below hb) (by simp) (by simp) (by simp) (by simp)
theorem LkAt.drewN {W : World} {gl ga ha hs : Nat} {P : Par} {σ : Ar} {sp : List Sp} (k : LkAt W gl ga ha hs P σ sp) (n : Nat) : LkAt (W.drewN n) gl ga ha hs P σ sp := k
theorem LkAt.arena {W W' : World} {gl ga ha hs : Nat} {P : Par} {σ σ' : Ar} {sp : List Sp} (k : LkAt W gl ga ha hs P σ sp) (ha' : ArAt W' ga ha σ') (hm : Mod [ga, ha] W W') : LkAt W' gl ga ha hs P σ' sp := by
  obtain ⟨_, k2, k3, ⟨c, k4⟩, d1, d2, d3, d4, d5⟩ := k
  exact ⟨ha', k2.mod hm (by simp; omega), k3, ⟨c, hm.blk k4 (by simp; omega)⟩, d1, d2, d3, d4, d5⟩
theorem LkAt.spots {W W' : World} {gl ga ha hs : Nat} {P : Par} {σ : Ar} {sp sp' : List Sp} (k : LkAt W gl ga ha hs P σ sp) (hs' : SpAt W' hs sp') (hm : Mod [hs] W W') (hl : sp'.length = sp.length) : LkAt W' gl ga ha hs P σ sp' := by
  obtain ⟨k1, _, k3, ⟨c, k4⟩, d1, d2, d3, d4, d5⟩ := k
  refine ⟨k1.mod hm (by simp; omega) (by simp; omega), hs', by omega, ⟨c, ?_⟩, d1, d2, d3, d4, d5⟩
  have := hm.blk k4 (by simp; omega)
  rw [hl]
  exact this
theorem LkAt.heads {W : World} {gl ga ha hs : Nat} {P : Par} {σ : Ar} {sp : List Sp} (k : LkAt W gl ga ha hs P σ sp) : (∃ c : Nat, W.cell? ⟨gl, 0, none⟩ = some (.pointer (some ⟨ga, 0, none⟩)) ∧ W.cell? ⟨gl, 1, none⟩ = some (.int .i64 P.tail) ∧ W.cell? ⟨gl, 2, none⟩ = some (.slice (some ⟨hs, 0, none⟩) sp.length c)) ∧ sp.length ≤ 32 := by
  obtain ⟨_, _, k3, ⟨c, k4⟩, _⟩ := k
  exact ⟨⟨c, blk_cell k4 0 (by simp), blk_cell k4 1 (by simp), blk_cell k4 2 (by simp)⟩, k3⟩
section
variable (gl ga ha hs : Nat) (P : Par) (σ : Ar) (sp : List Sp) (w : World) (H : LkAt w gl ga ha hs P σ sp)
include H
end

end Go.Proofs.YtfnmggmgdmokcaaGreatDoor.Cl

/- Package clh: Step, from one step tO the next. -/
namespace Go.Proofs.YtfnmggmgdmokcaaGreatDoor.Cl
open Go.RowKit Go.Proofs.YtfnmggmgdmokcaaGreatDoor.Ara Go.Proofs.YtfnmggmgdmokcaaGreatDoor.Lok

def Num (P : Par) (σ : Ar) (sp : List Sp) : Prop := (1 ≤ P.tail ∧ P.tail ≤ 4096) ∧ (∀ k (h : k < sp.length), (0 ≤ sp[k].a ∧ sp[k].a ≤ 4096) ∧ 0 ≤ sp[k].b ∧ sp[k].b ≤ 4096) ∧ σ.ops ≤ 1000000 ∧ 1 ≤ σ.t
section
variable (gl ga ha hs : Nat) (P : Par) (σ : Ar) (sp : List Sp) (w : World) (H : LkAt w gl ga ha hs P σ sp) (hN : Num P σ sp)
include H hN
end
end Go.Proofs.YtfnmggmgdmokcaaGreatDoor.Cl

/- Package clh: Step, Alone. -/
namespace Go.Proofs.YtfnmggmgdmokcaaGreatDoor.Cl
open Go.RowKit Go.Proofs.YtfnmggmgdmokcaaGreatDoor.Ara Go.Proofs.YtfnmggmgdmokcaaGreatDoor.Lok

section
variable (gl ga ha hs : Nat) (P : Par) (σ : Ar) (sp : List Sp) (w : World) (H : LkAt w gl ga ha hs P σ sp)
include H
end
end Go.Proofs.YtfnmggmgdmokcaaGreatDoor.Cl

/- Layer 19's law: do. -/
namespace Go.Proofs.YtfnmggmgdmokcaaGreatDoor.Cl
open Go.RowKit Go.Proofs.YtfnmggmgdmokcaaGreatDoor.Ara Go.Proofs.YtfnmggmgdmokcaaGreatDoor.Lok

end Go.Proofs.YtfnmggmgdmokcaaGreatDoor.Cl

/- Package clh: New. -/
namespace Go.Proofs.YtfnmggmgdmokcaaGreatDoor.Cl
open Go.RowKit Go.Proofs.YtfnmggmgdmokcaaGreatDoor.Ara Go.Proofs.YtfnmggmgdmokcaaGreatDoor.Lok

theorem frame53 {a : Act} (h : a.tmps.size = 53) (hd : a.defers = []) : ∃ u : Nat → Value, a = { tmps := #[u 0, u 1, u 2, u 3, u 4, u 5, u 6, u 7, u 8, u 9, u 10, u 11, u 12, u 13, u 14, u 15, u 16, u 17, u 18, u 19, u 20, u 21, u 22, u 23, u 24, u 25, u 26, u 27, u 28, u 29, u 30, u 31, u 32, u 33, u 34, u 35, u 36, u 37, u 38, u 39, u 40, u 41, u 42, u 43, u 44, u 45, u 46, u 47, u 48, u 49, u 50, u 51, u 52], defers := [] } ∧ ∀ n, a.tmps.getD n undef = u n := by
  refine ⟨fun n => a.tmps.getD n undef, ?_, fun _ => rfl⟩
  have h1 := arr_lit a.tmps h
  cases a with
  | mk t d =>
    simp only at hd h1
    subst hd
    congr 1
theorem infoSp : (Tryz.prog.info? 142).map (fun i => (i.zero, i.size, i.bytes)) = some (some (.agg #[.int .i64 0, .int .i64 0, .int .i64 0, .int .i64 0]), 4, 32) := by kernel_rfl
theorem first0_succ (i : Nat) : first0 (i + 1) = first0 i ++ [⟨0, (i : Int) + 1, 0, 0⟩] := by
  unfold first0
  rw [List.range_succ, List.map_append]
  rfl
theorem first0_len (i : Nat) : (first0 i).length = i := by simp [first0]
def lkCells (ga : Nat) (tail : Int) (v : Value) : Array Value := #[.pointer (some ⟨ga, 0, none⟩), .int .i64 tail, v]
def NwJ (N ga ha gl : Nat) (tail : Int) (σ : Ar) (w2 : World) (a : Act) (W : World) : Prop :=
  a.tmps.size = 53 ∧ a.defers = [] ∧ a.tmps.getD 0 undef = .pointer (some ⟨ga, 0, none⟩) ∧ a.tmps.getD 1 undef = .int .i64 N ∧ a.tmps.getD 6 undef = .int .i64 tail ∧ a.tmps.getD 8 undef = .pointer (some ⟨gl, 0, none⟩) ∧ a.tmps.getD 30 undef = .int .i64 N ∧
    ∃ (i : Nat) (v : Value), a.tmps.getD 31 undef = .int .i64 i ∧ i ≤ N ∧ W.heap[gl]? = some (.cells (lkCells ga tail v) 140 (0, 0)) ∧ W.ownsRow (gl + 1) 142 4 v i ((first0 i).flatMap decSp) ∧ ArAt W ga ha σ ∧ Below gl w2 W ∧ gl + 1 ≤ W.heap.size
set_option maxHeartbeats 4000000 in
set_option maxRecDepth 100000 in
theorem new_lk (ga ha : Nat) (σ σ1 : Ar) (w : World) (H : ArAt w ga ha σ) (hh : ha < w.heap.size) (n : Nat) (n1 : 1 ≤ n) (n2 : n ≤ 32) (next : Int) (x1 : 1 ≤ next) (x2 : next ≤ 4096)
    (ht : σ.take ((n : Int) + 2) = ((next, 0), σ1)) (ho : σ1.ops ≤ 1000000) :
    Calls Tryz.prog 38 #[.pointer (some ⟨ga, 0, none⟩), .int .i64 (n : Int)] w fun e w' => ∃ gl hs, e = .returned (.tuple #[.pointer (some ⟨gl, 0, none⟩), .int .i64 0]) ∧ LkAt w' gl ga ha hs ⟨next⟩ (σ1.op 2 next true ((n : Int) + 1)) (first0 n) ∧ w.heap.size ≤ gl ∧ w.heap.size ≤ hs ∧ Mod [ga, ha] w w' := by
  have HT := take_any ga ha σ w H ((n : Int) + 2)
  rw [ht] at HT
  replace HT := Lib.hid HT
  have hga := H.lt
  have i1 : (1 : Int) ≤ (n : Int) := by omega
  have i2 : (n : Int) ≤ 32 := by omega
  have HO := Lib.hid ho
  clear H ht ho
  go_enter Tryz.func38, Tryz.ntmps38
  go_wp2_with fail
  refine HT.out.mono ?_
  rintro e w2 ⟨rfl, h2, hm2⟩
  have hz2 := hm2.size
  have hb0 := below_new w2 (.cells #[.pointer (some ⟨ga, 0, none⟩), .int .i64 next, .slice none 0 0] 140)
  have HK0 := Lib.hid (blk_new w2 (.cells #[.pointer (some ⟨ga, 0, none⟩), .int .i64 next, .slice none 0 0] 140))
  have HA0 := Lib.hid (h2.step hb0)
  have hz0 : w2.heap.size + 1 ≤ (w2.alloc (.cells #[.pointer (some ⟨ga, 0, none⟩), .int .i64 next, .slice none 0 0] 140)).heap.size := by simp
  have HB0 := Lib.hid hb0
  have HM := Lib.hid hm2
  clear hb0 h2 hm2 HT
  go_wp2_with fail
  generalize w2.alloc (.cells #[.pointer (some ⟨ga, 0, none⟩), .int .i64 next, .slice none 0 0] 140) = W0 at *
  generalize hgl : w2.heap.size = gl at *
  refine wp_loop (NwJ n ga ha gl next σ1 w2) (fun a' _ => n - (intOf (a'.tmps.getD 31 undef)).toNat) ?_ ?_
  · exact ⟨rfl, rfl, rfl, rfl, rfl, rfl, rfl, 0, .slice none 0 0, rfl, Nat.zero_le _, HK0.out, World.ownsRow_nil _ _ _ _, HA0.out, HB0.out, hz0⟩
  · clear HK0 HA0 HB0 hz0
    rintro a' W ⟨hsz, hdf, s0, s1, s6, s8, s30, i, v, s31, hi, hbk, hown, hat, hb, hz⟩
    obtain ⟨u, rfl, hu⟩ := frame53 hsz hdf
    rw [hu] at s0 s1 s6 s8 s30 s31
    simp only [s0, s1, s6, s8, s30, s31]
    clear hsz hdf s0 s1 s6 s8 s30 s31 hu
    by_cases hlt : i < n
    · obtain ⟨A, c, rfl, _⟩ := own_slice hown
      have c2 := blk_cell hbk 2 (by simp [lkCells])
      have f2 := blk_free hbk 2
      simp only [lkCells, List.getElem_toArray, List.getElem_cons_zero, List.getElem_cons_succ] at c2
      have HBk := Lib.hid hbk
      have HAt := Lib.hid hat
      have HB := Lib.hid hb
      have e1 : IntKind.i64.wrap ((i : Int) + 1) = (i : Int) + 1 := IntWalk.i64_in _ (by omega)
      clear hbk hat hb
      go_wp2_with (at_builtin; refine wpList_append1 (.tmp 38) (.tmp 42) 63 142 _ 4 32 rfl rfl Tryz.underlying63 infoSp rfl (by decide) (gl + 1) _ _ _ _ _ _ _ _ hown rfl rfl ?cg rfl ?d1 ?d2 ?d3 ?d4 ?ck; case' ck => intro v' w3 hown3 hb3 _; have q6 := (hb3.cell (p := ⟨gl, 2, none⟩) (Nat.lt_succ_self gl)).trans c2; have r6 := (hb3.frozen (p := ⟨gl, 2, none⟩) (Nat.lt_succ_self gl)).trans f2; obtain ⟨A3, c3, rfl, _, _, _⟩ := own_slice hown3)
      case cg => first | rfl | simp
      case d1 => simp [Value.oneCell']
      case d2 => simp only [maxLen]; omega
      case d3 => omega
      try (case d4 => exact hz)
      have hu : Upd (gl + 1) [gl] W (w3.setCell ⟨gl, 2, none⟩ (.slice A3 (i + 1) c3)) := (Upd.of_below hb3).setCell (.inl (by simp)) _
      have hbk2 := blk_set ((hb3.block gl (Nat.lt_succ_self gl)).trans HBk.out) 2 (.slice A3 (i + 1) c3)
      have hown4 : (w3.setCell ⟨gl, 2, none⟩ (.slice A3 (i + 1) c3)).ownsRow (gl + 1) 142 4 (.slice A3 (i + 1) c3) (i + 1) ((first0 (i + 1)).flatMap decSp) := by
        have := ownsRow_setCell_below hown3 (a := ⟨gl, 2, none⟩) (Nat.lt_succ_self gl) (.slice A3 (i + 1) c3)
        rw [first0_succ, List.flatMap_append]
        simpa [decSp] using this
      exact ⟨⟨rfl, rfl, rfl, rfl, rfl, rfl, rfl, i + 1, _, rfl, hlt, hbk2, hown4, HAt.out.upd hu (by omega) (by omega) (by simp; omega) (by simp; omega), HB.out.trans (hu.below (by omega) (by simp)), Nat.le_trans hz hu.size⟩, by simp [intOf]; omega⟩
    · obtain rfl : i = n := by omega
      rcases hown.2 with ⟨_, h0⟩ | ⟨g, cc, cur, rfl, hg, hgb, _, _, _, htk⟩
      · omega
      · have hK : LkAt W gl ga ha g ⟨next⟩ σ1 (first0 i) := by
          refine ⟨hat, ⟨cur, hgb, by rw [first0_len]; exact htk⟩, by rw [first0_len]; exact n2, ⟨cc, by rw [first0_len]; exact hbk⟩, by omega, by omega, by omega, by omega, by omega⟩
        have HK := Lib.hid hK
        have HB := Lib.hid hb
        have e1 : IntKind.i64.wrap ((i : Int) + 1) = (i : Int) + 1 := IntWalk.i64_in _ (by omega)
        clear hown hat hbk hb hgb htk hK
        go_wp2_with fail
        refine (store_any ga ha σ1 _ HK.out.1 HO.out next ((i : Int) + 1)).mono ?_
        rintro e w5 ⟨rfl, h5, hm5⟩
        have hK5 := Lib.hid (HK.out.arena h5 hm5)
        have hm6 : Mod [ga, ha] w w5 := (HM.out.trans (Mod.of_below (by rw [hgl]; exact HB.out))).trans hm5
        clear h5 hm5
        go_wp2_with fail
        go_ret2
        exact ⟨gl, g, rfl, hK5.out, by omega, by omega, hm6⟩
end Go.Proofs.YtfnmggmgdmokcaaGreatDoor.Cl

/- Package clh: what its laws ask of it. -/
namespace Go.Proofs.YtfnmggmgdmokcaaGreatDoor.Cl
open Go.RowKit Go.Proofs.YtfnmggmgdmokcaaGreatDoor.Ara Go.Proofs.YtfnmggmgdmokcaaGreatDoor.Lok

theorem Inv.num {P : Par} {σ : Ar} {sp : List Sp} {z : Int} {q : List Int} (h : Inv P σ sp z q) (hl : sp.length ≤ 32) (ho : σ.ops ≤ 1000000) (hn : P.tail ≤ 4096) : Num P σ sp := by
  refine ⟨⟨h.t1, hn⟩, fun k hk => ?_, ho, ?_⟩
  · have h1 := h.ar (k : Int) (by omega) (by omega)
    have h2 := h.br (k : Int)
    rw [spOf_in hk] at h1 h2
    omega
  · have := h.t1
    have := h.t2
    omega
structure OkP (P : Par) (σ : Ar) (sp : List Sp) (n m : Nat) : Prop where
  inv : ∃ z q, Inv P σ sp z q
  ops : σ.ops ≤ m + 1
  nx : P.tail ≤ 4096
  len : sp.length = n
  small : n ≤ 32
section
variable {P : Par} {σ : Ar} {sp : List Sp} {n m : Nat} (h : OkP P σ sp n m)
include h
theorem OkP.act (kd i : Int) : OkP P (doP P σ sp kd i).2.1 (doP P σ sp kd i).2.2 n (m + 1) := by
  obtain ⟨z, q, hi⟩ := h.inv
  obtain ⟨z', q', hi'⟩ := do_inv hi kd i
  exact ⟨⟨z', q', hi'⟩, by have := do_ops P σ sp kd i; have := h.ops; omega, h.nx, (do_len P σ sp kd i).trans h.len, h.small⟩
theorem OkP.num (hm : m ≤ 100000) : Num P σ sp := by
  obtain ⟨z, q, hi⟩ := h.inv
  exact hi.num (by have := h.len; have := h.small; omega) (by have := h.ops; omega) h.nx
theorem OkP.one : cnt (fun s => s.pc == 10) sp n ≤ 1 := by
  obtain ⟨z, q, hi⟩ := h.inv
  exact hi.one n
theorem OkP.behind (i : Int) (hp : (spOf sp i).pc = 10) (ha : (doP P σ sp 3 i).1 = false) : 0 < cnt (fun s => decide (0 < s.pc) && decide (s.pc < 10)) sp n := by
  obtain ⟨z, q, hi⟩ := h.inv
  rw [← h.len]
  exact hi.behind i hp ha
end
def first1 (n : Nat) : Ar × List Sp := ((⟨zerosW 100, n + 2, 0, 0, 0, false⟩ : Ar).op 2 1 true ((n : Int) + 1), first0 n)
theorem OkP.first (n : Nat) (hn : n ≤ 32) : OkP ⟨1⟩ (first1 n).1 (first1 n).2 n 0 := by
  refine ⟨⟨_, _, inv_start n hn⟩, ?_, by show (1 : Int) ≤ 4096; decide, by simp [first1, first0], hn⟩
  show (Ar.op _ _ _ _ _).ops ≤ 1
  rw [op_ops]
  show 0 + _ ≤ 1
  split <;> omega
end Go.Proofs.YtfnmggmgdmokcaaGreatDoor.Cl

/- How locks of all five kinds stand at first, wherever their words lie. -/
namespace Go.Proofs.YtfnmggmgdmokcaaGreatDoor
open Go.RowKit Go.Proofs.YtfnmggmgdmokcaaGreatDoor.Ara Go.Proofs.YtfnmggmgdmokcaaGreatDoor.Lok

structure Zr (σ : Ar) (a m : Nat) : Prop where
  hl : σ.t ≤ σ.ws.length
  a1 : 1 ≤ a
  at_ : a + m ≤ σ.t + 1
  z : ∀ q : Int, (a : Int) ≤ q → q < (a : Int) + m → σ.get q = 0
theorem Zr.has {σ : Ar} {a m : Nat} (h : Zr σ a m) {q : Int} (h1 : (a : Int) ≤ q) (h2 : q < (a : Int) + m) : σ.has q = true := by
  have := h.a1
  have := h.at_
  simp [Ar.has]
  omega
namespace Ta
end Ta
namespace Tk
end Tk
namespace Pt
end Pt
namespace Mc
end Mc
namespace Cl
end Cl
end Go.Proofs.YtfnmggmgdmokcaaGreatDoor

/- Package flat: a lock of any kind: what its methods do, by those of its kind. -/
namespace Go.Proofs.YtfnmggmgdmokcaaGreatDoor.Fl
open Go.RowKit Go.Proofs.YtfnmggmgdmokcaaGreatDoor.Ara Go.Proofs.YtfnmggmgdmokcaaGreatDoor.Lok

section
variable (gf : Nat) (kind : Int) (hk : kind ≠ 0) (T : TypeId) (v r : Value) (F : FuncId) (w : World)
include hk
end
end Go.Proofs.YtfnmggmgdmokcaaGreatDoor.Fl

/- Package flat: a lock of any kind, as Lean has it, and in memory. -/
namespace Go.Proofs.YtfnmggmgdmokcaaGreatDoor.Fl
open Go.RowKit Go.Proofs.YtfnmggmgdmokcaaGreatDoor.Ara Go.Proofs.YtfnmggmgdmokcaaGreatDoor.Lok

inductive PK where
  | tas (P : Ta.Par)
  | tic (P : Tk.Par)
  | par (P : Pt.Par)
  | mcs (P : Mc.Par)
  | clh (P : Cl.Par)
def PK.num : PK → Int
  | .tas _ => 1
  | .tic _ => 2
  | .par _ => 3
  | .mcs _ => 4
  | .clh _ => 5
def PK.ty : PK → TypeId
  | .tas _ => 103
  | .tic _ => 104
  | .par _ => 107
  | .mcs _ => 110
  | .clh _ => 113
def PK.val (gl : Nat) : PK → Value
  | .tas _ => .agg #[.pointer (some ⟨gl, 0, none⟩)]
  | _ => .pointer (some ⟨gl, 0, none⟩)
def doK : PK → Ar → List Sp → Int → Int → Bool × Ar × List Sp
  | .tas P => Ta.doP P
  | .tic P => Tk.doP P
  | .par P => Pt.doP P
  | .mcs P => Mc.doP P
  | .clh P => Cl.doP P
def OkK : PK → Ar → List Sp → Nat → Nat → Prop
  | .tas P => Ta.OkP P
  | .tic P => Tk.OkP P
  | .par P => Pt.OkP P
  | .mcs P => Mc.OkP P
  | .clh P => Cl.OkP P
theorem do_ops (p : PK) (σ : Ar) (sp : List Sp) (kd i : Int) : (doK p σ sp kd i).2.1.ops ≤ σ.ops + 1 ∧ σ.ops ≤ (doK p σ sp kd i).2.1.ops := by
  cases p with
  | tas P => exact Ta.do_ops P σ sp kd i
  | tic P => exact Tk.do_ops P σ sp kd i
  | par P => exact Pt.do_ops P σ sp kd i
  | mcs P => exact Mc.do_ops P σ sp kd i
  | clh P => exact Cl.do_ops P σ sp kd i
theorem do_len (p : PK) (σ : Ar) (sp : List Sp) (kd i : Int) : (doK p σ sp kd i).2.2.length = sp.length := by
  cases p with
  | tas P => exact Ta.do_len P σ sp kd i
  | tic P => exact Tk.do_len P σ sp kd i
  | par P => exact Pt.do_len P σ sp kd i
  | mcs P => exact Mc.do_len P σ sp kd i
  | clh P => exact Cl.do_len P σ sp kd i
theorem do_else (p : PK) (σ : Ar) (sp : List Sp) (kd i : Int) (h : kd < 0 ∨ 3 < kd) : doK p σ sp kd i = (false, σ, sp) := by
  cases p with
  | tas P => show Ta.doP P σ sp kd i = _; unfold Ta.doP; rw [if_neg (by omega), if_neg (by omega), if_neg (by omega), if_neg (by omega)]
  | tic P => show Tk.doP P σ sp kd i = _; unfold Tk.doP; rw [if_neg (by omega), if_neg (by omega), if_neg (by omega), if_neg (by omega)]
  | par P => show Pt.doP P σ sp kd i = _; unfold Pt.doP; rw [if_neg (by omega), if_neg (by omega), if_neg (by omega), if_neg (by omega)]
  | mcs P => show Mc.doP P σ sp kd i = _; unfold Mc.doP; rw [if_neg (by omega), if_neg (by omega), if_neg (by omega), if_neg (by omega)]
  | clh P => show Cl.doP P σ sp kd i = _; unfold Cl.doP; rw [if_neg (by omega), if_neg (by omega), if_neg (by omega), if_neg (by omega)]
section
variable {p : PK} {σ : Ar} {sp : List Sp} {n m : Nat} (h : OkK p σ sp n m)
include h
theorem OkK.act (kd i : Int) : OkK p (doK p σ sp kd i).2.1 (doK p σ sp kd i).2.2 n (m + 1) := by
  cases p with
  | tas P => exact Ta.OkP.act h kd i
  | tic P => exact Tk.OkP.act h kd i
  | par P => exact Pt.OkP.act h kd i
  | mcs P => exact Mc.OkP.act h kd i
  | clh P => exact Cl.OkP.act h kd i
theorem OkK.one : cnt (fun s => s.pc == 10) sp n ≤ 1 := by
  cases p with
  | tas P => exact Ta.OkP.one h
  | tic P => exact Tk.OkP.one h
  | par P => exact Pt.OkP.one h
  | mcs P => exact Mc.OkP.one h
  | clh P => exact Cl.OkP.one h
theorem OkK.len : sp.length = n := by
  cases p with
  | tas P => exact Ta.OkP.len h
  | tic P => exact Tk.OkP.len h
  | par P => exact Pt.OkP.len h
  | mcs P => exact Mc.OkP.len h
  | clh P => exact Cl.OkP.len h
theorem OkK.ops : σ.ops ≤ m + 1 := by
  cases p with
  | tas P => exact Ta.OkP.ops h
  | tic P => exact Tk.OkP.ops h
  | par P => exact Pt.OkP.ops h
  | mcs P => exact Mc.OkP.ops h
  | clh P => exact Cl.OkP.ops h
end
def PK.At (p : PK) (W : World) (gl ga ha hs : Nat) (σ : Ar) (sp : List Sp) : Prop :=
  match p with
  | .tas P => Ta.LkAt W gl ga ha hs P σ sp
  | .tic P => Tk.LkAt W gl ga ha hs P σ sp
  | .par P => Pt.LkAt W gl ga ha hs P σ sp
  | .mcs P => Mc.LkAt W gl ga ha hs P σ sp
  | .clh P => Cl.LkAt W gl ga ha hs P σ sp
theorem PK.At.same {p : PK} {W W' : World} {gl ga ha hs : Nat} {σ : Ar} {sp : List Sp} (k : p.At W gl ga ha hs σ sp) (hb : Below W.heap.size W W') : p.At W' gl ga ha hs σ sp := by
  cases p with
  | tas P => exact Ta.LkAt.same k hb
  | tic P => exact Tk.LkAt.same k hb
  | par P => exact Pt.LkAt.same k hb
  | mcs P => exact Mc.LkAt.same k hb
  | clh P => exact Cl.LkAt.same k hb
theorem PK.At.mod {p : PK} {S : List Nat} {W W' : World} {gl ga ha hs : Nat} {σ : Ar} {sp : List Sp} (k : p.At W gl ga ha hs σ sp) (hm : Mod S W W') (h1 : gl ∉ S) (h2 : ga ∉ S) (h3 : ha ∉ S) (h4 : hs ∉ S) : p.At W' gl ga ha hs σ sp := by
  cases p with
  | tas P => exact Ta.LkAt.mod k hm h1 h2 h3 h4
  | tic P => exact Tk.LkAt.mod k hm h1 h2 h3 h4
  | par P => exact Pt.LkAt.mod k hm h1 h2 h3 h4
  | mcs P => exact Mc.LkAt.mod k hm h1 h2 h3 h4
  | clh P => exact Cl.LkAt.mod k hm h1 h2 h3 h4
theorem PK.At.facts {p : PK} {W : World} {gl ga ha hs : Nat} {σ : Ar} {sp : List Sp} (k : p.At W gl ga ha hs σ sp) : ArAt W ga ha σ ∧ SpAt W hs sp ∧ sp.length ≤ 32 ∧ gl < W.heap.size ∧ (gl ≠ ga ∧ gl ≠ ha ∧ gl ≠ hs ∧ hs ≠ ga ∧ hs ≠ ha) := by
  cases p with
  | tas P => obtain ⟨k1, k2, k3, ⟨c, k4⟩, k5⟩ := k; exact ⟨k1, k2, k3, lt_of_blk k4, k5⟩
  | tic P => obtain ⟨k1, k2, k3, ⟨c, k4⟩, k5⟩ := k; exact ⟨k1, k2, k3, lt_of_blk k4, k5⟩
  | par P => obtain ⟨k1, k2, k3, ⟨c, k4⟩, k5⟩ := k; exact ⟨k1, k2, k3, lt_of_blk k4, k5⟩
  | mcs P => obtain ⟨k1, k2, k3, ⟨c, k4⟩, k5⟩ := k; exact ⟨k1, k2, k3, lt_of_blk k4, k5⟩
  | clh P => obtain ⟨k1, k2, k3, ⟨c, k4⟩, k5⟩ := k; exact ⟨k1, k2, k3, lt_of_blk k4, k5⟩
structure FLAt (W : World) (gf gl ga ha hs : Nat) (p : PK) (σ : Ar) (sp : List Sp) : Prop where
  fb : FlB W gf p.num p.ty (p.val gl)
  at_ : p.At W gl ga ha hs σ sp
  n1 : gf ≠ ga
  n2 : gf ≠ ha
  n3 : gf ≠ hs
theorem FLAt.same {W W' : World} {gf gl ga ha hs : Nat} {p : PK} {σ : Ar} {sp : List Sp} (k : FLAt W gf gl ga ha hs p σ sp) (hb : Below W.heap.size W W') : FLAt W' gf gl ga ha hs p σ sp := ⟨FlB.same k.fb hb, k.at_.same hb, k.n1, k.n2, k.n3⟩
theorem FLAt.mod {S : List Nat} {W W' : World} {gf gl ga ha hs : Nat} {p : PK} {σ : Ar} {sp : List Sp} (k : FLAt W gf gl ga ha hs p σ sp) (hm : Mod S W W') (h0 : gf ∉ S) (h1 : gl ∉ S) (h2 : ga ∉ S) (h3 : ha ∉ S) (h4 : hs ∉ S) : FLAt W' gf gl ga ha hs p σ sp := ⟨FlB.mod k.fb hm h0, k.at_.mod hm h1 h2 h3 h4, k.n1, k.n2, k.n3⟩
theorem FLAt.acts {W W' : World} {gf gl ga ha hs : Nat} {p : PK} {σ σ' : Ar} {sp sp' : List Sp} (k : FLAt W gf gl ga ha hs p σ sp) (h : p.At W' gl ga ha hs σ' sp') (hm : Mod [ga, ha, hs] W W') : FLAt W' gf gl ga ha hs p σ' sp' := by
  have h1 := k.n1
  have h2 := k.n2
  have h3 := k.n3
  exact ⟨FlB.mod k.fb hm (by simp; omega), h, h1, h2, h3⟩
theorem FLAt.blocks {W : World} {gf gl ga ha hs : Nat} {p : PK} {σ : Ar} {sp : List Sp} (k : FLAt W gf gl ga ha hs p σ sp) : gf < W.heap.size ∧ gl < W.heap.size ∧ ga < W.heap.size ∧ hs < W.heap.size :=
  ⟨lt_of_blk k.fb, k.at_.facts.2.2.2.1, k.at_.facts.1.lt, k.at_.facts.2.1.lt⟩
section
variable {gf gl ga ha hs : Nat} {p : PK} {σ : Ar} {sp : List Sp} {w : World} (K : FLAt w gf gl ga ha hs p σ sp)
include K
end
end Go.Proofs.YtfnmggmgdmokcaaGreatDoor.Fl

