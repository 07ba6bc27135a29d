/- Package parted: what its laws ask of it. -/
import Derived.Test.YthffhhgaeolpgaaPtO
import Derived.Test.YthffhhgaeolpgaaPt5
import Derived.Test.YthffhhgaeolpgaaLokW
namespace Go.Proofs.Ythffhhgaeolpgaa.Pt
open Go.RowKit Go.Proofs.Ythffhhgaeolpgaa.Ara Go.Proofs.Ythffhhgaeolpgaa.Lok

theorem Inv.num {P : Par} {σ : Ar} {sp : List Sp} {S T : Nat} (h : Inv P σ sp S T) (hT : T ≤ 1000000) (ho : σ.ops ≤ 1000000) (hn : P.next ≤ 4096) : Num P σ sp := by
  refine ⟨⟨h.p1, h.p2, h.n1, hn⟩, fun k hk => ?_, ho, h.hasN, ?_, ?_⟩
  · have := h.rng k
    rw [spOf_in hk] at this
    omega
  · rw [h.gT]; omega
  · rw [h.gT]; omega
/-- How a lock of n slots stands behind m acts. -/
structure OkP (P : Par) (σ : Ar) (sp : List Sp) (n m : Nat) : Prop where
  inv : ∃ S T, Inv P σ sp S T ∧ T ≤ m
  ops : σ.ops ≤ m + 1
  nx : P.next ≤ 4096
  len : sp.length = n
section
variable {P : Par} {σ : Ar} {sp : List Sp} {n m : Nat} (h : OkP P σ sp n m)
include h
theorem OkP.act (kd i : Int) : OkP P (doP P σ sp kd i).2.1 (doP P σ sp kd i).2.2 n (m + 1) := by
  obtain ⟨S, T, hi, hT⟩ := h.inv
  obtain ⟨S', T', hT', hi'⟩ := do_inv hi kd i
  exact ⟨⟨S', T', hi', by omega⟩, by have := do_ops P σ sp kd i; have := h.ops; omega, h.nx, (do_len P σ sp kd i).trans h.len⟩
theorem OkP.num (hm : m ≤ 100000) : Num P σ sp := by
  obtain ⟨S, T, hi, hT⟩ := h.inv
  exact hi.num (by omega) (by have := h.ops; omega) h.nx
theorem OkP.one : cnt (fun s => s.pc == 10) sp n ≤ 1 := by
  obtain ⟨S, T, hi, hT⟩ := h.inv
  exact hi.one n
theorem OkP.behind (i : Int) (hp : (spOf sp i).pc = 10) (ha : (doP P σ sp 3 i).1 = false) : 0 < cnt (fun s => decide (0 < s.pc) && decide (s.pc < 10)) sp n := by
  obtain ⟨S, T, hi, hT⟩ := h.inv
  rw [← h.len]
  exact hi.behind i hp ha
end
theorem do_asks (P : Par) (σ : Ar) (sp : List Sp) (kd i : Int) (hk : kd = 1 ∨ kd = 2) : (doP P σ sp kd i).2.1 = σ ∧ ((doP P σ sp kd i).1 = false → (doP P σ sp kd i).2.2 = sp) := by
  rcases hk with rfl | rfl
  · exact ⟨rfl, fun h => turn_no 1 h⟩
  · exact ⟨rfl, fun h => turn_no 11 h⟩
theorem do_three (P : Par) (σ : Ar) (sp : List Sp) (i : Int) : (doP P σ sp 3 i).2.2 = sp := rfl
theorem do_words (P : Par) (σ : Ar) (sp : List Sp) (kd i : Int) (hk : kd ≠ 0) : (doP P σ sp kd i).2.1.ws = σ.ws ∧ (doP P σ sp kd i).2.1.t = σ.t := by
  unfold doP
  rw [if_neg hk]
  split
  · exact ⟨rfl, rfl⟩
  split
  · exact ⟨rfl, rfl⟩
  split
  · unfold aloneP
    split
    · refine ⟨?_, op_t _ _ _ _ _⟩
      show (Ar.op _ _ _ false _).ws = _
      unfold Ar.op
      split <;> rfl
    · exact ⟨rfl, rfl⟩
  · exact ⟨rfl, rfl⟩
/-- As New leaves it. -/
def first1 (P : Par) (n : Nat) : Ar × List Sp := ((⟨zerosW 100, (1 + P.parts).toNat, 0, 0, 0, false⟩ : Ar).op 2 (place P 0) true 1, zeroS n)
theorem OkP.first {parts : Int} (p1 : 1 ≤ parts) (p2 : parts ≤ 32) (n : Nat) : OkP ⟨1, parts⟩ (first1 ⟨1, parts⟩ n).1 (first1 ⟨1, parts⟩ n).2 n 0 := by
  refine ⟨⟨0, 0, inv_start parts p1 p2 n, Nat.le_refl _⟩, ?_, by show (1 : Int) ≤ 4096; decide, by simp [first1, zeroS]⟩
  show (Ar.op _ _ _ _ _).ops ≤ 1
  rw [op_ops]
  show 0 + _ ≤ 1
  split <;> omega
theorem ord_first {parts : Int} (p1 : 1 ≤ parts) (p2 : parts ≤ 32) (n : Nat) : OrdP ⟨1, parts⟩ ⟨(first1 ⟨1, parts⟩ n).1, (first1 ⟨1, parts⟩ n).2, [], []⟩ := ord_start parts p1 p2 n
end Go.Proofs.Ythffhhgaeolpgaa.Pt
