/- Package mcs: what its laws ask of it. -/
import Derived.Test.YthffhhgaeolpgaaMc5
namespace Go.Proofs.Ythffhhgaeolpgaa.Mc
open Go.RowKit Go.Proofs.Ythffhhgaeolpgaa.Ara Go.Proofs.Ythffhhgaeolpgaa.Lok

theorem Inv.num {P : Par} {σ : Ar} {sp : List Sp} {q : List Int} (h : Inv P σ sp q) (hl : sp.length ≤ 32) (ho : σ.ops ≤ 1000000) (hn : P.tail ≤ 4096) : Num P σ sp := by
  refine ⟨⟨h.t1, hn⟩, fun k hk => ?_, ho⟩
  have h1 := h.ar (k : Int)
  have h2 := h.pcs (k : Int)
  rw [spOf_in hk] at h1 h2
  unfold inq outs at h2
  unfold pcOk
  omega
/-- How a lock of n slots stands behind m acts. -/
structure OkP (P : Par) (σ : Ar) (sp : List Sp) (n m : Nat) : Prop where
  inv : ∃ q, Inv P σ sp q
  ops : σ.ops ≤ m + 1
  nx : P.tail ≤ 4096
  len : sp.length = n
  small : n ≤ 32
section
variable {P : Par} {σ : Ar} {sp : List Sp} {n m : Nat} (h : OkP P σ sp n m)
include h
theorem OkP.act (kd i : Int) : OkP P (doP P σ sp kd i).2.1 (doP P σ sp kd i).2.2 n (m + 1) := by
  obtain ⟨q, hi⟩ := h.inv
  obtain ⟨q', hi'⟩ := do_inv hi kd i
  exact ⟨⟨q', hi'⟩, by have := do_ops P σ sp kd i; have := h.ops; omega, h.nx, (do_len P σ sp kd i).trans h.len, h.small⟩
theorem OkP.num (hm : m ≤ 100000) : Num P σ sp := by
  obtain ⟨q, hi⟩ := h.inv
  exact hi.num (by have := h.len; have := h.small; omega) (by have := h.ops; omega) h.nx
theorem OkP.one : cnt (fun s => s.pc == 10) sp n ≤ 1 := by
  obtain ⟨q, hi⟩ := h.inv
  exact hi.one n
theorem OkP.behind (i : Int) (hp : (spOf sp i).pc = 10) (ha : (doP P σ sp 3 i).1 = false) : 0 < cnt (fun s => decide (0 < s.pc) && decide (s.pc < 10)) sp n := by
  obtain ⟨q, hi⟩ := h.inv
  rw [← h.len]
  exact hi.behind i hp ha
end
theorem do_asks (P : Par) (σ : Ar) (sp : List Sp) (kd i : Int) (hk : kd = 1 ∨ kd = 2) : (doP P σ sp kd i).2.1 = σ ∧ ((doP P σ sp kd i).1 = false → (doP P σ sp kd i).2.2 = sp) := by
  rcases hk with rfl | rfl
  · exact ⟨rfl, fun h => turn_no 1 h⟩
  · exact ⟨rfl, fun h => turn_no 11 h⟩
theorem do_three (P : Par) (σ : Ar) (sp : List Sp) (i : Int) : (doP P σ sp 3 i).2.2 = sp := rfl
theorem do_words (P : Par) (σ : Ar) (sp : List Sp) (kd i : Int) (hk : kd ≠ 0) : (doP P σ sp kd i).2.1.ws = σ.ws ∧ (doP P σ sp kd i).2.1.t = σ.t := by
  unfold doP
  rw [if_neg hk]
  split
  · exact ⟨rfl, rfl⟩
  split
  · exact ⟨rfl, rfl⟩
  split
  · unfold aloneP
    split
    · refine ⟨?_, op_t _ _ _ _ _⟩
      show (Ar.op _ _ _ false _).ws = _
      unfold Ar.op
      split <;> rfl
    · exact ⟨rfl, rfl⟩
  · exact ⟨rfl, rfl⟩
/-- As New leaves it. -/
def first1 (n : Nat) : Ar × List Sp := ((⟨zerosW 100, 1 + 2 * n, 0, 0, 0, false⟩ : Ar), zeroS n)
theorem OkP.first (n : Nat) (hn : n ≤ 32) : OkP ⟨1⟩ (first1 n).1 (first1 n).2 n 0 :=
  ⟨⟨_, inv_start n hn⟩, by show 0 ≤ 0 + 1; omega, by show (1 : Int) ≤ 4096; decide, by simp [first1, zeroS], hn⟩
theorem ord_first (n : Nat) (hn : n ≤ 32) : OrdP ⟨1⟩ ⟨(first1 n).1, (first1 n).2, [], []⟩ := ord_start n hn
end Go.Proofs.Ythffhhgaeolpgaa.Mc
