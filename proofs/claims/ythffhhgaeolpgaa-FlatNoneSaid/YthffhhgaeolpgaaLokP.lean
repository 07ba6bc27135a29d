/- Ops and spots as Lean has them: what an op leaves of each word; what a turn leaves of each spot; counts of spots. -/
import Derived.Test.YthffhhgaeolpgaaSpot
namespace Go.Proofs.Ythffhhgaeolpgaa.Lok
open Go.RowKit Go.Proofs.Ythffhhgaeolpgaa.Ara

theorem op_has (σ : Ar) (kd p v : Int) (wr : Bool) (q : Int) : (σ.op kd p wr v).has q = σ.has q := by
  unfold Ar.op Ar.has
  split <;> rfl
theorem op_t (σ : Ar) (kd p v : Int) (wr : Bool) : (σ.op kd p wr v).t = σ.t := by
  unfold Ar.op
  split <;> rfl
theorem op_len (σ : Ar) (kd p v : Int) (wr : Bool) : (σ.op kd p wr v).ws.length = σ.ws.length := by
  unfold Ar.op
  split
  · cases wr
    · rfl
    · exact List.length_set
  · rfl
theorem op_ops (σ : Ar) (kd p v : Int) (wr : Bool) : (σ.op kd p wr v).ops = σ.ops + if σ.has p then 1 else 0 := by
  unfold Ar.op
  split <;> rfl
theorem op_kind (σ : Ar) (kd p v : Int) (wr : Bool) (h : σ.has p = true) : (σ.op kd p wr v).kind = kd := by
  unfold Ar.op
  rw [if_pos h]
  rfl
theorem get_op (σ : Ar) (hl : σ.t ≤ σ.ws.length) (kd p v : Int) (wr : Bool) (q : Int) : (σ.op kd p wr v).get q = if σ.has p = true ∧ wr = true ∧ q = p then v else σ.get q := by
  unfold Ar.get
  rw [op_has]
  unfold Ar.op
  by_cases hp : σ.has p = true
  · rw [if_pos hp]
    cases wr
    · simp [Ar.did]
    · by_cases hq : q = p
      · subst hq
        have h2 := hp
        simp [Ar.has] at h2
        simp only [hp, if_true, Ar.did, and_self]
        simp only [List.getD_eq_getElem?_getD]
        rw [List.getElem?_set_self (by omega)]
        rfl
      · simp only [hq, and_false, if_false, Ar.did, if_true]
        by_cases hh : σ.has q = true
        · simp only [hh, if_true]
          simp [Ar.has] at hh hp
          simp only [List.getD_eq_getElem?_getD]
          rw [List.getElem?_set_ne (by omega)]
        · simp only [hh]
          simp
  · rw [if_neg hp]
    simp [hp]
theorem get_read (σ : Ar) (hl : σ.t ≤ σ.ws.length) (kd p v : Int) (q : Int) : (σ.op kd p false v).get q = σ.get q := by
  rw [get_op σ hl]
  simp

theorem spOf_set {sp : List Sp} {i : Int} (h0 : 0 ≤ i) (h1 : i < sp.length) (s' : Sp) (j : Int) : spOf (sp.set i.toNat s') j = if j = i then s' else spOf sp j := by
  unfold spOf
  rw [List.length_set]
  by_cases hj : 0 ≤ j ∧ j < sp.length
  · rw [if_pos hj, if_pos hj]
    simp only [List.getD_eq_getElem?_getD]
    by_cases e : j = i
    · subst e
      rw [if_pos rfl, List.getElem?_set_self (by omega)]
      rfl
    · rw [if_neg e, List.getElem?_set_ne (by omega)]
  · rw [if_neg hj, if_neg hj, if_neg (by omega)]
theorem spOf_range {sp : List Sp} {i : Int} (h : (spOf sp i).pc ≠ 0) : 0 ≤ i ∧ i < sp.length := by
  by_cases hi : 0 ≤ i ∧ i < sp.length
  · exact hi
  · exfalso
    apply h
    rw [spOf_out (by omega)]
    rfl
theorem turn_true {sp : List Sp} {i fr : Int} (h : turnB sp i fr = true) : (0 ≤ i ∧ i < sp.length) ∧ (spOf sp i).pc = fr := by
  simp [turnB] at h
  omega
theorem spOf_turn {sp : List Sp} {i fr : Int} (to : Int) (h : turnB sp i fr = true) (j : Int) : spOf (turnS sp i fr to) j = if j = i then { spOf sp i with pc := to } else spOf sp j := by
  unfold turnS
  rw [if_pos h]
  obtain ⟨⟨h0, h1⟩, _⟩ := turn_true h
  exact spOf_set h0 h1 _ j
theorem turn_no {sp : List Sp} {i fr : Int} (to : Int) (h : turnB sp i fr = false) : turnS sp i fr to = sp := by
  unfold turnS
  rw [if_neg (by simp [h])]

/-- How many of the first n spots are so. -/
def cnt (f : Sp → Bool) (sp : List Sp) : Nat → Nat
  | 0 => 0
  | k + 1 => cnt f sp k + if f (spOf sp (k : Int)) then 1 else 0
theorem cnt_le (f : Sp → Bool) (sp : List Sp) (n : Nat) : cnt f sp n ≤ n := by
  induction n with
  | zero => exact Nat.le_refl _
  | succ n ih => unfold cnt; split <;> omega
theorem cnt_one (f : Sp → Bool) (sp : List Sp) (h : ∀ i j, f (spOf sp i) = true → f (spOf sp j) = true → i = j) (n : Nat) : cnt f sp n ≤ 1 := by
  induction n with
  | zero => exact Nat.zero_le _
  | succ n ih =>
    unfold cnt
    split
    · rename_i hf
      have h0 : ∀ m, m ≤ n → cnt f sp m = 0 := by
        intro m
        induction m with
        | zero => intro _; rfl
        | succ m ihm =>
          intro hm
          unfold cnt
          rw [ihm (by omega)]
          split
          · rename_i hg
            have := h _ _ hf hg
            omega
          · rfl
      rw [h0 n (Nat.le_refl _)]
      exact Nat.le_refl _
    · omega
theorem cnt_some (f : Sp → Bool) (sp : List Sp) (i : Int) (hf : f (spOf sp i) = true) (h0 : 0 ≤ i) (n : Nat) (hn : i < n) : 0 < cnt f sp n := by
  induction n with
  | zero => omega
  | succ n ih =>
    unfold cnt
    by_cases e : i = n
    · subst e
      rw [if_pos hf]
      omega
    · have := ih (by omega)
      omega
end Go.Proofs.Ythffhhgaeolpgaa.Lok
