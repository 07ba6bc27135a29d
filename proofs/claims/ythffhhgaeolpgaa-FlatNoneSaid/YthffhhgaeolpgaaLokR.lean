/- Rounds: if all step in turn, and leave at once, all come to rest. -/
import Derived.Test.YthffhhgaeolpgaaLokP
namespace Go.Proofs.Ythffhhgaeolpgaa.Lok
open Go.RowKit Go.Proofs.Ythffhhgaeolpgaa.Ara

/-- An act with a lock: 0 step, 1 ask, 2 leave, 3 is it alone. -/
structure Ac where
  kind : Int
  i : Int
def decAc (x : Ac) : List Value := [.int .i64 x.kind, .int .i64 x.i]
def round {X : Type} (f : X → Ac → X) (x : X) : Nat → X
  | 0 => x
  | k + 1 => f (f (round f x k) ⟨0, k⟩) ⟨2, k⟩
def rounds {X : Type} (f : X → Ac → X) (n : Nat) (x : X) : Nat → X
  | 0 => x
  | k + 1 => round f (rounds f n x k) n
structure Rnd {X C : Type} (f : X → Ac → X) (core : X → C) (wt : C → Nat) (Good : X → Prop) (Ready : C → Nat → Prop) (n : Nat) : Prop where
  g : ∀ x c, Good x → Good (f x c)
  d : ∀ x (i : Nat) (k : Int), k = 0 ∨ k = 2 → Good x → wt (core (f x ⟨k, i⟩)) < wt (core x) ∨ core (f x ⟨k, i⟩) = core x
  ex : ∀ x, Good x → 0 < wt (core x) → ∃ i, i < n ∧ Ready (core x) i
  go : ∀ x (i : Nat), Good x → Ready (core x) i → wt (core (f (f x ⟨0, i⟩) ⟨2, i⟩)) < wt (core x)
section
variable {X C : Type} {f : X → Ac → X} {core : X → C} {wt : C → Nat} {Good : X → Prop} {Ready : C → Nat → Prop} {n : Nat} (h : Rnd f core wt Good Ready n)
include h
theorem round_good {x : X} (hg : Good x) (k : Nat) : Good (round f x k) := by
  induction k with
  | zero => exact hg
  | succ k ih => exact h.g _ _ (h.g _ _ ih)
theorem round_less {x : X} (hg : Good x) (k : Nat) : wt (core (round f x k)) < wt (core x) ∨ (core (round f x k) = core x ∧ ∀ i, i < k → ¬ Ready (core x) i) := by
  induction k with
  | zero => exact .inr ⟨rfl, fun i hi => by omega⟩
  | succ k ih =>
    have g0 := round_good h hg k
    have g1 := h.g _ ⟨0, k⟩ g0
    have d1 := h.d _ k 0 (.inl rfl) g0
    have d2 := h.d _ k 2 (.inr rfl) g1
    have le : wt (core (round f x (k + 1))) ≤ wt (core (round f x k)) := by
      show wt (core (f (f (round f x k) ⟨0, k⟩) ⟨2, k⟩)) ≤ _
      rcases d1 with d1 | d1 <;> rcases d2 with d2 | d2
      · omega
      · rw [d2]; omega
      · rw [d1] at d2; omega
      · rw [d2, d1]; exact Nat.le_refl _
    rcases ih with ih | ⟨e, ih⟩
    · left; omega
    · by_cases hr : Ready (core x) k
      · left
        have := h.go _ k g0 (e ▸ hr)
        rw [e] at this
        exact this
      · rcases d1 with d1 | d1
        · left
          show wt (core (f (f (round f x k) ⟨0, k⟩) ⟨2, k⟩)) < _
          rw [← e]
          rcases d2 with d2 | d2
          · omega
          · rw [d2]; exact d1
        · rcases d2 with d2 | d2
          · left
            show wt (core (f (f (round f x k) ⟨0, k⟩) ⟨2, k⟩)) < _
            rw [d1, e] at d2
            exact d2
          · right
            refine ⟨?_, fun i hi => ?_⟩
            · show core (f (f (round f x k) ⟨0, k⟩) ⟨2, k⟩) = _
              rw [d2, d1, e]
            · by_cases hik : i = k
              · subst hik; exact hr
              · exact ih i (by omega)
theorem rounds_good {x : X} (hg : Good x) (k : Nat) : Good (rounds f n x k) := by
  induction k with
  | zero => exact hg
  | succ k ih => exact round_good h ih n
theorem rounds_less {x : X} (hg : Good x) (k : Nat) : wt (core (rounds f n x k)) + k ≤ wt (core x) ∨ wt (core (rounds f n x k)) = 0 := by
  induction k with
  | zero => exact .inl (Nat.le_refl _)
  | succ k ih =>
    have g0 := rounds_good h hg k
    rcases round_less h g0 n with r | ⟨r, hn⟩
    · have : wt (core (rounds f n x (k + 1))) < wt (core (rounds f n x k)) := r
      rcases ih with ih | ih
      · left; omega
      · omega
    · right
      have e : core (rounds f n x (k + 1)) = core (rounds f n x k) := r
      rw [e]
      rcases Nat.eq_zero_or_pos (wt (core (rounds f n x k))) with z | z
      · exact z
      · obtain ⟨i, hi, hr⟩ := h.ex _ g0 z
        exact absurd hr (hn i hi)
theorem rounds_rest {x : X} (hg : Good x) (k : Nat) (hk : wt (core x) < k) : wt (core (rounds f n x k)) = 0 := by
  rcases rounds_less h hg k with r | r
  · omega
  · exact r
end
/-- A round's acts. -/
def rAct : Nat → List Ac
  | 0 => []
  | k + 1 => rAct k ++ [⟨0, k⟩, ⟨2, k⟩]
def rActs (n : Nat) : Nat → List Ac
  | 0 => []
  | k + 1 => rActs n k ++ rAct n
theorem rAct_len (k : Nat) : (rAct k).length = 2 * k := by
  induction k with
  | zero => rfl
  | succ k ih => simp [rAct, ih]; omega
theorem rActs_len (n k : Nat) : (rActs n k).length = k * (2 * n) := by
  induction k with
  | zero => simp [rActs]
  | succ k ih => rw [rActs, List.length_append, ih, rAct_len, Nat.add_mul]; omega
theorem fold_round {X : Type} (f : X → Ac → X) (x : X) (k : Nat) : (rAct k).foldl f x = round f x k := by
  induction k with
  | zero => rfl
  | succ k ih => rw [rAct, List.foldl_append, ih]; rfl
theorem fold_rounds {X : Type} (f : X → Ac → X) (n : Nat) (x : X) (k : Nat) : (rActs n k).foldl f x = rounds f n x k := by
  induction k with
  | zero => rfl
  | succ k ih => rw [rActs, List.foldl_append, ih, fold_round]; rfl

/-- The weights of spots, added. -/
def wts (w : Int → Nat) : List Sp → Nat
  | [] => 0
  | s :: l => w s.pc + wts w l
theorem wts_set (w : Int → Nat) (sp : List Sp) (k : Nat) (hk : k < sp.length) (s' : Sp) : wts w (sp.set k s') + w (sp[k]).pc = wts w sp + w s'.pc := by
  induction sp generalizing k with
  | nil => simp at hk
  | cons s l ih =>
    cases k with
    | zero => simp [wts]; omega
    | succ k =>
      have := ih k (by simpa using hk)
      simp only [List.set_cons_succ, wts, List.getElem_cons_succ]
      omega
theorem wts_spOf (w : Int → Nat) (sp : List Sp) (i : Int) (h0 : 0 ≤ i) (h1 : i < sp.length) (s' : Sp) : wts w (sp.set i.toNat s') + w (spOf sp i).pc = wts w sp + w s'.pc := by
  obtain ⟨k, rfl⟩ := Int.eq_ofNat_of_zero_le h0
  have hk : k < sp.length := by omega
  rw [spOf_in hk, Int.toNat_natCast]
  exact wts_set w sp k hk s'
theorem wts_le (w : Int → Nat) (m : Nat) (hw : ∀ p, w p ≤ m) (sp : List Sp) : wts w sp ≤ m * sp.length := by
  induction sp with
  | nil => simp [wts]
  | cons s l ih => have := hw s.pc; simp only [wts, List.length_cons, Nat.mul_add]; omega
theorem wts_pos (w : Int → Nat) (sp : List Sp) (h : 0 < wts w sp) : ∃ k : Nat, k < sp.length ∧ 0 < w (spOf sp (k : Int)).pc := by
  induction sp with
  | nil => simp [wts] at h
  | cons s l ih =>
    by_cases hs : 0 < w s.pc
    · exact ⟨0, by simp, by rw [spOf_in (by simp)]; exact hs⟩
    · obtain ⟨k, k1, k2⟩ := ih (by simp only [wts] at h; omega)
      refine ⟨k + 1, by simpa using k1, ?_⟩
      rw [spOf_in (by simpa using k1)]
      rw [spOf_in k1] at k2
      simpa using k2
theorem wts_zero (w : Int → Nat) (sp : List Sp) (h : wts w sp = 0) (i : Int) (hi : 0 ≤ i ∧ i < sp.length) : w (spOf sp i).pc = 0 := by
  obtain ⟨k, rfl⟩ := Int.eq_ofNat_of_zero_le hi.1
  have hk : k < sp.length := by omega
  rw [spOf_in hk]
  induction sp generalizing k with
  | nil => simp at hk
  | cons s l ih =>
    simp only [wts] at h
    cases k with
    | zero => simp; omega
    | succ k =>
      have hk' : k < l.length := by simpa using hk
      simpa using ih (by omega) k ⟨by omega, by omega⟩ hk'
end Go.Proofs.Ythffhhgaeolpgaa.Lok
