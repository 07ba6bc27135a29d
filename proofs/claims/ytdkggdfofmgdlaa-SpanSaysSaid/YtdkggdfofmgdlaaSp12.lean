/- The stays that are under way, as a map from threads: the plain law. -/
import Derived.Test.YtdkggdfofmgdlaaSp11
import Derived.Maps.OwnSet
namespace Go.Proofs.Ytdkggdfofmgdlaa.Sp
open Go.RowKit Go.Maps
abbrev kI (t : Int) : Lit := .int .i64 t
/-- The map has just the threads of which a stay is under way, and leads to it. -/
def MapR (D : DataW Unit) (out : List St) : Prop :=
  IsMap D ∧ ∀ t, Maps.has D (kI t) = out.any (isO t) ∧ ∀ i, i < out.length → isO t (out.getD i s0) = true → ∀ z, D.atKey (kI t) z = .lit (.int .i64 (i : Int))
theorem any_iff (f : St → Bool) (out : List St) : out.any f = true ↔ ∃ i, i < out.length ∧ f (out.getD i s0) = true := by
  rw [List.any_eq_true]
  constructor
  · rintro ⟨s, hs, h⟩
    obtain ⟨i, hi, rfl⟩ := List.getElem_of_mem hs
    exact ⟨i, hi, by rw [List.getD_eq_getElem?_getD, List.getElem?_eq_getElem hi]; exact h⟩
  · rintro ⟨i, hi, h⟩
    exact ⟨_, getD_mem hi, h⟩
theorem mapR_nil : MapR (.map []) [] := ⟨isMap_empty, fun t => ⟨rfl, fun i hi => absurd hi (Nat.not_lt_zero _)⟩⟩
theorem MapR.only {D : DataW Unit} {out : List St} (h : MapR D out) {t : Int} {i j : Nat} (hi : i < out.length) (hj : j < out.length) (h1 : isO t (out.getD i s0) = true) (h2 : isO t (out.getD j s0) = true) : i = j := by
  have a := (h.2 t).2 i hi h1 (.map [])
  have b := (h.2 t).2 j hj h2 (.map [])
  rw [a] at b
  have b' : (i : Int) = (j : Int) := by simpa using b
  omega
theorem getD_app {out : List St} {s : St} {i : Nat} (h : i < out.length) : (out ++ [s]).getD i s0 = out.getD i s0 := by
  rw [List.getD_eq_getElem?_getD, List.getD_eq_getElem?_getD, List.getElem?_append_left h]
theorem getD_app_end {out : List St} {s : St} : (out ++ [s]).getD out.length s0 = s := by
  rw [List.getD_eq_getElem?_getD, List.getElem?_append_right (Nat.le_refl _)]
  simp
theorem kI_ne {a b : Int} (h : a ≠ b) : kI a ≠ kI b := by
  intro e
  injection e with _ e
  exact h e
theorem isK_kI (t : Int) : WideAt.IsKeyLit (kI t) := by simp [WideAt.IsKeyLit]
theorem MapR.new {D : DataW Unit} {out : List St} (h : MapR D out) {s : St} (hr : s.re < 0) (ho : out.any (isO s.th) = false) : MapR (D.put (kI s.th) (.lit (.int .i64 (out.length : Int)))) (out ++ [s]) := by
  refine ⟨h.1.put _ _, fun t => ?_⟩
  by_cases e : t = s.th
  · subst e
    refine ⟨?_, fun i hi h1 z => ?_⟩
    · rw [has_put_same h.1 (isK_kI _)]
      simp [isO, hr]
    · rw [atKey_put_same h.1 (isK_kI _)]
      by_cases hl : i < out.length
      · rw [getD_app hl] at h1
        have := (any_iff (isO s.th) out).2 ⟨i, hl, h1⟩
        rw [ho] at this
        cases this
      · simp at hi
        rw [show i = out.length by omega]
  · refine ⟨?_, fun i hi h1 z => ?_⟩
    · rw [has_put_other (kI_ne e), (h.2 t).1]
      simp [isO, fun x => e (Eq.symm x)]
      intro x; exact absurd x.symm e
    · rw [atKey_put_other (kI_ne e)]
      by_cases hl : i < out.length
      · rw [getD_app hl] at h1
        exact (h.2 t).2 i hl h1 z
      · simp at hi
        rw [show i = out.length by omega, getD_app_end] at h1
        unfold isO at h1
        rw [Bool.and_eq_true, decide_eq_true_eq] at h1
        exact absurd h1.1.symm e
theorem any_set {out : List St} {j : Nat} {s : St} (hj : j < out.length) (f : St → Bool) (h : f s = f (out.getD j s0)) : (out.set j s).any f = out.any f := by
  rw [Bool.eq_iff_iff, any_iff, any_iff]
  constructor
  · rintro ⟨i, hi, he⟩
    rw [List.length_set] at hi
    rw [getD_set hj] at he
    by_cases e : i = j
    · subst e
      rw [if_pos rfl, h] at he
      exact ⟨i, hi, he⟩
    · rw [if_neg e] at he
      exact ⟨i, hi, he⟩
  · rintro ⟨i, hi, he⟩
    refine ⟨i, by rw [List.length_set]; exact hi, ?_⟩
    rw [getD_set hj]
    by_cases e : i = j
    · subst e
      rw [if_pos rfl, h]
      exact he
    · rw [if_neg e]
      exact he
theorem MapR.set {D : DataW Unit} {out : List St} (h : MapR D out) {j : Nat} {s : St} (hj : j < out.length) (he : ∀ t, isO t s = isO t (out.getD j s0)) : MapR D (out.set j s) := by
  refine ⟨h.1, fun t => ⟨by rw [(h.2 t).1, any_set hj _ (he t)], fun i hi h1 z => ?_⟩⟩
  rw [List.length_set] at hi
  rw [getD_set hj] at h1
  by_cases e : i = j
  · subst e
    rw [if_pos rfl, he] at h1
    exact (h.2 t).2 i hi h1 z
  · rw [if_neg e] at h1
    exact (h.2 t).2 i hi h1 z
theorem MapR.close {D : DataW Unit} {out : List St} (h : MapR D out) {j : Nat} {s : St} {t : Int} (hj : j < out.length) (ho : isO t (out.getD j s0) = true) (hr : ¬ s.re < 0) : MapR (D.del (kI t)) (out.set j s) := by
  have hs : ∀ u, isO u s = false := fun u => by unfold isO; rw [decide_eq_false hr, Bool.and_false]
  refine ⟨h.1.del _, fun u => ?_⟩
  have hany : ∀ i, i < out.length → isO u ((out.set j s).getD i s0) = true → i ≠ j ∧ isO u (out.getD i s0) = true := fun i hi h1 => by
    rw [getD_set hj] at h1
    by_cases e : i = j
    · subst e
      rw [if_pos rfl, hs] at h1
      cases h1
    · rw [if_neg e] at h1
      exact ⟨e, h1⟩
  by_cases e : u = t
  · subst e
    have hno : ∀ i, i < out.length → isO u ((out.set j s).getD i s0) = true → False := fun i hi h1 => by
      obtain ⟨a, b⟩ := hany i hi h1
      exact a (h.only hi hj b ho)
    refine ⟨?_, fun i hi h1 => by rw [List.length_set] at hi; exact (hno i hi h1).elim⟩
    rw [has_del_same]
    cases hx : (out.set j s).any (isO u) with
    | false => rfl
    | true =>
      obtain ⟨i, hi, h1⟩ := (any_iff _ _).1 hx
      rw [List.length_set] at hi
      exact (hno i hi h1).elim
  · refine ⟨?_, fun i hi h1 z => ?_⟩
    · rw [has_del_other (kI_ne e), (h.2 u).1, Bool.eq_iff_iff, any_iff, any_iff]
      constructor
      · rintro ⟨i, hi, h1⟩
        refine ⟨i, by rw [List.length_set]; exact hi, ?_⟩
        rw [getD_set hj]
        by_cases e2 : i = j
        · subst e2
          unfold isO at h1 ho
          rw [Bool.and_eq_true, decide_eq_true_eq] at h1 ho
          exact absurd (h1.1.symm.trans ho.1) e
        · rw [if_neg e2]
          exact h1
      · rintro ⟨i, hi, h1⟩
        rw [List.length_set] at hi
        exact ⟨i, hi, (hany i hi h1).2⟩
    · rw [List.length_set] at hi
      obtain ⟨_, b⟩ := hany i hi h1
      rw [atKey_del_other (kI_ne e)]
      exact (h.2 u).2 i hi b z
theorem MapR.map {D : DataW Unit} {out : List St} (h : MapR D out) {j k : Nat} {e : E} (hj : j < out.length) (ho : isO e.th (out.getD j s0) = true) : (out.map fun s => if isO e.th s then noteP k s e else s) = out.set j (noteP k (out.getD j s0) e) := by
  apply List.ext_getElem?
  intro i
  rw [List.getElem?_map, List.getElem?_set]
  by_cases hi : i < out.length
  · rw [List.getElem?_eq_getElem hi]
    have e1 : out.getD i s0 = out[i] := by rw [List.getD_eq_getElem?_getD, List.getElem?_eq_getElem hi]; rfl
    by_cases e2 : j = i
    · subst e2
      rw [if_pos rfl, if_pos hj]
      rw [e1] at ho ⊢
      simp [ho]
    · rw [if_neg e2]
      have : ¬ isO e.th out[i] = true := fun hx => e2 (h.only hj hi ho (by rw [e1]; exact hx))
      simp [this]
  · rw [List.getElem?_eq_none (by omega)]
    split
    · rename_i e2
      subst e2
      exact absurd hj hi
    · rfl
theorem step_hit {D : DataW Unit} {out : List St} (h : MapR D out) {j k : Nat} {e : E} (hj : j < out.length) (ho : isO e.th (out.getD j s0) = true) : stepP out k e = out.set j (noteP k (out.getD j s0) e) := by
  unfold stepP
  rw [if_pos ((any_iff _ _).2 ⟨j, hj, ho⟩), h.map hj ho]
theorem step_new {out : List St} {k : Nat} {e : E} (h : out.any (isO e.th) = false) (h1 : e.kind = 1) : stepP out k e = out ++ [⟨e.th, e.rd, k, -1, -1, -1, 0⟩] := by
  unfold stepP
  rw [h, if_neg (by simp), if_pos h1]
theorem step_none {out : List St} {k : Nat} {e : E} (h : out.any (isO e.th) = false) (h1 : ¬ e.kind = 1) : stepP out k e = out := by
  unfold stepP
  rw [h, if_neg (by simp), if_neg h1]
/-- What is noted leaves a stay under way, but for its end. -/
theorem note_open {k : Nat} {s : St} {e : E} (h : ¬ (e.kind = 4 ∧ 0 ≤ s.ex)) (t : Int) : isO t (noteP k s e) = isO t s := by
  unfold noteP
  split
  · rfl
  · split
    · rfl
    · first | rfl | rw [if_neg h]
theorem note_end {k : Nat} {s : St} {e : E} (h : e.kind = 4) (h2 : 0 ≤ s.ex) : noteB s e = true ∧ ¬ (noteP k s e).re < 0 := by
  unfold noteB noteP
  rw [if_neg (by omega), if_neg (by omega), if_pos ⟨h, h2⟩]
  exact ⟨by simp [h, h2], by simp⟩
theorem stepP_len (out : List St) (k : Nat) (e : E) : (stepP out k e).length ≤ out.length + 1 := by
  unfold stepP
  split
  · rw [List.length_map]; omega
  · split
    · rw [List.length_append]; simp
    · omega
theorem outP_len (l : List E) : ∀ k, (outP l k).length ≤ k
  | 0 => Nat.le_refl _
  | k + 1 => by
    have := outP_len l k
    have := stepP_len (outP l k) k (l.getD k e0)
    show (stepP (outP l k) k (l.getD k e0)).length ≤ _
    omega
end Go.Proofs.Ytdkggdfofmgdlaa.Sp
