/- Layer 11 in plain words. -/
import Derived.Test.YtfdcojhgpfmloaaSh5
namespace Go.Proofs.Ytfdcojhgpfmloaa.Sha
open Go.RowKit

def chk (f : Nat → Nat) (n : Nat) : Nat × Nat := match (List.range n).find? (fun j => f j != 0) with | some j => (j, f j) | none => (n, 0)
theorem chk_none {f : Nat → Nat} {n : Nat} (h : ∀ j, j < n → f j = 0) : chk f n = (n, 0) := by
  unfold chk
  rw [List.find?_eq_none.2]
  intro x hx
  simpa using h x (List.mem_range.1 hx)
theorem chk_some {f : Nat → Nat} {n k : Nat} (hk : k < n) (hf : f k ≠ 0) (h : ∀ j, j < k → f j = 0) : chk f n = (k, f k) := by
  unfold chk
  have : (List.range n).find? (fun j => f j != 0) = some k := by
    rw [List.find?_range_eq_some]
    exact ⟨by simpa using hf, by simpa using hk, fun j hj => by simpa using h j hj⟩
  rw [this]

/-- What all threads are at, behind events. -/
def stL (n : Nat) (l : List Ev) : List (Nat × Bool) := (List.range n).map fun i => (rstate l (i : Nat), reads l (i : Nat))
theorem stL_len (n : Nat) (l : List Ev) : (stL n l).length = n := by simp [stL]
theorem stL_get (n : Nat) (l : List Ev) (i : Nat) (h : i < (stL n l).length) : (stL n l)[i] = (rstate l (i : Nat), reads l (i : Nat)) := by simp [stL]
theorem stL_nil (n : Nat) : zerosS n = stL n [] := by
  apply List.ext_getElem
  · simp [stL, zerosS]
  · intro i h1 h2
    simp [stL, zerosS, rstate, reads]
theorem rstate_snoc (l : List Ev) (e : Ev) (t : Int) : rstate (l ++ [e]) t = stepTo t (rstate l t) e := by
  unfold rstate
  rw [List.foldl_append]
  rfl
theorem reads_snoc (l : List Ev) (e : Ev) (t : Int) : reads (l ++ [e]) t = readTo t (reads l t) e := by
  unfold reads
  rw [List.foldl_append]
  rfl
theorem stOfT_stL {n : Nat} {l : List Ev} {t : Int} (h0 : 0 ≤ t) (h1 : t < n) : stOfT (stL n l) t = (rstate l t, reads l t) := by
  obtain ⟨k, rfl⟩ := Int.eq_ofNat_of_zero_le h0
  have hk : k < (stL n l).length := by rw [stL_len]; omega
  have := stOfT_in hk
  rw [stL_get] at this
  exact this
theorem foldl_same {α β : Type} (f : α → β → α) (l : List β) (a : α) (h : ∀ e ∈ l, ∀ x, f x e = x) : l.foldl f a = a := by
  induction l generalizing a with
  | nil => rfl
  | cons e l ih => rw [List.foldl_cons, h e (by simp), ih a (fun e he => h e (by simp [he]))]
theorem stOfT_any {n : Nat} {l : List Ev} {t : Int} (h : ∀ e ∈ l, 0 ≤ e.thread ∧ e.thread < n) : stOfT (stL n l) t = (rstate l t, reads l t) := by
  by_cases ht : 0 ≤ t ∧ t < n
  · exact stOfT_stL ht.1 ht.2
  · have hne : ∀ e ∈ l, e.thread ≠ t := fun e he q => ht (by rw [← q]; exact h e he)
    have e1 : rstate l t = 0 := foldl_same _ _ _ (fun e he x => by unfold stepTo; rw [if_neg (hne e he)])
    have e2 : reads l t = false := foldl_same _ _ _ (fun e he x => by unfold readTo; rw [if_neg (hne e he)])
    rw [e1, e2]
    unfold stOfT
    split
    · rw [List.getD_eq_getElem?_getD, List.getElem?_eq_none (by rw [stL_len]; omega)]
      rfl
    · rfl

def takes (e : Ev) (r : Nat) : Bool := r == 0 && e.kind != 0 && e.kind != 5
/-- The reference's Do. -/
def rdo (T : Int) (l : List Ev) (e : Ev) : Nat :=
  if e.kind < 0 ∨ 5 < e.kind then 7 else if e.kind = 0 ∨ e.kind = 5 then 0 else if e.thread < 0 ∨ (som T : Int) ≤ e.thread then 4
  else if e.kind = 1 then (if rstate l e.thread ≠ 0 then 5 else 0)
  else if (rstate l e.thread : Int) ≠ e.kind - 1 then 6
  else if e.read ≠ reads l e.thread then 7
  else if e.kind = 2 then entersS (stL (som T) l) e.read else 0

theorem mov_ref (T : Int) (l : List Ev) (e : Ev) (x : Nat × Bool) (hx : x = (rstate l e.thread, reads l e.thread)) (hk : 1 ≤ e.kind ∧ e.kind ≤ 4) :
    (movS (stL (som T) l) x e).2 = if e.kind = 1 then (if rstate l e.thread ≠ 0 then 5 else 0)
      else if (rstate l e.thread : Int) ≠ e.kind - 1 then 6 else if e.read ≠ reads l e.thread then 7 else if e.kind = 2 then entersS (stL (som T) l) e.read else 0 := by
  obtain ⟨kd, th, rd, ct⟩ := e
  subst hx
  simp only at hk ⊢
  unfold movS
  generalize rstate l th = a
  generalize reads l th = b
  simp only
  rcases (show kd = 1 ∨ kd = 2 ∨ kd = 3 ∨ kd = 4 by omega) with rfl | rfl | rfl | rfl
  · simp only [if_true]
    split <;> rfl
  · by_cases ha : a = 1
    · subst ha
      by_cases hr : rd = b
      · subst hr; simp
      · simp [hr]
    · have : ¬ (a : Int) = 1 := by omega
      simp [ha, this]
  · by_cases ha : a = 2
    · subst ha
      by_cases hr : rd = b
      · subst hr; simp
      · simp [hr]
    · have : ¬ (a : Int) = 2 := by omega
      simp [ha, this]
  · by_cases ha : a = 3
    · subst ha
      by_cases hr : rd = b
      · subst hr; simp
      · simp [hr]
    · have : ¬ (a : Int) = 3 := by omega
      simp [ha, this]
theorem do_ref (T : Int) (l : List Ev) (e : Ev) : (doS (stL (som T) l) e).1 = rdo T l e := by
  unfold doS rdo
  by_cases k1 : e.kind < 0 ∨ 5 < e.kind
  · rw [if_pos k1, if_pos k1]
  rw [if_neg k1, if_neg k1]
  by_cases k0 : e.kind = 0 ∨ e.kind = 5
  · rw [if_pos k0, if_pos k0]
  rw [if_neg k0, if_neg k0, stL_len]
  by_cases hh : e.thread < 0 ∨ (som T : Int) ≤ e.thread
  · rw [if_pos hh, if_pos hh]
  rw [if_neg hh, if_neg hh, ← mov_ref T l e _ (stOfT_stL (n := som T) (by omega) (by omega)) (by omega)]
  split
  · rename_i h; exact h.symm
  · rfl
theorem stL_set {n : Nat} {l : List Ev} {e : Ev} {x : Nat × Bool} (h0 : 0 ≤ e.thread) (hx : x = (stepTo e.thread (rstate l e.thread) e, readTo e.thread (reads l e.thread) e)) : (stL n l).set e.thread.toNat x = stL n (l ++ [e]) := by
  apply List.ext_getElem
  · simp [stL]
  · intro i h1 h2
    rw [stL_get, rstate_snoc, reads_snoc, List.getElem_set]
    split
    · rename_i hi
      rw [show ((i : Nat) : Int) = e.thread by omega, hx]
    · rename_i hi
      rw [stL_get]
      unfold stepTo readTo
      rw [if_neg (by omega), if_neg (by omega)]
theorem stL_same {n : Nat} {l : List Ev} {e : Ev} (h : ∀ (t : Int) a, stepTo t a e = a) (h2 : ∀ (t : Int) a, readTo t a e = a) : stL n l = stL n (l ++ [e]) := by
  unfold stL
  congr 1
  funext i
  rw [rstate_snoc, reads_snoc, h, h2]
theorem mov_st (s : List (Nat × Bool)) (a : Nat) (b : Bool) (e : Ev) (hk : 1 ≤ e.kind ∧ e.kind ≤ 4) (h : (movS s (a, b) e).2 = 0) : (movS s (a, b) e).1 = (stepTo e.thread a e, readTo e.thread b e) := by
  obtain ⟨kd, th, rd, ct⟩ := e
  simp only at hk ⊢
  unfold movS at h ⊢
  unfold stepTo readTo
  rcases (show kd = 1 ∨ kd = 2 ∨ kd = 3 ∨ kd = 4 by omega) with rfl | rfl | rfl | rfl
  · simp only [if_true] at h ⊢
    split at h
    · simp at h
    · rename_i ha
      rw [if_neg ha]
  · by_cases ha : a = 1
    · subst ha
      by_cases hr : rd = b
      · subst hr; simp
      · simp [hr] at h
    · simp [ha] at h
  · by_cases ha : a = 2
    · subst ha
      by_cases hr : rd = b
      · subst hr; simp
      · simp [hr] at h
    · simp [ha] at h
  · by_cases ha : a = 3
    · subst ha
      by_cases hr : rd = b
      · subst hr; simp
      · simp [hr] at h
    · simp [ha] at h
theorem do_st (T : Int) (l : List Ev) (e : Ev) : (doS (stL (som T) l) e).2 = if takes e (doS (stL (som T) l) e).1 then stL (som T) (l ++ [e]) else stL (som T) l := by
  unfold doS
  by_cases k1 : e.kind < 0 ∨ 5 < e.kind
  · rw [if_pos k1, if_neg (by simp [takes])]
  rw [if_neg k1]
  by_cases k0 : e.kind = 0 ∨ e.kind = 5
  · rw [if_pos k0, if_neg (by rcases k0 with h | h <;> simp [takes, h])]
  rw [if_neg k0, stL_len]
  by_cases hh : e.thread < 0 ∨ (som T : Int) ≤ e.thread
  · rw [if_pos hh, if_neg (by simp [takes])]
  rw [if_neg hh, stOfT_stL (n := som T) (by omega) (by omega)]
  split
  · rename_i hm
    rw [if_pos (by simp [takes]; omega)]
    exact stL_set (by omega) (mov_st _ _ _ e (by omega) hm)
  · rename_i hm
    rw [if_neg (by simp [takes, hm])]
theorem takes_in {T : Int} {l : List Ev} {e : Ev} (h : takes e (rdo T l e) = true) : 0 ≤ e.thread ∧ e.thread < som T := by
  simp only [takes, Bool.and_eq_true, beq_iff_eq, bne_iff_ne] at h
  obtain ⟨⟨h1, h2⟩, h3⟩ := h
  unfold rdo at h1
  split at h1
  · omega
  rw [if_neg (by omega)] at h1
  split at h1
  · omega
  omega
theorem do_ok (T : Int) (l : List Ev) (e : Ev) (h : rdo T l e = 0) : (doS (stL (som T) l) e).2 = stL (som T) (l ++ [e]) := by
  rw [do_st, do_ref]
  split
  · rfl
  · rename_i hn
    have : e.kind = 0 ∨ e.kind = 5 := by
      simp only [takes, h] at hn
      simp at hn
      omega
    refine stL_same (fun t a => ?_) (fun t a => ?_)
    · unfold stepTo
      split
      · rcases this with k | k <;> simp [k]
      · rfl
    · unfold readTo
      split
      · rcases this with k | k <;> simp [k]
      · rfl
theorem rdo_lt (T : Int) (l : List Ev) (e : Ev) : rdo T l e ≤ 7 := by
  unfold rdo entersS
  repeat' split
  all_goals omega
end Go.Proofs.Ytfdcojhgpfmloaa.Sha
