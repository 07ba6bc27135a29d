/- Layer 10 in plain words: the automaton's state is what the events that were taken make of it. -/
import Derived.Test.YtmldkfmebplblaaAuto14
namespace Go.Proofs.Ytmldkfmebplblaa.Aut
open Go.RowKit

/-- The first place where f is not 0, and what it is there; else n and 0. -/
def chk (f : Nat → Nat) (n : Nat) : Nat × Nat := match (List.range n).find? (fun j => f j != 0) with | some j => (j, f j) | none => (n, 0)
theorem chk_none {f : Nat → Nat} {n : Nat} (h : ∀ j, j < n → f j = 0) : chk f n = (n, 0) := by
  unfold chk
  rw [List.find?_eq_none.2]
  intro x hx
  simpa using h x (List.mem_range.1 hx)
theorem chk_some {f : Nat → Nat} {n k : Nat} (hk : k < n) (hf : f k ≠ 0) (h : ∀ j, j < k → f j = 0) : chk f n = (k, f k) := by
  unfold chk
  have : (List.range n).find? (fun j => f j != 0) = some k := by
    rw [List.find?_range_eq_some]
    exact ⟨by simpa using hf, by simpa using hk, fun j hj => by simpa using h j hj⟩
  rw [this]

theorem stOf_len (n : Nat) (l : List Ev) : (stOf n l).length = n := by simp [stOf]
theorem stOf_get (n : Nat) (l : List Ev) (i : Nat) (h : i < (stOf n l).length) : (stOf n l)[i] = rstate l (i : Nat) := by simp [stOf]
theorem rstate_snoc (l : List Ev) (e : Ev) (t : Int) : rstate (l ++ [e]) t = stepTo t (rstate l t) e := by
  unfold rstate
  rw [List.foldl_append]
  rfl
theorem stateOf_stOf {n : Nat} {l : List Ev} {t : Int} (h0 : 0 ≤ t) (h1 : t < n) : stateOf (stOf n l) t = rstate l t := by
  obtain ⟨k, rfl⟩ := Int.eq_ofNat_of_zero_le h0
  have hk : k < (stOf n l).length := by rw [stOf_len]; omega
  rw [stateOf, if_pos h0]
  simp only [Int.ofNat_eq_natCast, Int.toNat_natCast, List.getD_eq_getElem?_getD, List.getElem?_eq_getElem hk, Option.getD_some, stOf_get]
theorem rstate_out {n : Nat} {l : List Ev} {t : Int} (h : ∀ e ∈ l, 0 ≤ e.thread ∧ e.thread < n) (ht : ¬ (0 ≤ t ∧ t < n)) : rstate l t = 0 := by
  suffices H : ∀ (l : List Ev) (a : Nat), (∀ e ∈ l, 0 ≤ e.thread ∧ e.thread < n) → l.foldl (stepTo t) a = a from H l 0 h
  intro l
  induction l with
  | nil => intro a _; rfl
  | cons e l ih =>
    intro a h
    rw [List.foldl_cons, ih _ (fun x hx => h x (by simp [hx]))]
    have := h e (by simp)
    unfold stepTo
    rw [if_neg (fun q => ht (by rw [← q]; exact this))]
theorem stateOf_any {n : Nat} {l : List Ev} {t : Int} (h : ∀ e ∈ l, 0 ≤ e.thread ∧ e.thread < n) : stateOf (stOf n l) t = rstate l t := by
  by_cases ht : 0 ≤ t ∧ t < n
  · exact stateOf_stOf ht.1 ht.2
  · rw [rstate_out h ht]
    unfold stateOf
    split
    · rename_i h0
      rw [List.getD_eq_getElem?_getD, List.getElem?_eq_none (by rw [stOf_len]; omega)]
      rfl
    · rfl

/-- Is an event taken? -/
def takes (e : Ev) (r : Nat) : Bool := r == 0 && e.kind != 0 && e.kind != 5

theorem hasB_st {n : Nat} {l : List Ev} {t : Int} : (hasB (stOf n l) t = false) ↔ (t < 0 ∨ (n : Int) ≤ t) := by
  rw [hasB, stOf_len, Bool.and_eq_false_iff]
  simp

theorem do_ref (T : Int) (l : List Ev) (e : Ev) : (doS (stOf (som T) l) e).1 = rdo T l e := by
  obtain ⟨kd, th, rd, ct⟩ := e
  cases rd
  · simp only [doS, rdo, Bool.false_eq_true, if_false, false_or]
    by_cases k0 : kd = 0 ∨ kd = 5
    · rw [if_pos k0, if_neg (by omega), if_pos k0]
    by_cases k1 : kd < 0 ∨ 5 < kd
    · rw [if_neg k0, if_pos k1, if_pos k1]
    rw [if_neg k0, if_neg k1, if_neg k1, if_neg k0]
    by_cases hh : th < 0 ∨ (som T : Int) ≤ th
    · rw [if_pos (hasB_st.2 hh), if_pos hh]
    rw [if_neg (fun q => hh (hasB_st.1 q)), if_neg hh, stateOf_stOf (by omega) (by omega)]
    rcases (show kd = 1 ∨ kd = 2 ∨ kd = 3 ∨ kd = 4 by omega) with rfl | rfl | rfl | rfl
    all_goals
      simp [from3]
      try (split <;> rfl)
      try split
      all_goals try omega
      all_goals try (split <;> first | rfl | omega)
  · simp [doS, rdo]

theorem stOf_set {n : Nat} {l : List Ev} {e : Ev} {x : Nat} (h0 : 0 ≤ e.thread) (hx : ∀ a, stepTo e.thread a e = x) : (stOf n l).set e.thread.toNat x = stOf n (l ++ [e]) := by
  apply List.ext_getElem
  · simp [stOf]
  · intro i h1 h2
    rw [stOf_get, rstate_snoc, List.getElem_set]
    split
    · rename_i hi
      rw [show (i : Int) = e.thread by omega, hx]
    · rename_i hi
      rw [stOf_get]
      unfold stepTo
      rw [if_neg (by omega)]
theorem stOf_same {n : Nat} {l : List Ev} {e : Ev} (h : ∀ (t : Int) a, stepTo t a e = a) : stOf n l = stOf n (l ++ [e]) := by
  unfold stOf
  congr 1
  funext i
  rw [rstate_snoc, h]

theorem do_st (T : Int) (l : List Ev) (e : Ev) : (doS (stOf (som T) l) e).2 = if takes e (doS (stOf (som T) l) e).1 then stOf (som T) (l ++ [e]) else stOf (som T) l := by
  obtain ⟨kd, th, rd, ct⟩ := e
  cases rd
  · simp only [doS, Bool.false_eq_true, if_false]
    by_cases k0 : kd = 0 ∨ kd = 5
    · rw [if_pos k0, if_neg (by rcases k0 with rfl | rfl <;> simp [takes])]
    by_cases k1 : kd < 0 ∨ 5 < kd
    · rw [if_neg k0, if_pos k1, if_neg (by simp [takes])]
    rw [if_neg k0, if_neg k1]
    by_cases hh : th < 0 ∨ (som T : Int) ≤ th
    · rw [if_pos (hasB_st.2 hh), if_neg (by simp [takes])]
    rw [if_neg (fun q => hh (hasB_st.1 q))]
    by_cases hs : (stateOf (stOf (som T) l) th : Int) ≠ (from3 kd).1
    · rw [if_pos hs, if_neg]
      have : (from3 kd).2.2.toNat ≠ 0 := by
        unfold from3
        repeat' split
        all_goals decide
      simp [takes, this]
    rw [if_neg hs]
    by_cases hb : kd = 2 ∧ 0 ≤ idxOf (stOf (som T) l) 2
    · rw [if_pos hb, if_neg (by simp [takes])]
    rw [if_neg hb, if_pos (by simp [takes]; omega)]
    refine stOf_set (e := ⟨kd, th, false, ct⟩) (by show 0 ≤ th; omega) (fun a => ?_)
    rcases (show kd = 1 ∨ kd = 2 ∨ kd = 3 ∨ kd = 4 by omega) with rfl | rfl | rfl | rfl
    all_goals simp [stepTo, from3]
  · simp [doS, takes]

/-- What is taken is of a thread that is there. -/
theorem takes_in {T : Int} {l : List Ev} {e : Ev} (h : takes e (rdo T l e) = true) : 0 ≤ e.thread ∧ e.thread < som T := by
  simp only [takes, Bool.and_eq_true, beq_iff_eq, bne_iff_ne] at h
  obtain ⟨⟨h1, h2⟩, h3⟩ := h
  unfold rdo at h1
  split at h1
  · omega
  rw [if_neg (by omega)] at h1
  split at h1
  · omega
  omega

/-- Behind an event that may be, taken or not. -/
theorem do_ok (T : Int) (l : List Ev) (e : Ev) (h : rdo T l e = 0) : (doS (stOf (som T) l) e).2 = stOf (som T) (l ++ [e]) := by
  rw [do_st, do_ref]
  split
  · rfl
  · rename_i hn
    refine stOf_same (fun t a => ?_)
    have : e.kind = 0 ∨ e.kind = 5 := by
      simp only [takes, h] at hn
      simp at hn
      omega
    unfold stepTo
    split
    · rcases this with k | k <;> simp [k]
    · rfl

/-- At most one is in. -/
def One (s : List Nat) : Prop := ∀ i j (hi : i < s.length) (hj : j < s.length), s[i] = 2 → s[j] = 2 → i = j
theorem one_zero (n : Nat) : One (List.replicate n 0) := by
  intro i j hi hj h
  simp at h
theorem idx_neg {s : List Nat} {x : Nat} (h : idxOf s x < 0) : ∀ i (hi : i < s.length), s[i] ≠ x := by
  intro i hi he
  unfold idxOf at h
  cases hf : s.findIdx? (· == x) with
  | none =>
    have := List.findIdx?_eq_none_iff.1 hf s[i] (List.getElem_mem hi)
    simp [he] at this
  | some k => rw [hf] at h; simp at h; omega
theorem do_len (s : List Nat) (e : Ev) : (doS s e).2.length = s.length := by
  unfold doS
  repeat' split
  all_goals simp
theorem do_one (s : List Nat) (e : Ev) (h : One s) : One (doS s e).2 := by
  unfold doS
  split
  · exact h
  split
  · exact h
  split
  · exact h
  split
  · exact h
  split
  · exact h
  split
  · exact h
  rename_i k0 k1 _ _ hb
  intro i j hi hj hi2 hj2
  simp only [List.length_set] at hi hj
  rw [List.getElem_set] at hi2 hj2
  by_cases hk : e.kind = 2
  · have hn : idxOf s 2 < 0 := by omega
    have hall := idx_neg hn
    split at hi2
    · split at hj2
      · omega
      · exact absurd hj2 (hall j hj)
    · exact absurd hi2 (hall i hi)
  · have hv : (from3 e.kind).2.1.toNat ≠ 2 := by
      unfold from3
      split
      · decide
      · split <;> decide
    split at hi2
    · exact absurd hi2 hv
    · split at hj2
      · exact absurd hj2 hv
      · exact h i j hi hj hi2 hj2
/-- What an event that is refused leaves as it was; who enters had asked. -/
theorem do_no (s : List Nat) (e : Ev) (h : (doS s e).1 ≠ 0) : (doS s e).2 = s := by
  unfold doS at h ⊢
  repeat' split
  all_goals simp_all
theorem do_came (s : List Nat) (e : Ev) (h : (doS s e).1 = 0) (hk : e.kind = 2) : stateOf s e.thread = 1 := by
  unfold doS at h
  split at h
  · simp at h
  rw [if_neg (by omega), if_neg (by omega)] at h
  split at h
  · simp at h
  split at h
  · simp [hk, from3] at h
  · rename_i hs
    simp [hk, from3] at hs
    omega
end Go.Proofs.Ytmldkfmebplblaa.Aut
