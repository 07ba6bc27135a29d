/- Without readers the automaton of layer 11 is that of layer 10: in plain words. -/
import Derived.Test.YtfdcojhgpfmloaaShL3
import Derived.Test.YtfdcojhgpfmloaaAutoN
namespace Go.Proofs.Ytfdcojhgpfmloaa.Sha
open Go.RowKit

def conv (e : Ev) : Aut.Ev := ⟨e.kind, e.thread, e.read, e.count⟩
def NoR (s : List (Nat × Bool)) : Prop := ∀ p ∈ s, p.2 = false
theorem noR_find {s : List (Nat × Bool)} (h : NoR s) : s.findIdx? (fun x => x == (2, false)) = (s.map Prod.fst).findIdx? (fun x => x == 2) := by
  induction s with
  | nil => rfl
  | cons p s ih =>
    have hp : p.2 = false := h p (by simp)
    obtain ⟨a, b⟩ := p
    simp only at hp
    subst hp
    rw [List.map_cons, List.findIdx?_cons, List.findIdx?_cons, ih (fun q hq => h q (by simp [hq]))]
    have : ((a, false) == (2, false)) = (a == 2) := by
      rw [Bool.eq_iff_iff]
      simp
    simp only [this]
theorem noR_wOf {s : List (Nat × Bool)} (h : NoR s) : wOf s = Aut.idxOf (s.map Prod.fst) 2 := by
  unfold wOf Aut.idxOf
  have := noR_find h
  simp only [this]
  generalize List.findIdx? (fun x => x == 2) (List.map Prod.fst s) = o
  cases o <;> rfl
theorem noR_rOf {s : List (Nat × Bool)} (h : NoR s) : rOf s = 0 := by
  unfold rOf
  rw [List.count_eq_zero]
  intro hm
  have := h _ hm
  simp at this
theorem noR_at {s : List (Nat × Bool)} (h : NoR s) {k : Nat} (hk : k < s.length) : s[k].2 = false := h _ (List.getElem_mem hk)
theorem noR_set {s : List (Nat × Bool)} (h : NoR s) (k : Nat) (a : Nat) : NoR (s.set k (a, false)) := by
  intro p hp
  rcases List.mem_or_eq_of_mem_set hp with h1 | h1
  · exact h p h1
  · rw [h1]
theorem noR_zero (n : Nat) : NoR (zerosS n) := by
  intro p hp
  rw [List.eq_of_mem_replicate hp]
theorem plain_do (s : List (Nat × Bool)) (h : NoR s) (e : Ev) (he : e.read = false) :
    ((doS s e).1 = (Aut.doS (s.map Prod.fst) (conv e)).1 ∧ (Aut.doS (s.map Prod.fst) (conv e)).2 = (doS s e).2.map Prod.fst) ∧ NoR (doS s e).2 := by
  obtain ⟨kd, th, rd, ct⟩ := e
  simp only at he
  subst he
  unfold doS Aut.doS conv
  simp only [Bool.false_eq_true, if_false]
  by_cases k1 : kd < 0 ∨ 5 < kd
  · rw [if_pos k1, if_neg (by omega), if_pos k1]
    exact ⟨⟨rfl, rfl⟩, h⟩
  rw [if_neg k1]
  by_cases k0 : kd = 0 ∨ kd = 5
  · rw [if_pos k0, if_pos k0]
    exact ⟨⟨rfl, rfl⟩, h⟩
  rw [if_neg k0, if_neg k0, if_neg k1]
  by_cases hh : th < 0 ∨ (s.length : Int) ≤ th
  · rw [if_pos hh, if_pos (by simp [Aut.hasB]; omega)]
    exact ⟨⟨rfl, rfl⟩, h⟩
  have hB : ¬ Aut.hasB (s.map Prod.fst) th = false := by
    rw [Bool.not_eq_false]
    simp only [Aut.hasB, List.length_map, Bool.and_eq_true, decide_eq_true_eq]
    omega
  rw [if_neg hh, if_neg hB]
  clear hB
  obtain ⟨k, rfl⟩ := Int.eq_ofNat_of_zero_le (show 0 ≤ th by omega)
  have hk : k < s.length := by omega
  have hst : Aut.stateOf (s.map Prod.fst) (k : Int) = s[k].1 := by simp [Aut.stateOf, hk]
  have hb := noR_at h hk
  simp only [Int.ofNat_eq_natCast, stOfT_in hk, Int.toNat_natCast, hst, ← noR_wOf h]
  have hset : ∀ a : Nat, NoR (s.set k (a, false)) ∧ (s.map Prod.fst).set k a = (s.set k (a, false)).map Prod.fst := fun a => ⟨noR_set h k a, by rw [List.map_set]⟩
  have hr := noR_rOf h
  obtain ⟨x, hx⟩ : ∃ x, s[k] = x := ⟨_, rfl⟩
  rw [hx] at hb ⊢
  obtain ⟨a, b⟩ := x
  simp only at hb
  subst hb
  unfold movS
  rcases (show kd = 1 ∨ kd = 2 ∨ kd = 3 ∨ kd = 4 by omega) with rfl | rfl | rfl | rfl
  · by_cases ha : a = 0
    · subst ha
      obtain ⟨q1, q2⟩ := hset 1
      simp [Aut.from3, q1]
    · simp [Aut.from3, ha, h]
  · by_cases ha : a = 1
    · subst ha
      obtain ⟨q1, q2⟩ := hset 2
      by_cases hw : 0 ≤ wOf s
      · simp [Aut.from3, entersS, hw, h]
      · simp [Aut.from3, entersS, hw, hr, q1]
    · have : ¬ (a : Int) = 1 := by omega
      simp [Aut.from3, ha, this, h]
  · by_cases ha : a = 2
    · subst ha
      obtain ⟨q1, q2⟩ := hset 3
      simp [Aut.from3, q1]
    · have : ¬ (a : Int) = 2 := by omega
      simp [Aut.from3, ha, this, h]
  · by_cases ha : a = 3
    · subst ha
      obtain ⟨q1, q2⟩ := hset 0
      simp [Aut.from3, q1]
    · have : ¬ (a : Int) = 3 := by omega
      simp [Aut.from3, ha, this, h]
end Go.Proofs.Ytfdcojhgpfmloaa.Sha
