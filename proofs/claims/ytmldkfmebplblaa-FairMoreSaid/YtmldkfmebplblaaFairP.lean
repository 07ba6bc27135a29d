/- Layer 9, the plain law: by how many picks a script is fair. No Go in sight. -/
namespace Go.Proofs.Ytmldkfmebplblaa.Fai

/-- The picks gone through: where each thread was picked last (behind it), and the longest gap that is over. -/
def scan (n : Nat) : List Int → Nat → List Nat → Nat → List Nat × Nat
  | [], _, last, lg => (last, lg)
  | t :: ts, i, last, lg => if 0 ≤ t ∧ t < n then scan n ts (i + 1) (last.set t.toNat (i + 1)) (max lg (i - last.getD t.toNat 0)) else scan n ts (i + 1) last lg
def gaps (len : Nat) (last : List Nat) (lg : Nat) : Nat := last.foldl (fun m f => max m (len - f)) lg
def longest (n : Nat) (l : List Int) : Nat := gaps l.length (scan n l 0 (List.replicate n 0) 0).1 (scan n l 0 (List.replicate n 0) 0).2

/-- Each of the threads is among the picks from a place on, as many. -/
def Has (l : List Int) (t : Nat) (a k : Nat) : Prop := ∃ j, a ≤ j ∧ j < a + k ∧ l[j]? = some (t : Int)
def FairBy (l : List Int) (n k : Nat) : Prop := ∀ a, a + k ≤ l.length → ∀ t, t < n → Has l t a k

structure Inv (n : Nat) (l : List Int) (i : Nat) (last : List Nat) (lg : Nat) : Prop where
  len : last.length = n
  le : ∀ t, t < n → last.getD t 0 ≤ i
  none : ∀ t, t < n → ∀ j, last.getD t 0 ≤ j → j < i → l[j]? ≠ some (t : Int)
  some : ∀ t, t < n → last.getD t 0 = 0 ∨ l[last.getD t 0 - 1]? = some (t : Int)
  gap : ∀ k, 1 ≤ k → (lg < k ↔ ∀ t, t < n → ∀ a, a + k ≤ last.getD t 0 → Has l t a k)
  lgl : lg ≤ i

theorem inv_start (n : Nat) (l : List Int) : Inv n l 0 (List.replicate n 0) 0 := by
  have h0 : ∀ t, (List.replicate n 0).getD t 0 = 0 := by intro t; simp [List.getD, List.getElem?_replicate]; split <;> simp
  refine ⟨by simp, fun t _ => by rw [h0]; exact Nat.le_refl _, fun t _ j h1 h2 => by omega, fun t _ => .inl (h0 t), fun k hk => ?_, Nat.le_refl _⟩
  constructor
  · intro _ t _ a ha
    rw [h0] at ha
    omega
  · intro _
    omega

theorem getD_set (l : List Nat) (i j x : Nat) (hi : i < l.length) : (l.set i x).getD j 0 = if j = i then x else l.getD j 0 := by
  simp only [List.getD, List.getElem?_set]
  by_cases h : i = j
  · subst h; simp [hi]
  · rw [if_neg h, if_neg (fun e => h e.symm)]

theorem inv_miss {n : Nat} {l : List Int} {i : Nat} {last : List Nat} {lg : Nat} (h : Inv n l i last lg) (x : Int) (hx : l[i]? = some x) (hn : ¬ (0 ≤ x ∧ x < n)) : Inv n l (i + 1) last lg := by
  refine ⟨h.len, fun t ht => Nat.le_succ_of_le (h.le t ht), fun t ht j h1 h2 => ?_, h.some, h.gap, Nat.le_succ_of_le h.lgl⟩
  by_cases hj : j < i
  · exact h.none t ht j h1 hj
  · obtain rfl : j = i := by omega
    rw [hx]
    intro e
    injection e with e
    exact hn ⟨by omega, by omega⟩

theorem inv_hit {n : Nat} {l : List Int} {i : Nat} {last : List Nat} {lg : Nat} (h : Inv n l i last lg) (s : Nat) (hx : l[i]? = some (s : Int)) (hs : s < n) :
    Inv n l (i + 1) (last.set s (i + 1)) (max lg (i - last.getD s 0)) := by
  have hsl : s < last.length := by rw [h.len]; exact hs
  have hg : ∀ t, (last.set s (i + 1)).getD t 0 = if t = s then i + 1 else last.getD t 0 := fun t => getD_set last s t (i + 1) hsl
  refine ⟨by simpa using h.len, fun t ht => ?_, fun t ht j h1 h2 => ?_, fun t ht => ?_, fun k hk => ?_, ?_⟩
  · rw [hg]; split
    · exact Nat.le_refl _
    · exact Nat.le_succ_of_le (h.le t ht)
  · rw [hg] at h1
    split at h1
    · omega
    · rename_i hts
      by_cases hj : j < i
      · exact h.none t ht j h1 hj
      · obtain rfl : j = i := by omega
        rw [hx]
        intro e
        injection e with e
        omega
  · rw [hg]; split
    · rename_i hts
      subst hts
      right
      simpa using hx
    · exact h.some t ht
  · have hle := h.le s hs
    constructor
    · intro hm t ht a ha
      rw [hg] at ha
      have hlk : lg < k := by omega
      split at ha
      · rename_i hts
        subst hts
        by_cases h1 : a + k ≤ last.getD t 0
        · exact (h.gap k hk).1 hlk t ht a h1
        · by_cases h2 : a + k = i + 1
          · exact ⟨i, by omega, by omega, hx⟩
          · rcases h.some t ht with h3 | h3
            · rw [h3] at hm h1
              omega
            · by_cases h4 : a ≤ last.getD t 0 - 1
              · have : 0 < last.getD t 0 ∨ last.getD t 0 = 0 := by omega
                rcases this with h5 | h5
                · exact ⟨last.getD t 0 - 1, h4, by omega, h3⟩
                · rw [h5] at hm h1
                  omega
              · omega
      · exact (h.gap k hk).1 hlk t ht a ha
    · intro hall
      have h1 : lg < k := (h.gap k hk).2 fun t ht a ha => hall t ht a (by have := h.le t ht; rw [hg]; split <;> omega)
      by_cases h2 : i - last.getD s 0 < k
      · omega
      · exfalso
        obtain ⟨j, hj1, hj2, hj3⟩ := hall s hs (last.getD s 0) (by rw [hg, if_pos rfl]; omega)
        exact h.none s hs j hj1 (by omega) hj3
  · have := h.lgl; omega

theorem scan_inv {n : Nat} {l : List Int} : ∀ (ts : List Int) (i : Nat) (last : List Nat) (lg : Nat), l.drop i = ts → Inv n l i last lg →
    Inv n l l.length (scan n ts i last lg).1 (scan n ts i last lg).2 := by
  intro ts
  induction ts with
  | nil =>
    intro i last lg hd h
    have hi : l.length ≤ i := by simpa using hd
    refine ⟨h.len, fun t ht => ?_, fun t ht j h1 h2 => h.none t ht j h1 (by omega), h.some, h.gap, ?_⟩
    · have := h.le t ht
      rcases h.some t ht with h1 | h1
      · simp only [scan]; rw [h1]; exact Nat.zero_le _
      · have := (List.getElem?_eq_some_iff.1 h1).1
        simp only [scan]; omega
    · simp only [scan]
      have hk := (h.gap (l.length + 1) (by omega)).2 (fun t ht a ha => by
        exfalso
        rcases h.some t ht with h1 | h1
        · omega
        · have := (List.getElem?_eq_some_iff.1 h1).1
          omega)
      omega
  | cons x ts ih =>
    intro i last lg hd h
    have hi : i < l.length := by
      by_cases hi : i < l.length
      · exact hi
      · rw [List.drop_of_length_le (by omega)] at hd; cases hd
    rw [List.drop_eq_getElem_cons hi] at hd
    injection hd with h1 h2
    have hx : l[i]? = some x := by rw [List.getElem?_eq_getElem hi, h1]
    unfold scan
    split
    · rename_i hc
      obtain ⟨s, rfl⟩ := Int.eq_ofNat_of_zero_le hc.1
      exact ih _ _ _ h2 (inv_hit h s hx (by omega))
    · rename_i hc
      exact ih _ _ _ h2 (inv_miss h x hx hc)

theorem gaps_lt (len : Nat) (last : List Nat) (lg k : Nat) : gaps len last lg < k ↔ lg < k ∧ ∀ f ∈ last, len - f < k := by
  unfold gaps
  induction last generalizing lg with
  | nil => simp
  | cons f fs ih => rw [List.foldl_cons, ih]; simp only [List.mem_cons, forall_eq_or_imp]; constructor
                    · rintro ⟨h1, h2⟩; exact ⟨by omega, by omega, h2⟩
                    · rintro ⟨h1, h2, h3⟩; exact ⟨by omega, h3⟩

theorem longest_lt (n : Nat) (l : List Int) (k : Nat) (hk : 1 ≤ k) : longest n l < k ↔ FairBy l n k := by
  have h := scan_inv (l := l) l 0 _ _ rfl (inv_start n l)
  unfold longest
  generalize (scan n l 0 (List.replicate n 0) 0).1 = last at *
  generalize (scan n l 0 (List.replicate n 0) 0).2 = lg at *
  rw [gaps_lt, h.gap k hk]
  constructor
  · rintro ⟨h1, h2⟩ a ha t ht
    have hg : l.length - last.getD t 0 < k := by
      have hl := h.len
      have : last.getD t 0 ∈ last := by
        rw [List.getD_eq_getElem?_getD, List.getElem?_eq_getElem (by omega)]
        exact List.getElem_mem _
      exact h2 _ this
    by_cases h3 : a + k ≤ last.getD t 0
    · exact h1 t ht a h3
    · rcases h.some t ht with h4 | h4
      · omega
      · by_cases h5 : 0 < last.getD t 0
        · exact ⟨last.getD t 0 - 1, by omega, by omega, h4⟩
        · omega
  · intro hf
    refine ⟨fun t ht a ha => hf a (by have := h.le t ht; omega) t ht, fun f hmem => ?_⟩
    obtain ⟨t, ht, rfl⟩ := List.getElem_of_mem hmem
    have htn : t < n := by rw [← h.len]; exact ht
    have hgd : last.getD t 0 = last[t] := by rw [List.getD_eq_getElem?_getD, List.getElem?_eq_getElem ht]; rfl
    by_cases h1 : l.length - last[t] < k
    · exact h1
    · exfalso
      have hle := h.le t htn
      rw [hgd] at hle
      obtain ⟨j, hj1, hj2, hj3⟩ := hf last[t] (by omega) t htn
      exact h.none t htn j (by rw [hgd]; exact hj1) (List.getElem?_eq_some_iff.1 hj3).1 hj3

theorem longest_le (n : Nat) (l : List Int) : longest n l ≤ l.length := by
  have := (longest_lt n l (l.length + 1) (by omega)).2 (fun a ha => by omega)
  omega
theorem longest_zero (l : List Int) : longest 0 l = 0 := by
  have := (longest_lt 0 l 1 (by omega)).2 (fun a ha t ht => by omega)
  omega
end Go.Proofs.Ytmldkfmebplblaa.Fai
