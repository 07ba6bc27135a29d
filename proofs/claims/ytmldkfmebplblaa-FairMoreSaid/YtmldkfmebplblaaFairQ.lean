/- Layer 9, the plain law: rounds. No Go in sight. -/
import Derived.Test.YtmldkfmebplblaaFairP
namespace Go.Proofs.Ytmldkfmebplblaa.Fai

def fst (n : Nat) (x : Int) : Nat := (x % (n : Int)).toNat
def val (n : Nat) (x : Int) (k : Nat) : Nat := if x.tmod 2 = 0 then (fst n x + k) % n else (fst n x + n - k) % n
def rowTo (n : Nat) (x : Int) (k : Nat) : List Int := (List.range k).map fun i => (val n x i : Int)
def roundsTo (n : Nat) : List Int → List Int → List Int
  | [], out => out
  | x :: xs, out => if n = 0 ∨ 4000 < out.length + n then out else roundsTo n xs (out ++ rowTo n x n)

theorem rowTo_succ (n : Nat) (x : Int) (k : Nat) : rowTo n x (k + 1) = rowTo n x k ++ [(val n x k : Int)] := by simp [rowTo, List.range_succ]
theorem rowTo_len (n : Nat) (x : Int) (k : Nat) : (rowTo n x k).length = k := by simp [rowTo]
theorem fst_lt {n : Nat} (h : 0 < n) (x : Int) : fst n x < n := by
  have := Int.emod_lt_of_pos x (show (0 : Int) < n by omega)
  have := Int.emod_nonneg x (show (n : Int) ≠ 0 by omega)
  unfold fst
  omega
theorem fst_cast {n : Nat} (h : 0 < n) (x : Int) : (fst n x : Int) = x % (n : Int) := by
  have := Int.emod_nonneg x (show (n : Int) ≠ 0 by omega)
  unfold fst
  omega
theorem val_lt {n : Nat} (h : 0 < n) (x : Int) (k : Nat) : val n x k < n := by
  unfold val
  split <;> exact Nat.mod_lt _ h
theorem val_zero {n : Nat} (h : 0 < n) (x : Int) : val n x 0 = fst n x := by
  have := fst_lt h x
  unfold val
  split
  · exact Nat.mod_eq_of_lt (by omega)
  · rw [Nat.sub_zero, Nat.add_mod_right]; exact Nat.mod_eq_of_lt this
theorem val_even {n : Nat} {x : Int} (hx : x.tmod 2 = 0) (k : Nat) : val n x (k + 1) = (val n x k + 1) % n := by
  unfold val
  rw [if_pos hx, if_pos hx, Nat.mod_add_mod]
  rfl
theorem val_odd {n : Nat} {x : Int} (hx : ¬ x.tmod 2 = 0) (k : Nat) (hk : k < n) : val n x (k + 1) = (val n x k + (n - 1)) % n := by
  unfold val
  rw [if_neg hx, if_neg hx, Nat.mod_add_mod]
  rw [show fst n x + n - k + (n - 1) = fst n x + n - (k + 1) + n by omega, Nat.add_mod_right]
theorem tmod_bd (x : Int) {n : Nat} (h : 0 < n) : -(n : Int) < x.tmod n ∧ x.tmod n < n := by
  have h1 := Int.tmod_lt_of_pos x (show (0 : Int) < n by omega)
  have h2 := Int.lt_tmod_of_pos x (show (0 : Int) < n by omega)
  exact ⟨h2, h1⟩
theorem tmod_emod (x : Int) {n : Nat} (h : 0 < n) : (x.tmod n + n) % (n : Int) = x % n := by
  rw [Int.add_emod_right, Int.tmod_def, Int.sub_mul_emod_self_left]

/-! What comes of rounds. -/
theorem roundsTo_len (n : Nat) (how out : List Int) (h : out.length ≤ 4000) : (roundsTo n how out).length ≤ 4000 := by
  induction how generalizing out with
  | nil => exact h
  | cons x xs ih =>
    unfold roundsTo
    split
    · exact h
    · exact ih _ (by rw [List.length_append, rowTo_len]; omega)

theorem roundsTo_full (n : Nat) (h0 : 0 < n) (a : Nat) (out : List Int) (h : 4000 < out.length + (a + 1) * n) (x : Int) :
    roundsTo n (List.replicate (a + 1) x) out = roundsTo n (List.replicate a x) out := by
  induction a generalizing out with
  | zero =>
    rw [List.replicate_succ, roundsTo, if_pos (.inr (by omega))]
    rfl
  | succ a ih =>
    have hmul : (a + 1 + 1) * n = (a + 1) * n + n := Nat.succ_mul (a + 1) n
    show roundsTo n (x :: List.replicate (a + 1) x) out = roundsTo n (x :: List.replicate a x) out
    rw [roundsTo, roundsTo]
    by_cases hc : n = 0 ∨ 4000 < out.length + n
    · rw [if_pos hc, if_pos hc]
    · rw [if_neg hc, if_neg hc]
      exact ih _ (by
        rw [List.length_append, rowTo_len]
        omega)
theorem roundsTo_sat (n : Nat) (x : Int) (a : Nat) (h : 4000 ≤ a) : roundsTo n (List.replicate a x) [] = roundsTo n (List.replicate 4000 x) [] := by
  by_cases h0 : n = 0
  · subst h0
    obtain ⟨a, rfl⟩ : ∃ b, a = b + 1 := ⟨a - 1, by omega⟩
    rw [List.replicate_succ, roundsTo, if_pos (.inl rfl)]
    rw [show (4000 : Nat) = 3999 + 1 from rfl, List.replicate_succ, roundsTo, if_pos (.inl rfl)]
  · obtain ⟨b, rfl⟩ := Nat.exists_eq_add_of_le h
    induction b with
    | zero => rfl
    | succ b ih =>
      rw [← ih (by omega), show 4000 + (b + 1) = (4000 + b) + 1 by omega]
      exact roundsTo_full n (by omega) (4000 + b) [] (by
        have : 4001 * 1 ≤ (4000 + b + 1) * n := Nat.mul_le_mul (by omega) (by omega)
        simp
        omega) x

/-- A list that is rows of all threads, each once: any picks that have a whole row have each thread. -/
theorem mem_row {n : Nat} (h0 : 0 < n) (x : Int) (t : Nat) (ht : t < n) : ∃ j, j < n ∧ val n x j = t := by
  have hf := fst_lt h0 x
  unfold val
  split
  · by_cases h : fst n x ≤ t
    · exact ⟨t - fst n x, by omega, by rw [show fst n x + (t - fst n x) = t by omega]; exact Nat.mod_eq_of_lt ht⟩
    · exact ⟨t + n - fst n x, by omega, by rw [show fst n x + (t + n - fst n x) = t + n by omega, Nat.add_mod_right]; exact Nat.mod_eq_of_lt ht⟩
  · by_cases h : t ≤ fst n x
    · exact ⟨fst n x - t, by omega, by rw [show fst n x + n - (fst n x - t) = t + n by omega, Nat.add_mod_right]; exact Nat.mod_eq_of_lt ht⟩
    · exact ⟨fst n x + n - t, by omega, by rw [show fst n x + n - (fst n x + n - t) = t by omega]; exact Nat.mod_eq_of_lt ht⟩

/-- Rows, row by row. -/
def Rows (n : Nat) (l : List Int) : Prop := ∃ m : Nat, l.length = m * n ∧ ∀ r, r < m → ∃ x : Int, ∀ j, j < n → l[r * n + j]? = some (val n x j : Int)
theorem rows_snoc {n : Nat} {l : List Int} (h : Rows n l) (x : Int) : Rows n (l ++ rowTo n x n) := by
  obtain ⟨m, hl, hr⟩ := h
  refine ⟨m + 1, by rw [List.length_append, rowTo_len, hl, Nat.add_mul]; omega, fun r hrm => ?_⟩
  by_cases h : r < m
  · obtain ⟨y, hy⟩ := hr r h
    refine ⟨y, fun j hj => ?_⟩
    have : (r + 1) * n ≤ m * n := Nat.mul_le_mul_right _ h
    rw [Nat.add_mul] at this
    rw [List.getElem?_append_left (by omega)]
    exact hy j hj
  · obtain rfl : r = m := by omega
    refine ⟨x, fun j hj => ?_⟩
    rw [List.getElem?_append_right (by omega), hl, Nat.add_sub_cancel_left]
    simp [rowTo, hj]
theorem rows_to {n : Nat} (how out : List Int) (h : Rows n out) : Rows n (roundsTo n how out) := by
  induction how generalizing out with
  | nil => exact h
  | cons x xs ih =>
    unfold roundsTo
    split
    · exact h
    · exact ih _ (rows_snoc h x)
theorem rows_fair {n : Nat} (h0 : 0 < n) {l : List Int} (h : Rows n l) : FairBy l n (2 * n - 1) := by
  obtain ⟨m, hl, hr⟩ := h
  intro a ha t ht
  have hd := Nat.div_add_mod (a + n - 1) n
  have hm := Nat.mod_lt (a + n - 1) h0
  generalize hq : (a + n - 1) / n = r at hd
  generalize (a + n - 1) % n = e at hd hm
  rw [Nat.mul_comm] at hd
  have hrm : r < m := by
    rcases Nat.lt_or_ge r m with h | h
    · exact h
    · exfalso
      have : m * n ≤ r * n := Nat.mul_le_mul_right _ h
      omega
  obtain ⟨x, hx⟩ := hr r hrm
  obtain ⟨j, hj, hjt⟩ := mem_row h0 x t ht
  exact ⟨r * n + j, by omega, by omega, by rw [hx j hj, hjt]⟩
theorem robin_rows {n : Nat} (h0 : 0 < n) (k : Nat) (out : List Int) (h : ∀ j y, out[j]? = some y → y = ((j % n : Nat) : Int)) (hl : out.length % n = 0) :
    ∀ j y, (roundsTo n (List.replicate k 0) out)[j]? = some y → y = ((j % n : Nat) : Int) := by
  induction k generalizing out with
  | zero => exact h
  | succ k ih =>
    rw [List.replicate_succ, roundsTo]
    split
    · exact h
    · refine ih _ ?_ (by rw [List.length_append, rowTo_len, Nat.add_mod_right]; exact hl)
      intro j y hj
      by_cases hjl : j < out.length
      · rw [List.getElem?_append_left hjl] at hj
        exact h j y hj
      · rw [List.getElem?_append_right (by omega)] at hj
        have hjn : j - out.length < n := by have := (List.getElem?_eq_some_iff.1 hj).1; rw [rowTo_len] at this; exact this
        simp only [rowTo, List.getElem?_map, List.getElem?_range hjn, Option.map_some, Option.some.injEq] at hj
        rw [← hj]
        have hv : val n 0 (j - out.length) = (j - out.length) % n := by
          unfold val fst
          simp
        rw [hv]
        congr 1
        have : j = (j - out.length) + out.length := by omega
        rw [this, Nat.add_mod, hl]
        simp
theorem robin_fair {n : Nat} (h0 : 0 < n) (k : Nat) : FairBy (roundsTo n (List.replicate k 0) []) n n := by
  intro a ha t ht
  have key := robin_rows h0 k [] (by simp) (by simp)
  generalize roundsTo n (List.replicate k 0) [] = l at *
  have hj : ∃ j, a ≤ j ∧ j < a + n ∧ j % n = t := by
    have hm := Nat.mod_lt a h0
    have hd := Nat.div_add_mod a n
    by_cases h : a % n ≤ t
    · refine ⟨a + (t - a % n), by omega, by omega, ?_⟩
      rw [show a + (t - a % n) = t + n * (a / n) by omega, Nat.add_mul_mod_self_left]
      exact Nat.mod_eq_of_lt ht
    · refine ⟨a + (t + n - a % n), by omega, by omega, ?_⟩
      rw [show a + (t + n - a % n) = t + n * (a / n + 1) by rw [Nat.mul_add]; omega, Nat.add_mul_mod_self_left]
      exact Nat.mod_eq_of_lt ht
  obtain ⟨j, h1, h2, h3⟩ := hj
  refine ⟨j, h1, h2, ?_⟩
  have hjl : j < l.length := by omega
  rw [List.getElem?_eq_getElem hjl]
  have := key j _ (List.getElem?_eq_getElem hjl)
  rw [this, h3]
end Go.Proofs.Ytmldkfmebplblaa.Fai
