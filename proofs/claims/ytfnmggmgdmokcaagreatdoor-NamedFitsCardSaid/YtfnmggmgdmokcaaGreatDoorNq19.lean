/- Merged texts: DeP, De1, De2. -/
import Derived.Test.YtfnmggmgdmokcaaGreatDoorNq18
import Derived.Laws.BytesString
import Derived.ScopeJumps
set_option linter.unusedVariables false
/- Numbers and their texts, as Lean lists of bytes. -/
namespace Go.Proofs.YtfnmggmgdmokcaaGreatDoor.De
open Go.Proofs.YtfnmggmgdmokcaaGreatDoor.Li

def dg (n : Nat) : UInt8 := UInt8.ofNat (48 + n)
def isD (c : UInt8) : Bool := decide (48 ≤ c.toNat) && decide (c.toNat ≤ 57)
def dv (c : UInt8) : Nat := c.toNat - 48
theorem isD_iff (c : UInt8) : isD c = true ↔ 48 ≤ c.toNat ∧ c.toNat ≤ 57 := by simp [isD]
theorem dg_nat {n : Nat} (h : n < 10) : (dg n).toNat = 48 + n := by
  unfold dg
  rw [UInt8.toNat_ofNat']
  omega
theorem dg_dv {c : UInt8} (h : isD c = true) : dg (dv c) = c := by
  rw [isD_iff] at h
  apply UInt8.toNat_inj.1
  unfold dv
  rw [dg_nat (by omega)]
  omega
theorem dv_dg {n : Nat} (h : n < 10) : dv (dg n) = n := by unfold dv; rw [dg_nat h]; omega
theorem isD_dg {n : Nat} (h : n < 10) : isD (dg n) = true := by rw [isD_iff, dg_nat h]; omega
theorem dv_lt {c : UInt8} (h : isD c = true) : dv c < 10 := by rw [isD_iff] at h; unfold dv; omega

def digsF : Nat → Nat → List UInt8
  | 0, _ => []
  | f + 1, n => if n < 10 then [dg n] else digsF f (n / 10) ++ [dg (n % 10)]
def digs (n : Nat) : List UInt8 := digsF (n + 1) n
theorem digsF_fuel : ∀ (f g n : Nat), n < f → n < g → digsF f n = digsF g n
  | 0, g, n, h, _ => by omega
  | f + 1, 0, n, _, h => by omega
  | f + 1, g + 1, n, h1, h2 => by
    unfold digsF
    split
    · rfl
    · rw [digsF_fuel f g (n / 10) (by omega) (by omega)]
theorem digs_lt {n : Nat} (h : n < 10) : digs n = [dg n] := by unfold digs digsF; rw [if_pos h]
theorem digs_ge {n : Nat} (h : 10 ≤ n) : digs n = digs (n / 10) ++ [dg (n % 10)] := by
  have : digs n = digsF n (n / 10) ++ [dg (n % 10)] := by
    show digsF (n + 1) n = _
    rw [digsF, if_neg (by omega)]
  rw [this, digs, digsF_fuel n (n / 10 + 1) (n / 10) (by omega) (by omega)]

def val (l : List UInt8) : Nat := l.foldl (fun a c => 10 * a + dv c) 0
theorem val_nil : val [] = 0 := rfl
theorem val_snoc (l : List UInt8) (c : UInt8) : val (l ++ [c]) = 10 * val l + dv c := by simp [val]
theorem val_one (c : UInt8) : val [c] = dv c := by simp [val]

def canon : List UInt8 → Bool
  | [] => false
  | c :: t => (c :: t).all isD && (c != 48 || t.isEmpty)
theorem canon_iff (c : UInt8) (t : List UInt8) : canon (c :: t) = true ↔ (∀ x ∈ c :: t, isD x = true) ∧ (c = 48 → t = []) := by
  simp only [canon, Bool.and_eq_true, List.all_eq_true, Bool.or_eq_true, bne_iff_ne, List.isEmpty_iff]
  constructor
  · rintro ⟨h1, h2⟩
    exact ⟨h1, fun e => h2.resolve_left (fun n => n e)⟩
  · rintro ⟨h1, h2⟩
    refine ⟨h1, ?_⟩
    by_cases h : c = 48
    · exact .inr (h2 h)
    · exact .inl h
theorem digs_head : ∀ (k n : Nat), n ≤ k → ∃ c t, digs n = c :: t ∧ (∀ x ∈ c :: t, isD x = true) ∧ (1 ≤ n → c ≠ 48) ∧ (n < 10 → t = [])
  | k, n, hk => by
    by_cases h : n < 10
    · refine ⟨dg n, [], digs_lt h, by simpa using isD_dg h, fun h1 e => ?_, fun _ => rfl⟩
      have := congrArg UInt8.toNat e
      rw [dg_nat h] at this
      have h48 : (48 : UInt8).toNat = 48 := rfl
      omega
    · match k, hk with
      | 0, hk => omega
      | k + 1, hk =>
        obtain ⟨c, t, h1, h2, h3, h4⟩ := digs_head k (n / 10) (by omega)
        refine ⟨c, t ++ [dg (n % 10)], by rw [digs_ge (by omega), h1]; rfl, ?_, fun _ => h3 (by omega), fun h' => absurd h' h⟩
        intro x hx
        rw [← List.cons_append, List.mem_append] at hx
        rcases hx with hx | hx
        · exact h2 x hx
        · rw [List.mem_singleton.1 hx]; exact isD_dg (by omega)
theorem digs_canon (n : Nat) : canon (digs n) = true := by
  obtain ⟨c, t, h1, h2, h3, h4⟩ := digs_head n n (Nat.le_refl _)
  rw [h1, canon_iff]
  refine ⟨h2, fun e => h4 ?_⟩
  by_cases h : 1 ≤ n
  · exact absurd e (h3 h)
  · omega
theorem val_digs : ∀ (k n : Nat), n ≤ k → val (digs n) = n
  | k, n, hk => by
    by_cases h : n < 10
    · rw [digs_lt h, val_one, dv_dg h]
    · match k, hk with
      | 0, hk => omega
      | k + 1, hk =>
        rw [digs_ge (by omega), val_snoc, val_digs k (n / 10) (by omega), dv_dg (by omega)]
        omega
theorem canon_prefix {t : List UInt8} {c : UInt8} (ht : t ≠ []) (h : canon (t ++ [c]) = true) : canon t = true ∧ t ≠ [48] ∧ isD c = true := by
  cases t with
  | nil => exact absurd rfl ht
  | cons x r =>
    rw [List.cons_append, canon_iff] at h
    obtain ⟨h1, h2⟩ := h
    have hx : x ≠ 48 := fun e => by simpa using h2 e
    refine ⟨(canon_iff x r).2 ⟨fun y hy => h1 y (by rw [← List.cons_append, List.mem_append]; exact .inl hy), fun e => absurd e hx⟩, fun e => ?_, h1 c (by simp)⟩
    injection e with e _
    exact hx e
theorem digs_val : ∀ (k : Nat) (l : List UInt8), l.length ≤ k → canon l = true → digs (val l) = l ∧ (l ≠ [48] → 1 ≤ val l)
  | k, l, hk, h => by
    rcases List.eq_nil_or_concat l with rfl | ⟨t, c, rfl⟩
    · cases h
    · rw [List.concat_eq_append] at hk h ⊢
      by_cases ht : t = []
      · subst ht
        rw [List.nil_append] at h ⊢
        have hd : isD c = true := ((canon_iff c []).1 h).1 c (by simp)
        rw [val_one, digs_lt (dv_lt hd), dg_dv hd]
        refine ⟨rfl, fun hn => ?_⟩
        by_cases h0 : dv c = 0
        · refine absurd ?_ hn
          have := dg_dv hd
          rw [h0] at this
          rw [← this]; rfl
        · omega
      · obtain ⟨h1, h2, h3⟩ := canon_prefix ht h
        match k, hk with
        | 0, hk => simp at hk
        | k + 1, hk =>
          obtain ⟨i1, i2⟩ := digs_val k t (by simpa using hk) h1
          have i3 := i2 h2
          have hlt := dv_lt h3
          rw [val_snoc]
          refine ⟨?_, fun _ => by omega⟩
          rw [digs_ge (by omega), show (10 * val t + dv c) / 10 = val t by omega, i1, show (10 * val t + dv c) % 10 = dv c by omega, dg_dv h3]
theorem digs_pos {n : Nat} (h : 1 ≤ n) : digs n ≠ [48] := by
  intro e
  have := val_digs n n (Nat.le_refl _)
  rw [e, val_one] at this
  have h0 : dv 48 = 0 := rfl
  omega
theorem digs_len : ∀ (k n : Nat), n < 10 ^ (k + 1) → (digs n).length ≤ k + 1
  | 0, n, h => by rw [digs_lt (by simpa using h)]; simp
  | k + 1, n, h => by
    by_cases hn : n < 10
    · rw [digs_lt hn]; simp
    · rw [digs_ge (by omega), List.length_append]
      have := digs_len k (n / 10) (by rw [Nat.pow_succ] at h; omega)
      simp; omega

def txt (n : Int) : List UInt8 := if n < 0 then 45 :: digs n.natAbs else digs n.natAbs
theorem txt_len {n : Int} (h : -9223372036854775808 ≤ n ∧ n ≤ 9223372036854775807) : (txt n).length ≤ 20 := by
  have := digs_len 18 n.natAbs (by simp; omega)
  unfold txt
  split
  · simp; omega
  · omega
theorem isD_45 : isD 45 = false := by decide
def prs (s : List UInt8) : Option Int :=
  if s.head? = some 45 then (if canon (s.drop 1) = true ∧ s.drop 1 ≠ [48] ∧ val (s.drop 1) ≤ 9223372036854775808 then some (-(val (s.drop 1) : Int)) else none)
  else if canon s = true ∧ val s ≤ 9223372036854775807 then some (val s : Int) else none
theorem canon_no45 {s : List UInt8} (h : canon s = true) : s.head? ≠ some 45 := by
  cases s with
  | nil => simp
  | cons c t =>
    intro e
    have : c = 45 := by simpa using e
    subst this
    have := ((canon_iff 45 t).1 h).1 45 (by simp)
    rw [isD_45] at this
    cases this
theorem prs_txt {n : Int} (h : -9223372036854775808 ≤ n ∧ n ≤ 9223372036854775807) : prs (txt n) = some n := by
  unfold prs txt
  by_cases hn : n < 0
  · rw [if_pos hn]
    have hv := val_digs _ _ (Nat.le_refl n.natAbs)
    simp only [List.head?_cons, if_true, List.drop_succ_cons, List.drop_zero]
    rw [if_pos ⟨digs_canon _, digs_pos (by omega), by rw [hv]; omega⟩, hv]
    congr 1
    omega
  · rw [if_neg hn]
    have hv := val_digs _ _ (Nat.le_refl n.natAbs)
    rw [if_neg (canon_no45 (digs_canon _)), if_pos ⟨digs_canon _, by rw [hv]; omega⟩, hv]
    congr 1
    omega
theorem prs_some {s : List UInt8} {n : Int} (h : prs s = some n) : (-9223372036854775808 ≤ n ∧ n ≤ 9223372036854775807) ∧ s = txt n := by
  unfold prs at h
  split at h
  · rename_i h45
    split at h
    · rename_i hc
      obtain ⟨h1, h2, h3⟩ := hc
      injection h with h
      obtain ⟨d1, d2⟩ := digs_val _ (s.drop 1) (Nat.le_refl _) h1
      have d3 := d2 h2
      refine ⟨by omega, ?_⟩
      unfold txt
      rw [if_pos (by omega), show n.natAbs = val (s.drop 1) by omega, d1]
      cases s with
      | nil => cases h45
      | cons c t =>
        have : c = 45 := by simpa using h45
        rw [this]; rfl
    · cases h
  · split at h
    · rename_i hc
      obtain ⟨h1, h3⟩ := hc
      injection h with h
      obtain ⟨d1, d2⟩ := digs_val _ s (Nat.le_refl _) h1
      refine ⟨by omega, ?_⟩
      unfold txt
      rw [if_neg (by omega), show n.natAbs = val s by omega, d1]
    · cases h
theorem val_mono (l : List UInt8) : ∀ (i j : Nat), i ≤ j → val (l.take i) ≤ val (l.take j) := by
  intro i j h
  induction j with
  | zero => obtain rfl : i = 0 := by omega
            exact Nat.le_refl _
  | succ j ih =>
    by_cases he : i = j + 1
    · rw [he]; exact Nat.le_refl _
    · refine Nat.le_trans (ih (by omega)) ?_
      by_cases hj : j < l.length
      · rw [List.take_succ_eq_append_getElem hj, val_snoc]
        omega
      · rw [List.take_of_length_le (by omega), List.take_of_length_le (by omega)]
        exact Nat.le_refl _

def tk (s : List UInt8) : Nat → Int × Nat
  | 0 => (0, 0)
  | k + 1 => match prs (s.take (k + 1)) with
    | some m => (m, k + 1)
    | none => tk s k
def take (s : List UInt8) : Int × Nat := tk s (min s.length 20)
theorem tk_none (s : List UInt8) : ∀ k, (∀ j, j ≤ k → prs (s.take j) = none) → tk s k = (0, 0)
  | 0, _ => rfl
  | k + 1, h => by
    unfold tk
    rw [h (k + 1) (Nat.le_refl _)]
    exact tk_none s k (fun j hj => h j (by omega))
theorem tk_at (s : List UInt8) (i : Nat) (m : Int) (hm : prs (s.take i) = some m) : ∀ k, i ≤ k → (∀ j, i < j → j ≤ k → prs (s.take j) = none) → tk s k = (m, i)
  | 0, hi, _ => by
    obtain rfl : i = 0 := by omega
    simp [prs, canon] at hm
  | k + 1, hi, h => by
    by_cases he : i = k + 1
    · unfold tk
      rw [← he, hm]
    · unfold tk
      rw [h (k + 1) (by omega) (Nat.le_refl _)]
      exact tk_at s i m hm k (by omega) (fun j h1 h2 => h j h1 (by omega))
theorem prs_nil : prs [] = none := by simp [prs, canon]
theorem take_none {s : List UInt8} (h : ∀ j, j ≤ s.length → prs (s.take j) = none) : take s = (0, 0) := tk_none s _ (fun j hj => h j (by omega))
theorem prs_len {s : List UInt8} {m : Int} (h : prs s = some m) : s.length ≤ 20 := by
  obtain ⟨h1, rfl⟩ := prs_some h
  exact txt_len h1
theorem take_some {s : List UInt8} {i : Nat} {m : Int} (hi : i ≤ s.length) (hm : prs (s.take i) = some m) (h : ∀ j, i < j → j ≤ s.length → prs (s.take j) = none) : take s = (m, i) := by
  refine tk_at s i m hm _ ?_ (fun j h1 h2 => h j h1 (by omega))
  have := prs_len hm
  rw [List.length_take] at this
  omega
theorem canon_all {s : List UInt8} (h : canon s = true) : s ≠ [] ∧ ∀ x ∈ s, isD x = true := by
  cases s with
  | nil => cases h
  | cons c t => exact ⟨by simp, ((canon_iff c t).1 h).1⟩
theorem take_all (p : UInt8 → Bool) (l : List UInt8) (j : Nat) (hj : j ≤ l.length) (h : ∀ x ∈ l.take j, p x = true) : j ≤ (l.takeWhile p).length := by
  induction l generalizing j with
  | nil => simpa using hj
  | cons c t ih =>
    cases j with
    | zero => omega
    | succ j =>
      have hc : p c = true := h c (by simp)
      rw [List.takeWhile_cons_of_pos hc]
      have := ih j (by simpa using hj) (fun x hx => h x (by simp [hx]))
      simp; omega
theorem all_take (p : UInt8 → Bool) (l : List UInt8) (j : Nat) (hj : j ≤ (l.takeWhile p).length) : ∀ x ∈ l.take j, p x = true := by
  induction l generalizing j with
  | nil => simp
  | cons c t ih =>
    cases j with
    | zero => simp
    | succ j =>
      by_cases hc : p c = true
      · rw [List.takeWhile_cons_of_pos hc] at hj
        intro x hx
        rw [List.take_succ_cons, List.mem_cons] at hx
        rcases hx with rfl | hx
        · exact hc
        · exact ih j (by simpa using hj) x hx
      · rw [List.takeWhile_cons_of_neg hc] at hj
        simp at hj
theorem canon_take {l : List UInt8} {i : Nat} (hi : 1 ≤ i) (hil : i ≤ l.length) (hm : i ≤ (l.takeWhile isD).length) (h48 : l.head? ≠ some 48 ∨ i = 1) : canon (l.take i) = true := by
  cases l with
  | nil => simp at hil; omega
  | cons c t =>
    obtain ⟨i, rfl⟩ : ∃ k, i = k + 1 := ⟨i - 1, by omega⟩
    have ha := all_take isD (c :: t) (i + 1) hm
    rw [List.take_succ_cons] at ha ⊢
    rw [canon_iff]
    refine ⟨ha, fun e => ?_⟩
    rcases h48 with h | h
    · exact absurd (by rw [e]; rfl) h
    · obtain rfl : i = 0 := by omega
      simp
theorem take_pos {s : List UInt8} (h45 : s.head? ≠ some 45) :
    ((s.takeWhile isD).length = 0 → take s = (0, 0)) ∧ (0 < (s.takeWhile isD).length → s.head? = some 48 → take s = (0, 1)) ∧
    (∀ i, 1 ≤ i → i ≤ (s.takeWhile isD).length → s.head? ≠ some 48 → val (s.take i) ≤ 9223372036854775807 → (i = (s.takeWhile isD).length ∨ 9223372036854775807 < val (s.take (i + 1))) → take s = ((val (s.take i) : Int), i)) := by
  have hlen : (s.takeWhile isD).length ≤ s.length := by have := len_split isD s; omega
  have h45' : ∀ j, (s.take j).head? ≠ some 45 := by
    intro j
    cases s with
    | nil => simp
    | cons c t => cases j <;> simp_all
  have hp : ∀ j, prs (s.take j) = if canon (s.take j) = true ∧ val (s.take j) ≤ 9223372036854775807 then some (val (s.take j) : Int) else none := by
    intro j
    unfold prs
    rw [if_neg (h45' j)]
  have hno : ∀ j, j ≤ s.length → (s.takeWhile isD).length < j → prs (s.take j) = none := by
    intro j hj h
    rw [hp, if_neg]
    rintro ⟨hc, _⟩
    have := take_all isD s j hj (canon_all hc).2
    omega
  refine ⟨fun h0 => take_none (fun j hj => ?_), fun h0 h48 => ?_, fun i hi hm h48 hv hor => ?_⟩
  · cases j with
    | zero => exact prs_nil
    | succ j => exact hno _ hj (by omega)
  · have hc := canon_take (l := s) (i := 1) (by omega) (by omega) (by omega) (.inr rfl)
    have h1 : s.take 1 = [48] := by
      cases s with
      | nil => simp at h48
      | cons c t => simpa using h48
    refine take_some (by omega) ?_ (fun j h1 h2 => ?_)
    · rw [hp, if_pos ⟨hc, by rw [h1]; decide⟩, h1]; rfl
    · rw [hp, if_neg]
      rintro ⟨hc, _⟩
      cases s with
      | nil => simp at h48
      | cons c t =>
        obtain ⟨j, rfl⟩ : ∃ k, j = k + 2 := ⟨j - 2, by omega⟩
        rw [List.take_succ_cons] at hc
        have := ((canon_iff _ _).1 hc).2 (by simpa using h48)
        cases t with
        | nil => simp at h2
        | cons d r => simp at this
  · refine take_some (by omega) ?_ (fun j h1 h2 => ?_)
    · rw [hp, if_pos ⟨canon_take hi (by omega) hm (.inl h48), hv⟩]
    · by_cases hj : (s.takeWhile isD).length < j
      · exact hno j h2 hj
      · rw [hp, if_neg]
        rintro ⟨_, hv2⟩
        rcases hor with h | h
        · omega
        · have := val_mono s (i + 1) j (by omega)
          omega
theorem take_neg (t : List UInt8) :
    ((t.takeWhile isD).length = 0 → take (45 :: t) = (0, 0)) ∧ (t.head? = some 48 → take (45 :: t) = (0, 0)) ∧
    (∀ i, 1 ≤ i → i ≤ (t.takeWhile isD).length → t.head? ≠ some 48 → val (t.take i) ≤ 9223372036854775808 → (i = (t.takeWhile isD).length ∨ 9223372036854775808 < val (t.take (i + 1))) → take (45 :: t) = (-(val (t.take i) : Int), i + 1)) := by
  have hlen : (t.takeWhile isD).length ≤ t.length := by have := len_split isD t; omega
  have hp : ∀ j, prs ((45 :: t).take (j + 1)) = if canon (t.take j) = true ∧ t.take j ≠ [48] ∧ val (t.take j) ≤ 9223372036854775808 then some (-(val (t.take j) : Int)) else none := by
    intro j
    unfold prs
    rw [List.take_succ_cons, List.head?_cons, if_pos rfl, List.drop_succ_cons, List.drop_zero]
  have hno : ∀ j, j ≤ t.length → (t.takeWhile isD).length < j → prs ((45 :: t).take (j + 1)) = none := by
    intro j hj h
    rw [hp, if_neg]
    rintro ⟨hc, _⟩
    have := take_all isD t j hj (canon_all hc).2
    omega
  have h0' : prs ((45 :: t).take 0) = none := prs_nil
  have h1' : prs ((45 :: t).take 1) = none := by rw [hp, if_neg]; rintro ⟨hc, _⟩; simp [canon] at hc
  refine ⟨fun h0 => take_none (fun j hj => ?_), fun h48 => take_none (fun j hj => ?_), fun i hi hm h48 hv hor => ?_⟩
  · match j with
    | 0 => exact h0'
    | 1 => exact h1'
    | j + 2 => exact hno (j + 1) (by simpa using hj) (by omega)
  · match j with
    | 0 => exact h0'
    | 1 => exact h1'
    | j + 2 =>
      rw [hp, if_neg]
      rintro ⟨hc, hn, _⟩
      cases t with
      | nil => simp at h48
      | cons c r =>
        rw [List.take_succ_cons] at hc hn
        have he := ((canon_iff _ _).1 hc).2 (by simpa using h48)
        rw [he] at hn
        exact hn (by simpa using h48)
  · refine take_some (by simp; omega) ?_ (fun j h1 h2 => ?_)
    · have hc := canon_take hi (by omega) hm (.inl h48)
      have hn : t.take i ≠ [48] := by
        intro e
        apply h48
        cases t with
        | nil => simp at e
        | cons c r =>
          obtain ⟨i, rfl⟩ : ∃ k, i = k + 1 := ⟨i - 1, by omega⟩
          rw [List.take_succ_cons] at e
          injection e with e _
          rw [e]; rfl
      rw [hp, if_pos ⟨hc, hn, hv⟩]
    · obtain ⟨j, rfl⟩ : ∃ k, j = k + 1 := ⟨j - 1, by omega⟩
      by_cases hj : (t.takeWhile isD).length < j
      · exact hno j (by simpa using h2) hj
      · rw [hp, if_neg]
        rintro ⟨_, _, hv2⟩
        rcases hor with h | h
        · omega
        · have := val_mono t (i + 1) j (by omega)
          omega
theorem prs_take {s : List UInt8} : prs s = if (take s).2 ≠ 0 ∧ (take s).2 = s.length then some (take s).1 else none := by
  cases h : prs s with
  | some m =>
    have : take s = (m, s.length) := take_some (Nat.le_refl _) (by rw [List.take_length]; exact h) (fun j h1 h2 => by omega)
    rw [this, if_pos]
    refine ⟨fun e => ?_, rfl⟩
    have : s = [] := List.eq_nil_of_length_eq_zero e
    rw [this, prs_nil] at h
    cases h
  | none =>
    rw [if_neg]
    rintro ⟨h1, h2⟩
    have key : ∀ k, k ≤ s.length → (tk s k).2 = s.length → (tk s k).2 ≠ 0 → prs s ≠ none := by
      intro k
      induction k with
      | zero => intro _ _ h; exact absurd rfl h
      | succ k ih =>
        intro hk e1 e2
        unfold tk at e1 e2
        cases hq : prs (s.take (k + 1)) with
        | some m =>
          rw [hq] at e1
          simp only at e1
          rw [e1, List.take_length] at hq
          rw [hq]; simp
        | none =>
          rw [hq] at e1 e2
          exact ih (by omega) e1 e2
    exact key _ (Nat.min_le_left _ _) h2 h1 h

/-! lists -/
theorem cut_none (c : UInt8) (x : List UInt8) (h : c ∉ x) : ∀ cur, cut c cur x = [cur ++ x] := by
  induction x with
  | nil => intro cur; simp [cut]
  | cons b r ih =>
    intro cur
    have hb : ¬ b = c := fun e => h (by rw [e]; simp)
    simp only [cut, hb, if_false]
    rw [ih (fun e => h (by simp [e]))]
    simp
theorem cut_app (c : UInt8) (x t : List UInt8) (h : c ∉ x) : ∀ cur, cut c cur (x ++ c :: t) = (cur ++ x) :: cut c [] t := by
  induction x with
  | nil => intro cur; simp [cut]
  | cons b r ih =>
    intro cur
    have hb : ¬ b = c := fun e => h (by rw [e]; simp)
    simp only [List.cons_append, cut, hb, if_false]
    rw [ih (fun e => h (by simp [e]))]
    simp
theorem cut_ne (c : UInt8) (l : List UInt8) : ∀ cur, cut c cur l ≠ [] := by
  induction l with
  | nil => intro cur; simp [cut]
  | cons b t ih => intro cur; unfold cut; split; simp; exact ih _
end Go.Proofs.YtfnmggmgdmokcaaGreatDoor.De

/- Walks of numbers' texts: the reference's Text. -/
namespace Go.Proofs.YtfnmggmgdmokcaaGreatDoor.De
open Go.RowKit Go.Proofs.YtfnmggmgdmokcaaGreatDoor.Li

end Go.Proofs.YtfnmggmgdmokcaaGreatDoor.De

/- Walks of numbers' texts: the program's Text. -/
namespace Go.Proofs.YtfnmggmgdmokcaaGreatDoor.De
open Go.RowKit Go.Proofs.YtfnmggmgdmokcaaGreatDoor.Li

def vU (b : UInt8) : Value := .int .u8 (b.toNat : Int)
theorem fold_push (D : List UInt8) : ∀ r : ByteArray, (D.map fun b => (b.toNat : Int)).foldl (fun (r : ByteArray) (n : Int) => r.push (UInt8.ofNat n.toNat)) r = B (L r ++ D) := by
  induction D with
  | nil => intro r; rw [List.append_nil]; exact (B_L r).symm
  | cons b t ih =>
    intro r
    rw [List.map_cons, List.foldl_cons, ih]
    congr 1
    have : L (r.push (UInt8.ofNat ((b.toNat : Int)).toNat)) = L r ++ [b] := by
      simp [L, ByteArray.push]
    rw [this, List.append_assoc]
    rfl
theorem conv_bytes (W : World) (g k c : Nat) (D : List UInt8) (hc : ∀ j (h : j < D.length), W.cell? ⟨g, k + j, none⟩ = some (vU D[j])) : (convert 76 9 (.slice (some ⟨g, k, none⟩) D.length c)).run Tryz.prog W = .ok (vS D) W := by
  rw [run_convert_bytes_string W _ _ _ _ _ _ Tryz.underlying76 Tryz.underlying5 Tryz.underlying9, run_bytesToString W _ _ _ (D.map fun b => (b.toNat : Int)) ?_]
  · rw [fold_push]
    rfl
  · have := run_loadCells_list (P := Tryz.prog) W ⟨g, k, none⟩ ((D.map fun b => (b.toNat : Int)).map (Value.int .u8)) (fun j v hv => by
      have hadd : (⟨g, k, none⟩ : Addr).add j = ⟨g, k + j, none⟩ := by unfold Addr.add; split <;> simp_all
      rw [List.map_map] at hv
      obtain ⟨h1, h2⟩ := List.getElem?_eq_some_iff.1 hv
      rw [hadd, hc j (by simpa using h1), ← h2]
      simp [vU])
    simpa using this

section
variable {P : Program} {a : Act} {w : World} {Q : Exit → Act → World → Prop}
theorem jump_mono {l : Nat} {J J' : Act → World → Prop} (h : ∀ a w, J a w → J' a w) {e : Exit} {a : Act} {w : World} (q : Exit.jump l J Q e a w) : Exit.jump l J' Q e a w := by
  cases e with
  | goto l' => exact ⟨q.1, h _ _ q.2⟩
  | _ => exact q
theorem wp_scope_one {c x : Code} (l : Nat) (J : Act → World → Prop) (μ : Act → World → Nat) (hf : findLabel c l = some (Code.skip.seq x))
    (pass : ∀ a w, J a w → x.wp P (Exit.jump l (fun a' w' => J a' w' ∧ μ a' w' < μ a w) Q) a w)
    (first : Hid (∀ a w, J a w → x.wp P (Exit.jump l J Q) a w) → c.wp P (Exit.jump l J Q) a w) : (Code.scope c).wp P Q a w :=
  wp_scope_jumps l J μ hf (first (Lib.hid fun a w h => Code.wp_mono (fun _ _ _ q => jump_mono (fun _ _ x => x.1) q) (pass a w h))) (fun a w h => wp_seq (wp_skip (pass a w h)))
end
theorem slice20 (g p : Nat) (hp : p < 20) (W : World) : (Instr.sliceAt 75 (.pointer (some ⟨g, 0, none⟩)) (some (.int .i64 (p : Int))) none none).run Tryz.prog W = .ok (.slice (some ⟨g, p, none⟩) (20 - p) (20 - p)) W := by
  have he : Tryz.prog.elem 75 = 5 := by kernel_rfl
  have hl : Tryz.prog.arrayLen 75 = 20 := by kernel_rfl
  have hu : Tryz.prog.underlying 75 = some (.array (Tryz.prog.arrayLen 75) (Tryz.prog.elem 75)) := by rw [he, hl]; exact Tryz.underlying75
  rw [run_sliceAt_array_l W _ _ hu .i64 (p : Int) (by omega) (by rw [hl]; omega), he, hl, Tryz.sizeOf5 W]
  show Result.ok (slicedAt _ _ _ _ _) _ = _
  unfold slicedAt
  rw [Int.toNat_natCast, if_neg (by omega)]
  simp only [Nat.mul_one]
  have hadd : (⟨g, 0, none⟩ : Addr).add p = ⟨g, p, none⟩ := by unfold Addr.add; split <;> simp_all
  rw [hadd]
theorem conv_row (W : World) (g p : Nat) (arr : Array Value) (D : List UInt8) (hblk : W.heap[g]? = some (.cells arr 75 (0, 0))) (hs : arr.size = 20) (hl : D.length + p = 20) (hD : ∀ j (h : j < D.length), arr[p + j]? = some (vU D[j])) :
    (convert 76 9 (.slice (some ⟨g, p, none⟩) (20 - p) (20 - p))).run Tryz.prog W = .ok (vS D) W := by
  have := conv_bytes W g p (20 - p) D (fun j h => by
    have h1 := blk_cell hblk (p + j) (by omega)
    have h2 := hD j h
    rw [Array.getElem?_eq_getElem (by omega)] at h2
    rw [h1]; exact h2)
  rw [show D.length = 20 - p by omega] at this
  exact this
theorem Exit.jump_ret {l : Nat} {J : Act → World → Prop} {Q : Exit → Act → World → Prop} {a : Act} {w : World} : Exit.jump l J Q .ret a w = Q .ret a w := rfl
theorem frame34 {a : Act} (h : a.tmps.size = 34) (hd : a.defers = []) : ∃ u : Nat → Value, a = { tmps := #[u 0, u 1, u 2, u 3, u 4, u 5, u 6, u 7, u 8, u 9, u 10, u 11, u 12, u 13, u 14, u 15, u 16, u 17, u 18, u 19, u 20, u 21, u 22, u 23, u 24, u 25, u 26, u 27, u 28, u 29, u 30, u 31, u 32, u 33], defers := [] } ∧ ∀ n, a.tmps.getD n undef = u n := by
  refine ⟨fun n => a.tmps.getD n undef, ?_, fun _ => rfl⟩
  have h1 := arr_lit a.tmps h
  cases a with
  | mk t d =>
    simp only at hd h1
    subst hd
    congr 1
def TtJ (n : Int) (g : Nat) (w0 : World) (a : Act) (w' : World) : Prop :=
  a.tmps.size = 34 ∧ a.defers = [] ∧ a.tmps.getD 0 undef = .int .i64 n ∧ a.tmps.getD 3 undef = .pointer (some ⟨g, 0, none⟩) ∧ ∃ (at_ : Nat) (x : Int) (D : List UInt8) (arr : Array Value), a.tmps.getD 4 undef = .int .i64 at_ ∧ a.tmps.getD 5 undef = .int .i64 x ∧
    digs n.natAbs = digs x.natAbs ++ D ∧ D.length + at_ = 20 ∧ (x ≠ 0 ∨ at_ = 20) ∧ (-9223372036854775808 ≤ x ∧ x ≤ 9223372036854775807) ∧ w'.heap[g]? = some (.cells arr 75 (0, 0)) ∧ arr.size = 20 ∧
    (∀ j (h : j < D.length), arr[at_ + j]? = some (vU D[j])) ∧ Below g w0 w'
set_option maxHeartbeats 4000000 in
set_option maxRecDepth 100000 in
theorem text_any (n : Int) (hb : -9223372036854775808 ≤ n ∧ n ≤ 9223372036854775807) (w : World) : Calls Tryz.prog 18 #[.int .i64 n] w fun e w' => e = .returned (vS (txt n)) ∧ Below w.heap.size w w' := by
  obtain ⟨g, hg⟩ : ∃ g, w.heap.size = g := ⟨_, rfl⟩
  rw [hg]
  go_enter Tryz.func18, Tryz.ntmps18
  go_wp2_with fail
  refine wp_scope_one 0 (TtJ n g w) (fun a' _ => (intOf (a'.tmps.getD 5 undef)).natAbs) rfl ?_ ?_
  · rintro a' w' ⟨hsz, hdf, s0, s3, at_, x, D, arr, s4, s5, hdig, hlen, hx0, hxb, hblk, has, hD, hbel⟩
    obtain ⟨u, rfl, hu⟩ := frame34 hsz hdf
    rw [hu] at s0 s3 s4 s5
    simp only [s0, s3, s4, s5]
    clear hsz hdf s0 s3 s4 s5 hu
    have hl1 := digs_len 18 n.natAbs (by simp; omega)
    obtain ⟨c0, t0, hh, _⟩ := digs_head _ _ (Nat.le_refl x.natAbs)
    have hl2 : 1 ≤ (digs x.natAbs).length := by rw [hh]; simp
    have hl3 := congrArg List.length hdig
    rw [List.length_append] at hl3
    obtain ⟨p, rfl⟩ : ∃ p, at_ = p + 1 := ⟨at_ - 1, by omega⟩
    have hp1 : 1 ≤ p := by omega
    have hp2 : p < 20 := by omega
    clear hl1 hl2 hl3 hh
    have h1 : (x.tmod 10).natAbs = x.natAbs % 10 := by rw [Int.natAbs_tmod]; rfl
    have h2 : (x.tdiv 10).natAbs = x.natAbs / 10 := by rw [Int.natAbs_tdiv]; rfl
    have hw := IntWalk.i64_quo' x 10 ⟨hxb.1, hxb.2, by omega⟩
    have hd10 : x.natAbs % 10 < 10 := Nat.mod_lt _ (by omega)
    have hstep : Hid (digs n.natAbs = (if x.natAbs < 10 then [] else digs (x.natAbs / 10)) ++ (dg (x.natAbs % 10) :: D)) := Lib.hid (by
      rw [hdig]
      by_cases h : x.natAbs < 10
      · rw [if_pos h, digs_lt h, Nat.mod_eq_of_lt h]; rfl
      · rw [if_neg h, digs_ge (by omega), List.append_assoc]; rfl)
    have hqb : Hid (-9223372036854775808 ≤ x.tdiv 10 ∧ x.tdiv 10 ≤ 9223372036854775807) := Lib.hid (by omega)
    generalize hre : x.tmod 10 = r at *
    generalize hq : x.tdiv 10 = q at *
    generalize hm : x.natAbs % 10 = d at *
    have hu : Hid (Value.int .u8 (48 + (d : Int)) = vU (dg d)) := Lib.hid (by unfold vU; rw [dg_nat hd10]; rfl)
    obtain ⟨old, hcell⟩ : ∃ old, w'.cell? ⟨g, p, none⟩ = some old := ⟨_, blk_cell hblk p (by omega)⟩
    have hfree := blk_free hblk p
    have hblk2 := blk_set hblk p (vU (dg d))
    have hD2 : Hid (∀ j (h : j < (dg d :: D).length), (arr.setIfInBounds p (vU (dg d)))[p + j]? = some (vU (dg d :: D)[j])) := Lib.hid (by
      intro j hj
      cases j with
      | zero => simp [has, hp2]
      | succ j =>
        have := hD j (by simpa using hj)
        rw [Array.getElem?_setIfInBounds_ne (by omega), show p + (j + 1) = p + 1 + j by omega, this]
        rfl)
    have HB2 := Lib.hid hblk2
    have has2 : Hid ((arr.setIfInBounds p (vU (dg d))).size = 20) := Lib.hid (by simpa using has)
    have hlen2 : Hid ((dg d :: D).length + p = 20) := Lib.hid (by simp; omega)
    have HBel := Lib.hid (hbel.setCell (p := ⟨g, p, none⟩) (Nat.le_refl _) (vU (dg d)))
    have i1 : (d : Int) < 10 := by omega
    have i3 : (0 : Int) ≤ (d : Int) := by omega
    have i4 : (p : Int) < 20 := by omega
    have i5 : (1 : Int) ≤ (p : Int) := by omega
    clear hblk hblk2 hD hdig hbel hlen has
    by_cases hr : r < 0
    · obtain rfl : r = -(d : Int) := by omega
      by_cases hq0 : q = 0
      · subst hq0
        have hle : x.natAbs < 10 := by omega
        have hs3 := Lib.hid (show digs n.natAbs = dg d :: D by rw [hstep.out, if_pos hle]; rfl)
        clear h2 hm h1 hx0 hle hqb
        by_cases hn : n < 0
        · have ht := Lib.hid (show txt n = 45 :: dg d :: D by unfold txt; rw [if_pos hn, hs3.out])
          obtain ⟨p, rfl⟩ : ∃ p2, p = p2 + 1 := ⟨p - 1, by omega⟩
          obtain ⟨old2, hcell2⟩ : ∃ old, (w'.setCell ⟨g, p + 1, none⟩ (.int .u8 (48 + (d : Int)))).cell? ⟨g, p, none⟩ = some old := ⟨_, by rw [hu.out]; exact blk_cell HB2.out p (by rw [has2.out]; omega)⟩
          have hfree2 : (w'.setCell ⟨g, p + 1, none⟩ (.int .u8 (48 + (d : Int)))).frozen? ⟨g, p, none⟩ = false := by rw [hu.out]; exact blk_free HB2.out p
          have hblk3 : ((w'.setCell ⟨g, p + 1, none⟩ (.int .u8 (48 + (d : Int)))).setCell ⟨g, p, none⟩ (.int .u8 45)).heap[g]? = some (.cells ((arr.setIfInBounds (p + 1) (vU (dg d))).setIfInBounds p (.int .u8 45)) 75 (0, 0)) := by
            rw [hu.out]; exact blk_set HB2.out p _
          have hcv := conv_row _ g p _ (45 :: dg d :: D) hblk3 (by rw [Array.size_setIfInBounds]; exact has2.out) (by have := hlen2.out; simp only [List.length_cons] at this ⊢; omega) (fun j hj => by
            cases j with
            | zero =>
              show ((arr.setIfInBounds (p + 1) (vU (dg d))).setIfInBounds p (.int .u8 45))[p]? = some (.int .u8 45)
              rw [Array.getElem?_setIfInBounds_self_of_lt (by rw [has2.out]; omega)]
            | succ j => 
              have := hD2.out j (by simpa using hj)
              rw [Array.getElem?_setIfInBounds_ne (by omega), show p + (j + 1) = p + 1 + j by omega, this]
              rfl)
          have hsl := slice20 g p (by omega)
          have HB3 := Lib.hid (HBel.out.setCell (p := ⟨g, p, none⟩) (Nat.le_refl _) (.int .u8 45))
          have i6 : (0 : Int) ≤ (p : Int) := by omega
          clear hblk3
          go_wp2_with fail
          rw [Exit.jump_ret]
          go_ret
          exact ⟨by rw [ht.out]; rfl, by rw [hu.out]; exact HB3.out⟩
        · have ht := Lib.hid (show txt n = dg d :: D by unfold txt; rw [if_neg hn, hs3.out])
          have hblk3 : (w'.setCell ⟨g, p, none⟩ (.int .u8 (48 + (d : Int)))).heap[g]? = some (.cells (arr.setIfInBounds p (vU (dg d))) 75 (0, 0)) := by
            rw [hu.out]; exact HB2.out
          have hcv := conv_row _ g p _ (dg d :: D) hblk3 has2.out hlen2.out hD2.out
          have hsl := slice20 g p hp2
          clear hblk3
          go_wp2_with fail
          rw [Exit.jump_ret]
          go_ret
          exact ⟨by rw [ht.out]; rfl, by rw [hu.out]; exact HBel.out⟩
      · have q0 := ibne hq0
        have hge : ¬ x.natAbs < 10 := by intro h; apply hq0; omega
        have hs3 := Lib.hid (show digs n.natAbs = digs q.natAbs ++ (dg d :: D) by rw [hstep.out, if_neg hge, h2])
        have hme : q.natAbs < x.natAbs := by omega
        clear h2 hm h1 hx0 hge
        go_wp2_with fail
        go_step3
        rw [hu.out]
        exact ⟨rfl, ⟨rfl, rfl, rfl, rfl, p, q, dg d :: D, _, rfl, rfl, hs3.out, hlen2.out, .inl hq0, hqb.out, HB2.out, has2.out, hD2.out, HBel.out⟩, by simpa [intOf] using hme⟩
    · obtain rfl : r = (d : Int) := by omega
      by_cases hq0 : q = 0
      · subst hq0
        have hle : x.natAbs < 10 := by omega
        have hs3 := Lib.hid (show digs n.natAbs = dg d :: D by rw [hstep.out, if_pos hle]; rfl)
        clear h2 hm h1 hx0 hle hqb
        by_cases hn : n < 0
        · have ht := Lib.hid (show txt n = 45 :: dg d :: D by unfold txt; rw [if_pos hn, hs3.out])
          obtain ⟨p, rfl⟩ : ∃ p2, p = p2 + 1 := ⟨p - 1, by omega⟩
          obtain ⟨old2, hcell2⟩ : ∃ old, (w'.setCell ⟨g, p + 1, none⟩ (.int .u8 (48 + (d : Int)))).cell? ⟨g, p, none⟩ = some old := ⟨_, by rw [hu.out]; exact blk_cell HB2.out p (by rw [has2.out]; omega)⟩
          have hfree2 : (w'.setCell ⟨g, p + 1, none⟩ (.int .u8 (48 + (d : Int)))).frozen? ⟨g, p, none⟩ = false := by rw [hu.out]; exact blk_free HB2.out p
          have hblk3 : ((w'.setCell ⟨g, p + 1, none⟩ (.int .u8 (48 + (d : Int)))).setCell ⟨g, p, none⟩ (.int .u8 45)).heap[g]? = some (.cells ((arr.setIfInBounds (p + 1) (vU (dg d))).setIfInBounds p (.int .u8 45)) 75 (0, 0)) := by
            rw [hu.out]; exact blk_set HB2.out p _
          have hcv := conv_row _ g p _ (45 :: dg d :: D) hblk3 (by rw [Array.size_setIfInBounds]; exact has2.out) (by have := hlen2.out; simp only [List.length_cons] at this ⊢; omega) (fun j hj => by
            cases j with
            | zero =>
              show ((arr.setIfInBounds (p + 1) (vU (dg d))).setIfInBounds p (.int .u8 45))[p]? = some (.int .u8 45)
              rw [Array.getElem?_setIfInBounds_self_of_lt (by rw [has2.out]; omega)]
            | succ j => 
              have := hD2.out j (by simpa using hj)
              rw [Array.getElem?_setIfInBounds_ne (by omega), show p + (j + 1) = p + 1 + j by omega, this]
              rfl)
          have hsl := slice20 g p (by omega)
          have HB3 := Lib.hid (HBel.out.setCell (p := ⟨g, p, none⟩) (Nat.le_refl _) (.int .u8 45))
          have i6 : (0 : Int) ≤ (p : Int) := by omega
          clear hblk3
          go_wp2_with fail
          rw [Exit.jump_ret]
          go_ret
          exact ⟨by rw [ht.out]; rfl, by rw [hu.out]; exact HB3.out⟩
        · have ht := Lib.hid (show txt n = dg d :: D by unfold txt; rw [if_neg hn, hs3.out])
          have hblk3 : (w'.setCell ⟨g, p, none⟩ (.int .u8 (48 + (d : Int)))).heap[g]? = some (.cells (arr.setIfInBounds p (vU (dg d))) 75 (0, 0)) := by
            rw [hu.out]; exact HB2.out
          have hcv := conv_row _ g p _ (dg d :: D) hblk3 has2.out hlen2.out hD2.out
          have hsl := slice20 g p hp2
          clear hblk3
          go_wp2_with fail
          rw [Exit.jump_ret]
          go_ret
          exact ⟨by rw [ht.out]; rfl, by rw [hu.out]; exact HBel.out⟩
      · have q0 := ibne hq0
        have hge : ¬ x.natAbs < 10 := by intro h; apply hq0; omega
        have hs3 := Lib.hid (show digs n.natAbs = digs q.natAbs ++ (dg d :: D) by rw [hstep.out, if_neg hge, h2])
        have hme : q.natAbs < x.natAbs := by omega
        clear h2 hm h1 hx0 hge
        go_wp2_with fail
        go_step3
        rw [hu.out]
        exact ⟨rfl, ⟨rfl, rfl, rfl, rfl, p, q, dg d :: D, _, rfl, rfl, hs3.out, hlen2.out, .inl hq0, hqb.out, HB2.out, has2.out, hD2.out, HBel.out⟩, by simpa [intOf] using hme⟩
  · intro hmore
    go_wp2_with fail
    go_step3
    rename_i hK
    refine hK _ _ ?_
    exact hmore.out _ _ ⟨rfl, rfl, rfl, rfl, 20, n, [], _, rfl, rfl, (List.append_nil _).symm, rfl, .inr rfl, hb, by rw [← hg]; exact blk_new _ _, rfl, by simp, by rw [← hg]; exact below_new _ _⟩
end Go.Proofs.YtfnmggmgdmokcaaGreatDoor.De

