/- Picks and their texts, as Lean lists: what the reference tells. -/
import Derived.Test.YtcfdphfochfeoaaDoorDeP
namespace Go.Proofs.YtcfdphfochfeoaaDoor.Pi
open Go.Proofs.YtcfdphfochfeoaaDoor.Li Go.Proofs.YtcfdphfochfeoaaDoor.De

structure Pk where
  th : Int
  want : Int
deriving DecidableEq
/-- The letters: step, lock, unlock, read lock, value. -/
def lets : List UInt8 := [115, 108, 117, 114, 118]
def wantOf (c : UInt8) : Option Nat := if c = 115 then some 0 else if c = 108 then some 1 else if c = 117 then some 2 else if c = 114 then some 3 else if c = 118 then some 4 else none
theorem wantOf_some {c : UInt8} {k : Nat} (h : wantOf c = some k) : k < 5 ∧ lets.getD k 0 = c ∧ isD c = false ∧ c ≠ 45 ∧ nb c = false ∧ c ≠ 10 := by
  unfold wantOf at h
  split at h
  · rename_i e; injection h with h; subst h; subst e; decide
  split at h
  · rename_i e; injection h with h; subst h; subst e; decide
  split at h
  · rename_i e; injection h with h; subst h; subst e; decide
  split at h
  · rename_i e; injection h with h; subst h; subst e; decide
  split at h
  · rename_i e; injection h with h; subst h; subst e; decide
  cases h
theorem wantOf_lets : ∀ k, k < 5 → wantOf (lets.getD k 0) = some k := by decide
def okP (p : Pk) : Prop := (-9223372036854775808 ≤ p.th ∧ p.th ≤ 9223372036854775807) ∧ -9223372036854775808 ≤ p.want ∧ p.want ≤ 9223372036854775807
def wordP (p : Pk) : List UInt8 := txt p.th ++ [lets.getD p.want.toNat 0]
def goodP (p : Pk) : Bool := decide (0 ≤ p.want) && decide (p.want ≤ 4)
/-- Words with a blank between. -/
def js : List (List UInt8) → List UInt8
  | [] => []
  | [x] => x
  | x :: y :: r => x ++ 32 :: js (y :: r)
theorem js_cons (x : List UInt8) (r : List (List UInt8)) (h : r ≠ []) : js (x :: r) = x ++ 32 :: js r := by
  cases r with
  | nil => exact absurd rfl h
  | cons y t => rfl
theorem js_snoc (ls : List (List UInt8)) (x : List UInt8) (h : ls ≠ []) : js (ls ++ [x]) = js ls ++ 32 :: x := by
  induction ls with
  | nil => exact absurd rfl h
  | cons y r ih =>
    cases r with
    | nil => rfl
    | cons z t =>
      rw [List.cons_append, js_cons y _ (by simp), ih (by simp), js_cons y (z :: t) (by simp), List.append_assoc]
      rfl
def textP (l : List Pk) : List UInt8 × Int := if l.all goodP then (js (l.map wordP), 0) else ([], 1)
/-- A word's pick. -/
def oneP (w : List UInt8) : Option Pk := match prs (w.take (w.length - 1)), wantOf (w.getD (w.length - 1) 0) with
  | some n, some k => some ⟨n, k⟩
  | _, _ => none
def prsP : List (List UInt8) → Nat → List Pk → List Pk × Nat × Int
  | [], _, out => (out, 0, 0)
  | w :: r, i, out => match oneP w with
    | none => ([], i, 2)
    | some p => prsP r (i + 1) (out ++ [p])
def allW (s : List UInt8) : List (List UInt8) := (lines s).flatMap words
def parseP (s : List UInt8) : List Pk × Nat × Int := prsP (allW s) 0 []

/-! a word -/
theorem tk_val (s : List UInt8) : ∀ k, (tk s k).2 ≠ 0 → prs (s.take (tk s k).2) = some (tk s k).1
  | 0, h => absurd rfl h
  | k + 1, h => by
    unfold tk at h ⊢
    cases hp : prs (s.take (k + 1)) with
    | some m => exact hp
    | none =>
      rw [hp] at h
      exact tk_val s k h
theorem word_last {w : List UInt8} (h : w ≠ []) : w = w.take (w.length - 1) ++ [w.getD (w.length - 1) 0] := by
  have hl : 0 < w.length := List.length_pos_iff.2 h
  have := List.take_succ_eq_append_getElem (l := w) (i := w.length - 1) (by omega)
  rw [show w.length - 1 + 1 = w.length by omega, List.take_length] at this
  rw [getD_at' (by omega)]
  exact this
where getD_at' {l : List UInt8} {j : Nat} (h : j < l.length) : l.getD j 0 = l[j] := by simp only [List.getD, List.getElem?_eq_getElem h, Option.getD_some]
theorem letter_no {c : UInt8} (h : isD c = false) (h45 : c ≠ 45) (t : List UInt8) : prs (t ++ [c]) = none := by
  cases hp : prs (t ++ [c]) with
  | none => rfl
  | some m =>
    exfalso
    obtain ⟨_, he⟩ := prs_some hp
    have hm : c ∈ txt m := by rw [← he]; simp
    unfold txt at hm
    have hd := (canon_all (digs_canon m.natAbs)).2
    split at hm
    · rcases List.mem_cons.1 hm with e | e
      · exact h45 e
      · rw [hd c e] at h; cases h
    · rw [hd c hm] at h; cases h
/-- The program's 'one': it takes the number first. -/
theorem one_take {w : List UInt8} (h : w ≠ []) :
    ((take w).2 = 0 → oneP w = none) ∧ ((take w).2 ≠ w.length - 1 → oneP w = none) ∧
    ((take w).2 ≠ 0 → (take w).2 = w.length - 1 → oneP w = match wantOf (w.getD (w.length - 1) 0) with | some k => some ⟨(take w).1, k⟩ | none => none) := by
  have hl : 0 < w.length := List.length_pos_iff.2 h
  have key : ∀ n k, prs (w.take (w.length - 1)) = some n → wantOf (w.getD (w.length - 1) 0) = some k → take w = (n, w.length - 1) := by
    intro n k h1 h2
    obtain ⟨_, _, h3, h4, _⟩ := wantOf_some h2
    refine take_some (by omega) h1 (fun j j1 j2 => ?_)
    obtain rfl : j = w.length := by omega
    rw [List.take_length, word_last h]
    exact letter_no h3 h4 _
  have hne : ∀ n, prs (w.take (w.length - 1)) = some n → w.length - 1 ≠ 0 := by
    intro n h1 e
    rw [e, List.take_zero, prs_nil] at h1
    cases h1
  refine ⟨fun h0 => ?_, fun h0 => ?_, fun h0 h1 => ?_⟩
  · unfold oneP
    cases hp : prs (w.take (w.length - 1)) with
    | none => rfl
    | some n =>
      cases hq : wantOf (w.getD (w.length - 1) 0) with
      | none => rfl
      | some k =>
        have := key n k hp hq
        rw [this] at h0
        exact absurd h0 (hne n hp)
  · unfold oneP
    cases hp : prs (w.take (w.length - 1)) with
    | none => rfl
    | some n =>
      cases hq : wantOf (w.getD (w.length - 1) 0) with
      | none => rfl
      | some k =>
        have := key n k hp hq
        rw [this] at h0
        exact absurd rfl h0
  · have := tk_val w (min w.length 20) h0
    change prs (w.take (take w).2) = some (take w).1 at this
    rw [h1] at this
    unfold oneP
    rw [this]
    cases wantOf (w.getD (w.length - 1) 0) <;> rfl
theorem one_word {p : Pk} (hp : okP p) (hg : goodP p = true) : oneP (wordP p) = some p := by
  unfold goodP at hg
  simp only [Bool.and_eq_true, decide_eq_true_eq] at hg
  have hlen : (wordP p).length - 1 = (txt p.th).length := by unfold wordP; simp
  unfold oneP
  rw [hlen]
  unfold wordP
  rw [List.take_left' rfl, prs_txt hp.1]
  have : (txt p.th ++ [lets.getD p.want.toNat 0]).getD (txt p.th).length 0 = lets.getD p.want.toNat 0 := by
    simp [List.getD]
  rw [this, wantOf_lets _ (by omega)]
  show some (Pk.mk p.th (p.want.toNat : Int)) = some p
  rw [Int.toNat_of_nonneg hg.1]
theorem word_one {w : List UInt8} (h : w ≠ []) {p : Pk} (hp : oneP w = some p) : wordP p = w ∧ okP p ∧ goodP p = true := by
  unfold oneP at hp
  cases h1 : prs (w.take (w.length - 1)) with
  | none => rw [h1] at hp; cases hp
  | some n =>
    rw [h1] at hp
    cases h2 : wantOf (w.getD (w.length - 1) 0) with
    | none => rw [h2] at hp; cases hp
    | some k =>
      rw [h2] at hp
      injection hp with hp
      subst hp
      obtain ⟨b, e⟩ := prs_some h1
      obtain ⟨k5, e2, _⟩ := wantOf_some h2
      refine ⟨?_, ⟨b, by show -9223372036854775808 ≤ (k : Int); omega, by show (k : Int) ≤ 9223372036854775807; omega⟩, by unfold goodP; simp; omega⟩
      unfold wordP
      rw [← e, Int.toNat_natCast, e2]
      exact (word_last h).symm

/-! the words of a text -/
theorem word_no {p : Pk} (hg : goodP p = true) : ∀ c ∈ wordP p, nb c = false ∧ c ≠ 10 := by
  unfold goodP at hg
  simp only [Bool.and_eq_true, decide_eq_true_eq] at hg
  have hdig : ∀ c, isD c = true → nb c = false ∧ c ≠ 10 := by
    intro c h
    rw [isD_iff] at h
    refine ⟨?_, fun e => by subst e; exact absurd h.1 (by decide)⟩
    rw [nb_nat]
    unfold nbR
    simp
    omega
  intro c hc
  unfold wordP at hc
  rcases List.mem_append.1 hc with h | h
  · unfold txt at h
    have hd := (canon_all (digs_canon p.th.natAbs)).2
    split at h
    · rcases List.mem_cons.1 h with e | e
      · subst e; decide
      · exact hdig c (hd c e)
    · exact hdig c (hd c h)
  · rw [List.mem_singleton] at h
    obtain ⟨_, _, _, _, h5, h6⟩ := wantOf_some (wantOf_lets p.want.toNat (by omega))
    rw [h]
    exact ⟨h5, h6⟩
theorem word_ne (p : Pk) : wordP p ≠ [] := by unfold wordP; simp
theorem tw_all {p : UInt8 → Bool} {x t : List UInt8} (h : ∀ c ∈ x, p c = true) : (x ++ t).takeWhile p = x ++ t.takeWhile p ∧ (x ++ t).dropWhile p = t.dropWhile p := by
  induction x with
  | nil => exact ⟨rfl, rfl⟩
  | cons b r ih =>
    have hb := h b (by simp)
    obtain ⟨i1, i2⟩ := ih (fun c hc => h c (by simp [hc]))
    rw [List.cons_append, List.takeWhile_cons_of_pos hb, List.dropWhile_cons_of_pos hb, i1, i2]
    exact ⟨rfl, rfl⟩
theorem dw_no {p : UInt8 → Bool} {x t : List UInt8} (hx : x ≠ []) (h : ∀ c ∈ x, p c = false) : (x ++ t).dropWhile p = x ++ t := by
  cases x with
  | nil => exact absurd rfl hx
  | cons b r => rw [List.cons_append, List.dropWhile_cons_of_neg (by rw [h b (by simp)]; simp)]
theorem words_nil : words [] = [] := rfl
theorem words_blank (t : List UInt8) : words (32 :: t) = words t := by
  rw [words_fl, words_fl]
  rfl
theorem words_js (ls : List (List UInt8)) (hne : ∀ x ∈ ls, x ≠ []) (h : ∀ x ∈ ls, ∀ c ∈ x, nb c = false) : words (js ls) = ls := by
  induction ls with
  | nil => rfl
  | cons x r ih =>
    have hx := hne x (by simp)
    have hb := h x (by simp)
    have ihr := ih (fun y hy => hne y (by simp [hy])) (fun y hy => h y (by simp [hy]))
    have hh : ∀ t, (t = [] ∨ ∃ u, t = 32 :: u) → headW (x ++ t) = x ∧ headR (x ++ t) = t := by
      intro t ht
      unfold headW headR
      rw [dw_no hx hb]
      obtain ⟨a1, a2⟩ := tw_all (p := fun c => !nb c) (x := x) (t := t) (fun c hc => by simp [hb c hc])
      rw [a1, a2]
      rcases ht with rfl | ⟨u, rfl⟩
      · simp
      · have h32 : nb 32 = true := by decide
        simp [h32]
    cases r with
    | nil =>
      obtain ⟨b1, b2⟩ := hh [] (.inl rfl)
      rw [List.append_nil] at b1 b2
      rw [js, words_head, b1, if_neg hx, b2, words_nil]
    | cons y t =>
      obtain ⟨b1, b2⟩ := hh (32 :: js (y :: t)) (.inr ⟨_, rfl⟩)
      rw [js, words_head, b1, if_neg hx, b2, words_blank, ihr]
theorem rl_plain (l : List UInt8) (h : (10 : UInt8) ∉ l) : ∀ cur, rl cur l = if cur ++ l = [] then [] else [cur ++ l] := by
  induction l with
  | nil => intro cur; unfold rl; rw [List.append_nil]
  | cons b t ih =>
    intro cur
    have hb : ¬ b = 10 := fun e => h (by rw [e]; simp)
    simp only [rl, hb, if_false]
    rw [ih (fun e => h (by simp [e]))]
    simp
theorem mem_js {ls : List (List UInt8)} {c : UInt8} (h : c ∈ js ls) : c = 32 ∨ ∃ x ∈ ls, c ∈ x := by
  induction ls with
  | nil => cases h
  | cons x r ih =>
    by_cases hr : r = []
    · subst hr; exact .inr ⟨x, by simp, h⟩
    · rw [js_cons _ _ hr, List.mem_append, List.mem_cons] at h
      rcases h with h | h | h
      · exact .inr ⟨x, by simp, h⟩
      · exact .inl h
      · rcases ih h with e | ⟨y, hy, e⟩
        · exact .inl e
        · exact .inr ⟨y, by simp [hy], e⟩
theorem allW_js (ls : List (List UInt8)) (hne : ∀ x ∈ ls, x ≠ []) (h : ∀ x ∈ ls, ∀ c ∈ x, nb c = false ∧ c ≠ 10) : allW (js ls) = ls := by
  have h10 : (10 : UInt8) ∉ js ls := by
    intro e
    rcases mem_js e with e | ⟨x, hx, e⟩
    · exact absurd e (by decide)
    · exact (h x hx 10 e).2 rfl
  have hw := words_js ls hne (fun x hx c hc => (h x hx c hc).1)
  unfold allW lines
  rw [rl_plain _ h10, List.nil_append]
  by_cases h0 : js ls = []
  · rw [if_pos h0, ← hw, h0]; rfl
  · rw [if_neg h0]
    simp [hw]
theorem prsP_words (l : List Pk) (hok : ∀ p ∈ l, okP p) (hg : ∀ p ∈ l, goodP p = true) : ∀ i out, prsP (l.map wordP) i out = (out ++ l, 0, 0) := by
  induction l with
  | nil => intro i out; simp [prsP]
  | cons p r ih =>
    intro i out
    rw [List.map_cons, prsP, one_word (hok p (by simp)) (hg p (by simp))]
    simp only
    rw [ih (fun q hq => hok q (by simp [hq])) (fun q hq => hg q (by simp [hq]))]
    simp
/-- Picks come back from their text. -/
theorem parse_text (l : List Pk) (hok : ∀ p ∈ l, okP p) (hg : l.all goodP = true) : parseP (textP l).1 = (l, 0, 0) := by
  rw [List.all_eq_true] at hg
  unfold textP parseP
  rw [if_pos (List.all_eq_true.2 hg)]
  show prsP (allW (js (l.map wordP))) 0 [] = _
  rw [allW_js, prsP_words l hok hg]
  · rfl
  · intro x hx
    obtain ⟨p, _, rfl⟩ := List.mem_map.1 hx
    exact word_ne p
  · intro x hx
    obtain ⟨p, hp, rfl⟩ := List.mem_map.1 hx
    exact word_no (hg p hp)
theorem fl_ne (l : List UInt8) : ∀ o : Option (List UInt8), (∀ w, o = some w → w ≠ []) → ∀ x ∈ fl o l, x ≠ [] := by
  induction l with
  | nil =>
    intro o ho x hx
    cases o with
    | none => cases hx
    | some w => simp [fl] at hx; subst hx; exact ho _ rfl
  | cons b t ih =>
    intro o ho x hx
    cases o with
    | none =>
      unfold fl at hx
      split at hx
      · exact ih none (by simp) x hx
      · exact ih (some [b]) (by simp) x hx
    | some w =>
      unfold fl at hx
      split at hx
      · rcases List.mem_cons.1 hx with e | e
        · subst e; exact ho _ rfl
        · exact ih none (by simp) x e
      · exact ih (some (w ++ [b])) (by simp) x hx
theorem words_ne (l : List UInt8) : ∀ x ∈ words l, x ≠ [] := by rw [words_fl]; exact fl_ne l none (by simp)
theorem allW_ne (s : List UInt8) : ∀ x ∈ allW s, x ≠ [] := by
  intro x hx
  obtain ⟨l, _, hl⟩ := List.mem_flatMap.1 hx
  exact words_ne l x hl
theorem prsP_ok : ∀ (W : List (List UInt8)) (i : Nat) (out : List Pk), (∀ x ∈ W, x ≠ []) → (∃ l : List Pk, prsP W i out = (out ++ l, 0, 0) ∧ l.map wordP = W ∧ (∀ p ∈ l, okP p ∧ goodP p = true)) ∨ ∃ j, prsP W i out = ([], j, 2)
  | [], i, out, _ => .inl ⟨[], by simp [prsP], rfl, by simp⟩
  | w :: r, i, out, h => by
    unfold prsP
    cases h1 : oneP w with
    | none => exact .inr ⟨i, rfl⟩
    | some p =>
      obtain ⟨e1, e2, e3⟩ := word_one (h w (by simp)) h1
      rcases prsP_ok r (i + 1) (out ++ [p]) (fun x hx => h x (by simp [hx])) with ⟨l, h2, h3, h4⟩ | ⟨j, h2⟩
      · refine .inl ⟨p :: l, by simp only; rw [h2]; simp, by rw [List.map_cons, e1, h3], ?_⟩
        intro q hq
        rcases List.mem_cons.1 hq with rfl | hq
        · exact ⟨e2, e3⟩
        · exact h4 q hq
      · exact .inr ⟨j, h2⟩
/-! how long -/
def wsum (ls : List (List UInt8)) : Nat := (ls.map fun x => x.length + 1).sum
theorem js_len (ls : List (List UInt8)) : (js ls).length ≤ wsum ls := by
  induction ls with
  | nil => exact Nat.le_refl _
  | cons x r ih =>
    by_cases hr : r = []
    · subst hr; simp [js, wsum]
    · rw [js_cons _ _ hr, List.length_append, List.length_cons]
      unfold wsum at ih ⊢
      rw [List.map_cons, List.sum_cons]
      omega
theorem wsum_app (a b : List (List UInt8)) : wsum (a ++ b) = wsum a + wsum b := by simp [wsum]
theorem fl_sum (l : List UInt8) : ∀ o : Option (List UInt8), wsum (fl o l) ≤ l.length + 1 + (match o with | none => 0 | some w => w.length) := by
  induction l with
  | nil =>
    intro o
    cases o with
    | none => simp [fl, wsum]
    | some w => simp [fl, wsum]; omega
  | cons b t ih =>
    intro o
    cases o with
    | none =>
      unfold fl
      split
      · have := ih none; simp at this ⊢; omega
      · have := ih (some [b]); simp at this ⊢; omega
    | some w =>
      unfold fl
      split
      · have := ih none
        simp only [wsum, List.map_cons, List.sum_cons, List.length_cons] at this ⊢
        omega
      · have := ih (some (w ++ [b])); simp at this ⊢; omega
theorem words_sum (l : List UInt8) : wsum (words l) ≤ l.length + 1 := by rw [words_fl]; exact fl_sum l none
theorem rl_sum (l : List UInt8) : ∀ cur, wsum (rl cur l) ≤ cur.length + l.length + 1 := by
  induction l with
  | nil => intro cur; unfold rl; split <;> simp [wsum]
  | cons b t ih =>
    intro cur
    unfold rl
    split
    · have := ih []
      simp only [wsum, List.map_cons, List.sum_cons, List.length_cons, List.length_nil] at this ⊢
      omega
    · have := ih (cur ++ [b]); simp at this ⊢; omega
theorem all_sum (ls : List (List UInt8)) : wsum (ls.flatMap words) ≤ wsum ls := by
  induction ls with
  | nil => exact Nat.le_refl _
  | cons x r ih =>
    rw [List.flatMap_cons, wsum_app]
    have := words_sum x
    have h : wsum (x :: r) = x.length + 1 + wsum r := by simp [wsum]
    omega
theorem allW_sum (s : List UInt8) : wsum (allW s) ≤ s.length + 1 := by
  have h1 := all_sum (lines s)
  have h2 := rl_sum s []
  unfold allW lines at *
  simp at h2
  omega
theorem wsum_len (ls : List (List UInt8)) : ls.length ≤ wsum ls := by
  induction ls with
  | nil => exact Nat.le_refl _
  | cons x r ih => simp only [wsum, List.map_cons, List.sum_cons, List.length_cons] at *; omega
theorem js_lt {ls : List (List UInt8)} (h : ls ≠ []) : (js ls).length + 1 ≤ wsum ls := by
  induction ls with
  | nil => exact absurd rfl h
  | cons x r ih =>
    by_cases hr : r = []
    · subst hr; simp [js, wsum]
    · have := ih hr
      rw [js_cons _ _ hr, List.length_append, List.length_cons]
      simp only [wsum, List.map_cons, List.sum_cons] at *
      omega
/-- What Parse comes to. -/
theorem parse_cases (s : List UInt8) : (∃ l : List Pk, parseP s = (l, 0, 0) ∧ textP l = (js (allW s), 0) ∧ (∀ p ∈ l, okP p ∧ goodP p = true) ∧ l.length ≤ s.length + 1 ∧ (js (allW s)).length ≤ s.length) ∨ ∃ j, parseP s = ([], j, 2) ∧ j ≤ s.length + 1 := by
  have hs := allW_sum s
  have hn := wsum_len (allW s)
  rcases prsP_ok (allW s) 0 [] (allW_ne s) with ⟨l, h1, h2, h3⟩ | ⟨j, h⟩
  · left
    rw [List.nil_append] at h1
    have hl : l.length = (allW s).length := by rw [← h2, List.length_map]
    refine ⟨l, h1, ?_, h3, by omega, ?_⟩
    · unfold textP
      rw [if_pos (List.all_eq_true.2 fun p hp => (h3 p hp).2), h2]
    · by_cases h0 : allW s = []
      · rw [h0]; exact Nat.zero_le _
      · have := js_lt h0; omega
  · right
    refine ⟨j, h, ?_⟩
    have key : ∀ (W : List (List UInt8)) (i : Nat) (out : List Pk) j, prsP W i out = ([], j, 2) → j ≤ i + W.length := by
      intro W
      induction W with
      | nil => intro i out j h; simp [prsP] at h
      | cons w r ih =>
        intro i out j h
        unfold prsP at h
        cases h1 : oneP w with
        | none => rw [h1] at h; simp at h; simp; omega
        | some p =>
          rw [h1] at h
          have := ih _ _ _ h
          simp; omega
    have := key _ _ _ _ h
    omega
end Go.Proofs.YtcfdphfochfeoaaDoor.Pi
