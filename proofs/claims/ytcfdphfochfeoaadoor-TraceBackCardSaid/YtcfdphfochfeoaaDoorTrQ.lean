/- Events and their texts: whole texts. -/
import Derived.Test.YtcfdphfochfeoaaDoorTrP
namespace Go.Proofs.YtcfdphfochfeoaaDoor.Tr
open Go.Proofs.YtcfdphfochfeoaaDoor.Li Go.Proofs.YtcfdphfochfeoaaDoor.De Go.Proofs.YtcfdphfochfeoaaDoor.Pi

def prsE : List (List UInt8) → Nat → List Ev → List Ev × Nat × Int
  | [], _, out => (out, 0, 0)
  | w :: r, i, out => match refE w with
    | none => ([], i, 2)
    | some p => prsE r (i + 1) (out ++ [p])
def parseE (s : List UInt8) : List Ev × Nat × Int := prsE (allW s) 0 []
theorem word_no (e : Ev) (hg : goodE e = true) : ∀ c ∈ wordE e, nb c = false ∧ c ≠ 10 := by
  have hgg := (good_iff e).1 hg
  have hln := lets_no e.kind.toNat (by omega)
  intro c hc
  unfold wordE tailE at hc
  rcases List.mem_cons.1 hc with h | h
  · rw [h]; exact hln.2
  · rcases List.mem_append.1 h with h | h
    · exact (txt_no _ c h).2.2
    · rcases List.mem_append.1 h with h | h
      · cases hr : e.rd with
        | true => rw [hr] at h; simp at h; subst h; decide
        | false => rw [hr] at h; simp at h
      · by_cases h0 : e.ct = 0
        · rw [if_pos h0] at h; cases h
        · rw [if_neg h0] at h
          rcases List.mem_cons.1 h with h | h
          · subst h; decide
          · exact (txt_no _ c h).2.2
theorem word_ne (e : Ev) : wordE e ≠ [] := by unfold wordE; simp
theorem prsE_words (l : List Ev) (hok : ∀ p ∈ l, okE p) (hg : ∀ p ∈ l, goodE p = true) : ∀ i out, prsE (l.map wordE) i out = (out ++ l, 0, 0) := by
  induction l with
  | nil => intro i out; simp [prsE]
  | cons p r ih =>
    intro i out
    rw [List.map_cons, prsE, ref_of ⟨hok p (by simp), hg p (by simp), rfl⟩]
    simp only
    rw [ih (fun q hq => hok q (by simp [hq])) (fun q hq => hg q (by simp [hq]))]
    simp
theorem parse_text (l : List Ev) (hok : ∀ p ∈ l, okE p) (hg : l.all goodE = true) : parseE (textE l).1 = (l, 0, 0) := by
  rw [List.all_eq_true] at hg
  unfold textE parseE
  rw [if_pos (List.all_eq_true.2 hg)]
  show prsE (allW (js (l.map wordE))) 0 [] = _
  rw [allW_js, prsE_words l hok hg]
  · rfl
  · intro x hx
    obtain ⟨p, _, rfl⟩ := List.mem_map.1 hx
    exact word_ne p
  · intro x hx
    obtain ⟨p, hp, rfl⟩ := List.mem_map.1 hx
    exact word_no p (hg p hp)
theorem prsE_ok : ∀ (W : List (List UInt8)) (i : Nat) (out : List Ev), (∃ l : List Ev, prsE W i out = (out ++ l, 0, 0) ∧ l.map wordE = W ∧ (∀ p ∈ l, okE p ∧ goodE p = true)) ∨ ∃ j, prsE W i out = ([], j, 2)
  | [], i, out => .inl ⟨[], by simp [prsE], rfl, by simp⟩
  | w :: r, i, out => by
    unfold prsE
    cases h1 : refE w with
    | none => exact .inr ⟨i, rfl⟩
    | some p =>
      obtain ⟨e2, e3, e1⟩ := of_ref h1
      rcases prsE_ok r (i + 1) (out ++ [p]) with ⟨l, h2, h3, h4⟩ | ⟨j, h2⟩
      · refine .inl ⟨p :: l, by simp only; rw [h2]; simp, by rw [List.map_cons, e1, h3], ?_⟩
        intro q hq
        rcases List.mem_cons.1 hq with rfl | hq
        · exact ⟨e2, e3⟩
        · exact h4 q hq
      · exact .inr ⟨j, h2⟩
theorem parse_cases (s : List UInt8) : (∃ l : List Ev, parseE s = (l, 0, 0) ∧ textE l = (js (allW s), 0) ∧ (∀ p ∈ l, okE p ∧ goodE p = true) ∧ l.length ≤ s.length + 1 ∧ (js (allW s)).length ≤ s.length) ∨ ∃ j, parseE s = ([], j, 2) ∧ j ≤ s.length + 1 := by
  have hs := allW_sum s
  have hn := wsum_len (allW s)
  rcases prsE_ok (allW s) 0 [] with ⟨l, h1, h2, h3⟩ | ⟨j, h⟩
  · left
    rw [List.nil_append] at h1
    have hl : l.length = (allW s).length := by rw [← h2, List.length_map]
    refine ⟨l, h1, ?_, h3, by omega, ?_⟩
    · unfold textE
      rw [if_pos (List.all_eq_true.2 fun p hp => (h3 p hp).2), h2]
    · by_cases h0 : allW s = []
      · rw [h0]; exact Nat.zero_le _
      · have := js_lt h0; omega
  · right
    refine ⟨j, h, ?_⟩
    have key : ∀ (W : List (List UInt8)) (i : Nat) (out : List Ev) j, prsE W i out = ([], j, 2) → j ≤ i + W.length := by
      intro W
      induction W with
      | nil => intro i out j h; simp [prsE] at h
      | cons w r ih =>
        intro i out j h
        unfold prsE at h
        cases h1 : refE w with
        | none => rw [h1] at h; simp at h; simp; omega
        | some p =>
          rw [h1] at h
          have := ih _ _ _ h
          simp; omega
    have := key _ _ _ _ h
    omega
theorem prsE_no {x : List UInt8} {r : List (List UInt8)} {i : Nat} {out : List Ev} (h : refE x = none) : prsE (x :: r) i out = ([], i, 2) := by unfold prsE; rw [h]
theorem prsE_yes {x : List UInt8} {r : List (List UInt8)} {i : Nat} {out : List Ev} {p : Ev} (h : refE x = some p) : prsE (x :: r) i out = prsE r (i + 1) (out ++ [p]) := by conv => lhs; unfold prsE; rw [h]
/-! the texts -/
theorem word_len {e : Ev} (h : okE e) : (wordE e).length ≤ 43 := by
  have h1 := txt_len h.2.1
  have h2 := txt_len h.2.2
  unfold wordE tailE
  rw [List.length_cons, List.length_append, List.length_append]
  by_cases h0 : e.ct = 0
  · rw [if_pos h0]; split <;> simp <;> omega
  · rw [if_neg h0]; split <;> simp <;> omega
theorem js_le (ps : List Ev) (h64 : ∀ p ∈ ps, okE p) : ∀ k, (js ((ps.take k).map wordE)).length ≤ 44 * k
  | 0 => by simp [js]
  | k + 1 => by
    by_cases h : k < ps.length
    · have h1 := js_le ps h64 k
      have h3 := word_len (h64 ps[k] (List.getElem_mem h))
      rw [List.take_succ_eq_append_getElem h, List.map_append]
      by_cases h0 : (ps.take k).map wordE = []
      · rw [h0]; simp [js]; omega
      · rw [List.map_cons, List.map_nil, js_snoc _ _ h0, List.length_append, List.length_cons]; omega
    · have h1 := js_le ps h64 k
      rw [List.take_of_length_le (by omega)] at h1 ⊢
      omega
theorem text_bad {ps : List Ev} {k : Nat} (h : k < ps.length) (hb : goodE ps[k] = false) : textE ps = ([], 7) := by
  unfold textE
  rw [if_neg]
  intro e
  have := List.all_eq_true.1 e ps[k] (List.getElem_mem h)
  rw [hb] at this
  cases this
theorem text_ok {ps : List Ev} (h : ∀ p ∈ ps, goodE p = true) : textE ps = (js (ps.map wordE), 0) := by
  unfold textE
  rw [if_pos (List.all_eq_true.2 h)]
theorem good_no {p : Ev} (h : p.kind < 0 ∨ 5 < p.kind) : goodE p = false := by
  unfold goodE
  rw [Bool.and_eq_false_iff]
  rcases h with h | h
  · left; simp; omega
  · right; simp; omega
theorem js_step (ps : List Ev) {k : Nat} (h : k < ps.length) : js ((ps.take (k + 1)).map wordE) = if k = 0 then wordE ps[k] else js ((ps.take k).map wordE) ++ [32] ++ wordE ps[k] := by
  rw [List.take_succ_eq_append_getElem h, List.map_append]
  by_cases h0 : k = 0
  · subst h0; rw [if_pos rfl]; rfl
  · rw [if_neg h0, List.map_cons, List.map_nil, js_snoc _ _ (by
      intro e
      have := congrArg List.length e
      rw [List.length_map, List.length_take] at this
      simp only [List.length_nil] at this
      omega), List.append_assoc]
    rfl
theorem good_take {ps : List Ev} {k : Nat} (h : k < ps.length) (hg : ∀ p ∈ ps.take k, goodE p = true) (hk : goodE ps[k] = true) : ∀ p ∈ ps.take (k + 1), goodE p = true := by
  rw [List.take_succ_eq_append_getElem h]
  intro p hp
  rcases List.mem_append.1 hp with e | e
  · exact hg p e
  · rw [List.mem_singleton.1 e]; exact hk
end Go.Proofs.YtcfdphfochfeoaaDoor.Tr
