/- Layer 13: what tenures are: the plain law behind TenureAll. -/
import Derived.Test.YtmldkfmebplblaaTen6
namespace Go.Proofs.Ytmldkfmebplblaa.Ten

def sumMany (l : List Rn) : Int := (l.map (·.many)).sum
theorem sum_nil : sumMany [] = 0 := rfl
theorem sum_snoc (l : List Rn) (r : Rn) : sumMany (l ++ [r]) = sumMany l + r.many := by simp [sumMany]

/-- Tenures that have the entries up to place k. -/
inductive Good (nodes : List Int) (E : List Ev) : List Rn → Nat → Prop
  | nil : Good nodes E [] 0
  | snoc (out : List Rn) (k : Nat) (r : Rn) (m : Nat) : Good nodes E out k → r.frm = k → r.many = m → 1 ≤ m → k + m ≤ E.length →
      (∀ q e, q < m → E[k + q]? = some e → e.count = q + 1 ∧ nodeOf nodes e.thread = r.node) → Good nodes E (out ++ [r]) (k + m)

theorem Good.sum {nodes : List Int} {E : List Ev} {out : List Rn} {k : Nat} (h : Good nodes E out k) : sumMany out = k := by
  induction h with
  | nil => rfl
  | snoc out k r m _ _ hm _ _ _ ih => rw [sum_snoc, ih, hm]; omega
theorem Good.le {nodes : List Int} {E : List Ev} {out : List Rn} {k : Nat} (h : Good nodes E out k) : k ≤ E.length := by
  cases h with
  | nil => exact Nat.zero_le _
  | snoc out k r m _ _ hm _ hl _ => exact hl

theorem Good.run {nodes : List Int} {E : List Ev} : ∀ (n k : Nat) (out : List Rn), E.length - k = n → Good nodes E out k →
    ∃ k', Good nodes E (run nodes (E.drop k) k out).1 k' ∧ ((k' = E.length) ↔ (Ten.run nodes (E.drop k) k out).2 = true) := by
  intro n
  induction n with
  | zero =>
    intro k out hn hg
    have := hg.le
    rw [run_end (by omega)]
    exact ⟨k, hg, by simp; omega⟩
  | succ n ih =>
    intro k out hn hg
    have hk : k < E.length := by omega
    by_cases hgo : goesOn nodes out E[k]
    · obtain ⟨r, h1, h2, h3⟩ := hgo
      rcases snoc_of out with rfl | ⟨out', r', rfl⟩
      · simp at h1
      · rw [List.getLast?_concat] at h1
        obtain rfl : r' = r := by simpa using h1
        rw [run_go hk h2 h3]
        refine ih (k + 1) _ (by omega) ?_
        generalize ho : out' ++ [r'] = o at hg
        cases hg with
        | nil => simp at ho
        | snoc out2 k2 r2 m hg2 hf hm hm1 hl hq =>
          obtain ⟨rfl, hr⟩ := List.append_inj' ho rfl
          obtain rfl : r' = r2 := by simpa using hr
          have := Good.snoc out' k2 { r' with many := r'.many + 1 } (m + 1) hg2 hf (by simp [hm]) (by omega) (by omega) (fun q e hq1 he => by
            by_cases hqm : q < m
            · exact hq q e hqm he
            · obtain rfl : q = m := by omega
              have : E[k2 + q] = e := by
                rw [List.getElem?_eq_getElem hk] at he
                simpa using he
              subst this
              exact ⟨by rw [h3, hm], h2.symm⟩)
          exact this
    · by_cases hc : E[k].count = 1
      · rw [run_new hk hgo hc]
        refine ih (k + 1) _ (by omega) ?_
        exact Good.snoc out k _ 1 hg rfl rfl (by omega) (by omega) (fun q e hq he => by
          obtain rfl : q = 0 := by omega
          have : E[k] = e := by
            rw [Nat.add_zero, List.getElem?_eq_getElem hk] at he
            simpa using he
          subst this
          exact ⟨by simpa using hc, rfl⟩)
      · rw [run_no hk hgo hc]
        exact ⟨k, hg, by simp; omega⟩

theorem Good.at_ {nodes : List Int} {E : List Ev} {out : List Rn} {k : Nat} (h : Good nodes E out k) : ∀ i (hi : i < out.length),
    ∃ a m : Nat, sumMany (out.take i) = a ∧ out[i].frm = a ∧ out[i].many = m ∧ 1 ≤ m ∧ a + m ≤ k ∧ ∀ q (_ : q < m) (hl : a + q < E.length), E[a + q].count = q + 1 ∧ nodeOf nodes E[a + q].thread = out[i].node := by
  induction h with
  | nil => intro i hi; simp at hi
  | snoc out k r m hg hf hm hm1 hl hq ih =>
    intro i hi
    by_cases hlt : i < out.length
    · obtain ⟨a, m', h1, h2, h3, h4, h5, h6⟩ := ih i hlt
      refine ⟨a, m', by rw [List.take_append_of_le_length (by omega)]; exact h1, by rw [List.getElem_append_left hlt]; exact h2, by rw [List.getElem_append_left hlt]; exact h3, h4, by omega, fun q hq1 hl1 => ?_⟩
      rw [List.getElem_append_left hlt]
      exact h6 q hq1 hl1
    · obtain rfl : i = out.length := by simp at hi; omega
      refine ⟨k, m, by simpa using hg.sum, by simpa using hf, by simpa using hm, hm1, Nat.le_refl _, fun q hq1 hl1 => ?_⟩
      simpa using hq q _ hq1 (List.getElem?_eq_getElem hl1)

theorem Good.longest {nodes : List Int} {E : List Ev} {out : List Rn} {k : Nat} (h : Good nodes E out k) : 0 ≤ longest out ∧ longest out ≤ E.length := by
  induction h with
  | nil => exact ⟨Int.le_refl _, by simp [Ten.longest]⟩
  | snoc out k r m hg hf hm hm1 hl hq ih =>
    have : Ten.longest (out ++ [r]) = mx (Ten.longest out) r.many := by simp [Ten.longest, List.foldl_append]
    rw [this, mx]
    split <;> omega

theorem all_good (nodes : List Int) (l : List Ev) : ∃ k, Good nodes (entries l) (ofAll nodes l).1 k ∧ ((k = (entries l).length) ↔ (ofAll nodes l).2 = true) := by
  have := Good.run (nodes := nodes) (E := entries l) _ 0 [] rfl .nil
  simpa [ofAll] using this
end Go.Proofs.Ytmldkfmebplblaa.Ten
