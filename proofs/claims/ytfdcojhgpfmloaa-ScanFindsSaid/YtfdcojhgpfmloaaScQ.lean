/- Layer 30's law ScanFinds: how a walk goes along a row, in plain Lean. -/
import Derived.Test.YtfdcojhgpfmloaaScan5
namespace Go.Proofs.Ytfdcojhgpfmloaa.Ara
open Go.RowKit

/-- A row of things: each once, each from 1 to 12. -/
def Row (row : List Int) : Prop := row.Nodup ∧ ∀ x ∈ row, 1 ≤ x ∧ x ≤ 12
theorem pigeon : ∀ (n : Nat) (l : List Int), l.Nodup → (∀ x ∈ l, 1 ≤ x ∧ x ≤ (n : Int)) → l.length ≤ n
  | 0, l, _, h => by
    cases l with
    | nil => exact Nat.le_refl _
    | cons x l => have := h x (by simp); omega
  | n + 1, l, hd, h => by
    have h1 := pigeon n (l.erase ((n : Int) + 1)) (hd.erase _) (fun x hx => by
      have h2 := (hd.mem_erase_iff).1 hx
      have h3 := h x h2.2
      have h4 := h2.1
      omega)
    by_cases hm : ((n : Int) + 1) ∈ l
    · rw [List.length_erase_of_mem hm] at h1
      omega
    · rw [List.erase_of_not_mem hm] at h1
      omega
theorem Row.len {row : List Int} (h : Row row) : row.length ≤ 12 := pigeon 12 row h.1 (fun x hx => by have := h.2 x hx; omega)
theorem Row.nil : Row [] := ⟨List.nodup_nil, by simp⟩
theorem Row.push {row : List Int} (h : Row row) {x : Int} (h1 : 1 ≤ x) (h2 : x ≤ 12) (hn : x ∉ row) : Row (row ++ [x]) := by
  refine ⟨?_, ?_⟩
  · rw [List.nodup_append]
    refine ⟨h.1, by simp, ?_⟩
    intro a ha b hb
    simp at hb
    subst hb
    exact fun e => hn (e ▸ ha)
  · intro y hy
    rcases List.mem_append.1 hy with hy | hy
    · exact h.2 y hy
    · simp at hy
      subst hy
      exact ⟨h1, h2⟩
theorem Row.at_ {row : List Int} (h : Row row) {j : Nat} (hj : j < row.length) : 1 ≤ row.getD j 0 ∧ row.getD j 0 ≤ 12 := by
  have := h.2 row[j] (List.getElem_mem hj)
  simpa [hj] using this
theorem Row.inj {row : List Int} (h : Row row) {i j : Nat} (hi : i < row.length) (hj : j < row.length) (e : row.getD i 0 = row.getD j 0) : i = j := by
  have h1 : row[i] = row[j] := by simpa [hi, hj] using e
  exact (List.getElem_inj h.1).1 h1
/-- The words as far as they are laid. -/
def Wd (row : List Int) (i : Nat) (ws : List Int) : Prop := ws.length = 12 ∧ ∀ j, j < row.length → ws.getD (row.getD j 0 - 1).toNat 0 = if j < i then row.getD (j + 1) 0 else 0
theorem Wd.start (row : List Int) : Wd row 0 (List.replicate 12 0) := by
  refine ⟨rfl, fun j _ => ?_⟩
  rw [if_neg (by omega), List.getD_eq_getElem?_getD, List.getElem?_replicate]
  split <;> rfl
theorem Wd.step {row : List Int} {i : Nat} {ws : List Int} (h : Wd row i ws) (hr : Row row) (hi : i + 1 < row.length) : Wd row (i + 1) (ws.set (row.getD i 0 - 1).toNat (row.getD (i + 1) 0)) := by
  refine ⟨by simp [h.1], fun j hj => ?_⟩
  have hb := hr.at_ hj
  have hc := hr.at_ (show i < row.length by omega)
  have hl := h.1
  by_cases e : j = i
  · subst e
    rw [if_pos (by omega)]
    rw [List.getD_eq_getElem?_getD, List.getElem?_set_self (by omega)]
    rfl
  · have hne : (row.getD i 0 - 1).toNat ≠ (row.getD j 0 - 1).toNat := by
      intro e2
      have := hr.inj hj (show i < row.length by omega) (by omega)
      exact e this
    rw [List.getD_eq_getElem?_getD, List.getElem?_set_ne hne, ← List.getD_eq_getElem?_getD, h.2 j hj]
    by_cases hji : j < i
    · rw [if_pos hji, if_pos (by omega)]
    · rw [if_neg hji, if_neg (by omega)]
theorem Wd.done {row : List Int} {i : Nat} {ws : List Int} (h : Wd row i ws) (hi : row.length = i + 1) : ∀ j, j < row.length → ws.getD (row.getD j 0 - 1).toNat 0 = row.getD (j + 1) 0 := by
  intro j hj
  rw [h.2 j hj]
  by_cases hji : j < i
  · rw [if_pos hji]
  · rw [if_neg hji, show j = i by omega]
    simp [hi]
/-- Where the first one of a node stands in a row. -/
def fst (all : List Int) (nd : Int) (row : List Int) : Nat := row.findIdx (fun x => decide (all.getD (x - 1).toNat 0 = nd))
theorem fst_le (all : List Int) (nd : Int) (row : List Int) : fst all nd row ≤ row.length := List.findIdx_le_length
theorem fst_at {all : List Int} {nd : Int} {row : List Int} {j : Nat} (hj : j < row.length) (h : all.getD (row.getD j 0 - 1).toNat 0 = nd) (hf : j ≤ fst all nd row) : j = fst all nd row := by
  rcases Nat.lt_or_ge j (fst all nd row) with h1 | h1
  · have := List.not_of_lt_findIdx h1
    simp at this
    have h2 : row.getD j 0 = row[j] := by simp [hj]
    rw [h2] at h
    exact absurd h (by simpa using this)
  · omega
theorem fst_not {all : List Int} {nd : Int} {row : List Int} {j : Nat} (hj : j < row.length) (h : ¬ all.getD (row.getD j 0 - 1).toNat 0 = nd) (hf : j ≤ fst all nd row) : j + 1 ≤ fst all nd row := by
  rcases Nat.lt_or_ge j (fst all nd row) with h1 | h1
  · exact h1
  · have e : j = fst all nd row := by omega
    subst e
    exfalso
    have h2 : row.findIdx (fun x => decide (all.getD (x - 1).toNat 0 = nd)) < row.length := hj
    have := List.findIdx_getElem (w := h2)
    simp only [decide_eq_true_eq] at this
    apply h
    have h3 : row.getD (fst all nd row) 0 = row[fst all nd row] := by rw [List.getD_eq_getElem?_getD, List.getElem?_eq_getElem hj]; rfl
    rw [h3]
    exact this
/-- The last one that was passed, of j. -/
def lst (row : List Int) (j : Nat) : Int := if j = 0 then 0 else row.getD (j - 1) 0
theorem lst_succ (row : List Int) (j : Nat) : lst row (j + 1) = row.getD j 0 := by simp [lst]
/-- How the walk stands that has taken k things. -/
structure Go30 (row all : List Int) (nd : Int) (ws : List Int) (k : Nat) (σ : Ar) (s : Wk) : Prop where
  on : s.way = true → k ≤ fst all nd row ∧ s.passed = k ∧ s.last = lst row k ∧ s.found = 0 ∧ σ.ops = 12 + (k - 1)
  off : s.way = false → s.last = lst row (fst all nd row) ∧ s.found = row.getD (fst all nd row) 0 ∧ σ.ops = 12 + fst all nd row ∧ k = fst all nd row + 1
  node : s.node = nd
  small : s.passed ≤ 12
  ws : σ.ws = ws
  t : σ.t = 12
  ops : σ.ops ≤ 100
section
variable {row all : List Int} {nd : Int} {ws : List Int} (hr : Row row) (ha : all.length = 12)
include hr ha
theorem go_take {j o : Nat} {σ : Ar} {s : Wk} (hj : j ≤ fst all nd row) (h1 : s.node = nd) (h2 : s.passed = j) (h3 : s.last = lst row j) (h4 : s.found = 0) (ho : o = 12 + j) (h5 : σ.ops = o) (hw : σ.ws = ws) (ht : σ.t = 12) : Go30 row all nd ws (j + 1) σ (s.take all (row.getD j 0)) := by
  have hl := hr.len
  have hfl := fst_le all nd row
  by_cases hjl : j < row.length
  · have hb := hr.at_ hjl
    unfold Wk.take
    rw [if_neg (by omega)]
    by_cases hn : all.getD (row.getD j 0 - 1).toNat 0 = nd
    · have e := fst_at hjl hn hj
      rw [if_pos (hn.trans h1.symm)]
      exact ⟨fun h => by simp at h, fun _ => ⟨by rw [← e]; exact h3, by rw [← e], by rw [← e]; omega, by rw [← e]⟩, h1, by show s.passed ≤ 12; omega, hw, ht, by omega⟩
    · have e := fst_not hjl hn hj
      rw [if_neg (fun e2 => hn (e2.trans h1))]
      exact ⟨fun _ => ⟨e, by show s.passed + 1 = j + 1; omega, (lst_succ row j).symm, h4, by omega⟩, fun h => by simp at h, h1, by show s.passed + 1 ≤ 12; omega, hw, ht, by omega⟩
  · have e : j = fst all nd row := by omega
    have e0 : row.getD j 0 = 0 := by simp; rw [List.getElem?_eq_none (by omega)]; rfl
    unfold Wk.take
    rw [e0, if_pos (by omega)]
    exact ⟨fun h => by simp at h, fun _ => ⟨by rw [← e]; exact h3, by rw [← e, e0]; exact h4, by rw [← e]; omega, by rw [← e]⟩, h1, by show s.passed ≤ 12; omega, hw, ht, by omega⟩
theorem go_begin {σ : Ar} {s : Wk} (h5 : σ.ops = 12) (hw : σ.ws = ws) (ht : σ.t = 12) : Go30 row all nd ws 1 σ ((s.first nd).take all (row.getD 0 0)) :=
  go_take hr ha (j := 0) (Nat.zero_le _) rfl rfl (by simp [lst, Wk.first]) rfl (o := 12) rfl h5 hw ht
theorem go_next {k : Nat} {σ : Ar} {s : Wk} (h : Go30 row all nd ws (k + 1) σ s) (hd : ∀ j, j < row.length → ws.getD (row.getD j 0 - 1).toNat 0 = row.getD (j + 1) 0) (hw : s.way = true) : Go30 row all nd ws (k + 1 + 1) (stepA 1 1 σ s) (s.next all 1 1 σ) := by
  obtain ⟨h1, h2, h3, h4, h5⟩ := h.on hw
  have hfl := fst_le all nd row
  have hkl : k < row.length := by omega
  have hb := hr.at_ hkl
  rw [lst_succ] at h3
  obtain ⟨m, hm⟩ := Int.eq_ofNat_of_zero_le (show 0 ≤ row.getD k 0 - 1 by omega)
  have hm1 : s.last - 1 = (m : Int) := by omega
  have e1 : (1 : Int) + 1 * (s.last - 1) = (m : Int) + 1 := by omega
  have hmt : m < σ.t := by have := h.t; omega
  unfold stepA Wk.next
  rw [if_pos hw, if_pos hw, e1, Ar.get_in hmt, Ar.op_in hmt]
  have e2 : σ.ws.getD m 0 = row.getD (k + 1) 0 := by
    have := hd k hkl
    rw [hm, Int.toNat_natCast] at this
    rw [h.ws]
    exact this
  rw [e2]
  exact go_take hr ha h1 h.node h2 (by rw [lst_succ]; exact h3) h4 (o := 12 + (k + 1)) rfl (by show σ.ops + 1 = _; omega) h.ws h.t
end
/-- The statement's own look for it. -/
structure Fin30 (row all : List Int) (nd : Int) (i : Nat) (found last : Int) (passed : Nat) : Prop where
  le : i ≤ row.length
  on : found = 0 → i ≤ fst all nd row ∧ last = lst row i ∧ passed = i
  off : found ≠ 0 → fst all nd row < row.length ∧ found = row.getD (fst all nd row) 0 ∧ last = lst row (fst all nd row) ∧ passed = fst all nd row
theorem Fin30.start (row all : List Int) (nd : Int) : Fin30 row all nd 0 0 0 0 := ⟨Nat.zero_le _, fun _ => ⟨Nat.zero_le _, rfl, rfl⟩, fun h => absurd rfl h⟩
theorem Fin30.yes {row all : List Int} {nd : Int} {i : Nat} {last : Int} {passed : Nat} (h : Fin30 row all nd i 0 last passed) (hr : Row row) (hi : i < row.length) (hn : all.getD (row.getD i 0 - 1).toNat 0 = nd) : Fin30 row all nd (i + 1) (row.getD i 0) last passed := by
  obtain ⟨h1, h2, h3⟩ := h.on rfl
  have hb := hr.at_ hi
  have e := fst_at hi hn h1
  exact ⟨hi, fun h0 => by omega, fun _ => ⟨by omega, by rw [← e], by rw [← e]; exact h2, by omega⟩⟩
theorem Fin30.no {row all : List Int} {nd : Int} {i : Nat} {last : Int} {passed : Nat} (h : Fin30 row all nd i 0 last passed) (hi : i < row.length) (hn : ¬ all.getD (row.getD i 0 - 1).toNat 0 = nd) : Fin30 row all nd (i + 1) 0 (row.getD i 0) (passed + 1) := by
  obtain ⟨h1, h2, h3⟩ := h.on rfl
  exact ⟨hi, fun _ => ⟨fst_not hi hn h1, (lst_succ row i).symm, by omega⟩, fun h0 => absurd rfl h0⟩
theorem Fin30.done {row all : List Int} {nd : Int} {i : Nat} {found last : Int} {passed : Nat} (h : Fin30 row all nd i found last passed) (he : ¬ (i < row.length ∧ found = 0)) : found = row.getD (fst all nd row) 0 ∧ last = lst row (fst all nd row) ∧ passed = fst all nd row := by
  by_cases hf : found = 0
  · obtain ⟨h1, h2, h3⟩ := h.on hf
    have hle := h.le
    have hfl := fst_le all nd row
    have e : i = row.length := by omega
    have e2 : fst all nd row = i := by omega
    rw [e2]
    refine ⟨?_, h2, h3⟩
    rw [hf]
    simp; rw [List.getElem?_eq_none (by omega)]; rfl
  · exact (h.off hf).2
end Go.Proofs.Ytfdcojhgpfmloaa.Ara
