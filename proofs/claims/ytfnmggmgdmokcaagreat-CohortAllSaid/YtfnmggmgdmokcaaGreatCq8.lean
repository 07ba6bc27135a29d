/- Merged texts: McQ, Mc1. -/
import Derived.Test.YtfnmggmgdmokcaaGreatCq7
set_option linter.unusedVariables false
/- Package mcs, as Lean has it: slots hold in the order of their doorways. -/
namespace Go.Proofs.YtfnmggmgdmokcaaGreat.Mc
open Go.RowKit Go.Proofs.YtfnmggmgdmokcaaGreat.Ara Go.Proofs.YtfnmggmgdmokcaaGreat.Lok

theorem do_0 (P : Par) (σ : Ar) (sp : List Sp) (i : Int) : doP P σ sp 0 i = stepP P σ sp i := rfl
theorem do_1 (P : Par) (σ : Ar) (sp : List Sp) (i : Int) : doP P σ sp 1 i = (turnB sp i 0, σ, turnS sp i 0 1) := rfl
theorem do_2 (P : Par) (σ : Ar) (sp : List Sp) (i : Int) : doP P σ sp 2 i = (turnB sp i 10, σ, turnS sp i 10 11) := rfl
section
variable {P : Par} {σ : Ar} {sp : List Sp} {i : Int}
theorem step_1 (h : (spOf sp i).pc = 1) : stepP P σ sp i = (false, σ.op 2 (nx P (i + 1)) true 0, sp.set i.toNat { spOf sp i with pc := 2 }) := by
  unfold stepP; rw [if_pos h]
theorem step_2 (h : (spOf sp i).pc = 2) : stepP P σ sp i = (false, σ.op 2 (wt P (i + 1)) true 1, sp.set i.toNat { spOf sp i with pc := 3 }) := by
  unfold stepP; rw [if_neg (by omega), if_pos h]
theorem step_3 (h : (spOf sp i).pc = 3) : stepP P σ sp i = (σ.get P.tail == 0, σ.op 3 P.tail true (i + 1), sp.set i.toNat { spOf sp i with pc := if σ.get P.tail = 0 then 10 else 4, a := σ.get P.tail }) := by
  unfold stepP; rw [if_neg (by omega), if_neg (by omega), if_pos h]
theorem step_4 (h : (spOf sp i).pc = 4) : stepP P σ sp i = (false, σ.op 2 (nx P (spOf sp i).a) true (i + 1), sp.set i.toNat { spOf sp i with pc := 5 }) := by
  unfold stepP; rw [if_neg (by omega), if_neg (by omega), if_neg (by omega), if_pos h]
theorem step_5 (h : (spOf sp i).pc = 5) : stepP P σ sp i = (σ.get (wt P (i + 1)) == 0, σ.op 1 (wt P (i + 1)) false 0, sp.set i.toNat { spOf sp i with pc := if σ.get (wt P (i + 1)) = 0 then 10 else 5 }) := by
  unfold stepP; rw [if_neg (by omega), if_neg (by omega), if_neg (by omega), if_neg (by omega), if_pos h]
theorem step_look (h : (spOf sp i).pc = 11 ∨ (spOf sp i).pc = 13) : stepP P σ sp i = (false, σ.op 1 (nx P (i + 1)) false 0, sp.set i.toNat { spOf sp i with pc := if σ.get (nx P (i + 1)) = 0 then (if (spOf sp i).pc = 11 then 12 else 13) else 14, a := σ.get (nx P (i + 1)) }) := by
  unfold stepP
  rw [if_neg (by omega), if_neg (by omega), if_neg (by omega), if_neg (by omega), if_neg (by omega)]
  rcases h with h | h
  · rw [if_pos h, if_pos h]
  · rw [if_neg (by omega), if_neg (by omega), if_pos h, if_neg (show ¬ (spOf sp i).pc = 11 by omega)]
theorem step_12 (h : (spOf sp i).pc = 12) : stepP P σ sp i = (σ.has P.tail && (σ.get P.tail == i + 1), σ.op 4 P.tail (σ.has P.tail && (σ.get P.tail == i + 1)) 0, sp.set i.toNat { spOf sp i with pc := if (σ.has P.tail && (σ.get P.tail == i + 1)) = true then 0 else 13 }) := by
  unfold stepP; rw [if_neg (by omega), if_neg (by omega), if_neg (by omega), if_neg (by omega), if_neg (by omega), if_neg (by omega), if_pos h]
theorem step_14 (h : (spOf sp i).pc = 14) : stepP P σ sp i = (true, σ.op 2 (wt P (spOf sp i).a) true 0, sp.set i.toNat { spOf sp i with pc := 0 }) := by
  unfold stepP; rw [if_neg (by omega), if_neg (by omega), if_neg (by omega), if_neg (by omega), if_neg (by omega), if_neg (by omega), if_neg (by omega), if_neg (by omega), if_pos h]
theorem step_no (h : (spOf sp i).pc = 0 ∨ (spOf sp i).pc = 10) : stepP P σ sp i = (false, σ, sp) := by
  unfold stepP; rw [if_neg (by omega), if_neg (by omega), if_neg (by omega), if_neg (by omega), if_neg (by omega), if_neg (by omega), if_neg (by omega), if_neg (by omega), if_neg (by omega)]
end
theorem step_inv {P : Par} {σ : Ar} {sp : List Sp} {q : List Int} (h : Inv P σ sp q) (i : Int) : ∃ q', Inv P (stepP P σ sp i).2.1 (stepP P σ sp i).2.2 q' := by
  rcases h.pcs i with p | p | p | p | p | p | p | p | p | p | p
  · rw [step_no (.inl p)]; exact ⟨_, h⟩
  · rw [step_1 p]; exact ⟨_, inv_1 h p⟩
  · rw [step_2 p]; exact ⟨_, inv_2 h p⟩
  · rw [step_3 p]; exact ⟨_, inv_3 h p⟩
  · rw [step_4 p]; exact ⟨_, (inv_4 h p).1⟩
  · rw [step_5 p]
    by_cases hg : σ.get (wt P (i + 1)) = 0
    · simp only [if_pos hg]; exact ⟨_, (inv_5 h p hg).1⟩
    · obtain ⟨i0, i1⟩ := spOf_range (sp := sp) (i := i) (by omega)
      simp only [if_neg hg]
      rw [set_same i0 i1 (by rw [← p])]
      exact ⟨_, h.read _ _⟩
  · rw [step_no (.inr p)]; exact ⟨_, h⟩
  · rw [step_look (.inl p)]; exact ⟨_, inv_look h (.inl p)⟩
  · rw [step_12 p, h.casB]
    by_cases hc : tailOf q = i + 1
    · rw [decide_eq_true hc]; simp only [if_true]; exact ⟨_, (inv_12 h p hc).1⟩
    · rw [decide_eq_false hc]; simp only [Bool.false_eq_true, if_false]; exact ⟨_, inv_12b h p hc⟩
  · rw [step_look (.inr p)]; exact ⟨_, inv_look h (.inr p)⟩
  · rw [step_14 p]
    obtain ⟨j, t, _, _, hI⟩ := inv_14 h p
    exact ⟨_, hI⟩
theorem do_inv {P : Par} {σ : Ar} {sp : List Sp} {q : List Int} (h : Inv P σ sp q) (kd i : Int) : ∃ q', Inv P (doP P σ sp kd i).2.1 (doP P σ sp kd i).2.2 q' := by
  unfold doP
  split
  · exact step_inv h i
  split
  · exact ⟨_, inv_ask h⟩
  split
  · exact ⟨_, inv_leave h⟩
  split
  · exact ⟨_, inv_alone h⟩
  · exact ⟨_, h⟩
theorem do_len (P : Par) (σ : Ar) (sp : List Sp) (kd i : Int) : (doP P σ sp kd i).2.2.length = sp.length := by
  unfold doP
  split
  · unfold stepP
    repeat (split; simp)
    rfl
  split
  · exact turnS_len _ _ _ _
  split
  · exact turnS_len _ _ _ _
  split <;> rfl
theorem do_ops (P : Par) (σ : Ar) (sp : List Sp) (kd i : Int) : (doP P σ sp kd i).2.1.ops ≤ σ.ops + 1 ∧ σ.ops ≤ (doP P σ sp kd i).2.1.ops := by
  have h : ∀ (kd p v : Int) (wr : Bool), (σ.op kd p wr v).ops ≤ σ.ops + 1 ∧ σ.ops ≤ (σ.op kd p wr v).ops := by
    intro kd p v wr
    rw [op_ops]
    split <;> omega
  unfold doP
  split
  · unfold stepP
    repeat (split; exact h _ _ _ _)
    exact ⟨Nat.le_succ _, Nat.le_refl _⟩
  split
  · exact ⟨Nat.le_succ _, Nat.le_refl _⟩
  split
  · exact ⟨Nat.le_succ _, Nat.le_refl _⟩
  split
  · unfold aloneP
    split
    · exact h _ _ _ _
    · exact ⟨Nat.le_succ _, Nat.le_refl _⟩
  · exact ⟨Nat.le_succ _, Nat.le_refl _⟩
structure St where
  σ : Ar
  sp : List Sp
  doors : List Int
  held : List Int
def ordS (P : Par) (x : St) (c : Ac) : St :=
  { σ := (doP P x.σ x.sp c.kind c.i).2.1, sp := (doP P x.σ x.sp c.kind c.i).2.2,
    doors := if c.kind = 0 ∧ 0 < (spOf x.sp c.i).pc ∧ (spOf x.sp c.i).pc < 10 ∧ x.σ.ops < (doP P x.σ x.sp c.kind c.i).2.1.ops ∧ (doP P x.σ x.sp c.kind c.i).2.1.kind = 3 then x.doors ++ [c.i] else x.doors,
    held := if (spOf x.sp c.i).pc < 10 ∧ (spOf (doP P x.σ x.sp c.kind c.i).2.2 c.i).pc = 10 then x.held ++ [c.i] else x.held }
structure OrdI (P : Par) (x : St) (q s : List Int) : Prop where
  inv : Inv P x.σ x.sp q
  dl : x.doors = s ++ q
  hh : (∃ i, outs (spOf x.sp i) ∧ x.held = s ++ [i]) ∨ ((∀ i, ¬ outs (spOf x.sp i)) ∧ x.held = s)
def OrdP (P : Par) (x : St) : Prop := ∃ q s, OrdI P x q s
theorem OrdI.keep {P : Par} {x : St} {q s : List Int} (h : OrdI P x q s) {σ' : Ar} {sp' : List Sp} (hi : Inv P σ' sp' q) (hn : ∀ i, outs (spOf sp' i) ↔ outs (spOf x.sp i)) : OrdP P { σ := σ', sp := sp', doors := x.doors, held := x.held } := by
  refine ⟨q, s, hi, h.dl, ?_⟩
  rcases h.hh with ⟨i, h1, e⟩ | ⟨h1, e⟩
  · exact .inl ⟨i, (hn i).2 h1, e⟩
  · exact .inr ⟨fun i h2 => h1 i ((hn i).1 h2), e⟩
theorem ord_plain {P : Par} {x : St} {c : Ac} (hd : ¬ (c.kind = 0 ∧ 0 < (spOf x.sp c.i).pc ∧ (spOf x.sp c.i).pc < 10 ∧ x.σ.ops < (doP P x.σ x.sp c.kind c.i).2.1.ops ∧ (doP P x.σ x.sp c.kind c.i).2.1.kind = 3)) (hh : ¬ ((spOf x.sp c.i).pc < 10 ∧ (spOf (doP P x.σ x.sp c.kind c.i).2.2 c.i).pc = 10)) :
    ordS P x c = { σ := (doP P x.σ x.sp c.kind c.i).2.1, sp := (doP P x.σ x.sp c.kind c.i).2.2, doors := x.doors, held := x.held } := by
  unfold ordS
  rw [if_neg hd, if_neg hh]
theorem OrdI.quiet {P : Par} {x : St} {q s : List Int} (h : OrdI P x q s) {i : Int} {b : Bool} {σ' : Ar} {s' : Sp} (i0 : 0 ≤ i) (i1 : i < x.sp.length) (e : stepP P x.σ x.sp i = (b, σ', x.sp.set i.toNat s')) (hd : (spOf x.sp i).pc < 10 → σ'.kind ≠ 3) (h10 : (spOf x.sp i).pc < 10 → s'.pc ≠ 10)
    (hI : Inv P σ' (x.sp.set i.toNat s') q) (ho : outs s' ↔ outs (spOf x.sp i)) : OrdP P (ordS P x ⟨0, i⟩) := by
  have hs := spOf_set i0 i1 s'
  rw [ord_plain (c := ⟨0, i⟩) (fun hh => by simp only [do_0, e] at hh; exact hd hh.2.2.1 hh.2.2.2.2) (fun hh => by simp only [do_0, e] at hh; rw [hs, if_pos rfl] at hh; exact h10 hh.1 hh.2)]
  simp only [do_0, e]
  refine h.keep hI (fun j => ?_)
  rw [hs]
  by_cases ej : j = i
  · rw [if_pos ej, ej]; exact ho
  · rw [if_neg ej]
theorem ord_step {P : Par} {x : St} (h : OrdP P x) (i : Int) : OrdP P (ordS P x ⟨0, i⟩) := by
  obtain ⟨q, s, h⟩ := h
  have hi := h.inv
  have hno : ∀ p : (spOf x.sp i).pc = 0 ∨ (spOf x.sp i).pc = 10, OrdP P (ordS P x ⟨0, i⟩) := by
    intro p
    have e := step_no (P := P) (σ := x.σ) p
    rw [ord_plain (c := ⟨0, i⟩) (by simp only; omega) (by simp only [do_0, e]; omega)]
    simp only [do_0, e]
    exact h.keep hi (fun _ => Iff.rfl)
  rcases hi.pcs i with p | p | p | p | p | p | p | p | p | p | p
  · exact hno (.inl p)
  · obtain ⟨i0, i1⟩ := spOf_range (sp := x.sp) (i := i) (by omega)
    exact h.quiet i0 i1 (step_1 p) (fun _ => by rw [op_kind _ _ _ _ _ (hi.hasN _ (by omega) (by omega))]; omega) (fun _ => by simp) (inv_1 hi p) (by unfold outs; simp only; omega)
  · obtain ⟨i0, i1⟩ := spOf_range (sp := x.sp) (i := i) (by omega)
    exact h.quiet i0 i1 (step_2 p) (fun _ => by rw [op_kind _ _ _ _ _ (hi.hasW _ (by omega) (by omega))]; omega) (fun _ => by simp) (inv_2 hi p) (by unfold outs; simp only; omega)
  · have e := step_3 (P := P) (σ := x.σ) p
    obtain ⟨i0, i1⟩ := spOf_range (sp := x.sp) (i := i) (by omega)
    have hI := inv_3 hi p
    obtain ⟨pn, hpn⟩ : ∃ pn, (if x.σ.get P.tail = 0 then (10 : Int) else 4) = pn := ⟨_, rfl⟩
    rw [hpn] at e hI
    have hs := spOf_set i0 i1 { spOf x.sp i with pc := pn, a := x.σ.get P.tail }
    unfold ordS
    simp only [do_0, e]
    rw [if_pos ⟨trivial, by omega, by omega, by rw [op_ops, if_pos hi.hasT]; omega, op_kind _ _ _ _ _ hi.hasT⟩]
    by_cases hv : x.σ.get P.tail = 0
    · have hp10 : pn = 10 := by rw [← hpn, if_pos hv]
      have hq : q = [] := by
        rcases Classical.em (q = []) with e | e
        · exact e
        · obtain ⟨j, j1, j2⟩ := tailOf_mem e
          have := hi.range j j1
          rw [hi.gT, j2] at hv
          omega
      have hl : x.held = s := by
        rcases h.hh with ⟨j, h1, _⟩ | ⟨_, e⟩
        · have := (hi.mem j).2 (.inr (.inr h1))
          rw [hq] at this
          simp at this
        · exact e
      rw [if_pos ⟨by omega, by rw [hs, if_pos rfl]; exact hp10⟩]
      refine ⟨q ++ [i], s, hI, by simp [h.dl], .inl ⟨i, ?_, by rw [hl]⟩⟩
      show outs (spOf (x.sp.set i.toNat _) i)
      rw [hs, if_pos rfl]
      exact .inl hp10
    · have hp4 : pn = 4 := by rw [← hpn, if_neg hv]
      rw [if_neg (fun hh => by have := hh.2; rw [hs, if_pos rfl] at this; have : pn = 10 := this; omega)]
      refine ⟨q ++ [i], s, hI, by simp [h.dl], ?_⟩
      have hn : ∀ j, outs (spOf (x.sp.set i.toNat { spOf x.sp i with pc := pn, a := x.σ.get P.tail }) j) ↔ outs (spOf x.sp j) := by
        intro j
        rw [hs]
        by_cases ej : j = i
        · rw [if_pos ej, ej]
          unfold outs
          simp only
          omega
        · rw [if_neg ej]
      rcases h.hh with ⟨j, h1, e⟩ | ⟨h1, e⟩
      · exact .inl ⟨j, (hn j).2 h1, e⟩
      · exact .inr ⟨fun j h2 => h1 j ((hn j).1 h2), e⟩
  · obtain ⟨i0, i1⟩ := spOf_range (sp := x.sp) (i := i) (by omega)
    exact h.quiet i0 i1 (step_4 p) (fun _ => by rw [op_kind _ _ _ _ _ (inv_4 hi p).2]; omega) (fun _ => by simp) (inv_4 hi p).1 (by unfold outs; simp only; omega)
  · have e := step_5 (P := P) (σ := x.σ) p
    obtain ⟨i0, i1⟩ := spOf_range (sp := x.sp) (i := i) (by omega)
    by_cases hg : x.σ.get (wt P (i + 1)) = 0
    · rw [if_pos hg] at e
      have hs := spOf_set i0 i1 { spOf x.sp i with pc := 10 }
      obtain ⟨hI, hf⟩ := inv_5 hi p hg
      have hl : x.held = s := by
        rcases h.hh with ⟨j, h1, _⟩ | ⟨_, e⟩
        · have h2 := hi.first j h1
          rw [hf] at h2
          have : i = j := Option.some.inj h2
          subst this
          unfold outs at h1
          omega
        · exact e
      unfold ordS
      simp only [do_0, e]
      rw [if_neg (by rw [op_kind _ _ _ _ _ (hi.hasW _ (by omega) (by omega))]; omega), if_pos ⟨by omega, by rw [hs, if_pos rfl]⟩]
      refine ⟨q, s, hI, h.dl, .inl ⟨i, ?_, by rw [hl]⟩⟩
      show outs (spOf (x.sp.set i.toNat _) i)
      rw [hs, if_pos rfl]
      exact .inl rfl
    · rw [if_neg hg] at e
      refine h.quiet i0 i1 e (fun _ => by rw [op_kind _ _ _ _ _ (hi.hasW _ (by omega) (by omega))]; omega) (fun _ => by simp) ?_ (by unfold outs; simp only; omega)
      rw [set_same i0 i1 (by rw [← p])]
      exact hi.read _ _
  · exact hno (.inr p)
  · obtain ⟨i0, i1⟩ := spOf_range (sp := x.sp) (i := i) (by omega)
    refine h.quiet i0 i1 (step_look (.inl p)) (fun _ => by omega) (fun _ => by omega) (inv_look hi (.inl p)) ⟨fun _ => .inr (.inl p), fun _ => ?_⟩
    unfold outs
    simp only [if_pos p]
    split
    · exact .inr (.inr (.inl rfl))
    · exact .inr (.inr (.inr (.inr rfl)))
  · obtain ⟨i0, i1⟩ := spOf_range (sp := x.sp) (i := i) (by omega)
    have e := step_12 (P := P) (σ := x.σ) p
    rw [hi.casB] at e
    by_cases hc : tailOf q = i + 1
    · rw [decide_eq_true hc] at e
      simp only [if_true] at e
      have hs := spOf_set i0 i1 { spOf x.sp i with pc := 0 }
      obtain ⟨hI, hq⟩ := inv_12 hi p hc
      have hl : x.held = s ++ [i] := by
        rcases h.hh with ⟨j, h1, e⟩ | ⟨h1, _⟩
        · have h2 := hi.first j h1
          rw [hq] at h2
          have : i = j := by simpa using h2
          rw [this]
          exact e
        · exact absurd (show outs (spOf x.sp i) from .inr (.inr (.inl p))) (h1 i)
      have hno2 : ∀ j, ¬ outs (spOf (x.sp.set i.toNat { spOf x.sp i with pc := 0 }) j) := by
        intro j hj
        rw [hs] at hj
        by_cases ej : j = i
        · rw [if_pos ej] at hj; unfold outs at hj; simp at hj
        · rw [if_neg ej] at hj
          have h1 := hi.first j hj
          rw [hq] at h1
          exact ej (by simpa using h1.symm)
      rw [ord_plain (c := ⟨0, i⟩) (by simp only; omega) (by simp only; omega)]
      simp only [do_0, e]
      refine ⟨[], s ++ [i], hI, ?_, .inr ⟨hno2, hl⟩⟩
      show x.doors = s ++ [i] ++ []
      rw [h.dl, hq, List.append_nil]
    · rw [decide_eq_false hc] at e
      simp only [Bool.false_eq_true, if_false] at e
      exact h.quiet i0 i1 e (fun _ => by omega) (fun _ => by omega) (inv_12b hi p hc) ⟨fun _ => .inr (.inr (.inl p)), fun _ => .inr (.inr (.inr (.inl rfl)))⟩
  · obtain ⟨i0, i1⟩ := spOf_range (sp := x.sp) (i := i) (by omega)
    refine h.quiet i0 i1 (step_look (.inr p)) (fun _ => by omega) (fun _ => by omega) (inv_look hi (.inr p)) ⟨fun _ => .inr (.inr (.inr (.inl p))), fun _ => ?_⟩
    unfold outs
    simp only [if_neg (show ¬ (spOf x.sp i).pc = 11 by omega)]
    split
    · exact .inr (.inr (.inr (.inl rfl)))
    · exact .inr (.inr (.inr (.inr rfl)))
  · obtain ⟨i0, i1⟩ := spOf_range (sp := x.sp) (i := i) (by omega)
    have e := step_14 (P := P) (σ := x.σ) p
    have hs := spOf_set i0 i1 { spOf x.sp i with pc := 0 }
    obtain ⟨j, t, hq, _, hI⟩ := inv_14 hi p
    have hl : x.held = s ++ [i] := by
      rcases h.hh with ⟨m, h1, e⟩ | ⟨h1, _⟩
      · have h2 := hi.first m h1
        rw [hq] at h2
        have : i = m := by simpa using h2
        rw [this]
        exact e
      · exact absurd (show outs (spOf x.sp i) from .inr (.inr (.inr (.inr p)))) (h1 i)
    have hno2 : ∀ m, ¬ outs (spOf (x.sp.set i.toNat { spOf x.sp i with pc := 0 }) m) := by
      intro m hm
      rw [hs] at hm
      by_cases ej : m = i
      · rw [if_pos ej] at hm; unfold outs at hm; simp at hm
      · rw [if_neg ej] at hm
        have h1 := hi.first m hm
        rw [hq] at h1
        exact ej (by simpa using h1.symm)
    rw [ord_plain (c := ⟨0, i⟩) (by simp only; omega) (by simp only; omega)]
    simp only [do_0, e]
    refine ⟨j :: t, s ++ [i], hI, ?_, .inr ⟨hno2, hl⟩⟩
    show x.doors = s ++ [i] ++ (j :: t)
    rw [h.dl, hq, List.append_assoc]
    rfl
theorem ord_turn {P : Par} {x : St} {q s : List Int} (h : OrdI P x q s) {kd i fr tO : Int} (hk : kd ≠ 0) (e : doP P x.σ x.sp kd i = (turnB x.sp i fr, x.σ, turnS x.sp i fr tO)) (hto : tO ≠ 10) (hft : (fr = 0 ∧ tO = 1) ∨ (fr = 10 ∧ tO = 11))
    (hI : Inv P x.σ (turnS x.sp i fr tO) q) : OrdP P (ordS P x ⟨kd, i⟩) := by
  rw [ord_plain (c := ⟨kd, i⟩) (by simp only; omega) (by
    simp only [e]
    cases ht : turnB x.sp i fr
    · rw [turn_no tO ht]; omega
    · rw [spOf_turn tO ht, if_pos rfl]; simp only; omega)]
  simp only [e]
  refine h.keep hI (fun j => ?_)
  cases ht : turnB x.sp i fr
  · rw [turn_no tO ht]
  · have hp := (turn_true ht).2
    rw [spOf_turn tO ht]
    by_cases ej : j = i
    · rw [if_pos ej, ej]; unfold outs; simp only; omega
    · rw [if_neg ej]
theorem ord_do {P : Par} {x : St} (h : OrdP P x) (c : Ac) : OrdP P (ordS P x c) := by
  obtain ⟨kd, i⟩ := c
  by_cases k0 : kd = 0
  · subst k0; exact ord_step h i
  obtain ⟨q, s, h⟩ := h
  have hi := h.inv
  by_cases k1 : kd = 1
  · subst k1
    exact ord_turn h (kd := 1) (fr := 0) (tO := 1) (by omega) (do_1 _ _ _ _) (by omega) (.inl ⟨rfl, rfl⟩) (inv_ask hi)
  by_cases k2 : kd = 2
  · subst k2
    exact ord_turn h (kd := 2) (fr := 10) (tO := 11) (by omega) (do_2 _ _ _ _) (by omega) (.inr ⟨rfl, rfl⟩) (inv_leave hi)
  by_cases k3 : kd = 3
  · subst k3
    have e : doP P x.σ x.sp 3 i = ((aloneP P x.σ x.sp i).1, (aloneP P x.σ x.sp i).2, x.sp) := rfl
    rw [ord_plain (c := ⟨3, i⟩) (by simp only; omega) (by simp only [e]; omega)]
    simp only [e]
    exact h.keep (inv_alone hi) (fun _ => Iff.rfl)
  · have e : doP P x.σ x.sp kd i = (false, x.σ, x.sp) := by unfold doP; rw [if_neg k0, if_neg k1, if_neg k2, if_neg k3]
    rw [ord_plain (c := ⟨kd, i⟩) (by simp only; omega) (by simp only [e]; omega)]
    simp only [e]
    exact h.keep hi (fun _ => Iff.rfl)
def wP (p : Int) : Nat := if p = 1 then 10 else if p = 2 then 9 else if p = 3 then 8 else if p = 4 then 7 else if p = 5 then 6 else if p = 10 then 5 else if p = 11 then 4 else if p = 12 then 3 else if p = 13 then 2 else if p = 14 then 1 else 0
theorem wP_le (p : Int) : wP p ≤ 10 := by unfold wP; repeat (first | split | omega)
theorem set_wt {sp : List Sp} {i : Int} {s' : Sp} (h : wP s'.pc < wP (spOf sp i).pc) (hp : (spOf sp i).pc ≠ 0) : wts wP (sp.set i.toNat s') < wts wP sp := by
  obtain ⟨i0, i1⟩ := spOf_range hp
  have := wts_spOf wP sp i i0 i1 s'
  omega
def core (x : St) : List Sp × (List Int × Nat) := (x.sp, (x.σ.ws, x.σ.t))
def getC (c : List Sp × (List Int × Nat)) (p : Int) : Int := (⟨c.2.1, c.2.2, 0, 0, 0, false⟩ : Ar).get p
theorem getC_core (x : St) (p : Int) : getC (core x) p = x.σ.get p := rfl
theorem core_read (σ : Ar) (kd p v : Int) : (σ.op kd p false v).ws = σ.ws ∧ (σ.op kd p false v).t = σ.t := by
  refine ⟨?_, op_t _ _ _ _ _⟩
  unfold Ar.op
  split <;> rfl
def RdyP (P : Par) (c : List Sp × (List Int × Nat)) (i : Nat) : Prop :=
  ((spOf c.1 i).pc = 1 ∨ (spOf c.1 i).pc = 2 ∨ (spOf c.1 i).pc = 3 ∨ (spOf c.1 i).pc = 4 ∨ (spOf c.1 i).pc = 11 ∨ (spOf c.1 i).pc = 12 ∨ (spOf c.1 i).pc = 14 ∨ ((spOf c.1 i).pc = 5 ∧ getC c (wt P (i + 1)) = 0) ∨ ((spOf c.1 i).pc = 13 ∧ getC c (nx P (i + 1)) ≠ 0)) ∨ (spOf c.1 i).pc = 10
theorem rndP (P : Par) (n : Nat) : Rnd (ordS P) core (fun c => wts wP c.1) (fun x => OrdP P x ∧ x.sp.length = n) (RdyP P) n := by
  have dn : ∀ (x : St) (i : Nat), OrdP P x → (wts wP (ordS P x ⟨0, i⟩).sp < wts wP x.sp ∨ core (ordS P x ⟨0, i⟩) = core x) ∧
      (((spOf x.sp i).pc = 1 ∨ (spOf x.sp i).pc = 2 ∨ (spOf x.sp i).pc = 3 ∨ (spOf x.sp i).pc = 4 ∨ (spOf x.sp i).pc = 11 ∨ (spOf x.sp i).pc = 12 ∨ (spOf x.sp i).pc = 14 ∨ ((spOf x.sp i).pc = 5 ∧ x.σ.get (wt P (i + 1)) = 0) ∨ ((spOf x.sp i).pc = 13 ∧ x.σ.get (nx P (i + 1)) ≠ 0)) → wts wP (ordS P x ⟨0, i⟩).sp < wts wP x.sp) := by
    intro x i ⟨q, s, h⟩
    show (wts wP (stepP P x.σ x.sp i).2.2 < _ ∨ ((stepP P x.σ x.sp i).2.2, ((stepP P x.σ x.sp i).2.1.ws, (stepP P x.σ x.sp i).2.1.t)) = (x.sp, (x.σ.ws, x.σ.t))) ∧ (_ → wts wP (stepP P x.σ x.sp i).2.2 < _)
    have both : ∀ {A : Prop} {B : Prop}, A → (A ∨ B) ∧ (∀ C : Prop, C → A) := fun a => ⟨.inl a, fun _ _ => a⟩
    rcases h.inv.pcs (i : Int) with p | p | p | p | p | p | p | p | p | p | p
    · rw [step_no (.inl p)]; exact ⟨.inr rfl, fun h => by omega⟩
    · rw [step_1 p]
      have := set_wt (sp := x.sp) (i := i) (s' := { spOf x.sp i with pc := 2 }) (by rw [p]; show wP 2 < wP 1; decide) (by omega)
      exact ⟨.inl this, fun _ => this⟩
    · rw [step_2 p]
      have := set_wt (sp := x.sp) (i := i) (s' := { spOf x.sp i with pc := 3 }) (by rw [p]; show wP 3 < wP 2; decide) (by omega)
      exact ⟨.inl this, fun _ => this⟩
    · rw [step_3 p]
      have := set_wt (sp := x.sp) (i := i) (s' := { spOf x.sp i with pc := if x.σ.get P.tail = 0 then 10 else 4, a := x.σ.get P.tail }) (by rw [p]; show wP (if x.σ.get P.tail = 0 then 10 else 4) < wP 3; split <;> decide) (by omega)
      exact ⟨.inl this, fun _ => this⟩
    · rw [step_4 p]
      have := set_wt (sp := x.sp) (i := i) (s' := { spOf x.sp i with pc := 5 }) (by rw [p]; show wP 5 < wP 4; decide) (by omega)
      exact ⟨.inl this, fun _ => this⟩
    · rw [step_5 p]
      by_cases hg : x.σ.get (wt P (i + 1)) = 0
      · simp only [if_pos hg]
        have := set_wt (sp := x.sp) (i := i) (s' := { spOf x.sp i with pc := 10 }) (by rw [p]; show wP 10 < wP 5; decide) (by omega)
        exact ⟨.inl this, fun _ => this⟩
      · simp only [if_neg hg]
        obtain ⟨i0, i1⟩ := spOf_range (sp := x.sp) (i := (i : Int)) (by omega)
        rw [set_same i0 i1 (by rw [← p]), (core_read _ _ _ _).1, (core_read _ _ _ _).2]
        refine ⟨.inr rfl, fun hh => ?_⟩
        exfalso
        rcases hh with hh | hh | hh | hh | hh | hh | hh | hh | hh
        all_goals first | omega | exact hg hh.2
    · rw [step_no (.inr p)]; exact ⟨.inr rfl, fun h => by omega⟩
    · rw [step_look (.inl p)]
      have := set_wt (sp := x.sp) (i := i) (s' := { spOf x.sp i with pc := if x.σ.get (nx P (i + 1)) = 0 then (if (spOf x.sp i).pc = 11 then 12 else 13) else 14, a := x.σ.get (nx P (i + 1)) }) (by rw [p]; show wP (if x.σ.get (nx P (i + 1)) = 0 then (if (11 : Int) = 11 then 12 else 13) else 14) < wP 11; split <;> decide) (by omega)
      exact ⟨.inl this, fun _ => this⟩
    · rw [step_12 p]
      have := set_wt (sp := x.sp) (i := i) (s' := { spOf x.sp i with pc := if (x.σ.has P.tail && (x.σ.get P.tail == (i : Int) + 1)) = true then 0 else 13 }) (by rw [p]; show wP (if (x.σ.has P.tail && (x.σ.get P.tail == (i : Int) + 1)) = true then 0 else 13) < wP 12; split <;> decide) (by omega)
      exact ⟨.inl this, fun _ => this⟩
    · rw [step_look (.inr p)]
      by_cases hg : x.σ.get (nx P (i + 1)) = 0
      · simp only [if_pos hg, if_neg (show ¬ (spOf x.sp i).pc = 11 by omega)]
        obtain ⟨i0, i1⟩ := spOf_range (sp := x.sp) (i := (i : Int)) (by omega)
        have ha := h.inv.pa i (.inr p)
        rw [set_same i0 i1 (by rw [hg, ← p, ← ha]), (core_read _ _ _ _).1, (core_read _ _ _ _).2]
        refine ⟨.inr rfl, fun hh => ?_⟩
        exfalso
        rcases hh with hh | hh | hh | hh | hh | hh | hh | hh | hh
        all_goals first | omega | exact hh.2 hg
      · simp only [if_neg hg]
        have := set_wt (sp := x.sp) (i := i) (s' := { spOf x.sp i with pc := 14, a := x.σ.get (nx P (i + 1)) }) (by rw [p]; show wP 14 < wP 13; decide) (by omega)
        exact ⟨.inl this, fun _ => this⟩
    · rw [step_14 p]
      have := set_wt (sp := x.sp) (i := i) (s' := { spOf x.sp i with pc := 0 }) (by rw [p]; show wP 0 < wP 14; decide) (by omega)
      exact ⟨.inl this, fun _ => this⟩
  have dl : ∀ (x : St) (i : Nat), ((spOf x.sp i).pc = 10 → wts wP (ordS P x ⟨2, i⟩).sp < wts wP x.sp) ∧ (wts wP (ordS P x ⟨2, i⟩).sp < wts wP x.sp ∨ core (ordS P x ⟨2, i⟩) = core x) := by
    intro x i
    have hb : turnB x.sp i 10 = true → wts wP (turnS x.sp i 10 11) < wts wP x.sp := by
      intro ht
      obtain ⟨⟨i0, i1⟩, hp⟩ := turn_true ht
      unfold turnS
      rw [if_pos ht]
      exact set_wt (s' := { spOf x.sp i with pc := 11 }) (by rw [hp]; show wP 11 < wP 10; decide) (by omega)
    refine ⟨fun hp => ?_, ?_⟩
    · obtain ⟨i0, i1⟩ := spOf_range (sp := x.sp) (i := (i : Int)) (by omega)
      exact hb (by simp [turnB]; omega)
    · show wts wP (turnS x.sp i 10 11) < _ ∨ (turnS x.sp i 10 11, (x.σ.ws, x.σ.t)) = (x.sp, (x.σ.ws, x.σ.t))
      cases ht : turnB x.sp (i : Int) 10
      · exact .inr (by rw [turn_no 11 ht])
      · exact .inl (hb ht)
  refine ⟨fun x c hx => ⟨ord_do hx.1 c, (do_len P x.σ x.sp c.kind c.i).trans hx.2⟩, fun x i k hk hx => ?_, fun x hx hp => ?_, fun x i hx hr => ?_⟩
  · rcases hk with rfl | rfl
    · exact (dn x i hx.1).1
    · exact (dl x i).2
  · obtain ⟨⟨q, s, h⟩, hl⟩ := hx
    obtain ⟨k, k1, k2⟩ := wts_pos wP x.sp hp
    have k1 : k < x.sp.length := k1
    have hin : ∀ j : Int, inq (spOf x.sp j) → ∃ m : Nat, j = m ∧ m < n := by
      intro j hj
      obtain ⟨j0, jl⟩ := inq_range hj
      exact ⟨j.toNat, by omega, by omega⟩
    rcases h.inv.pcs (k : Int) with p | p | p | p | p
    · have k2 : 0 < wP (spOf x.sp (k : Int)).pc := k2
      rw [p] at k2; exact absurd k2 (by decide)
    · exact ⟨k, by omega, .inl (.inl p)⟩
    · exact ⟨k, by omega, .inl (.inr (.inl p))⟩
    · exact ⟨k, by omega, .inl (.inr (.inr (.inl p)))⟩
    · have hm := (h.inv.mem (k : Int)).2 p
      have hch := h.inv.ch
      cases q with
      | nil => simp at hm
      | cons j q =>
        have j1 := (h.inv.mem j).1 (by simp)
        have j2 := h.inv.hd j rfl
        obtain ⟨m, rfl, hmn⟩ := hin j j1
        rcases j1 with j1 | j1 | j1 | j1 | j1 | j1 | j1
        · exact absurd j1 j2.1
        · exact ⟨m, hmn, .inl (.inr (.inr (.inr (.inr (.inr (.inr (.inr (.inl ⟨j1, j2.2 j1⟩))))))))⟩
        · exact ⟨m, hmn, .inr j1⟩
        · exact ⟨m, hmn, .inl (.inr (.inr (.inr (.inr (.inl j1)))))⟩
        · exact ⟨m, hmn, .inl (.inr (.inr (.inr (.inr (.inr (.inl j1))))))⟩
        · rcases h.inv.linked (m : Int) (.inr (.inr (.inr (.inl j1)))) with ⟨j', t, hq, hj | hj⟩ | ⟨hq, _⟩
          · have hj' := (h.inv.mem j').1 (by rw [hq]; simp)
            obtain ⟨m', rfl, hm'⟩ := hin j' hj'
            exact ⟨m', hm', .inl (.inr (.inr (.inr (.inl hj.1))))⟩
          · have hj' := (h.inv.mem j').1 (by rw [hq]; simp)
            obtain ⟨m', rfl, hm'⟩ := hin j' hj'
            exact ⟨m, hmn, .inl (.inr (.inr (.inr (.inr (.inr (.inr (.inr (.inr ⟨j1, by show x.σ.get (nx P ((m : Int) + 1)) ≠ 0; rw [hj.2]; omega⟩))))))))⟩
          · exact absurd hq (h.inv.p13 (m : Int) j1)
        · exact ⟨m, hmn, .inl (.inr (.inr (.inr (.inr (.inr (.inr (.inl j1)))))))⟩
  · obtain ⟨hx, _⟩ := hx
    have h1 := dn x i hx
    have h2 := dl (ordS P x ⟨0, i⟩) i
    have g : wts wP (ordS P x ⟨0, i⟩).sp < wts wP x.sp → wts wP (ordS P (ordS P x ⟨0, i⟩) ⟨2, i⟩).sp < wts wP x.sp := by
      intro h3
      rcases h2.2 with h4 | h4
      · omega
      · rw [show (ordS P (ordS P x ⟨0, i⟩) ⟨2, i⟩).sp = (ordS P x ⟨0, i⟩).sp from congrArg Prod.fst h4]; exact h3
    rcases hr with hr | hr
    · exact g (h1.2 hr)
    · have hr : (spOf x.sp i).pc = 10 := hr
      have e : (ordS P x ⟨0, i⟩).sp = x.sp := by
        show (stepP P x.σ x.sp i).2.2 = _
        rw [step_no (.inr hr)]
      have h3 := h2.1 (by rw [e]; exact hr)
      rw [e] at h3
      exact h3
theorem ord_end {P : Par} {n : Nat} {x : St} (h : OrdP P x) (hl : x.sp.length = n) (k : Nat) (hk : 10 * n < k) : ∃ y, (rActs n k).foldl (ordS P) x = y ∧ (∀ i, (spOf y.sp i).pc = 0) ∧ y.doors = y.held := by
  refine ⟨_, rfl, ?_⟩
  rw [fold_rounds]
  have hz := rounds_rest (rndP P n) ⟨h, hl⟩ k (by have := wts_le wP 10 wP_le x.sp; rw [hl] at this; show wts wP x.sp < k; omega)
  obtain ⟨⟨q, s, hy⟩, hyl⟩ := rounds_good (rndP P n) ⟨h, hl⟩ k
  have hz : wts wP (rounds (ordS P) n x k).sp = 0 := hz
  generalize rounds (ordS P) n x k = y at *
  have h0 : ∀ i, (spOf y.sp i).pc = 0 := by
    intro i
    by_cases hi : 0 ≤ i ∧ i < y.sp.length
    · have h1 := wts_zero wP y.sp hz i hi
      rcases hy.inv.pcs i with p | p | p | p | p | p | p | p | p | p | p
      · exact p
      all_goals (rw [p] at h1; exact absurd h1 (by decide))
    · rw [spOf_out (by omega)]; rfl
  refine ⟨h0, ?_⟩
  have hq : q = [] := by
    cases q with
    | nil => rfl
    | cons k q =>
      have := (hy.inv.mem k).1 (by simp)
      have := h0 k
      unfold inq outs at *
      omega
  have hh : y.held = s := by
    rcases hy.hh with ⟨i, h1, _⟩ | ⟨_, e⟩
    · have := h0 i
      unfold outs at h1
      omega
    · exact e
  rw [hy.dl, hq, hh, List.append_nil]
theorem ord_fold {P : Par} (l : List Ac) : ∀ (x : St), OrdP P x → OrdP P (l.foldl (ordS P) x) := by
  induction l with
  | nil => exact fun _ h => h
  | cons c l ih => exact fun x h => ih _ (ord_do h c)
theorem zero_get (n t : Nat) (q : Int) : (⟨zerosW n, t, 0, 0, 0, false⟩ : Ar).get q = 0 := by
  unfold Ar.get
  split
  · show (List.replicate n (0 : Int)).getD _ 0 = 0
    rw [List.getD_eq_getElem?_getD, List.getElem?_replicate]
    split <;> rfl
  · rfl
theorem zero_spot (n : Nat) (i : Int) : spOf (List.replicate n sp0) i = sp0 := by
  unfold spOf
  split
  · rw [List.getD_eq_getElem?_getD, List.getElem?_replicate]
    split <;> rfl
  · rfl
theorem inv_start (n : Nat) (h1 : n ≤ 32) : Inv ⟨1⟩ (⟨zerosW 100, 1 + 2 * n, 0, 0, 0, false⟩ : Ar) (List.replicate n sp0) [] := by
  have hp : ∀ i, (spOf (List.replicate n sp0) i).pc = 0 := fun i => by rw [zero_spot]; rfl
  have hq : ∀ i, ¬ inq (spOf (List.replicate n sp0) i) := by
    intro i h; have := hp i; unfold inq outs at h; omega
  refine { hl := ?_, t1 := by decide, t2 := ?_, pcs := fun i => .inl (hp i), ar := fun i => ?_, mem := fun i => ⟨fun h => by simp at h, fun h => absurd h (hq i)⟩, nd := List.nodup_nil, first := fun i h => absurd (.inr (.inr h)) (hq i), gT := zero_get _ _ _, ch := trivial, hd := fun i h => by simp at h, p2 := fun i h => by have := hp i; omega, p3 := fun i h => by have := hp i; omega, p13 := fun i h => by have := hp i; omega, pa := fun i h => by have := hp i; omega, p14 := fun i h => by have := hp i; omega }
  · show 1 + 2 * n ≤ (zerosW 100).length
    have : (zerosW 100).length = 100 := List.length_replicate
    omega
  · rw [List.length_replicate]; show (1 : Int) + 2 * n ≤ ((1 + 2 * n : Nat) : Int); omega
  · rw [zero_spot]; exact ⟨Int.le_refl _, by show (0 : Int) ≤ _; omega⟩
theorem ord_start (n : Nat) (h1 : n ≤ 32) : OrdP ⟨1⟩ ⟨(⟨zerosW 100, 1 + 2 * n, 0, 0, 0, false⟩ : Ar), List.replicate n sp0, [], []⟩ := by
  refine ⟨_, [], inv_start n h1, rfl, .inr ⟨fun i hi => ?_, rfl⟩⟩
  have hi : outs (spOf (List.replicate n sp0) i) := hi
  rw [zero_spot] at hi
  unfold outs sp0 at hi
  simp at hi
end Go.Proofs.YtfnmggmgdmokcaaGreat.Mc

/- Package mcs: slots, spots, turns. -/
namespace Go.Proofs.YtfnmggmgdmokcaaGreat.Mc
open Go.RowKit Go.Proofs.YtfnmggmgdmokcaaGreat.Ara Go.Proofs.YtfnmggmgdmokcaaGreat.Lok

def LkAt (W : World) (gl ga ha hs : Nat) (P : Par) (σ : Ar) (sp : List Sp) : Prop :=
  ArAt W ga ha σ ∧ SpAt W hs sp ∧ sp.length ≤ 32 ∧ (∃ c : Nat, W.heap[gl]? = some (.cells #[.pointer (some ⟨ga, 0, none⟩), .int .i64 P.tail, .slice (some ⟨hs, 0, none⟩) sp.length c] 149 (0, 0))) ∧ gl ≠ ga ∧ gl ≠ ha ∧ gl ≠ hs ∧ hs ≠ ga ∧ hs ≠ ha
theorem LkAt.mod {S : List Nat} {W W' : World} {gl ga ha hs : Nat} {P : Par} {σ : Ar} {sp : List Sp} (k : LkAt W gl ga ha hs P σ sp) (hm : Mod S W W') (h1 : gl ∉ S) (h2 : ga ∉ S) (h3 : ha ∉ S) (h4 : hs ∉ S) : LkAt W' gl ga ha hs P σ sp := by
  obtain ⟨k1, k2, k3, ⟨c, k4⟩, k5⟩ := k
  exact ⟨k1.mod hm h2 h3, k2.mod hm h4, k3, ⟨c, hm.blk k4 h1⟩, k5⟩
theorem LkAt.same {W W' : World} {gl ga ha hs : Nat} {P : Par} {σ : Ar} {sp : List Sp} (k : LkAt W gl ga ha hs P σ sp) (hb : Below W.heap.size W W') : LkAt W' gl ga ha hs P σ sp :=
  k.mod (S := []) (Mod.of_below hb) (by simp) (by simp) (by simp) (by simp)
theorem LkAt.drewN {W : World} {gl ga ha hs : Nat} {P : Par} {σ : Ar} {sp : List Sp} (k : LkAt W gl ga ha hs P σ sp) (n : Nat) : LkAt (W.drewN n) gl ga ha hs P σ sp := k
theorem LkAt.arena {W W' : World} {gl ga ha hs : Nat} {P : Par} {σ σ' : Ar} {sp : List Sp} (k : LkAt W gl ga ha hs P σ sp) (ha' : ArAt W' ga ha σ') (hm : Mod [ga, ha] W W') : LkAt W' gl ga ha hs P σ' sp := by
  obtain ⟨_, k2, k3, ⟨c, k4⟩, d1, d2, d3, d4, d5⟩ := k
  exact ⟨ha', k2.mod hm (by simp; omega), k3, ⟨c, hm.blk k4 (by simp; omega)⟩, d1, d2, d3, d4, d5⟩
theorem LkAt.spots {W W' : World} {gl ga ha hs : Nat} {P : Par} {σ : Ar} {sp sp' : List Sp} (k : LkAt W gl ga ha hs P σ sp) (hs' : SpAt W' hs sp') (hm : Mod [hs] W W') (hl : sp'.length = sp.length) : LkAt W' gl ga ha hs P σ sp' := by
  obtain ⟨k1, _, k3, ⟨c, k4⟩, d1, d2, d3, d4, d5⟩ := k
  refine ⟨k1.mod hm (by simp; omega) (by simp; omega), hs', by omega, ⟨c, ?_⟩, d1, d2, d3, d4, d5⟩
  have := hm.blk k4 (by simp; omega)
  rw [hl]
  exact this
theorem LkAt.heads {W : World} {gl ga ha hs : Nat} {P : Par} {σ : Ar} {sp : List Sp} (k : LkAt W gl ga ha hs P σ sp) : (∃ c : Nat, W.cell? ⟨gl, 0, none⟩ = some (.pointer (some ⟨ga, 0, none⟩)) ∧ W.cell? ⟨gl, 1, none⟩ = some (.int .i64 P.tail) ∧ W.cell? ⟨gl, 2, none⟩ = some (.slice (some ⟨hs, 0, none⟩) sp.length c)) ∧ sp.length ≤ 32 := by
  obtain ⟨_, _, k3, ⟨c, k4⟩, _⟩ := k
  exact ⟨⟨c, blk_cell k4 0 (by simp), blk_cell k4 1 (by simp), blk_cell k4 2 (by simp)⟩, k3⟩
section
variable (gl ga ha hs : Nat) (P : Par) (σ : Ar) (sp : List Sp) (w : World) (H : LkAt w gl ga ha hs P σ sp)
include H
theorem slots_lk : Calls Tryz.prog 176 #[.pointer (some ⟨gl, 0, none⟩)] w fun e w' => e = .returned (.int .i64 sp.length) ∧ w' = w := by
  obtain ⟨⟨cc, q0, q1, q2⟩, hl⟩ := H.heads
  clear H
  go_enter Tryz.func176, Tryz.ntmps176
  go_wp2_with fail
  go_ret
  exact ⟨rfl, rfl⟩
theorem spot_out_lk (i : Int) (hi : i < 0 ∨ (sp.length : Int) ≤ i) : Calls Tryz.prog 181 #[.pointer (some ⟨gl, 0, none⟩), .int .i64 i] w fun e w' => e = .returned (.pointer none) ∧ w' = w := by
  have HS := Lib.hid (slots_lk gl ga ha hs P σ sp w H)
  obtain ⟨⟨cc, q0, q1, q2⟩, hl⟩ := H.heads
  clear H
  by_cases h0 : i < 0
  · go_enter Tryz.func181, Tryz.ntmps181
    go_wp2_with fail
    go_ret
    exact ⟨rfl, rfl⟩
  · have h1 : (sp.length : Int) ≤ i := by omega
    go_enter Tryz.func181, Tryz.ntmps181
    go_wp2_with fail
    refine (HS.out).mono ?_
    rintro e wx ⟨rfl, hwx⟩
    obtain rfl := hwx.symm
    go_wp2_with fail
    go_ret
    exact ⟨rfl, rfl⟩
theorem spot_in_lk (k : Nat) (hk : k < sp.length) : Calls Tryz.prog 181 #[.pointer (some ⟨gl, 0, none⟩), .int .i64 (k : Int)] w fun e w' => e = .returned (.pointer (some ⟨hs, k * 4, none⟩)) ∧ w' = w := by
  have HS := Lib.hid (slots_lk gl ga ha hs P σ sp w H)
  obtain ⟨⟨cc, q0, q1, q2⟩, hl⟩ := H.heads
  have h1 : (k : Int) < (sp.length : Int) := by omega
  have h2 : (0 : Int) ≤ (k : Int) := by omega
  clear H
  go_enter Tryz.func181, Tryz.ntmps181
  go_wp2_with fail
  refine (HS.out).mono ?_
  rintro e wx ⟨rfl, hwx⟩
  obtain rfl := hwx.symm
  go_wp2_with fail
  go_ret
  exact ⟨rfl, rfl⟩
theorem Spot_lk (i : Int) : Calls Tryz.prog 177 #[.pointer (some ⟨gl, 0, none⟩), .int .i64 i] w fun e w' => e = .returned (.agg #[.int .i64 (spOf sp i).pc, .int .i64 (spOf sp i).a, .int .i64 (spOf sp i).b, .int .i64 (spOf sp i).c]) ∧ Below w.heap.size w w' := by
  by_cases hi : i < 0 ∨ (sp.length : Int) ≤ i
  · rw [spOf_out hi]
    have HS := Lib.hid (fun W K => spot_out_lk gl ga ha hs P σ sp W K i hi)
    have HH := Lib.hid (H.same (below_new w (.cells #[.int .i64 0, .int .i64 0, .int .i64 0, .int .i64 0] 40)))
    clear H hi
    go_enter Tryz.func177, Tryz.ntmps177
    go_wp2_with fail
    refine (HS.out _ HH.out).mono ?_
    rintro e wx ⟨rfl, hwx⟩
    obtain rfl := hwx.symm
    go_wp2_with fail
    exact bodyPost_ret (v := .agg #[.int .i64 0, .int .i64 0, .int .i64 0, .int .i64 0]) (by simp [results, Tryz.results177, go_sem]) rfl ⟨rfl, (Below.refl _ _).alloc (Nat.le_refl _) _⟩
  · obtain ⟨k, rfl⟩ := Int.eq_ofNat_of_zero_le (show 0 ≤ i by omega)
    have hk : k < sp.length := by omega
    have HS := Lib.hid (fun W K => spot_in_lk gl ga ha hs P σ sp W K k hk)
    have HH := Lib.hid (H.same (below_new w (.cells #[.int .i64 0, .int .i64 0, .int .i64 0, .int .i64 0] 40)))
    obtain ⟨c0, c1, c2, c3, _⟩ := H.2.1.cells k hk
    have hlt := H.2.1.lt
    have e0 := spOf_in hk
    rw [e0]
    clear H hi e0
    generalize sp[k] = s at *
    obtain ⟨xp, xa, xb, xc⟩ := s
    simp only at c0 c1 c2 c3 ⊢
    go_enter Tryz.func177, Tryz.ntmps177
    go_wp2_with fail
    refine (HS.out _ HH.out).mono ?_
    rintro e wx ⟨rfl, hwx⟩
    obtain rfl := hwx.symm
    go_wp2_with fail
    exact bodyPost_ret (v := .agg #[.int .i64 xp, .int .i64 xa, .int .i64 xb, .int .i64 xc]) (by simp [results, Tryz.results177, go_sem]) rfl ⟨rfl, (Below.refl _ _).alloc (Nat.le_refl _) _⟩
theorem turn_lk (i fr tO : Int) : Calls Tryz.prog 180 #[.pointer (some ⟨gl, 0, none⟩), .int .i64 i, .int .i64 fr, .int .i64 tO] w fun e w' => e = .returned (.bool (turnB sp i fr)) ∧ LkAt w' gl ga ha hs P σ (turnS sp i fr tO) ∧ Mod [hs] w w' := by
  by_cases hi : i < 0 ∨ (sp.length : Int) ≤ i
  · rw [turn_out hi, turnS_out hi]
    have HS := Lib.hid (spot_out_lk gl ga ha hs P σ sp w H i hi)
    have HH := Lib.hid H
    clear H hi
    go_enter Tryz.func180, Tryz.ntmps180
    go_wp2_with fail
    refine (HS.out).mono ?_
    rintro e wx ⟨rfl, hwx⟩
    obtain rfl := hwx.symm
    go_wp2_with fail
    go_ret
    exact ⟨rfl, HH.out, Mod.refl _ _⟩
  · obtain ⟨k, rfl⟩ := Int.eq_ofNat_of_zero_le (show 0 ≤ i by omega)
    have hk : k < sp.length := by omega
    have HS := Lib.hid (spot_in_lk gl ga ha hs P σ sp w H k hk)
    have c0 := (H.2.1.cells k hk).1
    have f0 := (H.2.1.cells k hk).2.2.2.2 (k * 4)
    have HH := Lib.hid H
    have hm : Mod [hs] w (w.setCell ⟨hs, k * 4, none⟩ (.int .i64 tO)) := (Mod.refl _ _).setCell (by simp) _
    have HT := Lib.hid (H.spots (H.2.1.setPc k hk tO) hm (by rw [List.length_set]))
    rw [turn_in hk, turnS_in hk]
    by_cases hp : sp[k].pc = fr
    · rw [if_pos hp, beq_iff_eq.2 hp]
      rw [hp] at c0
      have e1 := ibne_no (rfl : fr = fr)
      generalize sp.set k { sp[k] with pc := tO } = sp2 at *
      clear H hi hp hk
      go_enter Tryz.func180, Tryz.ntmps180
      go_wp2_with fail
      refine (HS.out).mono ?_
      rintro e wx ⟨rfl, hwx⟩
      obtain rfl := hwx.symm
      go_wp2_with fail
      go_ret
      exact ⟨rfl, HT.out, hm⟩
    · rw [if_neg hp, beq_eq_false_iff_ne.2 hp]
      have e1 := ibne hp
      generalize sp[k].pc = x at *
      clear H hi hp HT hm hk f0
      go_enter Tryz.func180, Tryz.ntmps180
      go_wp2_with fail
      refine (HS.out).mono ?_
      rintro e wx ⟨rfl, hwx⟩
      obtain rfl := hwx.symm
      go_wp2_with fail
      go_ret
      exact ⟨rfl, HH.out, Mod.refl _ _⟩
theorem Ask_lk (i : Int) : Calls Tryz.prog 174 #[.pointer (some ⟨gl, 0, none⟩), .int .i64 i] w fun e w' => e = .returned (.bool (turnB sp i 0)) ∧ LkAt w' gl ga ha hs P σ (turnS sp i 0 1) ∧ Mod [hs] w w' := by
  have HT := Lib.hid (turn_lk gl ga ha hs P σ sp w H i 0 1)
  clear H
  generalize turnB sp i 0 = b at *
  generalize turnS sp i 0 1 = sp2 at *
  go_enter Tryz.func174, Tryz.ntmps174
  go_wp2_with fail
  refine HT.out.mono ?_
  rintro e w2 ⟨rfl, h2, hm⟩
  go_wp2_with fail
  go_ret
  exact ⟨rfl, h2, hm⟩
theorem Leave_lk (i : Int) : Calls Tryz.prog 175 #[.pointer (some ⟨gl, 0, none⟩), .int .i64 i] w fun e w' => e = .returned (.bool (turnB sp i 10)) ∧ LkAt w' gl ga ha hs P σ (turnS sp i 10 11) ∧ Mod [hs] w w' := by
  have HT := Lib.hid (turn_lk gl ga ha hs P σ sp w H i 10 11)
  clear H
  generalize turnB sp i 10 = b at *
  generalize turnS sp i 10 11 = sp2 at *
  go_enter Tryz.func175, Tryz.ntmps175
  go_wp2_with fail
  refine HT.out.mono ?_
  rintro e w2 ⟨rfl, h2, hm⟩
  go_wp2_with fail
  go_ret
  exact ⟨rfl, h2, hm⟩
end

end Go.Proofs.YtfnmggmgdmokcaaGreat.Mc

