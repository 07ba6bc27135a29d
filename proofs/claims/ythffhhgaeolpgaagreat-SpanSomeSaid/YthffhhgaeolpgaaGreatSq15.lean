/- Merged texts: Qu, Qu2, Qu3, Gst, GaP, Fl3, Fl7. -/
import Derived.Test.YthffhhgaeolpgaaGreatSq14
set_option linter.unusedVariables false
/- Locks of the kinds that keep order: the queue of those who have passed the doorway. -/
namespace Go.Proofs.YthffhhgaeolpgaaGreat.Fl
open Go.RowKit Go.Proofs.YthffhhgaeolpgaaGreat.Ara Go.Proofs.YthffhhgaeolpgaaGreat.Lok

theorem list_ext_get {α : Type} {l : List α} {a : α} (h : a ∈ l) : ∃ k, ∃ hk : k < l.length, l[k] = a := by
  obtain ⟨k, hk, e⟩ := List.mem_iff_getElem.1 h
  exact ⟨k, hk, e⟩
theorem head_zero {α : Type} {l : List α} (h : 0 < l.length) : l.head? = some l[0] := by
  cases l with
  | nil => simp at h
  | cons a l => rfl
theorem spOf_turnS {sp : List Sp} {i fr to : Int} (j : Int) : spOf (turnS sp i fr to) j = if turnB sp i fr = true ∧ j = i then { spOf sp i with pc := to } else spOf sp j := by
  cases ht : turnB sp i fr with
  | false => rw [turn_no to ht, if_neg (by simp)]
  | true =>
    rw [spOf_turn to ht j]
    by_cases e : j = i
    · rw [if_pos e, if_pos ⟨rfl, e⟩]
    · rw [if_neg e, if_neg (fun h => e h.2)]
def Tkq (P : Tk.Par) (σ : Ar) (sp : List Sp) (q : List Int) : Prop := ∃ S T : Nat, Tk.Inv P σ sp S T ∧ q.length + S = T ∧ ∀ k (h : k < q.length), Tk.inq (spOf sp q[k]) ∧ (spOf sp q[k]).a = (S : Int) + k
section
variable {P : Tk.Par} {σ : Ar} {sp : List Sp} {q : List Int} (h : Tkq P σ sp q)
include h
theorem Tkq.mem (i : Int) : i ∈ q ↔ Tk.inq (spOf sp i) := by
  obtain ⟨S, T, hi, hl, hk⟩ := h
  constructor
  · intro hm
    obtain ⟨k, k1, rfl⟩ := list_ext_get hm
    exact (hk k k1).1
  · intro hq
    have ht := hi.tick i hq
    have h1 : ((spOf sp i).a - S).toNat < q.length := by omega
    have h2 := hk _ h1
    have e : q[((spOf sp i).a - S).toNat] = i := hi.inj _ _ h2.1 hq (by rw [h2.2]; omega)
    rw [← e]
    exact List.getElem_mem h1
theorem Tkq.nodup : q.Nodup := by
  obtain ⟨S, T, hi, hl, hk⟩ := h
  rw [List.Nodup, List.pairwise_iff_getElem]
  intro i j h1 h2 hij e
  have a1 := (hk i h1).2
  have a2 := (hk j h2).2
  rw [e, a2] at a1
  omega
theorem Tkq.head {i : Int} (hp : (spOf sp i).pc = 10 ∨ (spOf sp i).pc = 11) : q.head? = some i := by
  have hm := (h.mem i).2 (.inr hp)
  obtain ⟨S, T, hi, hl, hk⟩ := h
  obtain ⟨k, k1, e⟩ := list_ext_get hm
  have a1 := (hk k k1).2
  rw [e, hi.hold i hp] at a1
  obtain rfl : k = 0 := by omega
  rw [head_zero k1, e]
theorem Tkq.serves {i : Int} (hh : q.head? = some i) : σ.get (Tk.place P (spOf sp i).a) = (spOf sp i).a := by
  obtain ⟨S, T, hi, hl, hk⟩ := h
  have h0 : 0 < q.length := by cases q with | nil => simp at hh | cons a l => simp
  rw [head_zero h0] at hh
  injection hh with hh
  have := (hk 0 h0).2
  rw [hh] at this
  have e : (spOf sp i).a = (S : Int) := by rw [this]; exact Int.add_zero _
  rw [e]
  exact hi.srv
theorem Tkq.first {i : Int} (hq : Tk.inq (spOf sp i)) (hs : σ.get (Tk.place P (spOf sp i).a) = (spOf sp i).a) : q.head? = some i := by
  have hm := (h.mem i).2 hq
  obtain ⟨S, T, hi, hl, hk⟩ := h
  have ha := hi.served i hq hs
  obtain ⟨k, k1, e⟩ := list_ext_get hm
  have a1 := (hk k k1).2
  rw [e, ha] at a1
  obtain rfl : k = 0 := by omega
  rw [head_zero k1, e]
theorem Tkq.step (i : Int) : ((spOf sp i).pc = 1 ∧ Tkq P (Tk.stepP P σ sp i).2.1 (Tk.stepP P σ sp i).2.2 (q ++ [i])) ∨ ((spOf sp i).pc = 11 ∧ (Tk.stepP P σ sp i).1 = true ∧ ∃ t, q = i :: t ∧ Tkq P (Tk.stepP P σ sp i).2.1 (Tk.stepP P σ sp i).2.2 t) ∨ ((spOf sp i).pc ≠ 1 ∧ (spOf sp i).pc ≠ 11 ∧ Tkq P (Tk.stepP P σ sp i).2.1 (Tk.stepP P σ sp i).2.2 q) := by
  have hm := h.mem
  have hhd := @Tkq.head P σ sp q h
  have hfs := @Tkq.first P σ sp q h
  obtain ⟨S, T, hi, hl, hk⟩ := h
  by_cases h1 : (spOf sp i).pc = 1
  · left
    refine ⟨h1, ?_⟩
    obtain ⟨i0, i1⟩ := spOf_range (sp := sp) (i := i) (by omega)
    have hni : ¬ Tk.inq (spOf sp i) := by unfold Tk.inq; omega
    have hs := spOf_set i0 i1 { spOf sp i with pc := 2, a := σ.get P.next }
    have hv := hi.takes i _ hs hni rfl hi.gT
    rw [← hi.gT] at hv
    rw [Tk.step_1 h1]
    refine ⟨S, T + 1, hv, by simp; omega, fun k hkl => ?_⟩
    by_cases e : k < q.length
    · rw [List.getElem_append_left e]
      have hne : q[k] ≠ i := fun e2 => hni (e2 ▸ (hk k e).1)
      show Tk.inq (spOf (sp.set i.toNat _) q[k]) ∧ (spOf (sp.set i.toNat _) q[k]).a = _
      rw [hs, if_neg hne]
      exact hk k e
    · have ek : k = q.length := by simp at hkl; omega
      subst ek
      rw [List.getElem_append_right (Nat.le_refl _)]
      simp only [Nat.sub_self, List.getElem_cons_zero]
      show Tk.inq (spOf (sp.set i.toNat _) i) ∧ (spOf (sp.set i.toNat _) i).a = _
      rw [hs, if_pos rfl]
      refine ⟨.inl rfl, ?_⟩
      show σ.get P.next = _
      rw [hi.gT]
      omega
  right
  by_cases h3 : (spOf sp i).pc = 11
  · left
    have hh := hhd (.inr h3)
    have e := hi.hold i (.inr h3)
    obtain ⟨i0, i1⟩ := spOf_range (sp := sp) (i := i) (by omega)
    have hs := spOf_set i0 i1 { spOf sp i with pc := 0 }
    have hv := hi.passes i _ hs (.inr h3) rfl rfl
    rw [← e] at hv
    rw [Tk.step_11 h3]
    refine ⟨h3, rfl, ?_⟩
    cases q with
    | nil => simp at hh
    | cons a t =>
      obtain rfl : a = i := by simpa using hh
      refine ⟨t, rfl, S + 1, T, hv, by simp at hl; omega, fun k hkl => ?_⟩
      have h5 := hk (k + 1) (by simpa using hkl)
      simp only [List.getElem_cons_succ] at h5
      have hne : t[k] ≠ a := by
        intro e2
        have := h5.2
        rw [e2, e] at this
        omega
      show Tk.inq (spOf (sp.set a.toNat _) t[k]) ∧ (spOf (sp.set a.toNat _) t[k]).a = _
      rw [hs, if_neg hne]
      exact ⟨h5.1, by rw [h5.2]; omega⟩
  right
  refine ⟨h1, h3, ?_⟩
  by_cases h2 : (spOf sp i).pc = 2
  · rw [Tk.step_2 h2]
    obtain ⟨i0, i1⟩ := spOf_range (sp := sp) (i := i) (by omega)
    by_cases hc : σ.get (Tk.place P (spOf sp i).a) = (spOf sp i).a
    · have hs := spOf_set i0 i1 { spOf sp i with pc := 10 }
      rw [if_pos hc]
      refine ⟨S, T, (hi.keeps i _ hs (.inl h2) (.inl rfl) rfl (hi.served i (.inl h2) hc)).read _ _, hl, fun k hkl => ?_⟩
      have h5 := hk k hkl
      show Tk.inq (spOf (sp.set i.toNat _) q[k]) ∧ (spOf (sp.set i.toNat _) q[k]).a = _
      rw [hs]
      by_cases e : q[k] = i
      · rw [if_pos e]
        rw [e] at h5
        exact ⟨.inr (.inl rfl), h5.2⟩
      · rw [if_neg e]; exact h5
    · rw [if_neg hc]
      exact ⟨S, T, hi.read _ _, hl, hk⟩
  · rw [Tk.step_no h1 h2 h3]
    exact ⟨S, T, hi, hl, hk⟩
theorem Tkq.ask (i : Int) : Tkq P σ (turnS sp i 0 1) q := by
  have hm := h.mem
  obtain ⟨S, T, hi, hl, hk⟩ := h
  cases ht : turnB sp i 0 with
  | false => rw [turn_no 1 ht]; exact ⟨S, T, hi, hl, hk⟩
  | true =>
    have hp := (turn_true ht).2
    have hni : ¬ Tk.inq (spOf sp i) := by unfold Tk.inq; omega
    refine ⟨S, T, hi.idle i _ (spOf_turn 1 ht) hni (.inr rfl) rfl, hl, fun k hkl => ?_⟩
    have hne : q[k] ≠ i := fun e2 => hni (e2 ▸ (hk k hkl).1)
    rw [spOf_turn 1 ht, if_neg hne]
    exact hk k hkl
theorem Tkq.leave (i : Int) : Tkq P σ (turnS sp i 10 11) q := by
  obtain ⟨S, T, hi, hl, hk⟩ := h
  cases ht : turnB sp i 10 with
  | false => rw [turn_no 11 ht]; exact ⟨S, T, hi, hl, hk⟩
  | true =>
    have hp := (turn_true ht).2
    refine ⟨S, T, hi.keeps i _ (spOf_turn 11 ht) (.inr (.inl hp)) (.inr rfl) rfl (hi.hold i (.inl hp)), hl, fun k hkl => ?_⟩
    have h5 := hk k hkl
    rw [spOf_turn 11 ht]
    by_cases e : q[k] = i
    · rw [if_pos e]
      rw [e] at h5
      exact ⟨.inr (.inr rfl), h5.2⟩
    · rw [if_neg e]; exact h5
theorem Tkq.alone (i : Int) : Tkq P (Tk.aloneP P σ sp i).2 sp q := by
  obtain ⟨S, T, hi, hl, hk⟩ := h
  unfold Tk.aloneP
  split
  · exact ⟨S, T, hi.read _ _, hl, hk⟩
  · exact ⟨S, T, hi, hl, hk⟩
end
def Ptq (P : Pt.Par) (σ : Ar) (sp : List Sp) (q : List Int) : Prop := ∃ S T : Nat, Pt.Inv P σ sp S T ∧ q.length + S = T ∧ ∀ k (h : k < q.length), Pt.inq (spOf sp q[k]) ∧ (spOf sp q[k]).a = (S : Int) + k
section
variable {P : Pt.Par} {σ : Ar} {sp : List Sp} {q : List Int} (h : Ptq P σ sp q)
include h
theorem Ptq.mem (i : Int) : i ∈ q ↔ Pt.inq (spOf sp i) := by
  obtain ⟨S, T, hi, hl, hk⟩ := h
  constructor
  · intro hm
    obtain ⟨k, k1, rfl⟩ := list_ext_get hm
    exact (hk k k1).1
  · intro hq
    have ht := hi.tick i hq
    have h1 : ((spOf sp i).a - S).toNat < q.length := by omega
    have h2 := hk _ h1
    have e : q[((spOf sp i).a - S).toNat] = i := hi.inj _ _ h2.1 hq (by rw [h2.2]; omega)
    rw [← e]
    exact List.getElem_mem h1
theorem Ptq.nodup : q.Nodup := by
  obtain ⟨S, T, hi, hl, hk⟩ := h
  rw [List.Nodup, List.pairwise_iff_getElem]
  intro i j h1 h2 hij e
  have a1 := (hk i h1).2
  have a2 := (hk j h2).2
  rw [e, a2] at a1
  omega
theorem Ptq.head {i : Int} (hp : (spOf sp i).pc = 10 ∨ (spOf sp i).pc = 11) : q.head? = some i := by
  have hm := (h.mem i).2 (.inr hp)
  obtain ⟨S, T, hi, hl, hk⟩ := h
  obtain ⟨k, k1, e⟩ := list_ext_get hm
  have a1 := (hk k k1).2
  rw [e, hi.hold i hp] at a1
  obtain rfl : k = 0 := by omega
  rw [head_zero k1, e]
theorem Ptq.serves {i : Int} (hh : q.head? = some i) : σ.get (Pt.place P (spOf sp i).a) = (spOf sp i).a + 1 := by
  obtain ⟨S, T, hi, hl, hk⟩ := h
  have h0 : 0 < q.length := by cases q with | nil => simp at hh | cons a l => simp
  rw [head_zero h0] at hh
  injection hh with hh
  have := (hk 0 h0).2
  rw [hh] at this
  have e : (spOf sp i).a = (S : Int) := by rw [this]; exact Int.add_zero _
  rw [e]
  exact hi.srv
theorem Ptq.first {i : Int} (hq : Pt.inq (spOf sp i)) (hs : σ.get (Pt.place P (spOf sp i).a) = (spOf sp i).a + 1) : q.head? = some i := by
  have hm := (h.mem i).2 hq
  obtain ⟨S, T, hi, hl, hk⟩ := h
  have ha := hi.served i hq hs
  obtain ⟨k, k1, e⟩ := list_ext_get hm
  have a1 := (hk k k1).2
  rw [e, ha] at a1
  obtain rfl : k = 0 := by omega
  rw [head_zero k1, e]
theorem Ptq.step (i : Int) : ((spOf sp i).pc = 1 ∧ Ptq P (Pt.stepP P σ sp i).2.1 (Pt.stepP P σ sp i).2.2 (q ++ [i])) ∨ ((spOf sp i).pc = 11 ∧ (Pt.stepP P σ sp i).1 = true ∧ ∃ t, q = i :: t ∧ Ptq P (Pt.stepP P σ sp i).2.1 (Pt.stepP P σ sp i).2.2 t) ∨ ((spOf sp i).pc ≠ 1 ∧ (spOf sp i).pc ≠ 11 ∧ Ptq P (Pt.stepP P σ sp i).2.1 (Pt.stepP P σ sp i).2.2 q) := by
  have hm := h.mem
  have hhd := @Ptq.head P σ sp q h
  have hfs := @Ptq.first P σ sp q h
  obtain ⟨S, T, hi, hl, hk⟩ := h
  by_cases h1 : (spOf sp i).pc = 1
  · left
    refine ⟨h1, ?_⟩
    obtain ⟨i0, i1⟩ := spOf_range (sp := sp) (i := i) (by omega)
    have hni : ¬ Pt.inq (spOf sp i) := by unfold Pt.inq; omega
    have hs := spOf_set i0 i1 { spOf sp i with pc := 2, a := σ.get P.next }
    have hv := hi.takes i _ hs hni rfl hi.gT
    rw [← hi.gT] at hv
    rw [Pt.step_1 h1]
    refine ⟨S, T + 1, hv, by simp; omega, fun k hkl => ?_⟩
    by_cases e : k < q.length
    · rw [List.getElem_append_left e]
      have hne : q[k] ≠ i := fun e2 => hni (e2 ▸ (hk k e).1)
      show Pt.inq (spOf (sp.set i.toNat _) q[k]) ∧ (spOf (sp.set i.toNat _) q[k]).a = _
      rw [hs, if_neg hne]
      exact hk k e
    · have ek : k = q.length := by simp at hkl; omega
      subst ek
      rw [List.getElem_append_right (Nat.le_refl _)]
      simp only [Nat.sub_self, List.getElem_cons_zero]
      show Pt.inq (spOf (sp.set i.toNat _) i) ∧ (spOf (sp.set i.toNat _) i).a = _
      rw [hs, if_pos rfl]
      refine ⟨.inl rfl, ?_⟩
      show σ.get P.next = _
      rw [hi.gT]
      omega
  right
  by_cases h3 : (spOf sp i).pc = 11
  · left
    have hh := hhd (.inr h3)
    have e := hi.hold i (.inr h3)
    obtain ⟨i0, i1⟩ := spOf_range (sp := sp) (i := i) (by omega)
    have hs := spOf_set i0 i1 { spOf sp i with pc := 0 }
    have hv := hi.passes i _ hs (.inr h3) rfl rfl
    rw [← e] at hv
    rw [Pt.step_11 h3]
    refine ⟨h3, rfl, ?_⟩
    cases q with
    | nil => simp at hh
    | cons a t =>
      obtain rfl : a = i := by simpa using hh
      refine ⟨t, rfl, S + 1, T, hv, by simp at hl; omega, fun k hkl => ?_⟩
      have h5 := hk (k + 1) (by simpa using hkl)
      simp only [List.getElem_cons_succ] at h5
      have hne : t[k] ≠ a := by
        intro e2
        have := h5.2
        rw [e2, e] at this
        omega
      show Pt.inq (spOf (sp.set a.toNat _) t[k]) ∧ (spOf (sp.set a.toNat _) t[k]).a = _
      rw [hs, if_neg hne]
      exact ⟨h5.1, by rw [h5.2]; omega⟩
  right
  refine ⟨h1, h3, ?_⟩
  by_cases h2 : (spOf sp i).pc = 2
  · rw [Pt.step_2 h2]
    obtain ⟨i0, i1⟩ := spOf_range (sp := sp) (i := i) (by omega)
    by_cases hc : σ.get (Pt.place P (spOf sp i).a) = (spOf sp i).a + 1
    · have hs := spOf_set i0 i1 { spOf sp i with pc := 10 }
      rw [if_pos hc]
      refine ⟨S, T, (hi.keeps i _ hs (.inl h2) (.inl rfl) rfl (hi.served i (.inl h2) hc)).read _ _, hl, fun k hkl => ?_⟩
      have h5 := hk k hkl
      show Pt.inq (spOf (sp.set i.toNat _) q[k]) ∧ (spOf (sp.set i.toNat _) q[k]).a = _
      rw [hs]
      by_cases e : q[k] = i
      · rw [if_pos e]
        rw [e] at h5
        exact ⟨.inr (.inl rfl), h5.2⟩
      · rw [if_neg e]; exact h5
    · rw [if_neg hc]
      exact ⟨S, T, hi.read _ _, hl, hk⟩
  · rw [Pt.step_no h1 h2 h3]
    exact ⟨S, T, hi, hl, hk⟩
theorem Ptq.ask (i : Int) : Ptq P σ (turnS sp i 0 1) q := by
  have hm := h.mem
  obtain ⟨S, T, hi, hl, hk⟩ := h
  cases ht : turnB sp i 0 with
  | false => rw [turn_no 1 ht]; exact ⟨S, T, hi, hl, hk⟩
  | true =>
    have hp := (turn_true ht).2
    have hni : ¬ Pt.inq (spOf sp i) := by unfold Pt.inq; omega
    refine ⟨S, T, hi.idle i _ (spOf_turn 1 ht) hni (.inr rfl) rfl, hl, fun k hkl => ?_⟩
    have hne : q[k] ≠ i := fun e2 => hni (e2 ▸ (hk k hkl).1)
    rw [spOf_turn 1 ht, if_neg hne]
    exact hk k hkl
theorem Ptq.leave (i : Int) : Ptq P σ (turnS sp i 10 11) q := by
  obtain ⟨S, T, hi, hl, hk⟩ := h
  cases ht : turnB sp i 10 with
  | false => rw [turn_no 11 ht]; exact ⟨S, T, hi, hl, hk⟩
  | true =>
    have hp := (turn_true ht).2
    refine ⟨S, T, hi.keeps i _ (spOf_turn 11 ht) (.inr (.inl hp)) (.inr rfl) rfl (hi.hold i (.inl hp)), hl, fun k hkl => ?_⟩
    have h5 := hk k hkl
    rw [spOf_turn 11 ht]
    by_cases e : q[k] = i
    · rw [if_pos e]
      rw [e] at h5
      exact ⟨.inr (.inr rfl), h5.2⟩
    · rw [if_neg e]; exact h5
theorem Ptq.alone (i : Int) : Ptq P (Pt.aloneP P σ sp i).2 sp q := by
  obtain ⟨S, T, hi, hl, hk⟩ := h
  unfold Pt.aloneP
  split
  · exact ⟨S, T, hi.read _ _, hl, hk⟩
  · exact ⟨S, T, hi, hl, hk⟩
end
end Go.Proofs.YthffhhgaeolpgaaGreat.Fl

/- The queue of a lock that keeps order: how each step turns it, and how much is left to do. -/
namespace Go.Proofs.YthffhhgaeolpgaaGreat.Fl
open Go.RowKit Go.Proofs.YthffhhgaeolpgaaGreat.Ara Go.Proofs.YthffhhgaeolpgaaGreat.Lok

def dr : PK → Int
  | .tas _ => 0
  | .tic _ => 1
  | .par _ => 1
  | .mcs _ => 3
  | .clh _ => 2
def QuK : PK → Ar → List Sp → List Int → Prop
  | .tas _, _, _, _ => False
  | .tic P, σ, sp, q => Tkq P σ sp q
  | .par P, σ, sp, q => Ptq P σ sp q
  | .mcs P, σ, sp, q => Mc.Inv P σ sp q
  | .clh P, σ, sp, q => ∃ z, Cl.Inv P σ sp z q
def cK (p : PK) (H : Nat) (pc : Int) : Nat :=
  match p with
  | .mcs _ => if pc = 4 then H + 6 else if pc = 5 then H + 5 else if pc = 10 then H + 4 else if pc = 11 then 4 else if pc = 12 then 3 else if pc = 13 then 2 else if pc = 14 then 1 else 0
  | _ => if pc = 2 ∨ pc = 3 then H + 2 else if pc = 10 then H + 1 else if pc = 11 then 1 else 0
theorem Tkq.pcs {P : Tk.Par} {σ : Ar} {sp : List Sp} {q : List Int} (h : Tkq P σ sp q) (i : Int) : (spOf sp i).pc = 0 ∨ (spOf sp i).pc = 1 ∨ (spOf sp i).pc = 2 ∨ (spOf sp i).pc = 10 ∨ (spOf sp i).pc = 11 := by
  obtain ⟨S, T, hi, _⟩ := h
  have := hi.pcs i
  unfold Tk.inq at this
  omega
theorem Ptq.pcs {P : Pt.Par} {σ : Ar} {sp : List Sp} {q : List Int} (h : Ptq P σ sp q) (i : Int) : (spOf sp i).pc = 0 ∨ (spOf sp i).pc = 1 ∨ (spOf sp i).pc = 2 ∨ (spOf sp i).pc = 10 ∨ (spOf sp i).pc = 11 := by
  obtain ⟨S, T, hi, _⟩ := h
  have := hi.pcs i
  unfold Pt.inq at this
  omega
theorem clpcs {P : Cl.Par} {σ : Ar} {sp : List Sp} {z : Int} {q : List Int} (h : Cl.Inv P σ sp z q) (i : Int) : (spOf sp i).pc = 0 ∨ (spOf sp i).pc = 1 ∨ (spOf sp i).pc = 2 ∨ (spOf sp i).pc = 3 ∨ (spOf sp i).pc = 10 ∨ (spOf sp i).pc = 11 := by
  have := h.pcs i
  unfold Cl.inq Cl.inn at this
  omega
theorem mcpcs {P : Mc.Par} {σ : Ar} {sp : List Sp} {q : List Int} (h : Mc.Inv P σ sp q) (i : Int) : (spOf sp i).pc = 0 ∨ (spOf sp i).pc = 1 ∨ (spOf sp i).pc = 2 ∨ (spOf sp i).pc = 3 ∨ (spOf sp i).pc = 4 ∨ (spOf sp i).pc = 5 ∨ (spOf sp i).pc = 10 ∨ (spOf sp i).pc = 11 ∨ (spOf sp i).pc = 12 ∨ (spOf sp i).pc = 13 ∨ (spOf sp i).pc = 14 := by
  have := h.pcs i
  unfold Mc.inq Mc.outs at this
  omega
section
variable {p : PK} {σ : Ar} {sp : List Sp} {q : List Int} (h : QuK p σ sp q)
include h
theorem QuK.mem (i : Int) : i ∈ q ↔ dr p < (spOf sp i).pc := by
  cases p with
  | tas P => exact absurd h id
  | tic P => have h : Tkq P σ sp q := h; rw [h.mem i]; have := h.pcs i; unfold Tk.inq; show _ ↔ (1 : Int) < _; omega
  | par P => have h : Ptq P σ sp q := h; rw [h.mem i]; have := h.pcs i; unfold Pt.inq; show _ ↔ (1 : Int) < _; omega
  | mcs P => have h : Mc.Inv P σ sp q := h; rw [h.mem i]; have := mcpcs h i; unfold Mc.inq Mc.outs; show _ ↔ (3 : Int) < _; omega
  | clh P => obtain ⟨z, h⟩ := h; rw [h.mem i]; have := clpcs h i; unfold Cl.inq Cl.inn; show _ ↔ (2 : Int) < _; omega
theorem QuK.nodup : q.Nodup := by
  cases p with
  | tas P => exact absurd h id
  | tic P => exact Tkq.nodup h
  | par P => exact Ptq.nodup h
  | mcs P => exact Mc.Inv.nd h
  | clh P => obtain ⟨z, h⟩ := h; exact h.nd
theorem QuK.head {i : Int} (hp : 10 ≤ (spOf sp i).pc) : q.head? = some i := by
  cases p with
  | tas P => exact absurd h id
  | tic P => have h : Tkq P σ sp q := h; exact h.head (by have := h.pcs i; omega)
  | par P => have h : Ptq P σ sp q := h; exact h.head (by have := h.pcs i; omega)
  | mcs P => have h : Mc.Inv P σ sp q := h; exact h.first i (by have := mcpcs h i; unfold Mc.outs; omega)
  | clh P => obtain ⟨z, h⟩ := h; exact h.first i (by have := clpcs h i; unfold Cl.inn; omega)
theorem QuK.ask (i : Int) : QuK p (doK p σ sp 1 i).2.1 (doK p σ sp 1 i).2.2 q := by
  cases p with
  | tas P => exact absurd h id
  | tic P => exact Tkq.ask h i
  | par P => exact Ptq.ask h i
  | mcs P => exact Mc.inv_ask h
  | clh P => obtain ⟨z, h⟩ := h; exact ⟨z, Cl.inv_ask h i⟩
theorem QuK.leave (i : Int) : QuK p (doK p σ sp 2 i).2.1 (doK p σ sp 2 i).2.2 q := by
  cases p with
  | tas P => exact absurd h id
  | tic P => exact Tkq.leave h i
  | par P => exact Ptq.leave h i
  | mcs P => exact Mc.inv_leave h
  | clh P => obtain ⟨z, h⟩ := h; exact ⟨z, Cl.inv_leave h i⟩
theorem QuK.alone (i : Int) : QuK p (doK p σ sp 3 i).2.1 (doK p σ sp 3 i).2.2 q := by
  cases p with
  | tas P => exact absurd h id
  | tic P => exact Tkq.alone h i
  | par P => exact Ptq.alone h i
  | mcs P => exact Mc.inv_alone h
  | clh P => obtain ⟨z, h⟩ := h; exact ⟨z, Cl.inv_alone h i⟩
end
def QTurn (p : PK) (sp : List Sp) (q : List Int) (i : Int) (r : Bool × Ar × List Sp) : Prop :=
  ((0 < (spOf sp i).pc ∧ (spOf sp i).pc = dr p) ∧ QuK p r.2.1 r.2.2 (q ++ [i])) ∨ (10 < (spOf sp i).pc ∧ r.1 = true ∧ ∃ t, q = i :: t ∧ QuK p r.2.1 r.2.2 t) ∨ ((spOf sp i).pc ≠ dr p ∧ ¬ (10 < (spOf sp i).pc ∧ r.1 = true) ∧ QuK p r.2.1 r.2.2 q)
theorem QuK.step {p : PK} {σ : Ar} {sp : List Sp} {q : List Int} (h : QuK p σ sp q) (i : Int) : QTurn p sp q i (doK p σ sp 0 i) := by
  unfold QTurn
  cases p with
  | tas P => exact absurd h id
  | tic P =>
    have h : Tkq P σ sp q := h
    rcases h.step i with ⟨a, b⟩ | ⟨a, b, c⟩ | ⟨a, b, c⟩
    · exact .inl ⟨⟨by omega, a⟩, b⟩
    · exact .inr (.inl ⟨by omega, b, c⟩)
    · exact .inr (.inr ⟨a, fun e => by have := h.pcs i; omega, c⟩)
  | par P =>
    have h : Ptq P σ sp q := h
    rcases h.step i with ⟨a, b⟩ | ⟨a, b, c⟩ | ⟨a, b, c⟩
    · exact .inl ⟨⟨by omega, a⟩, b⟩
    · exact .inr (.inl ⟨by omega, b, c⟩)
    · exact .inr (.inr ⟨a, fun e => by have := h.pcs i; omega, c⟩)
  | mcs P =>
    have h : Mc.Inv P σ sp q := h
    show ((0 < (spOf sp i).pc ∧ (spOf sp i).pc = 3) ∧ Mc.Inv P (Mc.stepP P σ sp i).2.1 (Mc.stepP P σ sp i).2.2 (q ++ [i])) ∨ (10 < (spOf sp i).pc ∧ (Mc.stepP P σ sp i).1 = true ∧ ∃ t, q = i :: t ∧ Mc.Inv P (Mc.stepP P σ sp i).2.1 (Mc.stepP P σ sp i).2.2 t) ∨ ((spOf sp i).pc ≠ 3 ∧ ¬ (10 < (spOf sp i).pc ∧ (Mc.stepP P σ sp i).1 = true) ∧ Mc.Inv P (Mc.stepP P σ sp i).2.1 (Mc.stepP P σ sp i).2.2 q)
    rcases mcpcs h i with e | e | e | e | e | e | e | e | e | e | e
    · rw [Mc.step_no (.inl e)]; exact .inr (.inr ⟨by omega, by omega, h⟩)
    · rw [Mc.step_1 e]; exact .inr (.inr ⟨by omega, by omega, Mc.inv_1 h e⟩)
    · rw [Mc.step_2 e]; exact .inr (.inr ⟨by omega, by omega, Mc.inv_2 h e⟩)
    · rw [Mc.step_3 e]; exact .inl ⟨⟨by omega, e⟩, Mc.inv_3 h e⟩
    · rw [Mc.step_4 e]; exact .inr (.inr ⟨by omega, by omega, (Mc.inv_4 h e).1⟩)
    · rw [Mc.step_5 e]
      by_cases hg : σ.get (Mc.wt P (i + 1)) = 0
      · simp only [if_pos hg]; exact .inr (.inr ⟨by omega, by omega, (Mc.inv_5 h e hg).1⟩)
      · obtain ⟨i0, i1⟩ := spOf_range (sp := sp) (i := i) (by omega)
        simp only [if_neg hg]
        rw [Mc.set_same i0 i1 (by rw [← e])]
        exact .inr (.inr ⟨by omega, by omega, h.read _ _⟩)
    · rw [Mc.step_no (.inr e)]; exact .inr (.inr ⟨by omega, by omega, h⟩)
    · rw [Mc.step_look (.inl e)]; exact .inr (.inr ⟨by omega, by simp, Mc.inv_look h (.inl e)⟩)
    · rw [Mc.step_12 e, h.casB]
      by_cases hc : Mc.tailOf q = i + 1
      · rw [decide_eq_true hc]
        simp only [if_true]
        obtain ⟨h1, h2⟩ := Mc.inv_12 h e hc
        exact .inr (.inl ⟨by omega, by trivial, [], h2, h1⟩)
      · rw [decide_eq_false hc]
        simp only [Bool.false_eq_true, if_false]
        exact .inr (.inr ⟨by omega, by simp, Mc.inv_12b h e hc⟩)
    · rw [Mc.step_look (.inr e)]; exact .inr (.inr ⟨by omega, by simp, Mc.inv_look h (.inr e)⟩)
    · rw [Mc.step_14 e]
      obtain ⟨j, t, h1, _, hI⟩ := Mc.inv_14 h e
      exact .inr (.inl ⟨by omega, rfl, j :: t, h1, hI⟩)
  | clh P =>
    obtain ⟨z, h⟩ := h
    show ((0 < (spOf sp i).pc ∧ (spOf sp i).pc = 2) ∧ ∃ z, Cl.Inv P (Cl.stepP P σ sp i).2.1 (Cl.stepP P σ sp i).2.2 z (q ++ [i])) ∨ (10 < (spOf sp i).pc ∧ (Cl.stepP P σ sp i).1 = true ∧ ∃ t, q = i :: t ∧ ∃ z, Cl.Inv P (Cl.stepP P σ sp i).2.1 (Cl.stepP P σ sp i).2.2 z t) ∨ ((spOf sp i).pc ≠ 2 ∧ ¬ (10 < (spOf sp i).pc ∧ (Cl.stepP P σ sp i).1 = true) ∧ ∃ z, Cl.Inv P (Cl.stepP P σ sp i).2.1 (Cl.stepP P σ sp i).2.2 z q)
    rcases clpcs h i with e | e | e | e | e | e
    · rw [Cl.step_no (.inl e)]; exact .inr (.inr ⟨by omega, by omega, z, h⟩)
    · rw [Cl.step_1 e]; exact .inr (.inr ⟨by omega, by omega, z, Cl.inv_1 h e⟩)
    · rw [Cl.step_2 e]; exact .inl ⟨⟨by omega, e⟩, z, Cl.inv_2 h e⟩
    · rw [Cl.step_3 e]
      by_cases hg : σ.get (Cl.box P (spOf sp i).b) = 0
      · simp only [if_pos hg]; exact .inr (.inr ⟨by omega, by omega, z, Cl.inv_3 h e hg⟩)
      · simp only [if_neg hg]; exact .inr (.inr ⟨by omega, by omega, z, h.read _ _⟩)
    · rw [Cl.step_no (.inr e)]; exact .inr (.inr ⟨by omega, by omega, z, h⟩)
    · rw [Cl.step_11 e]
      have hh := h.first i (.inr e)
      refine .inr (.inl ⟨by omega, rfl, q.tail, ?_, _, Cl.inv_11 h e⟩)
      cases q with
      | nil => simp at hh
      | cons a t => simp at hh; rw [hh]; rfl
end Go.Proofs.YthffhhgaeolpgaaGreat.Fl

/- The queue of a lock that keeps order: how a step turns its slot's spot, and what is left to do. -/
namespace Go.Proofs.YthffhhgaeolpgaaGreat.Fl
open Go.RowKit Go.Proofs.YthffhhgaeolpgaaGreat.Ara Go.Proofs.YthffhhgaeolpgaaGreat.Lok

theorem do_set (p : PK) (σ : Ar) (sp : List Sp) (k : Nat) (hk : k < sp.length) : ∃ s', (doK p σ sp 0 k).2.2 = sp.set k s' := by
  cases p with
  | tas P =>
    show ∃ s', (Ta.stepP P σ sp k).2.2 = sp.set k s'
    unfold Ta.stepP
    rw [Int.toNat_natCast]
    repeat' (first | exact ⟨_, rfl⟩ | exact ⟨sp[k], (List.set_getElem_self _).symm⟩ | split)
  | tic P =>
    show ∃ s', (Tk.stepP P σ sp k).2.2 = sp.set k s'
    unfold Tk.stepP
    rw [Int.toNat_natCast]
    repeat' (first | exact ⟨_, rfl⟩ | exact ⟨sp[k], (List.set_getElem_self _).symm⟩ | split)
  | par P =>
    show ∃ s', (Pt.stepP P σ sp k).2.2 = sp.set k s'
    unfold Pt.stepP
    rw [Int.toNat_natCast]
    repeat' (first | exact ⟨_, rfl⟩ | exact ⟨sp[k], (List.set_getElem_self _).symm⟩ | split)
  | mcs P =>
    show ∃ s', (Mc.stepP P σ sp k).2.2 = sp.set k s'
    unfold Mc.stepP
    rw [Int.toNat_natCast]
    repeat' (first | exact ⟨_, rfl⟩ | exact ⟨sp[k], (List.set_getElem_self _).symm⟩ | split)
  | clh P =>
    show ∃ s', (Cl.stepP P σ sp k).2.2 = sp.set k s'
    unfold Cl.stepP
    rw [Int.toNat_natCast]
    repeat' (first | exact ⟨_, rfl⟩ | exact ⟨sp[k], (List.set_getElem_self _).symm⟩ | split)
theorem do_rest (p : PK) (σ : Ar) (sp : List Sp) (i : Int) (h : (spOf sp i).pc = 0 ∨ (spOf sp i).pc = 10) : doK p σ sp 0 i = (false, σ, sp) := by
  cases p with
  | tas P => show Ta.stepP P σ sp i = _; unfold Ta.stepP; rw [if_neg (by omega), if_neg (by omega), if_neg (by omega)]
  | tic P => exact Tk.step_no (by omega) (by omega) (by omega)
  | par P => exact Pt.step_no (by omega) (by omega) (by omega)
  | mcs P => exact Mc.step_no h
  | clh P => exact Cl.step_no h
theorem do_other (p : PK) (σ : Ar) (sp : List Sp) (kd i j : Int) (hj : j ≠ i) : spOf (doK p σ sp kd i).2.2 j = spOf sp j := by
  have h0 : spOf (doK p σ sp 0 i).2.2 j = spOf sp j := by
    by_cases hr : 0 ≤ i ∧ i < sp.length
    · obtain ⟨k, rfl⟩ := Int.eq_ofNat_of_zero_le hr.1
      obtain ⟨s', e⟩ := do_set p σ sp k (by omega)
      have hs := spOf_set hr.1 hr.2 s' j
      rw [Int.toNat_natCast] at hs
      rw [e, hs, if_neg hj]
    · rw [do_rest p σ sp i (.inl (by rw [spOf_out (by omega)]; rfl))]
  by_cases hk : kd < 0 ∨ 3 < kd
  · rw [do_else p σ sp kd i hk]
  rcases (show kd = 0 ∨ kd = 1 ∨ kd = 2 ∨ kd = 3 by omega) with rfl | rfl | rfl | rfl
  · exact h0
  · have ht : spOf (turnS sp i 0 1) j = spOf sp j := by rw [spOf_turnS, if_neg (fun h => hj h.2)]
    cases p with
    | tas P =>
      show spOf (Ta.askS sp i) j = _
      unfold Ta.askS
      cases hb : turnB sp i 0 with
      | false => rw [if_neg (by decide)]
      | true =>
        obtain ⟨⟨i0, i1⟩, _⟩ := turn_true hb
        rw [if_pos rfl, spOf_set i0 i1, if_neg hj]
    | _ => exact ht
  · have ht : spOf (turnS sp i 10 11) j = spOf sp j := by rw [spOf_turnS, if_neg (fun h => hj h.2)]
    cases p <;> exact ht
  · cases p <;> rfl
theorem pc_set {sp : List Sp} {i : Int} (i0 : 0 ≤ i) (i1 : i < sp.length) (s' : Sp) : (spOf (sp.set i.toNat s') i).pc = s'.pc := by rw [spOf_set i0 i1, if_pos rfl]
def Nxt (p : PK) (q : List Int) (pc pc' : Int) (b : Bool) (first : Prop) (slow : Prop) : Prop :=
  (pc = 0 → pc' = 0 ∧ b = false) ∧ (pc = 10 → pc' = 10 ∧ b = false) ∧ (0 < pc → pc < dr p → pc' = pc + 1 ∧ b = false) ∧
  (0 < pc → pc = dr p → (q = [] ∧ pc' = 10 ∧ b = true ∧ dr p = 3) ∨ (dr p < pc' ∧ pc' < 10 ∧ b = false)) ∧
  (dr p < pc → pc < 10 → (first → pc' = 10 ∧ b = true) ∧ (¬ first → b = false ∧ ((pc' = pc ∧ ¬ (dr p = 3 ∧ pc = 4)) ∨ (dr p = 3 ∧ pc = 4 ∧ pc' = 5)))) ∧
  (10 < pc → (b = true ∧ pc' = 0) ∨ (b = false ∧ 10 < pc' ∧ dr p = 3 ∧ ((pc = 11 ∧ pc' = 12) ∨ (pc = 11 ∧ pc' = 14) ∨ (pc = 12 ∧ pc' = 13) ∨ (pc = 13 ∧ pc' = 14) ∨ (pc = 13 ∧ pc' = 13 ∧ slow))))
theorem nxt_0 {p : PK} {σ : Ar} {sp : List Sp} {q : List Int} {i : Int} {F G : Prop} (hd : doK p σ sp 0 i = (false, σ, sp)) (e : (spOf sp i).pc = 0) : Nxt p q (spOf sp i).pc (spOf (doK p σ sp 0 i).2.2 i).pc (doK p σ sp 0 i).1 F G := by
  rw [hd, e]
  unfold Nxt
  simp
  intro h
  cases p <;> simp [dr] at h
theorem nxt_10 {p : PK} {σ : Ar} {sp : List Sp} {q : List Int} {i : Int} {F G : Prop} (hd : doK p σ sp 0 i = (false, σ, sp)) (e : (spOf sp i).pc = 10) : Nxt p q (spOf sp i).pc (spOf (doK p σ sp 0 i).2.2 i).pc (doK p σ sp 0 i).1 F G := by
  rw [hd, e]
  unfold Nxt
  cases p <;> simp [dr]
theorem QuK.next {p : PK} {σ : Ar} {sp : List Sp} {q : List Int} (h : QuK p σ sp q) (i : Int) : Nxt p q (spOf sp i).pc (spOf (doK p σ sp 0 i).2.2 i).pc (doK p σ sp 0 i).1 (q.head? = some i) (∃ j t, q = i :: j :: t ∧ (spOf sp j).pc = 4) := by
  cases p with
  | tas P => exact absurd h id
  | tic P =>
    have h : Tkq P σ sp q := h
    rcases h.pcs i with e | e | e | e | e
    · exact nxt_0 (do_rest _ σ sp i (.inl e)) e
    · obtain ⟨i0, i1⟩ := spOf_range (sp := sp) (i := i) (by omega)
      have hd : doK (.tic P) σ sp 0 i = _ := Tk.step_1 e
      rw [hd, pc_set i0 i1, e]
      unfold Nxt
      simp [dr]
    · obtain ⟨i0, i1⟩ := spOf_range (sp := sp) (i := i) (by omega)
      have hd : doK (.tic P) σ sp 0 i = _ := Tk.step_2 e
      by_cases hh : q.head? = some i
      · have hs := h.serves hh
        rw [hd, if_pos hs, pc_set i0 i1, e, show (σ.get (Tk.place P (spOf sp i).a) == (spOf sp i).a) = true from by simpa using hs]
        unfold Nxt
        simp [dr, hh]
      · have hs : ¬ σ.get (Tk.place P (spOf sp i).a) = (spOf sp i).a := fun hs => hh (h.first (.inl e) hs)
        rw [hd, if_neg hs, e, show (σ.get (Tk.place P (spOf sp i).a) == (spOf sp i).a) = false from by simpa using hs]
        unfold Nxt
        simp [dr, hh]
    · exact nxt_10 (do_rest _ σ sp i (.inr e)) e
    · obtain ⟨i0, i1⟩ := spOf_range (sp := sp) (i := i) (by omega)
      have hd : doK (.tic P) σ sp 0 i = _ := Tk.step_11 e
      rw [hd, pc_set i0 i1, e]
      unfold Nxt
      simp [dr]
  | par P =>
    have h : Ptq P σ sp q := h
    rcases h.pcs i with e | e | e | e | e
    · exact nxt_0 (do_rest _ σ sp i (.inl e)) e
    · obtain ⟨i0, i1⟩ := spOf_range (sp := sp) (i := i) (by omega)
      have hd : doK (.par P) σ sp 0 i = _ := Pt.step_1 e
      rw [hd, pc_set i0 i1, e]
      unfold Nxt
      simp [dr]
    · obtain ⟨i0, i1⟩ := spOf_range (sp := sp) (i := i) (by omega)
      have hd : doK (.par P) σ sp 0 i = _ := Pt.step_2 e
      by_cases hh : q.head? = some i
      · have hs := h.serves hh
        rw [hd, if_pos hs, pc_set i0 i1, e, show (σ.get (Pt.place P (spOf sp i).a) == (spOf sp i).a + 1) = true from by simpa using hs]
        unfold Nxt
        simp [dr, hh]
      · have hs : ¬ σ.get (Pt.place P (spOf sp i).a) = (spOf sp i).a + 1 := fun hs => hh (h.first (.inl e) hs)
        rw [hd, if_neg hs, e, show (σ.get (Pt.place P (spOf sp i).a) == (spOf sp i).a + 1) = false from by simpa using hs]
        unfold Nxt
        simp [dr, hh]
    · exact nxt_10 (do_rest _ σ sp i (.inr e)) e
    · obtain ⟨i0, i1⟩ := spOf_range (sp := sp) (i := i) (by omega)
      have hd : doK (.par P) σ sp 0 i = _ := Pt.step_11 e
      rw [hd, pc_set i0 i1, e]
      unfold Nxt
      simp [dr]
  | mcs P =>
    have h : Mc.Inv P σ sp q := h
    rcases mcpcs h i with e | e | e | e | e | e | e | e | e | e | e
    · exact nxt_0 (do_rest _ σ sp i (.inl e)) e
    · obtain ⟨i0, i1⟩ := spOf_range (sp := sp) (i := i) (by omega)
      have hd : doK (.mcs P) σ sp 0 i = _ := Mc.step_1 e
      rw [hd, pc_set i0 i1, e]
      unfold Nxt
      simp [dr]
    · obtain ⟨i0, i1⟩ := spOf_range (sp := sp) (i := i) (by omega)
      have hd : doK (.mcs P) σ sp 0 i = _ := Mc.step_2 e
      rw [hd, pc_set i0 i1, e]
      unfold Nxt
      simp [dr]
    · obtain ⟨i0, i1⟩ := spOf_range (sp := sp) (i := i) (by omega)
      have hd : doK (.mcs P) σ sp 0 i = _ := Mc.step_3 e
      rw [hd, pc_set i0 i1, e]
      unfold Nxt
      by_cases hq : q = []
      · have hz : σ.get P.tail = 0 := by rw [h.gT, hq]; rfl
        simp [dr, hz, hq]
      · obtain ⟨j, j1, j2⟩ := Mc.tailOf_mem hq
        have hj := h.range j j1
        have hz : ¬ σ.get P.tail = 0 := by rw [h.gT, j2]; omega
        simp [dr, hz, hq]
    · have hn : ¬ q.head? = some i := fun hh => (h.hd i hh).1 e
      obtain ⟨i0, i1⟩ := spOf_range (sp := sp) (i := i) (by omega)
      have hd : doK (.mcs P) σ sp 0 i = _ := Mc.step_4 e
      rw [hd, pc_set i0 i1, e]
      unfold Nxt
      simp [dr, hn]
    · obtain ⟨i0, i1⟩ := spOf_range (sp := sp) (i := i) (by omega)
      have hd : doK (.mcs P) σ sp 0 i = _ := Mc.step_5 e
      rw [hd, pc_set i0 i1, e]
      unfold Nxt
      by_cases hh : q.head? = some i
      · have hz := (h.hd i hh).2 e
        simp [dr, hz, hh]
      · have hz : ¬ σ.get (Mc.wt P (i + 1)) = 0 := fun hz => hh (Mc.inv_5 h e hz).2
        simp [dr, hz, hh]
    · exact nxt_10 (do_rest _ σ sp i (.inr e)) e
    · obtain ⟨i0, i1⟩ := spOf_range (sp := sp) (i := i) (by omega)
      have hd : doK (.mcs P) σ sp 0 i = _ := Mc.step_look (.inl e)
      rw [hd, pc_set i0 i1, e]
      unfold Nxt
      by_cases hz : σ.get (Mc.nx P (i + 1)) = 0 <;> simp [dr, hz]
    · obtain ⟨i0, i1⟩ := spOf_range (sp := sp) (i := i) (by omega)
      have hd : doK (.mcs P) σ sp 0 i = _ := Mc.step_12 e
      rw [hd, pc_set i0 i1, e]
      unfold Nxt
      cases hc : (σ.has P.tail && (σ.get P.tail == i + 1)) <;> simp [dr, hc]
    · obtain ⟨i0, i1⟩ := spOf_range (sp := sp) (i := i) (by omega)
      have hd : doK (.mcs P) σ sp 0 i = _ := Mc.step_look (.inr e)
      rw [hd, pc_set i0 i1, e]
      unfold Nxt
      by_cases hz : σ.get (Mc.nx P (i + 1)) = 0
      · have hs : ∃ j t, q = i :: j :: t ∧ (spOf sp j).pc = 4 := by
          rcases h.linked i (by unfold Mc.outs; omega) with ⟨j, t, h1, h2 | h2⟩ | ⟨h1, _⟩
          · exact ⟨j, t, h1, h2.1⟩
          · have hj := h.range j (by rw [h1]; simp)
            rw [hz] at h2
            omega
          · exact absurd h1 (h.p13 i e)
        obtain ⟨j, t, j1, j2⟩ := hs
        simp [dr, hz]
        exact ⟨j, ⟨t, j1⟩, j2⟩
      · simp [dr, hz]
    · obtain ⟨i0, i1⟩ := spOf_range (sp := sp) (i := i) (by omega)
      have hd : doK (.mcs P) σ sp 0 i = _ := Mc.step_14 e
      rw [hd, pc_set i0 i1, e]
      unfold Nxt
      simp [dr]
  | clh P =>
    obtain ⟨z, h⟩ := h
    rcases clpcs h i with e | e | e | e | e | e
    · exact nxt_0 (do_rest _ σ sp i (.inl e)) e
    · obtain ⟨i0, i1⟩ := spOf_range (sp := sp) (i := i) (by omega)
      have hd : doK (.clh P) σ sp 0 i = _ := Cl.step_1 e
      rw [hd, pc_set i0 i1, e]
      unfold Nxt
      simp [dr]
    · obtain ⟨i0, i1⟩ := spOf_range (sp := sp) (i := i) (by omega)
      have hd : doK (.clh P) σ sp 0 i = _ := Cl.step_2 e
      rw [hd, pc_set i0 i1, e]
      unfold Nxt
      simp [dr]
    · obtain ⟨i0, i1⟩ := spOf_range (sp := sp) (i := i) (by omega)
      have hd : doK (.clh P) σ sp 0 i = _ := Cl.step_3 e
      by_cases hh : q.head? = some i
      · have hs : σ.get (Cl.box P (spOf sp i).b) = 0 := by
          have hc := h.ch
          cases q with
          | nil => simp at hh
          | cons a t =>
            obtain rfl : a = i := by simpa using hh
            rw [hc.1]
            exact h.gz
        rw [hd, if_pos hs, pc_set i0 i1, e, show (σ.get (Cl.box P (spOf sp i).b) == 0) = true from by simpa using hs]
        unfold Nxt
        simp [dr, hh]
      · have hs : ¬ σ.get (Cl.box P (spOf sp i).b) = 0 := fun hs => hh (h.head i (.inl e) hs)
        rw [hd, if_neg hs, e, show (σ.get (Cl.box P (spOf sp i).b) == 0) = false from by simpa using hs]
        unfold Nxt
        simp [dr, hh]
    · exact nxt_10 (do_rest _ σ sp i (.inr e)) e
    · obtain ⟨i0, i1⟩ := spOf_range (sp := sp) (i := i) (by omega)
      have hd : doK (.clh P) σ sp 0 i = _ := Cl.step_11 e
      rw [hd, pc_set i0 i1, e]
      unfold Nxt
      simp [dr]
end Go.Proofs.YthffhhgaeolpgaaGreat.Fl

/- What a thread is at, by its spot. -/
namespace Go.Proofs.YthffhhgaeolpgaaGreat.Ga
open Go.RowKit Go.Proofs.YthffhhgaeolpgaaGreat.Ara Go.Proofs.YthffhhgaeolpgaaGreat.Lok

def gst (s : Sp) : Int := if s.pc = 0 then 0 else if s.pc < 10 then 1 else if s.pc = 10 then 2 else 3
end Go.Proofs.YthffhhgaeolpgaaGreat.Ga

/- Package gate: how a pick moves its thread: the plain law. -/
namespace Go.Proofs.YthffhhgaeolpgaaGreat.Ga
open Go.RowKit Go.Proofs.YthffhhgaeolpgaaGreat.Ara Go.Proofs.YthffhhgaeolpgaaGreat.Lok Go.Proofs.YthffhhgaeolpgaaGreat.Fl

def St (s : Sp) (b : Bool) (s' : Sp) : Prop := (gst s = 1 → gst s' = if b = true then 2 else 1) ∧ (gst s = 3 → gst s' = if b = true then 0 else 3)
theorem gst_1 {s : Sp} (h : s.pc ≠ 0 ∧ s.pc < 10) : gst s = 1 := by unfold gst; rw [if_neg h.1, if_pos h.2]
theorem gst_2 {s : Sp} (h : s.pc = 10) : gst s = 2 := by unfold gst; rw [if_neg (by omega), if_neg (by omega), if_pos h]
theorem gst_3 {s : Sp} (h : 10 < s.pc) : gst s = 3 := by unfold gst; rw [if_neg (by omega), if_neg (by omega), if_neg (by omega)]
theorem gst_0 {s : Sp} (h : s.pc = 0) : gst s = 0 := by unfold gst; rw [if_pos h]
theorem St.no {s s' : Sp} (h : gst s' = gst s) : St s false s' := ⟨fun e => by rw [h, e]; rfl, fun e => by rw [h, e]; rfl⟩
theorem St.c0 {s s' : Sp} (h : s.pc ≠ 0 ∧ s.pc < 10) (h' : s'.pc ≠ 0 ∧ s'.pc < 10) : St s false s' := .no (by rw [gst_1 h, gst_1 h'])
theorem St.c1 {s s' : Sp} (h : s.pc ≠ 0 ∧ s.pc < 10) (h' : s'.pc = 10) : St s true s' := ⟨fun _ => gst_2 h', fun e => by rw [gst_1 h] at e; omega⟩
theorem St.g0 {s s' : Sp} (h : 10 < s.pc) (h' : 10 < s'.pc) : St s false s' := .no (by rw [gst_3 h, gst_3 h'])
theorem St.g1 {s s' : Sp} (h : 10 < s.pc) (h' : s'.pc = 0) : St s true s' := ⟨fun e => by rw [gst_3 h] at e; omega, fun _ => gst_0 h'⟩
def StepW (r : Bool × Ar × List Sp) (sp : List Sp) (k : Nat) (s : Sp) : Prop := ∃ s', r.2.2 = sp.set k s' ∧ St s r.1 s'
theorem same_w {sp : List Sp} {k : Nat} (hk : k < sp.length) (σ : Ar) : StepW (false, σ, sp) sp k sp[k] := ⟨sp[k], by rw [List.set_getElem_self], .no rfl⟩
section
variable (σ : Ar) (sp : List Sp) (k : Nat) (hk : k < sp.length)
include hk
theorem sw_ta (P : Ta.Par) : StepW (Ta.stepP P σ sp k) sp k sp[k] := by
  unfold Ta.stepP
  rw [spOf_in hk, Int.toNat_natCast]
  by_cases h1 : sp[k].pc = 1
  · rw [if_pos h1]
    cases hb : Ta.tryB P σ with
    | true => exact ⟨_, rfl, St.c1 (by omega) rfl⟩
    | false => exact ⟨_, rfl, St.c0 (by omega) (by simp)⟩
  rw [if_neg h1]
  by_cases h2 : sp[k].pc = 2
  · rw [if_pos h2]
    exact ⟨_, rfl, St.c0 (by omega) (by simp only; split <;> omega)⟩
  rw [if_neg h2]
  by_cases h3 : sp[k].pc = 11
  · rw [if_pos h3]
    exact ⟨_, rfl, St.g1 (by omega) rfl⟩
  rw [if_neg h3]
  exact same_w hk σ
theorem sw_tk (P : Tk.Par) : StepW (Tk.stepP P σ sp k) sp k sp[k] := by
  unfold Tk.stepP
  rw [spOf_in hk, Int.toNat_natCast]
  by_cases h1 : sp[k].pc = 1
  · rw [if_pos h1]
    exact ⟨_, rfl, St.c0 (by omega) (by simp)⟩
  rw [if_neg h1]
  by_cases h2 : sp[k].pc = 2
  · rw [if_pos h2]
    by_cases hc : σ.get (Tk.place P sp[k].a) = sp[k].a
    · exact ⟨_, if_pos hc, by rw [show (σ.get (Tk.place P sp[k].a) == sp[k].a) = true from by simpa using hc]; exact St.c1 (by omega) rfl⟩
    · exact ⟨sp[k], by show (if _ then _ else _) = _; rw [if_neg hc, List.set_getElem_self], by rw [show (σ.get (Tk.place P sp[k].a) == sp[k].a) = false from by simpa using hc]; exact .no rfl⟩
  rw [if_neg h2]
  by_cases h3 : sp[k].pc = 11
  · rw [if_pos h3]
    exact ⟨_, rfl, St.g1 (by omega) rfl⟩
  rw [if_neg h3]
  exact same_w hk σ
theorem sw_pt (P : Pt.Par) : StepW (Pt.stepP P σ sp k) sp k sp[k] := by
  unfold Pt.stepP
  rw [spOf_in hk, Int.toNat_natCast]
  by_cases h1 : sp[k].pc = 1
  · rw [if_pos h1]
    exact ⟨_, rfl, St.c0 (by omega) (by simp)⟩
  rw [if_neg h1]
  by_cases h2 : sp[k].pc = 2
  · rw [if_pos h2]
    by_cases hc : σ.get (Pt.place P sp[k].a) = sp[k].a + 1
    · exact ⟨_, if_pos hc, by rw [show (σ.get (Pt.place P sp[k].a) == sp[k].a + 1) = true from by simpa using hc]; exact St.c1 (by omega) rfl⟩
    · exact ⟨sp[k], by show (if _ then _ else _) = _; rw [if_neg hc, List.set_getElem_self], by rw [show (σ.get (Pt.place P sp[k].a) == sp[k].a + 1) = false from by simpa using hc]; exact .no rfl⟩
  rw [if_neg h2]
  by_cases h3 : sp[k].pc = 11
  · rw [if_pos h3]
    exact ⟨_, rfl, St.g1 (by omega) rfl⟩
  rw [if_neg h3]
  exact same_w hk σ
theorem sw_cl (P : Cl.Par) : StepW (Cl.stepP P σ sp k) sp k sp[k] := by
  unfold Cl.stepP
  rw [spOf_in hk, Int.toNat_natCast]
  by_cases h1 : sp[k].pc = 1
  · rw [if_pos h1]
    exact ⟨_, rfl, St.c0 (by omega) (by simp)⟩
  rw [if_neg h1]
  by_cases h2 : sp[k].pc = 2
  · rw [if_pos h2]
    exact ⟨_, rfl, St.c0 (by omega) (by simp)⟩
  rw [if_neg h2]
  by_cases h2 : sp[k].pc = 3
  · rw [if_pos h2]
    by_cases hc : σ.get (Cl.box P sp[k].b) = 0
    · exact ⟨_, if_pos hc, by rw [show (σ.get (Cl.box P sp[k].b) == 0) = true from by simpa using hc]; exact St.c1 (by omega) rfl⟩
    · exact ⟨sp[k], by show (if _ then _ else _) = _; rw [if_neg hc, List.set_getElem_self], by rw [show (σ.get (Cl.box P sp[k].b) == 0) = false from by simpa using hc]; exact .no rfl⟩
  rw [if_neg h2]
  by_cases h3 : sp[k].pc = 11
  · rw [if_pos h3]
    exact ⟨_, rfl, St.g1 (by omega) rfl⟩
  rw [if_neg h3]
  exact same_w hk σ
theorem sw_mc (P : Mc.Par) : StepW (Mc.stepP P σ sp k) sp k sp[k] := by
  unfold Mc.stepP
  rw [spOf_in hk, Int.toNat_natCast]
  by_cases h1 : sp[k].pc = 1
  · rw [if_pos h1]
    exact ⟨_, rfl, St.c0 (by omega) (by simp)⟩
  rw [if_neg h1]
  by_cases h2 : sp[k].pc = 2
  · rw [if_pos h2]
    exact ⟨_, rfl, St.c0 (by omega) (by simp)⟩
  rw [if_neg h2]
  by_cases h3 : sp[k].pc = 3
  · rw [if_pos h3]
    by_cases hc : σ.get P.tail = 0
    · exact ⟨_, rfl, by rw [show (σ.get P.tail == 0) = true from by simpa using hc]; exact St.c1 (by omega) (if_pos hc)⟩
    · exact ⟨_, rfl, by rw [show (σ.get P.tail == 0) = false from by simpa using hc]; exact St.c0 (by omega) (by simp only [if_neg hc]; omega)⟩
  rw [if_neg h3]
  by_cases h4 : sp[k].pc = 4
  · rw [if_pos h4]
    exact ⟨_, rfl, St.c0 (by omega) (by simp)⟩
  rw [if_neg h4]
  by_cases h5 : sp[k].pc = 5
  · rw [if_pos h5]
    by_cases hc : σ.get (Mc.wt P ((k : Int) + 1)) = 0
    · exact ⟨_, rfl, by rw [show (σ.get (Mc.wt P ((k : Int) + 1)) == 0) = true from by simpa using hc]; exact St.c1 (by omega) (if_pos hc)⟩
    · exact ⟨_, rfl, by rw [show (σ.get (Mc.wt P ((k : Int) + 1)) == 0) = false from by simpa using hc]; exact St.c0 (by omega) (by simp only [if_neg hc]; omega)⟩
  rw [if_neg h5]
  by_cases h6 : sp[k].pc = 11
  · rw [if_pos h6]
    exact ⟨_, rfl, St.g0 (by omega) (by simp only; split <;> omega)⟩
  rw [if_neg h6]
  by_cases h7 : sp[k].pc = 12
  · rw [if_pos h7]
    cases hc : (σ.has P.tail && (σ.get P.tail == (k : Int) + 1)) with
    | true => exact ⟨_, rfl, St.g1 (by omega) (by simp)⟩
    | false => exact ⟨_, rfl, St.g0 (by omega) (by simp)⟩
  rw [if_neg h7]
  by_cases h8 : sp[k].pc = 13
  · rw [if_pos h8]
    exact ⟨_, rfl, St.g0 (by omega) (by simp only; split <;> omega)⟩
  rw [if_neg h8]
  by_cases h9 : sp[k].pc = 14
  · rw [if_pos h9]
    exact ⟨_, rfl, St.g1 (by omega) rfl⟩
  rw [if_neg h9]
  exact same_w hk σ
theorem sw_k (p : PK) : StepW (doK p σ sp 0 k) sp k sp[k] := by
  cases p with
  | tas P => exact sw_ta σ sp k hk P
  | tic P => exact sw_tk σ sp k hk P
  | par P => exact sw_pt σ sp k hk P
  | mcs P => exact sw_mc σ sp k hk P
  | clh P => exact sw_cl σ sp k hk P
end
end Go.Proofs.YthffhhgaeolpgaaGreat.Ga

/- Layer 20's law FlatNone. -/
namespace Go.Proofs.YthffhhgaeolpgaaGreat.Fl
open Go.RowKit Go.Proofs.YthffhhgaeolpgaaGreat.Ara Go.Proofs.YthffhhgaeolpgaaGreat.Lok

theorem frame36 {a : Act} (h : a.tmps.size = 36) (hd : a.defers = []) : ∃ u : Nat → Value, a = { tmps := #[u 0, u 1, u 2, u 3, u 4, u 5, u 6, u 7, u 8, u 9, u 10, u 11, u 12, u 13, u 14, u 15, u 16, u 17, u 18, u 19, u 20, u 21, u 22, u 23, u 24, u 25, u 26, u 27, u 28, u 29, u 30, u 31, u 32, u 33, u 34, u 35], defers := [] } ∧ ∀ n, a.tmps.getD n undef = u n := by
  refine ⟨fun n => a.tmps.getD n undef, ?_, fun _ => rfl⟩
  have h1 := arr_lit a.tmps h
  cases a with
  | mk t d =>
    simp only at hd h1
    subst hd
    congr 1
set_option maxHeartbeats 8000000 in
set_option maxRecDepth 100000 in
theorem awake20 (w : World) : Calls Tryz.prog 9 #[] w fun e w' => e = .returned (.bool true) ∧ Below w.heap.size w w' := by
  have q1 := fun a b c d W => sfld0 a b c d W
  go_enter Tryz.func9, Tryz.ntmps9
  go_wp2_with fail
  refine (new_at 9 _ _ rfl).mono ?_
  rintro e w1 ⟨rfl, hat⟩
  have HN : Calls Tryz.prog 12 #[.pointer (some ⟨w.heap.size + 1, 0, none⟩), .int .i64 1, .int .i64 2, .int .i64 4] w1 _ := new_tas (w.heap.size + 1) w.heap.size (Ar.fresh (room 9)) ⟨[0, 0, 0, 0, 0, 0, 0, 0, 0], 1, 0, 0, 0, false⟩ w1 hat.1 (by have := hat.2.1; omega) 2 (by omega) (by omega) 4 (by omega) (by omega) 1 rfl
  replace HN := Lib.hid HN
  go_wp2_with fail
  refine HN.out.mono ?_
  rintro e w2 ⟨gf, gl, hs, rfl, hf, hk, ⟨hgf, hgl, hhs, hne⟩, hm⟩
  have hz := hat.2.1
  have HF := Lib.hid hf
  have HK := Lib.hid (show Ta.LkAt w2 gl (w.heap.size + 1) w.heap.size hs ⟨1, 4⟩ (⟨[0, 0, 0, 0, 0, 0, 0, 0, 0], 1, 0, 0, 0, false⟩ : Ar) ([⟨0, 0, 0, 0⟩, ⟨0, 0, 0, 0⟩] : List Sp) from hk)
  have HB := Lib.hid (hat.2.2.trans (hm.below (by omega) (by simp)))
  clear hf hk hm HN hat
  go_wp2_with fail
  refine (new_kind _ _).mono ?_
  rintro e wx ⟨rfl, hwx⟩
  obtain rfl := hwx.symm
  go_wp2_with fail
  have HC : Calls Tryz.prog 50 #[.pointer (some ⟨gf, 0, none⟩), .int .i64 1] w2 _ := Ask_fl gf gl w2 HF.out 1 true _ (Ta.ask_yes gl (w.heap.size + 1) w.heap.size hs _ _ _ w2 HK.out 1 (by decide) rfl [⟨0, 0, 0, 0⟩, ⟨1, 1, 0, 0⟩] rfl)
  refine HC.mono ?_
  rintro e wn ⟨rfl, hk, hm⟩
  replace HF := Lib.hid (HF.out.mod hm (by simp; omega))
  replace HB := Lib.hid (HB.out.trans (hm.below (by have := HK.out.2.1.lt; omega) (by simp; omega)))
  replace HK := Lib.hid hk
  clear hk hm HC
  go_wp2_with fail
  have HC : Calls Tryz.prog 51 #[.pointer (some ⟨gf, 0, none⟩), .int .i64 1] _ fun e w' => e = .returned (.bool false) ∧ Below _ _ w' := Alone_fl gf gl (w.heap.size + 1) w.heap.size hs _ _ _ _ HF.out HK.out 1 false rfl
  refine HC.mono ?_
  rintro e wn ⟨rfl, hb⟩
  replace HF := Lib.hid (HF.out.same hb)
  replace HB := Lib.hid (HB.out.trans (hb.mono (by have := HK.out.2.1.lt; omega)))
  replace HK := Lib.hid (HK.out.same hb)
  clear hb HC
  go_wp2_with fail
  have HC : Calls Tryz.prog 52 #[.pointer (some ⟨gf, 0, none⟩), .int .i64 1] _ _ := Step_fl gf gl _ HF.out 1 true _ (Ta.step_one_yes gl (w.heap.size + 1) w.heap.size hs _ _ _ _ HK.out 1 (by decide) (by decide) rfl rfl [⟨0, 0, 0, 0⟩, ⟨10, 1, 0, 0⟩] rfl)
  refine HC.mono ?_
  rintro e wn ⟨rfl, hk, hm⟩
  replace HF := Lib.hid (HF.out.mod hm (by simp; omega))
  replace HB := Lib.hid (HB.out.trans (hm.below (by have := HK.out.2.1.lt; omega) (by simp; omega)))
  replace HK := Lib.hid hk
  clear hk hm HC
  go_wp2_with fail
  have HC : Calls Tryz.prog 51 #[.pointer (some ⟨gf, 0, none⟩), .int .i64 1] _ fun e w' => e = .returned (.bool true) ∧ Below _ _ w' := Alone_fl gf gl (w.heap.size + 1) w.heap.size hs _ _ _ _ HF.out HK.out 1 true rfl
  refine HC.mono ?_
  rintro e wn ⟨rfl, hb⟩
  replace HF := Lib.hid (HF.out.same hb)
  replace HB := Lib.hid (HB.out.trans (hb.mono (by have := HK.out.2.1.lt; omega)))
  replace HK := Lib.hid (HK.out.same hb)
  clear hb HC
  go_wp2_with fail
  have HC : Calls Tryz.prog 24 #[.pointer (some ⟨gf, 0, none⟩), .int .i64 1] _ _ := Spot_fl gf gl (w.heap.size + 1) w.heap.size hs _ _ _ _ HF.out HK.out 1 10 1 0 0 rfl
  refine HC.mono ?_
  rintro e wn ⟨rfl, hb⟩
  replace HF := Lib.hid (HF.out.same hb)
  replace HB := Lib.hid (HB.out.trans (hb.mono (by have := HK.out.2.1.lt; omega)))
  replace HK := Lib.hid (HK.out.same hb)
  clear hb HC
  go_wp2_with fail
  have HC : Calls Tryz.prog 53 #[.pointer (some ⟨gf, 0, none⟩), .int .i64 1] _ _ := Leave_fl gf gl _ HF.out 1 true _ (Ta.leave_yes gl (w.heap.size + 1) w.heap.size hs _ _ _ _ HK.out 1 (by decide) rfl [⟨0, 0, 0, 0⟩, ⟨11, 1, 0, 0⟩] rfl)
  refine HC.mono ?_
  rintro e wn ⟨rfl, hk, hm⟩
  replace HF := Lib.hid (HF.out.mod hm (by simp; omega))
  replace HB := Lib.hid (HB.out.trans (hm.below (by have := HK.out.2.1.lt; omega) (by simp; omega)))
  replace HK := Lib.hid hk
  clear hk hm HC
  go_wp2_with fail
  have HC : Calls Tryz.prog 52 #[.pointer (some ⟨gf, 0, none⟩), .int .i64 1] _ _ := Step_fl gf gl _ HF.out 1 true _ (Ta.step_out gl (w.heap.size + 1) w.heap.size hs _ _ _ _ HK.out 1 (by decide) (by decide) rfl [⟨0, 0, 0, 0⟩, ⟨0, 1, 0, 0⟩] rfl)
  refine HC.mono ?_
  rintro e wn ⟨rfl, hk, hm⟩
  replace HF := Lib.hid (HF.out.mod hm (by simp; omega))
  replace HB := Lib.hid (HB.out.trans (hm.below (by have := HK.out.2.1.lt; omega) (by simp; omega)))
  replace HK := Lib.hid hk
  clear hk hm HC
  go_wp2_with fail
  refine (kind_yes gf 1 _ _ _ HF.out (by decide)).mono ?_
  rintro e wx ⟨rfl, hwx⟩
  obtain rfl := hwx.symm
  go_wp2_with fail
  have HC : Calls Tryz.prog 26 #[.pointer (some ⟨gf, 0, none⟩)] _ fun e w' => e = .returned (.int .i64 2) ∧ w' = _ := Slots_fl gf gl (w.heap.size + 1) w.heap.size hs _ _ _ _ HF.out HK.out
  refine (HC).mono ?_
  rintro e wx ⟨rfl, hwx⟩
  obtain rfl := hwx.symm
  go_wp2_with fail
  clear HC
  refine (size_mcs _).mono ?_
  rintro e wn ⟨rfl, hb⟩
  replace HB := Lib.hid (HB.out.trans (hb.mono HB.out.size))
  clear hb HF HK
  go_wp2_with fail
  refine (size_par _).mono ?_
  rintro e wn ⟨rfl, hb⟩
  replace HB := Lib.hid (HB.out.trans (hb.mono HB.out.size))
  clear hb
  go_wp2_with fail
  refine (door_clh _).mono ?_
  rintro e wx ⟨rfl, hwx⟩
  obtain rfl := hwx.symm
  go_wp2_with fail
  go_ret
  exact ⟨rfl, HB.out⟩
theorem reads_ac {H : Type} {enc : TypeId × Value → H} : Reads enc Tryz.prog 40 decAc (fun e => isI64 e.kind ∧ isI64 e.i) :=
  (reads_s2 (d0 := Value.int .i64) (d1 := Value.int .i64) Tryz.underlying40 (by kernel_rfl) (by kernel_rfl) (reads_i64 Tryz.underlying3) (reads_i64 Tryz.underlying3)).map
    (fun p => ⟨p.1, p.2⟩) (fun _ => rfl) (fun _ h => h)

end Go.Proofs.YthffhhgaeolpgaaGreat.Fl

/- Layer 20's law FlatOne. -/
namespace Go.Proofs.YthffhhgaeolpgaaGreat.Fl
open Go.RowKit Go.Proofs.YthffhhgaeolpgaaGreat.Ara Go.Proofs.YthffhhgaeolpgaaGreat.Lok

theorem frame81 {a : Act} (h : a.tmps.size = 81) (hd : a.defers = []) : ∃ u : Nat → Value, a = { tmps := #[u 0, u 1, u 2, u 3, u 4, u 5, u 6, u 7, u 8, u 9, u 10, u 11, u 12, u 13, u 14, u 15, u 16, u 17, u 18, u 19, u 20, u 21, u 22, u 23, u 24, u 25, u 26, u 27, u 28, u 29, u 30, u 31, u 32, u 33, u 34, u 35, u 36, u 37, u 38, u 39, u 40, u 41, u 42, u 43, u 44, u 45, u 46, u 47, u 48, u 49, u 50, u 51, u 52, u 53, u 54, u 55, u 56, u 57, u 58, u 59, u 60, u 61, u 62, u 63, u 64, u 65, u 66, u 67, u 68, u 69, u 70, u 71, u 72, u 73, u 74, u 75, u 76, u 77, u 78, u 79, u 80], defers := [] } ∧ ∀ n, a.tmps.getD n undef = u n := by
  refine ⟨fun n => a.tmps.getD n undef, ?_, fun _ => rfl⟩
  have h1 := arr_lit a.tmps h
  cases a with
  | mk t d =>
    simp only at hd h1
    subst hd
    congr 1
set_option maxHeartbeats 4000000 in
set_option maxRecDepth 100000 in
theorem do_flat (gf gl ga ha hs : Nat) (p : PK) (σ : Ar) (sp : List Sp) (w : World) (K : FLAt w gf gl ga ha hs p σ sp) (n m : Nat) (ho : OkK p σ sp n m) (hm : m ≤ 100000) (kd i : Int) :
    Calls Tryz.prog 18 #[.pointer (some ⟨gf, 0, none⟩), .agg #[.int .i64 kd, .int .i64 i]] w fun e w' => e = .returned (.bool (doK p σ sp kd i).1) ∧ FLAt w' gf gl ga ha hs p (doK p σ sp kd i).2.1 (doK p σ sp kd i).2.2 ∧ Mod [ga, ha, hs] w w' := by
  by_cases hk : kd < 0 ∨ 3 < kd
  · rw [do_else p σ sp kd i hk]
    have k0 := ibeq_no (show ¬ kd = 0 by omega)
    have k1 := ibeq_no (show ¬ kd = 1 by omega)
    have k2 := ibeq_no (show ¬ kd = 2 by omega)
    have k3 := ibeq_no (show ¬ kd = 3 by omega)
    have HH := Lib.hid (K.same (below_new w (.cells #[.int .i64 kd, .int .i64 i] 40)))
    have HB := Lib.hid (Mod.of_below (S := [ga, ha, hs]) (below_new w (.cells #[.int .i64 kd, .int .i64 i] 40)))
    clear K hk ho hm
    go_enter Tryz.func18, Tryz.ntmps18
    go_wp2_with fail
    go_ret
    exact ⟨rfl, HH.out, HB.out⟩
  rcases (show kd = 0 ∨ kd = 1 ∨ kd = 2 ∨ kd = 3 by omega) with rfl | rfl | rfl | rfl
  · have HC := Lib.hid (fun W (K : FLAt W gf gl ga ha hs p σ sp) => Step_flat K n m ho hm i)
    have HH := Lib.hid (K.same (below_new w (.cells #[.int .i64 0, .int .i64 i] 40)))
    have HB := Lib.hid (Mod.of_below (S := [ga, ha, hs]) (below_new w (.cells #[.int .i64 0, .int .i64 i] 40)))
    clear K hk ho hm
    generalize doK p σ sp 0 i = r at *
    go_enter Tryz.func18, Tryz.ntmps18
    go_wp2_with fail
    refine (HC.out _ HH.out).mono ?_
    rintro e w2 ⟨rfl, h2, hm2⟩
    have H2 := Lib.hid h2
    clear h2
    go_wp2_with fail
    go_ret
    exact ⟨rfl, H2.out, HB.out.trans hm2⟩
  · have HC := Lib.hid (fun W (K : FLAt W gf gl ga ha hs p σ sp) => Ask_flat K n m ho hm i)
    have HH := Lib.hid (K.same (below_new w (.cells #[.int .i64 1, .int .i64 i] 40)))
    have HB := Lib.hid (Mod.of_below (S := [ga, ha, hs]) (below_new w (.cells #[.int .i64 1, .int .i64 i] 40)))
    clear K hk ho hm
    generalize doK p σ sp 1 i = r at *
    go_enter Tryz.func18, Tryz.ntmps18
    go_wp2_with fail
    refine (HC.out _ HH.out).mono ?_
    rintro e w2 ⟨rfl, h2, hm2⟩
    have H2 := Lib.hid h2
    clear h2
    go_wp2_with fail
    go_ret
    exact ⟨rfl, H2.out, HB.out.trans hm2⟩
  · have HC := Lib.hid (fun W (K : FLAt W gf gl ga ha hs p σ sp) => Leave_flat K n m ho hm i)
    have HH := Lib.hid (K.same (below_new w (.cells #[.int .i64 2, .int .i64 i] 40)))
    have HB := Lib.hid (Mod.of_below (S := [ga, ha, hs]) (below_new w (.cells #[.int .i64 2, .int .i64 i] 40)))
    clear K hk ho hm
    generalize doK p σ sp 2 i = r at *
    go_enter Tryz.func18, Tryz.ntmps18
    go_wp2_with fail
    refine (HC.out _ HH.out).mono ?_
    rintro e w2 ⟨rfl, h2, hm2⟩
    have H2 := Lib.hid h2
    clear h2
    go_wp2_with fail
    go_ret
    exact ⟨rfl, H2.out, HB.out.trans hm2⟩
  · have HC := Lib.hid (fun W (K : FLAt W gf gl ga ha hs p σ sp) => Alone_flat K n m ho hm i)
    have HH := Lib.hid (K.same (below_new w (.cells #[.int .i64 3, .int .i64 i] 40)))
    have HB := Lib.hid (Mod.of_below (S := [ga, ha, hs]) (below_new w (.cells #[.int .i64 3, .int .i64 i] 40)))
    clear K hk ho hm
    generalize doK p σ sp 3 i = r at *
    go_enter Tryz.func18, Tryz.ntmps18
    go_wp2_with fail
    refine (HC.out _ HH.out).mono ?_
    rintro e w2 ⟨rfl, h2, hm2⟩
    have H2 := Lib.hid h2
    clear h2
    go_wp2_with fail
    go_ret
    exact ⟨rfl, H2.out, HB.out.trans hm2⟩
theorem zeros_getD (n k : Nat) : (zerosW n).getD k 0 = 0 := by
  unfold zerosW
  rw [List.getD_eq_getElem?_getD, List.getElem?_replicate]
  split <;> rfl
end Go.Proofs.YthffhhgaeolpgaaGreat.Fl

