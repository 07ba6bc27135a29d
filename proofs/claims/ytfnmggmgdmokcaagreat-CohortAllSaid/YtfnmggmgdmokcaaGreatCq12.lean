/- Merged texts: TkP, TkO, Tk1. -/
import Derived.Test.YtfnmggmgdmokcaaGreatCq11
set_option linter.unusedVariables false
/- Package ticket, as Lean has it: no two slots hold at once. -/
namespace Go.Proofs.YtfnmggmgdmokcaaGreat.Tk
open Go.RowKit Go.Proofs.YtfnmggmgdmokcaaGreat.Ara Go.Proofs.YtfnmggmgdmokcaaGreat.Lok

structure Par where
  next : Int
def Par.parts (_ : Par) : Int := 1
def place (P : Par) (t : Int) : Int := P.next + 1 + t % P.parts
def stepP (P : Par) (σ : Ar) (sp : List Sp) (i : Int) : Bool × Ar × List Sp :=
  if (spOf sp i).pc = 1 then (false, σ.op 5 P.next true (σ.get P.next + 1), sp.set i.toNat { spOf sp i with pc := 2, a := σ.get P.next })
  else if (spOf sp i).pc = 2 then (σ.get (place P (spOf sp i).a) == (spOf sp i).a, σ.op 1 (place P (spOf sp i).a) false 0, if σ.get (place P (spOf sp i).a) = (spOf sp i).a then sp.set i.toNat { spOf sp i with pc := 10 } else sp)
  else if (spOf sp i).pc = 11 then (true, σ.op 2 (place P ((spOf sp i).a + 1)) true ((spOf sp i).a + 1), sp.set i.toNat { spOf sp i with pc := 0 })
  else (false, σ, sp)
def aloneP (P : Par) (σ : Ar) (sp : List Sp) (i : Int) : Bool × Ar :=
  if (spOf sp i).pc = 10 then (σ.get P.next == (spOf sp i).a + 1, σ.op 1 P.next false 0) else (false, σ)
def doP (P : Par) (σ : Ar) (sp : List Sp) (kd i : Int) : Bool × Ar × List Sp :=
  if kd = 0 then stepP P σ sp i else if kd = 1 then (turnB sp i 0, σ, turnS sp i 0 1) else if kd = 2 then (turnB sp i 10, σ, turnS sp i 10 11)
  else if kd = 3 then ((aloneP P σ sp i).1, (aloneP P σ sp i).2, sp) else (false, σ, sp)

def inq (s : Sp) : Prop := s.pc = 2 ∨ s.pc = 10 ∨ s.pc = 11
structure Inv (P : Par) (σ : Ar) (sp : List Sp) (S T : Nat) : Prop where
  hl : σ.t ≤ σ.ws.length
  p1 : 1 ≤ P.parts
  p2 : P.parts ≤ 32
  n1 : 1 ≤ P.next
  n2 : P.next + P.parts ≤ σ.t
  gT : σ.get P.next = T
  le : S ≤ T
  srv : σ.get (place P S) = S
  low : ∀ x : Int, 0 ≤ x → x < P.parts → σ.get (P.next + 1 + x) ≤ S
  pcs : ∀ i, (spOf sp i).pc = 0 ∨ (spOf sp i).pc = 1 ∨ inq (spOf sp i)
  tick : ∀ i, inq (spOf sp i) → (S : Int) ≤ (spOf sp i).a ∧ (spOf sp i).a < T
  hold : ∀ i, (spOf sp i).pc = 10 ∨ (spOf sp i).pc = 11 → (spOf sp i).a = S
  inj : ∀ i j, inq (spOf sp i) → inq (spOf sp j) → (spOf sp i).a = (spOf sp j).a → i = j
  all : ∀ t : Int, S ≤ t → t < T → ∃ i, inq (spOf sp i) ∧ (spOf sp i).a = t
  rng : ∀ i, 0 ≤ (spOf sp i).a ∧ (spOf sp i).a ≤ T
theorem place_in {P : Par} (h : 1 ≤ P.parts) (t : Int) : ∃ x, 0 ≤ x ∧ x < P.parts ∧ place P t = P.next + 1 + x :=
  ⟨t % P.parts, Int.emod_nonneg _ (by omega), Int.emod_lt_of_pos _ (by omega), rfl⟩
theorem Inv.has {P : Par} {σ : Ar} {sp : List Sp} {S T : Nat} (h : Inv P σ sp S T) (t : Int) : σ.has (place P t) = true := by
  obtain ⟨x, x0, x1, e⟩ := place_in h.p1 t
  rw [e]
  have := h.n1
  have := h.n2
  simp [Ar.has]
  omega
theorem Inv.hasN {P : Par} {σ : Ar} {sp : List Sp} {S T : Nat} (h : Inv P σ sp S T) : σ.has P.next = true := by
  have := h.n1
  have := h.n2
  have := h.p1
  simp [Ar.has]
  omega
theorem Inv.read {P : Par} {σ : Ar} {sp : List Sp} {S T : Nat} (h : Inv P σ sp S T) (p v : Int) : Inv P (σ.op 1 p false v) sp S T := by
  refine { h with hl := ?_, n2 := ?_, gT := ?_, srv := ?_, low := ?_ }
  · rw [op_t, op_len]; exact h.hl
  · rw [op_t]; exact h.n2
  · rw [get_read σ h.hl]; exact h.gT
  · rw [get_read σ h.hl]; exact h.srv
  · intro x h0 h1
    rw [get_read σ h.hl]
    exact h.low x h0 h1
theorem Inv.idle {P : Par} {σ : Ar} {sp sp' : List Sp} {S T : Nat} (h : Inv P σ sp S T) (i : Int) (s' : Sp) (hs : ∀ j, spOf sp' j = if j = i then s' else spOf sp j) (h0 : ¬ inq (spOf sp i)) (h1 : s'.pc = 0 ∨ s'.pc = 1) (ha : s'.a = (spOf sp i).a) : Inv P σ sp' S T := by
  have h2 : ¬ inq s' := by unfold inq; omega
  refine { h with pcs := fun j => ?_, tick := fun j hj => ?_, hold := fun j hj => ?_, inj := fun j k hj hk e => ?_, all := fun t t0 t1 => ?_, rng := fun j => ?r }
  case r =>
    rw [hs]; split
    · rw [ha]; exact h.rng i
    · exact h.rng j
  · rw [hs]; split
    · omega
    · exact h.pcs j
  · rw [hs] at hj ⊢; split at hj
    · exact absurd hj h2
    · rename_i e; rw [if_neg e]; exact h.tick j hj
  · rw [hs] at hj ⊢; split at hj
    · omega
    · rename_i e; rw [if_neg e]; exact h.hold j hj
  · rw [hs] at hj hk e; rw [hs k] at e
    split at hj
    · exact absurd hj h2
    · split at hk
      · exact absurd hk h2
      · rename_i e1 e2
        rw [if_neg e1, if_neg e2] at e
        exact h.inj j k hj hk e
  · obtain ⟨k, k1, k2⟩ := h.all t t0 t1
    refine ⟨k, ?_⟩
    have : k ≠ i := fun e => h0 (e ▸ k1)
    rw [hs, if_neg this]
    exact ⟨k1, k2⟩
theorem Inv.keeps {P : Par} {σ : Ar} {sp sp' : List Sp} {S T : Nat} (h : Inv P σ sp S T) (i : Int) (s' : Sp) (hs : ∀ j, spOf sp' j = if j = i then s' else spOf sp j) (h0 : inq (spOf sp i)) (h1 : s'.pc = 10 ∨ s'.pc = 11) (ha : s'.a = (spOf sp i).a) (hS : s'.a = S) : Inv P σ sp' S T := by
  have h2 : inq s' := by unfold inq; omega
  have hh : ∀ j, inq (spOf sp' j) ↔ inq (spOf sp j) := by
    intro j; rw [hs]; split
    · rename_i e; subst e; exact ⟨fun _ => h0, fun _ => h2⟩
    · exact Iff.rfl
  have hA : ∀ j, (spOf sp' j).a = (spOf sp j).a := by
    intro j; rw [hs]; split
    · rename_i e; subst e; exact ha
    · rfl
  refine { h with pcs := fun j => ?_, tick := fun j hj => ?_, hold := fun j hj => ?_, inj := fun j k hj hk e => ?_, all := fun t t0 t1 => ?_, rng := fun j => ?r }
  case r => rw [hA]; exact h.rng j
  · rw [hs]; split
    · exact .inr (.inr h2)
    · exact h.pcs j
  · rw [hA]; exact h.tick j ((hh j).1 hj)
  · rw [hs] at hj ⊢; split at hj
    · rename_i e; rw [if_pos e]; exact hS
    · rename_i e; rw [if_neg e]; exact h.hold j hj
  · rw [hA, hA] at e; exact h.inj j k ((hh j).1 hj) ((hh k).1 hk) e
  · obtain ⟨k, k1, k2⟩ := h.all t t0 t1
    exact ⟨k, (hh k).2 k1, by rw [hA]; exact k2⟩
theorem Inv.takes {P : Par} {σ : Ar} {sp sp' : List Sp} {S T : Nat} (h : Inv P σ sp S T) (i : Int) (s' : Sp) (hs : ∀ j, spOf sp' j = if j = i then s' else spOf sp j) (h0 : ¬ inq (spOf sp i)) (h1 : s'.pc = 2) (ha : s'.a = T) : Inv P (σ.op 5 P.next true (T + 1)) sp' S (T + 1) := by
  have hg := fun q => get_op σ h.hl 5 P.next ((T : Int) + 1) true q
  simp only [h.hasN, true_and] at hg
  have h2 : inq s' := .inl h1
  refine { p1 := h.p1, p2 := h.p2, n1 := h.n1, le := by have := h.le; omega, hl := ?_, n2 := ?_, gT := ?_, srv := ?_, low := ?_, pcs := fun j => ?_, tick := fun j hj => ?_, hold := fun j hj => ?_, inj := fun j k hj hk e => ?_, all := fun t t0 t1 => ?_, rng := fun j => ?r }
  case r =>
    have hr := h.rng j
    rw [hs]; split
    · rw [ha]; have := h.rng i; omega
    · omega
  · rw [op_t, op_len]; exact h.hl
  · rw [op_t]; exact h.n2
  · rw [hg, if_pos rfl]; simp
  · obtain ⟨x, x0, x1, e⟩ := place_in h.p1 S
    have := h.srv
    rw [hg, if_neg (by rw [e]; omega)]
    exact this
  · intro x x0 x1
    rw [hg, if_neg (by omega)]
    exact h.low x x0 x1
  · rw [hs]; split
    · exact .inr (.inr h2)
    · exact h.pcs j
  · rw [hs] at hj ⊢; split at hj
    · rename_i e; rw [if_pos e, ha]; have := h.le; omega
    · rename_i e; rw [if_neg e]; have := h.tick j hj; omega
  · rw [hs] at hj ⊢; split at hj
    · omega
    · rename_i e; rw [if_neg e]; exact h.hold j hj
  · rw [hs] at hj hk e; rw [hs k] at e
    split at hj
    · split at hk
      · omega
      · rename_i e1 e2
        rw [if_pos e1, if_neg e2, ha] at e
        have := h.tick k hk
        omega
    · split at hk
      · rename_i e1 e2
        rw [if_neg e1, if_pos e2, ha] at e
        have := h.tick j hj
        omega
      · rename_i e1 e2
        rw [if_neg e1, if_neg e2] at e
        exact h.inj j k hj hk e
  · by_cases e : t = T
    · exact ⟨i, by rw [hs, if_pos rfl]; exact ⟨h2, by rw [ha, e]⟩⟩
    · obtain ⟨k, k1, k2⟩ := h.all t t0 (by omega)
      refine ⟨k, ?_⟩
      have : k ≠ i := fun e => h0 (e ▸ k1)
      rw [hs, if_neg this]
      exact ⟨k1, k2⟩
theorem Inv.passes {P : Par} {σ : Ar} {sp sp' : List Sp} {S T : Nat} (h : Inv P σ sp S T) (i : Int) (s' : Sp) (hs : ∀ j, spOf sp' j = if j = i then s' else spOf sp j) (h0 : (spOf sp i).pc = 10 ∨ (spOf sp i).pc = 11) (h1 : s'.pc = 0) (ha : s'.a = (spOf sp i).a) : Inv P (σ.op 2 (place P ((S : Int) + 1)) true (S + 1)) sp' (S + 1) T := by
  have hg := fun q => get_op σ h.hl 2 (place P ((S : Int) + 1)) ((S : Int) + 1) true q
  simp only [h.has, true_and] at hg
  have hq : inq (spOf sp i) := .inr h0
  have hS := h.hold i h0
  have hT := h.tick i hq
  have h2 : ¬ inq s' := by unfold inq; omega
  obtain ⟨y, y0, y1, ey⟩ := place_in h.p1 ((S : Int) + 1)
  refine { p1 := h.p1, p2 := h.p2, n1 := h.n1, le := by omega, hl := ?_, n2 := ?_, gT := ?_, srv := ?_, low := ?_, pcs := fun j => ?_, tick := fun j hj => ?_, hold := fun j hj => ?_, inj := fun j k hj hk e => ?_, all := fun t t0 t1 => ?_, rng := fun j => ?r }
  case r =>
    have hr := h.rng j
    rw [hs]; split
    · rw [ha]; have := h.rng i; omega
    · omega
  · rw [op_t, op_len]; exact h.hl
  · rw [op_t]; exact h.n2
  · rw [hg, if_neg (by rw [ey]; omega)]; exact h.gT
  · rw [hg, if_pos (by simp)]; simp <;> omega
  · intro x x0 x1
    rw [hg]
    have := h.low x x0 x1
    split <;> omega
  · rw [hs]; split
    · exact .inl h1
    · exact h.pcs j
  · rw [hs] at hj ⊢; split at hj
    · exact absurd hj h2
    · rename_i e
      rw [if_neg e]
      have h3 := h.tick j hj
      have h4 : (spOf sp j).a ≠ (spOf sp i).a := fun e' => e (h.inj j i hj hq e')
      omega
  · rw [hs] at hj ⊢; split at hj
    · omega
    · rename_i e
      exact absurd (h.inj j i (.inr hj) hq (by rw [h.hold j hj, hS])) e
  · rw [hs] at hj hk e; rw [hs k] at e
    split at hj
    · exact absurd hj h2
    · split at hk
      · exact absurd hk h2
      · rename_i e1 e2
        rw [if_neg e1, if_neg e2] at e
        exact h.inj j k hj hk e
  · obtain ⟨k, k1, k2⟩ := h.all t (by omega) t1
    refine ⟨k, ?_⟩
    have : k ≠ i := fun e => by subst e; omega
    rw [hs, if_neg this]
    exact ⟨k1, k2⟩
theorem Inv.served {P : Par} {σ : Ar} {sp : List Sp} {S T : Nat} (h : Inv P σ sp S T) (i : Int) (h0 : inq (spOf sp i)) (h1 : σ.get (place P (spOf sp i).a) = (spOf sp i).a) : (spOf sp i).a = S := by
  obtain ⟨x, x0, x1, e⟩ := place_in h.p1 (spOf sp i).a
  have := h.low x x0 x1
  rw [e] at h1
  have := h.tick i h0
  omega
theorem step_inv {P : Par} {σ : Ar} {sp : List Sp} {S T : Nat} (h : Inv P σ sp S T) (i : Int) : ∃ S' T', T' ≤ T + 1 ∧ Inv P (stepP P σ sp i).2.1 (stepP P σ sp i).2.2 S' T' := by
  unfold stepP
  by_cases h1 : (spOf sp i).pc = 1
  · rw [if_pos h1]
    obtain ⟨i0, i1⟩ := spOf_range (sp := sp) (i := i) (by omega)
    refine ⟨S, T + 1, Nat.le_refl _, ?_⟩
    have := h.takes i _ (spOf_set i0 i1 { spOf sp i with pc := 2, a := σ.get P.next }) (by unfold inq; omega) rfl h.gT
    rw [← h.gT] at this
    exact this
  rw [if_neg h1]
  by_cases h2 : (spOf sp i).pc = 2
  · rw [if_pos h2]
    obtain ⟨i0, i1⟩ := spOf_range (sp := sp) (i := i) (by omega)
    refine ⟨S, T, Nat.le_succ _, ?_⟩
    by_cases h3 : σ.get (place P (spOf sp i).a) = (spOf sp i).a
    · simp only [h3, if_true]
      exact (h.keeps i _ (spOf_set i0 i1 { spOf sp i with pc := 10 }) (.inl h2) (.inl rfl) rfl (h.served i (.inl h2) h3)).read _ _
    · simp only [h3, if_false]
      exact h.read _ _
  rw [if_neg h2]
  by_cases h3 : (spOf sp i).pc = 11
  · rw [if_pos h3]
    obtain ⟨i0, i1⟩ := spOf_range (sp := sp) (i := i) (by omega)
    refine ⟨S + 1, T, Nat.le_succ _, ?_⟩
    have := h.passes i _ (spOf_set i0 i1 { spOf sp i with pc := 0 }) (.inr h3) rfl rfl
    have e := h.hold i (.inr h3)
    rw [← e] at this
    exact this
  rw [if_neg h3]
  exact ⟨S, T, Nat.le_succ _, h⟩
theorem do_inv {P : Par} {σ : Ar} {sp : List Sp} {S T : Nat} (h : Inv P σ sp S T) (kd i : Int) : ∃ S' T', T' ≤ T + 1 ∧ Inv P (doP P σ sp kd i).2.1 (doP P σ sp kd i).2.2 S' T' := by
  unfold doP
  split
  · exact step_inv h i
  split
  · refine ⟨S, T, Nat.le_succ _, ?_⟩
    cases ht : turnB sp i 0
    · simp only [turn_no 1 ht]; exact h
    · have hp := (turn_true ht).2
      exact h.idle i _ (spOf_turn 1 ht) (by unfold inq; omega) (.inr rfl) rfl
  split
  · refine ⟨S, T, Nat.le_succ _, ?_⟩
    cases ht : turnB sp i 10
    · simp only [turn_no 11 ht]; exact h
    · have hp := (turn_true ht).2
      exact h.keeps i _ (spOf_turn 11 ht) (.inr (.inl hp)) (.inr rfl) rfl (h.hold i (.inl hp))
  split
  · refine ⟨S, T, Nat.le_succ _, ?_⟩
    unfold aloneP
    split
    · exact h.read _ _
    · exact h
  · exact ⟨S, T, Nat.le_succ _, h⟩
theorem Inv.one {P : Par} {σ : Ar} {sp : List Sp} {S T : Nat} (h : Inv P σ sp S T) (n : Nat) : cnt (fun s => s.pc == 10) sp n ≤ 1 := by
  refine cnt_one _ _ (fun i j hi hj => ?_) n
  simp only [beq_iff_eq] at hi hj
  exact h.inj i j (.inr (.inl hi)) (.inr (.inl hj)) (by rw [h.hold i (.inl hi), h.hold j (.inl hj)])
theorem Inv.behind {P : Par} {σ : Ar} {sp : List Sp} {S T : Nat} (h : Inv P σ sp S T) (i : Int) (hp : (spOf sp i).pc = 10) (ha : (aloneP P σ sp i).1 = false) : 0 < cnt (fun s => decide (0 < s.pc) && decide (s.pc < 10)) sp sp.length := by
  unfold aloneP at ha
  rw [if_pos hp, h.gT, h.hold i (.inl hp)] at ha
  simp at ha
  have hT := h.tick i (.inr (.inl hp))
  have hS := h.hold i (.inl hp)
  obtain ⟨k, k1, k2⟩ := h.all (S + 1) (by omega) (by omega)
  have h3 : (spOf sp k).pc = 2 := by
    rcases k1 with k1 | k1
    · exact k1
    · have := h.hold k k1
      omega
  obtain ⟨r0, r1⟩ := spOf_range (sp := sp) (i := k) (by omega)
  exact cnt_some _ _ k (by rw [h3]; rfl) r0 _ r1
theorem zero_get (n t : Nat) (o k p : Int) (ops : Nat) (wr : Bool) (q : Int) : (⟨zerosW n, t, ops, k, p, wr⟩ : Ar).get q = 0 := by
  unfold Ar.get
  split
  · simp [zerosW, List.getD_eq_getElem?_getD, List.getElem?_replicate]
    split <;> rfl
  · rfl
theorem zero_spot (n : Nat) (i : Int) : spOf (List.replicate n sp0) i = sp0 := by
  unfold spOf
  split
  · simp [List.getD_eq_getElem?_getD, List.getElem?_replicate]
    split <;> rfl
  · rfl
theorem inv_start (n : Nat) : Inv ⟨1⟩ (⟨zerosW 100, 2, 0, 0, 0, false⟩ : Ar) (List.replicate n sp0) 0 0 := by
  have hg := fun q => zero_get 100 2 0 0 0 0 false q
  have hs := zero_spot n
  have hq : ∀ i, ¬ inq (spOf (List.replicate n sp0) i) := by
    intro i; rw [hs]; unfold inq sp0; simp
  refine { p1 := Int.le_refl _, p2 := by show (1 : Int) ≤ 32; decide, n1 := Int.le_refl _, le := Nat.le_refl _, hl := ?_, n2 := by show (1 : Int) + 1 ≤ ((2 : Nat) : Int); decide, gT := hg _, srv := hg _, low := fun x _ _ => by rw [hg]; exact Int.le_refl _, pcs := fun i => ?_, tick := fun i hi => absurd hi (hq i), hold := fun i hi => absurd (Or.inr hi) (hq i), inj := fun i j hi => absurd hi (hq i), all := fun t t0 t1 => ?_, rng := fun i => ?_ }
  · show 2 ≤ (zerosW 100).length
    have : (zerosW 100).length = 100 := List.length_replicate
    omega
  · left; rw [hs]; rfl
  · omega
  · rw [hs]; exact ⟨Int.le_refl _, Int.le_refl _⟩
end Go.Proofs.YtfnmggmgdmokcaaGreat.Tk

/- Package ticket, as Lean has it: slots hold in the order of their doorways. -/
namespace Go.Proofs.YtfnmggmgdmokcaaGreat.Tk
open Go.RowKit Go.Proofs.YtfnmggmgdmokcaaGreat.Ara Go.Proofs.YtfnmggmgdmokcaaGreat.Lok

structure St where
  σ : Ar
  sp : List Sp
  doors : List Int
  held : List Int
def ordS (P : Par) (x : St) (c : Ac) : St :=
  { σ := (doP P x.σ x.sp c.kind c.i).2.1, sp := (doP P x.σ x.sp c.kind c.i).2.2,
    doors := if c.kind = 0 ∧ 0 < (spOf x.sp c.i).pc ∧ (spOf x.sp c.i).pc < 10 ∧ x.σ.ops < (doP P x.σ x.sp c.kind c.i).2.1.ops ∧ (doP P x.σ x.sp c.kind c.i).2.1.kind = 5 then x.doors ++ [c.i] else x.doors,
    held := if (spOf x.sp c.i).pc < 10 ∧ (spOf (doP P x.σ x.sp c.kind c.i).2.2 c.i).pc = 10 then x.held ++ [c.i] else x.held }
def inn (s : Sp) : Prop := s.pc = 10 ∨ s.pc = 11
structure OrdI (P : Par) (x : St) (S T : Nat) : Prop where
  inv : Inv P x.σ x.sp S T
  dl : x.doors.length = T
  dat : ∀ i, inq (spOf x.sp i) → x.doors[(spOf x.sp i).a.toNat]? = some i
  take : x.held = x.doors.take x.held.length
  cnt : ((∃ i, inn (spOf x.sp i)) ∧ x.held.length = S + 1) ∨ ((∀ i, ¬ inn (spOf x.sp i)) ∧ x.held.length = S)
def OrdP (P : Par) (x : St) : Prop := ∃ S T, OrdI P x S T
theorem OrdI.held_le {P : Par} {x : St} {S T : Nat} (h : OrdI P x S T) : x.held.length ≤ T := by
  have hle := h.inv.le
  rcases h.cnt with ⟨⟨i, hi⟩, e⟩ | ⟨_, e⟩
  · have h1 := h.inv.tick i (.inr hi)
    have h2 := h.inv.hold i hi
    omega
  · omega
theorem OrdI.keep {P : Par} {x : St} {S T : Nat} (h : OrdI P x S T) {σ' : Ar} {sp' : List Sp} (hi : Inv P σ' sp' S T) (hq : ∀ i, inq (spOf sp' i) → inq (spOf x.sp i) ∧ (spOf sp' i).a = (spOf x.sp i).a) (hn : ∀ i, inn (spOf sp' i) ↔ inn (spOf x.sp i)) :
    OrdI P { σ := σ', sp := sp', doors := x.doors, held := x.held } S T := by
  refine ⟨hi, h.dl, fun i h1 => ?_, h.take, ?_⟩
  · obtain ⟨h2, e⟩ := hq i h1
    show x.doors[_]? = _
    rw [e]
    exact h.dat i h2
  · rcases h.cnt with ⟨⟨i, h1⟩, e⟩ | ⟨h1, e⟩
    · exact .inl ⟨⟨i, (hn i).2 h1⟩, e⟩
    · exact .inr ⟨fun i h2 => h1 i ((hn i).1 h2), e⟩
theorem OrdI.doors {P : Par} {x : St} {S T : Nat} (h : OrdI P x S T) {c : Ac} (hd : ¬ (c.kind = 0 ∧ 0 < (spOf x.sp c.i).pc ∧ (spOf x.sp c.i).pc < 10 ∧ x.σ.ops < (doP P x.σ x.sp c.kind c.i).2.1.ops ∧ (doP P x.σ x.sp c.kind c.i).2.1.kind = 5)) (hh : ¬ ((spOf x.sp c.i).pc < 10 ∧ (spOf (doP P x.σ x.sp c.kind c.i).2.2 c.i).pc = 10)) :
    ordS P x c = { σ := (doP P x.σ x.sp c.kind c.i).2.1, sp := (doP P x.σ x.sp c.kind c.i).2.2, doors := x.doors, held := x.held } := by
  unfold ordS
  rw [if_neg hd, if_neg hh]
theorem do_0 (P : Par) (σ : Ar) (sp : List Sp) (i : Int) : doP P σ sp 0 i = stepP P σ sp i := rfl
theorem do_1 (P : Par) (σ : Ar) (sp : List Sp) (i : Int) : doP P σ sp 1 i = (turnB sp i 0, σ, turnS sp i 0 1) := rfl
theorem do_2 (P : Par) (σ : Ar) (sp : List Sp) (i : Int) : doP P σ sp 2 i = (turnB sp i 10, σ, turnS sp i 10 11) := rfl
theorem step_1 {P : Par} {σ : Ar} {sp : List Sp} {i : Int} (h : (spOf sp i).pc = 1) : stepP P σ sp i = (false, σ.op 5 P.next true (σ.get P.next + 1), sp.set i.toNat { spOf sp i with pc := 2, a := σ.get P.next }) := by
  unfold stepP; rw [if_pos h]
theorem step_2 {P : Par} {σ : Ar} {sp : List Sp} {i : Int} (h : (spOf sp i).pc = 2) : stepP P σ sp i = (σ.get (place P (spOf sp i).a) == (spOf sp i).a, σ.op 1 (place P (spOf sp i).a) false 0, if σ.get (place P (spOf sp i).a) = (spOf sp i).a then sp.set i.toNat { spOf sp i with pc := 10 } else sp) := by
  unfold stepP; rw [if_neg (by omega), if_pos h]
theorem step_11 {P : Par} {σ : Ar} {sp : List Sp} {i : Int} (h : (spOf sp i).pc = 11) : stepP P σ sp i = (true, σ.op 2 (place P ((spOf sp i).a + 1)) true ((spOf sp i).a + 1), sp.set i.toNat { spOf sp i with pc := 0 }) := by
  unfold stepP; rw [if_neg (by omega), if_neg (by omega), if_pos h]
theorem step_no {P : Par} {σ : Ar} {sp : List Sp} {i : Int} (h1 : (spOf sp i).pc ≠ 1) (h2 : (spOf sp i).pc ≠ 2) (h3 : (spOf sp i).pc ≠ 11) : stepP P σ sp i = (false, σ, sp) := by
  unfold stepP; rw [if_neg h1, if_neg h2, if_neg h3]
theorem ord_step {P : Par} {x : St} (h : OrdP P x) (i : Int) : OrdP P (ordS P x ⟨0, i⟩) := by
  obtain ⟨S, T, h⟩ := h
  have hi := h.inv
  rcases hi.pcs i with p | p | p
  · have e := step_no (P := P) (σ := x.σ) (sp := x.sp) (i := i) (by omega) (by omega) (by omega)
    rw [h.doors (c := ⟨0, i⟩) (by simp only; omega) (by simp only [do_0, e]; omega)]
    simp only [do_0, e]
    exact ⟨S, T, h.keep hi (fun i h => ⟨h, rfl⟩) (fun _ => Iff.rfl)⟩
  · have e := step_1 (P := P) (σ := x.σ) p
    obtain ⟨i0, i1⟩ := spOf_range (sp := x.sp) (i := i) (by omega)
    have hs := spOf_set i0 i1 { spOf x.sp i with pc := 2, a := x.σ.get P.next }
    have hI := hi.takes i _ hs (by unfold inq; omega) rfl hi.gT
    rw [← hi.gT] at hI
    refine ⟨S, T + 1, ?_⟩
    unfold ordS
    simp only [do_0, e]
    rw [if_pos ⟨trivial, by omega, by omega, by rw [op_ops, if_pos hi.hasN]; omega, op_kind _ _ _ _ _ hi.hasN⟩, if_neg (by rw [hs, if_pos rfl]; simp)]
    have hlen := h.held_le
    refine ⟨hI, by simp [h.dl], fun j hj => ?_, ?_, ?_⟩
    · show (x.doors ++ [i])[(spOf (x.sp.set i.toNat _) j).a.toNat]? = some j
      rw [hs] at hj ⊢
      by_cases ej : j = i
      · rw [if_pos ej, ej]
        show (x.doors ++ [i])[(x.σ.get P.next).toNat]? = some i
        rw [hi.gT, Int.toNat_natCast, ← h.dl]
        simp
      · rw [if_neg ej] at hj ⊢
        have hd := h.dat j hj
        have ht := hi.tick j hj
        rw [List.getElem?_append_left (by rw [h.dl]; omega)]
        exact hd
    · show x.held = (x.doors ++ [i]).take x.held.length
      rw [List.take_append_of_le_length (by rw [h.dl]; exact hlen)]
      exact h.take
    · have hn : ∀ j, inn (spOf (x.sp.set i.toNat { spOf x.sp i with pc := 2, a := x.σ.get P.next }) j) ↔ inn (spOf x.sp j) := by
        intro j
        rw [hs]
        by_cases ej : j = i
        · rw [if_pos ej, ej]; unfold inn; simp only; omega
        · rw [if_neg ej]
      rcases h.cnt with ⟨⟨j, h1⟩, e⟩ | ⟨h1, e⟩
      · exact .inl ⟨⟨j, (hn j).2 h1⟩, e⟩
      · exact .inr ⟨fun j h2 => h1 j ((hn j).1 h2), e⟩
  · rcases p with p | p
    · have e := step_2 (P := P) (σ := x.σ) p
      obtain ⟨i0, i1⟩ := spOf_range (sp := x.sp) (i := i) (by omega)
      by_cases hg : x.σ.get (place P (spOf x.sp i).a) = (spOf x.sp i).a
      · rw [if_pos hg] at e
        have hs := spOf_set i0 i1 { spOf x.sp i with pc := 10 }
        have hS := hi.served i (.inl p) hg
        have hI := (hi.keeps i _ hs (.inl p) (.inl rfl) rfl hS).read (place P (spOf x.sp i).a) 0
        have hd := h.dat i (.inl p)
        rw [hS, Int.toNat_natCast] at hd
        have hno : ∀ j, ¬ inn (spOf x.sp j) := by
          intro j hj
          have h1 := hi.hold j hj
          have h2 := hi.inj j i (.inr hj) (.inl p) (by omega)
          subst h2
          unfold inn at hj
          omega
        have hl : x.held.length = S := by
          rcases h.cnt with ⟨⟨j, h1⟩, _⟩ | ⟨_, e⟩
          · exact absurd h1 (hno j)
          · exact e
        refine ⟨S, T, ?_⟩
        unfold ordS
        simp only [do_0, e]
        rw [if_neg (by rw [op_kind _ _ _ _ _ (hi.has _)]; omega), if_pos ⟨by omega, by rw [hs, if_pos rfl]⟩]
        refine ⟨hI, h.dl, fun j hj => ?_, ?_, .inl ⟨⟨i, ?_⟩, by simp [hl]⟩⟩
        · show x.doors[(spOf (x.sp.set i.toNat _) j).a.toNat]? = some j
          rw [hs] at hj ⊢
          by_cases ej : j = i
          · rw [if_pos ej, ej]
            exact h.dat i (.inl p)
          · rw [if_neg ej] at hj ⊢
            exact h.dat j hj
        · show x.held ++ [i] = x.doors.take (x.held ++ [i]).length
          rw [List.length_append, List.length_singleton, hl, List.take_add_one, hd]
          have := h.take
          rw [hl] at this
          rw [← this]
          rfl
        · show inn (spOf (x.sp.set i.toNat _) i)
          rw [hs, if_pos rfl]
          exact .inl rfl
      · rw [if_neg hg] at e
        have hI := hi.read (place P (spOf x.sp i).a) 0
        rw [h.doors (c := ⟨0, i⟩) (by simp only [do_0, e]; rw [op_kind _ _ _ _ _ (hi.has _)]; omega) (by simp only [do_0, e]; omega)]
        simp only [do_0, e]
        exact ⟨S, T, h.keep hI (fun i h => ⟨h, rfl⟩) (fun _ => Iff.rfl)⟩
    · rcases p with p | p
      · have e := step_no (P := P) (σ := x.σ) (sp := x.sp) (i := i) (by omega) (by omega) (by omega)
        rw [h.doors (c := ⟨0, i⟩) (by simp only; omega) (by simp only [do_0, e]; omega)]
        simp only [do_0, e]
        exact ⟨S, T, h.keep hi (fun i h => ⟨h, rfl⟩) (fun _ => Iff.rfl)⟩
      · have e := step_11 (P := P) (σ := x.σ) p
        obtain ⟨i0, i1⟩ := spOf_range (sp := x.sp) (i := i) (by omega)
        have hs := spOf_set i0 i1 { spOf x.sp i with pc := 0 }
        have hI := hi.passes i _ hs (.inr p) rfl rfl
        have hS := hi.hold i (.inr p)
        rw [← hS] at hI
        have hno : ∀ j, ¬ inn (spOf (x.sp.set i.toNat { spOf x.sp i with pc := 0 }) j) := by
          intro j hj
          rw [hs] at hj
          by_cases ej : j = i
          · rw [if_pos ej] at hj
            unfold inn at hj
            simp at hj
          · rw [if_neg ej] at hj
            have h1 := hi.hold j hj
            exact ej (hi.inj j i (.inr hj) (.inr (.inr p)) (by omega))
        have hl : x.held.length = S + 1 := by
          rcases h.cnt with ⟨_, e⟩ | ⟨h1, _⟩
          · exact e
          · exact absurd (.inr p) (h1 i)
        rw [h.doors (c := ⟨0, i⟩) (by simp only; omega) (by simp only; omega)]
        simp only [do_0, e]
        refine ⟨S + 1, T, hI, h.dl, fun j hj => ?_, h.take, .inr ⟨hno, hl⟩⟩
        show x.doors[(spOf (x.sp.set i.toNat _) j).a.toNat]? = some j
        have hj' : inq (spOf (x.sp.set i.toNat { spOf x.sp i with pc := 0 }) j) := hj
        rw [hs] at hj' ⊢
        by_cases ej : j = i
        · rw [if_pos ej] at hj'
          unfold inq at hj'
          simp at hj'
        · rw [if_neg ej] at hj' ⊢
          exact h.dat j hj'
theorem ord_turn {P : Par} {x : St} {S T : Nat} (h : OrdI P x S T) {kd i fr tO : Int} (hk : kd ≠ 0) (e : doP P x.σ x.sp kd i = (turnB x.sp i fr, x.σ, turnS x.sp i fr tO)) (hto : tO ≠ 10)
    (hI : Inv P x.σ (turnS x.sp i fr tO) S T) (hq : ∀ j, inq (spOf (turnS x.sp i fr tO) j) → inq (spOf x.sp j) ∧ (spOf (turnS x.sp i fr tO) j).a = (spOf x.sp j).a) (hn : ∀ j, inn (spOf (turnS x.sp i fr tO) j) ↔ inn (spOf x.sp j)) : OrdP P (ordS P x ⟨kd, i⟩) := by
  rw [h.doors (c := ⟨kd, i⟩) (by simp only; omega) (by
    simp only [e]
    cases ht : turnB x.sp i fr
    · rw [turn_no tO ht]; omega
    · rw [spOf_turn tO ht, if_pos rfl]; simp only; omega)]
  simp only [e]
  exact ⟨S, T, h.keep hI hq hn⟩
theorem ord_do {P : Par} {x : St} (h : OrdP P x) (c : Ac) : OrdP P (ordS P x c) := by
  obtain ⟨kd, i⟩ := c
  by_cases k0 : kd = 0
  · subst k0; exact ord_step h i
  obtain ⟨S, T, h⟩ := h
  have hi := h.inv
  by_cases k1 : kd = 1
  · subst k1
    cases ht : turnB x.sp i 0
    · have e := turn_no 1 ht
      refine ord_turn h (kd := 1) (fr := 0) (tO := 1) (by omega) (do_1 _ _ _ _) (by omega) ?_ ?_ ?_
      · rw [e]; exact hi
      · rw [e]; exact fun _ h => ⟨h, rfl⟩
      · rw [e]; exact fun _ => Iff.rfl
    · have hp := (turn_true ht).2
      have hs := spOf_turn 1 ht
      refine ord_turn h (kd := 1) (fr := 0) (tO := 1) (by omega) (do_1 _ _ _ _) (by omega) (hi.idle i _ hs (by unfold inq; omega) (.inr rfl) rfl) (fun j hj => ?_) (fun j => ?_)
      · rw [hs] at hj ⊢
        by_cases ej : j = i
        · rw [if_pos ej] at hj; unfold inq at hj; simp at hj
        · rw [if_neg ej] at hj ⊢; exact ⟨hj, rfl⟩
      · rw [hs]
        by_cases ej : j = i
        · rw [if_pos ej, ej]; unfold inn; simp only; omega
        · rw [if_neg ej]
  by_cases k2 : kd = 2
  · subst k2
    cases ht : turnB x.sp i 10
    · have e := turn_no 11 ht
      refine ord_turn h (kd := 2) (fr := 10) (tO := 11) (by omega) (do_2 _ _ _ _) (by omega) ?_ ?_ ?_
      · rw [e]; exact hi
      · rw [e]; exact fun _ h => ⟨h, rfl⟩
      · rw [e]; exact fun _ => Iff.rfl
    · have hp := (turn_true ht).2
      have hs := spOf_turn 11 ht
      refine ord_turn h (kd := 2) (fr := 10) (tO := 11) (by omega) (do_2 _ _ _ _) (by omega) (hi.keeps i _ hs (.inr (.inl hp)) (.inr rfl) rfl (hi.hold i (.inl hp))) (fun j hj => ?_) (fun j => ?_)
      · rw [hs] at hj ⊢
        by_cases ej : j = i
        · rw [if_pos ej, ej]; exact ⟨.inr (.inl hp), rfl⟩
        · rw [if_neg ej] at hj ⊢; exact ⟨hj, rfl⟩
      · rw [hs]
        by_cases ej : j = i
        · rw [if_pos ej, ej]; exact ⟨fun _ => .inl hp, fun _ => .inr rfl⟩
        · rw [if_neg ej]
  by_cases k3 : kd = 3
  · subst k3
    have e : doP P x.σ x.sp 3 i = ((aloneP P x.σ x.sp i).1, (aloneP P x.σ x.sp i).2, x.sp) := rfl
    rw [h.doors (c := ⟨3, i⟩) (by simp only; omega) (by simp only [e]; omega)]
    simp only [e]
    refine ⟨S, T, h.keep ?_ (fun i h => ⟨h, rfl⟩) (fun _ => Iff.rfl)⟩
    unfold aloneP
    split
    · exact hi.read _ _
    · exact hi
  · have e : doP P x.σ x.sp kd i = (false, x.σ, x.sp) := by unfold doP; rw [if_neg k0, if_neg k1, if_neg k2, if_neg k3]
    rw [h.doors (c := ⟨kd, i⟩) (by simp only; omega) (by simp only [e]; omega)]
    simp only [e]
    exact ⟨S, T, h.keep hi (fun i h => ⟨h, rfl⟩) (fun _ => Iff.rfl)⟩
theorem do_len (P : Par) (σ : Ar) (sp : List Sp) (kd i : Int) : (doP P σ sp kd i).2.2.length = sp.length := by
  unfold doP
  split
  · unfold stepP
    split
    · simp
    split
    · simp only; split <;> simp
    split
    · simp
    · rfl
  split
  · exact turnS_len _ _ _ _
  split
  · exact turnS_len _ _ _ _
  split <;> rfl
theorem do_ops (P : Par) (σ : Ar) (sp : List Sp) (kd i : Int) : (doP P σ sp kd i).2.1.ops ≤ σ.ops + 1 ∧ σ.ops ≤ (doP P σ sp kd i).2.1.ops := by
  have h : ∀ (kd p v : Int) (wr : Bool), (σ.op kd p wr v).ops ≤ σ.ops + 1 ∧ σ.ops ≤ (σ.op kd p wr v).ops := by
    intro kd p v wr
    rw [op_ops]
    split <;> omega
  unfold doP
  split
  · unfold stepP
    split
    · exact h _ _ _ _
    split
    · exact h _ _ _ _
    split
    · exact h _ _ _ _
    · exact ⟨Nat.le_succ _, Nat.le_refl _⟩
  split
  · exact ⟨Nat.le_succ _, Nat.le_refl _⟩
  split
  · exact ⟨Nat.le_succ _, Nat.le_refl _⟩
  split
  · unfold aloneP
    split
    · exact h _ _ _ _
    · exact ⟨Nat.le_succ _, Nat.le_refl _⟩
  · exact ⟨Nat.le_succ _, Nat.le_refl _⟩
def wP (p : Int) : Nat := if p = 1 then 4 else if p = 2 then 3 else if p = 10 then 2 else if p = 11 then 1 else 0
theorem wP_le (p : Int) : wP p ≤ 4 := by unfold wP; repeat (first | split | omega)
def RdyP (sp : List Sp) (i : Nat) : Prop := (spOf sp i).pc = 1 ∨ inn (spOf sp i) ∨ ((spOf sp i).pc = 2 ∧ ∀ j, inq (spOf sp j) → (spOf sp i).a ≤ (spOf sp j).a)
theorem set_wt {sp : List Sp} {i : Int} {s' : Sp} (h : wP s'.pc < wP (spOf sp i).pc) (hp : (spOf sp i).pc ≠ 0) : wts wP (sp.set i.toNat s') < wts wP sp := by
  obtain ⟨i0, i1⟩ := spOf_range hp
  have := wts_spOf wP sp i i0 i1 s'
  omega
theorem rndP (P : Par) (n : Nat) : Rnd (ordS P) (fun x => x.sp) (wts wP) (fun x => OrdP P x ∧ x.sp.length = n) RdyP n := by
  have dn : ∀ (x : St) (i : Int), OrdP P x → wts wP (ordS P x ⟨0, i⟩).sp < wts wP x.sp ∨ (ordS P x ⟨0, i⟩).sp = x.sp := by
    intro x i ⟨S, T, h⟩
    show wts wP (stepP P x.σ x.sp i).2.2 < _ ∨ (stepP P x.σ x.sp i).2.2 = _
    by_cases p1 : (spOf x.sp i).pc = 1
    · rw [step_1 p1]
      obtain ⟨i0, i1⟩ := spOf_range (sp := x.sp) (i := i) (by omega)
      have := wts_spOf wP x.sp i i0 i1 { spOf x.sp i with pc := 2, a := x.σ.get P.next }
      rw [p1] at this
      have e1 : wP 1 = 4 := rfl
      have e2 : wP 2 = 3 := rfl
      left
      simp only at this ⊢
      omega
    by_cases p2 : (spOf x.sp i).pc = 2
    · rw [step_2 p2]
      obtain ⟨i0, i1⟩ := spOf_range (sp := x.sp) (i := i) (by omega)
      simp only
      split
      · have := wts_spOf wP x.sp i i0 i1 { spOf x.sp i with pc := 10 }
        rw [p2] at this
        have e1 : wP 2 = 3 := rfl
        have e2 : wP 10 = 2 := rfl
        left
        simp only at this ⊢
        omega
      · exact .inr rfl
    by_cases p3 : (spOf x.sp i).pc = 11
    · rw [step_11 p3]
      obtain ⟨i0, i1⟩ := spOf_range (sp := x.sp) (i := i) (by omega)
      have := wts_spOf wP x.sp i i0 i1 { spOf x.sp i with pc := 0 }
      rw [p3] at this
      have e1 : wP 11 = 1 := rfl
      have e2 : wP 0 = 0 := rfl
      left
      simp only at this ⊢
      omega
    · rw [step_no p1 p2 p3]
      exact .inr rfl
  have dl : ∀ (x : St) (i : Int), OrdP P x → ((spOf x.sp i).pc = 10 → wts wP (ordS P x ⟨2, i⟩).sp < wts wP x.sp) ∧ (wts wP (ordS P x ⟨2, i⟩).sp < wts wP x.sp ∨ (ordS P x ⟨2, i⟩).sp = x.sp) := by
    intro x i _
    have hb : turnB x.sp i 10 = true → wts wP (turnS x.sp i 10 11) < wts wP x.sp := by
      intro ht
      obtain ⟨⟨i0, i1⟩, hp⟩ := turn_true ht
      unfold turnS
      rw [if_pos ht]
      exact set_wt (s' := { spOf x.sp i with pc := 11 }) (by rw [hp]; show wP 11 < wP 10; decide) (by omega)
    refine ⟨fun hp => ?_, ?_⟩
    · obtain ⟨i0, i1⟩ := spOf_range (sp := x.sp) (i := i) (by omega)
      exact hb (by simp [turnB]; omega)
    · show wts wP (turnS x.sp i 10 11) < _ ∨ turnS x.sp i 10 11 = _
      cases ht : turnB x.sp i 10
      · exact .inr (turn_no 11 ht)
      · exact .inl (hb ht)
  refine ⟨fun x c hx => ⟨ord_do hx.1 c, (do_len P x.σ x.sp c.kind c.i).trans hx.2⟩, fun x i k hk hx => ?_, fun x hx hp => ?_, fun x i hx hr => ?_⟩
  · rcases hk with rfl | rfl
    · exact dn x i hx.1
    · exact (dl x i hx.1).2
  · obtain ⟨⟨S, T, h⟩, hl⟩ := hx
    obtain ⟨k, k1, k2⟩ := wts_pos wP x.sp hp
    rcases h.inv.pcs (k : Int) with p | p | p
    · rw [p] at k2; exact absurd k2 (by decide)
    · exact ⟨k, by omega, .inl p⟩
    · have ht := h.inv.tick k p
      obtain ⟨j, j1, j2⟩ := h.inv.all S (Int.le_refl _) (by omega)
      obtain ⟨j0, jl⟩ := spOf_range (sp := x.sp) (i := j) (by unfold inq at j1; omega)
      obtain ⟨m, rfl⟩ := Int.eq_ofNat_of_zero_le j0
      refine ⟨m, by omega, ?_⟩
      rcases j1 with j1 | j1
      · refine .inr (.inr ⟨j1, fun i hi => ?_⟩)
        have := h.inv.tick i hi
        omega
      · exact .inr (.inl j1)
  · obtain ⟨hx, _⟩ := hx
    have h1 := dn x i hx
    have h2 := dl _ i (ord_do hx ⟨0, i⟩)
    have g : wts wP (ordS P x ⟨0, i⟩).sp < wts wP x.sp → wts wP (ordS P (ordS P x ⟨0, i⟩) ⟨2, i⟩).sp < wts wP x.sp := by
      intro h3
      rcases h2.2 with h4 | h4
      · omega
      · rw [h4]; exact h3
    obtain ⟨S, T, h⟩ := hx
    rcases hr with hr | hr | ⟨hr, hm⟩
    · refine g ?_
      rcases h1 with h1 | h1
      · exact h1
      · exfalso
        have e : (ordS P x ⟨0, i⟩).sp = (stepP P x.σ x.sp i).2.2 := rfl
        rw [e, step_1 hr] at h1
        obtain ⟨i0, i1⟩ := spOf_range (sp := x.sp) (i := (i : Int)) (by omega)
        have hs := spOf_set i0 i1 { spOf x.sp i with pc := 2, a := x.σ.get P.next } i
        simp only at h1
        rw [h1, if_pos rfl] at hs
        rw [hs] at hr
        simp at hr
    · rcases hr with hr | hr
      · have e : (ordS P x ⟨0, i⟩).sp = x.sp := by
          show (stepP P x.σ x.sp i).2.2 = _
          rw [step_no (by omega) (by omega) (by omega)]
        have h3 := h2.1 (by rw [e]; exact hr)
        rw [e] at h3
        exact h3
      · refine g ?_
        rcases h1 with h1 | h1
        · exact h1
        · exfalso
          have e : (ordS P x ⟨0, i⟩).sp = (stepP P x.σ x.sp i).2.2 := rfl
          rw [e, step_11 hr] at h1
          obtain ⟨i0, i1⟩ := spOf_range (sp := x.sp) (i := (i : Int)) (by omega)
          have hs := spOf_set i0 i1 { spOf x.sp i with pc := 0 } i
          simp only at h1
          rw [h1, if_pos rfl] at hs
          rw [hs] at hr
          simp at hr
    · refine g ?_
      have hS : (spOf x.sp i).a = S := by
        have ht := h.inv.tick i (.inl hr)
        obtain ⟨j, j1, j2⟩ := h.inv.all S (Int.le_refl _) (by omega)
        have := hm j j1
        omega
      have hg : x.σ.get (place P (spOf x.sp i).a) = (spOf x.sp i).a := by rw [hS]; exact h.inv.srv
      rcases h1 with h1 | h1
      · exact h1
      · exfalso
        have e : (ordS P x ⟨0, i⟩).sp = (stepP P x.σ x.sp i).2.2 := rfl
        rw [e, step_2 hr] at h1
        simp only [if_pos hg] at h1
        obtain ⟨i0, i1⟩ := spOf_range (sp := x.sp) (i := (i : Int)) (by omega)
        have hs := spOf_set i0 i1 { spOf x.sp i with pc := 10 } i
        rw [h1, if_pos rfl] at hs
        rw [hs] at hr
        simp at hr
theorem ord_end {P : Par} {n : Nat} {x : St} (h : OrdP P x) (hl : x.sp.length = n) (k : Nat) (hk : 4 * n < k) : ∃ y, (rActs n k).foldl (ordS P) x = y ∧ (∀ i, (spOf y.sp i).pc = 0) ∧ y.doors = y.held := by
  refine ⟨_, rfl, ?_⟩
  rw [fold_rounds]
  have hz := rounds_rest (rndP P n) ⟨h, hl⟩ k (by have := wts_le wP 4 wP_le x.sp; rw [hl] at this; omega)
  obtain ⟨⟨S, T, hy⟩, hyl⟩ := rounds_good (rndP P n) ⟨h, hl⟩ k
  have hz : wts wP (rounds (ordS P) n x k).sp = 0 := hz
  generalize rounds (ordS P) n x k = y at *
  have h0 : ∀ i, (spOf y.sp i).pc = 0 := by
    intro i
    by_cases hi : 0 ≤ i ∧ i < y.sp.length
    · have h1 := wts_zero wP y.sp hz i hi
      rcases hy.inv.pcs i with p | p | p
      · exact p
      · rw [p] at h1; exact absurd h1 (by decide)
      · rcases p with p | p | p <;> (rw [p] at h1; exact absurd h1 (by decide))
    · rw [spOf_out (by omega)]; rfl
  refine ⟨h0, ?_⟩
  have hST : S = T := by
    have := hy.inv.le
    rcases Nat.lt_or_ge S T with h1 | h1
    · obtain ⟨i, i1, _⟩ := hy.inv.all S (Int.le_refl _) (by omega)
      have := h0 i
      unfold inq at i1
      omega
    · omega
  have hh : y.held.length = S := by
    rcases hy.cnt with ⟨⟨i, h1⟩, _⟩ | ⟨_, e⟩
    · have := h0 i
      unfold inn at h1
      omega
    · exact e
  have ht := hy.take
  rw [hh, hST, ← hy.dl, List.take_length] at ht
  exact ht.symm
theorem ord_fold {P : Par} (l : List Ac) : ∀ (x : St), OrdP P x → OrdP P (l.foldl (ordS P) x) := by
  induction l with
  | nil => exact fun _ h => h
  | cons c l ih => exact fun x h => ih _ (ord_do h c)
theorem ord_start (n : Nat) : OrdP ⟨1⟩ ⟨(⟨zerosW 100, 2, 0, 0, 0, false⟩ : Ar), List.replicate n sp0, [], []⟩ := by
  refine ⟨0, 0, inv_start n, rfl, fun i hi => ?_, rfl, .inr ⟨fun i hi => ?_, rfl⟩⟩
  · have hi : inq (spOf (List.replicate n sp0) i) := hi
    rw [zero_spot] at hi
    unfold inq sp0 at hi
    simp at hi
  · have hi : inn (spOf (List.replicate n sp0) i) := hi
    rw [zero_spot] at hi
    unfold inn sp0 at hi
    simp at hi
end Go.Proofs.YtfnmggmgdmokcaaGreat.Tk

/- Package ticket: slots, spots, turns. -/
namespace Go.Proofs.YtfnmggmgdmokcaaGreat.Tk
open Go.RowKit Go.Proofs.YtfnmggmgdmokcaaGreat.Ara Go.Proofs.YtfnmggmgdmokcaaGreat.Lok

def LkAt (W : World) (gl ga ha hs : Nat) (P : Par) (σ : Ar) (sp : List Sp) : Prop :=
  ArAt W ga ha σ ∧ SpAt W hs sp ∧ sp.length ≤ 32 ∧ (∃ c : Nat, W.heap[gl]? = some (.cells #[.slice (some ⟨hs, 0, none⟩) sp.length c, .pointer (some ⟨ga, 0, none⟩), .int .i64 P.next] 145 (0, 0))) ∧ gl ≠ ga ∧ gl ≠ ha ∧ gl ≠ hs ∧ hs ≠ ga ∧ hs ≠ ha
theorem LkAt.mod {S : List Nat} {W W' : World} {gl ga ha hs : Nat} {P : Par} {σ : Ar} {sp : List Sp} (k : LkAt W gl ga ha hs P σ sp) (hm : Mod S W W') (h1 : gl ∉ S) (h2 : ga ∉ S) (h3 : ha ∉ S) (h4 : hs ∉ S) : LkAt W' gl ga ha hs P σ sp := by
  obtain ⟨k1, k2, k3, ⟨c, k4⟩, k5⟩ := k
  exact ⟨k1.mod hm h2 h3, k2.mod hm h4, k3, ⟨c, hm.blk k4 h1⟩, k5⟩
theorem LkAt.same {W W' : World} {gl ga ha hs : Nat} {P : Par} {σ : Ar} {sp : List Sp} (k : LkAt W gl ga ha hs P σ sp) (hb : Below W.heap.size W W') : LkAt W' gl ga ha hs P σ sp :=
  k.mod (S := []) (Mod.of_below hb) (by simp) (by simp) (by simp) (by simp)
theorem LkAt.drewN {W : World} {gl ga ha hs : Nat} {P : Par} {σ : Ar} {sp : List Sp} (k : LkAt W gl ga ha hs P σ sp) (n : Nat) : LkAt (W.drewN n) gl ga ha hs P σ sp := k
theorem LkAt.arena {W W' : World} {gl ga ha hs : Nat} {P : Par} {σ σ' : Ar} {sp : List Sp} (k : LkAt W gl ga ha hs P σ sp) (ha' : ArAt W' ga ha σ') (hm : Mod [ga, ha] W W') : LkAt W' gl ga ha hs P σ' sp := by
  obtain ⟨_, k2, k3, ⟨c, k4⟩, d1, d2, d3, d4, d5⟩ := k
  exact ⟨ha', k2.mod hm (by simp; omega), k3, ⟨c, hm.blk k4 (by simp; omega)⟩, d1, d2, d3, d4, d5⟩
theorem LkAt.spots {W W' : World} {gl ga ha hs : Nat} {P : Par} {σ : Ar} {sp sp' : List Sp} (k : LkAt W gl ga ha hs P σ sp) (hs' : SpAt W' hs sp') (hm : Mod [hs] W W') (hl : sp'.length = sp.length) : LkAt W' gl ga ha hs P σ sp' := by
  obtain ⟨k1, _, k3, ⟨c, k4⟩, d1, d2, d3, d4, d5⟩ := k
  refine ⟨k1.mod hm (by simp; omega) (by simp; omega), hs', by omega, ⟨c, ?_⟩, d1, d2, d3, d4, d5⟩
  have := hm.blk k4 (by simp; omega)
  rw [hl]
  exact this
theorem LkAt.heads {W : World} {gl ga ha hs : Nat} {P : Par} {σ : Ar} {sp : List Sp} (k : LkAt W gl ga ha hs P σ sp) : (∃ c : Nat, W.cell? ⟨gl, 0, none⟩ = some (.slice (some ⟨hs, 0, none⟩) sp.length c) ∧ W.cell? ⟨gl, 1, none⟩ = some (.pointer (some ⟨ga, 0, none⟩)) ∧ W.cell? ⟨gl, 2, none⟩ = some (.int .i64 P.next)) ∧ sp.length ≤ 32 := by
  obtain ⟨_, _, k3, ⟨c, k4⟩, _⟩ := k
  exact ⟨⟨c, blk_cell k4 0 (by simp), blk_cell k4 1 (by simp), blk_cell k4 2 (by simp)⟩, k3⟩
section
variable (gl ga ha hs : Nat) (P : Par) (σ : Ar) (sp : List Sp) (w : World) (H : LkAt w gl ga ha hs P σ sp)
include H
theorem slots_lk : Calls Tryz.prog 159 #[.pointer (some ⟨gl, 0, none⟩)] w fun e w' => e = .returned (.int .i64 sp.length) ∧ w' = w := by
  obtain ⟨⟨cc, q0, q1, q2⟩, hl⟩ := H.heads
  clear H
  go_enter Tryz.func159, Tryz.ntmps159
  go_wp2_with fail
  go_ret
  exact ⟨rfl, rfl⟩
theorem spot_out_lk (i : Int) (hi : i < 0 ∨ (sp.length : Int) ≤ i) : Calls Tryz.prog 157 #[.pointer (some ⟨gl, 0, none⟩), .int .i64 i] w fun e w' => e = .returned (.pointer none) ∧ w' = w := by
  have HS := Lib.hid (slots_lk gl ga ha hs P σ sp w H)
  obtain ⟨⟨cc, q0, q1, q2⟩, hl⟩ := H.heads
  clear H
  by_cases h0 : i < 0
  · go_enter Tryz.func157, Tryz.ntmps157
    go_wp2_with fail
    go_ret
    exact ⟨rfl, rfl⟩
  · have h1 : (sp.length : Int) ≤ i := by omega
    go_enter Tryz.func157, Tryz.ntmps157
    go_wp2_with fail
    refine (HS.out).mono ?_
    rintro e wx ⟨rfl, hwx⟩
    obtain rfl := hwx.symm
    go_wp2_with fail
    go_ret
    exact ⟨rfl, rfl⟩
theorem spot_in_lk (k : Nat) (hk : k < sp.length) : Calls Tryz.prog 157 #[.pointer (some ⟨gl, 0, none⟩), .int .i64 (k : Int)] w fun e w' => e = .returned (.pointer (some ⟨hs, k * 4, none⟩)) ∧ w' = w := by
  have HS := Lib.hid (slots_lk gl ga ha hs P σ sp w H)
  obtain ⟨⟨cc, q0, q1, q2⟩, hl⟩ := H.heads
  have h1 : (k : Int) < (sp.length : Int) := by omega
  have h2 : (0 : Int) ≤ (k : Int) := by omega
  clear H
  go_enter Tryz.func157, Tryz.ntmps157
  go_wp2_with fail
  refine (HS.out).mono ?_
  rintro e wx ⟨rfl, hwx⟩
  obtain rfl := hwx.symm
  go_wp2_with fail
  go_ret
  exact ⟨rfl, rfl⟩
theorem Spot_lk (i : Int) : Calls Tryz.prog 156 #[.pointer (some ⟨gl, 0, none⟩), .int .i64 i] w fun e w' => e = .returned (.agg #[.int .i64 (spOf sp i).pc, .int .i64 (spOf sp i).a, .int .i64 (spOf sp i).b, .int .i64 (spOf sp i).c]) ∧ Below w.heap.size w w' := by
  by_cases hi : i < 0 ∨ (sp.length : Int) ≤ i
  · rw [spOf_out hi]
    have HS := Lib.hid (fun W K => spot_out_lk gl ga ha hs P σ sp W K i hi)
    have HH := Lib.hid (H.same (below_new w (.cells #[.int .i64 0, .int .i64 0, .int .i64 0, .int .i64 0] 40)))
    clear H hi
    go_enter Tryz.func156, Tryz.ntmps156
    go_wp2_with fail
    refine (HS.out _ HH.out).mono ?_
    rintro e wx ⟨rfl, hwx⟩
    obtain rfl := hwx.symm
    go_wp2_with fail
    exact bodyPost_ret (v := .agg #[.int .i64 0, .int .i64 0, .int .i64 0, .int .i64 0]) (by simp [results, Tryz.results156, go_sem]) rfl ⟨rfl, (Below.refl _ _).alloc (Nat.le_refl _) _⟩
  · obtain ⟨k, rfl⟩ := Int.eq_ofNat_of_zero_le (show 0 ≤ i by omega)
    have hk : k < sp.length := by omega
    have HS := Lib.hid (fun W K => spot_in_lk gl ga ha hs P σ sp W K k hk)
    have HH := Lib.hid (H.same (below_new w (.cells #[.int .i64 0, .int .i64 0, .int .i64 0, .int .i64 0] 40)))
    obtain ⟨c0, c1, c2, c3, _⟩ := H.2.1.cells k hk
    have hlt := H.2.1.lt
    have e0 := spOf_in hk
    rw [e0]
    clear H hi e0
    generalize sp[k] = s at *
    obtain ⟨xp, xa, xb, xc⟩ := s
    simp only at c0 c1 c2 c3 ⊢
    go_enter Tryz.func156, Tryz.ntmps156
    go_wp2_with fail
    refine (HS.out _ HH.out).mono ?_
    rintro e wx ⟨rfl, hwx⟩
    obtain rfl := hwx.symm
    go_wp2_with fail
    exact bodyPost_ret (v := .agg #[.int .i64 xp, .int .i64 xa, .int .i64 xb, .int .i64 xc]) (by simp [results, Tryz.results156, go_sem]) rfl ⟨rfl, (Below.refl _ _).alloc (Nat.le_refl _) _⟩
end

section
variable (gl ga ha hs : Nat) (P : Par) (σ : Ar) (sp : List Sp) (w : World) (H : LkAt w gl ga ha hs P σ sp)
include H
theorem turn_lk (i fr tO : Int) : Calls Tryz.prog 155 #[.pointer (some ⟨gl, 0, none⟩), .int .i64 i, .int .i64 fr, .int .i64 tO] w fun e w' => e = .returned (.bool (turnB sp i fr)) ∧ LkAt w' gl ga ha hs P σ (turnS sp i fr tO) ∧ Mod [hs] w w' := by
  by_cases hi : i < 0 ∨ (sp.length : Int) ≤ i
  · rw [turn_out hi, turnS_out hi]
    have HS := Lib.hid (spot_out_lk gl ga ha hs P σ sp w H i hi)
    have HA : Calls Tryz.prog 154 #[.pointer (some ⟨gl, 0, none⟩), .int .i64 i, .int .i64 fr] w fun e w' => e = .returned (.pointer none) ∧ w' = w := by
      clear H hi
      go_enter Tryz.func154, Tryz.ntmps154
      go_wp2_with fail
      refine (HS.out).mono ?_
      rintro e wx ⟨rfl, hwx⟩
      obtain rfl := hwx.symm
      go_wp2_with fail
      go_ret
      exact ⟨rfl, rfl⟩
    replace HA := Lib.hid HA
    have HH := Lib.hid H
    clear H hi
    go_enter Tryz.func155, Tryz.ntmps155
    go_wp2_with fail
    refine (HA.out).mono ?_
    rintro e wx ⟨rfl, hwx⟩
    obtain rfl := hwx.symm
    go_wp2_with fail
    go_ret
    exact ⟨rfl, HH.out, Mod.refl _ _⟩
  · obtain ⟨k, rfl⟩ := Int.eq_ofNat_of_zero_le (show 0 ≤ i by omega)
    have hk : k < sp.length := by omega
    have HS := Lib.hid (spot_in_lk gl ga ha hs P σ sp w H k hk)
    have c0 := (H.2.1.cells k hk).1
    have f0 := (H.2.1.cells k hk).2.2.2.2 (k * 4)
    have HH := Lib.hid H
    have hm : Mod [hs] w (w.setCell ⟨hs, k * 4, none⟩ (.int .i64 tO)) := (Mod.refl _ _).setCell (by simp) _
    have HT := Lib.hid (H.spots (H.2.1.setPc k hk tO) hm (by rw [List.length_set]))
    rw [turn_in hk, turnS_in hk]
    by_cases hp : sp[k].pc = fr
    · rw [if_pos hp, beq_iff_eq.2 hp]
      rw [hp] at c0
      have e1 := ibne_no (rfl : fr = fr)
      generalize sp.set k { sp[k] with pc := tO } = sp2 at *
      clear H hi hp hk
      have HA : Calls Tryz.prog 154 #[.pointer (some ⟨gl, 0, none⟩), .int .i64 (k : Int), .int .i64 fr] w fun e w' => e = .returned (.pointer (some ⟨hs, k * 4, none⟩)) ∧ w' = w := by
        go_enter Tryz.func154, Tryz.ntmps154
        go_wp2_with fail
        refine (HS.out).mono ?_
        rintro e wx ⟨rfl, hwx⟩
        obtain rfl := hwx.symm
        go_wp2_with fail
        go_ret
        exact ⟨rfl, rfl⟩
      replace HA := Lib.hid HA
      go_enter Tryz.func155, Tryz.ntmps155
      go_wp2_with fail
      refine (HA.out).mono ?_
      rintro e wx ⟨rfl, hwx⟩
      obtain rfl := hwx.symm
      go_wp2_with fail
      go_ret
      exact ⟨rfl, HT.out, hm⟩
    · rw [if_neg hp, beq_eq_false_iff_ne.2 hp]
      have e1 := ibne hp
      generalize sp[k].pc = x at *
      clear H hi hp HT hm hk f0
      have HA : Calls Tryz.prog 154 #[.pointer (some ⟨gl, 0, none⟩), .int .i64 (k : Int), .int .i64 fr] w fun e w' => e = .returned (.pointer none) ∧ w' = w := by
        go_enter Tryz.func154, Tryz.ntmps154
        go_wp2_with fail
        refine (HS.out).mono ?_
        rintro e wx ⟨rfl, hwx⟩
        obtain rfl := hwx.symm
        go_wp2_with fail
        go_ret
        exact ⟨rfl, rfl⟩
      replace HA := Lib.hid HA
      go_enter Tryz.func155, Tryz.ntmps155
      go_wp2_with fail
      refine (HA.out).mono ?_
      rintro e wx ⟨rfl, hwx⟩
      obtain rfl := hwx.symm
      go_wp2_with fail
      go_ret
      exact ⟨rfl, HH.out, Mod.refl _ _⟩
omit H in
theorem of_lk (W : World) : Calls Tryz.prog 153 #[.pointer (some ⟨gl, 0, none⟩)] W fun e w' => e = .returned (.pointer (some ⟨gl, 0, none⟩)) ∧ w' = W := by
  go_enter Tryz.func153, Tryz.ntmps153
  go_wp2_with fail
  go_ret
  exact ⟨rfl, rfl⟩
theorem Ask_lk (i : Int) : Calls Tryz.prog 148 #[.pointer (some ⟨gl, 0, none⟩), .int .i64 i] w fun e w' => e = .returned (.bool (turnB sp i 0)) ∧ LkAt w' gl ga ha hs P σ (turnS sp i 0 1) ∧ Mod [hs] w w' := by
  have HT := Lib.hid (turn_lk gl ga ha hs P σ sp w H i 0 1)
  clear H
  generalize turnB sp i 0 = b at *
  generalize turnS sp i 0 1 = sp2 at *
  go_enter Tryz.func148, Tryz.ntmps148
  go_wp2_with fail
  refine (of_lk gl _).mono ?_
  rintro e wx ⟨rfl, hwx⟩
  obtain rfl := hwx.symm
  go_wp2_with fail
  refine HT.out.mono ?_
  rintro e w2 ⟨rfl, h2, hm⟩
  go_wp2_with fail
  go_ret
  exact ⟨rfl, h2, hm⟩
theorem Leave_lk (i : Int) : Calls Tryz.prog 149 #[.pointer (some ⟨gl, 0, none⟩), .int .i64 i] w fun e w' => e = .returned (.bool (turnB sp i 10)) ∧ LkAt w' gl ga ha hs P σ (turnS sp i 10 11) ∧ Mod [hs] w w' := by
  have HT := Lib.hid (turn_lk gl ga ha hs P σ sp w H i 10 11)
  clear H
  generalize turnB sp i 10 = b at *
  generalize turnS sp i 10 11 = sp2 at *
  go_enter Tryz.func149, Tryz.ntmps149
  go_wp2_with fail
  refine (of_lk gl _).mono ?_
  rintro e wx ⟨rfl, hwx⟩
  obtain rfl := hwx.symm
  go_wp2_with fail
  refine HT.out.mono ?_
  rintro e w2 ⟨rfl, h2, hm⟩
  go_wp2_with fail
  go_ret
  exact ⟨rfl, h2, hm⟩

theorem LSpot_lk (i : Int) : Calls Tryz.prog 151 #[.pointer (some ⟨gl, 0, none⟩), .int .i64 i] w fun e w' => e = .returned (.agg #[.int .i64 (spOf sp i).pc, .int .i64 (spOf sp i).a, .int .i64 (spOf sp i).b, .int .i64 (spOf sp i).c]) ∧ Below w.heap.size w w' := by
  have hbn := below_new w (.cells #[.int .i64 0, .int .i64 0, .int .i64 0, .int .i64 0] 40)
  have hbk := blk_new w (.cells #[.int .i64 0, .int .i64 0, .int .i64 0, .int .i64 0] 40)
  have hz : w.heap.size < (w.alloc (.cells #[.int .i64 0, .int .i64 0, .int .i64 0, .int .i64 0] 40)).heap.size := by simp
  have HB := Lib.hid hbk
  clear hbk
  have HT := Lib.hid (Spot_lk gl ga ha hs P σ sp _ (H.same hbn) i)
  clear H
  generalize spOf sp i = s at *
  obtain ⟨xp, xa, xb, xc⟩ := s
  simp only at HT ⊢
  go_enter Tryz.func151, Tryz.ntmps151
  go_wp2_with fail
  refine (of_lk gl _).mono ?_
  rintro e wx ⟨rfl, hwx⟩
  obtain rfl := hwx.symm
  go_wp2_with fail
  refine HT.out.mono ?_
  rintro e w2 ⟨rfl, hb2⟩
  have hbk2 := (Mod.of_below (S := []) hb2).blk HB.out (by simp)
  have d0 := blk_cell hbk2 0 (by simp)
  have d1 := blk_cell hbk2 1 (by simp)
  have d2 := blk_cell hbk2 2 (by simp)
  have d3 := blk_cell hbk2 3 (by simp)
  have f0 := blk_free hbk2 0
  have f1 := blk_free hbk2 1
  have f2 := blk_free hbk2 2
  have f3 := blk_free hbk2 3
  simp only [List.getElem_toArray, List.getElem_cons_zero, List.getElem_cons_succ] at d0 d1 d2 d3
  have hB := Lib.hid (hbn.trans (hb2.mono hbn.size))
  have k0 := blk_set hbk2 0 (.int .i64 (xp))
  have k1 := blk_set k0 1 (.int .i64 (xa))
  have k2 := blk_set k1 2 (.int .i64 (xb))
  have k3 := blk_set k2 3 (.int .i64 (xc))
  have g0 := blk_cell k0 0 (by simp)
  have g1 := blk_cell k1 1 (by simp)
  have g2 := blk_cell k2 2 (by simp)
  have g3 := blk_cell k3 3 (by simp)
  simp at g0 g1 g2 g3
  clear hbk2 hb2 k0 k1 k2 k3
  go_wp2_with fail
  exact bodyPost_ret (v := .agg #[.int .i64 (xp), .int .i64 (xa), .int .i64 (xb), .int .i64 (xc)]) (by simp [results, Tryz.results151, go_sem, g0, g1, g2, g3]) rfl ⟨rfl, by first | exact hB.out | exact (((((hB.out.setCell (Nat.le_refl _) _).setCell (Nat.le_refl _) _).setCell (Nat.le_refl _) _).setCell (Nat.le_refl _) _))⟩
end
end Go.Proofs.YtfnmggmgdmokcaaGreat.Tk

