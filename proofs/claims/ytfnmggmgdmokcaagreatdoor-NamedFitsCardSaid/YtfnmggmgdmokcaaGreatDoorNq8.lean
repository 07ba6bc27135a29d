/- Merged texts: TkP, TkO, Tk1, Tk2, Tk3, TkI, TaP, Ta3. -/
import Derived.Test.YtfnmggmgdmokcaaGreatDoorNq7
import Derived.Deep.RegionHeld3
import Derived.RegionTactic
import Derived.BigRegion
set_option linter.unusedVariables false
/- Package ticket, as Lean has it: no two slots hold at once. -/
namespace Go.Proofs.YtfnmggmgdmokcaaGreatDoor.Tk
open Go.RowKit Go.Proofs.YtfnmggmgdmokcaaGreatDoor.Ara Go.Proofs.YtfnmggmgdmokcaaGreatDoor.Lok

structure Par where
  next : Int
def Par.parts (_ : Par) : Int := 1
def place (P : Par) (t : Int) : Int := P.next + 1 + t % P.parts
def stepP (P : Par) (σ : Ar) (sp : List Sp) (i : Int) : Bool × Ar × List Sp :=
  if (spOf sp i).pc = 1 then (false, σ.op 5 P.next true (σ.get P.next + 1), sp.set i.toNat { spOf sp i with pc := 2, a := σ.get P.next })
  else if (spOf sp i).pc = 2 then (σ.get (place P (spOf sp i).a) == (spOf sp i).a, σ.op 1 (place P (spOf sp i).a) false 0, if σ.get (place P (spOf sp i).a) = (spOf sp i).a then sp.set i.toNat { spOf sp i with pc := 10 } else sp)
  else if (spOf sp i).pc = 11 then (true, σ.op 2 (place P ((spOf sp i).a + 1)) true ((spOf sp i).a + 1), sp.set i.toNat { spOf sp i with pc := 0 })
  else (false, σ, sp)
def aloneP (P : Par) (σ : Ar) (sp : List Sp) (i : Int) : Bool × Ar :=
  if (spOf sp i).pc = 10 then (σ.get P.next == (spOf sp i).a + 1, σ.op 1 P.next false 0) else (false, σ)
def doP (P : Par) (σ : Ar) (sp : List Sp) (kd i : Int) : Bool × Ar × List Sp :=
  if kd = 0 then stepP P σ sp i else if kd = 1 then (turnB sp i 0, σ, turnS sp i 0 1) else if kd = 2 then (turnB sp i 10, σ, turnS sp i 10 11)
  else if kd = 3 then ((aloneP P σ sp i).1, (aloneP P σ sp i).2, sp) else (false, σ, sp)

def inq (s : Sp) : Prop := s.pc = 2 ∨ s.pc = 10 ∨ s.pc = 11
structure Inv (P : Par) (σ : Ar) (sp : List Sp) (S T : Nat) : Prop where
  hl : σ.t ≤ σ.ws.length
  p1 : 1 ≤ P.parts
  p2 : P.parts ≤ 32
  n1 : 1 ≤ P.next
  n2 : P.next + P.parts ≤ σ.t
  gT : σ.get P.next = T
  le : S ≤ T
  srv : σ.get (place P S) = S
  low : ∀ x : Int, 0 ≤ x → x < P.parts → σ.get (P.next + 1 + x) ≤ S
  pcs : ∀ i, (spOf sp i).pc = 0 ∨ (spOf sp i).pc = 1 ∨ inq (spOf sp i)
  tick : ∀ i, inq (spOf sp i) → (S : Int) ≤ (spOf sp i).a ∧ (spOf sp i).a < T
  hold : ∀ i, (spOf sp i).pc = 10 ∨ (spOf sp i).pc = 11 → (spOf sp i).a = S
  inj : ∀ i j, inq (spOf sp i) → inq (spOf sp j) → (spOf sp i).a = (spOf sp j).a → i = j
  all : ∀ t : Int, S ≤ t → t < T → ∃ i, inq (spOf sp i) ∧ (spOf sp i).a = t
  rng : ∀ i, 0 ≤ (spOf sp i).a ∧ (spOf sp i).a ≤ T
theorem place_in {P : Par} (h : 1 ≤ P.parts) (t : Int) : ∃ x, 0 ≤ x ∧ x < P.parts ∧ place P t = P.next + 1 + x :=
  ⟨t % P.parts, Int.emod_nonneg _ (by omega), Int.emod_lt_of_pos _ (by omega), rfl⟩
theorem Inv.has {P : Par} {σ : Ar} {sp : List Sp} {S T : Nat} (h : Inv P σ sp S T) (t : Int) : σ.has (place P t) = true := by
  obtain ⟨x, x0, x1, e⟩ := place_in h.p1 t
  rw [e]
  have := h.n1
  have := h.n2
  simp [Ar.has]
  omega
theorem Inv.hasN {P : Par} {σ : Ar} {sp : List Sp} {S T : Nat} (h : Inv P σ sp S T) : σ.has P.next = true := by
  have := h.n1
  have := h.n2
  have := h.p1
  simp [Ar.has]
  omega
theorem Inv.read {P : Par} {σ : Ar} {sp : List Sp} {S T : Nat} (h : Inv P σ sp S T) (p v : Int) : Inv P (σ.op 1 p false v) sp S T := by
  refine { h with hl := ?_, n2 := ?_, gT := ?_, srv := ?_, low := ?_ }
  · rw [op_t, op_len]; exact h.hl
  · rw [op_t]; exact h.n2
  · rw [get_read σ h.hl]; exact h.gT
  · rw [get_read σ h.hl]; exact h.srv
  · intro x h0 h1
    rw [get_read σ h.hl]
    exact h.low x h0 h1
theorem Inv.idle {P : Par} {σ : Ar} {sp sp' : List Sp} {S T : Nat} (h : Inv P σ sp S T) (i : Int) (s' : Sp) (hs : ∀ j, spOf sp' j = if j = i then s' else spOf sp j) (h0 : ¬ inq (spOf sp i)) (h1 : s'.pc = 0 ∨ s'.pc = 1) (ha : s'.a = (spOf sp i).a) : Inv P σ sp' S T := by
  have h2 : ¬ inq s' := by unfold inq; omega
  refine { h with pcs := fun j => ?_, tick := fun j hj => ?_, hold := fun j hj => ?_, inj := fun j k hj hk e => ?_, all := fun t t0 t1 => ?_, rng := fun j => ?r }
  case r =>
    rw [hs]; split
    · rw [ha]; exact h.rng i
    · exact h.rng j
  · rw [hs]; split
    · omega
    · exact h.pcs j
  · rw [hs] at hj ⊢; split at hj
    · exact absurd hj h2
    · rename_i e; rw [if_neg e]; exact h.tick j hj
  · rw [hs] at hj ⊢; split at hj
    · omega
    · rename_i e; rw [if_neg e]; exact h.hold j hj
  · rw [hs] at hj hk e; rw [hs k] at e
    split at hj
    · exact absurd hj h2
    · split at hk
      · exact absurd hk h2
      · rename_i e1 e2
        rw [if_neg e1, if_neg e2] at e
        exact h.inj j k hj hk e
  · obtain ⟨k, k1, k2⟩ := h.all t t0 t1
    refine ⟨k, ?_⟩
    have : k ≠ i := fun e => h0 (e ▸ k1)
    rw [hs, if_neg this]
    exact ⟨k1, k2⟩
theorem Inv.keeps {P : Par} {σ : Ar} {sp sp' : List Sp} {S T : Nat} (h : Inv P σ sp S T) (i : Int) (s' : Sp) (hs : ∀ j, spOf sp' j = if j = i then s' else spOf sp j) (h0 : inq (spOf sp i)) (h1 : s'.pc = 10 ∨ s'.pc = 11) (ha : s'.a = (spOf sp i).a) (hS : s'.a = S) : Inv P σ sp' S T := by
  have h2 : inq s' := by unfold inq; omega
  have hh : ∀ j, inq (spOf sp' j) ↔ inq (spOf sp j) := by
    intro j; rw [hs]; split
    · rename_i e; subst e; exact ⟨fun _ => h0, fun _ => h2⟩
    · exact Iff.rfl
  have hA : ∀ j, (spOf sp' j).a = (spOf sp j).a := by
    intro j; rw [hs]; split
    · rename_i e; subst e; exact ha
    · rfl
  refine { h with pcs := fun j => ?_, tick := fun j hj => ?_, hold := fun j hj => ?_, inj := fun j k hj hk e => ?_, all := fun t t0 t1 => ?_, rng := fun j => ?r }
  case r => rw [hA]; exact h.rng j
  · rw [hs]; split
    · exact .inr (.inr h2)
    · exact h.pcs j
  · rw [hA]; exact h.tick j ((hh j).1 hj)
  · rw [hs] at hj ⊢; split at hj
    · rename_i e; rw [if_pos e]; exact hS
    · rename_i e; rw [if_neg e]; exact h.hold j hj
  · rw [hA, hA] at e; exact h.inj j k ((hh j).1 hj) ((hh k).1 hk) e
  · obtain ⟨k, k1, k2⟩ := h.all t t0 t1
    exact ⟨k, (hh k).2 k1, by rw [hA]; exact k2⟩
theorem Inv.takes {P : Par} {σ : Ar} {sp sp' : List Sp} {S T : Nat} (h : Inv P σ sp S T) (i : Int) (s' : Sp) (hs : ∀ j, spOf sp' j = if j = i then s' else spOf sp j) (h0 : ¬ inq (spOf sp i)) (h1 : s'.pc = 2) (ha : s'.a = T) : Inv P (σ.op 5 P.next true (T + 1)) sp' S (T + 1) := by
  have hg := fun q => get_op σ h.hl 5 P.next ((T : Int) + 1) true q
  simp only [h.hasN, true_and] at hg
  have h2 : inq s' := .inl h1
  refine { p1 := h.p1, p2 := h.p2, n1 := h.n1, le := by have := h.le; omega, hl := ?_, n2 := ?_, gT := ?_, srv := ?_, low := ?_, pcs := fun j => ?_, tick := fun j hj => ?_, hold := fun j hj => ?_, inj := fun j k hj hk e => ?_, all := fun t t0 t1 => ?_, rng := fun j => ?r }
  case r =>
    have hr := h.rng j
    rw [hs]; split
    · rw [ha]; have := h.rng i; omega
    · omega
  · rw [op_t, op_len]; exact h.hl
  · rw [op_t]; exact h.n2
  · rw [hg, if_pos rfl]; simp
  · obtain ⟨x, x0, x1, e⟩ := place_in h.p1 S
    have := h.srv
    rw [hg, if_neg (by rw [e]; omega)]
    exact this
  · intro x x0 x1
    rw [hg, if_neg (by omega)]
    exact h.low x x0 x1
  · rw [hs]; split
    · exact .inr (.inr h2)
    · exact h.pcs j
  · rw [hs] at hj ⊢; split at hj
    · rename_i e; rw [if_pos e, ha]; have := h.le; omega
    · rename_i e; rw [if_neg e]; have := h.tick j hj; omega
  · rw [hs] at hj ⊢; split at hj
    · omega
    · rename_i e; rw [if_neg e]; exact h.hold j hj
  · rw [hs] at hj hk e; rw [hs k] at e
    split at hj
    · split at hk
      · omega
      · rename_i e1 e2
        rw [if_pos e1, if_neg e2, ha] at e
        have := h.tick k hk
        omega
    · split at hk
      · rename_i e1 e2
        rw [if_neg e1, if_pos e2, ha] at e
        have := h.tick j hj
        omega
      · rename_i e1 e2
        rw [if_neg e1, if_neg e2] at e
        exact h.inj j k hj hk e
  · by_cases e : t = T
    · exact ⟨i, by rw [hs, if_pos rfl]; exact ⟨h2, by rw [ha, e]⟩⟩
    · obtain ⟨k, k1, k2⟩ := h.all t t0 (by omega)
      refine ⟨k, ?_⟩
      have : k ≠ i := fun e => h0 (e ▸ k1)
      rw [hs, if_neg this]
      exact ⟨k1, k2⟩
theorem Inv.passes {P : Par} {σ : Ar} {sp sp' : List Sp} {S T : Nat} (h : Inv P σ sp S T) (i : Int) (s' : Sp) (hs : ∀ j, spOf sp' j = if j = i then s' else spOf sp j) (h0 : (spOf sp i).pc = 10 ∨ (spOf sp i).pc = 11) (h1 : s'.pc = 0) (ha : s'.a = (spOf sp i).a) : Inv P (σ.op 2 (place P ((S : Int) + 1)) true (S + 1)) sp' (S + 1) T := by
  have hg := fun q => get_op σ h.hl 2 (place P ((S : Int) + 1)) ((S : Int) + 1) true q
  simp only [h.has, true_and] at hg
  have hq : inq (spOf sp i) := .inr h0
  have hS := h.hold i h0
  have hT := h.tick i hq
  have h2 : ¬ inq s' := by unfold inq; omega
  obtain ⟨y, y0, y1, ey⟩ := place_in h.p1 ((S : Int) + 1)
  refine { p1 := h.p1, p2 := h.p2, n1 := h.n1, le := by omega, hl := ?_, n2 := ?_, gT := ?_, srv := ?_, low := ?_, pcs := fun j => ?_, tick := fun j hj => ?_, hold := fun j hj => ?_, inj := fun j k hj hk e => ?_, all := fun t t0 t1 => ?_, rng := fun j => ?r }
  case r =>
    have hr := h.rng j
    rw [hs]; split
    · rw [ha]; have := h.rng i; omega
    · omega
  · rw [op_t, op_len]; exact h.hl
  · rw [op_t]; exact h.n2
  · rw [hg, if_neg (by rw [ey]; omega)]; exact h.gT
  · rw [hg, if_pos (by simp)]; simp <;> omega
  · intro x x0 x1
    rw [hg]
    have := h.low x x0 x1
    split <;> omega
  · rw [hs]; split
    · exact .inl h1
    · exact h.pcs j
  · rw [hs] at hj ⊢; split at hj
    · exact absurd hj h2
    · rename_i e
      rw [if_neg e]
      have h3 := h.tick j hj
      have h4 : (spOf sp j).a ≠ (spOf sp i).a := fun e' => e (h.inj j i hj hq e')
      omega
  · rw [hs] at hj ⊢; split at hj
    · omega
    · rename_i e
      exact absurd (h.inj j i (.inr hj) hq (by rw [h.hold j hj, hS])) e
  · rw [hs] at hj hk e; rw [hs k] at e
    split at hj
    · exact absurd hj h2
    · split at hk
      · exact absurd hk h2
      · rename_i e1 e2
        rw [if_neg e1, if_neg e2] at e
        exact h.inj j k hj hk e
  · obtain ⟨k, k1, k2⟩ := h.all t (by omega) t1
    refine ⟨k, ?_⟩
    have : k ≠ i := fun e => by subst e; omega
    rw [hs, if_neg this]
    exact ⟨k1, k2⟩
theorem Inv.served {P : Par} {σ : Ar} {sp : List Sp} {S T : Nat} (h : Inv P σ sp S T) (i : Int) (h0 : inq (spOf sp i)) (h1 : σ.get (place P (spOf sp i).a) = (spOf sp i).a) : (spOf sp i).a = S := by
  obtain ⟨x, x0, x1, e⟩ := place_in h.p1 (spOf sp i).a
  have := h.low x x0 x1
  rw [e] at h1
  have := h.tick i h0
  omega
theorem step_inv {P : Par} {σ : Ar} {sp : List Sp} {S T : Nat} (h : Inv P σ sp S T) (i : Int) : ∃ S' T', T' ≤ T + 1 ∧ Inv P (stepP P σ sp i).2.1 (stepP P σ sp i).2.2 S' T' := by
  unfold stepP
  by_cases h1 : (spOf sp i).pc = 1
  · rw [if_pos h1]
    obtain ⟨i0, i1⟩ := spOf_range (sp := sp) (i := i) (by omega)
    refine ⟨S, T + 1, Nat.le_refl _, ?_⟩
    have := h.takes i _ (spOf_set i0 i1 { spOf sp i with pc := 2, a := σ.get P.next }) (by unfold inq; omega) rfl h.gT
    rw [← h.gT] at this
    exact this
  rw [if_neg h1]
  by_cases h2 : (spOf sp i).pc = 2
  · rw [if_pos h2]
    obtain ⟨i0, i1⟩ := spOf_range (sp := sp) (i := i) (by omega)
    refine ⟨S, T, Nat.le_succ _, ?_⟩
    by_cases h3 : σ.get (place P (spOf sp i).a) = (spOf sp i).a
    · simp only [h3, if_true]
      exact (h.keeps i _ (spOf_set i0 i1 { spOf sp i with pc := 10 }) (.inl h2) (.inl rfl) rfl (h.served i (.inl h2) h3)).read _ _
    · simp only [h3, if_false]
      exact h.read _ _
  rw [if_neg h2]
  by_cases h3 : (spOf sp i).pc = 11
  · rw [if_pos h3]
    obtain ⟨i0, i1⟩ := spOf_range (sp := sp) (i := i) (by omega)
    refine ⟨S + 1, T, Nat.le_succ _, ?_⟩
    have := h.passes i _ (spOf_set i0 i1 { spOf sp i with pc := 0 }) (.inr h3) rfl rfl
    have e := h.hold i (.inr h3)
    rw [← e] at this
    exact this
  rw [if_neg h3]
  exact ⟨S, T, Nat.le_succ _, h⟩
theorem do_inv {P : Par} {σ : Ar} {sp : List Sp} {S T : Nat} (h : Inv P σ sp S T) (kd i : Int) : ∃ S' T', T' ≤ T + 1 ∧ Inv P (doP P σ sp kd i).2.1 (doP P σ sp kd i).2.2 S' T' := by
  unfold doP
  split
  · exact step_inv h i
  split
  · refine ⟨S, T, Nat.le_succ _, ?_⟩
    cases ht : turnB sp i 0
    · simp only [turn_no 1 ht]; exact h
    · have hp := (turn_true ht).2
      exact h.idle i _ (spOf_turn 1 ht) (by unfold inq; omega) (.inr rfl) rfl
  split
  · refine ⟨S, T, Nat.le_succ _, ?_⟩
    cases ht : turnB sp i 10
    · simp only [turn_no 11 ht]; exact h
    · have hp := (turn_true ht).2
      exact h.keeps i _ (spOf_turn 11 ht) (.inr (.inl hp)) (.inr rfl) rfl (h.hold i (.inl hp))
  split
  · refine ⟨S, T, Nat.le_succ _, ?_⟩
    unfold aloneP
    split
    · exact h.read _ _
    · exact h
  · exact ⟨S, T, Nat.le_succ _, h⟩
theorem Inv.one {P : Par} {σ : Ar} {sp : List Sp} {S T : Nat} (h : Inv P σ sp S T) (n : Nat) : cnt (fun s => s.pc == 10) sp n ≤ 1 := by
  refine cnt_one _ _ (fun i j hi hj => ?_) n
  simp only [beq_iff_eq] at hi hj
  exact h.inj i j (.inr (.inl hi)) (.inr (.inl hj)) (by rw [h.hold i (.inl hi), h.hold j (.inl hj)])
theorem Inv.behind {P : Par} {σ : Ar} {sp : List Sp} {S T : Nat} (h : Inv P σ sp S T) (i : Int) (hp : (spOf sp i).pc = 10) (ha : (aloneP P σ sp i).1 = false) : 0 < cnt (fun s => decide (0 < s.pc) && decide (s.pc < 10)) sp sp.length := by
  unfold aloneP at ha
  rw [if_pos hp, h.gT, h.hold i (.inl hp)] at ha
  simp at ha
  have hT := h.tick i (.inr (.inl hp))
  have hS := h.hold i (.inl hp)
  obtain ⟨k, k1, k2⟩ := h.all (S + 1) (by omega) (by omega)
  have h3 : (spOf sp k).pc = 2 := by
    rcases k1 with k1 | k1
    · exact k1
    · have := h.hold k k1
      omega
  obtain ⟨r0, r1⟩ := spOf_range (sp := sp) (i := k) (by omega)
  exact cnt_some _ _ k (by rw [h3]; rfl) r0 _ r1
theorem zero_get (n t : Nat) (o k p : Int) (ops : Nat) (wr : Bool) (q : Int) : (⟨zerosW n, t, ops, k, p, wr⟩ : Ar).get q = 0 := by
  unfold Ar.get
  split
  · simp [zerosW, List.getD_eq_getElem?_getD, List.getElem?_replicate]
    split <;> rfl
  · rfl
theorem zero_spot (n : Nat) (i : Int) : spOf (List.replicate n sp0) i = sp0 := by
  unfold spOf
  split
  · simp [List.getD_eq_getElem?_getD, List.getElem?_replicate]
    split <;> rfl
  · rfl
theorem inv_start (n : Nat) : Inv ⟨1⟩ (⟨zerosW 100, 2, 0, 0, 0, false⟩ : Ar) (List.replicate n sp0) 0 0 := by
  have hg := fun q => zero_get 100 2 0 0 0 0 false q
  have hs := zero_spot n
  have hq : ∀ i, ¬ inq (spOf (List.replicate n sp0) i) := by
    intro i; rw [hs]; unfold inq sp0; simp
  refine { p1 := Int.le_refl _, p2 := by show (1 : Int) ≤ 32; decide, n1 := Int.le_refl _, le := Nat.le_refl _, hl := ?_, n2 := by show (1 : Int) + 1 ≤ ((2 : Nat) : Int); decide, gT := hg _, srv := hg _, low := fun x _ _ => by rw [hg]; exact Int.le_refl _, pcs := fun i => ?_, tick := fun i hi => absurd hi (hq i), hold := fun i hi => absurd (Or.inr hi) (hq i), inj := fun i j hi => absurd hi (hq i), all := fun t t0 t1 => ?_, rng := fun i => ?_ }
  · show 2 ≤ (zerosW 100).length
    have : (zerosW 100).length = 100 := List.length_replicate
    omega
  · left; rw [hs]; rfl
  · omega
  · rw [hs]; exact ⟨Int.le_refl _, Int.le_refl _⟩
end Go.Proofs.YtfnmggmgdmokcaaGreatDoor.Tk

/- Package ticket, as Lean has it: slots hold in the order of their doorways. -/
namespace Go.Proofs.YtfnmggmgdmokcaaGreatDoor.Tk
open Go.RowKit Go.Proofs.YtfnmggmgdmokcaaGreatDoor.Ara Go.Proofs.YtfnmggmgdmokcaaGreatDoor.Lok

structure St where
  σ : Ar
  sp : List Sp
  doors : List Int
  held : List Int
def ordS (P : Par) (x : St) (c : Ac) : St :=
  { σ := (doP P x.σ x.sp c.kind c.i).2.1, sp := (doP P x.σ x.sp c.kind c.i).2.2,
    doors := if c.kind = 0 ∧ 0 < (spOf x.sp c.i).pc ∧ (spOf x.sp c.i).pc < 10 ∧ x.σ.ops < (doP P x.σ x.sp c.kind c.i).2.1.ops ∧ (doP P x.σ x.sp c.kind c.i).2.1.kind = 5 then x.doors ++ [c.i] else x.doors,
    held := if (spOf x.sp c.i).pc < 10 ∧ (spOf (doP P x.σ x.sp c.kind c.i).2.2 c.i).pc = 10 then x.held ++ [c.i] else x.held }
def inn (s : Sp) : Prop := s.pc = 10 ∨ s.pc = 11
structure OrdI (P : Par) (x : St) (S T : Nat) : Prop where
  inv : Inv P x.σ x.sp S T
  dl : x.doors.length = T
  dat : ∀ i, inq (spOf x.sp i) → x.doors[(spOf x.sp i).a.toNat]? = some i
  take : x.held = x.doors.take x.held.length
  cnt : ((∃ i, inn (spOf x.sp i)) ∧ x.held.length = S + 1) ∨ ((∀ i, ¬ inn (spOf x.sp i)) ∧ x.held.length = S)
def OrdP (P : Par) (x : St) : Prop := ∃ S T, OrdI P x S T
theorem OrdI.keep {P : Par} {x : St} {S T : Nat} (h : OrdI P x S T) {σ' : Ar} {sp' : List Sp} (hi : Inv P σ' sp' S T) (hq : ∀ i, inq (spOf sp' i) → inq (spOf x.sp i) ∧ (spOf sp' i).a = (spOf x.sp i).a) (hn : ∀ i, inn (spOf sp' i) ↔ inn (spOf x.sp i)) :
    OrdI P { σ := σ', sp := sp', doors := x.doors, held := x.held } S T := by
  refine ⟨hi, h.dl, fun i h1 => ?_, h.take, ?_⟩
  · obtain ⟨h2, e⟩ := hq i h1
    show x.doors[_]? = _
    rw [e]
    exact h.dat i h2
  · rcases h.cnt with ⟨⟨i, h1⟩, e⟩ | ⟨h1, e⟩
    · exact .inl ⟨⟨i, (hn i).2 h1⟩, e⟩
    · exact .inr ⟨fun i h2 => h1 i ((hn i).1 h2), e⟩
theorem OrdI.doors {P : Par} {x : St} {S T : Nat} (h : OrdI P x S T) {c : Ac} (hd : ¬ (c.kind = 0 ∧ 0 < (spOf x.sp c.i).pc ∧ (spOf x.sp c.i).pc < 10 ∧ x.σ.ops < (doP P x.σ x.sp c.kind c.i).2.1.ops ∧ (doP P x.σ x.sp c.kind c.i).2.1.kind = 5)) (hh : ¬ ((spOf x.sp c.i).pc < 10 ∧ (spOf (doP P x.σ x.sp c.kind c.i).2.2 c.i).pc = 10)) :
    ordS P x c = { σ := (doP P x.σ x.sp c.kind c.i).2.1, sp := (doP P x.σ x.sp c.kind c.i).2.2, doors := x.doors, held := x.held } := by
  unfold ordS
  rw [if_neg hd, if_neg hh]
theorem do_0 (P : Par) (σ : Ar) (sp : List Sp) (i : Int) : doP P σ sp 0 i = stepP P σ sp i := rfl
theorem step_1 {P : Par} {σ : Ar} {sp : List Sp} {i : Int} (h : (spOf sp i).pc = 1) : stepP P σ sp i = (false, σ.op 5 P.next true (σ.get P.next + 1), sp.set i.toNat { spOf sp i with pc := 2, a := σ.get P.next }) := by
  unfold stepP; rw [if_pos h]
theorem step_2 {P : Par} {σ : Ar} {sp : List Sp} {i : Int} (h : (spOf sp i).pc = 2) : stepP P σ sp i = (σ.get (place P (spOf sp i).a) == (spOf sp i).a, σ.op 1 (place P (spOf sp i).a) false 0, if σ.get (place P (spOf sp i).a) = (spOf sp i).a then sp.set i.toNat { spOf sp i with pc := 10 } else sp) := by
  unfold stepP; rw [if_neg (by omega), if_pos h]
theorem step_11 {P : Par} {σ : Ar} {sp : List Sp} {i : Int} (h : (spOf sp i).pc = 11) : stepP P σ sp i = (true, σ.op 2 (place P ((spOf sp i).a + 1)) true ((spOf sp i).a + 1), sp.set i.toNat { spOf sp i with pc := 0 }) := by
  unfold stepP; rw [if_neg (by omega), if_neg (by omega), if_pos h]
theorem step_no {P : Par} {σ : Ar} {sp : List Sp} {i : Int} (h1 : (spOf sp i).pc ≠ 1) (h2 : (spOf sp i).pc ≠ 2) (h3 : (spOf sp i).pc ≠ 11) : stepP P σ sp i = (false, σ, sp) := by
  unfold stepP; rw [if_neg h1, if_neg h2, if_neg h3]
theorem do_len (P : Par) (σ : Ar) (sp : List Sp) (kd i : Int) : (doP P σ sp kd i).2.2.length = sp.length := by
  unfold doP
  split
  · unfold stepP
    split
    · simp
    split
    · simp only; split <;> simp
    split
    · simp
    · rfl
  split
  · exact turnS_len _ _ _ _
  split
  · exact turnS_len _ _ _ _
  split <;> rfl
theorem do_ops (P : Par) (σ : Ar) (sp : List Sp) (kd i : Int) : (doP P σ sp kd i).2.1.ops ≤ σ.ops + 1 ∧ σ.ops ≤ (doP P σ sp kd i).2.1.ops := by
  have h : ∀ (kd p v : Int) (wr : Bool), (σ.op kd p wr v).ops ≤ σ.ops + 1 ∧ σ.ops ≤ (σ.op kd p wr v).ops := by
    intro kd p v wr
    rw [op_ops]
    split <;> omega
  unfold doP
  split
  · unfold stepP
    split
    · exact h _ _ _ _
    split
    · exact h _ _ _ _
    split
    · exact h _ _ _ _
    · exact ⟨Nat.le_succ _, Nat.le_refl _⟩
  split
  · exact ⟨Nat.le_succ _, Nat.le_refl _⟩
  split
  · exact ⟨Nat.le_succ _, Nat.le_refl _⟩
  split
  · unfold aloneP
    split
    · exact h _ _ _ _
    · exact ⟨Nat.le_succ _, Nat.le_refl _⟩
  · exact ⟨Nat.le_succ _, Nat.le_refl _⟩
end Go.Proofs.YtfnmggmgdmokcaaGreatDoor.Tk

/- Package ticket: slots, spots, turns. -/
namespace Go.Proofs.YtfnmggmgdmokcaaGreatDoor.Tk
open Go.RowKit Go.Proofs.YtfnmggmgdmokcaaGreatDoor.Ara Go.Proofs.YtfnmggmgdmokcaaGreatDoor.Lok

def LkAt (W : World) (gl ga ha hs : Nat) (P : Par) (σ : Ar) (sp : List Sp) : Prop :=
  ArAt W ga ha σ ∧ SpAt W hs sp ∧ sp.length ≤ 32 ∧ (∃ c : Nat, W.heap[gl]? = some (.cells #[.slice (some ⟨hs, 0, none⟩) sp.length c, .pointer (some ⟨ga, 0, none⟩), .int .i64 P.next] 133 (0, 0))) ∧ gl ≠ ga ∧ gl ≠ ha ∧ gl ≠ hs ∧ hs ≠ ga ∧ hs ≠ ha
theorem LkAt.mod {S : List Nat} {W W' : World} {gl ga ha hs : Nat} {P : Par} {σ : Ar} {sp : List Sp} (k : LkAt W gl ga ha hs P σ sp) (hm : Mod S W W') (h1 : gl ∉ S) (h2 : ga ∉ S) (h3 : ha ∉ S) (h4 : hs ∉ S) : LkAt W' gl ga ha hs P σ sp := by
  obtain ⟨k1, k2, k3, ⟨c, k4⟩, k5⟩ := k
  exact ⟨k1.mod hm h2 h3, k2.mod hm h4, k3, ⟨c, hm.blk k4 h1⟩, k5⟩
theorem LkAt.same {W W' : World} {gl ga ha hs : Nat} {P : Par} {σ : Ar} {sp : List Sp} (k : LkAt W gl ga ha hs P σ sp) (hb : Below W.heap.size W W') : LkAt W' gl ga ha hs P σ sp :=
  k.mod (S := []) (Mod.of_below hb) (by simp) (by simp) (by simp) (by simp)
theorem LkAt.drewN {W : World} {gl ga ha hs : Nat} {P : Par} {σ : Ar} {sp : List Sp} (k : LkAt W gl ga ha hs P σ sp) (n : Nat) : LkAt (W.drewN n) gl ga ha hs P σ sp := k
theorem LkAt.arena {W W' : World} {gl ga ha hs : Nat} {P : Par} {σ σ' : Ar} {sp : List Sp} (k : LkAt W gl ga ha hs P σ sp) (ha' : ArAt W' ga ha σ') (hm : Mod [ga, ha] W W') : LkAt W' gl ga ha hs P σ' sp := by
  obtain ⟨_, k2, k3, ⟨c, k4⟩, d1, d2, d3, d4, d5⟩ := k
  exact ⟨ha', k2.mod hm (by simp; omega), k3, ⟨c, hm.blk k4 (by simp; omega)⟩, d1, d2, d3, d4, d5⟩
theorem LkAt.spots {W W' : World} {gl ga ha hs : Nat} {P : Par} {σ : Ar} {sp sp' : List Sp} (k : LkAt W gl ga ha hs P σ sp) (hs' : SpAt W' hs sp') (hm : Mod [hs] W W') (hl : sp'.length = sp.length) : LkAt W' gl ga ha hs P σ sp' := by
  obtain ⟨k1, _, k3, ⟨c, k4⟩, d1, d2, d3, d4, d5⟩ := k
  refine ⟨k1.mod hm (by simp; omega) (by simp; omega), hs', by omega, ⟨c, ?_⟩, d1, d2, d3, d4, d5⟩
  have := hm.blk k4 (by simp; omega)
  rw [hl]
  exact this
theorem LkAt.heads {W : World} {gl ga ha hs : Nat} {P : Par} {σ : Ar} {sp : List Sp} (k : LkAt W gl ga ha hs P σ sp) : (∃ c : Nat, W.cell? ⟨gl, 0, none⟩ = some (.slice (some ⟨hs, 0, none⟩) sp.length c) ∧ W.cell? ⟨gl, 1, none⟩ = some (.pointer (some ⟨ga, 0, none⟩)) ∧ W.cell? ⟨gl, 2, none⟩ = some (.int .i64 P.next)) ∧ sp.length ≤ 32 := by
  obtain ⟨_, _, k3, ⟨c, k4⟩, _⟩ := k
  exact ⟨⟨c, blk_cell k4 0 (by simp), blk_cell k4 1 (by simp), blk_cell k4 2 (by simp)⟩, k3⟩
section
variable (gl ga ha hs : Nat) (P : Par) (σ : Ar) (sp : List Sp) (w : World) (H : LkAt w gl ga ha hs P σ sp)
include H
end

section
variable (gl ga ha hs : Nat) (P : Par) (σ : Ar) (sp : List Sp) (w : World) (H : LkAt w gl ga ha hs P σ sp)
include H
end
end Go.Proofs.YtfnmggmgdmokcaaGreatDoor.Tk

/- Package ticket: Step, Alone, New. -/
namespace Go.Proofs.YtfnmggmgdmokcaaGreatDoor.Tk
open Go.RowKit Go.Proofs.YtfnmggmgdmokcaaGreatDoor.Ara Go.Proofs.YtfnmggmgdmokcaaGreatDoor.Lok

def Num (P : Par) (σ : Ar) (sp : List Sp) : Prop := (1 ≤ P.next ∧ P.next ≤ 4096) ∧ (∀ k (h : k < sp.length), 0 ≤ sp[k].a ∧ sp[k].a ≤ 1000000) ∧ σ.ops ≤ 1000000 ∧ σ.has P.next = true ∧ 0 ≤ σ.get P.next ∧ σ.get P.next ≤ 1000000
section
variable (gl ga ha hs : Nat) (P : Par) (σ : Ar) (sp : List Sp) (w : World) (H : LkAt w gl ga ha hs P σ sp)
include H
section
variable (hN : Num P σ sp) (k : Nat) (hk : k < sp.length)
include hN hk
end
end
end Go.Proofs.YtfnmggmgdmokcaaGreatDoor.Tk

/- Package ticket: all steps, Alone, New. -/
namespace Go.Proofs.YtfnmggmgdmokcaaGreatDoor.Tk
open Go.RowKit Go.Proofs.YtfnmggmgdmokcaaGreatDoor.Ara Go.Proofs.YtfnmggmgdmokcaaGreatDoor.Lok

section
variable (gl ga ha hs : Nat) (P : Par) (σ : Ar) (sp : List Sp) (w : World) (H : LkAt w gl ga ha hs P σ sp)
include H
end
set_option maxHeartbeats 4000000 in
set_option maxRecDepth 100000 in
theorem new_lk (ga ha : Nat) (σ σ1 : Ar) (w : World) (H : ArAt w ga ha σ) (hh : ha < w.heap.size) (n : Nat) (n1 : 1 ≤ n) (n2 : n ≤ 32) (next : Int)
    (ht : σ.take 2 = ((next, 0), σ1)) :
    Calls Tryz.prog 35 #[.pointer (some ⟨ga, 0, none⟩), .int .i64 (n : Int)] w fun e w' => ∃ gl hs, e = .returned (.tuple #[.pointer (some ⟨gl, 0, none⟩), .int .i64 0]) ∧ LkAt w' gl ga ha hs ⟨next⟩ σ1 (Ta.zeroS n) ∧ w.heap.size ≤ gl ∧ w.heap.size ≤ hs ∧ Mod [ga, ha] w w' := by
  have HT := take_any ga ha σ w H 2
  rw [ht] at HT
  replace HT := Lib.hid HT
  have hmk := fun W => Ta.make_spots n (by omega) W
  have hga := H.lt
  have i1 : (1 : Int) ≤ (n : Int) := by omega
  have i2 : (n : Int) ≤ 32 := by omega
  clear H ht
  go_enter Tryz.func35, Tryz.ntmps35
  go_wp2_with fail
  refine HT.out.mono ?_
  rintro e w2 ⟨rfl, h2, hm2⟩
  have H2 := Lib.hid h2
  clear h2
  have hz2 := hm2.size
  have hK : LkAt ((w2.alloc (.cells ((Ta.zeroS n).flatMap decSp).toArray 142)).alloc (.cells #[.slice (some ⟨w2.heap.size, 0, none⟩) n n, .pointer (some ⟨ga, 0, none⟩), .int .i64 next] 133)) (w2.heap.size + 1) ga ha w2.heap.size ⟨next⟩ σ1 (Ta.zeroS n) := by
    have hb := (below_new w2 (.cells ((Ta.zeroS n).flatMap decSp).toArray 142))
    have hb2 := below_new (w2.alloc (.cells ((Ta.zeroS n).flatMap decSp).toArray 142)) (.cells #[.slice (some ⟨w2.heap.size, 0, none⟩) n n, .pointer (some ⟨ga, 0, none⟩), .int .i64 next] 133)
    have hbl := blk_new (w2.alloc (.cells ((Ta.zeroS n).flatMap decSp).toArray 142)) (.cells #[.slice (some ⟨w2.heap.size, 0, none⟩) n n, .pointer (some ⟨ga, 0, none⟩), .int .i64 next] 133)
    have hzl : (Ta.zeroS n).length = n := by simp [Ta.zeroS]
    refine ⟨(H2.out.step hb).step hb2, (Ta.spAt_new w2 n).mod (S := []) (Mod.of_below hb2) (by simp), by omega, ⟨n, ?_⟩, by omega, by omega, by omega, by omega, by omega⟩
    rw [hzl]
    simpa using hbl
  have hmm : Mod [ga, ha] w ((w2.alloc (.cells ((Ta.zeroS n).flatMap decSp).toArray 142)).alloc (.cells #[.slice (some ⟨w2.heap.size, 0, none⟩) n n, .pointer (some ⟨ga, 0, none⟩), .int .i64 next] 133)) := (hm2.alloc _).alloc _
  have HK := Lib.hid hK
  clear H2 hm2 hK
  have e0 : (w2.alloc (.cells ((Ta.zeroS n).flatMap decSp).toArray 142)).heap.size = w2.heap.size + 1 := by simp
  go_wp2_with fail
  go_ret2
  exact ⟨w2.heap.size + 1, w2.heap.size, rfl, HK.out, by omega, hz2, hmm⟩
end Go.Proofs.YtfnmggmgdmokcaaGreatDoor.Tk

/- Package ticket: what its laws ask of it. -/
namespace Go.Proofs.YtfnmggmgdmokcaaGreatDoor.Tk
open Go.RowKit Go.Proofs.YtfnmggmgdmokcaaGreatDoor.Ara Go.Proofs.YtfnmggmgdmokcaaGreatDoor.Lok

theorem Inv.num {P : Par} {σ : Ar} {sp : List Sp} {S T : Nat} (h : Inv P σ sp S T) (hT : T ≤ 1000000) (ho : σ.ops ≤ 1000000) (hn : P.next ≤ 4096) : Num P σ sp := by
  refine ⟨⟨h.n1, hn⟩, fun k hk => ?_, ho, h.hasN, ?_, ?_⟩
  · have := h.rng k
    rw [spOf_in hk] at this
    omega
  · rw [h.gT]; omega
  · rw [h.gT]; omega
structure OkP (P : Par) (σ : Ar) (sp : List Sp) (n m : Nat) : Prop where
  inv : ∃ S T, Inv P σ sp S T ∧ T ≤ m
  ops : σ.ops ≤ m + 1
  nx : P.next ≤ 4096
  len : sp.length = n
section
variable {P : Par} {σ : Ar} {sp : List Sp} {n m : Nat} (h : OkP P σ sp n m)
include h
theorem OkP.act (kd i : Int) : OkP P (doP P σ sp kd i).2.1 (doP P σ sp kd i).2.2 n (m + 1) := by
  obtain ⟨S, T, hi, hT⟩ := h.inv
  obtain ⟨S', T', hT', hi'⟩ := do_inv hi kd i
  exact ⟨⟨S', T', hi', by omega⟩, by have := do_ops P σ sp kd i; have := h.ops; omega, h.nx, (do_len P σ sp kd i).trans h.len⟩
theorem OkP.num (hm : m ≤ 100000) : Num P σ sp := by
  obtain ⟨S, T, hi, hT⟩ := h.inv
  exact hi.num (by omega) (by have := h.ops; omega) h.nx
theorem OkP.one : cnt (fun s => s.pc == 10) sp n ≤ 1 := by
  obtain ⟨S, T, hi, hT⟩ := h.inv
  exact hi.one n
end
def first1 (n : Nat) : Ar × List Sp := ((⟨zerosW 100, 2, 0, 0, 0, false⟩ : Ar), Ta.zeroS n)
theorem OkP.first (n : Nat) : OkP ⟨1⟩ (first1 n).1 (first1 n).2 n 0 :=
  ⟨⟨0, 0, inv_start n, Nat.le_refl _⟩, by show 0 ≤ 0 + 1; omega, by show (1 : Int) ≤ 4096; decide, by simp [first1, Ta.zeroS]⟩
end Go.Proofs.YtfnmggmgdmokcaaGreatDoor.Tk

/- Package tas, as Lean has it: no two slots hold at once. -/
namespace Go.Proofs.YtfnmggmgdmokcaaGreatDoor.Ta
open Go.RowKit Go.Proofs.YtfnmggmgdmokcaaGreatDoor.Ara Go.Proofs.YtfnmggmgdmokcaaGreatDoor.Lok

def tryB (P : Par) (σ : Ar) : Bool := σ.has P.word && (σ.get P.word == 0)
def stepP (P : Par) (σ : Ar) (sp : List Sp) (i : Int) : Bool × Ar × List Sp :=
  if (spOf sp i).pc = 1 then (tryB P σ, σ.op 4 P.word (tryB P σ) (i + 1), sp.set i.toNat (if tryB P σ = true then { spOf sp i with pc := 10 } else ⟨2, min (2 * (spOf sp i).a) P.most, (spOf sp i).a, (spOf sp i).c⟩))
  else if (spOf sp i).pc = 2 then (false, σ, sp.set i.toNat ⟨if (spOf sp i).b - 1 = 0 then 1 else 2, (spOf sp i).a, (spOf sp i).b - 1, (spOf sp i).c⟩)
  else if (spOf sp i).pc = 11 then (true, σ.op 2 P.word true 0, sp.set i.toNat { spOf sp i with pc := 0 })
  else (false, σ, sp)
def askS (sp : List Sp) (i : Int) : List Sp := if turnB sp i 0 then sp.set i.toNat { spOf sp i with pc := 1, a := 1 } else sp
def doP (P : Par) (σ : Ar) (sp : List Sp) (kd i : Int) : Bool × Ar × List Sp :=
  if kd = 0 then stepP P σ sp i else if kd = 1 then (turnB sp i 0, σ, askS sp i) else if kd = 2 then (turnB sp i 10, σ, turnS sp i 10 11)
  else if kd = 3 then ((spOf sp i).pc == 10, σ, sp) else (false, σ, sp)
def holds (s : Sp) : Prop := s.pc = 10 ∨ s.pc = 11
structure Inv (P : Par) (σ : Ar) (sp : List Sp) : Prop where
  hl : σ.t ≤ σ.ws.length
  hw : σ.has P.word = true
  m1 : 1 ≤ P.most
  m2 : P.most ≤ 1024
  pcs : ∀ i, (spOf sp i).pc = 0 ∨ (spOf sp i).pc = 1 ∨ (spOf sp i).pc = 2 ∨ holds (spOf sp i)
  ar : ∀ i, 0 ≤ (spOf sp i).a ∧ (spOf sp i).a ≤ 1024
  br : ∀ i, 0 ≤ (spOf sp i).b ∧ (spOf sp i).b ≤ 1024
  w1 : ∀ i, (spOf sp i).pc = 1 ∨ (spOf sp i).pc = 2 → 1 ≤ (spOf sp i).a
  w2 : ∀ i, (spOf sp i).pc = 2 → 1 ≤ (spOf sp i).b
  hold : ∀ i, holds (spOf sp i) → σ.get P.word = i + 1
  free : (∀ i, ¬ holds (spOf sp i)) → σ.get P.word = 0
theorem Inv.one {P : Par} {σ : Ar} {sp : List Sp} (h : Inv P σ sp) (n : Nat) : cnt (fun s => s.pc == 10) sp n ≤ 1 := by
  refine cnt_one _ _ (fun i j hi hj => ?_) n
  simp only [beq_iff_eq] at hi hj
  have h1 := h.hold i (.inl hi)
  have h2 := h.hold j (.inl hj)
  omega
theorem Inv.turns {P : Par} {σ σ' : Ar} {sp sp' : List Sp} (h : Inv P σ sp) (i : Int) (s' : Sp) (hs : ∀ j, spOf sp' j = if j = i then s' else spOf sp j) (hl' : σ'.ws.length = σ.ws.length) (ht' : σ'.t = σ.t)
    (hp : s'.pc = 0 ∨ s'.pc = 1 ∨ s'.pc = 2 ∨ holds s') (ha : 0 ≤ s'.a ∧ s'.a ≤ 1024) (hb : 0 ≤ s'.b ∧ s'.b ≤ 1024) (h1 : s'.pc = 1 ∨ s'.pc = 2 → 1 ≤ s'.a) (h2 : s'.pc = 2 → 1 ≤ s'.b)
    (hh : ∀ j, holds (spOf sp' j) → σ'.get P.word = j + 1) (hf : (∀ j, ¬ holds (spOf sp' j)) → σ'.get P.word = 0) : Inv P σ' sp' := by
  have all : ∀ (Q : Sp → Prop), Q s' → (∀ j, Q (spOf sp j)) → ∀ j, Q (spOf sp' j) := by
    intro Q q0 q1 j
    rw [hs]
    split
    · exact q0
    · exact q1 j
  refine { hl := by rw [ht', hl']; exact h.hl, hw := ?_, m1 := h.m1, m2 := h.m2, pcs := all (fun s => s.pc = 0 ∨ s.pc = 1 ∨ s.pc = 2 ∨ holds s) hp h.pcs, ar := all (fun s => 0 ≤ s.a ∧ s.a ≤ 1024) ha h.ar, br := all (fun s => 0 ≤ s.b ∧ s.b ≤ 1024) hb h.br, w1 := all (fun s => s.pc = 1 ∨ s.pc = 2 → 1 ≤ s.a) h1 h.w1, w2 := all (fun s => s.pc = 2 → 1 ≤ s.b) h2 h.w2, hold := hh, free := hf }
  have := h.hw
  unfold Ar.has at this ⊢
  rw [ht']
  exact this
theorem Inv.idle {P : Par} {σ σ' : Ar} {sp sp' : List Sp} (h : Inv P σ sp) (i : Int) (s' : Sp) (hs : ∀ j, spOf sp' j = if j = i then s' else spOf sp j) (hl' : σ'.ws.length = σ.ws.length) (ht' : σ'.t = σ.t) (hg : σ'.get P.word = σ.get P.word)
    (hp : s'.pc = 0 ∨ s'.pc = 1 ∨ s'.pc = 2 ∨ holds s') (ha : 0 ≤ s'.a ∧ s'.a ≤ 1024) (hb : 0 ≤ s'.b ∧ s'.b ≤ 1024) (h1 : s'.pc = 1 ∨ s'.pc = 2 → 1 ≤ s'.a) (h2 : s'.pc = 2 → 1 ≤ s'.b) (hh : holds s' ↔ holds (spOf sp i)) : Inv P σ' sp' := by
  have hq : ∀ j, holds (spOf sp' j) ↔ holds (spOf sp j) := by
    intro j
    rw [hs]
    split
    · rename_i e; rw [e]; exact hh
    · exact Iff.rfl
  exact h.turns i s' hs hl' ht' hp ha hb h1 h2 (fun j hj => by rw [hg]; exact h.hold j ((hq j).1 hj)) (fun hf => by rw [hg]; exact h.free (fun j hj => hf j ((hq j).2 hj)))
theorem holds_range {sp : List Sp} {i : Int} (h : holds (spOf sp i)) : 0 ≤ i ∧ i < sp.length := spOf_range (by unfold holds at h; omega)
theorem do_inv {P : Par} {σ : Ar} {sp : List Sp} (h : Inv P σ sp) (kd i : Int) : Inv P (doP P σ sp kd i).2.1 (doP P σ sp kd i).2.2 := by
  unfold doP
  have har := h.ar i
  have hbr := h.br i
  split
  · unfold stepP
    split
    · rename_i p
      obtain ⟨i0, i1⟩ := spOf_range (sp := sp) (i := i) (by omega)
      have hw1 := h.w1 i (.inl p)
      cases ht : tryB P σ
      · simp only [Bool.false_eq_true, if_false]
        have hm1 := h.m1
        have hm2 := h.m2
        refine h.idle i _ (spOf_set i0 i1 _) (op_len _ _ _ _ _) (op_t _ _ _ _ _) (get_read σ h.hl 4 _ _ _) (.inr (.inr (.inl rfl))) ⟨?_, ?_⟩ har (fun _ => ?_) (fun _ => hw1) ?_
        · show 0 ≤ min (2 * (spOf sp i).a) P.most; omega
        · show min (2 * (spOf sp i).a) P.most ≤ 1024; omega
        · show 1 ≤ min (2 * (spOf sp i).a) P.most; omega
        · unfold holds; simp only; omega
      · simp only [if_true]
        have hz : σ.get P.word = 0 := by
          unfold tryB at ht
          simp at ht
          exact ht.2
        have hno : ∀ j, ¬ holds (spOf sp j) := by
          intro j hj
          have := h.hold j hj
          have := holds_range hj
          omega
        have hg := get_op σ h.hl 4 P.word (i + 1) true P.word
        simp only [h.hw, true_and, and_self, if_true] at hg
        have hs := spOf_set i0 i1 { spOf sp i with pc := 10 }
        refine h.turns i _ hs (op_len _ _ _ _ _) (op_t _ _ _ _ _) (.inr (.inr (.inr (.inl rfl)))) har hbr (fun e => by simp at e) (fun e => by simp at e) (fun j hj => ?_) (fun hf => ?_)
        · rw [hs] at hj
          split at hj
          · rename_i e; rw [e]; exact hg
          · exact absurd hj (hno j)
        · exact absurd (show holds (spOf _ i) by rw [hs, if_pos rfl]; exact .inl rfl) (hf i)
    split
    · rename_i _ p
      obtain ⟨i0, i1⟩ := spOf_range (sp := sp) (i := i) (by omega)
      have hw1 := h.w1 i (.inr p)
      have hw2 := h.w2 i p
      refine h.idle i _ (spOf_set i0 i1 _) rfl rfl rfl ?_ har (by simp only; omega) (fun _ => hw1) (fun e => ?_) ?_
      · simp only
        split
        · exact .inr (.inl rfl)
        · exact .inr (.inr (.inl rfl))
      · simp only at e ⊢
        split at e
        · omega
        · omega
      · unfold holds
        simp only
        split <;> omega
    split
    · rename_i _ _ p
      obtain ⟨i0, i1⟩ := spOf_range (sp := sp) (i := i) (by omega)
      have hi := h.hold i (.inr p)
      have hg := get_op σ h.hl 2 P.word 0 true P.word
      simp only [h.hw, true_and, and_self, if_true] at hg
      have hs := spOf_set i0 i1 { spOf sp i with pc := 0 }
      have hno : ∀ j, ¬ holds (spOf (sp.set i.toNat { spOf sp i with pc := 0 }) j) := by
        intro j hj
        rw [hs] at hj
        split at hj
        · unfold holds at hj; simp at hj
        · rename_i e
          have := h.hold j hj
          exact e (by omega)
      exact h.turns i _ hs (op_len _ _ _ _ _) (op_t _ _ _ _ _) (.inl rfl) har hbr (fun e => by simp at e) (fun e => by simp at e) (fun j hj => absurd hj (hno j)) (fun _ => hg)
    · exact h
  split
  · unfold askS
    split
    · rename_i ht
      obtain ⟨⟨i0, i1⟩, hp⟩ := turn_true ht
      exact h.idle i _ (spOf_set i0 i1 { spOf sp i with pc := 1, a := 1 }) rfl rfl rfl (.inr (.inl rfl)) (by simp only; omega) hbr (fun _ => by simp only; omega) (fun e => by simp at e) (by unfold holds; simp only; omega)
    · exact h
  split
  · cases ht : turnB sp i 10
    · simp only [turn_no 11 ht]; exact h
    · have hp := (turn_true ht).2
      exact h.idle i _ (spOf_turn 11 ht) rfl rfl rfl (.inr (.inr (.inr (.inr rfl)))) har hbr (fun e => by simp at e) (fun e => by simp at e) ⟨fun _ => .inl hp, fun _ => .inr rfl⟩
  split <;> exact h
end Go.Proofs.YtfnmggmgdmokcaaGreatDoor.Ta

/- Package tas: all steps. -/
namespace Go.Proofs.YtfnmggmgdmokcaaGreatDoor.Ta
open Go.RowKit Go.Proofs.YtfnmggmgdmokcaaGreatDoor.Ara Go.Proofs.YtfnmggmgdmokcaaGreatDoor.Lok

section
variable (gl ga ha hs : Nat) (P : Par) (σ : Ar) (sp : List Sp) (w : World) (H : LkAt w gl ga ha hs P σ sp)
include H
section
variable (k : Nat) (hk : k < sp.length)
include hk
end
end
end Go.Proofs.YtfnmggmgdmokcaaGreatDoor.Ta

