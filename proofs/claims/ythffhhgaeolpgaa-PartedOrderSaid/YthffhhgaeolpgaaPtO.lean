/- Package parted, as Lean has it: slots hold in the order of their doorways. -/
import Derived.Test.YthffhhgaeolpgaaPtP
import Derived.Test.YthffhhgaeolpgaaLokR
namespace Go.Proofs.Ythffhhgaeolpgaa.Pt
open Go.RowKit Go.Proofs.Ythffhhgaeolpgaa.Ara Go.Proofs.Ythffhhgaeolpgaa.Lok

structure St where
  σ : Ar
  sp : List Sp
  doors : List Int
  held : List Int
/-- An act, and what is noted of it. -/
def ordS (P : Par) (x : St) (c : Ac) : St :=
  { σ := (doP P x.σ x.sp c.kind c.i).2.1, sp := (doP P x.σ x.sp c.kind c.i).2.2,
    doors := if c.kind = 0 ∧ 0 < (spOf x.sp c.i).pc ∧ (spOf x.sp c.i).pc < 10 ∧ x.σ.ops < (doP P x.σ x.sp c.kind c.i).2.1.ops ∧ (doP P x.σ x.sp c.kind c.i).2.1.kind = 5 then x.doors ++ [c.i] else x.doors,
    held := if (spOf x.sp c.i).pc < 10 ∧ (spOf (doP P x.σ x.sp c.kind c.i).2.2 c.i).pc = 10 then x.held ++ [c.i] else x.held }
def inn (s : Sp) : Prop := s.pc = 10 ∨ s.pc = 11
structure OrdI (P : Par) (x : St) (S T : Nat) : Prop where
  inv : Inv P x.σ x.sp S T
  dl : x.doors.length = T
  dat : ∀ i, inq (spOf x.sp i) → x.doors[(spOf x.sp i).a.toNat]? = some i
  take : x.held = x.doors.take x.held.length
  cnt : ((∃ i, inn (spOf x.sp i)) ∧ x.held.length = S + 1) ∨ ((∀ i, ¬ inn (spOf x.sp i)) ∧ x.held.length = S)
def OrdP (P : Par) (x : St) : Prop := ∃ S T, OrdI P x S T
theorem OrdI.held_le {P : Par} {x : St} {S T : Nat} (h : OrdI P x S T) : x.held.length ≤ T := by
  have hle := h.inv.le
  rcases h.cnt with ⟨⟨i, hi⟩, e⟩ | ⟨_, e⟩
  · have h1 := h.inv.tick i (.inr hi)
    have h2 := h.inv.hold i hi
    omega
  · omega
/-- Neither the doors nor the held turn; who is in the row is as before, or not. -/
theorem OrdI.keep {P : Par} {x : St} {S T : Nat} (h : OrdI P x S T) {σ' : Ar} {sp' : List Sp} (hi : Inv P σ' sp' S T) (hq : ∀ i, inq (spOf sp' i) → inq (spOf x.sp i) ∧ (spOf sp' i).a = (spOf x.sp i).a) (hn : ∀ i, inn (spOf sp' i) ↔ inn (spOf x.sp i)) :
    OrdI P { σ := σ', sp := sp', doors := x.doors, held := x.held } S T := by
  refine ⟨hi, h.dl, fun i h1 => ?_, h.take, ?_⟩
  · obtain ⟨h2, e⟩ := hq i h1
    show x.doors[_]? = _
    rw [e]
    exact h.dat i h2
  · rcases h.cnt with ⟨⟨i, h1⟩, e⟩ | ⟨h1, e⟩
    · exact .inl ⟨⟨i, (hn i).2 h1⟩, e⟩
    · exact .inr ⟨fun i h2 => h1 i ((hn i).1 h2), e⟩
theorem OrdI.doors {P : Par} {x : St} {S T : Nat} (h : OrdI P x S T) {c : Ac} (hd : ¬ (c.kind = 0 ∧ 0 < (spOf x.sp c.i).pc ∧ (spOf x.sp c.i).pc < 10 ∧ x.σ.ops < (doP P x.σ x.sp c.kind c.i).2.1.ops ∧ (doP P x.σ x.sp c.kind c.i).2.1.kind = 5)) (hh : ¬ ((spOf x.sp c.i).pc < 10 ∧ (spOf (doP P x.σ x.sp c.kind c.i).2.2 c.i).pc = 10)) :
    ordS P x c = { σ := (doP P x.σ x.sp c.kind c.i).2.1, sp := (doP P x.σ x.sp c.kind c.i).2.2, doors := x.doors, held := x.held } := by
  unfold ordS
  rw [if_neg hd, if_neg hh]
theorem do_0 (P : Par) (σ : Ar) (sp : List Sp) (i : Int) : doP P σ sp 0 i = stepP P σ sp i := rfl
theorem do_1 (P : Par) (σ : Ar) (sp : List Sp) (i : Int) : doP P σ sp 1 i = (turnB sp i 0, σ, turnS sp i 0 1) := rfl
theorem do_2 (P : Par) (σ : Ar) (sp : List Sp) (i : Int) : doP P σ sp 2 i = (turnB sp i 10, σ, turnS sp i 10 11) := rfl
theorem step_1 {P : Par} {σ : Ar} {sp : List Sp} {i : Int} (h : (spOf sp i).pc = 1) : stepP P σ sp i = (false, σ.op 5 P.next true (σ.get P.next + 1), sp.set i.toNat { spOf sp i with pc := 2, a := σ.get P.next }) := by
  unfold stepP; rw [if_pos h]
theorem step_2 {P : Par} {σ : Ar} {sp : List Sp} {i : Int} (h : (spOf sp i).pc = 2) : stepP P σ sp i = (σ.get (place P (spOf sp i).a) == (spOf sp i).a + 1, σ.op 1 (place P (spOf sp i).a) false 0, if σ.get (place P (spOf sp i).a) = (spOf sp i).a + 1 then sp.set i.toNat { spOf sp i with pc := 10 } else sp) := by
  unfold stepP; rw [if_neg (by omega), if_pos h]
theorem step_11 {P : Par} {σ : Ar} {sp : List Sp} {i : Int} (h : (spOf sp i).pc = 11) : stepP P σ sp i = (true, σ.op 2 (place P ((spOf sp i).a + 1)) true ((spOf sp i).a + 2), sp.set i.toNat { spOf sp i with pc := 0 }) := by
  unfold stepP; rw [if_neg (by omega), if_neg (by omega), if_pos h]
theorem step_no {P : Par} {σ : Ar} {sp : List Sp} {i : Int} (h1 : (spOf sp i).pc ≠ 1) (h2 : (spOf sp i).pc ≠ 2) (h3 : (spOf sp i).pc ≠ 11) : stepP P σ sp i = (false, σ, sp) := by
  unfold stepP; rw [if_neg h1, if_neg h2, if_neg h3]
theorem ord_step {P : Par} {x : St} (h : OrdP P x) (i : Int) : OrdP P (ordS P x ⟨0, i⟩) := by
  obtain ⟨S, T, h⟩ := h
  have hi := h.inv
  rcases hi.pcs i with p | p | p
  · have e := step_no (P := P) (σ := x.σ) (sp := x.sp) (i := i) (by omega) (by omega) (by omega)
    rw [h.doors (c := ⟨0, i⟩) (by simp only; omega) (by simp only [do_0, e]; omega)]
    simp only [do_0, e]
    exact ⟨S, T, h.keep hi (fun i h => ⟨h, rfl⟩) (fun _ => Iff.rfl)⟩
  · have e := step_1 (P := P) (σ := x.σ) p
    obtain ⟨i0, i1⟩ := spOf_range (sp := x.sp) (i := i) (by omega)
    have hs := spOf_set i0 i1 { spOf x.sp i with pc := 2, a := x.σ.get P.next }
    have hI := hi.takes i _ hs (by unfold inq; omega) rfl hi.gT
    rw [← hi.gT] at hI
    refine ⟨S, T + 1, ?_⟩
    unfold ordS
    simp only [do_0, e]
    rw [if_pos ⟨trivial, by omega, by omega, by rw [op_ops, if_pos hi.hasN]; omega, op_kind _ _ _ _ _ hi.hasN⟩, if_neg (by rw [hs, if_pos rfl]; simp)]
    have hlen := h.held_le
    refine ⟨hI, by simp [h.dl], fun j hj => ?_, ?_, ?_⟩
    · show (x.doors ++ [i])[(spOf (x.sp.set i.toNat _) j).a.toNat]? = some j
      rw [hs] at hj ⊢
      by_cases ej : j = i
      · rw [if_pos ej, ej]
        show (x.doors ++ [i])[(x.σ.get P.next).toNat]? = some i
        rw [hi.gT, Int.toNat_natCast, ← h.dl]
        simp
      · rw [if_neg ej] at hj ⊢
        have hd := h.dat j hj
        have ht := hi.tick j hj
        rw [List.getElem?_append_left (by rw [h.dl]; omega)]
        exact hd
    · show x.held = (x.doors ++ [i]).take x.held.length
      rw [List.take_append_of_le_length (by rw [h.dl]; exact hlen)]
      exact h.take
    · have hn : ∀ j, inn (spOf (x.sp.set i.toNat { spOf x.sp i with pc := 2, a := x.σ.get P.next }) j) ↔ inn (spOf x.sp j) := by
        intro j
        rw [hs]
        by_cases ej : j = i
        · rw [if_pos ej, ej]; unfold inn; simp only; omega
        · rw [if_neg ej]
      rcases h.cnt with ⟨⟨j, h1⟩, e⟩ | ⟨h1, e⟩
      · exact .inl ⟨⟨j, (hn j).2 h1⟩, e⟩
      · exact .inr ⟨fun j h2 => h1 j ((hn j).1 h2), e⟩
  · rcases p with p | p
    · have e := step_2 (P := P) (σ := x.σ) p
      obtain ⟨i0, i1⟩ := spOf_range (sp := x.sp) (i := i) (by omega)
      by_cases hg : x.σ.get (place P (spOf x.sp i).a) = (spOf x.sp i).a + 1
      · rw [if_pos hg] at e
        have hs := spOf_set i0 i1 { spOf x.sp i with pc := 10 }
        have hS := hi.served i (.inl p) hg
        have hI := (hi.keeps i _ hs (.inl p) (.inl rfl) rfl hS).read (place P (spOf x.sp i).a) 0
        have hd := h.dat i (.inl p)
        rw [hS, Int.toNat_natCast] at hd
        have hno : ∀ j, ¬ inn (spOf x.sp j) := by
          intro j hj
          have h1 := hi.hold j hj
          have h2 := hi.inj j i (.inr hj) (.inl p) (by omega)
          subst h2
          unfold inn at hj
          omega
        have hl : x.held.length = S := by
          rcases h.cnt with ⟨⟨j, h1⟩, _⟩ | ⟨_, e⟩
          · exact absurd h1 (hno j)
          · exact e
        refine ⟨S, T, ?_⟩
        unfold ordS
        simp only [do_0, e]
        rw [if_neg (by rw [op_kind _ _ _ _ _ (hi.has _)]; omega), if_pos ⟨by omega, by rw [hs, if_pos rfl]⟩]
        refine ⟨hI, h.dl, fun j hj => ?_, ?_, .inl ⟨⟨i, ?_⟩, by simp [hl]⟩⟩
        · show x.doors[(spOf (x.sp.set i.toNat _) j).a.toNat]? = some j
          rw [hs] at hj ⊢
          by_cases ej : j = i
          · rw [if_pos ej, ej]
            exact h.dat i (.inl p)
          · rw [if_neg ej] at hj ⊢
            exact h.dat j hj
        · show x.held ++ [i] = x.doors.take (x.held ++ [i]).length
          rw [List.length_append, List.length_singleton, hl, List.take_add_one, hd]
          have := h.take
          rw [hl] at this
          rw [← this]
          rfl
        · show inn (spOf (x.sp.set i.toNat _) i)
          rw [hs, if_pos rfl]
          exact .inl rfl
      · rw [if_neg hg] at e
        have hI := hi.read (place P (spOf x.sp i).a) 0
        rw [h.doors (c := ⟨0, i⟩) (by simp only [do_0, e]; rw [op_kind _ _ _ _ _ (hi.has _)]; omega) (by simp only [do_0, e]; omega)]
        simp only [do_0, e]
        exact ⟨S, T, h.keep hI (fun i h => ⟨h, rfl⟩) (fun _ => Iff.rfl)⟩
    · rcases p with p | p
      · have e := step_no (P := P) (σ := x.σ) (sp := x.sp) (i := i) (by omega) (by omega) (by omega)
        rw [h.doors (c := ⟨0, i⟩) (by simp only; omega) (by simp only [do_0, e]; omega)]
        simp only [do_0, e]
        exact ⟨S, T, h.keep hi (fun i h => ⟨h, rfl⟩) (fun _ => Iff.rfl)⟩
      · have e := step_11 (P := P) (σ := x.σ) p
        obtain ⟨i0, i1⟩ := spOf_range (sp := x.sp) (i := i) (by omega)
        have hs := spOf_set i0 i1 { spOf x.sp i with pc := 0 }
        have hI := hi.passes i _ hs (.inr p) rfl rfl
        have hS := hi.hold i (.inr p)
        rw [← hS] at hI
        have hno : ∀ j, ¬ inn (spOf (x.sp.set i.toNat { spOf x.sp i with pc := 0 }) j) := by
          intro j hj
          rw [hs] at hj
          by_cases ej : j = i
          · rw [if_pos ej] at hj
            unfold inn at hj
            simp at hj
          · rw [if_neg ej] at hj
            have h1 := hi.hold j hj
            exact ej (hi.inj j i (.inr hj) (.inr (.inr p)) (by omega))
        have hl : x.held.length = S + 1 := by
          rcases h.cnt with ⟨_, e⟩ | ⟨h1, _⟩
          · exact e
          · exact absurd (.inr p) (h1 i)
        rw [h.doors (c := ⟨0, i⟩) (by simp only; omega) (by simp only; omega)]
        simp only [do_0, e]
        refine ⟨S + 1, T, hI, h.dl, fun j hj => ?_, h.take, .inr ⟨hno, hl⟩⟩
        show x.doors[(spOf (x.sp.set i.toNat _) j).a.toNat]? = some j
        have hj' : inq (spOf (x.sp.set i.toNat { spOf x.sp i with pc := 0 }) j) := hj
        rw [hs] at hj' ⊢
        by_cases ej : j = i
        · rw [if_pos ej] at hj'
          unfold inq at hj'
          simp at hj'
        · rw [if_neg ej] at hj' ⊢
          exact h.dat j hj'
theorem ord_turn {P : Par} {x : St} {S T : Nat} (h : OrdI P x S T) {kd i fr to : Int} (hk : kd ≠ 0) (e : doP P x.σ x.sp kd i = (turnB x.sp i fr, x.σ, turnS x.sp i fr to)) (hto : to ≠ 10)
    (hI : Inv P x.σ (turnS x.sp i fr to) S T) (hq : ∀ j, inq (spOf (turnS x.sp i fr to) j) → inq (spOf x.sp j) ∧ (spOf (turnS x.sp i fr to) j).a = (spOf x.sp j).a) (hn : ∀ j, inn (spOf (turnS x.sp i fr to) j) ↔ inn (spOf x.sp j)) : OrdP P (ordS P x ⟨kd, i⟩) := by
  rw [h.doors (c := ⟨kd, i⟩) (by simp only; omega) (by
    simp only [e]
    cases ht : turnB x.sp i fr
    · rw [turn_no to ht]; omega
    · rw [spOf_turn to ht, if_pos rfl]; simp only; omega)]
  simp only [e]
  exact ⟨S, T, h.keep hI hq hn⟩
theorem ord_do {P : Par} {x : St} (h : OrdP P x) (c : Ac) : OrdP P (ordS P x c) := by
  obtain ⟨kd, i⟩ := c
  by_cases k0 : kd = 0
  · subst k0; exact ord_step h i
  obtain ⟨S, T, h⟩ := h
  have hi := h.inv
  by_cases k1 : kd = 1
  · subst k1
    cases ht : turnB x.sp i 0
    · have e := turn_no 1 ht
      refine ord_turn h (kd := 1) (fr := 0) (to := 1) (by omega) (do_1 _ _ _ _) (by omega) ?_ ?_ ?_
      · rw [e]; exact hi
      · rw [e]; exact fun _ h => ⟨h, rfl⟩
      · rw [e]; exact fun _ => Iff.rfl
    · have hp := (turn_true ht).2
      have hs := spOf_turn 1 ht
      refine ord_turn h (kd := 1) (fr := 0) (to := 1) (by omega) (do_1 _ _ _ _) (by omega) (hi.idle i _ hs (by unfold inq; omega) (.inr rfl) rfl) (fun j hj => ?_) (fun j => ?_)
      · rw [hs] at hj ⊢
        by_cases ej : j = i
        · rw [if_pos ej] at hj; unfold inq at hj; simp at hj
        · rw [if_neg ej] at hj ⊢; exact ⟨hj, rfl⟩
      · rw [hs]
        by_cases ej : j = i
        · rw [if_pos ej, ej]; unfold inn; simp only; omega
        · rw [if_neg ej]
  by_cases k2 : kd = 2
  · subst k2
    cases ht : turnB x.sp i 10
    · have e := turn_no 11 ht
      refine ord_turn h (kd := 2) (fr := 10) (to := 11) (by omega) (do_2 _ _ _ _) (by omega) ?_ ?_ ?_
      · rw [e]; exact hi
      · rw [e]; exact fun _ h => ⟨h, rfl⟩
      · rw [e]; exact fun _ => Iff.rfl
    · have hp := (turn_true ht).2
      have hs := spOf_turn 11 ht
      refine ord_turn h (kd := 2) (fr := 10) (to := 11) (by omega) (do_2 _ _ _ _) (by omega) (hi.keeps i _ hs (.inr (.inl hp)) (.inr rfl) rfl (hi.hold i (.inl hp))) (fun j hj => ?_) (fun j => ?_)
      · rw [hs] at hj ⊢
        by_cases ej : j = i
        · rw [if_pos ej, ej]; exact ⟨.inr (.inl hp), rfl⟩
        · rw [if_neg ej] at hj ⊢; exact ⟨hj, rfl⟩
      · rw [hs]
        by_cases ej : j = i
        · rw [if_pos ej, ej]; exact ⟨fun _ => .inl hp, fun _ => .inr rfl⟩
        · rw [if_neg ej]
  by_cases k3 : kd = 3
  · subst k3
    have e : doP P x.σ x.sp 3 i = ((aloneP P x.σ x.sp i).1, (aloneP P x.σ x.sp i).2, x.sp) := rfl
    rw [h.doors (c := ⟨3, i⟩) (by simp only; omega) (by simp only [e]; omega)]
    simp only [e]
    refine ⟨S, T, h.keep ?_ (fun i h => ⟨h, rfl⟩) (fun _ => Iff.rfl)⟩
    unfold aloneP
    split
    · exact hi.read _ _
    · exact hi
  · have e : doP P x.σ x.sp kd i = (false, x.σ, x.sp) := by unfold doP; rw [if_neg k0, if_neg k1, if_neg k2, if_neg k3]
    rw [h.doors (c := ⟨kd, i⟩) (by simp only; omega) (by simp only [e]; omega)]
    simp only [e]
    exact ⟨S, T, h.keep hi (fun i h => ⟨h, rfl⟩) (fun _ => Iff.rfl)⟩
theorem do_len (P : Par) (σ : Ar) (sp : List Sp) (kd i : Int) : (doP P σ sp kd i).2.2.length = sp.length := by
  unfold doP
  split
  · unfold stepP
    split
    · simp
    split
    · simp only; split <;> simp
    split
    · simp
    · rfl
  split
  · exact turnS_len _ _ _ _
  split
  · exact turnS_len _ _ _ _
  split <;> rfl
theorem do_ops (P : Par) (σ : Ar) (sp : List Sp) (kd i : Int) : (doP P σ sp kd i).2.1.ops ≤ σ.ops + 1 ∧ σ.ops ≤ (doP P σ sp kd i).2.1.ops := by
  have h : ∀ (kd p v : Int) (wr : Bool), (σ.op kd p wr v).ops ≤ σ.ops + 1 ∧ σ.ops ≤ (σ.op kd p wr v).ops := by
    intro kd p v wr
    rw [op_ops]
    split <;> omega
  unfold doP
  split
  · unfold stepP
    split
    · exact h _ _ _ _
    split
    · exact h _ _ _ _
    split
    · exact h _ _ _ _
    · exact ⟨Nat.le_succ _, Nat.le_refl _⟩
  split
  · exact ⟨Nat.le_succ _, Nat.le_refl _⟩
  split
  · exact ⟨Nat.le_succ _, Nat.le_refl _⟩
  split
  · unfold aloneP
    split
    · exact h _ _ _ _
    · exact ⟨Nat.le_succ _, Nat.le_refl _⟩
  · exact ⟨Nat.le_succ _, Nat.le_refl _⟩
/-- What a spot has ahead of it. -/
def wP (p : Int) : Nat := if p = 1 then 4 else if p = 2 then 3 else if p = 10 then 2 else if p = 11 then 1 else 0
theorem wP_le (p : Int) : wP p ≤ 4 := by unfold wP; repeat (first | split | omega)
def RdyP (sp : List Sp) (i : Nat) : Prop := (spOf sp i).pc = 1 ∨ inn (spOf sp i) ∨ ((spOf sp i).pc = 2 ∧ ∀ j, inq (spOf sp j) → (spOf sp i).a ≤ (spOf sp j).a)
theorem set_wt {sp : List Sp} {i : Int} {s' : Sp} (h : wP s'.pc < wP (spOf sp i).pc) (hp : (spOf sp i).pc ≠ 0) : wts wP (sp.set i.toNat s') < wts wP sp := by
  obtain ⟨i0, i1⟩ := spOf_range hp
  have := wts_spOf wP sp i i0 i1 s'
  omega
theorem rndP (P : Par) (n : Nat) : Rnd (ordS P) (fun x => x.sp) (wts wP) (fun x => OrdP P x ∧ x.sp.length = n) RdyP n := by
  have dn : ∀ (x : St) (i : Int), OrdP P x → wts wP (ordS P x ⟨0, i⟩).sp < wts wP x.sp ∨ (ordS P x ⟨0, i⟩).sp = x.sp := by
    intro x i ⟨S, T, h⟩
    show wts wP (stepP P x.σ x.sp i).2.2 < _ ∨ (stepP P x.σ x.sp i).2.2 = _
    by_cases p1 : (spOf x.sp i).pc = 1
    · rw [step_1 p1]
      obtain ⟨i0, i1⟩ := spOf_range (sp := x.sp) (i := i) (by omega)
      have := wts_spOf wP x.sp i i0 i1 { spOf x.sp i with pc := 2, a := x.σ.get P.next }
      rw [p1] at this
      have e1 : wP 1 = 4 := rfl
      have e2 : wP 2 = 3 := rfl
      left
      simp only at this ⊢
      omega
    by_cases p2 : (spOf x.sp i).pc = 2
    · rw [step_2 p2]
      obtain ⟨i0, i1⟩ := spOf_range (sp := x.sp) (i := i) (by omega)
      simp only
      split
      · have := wts_spOf wP x.sp i i0 i1 { spOf x.sp i with pc := 10 }
        rw [p2] at this
        have e1 : wP 2 = 3 := rfl
        have e2 : wP 10 = 2 := rfl
        left
        simp only at this ⊢
        omega
      · exact .inr rfl
    by_cases p3 : (spOf x.sp i).pc = 11
    · rw [step_11 p3]
      obtain ⟨i0, i1⟩ := spOf_range (sp := x.sp) (i := i) (by omega)
      have := wts_spOf wP x.sp i i0 i1 { spOf x.sp i with pc := 0 }
      rw [p3] at this
      have e1 : wP 11 = 1 := rfl
      have e2 : wP 0 = 0 := rfl
      left
      simp only at this ⊢
      omega
    · rw [step_no p1 p2 p3]
      exact .inr rfl
  have dl : ∀ (x : St) (i : Int), OrdP P x → ((spOf x.sp i).pc = 10 → wts wP (ordS P x ⟨2, i⟩).sp < wts wP x.sp) ∧ (wts wP (ordS P x ⟨2, i⟩).sp < wts wP x.sp ∨ (ordS P x ⟨2, i⟩).sp = x.sp) := by
    intro x i _
    have hb : turnB x.sp i 10 = true → wts wP (turnS x.sp i 10 11) < wts wP x.sp := by
      intro ht
      obtain ⟨⟨i0, i1⟩, hp⟩ := turn_true ht
      unfold turnS
      rw [if_pos ht]
      exact set_wt (s' := { spOf x.sp i with pc := 11 }) (by rw [hp]; show wP 11 < wP 10; decide) (by omega)
    refine ⟨fun hp => ?_, ?_⟩
    · obtain ⟨i0, i1⟩ := spOf_range (sp := x.sp) (i := i) (by omega)
      exact hb (by simp [turnB]; omega)
    · show wts wP (turnS x.sp i 10 11) < _ ∨ turnS x.sp i 10 11 = _
      cases ht : turnB x.sp i 10
      · exact .inr (turn_no 11 ht)
      · exact .inl (hb ht)
  refine ⟨fun x c hx => ⟨ord_do hx.1 c, (do_len P x.σ x.sp c.kind c.i).trans hx.2⟩, fun x i k hk hx => ?_, fun x hx hp => ?_, fun x i hx hr => ?_⟩
  · rcases hk with rfl | rfl
    · exact dn x i hx.1
    · exact (dl x i hx.1).2
  · obtain ⟨⟨S, T, h⟩, hl⟩ := hx
    obtain ⟨k, k1, k2⟩ := wts_pos wP x.sp hp
    rcases h.inv.pcs (k : Int) with p | p | p
    · rw [p] at k2; exact absurd k2 (by decide)
    · exact ⟨k, by omega, .inl p⟩
    · have ht := h.inv.tick k p
      obtain ⟨j, j1, j2⟩ := h.inv.all S (Int.le_refl _) (by omega)
      obtain ⟨j0, jl⟩ := spOf_range (sp := x.sp) (i := j) (by unfold inq at j1; omega)
      obtain ⟨m, rfl⟩ := Int.eq_ofNat_of_zero_le j0
      refine ⟨m, by omega, ?_⟩
      rcases j1 with j1 | j1
      · refine .inr (.inr ⟨j1, fun i hi => ?_⟩)
        have := h.inv.tick i hi
        omega
      · exact .inr (.inl j1)
  · obtain ⟨hx, _⟩ := hx
    have h1 := dn x i hx
    have h2 := dl _ i (ord_do hx ⟨0, i⟩)
    have g : wts wP (ordS P x ⟨0, i⟩).sp < wts wP x.sp → wts wP (ordS P (ordS P x ⟨0, i⟩) ⟨2, i⟩).sp < wts wP x.sp := by
      intro h3
      rcases h2.2 with h4 | h4
      · omega
      · rw [h4]; exact h3
    obtain ⟨S, T, h⟩ := hx
    rcases hr with hr | hr | ⟨hr, hm⟩
    · refine g ?_
      rcases h1 with h1 | h1
      · exact h1
      · exfalso
        have e : (ordS P x ⟨0, i⟩).sp = (stepP P x.σ x.sp i).2.2 := rfl
        rw [e, step_1 hr] at h1
        obtain ⟨i0, i1⟩ := spOf_range (sp := x.sp) (i := (i : Int)) (by omega)
        have hs := spOf_set i0 i1 { spOf x.sp i with pc := 2, a := x.σ.get P.next } i
        simp only at h1
        rw [h1, if_pos rfl] at hs
        rw [hs] at hr
        simp at hr
    · rcases hr with hr | hr
      · have e : (ordS P x ⟨0, i⟩).sp = x.sp := by
          show (stepP P x.σ x.sp i).2.2 = _
          rw [step_no (by omega) (by omega) (by omega)]
        have h3 := h2.1 (by rw [e]; exact hr)
        rw [e] at h3
        exact h3
      · refine g ?_
        rcases h1 with h1 | h1
        · exact h1
        · exfalso
          have e : (ordS P x ⟨0, i⟩).sp = (stepP P x.σ x.sp i).2.2 := rfl
          rw [e, step_11 hr] at h1
          obtain ⟨i0, i1⟩ := spOf_range (sp := x.sp) (i := (i : Int)) (by omega)
          have hs := spOf_set i0 i1 { spOf x.sp i with pc := 0 } i
          simp only at h1
          rw [h1, if_pos rfl] at hs
          rw [hs] at hr
          simp at hr
    · refine g ?_
      have hS : (spOf x.sp i).a = S := by
        have ht := h.inv.tick i (.inl hr)
        obtain ⟨j, j1, j2⟩ := h.inv.all S (Int.le_refl _) (by omega)
        have := hm j j1
        omega
      have hg : x.σ.get (place P (spOf x.sp i).a) = (spOf x.sp i).a + 1 := by rw [hS]; exact h.inv.srv
      rcases h1 with h1 | h1
      · exact h1
      · exfalso
        have e : (ordS P x ⟨0, i⟩).sp = (stepP P x.σ x.sp i).2.2 := rfl
        rw [e, step_2 hr] at h1
        simp only [if_pos hg] at h1
        obtain ⟨i0, i1⟩ := spOf_range (sp := x.sp) (i := (i : Int)) (by omega)
        have hs := spOf_set i0 i1 { spOf x.sp i with pc := 10 } i
        rw [h1, if_pos rfl] at hs
        rw [hs] at hr
        simp at hr
/-- Behind the rounds all rest, and have held in the order of their doorways. -/
theorem ord_end {P : Par} {n : Nat} {x : St} (h : OrdP P x) (hl : x.sp.length = n) (k : Nat) (hk : 4 * n < k) : ∃ y, (rActs n k).foldl (ordS P) x = y ∧ (∀ i, (spOf y.sp i).pc = 0) ∧ y.doors = y.held := by
  refine ⟨_, rfl, ?_⟩
  rw [fold_rounds]
  have hz := rounds_rest (rndP P n) ⟨h, hl⟩ k (by have := wts_le wP 4 wP_le x.sp; rw [hl] at this; omega)
  obtain ⟨⟨S, T, hy⟩, hyl⟩ := rounds_good (rndP P n) ⟨h, hl⟩ k
  have hz : wts wP (rounds (ordS P) n x k).sp = 0 := hz
  generalize rounds (ordS P) n x k = y at *
  have h0 : ∀ i, (spOf y.sp i).pc = 0 := by
    intro i
    by_cases hi : 0 ≤ i ∧ i < y.sp.length
    · have h1 := wts_zero wP y.sp hz i hi
      rcases hy.inv.pcs i with p | p | p
      · exact p
      · rw [p] at h1; exact absurd h1 (by decide)
      · rcases p with p | p | p <;> (rw [p] at h1; exact absurd h1 (by decide))
    · rw [spOf_out (by omega)]; rfl
  refine ⟨h0, ?_⟩
  have hST : S = T := by
    have := hy.inv.le
    rcases Nat.lt_or_ge S T with h1 | h1
    · obtain ⟨i, i1, _⟩ := hy.inv.all S (Int.le_refl _) (by omega)
      have := h0 i
      unfold inq at i1
      omega
    · omega
  have hh : y.held.length = S := by
    rcases hy.cnt with ⟨⟨i, h1⟩, _⟩ | ⟨_, e⟩
    · have := h0 i
      unfold inn at h1
      omega
    · exact e
  have ht := hy.take
  rw [hh, hST, ← hy.dl, List.take_length] at ht
  exact ht.symm
theorem ord_fold {P : Par} (l : List Ac) : ∀ (x : St), OrdP P x → OrdP P (l.foldl (ordS P) x) := by
  induction l with
  | nil => exact fun _ h => h
  | cons c l ih => exact fun x h => ih _ (ord_do h c)
theorem ord_start (parts : Int) (p1 : 1 ≤ parts) (p2 : parts ≤ 32) (n : Nat) : OrdP ⟨1, parts⟩ ⟨(⟨zerosW 100, (1 + parts).toNat, 0, 0, 0, false⟩ : Ar).op 2 (place ⟨1, parts⟩ 0) true 1, List.replicate n sp0, [], []⟩ := by
  refine ⟨0, 0, inv_start parts p1 p2 n, rfl, fun i hi => ?_, rfl, .inr ⟨fun i hi => ?_, rfl⟩⟩
  · have hi : inq (spOf (List.replicate n sp0) i) := hi
    rw [zero_spot] at hi
    unfold inq sp0 at hi
    simp at hi
  · have hi : inn (spOf (List.replicate n sp0) i) := hi
    rw [zero_spot] at hi
    unfold inn sp0 at hi
    simp at hi
end Go.Proofs.Ythffhhgaeolpgaa.Pt
