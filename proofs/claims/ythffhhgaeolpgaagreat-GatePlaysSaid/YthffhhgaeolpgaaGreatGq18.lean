/- Merged texts: PtO, PtI, McI, ClI, FlS, Fl4. -/
import Derived.Test.YthffhhgaeolpgaaGreatGq17
set_option linter.unusedVariables false
/- Package parted, as Lean has it: slots hold in the order of their doorways. -/
namespace Go.Proofs.YthffhhgaeolpgaaGreat.Pt
open Go.RowKit Go.Proofs.YthffhhgaeolpgaaGreat.Ara Go.Proofs.YthffhhgaeolpgaaGreat.Lok

structure St where
  σ : Ar
  sp : List Sp
  doors : List Int
  held : List Int
def ordS (P : Par) (x : St) (c : Ac) : St :=
  { σ := (doP P x.σ x.sp c.kind c.i).2.1, sp := (doP P x.σ x.sp c.kind c.i).2.2,
    doors := if c.kind = 0 ∧ 0 < (spOf x.sp c.i).pc ∧ (spOf x.sp c.i).pc < 10 ∧ x.σ.ops < (doP P x.σ x.sp c.kind c.i).2.1.ops ∧ (doP P x.σ x.sp c.kind c.i).2.1.kind = 5 then x.doors ++ [c.i] else x.doors,
    held := if (spOf x.sp c.i).pc < 10 ∧ (spOf (doP P x.σ x.sp c.kind c.i).2.2 c.i).pc = 10 then x.held ++ [c.i] else x.held }
def inn (s : Sp) : Prop := s.pc = 10 ∨ s.pc = 11
structure OrdI (P : Par) (x : St) (S T : Nat) : Prop where
  inv : Inv P x.σ x.sp S T
  dl : x.doors.length = T
  dat : ∀ i, inq (spOf x.sp i) → x.doors[(spOf x.sp i).a.toNat]? = some i
  take : x.held = x.doors.take x.held.length
  cnt : ((∃ i, inn (spOf x.sp i)) ∧ x.held.length = S + 1) ∨ ((∀ i, ¬ inn (spOf x.sp i)) ∧ x.held.length = S)
def OrdP (P : Par) (x : St) : Prop := ∃ S T, OrdI P x S T
theorem OrdI.held_le {P : Par} {x : St} {S T : Nat} (h : OrdI P x S T) : x.held.length ≤ T := by
  have hle := h.inv.le
  rcases h.cnt with ⟨⟨i, hi⟩, e⟩ | ⟨_, e⟩
  · have h1 := h.inv.tick i (.inr hi)
    have h2 := h.inv.hold i hi
    omega
  · omega
theorem OrdI.keep {P : Par} {x : St} {S T : Nat} (h : OrdI P x S T) {σ' : Ar} {sp' : List Sp} (hi : Inv P σ' sp' S T) (hq : ∀ i, inq (spOf sp' i) → inq (spOf x.sp i) ∧ (spOf sp' i).a = (spOf x.sp i).a) (hn : ∀ i, inn (spOf sp' i) ↔ inn (spOf x.sp i)) :
    OrdI P { σ := σ', sp := sp', doors := x.doors, held := x.held } S T := by
  refine ⟨hi, h.dl, fun i h1 => ?_, h.take, ?_⟩
  · obtain ⟨h2, e⟩ := hq i h1
    show x.doors[_]? = _
    rw [e]
    exact h.dat i h2
  · rcases h.cnt with ⟨⟨i, h1⟩, e⟩ | ⟨h1, e⟩
    · exact .inl ⟨⟨i, (hn i).2 h1⟩, e⟩
    · exact .inr ⟨fun i h2 => h1 i ((hn i).1 h2), e⟩
theorem OrdI.doors {P : Par} {x : St} {S T : Nat} (h : OrdI P x S T) {c : Ac} (hd : ¬ (c.kind = 0 ∧ 0 < (spOf x.sp c.i).pc ∧ (spOf x.sp c.i).pc < 10 ∧ x.σ.ops < (doP P x.σ x.sp c.kind c.i).2.1.ops ∧ (doP P x.σ x.sp c.kind c.i).2.1.kind = 5)) (hh : ¬ ((spOf x.sp c.i).pc < 10 ∧ (spOf (doP P x.σ x.sp c.kind c.i).2.2 c.i).pc = 10)) :
    ordS P x c = { σ := (doP P x.σ x.sp c.kind c.i).2.1, sp := (doP P x.σ x.sp c.kind c.i).2.2, doors := x.doors, held := x.held } := by
  unfold ordS
  rw [if_neg hd, if_neg hh]
theorem do_0 (P : Par) (σ : Ar) (sp : List Sp) (i : Int) : doP P σ sp 0 i = stepP P σ sp i := rfl
theorem do_1 (P : Par) (σ : Ar) (sp : List Sp) (i : Int) : doP P σ sp 1 i = (turnB sp i 0, σ, turnS sp i 0 1) := rfl
theorem do_2 (P : Par) (σ : Ar) (sp : List Sp) (i : Int) : doP P σ sp 2 i = (turnB sp i 10, σ, turnS sp i 10 11) := rfl
theorem step_1 {P : Par} {σ : Ar} {sp : List Sp} {i : Int} (h : (spOf sp i).pc = 1) : stepP P σ sp i = (false, σ.op 5 P.next true (σ.get P.next + 1), sp.set i.toNat { spOf sp i with pc := 2, a := σ.get P.next }) := by
  unfold stepP; rw [if_pos h]
theorem step_2 {P : Par} {σ : Ar} {sp : List Sp} {i : Int} (h : (spOf sp i).pc = 2) : stepP P σ sp i = (σ.get (place P (spOf sp i).a) == (spOf sp i).a + 1, σ.op 1 (place P (spOf sp i).a) false 0, if σ.get (place P (spOf sp i).a) = (spOf sp i).a + 1 then sp.set i.toNat { spOf sp i with pc := 10 } else sp) := by
  unfold stepP; rw [if_neg (by omega), if_pos h]
theorem step_11 {P : Par} {σ : Ar} {sp : List Sp} {i : Int} (h : (spOf sp i).pc = 11) : stepP P σ sp i = (true, σ.op 2 (place P ((spOf sp i).a + 1)) true ((spOf sp i).a + 2), sp.set i.toNat { spOf sp i with pc := 0 }) := by
  unfold stepP; rw [if_neg (by omega), if_neg (by omega), if_pos h]
theorem step_no {P : Par} {σ : Ar} {sp : List Sp} {i : Int} (h1 : (spOf sp i).pc ≠ 1) (h2 : (spOf sp i).pc ≠ 2) (h3 : (spOf sp i).pc ≠ 11) : stepP P σ sp i = (false, σ, sp) := by
  unfold stepP; rw [if_neg h1, if_neg h2, if_neg h3]
theorem ord_step {P : Par} {x : St} (h : OrdP P x) (i : Int) : OrdP P (ordS P x ⟨0, i⟩) := by
  obtain ⟨S, T, h⟩ := h
  have hi := h.inv
  rcases hi.pcs i with p | p | p
  · have e := step_no (P := P) (σ := x.σ) (sp := x.sp) (i := i) (by omega) (by omega) (by omega)
    rw [h.doors (c := ⟨0, i⟩) (by simp only; omega) (by simp only [do_0, e]; omega)]
    simp only [do_0, e]
    exact ⟨S, T, h.keep hi (fun i h => ⟨h, rfl⟩) (fun _ => Iff.rfl)⟩
  · have e := step_1 (P := P) (σ := x.σ) p
    obtain ⟨i0, i1⟩ := spOf_range (sp := x.sp) (i := i) (by omega)
    have hs := spOf_set i0 i1 { spOf x.sp i with pc := 2, a := x.σ.get P.next }
    have hI := hi.takes i _ hs (by unfold inq; omega) rfl hi.gT
    rw [← hi.gT] at hI
    refine ⟨S, T + 1, ?_⟩
    unfold ordS
    simp only [do_0, e]
    rw [if_pos ⟨trivial, by omega, by omega, by rw [op_ops, if_pos hi.hasN]; omega, op_kind _ _ _ _ _ hi.hasN⟩, if_neg (by rw [hs, if_pos rfl]; simp)]
    have hlen := h.held_le
    refine ⟨hI, by simp [h.dl], fun j hj => ?_, ?_, ?_⟩
    · show (x.doors ++ [i])[(spOf (x.sp.set i.toNat _) j).a.toNat]? = some j
      rw [hs] at hj ⊢
      by_cases ej : j = i
      · rw [if_pos ej, ej]
        show (x.doors ++ [i])[(x.σ.get P.next).toNat]? = some i
        rw [hi.gT, Int.toNat_natCast, ← h.dl]
        simp
      · rw [if_neg ej] at hj ⊢
        have hd := h.dat j hj
        have ht := hi.tick j hj
        rw [List.getElem?_append_left (by rw [h.dl]; omega)]
        exact hd
    · show x.held = (x.doors ++ [i]).take x.held.length
      rw [List.take_append_of_le_length (by rw [h.dl]; exact hlen)]
      exact h.take
    · have hn : ∀ j, inn (spOf (x.sp.set i.toNat { spOf x.sp i with pc := 2, a := x.σ.get P.next }) j) ↔ inn (spOf x.sp j) := by
        intro j
        rw [hs]
        by_cases ej : j = i
        · rw [if_pos ej, ej]; unfold inn; simp only; omega
        · rw [if_neg ej]
      rcases h.cnt with ⟨⟨j, h1⟩, e⟩ | ⟨h1, e⟩
      · exact .inl ⟨⟨j, (hn j).2 h1⟩, e⟩
      · exact .inr ⟨fun j h2 => h1 j ((hn j).1 h2), e⟩
  · rcases p with p | p
    · have e := step_2 (P := P) (σ := x.σ) p
      obtain ⟨i0, i1⟩ := spOf_range (sp := x.sp) (i := i) (by omega)
      by_cases hg : x.σ.get (place P (spOf x.sp i).a) = (spOf x.sp i).a + 1
      · rw [if_pos hg] at e
        have hs := spOf_set i0 i1 { spOf x.sp i with pc := 10 }
        have hS := hi.served i (.inl p) hg
        have hI := (hi.keeps i _ hs (.inl p) (.inl rfl) rfl hS).read (place P (spOf x.sp i).a) 0
        have hd := h.dat i (.inl p)
        rw [hS, Int.toNat_natCast] at hd
        have hno : ∀ j, ¬ inn (spOf x.sp j) := by
          intro j hj
          have h1 := hi.hold j hj
          have h2 := hi.inj j i (.inr hj) (.inl p) (by omega)
          subst h2
          unfold inn at hj
          omega
        have hl : x.held.length = S := by
          rcases h.cnt with ⟨⟨j, h1⟩, _⟩ | ⟨_, e⟩
          · exact absurd h1 (hno j)
          · exact e
        refine ⟨S, T, ?_⟩
        unfold ordS
        simp only [do_0, e]
        rw [if_neg (by rw [op_kind _ _ _ _ _ (hi.has _)]; omega), if_pos ⟨by omega, by rw [hs, if_pos rfl]⟩]
        refine ⟨hI, h.dl, fun j hj => ?_, ?_, .inl ⟨⟨i, ?_⟩, by simp [hl]⟩⟩
        · show x.doors[(spOf (x.sp.set i.toNat _) j).a.toNat]? = some j
          rw [hs] at hj ⊢
          by_cases ej : j = i
          · rw [if_pos ej, ej]
            exact h.dat i (.inl p)
          · rw [if_neg ej] at hj ⊢
            exact h.dat j hj
        · show x.held ++ [i] = x.doors.take (x.held ++ [i]).length
          rw [List.length_append, List.length_singleton, hl, List.take_add_one, hd]
          have := h.take
          rw [hl] at this
          rw [← this]
          rfl
        · show inn (spOf (x.sp.set i.toNat _) i)
          rw [hs, if_pos rfl]
          exact .inl rfl
      · rw [if_neg hg] at e
        have hI := hi.read (place P (spOf x.sp i).a) 0
        rw [h.doors (c := ⟨0, i⟩) (by simp only [do_0, e]; rw [op_kind _ _ _ _ _ (hi.has _)]; omega) (by simp only [do_0, e]; omega)]
        simp only [do_0, e]
        exact ⟨S, T, h.keep hI (fun i h => ⟨h, rfl⟩) (fun _ => Iff.rfl)⟩
    · rcases p with p | p
      · have e := step_no (P := P) (σ := x.σ) (sp := x.sp) (i := i) (by omega) (by omega) (by omega)
        rw [h.doors (c := ⟨0, i⟩) (by simp only; omega) (by simp only [do_0, e]; omega)]
        simp only [do_0, e]
        exact ⟨S, T, h.keep hi (fun i h => ⟨h, rfl⟩) (fun _ => Iff.rfl)⟩
      · have e := step_11 (P := P) (σ := x.σ) p
        obtain ⟨i0, i1⟩ := spOf_range (sp := x.sp) (i := i) (by omega)
        have hs := spOf_set i0 i1 { spOf x.sp i with pc := 0 }
        have hI := hi.passes i _ hs (.inr p) rfl rfl
        have hS := hi.hold i (.inr p)
        rw [← hS] at hI
        have hno : ∀ j, ¬ inn (spOf (x.sp.set i.toNat { spOf x.sp i with pc := 0 }) j) := by
          intro j hj
          rw [hs] at hj
          by_cases ej : j = i
          · rw [if_pos ej] at hj
            unfold inn at hj
            simp at hj
          · rw [if_neg ej] at hj
            have h1 := hi.hold j hj
            exact ej (hi.inj j i (.inr hj) (.inr (.inr p)) (by omega))
        have hl : x.held.length = S + 1 := by
          rcases h.cnt with ⟨_, e⟩ | ⟨h1, _⟩
          · exact e
          · exact absurd (.inr p) (h1 i)
        rw [h.doors (c := ⟨0, i⟩) (by simp only; omega) (by simp only; omega)]
        simp only [do_0, e]
        refine ⟨S + 1, T, hI, h.dl, fun j hj => ?_, h.take, .inr ⟨hno, hl⟩⟩
        show x.doors[(spOf (x.sp.set i.toNat _) j).a.toNat]? = some j
        have hj' : inq (spOf (x.sp.set i.toNat { spOf x.sp i with pc := 0 }) j) := hj
        rw [hs] at hj' ⊢
        by_cases ej : j = i
        · rw [if_pos ej] at hj'
          unfold inq at hj'
          simp at hj'
        · rw [if_neg ej] at hj' ⊢
          exact h.dat j hj'
theorem ord_turn {P : Par} {x : St} {S T : Nat} (h : OrdI P x S T) {kd i fr to : Int} (hk : kd ≠ 0) (e : doP P x.σ x.sp kd i = (turnB x.sp i fr, x.σ, turnS x.sp i fr to)) (hto : to ≠ 10)
    (hI : Inv P x.σ (turnS x.sp i fr to) S T) (hq : ∀ j, inq (spOf (turnS x.sp i fr to) j) → inq (spOf x.sp j) ∧ (spOf (turnS x.sp i fr to) j).a = (spOf x.sp j).a) (hn : ∀ j, inn (spOf (turnS x.sp i fr to) j) ↔ inn (spOf x.sp j)) : OrdP P (ordS P x ⟨kd, i⟩) := by
  rw [h.doors (c := ⟨kd, i⟩) (by simp only; omega) (by
    simp only [e]
    cases ht : turnB x.sp i fr
    · rw [turn_no to ht]; omega
    · rw [spOf_turn to ht, if_pos rfl]; simp only; omega)]
  simp only [e]
  exact ⟨S, T, h.keep hI hq hn⟩
theorem ord_do {P : Par} {x : St} (h : OrdP P x) (c : Ac) : OrdP P (ordS P x c) := by
  obtain ⟨kd, i⟩ := c
  by_cases k0 : kd = 0
  · subst k0; exact ord_step h i
  obtain ⟨S, T, h⟩ := h
  have hi := h.inv
  by_cases k1 : kd = 1
  · subst k1
    cases ht : turnB x.sp i 0
    · have e := turn_no 1 ht
      refine ord_turn h (kd := 1) (fr := 0) (to := 1) (by omega) (do_1 _ _ _ _) (by omega) ?_ ?_ ?_
      · rw [e]; exact hi
      · rw [e]; exact fun _ h => ⟨h, rfl⟩
      · rw [e]; exact fun _ => Iff.rfl
    · have hp := (turn_true ht).2
      have hs := spOf_turn 1 ht
      refine ord_turn h (kd := 1) (fr := 0) (to := 1) (by omega) (do_1 _ _ _ _) (by omega) (hi.idle i _ hs (by unfold inq; omega) (.inr rfl) rfl) (fun j hj => ?_) (fun j => ?_)
      · rw [hs] at hj ⊢
        by_cases ej : j = i
        · rw [if_pos ej] at hj; unfold inq at hj; simp at hj
        · rw [if_neg ej] at hj ⊢; exact ⟨hj, rfl⟩
      · rw [hs]
        by_cases ej : j = i
        · rw [if_pos ej, ej]; unfold inn; simp only; omega
        · rw [if_neg ej]
  by_cases k2 : kd = 2
  · subst k2
    cases ht : turnB x.sp i 10
    · have e := turn_no 11 ht
      refine ord_turn h (kd := 2) (fr := 10) (to := 11) (by omega) (do_2 _ _ _ _) (by omega) ?_ ?_ ?_
      · rw [e]; exact hi
      · rw [e]; exact fun _ h => ⟨h, rfl⟩
      · rw [e]; exact fun _ => Iff.rfl
    · have hp := (turn_true ht).2
      have hs := spOf_turn 11 ht
      refine ord_turn h (kd := 2) (fr := 10) (to := 11) (by omega) (do_2 _ _ _ _) (by omega) (hi.keeps i _ hs (.inr (.inl hp)) (.inr rfl) rfl (hi.hold i (.inl hp))) (fun j hj => ?_) (fun j => ?_)
      · rw [hs] at hj ⊢
        by_cases ej : j = i
        · rw [if_pos ej, ej]; exact ⟨.inr (.inl hp), rfl⟩
        · rw [if_neg ej] at hj ⊢; exact ⟨hj, rfl⟩
      · rw [hs]
        by_cases ej : j = i
        · rw [if_pos ej, ej]; exact ⟨fun _ => .inl hp, fun _ => .inr rfl⟩
        · rw [if_neg ej]
  by_cases k3 : kd = 3
  · subst k3
    have e : doP P x.σ x.sp 3 i = ((aloneP P x.σ x.sp i).1, (aloneP P x.σ x.sp i).2, x.sp) := rfl
    rw [h.doors (c := ⟨3, i⟩) (by simp only; omega) (by simp only [e]; omega)]
    simp only [e]
    refine ⟨S, T, h.keep ?_ (fun i h => ⟨h, rfl⟩) (fun _ => Iff.rfl)⟩
    unfold aloneP
    split
    · exact hi.read _ _
    · exact hi
  · have e : doP P x.σ x.sp kd i = (false, x.σ, x.sp) := by unfold doP; rw [if_neg k0, if_neg k1, if_neg k2, if_neg k3]
    rw [h.doors (c := ⟨kd, i⟩) (by simp only; omega) (by simp only [e]; omega)]
    simp only [e]
    exact ⟨S, T, h.keep hi (fun i h => ⟨h, rfl⟩) (fun _ => Iff.rfl)⟩
theorem do_len (P : Par) (σ : Ar) (sp : List Sp) (kd i : Int) : (doP P σ sp kd i).2.2.length = sp.length := by
  unfold doP
  split
  · unfold stepP
    split
    · simp
    split
    · simp only; split <;> simp
    split
    · simp
    · rfl
  split
  · exact turnS_len _ _ _ _
  split
  · exact turnS_len _ _ _ _
  split <;> rfl
theorem do_ops (P : Par) (σ : Ar) (sp : List Sp) (kd i : Int) : (doP P σ sp kd i).2.1.ops ≤ σ.ops + 1 ∧ σ.ops ≤ (doP P σ sp kd i).2.1.ops := by
  have h : ∀ (kd p v : Int) (wr : Bool), (σ.op kd p wr v).ops ≤ σ.ops + 1 ∧ σ.ops ≤ (σ.op kd p wr v).ops := by
    intro kd p v wr
    rw [op_ops]
    split <;> omega
  unfold doP
  split
  · unfold stepP
    split
    · exact h _ _ _ _
    split
    · exact h _ _ _ _
    split
    · exact h _ _ _ _
    · exact ⟨Nat.le_succ _, Nat.le_refl _⟩
  split
  · exact ⟨Nat.le_succ _, Nat.le_refl _⟩
  split
  · exact ⟨Nat.le_succ _, Nat.le_refl _⟩
  split
  · unfold aloneP
    split
    · exact h _ _ _ _
    · exact ⟨Nat.le_succ _, Nat.le_refl _⟩
  · exact ⟨Nat.le_succ _, Nat.le_refl _⟩
def wP (p : Int) : Nat := if p = 1 then 4 else if p = 2 then 3 else if p = 10 then 2 else if p = 11 then 1 else 0
theorem wP_le (p : Int) : wP p ≤ 4 := by unfold wP; repeat (first | split | omega)
def RdyP (sp : List Sp) (i : Nat) : Prop := (spOf sp i).pc = 1 ∨ inn (spOf sp i) ∨ ((spOf sp i).pc = 2 ∧ ∀ j, inq (spOf sp j) → (spOf sp i).a ≤ (spOf sp j).a)
theorem set_wt {sp : List Sp} {i : Int} {s' : Sp} (h : wP s'.pc < wP (spOf sp i).pc) (hp : (spOf sp i).pc ≠ 0) : wts wP (sp.set i.toNat s') < wts wP sp := by
  obtain ⟨i0, i1⟩ := spOf_range hp
  have := wts_spOf wP sp i i0 i1 s'
  omega
theorem rndP (P : Par) (n : Nat) : Rnd (ordS P) (fun x => x.sp) (wts wP) (fun x => OrdP P x ∧ x.sp.length = n) RdyP n := by
  have dn : ∀ (x : St) (i : Int), OrdP P x → wts wP (ordS P x ⟨0, i⟩).sp < wts wP x.sp ∨ (ordS P x ⟨0, i⟩).sp = x.sp := by
    intro x i ⟨S, T, h⟩
    show wts wP (stepP P x.σ x.sp i).2.2 < _ ∨ (stepP P x.σ x.sp i).2.2 = _
    by_cases p1 : (spOf x.sp i).pc = 1
    · rw [step_1 p1]
      obtain ⟨i0, i1⟩ := spOf_range (sp := x.sp) (i := i) (by omega)
      have := wts_spOf wP x.sp i i0 i1 { spOf x.sp i with pc := 2, a := x.σ.get P.next }
      rw [p1] at this
      have e1 : wP 1 = 4 := rfl
      have e2 : wP 2 = 3 := rfl
      left
      simp only at this ⊢
      omega
    by_cases p2 : (spOf x.sp i).pc = 2
    · rw [step_2 p2]
      obtain ⟨i0, i1⟩ := spOf_range (sp := x.sp) (i := i) (by omega)
      simp only
      split
      · have := wts_spOf wP x.sp i i0 i1 { spOf x.sp i with pc := 10 }
        rw [p2] at this
        have e1 : wP 2 = 3 := rfl
        have e2 : wP 10 = 2 := rfl
        left
        simp only at this ⊢
        omega
      · exact .inr rfl
    by_cases p3 : (spOf x.sp i).pc = 11
    · rw [step_11 p3]
      obtain ⟨i0, i1⟩ := spOf_range (sp := x.sp) (i := i) (by omega)
      have := wts_spOf wP x.sp i i0 i1 { spOf x.sp i with pc := 0 }
      rw [p3] at this
      have e1 : wP 11 = 1 := rfl
      have e2 : wP 0 = 0 := rfl
      left
      simp only at this ⊢
      omega
    · rw [step_no p1 p2 p3]
      exact .inr rfl
  have dl : ∀ (x : St) (i : Int), OrdP P x → ((spOf x.sp i).pc = 10 → wts wP (ordS P x ⟨2, i⟩).sp < wts wP x.sp) ∧ (wts wP (ordS P x ⟨2, i⟩).sp < wts wP x.sp ∨ (ordS P x ⟨2, i⟩).sp = x.sp) := by
    intro x i _
    have hb : turnB x.sp i 10 = true → wts wP (turnS x.sp i 10 11) < wts wP x.sp := by
      intro ht
      obtain ⟨⟨i0, i1⟩, hp⟩ := turn_true ht
      unfold turnS
      rw [if_pos ht]
      exact set_wt (s' := { spOf x.sp i with pc := 11 }) (by rw [hp]; show wP 11 < wP 10; decide) (by omega)
    refine ⟨fun hp => ?_, ?_⟩
    · obtain ⟨i0, i1⟩ := spOf_range (sp := x.sp) (i := i) (by omega)
      exact hb (by simp [turnB]; omega)
    · show wts wP (turnS x.sp i 10 11) < _ ∨ turnS x.sp i 10 11 = _
      cases ht : turnB x.sp i 10
      · exact .inr (turn_no 11 ht)
      · exact .inl (hb ht)
  refine ⟨fun x c hx => ⟨ord_do hx.1 c, (do_len P x.σ x.sp c.kind c.i).trans hx.2⟩, fun x i k hk hx => ?_, fun x hx hp => ?_, fun x i hx hr => ?_⟩
  · rcases hk with rfl | rfl
    · exact dn x i hx.1
    · exact (dl x i hx.1).2
  · obtain ⟨⟨S, T, h⟩, hl⟩ := hx
    obtain ⟨k, k1, k2⟩ := wts_pos wP x.sp hp
    rcases h.inv.pcs (k : Int) with p | p | p
    · rw [p] at k2; exact absurd k2 (by decide)
    · exact ⟨k, by omega, .inl p⟩
    · have ht := h.inv.tick k p
      obtain ⟨j, j1, j2⟩ := h.inv.all S (Int.le_refl _) (by omega)
      obtain ⟨j0, jl⟩ := spOf_range (sp := x.sp) (i := j) (by unfold inq at j1; omega)
      obtain ⟨m, rfl⟩ := Int.eq_ofNat_of_zero_le j0
      refine ⟨m, by omega, ?_⟩
      rcases j1 with j1 | j1
      · refine .inr (.inr ⟨j1, fun i hi => ?_⟩)
        have := h.inv.tick i hi
        omega
      · exact .inr (.inl j1)
  · obtain ⟨hx, _⟩ := hx
    have h1 := dn x i hx
    have h2 := dl _ i (ord_do hx ⟨0, i⟩)
    have g : wts wP (ordS P x ⟨0, i⟩).sp < wts wP x.sp → wts wP (ordS P (ordS P x ⟨0, i⟩) ⟨2, i⟩).sp < wts wP x.sp := by
      intro h3
      rcases h2.2 with h4 | h4
      · omega
      · rw [h4]; exact h3
    obtain ⟨S, T, h⟩ := hx
    rcases hr with hr | hr | ⟨hr, hm⟩
    · refine g ?_
      rcases h1 with h1 | h1
      · exact h1
      · exfalso
        have e : (ordS P x ⟨0, i⟩).sp = (stepP P x.σ x.sp i).2.2 := rfl
        rw [e, step_1 hr] at h1
        obtain ⟨i0, i1⟩ := spOf_range (sp := x.sp) (i := (i : Int)) (by omega)
        have hs := spOf_set i0 i1 { spOf x.sp i with pc := 2, a := x.σ.get P.next } i
        simp only at h1
        rw [h1, if_pos rfl] at hs
        rw [hs] at hr
        simp at hr
    · rcases hr with hr | hr
      · have e : (ordS P x ⟨0, i⟩).sp = x.sp := by
          show (stepP P x.σ x.sp i).2.2 = _
          rw [step_no (by omega) (by omega) (by omega)]
        have h3 := h2.1 (by rw [e]; exact hr)
        rw [e] at h3
        exact h3
      · refine g ?_
        rcases h1 with h1 | h1
        · exact h1
        · exfalso
          have e : (ordS P x ⟨0, i⟩).sp = (stepP P x.σ x.sp i).2.2 := rfl
          rw [e, step_11 hr] at h1
          obtain ⟨i0, i1⟩ := spOf_range (sp := x.sp) (i := (i : Int)) (by omega)
          have hs := spOf_set i0 i1 { spOf x.sp i with pc := 0 } i
          simp only at h1
          rw [h1, if_pos rfl] at hs
          rw [hs] at hr
          simp at hr
    · refine g ?_
      have hS : (spOf x.sp i).a = S := by
        have ht := h.inv.tick i (.inl hr)
        obtain ⟨j, j1, j2⟩ := h.inv.all S (Int.le_refl _) (by omega)
        have := hm j j1
        omega
      have hg : x.σ.get (place P (spOf x.sp i).a) = (spOf x.sp i).a + 1 := by rw [hS]; exact h.inv.srv
      rcases h1 with h1 | h1
      · exact h1
      · exfalso
        have e : (ordS P x ⟨0, i⟩).sp = (stepP P x.σ x.sp i).2.2 := rfl
        rw [e, step_2 hr] at h1
        simp only [if_pos hg] at h1
        obtain ⟨i0, i1⟩ := spOf_range (sp := x.sp) (i := (i : Int)) (by omega)
        have hs := spOf_set i0 i1 { spOf x.sp i with pc := 10 } i
        rw [h1, if_pos rfl] at hs
        rw [hs] at hr
        simp at hr
theorem ord_end {P : Par} {n : Nat} {x : St} (h : OrdP P x) (hl : x.sp.length = n) (k : Nat) (hk : 4 * n < k) : ∃ y, (rActs n k).foldl (ordS P) x = y ∧ (∀ i, (spOf y.sp i).pc = 0) ∧ y.doors = y.held := by
  refine ⟨_, rfl, ?_⟩
  rw [fold_rounds]
  have hz := rounds_rest (rndP P n) ⟨h, hl⟩ k (by have := wts_le wP 4 wP_le x.sp; rw [hl] at this; omega)
  obtain ⟨⟨S, T, hy⟩, hyl⟩ := rounds_good (rndP P n) ⟨h, hl⟩ k
  have hz : wts wP (rounds (ordS P) n x k).sp = 0 := hz
  generalize rounds (ordS P) n x k = y at *
  have h0 : ∀ i, (spOf y.sp i).pc = 0 := by
    intro i
    by_cases hi : 0 ≤ i ∧ i < y.sp.length
    · have h1 := wts_zero wP y.sp hz i hi
      rcases hy.inv.pcs i with p | p | p
      · exact p
      · rw [p] at h1; exact absurd h1 (by decide)
      · rcases p with p | p | p <;> (rw [p] at h1; exact absurd h1 (by decide))
    · rw [spOf_out (by omega)]; rfl
  refine ⟨h0, ?_⟩
  have hST : S = T := by
    have := hy.inv.le
    rcases Nat.lt_or_ge S T with h1 | h1
    · obtain ⟨i, i1, _⟩ := hy.inv.all S (Int.le_refl _) (by omega)
      have := h0 i
      unfold inq at i1
      omega
    · omega
  have hh : y.held.length = S := by
    rcases hy.cnt with ⟨⟨i, h1⟩, _⟩ | ⟨_, e⟩
    · have := h0 i
      unfold inn at h1
      omega
    · exact e
  have ht := hy.take
  rw [hh, hST, ← hy.dl, List.take_length] at ht
  exact ht.symm
theorem ord_fold {P : Par} (l : List Ac) : ∀ (x : St), OrdP P x → OrdP P (l.foldl (ordS P) x) := by
  induction l with
  | nil => exact fun _ h => h
  | cons c l ih => exact fun x h => ih _ (ord_do h c)
theorem ord_start (parts : Int) (p1 : 1 ≤ parts) (p2 : parts ≤ 32) (n : Nat) : OrdP ⟨1, parts⟩ ⟨(⟨zerosW 100, (1 + parts).toNat, 0, 0, 0, false⟩ : Ar).op 2 (place ⟨1, parts⟩ 0) true 1, List.replicate n sp0, [], []⟩ := by
  refine ⟨0, 0, inv_start parts p1 p2 n, rfl, fun i hi => ?_, rfl, .inr ⟨fun i hi => ?_, rfl⟩⟩
  · have hi : inq (spOf (List.replicate n sp0) i) := hi
    rw [zero_spot] at hi
    unfold inq sp0 at hi
    simp at hi
  · have hi : inn (spOf (List.replicate n sp0) i) := hi
    rw [zero_spot] at hi
    unfold inn sp0 at hi
    simp at hi
end Go.Proofs.YthffhhgaeolpgaaGreat.Pt

/- Package parted: what its laws ask of it. -/
namespace Go.Proofs.YthffhhgaeolpgaaGreat.Pt
open Go.RowKit Go.Proofs.YthffhhgaeolpgaaGreat.Ara Go.Proofs.YthffhhgaeolpgaaGreat.Lok

theorem Inv.num {P : Par} {σ : Ar} {sp : List Sp} {S T : Nat} (h : Inv P σ sp S T) (hT : T ≤ 1000000) (ho : σ.ops ≤ 1000000) (hn : P.next ≤ 4096) : Num P σ sp := by
  refine ⟨⟨h.p1, h.p2, h.n1, hn⟩, fun k hk => ?_, ho, h.hasN, ?_, ?_⟩
  · have := h.rng k
    rw [spOf_in hk] at this
    omega
  · rw [h.gT]; omega
  · rw [h.gT]; omega
structure OkP (P : Par) (σ : Ar) (sp : List Sp) (n m : Nat) : Prop where
  inv : ∃ S T, Inv P σ sp S T ∧ T ≤ m
  ops : σ.ops ≤ m + 1
  nx : P.next ≤ 4096
  len : sp.length = n
section
variable {P : Par} {σ : Ar} {sp : List Sp} {n m : Nat} (h : OkP P σ sp n m)
include h
theorem OkP.act (kd i : Int) : OkP P (doP P σ sp kd i).2.1 (doP P σ sp kd i).2.2 n (m + 1) := by
  obtain ⟨S, T, hi, hT⟩ := h.inv
  obtain ⟨S', T', hT', hi'⟩ := do_inv hi kd i
  exact ⟨⟨S', T', hi', by omega⟩, by have := do_ops P σ sp kd i; have := h.ops; omega, h.nx, (do_len P σ sp kd i).trans h.len⟩
theorem OkP.num (hm : m ≤ 100000) : Num P σ sp := by
  obtain ⟨S, T, hi, hT⟩ := h.inv
  exact hi.num (by omega) (by have := h.ops; omega) h.nx
theorem OkP.one : cnt (fun s => s.pc == 10) sp n ≤ 1 := by
  obtain ⟨S, T, hi, hT⟩ := h.inv
  exact hi.one n
theorem OkP.behind (i : Int) (hp : (spOf sp i).pc = 10) (ha : (doP P σ sp 3 i).1 = false) : 0 < cnt (fun s => decide (0 < s.pc) && decide (s.pc < 10)) sp n := by
  obtain ⟨S, T, hi, hT⟩ := h.inv
  rw [← h.len]
  exact hi.behind i hp ha
end
theorem do_asks (P : Par) (σ : Ar) (sp : List Sp) (kd i : Int) (hk : kd = 1 ∨ kd = 2) : (doP P σ sp kd i).2.1 = σ ∧ ((doP P σ sp kd i).1 = false → (doP P σ sp kd i).2.2 = sp) := by
  rcases hk with rfl | rfl
  · exact ⟨rfl, fun h => turn_no 1 h⟩
  · exact ⟨rfl, fun h => turn_no 11 h⟩
theorem do_three (P : Par) (σ : Ar) (sp : List Sp) (i : Int) : (doP P σ sp 3 i).2.2 = sp := rfl
theorem do_words (P : Par) (σ : Ar) (sp : List Sp) (kd i : Int) (hk : kd ≠ 0) : (doP P σ sp kd i).2.1.ws = σ.ws ∧ (doP P σ sp kd i).2.1.t = σ.t := by
  unfold doP
  rw [if_neg hk]
  split
  · exact ⟨rfl, rfl⟩
  split
  · exact ⟨rfl, rfl⟩
  split
  · unfold aloneP
    split
    · refine ⟨?_, op_t _ _ _ _ _⟩
      show (Ar.op _ _ _ false _).ws = _
      unfold Ar.op
      split <;> rfl
    · exact ⟨rfl, rfl⟩
  · exact ⟨rfl, rfl⟩
def first1 (P : Par) (n : Nat) : Ar × List Sp := ((⟨zerosW 100, (1 + P.parts).toNat, 0, 0, 0, false⟩ : Ar).op 2 (place P 0) true 1, zeroS n)
theorem OkP.first {parts : Int} (p1 : 1 ≤ parts) (p2 : parts ≤ 32) (n : Nat) : OkP ⟨1, parts⟩ (first1 ⟨1, parts⟩ n).1 (first1 ⟨1, parts⟩ n).2 n 0 := by
  refine ⟨⟨0, 0, inv_start parts p1 p2 n, Nat.le_refl _⟩, ?_, by show (1 : Int) ≤ 4096; decide, by simp [first1, zeroS]⟩
  show (Ar.op _ _ _ _ _).ops ≤ 1
  rw [op_ops]
  show 0 + _ ≤ 1
  split <;> omega
theorem ord_first {parts : Int} (p1 : 1 ≤ parts) (p2 : parts ≤ 32) (n : Nat) : OrdP ⟨1, parts⟩ ⟨(first1 ⟨1, parts⟩ n).1, (first1 ⟨1, parts⟩ n).2, [], []⟩ := ord_start parts p1 p2 n
end Go.Proofs.YthffhhgaeolpgaaGreat.Pt

/- Package mcs: what its laws ask of it. -/
namespace Go.Proofs.YthffhhgaeolpgaaGreat.Mc
open Go.RowKit Go.Proofs.YthffhhgaeolpgaaGreat.Ara Go.Proofs.YthffhhgaeolpgaaGreat.Lok

theorem Inv.num {P : Par} {σ : Ar} {sp : List Sp} {q : List Int} (h : Inv P σ sp q) (hl : sp.length ≤ 32) (ho : σ.ops ≤ 1000000) (hn : P.tail ≤ 4096) : Num P σ sp := by
  refine ⟨⟨h.t1, hn⟩, fun k hk => ?_, ho⟩
  have h1 := h.ar (k : Int)
  have h2 := h.pcs (k : Int)
  rw [spOf_in hk] at h1 h2
  unfold inq outs at h2
  unfold pcOk
  omega
structure OkP (P : Par) (σ : Ar) (sp : List Sp) (n m : Nat) : Prop where
  inv : ∃ q, Inv P σ sp q
  ops : σ.ops ≤ m + 1
  nx : P.tail ≤ 4096
  len : sp.length = n
  small : n ≤ 32
section
variable {P : Par} {σ : Ar} {sp : List Sp} {n m : Nat} (h : OkP P σ sp n m)
include h
theorem OkP.act (kd i : Int) : OkP P (doP P σ sp kd i).2.1 (doP P σ sp kd i).2.2 n (m + 1) := by
  obtain ⟨q, hi⟩ := h.inv
  obtain ⟨q', hi'⟩ := do_inv hi kd i
  exact ⟨⟨q', hi'⟩, by have := do_ops P σ sp kd i; have := h.ops; omega, h.nx, (do_len P σ sp kd i).trans h.len, h.small⟩
theorem OkP.num (hm : m ≤ 100000) : Num P σ sp := by
  obtain ⟨q, hi⟩ := h.inv
  exact hi.num (by have := h.len; have := h.small; omega) (by have := h.ops; omega) h.nx
theorem OkP.one : cnt (fun s => s.pc == 10) sp n ≤ 1 := by
  obtain ⟨q, hi⟩ := h.inv
  exact hi.one n
theorem OkP.behind (i : Int) (hp : (spOf sp i).pc = 10) (ha : (doP P σ sp 3 i).1 = false) : 0 < cnt (fun s => decide (0 < s.pc) && decide (s.pc < 10)) sp n := by
  obtain ⟨q, hi⟩ := h.inv
  rw [← h.len]
  exact hi.behind i hp ha
end
theorem do_asks (P : Par) (σ : Ar) (sp : List Sp) (kd i : Int) (hk : kd = 1 ∨ kd = 2) : (doP P σ sp kd i).2.1 = σ ∧ ((doP P σ sp kd i).1 = false → (doP P σ sp kd i).2.2 = sp) := by
  rcases hk with rfl | rfl
  · exact ⟨rfl, fun h => turn_no 1 h⟩
  · exact ⟨rfl, fun h => turn_no 11 h⟩
theorem do_three (P : Par) (σ : Ar) (sp : List Sp) (i : Int) : (doP P σ sp 3 i).2.2 = sp := rfl
theorem do_words (P : Par) (σ : Ar) (sp : List Sp) (kd i : Int) (hk : kd ≠ 0) : (doP P σ sp kd i).2.1.ws = σ.ws ∧ (doP P σ sp kd i).2.1.t = σ.t := by
  unfold doP
  rw [if_neg hk]
  split
  · exact ⟨rfl, rfl⟩
  split
  · exact ⟨rfl, rfl⟩
  split
  · unfold aloneP
    split
    · refine ⟨?_, op_t _ _ _ _ _⟩
      show (Ar.op _ _ _ false _).ws = _
      unfold Ar.op
      split <;> rfl
    · exact ⟨rfl, rfl⟩
  · exact ⟨rfl, rfl⟩
def first1 (n : Nat) : Ar × List Sp := ((⟨zerosW 100, 1 + 2 * n, 0, 0, 0, false⟩ : Ar), zeroS n)
theorem OkP.first (n : Nat) (hn : n ≤ 32) : OkP ⟨1⟩ (first1 n).1 (first1 n).2 n 0 :=
  ⟨⟨_, inv_start n hn⟩, by show 0 ≤ 0 + 1; omega, by show (1 : Int) ≤ 4096; decide, by simp [first1, zeroS], hn⟩
theorem ord_first (n : Nat) (hn : n ≤ 32) : OrdP ⟨1⟩ ⟨(first1 n).1, (first1 n).2, [], []⟩ := ord_start n hn
end Go.Proofs.YthffhhgaeolpgaaGreat.Mc

/- Package clh: what its laws ask of it. -/
namespace Go.Proofs.YthffhhgaeolpgaaGreat.Cl
open Go.RowKit Go.Proofs.YthffhhgaeolpgaaGreat.Ara Go.Proofs.YthffhhgaeolpgaaGreat.Lok

theorem Inv.num {P : Par} {σ : Ar} {sp : List Sp} {z : Int} {q : List Int} (h : Inv P σ sp z q) (hl : sp.length ≤ 32) (ho : σ.ops ≤ 1000000) (hn : P.tail ≤ 4096) : Num P σ sp := by
  refine ⟨⟨h.t1, hn⟩, fun k hk => ?_, ho, ?_⟩
  · have h1 := h.ar (k : Int) (by omega) (by omega)
    have h2 := h.br (k : Int)
    rw [spOf_in hk] at h1 h2
    omega
  · have := h.t1
    have := h.t2
    omega
structure OkP (P : Par) (σ : Ar) (sp : List Sp) (n m : Nat) : Prop where
  inv : ∃ z q, Inv P σ sp z q
  ops : σ.ops ≤ m + 1
  nx : P.tail ≤ 4096
  len : sp.length = n
  small : n ≤ 32
section
variable {P : Par} {σ : Ar} {sp : List Sp} {n m : Nat} (h : OkP P σ sp n m)
include h
theorem OkP.act (kd i : Int) : OkP P (doP P σ sp kd i).2.1 (doP P σ sp kd i).2.2 n (m + 1) := by
  obtain ⟨z, q, hi⟩ := h.inv
  obtain ⟨z', q', hi'⟩ := do_inv hi kd i
  exact ⟨⟨z', q', hi'⟩, by have := do_ops P σ sp kd i; have := h.ops; omega, h.nx, (do_len P σ sp kd i).trans h.len, h.small⟩
theorem OkP.num (hm : m ≤ 100000) : Num P σ sp := by
  obtain ⟨z, q, hi⟩ := h.inv
  exact hi.num (by have := h.len; have := h.small; omega) (by have := h.ops; omega) h.nx
theorem OkP.one : cnt (fun s => s.pc == 10) sp n ≤ 1 := by
  obtain ⟨z, q, hi⟩ := h.inv
  exact hi.one n
theorem OkP.behind (i : Int) (hp : (spOf sp i).pc = 10) (ha : (doP P σ sp 3 i).1 = false) : 0 < cnt (fun s => decide (0 < s.pc) && decide (s.pc < 10)) sp n := by
  obtain ⟨z, q, hi⟩ := h.inv
  rw [← h.len]
  exact hi.behind i hp ha
end
theorem do_asks (P : Par) (σ : Ar) (sp : List Sp) (kd i : Int) (hk : kd = 1 ∨ kd = 2) : (doP P σ sp kd i).2.1 = σ ∧ ((doP P σ sp kd i).1 = false → (doP P σ sp kd i).2.2 = sp) := by
  rcases hk with rfl | rfl
  · exact ⟨rfl, fun h => turn_no 1 h⟩
  · exact ⟨rfl, fun h => turn_no 11 h⟩
theorem do_three (P : Par) (σ : Ar) (sp : List Sp) (i : Int) : (doP P σ sp 3 i).2.2 = sp := rfl
theorem do_words (P : Par) (σ : Ar) (sp : List Sp) (kd i : Int) (hk : kd ≠ 0) : (doP P σ sp kd i).2.1.ws = σ.ws ∧ (doP P σ sp kd i).2.1.t = σ.t := by
  unfold doP
  rw [if_neg hk]
  split
  · exact ⟨rfl, rfl⟩
  split
  · exact ⟨rfl, rfl⟩
  split
  · unfold aloneP
    split
    · refine ⟨?_, op_t _ _ _ _ _⟩
      show (Ar.op _ _ _ false _).ws = _
      unfold Ar.op
      split <;> rfl
    · exact ⟨rfl, rfl⟩
  · exact ⟨rfl, rfl⟩
def first1 (n : Nat) : Ar × List Sp := ((⟨zerosW 100, n + 2, 0, 0, 0, false⟩ : Ar).op 2 1 true ((n : Int) + 1), first0 n)
theorem OkP.first (n : Nat) (hn : n ≤ 32) : OkP ⟨1⟩ (first1 n).1 (first1 n).2 n 0 := by
  refine ⟨⟨_, _, inv_start n hn⟩, ?_, by show (1 : Int) ≤ 4096; decide, by simp [first1, first0], hn⟩
  show (Ar.op _ _ _ _ _).ops ≤ 1
  rw [op_ops]
  show 0 + _ ≤ 1
  split <;> omega
theorem ord_first (n : Nat) (hn : n ≤ 32) : OrdP ⟨1⟩ ⟨(first1 n).1, (first1 n).2, [], []⟩ := ord_start n hn
end Go.Proofs.YthffhhgaeolpgaaGreat.Cl

/- How locks of all five kinds stand at first, wherever their words lie. -/
namespace Go.Proofs.YthffhhgaeolpgaaGreat
open Go.RowKit Go.Proofs.YthffhhgaeolpgaaGreat.Ara Go.Proofs.YthffhhgaeolpgaaGreat.Lok

structure Zr (σ : Ar) (a m : Nat) : Prop where
  hl : σ.t ≤ σ.ws.length
  a1 : 1 ≤ a
  at_ : a + m ≤ σ.t + 1
  z : ∀ q : Int, (a : Int) ≤ q → q < (a : Int) + m → σ.get q = 0
theorem Zr.has {σ : Ar} {a m : Nat} (h : Zr σ a m) {q : Int} (h1 : (a : Int) ≤ q) (h2 : q < (a : Int) + m) : σ.has q = true := by
  have := h.a1
  have := h.at_
  simp [Ar.has]
  omega
namespace Ta
theorem inv_st {σ : Ar} {a : Nat} (h : Zr σ a 1) (most : Int) (m1 : 1 ≤ most) (m2 : most ≤ 1024) (n : Nat) : Inv ⟨a, most⟩ σ (zeroS n) := by
  have hs := zero_spot n
  have hp : ∀ i, (spOf (zeroS n) i).pc = 0 := fun i => by rw [hs]; rfl
  have ha : ∀ i, (spOf (zeroS n) i).a = 0 := fun i => by rw [hs]; rfl
  have hb : ∀ i, (spOf (zeroS n) i).b = 0 := fun i => by rw [hs]; rfl
  exact { hl := h.hl, hw := h.has (q := (a : Int)) (Int.le_refl _) (by omega), m1 := m1, m2 := m2, pcs := fun i => .inl (hp i), ar := fun i => by rw [ha]; omega, br := fun i => by rw [hb]; omega, w1 := fun i e => by rw [hp] at e; omega, w2 := fun i e => by rw [hp] at e; omega, hold := fun i e => by unfold holds at e; rw [hp] at e; omega, free := fun _ => h.z (a : Int) (Int.le_refl _) (by omega) }
theorem ok_st {σ : Ar} {a : Nat} (h : Zr σ a 1) (most : Int) (m1 : 1 ≤ most) (m2 : most ≤ 1024) (n m : Nat) (ho : σ.ops ≤ m + 1) : OkP ⟨a, most⟩ σ (zeroS n) n m := ⟨inv_st h most m1 m2 n, ho, by simp [zeroS]⟩
end Ta
namespace Tk
theorem inv_st {σ : Ar} {a : Nat} (h : Zr σ a 2) (n : Nat) : Inv ⟨a⟩ σ (Ta.zeroS n) 0 0 := by
  have hs := zero_spot n
  have hq : ∀ i, ¬ inq (spOf (List.replicate n sp0) i) := by
    intro i; rw [hs]; unfold inq sp0; simp
  have hz := h.z
  have h1 := h.a1
  have h2 := h.at_
  refine { p1 := Int.le_refl _, p2 := by show (1 : Int) ≤ 32; decide, n1 := by show (1 : Int) ≤ (a : Int); omega, le := Nat.le_refl _, hl := h.hl, n2 := by show (a : Int) + 1 ≤ (σ.t : Int); omega, gT := hz (a : Int) (Int.le_refl _) (by omega), srv := ?_, low := fun x x0 x1 => ?_, pcs := fun i => ?_, tick := fun i hi => absurd hi (hq i), hold := fun i hi => absurd (Or.inr hi) (hq i), inj := fun i j hi => absurd hi (hq i), all := fun t t0 t1 => ?_, rng := fun i => ?_ }
  · rw [place_eq]; exact hz ((a : Int) + 1) (by omega) (by omega)
  · have x1' : x < 1 := x1
    have : σ.get ((a : Int) + 1 + x) = 0 := hz _ (by omega) (by omega)
    show σ.get ((a : Int) + 1 + x) ≤ _
    rw [this]
    exact Int.le_refl _
  · left; show (spOf (List.replicate n sp0) i).pc = 0; rw [hs]; rfl
  · omega
  · have e : spOf (Ta.zeroS n) i = sp0 := hs i
    rw [e]; exact ⟨Int.le_refl _, Int.le_refl _⟩
theorem ok_st {σ : Ar} {a : Nat} (h : Zr σ a 2) (n m : Nat) (ho : σ.ops ≤ m + 1) (ha : a ≤ 4096) : OkP ⟨a⟩ σ (Ta.zeroS n) n m := ⟨⟨0, 0, inv_st h n, Nat.zero_le _⟩, ho, by show (a : Int) ≤ 4096; omega, by simp [Ta.zeroS]⟩
end Tk
namespace Pt
theorem inv_st {σ : Ar} {a p : Nat} (h : Zr σ a (1 + p)) (p1 : 1 ≤ p) (p2 : p ≤ 32) (n : Nat) : Inv ⟨a, p⟩ (σ.op 2 (place ⟨a, p⟩ 0) true 1) (zeroS n) 0 0 := by
  have h1 := h.a1
  have h2 := h.at_
  obtain ⟨x, x0, x1, e⟩ := place_in (P := ⟨a, p⟩) (by show (1 : Int) ≤ (p : Int); omega) 0
  simp only at x1 e
  have hh : σ.has (place ⟨a, p⟩ 0) = true := by rw [e]; exact h.has (by omega) (by omega)
  have hg := fun q => get_op σ h.hl 2 (place ⟨a, p⟩ 0) 1 true q
  simp only [hh, true_and] at hg
  have hs := zero_spot n
  have hq : ∀ i, ¬ inq (spOf (List.replicate n sp0) i) := by
    intro i; rw [hs]; unfold inq sp0; simp
  refine { p1 := by show (1 : Int) ≤ (p : Int); omega, p2 := by show (p : Int) ≤ 32; omega, n1 := by show (1 : Int) ≤ (a : Int); omega, le := Nat.le_refl _, hl := ?_, n2 := ?_, gT := ?_, srv := ?_, low := ?_, pcs := fun i => ?_, tick := fun i hi => absurd hi (hq i), hold := fun i hi => absurd (Or.inr hi) (hq i), inj := fun i j hi => absurd hi (hq i), all := fun t t0 t1 => ?_, rng := fun i => ?_ }
  · rw [op_t, op_len]; exact h.hl
  · rw [op_t]; show (a : Int) + (p : Int) ≤ (σ.t : Int); omega
  · rw [hg, if_neg (by rw [e]; show ¬ (a : Int) = (a : Int) + 1 + x; omega)]
    exact h.z (a : Int) (Int.le_refl _) (by omega)
  · rw [hg, if_pos (show place ⟨a, p⟩ ((0 : Nat) : Int) = place ⟨a, p⟩ 0 from rfl)]; rfl
  · intro y y0 y1
    have y1' : y < (p : Int) := y1
    rw [hg]
    split
    · simp
    · show σ.get ((a : Int) + 1 + y) ≤ _
      rw [h.z _ (by omega) (by omega)]
      decide
  · left; show (spOf (List.replicate n sp0) i).pc = 0; rw [hs]; rfl
  · omega
  · have e : spOf (zeroS n) i = sp0 := hs i
    rw [e]; exact ⟨Int.le_refl _, Int.le_refl _⟩
theorem ok_st {σ : Ar} {a p : Nat} (h : Zr σ a (1 + p)) (p1 : 1 ≤ p) (p2 : p ≤ 32) (n m : Nat) (ho : σ.ops ≤ m) (ha : a ≤ 4096) : OkP ⟨a, p⟩ (σ.op 2 (place ⟨a, p⟩ 0) true 1) (zeroS n) n m := by
  refine ⟨⟨0, 0, inv_st h p1 p2 n, Nat.zero_le _⟩, ?_, by show (a : Int) ≤ 4096; omega, by simp [zeroS]⟩
  rw [op_ops]
  split <;> omega
end Pt
namespace Mc
theorem inv_st {σ : Ar} {a n : Nat} (h : Zr σ a (1 + 2 * n)) : Inv ⟨a⟩ σ (zeroS n) [] := by
  have h1 := h.a1
  have h2 := h.at_
  have hp : ∀ i, (spOf (List.replicate n sp0) i).pc = 0 := fun i => by rw [zero_spot]; rfl
  have hq : ∀ i, ¬ inq (spOf (List.replicate n sp0) i) := by
    intro i h; have := hp i; unfold inq outs at h; omega
  refine { hl := h.hl, t1 := by show (1 : Int) ≤ (a : Int); omega, t2 := ?_, pcs := fun i => .inl (hp i), ar := fun i => ?_, mem := fun i => ⟨fun h => by simp at h, fun h => absurd h (hq i)⟩, nd := List.nodup_nil, first := fun i h => absurd (.inr (.inr h)) (hq i), gT := h.z (a : Int) (Int.le_refl _) (by omega), ch := trivial, hd := fun i h => by simp at h, p2 := fun i h => ?_, p3 := fun i h => ?_, p13 := fun i h => ?_, pa := fun i h => ?_, p14 := fun i h => ?_ }
  · show (a : Int) + 2 * ((List.replicate n sp0).length : Int) ≤ _; rw [List.length_replicate]; omega
  · have e : spOf (zeroS n) i = sp0 := zero_spot n i
    rw [e]; exact ⟨Int.le_refl _, by show (0 : Int) ≤ _; omega⟩
  all_goals (have h5 : (spOf (zeroS n) i).pc = 0 := hp i; exfalso; omega)
theorem ok_st {σ : Ar} {a n : Nat} (h : Zr σ a (1 + 2 * n)) (hn : n ≤ 32) (m : Nat) (ho : σ.ops ≤ m + 1) (ha : a ≤ 4096) : OkP ⟨a⟩ σ (zeroS n) n m := ⟨⟨_, inv_st h⟩, ho, by show (a : Int) ≤ 4096; omega, by simp [zeroS], hn⟩
end Mc
namespace Cl
theorem inv_st {σ : Ar} {a n : Nat} (h : Zr σ a (n + 2)) (hn : n ≤ 32) : Inv ⟨a⟩ (σ.op 2 (a : Int) true ((n : Int) + 1)) (first0 n) ((n : Int) + 1) [] := by
  have h1 := h.a1
  have h2 := h.at_
  have hh : σ.has (a : Int) = true := h.has (Int.le_refl _) (by omega)
  have hg := fun q => get_op σ h.hl 2 (a : Int) ((n : Int) + 1) true q
  simp only [hh, true_and] at hg
  have hl : (first0 n).length = n := by simp [first0]
  have hp : ∀ i, (spOf (first0 n) i).pc = 0 := by
    intro i; rw [first0_spot]; split <;> rfl
  have ha : ∀ i : Int, 0 ≤ i → i < n → (spOf (first0 n) i).a = i + 1 := by
    intro i i0 i1; rw [first0_spot, if_pos ⟨i0, i1⟩]
  refine { hl := ?_, t1 := by show (1 : Int) ≤ (a : Int); omega, t2 := ?_, zr := ?_, ar := ?_, br := ?_, pcs := fun i => .inl (hp i), mem := ?_, nd := List.nodup_nil, first := ?_, inj := ?_, nz := ?_, ch := trivial, gz := ?_, g1 := ?_, gT := ?_ }
  · rw [op_t, op_len]; exact h.hl
  · rw [op_t, hl]; show (a : Int) + (n : Int) + 1 ≤ (σ.t : Int); omega
  · rw [hl]; omega
  · intro i i0 i1; rw [hl] at i1 ⊢; rw [ha i i0 i1]; omega
  · intro i; rw [hl, first0_spot]; split
    · simp only; omega
    · simp only [sp0]; omega
  · intro i
    refine ⟨fun h => by simp at h, fun h => ?_⟩
    have := hp i
    unfold inq inn at h
    omega
  · intro i h
    have := hp i
    unfold inn at h
    omega
  · intro i j i0 i1 j0 j1 e
    rw [hl] at i1 j1
    rw [ha i i0 i1, ha j j0 j1] at e
    omega
  · intro i i0 i1
    rw [hl] at i1
    rw [ha i i0 i1]
    omega
  · rw [hg, if_neg (by simp [box]; omega)]
    exact h.z _ (by show (a : Int) ≤ (a : Int) + ((n : Int) + 1); omega) (by show (a : Int) + ((n : Int) + 1) < _; omega)
  · intro i h
    have := hp i
    unfold inq inn at h
    omega
  · rw [hg, if_pos rfl]; rfl
theorem ok_st {σ : Ar} {a n : Nat} (h : Zr σ a (n + 2)) (hn : n ≤ 32) (m : Nat) (ho : σ.ops ≤ m) (ha : a ≤ 4096) : OkP ⟨a⟩ (σ.op 2 (a : Int) true ((n : Int) + 1)) (first0 n) n m := by
  refine ⟨⟨_, _, inv_st h hn⟩, ?_, by show (a : Int) ≤ 4096; omega, by simp [first0], hn⟩
  rw [op_ops]
  split <;> omega
end Cl
end Go.Proofs.YthffhhgaeolpgaaGreat

/- Package flat: a lock of any kind: what its methods do, by those of its kind. -/
namespace Go.Proofs.YthffhhgaeolpgaaGreat.Fl
open Go.RowKit Go.Proofs.YthffhhgaeolpgaaGreat.Ara Go.Proofs.YthffhhgaeolpgaaGreat.Lok

section
variable (gf : Nat) (kind : Int) (hk : kind ≠ 0) (T : TypeId) (v r : Value) (F : FuncId) (w : World)
include hk
set_option maxRecDepth 100000 in
theorem Ask_gen (hc : ∀ a W, (callFunc F a).run Tryz.prog W = .ok (.enter F a) W) (hm : ∀ W, (method 325 T v "Ask").run Tryz.prog W = .ok (F, r) W) (H : FlB w gf kind T v) (i : Int) (b : Bool) (R : World → Prop) (HC : Calls Tryz.prog F #[r, .int .i64 i] w fun e w' => e = .returned (.bool b) ∧ R w') : Calls Tryz.prog 50 #[.pointer (some ⟨gf, 0, none⟩), .int .i64 i] w fun e w' => e = .returned (.bool b) ∧ R w' := by
  have HM := Lib.hid (made_yes gf kind T v w H hk)
  have c1 := blk_cell H 1 (by simp)
  simp only [List.getElem_toArray, List.getElem_cons_succ, List.getElem_cons_zero] at c1
  replace HC := Lib.hid HC
  clear H
  go_enter Tryz.func50, Tryz.ntmps50
  go_wp2_with fail
  refine (HM.out).mono ?_
  rintro e wx ⟨rfl, hwx⟩
  obtain rfl := hwx.symm
  go_wp2_with fail
  refine HC.out.mono ?_
  rintro e w2 ⟨rfl, h2⟩
  replace h2 := Lib.hid h2
  go_wp2_with fail
  go_ret
  exact ⟨rfl, h2.out⟩
set_option maxRecDepth 100000 in
theorem Leave_gen (hc : ∀ a W, (callFunc F a).run Tryz.prog W = .ok (.enter F a) W) (hm : ∀ W, (method 325 T v "Leave").run Tryz.prog W = .ok (F, r) W) (H : FlB w gf kind T v) (i : Int) (b : Bool) (R : World → Prop) (HC : Calls Tryz.prog F #[r, .int .i64 i] w fun e w' => e = .returned (.bool b) ∧ R w') : Calls Tryz.prog 53 #[.pointer (some ⟨gf, 0, none⟩), .int .i64 i] w fun e w' => e = .returned (.bool b) ∧ R w' := by
  have HM := Lib.hid (made_yes gf kind T v w H hk)
  have c1 := blk_cell H 1 (by simp)
  simp only [List.getElem_toArray, List.getElem_cons_succ, List.getElem_cons_zero] at c1
  replace HC := Lib.hid HC
  clear H
  go_enter Tryz.func53, Tryz.ntmps53
  go_wp2_with fail
  refine (HM.out).mono ?_
  rintro e wx ⟨rfl, hwx⟩
  obtain rfl := hwx.symm
  go_wp2_with fail
  refine HC.out.mono ?_
  rintro e w2 ⟨rfl, h2⟩
  replace h2 := Lib.hid h2
  go_wp2_with fail
  go_ret
  exact ⟨rfl, h2.out⟩
set_option maxRecDepth 100000 in
theorem Step_gen (hc : ∀ a W, (callFunc F a).run Tryz.prog W = .ok (.enter F a) W) (hm : ∀ W, (method 325 T v "Step").run Tryz.prog W = .ok (F, r) W) (H : FlB w gf kind T v) (i : Int) (b : Bool) (R : World → Prop) (HC : Calls Tryz.prog F #[r, .int .i64 i] w fun e w' => e = .returned (.bool b) ∧ R w') : Calls Tryz.prog 52 #[.pointer (some ⟨gf, 0, none⟩), .int .i64 i] w fun e w' => e = .returned (.bool b) ∧ R w' := by
  have HM := Lib.hid (made_yes gf kind T v w H hk)
  have c1 := blk_cell H 1 (by simp)
  simp only [List.getElem_toArray, List.getElem_cons_succ, List.getElem_cons_zero] at c1
  replace HC := Lib.hid HC
  clear H
  go_enter Tryz.func52, Tryz.ntmps52
  go_wp2_with fail
  refine (HM.out).mono ?_
  rintro e wx ⟨rfl, hwx⟩
  obtain rfl := hwx.symm
  go_wp2_with fail
  refine HC.out.mono ?_
  rintro e w2 ⟨rfl, h2⟩
  replace h2 := Lib.hid h2
  go_wp2_with fail
  go_ret
  exact ⟨rfl, h2.out⟩
set_option maxRecDepth 100000 in
theorem Alone_gen (hc : ∀ a W, (callFunc F a).run Tryz.prog W = .ok (.enter F a) W) (hm : ∀ W, (method 325 T v "Alone").run Tryz.prog W = .ok (F, r) W) (H : FlB w gf kind T v) (i : Int) (b : Bool) (R : World → Prop) (HC : Calls Tryz.prog F #[r, .int .i64 i] w fun e w' => e = .returned (.bool b) ∧ R w') : Calls Tryz.prog 51 #[.pointer (some ⟨gf, 0, none⟩), .int .i64 i] w fun e w' => e = .returned (.bool b) ∧ R w' := by
  have HM := Lib.hid (made_yes gf kind T v w H hk)
  have c1 := blk_cell H 1 (by simp)
  simp only [List.getElem_toArray, List.getElem_cons_succ, List.getElem_cons_zero] at c1
  replace HC := Lib.hid HC
  clear H
  go_enter Tryz.func51, Tryz.ntmps51
  go_wp2_with fail
  refine (HM.out).mono ?_
  rintro e wx ⟨rfl, hwx⟩
  obtain rfl := hwx.symm
  go_wp2_with fail
  refine HC.out.mono ?_
  rintro e w2 ⟨rfl, h2⟩
  replace h2 := Lib.hid h2
  go_wp2_with fail
  go_ret
  exact ⟨rfl, h2.out⟩
set_option maxRecDepth 100000 in
theorem Slots_gen (hc : ∀ a W, (callFunc F a).run Tryz.prog W = .ok (.enter F a) W) (hm : ∀ W, (method 325 T v "Slots").run Tryz.prog W = .ok (F, r) W) (H : FlB w gf kind T v) (n : Nat) (HC : Calls Tryz.prog F #[r] w fun e w' => e = .returned (.int .i64 (n : Int)) ∧ w' = w) : Calls Tryz.prog 26 #[.pointer (some ⟨gf, 0, none⟩)] w fun e w' => e = .returned (.int .i64 (n : Int)) ∧ w' = w := by
  have HM := Lib.hid (made_yes gf kind T v w H hk)
  have c1 := blk_cell H 1 (by simp)
  simp only [List.getElem_toArray, List.getElem_cons_succ, List.getElem_cons_zero] at c1
  replace HC := Lib.hid HC
  clear H
  go_enter Tryz.func26, Tryz.ntmps26
  go_wp2_with fail
  refine (HM.out).mono ?_
  rintro e wx ⟨rfl, hwx⟩
  obtain rfl := hwx.symm
  go_wp2_with fail
  refine (HC.out).mono ?_
  rintro e wx ⟨rfl, hwx⟩
  obtain rfl := hwx.symm
  go_wp2_with fail
  go_ret
  exact ⟨rfl, rfl⟩

set_option maxRecDepth 100000 in
theorem Spot_gen (hc : ∀ a W, (callFunc F a).run Tryz.prog W = .ok (.enter F a) W) (hm : ∀ W, (method 325 T v "Spot").run Tryz.prog W = .ok (F, r) W) (H : FlB w gf kind T v) (i : Int) (s : Sp) (HC : ∀ W, Below w.heap.size w W → Calls Tryz.prog F #[r, .int .i64 i] W fun e w' => e = .returned (.agg #[.int .i64 s.pc, .int .i64 s.a, .int .i64 s.b, .int .i64 s.c]) ∧ Below W.heap.size W w') : Calls Tryz.prog 24 #[.pointer (some ⟨gf, 0, none⟩), .int .i64 i] w fun e w' => e = .returned (.agg #[.int .i64 s.pc, .int .i64 s.a, .int .i64 s.b, .int .i64 s.c]) ∧ Below w.heap.size w w' := by
  have hbn := below_new w (.cells #[.int .i64 0, .int .i64 0, .int .i64 0, .int .i64 0] 53)
  have hbk := blk_new w (.cells #[.int .i64 0, .int .i64 0, .int .i64 0, .int .i64 0] 53)
  have hz : w.heap.size < (w.alloc (.cells #[.int .i64 0, .int .i64 0, .int .i64 0, .int .i64 0] 53)).heap.size := by simp
  have HB := Lib.hid hbk
  clear hbk
  have H1 := H.same hbn
  have HM := Lib.hid (made_yes gf kind T v _ H1 hk)
  have c1 := blk_cell H1 1 (by simp)
  simp only [List.getElem_toArray, List.getElem_cons_succ, List.getElem_cons_zero] at c1
  replace HC := Lib.hid (HC _ hbn)
  obtain ⟨xp, xa, xb, xc⟩ := s
  simp only at HC ⊢
  clear H H1
  go_enter Tryz.func24, Tryz.ntmps24
  go_wp2_with fail
  refine (HM.out).mono ?_
  rintro e wx ⟨rfl, hwx⟩
  obtain rfl := hwx.symm
  go_wp2_with fail
  refine HC.out.mono ?_
  rintro e w2 ⟨rfl, hb2⟩
  have hbk2 := (Mod.of_below (S := []) hb2).blk HB.out (by simp)
  have d0 := blk_cell hbk2 0 (by simp)
  have d1 := blk_cell hbk2 1 (by simp)
  have d2 := blk_cell hbk2 2 (by simp)
  have d3 := blk_cell hbk2 3 (by simp)
  have f0 := blk_free hbk2 0
  have f1 := blk_free hbk2 1
  have f2 := blk_free hbk2 2
  have f3 := blk_free hbk2 3
  simp only [List.getElem_toArray, List.getElem_cons_zero, List.getElem_cons_succ] at d0 d1 d2 d3
  have hB := Lib.hid (hbn.trans (hb2.mono hbn.size))
  have k0 := blk_set hbk2 0 (.int .i64 (xp))
  have k1 := blk_set k0 1 (.int .i64 (xa))
  have k2 := blk_set k1 2 (.int .i64 (xb))
  have k3 := blk_set k2 3 (.int .i64 (xc))
  have g0 := blk_cell k0 0 (by simp)
  have g1 := blk_cell k1 1 (by simp)
  have g2 := blk_cell k2 2 (by simp)
  have g3 := blk_cell k3 3 (by simp)
  simp at g0 g1 g2 g3
  clear hbk2 hb2 k0 k1 k2 k3
  go_wp2_with fail
  exact bodyPost_ret (v := .agg #[.int .i64 (xp), .int .i64 (xa), .int .i64 (xb), .int .i64 (xc)]) (by simp [results, Tryz.results24, go_sem, g0, g1, g2, g3]) rfl ⟨rfl, by first | exact hB.out | exact (((((hB.out.setCell (Nat.le_refl _) _).setCell (Nat.le_refl _) _).setCell (Nat.le_refl _) _).setCell (Nat.le_refl _) _))⟩
end
theorem c2_Ask (a : Array Value) (w : World) : (callFunc 151 a).run Tryz.prog w = .ok (.enter 151 a) w := by kernel_rfl
theorem m2_Ask (gl : Nat) (w : World) : (method 325 102 (.pointer (some ⟨gl, 0, none⟩)) "Ask").run Tryz.prog w = .ok (151, .pointer (some ⟨gl, 0, none⟩)) w := by kernel_rfl
theorem c2_Leave (a : Array Value) (w : World) : (callFunc 152 a).run Tryz.prog w = .ok (.enter 152 a) w := by kernel_rfl
theorem m2_Leave (gl : Nat) (w : World) : (method 325 102 (.pointer (some ⟨gl, 0, none⟩)) "Leave").run Tryz.prog w = .ok (152, .pointer (some ⟨gl, 0, none⟩)) w := by kernel_rfl
theorem c2_Step (a : Array Value) (w : World) : (callFunc 155 a).run Tryz.prog w = .ok (.enter 155 a) w := by kernel_rfl
theorem m2_Step (gl : Nat) (w : World) : (method 325 102 (.pointer (some ⟨gl, 0, none⟩)) "Step").run Tryz.prog w = .ok (155, .pointer (some ⟨gl, 0, none⟩)) w := by kernel_rfl
theorem c2_Alone (a : Array Value) (w : World) : (callFunc 150 a).run Tryz.prog w = .ok (.enter 150 a) w := by kernel_rfl
theorem m2_Alone (gl : Nat) (w : World) : (method 325 102 (.pointer (some ⟨gl, 0, none⟩)) "Alone").run Tryz.prog w = .ok (150, .pointer (some ⟨gl, 0, none⟩)) w := by kernel_rfl
theorem c2_Slots (a : Array Value) (w : World) : (callFunc 153 a).run Tryz.prog w = .ok (.enter 153 a) w := by kernel_rfl
theorem m2_Slots (gl : Nat) (w : World) : (method 325 102 (.pointer (some ⟨gl, 0, none⟩)) "Slots").run Tryz.prog w = .ok (153, .pointer (some ⟨gl, 0, none⟩)) w := by kernel_rfl
theorem c2_Spot (a : Array Value) (w : World) : (callFunc 154 a).run Tryz.prog w = .ok (.enter 154 a) w := by kernel_rfl
theorem m2_Spot (gl : Nat) (w : World) : (method 325 102 (.pointer (some ⟨gl, 0, none⟩)) "Spot").run Tryz.prog w = .ok (154, .pointer (some ⟨gl, 0, none⟩)) w := by kernel_rfl
theorem c3_Ask (a : Array Value) (w : World) : (callFunc 167 a).run Tryz.prog w = .ok (.enter 167 a) w := by kernel_rfl
theorem m3_Ask (gl : Nat) (w : World) : (method 325 105 (.pointer (some ⟨gl, 0, none⟩)) "Ask").run Tryz.prog w = .ok (167, .pointer (some ⟨gl, 0, none⟩)) w := by kernel_rfl
theorem c3_Leave (a : Array Value) (w : World) : (callFunc 168 a).run Tryz.prog w = .ok (.enter 168 a) w := by kernel_rfl
theorem m3_Leave (gl : Nat) (w : World) : (method 325 105 (.pointer (some ⟨gl, 0, none⟩)) "Leave").run Tryz.prog w = .ok (168, .pointer (some ⟨gl, 0, none⟩)) w := by kernel_rfl
theorem c3_Step (a : Array Value) (w : World) : (callFunc 171 a).run Tryz.prog w = .ok (.enter 171 a) w := by kernel_rfl
theorem m3_Step (gl : Nat) (w : World) : (method 325 105 (.pointer (some ⟨gl, 0, none⟩)) "Step").run Tryz.prog w = .ok (171, .pointer (some ⟨gl, 0, none⟩)) w := by kernel_rfl
theorem c3_Alone (a : Array Value) (w : World) : (callFunc 166 a).run Tryz.prog w = .ok (.enter 166 a) w := by kernel_rfl
theorem m3_Alone (gl : Nat) (w : World) : (method 325 105 (.pointer (some ⟨gl, 0, none⟩)) "Alone").run Tryz.prog w = .ok (166, .pointer (some ⟨gl, 0, none⟩)) w := by kernel_rfl
theorem c3_Slots (a : Array Value) (w : World) : (callFunc 169 a).run Tryz.prog w = .ok (.enter 169 a) w := by kernel_rfl
theorem m3_Slots (gl : Nat) (w : World) : (method 325 105 (.pointer (some ⟨gl, 0, none⟩)) "Slots").run Tryz.prog w = .ok (169, .pointer (some ⟨gl, 0, none⟩)) w := by kernel_rfl
theorem c3_Spot (a : Array Value) (w : World) : (callFunc 170 a).run Tryz.prog w = .ok (.enter 170 a) w := by kernel_rfl
theorem m3_Spot (gl : Nat) (w : World) : (method 325 105 (.pointer (some ⟨gl, 0, none⟩)) "Spot").run Tryz.prog w = .ok (170, .pointer (some ⟨gl, 0, none⟩)) w := by kernel_rfl
theorem c4_Ask (a : Array Value) (w : World) : (callFunc 178 a).run Tryz.prog w = .ok (.enter 178 a) w := by kernel_rfl
theorem m4_Ask (gl : Nat) (w : World) : (method 325 108 (.pointer (some ⟨gl, 0, none⟩)) "Ask").run Tryz.prog w = .ok (178, .pointer (some ⟨gl, 0, none⟩)) w := by kernel_rfl
theorem c4_Leave (a : Array Value) (w : World) : (callFunc 179 a).run Tryz.prog w = .ok (.enter 179 a) w := by kernel_rfl
theorem m4_Leave (gl : Nat) (w : World) : (method 325 108 (.pointer (some ⟨gl, 0, none⟩)) "Leave").run Tryz.prog w = .ok (179, .pointer (some ⟨gl, 0, none⟩)) w := by kernel_rfl
theorem c4_Step (a : Array Value) (w : World) : (callFunc 182 a).run Tryz.prog w = .ok (.enter 182 a) w := by kernel_rfl
theorem m4_Step (gl : Nat) (w : World) : (method 325 108 (.pointer (some ⟨gl, 0, none⟩)) "Step").run Tryz.prog w = .ok (182, .pointer (some ⟨gl, 0, none⟩)) w := by kernel_rfl
theorem c4_Alone (a : Array Value) (w : World) : (callFunc 177 a).run Tryz.prog w = .ok (.enter 177 a) w := by kernel_rfl
theorem m4_Alone (gl : Nat) (w : World) : (method 325 108 (.pointer (some ⟨gl, 0, none⟩)) "Alone").run Tryz.prog w = .ok (177, .pointer (some ⟨gl, 0, none⟩)) w := by kernel_rfl
theorem c4_Slots (a : Array Value) (w : World) : (callFunc 180 a).run Tryz.prog w = .ok (.enter 180 a) w := by kernel_rfl
theorem m4_Slots (gl : Nat) (w : World) : (method 325 108 (.pointer (some ⟨gl, 0, none⟩)) "Slots").run Tryz.prog w = .ok (180, .pointer (some ⟨gl, 0, none⟩)) w := by kernel_rfl
theorem c4_Spot (a : Array Value) (w : World) : (callFunc 181 a).run Tryz.prog w = .ok (.enter 181 a) w := by kernel_rfl
theorem m4_Spot (gl : Nat) (w : World) : (method 325 108 (.pointer (some ⟨gl, 0, none⟩)) "Spot").run Tryz.prog w = .ok (181, .pointer (some ⟨gl, 0, none⟩)) w := by kernel_rfl
theorem c5_Ask (a : Array Value) (w : World) : (callFunc 194 a).run Tryz.prog w = .ok (.enter 194 a) w := by kernel_rfl
theorem m5_Ask (gl : Nat) (w : World) : (method 325 111 (.pointer (some ⟨gl, 0, none⟩)) "Ask").run Tryz.prog w = .ok (194, .pointer (some ⟨gl, 0, none⟩)) w := by kernel_rfl
theorem c5_Leave (a : Array Value) (w : World) : (callFunc 195 a).run Tryz.prog w = .ok (.enter 195 a) w := by kernel_rfl
theorem m5_Leave (gl : Nat) (w : World) : (method 325 111 (.pointer (some ⟨gl, 0, none⟩)) "Leave").run Tryz.prog w = .ok (195, .pointer (some ⟨gl, 0, none⟩)) w := by kernel_rfl
theorem c5_Step (a : Array Value) (w : World) : (callFunc 198 a).run Tryz.prog w = .ok (.enter 198 a) w := by kernel_rfl
theorem m5_Step (gl : Nat) (w : World) : (method 325 111 (.pointer (some ⟨gl, 0, none⟩)) "Step").run Tryz.prog w = .ok (198, .pointer (some ⟨gl, 0, none⟩)) w := by kernel_rfl
theorem c5_Alone (a : Array Value) (w : World) : (callFunc 193 a).run Tryz.prog w = .ok (.enter 193 a) w := by kernel_rfl
theorem m5_Alone (gl : Nat) (w : World) : (method 325 111 (.pointer (some ⟨gl, 0, none⟩)) "Alone").run Tryz.prog w = .ok (193, .pointer (some ⟨gl, 0, none⟩)) w := by kernel_rfl
theorem c5_Slots (a : Array Value) (w : World) : (callFunc 196 a).run Tryz.prog w = .ok (.enter 196 a) w := by kernel_rfl
theorem m5_Slots (gl : Nat) (w : World) : (method 325 111 (.pointer (some ⟨gl, 0, none⟩)) "Slots").run Tryz.prog w = .ok (196, .pointer (some ⟨gl, 0, none⟩)) w := by kernel_rfl
theorem c5_Spot (a : Array Value) (w : World) : (callFunc 197 a).run Tryz.prog w = .ok (.enter 197 a) w := by kernel_rfl
theorem m5_Spot (gl : Nat) (w : World) : (method 325 111 (.pointer (some ⟨gl, 0, none⟩)) "Spot").run Tryz.prog w = .ok (197, .pointer (some ⟨gl, 0, none⟩)) w := by kernel_rfl
theorem c1_Ask (a : Array Value) (w : World) : (callFunc 140 a).run Tryz.prog w = .ok (.enter 140 a) w := by kernel_rfl
theorem m1_Ask (gl : Nat) (w : World) : (method 325 101 (.agg #[.pointer (some ⟨gl, 0, none⟩)]) "Ask").run Tryz.prog w = .ok (140, .pointer (some ⟨gl, 0, none⟩)) w := by kernel_rfl
theorem c1_Leave (a : Array Value) (w : World) : (callFunc 141 a).run Tryz.prog w = .ok (.enter 141 a) w := by kernel_rfl
theorem m1_Leave (gl : Nat) (w : World) : (method 325 101 (.agg #[.pointer (some ⟨gl, 0, none⟩)]) "Leave").run Tryz.prog w = .ok (141, .pointer (some ⟨gl, 0, none⟩)) w := by kernel_rfl
theorem c1_Step (a : Array Value) (w : World) : (callFunc 144 a).run Tryz.prog w = .ok (.enter 144 a) w := by kernel_rfl
theorem m1_Step (gl : Nat) (w : World) : (method 325 101 (.agg #[.pointer (some ⟨gl, 0, none⟩)]) "Step").run Tryz.prog w = .ok (144, .pointer (some ⟨gl, 0, none⟩)) w := by kernel_rfl
theorem c1_Slots (a : Array Value) (w : World) : (callFunc 142 a).run Tryz.prog w = .ok (.enter 142 a) w := by kernel_rfl
theorem m1_Slots (gl : Nat) (w : World) : (method 325 101 (.agg #[.pointer (some ⟨gl, 0, none⟩)]) "Slots").run Tryz.prog w = .ok (142, .pointer (some ⟨gl, 0, none⟩)) w := by kernel_rfl
theorem c1_Spot (a : Array Value) (w : World) : (callFunc 143 a).run Tryz.prog w = .ok (.enter 143 a) w := by kernel_rfl
theorem m1_Spot (gl : Nat) (w : World) : (method 325 101 (.agg #[.pointer (some ⟨gl, 0, none⟩)]) "Spot").run Tryz.prog w = .ok (143, .pointer (some ⟨gl, 0, none⟩)) w := by kernel_rfl
theorem c1_Alone (a : Array Value) (w : World) : (callFunc 149 a).run Tryz.prog w = .ok (.enter 149 a) w := by kernel_rfl
theorem m1_Alone (gl : Nat) (w : World) : (method 325 101 (.agg #[.pointer (some ⟨gl, 0, none⟩)]) "Alone").run Tryz.prog w = .ok (149, .agg #[.pointer (some ⟨gl, 0, none⟩)]) w := by kernel_rfl
end Go.Proofs.YthffhhgaeolpgaaGreat.Fl

