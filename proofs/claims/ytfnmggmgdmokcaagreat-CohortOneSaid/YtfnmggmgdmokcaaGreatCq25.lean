/- Merged texts: Lw, Co15, Rd. -/
import Derived.Test.YtfnmggmgdmokcaaGreatCq24
set_option linter.unusedVariables false
/- What is left tO do in a lock of any kind: no step makes it more, and there is always a slot whose step makes it less: the plain law. -/
namespace Go.Proofs.YtfnmggmgdmokcaaGreat.Fl
open Go.RowKit Go.Proofs.YtfnmggmgdmokcaaGreat.Ara Go.Proofs.YtfnmggmgdmokcaaGreat.Lok

def wq (pc : Int) : Nat := if pc ≤ 0 then 0 else if pc < 10 then (11 - pc).toNat else (15 - pc).toNat
def wpc (p : PK) (pc : Int) : Nat :=
  match p with
  | .tas P => if pc = 1 ∨ pc = 2 then P.most.toNat + 3 else if pc = 10 then P.most.toNat + 2 else if pc = 11 then P.most.toNat + 1 else 0
  | _ => wq pc
def hldT (sp : List Sp) : Bool := (List.range sp.length).any fun k => decide ((spOf sp (k : Int)).pc = 10) || decide ((spOf sp (k : Int)).pc = 11)
def comB (sp : List Sp) (k : Nat) : Bool := decide (0 < (spOf sp (k : Int)).pc) && decide ((spOf sp (k : Int)).pc < 10)
def fstT (sp : List Sp) : Option Nat := (List.range sp.length).find? (comB sp)
def stB (s : Sp) : Nat := if s.pc = 2 then s.b.toNat else 0
def exT (sp : List Sp) : Nat := if hldT sp then 0 else match fstT sp with | none => 0 | some k => stB (spOf sp (k : Int))
def exK (p : PK) (sp : List Sp) : Nat := match p with | .tas _ => exT sp | _ => 0
def wK (p : PK) (sp : List Sp) : Nat := wts (wpc p) sp + exK p sp
def rdT (sp : List Sp) (i : Int) : Prop := Ta.holds (spOf sp i) ∨ ((∀ j, ¬ Ta.holds (spOf sp j)) ∧ ∃ k : Nat, i = k ∧ fstT sp = some k)
def rdQ (p : PK) (sp : List Sp) (q : List Int) (i : Int) : Prop :=
  (spOf sp i).pc ≠ 0 ∧ (dr p < (spOf sp i).pc → (spOf sp i).pc < 10 → q.head? = some i ∨ (dr p = 3 ∧ (spOf sp i).pc = 4)) ∧ ((spOf sp i).pc = 13 → ¬ ∃ j t, q = i :: j :: t ∧ (spOf sp j).pc = 4)
def rdK (p : PK) (σ : Ar) (sp : List Sp) (i : Int) : Prop :=
  match p with
  | .tas _ => rdT sp i
  | p => ∃ q, QuK p σ sp q ∧ rdQ p sp q i
def limT (P : Ta.Par) (sp : List Sp) : Prop := ∀ i, ((spOf sp i).pc = 1 ∨ (spOf sp i).pc = 2 → (spOf sp i).a ≤ P.most) ∧ ((spOf sp i).pc = 2 → (spOf sp i).b ≤ P.most)
def limK (p : PK) (sp : List Sp) : Prop := match p with | .tas P => P.most ≤ 4 ∧ 1 ≤ P.most ∧ limT P sp | _ => True

theorem hld_iff {sp : List Sp} : hldT sp = true ↔ ∃ i, Ta.holds (spOf sp i) := by
  unfold hldT
  rw [List.any_eq_true]
  constructor
  · rintro ⟨k, hk, h⟩
    simp only [Bool.or_eq_true, decide_eq_true_eq] at h
    exact ⟨k, h⟩
  · rintro ⟨i, h⟩
    obtain ⟨i0, i1⟩ := Ta.holds_range h
    obtain ⟨k, rfl⟩ := Int.eq_ofNat_of_zero_le i0
    refine ⟨k, List.mem_range.2 (by omega), ?_⟩
    simp only [Bool.or_eq_true, decide_eq_true_eq]
    exact h
theorem hld_no {sp : List Sp} : hldT sp = false ↔ ∀ i, ¬ Ta.holds (spOf sp i) := by
  rw [← Bool.not_eq_true, hld_iff]
  exact ⟨fun h i hi => h ⟨i, hi⟩, fun h ⟨i, hi⟩ => h i hi⟩
theorem fst_iff {sp : List Sp} {k : Nat} : fstT sp = some k ↔ k < sp.length ∧ comB sp k = true ∧ ∀ j, j < k → comB sp j = false := by
  unfold fstT
  rw [List.find?_range_eq_some]
  simp only [List.mem_range, Bool.not_eq_true']
  exact ⟨fun ⟨a, b, c⟩ => ⟨b, a, c⟩, fun ⟨a, b, c⟩ => ⟨b, a, c⟩⟩
theorem fst_none {sp : List Sp} : fstT sp = none ↔ ∀ k, k < sp.length → comB sp k = false := by
  unfold fstT
  rw [List.find?_eq_none]
  simp only [List.mem_range, Bool.not_eq_true]
theorem fst_congr {sp sp' : List Sp} (hl : sp'.length = sp.length) (h : ∀ k, comB sp' k = comB sp k) : fstT sp' = fstT sp := by
  cases e : fstT sp with
  | none => rw [fst_none] at e ⊢; intro k hk; rw [h]; exact e k (by omega)
  | some k => rw [fst_iff] at e ⊢; exact ⟨by omega, by rw [h]; exact e.2.1, fun j hj => by rw [h]; exact e.2.2 j hj⟩
theorem ex_held {sp : List Sp} {i : Int} (h : Ta.holds (spOf sp i)) : exT sp = 0 := by unfold exT; rw [if_pos (hld_iff.2 ⟨i, h⟩)]
theorem ex_free {sp : List Sp} (h : ∀ i, ¬ Ta.holds (spOf sp i)) : exT sp = match fstT sp with | none => 0 | some k => stB (spOf sp (k : Int)) := by
  unfold exT
  rw [if_neg (by rw [hld_no.2 h]; decide)]
theorem ex_le {P : Ta.Par} {sp : List Sp} (h : limT P sp) : exT sp ≤ P.most.toNat := by
  unfold exT
  split
  · omega
  · split
    · omega
    · rename_i k _
      unfold stB
      split
      · rename_i h2
        have := (h k).2 h2
        omega
      · omega
theorem com_iff {sp : List Sp} {k : Nat} : comB sp k = true ↔ 0 < (spOf sp (k : Int)).pc ∧ (spOf sp (k : Int)).pc < 10 := by
  unfold comB
  rw [Bool.and_eq_true, decide_eq_true_eq, decide_eq_true_eq]
theorem com_same {sp sp' : List Sp} {k : Nat} (h : (0 < (spOf sp (k : Int)).pc ∧ (spOf sp (k : Int)).pc < 10) ↔ (0 < (spOf sp' (k : Int)).pc ∧ (spOf sp' (k : Int)).pc < 10)) : comB sp' k = comB sp k := by
  cases e : comB sp k with
  | true => rw [com_iff] at e ⊢; exact h.1 e
  | false =>
    rw [← Bool.not_eq_true, com_iff] at e ⊢
    exact fun h2 => e (h.2 h2)
theorem wts_at (w : Int → Nat) {sp : List Sp} {i : Int} (i0 : 0 ≤ i) (i1 : i < sp.length) {sp' : List Sp} (hl : sp'.length = sp.length) (ho : ∀ j, j ≠ i → spOf sp' j = spOf sp j) : wts w sp' + w (spOf sp i).pc = wts w sp + w (spOf sp' i).pc := by
  have : sp' = sp.set i.toNat (spOf sp' i) := by
    obtain ⟨k, rfl⟩ := Int.eq_ofNat_of_zero_le i0
    rw [Int.toNat_natCast]
    refine List.ext_getElem (by simp [hl]) fun j h1 h2 => ?_
    rw [List.getElem_set]
    split
    · rename_i e
      subst e
      rw [spOf_in (by omega)]
    · rename_i e
      have := ho j (by omega)
      rw [spOf_in (by omega), spOf_in (by omega)] at this
      exact this
  have h := wts_spOf w sp i i0 i1 (spOf sp' i)
  rw [← this] at h
  exact h
theorem step_len (p : PK) (σ : Ar) (sp : List Sp) (kd i : Int) : (doK p σ sp kd i).2.2.length = sp.length := do_len p σ sp kd i
theorem tlim {P : Ta.Par} {σ : Ar} {sp : List Sp} (m1 : 1 ≤ P.most) (h : limT P sp) (kd i : Int) : limT P (doK (.tas P) σ sp kd i).2.2 := by
  have key : ∀ s' : Sp, ((s'.pc = 1 ∨ s'.pc = 2 → s'.a ≤ P.most) ∧ (s'.pc = 2 → s'.b ≤ P.most)) → 0 ≤ i → i < sp.length → limT P (sp.set i.toNat s') := by
    intro s' hs i0 i1 j
    rw [spOf_set i0 i1]
    split
    · exact hs
    · exact h j
  show limT P (Ta.doP P σ sp kd i).2.2
  unfold Ta.doP
  split
  · unfold Ta.stepP
    have hi := h i
    split
    · rename_i e
      obtain ⟨i0, i1⟩ := spOf_range (sp := sp) (i := i) (by omega)
      refine key _ ?_ i0 i1
      split
      · exact ⟨fun h => by simp at h, fun h => by simp at h⟩
      · exact ⟨fun _ => Int.min_le_right _ _, fun _ => hi.1 (.inl e)⟩
    · split
      · rename_i e
        obtain ⟨i0, i1⟩ := spOf_range (sp := sp) (i := i) (by omega)
        refine key _ ⟨fun _ => hi.1 (.inr e), fun _ => ?_⟩ i0 i1
        have := hi.2 e
        show (spOf sp i).b - 1 ≤ P.most
        omega
      · split
        · rename_i e
          obtain ⟨i0, i1⟩ := spOf_range (sp := sp) (i := i) (by omega)
          exact key _ ⟨fun h => by simp at h, fun h => by simp at h⟩ i0 i1
        · exact h
  · split
    · show limT P (Ta.askS sp i)
      unfold Ta.askS
      split
      · rename_i hb
        obtain ⟨⟨i0, i1⟩, _⟩ := turn_true hb
        exact key _ ⟨fun _ => m1, fun h => by simp at h⟩ i0 i1
      · exact h
    · split
      · show limT P (turnS sp i 10 11)
        intro j
        rw [spOf_turnS]
        split
        · exact ⟨fun h => by simp at h, fun h => by simp at h⟩
        · exact h j
      · split <;> exact h
theorem lim_act {p : PK} {σ : Ar} {sp : List Sp} (h : limK p sp) (kd i : Int) : limK p (doK p σ sp kd i).2.2 := by
  cases p with
  | tas P => exact ⟨h.1, h.2.1, tlim h.2.1 h.2.2 kd i⟩
  | _ => trivial

def cost (p : PK) (sp : List Sp) (i : Int) : Nat := wpc p (spOf sp i).pc + exK p sp
theorem wt_eq (P : Ta.Par) (pc : Int) : wpc (.tas P) pc = if pc = 1 ∨ pc = 2 then P.most.toNat + 3 else if pc = 10 then P.most.toNat + 2 else if pc = 11 then P.most.toNat + 1 else 0 := rfl
theorem wt1 (P : Ta.Par) : wpc (.tas P) 1 = P.most.toNat + 3 := by rw [wt_eq, if_pos (.inl rfl)]
theorem wt2 (P : Ta.Par) : wpc (.tas P) 2 = P.most.toNat + 3 := by rw [wt_eq, if_pos (.inr rfl)]
theorem wt10 (P : Ta.Par) : wpc (.tas P) 10 = P.most.toNat + 2 := by rw [wt_eq, if_neg (by decide), if_pos rfl]
theorem wt11 (P : Ta.Par) : wpc (.tas P) 11 = P.most.toNat + 1 := by rw [wt_eq, if_neg (by decide), if_neg (by decide), if_pos rfl]
theorem wt0 (P : Ta.Par) : wpc (.tas P) 0 = 0 := by rw [wt_eq, if_neg (by decide), if_neg (by decide), if_neg (by decide)]
theorem wpc_le {p : PK} {sp : List Sp} (h : limK p sp) (pc : Int) : wpc p pc ≤ 10 := by
  cases p with
  | tas P =>
    have h1 : P.most ≤ 4 := h.1
    show (if pc = 1 ∨ pc = 2 then P.most.toNat + 3 else if pc = 10 then P.most.toNat + 2 else if pc = 11 then P.most.toNat + 1 else 0) ≤ 10
    repeat' split
    all_goals omega
  | _ =>
    show wq pc ≤ 10
    unfold wq
    repeat' split
    all_goals omega
theorem exK_le {p : PK} {sp : List Sp} (h : limK p sp) : exK p sp ≤ 4 := by
  cases p with
  | tas P =>
    have h1 : P.most ≤ 4 := h.1
    have := ex_le h.2.2
    show exT sp ≤ 4
    omega
  | _ => exact Nat.zero_le _
section
variable {P : Ta.Par} {σ : Ar} {sp : List Sp} (h : Ta.Inv P σ sp) (hL : limT P sp)
include h
theorem tas_try (hf : ∀ j, ¬ Ta.holds (spOf sp j)) : Ta.tryB P σ = true := by
  unfold Ta.tryB
  rw [h.hw, h.free hf]
  rfl
theorem tas_fail {j : Int} (hj : Ta.holds (spOf sp j)) : Ta.tryB P σ = false := by
  unfold Ta.tryB
  have := Ta.holds_range hj
  have h2 := h.hold j hj
  rw [h2, Bool.and_eq_false_iff]
  right
  simp
  omega
include hL
theorem tas_step (i : Int) : cost (.tas P) (doK (.tas P) σ sp 0 i).2.2 i ≤ cost (.tas P) sp i ∧ (rdT sp i → (spOf sp i).pc ≠ 10 → cost (.tas P) (doK (.tas P) σ sp 0 i).2.2 i < cost (.tas P) sp i) ∧
    (∀ s, s ≠ i → rdT sp s → cost (.tas P) (doK (.tas P) σ sp 0 i).2.2 i < cost (.tas P) sp i ∨ rdT (doK (.tas P) σ sp 0 i).2.2 s) := by
  have hL' := tlim (σ := σ) h.m1 hL 0 i
  have ho := fun j (hj : j ≠ i) => do_other (.tas P) σ sp 0 i j hj
  have hlen := do_len (.tas P) σ sp 0 i
  by_cases h0 : (spOf sp i).pc = 0 ∨ (spOf sp i).pc = 10
  · rw [do_rest (.tas P) σ sp i h0]
    refine ⟨Nat.le_refl _, fun hr hn => ?_, fun s _ hs => .inr hs⟩
    exfalso
    rcases hr with hr | ⟨_, k, rfl, hk⟩
    · unfold Ta.holds at hr; omega
    · have := com_iff.1 (fst_iff.1 hk).2.1
      omega
  have e2 : ∀ sp, exK (.tas P) sp = exT sp := fun _ => rfl
  obtain ⟨i0, i1⟩ := spOf_range (sp := sp) (i := i) (by omega)
  have hd : (doK (.tas P) σ sp 0 i).2.2 = (Ta.stepP P σ sp i).2.2 := rfl
  rw [hd] at hL' ho hlen ⊢
  have hp := h.pcs i
  unfold cost
  rw [e2, e2]
  rcases (show (spOf sp i).pc = 1 ∨ (spOf sp i).pc = 2 ∨ (spOf sp i).pc = 11 by unfold Ta.holds at hp; omega) with e | e | e
  · by_cases hh : ∃ j, Ta.holds (spOf sp j)
    · obtain ⟨j, hj⟩ := hh
      have hji : j ≠ i := fun e9 => by rw [e9] at hj; unfold Ta.holds at hj; omega
      have hs : spOf (Ta.stepP P σ sp i).2.2 i = ⟨2, min (2 * (spOf sp i).a) P.most, (spOf sp i).a, (spOf sp i).c⟩ := by
        unfold Ta.stepP
        rw [if_pos e, tas_fail h hj]
        show spOf (sp.set i.toNat _) i = _
        rw [spOf_set i0 i1, if_pos rfl]
        rfl
      have hj' : Ta.holds (spOf (Ta.stepP P σ sp i).2.2 j) := by rw [ho j hji]; exact hj
      rw [ex_held hj, ex_held hj', hs, e, wt2, wt1]
      refine ⟨Nat.le_refl _, fun hr _ => ?_, fun s hs hr => .inr ?_⟩
      · exfalso
        rcases hr with hr | ⟨hr, _⟩
        · unfold Ta.holds at hr; omega
        · exact hr j hj
      · rcases hr with hr | ⟨hr, _⟩
        · exact .inl (by rw [ho s hs]; exact hr)
        · exact absurd hj (hr j)
    · have hf : ∀ j, ¬ Ta.holds (spOf sp j) := fun j hj => hh ⟨j, hj⟩
      have hs : (spOf (Ta.stepP P σ sp i).2.2 i).pc = 10 := by
        unfold Ta.stepP
        rw [if_pos e, tas_try h hf]
        show (spOf (sp.set i.toNat _) i).pc = _
        rw [spOf_set i0 i1, if_pos rfl]
        rfl
      rw [ex_held (i := i) (.inl hs), hs, e, wt10, wt1]
      refine ⟨by omega, fun _ _ => by omega, fun _ _ _ => .inl (by omega)⟩
  · have hb := h.w2 i e
    have hs : spOf (Ta.stepP P σ sp i).2.2 i = ⟨if (spOf sp i).b - 1 = 0 then 1 else 2, (spOf sp i).a, (spOf sp i).b - 1, (spOf sp i).c⟩ := by
      unfold Ta.stepP
      rw [if_neg (by omega), if_pos e]
      show spOf (sp.set i.toNat _) i = _
      rw [spOf_set i0 i1, if_pos rfl]
    have hx : (spOf (Ta.stepP P σ sp i).2.2 i).pc = 1 ∨ (spOf (Ta.stepP P σ sp i).2.2 i).pc = 2 := by
      rw [hs]
      show (if (spOf sp i).b - 1 = 0 then (1 : Int) else 2) = 1 ∨ (if (spOf sp i).b - 1 = 0 then (1 : Int) else 2) = 2
      split <;> simp
    rw [wt_eq, wt_eq, if_pos hx, if_pos (.inr e)]
    by_cases hh : ∃ j, Ta.holds (spOf sp j)
    · obtain ⟨j, hj⟩ := hh
      have hji : j ≠ i := fun e9 => by rw [e9] at hj; unfold Ta.holds at hj; omega
      have hj' : Ta.holds (spOf (Ta.stepP P σ sp i).2.2 j) := by rw [ho j hji]; exact hj
      rw [ex_held hj, ex_held hj']
      refine ⟨Nat.le_refl _, fun hr _ => ?_, fun s hs hr => .inr ?_⟩
      · exfalso
        rcases hr with hr | ⟨hr, _⟩
        · unfold Ta.holds at hr; omega
        · exact hr j hj
      · rcases hr with hr | ⟨hr, _⟩
        · exact .inl (by rw [ho s hs]; exact hr)
        · exact absurd hj (hr j)
    · have hf : ∀ j, ¬ Ta.holds (spOf sp j) := fun j hj => hh ⟨j, hj⟩
      have hf' : ∀ j, ¬ Ta.holds (spOf (Ta.stepP P σ sp i).2.2 j) := fun j hj => by
        by_cases ej : j = i
        · rw [ej] at hj; unfold Ta.holds at hj; omega
        · rw [ho j ej] at hj; exact hf j hj
      have hfst : fstT (Ta.stepP P σ sp i).2.2 = fstT sp := fst_congr hlen fun k => com_same (by
        by_cases ek : (k : Int) = i
        · rw [ek]; omega
        · rw [ho k ek])
      rw [ex_free hf, ex_free hf', hfst]
      cases hk : fstT sp with
      | none =>
        have := fst_none.1 hk i.toNat (by omega)
        rw [← Bool.not_eq_true, com_iff] at this
        rw [Int.toNat_of_nonneg i0] at this
        omega
      | some k =>
        by_cases ek : (k : Int) = i
        · have hlt : stB (spOf (Ta.stepP P σ sp i).2.2 (k : Int)) < stB (spOf sp (k : Int)) := by
            rw [ek, hs]
            unfold stB
            rw [if_pos e]
            show (if (if (spOf sp i).b - 1 = 0 then (1 : Int) else 2) = 2 then ((spOf sp i).b - 1).toNat else 0) < _
            by_cases z : (spOf sp i).b - 1 = 0
            · rw [if_pos z, if_neg (by decide)]; omega
            · rw [if_neg z, if_pos rfl]; omega
          exact ⟨by show _ + stB _ ≤ _ + stB _; omega, fun _ _ => by show _ + stB _ < _ + stB _; omega, fun s hs hr => .inl (by show _ + stB _ < _ + stB _; omega)⟩
        · have heq : stB (spOf (Ta.stepP P σ sp i).2.2 (k : Int)) = stB (spOf sp (k : Int)) := by rw [ho _ ek]
          refine ⟨by show _ + stB _ ≤ _ + stB _; omega, fun hr _ => ?_, fun s hs hr => .inr ?_⟩
          · exfalso
            rcases hr with hr | ⟨_, k', e9, hk'⟩
            · unfold Ta.holds at hr; omega
            · rw [hk] at hk'
              injection hk' with hk'
              omega
          · rcases hr with hr | ⟨_, k', e9, hk'⟩
            · exact absurd hr (hf s)
            · exact .inr ⟨hf', k', e9, by rw [hfst]; exact hk'⟩
  · have hs : (spOf (Ta.stepP P σ sp i).2.2 i).pc = 0 := by
      unfold Ta.stepP
      rw [if_neg (by omega), if_neg (by omega), if_pos e]
      show (spOf (sp.set i.toNat _) i).pc = _
      rw [spOf_set i0 i1, if_pos rfl]
    have hx := ex_le hL'
    rw [hs, e, wt0, wt11]
    have hm := h.m1
    refine ⟨by omega, fun _ _ => by omega, fun _ _ _ => .inl (by omega)⟩
end
section
variable {p : PK} {σ : Ar} {sp : List Sp} {q : List Int} (h : QuK p σ sp q)
include h
theorem QuK.pcb (i : Int) : 0 ≤ (spOf sp i).pc ∧ ((spOf sp i).pc < 6 ∨ 10 ≤ (spOf sp i).pc) ∧ (spOf sp i).pc < 15 ∧ ((spOf sp i).pc = 4 ∨ (spOf sp i).pc = 13 → dr p = 3) ∧ (dr p = 1 ∨ dr p = 2 ∨ dr p = 3) := by
  cases p with
  | tas P => exact absurd h id
  | tic P => have h : Tkq P σ sp q := h; have := h.pcs i; exact ⟨by omega, by omega, by omega, fun h2 => by omega, .inl rfl⟩
  | par P => have h : Ptq P σ sp q := h; have := h.pcs i; exact ⟨by omega, by omega, by omega, fun h2 => by omega, .inl rfl⟩
  | mcs P => have h : Mc.Inv P σ sp q := h; have := mcpcs h i; exact ⟨by omega, by omega, by omega, fun _ => rfl, .inr (.inr rfl)⟩
  | clh P => obtain ⟨z, h⟩ := h; have := clpcs h i; exact ⟨by omega, by omega, by omega, fun h2 => by omega, .inr (.inl rfl)⟩
theorem QuK.costs (sp' : List Sp) (i : Int) : cost p sp' i = wq (spOf sp' i).pc := by
  cases p with
  | tas P => exact absurd h id
  | _ => rfl
theorem QuK.wstep (i : Int) : (wq (spOf (doK p σ sp 0 i).2.2 i).pc < wq (spOf sp i).pc ∨ ((spOf (doK p σ sp 0 i).2.2 i).pc = (spOf sp i).pc ∧ QuK p (doK p σ sp 0 i).2.1 (doK p σ sp 0 i).2.2 q)) ∧
    (rdQ p sp q i → (spOf sp i).pc ≠ 10 → wq (spOf (doK p σ sp 0 i).2.2 i).pc < wq (spOf sp i).pc) := by
  have n := h.next i
  have b := h.pcb i
  have t := h.step i
  unfold QTurn at t
  have b' : 0 ≤ (spOf (doK p σ sp 0 i).2.2 i).pc ∧ ((spOf (doK p σ sp 0 i).2.2 i).pc < 6 ∨ 10 ≤ (spOf (doK p σ sp 0 i).2.2 i).pc) ∧ (spOf (doK p σ sp 0 i).2.2 i).pc < 15 := by
    rcases t with ⟨_, hq⟩ | ⟨_, _, t1, _, hq⟩ | ⟨_, _, hq⟩ <;> exact ⟨(hq.pcb i).1, (hq.pcb i).2.1, (hq.pcb i).2.2.1⟩
  unfold Nxt at n
  unfold rdQ
  obtain ⟨n0, n1, n2, n3, n4, n5⟩ := n
  obtain ⟨b0, b1, b2, b3, b4⟩ := b
  have hw : ∀ a c : Int, 0 ≤ a → (a < 6 ∨ 10 ≤ a) → a < 15 → 0 ≤ c → (c < 6 ∨ 10 ≤ c) → c < 15 → ((0 < a ∧ a < c ∧ (c < 10 ∨ 10 ≤ a)) ∨ (0 < a ∧ a < 10 ∧ c = 10) ∨ (0 < a ∧ c = 0)) → wq c < wq a := by
    intro a c a0 a1 a2 c0 c1 c2 h
    unfold wq
    repeat' split
    all_goals omega
  have hlt := hw (spOf sp i).pc (spOf (doK p σ sp 0 i).2.2 i).pc b0 b1 b2 b'.1 b'.2.1 b'.2.2
  clear hw
  have hq3 : (spOf sp i).pc = (spOf (doK p σ sp 0 i).2.2 i).pc → QuK p (doK p σ sp 0 i).2.1 (doK p σ sp 0 i).2.2 q := by
    intro e
    rcases t with ⟨⟨a0, a1⟩, hq⟩ | ⟨a0, a1, t1, _, hq⟩ | ⟨_, _, hq⟩
    · rcases n3 a0 a1 with ⟨_, n3, _⟩ | n3 <;> omega
    · rcases n5 a0 with n5 | n5
      · omega
      · rw [a1] at n5; exact absurd n5.1 (by decide)
    · exact hq
  clear t
  generalize (spOf (doK p σ sp 0 i).2.2 i).pc = c at *
  generalize (doK p σ sp 0 i).1 = b9 at *
  by_cases z : (spOf sp i).pc = 0
  · refine ⟨.inr ⟨(n0 z).1.trans z.symm, hq3 (by rw [(n0 z).1, z])⟩, fun hr => absurd z hr.1⟩
  by_cases z1 : (spOf sp i).pc = 10
  · exact ⟨.inr ⟨(n1 z1).1.trans z1.symm, hq3 (by rw [(n1 z1).1, z1])⟩, fun _ hn => absurd z1 hn⟩
  by_cases z2 : (spOf sp i).pc < dr p
  · have := (n2 (by omega) z2).1
    have hl := hlt (by omega)
    exact ⟨.inl hl, fun _ _ => hl⟩
  by_cases z3 : (spOf sp i).pc = dr p
  · have hl := hlt (by rcases n3 (by omega) z3 with ⟨_, n3, _⟩ | n3 <;> omega)
    exact ⟨.inl hl, fun _ _ => hl⟩
  by_cases z4 : (spOf sp i).pc < 10
  · obtain ⟨n6, n7⟩ := n4 (by omega) z4
    by_cases hf : q.head? = some i
    · have := (n6 hf).1
      have hl := hlt (by omega)
      exact ⟨.inl hl, fun _ _ => hl⟩
    · obtain ⟨_, n8 | n8⟩ := n7 hf
      · refine ⟨.inr ⟨n8.1, hq3 n8.1.symm⟩, fun hr _ => ?_⟩
        rcases hr.2.1 (by omega) z4 with h1 | h1
        · exact absurd h1 hf
        · exact absurd h1 n8.2
      · have hl := hlt (by omega)
        exact ⟨.inl hl, fun _ _ => hl⟩
  · rcases n5 (by omega) with n6 | ⟨_, n6, n7, n8⟩
    · have hl := hlt (by omega)
      exact ⟨.inl hl, fun _ _ => hl⟩
    · rcases n8 with n8 | n8 | n8 | n8 | ⟨n8, n9, n10⟩
      · have hl := hlt (by omega)
        exact ⟨.inl hl, fun _ _ => hl⟩
      · have hl := hlt (by omega)
        exact ⟨.inl hl, fun _ _ => hl⟩
      · have hl := hlt (by omega)
        exact ⟨.inl hl, fun _ _ => hl⟩
      · have hl := hlt (by omega)
        exact ⟨.inl hl, fun _ _ => hl⟩
      · exact ⟨.inr ⟨by omega, hq3 (by omega)⟩, fun hr _ => absurd n10 (hr.2.2 n8)⟩
theorem QuK.ex_rd {s : Int} (hs : (spOf sp s).pc ≠ 0) : ∃ i, (spOf sp i).pc ≠ 0 ∧ rdQ p sp q i := by
  have hm := h.mem
  have hb := h.pcb
  cases q with
  | nil =>
    have : ¬ dr p < (spOf sp s).pc := fun h2 => by have := (hm s).2 h2; simp at this
    have b := hb s
    exact ⟨s, hs, hs, fun h1 => absurd h1 this, fun h1 => by omega⟩
  | cons i t =>
    have hi := (hm i).1 (by simp)
    have bi := hb i
    by_cases hw : (spOf sp i).pc = 13 ∧ ∃ j t', i :: t = i :: j :: t' ∧ (spOf sp j).pc = 4
    · obtain ⟨h13, j, t', e, hj⟩ := hw
      exact ⟨j, by omega, by omega, fun _ _ => .inr ⟨(hb j).2.2.2.1 (.inl hj), hj⟩, fun h1 => by omega⟩
    · exact ⟨i, by omega, by omega, fun _ _ => .inl rfl, fun h1 h2 => hw ⟨h1, h2⟩⟩
end
theorem OkK.queue {p : PK} {σ : Ar} {sp : List Sp} {n m : Nat} (h : OkK p σ sp n m) : (∃ P, p = .tas P) ∨ ∃ q, QuK p σ sp q := by
  cases p with
  | tas P => exact .inl ⟨P, rfl⟩
  | tic P =>
    right
    obtain ⟨S, T, hi, _⟩ := Tk.OkP.inv h
    have hle := hi.le
    have hc : ∀ k : Nat, ∃ i, k < T - S → Tk.inq (spOf sp i) ∧ (spOf sp i).a = (S : Int) + k := fun k => by
      by_cases hk : k < T - S
      · obtain ⟨i, h1, h2⟩ := hi.all ((S : Int) + k) (by omega) (by omega)
        exact ⟨i, fun _ => ⟨h1, h2⟩⟩
      · exact ⟨0, fun h => absurd h hk⟩
    refine ⟨(List.range (T - S)).map fun k => (hc k).choose, S, T, hi, by simp; omega, fun k hk => ?_⟩
    rw [List.getElem_map, List.getElem_range]
    exact (hc k).choose_spec (by simpa using hk)
  | par P =>
    right
    obtain ⟨S, T, hi, _⟩ := Pt.OkP.inv h
    have hle := hi.le
    have hc : ∀ k : Nat, ∃ i, k < T - S → Pt.inq (spOf sp i) ∧ (spOf sp i).a = (S : Int) + k := fun k => by
      by_cases hk : k < T - S
      · obtain ⟨i, h1, h2⟩ := hi.all ((S : Int) + k) (by omega) (by omega)
        exact ⟨i, fun _ => ⟨h1, h2⟩⟩
      · exact ⟨0, fun h => absurd h hk⟩
    refine ⟨(List.range (T - S)).map fun k => (hc k).choose, S, T, hi, by simp; omega, fun k hk => ?_⟩
    rw [List.getElem_map, List.getElem_range]
    exact (hc k).choose_spec (by simpa using hk)
  | mcs P => obtain ⟨q, hi⟩ := Mc.OkP.inv h; exact .inr ⟨q, hi⟩
  | clh P => obtain ⟨z, q, hi⟩ := Cl.OkP.inv h; exact .inr ⟨q, z, hi⟩
theorem rdK_q {p : PK} {σ : Ar} {sp : List Sp} {q : List Int} (h : QuK p σ sp q) (i : Int) : rdK p σ sp i ↔ ∃ q, QuK p σ sp q ∧ rdQ p sp q i := by
  cases p with
  | tas P => exact absurd h id
  | _ => exact Iff.rfl
section
variable {p : PK} {σ : Ar} {sp : List Sp} {n m : Nat} (h : OkK p σ sp n m) (hL : limK p sp)
include h hL
theorem OkK.cost_step (i : Int) : cost p (doK p σ sp 0 i).2.2 i ≤ cost p sp i ∧ (rdK p σ sp i → (spOf sp i).pc ≠ 10 → cost p (doK p σ sp 0 i).2.2 i < cost p sp i) ∧
    (∀ s, s ≠ i → rdK p σ sp s → cost p (doK p σ sp 0 i).2.2 i < cost p sp i ∨ rdK p (doK p σ sp 0 i).2.1 (doK p σ sp 0 i).2.2 s) := by
  rcases h.queue with ⟨P, rfl⟩ | ⟨q0, hq0⟩
  · exact tas_step (Ta.OkP.inv (show Ta.OkP P σ sp n m from h)) hL.2.2 i
  · rw [hq0.costs, hq0.costs]
    have w0 := (hq0.wstep i).1
    refine ⟨?_, fun hr hn => ?_, fun s hs hr => ?_⟩
    · rcases w0 with w0 | w0
      · omega
      · rw [w0.1]; exact Nat.le_refl _
    · obtain ⟨q, hq, hr⟩ := (rdK_q hq0 i).1 hr
      exact (hq.wstep i).2 hr hn
    · obtain ⟨q, hq, hr⟩ := (rdK_q hq0 s).1 hr
      rcases (hq.wstep i).1 with w | ⟨w, hq'⟩
      · exact .inl w
      · right
        refine (rdK_q hq' s).2 ⟨q, hq', ?_⟩
        have ho := fun j (hj : j ≠ i) => do_other p σ sp 0 i j hj
        unfold rdQ at hr ⊢
        rw [ho s hs]
        refine ⟨hr.1, hr.2.1, fun h13 ⟨j, t, e, hj⟩ => hr.2.2 h13 ⟨j, t, e, ?_⟩⟩
        by_cases ej : j = i
        · rw [ej] at hj ⊢; rw [← w]; exact hj
        · rw [← ho j ej]; exact hj
theorem OkK.some_rd {s : Int} (hs : (spOf sp s).pc ≠ 0) : ∃ i, (spOf sp i).pc ≠ 0 ∧ rdK p σ sp i := by
  rcases h.queue with ⟨P, rfl⟩ | ⟨q0, hq0⟩
  · have hi := Ta.OkP.inv (show Ta.OkP P σ sp n m from h)
    by_cases hh : ∃ j, Ta.holds (spOf sp j)
    · obtain ⟨j, hj⟩ := hh
      exact ⟨j, by unfold Ta.holds at hj; omega, .inl hj⟩
    · have hf : ∀ j, ¬ Ta.holds (spOf sp j) := fun j hj => hh ⟨j, hj⟩
      obtain ⟨i0, i1⟩ := spOf_range (sp := sp) (i := s) hs
      obtain ⟨k, rfl⟩ := Int.eq_ofNat_of_zero_le i0
      have hp := hi.pcs k
      have h2 := hf k
      cases hk : fstT sp with
      | none =>
        have := fst_none.1 hk k (by omega)
        rw [← Bool.not_eq_true, com_iff] at this
        unfold Ta.holds at hp h2
        omega
      | some k' =>
        have := com_iff.1 (fst_iff.1 hk).2.1
        exact ⟨k', by omega, .inr ⟨hf, k', rfl, hk⟩⟩
  · obtain ⟨i, h1, h2⟩ := hq0.ex_rd hs
    exact ⟨i, h1, (rdK_q hq0 i).2 ⟨q0, hq0, h2⟩⟩
theorem OkK.cost_leave {i : Int} (hi : (spOf sp i).pc = 10) (σ' : Ar) : cost p (doK p σ' sp 2 i).2.2 i ≤ cost p sp i := by
  have hp := (leave_pc p σ' hi).1
  rcases h.queue with ⟨P, rfl⟩ | ⟨q0, hq0⟩
  · have e2 : ∀ sp, exK (.tas P) sp = exT sp := fun _ => rfl
    unfold cost
    rw [e2, e2, ex_held (i := i) (.inr hp), ex_held (i := i) (.inl hi), hp, hi, wt11, wt10]
    omega
  · rw [hq0.costs, hq0.costs, hp, hi]
    decide
theorem OkK.cost_ask {i : Int} (i0 : 0 ≤ i) (i1 : i < n) (hi : (spOf sp i).pc = 0) : cost p (doK p σ sp 1 i).2.2 i ≤ cost p sp i + 10 := by
  have hp := (ask_pc p σ (sp := sp) i0 (by have := h.len; omega) hi).1
  have ho := fun j (hj : j ≠ i) => do_other p σ sp 1 i j hj
  rcases h.queue with ⟨P, rfl⟩ | ⟨q0, hq0⟩
  · have e2 : ∀ sp, exK (.tas P) sp = exT sp := fun _ => rfl
    have hm : P.most ≤ 4 := hL.1
    unfold cost
    rw [e2, e2, hp, hi, wt1, wt0]
    have hx : exT (doK (.tas P) σ sp 1 i).2.2 ≤ exT sp := by
      by_cases hh : ∃ j, Ta.holds (spOf sp j)
      · obtain ⟨j, hj⟩ := hh
        have hji : j ≠ i := fun e9 => by rw [e9] at hj; unfold Ta.holds at hj; omega
        rw [ex_held hj, ex_held (i := j) (by rw [ho j hji]; exact hj)]
        exact Nat.le_refl _
      · have hf : ∀ j, ¬ Ta.holds (spOf sp j) := fun j hj => hh ⟨j, hj⟩
        have hf' : ∀ j, ¬ Ta.holds (spOf (doK (.tas P) σ sp 1 i).2.2 j) := fun j hj => by
          by_cases ej : j = i
          · rw [ej] at hj; unfold Ta.holds at hj; omega
          · rw [ho j ej] at hj; exact hf j hj
        rw [ex_free hf, ex_free hf']
        cases hk : fstT (doK (.tas P) σ sp 1 i).2.2 with
        | none => exact Nat.zero_le _
        | some k =>
          by_cases ek : (k : Int) = i
          · show stB _ ≤ _
            rw [ek]
            unfold stB
            rw [if_neg (by rw [hp]; decide)]
            exact Nat.zero_le _
          · obtain ⟨k1, k2, k3⟩ := fst_iff.1 hk
            have hfst : fstT sp = some k := by
              refine fst_iff.2 ⟨by have := do_len (.tas P) σ sp 1 i; omega, ?_, fun j hj => ?_⟩
              · rw [com_iff] at k2 ⊢; rw [ho _ ek] at k2; exact k2
              · have := k3 j hj
                rw [← Bool.not_eq_true, com_iff] at this ⊢
                by_cases ej : (j : Int) = i
                · rw [ej]; omega
                · rw [ho _ ej] at this; exact this
            rw [hfst]
            show stB _ ≤ stB _
            rw [ho _ ek]
            exact Nat.le_refl _
    simp
    omega
  · rw [hq0.costs, hq0.costs, hp, hi]
    decide
end
theorem rdK.al {p : PK} {σ σ' : Ar} {sp : List Sp} {i : Int} (h : rdK p σ sp i) (a : Al p sp.length σ σ') : rdK p σ' sp i := by
  cases p with
  | tas P => exact h
  | tic P => obtain ⟨q, hq, hr⟩ := h; exact ⟨q, hq.al a, hr⟩
  | par P => obtain ⟨q, hq, hr⟩ := h; exact ⟨q, hq.al a, hr⟩
  | mcs P => obtain ⟨q, hq, hr⟩ := h; exact ⟨q, hq.al a, hr⟩
  | clh P => obtain ⟨q, hq, hr⟩ := h; exact ⟨q, hq.al a, hr⟩
theorem cnt_ex {f : Sp → Bool} {sp : List Sp} : ∀ {n : Nat}, 0 < cnt f sp n → ∃ k : Nat, k < n ∧ f (spOf sp (k : Int)) = true
  | 0, h => by simp [cnt] at h
  | n + 1, h => by
    by_cases hf : f (spOf sp (n : Int)) = true
    · exact ⟨n, by omega, hf⟩
    · have e : cnt f sp (n + 1) = cnt f sp n + if f (spOf sp (n : Int)) then 1 else 0 := rfl
      rw [e, if_neg hf] at h
      obtain ⟨k, h1, h2⟩ := cnt_ex (n := n) h
      exact ⟨k, by omega, h2⟩
theorem OkK.behind {p : PK} {σ : Ar} {sp : List Sp} {n m : Nat} (h : OkK p σ sp n m) {i : Int} (hp : (spOf sp i).pc = 10) (ha : (doK p σ sp 3 i).1 = false) : ∃ k : Nat, k < n ∧ 0 < (spOf sp (k : Int)).pc ∧ (spOf sp (k : Int)).pc < 10 := by
  have hl := h.len
  have key : 0 < cnt (fun s => decide (0 < s.pc) && decide (s.pc < 10)) sp sp.length → ∃ k : Nat, k < n ∧ 0 < (spOf sp (k : Int)).pc ∧ (spOf sp (k : Int)).pc < 10 := fun h2 => by
    obtain ⟨k, h3, h4⟩ := cnt_ex h2
    rw [Bool.and_eq_true, decide_eq_true_eq, decide_eq_true_eq] at h4
    exact ⟨k, by omega, h4⟩
  cases p with
  | tas P =>
    have : (doK (.tas P) σ sp 3 i).1 = ((spOf sp i).pc == 10) := rfl
    rw [this, hp] at ha
    exact absurd ha (by decide)
  | tic P => obtain ⟨S, T, hi, _⟩ := Tk.OkP.inv h; exact key (hi.behind i hp ha)
  | par P => obtain ⟨S, T, hi, _⟩ := Pt.OkP.inv h; exact key (hi.behind i hp ha)
  | mcs P => obtain ⟨q, hi⟩ := Mc.OkP.inv h; exact key (hi.behind i hp ha)
  | clh P => obtain ⟨z, q, hi⟩ := Cl.OkP.inv h; exact key (hi.behind i hp ha)
end Go.Proofs.YtfnmggmgdmokcaaGreat.Fl

/- A global lock of nodes, a local one of the threads of each: what a step makes of the locks' spots; a node that keeps the global lock has a thread that comes: the plain law. -/
namespace Go.Proofs.YtfnmggmgdmokcaaGreat.Co
open Go.RowKit Go.Proofs.YtfnmggmgdmokcaaGreat.Ara Go.Proofs.YtfnmggmgdmokcaaGreat.Lok Go.Proofs.YtfnmggmgdmokcaaGreat.Fl

structure Ch (P : Pm) (x x' : CS) (t : Nat) : Prop where
  l1 : pcT x t = 1 ∨ pcT x t = 16 → x'.loc (P.nd t) = (doK (P.pl (P.nd t)) x.σ (x.loc (P.nd t)) 0 (P.sl t)).2.2 ∧ x'.σ = (doK (P.pl (P.nd t)) x.σ (x.loc (P.nd t)) 0 (P.sl t)).2.1
  l2 : pcT x t ≠ 1 → pcT x t ≠ 16 → x'.loc (P.nd t) = x.loc (P.nd t) ∨ (pcL P x t = 10 ∧ (pcT x t = 13 ∨ (pcT x t = 15 ∧ pcT x' t = 16)) ∧ ∃ σ, x'.loc (P.nd t) = (doK (P.pl (P.nd t)) σ (x.loc (P.nd t)) 2 (P.sl t)).2.2)
  l3 : ∀ k, k ≠ P.nd t → x'.loc k = x.loc k
  g1 : pcT x t = 3 ∨ pcT x t = 15 → x'.g = (doK P.pg x.σ x.g 0 (P.nd t)).2.2 ∧ x'.σ = (doK P.pg x.σ x.g 0 (P.nd t)).2.1
  g2 : pcT x t ≠ 3 → pcT x t ≠ 15 → x'.g = x.g ∨ (pcT x t = 2 ∧ pcT x' t = 3 ∧ pcG x (P.nd t) = 0 ∧ x'.g = (doK P.pg x.σ x.g 1 (P.nd t)).2.2) ∨ (pcT x t = 14 ∧ pcG x (P.nd t) = 10 ∧ x'.g = (doK P.pg x.σ x.g 2 (P.nd t)).2.2)
  b : pcT x t = 12 → pcT x' t = 13 → (doK (P.pl (P.nd t)) x.σ (x.loc (P.nd t)) 3 (P.sl t)).1 = false
section
variable {P : Pm} {x : CS} {m : Nat} (D : Dj P) (H : CI P x m)
include D H
theorem CI.ch {t : Nat} (ht : t < P.T) : Ch P x (stepC P x t) t := by
  obtain ⟨hn, hsl⟩ := D.nd t ht
  have htl : t < x.S.length := by rw [H.len]; exact ht
  have hp := H.rel t ht
  have hN := H.nod t ht
  have hfr : pcT x t = 2 → (cnW P x (P.nd t) = 0 ∧ pcG x (P.nd t) = 0) ∨ (0 < cnW P x (P.nd t) ∧ pcG x (P.nd t) = 10) := fun h2 => H.free _ hn (fun u hu hnn => by
    by_cases eu : u = t
    · rw [eu, h2]; unfold busy; omega
    · have := H.alone D ht (by omega) hu hnn eu
      unfold busy; omega)
  have up : ∀ (v : List Sp) k, k ≠ P.nd t → upd x.loc (P.nd t) v k = x.loc k := fun v k hk => upd_other _ _ hk
  have us : ∀ v : List Sp, upd x.loc (P.nd t) v (P.nd t) = v := fun v => upd_self _ _ _
  have st : ∀ s' : Sp, spOf (x.S.set t s') (t : Int) = s' := fun s' => set_t htl s'
  unfold relP at hp
  unfold nodP at hN
  unfold stepC
  rcases (show pcT x t = 0 ∨ pcT x t = 10 ∨ pcT x t = 1 ∨ pcT x t = 2 ∨ pcT x t = 3 ∨ pcT x t = 4 ∨ pcT x t = 11 ∨ pcT x t = 12 ∨ pcT x t = 13 ∨ pcT x t = 14 ∨ pcT x t = 15 ∨ pcT x t = 16 by omega) with e | e | e | e | e | e | e | e | e | e | e | e
  · rw [if_pos (.inl e)]; exact ⟨fun h => by omega, fun _ _ => .inl rfl, fun _ _ => rfl, fun h => by omega, fun _ _ => .inl rfl, fun h => by omega⟩
  · rw [if_pos (.inr e)]; exact ⟨fun h => by omega, fun _ _ => .inl rfl, fun _ _ => rfl, fun h => by omega, fun _ _ => .inl rfl, fun h => by omega⟩
  · rw [if_neg (by show ¬ (pcT x t = 0 ∨ pcT x t = 10); omega), Int.toNat_natCast, if_pos (by show pcT x t < 10; omega)]; unfold inC
    rw [if_pos e]
    exact ⟨fun _ => ⟨us _, rfl⟩, fun h => absurd e h, up _, fun h => by omega, fun _ _ => .inl rfl, fun h => by omega⟩
  · rw [if_neg (by show ¬ (pcT x t = 0 ∨ pcT x t = 10); omega), Int.toNat_natCast, if_pos (by show pcT x t < 10; omega)]; unfold inC
    rw [if_neg (by show ¬ pcT x t = 1; omega), if_pos e]
    split
    · exact ⟨fun h => by omega, fun _ _ => .inl rfl, fun _ _ => rfl, fun h => by omega, fun _ _ => .inl rfl, fun h => by omega⟩
    · rename_i hc
      have hc' : ¬ 0 < cnW P x (P.nd t) := hc
      have := hfr e
      exact ⟨fun h => by omega, fun _ _ => .inl rfl, fun _ _ => rfl, fun h => by omega, fun _ _ => .inr (.inl ⟨e, by show (spOf (x.S.set t _) (t : Int)).pc = 3; rw [st], by omega, rfl⟩), fun h => by omega⟩
  · rw [if_neg (by show ¬ (pcT x t = 0 ∨ pcT x t = 10); omega), Int.toNat_natCast, if_pos (by show pcT x t < 10; omega)]; unfold inC
    rw [if_neg (by show ¬ pcT x t = 1; omega), if_neg (by show ¬ pcT x t = 2; omega), if_pos e]
    exact ⟨fun h => by omega, fun _ _ => .inl rfl, fun _ _ => rfl, fun _ => ⟨rfl, rfl⟩, fun h => absurd e h, fun h => by omega⟩
  · rw [if_neg (by show ¬ (pcT x t = 0 ∨ pcT x t = 10); omega), Int.toNat_natCast, if_pos (by show pcT x t < 10; omega)]; unfold inC
    rw [if_neg (by show ¬ pcT x t = 1; omega), if_neg (by show ¬ pcT x t = 2; omega), if_neg (by show ¬ pcT x t = 3; omega), if_pos e]
    exact ⟨fun h => by omega, fun _ _ => .inl rfl, fun _ _ => rfl, fun h => by omega, fun _ _ => .inl rfl, fun h => by omega⟩
  · rw [if_neg (by show ¬ (pcT x t = 0 ∨ pcT x t = 10); omega), Int.toNat_natCast, if_neg (by show ¬ pcT x t < 10; omega)]; unfold outC
    rw [if_pos e]
    exact ⟨fun h => by omega, fun _ _ => .inl rfl, fun _ _ => rfl, fun h => by omega, fun _ _ => .inl rfl, fun h => by omega⟩
  · rw [if_neg (by show ¬ (pcT x t = 0 ∨ pcT x t = 10); omega), Int.toNat_natCast, if_neg (by show ¬ pcT x t < 10; omega)]; unfold outC
    rw [if_neg (by show ¬ pcT x t = 11; omega), if_pos e]
    refine ⟨fun h => by omega, fun _ _ => .inl rfl, fun _ _ => rfl, fun h => by omega, fun _ _ => .inl rfl, fun _ h => ?_⟩
    have h : (spOf (x.S.set t _) (t : Int)).pc = 13 := h
    rw [st] at h
    have h : (if passes (spOf x.S (t : Int)).a P.B (doK (P.pl (P.nd t)) x.σ (x.loc (P.nd t)) 3 (P.sl t)).1 then (13 : Int) else 14) = 13 := h
    cases hb : (doK (P.pl (P.nd t)) x.σ (x.loc (P.nd t)) 3 (P.sl t)).1 with
    | false => rfl
    | true =>
      rw [hb] at h
      unfold passes at h
      simp at h
  · rw [if_neg (by show ¬ (pcT x t = 0 ∨ pcT x t = 10); omega), Int.toNat_natCast, if_neg (by show ¬ pcT x t < 10; omega)]; unfold outC
    rw [if_neg (by show ¬ pcT x t = 11; omega), if_neg (by show ¬ pcT x t = 12; omega), if_pos e]
    exact ⟨fun h => by omega, fun _ _ => .inr ⟨by omega, .inl e, x.σ, us _⟩, up _, fun h => by omega, fun _ _ => .inl rfl, fun h => by omega⟩
  · rw [if_neg (by show ¬ (pcT x t = 0 ∨ pcT x t = 10); omega), Int.toNat_natCast, if_neg (by show ¬ pcT x t < 10; omega)]; unfold outC
    rw [if_neg (by show ¬ pcT x t = 11; omega), if_neg (by show ¬ pcT x t = 12; omega), if_neg (by show ¬ pcT x t = 13; omega), if_pos e]
    exact ⟨fun h => by omega, fun _ _ => .inl rfl, fun _ _ => rfl, fun h => by omega, fun _ _ => .inr (.inr ⟨e, (hN.2.2.1 (by omega)).2, rfl⟩), fun h => by omega⟩
  · rw [if_neg (by show ¬ (pcT x t = 0 ∨ pcT x t = 10); omega), Int.toNat_natCast, if_neg (by show ¬ pcT x t < 10; omega)]; unfold outC
    rw [if_neg (by show ¬ pcT x t = 11; omega), if_neg (by show ¬ pcT x t = 12; omega), if_neg (by show ¬ pcT x t = 13; omega), if_neg (by show ¬ pcT x t = 14; omega), if_pos e]
    split
    · exact ⟨fun h => by omega, fun _ _ => .inr ⟨by omega, .inr ⟨e, by show (spOf (x.S.set t _) (t : Int)).pc = 16; rw [st]⟩, x.σ, us _⟩, up _, fun _ => ⟨rfl, rfl⟩, fun _ h => absurd e h, fun h => by omega⟩
    · exact ⟨fun h => by omega, fun _ _ => .inl rfl, fun _ _ => rfl, fun _ => ⟨rfl, rfl⟩, fun _ h => absurd e h, fun h => by omega⟩
  · rw [if_neg (by show ¬ (pcT x t = 0 ∨ pcT x t = 10); omega), Int.toNat_natCast, if_neg (by show ¬ pcT x t < 10; omega)]; unfold outC
    rw [if_neg (by show ¬ pcT x t = 11; omega), if_neg (by show ¬ pcT x t = 12; omega), if_neg (by show ¬ pcT x t = 13; omega), if_neg (by show ¬ pcT x t = 14; omega), if_neg (by show ¬ pcT x t = 15; omega), if_pos e]
    exact ⟨fun _ => ⟨us _, rfl⟩, fun _ h => absurd e h, up _, fun h => by omega, fun _ _ => .inl rfl, fun h => by omega⟩
end
structure CW (P : Pm) (x : CS) : Prop where
  c : ∀ n, n < P.NN → 0 < cnW P x n → (∀ u, u < P.T → P.nd u = n → ¬ busy (pcT x u)) → ∃ u, u < P.T ∧ P.nd u = n ∧ (pcT x u = 1 ∨ pcT x u = 2)
  w : ∀ t, t < P.T → pcT x t = 13 → ∃ u, u < P.T ∧ u ≠ t ∧ P.nd u = P.nd t ∧ pcT x u = 1
def Sjo (P : Pm) : Prop := ∀ k, k < P.T → ∀ s, s < P.mt (P.nd k) → ∃ u, u < P.T ∧ P.nd u = P.nd k ∧ P.sl u = s
section
variable {P : Pm} {x : CS} {m : Nat} (D : Dj P) (J : Sjo P) (H : CI P x m) (C : CW P x)
include D J H C
theorem CW.act (kd i : Int) : CW P (doC P x kd i) := by
  have H' := H.act D kd i
  rcases H.aw D kd i with h | ⟨t, ht, rfl, hx, hm, ho⟩ | ⟨t, ht, rfl, h0, h1, hσ, hg, hl, hl1, ho⟩ | ⟨t, ht, rfl, h0, h1, ha, hσ, hg, hl, ho⟩
  · rw [h]; exact C
  · have hc := H.ch D ht
    rw [← hx] at hc
    generalize doC P x kd t = x' at *
    have hpc : ∀ u : Nat, u ≠ t → pcT x' u = pcT x u := fun u hu => congrArg Sp.pc (ho.S u hu)
    have hal : 2 ≤ pcT x' t → ∀ u, u < P.T → P.nd u = P.nd t → u ≠ t → pcT x' u ≤ 1 := fun h2 u hu hn hne => H'.alone D ht h2 hu hn hne
    have hal0 : 2 ≤ pcT x t → ∀ u, u < P.T → P.nd u = P.nd t → u ≠ t → pcT x u ≤ 1 := fun h2 u hu hn hne => H.alone D ht h2 hu hn hne
    -- one at 13 keeps its witness
    have key13 : ∀ v, v < P.T → v ≠ t → pcT x' v = 13 → ∃ u, u < P.T ∧ u ≠ v ∧ P.nd u = P.nd v ∧ pcT x' u = 1 := by
      intro v hv hne h13
      obtain ⟨u, hu, hun, hnn, hu1⟩ := C.w v hv ((hpc v hne).symm.trans h13)
      by_cases e : u = t
      · subst e
        refine ⟨u, hu, hun, hnn, ?_⟩
        have h2 := H'.alone D hv (by omega) hu hnn hun
        have hm' := hm
        cases hm' <;> omega
      · exact ⟨u, hu, hun, hnn, by rw [hpc u e]; exact hu1⟩
    -- other nodes, and its own one where the thread stays as it is
    have keyc : ∀ n, n < P.NN → 0 < cnW P x' n → (∀ u, u < P.T → P.nd u = n → ¬ busy (pcT x' u)) → (P.nd t = n → ¬ busy (pcT x t) ∧ cnW P x' n = cnW P x n ∧ (pcT x t = 1 ∨ pcT x t = 2 → pcT x' t = 1 ∨ pcT x' t = 2)) → ∃ u, u < P.T ∧ P.nd u = n ∧ (pcT x' u = 1 ∨ pcT x' u = 2) := by
      intro n hn h0 hb hs
      have hcn : cnW P x' n = cnW P x n := by
        by_cases e : P.nd t = n
        · exact (hs e).2.1
        · exact ho.c n hn (fun e9 => e e9.symm)
      obtain ⟨u, hu, hnn, hu1⟩ := C.c n hn (by rw [← hcn]; exact h0) (fun u hu hnn => by
        by_cases e : u = t
        · rw [e] at hnn ⊢; exact (hs hnn).1
        · rw [← hpc u e]; exact hb u hu hnn)
      by_cases e : u = t
      · rw [e] at hu1 hnn
        exact ⟨t, ht, hnn, (hs hnn).2.2 hu1⟩
      · exact ⟨u, hu, hnn, by rw [hpc u e]; exact hu1⟩
    refine ⟨fun n hn h0 hb => ?_, fun v hv h13 => ?_⟩
    · by_cases en : P.nd t = n
      · have hbt := hb t ht en
        subst en
        cases hm with
        | rest h hp => rw [h] at h0 hb ⊢; exact C.c _ hn h0 hb
        | loc1 h h' hl hc2 hg => exact keyc _ hn h0 hb (fun _ => ⟨by rw [h]; unfold busy; omega, hc2, fun _ => .inl h'⟩)
        | got1 h h' hl hc2 hg => exact ⟨t, ht, rfl, .inr h'⟩
        | ent2 h h' hl ha h0' hc2 g0 hg => rw [h'] at hbt; unfold busy at hbt; omega
        | ask2 h h' hl h0' hc2 g0 hg => rw [h'] at hbt; unfold busy at hbt; omega
        | glo3 h h' hl h0' hc2 g0 hg => omega
        | got3 h h' hl h0' hc2 g0 hg => omega
        | ent4 h h' hl ha h0' hc2 g0 hg => rw [h'] at hbt; unfold busy at hbt; omega
        | ld11 h h' hl hc2 g0 hg => unfold busy at hbt; omega
        | al12 h h' hl hc2 g0 hg => unfold busy at hbt; omega
        | st13 h h' hl hc2 hB g0 hg =>
          obtain ⟨u, hu, hne, hnn, hu1⟩ := C.w t ht h
          exact ⟨u, hu, hnn, .inl (by rw [hpc u hne]; exact hu1)⟩
        | st14 h h' hl hc2 g0 hg => omega
        | glo15 h h' hl h0' hc2 g0 hg => omega
        | got15 h h' hl h0' hc2 g0 hg => omega
        | loc16 h h' hl hc2 hg => exact keyc _ hn h0 hb (fun _ => ⟨by rw [h]; unfold busy; omega, hc2, fun h9 => by omega⟩)
        | got16 h h' hl hc2 hg => exact keyc _ hn h0 hb (fun _ => ⟨by rw [h]; unfold busy; omega, hc2, fun h9 => by omega⟩)
      · exact keyc n hn h0 hb (fun e => absurd e en)
    · by_cases ev : v = t
      · rw [ev] at h13 ⊢
        cases hm with
        | al12 h h' hl hc2 g0 hg =>
          have hb := hc.b h h13
          have hr := H.rel t ht
          unfold relP at hr
          obtain ⟨s, s1, s2, s3⟩ := (H.ol _ (D.nd t ht).1).behind (i := P.sl t) (by show pcL P x t = 10; omega) hb
          obtain ⟨u, hu, hnn, hsu⟩ := J t ht s s1
          have hr2 := H.rel u hu
          have hx2 : pcL P x u = (spOf (x.loc (P.nd t)) (s : Int)).pc := by unfold pcL; rw [hnn, hsu]
          unfold relP at hr2
          have hne : u ≠ t := fun e => by
            rw [e] at hx2
            omega
          have := hal0 (by omega) u hu hnn hne
          exact ⟨u, hu, hne, hnn, by rw [hpc u hne]; omega⟩
        | rest h hp => rw [h] at h13; omega
        | _ => omega
      · exact key13 v hv ev h13
  · generalize doC P x kd t = x' at *
    have hpc : ∀ u : Nat, u ≠ t → pcT x' u = pcT x u := fun u hu => congrArg Sp.pc (ho.S u hu)
    refine ⟨fun n hn h9 hb => ?_, fun v hv h13 => ?_⟩
    · by_cases e : P.nd t = n
      · exact ⟨t, ht, e, .inl h1⟩
      · obtain ⟨u, hu, hnn, hu1⟩ := C.c n hn (by rw [← ho.c n hn (fun e9 => e e9.symm)]; exact h9) (fun u hu hnn => by
          have : u ≠ t := fun e9 => e (by rw [← e9]; exact hnn)
          rw [← hpc u this]; exact hb u hu hnn)
        have : u ≠ t := fun e9 => e (by rw [← e9]; exact hnn)
        exact ⟨u, hu, hnn, by rw [hpc u this]; exact hu1⟩
    · have hvt : v ≠ t := fun e => by rw [e] at h13; omega
      obtain ⟨u, hu, hne, hnn, hu1⟩ := C.w v hv (by rw [← hpc v hvt]; exact h13)
      have : u ≠ t := fun e => by rw [e] at hu1; omega
      exact ⟨u, hu, hne, hnn, by rw [hpc u this]; exact hu1⟩
  · generalize doC P x kd t = x' at *
    have hpc : ∀ u : Nat, u ≠ t → pcT x' u = pcT x u := fun u hu => congrArg Sp.pc (ho.S u hu)
    have hcn : ∀ n, cnW P x' n = cnW P x n := fun n => by unfold cnW; rw [hσ]
    refine ⟨fun n hn h9 hb => ?_, fun v hv h13 => ?_⟩
    · have hnt : P.nd t ≠ n := fun e => hb t ht e (by rw [h1]; unfold busy; omega)
      obtain ⟨u, hu, hnn, hu1⟩ := C.c n hn (by rw [← hcn]; exact h9) (fun u hu hnn => by
        have : u ≠ t := fun e9 => hnt (by rw [← e9]; exact hnn)
        rw [← hpc u this]; exact hb u hu hnn)
      have : u ≠ t := fun e9 => hnt (by rw [← e9]; exact hnn)
      exact ⟨u, hu, hnn, by rw [hpc u this]; exact hu1⟩
    · have hvt : v ≠ t := fun e => by rw [e] at h13; omega
      obtain ⟨u, hu, hne, hnn, hu1⟩ := C.w v hv (by rw [← hpc v hvt]; exact h13)
      have : u ≠ t := fun e => by rw [e] at hu1; omega
      exact ⟨u, hu, hne, hnn, by rw [hpc u this]; exact hu1⟩
end
end Go.Proofs.YtfnmggmgdmokcaaGreat.Co

/- Rounds in which one thread's progress counts: each round what is left tO do grows less: the plain law. -/
namespace Go.Proofs.YtfnmggmgdmokcaaGreat.Lok
open Go.RowKit Go.Proofs.YtfnmggmgdmokcaaGreat.Ara

structure Rd {X : Type} (f : X → Ac → X) (W : X → Nat) (Good : X → Prop) (Ready : X → Nat → Prop) (Done : X → Prop) (n : Nat) : Prop where
  g : ∀ x c, Good x → Good (f x c)
  le : ∀ x (i : Nat) (k : Int), k = 0 ∨ k = 2 → Good x → W (f x ⟨k, i⟩) ≤ W x
  keep : ∀ x (i s : Nat) (k : Int), k = 0 ∨ k = 2 → Good x → i ≠ s → Ready x s → W (f x ⟨k, i⟩) < W x ∨ Ready (f x ⟨k, i⟩) s
  ex : ∀ x, Good x → ¬ Done x → ∃ i, i < n ∧ Ready x i
  go : ∀ x (i : Nat), Good x → Ready x i → W (f (f x ⟨0, i⟩) ⟨2, i⟩) < W x
  dn : ∀ x (i : Nat) (k : Int), k = 0 ∨ k = 2 → Good x → Done x → Done (f x ⟨k, i⟩)
section
variable {X : Type} {f : X → Ac → X} {W : X → Nat} {Good : X → Prop} {Ready : X → Nat → Prop} {Done : X → Prop} {n : Nat} (h : Rd f W Good Ready Done n)
include h
theorem Rd.round_good {x : X} (hg : Good x) (k : Nat) : Good (round f x k) := by
  induction k with
  | zero => exact hg
  | succ k ih => exact h.g _ _ (h.g _ _ ih)
theorem Rd.round_done {x : X} (hg : Good x) (hd : Done x) (k : Nat) : Done (round f x k) := by
  induction k with
  | zero => exact hd
  | succ k ih => exact h.dn _ _ _ (.inr rfl) (h.g _ _ (h.round_good hg k)) (h.dn _ _ _ (.inl rfl) (h.round_good hg k) ih)
theorem Rd.round_less {x : X} (hg : Good x) {s : Nat} (hs : Ready x s) (k : Nat) : W (round f x k) < W x ∨ (W (round f x k) ≤ W x ∧ k ≤ s ∧ Ready (round f x k) s) := by
  induction k with
  | zero => exact .inr ⟨Nat.le_refl _, Nat.zero_le _, hs⟩
  | succ k ih =>
    have g0 := h.round_good hg k
    have g1 := h.g _ ⟨0, k⟩ g0
    have d1 := h.le _ k 0 (.inl rfl) g0
    have d2 := h.le _ k 2 (.inr rfl) g1
    show W (f (f (round f x k) ⟨0, k⟩) ⟨2, k⟩) < _ ∨ (W (f (f (round f x k) ⟨0, k⟩) ⟨2, k⟩) ≤ _ ∧ _ ∧ Ready (f (f (round f x k) ⟨0, k⟩) ⟨2, k⟩) s)
    rcases ih with ih | ⟨i1, i2, i3⟩
    · left; omega
    · by_cases e : k = s
      · left
        have := h.go _ s g0 i3
        rw [← e] at this
        omega
      · rcases h.keep _ k s 0 (.inl rfl) g0 e i3 with d3 | d3
        · left; omega
        · rcases h.keep _ k s 2 (.inr rfl) g1 e d3 with d4 | d4
          · left; omega
          · exact .inr ⟨by omega, by omega, d4⟩
theorem Rd.rounds_good {x : X} (hg : Good x) (k : Nat) : Good (rounds f n x k) := by
  induction k with
  | zero => exact hg
  | succ k ih => exact h.round_good ih n
theorem Rd.rounds_less {x : X} (hg : Good x) (k : Nat) : W (rounds f n x k) + k ≤ W x ∨ Done (rounds f n x k) := by
  induction k with
  | zero => exact .inl (Nat.le_refl _)
  | succ k ih =>
    have g0 := h.rounds_good hg k
    by_cases hd : Done (rounds f n x k)
    · exact .inr (h.round_done g0 hd n)
    · rcases ih with ih | ih
      · obtain ⟨s, hs, hr⟩ := h.ex _ g0 hd
        rcases h.round_less g0 hr n with r | ⟨_, r, _⟩
        · left
          show W (round f (rounds f n x k) n) + (k + 1) ≤ _
          omega
        · omega
      · exact absurd ih hd
theorem Rd.rounds_done {x : X} (hg : Good x) (k : Nat) (hk : W x < k) : Done (rounds f n x k) := by
  rcases h.rounds_less hg k with r | r
  · omega
  · exact r
end
end Go.Proofs.YtfnmggmgdmokcaaGreat.Lok

