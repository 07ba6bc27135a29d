/- Merged texts: GaP, Qu3, Fr3, SpP, Wf1. -/
import Derived.Test.YtfmiioddhpkdkaaGreatWh16
import Derived.Test.YtfmiioddhpkdkaaGreatOpen
set_option linter.unusedVariables false
/- Package gate: how a pick moves its thread: the plain law. -/
namespace Go.Proofs.YtfmiioddhpkdkaaGreat.Ga
open Go.RowKit Go.Proofs.YtfmiioddhpkdkaaGreat.Ara Go.Proofs.YtfmiioddhpkdkaaGreat.Lok Go.Proofs.YtfmiioddhpkdkaaGreat.Fl

def St (s : Sp) (b : Bool) (s' : Sp) : Prop := (gst s = 1 → gst s' = if b = true then 2 else 1) ∧ (gst s = 3 → gst s' = if b = true then 0 else 3)
theorem gst_1 {s : Sp} (h : s.pc ≠ 0 ∧ s.pc < 10) : gst s = 1 := by unfold gst; rw [if_neg h.1, if_pos h.2]
theorem gst_2 {s : Sp} (h : s.pc = 10) : gst s = 2 := by unfold gst; rw [if_neg (by omega), if_neg (by omega), if_pos h]
theorem gst_3 {s : Sp} (h : 10 < s.pc) : gst s = 3 := by unfold gst; rw [if_neg (by omega), if_neg (by omega), if_neg (by omega)]
theorem gst_0 {s : Sp} (h : s.pc = 0) : gst s = 0 := by unfold gst; rw [if_pos h]
theorem St.no {s s' : Sp} (h : gst s' = gst s) : St s false s' := ⟨fun e => by rw [h, e]; rfl, fun e => by rw [h, e]; rfl⟩
theorem St.c0 {s s' : Sp} (h : s.pc ≠ 0 ∧ s.pc < 10) (h' : s'.pc ≠ 0 ∧ s'.pc < 10) : St s false s' := .no (by rw [gst_1 h, gst_1 h'])
theorem St.c1 {s s' : Sp} (h : s.pc ≠ 0 ∧ s.pc < 10) (h' : s'.pc = 10) : St s true s' := ⟨fun _ => gst_2 h', fun e => by rw [gst_1 h] at e; omega⟩
theorem St.g0 {s s' : Sp} (h : 10 < s.pc) (h' : 10 < s'.pc) : St s false s' := .no (by rw [gst_3 h, gst_3 h'])
theorem St.g1 {s s' : Sp} (h : 10 < s.pc) (h' : s'.pc = 0) : St s true s' := ⟨fun e => by rw [gst_3 h] at e; omega, fun _ => gst_0 h'⟩
def StepW (r : Bool × Ar × List Sp) (sp : List Sp) (k : Nat) (s : Sp) : Prop := ∃ s', r.2.2 = sp.set k s' ∧ St s r.1 s'
theorem same_w {sp : List Sp} {k : Nat} (hk : k < sp.length) (σ : Ar) : StepW (false, σ, sp) sp k sp[k] := ⟨sp[k], by rw [List.set_getElem_self], .no rfl⟩
section
variable (σ : Ar) (sp : List Sp) (k : Nat) (hk : k < sp.length)
include hk
theorem sw_ta (P : Ta.Par) : StepW (Ta.stepP P σ sp k) sp k sp[k] := by
  unfold Ta.stepP
  rw [spOf_in hk, Int.toNat_natCast]
  by_cases h1 : sp[k].pc = 1
  · rw [if_pos h1]
    cases hb : Ta.tryB P σ with
    | true => exact ⟨_, rfl, St.c1 (by omega) rfl⟩
    | false => exact ⟨_, rfl, St.c0 (by omega) (by simp)⟩
  rw [if_neg h1]
  by_cases h2 : sp[k].pc = 2
  · rw [if_pos h2]
    exact ⟨_, rfl, St.c0 (by omega) (by simp only; split <;> omega)⟩
  rw [if_neg h2]
  by_cases h3 : sp[k].pc = 11
  · rw [if_pos h3]
    exact ⟨_, rfl, St.g1 (by omega) rfl⟩
  rw [if_neg h3]
  exact same_w hk σ
theorem sw_tk (P : Tk.Par) : StepW (Tk.stepP P σ sp k) sp k sp[k] := by
  unfold Tk.stepP
  rw [spOf_in hk, Int.toNat_natCast]
  by_cases h1 : sp[k].pc = 1
  · rw [if_pos h1]
    exact ⟨_, rfl, St.c0 (by omega) (by simp)⟩
  rw [if_neg h1]
  by_cases h2 : sp[k].pc = 2
  · rw [if_pos h2]
    by_cases hc : σ.get (Tk.place P sp[k].a) = sp[k].a
    · exact ⟨_, if_pos hc, by rw [show (σ.get (Tk.place P sp[k].a) == sp[k].a) = true from by simpa using hc]; exact St.c1 (by omega) rfl⟩
    · exact ⟨sp[k], by show (if _ then _ else _) = _; rw [if_neg hc, List.set_getElem_self], by rw [show (σ.get (Tk.place P sp[k].a) == sp[k].a) = false from by simpa using hc]; exact .no rfl⟩
  rw [if_neg h2]
  by_cases h3 : sp[k].pc = 11
  · rw [if_pos h3]
    exact ⟨_, rfl, St.g1 (by omega) rfl⟩
  rw [if_neg h3]
  exact same_w hk σ
theorem sw_pt (P : Pt.Par) : StepW (Pt.stepP P σ sp k) sp k sp[k] := by
  unfold Pt.stepP
  rw [spOf_in hk, Int.toNat_natCast]
  by_cases h1 : sp[k].pc = 1
  · rw [if_pos h1]
    exact ⟨_, rfl, St.c0 (by omega) (by simp)⟩
  rw [if_neg h1]
  by_cases h2 : sp[k].pc = 2
  · rw [if_pos h2]
    by_cases hc : σ.get (Pt.place P sp[k].a) = sp[k].a + 1
    · exact ⟨_, if_pos hc, by rw [show (σ.get (Pt.place P sp[k].a) == sp[k].a + 1) = true from by simpa using hc]; exact St.c1 (by omega) rfl⟩
    · exact ⟨sp[k], by show (if _ then _ else _) = _; rw [if_neg hc, List.set_getElem_self], by rw [show (σ.get (Pt.place P sp[k].a) == sp[k].a + 1) = false from by simpa using hc]; exact .no rfl⟩
  rw [if_neg h2]
  by_cases h3 : sp[k].pc = 11
  · rw [if_pos h3]
    exact ⟨_, rfl, St.g1 (by omega) rfl⟩
  rw [if_neg h3]
  exact same_w hk σ
theorem sw_cl (P : Cl.Par) : StepW (Cl.stepP P σ sp k) sp k sp[k] := by
  unfold Cl.stepP
  rw [spOf_in hk, Int.toNat_natCast]
  by_cases h1 : sp[k].pc = 1
  · rw [if_pos h1]
    exact ⟨_, rfl, St.c0 (by omega) (by simp)⟩
  rw [if_neg h1]
  by_cases h2 : sp[k].pc = 2
  · rw [if_pos h2]
    exact ⟨_, rfl, St.c0 (by omega) (by simp)⟩
  rw [if_neg h2]
  by_cases h2 : sp[k].pc = 3
  · rw [if_pos h2]
    by_cases hc : σ.get (Cl.box P sp[k].b) = 0
    · exact ⟨_, if_pos hc, by rw [show (σ.get (Cl.box P sp[k].b) == 0) = true from by simpa using hc]; exact St.c1 (by omega) rfl⟩
    · exact ⟨sp[k], by show (if _ then _ else _) = _; rw [if_neg hc, List.set_getElem_self], by rw [show (σ.get (Cl.box P sp[k].b) == 0) = false from by simpa using hc]; exact .no rfl⟩
  rw [if_neg h2]
  by_cases h3 : sp[k].pc = 11
  · rw [if_pos h3]
    exact ⟨_, rfl, St.g1 (by omega) rfl⟩
  rw [if_neg h3]
  exact same_w hk σ
theorem sw_mc (P : Mc.Par) : StepW (Mc.stepP P σ sp k) sp k sp[k] := by
  unfold Mc.stepP
  rw [spOf_in hk, Int.toNat_natCast]
  by_cases h1 : sp[k].pc = 1
  · rw [if_pos h1]
    exact ⟨_, rfl, St.c0 (by omega) (by simp)⟩
  rw [if_neg h1]
  by_cases h2 : sp[k].pc = 2
  · rw [if_pos h2]
    exact ⟨_, rfl, St.c0 (by omega) (by simp)⟩
  rw [if_neg h2]
  by_cases h3 : sp[k].pc = 3
  · rw [if_pos h3]
    by_cases hc : σ.get P.tail = 0
    · exact ⟨_, rfl, by rw [show (σ.get P.tail == 0) = true from by simpa using hc]; exact St.c1 (by omega) (if_pos hc)⟩
    · exact ⟨_, rfl, by rw [show (σ.get P.tail == 0) = false from by simpa using hc]; exact St.c0 (by omega) (by simp only [if_neg hc]; omega)⟩
  rw [if_neg h3]
  by_cases h4 : sp[k].pc = 4
  · rw [if_pos h4]
    exact ⟨_, rfl, St.c0 (by omega) (by simp)⟩
  rw [if_neg h4]
  by_cases h5 : sp[k].pc = 5
  · rw [if_pos h5]
    by_cases hc : σ.get (Mc.wt P ((k : Int) + 1)) = 0
    · exact ⟨_, rfl, by rw [show (σ.get (Mc.wt P ((k : Int) + 1)) == 0) = true from by simpa using hc]; exact St.c1 (by omega) (if_pos hc)⟩
    · exact ⟨_, rfl, by rw [show (σ.get (Mc.wt P ((k : Int) + 1)) == 0) = false from by simpa using hc]; exact St.c0 (by omega) (by simp only [if_neg hc]; omega)⟩
  rw [if_neg h5]
  by_cases h6 : sp[k].pc = 11
  · rw [if_pos h6]
    exact ⟨_, rfl, St.g0 (by omega) (by simp only; split <;> omega)⟩
  rw [if_neg h6]
  by_cases h7 : sp[k].pc = 12
  · rw [if_pos h7]
    cases hc : (σ.has P.tail && (σ.get P.tail == (k : Int) + 1)) with
    | true => exact ⟨_, rfl, St.g1 (by omega) (by simp)⟩
    | false => exact ⟨_, rfl, St.g0 (by omega) (by simp)⟩
  rw [if_neg h7]
  by_cases h8 : sp[k].pc = 13
  · rw [if_pos h8]
    exact ⟨_, rfl, St.g0 (by omega) (by simp only; split <;> omega)⟩
  rw [if_neg h8]
  by_cases h9 : sp[k].pc = 14
  · rw [if_pos h9]
    exact ⟨_, rfl, St.g1 (by omega) rfl⟩
  rw [if_neg h9]
  exact same_w hk σ
theorem sw_k (p : PK) : StepW (doK p σ sp 0 k) sp k sp[k] := by
  cases p with
  | tas P => exact sw_ta σ sp k hk P
  | tic P => exact sw_tk σ sp k hk P
  | par P => exact sw_pt σ sp k hk P
  | mcs P => exact sw_mc σ sp k hk P
  | clh P => exact sw_cl σ sp k hk P
end
end Go.Proofs.YtfmiioddhpkdkaaGreat.Ga

/- The queue of a lock that keeps order: how a step turns its slot's spot, and what is left tO do. -/
namespace Go.Proofs.YtfmiioddhpkdkaaGreat.Fl
open Go.RowKit Go.Proofs.YtfmiioddhpkdkaaGreat.Ara Go.Proofs.YtfmiioddhpkdkaaGreat.Lok

theorem do_set (p : PK) (σ : Ar) (sp : List Sp) (k : Nat) (hk : k < sp.length) : ∃ s', (doK p σ sp 0 k).2.2 = sp.set k s' := by
  cases p with
  | tas P =>
    show ∃ s', (Ta.stepP P σ sp k).2.2 = sp.set k s'
    unfold Ta.stepP
    rw [Int.toNat_natCast]
    repeat' (first | exact ⟨_, rfl⟩ | exact ⟨sp[k], (List.set_getElem_self _).symm⟩ | split)
  | tic P =>
    show ∃ s', (Tk.stepP P σ sp k).2.2 = sp.set k s'
    unfold Tk.stepP
    rw [Int.toNat_natCast]
    repeat' (first | exact ⟨_, rfl⟩ | exact ⟨sp[k], (List.set_getElem_self _).symm⟩ | split)
  | par P =>
    show ∃ s', (Pt.stepP P σ sp k).2.2 = sp.set k s'
    unfold Pt.stepP
    rw [Int.toNat_natCast]
    repeat' (first | exact ⟨_, rfl⟩ | exact ⟨sp[k], (List.set_getElem_self _).symm⟩ | split)
  | mcs P =>
    show ∃ s', (Mc.stepP P σ sp k).2.2 = sp.set k s'
    unfold Mc.stepP
    rw [Int.toNat_natCast]
    repeat' (first | exact ⟨_, rfl⟩ | exact ⟨sp[k], (List.set_getElem_self _).symm⟩ | split)
  | clh P =>
    show ∃ s', (Cl.stepP P σ sp k).2.2 = sp.set k s'
    unfold Cl.stepP
    rw [Int.toNat_natCast]
    repeat' (first | exact ⟨_, rfl⟩ | exact ⟨sp[k], (List.set_getElem_self _).symm⟩ | split)
theorem do_rest (p : PK) (σ : Ar) (sp : List Sp) (i : Int) (h : (spOf sp i).pc = 0 ∨ (spOf sp i).pc = 10) : doK p σ sp 0 i = (false, σ, sp) := by
  cases p with
  | tas P => show Ta.stepP P σ sp i = _; unfold Ta.stepP; rw [if_neg (by omega), if_neg (by omega), if_neg (by omega)]
  | tic P => exact Tk.step_no (by omega) (by omega) (by omega)
  | par P => exact Pt.step_no (by omega) (by omega) (by omega)
  | mcs P => exact Mc.step_no h
  | clh P => exact Cl.step_no h
theorem do_other (p : PK) (σ : Ar) (sp : List Sp) (kd i j : Int) (hj : j ≠ i) : spOf (doK p σ sp kd i).2.2 j = spOf sp j := by
  have h0 : spOf (doK p σ sp 0 i).2.2 j = spOf sp j := by
    by_cases hr : 0 ≤ i ∧ i < sp.length
    · obtain ⟨k, rfl⟩ := Int.eq_ofNat_of_zero_le hr.1
      obtain ⟨s', e⟩ := do_set p σ sp k (by omega)
      have hs := spOf_set hr.1 hr.2 s' j
      rw [Int.toNat_natCast] at hs
      rw [e, hs, if_neg hj]
    · rw [do_rest p σ sp i (.inl (by rw [spOf_out (by omega)]; rfl))]
  by_cases hk : kd < 0 ∨ 3 < kd
  · rw [do_else p σ sp kd i hk]
  rcases (show kd = 0 ∨ kd = 1 ∨ kd = 2 ∨ kd = 3 by omega) with rfl | rfl | rfl | rfl
  · exact h0
  · have ht : spOf (turnS sp i 0 1) j = spOf sp j := by rw [spOf_turnS, if_neg (fun h => hj h.2)]
    cases p with
    | tas P =>
      show spOf (Ta.askS sp i) j = _
      unfold Ta.askS
      cases hb : turnB sp i 0 with
      | false => rw [if_neg (by decide)]
      | true =>
        obtain ⟨⟨i0, i1⟩, _⟩ := turn_true hb
        rw [if_pos rfl, spOf_set i0 i1, if_neg hj]
    | _ => exact ht
  · have ht : spOf (turnS sp i 10 11) j = spOf sp j := by rw [spOf_turnS, if_neg (fun h => hj h.2)]
    cases p <;> exact ht
  · cases p <;> rfl
theorem pc_set {sp : List Sp} {i : Int} (i0 : 0 ≤ i) (i1 : i < sp.length) (s' : Sp) : (spOf (sp.set i.toNat s') i).pc = s'.pc := by rw [spOf_set i0 i1, if_pos rfl]
def Nxt (p : PK) (q : List Int) (pc pc' : Int) (b : Bool) (first : Prop) (slow : Prop) : Prop :=
  (pc = 0 → pc' = 0 ∧ b = false) ∧ (pc = 10 → pc' = 10 ∧ b = false) ∧ (0 < pc → pc < dr p → pc' = pc + 1 ∧ b = false) ∧
  (0 < pc → pc = dr p → (q = [] ∧ pc' = 10 ∧ b = true ∧ dr p = 3) ∨ (dr p < pc' ∧ pc' < 10 ∧ b = false)) ∧
  (dr p < pc → pc < 10 → (first → pc' = 10 ∧ b = true) ∧ (¬ first → b = false ∧ ((pc' = pc ∧ ¬ (dr p = 3 ∧ pc = 4)) ∨ (dr p = 3 ∧ pc = 4 ∧ pc' = 5)))) ∧
  (10 < pc → (b = true ∧ pc' = 0) ∨ (b = false ∧ 10 < pc' ∧ dr p = 3 ∧ ((pc = 11 ∧ pc' = 12) ∨ (pc = 11 ∧ pc' = 14) ∨ (pc = 12 ∧ pc' = 13) ∨ (pc = 13 ∧ pc' = 14) ∨ (pc = 13 ∧ pc' = 13 ∧ slow))))
theorem nxt_0 {p : PK} {σ : Ar} {sp : List Sp} {q : List Int} {i : Int} {F G : Prop} (hd : doK p σ sp 0 i = (false, σ, sp)) (e : (spOf sp i).pc = 0) : Nxt p q (spOf sp i).pc (spOf (doK p σ sp 0 i).2.2 i).pc (doK p σ sp 0 i).1 F G := by
  rw [hd, e]
  unfold Nxt
  simp
  intro h
  cases p <;> simp [dr] at h
theorem nxt_10 {p : PK} {σ : Ar} {sp : List Sp} {q : List Int} {i : Int} {F G : Prop} (hd : doK p σ sp 0 i = (false, σ, sp)) (e : (spOf sp i).pc = 10) : Nxt p q (spOf sp i).pc (spOf (doK p σ sp 0 i).2.2 i).pc (doK p σ sp 0 i).1 F G := by
  rw [hd, e]
  unfold Nxt
  cases p <;> simp [dr]
theorem QuK.next {p : PK} {σ : Ar} {sp : List Sp} {q : List Int} (h : QuK p σ sp q) (i : Int) : Nxt p q (spOf sp i).pc (spOf (doK p σ sp 0 i).2.2 i).pc (doK p σ sp 0 i).1 (q.head? = some i) (∃ j t, q = i :: j :: t ∧ (spOf sp j).pc = 4) := by
  cases p with
  | tas P => exact absurd h id
  | tic P =>
    have h : Tkq P σ sp q := h
    rcases h.pcs i with e | e | e | e | e
    · exact nxt_0 (do_rest _ σ sp i (.inl e)) e
    · obtain ⟨i0, i1⟩ := spOf_range (sp := sp) (i := i) (by omega)
      have hd : doK (.tic P) σ sp 0 i = _ := Tk.step_1 e
      rw [hd, pc_set i0 i1, e]
      unfold Nxt
      simp [dr]
    · obtain ⟨i0, i1⟩ := spOf_range (sp := sp) (i := i) (by omega)
      have hd : doK (.tic P) σ sp 0 i = _ := Tk.step_2 e
      by_cases hh : q.head? = some i
      · have hs := h.serves hh
        rw [hd, if_pos hs, pc_set i0 i1, e, show (σ.get (Tk.place P (spOf sp i).a) == (spOf sp i).a) = true from by simpa using hs]
        unfold Nxt
        simp [dr, hh]
      · have hs : ¬ σ.get (Tk.place P (spOf sp i).a) = (spOf sp i).a := fun hs => hh (h.first (.inl e) hs)
        rw [hd, if_neg hs, e, show (σ.get (Tk.place P (spOf sp i).a) == (spOf sp i).a) = false from by simpa using hs]
        unfold Nxt
        simp [dr, hh]
    · exact nxt_10 (do_rest _ σ sp i (.inr e)) e
    · obtain ⟨i0, i1⟩ := spOf_range (sp := sp) (i := i) (by omega)
      have hd : doK (.tic P) σ sp 0 i = _ := Tk.step_11 e
      rw [hd, pc_set i0 i1, e]
      unfold Nxt
      simp [dr]
  | par P =>
    have h : Ptq P σ sp q := h
    rcases h.pcs i with e | e | e | e | e
    · exact nxt_0 (do_rest _ σ sp i (.inl e)) e
    · obtain ⟨i0, i1⟩ := spOf_range (sp := sp) (i := i) (by omega)
      have hd : doK (.par P) σ sp 0 i = _ := Pt.step_1 e
      rw [hd, pc_set i0 i1, e]
      unfold Nxt
      simp [dr]
    · obtain ⟨i0, i1⟩ := spOf_range (sp := sp) (i := i) (by omega)
      have hd : doK (.par P) σ sp 0 i = _ := Pt.step_2 e
      by_cases hh : q.head? = some i
      · have hs := h.serves hh
        rw [hd, if_pos hs, pc_set i0 i1, e, show (σ.get (Pt.place P (spOf sp i).a) == (spOf sp i).a + 1) = true from by simpa using hs]
        unfold Nxt
        simp [dr, hh]
      · have hs : ¬ σ.get (Pt.place P (spOf sp i).a) = (spOf sp i).a + 1 := fun hs => hh (h.first (.inl e) hs)
        rw [hd, if_neg hs, e, show (σ.get (Pt.place P (spOf sp i).a) == (spOf sp i).a + 1) = false from by simpa using hs]
        unfold Nxt
        simp [dr, hh]
    · exact nxt_10 (do_rest _ σ sp i (.inr e)) e
    · obtain ⟨i0, i1⟩ := spOf_range (sp := sp) (i := i) (by omega)
      have hd : doK (.par P) σ sp 0 i = _ := Pt.step_11 e
      rw [hd, pc_set i0 i1, e]
      unfold Nxt
      simp [dr]
  | mcs P =>
    have h : Mc.Inv P σ sp q := h
    rcases mcpcs h i with e | e | e | e | e | e | e | e | e | e | e
    · exact nxt_0 (do_rest _ σ sp i (.inl e)) e
    · obtain ⟨i0, i1⟩ := spOf_range (sp := sp) (i := i) (by omega)
      have hd : doK (.mcs P) σ sp 0 i = _ := Mc.step_1 e
      rw [hd, pc_set i0 i1, e]
      unfold Nxt
      simp [dr]
    · obtain ⟨i0, i1⟩ := spOf_range (sp := sp) (i := i) (by omega)
      have hd : doK (.mcs P) σ sp 0 i = _ := Mc.step_2 e
      rw [hd, pc_set i0 i1, e]
      unfold Nxt
      simp [dr]
    · obtain ⟨i0, i1⟩ := spOf_range (sp := sp) (i := i) (by omega)
      have hd : doK (.mcs P) σ sp 0 i = _ := Mc.step_3 e
      rw [hd, pc_set i0 i1, e]
      unfold Nxt
      by_cases hq : q = []
      · have hz : σ.get P.tail = 0 := by rw [h.gT, hq]; rfl
        simp [dr, hz, hq]
      · obtain ⟨j, j1, j2⟩ := Mc.tailOf_mem hq
        have hj := h.range j j1
        have hz : ¬ σ.get P.tail = 0 := by rw [h.gT, j2]; omega
        simp [dr, hz, hq]
    · have hn : ¬ q.head? = some i := fun hh => (h.hd i hh).1 e
      obtain ⟨i0, i1⟩ := spOf_range (sp := sp) (i := i) (by omega)
      have hd : doK (.mcs P) σ sp 0 i = _ := Mc.step_4 e
      rw [hd, pc_set i0 i1, e]
      unfold Nxt
      simp [dr, hn]
    · obtain ⟨i0, i1⟩ := spOf_range (sp := sp) (i := i) (by omega)
      have hd : doK (.mcs P) σ sp 0 i = _ := Mc.step_5 e
      rw [hd, pc_set i0 i1, e]
      unfold Nxt
      by_cases hh : q.head? = some i
      · have hz := (h.hd i hh).2 e
        simp [dr, hz, hh]
      · have hz : ¬ σ.get (Mc.wt P (i + 1)) = 0 := fun hz => hh (Mc.inv_5 h e hz).2
        simp [dr, hz, hh]
    · exact nxt_10 (do_rest _ σ sp i (.inr e)) e
    · obtain ⟨i0, i1⟩ := spOf_range (sp := sp) (i := i) (by omega)
      have hd : doK (.mcs P) σ sp 0 i = _ := Mc.step_look (.inl e)
      rw [hd, pc_set i0 i1, e]
      unfold Nxt
      by_cases hz : σ.get (Mc.nx P (i + 1)) = 0 <;> simp [dr, hz]
    · obtain ⟨i0, i1⟩ := spOf_range (sp := sp) (i := i) (by omega)
      have hd : doK (.mcs P) σ sp 0 i = _ := Mc.step_12 e
      rw [hd, pc_set i0 i1, e]
      unfold Nxt
      cases hc : (σ.has P.tail && (σ.get P.tail == i + 1)) <;> simp [dr, hc]
    · obtain ⟨i0, i1⟩ := spOf_range (sp := sp) (i := i) (by omega)
      have hd : doK (.mcs P) σ sp 0 i = _ := Mc.step_look (.inr e)
      rw [hd, pc_set i0 i1, e]
      unfold Nxt
      by_cases hz : σ.get (Mc.nx P (i + 1)) = 0
      · have hs : ∃ j t, q = i :: j :: t ∧ (spOf sp j).pc = 4 := by
          rcases h.linked i (by unfold Mc.outs; omega) with ⟨j, t, h1, h2 | h2⟩ | ⟨h1, _⟩
          · exact ⟨j, t, h1, h2.1⟩
          · have hj := h.range j (by rw [h1]; simp)
            rw [hz] at h2
            omega
          · exact absurd h1 (h.p13 i e)
        obtain ⟨j, t, j1, j2⟩ := hs
        simp [dr, hz]
        exact ⟨j, ⟨t, j1⟩, j2⟩
      · simp [dr, hz]
    · obtain ⟨i0, i1⟩ := spOf_range (sp := sp) (i := i) (by omega)
      have hd : doK (.mcs P) σ sp 0 i = _ := Mc.step_14 e
      rw [hd, pc_set i0 i1, e]
      unfold Nxt
      simp [dr]
  | clh P =>
    obtain ⟨z, h⟩ := h
    rcases clpcs h i with e | e | e | e | e | e
    · exact nxt_0 (do_rest _ σ sp i (.inl e)) e
    · obtain ⟨i0, i1⟩ := spOf_range (sp := sp) (i := i) (by omega)
      have hd : doK (.clh P) σ sp 0 i = _ := Cl.step_1 e
      rw [hd, pc_set i0 i1, e]
      unfold Nxt
      simp [dr]
    · obtain ⟨i0, i1⟩ := spOf_range (sp := sp) (i := i) (by omega)
      have hd : doK (.clh P) σ sp 0 i = _ := Cl.step_2 e
      rw [hd, pc_set i0 i1, e]
      unfold Nxt
      simp [dr]
    · obtain ⟨i0, i1⟩ := spOf_range (sp := sp) (i := i) (by omega)
      have hd : doK (.clh P) σ sp 0 i = _ := Cl.step_3 e
      by_cases hh : q.head? = some i
      · have hs : σ.get (Cl.box P (spOf sp i).b) = 0 := by
          have hc := h.ch
          cases q with
          | nil => simp at hh
          | cons a t =>
            obtain rfl : a = i := by simpa using hh
            rw [hc.1]
            exact h.gz
        rw [hd, if_pos hs, pc_set i0 i1, e, show (σ.get (Cl.box P (spOf sp i).b) == 0) = true from by simpa using hs]
        unfold Nxt
        simp [dr, hh]
      · have hs : ¬ σ.get (Cl.box P (spOf sp i).b) = 0 := fun hs => hh (h.head i (.inl e) hs)
        rw [hd, if_neg hs, e, show (σ.get (Cl.box P (spOf sp i).b) == 0) = false from by simpa using hs]
        unfold Nxt
        simp [dr, hh]
    · exact nxt_10 (do_rest _ σ sp i (.inr e)) e
    · obtain ⟨i0, i1⟩ := spOf_range (sp := sp) (i := i) (by omega)
      have hd : doK (.clh P) σ sp 0 i = _ := Cl.step_11 e
      rw [hd, pc_set i0 i1, e]
      unfold Nxt
      simp [dr]
end Go.Proofs.YtfmiioddhpkdkaaGreat.Fl

/- Locks of any kind: how an act turns its slot's step: the plain law. -/
namespace Go.Proofs.YtfmiioddhpkdkaaGreat.Fl
open Go.RowKit Go.Proofs.YtfmiioddhpkdkaaGreat.Ara Go.Proofs.YtfmiioddhpkdkaaGreat.Lok Go.Proofs.YtfmiioddhpkdkaaGreat.Ga

section
variable {p : PK} {σ : Ar} {sp : List Sp} {n m : Nat} (h : OkK p σ sp n m)
include h
theorem OkK.pos (i : Int) : 0 ≤ (spOf sp i).pc := by
  cases p with
  | tas P => have := (Ta.OkP.inv h).pcs i; unfold Ta.holds at this; omega
  | tic P => obtain ⟨S, T, hi, _⟩ := Tk.OkP.inv h; have := hi.pcs i; unfold Tk.inq at this; omega
  | par P => obtain ⟨S, T, hi, _⟩ := Pt.OkP.inv h; have := hi.pcs i; unfold Pt.inq at this; omega
  | mcs P => obtain ⟨q, hi⟩ := Mc.OkP.inv h; have := mcpcs hi i; omega
  | clh P => obtain ⟨z, q, hi⟩ := Cl.OkP.inv h; have := clpcs hi i; omega
theorem OkK.sole {i j : Int} (hi : 10 ≤ (spOf sp i).pc) (hj : 10 ≤ (spOf sp j).pc) : i = j := by
  cases p with
  | tas P =>
    have hv := Ta.OkP.inv h
    have h1 := hv.pcs i
    have h2 := hv.pcs j
    have h3 := hv.hold i (by unfold Ta.holds at *; omega)
    have h4 := hv.hold j (by unfold Ta.holds at *; omega)
    omega
  | tic P =>
    obtain ⟨S, T, hv, _⟩ := Tk.OkP.inv h
    have h1 := hv.pcs i
    have h2 := hv.pcs j
    unfold Tk.inq at h1 h2
    exact hv.inj i j (by unfold Tk.inq; omega) (by unfold Tk.inq; omega) ((hv.hold i (by omega)).trans (hv.hold j (by omega)).symm)
  | par P =>
    obtain ⟨S, T, hv, _⟩ := Pt.OkP.inv h
    have h1 := hv.pcs i
    have h2 := hv.pcs j
    unfold Pt.inq at h1 h2
    exact hv.inj i j (by unfold Pt.inq; omega) (by unfold Pt.inq; omega) ((hv.hold i (by omega)).trans (hv.hold j (by omega)).symm)
  | mcs P =>
    obtain ⟨q, hv⟩ := Mc.OkP.inv h
    have h1 := QuK.head (p := .mcs P) hv hi
    have h2 := QuK.head (p := .mcs P) hv hj
    rw [h1] at h2
    injection h2
  | clh P =>
    obtain ⟨z, q, hv⟩ := Cl.OkP.inv h
    have h1 := QuK.head (p := .clh P) (q := q) ⟨z, hv⟩ hi
    have h2 := QuK.head (p := .clh P) (q := q) ⟨z, hv⟩ hj
    rw [h1] at h2
    injection h2
theorem OkK.step_pc (i : Int) : ((spOf sp i).pc = 0 → (spOf (doK p σ sp 0 i).2.2 i).pc = 0 ∧ (doK p σ sp 0 i).1 = false) ∧ ((spOf sp i).pc = 10 → (spOf (doK p σ sp 0 i).2.2 i).pc = 10 ∧ (doK p σ sp 0 i).1 = false) ∧
    (0 < (spOf sp i).pc → (spOf sp i).pc < 10 → ((doK p σ sp 0 i).1 = true ∧ (spOf (doK p σ sp 0 i).2.2 i).pc = 10) ∨ ((doK p σ sp 0 i).1 = false ∧ 0 < (spOf (doK p σ sp 0 i).2.2 i).pc ∧ (spOf (doK p σ sp 0 i).2.2 i).pc < 10)) ∧
    (10 < (spOf sp i).pc → ((doK p σ sp 0 i).1 = true ∧ (spOf (doK p σ sp 0 i).2.2 i).pc = 0) ∨ ((doK p σ sp 0 i).1 = false ∧ 10 < (spOf (doK p σ sp 0 i).2.2 i).pc)) := by
  have hrest : (spOf sp i).pc = 0 ∨ (spOf sp i).pc = 10 → (spOf (doK p σ sp 0 i).2.2 i).pc = (spOf sp i).pc ∧ (doK p σ sp 0 i).1 = false := fun e => by rw [do_rest p σ sp i e]; exact ⟨rfl, rfl⟩
  have hp' := OkK.pos (h.act 0 i) i
  refine ⟨fun e => ⟨(hrest (.inl e)).1.trans e, (hrest (.inl e)).2⟩, fun e => ⟨(hrest (.inr e)).1.trans e, (hrest (.inr e)).2⟩, fun e1 e2 => ?_, fun e1 => ?_⟩
  · obtain ⟨i0, i1⟩ := spOf_range (sp := sp) (i := i) (by omega)
    obtain ⟨k, rfl⟩ := Int.eq_ofNat_of_zero_le i0
    have hk : k < sp.length := by omega
    obtain ⟨s', hs', hst, _⟩ := sw_k σ sp k hk p
    rw [spOf_in hk] at e1 e2
    have hg := hst (gst_1 ⟨by omega, by omega⟩)
    have hs2 : spOf (doK p σ sp 0 (k : Int)).2.2 (k : Int) = s' := by rw [hs']; have := spOf_set (sp := sp) i0 i1 s' k; rw [Int.toNat_natCast] at this; rw [this, if_pos rfl]
    rw [hs2] at hp' ⊢
    cases hb : (doK p σ sp 0 (k : Int)).1 with
    | true =>
      rw [hb, if_pos rfl] at hg
      left
      refine ⟨rfl, ?_⟩
      unfold gst at hg
      repeat' split at hg
      all_goals first | assumption | omega
    | false =>
      rw [hb, if_neg (by decide)] at hg
      right
      refine ⟨rfl, ?_⟩
      unfold gst at hg
      repeat' split at hg
      all_goals omega
  · obtain ⟨i0, i1⟩ := spOf_range (sp := sp) (i := i) (by omega)
    obtain ⟨k, rfl⟩ := Int.eq_ofNat_of_zero_le i0
    have hk : k < sp.length := by omega
    obtain ⟨s', hs', _, hst⟩ := sw_k σ sp k hk p
    rw [spOf_in hk] at e1
    have hg := hst (gst_3 e1)
    have hs2 : spOf (doK p σ sp 0 (k : Int)).2.2 (k : Int) = s' := by rw [hs']; have := spOf_set (sp := sp) i0 i1 s' k; rw [Int.toNat_natCast] at this; rw [this, if_pos rfl]
    rw [hs2] at hp' ⊢
    cases hb : (doK p σ sp 0 (k : Int)).1 with
    | true =>
      rw [hb, if_pos rfl] at hg
      left
      refine ⟨rfl, ?_⟩
      unfold gst at hg
      repeat' split at hg
      all_goals first | assumption | omega
    | false =>
      rw [hb, if_neg (by decide)] at hg
      right
      refine ⟨rfl, ?_⟩
      unfold gst at hg
      repeat' split at hg
      all_goals omega
end
theorem ask_pc (p : PK) (σ : Ar) {sp : List Sp} {i : Int} (i0 : 0 ≤ i) (i1 : i < sp.length) (e : (spOf sp i).pc = 0) : (spOf (doK p σ sp 1 i).2.2 i).pc = 1 ∧ (doK p σ sp 1 i).2.1 = σ := by
  have ht : turnB sp i 0 = true := by
    obtain ⟨k, rfl⟩ := Int.eq_ofNat_of_zero_le i0
    rw [spOf_in (by omega)] at e
    rw [turn_in (by omega), e]
    rfl
  have hta : (spOf (turnS sp i 0 1) i).pc = 1 := by rw [spOf_turnS, if_pos ⟨ht, rfl⟩]
  cases p with
  | tas P =>
    refine ⟨?_, rfl⟩
    show (spOf (Ta.askS sp i) i).pc = 1
    unfold Ta.askS
    rw [if_pos ht, spOf_set i0 i1, if_pos rfl]
  | tic P => exact ⟨hta, rfl⟩
  | par P => exact ⟨hta, rfl⟩
  | mcs P => exact ⟨hta, rfl⟩
  | clh P => exact ⟨hta, rfl⟩
theorem leave_pc (p : PK) (σ : Ar) {sp : List Sp} {i : Int} (e : (spOf sp i).pc = 10) : (spOf (doK p σ sp 2 i).2.2 i).pc = 11 ∧ (doK p σ sp 2 i).2.1 = σ := by
  obtain ⟨i0, i1⟩ := spOf_range (sp := sp) (i := i) (by omega)
  have ht : turnB sp i 10 = true := by
    obtain ⟨k, rfl⟩ := Int.eq_ofNat_of_zero_le i0
    rw [spOf_in (by omega)] at e
    rw [turn_in (by omega), e]
    rfl
  have hta : (spOf (turnS sp i 10 11) i).pc = 11 := by rw [spOf_turnS, if_pos ⟨ht, rfl⟩]
  cases p <;> exact ⟨hta, rfl⟩
theorem alone_sp (p : PK) (σ : Ar) (sp : List Sp) (i : Int) : (doK p σ sp 3 i).2.2 = sp := by cases p <;> rfl
end Go.Proofs.YtfmiioddhpkdkaaGreat.Fl

/- Stays of a trace: as the reference looks ahead for them, and as the program goes along: the plain law. -/
namespace Go.Proofs.YtfmiioddhpkdkaaGreat.Sp

structure E where
  kind : Int
  th : Int
  rd : Bool
  ct : Int
@[ext] structure St where
  th : Int
  rd : Bool
  ask : Int
  en : Int
  ex : Int
  re : Int
  ct : Int
def e0 : E := ⟨0, 0, false, 0⟩
def hit (kd t : Int) (e : E) : Bool := decide (e.kind = kd) && decide (e.th = t)
def nxF (kd t : Int) : List E → Nat → Int
  | [], _ => -1
  | e :: r, i => if hit kd t e then (i : Int) else nxF kd t r (i + 1)
def nx (l : List E) (f : Nat) (kd t : Int) : Int := nxF kd t (l.drop f) f
def bh (l : List E) (a kd t : Int) : Int := if a < 0 then -1 else nx l (a.toNat + 1) kd t
def stay (l : List E) (a : Nat) (e : E) : St :=
  ⟨e.th, e.rd, a, bh l a 2 e.th, bh l (bh l a 2 e.th) 3 e.th, bh l (bh l (bh l a 2 e.th) 3 e.th) 4 e.th, if 0 ≤ bh l a 2 e.th then (l.getD (bh l a 2 e.th).toNat e0).ct else 0⟩
def noteP (k : Nat) (s : St) (e : E) : St :=
  if e.kind = 2 ∧ s.en < 0 then { s with en := k, ct := e.ct }
  else if e.kind = 3 ∧ 0 ≤ s.en ∧ s.ex < 0 then { s with ex := k }
  else if e.kind = 4 ∧ 0 ≤ s.ex then { s with re := k }
  else s
/-! the two ways -/
def isO (t : Int) (s : St) : Bool := decide (s.th = t) && decide (s.re < 0)
def stepR (l : List E) (out : List St) (k : Nat) : List St :=
  let e := l.getD k e0
  if e.kind = 1 ∧ ∀ s ∈ out, s.th = e.th → ¬ (s.re < 0 ∨ (k : Int) < s.re) then out ++ [stay l k e] else out
def outR (l : List E) : Nat → List St
  | 0 => []
  | k + 1 => stepR l (outR l k) k
def stepP (out : List St) (k : Nat) (e : E) : List St :=
  if out.any (isO e.th) then out.map fun s => if isO e.th s then noteP k s e else s
  else if e.kind = 1 then out ++ [⟨e.th, e.rd, k, -1, -1, -1, 0⟩] else out
def Asked (l : List E) (k : Nat) (out : List St) : Prop := ∀ s ∈ out, ∃ a e, a < k ∧ s = stay l a e
theorem asked (l : List E) : ∀ k, Asked l k (outR l k)
  | 0 => fun s hs => by cases hs
  | k + 1 => fun s hs => by
    have ih := asked l k
    unfold outR stepR at hs
    simp only at hs
    split at hs
    · rcases List.mem_append.1 hs with hs | hs
      · obtain ⟨a, e, ha, he⟩ := ih s hs
        exact ⟨a, e, by omega, he⟩
      · rw [List.mem_singleton] at hs
        exact ⟨k, _, by omega, hs⟩
    · obtain ⟨a, e, ha, he⟩ := ih s hs
      exact ⟨a, e, by omega, he⟩
def outP (l : List E) : Nat → List St
  | 0 => []
  | k + 1 => stepP (outP l k) k (l.getD k e0)
end Go.Proofs.YtfmiioddhpkdkaaGreat.Sp

/- Who asks first enters first, in the kinds that keep order, if each takes its first three steps at once: the plain law. -/
namespace Go.Proofs.YtfmiioddhpkdkaaGreat.Wf
open Go.RowKit Go.Proofs.YtfmiioddhpkdkaaGreat.Ara Go.Proofs.YtfmiioddhpkdkaaGreat.Lok Go.Proofs.YtfmiioddhpkdkaaGreat.Fl Go.Proofs.YtfmiioddhpkdkaaGreat.Ga Go.Proofs.YtfmiioddhpkdkaaGreat.Sp

abbrev Ev4 := Int × Int × Bool × Int
def fact (p : PK) (σ : Ar) (sp : List Sp) (t w : Int) : Ev4 × Ar × List Sp :=
  if t < 0 ∨ (sp.length : Int) ≤ t then ((0, 0, false, 0), σ, sp)
  else if w = 0 then
    if gst (spOf sp t) = 1 ∨ gst (spOf sp t) = 3 then
      (if (doK p σ sp 0 t).1 then (if gst (spOf sp t) = 1 then (2, t, false, 1) else (4, t, false, 0)) else (0, t, false, 0), (doK p σ sp 0 t).2)
    else ((0, t, false, 0), σ, sp)
  else if w = 1 then (if (doK p σ sp 1 t).1 then (1, t, false, 0) else (5, t, false, 0), (doK p σ sp 1 t).2)
  else if w = 2 then (if (doK p σ sp 2 t).1 then (3, t, false, 0) else (5, t, false, 0), (doK p σ sp 2 t).2)
  else ((5, t, false, 0), σ, sp)
def eOf (e : Ev4) : E := ⟨e.1, e.2.1, e.2.2.1, e.2.2.2⟩
theorem fturn (p : PK) (σ : Ar) (sp : List Sp) (k : Nat) (hk : k < sp.length) : (sp[k].pc = 0 ∧ ∃ s', doK p σ sp 1 k = (true, σ, sp.set k s') ∧ s'.pc = 1) ∨ (¬ sp[k].pc = 0 ∧ doK p σ sp 1 k = (false, σ, sp)) := by
  have hta : (sp[k].pc = 0 ∧ ∃ s', (turnB sp k 0, σ, turnS sp k 0 1) = (true, σ, sp.set k s') ∧ s'.pc = 1) ∨ (¬ sp[k].pc = 0 ∧ (turnB sp k 0, σ, turnS sp k 0 1) = (false, σ, sp)) := by
    rw [turn_in hk, turnS_in hk]
    by_cases h : sp[k].pc = 0
    · exact .inl ⟨h, _, by rw [if_pos h, show (sp[k].pc == 0) = true from by simpa using h], rfl⟩
    · exact .inr ⟨h, by rw [if_neg h, show (sp[k].pc == 0) = false from by simpa using h]⟩
  cases p with
  | tas P =>
    show (sp[k].pc = 0 ∧ ∃ s', (turnB sp k 0, σ, Ta.askS sp k) = (true, σ, sp.set k s') ∧ s'.pc = 1) ∨ (¬ sp[k].pc = 0 ∧ (turnB sp k 0, σ, Ta.askS sp k) = (false, σ, sp))
    unfold Ta.askS
    rw [turn_in hk, spOf_in hk, Int.toNat_natCast]
    by_cases h : sp[k].pc = 0
    · exact .inl ⟨h, _, by rw [show (sp[k].pc == 0) = true from by simpa using h, if_pos rfl], rfl⟩
    · exact .inr ⟨h, by rw [show (sp[k].pc == 0) = false from by simpa using h, if_neg (by decide)]⟩
  | tic P => exact hta
  | par P => exact hta
  | mcs P => exact hta
  | clh P => exact hta
theorem fleave (p : PK) (σ : Ar) (sp : List Sp) (k : Nat) (hk : k < sp.length) : (sp[k].pc = 10 ∧ ∃ s', doK p σ sp 2 k = (true, σ, sp.set k s') ∧ s'.pc = 11) ∨ (¬ sp[k].pc = 10 ∧ doK p σ sp 2 k = (false, σ, sp)) := by
  have hta : (sp[k].pc = 10 ∧ ∃ s', (turnB sp k 10, σ, turnS sp k 10 11) = (true, σ, sp.set k s') ∧ s'.pc = 11) ∨ (¬ sp[k].pc = 10 ∧ (turnB sp k 10, σ, turnS sp k 10 11) = (false, σ, sp)) := by
    rw [turn_in hk, turnS_in hk]
    by_cases h : sp[k].pc = 10
    · exact .inl ⟨h, _, by rw [if_pos h, show (sp[k].pc == 10) = true from by simpa using h], rfl⟩
    · exact .inr ⟨h, by rw [if_neg h, show (sp[k].pc == 10) = false from by simpa using h]⟩
  cases p <;> exact hta
theorem stepP_id {out : List St} {k : Nat} {e : E} (h : e.kind = 0 ∨ e.kind = 5) : stepP out k e = out := by
  unfold stepP
  have hn : ∀ s, noteP k s e = s := fun s => by
    unfold noteP
    rw [if_neg (by omega), if_neg (by omega), if_neg (by omega)]
  split
  · conv => rhs; rw [← List.map_id out]
    refine List.map_congr_left fun s _ => ?_
    simp only [hn, ite_self, id]
  · rw [if_neg (by omega)]
def pend (sp : List Sp) (q : List Int) (W : List Int) : List Int := q.filter (fun i => decide ((spOf sp i).pc < 10)) ++ W
structure Fi (p : PK) (σ : Ar) (sp : List Sp) (q : List Int) (a b : List St) (k : Nat) (W : List Int) : Prop where
  Q : QuK p σ sp q
  srt : a.Pairwise fun x y => x.en < y.en
  A : ∀ s ∈ a, (0 ≤ s.en ∧ s.en < (k : Int)) ∧ (s.re < 0 → ((spOf sp s.th).pc = 10 ∧ s.ex < 0) ∨ (10 < (spOf sp s.th).pc ∧ 0 ≤ s.ex))
  B : ∀ s ∈ b, s.en < 0 ∧ s.ex < 0 ∧ s.re < 0
  P : b.map (·.th) = pend sp q W
  C : ∀ t, 10 ≤ (spOf sp t).pc → ∃ s ∈ a, s.th = t ∧ s.re < 0
  W1 : ∀ t, 0 < (spOf sp t).pc → (spOf sp t).pc ≤ dr p → t ∈ W
  W2 : W = [] ∨ ∃ u, W = [u] ∧ 0 < (spOf sp u).pc ∧ (spOf sp u).pc ≤ dr p
section
variable {p : PK} {σ : Ar} {sp : List Sp} {q : List Int} {a b : List St} {k : Nat} {W : List Int} (h : Fi p σ sp q a b k W)
include h
theorem Fi.up : Fi p σ sp q a b (k + 1) W := ⟨h.Q, h.srt, fun s hs => by have := h.A s hs; exact ⟨by omega, this.2⟩, h.B, h.P, h.C, h.W1, h.W2⟩
theorem dr3 : 1 ≤ dr p ∧ dr p ≤ 3 := by
  have hQ := h.Q
  cases p with
  | tas P => exact absurd hQ id
  | tic P => exact ⟨by show (1 : Int) ≤ 1; omega, by show (1 : Int) ≤ 3; omega⟩
  | par P => exact ⟨by show (1 : Int) ≤ 1; omega, by show (1 : Int) ≤ 3; omega⟩
  | mcs P => exact ⟨by show (1 : Int) ≤ 3; omega, by show (3 : Int) ≤ 3; omega⟩
  | clh P => exact ⟨by show (1 : Int) ≤ 2; omega, by show (2 : Int) ≤ 3; omega⟩
theorem Fi.mem (t : Int) : t ∈ b.map (·.th) ↔ 0 < (spOf sp t).pc ∧ (spOf sp t).pc < 10 := by
  have hd := dr3 h
  rw [h.P]
  unfold pend
  rw [List.mem_append, List.mem_filter, h.Q.mem t, decide_eq_true_iff]
  constructor
  · rintro (⟨h1, h2⟩ | h1)
    · omega
    · rcases h.W2 with e | ⟨u, e, h3, h4⟩
      · rw [e] at h1; cases h1
      · rw [e, List.mem_singleton] at h1
        subst h1
        omega
  · rintro ⟨h1, h2⟩
    by_cases h3 : dr p < (spOf sp t).pc
    · exact .inl ⟨h3, h2⟩
    · exact .inr (h.W1 t h1 (by omega))
theorem Fi.nodup : (b.map (·.th)).Nodup := by
  rw [h.P]
  unfold pend
  rcases h.W2 with e | ⟨u, e, h3, h4⟩
  · rw [e, List.append_nil]
    exact h.Q.nodup.filter _
  · rw [e]
    refine List.nodup_append.2 ⟨h.Q.nodup.filter _, by simp, fun x hx y hy => ?_⟩
    rw [List.mem_singleton] at hy
    subst hy
    have := (h.Q.mem x).1 (List.mem_filter.1 hx).1
    intro e2
    subst e2
    omega
theorem Fi.opens (t : Int) : (a ++ b).any (isO t) = true ↔ 0 < (spOf sp t).pc := by
  rw [List.any_append, Bool.or_eq_true, List.any_eq_true, List.any_eq_true]
  unfold isO
  constructor
  · rintro (⟨s, hs, h1⟩ | ⟨s, hs, h1⟩) <;> rw [Bool.and_eq_true, decide_eq_true_iff, decide_eq_true_iff] at h1
    · have := (h.A s hs).2 h1.2
      rw [← h1.1]
      omega
    · have := (h.mem s.th).1 (List.mem_map_of_mem hs)
      rw [← h1.1]
      omega
  · intro h1
    by_cases h2 : (spOf sp t).pc < 10
    · obtain ⟨s, hs, e⟩ := List.mem_map.1 ((h.mem t).2 ⟨h1, h2⟩)
      exact .inr ⟨s, hs, by rw [Bool.and_eq_true, decide_eq_true_iff, decide_eq_true_iff]; exact ⟨e, (h.B s hs).2.2⟩⟩
    · obtain ⟨s, hs, e, hr⟩ := h.C t (by omega)
      exact .inl ⟨s, hs, by rw [Bool.and_eq_true, decide_eq_true_iff, decide_eq_true_iff]; exact ⟨e, hr⟩⟩
end
end Go.Proofs.YtfmiioddhpkdkaaGreat.Wf

