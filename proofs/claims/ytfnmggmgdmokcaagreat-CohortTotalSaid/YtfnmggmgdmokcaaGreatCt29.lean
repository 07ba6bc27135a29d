/- Merged texts: Co13, Co14, CoB, CmB, Rn2. -/
import Derived.Test.YtfnmggmgdmokcaaGreatCt28
set_option linter.unusedVariables false
/- How many enter between a thread's local doorway and its entry: the plain law. -/
namespace Go.Proofs.YtfnmggmgdmokcaaGreat.Co
open Go.RowKit Go.Proofs.YtfnmggmgdmokcaaGreat.Ara Go.Proofs.YtfnmggmgdmokcaaGreat.Lok Go.Proofs.YtfnmggmgdmokcaaGreat.Fl Go.Proofs.YtfnmggmgdmokcaaGreat.Sn

theorem ahead_end1 {c : Int → Nat} {q : List Int} {v w : Int} {M C : Nat} (h : ∀ u, u ∈ q → c u ≤ C) (hw : w ∈ q) (hv : v ∉ q) (hc : c w + M ≤ C) : Sn.ahead c (q ++ [v]) v + M ≤ q.length * C := by
  induction q with
  | nil => simp at hw
  | cons u r ih =>
    have huv : u ≠ v := fun e => hv (by simp [e])
    show Sn.ahead c (u :: (r ++ [v])) v + M ≤ _
    unfold Sn.ahead
    rw [if_neg huv, List.length_cons, Nat.add_mul]
    have h1 := h u (by simp)
    have h2 := ahead_end (v := v) C (fun w hw => h w (by simp [hw]) : ∀ u, u ∈ r → c u ≤ C)
    by_cases e : w = u
    · subst e; omega
    · have h3 := ih (fun w hw => h w (by simp [hw])) (by rcases List.mem_cons.1 hw with h4 | h4; exact absurd h4 e; exact h4) (fun h4 => hv (List.mem_cons_of_mem _ h4))
      omega
theorem ahead_drop {c c' : Int → Nat} {q : List Int} {t v : Int} {d : Nat} (h : ∀ u, u ∈ q → u ≠ t → c' u ≤ c u) (hv : isAhead q t v) (hl : c' v + d ≤ c v) : Sn.ahead c' q t + d ≤ Sn.ahead c q t := by
  induction q with
  | nil => exact absurd hv id
  | cons u r ih =>
    obtain ⟨e, hv⟩ := hv
    unfold Sn.ahead
    rw [if_neg e, if_neg e]
    have h1 := h u (by simp) e
    have h2 := ahead_le (c := c) (c' := c') (q := r) (t := t) (fun v hv => h v (by simp [hv]))
    rcases hv with rfl | hv
    · omega
    · have := ih (fun v hv => h v (by simp [hv])) hv
      omega
theorem lq_le {c c' : Int → Nat} {q q' : List Int} {s v : Int} (hw : Qw q q' s) (hnd : q.Nodup) (hv : v ∈ q) (hv' : v ∈ q') (le : ∀ u, u ∈ q' → c' u ≤ c u) : Sn.ahead c' q' v ≤ Sn.ahead c q v := by
  rcases hw with e1 | e1 | e1
  · rw [e1] at le ⊢
    exact ahead_le fun u hu _ => le u hu
  · rw [e1, ahead_push hv]
    exact ahead_le fun u hu _ => le u (by rw [e1]; simp [hu])
  · rw [e1] at hnd ⊢
    have hsv : s ≠ v := fun e9 => (List.nodup_cons.1 hnd).1 (e9 ▸ hv')
    have : Sn.ahead c (s :: q') v = c s + Sn.ahead c q' v := by
      show (if s = v then 0 else _) = _
      rw [if_neg hsv]
    rw [this]
    exact Nat.le_trans (ahead_le fun u hu _ => le u hu) (Nat.le_add_left _ _)
def Sj (P : Pm) : Prop := ∀ k, k < P.T → ∀ s, s < P.mt (P.nd k) → ∃ u, u < P.T ∧ P.nd u = P.nd k ∧ P.sl u = s
def thOf (P : Pm) (n : Nat) (s : Int) : Nat := ((List.range P.T).find? (fun t => decide (P.nd t = n) && decide ((P.sl t : Int) = s))).getD P.T
theorem thOf_eq {P : Pm} (D : Dj P) {t : Nat} (ht : t < P.T) : thOf P (P.nd t) (P.sl t) = t := by
  unfold thOf
  cases h : (List.range P.T).find? (fun u => decide (P.nd u = P.nd t) && decide ((P.sl u : Int) = (P.sl t : Int))) with
  | none => exact absurd (List.find?_eq_none.1 h t (List.mem_range.2 ht)) (by simp)
  | some u =>
    have h1 := List.find?_some h
    have h2 := List.mem_range.1 (List.mem_of_find?_eq_some h)
    simp only [Bool.and_eq_true, decide_eq_true_eq] at h1
    exact D.inj u t h2 ht h1.1 (by omega)
def mst (P : Pm) : Nat := (P.NN - 1) * (P.B + 1).toNat
def c1 (P : Pm) (x : CS) (n : Nat) (s : Int) : Nat := if pcT x (thOf P n s) < 10 then 1 else 0
def may (P : Pm) (x : CS) (u : Nat) : Nat := if pcT x u ≤ 2 ∨ (pcT x u = 3 ∧ pcG x (P.nd u) ≤ dr P.pg) then 1 else 0
def c2 (P : Pm) (x : CS) (n : Nat) (s : Int) : Nat := c1 P x n s + mst P * may P x (thOf P n s)
def rk (P : Pm) (x : CS) (last : Option (Nat × Int)) (q : List Int) (n : Nat) : Nat := if behind P x n then Sn.ahead (rem P x last) q n else 0
def waits (P : Pm) (x : CS) (k : Nat) : Prop := (0 < pcT x k ∧ pcT x k < 10) ∧ dr (P.pl (P.nd k)) < pcL P x k
instance (P : Pm) (x : CS) (k : Nat) : Decidable (waits P x k) := by unfold waits; exact inferInstance
theorem may_le (P : Pm) (x : CS) (u : Nat) : may P x u ≤ 1 := by unfold may; split <;> omega
section
variable {P : Pm} {x : CS} {m : Nat} (D : Dj P) (H : CI P x m) {q : List Int} (hq : QuK P.pg x.σ x.g q)
include D H hq
omit D H in
theorem glo_keep {t : Nat} (a : pcT x t = 3) (h1 : dr P.pg < pcG x (P.nd t)) (h2 : pcG x (P.nd t) < 10) : dr P.pg < pcG (stepC P x t) (P.nd t) := by
  have hn := hq.next (P.nd t : Int)
  have hxx : pcG (stepC P x t) (P.nd t) = (spOf (doK P.pg x.σ x.g 0 (P.nd t)).2.2 (P.nd t)).pc := by
    unfold stepC
    rw [if_neg (by show ¬ (pcT x t = 0 ∨ pcT x t = 10); omega), Int.toNat_natCast, if_pos (by show pcT x t < 10; omega)]
    unfold inC
    rw [if_neg (by show ¬ pcT x t = 1; omega), if_neg (by show ¬ pcT x t = 2; omega), if_pos a]
  rw [hxx]
  have hd := dr_pos P.pg
  unfold Nxt at hn
  have h5 := hn.2.2.2.2.1 h1 h2
  by_cases hf : q.head? = some (P.nd t : Int)
  · have := (h5.1 hf).1; omega
  · have := (h5.2 hf).2
    have h1' : dr P.pg < (spOf x.g (P.nd t)).pc := h1
    omega
theorem cnt_le (kd i : Int) {w : Nat} (hw : w < P.T) (hl : dr (P.pl (P.nd w)) < pcL P (doC P x kd i) w) : (pcT (doC P x kd i) w < 10 → pcT x w < 10) ∧ may P (doC P x kd i) w ≤ may P x w := by
  have ha := H.aw D kd i
  have hd0 := dr_pos (P.pl (P.nd w))
  have hdg := dr_pos P.pg
  generalize doC P x kd i = x' at *
  have hyes : pcT x w ≤ 2 → may P x w = 1 := fun h => by unfold may; rw [if_pos (.inl h)]
  have hb := may_le P x' w
  have hno : ¬ (pcT x' w ≤ 2 ∨ (pcT x' w = 3 ∧ pcG x' (P.nd w) ≤ dr P.pg)) → may P x' w ≤ may P x w := fun h => by
    have : may P x' w = 0 := by unfold may; rw [if_neg h]
    omega
  cases ha with
  | same e => subst e; exact ⟨id, Nat.le_refl _⟩
  | ask t ht e h0 h1 hσ hg hlo hl1 ho =>
    by_cases ew : w = t
    · subst ew; exact ⟨fun _ => by omega, by have := hyes (by omega); omega⟩
    · have e1 : pcT x' w = pcT x w := congrArg Sp.pc (ho.S w ew)
      exact ⟨fun h => by omega, by unfold may; rw [e1, show pcG x' (P.nd w) = pcG x (P.nd w) by show (spOf x'.g _).pc = _; rw [hg]]; exact Nat.le_refl _⟩
  | leave t ht e h0 h1 ha hσ hg hlo ho =>
    by_cases ew : w = t
    · subst ew; exact ⟨fun _ => by omega, hno (by omega)⟩
    · have e1 : pcT x' w = pcT x w := congrArg Sp.pc (ho.S w ew)
      exact ⟨fun h => by omega, by unfold may; rw [e1, show pcG x' (P.nd w) = pcG x (P.nd w) by show (spOf x'.g _).pc = _; rw [hg]]; exact Nat.le_refl _⟩
  | step t ht e hx hm ho =>
    by_cases ew : w = t
    · subst ew
      have h3 : pcT x w = 3 → pcG x (P.nd w) ≤ dr P.pg → may P x w = 1 := fun h h' => by unfold may; rw [if_pos (.inr ⟨h, h'⟩)]
      cases hm with
      | rest e hp => subst e; exact ⟨id, Nat.le_refl _⟩
      | loc1 a b c d e => exact ⟨fun _ => by omega, by have := hyes (by omega); omega⟩
      | got1 a b c d e => exact ⟨fun _ => by omega, by have := hyes (by omega); omega⟩
      | ent2 a b c d e f g k => exact ⟨fun _ => by omega, hno (by omega)⟩
      | ask2 a b c d e f g => exact ⟨fun _ => by omega, by have := hyes (by omega); omega⟩
      | glo3 a b c d e f g =>
        refine ⟨fun _ => by omega, ?_⟩
        by_cases hp : pcG x (P.nd w) ≤ dr P.pg
        · have := h3 a hp; omega
        · refine hno ?_
          have := glo_keep hq a (by omega) (by omega)
          rw [← hx] at this
          omega
      | got3 a b c d e f g => exact ⟨fun _ => by omega, hno (by omega)⟩
      | ent4 a b c d e f g k => exact ⟨fun _ => by omega, hno (by omega)⟩
      | ld11 a b c d e f => exact ⟨fun _ => by omega, hno (by omega)⟩
      | al12 a b c d e f => exact ⟨fun _ => by omega, hno (by omega)⟩
      | st13 a b c d e f g => exact ⟨fun _ => by omega, hno (by omega)⟩
      | st14 a b c d e f => exact ⟨fun _ => by omega, hno (by omega)⟩
      | glo15 a b c d e f g => exact ⟨fun _ => by omega, hno (by omega)⟩
      | got15 a b c d e f g => exact ⟨fun _ => by omega, hno (by omega)⟩
      | loc16 a b c d e => exact ⟨fun _ => by omega, hno (by omega)⟩
      | got16 a b c d e => omega
    · have e1 : pcT x' w = pcT x w := congrArg Sp.pc (ho.S w ew)
      refine ⟨fun h => by omega, ?_⟩
      by_cases h3 : pcT x w = 3
      · have hg : pcG x' (P.nd w) = pcG x (P.nd w) := by
          by_cases en : P.nd w = P.nd t
          · have := H.alone D hw (by omega) ht en.symm (Ne.symm ew)
            rw [en]
            cases hm with
            | rest e hp => subst e; rfl
            | loc1 a b c d e => exact e
            | got1 a b c d e => exact e
            | _ => omega
          · exact ho.g _ en
        unfold may
        rw [e1, hg]; exact Nat.le_refl _
      · unfold may
        rw [e1]
        by_cases h2 : pcT x w ≤ 2
        · rw [if_pos (.inl h2), if_pos (.inl h2)]; exact Nat.le_refl _
        · rw [if_neg (by omega)]; exact Nat.zero_le _
end
end Go.Proofs.YtfnmggmgdmokcaaGreat.Co

/- How many enter between a thread's local doorway and its entry, behind an act: the plain law. -/
namespace Go.Proofs.YtfnmggmgdmokcaaGreat.Co
open Go.RowKit Go.Proofs.YtfnmggmgdmokcaaGreat.Ara Go.Proofs.YtfnmggmgdmokcaaGreat.Lok Go.Proofs.YtfnmggmgdmokcaaGreat.Fl Go.Proofs.YtfnmggmgdmokcaaGreat.Sn

theorem lq_drop {c c' : Int → Nat} {q q' : List Int} {s v w : Int} {d : Nat} (hw : Qw q q' s) (hnd : q.Nodup) (hv : v ∈ q) (hh : q.head? = some w) (hw' : w ∈ q') (hne : w ≠ v) (le : ∀ u, u ∈ q' → c' u ≤ c u) (hd : c' w + d ≤ c w) : Sn.ahead c' q' v + d ≤ Sn.ahead c q v := by
  rcases hw with e1 | e1 | e1
  · rw [e1] at le ⊢
    exact ahead_drop (fun u hu _ => le u hu) (isAhead_head hh hne) hd
  · rw [e1, ahead_push hv]
    exact ahead_drop (fun u hu _ => le u (by rw [e1]; simp [hu])) (isAhead_head hh hne) hd
  · rw [e1] at hnd hh
    obtain rfl : s = w := by simpa using hh
    exact absurd hw' (List.nodup_cons.1 hnd).1
theorem dr_one {p : PK} {σ : Ar} {sp : List Sp} {q : List Int} (h : QuK p σ sp q) : 1 ≤ dr p := by cases p <;> first | exact absurd h id | (simp only [dr]; omega)
section
variable {P : Pm} {x : CS} {m : Nat} (D : Dj P) (H : CI P x m)
include D H
omit D H in
theorem loc_keep {t : Nat} {ql : List Int} (hq : QuK (P.pl (P.nd t)) x.σ (x.loc (P.nd t)) ql) (a : pcT x t = 1) (h1 : dr (P.pl (P.nd t)) < pcL P x t) (h2 : pcL P x t < 10) : dr (P.pl (P.nd t)) < pcL P (stepC P x t) t := by
  have hn := hq.next (P.sl t : Int)
  have hxx : pcL P (stepC P x t) t = (spOf (doK (P.pl (P.nd t)) x.σ (x.loc (P.nd t)) 0 (P.sl t)).2.2 (P.sl t)).pc := by
    unfold stepC
    rw [if_neg (by show ¬ (pcT x t = 0 ∨ pcT x t = 10); omega), Int.toNat_natCast, if_pos (by show pcT x t < 10; omega)]
    unfold inC
    rw [if_pos a]
    show (spOf (upd x.loc (P.nd t) _ (P.nd t)) (P.sl t)).pc = _
    rw [upd_self]
  rw [hxx]
  have hd := dr_pos (P.pl (P.nd t))
  unfold Nxt at hn
  have h5 := hn.2.2.2.2.1 h1 h2
  by_cases hf : ql.head? = some (P.sl t : Int)
  · have := (h5.1 hf).1; omega
  · have := (h5.2 hf).2
    have h1' : dr (P.pl (P.nd t)) < (spOf (x.loc (P.nd t)) (P.sl t)).pc := h1
    omega
theorem waits_same (kd i : Int) {k : Nat} (hk : k < P.T) (hne : i ≠ k) : pcT (doC P x kd i) k = pcT x k ∧ pcL P (doC P x kd i) k = pcL P x k := by
  have ha := H.aw D kd i
  generalize doC P x kd i = x' at *
  have oth : ∀ t : Nat, i = t → Oth P x x' t → pcT x' k = pcT x k ∧ pcL P x' k = pcL P x k := fun t e ho => by
    have : k ≠ t := fun e9 => hne (by rw [e, e9])
    exact ⟨congrArg Sp.pc (ho.S k this), ho.l k hk this⟩
  cases ha with
  | same e => subst e; exact ⟨rfl, rfl⟩
  | ask t ht e h0 h1 hσ hg hlo hl1 ho => exact oth t e ho
  | leave t ht e h0 h1 ha hσ hg hlo ho => exact oth t e ho
  | step t ht e hx hm ho => exact oth t e ho
theorem waits_on (kd i : Int) {k : Nat} (hk : k < P.T) {ql : List Int} (hq : QuK (P.pl (P.nd k)) x.σ (x.loc (P.nd k)) ql) (b : waits P x k) (b' : ¬ waits P (doC P x kd i) k) : i = k ∧ entB x (doC P x kd i) i = true := by
  by_cases hne : i = k
  · refine ⟨hne, ?_⟩
    subst hne
    have ha := H.aw D kd k
    have hd := dr_pos (P.pl (P.nd k))
    generalize doC P x kd k = x' at *
    obtain ⟨⟨b1, b2⟩, b3⟩ := b
    have hr := H.rel k hk
    unfold relP at hr
    cases ha with
    | same e => subst e; exact absurd ⟨⟨b1, b2⟩, b3⟩ b'
    | ask t ht e h0 h1 hσ hg hlo hl1 ho => obtain rfl : k = t := by omega
                                           omega
    | leave t ht e h0 h1 ha hσ hg hlo ho => obtain rfl : k = t := by omega
                                            omega
    | step t ht e hx hm ho =>
      obtain rfl : k = t := by omega
      have yes : 0 < pcT x' k → pcT x' k < 10 → dr (P.pl (P.nd k)) < pcL P x' k → entB x x' k = true := fun h1 h2 h3 => absurd ⟨⟨h1, h2⟩, h3⟩ b'
      cases hm with
      | rest e hp => omega
      | loc1 a b c d e => exact yes (by omega) (by omega) (by rw [hx]; exact loc_keep hq a b3 (by omega))
      | got1 a b c d e => exact yes (by omega) (by omega) (by omega)
      | ent2 a b c d e f g k => exact entB_yes b2 b
      | ask2 a b c d e f g => exact yes (by omega) (by omega) (by omega)
      | glo3 a b c d e f g => exact yes (by omega) (by omega) (by omega)
      | got3 a b c d e f g => exact yes (by omega) (by omega) (by omega)
      | ent4 a b c d e f g k => exact entB_yes b2 b
      | _ => omega
  · exfalso
    obtain ⟨e1, e2⟩ := waits_same D H kd i hk hne
    exact b' (by unfold waits at b ⊢; rw [e1, e2]; exact b)
theorem waits_new (kd i : Int) {k : Nat} (hk : k < P.T) {ql : List Int} (hq : QuK (P.pl (P.nd k)) x.σ (x.loc (P.nd k)) ql) (b : ¬ waits P x k) (b' : waits P (doC P x kd i) k) : i = k ∧ entB x (doC P x kd i) i = false ∧ pcT (doC P x kd i) k ≤ 2 := by
  by_cases hne : i = k
  · refine ⟨hne, ?_⟩
    subst hne
    have ha := H.aw D kd k
    have hd := dr_pos (P.pl (P.nd k))
    have hd1 := dr_one hq
    generalize doC P x kd k = x' at *
    obtain ⟨⟨b1, b2⟩, b3⟩ := b'
    have hr := H.rel k hk
    unfold relP at hr
    have no : 0 < pcT x k → pcT x k < 10 → dr (P.pl (P.nd k)) < pcL P x k → entB x x' k = false ∧ pcT x' k ≤ 2 := fun h1 h2 h3 => absurd ⟨⟨h1, h2⟩, h3⟩ b
    cases ha with
    | same e => subst e; exact absurd ⟨⟨b1, b2⟩, b3⟩ b
    | ask t ht e h0 h1 hσ hg hlo hl1 ho => obtain rfl : k = t := by omega
                                           omega
    | leave t ht e h0 h1 ha hσ hg hlo ho => obtain rfl : k = t := by omega
                                            omega
    | step t ht e hx hm ho =>
      obtain rfl : k = t := by omega
      cases hm with
      | rest e hp => subst e; exact absurd ⟨⟨b1, b2⟩, b3⟩ b
      | loc1 a b c d e => exact ⟨entB_no (by omega), by omega⟩
      | got1 a b c d e => exact ⟨entB_no (by omega), by omega⟩
      | ask2 a b c d e f g => exact no (by omega) (by omega) (by omega)
      | glo3 a b c d e f g => exact no (by omega) (by omega) (by omega)
      | got3 a b c d e f g => exact no (by omega) (by omega) (by omega)
      | _ => omega
  · exfalso
    obtain ⟨e1, e2⟩ := waits_same D H kd i hk hne
    exact b (by unfold waits at b' ⊢; rw [← e1, ← e2]; exact b')
end
structure TT (P : Pm) (x : CS) (last : Option (Nat × Int)) (q : List Int) (ql : Nat → List Int) (same all : Nat → Nat) : Prop where
  no : ∀ k, k < P.T → ¬ waits P x k → same k = 0 ∧ all k = 0
  sm : ∀ k, k < P.T → waits P x k → same k + Sn.ahead (c1 P x (P.nd k)) (ql (P.nd k)) (P.sl k) ≤ P.mt (P.nd k) - 1
  al : ∀ k, k < P.T → waits P x k → all k + Sn.ahead (c2 P x (P.nd k)) (ql (P.nd k)) (P.sl k) + mst P * may P x k + rk P x last q (P.nd k) ≤ P.mt (P.nd k) - 1 + P.mt (P.nd k) * mst P
def sameC (P : Pm) (x x' : CS) (i : Int) (same : Nat → Nat) (k : Nat) : Nat := if entB x x' i then (if i = k ∨ ¬ waits P x k then 0 else if P.nd k = P.nd i.toNat then same k + 1 else same k) else same k
def allC (P : Pm) (x x' : CS) (i : Int) (all : Nat → Nat) (k : Nat) : Nat := if entB x x' i then (if i = k ∨ ¬ waits P x k then 0 else if dr P.pg < pcG x (P.nd k) then all k + 1 else all k) else all k
structure Qn (P : Pm) (i : Int) (q q' : List Int) (ql ql' : Nat → List Int) : Prop where
  g : ∃ s, Qw q q' s ∧ (q' = q ∨ ∃ t : Nat, i = t ∧ t < P.T ∧ s = P.nd t)
  l : ∀ n, ∃ s, Qw (ql n) (ql' n) s
theorem Qs.turn {P : Pm} {x : CS} {m : Nat} (D : Dj P) (H : CI P x m) {q : List Int} {ql : Nat → List Int} (hq : Qs P x q ql) (kd i : Int) : ∃ q' ql', Qs P (doC P x kd i) q' ql' ∧ Qn P i q q' ql ql' := by
  obtain ⟨q', ql', h1, h2⟩ := hq.act D H kd i
  refine ⟨q', ql', h1, ?_⟩
  rcases h2 with ⟨rfl, rfl⟩ | ⟨t, e, ht, w1, w2, w3⟩
  · exact ⟨⟨0, .inl rfl, .inl rfl⟩, fun n => ⟨0, .inl rfl⟩⟩
  · refine ⟨⟨_, w1, .inr ⟨t, e, ht, rfl⟩⟩, fun n => ?_⟩
    by_cases en : n = P.nd t
    · subst en; exact ⟨_, w2⟩
    · exact ⟨0, .inl (w3 n en)⟩
section
variable {P : Pm} {x : CS} {m : Nat} (D : Dj P) (J : Sj P) (H : CI P x m) {last : Option (Nat × Int)} (h : TI P x last) {q : List Int} {ql : Nat → List Int} (hq : Qs P x q ql)
include D J H
theorem l_thr {l : List Int} {k : Nat} (hk : k < P.T) (hl : QuK (P.pl (P.nd k)) x.σ (x.loc (P.nd k)) l) {s : Int} (hs : s ∈ l) : ∃ w : Nat, w < P.T ∧ P.nd w = P.nd k ∧ s = P.sl w ∧ thOf P (P.nd k) s = w ∧ dr (P.pl (P.nd k)) < pcL P x w := by
  have h1 := (hl.mem s).1 hs
  have hd := dr_pos (P.pl (P.nd k))
  obtain ⟨s0, s1⟩ := spOf_range (sp := x.loc (P.nd k)) (i := s) (by omega)
  obtain ⟨n, rfl⟩ := Int.eq_ofNat_of_zero_le s0
  have := (H.ol _ (D.nd k hk).1).len
  obtain ⟨w, hw, e1, e2⟩ := J k hk n (by omega)
  refine ⟨w, hw, e1, by rw [e2], ?_, ?_⟩
  · have := thOf_eq D hw
    rw [e1, e2] at this
    exact this
  · show _ < (spOf (x.loc (P.nd w)) (P.sl w)).pc
    rw [e1, e2]; exact h1
include h hq
theorem TT.act {same all : Nat → Nat} (T0 : TT P x last q ql same all) (kd i : Int) {q' : List Int} {ql' : Nat → List Int} (hq' : Qs P (doC P x kd i) q' ql') (hn : Qn P i q q' ql ql') {passed : Nat → Nat} (ha : AH P (doC P x kd i) (lastC P x (doC P x kd i) i last) q' passed) :
    TT P (doC P x kd i) (lastC P x (doC P x kd i) i last) q' ql' (sameC P x (doC P x kd i) i same) (allC P x (doC P x kd i) i all) := by
  have H' := H.act D kd i
  have hd0 := dr_pos P.pg
  have cl := fun (w : Nat) (hw : w < P.T) => cnt_le D H hq.g kd i hw
  obtain ⟨s0, w0, w1⟩ := hn.g
  -- what those in a queue count
  have le1 : ∀ k, k < P.T → ∀ u, u ∈ ql' (P.nd k) → c1 P (doC P x kd i) (P.nd k) u ≤ c1 P x (P.nd k) u := fun k hk u hu => by
    obtain ⟨w, hw, e1, e2, e3, e4⟩ := l_thr D J H' hk (hq'.l _ (D.nd k hk).1) hu
    have := (cl w hw (by rw [e1]; exact e4)).1
    unfold c1
    rw [e3]
    split
    · rename_i h9; rw [if_pos (this h9)]; exact Nat.le_refl _
    · exact Nat.zero_le _
  have le2 : ∀ k, k < P.T → ∀ u, u ∈ ql' (P.nd k) → c2 P (doC P x kd i) (P.nd k) u ≤ c2 P x (P.nd k) u := fun k hk u hu => by
    have := le1 k hk u hu
    obtain ⟨w, hw, e1, e2, e3, e4⟩ := l_thr D J H' hk (hq'.l _ (D.nd k hk).1) hu
    have h9 := (cl w hw (by rw [e1]; exact e4)).2
    unfold c2
    rw [e3]
    have := Nat.mul_le_mul_left (mst P) h9
    omega
  have lmem : ∀ k, k < P.T → ((P.sl k : Int) ∈ ql (P.nd k) ↔ dr (P.pl (P.nd k)) < pcL P x k) := fun k hk => (hq.l _ (D.nd k hk).1).mem _
  have lmem' : ∀ k, k < P.T → ((P.sl k : Int) ∈ ql' (P.nd k) ↔ dr (P.pl (P.nd k)) < pcL P (doC P x kd i) k) := fun k hk => (hq'.l _ (D.nd k hk).1).mem _
  have lnd : ∀ k, k < P.T → (ql (P.nd k)).Nodup := fun k hk => (hq.l _ (D.nd k hk).1).nodup
  -- one that begins tO wait
  have newq : ∀ k, k < P.T → ¬ waits P x k → waits P (doC P x kd i) k → ql' (P.nd k) = ql (P.nd k) ++ [(P.sl k : Int)] ∧ (ql (P.nd k)).length + 1 ≤ P.mt (P.nd k) ∧ (P.sl k : Int) ∉ ql (P.nd k) := fun k hk b b' => by
    obtain ⟨ek, _, hp2⟩ := waits_new D H kd i hk (hq.l _ (D.nd k hk).1) b b'
    have h1 : (P.sl k : Int) ∈ ql' (P.nd k) := (lmem' k hk).2 b'.2
    have h2 : (P.sl k : Int) ∉ ql (P.nd k) := fun h9 => by
      have h3 := (lmem k hk).1 h9
      have hr := H.rel k hk
      unfold relP at hr
      have hd := dr_pos (P.pl (P.nd k))
      have hb1 := b'.1.1
      have hb2 := b'.1.2
      have aw := H.aw D kd i
      have nw : ¬ (0 < pcT x k ∧ pcT x k < 10) := fun h7 => b ⟨h7, h3⟩
      generalize doC P x kd i = x' at *
      cases aw with
      | same e => subst e; omega
      | ask t ht e h0 h1 hσ hg hlo hl1 ho => obtain rfl : k = t := by omega
                                             omega
      | leave t ht e h0 h1 ha hσ hg hlo ho => obtain rfl : k = t := by omega
                                              omega
      | step t ht e hx hm ho =>
        obtain rfl : k = t := by omega
        cases hm with
        | rest e hp => subst e; omega
        | _ => omega
    obtain ⟨s, hs⟩ := hn.l (P.nd k)
    have h3 : ql' (P.nd k) = ql (P.nd k) ++ [s] := by
      rcases hs with hs | hs | hs
      · rw [hs] at h1; exact absurd h1 h2
      · exact hs
      · exact absurd (by rw [hs]; exact List.mem_cons_of_mem _ h1) h2
    have h4 : s = P.sl k := by
      rw [h3] at h1
      rcases List.mem_append.1 h1 with h9 | h9
      · exact absurd h9 h2
      · exact (List.mem_singleton.1 h9).symm
    refine ⟨by rw [h3, h4], ?_, h2⟩
    have := nodup_len (N := P.mt (P.nd k)) (hq'.l _ (D.nd k hk).1).nodup (fun u hu => by
      obtain ⟨w, hw, e1, e2, _⟩ := l_thr D J H' hk (hq'.l _ (D.nd k hk).1) hu
      have := (D.nd w hw).2
      rw [e1] at this
      omega)
    rw [h3, List.length_append, List.length_singleton] at this
    exact this
  -- one that waits, when another enters
  have entd : ∀ k, k < P.T → waits P x k → waits P (doC P x kd i) k → entB x (doC P x kd i) i = true → ∃ t : Nat, i = t ∧ t < P.T ∧ t ≠ k ∧ pcG x (P.nd t) = 10 ∧ pcG (doC P x kd i) (P.nd t) = 10 ∧ (P.nd t = P.nd k →
      (ql (P.nd k)).head? = some (P.sl t : Int) ∧ (P.sl t : Int) ∈ ql' (P.nd k) ∧ (P.sl t : Int) ≠ P.sl k ∧ c1 P (doC P x kd i) (P.nd k) (P.sl t) + 1 ≤ c1 P x (P.nd k) (P.sl t) ∧ c2 P (doC P x kd i) (P.nd k) (P.sl t) + 1 ≤ c2 P x (P.nd k) (P.sl t)) := fun k hk b b' he => by
    obtain ⟨t, e, ht, h1, h2, g1, g2, _⟩ := h.ent D H kd i he
    have hkt : t ≠ k := fun e9 => by subst e9; have := b'.1.2; omega
    refine ⟨t, e, ht, hkt, g1, g2, fun en => ?_⟩
    have r1 := H.rel t ht
    have r2 := H'.rel t ht
    unfold relP at r1 r2
    have aw := H.aw D kd i
    have hd := dr_pos (P.pl (P.nd k))
    have l1 : pcL P x t = 10 := by
      have hx2 : 2 ≤ pcT x t := by
        generalize doC P x kd i = x' at *
        cases aw with
        | same e => subst e; omega
        | ask t' ht' e' h0 h1 hσ hg hlo hl1 ho => obtain rfl : t = t' := by omega
                                                  omega
        | leave t' ht' e' h0 h1 ha hσ hg hlo ho => obtain rfl : t = t' := by omega
                                                   omega
        | step t' ht' e' hx hm ho =>
          obtain rfl : t = t' := by omega
          cases hm with
          | rest e hp => subst e; omega
          | _ => omega
      omega
    have l2 : pcL P (doC P x kd i) t = 10 := by omega
    have hh : (ql (P.nd k)).head? = some (P.sl t : Int) := by
      rw [← en]
      exact (hq.l _ (D.nd t ht).1).head (by show 10 ≤ pcL P x t; omega)
    have hm' : (P.sl t : Int) ∈ ql' (P.nd k) := by
      rw [← en]
      exact (lmem' t ht).2 (by rw [en]; omega)
    have hth : thOf P (P.nd k) (P.sl t) = t := by rw [← en]; exact thOf_eq D ht
    have hc1 : c1 P (doC P x kd i) (P.nd k) (P.sl t) + 1 ≤ c1 P x (P.nd k) (P.sl t) := by
      unfold c1
      rw [hth, if_neg (by omega), if_pos h1]
      exact Nat.le_refl _
    refine ⟨hh, hm', fun e9 => hkt (D.inj t k ht hk en (by omega)), hc1, ?_⟩
    unfold c2
    rw [hth]
    have := Nat.mul_le_mul_left (mst P) (cl t ht (by rw [en]; omega)).2
    omega
  refine ⟨fun k hk b' => ?_, fun k hk b' => ?_, fun k hk b' => ?_⟩
  · -- who does not wait
    by_cases b : waits P x k
    · obtain ⟨e1, e2⟩ := waits_on D H kd i hk (hq.l _ (D.nd k hk).1) b b'
      unfold sameC allC
      rw [if_pos e2, if_pos (.inl e1), if_pos e2, if_pos (.inl e1)]
      exact ⟨rfl, rfl⟩
    · obtain ⟨z1, z2⟩ := T0.no k hk b
      unfold sameC allC
      cases entB x (doC P x kd i) i with
      | true => rw [if_pos rfl, if_pos (.inr b), if_pos rfl, if_pos (.inr b)]; exact ⟨rfl, rfl⟩
      | false => rw [if_neg (by decide), if_neg (by decide)]; exact ⟨z1, z2⟩
  · -- of its node
    by_cases b : waits P x k
    · have base := T0.sm k hk b
      have hv : (P.sl k : Int) ∈ ql (P.nd k) := (lmem k hk).2 b.2
      have hv' : (P.sl k : Int) ∈ ql' (P.nd k) := (lmem' k hk).2 b'.2
      obtain ⟨s, hs⟩ := hn.l (P.nd k)
      cases he : entB x (doC P x kd i) i with
      | false =>
        have := lq_le hs (lnd k hk) hv hv' (le1 k hk)
        unfold sameC
        rw [he, if_neg (by decide)]
        omega
      | true =>
        obtain ⟨t, e, ht, hkt, g1, g2, hd⟩ := entd k hk b b' he
        unfold sameC
        rw [he, if_pos rfl, if_neg (by rintro (h9 | h9); exact hkt (by omega); exact h9 b)]
        by_cases en : P.nd t = P.nd k
        · obtain ⟨d1, d2, d3, d4, _⟩ := hd en
          have := lq_drop hs (lnd k hk) hv d1 d2 d3 (le1 k hk) d4
          rw [if_pos (by rw [e, Int.toNat_natCast, en])]
          omega
        · have := lq_le hs (lnd k hk) hv hv' (le1 k hk)
          rw [if_neg (by rw [e, Int.toNat_natCast]; exact fun h9 => en h9.symm)]
          omega
    · obtain ⟨n1, n2, n3⟩ := newq k hk b b'
      obtain ⟨_, he, _⟩ := waits_new D H kd i hk (hq.l _ (D.nd k hk).1) b b'
      have := ahead_end (c := c1 P (doC P x kd i) (P.nd k)) (q := ql (P.nd k)) (v := (P.sl k : Int)) 1 (fun u _ => by unfold c1; split <;> omega)
      unfold sameC
      rw [he, if_neg (by decide), (T0.no k hk b).1, n1]
      omega
  · -- in all
    have mb := may_le P (doC P x kd i) k
    have hrk : rk P (doC P x kd i) (lastC P x (doC P x kd i) i last) q' (P.nd k) ≤ mst P := by
      unfold rk
      split
      · rename_i h9
        have := (ha _ (D.nd k hk).1).1 h9
        unfold mst
        omega
      · exact Nat.zero_le _
    by_cases b : waits P x k
    · have base := T0.al k hk b
      have hv : (P.sl k : Int) ∈ ql (P.nd k) := (lmem k hk).2 b.2
      have hv' : (P.sl k : Int) ∈ ql' (P.nd k) := (lmem' k hk).2 b'.2
      obtain ⟨s, hs⟩ := hn.l (P.nd k)
      have mk := Nat.mul_le_mul_left (mst P) (cl k hk b'.2).2
      have lq := lq_le hs (lnd k hk) hv hv' (le2 k hk)
      cases he : entB x (doC P x kd i) i with
      | false =>
        unfold allC
        rw [he, if_neg (by decide)]
        by_cases bb : behind P x (P.nd k) ∨ ¬ behind P (doC P x kd i) (P.nd k)
        · have : rk P (doC P x kd i) (lastC P x (doC P x kd i) i last) q' (P.nd k) ≤ rk P x last q (P.nd k) := by
            unfold rk
            by_cases b2 : behind P (doC P x kd i) (P.nd k)
            · have b1 : behind P x (P.nd k) := by rcases bb with bb | bb; exact bb; exact absurd b2 bb
              rw [if_pos b2, if_pos b1]
              have := rank D H h kd i hq.g hq'.g w0 b1 b2
              rw [he, if_neg (by decide)] at this
              exact this
            · rw [if_neg b2]; exact Nat.zero_le _
          omega
        · have b1 : ¬ behind P x (P.nd k) := fun h9 => bb (.inl h9)
          have b2 : behind P (doC P x kd i) (P.nd k) := Decidable.byContradiction fun h9 => bb (.inr h9)
          obtain ⟨r1, r2, r3, r4⟩ := rank0 D H h kd i hq.g hq'.g w0 b1 b2
          obtain ⟨t, e, ht, e2⟩ : ∃ t : Nat, i = t ∧ t < P.T ∧ s0 = P.nd t := by
            rcases w1 with w1 | w1
            · exfalso
              rw [w1] at r3
              have := congrArg List.length r3
              simp at this
            · exact w1
          have en : P.nd t = P.nd k := by omega
          have aw := H.aw D kd i
          have facts : pcT x t = 3 ∧ pcT (doC P x kd i) t = 3 ∧ pcL P (doC P x kd i) t = 10 ∧ pcG x (P.nd t) ≤ dr P.pg := by
            have b2a := b2.1
            have b2b := b2.2
            have b1a : ¬ (dr P.pg < pcG x (P.nd k) ∧ pcG x (P.nd k) < 10) := b1
            have hd1 := dr_one hq.g
            generalize doC P x kd i = x' at *
            rw [← en] at b2a b2b b1a
            cases aw with
            | same e => subst e; omega
            | ask t' ht' e' h0 h1 hσ hg hlo hl1 ho =>
              have : pcG x' (P.nd t) = pcG x (P.nd t) := by show (spOf x'.g _).pc = _; rw [hg]
              omega
            | leave t' ht' e' h0 h1 ha hσ hg hlo ho =>
              have : pcG x' (P.nd t) = pcG x (P.nd t) := by show (spOf x'.g _).pc = _; rw [hg]
              omega
            | step t' ht' e' hx hm ho =>
              obtain rfl : t = t' := by omega
              cases hm with
              | rest e hp => subst e; omega
              | glo3 a b c d e f g => exact ⟨a, b, c, by omega⟩
              | _ => omega
          obtain ⟨f1, f2, f3, f4⟩ := facts
          have m1 : may P x t = 1 := by unfold may; rw [if_pos (.inr ⟨f1, f4⟩)]
          have m2 : may P (doC P x kd i) t = 0 := by
            have := b2.1
            rw [← en] at this
            unfold may
            rw [if_neg (by omega)]
          by_cases ek : t = k
          · subst ek
            rw [m2, Nat.mul_zero]
            rw [m1, Nat.mul_one] at base
            omega
          · have r1' := H.rel t ht
            unfold relP at r1'
            have hh : (ql (P.nd k)).head? = some (P.sl t : Int) := by
              rw [← en]
              exact (hq.l _ (D.nd t ht).1).head (by show 10 ≤ pcL P x t; omega)
            have hd := dr_pos (P.pl (P.nd t))
            have hm' : (P.sl t : Int) ∈ ql' (P.nd k) := by
              rw [← en]
              exact (lmem' t ht).2 (by omega)
            have hth : thOf P (P.nd k) (P.sl t) = t := by rw [← en]; exact thOf_eq D ht
            have hc1 := le1 k hk _ hm'
            have dd : c2 P (doC P x kd i) (P.nd k) (P.sl t) + mst P ≤ c2 P x (P.nd k) (P.sl t) := by
              unfold c2
              rw [hth, m1, m2, Nat.mul_one, Nat.mul_zero]
              omega
            have := lq_drop hs (lnd k hk) hv hh hm' (fun e9 => ek (D.inj t k ht hk en (by omega))) (le2 k hk) dd
            omega
      | true =>
        obtain ⟨t, e, ht, hkt, g1, g2, hd⟩ := entd k hk b b' he
        unfold allC
        rw [he, if_pos rfl, if_neg (by rintro (h9 | h9); exact hkt (by omega); exact h9 b)]
        by_cases en : P.nd t = P.nd k
        · obtain ⟨d1, d2, d3, _, d5⟩ := hd en
          have := lq_drop hs (lnd k hk) hv d1 d2 d3 (le2 k hk) d5
          have z : rk P (doC P x kd i) (lastC P x (doC P x kd i) i last) q' (P.nd k) = 0 := by
            unfold rk
            rw [if_neg (fun h9 => by have := h9.2; rw [← en] at this; omega)]
          rw [z, if_pos (by rw [← en]; omega)]
          omega
        · obtain ⟨t2, e2, ht2, _, _, _, r2⟩ := rem_ent D H h kd i he
          obtain rfl : t2 = t := by omega
          have hg := (r2 (P.nd k) (D.nd k hk).1 (fun h9 => en h9.symm)).1
          by_cases b1 : behind P x (P.nd k)
          · have b2 : behind P (doC P x kd i) (P.nd k) := by unfold behind at b1 ⊢; rw [hg]; exact b1
            have := rank D H h kd i hq.g hq'.g w0 b1 b2
            rw [he, if_pos rfl] at this
            rw [if_pos b1.1]
            unfold rk at base ⊢
            rw [if_pos b1] at base
            rw [if_pos b2]
            omega
          · have z : rk P (doC P x kd i) (lastC P x (doC P x kd i) i last) q' (P.nd k) = 0 := by
              unfold rk
              rw [if_neg (fun h9 => b1 (by unfold behind at h9 ⊢; rw [← hg]; exact h9))]
            have : ¬ dr P.pg < pcG x (P.nd k) := fun h9 => by
              have h8 : 10 ≤ pcG x (P.nd k) := by
                rcases Int.lt_or_le (pcG x (P.nd k)) 10 with h7 | h7
                · exact absurd ⟨h9, h7⟩ b1
                · exact h7
              have := H.og.sole (i := P.nd k) (j := P.nd t2) (by show 10 ≤ pcG x (P.nd k); omega) (by show 10 ≤ pcG x (P.nd t2); omega)
              omega
            rw [z, if_neg this]
            omega
    · obtain ⟨n1, n2, n3⟩ := newq k hk b b'
      obtain ⟨_, he, hp2⟩ := waits_new D H kd i hk (hq.l _ (D.nd k hk).1) b b'
      have cb : ∀ u, u ∈ ql (P.nd k) → c2 P (doC P x kd i) (P.nd k) u ≤ 1 + mst P := fun u _ => by
        have h1 := may_le P (doC P x kd i) (thOf P (P.nd k) u)
        have h2 := Nat.mul_le_mul_left (mst P) h1
        have h3 : c1 P (doC P x kd i) (P.nd k) u ≤ 1 := by unfold c1; split <;> omega
        unfold c2
        omega
      have mk := Nat.mul_le_mul_left (mst P) mb
      have mm := Nat.mul_le_mul_right (mst P) n2
      rw [Nat.add_mul, Nat.one_mul] at mm
      unfold allC
      rw [he, if_neg (by decide), (T0.no k hk b).2, n1]
      have hmul : (ql (P.nd k)).length * (1 + mst P) = (ql (P.nd k)).length + (ql (P.nd k)).length * mst P := by rw [Nat.mul_add, Nat.mul_one]
      by_cases b2 : behind P (doC P x kd i) (P.nd k)
      · obtain ⟨w, hw, ew, hb⟩ : ∃ w, w < P.T ∧ P.nd w = P.nd k ∧ busy (pcT (doC P x kd i) w) := Classical.byContradiction fun h9 => by
          have := H'.free (P.nd k) (D.nd k hk).1 (fun u hu hnu hbu => h9 ⟨u, hu, hnu, hbu⟩)
          have h1 := b2.1
          have h2 := b2.2
          omega
        have hN := H'.nod w hw
        have hrw := H'.rel w hw
        unfold relP at hrw
        unfold nodP at hN
        rw [ew] at hN
        have h1 := b2.1
        have h2 := b2.2
        unfold busy at hb
        have e3 : pcT (doC P x kd i) w = 3 := by omega
        have hwk : w ≠ k := fun e9 => by subst e9; omega
        have hd := dr_pos (P.pl (P.nd w))
        have hmw : (P.sl w : Int) ∈ ql (P.nd k) := by
          have h8 := (lmem' w hw).2 (by omega)
          rw [ew, n1] at h8
          rcases List.mem_append.1 h8 with h8 | h8
          · exact h8
          · exact absurd (D.inj w k hw hk ew (by have := List.mem_singleton.1 h8; omega)) hwk
        have hth : thOf P (P.nd k) (P.sl w) = w := by rw [← ew]; exact thOf_eq D hw
        have m0 : may P (doC P x kd i) w = 0 := by unfold may; rw [ew, if_neg (by omega)]
        have := ahead_end1 (c := c2 P (doC P x kd i) (P.nd k)) (v := (P.sl k : Int)) (M := mst P) cb hmw n3 (by
          unfold c2
          rw [hth, m0, Nat.mul_zero]
          have : c1 P (doC P x kd i) (P.nd k) (P.sl w) ≤ 1 := by unfold c1; split <;> omega
          omega)
        omega
      · have z : rk P (doC P x kd i) (lastC P x (doC P x kd i) i last) q' (P.nd k) = 0 := by unfold rk; rw [if_neg b2]
        have := ahead_end (c := c2 P (doC P x kd i) (P.nd k)) (q := ql (P.nd k)) (v := (P.sl k : Int)) (1 + mst P) cb
        rw [z]
        omega
omit D J H h hq in
theorem TT.le {same all : Nat → Nat} (T0 : TT P x last q ql same all) {k : Nat} (hk : k < P.T) : same k ≤ P.mt (P.nd k) - 1 ∧ all k ≤ P.mt (P.nd k) - 1 + P.mt (P.nd k) * mst P := by
  by_cases b : waits P x k
  · have h1 := T0.sm k hk b
    have h2 := T0.al k hk b
    omega
  · obtain ⟨z1, z2⟩ := T0.no k hk b
    omega
end
end Go.Proofs.YtfnmggmgdmokcaaGreat.Co

/- A global lock of nodes, a local one of the threads of each, both of which keep order: from New on: who has passed a thread: the plain law. -/
namespace Go.Proofs.YtfnmggmgdmokcaaGreat.Co
open Go.RowKit Go.Proofs.YtfnmggmgdmokcaaGreat.Ara Go.Proofs.YtfnmggmgdmokcaaGreat.Lok Go.Proofs.YtfnmggmgdmokcaaGreat.Fl

def Tt (P : Pm) (x : CS) (m : Nat) (same all : Nat → Nat) : Prop := ∃ last q ql passed, CI P x m ∧ TI P x last ∧ Qs P x q ql ∧ AH P x last q passed ∧ TT P x last q ql same all
theorem Tt.act {P : Pm} {x : CS} {m : Nat} {same all : Nat → Nat} (D : Dj P) (J : Sj P) (h : Tt P x m same all) (kd i : Int) : Tt P (doC P x kd i) (m + 1) (sameC P x (doC P x kd i) i same) (allC P x (doC P x kd i) i all) := by
  obtain ⟨last, q, ql, passed, H, T0, Q, A, T1⟩ := h
  obtain ⟨q', ql', Q', hn⟩ := Q.turn D H kd i
  obtain ⟨s, hw, _⟩ := hn.g
  have A' := AH.act D H T0 A kd i Q.g Q'.g hw
  exact ⟨_, q', ql', _, H.act D kd i, T0.act D H kd i, Q', A', TT.act D J H T0 Q T1 kd i Q' hn A'⟩
theorem Tt.ci {P : Pm} {x : CS} {m : Nat} {same all : Nat → Nat} (h : Tt P x m same all) : CI P x m := by obtain ⟨_, _, _, _, H, _⟩ := h; exact H
theorem Tt.le {P : Pm} {x : CS} {m : Nat} {same all : Nat → Nat} (h : Tt P x m same all) {k : Nat} (hk : k < P.T) : same k ≤ P.mt (P.nd k) - 1 ∧ all k ≤ P.mt (P.nd k) - 1 + P.mt (P.nd k) * mst P := by
  obtain ⟨_, _, _, _, _, _, _, _, T1⟩ := h
  exact T1.le hk
theorem Nw.tt {c : Nw} (O : c.Ok) {σ0 : Ar} (hr : c.tN σ0.t c.NN ≤ σ0.ws.length) (hz : ∀ k, σ0.t ≤ k → σ0.ws.getD k 0 = 0) (hw : σ0.ws.length ≤ 4096) (hg : 2 ≤ c.kg) (hl : 2 ≤ c.kl) {m : Nat} (hm : σ0.ops + c.NN + 1 ≤ m) : Tt (c.pm σ0) (c.st σ0) m (fun _ => 0) (fun _ => 0) := by
  obtain ⟨last, q, ql, H, T0, Q, A⟩ := Nw.ah O hr hz hw hg hl hm
  have h0 : ∀ k : Nat, ¬ waits (c.pm σ0) (c.st σ0) k := fun k h => by
    have h1 : pcT (c.st σ0) k = 0 := by
      show (spOf (List.replicate c.T sp0) (k : Int)).pc = 0
      rw [Pt.zero_spot]; rfl
    have h2 := h.1.1
    omega
  exact ⟨last, q, ql, _, H, T0, Q, A, ⟨fun _ _ _ => ⟨rfl, rfl⟩, fun k _ h => absurd h (h0 k), fun k _ h => absurd h (h0 k)⟩⟩
open Go.Proofs.YtfnmggmgdmokcaaGreat.Tp in
def mtN (p t : List Int) (n : Nat) : Nat → Nat
  | 0 => 0
  | k + 1 => mtN p t n k + if ndI p t k = n then 1 else 0
open Go.Proofs.YtfnmggmgdmokcaaGreat.Tp in
theorem mtN_le (p t : List Int) (n k : Nat) : mtN p t n k ≤ k := by
  induction k with
  | zero => exact Nat.le_refl _
  | succ k ih =>
    show mtN p t n k + (if ndI p t k = n then 1 else 0) ≤ k + 1
    split <;> omega
open Go.Proofs.YtfnmggmgdmokcaaGreat.Tp in
theorem mtN_eq {p t : List Int} (hck : chk p t = 0) {n : Nat} (hn : n < (lvs p).length) : ∀ k, k ≤ t.length → mtN p t n k = cntK t ((lvs p).getD n 0) k
  | 0, _ => rfl
  | k + 1, hk => by
    show mtN p t n k + (if ndI p t k = n then 1 else 0) = cntK t ((lvs p).getD n 0) k + if t.getD k 0 = (lvs p).getD n 0 then 1 else 0
    rw [mtN_eq hck hn k (by omega)]
    obtain ⟨h1, h2, _⟩ := nd_at (chk_mem hck (show k < t.length by omega))
    have hiff : ndI p t k = n ↔ t.getD k 0 = (lvs p).getD n 0 := by
      constructor
      · intro e
        rw [← e, h2]
      · intro e
        rw [← h2] at e
        have hpw := List.pairwise_iff_getElem.1 (lvs_nodup p)
        rw [List.getD_eq_getElem?_getD, List.getD_eq_getElem?_getD, List.getElem?_eq_getElem h1, List.getElem?_eq_getElem hn] at e
        rcases Nat.lt_trichotomy (ndI p t k) n with h5 | h5 | h5
        · exact absurd e (hpw _ _ h1 hn h5)
        · exact h5
        · exact absurd e.symm (hpw _ _ hn h1 h5)
    by_cases e : ndI p t k = n
    · rw [if_pos e, if_pos (hiff.1 e)]
    · rw [if_neg e, if_neg (fun h => e (hiff.2 h))]
open Go.Proofs.YtfnmggmgdmokcaaGreat.Tp in
theorem mtN_mt {p t : List Int} (hck : chk p t = 0) {k : Nat} (hk : k < t.length) : mtN p t (ndI p t k) t.length = mtI p t (ndI p t k) ∧ 1 ≤ mtI p t (ndI p t k) ∧ mtI p t (ndI p t k) ≤ t.length :=
  ⟨mtN_eq hck (nd_lt hck hk).1 _ (Nat.le_refl _), nd_some hck hk, mt_le p t _⟩
end Go.Proofs.YtfnmggmgdmokcaaGreat.Co

/- The law CohortTotal: what its loops have of memory; who waits, and who counts. -/
namespace Go.Proofs.YtfnmggmgdmokcaaGreat.Cm
open Go.RowKit Go.Proofs.YtfnmggmgdmokcaaGreat.Tp Go.Proofs.YtfnmggmgdmokcaaGreat.Ara Go.Proofs.YtfnmggmgdmokcaaGreat.Lok Go.Proofs.YtfnmggmgdmokcaaGreat.Fl Go.Proofs.YtfnmggmgdmokcaaGreat.Co

theorem waits_pas {P : Pm} {x : CS} {m : Nat} {same all : Nat → Nat} (D : Dj P) (h : Tt P x m same all) {k : Nat} (hk : k < P.T) : (pasB P x (k : Int) && decide ((spOf x.S (k : Int)).pc < 10)) = decide (waits P x k) := by
  obtain ⟨_, q, ql, _, H, _, Q, _, _⟩ := h
  have hr := H.rel k hk
  have h1 := dr_one (Q.l _ (D.nd k hk).1)
  have h2 := (dr_pos (P.pl (P.nd k))).2
  unfold relP at hr
  rw [Bool.eq_iff_iff, decide_eq_true_iff, Bool.and_eq_true, decide_eq_true_iff]
  unfold pasB waits
  rw [Int.toNat_natCast]
  by_cases h3 : pcT x k = 1
  · rw [if_pos h3]
    unfold behB
    rw [Bool.and_eq_true, decide_eq_true_iff, decide_eq_true_iff]
    show ((_ ∧ dr (P.pl (P.nd k)) < pcL P x k) ∧ pcT x k < 10) ↔ _
    omega
  · rw [if_neg h3]
    show ((!decide (pcT x k = 0)) = true ∧ pcT x k < 10) ↔ _
    rw [Bool.not_eq_true', decide_eq_false_iff_not]
    omega
theorem glo_ge {P : Pm} (hd : 1 ≤ dr P.pg) (x : CS) (v : Nat) : 2 ≤ gloV P x (v : Int) ↔ dr P.pg < pcG x v := by
  unfold gloV behB
  show 2 ≤ (if pcG x v = 0 then (0 : Int) else if 10 < pcG x v then 4 else if pcG x v = 10 then 3 else if (decide (0 < dr P.pg) && decide (dr P.pg < pcG x v)) = true then 2 else 1) ↔ _
  have h10 := (dr_pos P.pg).2
  rw [decide_eq_true (show 0 < dr P.pg by omega), Bool.true_and]
  by_cases h0 : pcG x v = 0
  · rw [if_pos h0]
    omega
  rw [if_neg h0]
  by_cases h1 : 10 < pcG x v
  · rw [if_pos h1]
    omega
  rw [if_neg h1]
  by_cases h2 : pcG x v = 10
  · rw [if_pos h2]
    omega
  rw [if_neg h2]
  by_cases h3 : dr P.pg < pcG x v
  · rw [decide_eq_true h3, if_pos rfl]
    omega
  · rw [decide_eq_false h3, if_neg (by decide)]
    omega
def wtB (P : Pm) (x : CS) (k : Nat) : Bool := decide (waits P x k)
def ctB (P : Pm) (x : CS) (k : Nat) : Bool := wtB P x k && decide (2 ≤ gloV P x (P.nd k : Int))
theorem ct_iff {P : Pm} (hd : 1 ≤ dr P.pg) {x : CS} {k : Nat} : ctB P x k = true ↔ waits P x k ∧ dr P.pg < pcG x (P.nd k) := by
  unfold ctB wtB
  rw [Bool.and_eq_true, decide_eq_true_iff, decide_eq_true_iff, glo_ge hd]
def bls (f : Nat → Bool) (k : Nat) : List Value := (List.range k).map fun j => .bool (f j)
theorem bls_len (f : Nat → Bool) (k : Nat) : (bls f k).length = k := by simp [bls]
theorem bls_succ (f : Nat → Bool) (k : Nat) : bls f (k + 1) = bls f k ++ [.bool (f k)] := by unfold bls; rw [List.range_succ, List.map_append]; rfl
theorem own_bits {W : World} {B0 : Nat} {v : Value} {f : Nat → Bool} {n : Nat} (h : W.ownsRow B0 4 1 v n (bls f n)) (hn : 0 < n) :
    ∃ g c, v = .slice (some ⟨g, 0, none⟩) n c ∧ n ≤ c ∧ B0 ≤ g := by
  rcases h.2 with ⟨rfl, e⟩ | ⟨g, cap, cur, rfl, hb, hg, hnc, hcm, hcs, htake⟩
  · have := bls_len f n
    rw [e] at this
    simp at this
    omega
  · exact ⟨g, cap, rfl, hnc, hb⟩
theorem own_bit {W : World} {B0 g n c : Nat} {f : Nat → Bool} (h : W.ownsRow B0 4 1 (.slice (some ⟨g, 0, none⟩) n c) n (bls f n)) {j : Nat} (hj : j < n) : W.cell? ⟨g, j, none⟩ = some (.bool (f j)) := by
  have h1 := h.cells (g := g) rfl j (.bool (f j)) (by simp [bls, hj])
  have hadd : (⟨g, 0, none⟩ : Addr).add j = ⟨g, 0 + j, none⟩ := by unfold Addr.add; split <;> simp_all
  rw [hadd, Nat.zero_add] at h1
  exact h1
structure ToR (B0 : Nat) (v1 v2 : Value) (f g : Nat → Bool) (n1 n2 : Nat) (W : World) : Prop where
  o1 : W.ownsRow B0 4 1 v1 n1 (bls f n1)
  o2 : W.ownsRow B0 4 1 v2 n2 (bls g n2)
  ap : Apart v1 v2
theorem ToR.nil (B0 : Nat) (f g : Nat → Bool) (W : World) : ToR B0 (.slice none 0 0) (.slice none 0 0) f g 0 0 W := ⟨World.ownsRow_nil _ _ _ _, World.ownsRow_nil _ _ _ _, fun b hb => by cases hb⟩
section
variable {B0 : Nat} {v1 v2 : Value} {f g : Nat → Bool} {n1 n2 : Nat} {W W' : World} (h : ToR B0 v1 v2 f g n1 n2 W)
include h
theorem ToR.kp {col : Nat → Nat} (k : Kp col W W') (hc : ∀ q, B0 ≤ q → col q = 0) : ToR B0 v1 v2 f g n1 n2 W' :=
  ⟨k.own h.o1 (fun b hb => hc b (own_block h.o1 hb).1), k.own h.o2 (fun b hb => hc b (own_block h.o2 hb).1), h.ap⟩
theorem ToR.same (b : Below W.heap.size W W') : ToR B0 v1 v2 f g n1 n2 W' := h.kp (col := fun _ => 0) (Kp.of_below b) (fun _ _ => rfl)
theorem ToR.put {gp : Nat} (hg : gp < B0) (j : Nat) (u : Value) : ToR B0 v1 v2 f g n1 n2 (W.setCell ⟨gp, j, none⟩ u) := by
  have hm : Mod [gp] W (W.setCell ⟨gp, j, none⟩ u) := (Mod.refl _ _).setCell (by simp) _
  exact ⟨own_apart h.o1 hm (fun b hb hx => by have := (own_block h.o1 hb).1; simp at hx; omega), own_apart h.o2 hm (fun b hb hx => by have := (own_block h.o2 hb).1; simp at hx; omega), h.ap⟩
theorem ToR.grow1 {v1' : Value} (ho : W'.ownsRow B0 4 1 v1' (n1 + 1) (bls f n1 ++ [.bool (f n1)])) (hg : W.grownBy W' v1.ownBlock) (hn : ∀ b, v1'.ownBlock = some b → v1.ownBlock = some b ∨ W.heap.size ≤ b) : ToR B0 v1' v2 f g (n1 + 1) n2 W' := by
  refine ⟨by rw [bls_succ]; exact ho, own_apart h.o2 (grown_mod hg) (fun b hb hx => h.ap b (by simpa using hx) hb), fun b hb e => ?_⟩
  rcases hn b hb with h1 | h1
  · exact h.ap b h1 e
  · have := (own_block h.o2 e).2
    omega
theorem ToR.grow2 {v2' : Value} (ho : W'.ownsRow B0 4 1 v2' (n2 + 1) (bls g n2 ++ [.bool (g n2)])) (hg : W.grownBy W' v2.ownBlock) (hn : ∀ b, v2'.ownBlock = some b → v2.ownBlock = some b ∨ W.heap.size ≤ b) : ToR B0 v1 v2' f g n1 (n2 + 1) W' := by
  refine ⟨own_apart h.o1 (grown_mod hg) (fun b hb hx => h.ap b hb (by simpa using hx)), by rw [bls_succ]; exact ho, fun b hb e => ?_⟩
  rcases hn b e with h1 | h1
  · exact h.ap b hb h1
  · have := (own_block h.o1 hb).2
    omega
end
structure ToW (w : World) (cd : Cd) (P : Pm) (x : CS) (B0 pr g1 g2 : Nat) (arr : Array Value) (L1 L2 : List Int) (X Y : Value) (W : World) : Prop where
  k : CoAt W cd P x
  b : Bx w W X Y
  q : W.heap[pr]? = some (.cells arr 30 (0, 0))
  r1 : W.heap[g1]? = some (.cells (its L1) 3 (0, 0))
  r2 : W.heap[g2]? = some (.cells (its L2) 3 (0, 0))
  c : (∀ q, pr ≤ q → cd.col q = 0) ∧ Hi cd P.NN pr ∧ w.heap.size < pr
  d : pr < g1 ∧ pr < g2 ∧ g1 ≠ g2 ∧ g1 < B0 ∧ g2 < B0
  base : B0 ≤ W.heap.size
section
variable {w : World} {cd : Cd} {P : Pm} {x : CS} {B0 pr g1 g2 : Nat} {arr : Array Value} {L1 L2 : List Int} {X Y : Value} {W W' : World} (h : ToW w cd P x B0 pr g1 g2 arr L1 L2 X Y W)
include h
theorem ToW.cold : ∀ q, B0 ≤ q → cd.col q = 0 := fun q hq => h.c.1 q (by have := h.d; omega)
theorem ToW.same (b : Below W.heap.size W W') : ToW w cd P x B0 pr g1 g2 arr L1 L2 X Y W' :=
  have m := Mod.of_below (S := []) b
  ⟨h.k.same b, h.b.step b, m.blk h.q (by simp), m.blk h.r1 (by simp), m.blk h.r2 (by simp), h.c, h.d, Nat.le_trans h.base b.size⟩
theorem ToW.act (hc : ∀ q, q < w.heap.size + 1 → cd.col q = 0) {x' : CS} (k : CoAt W' cd P x') (kp : Kp cd.col W W') : ToW w cd P x' B0 pr g1 g2 arr L1 L2 X Y W' := by
  obtain ⟨c1, c2, c3⟩ := h.c
  obtain ⟨d1, d2, d3, d4, d5⟩ := h.d
  exact ⟨k, Bx_kp h.b kp hc, kp.blk h.q (c1 _ (Nat.le_refl _)), kp.blk h.r1 (c1 _ (by omega)), kp.blk h.r2 (c1 _ (by omega)), h.c, h.d, Nat.le_trans h.base kp.size⟩
theorem Bx_mod {S : List Nat} (hm : Mod S W W') (hS : ∀ b ∈ S, pr ≤ b) : Bx w W' X Y := by
  obtain ⟨b1, b2, b3, b4⟩ := h.b
  have h0 := h.c.2.2
  have hn : w.heap.size ∉ S := fun hx => by have := hS _ hx; omega
  exact ⟨Mod.below_of b1 hm b1.size (fun b hb => by have := hS b hb; omega), Nat.lt_of_lt_of_le b2 hm.size, (Pa.cell_mod hm (p := ⟨w.heap.size, 0, none⟩) b2 hn).trans b3, (Pa.cell_mod hm (p := ⟨w.heap.size, 1, none⟩) b2 hn).trans b4⟩
theorem ToW.grow {S : List Nat} (hm : Mod S W W') (hS : ∀ b ∈ S, B0 ≤ b) : ToW w cd P x B0 pr g1 g2 arr L1 L2 X Y W' := by
  obtain ⟨c1, c2, c3⟩ := h.c
  obtain ⟨d1, d2, d3, d4, d5⟩ := h.d
  have ne : ∀ q, q < B0 → q ∉ S := fun q hq hx => by have := hS q hx; omega
  have hS' : ∀ b ∈ S, pr ≤ b := fun b hb => by have := hS b hb; omega
  exact ⟨h.k.high c2 hm hS', Bx_mod h hm hS', hm.blk h.q (ne _ (by omega)), hm.blk h.r1 (ne _ d4), hm.blk h.r2 (ne _ d5), h.c, h.d, Nat.le_trans h.base hm.size⟩
theorem ToW.own {v : Value} {n : Nat} {xs : List Value} (ho : W.ownsRow B0 4 1 v n xs) (hg : W.grownBy W' v.ownBlock) : ToW w cd P x B0 pr g1 g2 arr L1 L2 X Y W' :=
  h.grow (grown_mod hg) (fun b hb => (own_block ho (by simpa using hb)).1)
theorem ToW.put1 (j : Nat) (y : Int) : ToW w cd P x B0 pr g1 g2 arr (L1.set j y) L2 X Y (W.setCell ⟨g1, j, none⟩ (.int .i64 y)) := by
  have hm : Mod [g1] W (W.setCell ⟨g1, j, none⟩ (.int .i64 y)) := (Mod.refl _ _).setCell (by simp) _
  obtain ⟨d1, d2, d3, d4, d5⟩ := h.d
  exact ⟨h.k.high h.c.2.1 hm (by simp; omega), Bx_mod h hm (by simp; omega), hm.blk h.q (by simp; omega), its_set h.r1 j y, hm.blk h.r2 (by simp; omega), h.c, h.d, Nat.le_trans h.base hm.size⟩
theorem ToW.put2 (j : Nat) (y : Int) : ToW w cd P x B0 pr g1 g2 arr L1 (L2.set j y) X Y (W.setCell ⟨g2, j, none⟩ (.int .i64 y)) := by
  have hm : Mod [g2] W (W.setCell ⟨g2, j, none⟩ (.int .i64 y)) := (Mod.refl _ _).setCell (by simp) _
  obtain ⟨d1, d2, d3, d4, d5⟩ := h.d
  exact ⟨h.k.high h.c.2.1 hm (by simp; omega), Bx_mod h hm (by simp; omega), hm.blk h.q (by simp; omega), hm.blk h.r1 (by simp; omega), its_set h.r2 j y, h.c, h.d, Nat.le_trans h.base hm.size⟩
end
theorem st_no {P : Pm} {x x' : CS} {i : Int} (he : ¬ entB x x' i = true) (same all : Nat → Nat) : sameC P x x' i same = same ∧ allC P x x' i all = all :=
  ⟨funext fun k => by unfold sameC; rw [if_neg he], funext fun k => by unfold allC; rw [if_neg he]⟩
theorem st_zero {P : Pm} {x x' : CS} {u v : Nat} (he : entB x x' (u : Int) = true) (h : v = u ∨ wtB P x v = false) (same all : Nat → Nat) : sameC P x x' (u : Int) same v = 0 ∧ allC P x x' (u : Int) all v = 0 := by
  have h1 : (u : Int) = (v : Int) ∨ ¬ waits P x v := by
    rcases h with h | h
    · left; omega
    · right
      exact of_decide_eq_false h
  unfold sameC allC
  rw [if_pos he, if_pos he, if_pos h1, if_pos h1]
  exact ⟨rfl, rfl⟩
theorem st_in {P : Pm} {x x' : CS} {u v : Nat} (hd : 1 ≤ dr P.pg) (he : entB x x' (u : Int) = true) (hne : v ≠ u) (hw : wtB P x v = true) (same all : Nat → Nat) :
    sameC P x x' (u : Int) same v = (if P.nd v = P.nd u then same v + 1 else same v) ∧ allC P x x' (u : Int) all v = (if ctB P x v = true then all v + 1 else all v) := by
  have hw' : waits P x v := of_decide_eq_true hw
  have h1 : ¬ ((u : Int) = (v : Int) ∨ ¬ waits P x v) := by
    rintro (h | h)
    · omega
    · exact h hw'
  unfold sameC allC
  rw [if_pos he, if_pos he, if_neg h1, if_neg h1, Int.toNat_natCast]
  refine ⟨rfl, ?_⟩
  by_cases hc : dr P.pg < pcG x (P.nd v)
  · rw [if_pos hc, if_pos ((ct_iff hd).2 ⟨hw', hc⟩)]
  · rw [if_neg hc, if_neg (fun h => hc ((ct_iff hd).1 h).2)]
theorem Tt.at {P : Pm} {x : CS} {m : Nat} {same all : Nat → Nat} (D : Dj P) (h : Tt P x m same all) (kd i : Int) (he : entB x (doC P x kd i) i = true) : ∃ u : Nat, i = u ∧ u < P.T := by
  obtain ⟨_, _, _, _, H, T0, _⟩ := h
  obtain ⟨u, e, hu, _⟩ := T0.ent D H kd i he
  exact ⟨u, e, hu⟩
theorem ToW.new2 {w : World} {cd : Cd} {P : Pm} {x : CS} {pr : Nat} {arr : Array Value} {X Y : Value} {W : World} (k : CoAt W cd P x) (b : Bx w W X Y) (q : W.heap[pr]? = some (.cells arr 30 (0, 0))) (c : (∀ q, pr ≤ q → cd.col q = 0) ∧ Hi cd P.NN pr ∧ w.heap.size < pr) (hs : W.heap.size = pr + 1) (L : List Int) :
    ToW w cd P x (pr + 3) pr (pr + 1) (pr + 2) arr L L X Y ((W.alloc (.cells (its L) 3)).alloc (.cells (its L) 3)) ∧ ToW w cd P x (pr + 3) pr (pr + 2) (pr + 1) arr L L X Y ((W.alloc (.cells (its L) 3)).alloc (.cells (its L) 3)) := by
  have hb1 := below_new W (.cells (its L) 3)
  have hn1 := blk_new W (.cells (its L) 3)
  have hs1 : (W.alloc (.cells (its L) 3)).heap.size = pr + 2 := by simp [hs]
  generalize W.alloc (.cells (its L) 3) = W1 at *
  have hb2 := below_new W1 (.cells (its L) 3)
  have hn2 := blk_new W1 (.cells (its L) 3)
  generalize W1.alloc (.cells (its L) 3) = W2 at *
  have m1 := Mod.of_below (S := []) hb1
  have m2 := Mod.of_below (S := []) hb2
  rw [hs] at hn1
  rw [hs1] at hn2
  have hn1' := m2.blk hn1 (by simp)
  exact ⟨⟨(k.same hb1).same hb2, (b.step hb1).step hb2, m2.blk (m1.blk q (by simp)) (by simp), hn1', hn2, c, by omega, lt_of_blk hn2⟩, ⟨(k.same hb1).same hb2, (b.step hb1).step hb2, m2.blk (m1.blk q (by simp)) (by simp), hn2, hn1', c, by omega, lt_of_blk hn2⟩⟩
end Go.Proofs.YtfnmggmgdmokcaaGreat.Cm

/- The reference of layer 7: how many threads a leaf has. -/
namespace Go.Proofs.YtfnmggmgdmokcaaGreat.Rn
open Go.RowKit Go.Proofs.YtfnmggmgdmokcaaGreat.Tp Go.Proofs.YtfnmggmgdmokcaaGreat.Li Go.Proofs.YtfnmggmgdmokcaaGreat.De Go.Proofs.YtfnmggmgdmokcaaGreat.Ara

def MtJ (p t : List Int) (w : World) (n : Nat) (X Y : Value) (a : Act) (W : World) : Prop :=
  a.tmps.size = 22 ∧ a.defers = [] ∧ a.tmps.getD 1 undef = .int .i64 (n : Int) ∧ a.tmps.getD 2 undef = .pointer (some ⟨w.heap.size, 0, none⟩) ∧
    ∃ k : Nat, a.tmps.getD 6 undef = .int .i64 (k : Int) ∧ a.tmps.getD 5 undef = .int .i64 (Co.mtN p t n k : Int) ∧ k ≤ t.length ∧ Bx w W X Y
theorem frame22 {a : Act} (h : a.tmps.size = 22) (hd : a.defers = []) : ∃ u : Nat → Value, a = { tmps := #[u 0, u 1, u 2, u 3, u 4, u 5, u 6, u 7, u 8, u 9, u 10, u 11, u 12, u 13, u 14, u 15, u 16, u 17, u 18, u 19, u 20, u 21], defers := [] } ∧ ∀ n, a.tmps.getD n undef = u n := by
  refine ⟨fun n => a.tmps.getD n undef, ?_, fun _ => rfl⟩
  have h1 := arr_lit a.tmps h
  cases a with
  | mk t d =>
    simp only at hd h1
    subst hd
    congr 1
section
variable (p t : List Int) (A B : Option Addr) (c d : Nat) (w : World) (hs : Sl w w.heap.size A (p.flatMap decI)) (ht : Sl w w.heap.size B (t.flatMap decI))
include hs ht
set_option maxRecDepth 100000 in
set_option maxHeartbeats 4000000 in
theorem rmates_in (hck : chk p t = 0) (n : Nat) : Calls Tryz.prog 22 #[(.agg #[.slice A p.length c, .slice B t.length d]), .int .i64 (n : Int)] w fun e w' => e = .returned (.int .i64 (Co.mtN p t n t.length : Int)) ∧ Below w.heap.size w w' := by
  obtain ⟨l1, l2, l3, l4⟩ := chk_len hck
  have HND := Lib.hid (fun W h1 h2 k hk => rnode_in p t A B c d W h1 h2 hck k hk)
  have HS := Lib.hid hs
  have HT := Lib.hid ht
  have HX := Lib.hid (Bx.made w (.slice A p.length c) (.slice B t.length d) 24)
  clear hs ht
  go_enter Tryz.func22, Tryz.ntmps22
  go_wp2_with fail
  refine wp_loop (MtJ p t w n (.slice A p.length c) (.slice B t.length d)) (fun a' _ => t.length - (intOf (a'.tmps.getD 6 undef)).toNat) ?_ ?_
  · exact ⟨rfl, rfl, rfl, rfl, 0, rfl, rfl, Nat.zero_le _, HX.out⟩
  · clear HX
    rintro a' W ⟨hsz, hdf, s1, s2, k, s6, s5, hk, hb⟩
    obtain ⟨u, rfl, hu⟩ := frame22 hsz hdf
    rw [hu] at s1 s2 s6 s5
    simp only [s1, s2, s6, s5]
    clear hsz hdf s1 s2 s6 s5 hu
    have HB := Lib.hid hb
    have c0 := hb.2.2.1
    have c1 := hb.2.2.2
    have hm := Co.mtN_le p t n k
    clear hb
    by_cases hlt : k < t.length
    · have i1 : (k : Int) < (t.length : Int) := by omega
      have HC := Lib.hid (HND.out W (HB.out.sl HS.out) (HB.out.sl HT.out) k hlt)
      by_cases he : ndI p t k = n
      · have HN := Lib.hid (show Co.mtN p t n (k + 1) = Co.mtN p t n k + 1 by show Co.mtN p t n k + (if ndI p t k = n then 1 else 0) = _; rw [if_pos he])
        rw [he] at HC
        clear he
        go_wp2_with fail
        refine HC.out.mono ?_
        rintro e W1 ⟨rfl, b1⟩
        have HB1 := Lib.hid (HB.out.step b1)
        clear b1 c0 c1
        go_wp2_with fail
        go_roundw
        case rel => exact ⟨rfl, rfl, rfl, rfl, k + 1, by go_num, by rw [HN.out]; go_num, by omega, HB1.out⟩
        case measure => simp [intOf]; omega
      · have HN := Lib.hid (show Co.mtN p t n (k + 1) = Co.mtN p t n k by show Co.mtN p t n k + (if ndI p t k = n then 1 else 0) = _; rw [if_neg he]; rfl)
        have g1 := ibeq_no (show ¬ (ndI p t k : Int) = (n : Int) by omega)
        clear he
        generalize (ndI p t k : Int) = y at *
        go_wp2_with fail
        refine HC.out.mono ?_
        rintro e W1 ⟨rfl, b1⟩
        have HB1 := Lib.hid (HB.out.step b1)
        clear b1 c0 c1
        go_wp2_with fail
        go_roundw
        case rel => exact ⟨rfl, rfl, rfl, rfl, k + 1, by go_num, by rw [HN.out]; rfl, by omega, HB1.out⟩
        case measure => simp [intOf]; omega
    · obtain rfl : k = t.length := by omega
      have i1 : ¬ (t.length : Int) < (t.length : Int) := by omega
      go_wp2_with fail
      go_ret
      exact ⟨rfl, HB.out.1⟩
end
end Go.Proofs.YtfnmggmgdmokcaaGreat.Rn

