/- Merged texts: Rd, Co16, CoG, Cm21. -/
import Derived.Test.YtfnmggmgdmokcaaGreatCq28
set_option linter.unusedVariables false
/- Rounds in which one thread's progress counts: each round what is left tO do grows less: the plain law. -/
namespace Go.Proofs.YtfnmggmgdmokcaaGreat.Lok
open Go.RowKit Go.Proofs.YtfnmggmgdmokcaaGreat.Ara

structure Rd {X : Type} (f : X → Ac → X) (W : X → Nat) (Good : X → Prop) (Ready : X → Nat → Prop) (Done : X → Prop) (n : Nat) : Prop where
  g : ∀ x c, Good x → Good (f x c)
  le : ∀ x (i : Nat) (k : Int), k = 0 ∨ k = 2 → Good x → W (f x ⟨k, i⟩) ≤ W x
  keep : ∀ x (i s : Nat) (k : Int), k = 0 ∨ k = 2 → Good x → i ≠ s → Ready x s → W (f x ⟨k, i⟩) < W x ∨ Ready (f x ⟨k, i⟩) s
  ex : ∀ x, Good x → ¬ Done x → ∃ i, i < n ∧ Ready x i
  go : ∀ x (i : Nat), Good x → Ready x i → W (f (f x ⟨0, i⟩) ⟨2, i⟩) < W x
  dn : ∀ x (i : Nat) (k : Int), k = 0 ∨ k = 2 → Good x → Done x → Done (f x ⟨k, i⟩)
section
variable {X : Type} {f : X → Ac → X} {W : X → Nat} {Good : X → Prop} {Ready : X → Nat → Prop} {Done : X → Prop} {n : Nat} (h : Rd f W Good Ready Done n)
include h
theorem Rd.round_good {x : X} (hg : Good x) (k : Nat) : Good (round f x k) := by
  induction k with
  | zero => exact hg
  | succ k ih => exact h.g _ _ (h.g _ _ ih)
theorem Rd.round_done {x : X} (hg : Good x) (hd : Done x) (k : Nat) : Done (round f x k) := by
  induction k with
  | zero => exact hd
  | succ k ih => exact h.dn _ _ _ (.inr rfl) (h.g _ _ (h.round_good hg k)) (h.dn _ _ _ (.inl rfl) (h.round_good hg k) ih)
theorem Rd.round_less {x : X} (hg : Good x) {s : Nat} (hs : Ready x s) (k : Nat) : W (round f x k) < W x ∨ (W (round f x k) ≤ W x ∧ k ≤ s ∧ Ready (round f x k) s) := by
  induction k with
  | zero => exact .inr ⟨Nat.le_refl _, Nat.zero_le _, hs⟩
  | succ k ih =>
    have g0 := h.round_good hg k
    have g1 := h.g _ ⟨0, k⟩ g0
    have d1 := h.le _ k 0 (.inl rfl) g0
    have d2 := h.le _ k 2 (.inr rfl) g1
    show W (f (f (round f x k) ⟨0, k⟩) ⟨2, k⟩) < _ ∨ (W (f (f (round f x k) ⟨0, k⟩) ⟨2, k⟩) ≤ _ ∧ _ ∧ Ready (f (f (round f x k) ⟨0, k⟩) ⟨2, k⟩) s)
    rcases ih with ih | ⟨i1, i2, i3⟩
    · left; omega
    · by_cases e : k = s
      · left
        have := h.go _ s g0 i3
        rw [← e] at this
        omega
      · rcases h.keep _ k s 0 (.inl rfl) g0 e i3 with d3 | d3
        · left; omega
        · rcases h.keep _ k s 2 (.inr rfl) g1 e d3 with d4 | d4
          · left; omega
          · exact .inr ⟨by omega, by omega, d4⟩
theorem Rd.rounds_good {x : X} (hg : Good x) (k : Nat) : Good (rounds f n x k) := by
  induction k with
  | zero => exact hg
  | succ k ih => exact h.round_good ih n
theorem Rd.rounds_less {x : X} (hg : Good x) (k : Nat) : W (rounds f n x k) + k ≤ W x ∨ Done (rounds f n x k) := by
  induction k with
  | zero => exact .inl (Nat.le_refl _)
  | succ k ih =>
    have g0 := h.rounds_good hg k
    by_cases hd : Done (rounds f n x k)
    · exact .inr (h.round_done g0 hd n)
    · rcases ih with ih | ih
      · obtain ⟨s, hs, hr⟩ := h.ex _ g0 hd
        rcases h.round_less g0 hr n with r | ⟨_, r, _⟩
        · left
          show W (round f (rounds f n x k) n) + (k + 1) ≤ _
          omega
        · omega
      · exact absurd ih hd
theorem Rd.rounds_done {x : X} (hg : Good x) (k : Nat) (hk : W x < k) : Done (rounds f n x k) := by
  rcases h.rounds_less hg k with r | r
  · omega
  · exact r
end
end Go.Proofs.YtfnmggmgdmokcaaGreat.Lok

/- A global lock of nodes, a local one of the threads of each: what is left tO do grows less, round by round, till all are at rest: the plain law. -/
namespace Go.Proofs.YtfnmggmgdmokcaaGreat.Co
open Go.RowKit Go.Proofs.YtfnmggmgdmokcaaGreat.Ara Go.Proofs.YtfnmggmgdmokcaaGreat.Lok Go.Proofs.YtfnmggmgdmokcaaGreat.Fl

def sumN (f : Nat → Nat) : Nat → Nat
  | 0 => 0
  | n + 1 => sumN f n + f n
theorem sumN_same {f g : Nat → Nat} : ∀ {n : Nat}, (∀ j, j < n → g j = f j) → sumN g n = sumN f n
  | 0, _ => rfl
  | n + 1, h => by
    show sumN g n + g n = sumN f n + f n
    rw [sumN_same (n := n) (fun j hj => h j (by omega)), h n (by omega)]
theorem sumN_one {f g : Nat → Nat} {k : Nat} : ∀ {n : Nat}, k < n → (∀ j, j < n → j ≠ k → g j = f j) → sumN g n + f k = sumN f n + g k
  | 0, hk, _ => by omega
  | n + 1, hk, h => by
    show sumN g n + g n + f k = sumN f n + f n + g k
    by_cases e : k = n
    · subst e
      rw [sumN_same (n := k) (fun j hj => h j (by omega) (by omega))]
      omega
    · have h1 := sumN_one (n := n) (k := k) (f := f) (g := g) (by omega) (fun j hj hn => h j (by omega) hn)
      have h2 := h n (by omega) (fun e9 => e e9.symm)
      omega
theorem sumN_le {f : Nat → Nat} {c : Nat} : ∀ {n : Nat}, (∀ j, j < n → f j ≤ c) → sumN f n ≤ c * n
  | 0, _ => by simp [sumN]
  | n + 1, h => by
    have h1 := sumN_le (n := n) (fun j hj => h j (by omega))
    have h2 := h n (by omega)
    show sumN f n + f n ≤ c * (n + 1)
    rw [Nat.mul_add]
    omega
theorem sumN_zero {f : Nat → Nat} {n : Nat} (h : ∀ j, j < n → f j = 0) : sumN f n = 0 := by
  have := sumN_le (c := 0) (n := n) (f := f) (fun j hj => by rw [h j hj]; exact Nat.le_refl _)
  omega
theorem sumN_img {N c : Nat} {nd : Nat → Nat} : ∀ {T : Nat} {f : Nat → Nat}, (∀ n, n < N → f n ≤ c) → (∀ n, n < N → f n ≠ 0 → ∃ t, t < T ∧ nd t = n) → sumN f N ≤ c * T
  | 0, f, _, h => by
    rw [sumN_zero (fun n hn => by
      by_cases e : f n = 0
      · exact e
      · obtain ⟨t, ht, _⟩ := h n hn e; omega)]
    omega
  | T + 1, f, hc, h => by
    by_cases hN : nd T < N
    · have h1 := sumN_one (f := f) (g := fun n => if n = nd T then 0 else f n) (k := nd T) hN (fun j _ hj => if_neg hj)
      have h2 := sumN_img (N := N) (c := c) (nd := nd) (T := T) (f := fun n => if n = nd T then 0 else f n) (fun n hn => by
        show (if n = nd T then 0 else f n) ≤ c
        split
        · omega
        · exact hc n hn) (fun n hn hne => by
        have hne : (if n = nd T then 0 else f n) ≠ 0 := hne
        split at hne
        · exact absurd rfl hne
        · rename_i e
          obtain ⟨t, ht, hnn⟩ := h n hn hne
          have : t ≠ T := fun e9 => e (by rw [← hnn, e9])
          exact ⟨t, by omega, hnn⟩)
      have h3 := hc _ hN
      have h4 : (if nd T = nd T then 0 else f (nd T)) = 0 := if_pos rfl
      rw [h4] at h1
      rw [Nat.mul_add]
      omega
    · have h2 := sumN_img (N := N) (c := c) (nd := nd) (T := T) (f := f) hc (fun n hn hne => by
        obtain ⟨t, ht, hnn⟩ := h n hn hne
        have : t ≠ T := fun e9 => hN (by rw [← e9, hnn]; exact hn)
        exact ⟨t, by omega, hnn⟩)
      rw [Nat.mul_add]
      omega
def wTt (pc : Int) : Nat :=
  if pc = 1 then 21 else if pc = 2 then 20 else if pc = 3 then 9 else if pc = 4 then 8 else if pc = 10 then 7 else if pc = 11 then 6 else if pc = 12 then 5 else if pc = 13 then 4 else if pc = 14 then 3 else if pc = 15 then 2 else if pc = 16 then 1 else 0
theorem wTt_le (pc : Int) : wTt pc ≤ 21 := by
  unfold wTt
  repeat' split
  all_goals omega
def inN (P : Pm) (n : Nat) : Bool := (List.range P.T).any fun t => decide (P.nd t = n)
theorem inN_iff {P : Pm} {n : Nat} : inN P n = true ↔ ∃ t, t < P.T ∧ P.nd t = n := by
  unfold inN
  rw [List.any_eq_true]
  constructor
  · rintro ⟨t, h1, h2⟩; exact ⟨t, List.mem_range.1 h1, of_decide_eq_true h2⟩
  · rintro ⟨t, h1, h2⟩; exact ⟨t, List.mem_range.2 h1, decide_eq_true h2⟩
def wNd (P : Pm) (x : CS) (n : Nat) : Nat := if inN P n then exK (P.pl n) (x.loc n) + wpc P.pg (pcG x n) else 0
def wTh (P : Pm) (x : CS) (t : Nat) : Nat := wTt (pcT x t) + wpc (P.pl (P.nd t)) (pcL P x t)
def Wc (P : Pm) (x : CS) : Nat := sumN (wTh P x) P.T + sumN (wNd P x) P.NN + exK P.pg x.g
def Vc (P : Pm) (x : CS) (t : Nat) : Nat := wTt (pcT x t) + cost (P.pl (P.nd t)) (x.loc (P.nd t)) (P.sl t) + cost P.pg x.g (P.nd t)
structure Lm (P : Pm) (x : CS) : Prop where
  g : limK P.pg x.g
  l : ∀ n, n < P.NN → limK (P.pl n) (x.loc n)
theorem Wc_le {P : Pm} {x : CS} (D : Dj P) (L : Lm P x) : Wc P x ≤ 45 * P.T + 4 := by
  have h1 : sumN (wTh P x) P.T ≤ 31 * P.T := sumN_le fun t ht => by
    have := wTt_le (pcT x t)
    have := wpc_le (L.l _ (D.nd t ht).1) (pcL P x t)
    unfold wTh
    omega
  have h2 : sumN (wNd P x) P.NN ≤ 14 * P.T := sumN_img (nd := P.nd) (fun n hn => by
      have := wpc_le L.g (pcG x n)
      have := exK_le (L.l n hn)
      unfold wNd
      split <;> omega) (fun n hn h => by
      unfold wNd at h
      cases e : inN P n with
      | true => exact inN_iff.1 e
      | false => rw [e] at h; exact absurd rfl h)
  have h3 := exK_le L.g
  unfold Wc
  omega
def RdC (P : Pm) (x : CS) (t : Nat) : Prop := t < P.T ∧ pcT x t ≠ 0 ∧ (pcT x t = 1 ∨ pcT x t = 16 → rdK (P.pl (P.nd t)) x.σ (x.loc (P.nd t)) (P.sl t)) ∧ (pcT x t = 3 ∨ pcT x t = 15 → rdK P.pg x.σ x.g (P.nd t))
theorem Wc_one {P : Pm} {x x' : CS} (D : Dj P) {t : Nat} (ht : t < P.T) (ho : Oth P x x' t) (hl : ∀ k, k ≠ P.nd t → x'.loc k = x.loc k) : Wc P x' + Vc P x t = Wc P x + Vc P x' t := by
  have h1 := sumN_one (f := wTh P x) (g := wTh P x') ht (fun u hu hne => by
    unfold wTh
    rw [show pcT x' u = pcT x u from congrArg Sp.pc (ho.S u hne), ho.l u hu hne])
  have h2 := sumN_one (f := wNd P x) (g := wNd P x') (D.nd t ht).1 (fun n _ hne => by
    unfold wNd
    rw [hl n hne, ho.g n hne])
  have hi : inN P (P.nd t) = true := inN_iff.2 ⟨t, ht, rfl⟩
  have e1 : wNd P x (P.nd t) = exK (P.pl (P.nd t)) (x.loc (P.nd t)) + wpc P.pg (pcG x (P.nd t)) := by unfold wNd; rw [if_pos hi]
  have e2 : wNd P x' (P.nd t) = exK (P.pl (P.nd t)) (x'.loc (P.nd t)) + wpc P.pg (pcG x' (P.nd t)) := by unfold wNd; rw [if_pos hi]
  rw [e1, e2] at h2
  have e3 : wTh P x t = wTt (pcT x t) + wpc (P.pl (P.nd t)) (pcL P x t) := rfl
  have e4 : wTh P x' t = wTt (pcT x' t) + wpc (P.pl (P.nd t)) (pcL P x' t) := rfl
  rw [e3, e4] at h1
  unfold Wc Vc cost
  show _ + (_ + (wpc (P.pl (P.nd t)) (pcL P x t) + _) + (wpc P.pg (pcG x (P.nd t)) + _)) = _ + (_ + (wpc (P.pl (P.nd t)) (pcL P x' t) + _) + (wpc P.pg (pcG x' (P.nd t)) + _))
  omega
section
variable {P : Pm} {x : CS} {m : Nat} (D : Dj P) (H : CI P x m) (L : Lm P x)
include D H L
theorem Lm.act (kd i : Int) : Lm P (doC P x kd i) := by
  rcases H.aw D kd i with h | ⟨t, ht, rfl, hx, hm, ho⟩ | ⟨t, ht, rfl, h0, h1, hσ, hg, hl, hl1, ho⟩ | ⟨t, ht, rfl, h0, h1, ha, hσ, hg, hl, ho⟩
  · rw [h]; exact L
  · have hc := H.ch D ht
    rw [← hx] at hc
    have hLn := L.l _ (D.nd t ht).1
    refine ⟨?_, fun n hn => ?_⟩
    · by_cases e : pcT x t = 3 ∨ pcT x t = 15
      · rw [(hc.g1 e).1]; exact lim_act L.g 0 _
      · rcases hc.g2 (fun h => e (.inl h)) (fun h => e (.inr h)) with h | ⟨_, _, _, h⟩ | ⟨_, _, h⟩
        · rw [h]; exact L.g
        · rw [h]; exact lim_act L.g 1 _
        · rw [h]; exact lim_act L.g 2 _
    · by_cases en : n = P.nd t
      · subst en
        by_cases e : pcT x t = 1 ∨ pcT x t = 16
        · rw [(hc.l1 e).1]; exact lim_act hLn 0 _
        · rcases hc.l2 (fun h => e (.inl h)) (fun h => e (.inr h)) with h | ⟨_, _, σ, h⟩
          · rw [h]; exact hLn
          · rw [h]; exact lim_act hLn 2 _
      · rw [hc.l3 n en]; exact L.l n hn
  · refine ⟨by rw [hg]; exact L.g, fun n hn => ?_⟩
    rw [hl]
    by_cases en : n = P.nd t
    · subst en
      rw [upd_self]; exact lim_act (L.l _ hn) 1 _
    · rw [upd_other _ _ en]; exact L.l n hn
  · exact ⟨by rw [hg]; exact L.g, fun n hn => by rw [hl]; exact L.l n hn⟩
theorem CI.vstep {t : Nat} (ht : t < P.T) {x' : CS} (hx : x' = stepC P x t) : Vc P x' t ≤ Vc P x t ∧ (RdC P x t → pcT x t ≠ 10 → Vc P x' t < Vc P x t) ∧ (∀ s, s ≠ t → RdC P x s → Vc P x' t < Vc P x t ∨ RdC P x' s) := by
  obtain ⟨hn, hsl⟩ := D.nd t ht
  have hc := H.ch D ht
  have hm := H.mv D ht
  have ho := H.oth D ht
  rw [← hx] at hc hm ho
  clear hx
  have hcl := (H.ol _ hn).cost_step (L.l _ hn) (P.sl t)
  have hcg := H.og.cost_step L.g (P.nd t)
  have hr := H.rel t ht
  have hN := H.nod t ht
  unfold relP at hr
  unfold nodP at hN
  have hA : cost (P.pl (P.nd t)) (x'.loc (P.nd t)) (P.sl t) ≤ cost (P.pl (P.nd t)) (x.loc (P.nd t)) (P.sl t) := by
    by_cases e : pcT x t = 1 ∨ pcT x t = 16
    · rw [(hc.l1 e).1]; exact hcl.1
    · rcases hc.l2 (fun h => e (.inl h)) (fun h => e (.inr h)) with h | ⟨h10, _, σ, h⟩
      · rw [h]; exact Nat.le_refl _
      · rw [h]; exact (H.ol _ hn).cost_leave (L.l _ hn) h10 σ
  have hB : cost P.pg x'.g (P.nd t) ≤ cost P.pg x.g (P.nd t) + (if pcT x t = 2 then 10 else 0) := by
    by_cases e : pcT x t = 3 ∨ pcT x t = 15
    · rw [(hc.g1 e).1]; exact Nat.le_trans hcg.1 (Nat.le_add_right _ _)
    · rcases hc.g2 (fun h => e (.inl h)) (fun h => e (.inr h)) with h | ⟨h2, _, h0, h⟩ | ⟨_, h10, h⟩
      · rw [h]; exact Nat.le_add_right _ _
      · rw [if_pos h2, h]
        exact H.og.cost_ask L.g (by omega) (by omega) h0
      · rw [h]; exact Nat.le_trans (H.og.cost_leave L.g h10 _) (Nat.le_add_right _ _)
  have strict : wTt (pcT x' t) + (if pcT x t = 2 then 10 else 0) < wTt (pcT x t) → Vc P x' t ≤ Vc P x t ∧ (RdC P x t → pcT x t ≠ 10 → Vc P x' t < Vc P x t) ∧ (∀ s, s ≠ t → RdC P x s → Vc P x' t < Vc P x t ∨ RdC P x' s) := by
    intro hw
    have : Vc P x' t < Vc P x t := by unfold Vc; omega
    exact ⟨by omega, fun _ _ => this, fun _ _ _ => .inl this⟩
  have hpc : ∀ s : Nat, s ≠ t → pcT x' s = pcT x s := fun s hs => congrArg Sp.pc (ho.S s hs)
  have spinL : (pcT x t = 1 ∨ pcT x t = 16) → pcT x' t = pcT x t → pcL P x t ≠ 10 → Vc P x' t ≤ Vc P x t ∧ (RdC P x t → pcT x t ≠ 10 → Vc P x' t < Vc P x t) ∧ (∀ s, s ≠ t → RdC P x s → Vc P x' t < Vc P x t ∨ RdC P x' s) := by
    intro e e' hla
    rw [if_neg (by omega)] at hB
    obtain ⟨l1, l2⟩ := hc.l1 e
    have hA' : cost (P.pl (P.nd t)) (x'.loc (P.nd t)) (P.sl t) < cost (P.pl (P.nd t)) (x.loc (P.nd t)) (P.sl t) → Vc P x' t < Vc P x t := fun h => by unfold Vc; rw [e']; omega
    refine ⟨by unfold Vc; rw [e']; omega, fun hrd _ => hA' ?_, fun s hs hrd => ?_⟩
    · rw [l1]; exact hcl.2.1 (hrd.2.2.1 e) hla
    · by_cases hlt : Vc P x' t < Vc P x t
      · exact .inl hlt
      · right
        obtain ⟨hsT, hs0, hs1, hs2⟩ := hrd
        refine ⟨hsT, by rw [hpc s hs]; exact hs0, fun hp => ?_, fun hp => ?_⟩
        · rw [hpc s hs] at hp
          have h1 := hs1 hp
          by_cases en : P.nd s = P.nd t
          · rw [en] at h1 ⊢
            have hne : (P.sl s : Int) ≠ P.sl t := fun e9 => hs (D.inj s t hsT ht en (by omega))
            rcases hcl.2.2 _ hne h1 with h2 | h2
            · exact absurd (hA' (by rw [l1]; exact h2)) hlt
            · rw [l1, l2]; exact h2
          · rw [hc.l3 _ en, l2]
            have hsN := (D.nd s hsT).1
            refine h1.al ?_
            rw [(H.ol _ hsN).len]
            exact (H.loc_al D ht 0).2.1 _ hsN en
        · rw [hpc s hs] at hp
          have hg : x'.g = x.g := by
            rcases hc.g2 (by omega) (by omega) with h | ⟨h, _⟩ | ⟨h, _⟩
            · exact h
            · omega
            · omega
          rw [hg, l2]
          refine (hs2 hp).al ?_
          rw [H.og.len]
          exact (H.loc_al D ht 0).1
  have spinG : (pcT x t = 3 ∨ pcT x t = 15) → pcT x' t = pcT x t → pcG x (P.nd t) ≠ 10 → Vc P x' t ≤ Vc P x t ∧ (RdC P x t → pcT x t ≠ 10 → Vc P x' t < Vc P x t) ∧ (∀ s, s ≠ t → RdC P x s → Vc P x' t < Vc P x t ∨ RdC P x' s) := by
    intro e e' hγ
    rw [if_neg (by omega)] at hB
    obtain ⟨g1, g2⟩ := hc.g1 e
    have hB' : cost P.pg x'.g (P.nd t) < cost P.pg x.g (P.nd t) → Vc P x' t < Vc P x t := fun h => by unfold Vc; rw [e']; omega
    refine ⟨by unfold Vc; rw [e']; omega, fun hrd _ => hB' ?_, fun s hs hrd => ?_⟩
    · rw [g1]; exact hcg.2.1 (hrd.2.2.2 e) hγ
    · by_cases hlt : Vc P x' t < Vc P x t
      · exact .inl hlt
      · right
        obtain ⟨hsT, hs0, hs1, hs2⟩ := hrd
        have hsN := (D.nd s hsT).1
        refine ⟨hsT, by rw [hpc s hs]; exact hs0, fun hp => ?_, fun hp => ?_⟩
        · rw [hpc s hs] at hp
          have hl : x'.loc (P.nd s) = x.loc (P.nd s) := by
            by_cases en : P.nd s = P.nd t
            · rw [en]
              rcases hc.l2 (by omega) (by omega) with h | ⟨_, h, _⟩
              · exact h
              · omega
            · exact hc.l3 _ en
          rw [hl, g2]
          refine (hs1 hp).al ?_
          rw [(H.ol _ hsN).len]
          exact (H.glo_al D (P.nd t) 0).1 _ hsN
        · rw [hpc s hs] at hp
          have hne : (P.nd s : Int) ≠ P.nd t := fun e9 => by
            have := H.alone D ht (by omega) hsT (by omega) hs
            omega
          rcases hcg.2.2 _ hne (hs2 hp) with h2 | h2
          · exact absurd (hB' (by rw [g1]; exact h2)) hlt
          · rw [g1, g2]; exact h2
  cases hm with
  | rest h hp =>
    rw [h]
    exact ⟨Nat.le_refl _, fun hrd h10 => absurd (hp.resolve_right h10) hrd.2.1, fun s _ hrd => .inr hrd⟩
  | loc1 h h' hl hc2 hg => exact spinL (.inl h) (by rw [h, h']) (by omega)
  | got1 h h' hl hc2 hg => exact strict (by rw [h, h']; decide)
  | ent2 h h' hl ha h0' hc2 g0 hg => exact strict (by rw [h, h']; decide)
  | ask2 h h' hl h0' hc2 g0 hg => exact strict (by rw [h, h']; decide)
  | glo3 h h' hl h0' hc2 g0 hg => exact spinG (.inl h) (by rw [h, h']) (by omega)
  | got3 h h' hl h0' hc2 g0 hg => exact strict (by rw [h, h']; decide)
  | ent4 h h' hl ha h0' hc2 g0 hg => exact strict (by rw [h, h']; decide)
  | ld11 h h' hl hc2 g0 hg => exact strict (by rcases h' with h' | h' <;> (rw [h, h']; decide))
  | al12 h h' hl hc2 g0 hg => exact strict (by rcases h' with h' | h' <;> (rw [h, h']; decide))
  | st13 h h' hl hc2 hB2 g0 hg => exact strict (by rw [h, h']; decide)
  | st14 h h' hl hc2 g0 hg => exact strict (by rw [h, h']; decide)
  | glo15 h h' hl h0' hc2 g0 hg => exact spinG (.inr h) (by rw [h, h']) (by omega)
  | got15 h h' hl h0' hc2 g0 hg => exact strict (by rw [h, h']; decide)
  | loc16 h h' hl hc2 hg => exact spinL (.inr h) (by rw [h, h']) (by omega)
  | got16 h h' hl hc2 hg => exact strict (by rw [h, h']; decide)
end
def DnC (P : Pm) (x : CS) : Prop := ∀ t, t < P.T → pcT x t = 0
structure Gd (P : Pm) (x : CS) : Prop where
  i : ∃ m, CI P x m
  w : CW P x
  l : Lm P x
section
variable {P : Pm} {x : CS} (D : Dj P) (J : Sjo P) (G : Gd P x)
include D J G
theorem Gd.act (kd i : Int) : Gd P (doC P x kd i) := by
  obtain ⟨⟨m, H⟩, C, L⟩ := G
  exact ⟨⟨m + 1, H.act D kd i⟩, C.act D J H kd i, L.act D H kd i⟩
theorem Gd.ex_in {u : Nat} (hu : u < P.T) (h0 : pcT x u ≠ 0) (hb : ∀ v, v < P.T → P.nd v = P.nd u → ¬ busy (pcT x v)) : ∃ v, v < P.T ∧ RdC P x v := by
  obtain ⟨⟨m, H⟩, C, L⟩ := G
  obtain ⟨hn, hsl⟩ := D.nd u hu
  have hr := H.rel u hu
  unfold relP at hr
  obtain ⟨i, hi0, hi⟩ := (H.ol _ hn).some_rd (L.l _ hn) (s := P.sl u) (by show pcL P x u ≠ 0; omega)
  obtain ⟨i0, i1⟩ := spOf_range hi0
  obtain ⟨k, rfl⟩ := Int.eq_ofNat_of_zero_le i0
  have hlen := (H.ol _ hn).len
  obtain ⟨v, hv, hvn, hvs⟩ := J u hu k (by omega)
  have hrv := H.rel v hv
  have e : pcL P x v = (spOf (x.loc (P.nd u)) (k : Int)).pc := by unfold pcL; rw [hvn, hvs]
  unfold relP at hrv
  refine ⟨v, hv, hv, by omega, fun _ => by rw [hvn, hvs]; exact hi, fun h => ?_⟩
  exact absurd (by unfold busy; omega) (hb v hv hvn)
theorem Gd.ex_rd (hd : ¬ DnC P x) : ∃ v, v < P.T ∧ RdC P x v := by
  have G' := G
  obtain ⟨⟨m, H⟩, C, L⟩ := G
  obtain ⟨u, hu, hu0⟩ : ∃ u, u < P.T ∧ pcT x u ≠ 0 := by
    refine Classical.byContradiction fun h => hd fun t ht => ?_
    exact Classical.byContradiction fun h2 => h ⟨t, ht, h2⟩
  by_cases hg : ∃ n : Nat, pcG x n ≠ 0
  · obtain ⟨n0, hn0⟩ := hg
    obtain ⟨i, hi0, hi⟩ := H.og.some_rd L.g hn0
    obtain ⟨i0, i1⟩ := spOf_range hi0
    obtain ⟨n, rfl⟩ := Int.eq_ofNat_of_zero_le i0
    have hn : n < P.NN := by have := H.og.len; omega
    by_cases hb : ∃ v, v < P.T ∧ P.nd v = n ∧ busy (pcT x v)
    · obtain ⟨v, hv, hvn, hbv⟩ := hb
      unfold busy at hbv
      exact ⟨v, hv, hv, by omega, fun h => by omega, fun _ => by rw [hvn]; exact hi⟩
    · have hb' : ∀ v, v < P.T → P.nd v = n → ¬ busy (pcT x v) := fun v hv hvn h => hb ⟨v, hv, hvn, h⟩
      rcases H.free n hn hb' with h | h
      · exact absurd h.2 hi0
      · obtain ⟨v, hv, hvn, hv1⟩ := C.c n hn h.1 hb'
        exact G'.ex_in D J hv (by omega) (fun w hw hwn => hb' w hw (hwn.trans hvn))
  · have hg' : ∀ n : Nat, pcG x n = 0 := fun n => Classical.byContradiction fun h => hg ⟨n, h⟩
    refine G'.ex_in D J hu hu0 fun v hv _ hb => ?_
    have hN := H.nod v hv
    unfold nodP at hN
    rw [hg' (P.nd v)] at hN
    unfold busy at hb
    omega
omit J in
theorem Gd.glo (hd : DnC P x) {t : Nat} (ht : t < P.T) : pcG x (P.nd t) = 0 := by
  obtain ⟨⟨m, H⟩, C, L⟩ := G
  have hb : ∀ v, v < P.T → P.nd v = P.nd t → ¬ busy (pcT x v) := fun v hv _ h => by
    have := hd v hv
    unfold busy at h
    omega
  rcases H.free _ (D.nd t ht).1 hb with h | h
  · exact h.2
  · obtain ⟨v, hv, _, hv1⟩ := C.c _ (D.nd t ht).1 h.1 hb
    have := hd v hv
    omega
end
theorem rd_all {P : Pm} (D : Dj P) (J : Sjo P) : Rd (fun x c => doC P x c.kind c.i) (Wc P) (Gd P) (RdC P) (DnC P) P.T := by
  have leaveW : ∀ (x : CS) (i : Nat), Gd P x → (doC P x 2 i = x ∨ (Wc P (doC P x 2 i) < Wc P x)) := by
    rintro x i ⟨⟨m, H⟩, C, L⟩
    rcases H.aw D 2 i with h | ⟨t, ht, e, hx, hm, ho⟩ | ⟨t, ht, e, h0, h1, hσ, hg, hl, hl1, ho⟩ | ⟨t, ht, e, h0, h1, ha, hσ, hg, hl, ho⟩
    · exact .inl h
    · obtain rfl : i = t := by omega
      by_cases hl10 : pcT x i = 10
      · have hq : pcT (doC P x 2 i) i = 11 ∨ pcT (doC P x 2 i) i = pcT x i := by
          show (spOf (turnS x.S i 10 11) i).pc = 11 ∨ (spOf (turnS x.S i 10 11) i).pc = _
          rw [spOf_turnS]
          split
          · exact .inl rfl
          · exact .inr rfl
        left
        show leaveC x i = x
        have hs : stepC P x i = x := by unfold stepC; rw [if_pos (.inr hl10)]
        have h2 : doC P x 2 i = leaveC x i := rfl
        rw [hs] at hx
        rw [← h2]
        exact hx
      · left
        show leaveC x i = x
        unfold leaveC
        rw [turn_no _ (by
          cases hb : turnB x.S i 10 with
          | false => rfl
          | true => exact absurd (turn_true hb).2 hl10)]
    · obtain rfl : i = t := by omega
      exfalso
      have : pcT (doC P x 2 i) i = 11 ∨ pcT (doC P x 2 i) i = pcT x i := by
        show (spOf (turnS x.S i 10 11) i).pc = 11 ∨ (spOf (turnS x.S i 10 11) i).pc = _
        rw [spOf_turnS]
        split
        · exact .inl rfl
        · exact .inr rfl
      omega
    · obtain rfl : i = t := by omega
      right
      have hw := Wc_one D ht ho (fun k _ => by rw [hl])
      have : Vc P (doC P x 2 i) i < Vc P x i := by
        unfold Vc
        rw [hl, hg, h0, h1]
        have : wTt 11 < wTt 10 := by decide
        omega
      omega
  have stepW : ∀ (x : CS) (i : Nat), Gd P x → (doC P x 0 i = x ∧ (¬ i < P.T ∨ pcT x i = 0 ∨ pcT x i = 10)) ∨ (i < P.T ∧ doC P x 0 i = stepC P x i ∧ Wc P (doC P x 0 i) + Vc P x i = Wc P x + Vc P (doC P x 0 i) i) := by
    rintro x i ⟨⟨m, H⟩, C, L⟩
    by_cases ht : i < P.T
    · right
      refine ⟨ht, rfl, ?_⟩
      exact Wc_one D ht (H.oth D ht) (H.ch D ht).l3
    · left
      refine ⟨?_, .inl ht⟩
      show stepC P x i = x
      unfold stepC
      rw [if_pos (.inl (by
        refine Classical.byContradiction fun h => ?_
        obtain ⟨k, e, hk⟩ := H.rngT h
        omega))]
  have stepLe : ∀ (x : CS) (i : Nat), Gd P x → Wc P (doC P x 0 i) ≤ Wc P x := by
    intro x i G
    rcases stepW x i G with ⟨h, _⟩ | ⟨ht, h, hw⟩
    · rw [h]; exact Nat.le_refl _
    · obtain ⟨⟨m, H⟩, C, L⟩ := G
      have := (H.vstep D L ht h).1
      omega
  refine ⟨fun x c G => G.act D J c.kind c.i, ?_, ?_, fun x G hd => G.ex_rd D J hd, ?_, ?_⟩
  · rintro x i k (rfl | rfl) G
    · exact stepLe x i G
    · rcases leaveW x i G with h | h
      · show Wc P (doC P x 2 i) ≤ _
        rw [h]; exact Nat.le_refl _
      · exact Nat.le_of_lt h
  · rintro x i s k (rfl | rfl) G hne hr
    · rcases stepW x i G with ⟨h, _⟩ | ⟨ht, h, hw⟩
      · right
        show RdC P (doC P x 0 i) s
        rw [h]; exact hr
      · obtain ⟨⟨m, H⟩, C, L⟩ := G
        rcases (H.vstep D L ht h).2.2 s (fun e => hne e.symm) hr with h2 | h2
        · left
          show Wc P (doC P x 0 i) < _
          omega
        · exact .inr h2
    · rcases leaveW x i G with h | h
      · right
        show RdC P (doC P x 2 i) s
        rw [h]; exact hr
      · exact .inl h
  · intro x i G hr
    show Wc P (doC P (doC P x 0 i) 2 i) < Wc P x
    have G1 := G.act D J 0 i
    by_cases h10 : pcT x i = 10
    · have hs : doC P x 0 i = x := by
        show stepC P x i = x
        unfold stepC
        rw [if_pos (.inr h10)]
      rw [hs]
      rcases leaveW x i G with h | h
      · exfalso
        have : pcT (doC P x 2 i) i = 11 := by
          show (spOf (turnS x.S i 10 11) i).pc = 11
          have hb : turnB x.S i 10 = true := by
            obtain ⟨⟨m, H⟩, C, L⟩ := G
            have h1 := hr.1
            have := H.len
            unfold turnB
            rw [Bool.and_eq_true, Bool.and_eq_true, decide_eq_true_eq, decide_eq_true_eq, beq_iff_eq]
            exact ⟨⟨by omega, by omega⟩, h10⟩
          rw [spOf_turnS, if_pos ⟨hb, rfl⟩]
        rw [h] at this
        omega
      · exact h
    · rcases stepW x i G with ⟨h, h2⟩ | ⟨ht, h, hw⟩
      · exfalso
        have h1 := hr.1
        have h3 := hr.2.1
        omega
      · have hv : Vc P (doC P x 0 i) i < Vc P x i := by
          obtain ⟨⟨m, H⟩, C, L⟩ := G
          exact (H.vstep D L ht h).2.1 hr h10
        rcases leaveW _ i G1 with h2 | h2
        · rw [h2]; omega
        · omega
  · rintro x i k (rfl | rfl) G hd
    · show DnC P (doC P x 0 i)
      have : doC P x 0 i = x := by
        show stepC P x i = x
        unfold stepC
        rw [if_pos (.inl (by
          refine Classical.byContradiction fun h => ?_
          obtain ⟨⟨m, H⟩, C, L⟩ := G
          obtain ⟨k, e, hk⟩ := H.rngT h
          have := hd k hk
          rw [e] at h
          exact h this))]
      rw [this]; exact hd
    · show DnC P (doC P x 2 i)
      rcases leaveW x i G with h | h
      · rw [h]; exact hd
      · intro t ht
        have h0 := hd t ht
        show (spOf (turnS x.S i 10 11) t).pc = 0
        rw [spOf_turnS]
        split
        · rename_i h9
          have h10 := (turn_true h9.1).2
          rw [← h9.2] at h10
          have h10 : pcT x t = 10 := h10
          omega
        · exact h0
theorem all_done {P : Pm} (D : Dj P) (J : Sjo P) {x : CS} (G : Gd P x) {k : Nat} (hk : 45 * P.T + 4 < k) : DnC P (rounds (fun x c => doC P x c.kind c.i) P.T x k) :=
  (rd_all D J).rounds_done G k (by have := Wc_le D G.l; omega)
end Go.Proofs.YtfnmggmgdmokcaaGreat.Co

/- A global lock of nodes, a local one of the threads of each: from New on it is good for rounds: the plain law. -/
namespace Go.Proofs.YtfnmggmgdmokcaaGreat.Co
open Go.RowKit Go.Proofs.YtfnmggmgdmokcaaGreat.Ara Go.Proofs.YtfnmggmgdmokcaaGreat.Lok Go.Proofs.YtfnmggmgdmokcaaGreat.Fl

section
variable {kind par : Int} {n : Nat} {σ : Ar} (hM : mayK kind n par) (hr : σ.t + sizeK kind n par ≤ σ.ws.length)
include hM hr
theorem tak_lim (h1 : 1 ≤ par) (h4 : par ≤ 4) : limK (pkK kind par (σ.t + 1)) (tak kind n par σ).2 := by
  obtain ⟨⟨k1, k5⟩, ⟨n1, n2⟩, ha1, ha3⟩ := hM
  rcases (show kind = 1 ∨ kind = 2 ∨ kind = 3 ∨ kind = 4 ∨ kind = 5 by omega) with rfl | rfl | rfl | rfl | rfl
  · refine ⟨h4, h1, fun i => ?_⟩
    have e : spOf (Ta.zeroS n) i = sp0 := Ta.zero_spot n i
    show ((spOf (Ta.zeroS n) i).pc = 1 ∨ _ → (spOf (Ta.zeroS n) i).a ≤ par) ∧ ((spOf (Ta.zeroS n) i).pc = 2 → (spOf (Ta.zeroS n) i).b ≤ par)
    rw [e]
    exact ⟨fun _ => by show (0 : Int) ≤ par; omega, fun _ => by show (0 : Int) ≤ par; omega⟩
  · trivial
  · trivial
  · trivial
  · trivial
end
section
variable {c : Nw} (O : c.Ok) {σ0 : Ar} (hr : c.tN σ0.t c.NN ≤ σ0.ws.length) (hz : ∀ k, σ0.t ≤ k → σ0.ws.getD k 0 = 0) (hw : σ0.ws.length ≤ 4096)
include O hr hz hw
theorem Nw.gd (h1 : 1 ≤ c.par) (h4 : c.par ≤ 4) : Gd (c.pm σ0) (c.st σ0) := by
  refine ⟨⟨_, Nw.ci O hr hz hw (Nat.le_refl _)⟩, ⟨fun n hn h0 => ?_, fun t _ h13 => ?_⟩, ⟨tak_lim O.g (Nw.room0 hr) h1 h4, fun n hn => tak_lim (O.l n hn) (by have := Nw.room O hr hn; omega) h1 h4⟩⟩
  · rw [Nw.cw_zero O hr hz hn] at h0
    omega
  · have : pcT (c.st σ0) t = 0 := by
      show (spOf (List.replicate c.T sp0) (t : Int)).pc = 0
      rw [Pt.zero_spot]; rfl
    omega
end
end Go.Proofs.YtfnmggmgdmokcaaGreat.Co

/- The law CohortAll: if all step in turn, and leave at once, all come tO rest. -/
namespace Go.Proofs.YtfnmggmgdmokcaaGreat.Cm
open Go.RowKit Go.Proofs.YtfnmggmgdmokcaaGreat.Tp Go.Proofs.YtfnmggmgdmokcaaGreat.Ara Go.Proofs.YtfnmggmgdmokcaaGreat.Lok Go.Proofs.YtfnmggmgdmokcaaGreat.Fl Go.Proofs.YtfnmggmgdmokcaaGreat.Co

section
variable (p t : List Int) (A B : Option Addr) (c d : Nat) (w : World) (hs : Sl w w.heap.size A (p.flatMap decI)) (ht : Sl w w.heap.size B (t.flatMap decI)) (n0 n1 n2 : Int) (h0 : 0 ≤ n0 ∧ n0 ≤ 255) (h1 : 0 ≤ n1 ∧ n1 ≤ 255) (h2 : 0 ≤ n2 ∧ n2 ≤ 255) (fifo : Bool)
include hs ht h0 h1 h2
theorem made_be : Calls Tryz.prog 8 #[(.agg #[.slice A p.length c, .slice B t.length d]), .agg #[.int .u8 n0, .int .u8 n1, .int .u8 n2], .bool fifo] w fun e w' => ∃ v1 v2 b, e = .returned (.tuple #[v1, v2, mpOf n0 n1 n2 fifo, .bool b]) ∧ Below w.heap.size w w' := by
  by_cases h : chk p t = 0 ∧ t.length ≤ 8
  · refine (made_ok p t A B c d w hs ht n0 n1 n2 h0 h1 h2 fifo h.1 h.2).mono ?_
    rintro e w' ⟨cd, rfl, _, _, hb⟩
    exact ⟨_, _, _, rfl, hb⟩
  · refine (made_no p t A B c d w hs ht n0 n1 n2 h0 h1 h2 fifo h).mono ?_
    rintro e w' ⟨rfl, hb⟩
    exact ⟨_, _, _, rfl, hb⟩
end
theorem LpW.up {w : World} {cd : Cd} {P : Pm} {x : CS} {m n : Nat} {X Y : Value} {W : World} (D : Dj P) (h : LpW w cd P x m X Y W) (l : m ≤ n) : LpW w cd P x n X Y W := ⟨h.k, CI.up D h.h l, h.b⟩
def fC (P : Pm) (x : CS) (c : Ac) : CS := doC P x c.kind c.i
theorem fC_round {P : Pm} (D : Dj P) (J : Sjo P) {x : CS} (G : Gd P x) : ∀ k, Gd P (round (fC P) x k)
  | 0 => G
  | k + 1 => ((fC_round D J G k).act D J 0 k).act D J 2 k
theorem fC_rounds {P : Pm} (D : Dj P) (J : Sjo P) {x : CS} (G : Gd P x) (n : Nat) : ∀ k, Gd P (rounds (fC P) n x k)
  | 0 => G
  | k + 1 => fC_round D J (fC_rounds D J G n k) n
def AlJ (w : World) (cd : Cd) (P : Pm) (X Y : Value) (C : Option Addr) (cap : Nat) (l : List Ac) (a : Act) (W : World) : Prop :=
  a.tmps.size = 87 ∧ a.defers = [] ∧ a.tmps.getD 2 undef = .slice C l.length cap ∧ a.tmps.getD 3 undef = .pointer (some ⟨w.heap.size, 0, none⟩) ∧ a.tmps.getD 8 undef = .pointer (some ⟨cd.gl, 0, none⟩) ∧
    ∃ (k : Nat) (x : CS), a.tmps.getD 11 undef = .int .i64 (k : Int) ∧ k ≤ l.length ∧ LpW w cd P x (33 + k) X Y W ∧ Gd P x
def AlR (w : World) (cd : Cd) (P : Pm) (X Y : Value) (T : Nat) (x1 : CS) (a : Act) (W : World) : Prop :=
  a.tmps.size = 87 ∧ a.defers = [] ∧ a.tmps.getD 3 undef = .pointer (some ⟨w.heap.size, 0, none⟩) ∧ a.tmps.getD 8 undef = .pointer (some ⟨cd.gl, 0, none⟩) ∧ a.tmps.getD 12 undef = .int .i64 (T : Int) ∧
    ∃ r : Nat, a.tmps.getD 13 undef = .int .i64 (r : Int) ∧ r ≤ 60 * T + 60 ∧ LpW w cd P (rounds (fC P) T x1 r) (133 + 12 * r) X Y W
def AlI (w : World) (cd : Cd) (P : Pm) (X Y : Value) (T : Nat) (x2 : CS) (r : Nat) (a : Act) (W : World) : Prop :=
  a.tmps.size = 87 ∧ a.defers = [] ∧ a.tmps.getD 3 undef = .pointer (some ⟨w.heap.size, 0, none⟩) ∧ a.tmps.getD 8 undef = .pointer (some ⟨cd.gl, 0, none⟩) ∧ a.tmps.getD 12 undef = .int .i64 (T : Int) ∧ a.tmps.getD 13 undef = .int .i64 (r : Int) ∧
    ∃ i : Nat, a.tmps.getD 14 undef = .int .i64 (i : Int) ∧ i ≤ T ∧ LpW w cd P (round (fC P) x2 i) (133 + 12 * r + 2 * i) X Y W
def AlF (w : World) (cd : Cd) (P : Pm) (X Y : Value) (T m : Nat) (x : CS) (a : Act) (W : World) : Prop :=
  a.tmps.size = 87 ∧ a.defers = [] ∧ a.tmps.getD 3 undef = .pointer (some ⟨w.heap.size, 0, none⟩) ∧ a.tmps.getD 8 undef = .pointer (some ⟨cd.gl, 0, none⟩) ∧ a.tmps.getD 12 undef = .int .i64 (T : Int) ∧
    ∃ i : Nat, a.tmps.getD 15 undef = .int .i64 (i : Int) ∧ i ≤ T ∧ LpW w cd P x m X Y W
theorem frame87 {a : Act} (h : a.tmps.size = 87) (hd : a.defers = []) : ∃ u : Nat → Value, a = { tmps := #[u 0, u 1, u 2, u 3, u 4, u 5, u 6, u 7, u 8, u 9, u 10, u 11, u 12, u 13, u 14, u 15, u 16, u 17, u 18, u 19, u 20, u 21, u 22, u 23, u 24, u 25, u 26, u 27, u 28, u 29, u 30, u 31, u 32, u 33, u 34, u 35, u 36, u 37, u 38, u 39, u 40, u 41, u 42, u 43, u 44, u 45, u 46, u 47, u 48, u 49, u 50, u 51, u 52, u 53, u 54, u 55, u 56, u 57, u 58, u 59, u 60, u 61, u 62, u 63, u 64, u 65, u 66, u 67, u 68, u 69, u 70, u 71, u 72, u 73, u 74, u 75, u 76, u 77, u 78, u 79, u 80, u 81, u 82, u 83, u 84, u 85, u 86], defers := [] } ∧ ∀ n, a.tmps.getD n undef = u n := by
  refine ⟨fun n => a.tmps.getD n undef, ?_, fun _ => rfl⟩
  have h1 := arr_lit a.tmps h
  cases a with
  | mk t d =>
    simp only at hd h1
    subst hd
    congr 1
section
variable (p t : List Int) (A B : Option Addr) (c d : Nat) (w : World) (hs : Sl w w.heap.size A (p.flatMap decI)) (ht : Sl w w.heap.size B (t.flatMap decI)) (n0 n1 n2 : Int) (h0 : 0 ≤ n0 ∧ n0 ≤ 255) (h1 : 0 ≤ n1 ∧ n1 ≤ 255) (h2 : 0 ≤ n2 ∧ n2 ≤ 255) (C : Option Addr) (cap : Nat) (l : List Ac) (hlc : l.length ≤ cap) (hcm : cap ≤ maxLen) (hl : Sl w w.heap.size C (l.flatMap decAc))
include hs ht h0 h1 h2 hlc hcm hl
set_option maxRecDepth 100000 in
set_option maxHeartbeats 8000000 in
theorem all_walk : Calls Tryz.prog 3 #[(.agg #[.slice A p.length c, .slice B t.length d]), .agg #[.int .u8 n0, .int .u8 n1, .int .u8 n2], .slice C l.length cap] w fun e w' => e = .returned (.bool true) ∧ Below w.heap.size w w' := by
  have HAW := Lib.hid (fun W => awake_any W)
  have i9 : (l.length : Int) ≤ 9223372036854775807 := by simp only [maxLen] at hcm; omega
  have HS := Lib.hid hs
  have HT := Lib.hid ht
  have HLS := Lib.hid hl
  clear hs ht hl
  by_cases hok : l.length ≤ 100 ∧ chk p t = 0 ∧ t.length ≤ 6
  · obtain ⟨hlen, hck, h6⟩ := hok
    have i1 : ¬ (100 : Int) < (l.length : Int) := by omega
    obtain ⟨l1, l2, l3, l4⟩ := chk_len hck
    have HMD := Lib.hid (fun W h3 h4 => made_ok p t A B c d W h3 h4 n0 n1 n2 h0 h1 h2 false hck (by omega))
    have HND := Lib.hid (fun W h3 h4 k hk => Rn.rnode_in p t A B c d W h3 h4 hck k hk)
    have hsm := fun W h3 h4 => Rn.small_any p t A B c d W h3 h4 6
    rw [show (decide (chk p t = 0) && decide ((t.length : Int) ≤ 6)) = true by rw [decide_eq_true hck, decide_eq_true (show (t.length : Int) ≤ 6 by omega)]; rfl] at hsm
    have HSM := Lib.hid hsm
    have q1 := fun a b c d W => fld0 a b c d W
    have HOK := Lib.hid (show (mwOf p t n0 n1 n2 false).Ok from nw_ok hck (by unfold kgOf; rw [if_neg (by decide)]; omega) (by unfold kgOf; rw [if_neg (by decide)]; omega) (by omega) (by omega))
    have HRM := Lib.hid (show (mwOf p t n0 n1 n2 false).tN (Ar.fresh 4096).t (mwOf p t n0 n1 n2 false).NN ≤ (Ar.fresh 4096).ws.length from nw_fits hck HOK.out (by omega))
    have HDJ := Lib.hid (Nw.dj HOK.out HRM.out)
    have HBR := Lib.hid (show Bud.right ((mwOf p t n0 n1 n2 false).pm (Ar.fresh 4096)).B = true from Bud.right_iff.2 ⟨by show 0 ≤ n2 % 4; omega, by show n2 % 4 ≤ 1000; omega⟩)
    have HC0 := Lib.hid (Nw.ci HOK.out HRM.out (fun k _ => zeros_at 4096 k) (by decide) (m := 33) (by show 0 + (lvs p).length + 1 ≤ 33; have := lvs_len p; omega))
    have HG0 := Lib.hid (Nw.gd HOK.out HRM.out (fun k _ => zeros_at 4096 k) (by decide) (by show 1 ≤ 1 + n2 / 4 % 4; omega) (by show 1 + n2 / 4 % 4 ≤ 4; omega))
    have HPT := Lib.hid (show ((mwOf p t n0 n1 n2 false).pm (Ar.fresh 4096)).T = t.length ∧ ∀ k, ((mwOf p t n0 n1 n2 false).pm (Ar.fresh 4096)).nd k = ndI p t k from ⟨rfl, fun _ => rfl⟩)
    have HJ := Lib.hid (show Sjo ((mwOf p t n0 n1 n2 false).pm (Ar.fresh 4096)) from fun k hk s hs => nd_sjo hck hk (by have h9 := nd_some hck hk; have h8 : s < max 1 (mtI p t (ndI p t k)) := hs; omega))
    clear h0 h1 h2 hsm
    go_enter Tryz.func3, Tryz.ntmps3
    go_upto_region 1 with fail
    have HX := Lib.hid ((Bx.made w (.slice A p.length c) (.slice B t.length d) 24).step (below_new _ (.cells #[.int .u8 n0, .int .u8 n1, .int .u8 n2] 25)))
    have hx9 := blk_new (w.alloc (.cells #[.slice A p.length c, .slice B t.length d] 24)) (.cells #[.int .u8 n0, .int .u8 n1, .int .u8 n2] 25)
    have hz9 : (w.alloc (.cells #[.slice A p.length c, .slice B t.length d] 24)).heap.size = w.heap.size + 1 := by simp
    rw [hz9] at hx9
    generalize (w.alloc (.cells #[.slice A p.length c, .slice B t.length d] 24)).alloc (.cells #[.int .u8 n0, .int .u8 n1, .int .u8 n2] 25) = W1 at *
    have c0 := HX.out.2.2.1
    have c1 := HX.out.2.2.2
    have d0 := blk_cell hx9 0 (by simp)
    have d1 := blk_cell hx9 1 (by simp)
    have d2 := blk_cell hx9 2 (by simp)
    simp at d0 d1 d2
    have hlt9 := lt_of_blk hx9
    clear hx9 hz9
    go_wp2_with fail
    refine (HMD.out _ (HX.out.sl HS.out) (HX.out.sl HT.out)).mono ?_
    rintro e W2 ⟨cd, rfl, hK, hcol, hb2⟩
    have HCOL := Lib.hid (show ∀ q, q < w.heap.size + 1 → cd.col q = 0 from fun q hq => hcol q (by omega))
    generalize (mwOf p t n0 n1 n2 false).pm (Ar.fresh 4096) = P at *
    generalize (mwOf p t n0 n1 n2 false).st (Ar.fresh 4096) = x0 at *
    have HL2 := Lib.hid (show LpW w cd P x0 33 (.slice A p.length c) (.slice B t.length d) W2 from ⟨hK, HC0.out, HX.out.step hb2⟩)
    clear hK hcol hb2 HX c0 c1 d0 d1 d2 HC0 HMD HOK HRM
    simp only [mpOf]
    have HL3 := Lib.hid (HL2.out.same (below_new W2 (.cells #[.int .i64 (kgOf n0 false), .int .i64 (kgOf n1 false), .int .i64 (1 + n2 / 4 % 4), .int .i64 (n2 % 4)] 30)))
    have c0 := HL3.out.b.2.2.1
    have c1 := HL3.out.b.2.2.2
    go_upto_region 2 with fail
    generalize W2.alloc (.cells #[.int .i64 (kgOf n0 false), .int .i64 (kgOf n1 false), .int .i64 (1 + n2 / 4 % 4), .int .i64 (n2 % 4)] 30) = W3 at *
    clear HL2
    go_wp2_with fail
    refine (HSM.out _ (HL3.out.b.sl HS.out) (HL3.out.b.sl HT.out)).mono ?_
    rintro e W4 ⟨rfl, b4⟩
    have HL4 := Lib.hid (HL3.out.same b4)
    clear b4 c0 c1 HL3 HSM
    go_wp2_with fail
    refine wp_loop (AlJ w cd P (.slice A p.length c) (.slice B t.length d) C cap l) (fun a' _ => l.length - (intOf (a'.tmps.getD 11 undef)).toNat) ?_ ?_
    · exact ⟨rfl, rfl, rfl, rfl, rfl, 0, x0, rfl, Nat.zero_le _, HL4.out, HG0.out⟩
    · clear HL4 HG0
      rintro a' W ⟨hsz, hdf, s2, s3, s8, k, x, s11, hk, hL, hG⟩
      obtain ⟨u, rfl, hu⟩ := frame87 hsz hdf
      rw [hu] at s2 s3 s8 s11
      simp only [s2, s3, s8, s11]
      clear hsz hdf s2 s3 s8 s11 hu
      have HL := Lib.hid hL
      have HG := Lib.hid hG
      clear hG
      by_cases hlt : k < l.length
      · have i2 : (k : Int) < (l.length : Int) := by omega
        obtain ⟨b, off, rfl, hbb, hcell⟩ := Sl_at (dec := decAc) (k := 2) (fun _ => rfl) (by omega) HLS.out (by omega)
        have e0 := hcell k hlt 0 (by omega)
        have e1 := hcell k hlt 1 (by omega)
        simp only [decAc, List.getElem?_cons_zero, List.getElem?_cons_succ, Nat.add_zero, ← Nat.add_assoc] at e0 e1
        generalize l[k] = ac at *
        obtain ⟨kd, i⟩ := ac
        simp only at e0 e1
        replace e0 := (hL.b.1.cell (p := ⟨b, off + k * 2, none⟩) hbb).trans e0
        replace e1 := (hL.b.1.cell (p := ⟨b, off + k * 2 + 1, none⟩) hbb).trans e1
        clear hcell
        have HD := Lib.hid (do_co hL.k HDJ.out hL.h (by omega) HBR.out kd i)
        have HX' := Lib.hid (fun W' (k4 : CoAt W' cd P (doC P x kd i)) (p4 : Kp cd.col W W') => hL.act HDJ.out HCOL.out kd i k4 p4)
        have HG' := Lib.hid (HG.out.act HDJ.out HJ.out kd i)
        clear hL HL HG
        generalize doC P x kd i = x' at *
        go_wp2_with fail
        refine HD.out.mono ?_
        rintro e w4 ⟨rfl, hk4, hp4⟩
        have HL4 := Lib.hid (HX'.out _ hk4 hp4)
        clear hk4 hp4 HD HX' e0 e1
        go_wp2_with fail
        go_roundw
        case rel => exact ⟨rfl, rfl, rfl, rfl, rfl, k + 1, x', by go_num, by omega, HL4.out, HG'.out⟩
        case measure => simp [intOf]; omega
      · obtain rfl : k = l.length := by omega
        have i2 : ¬ (l.length : Int) < (l.length : Int) := by omega
        have hL9 : LpW w cd P x 133 (.slice A p.length c) (.slice B t.length d) W := hL.up HDJ.out (by omega)
        have HL9 := Lib.hid hL9
        have c1 := hL9.b.2.2.2
        clear hL hL9 HL
        go_wp2_with fail
        refine wp_loop (AlR w cd P (.slice A p.length c) (.slice B t.length d) t.length x) (fun a' _ => 60 * t.length + 60 - (intOf (a'.tmps.getD 13 undef)).toNat) ?_ ?_
        · exact ⟨rfl, rfl, rfl, rfl, rfl, 0, rfl, Nat.zero_le _, HL9.out⟩
        · clear HL9 c1
          rintro a' W5 ⟨hsz, hdf, s3, s8, s12, r, s13, hr, hL5⟩
          obtain ⟨u, rfl, hu⟩ := frame87 hsz hdf
          rw [hu] at s3 s8 s12 s13
          simp only [s3, s8, s12, s13]
          clear hsz hdf s3 s8 s12 s13 hu
          have HL5 := Lib.hid hL5
          clear hL5
          by_cases hrt : r < 60 * t.length + 60
          · have i3 : (r : Int) < 60 * (t.length : Int) + 60 := by omega
            obtain ⟨x2, hx2⟩ : ∃ y, y = rounds (fC P) t.length x r := ⟨_, rfl⟩
            rw [← hx2] at HL5
            have HX2 := Lib.hid hx2
            clear hx2
            go_wp2_with fail
            refine wp_loop (AlI w cd P (.slice A p.length c) (.slice B t.length d) t.length x2 r) (fun a' _ => t.length - (intOf (a'.tmps.getD 14 undef)).toNat) ?_ ?_
            · exact ⟨rfl, rfl, rfl, rfl, rfl, rfl, 0, rfl, Nat.zero_le _, HL5.out⟩
            · clear HL5
              rintro a' W6 ⟨hsz, hdf, s3, s8, s12, s13, i, s14, hi, hL6⟩
              obtain ⟨u, rfl, hu⟩ := frame87 hsz hdf
              rw [hu] at s3 s8 s12 s13 s14
              simp only [s3, s8, s12, s13, s14]
              clear hsz hdf s3 s8 s12 s13 s14 hu
              have HL6 := Lib.hid hL6
              by_cases hit : i < t.length
              · have i4 : (i : Int) < (t.length : Int) := by omega
                have HDS := Lib.hid (step_co hL6.k HDJ.out hL6.h (by omega) HBR.out (i : Int))
                have HX' := Lib.hid (fun W' (k4 : CoAt W' cd P (stepC P (round (fC P) x2 i) (i : Int))) (p4 : Kp cd.col W6 W') => show LpW w cd P (stepC P (round (fC P) x2 i) (i : Int)) (133 + 12 * r + 2 * i + 1) (.slice A p.length c) (.slice B t.length d) W' from hL6.act HDJ.out HCOL.out 0 (i : Int) k4 p4)
                clear hL6 HL6
                obtain ⟨y1, hy1⟩ : ∃ y, y = stepC P (round (fC P) x2 i) (i : Int) := ⟨_, rfl⟩
                rw [← hy1] at HDS HX'
                have HY1 := Lib.hid hy1
                clear hy1
                go_wp2_with fail
                refine HDS.out.mono ?_
                rintro e w7 ⟨rfl, hk7, hp7⟩
                have hL7 := HX'.out _ hk7 hp7
                have HDL := Lib.hid (leave_co hL7.k (i : Int))
                have HX7 := Lib.hid (fun W' (k4 : CoAt W' cd P (leaveC y1 (i : Int))) (p4 : Kp cd.col w7 W') => show LpW w cd P (leaveC y1 (i : Int)) (133 + 12 * r + 2 * i + 1 + 1) (.slice A p.length c) (.slice B t.length d) W' from hL7.act HDJ.out HCOL.out 2 (i : Int) k4 p4)
                clear hk7 hp7 hL7 HDS HX'
                go_wp2_with fail
                refine HDL.out.mono ?_
                rintro e w8 ⟨rfl, hk8, hp8⟩
                have HL8 := Lib.hid (HX7.out _ hk8 hp8)
                clear hk8 hp8 HDL HX7
                go_wp2_with fail
                go_roundw
                case rel => exact ⟨rfl, rfl, rfl, rfl, rfl, rfl, i + 1, by go_num, by omega, by
                  show LpW w cd P (leaveC (stepC P (round (fC P) x2 i) (i : Int)) (i : Int)) _ _ _ _
                  rw [← HY1.out]
                  exact HL8.out⟩
                case measure => simp [intOf]; omega
              · obtain rfl : i = t.length := by omega
                have i4 : ¬ (t.length : Int) < (t.length : Int) := by omega
                have HL7 := Lib.hid (show LpW w cd P (rounds (fC P) t.length x (r + 1)) (133 + 12 * (r + 1)) (.slice A p.length c) (.slice B t.length d) W6 by
                  show LpW w cd P (round (fC P) (rounds (fC P) t.length x r) t.length) _ _ _ _
                  rw [← HX2.out]
                  exact hL6.up HDJ.out (by omega))
                clear hL6 HL6
                go_wp2_with fail
                go_roundw
                case rel => exact ⟨rfl, rfl, rfl, rfl, rfl, r + 1, by go_num, by omega, HL7.out⟩
                case measure => simp [intOf]; omega
          · obtain rfl : r = 60 * t.length + 60 := by omega
            have i3 : ¬ ((60 * t.length + 60 : Nat) : Int) < 60 * (t.length : Int) + 60 := by omega
            have hT : P.T = t.length := HPT.out.1
            have hDn : DnC P (rounds (fC P) t.length x (60 * t.length + 60)) := by
              rw [← hT]
              exact all_done HDJ.out HJ.out HG.out (by omega)
            have HGd := Lib.hid (fC_rounds HDJ.out HJ.out HG.out t.length (60 * t.length + 60))
            have HDn := Lib.hid hDn
            clear hDn hT
            generalize rounds (fC P) t.length x (60 * t.length + 60) = x9 at *
            generalize hm9 : 133 + 12 * (60 * t.length + 60) = m9 at *
            clear hm9
            go_wp2_with fail
            refine wp_loop (AlF w cd P (.slice A p.length c) (.slice B t.length d) t.length m9 x9) (fun a' _ => t.length - (intOf (a'.tmps.getD 15 undef)).toNat) ?_ ?_
            · exact ⟨rfl, rfl, rfl, rfl, rfl, 0, rfl, Nat.zero_le _, HL5.out⟩
            · clear HL5
              rintro a' W6 ⟨hsz, hdf, s3, s8, s12, i, s15, hi, hL6⟩
              obtain ⟨u, rfl, hu⟩ := frame87 hsz hdf
              rw [hu] at s3 s8 s12 s15
              simp only [s3, s8, s12, s15]
              clear hsz hdf s3 s8 s12 s15 hu
              have HL6 := Lib.hid hL6
              by_cases hit : i < t.length
              · have i4 : (i : Int) < (t.length : Int) := by omega
                have HSP := Lib.hid (spot_co hL6.k (i : Int))
                have hp0 : (spOf x9.S (i : Int)).pc = 0 := HDn.out i (by rw [HPT.out.1]; exact hit)
                have hg0 : gloV P x9 (ndI p t i : Int) = 0 := by
                  have h9 := HGd.out.glo HDJ.out HDn.out (t := i) (by rw [HPT.out.1]; exact hit)
                  rw [HPT.out.2 i] at h9
                  unfold gloV
                  rw [if_pos h9]
                have HGO := Lib.hid (fun W' (K' : CoAt W' cd P x9) => global_co K' (ndI p t i : Int))
                rw [hg0] at HGO
                clear hL6 hg0
                generalize spOf x9.S (i : Int) = sp at *
                obtain ⟨xp, xa, xb, xc⟩ := sp
                simp only at HSP hp0
                subst hp0
                go_wp2_with fail
                refine HSP.out.mono ?_
                rintro e w7 ⟨rfl, hb7⟩
                have HL7 := Lib.hid (HL6.out.same hb7)
                have c0 := HL7.out.b.2.2.1
                have c1 := HL7.out.b.2.2.2
                clear hb7
                go_wp2_with fail
                refine (HND.out _ (HL7.out.b.sl HS.out) (HL7.out.b.sl HT.out) i hit).mono ?_
                rintro e w8 ⟨rfl, hb8⟩
                have HL8 := Lib.hid (HL7.out.same hb8)
                clear hb8 c0 c1
                go_wp2_with fail
                refine (HGO.out _ HL8.out.k).mono ?_
                rintro e w9 ⟨rfl, hb9⟩
                have HL9 := Lib.hid (HL8.out.same hb9)
                clear hb9
                go_wp2_with fail
                go_roundw
                case rel => exact ⟨rfl, rfl, rfl, rfl, rfl, i + 1, by go_num, by omega, HL9.out⟩
                case measure => simp [intOf]; omega
              · obtain rfl : i = t.length := by omega
                have i4 : ¬ (t.length : Int) < (t.length : Int) := by omega
                clear hL6
                go_wp2_with fail
                refine (HAW.out _).mono ?_
                rintro e w7 ⟨rfl, hb7⟩
                have HB7 := Lib.hid (HL6.out.b.1.trans (hb7.mono HL6.out.b.1.size))
                clear hb7
                go_wp2_with fail
                go_ret
                exact ⟨rfl, HB7.out⟩
  · have HMD := Lib.hid (fun W h3 h4 => made_be p t A B c d W h3 h4 n0 n1 n2 h0 h1 h2 false)
    have hsm := fun W h3 h4 => Rn.small_any p t A B c d W h3 h4 6
    clear h0 h1 h2
    by_cases hlen : l.length ≤ 100
    · have i1 : ¬ (100 : Int) < (l.length : Int) := by omega
      rw [show (decide (chk p t = 0) && decide ((t.length : Int) ≤ 6)) = false by
        rcases Classical.em (chk p t = 0) with h9 | h9
        · rw [decide_eq_false (show ¬ (t.length : Int) ≤ 6 from fun h => hok ⟨hlen, h9, by omega⟩), Bool.and_false]
        · rw [decide_eq_false h9, Bool.false_and]] at hsm
      have HSM := Lib.hid hsm
      clear hsm hok
      go_enter Tryz.func3, Tryz.ntmps3
      go_upto_region 1 with fail
      have HX := Lib.hid ((Bx.made w (.slice A p.length c) (.slice B t.length d) 24).step (below_new _ (.cells #[.int .u8 n0, .int .u8 n1, .int .u8 n2] 25)))
      have hx9 := blk_new (w.alloc (.cells #[.slice A p.length c, .slice B t.length d] 24)) (.cells #[.int .u8 n0, .int .u8 n1, .int .u8 n2] 25)
      have hz9 : (w.alloc (.cells #[.slice A p.length c, .slice B t.length d] 24)).heap.size = w.heap.size + 1 := by simp
      rw [hz9] at hx9
      generalize (w.alloc (.cells #[.slice A p.length c, .slice B t.length d] 24)).alloc (.cells #[.int .u8 n0, .int .u8 n1, .int .u8 n2] 25) = W1 at *
      have c0 := HX.out.2.2.1
      have c1 := HX.out.2.2.2
      have d0 := blk_cell hx9 0 (by simp)
      have d1 := blk_cell hx9 1 (by simp)
      have d2 := blk_cell hx9 2 (by simp)
      simp at d0 d1 d2
      have hlt9 := lt_of_blk hx9
      clear hx9 hz9
      go_wp2_with fail
      refine (HMD.out _ (HX.out.sl HS.out) (HX.out.sl HT.out)).mono ?_
      rintro e W2 ⟨v1, v2, b, rfl, hb2⟩
      have HX2 := Lib.hid (HX.out.step hb2)
      clear hb2 HX c0 c1 d0 d1 d2 HMD
      simp only [mpOf]
      have HX3 := Lib.hid (HX2.out.step (below_new W2 (.cells #[.int .i64 (kgOf n0 false), .int .i64 (kgOf n1 false), .int .i64 (1 + n2 / 4 % 4), .int .i64 (n2 % 4)] 30)))
      have c0 := HX3.out.2.2.1
      have c1 := HX3.out.2.2.2
      go_wp2_with fail
      refine (HSM.out _ (HX3.out.sl HS.out) (HX3.out.sl HT.out)).mono ?_
      rintro e W3 ⟨rfl, hb3⟩
      have HX4 := Lib.hid (HX3.out.step hb3)
      clear hb3 c0 c1
      go_wp2_with fail
      refine (HAW.out _).mono ?_
      rintro e w5 ⟨rfl, hb5⟩
      have HB5 := Lib.hid (HX4.out.1.trans (hb5.mono HX4.out.1.size))
      clear hb5
      go_wp2_with fail
      go_ret
      exact ⟨rfl, HB5.out⟩
    · have i1 : (100 : Int) < (l.length : Int) := by omega
      clear hsm hok
      go_enter Tryz.func3, Tryz.ntmps3
      go_upto_region 1 with fail
      have HX := Lib.hid ((Bx.made w (.slice A p.length c) (.slice B t.length d) 24).step (below_new _ (.cells #[.int .u8 n0, .int .u8 n1, .int .u8 n2] 25)))
      have hx9 := blk_new (w.alloc (.cells #[.slice A p.length c, .slice B t.length d] 24)) (.cells #[.int .u8 n0, .int .u8 n1, .int .u8 n2] 25)
      have hz9 : (w.alloc (.cells #[.slice A p.length c, .slice B t.length d] 24)).heap.size = w.heap.size + 1 := by simp
      rw [hz9] at hx9
      generalize (w.alloc (.cells #[.slice A p.length c, .slice B t.length d] 24)).alloc (.cells #[.int .u8 n0, .int .u8 n1, .int .u8 n2] 25) = W1 at *
      have c0 := HX.out.2.2.1
      have c1 := HX.out.2.2.2
      have d0 := blk_cell hx9 0 (by simp)
      have d1 := blk_cell hx9 1 (by simp)
      have d2 := blk_cell hx9 2 (by simp)
      simp at d0 d1 d2
      have hlt9 := lt_of_blk hx9
      clear hx9 hz9
      go_wp2_with fail
      refine (HMD.out _ (HX.out.sl HS.out) (HX.out.sl HT.out)).mono ?_
      rintro e W2 ⟨v1, v2, b, rfl, hb2⟩
      have HX2 := Lib.hid (HX.out.step hb2)
      clear hb2 HX c0 c1 d0 d1 d2 HMD
      simp only [mpOf]
      have HX3 := Lib.hid (HX2.out.step (below_new W2 (.cells #[.int .i64 (kgOf n0 false), .int .i64 (kgOf n1 false), .int .i64 (1 + n2 / 4 % 4), .int .i64 (n2 % 4)] 30)))
      go_wp2_with fail
      refine (HAW.out _).mono ?_
      rintro e w5 ⟨rfl, hb5⟩
      have HB5 := Lib.hid (HX3.out.1.trans (hb5.mono HX3.out.1.size))
      clear hb5
      go_wp2_with fail
      go_ret
      exact ⟨rfl, HB5.out⟩
end
theorem all_law (w : World) (A B : Option Addr) (c d : Nat) (p t : List Int) (_hc : p.length ≤ c) (_hm : c ≤ maxLen) (_hd : t.length ≤ d) (_hn : d ≤ maxLen) (hs : Sl w w.heap.size A (p.flatMap decI)) (ht : Sl w w.heap.size B (t.flatMap decI)) (n : List Int) (hn : n.length = 3 ∧ ∀ a ∈ n, isU8 a)
    (C : Option Addr) (cap : Nat) (l : List Ac) (hlc : l.length ≤ cap) (hcm : cap ≤ maxLen) (_w0 : ∀ e ∈ l, isI64 e.kind ∧ isI64 e.i) (hl : Sl w w.heap.size C (l.flatMap decAc)) :
    Calls Tryz.prog 3 #[(.agg #[.slice A p.length c, .slice B t.length d]), .agg (n.flatMap fun n => [.int .u8 n]).toArray, .slice C l.length cap] w fun e w' => e = .returned (.bool true) ∧ Below w.heap.size w w' := by
  obtain ⟨n0, n1, n2, rfl⟩ := list3 hn.1
  exact all_walk p t A B c d w hs ht n0 n1 n2 (hn.2 n0 (by simp)) (hn.2 n1 (by simp)) (hn.2 n2 (by simp)) C cap l hlc hcm hl
end Go.Proofs.YtfnmggmgdmokcaaGreat.Cm

