/- Merged texts: Co16, Co17, Cm12. -/
import Derived.Test.YtfnmggmgdmokcaaGreatCq25
set_option linter.unusedVariables false
/- A global lock of nodes, a local one of the threads of each: what is left tO do grows less, round by round, till all are at rest: the plain law. -/
namespace Go.Proofs.YtfnmggmgdmokcaaGreat.Co
open Go.RowKit Go.Proofs.YtfnmggmgdmokcaaGreat.Ara Go.Proofs.YtfnmggmgdmokcaaGreat.Lok Go.Proofs.YtfnmggmgdmokcaaGreat.Fl

def sumN (f : Nat → Nat) : Nat → Nat
  | 0 => 0
  | n + 1 => sumN f n + f n
theorem sumN_same {f g : Nat → Nat} : ∀ {n : Nat}, (∀ j, j < n → g j = f j) → sumN g n = sumN f n
  | 0, _ => rfl
  | n + 1, h => by
    show sumN g n + g n = sumN f n + f n
    rw [sumN_same (n := n) (fun j hj => h j (by omega)), h n (by omega)]
theorem sumN_one {f g : Nat → Nat} {k : Nat} : ∀ {n : Nat}, k < n → (∀ j, j < n → j ≠ k → g j = f j) → sumN g n + f k = sumN f n + g k
  | 0, hk, _ => by omega
  | n + 1, hk, h => by
    show sumN g n + g n + f k = sumN f n + f n + g k
    by_cases e : k = n
    · subst e
      rw [sumN_same (n := k) (fun j hj => h j (by omega) (by omega))]
      omega
    · have h1 := sumN_one (n := n) (k := k) (f := f) (g := g) (by omega) (fun j hj hn => h j (by omega) hn)
      have h2 := h n (by omega) (fun e9 => e e9.symm)
      omega
theorem sumN_le {f : Nat → Nat} {c : Nat} : ∀ {n : Nat}, (∀ j, j < n → f j ≤ c) → sumN f n ≤ c * n
  | 0, _ => by simp [sumN]
  | n + 1, h => by
    have h1 := sumN_le (n := n) (fun j hj => h j (by omega))
    have h2 := h n (by omega)
    show sumN f n + f n ≤ c * (n + 1)
    rw [Nat.mul_add]
    omega
theorem sumN_zero {f : Nat → Nat} {n : Nat} (h : ∀ j, j < n → f j = 0) : sumN f n = 0 := by
  have := sumN_le (c := 0) (n := n) (f := f) (fun j hj => by rw [h j hj]; exact Nat.le_refl _)
  omega
theorem sumN_img {N c : Nat} {nd : Nat → Nat} : ∀ {T : Nat} {f : Nat → Nat}, (∀ n, n < N → f n ≤ c) → (∀ n, n < N → f n ≠ 0 → ∃ t, t < T ∧ nd t = n) → sumN f N ≤ c * T
  | 0, f, _, h => by
    rw [sumN_zero (fun n hn => by
      by_cases e : f n = 0
      · exact e
      · obtain ⟨t, ht, _⟩ := h n hn e; omega)]
    omega
  | T + 1, f, hc, h => by
    by_cases hN : nd T < N
    · have h1 := sumN_one (f := f) (g := fun n => if n = nd T then 0 else f n) (k := nd T) hN (fun j _ hj => if_neg hj)
      have h2 := sumN_img (N := N) (c := c) (nd := nd) (T := T) (f := fun n => if n = nd T then 0 else f n) (fun n hn => by
        show (if n = nd T then 0 else f n) ≤ c
        split
        · omega
        · exact hc n hn) (fun n hn hne => by
        have hne : (if n = nd T then 0 else f n) ≠ 0 := hne
        split at hne
        · exact absurd rfl hne
        · rename_i e
          obtain ⟨t, ht, hnn⟩ := h n hn hne
          have : t ≠ T := fun e9 => e (by rw [← hnn, e9])
          exact ⟨t, by omega, hnn⟩)
      have h3 := hc _ hN
      have h4 : (if nd T = nd T then 0 else f (nd T)) = 0 := if_pos rfl
      rw [h4] at h1
      rw [Nat.mul_add]
      omega
    · have h2 := sumN_img (N := N) (c := c) (nd := nd) (T := T) (f := f) hc (fun n hn hne => by
        obtain ⟨t, ht, hnn⟩ := h n hn hne
        have : t ≠ T := fun e9 => hN (by rw [← e9, hnn]; exact hn)
        exact ⟨t, by omega, hnn⟩)
      rw [Nat.mul_add]
      omega
def wTt (pc : Int) : Nat :=
  if pc = 1 then 21 else if pc = 2 then 20 else if pc = 3 then 9 else if pc = 4 then 8 else if pc = 10 then 7 else if pc = 11 then 6 else if pc = 12 then 5 else if pc = 13 then 4 else if pc = 14 then 3 else if pc = 15 then 2 else if pc = 16 then 1 else 0
theorem wTt_le (pc : Int) : wTt pc ≤ 21 := by
  unfold wTt
  repeat' split
  all_goals omega
def inN (P : Pm) (n : Nat) : Bool := (List.range P.T).any fun t => decide (P.nd t = n)
theorem inN_iff {P : Pm} {n : Nat} : inN P n = true ↔ ∃ t, t < P.T ∧ P.nd t = n := by
  unfold inN
  rw [List.any_eq_true]
  constructor
  · rintro ⟨t, h1, h2⟩; exact ⟨t, List.mem_range.1 h1, of_decide_eq_true h2⟩
  · rintro ⟨t, h1, h2⟩; exact ⟨t, List.mem_range.2 h1, decide_eq_true h2⟩
def wNd (P : Pm) (x : CS) (n : Nat) : Nat := if inN P n then exK (P.pl n) (x.loc n) + wpc P.pg (pcG x n) else 0
def wTh (P : Pm) (x : CS) (t : Nat) : Nat := wTt (pcT x t) + wpc (P.pl (P.nd t)) (pcL P x t)
def Wc (P : Pm) (x : CS) : Nat := sumN (wTh P x) P.T + sumN (wNd P x) P.NN + exK P.pg x.g
def Vc (P : Pm) (x : CS) (t : Nat) : Nat := wTt (pcT x t) + cost (P.pl (P.nd t)) (x.loc (P.nd t)) (P.sl t) + cost P.pg x.g (P.nd t)
structure Lm (P : Pm) (x : CS) : Prop where
  g : limK P.pg x.g
  l : ∀ n, n < P.NN → limK (P.pl n) (x.loc n)
theorem Wc_le {P : Pm} {x : CS} (D : Dj P) (L : Lm P x) : Wc P x ≤ 45 * P.T + 4 := by
  have h1 : sumN (wTh P x) P.T ≤ 31 * P.T := sumN_le fun t ht => by
    have := wTt_le (pcT x t)
    have := wpc_le (L.l _ (D.nd t ht).1) (pcL P x t)
    unfold wTh
    omega
  have h2 : sumN (wNd P x) P.NN ≤ 14 * P.T := sumN_img (nd := P.nd) (fun n hn => by
      have := wpc_le L.g (pcG x n)
      have := exK_le (L.l n hn)
      unfold wNd
      split <;> omega) (fun n hn h => by
      unfold wNd at h
      cases e : inN P n with
      | true => exact inN_iff.1 e
      | false => rw [e] at h; exact absurd rfl h)
  have h3 := exK_le L.g
  unfold Wc
  omega
def RdC (P : Pm) (x : CS) (t : Nat) : Prop := t < P.T ∧ pcT x t ≠ 0 ∧ (pcT x t = 1 ∨ pcT x t = 16 → rdK (P.pl (P.nd t)) x.σ (x.loc (P.nd t)) (P.sl t)) ∧ (pcT x t = 3 ∨ pcT x t = 15 → rdK P.pg x.σ x.g (P.nd t))
theorem Wc_one {P : Pm} {x x' : CS} (D : Dj P) {t : Nat} (ht : t < P.T) (ho : Oth P x x' t) (hl : ∀ k, k ≠ P.nd t → x'.loc k = x.loc k) : Wc P x' + Vc P x t = Wc P x + Vc P x' t := by
  have h1 := sumN_one (f := wTh P x) (g := wTh P x') ht (fun u hu hne => by
    unfold wTh
    rw [show pcT x' u = pcT x u from congrArg Sp.pc (ho.S u hne), ho.l u hu hne])
  have h2 := sumN_one (f := wNd P x) (g := wNd P x') (D.nd t ht).1 (fun n _ hne => by
    unfold wNd
    rw [hl n hne, ho.g n hne])
  have hi : inN P (P.nd t) = true := inN_iff.2 ⟨t, ht, rfl⟩
  have e1 : wNd P x (P.nd t) = exK (P.pl (P.nd t)) (x.loc (P.nd t)) + wpc P.pg (pcG x (P.nd t)) := by unfold wNd; rw [if_pos hi]
  have e2 : wNd P x' (P.nd t) = exK (P.pl (P.nd t)) (x'.loc (P.nd t)) + wpc P.pg (pcG x' (P.nd t)) := by unfold wNd; rw [if_pos hi]
  rw [e1, e2] at h2
  have e3 : wTh P x t = wTt (pcT x t) + wpc (P.pl (P.nd t)) (pcL P x t) := rfl
  have e4 : wTh P x' t = wTt (pcT x' t) + wpc (P.pl (P.nd t)) (pcL P x' t) := rfl
  rw [e3, e4] at h1
  unfold Wc Vc cost
  show _ + (_ + (wpc (P.pl (P.nd t)) (pcL P x t) + _) + (wpc P.pg (pcG x (P.nd t)) + _)) = _ + (_ + (wpc (P.pl (P.nd t)) (pcL P x' t) + _) + (wpc P.pg (pcG x' (P.nd t)) + _))
  omega
section
variable {P : Pm} {x : CS} {m : Nat} (D : Dj P) (H : CI P x m) (L : Lm P x)
include D H L
theorem Lm.act (kd i : Int) : Lm P (doC P x kd i) := by
  rcases H.aw D kd i with h | ⟨t, ht, rfl, hx, hm, ho⟩ | ⟨t, ht, rfl, h0, h1, hσ, hg, hl, hl1, ho⟩ | ⟨t, ht, rfl, h0, h1, ha, hσ, hg, hl, ho⟩
  · rw [h]; exact L
  · have hc := H.ch D ht
    rw [← hx] at hc
    have hLn := L.l _ (D.nd t ht).1
    refine ⟨?_, fun n hn => ?_⟩
    · by_cases e : pcT x t = 3 ∨ pcT x t = 15
      · rw [(hc.g1 e).1]; exact lim_act L.g 0 _
      · rcases hc.g2 (fun h => e (.inl h)) (fun h => e (.inr h)) with h | ⟨_, _, _, h⟩ | ⟨_, _, h⟩
        · rw [h]; exact L.g
        · rw [h]; exact lim_act L.g 1 _
        · rw [h]; exact lim_act L.g 2 _
    · by_cases en : n = P.nd t
      · subst en
        by_cases e : pcT x t = 1 ∨ pcT x t = 16
        · rw [(hc.l1 e).1]; exact lim_act hLn 0 _
        · rcases hc.l2 (fun h => e (.inl h)) (fun h => e (.inr h)) with h | ⟨_, _, σ, h⟩
          · rw [h]; exact hLn
          · rw [h]; exact lim_act hLn 2 _
      · rw [hc.l3 n en]; exact L.l n hn
  · refine ⟨by rw [hg]; exact L.g, fun n hn => ?_⟩
    rw [hl]
    by_cases en : n = P.nd t
    · subst en
      rw [upd_self]; exact lim_act (L.l _ hn) 1 _
    · rw [upd_other _ _ en]; exact L.l n hn
  · exact ⟨by rw [hg]; exact L.g, fun n hn => by rw [hl]; exact L.l n hn⟩
theorem CI.vstep {t : Nat} (ht : t < P.T) {x' : CS} (hx : x' = stepC P x t) : Vc P x' t ≤ Vc P x t ∧ (RdC P x t → pcT x t ≠ 10 → Vc P x' t < Vc P x t) ∧ (∀ s, s ≠ t → RdC P x s → Vc P x' t < Vc P x t ∨ RdC P x' s) := by
  obtain ⟨hn, hsl⟩ := D.nd t ht
  have hc := H.ch D ht
  have hm := H.mv D ht
  have ho := H.oth D ht
  rw [← hx] at hc hm ho
  clear hx
  have hcl := (H.ol _ hn).cost_step (L.l _ hn) (P.sl t)
  have hcg := H.og.cost_step L.g (P.nd t)
  have hr := H.rel t ht
  have hN := H.nod t ht
  unfold relP at hr
  unfold nodP at hN
  have hA : cost (P.pl (P.nd t)) (x'.loc (P.nd t)) (P.sl t) ≤ cost (P.pl (P.nd t)) (x.loc (P.nd t)) (P.sl t) := by
    by_cases e : pcT x t = 1 ∨ pcT x t = 16
    · rw [(hc.l1 e).1]; exact hcl.1
    · rcases hc.l2 (fun h => e (.inl h)) (fun h => e (.inr h)) with h | ⟨h10, _, σ, h⟩
      · rw [h]; exact Nat.le_refl _
      · rw [h]; exact (H.ol _ hn).cost_leave (L.l _ hn) h10 σ
  have hB : cost P.pg x'.g (P.nd t) ≤ cost P.pg x.g (P.nd t) + (if pcT x t = 2 then 10 else 0) := by
    by_cases e : pcT x t = 3 ∨ pcT x t = 15
    · rw [(hc.g1 e).1]; exact Nat.le_trans hcg.1 (Nat.le_add_right _ _)
    · rcases hc.g2 (fun h => e (.inl h)) (fun h => e (.inr h)) with h | ⟨h2, _, h0, h⟩ | ⟨_, h10, h⟩
      · rw [h]; exact Nat.le_add_right _ _
      · rw [if_pos h2, h]
        exact H.og.cost_ask L.g (by omega) (by omega) h0
      · rw [h]; exact Nat.le_trans (H.og.cost_leave L.g h10 _) (Nat.le_add_right _ _)
  have strict : wTt (pcT x' t) + (if pcT x t = 2 then 10 else 0) < wTt (pcT x t) → Vc P x' t ≤ Vc P x t ∧ (RdC P x t → pcT x t ≠ 10 → Vc P x' t < Vc P x t) ∧ (∀ s, s ≠ t → RdC P x s → Vc P x' t < Vc P x t ∨ RdC P x' s) := by
    intro hw
    have : Vc P x' t < Vc P x t := by unfold Vc; omega
    exact ⟨by omega, fun _ _ => this, fun _ _ _ => .inl this⟩
  have hpc : ∀ s : Nat, s ≠ t → pcT x' s = pcT x s := fun s hs => congrArg Sp.pc (ho.S s hs)
  have spinL : (pcT x t = 1 ∨ pcT x t = 16) → pcT x' t = pcT x t → pcL P x t ≠ 10 → Vc P x' t ≤ Vc P x t ∧ (RdC P x t → pcT x t ≠ 10 → Vc P x' t < Vc P x t) ∧ (∀ s, s ≠ t → RdC P x s → Vc P x' t < Vc P x t ∨ RdC P x' s) := by
    intro e e' hla
    rw [if_neg (by omega)] at hB
    obtain ⟨l1, l2⟩ := hc.l1 e
    have hA' : cost (P.pl (P.nd t)) (x'.loc (P.nd t)) (P.sl t) < cost (P.pl (P.nd t)) (x.loc (P.nd t)) (P.sl t) → Vc P x' t < Vc P x t := fun h => by unfold Vc; rw [e']; omega
    refine ⟨by unfold Vc; rw [e']; omega, fun hrd _ => hA' ?_, fun s hs hrd => ?_⟩
    · rw [l1]; exact hcl.2.1 (hrd.2.2.1 e) hla
    · by_cases hlt : Vc P x' t < Vc P x t
      · exact .inl hlt
      · right
        obtain ⟨hsT, hs0, hs1, hs2⟩ := hrd
        refine ⟨hsT, by rw [hpc s hs]; exact hs0, fun hp => ?_, fun hp => ?_⟩
        · rw [hpc s hs] at hp
          have h1 := hs1 hp
          by_cases en : P.nd s = P.nd t
          · rw [en] at h1 ⊢
            have hne : (P.sl s : Int) ≠ P.sl t := fun e9 => hs (D.inj s t hsT ht en (by omega))
            rcases hcl.2.2 _ hne h1 with h2 | h2
            · exact absurd (hA' (by rw [l1]; exact h2)) hlt
            · rw [l1, l2]; exact h2
          · rw [hc.l3 _ en, l2]
            have hsN := (D.nd s hsT).1
            refine h1.al ?_
            rw [(H.ol _ hsN).len]
            exact (H.loc_al D ht 0).2.1 _ hsN en
        · rw [hpc s hs] at hp
          have hg : x'.g = x.g := by
            rcases hc.g2 (by omega) (by omega) with h | ⟨h, _⟩ | ⟨h, _⟩
            · exact h
            · omega
            · omega
          rw [hg, l2]
          refine (hs2 hp).al ?_
          rw [H.og.len]
          exact (H.loc_al D ht 0).1
  have spinG : (pcT x t = 3 ∨ pcT x t = 15) → pcT x' t = pcT x t → pcG x (P.nd t) ≠ 10 → Vc P x' t ≤ Vc P x t ∧ (RdC P x t → pcT x t ≠ 10 → Vc P x' t < Vc P x t) ∧ (∀ s, s ≠ t → RdC P x s → Vc P x' t < Vc P x t ∨ RdC P x' s) := by
    intro e e' hγ
    rw [if_neg (by omega)] at hB
    obtain ⟨g1, g2⟩ := hc.g1 e
    have hB' : cost P.pg x'.g (P.nd t) < cost P.pg x.g (P.nd t) → Vc P x' t < Vc P x t := fun h => by unfold Vc; rw [e']; omega
    refine ⟨by unfold Vc; rw [e']; omega, fun hrd _ => hB' ?_, fun s hs hrd => ?_⟩
    · rw [g1]; exact hcg.2.1 (hrd.2.2.2 e) hγ
    · by_cases hlt : Vc P x' t < Vc P x t
      · exact .inl hlt
      · right
        obtain ⟨hsT, hs0, hs1, hs2⟩ := hrd
        have hsN := (D.nd s hsT).1
        refine ⟨hsT, by rw [hpc s hs]; exact hs0, fun hp => ?_, fun hp => ?_⟩
        · rw [hpc s hs] at hp
          have hl : x'.loc (P.nd s) = x.loc (P.nd s) := by
            by_cases en : P.nd s = P.nd t
            · rw [en]
              rcases hc.l2 (by omega) (by omega) with h | ⟨_, h, _⟩
              · exact h
              · omega
            · exact hc.l3 _ en
          rw [hl, g2]
          refine (hs1 hp).al ?_
          rw [(H.ol _ hsN).len]
          exact (H.glo_al D (P.nd t) 0).1 _ hsN
        · rw [hpc s hs] at hp
          have hne : (P.nd s : Int) ≠ P.nd t := fun e9 => by
            have := H.alone D ht (by omega) hsT (by omega) hs
            omega
          rcases hcg.2.2 _ hne (hs2 hp) with h2 | h2
          · exact absurd (hB' (by rw [g1]; exact h2)) hlt
          · rw [g1, g2]; exact h2
  cases hm with
  | rest h hp =>
    rw [h]
    exact ⟨Nat.le_refl _, fun hrd h10 => absurd (hp.resolve_right h10) hrd.2.1, fun s _ hrd => .inr hrd⟩
  | loc1 h h' hl hc2 hg => exact spinL (.inl h) (by rw [h, h']) (by omega)
  | got1 h h' hl hc2 hg => exact strict (by rw [h, h']; decide)
  | ent2 h h' hl ha h0' hc2 g0 hg => exact strict (by rw [h, h']; decide)
  | ask2 h h' hl h0' hc2 g0 hg => exact strict (by rw [h, h']; decide)
  | glo3 h h' hl h0' hc2 g0 hg => exact spinG (.inl h) (by rw [h, h']) (by omega)
  | got3 h h' hl h0' hc2 g0 hg => exact strict (by rw [h, h']; decide)
  | ent4 h h' hl ha h0' hc2 g0 hg => exact strict (by rw [h, h']; decide)
  | ld11 h h' hl hc2 g0 hg => exact strict (by rcases h' with h' | h' <;> (rw [h, h']; decide))
  | al12 h h' hl hc2 g0 hg => exact strict (by rcases h' with h' | h' <;> (rw [h, h']; decide))
  | st13 h h' hl hc2 hB2 g0 hg => exact strict (by rw [h, h']; decide)
  | st14 h h' hl hc2 g0 hg => exact strict (by rw [h, h']; decide)
  | glo15 h h' hl h0' hc2 g0 hg => exact spinG (.inr h) (by rw [h, h']) (by omega)
  | got15 h h' hl h0' hc2 g0 hg => exact strict (by rw [h, h']; decide)
  | loc16 h h' hl hc2 hg => exact spinL (.inr h) (by rw [h, h']) (by omega)
  | got16 h h' hl hc2 hg => exact strict (by rw [h, h']; decide)
end
def DnC (P : Pm) (x : CS) : Prop := ∀ t, t < P.T → pcT x t = 0
structure Gd (P : Pm) (x : CS) : Prop where
  i : ∃ m, CI P x m
  w : CW P x
  l : Lm P x
section
variable {P : Pm} {x : CS} (D : Dj P) (J : Sjo P) (G : Gd P x)
include D J G
theorem Gd.act (kd i : Int) : Gd P (doC P x kd i) := by
  obtain ⟨⟨m, H⟩, C, L⟩ := G
  exact ⟨⟨m + 1, H.act D kd i⟩, C.act D J H kd i, L.act D H kd i⟩
theorem Gd.ex_in {u : Nat} (hu : u < P.T) (h0 : pcT x u ≠ 0) (hb : ∀ v, v < P.T → P.nd v = P.nd u → ¬ busy (pcT x v)) : ∃ v, v < P.T ∧ RdC P x v := by
  obtain ⟨⟨m, H⟩, C, L⟩ := G
  obtain ⟨hn, hsl⟩ := D.nd u hu
  have hr := H.rel u hu
  unfold relP at hr
  obtain ⟨i, hi0, hi⟩ := (H.ol _ hn).some_rd (L.l _ hn) (s := P.sl u) (by show pcL P x u ≠ 0; omega)
  obtain ⟨i0, i1⟩ := spOf_range hi0
  obtain ⟨k, rfl⟩ := Int.eq_ofNat_of_zero_le i0
  have hlen := (H.ol _ hn).len
  obtain ⟨v, hv, hvn, hvs⟩ := J u hu k (by omega)
  have hrv := H.rel v hv
  have e : pcL P x v = (spOf (x.loc (P.nd u)) (k : Int)).pc := by unfold pcL; rw [hvn, hvs]
  unfold relP at hrv
  refine ⟨v, hv, hv, by omega, fun _ => by rw [hvn, hvs]; exact hi, fun h => ?_⟩
  exact absurd (by unfold busy; omega) (hb v hv hvn)
theorem Gd.ex_rd (hd : ¬ DnC P x) : ∃ v, v < P.T ∧ RdC P x v := by
  have G' := G
  obtain ⟨⟨m, H⟩, C, L⟩ := G
  obtain ⟨u, hu, hu0⟩ : ∃ u, u < P.T ∧ pcT x u ≠ 0 := by
    refine Classical.byContradiction fun h => hd fun t ht => ?_
    exact Classical.byContradiction fun h2 => h ⟨t, ht, h2⟩
  by_cases hg : ∃ n : Nat, pcG x n ≠ 0
  · obtain ⟨n0, hn0⟩ := hg
    obtain ⟨i, hi0, hi⟩ := H.og.some_rd L.g hn0
    obtain ⟨i0, i1⟩ := spOf_range hi0
    obtain ⟨n, rfl⟩ := Int.eq_ofNat_of_zero_le i0
    have hn : n < P.NN := by have := H.og.len; omega
    by_cases hb : ∃ v, v < P.T ∧ P.nd v = n ∧ busy (pcT x v)
    · obtain ⟨v, hv, hvn, hbv⟩ := hb
      unfold busy at hbv
      exact ⟨v, hv, hv, by omega, fun h => by omega, fun _ => by rw [hvn]; exact hi⟩
    · have hb' : ∀ v, v < P.T → P.nd v = n → ¬ busy (pcT x v) := fun v hv hvn h => hb ⟨v, hv, hvn, h⟩
      rcases H.free n hn hb' with h | h
      · exact absurd h.2 hi0
      · obtain ⟨v, hv, hvn, hv1⟩ := C.c n hn h.1 hb'
        exact G'.ex_in D J hv (by omega) (fun w hw hwn => hb' w hw (hwn.trans hvn))
  · have hg' : ∀ n : Nat, pcG x n = 0 := fun n => Classical.byContradiction fun h => hg ⟨n, h⟩
    refine G'.ex_in D J hu hu0 fun v hv _ hb => ?_
    have hN := H.nod v hv
    unfold nodP at hN
    rw [hg' (P.nd v)] at hN
    unfold busy at hb
    omega
omit J in
theorem Gd.glo (hd : DnC P x) {t : Nat} (ht : t < P.T) : pcG x (P.nd t) = 0 := by
  obtain ⟨⟨m, H⟩, C, L⟩ := G
  have hb : ∀ v, v < P.T → P.nd v = P.nd t → ¬ busy (pcT x v) := fun v hv _ h => by
    have := hd v hv
    unfold busy at h
    omega
  rcases H.free _ (D.nd t ht).1 hb with h | h
  · exact h.2
  · obtain ⟨v, hv, _, hv1⟩ := C.c _ (D.nd t ht).1 h.1 hb
    have := hd v hv
    omega
end
theorem rd_all {P : Pm} (D : Dj P) (J : Sjo P) : Rd (fun x c => doC P x c.kind c.i) (Wc P) (Gd P) (RdC P) (DnC P) P.T := by
  have leaveW : ∀ (x : CS) (i : Nat), Gd P x → (doC P x 2 i = x ∨ (Wc P (doC P x 2 i) < Wc P x)) := by
    rintro x i ⟨⟨m, H⟩, C, L⟩
    rcases H.aw D 2 i with h | ⟨t, ht, e, hx, hm, ho⟩ | ⟨t, ht, e, h0, h1, hσ, hg, hl, hl1, ho⟩ | ⟨t, ht, e, h0, h1, ha, hσ, hg, hl, ho⟩
    · exact .inl h
    · obtain rfl : i = t := by omega
      by_cases hl10 : pcT x i = 10
      · have hq : pcT (doC P x 2 i) i = 11 ∨ pcT (doC P x 2 i) i = pcT x i := by
          show (spOf (turnS x.S i 10 11) i).pc = 11 ∨ (spOf (turnS x.S i 10 11) i).pc = _
          rw [spOf_turnS]
          split
          · exact .inl rfl
          · exact .inr rfl
        left
        show leaveC x i = x
        have hs : stepC P x i = x := by unfold stepC; rw [if_pos (.inr hl10)]
        have h2 : doC P x 2 i = leaveC x i := rfl
        rw [hs] at hx
        rw [← h2]
        exact hx
      · left
        show leaveC x i = x
        unfold leaveC
        rw [turn_no _ (by
          cases hb : turnB x.S i 10 with
          | false => rfl
          | true => exact absurd (turn_true hb).2 hl10)]
    · obtain rfl : i = t := by omega
      exfalso
      have : pcT (doC P x 2 i) i = 11 ∨ pcT (doC P x 2 i) i = pcT x i := by
        show (spOf (turnS x.S i 10 11) i).pc = 11 ∨ (spOf (turnS x.S i 10 11) i).pc = _
        rw [spOf_turnS]
        split
        · exact .inl rfl
        · exact .inr rfl
      omega
    · obtain rfl : i = t := by omega
      right
      have hw := Wc_one D ht ho (fun k _ => by rw [hl])
      have : Vc P (doC P x 2 i) i < Vc P x i := by
        unfold Vc
        rw [hl, hg, h0, h1]
        have : wTt 11 < wTt 10 := by decide
        omega
      omega
  have stepW : ∀ (x : CS) (i : Nat), Gd P x → (doC P x 0 i = x ∧ (¬ i < P.T ∨ pcT x i = 0 ∨ pcT x i = 10)) ∨ (i < P.T ∧ doC P x 0 i = stepC P x i ∧ Wc P (doC P x 0 i) + Vc P x i = Wc P x + Vc P (doC P x 0 i) i) := by
    rintro x i ⟨⟨m, H⟩, C, L⟩
    by_cases ht : i < P.T
    · right
      refine ⟨ht, rfl, ?_⟩
      exact Wc_one D ht (H.oth D ht) (H.ch D ht).l3
    · left
      refine ⟨?_, .inl ht⟩
      show stepC P x i = x
      unfold stepC
      rw [if_pos (.inl (by
        refine Classical.byContradiction fun h => ?_
        obtain ⟨k, e, hk⟩ := H.rngT h
        omega))]
  have stepLe : ∀ (x : CS) (i : Nat), Gd P x → Wc P (doC P x 0 i) ≤ Wc P x := by
    intro x i G
    rcases stepW x i G with ⟨h, _⟩ | ⟨ht, h, hw⟩
    · rw [h]; exact Nat.le_refl _
    · obtain ⟨⟨m, H⟩, C, L⟩ := G
      have := (H.vstep D L ht h).1
      omega
  refine ⟨fun x c G => G.act D J c.kind c.i, ?_, ?_, fun x G hd => G.ex_rd D J hd, ?_, ?_⟩
  · rintro x i k (rfl | rfl) G
    · exact stepLe x i G
    · rcases leaveW x i G with h | h
      · show Wc P (doC P x 2 i) ≤ _
        rw [h]; exact Nat.le_refl _
      · exact Nat.le_of_lt h
  · rintro x i s k (rfl | rfl) G hne hr
    · rcases stepW x i G with ⟨h, _⟩ | ⟨ht, h, hw⟩
      · right
        show RdC P (doC P x 0 i) s
        rw [h]; exact hr
      · obtain ⟨⟨m, H⟩, C, L⟩ := G
        rcases (H.vstep D L ht h).2.2 s (fun e => hne e.symm) hr with h2 | h2
        · left
          show Wc P (doC P x 0 i) < _
          omega
        · exact .inr h2
    · rcases leaveW x i G with h | h
      · right
        show RdC P (doC P x 2 i) s
        rw [h]; exact hr
      · exact .inl h
  · intro x i G hr
    show Wc P (doC P (doC P x 0 i) 2 i) < Wc P x
    have G1 := G.act D J 0 i
    by_cases h10 : pcT x i = 10
    · have hs : doC P x 0 i = x := by
        show stepC P x i = x
        unfold stepC
        rw [if_pos (.inr h10)]
      rw [hs]
      rcases leaveW x i G with h | h
      · exfalso
        have : pcT (doC P x 2 i) i = 11 := by
          show (spOf (turnS x.S i 10 11) i).pc = 11
          have hb : turnB x.S i 10 = true := by
            obtain ⟨⟨m, H⟩, C, L⟩ := G
            have h1 := hr.1
            have := H.len
            unfold turnB
            rw [Bool.and_eq_true, Bool.and_eq_true, decide_eq_true_eq, decide_eq_true_eq, beq_iff_eq]
            exact ⟨⟨by omega, by omega⟩, h10⟩
          rw [spOf_turnS, if_pos ⟨hb, rfl⟩]
        rw [h] at this
        omega
      · exact h
    · rcases stepW x i G with ⟨h, h2⟩ | ⟨ht, h, hw⟩
      · exfalso
        have h1 := hr.1
        have h3 := hr.2.1
        omega
      · have hv : Vc P (doC P x 0 i) i < Vc P x i := by
          obtain ⟨⟨m, H⟩, C, L⟩ := G
          exact (H.vstep D L ht h).2.1 hr h10
        rcases leaveW _ i G1 with h2 | h2
        · rw [h2]; omega
        · omega
  · rintro x i k (rfl | rfl) G hd
    · show DnC P (doC P x 0 i)
      have : doC P x 0 i = x := by
        show stepC P x i = x
        unfold stepC
        rw [if_pos (.inl (by
          refine Classical.byContradiction fun h => ?_
          obtain ⟨⟨m, H⟩, C, L⟩ := G
          obtain ⟨k, e, hk⟩ := H.rngT h
          have := hd k hk
          rw [e] at h
          exact h this))]
      rw [this]; exact hd
    · show DnC P (doC P x 2 i)
      rcases leaveW x i G with h | h
      · rw [h]; exact hd
      · intro t ht
        have h0 := hd t ht
        show (spOf (turnS x.S i 10 11) t).pc = 0
        rw [spOf_turnS]
        split
        · rename_i h9
          have h10 := (turn_true h9.1).2
          rw [← h9.2] at h10
          have h10 : pcT x t = 10 := h10
          omega
        · exact h0
theorem all_done {P : Pm} (D : Dj P) (J : Sjo P) {x : CS} (G : Gd P x) {k : Nat} (hk : 45 * P.T + 4 < k) : DnC P (rounds (fun x c => doC P x c.kind c.i) P.T x k) :=
  (rd_all D J).rounds_done G k (by have := Wc_le D G.l; omega)
end Go.Proofs.YtfnmggmgdmokcaaGreat.Co

/- A global lock of nodes, a local one of the threads of each: how New leaves it, and that it stands: the plain law. -/
namespace Go.Proofs.YtfnmggmgdmokcaaGreat.Co
open Go.RowKit Go.Proofs.YtfnmggmgdmokcaaGreat.Ara Go.Proofs.YtfnmggmgdmokcaaGreat.Lok Go.Proofs.YtfnmggmgdmokcaaGreat.Fl

structure Gr (d : Nat) (σ σ' : Ar) : Prop where
  t : σ.t ≤ σ'.t
  len : σ'.ws.length = σ.ws.length
  hl : σ'.t ≤ σ'.ws.length
  get : ∀ q : Int, q ≤ σ.t → σ'.get q = σ.get q
  z : (∀ k, σ.t ≤ k → σ.ws.getD k 0 = 0) → ∀ k, σ'.t ≤ k → σ'.ws.getD k 0 = 0
  ops : σ.ops ≤ σ'.ops ∧ σ'.ops ≤ σ.ops + d
theorem get_more {σ : Ar} {t' : Nat} (h : σ.t ≤ t') {q : Int} (hq : q ≤ σ.t) : ({ σ with t := t' } : Ar).get q = σ.get q := by
  have e : ({ σ with t := t' } : Ar).has q = σ.has q := by
    show (decide (1 ≤ q) && decide (q ≤ (t' : Int))) = (decide (1 ≤ q) && decide (q ≤ (σ.t : Int)))
    rw [decide_eq_true (show q ≤ (t' : Int) by omega), decide_eq_true hq]
  unfold Ar.get
  rw [e]
theorem Gr.refl {σ : Ar} (h : σ.t ≤ σ.ws.length) : Gr 0 σ σ := ⟨Nat.le_refl _, rfl, h, fun _ _ => rfl, fun h => h, Nat.le_refl _, Nat.le_refl _⟩
theorem Gr.trans {a b : Nat} {σ σ' σ'' : Ar} (h : Gr a σ σ') (k : Gr b σ' σ'') : Gr (a + b) σ σ'' :=
  ⟨Nat.le_trans h.t k.t, k.len.trans h.len, k.hl, fun q hq => (k.get q (by have := h.t; omega)).trans (h.get q hq), fun hz => k.z (h.z hz), by have := h.ops; have := k.ops; omega⟩
theorem Gr.le {a b : Nat} {σ σ' : Ar} (h : Gr a σ σ') (hab : a ≤ b) : Gr b σ σ' := ⟨h.t, h.len, h.hl, h.get, h.z, by have := h.ops; omega⟩
theorem gr_more {σ : Ar} {m : Nat} (h : σ.t + m ≤ σ.ws.length) : Gr 0 σ { σ with t := σ.t + m } :=
  ⟨by show σ.t ≤ σ.t + m; omega, rfl, h, fun q hq => get_more (Nat.le_add_right _ _) hq, fun hz k hk => hz k (by have : σ.t + m ≤ k := hk; omega), Nat.le_refl _, Nat.le_refl _⟩
theorem Gr.op {σ σ' : Ar} (h : Gr 0 σ σ') (kd p v : Int) (hp : (σ.t : Int) < p) : Gr 1 σ (σ'.op kd p true v) := by
  have ho := op_ops σ' kd p v true
  have h0 := h.ops
  refine ⟨by rw [op_t]; exact h.t, by rw [op_len]; exact h.len, by rw [op_t, op_len]; exact h.hl, fun q hq => ?_, fun hz k hk => ?_, ?_⟩
  · rw [get_op _ h.hl, if_neg (by omega)]
    exact h.get q hq
  · rw [op_t] at hk
    unfold Ar.op
    by_cases hh : σ'.has p = true
    · rw [if_pos hh]
      have h2 := hh
      unfold Ar.has at h2
      rw [Bool.and_eq_true, decide_eq_true_eq, decide_eq_true_eq] at h2
      show (σ'.ws.set (p - 1).toNat v).getD k 0 = 0
      rw [List.getD_eq_getElem?_getD, List.getElem?_set_ne (by omega), ← List.getD_eq_getElem?_getD]
      exact h.z hz k hk
    · rw [if_neg hh]
      exact h.z hz k hk
  · rw [ho]
    split <;> omega
def tak (kind : Int) (n : Nat) (par : Int) (σ : Ar) : Ar × List Sp := firstK kind n par (σ.t + 1) { σ with t := σ.t + sizeK kind n par }
section
variable {kind par : Int} {n : Nat} {σ : Ar} (hM : mayK kind n par) (hr : σ.t + sizeK kind n par ≤ σ.ws.length)
include hM hr
theorem tak_gr : Gr 1 σ (tak kind n par σ).1 ∧ (tak kind n par σ).1.t = σ.t + sizeK kind n par := by
  obtain ⟨⟨k1, k5⟩, ⟨n1, n2⟩, ha1, ha3⟩ := hM
  have g := gr_more hr
  rcases (show kind = 1 ∨ kind = 2 ∨ kind = 3 ∨ kind = 4 ∨ kind = 5 by omega) with rfl | rfl | rfl | rfl | rfl
  · exact ⟨g.le (by omega), rfl⟩
  · exact ⟨g.le (by omega), rfl⟩
  · obtain ⟨p1, p2⟩ := ha3 rfl
    refine ⟨g.op 2 _ _ ?_, by show (Ar.op _ _ _ _ _).t = _; rw [op_t]⟩
    obtain ⟨x, x0, x1, e⟩ := Pt.place_in (P := ⟨((σ.t + 1 : Nat) : Int), par⟩) p1 0
    show (σ.t : Int) < Pt.place ⟨((σ.t + 1 : Nat) : Int), par⟩ 0
    rw [e]
    show (σ.t : Int) < ((σ.t + 1 : Nat) : Int) + 1 + x
    omega
  · exact ⟨g.le (by omega), rfl⟩
  · exact ⟨g.op 2 _ _ (by omega), by show (Ar.op _ _ _ _ _).t = _; rw [op_t]⟩
theorem tak_zero (i : Int) : (spOf (tak kind n par σ).2 i).pc = 0 := by
  obtain ⟨⟨k1, k5⟩, ⟨n1, n2⟩, ha1, ha3⟩ := hM
  have hz0 : ∀ i, (spOf (List.replicate n sp0) i).pc = 0 := fun i => by rw [Pt.zero_spot]; rfl
  rcases (show kind = 1 ∨ kind = 2 ∨ kind = 3 ∨ kind = 4 ∨ kind = 5 by omega) with rfl | rfl | rfl | rfl | rfl
  · exact hz0 i
  · exact hz0 i
  · exact hz0 i
  · exact hz0 i
  · show (spOf (Cl.first0 n) i).pc = 0
    rw [Cl.first0_spot]
    split <;> rfl
theorem tak_lim (h1 : 1 ≤ par) (h4 : par ≤ 4) : limK (pkK kind par (σ.t + 1)) (tak kind n par σ).2 := by
  obtain ⟨⟨k1, k5⟩, ⟨n1, n2⟩, ha1, ha3⟩ := hM
  rcases (show kind = 1 ∨ kind = 2 ∨ kind = 3 ∨ kind = 4 ∨ kind = 5 by omega) with rfl | rfl | rfl | rfl | rfl
  · refine ⟨h4, h1, fun i => ?_⟩
    have e : spOf (Ta.zeroS n) i = sp0 := Ta.zero_spot n i
    show ((spOf (Ta.zeroS n) i).pc = 1 ∨ _ → (spOf (Ta.zeroS n) i).a ≤ par) ∧ ((spOf (Ta.zeroS n) i).pc = 2 → (spOf (Ta.zeroS n) i).b ≤ par)
    rw [e]
    exact ⟨fun _ => by show (0 : Int) ≤ par; omega, fun _ => by show (0 : Int) ≤ par; omega⟩
  · trivial
  · trivial
  · trivial
  · trivial
end
structure Nw where
  kg : Int
  kl : Int
  par : Int
  B : Int
  NN : Nat
  T : Nat
  mt : Nat → Nat
  nd : Nat → Nat
  sl : Nat → Nat
def Nw.tN (c : Nw) (t0 : Nat) : Nat → Nat
  | 0 => t0 + sizeK c.kg c.NN c.par
  | n + 1 => c.tN t0 n + sizeK c.kl (c.mt n) c.par + 1
def Nw.σN (c : Nw) (σ0 : Ar) : Nat → Ar
  | 0 => (tak c.kg c.NN c.par σ0).1
  | n + 1 => { (tak c.kl (c.mt n) c.par (c.σN σ0 n)).1 with t := (tak c.kl (c.mt n) c.par (c.σN σ0 n)).1.t + 1 }
def Nw.pm (c : Nw) (σ0 : Ar) : Pm := ⟨c.NN, c.T, pkK c.kg c.par (σ0.t + 1), fun n => pkK c.kl c.par ((c.σN σ0 n).t + 1), c.mt, fun n => ((c.σN σ0 (n + 1)).t : Int), c.nd, c.sl, c.B⟩
def Nw.st (c : Nw) (σ0 : Ar) : CS := ⟨c.σN σ0 c.NN, (tak c.kg c.NN c.par σ0).2, fun n => (tak c.kl (c.mt n) c.par (c.σN σ0 n)).2, List.replicate c.T sp0⟩
structure Nw.Ok (c : Nw) : Prop where
  g : mayK c.kg c.NN c.par
  l : ∀ n, n < c.NN → mayK c.kl (c.mt n) c.par
  nd : ∀ t, t < c.T → c.nd t < c.NN ∧ c.sl t < c.mt (c.nd t)
  inj : ∀ t u, t < c.T → u < c.T → c.nd t = c.nd u → c.sl t = c.sl u → t = u
  B0 : 0 ≤ c.B
theorem Nw.tN_le (c : Nw) (t0 : Nat) {n k : Nat} (h : n ≤ k) : c.tN t0 n ≤ c.tN t0 k := by
  induction k with
  | zero => obtain rfl : n = 0 := by omega
            exact Nat.le_refl _
  | succ k ih =>
    by_cases e : n = k + 1
    · rw [e]; exact Nat.le_refl _
    · have := ih (by omega)
      show _ ≤ c.tN t0 k + sizeK c.kl (c.mt k) c.par + 1
      omega
section
variable {c : Nw} (O : c.Ok) {σ0 : Ar} (hr : c.tN σ0.t c.NN ≤ σ0.ws.length)
include O hr
theorem Nw.σ_gr : ∀ n, n ≤ c.NN → Gr (n + 1) σ0 (c.σN σ0 n) ∧ (c.σN σ0 n).t = c.tN σ0.t n
  | 0, _ => by
    have h0 := c.tN_le σ0.t (Nat.zero_le c.NN)
    have e : c.tN σ0.t 0 = σ0.t + sizeK c.kg c.NN c.par := rfl
    have := tak_gr O.g (σ := σ0) (by omega)
    exact ⟨this.1, this.2⟩
  | n + 1, hn => by
    obtain ⟨g, ht⟩ := Nw.σ_gr n (by omega)
    have h0 := c.tN_le σ0.t hn
    have e : c.tN σ0.t (n + 1) = c.tN σ0.t n + sizeK c.kl (c.mt n) c.par + 1 := rfl
    have hlen := g.len
    obtain ⟨g1, ht1⟩ := tak_gr (O.l n (by omega)) (σ := c.σN σ0 n) (by omega)
    have hlen1 := g1.len
    have g2 := gr_more (σ := (tak c.kl (c.mt n) c.par (c.σN σ0 n)).1) (m := 1) (by omega)
    refine ⟨(g.trans (g1.trans g2)).le (by omega), ?_⟩
    show (tak c.kl (c.mt n) c.par (c.σN σ0 n)).1.t + 1 = _
    omega
theorem Nw.room {n : Nat} (hn : n < c.NN) : (c.σN σ0 n).t + sizeK c.kl (c.mt n) c.par + 1 ≤ (c.σN σ0 n).ws.length := by
  obtain ⟨g, ht⟩ := Nw.σ_gr O hr n (by omega)
  have h0 := c.tN_le σ0.t (show n + 1 ≤ c.NN from hn)
  have e : c.tN σ0.t (n + 1) = c.tN σ0.t n + sizeK c.kl (c.mt n) c.par + 1 := rfl
  rw [g.len]
  omega
omit O in
theorem Nw.room0 : σ0.t + sizeK c.kg c.NN c.par ≤ σ0.ws.length := by
  have h0 := c.tN_le σ0.t (Nat.zero_le c.NN)
  have e : c.tN σ0.t 0 = σ0.t + sizeK c.kg c.NN c.par := rfl
  omega
theorem Nw.σ_up {n : Nat} : ∀ k, n ≤ k → k ≤ c.NN → Gr (k - n) (c.σN σ0 n) (c.σN σ0 k)
  | 0, h, hk => by
    obtain rfl : n = 0 := by omega
    exact (Gr.refl (Nw.σ_gr O hr 0 hk).1.hl).le (Nat.zero_le _)
  | k + 1, h, hk => by
    by_cases e : n = k + 1
    · subst e
      exact (Gr.refl (Nw.σ_gr O hr _ hk).1.hl).le (Nat.zero_le _)
    · have g := Nw.σ_up (n := n) k (by omega) (by omega)
      have hroom := Nw.room O hr (show k < c.NN by omega)
      obtain ⟨g1, ht1⟩ := tak_gr (O.l k (by omega)) (σ := c.σN σ0 k) (by omega)
      have hlen1 := g1.len
      have g2 := gr_more (σ := (tak c.kl (c.mt k) c.par (c.σN σ0 k)).1) (m := 1) (by omega)
      exact (g.trans (g1.trans g2)).le (by omega)
theorem Nw.σ_fin {n : Nat} (hn : n < c.NN) : Gr (c.NN - n) (tak c.kl (c.mt n) c.par (c.σN σ0 n)).1 (c.σN σ0 c.NN) := by
  have hroom := Nw.room O hr hn
  obtain ⟨g1, ht1⟩ := tak_gr (O.l n hn) (σ := c.σN σ0 n) (by omega)
  have hlen1 := g1.len
  have g2 := gr_more (σ := (tak c.kl (c.mt n) c.par (c.σN σ0 n)).1) (m := 1) (by omega)
  have g3 := Nw.σ_up O hr (n := n + 1) c.NN hn (Nat.le_refl _)
  exact (g2.trans (show Gr _ { (tak c.kl (c.mt n) c.par (c.σN σ0 n)).1 with t := (tak c.kl (c.mt n) c.par (c.σN σ0 n)).1.t + 1 } _ from g3)).le (by omega)
omit hr in
theorem Nw.in_g {q : Int} (h : inR (c.pm σ0).pg c.NN q) : (σ0.t : Int) < q ∧ q ≤ c.tN σ0.t 0 := by
  have h1 := inR_new O.g (a := σ0.t + 1) h
  have e : c.tN σ0.t 0 = σ0.t + sizeK c.kg c.NN c.par := rfl
  omega
theorem Nw.in_l {n : Nat} (hn : n < c.NN) {q : Int} (h : inR ((c.pm σ0).pl n) (c.mt n) q) : (c.tN σ0.t n : Int) < q ∧ q < c.tN σ0.t (n + 1) := by
  have h1 := inR_new (O.l n hn) (a := (c.σN σ0 n).t + 1) h
  have e : c.tN σ0.t (n + 1) = c.tN σ0.t n + sizeK c.kl (c.mt n) c.par + 1 := rfl
  have := (Nw.σ_gr O hr n (by omega)).2
  omega
theorem Nw.cw_eq {n : Nat} (hn : n < c.NN) : (c.pm σ0).cw n = c.tN σ0.t (n + 1) := by
  have := (Nw.σ_gr O hr (n + 1) hn).2
  show ((c.σN σ0 (n + 1)).t : Int) = _
  omega
theorem Nw.dj : Dj (c.pm σ0) := by
  have hm := fun n k (h : n ≤ k) => c.tN_le σ0.t h
  refine ⟨fun n hn q h h2 => ?_, fun n k hn hk hne q h h2 => ?_, fun n hn h => ?_, fun n k hn hk h => ?_, fun n k hn hk h => ?_, O.nd, O.inj, O.B0⟩
  · have := Nw.in_l O hr hn h
    have := Nw.in_g O h2
    have := hm 0 n (Nat.zero_le _)
    omega
  · have h3 := Nw.in_l O hr hn h
    have h4 := Nw.in_l O hr hk h2
    rcases Nat.lt_or_gt_of_ne hne with h5 | h5
    · have := hm (n + 1) k h5; omega
    · have := hm (k + 1) n h5; omega
  · have h1 := Nw.in_g O h
    rw [Nw.cw_eq O hr hn] at h1
    have := hm 0 n (Nat.zero_le _)
    have e : c.tN σ0.t (n + 1) = c.tN σ0.t n + sizeK c.kl (c.mt n) c.par + 1 := rfl
    omega
  · have h1 := Nw.in_l O hr hk h
    rw [Nw.cw_eq O hr hn] at h1
    rcases Nat.lt_or_ge n k with h5 | h5
    · have := hm (n + 1) k h5; omega
    · have := hm (k + 1) (n + 1) (by omega); omega
  · rw [Nw.cw_eq O hr hn, Nw.cw_eq O hr hk] at h
    rcases Nat.lt_trichotomy n k with h5 | h5 | h5
    · have := hm (n + 1) k h5
      have e : c.tN σ0.t (k + 1) = c.tN σ0.t k + sizeK c.kl (c.mt k) c.par + 1 := rfl
      omega
    · exact h5
    · have := hm (k + 1) n h5
      have e : c.tN σ0.t (n + 1) = c.tN σ0.t n + sizeK c.kl (c.mt n) c.par + 1 := rfl
      omega
variable (hz : ∀ k, σ0.t ≤ k → σ0.ws.getD k 0 = 0) (hw : σ0.ws.length ≤ 4096)
include hz hw
theorem Nw.ok_g {m : Nat} (hm : σ0.ops + c.NN ≤ m) : OkK (c.pm σ0).pg (c.st σ0).σ (c.st σ0).g c.NN m := by
  have g := Nw.σ_up O hr (n := 0) c.NN (Nat.zero_le _) (Nat.le_refl _)
  have g0 := (Nw.σ_gr O hr 0 (Nat.zero_le _)).1.ops
  have ht := (Nw.σ_gr O hr 0 (Nat.zero_le _)).2
  have h := ok_flat c.kg c.NN c.par O.g σ0 hz (Nw.room0 hr) hw σ0.ops (Nat.le_refl _)
  have h : OkK (c.pm σ0).pg (c.σN σ0 0) (c.st σ0).g c.NN σ0.ops := h
  have go := g.ops
  refine h.al ⟨fun q hq => g.get q ?_, g.t, g.hl⟩ (show (c.σN σ0 c.NN).ops ≤ m + 1 by omega) (by omega)
  have := Nw.in_g O hq
  omega
theorem Nw.ok_l {m : Nat} (hm : σ0.ops + c.NN + 1 ≤ m) {n : Nat} (hn : n < c.NN) : OkK ((c.pm σ0).pl n) (c.st σ0).σ ((c.st σ0).loc n) (c.mt n) m := by
  have g := Nw.σ_fin O hr hn
  obtain ⟨g0, ht⟩ := Nw.σ_gr O hr n (by omega)
  have h0 := g0.ops
  have hroom := Nw.room O hr hn
  have h := ok_flat c.kl (c.mt n) c.par (O.l n hn) (c.σN σ0 n) (g0.z hz) (by omega) (by rw [g0.len]; exact hw) (c.σN σ0 n).ops (Nat.le_refl _)
  have h : OkK ((c.pm σ0).pl n) (tak c.kl (c.mt n) c.par (c.σN σ0 n)).1 ((c.st σ0).loc n) (c.mt n) (c.σN σ0 n).ops := h
  have go := g.ops
  obtain ⟨g1, ht1⟩ := tak_gr (O.l n hn) (σ := c.σN σ0 n) (by omega)
  have g1o := g1.ops
  refine h.al ⟨fun q hq => g.get q ?_, g.t, g.hl⟩ (show (c.σN σ0 c.NN).ops ≤ m + 1 by omega) (by omega)
  have h1 := Nw.in_l O hr hn hq
  have e : c.tN σ0.t (n + 1) = c.tN σ0.t n + sizeK c.kl (c.mt n) c.par + 1 := rfl
  omega
omit hw in
theorem Nw.cw_zero {n : Nat} (hn : n < c.NN) : cnW (c.pm σ0) (c.st σ0) n = 0 := by
  have g := Nw.σ_up O hr (n := n + 1) c.NN hn (Nat.le_refl _)
  have hroom := Nw.room O hr hn
  obtain ⟨g0, ht⟩ := Nw.σ_gr O hr n (by omega)
  obtain ⟨g1, ht1⟩ := tak_gr (O.l n hn) (σ := c.σN σ0 n) (by omega)
  have h1 := g.get ((c.σN σ0 (n + 1)).t : Int) (Int.le_refl _)
  show (c.σN σ0 c.NN).get ((c.σN σ0 (n + 1)).t : Int) = 0
  rw [h1]
  have e : (c.σN σ0 (n + 1)).ws = (tak c.kl (c.mt n) c.par (c.σN σ0 n)).1.ws := rfl
  have e2 : (c.σN σ0 (n + 1)).t = (tak c.kl (c.mt n) c.par (c.σN σ0 n)).1.t + 1 := rfl
  unfold Ar.get
  split
  · rw [e, e2]
    exact g1.z (g0.z hz) _ (by omega)
  · rfl
theorem Nw.ci {m : Nat} (hm : σ0.ops + c.NN + 1 ≤ m) : CI (c.pm σ0) (c.st σ0) m := by
  obtain ⟨gN, htN⟩ := Nw.σ_gr O hr c.NN (Nat.le_refl _)
  have hpT : ∀ t, pcT (c.st σ0) t = 0 := fun t => by
    show (spOf (List.replicate c.T sp0) (t : Int)).pc = 0
    rw [Pt.zero_spot]; rfl
  have hpL : ∀ t, t < c.T → pcL (c.pm σ0) (c.st σ0) t = 0 := fun t ht => by
    have hn := (O.nd t ht).1
    have hrm := Nw.room O hr hn
    exact tak_zero (σ := c.σN σ0 (c.nd t)) (O.l _ hn) (by omega) _
  have hpG : ∀ n : Nat, pcG (c.st σ0) n = 0 := fun n => tak_zero O.g (Nw.room0 hr) _
  have hc0 := fun n (hn : n < c.NN) => Nw.cw_zero O hr hz hn
  refine ⟨Nw.ok_g O hr hz hw (by omega), fun n hn => Nw.ok_l O hr hz hw hm hn, List.length_replicate, gN.hl, fun n hn => ?_, fun t ht => .inl ⟨hpT t, hpL t ht⟩, fun t ht => ?_, fun n hn _ => .inl ⟨hc0 n hn, hpG n⟩, fun n hn => ?_, ?_⟩
  · rw [Nw.cw_eq O hr hn]
    have h1 := c.tN_le σ0.t (show n + 1 ≤ c.NN from hn)
    have e : c.tN σ0.t (n + 1) = c.tN σ0.t n + sizeK c.kl (c.mt n) c.par + 1 := rfl
    show (decide _ && decide (_ ≤ ((c.σN σ0 c.NN).t : Int))) = true
    rw [htN, decide_eq_true (by omega), decide_eq_true (by omega)]
    rfl
  · unfold nodP
    rw [hpT t]
    omega
  · rw [hc0 n hn]
    have : 0 ≤ c.B := O.B0
    exact ⟨Int.le_refl _, by show 0 ≤ c.B + 1; omega⟩
  · have := gN.ops
    show (c.σN σ0 c.NN).ops ≤ m + 1
    omega
theorem Nw.gd (h1 : 1 ≤ c.par) (h4 : c.par ≤ 4) : Gd (c.pm σ0) (c.st σ0) := by
  refine ⟨⟨_, Nw.ci O hr hz hw (Nat.le_refl _)⟩, ⟨fun n hn h0 => ?_, fun t _ h13 => ?_⟩, ⟨tak_lim O.g (Nw.room0 hr) h1 h4, fun n hn => tak_lim (O.l n hn) (by have := Nw.room O hr hn; omega) h1 h4⟩⟩
  · rw [Nw.cw_zero O hr hz hn] at h0
    omega
  · have : pcT (c.st σ0) t = 0 := by
      show (spOf (List.replicate c.T sp0) (t : Int)).pc = 0
      rw [Pt.zero_spot]; rfl
    omega
end
end Go.Proofs.YtfnmggmgdmokcaaGreat.Co

/- Package cohort: what New has of memory, node by node. -/
namespace Go.Proofs.YtfnmggmgdmokcaaGreat.Cm
open Go.RowKit Go.Proofs.YtfnmggmgdmokcaaGreat.Ara Go.Proofs.YtfnmggmgdmokcaaGreat.Lok Go.Proofs.YtfnmggmgdmokcaaGreat.Fl Go.Proofs.YtfnmggmgdmokcaaGreat.Co

structure Bl where
  gl : Nat
  gt : Nat
  gn : Nat
  gs : Nat
  gm : Nat
  hs : Nat
  ga : Nat
  ha : Nat
  gf : Nat
  gk : Nat
  gh : Nat
  gp : Nat
  tA : Option Addr
  tB : Option Addr
  lA : Nat
  tc : Nat
  td : Nat
  vu : Value
  cn : Nat
  cs : Nat
def ndCells (c : Nw) (σ0 : Ar) (lf : Nat → Nat) (k : Nat) : List Value := (List.range k).flatMap fun n => [.pointer (some ⟨lf n, 0, none⟩), .int .i64 ((c.pm σ0).cw n)]
def nwCells (b : Bl) (c : Nw) (vg v : Value) : Array Value := #[.pointer (some ⟨b.ga, 0, none⟩), .pointer (some ⟨b.gt, 0, none⟩), .int .i64 c.kg, .int .i64 c.kl, .int .i64 c.par, .int .i64 c.B, vg, v, .slice (some ⟨b.hs, 0, none⟩) c.T c.T]
structure NwW (w : World) (B0 : Nat) (b : Bl) (c : Nw) (σ0 : Ar) (ms : List Int) (j k : Nat) (σ : Ar) (lf lk lh col : Nat → Nat) (v : Value) (W : World) : Prop where
  lk_ : W.heap[b.gl]? = some (.cells (nwCells b c (.pointer (some ⟨b.gf, 0, none⟩)) v) 71 (0, 0))
  pr : W.heap[b.gp]? = some (.cells #[.int .i64 c.kg, .int .i64 c.kl, .int .i64 c.par, .int .i64 c.B] 30 (0, 0))
  tb : Pa.TbB W b.gt (.slice b.tA b.lA b.tc) (.slice b.tB c.T b.td) 1 0 b.vu (.slice (some ⟨b.gn, 0, none⟩) c.T b.cn) (.slice (some ⟨b.gs, 0, none⟩) c.T b.cs) (.slice (some ⟨b.gm, 0, none⟩) c.NN c.NN)
  rn : ∀ k, k < c.T → W.cell? ⟨b.gn, k, none⟩ = some (.int .i64 (c.nd k : Int))
  rs : ∀ k, k < c.T → W.cell? ⟨b.gs, k, none⟩ = some (.int .i64 (c.sl k : Int))
  rm : ∀ n, n < c.NN → W.cell? ⟨b.gm, n, none⟩ = some (.int .i64 (ms.getD n 0))
  ar : ArAt W b.ga b.ha σ
  sp : SpAt W b.hs (List.replicate c.T sp0)
  fg : FLAt W b.gf b.gk b.ga b.ha b.gh (c.pm σ0).pg σ (tak c.kg c.NN c.par σ0).2
  fl : ∀ n, n < j → FLAt W (lf n) (lk n) b.ga b.ha (lh n) ((c.pm σ0).pl n) σ (tak c.kl (c.mt n) c.par (c.σN σ0 n)).2
  nr : W.ownsRow B0 81 2 v k (ndCells c σ0 lf k)
  cv : ∀ q, v.ownBlock = some q → col q = 0 ∧ ∀ n, n < j → q ≠ lf n ∧ q ≠ lk n ∧ q ≠ lh n
  c0 : (col b.gl = 0 ∧ col b.gt = 0 ∧ col b.gn = 0 ∧ col b.gs = 0) ∧ (col b.gm = 0 ∧ col b.gf = 0 ∧ col b.gk = 0 ∧ col b.gp = 0)
  cl : ∀ n, n < j → col (lf n) = 0 ∧ col (lk n) = 0 ∧ col (lh n) = 5 + n
  ch : col b.ga = 1 ∧ col b.ha = 2 ∧ col b.hs = 3 ∧ col b.gh = 4
  pre : ((b.gl < B0 ∧ b.gt < B0 ∧ b.gn < B0 ∧ b.gs < B0) ∧ (b.gm < B0 ∧ b.gf < B0 ∧ b.gk < B0 ∧ b.gp < B0)) ∧ (b.ga < B0 ∧ b.ha < B0 ∧ b.hs < B0 ∧ b.gh < B0)
  sz : w.heap.size ≤ B0 ∧ B0 ≤ W.heap.size
  fresh : ∀ q, W.heap.size ≤ q → col q = 0
  old : ∀ q, q < w.heap.size → q ≠ b.ga → q ≠ b.ha → col q = 0
  md : Mod [b.ga, b.ha] w W
  gl0 : w.heap.size ≤ b.gl
  gne : (b.gl ≠ b.gt ∧ b.gl ≠ b.gn ∧ b.gl ≠ b.gs ∧ b.gl ≠ b.gm) ∧ b.gl ≠ b.gf ∧ b.gl ≠ b.gk ∧ b.gl ≠ b.gp
  lo : ∀ n, n < j → B0 ≤ lf n ∧ B0 ≤ lk n ∧ B0 ≤ lh n
theorem ndCells_len (c : Nw) (σ0 : Ar) (lf : Nat → Nat) (k : Nat) : (ndCells c σ0 lf k).length = k * 2 := by
  unfold ndCells
  rw [flat_len (dec := fun n => [.pointer (some ⟨lf n, 0, none⟩), .int .i64 ((c.pm σ0).cw n)]) (k := 2) (fun _ => rfl), List.length_range]
theorem ndCells_succ (c : Nw) (σ0 : Ar) (lf : Nat → Nat) (k : Nat) : ndCells c σ0 lf (k + 1) = ndCells c σ0 lf k ++ [.pointer (some ⟨lf k, 0, none⟩), .int .i64 ((c.pm σ0).cw k)] := by
  unfold ndCells
  rw [List.range_succ, List.flatMap_append]
  simp
theorem ndCells_same (c : Nw) (σ0 : Ar) {lf lf' : Nat → Nat} {k : Nat} (h : ∀ n, n < k → lf' n = lf n) : ndCells c σ0 lf' k = ndCells c σ0 lf k := by
  induction k with
  | zero => rfl
  | succ k ih => rw [ndCells_succ, ndCells_succ, ih (fun n hn => h n (by omega)), h k (by omega)]
section
variable {w : World} {B0 : Nat} {b : Bl} {c : Nw} {σ0 : Ar} {ms : List Int} {j k : Nat} {σ σ' : Ar} {lf lk lh col : Nat → Nat} {v : Value} {W W' : World} (h : NwW w B0 b c σ0 ms j k σ lf lk lh col v W)
include h
theorem NwW.ne {q : Nat} (hq : col q ≠ 1 ∧ col q ≠ 2) : q ∉ [b.ga, b.ha] := fun hm => by
  obtain ⟨h1, h2, _, _⟩ := h.ch
  simp at hm
  rcases hm with e | e <;> (rw [e] at hq; omega)
theorem NwW.wrd (ha : ArAt W' b.ga b.ha σ') (hm : Mod [b.ga, b.ha] W W') : NwW w B0 b c σ0 ms j k σ' lf lk lh col v W' := by
  obtain ⟨⟨a1, a2, a3, a4⟩, a5, a6, a7, a8⟩ := h.c0
  obtain ⟨h1, h2, h3, h4⟩ := h.ch
  obtain ⟨⟨⟨p1, p2, p3, p4⟩, p5, p6, p7, p8⟩, p9, p10, p11, p12⟩ := h.pre
  obtain ⟨z1, z2⟩ := h.sz
  have ne := fun q hq => h.ne (q := q) hq
  have hsz := hm.size
  refine ⟨hm.blk h.lk_ (ne _ (by omega)), hm.blk h.pr (ne _ (by omega)), h.tb.mod hm (ne _ (by omega)), fun k hk => (Pa.cell_mod hm (p := ⟨b.gn, k, none⟩) (by show b.gn < _; omega) (ne _ (by show col b.gn ≠ 1 ∧ col b.gn ≠ 2; omega))).trans (h.rn k hk), fun k hk => (Pa.cell_mod hm (p := ⟨b.gs, k, none⟩) (by show b.gs < _; omega) (ne _ (by show col b.gs ≠ 1 ∧ col b.gs ≠ 2; omega))).trans (h.rs k hk),
    fun k hk => (Pa.cell_mod hm (p := ⟨b.gm, k, none⟩) (by show b.gm < _; omega) (ne _ (by show col b.gm ≠ 1 ∧ col b.gm ≠ 2; omega))).trans (h.rm k hk), ha, h.sp.mod hm (ne _ (by omega)), h.fg.arena hm (ne _ (by omega)) (ne _ (by omega)) (ne _ (by omega)) ha, fun n hn => ?_, Tp.own_apart h.nr hm (fun q hq => ne _ (by have := (h.cv q hq).1; omega)), h.cv, h.c0, h.cl, h.ch, h.pre, ⟨z1, by omega⟩, fun q hq => h.fresh q (by omega), h.old, h.md.trans hm, h.gl0, h.gne, h.lo⟩
  obtain ⟨b1, b2, b3⟩ := h.cl n hn
  exact (h.fl n hn).arena hm (ne _ (by omega)) (ne _ (by omega)) (ne _ (by omega)) ha
theorem NwW.same (hb : Below W.heap.size W W') : NwW w B0 b c σ0 ms j k σ lf lk lh col v W' := h.wrd (h.ar.step hb) (Mod.of_below hb)
theorem NwW.mk1 (hkj : k ≤ j) {gf gk gh : Nat} (hf : FLAt W' gf gk b.ga b.ha gh ((c.pm σ0).pl j) σ' (tak c.kl (c.mt j) c.par (c.σN σ0 j)).2) (hg : W.heap.size ≤ gf ∧ W.heap.size ≤ gk ∧ W.heap.size ≤ gh) (hm : Mod [b.ga, b.ha] W W') :
    NwW w B0 b c σ0 ms (j + 1) k σ' (upd lf j gf) (upd lk j gk) (upd lh j gh) (upd col gh (5 + j)) v W' := by
  obtain ⟨⟨⟨p1, p2, p3, p4⟩, p5, p6, p7, p8⟩, p9, p10, p11, p12⟩ := h.pre
  obtain ⟨z1, z2⟩ := h.sz
  obtain ⟨⟨a1, a2, a3, a4⟩, a5, a6, a7, a8⟩ := h.c0
  obtain ⟨h1, h2, h3, h4⟩ := h.ch
  obtain ⟨g1, g2, g3⟩ := hg
  have H1 := h.wrd hf.at_.facts.1 hm
  have up : ∀ q, q < W.heap.size → upd col gh (5 + j) q = col q := fun q hq => upd_other _ _ (by omega)
  have uf : ∀ (f : Nat → Nat) (x n : Nat), n < j → upd f j x n = f n := fun f x n hn => upd_other _ _ (by omega)
  have hb := hf.blocks
  have hsz := hm.size
  refine ⟨H1.lk_, H1.pr, H1.tb, H1.rn, H1.rs, H1.rm, H1.ar, H1.sp, H1.fg, fun n hn => ?_, ?_, fun q hq => ?_, ?_, fun n hn => ?_, ?_, h.pre, H1.sz, fun q hq => ?_, fun q hq q1 q2 => ?_, H1.md, h.gl0, h.gne, fun n hn => ?_⟩
  · by_cases e : n = j
    · subst e
      rw [upd_self, upd_self, upd_self]
      exact hf
    · rw [uf _ _ n (by omega), uf _ _ n (by omega), uf _ _ n (by omega)]
      exact H1.fl n (by omega)
  · rw [ndCells_same c σ0 (lf := lf) (fun n hn => uf _ _ n (by omega))]
    exact H1.nr
  · have hq2 := (Tp.own_block h.nr hq).2
    rw [up q hq2]
    refine ⟨(h.cv q hq).1, fun n hn => ?_⟩
    by_cases e : n = j
    · subst e
      rw [upd_self, upd_self, upd_self]
      omega
    · rw [uf _ _ n (by omega), uf _ _ n (by omega), uf _ _ n (by omega)]
      exact (h.cv q hq).2 n (by omega)
  · rw [up _ (by omega), up _ (by omega), up _ (by omega), up _ (by omega), up _ (by omega), up _ (by omega), up _ (by omega), up _ (by omega)]
    exact h.c0
  · by_cases e : n = j
    · subst e
      have e1 := hf.n3
      have e2 := hf.at_.facts.2.2.2.2.2.2.1
      rw [upd_self, upd_self, upd_self, upd_self, upd_other _ _ e1, upd_other _ _ e2]
      exact ⟨h.fresh _ g1, h.fresh _ g2, rfl⟩
    · have hn' : n < j := by omega
      have hb := (h.fl n hn').blocks
      rw [uf _ _ n hn', uf _ _ n hn', uf _ _ n hn', up _ (by omega), up _ (by omega), up _ (by omega)]
      exact h.cl n hn'
  · rw [up _ (by omega), up _ (by omega), up _ (by omega), up _ (by omega)]
    exact h.ch
  · rw [upd_other _ _ (by omega)]
    exact h.fresh q (by omega)
  · rw [up q (by omega)]
    exact h.old q hq q1 q2
  · by_cases e : n = j
    · subst e
      rw [upd_self, upd_self, upd_self]
      omega
    · rw [uf _ _ n (by omega), uf _ _ n (by omega), uf _ _ n (by omega)]
      exact h.lo n (by omega)
theorem NwW.app (hkj : k < j) {v' : Value} (hown : W'.ownsRow B0 81 2 v' (k + 1) (ndCells c σ0 lf k ++ [.pointer (some ⟨lf k, 0, none⟩), .int .i64 ((c.pm σ0).cw k)])) (hg : W.grownBy W' v.ownBlock) (hn : ∀ q, v'.ownBlock = some q → v.ownBlock = some q ∨ W.heap.size ≤ q) :
    NwW w B0 b c σ0 ms j (k + 1) σ lf lk lh col v' (W'.setCell ⟨b.gl, 7, none⟩ v') ∧ W'.cell? ⟨b.gl, 7, none⟩ = some v ∧ W'.frozen? ⟨b.gl, 7, none⟩ = false := by
  obtain ⟨⟨⟨p1, p2, p3, p4⟩, p5, p6, p7, p8⟩, p9, p10, p11, p12⟩ := h.pre
  obtain ⟨z1, z2⟩ := h.sz
  have hm := Tp.grown_mod hg
  have hS : ∀ x ∈ v.ownBlock.toList, v.ownBlock = some x := by simp
  have hno : ∀ q, q < B0 → q ∉ v.ownBlock.toList := fun q hq hx => by have := (Tp.own_block h.nr (hS q hx)).1; omega
  have hsz := hm.size
  have hlk := hm.blk h.lk_ (hno _ p1)
  have hm2 : Mod [b.gl] W' (W'.setCell ⟨b.gl, 7, none⟩ v') := (Mod.refl _ _).setCell (by simp) _
  have hsz2 := hm2.size
  have nl : ∀ q, q ≠ b.gl → q ∉ [b.gl] := fun q hq hx => hq (by simpa using hx)
  have cl0 := h.c0.1.1
  have nc : ∀ q, col q ≠ 0 → q ≠ b.gl := fun q hq e => by rw [e] at hq; exact hq cl0
  obtain ⟨h1, h2, h3, h4⟩ := h.ch
  have cell2 : ∀ (q i : Nat), q < B0 → q ≠ b.gl → (W'.setCell ⟨b.gl, 7, none⟩ v').cell? ⟨q, i, none⟩ = W.cell? ⟨q, i, none⟩ := fun q i hq hne =>
    (Pa.cell_mod hm2 (p := ⟨q, i, none⟩) (by show q < _; omega) (nl _ hne)).trans (Pa.cell_mod hm (p := ⟨q, i, none⟩) (by show q < _; omega) (hno _ hq))
  obtain ⟨⟨n1, n2, n3, n4⟩, n5, n6, n7⟩ := h.gne
  have two : ∀ {T : TypeId} {q : Nat} {cs : Array Value}, W.heap[q]? = some (.cells cs T (0, 0)) → q < B0 → q ≠ b.gl → (W'.setCell ⟨b.gl, 7, none⟩ v').heap[q]? = some (.cells cs T (0, 0)) := fun a1 a2 a3 => hm2.blk (hm.blk a1 (hno _ a2)) (nl _ a3)
  have hvl : ∀ n, n < j → lf n ∉ v.ownBlock.toList ∧ lk n ∉ v.ownBlock.toList ∧ lh n ∉ v.ownBlock.toList := fun n hn =>
    ⟨fun hx => ((h.cv _ (hS _ hx)).2 n hn).1 rfl, fun hx => ((h.cv _ (hS _ hx)).2 n hn).2.1 rfl, fun hx => ((h.cv _ (hS _ hx)).2 n hn).2.2 rfl⟩
  have hcol' : ∀ q, v'.ownBlock = some q → col q = 0 ∧ ∀ n, n < j → q ≠ lf n ∧ q ≠ lk n ∧ q ≠ lh n := fun q hq => by
    rcases hn q hq with h9 | h9
    · exact h.cv q h9
    · refine ⟨h.fresh q h9, fun n hn => ?_⟩
      have hb := (h.fl n hn).blocks
      omega
  have hgl7 := blk_cell hlk 7 (by simp [nwCells])
  have hfz := blk_free hlk 7
  refine ⟨⟨?_, two h.pr p8 (fun e => n7 e.symm), two h.tb p2 (fun e => n1 e.symm), fun k hk => (cell2 _ _ p3 (fun e => n2 e.symm)).trans (h.rn k hk), fun k hk => (cell2 _ _ p4 (fun e => n3 e.symm)).trans (h.rs k hk), fun k hk => (cell2 _ _ p5 (fun e => n4 e.symm)).trans (h.rm k hk),
    (h.ar.mod hm (hno _ p9) (hno _ p10)).mod hm2 (nl _ (nc _ (by omega))) (nl _ (nc _ (by omega))), (h.sp.mod hm (hno _ p11)).mod hm2 (nl _ (nc _ (by omega))),
    (h.fg.mod hm (hno _ p6) (hno _ p7) (hno _ p9) (hno _ p10) (hno _ p12)).mod hm2 (nl _ (fun e => n5 e.symm)) (nl _ (fun e => n6 e.symm)) (nl _ (nc _ (by omega))) (nl _ (nc _ (by omega))) (nl _ (nc _ (by omega))), fun n hn => ?_, ?_, hcol', h.c0, h.cl, h.ch, h.pre, ⟨z1, by omega⟩, fun q hq => h.fresh q (by omega), h.old, ?_, h.gl0, h.gne, h.lo⟩, hgl7, hfz⟩
  · have := blk_set hlk 7 v'
    simpa [nwCells] using this
  · obtain ⟨y1, y2, y3⟩ := hvl n hn
    obtain ⟨x1, x2, x3⟩ := h.lo n hn
    exact ((h.fl n hn).mod hm y1 y2 (hno _ p9) (hno _ p10) y3).mod hm2 (nl _ (by omega)) (nl _ (by omega)) (nl _ (nc _ (by omega))) (nl _ (nc _ (by omega))) (nl _ (by omega))
  · rw [ndCells_succ]
    exact Tp.own_apart hown hm2 (fun q hq => nl _ (by have := (Tp.own_block hown hq).1; omega))
  · exact (h.md.of_grown hg (fun q hq => .inl (by have := (Tp.own_block h.nr hq).1; omega))).setNew (p := ⟨b.gl, 7, none⟩) h.gl0 _
end
end Go.Proofs.YtfnmggmgdmokcaaGreat.Cm

