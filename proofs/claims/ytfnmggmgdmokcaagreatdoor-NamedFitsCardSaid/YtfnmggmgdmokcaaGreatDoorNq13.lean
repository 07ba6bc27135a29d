/- Merged texts: Co4, Co5, Co6, Co7, Co8, Co9, Co10, Budget, Bu2. -/
import Derived.Test.YtfnmggmgdmokcaaGreatDoorNq12
import Derived.Test.YtfnmggmgdmokcaaGreatDoorKit
set_option linter.unusedVariables false
/- A global lock of nodes, a local one of the threads of each: the three ways of a turn: an act on the node's lock, on the global one, on the count word: the plain law. -/
namespace Go.Proofs.YtfnmggmgdmokcaaGreatDoor.Co
open Go.RowKit Go.Proofs.YtfnmggmgdmokcaaGreatDoor.Ara Go.Proofs.YtfnmggmgdmokcaaGreatDoor.Lok Go.Proofs.YtfnmggmgdmokcaaGreatDoor.Fl

section
variable {P : Pm} {x : CS} {m : Nat} (D : Dj P) (H : CI P x m)
include H
theorem CI.more : CI P x (m + 1) :=
  ⟨H.og.al (Al.refl H.hl) (by have := H.ops; omega) (by omega), fun n hn => (H.ol n hn).al (Al.refl H.hl) (by have := H.ops; omega) (by omega), H.len, H.hl, H.hc, H.rel, H.nod, H.free, H.cr, by have := H.ops; omega⟩
include D
theorem CI.tl {t : Nat} (ht : t < P.T) (kd : Int) (s' : Sp) (hrel : relP s'.pc (spOf (doK (P.pl (P.nd t)) x.σ (x.loc (P.nd t)) kd (P.sl t)).2.2 (P.sl t)).pc) (hnod : nodP P s'.pc s'.a (cnW P x (P.nd t)) (pcG x (P.nd t)))
    (hfree : ¬ busy s'.pc → (∀ u, u < P.T → u ≠ t → P.nd u = P.nd t → ¬ busy (pcT x u)) → (cnW P x (P.nd t) = 0 ∧ pcG x (P.nd t) = 0) ∨ (0 < cnW P x (P.nd t) ∧ pcG x (P.nd t) = 10)) :
    CI P ⟨(doK (P.pl (P.nd t)) x.σ (x.loc (P.nd t)) kd (P.sl t)).2.1, x.g, upd x.loc (P.nd t) (doK (P.pl (P.nd t)) x.σ (x.loc (P.nd t)) kd (P.sl t)).2.2, x.S.set t s'⟩ (m + 1) := by
  obtain ⟨hn, hsl⟩ := D.nd t ht
  have htl : t < x.S.length := by rw [H.len]; exact ht
  have ho := H.ops
  obtain ⟨a1, a2, a3, a4, a5⟩ := H.loc_al D ht kd
  have hops := (do_ops (P.pl (P.nd t)) x.σ (x.loc (P.nd t)) kd (P.sl t)).1
  have hact := (H.ol _ hn).act kd (P.sl t)
  have hoth := fun u (hu : u < P.T) (hne : u ≠ t) => CI.oth_l (x := x) D ht kd x.σ hu hne
  have hcr := H.cr _ hn
  have hcn := a3 _ hn
  have hgo := H.og.al a1 (Nat.le_trans hops (show x.σ.ops + 1 ≤ m + 1 + 1 by omega)) (show m ≤ m + 1 by omega)
  generalize doK (P.pl (P.nd t)) x.σ (x.loc (P.nd t)) kd (P.sl t) = r at *
  obtain ⟨b, σ', l'⟩ := r
  have e1 : spOf (x.S.set t s') (t : Int) = s' := set_t htl s'
  refine H.turn D ht hgo (show OkK (P.pl (P.nd t)) σ' (upd x.loc (P.nd t) l' (P.nd t)) _ _ by rw [upd_self]; exact hact) (fun k hk => upd_other _ _ hk) a2 (fun u hu => set_u htl _ hu) (by simp) (fun k _ _ => rfl) hoth (fun k hk _ => a3 k hk) a4 a5 hops ?_ ?_ (.inl ⟨hcn, rfl⟩) ?_ ?_
  · show relP (spOf (x.S.set t s') (t : Int)).pc (spOf (upd x.loc (P.nd t) l' (P.nd t)) (P.sl t)).pc
    rw [e1, upd_self]; exact hrel
  · show nodP P (spOf (x.S.set t s') (t : Int)).pc (spOf (x.S.set t s') (t : Int)).a (σ'.get (P.cw (P.nd t))) (pcG x (P.nd t))
    rw [e1, hcn]; exact hnod
  · intro hb hf
    show (σ'.get (P.cw (P.nd t)) = 0 ∧ pcG x (P.nd t) = 0) ∨ (0 < σ'.get (P.cw (P.nd t)) ∧ pcG x (P.nd t) = 10)
    rw [hcn]
    exact hfree (by rw [← e1]; exact hb) hf
  · show 0 ≤ σ'.get (P.cw (P.nd t)) ∧ σ'.get (P.cw (P.nd t)) ≤ P.B + 1
    rw [hcn]; exact hcr
theorem CI.tg {t : Nat} (ht : t < P.T) (h2 : 2 ≤ pcT x t) (kd : Int) (s' : Sp) (l' : Nat → List Sp) (hl : OkK (P.pl (P.nd t)) x.σ (l' (P.nd t)) (P.mt (P.nd t)) (m + 1)) (hlo : ∀ k, k ≠ P.nd t → l' k = x.loc k) (hlo2 : ∀ u, u < P.T → u ≠ t → (spOf (l' (P.nd u)) (P.sl u)).pc = pcL P x u)
    (hrel : relP s'.pc (spOf (l' (P.nd t)) (P.sl t)).pc) (hnod : nodP P s'.pc s'.a (cnW P x (P.nd t)) (spOf (doK P.pg x.σ x.g kd (P.nd t)).2.2 (P.nd t)).pc)
    (hfree : ¬ busy s'.pc → (cnW P x (P.nd t) = 0 ∧ (spOf (doK P.pg x.σ x.g kd (P.nd t)).2.2 (P.nd t)).pc = 0) ∨ (0 < cnW P x (P.nd t) ∧ (spOf (doK P.pg x.σ x.g kd (P.nd t)).2.2 (P.nd t)).pc = 10)) :
    CI P ⟨(doK P.pg x.σ x.g kd (P.nd t)).2.1, (doK P.pg x.σ x.g kd (P.nd t)).2.2, l', x.S.set t s'⟩ (m + 1) := by
  obtain ⟨hn, hsl⟩ := D.nd t ht
  have htl : t < x.S.length := by rw [H.len]; exact ht
  have ho := H.ops
  obtain ⟨a2, a3, a4, a5⟩ := H.glo_al D (P.nd t) kd
  have hops := (do_ops P.pg x.σ x.g kd (P.nd t)).1
  have hact := H.og.act kd (P.nd t)
  have hgo := fun k (hk : k ≠ P.nd t) => CI.oth_g (P := P) (x := x) (P.nd t) kd x.σ hk
  have hcr := H.cr _ hn
  have hcn := a3 _ hn
  have hl2 := hl.al (a2 _ hn) (Nat.le_trans hops (show x.σ.ops + 1 ≤ m + 1 + 1 by omega)) (Nat.le_refl _)
  generalize doK P.pg x.σ x.g kd (P.nd t) = r at *
  obtain ⟨b, σ', g'⟩ := r
  have e1 : spOf (x.S.set t s') (t : Int) = s' := set_t htl s'
  refine H.turn D ht hact hl2 hlo (fun k hk _ => a2 k hk) (fun u hu => set_u htl _ hu) (by simp) (fun k _ hk => hgo k hk) hlo2 (fun k hk _ => a3 k hk) a4 a5 hops ?_ ?_ (.inr h2) ?_ ?_
  · show relP (spOf (x.S.set t s') (t : Int)).pc (spOf (l' (P.nd t)) (P.sl t)).pc
    rw [e1]; exact hrel
  · show nodP P (spOf (x.S.set t s') (t : Int)).pc (spOf (x.S.set t s') (t : Int)).a (σ'.get (P.cw (P.nd t))) (spOf g' (P.nd t)).pc
    rw [e1, hcn]; exact hnod
  · intro hb _
    show (σ'.get (P.cw (P.nd t)) = 0 ∧ (spOf g' (P.nd t)).pc = 0) ∨ (0 < σ'.get (P.cw (P.nd t)) ∧ (spOf g' (P.nd t)).pc = 10)
    rw [hcn]
    exact hfree (by rw [← e1]; exact hb)
  · show 0 ≤ σ'.get (P.cw (P.nd t)) ∧ σ'.get (P.cw (P.nd t)) ≤ P.B + 1
    rw [hcn]; exact hcr
theorem CI.tw {t : Nat} (ht : t < P.T) (h2 : 2 ≤ pcT x t) (kd v : Int) (wr : Bool) (s' : Sp) (g' : List Sp) (l' : Nat → List Sp) (hg : OkK P.pg x.σ g' P.NN (m + 1)) (hgo : ∀ k, k ≠ P.nd t → (spOf g' k).pc = pcG x k)
    (hl : OkK (P.pl (P.nd t)) x.σ (l' (P.nd t)) (P.mt (P.nd t)) (m + 1)) (hlo : ∀ k, k ≠ P.nd t → l' k = x.loc k) (hlo2 : ∀ u, u < P.T → u ≠ t → (spOf (l' (P.nd u)) (P.sl u)).pc = pcL P x u)
    (hrel : relP s'.pc (spOf (l' (P.nd t)) (P.sl t)).pc) (hnod : nodP P s'.pc s'.a (if wr then v else cnW P x (P.nd t)) (spOf g' (P.nd t)).pc)
    (hfree : ¬ busy s'.pc → ((if wr then v else cnW P x (P.nd t)) = 0 ∧ (spOf g' (P.nd t)).pc = 0) ∨ (0 < (if wr then v else cnW P x (P.nd t)) ∧ (spOf g' (P.nd t)).pc = 10)) (hv : 0 ≤ (if wr then v else cnW P x (P.nd t)) ∧ (if wr then v else cnW P x (P.nd t)) ≤ P.B + 1) :
    CI P ⟨x.σ.op kd (P.cw (P.nd t)) wr v, g', l', x.S.set t s'⟩ (m + 1) := by
  obtain ⟨hn, hsl⟩ := D.nd t ht
  have htl : t < x.S.length := by rw [H.len]; exact ht
  have ho := H.ops
  obtain ⟨a1, a2, a3, a4⟩ := H.op_al D hn kd v wr
  have hops : (x.σ.op kd (P.cw (P.nd t)) wr v).ops ≤ x.σ.ops + 1 := by rw [op_ops]; split <;> omega
  have hops2 := Nat.le_trans hops (show x.σ.ops + 1 ≤ m + 1 + 1 by omega)
  have e1 : spOf (x.S.set t s') (t : Int) = s' := set_t htl s'
  refine H.turn D ht (hg.al a1 hops2 (Nat.le_refl _)) (hl.al (a2 _ hn) hops2 (Nat.le_refl _)) hlo (fun k hk _ => a2 k hk) (fun u hu => set_u htl _ hu) (by simp) (fun k _ hk => hgo k hk) hlo2 a3 (op_t _ _ _ _ _) (op_len _ _ _ _ _) hops ?_ ?_ (.inr h2) ?_ ?_
  · show relP (spOf (x.S.set t s') (t : Int)).pc (spOf (l' (P.nd t)) (P.sl t)).pc
    rw [e1]; exact hrel
  · show nodP P (spOf (x.S.set t s') (t : Int)).pc (spOf (x.S.set t s') (t : Int)).a ((x.σ.op kd (P.cw (P.nd t)) wr v).get (P.cw (P.nd t))) (spOf g' (P.nd t)).pc
    rw [e1, a4]; exact hnod
  · intro hb _
    show ((x.σ.op kd (P.cw (P.nd t)) wr v).get (P.cw (P.nd t)) = 0 ∧ (spOf g' (P.nd t)).pc = 0) ∨ (0 < (x.σ.op kd (P.cw (P.nd t)) wr v).get (P.cw (P.nd t)) ∧ (spOf g' (P.nd t)).pc = 10)
    rw [a4]
    exact hfree (by rw [← e1]; exact hb)
  · show 0 ≤ (x.σ.op kd (P.cw (P.nd t)) wr v).get (P.cw (P.nd t)) ∧ (x.σ.op kd (P.cw (P.nd t)) wr v).get (P.cw (P.nd t)) ≤ P.B + 1
    rw [a4]; exact hv
end
end Go.Proofs.YtfnmggmgdmokcaaGreatDoor.Co

/- A global lock of nodes, a local one of the threads of each: whatever is done, it stands: the plain law. -/
namespace Go.Proofs.YtfnmggmgdmokcaaGreatDoor.Co
open Go.RowKit Go.Proofs.YtfnmggmgdmokcaaGreatDoor.Ara Go.Proofs.YtfnmggmgdmokcaaGreatDoor.Lok Go.Proofs.YtfnmggmgdmokcaaGreatDoor.Fl

theorem self_set {S : List Sp} {t : Nat} (ht : t < S.length) : S.set t (spOf S (t : Int)) = S := by
  rw [spOf_in ht, List.set_getElem_self]
theorem nod_calm {P : Pm} {pc a c γ : Int} (h : pc ≤ 2 ∨ pc = 16) : nodP P pc a c γ := by
  unfold nodP
  refine ⟨fun h => by omega, fun h => by omega, fun h => by omega, fun h => by omega, fun h => by omega, fun h => by omega⟩
section
variable {P : Pm} {x : CS} {m : Nat} (D : Dj P) (H : CI P x m)
include D H
theorem CI.in_ {t : Nat} (ht : t < P.T) (hp : 0 < pcT x t ∧ pcT x t < 10) : CI P (inC P x t (spOf x.S t)) (m + 1) := by
  obtain ⟨hn, hsl⟩ := D.nd t ht
  have htl : t < x.S.length := by rw [H.len]; exact ht
  have hpc := H.rel t ht
  have hN := H.nod t ht
  have hB := D.B0
  have hcr := H.cr _ hn
  have hgl : x.g.length = P.NN := H.og.len
  have hog1 : OkK P.pg x.σ x.g P.NN (m + 1) := H.og.al (Al.refl H.hl) (by have := H.ops; omega) (by omega)
  have hol1 : OkK (P.pl (P.nd t)) x.σ (x.loc (P.nd t)) (P.mt (P.nd t)) (m + 1) := (H.ol _ hn).al (Al.refl H.hl) (by have := H.ops; omega) (by omega)
  have hfree0 : ¬ busy (pcT x t) → (∀ u, u < P.T → u ≠ t → P.nd u = P.nd t → ¬ busy (pcT x u)) → (cnW P x (P.nd t) = 0 ∧ pcG x (P.nd t) = 0) ∨ (0 < cnW P x (P.nd t) ∧ pcG x (P.nd t) = 10) := fun h1 h2 => H.free _ hn (fun u hu hnn => by
    by_cases eu : u = t
    · rw [eu]; exact h1
    · exact h2 u hu eu hnn)
  have hfree2 : (2 : Int) ≤ pcT x t → ¬ busy (pcT x t) → (cnW P x (P.nd t) = 0 ∧ pcG x (P.nd t) = 0) ∨ (0 < cnW P x (P.nd t) ∧ pcG x (P.nd t) = 10) := fun h2 h1 => hfree0 h1 (fun u hu hne hnn => by
    have := H.alone D ht h2 hu hnn hne
    unfold busy; omega)
  unfold relP at hpc
  unfold nodP at hN
  rcases (show pcT x t = 1 ∨ pcT x t = 2 ∨ pcT x t = 3 ∨ pcT x t = 4 by omega) with e | e | e | e
  · have hl : 0 < pcL P x t ∧ pcL P x t < 10 := by omega
    have hst := ((H.ol _ hn).step_pc (P.sl t)).2.2.1 hl.1 hl.2
    have hfr := fun h2 => hfree0 (by rw [e]; unfold busy; omega) h2
    unfold inC
    rw [if_pos e]
    rcases hst with ⟨b1, b2⟩ | ⟨b1, b2, b3⟩
    · rw [if_pos b1]
      exact H.tl D ht 0 _ (by rw [b2]; exact .inr (.inr (.inl ⟨.inl rfl, rfl⟩))) (nod_calm (.inl (Int.le_refl _))) (fun _ h2 => hfr h2)
    · rw [if_neg (by rw [b1]; decide)]
      have := H.tl D ht 0 (spOf x.S t) (.inr (.inl ⟨e, b2, b3⟩)) (nod_calm (.inl (by show pcT x t ≤ 2; omega))) (fun _ h2 => hfr h2)
      rw [self_set htl] at this
      exact this
  · have hl : pcL P x t = 10 := by omega
    have hfr := hfree2 (by omega) (by rw [e]; unfold busy; omega)
    unfold inC
    rw [if_neg (by show ¬ pcT x t = 1; omega), if_pos e]
    by_cases hc : 0 < x.σ.get (P.cw (P.nd t))
    · have hc' : 0 < cnW P x (P.nd t) := hc
      rw [if_pos hc]
      refine H.tw D ht (by omega) 1 0 false _ x.g x.loc hog1 (fun _ _ => rfl) hol1 (fun _ _ => rfl) (fun _ _ _ => rfl) (.inr (.inr (.inl ⟨.inr (.inr (.inr (.inl rfl))), hl⟩))) ?_ (fun h => absurd (show busy 10 by unfold busy; omega) h) hcr
      have hg : pcG x (P.nd t) = 10 := by omega
      show nodP P 10 (cnW P x (P.nd t)) (cnW P x (P.nd t)) (pcG x (P.nd t))
      unfold nodP
      exact ⟨fun h => by omega, fun h => by omega, fun _ => ⟨hc', hg⟩, fun _ => rfl, fun h => by omega, fun h => by omega⟩
    · have hc' : ¬ 0 < cnW P x (P.nd t) := hc
      rw [if_neg hc]
      have hg0 : pcG x (P.nd t) = 0 := by omega
      have hask := ask_pc P.pg x.σ (sp := x.g) (i := (P.nd t : Int)) (by omega) (by omega) hg0
      have hact := H.og.act 1 (P.nd t)
      rw [hask.2] at hact
      refine H.tw D ht (by omega) 1 0 false _ _ x.loc hact (fun k hk => CI.oth_g (P := P) (x := x) (P.nd t) 1 x.σ hk) hol1 (fun _ _ => rfl) (fun _ _ _ => rfl) (.inr (.inr (.inl ⟨.inr (.inl rfl), hl⟩))) ?_ (fun h => absurd (show busy 3 by unfold busy; omega) h) hcr
      rw [hask.1]
      show nodP P 3 (cnW P x (P.nd t)) (cnW P x (P.nd t)) 1
      unfold nodP
      exact ⟨fun _ => by omega, fun h => by omega, fun h => by omega, fun _ => rfl, fun h => by omega, fun h => by omega⟩
  · have hl : pcL P x t = 10 := by omega
    obtain ⟨c0, g0, g1⟩ := hN.1 e
    have hst := (H.og.step_pc (P.nd t)).2.2.1 g0 g1
    unfold inC
    rw [if_neg (by show ¬ pcT x t = 1; omega), if_neg (by show ¬ pcT x t = 2; omega), if_pos e]
    rcases hst with ⟨b1, b2⟩ | ⟨b1, b2, b3⟩
    · rw [if_pos b1]
      refine H.tg D ht (by omega) 0 _ x.loc hol1 (fun _ _ => rfl) (fun _ _ _ => rfl) (.inr (.inr (.inl ⟨.inr (.inr (.inl rfl)), hl⟩))) ?_ (fun h => absurd (show busy 4 by unfold busy; omega) h)
      rw [b2]
      show nodP P 4 _ _ 10
      unfold nodP
      exact ⟨fun h => by omega, fun _ => ⟨c0, rfl⟩, fun h => by omega, fun h => by omega, fun h => by omega, fun h => by omega⟩
    · rw [if_neg (by rw [b1]; decide)]
      have := H.tg D ht (by omega) 0 (spOf x.S t) x.loc hol1 (fun _ _ => rfl) (fun _ _ _ => rfl) (H.rel t ht) (by
        have e3 : (spOf x.S t).pc = 3 := e
        unfold nodP
        exact ⟨fun _ => ⟨c0, b2, b3⟩, fun h => by omega, fun h => by omega, fun h => by omega, fun h => by omega, fun h => by omega⟩) (fun h => absurd (show busy (pcT x t) by rw [e]; unfold busy; omega) h)
      rw [self_set htl] at this
      exact this
  · have hl : pcL P x t = 10 := by omega
    obtain ⟨c0, g0⟩ := hN.2.1 e
    unfold inC
    rw [if_neg (by show ¬ pcT x t = 1; omega), if_neg (by show ¬ pcT x t = 2; omega), if_neg (by show ¬ pcT x t = 3; omega), if_pos e]
    refine H.tw D ht (by omega) 2 1 true _ x.g x.loc hog1 (fun _ _ => rfl) hol1 (fun _ _ => rfl) (fun _ _ _ => rfl) (.inr (.inr (.inl ⟨.inr (.inr (.inr (.inl rfl))), hl⟩))) ?_ (fun h => absurd (show busy 10 by unfold busy; omega) h) (by rw [if_pos rfl]; omega)
    show nodP P 10 1 (if true = true then 1 else _) (pcG x (P.nd t))
    rw [if_pos rfl, g0]
    unfold nodP
    exact ⟨fun h => by omega, fun h => by omega, fun _ => by omega, fun _ => rfl, fun h => by omega, fun h => by omega⟩
end
end Go.Proofs.YtfnmggmgdmokcaaGreatDoor.Co

/- A global lock of nodes, a local one of the threads of each: who goes out, asks, leaves: it stands: the plain law. -/
namespace Go.Proofs.YtfnmggmgdmokcaaGreatDoor.Co
open Go.RowKit Go.Proofs.YtfnmggmgdmokcaaGreatDoor.Ara Go.Proofs.YtfnmggmgdmokcaaGreatDoor.Lok Go.Proofs.YtfnmggmgdmokcaaGreatDoor.Fl

section
variable {P : Pm} {x : CS} {m : Nat} (D : Dj P) (H : CI P x m)
include D H
theorem CI.out_ {t : Nat} (ht : t < P.T) (hp : 10 < pcT x t) : CI P (outC P x t (spOf x.S t)) (m + 1) := by
  obtain ⟨hn, hsl⟩ := D.nd t ht
  have htl : t < x.S.length := by rw [H.len]; exact ht
  have hpc := H.rel t ht
  have hN := H.nod t ht
  have hB := D.B0
  have hcr := H.cr _ hn
  have hog1 : OkK P.pg x.σ x.g P.NN (m + 1) := H.og.al (Al.refl H.hl) (by have := H.ops; omega) (by omega)
  have hol1 : OkK (P.pl (P.nd t)) x.σ (x.loc (P.nd t)) (P.mt (P.nd t)) (m + 1) := (H.ol _ hn).al (Al.refl H.hl) (by have := H.ops; omega) (by omega)
  have hfree2 : ¬ busy (pcT x t) → (cnW P x (P.nd t) = 0 ∧ pcG x (P.nd t) = 0) ∨ (0 < cnW P x (P.nd t) ∧ pcG x (P.nd t) = 10) := fun h1 => H.free _ hn (fun u hu hnn => by
    by_cases eu : u = t
    · rw [eu]; exact h1
    · have := H.alone D ht (by omega) hu hnn eu
      unfold busy; omega)
  -- its slot begins tO leave its node's lock
  have hlv : pcL P x t = 10 → OkK (P.pl (P.nd t)) x.σ (upd x.loc (P.nd t) (doK (P.pl (P.nd t)) x.σ (x.loc (P.nd t)) 2 (P.sl t)).2.2 (P.nd t)) (P.mt (P.nd t)) (m + 1) ∧ (spOf (upd x.loc (P.nd t) (doK (P.pl (P.nd t)) x.σ (x.loc (P.nd t)) 2 (P.sl t)).2.2 (P.nd t)) (P.sl t)).pc = 11 := fun h => by
    have h1 := leave_pc (P.pl (P.nd t)) x.σ h
    have h2 := (H.ol _ hn).act 2 (P.sl t)
    rw [h1.2] at h2
    rw [upd_self]
    exact ⟨h2, h1.1⟩
  unfold relP at hpc
  unfold nodP at hN
  rcases (show pcT x t = 11 ∨ pcT x t = 12 ∨ pcT x t = 13 ∨ pcT x t = 14 ∨ pcT x t = 15 ∨ pcT x t = 16 by omega) with e | e | e | e | e | e
  · have hl : pcL P x t = 10 := by omega
    obtain ⟨c0, g0⟩ := hN.2.2.1 (by omega)
    unfold outC
    rw [if_pos e]
    refine H.tw D ht (by omega) 1 0 false _ x.g x.loc hog1 (fun _ _ => rfl) hol1 (fun _ _ => rfl) (fun _ _ _ => rfl) (.inr (.inr (.inl ⟨?_, hl⟩))) ?_ ?_ hcr
    · show (if _ then (14 : Int) else 12) = 2 ∨ _
      split <;> simp
    · show nodP P (if P.B < cnW P x (P.nd t) then 14 else 12) (cnW P x (P.nd t)) (cnW P x (P.nd t)) (pcG x (P.nd t))
      unfold nodP
      split
      · exact ⟨fun h => by omega, fun h => by omega, fun _ => ⟨c0, g0⟩, fun h => by omega, fun h => by omega, fun h => by omega⟩
      · exact ⟨fun h => by omega, fun h => by omega, fun _ => ⟨c0, g0⟩, fun h => by omega, fun h => ⟨rfl, by omega⟩, fun h => by omega⟩
    · intro h
      exact absurd (show busy (if P.B < x.σ.get (P.cw (P.nd t)) then 14 else 12) by unfold busy; split <;> simp) h
  · have hl : pcL P x t = 10 := by omega
    obtain ⟨c0, g0⟩ := hN.2.2.1 (by omega)
    obtain ⟨a0, cB⟩ := hN.2.2.2.2.1 (by omega)
    unfold outC
    rw [if_neg (by show ¬ pcT x t = 11; omega), if_pos e]
    have h1 := H.tl D ht 3 { spOf x.S t with pc := if passes (spOf x.S t).a P.B (doK (P.pl (P.nd t)) x.σ (x.loc (P.nd t)) 3 (P.sl t)).1 then 13 else 14 } (by
      rw [alone_sp]
      refine .inr (.inr (.inl ⟨?_, hl⟩))
      show (if _ then (13 : Int) else 14) = 2 ∨ _
      split <;> simp) (by
      show nodP P (if _ then 13 else 14) (spOf x.S t).a _ _
      unfold nodP
      split
      · exact ⟨fun h => by omega, fun h => by omega, fun _ => ⟨c0, g0⟩, fun h => by omega, fun _ => ⟨a0, cB⟩, fun h => by omega⟩
      · exact ⟨fun h => by omega, fun h => by omega, fun _ => ⟨c0, g0⟩, fun h => by omega, fun h => by omega, fun h => by omega⟩) (fun h _ => absurd (show busy (if _ then (13 : Int) else 14) by unfold busy; split <;> simp) h)
    rw [alone_sp] at h1
    have hu : upd x.loc (P.nd t) (x.loc (P.nd t)) = x.loc := by
      funext k
      unfold upd
      split
      · rename_i h; rw [h]
      · rfl
    rw [hu] at h1
    exact h1
  · have hl : pcL P x t = 10 := by omega
    obtain ⟨c0, g0⟩ := hN.2.2.1 (by omega)
    obtain ⟨a0, cB⟩ := hN.2.2.2.2.1 (by omega)
    obtain ⟨v1, v2⟩ := hlv hl
    unfold outC
    rw [if_neg (by show ¬ pcT x t = 11; omega), if_neg (by show ¬ pcT x t = 12; omega), if_pos e]
    refine H.tw D ht (by omega) 2 _ true _ x.g _ hog1 (fun _ _ => rfl) v1 (fun k hk => upd_other _ _ hk) (fun u hu hne => CI.oth_l (x := x) D ht 2 x.σ hu hne) (by rw [v2]; exact .inr (.inr (.inr ⟨rfl, by decide⟩))) (nod_calm (.inr rfl)) (fun _ => .inr ⟨by rw [if_pos rfl]; omega, g0⟩) (by rw [if_pos rfl]; omega)
  · have hl : pcL P x t = 10 := by omega
    obtain ⟨c0, g0⟩ := hN.2.2.1 (by omega)
    have hlg := leave_pc P.pg x.σ g0
    have hact := H.og.act 2 (P.nd t)
    rw [hlg.2] at hact
    unfold outC
    rw [if_neg (by show ¬ pcT x t = 11; omega), if_neg (by show ¬ pcT x t = 12; omega), if_neg (by show ¬ pcT x t = 13; omega), if_pos e]
    refine H.tw D ht (by omega) 2 0 true _ _ x.loc hact (fun k hk => CI.oth_g (P := P) (x := x) (P.nd t) 2 x.σ hk) hol1 (fun _ _ => rfl) (fun _ _ _ => rfl) (.inr (.inr (.inl ⟨by simp, hl⟩))) ?_ (fun h => absurd (show busy 15 by unfold busy; omega) h) (by rw [if_pos rfl]; omega)
    rw [hlg.1, if_pos rfl]
    show nodP P 15 _ 0 11
    unfold nodP
    exact ⟨fun h => by omega, fun h => by omega, fun h => by omega, fun h => by omega, fun h => by omega, fun _ => by omega⟩
  · have hl : pcL P x t = 10 := by omega
    obtain ⟨c0, g0⟩ := hN.2.2.2.2.2 e
    have hst := (H.og.step_pc (P.nd t)).2.2.2 g0
    obtain ⟨v1, v2⟩ := hlv hl
    unfold outC
    rw [if_neg (by show ¬ pcT x t = 11; omega), if_neg (by show ¬ pcT x t = 12; omega), if_neg (by show ¬ pcT x t = 13; omega), if_neg (by show ¬ pcT x t = 14; omega), if_pos e]
    rcases hst with ⟨b1, b2⟩ | ⟨b1, b2⟩
    · rw [if_pos b1]
      exact H.tg D ht (by omega) 0 _ _ v1 (fun k hk => upd_other _ _ hk) (fun u hu hne => CI.oth_l (x := x) D ht 2 x.σ hu hne) (by rw [v2]; exact .inr (.inr (.inr ⟨rfl, by decide⟩))) (nod_calm (.inr rfl)) (fun _ => .inl ⟨c0, b2⟩)
    · rw [if_neg (by rw [b1]; decide)]
      have := H.tg D ht (by omega) 0 (spOf x.S t) x.loc hol1 (fun _ _ => rfl) (fun _ _ _ => rfl) (H.rel t ht) (by
        have e3 : (spOf x.S t).pc = 15 := e
        unfold nodP
        exact ⟨fun h => by omega, fun h => by omega, fun h => by omega, fun h => by omega, fun h => by omega, fun _ => ⟨c0, b2⟩⟩) (fun h => absurd (show busy (pcT x t) by rw [e]; unfold busy; omega) h)
      rw [self_set htl] at this
      exact this
  · have hl : 10 < pcL P x t := by omega
    have hfr := hfree2 (by rw [e]; unfold busy; omega)
    have hst := ((H.ol _ hn).step_pc (P.sl t)).2.2.2 hl
    unfold outC
    rw [if_neg (by show ¬ pcT x t = 11; omega), if_neg (by show ¬ pcT x t = 12; omega), if_neg (by show ¬ pcT x t = 13; omega), if_neg (by show ¬ pcT x t = 14; omega), if_neg (by show ¬ pcT x t = 15; omega), if_pos e]
    rcases hst with ⟨b1, b2⟩ | ⟨b1, b2⟩
    · rw [if_pos b1]
      exact H.tl D ht 0 _ (by rw [b2]; exact .inl ⟨rfl, rfl⟩) (nod_calm (.inl (by show (0 : Int) ≤ 2; decide))) (fun _ _ => hfr)
    · rw [if_neg (by rw [b1]; decide)]
      have := H.tl D ht 0 (spOf x.S t) (.inr (.inr (.inr ⟨e, b2⟩))) (nod_calm (.inr e)) (fun _ _ => hfr)
      rw [self_set htl] at this
      exact this
end
end Go.Proofs.YtfnmggmgdmokcaaGreatDoor.Co

/- A global lock of nodes, a local one of the threads of each: whatever is done, it stands; and no two hold: the plain law. -/
namespace Go.Proofs.YtfnmggmgdmokcaaGreatDoor.Co
open Go.RowKit Go.Proofs.YtfnmggmgdmokcaaGreatDoor.Ara Go.Proofs.YtfnmggmgdmokcaaGreatDoor.Lok Go.Proofs.YtfnmggmgdmokcaaGreatDoor.Fl

section
variable {P : Pm} {x : CS} {m : Nat} (D : Dj P) (H : CI P x m)
include H
theorem CI.rngT {t : Int} (h : (spOf x.S t).pc ≠ 0) : ∃ k : Nat, t = k ∧ k < P.T := by
  have h1 := spOf_range (sp := x.S) (i := t) h
  obtain ⟨k, rfl⟩ := Int.eq_ofNat_of_zero_le h1.1
  exact ⟨k, rfl, by have := H.len; omega⟩
theorem CI.posT (t : Int) : 0 ≤ (spOf x.S t).pc := by
  by_cases h : (spOf x.S t).pc = 0
  · omega
  · obtain ⟨k, rfl, hk⟩ := H.rngT h
    have := H.rel k hk
    unfold relP at this
    unfold pcT at this
    omega
include D
theorem CI.step (t : Int) : CI P (stepC P x t) (m + 1) := by
  unfold stepC
  by_cases h : (spOf x.S t).pc = 0 ∨ (spOf x.S t).pc = 10
  · rw [if_pos h]; exact H.more
  · rw [if_neg h]
    obtain ⟨k, rfl, hk⟩ := H.rngT (t := t) (by omega)
    have hp := H.posT (k : Int)
    rw [Int.toNat_natCast]
    by_cases h2 : (spOf x.S (k : Int)).pc < 10
    · rw [if_pos h2]; exact H.in_ D hk ⟨by show 0 < (spOf x.S (k : Int)).pc; omega, h2⟩
    · rw [if_neg h2]; exact H.out_ D hk (by show 10 < (spOf x.S (k : Int)).pc; omega)
theorem CI.ask (t : Int) : CI P (askC P x t) (m + 1) := by
  unfold askC
  cases hb : turnB x.S t 0 with
  | false => rw [if_neg (by decide)]; exact H.more
  | true =>
    rw [if_pos rfl]
    obtain ⟨⟨t0, t1⟩, hz⟩ := turn_true hb
    obtain ⟨k, rfl⟩ := Int.eq_ofNat_of_zero_le t0
    have hk : k < P.T := by have := H.len; omega
    rw [Int.toNat_natCast]
    obtain ⟨hn, hsl⟩ := D.nd k hk
    have hr := H.rel k hk
    have e : pcT x k = 0 := hz
    unfold relP at hr
    have hl : pcL P x k = 0 := by omega
    have hlen := (H.ol _ hn).len
    have ha := ask_pc (P.pl (P.nd k)) x.σ (sp := x.loc (P.nd k)) (i := (P.sl k : Int)) (by omega) (by omega) hl
    have := H.tl D hk 1 { spOf x.S (k : Int) with pc := 1 } (by rw [ha.1]; exact .inr (.inl ⟨rfl, by decide, by decide⟩)) (nod_calm (.inl (by show (1 : Int) ≤ 2; decide))) (fun _ h2 => H.free _ hn (fun u hu hnn => by
      by_cases eu : u = k
      · rw [eu, e]; unfold busy; omega
      · exact h2 u hu eu hnn))
    rw [ha.2] at this
    have hS : turnS x.S (k : Int) 0 1 = x.S.set k { spOf x.S (k : Int) with pc := 1 } := by
      unfold turnS
      rw [if_pos hb, Int.toNat_natCast]
    rw [hS]
    exact this
theorem CI.leave (t : Int) : CI P (leaveC x t) (m + 1) := by
  unfold leaveC
  cases hb : turnB x.S t 10 with
  | false => rw [turn_no _ hb]; exact H.more
  | true =>
    obtain ⟨⟨t0, t1⟩, hz⟩ := turn_true hb
    obtain ⟨k, rfl⟩ := Int.eq_ofNat_of_zero_le t0
    have hk : k < P.T := by have := H.len; omega
    obtain ⟨hn, hsl⟩ := D.nd k hk
    have hr := H.rel k hk
    have hN := H.nod k hk
    have e : pcT x k = 10 := hz
    unfold relP at hr
    unfold nodP at hN
    have hl : pcL P x k = 10 := by omega
    obtain ⟨c0, g0⟩ := hN.2.2.1 (.inl e)
    have hS : turnS x.S (k : Int) 10 11 = x.S.set k { spOf x.S (k : Int) with pc := 11 } := by
      unfold turnS
      rw [if_pos hb, Int.toNat_natCast]
    rw [hS]
    have hu : upd x.loc (P.nd k) (x.loc (P.nd k)) = x.loc := by
      funext j
      unfold upd
      split
      · rename_i h; rw [h]
      · rfl
    have h7 : doK (P.pl (P.nd k)) x.σ (x.loc (P.nd k)) 7 (P.sl k) = (false, x.σ, x.loc (P.nd k)) := do_else _ _ _ _ _ (.inr (by omega))
    have := H.tl D hk 7 { spOf x.S (k : Int) with pc := 11 } (by rw [h7]; exact .inr (.inr (.inl ⟨by simp, hl⟩))) (by
      show nodP P 11 _ _ _
      unfold nodP
      exact ⟨fun h => by omega, fun h => by omega, fun _ => ⟨c0, g0⟩, fun h => by omega, fun h => by omega, fun h => by omega⟩) (fun h _ => absurd (show busy 11 by unfold busy; omega) h)
    rw [h7] at this
    simp only [hu] at this
    exact this
theorem CI.one {t u : Nat} (ht : t < P.T) (hu : u < P.T) (h1 : pcT x t = 10) (h2 : pcT x u = 10) : t = u := by
  have n1 := (H.nod t ht).2.2.1 (.inl h1)
  have n2 := (H.nod u hu).2.2.1 (.inl h2)
  have hg := H.og.sole (i := P.nd t) (j := P.nd u) (by have := n1.2; unfold pcG at this; omega) (by have := n2.2; unfold pcG at this; omega)
  by_cases e : t = u
  · exact e
  · have := H.alone D hu (by omega) ht (by omega) e
    omega
end
end Go.Proofs.YtfnmggmgdmokcaaGreatDoor.Co

/- A global lock of nodes, a local one of the threads of each: the ways of a step: the plain law. -/
namespace Go.Proofs.YtfnmggmgdmokcaaGreatDoor.Co
open Go.RowKit Go.Proofs.YtfnmggmgdmokcaaGreatDoor.Ara Go.Proofs.YtfnmggmgdmokcaaGreatDoor.Lok Go.Proofs.YtfnmggmgdmokcaaGreatDoor.Fl

inductive Mv (P : Pm) (x x' : CS) (t : Nat) : Prop where
  | rest (h : x' = x) (hp : pcT x t = 0 ∨ pcT x t = 10)
  | loc1 (h : pcT x t = 1) (h' : pcT x' t = 1) (hl : 0 < pcL P x' t ∧ pcL P x' t < 10) (hc : cnW P x' (P.nd t) = cnW P x (P.nd t)) (hg : pcG x' (P.nd t) = pcG x (P.nd t))
  | got1 (h : pcT x t = 1) (h' : pcT x' t = 2) (hl : pcL P x' t = 10) (hc : cnW P x' (P.nd t) = cnW P x (P.nd t)) (hg : pcG x' (P.nd t) = pcG x (P.nd t))
  | ent2 (h : pcT x t = 2) (h' : pcT x' t = 10) (hl : pcL P x' t = 10) (ha : (spOf x'.S t).a = cnW P x (P.nd t)) (h0 : 0 < cnW P x (P.nd t)) (hc : cnW P x' (P.nd t) = cnW P x (P.nd t)) (g0 : pcG x (P.nd t) = 10) (hg : pcG x' (P.nd t) = 10)
  | ask2 (h : pcT x t = 2) (h' : pcT x' t = 3) (hl : pcL P x' t = 10) (h0 : cnW P x (P.nd t) = 0) (hc : cnW P x' (P.nd t) = 0) (g0 : pcG x (P.nd t) = 0) (hg : pcG x' (P.nd t) = 1)
  | glo3 (h : pcT x t = 3) (h' : pcT x' t = 3) (hl : pcL P x' t = 10) (h0 : cnW P x (P.nd t) = 0) (hc : cnW P x' (P.nd t) = 0) (g0 : 0 < pcG x (P.nd t) ∧ pcG x (P.nd t) < 10) (hg : 0 < pcG x' (P.nd t) ∧ pcG x' (P.nd t) < 10)
  | got3 (h : pcT x t = 3) (h' : pcT x' t = 4) (hl : pcL P x' t = 10) (h0 : cnW P x (P.nd t) = 0) (hc : cnW P x' (P.nd t) = 0) (g0 : 0 < pcG x (P.nd t) ∧ pcG x (P.nd t) < 10) (hg : pcG x' (P.nd t) = 10)
  | ent4 (h : pcT x t = 4) (h' : pcT x' t = 10) (hl : pcL P x' t = 10) (ha : (spOf x'.S t).a = 1) (h0 : cnW P x (P.nd t) = 0) (hc : cnW P x' (P.nd t) = 1) (g0 : pcG x (P.nd t) = 10) (hg : pcG x' (P.nd t) = 10)
  | ld11 (h : pcT x t = 11) (h' : pcT x' t = 12 ∨ pcT x' t = 14) (hl : pcL P x' t = 10) (hc : cnW P x' (P.nd t) = cnW P x (P.nd t)) (g0 : pcG x (P.nd t) = 10) (hg : pcG x' (P.nd t) = 10)
  | al12 (h : pcT x t = 12) (h' : pcT x' t = 13 ∨ pcT x' t = 14) (hl : pcL P x' t = 10) (hc : cnW P x' (P.nd t) = cnW P x (P.nd t)) (g0 : pcG x (P.nd t) = 10) (hg : pcG x' (P.nd t) = 10)
  | st13 (h : pcT x t = 13) (h' : pcT x' t = 16) (hl : pcL P x' t = 11) (hc : cnW P x' (P.nd t) = cnW P x (P.nd t) + 1) (hB : cnW P x (P.nd t) ≤ P.B) (g0 : pcG x (P.nd t) = 10) (hg : pcG x' (P.nd t) = 10)
  | st14 (h : pcT x t = 14) (h' : pcT x' t = 15) (hl : pcL P x' t = 10) (hc : cnW P x' (P.nd t) = 0) (g0 : pcG x (P.nd t) = 10) (hg : pcG x' (P.nd t) = 11)
  | glo15 (h : pcT x t = 15) (h' : pcT x' t = 15) (hl : pcL P x' t = 10) (h0 : cnW P x (P.nd t) = 0) (hc : cnW P x' (P.nd t) = 0) (g0 : 10 < pcG x (P.nd t)) (hg : 10 < pcG x' (P.nd t))
  | got15 (h : pcT x t = 15) (h' : pcT x' t = 16) (hl : pcL P x' t = 11) (h0 : cnW P x (P.nd t) = 0) (hc : cnW P x' (P.nd t) = 0) (g0 : 10 < pcG x (P.nd t)) (hg : pcG x' (P.nd t) = 0)
  | loc16 (h : pcT x t = 16) (h' : pcT x' t = 16) (hl : 10 < pcL P x' t) (hc : cnW P x' (P.nd t) = cnW P x (P.nd t)) (hg : pcG x' (P.nd t) = pcG x (P.nd t))
  | got16 (h : pcT x t = 16) (h' : pcT x' t = 0) (hl : pcL P x' t = 0) (hc : cnW P x' (P.nd t) = cnW P x (P.nd t)) (hg : pcG x' (P.nd t) = pcG x (P.nd t))
structure Oth (P : Pm) (x x' : CS) (t : Nat) : Prop where
  S : ∀ u : Nat, u ≠ t → spOf x'.S u = spOf x.S u
  l : ∀ u, u < P.T → u ≠ t → pcL P x' u = pcL P x u
  c : ∀ k, k < P.NN → k ≠ P.nd t → cnW P x' k = cnW P x k
  g : ∀ k, k ≠ P.nd t → pcG x' k = pcG x k
section
variable {P : Pm} {x : CS} {m : Nat} (D : Dj P) (H : CI P x m)
include D H
theorem CI.oth {t : Nat} (ht : t < P.T) : Oth P x (stepC P x t) t := by
  obtain ⟨hn, hsl⟩ := D.nd t ht
  have htl : t < x.S.length := by rw [H.len]; exact ht
  obtain ⟨l1, l2, l3, l4, l5⟩ := H.loc_al D ht 0
  obtain ⟨k1, k2, k3, k4, k5⟩ := H.loc_al D ht 3
  obtain ⟨q1, q2, q3, q4⟩ := H.glo_al D (P.nd t) 0
  have w1 := fun kd v wr => (H.op_al D hn kd v wr).2.2.1
  have s1 : ∀ (s' : Sp) (u : Nat), u ≠ t → spOf (x.S.set t s') (u : Int) = spOf x.S u := fun s' u hu => set_u htl s' hu
  have s2 : ∀ (b : Bool) (s' : Sp) (u : Nat), u ≠ t → spOf (if b then x.S.set t s' else x.S) (u : Int) = spOf x.S u := fun b s' u hu => by
    split
    · exact s1 s' u hu
    · rfl
  have o1 := fun kd u (hu : u < P.T) (hne : u ≠ t) => CI.oth_l (x := x) D ht kd x.σ hu hne
  have o2 := fun kd k (hk : k ≠ P.nd t) => CI.oth_g (P := P) (x := x) (P.nd t) kd x.σ hk
  have hp := H.rel t ht
  unfold relP at hp
  unfold stepC
  rcases (show pcT x t = 0 ∨ pcT x t = 10 ∨ pcT x t = 1 ∨ pcT x t = 2 ∨ pcT x t = 3 ∨ pcT x t = 4 ∨ pcT x t = 11 ∨ pcT x t = 12 ∨ pcT x t = 13 ∨ pcT x t = 14 ∨ pcT x t = 15 ∨ pcT x t = 16 by omega) with e | e | e | e | e | e | e | e | e | e | e | e
  · rw [if_pos (.inl e)]; exact ⟨fun _ _ => rfl, fun _ _ _ => rfl, fun _ _ _ => rfl, fun _ _ => rfl⟩
  · rw [if_pos (.inr e)]; exact ⟨fun _ _ => rfl, fun _ _ _ => rfl, fun _ _ _ => rfl, fun _ _ => rfl⟩
  · rw [if_neg (by show ¬ (pcT x t = 0 ∨ pcT x t = 10); omega), Int.toNat_natCast, if_pos (by show pcT x t < 10; omega)]; unfold inC
    rw [if_pos e]
    exact ⟨s2 _ _, o1 0, fun k hk _ => l3 k hk, fun _ _ => rfl⟩
  · rw [if_neg (by show ¬ (pcT x t = 0 ∨ pcT x t = 10); omega), Int.toNat_natCast, if_pos (by show pcT x t < 10; omega)]; unfold inC
    rw [if_neg (by show ¬ pcT x t = 1; omega), if_pos e]
    split
    · exact ⟨s1 _, fun _ _ _ => rfl, w1 1 0 false, fun _ _ => rfl⟩
    · exact ⟨s1 _, fun _ _ _ => rfl, w1 1 0 false, o2 1⟩
  · rw [if_neg (by show ¬ (pcT x t = 0 ∨ pcT x t = 10); omega), Int.toNat_natCast, if_pos (by show pcT x t < 10; omega)]; unfold inC
    rw [if_neg (by show ¬ pcT x t = 1; omega), if_neg (by show ¬ pcT x t = 2; omega), if_pos e]
    exact ⟨s2 _ _, fun _ _ _ => rfl, fun k hk _ => q2 k hk, o2 0⟩
  · rw [if_neg (by show ¬ (pcT x t = 0 ∨ pcT x t = 10); omega), Int.toNat_natCast, if_pos (by show pcT x t < 10; omega)]; unfold inC
    rw [if_neg (by show ¬ pcT x t = 1; omega), if_neg (by show ¬ pcT x t = 2; omega), if_neg (by show ¬ pcT x t = 3; omega), if_pos e]
    exact ⟨s1 _, fun _ _ _ => rfl, w1 2 1 true, fun _ _ => rfl⟩
  · rw [if_neg (by show ¬ (pcT x t = 0 ∨ pcT x t = 10); omega), Int.toNat_natCast, if_neg (by show ¬ pcT x t < 10; omega)]; unfold outC
    rw [if_pos e]
    exact ⟨s1 _, fun _ _ _ => rfl, w1 1 0 false, fun _ _ => rfl⟩
  · rw [if_neg (by show ¬ (pcT x t = 0 ∨ pcT x t = 10); omega), Int.toNat_natCast, if_neg (by show ¬ pcT x t < 10; omega)]; unfold outC
    rw [if_neg (by show ¬ pcT x t = 11; omega), if_pos e]
    exact ⟨s1 _, fun _ _ _ => rfl, fun k hk _ => k3 k hk, fun _ _ => rfl⟩
  · rw [if_neg (by show ¬ (pcT x t = 0 ∨ pcT x t = 10); omega), Int.toNat_natCast, if_neg (by show ¬ pcT x t < 10; omega)]; unfold outC
    rw [if_neg (by show ¬ pcT x t = 11; omega), if_neg (by show ¬ pcT x t = 12; omega), if_pos e]
    exact ⟨s1 _, o1 2, w1 2 _ true, fun _ _ => rfl⟩
  · rw [if_neg (by show ¬ (pcT x t = 0 ∨ pcT x t = 10); omega), Int.toNat_natCast, if_neg (by show ¬ pcT x t < 10; omega)]; unfold outC
    rw [if_neg (by show ¬ pcT x t = 11; omega), if_neg (by show ¬ pcT x t = 12; omega), if_neg (by show ¬ pcT x t = 13; omega), if_pos e]
    exact ⟨s1 _, fun _ _ _ => rfl, w1 2 0 true, o2 2⟩
  · rw [if_neg (by show ¬ (pcT x t = 0 ∨ pcT x t = 10); omega), Int.toNat_natCast, if_neg (by show ¬ pcT x t < 10; omega)]; unfold outC
    rw [if_neg (by show ¬ pcT x t = 11; omega), if_neg (by show ¬ pcT x t = 12; omega), if_neg (by show ¬ pcT x t = 13; omega), if_neg (by show ¬ pcT x t = 14; omega), if_pos e]
    split
    · exact ⟨s1 _, o1 2, fun k hk _ => q2 k hk, o2 0⟩
    · exact ⟨fun _ _ => rfl, fun _ _ _ => rfl, fun k hk _ => q2 k hk, o2 0⟩
  · rw [if_neg (by show ¬ (pcT x t = 0 ∨ pcT x t = 10); omega), Int.toNat_natCast, if_neg (by show ¬ pcT x t < 10; omega)]; unfold outC
    rw [if_neg (by show ¬ pcT x t = 11; omega), if_neg (by show ¬ pcT x t = 12; omega), if_neg (by show ¬ pcT x t = 13; omega), if_neg (by show ¬ pcT x t = 14; omega), if_neg (by show ¬ pcT x t = 15; omega), if_pos e]
    exact ⟨s2 _ _, o1 0, fun k hk _ => l3 k hk, fun _ _ => rfl⟩
end
end Go.Proofs.YtfnmggmgdmokcaaGreatDoor.Co

/- A global lock of nodes, a local one of the threads of each: each step goes one of the ways: the plain law. -/
namespace Go.Proofs.YtfnmggmgdmokcaaGreatDoor.Co
open Go.RowKit Go.Proofs.YtfnmggmgdmokcaaGreatDoor.Ara Go.Proofs.YtfnmggmgdmokcaaGreatDoor.Lok Go.Proofs.YtfnmggmgdmokcaaGreatDoor.Fl

section
variable {P : Pm} {x : CS} {m : Nat} (D : Dj P) (H : CI P x m)
include D H
theorem CI.mv {t : Nat} (ht : t < P.T) : Mv P x (stepC P x t) t := by
  obtain ⟨hn, hsl⟩ := D.nd t ht
  have htl : t < x.S.length := by rw [H.len]; exact ht
  have hgl : x.g.length = P.NN := H.og.len
  have hp := H.rel t ht
  have hN := H.nod t ht
  have hcr := H.cr _ hn
  obtain ⟨l1, l2, l3, l4, l5⟩ := H.loc_al D ht 0
  obtain ⟨k1, k2, k3, k4, k5⟩ := H.loc_al D ht 3
  obtain ⟨q1, q2, q3, q4⟩ := H.glo_al D (P.nd t) 0
  have w4 := fun kd v wr => (H.op_al D hn kd v wr).2.2.2
  have hfree2 : (2 : Int) ≤ pcT x t → ¬ busy (pcT x t) → (cnW P x (P.nd t) = 0 ∧ pcG x (P.nd t) = 0) ∨ (0 < cnW P x (P.nd t) ∧ pcG x (P.nd t) = 10) := fun h2 h1 => H.free _ hn (fun u hu hnn => by
    by_cases eu : u = t
    · rw [eu]; exact h1
    · have := H.alone D ht h2 hu hnn eu
      unfold busy; omega)
  unfold relP at hp
  unfold nodP at hN
  unfold stepC
  rcases (show pcT x t = 0 ∨ pcT x t = 10 ∨ pcT x t = 1 ∨ pcT x t = 2 ∨ pcT x t = 3 ∨ pcT x t = 4 ∨ pcT x t = 11 ∨ pcT x t = 12 ∨ pcT x t = 13 ∨ pcT x t = 14 ∨ pcT x t = 15 ∨ pcT x t = 16 by omega) with e | e | e | e | e | e | e | e | e | e | e | e
  · rw [if_pos (.inl e)]; exact .rest rfl (.inl e)
  · rw [if_pos (.inr e)]; exact .rest rfl (.inr e)
  · rw [if_neg (by show ¬ (pcT x t = 0 ∨ pcT x t = 10); omega), Int.toNat_natCast, if_pos (by show pcT x t < 10; omega)]; unfold inC
    rw [if_pos e]
    have hl : 0 < pcL P x t ∧ pcL P x t < 10 := by omega
    rcases ((H.ol _ hn).step_pc (P.sl t)).2.2.1 hl.1 hl.2 with ⟨b1, b2⟩ | ⟨b1, b2, b3⟩
    · rw [if_pos b1]
      exact .got1 e (by show (spOf (x.S.set t _) (t : Int)).pc = _; rw [set_t htl]) (by show (spOf (upd x.loc (P.nd t) _ (P.nd t)) (P.sl t)).pc = 10; rw [upd_self]; exact b2) (l3 _ hn) rfl
    · rw [if_neg (by rw [b1]; decide)]
      exact .loc1 e e (by show 0 < (spOf (upd x.loc (P.nd t) _ (P.nd t)) (P.sl t)).pc ∧ (spOf (upd x.loc (P.nd t) _ (P.nd t)) (P.sl t)).pc < 10; rw [upd_self]; exact ⟨b2, b3⟩) (l3 _ hn) rfl
  · rw [if_neg (by show ¬ (pcT x t = 0 ∨ pcT x t = 10); omega), Int.toNat_natCast, if_pos (by show pcT x t < 10; omega)]; unfold inC
    rw [if_neg (by show ¬ pcT x t = 1; omega), if_pos e]
    have hl : pcL P x t = 10 := by omega
    have hfr := hfree2 (by omega) (by rw [e]; unfold busy; omega)
    by_cases hc : 0 < x.σ.get (P.cw (P.nd t))
    · have hc' : 0 < cnW P x (P.nd t) := hc
      rw [if_pos hc]
      exact .ent2 e (by show (spOf (x.S.set t _) (t : Int)).pc = _; rw [set_t htl]) hl (by show (spOf (x.S.set t _) (t : Int)).a = _; rw [set_t htl]) hc' (w4 1 0 false) (by omega) (by show pcG x (P.nd t) = 10; omega)
    · have hc' : ¬ 0 < cnW P x (P.nd t) := hc
      rw [if_neg hc]
      have hg0 : pcG x (P.nd t) = 0 := by omega
      have hask := ask_pc P.pg x.σ (sp := x.g) (i := (P.nd t : Int)) (by omega) (by omega) hg0
      exact .ask2 e (by show (spOf (x.S.set t _) (t : Int)).pc = _; rw [set_t htl]) hl (by omega) ((w4 1 0 false).trans (by show cnW P x (P.nd t) = 0; omega)) hg0 hask.1
  · rw [if_neg (by show ¬ (pcT x t = 0 ∨ pcT x t = 10); omega), Int.toNat_natCast, if_pos (by show pcT x t < 10; omega)]; unfold inC
    rw [if_neg (by show ¬ pcT x t = 1; omega), if_neg (by show ¬ pcT x t = 2; omega), if_pos e]
    have hl : pcL P x t = 10 := by omega
    obtain ⟨c0, g0, g1⟩ := hN.1 e
    rcases (H.og.step_pc (P.nd t)).2.2.1 g0 g1 with ⟨b1, b2⟩ | ⟨b1, b2, b3⟩
    · rw [if_pos b1]
      exact .got3 e (by show (spOf (x.S.set t _) (t : Int)).pc = _; rw [set_t htl]) hl c0 ((q2 _ hn).trans c0) ⟨g0, g1⟩ b2
    · rw [if_neg (by rw [b1]; decide)]
      exact .glo3 e e hl c0 ((q2 _ hn).trans c0) ⟨g0, g1⟩ ⟨b2, b3⟩
  · rw [if_neg (by show ¬ (pcT x t = 0 ∨ pcT x t = 10); omega), Int.toNat_natCast, if_pos (by show pcT x t < 10; omega)]; unfold inC
    rw [if_neg (by show ¬ pcT x t = 1; omega), if_neg (by show ¬ pcT x t = 2; omega), if_neg (by show ¬ pcT x t = 3; omega), if_pos e]
    have hl : pcL P x t = 10 := by omega
    obtain ⟨c0, g0⟩ := hN.2.1 e
    exact .ent4 e (by show (spOf (x.S.set t _) (t : Int)).pc = _; rw [set_t htl]) hl (by show (spOf (x.S.set t _) (t : Int)).a = _; rw [set_t htl]) c0 (w4 2 1 true) g0 g0
  · rw [if_neg (by show ¬ (pcT x t = 0 ∨ pcT x t = 10); omega), Int.toNat_natCast, if_neg (by show ¬ pcT x t < 10; omega)]; unfold outC
    rw [if_pos e]
    have hl : pcL P x t = 10 := by omega
    obtain ⟨c0, g0⟩ := hN.2.2.1 (by omega)
    refine .ld11 e ?_ hl (w4 1 0 false) g0 g0
    show (spOf (x.S.set t _) (t : Int)).pc = 12 ∨ (spOf (x.S.set t _) (t : Int)).pc = 14
    rw [set_t htl]
    show (if _ then (14 : Int) else 12) = 12 ∨ (if _ then (14 : Int) else 12) = 14
    split <;> simp
  · rw [if_neg (by show ¬ (pcT x t = 0 ∨ pcT x t = 10); omega), Int.toNat_natCast, if_neg (by show ¬ pcT x t < 10; omega)]; unfold outC
    rw [if_neg (by show ¬ pcT x t = 11; omega), if_pos e]
    have hl : pcL P x t = 10 := by omega
    obtain ⟨c0, g0⟩ := hN.2.2.1 (by omega)
    refine .al12 e ?_ hl (k3 _ hn) g0 g0
    show (spOf (x.S.set t _) (t : Int)).pc = 13 ∨ (spOf (x.S.set t _) (t : Int)).pc = 14
    rw [set_t htl]
    show (if _ then (13 : Int) else 14) = 13 ∨ (if _ then (13 : Int) else 14) = 14
    split <;> simp
  · rw [if_neg (by show ¬ (pcT x t = 0 ∨ pcT x t = 10); omega), Int.toNat_natCast, if_neg (by show ¬ pcT x t < 10; omega)]; unfold outC
    rw [if_neg (by show ¬ pcT x t = 11; omega), if_neg (by show ¬ pcT x t = 12; omega), if_pos e]
    have hl : pcL P x t = 10 := by omega
    obtain ⟨c0, g0⟩ := hN.2.2.1 (by omega)
    obtain ⟨a0, cB⟩ := hN.2.2.2.2.1 (by omega)
    exact .st13 e (by show (spOf (x.S.set t _) (t : Int)).pc = _; rw [set_t htl]) (by show (spOf (upd x.loc (P.nd t) _ (P.nd t)) (P.sl t)).pc = 11; rw [upd_self]; exact (leave_pc (P.pl (P.nd t)) x.σ hl).1) ((w4 2 _ true).trans (by rw [if_pos rfl, a0])) cB g0 g0
  · rw [if_neg (by show ¬ (pcT x t = 0 ∨ pcT x t = 10); omega), Int.toNat_natCast, if_neg (by show ¬ pcT x t < 10; omega)]; unfold outC
    rw [if_neg (by show ¬ pcT x t = 11; omega), if_neg (by show ¬ pcT x t = 12; omega), if_neg (by show ¬ pcT x t = 13; omega), if_pos e]
    have hl : pcL P x t = 10 := by omega
    obtain ⟨c0, g0⟩ := hN.2.2.1 (by omega)
    exact .st14 e (by show (spOf (x.S.set t _) (t : Int)).pc = _; rw [set_t htl]) hl (w4 2 0 true) g0 (leave_pc P.pg x.σ g0).1
  · rw [if_neg (by show ¬ (pcT x t = 0 ∨ pcT x t = 10); omega), Int.toNat_natCast, if_neg (by show ¬ pcT x t < 10; omega)]; unfold outC
    rw [if_neg (by show ¬ pcT x t = 11; omega), if_neg (by show ¬ pcT x t = 12; omega), if_neg (by show ¬ pcT x t = 13; omega), if_neg (by show ¬ pcT x t = 14; omega), if_pos e]
    have hl : pcL P x t = 10 := by omega
    obtain ⟨c0, g0⟩ := hN.2.2.2.2.2 e
    rcases (H.og.step_pc (P.nd t)).2.2.2 g0 with ⟨b1, b2⟩ | ⟨b1, b2⟩
    · rw [if_pos b1]
      exact .got15 e (by show (spOf (x.S.set t _) (t : Int)).pc = _; rw [set_t htl]) (by show (spOf (upd x.loc (P.nd t) _ (P.nd t)) (P.sl t)).pc = 11; rw [upd_self]; exact (leave_pc (P.pl (P.nd t)) x.σ hl).1) c0 ((q2 _ hn).trans c0) g0 b2
    · rw [if_neg (by rw [b1]; decide)]
      exact .glo15 e e hl c0 ((q2 _ hn).trans c0) g0 b2
  · rw [if_neg (by show ¬ (pcT x t = 0 ∨ pcT x t = 10); omega), Int.toNat_natCast, if_neg (by show ¬ pcT x t < 10; omega)]; unfold outC
    rw [if_neg (by show ¬ pcT x t = 11; omega), if_neg (by show ¬ pcT x t = 12; omega), if_neg (by show ¬ pcT x t = 13; omega), if_neg (by show ¬ pcT x t = 14; omega), if_neg (by show ¬ pcT x t = 15; omega), if_pos e]
    have hl : 10 < pcL P x t := by omega
    rcases ((H.ol _ hn).step_pc (P.sl t)).2.2.2 hl with ⟨b1, b2⟩ | ⟨b1, b2⟩
    · rw [if_pos b1]
      exact .got16 e (by show (spOf (x.S.set t _) (t : Int)).pc = _; rw [set_t htl]) (by show (spOf (upd x.loc (P.nd t) _ (P.nd t)) (P.sl t)).pc = 0; rw [upd_self]; exact b2) (l3 _ hn) rfl
    · rw [if_neg (by rw [b1]; decide)]
      exact .loc16 e e (by show 10 < (spOf (upd x.loc (P.nd t) _ (P.nd t)) (P.sl t)).pc; rw [upd_self]; exact b2) (l3 _ hn) rfl
end
end Go.Proofs.YtfnmggmgdmokcaaGreatDoor.Co

/- A global lock of nodes, a local one of the threads of each: the ways of an act; who enters, and the count of its tenure: the plain law. -/
namespace Go.Proofs.YtfnmggmgdmokcaaGreatDoor.Co
open Go.RowKit Go.Proofs.YtfnmggmgdmokcaaGreatDoor.Ara Go.Proofs.YtfnmggmgdmokcaaGreatDoor.Lok Go.Proofs.YtfnmggmgdmokcaaGreatDoor.Fl

def doC (P : Pm) (x : CS) (kd i : Int) : CS := if kd = 0 then stepC P x i else if kd = 1 then askC P x i else if kd = 2 then leaveC x i else x
inductive Aw (P : Pm) (x x' : CS) (i : Int) : Prop where
  | same (h : x' = x)
  | step (t : Nat) (ht : t < P.T) (e : i = t) (hx : x' = stepC P x t) (hm : Mv P x x' t) (ho : Oth P x x' t)
  | ask (t : Nat) (ht : t < P.T) (e : i = t) (h0 : pcT x t = 0) (h1 : pcT x' t = 1) (hσ : x'.σ = x.σ) (hg : x'.g = x.g) (hl : x'.loc = upd x.loc (P.nd t) (doK (P.pl (P.nd t)) x.σ (x.loc (P.nd t)) 1 (P.sl t)).2.2) (hl1 : pcL P x' t = 1) (ho : Oth P x x' t)
  | leave (t : Nat) (ht : t < P.T) (e : i = t) (h0 : pcT x t = 10) (h1 : pcT x' t = 11) (ha : (spOf x'.S t).a = (spOf x.S t).a) (hσ : x'.σ = x.σ) (hg : x'.g = x.g) (hl : x'.loc = x.loc) (ho : Oth P x x' t)
section
variable {P : Pm} {x : CS} {m : Nat} (D : Dj P) (H : CI P x m)
include D H
theorem CI.act (kd i : Int) : CI P (doC P x kd i) (m + 1) := by
  unfold doC
  split
  · exact H.step D i
  · split
    · exact H.ask D i
    · split
      · exact H.leave D i
      · exact H.more
theorem CI.aw (kd i : Int) : Aw P x (doC P x kd i) i := by
  unfold doC
  split
  · by_cases h : (spOf x.S i).pc = 0
    · exact .same (by unfold stepC; rw [if_pos (.inl h)])
    · obtain ⟨t, rfl, ht⟩ := H.rngT h
      exact .step t ht rfl rfl (H.mv D ht) (H.oth D ht)
  · split
    · unfold askC
      cases hb : turnB x.S i 0 with
      | false => exact .same (by rw [if_neg (by decide)])
      | true =>
        rw [if_pos rfl]
        obtain ⟨⟨t0, t1⟩, hz⟩ := turn_true hb
        obtain ⟨t, rfl⟩ := Int.eq_ofNat_of_zero_le t0
        have ht : t < P.T := by have := H.len; omega
        rw [Int.toNat_natCast]
        have hS : ∀ u : Nat, spOf (turnS x.S (t : Int) 0 1) u = if u = t then { spOf x.S (t : Int) with pc := 1 } else spOf x.S u := fun u => by
          rw [spOf_turnS]
          by_cases e : u = t
          · rw [if_pos e, if_pos ⟨hb, by omega⟩]
          · rw [if_neg e, if_neg (fun h => e (by omega))]
        have hr := H.rel t ht
        unfold relP at hr
        have hz' : pcT x t = 0 := hz
        have hask := ask_pc (P.pl (P.nd t)) x.σ (sp := x.loc (P.nd t)) (i := (P.sl t : Int)) (by omega) (by have := (H.ol _ (D.nd t ht).1).len; have := (D.nd t ht).2; omega) (by show pcL P x t = 0; omega)
        refine .ask t ht rfl hz (by show (spOf (turnS x.S (t : Int) 0 1) t).pc = 1; rw [hS, if_pos rfl]) rfl rfl rfl (by show (spOf (upd x.loc (P.nd t) _ (P.nd t)) (P.sl t)).pc = 1; rw [upd_self]; exact hask.1) ⟨fun u hu => by show spOf (turnS x.S (t : Int) 0 1) u = _; rw [hS, if_neg hu], fun u hu hne => CI.oth_l (x := x) D ht 1 x.σ hu hne, fun _ _ _ => rfl, fun _ _ => rfl⟩
    · split
      · unfold leaveC
        cases hb : turnB x.S i 10 with
        | false => exact .same (by rw [turn_no _ hb])
        | true =>
          obtain ⟨⟨t0, t1⟩, hz⟩ := turn_true hb
          obtain ⟨t, rfl⟩ := Int.eq_ofNat_of_zero_le t0
          have ht : t < P.T := by have := H.len; omega
          have hS : ∀ u : Nat, spOf (turnS x.S (t : Int) 10 11) u = if u = t then { spOf x.S (t : Int) with pc := 11 } else spOf x.S u := fun u => by
            rw [spOf_turnS]
            by_cases e : u = t
            · rw [if_pos e, if_pos ⟨hb, by omega⟩]
            · rw [if_neg e, if_neg (fun h => e (by omega))]
          refine .leave t ht rfl hz (by show (spOf (turnS x.S (t : Int) 10 11) t).pc = 11; rw [hS, if_pos rfl]) (by show (spOf (turnS x.S (t : Int) 10 11) t).a = _; rw [hS, if_pos rfl]) rfl rfl rfl ⟨fun u hu => by show spOf (turnS x.S (t : Int) 10 11) u = _; rw [hS, if_neg hu], fun _ _ _ => rfl, fun _ _ _ => rfl, fun _ _ => rfl⟩
      · exact .same rfl
end
def entB (x x' : CS) (i : Int) : Bool := decide ((spOf x.S i).pc < 10) && decide ((spOf x'.S i).pc = 10)
theorem entB_no {x x' : CS} {t : Nat} (h : ¬ (pcT x t < 10 ∧ pcT x' t = 10)) : entB x x' t = false := by
  unfold entB
  rw [Bool.and_eq_false_iff]
  rcases Int.lt_or_le (pcT x t) 10 with h1 | h1
  · exact .inr (decide_eq_false (fun h2 => h ⟨h1, h2⟩))
  · exact .inl (decide_eq_false (by show ¬ pcT x t < 10; omega))
theorem entB_yes {x x' : CS} {t : Nat} (h1 : pcT x t < 10) (h2 : pcT x' t = 10) : entB x x' t = true := by
  unfold entB
  rw [decide_eq_true h1, decide_eq_true h2]; rfl
theorem entB_same {x : CS} {i : Int} : entB x x i = false := by
  unfold entB
  rw [Bool.and_eq_false_iff]
  rcases Int.lt_or_le (spOf x.S i).pc 10 with h1 | h1
  · exact .inr (decide_eq_false (by omega))
  · exact .inl (decide_eq_false (by omega))
def ins (pc : Int) : Prop := 10 ≤ pc ∧ pc ≤ 14
def TIn (P : Pm) (x : CS) (last : Option (Nat × Int)) (n : Nat) : Prop := 0 < cnW P x n → pcG x n = 10 → ∃ κ, last = some (n, κ) ∧ ((κ = cnW P x n ∧ ∃ u, u < P.T ∧ P.nd u = n ∧ ins (pcT x u)) ∨ (κ + 1 = cnW P x n ∧ ∀ u, u < P.T → P.nd u = n → ¬ ins (pcT x u)))
def TI (P : Pm) (x : CS) (last : Option (Nat × Int)) : Prop := ∀ n, n < P.NN → TIn P x last n
def lastC (P : Pm) (x x' : CS) (i : Int) (last : Option (Nat × Int)) : Option (Nat × Int) := if entB x x' i then some (P.nd i.toNat, (spOf x'.S i).a) else last
theorem TIn.keep {P : Pm} {x x' : CS} {last : Option (Nat × Int)} {n : Nat} (h : TIn P x last n) (hc : cnW P x' n = cnW P x n) (hg : pcG x' n = pcG x n) (hi : ∀ u, u < P.T → P.nd u = n → (ins (pcT x' u) ↔ ins (pcT x u))) : TIn P x' last n := by
  intro h1 h2
  rw [hc] at h1
  rw [hg] at h2
  obtain ⟨κ, e, h3⟩ := h h1 h2
  refine ⟨κ, e, ?_⟩
  rw [hc]
  rcases h3 with ⟨a, u, hu, hn, hi2⟩ | ⟨a, h4⟩
  · exact .inl ⟨a, u, hu, hn, (hi u hu hn).2 hi2⟩
  · exact .inr ⟨a, fun u hu hn hi2 => h4 u hu hn ((hi u hu hn).1 hi2)⟩
section
variable {P : Pm} {x : CS} {m : Nat} (D : Dj P) (H : CI P x m)
include D H
theorem TI.act {last : Option (Nat × Int)} (h : TI P x last) (kd i : Int) : TI P (doC P x kd i) (lastC P x (doC P x kd i) i last) := by
  have H' := H.act D kd i
  have hw := H.aw D kd i
  generalize doC P x kd i = x' at *
  have others : ∀ t : Nat, Oth P x x' t → entB x x' t = false → ∀ n, n < P.NN → n ≠ P.nd t → TIn P x' (lastC P x x' t last) n := fun t ho he n hn hne => by
    have : lastC P x x' t last = last := by unfold lastC; rw [if_neg (by rw [he]; decide)]
    rw [this]
    exact (h n hn).keep (ho.c n hn hne) (ho.g n hne) (fun u hu hnu => by
      have : u ≠ t := fun e => hne (by rw [← hnu, e])
      rw [show pcT x' u = pcT x u from congrArg Sp.pc (ho.S u this)])
  have stay : ∀ t : Nat, Oth P x x' t → entB x x' t = false → cnW P x' (P.nd t) = cnW P x (P.nd t) → pcG x' (P.nd t) = pcG x (P.nd t) → (ins (pcT x' t) ↔ ins (pcT x t)) → TI P x' (lastC P x x' t last) := fun t ho he hc hg hi n hn => by
    by_cases e : n = P.nd t
    · subst e
      have : lastC P x x' t last = last := by unfold lastC; rw [if_neg (by rw [he]; decide)]
      rw [this]
      exact (h _ hn).keep hc hg (fun u hu hnu => by
        by_cases e : u = t
        · rw [e]; exact hi
        · rw [show pcT x' u = pcT x u from congrArg Sp.pc (ho.S u e)])
    · exact others t ho he n hn e
  have none_ : ∀ t : Nat, Oth P x x' t → entB x x' t = false → cnW P x' (P.nd t) = 0 → TI P x' (lastC P x x' t last) := fun t ho he hc n hn => by
    by_cases e : n = P.nd t
    · intro h1
      rw [e, hc] at h1
      omega
    · exact others t ho he n hn e
  have enter : ∀ t : Nat, t < P.T → pcT x t < 10 → pcT x' t = 10 → (spOf x'.S t).a = cnW P x' (P.nd t) → pcG x' (P.nd t) = 10 → TI P x' (lastC P x x' t last) := fun t ht h1 h2 ha hg n hn h3 h4 => by
    have : n = P.nd t := by
      have := H'.og.sole (i := n) (j := P.nd t) (by show 10 ≤ pcG x' n; omega) (by show 10 ≤ pcG x' (P.nd t); omega)
      omega
    subst this
    refine ⟨cnW P x' (P.nd t), ?_, .inl ⟨rfl, t, ht, rfl, by unfold ins; omega⟩⟩
    unfold lastC
    rw [if_pos (entB_yes h1 h2), Int.toNat_natCast, ha]
  cases hw with
  | same e =>
    subst e
    have : lastC P x' x' i last = last := by unfold lastC; rw [if_neg (by rw [entB_same]; decide)]
    rw [this]; exact h
  | ask t ht e h0 h1 hσ hg hl hl1 ho =>
    subst e
    exact stay t ho (entB_no (by omega)) (by show x'.σ.get _ = _; rw [hσ]) (by show (spOf x'.g _).pc = _; rw [hg]) (by unfold ins; omega)
  | leave t ht e h0 h1 ha hσ hg hl ho =>
    subst e
    exact stay t ho (entB_no (by omega)) (by show x'.σ.get _ = _; rw [hσ]) (by show (spOf x'.g _).pc = _; rw [hg]) (by unfold ins; omega)
  | step t ht e hx hm ho =>
    subst e
    cases hm with
    | rest e hp =>
      subst e
      have : lastC P x' x' t last = last := by unfold lastC; rw [if_neg (by rw [entB_same]; decide)]
      rw [this]; exact h
    | loc1 a b c d e => exact stay t ho (entB_no (by omega)) d e (by unfold ins; omega)
    | got1 a b c d e => exact stay t ho (entB_no (by omega)) d e (by unfold ins; omega)
    | ent2 a b c d e f g k => exact enter t ht (by omega) b (d.trans f.symm) k
    | ask2 a b c d e f g => exact none_ t ho (entB_no (by omega)) e
    | glo3 a b c d e f g => exact none_ t ho (entB_no (by omega)) e
    | got3 a b c d e f g => exact none_ t ho (entB_no (by omega)) e
    | ent4 a b c d e f g k => exact enter t ht (by omega) b (d.trans f.symm) k
    | ld11 a b c d e f => exact stay t ho (entB_no (by omega)) d (f.trans e.symm) (by unfold ins; omega)
    | al12 a b c d e f => exact stay t ho (entB_no (by omega)) d (f.trans e.symm) (by unfold ins; omega)
    | st13 a b c d e f g =>
      intro n hn
      by_cases en : n = P.nd t
      · subst en
        have hno : lastC P x x' t last = last := by unfold lastC; rw [if_neg (by rw [entB_no (by omega)]; decide)]
        rw [hno]
        intro h1 h2
        have hN := (H.nod t ht).2.2.1 (by omega)
        obtain ⟨κ, e1, e2⟩ := h _ hn hN.1 hN.2
        refine ⟨κ, e1, .inr ⟨?_, fun u hu hnu hi => ?_⟩⟩
        · rcases e2 with e2 | e2
          · omega
          · exact absurd (show ins (pcT x t) by unfold ins; omega) (e2.2 t ht rfl)
        · by_cases eu : u = t
          · subst eu; unfold ins at hi; omega
          · have := H.alone D ht (by omega) hu hnu eu
            rw [show pcT x' u = pcT x u from congrArg Sp.pc (ho.S u eu)] at hi
            unfold ins at hi; omega
      · exact others t ho (entB_no (by omega)) n hn en
    | st14 a b c d e f => exact none_ t ho (entB_no (by omega)) d
    | glo15 a b c d e f g => exact none_ t ho (entB_no (by omega)) e
    | got15 a b c d e f g => exact none_ t ho (entB_no (by omega)) e
    | loc16 a b c d e => exact stay t ho (entB_no (by omega)) d e (by unfold ins; omega)
    | got16 a b c d e => exact stay t ho (entB_no (by omega)) d e (by unfold ins; omega)
end
end Go.Proofs.YtfnmggmgdmokcaaGreatDoor.Co

/- Walks of package budget and its reference, and of the law's awake. -/
namespace Go.Proofs.YtfnmggmgdmokcaaGreatDoor.Bud
open Go.RowKit

def inB (n a b : Int) : Bool := decide (a ≤ n) && decide (n ≤ b)
def right (b : Int) : Bool := inB b 0 1000
def longest (b : Int) : Int × Int := if right b then (b + 1, 0) else (0, 1)
def ahead (v b : Int) : Int × Int := if right b && inB v 1 32 then ((v - 1) * (b + 1), 0) else (0, 1)
def passes (c b : Int) (alone : Bool) : Bool := right b && inB c 1 b && !alone

theorem inB_iff {n a b : Int} : inB n a b = true ↔ a ≤ n ∧ n ≤ b := by simp [inB]
theorem right_iff {b : Int} : right b = true ↔ 0 ≤ b ∧ b ≤ 1000 := inB_iff
theorem in_any (n a b : Int) (w : World) :
    Calls Tryz.prog 29 #[.int .i64 n, .int .i64 a, .int .i64 b] w fun e w' => e = .returned (.bool (inB n a b)) ∧ w' = w := by
  unfold inB
  go_enter Tryz.func29, Tryz.ntmps29
  go_wp2
  all_goals go_ret
  all_goals exact ⟨by simp [*] <;> omega, rfl⟩

theorem right_any (b : Int) (w : World) :
    Calls Tryz.prog 17 #[.int .i64 b] w fun e w' => e = .returned (.bool (right b)) ∧ w' = w := by
  unfold right
  go_enter Tryz.func17, Tryz.ntmps17
  go_wp2_with (go_at_call 29; refine (in_any _ _ _ _).mono ?_; rintro e w' ⟨rfl, rfl⟩)
  go_ret
  exact ⟨rfl, rfl⟩

end Go.Proofs.YtfnmggmgdmokcaaGreatDoor.Bud

/- Walks of package budget: Total, Passes, and of the law's awake. -/
namespace Go.Proofs.YtfnmggmgdmokcaaGreatDoor.Bud
open Go.RowKit

end Go.Proofs.YtfnmggmgdmokcaaGreatDoor.Bud

