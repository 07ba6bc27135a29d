/- Merged texts: TaP, Ta3, Ta4, Rta, Rtb. -/
import Derived.Test.YthffhhgaeolpgaaGreatGq5
import Derived.RegionTactic
import Derived.BigRegion
import Derived.Deep.RegionHeld3
set_option linter.unusedVariables false
/- Package tas, as Lean has it: no two slots hold at once. -/
namespace Go.Proofs.YthffhhgaeolpgaaGreat.Ta
open Go.RowKit Go.Proofs.YthffhhgaeolpgaaGreat.Ara Go.Proofs.YthffhhgaeolpgaaGreat.Lok

def tryB (P : Par) (σ : Ar) : Bool := σ.has P.word && (σ.get P.word == 0)
def stepP (P : Par) (σ : Ar) (sp : List Sp) (i : Int) : Bool × Ar × List Sp :=
  if (spOf sp i).pc = 1 then (tryB P σ, σ.op 4 P.word (tryB P σ) (i + 1), sp.set i.toNat (if tryB P σ = true then { spOf sp i with pc := 10 } else ⟨2, min (2 * (spOf sp i).a) P.most, (spOf sp i).a, (spOf sp i).c⟩))
  else if (spOf sp i).pc = 2 then (false, σ, sp.set i.toNat ⟨if (spOf sp i).b - 1 = 0 then 1 else 2, (spOf sp i).a, (spOf sp i).b - 1, (spOf sp i).c⟩)
  else if (spOf sp i).pc = 11 then (true, σ.op 2 P.word true 0, sp.set i.toNat { spOf sp i with pc := 0 })
  else (false, σ, sp)
def askS (sp : List Sp) (i : Int) : List Sp := if turnB sp i 0 then sp.set i.toNat { spOf sp i with pc := 1, a := 1 } else sp
def doP (P : Par) (σ : Ar) (sp : List Sp) (kd i : Int) : Bool × Ar × List Sp :=
  if kd = 0 then stepP P σ sp i else if kd = 1 then (turnB sp i 0, σ, askS sp i) else if kd = 2 then (turnB sp i 10, σ, turnS sp i 10 11)
  else if kd = 3 then ((spOf sp i).pc == 10, σ, sp) else (false, σ, sp)
def holds (s : Sp) : Prop := s.pc = 10 ∨ s.pc = 11
structure Inv (P : Par) (σ : Ar) (sp : List Sp) : Prop where
  hl : σ.t ≤ σ.ws.length
  hw : σ.has P.word = true
  m1 : 1 ≤ P.most
  m2 : P.most ≤ 1024
  pcs : ∀ i, (spOf sp i).pc = 0 ∨ (spOf sp i).pc = 1 ∨ (spOf sp i).pc = 2 ∨ holds (spOf sp i)
  ar : ∀ i, 0 ≤ (spOf sp i).a ∧ (spOf sp i).a ≤ 1024
  br : ∀ i, 0 ≤ (spOf sp i).b ∧ (spOf sp i).b ≤ 1024
  w1 : ∀ i, (spOf sp i).pc = 1 ∨ (spOf sp i).pc = 2 → 1 ≤ (spOf sp i).a
  w2 : ∀ i, (spOf sp i).pc = 2 → 1 ≤ (spOf sp i).b
  hold : ∀ i, holds (spOf sp i) → σ.get P.word = i + 1
  free : (∀ i, ¬ holds (spOf sp i)) → σ.get P.word = 0
theorem Inv.one {P : Par} {σ : Ar} {sp : List Sp} (h : Inv P σ sp) (n : Nat) : cnt (fun s => s.pc == 10) sp n ≤ 1 := by
  refine cnt_one _ _ (fun i j hi hj => ?_) n
  simp only [beq_iff_eq] at hi hj
  have h1 := h.hold i (.inl hi)
  have h2 := h.hold j (.inl hj)
  omega
theorem Inv.turns {P : Par} {σ σ' : Ar} {sp sp' : List Sp} (h : Inv P σ sp) (i : Int) (s' : Sp) (hs : ∀ j, spOf sp' j = if j = i then s' else spOf sp j) (hl' : σ'.ws.length = σ.ws.length) (ht' : σ'.t = σ.t)
    (hp : s'.pc = 0 ∨ s'.pc = 1 ∨ s'.pc = 2 ∨ holds s') (ha : 0 ≤ s'.a ∧ s'.a ≤ 1024) (hb : 0 ≤ s'.b ∧ s'.b ≤ 1024) (h1 : s'.pc = 1 ∨ s'.pc = 2 → 1 ≤ s'.a) (h2 : s'.pc = 2 → 1 ≤ s'.b)
    (hh : ∀ j, holds (spOf sp' j) → σ'.get P.word = j + 1) (hf : (∀ j, ¬ holds (spOf sp' j)) → σ'.get P.word = 0) : Inv P σ' sp' := by
  have all : ∀ (Q : Sp → Prop), Q s' → (∀ j, Q (spOf sp j)) → ∀ j, Q (spOf sp' j) := by
    intro Q q0 q1 j
    rw [hs]
    split
    · exact q0
    · exact q1 j
  refine { hl := by rw [ht', hl']; exact h.hl, hw := ?_, m1 := h.m1, m2 := h.m2, pcs := all (fun s => s.pc = 0 ∨ s.pc = 1 ∨ s.pc = 2 ∨ holds s) hp h.pcs, ar := all (fun s => 0 ≤ s.a ∧ s.a ≤ 1024) ha h.ar, br := all (fun s => 0 ≤ s.b ∧ s.b ≤ 1024) hb h.br, w1 := all (fun s => s.pc = 1 ∨ s.pc = 2 → 1 ≤ s.a) h1 h.w1, w2 := all (fun s => s.pc = 2 → 1 ≤ s.b) h2 h.w2, hold := hh, free := hf }
  have := h.hw
  unfold Ar.has at this ⊢
  rw [ht']
  exact this
theorem Inv.idle {P : Par} {σ σ' : Ar} {sp sp' : List Sp} (h : Inv P σ sp) (i : Int) (s' : Sp) (hs : ∀ j, spOf sp' j = if j = i then s' else spOf sp j) (hl' : σ'.ws.length = σ.ws.length) (ht' : σ'.t = σ.t) (hg : σ'.get P.word = σ.get P.word)
    (hp : s'.pc = 0 ∨ s'.pc = 1 ∨ s'.pc = 2 ∨ holds s') (ha : 0 ≤ s'.a ∧ s'.a ≤ 1024) (hb : 0 ≤ s'.b ∧ s'.b ≤ 1024) (h1 : s'.pc = 1 ∨ s'.pc = 2 → 1 ≤ s'.a) (h2 : s'.pc = 2 → 1 ≤ s'.b) (hh : holds s' ↔ holds (spOf sp i)) : Inv P σ' sp' := by
  have hq : ∀ j, holds (spOf sp' j) ↔ holds (spOf sp j) := by
    intro j
    rw [hs]
    split
    · rename_i e; rw [e]; exact hh
    · exact Iff.rfl
  exact h.turns i s' hs hl' ht' hp ha hb h1 h2 (fun j hj => by rw [hg]; exact h.hold j ((hq j).1 hj)) (fun hf => by rw [hg]; exact h.free (fun j hj => hf j ((hq j).2 hj)))
theorem holds_range {sp : List Sp} {i : Int} (h : holds (spOf sp i)) : 0 ≤ i ∧ i < sp.length := spOf_range (by unfold holds at h; omega)
theorem do_inv {P : Par} {σ : Ar} {sp : List Sp} (h : Inv P σ sp) (kd i : Int) : Inv P (doP P σ sp kd i).2.1 (doP P σ sp kd i).2.2 := by
  unfold doP
  have har := h.ar i
  have hbr := h.br i
  split
  · unfold stepP
    split
    · rename_i p
      obtain ⟨i0, i1⟩ := spOf_range (sp := sp) (i := i) (by omega)
      have hw1 := h.w1 i (.inl p)
      cases ht : tryB P σ
      · simp only [Bool.false_eq_true, if_false]
        have hm1 := h.m1
        have hm2 := h.m2
        refine h.idle i _ (spOf_set i0 i1 _) (op_len _ _ _ _ _) (op_t _ _ _ _ _) (get_read σ h.hl 4 _ _ _) (.inr (.inr (.inl rfl))) ⟨?_, ?_⟩ har (fun _ => ?_) (fun _ => hw1) ?_
        · show 0 ≤ min (2 * (spOf sp i).a) P.most; omega
        · show min (2 * (spOf sp i).a) P.most ≤ 1024; omega
        · show 1 ≤ min (2 * (spOf sp i).a) P.most; omega
        · unfold holds; simp only; omega
      · simp only [if_true]
        have hz : σ.get P.word = 0 := by
          unfold tryB at ht
          simp at ht
          exact ht.2
        have hno : ∀ j, ¬ holds (spOf sp j) := by
          intro j hj
          have := h.hold j hj
          have := holds_range hj
          omega
        have hg := get_op σ h.hl 4 P.word (i + 1) true P.word
        simp only [h.hw, true_and, and_self, if_true] at hg
        have hs := spOf_set i0 i1 { spOf sp i with pc := 10 }
        refine h.turns i _ hs (op_len _ _ _ _ _) (op_t _ _ _ _ _) (.inr (.inr (.inr (.inl rfl)))) har hbr (fun e => by simp at e) (fun e => by simp at e) (fun j hj => ?_) (fun hf => ?_)
        · rw [hs] at hj
          split at hj
          · rename_i e; rw [e]; exact hg
          · exact absurd hj (hno j)
        · exact absurd (show holds (spOf _ i) by rw [hs, if_pos rfl]; exact .inl rfl) (hf i)
    split
    · rename_i _ p
      obtain ⟨i0, i1⟩ := spOf_range (sp := sp) (i := i) (by omega)
      have hw1 := h.w1 i (.inr p)
      have hw2 := h.w2 i p
      refine h.idle i _ (spOf_set i0 i1 _) rfl rfl rfl ?_ har (by simp only; omega) (fun _ => hw1) (fun e => ?_) ?_
      · simp only
        split
        · exact .inr (.inl rfl)
        · exact .inr (.inr (.inl rfl))
      · simp only at e ⊢
        split at e
        · omega
        · omega
      · unfold holds
        simp only
        split <;> omega
    split
    · rename_i _ _ p
      obtain ⟨i0, i1⟩ := spOf_range (sp := sp) (i := i) (by omega)
      have hi := h.hold i (.inr p)
      have hg := get_op σ h.hl 2 P.word 0 true P.word
      simp only [h.hw, true_and, and_self, if_true] at hg
      have hs := spOf_set i0 i1 { spOf sp i with pc := 0 }
      have hno : ∀ j, ¬ holds (spOf (sp.set i.toNat { spOf sp i with pc := 0 }) j) := by
        intro j hj
        rw [hs] at hj
        split at hj
        · unfold holds at hj; simp at hj
        · rename_i e
          have := h.hold j hj
          exact e (by omega)
      exact h.turns i _ hs (op_len _ _ _ _ _) (op_t _ _ _ _ _) (.inl rfl) har hbr (fun e => by simp at e) (fun e => by simp at e) (fun j hj => absurd hj (hno j)) (fun _ => hg)
    · exact h
  split
  · unfold askS
    split
    · rename_i ht
      obtain ⟨⟨i0, i1⟩, hp⟩ := turn_true ht
      exact h.idle i _ (spOf_set i0 i1 { spOf sp i with pc := 1, a := 1 }) rfl rfl rfl (.inr (.inl rfl)) (by simp only; omega) hbr (fun _ => by simp only; omega) (fun e => by simp at e) (by unfold holds; simp only; omega)
    · exact h
  split
  · cases ht : turnB sp i 10
    · simp only [turn_no 11 ht]; exact h
    · have hp := (turn_true ht).2
      exact h.idle i _ (spOf_turn 11 ht) rfl rfl rfl (.inr (.inr (.inr (.inr rfl)))) har hbr (fun e => by simp at e) (fun e => by simp at e) ⟨fun _ => .inl hp, fun _ => .inr rfl⟩
  split <;> exact h
end Go.Proofs.YthffhhgaeolpgaaGreat.Ta

/- Package tas: all steps. -/
namespace Go.Proofs.YthffhhgaeolpgaaGreat.Ta
open Go.RowKit Go.Proofs.YthffhhgaeolpgaaGreat.Ara Go.Proofs.YthffhhgaeolpgaaGreat.Lok

theorem modHere3 {S : List Nat} {hs : Nat} {a w : World} (h : Mod S a w) (hh : hs ∈ S) (i j l : Nat) (u v x : Value) : Mod S a (((w.setCell ⟨hs, i, none⟩ u).setCell ⟨hs, j, none⟩ v).setCell ⟨hs, l, none⟩ x) := ((h.setCell hh u).setCell hh v).setCell hh x
section
variable (gl ga ha hs : Nat) (P : Par) (σ : Ar) (sp : List Sp) (w : World) (H : LkAt w gl ga ha hs P σ sp)
include H
section
variable (k : Nat) (hk : k < sp.length)
include hk
set_option maxHeartbeats 4000000 in
set_option maxRecDepth 100000 in
theorem step_two (hp : sp[k].pc = 2) (hb : 0 ≤ sp[k].b ∧ sp[k].b ≤ 4096) (sp2 : List Sp) (h2 : sp2 = sp.set k ⟨if sp[k].b - 1 = 0 then 1 else 2, sp[k].a, sp[k].b - 1, sp[k].c⟩) : Calls Tryz.prog 144 #[.pointer (some ⟨gl, 0, none⟩), .int .i64 (k : Int)] w fun e w' => e = .returned (.bool false) ∧ LkAt w' gl ga ha hs P σ sp2 ∧ Mod [ga, ha, hs] w w' := by
  have HS := Lib.hid (spot_in_lk gl ga ha hs P σ sp w H k hk)
  obtain ⟨s0, s1, s2, s3, sf⟩ := H.2.1.cells k hk
  rw [hp] at s0
  have f2 := sf (k * 4 + 2)
  have hu1 : LkAt (w.setCell ⟨hs, k * 4 + 2, none⟩ (.int .i64 (sp[k].b - 1))) gl ga ha hs P σ (sp.set k { sp[k] with b := sp[k].b - 1 }) := H.spots (H.2.1.setB k hk (sp[k].b - 1)) ((Mod.refl [hs] w).setCell (by simp) _) (by rw [List.length_set])
  have hkk : k < (sp.set k { sp[k] with b := sp[k].b - 1 }).length := by rw [List.length_set]; exact hk
  have hgk : (sp.set k { sp[k] with b := sp[k].b - 1 })[k] = { sp[k] with b := sp[k].b - 1 } := List.getElem_set_self hkk
  obtain ⟨t0, t1, t2, t3, tf⟩ := hu1.2.1.cells k hkk
  have g0 := tf (k * 4)
  rw [hgk] at t0 t2
  have e1 : IntKind.i64.wrap (sp[k].b - 1) = sp[k].b - 1 := IntWalk.i64_in _ (by omega)
  have hm1 : Mod [ga, ha, hs] w (w.setCell ⟨hs, k * 4 + 2, none⟩ (.int .i64 (sp[k].b - 1))) := (Mod.refl _ _).setCell (by simp) _
  by_cases hz : sp[k].b - 1 = 0
  · have hu2 := hu1.spots (hu1.2.1.setPc k hkk 1) ((Mod.refl [hs] _).setCell (by simp) _) (by rw [List.length_set])
    have e : (sp.set k { sp[k] with b := sp[k].b - 1 }).set k { (sp.set k { sp[k] with b := sp[k].b - 1 })[k] with pc := 1 } = sp2 := by
      rw [hgk, List.set_set, h2, if_pos hz]
    rw [e] at hu2
    have HU := Lib.hid hu2
    have hm2 : Mod [ga, ha, hs] w ((w.setCell ⟨hs, k * 4 + 2, none⟩ (.int .i64 (sp[k].b - 1))).setCell ⟨hs, k * 4, none⟩ (.int .i64 1)) := hm1.setCell (by simp) _
    have e9 := ibeq hz
    clear hu1 hu2 e h2 hgk H t1 t3 tf sf s1 s3 hz
    simp only [hp] at t0
    generalize sp[k].b = xb at *
    generalize sp[k].pc = xp at *
    clear hp
    go_enter Tryz.func144, Tryz.ntmps144
    go_wp2_with fail
    refine (HS.out).mono ?_
    rintro e wx ⟨rfl, hwx⟩
    obtain rfl := hwx.symm
    go_wp2_with fail
    go_ret
    exact ⟨rfl, HU.out, hm2⟩
  · have e : sp.set k { sp[k] with b := sp[k].b - 1 } = sp2 := by
      rw [h2, if_neg hz, ← hp]
    rw [e] at hu1
    have HU := Lib.hid hu1
    have e9 := ibeq_no hz
    clear hu1 e h2 hgk H t1 t3 tf sf s1 s3 hz t0 g0
    generalize sp[k].b = xb at *
    generalize sp[k].pc = xp at *
    clear hp
    go_enter Tryz.func144, Tryz.ntmps144
    go_wp2_with fail
    refine (HS.out).mono ?_
    rintro e wx ⟨rfl, hwx⟩
    obtain rfl := hwx.symm
    go_wp2_with fail
    go_ret
    exact ⟨rfl, HU.out, hm1⟩
set_option maxHeartbeats 8000000 in
set_option maxRecDepth 100000 in
theorem step_one_no (ho : σ.ops ≤ 1000000) (hp : sp[k].pc = 1) (hr : 0 ≤ sp[k].a ∧ sp[k].a ≤ 4096) (hmo : 1 ≤ P.most ∧ P.most ≤ 4096) (hc : (σ.has P.word && (σ.get P.word == 0)) = false) (sp2 : List Sp) (h2 : sp2 = sp.set k ⟨2, min (2 * sp[k].a) P.most, sp[k].a, sp[k].c⟩) : Calls Tryz.prog 144 #[.pointer (some ⟨gl, 0, none⟩), .int .i64 (k : Int)] w fun e w' => e = .returned (.bool false) ∧ LkAt w' gl ga ha hs P (σ.op 4 P.word false ((k : Int) + 1)) sp2 ∧ Mod [ga, ha, hs] w w' := by
  have HSt := fun W (K : LkAt W gl ga ha hs P σ sp) => cas_any ga ha σ W K.1 ho P.word 0 ((k : Int) + 1)
  rw [hc] at HSt
  replace HSt := Lib.hid HSt
  have HS := Lib.hid (spot_in_lk gl ga ha hs P σ sp w H k hk)
  obtain ⟨⟨cc, q0, q1, q2, q3⟩, hl32⟩ := H.heads
  obtain ⟨d1, d2, d3, d4, d5⟩ := H.2.2.2.2
  have s0 := (H.2.1.cells k hk).1
  rw [hp] at s0
  have HH := Lib.hid H
  have e1 : IntKind.i64.wrap ((k : Int) + 1) = (k : Int) + 1 := IntWalk.i64_in _ (by omega)
  have e2 : IntKind.i64.wrap (2 * sp[k].a) = 2 * sp[k].a := IntWalk.i64_in _ (by omega)
  have HC := Lib.hid (fun W (K : LkAt W gl ga ha hs P (σ.op 4 P.word false ((k : Int) + 1)) sp) => show (W.cell? ⟨hs, k * 4, none⟩ = some (.int .i64 sp[k].pc) ∧ W.cell? ⟨hs, k * 4 + 1, none⟩ = some (.int .i64 sp[k].a) ∧ W.cell? ⟨hs, k * 4 + 2, none⟩ = some (.int .i64 sp[k].b) ∧ (∀ j, W.frozen? ⟨hs, j, none⟩ = false) ∧ W.cell? ⟨gl, 2, none⟩ = some (.int .i64 P.most)) ∧
      LkAt (((W.setCell ⟨hs, k * 4, none⟩ (.int .i64 2)).setCell ⟨hs, k * 4 + 2, none⟩ (.int .i64 sp[k].a)).setCell ⟨hs, k * 4 + 1, none⟩ (.int .i64 (min (2 * sp[k].a) P.most))) gl ga ha hs P (σ.op 4 P.word false ((k : Int) + 1)) sp2 from by
    obtain ⟨⟨cc, _, _, q2, _⟩, _⟩ := K.heads
    obtain ⟨c0, c1, c2, _, cf⟩ := K.2.1.cells k hk
    refine ⟨⟨c0, c1, c2, cf, q2⟩, ?_⟩
    have l1 : k < (sp.set k { sp[k] with pc := 2 }).length := by rw [List.length_set]; exact hk
    have u1 := K.spots (K.2.1.setPc k hk 2) ((Mod.refl [hs] W).setCell (by simp) _) (by rw [List.length_set])
    have g1 : (sp.set k { sp[k] with pc := 2 })[k] = { sp[k] with pc := 2 } := List.getElem_set_self l1
    have u2 := u1.spots (u1.2.1.setB k l1 sp[k].a) ((Mod.refl [hs] _).setCell (by simp) _) (by rw [List.length_set])
    rw [g1, List.set_set] at u2
    have l2 : k < (sp.set k { { sp[k] with pc := 2 } with b := sp[k].a }).length := by rw [List.length_set]; exact hk
    have u3 := u2.spots (u2.2.1.setA k l2 (min (2 * sp[k].a) P.most)) ((Mod.refl [hs] _).setCell (by simp) _) (by rw [List.length_set])
    rw [List.getElem_set_self, List.set_set] at u3
    rw [h2]
    exact u3)
  obtain ⟨mn, hmn⟩ : ∃ mn, min (2 * sp[k].a) P.most = mn := ⟨_, rfl⟩
  have hmn2 : (2 * sp[k].a ≤ P.most ∧ mn = 2 * sp[k].a) ∨ (P.most < 2 * sp[k].a ∧ mn = P.most) := by omega
  rw [hmn] at HC
  generalize σ.op 4 P.word false ((k : Int) + 1) = σ2 at *
  generalize sp[k].pc = xp at *
  generalize sp[k].a = xa at *
  generalize sp[k].b = xb at *
  have HMN := Lib.hid hmn2
  clear hmn hmn2
  clear h2 H hp hc ho
  have HKK := Lib.hid hk
  go_enter Tryz.func144, Tryz.ntmps144
  go_wp2_with fail
  refine (HS.out).mono ?_
  rintro e wx ⟨rfl, hwx⟩
  obtain rfl := hwx.symm
  go_wp2_with fail
  go_region_held3 (fun V => V.cell? ⟨gl, 0, none⟩ = some (.pointer (some ⟨ga, 0, none⟩)) ∧ V.cell? ⟨gl, 1, none⟩ = some (.int .i64 P.word))
    (first | exact ⟨q0, q1⟩ | exact k2)
    (first
      | (go_at_call 146; refine (HSt.out _ (HH.out.drewN 1)).mono ?_; rintro e w2 ⟨rfl, ha2, hm2⟩; have k2 := And.intro (keepM hm2 (show (w.drewN 1).cell? _ = _ from q0) (by simp; omega)) (keepM hm2 (show (w.drewN 1).cell? _ = _ from q1) (by simp; omega)); have H2 := Lib.hid ((HH.out.drewN 1).arena ha2 hm2)))
  have hmm : Mod [ga, ha, hs] w w2 := ((Mod.refl _ _).drewN 1).trans (hm2.sub (by simp))
  clear k2 ha2 hm2
  obtain ⟨⟨c0, c1, c2, cf, c4⟩, _⟩ := HC.out _ H2.out
  have HD := Lib.hid (HC.out _ (H2.out.drewN 1)).2
  have f0 := cf (k * 4)
  have f1 := cf (k * 4 + 1)
  have f2 := cf (k * 4 + 2)
  clear cf HC q0 q1 q2 q3 s0
  have hmm1 := hmm.drewN 1
  have HM3 := Lib.hid (modHere3 (hs := hs) hmm1 (by simp) (k * 4) (k * 4 + 2) (k * 4 + 1) (.int .i64 2) (.int .i64 xa) (.int .i64 mn))
  clear hmm hmm1
  rcases HMN.out with ⟨hle, rfl⟩ | ⟨hlt, rfl⟩
  · clear HMN
    go_wp2_with fail
    go_region
    all_goals
      go_wp2_with fail
      go_ret
      exact ⟨rfl, HD.out, HM3.out⟩
  · clear HMN
    go_wp2_with fail
    go_region
    all_goals
      go_wp2_with fail
      go_ret
      exact ⟨rfl, HD.out, HM3.out⟩
end
end
end Go.Proofs.YthffhhgaeolpgaaGreat.Ta

/- Package tas: Ask, Leave, Step for all slots; what its laws ask of it. -/
namespace Go.Proofs.YthffhhgaeolpgaaGreat.Ta
open Go.RowKit Go.Proofs.YthffhhgaeolpgaaGreat.Ara Go.Proofs.YthffhhgaeolpgaaGreat.Lok

section
variable (gl ga ha hs : Nat) (P : Par) (σ : Ar) (sp : List Sp) (w : World) (H : LkAt w gl ga ha hs P σ sp)
include H
theorem no_Ask (i : Int) (h : turnB sp i 0 = false) : Calls Tryz.prog 140 #[.pointer (some ⟨gl, 0, none⟩), .int .i64 i] w fun e w' => e = .returned (.bool false) ∧ w' = w := by
  by_cases hi : i < 0 ∨ (sp.length : Int) ≤ i
  · have HS := Lib.hid (spot_out_lk gl ga ha hs P σ sp w H i hi)
    clear H hi h
    go_enter Tryz.func140, Tryz.ntmps140
    go_wp2_with fail
    refine (HS.out).mono ?_
    rintro e wx ⟨rfl, hwx⟩
    obtain rfl := hwx.symm
    go_wp2_with fail
    go_ret
    exact ⟨rfl, rfl⟩
  · obtain ⟨k, rfl⟩ := Int.eq_ofNat_of_zero_le (show 0 ≤ i by omega)
    have hk : k < sp.length := by omega
    have HS := Lib.hid (spot_in_lk gl ga ha hs P σ sp w H k hk)
    have c0 := (H.2.1.cells k hk).1
    rw [turn_in hk] at h
    have e1 : (sp[k].pc != 0) = true := by rw [bne, h]; rfl
    generalize sp[k].pc = x at *
    clear H hi h
    go_enter Tryz.func140, Tryz.ntmps140
    go_wp2_with fail
    refine (HS.out).mono ?_
    rintro e wx ⟨rfl, hwx⟩
    obtain rfl := hwx.symm
    go_wp2_with fail
    go_ret
    exact ⟨rfl, rfl⟩
theorem no_Leave (i : Int) (h : turnB sp i 10 = false) : Calls Tryz.prog 141 #[.pointer (some ⟨gl, 0, none⟩), .int .i64 i] w fun e w' => e = .returned (.bool false) ∧ w' = w := by
  by_cases hi : i < 0 ∨ (sp.length : Int) ≤ i
  · have HS := Lib.hid (spot_out_lk gl ga ha hs P σ sp w H i hi)
    clear H hi h
    go_enter Tryz.func141, Tryz.ntmps141
    go_wp2_with fail
    refine (HS.out).mono ?_
    rintro e wx ⟨rfl, hwx⟩
    obtain rfl := hwx.symm
    go_wp2_with fail
    go_ret
    exact ⟨rfl, rfl⟩
  · obtain ⟨k, rfl⟩ := Int.eq_ofNat_of_zero_le (show 0 ≤ i by omega)
    have hk : k < sp.length := by omega
    have HS := Lib.hid (spot_in_lk gl ga ha hs P σ sp w H k hk)
    have c0 := (H.2.1.cells k hk).1
    rw [turn_in hk] at h
    have e1 : (sp[k].pc != 10) = true := by rw [bne, h]; rfl
    generalize sp[k].pc = x at *
    clear H hi h
    go_enter Tryz.func141, Tryz.ntmps141
    go_wp2_with fail
    refine (HS.out).mono ?_
    rintro e wx ⟨rfl, hwx⟩
    obtain rfl := hwx.symm
    go_wp2_with fail
    go_ret
    exact ⟨rfl, rfl⟩
theorem ask_lk (i : Int) : Calls Tryz.prog 140 #[.pointer (some ⟨gl, 0, none⟩), .int .i64 i] w fun e w' => e = .returned (.bool (turnB sp i 0)) ∧ LkAt w' gl ga ha hs P σ (askS sp i) ∧ Mod [hs] w w' := by
  cases ht : turnB sp i 0 with
  | false =>
    have e : askS sp i = sp := by unfold askS; rw [ht, if_neg (by simp)]
    rw [e]
    refine (no_Ask gl ga ha hs P σ sp w H i ht).mono ?_
    rintro x w' ⟨rfl, rfl⟩
    exact ⟨rfl, H, Mod.refl _ _⟩
  | true =>
    obtain ⟨⟨i0, i1⟩, hp⟩ := turn_true ht
    have e : askS sp i = sp.set i.toNat { spOf sp i with pc := 1, a := 1 } := by unfold askS; rw [ht, if_pos rfl]
    rw [e]
    obtain ⟨k, rfl⟩ := Int.eq_ofNat_of_zero_le i0
    have hk : k < sp.length := by omega
    rw [spOf_in hk] at hp ⊢
    rw [Int.toNat_natCast]
    exact ask_yes gl ga ha hs P σ sp w H k hk hp _ rfl
theorem leave_lk (i : Int) : Calls Tryz.prog 141 #[.pointer (some ⟨gl, 0, none⟩), .int .i64 i] w fun e w' => e = .returned (.bool (turnB sp i 10)) ∧ LkAt w' gl ga ha hs P σ (turnS sp i 10 11) ∧ Mod [hs] w w' := by
  cases ht : turnB sp i 10 with
  | false =>
    rw [turn_no 11 ht]
    refine (no_Leave gl ga ha hs P σ sp w H i ht).mono ?_
    rintro x w' ⟨rfl, rfl⟩
    exact ⟨rfl, H, Mod.refl _ _⟩
  | true =>
    obtain ⟨⟨i0, i1⟩, hp⟩ := turn_true ht
    have e : turnS sp i 10 11 = sp.set i.toNat { spOf sp i with pc := 11 } := by unfold turnS; rw [ht, if_pos rfl]
    rw [e]
    obtain ⟨k, rfl⟩ := Int.eq_ofNat_of_zero_le i0
    have hk : k < sp.length := by omega
    rw [spOf_in hk] at hp ⊢
    rw [Int.toNat_natCast]
    exact leave_yes gl ga ha hs P σ sp w H k hk hp _ rfl
set_option maxRecDepth 100000 in
theorem step_none (i : Int) (h : ¬ ((spOf sp i).pc = 1 ∨ (spOf sp i).pc = 2 ∨ (spOf sp i).pc = 11)) : Calls Tryz.prog 144 #[.pointer (some ⟨gl, 0, none⟩), .int .i64 i] w fun e w' => e = .returned (.bool false) ∧ LkAt w' gl ga ha hs P σ sp ∧ Mod [ga, ha, hs] w w' := by
  have HH := Lib.hid H
  by_cases hi : i < 0 ∨ (sp.length : Int) ≤ i
  · have HS := Lib.hid (spot_out_lk gl ga ha hs P σ sp w H i hi)
    clear H hi h
    go_enter Tryz.func144, Tryz.ntmps144
    go_wp2_with fail
    refine (HS.out).mono ?_
    rintro e wx ⟨rfl, hwx⟩
    obtain rfl := hwx.symm
    go_wp2_with fail
    go_ret
    exact ⟨rfl, HH.out, Mod.refl _ _⟩
  · obtain ⟨k, rfl⟩ := Int.eq_ofNat_of_zero_le (show 0 ≤ i by omega)
    have hk : k < sp.length := by omega
    have HS := Lib.hid (spot_in_lk gl ga ha hs P σ sp w H k hk)
    have c0 := (H.2.1.cells k hk).1
    rw [spOf_in hk] at h
    have e1 := ibeq_no (show ¬ sp[k].pc = 1 by omega)
    have e2 := ibeq_no (show ¬ sp[k].pc = 2 by omega)
    have e3 := ibeq_no (show ¬ sp[k].pc = 11 by omega)
    generalize sp[k].pc = x at *
    clear H hi h
    go_enter Tryz.func144, Tryz.ntmps144
    go_wp2_with fail
    refine (HS.out).mono ?_
    rintro e wx ⟨rfl, hwx⟩
    obtain rfl := hwx.symm
    go_wp2_with fail
    go_ret
    exact ⟨rfl, HH.out, Mod.refl _ _⟩
theorem step_lk (hI : Inv P σ sp) (ho : σ.ops ≤ 1000000) (i : Int) : Calls Tryz.prog 144 #[.pointer (some ⟨gl, 0, none⟩), .int .i64 i] w fun e w' => e = .returned (.bool (stepP P σ sp i).1) ∧ LkAt w' gl ga ha hs P (stepP P σ sp i).2.1 (stepP P σ sp i).2.2 ∧ Mod [ga, ha, hs] w w' := by
  by_cases h : (spOf sp i).pc = 1 ∨ (spOf sp i).pc = 2 ∨ (spOf sp i).pc = 11
  · obtain ⟨i0, i1⟩ := spOf_range (sp := sp) (i := i) (by omega)
    obtain ⟨k, rfl⟩ := Int.eq_ofNat_of_zero_le i0
    have hk : k < sp.length := by omega
    have har := hI.ar (k : Int)
    have hbr := hI.br (k : Int)
    have hm1 := hI.m1
    have hm2 := hI.m2
    unfold stepP
    rw [spOf_in hk] at h har hbr ⊢
    simp only [Int.toNat_natCast]
    rcases h with h | h | h
    · rw [if_pos h]
      cases hc : tryB P σ with
      | true =>
        simp only [if_true]
        exact step_one_yes gl ga ha hs P σ sp w H k hk ho h hc _ rfl
      | false =>
        simp only [Bool.false_eq_true, if_false]
        exact step_one_no gl ga ha hs P σ sp w H k hk ho h (by omega) (by omega) hc _ rfl
    · rw [if_neg (by omega), if_pos h]
      exact step_two gl ga ha hs P σ sp w H k hk h (by omega) _ rfl
    · rw [if_neg (by omega), if_neg (by omega), if_pos h]
      exact step_out gl ga ha hs P σ sp w H k hk ho h _ rfl
  · have e : stepP P σ sp i = (false, σ, sp) := by unfold stepP; rw [if_neg (by omega), if_neg (by omega), if_neg (by omega)]
    rw [e]
    exact step_none gl ga ha hs P σ sp w H i h
end
theorem do_len (P : Par) (σ : Ar) (sp : List Sp) (kd i : Int) : (doP P σ sp kd i).2.2.length = sp.length := by
  unfold doP
  split
  · unfold stepP
    split
    · simp
    split
    · simp
    split
    · simp
    · rfl
  split
  · show (askS sp i).length = _
    unfold askS
    split
    · rw [List.length_set]
    · rfl
  split
  · exact turnS_len _ _ _ _
  split <;> rfl
theorem do_ops (P : Par) (σ : Ar) (sp : List Sp) (kd i : Int) : (doP P σ sp kd i).2.1.ops ≤ σ.ops + 1 ∧ σ.ops ≤ (doP P σ sp kd i).2.1.ops := by
  have h : ∀ (kd p v : Int) (wr : Bool), (σ.op kd p wr v).ops ≤ σ.ops + 1 ∧ σ.ops ≤ (σ.op kd p wr v).ops := by
    intro kd p v wr
    rw [op_ops]
    split <;> omega
  have h0 : σ.ops ≤ σ.ops + 1 ∧ σ.ops ≤ σ.ops := ⟨Nat.le_succ _, Nat.le_refl _⟩
  unfold doP
  split
  · unfold stepP
    split
    · exact h _ _ _ _
    split
    · exact h0
    split
    · exact h _ _ _ _
    · exact h0
  split
  · exact h0
  split
  · exact h0
  split
  · exact h0
  · exact h0
structure OkP (P : Par) (σ : Ar) (sp : List Sp) (n m : Nat) : Prop where
  inv : Inv P σ sp
  ops : σ.ops ≤ m + 1
  len : sp.length = n
section
variable {P : Par} {σ : Ar} {sp : List Sp} {n m : Nat} (h : OkP P σ sp n m)
include h
theorem OkP.act (kd i : Int) : OkP P (doP P σ sp kd i).2.1 (doP P σ sp kd i).2.2 n (m + 1) :=
  ⟨do_inv h.inv kd i, by have := do_ops P σ sp kd i; have := h.ops; omega, (do_len P σ sp kd i).trans h.len⟩
theorem OkP.one : cnt (fun s => s.pc == 10) sp n ≤ 1 := h.inv.one n
end
theorem zero_spot (n : Nat) (i : Int) : spOf (zeroS n) i = sp0 := by
  unfold spOf zeroS
  split
  · simp [List.getD_eq_getElem?_getD, List.getElem?_replicate]
    split <;> rfl
  · rfl
end Go.Proofs.YthffhhgaeolpgaaGreat.Ta

/- The document's lock of layer 15, in memory: what its methods do. -/
namespace Go.Proofs.YthffhhgaeolpgaaGreat.Ta
open Go.RowKit Go.Proofs.YthffhhgaeolpgaaGreat.Ara Go.Proofs.YthffhhgaeolpgaaGreat.Lok

def RLk (W : World) (gL gr base hs : Nat) (P : Par) (ρ : Rf) (sp : List Sp) : Prop :=
  RfAt W gr base ρ ∧ SpAt W hs sp ∧ sp.length ≤ 32 ∧ (∃ c : Nat, W.heap[gL]? = some (.cells #[.pointer (some ⟨gr, 0, none⟩), .int .i64 P.word, .int .i64 P.most, .slice (some ⟨hs, 0, none⟩) sp.length c] 140 (0, 0))) ∧ gL ≠ gr ∧ gL ≠ hs ∧ hs ≠ gr
theorem RLk.rms {base : Nat} {S : List Nat} {W W' : World} {gL gr hs : Nat} {P : Par} {ρ ρ' : Rf} {sp : List Sp} (k : RLk W gL gr base hs P ρ sp) (hr : RfAt W' gr base ρ') (hm : RMs base S W W') (h1 : gL ∉ S) (h2 : hs ∉ S) : RLk W' gL gr base hs P ρ' sp := by
  obtain ⟨_, k2, k3, ⟨c, k4⟩, k5⟩ := k
  exact ⟨hr, k2.rms hm h2, k3, ⟨c, (hm.blk k4 (by decide) h1).trans k4⟩, k5⟩
theorem RLk.mod {base : Nat} {S : List Nat} {W W' : World} {gL gr hs : Nat} {P : Par} {ρ : Rf} {sp : List Sp} (k : RLk W gL gr base hs P ρ sp) (hm : Mod S W W') (h : ∀ x ∈ S, x ≠ gr ∧ ¬ IntRow W x) (h1 : gL ∉ S) (h2 : hs ∉ S) : RLk W' gL gr base hs P ρ sp := by
  obtain ⟨k1, k2, k3, ⟨c, k4⟩, k5⟩ := k
  exact ⟨rf_mod k1 hm h, k2.mod hm h2, k3, ⟨c, hm.blk k4 h1⟩, k5⟩
theorem RLk.same {base : Nat} {W W' : World} {gL gr hs : Nat} {P : Par} {ρ : Rf} {sp : List Sp} (k : RLk W gL gr base hs P ρ sp) (hb : Below W.heap.size W W') : RLk W' gL gr base hs P ρ sp := k.mod (S := []) (Mod.of_below hb) (by simp) (by simp) (by simp)
theorem RLk.drewN {base : Nat} {W : World} {gL gr hs : Nat} {P : Par} {ρ : Rf} {sp : List Sp} (k : RLk W gL gr base hs P ρ sp) (n : Nat) : RLk (W.drewN n) gL gr base hs P ρ sp := k
theorem RLk.drew {base : Nat} {W : World} {gL gr hs : Nat} {P : Par} {ρ : Rf} {sp : List Sp} (k : RLk W gL gr base hs P ρ sp) : RLk W.drew gL gr base hs P ρ sp := k
theorem RLk.arena {base : Nat} {W W' : World} {gL gr hs : Nat} {P : Par} {ρ ρ' : Rf} {sp : List Sp} (k : RLk W gL gr base hs P ρ sp) (hr : RfAt W' gr base ρ') (hm : RMod base gr W W') : RLk W' gL gr base hs P ρ' sp := by
  obtain ⟨d1, d2, d3⟩ := k.2.2.2.2
  exact k.rms (S := [gr]) hr (RMs.of_r hm (by simp)) (by simp; omega) (by simp; omega)
theorem RLk.cellL {base : Nat} {W W' : World} {gL gr hs : Nat} {P : Par} {ρ : Rf} {sp : List Sp} (k : RLk W gL gr base hs P ρ sp) (hm : RMod base gr W W') (j : Nat) : W'.cell? ⟨gL, j, none⟩ = W.cell? ⟨gL, j, none⟩ := by
  obtain ⟨d1, d2, d3⟩ := k.2.2.2.2
  obtain ⟨_, _, _, ⟨c, k4⟩, _⟩ := k
  have := (RMs.of_r (S := [gr]) hm (by simp)).blk k4 (by decide) (by simp; omega)
  unfold World.cell?
  rw [this]
theorem RLk.cellS {base : Nat} {W W' : World} {gL gr hs : Nat} {P : Par} {ρ : Rf} {sp : List Sp} (k : RLk W gL gr base hs P ρ sp) (hm : RMod base gr W W') (j : Nat) : W'.cell? ⟨hs, j, none⟩ = W.cell? ⟨hs, j, none⟩ := by
  obtain ⟨d1, d2, d3⟩ := k.2.2.2.2
  obtain ⟨cur, k4, _⟩ := k.2.1
  have := (RMs.of_r (S := [gr]) hm (by simp)).blk k4 (by decide) (by simp; omega)
  unfold World.cell?
  rw [this]
theorem RLk.put {base : Nat} {W : World} {gL gr hs : Nat} {P : Par} {ρ : Rf} {sp : List Sp} (k : RLk W gL gr base hs P ρ sp) (i : Nat) (hi : i < sp.length) (j : Nat) (hj : j < 4) (v : Value) (s' : Sp) (hv : decSp s' = (decSp sp[i]).set j v) : RLk (W.setCell ⟨hs, i * 4 + j, none⟩ v) gL gr base hs P ρ (sp.set i s') := by
  have hm : Mod [hs] W (W.setCell ⟨hs, i * 4 + j, none⟩ v) := (Mod.refl _ _).setCell (by simp) _
  obtain ⟨k1, k2, k3, ⟨c, k4⟩, d1, d2, d3⟩ := k
  refine ⟨rf_mod k1 hm (fun x hx => ?_), k2.set i hi j hj v s' hv, by rw [List.length_set]; exact k3, ⟨c, ?_⟩, d1, d2, d3⟩
  · obtain rfl : x = hs := by simpa using hx
    exact ⟨d3, spot_not_int k2⟩
  · rw [List.length_set]
    exact hm.blk k4 (by simp; omega)
theorem RLk.heads {base : Nat} {W : World} {gL gr hs : Nat} {P : Par} {ρ : Rf} {sp : List Sp} (k : RLk W gL gr base hs P ρ sp) : (∃ c : Nat, W.cell? ⟨gL, 0, none⟩ = some (.pointer (some ⟨gr, 0, none⟩)) ∧ W.cell? ⟨gL, 1, none⟩ = some (.int .i64 P.word) ∧ W.cell? ⟨gL, 2, none⟩ = some (.int .i64 P.most) ∧ W.cell? ⟨gL, 3, none⟩ = some (.slice (some ⟨hs, 0, none⟩) sp.length c)) ∧ sp.length ≤ 32 := by
  obtain ⟨_, _, k3, ⟨c, k4⟩, _⟩ := k
  exact ⟨⟨c, blk_cell k4 0 (by simp), blk_cell k4 1 (by simp), blk_cell k4 2 (by simp), blk_cell k4 3 (by simp)⟩, k3⟩
theorem RLk.sets {base : Nat} {W : World} {gL gr hs : Nat} {P : Par} {ρ : Rf} {sp : List Sp} {i : Nat} {s : Sp} (k : RLk W gL gr base hs P ρ (sp.set i s)) (hi : i < sp.length) : (∃ c : Nat, W.cell? ⟨gL, 0, none⟩ = some (.pointer (some ⟨gr, 0, none⟩)) ∧ W.cell? ⟨gL, 1, none⟩ = some (.int .i64 P.word) ∧ W.cell? ⟨gL, 2, none⟩ = some (.int .i64 P.most) ∧ W.cell? ⟨gL, 3, none⟩ = some (.slice (some ⟨hs, 0, none⟩) sp.length c)) ∧ W.cell? ⟨hs, i * 4, none⟩ = some (.int .i64 s.pc) ∧ W.cell? ⟨hs, i * 4 + 1, none⟩ = some (.int .i64 s.a) ∧ W.cell? ⟨hs, i * 4 + 2, none⟩ = some (.int .i64 s.b) ∧ ∀ j, W.frozen? ⟨hs, j, none⟩ = false := by
  obtain ⟨h1, _⟩ := k.heads
  rw [List.length_set] at h1
  obtain ⟨c0, c1, c2, c3, cf⟩ := k.2.1.cells i (by rw [List.length_set]; exact hi)
  rw [List.getElem_set_self] at c0 c1 c2
  exact ⟨h1, c0, c1, c2, cf⟩
theorem RLk.put2 {base : Nat} {W : World} {gL gr hs : Nat} {P : Par} {ρ : Rf} {sp : List Sp} {i : Nat} {s : Sp} (k : RLk W gL gr base hs P ρ (sp.set i s)) (hi : i < sp.length) (j : Nat) (hj : j < 4) (v : Value) (s' : Sp) (hv : decSp s' = (decSp s).set j v) : RLk (W.setCell ⟨hs, i * 4 + j, none⟩ v) gL gr base hs P ρ (sp.set i s') := by
  have := k.put i (by rw [List.length_set]; exact hi) j hj v s' (by rw [List.getElem_set_self]; exact hv)
  rw [List.set_set] at this
  exact this
theorem RLk.self {base : Nat} {W : World} {gL gr hs : Nat} {P : Par} {ρ : Rf} {sp : List Sp} {i : Nat} (k : RLk W gL gr base hs P ρ sp) (hi : i < sp.length) : RLk W gL gr base hs P ρ (sp.set i sp[i]) := by
  rw [List.set_getElem_self]
  exact k
section
variable (gL gr base hs : Nat) (P : Par) (ρ : Rf) (sp : List Sp) (w : World) (H : RLk w gL gr base hs P ρ sp)
include H
end

section
variable (gL gr base hs : Nat) (P : Par) (ρ : Rf) (sp : List Sp) (w : World) (H : RLk w gL gr base hs P ρ sp)
include H
set_option maxRecDepth 100000 in
theorem rask_out (i : Int) (hi : i < 0 ∨ (sp.length : Int) ≤ i) : Calls Tryz.prog 93 #[.pointer (some ⟨gL, 0, none⟩), .int .i64 i] w fun e w' => e = .returned (.bool false) ∧ w' = w := by
  · obtain ⟨⟨cc, q0, q1, q2, q3⟩, hl32⟩ := H.heads
    clear H
    by_cases h0 : i < 0
    · go_enter Tryz.func93, Tryz.ntmps93
      go_wp2_with fail
      go_ret
      exact ⟨rfl, by trivial⟩
    · have h1 : (sp.length : Int) ≤ i := by omega
      have h2 : decide (i < 0) = false := decide_eq_false h0
      go_enter Tryz.func93, Tryz.ntmps93
      go_wp2_with fail
      go_ret
      exact ⟨rfl, by trivial⟩
set_option maxRecDepth 100000 in
theorem rask_no (k : Nat) (hk : k < sp.length) (hp : ¬ sp[k].pc = 0) : Calls Tryz.prog 93 #[.pointer (some ⟨gL, 0, none⟩), .int .i64 (k : Int)] w fun e w' => e = .returned (.bool false) ∧ w' = w := by
  have hk1 : (k : Int) < (sp.length : Int) := by omega
  have hk2 : (0 : Int) ≤ (k : Int) := by omega
  have hk3 : decide ((k : Int) < 0) = false := decide_eq_false (by omega)
  have hk4 : decide ((sp.length : Int) ≤ (k : Int)) = false := decide_eq_false (by omega)
  obtain ⟨⟨cc, q0, q1, q2, q3⟩, hl32⟩ := H.heads
  obtain ⟨c0, c1, c2, c3, cf⟩ := H.2.1.cells k hk
  have hlt := H.2.1.lt
  have e1 := ibne hp
  generalize sp[k].pc = x at *
  clear H hp c1 c2 c3 cf
  go_enter Tryz.func93, Tryz.ntmps93
  go_wp2_with fail
  go_ret
  exact ⟨rfl, by trivial⟩
set_option maxRecDepth 100000 in
theorem rask_yes (k : Nat) (hk : k < sp.length) (hp : sp[k].pc = 0) (sp2 : List Sp) (h2 : sp2 = sp.set k { sp[k] with pc := 1, a := 1 }) : Calls Tryz.prog 93 #[.pointer (some ⟨gL, 0, none⟩), .int .i64 (k : Int)] w fun e w' => e = .returned (.bool true) ∧ RLk w' gL gr base hs P ρ sp2 ∧ Mod [hs] w w' := by
  have hk1 : (k : Int) < (sp.length : Int) := by omega
  have hk2 : (0 : Int) ≤ (k : Int) := by omega
  have hk3 : decide ((k : Int) < 0) = false := decide_eq_false (by omega)
  have hk4 : decide ((sp.length : Int) ≤ (k : Int)) = false := decide_eq_false (by omega)
  obtain ⟨⟨cc, q0, q1, q2, q3⟩, hl32⟩ := H.heads
  obtain ⟨c0, c1, c2, c3, cf⟩ := H.2.1.cells k hk
  have hlt := H.2.1.lt
  have u1 := H.put k hk 0 (by omega) (.int .i64 1) { sp[k] with pc := 1 } rfl
  have l1 : k < (sp.set k { sp[k] with pc := 1 }).length := by rw [List.length_set]; exact hk
  have u2 := u1.put k l1 1 (by omega) (.int .i64 1) { sp[k] with pc := 1, a := 1 } (by rw [List.getElem_set_self]; rfl)
  rw [List.set_set, ← h2] at u2
  have HU := Lib.hid u2
  have hne : gL ≠ hs := H.2.2.2.2.2.1
  rw [hp] at c0
  have f0 := cf (k * 4)
  have f1 := cf (k * 4 + 1)
  have HMM := Lib.hid (show Mod [hs] w ((w.setCell ⟨hs, k * 4, none⟩ (.int .i64 1)).setCell ⟨hs, k * 4 + 1, none⟩ (.int .i64 1)) from ((Mod.refl _ _).setCell (by simp) _).setCell (by simp) _)
  have HP := Lib.hid hp
  clear u1 u2 l1 h2 H hp c2 c3 cf
  go_enter Tryz.func93, Tryz.ntmps93
  go_wp2_with fail
  go_ret
  exact ⟨rfl, HU.out, HMM.out⟩
set_option maxRecDepth 100000 in
theorem rleave_out (i : Int) (hi : i < 0 ∨ (sp.length : Int) ≤ i) : Calls Tryz.prog 98 #[.pointer (some ⟨gL, 0, none⟩), .int .i64 i] w fun e w' => e = .returned (.bool false) ∧ w' = w := by
  · obtain ⟨⟨cc, q0, q1, q2, q3⟩, hl32⟩ := H.heads
    clear H
    by_cases h0 : i < 0
    · go_enter Tryz.func98, Tryz.ntmps98
      go_wp2_with fail
      go_ret
      exact ⟨rfl, by trivial⟩
    · have h1 : (sp.length : Int) ≤ i := by omega
      have h2 : decide (i < 0) = false := decide_eq_false h0
      go_enter Tryz.func98, Tryz.ntmps98
      go_wp2_with fail
      go_ret
      exact ⟨rfl, by trivial⟩
set_option maxRecDepth 100000 in
theorem rleave_no (k : Nat) (hk : k < sp.length) (hp : ¬ sp[k].pc = 10) : Calls Tryz.prog 98 #[.pointer (some ⟨gL, 0, none⟩), .int .i64 (k : Int)] w fun e w' => e = .returned (.bool false) ∧ w' = w := by
  have hk1 : (k : Int) < (sp.length : Int) := by omega
  have hk2 : (0 : Int) ≤ (k : Int) := by omega
  have hk3 : decide ((k : Int) < 0) = false := decide_eq_false (by omega)
  have hk4 : decide ((sp.length : Int) ≤ (k : Int)) = false := decide_eq_false (by omega)
  obtain ⟨⟨cc, q0, q1, q2, q3⟩, hl32⟩ := H.heads
  obtain ⟨c0, c1, c2, c3, cf⟩ := H.2.1.cells k hk
  have hlt := H.2.1.lt
  have e1 := ibne hp
  generalize sp[k].pc = x at *
  clear H hp c1 c2 c3 cf
  go_enter Tryz.func98, Tryz.ntmps98
  go_wp2_with fail
  go_ret
  exact ⟨rfl, by trivial⟩
set_option maxRecDepth 100000 in
theorem rleave_yes (k : Nat) (hk : k < sp.length) (hp : sp[k].pc = 10) (sp2 : List Sp) (h2 : sp2 = sp.set k { sp[k] with pc := 11 }) : Calls Tryz.prog 98 #[.pointer (some ⟨gL, 0, none⟩), .int .i64 (k : Int)] w fun e w' => e = .returned (.bool true) ∧ RLk w' gL gr base hs P ρ sp2 ∧ Mod [hs] w w' := by
  have hk1 : (k : Int) < (sp.length : Int) := by omega
  have hk2 : (0 : Int) ≤ (k : Int) := by omega
  have hk3 : decide ((k : Int) < 0) = false := decide_eq_false (by omega)
  have hk4 : decide ((sp.length : Int) ≤ (k : Int)) = false := decide_eq_false (by omega)
  obtain ⟨⟨cc, q0, q1, q2, q3⟩, hl32⟩ := H.heads
  obtain ⟨c0, c1, c2, c3, cf⟩ := H.2.1.cells k hk
  have hlt := H.2.1.lt
  have u1 := H.put k hk 0 (by omega) (.int .i64 11) { sp[k] with pc := 11 } rfl
  rw [← h2] at u1
  have HU := Lib.hid u1
  rw [hp] at c0
  have f0 := cf (k * 4)
  have HMM := Lib.hid (show Mod [hs] w (w.setCell ⟨hs, k * 4, none⟩ (.int .i64 11)) from (Mod.refl _ _).setCell (by simp) _)
  have HP := Lib.hid hp
  clear u1 h2 H hp c1 c2 c3 cf
  go_enter Tryz.func98, Tryz.ntmps98
  go_wp2_with fail
  go_ret
  exact ⟨rfl, HU.out, HMM.out⟩
theorem rstep_outr (i : Int) (hi : i < 0 ∨ (sp.length : Int) ≤ i) : Calls Tryz.prog 88 #[.pointer (some ⟨gL, 0, none⟩), .int .i64 i] w fun e w' => e = .returned (.bool false) ∧ w' = w := by
  · obtain ⟨⟨cc, q0, q1, q2, q3⟩, hl32⟩ := H.heads
    clear H
    by_cases h0 : i < 0
    · go_enter Tryz.func88, Tryz.ntmps88
      go_wp2_with fail
      go_ret
      exact ⟨rfl, by trivial⟩
    · have h1 : (sp.length : Int) ≤ i := by omega
      have h2 : decide (i < 0) = false := decide_eq_false h0
      go_enter Tryz.func88, Tryz.ntmps88
      go_wp2_with fail
      go_ret
      exact ⟨rfl, by trivial⟩
set_option maxRecDepth 100000 in
theorem rstep_none (k : Nat) (hk : k < sp.length) (h : ¬ (sp[k].pc = 1 ∨ sp[k].pc = 2 ∨ sp[k].pc = 11)) : Calls Tryz.prog 88 #[.pointer (some ⟨gL, 0, none⟩), .int .i64 (k : Int)] w fun e w' => e = .returned (.bool false) ∧ w' = w := by
  have hk1 : (k : Int) < (sp.length : Int) := by omega
  have hk2 : (0 : Int) ≤ (k : Int) := by omega
  have hk3 : decide ((k : Int) < 0) = false := decide_eq_false (by omega)
  have hk4 : decide ((sp.length : Int) ≤ (k : Int)) = false := decide_eq_false (by omega)
  obtain ⟨⟨cc, q0, q1, q2, q3⟩, hl32⟩ := H.heads
  obtain ⟨c0, c1, c2, c3, cf⟩ := H.2.1.cells k hk
  have hlt := H.2.1.lt
  have e1 := ibeq_no (show ¬ sp[k].pc = 1 by omega)
  have e2 := ibeq_no (show ¬ sp[k].pc = 2 by omega)
  have e3 := ibeq_no (show ¬ sp[k].pc = 11 by omega)
  generalize sp[k].pc = x at *
  clear H h c1 c2 c3 cf
  go_enter Tryz.func88, Tryz.ntmps88
  go_wp2_with fail
  go_ret
  exact ⟨rfl, by trivial⟩
omit H in
theorem RLk.two {base : Nat} {W : World} {gL gr hs : Nat} {P : Par} {ρ : Rf} {sp : List Sp} (k : RLk W gL gr base hs P ρ sp) : W.cell? ⟨gL, 0, none⟩ = some (.pointer (some ⟨gr, 0, none⟩)) ∧ W.cell? ⟨gL, 1, none⟩ = some (.int .i64 P.word) := by
  obtain ⟨⟨c, h0, h1, _, _⟩, _⟩ := k.heads
  exact ⟨h0, h1⟩
set_option maxHeartbeats 4000000 in
set_option maxRecDepth 100000 in
theorem rstep_out (ho : ρ.ops < 1000000) (k : Nat) (hk : k < sp.length) (hp : sp[k].pc = 11) (sp2 : List Sp) (h2 : sp2 = sp.set k { sp[k] with pc := 0 }) : Calls Tryz.prog 88 #[.pointer (some ⟨gL, 0, none⟩), .int .i64 (k : Int)] w fun e w' => e = .returned (.bool true) ∧ RLk w' gL gr base hs P (ρ.op 2 P.word true 0) sp2 ∧ RMs base [gr, hs] w w' := by
  have HSt := Lib.hid (fun W (K : RfAt W gr base ρ) => rstore_any gr base ρ W K P.word ho 0)
  have hk1 : (k : Int) < (sp.length : Int) := by omega
  have hk2 : (0 : Int) ≤ (k : Int) := by omega
  have hk3 : decide ((k : Int) < 0) = false := decide_eq_false (by omega)
  have hk4 : decide ((sp.length : Int) ≤ (k : Int)) = false := decide_eq_false (by omega)
  obtain ⟨⟨cc, q0, q1, q2, q3⟩, hl32⟩ := H.heads
  obtain ⟨c0, c1, c2, c3, cf⟩ := H.2.1.cells k hk
  have hlt := H.2.1.lt
  have HH := Lib.hid (H.self hk)
  rw [hp] at c0
  have HP := Lib.hid hp
  clear H hp c1 c2 c3 cf
  generalize ρ.op 2 P.word true 0 = ρ2 at *
  go_enter Tryz.func88, Tryz.ntmps88
  go_wp2_with fail
  go_region_held3 (fun V => V.cell? ⟨gL, 0, none⟩ = some (.pointer (some ⟨gr, 0, none⟩)) ∧ V.cell? ⟨gL, 1, none⟩ = some (.int .i64 P.word))
    (first | exact ⟨q0, q1⟩ | exact k2)
    (first | (go_at_call 87; refine (HSt.out _ (HH.out.drewN 1).1).mono ?_; rintro e w2 ⟨rfl, ha2, hm2⟩; have H2 := Lib.hid ((HH.out.drewN 1).arena ha2 hm2); have k2 := H2.out.two))
  have HM := Lib.hid (show RMs base [gr, hs] w w2 from ((RMs.refl _ _ _).drewN 1).trans (RMs.of_r hm2 (by simp)))
  clear k2 ha2 hm2 q0 q1 q2 q3 c0
  obtain ⟨⟨cc, q0, q1, q2, q3⟩, c0, c1, c2, cf⟩ := (H2).out.sets hk
  have f0 := cf (k * 4)
  have f1 := cf (k * 4 + 1)
  have f2 := cf (k * 4 + 2)
  clear cf
  rw [HP.out] at c0
  go_wp2_with fail
  go_ret
  exact ⟨rfl, by rw [h2]; exact H2.out.put2 hk 0 (by omega) _ _ rfl, HM.out.trans (RMs.of_mod ((Mod.refl _ _).setCell (by simp) _))⟩
set_option maxHeartbeats 4000000 in
set_option maxRecDepth 100000 in
theorem rstep_one_yes (ho : ρ.ops < 1000000) (k : Nat) (hk : k < sp.length) (hp : sp[k].pc = 1) (hc : (ρ.has P.word && (ρ.get P.word == 0)) = true) (ρ2 : Rf) (hρ : ρ2 = ρ.op 4 P.word (ρ.get P.word == 0) ((k : Int) + 1)) (sp2 : List Sp) (h2 : sp2 = sp.set k { sp[k] with pc := 10 }) : Calls Tryz.prog 88 #[.pointer (some ⟨gL, 0, none⟩), .int .i64 (k : Int)] w fun e w' => e = .returned (.bool true) ∧ RLk w' gL gr base hs P ρ2 sp2 ∧ RMs base [gr, hs] w w' := by
  have HSt := fun W (K : RfAt W gr base ρ) => rcas_any gr base ρ W K P.word ho 0 ((k : Int) + 1)
  rw [hc, ← hρ] at HSt
  replace HSt := Lib.hid HSt
  have hk1 : (k : Int) < (sp.length : Int) := by omega
  have hk2 : (0 : Int) ≤ (k : Int) := by omega
  have hk3 : decide ((k : Int) < 0) = false := decide_eq_false (by omega)
  have hk4 : decide ((sp.length : Int) ≤ (k : Int)) = false := decide_eq_false (by omega)
  obtain ⟨⟨cc, q0, q1, q2, q3⟩, hl32⟩ := H.heads
  obtain ⟨c0, c1, c2, c3, cf⟩ := H.2.1.cells k hk
  have hlt := H.2.1.lt
  have HH := Lib.hid (H.self hk)
  rw [hp] at c0
  have HP := Lib.hid hp
  have e1 : IntKind.i64.wrap ((k : Int) + 1) = (k : Int) + 1 := IntWalk.i64_in _ (by omega)
  clear H hp c1 c2 c3 cf hc hρ
  go_enter Tryz.func88, Tryz.ntmps88
  go_wp2_with fail
  go_region_held3 (fun V => V.cell? ⟨gL, 0, none⟩ = some (.pointer (some ⟨gr, 0, none⟩)) ∧ V.cell? ⟨gL, 1, none⟩ = some (.int .i64 P.word))
    (first | exact ⟨q0, q1⟩ | exact k2)
    (first | (go_at_call 117; refine (HSt.out _ (HH.out.drewN 1).1).mono ?_; rintro e w2 ⟨rfl, ha2, hm2⟩; have H2 := Lib.hid ((HH.out.drewN 1).arena ha2 hm2); have k2 := H2.out.two))
  have HM := Lib.hid (show RMs base [gr, hs] w w2 from ((RMs.refl _ _ _).drewN 1).trans (RMs.of_r hm2 (by simp)))
  clear k2 ha2 hm2 q0 q1 q2 q3 c0
  obtain ⟨⟨cc, q0, q1, q2, q3⟩, c0, c1, c2, cf⟩ := (H2).out.sets hk
  have f0 := cf (k * 4)
  have f1 := cf (k * 4 + 1)
  have f2 := cf (k * 4 + 2)
  clear cf
  rw [HP.out] at c0
  go_wp2_with fail
  go_ret
  exact ⟨rfl, by rw [h2]; exact H2.out.put2 hk 0 (by omega) _ _ rfl, HM.out.trans (RMs.of_mod ((Mod.refl _ _).setCell (by simp) _))⟩
set_option maxHeartbeats 8000000 in
set_option maxRecDepth 100000 in
theorem rstep_one_no (ho : ρ.ops < 1000000) (k : Nat) (hk : k < sp.length) (hp : sp[k].pc = 1) (hr : 0 ≤ sp[k].a ∧ sp[k].a ≤ 4096) (hc : (ρ.has P.word && (ρ.get P.word == 0)) = false) (ρ2 : Rf) (hρ : ρ2 = ρ.op 4 P.word (ρ.get P.word == 0) ((k : Int) + 1)) (sp2 : List Sp) (h2 : sp2 = sp.set k ⟨2, min (2 * sp[k].a) P.most, sp[k].a, sp[k].c⟩) : Calls Tryz.prog 88 #[.pointer (some ⟨gL, 0, none⟩), .int .i64 (k : Int)] w fun e w' => e = .returned (.bool false) ∧ RLk w' gL gr base hs P ρ2 sp2 ∧ RMs base [gr, hs] w w' := by
  have HSt := fun W (K : RfAt W gr base ρ) => rcas_any gr base ρ W K P.word ho 0 ((k : Int) + 1)
  rw [hc, ← hρ] at HSt
  replace HSt := Lib.hid HSt
  have hk1 : (k : Int) < (sp.length : Int) := by omega
  have hk2 : (0 : Int) ≤ (k : Int) := by omega
  have hk3 : decide ((k : Int) < 0) = false := decide_eq_false (by omega)
  have hk4 : decide ((sp.length : Int) ≤ (k : Int)) = false := decide_eq_false (by omega)
  obtain ⟨⟨cc, q0, q1, q2, q3⟩, hl32⟩ := H.heads
  obtain ⟨c0, c1, c2, c3, cf⟩ := H.2.1.cells k hk
  have hlt := H.2.1.lt
  have HH := Lib.hid (H.self hk)
  rw [hp] at c0
  obtain ⟨xp, xa, xb, xc, hx⟩ : ∃ xp xa xb xc, sp[k] = ⟨xp, xa, xb, xc⟩ := ⟨_, _, _, _, rfl⟩
  have HP := Lib.hid (show xp = 1 by rw [hx] at hp; exact hp)
  rw [hx] at HH hr h2
  simp only at hr h2
  have e1 : IntKind.i64.wrap ((k : Int) + 1) = (k : Int) + 1 := IntWalk.i64_in _ (by omega)
  have e2 : IntKind.i64.wrap (2 * xa) = 2 * xa := IntWalk.i64_in _ (by omega)
  have HS2 := Lib.hid h2
  clear H hp c1 c2 c3 cf hc hρ hx h2
  go_enter Tryz.func88, Tryz.ntmps88
  go_wp2_with fail
  go_region_held3 (fun V => V.cell? ⟨gL, 0, none⟩ = some (.pointer (some ⟨gr, 0, none⟩)) ∧ V.cell? ⟨gL, 1, none⟩ = some (.int .i64 P.word))
    (first | exact ⟨q0, q1⟩ | exact k2)
    (first | (go_at_call 117; refine (HSt.out _ (HH.out.drewN 1).1).mono ?_; rintro e w2 ⟨rfl, ha2, hm2⟩; have H2 := Lib.hid ((HH.out.drewN 1).arena ha2 hm2); have k2 := H2.out.two))
  have HM := Lib.hid (show RMs base [gr, hs] w w2 from ((RMs.refl _ _ _).drewN 1).trans (RMs.of_r hm2 (by simp)))
  clear k2 ha2 hm2 q0 q1 q2 q3 c0
  obtain ⟨⟨cc, q0, q1, q2, q3⟩, c0, c1, c2, cf⟩ := (H2).out.sets hk
  have f0 := cf (k * 4)
  have f1 := cf (k * 4 + 1)
  have f2 := cf (k * 4 + 2)
  clear cf
  simp only at c0 c1 c2
  rw [HP.out] at c0
  go_wp2_with fail
  go_region
  have HX := Lib.hid (show RLk _ gL gr base hs P ρ2 (sp.set k (⟨xp, xa, xa, xc⟩ : Sp)) from (H2.out.put2 hk 2 (by omega) (.int .i64 (xa)) (⟨xp, xa, xa, xc⟩ : Sp) rfl).drew)
  have HY := Lib.hid (HM.out.trans ((RMs.of_mod ((Mod.refl [gr, hs] w2).setCell (p := ⟨hs, k * 4 + 2, none⟩) (by simp) (.int .i64 (xa)))).drew))
  clear H2 HM q0 q1 q2 q3 c0 c1 c2 f0 f1 f2
  have H2 := HX
  have HM := HY
  clear HX HY
  generalize (w2.setCell ⟨hs, k * 4 + 2, none⟩ (.int .i64 xa)).drew = w3 at *
  obtain ⟨⟨cc, q0, q1, q2, q3⟩, c0, c1, c2, cf⟩ := (H2).out.sets hk
  have f0 := cf (k * 4)
  have f1 := cf (k * 4 + 1)
  have f2 := cf (k * 4 + 2)
  clear cf
  simp only at c0 c1 c2
  rw [HP.out] at c0
  go_wp2_with fail
  go_region
  have HX := Lib.hid (show RLk _ gL gr base hs P ρ2 (sp.set k (⟨xp, 2 * xa, xa, xc⟩ : Sp)) from (H2.out.put2 hk 1 (by omega) (.int .i64 (2 * xa)) (⟨xp, 2 * xa, xa, xc⟩ : Sp) rfl).drew)
  have HY := Lib.hid (HM.out.trans ((RMs.of_mod ((Mod.refl [gr, hs] w3).setCell (p := ⟨hs, k * 4 + 1, none⟩) (by simp) (.int .i64 (2 * xa)))).drew))
  clear H2 HM q0 q1 q2 q3 c0 c1 c2 f0 f1 f2
  have H2 := HX
  have HM := HY
  clear HX HY
  generalize (w3.setCell ⟨hs, k * 4 + 1, none⟩ (.int .i64 (2 * xa))).drew = w4 at *
  obtain ⟨⟨cc, q0, q1, q2, q3⟩, c0, c1, c2, cf⟩ := (H2).out.sets hk
  have f0 := cf (k * 4)
  have f1 := cf (k * 4 + 1)
  have f2 := cf (k * 4 + 2)
  clear cf
  simp only at c0 c1 c2
  rw [HP.out] at c0
  by_cases hm : P.most < 2 * xa
  · go_wp2_with fail
    go_quiet (fail)
    have HX := Lib.hid (H2.out.drewN nq)
    have HY := Lib.hid (HM.out.drewN nq)
    clear H2 HM q0 q1 q2 q3 c0 c1 c2 f0 f1 f2
    have H2 := HX
    have HM := HY
    clear HX HY
    generalize w4.drewN nq = w5 at *
    obtain ⟨⟨cc, q0, q1, q2, q3⟩, c0, c1, c2, cf⟩ := (H2).out.sets hk
    have f0 := cf (k * 4)
    have f1 := cf (k * 4 + 1)
    have f2 := cf (k * 4 + 2)
    clear cf
    simp only at c0 c1 c2
    rw [HP.out] at c0
    go_wp2_with fail
    go_region
    have HX := Lib.hid (show RLk _ gL gr base hs P ρ2 (sp.set k (⟨xp, P.most, xa, xc⟩ : Sp)) from (H2.out.put2 hk 1 (by omega) (.int .i64 (P.most)) (⟨xp, P.most, xa, xc⟩ : Sp) rfl).drew)
    have HY := Lib.hid (HM.out.trans ((RMs.of_mod ((Mod.refl [gr, hs] w5).setCell (p := ⟨hs, k * 4 + 1, none⟩) (by simp) (.int .i64 (P.most)))).drew))
    clear H2 HM q0 q1 q2 q3 c0 c1 c2 f0 f1 f2
    have H2 := HX
    have HM := HY
    clear HX HY
    generalize (w5.setCell ⟨hs, k * 4 + 1, none⟩ (.int .i64 P.most)).drew = w6 at *
    obtain ⟨⟨cc, q0, q1, q2, q3⟩, c0, c1, c2, cf⟩ := (H2).out.sets hk
    have f0 := cf (k * 4)
    have f1 := cf (k * 4 + 1)
    have f2 := cf (k * 4 + 2)
    clear cf
    simp only at c0 c1 c2
    rw [HP.out] at c0
    go_wp2_with fail
    go_ret
    exact ⟨rfl, by rw [HS2.out, show min (2 * xa) P.most = P.most by omega]; exact H2.out.put2 hk 0 (by omega) _ _ rfl, HM.out.trans (RMs.of_mod ((Mod.refl _ _).setCell (by simp) _))⟩
  · have hm2 : decide (P.most < 2 * xa) = false := decide_eq_false hm
    go_wp2_with fail
    go_quiet (fail)
    have HX := Lib.hid (H2.out.drewN nq)
    have HY := Lib.hid (HM.out.drewN nq)
    clear H2 HM q0 q1 q2 q3 c0 c1 c2 f0 f1 f2
    have H2 := HX
    have HM := HY
    clear HX HY
    generalize w4.drewN nq = w5 at *
    obtain ⟨⟨cc, q0, q1, q2, q3⟩, c0, c1, c2, cf⟩ := (H2).out.sets hk
    have f0 := cf (k * 4)
    have f1 := cf (k * 4 + 1)
    have f2 := cf (k * 4 + 2)
    clear cf
    simp only at c0 c1 c2
    rw [HP.out] at c0
    go_wp2_with fail
    go_ret
    exact ⟨rfl, by rw [HS2.out, show min (2 * xa) P.most = 2 * xa by omega]; exact H2.out.put2 hk 0 (by omega) _ _ rfl, HM.out.trans (RMs.of_mod ((Mod.refl _ _).setCell (by simp) _))⟩
set_option maxHeartbeats 8000000 in
set_option maxRecDepth 100000 in
theorem rstep_two (k : Nat) (hk : k < sp.length) (hp : sp[k].pc = 2) (hb : 0 ≤ sp[k].b ∧ sp[k].b ≤ 4096) (sp2 : List Sp) (h2 : sp2 = sp.set k ⟨if sp[k].b - 1 = 0 then 1 else 2, sp[k].a, sp[k].b - 1, sp[k].c⟩) : Calls Tryz.prog 88 #[.pointer (some ⟨gL, 0, none⟩), .int .i64 (k : Int)] w fun e w' => e = .returned (.bool false) ∧ RLk w' gL gr base hs P ρ sp2 ∧ RMs base [gr, hs] w w' := by
  have hk1 : (k : Int) < (sp.length : Int) := by omega
  have hk2 : (0 : Int) ≤ (k : Int) := by omega
  have hk3 : decide ((k : Int) < 0) = false := decide_eq_false (by omega)
  have hk4 : decide ((sp.length : Int) ≤ (k : Int)) = false := decide_eq_false (by omega)
  obtain ⟨⟨cc, q0, q1, q2, q3⟩, hl32⟩ := H.heads
  obtain ⟨c0, c1, c2, c3, cf⟩ := H.2.1.cells k hk
  have hlt := H.2.1.lt
  have H2 := Lib.hid (H.self hk)
  have HM := Lib.hid (RMs.refl base [gr, hs] w)
  obtain ⟨xp, xa, xb, xc, hx⟩ : ∃ xp xa xb xc, sp[k] = ⟨xp, xa, xb, xc⟩ := ⟨_, _, _, _, rfl⟩
  have HP := Lib.hid (show xp = 2 by rw [hx] at hp; exact hp)
  rw [hx] at H2 hb h2
  simp only at hb h2
  have e1 : IntKind.i64.wrap (xb - 1) = xb - 1 := IntWalk.i64_in _ (by omega)
  have HS2 := Lib.hid h2
  clear H hp c0 c1 c2 c3 cf hx h2 q0 q1 q2 q3
  obtain ⟨⟨cc, q0, q1, q2, q3⟩, c0, c1, c2, cf⟩ := H2.out.sets hk
  have f0 := cf (k * 4)
  have f1 := cf (k * 4 + 1)
  have f2 := cf (k * 4 + 2)
  clear cf
  simp only at c0 c1 c2
  rw [HP.out] at c0
  obtain ⟨ρ2, hρ⟩ : ∃ ρ2, ρ = ρ2 := ⟨_, rfl⟩
  rw [hρ] at H2 ⊢
  go_enter Tryz.func88, Tryz.ntmps88
  go_wp2_with fail
  go_region
  have HX := Lib.hid (show RLk _ gL gr base hs P ρ2 (sp.set k (⟨xp, xa, xb - 1, xc⟩ : Sp)) from (H2.out.put2 hk 2 (by omega) (.int .i64 (xb - 1)) (⟨xp, xa, xb - 1, xc⟩ : Sp) rfl).drew)
  have HY := Lib.hid (HM.out.trans ((RMs.of_mod ((Mod.refl [gr, hs] w).setCell (p := ⟨hs, k * 4 + 2, none⟩) (by simp) (.int .i64 (xb - 1)))).drew))
  clear H2 HM q0 q1 q2 q3 c0 c1 c2 f0 f1 f2
  have H2 := HX
  have HM := HY
  clear HX HY
  generalize (w.setCell ⟨hs, k * 4 + 2, none⟩ (.int .i64 (xb - 1))).drew = w3 at *
  obtain ⟨⟨cc, q0, q1, q2, q3⟩, c0, c1, c2, cf⟩ := (H2).out.sets hk
  have f0 := cf (k * 4)
  have f1 := cf (k * 4 + 1)
  have f2 := cf (k * 4 + 2)
  clear cf
  simp only at c0 c1 c2
  rw [HP.out] at c0
  by_cases hz : xb - 1 = 0
  · have e9 := ibeq hz
    clear hz
    go_wp2_with fail
    go_ret
    exact ⟨rfl, by rw [HS2.out, if_pos (by simpa using e9)]; exact H2.out.put2 hk 0 (by omega) _ _ rfl, HM.out.trans (RMs.of_mod ((Mod.refl _ _).setCell (by simp) _))⟩
  · have e9 := ibeq_no hz
    have HZ := Lib.hid hz
    clear hz
    go_wp2_with fail
    go_ret
    exact ⟨rfl, by rw [HS2.out, if_neg HZ.out, ← HP.out]; exact H2.out, HM.out⟩
end
end Go.Proofs.YthffhhgaeolpgaaGreat.Ta

/- The document's lock of layer 15: each act, whole. -/
namespace Go.Proofs.YthffhhgaeolpgaaGreat.Ta
open Go.RowKit Go.Proofs.YthffhhgaeolpgaaGreat.Ara Go.Proofs.YthffhhgaeolpgaaGreat.Lok

def RAft (gL gr base hs : Nat) (P : Par) (r : Bool × Ar × List Sp) (w : World) (e : Ending) (w' : World) : Prop :=
  e = .returned (.bool r.1) ∧ (∃ ρ', Alk r.2.1 ρ' ∧ RLk w' gL gr base hs P ρ' r.2.2) ∧ RMs base [gr, hs] w w'
section
variable (gL gr base hs : Nat) (P : Par) (σ : Ar) (ρ : Rf) (sp : List Sp) (w : World) (H : RLk w gL gr base hs P ρ sp) (hA : Alk σ ρ)
include H hA
theorem rask (i : Int) : Calls Tryz.prog 93 #[.pointer (some ⟨gL, 0, none⟩), .int .i64 i] w (RAft gL gr base hs P (doP P σ sp 1 i) w) := by
  show Calls _ _ _ _ (RAft gL gr base hs P (turnB sp i 0, σ, askS sp i) w)
  by_cases hi : i < 0 ∨ (sp.length : Int) ≤ i
  · refine (rask_out gL gr base hs P ρ sp w H i hi).mono ?_
    rintro e w' ⟨rfl, rfl⟩
    unfold askS
    rw [turn_out hi, if_neg (by decide)]
    exact ⟨rfl, ⟨ρ, hA, H⟩, RMs.refl _ _ _⟩
  · obtain ⟨k, rfl⟩ := Int.eq_ofNat_of_zero_le (show 0 ≤ i by omega)
    have hk : k < sp.length := by omega
    unfold askS
    rw [turn_in hk, spOf_in hk, Int.toNat_natCast]
    by_cases hp : sp[k].pc = 0
    · rw [show (sp[k].pc == 0) = true from by simpa using hp, if_pos rfl]
      refine (rask_yes gL gr base hs P ρ sp w H k hk hp _ rfl).mono ?_
      rintro e w' ⟨rfl, h1, h2⟩
      exact ⟨rfl, ⟨ρ, hA, h1⟩, RMs.of_mod (h2.sub (by simp))⟩
    · rw [show (sp[k].pc == 0) = false from by simpa using hp, if_neg (by decide)]
      refine (rask_no gL gr base hs P ρ sp w H k hk hp).mono ?_
      rintro e w' ⟨rfl, rfl⟩
      exact ⟨rfl, ⟨ρ, hA, H⟩, RMs.refl _ _ _⟩
theorem rleave (i : Int) : Calls Tryz.prog 98 #[.pointer (some ⟨gL, 0, none⟩), .int .i64 i] w (RAft gL gr base hs P (doP P σ sp 2 i) w) := by
  show Calls _ _ _ _ (RAft gL gr base hs P (turnB sp i 10, σ, turnS sp i 10 11) w)
  by_cases hi : i < 0 ∨ (sp.length : Int) ≤ i
  · refine (rleave_out gL gr base hs P ρ sp w H i hi).mono ?_
    rintro e w' ⟨rfl, rfl⟩
    rw [turn_out hi, turnS_out hi]
    exact ⟨rfl, ⟨ρ, hA, H⟩, RMs.refl _ _ _⟩
  · obtain ⟨k, rfl⟩ := Int.eq_ofNat_of_zero_le (show 0 ≤ i by omega)
    have hk : k < sp.length := by omega
    rw [turn_in hk, turnS_in hk]
    by_cases hp : sp[k].pc = 10
    · rw [show (sp[k].pc == 10) = true from by simpa using hp, if_pos hp]
      refine (rleave_yes gL gr base hs P ρ sp w H k hk hp _ rfl).mono ?_
      rintro e w' ⟨rfl, h1, h2⟩
      exact ⟨rfl, ⟨ρ, hA, h1⟩, RMs.of_mod (h2.sub (by simp))⟩
    · rw [show (sp[k].pc == 10) = false from by simpa using hp, if_neg hp]
      refine (rleave_no gL gr base hs P ρ sp w H k hk hp).mono ?_
      rintro e w' ⟨rfl, rfl⟩
      exact ⟨rfl, ⟨ρ, hA, H⟩, RMs.refl _ _ _⟩
theorem rstep (hI : Inv P σ sp) (ho : σ.ops < 1000000) (i : Int) : Calls Tryz.prog 88 #[.pointer (some ⟨gL, 0, none⟩), .int .i64 i] w (RAft gL gr base hs P (doP P σ sp 0 i) w) := by
  show Calls _ _ _ _ (RAft gL gr base hs P (stepP P σ sp i) w)
  have hro : ρ.ops < 1000000 := by have := hA.2.2.2.2.1; omega
  by_cases hi : i < 0 ∨ (sp.length : Int) ≤ i
  · refine (rstep_outr gL gr base hs P ρ sp w H i hi).mono ?_
    rintro e w' ⟨rfl, rfl⟩
    have e : stepP P σ sp i = (false, σ, sp) := by unfold stepP; rw [spOf_out hi, if_neg (by decide), if_neg (by decide), if_neg (by decide)]
    rw [e]
    exact ⟨rfl, ⟨ρ, hA, H⟩, RMs.refl _ _ _⟩
  obtain ⟨k, rfl⟩ := Int.eq_ofNat_of_zero_le (show 0 ≤ i by omega)
  have hk : k < sp.length := by omega
  have har := hI.ar (k : Int)
  have hbr := hI.br (k : Int)
  unfold stepP
  rw [spOf_in hk] at har hbr ⊢
  simp only [Int.toNat_natCast]
  have htry : tryB P σ = (σ.has P.word && (σ.get P.word == 0)) := rfl
  by_cases h1 : sp[k].pc = 1
  · rw [if_pos h1]
    have hal : Alk (σ.op 4 P.word (tryB P σ) ((k : Int) + 1)) (ρ.op 4 P.word (ρ.get P.word == 0) ((k : Int) + 1)) := by rw [htry]; exact cas_same hA _ _ _
    cases hc : tryB P σ with
    | true =>
      rw [hc] at hal
      simp only [if_true]
      refine (rstep_one_yes gL gr base hs P ρ sp w H hro k hk h1 (by rw [hA.has, hA.get, ← htry]; exact hc) _ rfl _ rfl).mono ?_
      rintro e w' ⟨rfl, h1, h2⟩
      exact ⟨rfl, ⟨_, hal, h1⟩, h2⟩
    | false =>
      rw [hc] at hal
      simp only [Bool.false_eq_true, if_false]
      refine (rstep_one_no gL gr base hs P ρ sp w H hro k hk h1 (by omega) (by rw [hA.has, hA.get, ← htry]; exact hc) _ rfl _ rfl).mono ?_
      rintro e w' ⟨rfl, h1, h2⟩
      exact ⟨rfl, ⟨_, hal, h1⟩, h2⟩
  rw [if_neg h1]
  by_cases h2 : sp[k].pc = 2
  · rw [if_pos h2]
    refine (rstep_two gL gr base hs P ρ sp w H k hk h2 (by omega) _ rfl).mono ?_
    rintro e w' ⟨rfl, h1, h2⟩
    exact ⟨rfl, ⟨ρ, hA, h1⟩, h2⟩
  rw [if_neg h2]
  by_cases h3 : sp[k].pc = 11
  · rw [if_pos h3]
    refine (rstep_out gL gr base hs P ρ sp w H hro k hk h3 _ rfl).mono ?_
    rintro e w' ⟨rfl, h1, h2⟩
    exact ⟨rfl, ⟨_, hA.op 2 _ _ _, h1⟩, h2⟩
  rw [if_neg h3]
  refine (rstep_none gL gr base hs P ρ sp w H k hk (by omega)).mono ?_
  rintro e w' ⟨rfl, rfl⟩
  exact ⟨rfl, ⟨ρ, hA, H⟩, RMs.refl _ _ _⟩
end
end Go.Proofs.YthffhhgaeolpgaaGreat.Ta

