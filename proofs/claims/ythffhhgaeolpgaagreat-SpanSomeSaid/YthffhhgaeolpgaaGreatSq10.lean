/- Merged texts: TaP, Ta3, Ta4, PtO, PtI, McI. -/
import Derived.Test.YthffhhgaeolpgaaGreatSq9
import Derived.RegionTactic
import Derived.BigRegion
set_option linter.unusedVariables false
/- Package tas, as Lean has it: no two slots hold at once. -/
namespace Go.Proofs.YthffhhgaeolpgaaGreat.Ta
open Go.RowKit Go.Proofs.YthffhhgaeolpgaaGreat.Ara Go.Proofs.YthffhhgaeolpgaaGreat.Lok

def tryB (P : Par) (σ : Ar) : Bool := σ.has P.word && (σ.get P.word == 0)
def stepP (P : Par) (σ : Ar) (sp : List Sp) (i : Int) : Bool × Ar × List Sp :=
  if (spOf sp i).pc = 1 then (tryB P σ, σ.op 4 P.word (tryB P σ) (i + 1), sp.set i.toNat (if tryB P σ = true then { spOf sp i with pc := 10 } else ⟨2, min (2 * (spOf sp i).a) P.most, (spOf sp i).a, (spOf sp i).c⟩))
  else if (spOf sp i).pc = 2 then (false, σ, sp.set i.toNat ⟨if (spOf sp i).b - 1 = 0 then 1 else 2, (spOf sp i).a, (spOf sp i).b - 1, (spOf sp i).c⟩)
  else if (spOf sp i).pc = 11 then (true, σ.op 2 P.word true 0, sp.set i.toNat { spOf sp i with pc := 0 })
  else (false, σ, sp)
def askS (sp : List Sp) (i : Int) : List Sp := if turnB sp i 0 then sp.set i.toNat { spOf sp i with pc := 1, a := 1 } else sp
def doP (P : Par) (σ : Ar) (sp : List Sp) (kd i : Int) : Bool × Ar × List Sp :=
  if kd = 0 then stepP P σ sp i else if kd = 1 then (turnB sp i 0, σ, askS sp i) else if kd = 2 then (turnB sp i 10, σ, turnS sp i 10 11)
  else if kd = 3 then ((spOf sp i).pc == 10, σ, sp) else (false, σ, sp)
def holds (s : Sp) : Prop := s.pc = 10 ∨ s.pc = 11
structure Inv (P : Par) (σ : Ar) (sp : List Sp) : Prop where
  hl : σ.t ≤ σ.ws.length
  hw : σ.has P.word = true
  m1 : 1 ≤ P.most
  m2 : P.most ≤ 1024
  pcs : ∀ i, (spOf sp i).pc = 0 ∨ (spOf sp i).pc = 1 ∨ (spOf sp i).pc = 2 ∨ holds (spOf sp i)
  ar : ∀ i, 0 ≤ (spOf sp i).a ∧ (spOf sp i).a ≤ 1024
  br : ∀ i, 0 ≤ (spOf sp i).b ∧ (spOf sp i).b ≤ 1024
  w1 : ∀ i, (spOf sp i).pc = 1 ∨ (spOf sp i).pc = 2 → 1 ≤ (spOf sp i).a
  w2 : ∀ i, (spOf sp i).pc = 2 → 1 ≤ (spOf sp i).b
  hold : ∀ i, holds (spOf sp i) → σ.get P.word = i + 1
  free : (∀ i, ¬ holds (spOf sp i)) → σ.get P.word = 0
theorem Inv.one {P : Par} {σ : Ar} {sp : List Sp} (h : Inv P σ sp) (n : Nat) : cnt (fun s => s.pc == 10) sp n ≤ 1 := by
  refine cnt_one _ _ (fun i j hi hj => ?_) n
  simp only [beq_iff_eq] at hi hj
  have h1 := h.hold i (.inl hi)
  have h2 := h.hold j (.inl hj)
  omega
theorem Inv.turns {P : Par} {σ σ' : Ar} {sp sp' : List Sp} (h : Inv P σ sp) (i : Int) (s' : Sp) (hs : ∀ j, spOf sp' j = if j = i then s' else spOf sp j) (hl' : σ'.ws.length = σ.ws.length) (ht' : σ'.t = σ.t)
    (hp : s'.pc = 0 ∨ s'.pc = 1 ∨ s'.pc = 2 ∨ holds s') (ha : 0 ≤ s'.a ∧ s'.a ≤ 1024) (hb : 0 ≤ s'.b ∧ s'.b ≤ 1024) (h1 : s'.pc = 1 ∨ s'.pc = 2 → 1 ≤ s'.a) (h2 : s'.pc = 2 → 1 ≤ s'.b)
    (hh : ∀ j, holds (spOf sp' j) → σ'.get P.word = j + 1) (hf : (∀ j, ¬ holds (spOf sp' j)) → σ'.get P.word = 0) : Inv P σ' sp' := by
  have all : ∀ (Q : Sp → Prop), Q s' → (∀ j, Q (spOf sp j)) → ∀ j, Q (spOf sp' j) := by
    intro Q q0 q1 j
    rw [hs]
    split
    · exact q0
    · exact q1 j
  refine { hl := by rw [ht', hl']; exact h.hl, hw := ?_, m1 := h.m1, m2 := h.m2, pcs := all (fun s => s.pc = 0 ∨ s.pc = 1 ∨ s.pc = 2 ∨ holds s) hp h.pcs, ar := all (fun s => 0 ≤ s.a ∧ s.a ≤ 1024) ha h.ar, br := all (fun s => 0 ≤ s.b ∧ s.b ≤ 1024) hb h.br, w1 := all (fun s => s.pc = 1 ∨ s.pc = 2 → 1 ≤ s.a) h1 h.w1, w2 := all (fun s => s.pc = 2 → 1 ≤ s.b) h2 h.w2, hold := hh, free := hf }
  have := h.hw
  unfold Ar.has at this ⊢
  rw [ht']
  exact this
theorem Inv.idle {P : Par} {σ σ' : Ar} {sp sp' : List Sp} (h : Inv P σ sp) (i : Int) (s' : Sp) (hs : ∀ j, spOf sp' j = if j = i then s' else spOf sp j) (hl' : σ'.ws.length = σ.ws.length) (ht' : σ'.t = σ.t) (hg : σ'.get P.word = σ.get P.word)
    (hp : s'.pc = 0 ∨ s'.pc = 1 ∨ s'.pc = 2 ∨ holds s') (ha : 0 ≤ s'.a ∧ s'.a ≤ 1024) (hb : 0 ≤ s'.b ∧ s'.b ≤ 1024) (h1 : s'.pc = 1 ∨ s'.pc = 2 → 1 ≤ s'.a) (h2 : s'.pc = 2 → 1 ≤ s'.b) (hh : holds s' ↔ holds (spOf sp i)) : Inv P σ' sp' := by
  have hq : ∀ j, holds (spOf sp' j) ↔ holds (spOf sp j) := by
    intro j
    rw [hs]
    split
    · rename_i e; rw [e]; exact hh
    · exact Iff.rfl
  exact h.turns i s' hs hl' ht' hp ha hb h1 h2 (fun j hj => by rw [hg]; exact h.hold j ((hq j).1 hj)) (fun hf => by rw [hg]; exact h.free (fun j hj => hf j ((hq j).2 hj)))
theorem holds_range {sp : List Sp} {i : Int} (h : holds (spOf sp i)) : 0 ≤ i ∧ i < sp.length := spOf_range (by unfold holds at h; omega)
theorem do_inv {P : Par} {σ : Ar} {sp : List Sp} (h : Inv P σ sp) (kd i : Int) : Inv P (doP P σ sp kd i).2.1 (doP P σ sp kd i).2.2 := by
  unfold doP
  have har := h.ar i
  have hbr := h.br i
  split
  · unfold stepP
    split
    · rename_i p
      obtain ⟨i0, i1⟩ := spOf_range (sp := sp) (i := i) (by omega)
      have hw1 := h.w1 i (.inl p)
      cases ht : tryB P σ
      · simp only [Bool.false_eq_true, if_false]
        have hm1 := h.m1
        have hm2 := h.m2
        refine h.idle i _ (spOf_set i0 i1 _) (op_len _ _ _ _ _) (op_t _ _ _ _ _) (get_read σ h.hl 4 _ _ _) (.inr (.inr (.inl rfl))) ⟨?_, ?_⟩ har (fun _ => ?_) (fun _ => hw1) ?_
        · show 0 ≤ min (2 * (spOf sp i).a) P.most; omega
        · show min (2 * (spOf sp i).a) P.most ≤ 1024; omega
        · show 1 ≤ min (2 * (spOf sp i).a) P.most; omega
        · unfold holds; simp only; omega
      · simp only [if_true]
        have hz : σ.get P.word = 0 := by
          unfold tryB at ht
          simp at ht
          exact ht.2
        have hno : ∀ j, ¬ holds (spOf sp j) := by
          intro j hj
          have := h.hold j hj
          have := holds_range hj
          omega
        have hg := get_op σ h.hl 4 P.word (i + 1) true P.word
        simp only [h.hw, true_and, and_self, if_true] at hg
        have hs := spOf_set i0 i1 { spOf sp i with pc := 10 }
        refine h.turns i _ hs (op_len _ _ _ _ _) (op_t _ _ _ _ _) (.inr (.inr (.inr (.inl rfl)))) har hbr (fun e => by simp at e) (fun e => by simp at e) (fun j hj => ?_) (fun hf => ?_)
        · rw [hs] at hj
          split at hj
          · rename_i e; rw [e]; exact hg
          · exact absurd hj (hno j)
        · exact absurd (show holds (spOf _ i) by rw [hs, if_pos rfl]; exact .inl rfl) (hf i)
    split
    · rename_i _ p
      obtain ⟨i0, i1⟩ := spOf_range (sp := sp) (i := i) (by omega)
      have hw1 := h.w1 i (.inr p)
      have hw2 := h.w2 i p
      refine h.idle i _ (spOf_set i0 i1 _) rfl rfl rfl ?_ har (by simp only; omega) (fun _ => hw1) (fun e => ?_) ?_
      · simp only
        split
        · exact .inr (.inl rfl)
        · exact .inr (.inr (.inl rfl))
      · simp only at e ⊢
        split at e
        · omega
        · omega
      · unfold holds
        simp only
        split <;> omega
    split
    · rename_i _ _ p
      obtain ⟨i0, i1⟩ := spOf_range (sp := sp) (i := i) (by omega)
      have hi := h.hold i (.inr p)
      have hg := get_op σ h.hl 2 P.word 0 true P.word
      simp only [h.hw, true_and, and_self, if_true] at hg
      have hs := spOf_set i0 i1 { spOf sp i with pc := 0 }
      have hno : ∀ j, ¬ holds (spOf (sp.set i.toNat { spOf sp i with pc := 0 }) j) := by
        intro j hj
        rw [hs] at hj
        split at hj
        · unfold holds at hj; simp at hj
        · rename_i e
          have := h.hold j hj
          exact e (by omega)
      exact h.turns i _ hs (op_len _ _ _ _ _) (op_t _ _ _ _ _) (.inl rfl) har hbr (fun e => by simp at e) (fun e => by simp at e) (fun j hj => absurd hj (hno j)) (fun _ => hg)
    · exact h
  split
  · unfold askS
    split
    · rename_i ht
      obtain ⟨⟨i0, i1⟩, hp⟩ := turn_true ht
      exact h.idle i _ (spOf_set i0 i1 { spOf sp i with pc := 1, a := 1 }) rfl rfl rfl (.inr (.inl rfl)) (by simp only; omega) hbr (fun _ => by simp only; omega) (fun e => by simp at e) (by unfold holds; simp only; omega)
    · exact h
  split
  · cases ht : turnB sp i 10
    · simp only [turn_no 11 ht]; exact h
    · have hp := (turn_true ht).2
      exact h.idle i _ (spOf_turn 11 ht) rfl rfl rfl (.inr (.inr (.inr (.inr rfl)))) har hbr (fun e => by simp at e) (fun e => by simp at e) ⟨fun _ => .inl hp, fun _ => .inr rfl⟩
  split <;> exact h
end Go.Proofs.YthffhhgaeolpgaaGreat.Ta

/- Package tas: all steps. -/
namespace Go.Proofs.YthffhhgaeolpgaaGreat.Ta
open Go.RowKit Go.Proofs.YthffhhgaeolpgaaGreat.Ara Go.Proofs.YthffhhgaeolpgaaGreat.Lok

theorem modHere3 {S : List Nat} {hs : Nat} {a w : World} (h : Mod S a w) (hh : hs ∈ S) (i j l : Nat) (u v x : Value) : Mod S a (((w.setCell ⟨hs, i, none⟩ u).setCell ⟨hs, j, none⟩ v).setCell ⟨hs, l, none⟩ x) := ((h.setCell hh u).setCell hh v).setCell hh x
section
variable (gl ga ha hs : Nat) (P : Par) (σ : Ar) (sp : List Sp) (w : World) (H : LkAt w gl ga ha hs P σ sp)
include H
section
variable (k : Nat) (hk : k < sp.length)
include hk
set_option maxHeartbeats 4000000 in
set_option maxRecDepth 100000 in
theorem step_two (hp : sp[k].pc = 2) (hb : 0 ≤ sp[k].b ∧ sp[k].b ≤ 4096) (sp2 : List Sp) (h2 : sp2 = sp.set k ⟨if sp[k].b - 1 = 0 then 1 else 2, sp[k].a, sp[k].b - 1, sp[k].c⟩) : Calls Tryz.prog 144 #[.pointer (some ⟨gl, 0, none⟩), .int .i64 (k : Int)] w fun e w' => e = .returned (.bool false) ∧ LkAt w' gl ga ha hs P σ sp2 ∧ Mod [ga, ha, hs] w w' := by
  have HS := Lib.hid (spot_in_lk gl ga ha hs P σ sp w H k hk)
  obtain ⟨s0, s1, s2, s3, sf⟩ := H.2.1.cells k hk
  rw [hp] at s0
  have f2 := sf (k * 4 + 2)
  have hu1 : LkAt (w.setCell ⟨hs, k * 4 + 2, none⟩ (.int .i64 (sp[k].b - 1))) gl ga ha hs P σ (sp.set k { sp[k] with b := sp[k].b - 1 }) := H.spots (H.2.1.setB k hk (sp[k].b - 1)) ((Mod.refl [hs] w).setCell (by simp) _) (by rw [List.length_set])
  have hkk : k < (sp.set k { sp[k] with b := sp[k].b - 1 }).length := by rw [List.length_set]; exact hk
  have hgk : (sp.set k { sp[k] with b := sp[k].b - 1 })[k] = { sp[k] with b := sp[k].b - 1 } := List.getElem_set_self hkk
  obtain ⟨t0, t1, t2, t3, tf⟩ := hu1.2.1.cells k hkk
  have g0 := tf (k * 4)
  rw [hgk] at t0 t2
  have e1 : IntKind.i64.wrap (sp[k].b - 1) = sp[k].b - 1 := IntWalk.i64_in _ (by omega)
  have hm1 : Mod [ga, ha, hs] w (w.setCell ⟨hs, k * 4 + 2, none⟩ (.int .i64 (sp[k].b - 1))) := (Mod.refl _ _).setCell (by simp) _
  by_cases hz : sp[k].b - 1 = 0
  · have hu2 := hu1.spots (hu1.2.1.setPc k hkk 1) ((Mod.refl [hs] _).setCell (by simp) _) (by rw [List.length_set])
    have e : (sp.set k { sp[k] with b := sp[k].b - 1 }).set k { (sp.set k { sp[k] with b := sp[k].b - 1 })[k] with pc := 1 } = sp2 := by
      rw [hgk, List.set_set, h2, if_pos hz]
    rw [e] at hu2
    have HU := Lib.hid hu2
    have hm2 : Mod [ga, ha, hs] w ((w.setCell ⟨hs, k * 4 + 2, none⟩ (.int .i64 (sp[k].b - 1))).setCell ⟨hs, k * 4, none⟩ (.int .i64 1)) := hm1.setCell (by simp) _
    have e9 := ibeq hz
    clear hu1 hu2 e h2 hgk H t1 t3 tf sf s1 s3 hz
    simp only [hp] at t0
    generalize sp[k].b = xb at *
    generalize sp[k].pc = xp at *
    clear hp
    go_enter Tryz.func144, Tryz.ntmps144
    go_wp2_with fail
    refine (HS.out).mono ?_
    rintro e wx ⟨rfl, hwx⟩
    obtain rfl := hwx.symm
    go_wp2_with fail
    go_ret
    exact ⟨rfl, HU.out, hm2⟩
  · have e : sp.set k { sp[k] with b := sp[k].b - 1 } = sp2 := by
      rw [h2, if_neg hz, ← hp]
    rw [e] at hu1
    have HU := Lib.hid hu1
    have e9 := ibeq_no hz
    clear hu1 e h2 hgk H t1 t3 tf sf s1 s3 hz t0 g0
    generalize sp[k].b = xb at *
    generalize sp[k].pc = xp at *
    clear hp
    go_enter Tryz.func144, Tryz.ntmps144
    go_wp2_with fail
    refine (HS.out).mono ?_
    rintro e wx ⟨rfl, hwx⟩
    obtain rfl := hwx.symm
    go_wp2_with fail
    go_ret
    exact ⟨rfl, HU.out, hm1⟩
set_option maxHeartbeats 8000000 in
set_option maxRecDepth 100000 in
theorem step_one_no (ho : σ.ops ≤ 1000000) (hp : sp[k].pc = 1) (hr : 0 ≤ sp[k].a ∧ sp[k].a ≤ 4096) (hmo : 1 ≤ P.most ∧ P.most ≤ 4096) (hc : (σ.has P.word && (σ.get P.word == 0)) = false) (sp2 : List Sp) (h2 : sp2 = sp.set k ⟨2, min (2 * sp[k].a) P.most, sp[k].a, sp[k].c⟩) : Calls Tryz.prog 144 #[.pointer (some ⟨gl, 0, none⟩), .int .i64 (k : Int)] w fun e w' => e = .returned (.bool false) ∧ LkAt w' gl ga ha hs P (σ.op 4 P.word false ((k : Int) + 1)) sp2 ∧ Mod [ga, ha, hs] w w' := by
  have HSt := fun W (K : LkAt W gl ga ha hs P σ sp) => cas_any ga ha σ W K.1 ho P.word 0 ((k : Int) + 1)
  rw [hc] at HSt
  replace HSt := Lib.hid HSt
  have HS := Lib.hid (spot_in_lk gl ga ha hs P σ sp w H k hk)
  obtain ⟨⟨cc, q0, q1, q2, q3⟩, hl32⟩ := H.heads
  obtain ⟨d1, d2, d3, d4, d5⟩ := H.2.2.2.2
  have s0 := (H.2.1.cells k hk).1
  rw [hp] at s0
  have HH := Lib.hid H
  have e1 : IntKind.i64.wrap ((k : Int) + 1) = (k : Int) + 1 := IntWalk.i64_in _ (by omega)
  have e2 : IntKind.i64.wrap (2 * sp[k].a) = 2 * sp[k].a := IntWalk.i64_in _ (by omega)
  have HC := Lib.hid (fun W (K : LkAt W gl ga ha hs P (σ.op 4 P.word false ((k : Int) + 1)) sp) => show (W.cell? ⟨hs, k * 4, none⟩ = some (.int .i64 sp[k].pc) ∧ W.cell? ⟨hs, k * 4 + 1, none⟩ = some (.int .i64 sp[k].a) ∧ W.cell? ⟨hs, k * 4 + 2, none⟩ = some (.int .i64 sp[k].b) ∧ (∀ j, W.frozen? ⟨hs, j, none⟩ = false) ∧ W.cell? ⟨gl, 2, none⟩ = some (.int .i64 P.most)) ∧
      LkAt (((W.setCell ⟨hs, k * 4, none⟩ (.int .i64 2)).setCell ⟨hs, k * 4 + 2, none⟩ (.int .i64 sp[k].a)).setCell ⟨hs, k * 4 + 1, none⟩ (.int .i64 (min (2 * sp[k].a) P.most))) gl ga ha hs P (σ.op 4 P.word false ((k : Int) + 1)) sp2 from by
    obtain ⟨⟨cc, _, _, q2, _⟩, _⟩ := K.heads
    obtain ⟨c0, c1, c2, _, cf⟩ := K.2.1.cells k hk
    refine ⟨⟨c0, c1, c2, cf, q2⟩, ?_⟩
    have l1 : k < (sp.set k { sp[k] with pc := 2 }).length := by rw [List.length_set]; exact hk
    have u1 := K.spots (K.2.1.setPc k hk 2) ((Mod.refl [hs] W).setCell (by simp) _) (by rw [List.length_set])
    have g1 : (sp.set k { sp[k] with pc := 2 })[k] = { sp[k] with pc := 2 } := List.getElem_set_self l1
    have u2 := u1.spots (u1.2.1.setB k l1 sp[k].a) ((Mod.refl [hs] _).setCell (by simp) _) (by rw [List.length_set])
    rw [g1, List.set_set] at u2
    have l2 : k < (sp.set k { { sp[k] with pc := 2 } with b := sp[k].a }).length := by rw [List.length_set]; exact hk
    have u3 := u2.spots (u2.2.1.setA k l2 (min (2 * sp[k].a) P.most)) ((Mod.refl [hs] _).setCell (by simp) _) (by rw [List.length_set])
    rw [List.getElem_set_self, List.set_set] at u3
    rw [h2]
    exact u3)
  obtain ⟨mn, hmn⟩ : ∃ mn, min (2 * sp[k].a) P.most = mn := ⟨_, rfl⟩
  have hmn2 : (2 * sp[k].a ≤ P.most ∧ mn = 2 * sp[k].a) ∨ (P.most < 2 * sp[k].a ∧ mn = P.most) := by omega
  rw [hmn] at HC
  generalize σ.op 4 P.word false ((k : Int) + 1) = σ2 at *
  generalize sp[k].pc = xp at *
  generalize sp[k].a = xa at *
  generalize sp[k].b = xb at *
  have HMN := Lib.hid hmn2
  clear hmn hmn2
  clear h2 H hp hc ho
  have HKK := Lib.hid hk
  go_enter Tryz.func144, Tryz.ntmps144
  go_wp2_with fail
  refine (HS.out).mono ?_
  rintro e wx ⟨rfl, hwx⟩
  obtain rfl := hwx.symm
  go_wp2_with fail
  go_region_held3 (fun V => V.cell? ⟨gl, 0, none⟩ = some (.pointer (some ⟨ga, 0, none⟩)) ∧ V.cell? ⟨gl, 1, none⟩ = some (.int .i64 P.word))
    (first | exact ⟨q0, q1⟩ | exact k2)
    (first
      | (go_at_call 146; refine (HSt.out _ (HH.out.drewN 1)).mono ?_; rintro e w2 ⟨rfl, ha2, hm2⟩; have k2 := And.intro (keepM hm2 (show (w.drewN 1).cell? _ = _ from q0) (by simp; omega)) (keepM hm2 (show (w.drewN 1).cell? _ = _ from q1) (by simp; omega)); have H2 := Lib.hid ((HH.out.drewN 1).arena ha2 hm2)))
  have hmm : Mod [ga, ha, hs] w w2 := ((Mod.refl _ _).drewN 1).trans (hm2.sub (by simp))
  clear k2 ha2 hm2
  obtain ⟨⟨c0, c1, c2, cf, c4⟩, _⟩ := HC.out _ H2.out
  have HD := Lib.hid (HC.out _ (H2.out.drewN 1)).2
  have f0 := cf (k * 4)
  have f1 := cf (k * 4 + 1)
  have f2 := cf (k * 4 + 2)
  clear cf HC q0 q1 q2 q3 s0
  have hmm1 := hmm.drewN 1
  have HM3 := Lib.hid (modHere3 (hs := hs) hmm1 (by simp) (k * 4) (k * 4 + 2) (k * 4 + 1) (.int .i64 2) (.int .i64 xa) (.int .i64 mn))
  clear hmm hmm1
  rcases HMN.out with ⟨hle, rfl⟩ | ⟨hlt, rfl⟩
  · clear HMN
    go_wp2_with fail
    go_region
    all_goals
      go_wp2_with fail
      go_ret
      exact ⟨rfl, HD.out, HM3.out⟩
  · clear HMN
    go_wp2_with fail
    go_region
    all_goals
      go_wp2_with fail
      go_ret
      exact ⟨rfl, HD.out, HM3.out⟩
end
end
end Go.Proofs.YthffhhgaeolpgaaGreat.Ta

/- Package tas: Ask, Leave, Step for all slots; what its laws ask of it. -/
namespace Go.Proofs.YthffhhgaeolpgaaGreat.Ta
open Go.RowKit Go.Proofs.YthffhhgaeolpgaaGreat.Ara Go.Proofs.YthffhhgaeolpgaaGreat.Lok

section
variable (gl ga ha hs : Nat) (P : Par) (σ : Ar) (sp : List Sp) (w : World) (H : LkAt w gl ga ha hs P σ sp)
include H
theorem no_Ask (i : Int) (h : turnB sp i 0 = false) : Calls Tryz.prog 140 #[.pointer (some ⟨gl, 0, none⟩), .int .i64 i] w fun e w' => e = .returned (.bool false) ∧ w' = w := by
  by_cases hi : i < 0 ∨ (sp.length : Int) ≤ i
  · have HS := Lib.hid (spot_out_lk gl ga ha hs P σ sp w H i hi)
    clear H hi h
    go_enter Tryz.func140, Tryz.ntmps140
    go_wp2_with fail
    refine (HS.out).mono ?_
    rintro e wx ⟨rfl, hwx⟩
    obtain rfl := hwx.symm
    go_wp2_with fail
    go_ret
    exact ⟨rfl, rfl⟩
  · obtain ⟨k, rfl⟩ := Int.eq_ofNat_of_zero_le (show 0 ≤ i by omega)
    have hk : k < sp.length := by omega
    have HS := Lib.hid (spot_in_lk gl ga ha hs P σ sp w H k hk)
    have c0 := (H.2.1.cells k hk).1
    rw [turn_in hk] at h
    have e1 : (sp[k].pc != 0) = true := by rw [bne, h]; rfl
    generalize sp[k].pc = x at *
    clear H hi h
    go_enter Tryz.func140, Tryz.ntmps140
    go_wp2_with fail
    refine (HS.out).mono ?_
    rintro e wx ⟨rfl, hwx⟩
    obtain rfl := hwx.symm
    go_wp2_with fail
    go_ret
    exact ⟨rfl, rfl⟩
theorem no_Leave (i : Int) (h : turnB sp i 10 = false) : Calls Tryz.prog 141 #[.pointer (some ⟨gl, 0, none⟩), .int .i64 i] w fun e w' => e = .returned (.bool false) ∧ w' = w := by
  by_cases hi : i < 0 ∨ (sp.length : Int) ≤ i
  · have HS := Lib.hid (spot_out_lk gl ga ha hs P σ sp w H i hi)
    clear H hi h
    go_enter Tryz.func141, Tryz.ntmps141
    go_wp2_with fail
    refine (HS.out).mono ?_
    rintro e wx ⟨rfl, hwx⟩
    obtain rfl := hwx.symm
    go_wp2_with fail
    go_ret
    exact ⟨rfl, rfl⟩
  · obtain ⟨k, rfl⟩ := Int.eq_ofNat_of_zero_le (show 0 ≤ i by omega)
    have hk : k < sp.length := by omega
    have HS := Lib.hid (spot_in_lk gl ga ha hs P σ sp w H k hk)
    have c0 := (H.2.1.cells k hk).1
    rw [turn_in hk] at h
    have e1 : (sp[k].pc != 10) = true := by rw [bne, h]; rfl
    generalize sp[k].pc = x at *
    clear H hi h
    go_enter Tryz.func141, Tryz.ntmps141
    go_wp2_with fail
    refine (HS.out).mono ?_
    rintro e wx ⟨rfl, hwx⟩
    obtain rfl := hwx.symm
    go_wp2_with fail
    go_ret
    exact ⟨rfl, rfl⟩
theorem ask_lk (i : Int) : Calls Tryz.prog 140 #[.pointer (some ⟨gl, 0, none⟩), .int .i64 i] w fun e w' => e = .returned (.bool (turnB sp i 0)) ∧ LkAt w' gl ga ha hs P σ (askS sp i) ∧ Mod [hs] w w' := by
  cases ht : turnB sp i 0 with
  | false =>
    have e : askS sp i = sp := by unfold askS; rw [ht, if_neg (by simp)]
    rw [e]
    refine (no_Ask gl ga ha hs P σ sp w H i ht).mono ?_
    rintro x w' ⟨rfl, rfl⟩
    exact ⟨rfl, H, Mod.refl _ _⟩
  | true =>
    obtain ⟨⟨i0, i1⟩, hp⟩ := turn_true ht
    have e : askS sp i = sp.set i.toNat { spOf sp i with pc := 1, a := 1 } := by unfold askS; rw [ht, if_pos rfl]
    rw [e]
    obtain ⟨k, rfl⟩ := Int.eq_ofNat_of_zero_le i0
    have hk : k < sp.length := by omega
    rw [spOf_in hk] at hp ⊢
    rw [Int.toNat_natCast]
    exact ask_yes gl ga ha hs P σ sp w H k hk hp _ rfl
theorem leave_lk (i : Int) : Calls Tryz.prog 141 #[.pointer (some ⟨gl, 0, none⟩), .int .i64 i] w fun e w' => e = .returned (.bool (turnB sp i 10)) ∧ LkAt w' gl ga ha hs P σ (turnS sp i 10 11) ∧ Mod [hs] w w' := by
  cases ht : turnB sp i 10 with
  | false =>
    rw [turn_no 11 ht]
    refine (no_Leave gl ga ha hs P σ sp w H i ht).mono ?_
    rintro x w' ⟨rfl, rfl⟩
    exact ⟨rfl, H, Mod.refl _ _⟩
  | true =>
    obtain ⟨⟨i0, i1⟩, hp⟩ := turn_true ht
    have e : turnS sp i 10 11 = sp.set i.toNat { spOf sp i with pc := 11 } := by unfold turnS; rw [ht, if_pos rfl]
    rw [e]
    obtain ⟨k, rfl⟩ := Int.eq_ofNat_of_zero_le i0
    have hk : k < sp.length := by omega
    rw [spOf_in hk] at hp ⊢
    rw [Int.toNat_natCast]
    exact leave_yes gl ga ha hs P σ sp w H k hk hp _ rfl
set_option maxRecDepth 100000 in
theorem step_none (i : Int) (h : ¬ ((spOf sp i).pc = 1 ∨ (spOf sp i).pc = 2 ∨ (spOf sp i).pc = 11)) : Calls Tryz.prog 144 #[.pointer (some ⟨gl, 0, none⟩), .int .i64 i] w fun e w' => e = .returned (.bool false) ∧ LkAt w' gl ga ha hs P σ sp ∧ Mod [ga, ha, hs] w w' := by
  have HH := Lib.hid H
  by_cases hi : i < 0 ∨ (sp.length : Int) ≤ i
  · have HS := Lib.hid (spot_out_lk gl ga ha hs P σ sp w H i hi)
    clear H hi h
    go_enter Tryz.func144, Tryz.ntmps144
    go_wp2_with fail
    refine (HS.out).mono ?_
    rintro e wx ⟨rfl, hwx⟩
    obtain rfl := hwx.symm
    go_wp2_with fail
    go_ret
    exact ⟨rfl, HH.out, Mod.refl _ _⟩
  · obtain ⟨k, rfl⟩ := Int.eq_ofNat_of_zero_le (show 0 ≤ i by omega)
    have hk : k < sp.length := by omega
    have HS := Lib.hid (spot_in_lk gl ga ha hs P σ sp w H k hk)
    have c0 := (H.2.1.cells k hk).1
    rw [spOf_in hk] at h
    have e1 := ibeq_no (show ¬ sp[k].pc = 1 by omega)
    have e2 := ibeq_no (show ¬ sp[k].pc = 2 by omega)
    have e3 := ibeq_no (show ¬ sp[k].pc = 11 by omega)
    generalize sp[k].pc = x at *
    clear H hi h
    go_enter Tryz.func144, Tryz.ntmps144
    go_wp2_with fail
    refine (HS.out).mono ?_
    rintro e wx ⟨rfl, hwx⟩
    obtain rfl := hwx.symm
    go_wp2_with fail
    go_ret
    exact ⟨rfl, HH.out, Mod.refl _ _⟩
theorem step_lk (hI : Inv P σ sp) (ho : σ.ops ≤ 1000000) (i : Int) : Calls Tryz.prog 144 #[.pointer (some ⟨gl, 0, none⟩), .int .i64 i] w fun e w' => e = .returned (.bool (stepP P σ sp i).1) ∧ LkAt w' gl ga ha hs P (stepP P σ sp i).2.1 (stepP P σ sp i).2.2 ∧ Mod [ga, ha, hs] w w' := by
  by_cases h : (spOf sp i).pc = 1 ∨ (spOf sp i).pc = 2 ∨ (spOf sp i).pc = 11
  · obtain ⟨i0, i1⟩ := spOf_range (sp := sp) (i := i) (by omega)
    obtain ⟨k, rfl⟩ := Int.eq_ofNat_of_zero_le i0
    have hk : k < sp.length := by omega
    have har := hI.ar (k : Int)
    have hbr := hI.br (k : Int)
    have hm1 := hI.m1
    have hm2 := hI.m2
    unfold stepP
    rw [spOf_in hk] at h har hbr ⊢
    simp only [Int.toNat_natCast]
    rcases h with h | h | h
    · rw [if_pos h]
      cases hc : tryB P σ with
      | true =>
        simp only [if_true]
        exact step_one_yes gl ga ha hs P σ sp w H k hk ho h hc _ rfl
      | false =>
        simp only [Bool.false_eq_true, if_false]
        exact step_one_no gl ga ha hs P σ sp w H k hk ho h (by omega) (by omega) hc _ rfl
    · rw [if_neg (by omega), if_pos h]
      exact step_two gl ga ha hs P σ sp w H k hk h (by omega) _ rfl
    · rw [if_neg (by omega), if_neg (by omega), if_pos h]
      exact step_out gl ga ha hs P σ sp w H k hk ho h _ rfl
  · have e : stepP P σ sp i = (false, σ, sp) := by unfold stepP; rw [if_neg (by omega), if_neg (by omega), if_neg (by omega)]
    rw [e]
    exact step_none gl ga ha hs P σ sp w H i h
end
theorem do_len (P : Par) (σ : Ar) (sp : List Sp) (kd i : Int) : (doP P σ sp kd i).2.2.length = sp.length := by
  unfold doP
  split
  · unfold stepP
    split
    · simp
    split
    · simp
    split
    · simp
    · rfl
  split
  · show (askS sp i).length = _
    unfold askS
    split
    · rw [List.length_set]
    · rfl
  split
  · exact turnS_len _ _ _ _
  split <;> rfl
theorem do_ops (P : Par) (σ : Ar) (sp : List Sp) (kd i : Int) : (doP P σ sp kd i).2.1.ops ≤ σ.ops + 1 ∧ σ.ops ≤ (doP P σ sp kd i).2.1.ops := by
  have h : ∀ (kd p v : Int) (wr : Bool), (σ.op kd p wr v).ops ≤ σ.ops + 1 ∧ σ.ops ≤ (σ.op kd p wr v).ops := by
    intro kd p v wr
    rw [op_ops]
    split <;> omega
  have h0 : σ.ops ≤ σ.ops + 1 ∧ σ.ops ≤ σ.ops := ⟨Nat.le_succ _, Nat.le_refl _⟩
  unfold doP
  split
  · unfold stepP
    split
    · exact h _ _ _ _
    split
    · exact h0
    split
    · exact h _ _ _ _
    · exact h0
  split
  · exact h0
  split
  · exact h0
  split
  · exact h0
  · exact h0
structure OkP (P : Par) (σ : Ar) (sp : List Sp) (n m : Nat) : Prop where
  inv : Inv P σ sp
  ops : σ.ops ≤ m + 1
  len : sp.length = n
section
variable {P : Par} {σ : Ar} {sp : List Sp} {n m : Nat} (h : OkP P σ sp n m)
include h
theorem OkP.act (kd i : Int) : OkP P (doP P σ sp kd i).2.1 (doP P σ sp kd i).2.2 n (m + 1) :=
  ⟨do_inv h.inv kd i, by have := do_ops P σ sp kd i; have := h.ops; omega, (do_len P σ sp kd i).trans h.len⟩
theorem OkP.one : cnt (fun s => s.pc == 10) sp n ≤ 1 := h.inv.one n
end
theorem zero_spot (n : Nat) (i : Int) : spOf (zeroS n) i = sp0 := by
  unfold spOf zeroS
  split
  · simp [List.getD_eq_getElem?_getD, List.getElem?_replicate]
    split <;> rfl
  · rfl
end Go.Proofs.YthffhhgaeolpgaaGreat.Ta

/- Package parted, as Lean has it: slots hold in the order of their doorways. -/
namespace Go.Proofs.YthffhhgaeolpgaaGreat.Pt
open Go.RowKit Go.Proofs.YthffhhgaeolpgaaGreat.Ara Go.Proofs.YthffhhgaeolpgaaGreat.Lok

structure St where
  σ : Ar
  sp : List Sp
  doors : List Int
  held : List Int
def ordS (P : Par) (x : St) (c : Ac) : St :=
  { σ := (doP P x.σ x.sp c.kind c.i).2.1, sp := (doP P x.σ x.sp c.kind c.i).2.2,
    doors := if c.kind = 0 ∧ 0 < (spOf x.sp c.i).pc ∧ (spOf x.sp c.i).pc < 10 ∧ x.σ.ops < (doP P x.σ x.sp c.kind c.i).2.1.ops ∧ (doP P x.σ x.sp c.kind c.i).2.1.kind = 5 then x.doors ++ [c.i] else x.doors,
    held := if (spOf x.sp c.i).pc < 10 ∧ (spOf (doP P x.σ x.sp c.kind c.i).2.2 c.i).pc = 10 then x.held ++ [c.i] else x.held }
def inn (s : Sp) : Prop := s.pc = 10 ∨ s.pc = 11
structure OrdI (P : Par) (x : St) (S T : Nat) : Prop where
  inv : Inv P x.σ x.sp S T
  dl : x.doors.length = T
  dat : ∀ i, inq (spOf x.sp i) → x.doors[(spOf x.sp i).a.toNat]? = some i
  take : x.held = x.doors.take x.held.length
  cnt : ((∃ i, inn (spOf x.sp i)) ∧ x.held.length = S + 1) ∨ ((∀ i, ¬ inn (spOf x.sp i)) ∧ x.held.length = S)
def OrdP (P : Par) (x : St) : Prop := ∃ S T, OrdI P x S T
theorem OrdI.held_le {P : Par} {x : St} {S T : Nat} (h : OrdI P x S T) : x.held.length ≤ T := by
  have hle := h.inv.le
  rcases h.cnt with ⟨⟨i, hi⟩, e⟩ | ⟨_, e⟩
  · have h1 := h.inv.tick i (.inr hi)
    have h2 := h.inv.hold i hi
    omega
  · omega
theorem OrdI.keep {P : Par} {x : St} {S T : Nat} (h : OrdI P x S T) {σ' : Ar} {sp' : List Sp} (hi : Inv P σ' sp' S T) (hq : ∀ i, inq (spOf sp' i) → inq (spOf x.sp i) ∧ (spOf sp' i).a = (spOf x.sp i).a) (hn : ∀ i, inn (spOf sp' i) ↔ inn (spOf x.sp i)) :
    OrdI P { σ := σ', sp := sp', doors := x.doors, held := x.held } S T := by
  refine ⟨hi, h.dl, fun i h1 => ?_, h.take, ?_⟩
  · obtain ⟨h2, e⟩ := hq i h1
    show x.doors[_]? = _
    rw [e]
    exact h.dat i h2
  · rcases h.cnt with ⟨⟨i, h1⟩, e⟩ | ⟨h1, e⟩
    · exact .inl ⟨⟨i, (hn i).2 h1⟩, e⟩
    · exact .inr ⟨fun i h2 => h1 i ((hn i).1 h2), e⟩
theorem OrdI.doors {P : Par} {x : St} {S T : Nat} (h : OrdI P x S T) {c : Ac} (hd : ¬ (c.kind = 0 ∧ 0 < (spOf x.sp c.i).pc ∧ (spOf x.sp c.i).pc < 10 ∧ x.σ.ops < (doP P x.σ x.sp c.kind c.i).2.1.ops ∧ (doP P x.σ x.sp c.kind c.i).2.1.kind = 5)) (hh : ¬ ((spOf x.sp c.i).pc < 10 ∧ (spOf (doP P x.σ x.sp c.kind c.i).2.2 c.i).pc = 10)) :
    ordS P x c = { σ := (doP P x.σ x.sp c.kind c.i).2.1, sp := (doP P x.σ x.sp c.kind c.i).2.2, doors := x.doors, held := x.held } := by
  unfold ordS
  rw [if_neg hd, if_neg hh]
theorem do_0 (P : Par) (σ : Ar) (sp : List Sp) (i : Int) : doP P σ sp 0 i = stepP P σ sp i := rfl
theorem do_1 (P : Par) (σ : Ar) (sp : List Sp) (i : Int) : doP P σ sp 1 i = (turnB sp i 0, σ, turnS sp i 0 1) := rfl
theorem do_2 (P : Par) (σ : Ar) (sp : List Sp) (i : Int) : doP P σ sp 2 i = (turnB sp i 10, σ, turnS sp i 10 11) := rfl
theorem step_1 {P : Par} {σ : Ar} {sp : List Sp} {i : Int} (h : (spOf sp i).pc = 1) : stepP P σ sp i = (false, σ.op 5 P.next true (σ.get P.next + 1), sp.set i.toNat { spOf sp i with pc := 2, a := σ.get P.next }) := by
  unfold stepP; rw [if_pos h]
theorem step_2 {P : Par} {σ : Ar} {sp : List Sp} {i : Int} (h : (spOf sp i).pc = 2) : stepP P σ sp i = (σ.get (place P (spOf sp i).a) == (spOf sp i).a + 1, σ.op 1 (place P (spOf sp i).a) false 0, if σ.get (place P (spOf sp i).a) = (spOf sp i).a + 1 then sp.set i.toNat { spOf sp i with pc := 10 } else sp) := by
  unfold stepP; rw [if_neg (by omega), if_pos h]
theorem step_11 {P : Par} {σ : Ar} {sp : List Sp} {i : Int} (h : (spOf sp i).pc = 11) : stepP P σ sp i = (true, σ.op 2 (place P ((spOf sp i).a + 1)) true ((spOf sp i).a + 2), sp.set i.toNat { spOf sp i with pc := 0 }) := by
  unfold stepP; rw [if_neg (by omega), if_neg (by omega), if_pos h]
theorem step_no {P : Par} {σ : Ar} {sp : List Sp} {i : Int} (h1 : (spOf sp i).pc ≠ 1) (h2 : (spOf sp i).pc ≠ 2) (h3 : (spOf sp i).pc ≠ 11) : stepP P σ sp i = (false, σ, sp) := by
  unfold stepP; rw [if_neg h1, if_neg h2, if_neg h3]
theorem ord_step {P : Par} {x : St} (h : OrdP P x) (i : Int) : OrdP P (ordS P x ⟨0, i⟩) := by
  obtain ⟨S, T, h⟩ := h
  have hi := h.inv
  rcases hi.pcs i with p | p | p
  · have e := step_no (P := P) (σ := x.σ) (sp := x.sp) (i := i) (by omega) (by omega) (by omega)
    rw [h.doors (c := ⟨0, i⟩) (by simp only; omega) (by simp only [do_0, e]; omega)]
    simp only [do_0, e]
    exact ⟨S, T, h.keep hi (fun i h => ⟨h, rfl⟩) (fun _ => Iff.rfl)⟩
  · have e := step_1 (P := P) (σ := x.σ) p
    obtain ⟨i0, i1⟩ := spOf_range (sp := x.sp) (i := i) (by omega)
    have hs := spOf_set i0 i1 { spOf x.sp i with pc := 2, a := x.σ.get P.next }
    have hI := hi.takes i _ hs (by unfold inq; omega) rfl hi.gT
    rw [← hi.gT] at hI
    refine ⟨S, T + 1, ?_⟩
    unfold ordS
    simp only [do_0, e]
    rw [if_pos ⟨trivial, by omega, by omega, by rw [op_ops, if_pos hi.hasN]; omega, op_kind _ _ _ _ _ hi.hasN⟩, if_neg (by rw [hs, if_pos rfl]; simp)]
    have hlen := h.held_le
    refine ⟨hI, by simp [h.dl], fun j hj => ?_, ?_, ?_⟩
    · show (x.doors ++ [i])[(spOf (x.sp.set i.toNat _) j).a.toNat]? = some j
      rw [hs] at hj ⊢
      by_cases ej : j = i
      · rw [if_pos ej, ej]
        show (x.doors ++ [i])[(x.σ.get P.next).toNat]? = some i
        rw [hi.gT, Int.toNat_natCast, ← h.dl]
        simp
      · rw [if_neg ej] at hj ⊢
        have hd := h.dat j hj
        have ht := hi.tick j hj
        rw [List.getElem?_append_left (by rw [h.dl]; omega)]
        exact hd
    · show x.held = (x.doors ++ [i]).take x.held.length
      rw [List.take_append_of_le_length (by rw [h.dl]; exact hlen)]
      exact h.take
    · have hn : ∀ j, inn (spOf (x.sp.set i.toNat { spOf x.sp i with pc := 2, a := x.σ.get P.next }) j) ↔ inn (spOf x.sp j) := by
        intro j
        rw [hs]
        by_cases ej : j = i
        · rw [if_pos ej, ej]; unfold inn; simp only; omega
        · rw [if_neg ej]
      rcases h.cnt with ⟨⟨j, h1⟩, e⟩ | ⟨h1, e⟩
      · exact .inl ⟨⟨j, (hn j).2 h1⟩, e⟩
      · exact .inr ⟨fun j h2 => h1 j ((hn j).1 h2), e⟩
  · rcases p with p | p
    · have e := step_2 (P := P) (σ := x.σ) p
      obtain ⟨i0, i1⟩ := spOf_range (sp := x.sp) (i := i) (by omega)
      by_cases hg : x.σ.get (place P (spOf x.sp i).a) = (spOf x.sp i).a + 1
      · rw [if_pos hg] at e
        have hs := spOf_set i0 i1 { spOf x.sp i with pc := 10 }
        have hS := hi.served i (.inl p) hg
        have hI := (hi.keeps i _ hs (.inl p) (.inl rfl) rfl hS).read (place P (spOf x.sp i).a) 0
        have hd := h.dat i (.inl p)
        rw [hS, Int.toNat_natCast] at hd
        have hno : ∀ j, ¬ inn (spOf x.sp j) := by
          intro j hj
          have h1 := hi.hold j hj
          have h2 := hi.inj j i (.inr hj) (.inl p) (by omega)
          subst h2
          unfold inn at hj
          omega
        have hl : x.held.length = S := by
          rcases h.cnt with ⟨⟨j, h1⟩, _⟩ | ⟨_, e⟩
          · exact absurd h1 (hno j)
          · exact e
        refine ⟨S, T, ?_⟩
        unfold ordS
        simp only [do_0, e]
        rw [if_neg (by rw [op_kind _ _ _ _ _ (hi.has _)]; omega), if_pos ⟨by omega, by rw [hs, if_pos rfl]⟩]
        refine ⟨hI, h.dl, fun j hj => ?_, ?_, .inl ⟨⟨i, ?_⟩, by simp [hl]⟩⟩
        · show x.doors[(spOf (x.sp.set i.toNat _) j).a.toNat]? = some j
          rw [hs] at hj ⊢
          by_cases ej : j = i
          · rw [if_pos ej, ej]
            exact h.dat i (.inl p)
          · rw [if_neg ej] at hj ⊢
            exact h.dat j hj
        · show x.held ++ [i] = x.doors.take (x.held ++ [i]).length
          rw [List.length_append, List.length_singleton, hl, List.take_add_one, hd]
          have := h.take
          rw [hl] at this
          rw [← this]
          rfl
        · show inn (spOf (x.sp.set i.toNat _) i)
          rw [hs, if_pos rfl]
          exact .inl rfl
      · rw [if_neg hg] at e
        have hI := hi.read (place P (spOf x.sp i).a) 0
        rw [h.doors (c := ⟨0, i⟩) (by simp only [do_0, e]; rw [op_kind _ _ _ _ _ (hi.has _)]; omega) (by simp only [do_0, e]; omega)]
        simp only [do_0, e]
        exact ⟨S, T, h.keep hI (fun i h => ⟨h, rfl⟩) (fun _ => Iff.rfl)⟩
    · rcases p with p | p
      · have e := step_no (P := P) (σ := x.σ) (sp := x.sp) (i := i) (by omega) (by omega) (by omega)
        rw [h.doors (c := ⟨0, i⟩) (by simp only; omega) (by simp only [do_0, e]; omega)]
        simp only [do_0, e]
        exact ⟨S, T, h.keep hi (fun i h => ⟨h, rfl⟩) (fun _ => Iff.rfl)⟩
      · have e := step_11 (P := P) (σ := x.σ) p
        obtain ⟨i0, i1⟩ := spOf_range (sp := x.sp) (i := i) (by omega)
        have hs := spOf_set i0 i1 { spOf x.sp i with pc := 0 }
        have hI := hi.passes i _ hs (.inr p) rfl rfl
        have hS := hi.hold i (.inr p)
        rw [← hS] at hI
        have hno : ∀ j, ¬ inn (spOf (x.sp.set i.toNat { spOf x.sp i with pc := 0 }) j) := by
          intro j hj
          rw [hs] at hj
          by_cases ej : j = i
          · rw [if_pos ej] at hj
            unfold inn at hj
            simp at hj
          · rw [if_neg ej] at hj
            have h1 := hi.hold j hj
            exact ej (hi.inj j i (.inr hj) (.inr (.inr p)) (by omega))
        have hl : x.held.length = S + 1 := by
          rcases h.cnt with ⟨_, e⟩ | ⟨h1, _⟩
          · exact e
          · exact absurd (.inr p) (h1 i)
        rw [h.doors (c := ⟨0, i⟩) (by simp only; omega) (by simp only; omega)]
        simp only [do_0, e]
        refine ⟨S + 1, T, hI, h.dl, fun j hj => ?_, h.take, .inr ⟨hno, hl⟩⟩
        show x.doors[(spOf (x.sp.set i.toNat _) j).a.toNat]? = some j
        have hj' : inq (spOf (x.sp.set i.toNat { spOf x.sp i with pc := 0 }) j) := hj
        rw [hs] at hj' ⊢
        by_cases ej : j = i
        · rw [if_pos ej] at hj'
          unfold inq at hj'
          simp at hj'
        · rw [if_neg ej] at hj' ⊢
          exact h.dat j hj'
theorem ord_turn {P : Par} {x : St} {S T : Nat} (h : OrdI P x S T) {kd i fr to : Int} (hk : kd ≠ 0) (e : doP P x.σ x.sp kd i = (turnB x.sp i fr, x.σ, turnS x.sp i fr to)) (hto : to ≠ 10)
    (hI : Inv P x.σ (turnS x.sp i fr to) S T) (hq : ∀ j, inq (spOf (turnS x.sp i fr to) j) → inq (spOf x.sp j) ∧ (spOf (turnS x.sp i fr to) j).a = (spOf x.sp j).a) (hn : ∀ j, inn (spOf (turnS x.sp i fr to) j) ↔ inn (spOf x.sp j)) : OrdP P (ordS P x ⟨kd, i⟩) := by
  rw [h.doors (c := ⟨kd, i⟩) (by simp only; omega) (by
    simp only [e]
    cases ht : turnB x.sp i fr
    · rw [turn_no to ht]; omega
    · rw [spOf_turn to ht, if_pos rfl]; simp only; omega)]
  simp only [e]
  exact ⟨S, T, h.keep hI hq hn⟩
theorem ord_do {P : Par} {x : St} (h : OrdP P x) (c : Ac) : OrdP P (ordS P x c) := by
  obtain ⟨kd, i⟩ := c
  by_cases k0 : kd = 0
  · subst k0; exact ord_step h i
  obtain ⟨S, T, h⟩ := h
  have hi := h.inv
  by_cases k1 : kd = 1
  · subst k1
    cases ht : turnB x.sp i 0
    · have e := turn_no 1 ht
      refine ord_turn h (kd := 1) (fr := 0) (to := 1) (by omega) (do_1 _ _ _ _) (by omega) ?_ ?_ ?_
      · rw [e]; exact hi
      · rw [e]; exact fun _ h => ⟨h, rfl⟩
      · rw [e]; exact fun _ => Iff.rfl
    · have hp := (turn_true ht).2
      have hs := spOf_turn 1 ht
      refine ord_turn h (kd := 1) (fr := 0) (to := 1) (by omega) (do_1 _ _ _ _) (by omega) (hi.idle i _ hs (by unfold inq; omega) (.inr rfl) rfl) (fun j hj => ?_) (fun j => ?_)
      · rw [hs] at hj ⊢
        by_cases ej : j = i
        · rw [if_pos ej] at hj; unfold inq at hj; simp at hj
        · rw [if_neg ej] at hj ⊢; exact ⟨hj, rfl⟩
      · rw [hs]
        by_cases ej : j = i
        · rw [if_pos ej, ej]; unfold inn; simp only; omega
        · rw [if_neg ej]
  by_cases k2 : kd = 2
  · subst k2
    cases ht : turnB x.sp i 10
    · have e := turn_no 11 ht
      refine ord_turn h (kd := 2) (fr := 10) (to := 11) (by omega) (do_2 _ _ _ _) (by omega) ?_ ?_ ?_
      · rw [e]; exact hi
      · rw [e]; exact fun _ h => ⟨h, rfl⟩
      · rw [e]; exact fun _ => Iff.rfl
    · have hp := (turn_true ht).2
      have hs := spOf_turn 11 ht
      refine ord_turn h (kd := 2) (fr := 10) (to := 11) (by omega) (do_2 _ _ _ _) (by omega) (hi.keeps i _ hs (.inr (.inl hp)) (.inr rfl) rfl (hi.hold i (.inl hp))) (fun j hj => ?_) (fun j => ?_)
      · rw [hs] at hj ⊢
        by_cases ej : j = i
        · rw [if_pos ej, ej]; exact ⟨.inr (.inl hp), rfl⟩
        · rw [if_neg ej] at hj ⊢; exact ⟨hj, rfl⟩
      · rw [hs]
        by_cases ej : j = i
        · rw [if_pos ej, ej]; exact ⟨fun _ => .inl hp, fun _ => .inr rfl⟩
        · rw [if_neg ej]
  by_cases k3 : kd = 3
  · subst k3
    have e : doP P x.σ x.sp 3 i = ((aloneP P x.σ x.sp i).1, (aloneP P x.σ x.sp i).2, x.sp) := rfl
    rw [h.doors (c := ⟨3, i⟩) (by simp only; omega) (by simp only [e]; omega)]
    simp only [e]
    refine ⟨S, T, h.keep ?_ (fun i h => ⟨h, rfl⟩) (fun _ => Iff.rfl)⟩
    unfold aloneP
    split
    · exact hi.read _ _
    · exact hi
  · have e : doP P x.σ x.sp kd i = (false, x.σ, x.sp) := by unfold doP; rw [if_neg k0, if_neg k1, if_neg k2, if_neg k3]
    rw [h.doors (c := ⟨kd, i⟩) (by simp only; omega) (by simp only [e]; omega)]
    simp only [e]
    exact ⟨S, T, h.keep hi (fun i h => ⟨h, rfl⟩) (fun _ => Iff.rfl)⟩
theorem do_len (P : Par) (σ : Ar) (sp : List Sp) (kd i : Int) : (doP P σ sp kd i).2.2.length = sp.length := by
  unfold doP
  split
  · unfold stepP
    split
    · simp
    split
    · simp only; split <;> simp
    split
    · simp
    · rfl
  split
  · exact turnS_len _ _ _ _
  split
  · exact turnS_len _ _ _ _
  split <;> rfl
theorem do_ops (P : Par) (σ : Ar) (sp : List Sp) (kd i : Int) : (doP P σ sp kd i).2.1.ops ≤ σ.ops + 1 ∧ σ.ops ≤ (doP P σ sp kd i).2.1.ops := by
  have h : ∀ (kd p v : Int) (wr : Bool), (σ.op kd p wr v).ops ≤ σ.ops + 1 ∧ σ.ops ≤ (σ.op kd p wr v).ops := by
    intro kd p v wr
    rw [op_ops]
    split <;> omega
  unfold doP
  split
  · unfold stepP
    split
    · exact h _ _ _ _
    split
    · exact h _ _ _ _
    split
    · exact h _ _ _ _
    · exact ⟨Nat.le_succ _, Nat.le_refl _⟩
  split
  · exact ⟨Nat.le_succ _, Nat.le_refl _⟩
  split
  · exact ⟨Nat.le_succ _, Nat.le_refl _⟩
  split
  · unfold aloneP
    split
    · exact h _ _ _ _
    · exact ⟨Nat.le_succ _, Nat.le_refl _⟩
  · exact ⟨Nat.le_succ _, Nat.le_refl _⟩
def wP (p : Int) : Nat := if p = 1 then 4 else if p = 2 then 3 else if p = 10 then 2 else if p = 11 then 1 else 0
theorem wP_le (p : Int) : wP p ≤ 4 := by unfold wP; repeat (first | split | omega)
def RdyP (sp : List Sp) (i : Nat) : Prop := (spOf sp i).pc = 1 ∨ inn (spOf sp i) ∨ ((spOf sp i).pc = 2 ∧ ∀ j, inq (spOf sp j) → (spOf sp i).a ≤ (spOf sp j).a)
theorem set_wt {sp : List Sp} {i : Int} {s' : Sp} (h : wP s'.pc < wP (spOf sp i).pc) (hp : (spOf sp i).pc ≠ 0) : wts wP (sp.set i.toNat s') < wts wP sp := by
  obtain ⟨i0, i1⟩ := spOf_range hp
  have := wts_spOf wP sp i i0 i1 s'
  omega
theorem rndP (P : Par) (n : Nat) : Rnd (ordS P) (fun x => x.sp) (wts wP) (fun x => OrdP P x ∧ x.sp.length = n) RdyP n := by
  have dn : ∀ (x : St) (i : Int), OrdP P x → wts wP (ordS P x ⟨0, i⟩).sp < wts wP x.sp ∨ (ordS P x ⟨0, i⟩).sp = x.sp := by
    intro x i ⟨S, T, h⟩
    show wts wP (stepP P x.σ x.sp i).2.2 < _ ∨ (stepP P x.σ x.sp i).2.2 = _
    by_cases p1 : (spOf x.sp i).pc = 1
    · rw [step_1 p1]
      obtain ⟨i0, i1⟩ := spOf_range (sp := x.sp) (i := i) (by omega)
      have := wts_spOf wP x.sp i i0 i1 { spOf x.sp i with pc := 2, a := x.σ.get P.next }
      rw [p1] at this
      have e1 : wP 1 = 4 := rfl
      have e2 : wP 2 = 3 := rfl
      left
      simp only at this ⊢
      omega
    by_cases p2 : (spOf x.sp i).pc = 2
    · rw [step_2 p2]
      obtain ⟨i0, i1⟩ := spOf_range (sp := x.sp) (i := i) (by omega)
      simp only
      split
      · have := wts_spOf wP x.sp i i0 i1 { spOf x.sp i with pc := 10 }
        rw [p2] at this
        have e1 : wP 2 = 3 := rfl
        have e2 : wP 10 = 2 := rfl
        left
        simp only at this ⊢
        omega
      · exact .inr rfl
    by_cases p3 : (spOf x.sp i).pc = 11
    · rw [step_11 p3]
      obtain ⟨i0, i1⟩ := spOf_range (sp := x.sp) (i := i) (by omega)
      have := wts_spOf wP x.sp i i0 i1 { spOf x.sp i with pc := 0 }
      rw [p3] at this
      have e1 : wP 11 = 1 := rfl
      have e2 : wP 0 = 0 := rfl
      left
      simp only at this ⊢
      omega
    · rw [step_no p1 p2 p3]
      exact .inr rfl
  have dl : ∀ (x : St) (i : Int), OrdP P x → ((spOf x.sp i).pc = 10 → wts wP (ordS P x ⟨2, i⟩).sp < wts wP x.sp) ∧ (wts wP (ordS P x ⟨2, i⟩).sp < wts wP x.sp ∨ (ordS P x ⟨2, i⟩).sp = x.sp) := by
    intro x i _
    have hb : turnB x.sp i 10 = true → wts wP (turnS x.sp i 10 11) < wts wP x.sp := by
      intro ht
      obtain ⟨⟨i0, i1⟩, hp⟩ := turn_true ht
      unfold turnS
      rw [if_pos ht]
      exact set_wt (s' := { spOf x.sp i with pc := 11 }) (by rw [hp]; show wP 11 < wP 10; decide) (by omega)
    refine ⟨fun hp => ?_, ?_⟩
    · obtain ⟨i0, i1⟩ := spOf_range (sp := x.sp) (i := i) (by omega)
      exact hb (by simp [turnB]; omega)
    · show wts wP (turnS x.sp i 10 11) < _ ∨ turnS x.sp i 10 11 = _
      cases ht : turnB x.sp i 10
      · exact .inr (turn_no 11 ht)
      · exact .inl (hb ht)
  refine ⟨fun x c hx => ⟨ord_do hx.1 c, (do_len P x.σ x.sp c.kind c.i).trans hx.2⟩, fun x i k hk hx => ?_, fun x hx hp => ?_, fun x i hx hr => ?_⟩
  · rcases hk with rfl | rfl
    · exact dn x i hx.1
    · exact (dl x i hx.1).2
  · obtain ⟨⟨S, T, h⟩, hl⟩ := hx
    obtain ⟨k, k1, k2⟩ := wts_pos wP x.sp hp
    rcases h.inv.pcs (k : Int) with p | p | p
    · rw [p] at k2; exact absurd k2 (by decide)
    · exact ⟨k, by omega, .inl p⟩
    · have ht := h.inv.tick k p
      obtain ⟨j, j1, j2⟩ := h.inv.all S (Int.le_refl _) (by omega)
      obtain ⟨j0, jl⟩ := spOf_range (sp := x.sp) (i := j) (by unfold inq at j1; omega)
      obtain ⟨m, rfl⟩ := Int.eq_ofNat_of_zero_le j0
      refine ⟨m, by omega, ?_⟩
      rcases j1 with j1 | j1
      · refine .inr (.inr ⟨j1, fun i hi => ?_⟩)
        have := h.inv.tick i hi
        omega
      · exact .inr (.inl j1)
  · obtain ⟨hx, _⟩ := hx
    have h1 := dn x i hx
    have h2 := dl _ i (ord_do hx ⟨0, i⟩)
    have g : wts wP (ordS P x ⟨0, i⟩).sp < wts wP x.sp → wts wP (ordS P (ordS P x ⟨0, i⟩) ⟨2, i⟩).sp < wts wP x.sp := by
      intro h3
      rcases h2.2 with h4 | h4
      · omega
      · rw [h4]; exact h3
    obtain ⟨S, T, h⟩ := hx
    rcases hr with hr | hr | ⟨hr, hm⟩
    · refine g ?_
      rcases h1 with h1 | h1
      · exact h1
      · exfalso
        have e : (ordS P x ⟨0, i⟩).sp = (stepP P x.σ x.sp i).2.2 := rfl
        rw [e, step_1 hr] at h1
        obtain ⟨i0, i1⟩ := spOf_range (sp := x.sp) (i := (i : Int)) (by omega)
        have hs := spOf_set i0 i1 { spOf x.sp i with pc := 2, a := x.σ.get P.next } i
        simp only at h1
        rw [h1, if_pos rfl] at hs
        rw [hs] at hr
        simp at hr
    · rcases hr with hr | hr
      · have e : (ordS P x ⟨0, i⟩).sp = x.sp := by
          show (stepP P x.σ x.sp i).2.2 = _
          rw [step_no (by omega) (by omega) (by omega)]
        have h3 := h2.1 (by rw [e]; exact hr)
        rw [e] at h3
        exact h3
      · refine g ?_
        rcases h1 with h1 | h1
        · exact h1
        · exfalso
          have e : (ordS P x ⟨0, i⟩).sp = (stepP P x.σ x.sp i).2.2 := rfl
          rw [e, step_11 hr] at h1
          obtain ⟨i0, i1⟩ := spOf_range (sp := x.sp) (i := (i : Int)) (by omega)
          have hs := spOf_set i0 i1 { spOf x.sp i with pc := 0 } i
          simp only at h1
          rw [h1, if_pos rfl] at hs
          rw [hs] at hr
          simp at hr
    · refine g ?_
      have hS : (spOf x.sp i).a = S := by
        have ht := h.inv.tick i (.inl hr)
        obtain ⟨j, j1, j2⟩ := h.inv.all S (Int.le_refl _) (by omega)
        have := hm j j1
        omega
      have hg : x.σ.get (place P (spOf x.sp i).a) = (spOf x.sp i).a + 1 := by rw [hS]; exact h.inv.srv
      rcases h1 with h1 | h1
      · exact h1
      · exfalso
        have e : (ordS P x ⟨0, i⟩).sp = (stepP P x.σ x.sp i).2.2 := rfl
        rw [e, step_2 hr] at h1
        simp only [if_pos hg] at h1
        obtain ⟨i0, i1⟩ := spOf_range (sp := x.sp) (i := (i : Int)) (by omega)
        have hs := spOf_set i0 i1 { spOf x.sp i with pc := 10 } i
        rw [h1, if_pos rfl] at hs
        rw [hs] at hr
        simp at hr
theorem ord_end {P : Par} {n : Nat} {x : St} (h : OrdP P x) (hl : x.sp.length = n) (k : Nat) (hk : 4 * n < k) : ∃ y, (rActs n k).foldl (ordS P) x = y ∧ (∀ i, (spOf y.sp i).pc = 0) ∧ y.doors = y.held := by
  refine ⟨_, rfl, ?_⟩
  rw [fold_rounds]
  have hz := rounds_rest (rndP P n) ⟨h, hl⟩ k (by have := wts_le wP 4 wP_le x.sp; rw [hl] at this; omega)
  obtain ⟨⟨S, T, hy⟩, hyl⟩ := rounds_good (rndP P n) ⟨h, hl⟩ k
  have hz : wts wP (rounds (ordS P) n x k).sp = 0 := hz
  generalize rounds (ordS P) n x k = y at *
  have h0 : ∀ i, (spOf y.sp i).pc = 0 := by
    intro i
    by_cases hi : 0 ≤ i ∧ i < y.sp.length
    · have h1 := wts_zero wP y.sp hz i hi
      rcases hy.inv.pcs i with p | p | p
      · exact p
      · rw [p] at h1; exact absurd h1 (by decide)
      · rcases p with p | p | p <;> (rw [p] at h1; exact absurd h1 (by decide))
    · rw [spOf_out (by omega)]; rfl
  refine ⟨h0, ?_⟩
  have hST : S = T := by
    have := hy.inv.le
    rcases Nat.lt_or_ge S T with h1 | h1
    · obtain ⟨i, i1, _⟩ := hy.inv.all S (Int.le_refl _) (by omega)
      have := h0 i
      unfold inq at i1
      omega
    · omega
  have hh : y.held.length = S := by
    rcases hy.cnt with ⟨⟨i, h1⟩, _⟩ | ⟨_, e⟩
    · have := h0 i
      unfold inn at h1
      omega
    · exact e
  have ht := hy.take
  rw [hh, hST, ← hy.dl, List.take_length] at ht
  exact ht.symm
theorem ord_fold {P : Par} (l : List Ac) : ∀ (x : St), OrdP P x → OrdP P (l.foldl (ordS P) x) := by
  induction l with
  | nil => exact fun _ h => h
  | cons c l ih => exact fun x h => ih _ (ord_do h c)
theorem ord_start (parts : Int) (p1 : 1 ≤ parts) (p2 : parts ≤ 32) (n : Nat) : OrdP ⟨1, parts⟩ ⟨(⟨zerosW 100, (1 + parts).toNat, 0, 0, 0, false⟩ : Ar).op 2 (place ⟨1, parts⟩ 0) true 1, List.replicate n sp0, [], []⟩ := by
  refine ⟨0, 0, inv_start parts p1 p2 n, rfl, fun i hi => ?_, rfl, .inr ⟨fun i hi => ?_, rfl⟩⟩
  · have hi : inq (spOf (List.replicate n sp0) i) := hi
    rw [zero_spot] at hi
    unfold inq sp0 at hi
    simp at hi
  · have hi : inn (spOf (List.replicate n sp0) i) := hi
    rw [zero_spot] at hi
    unfold inn sp0 at hi
    simp at hi
end Go.Proofs.YthffhhgaeolpgaaGreat.Pt

/- Package parted: what its laws ask of it. -/
namespace Go.Proofs.YthffhhgaeolpgaaGreat.Pt
open Go.RowKit Go.Proofs.YthffhhgaeolpgaaGreat.Ara Go.Proofs.YthffhhgaeolpgaaGreat.Lok

theorem Inv.num {P : Par} {σ : Ar} {sp : List Sp} {S T : Nat} (h : Inv P σ sp S T) (hT : T ≤ 1000000) (ho : σ.ops ≤ 1000000) (hn : P.next ≤ 4096) : Num P σ sp := by
  refine ⟨⟨h.p1, h.p2, h.n1, hn⟩, fun k hk => ?_, ho, h.hasN, ?_, ?_⟩
  · have := h.rng k
    rw [spOf_in hk] at this
    omega
  · rw [h.gT]; omega
  · rw [h.gT]; omega
structure OkP (P : Par) (σ : Ar) (sp : List Sp) (n m : Nat) : Prop where
  inv : ∃ S T, Inv P σ sp S T ∧ T ≤ m
  ops : σ.ops ≤ m + 1
  nx : P.next ≤ 4096
  len : sp.length = n
section
variable {P : Par} {σ : Ar} {sp : List Sp} {n m : Nat} (h : OkP P σ sp n m)
include h
theorem OkP.act (kd i : Int) : OkP P (doP P σ sp kd i).2.1 (doP P σ sp kd i).2.2 n (m + 1) := by
  obtain ⟨S, T, hi, hT⟩ := h.inv
  obtain ⟨S', T', hT', hi'⟩ := do_inv hi kd i
  exact ⟨⟨S', T', hi', by omega⟩, by have := do_ops P σ sp kd i; have := h.ops; omega, h.nx, (do_len P σ sp kd i).trans h.len⟩
theorem OkP.num (hm : m ≤ 100000) : Num P σ sp := by
  obtain ⟨S, T, hi, hT⟩ := h.inv
  exact hi.num (by omega) (by have := h.ops; omega) h.nx
theorem OkP.one : cnt (fun s => s.pc == 10) sp n ≤ 1 := by
  obtain ⟨S, T, hi, hT⟩ := h.inv
  exact hi.one n
theorem OkP.behind (i : Int) (hp : (spOf sp i).pc = 10) (ha : (doP P σ sp 3 i).1 = false) : 0 < cnt (fun s => decide (0 < s.pc) && decide (s.pc < 10)) sp n := by
  obtain ⟨S, T, hi, hT⟩ := h.inv
  rw [← h.len]
  exact hi.behind i hp ha
end
theorem do_asks (P : Par) (σ : Ar) (sp : List Sp) (kd i : Int) (hk : kd = 1 ∨ kd = 2) : (doP P σ sp kd i).2.1 = σ ∧ ((doP P σ sp kd i).1 = false → (doP P σ sp kd i).2.2 = sp) := by
  rcases hk with rfl | rfl
  · exact ⟨rfl, fun h => turn_no 1 h⟩
  · exact ⟨rfl, fun h => turn_no 11 h⟩
theorem do_three (P : Par) (σ : Ar) (sp : List Sp) (i : Int) : (doP P σ sp 3 i).2.2 = sp := rfl
theorem do_words (P : Par) (σ : Ar) (sp : List Sp) (kd i : Int) (hk : kd ≠ 0) : (doP P σ sp kd i).2.1.ws = σ.ws ∧ (doP P σ sp kd i).2.1.t = σ.t := by
  unfold doP
  rw [if_neg hk]
  split
  · exact ⟨rfl, rfl⟩
  split
  · exact ⟨rfl, rfl⟩
  split
  · unfold aloneP
    split
    · refine ⟨?_, op_t _ _ _ _ _⟩
      show (Ar.op _ _ _ false _).ws = _
      unfold Ar.op
      split <;> rfl
    · exact ⟨rfl, rfl⟩
  · exact ⟨rfl, rfl⟩
def first1 (P : Par) (n : Nat) : Ar × List Sp := ((⟨zerosW 100, (1 + P.parts).toNat, 0, 0, 0, false⟩ : Ar).op 2 (place P 0) true 1, zeroS n)
theorem OkP.first {parts : Int} (p1 : 1 ≤ parts) (p2 : parts ≤ 32) (n : Nat) : OkP ⟨1, parts⟩ (first1 ⟨1, parts⟩ n).1 (first1 ⟨1, parts⟩ n).2 n 0 := by
  refine ⟨⟨0, 0, inv_start parts p1 p2 n, Nat.le_refl _⟩, ?_, by show (1 : Int) ≤ 4096; decide, by simp [first1, zeroS]⟩
  show (Ar.op _ _ _ _ _).ops ≤ 1
  rw [op_ops]
  show 0 + _ ≤ 1
  split <;> omega
theorem ord_first {parts : Int} (p1 : 1 ≤ parts) (p2 : parts ≤ 32) (n : Nat) : OrdP ⟨1, parts⟩ ⟨(first1 ⟨1, parts⟩ n).1, (first1 ⟨1, parts⟩ n).2, [], []⟩ := ord_start parts p1 p2 n
end Go.Proofs.YthffhhgaeolpgaaGreat.Pt

/- Package mcs: what its laws ask of it. -/
namespace Go.Proofs.YthffhhgaeolpgaaGreat.Mc
open Go.RowKit Go.Proofs.YthffhhgaeolpgaaGreat.Ara Go.Proofs.YthffhhgaeolpgaaGreat.Lok

theorem Inv.num {P : Par} {σ : Ar} {sp : List Sp} {q : List Int} (h : Inv P σ sp q) (hl : sp.length ≤ 32) (ho : σ.ops ≤ 1000000) (hn : P.tail ≤ 4096) : Num P σ sp := by
  refine ⟨⟨h.t1, hn⟩, fun k hk => ?_, ho⟩
  have h1 := h.ar (k : Int)
  have h2 := h.pcs (k : Int)
  rw [spOf_in hk] at h1 h2
  unfold inq outs at h2
  unfold pcOk
  omega
structure OkP (P : Par) (σ : Ar) (sp : List Sp) (n m : Nat) : Prop where
  inv : ∃ q, Inv P σ sp q
  ops : σ.ops ≤ m + 1
  nx : P.tail ≤ 4096
  len : sp.length = n
  small : n ≤ 32
section
variable {P : Par} {σ : Ar} {sp : List Sp} {n m : Nat} (h : OkP P σ sp n m)
include h
theorem OkP.act (kd i : Int) : OkP P (doP P σ sp kd i).2.1 (doP P σ sp kd i).2.2 n (m + 1) := by
  obtain ⟨q, hi⟩ := h.inv
  obtain ⟨q', hi'⟩ := do_inv hi kd i
  exact ⟨⟨q', hi'⟩, by have := do_ops P σ sp kd i; have := h.ops; omega, h.nx, (do_len P σ sp kd i).trans h.len, h.small⟩
theorem OkP.num (hm : m ≤ 100000) : Num P σ sp := by
  obtain ⟨q, hi⟩ := h.inv
  exact hi.num (by have := h.len; have := h.small; omega) (by have := h.ops; omega) h.nx
theorem OkP.one : cnt (fun s => s.pc == 10) sp n ≤ 1 := by
  obtain ⟨q, hi⟩ := h.inv
  exact hi.one n
theorem OkP.behind (i : Int) (hp : (spOf sp i).pc = 10) (ha : (doP P σ sp 3 i).1 = false) : 0 < cnt (fun s => decide (0 < s.pc) && decide (s.pc < 10)) sp n := by
  obtain ⟨q, hi⟩ := h.inv
  rw [← h.len]
  exact hi.behind i hp ha
end
theorem do_asks (P : Par) (σ : Ar) (sp : List Sp) (kd i : Int) (hk : kd = 1 ∨ kd = 2) : (doP P σ sp kd i).2.1 = σ ∧ ((doP P σ sp kd i).1 = false → (doP P σ sp kd i).2.2 = sp) := by
  rcases hk with rfl | rfl
  · exact ⟨rfl, fun h => turn_no 1 h⟩
  · exact ⟨rfl, fun h => turn_no 11 h⟩
theorem do_three (P : Par) (σ : Ar) (sp : List Sp) (i : Int) : (doP P σ sp 3 i).2.2 = sp := rfl
theorem do_words (P : Par) (σ : Ar) (sp : List Sp) (kd i : Int) (hk : kd ≠ 0) : (doP P σ sp kd i).2.1.ws = σ.ws ∧ (doP P σ sp kd i).2.1.t = σ.t := by
  unfold doP
  rw [if_neg hk]
  split
  · exact ⟨rfl, rfl⟩
  split
  · exact ⟨rfl, rfl⟩
  split
  · unfold aloneP
    split
    · refine ⟨?_, op_t _ _ _ _ _⟩
      show (Ar.op _ _ _ false _).ws = _
      unfold Ar.op
      split <;> rfl
    · exact ⟨rfl, rfl⟩
  · exact ⟨rfl, rfl⟩
def first1 (n : Nat) : Ar × List Sp := ((⟨zerosW 100, 1 + 2 * n, 0, 0, 0, false⟩ : Ar), zeroS n)
theorem OkP.first (n : Nat) (hn : n ≤ 32) : OkP ⟨1⟩ (first1 n).1 (first1 n).2 n 0 :=
  ⟨⟨_, inv_start n hn⟩, by show 0 ≤ 0 + 1; omega, by show (1 : Int) ≤ 4096; decide, by simp [first1, zeroS], hn⟩
theorem ord_first (n : Nat) (hn : n ≤ 32) : OrdP ⟨1⟩ ⟨(first1 n).1, (first1 n).2, [], []⟩ := ord_start n hn
end Go.Proofs.YthffhhgaeolpgaaGreat.Mc

