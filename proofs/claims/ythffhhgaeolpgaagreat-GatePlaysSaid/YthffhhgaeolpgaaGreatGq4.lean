/- Merged texts: Cl1, Reg, Cl2. -/
import Derived.Test.YthffhhgaeolpgaaGreatGq3
import Derived.Deep.RegionHeld3
import Derived.Laws.EntriesVeiled
set_option linter.unusedVariables false
/- Package clh: slots, spots, turns. -/
namespace Go.Proofs.YthffhhgaeolpgaaGreat.Cl
open Go.RowKit Go.Proofs.YthffhhgaeolpgaaGreat.Ara Go.Proofs.YthffhhgaeolpgaaGreat.Lok

def LkAt (W : World) (gl ga ha hs : Nat) (P : Par) (σ : Ar) (sp : List Sp) : Prop :=
  ArAt W ga ha σ ∧ SpAt W hs sp ∧ sp.length ≤ 32 ∧ (∃ c : Nat, W.heap[gl]? = some (.cells #[.pointer (some ⟨ga, 0, none⟩), .int .i64 P.tail, .slice (some ⟨hs, 0, none⟩) sp.length c] 181 (0, 0))) ∧ gl ≠ ga ∧ gl ≠ ha ∧ gl ≠ hs ∧ hs ≠ ga ∧ hs ≠ ha
theorem LkAt.mod {S : List Nat} {W W' : World} {gl ga ha hs : Nat} {P : Par} {σ : Ar} {sp : List Sp} (k : LkAt W gl ga ha hs P σ sp) (hm : Mod S W W') (h1 : gl ∉ S) (h2 : ga ∉ S) (h3 : ha ∉ S) (h4 : hs ∉ S) : LkAt W' gl ga ha hs P σ sp := by
  obtain ⟨k1, k2, k3, ⟨c, k4⟩, k5⟩ := k
  exact ⟨k1.mod hm h2 h3, k2.mod hm h4, k3, ⟨c, hm.blk k4 h1⟩, k5⟩
theorem LkAt.same {W W' : World} {gl ga ha hs : Nat} {P : Par} {σ : Ar} {sp : List Sp} (k : LkAt W gl ga ha hs P σ sp) (hb : Below W.heap.size W W') : LkAt W' gl ga ha hs P σ sp :=
  k.mod (S := []) (Mod.of_below hb) (by simp) (by simp) (by simp) (by simp)
theorem LkAt.drewN {W : World} {gl ga ha hs : Nat} {P : Par} {σ : Ar} {sp : List Sp} (k : LkAt W gl ga ha hs P σ sp) (n : Nat) : LkAt (W.drewN n) gl ga ha hs P σ sp := k
theorem LkAt.arena {W W' : World} {gl ga ha hs : Nat} {P : Par} {σ σ' : Ar} {sp : List Sp} (k : LkAt W gl ga ha hs P σ sp) (ha' : ArAt W' ga ha σ') (hm : Mod [ga, ha] W W') : LkAt W' gl ga ha hs P σ' sp := by
  obtain ⟨_, k2, k3, ⟨c, k4⟩, d1, d2, d3, d4, d5⟩ := k
  exact ⟨ha', k2.mod hm (by simp; omega), k3, ⟨c, hm.blk k4 (by simp; omega)⟩, d1, d2, d3, d4, d5⟩
theorem LkAt.spots {W W' : World} {gl ga ha hs : Nat} {P : Par} {σ : Ar} {sp sp' : List Sp} (k : LkAt W gl ga ha hs P σ sp) (hs' : SpAt W' hs sp') (hm : Mod [hs] W W') (hl : sp'.length = sp.length) : LkAt W' gl ga ha hs P σ sp' := by
  obtain ⟨k1, _, k3, ⟨c, k4⟩, d1, d2, d3, d4, d5⟩ := k
  refine ⟨k1.mod hm (by simp; omega) (by simp; omega), hs', by omega, ⟨c, ?_⟩, d1, d2, d3, d4, d5⟩
  have := hm.blk k4 (by simp; omega)
  rw [hl]
  exact this
theorem LkAt.heads {W : World} {gl ga ha hs : Nat} {P : Par} {σ : Ar} {sp : List Sp} (k : LkAt W gl ga ha hs P σ sp) : (∃ c : Nat, W.cell? ⟨gl, 0, none⟩ = some (.pointer (some ⟨ga, 0, none⟩)) ∧ W.cell? ⟨gl, 1, none⟩ = some (.int .i64 P.tail) ∧ W.cell? ⟨gl, 2, none⟩ = some (.slice (some ⟨hs, 0, none⟩) sp.length c)) ∧ sp.length ≤ 32 := by
  obtain ⟨_, _, k3, ⟨c, k4⟩, _⟩ := k
  exact ⟨⟨c, blk_cell k4 0 (by simp), blk_cell k4 1 (by simp), blk_cell k4 2 (by simp)⟩, k3⟩
section
variable (gl ga ha hs : Nat) (P : Par) (σ : Ar) (sp : List Sp) (w : World) (H : LkAt w gl ga ha hs P σ sp)
include H
theorem slots_lk : Calls Tryz.prog 196 #[.pointer (some ⟨gl, 0, none⟩)] w fun e w' => e = .returned (.int .i64 sp.length) ∧ w' = w := by
  obtain ⟨⟨cc, q0, q1, q2⟩, hl⟩ := H.heads
  clear H
  go_enter Tryz.func196, Tryz.ntmps196
  go_wp2_with fail
  go_ret
  exact ⟨rfl, rfl⟩
theorem spot_out_lk (i : Int) (hi : i < 0 ∨ (sp.length : Int) ≤ i) : Calls Tryz.prog 200 #[.pointer (some ⟨gl, 0, none⟩), .int .i64 i] w fun e w' => e = .returned (.pointer none) ∧ w' = w := by
  have HS := Lib.hid (slots_lk gl ga ha hs P σ sp w H)
  obtain ⟨⟨cc, q0, q1, q2⟩, hl⟩ := H.heads
  clear H
  by_cases h0 : i < 0
  · go_enter Tryz.func200, Tryz.ntmps200
    go_wp2_with fail
    go_ret
    exact ⟨rfl, rfl⟩
  · have h1 : (sp.length : Int) ≤ i := by omega
    go_enter Tryz.func200, Tryz.ntmps200
    go_wp2_with fail
    refine (HS.out).mono ?_
    rintro e wx ⟨rfl, hwx⟩
    obtain rfl := hwx.symm
    go_wp2_with fail
    go_ret
    exact ⟨rfl, rfl⟩
theorem spot_in_lk (k : Nat) (hk : k < sp.length) : Calls Tryz.prog 200 #[.pointer (some ⟨gl, 0, none⟩), .int .i64 (k : Int)] w fun e w' => e = .returned (.pointer (some ⟨hs, k * 4, none⟩)) ∧ w' = w := by
  have HS := Lib.hid (slots_lk gl ga ha hs P σ sp w H)
  obtain ⟨⟨cc, q0, q1, q2⟩, hl⟩ := H.heads
  have h1 : (k : Int) < (sp.length : Int) := by omega
  have h2 : (0 : Int) ≤ (k : Int) := by omega
  clear H
  go_enter Tryz.func200, Tryz.ntmps200
  go_wp2_with fail
  refine (HS.out).mono ?_
  rintro e wx ⟨rfl, hwx⟩
  obtain rfl := hwx.symm
  go_wp2_with fail
  go_ret
  exact ⟨rfl, rfl⟩
theorem Spot_lk (i : Int) : Calls Tryz.prog 197 #[.pointer (some ⟨gl, 0, none⟩), .int .i64 i] w fun e w' => e = .returned (.agg #[.int .i64 (spOf sp i).pc, .int .i64 (spOf sp i).a, .int .i64 (spOf sp i).b, .int .i64 (spOf sp i).c]) ∧ Below w.heap.size w w' := by
  by_cases hi : i < 0 ∨ (sp.length : Int) ≤ i
  · rw [spOf_out hi]
    have HS := Lib.hid (fun W K => spot_out_lk gl ga ha hs P σ sp W K i hi)
    have HH := Lib.hid (H.same (below_new w (.cells #[.int .i64 0, .int .i64 0, .int .i64 0, .int .i64 0] 53)))
    clear H hi
    go_enter Tryz.func197, Tryz.ntmps197
    go_wp2_with fail
    refine (HS.out _ HH.out).mono ?_
    rintro e wx ⟨rfl, hwx⟩
    obtain rfl := hwx.symm
    go_wp2_with fail
    exact bodyPost_ret (v := .agg #[.int .i64 0, .int .i64 0, .int .i64 0, .int .i64 0]) (by simp [results, Tryz.results197, go_sem]) rfl ⟨rfl, (Below.refl _ _).alloc (Nat.le_refl _) _⟩
  · obtain ⟨k, rfl⟩ := Int.eq_ofNat_of_zero_le (show 0 ≤ i by omega)
    have hk : k < sp.length := by omega
    have HS := Lib.hid (fun W K => spot_in_lk gl ga ha hs P σ sp W K k hk)
    have HH := Lib.hid (H.same (below_new w (.cells #[.int .i64 0, .int .i64 0, .int .i64 0, .int .i64 0] 53)))
    obtain ⟨c0, c1, c2, c3, _⟩ := H.2.1.cells k hk
    have hlt := H.2.1.lt
    have e0 := spOf_in hk
    rw [e0]
    clear H hi e0
    generalize sp[k] = s at *
    obtain ⟨xp, xa, xb, xc⟩ := s
    simp only at c0 c1 c2 c3 ⊢
    go_enter Tryz.func197, Tryz.ntmps197
    go_wp2_with fail
    refine (HS.out _ HH.out).mono ?_
    rintro e wx ⟨rfl, hwx⟩
    obtain rfl := hwx.symm
    go_wp2_with fail
    exact bodyPost_ret (v := .agg #[.int .i64 xp, .int .i64 xa, .int .i64 xb, .int .i64 xc]) (by simp [results, Tryz.results197, go_sem]) rfl ⟨rfl, (Below.refl _ _).alloc (Nat.le_refl _) _⟩
theorem turn_lk (i fr to : Int) : Calls Tryz.prog 199 #[.pointer (some ⟨gl, 0, none⟩), .int .i64 i, .int .i64 fr, .int .i64 to] w fun e w' => e = .returned (.bool (turnB sp i fr)) ∧ LkAt w' gl ga ha hs P σ (turnS sp i fr to) ∧ Mod [hs] w w' := by
  by_cases hi : i < 0 ∨ (sp.length : Int) ≤ i
  · rw [turn_out hi, turnS_out hi]
    have HS := Lib.hid (spot_out_lk gl ga ha hs P σ sp w H i hi)
    have HH := Lib.hid H
    clear H hi
    go_enter Tryz.func199, Tryz.ntmps199
    go_wp2_with fail
    refine (HS.out).mono ?_
    rintro e wx ⟨rfl, hwx⟩
    obtain rfl := hwx.symm
    go_wp2_with fail
    go_ret
    exact ⟨rfl, HH.out, Mod.refl _ _⟩
  · obtain ⟨k, rfl⟩ := Int.eq_ofNat_of_zero_le (show 0 ≤ i by omega)
    have hk : k < sp.length := by omega
    have HS := Lib.hid (spot_in_lk gl ga ha hs P σ sp w H k hk)
    have c0 := (H.2.1.cells k hk).1
    have f0 := (H.2.1.cells k hk).2.2.2.2 (k * 4)
    have HH := Lib.hid H
    have hm : Mod [hs] w (w.setCell ⟨hs, k * 4, none⟩ (.int .i64 to)) := (Mod.refl _ _).setCell (by simp) _
    have HT := Lib.hid (H.spots (H.2.1.setPc k hk to) hm (by rw [List.length_set]))
    rw [turn_in hk, turnS_in hk]
    by_cases hp : sp[k].pc = fr
    · rw [if_pos hp, beq_iff_eq.2 hp]
      rw [hp] at c0
      have e1 := ibne_no (rfl : fr = fr)
      generalize sp.set k { sp[k] with pc := to } = sp2 at *
      clear H hi hp hk
      go_enter Tryz.func199, Tryz.ntmps199
      go_wp2_with fail
      refine (HS.out).mono ?_
      rintro e wx ⟨rfl, hwx⟩
      obtain rfl := hwx.symm
      go_wp2_with fail
      go_ret
      exact ⟨rfl, HT.out, hm⟩
    · rw [if_neg hp, beq_eq_false_iff_ne.2 hp]
      have e1 := ibne hp
      generalize sp[k].pc = x at *
      clear H hi hp HT hm hk f0
      go_enter Tryz.func199, Tryz.ntmps199
      go_wp2_with fail
      refine (HS.out).mono ?_
      rintro e wx ⟨rfl, hwx⟩
      obtain rfl := hwx.symm
      go_wp2_with fail
      go_ret
      exact ⟨rfl, HH.out, Mod.refl _ _⟩
theorem Ask_lk (i : Int) : Calls Tryz.prog 194 #[.pointer (some ⟨gl, 0, none⟩), .int .i64 i] w fun e w' => e = .returned (.bool (turnB sp i 0)) ∧ LkAt w' gl ga ha hs P σ (turnS sp i 0 1) ∧ Mod [hs] w w' := by
  have HT := Lib.hid (turn_lk gl ga ha hs P σ sp w H i 0 1)
  clear H
  generalize turnB sp i 0 = b at *
  generalize turnS sp i 0 1 = sp2 at *
  go_enter Tryz.func194, Tryz.ntmps194
  go_wp2_with fail
  refine HT.out.mono ?_
  rintro e w2 ⟨rfl, h2, hm⟩
  go_wp2_with fail
  go_ret
  exact ⟨rfl, h2, hm⟩
theorem Leave_lk (i : Int) : Calls Tryz.prog 195 #[.pointer (some ⟨gl, 0, none⟩), .int .i64 i] w fun e w' => e = .returned (.bool (turnB sp i 10)) ∧ LkAt w' gl ga ha hs P σ (turnS sp i 10 11) ∧ Mod [hs] w w' := by
  have HT := Lib.hid (turn_lk gl ga ha hs P σ sp w H i 10 11)
  clear H
  generalize turnB sp i 10 = b at *
  generalize turnS sp i 10 11 = sp2 at *
  go_enter Tryz.func195, Tryz.ntmps195
  go_wp2_with fail
  refine HT.out.mono ?_
  rintro e w2 ⟨rfl, h2, hm⟩
  go_wp2_with fail
  go_ret
  exact ⟨rfl, h2, hm⟩
end

end Go.Proofs.YthffhhgaeolpgaaGreat.Cl

/- A region that draws: what holds of its worlds may be told anew behind an operation. -/
namespace Go.Proofs.YthffhhgaeolpgaaGreat
open Go.RowKit

theorem held_weaken {P : Program} {md : Region.Mode} {ops : Array Oper} {Q : Exit → Act → World → Prop} {S S' : World → Prop} (hS : ∀ w, S' w → S w) : ∀ (fuel : Nat) (listed : Array Bool) (a : Act) (w : World), wpAnyH P md ops Q S' fuel listed a w → wpAnyH P md ops Q S fuel listed a w
  | 0, _, _, _, h => h
  | fuel + 1, _, _, _, h => ⟨h.1, fun i hi => wpOp_mono (fun a' w' h' => ⟨hS _ h'.1, held_weaken hS fuel _ a' w' h'.2⟩) (h.2 i hi)⟩
theorem take_to {P : Program} {md : Region.Mode} {ops : Array Oper} {Q : Exit → Act → World → Prop} {S : World → Prop} (i : Nat) (d : Option Tmp) {oi : Oper} {v : Value} {fuel : Nat} {listed : Array Bool} {a : Act} {w : World} (hi : ops[i]? = some oi) (hd : oi.dst = d)
    (hs : Region.noSelect ops = true) (hf : Region.free md ops listed i = true) (hr : (Region.ready md ops listed).contains i = true)
    (hQ : ∀ c a w, Q (.panic c) (a.put d v) w → Q (.panic c) a w) (hy : YieldsIf P ops S oi v a) (hS : S w)
    (h : wpAnyH P md ops Q S fuel (listed.setIfInBounds i true) (a.put d v) w) : wpAnyH P md ops Q S (fuel + 1) listed a w := by
  subst hd
  exact wpAnyH_take hi hs hf hr hQ hy hS h
end Go.Proofs.YthffhhgaeolpgaaGreat

/- Package clh: Step, from one step to the next. -/
namespace Go.Proofs.YthffhhgaeolpgaaGreat.Cl
open Go.RowKit Go.Proofs.YthffhhgaeolpgaaGreat.Ara Go.Proofs.YthffhhgaeolpgaaGreat.Lok

def Num (P : Par) (σ : Ar) (sp : List Sp) : Prop := (1 ≤ P.tail ∧ P.tail ≤ 4096) ∧ (∀ k (h : k < sp.length), (0 ≤ sp[k].a ∧ sp[k].a ≤ 4096) ∧ 0 ≤ sp[k].b ∧ sp[k].b ≤ 4096) ∧ σ.ops ≤ 1000000 ∧ 1 ≤ σ.t
theorem lth {W : World} {g h : Nat} {σ : Ar} (k : ArAt W g h σ) (ht : 1 ≤ σ.t) : h < W.heap.size := by
  obtain ⟨h1, _, A, c, _, h4⟩ := k
  rcases h4 with h4 | ⟨_, _, h6⟩
  · rw [h4] at h1; simp at h1; omega
  · exact lt_of_blk h6
theorem LkAt.ltl {W : World} {gl ga ha hs : Nat} {P : Par} {σ : Ar} {sp : List Sp} (k : LkAt W gl ga ha hs P σ sp) : gl < W.heap.size := by
  obtain ⟨_, _, _, ⟨c, k4⟩, _⟩ := k
  exact lt_of_blk k4
theorem turn_setA (sp : List Sp) (k : Nat) (hk : k < sp.length) (fr to x : Int) (hp : sp[k].pc = fr) : turnS (sp.set k { sp[k] with a := x }) (k : Int) fr to = sp.set k { sp[k] with pc := to, a := x } := by
  have hk2 : k < (sp.set k { sp[k] with a := x }).length := by rw [List.length_set]; exact hk
  have e : (sp.set k { sp[k] with a := x })[k] = { sp[k] with a := x } := List.getElem_set_self hk2
  rw [turnS_in hk2, e, if_pos hp, List.set_set]
theorem set_bp (sp : List Sp) (k : Nat) (hk : k < sp.length) (x p : Int) (hk2 : k < (sp.set k { sp[k] with b := x }).length) : (sp.set k { sp[k] with b := x }).set k { (sp.set k { sp[k] with b := x })[k] with pc := p } = sp.set k { sp[k] with pc := p, b := x } := by
  have e : (sp.set k { sp[k] with b := x })[k] = { sp[k] with b := x } := List.getElem_set_self hk2
  rw [e, List.set_set]
theorem box_lk (P : Par) (gl bx : Nat) (n : Int) (w : World) (hc : w.cell? ⟨bx, 0, none⟩ = some (.pointer (some ⟨gl, 0, none⟩))) (hq : w.cell? ⟨gl, 1, none⟩ = some (.int .i64 P.tail)) (h1 : 1 ≤ P.tail ∧ P.tail ≤ 4096) (h2 : 0 ≤ n ∧ n ≤ 4096) :
    Calls Tryz.prog 201 #[.int .i64 n, .pointer (some ⟨bx, 0, none⟩)] w fun e w' => e = .returned (.int .i64 (box P n)) ∧ w' = w := by
  unfold box
  have e1 : IntKind.i64.wrap (P.tail + n) = P.tail + n := IntWalk.i64_in _ (by omega)
  go_enter Tryz.func201, Tryz.ntmps201
  go_wp2_with fail
  go_ret
  exact ⟨rfl, rfl⟩
section
variable (gl ga ha hs : Nat) (P : Par) (σ : Ar) (sp : List Sp) (w : World) (H : LkAt w gl ga ha hs P σ sp) (hN : Num P σ sp)
include H hN
set_option maxHeartbeats 4000000 in
set_option maxRecDepth 100000 in
theorem step_one (k : Nat) (hk : k < sp.length) (hp : sp[k].pc = 1) : Calls Tryz.prog 198 #[.pointer (some ⟨gl, 0, none⟩), .int .i64 (k : Int)] w fun e w' =>
    e = .returned (.bool false) ∧ LkAt w' gl ga ha hs P (σ.op 2 (box P sp[k].a) true 1) (sp.set k { sp[k] with pc := 2 }) ∧ Mod [ga, ha, hs] w w' := by
  have HSt := Lib.hid (fun W (K : LkAt W gl ga ha hs P σ sp) => store_any ga ha σ W K.1 hN.2.2.1 (box P sp[k].a) 1)
  have HS := Lib.hid (fun W K => spot_in_lk gl ga ha hs P σ sp W K k hk)
  have hmf : ∀ (fn : Fn) (first cap : Array Value) (w : World), (Instr.makeFunc fn first cap).run Tryz.prog w = .ok (.func fn first cap) w := fun _ _ _ _ => rfl
  obtain ⟨hP, hS, ho, ht⟩ := hN
  have hth := lth H.1 ht
  have htg := H.1.lt
  have hts := H.2.1.lt
  have htl := H.ltl
  obtain ⟨d1, d2, d3, d4, d5⟩ := H.2.2.2.2
  obtain ⟨na, nb⟩ := hS k hk
  have hbn := below_new w (.cells #[.pointer (some ⟨gl, 0, none⟩)] 111)
  have c0 := blk_cell (blk_new w (.cells #[.pointer (some ⟨gl, 0, none⟩)] 111)) 0 (by simp)
  simp only [List.getElem_toArray, List.getElem_cons_zero] at c0
  have hm0 : Mod [ga, ha, hs] w (w.alloc (.cells #[.pointer (some ⟨gl, 0, none⟩)] 111)) := Mod.of_below hbn
  have H1 := Lib.hid (H.same hbn)
  obtain ⟨⟨cc, q0, q1, q2⟩, _⟩ := H1.out.heads
  obtain ⟨s0, s1, s2, s3, sf⟩ := H1.out.2.1.cells k hk
  rw [hp] at s0
  have HP := Lib.hid hp
  have HK := Lib.hid hk
  have e3 : (k : Int) < (sp.length : Int) := by omega
  have e4 : (0 : Int) ≤ (k : Int) := by omega
  have e5 : (k : Int).toNat = k := by omega
  clear hbn H hp s3 sf ht hS
  have HBx := Lib.hid (fun W c q => box_lk P gl w.heap.size sp[k].a W c q hP na)
  have HFin := Lib.hid (fun W σ2 (K : LkAt W gl ga ha hs P σ2 sp) => And.intro (K.2.1.cells k hk).1 (And.intro ((K.2.1.cells k hk).2.2.2.2 (k * 4)) (K.spots (K.2.1.setPc k hk 2) ((Mod.refl [hs] W).setCell (by simp) _) (by rw [List.length_set]))))
  generalize sp.set k { sp[k] with pc := 2 } = sp2 at *
  generalize sp[k].a = xa at *
  generalize sp[k].b = xb at *
  generalize sp[k].pc = xp at *
  generalize σ.op 2 (box P xa) true 1 = σ2 at *
  generalize box P xa = p at *
  go_enter Tryz.func198, Tryz.ntmps198
  go_wp2_with fail
  generalize w.alloc (.cells #[.pointer (some ⟨gl, 0, none⟩)] 111) = W1 at *
  generalize w.heap.size = bx at *
  refine (HS.out _ H1.out).mono ?_
  rintro e wx ⟨rfl, hwx⟩
  obtain rfl := hwx.symm
  go_wp2_with fail
  go_region_held3 (fun V => V.cell? ⟨bx, 0, none⟩ = some (.pointer (some ⟨gl, 0, none⟩)) ∧ V.cell? ⟨gl, 0, none⟩ = some (.pointer (some ⟨ga, 0, none⟩)) ∧ V.cell? ⟨hs, k * 4 + 1, none⟩ = some (.int .i64 xa))
    (first | exact ⟨c0, q0, s1⟩ | exact k2)
    (first
      | (go_at_call 201; refine (HBx.out (W1.drewN 1) c0 q1).mono ?_; rintro e wx ⟨rfl, hwx⟩; obtain rfl := hwx.symm)
      | (go_at_call 83; refine (HSt.out _ (H1.out.drewN 1)).mono ?_; rintro e w2 ⟨rfl, ha2, hm2⟩; have k2 := And.intro (keepM hm2 (show (W1.drewN 1).cell? _ = _ from c0) (by simp; omega)) (And.intro (keepM hm2 (show (W1.drewN 1).cell? _ = _ from q0) (by simp; omega)) (keepM hm2 (show (W1.drewN 1).cell? _ = _ from s1) (by simp; omega))); have H2 := Lib.hid ((H1.out.drewN 1).arena ha2 hm2)))
  obtain ⟨t0, f0, h3⟩ := HFin.out _ _ H2.out
  have H3 := Lib.hid h3
  have hmm : Mod [ga, ha, hs] w (w2.setCell ⟨hs, k * 4, none⟩ (.int .i64 2)) := (((hm0.drewN 1).trans (hm2.sub (by simp)))).setCell (by simp) _
  clear k2 ha2 hm2 h3 HFin
  go_wp2_with fail
  go_ret
  exact ⟨rfl, H3.out, hmm⟩
set_option maxHeartbeats 4000000 in
set_option maxRecDepth 100000 in
theorem step_two (k : Nat) (hk : k < sp.length) (hp : sp[k].pc = 2) : Calls Tryz.prog 198 #[.pointer (some ⟨gl, 0, none⟩), .int .i64 (k : Int)] w fun e w' =>
    e = .returned (.bool false) ∧ LkAt w' gl ga ha hs P (σ.op 3 (box P 0) true sp[k].a) (sp.set k { sp[k] with pc := 3, b := σ.get (box P 0) }) ∧ Mod [ga, ha, hs] w w' := by
  have HSt := Lib.hid (fun W (K : LkAt W gl ga ha hs P σ sp) => swap_any ga ha σ W K.1 hN.2.2.1 (box P 0) sp[k].a)
  have HS := Lib.hid (fun W K => spot_in_lk gl ga ha hs P σ sp W K k hk)
  have hmf : ∀ (fn : Fn) (first cap : Array Value) (w : World), (Instr.makeFunc fn first cap).run Tryz.prog w = .ok (.func fn first cap) w := fun _ _ _ _ => rfl
  obtain ⟨hP, hS, ho, ht⟩ := hN
  have hth := lth H.1 ht
  have htg := H.1.lt
  have hts := H.2.1.lt
  have htl := H.ltl
  obtain ⟨d1, d2, d3, d4, d5⟩ := H.2.2.2.2
  obtain ⟨na, nb⟩ := hS k hk
  have hbn := below_new w (.cells #[.pointer (some ⟨gl, 0, none⟩)] 111)
  have c0 := blk_cell (blk_new w (.cells #[.pointer (some ⟨gl, 0, none⟩)] 111)) 0 (by simp)
  simp only [List.getElem_toArray, List.getElem_cons_zero] at c0
  have hm0 : Mod [ga, ha, hs] w (w.alloc (.cells #[.pointer (some ⟨gl, 0, none⟩)] 111)) := Mod.of_below hbn
  have H1 := Lib.hid (H.same hbn)
  obtain ⟨⟨cc, q0, q1, q2⟩, _⟩ := H1.out.heads
  obtain ⟨s0, s1, s2, s3, sf⟩ := H1.out.2.1.cells k hk
  rw [hp] at s0
  have HP := Lib.hid hp
  have HK := Lib.hid hk
  have e3 : (k : Int) < (sp.length : Int) := by omega
  have e4 : (0 : Int) ≤ (k : Int) := by omega
  have e5 : (k : Int).toNat = k := by omega
  clear hbn H hp s3 sf ht hS
  have HBx := Lib.hid (fun W c q => box_lk P gl w.heap.size 0 W c q hP (by omega))
  have HC := Lib.hid (fun W σ2 (K : LkAt W gl ga ha hs P σ2 sp) x => And.intro (K.2.1.cells k hk).2.2.1 (And.intro ((K.2.1.cells k hk).2.2.2.2 (k * 4 + 2)) (K.spots (K.2.1.setB k hk x) ((Mod.refl [hs] W).setCell (by simp) _) (by rw [List.length_set]))))
  have HFin := Lib.hid (fun W σ2 x (K : LkAt W gl ga ha hs P σ2 (sp.set k { sp[k] with b := x })) => And.intro (K.2.1.cells k (by rw [List.length_set]; exact hk)).1 (And.intro ((K.2.1.cells k (by rw [List.length_set]; exact hk)).2.2.2.2 (k * 4)) (set_bp sp k hk x 3 (by rw [List.length_set]; exact hk) ▸ K.spots (K.2.1.setPc k (by rw [List.length_set]; exact hk) 3) ((Mod.refl [hs] W).setCell (by simp) _) (by rw [List.length_set]))))
  generalize sp[k].a = xa at *
  generalize sp[k].pc = xp at *
  generalize σ.op 3 (box P 0) true xa = σ2 at *
  generalize box P 0 = p at *
  generalize σ.get p = x at *
  go_enter Tryz.func198, Tryz.ntmps198
  go_wp2_with fail
  generalize w.alloc (.cells #[.pointer (some ⟨gl, 0, none⟩)] 111) = W1 at *
  generalize w.heap.size = bx at *
  refine (HS.out _ H1.out).mono ?_
  rintro e wx ⟨rfl, hwx⟩
  obtain rfl := hwx.symm
  go_wp2_with fail
  go_region_held3 (fun V => V.cell? ⟨bx, 0, none⟩ = some (.pointer (some ⟨gl, 0, none⟩)) ∧ V.cell? ⟨gl, 0, none⟩ = some (.pointer (some ⟨ga, 0, none⟩)) ∧ V.cell? ⟨hs, k * 4 + 1, none⟩ = some (.int .i64 xa))
    (first | exact ⟨c0, q0, s1⟩ | exact k2 | exact k3)
    (first
      | (go_at_call 201; refine (HBx.out (W1.drewN 1) c0 q1).mono ?_; rintro e wx ⟨rfl, hwx⟩; obtain rfl := hwx.symm)
      | (go_at_call 190; refine (HSt.out _ (H1.out.drewN 1)).mono ?_; rintro e w2 ⟨rfl, ha2, hm2⟩; have k2 := And.intro (keepM hm2 (show (W1.drewN 1).cell? _ = _ from c0) (by simp; omega)) (And.intro (keepM hm2 (show (W1.drewN 1).cell? _ = _ from q0) (by simp; omega)) (keepM hm2 (show (W1.drewN 1).cell? _ = _ from s1) (by simp; omega))); have H2 := Lib.hid ((H1.out.drewN 1).arena ha2 hm2); have c2 := (HC.out _ _ H2.out x).1; have f2 := (HC.out _ _ H2.out x).2.1; have k3 := And.intro (((World.cell?_setCell_far w2 ⟨hs, k * 4 + 2, none⟩ ⟨bx, 0, none⟩ (.int .i64 x) (by simp; omega))).trans k2.1) (And.intro (((World.cell?_setCell_far w2 ⟨hs, k * 4 + 2, none⟩ ⟨gl, 0, none⟩ (.int .i64 x) (by simp; omega))).trans k2.2.1) (((World.cell?_setCell_other w2 ⟨hs, k * 4 + 2, none⟩ ⟨hs, k * 4 + 1, none⟩ (.int .i64 x) (by simp))).trans k2.2.2))))
  have hm3 : Mod [ga, ha, hs] w (w2.setCell ⟨hs, k * 4 + 2, none⟩ (.int .i64 x)) := (((hm0.drewN 1).trans (hm2.sub (by simp)))).setCell (by simp) _
  have H3 := (HC.out _ _ H2.out x).2.2
  obtain ⟨t0, f0, h4⟩ := HFin.out _ _ x H3
  have H4 := Lib.hid h4
  replace H3 := Lib.hid H3
  have hmm : Mod [ga, ha, hs] w ((w2.setCell ⟨hs, k * 4 + 2, none⟩ (.int .i64 x)).setCell ⟨hs, k * 4, none⟩ (.int .i64 3)) := hm3.setCell (by simp) _
  clear k2 k3 ha2 hm2 h4 HFin HC c2 f2 hm3
  generalize w2.setCell ⟨hs, k * 4 + 2, none⟩ (.int .i64 x) = w3 at *
  go_wp2_with fail
  go_ret
  exact ⟨rfl, H4.out, hmm⟩
set_option maxHeartbeats 4000000 in
set_option maxRecDepth 100000 in
theorem step_out (k : Nat) (hk : k < sp.length) (hp : sp[k].pc = 11) : Calls Tryz.prog 198 #[.pointer (some ⟨gl, 0, none⟩), .int .i64 (k : Int)] w fun e w' =>
    e = .returned (.bool true) ∧ LkAt w' gl ga ha hs P (σ.op 2 (box P sp[k].a) true 0) (sp.set k { sp[k] with pc := 0, a := sp[k].b }) ∧ Mod [ga, ha, hs] w w' := by
  have HSt := Lib.hid (fun W (K : LkAt W gl ga ha hs P σ sp) => store_any ga ha σ W K.1 hN.2.2.1 (box P sp[k].a) 0)
  have HTr := Lib.hid (turn_setA sp k hk 11 0 sp[k].b hp)
  have HTb := Lib.hid (show turnB (sp.set k { sp[k] with a := sp[k].b }) (k : Int) 11 = true by rw [turn_in (by rw [List.length_set]; exact hk), List.getElem_set_self]; simpa using hp)
  have HS := Lib.hid (fun W K => spot_in_lk gl ga ha hs P σ sp W K k hk)
  have hmf : ∀ (fn : Fn) (first cap : Array Value) (w : World), (Instr.makeFunc fn first cap).run Tryz.prog w = .ok (.func fn first cap) w := fun _ _ _ _ => rfl
  obtain ⟨hP, hS, ho, ht⟩ := hN
  have hth := lth H.1 ht
  have htg := H.1.lt
  have hts := H.2.1.lt
  have htl := H.ltl
  obtain ⟨d1, d2, d3, d4, d5⟩ := H.2.2.2.2
  obtain ⟨na, nb⟩ := hS k hk
  have hbn := below_new w (.cells #[.pointer (some ⟨gl, 0, none⟩)] 111)
  have c0 := blk_cell (blk_new w (.cells #[.pointer (some ⟨gl, 0, none⟩)] 111)) 0 (by simp)
  simp only [List.getElem_toArray, List.getElem_cons_zero] at c0
  have hm0 : Mod [ga, ha, hs] w (w.alloc (.cells #[.pointer (some ⟨gl, 0, none⟩)] 111)) := Mod.of_below hbn
  have H1 := Lib.hid (H.same hbn)
  obtain ⟨⟨cc, q0, q1, q2⟩, _⟩ := H1.out.heads
  obtain ⟨s0, s1, s2, s3, sf⟩ := H1.out.2.1.cells k hk
  rw [hp] at s0
  have HP := Lib.hid hp
  have HK := Lib.hid hk
  have e3 : (k : Int) < (sp.length : Int) := by omega
  have e4 : (0 : Int) ≤ (k : Int) := by omega
  have e5 : (k : Int).toNat = k := by omega
  clear hbn H hp s3 sf ht hS
  have HBx := Lib.hid (fun W c q => box_lk P gl w.heap.size sp[k].a W c q hP na)
  have HC := Lib.hid (fun W σ2 (K : LkAt W gl ga ha hs P σ2 sp) => And.intro (K.2.1.cells k hk).2.1 (And.intro ((K.2.1.cells k hk).2.2.2.2 (k * 4 + 1)) (And.intro (K.2.1.cells k hk).2.2.1 (K.spots (K.2.1.setA k hk sp[k].b) ((Mod.refl [hs] W).setCell (by simp) _) (by rw [List.length_set])))))
  have HT : ∀ W σ2, LkAt W gl ga ha hs P σ2 (sp.set k { sp[k] with a := sp[k].b }) → Calls Tryz.prog 199 #[.pointer (some ⟨gl, 0, none⟩), .int .i64 (k : Int), .int .i64 11, .int .i64 0] W fun e w' => e = .returned (.bool true) ∧ LkAt w' gl ga ha hs P σ2 (sp.set k { sp[k] with pc := 0, a := sp[k].b }) ∧ Mod [hs] W w' :=
    fun W σ2 K => (turn_lk gl ga ha hs P σ2 _ W K (k : Int) 11 0).mono (fun e w' h => And.intro (h.1.trans (congrArg (fun b => Ending.returned (Value.bool b)) HTb.out)) (And.intro (Eq.mp (congrArg (fun s => LkAt w' gl ga ha hs P σ2 s) HTr.out) h.2.1) h.2.2))
  replace HT := Lib.hid HT
  generalize sp.set k { sp[k] with pc := 0, a := sp[k].b } = sp3 at *
  generalize sp.set k { sp[k] with a := sp[k].b } = sp2 at *
  generalize sp[k].a = xa at *
  generalize sp[k].b = xb at *
  generalize sp[k].pc = xp at *
  generalize σ.op 2 (box P xa) true 0 = σ2 at *
  generalize box P xa = p at *
  clear HTr HTb
  go_enter Tryz.func198, Tryz.ntmps198
  go_wp2_with fail
  generalize w.alloc (.cells #[.pointer (some ⟨gl, 0, none⟩)] 111) = W1 at *
  generalize w.heap.size = bx at *
  refine (HS.out _ H1.out).mono ?_
  rintro e wx ⟨rfl, hwx⟩
  obtain rfl := hwx.symm
  go_wp2_with fail
  go_region_held3 (fun V => V.cell? ⟨bx, 0, none⟩ = some (.pointer (some ⟨gl, 0, none⟩)) ∧ V.cell? ⟨gl, 0, none⟩ = some (.pointer (some ⟨ga, 0, none⟩)) ∧ V.cell? ⟨hs, k * 4 + 1, none⟩ = some (.int .i64 xa))
    (first | exact ⟨c0, q0, s1⟩ | exact k2)
    (first
      | (go_at_call 201; refine (HBx.out (W1.drewN 1) c0 q1).mono ?_; rintro e wx ⟨rfl, hwx⟩; obtain rfl := hwx.symm)
      | (go_at_call 83; refine (HSt.out _ (H1.out.drewN 1)).mono ?_; rintro e w2 ⟨rfl, ha2, hm2⟩; have k2 := And.intro (keepM hm2 (show (W1.drewN 1).cell? _ = _ from c0) (by simp; omega)) (And.intro (keepM hm2 (show (W1.drewN 1).cell? _ = _ from q0) (by simp; omega)) (keepM hm2 (show (W1.drewN 1).cell? _ = _ from s1) (by simp; omega))); have H2 := Lib.hid ((H1.out.drewN 1).arena ha2 hm2)))
  have hmm : Mod [ga, ha, hs] w (w2.setCell ⟨hs, k * 4 + 1, none⟩ (.int .i64 xb)) := (((hm0.drewN 1).trans (hm2.sub (by simp)))).setCell (by simp) _
  obtain ⟨u1, f1, u2, h3⟩ := HC.out _ _ H2.out
  have H3 := Lib.hid h3
  have v0 := ((World.cell?_setCell_far w2 ⟨hs, k * 4 + 1, none⟩ ⟨bx, 0, none⟩ (.int .i64 xb) (by simp; omega))).trans k2.1
  clear ha2 hm2 h3 HC
  obtain ⟨k21, k22, k23⟩ := k2
  go_wp2_with fail
  generalize w2.setCell ⟨hs, k * 4 + 1, none⟩ (.int .i64 xb) = w3 at *
  refine (HT.out _ _ H3.out).mono ?_
  rintro e w4 ⟨rfl, h4, hm4⟩
  have H4 := Lib.hid h4
  clear h4
  go_wp2_with fail
  go_ret
  exact ⟨rfl, H4.out, hmm.trans (hm4.sub (by simp))⟩
set_option maxHeartbeats 4000000 in
set_option maxRecDepth 100000 in
theorem step_three (k : Nat) (hk : k < sp.length) (hp : sp[k].pc = 3) : Calls Tryz.prog 198 #[.pointer (some ⟨gl, 0, none⟩), .int .i64 (k : Int)] w fun e w' =>
    e = .returned (.bool (σ.get (box P sp[k].b) == 0)) ∧ LkAt w' gl ga ha hs P (σ.op 1 (box P sp[k].b) false 0) (if σ.get (box P sp[k].b) = 0 then sp.set k { sp[k] with pc := 10 } else sp) ∧ Mod [ga, ha, hs] w w' := by
  have HSt := Lib.hid (fun W (K : LkAt W gl ga ha hs P σ sp) => load_any ga ha σ W K.1 hN.2.2.1 (box P sp[k].b))
  by_cases hx : σ.get (box P sp[k].b) = 0
  · rw [if_pos hx, beq_iff_eq.2 hx]
    rw [hx] at HSt
    clear hx
    have HS := Lib.hid (fun W K => spot_in_lk gl ga ha hs P σ sp W K k hk)
    have hmf : ∀ (fn : Fn) (first cap : Array Value) (w : World), (Instr.makeFunc fn first cap).run Tryz.prog w = .ok (.func fn first cap) w := fun _ _ _ _ => rfl
    obtain ⟨hP, hS, ho, ht⟩ := hN
    have hth := lth H.1 ht
    have htg := H.1.lt
    have hts := H.2.1.lt
    have htl := H.ltl
    obtain ⟨d1, d2, d3, d4, d5⟩ := H.2.2.2.2
    obtain ⟨na, nb⟩ := hS k hk
    have hbn := below_new w (.cells #[.pointer (some ⟨gl, 0, none⟩)] 111)
    have c0 := blk_cell (blk_new w (.cells #[.pointer (some ⟨gl, 0, none⟩)] 111)) 0 (by simp)
    simp only [List.getElem_toArray, List.getElem_cons_zero] at c0
    have hm0 : Mod [ga, ha, hs] w (w.alloc (.cells #[.pointer (some ⟨gl, 0, none⟩)] 111)) := Mod.of_below hbn
    have H1 := Lib.hid (H.same hbn)
    obtain ⟨⟨cc, q0, q1, q2⟩, _⟩ := H1.out.heads
    obtain ⟨s0, s1, s2, s3, sf⟩ := H1.out.2.1.cells k hk
    rw [hp] at s0
    have HP := Lib.hid hp
    have HK := Lib.hid hk
    have e3 : (k : Int) < (sp.length : Int) := by omega
    have e4 : (0 : Int) ≤ (k : Int) := by omega
    have e5 : (k : Int).toNat = k := by omega
    clear hbn H hp s3 sf ht hS
    have HBx := Lib.hid (fun W c q => box_lk P gl w.heap.size sp[k].b W c q hP nb)
    have HT := Lib.hid (fun W σ2 (K : LkAt W gl ga ha hs P σ2 sp) => turn_lk gl ga ha hs P σ2 sp W K (k : Int) 3 10)
    rw [turn_in hk, turnS_in hk, HP.out, if_pos rfl, beq_self_eq_true] at HT
    have HC := Lib.hid (fun W σ2 (K : LkAt W gl ga ha hs P σ2 (sp.set k { sp[k] with pc := 10 })) => (K.2.1.cells k (by rw [List.length_set]; exact hk)).2.2.1)
    simp only [List.getElem_set_self] at HC
    generalize sp.set k { sp[k] with pc := 10 } = sp2 at *
    generalize sp[k].a = xa at *
    generalize sp[k].b = xb at *
    generalize sp[k].pc = xp at *
    generalize σ.op 1 (box P xb) false 0 = σ2 at *
    generalize box P xb = p at *
    generalize σ.get p = x at *
    go_enter Tryz.func198, Tryz.ntmps198
    go_wp2_with fail
    generalize w.alloc (.cells #[.pointer (some ⟨gl, 0, none⟩)] 111) = W1 at *
    generalize w.heap.size = bx at *
    refine (HS.out _ H1.out).mono ?_
    rintro e wx ⟨rfl, hwx⟩
    obtain rfl := hwx.symm
    go_wp2_with fail
    have HK7 := Lib.hid (H1.out.drewN 1)
    refine wp_region_held_drew (S := fun V => V.cell? ⟨bx, 0, none⟩ = some (.pointer (some ⟨gl, 0, none⟩)) ∧ V.cell? ⟨gl, 0, none⟩ = some (.pointer (some ⟨ga, 0, none⟩)) ∧ V.cell? ⟨hs, k * 4 + 2, none⟩ = some (.int .i64 xb)) (by kernel_rfl) ⟨c0, q0, s2⟩ (fun hHeld => ?_)
    refine take_to 0 (some 54) (v := ?_) rfl rfl (by kernel_rfl) (by kernel_rfl) (by kernel_rfl) (fun _ _ _ h => h) (Or.inl ⟨by rfl, ?_⟩) (by first | trivial | assumption) ?_
    rotate_left
    focus (intro w hSw; (try dsimp only at hSw); go_simp; (try with_reducible rfl))
    simp only [Act.put, List.setIfInBounds_toArray, List.set_cons_zero, List.set_cons_succ]
    refine take_to 1 (some 55) (v := ?_) rfl rfl (by kernel_rfl) (by kernel_rfl) (by kernel_rfl) (fun _ _ _ h => h) (Or.inl ⟨by rfl, ?_⟩) (by first | trivial | assumption) ?_
    rotate_left
    focus (intro w hSw; (try dsimp only at hSw); go_simp; (try with_reducible rfl))
    simp only [Act.put, List.setIfInBounds_toArray, List.set_cons_zero, List.set_cons_succ]
    refine take_to 2 (some 56) (v := ?_) rfl rfl (by kernel_rfl) (by kernel_rfl) (by kernel_rfl) (fun _ _ _ h => h) (Or.inl ⟨by rfl, ?_⟩) (by first | trivial | assumption) ?_
    rotate_left
    focus (intro w hSw; (try dsimp only at hSw); go_simp; (try with_reducible rfl))
    simp only [Act.put, List.setIfInBounds_toArray, List.set_cons_zero, List.set_cons_succ]
    refine take_to 3 (some 57) (v := ?_) rfl rfl (by kernel_rfl) (by kernel_rfl) (by kernel_rfl) (fun _ _ _ h => h) (Or.inl ⟨by rfl, ?_⟩) (by first | trivial | assumption) ?_
    rotate_left
    focus (intro w hSw; (try dsimp only at hSw); go_simp; (try with_reducible rfl))
    simp only [Act.put, List.setIfInBounds_toArray, List.set_cons_zero, List.set_cons_succ]
    refine take_to 4 (some 58) (v := ?_) rfl rfl (by kernel_rfl) (by kernel_rfl) (by kernel_rfl) (fun _ _ _ h => h) (Or.inl ⟨by rfl, ?_⟩) (by first | trivial | assumption) ?_
    rotate_left
    focus (intro w hSw; (try dsimp only at hSw); go_simp; (try with_reducible rfl))
    simp only [Act.put, List.setIfInBounds_toArray, List.set_cons_zero, List.set_cons_succ]
    refine take_to 5 (some 59) (v := ?_) rfl rfl (by kernel_rfl) (by kernel_rfl) (by kernel_rfl) (fun _ _ _ h => h) (Or.inl ⟨by rfl, ?_⟩) (by first | trivial | assumption) ?_
    rotate_left
    focus (intro w hSw; (try dsimp only at hSw); go_simp; (try with_reducible rfl))
    simp only [Act.put, List.setIfInBounds_toArray, List.set_cons_zero, List.set_cons_succ]
    refine take_to 6 (some 60) (v := ?_) rfl rfl (by kernel_rfl) (by kernel_rfl) (by kernel_rfl) (fun _ _ _ h => h) (Or.inl ⟨by rfl, ?_⟩) (by first | trivial | assumption) ?_
    rotate_left
    focus (intro w hSw; (try dsimp only at hSw); go_simp; (try with_reducible rfl))
    simp only [Act.put, List.setIfInBounds_toArray, List.set_cons_zero, List.set_cons_succ]
    refine take_to 7 (some 61) (v := ?_) rfl rfl (by kernel_rfl) (by kernel_rfl) (by kernel_rfl) (fun _ _ _ h => h) (Or.inl ⟨by rfl, ?_⟩) (by first | trivial | assumption) ?_
    rotate_left
    focus (intro w hSw; (try dsimp only at hSw); go_simp; (try with_reducible rfl))
    simp only [Act.put, List.setIfInBounds_toArray, List.set_cons_zero, List.set_cons_succ]
    refine take_to 8 (some 62) (v := ?_) rfl rfl (by kernel_rfl) (by kernel_rfl) (by kernel_rfl) (fun _ _ _ h => h) (Or.inl ⟨by rfl, ?_⟩) (by first | trivial | assumption) ?_
    rotate_left
    focus (intro w hSw; (try dsimp only at hSw); go_simp; (try with_reducible rfl))
    simp only [Act.put, List.setIfInBounds_toArray, List.set_cons_zero, List.set_cons_succ]
    refine wpAnyH_ready (rs := [9]) (by kernel_rfl) (by simp) ?_
    refine AllReadyH.cons rfl (fun K hK => ?_) AllReadyH.nil
    go_simp
    refine (HBx.out (W1.drewN 1) c0 q1).mono ?_
    rintro e wx ⟨rfl, hwx⟩
    obtain rfl := hwx.symm
    go_simp
    refine hK.out _ _ hHeld (fun hHeld => ?_)
    refine wpAnyH_ready (rs := [10]) (by kernel_rfl) (by simp) ?_
    refine AllReadyH.cons rfl (fun K hK => ?_) AllReadyH.nil
    go_simp
    refine (HSt.out _ (H1.out.drewN 1)).mono ?_
    rintro e w2 ⟨rfl, ha2, hm2⟩
    have k2 := And.intro (keepM hm2 (show (W1.drewN 1).cell? _ = _ from c0) (by simp; omega)) (And.intro (keepM hm2 (show (W1.drewN 1).cell? _ = _ from q0) (by simp; omega)) (keepM hm2 (show (W1.drewN 1).cell? _ = _ from s2) (by simp; omega)))
    have H2 := Lib.hid ((H1.out.drewN 1).arena ha2 hm2)
    have hmm : Mod [ga, ha, hs] w w2 := (hm0.drewN 1).trans (hm2.sub (by simp))
    go_simp
    refine hK.out _ _ k2 (fun hHeld => ?_)
    refine take_to 11 (some 65) (v := ?_) rfl rfl (by kernel_rfl) (by kernel_rfl) (by kernel_rfl) (fun _ _ _ h => h) (Or.inl ⟨by rfl, ?_⟩) (by first | trivial | assumption) ?_
    rotate_left
    focus (intro w hSw; (try dsimp only at hSw); go_simp; (try with_reducible rfl))
    simp only [Act.put, List.setIfInBounds_toArray, List.set_cons_zero, List.set_cons_succ]
    refine take_to 12 (some 66) (v := ?_) rfl rfl (by kernel_rfl) (by kernel_rfl) (by kernel_rfl) (fun _ _ _ h => h) (Or.inl ⟨by rfl, ?_⟩) (by first | trivial | assumption) ?_
    rotate_left
    focus (intro w hSw; (try dsimp only at hSw); go_simp; (try with_reducible rfl))
    simp only [Act.put, List.setIfInBounds_toArray, List.set_cons_zero, List.set_cons_succ]
    refine take_to 13 (some 67) (v := ?_) rfl rfl (by kernel_rfl) (by kernel_rfl) (by kernel_rfl) (fun _ _ _ h => h) (Or.inl ⟨by rfl, ?_⟩) (by first | trivial | assumption) ?_
    rotate_left
    focus (intro w hSw; (try dsimp only at hSw); go_simp; (try with_reducible rfl))
    simp only [Act.put, List.setIfInBounds_toArray, List.set_cons_zero, List.set_cons_succ]
    refine take_to 14 (some 68) (v := ?_) rfl rfl (by kernel_rfl) (by kernel_rfl) (by kernel_rfl) (fun _ _ _ h => h) (Or.inl ⟨by rfl, ?_⟩) (by first | trivial | assumption) ?_
    rotate_left
    focus (intro w hSw; (try dsimp only at hSw); go_simp; (try with_reducible rfl))
    simp only [Act.put, List.setIfInBounds_toArray, List.set_cons_zero, List.set_cons_succ]
    refine wpAnyH_ready (rs := [15]) (by kernel_rfl) (by simp) ?_
    refine AllReadyH.cons rfl (fun K hK => ?_) AllReadyH.nil
    go_simp
    refine (HT.out _ _ H2.out).mono ?_
    rintro e w3 ⟨rfl, h3, hm3⟩
    have H3 := Lib.hid h3
    have k3 := And.intro (keepM hm3 k2.1 (by simp; omega)) (And.intro (keepM hm3 k2.2.1 (by simp; omega)) (HC.out _ _ h3))
    go_simp
    refine hK.out _ _ k3 (fun hHeld => ?_)
    refine take_to 16 (some 70) (v := ?_) rfl rfl (by kernel_rfl) (by kernel_rfl) (by kernel_rfl) (fun _ _ _ h => h) (Or.inl ⟨by rfl, ?_⟩) (by first | trivial | assumption) ?_
    rotate_left
    focus (intro w hSw; (try dsimp only at hSw); go_simp; (try with_reducible rfl))
    simp only [Act.put, List.setIfInBounds_toArray, List.set_cons_zero, List.set_cons_succ]
    refine take_to 17 (some 4) (v := ?_) rfl rfl (by kernel_rfl) (by kernel_rfl) (by kernel_rfl) (fun _ _ _ h => h) (Or.inl ⟨by rfl, ?_⟩) (by first | trivial | assumption) ?_
    rotate_left
    focus (intro w hSw; (try dsimp only at hSw); go_simp; (try with_reducible rfl))
    simp only [Act.put, List.setIfInBounds_toArray, List.set_cons_zero, List.set_cons_succ]
    refine wpAnyH_done (by kernel_rfl) ?_ _
    go_wp2_with fail
    go_ret
    exact ⟨rfl, H3.out, hmm.trans (hm3.sub (by simp))⟩
  · rw [if_neg hx, beq_eq_false_iff_ne.2 hx]
    have e9 := ibeq_no hx
    clear hx
    have HS := Lib.hid (fun W K => spot_in_lk gl ga ha hs P σ sp W K k hk)
    have hmf : ∀ (fn : Fn) (first cap : Array Value) (w : World), (Instr.makeFunc fn first cap).run Tryz.prog w = .ok (.func fn first cap) w := fun _ _ _ _ => rfl
    obtain ⟨hP, hS, ho, ht⟩ := hN
    have hth := lth H.1 ht
    have htg := H.1.lt
    have hts := H.2.1.lt
    have htl := H.ltl
    obtain ⟨d1, d2, d3, d4, d5⟩ := H.2.2.2.2
    obtain ⟨na, nb⟩ := hS k hk
    have hbn := below_new w (.cells #[.pointer (some ⟨gl, 0, none⟩)] 111)
    have c0 := blk_cell (blk_new w (.cells #[.pointer (some ⟨gl, 0, none⟩)] 111)) 0 (by simp)
    simp only [List.getElem_toArray, List.getElem_cons_zero] at c0
    have hm0 : Mod [ga, ha, hs] w (w.alloc (.cells #[.pointer (some ⟨gl, 0, none⟩)] 111)) := Mod.of_below hbn
    have H1 := Lib.hid (H.same hbn)
    obtain ⟨⟨cc, q0, q1, q2⟩, _⟩ := H1.out.heads
    obtain ⟨s0, s1, s2, s3, sf⟩ := H1.out.2.1.cells k hk
    rw [hp] at s0
    have HP := Lib.hid hp
    have HK := Lib.hid hk
    have e3 : (k : Int) < (sp.length : Int) := by omega
    have e4 : (0 : Int) ≤ (k : Int) := by omega
    have e5 : (k : Int).toNat = k := by omega
    clear hbn H hp s3 sf ht hS
    have HBx := Lib.hid (fun W c q => box_lk P gl w.heap.size sp[k].b W c q hP nb)
    have HT := Lib.hid (fun W σ2 (K : LkAt W gl ga ha hs P σ2 sp) => turn_lk gl ga ha hs P σ2 sp W K (k : Int) 3 10)
    rw [turn_in hk, turnS_in hk, HP.out, if_pos rfl, beq_self_eq_true] at HT
    have HC := Lib.hid (fun W σ2 (K : LkAt W gl ga ha hs P σ2 (sp.set k { sp[k] with pc := 10 })) => (K.2.1.cells k (by rw [List.length_set]; exact hk)).2.2.1)
    simp only [List.getElem_set_self] at HC
    generalize sp.set k { sp[k] with pc := 10 } = sp2 at *
    generalize sp[k].a = xa at *
    generalize sp[k].b = xb at *
    generalize sp[k].pc = xp at *
    generalize σ.op 1 (box P xb) false 0 = σ2 at *
    generalize box P xb = p at *
    generalize σ.get p = x at *
    go_enter Tryz.func198, Tryz.ntmps198
    go_wp2_with fail
    generalize w.alloc (.cells #[.pointer (some ⟨gl, 0, none⟩)] 111) = W1 at *
    generalize w.heap.size = bx at *
    refine (HS.out _ H1.out).mono ?_
    rintro e wx ⟨rfl, hwx⟩
    obtain rfl := hwx.symm
    go_wp2_with fail
    have HK7 := Lib.hid (H1.out.drewN 1)
    refine wp_region_held_drew (S := fun V => V.cell? ⟨bx, 0, none⟩ = some (.pointer (some ⟨gl, 0, none⟩)) ∧ V.cell? ⟨gl, 0, none⟩ = some (.pointer (some ⟨ga, 0, none⟩)) ∧ V.cell? ⟨hs, k * 4 + 2, none⟩ = some (.int .i64 xb)) (by kernel_rfl) ⟨c0, q0, s2⟩ (fun hHeld => ?_)
    refine take_to 0 (some 54) (v := ?_) rfl rfl (by kernel_rfl) (by kernel_rfl) (by kernel_rfl) (fun _ _ _ h => h) (Or.inl ⟨by rfl, ?_⟩) (by first | trivial | assumption) ?_
    rotate_left
    focus (intro w hSw; (try dsimp only at hSw); go_simp; (try with_reducible rfl))
    simp only [Act.put, List.setIfInBounds_toArray, List.set_cons_zero, List.set_cons_succ]
    refine take_to 1 (some 55) (v := ?_) rfl rfl (by kernel_rfl) (by kernel_rfl) (by kernel_rfl) (fun _ _ _ h => h) (Or.inl ⟨by rfl, ?_⟩) (by first | trivial | assumption) ?_
    rotate_left
    focus (intro w hSw; (try dsimp only at hSw); go_simp; (try with_reducible rfl))
    simp only [Act.put, List.setIfInBounds_toArray, List.set_cons_zero, List.set_cons_succ]
    refine take_to 2 (some 56) (v := ?_) rfl rfl (by kernel_rfl) (by kernel_rfl) (by kernel_rfl) (fun _ _ _ h => h) (Or.inl ⟨by rfl, ?_⟩) (by first | trivial | assumption) ?_
    rotate_left
    focus (intro w hSw; (try dsimp only at hSw); go_simp; (try with_reducible rfl))
    simp only [Act.put, List.setIfInBounds_toArray, List.set_cons_zero, List.set_cons_succ]
    refine take_to 3 (some 57) (v := ?_) rfl rfl (by kernel_rfl) (by kernel_rfl) (by kernel_rfl) (fun _ _ _ h => h) (Or.inl ⟨by rfl, ?_⟩) (by first | trivial | assumption) ?_
    rotate_left
    focus (intro w hSw; (try dsimp only at hSw); go_simp; (try with_reducible rfl))
    simp only [Act.put, List.setIfInBounds_toArray, List.set_cons_zero, List.set_cons_succ]
    refine take_to 4 (some 58) (v := ?_) rfl rfl (by kernel_rfl) (by kernel_rfl) (by kernel_rfl) (fun _ _ _ h => h) (Or.inl ⟨by rfl, ?_⟩) (by first | trivial | assumption) ?_
    rotate_left
    focus (intro w hSw; (try dsimp only at hSw); go_simp; (try with_reducible rfl))
    simp only [Act.put, List.setIfInBounds_toArray, List.set_cons_zero, List.set_cons_succ]
    refine take_to 5 (some 59) (v := ?_) rfl rfl (by kernel_rfl) (by kernel_rfl) (by kernel_rfl) (fun _ _ _ h => h) (Or.inl ⟨by rfl, ?_⟩) (by first | trivial | assumption) ?_
    rotate_left
    focus (intro w hSw; (try dsimp only at hSw); go_simp; (try with_reducible rfl))
    simp only [Act.put, List.setIfInBounds_toArray, List.set_cons_zero, List.set_cons_succ]
    refine take_to 6 (some 60) (v := ?_) rfl rfl (by kernel_rfl) (by kernel_rfl) (by kernel_rfl) (fun _ _ _ h => h) (Or.inl ⟨by rfl, ?_⟩) (by first | trivial | assumption) ?_
    rotate_left
    focus (intro w hSw; (try dsimp only at hSw); go_simp; (try with_reducible rfl))
    simp only [Act.put, List.setIfInBounds_toArray, List.set_cons_zero, List.set_cons_succ]
    refine take_to 7 (some 61) (v := ?_) rfl rfl (by kernel_rfl) (by kernel_rfl) (by kernel_rfl) (fun _ _ _ h => h) (Or.inl ⟨by rfl, ?_⟩) (by first | trivial | assumption) ?_
    rotate_left
    focus (intro w hSw; (try dsimp only at hSw); go_simp; (try with_reducible rfl))
    simp only [Act.put, List.setIfInBounds_toArray, List.set_cons_zero, List.set_cons_succ]
    refine take_to 8 (some 62) (v := ?_) rfl rfl (by kernel_rfl) (by kernel_rfl) (by kernel_rfl) (fun _ _ _ h => h) (Or.inl ⟨by rfl, ?_⟩) (by first | trivial | assumption) ?_
    rotate_left
    focus (intro w hSw; (try dsimp only at hSw); go_simp; (try with_reducible rfl))
    simp only [Act.put, List.setIfInBounds_toArray, List.set_cons_zero, List.set_cons_succ]
    refine wpAnyH_ready (rs := [9]) (by kernel_rfl) (by simp) ?_
    refine AllReadyH.cons rfl (fun K hK => ?_) AllReadyH.nil
    go_simp
    refine (HBx.out (W1.drewN 1) c0 q1).mono ?_
    rintro e wx ⟨rfl, hwx⟩
    obtain rfl := hwx.symm
    go_simp
    refine hK.out _ _ hHeld (fun hHeld => ?_)
    refine wpAnyH_ready (rs := [10]) (by kernel_rfl) (by simp) ?_
    refine AllReadyH.cons rfl (fun K hK => ?_) AllReadyH.nil
    go_simp
    refine (HSt.out _ (H1.out.drewN 1)).mono ?_
    rintro e w2 ⟨rfl, ha2, hm2⟩
    have k2 := And.intro (keepM hm2 (show (W1.drewN 1).cell? _ = _ from c0) (by simp; omega)) (And.intro (keepM hm2 (show (W1.drewN 1).cell? _ = _ from q0) (by simp; omega)) (keepM hm2 (show (W1.drewN 1).cell? _ = _ from s2) (by simp; omega)))
    have H2 := Lib.hid ((H1.out.drewN 1).arena ha2 hm2)
    have hmm : Mod [ga, ha, hs] w w2 := (hm0.drewN 1).trans (hm2.sub (by simp))
    go_simp
    refine hK.out _ _ k2 (fun hHeld => ?_)
    refine take_to 11 (some 65) (v := ?_) rfl rfl (by kernel_rfl) (by kernel_rfl) (by kernel_rfl) (fun _ _ _ h => h) (Or.inl ⟨by rfl, ?_⟩) (by first | trivial | assumption) ?_
    rotate_left
    focus (intro w hSw; (try dsimp only at hSw); go_simp; (try with_reducible rfl))
    simp only [Act.put, List.setIfInBounds_toArray, List.set_cons_zero, List.set_cons_succ]
    refine take_to 12 (some 66) (v := ?_) rfl rfl (by kernel_rfl) (by kernel_rfl) (by kernel_rfl) (fun _ _ _ h => h) (Or.inl ⟨by rfl, ?_⟩) (by first | trivial | assumption) ?_
    rotate_left
    focus (intro w hSw; (try dsimp only at hSw); go_simp; (try with_reducible rfl))
    simp only [Act.put, List.setIfInBounds_toArray, List.set_cons_zero, List.set_cons_succ]
    refine take_to 13 (some 67) (v := undef) rfl rfl (by kernel_rfl) (by kernel_rfl) (by kernel_rfl) (fun _ _ _ h => h) (Or.inr ⟨by rfl, rfl⟩) (by first | trivial | assumption) ?_
    simp only [Act.put, List.setIfInBounds_toArray, List.set_cons_zero, List.set_cons_succ]
    refine take_to 14 (some 68) (v := undef) rfl rfl (by kernel_rfl) (by kernel_rfl) (by kernel_rfl) (fun _ _ _ h => h) (Or.inr ⟨by rfl, rfl⟩) (by first | trivial | assumption) ?_
    simp only [Act.put, List.setIfInBounds_toArray, List.set_cons_zero, List.set_cons_succ]
    refine take_to 15 (some 69) (v := undef) rfl rfl (by kernel_rfl) (by kernel_rfl) (by kernel_rfl) (fun _ _ _ h => h) (Or.inr ⟨by rfl, rfl⟩) (by first | trivial | assumption) ?_
    simp only [Act.put, List.setIfInBounds_toArray, List.set_cons_zero, List.set_cons_succ]
    refine take_to 16 (some 70) (v := ?_) rfl rfl (by kernel_rfl) (by kernel_rfl) (by kernel_rfl) (fun _ _ _ h => h) (Or.inl ⟨by rfl, ?_⟩) (by first | trivial | assumption) ?_
    rotate_left
    focus (intro w hSw; (try dsimp only at hSw); go_simp; (try with_reducible rfl))
    simp only [Act.put, List.setIfInBounds_toArray, List.set_cons_zero, List.set_cons_succ]
    refine take_to 17 (some 4) (v := ?_) rfl rfl (by kernel_rfl) (by kernel_rfl) (by kernel_rfl) (fun _ _ _ h => h) (Or.inl ⟨by rfl, ?_⟩) (by first | trivial | assumption) ?_
    rotate_left
    focus (intro w hSw; (try dsimp only at hSw); go_simp; (try with_reducible rfl))
    simp only [Act.put, List.setIfInBounds_toArray, List.set_cons_zero, List.set_cons_succ]
    refine wpAnyH_done (by kernel_rfl) ?_ _
    go_wp2_with fail
    go_ret
    exact ⟨rfl, H2.out, hmm⟩
end
end Go.Proofs.YthffhhgaeolpgaaGreat.Cl

