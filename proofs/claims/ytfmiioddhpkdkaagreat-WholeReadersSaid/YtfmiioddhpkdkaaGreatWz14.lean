/- Merged texts: Cl2, Cl3, Cl4. -/
import Derived.Test.YtfmiioddhpkdkaaGreatWz13
import Derived.Deep.RegionHeld3
import Derived.Laws.EntriesVeiled
set_option linter.unusedVariables false
set_option maxRecDepth 100000
set_option maxHeartbeats 8000000
/- Package clh: Step, from one step tO the next. -/
namespace Go.Proofs.YtfmiioddhpkdkaaGreat.Cl
open Go.RowKit Ara Lok

def Num (P : Par) (σ : Ar) (sp : List Sp) : Prop := (1 ≤ P.tail ∧ P.tail ≤ 4096) ∧ (∀ k (h : k < sp.length), (0 ≤ sp[k].a ∧ sp[k].a ≤ 4096) ∧ 0 ≤ sp[k].b ∧ sp[k].b ≤ 4096) ∧ σ.ops ≤ 1000000 ∧ 1 ≤ σ.t
theorem lth {W : World} {g h : Nat} {σ : Ar} (k : ArAt W g h σ) (ht : 1 ≤ σ.t) : h < W.heap.size := by
  obtain ⟨h1, _, A, c, _, h4⟩ := k
  rcases h4 with h4 | ⟨_, _, h6⟩
  · rw [h4] at h1; simp at h1; omega
  · exact lt_of_blk h6
theorem LkAt.ltl {W : World} {gl ga ha hs : Nat} {P : Par} {σ : Ar} {sp : List Sp} (k : LkAt W gl ga ha hs P σ sp) : gl < W.heap.size := by
  obtain ⟨_, _, _, ⟨c, k4⟩, _⟩ := k
  exact lt_of_blk k4
theorem turn_setA (sp : List Sp) (k : Nat) (hk : k < sp.length) (fr tO x : Int) (hp : sp[k].pc = fr) : turnS (sp.set k { sp[k] with a := x }) (k : Int) fr tO = sp.set k { sp[k] with pc := tO, a := x } := by
  have hk2 : k < (sp.set k { sp[k] with a := x }).length := by rw [List.length_set]; exact hk
  have e : (sp.set k { sp[k] with a := x })[k] = { sp[k] with a := x } := List.getElem_set_self hk2
  rw [turnS_in hk2, e, if_pos hp, List.set_set]
theorem set_bp (sp : List Sp) (k : Nat) (hk : k < sp.length) (x p : Int) (hk2 : k < (sp.set k { sp[k] with b := x }).length) : (sp.set k { sp[k] with b := x }).set k { (sp.set k { sp[k] with b := x })[k] with pc := p } = sp.set k { sp[k] with pc := p, b := x } := by
  have e : (sp.set k { sp[k] with b := x })[k] = { sp[k] with b := x } := List.getElem_set_self hk2
  rw [e, List.set_set]
theorem box_lk (P : Par) (gl bx : Nat) (n : Int) (w : World) (hc : w.cell? ⟨bx, 0, none⟩ = some (.pointer (some ⟨gl, 0, none⟩))) (hq : w.cell? ⟨gl, 1, none⟩ = some (.int .i64 P.tail)) (h1 : 1 ≤ P.tail ∧ P.tail ≤ 4096) (h2 : 0 ≤ n ∧ n ≤ 4096) :
    Calls Tryz.prog 387 #[.int .i64 n, .pointer (some ⟨bx, 0, none⟩)] w fun e w' => e = .returned (.int .i64 (box P n)) ∧ w' = w := by
  unfold box
  have e1 : IntKind.i64.wrap (P.tail + n) = P.tail + n := IntWalk.i64_in _ (by omega)
  go_enter Tryz.func387, Tryz.ntmps387
  go_wp2_with fail
  go_ret
  exact ⟨rfl, rfl⟩
section
variable (gl ga ha hs : Nat) (P : Par) (σ : Ar) (sp : List Sp) (w : World) (H : LkAt w gl ga ha hs P σ sp) (hN : Num P σ sp)
include H hN
theorem step_one (k : Nat) (hk : k < sp.length) (hp : sp[k].pc = 1) : Calls Tryz.prog 384 #[.pointer (some ⟨gl, 0, none⟩), .int .i64 (k : Int)] w fun e w' =>
    e = .returned (.bool false) ∧ LkAt w' gl ga ha hs P (σ.op 2 (box P sp[k].a) true 1) (sp.set k { sp[k] with pc := 2 }) ∧ Mod [ga, ha, hs] w w' := by
  have HSt := Lib.hid (fun W (K : LkAt W gl ga ha hs P σ sp) => store_any ga ha σ W K.1 hN.2.2.1 (box P sp[k].a) 1)
  have HS := Lib.hid (fun W K => spot_in_lk gl ga ha hs P σ sp W K k hk)
  have hmf : ∀ (fn : Fn) (first cap : Array Value) (w : World), (Instr.makeFunc fn first cap).run Tryz.prog w = .ok (.func fn first cap) w := fun _ _ _ _ => rfl
  obtain ⟨hP, hS, ho, ht⟩ := hN
  have hth := lth H.1 ht
  have htg := H.1.lt
  have hts := H.2.1.lt
  have htl := H.ltl
  obtain ⟨d1, d2, d3, d4, d5⟩ := H.2.2.2.2
  obtain ⟨na, nb⟩ := hS k hk
  have hbn := below_new w (.cells #[.pointer (some ⟨gl, 0, none⟩)] 235)
  have c0 := blk_cell (blk_new w (.cells #[.pointer (some ⟨gl, 0, none⟩)] 235)) 0 (by simp)
  simp only [List.getElem_toArray, List.getElem_cons_zero] at c0
  have hm0 : Mod [ga, ha, hs] w (w.alloc (.cells #[.pointer (some ⟨gl, 0, none⟩)] 235)) := Mod.of_below hbn
  have H1 := Lib.hid (H.same hbn)
  obtain ⟨⟨cc, q0, q1, q2⟩, _⟩ := H1.out.heads
  obtain ⟨s0, s1, s2, s3, sf⟩ := H1.out.2.1.cells k hk
  rw [hp] at s0
  have HP := Lib.hid hp
  have HK := Lib.hid hk
  have e3 : (k : Int) < (sp.length : Int) := by omega
  have e4 : (0 : Int) ≤ (k : Int) := by omega
  have e5 : (k : Int).toNat = k := by omega
  clear hbn H hp s3 sf ht hS
  have HBx := Lib.hid (fun W c q => box_lk P gl w.heap.size sp[k].a W c q hP na)
  have HFin := Lib.hid (fun W σ2 (K : LkAt W gl ga ha hs P σ2 sp) => And.intro (K.2.1.cells k hk).1 (And.intro ((K.2.1.cells k hk).2.2.2.2 (k * 4)) (K.spots (K.2.1.setPc k hk 2) ((Mod.refl [hs] W).setCell (by simp) _) (by rw [List.length_set]))))
  generalize sp.set k { sp[k] with pc := 2 } = sp2 at *
  generalize sp[k].a = xa at *
  generalize sp[k].b = xb at *
  generalize sp[k].pc = xp at *
  generalize σ.op 2 (box P xa) true 1 = σ2 at *
  generalize box P xa = p at *
  go_enter Tryz.func384, Tryz.ntmps384
  go_wp2_with fail
  generalize w.alloc (.cells #[.pointer (some ⟨gl, 0, none⟩)] 235) = W1 at *
  generalize w.heap.size = bx at *
  refine (HS.out _ H1.out).mono ?_
  rintro e wx ⟨rfl, hwx⟩
  obtain rfl := hwx.symm
  go_wp2_with fail
  go_region_held3 (fun V => V.cell? ⟨bx, 0, none⟩ = some (.pointer (some ⟨gl, 0, none⟩)) ∧ V.cell? ⟨gl, 0, none⟩ = some (.pointer (some ⟨ga, 0, none⟩)) ∧ V.cell? ⟨hs, k * 4 + 1, none⟩ = some (.int .i64 xa))
    (first | exact ⟨c0, q0, s1⟩ | exact k2)
    (first
      | (go_at_call 387; refine (HBx.out (W1.drewN 1) c0 q1).mono ?_; rintro e wx ⟨rfl, hwx⟩; obtain rfl := hwx.symm)
      | (go_at_call 109; refine (HSt.out _ (H1.out.drewN 1)).mono ?_; rintro e w2 ⟨rfl, ha2, hm2⟩; have k2 := And.intro (keepM hm2 (show (W1.drewN 1).cell? _ = _ from c0) (by simp; omega)) (And.intro (keepM hm2 (show (W1.drewN 1).cell? _ = _ from q0) (by simp; omega)) (keepM hm2 (show (W1.drewN 1).cell? _ = _ from s1) (by simp; omega))); have H2 := Lib.hid ((H1.out.drewN 1).arena ha2 hm2)))
  obtain ⟨t0, f0, h3⟩ := HFin.out _ _ H2.out
  have H3 := Lib.hid h3
  have hmm : Mod [ga, ha, hs] w (w2.setCell ⟨hs, k * 4, none⟩ (.int .i64 2)) := (((hm0.drewN 1).trans (hm2.sub (by simp)))).setCell (by simp) _
  clear k2 ha2 hm2 h3 HFin
  go_wp2_with fail
  go_ret
  exact ⟨rfl, H3.out, hmm⟩
theorem step_two (k : Nat) (hk : k < sp.length) (hp : sp[k].pc = 2) : Calls Tryz.prog 384 #[.pointer (some ⟨gl, 0, none⟩), .int .i64 (k : Int)] w fun e w' =>
    e = .returned (.bool false) ∧ LkAt w' gl ga ha hs P (σ.op 3 (box P 0) true sp[k].a) (sp.set k { sp[k] with pc := 3, b := σ.get (box P 0) }) ∧ Mod [ga, ha, hs] w w' := by
  have HSt := Lib.hid (fun W (K : LkAt W gl ga ha hs P σ sp) => swap_any ga ha σ W K.1 hN.2.2.1 (box P 0) sp[k].a)
  have HS := Lib.hid (fun W K => spot_in_lk gl ga ha hs P σ sp W K k hk)
  have hmf : ∀ (fn : Fn) (first cap : Array Value) (w : World), (Instr.makeFunc fn first cap).run Tryz.prog w = .ok (.func fn first cap) w := fun _ _ _ _ => rfl
  obtain ⟨hP, hS, ho, ht⟩ := hN
  have hth := lth H.1 ht
  have htg := H.1.lt
  have hts := H.2.1.lt
  have htl := H.ltl
  obtain ⟨d1, d2, d3, d4, d5⟩ := H.2.2.2.2
  obtain ⟨na, nb⟩ := hS k hk
  have hbn := below_new w (.cells #[.pointer (some ⟨gl, 0, none⟩)] 235)
  have c0 := blk_cell (blk_new w (.cells #[.pointer (some ⟨gl, 0, none⟩)] 235)) 0 (by simp)
  simp only [List.getElem_toArray, List.getElem_cons_zero] at c0
  have hm0 : Mod [ga, ha, hs] w (w.alloc (.cells #[.pointer (some ⟨gl, 0, none⟩)] 235)) := Mod.of_below hbn
  have H1 := Lib.hid (H.same hbn)
  obtain ⟨⟨cc, q0, q1, q2⟩, _⟩ := H1.out.heads
  obtain ⟨s0, s1, s2, s3, sf⟩ := H1.out.2.1.cells k hk
  rw [hp] at s0
  have HP := Lib.hid hp
  have HK := Lib.hid hk
  have e3 : (k : Int) < (sp.length : Int) := by omega
  have e4 : (0 : Int) ≤ (k : Int) := by omega
  have e5 : (k : Int).toNat = k := by omega
  clear hbn H hp s3 sf ht hS
  have HBx := Lib.hid (fun W c q => box_lk P gl w.heap.size 0 W c q hP (by omega))
  have HC := Lib.hid (fun W σ2 (K : LkAt W gl ga ha hs P σ2 sp) x => And.intro (K.2.1.cells k hk).2.2.1 (And.intro ((K.2.1.cells k hk).2.2.2.2 (k * 4 + 2)) (K.spots (K.2.1.setB k hk x) ((Mod.refl [hs] W).setCell (by simp) _) (by rw [List.length_set]))))
  have HFin := Lib.hid (fun W σ2 x (K : LkAt W gl ga ha hs P σ2 (sp.set k { sp[k] with b := x })) => And.intro (K.2.1.cells k (by rw [List.length_set]; exact hk)).1 (And.intro ((K.2.1.cells k (by rw [List.length_set]; exact hk)).2.2.2.2 (k * 4)) (set_bp sp k hk x 3 (by rw [List.length_set]; exact hk) ▸ K.spots (K.2.1.setPc k (by rw [List.length_set]; exact hk) 3) ((Mod.refl [hs] W).setCell (by simp) _) (by rw [List.length_set]))))
  generalize sp[k].a = xa at *
  generalize sp[k].pc = xp at *
  generalize σ.op 3 (box P 0) true xa = σ2 at *
  generalize box P 0 = p at *
  generalize σ.get p = x at *
  go_enter Tryz.func384, Tryz.ntmps384
  go_wp2_with fail
  generalize w.alloc (.cells #[.pointer (some ⟨gl, 0, none⟩)] 235) = W1 at *
  generalize w.heap.size = bx at *
  refine (HS.out _ H1.out).mono ?_
  rintro e wx ⟨rfl, hwx⟩
  obtain rfl := hwx.symm
  go_wp2_with fail
  go_region_held3 (fun V => V.cell? ⟨bx, 0, none⟩ = some (.pointer (some ⟨gl, 0, none⟩)) ∧ V.cell? ⟨gl, 0, none⟩ = some (.pointer (some ⟨ga, 0, none⟩)) ∧ V.cell? ⟨hs, k * 4 + 1, none⟩ = some (.int .i64 xa))
    (first | exact ⟨c0, q0, s1⟩ | exact k2 | exact k3)
    (first
      | (go_at_call 387; refine (HBx.out (W1.drewN 1) c0 q1).mono ?_; rintro e wx ⟨rfl, hwx⟩; obtain rfl := hwx.symm)
      | (go_at_call 201; refine (HSt.out _ (H1.out.drewN 1)).mono ?_; rintro e w2 ⟨rfl, ha2, hm2⟩; have k2 := And.intro (keepM hm2 (show (W1.drewN 1).cell? _ = _ from c0) (by simp; omega)) (And.intro (keepM hm2 (show (W1.drewN 1).cell? _ = _ from q0) (by simp; omega)) (keepM hm2 (show (W1.drewN 1).cell? _ = _ from s1) (by simp; omega))); have H2 := Lib.hid ((H1.out.drewN 1).arena ha2 hm2); have c2 := (HC.out _ _ H2.out x).1; have f2 := (HC.out _ _ H2.out x).2.1; have k3 := And.intro (((World.cell?_setCell_far w2 ⟨hs, k * 4 + 2, none⟩ ⟨bx, 0, none⟩ (.int .i64 x) (by simp; omega))).trans k2.1) (And.intro (((World.cell?_setCell_far w2 ⟨hs, k * 4 + 2, none⟩ ⟨gl, 0, none⟩ (.int .i64 x) (by simp; omega))).trans k2.2.1) (((World.cell?_setCell_other w2 ⟨hs, k * 4 + 2, none⟩ ⟨hs, k * 4 + 1, none⟩ (.int .i64 x) (by simp))).trans k2.2.2))))
  have hm3 : Mod [ga, ha, hs] w (w2.setCell ⟨hs, k * 4 + 2, none⟩ (.int .i64 x)) := (((hm0.drewN 1).trans (hm2.sub (by simp)))).setCell (by simp) _
  have H3 := (HC.out _ _ H2.out x).2.2
  obtain ⟨t0, f0, h4⟩ := HFin.out _ _ x H3
  have H4 := Lib.hid h4
  replace H3 := Lib.hid H3
  have hmm : Mod [ga, ha, hs] w ((w2.setCell ⟨hs, k * 4 + 2, none⟩ (.int .i64 x)).setCell ⟨hs, k * 4, none⟩ (.int .i64 3)) := hm3.setCell (by simp) _
  clear k2 k3 ha2 hm2 h4 HFin HC c2 f2 hm3
  generalize w2.setCell ⟨hs, k * 4 + 2, none⟩ (.int .i64 x) = w3 at *
  go_wp2_with fail
  go_ret
  exact ⟨rfl, H4.out, hmm⟩
theorem step_out (k : Nat) (hk : k < sp.length) (hp : sp[k].pc = 11) : Calls Tryz.prog 384 #[.pointer (some ⟨gl, 0, none⟩), .int .i64 (k : Int)] w fun e w' =>
    e = .returned (.bool true) ∧ LkAt w' gl ga ha hs P (σ.op 2 (box P sp[k].a) true 0) (sp.set k { sp[k] with pc := 0, a := sp[k].b }) ∧ Mod [ga, ha, hs] w w' := by
  have HSt := Lib.hid (fun W (K : LkAt W gl ga ha hs P σ sp) => store_any ga ha σ W K.1 hN.2.2.1 (box P sp[k].a) 0)
  have HTr := Lib.hid (turn_setA sp k hk 11 0 sp[k].b hp)
  have HTb := Lib.hid (show turnB (sp.set k { sp[k] with a := sp[k].b }) (k : Int) 11 = true by rw [turn_in (by rw [List.length_set]; exact hk), List.getElem_set_self]; simpa using hp)
  have HS := Lib.hid (fun W K => spot_in_lk gl ga ha hs P σ sp W K k hk)
  have hmf : ∀ (fn : Fn) (first cap : Array Value) (w : World), (Instr.makeFunc fn first cap).run Tryz.prog w = .ok (.func fn first cap) w := fun _ _ _ _ => rfl
  obtain ⟨hP, hS, ho, ht⟩ := hN
  have hth := lth H.1 ht
  have htg := H.1.lt
  have hts := H.2.1.lt
  have htl := H.ltl
  obtain ⟨d1, d2, d3, d4, d5⟩ := H.2.2.2.2
  obtain ⟨na, nb⟩ := hS k hk
  have hbn := below_new w (.cells #[.pointer (some ⟨gl, 0, none⟩)] 235)
  have c0 := blk_cell (blk_new w (.cells #[.pointer (some ⟨gl, 0, none⟩)] 235)) 0 (by simp)
  simp only [List.getElem_toArray, List.getElem_cons_zero] at c0
  have hm0 : Mod [ga, ha, hs] w (w.alloc (.cells #[.pointer (some ⟨gl, 0, none⟩)] 235)) := Mod.of_below hbn
  have H1 := Lib.hid (H.same hbn)
  obtain ⟨⟨cc, q0, q1, q2⟩, _⟩ := H1.out.heads
  obtain ⟨s0, s1, s2, s3, sf⟩ := H1.out.2.1.cells k hk
  rw [hp] at s0
  have HP := Lib.hid hp
  have HK := Lib.hid hk
  have e3 : (k : Int) < (sp.length : Int) := by omega
  have e4 : (0 : Int) ≤ (k : Int) := by omega
  have e5 : (k : Int).toNat = k := by omega
  clear hbn H hp s3 sf ht hS
  have HBx := Lib.hid (fun W c q => box_lk P gl w.heap.size sp[k].a W c q hP na)
  have HC := Lib.hid (fun W σ2 (K : LkAt W gl ga ha hs P σ2 sp) => And.intro (K.2.1.cells k hk).2.1 (And.intro ((K.2.1.cells k hk).2.2.2.2 (k * 4 + 1)) (And.intro (K.2.1.cells k hk).2.2.1 (K.spots (K.2.1.setA k hk sp[k].b) ((Mod.refl [hs] W).setCell (by simp) _) (by rw [List.length_set])))))
  have HT : ∀ W σ2, LkAt W gl ga ha hs P σ2 (sp.set k { sp[k] with a := sp[k].b }) → Calls Tryz.prog 385 #[.pointer (some ⟨gl, 0, none⟩), .int .i64 (k : Int), .int .i64 11, .int .i64 0] W fun e w' => e = .returned (.bool true) ∧ LkAt w' gl ga ha hs P σ2 (sp.set k { sp[k] with pc := 0, a := sp[k].b }) ∧ Mod [hs] W w' :=
    fun W σ2 K => (turn_lk gl ga ha hs P σ2 _ W K (k : Int) 11 0).mono (fun e w' h => And.intro (h.1.trans (congrArg (fun b => Ending.returned (Value.bool b)) HTb.out)) (And.intro (Eq.mp (congrArg (fun s => LkAt w' gl ga ha hs P σ2 s) HTr.out) h.2.1) h.2.2))
  replace HT := Lib.hid HT
  generalize sp.set k { sp[k] with pc := 0, a := sp[k].b } = sp3 at *
  generalize sp.set k { sp[k] with a := sp[k].b } = sp2 at *
  generalize sp[k].a = xa at *
  generalize sp[k].b = xb at *
  generalize sp[k].pc = xp at *
  generalize σ.op 2 (box P xa) true 0 = σ2 at *
  generalize box P xa = p at *
  clear HTr HTb
  go_enter Tryz.func384, Tryz.ntmps384
  go_wp2_with fail
  generalize w.alloc (.cells #[.pointer (some ⟨gl, 0, none⟩)] 235) = W1 at *
  generalize w.heap.size = bx at *
  refine (HS.out _ H1.out).mono ?_
  rintro e wx ⟨rfl, hwx⟩
  obtain rfl := hwx.symm
  go_wp2_with fail
  go_region_held3 (fun V => V.cell? ⟨bx, 0, none⟩ = some (.pointer (some ⟨gl, 0, none⟩)) ∧ V.cell? ⟨gl, 0, none⟩ = some (.pointer (some ⟨ga, 0, none⟩)) ∧ V.cell? ⟨hs, k * 4 + 1, none⟩ = some (.int .i64 xa))
    (first | exact ⟨c0, q0, s1⟩ | exact k2)
    (first
      | (go_at_call 387; refine (HBx.out (W1.drewN 1) c0 q1).mono ?_; rintro e wx ⟨rfl, hwx⟩; obtain rfl := hwx.symm)
      | (go_at_call 109; refine (HSt.out _ (H1.out.drewN 1)).mono ?_; rintro e w2 ⟨rfl, ha2, hm2⟩; have k2 := And.intro (keepM hm2 (show (W1.drewN 1).cell? _ = _ from c0) (by simp; omega)) (And.intro (keepM hm2 (show (W1.drewN 1).cell? _ = _ from q0) (by simp; omega)) (keepM hm2 (show (W1.drewN 1).cell? _ = _ from s1) (by simp; omega))); have H2 := Lib.hid ((H1.out.drewN 1).arena ha2 hm2)))
  have hmm : Mod [ga, ha, hs] w (w2.setCell ⟨hs, k * 4 + 1, none⟩ (.int .i64 xb)) := (((hm0.drewN 1).trans (hm2.sub (by simp)))).setCell (by simp) _
  obtain ⟨u1, f1, u2, h3⟩ := HC.out _ _ H2.out
  have H3 := Lib.hid h3
  have v0 := ((World.cell?_setCell_far w2 ⟨hs, k * 4 + 1, none⟩ ⟨bx, 0, none⟩ (.int .i64 xb) (by simp; omega))).trans k2.1
  clear ha2 hm2 h3 HC
  obtain ⟨k21, k22, k23⟩ := k2
  go_wp2_with fail
  generalize w2.setCell ⟨hs, k * 4 + 1, none⟩ (.int .i64 xb) = w3 at *
  refine (HT.out _ _ H3.out).mono ?_
  rintro e w4 ⟨rfl, h4, hm4⟩
  have H4 := Lib.hid h4
  clear h4
  go_wp2_with fail
  go_ret
  exact ⟨rfl, H4.out, hmm.trans (hm4.sub (by simp))⟩
theorem step_three (k : Nat) (hk : k < sp.length) (hp : sp[k].pc = 3) : Calls Tryz.prog 384 #[.pointer (some ⟨gl, 0, none⟩), .int .i64 (k : Int)] w fun e w' =>
    e = .returned (.bool (σ.get (box P sp[k].b) == 0)) ∧ LkAt w' gl ga ha hs P (σ.op 1 (box P sp[k].b) false 0) (if σ.get (box P sp[k].b) = 0 then sp.set k { sp[k] with pc := 10 } else sp) ∧ Mod [ga, ha, hs] w w' := by
  have HSt := Lib.hid (fun W (K : LkAt W gl ga ha hs P σ sp) => load_any ga ha σ W K.1 hN.2.2.1 (box P sp[k].b))
  by_cases hx : σ.get (box P sp[k].b) = 0
  · rw [if_pos hx, beq_iff_eq.2 hx]
    rw [hx] at HSt
    clear hx
    have HS := Lib.hid (fun W K => spot_in_lk gl ga ha hs P σ sp W K k hk)
    have hmf : ∀ (fn : Fn) (first cap : Array Value) (w : World), (Instr.makeFunc fn first cap).run Tryz.prog w = .ok (.func fn first cap) w := fun _ _ _ _ => rfl
    obtain ⟨hP, hS, ho, ht⟩ := hN
    have hth := lth H.1 ht
    have htg := H.1.lt
    have hts := H.2.1.lt
    have htl := H.ltl
    obtain ⟨d1, d2, d3, d4, d5⟩ := H.2.2.2.2
    obtain ⟨na, nb⟩ := hS k hk
    have hbn := below_new w (.cells #[.pointer (some ⟨gl, 0, none⟩)] 235)
    have c0 := blk_cell (blk_new w (.cells #[.pointer (some ⟨gl, 0, none⟩)] 235)) 0 (by simp)
    simp only [List.getElem_toArray, List.getElem_cons_zero] at c0
    have hm0 : Mod [ga, ha, hs] w (w.alloc (.cells #[.pointer (some ⟨gl, 0, none⟩)] 235)) := Mod.of_below hbn
    have H1 := Lib.hid (H.same hbn)
    obtain ⟨⟨cc, q0, q1, q2⟩, _⟩ := H1.out.heads
    obtain ⟨s0, s1, s2, s3, sf⟩ := H1.out.2.1.cells k hk
    rw [hp] at s0
    have HP := Lib.hid hp
    have HK := Lib.hid hk
    have e3 : (k : Int) < (sp.length : Int) := by omega
    have e4 : (0 : Int) ≤ (k : Int) := by omega
    have e5 : (k : Int).toNat = k := by omega
    clear hbn H hp s3 sf ht hS
    have HBx := Lib.hid (fun W c q => box_lk P gl w.heap.size sp[k].b W c q hP nb)
    have HT := Lib.hid (fun W σ2 (K : LkAt W gl ga ha hs P σ2 sp) => turn_lk gl ga ha hs P σ2 sp W K (k : Int) 3 10)
    rw [turn_in hk, turnS_in hk, HP.out, if_pos rfl, beq_self_eq_true] at HT
    have HC := Lib.hid (fun W σ2 (K : LkAt W gl ga ha hs P σ2 (sp.set k { sp[k] with pc := 10 })) => (K.2.1.cells k (by rw [List.length_set]; exact hk)).2.2.1)
    simp only [List.getElem_set_self] at HC
    generalize sp.set k { sp[k] with pc := 10 } = sp2 at *
    generalize sp[k].a = xa at *
    generalize sp[k].b = xb at *
    generalize sp[k].pc = xp at *
    generalize σ.op 1 (box P xb) false 0 = σ2 at *
    generalize box P xb = p at *
    generalize σ.get p = x at *
    go_enter Tryz.func384, Tryz.ntmps384
    go_wp2_with fail
    generalize w.alloc (.cells #[.pointer (some ⟨gl, 0, none⟩)] 235) = W1 at *
    generalize w.heap.size = bx at *
    refine (HS.out _ H1.out).mono ?_
    rintro e wx ⟨rfl, hwx⟩
    obtain rfl := hwx.symm
    go_wp2_with fail
    have HK7 := Lib.hid (H1.out.drewN 1)
    refine wp_region_held_drew (S := fun V => V.cell? ⟨bx, 0, none⟩ = some (.pointer (some ⟨gl, 0, none⟩)) ∧ V.cell? ⟨gl, 0, none⟩ = some (.pointer (some ⟨ga, 0, none⟩)) ∧ V.cell? ⟨hs, k * 4 + 2, none⟩ = some (.int .i64 xb)) (by kernel_rfl) ⟨c0, q0, s2⟩ (fun hHeld => ?_)
    refine tkC 0 54 ?_
    refine tkC 1 55 ?_
    refine tkC 2 56 ?_
    refine tkC 3 57 ?_
    refine tkC 4 58 ?_
    refine tkC 5 59 ?_
    refine tkC 6 60 ?_
    refine tkC 7 61 ?_
    refine tkC 8 62 ?_
    refine wpAnyH_ready (rs := [9]) (by kernel_rfl) (by simp) ?_
    refine AllReadyH.cons rfl (fun K hK => ?_) AllReadyH.nil
    go_simp
    refine (HBx.out (W1.drewN 1) c0 q1).mono ?_
    rintro e wx ⟨rfl, hwx⟩
    obtain rfl := hwx.symm
    go_simp
    refine hK.out _ _ hHeld (fun hHeld => ?_)
    refine wpAnyH_ready (rs := [10]) (by kernel_rfl) (by simp) ?_
    refine AllReadyH.cons rfl (fun K hK => ?_) AllReadyH.nil
    go_simp
    refine (HSt.out _ (H1.out.drewN 1)).mono ?_
    rintro e w2 ⟨rfl, ha2, hm2⟩
    have k2 := And.intro (keepM hm2 (show (W1.drewN 1).cell? _ = _ from c0) (by simp; omega)) (And.intro (keepM hm2 (show (W1.drewN 1).cell? _ = _ from q0) (by simp; omega)) (keepM hm2 (show (W1.drewN 1).cell? _ = _ from s2) (by simp; omega)))
    have H2 := Lib.hid ((H1.out.drewN 1).arena ha2 hm2)
    have hmm : Mod [ga, ha, hs] w w2 := (hm0.drewN 1).trans (hm2.sub (by simp))
    go_simp
    refine hK.out _ _ k2 (fun hHeld => ?_)
    refine tkC 11 65 ?_
    refine tkC 12 66 ?_
    refine tkC 13 67 ?_
    refine tkC 14 68 ?_
    refine wpAnyH_ready (rs := [15]) (by kernel_rfl) (by simp) ?_
    refine AllReadyH.cons rfl (fun K hK => ?_) AllReadyH.nil
    go_simp
    refine (HT.out _ _ H2.out).mono ?_
    rintro e w3 ⟨rfl, h3, hm3⟩
    have H3 := Lib.hid h3
    have k3 := And.intro (keepM hm3 k2.1 (by simp; omega)) (And.intro (keepM hm3 k2.2.1 (by simp; omega)) (HC.out _ _ h3))
    go_simp
    refine hK.out _ _ k3 (fun hHeld => ?_)
    refine tkC 16 70 ?_
    refine tkC 17 4 ?_
    refine wpAnyH_done (by kernel_rfl) ?_ _
    go_wp2_with fail
    go_ret
    exact ⟨rfl, H3.out, hmm.trans (hm3.sub (by simp))⟩
  · rw [if_neg hx, beq_eq_false_iff_ne.2 hx]
    have e9 := ibeq_no hx
    clear hx
    have HS := Lib.hid (fun W K => spot_in_lk gl ga ha hs P σ sp W K k hk)
    have hmf : ∀ (fn : Fn) (first cap : Array Value) (w : World), (Instr.makeFunc fn first cap).run Tryz.prog w = .ok (.func fn first cap) w := fun _ _ _ _ => rfl
    obtain ⟨hP, hS, ho, ht⟩ := hN
    have hth := lth H.1 ht
    have htg := H.1.lt
    have hts := H.2.1.lt
    have htl := H.ltl
    obtain ⟨d1, d2, d3, d4, d5⟩ := H.2.2.2.2
    obtain ⟨na, nb⟩ := hS k hk
    have hbn := below_new w (.cells #[.pointer (some ⟨gl, 0, none⟩)] 235)
    have c0 := blk_cell (blk_new w (.cells #[.pointer (some ⟨gl, 0, none⟩)] 235)) 0 (by simp)
    simp only [List.getElem_toArray, List.getElem_cons_zero] at c0
    have hm0 : Mod [ga, ha, hs] w (w.alloc (.cells #[.pointer (some ⟨gl, 0, none⟩)] 235)) := Mod.of_below hbn
    have H1 := Lib.hid (H.same hbn)
    obtain ⟨⟨cc, q0, q1, q2⟩, _⟩ := H1.out.heads
    obtain ⟨s0, s1, s2, s3, sf⟩ := H1.out.2.1.cells k hk
    rw [hp] at s0
    have HP := Lib.hid hp
    have HK := Lib.hid hk
    have e3 : (k : Int) < (sp.length : Int) := by omega
    have e4 : (0 : Int) ≤ (k : Int) := by omega
    have e5 : (k : Int).toNat = k := by omega
    clear hbn H hp s3 sf ht hS
    have HBx := Lib.hid (fun W c q => box_lk P gl w.heap.size sp[k].b W c q hP nb)
    have HT := Lib.hid (fun W σ2 (K : LkAt W gl ga ha hs P σ2 sp) => turn_lk gl ga ha hs P σ2 sp W K (k : Int) 3 10)
    rw [turn_in hk, turnS_in hk, HP.out, if_pos rfl, beq_self_eq_true] at HT
    have HC := Lib.hid (fun W σ2 (K : LkAt W gl ga ha hs P σ2 (sp.set k { sp[k] with pc := 10 })) => (K.2.1.cells k (by rw [List.length_set]; exact hk)).2.2.1)
    simp only [List.getElem_set_self] at HC
    generalize sp.set k { sp[k] with pc := 10 } = sp2 at *
    generalize sp[k].a = xa at *
    generalize sp[k].b = xb at *
    generalize sp[k].pc = xp at *
    generalize σ.op 1 (box P xb) false 0 = σ2 at *
    generalize box P xb = p at *
    generalize σ.get p = x at *
    go_enter Tryz.func384, Tryz.ntmps384
    go_wp2_with fail
    generalize w.alloc (.cells #[.pointer (some ⟨gl, 0, none⟩)] 235) = W1 at *
    generalize w.heap.size = bx at *
    refine (HS.out _ H1.out).mono ?_
    rintro e wx ⟨rfl, hwx⟩
    obtain rfl := hwx.symm
    go_wp2_with fail
    have HK7 := Lib.hid (H1.out.drewN 1)
    refine wp_region_held_drew (S := fun V => V.cell? ⟨bx, 0, none⟩ = some (.pointer (some ⟨gl, 0, none⟩)) ∧ V.cell? ⟨gl, 0, none⟩ = some (.pointer (some ⟨ga, 0, none⟩)) ∧ V.cell? ⟨hs, k * 4 + 2, none⟩ = some (.int .i64 xb)) (by kernel_rfl) ⟨c0, q0, s2⟩ (fun hHeld => ?_)
    refine tkC 0 54 ?_
    refine tkC 1 55 ?_
    refine tkC 2 56 ?_
    refine tkC 3 57 ?_
    refine tkC 4 58 ?_
    refine tkC 5 59 ?_
    refine tkC 6 60 ?_
    refine tkC 7 61 ?_
    refine tkC 8 62 ?_
    refine wpAnyH_ready (rs := [9]) (by kernel_rfl) (by simp) ?_
    refine AllReadyH.cons rfl (fun K hK => ?_) AllReadyH.nil
    go_simp
    refine (HBx.out (W1.drewN 1) c0 q1).mono ?_
    rintro e wx ⟨rfl, hwx⟩
    obtain rfl := hwx.symm
    go_simp
    refine hK.out _ _ hHeld (fun hHeld => ?_)
    refine wpAnyH_ready (rs := [10]) (by kernel_rfl) (by simp) ?_
    refine AllReadyH.cons rfl (fun K hK => ?_) AllReadyH.nil
    go_simp
    refine (HSt.out _ (H1.out.drewN 1)).mono ?_
    rintro e w2 ⟨rfl, ha2, hm2⟩
    have k2 := And.intro (keepM hm2 (show (W1.drewN 1).cell? _ = _ from c0) (by simp; omega)) (And.intro (keepM hm2 (show (W1.drewN 1).cell? _ = _ from q0) (by simp; omega)) (keepM hm2 (show (W1.drewN 1).cell? _ = _ from s2) (by simp; omega)))
    have H2 := Lib.hid ((H1.out.drewN 1).arena ha2 hm2)
    have hmm : Mod [ga, ha, hs] w w2 := (hm0.drewN 1).trans (hm2.sub (by simp))
    go_simp
    refine hK.out _ _ k2 (fun hHeld => ?_)
    refine tkC 11 65 ?_
    refine tkC 12 66 ?_
    refine take_to 13 (some 67) (v := undef) rfl rfl (by kernel_rfl) (by kernel_rfl) (by kernel_rfl) (fun _ _ _ h => h) (Or.inr ⟨by rfl, rfl⟩) (by first | trivial | assumption) ?_
    simp only [Act.put, List.setIfInBounds_toArray, List.set_cons_zero, List.set_cons_succ]
    refine take_to 14 (some 68) (v := undef) rfl rfl (by kernel_rfl) (by kernel_rfl) (by kernel_rfl) (fun _ _ _ h => h) (Or.inr ⟨by rfl, rfl⟩) (by first | trivial | assumption) ?_
    simp only [Act.put, List.setIfInBounds_toArray, List.set_cons_zero, List.set_cons_succ]
    refine take_to 15 (some 69) (v := undef) rfl rfl (by kernel_rfl) (by kernel_rfl) (by kernel_rfl) (fun _ _ _ h => h) (Or.inr ⟨by rfl, rfl⟩) (by first | trivial | assumption) ?_
    simp only [Act.put, List.setIfInBounds_toArray, List.set_cons_zero, List.set_cons_succ]
    refine tkC 16 70 ?_
    refine tkC 17 4 ?_
    refine wpAnyH_done (by kernel_rfl) ?_ _
    go_wp2_with fail
    go_ret
    exact ⟨rfl, H2.out, hmm⟩
end
end Go.Proofs.YtfmiioddhpkdkaaGreat.Cl

/- Package clh: Step, Alone. -/
namespace Go.Proofs.YtfmiioddhpkdkaaGreat.Cl
open Go.RowKit Ara Lok

theorem sfld0 (a b c d : Int) (W : World) : (Instr.field 134 (.agg #[.int .i64 a, .int .i64 b, .int .i64 c, .int .i64 d]) 0).run Tryz.prog W = .ok (.int .i64 a) W := by
  simp [Instr.field, run_underlying Tryz.underlying134, asAgg, go_sem]
section
variable (gl ga ha hs : Nat) (P : Par) (σ : Ar) (sp : List Sp) (w : World) (H : LkAt w gl ga ha hs P σ sp)
include H
theorem step_none (i : Int) (h1 : (spOf sp i).pc ≠ 1) (h2 : (spOf sp i).pc ≠ 2) (h3 : (spOf sp i).pc ≠ 3) (h4 : (spOf sp i).pc ≠ 11) : Calls Tryz.prog 384 #[.pointer (some ⟨gl, 0, none⟩), .int .i64 i] w fun e w' => e = .returned (.bool false) ∧ LkAt w' gl ga ha hs P σ sp ∧ Mod [ga, ha, hs] w w' := by
  have hbn := below_new w (.cells #[.pointer (some ⟨gl, 0, none⟩)] 235)
  have H1 := Lib.hid (H.same hbn)
  have c0 := blk_cell (blk_new w (.cells #[.pointer (some ⟨gl, 0, none⟩)] 235)) 0 (by simp)
  simp only [List.getElem_toArray, List.getElem_cons_zero] at c0
  by_cases hi : i < 0 ∨ (sp.length : Int) ≤ i
  · have HS := Lib.hid (spot_out_lk gl ga ha hs P σ sp _ H1.out i hi)
    clear H hi h1 h2 h3 h4
    go_enter Tryz.func384, Tryz.ntmps384
    go_wp2_with fail
    refine (HS.out).mono ?_
    rintro e wx ⟨rfl, hwx⟩
    obtain rfl := hwx.symm
    go_wp2_with fail
    go_ret
    exact ⟨rfl, H1.out, Mod.of_below hbn⟩
  · obtain ⟨k, rfl⟩ := Int.eq_ofNat_of_zero_le (show 0 ≤ i by omega)
    have hk : k < sp.length := by omega
    have hmf : ∀ (fn : Fn) (first cap : Array Value) (w : World), (Instr.makeFunc fn first cap).run Tryz.prog w = .ok (.func fn first cap) w := fun _ _ _ _ => rfl
    have HS := Lib.hid (spot_in_lk gl ga ha hs P σ sp _ H1.out k hk)
    have s0 := (H1.out.2.1.cells k hk).1
    rw [spOf_in hk] at h1 h2 h3 h4
    generalize sp[k].pc = xp at *
    have e1 := ibeq_no h1
    have e2 := ibeq_no h2
    have e3 := ibeq_no h3
    have e4 := ibeq_no h4
    clear H hi h1 h2 h3 h4 hk
    go_enter Tryz.func384, Tryz.ntmps384
    go_wp2_with fail
    refine (HS.out).mono ?_
    rintro e wx ⟨rfl, hwx⟩
    obtain rfl := hwx.symm
    go_wp2_with fail
    go_ret
    exact ⟨rfl, H1.out, Mod.of_below hbn⟩
theorem step_lk (hN : Num P σ sp) (i : Int) : Calls Tryz.prog 384 #[.pointer (some ⟨gl, 0, none⟩), .int .i64 i] w fun e w' => e = .returned (.bool (stepP P σ sp i).1) ∧ LkAt w' gl ga ha hs P (stepP P σ sp i).2.1 (stepP P σ sp i).2.2 ∧ Mod [ga, ha, hs] w w' := by
  by_cases h : (spOf sp i).pc = 1 ∨ (spOf sp i).pc = 2 ∨ (spOf sp i).pc = 3 ∨ (spOf sp i).pc = 11
  · obtain ⟨i0, i1⟩ := spOf_range (sp := sp) (i := i) (by omega)
    obtain ⟨k, rfl⟩ := Int.eq_ofNat_of_zero_le i0
    have hk : k < sp.length := by omega
    unfold stepP
    rw [spOf_in hk] at h ⊢
    simp only [Int.toNat_natCast]
    rcases h with h | h | h | h
    · rw [if_pos h]
      exact step_one gl ga ha hs P σ sp w H hN k hk h
    · rw [if_neg (by omega), if_pos h]
      exact step_two gl ga ha hs P σ sp w H hN k hk h
    · rw [if_neg (by omega), if_neg (by omega), if_pos h]
      exact step_three gl ga ha hs P σ sp w H hN k hk h
    · rw [if_neg (by omega), if_neg (by omega), if_neg (by omega), if_pos h]
      exact step_out gl ga ha hs P σ sp w H hN k hk h
  · have e : stepP P σ sp i = (false, σ, sp) := by unfold stepP; rw [if_neg (by omega), if_neg (by omega), if_neg (by omega), if_neg (by omega)]
    rw [e]
    exact step_none gl ga ha hs P σ sp w H i (by omega) (by omega) (by omega) (by omega)
theorem alone_lk (hN : Num P σ sp) (i : Int) : Calls Tryz.prog 379 #[.pointer (some ⟨gl, 0, none⟩), .int .i64 i] w fun e w' => e = .returned (.bool (aloneP P σ sp i).1) ∧ LkAt w' gl ga ha hs P (aloneP P σ sp i).2 sp ∧ Mod [ga, ha] w w' := by
  have q1 := fun a b c d W => sfld0 a b c d W
  by_cases hp : (spOf sp i).pc = 10
  · have e : aloneP P σ sp i = (σ.get P.tail == (spOf sp i).a, σ.op 1 P.tail false 0) := by unfold aloneP; rw [if_pos hp]
    rw [e]
    clear e
    obtain ⟨i0, i1⟩ := spOf_range (sp := sp) (i := i) (by omega)
    obtain ⟨k, rfl⟩ := Int.eq_ofNat_of_zero_le i0
    have hk : k < sp.length := by omega
    have HSt := Lib.hid (fun W (K : LkAt W gl ga ha hs P σ sp) => load_any ga ha σ W K.1 hN.2.2.1 P.tail)
    have hth := lth H.1 hN.2.2.2
    obtain ⟨d1, d2, d3, d4, d5⟩ := H.2.2.2.2
    have HK7 := Lib.hid (H.drewN 1)
    obtain ⟨⟨cc, q0, q1', q2⟩, _⟩ := H.heads
    have s1 := (H.2.1.cells k hk).2.1
    have HSp := Lib.hid (Spot_lk gl ga ha hs P σ sp (w.drewN 1) HK7.out (k : Int))
    rw [spOf_in hk] at hp
    rw [spOf_in hk, hp] at HSp
    rw [spOf_in hk]
    have e3 : (k : Int) < (sp.length : Int) := by omega
    have e4 : (0 : Int) ≤ (k : Int) := by omega
    have e5 : (k : Int).toNat = k := by omega
    generalize sp[k].a = xa at *
    generalize sp[k].b = xb at *
    generalize sp[k].c = xc at *
    generalize σ.op 1 P.tail false 0 = σ2 at *
    generalize σ.get P.tail = x at *
    have hm1 : Mod [ga, ha] w (w.drewN 1) := (Mod.refl _ _).drewN 1
    have e6 : (x == xa) = decide (x = xa) := by by_cases h : x = xa <;> simp [h]
    have HE6 := Lib.hid e6
    clear H hN hp hk i0 i1 e6
    go_enter Tryz.func379, Tryz.ntmps379
    go_wp2_with fail
    refine wp_region_held_drew (S := fun V => V.cell? ⟨gl, 0, none⟩ = some (.pointer (some ⟨ga, 0, none⟩)) ∧ V.cell? ⟨gl, 1, none⟩ = some (.int .i64 P.tail) ∧ V.cell? ⟨gl, 2, none⟩ = some (.slice (some ⟨hs, 0, none⟩) sp.length cc) ∧ V.cell? ⟨hs, k * 4 + 1, none⟩ = some (.int .i64 xa)) (by kernel_rfl) ⟨q0, q1', q2, s1⟩ (fun hHeld => ?_)
    refine tkC 0 5 ?_
    refine tkC 1 6 ?_
    refine wpAnyH_ready (rs := [2]) (by kernel_rfl) (by simp) ?_
    refine AllReadyH.cons rfl (fun K hK => ?_) AllReadyH.nil
    go_simp
    refine HSp.out.mono ?_
    rintro e w2 ⟨rfl, hb2⟩
    have H2 := Lib.hid (HK7.out.same hb2)
    have hm2 : Mod [ga, ha] w w2 := hm1.trans (Mod.of_below hb2)
    go_simp
    refine hK.out _ _ ⟨keep1 hb2 hHeld.1, keep1 hb2 hHeld.2.1, keep1 hb2 hHeld.2.2.1, keep1 hb2 hHeld.2.2.2⟩ (fun hHeld => ?_)
    clear hb2
    refine tkC 3 8 ?_
    refine tkC 4 9 ?_
    refine tkC 5 10 ?_
    refine tkC 6 11 ?_
    refine tkC 7 12 ?_
    refine tkC 8 13 ?_
    refine tkC 9 14 ?_
    refine tkC 10 15 ?_
    refine tkC 11 16 ?_
    refine tkC 12 17 ?_
    refine tkC 13 18 ?_
    refine tkC 15 20 ?_
    refine tkC 16 21 ?_
    refine tkC 17 22 ?_
    refine tkC 18 23 ?_
    refine tkC 19 24 ?_
    refine tkC 20 25 ?_
    refine tkC 21 26 ?_
    refine tkC 22 27 ?_
    refine wpAnyH_ready (rs := [14]) (by kernel_rfl) (by simp) ?_
    refine AllReadyH.cons rfl (fun K hK => ?_) AllReadyH.nil
    go_simp
    refine (HSt.out _ H2.out).mono ?_
    rintro e w3 ⟨rfl, ha3, hm3⟩
    have H3 := Lib.hid (H2.out.arena ha3 hm3)
    go_simp
    refine hK.out _ _ ⟨keepM hm3 hHeld.1 (by simp; omega), keepM hm3 hHeld.2.1 (by simp; omega), keepM hm3 hHeld.2.2.1 (by simp; omega), keepM hm3 hHeld.2.2.2 (by simp; omega)⟩ (fun hHeld => ?_)
    refine tkC 23 28 ?_
    refine tkC 24 29 ?_
    refine tkC 25 4 ?_
    refine wpAnyH_done (by kernel_rfl) ?_ _
    have hm4 := hm2.trans hm3
    clear ha3 hm3
    go_wp2_with fail
    go_ret
    exact ⟨rfl, H3.out, hm4⟩
  · have e : aloneP P σ sp i = (false, σ) := by unfold aloneP; rw [if_neg hp]
    rw [e]
    clear e
    have HK7 := Lib.hid (H.drewN 1)
    have HSp := Lib.hid (Spot_lk gl ga ha hs P σ sp (w.drewN 1) HK7.out i)
    have hm1 : Mod [ga, ha] w (w.drewN 1) := (Mod.refl _ _).drewN 1
    have e9 := ibeq_no hp
    generalize spOf sp i = s at *
    obtain ⟨xp, xa, xb, xc⟩ := s
    clear H hN hp
    go_enter Tryz.func379, Tryz.ntmps379
    go_wp2_with fail
    refine wp_region_held_drew (S := fun _ => True) (by kernel_rfl) trivial (fun hHeld => ?_)
    refine tkC 0 5 ?_
    refine tkC 1 6 ?_
    refine wpAnyH_ready (rs := [2]) (by kernel_rfl) (by simp) ?_
    refine AllReadyH.cons rfl (fun K hK => ?_) AllReadyH.nil
    go_simp
    refine HSp.out.mono ?_
    rintro e w2 ⟨rfl, hb2⟩
    have H2 := Lib.hid (HK7.out.same hb2)
    have hm2 : Mod [ga, ha] w w2 := hm1.trans (Mod.of_below hb2)
    go_simp
    refine hK.out _ _ trivial (fun hHeld => ?_)
    clear hb2
    refine tkC 3 8 ?_
    refine tkC 4 9 ?_
    refine tkC 5 10 ?_
    refine take_to 6 (some 11) (v := undef) rfl rfl (by kernel_rfl) (by kernel_rfl) (by kernel_rfl) (fun _ _ _ h => h) (Or.inr ⟨by rfl, rfl⟩) (by first | trivial | assumption) ?_
    simp only [Act.put, List.setIfInBounds_toArray, List.set_cons_zero, List.set_cons_succ]
    refine take_to 7 (some 12) (v := undef) rfl rfl (by kernel_rfl) (by kernel_rfl) (by kernel_rfl) (fun _ _ _ h => h) (Or.inr ⟨by rfl, rfl⟩) (by first | trivial | assumption) ?_
    simp only [Act.put, List.setIfInBounds_toArray, List.set_cons_zero, List.set_cons_succ]
    refine take_to 8 (some 13) (v := undef) rfl rfl (by kernel_rfl) (by kernel_rfl) (by kernel_rfl) (fun _ _ _ h => h) (Or.inr ⟨by rfl, rfl⟩) (by first | trivial | assumption) ?_
    simp only [Act.put, List.setIfInBounds_toArray, List.set_cons_zero, List.set_cons_succ]
    refine take_to 9 (some 14) (v := undef) rfl rfl (by kernel_rfl) (by kernel_rfl) (by kernel_rfl) (fun _ _ _ h => h) (Or.inr ⟨by rfl, rfl⟩) (by first | trivial | assumption) ?_
    simp only [Act.put, List.setIfInBounds_toArray, List.set_cons_zero, List.set_cons_succ]
    refine take_to 10 (some 15) (v := undef) rfl rfl (by kernel_rfl) (by kernel_rfl) (by kernel_rfl) (fun _ _ _ h => h) (Or.inr ⟨by rfl, rfl⟩) (by first | trivial | assumption) ?_
    simp only [Act.put, List.setIfInBounds_toArray, List.set_cons_zero, List.set_cons_succ]
    refine take_to 11 (some 16) (v := undef) rfl rfl (by kernel_rfl) (by kernel_rfl) (by kernel_rfl) (fun _ _ _ h => h) (Or.inr ⟨by rfl, rfl⟩) (by first | trivial | assumption) ?_
    simp only [Act.put, List.setIfInBounds_toArray, List.set_cons_zero, List.set_cons_succ]
    refine take_to 12 (some 17) (v := undef) rfl rfl (by kernel_rfl) (by kernel_rfl) (by kernel_rfl) (fun _ _ _ h => h) (Or.inr ⟨by rfl, rfl⟩) (by first | trivial | assumption) ?_
    simp only [Act.put, List.setIfInBounds_toArray, List.set_cons_zero, List.set_cons_succ]
    refine take_to 13 (some 18) (v := undef) rfl rfl (by kernel_rfl) (by kernel_rfl) (by kernel_rfl) (fun _ _ _ h => h) (Or.inr ⟨by rfl, rfl⟩) (by first | trivial | assumption) ?_
    simp only [Act.put, List.setIfInBounds_toArray, List.set_cons_zero, List.set_cons_succ]
    refine take_to 14 (some 19) (v := undef) rfl rfl (by kernel_rfl) (by kernel_rfl) (by kernel_rfl) (fun _ _ _ h => h) (Or.inr ⟨by rfl, rfl⟩) (by first | trivial | assumption) ?_
    simp only [Act.put, List.setIfInBounds_toArray, List.set_cons_zero, List.set_cons_succ]
    refine take_to 15 (some 20) (v := undef) rfl rfl (by kernel_rfl) (by kernel_rfl) (by kernel_rfl) (fun _ _ _ h => h) (Or.inr ⟨by rfl, rfl⟩) (by first | trivial | assumption) ?_
    simp only [Act.put, List.setIfInBounds_toArray, List.set_cons_zero, List.set_cons_succ]
    refine take_to 16 (some 21) (v := undef) rfl rfl (by kernel_rfl) (by kernel_rfl) (by kernel_rfl) (fun _ _ _ h => h) (Or.inr ⟨by rfl, rfl⟩) (by first | trivial | assumption) ?_
    simp only [Act.put, List.setIfInBounds_toArray, List.set_cons_zero, List.set_cons_succ]
    refine take_to 17 (some 22) (v := undef) rfl rfl (by kernel_rfl) (by kernel_rfl) (by kernel_rfl) (fun _ _ _ h => h) (Or.inr ⟨by rfl, rfl⟩) (by first | trivial | assumption) ?_
    simp only [Act.put, List.setIfInBounds_toArray, List.set_cons_zero, List.set_cons_succ]
    refine take_to 18 (some 23) (v := undef) rfl rfl (by kernel_rfl) (by kernel_rfl) (by kernel_rfl) (fun _ _ _ h => h) (Or.inr ⟨by rfl, rfl⟩) (by first | trivial | assumption) ?_
    simp only [Act.put, List.setIfInBounds_toArray, List.set_cons_zero, List.set_cons_succ]
    refine take_to 19 (some 24) (v := undef) rfl rfl (by kernel_rfl) (by kernel_rfl) (by kernel_rfl) (fun _ _ _ h => h) (Or.inr ⟨by rfl, rfl⟩) (by first | trivial | assumption) ?_
    simp only [Act.put, List.setIfInBounds_toArray, List.set_cons_zero, List.set_cons_succ]
    refine take_to 20 (some 25) (v := undef) rfl rfl (by kernel_rfl) (by kernel_rfl) (by kernel_rfl) (fun _ _ _ h => h) (Or.inr ⟨by rfl, rfl⟩) (by first | trivial | assumption) ?_
    simp only [Act.put, List.setIfInBounds_toArray, List.set_cons_zero, List.set_cons_succ]
    refine take_to 21 (some 26) (v := undef) rfl rfl (by kernel_rfl) (by kernel_rfl) (by kernel_rfl) (fun _ _ _ h => h) (Or.inr ⟨by rfl, rfl⟩) (by first | trivial | assumption) ?_
    simp only [Act.put, List.setIfInBounds_toArray, List.set_cons_zero, List.set_cons_succ]
    refine take_to 22 (some 27) (v := undef) rfl rfl (by kernel_rfl) (by kernel_rfl) (by kernel_rfl) (fun _ _ _ h => h) (Or.inr ⟨by rfl, rfl⟩) (by first | trivial | assumption) ?_
    simp only [Act.put, List.setIfInBounds_toArray, List.set_cons_zero, List.set_cons_succ]
    refine take_to 23 (some 28) (v := undef) rfl rfl (by kernel_rfl) (by kernel_rfl) (by kernel_rfl) (fun _ _ _ h => h) (Or.inr ⟨by rfl, rfl⟩) (by first | trivial | assumption) ?_
    simp only [Act.put, List.setIfInBounds_toArray, List.set_cons_zero, List.set_cons_succ]
    refine tkC 24 29 ?_
    refine tkC 25 4 ?_
    refine wpAnyH_done (by kernel_rfl) ?_ _
    go_wp2_with fail
    go_ret
    exact ⟨rfl, H2.out, hm2⟩
end
end Go.Proofs.YtfmiioddhpkdkaaGreat.Cl

/- Layer 19's law: do. -/
namespace Go.Proofs.YtfmiioddhpkdkaaGreat.Cl
open Go.RowKit Ara Lok

end Go.Proofs.YtfmiioddhpkdkaaGreat.Cl

