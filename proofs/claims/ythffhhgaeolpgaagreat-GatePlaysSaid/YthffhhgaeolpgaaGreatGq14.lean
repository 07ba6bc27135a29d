/- Merged texts: Mc3, Mc4, Mc5. -/
import Derived.Test.YthffhhgaeolpgaaGreatGq13
set_option linter.unusedVariables false
/- Package mcs: Step, Alone. -/
namespace Go.Proofs.YthffhhgaeolpgaaGreat.Mc
open Go.RowKit Go.Proofs.YthffhhgaeolpgaaGreat.Ara Go.Proofs.YthffhhgaeolpgaaGreat.Lok

theorem sfld0 (a b c d : Int) (W : World) : (Instr.field 53 (.agg #[.int .i64 a, .int .i64 b, .int .i64 c, .int .i64 d]) 0).run Tryz.prog W = .ok (.int .i64 a) W := by
  simp [Instr.field, run_underlying Tryz.underlying53, asAgg, go_sem]
theorem setaP (sp : List Sp) (k : Nat) (hk : k < sp.length) (v pn : Int) (hk1 : k < (sp.set k { sp[k] with a := v }).length) : (sp.set k { sp[k] with a := v }).set k { (sp.set k { sp[k] with a := v })[k] with pc := pn } = sp.set k { sp[k] with pc := pn, a := v } := by
  have e : (sp.set k { sp[k] with a := v })[k] = { sp[k] with a := v } := List.getElem_set_self hk1
  rw [e, List.set_set]
theorem ite_beq (c : Prop) [Decidable c] (x y to : Int) (h1 : x = to) (h2 : y ≠ to) : ((if c then x else y) == to) = decide c := by
  by_cases hc : c
  · rw [if_pos hc, decide_eq_true hc, h1]; simp
  · rw [if_neg hc, decide_eq_false hc]; simp [h2]
section
variable (gl ga ha hs : Nat) (P : Par) (σ : Ar) (sp : List Sp) (w : World) (H : LkAt w gl ga ha hs P σ sp)
include H
set_option maxRecDepth 100000 in
theorem goes_in (k : Nat) (hk : k < sp.length) (to p' : Int) (σ' : Ar) (sp1 sp2 : List Sp) (hk1 : k < sp1.length) (hl1 : sp1.length = sp.length) (HF : ∀ W, LkAt W gl ga ha hs P σ sp → Calls Tryz.prog 187 #[.pointer (some ⟨gl, 0, none⟩), .pointer (some ⟨hs, k * 4, none⟩), .int .i64 ((k : Int) + 1)] W fun e w' => e = .returned (.int .i64 p') ∧ LkAt w' gl ga ha hs P σ' sp1 ∧ Mod [ga, ha, hs] W w')
    (h2 : sp1.set k { sp1[k] with pc := p' } = sp2) :
    Calls Tryz.prog 186 #[.pointer (some ⟨gl, 0, none⟩), .int .i64 (k : Int), .int .i64 to, .func (.func 187) #[.pointer (some ⟨gl, 0, none⟩)] #[]] w fun e w' => e = .returned (.bool (p' == to)) ∧ LkAt w' gl ga ha hs P σ' sp2 ∧ Mod [ga, ha, hs] w w' := by
  have HS := Lib.hid (spot_in_lk gl ga ha hs P σ sp w H k hk)
  have hl32 := H.2.2.1
  have e1 : IntKind.i64.wrap ((k : Int) + 1) = (k : Int) + 1 := IntWalk.i64_in _ (by omega)
  have HC : ∀ W, LkAt W gl ga ha hs P σ' sp1 → W.cell? ⟨hs, k * 4, none⟩ = some (.int .i64 sp1[k].pc) ∧ W.frozen? ⟨hs, k * 4, none⟩ = false ∧ LkAt (W.setCell ⟨hs, k * 4, none⟩ (.int .i64 p')) gl ga ha hs P σ' sp2 :=
    fun W K => ⟨(K.2.1.cells k hk1).1, (K.2.1.cells k hk1).2.2.2.2 (k * 4), by rw [← h2]; exact K.spots (K.2.1.setPc k hk1 p') ((Mod.refl [hs] W).setCell (by simp) _) (by rw [List.length_set])⟩
  replace HC := Lib.hid HC
  replace HF := Lib.hid HF
  have HH := Lib.hid H
  generalize sp1[k].pc = xo at *
  clear H h2 hl1
  by_cases ht : p' = to
  · rw [beq_iff_eq.2 ht]
    have e9 := ibeq ht
    clear ht
    go_enter Tryz.func186, Tryz.ntmps186
    go_wp2_with fail
    refine (HS.out).mono ?_
    rintro e wx ⟨rfl, hwx⟩
    obtain rfl := hwx.symm
    go_wp2_with fail
    refine (HF.out _ HH.out).mono ?_
    rintro e w2 ⟨rfl, hb2, hm2⟩
    obtain ⟨c0, f0, h3⟩ := HC.out _ hb2
    have H3 := Lib.hid h3
    have hmm : Mod [ga, ha, hs] w (w2.setCell ⟨hs, k * 4, none⟩ (.int .i64 p')) := hm2.setCell (by simp) _
    clear hb2 hm2 h3
    go_wp2_with fail
    go_ret
    exact ⟨rfl, H3.out, hmm⟩
  · rw [beq_eq_false_iff_ne.2 ht]
    have e9 := ibeq_no ht
    clear ht
    go_enter Tryz.func186, Tryz.ntmps186
    go_wp2_with fail
    refine (HS.out).mono ?_
    rintro e wx ⟨rfl, hwx⟩
    obtain rfl := hwx.symm
    go_wp2_with fail
    refine (HF.out _ HH.out).mono ?_
    rintro e w2 ⟨rfl, hb2, hm2⟩
    obtain ⟨c0, f0, h3⟩ := HC.out _ hb2
    have H3 := Lib.hid h3
    have hmm : Mod [ga, ha, hs] w (w2.setCell ⟨hs, k * 4, none⟩ (.int .i64 p')) := hm2.setCell (by simp) _
    clear hb2 hm2 h3
    go_wp2_with fail
    go_ret
    exact ⟨rfl, H3.out, hmm⟩
set_option maxRecDepth 100000 in
theorem goes_out (k : Nat) (hk : k < sp.length) (to p' : Int) (σ' : Ar) (sp1 sp2 : List Sp) (hk1 : k < sp1.length) (hl1 : sp1.length = sp.length) (HF : ∀ W, LkAt W gl ga ha hs P σ sp → Calls Tryz.prog 188 #[.pointer (some ⟨gl, 0, none⟩), .pointer (some ⟨hs, k * 4, none⟩), .int .i64 ((k : Int) + 1)] W fun e w' => e = .returned (.int .i64 p') ∧ LkAt w' gl ga ha hs P σ' sp1 ∧ Mod [ga, ha, hs] W w')
    (h2 : sp1.set k { sp1[k] with pc := p' } = sp2) :
    Calls Tryz.prog 186 #[.pointer (some ⟨gl, 0, none⟩), .int .i64 (k : Int), .int .i64 to, .func (.func 188) #[.pointer (some ⟨gl, 0, none⟩)] #[]] w fun e w' => e = .returned (.bool (p' == to)) ∧ LkAt w' gl ga ha hs P σ' sp2 ∧ Mod [ga, ha, hs] w w' := by
  have HS := Lib.hid (spot_in_lk gl ga ha hs P σ sp w H k hk)
  have hl32 := H.2.2.1
  have e1 : IntKind.i64.wrap ((k : Int) + 1) = (k : Int) + 1 := IntWalk.i64_in _ (by omega)
  have HC : ∀ W, LkAt W gl ga ha hs P σ' sp1 → W.cell? ⟨hs, k * 4, none⟩ = some (.int .i64 sp1[k].pc) ∧ W.frozen? ⟨hs, k * 4, none⟩ = false ∧ LkAt (W.setCell ⟨hs, k * 4, none⟩ (.int .i64 p')) gl ga ha hs P σ' sp2 :=
    fun W K => ⟨(K.2.1.cells k hk1).1, (K.2.1.cells k hk1).2.2.2.2 (k * 4), by rw [← h2]; exact K.spots (K.2.1.setPc k hk1 p') ((Mod.refl [hs] W).setCell (by simp) _) (by rw [List.length_set])⟩
  replace HC := Lib.hid HC
  replace HF := Lib.hid HF
  have HH := Lib.hid H
  generalize sp1[k].pc = xo at *
  clear H h2 hl1
  by_cases ht : p' = to
  · rw [beq_iff_eq.2 ht]
    have e9 := ibeq ht
    clear ht
    go_enter Tryz.func186, Tryz.ntmps186
    go_wp2_with fail
    refine (HS.out).mono ?_
    rintro e wx ⟨rfl, hwx⟩
    obtain rfl := hwx.symm
    go_wp2_with fail
    refine (HF.out _ HH.out).mono ?_
    rintro e w2 ⟨rfl, hb2, hm2⟩
    obtain ⟨c0, f0, h3⟩ := HC.out _ hb2
    have H3 := Lib.hid h3
    have hmm : Mod [ga, ha, hs] w (w2.setCell ⟨hs, k * 4, none⟩ (.int .i64 p')) := hm2.setCell (by simp) _
    clear hb2 hm2 h3
    go_wp2_with fail
    go_ret
    exact ⟨rfl, H3.out, hmm⟩
  · rw [beq_eq_false_iff_ne.2 ht]
    have e9 := ibeq_no ht
    clear ht
    go_enter Tryz.func186, Tryz.ntmps186
    go_wp2_with fail
    refine (HS.out).mono ?_
    rintro e wx ⟨rfl, hwx⟩
    obtain rfl := hwx.symm
    go_wp2_with fail
    refine (HF.out _ HH.out).mono ?_
    rintro e w2 ⟨rfl, hb2, hm2⟩
    obtain ⟨c0, f0, h3⟩ := HC.out _ hb2
    have H3 := Lib.hid h3
    have hmm : Mod [ga, ha, hs] w (w2.setCell ⟨hs, k * 4, none⟩ (.int .i64 p')) := hm2.setCell (by simp) _
    clear hb2 hm2 h3
    go_wp2_with fail
    go_ret
    exact ⟨rfl, H3.out, hmm⟩
set_option maxRecDepth 100000 in
theorem step_in (k : Nat) (hk : k < sp.length) (p : Int) (hp : sp[k].pc = p) (h1 : 0 < p) (h2 : p < 10) (σ' : Ar) (sp2 : List Sp) (b : Bool) (HG : ∀ W, LkAt W gl ga ha hs P σ sp → Calls Tryz.prog 186 #[.pointer (some ⟨gl, 0, none⟩), .int .i64 (k : Int), .int .i64 10, .func (.func 187) #[.pointer (some ⟨gl, 0, none⟩)] #[]] W fun e w' => e = .returned (.bool b) ∧ LkAt w' gl ga ha hs P σ' sp2 ∧ Mod [ga, ha, hs] W w') :
    Calls Tryz.prog 182 #[.pointer (some ⟨gl, 0, none⟩), .int .i64 (k : Int)] w fun e w' => e = .returned (.bool b) ∧ LkAt w' gl ga ha hs P σ' sp2 ∧ Mod [ga, ha, hs] w w' := by
  have HSp := Spot_lk gl ga ha hs P σ sp w H (k : Int)
  rw [spOf_in hk, hp] at HSp
  replace HSp := Lib.hid HSp
  have hmf : ∀ (fn : Fn) (first cap : Array Value) (w : World), (Instr.makeFunc fn first cap).run Tryz.prog w = .ok (.func fn first cap) w := fun _ _ _ _ => rfl
  have q1 := fun a b c d W => sfld0 a b c d W
  replace HG := Lib.hid HG
  have HH := Lib.hid H
  generalize sp[k].a = xa at *
  generalize sp[k].b = xb at *
  generalize sp[k].c = xc at *
  clear H hp
  go_enter Tryz.func182, Tryz.ntmps182
  go_wp2_with fail
  refine HSp.out.mono ?_
  rintro e w1 ⟨rfl, hb1⟩
  have H1 := Lib.hid (HH.out.same hb1)
  have hm1 : Mod [ga, ha, hs] w w1 := Mod.of_below hb1
  clear hb1
  go_wp2_with fail
  refine (HG.out _ H1.out).mono ?_
  rintro e w2 ⟨rfl, h3, hm2⟩
  have H3 := Lib.hid h3
  have hmm := hm1.trans hm2
  clear h3 hm2
  go_wp2_with fail
  go_ret
  exact ⟨rfl, H3.out, hmm⟩
set_option maxRecDepth 100000 in
theorem step_out (k : Nat) (hk : k < sp.length) (p : Int) (hp : sp[k].pc = p) (h1 : 10 < p) (h2 : p < 100) (σ' : Ar) (sp2 : List Sp) (b : Bool) (HG : ∀ W, LkAt W gl ga ha hs P σ sp → Calls Tryz.prog 186 #[.pointer (some ⟨gl, 0, none⟩), .int .i64 (k : Int), .int .i64 0, .func (.func 188) #[.pointer (some ⟨gl, 0, none⟩)] #[]] W fun e w' => e = .returned (.bool b) ∧ LkAt w' gl ga ha hs P σ' sp2 ∧ Mod [ga, ha, hs] W w') :
    Calls Tryz.prog 182 #[.pointer (some ⟨gl, 0, none⟩), .int .i64 (k : Int)] w fun e w' => e = .returned (.bool b) ∧ LkAt w' gl ga ha hs P σ' sp2 ∧ Mod [ga, ha, hs] w w' := by
  have HSp := Spot_lk gl ga ha hs P σ sp w H (k : Int)
  rw [spOf_in hk, hp] at HSp
  replace HSp := Lib.hid HSp
  have hmf : ∀ (fn : Fn) (first cap : Array Value) (w : World), (Instr.makeFunc fn first cap).run Tryz.prog w = .ok (.func fn first cap) w := fun _ _ _ _ => rfl
  have q1 := fun a b c d W => sfld0 a b c d W
  replace HG := Lib.hid HG
  have HH := Lib.hid H
  generalize sp[k].a = xa at *
  generalize sp[k].b = xb at *
  generalize sp[k].c = xc at *
  clear H hp
  go_enter Tryz.func182, Tryz.ntmps182
  go_wp2_with fail
  refine HSp.out.mono ?_
  rintro e w1 ⟨rfl, hb1⟩
  have H1 := Lib.hid (HH.out.same hb1)
  have hm1 : Mod [ga, ha, hs] w w1 := Mod.of_below hb1
  clear hb1
  go_wp2_with fail
  refine (HG.out _ H1.out).mono ?_
  rintro e w2 ⟨rfl, h3, hm2⟩
  have H3 := Lib.hid h3
  have hmm := hm1.trans hm2
  clear h3 hm2
  go_wp2_with fail
  go_ret
  exact ⟨rfl, H3.out, hmm⟩
set_option maxRecDepth 100000 in
theorem step_none (i : Int) (h : (spOf sp i).pc = 0 ∨ (spOf sp i).pc = 10) : Calls Tryz.prog 182 #[.pointer (some ⟨gl, 0, none⟩), .int .i64 i] w fun e w' => e = .returned (.bool false) ∧ LkAt w' gl ga ha hs P σ sp ∧ Mod [ga, ha, hs] w w' := by
  have HSp := Spot_lk gl ga ha hs P σ sp w H i
  have q1 := fun a b c d W => sfld0 a b c d W
  have HH := Lib.hid H
  generalize spOf sp i = s at *
  obtain ⟨yp, ya, yb, yc⟩ := s
  replace HSp := Lib.hid HSp
  clear H
  rcases h with h | h
  · simp only at h
    subst h
    go_enter Tryz.func182, Tryz.ntmps182
    go_wp2_with fail
    refine HSp.out.mono ?_
    rintro e w1 ⟨rfl, hb1⟩
    go_wp2_with fail
    go_ret
    exact ⟨rfl, HH.out.same hb1, Mod.of_below hb1⟩
  · simp only at h
    subst h
    go_enter Tryz.func182, Tryz.ntmps182
    go_wp2_with fail
    refine HSp.out.mono ?_
    rintro e w1 ⟨rfl, hb1⟩
    go_wp2_with fail
    go_ret
    exact ⟨rfl, HH.out.same hb1, Mod.of_below hb1⟩
theorem step_lk (hN : Num P σ sp) (i : Int) : Calls Tryz.prog 182 #[.pointer (some ⟨gl, 0, none⟩), .int .i64 i] w fun e w' => e = .returned (.bool (stepP P σ sp i).1) ∧ LkAt w' gl ga ha hs P (stepP P σ sp i).2.1 (stepP P σ sp i).2.2 ∧ Mod [ga, ha, hs] w w' := by
  by_cases h : (spOf sp i).pc = 0 ∨ (spOf sp i).pc = 10
  · rw [step_no h]
    exact step_none gl ga ha hs P σ sp w H i h
  · obtain ⟨i0, i1⟩ := spOf_range (sp := sp) (i := i) (by omega)
    obtain ⟨k, rfl⟩ := Int.eq_ofNat_of_zero_le i0
    have hk : k < sp.length := by omega
    have hs1 := spOf_in hk
    have hpo := (hN.2.1 k hk).2
    have hka : ∀ v : Int, k < (sp.set k { sp[k] with a := v }).length := fun v => by rw [List.length_set]; exact hk
    have hla : ∀ v : Int, (sp.set k { sp[k] with a := v }).length = sp.length := fun v => List.length_set
    rw [hs1] at h
    rcases hpo with p | p | p | p | p | p | p | p | p | p | p
    · exact absurd (.inl p) h
    · rw [step_1 (by rw [hs1]; exact p), hs1, Int.toNat_natCast]
      exact step_in gl ga ha hs P σ sp w H k hk 1 p (by decide) (by decide) _ _ false (fun W K => goes_in gl ga ha hs P σ sp W K k hk 10 2 _ sp _ hk rfl (fun W K => in_one gl ga ha hs P σ sp W K hN k hk p) rfl)
    · rw [step_2 (by rw [hs1]; exact p), hs1, Int.toNat_natCast]
      exact step_in gl ga ha hs P σ sp w H k hk 2 p (by decide) (by decide) _ _ false (fun W K => goes_in gl ga ha hs P σ sp W K k hk 10 3 _ sp _ hk rfl (fun W K => in_two gl ga ha hs P σ sp W K hN k hk p) rfl)
    · rw [step_3 (by rw [hs1]; exact p), hs1, Int.toNat_natCast]
      have hb : (σ.get P.tail == 0) = ((if σ.get P.tail = 0 then (10 : Int) else 4) == 10) := (ite_beq _ _ _ _ rfl (by decide)).symm
      rw [hb]
      exact step_in gl ga ha hs P σ sp w H k hk 3 p (by decide) (by decide) _ _ _ (fun W K => goes_in gl ga ha hs P σ sp W K k hk 10 _ _ _ _ (hka _) (hla _) (fun W K => in_three gl ga ha hs P σ sp W K hN k hk p _ rfl) (setaP sp k hk _ _ (hka _)))
    · rw [step_4 (by rw [hs1]; exact p), hs1, Int.toNat_natCast]
      exact step_in gl ga ha hs P σ sp w H k hk 4 p (by decide) (by decide) _ _ false (fun W K => goes_in gl ga ha hs P σ sp W K k hk 10 5 _ sp _ hk rfl (fun W K => in_four gl ga ha hs P σ sp W K hN k hk p) rfl)
    · rw [step_5 (by rw [hs1]; exact p), hs1, Int.toNat_natCast]
      have hb : (σ.get (wt P ((k : Int) + 1)) == 0) = ((if σ.get (wt P ((k : Int) + 1)) = 0 then (10 : Int) else 5) == 10) := (ite_beq _ _ _ _ rfl (by decide)).symm
      rw [hb]
      exact step_in gl ga ha hs P σ sp w H k hk 5 p (by decide) (by decide) _ _ _ (fun W K => goes_in gl ga ha hs P σ sp W K k hk 10 _ _ sp _ hk rfl (fun W K => in_five gl ga ha hs P σ sp W K hN k hk p) rfl)
    · exact absurd (.inr p) h
    · have hs2 := step_look (P := P) (σ := σ) (sp := sp) (i := (k : Int)) (.inl (by rw [hs1]; exact p))
      rw [hs2, hs1, Int.toNat_natCast]
      simp only [if_pos p]
      have hb : false = ((if σ.get (nx P ((k : Int) + 1)) = 0 then (12 : Int) else 14) == 0) := by split <;> rfl
      have key := step_out gl ga ha hs P σ sp w H k hk 11 p (by decide) (by decide) _ _ _ (fun W K => goes_out gl ga ha hs P σ sp W K k hk 0 _ _ _ _ (hka _) (hla _) (fun W K => out_11 gl ga ha hs P σ sp W K hN k hk p _ rfl) (setaP sp k hk _ _ (hka _)))
      rw [← hb] at key
      exact key
    · rw [step_12 (by rw [hs1]; exact p), hs1, Int.toNat_natCast]
      generalize hbb : (σ.has P.tail && (σ.get P.tail == (k : Int) + 1)) = bb
      have hb : bb = ((if bb = true then (0 : Int) else 13) == 0) := by cases bb <;> rfl
      have HO := fun W K => out_12 gl ga ha hs P σ sp W K hN k hk p
      rw [hbb] at HO
      have key := step_out gl ga ha hs P σ sp w H k hk 12 p (by decide) (by decide) _ _ _ (fun W K => goes_out gl ga ha hs P σ sp W K k hk 0 _ _ sp _ hk rfl (HO) rfl)
      rw [← hb] at key
      exact key
    · have hs2 := step_look (P := P) (σ := σ) (sp := sp) (i := (k : Int)) (.inr (by rw [hs1]; exact p))
      rw [hs2, hs1, Int.toNat_natCast]
      simp only [if_neg (show ¬ sp[k].pc = 11 by omega)]
      have hb : false = ((if σ.get (nx P ((k : Int) + 1)) = 0 then (13 : Int) else 14) == 0) := by split <;> rfl
      have key := step_out gl ga ha hs P σ sp w H k hk 13 p (by decide) (by decide) _ _ _ (fun W K => goes_out gl ga ha hs P σ sp W K k hk 0 _ _ _ _ (hka _) (hla _) (fun W K => out_13 gl ga ha hs P σ sp W K hN k hk p _ rfl) (setaP sp k hk _ _ (hka _)))
      rw [← hb] at key
      exact key
    · rw [step_14 (by rw [hs1]; exact p), hs1, Int.toNat_natCast]
      exact step_out gl ga ha hs P σ sp w H k hk 14 p (by decide) (by decide) _ _ true (fun W K => goes_out gl ga ha hs P σ sp W K k hk 0 0 _ sp _ hk rfl (fun W K => out_14 gl ga ha hs P σ sp W K hN k hk p) rfl)
set_option maxHeartbeats 4000000 in
set_option maxRecDepth 100000 in
theorem alone_lk (hN : Num P σ sp) (i : Int) : Calls Tryz.prog 177 #[.pointer (some ⟨gl, 0, none⟩), .int .i64 i] w fun e w' => e = .returned (.bool (aloneP P σ sp i).1) ∧ LkAt w' gl ga ha hs P (aloneP P σ sp i).2 sp ∧ Mod [ga, ha] w w' := by
  have q1 := fun a b c d W => sfld0 a b c d W
  by_cases hp : (spOf sp i).pc = 10
  · have e : aloneP P σ sp i = (σ.get (nx P (i + 1)) == 0, σ.op 1 (nx P (i + 1)) false 0) := by unfold aloneP; rw [if_pos hp]
    rw [e]
    clear e
    obtain ⟨i0, i1⟩ := spOf_range (sp := sp) (i := i) (by omega)
    have hl32 := H.2.2.1
    have HX := Lib.hid (fun W (K : LkAt W gl ga ha hs P σ sp) => next_lk gl ga ha hs P σ sp W K hN.1 (i + 1) (by omega))
    have HSt := Lib.hid (fun W (K : LkAt W gl ga ha hs P σ sp) => load_any ga ha σ W K.1 hN.2.2 (nx P (i + 1)))
    obtain ⟨d1, d2, d3, d4, d5⟩ := H.2.2.2.2
    have HK7 := Lib.hid (H.drewN 1)
    obtain ⟨⟨cc, q0, _, _⟩, _⟩ := H.heads
    have HSp := Spot_lk gl ga ha hs P σ sp (w.drewN 1) HK7.out i
    rw [hp] at HSp
    replace HSp := Lib.hid HSp
    have e3 : IntKind.i64.wrap (i + 1) = i + 1 := IntWalk.i64_in _ (by omega)
    generalize spOf sp i = s at *
    generalize σ.op 1 (nx P (i + 1)) false 0 = σ2 at *
    generalize nx P (i + 1) = p at *
    generalize σ.get p = x at *
    have hm1 : Mod [ga, ha] w (w.drewN 1) := (Mod.refl _ _).drewN 1
    clear H hN hp
    go_enter Tryz.func177, Tryz.ntmps177
    go_wp2_with fail
    refine wp_region_held_drew (S := fun V => V.cell? ⟨gl, 0, none⟩ = some (.pointer (some ⟨ga, 0, none⟩))) (by kernel_rfl) q0 (fun hHeld => ?_)
    refine take_to 0 (some 5) (v := ?_) rfl rfl (by kernel_rfl) (by kernel_rfl) (by kernel_rfl) (fun _ _ _ h => h) (Or.inl ⟨by rfl, ?_⟩) (by first | trivial | assumption) ?_
    rotate_left
    focus (intro w hSw; (try dsimp only at hSw); go_simp; (try with_reducible rfl))
    simp only [Act.put, List.setIfInBounds_toArray, List.set_cons_zero, List.set_cons_succ]
    refine take_to 1 (some 6) (v := ?_) rfl rfl (by kernel_rfl) (by kernel_rfl) (by kernel_rfl) (fun _ _ _ h => h) (Or.inl ⟨by rfl, ?_⟩) (by first | trivial | assumption) ?_
    rotate_left
    focus (intro w hSw; (try dsimp only at hSw); go_simp; (try with_reducible rfl))
    simp only [Act.put, List.setIfInBounds_toArray, List.set_cons_zero, List.set_cons_succ]
    refine wpAnyH_ready (rs := [2]) (by kernel_rfl) (by simp) ?_
    refine AllReadyH.cons rfl (fun K hK => ?_) AllReadyH.nil
    go_simp
    refine HSp.out.mono ?_
    rintro e w2 ⟨rfl, hb2⟩
    have H2 := Lib.hid (HK7.out.same hb2)
    have hm2 : Mod [ga, ha] w w2 := hm1.trans (Mod.of_below hb2)
    go_simp
    refine hK.out _ _ (keep1 hb2 hHeld) (fun hHeld => ?_)
    clear hb2
    refine take_to 3 (some 8) (v := ?_) rfl rfl (by kernel_rfl) (by kernel_rfl) (by kernel_rfl) (fun _ _ _ h => h) (Or.inl ⟨by rfl, ?_⟩) (by first | trivial | assumption) ?_
    rotate_left
    focus (intro w hSw; (try dsimp only at hSw); go_simp; (try with_reducible rfl))
    simp only [Act.put, List.setIfInBounds_toArray, List.set_cons_zero, List.set_cons_succ]
    refine take_to 4 (some 9) (v := ?_) rfl rfl (by kernel_rfl) (by kernel_rfl) (by kernel_rfl) (fun _ _ _ h => h) (Or.inl ⟨by rfl, ?_⟩) (by first | trivial | assumption) ?_
    rotate_left
    focus (intro w hSw; (try dsimp only at hSw); go_simp; (try with_reducible rfl))
    simp only [Act.put, List.setIfInBounds_toArray, List.set_cons_zero, List.set_cons_succ]
    refine take_to 5 (some 10) (v := ?_) rfl rfl (by kernel_rfl) (by kernel_rfl) (by kernel_rfl) (fun _ _ _ h => h) (Or.inl ⟨by rfl, ?_⟩) (by first | trivial | assumption) ?_
    rotate_left
    focus (intro w hSw; (try dsimp only at hSw); go_simp; (try with_reducible rfl))
    simp only [Act.put, List.setIfInBounds_toArray, List.set_cons_zero, List.set_cons_succ]
    refine take_to 6 (some 11) (v := ?_) rfl rfl (by kernel_rfl) (by kernel_rfl) (by kernel_rfl) (fun _ _ _ h => h) (Or.inl ⟨by rfl, ?_⟩) (by first | trivial | assumption) ?_
    rotate_left
    focus (intro w hSw; (try dsimp only at hSw); go_simp; (try with_reducible rfl))
    simp only [Act.put, List.setIfInBounds_toArray, List.set_cons_zero, List.set_cons_succ]
    refine take_to 7 (some 12) (v := ?_) rfl rfl (by kernel_rfl) (by kernel_rfl) (by kernel_rfl) (fun _ _ _ h => h) (Or.inl ⟨by rfl, ?_⟩) (by first | trivial | assumption) ?_
    rotate_left
    focus (intro w hSw; (try dsimp only at hSw); go_simp; (try with_reducible rfl))
    simp only [Act.put, List.setIfInBounds_toArray, List.set_cons_zero, List.set_cons_succ]
    refine take_to 8 (some 13) (v := ?_) rfl rfl (by kernel_rfl) (by kernel_rfl) (by kernel_rfl) (fun _ _ _ h => h) (Or.inl ⟨by rfl, ?_⟩) (by first | trivial | assumption) ?_
    rotate_left
    focus (intro w hSw; (try dsimp only at hSw); go_simp; (try with_reducible rfl))
    simp only [Act.put, List.setIfInBounds_toArray, List.set_cons_zero, List.set_cons_succ]
    refine take_to 9 (some 14) (v := ?_) rfl rfl (by kernel_rfl) (by kernel_rfl) (by kernel_rfl) (fun _ _ _ h => h) (Or.inl ⟨by rfl, ?_⟩) (by first | trivial | assumption) ?_
    rotate_left
    focus (intro w hSw; (try dsimp only at hSw); go_simp; (try with_reducible rfl))
    simp only [Act.put, List.setIfInBounds_toArray, List.set_cons_zero, List.set_cons_succ]
    refine take_to 10 (some 15) (v := ?_) rfl rfl (by kernel_rfl) (by kernel_rfl) (by kernel_rfl) (fun _ _ _ h => h) (Or.inl ⟨by rfl, ?_⟩) (by first | trivial | assumption) ?_
    rotate_left
    focus (intro w hSw; (try dsimp only at hSw); go_simp; (try with_reducible rfl))
    simp only [Act.put, List.setIfInBounds_toArray, List.set_cons_zero, List.set_cons_succ]
    refine take_to 11 (some 16) (v := ?_) rfl rfl (by kernel_rfl) (by kernel_rfl) (by kernel_rfl) (fun _ _ _ h => h) (Or.inl ⟨by rfl, ?_⟩) (by first | trivial | assumption) ?_
    rotate_left
    focus (intro w hSw; (try dsimp only at hSw); go_simp; (try with_reducible rfl))
    simp only [Act.put, List.setIfInBounds_toArray, List.set_cons_zero, List.set_cons_succ]
    refine take_to 12 (some 17) (v := ?_) rfl rfl (by kernel_rfl) (by kernel_rfl) (by kernel_rfl) (fun _ _ _ h => h) (Or.inl ⟨by rfl, ?_⟩) (by first | trivial | assumption) ?_
    rotate_left
    focus (intro w hSw; (try dsimp only at hSw); go_simp; (try with_reducible rfl))
    simp only [Act.put, List.setIfInBounds_toArray, List.set_cons_zero, List.set_cons_succ]
    refine wpAnyH_ready (rs := [13]) (by kernel_rfl) (by simp) ?_
    refine AllReadyH.cons rfl (fun K hK => ?_) AllReadyH.nil
    go_simp
    refine (HX.out _ H2.out).mono ?_
    rintro e wx ⟨rfl, hwx⟩
    obtain rfl := hwx.symm
    go_simp
    refine hK.out _ _ hHeld (fun hHeld => ?_)
    refine wpAnyH_ready (rs := [14]) (by kernel_rfl) (by simp) ?_
    refine AllReadyH.cons rfl (fun K hK => ?_) AllReadyH.nil
    go_simp
    refine (HSt.out _ H2.out).mono ?_
    rintro e w3 ⟨rfl, ha3, hm3⟩
    have H3 := Lib.hid (H2.out.arena ha3 hm3)
    go_simp
    refine hK.out _ _ (keepM hm3 hHeld (by simp; omega)) (fun hHeld => ?_)
    refine take_to 15 (some 20) (v := ?_) rfl rfl (by kernel_rfl) (by kernel_rfl) (by kernel_rfl) (fun _ _ _ h => h) (Or.inl ⟨by rfl, ?_⟩) (by first | trivial | assumption) ?_
    rotate_left
    focus (intro w hSw; (try dsimp only at hSw); go_simp; (try with_reducible rfl))
    simp only [Act.put, List.setIfInBounds_toArray, List.set_cons_zero, List.set_cons_succ]
    refine take_to 16 (some 21) (v := ?_) rfl rfl (by kernel_rfl) (by kernel_rfl) (by kernel_rfl) (fun _ _ _ h => h) (Or.inl ⟨by rfl, ?_⟩) (by first | trivial | assumption) ?_
    rotate_left
    focus (intro w hSw; (try dsimp only at hSw); go_simp; (try with_reducible rfl))
    simp only [Act.put, List.setIfInBounds_toArray, List.set_cons_zero, List.set_cons_succ]
    refine take_to 17 (some 4) (v := ?_) rfl rfl (by kernel_rfl) (by kernel_rfl) (by kernel_rfl) (fun _ _ _ h => h) (Or.inl ⟨by rfl, ?_⟩) (by first | trivial | assumption) ?_
    rotate_left
    focus (intro w hSw; (try dsimp only at hSw); go_simp; (try with_reducible rfl))
    simp only [Act.put, List.setIfInBounds_toArray, List.set_cons_zero, List.set_cons_succ]
    refine wpAnyH_done (by kernel_rfl) ?_ _
    have hm4 := hm2.trans hm3
    clear ha3 hm3
    go_wp2_with fail
    go_ret
    exact ⟨rfl, H3.out, hm4⟩
  · have e : aloneP P σ sp i = (false, σ) := by unfold aloneP; rw [if_neg hp]
    rw [e]
    clear e
    have HK7 := Lib.hid (H.drewN 1)
    have HSp := Spot_lk gl ga ha hs P σ sp (w.drewN 1) HK7.out i
    have hm1 : Mod [ga, ha] w (w.drewN 1) := (Mod.refl _ _).drewN 1
    have e9 := ibeq_no hp
    generalize spOf sp i = s at *
    obtain ⟨xp, xa, xb, xc⟩ := s
    replace HSp := Lib.hid HSp
    clear H hN hp
    go_enter Tryz.func177, Tryz.ntmps177
    go_wp2_with fail
    refine wp_region_held_drew (S := fun _ => True) (by kernel_rfl) trivial (fun hHeld => ?_)
    refine take_to 0 (some 5) (v := ?_) rfl rfl (by kernel_rfl) (by kernel_rfl) (by kernel_rfl) (fun _ _ _ h => h) (Or.inl ⟨by rfl, ?_⟩) (by first | trivial | assumption) ?_
    rotate_left
    focus (intro w hSw; (try dsimp only at hSw); go_simp; (try with_reducible rfl))
    simp only [Act.put, List.setIfInBounds_toArray, List.set_cons_zero, List.set_cons_succ]
    refine take_to 1 (some 6) (v := ?_) rfl rfl (by kernel_rfl) (by kernel_rfl) (by kernel_rfl) (fun _ _ _ h => h) (Or.inl ⟨by rfl, ?_⟩) (by first | trivial | assumption) ?_
    rotate_left
    focus (intro w hSw; (try dsimp only at hSw); go_simp; (try with_reducible rfl))
    simp only [Act.put, List.setIfInBounds_toArray, List.set_cons_zero, List.set_cons_succ]
    refine wpAnyH_ready (rs := [2]) (by kernel_rfl) (by simp) ?_
    refine AllReadyH.cons rfl (fun K hK => ?_) AllReadyH.nil
    go_simp
    refine HSp.out.mono ?_
    rintro e w2 ⟨rfl, hb2⟩
    have H2 := Lib.hid (HK7.out.same hb2)
    have hm2 : Mod [ga, ha] w w2 := hm1.trans (Mod.of_below hb2)
    go_simp
    refine hK.out _ _ trivial (fun hHeld => ?_)
    clear hb2
    refine take_to 3 (some 8) (v := ?_) rfl rfl (by kernel_rfl) (by kernel_rfl) (by kernel_rfl) (fun _ _ _ h => h) (Or.inl ⟨by rfl, ?_⟩) (by first | trivial | assumption) ?_
    rotate_left
    focus (intro w hSw; (try dsimp only at hSw); go_simp; (try with_reducible rfl))
    simp only [Act.put, List.setIfInBounds_toArray, List.set_cons_zero, List.set_cons_succ]
    refine take_to 4 (some 9) (v := ?_) rfl rfl (by kernel_rfl) (by kernel_rfl) (by kernel_rfl) (fun _ _ _ h => h) (Or.inl ⟨by rfl, ?_⟩) (by first | trivial | assumption) ?_
    rotate_left
    focus (intro w hSw; (try dsimp only at hSw); go_simp; (try with_reducible rfl))
    simp only [Act.put, List.setIfInBounds_toArray, List.set_cons_zero, List.set_cons_succ]
    refine take_to 5 (some 10) (v := ?_) rfl rfl (by kernel_rfl) (by kernel_rfl) (by kernel_rfl) (fun _ _ _ h => h) (Or.inl ⟨by rfl, ?_⟩) (by first | trivial | assumption) ?_
    rotate_left
    focus (intro w hSw; (try dsimp only at hSw); go_simp; (try with_reducible rfl))
    simp only [Act.put, List.setIfInBounds_toArray, List.set_cons_zero, List.set_cons_succ]
    refine take_to 6 (some 11) (v := undef) rfl rfl (by kernel_rfl) (by kernel_rfl) (by kernel_rfl) (fun _ _ _ h => h) (Or.inr ⟨by rfl, rfl⟩) (by first | trivial | assumption) ?_
    simp only [Act.put, List.setIfInBounds_toArray, List.set_cons_zero, List.set_cons_succ]
    refine take_to 7 (some 12) (v := undef) rfl rfl (by kernel_rfl) (by kernel_rfl) (by kernel_rfl) (fun _ _ _ h => h) (Or.inr ⟨by rfl, rfl⟩) (by first | trivial | assumption) ?_
    simp only [Act.put, List.setIfInBounds_toArray, List.set_cons_zero, List.set_cons_succ]
    refine take_to 8 (some 13) (v := undef) rfl rfl (by kernel_rfl) (by kernel_rfl) (by kernel_rfl) (fun _ _ _ h => h) (Or.inr ⟨by rfl, rfl⟩) (by first | trivial | assumption) ?_
    simp only [Act.put, List.setIfInBounds_toArray, List.set_cons_zero, List.set_cons_succ]
    refine take_to 9 (some 14) (v := undef) rfl rfl (by kernel_rfl) (by kernel_rfl) (by kernel_rfl) (fun _ _ _ h => h) (Or.inr ⟨by rfl, rfl⟩) (by first | trivial | assumption) ?_
    simp only [Act.put, List.setIfInBounds_toArray, List.set_cons_zero, List.set_cons_succ]
    refine take_to 10 (some 15) (v := undef) rfl rfl (by kernel_rfl) (by kernel_rfl) (by kernel_rfl) (fun _ _ _ h => h) (Or.inr ⟨by rfl, rfl⟩) (by first | trivial | assumption) ?_
    simp only [Act.put, List.setIfInBounds_toArray, List.set_cons_zero, List.set_cons_succ]
    refine take_to 11 (some 16) (v := undef) rfl rfl (by kernel_rfl) (by kernel_rfl) (by kernel_rfl) (fun _ _ _ h => h) (Or.inr ⟨by rfl, rfl⟩) (by first | trivial | assumption) ?_
    simp only [Act.put, List.setIfInBounds_toArray, List.set_cons_zero, List.set_cons_succ]
    refine take_to 12 (some 17) (v := undef) rfl rfl (by kernel_rfl) (by kernel_rfl) (by kernel_rfl) (fun _ _ _ h => h) (Or.inr ⟨by rfl, rfl⟩) (by first | trivial | assumption) ?_
    simp only [Act.put, List.setIfInBounds_toArray, List.set_cons_zero, List.set_cons_succ]
    refine take_to 13 (some 18) (v := undef) rfl rfl (by kernel_rfl) (by kernel_rfl) (by kernel_rfl) (fun _ _ _ h => h) (Or.inr ⟨by rfl, rfl⟩) (by first | trivial | assumption) ?_
    simp only [Act.put, List.setIfInBounds_toArray, List.set_cons_zero, List.set_cons_succ]
    refine take_to 14 (some 19) (v := undef) rfl rfl (by kernel_rfl) (by kernel_rfl) (by kernel_rfl) (fun _ _ _ h => h) (Or.inr ⟨by rfl, rfl⟩) (by first | trivial | assumption) ?_
    simp only [Act.put, List.setIfInBounds_toArray, List.set_cons_zero, List.set_cons_succ]
    refine take_to 15 (some 20) (v := undef) rfl rfl (by kernel_rfl) (by kernel_rfl) (by kernel_rfl) (fun _ _ _ h => h) (Or.inr ⟨by rfl, rfl⟩) (by first | trivial | assumption) ?_
    simp only [Act.put, List.setIfInBounds_toArray, List.set_cons_zero, List.set_cons_succ]
    refine take_to 16 (some 21) (v := ?_) rfl rfl (by kernel_rfl) (by kernel_rfl) (by kernel_rfl) (fun _ _ _ h => h) (Or.inl ⟨by rfl, ?_⟩) (by first | trivial | assumption) ?_
    rotate_left
    focus (intro w hSw; (try dsimp only at hSw); go_simp; (try with_reducible rfl))
    simp only [Act.put, List.setIfInBounds_toArray, List.set_cons_zero, List.set_cons_succ]
    refine take_to 17 (some 4) (v := ?_) rfl rfl (by kernel_rfl) (by kernel_rfl) (by kernel_rfl) (fun _ _ _ h => h) (Or.inl ⟨by rfl, ?_⟩) (by first | trivial | assumption) ?_
    rotate_left
    focus (intro w hSw; (try dsimp only at hSw); go_simp; (try with_reducible rfl))
    simp only [Act.put, List.setIfInBounds_toArray, List.set_cons_zero, List.set_cons_succ]
    refine wpAnyH_done (by kernel_rfl) ?_ _
    go_wp2_with fail
    go_ret
    exact ⟨rfl, H2.out, hm2⟩
end
end Go.Proofs.YthffhhgaeolpgaaGreat.Mc

/- Layer 18's law: do. -/
namespace Go.Proofs.YthffhhgaeolpgaaGreat.Mc
open Go.RowKit Go.Proofs.YthffhhgaeolpgaaGreat.Ara Go.Proofs.YthffhhgaeolpgaaGreat.Lok

end Go.Proofs.YthffhhgaeolpgaaGreat.Mc

/- Package mcs: New. -/
namespace Go.Proofs.YthffhhgaeolpgaaGreat.Mc
open Go.RowKit Go.Proofs.YthffhhgaeolpgaaGreat.Ara Go.Proofs.YthffhhgaeolpgaaGreat.Lok

theorem infoSp : (Tryz.prog.info? 53).map (fun i => (i.zero, i.size, i.bytes)) = some (some (.agg #[.int .i64 0, .int .i64 0, .int .i64 0, .int .i64 0]), 4, 32) := by kernel_rfl
def zeroS (n : Nat) : List Sp := List.replicate n sp0
theorem zeroS_flat (n : Nat) : ((List.replicate n ((Value.agg #[.int .i64 0, .int .i64 0, .int .i64 0, .int .i64 0]).cells.toList)).flatten).toArray = ((zeroS n).flatMap decSp).toArray := by
  congr 1
  induction n with
  | zero => rfl
  | succ n ih => rw [List.replicate_succ, List.flatten_cons, ih, zeroS, zeroS, List.replicate_succ, List.flatMap_cons]; rfl
theorem make_spots (n : Nat) (h : n ≤ 65536) (W : World) : (Instr.makeSlice 50 (.int .i64 (n : Int)) (.int .i64 (n : Int))).run Tryz.prog W = .ok (.slice (some ⟨W.heap.size, 0, none⟩) n n) (W.alloc (.cells ((zeroS n).flatMap decSp).toArray 53)) := by
  rw [run_make_rows (P := Tryz.prog) 50 53 (.agg #[.int .i64 0, .int .i64 0, .int .i64 0, .int .i64 0]) 4 32 Tryz.underlying50 infoSp rfl .i64 .i64 n (by omega) (by omega) W, zeroS_flat]
theorem spAt_new (W : World) (n : Nat) : SpAt (W.alloc (.cells ((zeroS n).flatMap decSp).toArray 53)) W.heap.size (zeroS n) :=
  ⟨_, blk_new _ _, by rw [List.take_of_length_le (by rw [flat_len decSp_len]; omega)]⟩
set_option maxHeartbeats 4000000 in
set_option maxRecDepth 100000 in
theorem new_lk (ga ha : Nat) (σ σ1 : Ar) (w : World) (H : ArAt w ga ha σ) (hh : ha < w.heap.size) (n : Nat) (n1 : 1 ≤ n) (n2 : n ≤ 32) (next : Int) (x1 : 1 ≤ next) (x2 : next ≤ 4096)
    (ht : σ.take (1 + 2 * (n : Int)) = ((next, 0), σ1)) (ho : σ1.ops ≤ 1000000) :
    Calls Tryz.prog 57 #[.pointer (some ⟨ga, 0, none⟩), .int .i64 (n : Int)] w fun e w' => ∃ gl hs, e = .returned (.tuple #[.pointer (some ⟨gl, 0, none⟩), .int .i64 0]) ∧ LkAt w' gl ga ha hs ⟨next⟩ σ1 (zeroS n) ∧ w.heap.size ≤ gl ∧ w.heap.size ≤ hs ∧ Mod [ga, ha] w w' := by
  have HT := take_any ga ha σ w H (1 + 2 * (n : Int))
  rw [ht] at HT
  replace HT := Lib.hid HT
  have hmk := fun W => make_spots n (by omega) W
  have hga := H.lt
  have i1 : (1 : Int) ≤ (n : Int) := by omega
  have i2 : (n : Int) ≤ 32 := by omega
  have e1 : IntKind.i64.wrap (2 * (n : Int)) = 2 * (n : Int) := IntWalk.i64_in _ (by omega)
  have e2 : IntKind.i64.wrap (1 + 2 * (n : Int)) = 1 + 2 * (n : Int) := IntWalk.i64_in _ (by omega)
  clear H ht ho
  go_enter Tryz.func57, Tryz.ntmps57
  go_wp2_with fail
  refine HT.out.mono ?_
  rintro e w2 ⟨rfl, h2, hm2⟩
  have H2 := Lib.hid h2
  clear h2
  have hz2 := hm2.size
  have hK : LkAt ((w2.alloc (.cells ((zeroS n).flatMap decSp).toArray 53)).alloc (.cells #[.pointer (some ⟨ga, 0, none⟩), .int .i64 next, .slice (some ⟨w2.heap.size, 0, none⟩) n n] 179)) (w2.heap.size + 1) ga ha w2.heap.size ⟨next⟩ σ1 (zeroS n) := by
    have hb := (below_new w2 (.cells ((zeroS n).flatMap decSp).toArray 53))
    have hb2 := below_new (w2.alloc (.cells ((zeroS n).flatMap decSp).toArray 53)) (.cells #[.pointer (some ⟨ga, 0, none⟩), .int .i64 next, .slice (some ⟨w2.heap.size, 0, none⟩) n n] 179)
    have hbl := blk_new (w2.alloc (.cells ((zeroS n).flatMap decSp).toArray 53)) (.cells #[.pointer (some ⟨ga, 0, none⟩), .int .i64 next, .slice (some ⟨w2.heap.size, 0, none⟩) n n] 179)
    have hzl : (zeroS n).length = n := by simp [zeroS]
    refine ⟨(H2.out.step hb).step hb2, (spAt_new w2 n).mod (S := []) (Mod.of_below hb2) (by simp), by omega, ⟨n, ?_⟩, by omega, by omega, by omega, by omega, by omega⟩
    rw [hzl]
    simpa using hbl
  have hmm : Mod [ga, ha] w ((w2.alloc (.cells ((zeroS n).flatMap decSp).toArray 53)).alloc (.cells #[.pointer (some ⟨ga, 0, none⟩), .int .i64 next, .slice (some ⟨w2.heap.size, 0, none⟩) n n] 179)) := (hm2.alloc _).alloc _
  have HK := Lib.hid hK
  clear H2 hm2 hK
  have e0 : (w2.alloc (.cells ((zeroS n).flatMap decSp).toArray 53)).heap.size = w2.heap.size + 1 := by simp
  go_wp2_with fail
  go_ret2
  exact ⟨w2.heap.size + 1, w2.heap.size, rfl, HK.out, by omega, hz2, hmm⟩
end Go.Proofs.YthffhhgaeolpgaaGreat.Mc

