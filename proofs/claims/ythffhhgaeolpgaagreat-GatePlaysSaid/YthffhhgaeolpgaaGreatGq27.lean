/- Merged texts: Fpl, Fpx, Rge. -/
import Derived.Test.YthffhhgaeolpgaaGreatGq26
set_option linter.unusedVariables false
/- Layer 20's law FlatPlays. -/
namespace Go.Proofs.YthffhhgaeolpgaaGreat.Fl
open Go.RowKit Go.Proofs.YthffhhgaeolpgaaGreat.Ara Go.Proofs.YthffhhgaeolpgaaGreat.Lok

theorem frame164 {a : Act} (h : a.tmps.size = 164) (hd : a.defers = []) : ∃ u : Nat → Value, a = { tmps := #[u 0, u 1, u 2, u 3, u 4, u 5, u 6, u 7, u 8, u 9, u 10, u 11, u 12, u 13, u 14, u 15, u 16, u 17, u 18, u 19, u 20, u 21, u 22, u 23, u 24, u 25, u 26, u 27, u 28, u 29, u 30, u 31, u 32, u 33, u 34, u 35, u 36, u 37, u 38, u 39, u 40, u 41, u 42, u 43, u 44, u 45, u 46, u 47, u 48, u 49, u 50, u 51, u 52, u 53, u 54, u 55, u 56, u 57, u 58, u 59, u 60, u 61, u 62, u 63, u 64, u 65, u 66, u 67, u 68, u 69, u 70, u 71, u 72, u 73, u 74, u 75, u 76, u 77, u 78, u 79, u 80, u 81, u 82, u 83, u 84, u 85, u 86, u 87, u 88, u 89, u 90, u 91, u 92, u 93, u 94, u 95, u 96, u 97, u 98, u 99, u 100, u 101, u 102, u 103, u 104, u 105, u 106, u 107, u 108, u 109, u 110, u 111, u 112, u 113, u 114, u 115, u 116, u 117, u 118, u 119, u 120, u 121, u 122, u 123, u 124, u 125, u 126, u 127, u 128, u 129, u 130, u 131, u 132, u 133, u 134, u 135, u 136, u 137, u 138, u 139, u 140, u 141, u 142, u 143, u 144, u 145, u 146, u 147, u 148, u 149, u 150, u 151, u 152, u 153, u 154, u 155, u 156, u 157, u 158, u 159, u 160, u 161, u 162, u 163], defers := [] } ∧ ∀ n, a.tmps.getD n undef = u n := by
  refine ⟨fun n => a.tmps.getD n undef, ?_, fun _ => rfl⟩
  have h1 := arr_lit a.tmps h
  cases a with
  | mk t d =>
    simp only at hd h1
    subst hd
    congr 1
theorem alk_fresh (m : Nat) : Alk (Ar.fresh m) ⟨m, [], 0, 0, 0, false⟩ := by
  refine ⟨?_, ?_, Nat.zero_le _, ?_, rfl, rfl, rfl, rfl⟩
  · simp [Ar.fresh, zerosW]
  · simp [Ar.fresh]
  · intro i _
    simp [Ar.fresh, zerosW, List.getD_eq_getElem?_getD, List.getElem?_replicate]
    split <;> rfl
theorem do_t (p : PK) (σ : Ar) (sp : List Sp) (kd i : Int) : (doK p σ sp kd i).2.1.t = σ.t := by
  have h : ∀ (kd p v : Int) (wr : Bool), (σ.op kd p wr v).t = σ.t := fun kd p v wr => op_t _ _ _ _ _
  have hs : (doK p σ sp 0 i).2.1.t = σ.t := by
    cases p with
    | tas P => show (Ta.stepP P σ sp i).2.1.t = _; unfold Ta.stepP; repeat' (first | rfl | exact h _ _ _ _ | split)
    | tic P => show (Tk.stepP P σ sp i).2.1.t = _; unfold Tk.stepP; repeat' (first | rfl | exact h _ _ _ _ | split)
    | par P => show (Pt.stepP P σ sp i).2.1.t = _; unfold Pt.stepP; repeat' (first | rfl | exact h _ _ _ _ | split)
    | mcs P => show (Mc.stepP P σ sp i).2.1.t = _; unfold Mc.stepP; repeat' (first | rfl | exact h _ _ _ _ | split)
    | clh P => show (Cl.stepP P σ sp i).2.1.t = _; unfold Cl.stepP; repeat' (first | rfl | exact h _ _ _ _ | split)
  have ha : (doK p σ sp 3 i).2.1.t = σ.t := by
    cases p with
    | tas P => rfl
    | tic P => show (Tk.aloneP P σ sp i).2.t = _; unfold Tk.aloneP; repeat' (first | rfl | exact h _ _ _ _ | split)
    | par P => show (Pt.aloneP P σ sp i).2.t = _; unfold Pt.aloneP; repeat' (first | rfl | exact h _ _ _ _ | split)
    | mcs P => show (Mc.aloneP P σ sp i).2.t = _; unfold Mc.aloneP; repeat' (first | rfl | exact h _ _ _ _ | split)
    | clh P => show (Cl.aloneP P σ sp i).2.t = _; unfold Cl.aloneP; repeat' (first | rfl | exact h _ _ _ _ | split)
  by_cases h0 : kd < 0 ∨ 3 < kd
  · rw [do_else p σ sp kd i h0]
  rcases (show kd = 0 ∨ kd = 1 ∨ kd = 2 ∨ kd = 3 by omega) with rfl | rfl | rfl | rfl
  · exact hs
  · cases p <;> rfl
  · cases p <;> rfl
  · exact ha
def Hi (x gf gl ga ha hs gK gL gr hr : Nat) : Prop := x < gf ∧ x < gl ∧ x < ga ∧ x < ha ∧ x < hs ∧ x < gK ∧ x < gL ∧ x < gr ∧ x < hr
theorem Kind_flat {gf gl ga ha hs : Nat} {p : PK} {σ : Ar} {sp : List Sp} {w : World} (K : FLAt w gf gl ga ha hs p σ sp) : Calls Tryz.prog 27 #[.pointer (some ⟨gf, 0, none⟩)] w fun e w' => e = .returned (.int .i64 p.num) ∧ w' = w := kind_yes gf p.num _ _ w K.fb p.num_ne
def FpJ (l : List Ac) (A : Option Addr) (cap N bx gf gl ga ha hs gK gL gr base hr : Nat) (p : PK) (n1 n2 n3 : Int) (w : World) (a : Act) (W : World) : Prop :=
  a.tmps.size = 164 ∧ a.defers = [] ∧ a.tmps.getD 1 undef = .slice A l.length cap ∧ a.tmps.getD 2 undef = .pointer (some ⟨bx, 0, none⟩) ∧ a.tmps.getD 5 undef = .pointer (some ⟨ga, 0, none⟩) ∧ a.tmps.getD 6 undef = .pointer (some ⟨gr, 0, none⟩) ∧ a.tmps.getD 7 undef = .pointer (some ⟨gf, 0, none⟩) ∧ a.tmps.getD 9 undef = .pointer (some ⟨gK, 0, none⟩) ∧
    ∃ (k : Nat) (σ : Ar) (ρ : Rf) (sp : List Sp), a.tmps.getD 11 undef = .int .i64 k ∧ k ≤ l.length ∧ Duo W gf gl ga ha hs gK gL gr base hr p σ ρ sp N k ∧ σ.t = sizeK n1 N n3 ∧ Below w.heap.size w W ∧
      W.cell? ⟨bx, 1, none⟩ = some (.int .i64 n1) ∧ W.cell? ⟨bx, 2, none⟩ = some (.int .i64 n2) ∧ W.cell? ⟨bx, 3, none⟩ = some (.int .i64 n3)
def FpI (l : List Ac) (A : Option Addr) (cap N bx gf gl ga ha hs gK gL gr base hr : Nat) (p : PK) (n1 n2 n3 : Int) (k : Nat) (σ : Ar) (ρ : Rf) (sp : List Sp) (w : World) (a : Act) (W : World) : Prop :=
  a.tmps.size = 164 ∧ a.defers = [] ∧ a.tmps.getD 1 undef = .slice A l.length cap ∧ a.tmps.getD 2 undef = .pointer (some ⟨bx, 0, none⟩) ∧ a.tmps.getD 5 undef = .pointer (some ⟨ga, 0, none⟩) ∧ a.tmps.getD 6 undef = .pointer (some ⟨gr, 0, none⟩) ∧ a.tmps.getD 7 undef = .pointer (some ⟨gf, 0, none⟩) ∧ a.tmps.getD 9 undef = .pointer (some ⟨gK, 0, none⟩) ∧ a.tmps.getD 11 undef = .int .i64 k ∧
    ∃ j : Nat, a.tmps.getD 12 undef = .int .i64 ((j : Int) - 1) ∧ j ≤ N + 2 ∧ Duo W gf gl ga ha hs gK gL gr base hr p σ ρ sp N (k + 1) ∧ Below w.heap.size w W ∧
      W.cell? ⟨bx, 1, none⟩ = some (.int .i64 n1) ∧ W.cell? ⟨bx, 2, none⟩ = some (.int .i64 n2) ∧ W.cell? ⟨bx, 3, none⟩ = some (.int .i64 n3)
set_option maxHeartbeats 4000000 in
set_option maxRecDepth 100000 in
theorem plays_ok (n0 n1 n3 : Int) (N : Nat) (hM : mayK n1 N n3) (hr0 : sizeK n1 N n3 ≤ room n0) (l : List Ac) (A : Option Addr) (cap : Nat) (w : World) (hl : l.length ≤ 100) (hs : Sl w w.heap.size A (l.flatMap decAc)) :
    Calls Tryz.prog 3 #[.agg #[.int .i64 n0, .int .i64 n1, .int .i64 (N : Int), .int .i64 n3], .slice A l.length cap] w fun e w' => e = .returned (.bool true) ∧ Below w.heap.size w w' := by
  have i1 : ¬ (100 : Int) < (l.length : Int) := by omega
  have hN2 : N ≤ 32 := hM.2.1.2
  have HM := Lib.hid hM
  have HSl := Lib.hid hs
  have hfl : (Ar.fresh (room n0)).ws.length = room n0 := by simp [Ar.fresh, zerosW]
  have HFL := Lib.hid hfl
  have hrm : room n0 ≤ 4096 := by unfold room; split; omega; split <;> omega
  have hnum : (pkK n1 n3 ((Ar.fresh (room n0)).t + 1)).num = n1 := by
    obtain ⟨⟨k1, k5⟩, _⟩ := hM
    unfold pkK
    rcases (show n1 = 1 ∨ n1 = 2 ∨ n1 = 3 ∨ n1 = 4 ∨ n1 = 5 by omega) with rfl | rfl | rfl | rfl | rfl <;> rfl
  have HNUM := Lib.hid hnum
  clear hM hs hfl hnum
  obtain ⟨n2, hn2⟩ : ∃ n2 : Int, n2 = (N : Int) := ⟨_, rfl⟩
  rw [← hn2]
  replace hn2 := Lib.hid hn2
  have hbx := blk_new w (.cells #[.int .i64 n0, .int .i64 n1, .int .i64 n2, .int .i64 n3] 22)
  have q0 := blk_cell hbx 0 (by simp)
  have q1 := blk_cell hbx 1 (by simp)
  have q2 := blk_cell hbx 2 (by simp)
  have q3 := blk_cell hbx 3 (by simp)
  simp only [List.getElem_toArray, List.getElem_cons_zero, List.getElem_cons_succ] at q0 q1 q2 q3
  have hB0 := Lib.hid (below_new w (.cells #[.int .i64 n0, .int .i64 n1, .int .i64 n2, .int .i64 n3] 22))
  have hz0 : (w.alloc (.cells #[.int .i64 n0, .int .i64 n1, .int .i64 n2, .int .i64 n3] 22)).heap.size = w.heap.size + 1 := by simp
  clear hbx
  go_enter Tryz.func3, Tryz.ntmps3
  go_wp2_with fail
  go_region_held3 (fun V => V.cell? ⟨w.heap.size, 0, none⟩ = some (.int .i64 n0) ∧ V.cell? ⟨w.heap.size, 1, none⟩ = some (.int .i64 n1) ∧ V.cell? ⟨w.heap.size, 2, none⟩ = some (.int .i64 n2) ∧ V.cell? ⟨w.heap.size, 3, none⟩ = some (.int .i64 n3))
    (first | exact ⟨q0, q1, q2, q3⟩ | exact k1 | exact k2)
    (first
      | (go_at_call 10; refine (new_in n0 _).mono ?_; rintro e w1 ⟨rfl, hat, hz1, hb1⟩; have k1 := And.intro (keep1 hb1 (show ((w.alloc (.cells #[.int .i64 n0, .int .i64 n1, .int .i64 n2, .int .i64 n3] 22)).drewN 1).cell? _ = _ from q0)) (And.intro (keep1 hb1 (show ((w.alloc (.cells #[.int .i64 n0, .int .i64 n1, .int .i64 n2, .int .i64 n3] 22)).drewN 1).cell? _ = _ from q1)) (And.intro (keep1 hb1 (show ((w.alloc (.cells #[.int .i64 n0, .int .i64 n1, .int .i64 n2, .int .i64 n3] 22)).drewN 1).cell? _ = _ from q2)) (keep1 hb1 (show ((w.alloc (.cells #[.int .i64 n0, .int .i64 n1, .int .i64 n2, .int .i64 n3] 22)).drewN 1).cell? _ = _ from q3)))))
      | (go_at_call 11; refine (rnew_any n0 _).mono ?_; rintro e w2 ⟨rfl, hr, hz2, hb2⟩; have k2 := And.intro (keep1 hb2 k1.1) (And.intro (keep1 hb2 k1.2.1) (And.intro (keep1 hb2 k1.2.2.1) (keep1 hb2 k1.2.2.2)))))
  have hzd : (w.alloc (.cells #[.int .i64 n0, .int .i64 n1, .int .i64 n2, .int .i64 n3] 22)).drew.heap.size = w.heap.size + 1 := hz0
  have hBd : Below w.heap.size w (w.alloc (.cells #[.int .i64 n0, .int .i64 n1, .int .i64 n2, .int .i64 n3] 22)).drew := Below.drew hB0.out
  rw [hzd] at hat hz1 hb1
  have hB1 : Below w.heap.size w w1 := hBd.trans (hb1.mono (by omega))
  have hz1' : w1.heap.size = w.heap.size + 3 := by omega
  rw [hz1'] at hr hz2 hb2
  have HA := Lib.hid (show ArAt w2 (w.heap.size + 2) (w.heap.size + 1) (Ar.fresh (room n0)) from hat.step (by rw [hz1']; exact hb2))
  have HR := Lib.hid (show RfAt w2 (w.heap.size + 3) (w.heap.size + 4) ⟨room n0, [], 0, 0, 0, false⟩ from hr)
  have HB := Lib.hid (hB1.trans (hb2.mono (by omega)))
  have hz : w2.heap.size = w.heap.size + 4 := by omega
  obtain ⟨c0, c1, c2, c3⟩ := k2
  clear hat hr hB0 hB1 hBd hb1 hb2 hz2 hz1 hzd hz0 hz1' k1 q0 q1 q2 q3
  go_wp2_with fail
  have HN := Lib.hid (new_flat n1 N n3 HM.out _ _ _ w2 HA.out (by omega) (by rw [HFL.out]; show 0 + _ ≤ _; omega) (by rw [HFL.out]; exact hrm) (by show 0 ≤ _; omega))
  have HO := Lib.hid (ok_flat n1 N n3 HM.out (Ar.fresh (room n0)) (fun k _ => zeros_getD _ _) (by rw [HFL.out]; show 0 + _ ≤ _; omega) (by rw [HFL.out]; exact hrm) 0 (Nat.le_refl _))
  rw [← hn2.out] at HN
  refine HN.out.mono ?_
  rintro e w3 ⟨gf, gl, hsp, rfl, hk, ⟨b1, b2, b3⟩, hm3⟩
  have d0 := keepM hm3 c0 (by simp)
  have d1 := keepM hm3 c1 (by simp)
  have d2 := keepM hm3 c2 (by simp)
  have d3 := keepM hm3 c3 (by simp)
  have HR3 := Lib.hid (rf_low HR.out hm3 (by simp))
  have HB3 := Lib.hid (HB.out.trans (hm3.below (by omega) (by simp)))
  have hz3 := hm3.size
  have HK := Lib.hid hk
  have hT1 := first_t n1 N n3 ((Ar.fresh (room n0)).t + 1) { Ar.fresh (room n0) with t := (Ar.fresh (room n0)).t + sizeK n1 N n3 }
  have HT1 := Lib.hid (hT1.trans (Nat.zero_add _))
  clear c0 c1 c2 c3 HR HB HA hm3 hk HN hT1
  have HRN := Lib.hid (rnew_flat n1 N n3 HM.out (w.heap.size + 3) (w.heap.size + 4) (Ar.fresh (room n0)) ⟨room n0, [], 0, 0, 0, false⟩ (alk_fresh (room n0)) w3 HR3.out (by omega) (by omega) (by rw [HFL.out]; show 0 + _ ≤ _; omega) (by rw [HFL.out]; exact hrm) (by show 0 < _; omega))
  rw [← hn2.out] at HRN
  generalize (firstK n1 N n3 ((Ar.fresh (room n0)).t + 1) { Ar.fresh (room n0) with t := (Ar.fresh (room n0)).t + sizeK n1 N n3 }) = fk at *
  obtain ⟨σ0, sp0⟩ := fk
  generalize pkK n1 n3 ((Ar.fresh (room n0)).t + 1) = p at *
  simp only at HK HO HRN HT1
  go_wp2_with fail
  refine HRN.out.mono ?_
  rintro e w4 ⟨ρ0, hal, gL, hr, rfl, hrl, ⟨r1, r2⟩, hm4⟩
  have c0 := keepR hm4 d0 (by simp) (by simp)
  have c1 := keepR hm4 d1 (by simp) (by simp)
  have c2 := keepR hm4 d2 (by simp) (by simp)
  have c3 := keepR hm4 d3 (by simp) (by simp)
  have HB4 := Lib.hid (RMs.below HB3.out hm4 (by omega) (by omega) (by simp))
  have hz4 := hm4.size
  obtain ⟨t1, t2, t3, t4⟩ := HK.out.blocks
  have HD := Lib.hid (show Duo w4 gf gl (w.heap.size + 2) (w.heap.size + 1) hsp w3.heap.size gL (w.heap.size + 3) (w.heap.size + 4) hr p σ0 ρ0 sp0 N 0 from ⟨HO.out, hal, HK.out.rms hm4 (by simp; omega) (by simp; omega) (by simp) (by simp) (by simp; omega), hrl, by intro x hx; simp at hx; omega⟩)
  have HHi : Hi w.heap.size gf gl (w.heap.size + 2) (w.heap.size + 1) hsp w3.heap.size gL (w.heap.size + 3) hr := by unfold Hi; omega
  replace HHi := Lib.hid HHi
  clear c0 d0 d1 d2 d3 HR3 HB3 hm4 HRN HO hal hrl HK
  have HSz := Lib.hid (fun W => psize_ok n1 N n3 HM.out W)
  have HRz := Lib.hid (fun W => rsize_ok n1 N n3 HM.out W)
  rw [← hn2.out] at HSz HRz
  have HDr := Lib.hid (fun W => pdoor n1 W)
  have HEr := Lib.hid (fun W => rdoor n1 W)
  generalize doorK n1 = dk at *
  have HAW := Lib.hid (fun W => awake20 W)
  go_wp2_with fail
  go_region_held3 (fun V => V.cell? ⟨w.heap.size, 1, none⟩ = some (.int .i64 n1) ∧ V.cell? ⟨w.heap.size, 2, none⟩ = some (.int .i64 n2) ∧ V.cell? ⟨w.heap.size, 3, none⟩ = some (.int .i64 n3))
    (first | exact ⟨c1, c2, c3⟩ | exact k1)
    (first
      | (go_at_call 14; refine (HSz.out _).mono ?_; rintro e w5 ⟨rfl, hb5⟩; have k1 := And.intro (keep1 hb5 (show (w4.drewN 1).cell? _ = _ from c1)) (And.intro (keep1 hb5 (show (w4.drewN 1).cell? _ = _ from c2)) (keep1 hb5 (show (w4.drewN 1).cell? _ = _ from c3))))
      | (go_at_call 15; refine (HRz.out _).mono ?_; rintro e wx ⟨rfl, hwx⟩; obtain rfl := hwx.symm)
      | (go_at_call 16; refine (HDr.out _).mono ?_; rintro e wx ⟨rfl, hwx⟩; obtain rfl := hwx.symm)
      | (go_at_call 17; refine (HEr.out _).mono ?_; rintro e wx ⟨rfl, hwx⟩; obtain rfl := hwx.symm))
  have HB5 := Lib.hid (HB4.out.trans ((Below.drew (Below.refl _ w4)).trans (hb5.mono (by show w.heap.size ≤ w4.heap.size; omega))))
  have HD5 := Lib.hid ((HD.out.drewN 1).same hb5)
  obtain ⟨e1, e2, e3⟩ := k1
  clear hb5 c1 c2 c3 HD HB4 HSz HDr HEr
  go_wp2_with fail
  generalize w3.heap.size = gK at *
  clear hz hz3 hz4 t1 t2 t3 t4 b1 b2 b3 r1 r2
  refine wp_loop (FpJ l A cap N w.heap.size gf gl (w.heap.size + 2) (w.heap.size + 1) hsp gK gL (w.heap.size + 3) (w.heap.size + 4) hr p n1 n2 n3 w) (fun a' _ => l.length - (intOf (a'.tmps.getD 11 undef)).toNat) ?_ ?_
  · exact ⟨rfl, rfl, rfl, rfl, rfl, rfl, rfl, rfl, 0, σ0, ρ0, sp0, rfl, Nat.zero_le _, HD5.out, HT1.out, HB5.out, e1, e2, e3⟩
  · clear HD5 HB5 e1 e2 e3 HT1
    rintro a' W ⟨hsz, hdf, s1, s2, s5, s6, s7, s9, k, σ, ρ, sp, s11, hk, hD, hT, hB, c1, c2, c3⟩
    obtain ⟨u, rfl, hu⟩ := frame164 hsz hdf
    rw [hu] at s1 s2 s5 s6 s7 s9 s11
    simp only [s1, s2, s5, s6, s7, s9, s11]
    clear hsz hdf s1 s2 s5 s6 s7 s9 s11 hu
    have hbs : w.heap.size < w.heap.size + 4 := by omega
    generalize w.heap.size + 2 = ga at *
    generalize w.heap.size + 1 = ha at *
    generalize w.heap.size + 3 = gr at *
    generalize w.heap.size + 4 = base at *
    have HD := Lib.hid hD
    have HB := Lib.hid hB
    have HT := Lib.hid hT
    have hBW := hB.size
    clear hD hT
    obtain ⟨x1, x2, x3, x4, x5, x6, x7, x8, x9⟩ := HHi.out
    by_cases hlt : k < l.length
    · obtain ⟨b, off, rfl, hbb, hcell⟩ := Sl_at (k := 2) (fun _ => rfl) (by omega) (HSl.out.below hB) (by omega)
      have d0 := hcell k hlt 0 (by omega)
      have d1 := hcell k hlt 1 (by omega)
      simp only [decAc, List.getElem?_cons_zero, List.getElem?_cons_succ, Nat.add_zero, ← Nat.add_assoc] at d0 d1
      clear hcell hB
      generalize l[k] = x at *
      obtain ⟨kd, i⟩ := x
      simp only at d0 d1
      have hsp1 := HD.out.ok
      have HDo := Lib.hid (do_flat gf gl ga ha hsp p σ sp W.drew (HD.out.drewN 1).fl N k HD.out.ok (by omega) kd i)
      have HO2 := Lib.hid (HD.out.ok.act kd i)
      have HDn := Lib.hid (fun W' (K : RFL W' gK gL gr base hr p ρ sp) => rdone K HD.out.al N k HD.out.ok (by omega) kd i)
      have hdt := do_t p σ sp kd i
      obtain ⟨r, hr'⟩ : ∃ r, doK p σ sp kd i = r := ⟨_, rfl⟩
      rw [hr'] at HDo HO2 HDn hdt
      clear hr' hsp1
      obtain ⟨rb, σ2, sp2⟩ := r
      simp only at HDo HO2 HDn hdt
      have HDT := Lib.hid (hdt.trans HT.out)
      clear hdt
      have i2 : (k : Int) < (l.length : Int) := by omega
      go_wp2_with fail
      refine wp_region_held_drew (S := fun V => V.cell? ⟨b, off + k * 2, none⟩ = some (.int .i64 kd) ∧ V.cell? ⟨b, off + k * 2 + 1, none⟩ = some (.int .i64 i)) (by kernel_rfl) ⟨d0, d1⟩ (fun hHeld => ?_)
      refine take_to 0 (some 90) (v := ?_) rfl rfl (by kernel_rfl) (by kernel_rfl) (by kernel_rfl) (fun _ _ _ h => h) (Or.inl ⟨by rfl, ?_⟩) (by first | trivial | assumption) ?_
      rotate_left
      focus (intro w hSw; (try dsimp only at hSw); go_simp; (try with_reducible rfl))
      simp only [Act.put, List.setIfInBounds_toArray, List.set_cons_zero, List.set_cons_succ]
      refine take_to 1 (some 91) (v := ?_) rfl rfl (by kernel_rfl) (by kernel_rfl) (by kernel_rfl) (fun _ _ _ h => h) (Or.inl ⟨by rfl, ?_⟩) (by first | trivial | assumption) ?_
      rotate_left
      focus (intro w hSw; (try dsimp only at hSw); go_simp; (try with_reducible rfl))
      simp only [Act.put, List.setIfInBounds_toArray, List.set_cons_zero, List.set_cons_succ]
      refine take_to 2 (some 92) (v := ?_) rfl rfl (by kernel_rfl) (by kernel_rfl) (by kernel_rfl) (fun _ _ _ h => h) (Or.inl ⟨by rfl, ?_⟩) (by first | trivial | assumption) ?_
      rotate_left
      focus (intro w hSw; (try dsimp only at hSw); go_simp; (try with_reducible rfl))
      simp only [Act.put, List.setIfInBounds_toArray, List.set_cons_zero, List.set_cons_succ]
      refine take_to 3 (some 93) (v := ?_) rfl rfl (by kernel_rfl) (by kernel_rfl) (by kernel_rfl) (fun _ _ _ h => h) (Or.inl ⟨by rfl, ?_⟩) (by first | trivial | assumption) ?_
      rotate_left
      focus (intro w hSw; (try dsimp only at hSw); go_simp; (try with_reducible rfl))
      simp only [Act.put, List.setIfInBounds_toArray, List.set_cons_zero, List.set_cons_succ]
      refine take_to 4 (some 94) (v := ?_) rfl rfl (by kernel_rfl) (by kernel_rfl) (by kernel_rfl) (fun _ _ _ h => h) (Or.inl ⟨by rfl, ?_⟩) (by first | trivial | assumption) ?_
      rotate_left
      focus (intro w hSw; (try dsimp only at hSw); go_simp; (try with_reducible rfl))
      simp only [Act.put, List.setIfInBounds_toArray, List.set_cons_zero, List.set_cons_succ]
      refine take_to 6 (some 96) (v := ?_) rfl rfl (by kernel_rfl) (by kernel_rfl) (by kernel_rfl) (fun _ _ _ h => h) (Or.inl ⟨by rfl, ?_⟩) (by first | trivial | assumption) ?_
      rotate_left
      focus (intro w hSw; (try dsimp only at hSw); go_simp; (try with_reducible rfl))
      simp only [Act.put, List.setIfInBounds_toArray, List.set_cons_zero, List.set_cons_succ]
      refine take_to 7 (some 97) (v := ?_) rfl rfl (by kernel_rfl) (by kernel_rfl) (by kernel_rfl) (fun _ _ _ h => h) (Or.inl ⟨by rfl, ?_⟩) (by first | trivial | assumption) ?_
      rotate_left
      focus (intro w hSw; (try dsimp only at hSw); go_simp; (try with_reducible rfl))
      simp only [Act.put, List.setIfInBounds_toArray, List.set_cons_zero, List.set_cons_succ]
      refine take_to 8 (some 98) (v := ?_) rfl rfl (by kernel_rfl) (by kernel_rfl) (by kernel_rfl) (fun _ _ _ h => h) (Or.inl ⟨by rfl, ?_⟩) (by first | trivial | assumption) ?_
      rotate_left
      focus (intro w hSw; (try dsimp only at hSw); go_simp; (try with_reducible rfl))
      simp only [Act.put, List.setIfInBounds_toArray, List.set_cons_zero, List.set_cons_succ]
      refine take_to 9 (some 99) (v := ?_) rfl rfl (by kernel_rfl) (by kernel_rfl) (by kernel_rfl) (fun _ _ _ h => h) (Or.inl ⟨by rfl, ?_⟩) (by first | trivial | assumption) ?_
      rotate_left
      focus (intro w hSw; (try dsimp only at hSw); go_simp; (try with_reducible rfl))
      simp only [Act.put, List.setIfInBounds_toArray, List.set_cons_zero, List.set_cons_succ]
      refine take_to 10 (some 100) (v := ?_) rfl rfl (by kernel_rfl) (by kernel_rfl) (by kernel_rfl) (fun _ _ _ h => h) (Or.inl ⟨by rfl, ?_⟩) (by first | trivial | assumption) ?_
      rotate_left
      focus (intro w hSw; (try dsimp only at hSw); go_simp; (try with_reducible rfl))
      simp only [Act.put, List.setIfInBounds_toArray, List.set_cons_zero, List.set_cons_succ]
      refine wpAnyH_ready (rs := [5]) (by kernel_rfl) (by simp) ?_
      refine AllReadyH.cons rfl (fun K hK => ?_) AllReadyH.nil
      go_simp
      refine HDo.out.mono ?_
      rintro e w6 ⟨rfl, hf6, hm6⟩
      have HR6 := Lib.hid ((HD.out.drewN 1).prog hf6 hm6)
      have HF6 := Lib.hid hf6
      have hh6 := And.intro (keepM hm6 hHeld.1 (by simp; omega)) (keepM hm6 hHeld.2 (by simp; omega))
      have HM6 := Lib.hid hm6
      clear hf6 hm6
      go_simp
      refine hK.out _ _ hh6 (fun hHeld => ?_)
      refine wpAnyH_ready (rs := [11]) (by kernel_rfl) (by simp) ?_
      refine AllReadyH.cons rfl (fun K hK => ?_) AllReadyH.nil
      go_simp
      refine (HDn.out _ HR6.out).mono ?_
      rintro e w7 ⟨rfl, ⟨ρ2, hal, hl7⟩, hm7⟩
      simp only at hal hl7
      have HD7 := Lib.hid (Duo.both (σ := σ) (sp := sp) HO2.out HD.out.ap HF6.out hal hl7 hm7)
      have HB7 := Lib.hid (RMs.below (((HB.out.trans (Below.drew (Below.refl _ W))).trans (HM6.out.below (by exact hBW) (by simp; omega)))) hm7 (Nat.le_trans hBW (HM6.out.size)) (Nat.le_of_lt hbs) (by simp; omega))
      have hh7 := And.intro (keepR hm7 hh6.1 (by simp; omega) (by simp; omega)) (keepR hm7 hh6.2 (by simp; omega) (by simp; omega))
      have e1 := keepR hm7 (keepM HM6.out (show W.drew.cell? _ = _ from c1) (by simp; omega)) (by simp; omega) (by simp; omega)
      have e2 := keepR hm7 (keepM HM6.out (show W.drew.cell? _ = _ from c2) (by simp; omega)) (by simp; omega) (by simp; omega)
      have e3 := keepR hm7 (keepM HM6.out (show W.drew.cell? _ = _ from c3) (by simp; omega)) (by simp; omega) (by simp; omega)
      have hz7 := HB7.out.size
      obtain ⟨Aq, cq, _, q1, q2, _, _, _, _, _, _, hown⟩ := HD7.out.rl.at_.facts.1.slot
      rw [hal.len] at q1
      rw [hal.2.2.2.2.1] at q2
      have HRw := Lib.hid (show Rw base w7 Aq cq σ2.t (σ2.ws.take σ2.t) from by have h := hown; rw [hal.len] at h; rw [← hal.2.1]; exact h)
      have HTk := Lib.hid (show (σ2.ws.take σ2.t).length = σ2.t from by rw [List.length_take]; have := hal.2.2.1; omega)
      have HLe := Lib.hid (show σ2.t ≤ 4096 from Nat.le_trans hal.2.2.1 HD7.out.fl.at_.facts.1.2.1)
      clear hm7 hl7 hown hal HR6 HF6 HM6 HDn HDo c1 c2 c3 hh6 d0 d1
      go_simp
      refine hK.out _ _ hh7 (fun hHeld => ?_)
      refine held_weaken (S' := fun V => (V.cell? ⟨b, off + k * 2, none⟩ = some (.int .i64 kd) ∧ V.cell? ⟨b, off + k * 2 + 1, none⟩ = some (.int .i64 i)) ∧ V.cell? ⟨gr, 1, none⟩ = some (.slice Aq σ2.t cq) ∧ V.cell? ⟨gr, 2, none⟩ = some (.int .i64 σ2.ops)) (fun _ h => h.1) _ _ _ _ ?_
      have hHS := And.intro hh7 (And.intro q1 q2)
      refine take_to 12 (some 102) (v := ?_) rfl rfl (by kernel_rfl) (by kernel_rfl) (by kernel_rfl) (fun _ _ _ h => h) (Or.inl ⟨by rfl, ?_⟩) (by first | trivial | assumption) ?_
      rotate_left
      focus (intro w hSw; (try dsimp only at hSw); go_simp; (try with_reducible rfl))
      simp only [Act.put, List.setIfInBounds_toArray, List.set_cons_zero, List.set_cons_succ]
      refine take_to 13 (some 103) (v := ?_) rfl rfl (by kernel_rfl) (by kernel_rfl) (by kernel_rfl) (fun _ _ _ h => h) (Or.inl ⟨by rfl, ?_⟩) (by first | trivial | assumption) ?_
      rotate_left
      focus (intro w hSw; (try dsimp only at hSw); go_simp; (try with_reducible rfl))
      simp only [Act.put, List.setIfInBounds_toArray, List.set_cons_zero, List.set_cons_succ]
      refine take_to 14 (some 104) (v := ?_) rfl rfl (by kernel_rfl) (by kernel_rfl) (by kernel_rfl) (fun _ _ _ h => h) (Or.inl ⟨by rfl, ?_⟩) (by first | trivial | assumption) ?_
      rotate_left
      focus (intro w hSw; (try dsimp only at hSw); go_simp; (try with_reducible rfl))
      simp only [Act.put, List.setIfInBounds_toArray, List.set_cons_zero, List.set_cons_succ]
      refine take_to 16 (some 106) (v := ?_) rfl rfl (by kernel_rfl) (by kernel_rfl) (by kernel_rfl) (fun _ _ _ h => h) (Or.inl ⟨by rfl, ?_⟩) (by first | trivial | assumption) ?_
      rotate_left
      focus (intro w hSw; (try dsimp only at hSw); go_simp; (try with_reducible rfl))
      simp only [Act.put, List.setIfInBounds_toArray, List.set_cons_zero, List.set_cons_succ]
      refine take_to 17 (some 107) (v := ?_) rfl rfl (by kernel_rfl) (by kernel_rfl) (by kernel_rfl) (fun _ _ _ h => h) (Or.inl ⟨by rfl, ?_⟩) (by first | trivial | assumption) ?_
      rotate_left
      focus (intro w hSw; (try dsimp only at hSw); go_simp; (try with_reducible rfl))
      simp only [Act.put, List.setIfInBounds_toArray, List.set_cons_zero, List.set_cons_succ]
      refine take_to 18 (some 108) (v := ?_) rfl rfl (by kernel_rfl) (by kernel_rfl) (by kernel_rfl) (fun _ _ _ h => h) (Or.inl ⟨by rfl, ?_⟩) (by first | trivial | assumption) ?_
      rotate_left
      focus (intro w hSw; (try dsimp only at hSw); go_simp; (try with_reducible rfl))
      simp only [Act.put, List.setIfInBounds_toArray, List.set_cons_zero, List.set_cons_succ]
      refine take_to 19 (some 109) (v := ?_) rfl rfl (by kernel_rfl) (by kernel_rfl) (by kernel_rfl) (fun _ _ _ h => h) (Or.inl ⟨by rfl, ?_⟩) (by first | trivial | assumption) ?_
      rotate_left
      focus (intro w hSw; (try dsimp only at hSw); go_simp; (try with_reducible rfl))
      simp only [Act.put, List.setIfInBounds_toArray, List.set_cons_zero, List.set_cons_succ]
      refine wpAnyH_ready (rs := [15]) (by kernel_rfl) (by simp) ?_
      refine AllReadyH.cons rfl (fun K hK => ?_) AllReadyH.nil
      go_simp
      refine (words_ar _ _ σ2 _ HD7.out.fl.at_.facts.1).mono ?_
      rintro e w8 ⟨A8, c8, rfl, hs8, hb8⟩
      have hh8 := And.intro (And.intro (keep1 hb8 hh7.1) (keep1 hb8 hh7.2)) (And.intro (keep1 hb8 q1) (keep1 hb8 q2))
      go_simp
      refine hK.out _ _ hh8 (fun hHeld => ?_)
      refine wpAnyH_ready (rs := [20]) (by kernel_rfl) (by simp) ?_
      refine AllReadyH.cons rfl (fun K hK => ?_) AllReadyH.nil
      go_simp
      refine (same_tt (σ2.ws.take σ2.t) A8 Aq c8 cq σ2.t _ HTk.out HLe.out hs8 (HRw.out.same hb8).sl).mono ?_
      rintro e w9 ⟨rfl, hb9⟩
      have hh9 := And.intro (And.intro (keep1 hb9 hh8.1.1) (keep1 hb9 hh8.1.2)) (And.intro (keep1 hb9 hh8.2.1) (keep1 hb9 hh8.2.2))
      have HD9 := Lib.hid ((HD7.out.same hb8).same hb9)
      have HB9 := Lib.hid ((HB7.out.trans (hb8.mono hz7)).trans (hb9.mono (Nat.le_trans hz7 hb8.size)))
      replace e1 := keep1 hb9 (keep1 hb8 e1)
      replace e2 := keep1 hb9 (keep1 hb8 e2)
      replace e3 := keep1 hb9 (keep1 hb8 e3)
      clear hs8 hb8 hb9 hh8 hHS q1 q2 hh7 HRw HTk HLe
      go_simp
      refine hK.out _ _ hh9 (fun hHeld => ?_)
      refine take_to 21 (some 111) (v := ?_) rfl rfl (by kernel_rfl) (by kernel_rfl) (by kernel_rfl) (fun _ _ _ h => h) (Or.inl ⟨by rfl, ?_⟩) (by first | trivial | assumption) ?_
      rotate_left
      focus (intro w hSw; (try dsimp only at hSw); go_simp; (try with_reducible rfl))
      simp only [Act.put, List.setIfInBounds_toArray, List.set_cons_zero, List.set_cons_succ]
      refine take_to 22 (some 112) (v := ?_) rfl rfl (by kernel_rfl) (by kernel_rfl) (by kernel_rfl) (fun _ _ _ h => h) (Or.inl ⟨by rfl, ?_⟩) (by first | trivial | assumption) ?_
      rotate_left
      focus (intro w hSw; (try dsimp only at hSw); go_simp; (try with_reducible rfl))
      simp only [Act.put, List.setIfInBounds_toArray, List.set_cons_zero, List.set_cons_succ]
      refine take_to 23 (some 113) (v := ?_) rfl rfl (by kernel_rfl) (by kernel_rfl) (by kernel_rfl) (fun _ _ _ h => h) (Or.inl ⟨by rfl, ?_⟩) (by first | trivial | assumption) ?_
      rotate_left
      focus (intro w hSw; (try dsimp only at hSw); go_simp; (try with_reducible rfl))
      simp only [Act.put, List.setIfInBounds_toArray, List.set_cons_zero, List.set_cons_succ]
      refine take_to 24 (some 114) (v := ?_) rfl rfl (by kernel_rfl) (by kernel_rfl) (by kernel_rfl) (fun _ _ _ h => h) (Or.inl ⟨by rfl, ?_⟩) (by first | trivial | assumption) ?_
      rotate_left
      focus (intro w hSw; (try dsimp only at hSw); go_simp; (try with_reducible rfl))
      simp only [Act.put, List.setIfInBounds_toArray, List.set_cons_zero, List.set_cons_succ]
      refine take_to 26 (some 116) (v := ?_) rfl rfl (by kernel_rfl) (by kernel_rfl) (by kernel_rfl) (fun _ _ _ h => h) (Or.inl ⟨by rfl, ?_⟩) (by first | trivial | assumption) ?_
      rotate_left
      focus (intro w hSw; (try dsimp only at hSw); go_simp; (try with_reducible rfl))
      simp only [Act.put, List.setIfInBounds_toArray, List.set_cons_zero, List.set_cons_succ]
      refine take_to 27 (some 117) (v := ?_) rfl rfl (by kernel_rfl) (by kernel_rfl) (by kernel_rfl) (fun _ _ _ h => h) (Or.inl ⟨by rfl, ?_⟩) (by first | trivial | assumption) ?_
      rotate_left
      focus (intro w hSw; (try dsimp only at hSw); go_simp; (try with_reducible rfl))
      simp only [Act.put, List.setIfInBounds_toArray, List.set_cons_zero, List.set_cons_succ]
      refine take_to 28 (some 118) (v := ?_) rfl rfl (by kernel_rfl) (by kernel_rfl) (by kernel_rfl) (fun _ _ _ h => h) (Or.inl ⟨by rfl, ?_⟩) (by first | trivial | assumption) ?_
      rotate_left
      focus (intro w hSw; (try dsimp only at hSw); go_simp; (try with_reducible rfl))
      simp only [Act.put, List.setIfInBounds_toArray, List.set_cons_zero, List.set_cons_succ]
      refine take_to 29 (some 119) (v := ?_) rfl rfl (by kernel_rfl) (by kernel_rfl) (by kernel_rfl) (fun _ _ _ h => h) (Or.inl ⟨by rfl, ?_⟩) (by first | trivial | assumption) ?_
      rotate_left
      focus (intro w hSw; (try dsimp only at hSw); go_simp; (try with_reducible rfl))
      simp only [Act.put, List.setIfInBounds_toArray, List.set_cons_zero, List.set_cons_succ]
      refine wpAnyH_ready (rs := [25]) (by kernel_rfl) (by simp) ?_
      refine AllReadyH.cons rfl (fun K hK => ?_) AllReadyH.nil
      go_simp
      refine (ops_any _ _ σ2 _ HD9.out.fl.at_.facts.1).mono ?_
      rintro e wx ⟨rfl, hwx⟩
      obtain rfl := hwx.symm
      go_simp
      refine hK.out _ _ hh9 (fun hHeld => ?_)
      refine take_to 30 (some 120) (v := ?_) rfl rfl (by kernel_rfl) (by kernel_rfl) (by kernel_rfl) (fun _ _ _ h => h) (Or.inl ⟨by rfl, ?_⟩) (by first | trivial | assumption) ?_
      rotate_left
      focus (intro w hSw; (try dsimp only at hSw); go_simp; (try with_reducible rfl))
      simp only [Act.put, List.setIfInBounds_toArray, List.set_cons_zero, List.set_cons_succ]
      refine take_to 31 (some 121) (v := ?_) rfl rfl (by kernel_rfl) (by kernel_rfl) (by kernel_rfl) (fun _ _ _ h => h) (Or.inl ⟨by rfl, ?_⟩) (by first | trivial | assumption) ?_
      rotate_left
      focus (intro w hSw; (try dsimp only at hSw); go_simp; (try with_reducible rfl))
      simp only [Act.put, List.setIfInBounds_toArray, List.set_cons_zero, List.set_cons_succ]
      refine wpAnyH_done (by kernel_rfl) ?_ _
      have HLN := Lib.hid (show sp2.length = N from HD9.out.ok.len)
      clear hh9 HD7 HB7 HD HB hz7 hBW HO2 hbb
      go_wp2_with fail
      refine wp_loop (FpI l (some ⟨b, off, none⟩) cap N w.heap.size gf gl ga ha hsp gK gL gr base hr p n1 n2 n3 k σ2 ρ2 sp2 w) (fun a' _ => ((N : Int) + 1 - intOf (a'.tmps.getD 12 undef)).toNat) ?_ ?_
      · exact ⟨rfl, rfl, rfl, rfl, rfl, rfl, rfl, rfl, rfl, 0, rfl, Nat.zero_le _, HD9.out, HB9.out, e1, e2, e3⟩
      · clear HD9 HB9 e1 e2 e3
        rintro a' W4 ⟨hsz, hdf, s1, s2, s5, s6, s7, s9, s11, j, s12, hj, hD, hB, c1, c2, c3⟩
        obtain ⟨u, rfl, hu⟩ := frame164 hsz hdf
        rw [hu] at s1 s2 s5 s6 s7 s9 s11 s12
        simp only [s1, s2, s5, s6, s7, s9, s11, s12]
        clear hsz hdf s1 s2 s5 s6 s7 s9 s11 s12 hu
        have HD := Lib.hid hD
        have HB := Lib.hid hB
        have hBW := hB.size
        have HSp := Lib.hid (rSpots hD.rl)
        clear hD hB
        by_cases hjl : j ≤ N + 1
        · have i3 : (j : Int) - 1 ≤ (sp2.length : Int) := by rw [HLN.out]; omega
          have HP1 := Lib.hid (Spot_flat HD.out.fl ((j : Int) - 1))
          have HP2 := Lib.hid (fun W5 (h : Below W4.heap.size W4 W5) => rSpot (HD.out.rl.same h) ((j : Int) - 1))
          have q1 := fun a b c d W => neSp a b c d W
          have q2 := fun x y xs ys W => neGSp x y xs ys W
          have g1 : IntKind.i64.wrap ((j : Int) - 1 + 1) = (j : Int) := by rw [IntWalk.i64_in _ (by omega)]; omega
          have g2 : IntKind.i64.wrap (j : Int) = (j : Int) := IntWalk.i64_in _ (by omega)
          generalize spOf sp2 ((j : Int) - 1) = s at *
          obtain ⟨xp, xa, xb, xc⟩ := s
          simp only at HP1 HP2
          go_wp2_with fail
          refine HSp.out.mono ?_
          rintro e wx ⟨⟨cx, rfl⟩, hwx⟩
          obtain rfl := hwx.symm
          go_wp2_with fail
          refine HP1.out.mono ?_
          rintro e w5 ⟨rfl, hb5⟩
          replace c1 := keep1 hb5 c1
          replace c2 := keep1 hb5 c2
          replace c3 := keep1 hb5 c3
          have HP3 := Lib.hid (HP2.out _ hb5)
          have HD5 := Lib.hid (HD.out.same hb5)
          have HB5 := Lib.hid (HB.out.trans (hb5.mono hBW))
          clear HP2 HP1 hb5
          go_wp2_with fail
          refine HP3.out.mono ?_
          rintro e w6 ⟨rfl, hb6⟩
          replace c1 := keep1 hb6 c1
          replace c2 := keep1 hb6 c2
          replace c3 := keep1 hb6 c3
          have HD6 := Lib.hid (HD5.out.same hb6)
          have HB6 := Lib.hid (HB5.out.trans (hb6.mono HB5.out.size))
          clear HP3 hb6 HD5 HB5 HD HB
          go_wp2_with fail
          exact ⟨⟨rfl, rfl, rfl, rfl, rfl, rfl, rfl, rfl, rfl, j + 1, by simp, by omega, HD6.out, HB6.out, c1, c2, c3⟩, by simp [intOf] <;> omega⟩
        · have i3 : ¬ (j : Int) - 1 ≤ (sp2.length : Int) := by rw [HLN.out]; omega
          go_wp2_with fail
          refine HSp.out.mono ?_
          rintro e wx ⟨⟨cx, rfl⟩, hwx⟩
          obtain rfl := hwx.symm
          go_wp2_with fail
          exact ⟨⟨rfl, rfl, rfl, rfl, rfl, rfl, rfl, rfl, k + 1, σ2, ρ2, sp2, rfl, hlt, HD.out, HDT.out, HB.out, c1, c2, c3⟩, by simp [intOf]; omega⟩
    · have i2 : ¬ (k : Int) < (l.length : Int) := by omega
      obtain rfl : k = l.length := by omega
      have HS1 := Lib.hid (Slots_flat (HD.out.drewN 1).fl)
      have HS2 := Lib.hid (rSpots (HD.out.drewN 1).rl)
      have HKd := Lib.hid (Kind_flat (HD.out.drewN 1).fl)
      have HLn := Lib.hid (len_any _ _ σ _ (HD.out.drewN 1).fl.at_.facts.1)
      rw [HNUM.out] at HKd
      rw [HT.out] at HLn
      clear hB i2
      go_wp2_with fail
      go_region_held3 (fun V => V.cell? ⟨w.heap.size, 1, none⟩ = some (.int .i64 n1) ∧ V.cell? ⟨w.heap.size, 2, none⟩ = some (.int .i64 n2) ∧ V.cell? ⟨w.heap.size, 3, none⟩ = some (.int .i64 n3))
        (first | exact ⟨c1, c2, c3⟩ | exact k1)
        (first
          | (go_at_call 26; refine HS1.out.mono ?_; rintro e wx ⟨rfl, hwx⟩; obtain rfl := hwx.symm)
          | (go_at_call 23; refine HS2.out.mono ?_; rintro e wx ⟨⟨cx, rfl⟩, hwx⟩; obtain rfl := hwx.symm)
          | (go_at_call 27; refine HKd.out.mono ?_; rintro e wx ⟨rfl, hwx⟩; obtain rfl := hwx.symm)
          | (go_at_call 28; refine HLn.out.mono ?_; rintro e wx ⟨rfl, hwx⟩; obtain rfl := hwx.symm)
          | (go_at_call 15; refine (HRz.out _).mono ?_; rintro e wx ⟨rfl, hwx⟩; obtain rfl := hwx.symm)
          | (go_at_call 9; refine (HAW.out _).mono ?_; rintro e w9 ⟨rfl, hb9⟩; have k1 := And.intro (keep1 hb9 (show (W.drewN 1).cell? _ = _ from c1)) (And.intro (keep1 hb9 (show (W.drewN 1).cell? _ = _ from c2)) (keep1 hb9 (show (W.drewN 1).cell? _ = _ from c3)))))
      have HB9 := Lib.hid (HB.out.trans ((Below.drew (Below.refl _ W)).trans (hb9.mono hBW)))
      clear k1 hb9 c1 c2 c3
      go_wp2_with fail
      go_ret
      exact ⟨rfl, HB9.out⟩
end Go.Proofs.YthffhhgaeolpgaaGreat.Fl

/- Layer 20's law FlatPlays, whole. -/
namespace Go.Proofs.YthffhhgaeolpgaaGreat.Fl
open Go.RowKit Go.Proofs.YthffhhgaeolpgaaGreat.Ara Go.Proofs.YthffhhgaeolpgaaGreat.Lok

theorem list4 {α : Type} {n : List α} (h : n.length = 4) : ∃ a b c d, n = [a, b, c, d] := by
  match n, h with
  | [a, b, c, d], _ => exact ⟨a, b, c, d, rfl⟩
instance (kind n par : Int) : Decidable (argsOk kind n par) := by unfold argsOk; exact inferInstance
theorem plays20 (n0 n1 n2 n3 : Int) (l : List Ac) (A : Option Addr) (cap : Nat) (w : World) (hl : l.length ≤ 100) (hs : Sl w w.heap.size A (l.flatMap decAc)) :
    Calls Tryz.prog 3 #[.agg #[.int .i64 n0, .int .i64 n1, .int .i64 n2, .int .i64 n3], .slice A l.length cap] w fun e w' => e = .returned (.bool true) ∧ Below w.heap.size w w' := by
  by_cases hk : 1 ≤ n1 ∧ n1 ≤ 5
  · by_cases ha : argsOk n1 n2 n3
    · obtain ⟨N, rfl⟩ := Int.eq_ofNat_of_zero_le (show 0 ≤ n2 by have := ha.1; omega)
      have hM := may_of hk ha
      by_cases hr : sizeK n1 N n3 ≤ room n0
      · exact plays_ok n0 n1 n3 N hM hr l A cap w hl hs
      · have hfl : (Ar.fresh (room n0)).ws.length = room n0 := by simp [Ar.fresh, zerosW]
        have hrr : ¬ (Ar.fresh (room n0)).t + sizeK n1 N n3 ≤ (Ar.fresh (room n0)).ws.length := by rw [hfl]; show ¬ 0 + _ ≤ _; omega
        refine plays_err n0 n1 N n3 l A cap w hl 3 (sizeK n1 N n3) (by omega) (fun ga ha W h => (pfull n1 N n3 hM ga ha _ W h (Nat.zero_le _) hrr).mono fun e w' ⟨a, _, c⟩ => ⟨a, c⟩) (fun gr base W h h1 h2 => ?_) (fun W => psize_ok n1 N n3 hM W) (fun W => rsize_ok n1 N n3 hM W)
        exact (rfull_flat n1 N n3 hM gr base (Ar.fresh (room n0)) _ (alk_fresh _) W h h1 h2 (Nat.zero_le _) hrr).mono fun e w' h => h
    · exact plays_err n0 n1 n2 n3 l A cap w hl 1 0 (by omega) (fun ga ha' W h => (pbad _ n1 n2 n3 hk ha W).mono fun e w' ⟨a, b⟩ => ⟨a, by subst b; exact Mod.refl _ _⟩) (fun gr base W h h1 h2 => (rbad_flat gr base W h1 h2 n1 n2 n3 hk ha).mono fun e w' h => h) (fun W => psize_no n1 n2 n3 (fun h => ha h.2) W) (fun W => rsize_no n1 n2 n3 (fun h => ha h.2) W)
  · exact plays_err n0 n1 n2 n3 l A cap w hl 7 0 (by omega) (fun ga ha' W h => (pnewK _ n1 n2 n3 (by omega) W).mono fun e w' ⟨a, b⟩ => ⟨a, by subst b; exact Mod.refl _ _⟩) (fun gr base W h h1 h2 => (rnewK _ n1 n2 n3 (by omega) W).mono fun e w' ⟨a, b⟩ => ⟨a, RMs.of_mod (Mod.of_below b)⟩) (fun W => psize_no n1 n2 n3 (fun h => hk h.1) W) (fun W => rsize_no n1 n2 n3 (fun h => hk h.1) W)
set_option maxRecDepth 100000 in
theorem plays_law (w : World) (n : List Int) (hn : n.length = 4 ∧ ∀ a ∈ n, isI64 a) (A : Option Addr) (c : Nat) (l : List Ac) (hc : l.length ≤ c) (hm : c ≤ maxLen) (_w0 : ∀ e ∈ l, isI64 e.kind ∧ isI64 e.i) (hs : Sl w w.heap.size A (l.flatMap decAc)) :
    Calls Tryz.prog 3 #[.agg (n.flatMap fun n => [.int .i64 n]).toArray, .slice A l.length c] w fun e w' => e = .returned (.bool true) ∧ Below w.heap.size w w' := by
  obtain ⟨n0, n1, n2, n3, rfl⟩ := list4 hn.1
  by_cases hl : l.length ≤ 100
  · exact plays20 n0 n1 n2 n3 l A c w hl hs
  · have i1 : (100 : Int) < (l.length : Int) := by omega
    have i2 : (l.length : Int) ≤ 9223372036854775807 := by simp only [maxLen] at hm; omega
    have hb0 := below_new w (.cells #[.int .i64 n0, .int .i64 n1, .int .i64 n2, .int .i64 n3] 22)
    show Calls Tryz.prog 3 #[.agg #[.int .i64 n0, .int .i64 n1, .int .i64 n2, .int .i64 n3], .slice A l.length c] w _
    clear hs
    go_enter Tryz.func3, Tryz.ntmps3
    go_wp2_with fail
    refine (awake20 _).mono ?_
    rintro e W9 ⟨rfl, hb9⟩
    have HB := Lib.hid (hb0.trans (hb9.mono hb0.size))
    go_wp2_with fail
    go_ret
    exact ⟨rfl, HB.out⟩
end Go.Proofs.YthffhhgaeolpgaaGreat.Fl

/- The document's gate of layer 21: Do whole; New. -/
namespace Go.Proofs.YthffhhgaeolpgaaGreat.Ga
open Go.RowKit Go.Proofs.YthffhhgaeolpgaaGreat.Ara Go.Proofs.YthffhhgaeolpgaaGreat.Lok Go.Proofs.YthffhhgaeolpgaaGreat.Fl

theorem gst_eq0 {s : Sp} : gst s = 0 ↔ s.pc = 0 := by
  unfold gst
  constructor
  · intro h; split at h
    · assumption
    · split at h
      · omega
      · split at h <;> omega
  · intro h; rw [if_pos h]
theorem gst_eq2 {s : Sp} : gst s = 2 ↔ s.pc = 10 := by
  unfold gst
  constructor
  · intro h; split at h
    · omega
    · split at h
      · omega
      · split at h
        · assumption
        · omega
  · intro h; rw [if_neg (by omega), if_neg (by omega), if_pos h]
section
variable {sp : List Sp} {t : Int} (ht : ¬ (t < 0 ∨ (sp.length : Int) ≤ t)) (p : PK) (σ : Ar)
include ht
theorem turn_gst0 : turnB sp t 0 = decide (gst (spOf sp t) = 0) := by
  obtain ⟨k, rfl⟩ := Int.eq_ofNat_of_zero_le (show 0 ≤ t by omega)
  rw [turn_in (by omega), spOf_in (by omega)]
  by_cases h : sp[k].pc = 0
  · rw [decide_eq_true (gst_eq0.2 h)]; simpa using h
  · rw [decide_eq_false (fun e => h (gst_eq0.1 e))]; simpa using h
theorem turn_gst2 : turnB sp t 10 = decide (gst (spOf sp t) = 2) := by
  obtain ⟨k, rfl⟩ := Int.eq_ofNat_of_zero_le (show 0 ≤ t by omega)
  rw [turn_in (by omega), spOf_in (by omega)]
  by_cases h : sp[k].pc = 10
  · rw [decide_eq_true (gst_eq2.2 h)]; simpa using h
  · rw [decide_eq_false (fun e => h (gst_eq2.1 e))]; simpa using h
theorem ask_fst : (doK p σ sp 1 t).1 = decide (gst (spOf sp t) = 0) := by
  rw [← turn_gst0 ht]
  cases p <;> rfl
theorem leave_fst : (doK p σ sp 2 t).1 = decide (gst (spOf sp t) = 2) := by
  rw [← turn_gst2 ht]
  cases p <;> rfl
theorem ask_snd (h : ¬ gst (spOf sp t) = 0) : (doK p σ sp 1 t).2 = (σ, sp) := by
  have hb : turnB sp t 0 = false := by rw [turn_gst0 ht]; exact decide_eq_false h
  cases p with
  | tas P => show (σ, Ta.askS sp t) = _; unfold Ta.askS; rw [hb, if_neg (by decide)]
  | tic P => show (σ, turnS sp t 0 1) = _; unfold turnS; rw [hb, if_neg (by decide)]
  | par P => show (σ, turnS sp t 0 1) = _; unfold turnS; rw [hb, if_neg (by decide)]
  | mcs P => show (σ, turnS sp t 0 1) = _; unfold turnS; rw [hb, if_neg (by decide)]
  | clh P => show (σ, turnS sp t 0 1) = _; unfold turnS; rw [hb, if_neg (by decide)]
theorem leave_snd (h : ¬ gst (spOf sp t) = 2) : (doK p σ sp 2 t).2 = (σ, sp) := by
  have hb : turnB sp t 10 = false := by rw [turn_gst2 ht]; exact decide_eq_false h
  have hs : turnS sp t 10 11 = sp := by unfold turnS; rw [hb, if_neg (by decide)]
  cases p with
  | tas P => show (σ, turnS sp t 10 11) = _; rw [hs]
  | tic P => show (σ, turnS sp t 10 11) = _; rw [hs]
  | par P => show (σ, turnS sp t 10 11) = _; rw [hs]
  | mcs P => show (σ, turnS sp t 10 11) = _; rw [hs]
  | clh P => show (σ, turnS sp t 10 11) = _; rw [hs]
end
def RPick (gy gK gL gr base hr : Nat) (p : PK) (r : (Int × Int × Int) × Ar × List Sp) (w : World) (e : Ending) (w' : World) : Prop :=
  e = .returned (gev r.1.1 r.1.2.1 r.1.2.2) ∧ (∃ ρ', Alk r.2.1 ρ' ∧ RG w' gy gK gL gr base hr p ρ' r.2.2) ∧ RMs base [gr, hr] w w'
theorem rdo21 {gy gK gL gr base hr : Nat} {p : PK} {σ : Ar} {ρ : Rf} {sp : List Sp} {w : World} (K : RG w gy gK gL gr base hr p ρ sp) (hA : Alk σ ρ) (n m : Nat) (ho : OkK p σ sp n m) (hm : m ≤ 100000) (t want : Int) :
    Calls Tryz.prog 33 #[.pointer (some ⟨gy, 0, none⟩), .agg #[.int .i64 t, .int .i64 want]] w (RPick gy gK gL gr base hr p (gact p σ sp t want) w) := by
  unfold gact
  by_cases ht : t < 0 ∨ (sp.length : Int) ≤ t
  · rw [if_pos ht]
    exact (rdo_out K t want ht).mono fun e w' ⟨a, b, c⟩ => ⟨a, ⟨ρ, hA, b⟩, c⟩
  rw [if_neg ht]
  by_cases h0 : want = 0
  · rw [if_pos h0]
    by_cases hs : gst (spOf sp t) = 1 ∨ gst (spOf sp t) = 3
    · rw [if_pos hs]
      rcases hr : doK p σ sp 0 t with ⟨b, σ2, sp2⟩
      rcases hs with h1 | h3
      · cases b with
        | true => simp only [h1, if_true]; exact rdo_1y K t want ht hA n m ho hm σ2 sp2 h0 h1 hr
        | false => simp only [Bool.false_eq_true, if_false]; exact rdo_1n K t want ht hA n m ho hm σ2 sp2 h0 h1 hr
      · cases b with
        | true => simp only [h3, if_true]; exact rdo_3y K t want ht hA n m ho hm σ2 sp2 h0 h3 hr
        | false => simp only [Bool.false_eq_true, if_false]; exact rdo_3n K t want ht hA n m ho hm σ2 sp2 h0 h3 hr
    · rw [if_neg hs]
      have hgi := gst_in (spOf sp t)
      exact (rdo_stay K t want ht h0 (by omega)).mono fun e w' ⟨a, b, c⟩ => ⟨a, ⟨ρ, hA, b⟩, c⟩
  rw [if_neg h0]
  by_cases h1 : want = 1
  · rw [if_pos h1]
    by_cases hs : gst (spOf sp t) = 0
    · have hf := ask_fst ht p σ
      rw [decide_eq_true hs] at hf
      rcases hr : doK p σ sp 1 t with ⟨b, σ2, sp2⟩
      rw [hr] at hf
      simp only at hf
      subst hf
      exact rdo_ask K t want ht hA n m ho hm true σ2 sp2 h1 hs hr
    · have hf := ask_fst ht p σ
      rw [decide_eq_false hs] at hf
      rw [hf, ask_snd ht p σ hs]
      exact (rdo_ask_no K t want ht h1 hs).mono fun e w' ⟨a, b, c⟩ => ⟨a, ⟨ρ, hA, b⟩, c⟩
  rw [if_neg h1]
  by_cases h2 : want = 2
  · rw [if_pos h2]
    by_cases hs : gst (spOf sp t) = 2
    · have hf := leave_fst ht p σ
      rw [decide_eq_true hs] at hf
      rcases hr : doK p σ sp 2 t with ⟨b, σ2, sp2⟩
      rw [hr] at hf
      simp only at hf
      subst hf
      exact rdo_leave K t want ht hA n m ho hm true σ2 sp2 h2 hs hr
    · have hf := leave_fst ht p σ
      rw [decide_eq_false hs] at hf
      rw [hf, leave_snd ht p σ hs]
      exact (rdo_leave_no K t want ht h2 hs).mono fun e w' ⟨a, b, c⟩ => ⟨a, ⟨ρ, hA, b⟩, c⟩
  rw [if_neg h2]
  exact (rdo_bad K t want ht (by omega)).mono fun e w' ⟨a, b, c⟩ => ⟨a, ⟨ρ, hA, b⟩, c⟩
def RGNew (kind : Int) (n : Nat) (par : Int) (w : World) (e : Ending) (w' : World) : Prop :=
  ∃ gy gL hr ρ', e = .returned (.tuple #[.pointer (some ⟨gy, 0, none⟩), .int .i64 0]) ∧ Alk (firstK kind n par 1 { Ar.fresh 4096 with t := sizeK kind n par }).1 ρ' ∧ RG w' gy (w.heap.size + 1) gL w.heap.size (w.heap.size + 1) hr (pkK kind par 1) ρ' (firstK kind n par 1 { Ar.fresh 4096 with t := sizeK kind n par }).2 ∧ (w.heap.size < gy ∧ w.heap.size < gL ∧ w.heap.size < hr) ∧ Below w.heap.size w w'
set_option maxRecDepth 100000 in
theorem rnew21_ok (kind : Int) (n : Nat) (par : Int) (hM : mayK kind n par) (w : World) : Calls Tryz.prog 31 #[.int .i64 kind, .int .i64 (n : Int), .int .i64 par] w (RGNew kind n par w) := by
  have hfl : (Ar.fresh 4096).ws.length = 4096 := by simp [Ar.fresh, zerosW]
  have hsz : sizeK kind n par ≤ 100 := size_lt hM
  have HM := Lib.hid hM
  have HFL := Lib.hid hfl
  have hro : room 4096 = 4096 := by unfold room; rw [if_neg (by decide), if_neg (by decide)]; rfl
  have HRO := Lib.hid hro
  clear hM hfl hro
  go_enter Tryz.func31, Tryz.ntmps31
  go_wp2_with fail
  refine (rnew_any 4096 _).mono ?_
  rintro e w1 ⟨rfl, hr, hz1, hb1⟩
  rw [HRO.out] at hr
  have HN := Lib.hid (rnew_flat kind n par HM.out w.heap.size (w.heap.size + 1) (Ar.fresh 4096) _ (alk_fresh 4096) w1 hr (by omega) (by omega) (by rw [HFL.out]; show 0 + _ ≤ _; omega) (by rw [HFL.out]; omega) (by show 0 < _; omega))
  have HB1 := Lib.hid hb1
  clear hr hb1
  go_wp2_with fail
  refine HN.out.mono ?_
  rintro e w2 ⟨ρ', hal, gL, hr, rfl, hrl, ⟨b1, b2⟩, hm⟩
  rw [hz1] at hrl b1 b2 ⊢
  simp only [show (Ar.fresh 4096).t = 0 from rfl, Nat.zero_add] at hrl hal
  have HA := Lib.hid hal
  have HL := Lib.hid hrl
  have HB2 := Lib.hid (RMs.below HB1.out hm (by omega) (by omega) (by simp))
  have hz2 := hm.size
  clear hal hrl hm HN
  have hbn := below_new w2 (.cells #[.pointer (some ⟨w.heap.size, 0, none⟩), .pointer (some ⟨w.heap.size + 1, 0, none⟩)] 70)
  have HG := Lib.hid (blk_new w2 (.cells #[.pointer (some ⟨w.heap.size, 0, none⟩), .pointer (some ⟨w.heap.size + 1, 0, none⟩)] 70))
  have HL2 := Lib.hid (HL.out.same hbn)
  have HB3 := Lib.hid (HB2.out.trans (hbn.mono HB2.out.size))
  have hlt := HL.out.at_.facts.2.1.lt
  clear hbn
  go_wp2_with fail
  go_ret2
  exact ⟨w2.heap.size, gL, hr, ρ', rfl, HA.out, ⟨HG.out, HL2.out, by omega, by omega⟩, by omega, HB3.out⟩
set_option maxRecDepth 100000 in
theorem rnew21_err (kind n par er : Int) (her : er = 1 ∨ er = 7) (HN : ∀ gr base W, gr < W.heap.size → base ≤ W.heap.size → Calls Tryz.prog 13 #[.pointer (some ⟨gr, 0, none⟩), .int .i64 kind, .int .i64 n, .int .i64 par] W fun e w' => e = .returned (.tuple #[.pointer none, .int .i64 er]) ∧ RMs base [gr] W w') (w : World) :
    Calls Tryz.prog 31 #[.int .i64 kind, .int .i64 n, .int .i64 par] w fun e w' => e = .returned (.tuple #[.pointer none, .int .i64 er]) ∧ Below w.heap.size w w' := by
  replace HN := Lib.hid HN
  rcases her with rfl | rfl
  all_goals
    go_enter Tryz.func31, Tryz.ntmps31
    go_wp2_with fail
    refine (rnew_any 4096 _).mono ?_
    rintro e w1 ⟨rfl, hr, hz1, hb1⟩
    have HB1 := Lib.hid hb1
    clear hr hb1
    go_wp2_with fail
    refine (HN.out w.heap.size (w.heap.size + 1) w1 (by omega) (by omega)).mono ?_
    rintro e w2 ⟨rfl, hm⟩
    have HB2 := Lib.hid (RMs.below HB1.out hm (by omega) (by omega) (by simp))
    clear hm
    go_wp2_with fail
    go_ret2
    exact ⟨rfl, HB2.out⟩
set_option maxRecDepth 100000 in
theorem gnew_err (kind n par er : Int) (her : er = 1 ∨ er = 7) (HN : ∀ q W, Calls Tryz.prog 12 #[.pointer q, .int .i64 kind, .int .i64 n, .int .i64 par] W fun e w' => e = .returned (.tuple #[.pointer none, .int .i64 er]) ∧ w' = W) (w : World) :
    Calls Tryz.prog 30 #[.int .i64 kind, .int .i64 n, .int .i64 par] w fun e w' => e = .returned (.tuple #[.pointer none, .int .i64 er]) ∧ Below w.heap.size w w' := by
  replace HN := Lib.hid HN
  rcases her with rfl | rfl
  all_goals
    go_enter Tryz.func30, Tryz.ntmps30
    go_wp2_with fail
    refine (new_at 4096 _ _ rfl).mono ?_
    rintro e w1 ⟨rfl, hat⟩
    have HB1 := Lib.hid hat.2.2
    clear hat
    go_wp2_with fail
    refine (HN.out _ _).mono ?_
    rintro e wx ⟨rfl, hwx⟩
    obtain rfl := hwx.symm
    go_wp2_with fail
    go_ret2
    exact ⟨rfl, HB1.out⟩
end Go.Proofs.YthffhhgaeolpgaaGreat.Ga

