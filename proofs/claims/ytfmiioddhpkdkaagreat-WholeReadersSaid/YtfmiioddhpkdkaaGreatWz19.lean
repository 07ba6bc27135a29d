/- Merged texts: Cm4, Cm5, Cm6, Cm7. -/
import Derived.Test.YtfmiioddhpkdkaaGreatWz18
set_option linter.unusedVariables false
set_option maxRecDepth 100000
set_option maxHeartbeats 8000000
/- Package cohort: who is behind its local doorway; how far a node is with the global lock. -/
namespace Go.Proofs.YtfmiioddhpkdkaaGreat.Cm
open Go.RowKit Ara Lok Fl Co

theorem fld0 (a b c d : Value) (W : World) : (Instr.field 134 (.agg #[a, b, c, d]) 0).run Tryz.prog W = .ok a W := by kernel_rfl
section
variable {W : World} {c : Cd} {P : Pm} {x : CS} (K : CoAt W c P x)
include K
end
end Go.Proofs.YtfmiioddhpkdkaaGreat.Cm

/- Package cohort: Ask and Leave. -/
namespace Go.Proofs.YtfmiioddhpkdkaaGreat.Cm
open Go.RowKit Ara Lok Fl Co

def Aft (c : Cd) (P : Pm) (x' : CS) (b : Bool) (W : World) (e : Ending) (w' : World) : Prop := e = .returned (.bool b) ∧ CoAt w' c P x' ∧ Kp c.col W w'
section
variable {W : World} {c : Cd} {P : Pm} {x : CS} (K : CoAt W c P x)
include K
theorem Aft.self {b : Bool} {e : Ending} {w' : World} (he : e = .returned (.bool b)) (hb : Below W.heap.size W w') : Aft c P x b W e w' := ⟨he, K.same hb, Kp.of_below hb⟩
theorem leave_co (i : Int) : Calls Tryz.prog 165 #[.pointer (some ⟨c.gl, 0, none⟩), .int .i64 i] W (Aft c P (leaveC x i) (turnB x.S i 10) W) := by
  have HS := Lib.hid (spot_co K i)
  have q1 := fun a b c d W => fld0 a b c d W
  by_cases hb : turnB x.S i 10 = true
  · obtain ⟨⟨i0, i1⟩, h10⟩ := turn_true hb
    obtain ⟨k, rfl⟩ := Int.eq_ofNat_of_zero_le i0
    have hk : k < P.T := by have := K.len; omega
    have i2 : (k : Int) < (P.T : Int) := by omega
    have HK := Lib.hid (fun W' (h : Below W.heap.size W W') => K.same h)
    have HX := Lib.hid (show leaveC x (k : Int) = { x with S := x.S.set k { spOf x.S (k : Int) with pc := 11 } } by
      unfold leaveC turnS
      rw [if_pos hb, Int.toNat_natCast])
    have HD := Lib.hid (show decSp { spOf x.S (k : Int) with pc := 11 } = (decSp (spOf x.S (k : Int))).set 0 (.int .i64 11) from rfl)
    rw [hb, HX.out]
    clear K HX hb
    generalize hsp : spOf x.S (k : Int) = s at *
    have HSP := Lib.hid hsp
    clear hsp
    obtain ⟨xp, xa, xb, xc⟩ := s
    simp only at HS h10
    subst h10
    go_enter Tryz.func165, Tryz.ntmps165
    go_wp2_with fail
    refine HS.out.mono ?_
    rintro e w2 ⟨rfl, hb⟩
    have HB := Lib.hid hb
    have HK2 := Lib.hid (HK.out _ hb)
    obtain ⟨c0, -, -, -, fz⟩ := HK2.out.spots hk
    obtain ⟨-, -, -, -, -, c8⟩ := HK2.out.cells
    have f0 := fz (k * 4)
    rw [HSP.out] at c0
    clear fz hb
    go_wp2_with fail
    have hF := HK2.out.spot hk 0 (by omega) (.int .i64 11) { (⟨10, xa, xb, xc⟩ : Sp) with pc := 11 } (by rw [HSP.out]; exact HD.out)
    go_ret
    exact ⟨rfl, hF.1, (Kp.of_below HB.out).trans hF.2⟩
  · have hb' : turnB x.S i 10 = false := by simpa using hb
    have HX := Lib.hid (show leaveC x i = x by unfold leaveC; rw [turn_no _ hb'])
    have HA := Lib.hid (fun (e : Ending) w' (he : e = .returned (.bool false)) (h : Below W.heap.size W w') => Aft.self K he h)
    have hne : ¬ (spOf x.S i).pc = 10 := fun h => by
      obtain ⟨i0, i1⟩ := spOf_range (sp := x.S) (i := i) (by omega)
      exact hb (by unfold turnB; rw [decide_eq_true i0, decide_eq_true i1, h]; rfl)
    rw [hb', HX.out]
    clear K hb hb' HX
    generalize spOf x.S i = s at *
    obtain ⟨xp, xa, xb, xc⟩ := s
    simp only at HS hne
    have q2 := ibne hne
    go_enter Tryz.func165, Tryz.ntmps165
    go_wp2_with fail
    refine HS.out.mono ?_
    rintro e w2 ⟨rfl, hb⟩
    go_wp2_with fail
    go_ret
    exact HA.out _ _ rfl hb
theorem ask_co (D : Dj P) {m : Nat} (H : CI P x m) (hm : m ≤ 100000) (i : Int) : Calls Tryz.prog 163 #[.pointer (some ⟨c.gl, 0, none⟩), .int .i64 i] W (Aft c P (askC P x i) (turnB x.S i 0) W) := by
  by_cases hi : i < 0 ∨ (P.T : Int) ≤ i
  · have HH := Lib.hid (has_out K i hi)
    have hb' : turnB x.S i 0 = false := turn_out (by have := K.len; omega) 0
    have HX := Lib.hid (show askC P x i = x by unfold askC; rw [hb', if_neg (by decide)])
    have HA := Lib.hid (fun (e : Ending) w' (he : e = .returned (.bool false)) (h : Below W.heap.size W w') => Aft.self K he h)
    rw [hb', HX.out]
    clear K hb' HX hi H
    go_enter Tryz.func163, Tryz.ntmps163
    go_wp2_with fail
    refine (HH.out).mono ?_
    rintro e wx ⟨rfl, hwx⟩
    obtain rfl := hwx.symm
    go_wp2_with fail
    go_ret
    exact HA.out _ _ rfl (Below.refl _ _)
  · obtain ⟨k, rfl⟩ := Int.eq_ofNat_of_zero_le (show 0 ≤ i by omega)
    have hk : k < P.T := by omega
    have i2 : (k : Int) < (P.T : Int) := by omega
    have HH := Lib.hid (has_in K k hk)
    obtain ⟨c0, -, -, -, fz⟩ := K.spots hk
    obtain ⟨-, -, -, -, -, c8⟩ := K.cells
    have HK := Lib.hid K
    by_cases h0 : (spOf x.S (k : Int)).pc = 0
    · have hl : k < x.S.length := by rw [K.len]; exact hk
      have hb : turnB x.S (k : Int) 0 = true := by
        unfold turnB
        rw [decide_eq_true (by omega), decide_eq_true (by omega), h0]
        rfl
      have hnd := (D.nd k hk).1
      have HO := Lib.hid (of_co K D k hk)
      have HF := Lib.hid (fun W' (hb : Below W.heap.size W W') => Ask_flat ((K.same hb).d.fl _ hnd) (P.mt (P.nd k)) m (H.ol _ hnd) hm (P.sl k : Int))
      have HX := Lib.hid (show askC P x (k : Int) = ⟨x.σ, x.g, upd x.loc (P.nd k) (doK (P.pl (P.nd k)) x.σ (x.loc (P.nd k)) 1 (P.sl k)).2.2, x.S.set k { spOf x.S (k : Int) with pc := 1 }⟩ by
        unfold askC turnS
        rw [if_pos hb, if_pos hb, Int.toNat_natCast])
      have HS9 := Lib.hid (show (doK (P.pl (P.nd k)) x.σ (x.loc (P.nd k)) 1 (P.sl k)).2.1 = x.σ from do12 _ _ _ (.inl rfl) _)
      rw [hb, HX.out]
      have q0 := ibne_no h0
      rw [h0] at c0
      clear K hb HX fz h0 H
      generalize hdk : doK (P.pl (P.nd k)) x.σ (x.loc (P.nd k)) 1 (P.sl k) = r at *
      have HDK := Lib.hid hdk
      clear hdk
      obtain ⟨rb, rσ, rl⟩ := r
      simp only at HS9 ⊢
      go_enter Tryz.func163, Tryz.ntmps163
      go_wp2_with fail
      refine (HH.out).mono ?_
      rintro e wx ⟨rfl, hwx⟩
      obtain rfl := hwx.symm
      go_wp2_with fail
      refine HO.out.mono ?_
      rintro e w2 ⟨rfl, hb⟩
      have HB := Lib.hid hb
      clear hb c0 c8
      go_wp2_with fail
      have hb3 := HB.out.trans ((below_new w2 (.cells #[.pointer (some ⟨c.lf (P.nd k), 0, none⟩), .int .i64 (P.cw (P.nd k))] 179)).mono HB.out.size)
      refine (HF.out _ hb3).mono ?_
      rintro e w4 ⟨rfl, hf4, hm4⟩
      have h4 := (HK.out.same hb3).loc hnd hf4 hm4
      simp only [HS9.out] at h4
      have HK4 := Lib.hid h4.1
      have HP4 := Lib.hid ((Kp.of_below hb3).trans h4.2)
      clear hf4 hm4 h4 hb3
      obtain ⟨c0, -, -, -, fz⟩ := HK4.out.spots hk
      obtain ⟨-, -, -, -, -, c8⟩ := HK4.out.cells
      have f0 := fz (k * 4)
      clear fz
      have hF := HK4.out.spot hk 0 (by omega) (.int .i64 1) { spOf x.S (k : Int) with pc := 1 } rfl
      have HF9 := Lib.hid hF
      clear hF
      go_wp2_with fail
      go_ret
      exact ⟨rfl, HF9.out.1, HP4.out.trans HF9.out.2⟩
    · have hb' : turnB x.S (k : Int) 0 = false := by
        unfold turnB
        rw [show ((spOf x.S (k : Int)).pc == 0) = false from ibeq_no h0, Bool.and_false]
      have HX := Lib.hid (show askC P x (k : Int) = x by unfold askC; rw [hb', if_neg (by decide)])
      have HA := Lib.hid (fun (e : Ending) w' (he : e = .returned (.bool false)) (h : Below W.heap.size W w') => Aft.self K he h)
      rw [hb', HX.out]
      clear K hb' HX fz H
      have q2 := ibne h0
      generalize (spOf x.S (k : Int)).pc = xp at *
      go_enter Tryz.func163, Tryz.ntmps163
      go_wp2_with fail
      refine (HH.out).mono ?_
      rintro e wx ⟨rfl, hwx⟩
      obtain rfl := hwx.symm
      go_wp2_with fail
      go_ret
      exact HA.out _ _ rfl (Below.refl _ _)
end
end Go.Proofs.YtfmiioddhpkdkaaGreat.Cm

/- Package cohort: a step of one that comes in. -/
namespace Go.Proofs.YtfmiioddhpkdkaaGreat.Cm
open Go.RowKit Ara Lok Fl Co


def selI (b : Bool) (p q : Int) : Int := if b then p else q
def AftI (c : Cd) (P : Pm) (x' : CS) (n : Int) (W : World) (e : Ending) (w' : World) : Prop := e = .returned (.int .i64 n) ∧ CoAt w' c P x' ∧ Kp c.col W w'
section
variable {W : World} {c : Cd} {P : Pm} {x : CS} (K : CoAt W c P x) (D : Dj P) {m : Nat} (H : CI P x m) (hm : m ≤ 100000) (k : Nat) (hk : k < P.T)
include K D H hm hk
theorem in1 (h : (spOf x.S (k : Int)).pc = 1) : Calls Tryz.prog 172 #[.pointer (some ⟨c.gl, 0, none⟩), .int .i64 (k : Int)] W (AftI c P { x with σ := (doK (P.pl (P.nd k)) x.σ (x.loc (P.nd k)) 0 (P.sl k)).2.1, loc := upd x.loc (P.nd k) (doK (P.pl (P.nd k)) x.σ (x.loc (P.nd k)) 0 (P.sl k)).2.2 } (selI (doK (P.pl (P.nd k)) x.σ (x.loc (P.nd k)) 0 (P.sl k)).1 2 1) W) := by
  have hnd := (D.nd k hk).1
  have HO := Lib.hid (of_co K D k hk)
  have HF := Lib.hid (fun W' (K' : CoAt W' c P x) => Step_flat (K'.d.fl _ hnd) (P.mt (P.nd k)) m (H.ol _ hnd) hm (P.sl k : Int))
  have HK := Lib.hid K
  have HPC := Lib.hid h
  have i2 : (k : Int) < (P.T : Int) := by omega
  clear K H h
  generalize hdk : doK (P.pl (P.nd k)) x.σ (x.loc (P.nd k)) 0 (P.sl k) = r at *
  clear hdk
  obtain ⟨rb, rσ, rl⟩ := r
  simp only at HF ⊢
  have c8 := HK.out.cells.2.2.2.2.2
  go_enter Tryz.func172, Tryz.ntmps172
  go_upto_region 3 with (go_at_call 170; refine HO.out.mono ?_; rintro e w2 ⟨rfl, hb2⟩; have HB2 := Lib.hid hb2; clear hb2)
  have hb3 := HB2.out.trans ((below_new w2 (.cells #[.pointer (some ⟨c.lf (P.nd k), 0, none⟩), .int .i64 (P.cw (P.nd k))] 179)).mono HB2.out.size)
  have hx3 := blk_new w2 (.cells #[.pointer (some ⟨c.lf (P.nd k), 0, none⟩), .int .i64 (P.cw (P.nd k))] 179)
  have hcol := HK.out.s.fresh _ HB2.out.size
  have hnb := lt_of_blk hx3
  generalize w2.alloc (.cells #[.pointer (some ⟨c.lf (P.nd k), 0, none⟩), .int .i64 (P.cw (P.nd k))] 179) = W3 at *
  generalize w2.heap.size = nb at *
  have HB3 := Lib.hid hb3
  have HK3 := Lib.hid (HK.out.same hb3)
  have n0 := blk_cell hx3 0 (by simp)
  have n1 := blk_cell hx3 1 (by simp)
  simp at n0 n1
  have HN0 := Lib.hid n0
  have HN1 := Lib.hid n1
  have HCOL := Lib.hid hcol
  clear hx3 hb3 HB2 HO hcol c8
  obtain ⟨p0, p1, -, -, pf⟩ := HK3.out.spots hk
  obtain ⟨l0, -, l5, l6, -, l8⟩ := HK3.out.cells
  rw [HPC.out] at p0
  have pf0 := pf (k * 4)
  have pf1 := pf (k * 4 + 1)
  clear pf
  go_wp2_with fail
  refine (HF.out _ HK3.out).mono ?_
  rintro e w4 ⟨rfl, hf4, hm4⟩
  have h4 := HK3.out.loc hnd hf4 hm4
  have HK4 := Lib.hid h4.1
  have HP4 := Lib.hid ((Kp.of_below HB3.out).trans h4.2)
  clear hf4 hm4 h4 p0 p1 l0 l5 l6 l8 pf0 pf1 n0 n1
  cases rb with
  | true =>
    go_wp2_with fail
    go_ret
    exact ⟨rfl, HK4.out, HP4.out⟩
  | false =>
    obtain ⟨p0, -, -, -, -⟩ := HK4.out.spots hk
    rw [HPC.out] at p0
    go_wp2_with fail
    go_ret
    exact ⟨rfl, HK4.out, HP4.out⟩
theorem in3 (h : (spOf x.S (k : Int)).pc = 3) : Calls Tryz.prog 172 #[.pointer (some ⟨c.gl, 0, none⟩), .int .i64 (k : Int)] W (AftI c P { x with σ := (doK P.pg x.σ x.g 0 (P.nd k)).2.1, g := (doK P.pg x.σ x.g 0 (P.nd k)).2.2 } (selI (doK P.pg x.σ x.g 0 (P.nd k)).1 4 3) W) := by
  have HO := Lib.hid (of_co K D k hk)
  have HF := Lib.hid (fun W' (K' : CoAt W' c P x) => Step_flat K'.d.fg P.NN m H.og hm (P.nd k : Int))
  have HK := Lib.hid K
  have HPC := Lib.hid h
  have i2 : (k : Int) < (P.T : Int) := by omega
  clear K H h
  generalize hdk : doK P.pg x.σ x.g 0 (P.nd k) = r at *
  clear hdk
  obtain ⟨rb, rσ, rl⟩ := r
  simp only at HF ⊢
  have c8 := HK.out.cells.2.2.2.2.2
  go_enter Tryz.func172, Tryz.ntmps172
  go_upto_region 3 with (go_at_call 170; refine HO.out.mono ?_; rintro e w2 ⟨rfl, hb2⟩; have HB2 := Lib.hid hb2; clear hb2)
  have hb3 := HB2.out.trans ((below_new w2 (.cells #[.pointer (some ⟨c.lf (P.nd k), 0, none⟩), .int .i64 (P.cw (P.nd k))] 179)).mono HB2.out.size)
  have hx3 := blk_new w2 (.cells #[.pointer (some ⟨c.lf (P.nd k), 0, none⟩), .int .i64 (P.cw (P.nd k))] 179)
  have hcol := HK.out.s.fresh _ HB2.out.size
  have hnb := lt_of_blk hx3
  generalize w2.alloc (.cells #[.pointer (some ⟨c.lf (P.nd k), 0, none⟩), .int .i64 (P.cw (P.nd k))] 179) = W3 at *
  generalize w2.heap.size = nb at *
  have HB3 := Lib.hid hb3
  have HK3 := Lib.hid (HK.out.same hb3)
  have n0 := blk_cell hx3 0 (by simp)
  have n1 := blk_cell hx3 1 (by simp)
  simp at n0 n1
  have HN0 := Lib.hid n0
  have HN1 := Lib.hid n1
  have HCOL := Lib.hid hcol
  clear hx3 hb3 HB2 HO hcol c8
  obtain ⟨p0, p1, -, -, pf⟩ := HK3.out.spots hk
  obtain ⟨l0, -, l5, l6, -, l8⟩ := HK3.out.cells
  rw [HPC.out] at p0
  have pf0 := pf (k * 4)
  have pf1 := pf (k * 4 + 1)
  clear pf
  go_wp2_with fail
  refine (HF.out _ HK3.out).mono ?_
  rintro e w4 ⟨rfl, hf4, hm4⟩
  have h4 := HK3.out.glo hf4 hm4
  have HK4 := Lib.hid h4.1
  have HP4 := Lib.hid ((Kp.of_below HB3.out).trans h4.2)
  clear hf4 hm4 h4 p0 p1 l0 l5 l6 l8 pf0 pf1 n0 n1
  cases rb with
  | true =>
    go_wp2_with fail
    go_ret
    exact ⟨rfl, HK4.out, HP4.out⟩
  | false =>
    obtain ⟨p0, -, -, -, -⟩ := HK4.out.spots hk
    rw [HPC.out] at p0
    go_wp2_with fail
    go_ret
    exact ⟨rfl, HK4.out, HP4.out⟩
theorem in4 (h : (spOf x.S (k : Int)).pc = 4) : Calls Tryz.prog 172 #[.pointer (some ⟨c.gl, 0, none⟩), .int .i64 (k : Int)] W (AftI c P { x with σ := x.σ.op 2 (P.cw (P.nd k)) true 1, S := x.S.set k { spOf x.S (k : Int) with a := 1 } } 10 W) := by
  have HO := Lib.hid (of_co K D k hk)
  have ho : x.σ.ops ≤ 1000000 := by have := H.ops; omega
  have HF := Lib.hid (fun W' (K' : CoAt W' c P x) => store_any c.ga c.ha x.σ W' K'.d.ar ho (P.cw (P.nd k)) 1)
  have HK := Lib.hid K
  have HPC := Lib.hid h
  have i2 : (k : Int) < (P.T : Int) := by omega
  have HD := Lib.hid (show decSp { spOf x.S (k : Int) with a := 1 } = (decSp (spOf x.S (k : Int))).set 1 (.int .i64 1) from rfl)
  clear K H h
  have c8 := HK.out.cells.2.2.2.2.2
  go_enter Tryz.func172, Tryz.ntmps172
  go_upto_region 3 with (go_at_call 170; refine HO.out.mono ?_; rintro e w2 ⟨rfl, hb2⟩; have HB2 := Lib.hid hb2; clear hb2)
  have hb3 := HB2.out.trans ((below_new w2 (.cells #[.pointer (some ⟨c.lf (P.nd k), 0, none⟩), .int .i64 (P.cw (P.nd k))] 179)).mono HB2.out.size)
  have hx3 := blk_new w2 (.cells #[.pointer (some ⟨c.lf (P.nd k), 0, none⟩), .int .i64 (P.cw (P.nd k))] 179)
  have hcol := HK.out.s.fresh _ HB2.out.size
  have hnb := lt_of_blk hx3
  generalize w2.alloc (.cells #[.pointer (some ⟨c.lf (P.nd k), 0, none⟩), .int .i64 (P.cw (P.nd k))] 179) = W3 at *
  generalize w2.heap.size = nb at *
  have HB3 := Lib.hid hb3
  have HK3 := Lib.hid (HK.out.same hb3)
  have n0 := blk_cell hx3 0 (by simp)
  have n1 := blk_cell hx3 1 (by simp)
  simp at n0 n1
  have HN0 := Lib.hid n0
  have HN1 := Lib.hid n1
  have HCOL := Lib.hid hcol
  clear hx3 hb3 HB2 HO hcol c8
  obtain ⟨p0, p1, -, -, pf⟩ := HK3.out.spots hk
  obtain ⟨l0, -, l5, l6, -, l8⟩ := HK3.out.cells
  rw [HPC.out] at p0
  have pf0 := pf (k * 4)
  have pf1 := pf (k * 4 + 1)
  clear pf
  go_upto_region 17 with fail
  have SW0 : W3.drew.cell? ⟨c.gl, 0, none⟩ = some (.pointer (some ⟨c.ga, 0, none⟩)) ∧ W3.drew.cell? ⟨nb, 1, none⟩ = some (.int .i64 (P.cw (P.nd k))) := ⟨l0, n1⟩
  refine wp_region_held_drew (S := fun V => V.cell? ⟨c.gl, 0, none⟩ = some (.pointer (some ⟨c.ga, 0, none⟩)) ∧ V.cell? ⟨nb, 1, none⟩ = some (.int .i64 (P.cw (P.nd k)))) (by kernel_rfl) SW0 (fun hHeld => ?_)
  have HKd := Lib.hid (HK3.out.same (show Below W3.heap.size W3 W3.drew from Below.drew (Below.refl _ _)))
  have HBd := Lib.hid (show Below W.heap.size W W3.drew from Below.drew HB3.out)
  have hnd9 : nb < W3.drew.heap.size := hnb
  have HN1d := Lib.hid (show W3.drew.cell? ⟨nb, 1, none⟩ = some (.int .i64 (P.cw (P.nd k))) from n1)
  have HN0d := Lib.hid (show W3.drew.cell? ⟨nb, 0, none⟩ = some (.pointer (some ⟨c.lf (P.nd k), 0, none⟩)) from n0)
  clear p0 p1 l0 l5 l6 l8 pf0 pf1 n0 n1 HK3 HB3 HN0 HN1 hnb
  generalize W3.drew = X0 at *
  refine tkC 0 65 ?_
  refine tkC 1 66 ?_
  refine tkC 2 67 ?_
  refine tkC 3 68 ?_
  refine tkC 4 69 ?_
  refine tkC 5 70 ?_
  refine wpAnyH_ready (rs := [6]) (by kernel_rfl) (by simp) ?_
  refine AllReadyH.cons rfl (fun K hK => ?_) AllReadyH.nil
  go_simp
  refine (HF.out _ HKd.out).mono ?_
  rintro e w4 ⟨rfl, hf4, hm4⟩
  have h4 := HKd.out.wrd hf4 hm4
  have HK4 := Lib.hid h4.1
  have HP4 := Lib.hid ((Kp.of_below HBd.out).trans h4.2)
  have SW4 : w4.cell? ⟨c.gl, 0, none⟩ = some (.pointer (some ⟨c.ga, 0, none⟩)) ∧ w4.cell? ⟨nb, 1, none⟩ = some (.int .i64 (P.cw (P.nd k))) := ⟨HK4.out.cells.1, (h4.2.cell (p := ⟨nb, 1, none⟩) hnd9 HCOL.out).trans HN1d.out⟩
  clear hf4 hm4 h4
  go_simp
  refine hK.out _ _ SW4 (fun hHeld => ?_)
  refine wpAnyH_done (by kernel_rfl) ?_ _
  obtain ⟨p0, p1, -, -, pf⟩ := HK4.out.spots hk
  have pf1 := pf (k * 4 + 1)
  have HF9 := Lib.hid (HK4.out.spot hk 1 (by omega) (.int .i64 1) { spOf x.S (k : Int) with a := 1 } HD.out)
  clear pf
  go_wp2_with fail
  go_ret
  exact ⟨rfl, HF9.out.1, HP4.out.trans HF9.out.2⟩
end
end Go.Proofs.YtfmiioddhpkdkaaGreat.Cm

/- Package cohort: the step that loads a node's count, coming in and going out. -/
namespace Go.Proofs.YtfmiioddhpkdkaaGreat.Cm
open Go.RowKit Ara Lok Fl Co


theorem do12s (p : PK) (σ σ' : Ar) (sp : List Sp) {kd : Int} (h : kd = 1 ∨ kd = 2) (i : Int) : (doK p σ' sp kd i).2.2 = (doK p σ sp kd i).2.2 := by
  rcases h with rfl | rfl <;> cases p <;> rfl
section
variable {W : World} {c : Cd} {P : Pm} {x : CS} (K : CoAt W c P x) (D : Dj P) {m : Nat} (H : CI P x m) (hm : m ≤ 99999) (k : Nat) (hk : k < P.T)
include K D H hm hk
theorem in2a (h : (spOf x.S (k : Int)).pc = 2) (ha : 0 < x.σ.get (P.cw (P.nd k))) : Calls Tryz.prog 172 #[.pointer (some ⟨c.gl, 0, none⟩), .int .i64 (k : Int)] W (AftI c P { x with σ := x.σ.op 1 (P.cw (P.nd k)) false 0, S := x.S.set k { spOf x.S (k : Int) with a := x.σ.get (P.cw (P.nd k)) } } 10 W) := by
  have HO := Lib.hid (of_co K D k hk)
  have hnd := (D.nd k hk).1
  have ho : x.σ.ops ≤ 1000000 := by have := H.ops; omega
  have hL := fun W' (K' : CoAt W' c P x) => load_any c.ga c.ha x.σ W' K'.d.ar ho (P.cw (P.nd k))
  have HLN := Lib.hid K.len
  have HK := Lib.hid K
  have HPC := Lib.hid h
  have i2 : (k : Int) < (P.T : Int) := by omega
  clear K H h
  generalize x.σ.get (P.cw (P.nd k)) = av at *
  have HL := Lib.hid hL
  clear hL
  have c8 := HK.out.cells.2.2.2.2.2
  go_enter Tryz.func172, Tryz.ntmps172
  go_upto_region 3 with (go_at_call 170; refine HO.out.mono ?_; rintro e w2 ⟨rfl, hb2⟩; have HB2 := Lib.hid hb2; clear hb2)
  have hb3 := HB2.out.trans ((below_new w2 (.cells #[.pointer (some ⟨c.lf (P.nd k), 0, none⟩), .int .i64 (P.cw (P.nd k))] 179)).mono HB2.out.size)
  have hx3 := blk_new w2 (.cells #[.pointer (some ⟨c.lf (P.nd k), 0, none⟩), .int .i64 (P.cw (P.nd k))] 179)
  have hcol := HK.out.s.fresh _ HB2.out.size
  have hnb := lt_of_blk hx3
  generalize w2.alloc (.cells #[.pointer (some ⟨c.lf (P.nd k), 0, none⟩), .int .i64 (P.cw (P.nd k))] 179) = W3 at *
  generalize w2.heap.size = nb at *
  have HB3 := Lib.hid hb3
  have HK3 := Lib.hid (HK.out.same hb3)
  have n0 := blk_cell hx3 0 (by simp)
  have n1 := blk_cell hx3 1 (by simp)
  simp at n0 n1
  have HN0 := Lib.hid n0
  have HN1 := Lib.hid n1
  have HCOL := Lib.hid hcol
  clear hx3 hb3 HB2 HO hcol c8
  obtain ⟨p0, p1, -, -, pf⟩ := HK3.out.spots hk
  obtain ⟨l0, -, l5, l6, -, l8⟩ := HK3.out.cells
  rw [HPC.out] at p0
  have pf0 := pf (k * 4)
  have pf1 := pf (k * 4 + 1)
  clear pf
  go_upto_region 8 with fail
  have SW0 : W3.drew.cell? ⟨c.gl, 0, none⟩ = some (.pointer (some ⟨c.ga, 0, none⟩)) ∧ W3.drew.cell? ⟨nb, 1, none⟩ = some (.int .i64 (P.cw (P.nd k))) := ⟨l0, n1⟩
  refine wp_region_held_drew (S := fun V => V.cell? ⟨c.gl, 0, none⟩ = some (.pointer (some ⟨c.ga, 0, none⟩)) ∧ V.cell? ⟨nb, 1, none⟩ = some (.int .i64 (P.cw (P.nd k)))) (by kernel_rfl) SW0 (fun hHeld => ?_)
  have HKd := Lib.hid (HK3.out.same (show Below W3.heap.size W3 W3.drew from Below.drew (Below.refl _ _)))
  have HBd := Lib.hid (show Below W.heap.size W W3.drew from Below.drew HB3.out)
  have hnd9 : nb < W3.drew.heap.size := hnb
  have HN1d := Lib.hid (show W3.drew.cell? ⟨nb, 1, none⟩ = some (.int .i64 (P.cw (P.nd k))) from n1)
  have HN0d := Lib.hid (show W3.drew.cell? ⟨nb, 0, none⟩ = some (.pointer (some ⟨c.lf (P.nd k), 0, none⟩)) from n0)
  clear p0 p1 l0 l5 l6 l8 pf0 pf1 n0 n1 HK3 HB3 HN0 HN1 hnb
  generalize W3.drew = X0 at *
  refine tkC 0 34 ?_
  refine tkC 1 35 ?_
  refine tkC 2 36 ?_
  refine tkC 3 37 ?_
  refine tkC 4 38 ?_
  refine tkC 5 39 ?_
  refine tkC 6 40 ?_
  refine wpAnyH_ready (rs := [7]) (by kernel_rfl) (by simp) ?_
  refine AllReadyH.cons rfl (fun K hK => ?_) AllReadyH.nil
  go_simp
  refine (HL.out _ HKd.out).mono ?_
  rintro e w4 ⟨rfl, hf4, hm4⟩
  have h4 := HKd.out.wrd hf4 hm4
  have HK4 := Lib.hid h4.1
  have HP4 := Lib.hid ((Kp.of_below HBd.out).trans h4.2)
  have hN0 := (h4.2.cell (p := ⟨nb, 0, none⟩) hnd9 HCOL.out).trans HN0d.out
  have SW4 : w4.cell? ⟨c.gl, 0, none⟩ = some (.pointer (some ⟨c.ga, 0, none⟩)) ∧ w4.cell? ⟨nb, 1, none⟩ = some (.int .i64 (P.cw (P.nd k))) := ⟨HK4.out.cells.1, (h4.2.cell (p := ⟨nb, 1, none⟩) hnd9 HCOL.out).trans HN1d.out⟩
  have hnb4 : nb < w4.heap.size := Nat.lt_of_lt_of_le hnd9 h4.2.size
  clear hf4 hm4 h4
  go_simp
  refine hK.out _ _ SW4 (fun hHeld => ?_)
  refine tkC 8 42 ?_
  refine tkC 9 43 ?_
  obtain ⟨-, p1, -, -, pf⟩ := HK4.out.spots hk
  have pf1 := pf (k * 4 + 1)
  have hS5 := HK4.out.spot hk 1 (by omega) (.int .i64 av) { spOf x.S (k : Int) with a := av } rfl
  have HK5 := Lib.hid hS5.1
  have HP5 := Lib.hid (HP4.out.trans hS5.2)
  have hN0 := (hS5.2.cell (p := ⟨nb, 0, none⟩) hnb4 HCOL.out).trans hN0
  have SW5 : (w4.setCell ⟨c.hs, k * 4 + 1, none⟩ (.int .i64 av)).cell? ⟨c.gl, 0, none⟩ = some (.pointer (some ⟨c.ga, 0, none⟩)) ∧ (w4.setCell ⟨c.hs, k * 4 + 1, none⟩ (.int .i64 av)).cell? ⟨nb, 1, none⟩ = some (.int .i64 (P.cw (P.nd k))) := ⟨HK5.out.cells.1, (hS5.2.cell (p := ⟨nb, 1, none⟩) hnb4 HCOL.out).trans SW4.2⟩
  clear hS5 pf
  refine wpAnyH_ready (rs := [10]) (by kernel_rfl) (by simp) ?_
  refine AllReadyH.cons rfl (fun K hK => ?_) AllReadyH.nil
  go_simp
  refine hK.out _ _ SW5 (fun hHeld => ?_)
  refine wpAnyH_done (by kernel_rfl) ?_ _
  obtain ⟨p0, p1, -, -, -⟩ := HK5.out.spots hk
  have hss : spOf (x.S.set k { spOf x.S (k : Int) with a := av }) (k : Int) = { spOf x.S (k : Int) with a := av } := set_t (by rw [HLN.out]; exact hk) _
  rw [show ({ x with σ := x.σ.op 1 (P.cw (P.nd k)) false 0, S := x.S.set k { spOf x.S (k : Int) with a := av } } : CS).S = x.S.set k { spOf x.S (k : Int) with a := av } from rfl, hss] at p0 p1
  rw [show ({ spOf x.S (k : Int) with a := av } : Sp).pc = (spOf x.S (k : Int)).pc from rfl, HPC.out] at p0
  rw [show ({ spOf x.S (k : Int) with a := av } : Sp).a = av from rfl] at p1
  obtain ⟨l0, -, l5, l6, -, l8⟩ := HK5.out.cells
  generalize w4.setCell ⟨c.hs, k * 4 + 1, none⟩ (.int .i64 av) = W5 at *
  clear SW4 SW5 HK4 HP4 hss hN0 pf1
  go_wp2_with fail
  go_ret
  exact ⟨rfl, HK5.out, HP5.out⟩
theorem in2b (h : (spOf x.S (k : Int)).pc = 2) (ha : ¬ 0 < x.σ.get (P.cw (P.nd k))) : Calls Tryz.prog 172 #[.pointer (some ⟨c.gl, 0, none⟩), .int .i64 (k : Int)] W (AftI c P { x with σ := x.σ.op 1 (P.cw (P.nd k)) false 0, g := (doK P.pg x.σ x.g 1 (P.nd k)).2.2, S := x.S.set k { spOf x.S (k : Int) with a := x.σ.get (P.cw (P.nd k)) } } 3 W) := by
  have HO := Lib.hid (of_co K D k hk)
  have hnd := (D.nd k hk).1
  have ho : x.σ.ops ≤ 1000000 := by have := H.ops; omega
  have hL := fun W' (K' : CoAt W' c P x) => load_any c.ga c.ha x.σ W' K'.d.ar ho (P.cw (P.nd k))
  have HLN := Lib.hid K.len
  have HK := Lib.hid K
  have HPC := Lib.hid h
  have i2 : (k : Int) < (P.T : Int) := by omega
  have hal := (H.op_al D hnd 1 0 false).1
  have hg1 := H.og.al hal (m' := m + 1) (by rw [op_ops]; have := H.ops; split <;> omega) (by omega)
  have HG := Lib.hid (fun W' (K' : CoAt W' c P { x with σ := x.σ.op 1 (P.cw (P.nd k)) false 0, S := x.S.set k { spOf x.S (k : Int) with a := x.σ.get (P.cw (P.nd k)) } }) => Ask_flat K'.d.fg P.NN (m + 1) hg1 (by omega) (P.nd k : Int))
  have HS9 := Lib.hid (show (doK P.pg (x.σ.op 1 (P.cw (P.nd k)) false 0) x.g 1 (P.nd k)).2.1 = x.σ.op 1 (P.cw (P.nd k)) false 0 from do12 _ _ _ (.inl rfl) _)
  have HS8 := Lib.hid (do12s P.pg x.σ (x.σ.op 1 (P.cw (P.nd k)) false 0) x.g (.inl (rfl : (1 : Int) = 1)) (P.nd k))
  rw [← HS8.out]
  clear K H h hal hg1 HS8
  generalize x.σ.get (P.cw (P.nd k)) = av at *
  have HL := Lib.hid hL
  clear hL
  generalize hdk : doK P.pg (x.σ.op 1 (P.cw (P.nd k)) false 0) x.g 1 (P.nd k) = r at *
  clear hdk
  obtain ⟨rb, rσ, rl⟩ := r
  simp only at HG HS9 ⊢
  have c8 := HK.out.cells.2.2.2.2.2
  go_enter Tryz.func172, Tryz.ntmps172
  go_upto_region 3 with (go_at_call 170; refine HO.out.mono ?_; rintro e w2 ⟨rfl, hb2⟩; have HB2 := Lib.hid hb2; clear hb2)
  have hb3 := HB2.out.trans ((below_new w2 (.cells #[.pointer (some ⟨c.lf (P.nd k), 0, none⟩), .int .i64 (P.cw (P.nd k))] 179)).mono HB2.out.size)
  have hx3 := blk_new w2 (.cells #[.pointer (some ⟨c.lf (P.nd k), 0, none⟩), .int .i64 (P.cw (P.nd k))] 179)
  have hcol := HK.out.s.fresh _ HB2.out.size
  have hnb := lt_of_blk hx3
  generalize w2.alloc (.cells #[.pointer (some ⟨c.lf (P.nd k), 0, none⟩), .int .i64 (P.cw (P.nd k))] 179) = W3 at *
  generalize w2.heap.size = nb at *
  have HB3 := Lib.hid hb3
  have HK3 := Lib.hid (HK.out.same hb3)
  have n0 := blk_cell hx3 0 (by simp)
  have n1 := blk_cell hx3 1 (by simp)
  simp at n0 n1
  have HN0 := Lib.hid n0
  have HN1 := Lib.hid n1
  have HCOL := Lib.hid hcol
  clear hx3 hb3 HB2 HO hcol c8
  obtain ⟨p0, p1, -, -, pf⟩ := HK3.out.spots hk
  obtain ⟨l0, -, l5, l6, -, l8⟩ := HK3.out.cells
  rw [HPC.out] at p0
  have pf0 := pf (k * 4)
  have pf1 := pf (k * 4 + 1)
  clear pf
  go_upto_region 8 with fail
  have SW0 : W3.drew.cell? ⟨c.gl, 0, none⟩ = some (.pointer (some ⟨c.ga, 0, none⟩)) ∧ W3.drew.cell? ⟨nb, 1, none⟩ = some (.int .i64 (P.cw (P.nd k))) := ⟨l0, n1⟩
  refine wp_region_held_drew (S := fun V => V.cell? ⟨c.gl, 0, none⟩ = some (.pointer (some ⟨c.ga, 0, none⟩)) ∧ V.cell? ⟨nb, 1, none⟩ = some (.int .i64 (P.cw (P.nd k)))) (by kernel_rfl) SW0 (fun hHeld => ?_)
  have HKd := Lib.hid (HK3.out.same (show Below W3.heap.size W3 W3.drew from Below.drew (Below.refl _ _)))
  have HBd := Lib.hid (show Below W.heap.size W W3.drew from Below.drew HB3.out)
  have hnd9 : nb < W3.drew.heap.size := hnb
  have HN1d := Lib.hid (show W3.drew.cell? ⟨nb, 1, none⟩ = some (.int .i64 (P.cw (P.nd k))) from n1)
  have HN0d := Lib.hid (show W3.drew.cell? ⟨nb, 0, none⟩ = some (.pointer (some ⟨c.lf (P.nd k), 0, none⟩)) from n0)
  clear p0 p1 l0 l5 l6 l8 pf0 pf1 n0 n1 HK3 HB3 HN0 HN1 hnb
  generalize W3.drew = X0 at *
  refine tkC 0 34 ?_
  refine tkC 1 35 ?_
  refine tkC 2 36 ?_
  refine tkC 3 37 ?_
  refine tkC 4 38 ?_
  refine tkC 5 39 ?_
  refine tkC 6 40 ?_
  refine wpAnyH_ready (rs := [7]) (by kernel_rfl) (by simp) ?_
  refine AllReadyH.cons rfl (fun K hK => ?_) AllReadyH.nil
  go_simp
  refine (HL.out _ HKd.out).mono ?_
  rintro e w4 ⟨rfl, hf4, hm4⟩
  have h4 := HKd.out.wrd hf4 hm4
  have HK4 := Lib.hid h4.1
  have HP4 := Lib.hid ((Kp.of_below HBd.out).trans h4.2)
  have hN0 := (h4.2.cell (p := ⟨nb, 0, none⟩) hnd9 HCOL.out).trans HN0d.out
  have SW4 : w4.cell? ⟨c.gl, 0, none⟩ = some (.pointer (some ⟨c.ga, 0, none⟩)) ∧ w4.cell? ⟨nb, 1, none⟩ = some (.int .i64 (P.cw (P.nd k))) := ⟨HK4.out.cells.1, (h4.2.cell (p := ⟨nb, 1, none⟩) hnd9 HCOL.out).trans HN1d.out⟩
  have hnb4 : nb < w4.heap.size := Nat.lt_of_lt_of_le hnd9 h4.2.size
  clear hf4 hm4 h4
  go_simp
  refine hK.out _ _ SW4 (fun hHeld => ?_)
  refine tkC 8 42 ?_
  refine tkC 9 43 ?_
  obtain ⟨-, p1, -, -, pf⟩ := HK4.out.spots hk
  have pf1 := pf (k * 4 + 1)
  have hS5 := HK4.out.spot hk 1 (by omega) (.int .i64 av) { spOf x.S (k : Int) with a := av } rfl
  have HK5 := Lib.hid hS5.1
  have HP5 := Lib.hid (HP4.out.trans hS5.2)
  have hN0 := (hS5.2.cell (p := ⟨nb, 0, none⟩) hnb4 HCOL.out).trans hN0
  have SW5 : (w4.setCell ⟨c.hs, k * 4 + 1, none⟩ (.int .i64 av)).cell? ⟨c.gl, 0, none⟩ = some (.pointer (some ⟨c.ga, 0, none⟩)) ∧ (w4.setCell ⟨c.hs, k * 4 + 1, none⟩ (.int .i64 av)).cell? ⟨nb, 1, none⟩ = some (.int .i64 (P.cw (P.nd k))) := ⟨HK5.out.cells.1, (hS5.2.cell (p := ⟨nb, 1, none⟩) hnb4 HCOL.out).trans SW4.2⟩
  clear hS5 pf
  refine wpAnyH_ready (rs := [10]) (by kernel_rfl) (by simp) ?_
  refine AllReadyH.cons rfl (fun K hK => ?_) AllReadyH.nil
  go_simp
  refine hK.out _ _ SW5 (fun hHeld => ?_)
  refine wpAnyH_done (by kernel_rfl) ?_ _
  obtain ⟨p0, p1, -, -, -⟩ := HK5.out.spots hk
  have hss : spOf (x.S.set k { spOf x.S (k : Int) with a := av }) (k : Int) = { spOf x.S (k : Int) with a := av } := set_t (by rw [HLN.out]; exact hk) _
  rw [show ({ x with σ := x.σ.op 1 (P.cw (P.nd k)) false 0, S := x.S.set k { spOf x.S (k : Int) with a := av } } : CS).S = x.S.set k { spOf x.S (k : Int) with a := av } from rfl, hss] at p0 p1
  rw [show ({ spOf x.S (k : Int) with a := av } : Sp).pc = (spOf x.S (k : Int)).pc from rfl, HPC.out] at p0
  rw [show ({ spOf x.S (k : Int) with a := av } : Sp).a = av from rfl] at p1
  obtain ⟨l0, -, l5, l6, -, l8⟩ := HK5.out.cells
  generalize w4.setCell ⟨c.hs, k * 4 + 1, none⟩ (.int .i64 av) = W5 at *
  clear SW4 SW5 HK4 HP4 hss hN0 pf1
  go_wp2_with fail
  refine (HG.out _ HK5.out).mono ?_
  rintro e w6 ⟨rfl, hf6, hm6⟩
  have h6 := HK5.out.glo hf6 hm6
  simp only [HS9.out] at h6
  have HK6 := Lib.hid h6.1
  have HP6 := Lib.hid (HP5.out.trans h6.2)
  clear hf6 hm6 h6 p0 p1 l0 l5 l6 l8
  go_wp2_with fail
  go_ret
  exact ⟨rfl, HK6.out, HP6.out⟩
theorem out11 (h : (spOf x.S (k : Int)).pc = 11) : Calls Tryz.prog 173 #[.pointer (some ⟨c.gl, 0, none⟩), .int .i64 (k : Int)] W (AftI c P { x with σ := x.σ.op 1 (P.cw (P.nd k)) false 0, S := x.S.set k { spOf x.S (k : Int) with a := x.σ.get (P.cw (P.nd k)) } } (selI (decide (P.B < x.σ.get (P.cw (P.nd k)))) 14 12) W) := by
  have HO := Lib.hid (of_co K D k hk)
  have hnd := (D.nd k hk).1
  have ho : x.σ.ops ≤ 1000000 := by have := H.ops; omega
  have hL := fun W' (K' : CoAt W' c P x) => load_any c.ga c.ha x.σ W' K'.d.ar ho (P.cw (P.nd k))
  have HLN := Lib.hid K.len
  have HK := Lib.hid K
  have HPC := Lib.hid h
  have i2 : (k : Int) < (P.T : Int) := by omega
  clear K H h
  generalize x.σ.get (P.cw (P.nd k)) = av at *
  have HL := Lib.hid hL
  clear hL
  by_cases hB : P.B < av
  · have HN := Lib.hid (show selI (decide (P.B < av)) 14 12 = 14 by rw [decide_eq_true hB]; rfl)
    have c8 := HK.out.cells.2.2.2.2.2
    go_enter Tryz.func173, Tryz.ntmps173
    go_upto_region 3 with (go_at_call 170; refine HO.out.mono ?_; rintro e w2 ⟨rfl, hb2⟩; have HB2 := Lib.hid hb2; clear hb2)
    have hb3 := HB2.out.trans ((below_new w2 (.cells #[.pointer (some ⟨c.lf (P.nd k), 0, none⟩), .int .i64 (P.cw (P.nd k))] 179)).mono HB2.out.size)
    have hx3 := blk_new w2 (.cells #[.pointer (some ⟨c.lf (P.nd k), 0, none⟩), .int .i64 (P.cw (P.nd k))] 179)
    have hcol := HK.out.s.fresh _ HB2.out.size
    have hnb := lt_of_blk hx3
    generalize w2.alloc (.cells #[.pointer (some ⟨c.lf (P.nd k), 0, none⟩), .int .i64 (P.cw (P.nd k))] 179) = W3 at *
    generalize w2.heap.size = nb at *
    have HB3 := Lib.hid hb3
    have HK3 := Lib.hid (HK.out.same hb3)
    have n0 := blk_cell hx3 0 (by simp)
    have n1 := blk_cell hx3 1 (by simp)
    simp at n0 n1
    have HN0 := Lib.hid n0
    have HN1 := Lib.hid n1
    have HCOL := Lib.hid hcol
    clear hx3 hb3 HB2 HO hcol c8
    obtain ⟨p0, p1, -, -, pf⟩ := HK3.out.spots hk
    obtain ⟨l0, -, l5, l6, -, l8⟩ := HK3.out.cells
    rw [HPC.out] at p0
    have pf0 := pf (k * 4)
    have pf1 := pf (k * 4 + 1)
    clear pf
    go_upto_region 5 with fail
    have SW0 : W3.drew.cell? ⟨c.gl, 0, none⟩ = some (.pointer (some ⟨c.ga, 0, none⟩)) ∧ W3.drew.cell? ⟨nb, 1, none⟩ = some (.int .i64 (P.cw (P.nd k))) := ⟨l0, n1⟩
    refine wp_region_held_drew (S := fun V => V.cell? ⟨c.gl, 0, none⟩ = some (.pointer (some ⟨c.ga, 0, none⟩)) ∧ V.cell? ⟨nb, 1, none⟩ = some (.int .i64 (P.cw (P.nd k)))) (by kernel_rfl) SW0 (fun hHeld => ?_)
    have HKd := Lib.hid (HK3.out.same (show Below W3.heap.size W3 W3.drew from Below.drew (Below.refl _ _)))
    have HBd := Lib.hid (show Below W.heap.size W W3.drew from Below.drew HB3.out)
    have hnd9 : nb < W3.drew.heap.size := hnb
    have HN1d := Lib.hid (show W3.drew.cell? ⟨nb, 1, none⟩ = some (.int .i64 (P.cw (P.nd k))) from n1)
    have HN0d := Lib.hid (show W3.drew.cell? ⟨nb, 0, none⟩ = some (.pointer (some ⟨c.lf (P.nd k), 0, none⟩)) from n0)
    clear p0 p1 l0 l5 l6 l8 pf0 pf1 n0 n1 HK3 HB3 HN0 HN1 hnb
    generalize W3.drew = X0 at *
    refine tkC 0 28 ?_
    refine tkC 1 29 ?_
    refine tkC 2 30 ?_
    refine tkC 3 31 ?_
    refine tkC 4 32 ?_
    refine tkC 5 33 ?_
    refine tkC 6 34 ?_
    refine wpAnyH_ready (rs := [7]) (by kernel_rfl) (by simp) ?_
    refine AllReadyH.cons rfl (fun K hK => ?_) AllReadyH.nil
    go_simp
    refine (HL.out _ HKd.out).mono ?_
    rintro e w4 ⟨rfl, hf4, hm4⟩
    have h4 := HKd.out.wrd hf4 hm4
    have HK4 := Lib.hid h4.1
    have HP4 := Lib.hid ((Kp.of_below HBd.out).trans h4.2)
    have hN0 := (h4.2.cell (p := ⟨nb, 0, none⟩) hnd9 HCOL.out).trans HN0d.out
    have SW4 : w4.cell? ⟨c.gl, 0, none⟩ = some (.pointer (some ⟨c.ga, 0, none⟩)) ∧ w4.cell? ⟨nb, 1, none⟩ = some (.int .i64 (P.cw (P.nd k))) := ⟨HK4.out.cells.1, (h4.2.cell (p := ⟨nb, 1, none⟩) hnd9 HCOL.out).trans HN1d.out⟩
    have hnb4 : nb < w4.heap.size := Nat.lt_of_lt_of_le hnd9 h4.2.size
    clear hf4 hm4 h4
    go_simp
    refine hK.out _ _ SW4 (fun hHeld => ?_)
    refine tkC 8 36 ?_
    refine tkC 9 37 ?_
    obtain ⟨-, p1, -, -, pf⟩ := HK4.out.spots hk
    have pf1 := pf (k * 4 + 1)
    have hS5 := HK4.out.spot hk 1 (by omega) (.int .i64 av) { spOf x.S (k : Int) with a := av } rfl
    have HK5 := Lib.hid hS5.1
    have HP5 := Lib.hid (HP4.out.trans hS5.2)
    have hN0 := (hS5.2.cell (p := ⟨nb, 0, none⟩) hnb4 HCOL.out).trans hN0
    have SW5 : (w4.setCell ⟨c.hs, k * 4 + 1, none⟩ (.int .i64 av)).cell? ⟨c.gl, 0, none⟩ = some (.pointer (some ⟨c.ga, 0, none⟩)) ∧ (w4.setCell ⟨c.hs, k * 4 + 1, none⟩ (.int .i64 av)).cell? ⟨nb, 1, none⟩ = some (.int .i64 (P.cw (P.nd k))) := ⟨HK5.out.cells.1, (hS5.2.cell (p := ⟨nb, 1, none⟩) hnb4 HCOL.out).trans SW4.2⟩
    clear hS5 pf
    refine wpAnyH_ready (rs := [10]) (by kernel_rfl) (by simp) ?_
    refine AllReadyH.cons rfl (fun K hK => ?_) AllReadyH.nil
    go_simp
    refine hK.out _ _ SW5 (fun hHeld => ?_)
    refine wpAnyH_done (by kernel_rfl) ?_ _
    obtain ⟨p0, p1, -, -, -⟩ := HK5.out.spots hk
    have hss : spOf (x.S.set k { spOf x.S (k : Int) with a := av }) (k : Int) = { spOf x.S (k : Int) with a := av } := set_t (by rw [HLN.out]; exact hk) _
    rw [show ({ x with σ := x.σ.op 1 (P.cw (P.nd k)) false 0, S := x.S.set k { spOf x.S (k : Int) with a := av } } : CS).S = x.S.set k { spOf x.S (k : Int) with a := av } from rfl, hss] at p0 p1
    rw [show ({ spOf x.S (k : Int) with a := av } : Sp).pc = (spOf x.S (k : Int)).pc from rfl, HPC.out] at p0
    rw [show ({ spOf x.S (k : Int) with a := av } : Sp).a = av from rfl] at p1
    obtain ⟨l0, -, l5, l6, -, l8⟩ := HK5.out.cells
    generalize w4.setCell ⟨c.hs, k * 4 + 1, none⟩ (.int .i64 av) = W5 at *
    clear SW4 SW5 HK4 HP4 hss hN0 pf1
    go_wp2_with fail
    go_quiet (fail)
    go_wp2_with fail
    go_ret
    exact ⟨by rw [HN.out]; rfl, HK5.out.same (below_drewN (Below.refl _ _) _), HP5.out.trans (Kp.of_below (below_drewN (Below.refl _ _) _))⟩
  · have HN := Lib.hid (show selI (decide (P.B < av)) 14 12 = 12 by rw [decide_eq_false hB]; rfl)
    have c8 := HK.out.cells.2.2.2.2.2
    go_enter Tryz.func173, Tryz.ntmps173
    go_upto_region 3 with (go_at_call 170; refine HO.out.mono ?_; rintro e w2 ⟨rfl, hb2⟩; have HB2 := Lib.hid hb2; clear hb2)
    have hb3 := HB2.out.trans ((below_new w2 (.cells #[.pointer (some ⟨c.lf (P.nd k), 0, none⟩), .int .i64 (P.cw (P.nd k))] 179)).mono HB2.out.size)
    have hx3 := blk_new w2 (.cells #[.pointer (some ⟨c.lf (P.nd k), 0, none⟩), .int .i64 (P.cw (P.nd k))] 179)
    have hcol := HK.out.s.fresh _ HB2.out.size
    have hnb := lt_of_blk hx3
    generalize w2.alloc (.cells #[.pointer (some ⟨c.lf (P.nd k), 0, none⟩), .int .i64 (P.cw (P.nd k))] 179) = W3 at *
    generalize w2.heap.size = nb at *
    have HB3 := Lib.hid hb3
    have HK3 := Lib.hid (HK.out.same hb3)
    have n0 := blk_cell hx3 0 (by simp)
    have n1 := blk_cell hx3 1 (by simp)
    simp at n0 n1
    have HN0 := Lib.hid n0
    have HN1 := Lib.hid n1
    have HCOL := Lib.hid hcol
    clear hx3 hb3 HB2 HO hcol c8
    obtain ⟨p0, p1, -, -, pf⟩ := HK3.out.spots hk
    obtain ⟨l0, -, l5, l6, -, l8⟩ := HK3.out.cells
    rw [HPC.out] at p0
    have pf0 := pf (k * 4)
    have pf1 := pf (k * 4 + 1)
    clear pf
    go_upto_region 5 with fail
    have SW0 : W3.drew.cell? ⟨c.gl, 0, none⟩ = some (.pointer (some ⟨c.ga, 0, none⟩)) ∧ W3.drew.cell? ⟨nb, 1, none⟩ = some (.int .i64 (P.cw (P.nd k))) := ⟨l0, n1⟩
    refine wp_region_held_drew (S := fun V => V.cell? ⟨c.gl, 0, none⟩ = some (.pointer (some ⟨c.ga, 0, none⟩)) ∧ V.cell? ⟨nb, 1, none⟩ = some (.int .i64 (P.cw (P.nd k)))) (by kernel_rfl) SW0 (fun hHeld => ?_)
    have HKd := Lib.hid (HK3.out.same (show Below W3.heap.size W3 W3.drew from Below.drew (Below.refl _ _)))
    have HBd := Lib.hid (show Below W.heap.size W W3.drew from Below.drew HB3.out)
    have hnd9 : nb < W3.drew.heap.size := hnb
    have HN1d := Lib.hid (show W3.drew.cell? ⟨nb, 1, none⟩ = some (.int .i64 (P.cw (P.nd k))) from n1)
    have HN0d := Lib.hid (show W3.drew.cell? ⟨nb, 0, none⟩ = some (.pointer (some ⟨c.lf (P.nd k), 0, none⟩)) from n0)
    clear p0 p1 l0 l5 l6 l8 pf0 pf1 n0 n1 HK3 HB3 HN0 HN1 hnb
    generalize W3.drew = X0 at *
    refine tkC 0 28 ?_
    refine tkC 1 29 ?_
    refine tkC 2 30 ?_
    refine tkC 3 31 ?_
    refine tkC 4 32 ?_
    refine tkC 5 33 ?_
    refine tkC 6 34 ?_
    refine wpAnyH_ready (rs := [7]) (by kernel_rfl) (by simp) ?_
    refine AllReadyH.cons rfl (fun K hK => ?_) AllReadyH.nil
    go_simp
    refine (HL.out _ HKd.out).mono ?_
    rintro e w4 ⟨rfl, hf4, hm4⟩
    have h4 := HKd.out.wrd hf4 hm4
    have HK4 := Lib.hid h4.1
    have HP4 := Lib.hid ((Kp.of_below HBd.out).trans h4.2)
    have hN0 := (h4.2.cell (p := ⟨nb, 0, none⟩) hnd9 HCOL.out).trans HN0d.out
    have SW4 : w4.cell? ⟨c.gl, 0, none⟩ = some (.pointer (some ⟨c.ga, 0, none⟩)) ∧ w4.cell? ⟨nb, 1, none⟩ = some (.int .i64 (P.cw (P.nd k))) := ⟨HK4.out.cells.1, (h4.2.cell (p := ⟨nb, 1, none⟩) hnd9 HCOL.out).trans HN1d.out⟩
    have hnb4 : nb < w4.heap.size := Nat.lt_of_lt_of_le hnd9 h4.2.size
    clear hf4 hm4 h4
    go_simp
    refine hK.out _ _ SW4 (fun hHeld => ?_)
    refine tkC 8 36 ?_
    refine tkC 9 37 ?_
    obtain ⟨-, p1, -, -, pf⟩ := HK4.out.spots hk
    have pf1 := pf (k * 4 + 1)
    have hS5 := HK4.out.spot hk 1 (by omega) (.int .i64 av) { spOf x.S (k : Int) with a := av } rfl
    have HK5 := Lib.hid hS5.1
    have HP5 := Lib.hid (HP4.out.trans hS5.2)
    have hN0 := (hS5.2.cell (p := ⟨nb, 0, none⟩) hnb4 HCOL.out).trans hN0
    have SW5 : (w4.setCell ⟨c.hs, k * 4 + 1, none⟩ (.int .i64 av)).cell? ⟨c.gl, 0, none⟩ = some (.pointer (some ⟨c.ga, 0, none⟩)) ∧ (w4.setCell ⟨c.hs, k * 4 + 1, none⟩ (.int .i64 av)).cell? ⟨nb, 1, none⟩ = some (.int .i64 (P.cw (P.nd k))) := ⟨HK5.out.cells.1, (hS5.2.cell (p := ⟨nb, 1, none⟩) hnb4 HCOL.out).trans SW4.2⟩
    clear hS5 pf
    refine wpAnyH_ready (rs := [10]) (by kernel_rfl) (by simp) ?_
    refine AllReadyH.cons rfl (fun K hK => ?_) AllReadyH.nil
    go_simp
    refine hK.out _ _ SW5 (fun hHeld => ?_)
    refine wpAnyH_done (by kernel_rfl) ?_ _
    obtain ⟨p0, p1, -, -, -⟩ := HK5.out.spots hk
    have hss : spOf (x.S.set k { spOf x.S (k : Int) with a := av }) (k : Int) = { spOf x.S (k : Int) with a := av } := set_t (by rw [HLN.out]; exact hk) _
    rw [show ({ x with σ := x.σ.op 1 (P.cw (P.nd k)) false 0, S := x.S.set k { spOf x.S (k : Int) with a := av } } : CS).S = x.S.set k { spOf x.S (k : Int) with a := av } from rfl, hss] at p0 p1
    rw [show ({ spOf x.S (k : Int) with a := av } : Sp).pc = (spOf x.S (k : Int)).pc from rfl, HPC.out] at p0
    rw [show ({ spOf x.S (k : Int) with a := av } : Sp).a = av from rfl] at p1
    obtain ⟨l0, -, l5, l6, -, l8⟩ := HK5.out.cells
    generalize w4.setCell ⟨c.hs, k * 4 + 1, none⟩ (.int .i64 av) = W5 at *
    clear SW4 SW5 HK4 HP4 hss hN0 pf1
    go_wp2_with fail
    go_quiet (fail)
    go_wp2_with fail
    go_ret
    exact ⟨by rw [HN.out]; rfl, HK5.out.same (below_drewN (Below.refl _ _) _), HP5.out.trans (Kp.of_below (below_drewN (Below.refl _ _) _))⟩
end
end Go.Proofs.YtfmiioddhpkdkaaGreat.Cm

