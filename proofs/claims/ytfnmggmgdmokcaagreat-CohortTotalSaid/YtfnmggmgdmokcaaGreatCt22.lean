/- Merged texts: Cm4, Cm5, Cm6. -/
import Derived.Test.YtfnmggmgdmokcaaGreatCt21
set_option linter.unusedVariables false
/- Package cohort: who is behind its local doorway; how far a node is with the global lock. -/
namespace Go.Proofs.YtfnmggmgdmokcaaGreat.Cm
open Go.RowKit Go.Proofs.YtfnmggmgdmokcaaGreat.Ara Go.Proofs.YtfnmggmgdmokcaaGreat.Lok Go.Proofs.YtfnmggmgdmokcaaGreat.Fl Go.Proofs.YtfnmggmgdmokcaaGreat.Co

theorem fld0 (a b c d : Value) (W : World) : (Instr.field 40 (.agg #[a, b, c, d]) 0).run Tryz.prog W = .ok a W := by kernel_rfl
theorem door_pk (p : PK) (w : World) : Calls Tryz.prog 61 #[.int .i64 p.num] w fun e w' => e = .returned (.int .i64 (dr p)) ∧ w' = w := by
  cases p with
  | tas P =>
    show Calls Tryz.prog 61 #[.int .i64 1] w fun e w' => e = .returned (.int .i64 0) ∧ w' = w
    go_enter Tryz.func61, Tryz.ntmps61
    go_wp2_with fail
    go_ret
    exact ⟨rfl, rfl⟩
  | tic P =>
    show Calls Tryz.prog 61 #[.int .i64 2] w fun e w' => e = .returned (.int .i64 1) ∧ w' = w
    go_enter Tryz.func61, Tryz.ntmps61
    go_wp2_with fail
    go_ret
    exact ⟨rfl, rfl⟩
  | par P =>
    show Calls Tryz.prog 61 #[.int .i64 3] w fun e w' => e = .returned (.int .i64 1) ∧ w' = w
    go_enter Tryz.func61, Tryz.ntmps61
    go_wp2_with fail
    go_ret
    exact ⟨rfl, rfl⟩
  | mcs P =>
    show Calls Tryz.prog 61 #[.int .i64 4] w fun e w' => e = .returned (.int .i64 3) ∧ w' = w
    go_enter Tryz.func61, Tryz.ntmps61
    go_wp2_with fail
    go_ret
    exact ⟨rfl, rfl⟩
  | clh P =>
    show Calls Tryz.prog 61 #[.int .i64 5] w fun e w' => e = .returned (.int .i64 2) ∧ w' = w
    go_enter Tryz.func61, Tryz.ntmps61
    go_wp2_with fail
    go_ret
    exact ⟨rfl, rfl⟩
def behB (p : PK) (s : Sp) : Bool := decide (0 < dr p) && decide (dr p < s.pc)
theorem behind_fl {w : World} {gf gl ga ha hs : Nat} {p : PK} {σ : Ar} {sp : List Sp} (K : FLAt w gf gl ga ha hs p σ sp) (i : Int) :
    Calls Tryz.prog 38 #[.pointer (some ⟨gf, 0, none⟩), .int .i64 i] w fun e w' => e = .returned (.bool (behB p (spOf sp i))) ∧ Below w.heap.size w w' := by
  have HK := Lib.hid (kind_fl K)
  have HD := Lib.hid (door_pk p w)
  have HS := Lib.hid (Spot_flat K i)
  clear K
  unfold behB
  generalize spOf sp i = s at *
  obtain ⟨xp, xa, xb, xc⟩ := s
  simp only at HS ⊢
  generalize dr p = d at *
  have q1 := fun a b c d W => fld0 a b c d W
  by_cases h0 : 0 < d
  · by_cases h1 : d < xp
    · have HN := Lib.hid (show (decide (0 < d) && decide (d < xp)) = true by rw [decide_eq_true h0, decide_eq_true h1]; rfl)
      go_enter Tryz.func38, Tryz.ntmps38
      go_wp2_with fail
      refine (HK.out).mono ?_
      rintro e wx ⟨rfl, hwx⟩
      obtain rfl := hwx.symm
      go_wp2_with fail
      refine (HD.out).mono ?_
      rintro e wx ⟨rfl, hwx⟩
      obtain rfl := hwx.symm
      go_wp2_with fail
      refine HS.out.mono ?_
      rintro e w2 ⟨rfl, hb⟩
      go_wp2_with fail
      go_ret
      exact ⟨by rw [HN.out]; rfl, hb⟩
    · have HN := Lib.hid (show (decide (0 < d) && decide (d < xp)) = false by rw [decide_eq_false h1, Bool.and_false])
      have q2 := decide_eq_false h1
      go_enter Tryz.func38, Tryz.ntmps38
      go_wp2_with fail
      refine (HK.out).mono ?_
      rintro e wx ⟨rfl, hwx⟩
      obtain rfl := hwx.symm
      go_wp2_with fail
      refine (HD.out).mono ?_
      rintro e wx ⟨rfl, hwx⟩
      obtain rfl := hwx.symm
      go_wp2_with fail
      refine HS.out.mono ?_
      rintro e w2 ⟨rfl, hb⟩
      go_wp2_with fail
      go_ret
      exact ⟨by rw [HN.out]; rfl, hb⟩
  · have HN := Lib.hid (show (decide (0 < d) && decide (d < xp)) = false by rw [decide_eq_false h0, Bool.false_and])
    have q2 := decide_eq_false h0
    go_enter Tryz.func38, Tryz.ntmps38
    go_wp2_with fail
    refine (HK.out).mono ?_
    rintro e wx ⟨rfl, hwx⟩
    obtain rfl := hwx.symm
    go_wp2_with fail
    refine (HD.out).mono ?_
    rintro e wx ⟨rfl, hwx⟩
    obtain rfl := hwx.symm
    go_wp2_with fail
    go_ret
    exact ⟨by rw [HN.out]; rfl, Below.refl _ _⟩
def pasB (P : Pm) (x : CS) (i : Int) : Bool := if (spOf x.S i).pc = 1 then behB (P.pl (P.nd i.toNat)) (spOf (x.loc (P.nd i.toNat)) (P.sl i.toNat)) else !decide ((spOf x.S i).pc = 0)
def gloV (P : Pm) (x : CS) (n : Int) : Int := if (spOf x.g n).pc = 0 then 0 else if 10 < (spOf x.g n).pc then 4 else if (spOf x.g n).pc = 10 then 3 else if behB P.pg (spOf x.g n) then 2 else 1
section
variable {W : World} {c : Cd} {P : Pm} {x : CS} (K : CoAt W c P x)
include K
theorem passed_co (D : Dj P) (i : Int) : Calls Tryz.prog 21 #[.pointer (some ⟨c.gl, 0, none⟩), .int .i64 i] W fun e w' => e = .returned (.bool (pasB P x i)) ∧ Below W.heap.size W w' := by
  have HS := Lib.hid (spot_co K i)
  have q1 := fun a b c d W => fld0 a b c d W
  by_cases h1 : (spOf x.S i).pc = 1
  · obtain ⟨i0, i1⟩ := spOf_range (sp := x.S) (i := i) (by omega)
    obtain ⟨k, rfl⟩ := Int.eq_ofNat_of_zero_le i0
    have hk : k < P.T := by have := K.len; omega
    have hnd := (D.nd k hk).1
    have HN := Lib.hid (show pasB P x (k : Int) = behB (P.pl (P.nd k)) (spOf (x.loc (P.nd k)) (P.sl k)) by unfold pasB; rw [if_pos h1, Int.toNat_natCast])
    have HO := Lib.hid (fun W' (hb : Below W.heap.size W W') => of_co (K.same hb) D k hk)
    have HB := Lib.hid (fun W' (hb : Below W.heap.size W W') => behind_fl (((K.same hb).d.fl _ hnd)) (P.sl k : Int))
    rw [HN.out]
    clear K
    generalize hsp : spOf x.S (k : Int) = s at *
    clear hsp HN
    obtain ⟨xp, xa, xb, xc⟩ := s
    simp only at HS h1
    subst h1
    generalize behB (P.pl (P.nd k)) (spOf (x.loc (P.nd k)) (P.sl k)) = r at *
    go_enter Tryz.func21, Tryz.ntmps21
    go_wp2_with fail
    refine HS.out.mono ?_
    rintro e w2 ⟨rfl, hb⟩
    have HO2 := Lib.hid (HO.out _ hb)
    have HB2 := Lib.hid hb
    clear hb
    go_wp2_with fail
    refine HO2.out.mono ?_
    rintro e w3 ⟨rfl, hb⟩
    have HB3 := Lib.hid (HB2.out.trans (hb.mono HB2.out.size))
    clear hb
    go_wp2_with fail
    have hb4 := HB3.out.trans ((below_new w3 (.cells #[.pointer (some ⟨c.lf (P.nd k), 0, none⟩), .int .i64 (P.cw (P.nd k))] 81)).mono HB3.out.size)
    refine (HB.out _ hb4).mono ?_
    rintro e w5 ⟨rfl, hb5⟩
    have HB5 := Lib.hid (hb4.trans (hb5.mono hb4.size))
    clear hb4 hb5
    go_wp2_with fail
    go_ret
    exact ⟨rfl, HB5.out⟩
  · have HN := Lib.hid (show pasB P x i = !decide ((spOf x.S i).pc = 0) by unfold pasB; rw [if_neg h1])
    rw [HN.out]
    clear K HN
    generalize spOf x.S i = s at *
    obtain ⟨xp, xa, xb, xc⟩ := s
    simp only at HS h1 ⊢
    have q2 := ibne h1
    by_cases h0 : xp = 0
    · have HN := Lib.hid (show (!decide (xp = 0)) = false by rw [decide_eq_true h0]; rfl)
      have q3 := ibne_no h0
      go_enter Tryz.func21, Tryz.ntmps21
      go_wp2_with fail
      refine HS.out.mono ?_
      rintro e w2 ⟨rfl, hb⟩
      go_wp2_with fail
      go_ret
      exact ⟨by rw [HN.out]; rfl, hb⟩
    · have HN := Lib.hid (show (!decide (xp = 0)) = true by rw [decide_eq_false h0]; rfl)
      have q3 := ibne h0
      go_enter Tryz.func21, Tryz.ntmps21
      go_wp2_with fail
      refine HS.out.mono ?_
      rintro e w2 ⟨rfl, hb⟩
      go_wp2_with fail
      go_ret
      exact ⟨by rw [HN.out]; rfl, hb⟩
theorem global_co (n : Int) : Calls Tryz.prog 15 #[.pointer (some ⟨c.gl, 0, none⟩), .int .i64 n] W fun e w' => e = .returned (.int .i64 (gloV P x n)) ∧ Below W.heap.size W w' := by
  have HS := Lib.hid (Spot_flat K.d.fg n)
  have HB := Lib.hid (fun W' (hb : Below W.heap.size W W') => behind_fl ((K.same hb).d.fg) n)
  have q1 := fun a b c d W => fld0 a b c d W
  obtain ⟨-, -, -, c6, -, -⟩ := K.cells
  have HC := Lib.hid (fun W' (hb : Below W.heap.size W W') => (K.same hb).cells.2.2.2.1)
  clear K
  unfold gloV
  generalize behB P.pg (spOf x.g n) = r at *
  generalize spOf x.g n = s at *
  obtain ⟨xp, xa, xb, xc⟩ := s
  simp only at HS ⊢
  by_cases h0 : xp = 0
  · rw [if_pos h0]
    have g0 := ibeq h0
    go_enter Tryz.func15, Tryz.ntmps15
    go_wp2_with fail
    refine HS.out.mono ?_
    rintro e w2 ⟨rfl, hb⟩
    go_wp2_with fail
    go_ret
    exact ⟨rfl, hb⟩
  rw [if_neg h0]
  have g0 := ibeq_no h0
  by_cases h1 : 10 < xp
  · rw [if_pos h1]
    go_enter Tryz.func15, Tryz.ntmps15
    go_wp2_with fail
    refine HS.out.mono ?_
    rintro e w2 ⟨rfl, hb⟩
    go_wp2_with fail
    go_ret
    exact ⟨rfl, hb⟩
  rw [if_neg h1]
  by_cases h2 : xp = 10
  · have g2 := ibeq h2
    rw [if_pos h2]
    go_enter Tryz.func15, Tryz.ntmps15
    go_wp2_with fail
    refine HS.out.mono ?_
    rintro e w2 ⟨rfl, hb⟩
    go_wp2_with fail
    go_ret
    exact ⟨rfl, hb⟩
  rw [if_neg h2]
  have g2 := ibeq_no h2
  cases r with
  | true =>
    rw [if_pos rfl]
    go_enter Tryz.func15, Tryz.ntmps15
    go_wp2_with fail
    refine HS.out.mono ?_
    rintro e w2 ⟨rfl, hb⟩
    have d6 := HC.out _ hb
    have HB2 := Lib.hid hb
    clear hb
    go_wp2_with fail
    refine (HB.out _ HB2.out).mono ?_
    rintro e w3 ⟨rfl, hb3⟩
    have HB3 := Lib.hid (HB2.out.trans (hb3.mono HB2.out.size))
    clear hb3
    go_wp2_with fail
    go_ret
    exact ⟨rfl, HB3.out⟩
  | false =>
    rw [if_neg (by decide)]
    go_enter Tryz.func15, Tryz.ntmps15
    go_wp2_with fail
    refine HS.out.mono ?_
    rintro e w2 ⟨rfl, hb⟩
    have d6 := HC.out _ hb
    have HB2 := Lib.hid hb
    clear hb
    go_wp2_with fail
    refine (HB.out _ HB2.out).mono ?_
    rintro e w3 ⟨rfl, hb3⟩
    have HB3 := Lib.hid (HB2.out.trans (hb3.mono HB2.out.size))
    clear hb3
    go_wp2_with fail
    go_ret
    exact ⟨rfl, HB3.out⟩
end
end Go.Proofs.YtfnmggmgdmokcaaGreat.Cm

/- Package cohort: Ask and Leave. -/
namespace Go.Proofs.YtfnmggmgdmokcaaGreat.Cm
open Go.RowKit Go.Proofs.YtfnmggmgdmokcaaGreat.Ara Go.Proofs.YtfnmggmgdmokcaaGreat.Lok Go.Proofs.YtfnmggmgdmokcaaGreat.Fl Go.Proofs.YtfnmggmgdmokcaaGreat.Co

def Aft (c : Cd) (P : Pm) (x' : CS) (b : Bool) (W : World) (e : Ending) (w' : World) : Prop := e = .returned (.bool b) ∧ CoAt w' c P x' ∧ Kp c.col W w'
section
variable {W : World} {c : Cd} {P : Pm} {x : CS} (K : CoAt W c P x)
include K
theorem Aft.self {b : Bool} {e : Ending} {w' : World} (he : e = .returned (.bool b)) (hb : Below W.heap.size W w') : Aft c P x b W e w' := ⟨he, K.same hb, Kp.of_below hb⟩
theorem leave_co (i : Int) : Calls Tryz.prog 13 #[.pointer (some ⟨c.gl, 0, none⟩), .int .i64 i] W (Aft c P (leaveC x i) (turnB x.S i 10) W) := by
  have HS := Lib.hid (spot_co K i)
  have q1 := fun a b c d W => fld0 a b c d W
  by_cases hb : turnB x.S i 10 = true
  · obtain ⟨⟨i0, i1⟩, h10⟩ := turn_true hb
    obtain ⟨k, rfl⟩ := Int.eq_ofNat_of_zero_le i0
    have hk : k < P.T := by have := K.len; omega
    have i2 : (k : Int) < (P.T : Int) := by omega
    have HK := Lib.hid (fun W' (h : Below W.heap.size W W') => K.same h)
    have HX := Lib.hid (show leaveC x (k : Int) = { x with S := x.S.set k { spOf x.S (k : Int) with pc := 11 } } by
      unfold leaveC turnS
      rw [if_pos hb, Int.toNat_natCast])
    have HD := Lib.hid (show decSp { spOf x.S (k : Int) with pc := 11 } = (decSp (spOf x.S (k : Int))).set 0 (.int .i64 11) from rfl)
    rw [hb, HX.out]
    clear K HX hb
    generalize hsp : spOf x.S (k : Int) = s at *
    have HSP := Lib.hid hsp
    clear hsp
    obtain ⟨xp, xa, xb, xc⟩ := s
    simp only at HS h10
    subst h10
    go_enter Tryz.func13, Tryz.ntmps13
    go_wp2_with fail
    refine HS.out.mono ?_
    rintro e w2 ⟨rfl, hb⟩
    have HB := Lib.hid hb
    have HK2 := Lib.hid (HK.out _ hb)
    obtain ⟨c0, -, -, -, fz⟩ := HK2.out.spots hk
    obtain ⟨-, -, -, -, -, c8⟩ := HK2.out.cells
    have f0 := fz (k * 4)
    rw [HSP.out] at c0
    clear fz hb
    go_wp2_with fail
    have hF := HK2.out.spot hk 0 (by omega) (.int .i64 11) { (⟨10, xa, xb, xc⟩ : Sp) with pc := 11 } (by rw [HSP.out]; exact HD.out)
    go_ret
    exact ⟨rfl, hF.1, (Kp.of_below HB.out).trans hF.2⟩
  · have hb' : turnB x.S i 10 = false := by simpa using hb
    have HX := Lib.hid (show leaveC x i = x by unfold leaveC; rw [turn_no _ hb'])
    have HA := Lib.hid (fun (e : Ending) w' (he : e = .returned (.bool false)) (h : Below W.heap.size W w') => Aft.self K he h)
    have hne : ¬ (spOf x.S i).pc = 10 := fun h => by
      obtain ⟨i0, i1⟩ := spOf_range (sp := x.S) (i := i) (by omega)
      exact hb (by unfold turnB; rw [decide_eq_true i0, decide_eq_true i1, h]; rfl)
    rw [hb', HX.out]
    clear K hb hb' HX
    generalize spOf x.S i = s at *
    obtain ⟨xp, xa, xb, xc⟩ := s
    simp only at HS hne
    have q2 := ibne hne
    go_enter Tryz.func13, Tryz.ntmps13
    go_wp2_with fail
    refine HS.out.mono ?_
    rintro e w2 ⟨rfl, hb⟩
    go_wp2_with fail
    go_ret
    exact HA.out _ _ rfl hb
theorem ask_co (D : Dj P) {m : Nat} (H : CI P x m) (hm : m ≤ 100000) (i : Int) : Calls Tryz.prog 31 #[.pointer (some ⟨c.gl, 0, none⟩), .int .i64 i] W (Aft c P (askC P x i) (turnB x.S i 0) W) := by
  by_cases hi : i < 0 ∨ (P.T : Int) ≤ i
  · have HH := Lib.hid (has_out K i hi)
    have hb' : turnB x.S i 0 = false := turn_out (by have := K.len; omega) 0
    have HX := Lib.hid (show askC P x i = x by unfold askC; rw [hb', if_neg (by decide)])
    have HA := Lib.hid (fun (e : Ending) w' (he : e = .returned (.bool false)) (h : Below W.heap.size W w') => Aft.self K he h)
    rw [hb', HX.out]
    clear K hb' HX hi H
    go_enter Tryz.func31, Tryz.ntmps31
    go_wp2_with fail
    refine (HH.out).mono ?_
    rintro e wx ⟨rfl, hwx⟩
    obtain rfl := hwx.symm
    go_wp2_with fail
    go_ret
    exact HA.out _ _ rfl (Below.refl _ _)
  · obtain ⟨k, rfl⟩ := Int.eq_ofNat_of_zero_le (show 0 ≤ i by omega)
    have hk : k < P.T := by omega
    have i2 : (k : Int) < (P.T : Int) := by omega
    have HH := Lib.hid (has_in K k hk)
    obtain ⟨c0, -, -, -, fz⟩ := K.spots hk
    obtain ⟨-, -, -, -, -, c8⟩ := K.cells
    have HK := Lib.hid K
    by_cases h0 : (spOf x.S (k : Int)).pc = 0
    · have hl : k < x.S.length := by rw [K.len]; exact hk
      have hb : turnB x.S (k : Int) 0 = true := by
        unfold turnB
        rw [decide_eq_true (by omega), decide_eq_true (by omega), h0]
        rfl
      have hnd := (D.nd k hk).1
      have HO := Lib.hid (of_co K D k hk)
      have HF := Lib.hid (fun W' (hb : Below W.heap.size W W') => Ask_flat ((K.same hb).d.fl _ hnd) (P.mt (P.nd k)) m (H.ol _ hnd) hm (P.sl k : Int))
      have HX := Lib.hid (show askC P x (k : Int) = ⟨x.σ, x.g, upd x.loc (P.nd k) (doK (P.pl (P.nd k)) x.σ (x.loc (P.nd k)) 1 (P.sl k)).2.2, x.S.set k { spOf x.S (k : Int) with pc := 1 }⟩ by
        unfold askC turnS
        rw [if_pos hb, if_pos hb, Int.toNat_natCast])
      have HS9 := Lib.hid (show (doK (P.pl (P.nd k)) x.σ (x.loc (P.nd k)) 1 (P.sl k)).2.1 = x.σ from do12 _ _ _ (.inl rfl) _)
      rw [hb, HX.out]
      have q0 := ibne_no h0
      rw [h0] at c0
      clear K hb HX fz h0 H
      generalize hdk : doK (P.pl (P.nd k)) x.σ (x.loc (P.nd k)) 1 (P.sl k) = r at *
      have HDK := Lib.hid hdk
      clear hdk
      obtain ⟨rb, rσ, rl⟩ := r
      simp only at HS9 ⊢
      go_enter Tryz.func31, Tryz.ntmps31
      go_wp2_with fail
      refine (HH.out).mono ?_
      rintro e wx ⟨rfl, hwx⟩
      obtain rfl := hwx.symm
      go_wp2_with fail
      refine HO.out.mono ?_
      rintro e w2 ⟨rfl, hb⟩
      have HB := Lib.hid hb
      clear hb c0 c8
      go_wp2_with fail
      have hb3 := HB.out.trans ((below_new w2 (.cells #[.pointer (some ⟨c.lf (P.nd k), 0, none⟩), .int .i64 (P.cw (P.nd k))] 81)).mono HB.out.size)
      refine (HF.out _ hb3).mono ?_
      rintro e w4 ⟨rfl, hf4, hm4⟩
      have h4 := (HK.out.same hb3).loc hnd hf4 hm4
      simp only [HS9.out] at h4
      have HK4 := Lib.hid h4.1
      have HP4 := Lib.hid ((Kp.of_below hb3).trans h4.2)
      clear hf4 hm4 h4 hb3
      obtain ⟨c0, -, -, -, fz⟩ := HK4.out.spots hk
      obtain ⟨-, -, -, -, -, c8⟩ := HK4.out.cells
      have f0 := fz (k * 4)
      clear fz
      have hF := HK4.out.spot hk 0 (by omega) (.int .i64 1) { spOf x.S (k : Int) with pc := 1 } rfl
      have HF9 := Lib.hid hF
      clear hF
      go_wp2_with fail
      go_ret
      exact ⟨rfl, HF9.out.1, HP4.out.trans HF9.out.2⟩
    · have hb' : turnB x.S (k : Int) 0 = false := by
        unfold turnB
        rw [show ((spOf x.S (k : Int)).pc == 0) = false from ibeq_no h0, Bool.and_false]
      have HX := Lib.hid (show askC P x (k : Int) = x by unfold askC; rw [hb', if_neg (by decide)])
      have HA := Lib.hid (fun (e : Ending) w' (he : e = .returned (.bool false)) (h : Below W.heap.size W w') => Aft.self K he h)
      rw [hb', HX.out]
      clear K hb' HX fz H
      have q2 := ibne h0
      generalize (spOf x.S (k : Int)).pc = xp at *
      go_enter Tryz.func31, Tryz.ntmps31
      go_wp2_with fail
      refine (HH.out).mono ?_
      rintro e wx ⟨rfl, hwx⟩
      obtain rfl := hwx.symm
      go_wp2_with fail
      go_ret
      exact HA.out _ _ rfl (Below.refl _ _)
end
end Go.Proofs.YtfnmggmgdmokcaaGreat.Cm

/- Package cohort: a step of one that comes in. -/
namespace Go.Proofs.YtfnmggmgdmokcaaGreat.Cm
open Go.RowKit Go.Proofs.YtfnmggmgdmokcaaGreat.Ara Go.Proofs.YtfnmggmgdmokcaaGreat.Lok Go.Proofs.YtfnmggmgdmokcaaGreat.Fl Go.Proofs.YtfnmggmgdmokcaaGreat.Co


def selI (b : Bool) (p q : Int) : Int := if b then p else q
def AftI (c : Cd) (P : Pm) (x' : CS) (n : Int) (W : World) (e : Ending) (w' : World) : Prop := e = .returned (.int .i64 n) ∧ CoAt w' c P x' ∧ Kp c.col W w'
section
variable {W : World} {c : Cd} {P : Pm} {x : CS} (K : CoAt W c P x) (D : Dj P) {m : Nat} (H : CI P x m) (hm : m ≤ 100000) (k : Nat) (hk : k < P.T)
include K D H hm hk
theorem in1 (h : (spOf x.S (k : Int)).pc = 1) : Calls Tryz.prog 34 #[.pointer (some ⟨c.gl, 0, none⟩), .int .i64 (k : Int)] W (AftI c P { x with σ := (doK (P.pl (P.nd k)) x.σ (x.loc (P.nd k)) 0 (P.sl k)).2.1, loc := upd x.loc (P.nd k) (doK (P.pl (P.nd k)) x.σ (x.loc (P.nd k)) 0 (P.sl k)).2.2 } (selI (doK (P.pl (P.nd k)) x.σ (x.loc (P.nd k)) 0 (P.sl k)).1 2 1) W) := by
  have hnd := (D.nd k hk).1
  have HO := Lib.hid (of_co K D k hk)
  have HF := Lib.hid (fun W' (K' : CoAt W' c P x) => Step_flat (K'.d.fl _ hnd) (P.mt (P.nd k)) m (H.ol _ hnd) hm (P.sl k : Int))
  have HK := Lib.hid K
  have HPC := Lib.hid h
  have i2 : (k : Int) < (P.T : Int) := by omega
  clear K H h
  generalize hdk : doK (P.pl (P.nd k)) x.σ (x.loc (P.nd k)) 0 (P.sl k) = r at *
  clear hdk
  obtain ⟨rb, rσ, rl⟩ := r
  simp only at HF ⊢
  have c8 := HK.out.cells.2.2.2.2.2
  go_enter Tryz.func34, Tryz.ntmps34
  go_upto_region 3 with (go_at_call 42; refine HO.out.mono ?_; rintro e w2 ⟨rfl, hb2⟩; have HB2 := Lib.hid hb2; clear hb2)
  have hb3 := HB2.out.trans ((below_new w2 (.cells #[.pointer (some ⟨c.lf (P.nd k), 0, none⟩), .int .i64 (P.cw (P.nd k))] 81)).mono HB2.out.size)
  have hx3 := blk_new w2 (.cells #[.pointer (some ⟨c.lf (P.nd k), 0, none⟩), .int .i64 (P.cw (P.nd k))] 81)
  have hcol := HK.out.s.fresh _ HB2.out.size
  have hnb := lt_of_blk hx3
  generalize w2.alloc (.cells #[.pointer (some ⟨c.lf (P.nd k), 0, none⟩), .int .i64 (P.cw (P.nd k))] 81) = W3 at *
  generalize w2.heap.size = nb at *
  have HB3 := Lib.hid hb3
  have HK3 := Lib.hid (HK.out.same hb3)
  have n0 := blk_cell hx3 0 (by simp)
  have n1 := blk_cell hx3 1 (by simp)
  simp at n0 n1
  have HN0 := Lib.hid n0
  have HN1 := Lib.hid n1
  have HCOL := Lib.hid hcol
  clear hx3 hb3 HB2 HO hcol c8
  obtain ⟨p0, p1, -, -, pf⟩ := HK3.out.spots hk
  obtain ⟨l0, -, l5, l6, -, l8⟩ := HK3.out.cells
  rw [HPC.out] at p0
  have pf0 := pf (k * 4)
  have pf1 := pf (k * 4 + 1)
  clear pf
  go_wp2_with fail
  refine (HF.out _ HK3.out).mono ?_
  rintro e w4 ⟨rfl, hf4, hm4⟩
  have h4 := HK3.out.loc hnd hf4 hm4
  have HK4 := Lib.hid h4.1
  have HP4 := Lib.hid ((Kp.of_below HB3.out).trans h4.2)
  clear hf4 hm4 h4 p0 p1 l0 l5 l6 l8 pf0 pf1 n0 n1
  cases rb with
  | true =>
    go_wp2_with fail
    go_ret
    exact ⟨rfl, HK4.out, HP4.out⟩
  | false =>
    obtain ⟨p0, -, -, -, -⟩ := HK4.out.spots hk
    rw [HPC.out] at p0
    go_wp2_with fail
    go_ret
    exact ⟨rfl, HK4.out, HP4.out⟩
theorem in3 (h : (spOf x.S (k : Int)).pc = 3) : Calls Tryz.prog 34 #[.pointer (some ⟨c.gl, 0, none⟩), .int .i64 (k : Int)] W (AftI c P { x with σ := (doK P.pg x.σ x.g 0 (P.nd k)).2.1, g := (doK P.pg x.σ x.g 0 (P.nd k)).2.2 } (selI (doK P.pg x.σ x.g 0 (P.nd k)).1 4 3) W) := by
  have HO := Lib.hid (of_co K D k hk)
  have HF := Lib.hid (fun W' (K' : CoAt W' c P x) => Step_flat K'.d.fg P.NN m H.og hm (P.nd k : Int))
  have HK := Lib.hid K
  have HPC := Lib.hid h
  have i2 : (k : Int) < (P.T : Int) := by omega
  clear K H h
  generalize hdk : doK P.pg x.σ x.g 0 (P.nd k) = r at *
  clear hdk
  obtain ⟨rb, rσ, rl⟩ := r
  simp only at HF ⊢
  have c8 := HK.out.cells.2.2.2.2.2
  go_enter Tryz.func34, Tryz.ntmps34
  go_upto_region 3 with (go_at_call 42; refine HO.out.mono ?_; rintro e w2 ⟨rfl, hb2⟩; have HB2 := Lib.hid hb2; clear hb2)
  have hb3 := HB2.out.trans ((below_new w2 (.cells #[.pointer (some ⟨c.lf (P.nd k), 0, none⟩), .int .i64 (P.cw (P.nd k))] 81)).mono HB2.out.size)
  have hx3 := blk_new w2 (.cells #[.pointer (some ⟨c.lf (P.nd k), 0, none⟩), .int .i64 (P.cw (P.nd k))] 81)
  have hcol := HK.out.s.fresh _ HB2.out.size
  have hnb := lt_of_blk hx3
  generalize w2.alloc (.cells #[.pointer (some ⟨c.lf (P.nd k), 0, none⟩), .int .i64 (P.cw (P.nd k))] 81) = W3 at *
  generalize w2.heap.size = nb at *
  have HB3 := Lib.hid hb3
  have HK3 := Lib.hid (HK.out.same hb3)
  have n0 := blk_cell hx3 0 (by simp)
  have n1 := blk_cell hx3 1 (by simp)
  simp at n0 n1
  have HN0 := Lib.hid n0
  have HN1 := Lib.hid n1
  have HCOL := Lib.hid hcol
  clear hx3 hb3 HB2 HO hcol c8
  obtain ⟨p0, p1, -, -, pf⟩ := HK3.out.spots hk
  obtain ⟨l0, -, l5, l6, -, l8⟩ := HK3.out.cells
  rw [HPC.out] at p0
  have pf0 := pf (k * 4)
  have pf1 := pf (k * 4 + 1)
  clear pf
  go_wp2_with fail
  refine (HF.out _ HK3.out).mono ?_
  rintro e w4 ⟨rfl, hf4, hm4⟩
  have h4 := HK3.out.glo hf4 hm4
  have HK4 := Lib.hid h4.1
  have HP4 := Lib.hid ((Kp.of_below HB3.out).trans h4.2)
  clear hf4 hm4 h4 p0 p1 l0 l5 l6 l8 pf0 pf1 n0 n1
  cases rb with
  | true =>
    go_wp2_with fail
    go_ret
    exact ⟨rfl, HK4.out, HP4.out⟩
  | false =>
    obtain ⟨p0, -, -, -, -⟩ := HK4.out.spots hk
    rw [HPC.out] at p0
    go_wp2_with fail
    go_ret
    exact ⟨rfl, HK4.out, HP4.out⟩
theorem in4 (h : (spOf x.S (k : Int)).pc = 4) : Calls Tryz.prog 34 #[.pointer (some ⟨c.gl, 0, none⟩), .int .i64 (k : Int)] W (AftI c P { x with σ := x.σ.op 2 (P.cw (P.nd k)) true 1, S := x.S.set k { spOf x.S (k : Int) with a := 1 } } 10 W) := by
  have HO := Lib.hid (of_co K D k hk)
  have ho : x.σ.ops ≤ 1000000 := by have := H.ops; omega
  have HF := Lib.hid (fun W' (K' : CoAt W' c P x) => store_any c.ga c.ha x.σ W' K'.d.ar ho (P.cw (P.nd k)) 1)
  have HK := Lib.hid K
  have HPC := Lib.hid h
  have i2 : (k : Int) < (P.T : Int) := by omega
  have HD := Lib.hid (show decSp { spOf x.S (k : Int) with a := 1 } = (decSp (spOf x.S (k : Int))).set 1 (.int .i64 1) from rfl)
  clear K H h
  have c8 := HK.out.cells.2.2.2.2.2
  go_enter Tryz.func34, Tryz.ntmps34
  go_upto_region 3 with (go_at_call 42; refine HO.out.mono ?_; rintro e w2 ⟨rfl, hb2⟩; have HB2 := Lib.hid hb2; clear hb2)
  have hb3 := HB2.out.trans ((below_new w2 (.cells #[.pointer (some ⟨c.lf (P.nd k), 0, none⟩), .int .i64 (P.cw (P.nd k))] 81)).mono HB2.out.size)
  have hx3 := blk_new w2 (.cells #[.pointer (some ⟨c.lf (P.nd k), 0, none⟩), .int .i64 (P.cw (P.nd k))] 81)
  have hcol := HK.out.s.fresh _ HB2.out.size
  have hnb := lt_of_blk hx3
  generalize w2.alloc (.cells #[.pointer (some ⟨c.lf (P.nd k), 0, none⟩), .int .i64 (P.cw (P.nd k))] 81) = W3 at *
  generalize w2.heap.size = nb at *
  have HB3 := Lib.hid hb3
  have HK3 := Lib.hid (HK.out.same hb3)
  have n0 := blk_cell hx3 0 (by simp)
  have n1 := blk_cell hx3 1 (by simp)
  simp at n0 n1
  have HN0 := Lib.hid n0
  have HN1 := Lib.hid n1
  have HCOL := Lib.hid hcol
  clear hx3 hb3 HB2 HO hcol c8
  obtain ⟨p0, p1, -, -, pf⟩ := HK3.out.spots hk
  obtain ⟨l0, -, l5, l6, -, l8⟩ := HK3.out.cells
  rw [HPC.out] at p0
  have pf0 := pf (k * 4)
  have pf1 := pf (k * 4 + 1)
  clear pf
  go_upto_region 17 with fail
  have SW0 : W3.drew.cell? ⟨c.gl, 0, none⟩ = some (.pointer (some ⟨c.ga, 0, none⟩)) ∧ W3.drew.cell? ⟨nb, 1, none⟩ = some (.int .i64 (P.cw (P.nd k))) := ⟨l0, n1⟩
  refine wp_region_held_drew (S := fun V => V.cell? ⟨c.gl, 0, none⟩ = some (.pointer (some ⟨c.ga, 0, none⟩)) ∧ V.cell? ⟨nb, 1, none⟩ = some (.int .i64 (P.cw (P.nd k)))) (by kernel_rfl) SW0 (fun hHeld => ?_)
  have HKd := Lib.hid (HK3.out.same (show Below W3.heap.size W3 W3.drew from Below.drew (Below.refl _ _)))
  have HBd := Lib.hid (show Below W.heap.size W W3.drew from Below.drew HB3.out)
  have hnd9 : nb < W3.drew.heap.size := hnb
  have HN1d := Lib.hid (show W3.drew.cell? ⟨nb, 1, none⟩ = some (.int .i64 (P.cw (P.nd k))) from n1)
  have HN0d := Lib.hid (show W3.drew.cell? ⟨nb, 0, none⟩ = some (.pointer (some ⟨c.lf (P.nd k), 0, none⟩)) from n0)
  clear p0 p1 l0 l5 l6 l8 pf0 pf1 n0 n1 HK3 HB3 HN0 HN1 hnb
  generalize W3.drew = X0 at *
  refine take_to 0 (some 65) (v := ?_) rfl rfl (by kernel_rfl) (by kernel_rfl) (by kernel_rfl) (fun _ _ _ h => h) (Or.inl ⟨by rfl, ?_⟩) (by first | trivial | assumption) ?_
  rotate_left
  focus (intro w hSw; (try dsimp only at hSw); go_simp; (try with_reducible rfl))
  simp only [Act.put, List.setIfInBounds_toArray, List.set_cons_zero, List.set_cons_succ]
  refine take_to 1 (some 66) (v := ?_) rfl rfl (by kernel_rfl) (by kernel_rfl) (by kernel_rfl) (fun _ _ _ h => h) (Or.inl ⟨by rfl, ?_⟩) (by first | trivial | assumption) ?_
  rotate_left
  focus (intro w hSw; (try dsimp only at hSw); go_simp; (try with_reducible rfl))
  simp only [Act.put, List.setIfInBounds_toArray, List.set_cons_zero, List.set_cons_succ]
  refine take_to 2 (some 67) (v := ?_) rfl rfl (by kernel_rfl) (by kernel_rfl) (by kernel_rfl) (fun _ _ _ h => h) (Or.inl ⟨by rfl, ?_⟩) (by first | trivial | assumption) ?_
  rotate_left
  focus (intro w hSw; (try dsimp only at hSw); go_simp; (try with_reducible rfl))
  simp only [Act.put, List.setIfInBounds_toArray, List.set_cons_zero, List.set_cons_succ]
  refine take_to 3 (some 68) (v := ?_) rfl rfl (by kernel_rfl) (by kernel_rfl) (by kernel_rfl) (fun _ _ _ h => h) (Or.inl ⟨by rfl, ?_⟩) (by first | trivial | assumption) ?_
  rotate_left
  focus (intro w hSw; (try dsimp only at hSw); go_simp; (try with_reducible rfl))
  simp only [Act.put, List.setIfInBounds_toArray, List.set_cons_zero, List.set_cons_succ]
  refine take_to 4 (some 69) (v := ?_) rfl rfl (by kernel_rfl) (by kernel_rfl) (by kernel_rfl) (fun _ _ _ h => h) (Or.inl ⟨by rfl, ?_⟩) (by first | trivial | assumption) ?_
  rotate_left
  focus (intro w hSw; (try dsimp only at hSw); go_simp; (try with_reducible rfl))
  simp only [Act.put, List.setIfInBounds_toArray, List.set_cons_zero, List.set_cons_succ]
  refine take_to 5 (some 70) (v := ?_) rfl rfl (by kernel_rfl) (by kernel_rfl) (by kernel_rfl) (fun _ _ _ h => h) (Or.inl ⟨by rfl, ?_⟩) (by first | trivial | assumption) ?_
  rotate_left
  focus (intro w hSw; (try dsimp only at hSw); go_simp; (try with_reducible rfl))
  simp only [Act.put, List.setIfInBounds_toArray, List.set_cons_zero, List.set_cons_succ]
  refine wpAnyH_ready (rs := [6]) (by kernel_rfl) (by simp) ?_
  refine AllReadyH.cons rfl (fun K hK => ?_) AllReadyH.nil
  go_simp
  refine (HF.out _ HKd.out).mono ?_
  rintro e w4 ⟨rfl, hf4, hm4⟩
  have h4 := HKd.out.wrd hf4 hm4
  have HK4 := Lib.hid h4.1
  have HP4 := Lib.hid ((Kp.of_below HBd.out).trans h4.2)
  have SW4 : w4.cell? ⟨c.gl, 0, none⟩ = some (.pointer (some ⟨c.ga, 0, none⟩)) ∧ w4.cell? ⟨nb, 1, none⟩ = some (.int .i64 (P.cw (P.nd k))) := ⟨HK4.out.cells.1, (h4.2.cell (p := ⟨nb, 1, none⟩) hnd9 HCOL.out).trans HN1d.out⟩
  clear hf4 hm4 h4
  go_simp
  refine hK.out _ _ SW4 (fun hHeld => ?_)
  refine wpAnyH_done (by kernel_rfl) ?_ _
  obtain ⟨p0, p1, -, -, pf⟩ := HK4.out.spots hk
  have pf1 := pf (k * 4 + 1)
  have HF9 := Lib.hid (HK4.out.spot hk 1 (by omega) (.int .i64 1) { spOf x.S (k : Int) with a := 1 } HD.out)
  clear pf
  go_wp2_with fail
  go_ret
  exact ⟨rfl, HF9.out.1, HP4.out.trans HF9.out.2⟩
end
end Go.Proofs.YtfnmggmgdmokcaaGreat.Cm

