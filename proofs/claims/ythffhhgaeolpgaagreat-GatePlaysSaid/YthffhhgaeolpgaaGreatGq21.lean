/- Merged texts: Fl3, Fl7, Flz, Rdo, Rfp, Ga1. -/
import Derived.Test.YthffhhgaeolpgaaGreatGq20
set_option linter.unusedVariables false
/- Layer 20's law FlatNone. -/
namespace Go.Proofs.YthffhhgaeolpgaaGreat.Fl
open Go.RowKit Go.Proofs.YthffhhgaeolpgaaGreat.Ara Go.Proofs.YthffhhgaeolpgaaGreat.Lok

theorem frame36 {a : Act} (h : a.tmps.size = 36) (hd : a.defers = []) : ∃ u : Nat → Value, a = { tmps := #[u 0, u 1, u 2, u 3, u 4, u 5, u 6, u 7, u 8, u 9, u 10, u 11, u 12, u 13, u 14, u 15, u 16, u 17, u 18, u 19, u 20, u 21, u 22, u 23, u 24, u 25, u 26, u 27, u 28, u 29, u 30, u 31, u 32, u 33, u 34, u 35], defers := [] } ∧ ∀ n, a.tmps.getD n undef = u n := by
  refine ⟨fun n => a.tmps.getD n undef, ?_, fun _ => rfl⟩
  have h1 := arr_lit a.tmps h
  cases a with
  | mk t d =>
    simp only at hd h1
    subst hd
    congr 1
set_option maxHeartbeats 8000000 in
set_option maxRecDepth 100000 in
theorem awake20 (w : World) : Calls Tryz.prog 9 #[] w fun e w' => e = .returned (.bool true) ∧ Below w.heap.size w w' := by
  have q1 := fun a b c d W => sfld0 a b c d W
  go_enter Tryz.func9, Tryz.ntmps9
  go_wp2_with fail
  refine (new_at 9 _ _ rfl).mono ?_
  rintro e w1 ⟨rfl, hat⟩
  have HN : Calls Tryz.prog 12 #[.pointer (some ⟨w.heap.size + 1, 0, none⟩), .int .i64 1, .int .i64 2, .int .i64 4] w1 _ := new_tas (w.heap.size + 1) w.heap.size (Ar.fresh (room 9)) ⟨[0, 0, 0, 0, 0, 0, 0, 0, 0], 1, 0, 0, 0, false⟩ w1 hat.1 (by have := hat.2.1; omega) 2 (by omega) (by omega) 4 (by omega) (by omega) 1 rfl
  replace HN := Lib.hid HN
  go_wp2_with fail
  refine HN.out.mono ?_
  rintro e w2 ⟨gf, gl, hs, rfl, hf, hk, ⟨hgf, hgl, hhs, hne⟩, hm⟩
  have hz := hat.2.1
  have HF := Lib.hid hf
  have HK := Lib.hid (show Ta.LkAt w2 gl (w.heap.size + 1) w.heap.size hs ⟨1, 4⟩ (⟨[0, 0, 0, 0, 0, 0, 0, 0, 0], 1, 0, 0, 0, false⟩ : Ar) ([⟨0, 0, 0, 0⟩, ⟨0, 0, 0, 0⟩] : List Sp) from hk)
  have HB := Lib.hid (hat.2.2.trans (hm.below (by omega) (by simp)))
  clear hf hk hm HN hat
  go_wp2_with fail
  refine (new_kind _ _).mono ?_
  rintro e wx ⟨rfl, hwx⟩
  obtain rfl := hwx.symm
  go_wp2_with fail
  have HC : Calls Tryz.prog 50 #[.pointer (some ⟨gf, 0, none⟩), .int .i64 1] w2 _ := Ask_fl gf gl w2 HF.out 1 true _ (Ta.ask_yes gl (w.heap.size + 1) w.heap.size hs _ _ _ w2 HK.out 1 (by decide) rfl [⟨0, 0, 0, 0⟩, ⟨1, 1, 0, 0⟩] rfl)
  refine HC.mono ?_
  rintro e wn ⟨rfl, hk, hm⟩
  replace HF := Lib.hid (HF.out.mod hm (by simp; omega))
  replace HB := Lib.hid (HB.out.trans (hm.below (by have := HK.out.2.1.lt; omega) (by simp; omega)))
  replace HK := Lib.hid hk
  clear hk hm HC
  go_wp2_with fail
  have HC : Calls Tryz.prog 51 #[.pointer (some ⟨gf, 0, none⟩), .int .i64 1] _ fun e w' => e = .returned (.bool false) ∧ Below _ _ w' := Alone_fl gf gl (w.heap.size + 1) w.heap.size hs _ _ _ _ HF.out HK.out 1 false rfl
  refine HC.mono ?_
  rintro e wn ⟨rfl, hb⟩
  replace HF := Lib.hid (HF.out.same hb)
  replace HB := Lib.hid (HB.out.trans (hb.mono (by have := HK.out.2.1.lt; omega)))
  replace HK := Lib.hid (HK.out.same hb)
  clear hb HC
  go_wp2_with fail
  have HC : Calls Tryz.prog 52 #[.pointer (some ⟨gf, 0, none⟩), .int .i64 1] _ _ := Step_fl gf gl _ HF.out 1 true _ (Ta.step_one_yes gl (w.heap.size + 1) w.heap.size hs _ _ _ _ HK.out 1 (by decide) (by decide) rfl rfl [⟨0, 0, 0, 0⟩, ⟨10, 1, 0, 0⟩] rfl)
  refine HC.mono ?_
  rintro e wn ⟨rfl, hk, hm⟩
  replace HF := Lib.hid (HF.out.mod hm (by simp; omega))
  replace HB := Lib.hid (HB.out.trans (hm.below (by have := HK.out.2.1.lt; omega) (by simp; omega)))
  replace HK := Lib.hid hk
  clear hk hm HC
  go_wp2_with fail
  have HC : Calls Tryz.prog 51 #[.pointer (some ⟨gf, 0, none⟩), .int .i64 1] _ fun e w' => e = .returned (.bool true) ∧ Below _ _ w' := Alone_fl gf gl (w.heap.size + 1) w.heap.size hs _ _ _ _ HF.out HK.out 1 true rfl
  refine HC.mono ?_
  rintro e wn ⟨rfl, hb⟩
  replace HF := Lib.hid (HF.out.same hb)
  replace HB := Lib.hid (HB.out.trans (hb.mono (by have := HK.out.2.1.lt; omega)))
  replace HK := Lib.hid (HK.out.same hb)
  clear hb HC
  go_wp2_with fail
  have HC : Calls Tryz.prog 24 #[.pointer (some ⟨gf, 0, none⟩), .int .i64 1] _ _ := Spot_fl gf gl (w.heap.size + 1) w.heap.size hs _ _ _ _ HF.out HK.out 1 10 1 0 0 rfl
  refine HC.mono ?_
  rintro e wn ⟨rfl, hb⟩
  replace HF := Lib.hid (HF.out.same hb)
  replace HB := Lib.hid (HB.out.trans (hb.mono (by have := HK.out.2.1.lt; omega)))
  replace HK := Lib.hid (HK.out.same hb)
  clear hb HC
  go_wp2_with fail
  have HC : Calls Tryz.prog 53 #[.pointer (some ⟨gf, 0, none⟩), .int .i64 1] _ _ := Leave_fl gf gl _ HF.out 1 true _ (Ta.leave_yes gl (w.heap.size + 1) w.heap.size hs _ _ _ _ HK.out 1 (by decide) rfl [⟨0, 0, 0, 0⟩, ⟨11, 1, 0, 0⟩] rfl)
  refine HC.mono ?_
  rintro e wn ⟨rfl, hk, hm⟩
  replace HF := Lib.hid (HF.out.mod hm (by simp; omega))
  replace HB := Lib.hid (HB.out.trans (hm.below (by have := HK.out.2.1.lt; omega) (by simp; omega)))
  replace HK := Lib.hid hk
  clear hk hm HC
  go_wp2_with fail
  have HC : Calls Tryz.prog 52 #[.pointer (some ⟨gf, 0, none⟩), .int .i64 1] _ _ := Step_fl gf gl _ HF.out 1 true _ (Ta.step_out gl (w.heap.size + 1) w.heap.size hs _ _ _ _ HK.out 1 (by decide) (by decide) rfl [⟨0, 0, 0, 0⟩, ⟨0, 1, 0, 0⟩] rfl)
  refine HC.mono ?_
  rintro e wn ⟨rfl, hk, hm⟩
  replace HF := Lib.hid (HF.out.mod hm (by simp; omega))
  replace HB := Lib.hid (HB.out.trans (hm.below (by have := HK.out.2.1.lt; omega) (by simp; omega)))
  replace HK := Lib.hid hk
  clear hk hm HC
  go_wp2_with fail
  refine (kind_yes gf 1 _ _ _ HF.out (by decide)).mono ?_
  rintro e wx ⟨rfl, hwx⟩
  obtain rfl := hwx.symm
  go_wp2_with fail
  have HC : Calls Tryz.prog 26 #[.pointer (some ⟨gf, 0, none⟩)] _ fun e w' => e = .returned (.int .i64 2) ∧ w' = _ := Slots_fl gf gl (w.heap.size + 1) w.heap.size hs _ _ _ _ HF.out HK.out
  refine (HC).mono ?_
  rintro e wx ⟨rfl, hwx⟩
  obtain rfl := hwx.symm
  go_wp2_with fail
  clear HC
  refine (size_mcs _).mono ?_
  rintro e wn ⟨rfl, hb⟩
  replace HB := Lib.hid (HB.out.trans (hb.mono HB.out.size))
  clear hb HF HK
  go_wp2_with fail
  refine (size_par _).mono ?_
  rintro e wn ⟨rfl, hb⟩
  replace HB := Lib.hid (HB.out.trans (hb.mono HB.out.size))
  clear hb
  go_wp2_with fail
  refine (door_clh _).mono ?_
  rintro e wx ⟨rfl, hwx⟩
  obtain rfl := hwx.symm
  go_wp2_with fail
  go_ret
  exact ⟨rfl, HB.out⟩
theorem reads_ac {H : Type} {enc : TypeId × Value → H} : Reads enc Tryz.prog 40 decAc (fun e => isI64 e.kind ∧ isI64 e.i) :=
  (reads_s2 (d0 := Value.int .i64) (d1 := Value.int .i64) Tryz.underlying40 (by kernel_rfl) (by kernel_rfl) (reads_i64 Tryz.underlying3) (reads_i64 Tryz.underlying3)).map
    (fun p => ⟨p.1, p.2⟩) (fun _ => rfl) (fun _ h => h)

end Go.Proofs.YthffhhgaeolpgaaGreat.Fl

/- Layer 20's law FlatOne. -/
namespace Go.Proofs.YthffhhgaeolpgaaGreat.Fl
open Go.RowKit Go.Proofs.YthffhhgaeolpgaaGreat.Ara Go.Proofs.YthffhhgaeolpgaaGreat.Lok

theorem frame81 {a : Act} (h : a.tmps.size = 81) (hd : a.defers = []) : ∃ u : Nat → Value, a = { tmps := #[u 0, u 1, u 2, u 3, u 4, u 5, u 6, u 7, u 8, u 9, u 10, u 11, u 12, u 13, u 14, u 15, u 16, u 17, u 18, u 19, u 20, u 21, u 22, u 23, u 24, u 25, u 26, u 27, u 28, u 29, u 30, u 31, u 32, u 33, u 34, u 35, u 36, u 37, u 38, u 39, u 40, u 41, u 42, u 43, u 44, u 45, u 46, u 47, u 48, u 49, u 50, u 51, u 52, u 53, u 54, u 55, u 56, u 57, u 58, u 59, u 60, u 61, u 62, u 63, u 64, u 65, u 66, u 67, u 68, u 69, u 70, u 71, u 72, u 73, u 74, u 75, u 76, u 77, u 78, u 79, u 80], defers := [] } ∧ ∀ n, a.tmps.getD n undef = u n := by
  refine ⟨fun n => a.tmps.getD n undef, ?_, fun _ => rfl⟩
  have h1 := arr_lit a.tmps h
  cases a with
  | mk t d =>
    simp only at hd h1
    subst hd
    congr 1
set_option maxHeartbeats 4000000 in
set_option maxRecDepth 100000 in
theorem do_flat (gf gl ga ha hs : Nat) (p : PK) (σ : Ar) (sp : List Sp) (w : World) (K : FLAt w gf gl ga ha hs p σ sp) (n m : Nat) (ho : OkK p σ sp n m) (hm : m ≤ 100000) (kd i : Int) :
    Calls Tryz.prog 18 #[.pointer (some ⟨gf, 0, none⟩), .agg #[.int .i64 kd, .int .i64 i]] w fun e w' => e = .returned (.bool (doK p σ sp kd i).1) ∧ FLAt w' gf gl ga ha hs p (doK p σ sp kd i).2.1 (doK p σ sp kd i).2.2 ∧ Mod [ga, ha, hs] w w' := by
  by_cases hk : kd < 0 ∨ 3 < kd
  · rw [do_else p σ sp kd i hk]
    have k0 := ibeq_no (show ¬ kd = 0 by omega)
    have k1 := ibeq_no (show ¬ kd = 1 by omega)
    have k2 := ibeq_no (show ¬ kd = 2 by omega)
    have k3 := ibeq_no (show ¬ kd = 3 by omega)
    have HH := Lib.hid (K.same (below_new w (.cells #[.int .i64 kd, .int .i64 i] 40)))
    have HB := Lib.hid (Mod.of_below (S := [ga, ha, hs]) (below_new w (.cells #[.int .i64 kd, .int .i64 i] 40)))
    clear K hk ho hm
    go_enter Tryz.func18, Tryz.ntmps18
    go_wp2_with fail
    go_ret
    exact ⟨rfl, HH.out, HB.out⟩
  rcases (show kd = 0 ∨ kd = 1 ∨ kd = 2 ∨ kd = 3 by omega) with rfl | rfl | rfl | rfl
  · have HC := Lib.hid (fun W (K : FLAt W gf gl ga ha hs p σ sp) => Step_flat K n m ho hm i)
    have HH := Lib.hid (K.same (below_new w (.cells #[.int .i64 0, .int .i64 i] 40)))
    have HB := Lib.hid (Mod.of_below (S := [ga, ha, hs]) (below_new w (.cells #[.int .i64 0, .int .i64 i] 40)))
    clear K hk ho hm
    generalize doK p σ sp 0 i = r at *
    go_enter Tryz.func18, Tryz.ntmps18
    go_wp2_with fail
    refine (HC.out _ HH.out).mono ?_
    rintro e w2 ⟨rfl, h2, hm2⟩
    have H2 := Lib.hid h2
    clear h2
    go_wp2_with fail
    go_ret
    exact ⟨rfl, H2.out, HB.out.trans hm2⟩
  · have HC := Lib.hid (fun W (K : FLAt W gf gl ga ha hs p σ sp) => Ask_flat K n m ho hm i)
    have HH := Lib.hid (K.same (below_new w (.cells #[.int .i64 1, .int .i64 i] 40)))
    have HB := Lib.hid (Mod.of_below (S := [ga, ha, hs]) (below_new w (.cells #[.int .i64 1, .int .i64 i] 40)))
    clear K hk ho hm
    generalize doK p σ sp 1 i = r at *
    go_enter Tryz.func18, Tryz.ntmps18
    go_wp2_with fail
    refine (HC.out _ HH.out).mono ?_
    rintro e w2 ⟨rfl, h2, hm2⟩
    have H2 := Lib.hid h2
    clear h2
    go_wp2_with fail
    go_ret
    exact ⟨rfl, H2.out, HB.out.trans hm2⟩
  · have HC := Lib.hid (fun W (K : FLAt W gf gl ga ha hs p σ sp) => Leave_flat K n m ho hm i)
    have HH := Lib.hid (K.same (below_new w (.cells #[.int .i64 2, .int .i64 i] 40)))
    have HB := Lib.hid (Mod.of_below (S := [ga, ha, hs]) (below_new w (.cells #[.int .i64 2, .int .i64 i] 40)))
    clear K hk ho hm
    generalize doK p σ sp 2 i = r at *
    go_enter Tryz.func18, Tryz.ntmps18
    go_wp2_with fail
    refine (HC.out _ HH.out).mono ?_
    rintro e w2 ⟨rfl, h2, hm2⟩
    have H2 := Lib.hid h2
    clear h2
    go_wp2_with fail
    go_ret
    exact ⟨rfl, H2.out, HB.out.trans hm2⟩
  · have HC := Lib.hid (fun W (K : FLAt W gf gl ga ha hs p σ sp) => Alone_flat K n m ho hm i)
    have HH := Lib.hid (K.same (below_new w (.cells #[.int .i64 3, .int .i64 i] 40)))
    have HB := Lib.hid (Mod.of_below (S := [ga, ha, hs]) (below_new w (.cells #[.int .i64 3, .int .i64 i] 40)))
    clear K hk ho hm
    generalize doK p σ sp 3 i = r at *
    go_enter Tryz.func18, Tryz.ntmps18
    go_wp2_with fail
    refine (HC.out _ HH.out).mono ?_
    rintro e w2 ⟨rfl, h2, hm2⟩
    have H2 := Lib.hid h2
    clear h2
    go_wp2_with fail
    go_ret
    exact ⟨rfl, H2.out, HB.out.trans hm2⟩
theorem zeros_getD (n k : Nat) : (zerosW n).getD k 0 = 0 := by
  unfold zerosW
  rw [List.getD_eq_getElem?_getD, List.getElem?_replicate]
  split <;> rfl
end Go.Proofs.YthffhhgaeolpgaaGreat.Fl

/- Package flat: Size and Door for all arguments; the document's too. -/
namespace Go.Proofs.YthffhhgaeolpgaaGreat.Fl
open Go.RowKit Go.Proofs.YthffhhgaeolpgaaGreat.Ara Go.Proofs.YthffhhgaeolpgaaGreat.Lok

theorem fresh_len (t : Int) (h0 : 0 ≤ t) (h : t ≤ 4096) : (Ar.fresh (room t)).ws.length = t.toNat := by
  obtain ⟨k, rfl⟩ := Int.eq_ofNat_of_zero_le h0
  simp [Ar.fresh, zerosW]
  unfold room
  rw [if_neg (by omega), if_neg (by omega)]
  omega
theorem size_lt {kind : Int} {n : Nat} {par : Int} (hM : mayK kind n par) : sizeK kind n par ≤ 100 := by
  obtain ⟨_, h1, h2, h3⟩ := hM
  unfold sizeK
  repeat (first | split | omega)
theorem first_t (kind : Int) (n : Nat) (par : Int) (a : Nat) (σ : Ar) : (firstK kind n par a σ).1.t = σ.t := by
  unfold firstK
  split
  · exact op_t _ _ _ _ _
  split
  · exact op_t _ _ _ _ _
  · rfl
set_option maxRecDepth 100000 in
theorem psize_ok (kind : Int) (n : Nat) (par : Int) (hM : mayK kind n par) (w : World) : Calls Tryz.prog 14 #[.int .i64 kind, .int .i64 (n : Int), .int .i64 par] w fun e w' => e = .returned (.int .i64 (sizeK kind n par : Nat)) ∧ Below w.heap.size w w' := by
  have hl : (Ar.fresh (room 4096)).ws.length = 4096 := fresh_len 4096 (by decide) (by decide)
  have hsz := size_lt hM
  have HM := Lib.hid hM
  have HL := Lib.hid hl
  clear hM hl
  go_enter Tryz.func14, Tryz.ntmps14
  go_wp2_with fail
  refine (new_at 4096 _ _ rfl).mono ?_
  rintro e w1 ⟨rfl, hat⟩
  have HN := Lib.hid (new_flat kind n par HM.out (w.heap.size + 1) w.heap.size _ w1 hat.1 (by have := hat.2.1; omega) (by rw [HL.out]; show 0 + _ ≤ _; omega) (by rw [HL.out]; omega) (by show 0 ≤ _; omega))
  have HB := Lib.hid hat.2.2
  have hz := hat.2.1
  clear hat
  go_wp2_with fail
  refine HN.out.mono ?_
  rintro e w2 ⟨gf, gl, hs, rfl, hk, _, hm⟩
  have HLn := Lib.hid (len_any _ _ _ _ hk.at_.facts.1)
  rw [first_t, show (({ Ar.fresh (room 4096) with t := (Ar.fresh (room 4096)).t + sizeK kind n par } : Ar)).t = sizeK kind n par from Nat.zero_add _] at HLn
  have hB := Lib.hid (HB.out.trans (hm.below (by omega) (by simp)))
  clear hk hm HN
  go_wp2_with fail
  refine (HLn.out).mono ?_
  rintro e wx ⟨rfl, hwx⟩
  obtain rfl := hwx.symm
  go_wp2_with fail
  go_ret
  exact ⟨rfl, hB.out⟩
set_option maxRecDepth 100000 in
theorem psize_no (kind n par : Int) (h : ¬ ((1 ≤ kind ∧ kind ≤ 5) ∧ argsOk kind n par)) (w : World) : Calls Tryz.prog 14 #[.int .i64 kind, .int .i64 n, .int .i64 par] w fun e w' => e = .returned (.int .i64 0) ∧ Below w.heap.size w w' := by
  by_cases hk : 1 ≤ kind ∧ kind ≤ 5
  · have HN := Lib.hid (fun q W => pbad q kind n par hk (fun ha => h ⟨hk, ha⟩) W)
    clear h hk
    go_enter Tryz.func14, Tryz.ntmps14
    go_wp2_with fail
    refine (new_at 4096 _ _ rfl).mono ?_
    rintro e w1 ⟨rfl, hat⟩
    have HB := Lib.hid hat.2.2
    clear hat
    go_wp2_with fail
    refine (HN.out _ _).mono ?_
    rintro e wx ⟨rfl, hwx⟩
    obtain rfl := hwx.symm
    go_wp2_with fail
    go_ret
    exact ⟨rfl, HB.out⟩
  · have HN := Lib.hid (fun q W => pnewK q kind n par (by omega) W)
    clear h hk
    go_enter Tryz.func14, Tryz.ntmps14
    go_wp2_with fail
    refine (new_at 4096 _ _ rfl).mono ?_
    rintro e w1 ⟨rfl, hat⟩
    have HB := Lib.hid hat.2.2
    clear hat
    go_wp2_with fail
    refine (HN.out _ _).mono ?_
    rintro e wx ⟨rfl, hwx⟩
    obtain rfl := hwx.symm
    go_wp2_with fail
    go_ret
    exact ⟨rfl, HB.out⟩
def doorK (kind : Int) : Int := if kind = 2 then 1 else if kind = 3 then 1 else if kind = 4 then 3 else if kind = 5 then 2 else 0
theorem pdoor (kind : Int) (w : World) : Calls Tryz.prog 16 #[.int .i64 kind] w fun e w' => e = .returned (.int .i64 (doorK kind)) ∧ w' = w := by
  by_cases h2 : kind = 2
  · subst h2
    go_enter Tryz.func16, Tryz.ntmps16
    go_wp2_with fail
    go_ret
    exact ⟨rfl, rfl⟩
  by_cases h3 : kind = 3
  · subst h3
    go_enter Tryz.func16, Tryz.ntmps16
    go_wp2_with fail
    go_ret
    exact ⟨rfl, rfl⟩
  by_cases h4 : kind = 4
  · subst h4
    go_enter Tryz.func16, Tryz.ntmps16
    go_wp2_with fail
    go_ret
    exact ⟨rfl, rfl⟩
  by_cases h5 : kind = 5
  · subst h5
    go_enter Tryz.func16, Tryz.ntmps16
    go_wp2_with fail
    go_ret
    exact ⟨rfl, rfl⟩
  have e2 := ibeq_no h2
  have e3 := ibeq_no h3
  have e4 := ibeq_no h4
  have e5 := ibeq_no h5
  have HD := Lib.hid (show doorK kind = 0 by unfold doorK; rw [if_neg h2, if_neg h3, if_neg h4, if_neg h5])
  clear h2 h3 h4 h5
  go_enter Tryz.func16, Tryz.ntmps16
  go_wp2_with fail
  go_ret
  exact ⟨by rw [HD.out]; rfl, by trivial⟩
theorem rdoor (kind : Int) (w : World) : Calls Tryz.prog 17 #[.int .i64 kind] w fun e w' => e = .returned (.int .i64 (doorK kind)) ∧ w' = w := by
  by_cases h2 : kind = 2
  · subst h2
    go_enter Tryz.func17, Tryz.ntmps17
    go_wp2_with fail
    go_ret
    exact ⟨rfl, rfl⟩
  by_cases h3 : kind = 3
  · subst h3
    go_enter Tryz.func17, Tryz.ntmps17
    go_wp2_with fail
    go_ret
    exact ⟨rfl, rfl⟩
  by_cases h4 : kind = 4
  · subst h4
    go_enter Tryz.func17, Tryz.ntmps17
    go_wp2_with fail
    go_ret
    exact ⟨rfl, rfl⟩
  by_cases h5 : kind = 5
  · subst h5
    go_enter Tryz.func17, Tryz.ntmps17
    go_wp2_with fail
    go_ret
    exact ⟨rfl, rfl⟩
  have e2 := ibeq_no h2
  have e3 := ibeq_no h3
  have e4 := ibeq_no h4
  have e5 := ibeq_no h5
  have HD := Lib.hid (show doorK kind = 0 by unfold doorK; rw [if_neg h2, if_neg h3, if_neg h4, if_neg h5])
  clear h2 h3 h4 h5
  go_enter Tryz.func17, Tryz.ntmps17
  go_wp2_with fail
  go_ret
  exact ⟨by rw [HD.out]; rfl, by trivial⟩
theorem rsize_ok (kind : Int) (n : Nat) (par : Int) (hM : mayK kind n par) (w : World) : Calls Tryz.prog 15 #[.int .i64 kind, .int .i64 (n : Int), .int .i64 par] w fun e w' => e = .returned (.int .i64 (sizeK kind n par : Nat)) ∧ w' = w := by
  rw [size_int hM]
  obtain ⟨⟨k1, k5⟩, ⟨n1, n2⟩, ha1, ha3⟩ := hM
  have n1' : (1 : Int) ≤ (n : Int) := by omega
  have n2' : (n : Int) ≤ 32 := by omega
  have d1 : decide ((n : Int) < 1) = false := decide_eq_false (by omega)
  have d2 : decide ((32 : Int) < n) = false := decide_eq_false (by omega)
  rcases (show kind = 1 ∨ kind = 2 ∨ kind = 3 ∨ kind = 4 ∨ kind = 5 by omega) with rfl | rfl | rfl | rfl | rfl
  · obtain ⟨m1, m2⟩ := ha1 rfl
    go_enter Tryz.func15, Tryz.ntmps15
    go_wp2_with fail
    go_ret
    exact ⟨rfl, rfl⟩
  · go_enter Tryz.func15, Tryz.ntmps15
    go_wp2_with fail
    go_ret
    exact ⟨rfl, rfl⟩
  · obtain ⟨m1, m2⟩ := ha3 rfl
    have e1 : IntKind.i64.wrap (1 + par) = 1 + par := IntWalk.i64_in _ (by omega)
    go_enter Tryz.func15, Tryz.ntmps15
    go_wp2_with fail
    go_ret
    exact ⟨rfl, rfl⟩
  · have e1 : IntKind.i64.wrap (2 * (n : Int)) = 2 * (n : Int) := IntWalk.i64_in _ (by omega)
    have e2 : IntKind.i64.wrap (1 + 2 * (n : Int)) = 1 + 2 * (n : Int) := IntWalk.i64_in _ (by omega)
    go_enter Tryz.func15, Tryz.ntmps15
    go_wp2_with fail
    go_ret
    exact ⟨rfl, rfl⟩
  · have e1 : IntKind.i64.wrap ((n : Int) + 2) = (n : Int) + 2 := IntWalk.i64_in _ (by omega)
    go_enter Tryz.func15, Tryz.ntmps15
    go_wp2_with fail
    go_ret
    exact ⟨rfl, rfl⟩
theorem rsize_no (kind n par : Int) (h : ¬ ((1 ≤ kind ∧ kind ≤ 5) ∧ argsOk kind n par)) (w : World) : Calls Tryz.prog 15 #[.int .i64 kind, .int .i64 n, .int .i64 par] w fun e w' => e = .returned (.int .i64 0) ∧ w' = w := by
  by_cases n1 : n < 1
  · clear h
    go_enter Tryz.func15, Tryz.ntmps15
    go_wp2_with fail
    go_ret
    exact ⟨rfl, rfl⟩
  have d1 : decide (n < 1) = false := decide_eq_false n1
  by_cases n2 : 32 < n
  · clear h
    go_enter Tryz.func15, Tryz.ntmps15
    go_wp2_with fail
    go_ret
    exact ⟨rfl, rfl⟩
  have d2 : decide (32 < n) = false := decide_eq_false n2
  unfold argsOk at h
  by_cases hk : kind = 1
  · subst hk
    have e1 := ibeq (rfl : (1 : Int) = 1)
    by_cases p1 : 1 ≤ par
    · have p2 : ¬ par ≤ 1024 := fun hh => h ⟨by omega, by omega, by omega, by omega⟩
      clear h
      go_enter Tryz.func15, Tryz.ntmps15
      go_wp2_with fail
      go_ret
      exact ⟨rfl, rfl⟩
    · clear h
      go_enter Tryz.func15, Tryz.ntmps15
      go_wp2_with fail
      go_ret
      exact ⟨rfl, rfl⟩
  by_cases hk3 : kind = 3
  · subst hk3
    by_cases p1 : 1 ≤ par
    · have p2 : ¬ par ≤ 32 := fun hh => h ⟨by omega, by omega, by omega, by omega⟩
      clear h hk
      go_enter Tryz.func15, Tryz.ntmps15
      go_wp2_with fail
      go_ret
      exact ⟨rfl, rfl⟩
    · clear h hk
      go_enter Tryz.func15, Tryz.ntmps15
      go_wp2_with fail
      go_ret
      exact ⟨rfl, rfl⟩
  have hb : ¬ (kind = 2 ∨ kind = 4 ∨ kind = 5) := fun hh => h ⟨by omega, by omega, by omega, by omega⟩
  have e1 := ibeq_no hk
  have e2 := ibeq_no (show ¬ kind = 2 by omega)
  have e3 := ibeq_no hk3
  have e4 := ibeq_no (show ¬ kind = 4 by omega)
  have e5 := ibeq_no (show ¬ kind = 5 by omega)
  clear h hb hk hk3
  go_enter Tryz.func15, Tryz.ntmps15
  go_wp2_with fail
  go_ret
  exact ⟨rfl, rfl⟩
end Go.Proofs.YthffhhgaeolpgaaGreat.Fl

/- Layer 20's law: an act of the document's lock; both locks side by side. -/
namespace Go.Proofs.YthffhhgaeolpgaaGreat.Fl
open Go.RowKit Go.Proofs.YthffhhgaeolpgaaGreat.Ara Go.Proofs.YthffhhgaeolpgaaGreat.Lok

theorem ArAt.rms {base : Nat} {S : List Nat} {W W' : World} {g h : Nat} {σ : Ar} (k : ArAt W g h σ) (hm : RMs base S W W') (hg : g ∉ S) (hh : h ∉ S) : ArAt W' g h σ := by
  obtain ⟨h1, h2, A, c, h3, h4⟩ := k
  refine ⟨h1, h2, A, c, (hm.blk h3 (by decide) hg).trans h3, ?_⟩
  rcases h4 with h4 | ⟨a, b, c⟩
  · exact .inl h4
  · exact .inr ⟨a, b, (hm.blk c (by decide) hh).trans c⟩
theorem FLAt.rms {base : Nat} {S : List Nat} {W W' : World} {gf gl ga ha hs : Nat} {p : PK} {σ : Ar} {sp : List Sp} (k : FLAt W gf gl ga ha hs p σ sp) (hm : RMs base S W W') (h0 : gf ∉ S) (h1 : gl ∉ S) (h2 : ga ∉ S) (h3 : ha ∉ S) (h4 : hs ∉ S) : FLAt W' gf gl ga ha hs p σ sp := by
  refine ⟨(hm.blk k.fb (by decide) h0).trans k.fb, ?_, k.n1, k.n2, k.n3⟩
  have a := k.at_
  cases p with
  | tas P => obtain ⟨k1, k2, k3, ⟨c, k4⟩, k5⟩ := a; exact ⟨ArAt.rms k1 hm h2 h3, k2.rms hm h4, k3, ⟨c, (hm.blk k4 (by decide) h1).trans k4⟩, k5⟩
  | tic P => obtain ⟨k1, k2, k3, ⟨c, k4⟩, k5⟩ := a; exact ⟨ArAt.rms k1 hm h2 h3, k2.rms hm h4, k3, ⟨c, (hm.blk k4 (by decide) h1).trans k4⟩, k5⟩
  | par P => obtain ⟨k1, k2, k3, ⟨c, k4⟩, k5⟩ := a; exact ⟨ArAt.rms k1 hm h2 h3, k2.rms hm h4, k3, ⟨c, (hm.blk k4 (by decide) h1).trans k4⟩, k5⟩
  | mcs P => obtain ⟨k1, k2, k3, ⟨c, k4⟩, k5⟩ := a; exact ⟨ArAt.rms k1 hm h2 h3, k2.rms hm h4, k3, ⟨c, (hm.blk k4 (by decide) h1).trans k4⟩, k5⟩
  | clh P => obtain ⟨k1, k2, k3, ⟨c, k4⟩, k5⟩ := a; exact ⟨ArAt.rms k1 hm h2 h3, k2.rms hm h4, k3, ⟨c, (hm.blk k4 (by decide) h1).trans k4⟩, k5⟩
theorem FLAt.ints {W : World} {gf gl ga ha hs : Nat} {p : PK} {σ : Ar} {sp : List Sp} (k : FLAt W gf gl ga ha hs p σ sp) (ht : 1 ≤ σ.t) : ∀ x ∈ [ga, ha, hs], ¬ IntRow W x := by
  obtain ⟨⟨h1, h2, A, c, h3, h4⟩, k2, _⟩ := k.at_.facts
  intro x hx
  simp at hx
  rcases hx with rfl | rfl | rfl
  · exact not_int h3 (by decide)
  · rcases h4 with h4 | ⟨_, _, h5⟩
    · rw [h4] at h1; simp at h1; omega
    · exact not_int h5 (by decide)
  · exact spot_not_int k2
theorem OkK.taken {p : PK} {σ : Ar} {sp : List Sp} {n m : Nat} (h : OkK p σ sp n m) : 1 ≤ σ.t := by
  cases p with
  | tas P =>
    have hw := (Ta.OkP.inv h).hw
    simp [Ar.has] at hw
    omega
  | tic P => obtain ⟨S, T, hi, _⟩ := Tk.OkP.inv h; have := hi.n1; have := hi.n2; have := hi.p1; omega
  | par P => obtain ⟨S, T, hi, _⟩ := Pt.OkP.inv h; have := hi.n1; have := hi.n2; have := hi.p1; omega
  | mcs P => obtain ⟨q, hi⟩ := Mc.OkP.inv h; have := hi.t1; have := hi.t2; omega
  | clh P => obtain ⟨z, q, hi⟩ := Cl.OkP.inv h; have := hi.t1; have := hi.t2; omega
structure Duo (W : World) (gf gl ga ha hs gK gL gr base hr : Nat) (p : PK) (σ : Ar) (ρ : Rf) (sp : List Sp) (n m : Nat) : Prop where
  ok : OkK p σ sp n m
  al : Alk σ ρ
  fl : FLAt W gf gl ga ha hs p σ sp
  rl : RFL W gK gL gr base hr p ρ sp
  ap : ∀ x ∈ [gf, gl, ga, ha, hs], x ≠ gK ∧ x ≠ gL ∧ x ≠ gr ∧ x ≠ hr
theorem Duo.same {W W' : World} {gf gl ga ha hs gK gL gr base hr : Nat} {p : PK} {σ : Ar} {ρ : Rf} {sp : List Sp} {n m : Nat} (h : Duo W gf gl ga ha hs gK gL gr base hr p σ ρ sp n m) (hb : Below W.heap.size W W') : Duo W' gf gl ga ha hs gK gL gr base hr p σ ρ sp n m :=
  ⟨h.ok, h.al, h.fl.same hb, h.rl.same hb, h.ap⟩
theorem Duo.drewN {W : World} {gf gl ga ha hs gK gL gr base hr : Nat} {p : PK} {σ : Ar} {ρ : Rf} {sp : List Sp} {n m : Nat} (h : Duo W gf gl ga ha hs gK gL gr base hr p σ ρ sp n m) (k : Nat) : Duo (W.drewN k) gf gl ga ha hs gK gL gr base hr p σ ρ sp n m :=
  ⟨h.ok, h.al, h.fl.mod (S := []) ((Mod.refl _ _).drewN k) (by simp) (by simp) (by simp) (by simp) (by simp), h.rl.drewN k, h.ap⟩
section
variable {W : World} {gf gl ga ha hs gK gL gr base hr : Nat} {p : PK} {σ : Ar} {ρ : Rf} {sp : List Sp} {n m : Nat} (h : Duo W gf gl ga ha hs gK gL gr base hr p σ ρ sp n m)
include h
theorem Duo.prog {W' : World} {σ' : Ar} {sp' : List Sp} (hf : FLAt W' gf gl ga ha hs p σ' sp') (hm : Mod [ga, ha, hs] W W') : RFL W' gK gL gr base hr p ρ sp := by
  have hi := h.fl.ints h.ok.taken
  have ap := h.ap
  refine h.rl.mod hm (fun x hx => ⟨?_, hi x hx⟩) (fun hx => ?_) (fun hx => ?_) (fun hx => ?_)
  · exact (ap x (by simp at hx ⊢; rcases hx with rfl | rfl | rfl <;> simp)).2.2.1
  · exact (ap gK (by simp at hx ⊢; rcases hx with rfl | rfl | rfl <;> simp)).1 rfl
  · exact (ap gL (by simp at hx ⊢; rcases hx with rfl | rfl | rfl <;> simp)).2.1 rfl
  · exact (ap hr (by simp at hx ⊢; rcases hx with rfl | rfl | rfl <;> simp)).2.2.2 rfl
end
theorem Duo.both {W1 W2 : World} {gf gl ga ha hs gK gL gr base hr : Nat} {p : PK} {σ σ' : Ar} {ρ' : Rf} {sp sp' : List Sp} {n m : Nat} (ok : OkK p σ' sp' n m) (ap : ∀ x ∈ [gf, gl, ga, ha, hs], x ≠ gK ∧ x ≠ gL ∧ x ≠ gr ∧ x ≠ hr) (hf : FLAt W1 gf gl ga ha hs p σ' sp') (al : Alk σ' ρ') (hl : RFL W2 gK gL gr base hr p ρ' sp') (hm : RMs base [gr, hr] W1 W2) : Duo W2 gf gl ga ha hs gK gL gr base hr p σ' ρ' sp' n m := by
  have key : ∀ x ∈ [gf, gl, ga, ha, hs], x ∉ [gr, hr] := fun x hx => by have := ap x hx; simp; omega
  exact ⟨ok, al, hf.rms hm (key _ (by simp)) (key _ (by simp)) (key _ (by simp)) (key _ (by simp)) (key _ (by simp)), hl, ap⟩
set_option maxHeartbeats 4000000 in
set_option maxRecDepth 100000 in
theorem rdone {gK gL gr base hs : Nat} {p : PK} {σ : Ar} {ρ : Rf} {sp : List Sp} {w : World} (K : RFL w gK gL gr base hs p ρ sp) (hA : Alk σ ρ) (n m : Nat) (ho : OkK p σ sp n m) (hm : m ≤ 100000) (kd i : Int) :
    Calls Tryz.prog 19 #[.pointer (some ⟨gK, 0, none⟩), .agg #[.int .i64 kd, .int .i64 i]] w fun e w' => e = .returned (.bool (doK p σ sp kd i).1) ∧ RAct gK gL gr base hs p (doK p σ sp kd i) w w' := by
  by_cases hk : kd < 0 ∨ 3 < kd
  · rw [do_else p σ sp kd i hk]
    have k0 := ibeq_no (show ¬ kd = 0 by omega)
    have k1 := ibeq_no (show ¬ kd = 1 by omega)
    have k2 := ibeq_no (show ¬ kd = 2 by omega)
    have k3 := ibeq_no (show ¬ kd = 3 by omega)
    have HH := Lib.hid (K.same (below_new w (.cells #[.int .i64 kd, .int .i64 i] 40)))
    have HB := Lib.hid (Mod.of_below (S := [gr, hs]) (below_new w (.cells #[.int .i64 kd, .int .i64 i] 40)))
    have HA := Lib.hid hA
    clear K hk ho hm hA
    go_enter Tryz.func19, Tryz.ntmps19
    go_wp2_with fail
    go_ret
    exact ⟨rfl, ⟨ρ, HA.out, HH.out⟩, RMs.of_mod HB.out⟩
  rcases (show kd = 0 ∨ kd = 1 ∨ kd = 2 ∨ kd = 3 by omega) with rfl | rfl | rfl | rfl
  · have HC := Lib.hid (fun W (K : RFL W gK gL gr base hs p ρ sp) => rStep_flat K hA n m ho hm i)
    have HH := Lib.hid (K.same (below_new w (.cells #[.int .i64 0, .int .i64 i] 40)))
    have HB := Lib.hid (Mod.of_below (S := []) (below_new w (.cells #[.int .i64 0, .int .i64 i] 40)))
    clear K hk ho hm hA
    generalize doK p σ sp 0 i = r at *
    go_enter Tryz.func19, Tryz.ntmps19
    go_wp2_with fail
    refine (HC.out _ HH.out).mono ?_
    rintro e w2 ⟨rfl, h2, hm2⟩
    have H2 := Lib.hid h2
    clear h2
    go_wp2_with fail
    go_ret
    exact ⟨rfl, H2.out, (RMs.of_mod (HB.out.sub (by simp))).trans hm2⟩
  · have HC := Lib.hid (fun W (K : RFL W gK gL gr base hs p ρ sp) => rAsk_flat K hA n m ho hm i)
    have HH := Lib.hid (K.same (below_new w (.cells #[.int .i64 1, .int .i64 i] 40)))
    have HB := Lib.hid (Mod.of_below (S := []) (below_new w (.cells #[.int .i64 1, .int .i64 i] 40)))
    clear K hk ho hm hA
    generalize doK p σ sp 1 i = r at *
    go_enter Tryz.func19, Tryz.ntmps19
    go_wp2_with fail
    refine (HC.out _ HH.out).mono ?_
    rintro e w2 ⟨rfl, h2, hm2⟩
    have H2 := Lib.hid h2
    clear h2
    go_wp2_with fail
    go_ret
    exact ⟨rfl, H2.out, (RMs.of_mod (HB.out.sub (by simp))).trans hm2⟩
  · have HC := Lib.hid (fun W (K : RFL W gK gL gr base hs p ρ sp) => rLeave_flat K hA n m ho hm i)
    have HH := Lib.hid (K.same (below_new w (.cells #[.int .i64 2, .int .i64 i] 40)))
    have HB := Lib.hid (Mod.of_below (S := []) (below_new w (.cells #[.int .i64 2, .int .i64 i] 40)))
    clear K hk ho hm hA
    generalize doK p σ sp 2 i = r at *
    go_enter Tryz.func19, Tryz.ntmps19
    go_wp2_with fail
    refine (HC.out _ HH.out).mono ?_
    rintro e w2 ⟨rfl, h2, hm2⟩
    have H2 := Lib.hid h2
    clear h2
    go_wp2_with fail
    go_ret
    exact ⟨rfl, H2.out, (RMs.of_mod (HB.out.sub (by simp))).trans hm2⟩
  · have HC := Lib.hid (fun W (K : RFL W gK gL gr base hs p ρ sp) => rAlone_flat K hA n m ho hm i)
    have HH := Lib.hid (K.same (below_new w (.cells #[.int .i64 3, .int .i64 i] 40)))
    have HB := Lib.hid (Mod.of_below (S := []) (below_new w (.cells #[.int .i64 3, .int .i64 i] 40)))
    clear K hk ho hm hA
    generalize doK p σ sp 3 i = r at *
    go_enter Tryz.func19, Tryz.ntmps19
    go_wp2_with fail
    refine (HC.out _ HH.out).mono ?_
    rintro e w2 ⟨rfl, h2, hm2⟩
    have H2 := Lib.hid h2
    clear h2
    go_wp2_with fail
    go_ret
    exact ⟨rfl, H2.out, (RMs.of_mod (HB.out.sub (by simp))).trans hm2⟩
end Go.Proofs.YthffhhgaeolpgaaGreat.Fl

/- The document's lock of layer 20: New, any kind. -/
namespace Go.Proofs.YthffhhgaeolpgaaGreat.Fl
open Go.RowKit Go.Proofs.YthffhhgaeolpgaaGreat.Ara Go.Proofs.YthffhhgaeolpgaaGreat.Lok

theorem rbad_flat (gr base : Nat) (w : World) (hgr : gr < w.heap.size) (hbs : base ≤ w.heap.size) (kind n par : Int) (hk : 1 ≤ kind ∧ kind ≤ 5) (h : ¬ argsOk kind n par) : Calls Tryz.prog 13 #[.pointer (some ⟨gr, 0, none⟩), .int .i64 kind, .int .i64 n, .int .i64 par] w (RErr 1 gr base w) := by
  unfold argsOk at h
  rcases (show kind = 1 ∨ kind = 2 ∨ kind = 3 ∨ kind = 4 ∨ kind = 5 by omega) with rfl | rfl | rfl | rfl | rfl
  · exact rbad_1 gr base w hgr hbs n par (fun hh => h ⟨hh.1, fun _ => hh.2, fun e => by omega⟩)
  · exact rbad_2 gr base w hgr hbs n par (fun hh => h ⟨hh, fun e => by omega, fun e => by omega⟩)
  · exact rbad_3 gr base w hgr hbs n par (fun hh => h ⟨hh.1, fun e => by omega, fun _ => hh.2⟩)
  · exact rbad_4 gr base w hgr hbs n par (fun hh => h ⟨hh, fun e => by omega, fun e => by omega⟩)
  · exact rbad_5 gr base w hgr hbs n par (fun hh => h ⟨hh, fun e => by omega, fun e => by omega⟩)
section
variable (kind : Int) (n : Nat) (par : Int) (hM : mayK kind n par) (gr base : Nat) (σ : Ar) (ρ : Rf) (hA : Alk σ ρ) (w : World) (H : RfAt w gr base ρ) (hgr : gr < w.heap.size) (hbs : base ≤ w.heap.size)
include hM hA H hgr hbs
theorem rfull_flat (hl : σ.t ≤ σ.ws.length) (hr : ¬ σ.t + sizeK kind n par ≤ σ.ws.length) : Calls Tryz.prog 13 #[.pointer (some ⟨gr, 0, none⟩), .int .i64 kind, .int .i64 (n : Int), .int .i64 par] w (RErr 3 gr base w) := by
  have ht : ρ.take ((sizeK kind n par : Nat) : Int) = ((0, 3), ρ) := by
    unfold Rf.take
    rw [hA.len, hA.1, if_neg (by omega), if_pos (by omega)]
  rw [size_int hM] at ht
  obtain ⟨⟨k1, k5⟩, ⟨n1, n2⟩, ha1, ha3⟩ := hM
  have n1' : (1 : Int) ≤ (n : Int) := by omega
  have n2' : (n : Int) ≤ 32 := by omega
  rcases (show kind = 1 ∨ kind = 2 ∨ kind = 3 ∨ kind = 4 ∨ kind = 5 by omega) with rfl | rfl | rfl | rfl | rfl
  · obtain ⟨m1, m2⟩ := ha1 rfl
    exact rfull_1 gr base ρ w H hgr hbs n par n1' n2' m1 m2 ht
  · exact rfull_2 gr base ρ w H hgr hbs n par n1' n2' ht
  · obtain ⟨m1, m2⟩ := ha3 rfl
    exact rfull_3 gr base ρ w H hgr hbs n par n1' n2' m1 m2 ht
  · exact rfull_4 gr base ρ w H hgr hbs n par n1' n2' ht
  · exact rfull_5 gr base ρ w H hgr hbs n par n1' n2' ht
theorem rnew_flat (hr : σ.t + sizeK kind n par ≤ σ.ws.length) (hw : σ.ws.length ≤ 4096) (ho : σ.ops < 1000000) :
    Calls Tryz.prog 13 #[.pointer (some ⟨gr, 0, none⟩), .int .i64 kind, .int .i64 (n : Int), .int .i64 par] w fun e w' => ∃ ρ', Alk (firstK kind n par (σ.t + 1) { σ with t := σ.t + sizeK kind n par }).1 ρ' ∧ RNew (pkK kind par (σ.t + 1)) (firstK kind n par (σ.t + 1) { σ with t := σ.t + sizeK kind n par }).2 ρ' gr base w e w' := by
  have hA1 := hA.take ((sizeK kind n par : Nat) : Int)
  rw [take_ok hr] at hA1
  obtain ⟨e1, hA2⟩ := hA1
  have ht : ρ.take ((sizeK kind n par : Nat) : Int) = (((σ.t : Int) + 1, 0), (ρ.take ((sizeK kind n par : Nat) : Int)).2) := Prod.ext e1 rfl
  generalize (ρ.take ((sizeK kind n par : Nat) : Int)).2 = ρ1 at *
  have hro : ρ1.ops < 1000000 := by have := hA2.2.2.2.2.1; simp only at this; omega
  have hsz : 1 ≤ sizeK kind n par := by unfold sizeK; repeat (first | split | omega)
  have x2 : ((σ.t : Int) + 1) ≤ 4096 := by omega
  have x1 : (1 : Int) ≤ (σ.t : Int) + 1 := by omega
  rw [size_int hM] at ht
  obtain ⟨⟨k1, k5⟩, ⟨n1, n2⟩, ha1, ha3⟩ := hM
  rcases (show kind = 1 ∨ kind = 2 ∨ kind = 3 ∨ kind = 4 ∨ kind = 5 by omega) with rfl | rfl | rfl | rfl | rfl
  · obtain ⟨m1, m2⟩ := ha1 rfl
    exact (rok_1 gr base ρ w H hgr hbs n n1 n2 par _ ρ1 m1 m2 ht).mono fun e w' h => ⟨_, hA2, h⟩
  · exact (rok_2 gr base ρ w H hgr hbs n n1 n2 par _ x1 x2 ρ1 ht).mono fun e w' h => ⟨_, hA2, h⟩
  · obtain ⟨m1, m2⟩ := ha3 rfl
    exact (rok_3 gr base ρ w H hgr hbs n n1 n2 par _ x1 x2 ρ1 hro m1 m2 ht).mono fun e w' h => ⟨_, hA2.op 2 _ _ _, h⟩
  · exact (rok_4 gr base ρ w H hgr hbs n n1 n2 par _ ρ1 ht).mono fun e w' h => ⟨_, hA2, h⟩
  · exact (rok_5 gr base ρ w H hgr hbs n n1 n2 par _ ρ1 hro ht).mono fun e w' h => ⟨_, hA2.op 2 _ _ _, h⟩
end
end Go.Proofs.YthffhhgaeolpgaaGreat.Fl

/- Package gate: a lock of any kind, and its threads: what its methods tell. -/
namespace Go.Proofs.YthffhhgaeolpgaaGreat.Ga
open Go.RowKit Go.Proofs.YthffhhgaeolpgaaGreat.Ara Go.Proofs.YthffhhgaeolpgaaGreat.Lok Go.Proofs.YthffhhgaeolpgaaGreat.Fl

def GB (W : World) (gg ga gf : Nat) : Prop := W.heap[gg]? = some (.cells #[.pointer (some ⟨ga, 0, none⟩), .pointer (some ⟨gf, 0, none⟩)] 73 (0, 0))
structure GAt (W : World) (gg gf gl ga ha hs : Nat) (p : PK) (σ : Ar) (sp : List Sp) : Prop where
  gb : GB W gg ga gf
  fl : FLAt W gf gl ga ha hs p σ sp
  n1 : gg ≠ ga
  n2 : gg ≠ ha
  n3 : gg ≠ hs
  nh : ha < W.heap.size
theorem GAt.same {W W' : World} {gg gf gl ga ha hs : Nat} {p : PK} {σ : Ar} {sp : List Sp} (k : GAt W gg gf gl ga ha hs p σ sp) (hb : Below W.heap.size W W') : GAt W' gg gf gl ga ha hs p σ sp :=
  ⟨(Mod.of_below (S := []) hb).blk k.gb (by simp), k.fl.same hb, k.n1, k.n2, k.n3, Nat.lt_of_lt_of_le k.nh hb.size⟩
theorem GAt.mod {S : List Nat} {W W' : World} {gg gf gl ga ha hs : Nat} {p : PK} {σ : Ar} {sp : List Sp} (k : GAt W gg gf gl ga ha hs p σ sp) (hm : Mod S W W') (h : gg ∉ S) (h0 : gf ∉ S) (h1 : gl ∉ S) (h2 : ga ∉ S) (h3 : ha ∉ S) (h4 : hs ∉ S) : GAt W' gg gf gl ga ha hs p σ sp :=
  ⟨hm.blk k.gb h, k.fl.mod hm h0 h1 h2 h3 h4, k.n1, k.n2, k.n3, Nat.lt_of_lt_of_le k.nh hm.size⟩
theorem GAt.acts {W W' : World} {gg gf gl ga ha hs : Nat} {p : PK} {σ σ' : Ar} {sp sp' : List Sp} (k : GAt W gg gf gl ga ha hs p σ sp) (h : FLAt W' gf gl ga ha hs p σ' sp') (hm : Mod [ga, ha, hs] W W') : GAt W' gg gf gl ga ha hs p σ' sp' := by
  have h1 := k.n1
  have h2 := k.n2
  have h3 := k.n3
  exact ⟨hm.blk k.gb (by simp; omega), h, h1, h2, h3, Nat.lt_of_lt_of_le k.nh hm.size⟩
theorem GAt.cells {W : World} {gg gf gl ga ha hs : Nat} {p : PK} {σ : Ar} {sp : List Sp} (k : GAt W gg gf gl ga ha hs p σ sp) : W.cell? ⟨gg, 0, none⟩ = some (.pointer (some ⟨ga, 0, none⟩)) ∧ W.cell? ⟨gg, 1, none⟩ = some (.pointer (some ⟨gf, 0, none⟩)) :=
  ⟨blk_cell k.gb 0 (by simp), blk_cell k.gb 1 (by simp)⟩
theorem GAt.blocks {W : World} {gg gf gl ga ha hs : Nat} {p : PK} {σ : Ar} {sp : List Sp} (k : GAt W gg gf gl ga ha hs p σ sp) : gg < W.heap.size ∧ gf < W.heap.size ∧ gl < W.heap.size ∧ ga < W.heap.size ∧ ha < W.heap.size ∧ hs < W.heap.size := by
  obtain ⟨h1, h2, h3, h4⟩ := k.fl.blocks
  exact ⟨lt_of_blk k.gb, h1, h2, h3, k.nh, h4⟩
theorem GAt.drewN {W : World} {gg gf gl ga ha hs : Nat} {p : PK} {σ : Ar} {sp : List Sp} (k : GAt W gg gf gl ga ha hs p σ sp) (n : Nat) : GAt (W.drewN n) gg gf gl ga ha hs p σ sp :=
  k.mod (S := []) ((Mod.refl _ _).drewN n) (by simp) (by simp) (by simp) (by simp) (by simp) (by simp)
def gst (s : Sp) : Int := if s.pc = 0 then 0 else if s.pc < 10 then 1 else if s.pc = 10 then 2 else 3
def gev (k t c : Int) : Value := .agg #[.int .i64 k, .int .i64 t, .bool false, .int .i64 c]
theorem fld0 (a b c d : Value) (W : World) : (Instr.field 53 (.agg #[a, b, c, d]) 0).run Tryz.prog W = .ok a W := by kernel_rfl
section
variable {gg gf gl ga ha hs : Nat} {p : PK} {σ : Ar} {sp : List Sp} {w : World} (K : GAt w gg gf gl ga ha hs p σ sp)
include K
set_option maxRecDepth 100000 in
theorem threads_g : Calls Tryz.prog 38 #[.pointer (some ⟨gg, 0, none⟩)] w fun e w' => e = .returned (.int .i64 (sp.length : Int)) ∧ w' = w := by
  have HS := Lib.hid (Slots_flat K.fl)
  obtain ⟨c0, c1⟩ := K.cells
  clear K
  go_enter Tryz.func38, Tryz.ntmps38
  go_wp2_with fail
  refine (HS.out).mono ?_
  rintro e wx ⟨rfl, hwx⟩
  obtain rfl := hwx.symm
  go_wp2_with fail
  go_ret
  exact ⟨rfl, rfl⟩
set_option maxRecDepth 100000 in
theorem ops_g : Calls Tryz.prog 35 #[.pointer (some ⟨gg, 0, none⟩)] w fun e w' => e = .returned (.int .i64 σ.ops) ∧ w' = w := by
  have HS := Lib.hid (ops_any _ _ σ _ K.fl.at_.facts.1)
  obtain ⟨c0, c1⟩ := K.cells
  clear K
  go_enter Tryz.func35, Tryz.ntmps35
  go_wp2_with fail
  refine (HS.out).mono ?_
  rintro e wx ⟨rfl, hwx⟩
  obtain rfl := hwx.symm
  go_wp2_with fail
  go_ret
  exact ⟨rfl, rfl⟩
set_option maxRecDepth 100000 in
theorem words_g : Calls Tryz.prog 34 #[.pointer (some ⟨gg, 0, none⟩)] w fun e w' => ∃ A c, e = .returned (.slice A σ.t c) ∧ Sl w' w'.heap.size A ((σ.ws.take σ.t).flatMap decI) ∧ Below w.heap.size w w' := by
  have HS := Lib.hid (words_ar _ _ σ _ K.fl.at_.facts.1)
  obtain ⟨c0, c1⟩ := K.cells
  clear K
  go_enter Tryz.func34, Tryz.ntmps34
  go_wp2_with fail
  refine HS.out.mono ?_
  rintro e w2 ⟨A, c, rfl, hs2, hb2⟩
  have H2 := Lib.hid hs2
  have HB := Lib.hid hb2
  clear hs2 hb2
  go_wp2_with fail
  go_ret
  exact ⟨A, c, rfl, H2.out, HB.out⟩
set_option maxRecDepth 100000 in
theorem state_g (t : Int) : Calls Tryz.prog 36 #[.pointer (some ⟨gg, 0, none⟩), .int .i64 t] w fun e w' => e = .returned (.int .i64 (gst (spOf sp t))) ∧ Below w.heap.size w w' := by
  have HT := Lib.hid (threads_g K)
  have q1 := fun a b c d W => fld0 a b c d W
  by_cases ht : t < 0 ∨ (sp.length : Int) ≤ t
  · rw [spOf_out ht]
    clear K
    by_cases h0 : t < 0
    · go_enter Tryz.func36, Tryz.ntmps36
      go_wp2_with fail
      go_ret
      exact ⟨rfl, Below.refl _ _⟩
    · have h1 : (sp.length : Int) ≤ t := by omega
      have h2 : decide (t < 0) = false := decide_eq_false h0
      go_enter Tryz.func36, Tryz.ntmps36
      go_wp2_with fail
      refine (HT.out).mono ?_
      rintro e wx ⟨rfl, hwx⟩
      obtain rfl := hwx.symm
      go_wp2_with fail
      go_ret
      exact ⟨rfl, Below.refl _ _⟩
  · have h0 : ¬ t < 0 := by omega
    have h1 : ¬ (sp.length : Int) ≤ t := by omega
    have h2 : decide (t < 0) = false := decide_eq_false h0
    have h3 : decide ((sp.length : Int) ≤ t) = false := decide_eq_false h1
    have HS := Lib.hid (Spot_flat K.fl t)
    obtain ⟨c0, c1⟩ := K.cells
    clear K ht
    generalize spOf sp t = s at *
    obtain ⟨xp, xa, xb, xc⟩ := s
    simp only at HS
    by_cases e0 : xp = 0
    · subst e0
      go_enter Tryz.func36, Tryz.ntmps36
      go_wp2_with fail
      refine (HT.out).mono ?_
      rintro e wx ⟨rfl, hwx⟩
      obtain rfl := hwx.symm
      go_wp2_with fail
      refine HS.out.mono ?_
      rintro e w2 ⟨rfl, hb⟩
      go_wp2_with fail
      go_ret
      exact ⟨rfl, hb⟩
    by_cases e1 : xp < 10
    · have g0 := ibeq_no e0
      have HE := Lib.hid (show gst ⟨xp, xa, xb, xc⟩ = 1 by show (if xp = 0 then _ else _) = _; rw [if_neg e0, if_pos e1])
      go_enter Tryz.func36, Tryz.ntmps36
      go_wp2_with fail
      refine (HT.out).mono ?_
      rintro e wx ⟨rfl, hwx⟩
      obtain rfl := hwx.symm
      go_wp2_with fail
      refine HS.out.mono ?_
      rintro e w2 ⟨rfl, hb⟩
      go_wp2_with fail
      go_ret
      exact ⟨by rw [HE.out]; rfl, hb⟩
    by_cases e2 : xp = 10
    · subst e2
      go_enter Tryz.func36, Tryz.ntmps36
      go_wp2_with fail
      refine (HT.out).mono ?_
      rintro e wx ⟨rfl, hwx⟩
      obtain rfl := hwx.symm
      go_wp2_with fail
      refine HS.out.mono ?_
      rintro e w2 ⟨rfl, hb⟩
      go_wp2_with fail
      go_ret
      exact ⟨rfl, hb⟩
    · have g0 := ibeq_no e0
      have g2 := ibeq_no e2
      have g1 : decide (xp < 10) = false := decide_eq_false e1
      have HE := Lib.hid (show gst ⟨xp, xa, xb, xc⟩ = 3 by show (if xp = 0 then _ else _) = _; rw [if_neg e0, if_neg e1, if_neg e2])
      go_enter Tryz.func36, Tryz.ntmps36
      go_wp2_with fail
      refine (HT.out).mono ?_
      rintro e wx ⟨rfl, hwx⟩
      obtain rfl := hwx.symm
      go_wp2_with fail
      refine HS.out.mono ?_
      rintro e w2 ⟨rfl, hb⟩
      go_wp2_with fail
      go_ret
      exact ⟨by rw [HE.out]; rfl, hb⟩
end
end Go.Proofs.YthffhhgaeolpgaaGreat.Ga

