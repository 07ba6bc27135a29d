/- Merged texts: Snv. -/
import Derived.Test.YthffhhgaeolpgaaGreatSq24
set_option linter.unusedVariables false
/- The law SpanSome: if anybody waits somebody enters within as many picks. -/
namespace Go.Proofs.YthffhhgaeolpgaaGreat.Sn
open Go.RowKit Go.Proofs.YthffhhgaeolpgaaGreat.Ara Go.Proofs.YthffhhgaeolpgaaGreat.Lok Go.Proofs.YthffhhgaeolpgaaGreat.Fl Go.Proofs.YthffhhgaeolpgaaGreat.Ga

theorem moves_some {kind par : Int} (hk : 1 ≤ kind ∧ kind ≤ 5) (hp : 1 ≤ par ∧ par ≤ 1024) {N : Nat} (hN : 1 ≤ N ∧ N ≤ 32) {ps : List Pl} {l : List Int} (hl : l.length ≤ 400) {x0 : LS} (h0 : OkK (pkK kind par 1) x0.1 x0.2 N 0) (hz : ∀ i, (spOf x0.2 i).pc = 0) (hS : 0 ≤ styR 20 (ps.take N) 0) :
    Sp.movesD (Sp.outP (trOf kind par ps x0 l) (trOf kind par ps x0 l).length) (trOf kind par ps x0 l).length (Sp.someD kind N ((Fai.longest N l + 1 : Nat) : Int) (styR 20 (ps.take N) 0) par) = true := by
  rw [Sp.of_eq]
  have hle := styR_le (m := 20) (by omega) (ps.take N) 0 (by omega)
  have hlo := Fai.longest_le N l
  have hf := fair_of ((Fai.longest_lt N l (Fai.longest N l + 1) (by omega)).1 (by omega))
  have hst : (((styR 20 (ps.take N) 0).toNat : Nat) : Int) = styR 20 (ps.take N) 0 := by omega
  by_cases h1 : kind = 1
  · subst h1
    have hE : Sp.someD 1 N ((Fai.longest N l + 1 : Nat) : Int) (styR 20 (ps.take N) 0) par = ((Fai.longest N l + 1 : Nat) : Int) * (styR 20 (ps.take N) 0 + par + 4) := by
      unfold Sp.someD
      rw [if_pos rfl, if_pos ⟨(Sp.may_iff _ _ _).2 ⟨by omega, by omega, by omega, by omega, by omega, by omega⟩, hp.1, hp.2⟩]
    rw [hE]
    refine tas_run (P := ⟨(1 : Nat), par⟩) (N := N) (S := (styR 20 (ps.take N) 0).toNat) (ps := ps) (x0 := x0) (l := l) h0 hz (fun u a b => stay_in hS u a b) hf (by omega) rfl ?_
    rw [Int.natCast_mul]
    refine Int.mul_le_mul_of_nonneg_left ?_ (Int.natCast_nonneg _)
    show (((styR 20 (ps.take N) 0).toNat + par.toNat + 3 : Nat) : Int) ≤ _
    omega
  · have hE : Sp.someD kind N ((Fai.longest N l + 1 : Nat) : Int) (styR 20 (ps.take N) 0) par = Sp.eachD kind N ((Fai.longest N l + 1 : Nat) : Int) (styR 20 (ps.take N) 0) := by unfold Sp.someD; rw [if_neg h1]
    rw [hE]
    have := asks_run (kind := kind) ⟨by omega, by omega⟩ (par := par) hN (S := (styR 20 (ps.take N) 0).toNat) (by omega) (ps := ps) (l := l) h0 hz (fun u a b => stay_in hS u a b) hf ⟨by omega, by omega⟩ (ev := trOf kind par ps x0 l) rfl
    rw [hst] at this
    exact moves_of this
set_option maxHeartbeats 4000000 in
set_option maxRecDepth 100000 in
theorem some_walk (n0 n1 : Int) (h0 : 0 ≤ n0 ∧ n0 ≤ 255) (h1 : 0 ≤ n1 ∧ n1 ≤ 255) (ps : List Pl) (Aq : Option Addr) (cp : Nat) (hp : ps.length ≤ 20) (l : List Int) (A : Option Addr) (cap : Nat) (hl : l.length ≤ 400) (hwf : ∀ t ∈ l, isI t) (w : World)
    (hq : Sl w w.heap.size Aq (ps.flatMap decPl)) (hs : Sl w w.heap.size A (l.flatMap decI)) :
    Calls Tryz.prog 8 #[.agg #[.int .u8 n0, .int .u8 n1], .slice Aq ps.length cp, .slice A l.length cap] w fun e w' => e = .returned (.bool true) ∧ Below w.heap.size w w' := by
  have i1 : (ps.length : Int) ≤ 20 := by omega
  have i2 : (l.length : Int) ≤ 400 := by omega
  have m0 : 0 ≤ n0 % 5 := by omega
  have m1 : n0 % 5 < 5 := by omega
  have m2 : 0 ≤ n1 % 6 := by omega
  have m3 : n1 % 6 < 6 := by omega
  have m4 : 0 ≤ n0 / 5 % 8 := by omega
  have m5 : n0 / 5 % 8 < 8 := by omega
  obtain ⟨N, hN⟩ := Int.eq_ofNat_of_zero_le (show 0 ≤ 1 + n1 % 6 by omega)
  have hN1 : 1 ≤ N := by omega
  have hN2 : N ≤ 6 := by omega
  have hM : mayK (1 + n0 % 5) N (1 + n0 / 5 % 8) := ⟨by omega, by omega, fun _ => by omega, fun _ => by omega⟩
  have HS := Lib.hid hs
  have HQ := Lib.hid hq
  have HWF := Lib.hid hwf
  have HM := Lib.hid hM
  clear hs hq hwf hM
  go_enter Tryz.func8, Tryz.ntmps8
  go_wp2_with fail
  have hn := blk_new w (.cells #[.int .u8 n0, .int .u8 n1] 82)
  have b0 := blk_cell hn 0 (by simp)
  have b1 := blk_cell hn 1 (by simp)
  simp only [List.getElem_toArray, List.getElem_cons_zero, List.getElem_cons_succ] at b0 b1
  have HB0 := Lib.hid (below_new w (.cells #[.int .u8 n0, .int .u8 n1] 82))
  have HX := Lib.hid (show w.heap.size < (w.alloc (.cells #[.int .u8 n0, .int .u8 n1] 82)).heap.size by simp)
  clear hn
  generalize hbx : (w.alloc (.cells #[.int .u8 n0, .int .u8 n1] 82)) = W1 at *
  clear hbx
  go_quiet (fail)
  have HB1 := Lib.hid (HB0.out.trans ((below_drewN (Below.refl W1.heap.size W1) nq).mono HB0.out.size))
  replace b0 : (W1.drewN nq).cell? ⟨w.heap.size, 0, none⟩ = some (.int .u8 n0) := b0
  clear b1 HX HB0
  generalize W1.drewN nq = W2 at *
  go_wp2_with fail
  have hpl := played_any (1 + n0 % 5) (1 + n0 / 5 % 8) N HM.out ps Aq cp hp l A cap hl HWF.out W2 ((Sl.below HQ.out HB1.out).more HB1.out.size) ((Sl.below HS.out HB1.out).more HB1.out.size)
  unfold Played at hpl
  refine hpl.mono ?_
  clear hpl
  rintro e W3 ⟨hb3, hcase⟩
  have HB3 := Lib.hid (HB1.out.trans (hb3.mono HB1.out.size))
  clear hb3 b0 HB1
  rcases hcase with ⟨hneg, rfl⟩ | ⟨hpos, B, c, x0, hok, hz, rfl, hsl⟩
  · go_wp2_with fail
    have hst := rstay_any ps Aq cp N 20 W3 (by omega) (by omega) ((Sl.below HQ.out HB3.out).more HB3.out.size)
    generalize styR 20 (ps.take N) 0 = D at *
    refine hst.mono ?_
    rintro e wx ⟨rfl, hwx⟩
    obtain rfl := hwx.symm
    clear hst
    go_wp2_with fail
    refine (Sp.awake_any _).mono ?_
    rintro e W5 ⟨rfl, hb5⟩
    have HB5 := Lib.hid (HB3.out.trans (hb5.mono HB3.out.size))
    clear hb5
    go_wp2_with fail
    go_ret
    exact ⟨rfl, HB5.out⟩
  · have hK := moves_some (kind := 1 + n0 % 5) (par := 1 + n0 / 5 % 8) (by omega) (by omega) (N := N) (by omega) (ps := ps) hl hok hz hpos
    have hkp := Sp.mv_any (trOf (1 + n0 % 5) (1 + n0 / 5 % 8) ps x0 l) (Sp.someD (1 + n0 % 5) N ((Fai.longest N l + 1 : Nat) : Int) (styR 20 (ps.take N) 0) (1 + n0 / 5 % 8)) B c W3 true hK (by rw [trOf_len]; omega) (tr_wf HWF.out) hsl
    rw [trOf_len] at hkp
    have HKP := Lib.hid hkp
    have HE := Lib.hid (fun W => Sp.someE (1 + n0 % 5) N ((Fai.longest N l + 1 : Nat) : Int) (styR 20 (ps.take N) 0) (1 + n0 / 5 % 8) _ rfl W)
    clear hkp hK hok hz hsl
    generalize Sp.someD (1 + n0 % 5) N ((Fai.longest N l + 1 : Nat) : Int) (styR 20 (ps.take N) 0) (1 + n0 / 5 % 8) = E at *
    generalize styR 20 (ps.take N) 0 = D at *
    generalize Fai.longest N l + 1 = k at *
    go_wp2_with fail
    refine (HE.out _).mono ?_
    rintro e wx ⟨rfl, hwx⟩
    obtain rfl := hwx.symm
    go_wp2_with fail
    refine HKP.out.mono ?_
    rintro e W4 ⟨rfl, hb4⟩
    have HB4 := Lib.hid (HB3.out.trans (hb4.mono HB3.out.size))
    clear hb4 HB3
    go_wp2_with fail
    refine (Sp.awake_any _).mono ?_
    rintro e W5 ⟨rfl, hb5⟩
    have HB5 := Lib.hid (HB4.out.trans (hb5.mono HB4.out.size))
    clear hb5
    go_wp2_with fail
    go_ret
    exact ⟨rfl, HB5.out⟩
theorem long_walk2 (n0 n1 : Int) (np : Nat) (Aq : Option Addr) (cp : Nat) (nl : Nat) (A : Option Addr) (cap : Nat) (h : 20 < np ∨ 400 < nl) (hp : np ≤ maxLen) (hl : nl ≤ maxLen) (w : World) :
    Calls Tryz.prog 8 #[.agg #[.int .u8 n0, .int .u8 n1], .slice Aq np cp, .slice A nl cap] w fun e w' => e = .returned (.bool true) ∧ Below w.heap.size w w' := by
  have j1 : (np : Int) ≤ 9223372036854775807 := by simp only [maxLen] at hp; omega
  have j2 : (nl : Int) ≤ 9223372036854775807 := by simp only [maxLen] at hl; omega
  have HB0 := Lib.hid (below_new w (.cells #[.int .u8 n0, .int .u8 n1] 82))
  by_cases i1 : (20 : Int) < (np : Int)
  · clear h
    go_enter Tryz.func8, Tryz.ntmps8
    go_wp2_with fail
    refine (Sp.awake_any _).mono ?_
    rintro e W5 ⟨rfl, hb5⟩
    have HB5 := Lib.hid (HB0.out.trans (hb5.mono HB0.out.size))
    clear hb5
    go_wp2_with fail
    go_ret
    exact ⟨rfl, HB5.out⟩
  · have i2 : (400 : Int) < (nl : Int) := by omega
    clear h
    go_enter Tryz.func8, Tryz.ntmps8
    go_wp2_with fail
    refine (Sp.awake_any _).mono ?_
    rintro e W5 ⟨rfl, hb5⟩
    have HB5 := Lib.hid (HB0.out.trans (hb5.mono HB0.out.size))
    clear hb5
    go_wp2_with fail
    go_ret
    exact ⟨rfl, HB5.out⟩
theorem some_law (w : World) (n : List Int) (hn : n.length = 2 ∧ ∀ a ∈ n, isU8 a) (Aq : Option Addr) (cp : Nat) (ps : List Pl) (hc : ps.length ≤ cp) (hm : cp ≤ maxLen) (_hp : ∀ e ∈ ps, isI64 e.rest ∧ isI64 e.stay ∧ isI64 e.times) (hq : Sl w w.heap.size Aq (ps.flatMap decPl))
    (A : Option Addr) (cap : Nat) (l : List Int) (hc2 : l.length ≤ cap) (hm2 : cap ≤ maxLen) (hl : ∀ e ∈ l, isI64 e) (hs : Sl w w.heap.size A (l.flatMap decI)) :
    Calls Tryz.prog 8 #[.agg (n.flatMap fun n => [.int .u8 n]).toArray, .slice Aq ps.length cp, .slice A l.length cap] w fun e w' => e = .returned (.bool true) ∧ Below w.heap.size w w' := by
  obtain ⟨n0, n1, rfl⟩ : ∃ a b, n = [a, b] := by
    rcases n with _ | ⟨a, _ | ⟨b, _ | ⟨c, r⟩⟩⟩
    · simp at hn
    · simp at hn
    · exact ⟨a, b, rfl⟩
    · simp at hn
  have u0 := hn.2 n0 (by simp)
  have u1 := hn.2 n1 (by simp)
  by_cases h : ps.length ≤ 20 ∧ l.length ≤ 400
  · exact some_walk n0 n1 u0 u1 ps Aq cp h.1 l A cap h.2 (fun t ht => WalkArith.wf_i64 (hl t ht)) w hq hs
  · exact long_walk2 n0 n1 ps.length Aq cp l.length A cap (by omega) (Nat.le_trans hc hm) (Nat.le_trans hc2 hm2) w
end Go.Proofs.YthffhhgaeolpgaaGreat.Sn

