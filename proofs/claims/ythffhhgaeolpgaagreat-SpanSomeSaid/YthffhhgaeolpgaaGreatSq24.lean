/- Merged texts: Snx, Sn8, Sn9, Sn10, Sn11. -/
import Derived.Test.YthffhhgaeolpgaaGreatSq23
set_option linter.unusedVariables false
/- The law SpanEach: whoever asks enters within as many picks. -/
namespace Go.Proofs.YthffhhgaeolpgaaGreat.Sn
open Go.RowKit Go.Proofs.YthffhhgaeolpgaaGreat.Ara Go.Proofs.YthffhhgaeolpgaaGreat.Lok Go.Proofs.YthffhhgaeolpgaaGreat.Fl Go.Proofs.YthffhhgaeolpgaaGreat.Ga

theorem gact_th (p : PK) (σ : Ar) (sp : List Sp) (t w : Int) : (gact p σ sp t w).1.2.1 = t ∨ (gact p σ sp t w).1.2.1 = 0 := by
  unfold gact
  repeat' (first | exact .inl rfl | exact .inr rfl | split)
theorem tr_wf {kind par : Int} {ps : List Pl} {x0 : LS} {l : List Int} (h : ∀ t ∈ l, isI t) : Sp.Wf (trOf kind par ps x0 l) := by
  intro e he
  unfold trOf at he
  rw [out_run] at he
  obtain ⟨v, hv, rfl⟩ := List.mem_map.1 he
  obtain ⟨i, hi, rfl⟩ := List.mem_map.1 hv
  have hi := List.mem_range.1 hi
  have hm : l.getD i 0 ∈ l := by rw [List.getD_eq_getElem?_getD, List.getElem?_eq_getElem hi]; exact List.getElem_mem hi
  rcases gact_th (pkK kind par 1) (rq (pkK kind par 1) ps x0 l i).1.x.1 (rq (pkK kind par 1) ps x0 l i).1.x.2 (l.getD i 0) (wOf ps (rq (pkK kind par 1) ps x0 l i).1 (l.getD i 0)).1 with h1 | h1
  · show (Lit.int .i64 (gact _ _ _ _ _).1.2.1).wf = true
    rw [h1]
    exact h _ hm
  · show (Lit.int .i64 (gact _ _ _ _ _).1.2.1).wf = true
    rw [h1]
    rfl
theorem stay_in {ps : List Pl} {N : Nat} (h : 0 ≤ styR 20 (ps.take N) 0) (u : Int) (u0 : 0 ≤ u) (u1 : u < N) : 0 ≤ (planOf ps u).stay ∧ (planOf ps u).stay ≤ ((styR 20 (ps.take N) 0).toNat : Int) := by
  obtain ⟨h1, h2⟩ := styR_ge _ _ h
  obtain ⟨k, rfl⟩ := Int.eq_ofNat_of_zero_le u0
  unfold planOf
  by_cases hk : k < ps.length
  · rw [if_pos ⟨u0, by omega⟩, Int.toNat_natCast, List.getD_eq_getElem?_getD, List.getElem?_eq_getElem hk]
    have hm : ps[k] ∈ ps.take N := by
      rw [List.mem_iff_getElem]
      exact ⟨k, by rw [List.length_take]; omega, by rw [List.getElem_take]⟩
    have := h2 _ hm
    show 0 ≤ (ps[k]).stay ∧ (ps[k]).stay ≤ _
    omega
  · rw [if_neg (by omega)]
    show (0 : Int) ≤ 0 ∧ (0 : Int) ≤ _
    omega
theorem keeps_each {kind par : Int} (hk : 2 ≤ kind ∧ kind ≤ 5) {N : Nat} (hN : 1 ≤ N ∧ N ≤ 32) {ps : List Pl} {l : List Int} (hl : l.length ≤ 400) {x0 : LS} (h0 : OkK (pkK kind par 1) x0.1 x0.2 N 0) (hz : ∀ i, (spOf x0.2 i).pc = 0) (hS : 0 ≤ styR 20 (ps.take N) 0) :
    Sp.keepsD (Sp.outP (trOf kind par ps x0 l) (trOf kind par ps x0 l).length) (trOf kind par ps x0 l).length (Sp.eachD kind N ((Fai.longest N l + 1 : Nat) : Int) (styR 20 (ps.take N) 0)) = true := by
  rw [Sp.of_eq]
  have hle := styR_le (m := 20) (by omega) (ps.take N) 0 (by omega)
  have hlo := Fai.longest_le N l
  have hf := fair_of ((Fai.longest_lt N l (Fai.longest N l + 1) (by omega)).1 (by omega))
  have := each_run hk (par := par) hN (S := (styR 20 (ps.take N) 0).toNat) (by omega) (ps := ps) (l := l) h0 hz (fun u a b => stay_in hS u a b) hf ⟨by omega, by omega⟩ (ev := trOf kind par ps x0 l) rfl
  rw [show (((styR 20 (ps.take N) 0).toNat : Nat) : Int) = styR 20 (ps.take N) 0 by omega] at this
  exact this
set_option maxHeartbeats 4000000 in
set_option maxRecDepth 100000 in
theorem each_walk (n0 n1 : Int) (h0 : 0 ≤ n0 ∧ n0 ≤ 255) (h1 : 0 ≤ n1 ∧ n1 ≤ 255) (ps : List Pl) (Aq : Option Addr) (cp : Nat) (hp : ps.length ≤ 20) (l : List Int) (A : Option Addr) (cap : Nat) (hl : l.length ≤ 400) (hwf : ∀ t ∈ l, isI t) (w : World)
    (hq : Sl w w.heap.size Aq (ps.flatMap decPl)) (hs : Sl w w.heap.size A (l.flatMap decI)) :
    Calls Tryz.prog 7 #[.agg #[.int .u8 n0, .int .u8 n1], .slice Aq ps.length cp, .slice A l.length cap] w fun e w' => e = .returned (.bool true) ∧ Below w.heap.size w w' := by
  have i1 : (ps.length : Int) ≤ 20 := by omega
  have i2 : (l.length : Int) ≤ 400 := by omega
  have m0 : 0 ≤ n0 % 4 := by omega
  have m1 : n0 % 4 < 4 := by omega
  have m2 : 0 ≤ n1 % 6 := by omega
  have m3 : n1 % 6 < 6 := by omega
  have m4 : 0 ≤ n0 / 4 % 4 := by omega
  have m5 : n0 / 4 % 4 < 4 := by omega
  obtain ⟨N, hN⟩ := Int.eq_ofNat_of_zero_le (show 0 ≤ 1 + n1 % 6 by omega)
  have hN1 : 1 ≤ N := by omega
  have hN2 : N ≤ 6 := by omega
  have hM : mayK (2 + n0 % 4) N (1 + n0 / 4 % 4) := ⟨by omega, by omega, fun _ => by omega, fun _ => by omega⟩
  have HS := Lib.hid hs
  have HQ := Lib.hid hq
  have HWF := Lib.hid hwf
  have HM := Lib.hid hM
  clear hs hq hwf hM
  go_enter Tryz.func7, Tryz.ntmps7
  go_wp2_with fail
  have hn := blk_new w (.cells #[.int .u8 n0, .int .u8 n1] 82)
  have b0 := blk_cell hn 0 (by simp)
  have b1 := blk_cell hn 1 (by simp)
  simp only [List.getElem_toArray, List.getElem_cons_zero, List.getElem_cons_succ] at b0 b1
  have HB0 := Lib.hid (below_new w (.cells #[.int .u8 n0, .int .u8 n1] 82))
  have HX := Lib.hid (show w.heap.size < (w.alloc (.cells #[.int .u8 n0, .int .u8 n1] 82)).heap.size by simp)
  clear hn
  generalize hbx : (w.alloc (.cells #[.int .u8 n0, .int .u8 n1] 82)) = W1 at *
  clear hbx
  go_quiet (fail)
  have HB1 := Lib.hid (HB0.out.trans ((below_drewN (Below.refl W1.heap.size W1) nq).mono HB0.out.size))
  replace b0 : (W1.drewN nq).cell? ⟨w.heap.size, 0, none⟩ = some (.int .u8 n0) := b0
  clear b1 HX HB0
  generalize W1.drewN nq = W2 at *
  go_wp2_with fail
  have hpl := played_any (2 + n0 % 4) (1 + n0 / 4 % 4) N HM.out ps Aq cp hp l A cap hl HWF.out W2 ((Sl.below HQ.out HB1.out).more HB1.out.size) ((Sl.below HS.out HB1.out).more HB1.out.size)
  unfold Played at hpl
  refine hpl.mono ?_
  clear hpl
  rintro e W3 ⟨hb3, hcase⟩
  have HB3 := Lib.hid (HB1.out.trans (hb3.mono HB1.out.size))
  clear hb3 b0 HB1
  rcases hcase with ⟨hneg, rfl⟩ | ⟨hpos, B, c, x0, hok, hz, rfl, hsl⟩
  · go_wp2_with fail
    have hst := rstay_any ps Aq cp N 20 W3 (by omega) (by omega) ((Sl.below HQ.out HB3.out).more HB3.out.size)
    generalize styR 20 (ps.take N) 0 = D at *
    refine hst.mono ?_
    rintro e wx ⟨rfl, hwx⟩
    obtain rfl := hwx.symm
    clear hst
    go_wp2_with fail
    refine (Sp.awake_any _).mono ?_
    rintro e W5 ⟨rfl, hb5⟩
    have HB5 := Lib.hid (HB3.out.trans (hb5.mono HB3.out.size))
    clear hb5
    go_wp2_with fail
    go_ret
    exact ⟨rfl, HB5.out⟩
  · have hK := keeps_each (kind := 2 + n0 % 4) (par := 1 + n0 / 4 % 4) (by omega) (N := N) (by omega) (ps := ps) hl hok hz hpos
    have hkp := Sp.kp_any (trOf (2 + n0 % 4) (1 + n0 / 4 % 4) ps x0 l) (Sp.eachD (2 + n0 % 4) N ((Fai.longest N l + 1 : Nat) : Int) (styR 20 (ps.take N) 0)) B c W3 true hK (by rw [trOf_len]; omega) (tr_wf HWF.out) hsl
    rw [trOf_len] at hkp
    have HKP := Lib.hid hkp
    have HE := Lib.hid (fun W => Sp.eachE (2 + n0 % 4) N ((Fai.longest N l + 1 : Nat) : Int) (styR 20 (ps.take N) 0) _ rfl W)
    clear hkp hK hok hz hsl
    generalize Sp.eachD (2 + n0 % 4) N ((Fai.longest N l + 1 : Nat) : Int) (styR 20 (ps.take N) 0) = E at *
    generalize styR 20 (ps.take N) 0 = D at *
    generalize Fai.longest N l + 1 = k at *
    go_wp2_with fail
    refine (HE.out _).mono ?_
    rintro e wx ⟨rfl, hwx⟩
    obtain rfl := hwx.symm
    go_wp2_with fail
    refine HKP.out.mono ?_
    rintro e W4 ⟨rfl, hb4⟩
    have HB4 := Lib.hid (HB3.out.trans (hb4.mono HB3.out.size))
    clear hb4 HB3
    go_wp2_with fail
    refine (Sp.awake_any _).mono ?_
    rintro e W5 ⟨rfl, hb5⟩
    have HB5 := Lib.hid (HB4.out.trans (hb5.mono HB4.out.size))
    clear hb5
    go_wp2_with fail
    go_ret
    exact ⟨rfl, HB5.out⟩
theorem reads_pl {H : Type} {enc : TypeId × Value → H} : Reads enc Tryz.prog 149 decPl (fun e => isI64 e.rest ∧ isI64 e.stay ∧ isI64 e.times) :=
  (reads_s4 (d0 := Value.int .i64) (d1 := Value.int .i64) (d2 := Value.int .i64) (d3 := Value.bool) Tryz.underlying149 (by kernel_rfl) (by kernel_rfl) (reads_i64 Tryz.underlying3) (reads_i64 Tryz.underlying3) (reads_i64 Tryz.underlying3) (reads_bool Tryz.underlying4)).map
    (fun p => ⟨p.1, p.2.1, p.2.2.1, p.2.2.2⟩) (fun _ => rfl) (fun _ h => ⟨h.1, h.2.1, h.2.2.1⟩)
theorem long_walk (n0 n1 : Int) (np : Nat) (Aq : Option Addr) (cp : Nat) (nl : Nat) (A : Option Addr) (cap : Nat) (h : 20 < np ∨ 400 < nl) (hp : np ≤ maxLen) (hl : nl ≤ maxLen) (w : World) :
    Calls Tryz.prog 7 #[.agg #[.int .u8 n0, .int .u8 n1], .slice Aq np cp, .slice A nl cap] w fun e w' => e = .returned (.bool true) ∧ Below w.heap.size w w' := by
  have j1 : (np : Int) ≤ 9223372036854775807 := by simp only [maxLen] at hp; omega
  have j2 : (nl : Int) ≤ 9223372036854775807 := by simp only [maxLen] at hl; omega
  have HB0 := Lib.hid (below_new w (.cells #[.int .u8 n0, .int .u8 n1] 82))
  by_cases i1 : (20 : Int) < (np : Int)
  · clear h
    go_enter Tryz.func7, Tryz.ntmps7
    go_wp2_with fail
    refine (Sp.awake_any _).mono ?_
    rintro e W5 ⟨rfl, hb5⟩
    have HB5 := Lib.hid (HB0.out.trans (hb5.mono HB0.out.size))
    clear hb5
    go_wp2_with fail
    go_ret
    exact ⟨rfl, HB5.out⟩
  · have i2 : (400 : Int) < (nl : Int) := by omega
    clear h
    go_enter Tryz.func7, Tryz.ntmps7
    go_wp2_with fail
    refine (Sp.awake_any _).mono ?_
    rintro e W5 ⟨rfl, hb5⟩
    have HB5 := Lib.hid (HB0.out.trans (hb5.mono HB0.out.size))
    clear hb5
    go_wp2_with fail
    go_ret
    exact ⟨rfl, HB5.out⟩
theorem each_law (w : World) (n : List Int) (hn : n.length = 2 ∧ ∀ a ∈ n, isU8 a) (Aq : Option Addr) (cp : Nat) (ps : List Pl) (hc : ps.length ≤ cp) (hm : cp ≤ maxLen) (_hp : ∀ e ∈ ps, isI64 e.rest ∧ isI64 e.stay ∧ isI64 e.times) (hq : Sl w w.heap.size Aq (ps.flatMap decPl))
    (A : Option Addr) (cap : Nat) (l : List Int) (hc2 : l.length ≤ cap) (hm2 : cap ≤ maxLen) (hl : ∀ e ∈ l, isI64 e) (hs : Sl w w.heap.size A (l.flatMap decI)) :
    Calls Tryz.prog 7 #[.agg (n.flatMap fun n => [.int .u8 n]).toArray, .slice Aq ps.length cp, .slice A l.length cap] w fun e w' => e = .returned (.bool true) ∧ Below w.heap.size w w' := by
  obtain ⟨n0, n1, rfl⟩ : ∃ a b, n = [a, b] := by
    rcases n with _ | ⟨a, _ | ⟨b, _ | ⟨c, r⟩⟩⟩
    · simp at hn
    · simp at hn
    · exact ⟨a, b, rfl⟩
    · simp at hn
  have u0 := hn.2 n0 (by simp)
  have u1 := hn.2 n1 (by simp)
  by_cases h : ps.length ≤ 20 ∧ l.length ≤ 400
  · exact each_walk n0 n1 u0 u1 ps Aq cp h.1 l A cap h.2 (fun t ht => WalkArith.wf_i64 (hl t ht)) w hq hs
  · exact long_walk n0 n1 ps.length Aq cp l.length A cap (by omega) (Nat.le_trans hc hm) (Nat.le_trans hc2 hm2) w
end Go.Proofs.YthffhhgaeolpgaaGreat.Sn

/- A pick of a thread that runs by its plan, over a lock that keeps no order: what it turns, and what is left to do till somebody enters: the plain law. -/
namespace Go.Proofs.YthffhhgaeolpgaaGreat.Sn
open Go.RowKit Go.Proofs.YthffhhgaeolpgaaGreat.Ara Go.Proofs.YthffhhgaeolpgaaGreat.Lok Go.Proofs.YthffhhgaeolpgaaGreat.Fl Go.Proofs.YthffhhgaeolpgaaGreat.Ga

abbrev hldr (r : RunS LS) (u : Int) : Prop := pcO r u = 10 ∨ pcO r u = 11
inductive MvT (P : Ta.Par) (ps : List Pl) (r r' : RunS LS) (v : Int) (e : Ev3) : Prop where
  | idle (h : pcO r v = 0) (h' : pcO r' v = 0) (he : e.1 = 0)
  | ask (h : pcO r v = 0) (h' : pcO r' v = 1) (ha : (spOf r'.x.2 v).a = 1) (he : e = (1, v, 0))
  | enter (h : pcO r v = 1) (hf : ∀ i, ¬ hldr r i) (h' : pcO r' v = 10) (hh : hp r' v = 0) (he : e = (2, v, 1))
  | spin (h : pcO r v = 1) (hf : ∃ i, hldr r i) (h' : pcO r' v = 2) (ha : (spOf r'.x.2 v).a = min (2 * (spOf r.x.2 v).a) P.most) (hb : (spOf r'.x.2 v).b = (spOf r.x.2 v).a) (he : e.1 = 0)
  | wait (h : pcO r v = 2) (h' : pcO r' v = if (spOf r.x.2 v).b - 1 = 0 then 1 else 2) (ha : (spOf r'.x.2 v).a = (spOf r.x.2 v).a) (hb : (spOf r'.x.2 v).b = (spOf r.x.2 v).b - 1) (he : e.1 = 0)
  | hold (h : pcO r v = 10) (h' : pcO r' v = 10) (hh : hp r' v = hp r v + 1) (hs : hp r v + 1 ≤ (planOf ps v).stay) (he : e.1 = 0)
  | leave (h : pcO r v = 10) (h' : pcO r' v = 11) (hs : (planOf ps v).stay < hp r v + 1) (he : e = (3, v, 0))
  | out (h : pcO r v = 11) (h' : pcO r' v = 0) (he : e = (4, v, 0))
structure Rt (P : Ta.Par) (ps : List Pl) (N n : Nat) (r : RunS LS) : Prop where
  ok : OkK (.tas P) r.x.1 r.x.2 N n
  lim : ∀ i, (pcO r i = 1 ∨ pcO r i = 2 → (spOf r.x.2 i).a ≤ P.most) ∧ (pcO r i = 2 → 1 ≤ (spOf r.x.2 i).b ∧ (spOf r.x.2 i).b ≤ P.most)
  hold : ∀ u, pcO r u = 10 → 0 ≤ hp r u ∧ hp r u ≤ (planOf ps u).stay
  pk0 : ∀ u, 0 ≤ (r.m u).pk
section
variable {P : Ta.Par} {ps : List Pl} {N n : Nat} {r : RunS LS} (H : Rt P ps N n r)
include H
theorem Rt.inv : Ta.Inv P r.x.1 r.x.2 := Ta.OkP.inv (show Ta.OkP P r.x.1 r.x.2 N n from H.ok)
theorem Rt.try_yes (h : Ta.tryB P r.x.1 = true) (i : Int) : ¬ hldr r i := by
  have hz : r.x.1.get P.word = 0 := by
    unfold Ta.tryB at h
    simp at h
    exact h.2
  intro hj
  have h1 := H.inv.hold i hj
  have h2 := Ta.holds_range (sp := r.x.2) (i := i) hj
  omega
theorem Rt.try_no (h : Ta.tryB P r.x.1 = false) : ∃ i, hldr r i := by
  refine Classical.byContradiction fun hn => ?_
  have h1 := H.inv.free (fun i hi => hn ⟨i, hi⟩)
  unfold Ta.tryB at h
  rw [H.inv.hw, h1] at h
  exact absurd h (by decide)
theorem Rt.one {u v : Int} (hu : hldr r u) (hv : hldr r v) : u = v := by
  have h1 := H.inv.hold u hu
  have h2 := H.inv.hold v hv
  omega
theorem Rt.move (v : Int) : MvT P ps r (rn (.tas P) ps r v) v (evO (.tas P) ps r v) := by
  obtain ⟨hw, -, -, h4⟩ := wants_cases (planOf ps v) (r.m v) (stF r.x v)
  have hx : (rn (.tas P) ps r v).x = (actF (.tas P) r.x v (wOf ps r v).1).2 := rfl
  have hhs := hp_self (p := .tas P) (ps := ps) (r := r) (v := v)
  rcases hw with h0 | ⟨h1, hs⟩ | ⟨h1, hs, h3⟩
  · have hw0 : (wOf ps r v).1 = 0 := h0
    by_cases hg : gst (spOf r.x.2 v) = 1 ∨ gst (spOf r.x.2 v) = 3
    · have ha : actF (.tas P) r.x v (wOf ps r v).1 = _ := (congrArg (actF (.tas P) r.x v) hw0).trans (ga_step hg)
      have hx2 : (rn (.tas P) ps r v).x = (Ta.stepP P r.x.1 r.x.2 v).2 := by rw [hx, ha]; rfl
      have he2 : evO (.tas P) ps r v = (if (Ta.stepP P r.x.1 r.x.2 v).1 then (if gst (spOf r.x.2 v) = 1 then (2, v, 1) else (4, v, 0)) else (0, v, 0)) := by show (actF (.tas P) r.x v (wOf ps r v).1).1 = _; rw [ha]; rfl
      rw [he2]
      have hsp : ∀ s : Sp, (Ta.stepP P r.x.1 r.x.2 v).2.2 = r.x.2.set v.toNat s → pcO r v ≠ 0 → spOf (rn (.tas P) ps r v).x.2 v = s := by
        intro s e hne
        obtain ⟨i0, i1⟩ := spOf_range (sp := r.x.2) (i := v) hne
        rw [hx2, e, spOf_set i0 i1, if_pos rfl]
      rcases H.inv.pcs v with e | e | e | e
      · exfalso
        rcases hg with hg | hg
        · have := gst_1i.1 hg; omega
        · have := gst_3i.1 hg; omega
      · have hg1 : gst (spOf r.x.2 v) = 1 := gst_1i.2 (by omega)
        have hst : Ta.stepP P r.x.1 r.x.2 v = (Ta.tryB P r.x.1, r.x.1.op 4 P.word (Ta.tryB P r.x.1) (v + 1), r.x.2.set v.toNat (if Ta.tryB P r.x.1 = true then { spOf r.x.2 v with pc := 10 } else ⟨2, min (2 * (spOf r.x.2 v).a) P.most, (spOf r.x.2 v).a, (spOf r.x.2 v).c⟩)) := by unfold Ta.stepP; rw [if_pos e]
        have hne : pcO r v ≠ 0 := by show (spOf r.x.2 v).pc ≠ 0; omega
        rw [hg1]
        cases ht : Ta.tryB P r.x.1 with
        | true =>
          rw [ht] at hst
          have hs := hsp _ (by rw [hst]) hne
          rw [if_pos rfl] at hs
          rw [hst]
          exact .enter e (H.try_yes ht) (by show (spOf _ v).pc = 10; rw [hs]) (by rw [hhs, if_neg (by show (spOf r.x.2 v).pc ≠ 10; omega)]) rfl
        | false =>
          rw [ht] at hst
          have hs := hsp _ (by rw [hst]) hne
          rw [if_neg (by decide)] at hs
          rw [hst]
          exact .spin e (H.try_no ht) (by show (spOf _ v).pc = 2; rw [hs]) (by rw [hs]) (by rw [hs]) rfl
      · have hst : Ta.stepP P r.x.1 r.x.2 v = (false, r.x.1, r.x.2.set v.toNat ⟨if (spOf r.x.2 v).b - 1 = 0 then 1 else 2, (spOf r.x.2 v).a, (spOf r.x.2 v).b - 1, (spOf r.x.2 v).c⟩) := by unfold Ta.stepP; rw [if_neg (by omega), if_pos e]
        have hne : pcO r v ≠ 0 := by show (spOf r.x.2 v).pc ≠ 0; omega
        have hs := hsp _ (by rw [hst]) hne
        rw [hst]
        exact .wait e (by show (spOf _ v).pc = _; rw [hs]) (by rw [hs]) (by rw [hs]) rfl
      · rcases e with e | e
        · exfalso
          rcases hg with hg | hg
          · have := gst_1i.1 hg; omega
          · have := gst_3i.1 hg; omega
        · have hg3 : gst (spOf r.x.2 v) = 3 := gst_3i.2 (by omega)
          have hst : Ta.stepP P r.x.1 r.x.2 v = (true, r.x.1.op 2 P.word true 0, r.x.2.set v.toNat { spOf r.x.2 v with pc := 0 }) := by unfold Ta.stepP; rw [if_neg (by omega), if_neg (by omega), if_pos e]
          have hne : pcO r v ≠ 0 := by show (spOf r.x.2 v).pc ≠ 0; omega
          have hs := hsp _ (by rw [hst]) hne
          rw [hst, hg3]
          exact .out e (by show (spOf _ v).pc = 0; rw [hs]) rfl
    · have hg' : gst (spOf r.x.2 v) = 0 ∨ gst (spOf r.x.2 v) = 2 := by rcases gst_in (spOf r.x.2 v) with h | h | h | h <;> omega
      obtain ⟨ha, he⟩ := ga_stay (p := .tas P) (σ := r.x.1) hg'
      have hx2 : (rn (.tas P) ps r v).x = r.x := by rw [hx, hw0]; exact ha
      have he2 : (evO (.tas P) ps r v).1 = 0 := by show (actF (.tas P) r.x v (wOf ps r v).1).1.1 = 0; rw [hw0]; exact he
      have hpc : pcO (rn (.tas P) ps r v) v = pcO r v := by show (spOf (rn (.tas P) ps r v).x.2 v).pc = _; rw [hx2]
      rcases hg' with hg' | hg'
      · have := gst_0i.1 hg'
        exact .idle this (hpc.trans this) he2
      · have h10 : pcO r v = 10 := gst_2i.1 hg'
        rw [if_pos h10] at hhs
        have h5 := h4 hg' h0
        rw [(hps v h10).2] at h5
        exact .hold h10 (hpc.trans h10) hhs h5 he2
  · have hw1 : (wOf ps r v).1 = 1 := h1
    have hz : pcO r v = 0 := gst_0i.1 hs
    by_cases hr : v < 0 ∨ (r.x.2.length : Int) ≤ v
    · have ha : actF (.tas P) r.x v (wOf ps r v).1 = ((0, 0, 0), r.x) := by show gact (.tas P) r.x.1 r.x.2 v _ = _; unfold gact; rw [if_pos hr]
      have hx2 : (rn (.tas P) ps r v).x = r.x := by rw [hx, ha]
      exact .idle hz (by show (spOf (rn (.tas P) ps r v).x.2 v).pc = 0; rw [hx2]; exact hz) (by show (actF (.tas P) r.x v (wOf ps r v).1).1.1 = 0; rw [ha])
    · have ha : actF (.tas P) r.x v (wOf ps r v).1 = (if turnB r.x.2 v 0 then (1, v, 0) else (5, v, 0), (r.x.1, Ta.askS r.x.2 v)) := by
        show gact (.tas P) r.x.1 r.x.2 v _ = _
        rw [hw1]
        unfold gact
        rw [if_neg hr, if_neg (by decide), if_pos rfl]
        rfl
      have hx2 : (rn (.tas P) ps r v).x = (r.x.1, Ta.askS r.x.2 v) := by rw [hx, ha]
      have ht : turnB r.x.2 v 0 = true := by
        obtain ⟨k, rfl⟩ := Int.eq_ofNat_of_zero_le (show 0 ≤ v by omega)
        have hz : (spOf r.x.2 (k : Int)).pc = 0 := hz
        rw [spOf_in (by omega)] at hz
        rw [turn_in (by omega), hz]
        rfl
      have he2 : evO (.tas P) ps r v = (1, v, 0) := by show (actF (.tas P) r.x v (wOf ps r v).1).1 = _; rw [ha, ht]; rfl
      have hs : spOf (rn (.tas P) ps r v).x.2 v = { spOf r.x.2 v with pc := 1, a := 1 } := by
        rw [hx2]
        show spOf (Ta.askS r.x.2 v) v = _
        unfold Ta.askS
        rw [if_pos ht, spOf_set (by omega) (by omega), if_pos rfl]
      exact .ask hz (by show (spOf _ v).pc = 1; rw [hs]) (by rw [hs]) he2
  · have hw1 : (wOf ps r v).1 = 2 := h1
    have hz : pcO r v = 10 := gst_2i.1 hs
    have hr : ¬ (v < 0 ∨ (r.x.2.length : Int) ≤ v) := fun hh => by have hz : (spOf r.x.2 v).pc = 10 := hz; rw [spOf_out hh] at hz; cases hz
    have ht : turnB r.x.2 v 10 = true := by
      obtain ⟨k, rfl⟩ := Int.eq_ofNat_of_zero_le (show 0 ≤ v by omega)
      have hz : (spOf r.x.2 (k : Int)).pc = 10 := hz
      rw [spOf_in (by omega)] at hz
      rw [turn_in (by omega), hz]
      rfl
    have ha : actF (.tas P) r.x v (wOf ps r v).1 = (if turnB r.x.2 v 10 then (3, v, 0) else (5, v, 0), (r.x.1, turnS r.x.2 v 10 11)) := by
      show gact (.tas P) r.x.1 r.x.2 v _ = _
      rw [hw1]
      unfold gact
      rw [if_neg hr, if_neg (by decide), if_neg (by decide), if_pos rfl]
      rfl
    have hx2 : (rn (.tas P) ps r v).x = (r.x.1, turnS r.x.2 v 10 11) := by rw [hx, ha]
    have he2 : evO (.tas P) ps r v = (3, v, 0) := by show (actF (.tas P) r.x v (wOf ps r v).1).1 = _; rw [ha, ht]; rfl
    rw [(hps v hz).2] at h3
    refine .leave hz ?_ h3 he2
    show (spOf (rn (.tas P) ps r v).x.2 v).pc = 11
    rw [hx2, spOf_turnS, if_pos ⟨ht, rfl⟩]
theorem Rt.next (hS : ∀ u : Int, 0 ≤ u → u < N → 0 ≤ (planOf ps u).stay) (v : Int) : Rt P ps N (n + 1) (rn (.tas P) ps r v) := by
  have hm := H.move v
  have hi := H.inv
  have hpk : ∀ u, 0 ≤ ((rn (.tas P) ps r v).m u).pk := by
    intro u
    rw [rn_m]
    split
    · obtain ⟨_, _, h3, _⟩ := wants_cases (planOf ps v) (r.m v) (stF r.x v)
      have h3 : (wOf ps r v).2.pk = _ := h3
      have := H.pk0 v
      rw [h3]
      split <;> omega
    · exact H.pk0 u
  refine ⟨ok_gact H.ok v _, fun i => ?_, fun u hu => ?_, hpk⟩
  · by_cases e : i = v
    · subst e
      have hl := H.lim i
      have hm1 := hi.m1
      have hw1 := hi.w1 i
      cases hm with
      | idle h h' => omega
      | ask h h' ha => omega
      | enter h hf h' => omega
      | spin h hf h' ha hb => have hw1 := hw1 (.inl h); have := hl.1 (.inl h); exact ⟨fun _ => by omega, fun _ => by omega⟩
      | wait h h' ha hb =>
        have h1 := hl.1 (.inr h)
        have h2 := hl.2 h
        refine ⟨fun _ => by omega, fun e2 => ?_⟩
        rw [h'] at e2
        split at e2 <;> omega
      | hold h h' => omega
      | leave h h' => omega
      | out h h' => omega
    · have he := rn_other (p := .tas P) (ps := ps) (r := r) e
      have hl := H.lim i
      unfold pcO at hl ⊢
      rw [he]
      exact hl
  · by_cases e : u = v
    · subst e
      have hin := spOf_range (sp := (rn (.tas P) ps r u).x.2) (i := u) (by show pcO (rn (.tas P) ps r u) u ≠ 0; rw [hu]; decide)
      have hl : (rn (.tas P) ps r u).x.2.length = N := (ok_gact H.ok u _).len
      have hs0 := hS u hin.1 (by omega)
      cases hm with
      | idle h h' => omega
      | ask h h' => omega
      | enter h hf h' hh => rw [hh]; omega
      | spin h hf h' => omega
      | wait h h' => rw [hu] at h'; split at h' <;> omega
      | hold h h' hh hs => have := (H.hold u h).1; rw [hh]; omega
      | leave h h' => omega
      | out h h' => omega
    · rw [hp_other e]
      exact H.hold u (by rw [← hu]; exact (congrArg Sp.pc (rn_other e)).symm)
end
end Go.Proofs.YthffhhgaeolpgaaGreat.Sn

/- What is left to do till somebody enters, over a lock that keeps no order: the plain law. -/
namespace Go.Proofs.YthffhhgaeolpgaaGreat.Sn
open Go.RowKit Go.Proofs.YthffhhgaeolpgaaGreat.Ara Go.Proofs.YthffhhgaeolpgaaGreat.Lok Go.Proofs.YthffhhgaeolpgaaGreat.Fl Go.Proofs.YthffhhgaeolpgaaGreat.Ga

def cT (ps : List Pl) (r : RunS LS) (u : Int) : Nat := if pcO r u = 10 then ((planOf ps u).stay + 1 - hp r u).toNat + 1 else 1
def bT (r : RunS LS) (t : Int) : Nat := if pcO r t = 2 then (spOf r.x.2 t).b.toNat + 1 else 1
def hI (r : RunS LS) : Option Nat := (List.range r.x.2.length).find? fun k => pcO r (k : Int) == 10 || pcO r (k : Int) == 11
def DT (P : Ta.Par) (ps : List Pl) (r : RunS LS) (t : Int) : Nat := match hI r with | some u => cT ps r u + P.most.toNat + 1 | none => bT r t
def crT (r : RunS LS) (t : Int) : Int := match hI r with | some u => (u : Int) | none => t
theorem hI_some {r : RunS LS} {k : Nat} (h : hI r = some k) : hldr r (k : Int) := by
  have := List.find?_some h
  simp only [Bool.or_eq_true, beq_iff_eq] at this
  exact this
theorem hI_none {r : RunS LS} {u : Int} (h : hI r = none) : ¬ hldr r u := by
  intro hu
  have hr := spOf_range (sp := r.x.2) (i := u) (by show pcO r u ≠ 0; rcases hu with hu | hu <;> omega)
  obtain ⟨k, rfl⟩ := Int.eq_ofNat_of_zero_le hr.1
  have := (List.find?_eq_none.1 h) k (List.mem_range.2 (by omega))
  simp only [Bool.or_eq_true, beq_iff_eq] at this
  exact this hu
section
variable {P : Ta.Par} {ps : List Pl} {N n : Nat} {r : RunS LS} (H : Rt P ps N n r)
include H
theorem Rt.held {u : Int} (hu : hldr r u) (t : Int) : DT P ps r t = cT ps r u + P.most.toNat + 1 ∧ crT r t = u := by
  unfold DT crT
  cases h : hI r with
  | none => exact absurd hu (hI_none h)
  | some k =>
    have e := H.one (hI_some h) hu
    simp only
    rw [e]
    exact ⟨rfl, rfl⟩
end
theorem free_d {P : Ta.Par} {ps : List Pl} {r : RunS LS} (hf : ∀ u, ¬ hldr r u) (t : Int) : DT P ps r t = bT r t ∧ crT r t = t := by
  unfold DT crT
  cases h : hI r with
  | none => exact ⟨rfl, rfl⟩
  | some k => exact absurd (hI_some h) (hf _)
section
variable {P : Ta.Par} {ps : List Pl} {N n S : Nat} {r : RunS LS} (H : Rt P ps N n r) (hS : ∀ u : Int, 0 ≤ u → u < N → 0 ≤ (planOf ps u).stay ∧ (planOf ps u).stay ≤ S)
include H
theorem Rt.rng {u : Int} (h : 0 < pcO r u) : 0 ≤ u ∧ u < N := by
  have h1 := spOf_range (sp := r.x.2) (i := u) (by show pcO r u ≠ 0; omega)
  have h2 : r.x.2.length = N := H.ok.len
  omega
theorem Rt.bt {t : Int} : 0 < bT r t ∧ bT r t ≤ P.most.toNat + 1 := by
  have hm := H.inv.m1
  have hl := H.lim t
  unfold bT
  split
  · rename_i h
    have := hl.2 h
    omega
  · omega
theorem Rt.dt_pos {t : Int} : 0 < DT P ps r t := by
  by_cases h : ∃ u, hldr r u
  · obtain ⟨u, hu⟩ := h
    rw [(H.held hu t).1]
    omega
  · rw [(free_d (fun u hu => h ⟨u, hu⟩) t).1]
    exact H.bt.1
theorem Rt.crt_in {t : Int} (ht : 0 ≤ t ∧ t < N) : 0 ≤ crT r t ∧ crT r t < N := by
  by_cases h : ∃ u, hldr r u
  · obtain ⟨u, hu⟩ := h
    rw [(H.held hu t).2]
    exact H.rng (by rcases hu with hu | hu <;> omega)
  · rw [(free_d (P := P) (ps := ps) (fun u hu => h ⟨u, hu⟩) t).2]
    exact ht
include hS in
theorem Rt.dt_le {t : Int} : DT P ps r t ≤ S + P.most.toNat + 3 := by
  by_cases h : ∃ u, hldr r u
  · obtain ⟨u, hu⟩ := h
    rw [(H.held hu t).1]
    have hr := H.rng (u := u) (by rcases hu with hu | hu <;> omega)
    have hs := hS u hr.1 hr.2
    unfold cT
    split
    · rename_i h10
      have := H.hold u h10
      omega
    · omega
  · rw [(free_d (fun u hu => h ⟨u, hu⟩) t).1]
    have := (H.bt (t := t)).2
    omega
theorem Rt.turn (hS0 : ∀ u : Int, 0 ≤ u → u < N → 0 ≤ (planOf ps u).stay) {t : Int} (hw : Wtn N r t) (v : Int) :
    (evO (.tas P) ps r v) = (2, v, 1) ∨ (Wtn N (rn (.tas P) ps r v) t ∧ DT P ps (rn (.tas P) ps r v) t ≤ DT P ps r t ∧ (DT P ps (rn (.tas P) ps r v) t < DT P ps r t ∨ (crT (rn (.tas P) ps r v) t = crT r t ∧ v ≠ crT r t))) := by
  obtain ⟨w1, w2, w3⟩ := hw
  have hm := H.move v
  have H' := H.next hS0 v
  have hso : ∀ u, u ≠ v → spOf (rn (.tas P) ps r v).x.2 u = spOf r.x.2 u := fun u hu => rn_other hu
  have hpo : ∀ u, u ≠ v → pcO (rn (.tas P) ps r v) u = pcO r u := fun u hu => congrArg Sp.pc (hso u hu)
  have hho : ∀ u, u ≠ v → hp (rn (.tas P) ps r v) u = hp r u := fun u hu => hp_other hu
  -- one that neither held nor holds
  have calm : ¬ hldr r v → ¬ hldr (rn (.tas P) ps r v) v → 0 < pcO (rn (.tas P) ps r v) t → pcO (rn (.tas P) ps r v) t < 10 → ((∀ u, ¬ hldr r u) → (bT (rn (.tas P) ps r v) t < bT r t ∨ (bT (rn (.tas P) ps r v) t = bT r t ∧ v ≠ t))) →
      (Wtn N (rn (.tas P) ps r v) t ∧ DT P ps (rn (.tas P) ps r v) t ≤ DT P ps r t ∧ (DT P ps (rn (.tas P) ps r v) t < DT P ps r t ∨ (crT (rn (.tas P) ps r v) t = crT r t ∧ v ≠ crT r t))) := by
    intro c1 c2 c3 c4 c5
    refine ⟨⟨c3, c4, w3⟩, ?_⟩
    by_cases h : ∃ u, hldr r u
    · obtain ⟨u, hu⟩ := h
      have huv : u ≠ v := fun e => c1 (e ▸ hu)
      have hu' : hldr (rn (.tas P) ps r v) u := by unfold hldr; rw [hpo u huv]; exact hu
      rw [(H.held hu t).1, (H.held hu t).2, (H'.held hu' t).1, (H'.held hu' t).2]
      have : cT ps (rn (.tas P) ps r v) u = cT ps r u := by unfold cT; rw [hpo u huv, hho u huv]
      rw [this]
      exact ⟨Nat.le_refl _, .inr ⟨rfl, Ne.symm huv⟩⟩
    · have hf : ∀ u, ¬ hldr r u := fun u hu => h ⟨u, hu⟩
      have hf' : ∀ u, ¬ hldr (rn (.tas P) ps r v) u := fun u hu => by
        by_cases e : u = v
        · exact c2 (e ▸ hu)
        · refine hf u ?_
          unfold hldr at hu ⊢
          rw [hpo u e] at hu
          exact hu
      obtain ⟨d1, d2⟩ := free_d (P := P) (ps := ps) hf t
      obtain ⟨d3, d4⟩ := free_d (P := P) (ps := ps) hf' t
      rw [d1, d2, d3, d4]
      rcases c5 hf with c5 | ⟨c5, c6⟩
      · exact ⟨by omega, .inl c5⟩
      · exact ⟨by omega, .inr ⟨rfl, c6⟩⟩
  have btsame : v ≠ t → bT (rn (.tas P) ps r v) t = bT r t := fun e => by unfold bT; rw [hpo t (Ne.symm e), hso t (Ne.symm e)]
  -- the one that holds is picked
  have less : hldr r v → v ≠ t → DT P ps (rn (.tas P) ps r v) t < DT P ps r t → (Wtn N (rn (.tas P) ps r v) t ∧ DT P ps (rn (.tas P) ps r v) t ≤ DT P ps r t ∧ (DT P ps (rn (.tas P) ps r v) t < DT P ps r t ∨ (crT (rn (.tas P) ps r v) t = crT r t ∧ v ≠ crT r t))) := by
    intro _ e h
    have := hpo t (Ne.symm e)
    exact ⟨⟨by omega, by omega, w3⟩, by omega, .inl h⟩
  cases hm with
  | idle h h' he =>
    have hvt : v ≠ t := fun e => by rw [e] at h; omega
    have := hpo t (Ne.symm hvt)
    exact .inr (calm (by unfold hldr; omega) (by unfold hldr; omega) (by omega) (by omega) (fun _ => .inr ⟨btsame hvt, hvt⟩))
  | ask h h' ha he =>
    have hvt : v ≠ t := fun e => by rw [e] at h; omega
    have := hpo t (Ne.symm hvt)
    exact .inr (calm (by unfold hldr; omega) (by unfold hldr; omega) (by omega) (by omega) (fun _ => .inr ⟨btsame hvt, hvt⟩))
  | enter h hf h' hh he => exact .inl he
  | spin h hf h' ha hb he =>
    refine .inr (calm (by unfold hldr; omega) (by unfold hldr; omega) ?_ ?_ (fun hn => absurd hf (fun ⟨u, hu⟩ => hn u hu)))
    · by_cases e : v = t
      · rw [← e]; omega
      · rw [hpo t (Ne.symm e)]; exact w1
    · by_cases e : v = t
      · rw [← e]; omega
      · rw [hpo t (Ne.symm e)]; exact w2
  | wait h h' ha hb he =>
    have hb1 := (H.lim v).2 h
    have hx : pcO (rn (.tas P) ps r v) v = 1 ∨ pcO (rn (.tas P) ps r v) v = 2 := by rw [h']; split <;> simp
    refine .inr (calm (by unfold hldr; omega) (by unfold hldr; omega) ?_ ?_ (fun hn => ?_))
    · by_cases e : v = t
      · rw [← e]; omega
      · rw [hpo t (Ne.symm e)]; exact w1
    · by_cases e : v = t
      · rw [← e]; omega
      · rw [hpo t (Ne.symm e)]; exact w2
    · by_cases e : v = t
      · left
        subst e
        unfold bT
        rw [if_pos h, hb]
        by_cases hz : (spOf r.x.2 v).b - 1 = 0
        · rw [if_pos hz] at h'
          rw [if_neg (by omega)]
          omega
        · rw [if_neg hz] at h'
          rw [if_pos h']
          omega
      · exact .inr ⟨btsame e, e⟩
  | hold h h' hh hs he =>
    have hvt : v ≠ t := fun e => by rw [e] at h; omega
    have hv : hldr r v := .inl h
    have hv' : hldr (rn (.tas P) ps r v) v := .inl h'
    have h0 := H.hold v h
    refine .inr (less hv hvt ?_)
    rw [(H.held hv t).1, (H'.held hv' t).1]
    unfold cT
    rw [if_pos h, if_pos h', hh]
    omega
  | leave h h' hs he =>
    have hvt : v ≠ t := fun e => by rw [e] at h; omega
    have hv : hldr r v := .inl h
    have hv' : hldr (rn (.tas P) ps r v) v := .inr h'
    have h0 := H.hold v h
    refine .inr (less hv hvt ?_)
    rw [(H.held hv t).1, (H'.held hv' t).1]
    unfold cT
    rw [if_pos h, if_neg (by omega)]
    omega
  | out h h' he =>
    have hvt : v ≠ t := fun e => by rw [e] at h; omega
    have hv : hldr r v := .inr h
    have hf' : ∀ u, ¬ hldr (rn (.tas P) ps r v) u := fun u hu => by
      by_cases e : u = v
      · rw [e] at hu; unfold hldr at hu; omega
      · have hu2 : hldr r u := by unfold hldr at hu ⊢; rw [hpo u e] at hu; exact hu
        exact e (H.one hu2 hv)
    have hb := (H'.bt (t := t)).2
    refine .inr (less hv hvt ?_)
    rw [(H.held hv t).1, (free_d hf' t).1]
    unfold cT
    rw [if_neg (by omega)]
    omega
end
end Go.Proofs.YthffhhgaeolpgaaGreat.Sn

/- A run of threads over a lock that keeps no order: if anybody waits somebody enters within as many picks: the plain law. -/
namespace Go.Proofs.YthffhhgaeolpgaaGreat.Sn
open Go.RowKit Go.Proofs.YthffhhgaeolpgaaGreat.Ara Go.Proofs.YthffhhgaeolpgaaGreat.Lok Go.Proofs.YthffhhgaeolpgaaGreat.Fl Go.Proofs.YthffhhgaeolpgaaGreat.Ga

section
variable {P : Ta.Par} {ps : List Pl} {N S : Nat} {x0 : LS} {l : List Int} (h0 : OkK (.tas P) x0.1 x0.2 N 0) (hz : ∀ i, (spOf x0.2 i).pc = 0)
  (hS : ∀ u : Int, 0 ≤ u → u < N → 0 ≤ (planOf ps u).stay ∧ (planOf ps u).stay ≤ S)
include h0 hz hS
theorem rt_ok (i : Nat) : Rt P ps N i (rq (.tas P) ps x0 l i).1 := by
  induction i with
  | zero =>
    refine ⟨h0, fun i => ?_, fun u hu => ?_, fun u => by show (0 : Int) ≤ 0; decide⟩
    · have : pcO (rq (.tas P) ps x0 l 0).1 i = 0 := hz i
      omega
    · have : pcO (rq (.tas P) ps x0 l 0).1 u = 0 := hz u
      omega
  | succ i ih => exact ih.next (fun u a b => (hS u a b).1) _
theorem waits_enters {k : Nat} (hf : FairBy l N k) (hk : 1 ≤ k) {i : Nat} {t : Int} (hw : Wtn N (rq (.tas P) ps x0 l i).1 t) (hl : i + k * (S + P.most.toNat + 3) ≤ l.length) :
    ∃ e, i ≤ e ∧ e < i + k * (S + P.most.toNat + 3) ∧ evR (.tas P) ps x0 l e = (2, l.getD e 0, 1) := by
  have H := rt_ok (P := P) (ps := ps) (l := l) h0 hz hS
  exact windows (Wt := fun i => Wtn N (rq (.tas P) ps x0 l i).1 t) (En := fun i => evR (.tas P) ps x0 l i = (2, l.getD i 0, 1)) (D := fun i => DT P ps (rq (.tas P) ps x0 l i).1 t) (cr := fun i => crT (rq (.tas P) ps x0 l i).1 t)
    hf hk (fun i _ hw => (H i).turn (fun u a b => (hS u a b).1) hw (l.getD i 0)) (fun i hw => (H i).crt_in hw.2.2) (fun i _ => (H i).dt_pos) _ i hw ((H i).dt_le hS) hl
end
open Sp (E St e0 stepP outP isO noteP)
structure Tn (r : RunS LS) (out : List St) : Prop where
  rest : ∀ v, pcO r v = 0 → ∀ s ∈ out, isO v s = false
  wait : ∀ v, 0 < pcO r v → pcO r v < 10 → (∃ s ∈ out, isO v s = true) ∧ ∀ s ∈ out, isO v s = true → s.en < 0 ∧ s.ex < 0
  hold : ∀ v, pcO r v = 10 → ∀ s ∈ out, isO v s = true → 0 ≤ s.en ∧ s.ex < 0
  gone : ∀ v, pcO r v = 11 → ∀ s ∈ out, isO v s = true → 0 ≤ s.ex
theorem isO_iff (t : Int) (s : St) : isO t s = true ↔ s.th = t ∧ s.re < 0 := by simp [isO]
theorem noteP_th (k : Nat) (s : St) (e : E) : (noteP k s e).th = s.th := by unfold noteP; repeat' (first | rfl | split)
theorem stepP_cases {out : List St} {k : Nat} {e : E} {s : St} (h : s ∈ stepP out k e) : (s ∈ out ∧ isO e.th s = false) ∨ (∃ s0 ∈ out, isO e.th s0 = true ∧ s = noteP k s0 e) ∨ (out.any (isO e.th) = false ∧ e.kind = 1 ∧ s = ⟨e.th, e.rd, k, -1, -1, -1, 0⟩) := by
  unfold stepP at h
  split at h
  · obtain ⟨s0, h1, h2⟩ := List.mem_map.1 h
    by_cases hc : isO e.th s0 = true
    · rw [if_pos hc] at h2
      exact .inr (.inl ⟨s0, h1, hc, h2.symm⟩)
    · rw [if_neg hc] at h2
      rw [← h2]
      exact .inl ⟨h1, by simpa using hc⟩
  · rename_i hn
    have hn : out.any (isO e.th) = false := by simpa using hn
    split at h
    · rename_i hk
      rcases List.mem_append.1 h with h | h
      · left
        refine ⟨h, ?_⟩
        cases hc : isO e.th s with
        | false => rfl
        | true => rw [List.any_eq_true.2 ⟨s, h, hc⟩] at hn; cases hn
      · exact .inr (.inr ⟨hn, hk, List.mem_singleton.1 h⟩)
    · left
      refine ⟨h, ?_⟩
      cases hc : isO e.th s with
      | false => rfl
      | true => rw [List.any_eq_true.2 ⟨s, h, hc⟩] at hn; cases hn
theorem stepP_old {out : List St} {k : Nat} {e : E} {s : St} (h : s ∈ out) (ho : isO e.th s = false) : s ∈ stepP out k e := by
  unfold stepP
  split
  · exact List.mem_map.2 ⟨s, h, by rw [if_neg (by rw [ho]; decide)]⟩
  · split
    · exact List.mem_append_left _ h
    · exact h
theorem stepP_note {out : List St} {k : Nat} {e : E} {s : St} (h : s ∈ out) (ho : isO e.th s = true) : noteP k s e ∈ stepP out k e := by
  unfold stepP
  rw [if_pos (List.any_eq_true.2 ⟨s, h, ho⟩)]
  exact List.mem_map.2 ⟨s, h, by rw [if_pos ho]⟩
theorem stepP_other {out : List St} {k : Nat} {e : E} {v : Int} (hv : v ≠ e.th) (s : St) (ho : isO v s = true) : s ∈ stepP out k e ↔ s ∈ out := by
  have hth := ((isO_iff v s).1 ho).1
  have hno : isO e.th s = false := by
    cases hc : isO e.th s with
    | false => rfl
    | true => exact absurd (hth.symm.trans ((isO_iff _ s).1 hc).1) hv
  constructor
  · intro h
    rcases stepP_cases h with h | ⟨s0, h1, h2, h3⟩ | ⟨h1, h2, h3⟩
    · exact h.1
    · have : s.th = e.th := by rw [h3, noteP_th]; exact ((isO_iff _ _).1 h2).1
      exact absurd (hth.symm.trans this) hv
    · have : s.th = e.th := by rw [h3]
      exact absurd (hth.symm.trans this) hv
  · exact fun h => stepP_old h hno
theorem stepP_calm {out : List St} {k : Nat} {e : E} (h : e.kind = 0) : stepP out k e = out := by
  have hn : ∀ s, noteP k s e = s := fun s => by unfold noteP; rw [if_neg (by omega), if_neg (by omega), if_neg (by omega)]
  unfold stepP
  split
  · conv => rhs; rw [← List.map_id out]
    refine List.map_congr_left fun s _ => ?_
    rw [hn]
    split <;> rfl
  · rw [if_neg (by omega)]
section
variable {P : Ta.Par} {ps : List Pl} {N n : Nat} {r : RunS LS} (H : Rt P ps N n r) {out : List St}
include H
theorem Rt.trace (hT : Tn r out) (v : Int) (k : Nat) : Tn (rn (.tas P) ps r v) (stepP out k (evE (evO (.tas P) ps r v))) := by
  have hm := H.move v
  have hpo : ∀ u, u ≠ v → pcO (rn (.tas P) ps r v) u = pcO r u := fun u hu => congrArg Sp.pc (rn_other hu)
  have calm : (evO (.tas P) ps r v).1 = 0 → (pcO (rn (.tas P) ps r v) v = pcO r v ∨ ((pcO r v = 1 ∨ pcO r v = 2) ∧ (pcO (rn (.tas P) ps r v) v = 1 ∨ pcO (rn (.tas P) ps r v) v = 2))) → Tn (rn (.tas P) ps r v) (stepP out k (evE (evO (.tas P) ps r v))) := by
    intro he hc
    rw [stepP_calm (show (evE (evO (.tas P) ps r v)).kind = 0 from he)]
    refine ⟨fun u hu => ?_, fun u hu hu2 => ?_, fun u hu => ?_, fun u hu => ?_⟩
    · by_cases e : u = v
      · subst e; exact hT.rest u (by omega)
      · exact hT.rest u (by rw [← hpo u e]; exact hu)
    · by_cases e : u = v
      · subst e; exact hT.wait u (by omega) (by omega)
      · exact hT.wait u (by rw [← hpo u e]; exact hu) (by rw [← hpo u e]; exact hu2)
    · by_cases e : u = v
      · subst e; exact hT.hold u (by omega)
      · exact hT.hold u (by rw [← hpo u e]; exact hu)
    · by_cases e : u = v
      · subst e; exact hT.gone u (by omega)
      · exact hT.gone u (by rw [← hpo u e]; exact hu)
  -- an event of v: all other threads as before
  have oth : (evO (.tas P) ps r v).2.1 = v → ∀ u, u ≠ v → ∀ s, isO u s = true → (s ∈ stepP out k (evE (evO (.tas P) ps r v)) ↔ s ∈ out) := by
    intro he u hu s hs
    exact stepP_other (show u ≠ (evE (evO (.tas P) ps r v)).th from by show u ≠ (evO (.tas P) ps r v).2.1; rw [he]; exact hu) s hs
  have mk : (evO (.tas P) ps r v).2.1 = v → (pcO (rn (.tas P) ps r v) v = 0 → ∀ s ∈ stepP out k (evE (evO (.tas P) ps r v)), isO v s = false) →
      (0 < pcO (rn (.tas P) ps r v) v → pcO (rn (.tas P) ps r v) v < 10 → (∃ s ∈ stepP out k (evE (evO (.tas P) ps r v)), isO v s = true) ∧ ∀ s ∈ stepP out k (evE (evO (.tas P) ps r v)), isO v s = true → s.en < 0 ∧ s.ex < 0) →
      (pcO (rn (.tas P) ps r v) v = 10 → ∀ s ∈ stepP out k (evE (evO (.tas P) ps r v)), isO v s = true → 0 ≤ s.en ∧ s.ex < 0) →
      (pcO (rn (.tas P) ps r v) v = 11 → ∀ s ∈ stepP out k (evE (evO (.tas P) ps r v)), isO v s = true → 0 ≤ s.ex) → Tn (rn (.tas P) ps r v) (stepP out k (evE (evO (.tas P) ps r v))) := by
    intro he m1 m2 m3 m4
    refine ⟨fun u hu s hs => ?_, fun u hu hu2 => ?_, fun u hu s hs ho => ?_, fun u hu s hs ho => ?_⟩
    · by_cases e : u = v
      · subst e; exact m1 hu s hs
      · cases hc : isO u s with
        | false => rfl
        | true => rw [hpo u e] at hu; rw [← hc]; exact hT.rest u hu s ((oth he u e s hc).1 hs)
    · by_cases e : u = v
      · subst e; exact m2 hu hu2
      · rw [hpo u e] at hu hu2
        obtain ⟨⟨s, s1, s2⟩, h2⟩ := hT.wait u hu hu2
        exact ⟨⟨s, (oth he u e s s2).2 s1, s2⟩, fun s hs ho => h2 s ((oth he u e s ho).1 hs) ho⟩
    · by_cases e : u = v
      · subst e; exact m3 hu s hs ho
      · rw [hpo u e] at hu; exact hT.hold u hu s ((oth he u e s ho).1 hs) ho
    · by_cases e : u = v
      · subst e; exact m4 hu s hs ho
      · rw [hpo u e] at hu; exact hT.gone u hu s ((oth he u e s ho).1 hs) ho
  cases hm with
  | idle h h' he => exact calm he (.inl (h'.trans h.symm))
  | ask h h' ha he =>
    have hno : out.any (isO v) = false := by
      cases hc : out.any (isO v) with
      | false => rfl
      | true =>
        obtain ⟨s, s1, s2⟩ := List.any_eq_true.1 hc
        rw [hT.rest v h s s1] at s2
        cases s2
    have hst : stepP out k (evE (evO (.tas P) ps r v)) = out ++ [⟨v, false, k, -1, -1, -1, 0⟩] := by
      rw [he]
      unfold stepP
      rw [if_neg (by rw [show (evE (1, v, 0)).th = v from rfl, hno]; decide)]
      rfl
    refine mk (by rw [he]) (fun h2 => by omega) (fun _ _ => ?_) (fun h2 => by omega) (fun h2 => by omega)
    rw [hst]
    refine ⟨⟨_, List.mem_append_right _ (List.mem_singleton.2 rfl), by simp [isO]⟩, fun s hs ho => ?_⟩
    rcases List.mem_append.1 hs with hs | hs
    · rw [hT.rest v h s hs] at ho; cases ho
    · rw [List.mem_singleton.1 hs]; exact ⟨by show (-1 : Int) < 0; decide, by show (-1 : Int) < 0; decide⟩
  | enter h hf h' hh he =>
    refine mk (by rw [he]) (fun h2 => by omega) (fun _ h2 => by omega) (fun _ s hs ho => ?_) (fun h2 => by omega)
    obtain ⟨_, hw⟩ := hT.wait v (by omega) (by omega)
    rw [he] at hs
    rcases stepP_cases hs with ⟨h1, h2⟩ | ⟨s0, h1, h2, h3⟩ | ⟨_, h2, _⟩
    · have h2 : isO v s = false := h2
      rw [h2] at ho; cases ho
    · obtain ⟨a1, a2⟩ := hw s0 h1 h2
      have : noteP k s0 (evE (2, v, 1)) = { s0 with en := k, ct := 1 } := by unfold noteP; rw [if_pos ⟨rfl, a1⟩]; rfl
      rw [h3, this]
      exact ⟨Int.natCast_nonneg k, a2⟩
    · exact absurd h2 (by simp [evE])
  | spin h hf h' ha hb he => exact calm he (.inr ⟨.inl h, .inr h'⟩)
  | wait h h' ha hb he => exact calm he (.inr ⟨.inr h, by rw [h']; split <;> simp⟩)
  | hold h h' hh hs he => exact calm he (.inl (h'.trans h.symm))
  | leave h h' hs he =>
    refine mk (by rw [he]) (fun h2 => by omega) (fun _ h2 => by omega) (fun h2 => by omega) (fun _ s hs ho => ?_)
    have hw := hT.hold v h
    rw [he] at hs
    rcases stepP_cases hs with ⟨h1, h2⟩ | ⟨s0, h1, h2, h3⟩ | ⟨_, h2, _⟩
    · have h2 : isO v s = false := h2
      rw [h2] at ho; cases ho
    · obtain ⟨a1, a2⟩ := hw s0 h1 h2
      have : noteP k s0 (evE (3, v, 0)) = { s0 with ex := k } := by unfold noteP; rw [if_neg (fun h => by simp [evE] at h), if_pos ⟨rfl, a1, a2⟩]
      rw [h3, this]
      exact Int.natCast_nonneg k
    · exact absurd h2 (by simp [evE])
  | out h h' he =>
    refine mk (by rw [he]) (fun _ s hs => ?_) (fun h2 => by omega) (fun h2 => by omega) (fun h2 => by omega)
    have hw := hT.gone v h
    rw [he] at hs
    rcases stepP_cases hs with ⟨h1, h2⟩ | ⟨s0, h1, h2, h3⟩ | ⟨_, h2, _⟩
    · exact h2
    · have a2 := hw s0 h1 h2
      have : noteP k s0 (evE (4, v, 0)) = { s0 with re := k } := by unfold noteP; rw [if_neg (fun h => by simp [evE] at h), if_neg (fun h => by simp [evE] at h), if_pos ⟨rfl, a2⟩]
      rw [h3, this]
      cases hc : isO v { s0 with re := (k : Int) } with
      | false => rfl
      | true => have := ((isO_iff _ _).1 hc).2; simp only at this; omega
    · exact absurd h2 (by simp [evE])
end
end Go.Proofs.YthffhhgaeolpgaaGreat.Sn

/- What comes of a run moves as the law tells: the plain law of SpanSome. -/
namespace Go.Proofs.YthffhhgaeolpgaaGreat.Sn
open Go.RowKit Go.Proofs.YthffhhgaeolpgaaGreat.Ara Go.Proofs.YthffhhgaeolpgaaGreat.Lok Go.Proofs.YthffhhgaeolpgaaGreat.Fl Go.Proofs.YthffhhgaeolpgaaGreat.Ga

open Sp (E St e0 nx bh hit stay outR outP stepP isO noteP nx_range entD wtD someR badR movesD) in
theorem moves_by {ev : List E} {within : Int} (h : ∀ at_, at_ < ev.length → within ≤ (ev.length : Int) - 1 - at_ → ∀ a, a ≤ at_ → (ev.getD a e0).kind = 1 → stay ev a (ev.getD a e0) ∈ outR ev ev.length → (nx ev (a + 1) 2 (ev.getD a e0).th < 0 ∨ (at_ : Int) < nx ev (a + 1) 2 (ev.getD a e0).th) →
    ∃ e, at_ < e ∧ e < ev.length ∧ (e : Int) - at_ ≤ within ∧ entD (outR ev ev.length) e = true) : movesD (outR ev ev.length) ev.length within = true := by
  refine Sp.moves_yes fun at_ hat => ?_
  unfold badR
  cases hw : wtD (outR ev ev.length) at_ with
  | false => rfl
  | true =>
    by_cases hlt : (ev.length : Int) - 1 - at_ < within
    · rw [decide_eq_true hlt]; rfl
    · unfold wtD at hw
      obtain ⟨s, hs, hc⟩ := List.any_eq_true.1 hw
      obtain ⟨a, h1, h2, rfl⟩ := outR_kind ev ev.length (Nat.le_refl _) s hs
      have hen : (stay ev a (ev.getD a e0)).en = nx ev (a + 1) 2 (ev.getD a e0).th := by
        show bh ev (a : Int) 2 _ = _
        unfold bh
        rw [if_neg (by omega)]
        rfl
      rw [hen, show (stay ev a (ev.getD a e0)).ask = (a : Int) from rfl] at hc
      simp only [Bool.and_eq_true, Bool.or_eq_true, decide_eq_true_eq] at hc
      obtain ⟨e, e1, e2, e3, e4⟩ := h at_ hat (by omega) a (by omega) h2 hs hc.2
      have hso : someR (outR ev ev.length) ev.length within at_ = true := by
        unfold someR
        rw [List.any_eq_true]
        refine ⟨e - at_ - 1, by rw [List.mem_range]; omega, ?_⟩
        rw [Bool.and_eq_true, decide_eq_true_eq]
        refine ⟨by omega, ?_⟩
        rw [show at_ + (e - at_ - 1 + 1) = e by omega]
        exact e4
      rw [hso]
      simp
open Sp (E St e0 nx bh hit stay outR outP stepP isO noteP nx_range entD wtD someR badR movesD) in
theorem moves_of {ev : List E} {within : Int} (h : ∀ a, a < ev.length → (ev.getD a e0).kind = 1 → (ev.length : Int) - 1 - a < within ∨ ∃ e, a < e ∧ e < ev.length ∧ (e : Int) - a ≤ within ∧ hit 2 (ev.getD a e0).th (ev.getD e e0) = true) :
    movesD (outR ev ev.length) ev.length within = true := by
  refine moves_by fun at_ hat hle a ha hkd hst hw => ?_
  rcases h a (by omega) hkd with h1 | ⟨e, h3, h4, h5, h6⟩
  · omega
  · have hn := nx_le (e - (a + 1)) (a + 1) e (by omega) h4 h6
    have hr := nx_range ev 2 (ev.getD a e0).th ev.length (a + 1) (by omega)
    obtain ⟨m, hm⟩ := Int.eq_ofNat_of_zero_le (show 0 ≤ nx ev (a + 1) 2 (ev.getD a e0).th by omega)
    refine ⟨m, by omega, by omega, by omega, ?_⟩
    unfold entD
    refine List.any_eq_true.2 ⟨_, hst, decide_eq_true ?_⟩
    show bh ev (a : Int) 2 _ = _
    unfold bh
    rw [if_neg (by omega)]
    exact hm
section
variable {P : Ta.Par} {ps : List Pl} {N S : Nat} {x0 : LS} {l : List Int} (h0 : OkK (.tas P) x0.1 x0.2 N 0) (hz : ∀ i, (spOf x0.2 i).pc = 0)
  (hS : ∀ u : Int, 0 ≤ u → u < N → 0 ≤ (planOf ps u).stay ∧ (planOf ps u).stay ≤ S)
include h0 hz hS
open Sp (E St e0 nx bh hit stay outR outP stepP isO noteP nx_range entD wtD someR badR movesD) in
theorem tn_ok {ev : List E} (hev : ∀ a, a < l.length → ev.getD a e0 = evE (evR (.tas P) ps x0 l a)) : ∀ i, i ≤ l.length → Tn (rq (.tas P) ps x0 l i).1 (outP ev i) := by
  intro i
  induction i with
  | zero =>
    intro _
    have hz0 : ∀ v, pcO (rq (.tas P) ps x0 l 0).1 v = 0 := hz
    refine ⟨fun v _ s hs => ?_, fun v h => ?_, fun v h => ?_, fun v h => ?_⟩
    · simp [outP] at hs
    · rw [hz0 v] at h; omega
    · rw [hz0 v] at h; omega
    · rw [hz0 v] at h; omega
  | succ i ih =>
    intro hi
    have := (rt_ok (P := P) (ps := ps) (l := l) h0 hz hS i).trace (ih (by omega)) (l.getD i 0) i
    show Tn (rn (.tas P) ps (rq (.tas P) ps x0 l i).1 (l.getD i 0)) (stepP (outP ev i) i (ev.getD i e0))
    rw [hev i (by omega)]
    exact this
open Sp (E St e0 nx bh hit stay outR outP stepP isO noteP nx_range entD wtD someR badR movesD) in
theorem ent_ok {ev : List E} (hlen : ev.length = l.length) (hev : ∀ a, a < l.length → ev.getD a e0 = evE (evR (.tas P) ps x0 l a)) {e : Nat} (he : e < l.length) {v : Int} (hv : evR (.tas P) ps x0 l e = (2, v, 1)) : entD (outR ev ev.length) e = true := by
  have hT := tn_ok (P := P) (ps := ps) h0 hz hS hev e (by omega)
  have hm := (rt_ok (P := P) (ps := ps) (l := l) h0 hz hS e).move (l.getD e 0)
  have hev2 : evO (.tas P) ps (rq (.tas P) ps x0 l e).1 (l.getD e 0) = (2, v, 1) := hv
  have hpc : pcO (rq (.tas P) ps x0 l e).1 v = 1 := by
    cases hm with
    | enter h hf h' hh h2 =>
      rw [hev2] at h2
      injection h2 with _ h2
      injection h2 with h2 _
      rw [h2]; exact h
    | idle h h' h2 => rw [hev2] at h2; simp at h2
    | ask h h' ha h2 => rw [hev2] at h2; simp at h2
    | spin h hf h' ha hb h2 => rw [hev2] at h2; simp at h2
    | wait h h' ha hb h2 => rw [hev2] at h2; simp at h2
    | hold h h' hh hs h2 => rw [hev2] at h2; simp at h2
    | leave h h' hs h2 => rw [hev2] at h2; simp at h2
    | out h h' h2 => rw [hev2] at h2; simp at h2
  obtain ⟨⟨s, s1, s2⟩, h3⟩ := hT.wait v (by omega) (by omega)
  have hen := (h3 s s1 s2).1
  have hfirst : ∃ s ∈ outP ev (e + 1), s.en = (e : Int) := by
    refine ⟨noteP e s (ev.getD e e0), stepP_note s1 (by rw [hev e he, hv]; exact s2), ?_⟩
    rw [hev e he, hv]
    unfold noteP
    rw [if_pos ⟨rfl, hen⟩]
  have hkeep : ∀ d, e + 1 + d ≤ l.length → ∃ s ∈ outP ev (e + 1 + d), s.en = (e : Int) := by
    intro d
    induction d with
    | zero => exact fun _ => hfirst
    | succ d ih =>
      intro hd
      obtain ⟨s, k1, k2⟩ := ih (by omega)
      show ∃ s ∈ stepP (outP ev (e + 1 + d)) (e + 1 + d) (ev.getD (e + 1 + d) e0), s.en = (e : Int)
      cases ho : isO (ev.getD (e + 1 + d) e0).th s with
      | false => exact ⟨s, stepP_old k1 ho, k2⟩
      | true =>
        refine ⟨_, stepP_note k1 ho, ?_⟩
        unfold noteP
        rw [if_neg (fun hh => by omega)]
        repeat' (first | exact k2 | split)
  obtain ⟨s, k1, k2⟩ := hkeep (l.length - (e + 1)) (by omega)
  rw [show e + 1 + (l.length - (e + 1)) = ev.length by omega, Sp.of_eq] at k1
  exact List.any_eq_true.2 ⟨s, k1, decide_eq_true k2⟩
open Sp (E St e0 nx bh hit stay outR outP stepP isO noteP nx_range entD wtD someR badR movesD) in
theorem tas_run {k : Nat} (hf : FairBy l N k) (hk : 1 ≤ k) {ev : List E} (he : ev = (runL stF (actF (.tas P)) ps x0 l).out.map evE) {within : Int} (hw : ((k * (S + P.most.toNat + 3) : Nat) : Int) ≤ within) :
    movesD (outR ev ev.length) ev.length within = true := by
  rw [out_run] at he
  have hlen : ev.length = l.length := by rw [he]; simp
  have hev : ∀ a, a < l.length → ev.getD a e0 = evE (evR (.tas P) ps x0 l a) := by
    intro a ha
    rw [he, List.getD_eq_getElem?_getD, List.getElem?_map, List.getElem?_map, List.getElem?_range ha]
    rfl
  have H := rt_ok (P := P) (ps := ps) (l := l) h0 hz hS
  refine moves_by fun at_ hat hle a ha hkd _ hwt => ?_
  rw [hev a (by omega)] at hkd hwt
  -- its ask
  have hask : (evR (.tas P) ps x0 l a) = (1, l.getD a 0, 0) ∧ pcO (rq (.tas P) ps x0 l (a + 1)).1 (l.getD a 0) = 1 := by
    have h1 : (evO (.tas P) ps (rq (.tas P) ps x0 l a).1 (l.getD a 0)).1 = 1 := hkd
    have hm := (H a).move (l.getD a 0)
    cases hm with
    | ask h h' ha h2 => exact ⟨h2, h'⟩
    | enter h hf h' hh h2 => rw [h2] at h1; simp at h1
    | idle h h' h2 => rw [h2] at h1; simp at h1
    | spin h hf h' ha hb h2 => rw [h2] at h1; simp at h1
    | wait h h' ha hb h2 => rw [h2] at h1; simp at h1
    | hold h h' hh hs h2 => rw [h2] at h1; simp at h1
    | leave h h' hs h2 => rw [h2] at h1; simp at h1
    | out h h' h2 => rw [h2] at h1; simp at h1
  obtain ⟨t, ht⟩ : ∃ t, l.getD a 0 = t := ⟨_, rfl⟩
  rw [ht] at hask
  rw [hask.1] at hwt
  have hth : (evE (1, t, 0)).th = t := rfl
  rw [hth] at hwt
  -- it waits till then
  have hwait : ∀ d, a + 1 + d ≤ at_ + 1 → 0 < pcO (rq (.tas P) ps x0 l (a + 1 + d)).1 t ∧ pcO (rq (.tas P) ps x0 l (a + 1 + d)).1 t < 10 := by
    intro d
    induction d with
    | zero => intro _; rw [show a + 1 + 0 = a + 1 from rfl, hask.2]; omega
    | succ d ih =>
      intro hd
      obtain ⟨p1, p2⟩ := ih (by omega)
      have hm := (H (a + 1 + d)).move (l.getD (a + 1 + d) 0)
      show 0 < pcO (rn (.tas P) ps (rq (.tas P) ps x0 l (a + 1 + d)).1 (l.getD (a + 1 + d) 0)) t ∧ pcO (rn (.tas P) ps (rq (.tas P) ps x0 l (a + 1 + d)).1 (l.getD (a + 1 + d) 0)) t < 10
      by_cases e : l.getD (a + 1 + d) 0 = t
      · rw [e] at hm ⊢
        cases hm with
        | enter h hf h' hh h2 =>
          exfalso
          have hhit : hit 2 t (ev.getD (a + 1 + d) e0) = true := by
            rw [hev _ (by omega)]
            show hit 2 t (evE (evO (.tas P) ps (rq (.tas P) ps x0 l (a + 1 + d)).1 (l.getD (a + 1 + d) 0))) = true
            rw [e, h2]
            simp [hit, evE]
          have := nx_le d (a + 1) (a + 1 + d) rfl (by omega) hhit
          omega
        | idle h h' h2 => omega
        | ask h h' ha h2 => omega
        | spin h hf h' ha hb h2 => omega
        | wait h h' ha hb h2 => rw [h']; split <;> omega
        | hold h h' hh hs h2 => omega
        | leave h h' hs h2 => omega
        | out h h' h2 => omega
      · rw [show pcO (rn (.tas P) ps (rq (.tas P) ps x0 l (a + 1 + d)).1 (l.getD (a + 1 + d) 0)) t = pcO (rq (.tas P) ps x0 l (a + 1 + d)).1 t from congrArg Sp.pc (rn_other (Ne.symm e))]
        exact ⟨p1, p2⟩
  have hwn := hwait (at_ - a) (by omega)
  rw [show a + 1 + (at_ - a) = at_ + 1 by omega] at hwn
  have hrg := (H (at_ + 1)).rng hwn.1
  obtain ⟨e, e1, e2, e3⟩ := waits_enters h0 hz hS hf hk (l := l) (i := at_ + 1) (t := t) ⟨hwn.1, hwn.2, hrg⟩ (by omega)
  exact ⟨e, by omega, by omega, by omega, ent_ok h0 hz hS hlen hev (by omega) e3⟩
end
end Go.Proofs.YthffhhgaeolpgaaGreat.Sn

