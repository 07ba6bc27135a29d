/- The walk of layer 22: Keeps. -/
import Derived.Test.YtdkggdfofmgdlaaSp13
namespace Go.Proofs.Ytdkggdfofmgdlaa.Sp
open Go.RowKit
theorem frame33 {a : Act} (h : a.tmps.size = 33) (hd : a.defers = []) : ∃ u : Nat → Value, a = { tmps := #[u 0, u 1, u 2, u 3, u 4, u 5, u 6, u 7, u 8, u 9, u 10, u 11, u 12, u 13, u 14, u 15, u 16, u 17, u 18, u 19, u 20, u 21, u 22, u 23, u 24, u 25, u 26, u 27, u 28, u 29, u 30, u 31, u 32], defers := [] } ∧ ∀ n, a.tmps.getD n undef = u n := by
  refine ⟨fun n => a.tmps.getD n undef, ?_, fun _ => rfl⟩
  have h1 := arr_lit a.tmps h
  cases a with
  | mk t d =>
    simp only at hd h1
    subst hd
    congr 1
theorem own_sl7 {w : World} {base n c : Nat} {B : Option Addr} {out : List St} (h : w.ownsRow base 38 7 (.slice B n c) n (out.flatMap dSt)) : Sl w w.heap.size B (out.flatMap dSt) := by
  obtain ⟨A, c', hA, _, _, hc⟩ := own_slice h
  cases hA
  exact hc
theorem sl_st7 {w : World} {Bd : Nat} {A : Option Addr} {l : List St} (h : Sl w Bd A (l.flatMap dSt)) (hk : 0 < l.length) : ∃ b off, A = some ⟨b, off, none⟩ ∧ b < Bd ∧ ∀ j, j < l.length → w.cell? ⟨b, off + j * 7, none⟩ = some (.int .i64 (l.getD j s0).th) ∧ w.cell? ⟨b, off + j * 7 + 1, none⟩ = some (.bool (l.getD j s0).rd) ∧ w.cell? ⟨b, off + j * 7 + 2, none⟩ = some (.int .i64 (l.getD j s0).ask) ∧ w.cell? ⟨b, off + j * 7 + 3, none⟩ = some (.int .i64 (l.getD j s0).en) ∧ w.cell? ⟨b, off + j * 7 + 4, none⟩ = some (.int .i64 (l.getD j s0).ex) ∧ w.cell? ⟨b, off + j * 7 + 5, none⟩ = some (.int .i64 (l.getD j s0).re) ∧ w.cell? ⟨b, off + j * 7 + 6, none⟩ = some (.int .i64 (l.getD j s0).ct) := by
  obtain ⟨b, off, rfl, hb, hc⟩ := Sl_at (dec := dSt) (k := 7) (fun _ => rfl) (by omega) h hk
  refine ⟨b, off, rfl, hb, fun j hj => ?_⟩
  have h0 := hc j hj 0 (by omega)
  have h1 := hc j hj 1 (by omega)
  have h2 := hc j hj 2 (by omega)
  have h3 := hc j hj 3 (by omega)
  have h4 := hc j hj 4 (by omega)
  have h5 := hc j hj 5 (by omega)
  have h6 := hc j hj 6 (by omega)
  simp only [dSt, List.getElem?_cons_zero, List.getElem?_cons_succ, Nat.add_zero, ← Nat.add_assoc] at h0 h1 h2 h3 h4 h5 h6
  have e : l.getD j s0 = l[j] := by rw [List.getD_eq_getElem?_getD, List.getElem?_eq_getElem hj]; rfl
  rw [e]
  exact ⟨h0, h1, h2, h3, h4, h5, h6⟩
/-- A stay's ask and entry lie in the trace; it enters behind its ask. -/
def OkT (n : Nat) (s : St) : Prop := OkS n s ∧ (s.en < 0 ∨ s.ask < s.en)
theorem outP_ok (l : List E) : ∀ s ∈ outP l l.length, OkT l.length s := fun s hs => by
  rw [of_eq] at hs
  refine ⟨outR_ok l s hs, ?_⟩
  obtain ⟨a, e, ha, rfl⟩ := asked l l.length s hs
  have r := bh_range l (a : Int) 2 e.th
  show bh l (a : Int) 2 e.th < 0 ∨ (a : Int) < bh l (a : Int) 2 e.th
  omega
theorem fK_neg2 {n : Nat} {within : Int} {s : St} (h : s.en < 0) : fK n within s = !decide (within < (n : Int) - 1 - s.ask) := by
  rw [fK_neg h]
  congr 2
  exact propext ⟨fun h => by omega, fun h => by omega⟩
def PJ (l : List E) (out : List St) (within : Int) (A : Option Addr) (cap : Nat) (B : Option Addr) (cb : Nat) (tgt : Bool) (W1 : World) (a : Act) (W : World) : Prop :=
  a.tmps.size = 33 ∧ a.defers = [] ∧ a.tmps.getD 0 undef = .int .i64 within ∧ a.tmps.getD 1 undef = .slice A l.length cap ∧ a.tmps.getD 9 undef = .slice B out.length cb ∧ a.tmps.getD 10 undef = .int .i64 (out.length : Int) ∧ Below W1.heap.size W1 W ∧ ∃ j : Nat, a.tmps.getD 11 undef = .int .i64 (j : Int) ∧ j ≤ out.length ∧ (out.drop j).all (fK l.length within) = tgt
set_option maxRecDepth 100000 in
set_option maxHeartbeats 4000000 in
theorem keeps_any (l : List E) (within : Int) (A : Option Addr) (cap : Nat) (w : World) (hm : l.length ≤ 1000) (hwf : Wf l) (hs : Sl w w.heap.size A (l.flatMap dE)) :
    Calls Try.prog 9 #[.int .i64 within, .slice A l.length cap] w fun e w' => e = .returned (.bool (keepsD (outP l l.length) l.length within)) ∧ Below w.heap.size w w' := by
  have HC := Lib.hid (of_any l A cap w hm hwf hs)
  have HOK := Lib.hid (outP_ok l)
  have hol := outP_len l l.length
  clear hs hwf
  obtain ⟨tgt, ht⟩ : ∃ x, keepsD (outP l l.length) l.length within = x := ⟨_, rfl⟩
  rw [ht]
  have HT := Lib.hid (show ((outP l l.length).drop 0).all (fK l.length within) = tgt from ht)
  clear ht
  generalize outP l l.length = out at *
  go_enter Try.func9, Try.ntmps9
  go_wp2_with fail
  refine HC.out.mono ?_
  rintro e w1 ⟨B, cb, rfl, hown, hb⟩
  have HB := Lib.hid hb
  have HSL := Lib.hid (own_sl7 hown)
  clear hb hown
  go_wp2_with fail
  refine wp_loop (PJ l out within A cap B cb tgt w1) (fun a' _ => out.length - (intOf (a'.tmps.getD 11 undef)).toNat) ?_ ?_
  · exact ⟨rfl, rfl, rfl, rfl, rfl, rfl, Below.refl _ _, 0, rfl, Nat.zero_le _, HT.out⟩
  · rintro a' W3 ⟨hsz, hdf, s0', s1', s9', s10', hW, j, s11, hj, hrun⟩
    have SL3 : Hid (Sl W3 w1.heap.size B (out.flatMap dSt)) := Lib.hid (HSL.out.below hW)
    have HB3 := Lib.hid hW
    have hzz := hW.size
    clear hW
    obtain ⟨u, rfl, hu⟩ := frame33 hsz hdf
    rw [hu] at s0' s1' s9' s10' s11
    simp only [s0', s1', s9', s10', s11]
    clear hsz hdf s0' s1' s9' s10' s11 hu
    by_cases hlt : j < out.length
    · obtain ⟨b, off, rfl, hbb, hcell⟩ := sl_st7 SL3.out (by omega)
      obtain ⟨c0, c1, c2, c3, c4, c5, c6⟩ := hcell j hlt
      have i1 : (j : Int) < (out.length : Int) := by omega
      rw [all_step hlt] at hrun
      obtain ⟨⟨o1, o2, o3, o4⟩, _⟩ := HOK.out _ (getD_mem hlt)
      clear hcell
      generalize out.getD j s0 = st at *
      have w1 : IntKind.i64.wrap ((l.length : Int) - 1) = (l.length : Int) - 1 := IntWalk.i64_in _ (by omega)
      have w2 : IntKind.i64.wrap ((l.length : Int) - 1 - st.ask) = (l.length : Int) - 1 - st.ask := IntWalk.i64_in _ (by omega)
      have w3 : IntKind.i64.wrap (st.en - st.ask) = st.en - st.ask := IntWalk.i64_in _ (by omega)
      by_cases h1 : st.en < 0
      · rw [fK_neg2 h1] at hrun
        by_cases h2 : within < (l.length : Int) - 1 - st.ask
        · simp only [h2, decide_true, Bool.not_true, Bool.false_and] at hrun
          have HN := Lib.hid hrun
          clear hrun
          go_wp2_with fail
          go_ret
          exact ⟨by rw [← HN.out]; rfl, (HB.out.trans (HB3.out.mono HB.out.size)).alloc (Nat.le_trans HB.out.size HB3.out.size) _⟩
        · have h2' := decide_eq_false h2
          simp only [h2', Bool.not_false, Bool.true_and] at hrun
          have HN := Lib.hid hrun
          clear hrun
          go_wp2_with fail
          go_roundw
          case rel => exact ⟨rfl, rfl, rfl, rfl, rfl, rfl, HB3.out.alloc HB3.out.size _, j + 1, by go_num, by omega, HN.out⟩
          case measure => simp [intOf]; omega
      · rw [fK_pos h1] at hrun
        by_cases h2 : within < st.en - st.ask
        · simp only [h2, decide_true, Bool.not_true, Bool.false_and] at hrun
          have HN := Lib.hid hrun
          clear hrun
          go_wp2_with fail
          go_ret
          exact ⟨by rw [← HN.out]; rfl, (HB.out.trans (HB3.out.mono HB.out.size)).alloc (Nat.le_trans HB.out.size HB3.out.size) _⟩
        · have h2' := decide_eq_false h2
          simp only [h2', Bool.not_false, Bool.true_and] at hrun
          have HN := Lib.hid hrun
          clear hrun
          go_wp2_with fail
          go_roundw
          case rel => exact ⟨rfl, rfl, rfl, rfl, rfl, rfl, HB3.out.alloc HB3.out.size _, j + 1, by go_num, by omega, HN.out⟩
          case measure => simp [intOf]; omega
    · rw [all_end (by omega)] at hrun
      have HN := Lib.hid hrun
      have i1 : ¬ (j : Int) < (out.length : Int) := by omega
      clear hrun
      go_wp2_with fail
      go_ret
      exact ⟨by rw [← HN.out]; rfl, HB.out.trans (HB3.out.mono HB.out.size)⟩
end Go.Proofs.Ytdkggdfofmgdlaa.Sp
