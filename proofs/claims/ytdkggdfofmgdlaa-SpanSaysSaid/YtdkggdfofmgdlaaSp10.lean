/- Walks of layer 22's reference: Keeps, Moves. -/
import Derived.Test.YtdkggdfofmgdlaaSp9
namespace Go.Proofs.Ytdkggdfofmgdlaa.Sp
open Go.RowKit
theorem frame57 {a : Act} (h : a.tmps.size = 57) (hd : a.defers = []) : ∃ u : Nat → Value, a = { tmps := #[u 0, u 1, u 2, u 3, u 4, u 5, u 6, u 7, u 8, u 9, u 10, u 11, u 12, u 13, u 14, u 15, u 16, u 17, u 18, u 19, u 20, u 21, u 22, u 23, u 24, u 25, u 26, u 27, u 28, u 29, u 30, u 31, u 32, u 33, u 34, u 35, u 36, u 37, u 38, u 39, u 40, u 41, u 42, u 43, u 44, u 45, u 46, u 47, u 48, u 49, u 50, u 51, u 52, u 53, u 54, u 55, u 56], defers := [] } ∧ ∀ n, a.tmps.getD n undef = u n := by
  refine ⟨fun n => a.tmps.getD n undef, ?_, fun _ => rfl⟩
  have h1 := arr_lit a.tmps h
  cases a with
  | mk t d =>
    simp only at hd h1
    subst hd
    congr 1
theorem frame51 {a : Act} (h : a.tmps.size = 51) (hd : a.defers = []) : ∃ u : Nat → Value, a = { tmps := #[u 0, u 1, u 2, u 3, u 4, u 5, u 6, u 7, u 8, u 9, u 10, u 11, u 12, u 13, u 14, u 15, u 16, u 17, u 18, u 19, u 20, u 21, u 22, u 23, u 24, u 25, u 26, u 27, u 28, u 29, u 30, u 31, u 32, u 33, u 34, u 35, u 36, u 37, u 38, u 39, u 40, u 41, u 42, u 43, u 44, u 45, u 46, u 47, u 48, u 49, u 50], defers := [] } ∧ ∀ n, a.tmps.getD n undef = u n := by
  refine ⟨fun n => a.tmps.getD n undef, ?_, fun _ => rfl⟩
  have h1 := arr_lit a.tmps h
  cases a with
  | mk t d =>
    simp only at hd h1
    subst hd
    congr 1
def OkS (n : Nat) (s : St) : Prop := 0 ≤ s.ask ∧ s.ask < (n : Int) ∧ -1 ≤ s.en ∧ s.en < (n : Int)
theorem outR_ok (l : List E) : ∀ s ∈ outR l l.length, OkS l.length s := fun s hs => by
  obtain ⟨a, e, ha, rfl⟩ := asked l l.length s hs
  have r := bh_range l (a : Int) 2 e.th
  show 0 ≤ (a : Int) ∧ (a : Int) < _ ∧ -1 ≤ bh l (a : Int) 2 e.th ∧ bh l (a : Int) 2 e.th < _
  omega
theorem all_step {f : St → Bool} {l : List St} {j : Nat} (h : j < l.length) : (l.drop j).all f = (f (l.getD j s0) && (l.drop (j + 1)).all f) := by
  rw [List.drop_eq_getElem_cons h, List.all_cons, List.getD_eq_getElem?_getD, List.getElem?_eq_getElem h]
  rfl
theorem all_end {f : St → Bool} {l : List St} {j : Nat} (h : l.length ≤ j) : (l.drop j).all f = true := by rw [List.drop_eq_nil_of_le h]; rfl
theorem getD_mem {l : List St} {j : Nat} (h : j < l.length) : l.getD j s0 ∈ l := by
  rw [List.getD_eq_getElem?_getD, List.getElem?_eq_getElem h]
  exact List.getElem_mem h
def fK (n : Nat) (within : Int) (s : St) : Bool := decide (waitD n s ≤ within)
theorem fK_neg {n : Nat} {within : Int} {s : St} (h : s.en < 0) : fK n within s = !decide (within < (n : Int) - s.ask - 1) := by
  unfold fK waitD
  rw [if_pos h]
  by_cases c : within < (n : Int) - s.ask - 1
  · rw [decide_eq_false (by omega), decide_eq_true c]; rfl
  · rw [decide_eq_true (by omega), decide_eq_false c]; rfl
theorem fK_pos {n : Nat} {within : Int} {s : St} (h : ¬ s.en < 0) : fK n within s = !decide (within < s.en - s.ask) := by
  unfold fK waitD
  rw [if_neg h]
  by_cases c : within < s.en - s.ask
  · rw [decide_eq_false (by omega), decide_eq_true c]; rfl
  · rw [decide_eq_true (by omega), decide_eq_false c]; rfl
def KJ (l : List E) (out : List St) (within : Int) (A : Option Addr) (cap : Nat) (B : Option Addr) (cb : Nat) (tgt : Bool) (W1 : World) (a : Act) (W : World) : Prop :=
  a.tmps.size = 57 ∧ a.defers = [] ∧ a.tmps.getD 0 undef = .int .i64 within ∧ a.tmps.getD 1 undef = .slice A l.length cap ∧ a.tmps.getD 5 undef = .slice B out.length cb ∧ ∃ q, W = W1.drewN q ∧ ∃ j : Nat, a.tmps.getD 6 undef = .int .i64 (j : Int) ∧ j ≤ out.length ∧ (out.drop j).all (fK l.length within) = tgt
set_option maxRecDepth 100000 in
set_option maxHeartbeats 4000000 in
theorem rkeeps_any (l : List E) (within : Int) (A : Option Addr) (cap : Nat) (w : World) (hm : l.length ≤ 1000) (hs : Sl w w.heap.size A (l.flatMap dE)) :
    Calls Try.prog 10 #[.int .i64 within, .slice A l.length cap] w fun e w' => e = .returned (.bool (keepsD (outR l l.length) l.length within)) ∧ Below w.heap.size w w' := by
  have HC := Lib.hid (rof_any l A cap w hm hs)
  have HOK := Lib.hid (outR_ok l)
  have hol := outR_len l l.length
  clear hs
  obtain ⟨tgt, ht⟩ : ∃ x, keepsD (outR l l.length) l.length within = x := ⟨_, rfl⟩
  rw [ht]
  have HT := Lib.hid (show ((outR l l.length).drop 0).all (fK l.length within) = tgt from ht)
  clear ht
  generalize outR l l.length = out at *
  go_enter Try.func10, Try.ntmps10
  go_wp2_with fail
  refine HC.out.mono ?_
  rintro e w1 ⟨B, cb, rfl, hsl, hb⟩
  have HB := Lib.hid hb
  have HSL := Lib.hid hsl
  clear hb hsl
  go_wp2_with fail
  refine wp_loop (KJ l out within A cap B cb tgt w1) (fun a' _ => out.length - (intOf (a'.tmps.getD 6 undef)).toNat) ?_ ?_
  · exact ⟨rfl, rfl, rfl, rfl, rfl, 0, rfl, 0, rfl, Nat.zero_le _, HT.out⟩
  · rintro a' W3 ⟨hsz, hdf, s0', s1', s5', qd, hW, j, s6, hj, hrun⟩
    have SL3 : Hid (Sl W3 W3.heap.size B (out.flatMap dSt)) := Lib.hid (by rw [hW]; exact HSL.out)
    have HB3 : Hid (Below w.heap.size w W3) := Lib.hid (by rw [hW]; exact below_drewN HB.out qd)
    have HW := Lib.hid hW
    clear hW
    obtain ⟨u, rfl, hu⟩ := frame57 hsz hdf
    rw [hu] at s0' s1' s5' s6
    simp only [s0', s1', s5', s6]
    clear hsz hdf s0' s1' s5' s6 hu
    by_cases hlt : j < out.length
    · obtain ⟨b, off, rfl, hbb, hcell⟩ := sl_st SL3.out (by omega)
      obtain ⟨_, c2, c3, _⟩ := hcell j hlt
      have i1 : (j : Int) < (out.length : Int) := by omega
      rw [all_step hlt] at hrun
      obtain ⟨o1, o2, o3, o4⟩ := HOK.out _ (getD_mem hlt)
      clear hcell
      generalize out.getD j s0 = st at *
      have w1 : IntKind.i64.wrap ((l.length : Int) - st.ask) = (l.length : Int) - st.ask := IntWalk.i64_in _ (by omega)
      have w2 : IntKind.i64.wrap ((l.length : Int) - st.ask - 1) = (l.length : Int) - st.ask - 1 := IntWalk.i64_in _ (by omega)
      have w3 : IntKind.i64.wrap (st.en - st.ask) = st.en - st.ask := IntWalk.i64_in _ (by omega)
      by_cases h1 : st.en < 0
      · have h1' : decide (0 ≤ st.en) = false := decide_eq_false (by omega)
        rw [fK_neg h1] at hrun
        by_cases h2 : within < (l.length : Int) - st.ask - 1
        · simp only [h2, decide_true, Bool.not_true, Bool.false_and] at hrun
          have HN := Lib.hid hrun
          clear hrun
          go_wp2_with fail
          go_quiet (fail)
          go_wp2_with fail
          go_ret
          exact ⟨by rw [← HN.out]; rfl, below_drewN HB3.out _⟩
        · have h2' := decide_eq_false h2
          simp only [h2', Bool.not_false, Bool.true_and] at hrun
          have HN := Lib.hid hrun
          clear hrun
          go_wp2_with fail
          go_quiet (fail)
          go_wp2_with fail
          go_roundw
          case rel => exact ⟨rfl, rfl, rfl, rfl, rfl, _, by rw [HW.out, World.drewN_drewN], j + 1, by go_num, by omega, HN.out⟩
          case measure => simp [intOf]; omega
      · have h1' : 0 ≤ st.en := by omega
        have h1'' : decide (st.en < 0) = false := decide_eq_false h1
        rw [fK_pos h1] at hrun
        by_cases h2 : within < st.en - st.ask
        · simp only [h2, decide_true, Bool.not_true, Bool.false_and] at hrun
          have HN := Lib.hid hrun
          clear hrun
          go_wp2_with fail
          go_quiet (fail)
          go_wp2_with fail
          go_ret
          exact ⟨by rw [← HN.out]; rfl, below_drewN HB3.out _⟩
        · have h2' := decide_eq_false h2
          simp only [h2', Bool.not_false, Bool.true_and] at hrun
          have HN := Lib.hid hrun
          clear hrun
          go_wp2_with fail
          go_quiet (fail)
          go_wp2_with fail
          go_roundw
          case rel => exact ⟨rfl, rfl, rfl, rfl, rfl, _, by rw [HW.out, World.drewN_drewN], j + 1, by go_num, by omega, HN.out⟩
          case measure => simp [intOf]; omega
    · rw [all_end (by omega)] at hrun
      have HN := Lib.hid hrun
      have i1 : ¬ (j : Int) < (out.length : Int) := by omega
      clear hrun
      go_wp2_with fail
      go_ret
      exact ⟨by rw [← HN.out]; rfl, HB3.out⟩
/-- Does somebody enter behind a place, as far as has been looked? -/
def someK (out : List St) (within : Int) (at_ k : Nat) : Bool := (List.range k).any fun i => decide (1 ≤ i) && decide ((i : Int) ≤ within) && entD out (at_ + i)
theorem someK_one (out : List St) (within : Int) (at_ : Nat) : someK out within at_ 1 = false := by simp [someK]
theorem someK_succ (out : List St) (within : Int) (at_ k : Nat) (hk : 1 ≤ k) (h : (k : Int) ≤ within) : someK out within at_ (k + 1) = (someK out within at_ k || entD out (at_ + k)) := by
  unfold someK
  rw [List.range_succ, List.any_append]
  simp [hk, h]
theorem someK_end {out : List St} {n : Nat} {within : Int} {at_ k : Nat} (hk : 1 ≤ k) (hn : k ≤ n + 1) (h : within < (k : Int) ∨ n < k) : someK out within at_ k = someR out n within at_ := by
  unfold someK someR
  rw [Bool.eq_iff_iff, List.any_eq_true, List.any_eq_true]
  constructor
  · rintro ⟨i, hi, he⟩
    rw [List.mem_range] at hi
    simp only [Bool.and_eq_true, decide_eq_true_eq] at he
    refine ⟨i - 1, by rw [List.mem_range]; omega, ?_⟩
    simp only [Bool.and_eq_true, decide_eq_true_eq]
    rw [show i - 1 + 1 = i by omega]
    exact ⟨by omega, he.2⟩
  · rintro ⟨i, hi, he⟩
    rw [List.mem_range] at hi
    simp only [Bool.and_eq_true, decide_eq_true_eq] at he
    refine ⟨i + 1, by rw [List.mem_range]; omega, ?_⟩
    simp only [Bool.and_eq_true, decide_eq_true_eq]
    exact ⟨⟨by omega, by omega⟩, he.2⟩
theorem moves_no {out : List St} {n : Nat} {within : Int} {j : Nat} (hj : j < n) (h : badR out n within j = true) : movesD out n within = false := by
  unfold movesD
  rw [show (List.range n).any (badR out n within) = true from List.any_eq_true.2 ⟨j, List.mem_range.2 hj, h⟩]
  rfl
theorem moves_yes {out : List St} {n : Nat} {within : Int} (h : ∀ i, i < n → badR out n within i = false) : movesD out n within = true := by
  unfold movesD
  cases hx : (List.range n).any (badR out n within) with
  | false => rfl
  | true =>
    obtain ⟨i, hi, he⟩ := List.any_eq_true.1 hx
    rw [h i (List.mem_range.1 hi)] at he
    exact absurd he (by simp)
theorem upto_succ {f : Nat → Bool} {j : Nat} (h : ∀ i, i < j → f i = false) (hj : f j = false) : ∀ i, i < j + 1 → f i = false := fun i hi => by
  by_cases e : i = j
  · rw [e]; exact hj
  · exact h i (by omega)
def MJ (l : List E) (out : List St) (within : Int) (A : Option Addr) (cap : Nat) (B : Option Addr) (cb : Nat) (W1 : World) (a : Act) (W : World) : Prop :=
  a.tmps.size = 51 ∧ a.defers = [] ∧ a.tmps.getD 0 undef = .int .i64 within ∧ a.tmps.getD 1 undef = .slice A l.length cap ∧ a.tmps.getD 5 undef = .slice B out.length cb ∧ W = W1 ∧ ∃ j : Nat, a.tmps.getD 6 undef = .int .i64 (j : Int) ∧ j ≤ l.length ∧ Hid (∀ i, i < j → badR out l.length within i = false)
def IJ (l : List E) (out : List St) (within : Int) (A : Option Addr) (cap : Nat) (B : Option Addr) (cb j : Nat) (W1 : World) (a : Act) (W : World) : Prop :=
  a.tmps.size = 51 ∧ a.defers = [] ∧ a.tmps.getD 0 undef = .int .i64 within ∧ a.tmps.getD 1 undef = .slice A l.length cap ∧ a.tmps.getD 5 undef = .slice B out.length cb ∧ a.tmps.getD 6 undef = .int .i64 (j : Int) ∧ W = W1 ∧ ∃ (k : Nat) (b : Bool), a.tmps.getD 7 undef = .bool b ∧ b = someK out within j k ∧ a.tmps.getD 8 undef = .int .i64 (k : Int) ∧ 1 ≤ k ∧ k ≤ l.length + 1
set_option maxRecDepth 100000 in
set_option maxHeartbeats 4000000 in
theorem rmoves_any (l : List E) (within : Int) (A : Option Addr) (cap : Nat) (w : World) (hm : l.length ≤ 1000) (hs : Sl w w.heap.size A (l.flatMap dE)) :
    Calls Try.prog 12 #[.int .i64 within, .slice A l.length cap] w fun e w' => e = .returned (.bool (movesD (outR l l.length) l.length within)) ∧ Below w.heap.size w w' := by
  have HC := Lib.hid (rof_any l A cap w hm hs)
  have hol := outR_len l l.length
  clear hs
  generalize outR l l.length = out at *
  go_enter Try.func12, Try.ntmps12
  go_wp2_with fail
  refine HC.out.mono ?_
  rintro e w1 ⟨B, cb, rfl, hsl, hb⟩
  have HB := Lib.hid hb
  have HWA := Lib.hid (fun k => waits_any out B cb k w1 (by omega) hsl)
  have HEN := Lib.hid (fun k => enters_any out B cb k w1 (by omega) hsl)
  clear hb hsl
  go_wp2_with fail
  refine wp_loop (MJ l out within A cap B cb w1) (fun a' _ => l.length - (intOf (a'.tmps.getD 6 undef)).toNat) ?_ ?_
  · exact ⟨rfl, rfl, rfl, rfl, rfl, rfl, 0, rfl, Nat.zero_le _, Lib.hid (fun i hi => by omega)⟩
  · rintro a' W3 ⟨hsz, hdf, s0', s1', s5', rfl, j, s6, hj, HA⟩
    obtain ⟨u, rfl, hu⟩ := frame51 hsz hdf
    rw [hu] at s0' s1' s5' s6
    simp only [s0', s1', s5', s6]
    clear hsz hdf s0' s1' s5' s6 hu
    by_cases hlt : j < l.length
    · have i1 : (j : Int) < (l.length : Int) := by omega
      have HWJ := Lib.hid (HWA.out j)
      cases hw : wtD out j with
      | false =>
        rw [hw] at HWJ
        have HBD := Lib.hid (show badR out l.length within j = false by unfold badR; rw [hw]; rfl)
        clear hw
        go_wp2_with fail
        refine (HWJ.out).mono ?_
        rintro e wx ⟨rfl, hwx⟩
        obtain rfl := hwx.symm
        go_wp2_with fail
        go_roundw
        case rel => exact ⟨rfl, rfl, rfl, rfl, rfl, rfl, j + 1, by go_num, by omega, Lib.hid (upto_succ HA.out HBD.out)⟩
        case measure => simp [intOf]; omega
      | true =>
        rw [hw] at HWJ
        have HWT := Lib.hid hw
        clear hw
        have w1 : IntKind.i64.wrap ((l.length : Int) - 1) = (l.length : Int) - 1 := IntWalk.i64_in _ (by omega)
        have w2 : IntKind.i64.wrap ((l.length : Int) - 1 - (j : Int)) = (l.length : Int) - 1 - (j : Int) := IntWalk.i64_in _ (by omega)
        by_cases h2 : (l.length : Int) - 1 - (j : Int) < within
        · have HBD := Lib.hid (show badR out l.length within j = false by unfold badR; rw [decide_eq_true h2]; simp)
          go_wp2_with fail
          refine (HWJ.out).mono ?_
          rintro e wx ⟨rfl, hwx⟩
          obtain rfl := hwx.symm
          go_wp2_with fail
          go_roundw
          case rel => exact ⟨rfl, rfl, rfl, rfl, rfl, rfl, j + 1, by go_num, by omega, Lib.hid (upto_succ HA.out HBD.out)⟩
          case measure => simp [intOf]; omega
        · have HD2 := Lib.hid (decide_eq_false h2)
          go_wp2_with fail
          refine (HWJ.out).mono ?_
          rintro e wx ⟨rfl, hwx⟩
          obtain rfl := hwx.symm
          go_wp2_with fail
          refine wp_loop (IJ l out within A cap B cb j W3) (fun a' _ => l.length + 2 - (intOf (a'.tmps.getD 8 undef)).toNat) ?_ ?_
          · exact ⟨rfl, rfl, rfl, rfl, rfl, rfl, rfl, 1, false, rfl, (someK_one _ _ _).symm, rfl, Nat.le_refl _, by omega⟩
          · rintro a' W4 ⟨hsz, hdf, s0', s1', s5', s6', rfl, k, b, s7, hb, s8, hk1, hk2⟩
            obtain ⟨u, rfl, hu⟩ := frame51 hsz hdf
            rw [hu] at s0' s1' s5' s6' s7 s8
            simp only [s0', s1', s5', s6', s7, s8]
            clear hsz hdf s0' s1' s5' s6' s7 s8 hu
            by_cases a1 : (k : Int) ≤ within
            · by_cases a2 : k ≤ l.length
              · have a2' : (k : Int) ≤ (l.length : Int) := by omega
                have HE := Lib.hid (someK_succ out within j k hk1 a1)
                have HBB := Lib.hid hb
                clear hb
                cases b with
                | true =>
                  have HV := Lib.hid (show true = someK out within j (k + 1) by rw [HE.out, ← HBB.out]; rfl)
                  go_wp2_with fail
                  go_roundw
                  case rel => exact ⟨rfl, rfl, rfl, rfl, rfl, rfl, rfl, k + 1, true, rfl, HV.out, by go_num, by omega, by omega⟩
                  case measure => simp [intOf]; omega
                | false =>
                  have HV := Lib.hid (show entD out (j + k) = someK out within j (k + 1) by rw [HE.out, ← HBB.out]; rfl)
                  have w5 : IntKind.i64.wrap ((j : Int) + (k : Int)) = ((j + k : Nat) : Int) := by rw [IntWalk.i64_in _ (by omega)]; rfl
                  have HEK := Lib.hid (HEN.out (j + k))
                  go_wp2_with fail
                  refine (HEK.out).mono ?_
                  rintro e wx ⟨rfl, hwx⟩
                  obtain rfl := hwx.symm
                  go_wp2_with fail
                  go_roundw
                  case rel => exact ⟨rfl, rfl, rfl, rfl, rfl, rfl, rfl, k + 1, _, rfl, HV.out, by go_num, by omega, by omega⟩
                  case measure => simp [intOf]; omega
              · have a2' : ¬ (k : Int) ≤ (l.length : Int) := by omega
                have HE := Lib.hid (hb.trans (someK_end (n := l.length) hk1 hk2 (by omega)))
                cases b with
                | true =>
                  have HBD := Lib.hid (show badR out l.length within j = false by unfold badR; rw [← HE.out]; simp)
                  clear hb
                  go_wp2_with fail
                  go_roundw
                  case rel => exact ⟨rfl, rfl, rfl, rfl, rfl, rfl, j + 1, by go_num, by omega, Lib.hid (upto_succ HA.out HBD.out)⟩
                  case measure => simp [intOf]; omega
                | false =>
                  have HBD := Lib.hid (moves_no hlt (show badR out l.length within j = true by unfold badR; rw [← HE.out, HWT.out, HD2.out]; rfl))
                  clear hb
                  go_wp2_with fail
                  go_ret
                  exact ⟨by rw [HBD.out]; rfl, HB.out⟩
            · have HE := Lib.hid (hb.trans (someK_end (n := l.length) hk1 hk2 (by omega)))
              cases b with
              | true =>
                have HBD := Lib.hid (show badR out l.length within j = false by unfold badR; rw [← HE.out]; simp)
                clear hb
                go_wp2_with fail
                go_roundw
                case rel => exact ⟨rfl, rfl, rfl, rfl, rfl, rfl, j + 1, by go_num, by omega, Lib.hid (upto_succ HA.out HBD.out)⟩
                case measure => simp [intOf]; omega
              | false =>
                have HBD := Lib.hid (moves_no hlt (show badR out l.length within j = true by unfold badR; rw [← HE.out, HWT.out, HD2.out]; rfl))
                clear hb
                go_wp2_with fail
                go_ret
                exact ⟨by rw [HBD.out]; rfl, HB.out⟩
    · obtain rfl : j = l.length := by omega
      have i1 : ¬ (l.length : Int) < (l.length : Int) := by omega
      have HM := Lib.hid (moves_yes HA.out)
      go_wp2_with fail
      go_ret
      exact ⟨by rw [HM.out]; rfl, HB.out⟩
end Go.Proofs.Ytdkggdfofmgdlaa.Sp
