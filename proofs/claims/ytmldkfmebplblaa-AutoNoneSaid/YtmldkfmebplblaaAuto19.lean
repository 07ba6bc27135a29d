/- The law AutoOne: its walk. -/
import Derived.Test.YtmldkfmebplblaaAuto18
namespace Go.Proofs.Ytmldkfmebplblaa.Aut
open Go.RowKit

theorem frame97 {a : Act} (h : a.tmps.size = 97) (hd : a.defers = []) : ∃ u : Nat → Value, a = { tmps := #[u 0, u 1, u 2, u 3, u 4, u 5, u 6, u 7, u 8, u 9, u 10, u 11, u 12, u 13, u 14, u 15, u 16, u 17, u 18, u 19, u 20, u 21, u 22, u 23, u 24, u 25, u 26, u 27, u 28, u 29, u 30, u 31, u 32, u 33, u 34, u 35, u 36, u 37, u 38, u 39, u 40, u 41, u 42, u 43, u 44, u 45, u 46, u 47, u 48, u 49, u 50, u 51, u 52, u 53, u 54, u 55, u 56, u 57, u 58, u 59, u 60, u 61, u 62, u 63, u 64, u 65, u 66, u 67, u 68, u 69, u 70, u 71, u 72, u 73, u 74, u 75, u 76, u 77, u 78, u 79, u 80, u 81, u 82, u 83, u 84, u 85, u 86, u 87, u 88, u 89, u 90, u 91, u 92, u 93, u 94, u 95, u 96], defers := [] } ∧ ∀ n, a.tmps.getD n undef = u n := by
  refine ⟨fun n => a.tmps.getD n undef, ?_, fun _ => rfl⟩
  have h1 := arr_lit a.tmps h
  cases a with
  | mk t d =>
    simp only at hd h1
    subst hd
    congr 1

def OnJ (l : List Ev) (A : Option Addr) (cap : Nat) (w : World) (a : Act) (W : World) : Prop :=
  a.tmps.size = 97 ∧ a.defers = [] ∧ a.tmps.getD 1 undef = .slice A l.length cap ∧ a.tmps.getD 5 undef = .pointer (some ⟨w.heap.size + 1, 0, none⟩) ∧
    ∃ (k : Nat) (s : List Nat), a.tmps.getD 6 undef = .int .i64 k ∧ k ≤ l.length ∧ One s ∧ At w.heap.size w W s
def OnJ2 (l : List Ev) (A : Option Addr) (cap k : Nat) (w W1 : World) (s : List Nat) (s7 s8 : Int) (a : Act) (W : World) : Prop :=
  a.tmps.size = 97 ∧ a.defers = [] ∧ a.tmps.getD 1 undef = .slice A l.length cap ∧ a.tmps.getD 5 undef = .pointer (some ⟨w.heap.size + 1, 0, none⟩) ∧ a.tmps.getD 6 undef = .int .i64 k ∧ a.tmps.getD 7 undef = .int .i64 s7 ∧ a.tmps.getD 8 undef = .int .i64 s8 ∧
    ∃ q c : Nat, a.tmps.getD 9 undef = .int .i64 c ∧ a.tmps.getD 10 undef = .int .i64 q ∧ q ≤ s.length ∧ W = W1 ∧ ((c = 0 ∧ ∀ j (h : j < s.length), j < q → s[j] ≠ 2) ∨ (c = 1 ∧ ∃ j, ∃ h : j < s.length, j < q ∧ s[j] = 2))

theorem one_idx {s : List Nat} (h : One s) {q : Nat} (hq : q < s.length) (he : s[q] = 2) : idxOf s 2 = q :=
  idx_some hq he (fun i hi hlt h2 => by have := h i q hi hq h2 he; omega)
theorem stateOf_in {s : List Nat} {q : Nat} (hq : q < s.length) : stateOf s (q : Int) = s[q] := by simp [stateOf, hq]


set_option maxHeartbeats 4000000 in
set_option maxRecDepth 100000 in
theorem one_walk (T : Int) (l : List Ev) (A : Option Addr) (cap : Nat) (w : World) (hlc : l.length ≤ cap) (hcm : cap ≤ maxLen) (hs : Sl w w.heap.size A (l.flatMap decE)) :
    Calls Try.prog 12 #[.int .i64 T, .slice A l.length cap] w fun e w' => e = .returned (.bool true) ∧ Below w.heap.size w w' := by
  have hm3 : l.length ≤ 9223372036854775807 := by simp only [maxLen] at hcm; omega
  by_cases hle : l.length ≤ 60
  · have i1 : ¬ (60 : Int) < (l.length : Int) := by omega
    go_enter Try.func12, Try.ntmps12
    go_wp2_with fail
    refine (new_any T _ _ rfl).mono ?_
    rintro e w1 ⟨rfl, hat⟩
    go_wp2_with fail
    refine wp_loop (OnJ l A cap w) (fun a' _ => l.length - (intOf (a'.tmps.getD 6 undef)).toNat) ?_ ?_
    · exact ⟨rfl, rfl, rfl, rfl, 0, _, rfl, Nat.zero_le _, one_zero _, hat⟩
    · clear hat
      rintro a' W ⟨hsz, hdf, s1, s5, k, s, s6, hk, hone, hat⟩
      obtain ⟨u, rfl, hu⟩ := frame97 hsz hdf
      rw [hu] at s1 s5 s6
      simp only [s1, s5, s6]
      clear hsz hdf s1 s5 s6 hu
      by_cases hlt : k < l.length
      · obtain ⟨b, off, rfl, hbb, hcell⟩ := Sl_at (k := 4) (fun _ => rfl) (by omega) (hs.below hat.2.2.1) (by omega)
        have h0 := hcell k hlt 0 (by omega)
        have h1 := hcell k hlt 1 (by omega)
        have h2 := hcell k hlt 2 (by omega)
        have h3 := hcell k hlt 3 (by omega)
        simp only [decE, List.getElem?_cons_zero, List.getElem?_cons_succ, Nat.add_zero, ← Nat.add_assoc] at h0 h1 h2 h3
        have HN := do_no s l[k]
        have HC := do_came s l[k]
        have HO := do_one s l[k] hone
        clear hcell hone
        go_wp2_with fail
        refine (state_at _ _ _ _ l[k].thread (stateOf s l[k].thread : Nat) hat rfl).mono ?_
        rintro e wx ⟨rfl, hwx⟩
        obtain rfl := hwx.symm
        go_wp2_with fail
        refine (do_at _ _ _ _ _ l[k] _ hat rfl rfl).mono ?_
        rintro e W1 ⟨rfl, hat1⟩
        have hb1 := hat1.2.2.1
        have z0 := hb1.cell (p := ⟨b, off + k * 4, none⟩) hbb
        have z1 := hb1.cell (p := ⟨b, off + k * 4 + 1, none⟩) hbb
        rw [← hat.2.2.1.cell (p := ⟨b, off + k * 4, none⟩) hbb, h0] at z0
        rw [← hat.2.2.1.cell (p := ⟨b, off + k * 4 + 1, none⟩) hbb, h1] at z1
        generalize hst : stateOf s l[k].thread = st at *
        have HN : Hid ((doS s l[k]).1 ≠ 0 → stateOf (doS s l[k]).2 l[k].thread = st) := Lib.hid (fun h => by rw [HN h, hst])
        clear hat h0 h1 h2 h3 hb1 hst
        generalize (doS s l[k]).1 = x at *
        generalize (doS s l[k]).2 = s at *
        have HO := Lib.hid HO
        have HC := Lib.hid HC
        have hl32 := hat1.2.2.2
        go_wp2_with fail
        refine wp_loop (OnJ2 l (some ⟨b, off, none⟩) cap k w W1 s st x) (fun a' _ => s.length - (intOf (a'.tmps.getD 10 undef)).toNat) ?_ ?_
        · exact ⟨rfl, rfl, rfl, rfl, rfl, rfl, rfl, 0, 0, rfl, rfl, Nat.zero_le _, rfl, .inl ⟨rfl, by omega⟩⟩
        · rintro a' W ⟨hsz, hdf, s1, s5, s6, s7, s8, q, c, s9, s10, hq, hww, hcq⟩
          obtain ⟨u, rfl, hu⟩ := frame97 hsz hdf
          rw [hu] at s1 s5 s6 s7 s8 s9 s10
          simp only [s1, s5, s6, s7, s8, s9, s10]
          clear hsz hdf s1 s5 s6 s7 s8 s9 s10 hu
          obtain rfl := hww.symm
          by_cases hqn : q < s.length
          · have hq32 : (q : Int) < 32 := by omega
            by_cases h2 : s[q] = 2
            · have hc0 : c = 0 := by
                rcases hcq with ⟨hc, _⟩ | ⟨_, j, hj, hjq, hj2⟩
                · exact hc
                · have := HO.out j q hj hqn hj2 h2
                  omega
              have HI := Lib.hid (one_idx HO.out hqn h2)
              have HS := Lib.hid (show (stateOf s (q : Int) : Int) = 2 by rw [stateOf_in hqn, h2]; rfl)
              have H2 := Lib.hid h2
              have e1 := nbne_no (rfl : q = q)
              subst hc0
              clear hcq h2
              go_wp2_with fail
              refine (threads_at _ _ _ _ s.length hat1 rfl).mono ?_
              rintro e wx ⟨rfl, hwx⟩
              obtain rfl := hwx.symm
              go_wp2_with fail
              refine (state_at _ _ _ _ q 2 hat1 HS.out).mono ?_
              rintro e wx ⟨rfl, hwx⟩
              obtain rfl := hwx.symm
              go_wp2_with fail
              refine (holder_at _ _ _ _ q hat1 HI.out).mono ?_
              rintro e wx ⟨rfl, hwx⟩
              obtain rfl := hwx.symm
              go_wp2_with fail
              exact ⟨⟨rfl, rfl, rfl, rfl, rfl, rfl, rfl, q + 1, 1, rfl, rfl, hqn, rfl, .inr ⟨rfl, q, hqn, Nat.lt_succ_self _, H2.out⟩⟩, by simp [intOf]; omega⟩
            · have HS := Lib.hid (show (stateOf s (q : Int) : Int) = (s[q] : Nat) by rw [stateOf_in hqn])
              have e1 := ibeq_no (show ¬ ((s[q] : Nat) : Int) = 2 by omega)
              have H2 := Lib.hid h2
              have HQ := Lib.hid hcq
              clear hcq h2
              go_wp2_with fail
              refine (threads_at _ _ _ _ s.length hat1 rfl).mono ?_
              rintro e wx ⟨rfl, hwx⟩
              obtain rfl := hwx.symm
              go_wp2_with fail
              refine (state_at _ _ _ _ q _ hat1 HS.out).mono ?_
              rintro e wx ⟨rfl, hwx⟩
              obtain rfl := hwx.symm
              go_wp2_with fail
              refine ⟨⟨rfl, rfl, rfl, rfl, rfl, rfl, rfl, q + 1, c, rfl, rfl, hqn, rfl, ?_⟩, by simp [intOf]; omega⟩
              rcases HQ.out with ⟨hc, hj⟩ | ⟨hc, j, hj, hjq, hj2⟩
              · refine .inl ⟨hc, fun j h1 h3 => ?_⟩
                by_cases h4 : j < q
                · exact hj j h1 h4
                · obtain rfl : j = q := by omega
                  exact H2.out
              · exact .inr ⟨hc, j, hj, by omega, hj2⟩
          · rcases hcq with ⟨rfl, hj⟩ | ⟨rfl, hj⟩
            · have HI := Lib.hid (idx_none (x := 2) (fun i hi => hj i hi (by omega)))
              clear hj
              go_wp2_with fail
              refine (threads_at _ _ _ _ s.length hat1 rfl).mono ?_
              rintro e wx ⟨rfl, hwx⟩
              obtain rfl := hwx.symm
              go_wp2_with fail
              refine (holder_at _ _ _ _ (-1) hat1 HI.out).mono ?_
              rintro e wx ⟨rfl, hwx⟩
              obtain rfl := hwx.symm
              by_cases hx0 : x = 0
              · by_cases hk2 : l[k].kind = 2
                · have hca := HC.out hx0 hk2
                  have e5 := ibeq hk2
                  have e6 := ibne_no (show (st : Int) = 1 by omega)
                  have HK := Lib.hid hk2
                  subst hx0
                  clear hk2 hca
                  go_wp2_with fail
                  exact ⟨⟨rfl, rfl, rfl, rfl, k + 1, s, rfl, hlt, HO.out, hat1⟩, by simp [intOf]; omega⟩
                · have e5 := ibeq_no hk2
                  subst hx0
                  clear hk2
                  go_wp2_with fail
                  exact ⟨⟨rfl, rfl, rfl, rfl, k + 1, s, rfl, hlt, HO.out, hat1⟩, by simp [intOf]; omega⟩
              · have hno := HN.out hx0
                have e5 := ibne (show ¬ (x : Int) = 0 by omega)
                have e6 := ibeq_no (show ¬ (x : Int) = 0 by omega)
                have e7 := nbne_no (rfl : st = st)
                clear hx0
                go_wp2_with fail
                refine (state_at _ _ _ _ l[k].thread st hat1 (by rw [← hno])).mono ?_
                rintro e wx ⟨rfl, hwx⟩
                obtain rfl := hwx.symm
                go_wp2_with fail
                exact ⟨⟨rfl, rfl, rfl, rfl, k + 1, s, rfl, hlt, HO.out, hat1⟩, by simp [intOf]; omega⟩
            · clear hj
              go_wp2_with fail
              refine (threads_at _ _ _ _ s.length hat1 rfl).mono ?_
              rintro e wx ⟨rfl, hwx⟩
              obtain rfl := hwx.symm
              by_cases hx0 : x = 0
              · by_cases hk2 : l[k].kind = 2
                · have hca := HC.out hx0 hk2
                  have e5 := ibeq hk2
                  have e6 := ibne_no (show (st : Int) = 1 by omega)
                  have HK := Lib.hid hk2
                  subst hx0
                  clear hk2 hca
                  go_wp2_with fail
                  exact ⟨⟨rfl, rfl, rfl, rfl, k + 1, s, rfl, hlt, HO.out, hat1⟩, by simp [intOf]; omega⟩
                · have e5 := ibeq_no hk2
                  subst hx0
                  clear hk2
                  go_wp2_with fail
                  exact ⟨⟨rfl, rfl, rfl, rfl, k + 1, s, rfl, hlt, HO.out, hat1⟩, by simp [intOf]; omega⟩
              · have hno := HN.out hx0
                have e5 := ibne (show ¬ (x : Int) = 0 by omega)
                have e6 := ibeq_no (show ¬ (x : Int) = 0 by omega)
                have e7 := nbne_no (rfl : st = st)
                clear hx0
                go_wp2_with fail
                refine (state_at _ _ _ _ l[k].thread st hat1 (by rw [← hno])).mono ?_
                rintro e wx ⟨rfl, hwx⟩
                obtain rfl := hwx.symm
                go_wp2_with fail
                exact ⟨⟨rfl, rfl, rfl, rfl, k + 1, s, rfl, hlt, HO.out, hat1⟩, by simp [intOf]; omega⟩
      · clear hone
        go_wp2_with fail
        refine (awake_any _).mono ?_
        rintro e W3 ⟨rfl, hb⟩
        go_wp2_with fail
        go_ret
        exact ⟨rfl, (hat.same hb).2.2.1⟩
  · have i1 : (60 : Int) < (l.length : Int) := by omega
    go_enter Try.func12, Try.ntmps12
    go_wp2_with fail
    refine (awake_any _).mono ?_
    rintro e W3 ⟨rfl, hb⟩
    go_wp2_with fail
    go_ret
    exact ⟨rfl, hb⟩
end Go.Proofs.Ytmldkfmebplblaa.Aut
