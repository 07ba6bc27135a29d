/- The law SharedPlays: its walk. -/
import Derived.Test.YtfdcojhgpfmloaaShA
namespace Go.Proofs.Ytfdcojhgpfmloaa.Sha
open Go.RowKit

theorem frame126 {a : Act} (h : a.tmps.size = 126) (hd : a.defers = []) : ∃ u : Nat → Value, a = { tmps := #[u 0, u 1, u 2, u 3, u 4, u 5, u 6, u 7, u 8, u 9, u 10, u 11, u 12, u 13, u 14, u 15, u 16, u 17, u 18, u 19, u 20, u 21, u 22, u 23, u 24, u 25, u 26, u 27, u 28, u 29, u 30, u 31, u 32, u 33, u 34, u 35, u 36, u 37, u 38, u 39, u 40, u 41, u 42, u 43, u 44, u 45, u 46, u 47, u 48, u 49, u 50, u 51, u 52, u 53, u 54, u 55, u 56, u 57, u 58, u 59, u 60, u 61, u 62, u 63, u 64, u 65, u 66, u 67, u 68, u 69, u 70, u 71, u 72, u 73, u 74, u 75, u 76, u 77, u 78, u 79, u 80, u 81, u 82, u 83, u 84, u 85, u 86, u 87, u 88, u 89, u 90, u 91, u 92, u 93, u 94, u 95, u 96, u 97, u 98, u 99, u 100, u 101, u 102, u 103, u 104, u 105, u 106, u 107, u 108, u 109, u 110, u 111, u 112, u 113, u 114, u 115, u 116, u 117, u 118, u 119, u 120, u 121, u 122, u 123, u 124, u 125], defers := [] } ∧ ∀ n, a.tmps.getD n undef = u n := by
  refine ⟨fun n => a.tmps.getD n undef, ?_, fun _ => rfl⟩
  have h1 := arr_lit a.tmps h
  cases a with
  | mk t d =>
    simp only at hd h1
    subst hd
    congr 1
theorem infoE : (Try.prog.info? 29).map (fun i => (i.zero, i.size, i.bytes)) = some (some (.agg #[.int .i64 0, .int .i64 0, .bool false, .int .i64 0]), 4, 32) := by kernel_rfl
theorem own_sl {w : World} {base : Nat} {e : TypeId} {v : Value} {n : Nat} {l : List Ev} (h : w.ownsRow base e 4 v n (l.flatMap decE)) : ∃ A c, v = .slice A n c ∧ n ≤ c ∧ c ≤ maxLen ∧ Sl w w.heap.size A (l.flatMap decE) := own_slice h
theorem own_sl' {w : World} {base : Nat} {e : TypeId} {V : Option Addr} {c n : Nat} {l : List Ev} (h : w.ownsRow base e 4 (.slice V n c) n (l.flatMap decE)) : Sl w w.heap.size V (l.flatMap decE) := by
  obtain ⟨A, d, hv, _, _, hs⟩ := own_sl h
  injection hv with h1 h2 h3
  subst h1
  exact hs

def PlJ (T th : Int) (l : List Ev) (A : Option Addr) (cap : Nat) (w : World) (a : Act) (W : World) : Prop :=
  a.tmps.size = 126 ∧ a.defers = [] ∧ a.tmps.getD 0 undef = .int .i64 T ∧ a.tmps.getD 1 undef = .slice A l.length cap ∧ a.tmps.getD 2 undef = .int .i64 th ∧ a.tmps.getD 7 undef = .pointer (some ⟨w.heap.size + 1, 0, none⟩) ∧
    ∃ (k : Nat) (taken : List Ev) (v : Value), a.tmps.getD 8 undef = v ∧ a.tmps.getD 9 undef = .int .i64 k ∧ k ≤ l.length ∧ taken.length ≤ k ∧ (∀ e ∈ taken, 0 ≤ e.thread ∧ e.thread < som T) ∧ At w.heap.size w W (stL (som T) taken) ∧
      W.ownsRow (w.heap.size + 1 + 1) 29 4 v taken.length (taken.flatMap decE)


set_option maxHeartbeats 4000000 in
set_option maxRecDepth 100000 in
theorem plays_walk (T th : Int) (l : List Ev) (A : Option Addr) (cap : Nat) (w : World) (hlc : l.length ≤ cap) (hcm : cap ≤ maxLen) (hs : Sl w w.heap.size A (l.flatMap decE)) :
    Calls Try.prog 3 #[.int .i64 T, .slice A l.length cap, .int .i64 th] w fun e w' => e = .returned (.bool true) ∧ Below w.heap.size w w' := by
  have hm3 : l.length ≤ 9223372036854775807 := by simp only [maxLen] at hcm; omega
  by_cases hle : l.length ≤ 60
  · have i1 : ¬ (60 : Int) < (l.length : Int) := by omega
    go_enter Try.func3, Try.ntmps3
    go_wp2_with fail
    refine (new_any T _ _ (stL_nil (som T))).mono ?_
    rintro e w1 ⟨rfl, hat⟩
    go_wp2_with fail
    refine wp_loop (PlJ T th l A cap w) (fun a' _ => l.length - (intOf (a'.tmps.getD 9 undef)).toNat) ?_ ?_
    · exact ⟨rfl, rfl, rfl, rfl, rfl, rfl, 0, [], _, rfl, rfl, Nat.zero_le _, Nat.le_refl _, by simp, hat, World.ownsRow_nil _ _ _ _⟩
    · clear hat
      rintro a' W ⟨hsz, hdf, s0, s1, s2, s7, k, taken, v, s8, s9, hk, htk, hin, hat, hown⟩
      obtain ⟨u, rfl, hu⟩ := frame126 hsz hdf
      rw [hu] at s0 s1 s2 s7 s8 s9
      simp only [s0, s1, s2, s7, s8, s9]
      clear hsz hdf s0 s1 s2 s7 s8 s9 hu
      have HI := Lib.hid hin
      clear hin
      by_cases hlt : k < l.length
      · obtain ⟨b, off, rfl, hbb, hcell⟩ := Sl_at (k := 4) (fun _ => rfl) (by omega) (hs.below hat.2.2) (by omega)
        have h0 := hcell k hlt 0 (by omega)
        have h1 := hcell k hlt 1 (by omega)
        have h2 := hcell k hlt 2 (by omega)
        have h3 := hcell k hlt 3 (by omega)
        simp only [decE, List.getElem?_cons_zero, List.getElem?_cons_succ, Nat.add_zero, ← Nat.add_assoc] at h0 h1 h2 h3
        clear hcell
        go_wp2_with fail
        have hrl := Lib.hid (do_ref T taken l[k])
        have hst := Lib.hid (do_st T taken l[k])
        refine (do_at _ _ _ _ _ l[k] (rdo T taken l[k] : Nat) hat (by rw [hrl.out]) hst.out).mono ?_
        rintro e W1 ⟨rfl, hat1, hm1⟩
        have hown1 := own_mod hown hm1 (by simp; omega)
        obtain ⟨V, cv, rfl, hv1, hv2, SV⟩ := own_sl hown1
        have hmb := hm1.below (B := w.heap.size) (by have := hat.2.1; omega) (by simp)
        have z0 := (hmb.cell (p := ⟨b, off + k * 4, none⟩) hbb).trans h0
        have z1 := (hmb.cell (p := ⟨b, off + k * 4 + 1, none⟩) hbb).trans h1
        have z2 := (hmb.cell (p := ⟨b, off + k * 4 + 2, none⟩) hbb).trans h2
        have z3 := (hmb.cell (p := ⟨b, off + k * 4 + 3, none⟩) hbb).trans h3
        rw [hrl.out] at hat1
        clear h0 h1 h2 h3 hm1 hmb hat hown hst hrl
        go_wp2_with fail
        refine (rdo_any T taken V cv _ (by omega) SV l[k]).mono ?_
        rintro e W2 ⟨rfl, hb2⟩
        have hat := hat1.same hb2
        have hown := own_below hown1 (Nat.le_refl _) hb2
        have hbl : b < W1.heap.size := by have := hat1.2.1; omega
        have y0 := (hb2.cell (p := ⟨b, off + k * 4, none⟩) hbl).trans z0
        have y1 := (hb2.cell (p := ⟨b, off + k * 4 + 1, none⟩) hbl).trans z1
        have y2 := (hb2.cell (p := ⟨b, off + k * 4 + 2, none⟩) hbl).trans z2
        have y3 := (hb2.cell (p := ⟨b, off + k * 4 + 3, none⟩) hbl).trans z3
        have HT := Lib.hid (@takes_in T taken l[k])
        obtain ⟨x, hx⟩ : ∃ x, rdo T taken l[k] = x := ⟨_, rfl⟩
        rw [hx] at hat HT ⊢
        clear z0 z1 z2 z3 hb2 hat1 hown1 SV hx
        have ex := nbne_no (rfl : x = x)
        by_cases hx0 : x = 0
        · subst hx0
          by_cases hk0 : l[k].kind = 0
          · have e2 := ibne_no hk0
            have hat : At w.heap.size w W2 (stL (som T) taken) := by simpa [takes, hk0] using hat
            have HK := Lib.hid hk0
            clear hk0
            have KP := Lib.hid (stOfT_any (n := som T) (t := th) HI.out)
            have i1 := ibne_no (rfl : wOf (stL (som T) taken) = wOf (stL (som T) taken))
            have i2 := nbne_no (rfl : rOf (stL (som T) taken) = rOf (stL (som T) taken))
            have i3 := nbne_no (rfl : rstate taken th = rstate taken th)
            have i4 : (reads taken th == reads taken th) = true := by simp
            go_wp2_with fail
            refine (state_at _ _ _ _ th (rstate taken th : Nat) (reads taken th) hat (by rw [KP.out]) (by rw [KP.out])).mono ?_
            rintro e wx ⟨rfl, hbb⟩
            have hat := hat.same hbb
            have hown := own_below hown (Nat.le_refl _) hbb
            clear hbb
            go_wp2_with fail
            refine (writer_at _ _ _ _ _ hat rfl).mono ?_
            rintro e wx ⟨rfl, hbb⟩
            have hat := hat.same hbb
            have hown := own_below hown (Nat.le_refl _) hbb
            clear hbb
            go_wp2_with fail
            refine (rwriter_any T taken V cv _ _ (by omega) (own_sl' hown)).mono ?_
            rintro e wx ⟨rfl, hwx⟩
            obtain rfl := hwx.symm
            go_wp2_with fail
            refine (readers_at _ _ _ _ _ hat rfl).mono ?_
            rintro e wx ⟨rfl, hbb⟩
            have hat := hat.same hbb
            have hown := own_below hown (Nat.le_refl _) hbb
            clear hbb
            go_wp2_with fail
            refine (rreaders_any T taken V cv _ _ (by omega) (own_sl' hown)).mono ?_
            rintro e wx ⟨rfl, hwx⟩
            obtain rfl := hwx.symm
            go_wp2_with fail
            refine (rstate_any taken V cv th _ _ (by omega) (own_sl' hown)).mono ?_
            rintro e wx ⟨rfl, hwx⟩
            obtain rfl := hwx.symm
            go_wp2_with fail
            refine (reads_any taken V cv th _ _ (by omega) (own_sl' hown)).mono ?_
            rintro e wx ⟨rfl, hwx⟩
            obtain rfl := hwx.symm
            go_wp2_with fail
            exact ⟨⟨rfl, rfl, rfl, rfl, rfl, rfl, k + 1, taken, _, rfl, rfl, hlt, (by omega), HI.out, hat, hown⟩, by simp [intOf]; omega⟩
          · have e2 := ibne hk0
            by_cases hk5 : l[k].kind = 5
            · have e3 := ibne_no hk5
              have hat : At w.heap.size w W2 (stL (som T) taken) := by simpa [takes, hk5] using hat
              have HK := Lib.hid hk5
              clear hk5
              have KP := Lib.hid (stOfT_any (n := som T) (t := th) HI.out)
              have i1 := ibne_no (rfl : wOf (stL (som T) taken) = wOf (stL (som T) taken))
              have i2 := nbne_no (rfl : rOf (stL (som T) taken) = rOf (stL (som T) taken))
              have i3 := nbne_no (rfl : rstate taken th = rstate taken th)
              have i4 : (reads taken th == reads taken th) = true := by simp
              go_wp2_with fail
              refine (state_at _ _ _ _ th (rstate taken th : Nat) (reads taken th) hat (by rw [KP.out]) (by rw [KP.out])).mono ?_
              rintro e wx ⟨rfl, hbb⟩
              have hat := hat.same hbb
              have hown := own_below hown (Nat.le_refl _) hbb
              clear hbb
              go_wp2_with fail
              refine (writer_at _ _ _ _ _ hat rfl).mono ?_
              rintro e wx ⟨rfl, hbb⟩
              have hat := hat.same hbb
              have hown := own_below hown (Nat.le_refl _) hbb
              clear hbb
              go_wp2_with fail
              refine (rwriter_any T taken V cv _ _ (by omega) (own_sl' hown)).mono ?_
              rintro e wx ⟨rfl, hwx⟩
              obtain rfl := hwx.symm
              go_wp2_with fail
              refine (readers_at _ _ _ _ _ hat rfl).mono ?_
              rintro e wx ⟨rfl, hbb⟩
              have hat := hat.same hbb
              have hown := own_below hown (Nat.le_refl _) hbb
              clear hbb
              go_wp2_with fail
              refine (rreaders_any T taken V cv _ _ (by omega) (own_sl' hown)).mono ?_
              rintro e wx ⟨rfl, hwx⟩
              obtain rfl := hwx.symm
              go_wp2_with fail
              refine (rstate_any taken V cv th _ _ (by omega) (own_sl' hown)).mono ?_
              rintro e wx ⟨rfl, hwx⟩
              obtain rfl := hwx.symm
              go_wp2_with fail
              refine (reads_any taken V cv th _ _ (by omega) (own_sl' hown)).mono ?_
              rintro e wx ⟨rfl, hwx⟩
              obtain rfl := hwx.symm
              go_wp2_with fail
              exact ⟨⟨rfl, rfl, rfl, rfl, rfl, rfl, k + 1, taken, _, rfl, rfl, hlt, (by omega), HI.out, hat, hown⟩, by simp [intOf]; omega⟩
            · have e3 := ibne hk5
              have ht : takes l[k] 0 = true := by simp [takes, hk0, hk5]
              rw [ht, if_pos rfl] at hat
              have hin3 : ∀ e ∈ taken ++ [l[k]], 0 ≤ e.thread ∧ e.thread < som T := by
                intro e he
                rcases List.mem_append.1 he with he | he
                · exact HI.out e he
                · obtain rfl : e = l[k] := by simpa using he
                  exact HT.out ht
              have HI3 := Lib.hid hin3
              clear hin3 ht hk0 hk5
              have hln := Lib.hid (show (taken ++ [l[k]]).length = taken.length + 1 by simp)
              have hfl := Lib.hid (show (taken ++ [l[k]]).flatMap decE = taken.flatMap decE ++ [.int .i64 l[k].kind, .int .i64 l[k].thread, .bool l[k].read, .int .i64 l[k].count] by simp [decE])
              go_wp2_with (at_builtin; refine wpList_append1 (.tmp 62) (.tmp 67) 22 29 _ 4 32 rfl rfl Try.underlying22 infoE rfl (by decide) (w.heap.size + 1 + 1) _ _ _ _ _ _ _ _ hown rfl rfl ?cg rfl ?d1 ?d2 ?d3 ?d4 ?ck; case' ck => intro v' W3 hown3 hb3 _)
              case cg => first | rfl | simp
              case d1 => simp [Value.oneCell']
              case d2 => simp only [maxLen]; omega
              case d3 => omega
              case d4 => exact hat.2.1
              have hat3 := hat.base hb3
              have hown4 : W3.ownsRow (w.heap.size + 1 + 1) 29 4 v' (taken ++ [l[k]]).length ((taken ++ [l[k]]).flatMap decE) := by rw [hln.out, hfl.out]; simpa using hown3
              have hl4 : (taken ++ [l[k]]).length ≤ k + 1 := by rw [hln.out]; omega
              clear hown3 hown hat hb3
              generalize taken ++ [l[k]] = tk at *
              clear hv1 hv2
              obtain ⟨V, cv, rfl, hv1, hv2, _⟩ := own_sl hown4
              have hat := hat3
              have hown := hown4
              clear hat3 hown4
              have KP := Lib.hid (stOfT_any (n := som T) (t := th) HI3.out)
              have i1 := ibne_no (rfl : wOf (stL (som T) tk) = wOf (stL (som T) tk))
              have i2 := nbne_no (rfl : rOf (stL (som T) tk) = rOf (stL (som T) tk))
              have i3 := nbne_no (rfl : rstate tk th = rstate tk th)
              have i4 : (reads tk th == reads tk th) = true := by simp
              go_wp2_with fail
              refine (state_at _ _ _ _ th (rstate tk th : Nat) (reads tk th) hat (by rw [KP.out]) (by rw [KP.out])).mono ?_
              rintro e wx ⟨rfl, hbb⟩
              have hat := hat.same hbb
              have hown := own_below hown (Nat.le_refl _) hbb
              clear hbb
              go_wp2_with fail
              refine (writer_at _ _ _ _ _ hat rfl).mono ?_
              rintro e wx ⟨rfl, hbb⟩
              have hat := hat.same hbb
              have hown := own_below hown (Nat.le_refl _) hbb
              clear hbb
              go_wp2_with fail
              refine (rwriter_any T tk V cv _ _ (by omega) (own_sl' hown)).mono ?_
              rintro e wx ⟨rfl, hwx⟩
              obtain rfl := hwx.symm
              go_wp2_with fail
              refine (readers_at _ _ _ _ _ hat rfl).mono ?_
              rintro e wx ⟨rfl, hbb⟩
              have hat := hat.same hbb
              have hown := own_below hown (Nat.le_refl _) hbb
              clear hbb
              go_wp2_with fail
              refine (rreaders_any T tk V cv _ _ (by omega) (own_sl' hown)).mono ?_
              rintro e wx ⟨rfl, hwx⟩
              obtain rfl := hwx.symm
              go_wp2_with fail
              refine (rstate_any tk V cv th _ _ (by omega) (own_sl' hown)).mono ?_
              rintro e wx ⟨rfl, hwx⟩
              obtain rfl := hwx.symm
              go_wp2_with fail
              refine (reads_any tk V cv th _ _ (by omega) (own_sl' hown)).mono ?_
              rintro e wx ⟨rfl, hwx⟩
              obtain rfl := hwx.symm
              go_wp2_with fail
              exact ⟨⟨rfl, rfl, rfl, rfl, rfl, rfl, k + 1, tk, _, rfl, rfl, hlt, hl4, HI3.out, hat, hown⟩, by simp [intOf]; omega⟩
        · have e1 := ibeq_no (show ¬ (x : Int) = 0 by omega)
          have hat : At w.heap.size w W2 (stL (som T) taken) := by simpa [takes, hx0] using hat
          clear hx0
          have KP := Lib.hid (stOfT_any (n := som T) (t := th) HI.out)
          have i1 := ibne_no (rfl : wOf (stL (som T) taken) = wOf (stL (som T) taken))
          have i2 := nbne_no (rfl : rOf (stL (som T) taken) = rOf (stL (som T) taken))
          have i3 := nbne_no (rfl : rstate taken th = rstate taken th)
          have i4 : (reads taken th == reads taken th) = true := by simp
          go_wp2_with fail
          refine (state_at _ _ _ _ th (rstate taken th : Nat) (reads taken th) hat (by rw [KP.out]) (by rw [KP.out])).mono ?_
          rintro e wx ⟨rfl, hbb⟩
          have hat := hat.same hbb
          have hown := own_below hown (Nat.le_refl _) hbb
          clear hbb
          go_wp2_with fail
          refine (writer_at _ _ _ _ _ hat rfl).mono ?_
          rintro e wx ⟨rfl, hbb⟩
          have hat := hat.same hbb
          have hown := own_below hown (Nat.le_refl _) hbb
          clear hbb
          go_wp2_with fail
          refine (rwriter_any T taken V cv _ _ (by omega) (own_sl' hown)).mono ?_
          rintro e wx ⟨rfl, hwx⟩
          obtain rfl := hwx.symm
          go_wp2_with fail
          refine (readers_at _ _ _ _ _ hat rfl).mono ?_
          rintro e wx ⟨rfl, hbb⟩
          have hat := hat.same hbb
          have hown := own_below hown (Nat.le_refl _) hbb
          clear hbb
          go_wp2_with fail
          refine (rreaders_any T taken V cv _ _ (by omega) (own_sl' hown)).mono ?_
          rintro e wx ⟨rfl, hwx⟩
          obtain rfl := hwx.symm
          go_wp2_with fail
          refine (rstate_any taken V cv th _ _ (by omega) (own_sl' hown)).mono ?_
          rintro e wx ⟨rfl, hwx⟩
          obtain rfl := hwx.symm
          go_wp2_with fail
          refine (reads_any taken V cv th _ _ (by omega) (own_sl' hown)).mono ?_
          rintro e wx ⟨rfl, hwx⟩
          obtain rfl := hwx.symm
          go_wp2_with fail
          exact ⟨⟨rfl, rfl, rfl, rfl, rfl, rfl, k + 1, taken, _, rfl, rfl, hlt, (by omega), HI.out, hat, hown⟩, by simp [intOf]; omega⟩
      · clear hown
        have KC := Lib.hid (check_any T l A cap W hle (hs.step hat.2.2))
        go_wp2_with fail
        refine KC.out.mono ?_
        rintro e W1 ⟨rfl, hb1⟩
        have hat1 := hat.same hb1
        clear hat hb1 KC
        have KR := Lib.hid (rcheck_any T l A cap W1 hle hlc hcm (hs.step hat1.2.2))
        go_wp2_with fail
        refine KR.out.mono ?_
        rintro e W2 ⟨rfl, hb2⟩
        have hat2 := hat1.same hb2
        clear hat1 hb2 KR
        have i2 := nbeq (rfl : (chkE T l).1 = (chkE T l).1)
        have i3 := nbeq (rfl : (chkE T l).2 = (chkE T l).2)
        go_wp2_with fail
        refine (awake_any _).mono ?_
        rintro e W3 ⟨rfl, hb⟩
        go_wp2_with fail
        go_ret
        exact ⟨rfl, (hat2.same hb).2.2⟩
  · have i1 : (60 : Int) < (l.length : Int) := by omega
    go_enter Try.func3, Try.ntmps3
    go_wp2_with fail
    refine (awake_any _).mono ?_
    rintro e W3 ⟨rfl, hb⟩
    go_wp2_with fail
    go_ret
    exact ⟨rfl, hb⟩
end Go.Proofs.Ytfdcojhgpfmloaa.Sha
