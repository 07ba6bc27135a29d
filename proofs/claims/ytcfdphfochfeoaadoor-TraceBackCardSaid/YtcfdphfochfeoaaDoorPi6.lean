/- Walks of picks: the reference's Parse. -/
import Derived.Test.YtcfdphfochfeoaaDoorPi5
import Derived.Laws.AppendOwnNone
namespace Go.Proofs.YtcfdphfochfeoaaDoor.Pi
open Go.RowKit Go.Proofs.YtcfdphfochfeoaaDoor.Li Go.Proofs.YtcfdphfochfeoaaDoor.De Go.Proofs.YtcfdphfochfeoaaDoor.Ara

/-- 'words = append(words, more...)', both of the call's own. -/
theorem append_rows {ops : Array Oper} {rest : List Oper} {o : Oper} {a : Act} {Q : Exit → Act → World → Prop} (s x : Operand) (hgd : o.guard = none) (ho : o.op = .call { callee := .builtin .append, args := #[s, x], argTypes := #[22, 22] })
    (base B2 : Nat) (w : World) (v : Value) (n : Nat) (xs : List Value) (vx : Value) (m : Nat) (ys : List Value) (hown : w.ownsRow base 9 1 v n xs) (hox : w.ownsRow B2 9 1 vx m ys) (hs : a.eval s = v) (hx : a.eval x = vx)
    (h1 : ∀ u ∈ ys, u.oneCell' = true) (hnm : n + m ≤ 100000) (hbase : base ≤ w.heap.size)
    (h : ∀ v' w', Hid (w'.ownsRow base 9 1 v' (n + m) (xs ++ ys)) → Hid (Below base w w') → wpList Tryd.prog ops Q rest (a.put o.dst v') w') : wpList Tryd.prog ops Q (o :: rest) a w := by
  obtain ⟨i0, hi0, hz0, hz1, hz2⟩ := info_parts infoS
  rcases hox.2 with ⟨rfl, rfl⟩ | ⟨g, cap, cur, rfl, hg, hbk, hnc, hcm, hcs, htk⟩
  · have hy : ys = [] := List.eq_nil_of_length_eq_zero (by simpa using hox.1)
    subst hy
    refine wpList_append_own_none hgd s x _ ho base _ i0 1 Tryd.underlying22 hi0 v n xs hs hown hx (h _ _ ?_ (Below.refl _ _))
    rw [Nat.add_zero, List.append_nil]
    exact hown
  · refine wpList_append_own _ hgd s x _ ho base _ i0 _ 1 16 Tryd.underlying22 hi0 hz0 hz1 hz2 rfl (by decide) v n xs hs hown ⟨g, 0, none⟩ m cap ys hx hox.1 ?_ h1 (by simp only [maxLen]; omega) (by omega) hbase (fun v' w' h2 h3 _ => h v' w' h2 ((Below.refl _ _).grown h3 hbase (fun k hk => (hown.lt k hk).1)))
    intro j u hu
    have hadd : (⟨g, 0, none⟩ : Addr).add j = ⟨g, j, none⟩ := by unfold Addr.add; split <;> simp_all
    rw [hadd]
    have := hox.cellAt j (by have := (List.getElem?_eq_some_iff.1 hu).1; have e := hox.1; omega)
    rw [this]
    exact hu
theorem frame75 {a : Act} (h : a.tmps.size = 75) (hd : a.defers = []) : ∃ u : Nat → Value, a = { tmps := #[u 0, u 1, u 2, u 3, u 4, u 5, u 6, u 7, u 8, u 9, u 10, u 11, u 12, u 13, u 14, u 15, u 16, u 17, u 18, u 19, u 20, u 21, u 22, u 23, u 24, u 25, u 26, u 27, u 28, u 29, u 30, u 31, u 32, u 33, u 34, u 35, u 36, u 37, u 38, u 39, u 40, u 41, u 42, u 43, u 44, u 45, u 46, u 47, u 48, u 49, u 50, u 51, u 52, u 53, u 54, u 55, u 56, u 57, u 58, u 59, u 60, u 61, u 62, u 63, u 64, u 65, u 66, u 67, u 68, u 69, u 70, u 71, u 72, u 73, u 74], defers := [] } ∧ ∀ n, a.tmps.getD n undef = u n := by
  refine ⟨fun n => a.tmps.getD n undef, ?_, fun _ => rfl⟩
  have h1 := arr_lit a.tmps h
  cases a with
  | mk t d =>
    simp only at hd h1
    subst hd
    congr 1
def R1J (lns : List (List UInt8)) (A : Option Addr) (c : Nat) (w1 : World) (a : Act) (w' : World) : Prop :=
  a.tmps.size = 75 ∧ a.defers = [] ∧ a.tmps.getD 6 undef = .slice A lns.length c ∧ ∃ (i : Nat) (v : Value), a.tmps.getD 5 undef = v ∧ a.tmps.getD 7 undef = .int .i64 (i : Int) ∧ i ≤ lns.length ∧
    w'.ownsRow w1.heap.size 9 1 v ((lns.take i).flatMap words).length (((lns.take i).flatMap words).map vS) ∧ Below w1.heap.size w1 w'
def R2J (R : List Pk × Nat × Int) (W : List (List UInt8)) (A : Option Addr) (c : Nat) (w2 : World) (a : Act) (w' : World) : Prop :=
  a.tmps.size = 75 ∧ a.defers = [] ∧ a.tmps.getD 5 undef = .slice A W.length c ∧ ∃ (k : Nat) (out : List Pk) (v : Value), a.tmps.getD 8 undef = v ∧ a.tmps.getD 9 undef = .int .i64 (k : Int) ∧ k ≤ W.length ∧ out.length = k ∧
    w'.ownsRow w2.heap.size 59 2 v k (out.flatMap dP) ∧ Below w2.heap.size w2 w' ∧ R = prsP (W.drop k) k out
set_option maxRecDepth 100000 in
set_option maxHeartbeats 8000000 in
theorem rparse_any (l : List UInt8) (hl : l.length ≤ 1000) (w : World) : Calls Tryd.prog 44 #[vS l] w fun e w' => PQ l w e w' := by
  have HL := Lib.hid (rlines_sl (B l) w (by rw [size_B]; omega))
  have hN := allW_len l
  have hln := lines_len l
  have hA : allW l = (lines l).flatMap words := rfl
  have hP : parseP l = prsP (allW l) 0 [] := rfl
  obtain ⟨R, hR⟩ : ∃ R, parseP l = R := ⟨_, rfl⟩
  have hR' : R = prsP (((allW l)).drop 0) 0 [] := by rw [← hR, hP]; rfl
  have hWn := Lib.hid (allW_ne l)
  have hWL : ∀ x ∈ allW l, x.length ≤ 1000 := by
    intro x hx
    obtain ⟨y, hy, hxy⟩ := List.mem_flatMap.1 hx
    have := lines_llen l y hy
    have := words_wlen y x hxy
    omega
  have HWL := Lib.hid hWL
  have HLL := Lib.hid (lines_llen l)
  rw [L_B] at HL
  unfold PQ
  rw [hR]
  have HR' := Lib.hid hR'
  have HA := Lib.hid hA
  have hAN : (lines l).flatMap words = allW l := rfl
  have hcount : ∀ i, ((lines l).take i).flatMap words = [] ∨ True := fun _ => .inr trivial
  have HCN := Lib.hid (show ∀ i, (((lines l).take i).flatMap words).length ≤ 1001 by
    intro i
    have h1 : ((lines l).flatMap words).length ≤ l.length + 1 := hN
    conv at h1 => lhs; rw [← List.take_append_drop i (lines l)]
    rw [List.flatMap_append, List.length_append] at h1
    omega)
  generalize allW l = W at *
  generalize lines l = lns at *
  clear hR' hA hP hR hWL hAN hcount
  go_enter Tryd.func44, Tryd.ntmps44
  go_wp2_with fail
  refine HL.out.mono ?_
  rintro e w1 ⟨A, c, rfl, s1, b1⟩
  have B1 := Lib.hid b1
  have S1 := Lib.hid s1
  clear s1 b1
  go_wp2_with fail
  refine wp_loop (R1J lns A c w1) (fun a' _ => lns.length - (intOf (a'.tmps.getD 7 undef)).toNat) ?_ ?_
  · exact ⟨rfl, rfl, rfl, 0, _, rfl, rfl, Nat.zero_le _, World.ownsRow_nil _ _ _ _, Below.refl _ _⟩
  · rintro a' w' ⟨hsz, hdf, s6, i, v, s5, s7, hi, hown, hbel⟩
    obtain ⟨u, rfl, hu⟩ := frame75 hsz hdf
    rw [hu] at s5 s6 s7
    simp only [s5, s6, s7]
    clear hsz hdf s5 s6 s7 hu
    by_cases hlt : i < lns.length
    · obtain ⟨b, off, rfl, hbb, hcell⟩ := sl_str (S1.out.below hbel) hlt
      have h0 := hcell i hlt
      have hlx := HLL.out lns[i] (List.getElem_mem hlt)
      have HW := Lib.hid (rwords_any (B lns[i]) w' (by rw [size_B]; omega))
      rw [L_B] at HW
      have HT := Lib.hid (show (lns.take (i + 1)).flatMap words = (lns.take i).flatMap words ++ words lns[i] by
        rw [List.take_succ_eq_append_getElem hlt, List.flatMap_append]; simp)
      have hc1 := HCN.out (i + 1)
      rw [HT.out, List.length_append] at hc1
      have HO := Lib.hid hown
      have HB := Lib.hid hbel
      have i1 : (i : Int) < (lns.length : Int) := by omega
      clear hcell hown hbel
      generalize words lns[i] = ws at *
      generalize lns[i] = x at *
      go_wp2_with fail
      refine HW.out.mono ?_
      rintro e W2 ⟨vw, rfl, ow, b2⟩
      have hown2 := own_below HO.out (Nat.le_refl _) b2
      have HB2 := Lib.hid (HB.out.trans (b2.mono HB.out.size))
      have hwq := HB2.out.size
      have hsz2 := b2.size
      clear b2
      go_wp2_with (at_builtin; refine append_rows (.tmp 23) (.tmp 28) rfl rfl w1.heap.size w'.heap.size _ _ _ _ _ _ _ hown2 ow rfl rfl ?d1a ?d2a hwq ?cka; case' cka => intro v' w5 hown5 hb5)
      case d1a => intro u hu; obtain ⟨y, _, rfl⟩ := List.mem_map.1 hu; rfl
      case d2a => omega
      go_wp2_with fail
      go_roundw
      case rel => exact ⟨rfl, rfl, rfl, i + 1, v', rfl, by go_num, by omega, by rw [HT.out, List.length_append, List.map_append]; exact hown5.out, HB2.out.trans hb5.out⟩
      case measure => simp [intOf]; omega
    · obtain rfl : i = lns.length := by omega
      rw [List.take_length, ← HA.out] at hown
      obtain ⟨AW, cW, rfl, _, _, hsw⟩ := own_slice hown
      have HSW := Lib.hid (show Sl w' w'.heap.size AW (W.map vS) from hsw)
      have HB1 := Lib.hid (B1.out.trans (hbel.mono B1.out.size))
      clear hown hsw hbel
      go_wp2_with fail
      refine wp_loop (R2J R W AW cW w') (fun a' _ => W.length - (intOf (a'.tmps.getD 9 undef)).toNat) ?_ ?_
      · exact ⟨rfl, rfl, rfl, 0, [], _, rfl, rfl, Nat.zero_le _, rfl, World.ownsRow_nil _ _ _ _, Below.refl _ _, HR'.out⟩
      · rintro a'' W' ⟨hsz, hdf, s5, k, out, v, s8, s9, hk, hol, hown, hbel, hrun⟩
        obtain ⟨u, rfl, hu⟩ := frame75 hsz hdf
        rw [hu] at s5 s8 s9
        simp only [s5, s8, s9]
        clear hsz hdf s5 s8 s9 hu
        have HRun := Lib.hid hrun
        have HB := Lib.hid hbel
        have HO := Lib.hid hown
        have hwq := hbel.size
        by_cases hlt2 : k < W.length
        · obtain ⟨b, off, rfl, hbb, hcell⟩ := sl_str (HSW.out.below hbel) hlt2
          have h0 := hcell k hlt2
          have hx0 := hWn.out W[k] (List.getElem_mem hlt2)
          have hxl := HWL.out W[k] (List.getElem_mem hlt2)
          have HD := Lib.hid (List.drop_eq_getElem_cons hlt2)
          have i2 : (k : Int) < (W.length : Int) := by omega
          rw [HD.out] at HRun
          clear hcell hrun hbel hown
          generalize W[k] = y at *
          have hpos : 0 < y.length := List.length_pos_iff.2 hx0
          obtain ⟨q, hq⟩ : ∃ q, y.length = q + 1 := ⟨y.length - 1, by omega⟩
          have hsy := size_B y
          rw [hq] at hsy
          have HP := Lib.hid (De.rparse_any (y.take q) (by rw [List.length_take]; omega))
          have HEx := Lib.hid (show (B y).extract 0 q = B (y.take q) by rw [ext_B]; rfl)
          have hixy : ∀ W, (Instr.index 9 (vS y) (.int .i64 (q : Int))).run Tryd.prog W = .ok (.int .u8 ((y.getD q 0).toNat : Int)) W := fun W => ix_str (B y) q (by rw [hsy]; omega) W
          have HWt := Lib.hid (rwant_any (y.getD q 0))
          have hone : oneP y = match prs (y.take q), wantOf (y.getD q 0) with | some n, some k => some ⟨n, k⟩ | _, _ => none := by
            unfold oneP; rw [hq]; rfl
          have hpc := pr_ok (y.take q)
          have e1 : (y.length : Int) - 1 = (q : Int) := by omega
          have e2 : ((q : Int) + 1) - 1 = (q : Int) := by omega
          have iq : (q : Int) ≤ 1000 := by omega
          generalize y.getD q 0 = ch at *
          generalize y.take q = yt at *
          rcases hpc with ⟨n, p1, p2⟩ | ⟨p1, p2⟩
          · rw [p2] at HP
            rw [p1] at hone
            cases hw : wantOf ch with
            | none =>
              have hv : wv ch = 0 ∧ wb ch = false := by unfold wv wb; rw [hw]; exact ⟨rfl, rfl⟩
              rw [hv.1, hv.2] at HWt
              have HE := Lib.hid (show R = ([], k, 2) by rw [HRun.out]; exact prsP_no (by rw [hone, hw]))
              clear hv hw hone p1 p2
              go_wp2_with fail
              rw [HEx.out]
              refine (HP.out _).mono ?_
              rintro e wx ⟨rfl, hwx⟩
              obtain rfl := hwx.symm
              go_wp2_with fail
              refine (HWt.out _).mono ?_
              rintro e wx ⟨rfl, hwx⟩
              obtain rfl := hwx.symm
              go_wp2_with fail
              go_ret3
              exact ⟨none, 0, by rw [HE.out]; rfl, by rw [HE.out]; exact Sl.nil _ _ _, HB1.out.trans (HB.out.mono HB1.out.size)⟩
            | some j =>
              have hv : wv ch = (j : Int) ∧ wb ch = true := by unfold wv wb; rw [hw]; exact ⟨rfl, rfl⟩
              rw [hv.1, hv.2] at HWt
              have HE := Lib.hid (show R = prsP (W.drop (k + 1)) (k + 1) (out ++ [⟨n, j⟩]) by rw [HRun.out]; exact prsP_yes (by rw [hone, hw]))
              have q4 : ((k : Int) == 4000) = false := ibeq_no (by omega)
              clear hv hw hone p1 p2
              have hown3 := HO.out
              go_wp2_with fail
              rw [HEx.out]
              refine (HP.out _).mono ?_
              rintro e wx ⟨rfl, hwx⟩
              obtain rfl := hwx.symm
              go_wp2_with fail
              refine (HWt.out _).mono ?_
              rintro e wx ⟨rfl, hwx⟩
              obtain rfl := hwx.symm
              go_wp2_with (at_builtin; refine wpList_append1 (.tmp 68) (.tmp 72) 49 59 _ 2 16 rfl rfl Tryd.underlying49 infoP rfl (by decide) w'.heap.size _ _ _ _ _ _ _ _ hown3 rfl rfl ?cgb rfl ?d1b ?d2b ?d3b ?d4b ?ckb; case' ckb => intro v' w6 hown6 hb6 _)
              case cgb => first | rfl | simp
              case d1b => simp [Value.oneCell']
              case d2b => simp only [maxLen]; omega
              case d3b => omega
              try (case d4b => exact hwq)
              go_wp2_with fail
              go_roundw
              case rel => exact ⟨rfl, rfl, rfl, k + 1, out ++ [⟨n, j⟩], v', rfl, by go_num, by omega, by simp [hol], by simpa [dP] using hown6, HB.out.trans hb6, HE.out⟩
              case measure => simp [intOf]; omega
          · rw [p2] at HP
            rw [p1] at hone
            have HE := Lib.hid (show R = ([], k, 2) by rw [HRun.out]; exact prsP_no hone)
            clear hone p1 p2
            go_wp2_with fail
            rw [HEx.out]
            refine (HP.out _).mono ?_
            rintro e wx ⟨rfl, hwx⟩
            obtain rfl := hwx.symm
            go_wp2_with fail
            refine (HWt.out _).mono ?_
            rintro e wx ⟨rfl, hwx⟩
            obtain rfl := hwx.symm
            go_wp2_with fail
            go_ret3
            exact ⟨none, 0, by rw [HE.out]; rfl, by rw [HE.out]; exact Sl.nil _ _ _, HB1.out.trans (HB.out.mono HB1.out.size)⟩
        · obtain rfl : k = W.length := by omega
          have HE := Lib.hid (show R = (out, 0, 0) by rw [hrun, List.drop_length]; rfl)
          obtain ⟨A2, c2, rfl, _, _, hs2⟩ := own_slice hown
          clear hrun hown hbel
          go_wp2_with fail
          go_ret3
          exact ⟨A2, c2, by rw [HE.out, hol]; rfl, by rw [HE.out]; exact hs2, HB1.out.trans (HB.out.mono HB1.out.size)⟩
end Go.Proofs.YtcfdphfochfeoaaDoor.Pi
