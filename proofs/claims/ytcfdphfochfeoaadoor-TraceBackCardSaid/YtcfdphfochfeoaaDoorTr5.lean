/- Walks of events: Parse of the program and of the reference. -/
import Derived.Test.YtcfdphfochfeoaaDoorTr3
import Derived.Test.YtcfdphfochfeoaaDoorTr6
namespace Go.Proofs.YtcfdphfochfeoaaDoor.Tr
open Go.RowKit Go.Proofs.YtcfdphfochfeoaaDoor.Li Go.Proofs.YtcfdphfochfeoaaDoor.De Go.Proofs.YtcfdphfochfeoaaDoor.Ara
open Go.Proofs.YtcfdphfochfeoaaDoor.Pi (append1_at own_at cell_of_blk allW_len words_wlen lines_llen flat_drop append_rows allW allW_ne words_ne)

def PQ (l : List UInt8) (w0 : World) (e : Ending) (w' : World) : Prop :=
  ∃ A c, e = .returned (.tuple #[.slice A (parseE l).1.length c, .int .i64 ((parseE l).2.1 : Int), .int .i64 (parseE l).2.2]) ∧ Sl w' w'.heap.size A ((parseE l).1.flatMap dE) ∧ Below w0.heap.size w0 w'
theorem oE_cases (x : List UInt8) : (refE x = none ∧ oE x = (⟨0, 0, false, 0⟩, false)) ∨ ∃ p, refE x = some p ∧ oE x = (p, true) := by
  unfold oE
  cases refE x with
  | none => exact .inl ⟨rfl, rfl⟩
  | some p => exact .inr ⟨p, rfl, rfl⟩
theorem frame42 {a : Act} (h : a.tmps.size = 42) (hd : a.defers = []) : ∃ u : Nat → Value, a = { tmps := #[u 0, u 1, u 2, u 3, u 4, u 5, u 6, u 7, u 8, u 9, u 10, u 11, u 12, u 13, u 14, u 15, u 16, u 17, u 18, u 19, u 20, u 21, u 22, u 23, u 24, u 25, u 26, u 27, u 28, u 29, u 30, u 31, u 32, u 33, u 34, u 35, u 36, u 37, u 38, u 39, u 40, u 41], defers := [] } ∧ ∀ n, a.tmps.getD n undef = u n := by
  refine ⟨fun n => a.tmps.getD n undef, ?_, fun _ => rfl⟩
  have h1 := arr_lit a.tmps h
  cases a with
  | mk t d =>
    simp only at hd h1
    subst hd
    congr 1
/-- Ahead of a line. -/
def OuJ (R : List Ev × Nat × Int) (N : Nat) (lns : List (List UInt8)) (A : Option Addr) (c : Nat) (w1 : World) (a : Act) (w' : World) : Prop :=
  a.tmps.size = 42 ∧ a.defers = [] ∧ a.tmps.getD 13 undef = .slice A lns.length c ∧ a.tmps.getD 14 undef = .int .i64 (lns.length : Int) ∧ ∃ (i : Nat) (out : List Ev) (v : Value), a.tmps.getD 5 undef = v ∧ a.tmps.getD 15 undef = .int .i64 (i : Int) ∧ i ≤ lns.length ∧
    w'.ownsRow w1.heap.size 105 4 v out.length (out.flatMap dE) ∧ Below w1.heap.size w1 w' ∧ R = prsE ((lns.drop i).flatMap words) out.length out ∧ out.length + ((lns.drop i).flatMap words).length = N
/-- Ahead of a word. -/
def InJ (R : List Ev × Nat × Int) (N : Nat) (lns : List (List UInt8)) (A : Option Addr) (c : Nat) (w1 : World) (i : Nat) (ws : List (List UInt8)) (Aw : Option Addr) (cw : Nat) (T : List (List UInt8)) (S0 : List Nat) (W2 : World) (a : Act) (w' : World) : Prop :=
  a.tmps.size = 42 ∧ a.defers = [] ∧ a.tmps.getD 13 undef = .slice A lns.length c ∧ a.tmps.getD 14 undef = .int .i64 (lns.length : Int) ∧ a.tmps.getD 15 undef = .int .i64 (i : Int) ∧ a.tmps.getD 20 undef = .slice Aw ws.length cw ∧ a.tmps.getD 21 undef = .int .i64 (ws.length : Int) ∧ ∃ (j : Nat) (out : List Ev) (v : Value), a.tmps.getD 5 undef = v ∧ a.tmps.getD 22 undef = .int .i64 (j : Int) ∧ j ≤ ws.length ∧
    w'.ownsRow w1.heap.size 105 4 v out.length (out.flatMap dE) ∧ Below w1.heap.size w1 w' ∧ Mod S0 W2 w' ∧ (∀ b, v.ownBlock = some b → b ∈ S0 ∨ W2.heap.size ≤ b) ∧ R = prsE (ws.drop j ++ T) out.length out ∧ out.length + (ws.drop j ++ T).length = N
set_option maxRecDepth 100000 in
set_option maxHeartbeats 8000000 in
theorem parse_any (l : List UInt8) (hl : l.length ≤ 3000) (w : World) (ho : Ok w) : Calls Tryd.prog 54 #[vS l] w fun e w' => PQ l w e w' := by
  have HL := Lib.hid (lines_sl (B l) w (by rw [size_B]; omega) ho)
  have hN := allW_len l
  have hln := lines_len l
  have hA : allW l = (lines l).flatMap words := rfl
  have hP : parseE l = prsE (allW l) 0 [] := rfl
  obtain ⟨R, hR⟩ : ∃ R, parseE l = R := ⟨_, rfl⟩
  have hR' : R = prsE (((lines l).drop 0).flatMap words) ([] : List Ev).length [] := by rw [← hR, hP, hA]; rfl
  have hN' : ([] : List Ev).length + (((lines l).drop 0).flatMap words).length = (allW l).length := by rw [hA]; simp
  have hne : ∀ x ∈ lines l, ∀ y ∈ words x, y ≠ [] := fun x _ y hy => words_ne x y hy
  have HLL := Lib.hid (lines_llen l)
  rw [L_B] at HL
  unfold PQ
  rw [hR]
  have HR' := Lib.hid hR'
  have HN' := Lib.hid hN'
  generalize (allW l).length = N at *
  generalize lines l = lns at *
  clear hR' hN' hA hP hR hne
  go_enter Tryd.func54, Tryd.ntmps54
  go_wp2_with fail
  refine HL.out.mono ?_
  rintro e w1 ⟨A, c, rfl, s1, b1⟩
  have B1 := Lib.hid b1
  have S1 := Lib.hid s1
  clear s1 b1
  go_wp2_with fail
  refine wp_loop (OuJ R N lns A c w1) (fun a' _ => lns.length - (intOf (a'.tmps.getD 15 undef)).toNat) ?_ ?_
  · exact ⟨rfl, rfl, rfl, rfl, 0, [], _, rfl, rfl, Nat.zero_le _, World.ownsRow_nil _ _ _ _, Below.refl _ _, HR'.out, HN'.out⟩
  · rintro a' w' ⟨hsz, hdf, s13, s14, i, out, v, s5, s15, hi, hown, hbel, hrun, hcnt⟩
    obtain ⟨u, rfl, hu⟩ := frame42 hsz hdf
    rw [hu] at s5 s13 s14 s15
    simp only [s5, s13, s14, s15]
    clear hsz hdf s5 s13 s14 s15 hu
    by_cases hlt : i < lns.length
    · obtain ⟨b, off, rfl, hbb, hcell⟩ := sl_str (S1.out.below hbel) hlt
      have h0 := hcell i hlt
      have hlx := HLL.out lns[i] (List.getElem_mem hlt)
      have HF := Lib.hid (flat_drop hlt)
      have HW := Lib.hid (words_any (B lns[i]) w' (by rw [size_B]; omega))
      rw [L_B] at HW
      have HWN := Lib.hid (words_ne lns[i])
      have HWL := Lib.hid (words_wlen lns[i])
      have HRun := Lib.hid hrun
      have HCnt := Lib.hid hcnt
      have HO := Lib.hid hown
      have HB := Lib.hid hbel
      have i1 : (i : Int) < (lns.length : Int) := by omega
      clear hcell hrun hcnt hown hbel
      rw [HF.out] at HRun HCnt
      generalize words lns[i] = ws at *
      generalize lns[i] = x at *
      obtain ⟨T, hT⟩ : ∃ T, (lns.drop (i + 1)).flatMap words = T := ⟨_, rfl⟩
      rw [hT] at HRun HCnt
      have HTT := Lib.hid hT
      clear hT HF
      have hwl : ws.length ≤ 3001 := by
        have := HCnt.out
        rw [List.length_append] at this
        omega
      go_wp2_with fail
      refine HW.out.mono ?_
      rintro e W2 ⟨vw, rfl, ow, b2⟩
      obtain ⟨Aw, cw, rfl, hww⟩ := own_at ow
      have HWW := Lib.hid hww
      have hown2 := own_below HO.out (Nat.le_refl _) b2
      have hB2 := HB.out.trans (b2.mono HB.out.size)
      have hlow := Lib.hid (show ∀ b, v.ownBlock = some b → b < w'.heap.size from fun b hb => (HO.out.lt b hb).2)
      have hsz2 := b2.size
      clear ow b2 hww
      go_wp2_with fail
      refine wp_loop (InJ R N lns (some ⟨b, off, none⟩) c w1 i ws Aw cw T v.ownBlock.toList W2) (fun a' _ => ws.length - (intOf (a'.tmps.getD 22 undef)).toNat) ?_ ?_
      · exact ⟨rfl, rfl, rfl, rfl, rfl, rfl, rfl, 0, out, v, rfl, rfl, Nat.zero_le _, hown2, hB2, Mod.refl _ _, fun b hb => .inl (by rw [hb]; simp), HRun.out, HCnt.out⟩
      · rintro a'' W' ⟨hsz, hdf, s13, s14, s15, s20, s21, j, out2, v2, s5, s22, hj, hown3, hB3, hmod, hvb, hrun3, hcnt3⟩
        obtain ⟨u, rfl, hu⟩ := frame42 hsz hdf
        rw [hu] at s5 s13 s14 s15 s20 s21 s22
        simp only [s5, s13, s14, s15, s20, s21, s22]
        clear hsz hdf s5 s13 s14 s15 s20 s21 s22 hu
        have HR3 := Lib.hid hrun3
        have HC3 := Lib.hid hcnt3
        have HM3 := Lib.hid hmod
        have HV3 := Lib.hid hvb
        have HB3 := Lib.hid hB3
        have HO3 := Lib.hid hown3
        have hwq := hB3.size
        clear hrun3 hcnt3 hmod hvb hB3
        obtain ⟨V2, cv, rfl, _, _, hs2⟩ := own_slice hown3
        clear hown3
        by_cases hlt2 : j < ws.length
        · obtain ⟨gw, rfl, hg1, hg2, hgc⟩ := HWW.out.resolve_left (fun e => by simp at e; subst e; simp at hlt2)
          have hnin : gw ∉ v.ownBlock.toList := fun e => by
            have : v.ownBlock = some gw := by simpa using e
            have := hlow.out gw this
            omega
          have k0 : W'.cell? ⟨gw, j, none⟩ = some (vS ws[j]) := (cell_of_blk (HM3.out.block gw hg2 hnin)).trans (by
            have := hgc j (by simpa using hlt2)
            rw [this, List.getElem_map])
          have hx0 := HWN.out ws[j] (List.getElem_mem hlt2)
          have hxl := HWL.out ws[j] (List.getElem_mem hlt2)
          have HOne := Lib.hid (one_any ws[j] hx0 (by omega) W')
          have HD := Lib.hid (List.drop_eq_getElem_cons hlt2)
          have hot := oE_cases ws[j]
          have i2 : (j : Int) < (ws.length : Int) := by omega
          have hN2 : out2.length + 1 ≤ N := by
            have := HC3.out
            rw [List.length_append, List.length_drop] at this
            omega
          rw [HD.out] at HR3 HC3
          generalize ws[j] = y at *
          clear hgc
          rcases hot with ⟨ho1, ho2⟩ | ⟨p, ho1, ho2⟩
          · have HE := Lib.hid (show R = ([], out2.length, 2) by rw [HR3.out]; exact prsE_no ho1)
            rw [ho2] at HOne
            clear ho1 ho2
            go_wp2_with fail
            refine HOne.out.mono ?_
            rintro e w3 ⟨rfl, b3⟩
            have HB4 := Lib.hid (B1.out.trans ((HB3.out.trans (b3.mono HB3.out.size)).mono B1.out.size))
            clear b3
            go_wp2_with fail
            go_ret3
            refine ⟨none, 0, by rw [HE.out]; rfl, by rw [HE.out]; exact Sl.nil _ _ _, ?_⟩
            exact HB4.out.alloc HB4.out.size _
          · have HE := Lib.hid (show R = prsE (ws.drop (j + 1) ++ T) (out2 ++ [p]).length (out2 ++ [p]) by
              rw [HR3.out, List.length_append]; exact prsE_yes ho1)
            have HCE := Lib.hid (show (out2 ++ [p]).length + (ws.drop (j + 1) ++ T).length = N by
              have := HC3.out
              rw [List.cons_append, List.length_cons] at this
              rw [List.length_append, List.length_cons, List.length_nil]
              omega)
            rw [ho2] at HOne
            clear ho1 ho2
            go_wp2_with fail
            refine HOne.out.mono ?_
            rintro e w3 ⟨rfl, b3⟩
            have hown4 := (own_below HO3.out (Nat.le_refl _) b3).alloc (.cells #[.int .i64 p.kind, .int .i64 p.th, .bool p.rd, .int .i64 p.ct] 105)
            have HM4 := Lib.hid ((HM3.out.trans (Mod.of_below b3)).alloc (.cells #[.int .i64 p.kind, .int .i64 p.th, .bool p.rd, .int .i64 p.ct] 105))
            have hB4 := (HB3.out.trans (b3.mono HB3.out.size)).alloc (Nat.le_trans hwq b3.size) (.cells #[.int .i64 p.kind, .int .i64 p.th, .bool p.rd, .int .i64 p.ct] 105)
            have HB4 := Lib.hid hB4
            have hwq4 := hB4.size
            clear b3 hB4
            go_wp2_with (at_builtin; refine append1_at (.tmp 35) (.tmp 37) 64 105 _ 4 32 rfl rfl Tryd.underlying64 infoE rfl (by decide) w1.heap.size _ _ _ _ _ _ _ _ hown4 rfl rfl ?cga rfl ?d1a ?d2a ?d3a ?d4a ?cka; case' cka => intro v' w5 hown5 hg5 hn5)
            case cga => first | rfl | simp
            case d1a => simp [Value.oneCell']
            case d2a => simp only [maxLen]; omega
            case d3a => omega
            try (case d4a => exact hwq4)
            go_wp2_with fail
            go_roundw
            case rel => exact ⟨rfl, rfl, rfl, rfl, rfl, rfl, rfl, j + 1, out2 ++ [p], v', rfl, by go_num, by omega, by simpa [dE] using hown5.out, HB4.out.trans ((Below.refl _ _).grown hg5.out hwq4 (fun k hk => (hown4.lt k hk).1)), HM4.out.of_grown hg5.out (fun k hk => (HV3.out k hk).symm), fun b hb => (hn5.out b hb).elim (fun h => HV3.out b h) (fun h => .inr (Nat.le_trans HM4.out.size h)), HE.out, HCE.out⟩
            case measure => simp [intOf]; omega
        · obtain rfl : j = ws.length := by omega
          have HE := Lib.hid (show R = prsE T out2.length out2 by rw [HR3.out, List.drop_length]; rfl)
          have HCE := Lib.hid (show out2.length + T.length = N by have := HC3.out; rw [List.drop_length] at this; exact this)
          go_wp2_with fail
          go_roundw
          case rel => exact ⟨rfl, rfl, rfl, rfl, i + 1, out2, _, rfl, by go_num, by omega, HO3.out, HB3.out, by rw [HTT.out]; exact HE.out, by rw [HTT.out]; exact HCE.out⟩
          case measure => simp [intOf]; omega
    · obtain rfl : i = lns.length := by omega
      have HE := Lib.hid (show R = (out, 0, 0) by rw [hrun, List.drop_length]; rfl)
      obtain ⟨A2, c2, rfl, _, _, hs2⟩ := own_slice hown
      have HB2 := Lib.hid (B1.out.trans (hbel.mono B1.out.size))
      clear hrun hcnt
      go_wp2_with fail
      go_ret3
      exact ⟨A2, c2, by rw [HE.out]; rfl, by rw [HE.out]; exact hs2, HB2.out⟩
theorem frame49 {a : Act} (h : a.tmps.size = 49) (hd : a.defers = []) : ∃ u : Nat → Value, a = { tmps := #[u 0, u 1, u 2, u 3, u 4, u 5, u 6, u 7, u 8, u 9, u 10, u 11, u 12, u 13, u 14, u 15, u 16, u 17, u 18, u 19, u 20, u 21, u 22, u 23, u 24, u 25, u 26, u 27, u 28, u 29, u 30, u 31, u 32, u 33, u 34, u 35, u 36, u 37, u 38, u 39, u 40, u 41, u 42, u 43, u 44, u 45, u 46, u 47, u 48], defers := [] } ∧ ∀ n, a.tmps.getD n undef = u n := by
  refine ⟨fun n => a.tmps.getD n undef, ?_, fun _ => rfl⟩
  have h1 := arr_lit a.tmps h
  cases a with
  | mk t d =>
    simp only at hd h1
    subst hd
    congr 1
def R1J (lns : List (List UInt8)) (A : Option Addr) (c : Nat) (w1 : World) (a : Act) (w' : World) : Prop :=
  a.tmps.size = 49 ∧ a.defers = [] ∧ a.tmps.getD 6 undef = .slice A lns.length c ∧ ∃ (i : Nat) (v : Value), a.tmps.getD 5 undef = v ∧ a.tmps.getD 7 undef = .int .i64 (i : Int) ∧ i ≤ lns.length ∧
    w'.ownsRow w1.heap.size 9 1 v ((lns.take i).flatMap words).length (((lns.take i).flatMap words).map vS) ∧ Below w1.heap.size w1 w'
def R2J (R : List Ev × Nat × Int) (W : List (List UInt8)) (A : Option Addr) (c : Nat) (w2 : World) (a : Act) (w' : World) : Prop :=
  a.tmps.size = 49 ∧ a.defers = [] ∧ a.tmps.getD 5 undef = .slice A W.length c ∧ ∃ (k : Nat) (out : List Ev) (v : Value), a.tmps.getD 8 undef = v ∧ a.tmps.getD 9 undef = .int .i64 (k : Int) ∧ k ≤ W.length ∧ out.length = k ∧
    w'.ownsRow w2.heap.size 105 4 v k (out.flatMap dE) ∧ Below w2.heap.size w2 w' ∧ R = prsE (W.drop k) k out
set_option maxRecDepth 100000 in
set_option maxHeartbeats 8000000 in
theorem rparse_any (l : List UInt8) (hl : l.length ≤ 1000) (w : World) : Calls Tryd.prog 55 #[vS l] w fun e w' => PQ l w e w' := by
  have HL := Lib.hid (rlines_sl (B l) w (by rw [size_B]; omega))
  have hN := allW_len l
  have hln := lines_len l
  have hA : allW l = (lines l).flatMap words := rfl
  have hP : parseE l = prsE (allW l) 0 [] := rfl
  obtain ⟨R, hR⟩ : ∃ R, parseE l = R := ⟨_, rfl⟩
  have hR' : R = prsE (((allW l)).drop 0) 0 [] := by rw [← hR, hP]; rfl
  have hWn := Lib.hid (allW_ne l)
  have hWL : ∀ x ∈ allW l, x.length ≤ 1000 := by
    intro x hx
    obtain ⟨y, hy, hxy⟩ := List.mem_flatMap.1 hx
    have := lines_llen l y hy
    have := words_wlen y x hxy
    omega
  have HWL := Lib.hid hWL
  have HLL := Lib.hid (lines_llen l)
  rw [L_B] at HL
  unfold PQ
  rw [hR]
  have HR' := Lib.hid hR'
  have HA := Lib.hid hA
  have hAN : (lines l).flatMap words = allW l := rfl
  have hcount : ∀ i, ((lines l).take i).flatMap words = [] ∨ True := fun _ => .inr trivial
  have HCN := Lib.hid (show ∀ i, (((lines l).take i).flatMap words).length ≤ 1001 by
    intro i
    have h1 : ((lines l).flatMap words).length ≤ l.length + 1 := hN
    conv at h1 => lhs; rw [← List.take_append_drop i (lines l)]
    rw [List.flatMap_append, List.length_append] at h1
    omega)
  generalize allW l = W at *
  generalize lines l = lns at *
  clear hR' hA hP hR hWL hAN hcount
  go_enter Tryd.func55, Tryd.ntmps55
  go_wp2_with fail
  refine HL.out.mono ?_
  rintro e w1 ⟨A, c, rfl, s1, b1⟩
  have B1 := Lib.hid b1
  have S1 := Lib.hid s1
  clear s1 b1
  go_wp2_with fail
  refine wp_loop (R1J lns A c w1) (fun a' _ => lns.length - (intOf (a'.tmps.getD 7 undef)).toNat) ?_ ?_
  · exact ⟨rfl, rfl, rfl, 0, _, rfl, rfl, Nat.zero_le _, World.ownsRow_nil _ _ _ _, Below.refl _ _⟩
  · rintro a' w' ⟨hsz, hdf, s6, i, v, s5, s7, hi, hown, hbel⟩
    obtain ⟨u, rfl, hu⟩ := frame49 hsz hdf
    rw [hu] at s5 s6 s7
    simp only [s5, s6, s7]
    clear hsz hdf s5 s6 s7 hu
    by_cases hlt : i < lns.length
    · obtain ⟨b, off, rfl, hbb, hcell⟩ := sl_str (S1.out.below hbel) hlt
      have h0 := hcell i hlt
      have hlx := HLL.out lns[i] (List.getElem_mem hlt)
      have HW := Lib.hid (rwords_any (B lns[i]) w' (by rw [size_B]; omega))
      rw [L_B] at HW
      have HT := Lib.hid (show (lns.take (i + 1)).flatMap words = (lns.take i).flatMap words ++ words lns[i] by
        rw [List.take_succ_eq_append_getElem hlt, List.flatMap_append]; simp)
      have hc1 := HCN.out (i + 1)
      rw [HT.out, List.length_append] at hc1
      have HO := Lib.hid hown
      have HB := Lib.hid hbel
      have i1 : (i : Int) < (lns.length : Int) := by omega
      clear hcell hown hbel
      generalize words lns[i] = ws at *
      generalize lns[i] = x at *
      go_wp2_with fail
      refine HW.out.mono ?_
      rintro e W2 ⟨vw, rfl, ow, b2⟩
      have hown2 := own_below HO.out (Nat.le_refl _) b2
      have HB2 := Lib.hid (HB.out.trans (b2.mono HB.out.size))
      have hwq := HB2.out.size
      have hsz2 := b2.size
      clear b2
      go_wp2_with (at_builtin; refine append_rows (.tmp 20) (.tmp 25) rfl rfl w1.heap.size w'.heap.size _ _ _ _ _ _ _ hown2 ow rfl rfl ?d1a ?d2a hwq ?cka; case' cka => intro v' w5 hown5 hb5)
      case d1a => intro u hu; obtain ⟨y, _, rfl⟩ := List.mem_map.1 hu; rfl
      case d2a => omega
      go_wp2_with fail
      go_roundw
      case rel => exact ⟨rfl, rfl, rfl, i + 1, v', rfl, by go_num, by omega, by rw [HT.out, List.length_append, List.map_append]; exact hown5.out, HB2.out.trans hb5.out⟩
      case measure => simp [intOf]; omega
    · obtain rfl : i = lns.length := by omega
      rw [List.take_length, ← HA.out] at hown
      obtain ⟨AW, cW, rfl, _, _, hsw⟩ := own_slice hown
      have HSW := Lib.hid (show Sl w' w'.heap.size AW (W.map vS) from hsw)
      have HB1 := Lib.hid (B1.out.trans (hbel.mono B1.out.size))
      clear hown hsw hbel
      go_wp2_with fail
      refine wp_loop (R2J R W AW cW w') (fun a' _ => W.length - (intOf (a'.tmps.getD 9 undef)).toNat) ?_ ?_
      · exact ⟨rfl, rfl, rfl, 0, [], _, rfl, rfl, Nat.zero_le _, rfl, World.ownsRow_nil _ _ _ _, Below.refl _ _, HR'.out⟩
      · rintro a'' W' ⟨hsz, hdf, s5, k, out, v, s8, s9, hk, hol, hown, hbel, hrun⟩
        obtain ⟨u, rfl, hu⟩ := frame49 hsz hdf
        rw [hu] at s5 s8 s9
        simp only [s5, s8, s9]
        clear hsz hdf s5 s8 s9 hu
        have HRun := Lib.hid hrun
        have HB := Lib.hid hbel
        have HO := Lib.hid hown
        have hwq := hbel.size
        by_cases hlt2 : k < W.length
        · obtain ⟨b, off, rfl, hbb, hcell⟩ := sl_str (HSW.out.below hbel) hlt2
          have h0 := hcell k hlt2
          have hx0 := hWn.out W[k] (List.getElem_mem hlt2)
          have hxl := HWL.out W[k] (List.getElem_mem hlt2)
          have HD := Lib.hid (List.drop_eq_getElem_cons hlt2)
          have i2 : (k : Int) < (W.length : Int) := by omega
          rw [HD.out] at HRun
          clear hcell hrun hbel hown
          generalize W[k] = y at *
          have HOne := Lib.hid (rone_any y hx0 (by omega) W')
          have hot := oE_cases y
          rcases hot with ⟨ho1, ho2⟩ | ⟨p, ho1, ho2⟩
          · have HE := Lib.hid (show R = ([], k, 2) by rw [HRun.out]; exact prsE_no ho1)
            rw [ho2] at HOne
            clear ho1 ho2
            go_wp2_with fail
            refine HOne.out.mono ?_
            rintro e w3 ⟨rfl, b3⟩
            have HB4 := Lib.hid (HB1.out.trans ((HB.out.trans (b3.mono HB.out.size)).mono HB1.out.size))
            clear b3
            go_wp2_with fail
            go_ret3
            refine ⟨none, 0, by rw [HE.out]; rfl, by rw [HE.out]; exact Sl.nil _ _ _, ?_⟩
            exact HB4.out.alloc HB4.out.size _
          · have HE := Lib.hid (show R = prsE (W.drop (k + 1)) (k + 1) (out ++ [p]) by rw [HRun.out]; exact prsE_yes ho1)
            rw [ho2] at HOne
            clear ho1 ho2
            go_wp2_with fail
            refine HOne.out.mono ?_
            rintro e w3 ⟨rfl, b3⟩
            have hown4 := (own_below HO.out (Nat.le_refl _) b3).alloc (.cells #[.int .i64 p.kind, .int .i64 p.th, .bool p.rd, .int .i64 p.ct] 105)
            have hB4 := (HB.out.trans (b3.mono HB.out.size)).alloc (Nat.le_trans hwq b3.size) (.cells #[.int .i64 p.kind, .int .i64 p.th, .bool p.rd, .int .i64 p.ct] 105)
            have HB4 := Lib.hid hB4
            have hwq4 := hB4.size
            clear b3 hB4
            go_wp2_with (at_builtin; refine wpList_append1 (.tmp 44) (.tmp 46) 64 105 _ 4 32 rfl rfl Tryd.underlying64 infoE rfl (by decide) w'.heap.size _ _ _ _ _ _ _ _ hown4 rfl rfl ?cgb rfl ?d1b ?d2b ?d3b ?d4b ?ckb; case' ckb => intro v' w6 hown6 hb6 _)
            case cgb => first | rfl | simp
            case d1b => simp [Value.oneCell']
            case d2b => simp only [maxLen]; omega
            case d3b => omega
            try (case d4b => exact hwq4)
            go_wp2_with fail
            go_roundw
            case rel => exact ⟨rfl, rfl, rfl, k + 1, out ++ [p], v', rfl, by go_num, by omega, by simp [hol], by simpa [dE] using hown6, HB4.out.trans hb6, HE.out⟩
            case measure => simp [intOf]; omega
        · obtain rfl : k = W.length := by omega
          have HE := Lib.hid (show R = (out, 0, 0) by rw [hrun, List.drop_length]; rfl)
          obtain ⟨A2, c2, rfl, _, _, hs2⟩ := own_slice hown
          clear hrun hown hbel
          go_wp2_with fail
          go_ret3
          exact ⟨A2, c2, by rw [HE.out, hol]; rfl, by rw [HE.out]; exact hs2, HB1.out.trans (HB.out.mono HB1.out.size)⟩
end Go.Proofs.YtcfdphfochfeoaaDoor.Tr
