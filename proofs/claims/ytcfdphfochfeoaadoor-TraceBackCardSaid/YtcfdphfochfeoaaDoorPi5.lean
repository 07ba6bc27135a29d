/- Walks of picks: the program's Parse. -/
import Derived.Test.YtcfdphfochfeoaaDoorPi4
import Derived.Maps.AppendAt
namespace Go.Proofs.YtcfdphfochfeoaaDoor.Pi
open Go.RowKit Go.Proofs.YtcfdphfochfeoaaDoor.Li Go.Proofs.YtcfdphfochfeoaaDoor.De Go.Proofs.YtcfdphfochfeoaaDoor.Ara

theorem append1_at {P : Program} {ops : Array Oper} {rest : List Oper} {o : Oper} {a : Act} {Q : Exit → Act → World → Prop} (s x : Operand) (t e : TypeId) (z : Value) (size bytes : Nat)
    (hgd : o.guard = none) (ho : o.op = .call { callee := .builtin .append, args := #[s, x], argTypes := #[t, t] }) (ht : P.underlying t = some (.slice e))
    (hinfo : (P.info? e).map (fun i => (i.zero, i.size, i.bytes)) = some (some z, size, bytes)) (hzs : z.cells.size = size) (hsz : 0 < size)
    (base : Nat) (w : World) (v : Value) (n : Nat) (xs : List Value) (news : Array Value) (e' : TypeId) (c g : Nat) (hown : w.ownsRow base e size v n xs) (hs : a.eval s = v) (hx : a.eval x = .slice (some ⟨g, 0, none⟩) 1 c) (hgs : w.heap.size = g)
    (hl : news.size = size) (h1 : ∀ u ∈ news.toList, u.oneCell' = true) (h63 : n + 1 ≤ maxLen) (hbytes : (n + 1) * bytes ≤ 140737488355328) (hbase : base ≤ w.heap.size)
    (h : ∀ v' w', Hid (w'.ownsRow base e size v' (n + 1) (xs ++ news.toList)) → Hid (w.grownBy w' v.ownBlock) → Hid (∀ b, v'.ownBlock = some b → v.ownBlock = some b ∨ w.heap.size ≤ b) → wpList P ops Q rest (a.put o.dst v') w') :
    wpList P ops Q (o :: rest) a (w.alloc (.cells news e')) := by
  subst hgs
  obtain ⟨i0, hi0, hz0, hz1, hz2⟩ := info_parts hinfo
  refine wpList_append_own_at _ hgd s x t ho base e i0 z size bytes ht hi0 hz0 hz1 hz2 hzs hsz v n xs hs (hown.alloc _) ⟨w.heap.size, 0, none⟩ 1 c news.toList hx (by simpa using hl) ?_ h1 h63 hbytes (by simp; omega) ?_
  · intro j u hu
    have hadd : (⟨w.heap.size, 0, none⟩ : Addr).add j = ⟨w.heap.size, j, none⟩ := by unfold Addr.add; split <;> simp_all
    rw [hadd, World.cell?_alloc_at _ _ _ _ rfl]
    simpa using hu
  · intro v' w' h2 h3 _ h4
    have hg := grown_trans (World.grownBy_alloc w (.cells news e') v.ownBlock) h3
    refine h v' w' h2 hg (fun b hb => ?_)
    rcases h4 with h4 | h4
    · left; rw [← h4]; exact hb
    · right
      rw [h4] at hb
      injection hb with hb
      rw [← hb]
      simp
def PQ (l : List UInt8) (w0 : World) (e : Ending) (w' : World) : Prop :=
  ∃ A c, e = .returned (.tuple #[.slice A (parseP l).1.length c, .int .i64 ((parseP l).2.1 : Int), .int .i64 (parseP l).2.2]) ∧ Sl w' w'.heap.size A ((parseP l).1.flatMap dP) ∧ Below w0.heap.size w0 w'
theorem prsP_no {x : List UInt8} {r : List (List UInt8)} {i : Nat} {out : List Pk} (h : oneP x = none) : prsP (x :: r) i out = ([], i, 2) := by unfold prsP; rw [h]
theorem prsP_yes {x : List UInt8} {r : List (List UInt8)} {i : Nat} {out : List Pk} {p : Pk} (h : oneP x = some p) : prsP (x :: r) i out = prsP r (i + 1) (out ++ [p]) := by conv => lhs; unfold prsP; rw [h]
theorem oT_cases (x : List UInt8) : (oneP x = none ∧ oT x = (0, 0, false)) ∨ ∃ p, oneP x = some p ∧ oT x = (p.th, p.want, true) := by
  unfold oT
  cases oneP x with
  | none => exact .inl ⟨rfl, rfl⟩
  | some p => exact .inr ⟨p, rfl, rfl⟩
theorem allW_len (l : List UInt8) : (allW l).length ≤ l.length + 1 := Nat.le_trans (wsum_len _) (allW_sum l)
theorem words_wlen (l : List UInt8) : ∀ x ∈ words l, x.length ≤ l.length := by
  intro x hx
  have h1 := words_sum l
  have : ∀ ls : List (List UInt8), x ∈ ls → x.length + 1 ≤ wsum ls := by
    intro ls
    induction ls with
    | nil => intro h; cases h
    | cons y r ih =>
      intro h
      have e : wsum (y :: r) = y.length + 1 + wsum r := by simp [wsum]
      rcases List.mem_cons.1 h with h | h
      · subst h; omega
      · have := ih h; omega
  have := this _ hx
  omega
theorem lines_llen (l : List UInt8) : ∀ x ∈ lines l, x.length ≤ l.length := by
  intro x hx
  have h1 : wsum (lines l) ≤ 0 + l.length + 1 := rl_sum l []
  have : ∀ ls : List (List UInt8), x ∈ ls → x.length + 1 ≤ wsum ls := by
    intro ls
    induction ls with
    | nil => intro h; cases h
    | cons y r ih =>
      intro h
      have e : wsum (y :: r) = y.length + 1 + wsum r := by simp [wsum]
      rcases List.mem_cons.1 h with h | h
      · subst h; omega
      · have := ih h; omega
  have := this _ hx
  omega
theorem own_at {w : World} {base : Nat} {e : TypeId} {size : Nat} {v : Value} {n : Nat} {xs : List Value} (h : w.ownsRow base e size v n xs) :
    ∃ A c, v = .slice A n c ∧ (xs = [] ∨ ∃ g, A = some ⟨g, 0, none⟩ ∧ base ≤ g ∧ g < w.heap.size ∧ ∀ j (h : j < xs.length), w.cell? ⟨g, j, none⟩ = some xs[j]) := by
  obtain ⟨A, c, rfl, _, _, h2⟩ := own_slice h
  refine ⟨A, c, rfl, ?_⟩
  rcases h2 with h2 | ⟨b, off, rfl, hb, hc⟩
  · exact .inl h2
  · right
    have hlt := h.lt b rfl
    rcases h.2 with ⟨e, _⟩ | ⟨g, cap, cur, e, _⟩
    · cases e
    · injection e with e1 _ _
      injection e1 with e1
      injection e1 with e2 e3 _
      subst e2 e3
      exact ⟨b, rfl, hlt.1, hb, fun j hj => by have := hc j hj; rwa [Nat.zero_add] at this⟩
theorem cell_of_blk {w w' : World} {g j : Nat} (h : w'.heap[g]? = w.heap[g]?) : w'.cell? ⟨g, j, none⟩ = w.cell? ⟨g, j, none⟩ := by
  simp only [World.cell?, h]
theorem frame49 {a : Act} (h : a.tmps.size = 49) (hd : a.defers = []) : ∃ u : Nat → Value, a = { tmps := #[u 0, u 1, u 2, u 3, u 4, u 5, u 6, u 7, u 8, u 9, u 10, u 11, u 12, u 13, u 14, u 15, u 16, u 17, u 18, u 19, u 20, u 21, u 22, u 23, u 24, u 25, u 26, u 27, u 28, u 29, u 30, u 31, u 32, u 33, u 34, u 35, u 36, u 37, u 38, u 39, u 40, u 41, u 42, u 43, u 44, u 45, u 46, u 47, u 48], defers := [] } ∧ ∀ n, a.tmps.getD n undef = u n := by
  refine ⟨fun n => a.tmps.getD n undef, ?_, fun _ => rfl⟩
  have h1 := arr_lit a.tmps h
  cases a with
  | mk t d =>
    simp only at hd h1
    subst hd
    congr 1
/-- Ahead of a line. -/
def OuJ (R : List Pk × Nat × Int) (N : Nat) (lns : List (List UInt8)) (A : Option Addr) (c : Nat) (w1 : World) (a : Act) (w' : World) : Prop :=
  a.tmps.size = 49 ∧ a.defers = [] ∧ a.tmps.getD 13 undef = .slice A lns.length c ∧ a.tmps.getD 14 undef = .int .i64 (lns.length : Int) ∧ ∃ (i : Nat) (out : List Pk) (v : Value), a.tmps.getD 5 undef = v ∧ a.tmps.getD 15 undef = .int .i64 (i : Int) ∧ i ≤ lns.length ∧
    w'.ownsRow w1.heap.size 59 2 v out.length (out.flatMap dP) ∧ Below w1.heap.size w1 w' ∧ R = prsP ((lns.drop i).flatMap words) out.length out ∧ out.length + ((lns.drop i).flatMap words).length = N
/-- Ahead of a word. -/
def InJ (R : List Pk × Nat × Int) (N : Nat) (lns : List (List UInt8)) (A : Option Addr) (c : Nat) (w1 : World) (i : Nat) (ws : List (List UInt8)) (Aw : Option Addr) (cw : Nat) (T : List (List UInt8)) (S0 : List Nat) (W2 : World) (a : Act) (w' : World) : Prop :=
  a.tmps.size = 49 ∧ a.defers = [] ∧ a.tmps.getD 13 undef = .slice A lns.length c ∧ a.tmps.getD 14 undef = .int .i64 (lns.length : Int) ∧ a.tmps.getD 15 undef = .int .i64 (i : Int) ∧ a.tmps.getD 20 undef = .slice Aw ws.length cw ∧ a.tmps.getD 21 undef = .int .i64 (ws.length : Int) ∧ ∃ (j : Nat) (out : List Pk) (v : Value), a.tmps.getD 5 undef = v ∧ a.tmps.getD 22 undef = .int .i64 (j : Int) ∧ j ≤ ws.length ∧
    w'.ownsRow w1.heap.size 59 2 v out.length (out.flatMap dP) ∧ Below w1.heap.size w1 w' ∧ Mod S0 W2 w' ∧ (∀ b, v.ownBlock = some b → b ∈ S0 ∨ W2.heap.size ≤ b) ∧ R = prsP (ws.drop j ++ T) out.length out ∧ out.length + (ws.drop j ++ T).length = N
theorem flat_drop {lns : List (List UInt8)} {i : Nat} (h : i < lns.length) : (lns.drop i).flatMap words = words lns[i] ++ (lns.drop (i + 1)).flatMap words := by
  rw [List.drop_eq_getElem_cons h, List.flatMap_cons]
set_option maxRecDepth 100000 in
set_option maxHeartbeats 8000000 in
theorem parse_any (l : List UInt8) (hl : l.length ≤ 2000) (w : World) (ho : Ok w) : Calls Tryd.prog 43 #[vS l] w fun e w' => PQ l w e w' := by
  have HL := Lib.hid (lines_sl (B l) w (by rw [size_B]; omega) ho)
  have hN := allW_len l
  have hln := lines_len l
  have hA : allW l = (lines l).flatMap words := rfl
  have hP : parseP l = prsP (allW l) 0 [] := rfl
  obtain ⟨R, hR⟩ : ∃ R, parseP l = R := ⟨_, rfl⟩
  have hR' : R = prsP (((lines l).drop 0).flatMap words) ([] : List Pk).length [] := by rw [← hR, hP, hA]; rfl
  have hN' : ([] : List Pk).length + (((lines l).drop 0).flatMap words).length = (allW l).length := by rw [hA]; simp
  have hne : ∀ x ∈ lines l, ∀ y ∈ words x, y ≠ [] := fun x _ y hy => words_ne x y hy
  have HLL := Lib.hid (lines_llen l)
  rw [L_B] at HL
  unfold PQ
  rw [hR]
  have HR' := Lib.hid hR'
  have HN' := Lib.hid hN'
  generalize (allW l).length = N at *
  generalize lines l = lns at *
  clear hR' hN' hA hP hR hne
  go_enter Tryd.func43, Tryd.ntmps43
  go_wp2_with fail
  refine HL.out.mono ?_
  rintro e w1 ⟨A, c, rfl, s1, b1⟩
  have B1 := Lib.hid b1
  have S1 := Lib.hid s1
  clear s1 b1
  go_wp2_with fail
  refine wp_loop (OuJ R N lns A c w1) (fun a' _ => lns.length - (intOf (a'.tmps.getD 15 undef)).toNat) ?_ ?_
  · exact ⟨rfl, rfl, rfl, rfl, 0, [], _, rfl, rfl, Nat.zero_le _, World.ownsRow_nil _ _ _ _, Below.refl _ _, HR'.out, HN'.out⟩
  · rintro a' w' ⟨hsz, hdf, s13, s14, i, out, v, s5, s15, hi, hown, hbel, hrun, hcnt⟩
    obtain ⟨u, rfl, hu⟩ := frame49 hsz hdf
    rw [hu] at s5 s13 s14 s15
    simp only [s5, s13, s14, s15]
    clear hsz hdf s5 s13 s14 s15 hu
    by_cases hlt : i < lns.length
    · obtain ⟨b, off, rfl, hbb, hcell⟩ := sl_str (S1.out.below hbel) hlt
      have h0 := hcell i hlt
      have hlx := HLL.out lns[i] (List.getElem_mem hlt)
      have HF := Lib.hid (flat_drop hlt)
      have HW := Lib.hid (words_any (B lns[i]) w' (by rw [size_B]; omega))
      rw [L_B] at HW
      have HWN := Lib.hid (words_ne lns[i])
      have HWL := Lib.hid (words_wlen lns[i])
      have HRun := Lib.hid hrun
      have HCnt := Lib.hid hcnt
      have HO := Lib.hid hown
      have HB := Lib.hid hbel
      have i1 : (i : Int) < (lns.length : Int) := by omega
      clear hcell hrun hcnt hown hbel
      rw [HF.out] at HRun HCnt
      generalize words lns[i] = ws at *
      generalize lns[i] = x at *
      obtain ⟨T, hT⟩ : ∃ T, (lns.drop (i + 1)).flatMap words = T := ⟨_, rfl⟩
      rw [hT] at HRun HCnt
      have HTT := Lib.hid hT
      clear hT HF
      have hwl : ws.length ≤ 2001 := by
        have := HCnt.out
        rw [List.length_append] at this
        omega
      go_wp2_with fail
      refine HW.out.mono ?_
      rintro e W2 ⟨vw, rfl, ow, b2⟩
      obtain ⟨Aw, cw, rfl, hww⟩ := own_at ow
      have HWW := Lib.hid hww
      have hown2 := own_below HO.out (Nat.le_refl _) b2
      have hB2 := HB.out.trans (b2.mono HB.out.size)
      have hlow := Lib.hid (show ∀ b, v.ownBlock = some b → b < w'.heap.size from fun b hb => (HO.out.lt b hb).2)
      have hsz2 := b2.size
      clear ow b2 hww
      go_wp2_with fail
      refine wp_loop (InJ R N lns (some ⟨b, off, none⟩) c w1 i ws Aw cw T v.ownBlock.toList W2) (fun a' _ => ws.length - (intOf (a'.tmps.getD 22 undef)).toNat) ?_ ?_
      · exact ⟨rfl, rfl, rfl, rfl, rfl, rfl, rfl, 0, out, v, rfl, rfl, Nat.zero_le _, hown2, hB2, Mod.refl _ _, fun b hb => .inl (by rw [hb]; simp), HRun.out, HCnt.out⟩
      · rintro a'' W' ⟨hsz, hdf, s13, s14, s15, s20, s21, j, out2, v2, s5, s22, hj, hown3, hB3, hmod, hvb, hrun3, hcnt3⟩
        obtain ⟨u, rfl, hu⟩ := frame49 hsz hdf
        rw [hu] at s5 s13 s14 s15 s20 s21 s22
        simp only [s5, s13, s14, s15, s20, s21, s22]
        clear hsz hdf s5 s13 s14 s15 s20 s21 s22 hu
        have HR3 := Lib.hid hrun3
        have HC3 := Lib.hid hcnt3
        have HM3 := Lib.hid hmod
        have HV3 := Lib.hid hvb
        have HB3 := Lib.hid hB3
        have HO3 := Lib.hid hown3
        have hwq := hB3.size
        clear hrun3 hcnt3 hmod hvb hB3
        obtain ⟨V2, cv, rfl, _, _, hs2⟩ := own_slice hown3
        clear hown3
        by_cases hlt2 : j < ws.length
        · obtain ⟨gw, rfl, hg1, hg2, hgc⟩ := HWW.out.resolve_left (fun e => by simp at e; subst e; simp at hlt2)
          have hnin : gw ∉ v.ownBlock.toList := fun e => by
            have : v.ownBlock = some gw := by simpa using e
            have := hlow.out gw this
            omega
          have k0 : W'.cell? ⟨gw, j, none⟩ = some (vS ws[j]) := (cell_of_blk (HM3.out.block gw hg2 hnin)).trans (by
            have := hgc j (by simpa using hlt2)
            rw [this, List.getElem_map])
          have hx0 := HWN.out ws[j] (List.getElem_mem hlt2)
          have hxl := HWL.out ws[j] (List.getElem_mem hlt2)
          have HOne := Lib.hid (one_any ws[j] hx0 (by omega) W')
          have HD := Lib.hid (List.drop_eq_getElem_cons hlt2)
          have hot := oT_cases ws[j]
          have i2 : (j : Int) < (ws.length : Int) := by omega
          have hN2 : out2.length + 1 ≤ N := by
            have := HC3.out
            rw [List.length_append, List.length_drop] at this
            omega
          rw [HD.out] at HR3 HC3
          generalize ws[j] = y at *
          clear hgc
          rcases hot with ⟨ho1, ho2⟩ | ⟨p, ho1, ho2⟩
          · have HE := Lib.hid (show R = ([], out2.length, 2) by rw [HR3.out]; exact prsP_no ho1)
            rw [ho2] at HOne
            clear ho1 ho2
            go_wp2_with fail
            refine HOne.out.mono ?_
            rintro e w3 ⟨rfl, b3⟩
            have HB4 := Lib.hid (B1.out.trans ((HB3.out.trans (b3.mono HB3.out.size)).mono B1.out.size))
            clear b3
            go_wp2_with fail
            go_ret3
            refine ⟨none, 0, by rw [HE.out]; rfl, by rw [HE.out]; exact Sl.nil _ _ _, ?_⟩
            exact HB4.out.alloc HB4.out.size _
          · have HE := Lib.hid (show R = prsP (ws.drop (j + 1) ++ T) (out2 ++ [p]).length (out2 ++ [p]) by
              rw [HR3.out, List.length_append]; exact prsP_yes ho1)
            have HCE := Lib.hid (show (out2 ++ [p]).length + (ws.drop (j + 1) ++ T).length = N by
              have := HC3.out
              rw [List.cons_append, List.length_cons] at this
              rw [List.length_append, List.length_cons, List.length_nil]
              omega)
            rw [ho2] at HOne
            have q4 : ((out2.length : Int) == 4000) = false := ibeq_no (by omega)
            clear ho1 ho2
            go_wp2_with fail
            refine HOne.out.mono ?_
            rintro e w3 ⟨rfl, b3⟩
            have hown4 := (own_below HO3.out (Nat.le_refl _) b3).alloc (.cells #[.int .i64 p.th, .int .i64 p.want] 59)
            have HM4 := Lib.hid ((HM3.out.trans (Mod.of_below b3)).alloc (.cells #[.int .i64 p.th, .int .i64 p.want] 59))
            have hB4 := (HB3.out.trans (b3.mono HB3.out.size)).alloc (Nat.le_trans hwq b3.size) (.cells #[.int .i64 p.th, .int .i64 p.want] 59)
            have HB4 := Lib.hid hB4
            have hwq4 := hB4.size
            clear b3 hB4
            go_wp2_with (at_builtin; refine append1_at (.tmp 42) (.tmp 44) 49 59 _ 2 16 rfl rfl Tryd.underlying49 infoP rfl (by decide) w1.heap.size _ _ _ _ _ _ _ _ hown4 rfl rfl ?cga rfl ?d1a ?d2a ?d3a ?d4a ?cka; case' cka => intro v' w5 hown5 hg5 hn5)
            case cga => first | rfl | simp
            case d1a => simp [Value.oneCell']
            case d2a => simp only [maxLen]; omega
            case d3a => omega
            try (case d4a => exact hwq4)
            go_wp2_with fail
            go_roundw
            case rel => exact ⟨rfl, rfl, rfl, rfl, rfl, rfl, rfl, j + 1, out2 ++ [p], v', rfl, by go_num, by omega, by simpa [dP] using hown5.out, HB4.out.trans ((Below.refl _ _).grown hg5.out hwq4 (fun k hk => (hown4.lt k hk).1)), HM4.out.of_grown hg5.out (fun k hk => (HV3.out k hk).symm), fun b hb => (hn5.out b hb).elim (fun h => HV3.out b h) (fun h => .inr (Nat.le_trans HM4.out.size h)), HE.out, HCE.out⟩
            case measure => simp [intOf]; omega
        · obtain rfl : j = ws.length := by omega
          have HE := Lib.hid (show R = prsP T out2.length out2 by rw [HR3.out, List.drop_length]; rfl)
          have HCE := Lib.hid (show out2.length + T.length = N by have := HC3.out; rw [List.drop_length] at this; exact this)
          go_wp2_with fail
          go_roundw
          case rel => exact ⟨rfl, rfl, rfl, rfl, i + 1, out2, _, rfl, by go_num, by omega, HO3.out, HB3.out, by rw [HTT.out]; exact HE.out, by rw [HTT.out]; exact HCE.out⟩
          case measure => simp [intOf]; omega
    · obtain rfl : i = lns.length := by omega
      have HE := Lib.hid (show R = (out, 0, 0) by rw [hrun, List.drop_length]; rfl)
      obtain ⟨A2, c2, rfl, _, _, hs2⟩ := own_slice hown
      have HB2 := Lib.hid (B1.out.trans (hbel.mono B1.out.size))
      clear hrun hcnt
      go_wp2_with fail
      go_ret3
      exact ⟨A2, c2, by rw [HE.out]; rfl, by rw [HE.out]; exact hs2, HB2.out⟩
end Go.Proofs.YtcfdphfochfeoaaDoor.Pi
