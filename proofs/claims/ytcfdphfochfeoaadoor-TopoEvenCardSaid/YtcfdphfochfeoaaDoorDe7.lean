/- Walks of numbers' texts: Numbers of the program and of the reference. -/
import Derived.Test.YtcfdphfochfeoaaDoorDe6
namespace Go.Proofs.YtcfdphfochfeoaaDoor.De
open Go.RowKit Go.Proofs.YtcfdphfochfeoaaDoor.Li Go.Proofs.YtcfdphfochfeoaaDoor.Ara

theorem cut_le (c : UInt8) (l : List UInt8) : ∀ cur, ∀ x ∈ cut c cur l, x.length ≤ cur.length + l.length := by
  induction l with
  | nil => intro cur x hx; simp [cut] at hx; subst hx; simp
  | cons b t ih =>
    intro cur x hx
    unfold cut at hx
    split at hx
    · rcases List.mem_cons.1 hx with h | h
      · subst h; simp
      · have := ih [] x h; simp at this ⊢; omega
    · have := ih (cur ++ [b]) x hx; simp at this ⊢; omega
theorem cut_cnt (c : UInt8) (l : List UInt8) : ∀ cur, (cut c cur l).length ≤ l.length + 1 := by
  induction l with
  | nil => intro cur; simp [cut]
  | cons b t ih =>
    intro cur
    unfold cut
    split
    · have := ih []; simp; omega
    · have := ih (cur ++ [b]); simp; omega
/-- What Numbers tells. -/
def nl (l : List UInt8) : List Int × Int := match nums l with
  | some ns => (ns, 0)
  | none => ([], 2)
def NQ (l : List UInt8) (w0 : World) (e : Ending) (w' : World) : Prop :=
  ∃ v, e = .returned (.tuple #[v, .int .i64 (nl l).2]) ∧ w'.ownsRow w0.heap.size 3 1 v (nl l).1.length ((nl l).1.map (Value.int .i64)) ∧ Below w0.heap.size w0 w'
theorem nl_ok {l : List UInt8} (h0 : l ≠ []) {ns : List Int} (h : numsL (cut 44 [] l) = some ns) : nl l = (ns, 0) := by unfold nl nums; rw [if_neg h0, h]
theorem nl_no {l : List UInt8} (h0 : l ≠ []) (h : numsL (cut 44 [] l) = none) : nl l = ([], 2) := by unfold nl nums; rw [if_neg h0, h]
theorem numsL_cons (x : List UInt8) (r : List (List UInt8)) : numsL (x :: r) = match prs x with | none => none | some n => (numsL r).map (n :: ·) := rfl
theorem map_app (o : Option (List Int)) (out : List Int) (n : Int) : (o.map (n :: ·)).map (out ++ ·) = o.map ((out ++ [n]) ++ ·) := by
  cases o with
  | none => rfl
  | some t => simp
theorem infoI : (Tryd.prog.info? 3).map (fun i => (i.zero, i.size, i.bytes)) = some (some (.int .i64 0), 1, 8) := by kernel_rfl
theorem frame32 {a : Act} (h : a.tmps.size = 32) (hd : a.defers = []) : ∃ u : Nat → Value, a = { tmps := #[u 0, u 1, u 2, u 3, u 4, u 5, u 6, u 7, u 8, u 9, u 10, u 11, u 12, u 13, u 14, u 15, u 16, u 17, u 18, u 19, u 20, u 21, u 22, u 23, u 24, u 25, u 26, u 27, u 28, u 29, u 30, u 31], defers := [] } ∧ ∀ n, a.tmps.getD n undef = u n := by
  refine ⟨fun n => a.tmps.getD n undef, ?_, fun _ => rfl⟩
  have h1 := arr_lit a.tmps h
  cases a with
  | mk t d =>
    simp only at hd h1
    subst hd
    congr 1
def NbJ (ps : List (List UInt8)) (g : Nat) (w1 : World) (a : Act) (w' : World) : Prop :=
  a.tmps.size = 32 ∧ a.defers = [] ∧ a.tmps.getD 12 undef = .slice (some ⟨g, 0, none⟩) ps.length ps.length ∧ a.tmps.getD 13 undef = .int .i64 (ps.length : Int) ∧ ∃ (k : Nat) (out : List Int) (v : Value), a.tmps.getD 4 undef = v ∧ a.tmps.getD 14 undef = .int .i64 (k : Int) ∧ k ≤ ps.length ∧ out.length = k ∧
    w'.ownsRow w1.heap.size 3 1 v k (out.map (Value.int .i64)) ∧ Below w1.heap.size w1 w' ∧ numsL ps = (numsL (ps.drop k)).map (out ++ ·)
set_option maxRecDepth 100000 in
set_option maxHeartbeats 2000000 in
theorem numbers_any (l : List UInt8) (hl : l.length ≤ 4000) (w : World) (ho : Ok w) : Calls Tryd.prog 35 #[vS l] w fun e w' => NQ l w e w' := by
  by_cases h0 : l = []
  · subst h0
    go_enter Tryd.func35, Tryd.ntmps35
    go_wp2_with fail
    go_ret2
    exact ⟨_, rfl, World.ownsRow_nil _ _ _ _, Below.refl _ _⟩
  · obtain ⟨m, hm⟩ := ho
    have HS := Lib.hid (split_any l 44 w (by omega) m hm)
    have HOK := Lib.hid (fun ns h => nl_ok h0 (ns := ns) h)
    have HNO := Lib.hid (fun h => nl_no h0 h)
    have qe : l.isEmpty = false := by cases l with
      | nil => exact absurd rfl h0
      | cons _ _ => rfl
    have hcnt := cut_cnt 44 l []
    have HLE := Lib.hid (cut_le 44 l [])
    generalize cut 44 [] l = ps at *
    clear h0
    go_enter Tryd.func35, Tryd.ntmps35
    go_wp2_with fail
    refine HS.out.mono ?_
    rintro e w1 ⟨rfl, hw1⟩
    have hsz1 : w1.heap.size = w.heap.size + 1 := by rw [hw1]; simp
    have hblk : w1.heap[w.heap.size]? = some (.cells ((ps.map vS).toArray) 9 (0, 0)) := by rw [hw1]; exact blk_new _ _
    have hB0 : Below w.heap.size w w1 := by rw [hw1]; exact below_new _ _
    have HB0 := Lib.hid hB0
    have HBLK := Lib.hid hblk
    clear hw1 hblk hB0
    go_wp2_with fail
    refine wp_loop (NbJ ps w.heap.size w1) (fun a' _ => ps.length - (intOf (a'.tmps.getD 14 undef)).toNat) ?_ ?_
    · exact ⟨rfl, rfl, rfl, rfl, 0, [], _, rfl, rfl, Nat.zero_le _, rfl, World.ownsRow_nil _ _ _ _, Below.refl _ _, by rw [List.drop_zero]; cases numsL ps <;> rfl⟩
    · rintro a' w' ⟨hsz, hdf, s12, s13, k, out, v, s4, s14, hk, hol, hown, hbel, hnum⟩
      obtain ⟨u, rfl, hu⟩ := frame32 hsz hdf
      rw [hu] at s4 s12 s13 s14
      simp only [s4, s12, s13, s14]
      clear hsz hdf s4 s12 s13 s14 hu
      have HN := Lib.hid hnum
      have HB := Lib.hid hbel
      have HO := Lib.hid hown
      have HW := Lib.hid (show Below w.heap.size w w' from HB0.out.trans (hbel.mono (by omega)))
      by_cases hlt : k < ps.length
      · have h0 : w'.cell? ⟨w.heap.size, k, none⟩ = some (vS ps[k]) := (hbel.cell (p := ⟨w.heap.size, k, none⟩) (by show w.heap.size < w1.heap.size; omega)).trans (by
          rw [blk_cell HBLK.out k (by simpa using hlt)]; simp)
        have HD := Lib.hid (List.drop_eq_getElem_cons hlt)
        have HP := Lib.hid (parse_any ps[k] (by have := HLE.out ps[k] (List.getElem_mem hlt); simp at this; omega))
        have i1 : (k : Int) < (ps.length : Int) := by omega
        have hdr := pr_ok ps[k]
        clear hnum hbel hown
        generalize ps[k] = x at *
        rcases hdr with ⟨n, h1, h2⟩ | ⟨h1, h2⟩
        · have HN2 := Lib.hid (show numsL ps = (numsL (ps.drop (k + 1))).map ((out ++ [n]) ++ ·) by
            rw [HN.out, HD.out, numsL_cons, h1]; exact map_app _ _ _)
          rw [h2] at HP
          clear h1 h2 HD
          have hown1 := HO.out
          have hwq := HB.out.size
          go_wp2_with fail
          refine (HP.out _).mono ?_
          rintro e wx ⟨rfl, hwx⟩
          obtain rfl := hwx.symm
          go_wp2_with (at_builtin; refine wpList_append1 (.tmp 26) (.tmp 28) 41 3 _ 1 8 rfl rfl Tryd.underlying41 infoI rfl (by decide) w1.heap.size _ _ _ _ _ _ _ _ hown1 rfl rfl ?cge rfl ?d1e ?d2e ?d3e ?d4e ?cke; case' cke => intro v' w2 hown2 hb2 _)
          case cge => first | rfl | simp
          case d1e => simp [Value.oneCell']
          case d2e => simp only [maxLen]; omega
          case d3e => omega
          case d4e => omega
          go_wp2_with fail
          go_roundw
          case rel => exact ⟨rfl, rfl, rfl, rfl, k + 1, out ++ [n], v', rfl, by go_num, by omega, by simp [hol], by simpa using hown2, HB.out.trans hb2, HN2.out⟩
          case measure => simp [intOf]; omega
        · have HN2 := Lib.hid (HNO.out (show numsL ps = none by rw [HN.out, HD.out, numsL_cons, h1]; rfl))
          rw [h2] at HP
          clear h1 h2 HD
          go_wp2_with fail
          refine (HP.out _).mono ?_
          rintro e wx ⟨rfl, hwx⟩
          obtain rfl := hwx.symm
          go_wp2_with fail
          go_ret2
          exact ⟨.slice none 0 0, by rw [HN2.out]; rfl, by rw [HN2.out]; exact World.ownsRow_nil _ _ _ _, HW.out⟩
      · obtain rfl : k = ps.length := by omega
        have HN2 := Lib.hid (HOK.out out (by rw [HN.out, List.drop_length]; simp [numsL]))
        clear hnum hbel hown
        go_wp2_with fail
        go_ret2
        exact ⟨v, by rw [HN2.out]; rfl, by rw [HN2.out, hol]; exact own_base HO.out (by omega), HW.out⟩
theorem frame46 {a : Act} (h : a.tmps.size = 46) (hd : a.defers = []) : ∃ u : Nat → Value, a = { tmps := #[u 0, u 1, u 2, u 3, u 4, u 5, u 6, u 7, u 8, u 9, u 10, u 11, u 12, u 13, u 14, u 15, u 16, u 17, u 18, u 19, u 20, u 21, u 22, u 23, u 24, u 25, u 26, u 27, u 28, u 29, u 30, u 31, u 32, u 33, u 34, u 35, u 36, u 37, u 38, u 39, u 40, u 41, u 42, u 43, u 44, u 45], defers := [] } ∧ ∀ n, a.tmps.getD n undef = u n := by
  refine ⟨fun n => a.tmps.getD n undef, ?_, fun _ => rfl⟩
  have h1 := arr_lit a.tmps h
  cases a with
  | mk t d =>
    simp only at hd h1
    subst hd
    congr 1
def RnJ (l : List UInt8) (w0 : World) (a : Act) (w' : World) : Prop :=
  a.tmps.size = 46 ∧ a.defers = [] ∧ a.tmps.getD 0 undef = vS l ∧ ∃ (k f : Nat) (out : List Int) (v : Value), a.tmps.getD 4 undef = v ∧ a.tmps.getD 5 undef = .int .i64 (f : Int) ∧ a.tmps.getD 6 undef = .int .i64 (k : Int) ∧ k ≤ l.length + 1 ∧ out.length ≤ k ∧
    w'.ownsRow w0.heap.size 3 1 v out.length (out.map (Value.int .i64)) ∧ Below w0.heap.size w0 w' ∧
    (k ≤ l.length → f ≤ k ∧ numsL (cut 44 [] l) = (numsL (cut 44 ((l.drop f).take (k - f)) (l.drop k))).map (out ++ ·)) ∧ (k = l.length + 1 → numsL (cut 44 [] l) = some out)
set_option maxRecDepth 100000 in
set_option maxHeartbeats 2000000 in
theorem rnumbers_any (l : List UInt8) (hl : l.length ≤ 4000) (w : World) : Calls Tryd.prog 36 #[vS l] w fun e w' => NQ l w e w' := by
  by_cases h0 : l = []
  · subst h0
    go_enter Tryd.func36, Tryd.ntmps36
    go_wp2_with fail
    go_ret2
    exact ⟨_, rfl, World.ownsRow_nil _ _ _ _, Below.refl _ _⟩
  · have HOK := Lib.hid (fun ns h => nl_ok h0 (ns := ns) h)
    have HNO := Lib.hid (fun h => nl_no h0 h)
    have qe : l.isEmpty = false := by cases l with
      | nil => exact absurd rfl h0
      | cons _ _ => rfl
    have hsB := size_B l
    clear h0
    go_enter Tryd.func36, Tryd.ntmps36
    go_wp2_with fail
    refine wp_loop (RnJ l w) (fun a' _ => l.length + 1 - (intOf (a'.tmps.getD 6 undef)).toNat) ?_ ?_
    · exact ⟨rfl, rfl, rfl, 0, 0, [], _, rfl, rfl, rfl, Nat.zero_le _, Nat.le_refl _, World.ownsRow_nil _ _ _ _, Below.refl _ _, fun _ => ⟨Nat.le_refl _, by
        show numsL (cut 44 [] l) = (numsL (cut 44 [] l)).map _
        cases numsL (cut 44 [] l) <;> rfl⟩, fun h => by omega⟩
    · rintro a' w' ⟨hsz, hdf, s0, k, f, out, v, s4, s5, s6, hk, hol, hown, hbel, hinv, hend⟩
      obtain ⟨u, rfl, hu⟩ := frame46 hsz hdf
      rw [hu] at s0 s4 s5 s6
      simp only [s0, s4, s5, s6]
      clear hsz hdf s0 s4 s5 s6 hu
      by_cases hle : k ≤ l.length
      · obtain ⟨hf, hinv⟩ := hinv hle
        have i1 : (k : Int) ≤ (l.length : Int) := by omega
        by_cases hlt : k < l.length
        · have i3 : (k : Int) < (l.length : Int) := by omega
          have hix : ∀ W, (Instr.index 9 (vS l) (.int .i64 (k : Int))).run Tryd.prog W = .ok (.int .u8 ((l.getD k 0).toNat : Int)) W := fun W => ix_str (B l) k (by rw [hsB]; exact hlt) W
          have HD := Lib.hid (drop_cons l k hlt)
          have HC := Lib.hid (show (l.drop f).take (k + 1 - f) = (l.drop f).take (k - f) ++ [l.getD k 0] by
            have hl2 : k - f < (l.drop f).length := by rw [List.length_drop]; omega
            rw [show k + 1 - f = (k - f) + 1 by omega, List.take_succ_eq_append_getElem hl2, List.getElem_drop, getD_at hlt]
            congr 3
            omega)
          by_cases he : l.getD k 0 = 44
          · have q : (((l.getD k 0).toNat : Int) != 44) = false := ibne_no (by rw [he]; rfl)
            have HINV := Lib.hid (show numsL (cut 44 [] l) = (numsL ((l.drop f).take (k - f) :: cut 44 [] (l.drop (k + 1)))).map (out ++ ·) by
              rw [hinv, HD.out, cut, if_pos he])
            have HFAIL := Lib.hid (show prs ((l.drop f).take (k - f)) = none → numsL (cut 44 [] l) = none by
              intro h; rw [HINV.out, numsL_cons, h]; rfl)
            have HGO := Lib.hid (show ∀ n, prs ((l.drop f).take (k - f)) = some n → (k + 1 ≤ l.length → k + 1 ≤ k + 1 ∧ numsL (cut 44 [] l) = (numsL (cut 44 ((l.drop (k + 1)).take (k + 1 - (k + 1))) (l.drop (k + 1)))).map ((out ++ [n]) ++ ·)) ∧ (k + 1 = l.length + 1 → numsL (cut 44 [] l) = some (out ++ [n])) by
              intro n h
              refine ⟨fun _ => ⟨Nat.le_refl _, ?_⟩, fun h => by omega⟩
              rw [HINV.out, numsL_cons, h, Nat.sub_self, List.take_zero]
              exact map_app _ _ _)
            generalize l.getD k 0 = c at *
            clear he HD HC HINV
            have HP := Lib.hid (rparse_any ((l.drop f).take (k - f)) (by rw [List.length_take, List.length_drop]; omega))
            have hdr := pr_ok ((l.drop f).take (k - f))
            have hex := Lib.hid (show (B l).extract f k = B ((l.drop f).take (k - f)) from ext_B (B l) f k)
            have i2 : (f : Int) ≤ (k : Int) := by omega
            generalize hx : (l.drop f).take (k - f) = x at *
            clear hx
            rcases hdr with ⟨n, h1, h2⟩ | ⟨h1, h2⟩
            · have HN2 := Lib.hid (HGO.out n h1)
              rw [h2] at HP
              clear h1 h2 hinv hend
              have hown1 := hown
              have hwq := hbel.size
              have HB := Lib.hid hbel
              clear hbel hown
              go_wp2_with fail
              rw [hex.out]
              refine (HP.out _).mono ?_
              rintro e wx ⟨rfl, hwx⟩
              obtain rfl := hwx.symm
              go_wp2_with (at_builtin; refine wpList_append1 (.tmp 39) (.tmp 41) 41 3 _ 1 8 rfl rfl Tryd.underlying41 infoI rfl (by decide) w.heap.size _ _ _ _ _ _ _ _ hown1 rfl rfl ?cge rfl ?d1e ?d2e ?d3e ?d4e ?cke; case' cke => intro v' w2 hown2 hb2 _)
              case cge => first | rfl | simp
              case d1e => simp [Value.oneCell']
              case d2e => simp only [maxLen]; omega
              case d3e => omega
              case d4e => omega
              go_wp2_with fail
              go_roundw
              case rel => exact ⟨rfl, rfl, rfl, k + 1, k + 1, out ++ [n], v', rfl, by go_num, by go_num, by omega, by simp; omega, by simpa using hown2, HB.out.trans hb2, HN2.out.1, HN2.out.2⟩
              case measure => simp [intOf]; omega
            · have HN2 := Lib.hid (HNO.out (HFAIL.out h1))
              rw [h2] at HP
              clear h1 h2 hinv hend
              go_wp2_with fail
              rw [hex.out]
              refine (HP.out _).mono ?_
              rintro e wx ⟨rfl, hwx⟩
              obtain rfl := hwx.symm
              go_wp2_with fail
              go_ret2
              exact ⟨.slice none 0 0, by rw [HN2.out]; rfl, by rw [HN2.out]; exact World.ownsRow_nil _ _ _ _, hbel⟩
          · have q : (((l.getD k 0).toNat : Int) != 44) = true := ibne (fun e => he (UInt8.toNat_inj.1 (by have : (44 : UInt8).toNat = 44 := rfl; omega)))
            have HINV := Lib.hid (show numsL (cut 44 [] l) = (numsL (cut 44 ((l.drop f).take (k + 1 - f)) (l.drop (k + 1)))).map (out ++ ·) by
              rw [hinv, HD.out, cut, if_neg he, HC.out])
            generalize l.getD k 0 = c at *
            clear he HD HC hinv hend
            go_wp2_with fail
            go_roundw
            case rel => exact ⟨rfl, rfl, rfl, k + 1, f, out, v, rfl, rfl, by go_num, by omega, by omega, hown, hbel, fun _ => ⟨by omega, HINV.out⟩, fun h => by omega⟩
            case measure => simp [intOf]; omega
        · have HINV := Lib.hid (show numsL (cut 44 [] l) = (numsL [(l.drop f).take (k - f)]).map (out ++ ·) by
            rw [hinv, show l.drop k = [] from List.drop_eq_nil_of_le (by omega)]; rfl)
          have HFAIL := Lib.hid (show prs ((l.drop f).take (k - f)) = none → numsL (cut 44 [] l) = none by
            intro h; rw [HINV.out, numsL_cons, h]; rfl)
          have HGO := Lib.hid (show ∀ n, prs ((l.drop f).take (k - f)) = some n → (k + 1 ≤ l.length → k + 1 ≤ k + 1 ∧ numsL (cut 44 [] l) = (numsL (cut 44 ((l.drop (k + 1)).take (k + 1 - (k + 1))) (l.drop (k + 1)))).map ((out ++ [n]) ++ ·)) ∧ (k + 1 = l.length + 1 → numsL (cut 44 [] l) = some (out ++ [n])) by
            intro n h
            refine ⟨fun h => by omega, fun _ => ?_⟩
            rw [HINV.out, numsL_cons, h]
            rfl)
          have i3 : ¬ (k : Int) < (l.length : Int) := by omega
          clear HINV
          have HP := Lib.hid (rparse_any ((l.drop f).take (k - f)) (by rw [List.length_take, List.length_drop]; omega))
          have hdr := pr_ok ((l.drop f).take (k - f))
          have hex := Lib.hid (show (B l).extract f k = B ((l.drop f).take (k - f)) from ext_B (B l) f k)
          have i2 : (f : Int) ≤ (k : Int) := by omega
          generalize hx : (l.drop f).take (k - f) = x at *
          clear hx
          rcases hdr with ⟨n, h1, h2⟩ | ⟨h1, h2⟩
          · have HN2 := Lib.hid (HGO.out n h1)
            rw [h2] at HP
            clear h1 h2 hinv hend
            have hown1 := hown
            have hwq := hbel.size
            have HB := Lib.hid hbel
            clear hbel hown
            go_wp2_with fail
            rw [hex.out]
            refine (HP.out _).mono ?_
            rintro e wx ⟨rfl, hwx⟩
            obtain rfl := hwx.symm
            go_wp2_with (at_builtin; refine wpList_append1 (.tmp 39) (.tmp 41) 41 3 _ 1 8 rfl rfl Tryd.underlying41 infoI rfl (by decide) w.heap.size _ _ _ _ _ _ _ _ hown1 rfl rfl ?cgx rfl ?d1x ?d2x ?d3x ?d4x ?ckx; case' ckx => intro v' w2 hown2 hb2 _)
            case cgx => first | rfl | simp
            case d1x => simp [Value.oneCell']
            case d2x => simp only [maxLen]; omega
            case d3x => omega
            case d4x => omega
            go_wp2_with fail
            go_roundw
            case rel => exact ⟨rfl, rfl, rfl, k + 1, k + 1, out ++ [n], v', rfl, by go_num, by go_num, by omega, by simp; omega, by simpa using hown2, HB.out.trans hb2, HN2.out.1, HN2.out.2⟩
            case measure => simp [intOf]; omega
          · have HN2 := Lib.hid (HNO.out (HFAIL.out h1))
            rw [h2] at HP
            clear h1 h2 hinv hend
            go_wp2_with fail
            rw [hex.out]
            refine (HP.out _).mono ?_
            rintro e wx ⟨rfl, hwx⟩
            obtain rfl := hwx.symm
            go_wp2_with fail
            go_ret2
            exact ⟨.slice none 0 0, by rw [HN2.out]; rfl, by rw [HN2.out]; exact World.ownsRow_nil _ _ _ _, hbel⟩
      · have HN2 := Lib.hid (HOK.out out (hend (by omega)))
        have i1 : ¬ (k : Int) ≤ (l.length : Int) := by omega
        clear hinv hend
        go_wp2_with fail
        go_ret2
        exact ⟨v, by rw [HN2.out]; rfl, by rw [HN2.out]; exact hown, hbel⟩
end Go.Proofs.YtcfdphfochfeoaaDoor.De
