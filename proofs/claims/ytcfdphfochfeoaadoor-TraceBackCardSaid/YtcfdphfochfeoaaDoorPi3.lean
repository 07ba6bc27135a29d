/- Walks of picks: one word; a pick for each byte. -/
import Derived.Test.YtcfdphfochfeoaaDoorPi2
namespace Go.Proofs.YtcfdphfochfeoaaDoor.Pi
open Go.RowKit Go.Proofs.YtcfdphfochfeoaaDoor.Li Go.Proofs.YtcfdphfochfeoaaDoor.De Go.Proofs.YtcfdphfochfeoaaDoor.Ara

def oT (w : List UInt8) : Int × Int × Bool := match oneP w with
  | some p => (p.th, p.want, true)
  | none => (0, 0, false)
set_option maxRecDepth 100000 in
set_option maxHeartbeats 2000000 in
theorem one_any (x : List UInt8) (hx : x ≠ []) (hl : x.length ≤ 4000) (w : World) : Calls Tryd.prog 91 #[vS x] w fun e w' => e = .returned (.tuple #[.agg #[.int .i64 (oT x).1, .int .i64 (oT x).2.1], .bool (oT x).2.2]) ∧ Below w.heap.size w w' := by
  have hsB := size_B x
  have hpos : 0 < x.length := List.length_pos_iff.2 hx
  obtain ⟨T1, T2, T3⟩ := one_take hx
  have HT := Lib.hid (take_any x (by omega))
  have hxi := ix_str (B x) (x.length - 1) (by rw [hsB]; omega)
  rw [L_B] at hxi
  have HW := Lib.hid (want_any (x.getD (x.length - 1) 0))
  have hle := tk_le x (min x.length 20)
  change (take x).2 ≤ _ at hle
  unfold oT
  generalize take x = p at *
  obtain ⟨n, k⟩ := p
  simp only at T1 T2 T3 hle HT
  by_cases h0 : k = 0
  · rw [T1 h0]
    subst h0
    clear T1 T2 T3 hxi
    go_enter Tryd.func91, Tryd.ntmps91
    go_wp2_with fail
    refine (HT.out _).mono ?_
    rintro e wx ⟨rfl, hwx⟩
    obtain rfl := hwx.symm
    go_wp2_with fail
    (try simp only [Exit.inBlock, Exit.then])
    refine bodyPost_ret (v := .tuple #[.agg #[.int .i64 0, .int .i64 0], .bool false]) ?_ rfl ⟨?_, ?_⟩
    · rw [results_cell_tmp rfl]
      go_simp
    · rfl
    · repeat' (first | exact Below.refl _ _ | refine Below.setCell ?_ (Nat.le_refl _) _ | refine Below.alloc ?_ (by simp) _)
  · have q0 : ((k : Int) == 0) = false := ibeq_no (by omega)
    by_cases h1 : k = x.length - 1
    · have HE := Lib.hid (T3 h0 h1)
      have hk1 : (x.length : Int) - 1 = (k : Int) := by omega
      have q1 : ((k : Int) != (k : Int)) = false := ibne_no rfl
      rw [← h1] at hxi HW HE
      clear T1 T2 T3 hle h1
      generalize x.getD k 0 = c at *
      cases hwc : wantOf c with
      | none =>
        have hv : wv c = 0 ∧ wb c = false := by unfold wv wb; rw [hwc]; exact ⟨rfl, rfl⟩
        rw [hv.1, hv.2] at HW
        have HE := HE.out
        rw [hwc] at HE
        rw [HE]
        clear hv hwc HE
        go_enter Tryd.func91, Tryd.ntmps91
        go_wp2_with fail
        refine (HT.out _).mono ?_
        rintro e wx ⟨rfl, hwx⟩
        obtain rfl := hwx.symm
        go_wp2_with fail
        refine (HW.out _).mono ?_
        rintro e w2 ⟨rfl, b2⟩
        have hblk : w2.heap[w.heap.size]? = some (.cells #[.int .i64 0, .int .i64 0] 59 (0, 0)) := (b2.block w.heap.size (by simp)).trans (blk_new _ _)
        have e0 := blk_cell hblk 0 (by simp)
        have e1 := blk_cell hblk 1 (by simp)
        have f0 := blk_free hblk 0
        have f1 := blk_free hblk 1
        simp only [List.getElem_toArray, List.getElem_cons_zero, List.getElem_cons_succ] at e0 e1
        have HB := Lib.hid (nx (below_new w _) b2)
        clear hblk b2
        go_wp2_with fail
        (try simp only [Exit.inBlock, Exit.then])
        refine bodyPost_ret (v := .tuple #[.agg #[.int .i64 0, .int .i64 0], .bool false]) ?_ rfl ⟨?_, ?_⟩
        · rw [results_cell_tmp rfl]
          go_simp
        · rfl
        · exact (HB.out.setCell (p := ⟨w.heap.size, 0, none⟩) (Nat.le_refl _) _).setCell (p := ⟨w.heap.size, 1, none⟩) (Nat.le_refl _) _
      | some j =>
        have hv : wv c = (j : Int) ∧ wb c = true := by unfold wv wb; rw [hwc]; exact ⟨rfl, rfl⟩
        rw [hv.1, hv.2] at HW
        have HE := HE.out
        rw [hwc] at HE
        rw [HE]
        clear hv hwc HE
        go_enter Tryd.func91, Tryd.ntmps91
        go_wp2_with fail
        refine (HT.out _).mono ?_
        rintro e wx ⟨rfl, hwx⟩
        obtain rfl := hwx.symm
        go_wp2_with fail
        refine (HW.out _).mono ?_
        rintro e w2 ⟨rfl, b2⟩
        have hblk : w2.heap[w.heap.size]? = some (.cells #[.int .i64 0, .int .i64 0] 59 (0, 0)) := (b2.block w.heap.size (by simp)).trans (blk_new _ _)
        have e0 := blk_cell hblk 0 (by simp)
        have e1 := blk_cell hblk 1 (by simp)
        have f0 := blk_free hblk 0
        have f1 := blk_free hblk 1
        simp only [List.getElem_toArray, List.getElem_cons_zero, List.getElem_cons_succ] at e0 e1
        have HB := Lib.hid (nx (below_new w _) b2)
        clear hblk b2
        go_wp2_with fail
        (try simp only [Exit.inBlock, Exit.then])
        refine bodyPost_ret (v := .tuple #[.agg #[.int .i64 n, .int .i64 (j : Int)], .bool true]) ?_ rfl ⟨?_, ?_⟩
        · rw [results_cell_tmp rfl]
          go_simp
        · rfl
        · exact (HB.out.setCell (p := ⟨w.heap.size, 0, none⟩) (Nat.le_refl _) _).setCell (p := ⟨w.heap.size, 1, none⟩) (Nat.le_refl _) _
    · rw [T2 h1]
      have q1 : ((k : Int) != (x.length : Int) - 1) = true := ibne (by omega)
      clear T1 T2 T3 hxi hle h1
      go_enter Tryd.func91, Tryd.ntmps91
      go_wp2_with fail
      refine (HT.out _).mono ?_
      rintro e wx ⟨rfl, hwx⟩
      obtain rfl := hwx.symm
      go_wp2_with fail
      (try simp only [Exit.inBlock, Exit.then])
      refine bodyPost_ret (v := .tuple #[.agg #[.int .i64 0, .int .i64 0], .bool false]) ?_ rfl ⟨?_, ?_⟩
      · rw [results_cell_tmp rfl]
        go_simp
      · rfl
      · repeat' (first | exact Below.refl _ _ | refine Below.setCell ?_ (Nat.le_refl _) _ | refine Below.alloc ?_ (by simp) _)

/-! a pick for each byte -/
def decP (c : UInt8) : Pk := ⟨((c.toNat / 8 : Nat) : Int), if c.toNat % 8 ≤ 4 then ((c.toNat % 8 : Nat) : Int) else 0⟩
theorem frame36 {a : Act} (h : a.tmps.size = 36) (hd : a.defers = []) : ∃ u : Nat → Value, a = { tmps := #[u 0, u 1, u 2, u 3, u 4, u 5, u 6, u 7, u 8, u 9, u 10, u 11, u 12, u 13, u 14, u 15, u 16, u 17, u 18, u 19, u 20, u 21, u 22, u 23, u 24, u 25, u 26, u 27, u 28, u 29, u 30, u 31, u 32, u 33, u 34, u 35], defers := [] } ∧ ∀ n, a.tmps.getD n undef = u n := by
  refine ⟨fun n => a.tmps.getD n undef, ?_, fun _ => rfl⟩
  have h1 := arr_lit a.tmps h
  cases a with
  | mk t d =>
    simp only at hd h1
    subst hd
    congr 1
def RdJ (l : List UInt8) (w0 : World) (a : Act) (w' : World) : Prop :=
  a.tmps.size = 36 ∧ a.defers = [] ∧ a.tmps.getD 0 undef = vS l ∧ ∃ (k : Nat) (v : Value), a.tmps.getD 3 undef = v ∧ a.tmps.getD 4 undef = .int .i64 (k : Int) ∧ k ≤ l.length ∧
    w'.ownsRow w0.heap.size 59 2 v k (((l.take k).map decP).flatMap dP) ∧ Below w0.heap.size w0 w'
set_option maxRecDepth 100000 in
set_option maxHeartbeats 2000000 in
theorem rdecode_any (l : List UInt8) (hl : l.length ≤ 1000) (w : World) : Calls Tryd.prog 50 #[vS l] w fun e w' => ∃ A c, e = .returned (.slice A (l.map decP).length c) ∧ Sl w' w'.heap.size A ((l.map decP).flatMap dP) ∧ Below w.heap.size w w' := by
  have hsB := size_B l
  go_enter Tryd.func50, Tryd.ntmps50
  go_wp2_with fail
  refine wp_loop (RdJ l w) (fun a' _ => l.length - (intOf (a'.tmps.getD 4 undef)).toNat) ?_ ?_
  · exact ⟨rfl, rfl, rfl, 0, _, rfl, rfl, Nat.zero_le _, World.ownsRow_nil _ _ _ _, Below.refl _ _⟩
  · rintro a' w' ⟨hsz, hdf, s0, k, v, s3, s4, hk, hown, hbel⟩
    obtain ⟨u, rfl, hu⟩ := frame36 hsz hdf
    rw [hu] at s0 s3 s4
    simp only [s0, s3, s4]
    clear hsz hdf s0 s3 s4 hu
    by_cases hlt : k < l.length
    · have hix : ∀ W, (Instr.index 9 (vS l) (.int .i64 (k : Int))).run Tryd.prog W = .ok (.int .u8 ((l.getD k 0).toNat : Int)) W := fun W => ix_str (B l) k (by rw [hsB]; exact hlt) W
      have HK := Lib.hid (show ((l.take (k + 1)).map decP).flatMap dP = ((l.take k).map decP).flatMap dP ++ dP (decP (l.getD k 0)) by
        rw [List.take_succ_eq_append_getElem hlt, List.map_append, List.flatMap_append, getD_at hlt]; simp)
      have i1 : (k : Int) < (l.length : Int) := by omega
      have i2 : (k : Int) < 4000 := by omega
      have HB := Lib.hid hbel
      have hwq := hbel.size
      have hc := (l.getD k 0).toNat_lt
      have HD := Lib.hid (show dP (decP (l.getD k 0)) = [.int .i64 (((l.getD k 0).toNat / 8 : Nat) : Int), .int .i64 (if (l.getD k 0).toNat % 8 ≤ 4 then (((l.getD k 0).toNat % 8 : Nat) : Int) else 0)] from rfl)
      clear hbel
      generalize (l.getD k 0).toNat = n at *
      have hq : (n : Int).tdiv 8 = ((n / 8 : Nat) : Int) := by simp [Int.ofNat_tdiv]
      have hq2 : (n : Int) / 8 = ((n / 8 : Nat) : Int) := by omega
      have hr : (n : Int) - ((n / 8 : Nat) : Int) * 8 = ((n % 8 : Nat) : Int) := by omega
      have hr8 : n % 8 < 8 := Nat.mod_lt _ (by omega)
      have hq8 : n / 8 ≤ 31 := by omega
      have j0 : (0 : Int) ≤ ((n / 8 : Nat) : Int) := by omega
      have j1 : ((n / 8 : Nat) : Int) ≤ 31 := by omega
      have j2 : (0 : Int) ≤ (n : Int) := by omega
      have j3 : (n : Int) ≤ 255 := by omega
      generalize n / 8 = Q at *
      generalize n % 8 = R at *
      by_cases h4 : R ≤ 4
      · have i3 : ¬ 4 < (R : Int) := by omega
        rw [if_pos h4] at HD
        go_wp2_with (at_builtin; refine wpList_append1 (.tmp 28) (.tmp 33) 49 59 _ 2 16 rfl rfl Tryd.underlying49 infoP rfl (by decide) w.heap.size _ _ _ _ _ _ _ _ hown rfl rfl ?cga rfl ?d1a ?d2a ?d3a ?d4a ?cka; case' cka => intro v' w2 hown2 hb2 _)
        case cga => first | rfl | simp
        case d1a => simp [Value.oneCell']
        case d2a => simp only [maxLen]; omega
        case d3a => omega
        try (case d4a => omega)
        go_wp2_with fail
        go_roundw
        case rel => exact ⟨rfl, rfl, rfl, k + 1, v', rfl, by go_num, by omega, by rw [HK.out, HD.out]; simpa using hown2, HB.out.trans hb2⟩
        case measure => simp [intOf]; omega
      · have i3 : 4 < (R : Int) := by omega
        rw [if_neg h4] at HD
        go_wp2_with (at_builtin; refine wpList_append1 (.tmp 28) (.tmp 33) 49 59 _ 2 16 rfl rfl Tryd.underlying49 infoP rfl (by decide) w.heap.size _ _ _ _ _ _ _ _ hown rfl rfl ?cgb rfl ?d1b ?d2b ?d3b ?d4b ?ckb; case' ckb => intro v' w2 hown2 hb2 _)
        case cgb => first | rfl | simp
        case d1b => simp [Value.oneCell']
        case d2b => simp only [maxLen]; omega
        case d3b => omega
        try (case d4b => omega)
        go_wp2_with fail
        go_roundw
        case rel => exact ⟨rfl, rfl, rfl, k + 1, v', rfl, by go_num, by omega, by rw [HK.out, HD.out]; simpa using hown2, HB.out.trans hb2⟩
        case measure => simp [intOf]; omega
    · obtain rfl : k = l.length := by omega
      rw [List.take_length] at hown
      obtain ⟨A2, c2, rfl, _, _, hs2⟩ := own_slice hown
      go_wp2_with fail
      go_ret
      exact ⟨A2, c2, by rw [List.length_map]; rfl, hs2, hbel⟩

theorem frame33 {a : Act} (h : a.tmps.size = 33) (hd : a.defers = []) : ∃ u : Nat → Value, a = { tmps := #[u 0, u 1, u 2, u 3, u 4, u 5, u 6, u 7, u 8, u 9, u 10, u 11, u 12, u 13, u 14, u 15, u 16, u 17, u 18, u 19, u 20, u 21, u 22, u 23, u 24, u 25, u 26, u 27, u 28, u 29, u 30, u 31, u 32], defers := [] } ∧ ∀ n, a.tmps.getD n undef = u n := by
  refine ⟨fun n => a.tmps.getD n undef, ?_, fun _ => rfl⟩
  have h1 := arr_lit a.tmps h
  cases a with
  | mk t d =>
    simp only at hd h1
    subst hd
    congr 1
def PdJ (l : List UInt8) (w0 : World) (a : Act) (w' : World) : Prop :=
  a.tmps.size = 33 ∧ a.defers = [] ∧ a.tmps.getD 0 undef = vS l ∧ a.tmps.getD 8 undef = .int .i64 (l.length : Int) ∧ ∃ (k : Nat) (v : Value), a.tmps.getD 3 undef = v ∧ a.tmps.getD 9 undef = .int .i64 (k : Int) ∧ k ≤ l.length ∧
    w'.ownsRow w0.heap.size 59 2 v k (((l.take k).map decP).flatMap dP) ∧ Below w0.heap.size w0 w'
set_option maxRecDepth 100000 in
set_option maxHeartbeats 2000000 in
theorem decode_any (l : List UInt8) (hl : l.length ≤ 1000) (w : World) : Calls Tryd.prog 49 #[vS l] w fun e w' => ∃ A c, e = .returned (.slice A (l.map decP).length c) ∧ Sl w' w'.heap.size A ((l.map decP).flatMap dP) ∧ Below w.heap.size w w' := by
  have hsB := size_B l
  have hmin : min (l.length : Int) 4000 = (l.length : Int) := by omega
  have i0 : (l.length : Int) ≤ 4000 := by omega
  go_enter Tryd.func49, Tryd.ntmps49
  go_wp2_with fail
  refine wp_loop (PdJ l w) (fun a' _ => l.length - (intOf (a'.tmps.getD 9 undef)).toNat) ?_ ?_
  · exact ⟨rfl, rfl, rfl, rfl, 0, _, rfl, rfl, Nat.zero_le _, World.ownsRow_nil _ _ _ _, Below.refl _ _⟩
  · rintro a' w' ⟨hsz, hdf, s0, s8, k, v, s3, s9, hk, hown, hbel⟩
    obtain ⟨u, rfl, hu⟩ := frame33 hsz hdf
    rw [hu] at s0 s3 s8 s9
    simp only [s0, s3, s8, s9]
    clear hsz hdf s0 s3 s8 s9 hu
    by_cases hlt : k < l.length
    · have hix : ∀ W, (Instr.index 9 (vS l) (.int .i64 (k : Int))).run Tryd.prog W = .ok (.int .u8 ((l.getD k 0).toNat : Int)) W := fun W => ix_str (B l) k (by rw [hsB]; exact hlt) W
      have HK := Lib.hid (show ((l.take (k + 1)).map decP).flatMap dP = ((l.take k).map decP).flatMap dP ++ dP (decP (l.getD k 0)) by
        rw [List.take_succ_eq_append_getElem hlt, List.map_append, List.flatMap_append, getD_at hlt]; simp)
      have i1 : (k : Int) < (l.length : Int) := by omega
      have HB := Lib.hid hbel
      have hwq := hbel.size
      have hc := (l.getD k 0).toNat_lt
      have HD := Lib.hid (show dP (decP (l.getD k 0)) = [.int .i64 (((l.getD k 0).toNat / 8 : Nat) : Int), .int .i64 (if (l.getD k 0).toNat % 8 ≤ 4 then (((l.getD k 0).toNat % 8 : Nat) : Int) else 0)] from rfl)
      have HO := Lib.hid hown
      clear hbel hown
      generalize (l.getD k 0).toNat = n at *
      have hq : (n : Int).tdiv 8 = ((n / 8 : Nat) : Int) := by simp [Int.ofNat_tdiv]
      have hq2 : (n : Int) / 8 = ((n / 8 : Nat) : Int) := by omega
      have hr : (n : Int).tmod 8 = ((n % 8 : Nat) : Int) := by rw [Int.tmod_eq_emod_of_nonneg (by omega)]; omega
      have hwn := IntWalk.i64_in (n : Int) (by omega)
      have hwQ := IntWalk.i64_in ((n / 8 : Nat) : Int) (by omega)
      have hr2 : (n : Int) % 8 = ((n % 8 : Nat) : Int) := by omega
      have hr8 : n % 8 < 8 := Nat.mod_lt _ (by omega)
      have hq8 : n / 8 ≤ 31 := by omega
      have j0 : (0 : Int) ≤ ((n / 8 : Nat) : Int) := by omega
      have j1 : ((n / 8 : Nat) : Int) ≤ 31 := by omega
      have j2 : (0 : Int) ≤ (n : Int) := by omega
      have j3 : (n : Int) ≤ 255 := by omega
      generalize n / 8 = Q at *
      generalize n % 8 = R at *
      go_wp2_with fail
      refine wp_region_held_drew (S := fun _ => True) (by kernel_rfl) trivial (fun hHeld => ?_)
      refine take_to 0 (some 12) (v := ?_) rfl rfl (by kernel_rfl) (by kernel_rfl) (by kernel_rfl) (fun _ _ _ h => h) (Or.inl ⟨by rfl, ?_⟩) (by first | trivial | assumption) ?_
      rotate_left
      focus (intro w hSw; (try dsimp only at hSw); go_simp; (try with_reducible rfl))
      simp only [Act.put, List.setIfInBounds_toArray, List.set_cons_zero, List.set_cons_succ]
      refine take_to 1 (some 13) (v := ?_) rfl rfl (by kernel_rfl) (by kernel_rfl) (by kernel_rfl) (fun _ _ _ h => h) (Or.inl ⟨by rfl, ?_⟩) (by first | trivial | assumption) ?_
      rotate_left
      focus (intro w hSw; (try dsimp only at hSw); go_simp; (try with_reducible rfl))
      simp only [Act.put, List.setIfInBounds_toArray, List.set_cons_zero, List.set_cons_succ]
      refine take_to 2 (some 14) (v := ?_) rfl rfl (by kernel_rfl) (by kernel_rfl) (by kernel_rfl) (fun _ _ _ h => h) (Or.inl ⟨by rfl, ?_⟩) (by first | trivial | assumption) ?_
      rotate_left
      focus (intro w hSw; (try dsimp only at hSw); go_simp; (try with_reducible rfl))
      simp only [Act.put, List.setIfInBounds_toArray, List.set_cons_zero, List.set_cons_succ]
      refine take_to 3 (some 15) (v := ?_) rfl rfl (by kernel_rfl) (by kernel_rfl) (by kernel_rfl) (fun _ _ _ h => h) (Or.inl ⟨by rfl, ?_⟩) (by first | trivial | assumption) ?_
      rotate_left
      focus (intro w hSw; (try dsimp only at hSw); go_simp; (try with_reducible rfl))
      simp only [Act.put, List.setIfInBounds_toArray, List.set_cons_zero, List.set_cons_succ]
      refine take_to 4 (some 16) (v := ?_) rfl rfl (by kernel_rfl) (by kernel_rfl) (by kernel_rfl) (fun _ _ _ h => h) (Or.inl ⟨by rfl, ?_⟩) (by first | trivial | assumption) ?_
      rotate_left
      focus (intro w hSw; (try dsimp only at hSw); go_simp; (try with_reducible rfl))
      simp only [Act.put, List.setIfInBounds_toArray, List.set_cons_zero, List.set_cons_succ]
      refine take_to 5 (some 17) (v := ?_) rfl rfl (by kernel_rfl) (by kernel_rfl) (by kernel_rfl) (fun _ _ _ h => h) (Or.inl ⟨by rfl, ?_⟩) (by first | trivial | assumption) ?_
      rotate_left
      focus (intro w hSw; (try dsimp only at hSw); go_simp; (try with_reducible rfl))
      simp only [Act.put, List.setIfInBounds_toArray, List.set_cons_zero, List.set_cons_succ]
      refine take_to 6 (some 18) (v := ?_) rfl rfl (by kernel_rfl) (by kernel_rfl) (by kernel_rfl) (fun _ _ _ h => h) (Or.inl ⟨by rfl, ?_⟩) (by first | trivial | assumption) ?_
      rotate_left
      focus (intro w hSw; (try dsimp only at hSw); go_simp; (try with_reducible rfl))
      simp only [Act.put, List.setIfInBounds_toArray, List.set_cons_zero, List.set_cons_succ]
      refine take_to 7 (some 19) (v := ?_) rfl rfl (by kernel_rfl) (by kernel_rfl) (by kernel_rfl) (fun _ _ _ h => h) (Or.inl ⟨by rfl, ?_⟩) (by first | trivial | assumption) ?_
      rotate_left
      focus (intro w hSw; (try dsimp only at hSw); go_simp; (try with_reducible rfl))
      simp only [Act.put, List.setIfInBounds_toArray, List.set_cons_zero, List.set_cons_succ]
      refine take_to 8 (some 20) (v := ?_) rfl rfl (by kernel_rfl) (by kernel_rfl) (by kernel_rfl) (fun _ _ _ h => h) (Or.inl ⟨by rfl, ?_⟩) (by first | trivial | assumption) ?_
      rotate_left
      focus (intro w hSw; (try dsimp only at hSw); go_simp; (try with_reducible rfl))
      simp only [Act.put, List.setIfInBounds_toArray, List.set_cons_zero, List.set_cons_succ]
      refine take_to 9 (some 21) (v := ?_) rfl rfl (by kernel_rfl) (by kernel_rfl) (by kernel_rfl) (fun _ _ _ h => h) (Or.inl ⟨by rfl, ?_⟩) (by first | trivial | assumption) ?_
      rotate_left
      focus (intro w hSw; (try dsimp only at hSw); go_simp; (try with_reducible rfl))
      simp only [Act.put, List.setIfInBounds_toArray, List.set_cons_zero, List.set_cons_succ]
      refine take_to 10 (some 22) (v := ?_) rfl rfl (by kernel_rfl) (by kernel_rfl) (by kernel_rfl) (fun _ _ _ h => h) (Or.inl ⟨by rfl, ?_⟩) (by first | trivial | assumption) ?_
      rotate_left
      focus (intro w hSw; (try dsimp only at hSw); go_simp; (try with_reducible rfl))
      simp only [Act.put, List.setIfInBounds_toArray, List.set_cons_zero, List.set_cons_succ]
      refine wpAnyH_ready (rs := [11]) (by kernel_rfl) (by simp) ?_
      refine AllReadyH.cons rfl (fun K hK => ?_) AllReadyH.nil
      go_simp
      refine hK.out _ _ trivial (fun hHeld => ?_)
      refine wpAnyH_ready (rs := [12]) (by kernel_rfl) (by simp) ?_
      refine AllReadyH.cons rfl (fun K hK => ?_) AllReadyH.nil
      go_simp
      refine hK.out _ _ trivial (fun hHeld => ?_)
      refine wpAnyH_done (by kernel_rfl) ?_ _
      have hblk : ((w'.alloc (.cells #[.int .i64 (Q : Int), .int .i64 (R : Int)] 59)).drew).heap[w'.heap.size]? = some (.cells #[.int .i64 (Q : Int), .int .i64 (R : Int)] 59 (0, 0)) := blk_new w' _
      have c0 := blk_cell hblk 0 (by simp)
      have c1 := blk_cell hblk 1 (by simp)
      have f1 := blk_free hblk 1
      simp only [List.getElem_toArray, List.getElem_cons_zero, List.getElem_cons_succ] at c0 c1
      have hown : ((w'.alloc (.cells #[.int .i64 (Q : Int), .int .i64 (R : Int)] 59)).drew).ownsRow w.heap.size 59 2 v k (((l.take k).map decP).flatMap dP) := HO.out.alloc _
      have hb1 : Below w.heap.size w ((w'.alloc (.cells #[.int .i64 (Q : Int), .int .i64 (R : Int)] 59)).drew) := Below.drew (HB.out.alloc HB.out.size _)
      have hn : ∀ b, v.ownBlock = some b → b ≠ w'.heap.size := fun b hb e => by
        have := (HO.out.lt b hb).2
        omega
      have HN := Lib.hid hn
      have hsz := hb1.size
      clear hblk hHeld hn
      generalize (w'.alloc (.cells #[.int .i64 (Q : Int), .int .i64 (R : Int)] 59)).drew = W1 at *
      generalize w'.heap.size = g at *
      by_cases h4 : R ≤ 4
      · have i3 : ¬ 5 ≤ (R : Int) := by omega
        rw [if_pos h4] at HD
        have HB1 := Lib.hid hb1
        clear hb1
        go_wp2_with (at_builtin; refine wpList_append1 (.tmp 27) (.tmp 29) 49 59 _ 2 16 rfl rfl Tryd.underlying49 infoP rfl (by decide) w.heap.size _ _ _ _ _ _ _ _ hown rfl rfl ?cga rfl ?d1a ?d2a ?d3a ?d4a ?cka; case' cka => intro v' w2 hown2 hb2 _)
        case cga => first | rfl | simp
        case d1a => simp [Value.oneCell']
        case d2a => simp only [maxLen]; omega
        case d3a => omega
        try (case d4a => omega)
        go_wp2_with fail
        go_roundw
        case rel => exact ⟨rfl, rfl, rfl, rfl, k + 1, v', rfl, by go_num, by omega, by rw [HK.out, HD.out]; simpa using hown2, HB1.out.trans hb2⟩
        case measure => simp [intOf]; omega
      · have i3 : 5 ≤ (R : Int) := by omega
        rw [if_neg h4] at HD
        have hown := own_set hown (p := ⟨g, 1, none⟩) (fun b hb => HN.out b hb) (.int .i64 0)
        have HB1 := Lib.hid (hb1.setCell (p := ⟨g, 1, none⟩) hwq (.int .i64 0))
        have hsz2 : w.heap.size ≤ (W1.setCell ⟨g, 1, none⟩ (.int .i64 0)).heap.size := HB1.out.size
        clear hb1
        go_wp2_with (at_builtin; refine wpList_append1 (.tmp 27) (.tmp 29) 49 59 _ 2 16 rfl rfl Tryd.underlying49 infoP rfl (by decide) w.heap.size _ _ _ _ _ _ _ _ hown rfl rfl ?cgb rfl ?d1b ?d2b ?d3b ?d4b ?ckb; case' ckb => intro v' w2 hown2 hb2 _)
        case cgb => first | rfl | simp
        case d1b => simp [Value.oneCell']
        case d2b => simp only [maxLen]; omega
        case d3b => omega
        try (case d4b => omega)
        go_wp2_with fail
        go_roundw
        case rel => exact ⟨rfl, rfl, rfl, rfl, k + 1, v', rfl, by go_num, by omega, by rw [HK.out, HD.out]; simpa using hown2, HB1.out.trans hb2⟩
        case measure => simp [intOf]; omega
    · obtain rfl : k = l.length := by omega
      rw [List.take_length] at hown
      obtain ⟨A2, c2, rfl, _, _, hs2⟩ := own_slice hown
      go_wp2_with fail
      go_ret
      exact ⟨A2, c2, by rw [List.length_map]; rfl, hs2, hbel⟩
end Go.Proofs.YtcfdphfochfeoaaDoor.Pi
