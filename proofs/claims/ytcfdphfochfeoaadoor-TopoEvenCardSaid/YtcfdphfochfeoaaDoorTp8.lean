/- Walks of layer 6: Leaves and Depth, of the program and of the reference. -/
import Derived.Test.YtcfdphfochfeoaaDoorTp5
namespace Go.Proofs.YtcfdphfochfeoaaDoor.Tp
open Go.RowKit Go.Proofs.YtcfdphfochfeoaaDoor.Li Go.Proofs.YtcfdphfochfeoaaDoor.De Go.Proofs.YtcfdphfochfeoaaDoor.Ara

theorem lvT_no {p t : List Int} (h : chk p t ≠ 0) : lvT p t = [] := by unfold lvT; rw [if_neg h]
theorem lvT_ok {p t : List Int} (h : chk p t = 0) : lvT p t = lvs p := by unfold lvT; rw [if_pos h]
theorem dpT_no {p t : List Int} (h : chk p t ≠ 0) : dpT p t = 0 := by unfold dpT; rw [if_neg h]
theorem dpT_ok {p t : List Int} (h : chk p t = 0) : dpT p t = dep p (t.getD 0 0) := by unfold dpT; rw [if_pos h]
theorem chk_len {p t : List Int} (h : chk p t = 0) : 0 < p.length ∧ p.length ≤ 32 ∧ 0 < t.length ∧ t.length ≤ 32 := by
  have := (chk_ok h).1
  unfold manyP at this
  omega
set_option maxRecDepth 100000 in
theorem tleaves_any (p t : List Int) (A B : Option Addr) (c d : Nat) (w : World) (hp : p.length ≤ 100000) (htl : t.length ≤ 100000) (hs : Sl w w.heap.size A (p.flatMap decI)) (ht : Sl w w.heap.size B (t.flatMap decI)) :
    Calls Tryd.prog 65 #[(.agg #[.slice A p.length c, .slice B t.length d])] w fun e w' => ∃ E k, e = .returned (.slice E (lvT p t).length k) ∧ Sl w' w'.heap.size E ((lvT p t).flatMap decI) ∧ Below w.heap.size w w' := by
  by_cases h : chk p t = 0
  · have HN := Lib.hid (lvT_ok h)
    obtain ⟨l1, l2, _, _⟩ := chk_len h
    have HL := Lib.hid (fun W hW => leaves_sl p A c W (by omega) (chk_ok h).2.1 hW)
    have q := ibne_no h
    rw [HN.out]
    clear h
    have HS := Lib.hid hs
    have HT := Lib.hid ht
    have HCK := Lib.hid (fun W h1 h2 => check_any p t A B c d W hp htl h1 h2)
    clear hs ht
    generalize chk p t = r at *
    go_enter Tryd.func65, Tryd.ntmps65
    go_upto_region 1 with fail
    have HX := Lib.hid (Bx.made w (.slice A p.length c) (.slice B t.length d) 75)
    generalize w.alloc (.cells #[.slice A p.length c, .slice B t.length d] 75) = W0 at *
    have c0 := HX.out.2.2.1
    have c1 := HX.out.2.2.2
    have SP := Lib.hid (HX.out.sl HS.out)
    have ST := Lib.hid (HX.out.sl HT.out)
    go_wp2_with fail
    refine (HCK.out _ SP.out ST.out).mono ?_
    rintro e W1 ⟨rfl, b1⟩
    have HX1 := Lib.hid (HX.out.step b1)
    clear c0 c1 SP ST HX b1 HCK
    have c0 := HX1.out.2.2.1
    have c1 := HX1.out.2.2.2
    have hL := HL.out _ (HX1.out.sl HS.out)
    have HLX := Lib.hid hL
    clear hL
    go_wp2_with fail
    refine HLX.out.mono ?_
    rintro e W2 ⟨E, k, rfl, s2, b2⟩
    have HB2 := Lib.hid (nx HX1.out.1 b2)
    have S2 := Lib.hid s2
    clear s2 b2
    go_wp2_with fail
    go_ret
    first | exact ⟨E, ⟨k, rfl⟩, S2.out, HB2.out⟩ | exact ⟨E, k, rfl, S2.out, HB2.out⟩
  · have HN := Lib.hid (lvT_no h)
    have q := ibne h
    rw [HN.out]
    clear h
    have HS := Lib.hid hs
    have HT := Lib.hid ht
    have HCK := Lib.hid (fun W h1 h2 => check_any p t A B c d W hp htl h1 h2)
    clear hs ht
    generalize chk p t = r at *
    go_enter Tryd.func65, Tryd.ntmps65
    go_upto_region 1 with fail
    have HX := Lib.hid (Bx.made w (.slice A p.length c) (.slice B t.length d) 75)
    generalize w.alloc (.cells #[.slice A p.length c, .slice B t.length d] 75) = W0 at *
    have c0 := HX.out.2.2.1
    have c1 := HX.out.2.2.2
    have SP := Lib.hid (HX.out.sl HS.out)
    have ST := Lib.hid (HX.out.sl HT.out)
    go_wp2_with fail
    refine (HCK.out _ SP.out ST.out).mono ?_
    rintro e W1 ⟨rfl, b1⟩
    have HX1 := Lib.hid (HX.out.step b1)
    clear c0 c1 SP ST HX b1 HCK
    have c0 := HX1.out.2.2.1
    have c1 := HX1.out.2.2.2
    go_wp2_with fail
    go_ret
    first | exact ⟨none, ⟨0, rfl⟩, Sl.nil _ _ _, HX1.out.1⟩ | exact ⟨none, 0, rfl, Sl.nil _ _ _, HX1.out.1⟩
theorem frame25 {a : Act} (h : a.tmps.size = 25) (hd : a.defers = []) : ∃ u : Nat → Value, a = { tmps := #[u 0, u 1, u 2, u 3, u 4, u 5, u 6, u 7, u 8, u 9, u 10, u 11, u 12, u 13, u 14, u 15, u 16, u 17, u 18, u 19, u 20, u 21, u 22, u 23, u 24], defers := [] } ∧ ∀ n, a.tmps.getD n undef = u n := by
  refine ⟨fun n => a.tmps.getD n undef, ?_, fun _ => rfl⟩
  have h1 := arr_lit a.tmps h
  cases a with
  | mk t d =>
    simp only at hd h1
    subst hd
    congr 1
def RlJ (p : List Int) (x y : Value) (w w1 : World) (a : Act) (w' : World) : Prop :=
  a.tmps.size = 25 ∧ a.defers = [] ∧ a.tmps.getD 1 undef = .pointer (some ⟨w.heap.size, 0, none⟩) ∧ ∃ (k : Nat) (v : Value), a.tmps.getD 3 undef = v ∧ a.tmps.getD 4 undef = .int .i64 (k : Int) ∧ k ≤ p.length ∧
    w'.ownsRow w1.heap.size 3 1 v (lvK p k).length ((lvK p k).map (Value.int .i64)) ∧ Below w1.heap.size w1 w'
set_option maxRecDepth 100000 in
set_option maxHeartbeats 4000000 in
theorem rleaves_any (p t : List Int) (A B : Option Addr) (c d : Nat) (w : World) (hp : p.length ≤ 100000) (htl : t.length ≤ 100000) (hs : Sl w w.heap.size A (p.flatMap decI)) (ht : Sl w w.heap.size B (t.flatMap decI)) :
    Calls Tryd.prog 66 #[(.agg #[.slice A p.length c, .slice B t.length d])] w fun e w' => ∃ E k, e = .returned (.slice E (lvT p t).length k) ∧ Sl w' w'.heap.size E ((lvT p t).flatMap decI) ∧ Below w.heap.size w w' := by
  by_cases h : chk p t = 0
  · have HN := Lib.hid (lvT_ok h)
    obtain ⟨l1, l2, _, _⟩ := chk_len h
    have HLF := Lib.hid (fun v W hW => leaf_any p A c v W (by omega) hW)
    have q := ibne_no h
    rw [HN.out]
    clear h
    have HS := Lib.hid hs
    have HT := Lib.hid ht
    have HCK := Lib.hid (fun W h1 h2 => rcheck_any p t A B c d W hp htl h1 h2)
    clear hs ht
    generalize chk p t = r at *
    go_enter Tryd.func66, Tryd.ntmps66
    go_upto_region 1 with fail
    have HX := Lib.hid (Bx.made w (.slice A p.length c) (.slice B t.length d) 75)
    generalize w.alloc (.cells #[.slice A p.length c, .slice B t.length d] 75) = W0 at *
    have c0 := HX.out.2.2.1
    have c1 := HX.out.2.2.2
    have SP := Lib.hid (HX.out.sl HS.out)
    have ST := Lib.hid (HX.out.sl HT.out)
    go_wp2_with fail
    refine (HCK.out _ SP.out ST.out).mono ?_
    rintro e W1 ⟨rfl, b1⟩
    have HX1 := Lib.hid (HX.out.step b1)
    clear c0 c1 SP ST HX b1 HCK
    have c0 := HX1.out.2.2.1
    have c1 := HX1.out.2.2.2
    go_wp2_with fail
    refine wp_loop (RlJ p (.slice A p.length c) (.slice B t.length d) w W1) (fun a' _ => p.length - (intOf (a'.tmps.getD 4 undef)).toNat) ?_ ?_
    · exact ⟨rfl, rfl, rfl, 0, _, rfl, rfl, Nat.zero_le _, World.ownsRow_nil _ _ _ _, Below.refl _ _⟩
    · rintro a' w' ⟨hsz, hdf, s1, k, v, s3, s4, hk, hown, hbel⟩
      obtain ⟨u, rfl, hu⟩ := frame25 hsz hdf
      rw [hu] at s1 s3 s4
      simp only [s1, s3, s4]
      clear hsz hdf s1 s3 s4 hu
      have HXW := Lib.hid (HX1.out.step hbel)
      have HB := Lib.hid hbel
      have hwq := hbel.size
      clear hbel c0 c1
      have c0 := HXW.out.2.2.1
      have hll := lvK_len p k
      by_cases hlt : k < p.length
      · have i1 : (k : Int) < (p.length : Int) := by omega
        have HK := Lib.hid (lvK_succ p k)
        have hL := HLF.out (k : Int) w' (HXW.out.sl HS.out)
        by_cases hin : (k : Int) ∈ p
        · have hd : decide (leafP p (k : Int)) = false := decide_eq_false (fun h => h.2.2 hin)
          rw [hd] at hL
          rw [if_pos hin] at HK
          have HL := Lib.hid hL
          have HO := Lib.hid hown
          clear hd hL hin hown
          go_wp2_with fail
          refine (HL.out).mono ?_
          rintro e wx ⟨rfl, hwx⟩
          obtain rfl := hwx.symm
          go_wp2_with fail
          go_roundw
          case rel => exact ⟨rfl, rfl, rfl, k + 1, v, rfl, by go_num, by omega, by rw [HK.out]; exact HO.out, HB.out⟩
          case measure => simp [intOf]; omega
        · have hd : decide (leafP p (k : Int)) = true := decide_eq_true ⟨by omega, by omega, hin⟩
          rw [hd] at hL
          rw [if_neg hin] at HK
          have HL := Lib.hid hL
          have hown1 := hown
          clear hd hL hin hown
          go_wp2_with fail
          refine (HL.out).mono ?_
          rintro e wx ⟨rfl, hwx⟩
          obtain rfl := hwx.symm
          go_wp2_with (at_builtin; refine wpList_append1 (.tmp 20) (.tmp 22) 41 3 _ 1 8 rfl rfl Tryd.underlying41 infoI rfl (by decide) W1.heap.size _ _ _ _ _ _ _ _ hown1 rfl rfl ?cgL rfl ?d1L ?d2L ?d3L ?d4L ?ckL; case' ckL => intro v' w2 hown2 hb2 _)
          case cgL => first | rfl | simp
          case d1L => simp [Value.oneCell']
          case d2L => simp only [maxLen]; omega
          case d3L => omega
          case d4L => omega
          go_wp2_with fail
          go_roundw
          case rel => exact ⟨rfl, rfl, rfl, k + 1, v', rfl, by go_num, by omega, by rw [HK.out]; simpa using hown2, HB.out.trans hb2⟩
          case measure => simp [intOf]; omega
      · obtain rfl : k = p.length := by omega
        have i1 : ¬ (p.length : Int) < (p.length : Int) := by omega
        obtain ⟨A2, c2, rfl, _, _, hs2⟩ := own_slice hown
        have HS2 := Lib.hid hs2
        clear hown hs2
        go_wp2_with fail
        go_ret
        first | exact ⟨A2, ⟨c2, rfl⟩, by rw [Ara.flatI]; exact HS2.out, HXW.out.1⟩ | exact ⟨A2, c2, rfl, by rw [Ara.flatI]; exact HS2.out, HXW.out.1⟩
  · have HN := Lib.hid (lvT_no h)
    have q := ibne h
    rw [HN.out]
    clear h
    have HS := Lib.hid hs
    have HT := Lib.hid ht
    have HCK := Lib.hid (fun W h1 h2 => rcheck_any p t A B c d W hp htl h1 h2)
    clear hs ht
    generalize chk p t = r at *
    go_enter Tryd.func66, Tryd.ntmps66
    go_upto_region 1 with fail
    have HX := Lib.hid (Bx.made w (.slice A p.length c) (.slice B t.length d) 75)
    generalize w.alloc (.cells #[.slice A p.length c, .slice B t.length d] 75) = W0 at *
    have c0 := HX.out.2.2.1
    have c1 := HX.out.2.2.2
    have SP := Lib.hid (HX.out.sl HS.out)
    have ST := Lib.hid (HX.out.sl HT.out)
    go_wp2_with fail
    refine (HCK.out _ SP.out ST.out).mono ?_
    rintro e W1 ⟨rfl, b1⟩
    have HX1 := Lib.hid (HX.out.step b1)
    clear c0 c1 SP ST HX b1 HCK
    have c0 := HX1.out.2.2.1
    have c1 := HX1.out.2.2.2
    go_wp2_with fail
    go_ret
    first | exact ⟨none, ⟨0, rfl⟩, Sl.nil _ _ _, HX1.out.1⟩ | exact ⟨none, 0, rfl, Sl.nil _ _ _, HX1.out.1⟩
set_option maxRecDepth 100000 in
theorem rdepth_any (p t : List Int) (A B : Option Addr) (c d : Nat) (w : World) (hp : p.length ≤ 100000) (htl : t.length ≤ 100000) (hs : Sl w w.heap.size A (p.flatMap decI)) (ht : Sl w w.heap.size B (t.flatMap decI)) :
    Calls Tryd.prog 68 #[(.agg #[.slice A p.length c, .slice B t.length d])] w fun e w' => e = .returned (.int .i64 (dpT p t : Int)) ∧ Below w.heap.size w w' := by
  by_cases h : chk p t = 0
  · have HN := Lib.hid (dpT_ok h)
    obtain ⟨l1, l2, l3, _⟩ := chk_len h
    have HDP := Lib.hid (fun v W hW => deep_any p A c v W (by omega) hW)
    have q := ibne_no h
    rw [HN.out]
    clear h
    generalize hx : t.getD 0 0 = x
    have HXX := Lib.hid hx
    clear hx
    have HS := Lib.hid hs
    have HT := Lib.hid ht
    have HCK := Lib.hid (fun W h1 h2 => rcheck_any p t A B c d W hp htl h1 h2)
    clear hs ht
    generalize chk p t = r at *
    go_enter Tryd.func68, Tryd.ntmps68
    go_upto_region 1 with fail
    have HX := Lib.hid (Bx.made w (.slice A p.length c) (.slice B t.length d) 75)
    generalize w.alloc (.cells #[.slice A p.length c, .slice B t.length d] 75) = W0 at *
    have c0 := HX.out.2.2.1
    have c1 := HX.out.2.2.2
    have SP := Lib.hid (HX.out.sl HS.out)
    have ST := Lib.hid (HX.out.sl HT.out)
    go_wp2_with fail
    refine (HCK.out _ SP.out ST.out).mono ?_
    rintro e W1 ⟨rfl, b1⟩
    have HX1 := Lib.hid (HX.out.step b1)
    clear c0 c1 SP ST HX b1 HCK
    have c0 := HX1.out.2.2.1
    have c1 := HX1.out.2.2.2
    obtain ⟨b2, off2, hB, hb2, hcell2⟩ := sl_g (HX1.out.sl HT.out) l3
    subst hB
    have h0 := hcell2 0 l3
    rw [Nat.add_zero, HXX.out] at h0
    have SP := Lib.hid (HX1.out.sl HS.out)
    have i1 : (0 : Int) < (t.length : Int) := by omega
    clear hcell2
    go_wp2_with fail
    go_quiet ((go_at_call 104; exact Calls.quiet_of_same (HDP.out _ _ SP.out)))
    go_wp2_with fail
    go_ret
    exact ⟨rfl, below_drewN HX1.out.1 _⟩
  · have HN := Lib.hid (dpT_no h)
    have q := ibne h
    rw [HN.out]
    clear h
    have HS := Lib.hid hs
    have HT := Lib.hid ht
    have HCK := Lib.hid (fun W h1 h2 => rcheck_any p t A B c d W hp htl h1 h2)
    clear hs ht
    generalize chk p t = r at *
    go_enter Tryd.func68, Tryd.ntmps68
    go_upto_region 1 with fail
    have HX := Lib.hid (Bx.made w (.slice A p.length c) (.slice B t.length d) 75)
    generalize w.alloc (.cells #[.slice A p.length c, .slice B t.length d] 75) = W0 at *
    have c0 := HX.out.2.2.1
    have c1 := HX.out.2.2.2
    have SP := Lib.hid (HX.out.sl HS.out)
    have ST := Lib.hid (HX.out.sl HT.out)
    go_wp2_with fail
    refine (HCK.out _ SP.out ST.out).mono ?_
    rintro e W1 ⟨rfl, b1⟩
    have HX1 := Lib.hid (HX.out.step b1)
    clear c0 c1 SP ST HX b1 HCK
    have c0 := HX1.out.2.2.1
    have c1 := HX1.out.2.2.2
    go_wp2_with fail
    go_ret
    exact ⟨rfl, HX1.out.1⟩
set_option maxRecDepth 100000 in
set_option maxHeartbeats 4000000 in
theorem depth_any (p t : List Int) (A B : Option Addr) (c d : Nat) (w : World) (hp : p.length ≤ 100000) (htl : t.length ≤ 100000) (hs : Sl w w.heap.size A (p.flatMap decI)) (ht : Sl w w.heap.size B (t.flatMap decI)) :
    Calls Tryd.prog 67 #[(.agg #[.slice A p.length c, .slice B t.length d])] w fun e w' => e = .returned (.int .i64 (dpT p t : Int)) ∧ Below w.heap.size w w' := by
  by_cases h : chk p t = 0
  · obtain ⟨l1, l2, l3, _⟩ := chk_len h
    obtain ⟨_, k2, k3, k4⟩ := chk_ok h
    have hln : 0 < (lvs p).length := List.length_pos_iff.2 (lvs_ne k2 l1)
    obtain ⟨a, ha, hap, hal⟩ := lvs_at (p := p) (j := 0) hln
    have HN := Lib.hid (show dpT p t = dep p (a : Int) by
      rw [dpT_ok h]
      exact (k3 _ (mem_lvs.2 (k4 _ (getD_mem l3))) _ (mem_lvs.2 hal)).1)
    have HL := Lib.hid (fun W h => leaves_row p A c W (by omega) l1 k2 h)
    have HV := Lib.hid (fun W h => levels_any p A c W (by omega) k2 h)
    have q := ibne_no h
    rw [HN.out]
    clear h k2 k3 k4 hal
    have HS := Lib.hid hs
    have HT := Lib.hid ht
    have HCK := Lib.hid (fun W h1 h2 => check_any p t A B c d W hp htl h1 h2)
    clear hs ht
    generalize chk p t = r at *
    go_enter Tryd.func67, Tryd.ntmps67
    go_upto_region 1 with fail
    have HX := Lib.hid (Bx.made w (.slice A p.length c) (.slice B t.length d) 75)
    generalize w.alloc (.cells #[.slice A p.length c, .slice B t.length d] 75) = W0 at *
    have c0 := HX.out.2.2.1
    have c1 := HX.out.2.2.2
    have SP := Lib.hid (HX.out.sl HS.out)
    have ST := Lib.hid (HX.out.sl HT.out)
    go_wp2_with fail
    refine (HCK.out _ SP.out ST.out).mono ?_
    rintro e W1 ⟨rfl, b1⟩
    have HX1 := Lib.hid (HX.out.step b1)
    clear c0 c1 SP ST HX b1 HCK
    have c0 := HX1.out.2.2.1
    have c1 := HX1.out.2.2.2
    go_wp2_with fail
    have SPd : Hid (Sl W1.drew W1.drew.heap.size A (p.flatMap decI)) := Lib.hid (HX1.out.sl HS.out)
    have HXd : Hid (Bx w W1.drew (.slice A p.length c) (.slice B t.length d)) := Lib.hid ⟨Below.drew HX1.out.1, HX1.out.2⟩
    have d0 : W1.drew.cell? ⟨w.heap.size, 0, none⟩ = some (.slice A p.length c) := c0
    refine wp_region_held_drew (S := fun V => V.cell? ⟨w.heap.size, 0, none⟩ = some (.slice A p.length c)) (by kernel_rfl) d0 (fun hHeld => ?_)
    clear c0 c1 d0 HX1
    generalize W1.drew = X0 at *
    refine take_to 0 (some 6) (v := ?_) rfl rfl (by kernel_rfl) (by kernel_rfl) (by kernel_rfl) (fun _ _ _ h => h) (Or.inl ⟨by rfl, ?_⟩) (by first | trivial | assumption) ?_
    rotate_left
    focus (intro w hSw; (try dsimp only at hSw); go_simp; (try with_reducible rfl))
    simp only [Act.put, List.setIfInBounds_toArray, List.set_cons_zero, List.set_cons_succ]
    refine take_to 1 (some 7) (v := ?_) rfl rfl (by kernel_rfl) (by kernel_rfl) (by kernel_rfl) (fun _ _ _ h => h) (Or.inl ⟨by rfl, ?_⟩) (by first | trivial | assumption) ?_
    rotate_left
    focus (intro w hSw; (try dsimp only at hSw); go_simp; (try with_reducible rfl))
    simp only [Act.put, List.setIfInBounds_toArray, List.set_cons_zero, List.set_cons_succ]
    refine take_to 3 (some 9) (v := ?_) rfl rfl (by kernel_rfl) (by kernel_rfl) (by kernel_rfl) (fun _ _ _ h => h) (Or.inl ⟨by rfl, ?_⟩) (by first | trivial | assumption) ?_
    rotate_left
    focus (intro w hSw; (try dsimp only at hSw); go_simp; (try with_reducible rfl))
    simp only [Act.put, List.setIfInBounds_toArray, List.set_cons_zero, List.set_cons_succ]
    refine take_to 4 (some 10) (v := ?_) rfl rfl (by kernel_rfl) (by kernel_rfl) (by kernel_rfl) (fun _ _ _ h => h) (Or.inl ⟨by rfl, ?_⟩) (by first | trivial | assumption) ?_
    rotate_left
    focus (intro w hSw; (try dsimp only at hSw); go_simp; (try with_reducible rfl))
    simp only [Act.put, List.setIfInBounds_toArray, List.set_cons_zero, List.set_cons_succ]
    refine wpAnyH_ready (rs := [2]) (by kernel_rfl) (by simp) ?_
    refine AllReadyH.cons rfl (fun K hK => ?_) AllReadyH.nil
    go_simp
    refine (HV.out _ SPd.out).mono ?_
    rintro e wd ⟨rfl, fd, bd⟩
    have HXv := Lib.hid (HXd.out.step bd)
    have SW := Lib.hid (SPd.out.step bd)
    have FD := Lib.hid fd
    have hgd := lt_of_blk fd
    clear fd bd
    go_simp
    refine hK.out _ _ HXv.out.2.2.1 (fun hHeld => ?_)
    refine wpAnyH_ready (rs := [5]) (by kernel_rfl) (by simp) ?_
    refine AllReadyH.cons rfl (fun K hK => ?_) AllReadyH.nil
    go_simp
    refine (HL.out _ SW.out).mono ?_
    rintro e wl ⟨eb, ec, rfl, le1, le2, fe, bl⟩
    have HXl := Lib.hid (HXv.out.step bl)
    have e0 := fe 0 hln
    rw [ha] at e0
    have d0 := (bl.cell (p := ⟨X0.heap.size, a, none⟩) hgd).trans (lv_cell FD.out hap)
    have i1 : (0 : Int) < ((lvs p).length : Int) := by omega
    clear fe bl
    go_simp
    refine hK.out _ _ HXl.out.2.2.1 (fun hHeld => ?_)
    refine wpAnyH_ready (rs := [6]) (by kernel_rfl) (by simp) ?_
    refine AllReadyH.cons rfl (fun K hK => ?_) AllReadyH.nil
    go_simp
    refine hK.out _ _ HXl.out.2.2.1 (fun hHeld => ?_)
    refine wpAnyH_ready (rs := [7]) (by kernel_rfl) (by simp) ?_
    refine AllReadyH.cons rfl (fun K hK => ?_) AllReadyH.nil
    go_simp
    refine hK.out _ _ HXl.out.2.2.1 (fun hHeld => ?_)
    refine wpAnyH_ready (rs := [8]) (by kernel_rfl) (by simp) ?_
    refine AllReadyH.cons rfl (fun K hK => ?_) AllReadyH.nil
    go_simp
    refine hK.out _ _ HXl.out.2.2.1 (fun hHeld => ?_)
    refine wpAnyH_ready (rs := [9]) (by kernel_rfl) (by simp) ?_
    refine AllReadyH.cons rfl (fun K hK => ?_) AllReadyH.nil
    go_simp
    refine hK.out _ _ HXl.out.2.2.1 (fun hHeld => ?_)
    refine take_to 10 (some 2) (v := ?_) rfl rfl (by kernel_rfl) (by kernel_rfl) (by kernel_rfl) (fun _ _ _ h => h) (Or.inl ⟨by rfl, ?_⟩) (by first | trivial | assumption) ?_
    rotate_left
    focus (intro w hSw; (try dsimp only at hSw); go_simp; (try with_reducible rfl))
    simp only [Act.put, List.setIfInBounds_toArray, List.set_cons_zero, List.set_cons_succ]
    refine wpAnyH_done (by kernel_rfl) ?_ _
    go_wp2_with fail
    go_ret
    exact ⟨rfl, HXl.out.1⟩
  · have HN := Lib.hid (dpT_no h)
    have q := ibne h
    rw [HN.out]
    clear h
    have HS := Lib.hid hs
    have HT := Lib.hid ht
    have HCK := Lib.hid (fun W h1 h2 => check_any p t A B c d W hp htl h1 h2)
    clear hs ht
    generalize chk p t = r at *
    go_enter Tryd.func67, Tryd.ntmps67
    go_upto_region 1 with fail
    have HX := Lib.hid (Bx.made w (.slice A p.length c) (.slice B t.length d) 75)
    generalize w.alloc (.cells #[.slice A p.length c, .slice B t.length d] 75) = W0 at *
    have c0 := HX.out.2.2.1
    have c1 := HX.out.2.2.2
    have SP := Lib.hid (HX.out.sl HS.out)
    have ST := Lib.hid (HX.out.sl HT.out)
    go_wp2_with fail
    refine (HCK.out _ SP.out ST.out).mono ?_
    rintro e W1 ⟨rfl, b1⟩
    have HX1 := Lib.hid (HX.out.step b1)
    clear c0 c1 SP ST HX b1 HCK
    have c0 := HX1.out.2.2.1
    have c1 := HX1.out.2.2.2
    go_wp2_with fail
    go_ret
    exact ⟨rfl, HX1.out.1⟩
end Go.Proofs.YtcfdphfochfeoaaDoor.Tp
