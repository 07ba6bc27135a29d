/- Walks of layer 6: the reference's Check. -/
import Derived.Test.YtcfdphfochfeoaaDoorTp3
namespace Go.Proofs.YtcfdphfochfeoaaDoor.Tp
open Go.RowKit Go.Proofs.YtcfdphfochfeoaaDoor.Li Go.Proofs.YtcfdphfochfeoaaDoor.De Go.Proofs.YtcfdphfochfeoaaDoor.Ara

theorem frame98 {a : Act} (h : a.tmps.size = 98) (hd : a.defers = []) : ∃ u : Nat → Value, a = { tmps := #[u 0, u 1, u 2, u 3, u 4, u 5, u 6, u 7, u 8, u 9, u 10, u 11, u 12, u 13, u 14, u 15, u 16, u 17, u 18, u 19, u 20, u 21, u 22, u 23, u 24, u 25, u 26, u 27, u 28, u 29, u 30, u 31, u 32, u 33, u 34, u 35, u 36, u 37, u 38, u 39, u 40, u 41, u 42, u 43, u 44, u 45, u 46, u 47, u 48, u 49, u 50, u 51, u 52, u 53, u 54, u 55, u 56, u 57, u 58, u 59, u 60, u 61, u 62, u 63, u 64, u 65, u 66, u 67, u 68, u 69, u 70, u 71, u 72, u 73, u 74, u 75, u 76, u 77, u 78, u 79, u 80, u 81, u 82, u 83, u 84, u 85, u 86, u 87, u 88, u 89, u 90, u 91, u 92, u 93, u 94, u 95, u 96, u 97], defers := [] } ∧ ∀ n, a.tmps.getD n undef = u n := by
  refine ⟨fun n => a.tmps.getD n undef, ?_, fun _ => rfl⟩
  have h1 := arr_lit a.tmps h
  cases a with
  | mk t d =>
    simp only at hd h1
    subst hd
    congr 1
def RcJ1 (p : List Int) (w W0 : World) (a : Act) (W : World) : Prop :=
  a.tmps.size = 98 ∧ a.defers = [] ∧ a.tmps.getD 1 undef = .pointer (some ⟨w.heap.size, 0, none⟩) ∧ W = W0 ∧ ∃ j : Nat, a.tmps.getD 3 undef = .int .i64 (j : Int) ∧ 1 ≤ j ∧ j ≤ p.length ∧ (∀ v, v < j → okV p v)
/-- The first leaf's depth, and that the leaves so far are as deep. -/
def FirstL (p : List Int) (j F : Nat) : Prop := (F = 0 ∧ lvK p j = []) ∨ (1 ≤ F ∧ ∃ a r, lvK p j = a :: r ∧ F = dep p a ∧ ∀ v ∈ lvK p j, dep p v = dep p a ∧ dep p v ≤ 5)
def RcJ2 (p : List Int) (w W0 : World) (a : Act) (W : World) : Prop :=
  a.tmps.size = 98 ∧ a.defers = [] ∧ a.tmps.getD 1 undef = .pointer (some ⟨w.heap.size, 0, none⟩) ∧ W = W0 ∧ ∃ j F : Nat, a.tmps.getD 4 undef = .int .i64 (F : Int) ∧ a.tmps.getD 5 undef = .int .i64 (j : Int) ∧ j ≤ p.length ∧ F ≤ p.length ∧ FirstL p j F
def RcJ3 (p t : List Int) (w W0 : World) (a : Act) (W : World) : Prop :=
  a.tmps.size = 98 ∧ a.defers = [] ∧ a.tmps.getD 1 undef = .pointer (some ⟨w.heap.size, 0, none⟩) ∧ ∃ q, W = W0.drewN q ∧ ∃ j : Nat, a.tmps.getD 7 undef = .int .i64 (j : Int) ∧ j ≤ t.length ∧ (∀ v, v < j → leafP p (t.getD v 0))
theorem lvK_sub {p : List Int} {j : Nat} (hj : j ≤ p.length) {v : Int} (h : v ∈ lvK p j) : v ∈ lvs p := by
  rw [mem_lvK] at h
  exact mem_lvK.2 ⟨h.1, by omega, h.2.2⟩
theorem first_no {p : List Int} {j F : Nat} (h : FirstL p j F) (hin : (j : Int) ∈ p) : FirstL p (j + 1) F := by
  unfold FirstL at *
  rw [lvK_succ, if_pos hin]
  exact h
theorem first_new {p : List Int} {j : Nat} (hj : j < p.length) (h : FirstL p j 0) (hin : ¬ (j : Int) ∈ p) (h5 : dep p (j : Int) ≤ 5) : FirstL p (j + 1) (dep p (j : Int)) := by
  unfold FirstL at *
  rw [lvK_succ, if_neg hin]
  rcases h with ⟨_, h⟩ | ⟨h, _⟩
  · right
    rw [h]
    exact ⟨dep_pos hj, (j : Int), [], rfl, rfl, fun v hv => by
      rw [List.nil_append, List.mem_singleton] at hv
      rw [hv]
      exact ⟨rfl, h5⟩⟩
  · omega
theorem first_old {p : List Int} {j F : Nat} (h : FirstL p j F) (hF : F ≠ 0) (hin : ¬ (j : Int) ∈ p) (he : dep p (j : Int) = F) (h5 : F ≤ 5) : FirstL p (j + 1) F := by
  unfold FirstL at *
  rw [lvK_succ, if_neg hin]
  rcases h with ⟨h, _⟩ | ⟨h1, a, r, h2, h3, h4⟩
  · exact absurd h hF
  · right
    refine ⟨h1, a, r ++ [(j : Int)], by rw [h2]; rfl, h3, fun v hv => ?_⟩
    rcases List.mem_append.1 hv with hv | hv
    · exact h4 v hv
    · rw [List.mem_singleton] at hv
      subst hv
      omega
theorem first_deep {p : List Int} {j : Nat} (hj : j < p.length) (hin : ¬ (j : Int) ∈ p) (h5 : 5 < dep p (j : Int)) : ¬ flatP p := by
  intro hf
  have hm : (j : Int) ∈ lvs p := mem_lvs.2 ⟨by omega, by omega, hin⟩
  have := (hf _ hm _ hm).2
  omega
theorem first_bad {p : List Int} {j F : Nat} (hj : j < p.length) (h : FirstL p j F) (hF : F ≠ 0) (hin : ¬ (j : Int) ∈ p) (he : dep p (j : Int) ≠ F) : ¬ flatP p := by
  intro hf
  have hm : (j : Int) ∈ lvs p := mem_lvs.2 ⟨by omega, by omega, hin⟩
  unfold FirstL at h
  rcases h with ⟨h, _⟩ | ⟨h1, a, r, h2, h3, h4⟩
  · exact hF h
  · have ha : a ∈ lvs p := lvK_sub (Nat.le_of_lt hj) (by rw [h2]; simp)
    have := (hf _ hm _ ha).1
    omega
theorem first_end {p : List Int} {F : Nat} (h : FirstL p p.length F) : flatP p := by
  unfold FirstL at h
  rcases h with ⟨_, h⟩ | ⟨h1, a, r, h2, h3, h4⟩
  · intro v hv
    unfold lvs at hv
    rw [h] at hv
    cases hv
  · exact (flat_head h2).2 h4
set_option maxRecDepth 100000 in
set_option maxHeartbeats 8000000 in
theorem rcheck_any (p t : List Int) (A B : Option Addr) (c d : Nat) (w : World) (hp : p.length ≤ 100000) (htl : t.length ≤ 100000) (hs : Sl w w.heap.size A (p.flatMap decI)) (ht : Sl w w.heap.size B (t.flatMap decI)) :
    Calls Tryd.prog 64 #[(.agg #[.slice A p.length c, .slice B t.length d])] w fun e w' => e = .returned (.int .i64 (chk p t)) ∧ Below w.heap.size w w' := by
  by_cases k1 : p.length < 1
  · have i1 : (p.length : Int) < 1 := by omega
    have HN := Lib.hid (chk_many (p := p) (t := t) (.inl k1))
    go_enter Tryd.func64, Tryd.ntmps64
    go_upto_region 1 with fail
    have HX := Lib.hid (Bx.made w (.slice A p.length c) (.slice B t.length d) 75)
    generalize w.alloc (.cells #[.slice A p.length c, .slice B t.length d] 75) = W0 at *
    have c0 := HX.out.2.2.1
    have c1 := HX.out.2.2.2
    have SP := Lib.hid (HX.out.sl hs)
    have ST := Lib.hid (HX.out.sl ht)
    go_wp2_with fail
    go_ret
    exact ⟨by rw [HN.out]; rfl, HX.out.1⟩
  have i1 : ¬ (p.length : Int) < 1 := by omega
  by_cases k2 : 32 < p.length
  · have i2 : (32 : Int) < (p.length : Int) := by omega
    have HN := Lib.hid (chk_many (p := p) (t := t) (.inr (.inl k2)))
    go_enter Tryd.func64, Tryd.ntmps64
    go_upto_region 1 with fail
    have HX := Lib.hid (Bx.made w (.slice A p.length c) (.slice B t.length d) 75)
    generalize w.alloc (.cells #[.slice A p.length c, .slice B t.length d] 75) = W0 at *
    have c0 := HX.out.2.2.1
    have c1 := HX.out.2.2.2
    have SP := Lib.hid (HX.out.sl hs)
    have ST := Lib.hid (HX.out.sl ht)
    go_wp2_with fail
    go_ret
    exact ⟨by rw [HN.out]; rfl, HX.out.1⟩
  have i2 : ¬ (32 : Int) < (p.length : Int) := by omega
  by_cases k3 : t.length < 1
  · have i3 : (t.length : Int) < 1 := by omega
    have HN := Lib.hid (chk_many (p := p) (t := t) (.inr (.inr (.inl k3))))
    go_enter Tryd.func64, Tryd.ntmps64
    go_upto_region 1 with fail
    have HX := Lib.hid (Bx.made w (.slice A p.length c) (.slice B t.length d) 75)
    generalize w.alloc (.cells #[.slice A p.length c, .slice B t.length d] 75) = W0 at *
    have c0 := HX.out.2.2.1
    have c1 := HX.out.2.2.2
    have SP := Lib.hid (HX.out.sl hs)
    have ST := Lib.hid (HX.out.sl ht)
    go_wp2_with fail
    go_ret
    exact ⟨by rw [HN.out]; rfl, HX.out.1⟩
  have i3 : ¬ (t.length : Int) < 1 := by omega
  by_cases k4 : 32 < t.length
  · have i4 : (32 : Int) < (t.length : Int) := by omega
    have HN := Lib.hid (chk_many (p := p) (t := t) (.inr (.inr (.inr k4))))
    go_enter Tryd.func64, Tryd.ntmps64
    go_upto_region 1 with fail
    have HX := Lib.hid (Bx.made w (.slice A p.length c) (.slice B t.length d) 75)
    generalize w.alloc (.cells #[.slice A p.length c, .slice B t.length d] 75) = W0 at *
    have c0 := HX.out.2.2.1
    have c1 := HX.out.2.2.2
    have SP := Lib.hid (HX.out.sl hs)
    have ST := Lib.hid (HX.out.sl ht)
    go_wp2_with fail
    go_ret
    exact ⟨by rw [HN.out]; rfl, HX.out.1⟩
  have i4 : ¬ (32 : Int) < (t.length : Int) := by omega
  have hno : ¬ manyP p t := by unfold manyP; omega
  have HTR := Lib.hid (fun h => chk_tree (p := p) (t := t) hno h)
  have HFT := Lib.hid (fun h1 h2 => chk_fit (p := p) (t := t) hno h1 h2)
  have HLF := Lib.hid (fun v W h => leaf_any p A c v W (by omega) h)
  have HDP := Lib.hid (fun v W h => deep_any p A c v W (by omega) h)
  have hdl := Lib.hid (fun v => dep_le p v)
  clear hno
  go_enter Tryd.func64, Tryd.ntmps64
  go_upto_region 1 with fail
  have HX := Lib.hid (Bx.made w (.slice A p.length c) (.slice B t.length d) 75)
  generalize w.alloc (.cells #[.slice A p.length c, .slice B t.length d] 75) = W0 at *
  have c0 := HX.out.2.2.1
  have c1 := HX.out.2.2.2
  have SP := Lib.hid (HX.out.sl hs)
  have ST := Lib.hid (HX.out.sl ht)
  obtain ⟨b, off, hA, hb, hcell⟩ := sl_g SP.out (by omega)
  have HC := Lib.hid hcell
  have h0 := hcell 0 (by omega)
  rw [Nat.add_zero] at h0
  clear hcell hs ht
  have HA := Lib.hid hA
  subst hA
  by_cases z : p.getD 0 0 = -1
  · have HZ := Lib.hid (show okV p 0 from (okV_zero rfl).2 z)
    have q0 := ibne_no z
    generalize p.getD 0 0 = y at *
    go_wp2_with fail
    clear z h0 q0
    refine wp_loop (RcJ1 p w W0) (fun a' _ => p.length - (intOf (a'.tmps.getD 3 undef)).toNat) ?_ ?_
    · exact ⟨rfl, rfl, rfl, rfl, 1, rfl, Nat.le_refl _, by omega, fun v hv => by rw [show v = 0 by omega]; exact HZ.out⟩
    · rintro a' W ⟨hsz, hdf, s1, hW, j, s3, hj1, hj, hgood⟩
      subst hW
      obtain ⟨u, rfl, hu⟩ := frame98 hsz hdf
      rw [hu] at s1 s3
      simp only [s1, s3]
      clear hsz hdf s1 s3 hu
      by_cases hlt : j < p.length
      · have h0 := HC.out j hlt
        have i5 : (j : Int) < (p.length : Int) := by omega
        have HBAD := Lib.hid (fun h : ¬ okV p j => HTR.out (.inl fun ht => h ((tree_iff p).1 ht j hlt)))
        have HGOOD := Lib.hid (show okV p j → ∀ v, v < j + 1 → okV p v from fun h v hv => by
          by_cases e : v = j
          · subst e; exact h
          · exact hgood v (by omega))
        rw [okV_pos (by omega)] at HBAD HGOOD
        generalize p.getD j 0 = x at *
        clear hgood
        by_cases h1 : x < 0
        · have HN := Lib.hid (HBAD.out (by omega))
          go_wp2_with fail
          go_ret
          exact ⟨by rw [HN.out]; rfl, HX.out.1⟩
        · by_cases h3 : (j : Int) ≤ x
          · have HN := Lib.hid (HBAD.out (by omega))
            go_wp2_with fail
            go_ret
            exact ⟨by rw [HN.out]; rfl, HX.out.1⟩
          · have HN := Lib.hid (HGOOD.out (by omega))
            go_wp2_with fail
            go_roundw
            case rel => exact ⟨rfl, rfl, rfl, rfl, j + 1, by go_num, by omega, by omega, HN.out⟩
            case measure => simp [intOf]; omega
      · obtain rfl : j = p.length := by omega
        have HT := Lib.hid ((tree_iff p).2 hgood)
        have i5 : ¬ (p.length : Int) < (p.length : Int) := by omega
        clear hgood
        go_wp2_with fail
        refine wp_loop (RcJ2 p w W) (fun a' _ => p.length - (intOf (a'.tmps.getD 5 undef)).toNat) ?_ ?_
        · exact ⟨rfl, rfl, rfl, rfl, 0, 0, rfl, rfl, Nat.zero_le _, Nat.zero_le _, .inl ⟨rfl, rfl⟩⟩
        · rintro a' W2 ⟨hsz, hdf, s1, hW, j, F, s4, s5, hj, hF, hfl⟩
          subst hW
          obtain ⟨u, rfl, hu⟩ := frame98 hsz hdf
          rw [hu] at s1 s4 s5
          simp only [s1, s4, s5]
          clear hsz hdf s1 s4 s5 hu
          have HFL := Lib.hid hfl
          clear hfl
          by_cases hlt : j < p.length
          · have i5 : (j : Int) < (p.length : Int) := by omega
            have hL := HLF.out (j : Int) W2 SP.out
            by_cases hin : (j : Int) ∈ p
            · have hd : decide (leafP p (j : Int)) = false := decide_eq_false (fun h => h.2.2 hin)
              rw [hd] at hL
              clear hd
              have HL := Lib.hid hL
              have HN := Lib.hid (first_no HFL.out hin)
              clear hL hin
              go_wp2_with fail
              refine (HL.out).mono ?_
              rintro e wx ⟨rfl, hwx⟩
              obtain rfl := hwx.symm
              go_wp2_with fail
              go_roundw
              case rel => exact ⟨rfl, rfl, rfl, rfl, j + 1, F, rfl, by go_num, by omega, hF, HN.out⟩
              case measure => simp [intOf]; omega
            · have hd : decide (leafP p (j : Int)) = true := decide_eq_true ⟨by omega, by omega, hin⟩
              rw [hd] at hL
              clear hd
              have HL := Lib.hid hL
              have HD := Lib.hid (HDP.out (j : Int) W2 SP.out)
              have hdd := hdl.out (j : Int)
              have HN1 := Lib.hid (fun h => first_new hlt h hin)
              have HN2 := Lib.hid (fun h1 h2 h3 => first_old HFL.out h1 hin h2 h3)
              have HN3 := Lib.hid (fun h => HTR.out (.inr (first_deep hlt hin h)))
              have HN4 := Lib.hid (fun h1 h2 => HTR.out (.inr (first_bad hlt HFL.out h1 hin h2)))
              clear hL hin
              generalize dep p (j : Int) = D at *
              by_cases hF0 : F = 0
              · subst hF0
                have e0 : (((0 : Nat) : Int) == 0) = true := rfl
                have e1 : ((D : Int) != (D : Int)) = false := ibne_no rfl
                by_cases h5 : D ≤ 5
                · have HN := Lib.hid (HN1.out HFL.out h5)
                  go_wp2_with fail
                  refine (HL.out).mono ?_
                  rintro e wx ⟨rfl, hwx⟩
                  obtain rfl := hwx.symm
                  go_wp2_with fail
                  refine (HD.out).mono ?_
                  rintro e wx ⟨rfl, hwx⟩
                  obtain rfl := hwx.symm
                  go_wp2_with fail
                  go_roundw
                  case rel => exact ⟨rfl, rfl, rfl, rfl, j + 1, D, rfl, by go_num, by omega, hdd, HN.out⟩
                  case measure => simp [intOf]; omega
                · have HN := Lib.hid (HN3.out (by omega))
                  go_wp2_with fail
                  refine (HL.out).mono ?_
                  rintro e wx ⟨rfl, hwx⟩
                  obtain rfl := hwx.symm
                  go_wp2_with fail
                  refine (HD.out).mono ?_
                  rintro e wx ⟨rfl, hwx⟩
                  obtain rfl := hwx.symm
                  go_wp2_with fail
                  go_ret
                  exact ⟨by rw [HN.out]; rfl, HX.out.1⟩
              · have e0 : ((F : Int) == 0) = false := ibeq_no (by omega)
                by_cases he : D = F
                · have e1 : ((D : Int) != (F : Int)) = false := nbne_no he
                  by_cases h5 : D ≤ 5
                  · have HN := Lib.hid (HN2.out hF0 he (by omega))
                    go_wp2_with fail
                    refine (HL.out).mono ?_
                    rintro e wx ⟨rfl, hwx⟩
                    obtain rfl := hwx.symm
                    go_wp2_with fail
                    refine (HD.out).mono ?_
                    rintro e wx ⟨rfl, hwx⟩
                    obtain rfl := hwx.symm
                    go_wp2_with fail
                    go_roundw
                    case rel => exact ⟨rfl, rfl, rfl, rfl, j + 1, F, rfl, by go_num, by omega, hF, HN.out⟩
                    case measure => simp [intOf]; omega
                  · have HN := Lib.hid (HN3.out (by omega))
                    go_wp2_with fail
                    refine (HL.out).mono ?_
                    rintro e wx ⟨rfl, hwx⟩
                    obtain rfl := hwx.symm
                    go_wp2_with fail
                    refine (HD.out).mono ?_
                    rintro e wx ⟨rfl, hwx⟩
                    obtain rfl := hwx.symm
                    go_wp2_with fail
                    go_ret
                    exact ⟨by rw [HN.out]; rfl, HX.out.1⟩
                · have e1 : ((D : Int) != (F : Int)) = true := nbne he
                  have HN := Lib.hid (HN4.out hF0 he)
                  go_wp2_with fail
                  refine (HL.out).mono ?_
                  rintro e wx ⟨rfl, hwx⟩
                  obtain rfl := hwx.symm
                  go_wp2_with fail
                  refine (HD.out).mono ?_
                  rintro e wx ⟨rfl, hwx⟩
                  obtain rfl := hwx.symm
                  go_wp2_with fail
                  go_ret
                  exact ⟨by rw [HN.out]; rfl, HX.out.1⟩
          · obtain rfl : j = p.length := by omega
            have HFIT := Lib.hid (HFT.out HT.out (first_end HFL.out))
            have i5 : ¬ (p.length : Int) < (p.length : Int) := by omega
            clear HFL hdl HDP
            go_wp2_with fail
            refine wp_loop (RcJ3 p t w W2) (fun a' _ => t.length - (intOf (a'.tmps.getD 7 undef)).toNat) ?_ ?_
            · exact ⟨rfl, rfl, rfl, 0, rfl, 0, rfl, Nat.zero_le _, fun v hv => absurd hv (Nat.not_lt_zero v)⟩
            · rintro a' W3 ⟨hsz, hdf, s1, qd, hW, j, s7, hj, hgood⟩
              have HX3 : Hid (Bx w W3 (.slice (some ⟨b, off, none⟩) p.length c) (.slice B t.length d)) := Lib.hid (by rw [hW]; exact HX.out.drewN qd)
              have SP3 : Hid (Sl W3 W3.heap.size (some ⟨b, off, none⟩) (p.flatMap decI)) := Lib.hid (by rw [hW]; exact SP.out)
              have ST3 : Hid (Sl W3 W3.heap.size B (t.flatMap decI)) := Lib.hid (by rw [hW]; exact ST.out)
              have HW := Lib.hid hW
              clear hW c0 c1
              obtain ⟨u, rfl, hu⟩ := frame98 hsz hdf
              rw [hu] at s1 s7
              simp only [s1, s7]
              clear hsz hdf s1 s7 hu
              have c0 := HX3.out.2.2.1
              have c1 := HX3.out.2.2.2
              by_cases hlt : j < t.length
              · obtain ⟨b2, off2, hB, hb2, hcell2⟩ := sl_g ST3.out (by omega)
                subst hB
                have h0 := hcell2 j hlt
                have i6 : (j : Int) < (t.length : Int) := by omega
                have hL := HLF.out (t.getD j 0)
                have HN1 := Lib.hid (show leafP p (t.getD j 0) → ∀ v, v < j + 1 → leafP p (t.getD v 0) from fun h v hv => by
                  by_cases e : v = j
                  · subst e; exact h
                  · exact hgood v (by omega))
                have HN2 := Lib.hid (show ¬ leafP p (t.getD j 0) → chk p t = 4 from fun h => by
                  rw [HFIT.out, if_neg (fun hh => h (hh _ (getD_mem hlt)))])
                clear hcell2 hgood
                generalize t.getD j 0 = x at *
                by_cases hl : leafP p x
                · rw [decide_eq_true hl] at hL
                  have HL := Lib.hid hL
                  have HN := Lib.hid (HN1.out hl)
                  clear hL hl HN1 HN2
                  go_wp2_with fail
                  go_quiet ((go_at_call 103; exact Calls.quiet_of_same (HL.out _ SP3.out)))
                  go_wp2_with fail
                  go_roundw
                  case rel => exact ⟨rfl, rfl, rfl, _, by rw [HW.out, World.drewN_drewN], j + 1, by go_num, by omega, HN.out⟩
                  case measure => simp [intOf]; omega
                · rw [decide_eq_false hl] at hL
                  have HL := Lib.hid hL
                  have HN := Lib.hid (HN2.out hl)
                  clear hL hl HN1 HN2
                  go_wp2_with fail
                  go_quiet ((go_at_call 103; exact Calls.quiet_of_same (HL.out _ SP3.out)))
                  go_wp2_with fail
                  go_ret
                  exact ⟨by rw [HN.out]; rfl, below_drewN HX3.out.1 _⟩
              · obtain rfl : j = t.length := by omega
                have HN := Lib.hid (show chk p t = 0 by
                  rw [HFIT.out, if_pos]
                  intro x hx
                  obtain ⟨v, hv, e⟩ := mem_getD hx
                  rw [← e]
                  exact hgood v hv)
                have i6 : ¬ (t.length : Int) < (t.length : Int) := by omega
                clear hgood
                go_wp2_with fail
                go_ret
                exact ⟨by rw [HN.out]; rfl, HX3.out.1⟩
  · have HN := Lib.hid (HTR.out (.inl fun ht => z (by have := (tree_iff p).1 ht 0 (by omega); rwa [okV_zero rfl] at this)))
    have q0 := ibne z
    generalize p.getD 0 0 = y at *
    clear z
    go_wp2_with fail
    go_ret
    exact ⟨by rw [HN.out]; rfl, HX.out.1⟩
end Go.Proofs.YtcfdphfochfeoaaDoor.Tp
