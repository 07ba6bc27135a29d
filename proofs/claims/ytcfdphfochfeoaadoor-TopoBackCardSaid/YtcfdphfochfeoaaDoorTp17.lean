/- The walk of TopoBack. -/
import Derived.Test.YtcfdphfochfeoaaDoorTp13
import Derived.Test.YtcfdphfochfeoaaDoorTpA
namespace Go.Proofs.YtcfdphfochfeoaaDoor.Tp
open Go.RowKit Go.Proofs.YtcfdphfochfeoaaDoor.Li Go.Proofs.YtcfdphfochfeoaaDoor.De Go.Proofs.YtcfdphfochfeoaaDoor.Ara
theorem dep_next {p : List Int} (h : treeP p) {v : Nat} (hv : v < p.length) : dep p (v : Int) = dep p (p.getD v 0) + 1 := by
  by_cases h0 : v = 0
  · have ht := h v hv
    rw [if_pos h0] at ht
    rw [ht]
    subst h0
    exact (dep_root h hv).trans (by rw [show dep p (-1) = 0 from deepF_no p p.length (by omega)])
  · exact dep_step h hv h0
theorem par_range {p : List Int} (h : treeP p) {v : Nat} (hv : v < p.length) : p.getD v 0 = -1 ∨ (0 ≤ p.getD v 0 ∧ p.getD v 0 < (p.length : Int)) := by
  have ht := h v hv
  split at ht <;> omega
theorem frame135 {a : Act} (h : a.tmps.size = 135) (hd : a.defers = []) : ∃ u : Nat → Value, a = { tmps := #[u 0, u 1, u 2, u 3, u 4, u 5, u 6, u 7, u 8, u 9, u 10, u 11, u 12, u 13, u 14, u 15, u 16, u 17, u 18, u 19, u 20, u 21, u 22, u 23, u 24, u 25, u 26, u 27, u 28, u 29, u 30, u 31, u 32, u 33, u 34, u 35, u 36, u 37, u 38, u 39, u 40, u 41, u 42, u 43, u 44, u 45, u 46, u 47, u 48, u 49, u 50, u 51, u 52, u 53, u 54, u 55, u 56, u 57, u 58, u 59, u 60, u 61, u 62, u 63, u 64, u 65, u 66, u 67, u 68, u 69, u 70, u 71, u 72, u 73, u 74, u 75, u 76, u 77, u 78, u 79, u 80, u 81, u 82, u 83, u 84, u 85, u 86, u 87, u 88, u 89, u 90, u 91, u 92, u 93, u 94, u 95, u 96, u 97, u 98, u 99, u 100, u 101, u 102, u 103, u 104, u 105, u 106, u 107, u 108, u 109, u 110, u 111, u 112, u 113, u 114, u 115, u 116, u 117, u 118, u 119, u 120, u 121, u 122, u 123, u 124, u 125, u 126, u 127, u 128, u 129, u 130, u 131, u 132, u 133, u 134], defers := [] } ∧ ∀ n, a.tmps.getD n undef = u n := by
  refine ⟨fun n => a.tmps.getD n undef, ?_, fun _ => rfl⟩
  have h1 := arr_lit a.tmps h
  cases a with
  | mk t d =>
    simp only at hd h1
    subst hd
    congr 1
def BkJ1 (p : List Int) (n : Nat) (E : Option Addr) (k : Nat) (w Wl : World) (a : Act) (W : World) : Prop :=
  a.tmps.size = 135 ∧ a.defers = [] ∧ a.tmps.getD 1 undef = .pointer (some ⟨w.heap.size, 0, none⟩) ∧ a.tmps.getD 6 undef = .slice E (lvs p).length k ∧ W = Wl ∧ ∃ j : Nat, a.tmps.getD 7 undef = .int .i64 (j : Int) ∧ j ≤ n
def BkJ2 (p : List Int) (E : Option Addr) (k : Nat) (w Wl : World) (a : Act) (W : World) : Prop :=
  a.tmps.size = 135 ∧ a.defers = [] ∧ a.tmps.getD 1 undef = .pointer (some ⟨w.heap.size, 0, none⟩) ∧ a.tmps.getD 6 undef = .slice E (lvs p).length k ∧ Below Wl.heap.size Wl W ∧ ∃ j : Nat, a.tmps.getD 8 undef = .int .i64 (j : Int) ∧ j ≤ (lvs p).length
def BkJ3 (p : List Int) (D : Nat) (E : Option Addr) (k j : Nat) (w W2 : World) (a : Act) (W : World) : Prop :=
  a.tmps.size = 135 ∧ a.defers = [] ∧ a.tmps.getD 1 undef = .pointer (some ⟨w.heap.size, 0, none⟩) ∧ a.tmps.getD 6 undef = .slice E (lvs p).length k ∧ a.tmps.getD 8 undef = .int .i64 (j : Int) ∧ W = W2 ∧ ∃ (n : Nat) (v : Int), a.tmps.getD 9 undef = .int .i64 (n : Int) ∧ a.tmps.getD 10 undef = .int .i64 v ∧ n + dep p v = D ∧ (v = -1 ∨ (0 ≤ v ∧ v < (p.length : Int)))
def BkJ4 (p : List Int) (w Wl : World) (a : Act) (W : World) : Prop :=
  a.tmps.size = 135 ∧ a.defers = [] ∧ a.tmps.getD 1 undef = .pointer (some ⟨w.heap.size, 0, none⟩) ∧ W = Wl ∧ ∃ j : Nat, a.tmps.getD 11 undef = .int .i64 (j : Int) ∧ 1 ≤ j ∧ j ≤ p.length
theorem tsame_tt (p t : List Int) (A B A2 B2 : Option Addr) (c d c2 d2 : Nat) (w : World) (hp : p.length ≤ 60) (htl : t.length ≤ 60)
    (hs : Sl w w.heap.size A (p.flatMap decI)) (ht : Sl w w.heap.size B (t.flatMap decI)) (hs2 : Sl w w.heap.size A2 (p.flatMap decI)) (ht2 : Sl w w.heap.size B2 (t.flatMap decI)) :
    Calls Tryd.prog 71 #[.agg #[.slice A p.length c, .slice B t.length d], .agg #[.slice A2 p.length c2, .slice B2 t.length d2]] w fun e w' => e = .returned (.bool true) ∧ Below w.heap.size w w' := by
  have := tsame_any p t p t A B A2 B2 c d c2 d2 w (by omega) (by omega) (by omega) (by omega) hs ht hs2 ht2
  rw [decide_eq_true ⟨rfl, rfl⟩] at this
  exact this
theorem rtsame_tt (p t : List Int) (A B A2 B2 : Option Addr) (c d c2 d2 : Nat) (w : World) (hp : p.length ≤ 60) (htl : t.length ≤ 60)
    (hs : Sl w w.heap.size A (p.flatMap decI)) (ht : Sl w w.heap.size B (t.flatMap decI)) (hs2 : Sl w w.heap.size A2 (p.flatMap decI)) (ht2 : Sl w w.heap.size B2 (t.flatMap decI)) :
    Calls Tryd.prog 72 #[.agg #[.slice A p.length c, .slice B t.length d], .agg #[.slice A2 p.length c2, .slice B2 t.length d2]] w fun e w' => e = .returned (.bool true) ∧ Below w.heap.size w w' := by
  have := rtsame_any p t p t A B A2 B2 c d c2 d2 w (by omega) (by omega) (by omega) (by omega) hs ht hs2 ht2
  rw [decide_eq_true ⟨rfl, rfl⟩] at this
  exact this
set_option maxRecDepth 100000 in
set_option maxHeartbeats 16000000 in
theorem back_law (w : World) (ho : Ok w) (p t : List Int) (A B : Option Addr) (c d : Nat) (hp : p.length ≤ 9223372036854775807) (htl : t.length ≤ 9223372036854775807) (hs : Sl w w.heap.size A (p.flatMap decI)) (ht : Sl w w.heap.size B (t.flatMap decI)) :
    Calls Tryd.prog 15 #[(.agg #[.slice A p.length c, .slice B t.length d])] w fun e w' => e = .returned (.bool true) ∧ Below w.heap.size w w' := by
  have HA := Lib.hid (fun W hW => awake_any W hW)
  have HO := Lib.hid ho
  have HS := Lib.hid hs
  have HT := Lib.hid ht
  have hF1 := fun W => few_any p t A B c d W hp htl
  clear ho hs ht
  cases h1 : (decide (p.length ≤ 60) && decide (t.length ≤ 60)) with
  | false =>
    rw [h1] at hF1
    have HF1 := Lib.hid hF1
    clear hF1 h1
    go_enter Tryd.func15, Tryd.ntmps15
    go_upto_region 1 with fail
    have HX := Lib.hid (Bx.made w (.slice A p.length c) (.slice B t.length d) 75)
    generalize w.alloc (.cells #[.slice A p.length c, .slice B t.length d] 75) = W0 at *
    have c0 := HX.out.2.2.1
    have c1 := HX.out.2.2.2
    go_wp2_with fail
    refine (HF1.out _).mono ?_
    rintro e w1 ⟨rfl, b1⟩
    have HB1 := Lib.hid (nx HX.out.1 b1)
    clear b1
    go_wp2_with fail
    refine (HA.out _ (HO.out.step HB1.out)).mono ?_
    rintro e wz ⟨rfl, bz⟩
    have BZ := Lib.hid (nx HB1.out bz)
    clear bz
    go_wp2_with fail
    go_ret
    refine ⟨?_, BZ.out⟩
    rfl
  | true =>
    rw [h1] at hF1
    have HF1 := Lib.hid hF1
    rw [Bool.and_eq_true, decide_eq_true_iff, decide_eq_true_iff] at h1
    obtain ⟨l1, l2⟩ := h1
    clear hF1
    by_cases hc : chk p t = 0
    · obtain ⟨k1, k2, k3, k4⟩ := chk_ok hc
      obtain ⟨l3, l4, l5, l6⟩ := chk_len hc
      have htl2 := txT_len p t
      have HC1 := Lib.hid (fun W h1 h2 => ttext_any p t A B c d W (by omega) (by omega) h1 h2)
      have HC3 := Lib.hid (fun W h1 h2 => check_any p t A B c d W (by omega) (by omega) h1 h2)
      have HC4 := Lib.hid (fun W h1 h2 => tleaves_any p t A B c d W (by omega) (by omega) h1 h2)
      have HC5 := Lib.hid (fun W h1 h2 => depth_any p t A B c d W (by omega) (by omega) h1 h2)
      have HC2 : Hid (∀ W, Ok W → Calls Tryd.prog 75 #[vS (txT p t)] W fun e w' => ∃ A c B d, e = .returned (.tuple #[.agg #[.slice A p.length c, .slice B t.length d], .int .i64 0]) ∧ Sl w' w'.heap.size A (p.flatMap decI) ∧ Sl w' w'.heap.size B (t.flatMap decI) ∧ Below W.heap.size W w') := Lib.hid (fun W hW => by
        have := parse_any (txT p t) (by omega) W hW
        rw [psT_txT hc] at this
        exact this)
      rw [hc] at HC3
      rw [lvT_ok hc] at HC4
      have hll : (lvs p).length ≤ 60 := Nat.le_trans (lvs_len p) l1
      have hdd : ∀ v ∈ lvs p, dpT p t = dep p v := fun v hv => by
        rw [dpT_ok hc]
        exact (k3 _ (mem_lvs.2 (k4 _ (getD_mem l5))) _ hv).1
      have HDD := Lib.hid hdd
      have HTR := Lib.hid k2
      have HFL := Lib.hid k3
      have HLF := Lib.hid k4
      have HHAS := Lib.hid (fun (ns : List Int) A c x W hm h => has_any ns A c x W hm h)
      have HSM := Lib.hid (fun A2 B2 c2 d2 W => tsame_tt p t A B A2 B2 c d c2 d2 W l1 l2)
      have HSR := Lib.hid (fun A2 B2 c2 d2 W => rtsame_tt p t A B A2 B2 c d c2 d2 W l1 l2)
      clear k1 k2 k3 k4 hdd hc htl2
      generalize txT p t = tx at *
      go_enter Tryd.func15, Tryd.ntmps15
      go_upto_region 1 with fail
      have HX := Lib.hid (Bx.made w (.slice A p.length c) (.slice B t.length d) 75)
      generalize w.alloc (.cells #[.slice A p.length c, .slice B t.length d] 75) = W0 at *
      have c0 := HX.out.2.2.1
      have c1 := HX.out.2.2.2
      go_wp2_with fail
      refine (HF1.out _).mono ?_
      rintro e w1 ⟨rfl, b1⟩
      have HX0 := HX
      have HX1 := Lib.hid (HX0.out.step b1)
      clear b1 c0 c1
      have c0 := HX1.out.2.2.1
      have c1 := HX1.out.2.2.2
      go_wp2_with fail
      refine (HC1.out _ (HX1.out.sl HS.out) (HX1.out.sl HT.out)).mono ?_
      rintro e w2 ⟨rfl, b2⟩
      have HX2 := Lib.hid (HX1.out.step b2)
      clear b2 c0 c1
      have c0 := HX2.out.2.2.1
      have c1 := HX2.out.2.2.2
      go_wp2_with fail
      refine (HC2.out _ (HO.out.step HX2.out.1)).mono ?_
      rintro e w3 ⟨A3, c3, B3, d3, rfl, s3, t3, b3'⟩
      have b3 := nx b3' (below_new w3 (.cells #[.slice A3 p.length c3, .slice B3 t.length d3] 75))
      have S3 := Lib.hid (s3.push (.cells #[.slice A3 p.length c3, .slice B3 t.length d3] 75))
      have T3 := Lib.hid (t3.push (.cells #[.slice A3 p.length c3, .slice B3 t.length d3] 75))
      have K3 := Lib.hid (blk_new w3 (.cells #[.slice A3 p.length c3, .slice B3 t.length d3] 75))
      clear b3' s3 t3
      go_upto_region 5 with fail
      generalize w3.alloc (.cells #[.slice A3 p.length c3, .slice B3 t.length d3] 75) = V3 at *
      have HX3 := Lib.hid (HX2.out.step b3)
      clear b3 c0 c1
      have c0 := HX3.out.2.2.1
      have c1 := HX3.out.2.2.2
      go_wp2_with fail
      refine (HC3.out _ (HX3.out.sl HS.out) (HX3.out.sl HT.out)).mono ?_
      rintro e w4 ⟨rfl, b4⟩
      have S4 := Lib.hid (S3.out.step b4)
      have T4 := Lib.hid (T3.out.step b4)
      have K4 := Lib.hid ((b4.block _ (lt_of_blk K3.out)).trans K3.out)
      have HX4 := Lib.hid (HX3.out.step b4)
      clear b4 c0 c1
      have c0 := HX4.out.2.2.1
      have c1 := HX4.out.2.2.2
      have m0 := blk_cell K4.out 0 (by simp)
      have m1 := blk_cell K4.out 1 (by simp)
      go_wp2_with fail
      refine (HSM.out _ _ _ _ _ (HX4.out.sl HS.out) (HX4.out.sl HT.out) S4.out T4.out).mono ?_
      rintro e w5 ⟨rfl, b5⟩
      have S5 := Lib.hid (S4.out.step b5)
      have T5 := Lib.hid (T4.out.step b5)
      have K5 := Lib.hid ((b5.block _ (lt_of_blk K4.out)).trans K4.out)
      clear m0 m1
      have HX5 := Lib.hid (HX4.out.step b5)
      clear b5 c0 c1
      have c0 := HX5.out.2.2.1
      have c1 := HX5.out.2.2.2
      have m0 := blk_cell K5.out 0 (by simp)
      have m1 := blk_cell K5.out 1 (by simp)
      go_wp2_with fail
      refine (HSR.out _ _ _ _ _ (HX5.out.sl HS.out) (HX5.out.sl HT.out) S5.out T5.out).mono ?_
      rintro e w6 ⟨rfl, b6⟩
      clear m0 m1 K3 K4 K5 S3 S4 S5 T3 T4 T5
      have HX6 := Lib.hid (HX5.out.step b6)
      clear b6 c0 c1
      have c0 := HX6.out.2.2.1
      have c1 := HX6.out.2.2.2
      go_wp2_with fail
      refine (HC4.out _ (HX6.out.sl HS.out) (HX6.out.sl HT.out)).mono ?_
      rintro e w7 ⟨E, k, rfl, s7, b7⟩
      have S7 := Lib.hid s7
      clear s7
      have HX7 := Lib.hid (HX6.out.step b7)
      clear b7 c0 c1
      have c0 := HX7.out.2.2.1
      have c1 := HX7.out.2.2.2
      go_wp2_with fail
      refine wp_loop (BkJ1 p t.length E k w w7) (fun a' _ => t.length - (intOf (a'.tmps.getD 7 undef)).toNat) ?_ ?_
      · exact ⟨rfl, rfl, rfl, rfl, rfl, 0, rfl, Nat.zero_le _⟩
      · rintro a' W ⟨hsz, hdf, s1, s6, hW, j, s7, hj⟩
        subst hW
        obtain ⟨u, rfl, hu⟩ := frame135 hsz hdf
        rw [hu] at s1 s6 s7
        simp only [s1, s6, s7]
        clear hsz hdf s1 s6 s7 hu
        by_cases hlt : j < t.length
        · obtain ⟨b2, off2, hB, _, hcell⟩ := sl_g (HX7.out.sl HT.out) (by omega)
          have h0 := hcell j hlt
          have i1 : (j : Int) < (t.length : Int) := by omega
          have hH := HHAS.out (lvs p) E k (t.getD j 0) W (by omega) S7.out
          have hd : decide (t.getD j 0 ∈ lvs p) = true := decide_eq_true (mem_lvs.2 (HLF.out _ (getD_mem hlt)))
          rw [hd] at hH
          have HH := Lib.hid hH
          rw [hB] at c1
          clear hcell hH hd
          generalize t.getD j 0 = x at *
          go_wp2_with fail
          refine (HH.out).mono ?_
          rintro e wx ⟨rfl, hwx⟩
          obtain rfl := hwx.symm
          go_wp2_with fail
          go_roundw
          case rel => exact ⟨rfl, rfl, rfl, rfl, rfl, j + 1, by go_num, by omega⟩
          case measure => simp [intOf]; omega
        · obtain rfl : j = t.length := by omega
          have i1 : ¬ (t.length : Int) < (t.length : Int) := by omega
          go_wp2_with fail
          refine wp_loop (BkJ2 p E k w W) (fun a' _ => (lvs p).length - (intOf (a'.tmps.getD 8 undef)).toNat) ?_ ?_
          · exact ⟨rfl, rfl, rfl, rfl, Below.refl _ _, 0, rfl, Nat.zero_le _⟩
          · rintro a' W2 ⟨hsz, hdf, s1, s6, hbel, j, s8, hj⟩
            obtain ⟨u, rfl, hu⟩ := frame135 hsz hdf
            rw [hu] at s1 s6 s8
            simp only [s1, s6, s8]
            clear hsz hdf s1 s6 s8 hu
            have HX8 := Lib.hid (HX7.out.step hbel)
            have S8 := Lib.hid (S7.out.step hbel)
            have HBL := Lib.hid hbel
            clear c0 c1 hbel
            have c0 := HX8.out.2.2.1
            have c1 := HX8.out.2.2.2
            by_cases hlt : j < (lvs p).length
            · obtain ⟨v, hv, hvp, hvl⟩ := lvs_at hlt
              obtain ⟨g, o, hE, hg, hcell⟩ := sl_g S8.out (by omega)
              subst hE
              have h0 := hcell j hlt
              rw [hv] at h0
              have hD5 := (HFL.out _ (mem_lvs.2 hvl) _ (mem_lvs.2 hvl)).2
              have hdp := HDD.out _ (mem_lvs.2 hvl)
              have hnp : decide ((v : Int) ∈ p) = false := decide_eq_false hvl.2.2
              have hH := HHAS.out p A c (v : Int)
              rw [hnp] at hH
              have HH := Lib.hid hH
              have HC5 := Lib.hid (fun W h1 h2 => HC5.out W h1 h2)
              rw [hdp] at HC5
              obtain ⟨D, hD⟩ : ∃ D, dep p (v : Int) = D := ⟨_, rfl⟩
              rw [hD] at HC5 hD5
              have HDv := Lib.hid hD
              have i5 : (j : Int) < ((lvs p).length : Int) := by omega
              clear hcell hH hnp hdp hD hvl hv
              go_wp2_with fail
              refine wp_loop (BkJ3 p D (some ⟨g, o, none⟩) k j w W2) (fun a' _ => D - (intOf (a'.tmps.getD 9 undef)).toNat) ?_ ?_
              · exact ⟨rfl, rfl, rfl, rfl, rfl, rfl, 0, (v : Int), rfl, rfl, by rw [Nat.zero_add]; exact HDv.out, .inr ⟨by omega, by omega⟩⟩
              · rintro a' W3 ⟨hsz, hdf, s1, s6, s8, hW, n, x, s9, s10, hn, hx⟩
                subst hW
                obtain ⟨u, rfl, hu⟩ := frame135 hsz hdf
                rw [hu] at s1 s6 s8 s9 s10
                simp only [s1, s6, s8, s9, s10]
                clear hsz hdf s1 s6 s8 s9 s10 hu
                by_cases hx0 : 0 ≤ x
                · have hxl : x < (p.length : Int) := by omega
                  obtain ⟨y, rfl⟩ := Int.eq_ofNat_of_zero_le hx0
                  have hyl : y < p.length := by omega
                  have hnx := dep_next HTR.out hyl
                  have hrg := par_range HTR.out hyl
                  obtain ⟨gp, op, hA, _, hcp⟩ := sl_g (HX8.out.sl HS.out) (by omega)
                  have y0 := hcp y hyl
                  rw [hA] at c0
                  have i6 : (n : Int) ≤ 5 := by omega
                  have HHN := Lib.hid (show (n + 1) + dep p (p.getD y 0) = D by omega)
                  have HRG := Lib.hid hrg
                  have hnD : n < D := by omega
                  clear hcp hnx hrg
                  generalize p.getD y 0 = z at *
                  go_wp2_with fail
                  go_roundw
                  case rel => exact ⟨rfl, rfl, rfl, rfl, rfl, rfl, n + 1, z, by go_num, rfl, HHN.out, HRG.out⟩
                  case measure => simp [intOf]; omega
                · have hx1 : x = -1 := by omega
                  subst hx1
                  have hnD : n = D := by
                    rw [show dep p (-1) = 0 from deepF_no p p.length (by omega)] at hn
                    omega
                  subst hnD
                  clear hn hx hx0
                  have q1 : ((n : Int) != (n : Int)) = false := ibne_no rfl
                  go_upto_region 23 with fail
                  have HXd : Hid (Bx w W3.drew (.slice A p.length c) (.slice B t.length d)) := Lib.hid ⟨Below.drew HX8.out.1, HX8.out.2⟩
                  have d0 : W3.drew.cell? ⟨g, o + j, none⟩ = some (.int .i64 (v : Int)) := h0
                  have hgd : g < W3.drew.heap.size := hg
                  have HBd : Hid (Below W.heap.size W W3.drew) := Lib.hid (Below.drew HBL.out)
                  refine wp_region_held_drew (S := fun V => V.cell? ⟨w.heap.size, 0, none⟩ = some (.slice A p.length c) ∧ V.cell? ⟨w.heap.size, 1, none⟩ = some (.slice B t.length d) ∧ V.cell? ⟨g, o + j, none⟩ = some (.int .i64 (v : Int))) (by kernel_rfl) ⟨HXd.out.2.2.1, HXd.out.2.2.2, d0⟩ (fun hHeld => ?_)
                  clear c0 c1 h0 HX8 S8
                  generalize W3.drew = X0 at *
                  refine take_to 0 (some 107) (v := ?_) rfl rfl (by kernel_rfl) (by kernel_rfl) (by kernel_rfl) (fun _ _ _ h => h) (Or.inl ⟨by rfl, ?_⟩) (by first | trivial | assumption) ?_
                  rotate_left
                  focus (intro w hSw; (try dsimp only at hSw); go_simp; (try with_reducible rfl))
                  simp only [Act.put, List.setIfInBounds_toArray, List.set_cons_zero, List.set_cons_succ]
                  refine take_to 1 (some 108) (v := ?_) rfl rfl (by kernel_rfl) (by kernel_rfl) (by kernel_rfl) (fun _ _ _ h => h) (Or.inl ⟨by rfl, ?_⟩) (by first | trivial | assumption) ?_
                  rotate_left
                  focus (intro w hSw; (try dsimp only at hSw); go_simp; (try with_reducible rfl))
                  simp only [Act.put, List.setIfInBounds_toArray, List.set_cons_zero, List.set_cons_succ]
                  refine wpAnyH_ready (rs := [2]) (by kernel_rfl) (by simp) ?_
                  refine AllReadyH.cons rfl (fun K hK => ?_) AllReadyH.nil
                  go_simp
                  refine (HC5.out _ (HXd.out.sl HS.out) (HXd.out.sl HT.out)).mono ?_
                  rintro e X1 ⟨rfl, b1⟩
                  have HX9 := Lib.hid (HXd.out.step b1)
                  have d1 := (b1.cell (p := ⟨g, o + j, none⟩) hgd).trans d0
                  have HB9 := Lib.hid (nx HBd.out b1)
                  clear b1
                  go_simp
                  refine hK.out _ _ ⟨HX9.out.2.2.1, HX9.out.2.2.2, d1⟩ (fun hHeld => ?_)
                  refine take_to 3 (some 110) (v := ?_) rfl rfl (by kernel_rfl) (by kernel_rfl) (by kernel_rfl) (fun _ _ _ h => h) (Or.inl ⟨by rfl, ?_⟩) (by first | trivial | assumption) ?_
                  rotate_left
                  focus (intro w hSw; (try dsimp only at hSw); go_simp; (try with_reducible rfl))
                  simp only [Act.put, List.setIfInBounds_toArray, List.set_cons_zero, List.set_cons_succ]
                  refine take_to 4 (some 111) (v := ?_) rfl rfl (by kernel_rfl) (by kernel_rfl) (by kernel_rfl) (fun _ _ _ h => h) (Or.inl ⟨by rfl, ?_⟩) (by first | trivial | assumption) ?_
                  rotate_left
                  focus (intro w hSw; (try dsimp only at hSw); go_simp; (try with_reducible rfl))
                  simp only [Act.put, List.setIfInBounds_toArray, List.set_cons_zero, List.set_cons_succ]
                  refine take_to 5 (some 112) (v := ?_) rfl rfl (by kernel_rfl) (by kernel_rfl) (by kernel_rfl) (fun _ _ _ h => h) (Or.inl ⟨by rfl, ?_⟩) (by first | trivial | assumption) ?_
                  rotate_left
                  focus (intro w hSw; (try dsimp only at hSw); go_simp; (try with_reducible rfl))
                  simp only [Act.put, List.setIfInBounds_toArray, List.set_cons_zero, List.set_cons_succ]
                  refine take_to 6 (some 113) (v := ?_) rfl rfl (by kernel_rfl) (by kernel_rfl) (by kernel_rfl) (fun _ _ _ h => h) (Or.inl ⟨by rfl, ?_⟩) (by first | trivial | assumption) ?_
                  rotate_left
                  focus (intro w hSw; (try dsimp only at hSw); go_simp; (try with_reducible rfl))
                  simp only [Act.put, List.setIfInBounds_toArray, List.set_cons_zero, List.set_cons_succ]
                  refine take_to 7 (some 114) (v := ?_) rfl rfl (by kernel_rfl) (by kernel_rfl) (by kernel_rfl) (fun _ _ _ h => h) (Or.inl ⟨by rfl, ?_⟩) (by first | trivial | assumption) ?_
                  rotate_left
                  focus (intro w hSw; (try dsimp only at hSw); go_simp; (try with_reducible rfl))
                  simp only [Act.put, List.setIfInBounds_toArray, List.set_cons_zero, List.set_cons_succ]
                  refine take_to 8 (some 115) (v := ?_) rfl rfl (by kernel_rfl) (by kernel_rfl) (by kernel_rfl) (fun _ _ _ h => h) (Or.inl ⟨by rfl, ?_⟩) (by first | trivial | assumption) ?_
                  rotate_left
                  focus (intro w hSw; (try dsimp only at hSw); go_simp; (try with_reducible rfl))
                  simp only [Act.put, List.setIfInBounds_toArray, List.set_cons_zero, List.set_cons_succ]
                  refine take_to 9 (some 116) (v := ?_) rfl rfl (by kernel_rfl) (by kernel_rfl) (by kernel_rfl) (fun _ _ _ h => h) (Or.inl ⟨by rfl, ?_⟩) (by first | trivial | assumption) ?_
                  rotate_left
                  focus (intro w hSw; (try dsimp only at hSw); go_simp; (try with_reducible rfl))
                  simp only [Act.put, List.setIfInBounds_toArray, List.set_cons_zero, List.set_cons_succ]
                  refine take_to 10 (some 117) (v := ?_) rfl rfl (by kernel_rfl) (by kernel_rfl) (by kernel_rfl) (fun _ _ _ h => h) (Or.inl ⟨by rfl, ?_⟩) (by first | trivial | assumption) ?_
                  rotate_left
                  focus (intro w hSw; (try dsimp only at hSw); go_simp; (try with_reducible rfl))
                  simp only [Act.put, List.setIfInBounds_toArray, List.set_cons_zero, List.set_cons_succ]
                  refine wpAnyH_ready (rs := [11]) (by kernel_rfl) (by simp) ?_
                  refine AllReadyH.cons rfl (fun K hK => ?_) AllReadyH.nil
                  go_simp
                  refine (HH.out _ (by omega) (HX9.out.sl HS.out)).mono ?_
                  rintro e wx ⟨rfl, hwx⟩
                  obtain rfl := hwx.symm
                  go_simp
                  refine hK.out _ _ ⟨HX9.out.2.2.1, HX9.out.2.2.2, d1⟩ (fun hHeld => ?_)
                  refine take_to 12 (some 119) (v := ?_) rfl rfl (by kernel_rfl) (by kernel_rfl) (by kernel_rfl) (fun _ _ _ h => h) (Or.inl ⟨by rfl, ?_⟩) (by first | trivial | assumption) ?_
                  rotate_left
                  focus (intro w hSw; (try dsimp only at hSw); go_simp; (try with_reducible rfl))
                  simp only [Act.put, List.setIfInBounds_toArray, List.set_cons_zero, List.set_cons_succ]
                  refine wpAnyH_done (by kernel_rfl) ?_ _
                  go_wp2_with fail
                  go_roundw
                  case rel => exact ⟨rfl, rfl, rfl, rfl, HB9.out, j + 1, by go_num, by omega⟩
                  case measure => simp [intOf]; omega
            · obtain rfl : j = (lvs p).length := by omega
              have i5 : ¬ ((lvs p).length : Int) < ((lvs p).length : Int) := by omega
              go_wp2_with fail
              refine wp_loop (BkJ4 p w W2) (fun a' _ => p.length - (intOf (a'.tmps.getD 11 undef)).toNat) ?_ ?_
              · exact ⟨rfl, rfl, rfl, rfl, 1, rfl, Nat.le_refl _, by omega⟩
              · rintro a' W3 ⟨hsz, hdf, s1, hW, y, s11, hy1, hyl⟩
                subst hW
                obtain ⟨u, rfl, hu⟩ := frame135 hsz hdf
                rw [hu] at s1 s11
                simp only [s1, s11]
                clear hsz hdf s1 s11 hu
                by_cases hlt2 : y < p.length
                · have htr := HTR.out y hlt2
                  rw [if_neg (by omega)] at htr
                  obtain ⟨gp, op, hA, _, hcp⟩ := sl_g (HX8.out.sl HS.out) (by omega)
                  have y0 := hcp y hlt2
                  rw [hA] at c0
                  have i6 : (y : Int) < (p.length : Int) := by omega
                  have i7 : ¬ (y : Int) ≤ p.getD y 0 := by omega
                  clear hcp
                  generalize p.getD y 0 = z at *
                  go_wp2_with fail
                  go_roundw
                  case rel => exact ⟨rfl, rfl, rfl, rfl, y + 1, by go_num, by omega, by omega⟩
                  case measure => simp [intOf]; omega
                · obtain rfl : y = p.length := by omega
                  have i6 : ¬ (p.length : Int) < (p.length : Int) := by omega
                  go_wp2_with fail
                  refine (HA.out _ (HO.out.step HX8.out.1)).mono ?_
                  rintro e wz ⟨rfl, bz⟩
                  have BZ := Lib.hid (nx HX8.out.1 bz)
                  clear bz
                  go_wp2_with fail
                  go_ret
                  refine ⟨?_, BZ.out⟩
                  rfl
    · have htx : txT p t = [] := txT_no hc
      have hlv : lvT p t = [] := lvT_no hc
      have hdp : dpT p t = 0 := dpT_no hc
      have HC1 := Lib.hid (fun W h1 h2 => ttext_any p t A B c d W (by omega) (by omega) h1 h2)
      have HC3 := Lib.hid (fun W h1 h2 => check_any p t A B c d W (by omega) (by omega) h1 h2)
      have HC4 := Lib.hid (fun W h1 h2 => tleaves_any p t A B c d W (by omega) (by omega) h1 h2)
      have HC5 := Lib.hid (fun W h1 h2 => depth_any p t A B c d W (by omega) (by omega) h1 h2)
      rw [htx] at HC1
      rw [hlv] at HC4
      rw [hdp] at HC5
      have HC2 : Hid (∀ W, Ok W → Calls Tryd.prog 75 #[vS []] W fun e w' => ∃ A c B d, e = .returned (.tuple #[.agg #[.slice A 0 c, .slice B 0 d], .int .i64 2]) ∧ Below W.heap.size W w') := Lib.hid (fun W hW => by
        have := parse_any [] (by decide) W hW
        rw [psT_nil] at this
        refine this.mono ?_
        rintro e w' ⟨A, c, B, d, h1, _, _, h2⟩
        exact ⟨A, c, B, d, h1, h2⟩)
      have q := ibne hc
      generalize chk p t = ck at *
      clear htx hlv hdp hc
      go_enter Tryd.func15, Tryd.ntmps15
      go_upto_region 1 with fail
      have HX := Lib.hid (Bx.made w (.slice A p.length c) (.slice B t.length d) 75)
      generalize w.alloc (.cells #[.slice A p.length c, .slice B t.length d] 75) = W0 at *
      have c0 := HX.out.2.2.1
      have c1 := HX.out.2.2.2
      go_wp2_with fail
      refine (HF1.out _).mono ?_
      rintro e w1 ⟨rfl, b1⟩
      have HX0 := HX
      have HX1 := Lib.hid (HX0.out.step b1)
      clear b1 c0 c1
      have c0 := HX1.out.2.2.1
      have c1 := HX1.out.2.2.2
      go_wp2_with fail
      refine (HC1.out _ (HX1.out.sl HS.out) (HX1.out.sl HT.out)).mono ?_
      rintro e w2 ⟨rfl, b2⟩
      have HX2 := Lib.hid (HX1.out.step b2)
      clear b2 c0 c1
      have c0 := HX2.out.2.2.1
      have c1 := HX2.out.2.2.2
      go_wp2_with fail
      refine (HC2.out _ (HO.out.step HX2.out.1)).mono ?_
      rintro e w3 ⟨A3, c3, B3, d3, rfl, b3'⟩
      have b3 := nx b3' (below_new w3 (.cells #[.slice A3 0 c3, .slice B3 0 d3] 75))
      clear b3'
      go_upto_region 5 with fail
      generalize w3.alloc (.cells #[.slice A3 0 c3, .slice B3 0 d3] 75) = V3 at *
      have HX3 := Lib.hid (HX2.out.step b3)
      clear b3 c0 c1
      have c0 := HX3.out.2.2.1
      have c1 := HX3.out.2.2.2
      go_wp2_with fail
      refine (HC3.out _ (HX3.out.sl HS.out) (HX3.out.sl HT.out)).mono ?_
      rintro e w4 ⟨rfl, b4⟩
      have HX4 := Lib.hid (HX3.out.step b4)
      clear b4 c0 c1
      have c0 := HX4.out.2.2.1
      have c1 := HX4.out.2.2.2
      go_wp2_with fail
      refine (HC4.out _ (HX4.out.sl HS.out) (HX4.out.sl HT.out)).mono ?_
      rintro e w5 ⟨E, k, rfl, _, b5⟩
      have HX5 := Lib.hid (HX4.out.step b5)
      clear b5 c0 c1
      have c0 := HX5.out.2.2.1
      have c1 := HX5.out.2.2.2
      go_wp2_with fail
      refine (HC5.out _ (HX5.out.sl HS.out) (HX5.out.sl HT.out)).mono ?_
      rintro e w6 ⟨rfl, b6⟩
      have HX6 := Lib.hid (HX5.out.step b6)
      clear b6 c0 c1
      have c0 := HX6.out.2.2.1
      have c1 := HX6.out.2.2.2
      go_wp2_with fail
      refine (HA.out _ (HO.out.step HX6.out.1)).mono ?_
      rintro e wz ⟨rfl, bz⟩
      have BZ := Lib.hid (nx HX6.out.1 bz)
      clear bz
      go_wp2_with fail
      go_ret
      refine ⟨?_, BZ.out⟩
      rfl
theorem back (w : World) (ho : Ok w) (A B : Option Addr) (c d : Nat) (p t : List Int) (hc : p.length ≤ c) (hm : c ≤ maxLen) (hd : t.length ≤ d) (hn : d ≤ maxLen) (hs : Sl w w.heap.size A (p.flatMap decI)) (ht : Sl w w.heap.size B (t.flatMap decI)) :
    Calls Tryd.prog 15 #[(.agg #[.slice A p.length c, .slice B t.length d])] w fun e w' => e = .returned (.bool true) ∧ Below w.heap.size w w' :=
  back_law w ho p t A B c d (Nat.le_trans hc hm) (Nat.le_trans hd hn) hs ht
end Go.Proofs.YtcfdphfochfeoaaDoor.Tp
