/- The walk of the reference's Even. -/
import Derived.Test.YtcfdphfochfeoaaDoorTp12
namespace Go.Proofs.YtcfdphfochfeoaaDoor.Tp
open Go.RowKit Go.Proofs.YtcfdphfochfeoaaDoor.Li Go.Proofs.YtcfdphfochfeoaaDoor.De Go.Proofs.YtcfdphfochfeoaaDoor.Ara
theorem frame99 {a : Act} (h : a.tmps.size = 99) (hd : a.defers = []) : ∃ u : Nat → Value, a = { tmps := #[u 0, u 1, u 2, u 3, u 4, u 5, u 6, u 7, u 8, u 9, u 10, u 11, u 12, u 13, u 14, u 15, u 16, u 17, u 18, u 19, u 20, u 21, u 22, u 23, u 24, u 25, u 26, u 27, u 28, u 29, u 30, u 31, u 32, u 33, u 34, u 35, u 36, u 37, u 38, u 39, u 40, u 41, u 42, u 43, u 44, u 45, u 46, u 47, u 48, u 49, u 50, u 51, u 52, u 53, u 54, u 55, u 56, u 57, u 58, u 59, u 60, u 61, u 62, u 63, u 64, u 65, u 66, u 67, u 68, u 69, u 70, u 71, u 72, u 73, u 74, u 75, u 76, u 77, u 78, u 79, u 80, u 81, u 82, u 83, u 84, u 85, u 86, u 87, u 88, u 89, u 90, u 91, u 92, u 93, u 94, u 95, u 96, u 97, u 98], defers := [] } ∧ ∀ n, a.tmps.getD n undef = u n := by
  refine ⟨fun n => a.tmps.getD n undef, ?_, fun _ => rfl⟩
  have h1 := arr_lit a.tmps h
  cases a with
  | mk t d =>
    simp only at hd h1
    subst hd
    congr 1
def ReJ0 (parts : List Int) (th : Int) (A : Option Addr) (cap : Nat) (w W0 : World) (a : Act) (W : World) : Prop :=
  (a.tmps.size = 99 ∧ a.defers = [] ∧ a.tmps.getD 0 undef = .slice A parts.length cap ∧ a.tmps.getD 1 undef = .int .i64 th ∧ a.tmps.getD 4 undef = .pointer (some ⟨w.heap.size, 0, none⟩)) ∧ W = W0 ∧ ∃ j : Nat, a.tmps.getD 6 undef = .int .i64 (j : Int) ∧ j ≤ parts.length ∧ ∀ v, v < j → 1 ≤ parts.getD v 0
def ReJ1 (parts : List Int) (th : Int) (A : Option Addr) (cap : Nat) (w : World) (tgt : Option (List Int × Nat)) (a : Act) (W : World) : Prop :=
  (a.tmps.size = 99 ∧ a.defers = [] ∧ a.tmps.getD 0 undef = .slice A parts.length cap ∧ a.tmps.getD 1 undef = .int .i64 th ∧ a.tmps.getD 4 undef = .pointer (some ⟨w.heap.size, 0, none⟩)) ∧ a.tmps.getD 7 undef = .pointer (some ⟨w.heap.size + 2, 0, none⟩) ∧ ∃ (i f : Nat) (ps : List Int) (vp : Value), a.tmps.getD 8 undef = .int .i64 (f : Int) ∧ a.tmps.getD 9 undef = .int .i64 (i : Int) ∧ i ≤ parts.length ∧ EvW w W vp (.slice none 0 0) ∧
    Tri (w.heap.size + 1) (w.heap.size + 2) W vp (.slice none 0 0) (.slice none 0 0) ps [] [] ∧ f < ps.length ∧ ps.length ≤ 32 ∧ evB 32 (parts.drop i) ps f = tgt
def ReJ2 (parts : List Int) (th : Int) (A : Option Addr) (cap : Nat) (w : World) (i k f : Nat) (ps0 : List Int) (a : Act) (W : World) : Prop :=
  (a.tmps.size = 99 ∧ a.defers = [] ∧ a.tmps.getD 0 undef = .slice A parts.length cap ∧ a.tmps.getD 1 undef = .int .i64 th ∧ a.tmps.getD 4 undef = .pointer (some ⟨w.heap.size, 0, none⟩)) ∧ a.tmps.getD 7 undef = .pointer (some ⟨w.heap.size + 2, 0, none⟩) ∧ a.tmps.getD 9 undef = .int .i64 (i : Int) ∧ a.tmps.getD 10 undef = .int .i64 (ps0.length : Int) ∧
    ∃ (u : Nat) (ps : List Int) (vp : Value), a.tmps.getD 11 undef = .int .i64 ((f + u : Nat) : Int) ∧ u ≤ ps0.length - f ∧ ps = ps0 ++ grow (rngI f (f + u)) k ∧ EvW w W vp (.slice none 0 0) ∧
      Tri (w.heap.size + 1) (w.heap.size + 2) W vp (.slice none 0 0) (.slice none 0 0) ps [] [] ∧ ps.length ≤ 32
def ReJ3 (parts : List Int) (th : Int) (A : Option Addr) (cap : Nat) (w : World) (i k f u : Nat) (ps0 : List Int) (a : Act) (W : World) : Prop :=
  (a.tmps.size = 99 ∧ a.defers = [] ∧ a.tmps.getD 0 undef = .slice A parts.length cap ∧ a.tmps.getD 1 undef = .int .i64 th ∧ a.tmps.getD 4 undef = .pointer (some ⟨w.heap.size, 0, none⟩)) ∧ a.tmps.getD 7 undef = .pointer (some ⟨w.heap.size + 2, 0, none⟩) ∧ a.tmps.getD 9 undef = .int .i64 (i : Int) ∧ a.tmps.getD 10 undef = .int .i64 (ps0.length : Int) ∧ a.tmps.getD 11 undef = .int .i64 ((f + u : Nat) : Int) ∧
    ∃ (j : Nat) (ps : List Int) (vp : Value), a.tmps.getD 12 undef = .int .i64 (j : Int) ∧ j ≤ k ∧ ps = ps0 ++ grow (rngI f (f + u)) k ++ List.replicate j ((f + u : Nat) : Int) ∧ EvW w W vp (.slice none 0 0) ∧
      Tri (w.heap.size + 1) (w.heap.size + 2) W vp (.slice none 0 0) (.slice none 0 0) ps [] [] ∧ ps.length ≤ 32
def ReJ4 (parts : List Int) (th : Int) (A : Option Addr) (cap : Nat) (w : World) (m f : Nat) (ps : List Int) (vp : Value) (a : Act) (W : World) : Prop :=
  (a.tmps.size = 99 ∧ a.defers = [] ∧ a.tmps.getD 0 undef = .slice A parts.length cap ∧ a.tmps.getD 1 undef = .int .i64 th ∧ a.tmps.getD 4 undef = .pointer (some ⟨w.heap.size, 0, none⟩)) ∧ a.tmps.getD 7 undef = .pointer (some ⟨w.heap.size + 2, 0, none⟩) ∧ ∃ (u : Nat) (ts : List Int) (vt : Value), a.tmps.getD 13 undef = .int .i64 ((f + u : Nat) : Int) ∧ u ≤ ps.length - f ∧ ts = grow (rngI f (f + u)) m ∧ EvW w W vp vt ∧
      Tri (w.heap.size + 1) (w.heap.size + 2) W vp (.slice none 0 0) vt ps [] ts ∧ ts.length ≤ 32
def ReJ5 (parts : List Int) (th : Int) (A : Option Addr) (cap : Nat) (w : World) (m f u : Nat) (ps : List Int) (vp : Value) (a : Act) (W : World) : Prop :=
  (a.tmps.size = 99 ∧ a.defers = [] ∧ a.tmps.getD 0 undef = .slice A parts.length cap ∧ a.tmps.getD 1 undef = .int .i64 th ∧ a.tmps.getD 4 undef = .pointer (some ⟨w.heap.size, 0, none⟩)) ∧ a.tmps.getD 7 undef = .pointer (some ⟨w.heap.size + 2, 0, none⟩) ∧ a.tmps.getD 13 undef = .int .i64 ((f + u : Nat) : Int) ∧ ∃ (j : Nat) (ts : List Int) (vt : Value), a.tmps.getD 14 undef = .int .i64 (j : Int) ∧ j ≤ m ∧ ts = grow (rngI f (f + u)) m ++ List.replicate j ((f + u : Nat) : Int) ∧ EvW w W vp vt ∧
      Tri (w.heap.size + 1) (w.heap.size + 2) W vp (.slice none 0 0) vt ps [] ts ∧ ts.length ≤ 32
theorem evB_no32 {p : List Int} {f u k j : Nat} {n : Int} {r : List Int} (hn : n.toNat = k) (hu : u < p.length - f) (hj : j < k) (h : 32 < (p ++ grow (rngI f (f + u)) k ++ List.replicate (j + 1) ((f + u : Nat) : Int)).length) : evB 32 (n :: r) p f = none := by
  unfold evB
  rw [if_pos]
  have h1 := grow_le (f := f) (u := u) (n := p.length) (k := k) (by omega)
  have h2 : 1 * k ≤ (p.length - (f + u)) * k := Nat.mul_le_mul_right _ (by omega)
  rw [hn, List.length_append]
  simp only [List.length_append, List.length_replicate] at h
  omega
theorem evB_go32 {p : List Int} {f k : Nat} {n : Int} {r : List Int} (hn : n.toNat = k) (h : (p ++ grow (rngI f p.length) k).length ≤ 32) : evB 32 (n :: r) p f = evB 32 r (p ++ grow (rngI f p.length) k) p.length := by
  conv => lhs; unfold evB
  rw [hn, if_neg (by omega)]
theorem grow_big {f u n m j : Nat} (hu : f + u < n) (hj : j < m) (h : 32 < (grow (rngI f (f + u)) m ++ List.replicate (j + 1) ((f + u : Nat) : Int)).length) : 32 < (grow (rngI f n) m).length := by
  have h1 := grow_le (f := f) (u := u) (n := n) (k := m) (by omega)
  have h2 : 1 * m ≤ (n - (f + u)) * m := Nat.mul_le_mul_right _ (by omega)
  simp only [List.length_append, List.length_replicate] at h
  omega
theorem re_start {w W0 : World} (hz : W0.heap.size = w.heap.size + 1) (h : Two w W0 (.slice none 0 0) (.slice none 0 0)) {W3 : World}
    (h3 : (W0.alloc (.cells #[.int .i64 (-1)] 3)).alloc (.cells #[.slice (some ⟨w.heap.size + 1, 0, none⟩) 1 1, .slice none 0 0] 75) = W3) :
    EvW w W3 (.slice (some ⟨w.heap.size + 1, 0, none⟩) 1 1) (.slice none 0 0) ∧ Tri (w.heap.size + 1) (w.heap.size + 2) W3 (.slice (some ⟨w.heap.size + 1, 0, none⟩) 1 1) (.slice none 0 0) (.slice none 0 0) [-1] [] [] := by
  have z1 : (W0.alloc (.cells #[.int .i64 (-1)] 3)).heap.size = w.heap.size + 2 := by simp [hz]
  have r1 := lit_row W0 (-1) (B := w.heap.size + 1) (by omega)
  have b2 := blk_new (W0.alloc (.cells #[.int .i64 (-1)] 3)) (.cells #[.slice (some ⟨w.heap.size + 1, 0, none⟩) 1 1, .slice none 0 0] 75)
  rw [hz] at r1
  rw [z1] at b2
  have hb1 := below_new W0 (.cells #[.int .i64 (-1)] 3)
  have z2 : ((W0.alloc (.cells #[.int .i64 (-1)] 3)).alloc (.cells #[.slice (some ⟨w.heap.size + 1, 0, none⟩) 1 1, .slice none 0 0] 75)).heap.size = w.heap.size + 3 := by simp [hz]
  have hb2 := below_new (W0.alloc (.cells #[.int .i64 (-1)] 3)) (.cells #[.slice (some ⟨w.heap.size + 1, 0, none⟩) 1 1, .slice none 0 0] 75)
  have r1 := r1.alloc (.cells #[.slice (some ⟨w.heap.size + 1, 0, none⟩) 1 1, .slice none 0 0] 75)
  have hT := (h.step hb1).step hb2
  subst h3
  generalize (W0.alloc (.cells #[.int .i64 (-1)] 3)).alloc (.cells #[.slice (some ⟨w.heap.size + 1, 0, none⟩) 1 1, .slice none 0 0] 75) = W3 at *
  refine ⟨⟨hT.1, hT.2, b2⟩, ⟨⟨r1, fun b hb => ?_⟩, ⟨World.ownsRow_nil _ _ _ _, fun b hb => by cases hb⟩, ⟨World.ownsRow_nil _ _ _ _, fun b hb => by cases hb⟩, (fun b hb e => by cases e), (fun b hb e => by cases e), (fun b hb e => by cases e), by omega, by omega⟩⟩
  injection hb with hb
  simp only at hb
  omega
set_option maxRecDepth 100000 in
set_option maxHeartbeats 8000000 in
theorem reven_any (parts : List Int) (A : Option Addr) (cap : Nat) (th : Int) (w : World) (hm : parts.length ≤ 1000) (hs : Sl w w.heap.size A (parts.flatMap decI)) :
    Calls Tryd.prog 74 #[.slice A parts.length cap, .int .i64 th] w fun e w' => TQ (evT parts th) w e w' := by
  obtain ⟨R, hR⟩ : ∃ R, evT parts th = R := ⟨_, rfl⟩
  rw [hR]
  have HRR := Lib.hid hR
  have HT := Lib.hid (Two.made w (.slice none 0 0) (.slice none 0 0))
  have HS := Lib.hid hs
  by_cases h1 : th < 1
  · have HN := Lib.hid (show (([], []), 1) = R by rw [← hR, evT_arg (.inl h1)])
    clear hR
    go_enter Tryd.func74, Tryd.ntmps74
    go_upto_region 1 with fail
    generalize w.alloc (.cells #[.slice none 0 0, .slice none 0 0] 75) = W0 at *
    have g0 := blk_cell HT.out.2 0 (by simp)
    have g1 := blk_cell HT.out.2 1 (by simp)
    have f0 := blk_free HT.out.2 0
    have f1 := blk_free HT.out.2 1
    go_wp2_with fail
    (try simp only [Exit.inBlock, Exit.then])
    refine bodyPost_ret (v := .tuple #[.agg #[.slice none 0 0, .slice none 0 0], .int .i64 1]) ?_ rfl ?_
    · rw [results_cell_tmp rfl]
      go_simp
    rw [← HN.out]
    exact TQ.none _ (bset (bset HT.out.1 (Nat.le_refl _)) (Nat.le_refl _))
  have hz0 : (w.alloc (.cells #[.slice none 0 0, .slice none 0 0] 75)).heap.size = w.heap.size + 1 := by simp
  clear hR
  go_enter Tryd.func74, Tryd.ntmps74
  go_upto_region 1 with fail
  generalize w.alloc (.cells #[.slice none 0 0, .slice none 0 0] 75) = W0 at *
  go_wp2_with fail
  refine wp_loop (ReJ0 parts th A cap w W0) (fun a' _ => parts.length - (intOf (a'.tmps.getD 6 undef)).toNat) ?_ ?_
  · exact ⟨⟨rfl, rfl, rfl, rfl, rfl⟩, rfl, 0, rfl, Nat.zero_le _, fun v hv => absurd hv (Nat.not_lt_zero v)⟩
  · rintro a' W ⟨⟨hsz, hdf, s0, s1, s4⟩, hW, j, s6, hj, hgood⟩
    subst hW
    obtain ⟨u, rfl, hu⟩ := frame99 hsz hdf
    rw [hu] at s0 s1 s4 s6
    simp only [s0, s1, s4, s6]
    clear hsz hdf s0 s1 s4 s6 hu
    by_cases hjl : j < parts.length
    · obtain ⟨bp, op, hA, _, hcell⟩ := sl_g ((HS.out.below HT.out.1).more HT.out.1.size) (by omega)
      subst hA
      have h0 := hcell j hjl
      have i1 : (j : Int) < (parts.length : Int) := by omega
      have HBAD := Lib.hid (show parts.getD j 0 < 1 → (([], []), 1) = R from fun h => by rw [← HRR.out, evT_arg (.inr ⟨_, getD_mem hjl, h⟩)])
      have HGOOD := Lib.hid (show 1 ≤ parts.getD j 0 → ∀ v, v < j + 1 → 1 ≤ parts.getD v 0 from fun h v hv => by
        by_cases e : v = j
        · subst e; exact h
        · exact hgood v (by omega))
      clear hcell hgood
      generalize parts.getD j 0 = x at *
      by_cases hx : x < 1
      · have HN := Lib.hid (HBAD.out hx)
        have g0 := blk_cell HT.out.2 0 (by simp)
        have g1 := blk_cell HT.out.2 1 (by simp)
        have f0 := blk_free HT.out.2 0
        have f1 := blk_free HT.out.2 1
        go_wp2_with fail
        (try simp only [Exit.inBlock, Exit.then])
        refine bodyPost_ret (v := .tuple #[.agg #[.slice none 0 0, .slice none 0 0], .int .i64 1]) ?_ rfl ?_
        · rw [results_cell_tmp rfl]
          go_simp
        rw [← HN.out]
        exact TQ.none _ (bset (bset HT.out.1 (Nat.le_refl _)) (Nat.le_refl _))
      · have HN := Lib.hid (HGOOD.out (by omega))
        go_wp2_with fail
        go_roundw
        case rel => exact ⟨⟨rfl, rfl, rfl, rfl, rfl⟩, rfl, j + 1, by go_num, by omega, HN.out⟩
        case measure => simp [intOf]; omega
    · obtain rfl : j = parts.length := by omega
      have hge : ∀ n ∈ parts, 1 ≤ n := fun n hn => by
        obtain ⟨v, hv, rfl⟩ := mem_getD hn
        exact hgood v hv
      have HGE := Lib.hid hge
      have HNA := Lib.hid (show ¬ (th < 1 ∨ ∃ n ∈ parts, n < 1) from fun h => by
        rcases h with h | ⟨n, hn, h⟩
        · omega
        · have := hge n hn; omega)
      have i1 : ¬ (parts.length : Int) < (parts.length : Int) := by omega
      clear hge hgood
      obtain ⟨tgt, htgt⟩ : ∃ t, evB 32 parts [-1] 0 = t := ⟨_, rfl⟩
      have HTG := Lib.hid htgt
      clear htgt
      go_upto_region 9 with fail
      obtain ⟨W3, hw3⟩ : ∃ W3, (W.alloc (.cells #[.int .i64 (-1)] 3)).alloc (.cells #[.slice (some ⟨w.heap.size + 1, 0, none⟩) 1 1, .slice none 0 0] 75) = W3 := ⟨_, rfl⟩
      have HST := Lib.hid (re_start hz0 HT.out hw3)
      rw [hw3]
      clear hw3 HT hz0
      go_wp2_with fail
      refine wp_loop (ReJ1 parts th A cap w tgt) (fun a' _ => parts.length - (intOf (a'.tmps.getD 9 undef)).toNat) ?_ ?_
      · exact ⟨⟨rfl, rfl, rfl, rfl, rfl⟩, rfl, 0, 0, [-1], _, rfl, rfl, Nat.zero_le _, HST.out.1, HST.out.2, by decide, by decide, HTG.out⟩
      · rintro a' W ⟨⟨hsz, hdf, s0, s1, s4⟩, s7, i, f, ps, vp, s8, s9, hi, hev, htr, hf, hp32, hrun⟩
        clear HST
        have HEV := Lib.hid hev
        have HTR := Lib.hid htr
        obtain ⟨gp, cp, hvp, _⟩ := htr.1.cell (by omega)
        subst hvp
        obtain ⟨u, rfl, hu⟩ := frame99 hsz hdf
        rw [hu] at s0 s1 s4 s7 s8 s9
        simp only [s0, s1, s4, s7, s8, s9]
        clear hsz hdf s0 s1 s4 s7 s8 s9 hu
        have c6 := blk_cell hev.2.2 0 (by simp)
        by_cases hil : i < parts.length
        · obtain ⟨bp, op, hA, hbp, hcell⟩ := sl_g ((HS.out.below HEV.out.1).more HEV.out.1.size) (by omega)
          have hn1 := HGE.out _ (getD_mem hil)
          have hdrop : parts.drop i = parts.getD i 0 :: parts.drop (i + 1) := by
            rw [List.drop_eq_getElem_cons hil, List.getD_eq_getElem?_getD, List.getElem?_eq_getElem hil]
            rfl
          rw [hdrop] at hrun
          obtain ⟨k, hk0⟩ : ∃ k : Nat, parts.getD i 0 = (k : Int) := ⟨(parts.getD i 0).toNat, by omega⟩
          rw [hk0] at hrun hn1
          have HK := Lib.hid hk0
          have i2 : (i : Int) < (parts.length : Int) := by omega
          have HRUN := Lib.hid hrun
          have hk : 1 ≤ k := by omega
          clear hdrop hcell hev htr hrun hn1 hk0 hA hbp
          go_wp2_with fail
          refine wp_loop (ReJ2 parts th A cap w i k f ps) (fun a' _ => ps.length - (intOf (a'.tmps.getD 11 undef)).toNat) ?_ ?_
          · exact ⟨⟨rfl, rfl, rfl, rfl, rfl⟩, rfl, rfl, rfl, 0, ps, _, rfl, Nat.zero_le _, by rw [Nat.add_zero, rngI_self]; simp [grow], HEV.out, HTR.out, hp32⟩
          · rintro a' W2 ⟨⟨hsz, hdf, s0, s1, s4⟩, s7, s9, s10, y, ps2, vp2, s11, hy, hps2, hev2, htr2, h33⟩
            clear HEV HTR c6
            obtain ⟨u, rfl, hu⟩ := frame99 hsz hdf
            rw [hu] at s0 s1 s4 s7 s9 s10 s11
            simp only [s0, s1, s4, s7, s9, s10, s11]
            clear hsz hdf s0 s1 s4 s7 s9 s10 s11 hu
            have HEV2 := Lib.hid hev2
            have HTR2 := Lib.hid htr2
            have HPS := Lib.hid hps2
            by_cases hyl : y < ps.length - f
            · have i3 : ((f + y : Nat) : Int) < (ps.length : Int) := by omega
              have i3' : (f : Int) + (y : Int) < (ps.length : Int) := by omega
              clear hev2 htr2 hps2
              go_wp2_with fail
              refine wp_loop (ReJ3 parts th A cap w i k f y ps) (fun a' _ => k - (intOf (a'.tmps.getD 12 undef)).toNat) ?_ ?_
              · exact ⟨⟨rfl, rfl, rfl, rfl, rfl⟩, rfl, rfl, rfl, rfl, 0, ps2, vp2, rfl, Nat.zero_le _, by rw [HPS.out]; simp, HEV2.out, HTR2.out, h33⟩
              · rintro a' W4 ⟨⟨hsz, hdf, s0, s1, s4⟩, s7, s9, s10, s11, j, ps3, vp3, s12, hj, hps3, hev3, htr3, h33⟩
                clear HEV2 HTR2 HPS
                obtain ⟨u, rfl, hu⟩ := frame99 hsz hdf
                rw [hu] at s0 s1 s4 s7 s9 s10 s11 s12
                simp only [s0, s1, s4, s7, s9, s10, s11, s12]
                clear hsz hdf s0 s1 s4 s7 s9 s10 s11 s12 hu
                have HEV3 := Lib.hid hev3
                have HTR3 := Lib.hid htr3
                have hpl3 : 0 < ps3.length := by rw [hps3]; simp only [List.length_append]; omega
                obtain ⟨gp3, cp3, hvp3, _⟩ := htr3.1.cell hpl3
                subst hvp3
                obtain ⟨bp, op, hA, hbp, hcell⟩ := sl_g ((HS.out.below HEV3.out.1).more HEV3.out.1.size) (by omega)
                have h0 := hcell i hil
                rw [HK.out] at h0
                by_cases hjk : j < k
                · have i4 : (j : Int) < (k : Int) := by omega
                  have c6 := blk_cell hev3.2.2 0 (by simp)
                  have how := htr3.1.1
                  have hsz4 : w.heap.size + 1 ≤ W4.heap.size := by have := htr3.2.2.2.2.2.2; omega
                  have hjb : j ≤ ps3.length := by rw [hps3]; simp only [List.length_append, List.length_replicate]; omega
                  have HPS3 := Lib.hid (show ps3 ++ [((f + y : Nat) : Int)] = ps ++ grow (rngI f (f + y)) k ++ List.replicate (j + 1) ((f + y : Nat) : Int) by rw [hps3, rep_succ]; simp only [List.append_assoc])
                  clear hev3 htr3 hps3 hcell
                  subst hA
                  have hl1 : (ps3 ++ [((f + y : Nat) : Int)]).length = ps3.length + 1 := by simp
                  by_cases h32 : 32 < ps3.length + 1
                  · have i5 : (32 : Int) < (ps3.length : Int) + 1 := by omega
                    have i5' : (32 : Int) < ((ps3.length + 1 : Nat) : Int) := by omega
                    have hno : tgt = none := by
                      rw [← HRUN.out]
                      exact evB_no32 (k := k) (j := j) rfl hyl hjk (by rw [← HPS3.out, hl1]; exact h32)
                    have HN := Lib.hid (show (([], []), 8) = R by
                      rw [← HRR.out, evT_none HNA.out (HTG.out.trans hno)])
                    clear hno
                    go_wp2_with (at_builtin; refine wpList_append1_at (.tmp 57) (.tmp 59) 41 3 _ 1 8 rfl rfl Tryd.underlying41 infoI rfl (by decide) (w.heap.size + 1) _ _ _ _ _ _ _ _ how rfl rfl ?cgA rfl ?d1A ?d2A ?d3A ?d4A ?ckA; case' ckA => (intro vp' w2 hown2 hg2 hn2; obtain ⟨Ap, cpp, rfl, _, _, _⟩ := own_slice hown2.out; have HP2 := Lib.hid (HTR3.out.rot.push (x := ((f + y : Nat) : Int)) hown2.out hg2.out hn2.out); have HE2 := Lib.hid ((HEV3.out.mod HP2.out.2.1 HP2.out.2.2)); have e6 := blk_cell HE2.out.2.2 0 (by simp); have fr6 := blk_free HE2.out.2.2 0; have r0 := blk_cell HE2.out.2.1 0 (by simp); have r1 := blk_cell HE2.out.2.1 1 (by simp); have rf0 := blk_free HE2.out.2.1 0; have rf1 := blk_free HE2.out.2.1 1))
                    case cgA => first | rfl | simp
                    case d1A => simp [Value.oneCell']
                    case d2A => simp only [maxLen]; omega
                    case d3A => omega
                    try (case d4A => omega)
                    have HE3 := Lib.hid (HE2.out.set0 (.slice Ap (ps3.length + 1) cpp))
                    go_wp2_with fail
                    (try simp only [Exit.inBlock, Exit.then])
                    refine bodyPost_ret (v := .tuple #[.agg #[.slice none 0 0, .slice none 0 0], .int .i64 8]) ?_ rfl ?_
                    · rw [results_cell_tmp rfl]
                      go_simp
                    rw [← HN.out]
                    exact TQ.none _ (bset (bset HE3.out.1 (Nat.le_refl _)) (Nat.le_refl _))
                  · have i5 : ¬ (32 : Int) < (ps3.length : Int) + 1 := by omega
                    have i5' : ¬ (32 : Int) < ((ps3.length + 1 : Nat) : Int) := by omega
                    go_wp2_with (at_builtin; refine wpList_append1_at (.tmp 57) (.tmp 59) 41 3 _ 1 8 rfl rfl Tryd.underlying41 infoI rfl (by decide) (w.heap.size + 1) _ _ _ _ _ _ _ _ how rfl rfl ?cgB rfl ?d1B ?d2B ?d3B ?d4B ?ckB; case' ckB => (intro vp' w2 hown2 hg2 hn2; obtain ⟨Ap, cpp, rfl, _, _, _⟩ := own_slice hown2.out; have HP2 := Lib.hid (HTR3.out.rot.push (x := ((f + y : Nat) : Int)) hown2.out hg2.out hn2.out); have HE2 := Lib.hid ((HEV3.out.mod HP2.out.2.1 HP2.out.2.2)); have e6 := blk_cell HE2.out.2.2 0 (by simp); have fr6 := blk_free HE2.out.2.2 0; have r0 := blk_cell HE2.out.2.1 0 (by simp); have r1 := blk_cell HE2.out.2.1 1 (by simp); have rf0 := blk_free HE2.out.2.1 0; have rf1 := blk_free HE2.out.2.1 1))
                    case cgB => first | rfl | simp
                    case d1B => simp [Value.oneCell']
                    case d2B => simp only [maxLen]; omega
                    case d3B => omega
                    try (case d4B => omega)
                    have HE3 := Lib.hid (HE2.out.set0 (.slice Ap (ps3.length + 1) cpp))
                    go_wp2_with fail
                    go_roundw
                    case rel => exact ⟨⟨rfl, rfl, rfl, rfl, rfl⟩, rfl, rfl, rfl, rfl, j + 1, ps3 ++ [((f + y : Nat) : Int)], _, by go_num, by omega, HPS3.out, HE3.out, HP2.out.1.rot.rot.set _, by rw [hl1]; omega⟩
                    case measure => simp [intOf]; omega
                · obtain rfl : j = k := by omega
                  have i4 : ¬ (j : Int) < (j : Int) := by omega
                  have HPS4 := Lib.hid (show ps3 = ps ++ grow (rngI f (f + (y + 1))) j by rw [hps3, grow_step, List.append_assoc])
                  clear hev3 htr3 hps3 hcell
                  subst hA
                  go_wp2_with fail
                  go_roundw
                  case rel => exact ⟨⟨rfl, rfl, rfl, rfl, rfl⟩, rfl, rfl, rfl, y + 1, ps3, _, by go_num, by omega, HPS4.out, HEV3.out, HTR3.out, h33⟩
                  case measure => simp [intOf]; omega
            · obtain rfl : y = ps.length - f := by omega
              have i3 : ¬ ((f + (ps.length - f) : Nat) : Int) < (ps.length : Int) := by omega
              have hfl : f + (ps.length - f) = ps.length := by omega
              have i3' : ¬ (f : Int) + ((ps.length - f : Nat) : Int) < (ps.length : Int) := by omega
              rw [hfl] at hps2
              have hgl : 1 * 1 ≤ (grow (rngI f ps.length) k).length := by rw [grow_len, rngI_len]; exact Nat.mul_le_mul (by omega) hk
              have hlt2 : ps.length < ps2.length := by rw [hps2, List.length_append]; omega
              have HRUN2 := Lib.hid (show evB 32 (parts.drop (i + 1)) ps2 ps.length = tgt by
                rw [← HRUN.out, evB_go32 (k := k) rfl (by rw [← hps2]; exact h33), ← hps2])
              clear hev2 htr2 hps2 hgl
              go_wp2_with fail
              go_roundw
              case rel => exact ⟨⟨rfl, rfl, rfl, rfl, rfl⟩, rfl, i + 1, ps.length, ps2, vp2, rfl, by go_num, by omega, HEV2.out, HTR2.out, hlt2, h33, HRUN2.out⟩
              case measure => simp [intOf]; omega
        · obtain rfl : i = parts.length := by omega
          have i2 : ¬ (parts.length : Int) < (parts.length : Int) := by omega
          rw [List.drop_length] at hrun
          have htg : evB 32 parts [-1] 0 = some (ps, f) := HTG.out.trans hrun.symm
          obtain ⟨m, rfl⟩ : ∃ m : Nat, th = (m : Int) := ⟨th.toNat, by omega⟩
          have HRF := Lib.hid ((evT_ref HNA.out htg).symm.trans HRR.out)
          rw [Int.toNat_natCast] at HRF
          clear hrun htg hev htr
          go_wp2_with fail
          refine wp_loop (ReJ4 parts (m : Int) A cap w m f ps (.slice (some ⟨gp, 0, none⟩) ps.length cp)) (fun a' _ => ps.length - (intOf (a'.tmps.getD 13 undef)).toNat) ?_ ?_
          · exact ⟨⟨rfl, rfl, rfl, rfl, rfl⟩, rfl, 0, [], _, rfl, Nat.zero_le _, by rw [Nat.add_zero, rngI_self]; rfl, HEV.out, HTR.out, by simp⟩
          · rintro a' W2 ⟨⟨hsz, hdf, s0, s1, s4⟩, s7, y, ts, vt, s13, hy, hts, hev2, htr2, h33⟩
            clear HEV HTR c6
            obtain ⟨u, rfl, hu⟩ := frame99 hsz hdf
            rw [hu] at s0 s1 s4 s7 s13
            simp only [s0, s1, s4, s7, s13]
            clear hsz hdf s0 s1 s4 s7 s13 hu
            have HEV2 := Lib.hid hev2
            have HTR2 := Lib.hid htr2
            have HTS := Lib.hid hts
            have c6 := blk_cell hev2.2.2 0 (by simp)
            by_cases hyl : y < ps.length - f
            · have i3 : ((f + y : Nat) : Int) < (ps.length : Int) := by omega
              have i3' : (f : Int) + (y : Int) < (ps.length : Int) := by omega
              clear hev2 htr2 hts
              go_wp2_with fail
              refine wp_loop (ReJ5 parts (m : Int) A cap w m f y ps (.slice (some ⟨gp, 0, none⟩) ps.length cp)) (fun a' _ => m - (intOf (a'.tmps.getD 14 undef)).toNat) ?_ ?_
              · exact ⟨⟨rfl, rfl, rfl, rfl, rfl⟩, rfl, rfl, 0, ts, vt, rfl, Nat.zero_le _, by rw [HTS.out]; simp, HEV2.out, HTR2.out, h33⟩
              · rintro a' W4 ⟨⟨hsz, hdf, s0, s1, s4⟩, s7, s13, j, ts3, vt3, s14, hj, hts3, hev3, htr3, h33⟩
                clear HEV2 HTR2 HTS c6
                obtain ⟨u, rfl, hu⟩ := frame99 hsz hdf
                rw [hu] at s0 s1 s4 s7 s13 s14
                simp only [s0, s1, s4, s7, s13, s14]
                clear hsz hdf s0 s1 s4 s7 s13 s14 hu
                have HEV3 := Lib.hid hev3
                have HTR3 := Lib.hid htr3
                by_cases hjm : j < m
                · have i4 : (j : Int) < (m : Int) := by omega
                  obtain ⟨At3, ct3, hvt, _⟩ := htr3.2.2.1.slice
                  subst hvt
                  have c6 := blk_cell hev3.2.2 1 (by simp)
                  have how := htr3.own
                  have hsz4 : w.heap.size + 1 ≤ W4.heap.size := by have := htr3.2.2.2.2.2.2; omega
                  have hjb : j ≤ ts3.length := by rw [hts3]; simp only [List.length_append, List.length_replicate]; omega
                  have HTS3 := Lib.hid (show ts3 ++ [((f + y : Nat) : Int)] = grow (rngI f (f + y)) m ++ List.replicate (j + 1) ((f + y : Nat) : Int) by rw [hts3, rep_succ]; simp only [List.append_assoc])
                  have hl1 : (ts3 ++ [((f + y : Nat) : Int)]).length = ts3.length + 1 := by simp
                  clear hev3 htr3 hts3
                  by_cases h32 : 32 < ts3.length + 1
                  · have i5 : (32 : Int) < (ts3.length : Int) + 1 := by omega
                    have i5' : (32 : Int) < ((ts3.length + 1 : Nat) : Int) := by omega
                    have HN := Lib.hid (show (([], []), 8) = R by
                      have hb := grow_big (f := f) (u := y) (n := ps.length) (j := j) (by omega) hjm (by rw [← HTS3.out, hl1]; exact h32)
                      rw [← HRF.out, if_pos hb])
                    go_wp2_with (at_builtin; refine wpList_append1_at (.tmp 82) (.tmp 84) 41 3 _ 1 8 rfl rfl Tryd.underlying41 infoI rfl (by decide) (w.heap.size + 1) _ _ _ _ _ _ _ _ how rfl rfl ?cgC rfl ?d1C ?d2C ?d3C ?d4C ?ckC; case' ckC => (intro vp' w2 hown2 hg2 hn2; obtain ⟨Ap, cpp, rfl, _, _, _⟩ := own_slice hown2.out; have HP2 := Lib.hid (HTR3.out.push (x := ((f + y : Nat) : Int)) hown2.out hg2.out hn2.out); have HE2 := Lib.hid ((HEV3.out.mod HP2.out.2.1 HP2.out.2.2)); have e6 := blk_cell HE2.out.2.2 1 (by simp); have fr6 := blk_free HE2.out.2.2 1; have r0 := blk_cell HE2.out.2.1 0 (by simp); have r1 := blk_cell HE2.out.2.1 1 (by simp); have rf0 := blk_free HE2.out.2.1 0; have rf1 := blk_free HE2.out.2.1 1))
                    case cgC => first | rfl | simp
                    case d1C => simp [Value.oneCell']
                    case d2C => simp only [maxLen]; omega
                    case d3C => omega
                    try (case d4C => omega)
                    have HE3 := Lib.hid (HE2.out.set1 (.slice Ap (ts3.length + 1) cpp))
                    go_wp2_with fail
                    (try simp only [Exit.inBlock, Exit.then])
                    refine bodyPost_ret (v := .tuple #[.agg #[.slice none 0 0, .slice none 0 0], .int .i64 8]) ?_ rfl ?_
                    · rw [results_cell_tmp rfl]
                      go_simp
                    rw [← HN.out]
                    exact TQ.none _ (bset (bset HE3.out.1 (Nat.le_refl _)) (Nat.le_refl _))
                  · have i5 : ¬ (32 : Int) < (ts3.length : Int) + 1 := by omega
                    have i5' : ¬ (32 : Int) < ((ts3.length + 1 : Nat) : Int) := by omega
                    go_wp2_with (at_builtin; refine wpList_append1_at (.tmp 82) (.tmp 84) 41 3 _ 1 8 rfl rfl Tryd.underlying41 infoI rfl (by decide) (w.heap.size + 1) _ _ _ _ _ _ _ _ how rfl rfl ?cgD rfl ?d1D ?d2D ?d3D ?d4D ?ckD; case' ckD => (intro vp' w2 hown2 hg2 hn2; obtain ⟨Ap, cpp, rfl, _, _, _⟩ := own_slice hown2.out; have HP2 := Lib.hid (HTR3.out.push (x := ((f + y : Nat) : Int)) hown2.out hg2.out hn2.out); have HE2 := Lib.hid ((HEV3.out.mod HP2.out.2.1 HP2.out.2.2)); have e6 := blk_cell HE2.out.2.2 1 (by simp); have fr6 := blk_free HE2.out.2.2 1; have r0 := blk_cell HE2.out.2.1 0 (by simp); have r1 := blk_cell HE2.out.2.1 1 (by simp); have rf0 := blk_free HE2.out.2.1 0; have rf1 := blk_free HE2.out.2.1 1))
                    case cgD => first | rfl | simp
                    case d1D => simp [Value.oneCell']
                    case d2D => simp only [maxLen]; omega
                    case d3D => omega
                    try (case d4D => omega)
                    have HE3 := Lib.hid (HE2.out.set1 (.slice Ap (ts3.length + 1) cpp))
                    go_wp2_with fail
                    go_roundw
                    case rel => exact ⟨⟨rfl, rfl, rfl, rfl, rfl⟩, rfl, rfl, j + 1, ts3 ++ [((f + y : Nat) : Int)], _, by go_num, by omega, HTS3.out, HE3.out, HP2.out.1.set _, by rw [hl1]; omega⟩
                    case measure => simp [intOf]; omega
                · obtain rfl : j = m := by omega
                  have i4 : ¬ (j : Int) < (j : Int) := by omega
                  have HTS4 := Lib.hid (show ts3 = grow (rngI f (f + (y + 1))) j by rw [hts3, grow_step])
                  clear hev3 htr3 hts3
                  go_wp2_with fail
                  go_roundw
                  case rel => exact ⟨⟨rfl, rfl, rfl, rfl, rfl⟩, rfl, y + 1, ts3, _, by go_num, by omega, HTS4.out, HEV3.out, HTR3.out, h33⟩
                  case measure => simp [intOf]; omega
            · obtain rfl : y = ps.length - f := by omega
              have i3 : ¬ ((f + (ps.length - f) : Nat) : Int) < (ps.length : Int) := by omega
              have i3' : ¬ (f : Int) + ((ps.length - f : Nat) : Int) < (ps.length : Int) := by omega
              have hfl : f + (ps.length - f) = ps.length := by omega
              rw [hfl] at hts
              have HFIN := Lib.hid (show fin ps ts = R by rw [← HRF.out, ← hts, if_neg (by omega)])
              obtain ⟨At, ct, rfl, st⟩ := htr2.2.2.1.slice
              obtain ⟨Ap, ca, hap, sa⟩ := htr2.1.slice
              injection hap with hap1 hap2 hap3
              subst hap1 hap3
              have HCK := Lib.hid (rcheck_any ps ts (some ⟨gp, 0, none⟩) At cp ct W2 (by omega) (by omega) sa st)
              have O2 := Lib.hid htr2.1.1
              have O3 := Lib.hid htr2.2.2.1.1
              have k1 := blk_cell hev2.2.2 1 (by simp)
              clear hev2 htr2 hts sa st HTR2 HTS HRF
              go_wp2_with fail
              refine HCK.out.mono ?_
              rintro e w5 ⟨rfl, b5⟩
              have HT : Hid (Two w w5 (.slice none 0 0) (.slice none 0 0)) := Lib.hid (Two.step ⟨HEV2.out.1, HEV2.out.2.1⟩ b5)
              have O2 := Lib.hid (own_below O2.out (Nat.le_refl _) b5)
              have O3 := Lib.hid (own_below O3.out (Nat.le_refl _) b5)
              have GB := Lib.hid ((b5.block _ (lt_of_blk HEV2.out.2.2)).trans HEV2.out.2.2)
              clear b5 c6 k1 HCK
              by_cases hc : chk ps ts = 0
              · have HN := Lib.hid (show ((ps, ts), 0) = R by rw [← HFIN.out]; exact (fin_ok hc).symm)
                have q3 := ibne_no hc
                clear hc
                generalize chk ps ts = ck at *
                have g0 := blk_cell HT.out.2 0 (by simp)
                have g1 := blk_cell HT.out.2 1 (by simp)
                have f0 := blk_free HT.out.2 0
                have f1 := blk_free HT.out.2 1
                have k0 := blk_cell GB.out 0 (by simp)
                have k1 := blk_cell GB.out 1 (by simp)
                go_wp2_with fail
                (try simp only [Exit.inBlock, Exit.then])
                refine bodyPost_ret (v := .tuple #[.agg #[.slice (some ⟨gp, 0, none⟩) ps.length cp, .slice At ts.length ct], .int .i64 0]) ?_ rfl ?_
                · rw [results_cell_tmp rfl]
                  go_simp
                rw [← HN.out]
                exact ⟨_, cp, At, ct, rfl, own_set2 O2.out (by omega) _ _, own_set2 O3.out (by omega) _ _, bset (bset HT.out.1 (Nat.le_refl _)) (Nat.le_refl _)⟩
              · have HN := Lib.hid (show (([], []), chk ps ts) = R by rw [← HFIN.out]; exact (fin_no hc).symm)
                have q3 := ibne hc
                clear hc
                generalize chk ps ts = ck at *
                have g0 := blk_cell HT.out.2 0 (by simp)
                have g1 := blk_cell HT.out.2 1 (by simp)
                have f0 := blk_free HT.out.2 0
                have f1 := blk_free HT.out.2 1
                go_wp2_with fail
                (try simp only [Exit.inBlock, Exit.then])
                refine bodyPost_ret (v := .tuple #[.agg #[.slice none 0 0, .slice none 0 0], .int .i64 ck]) ?_ rfl ?_
                · rw [results_cell_tmp rfl]
                  go_simp
                rw [← HN.out]
                exact TQ.none _ (bset (bset HT.out.1 (Nat.le_refl _)) (Nat.le_refl _))
end Go.Proofs.YtcfdphfochfeoaaDoor.Tp
