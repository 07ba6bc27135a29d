/- Layer 18's law McsOne. -/
import Derived.Test.YthffhhgaeolpgaaMcA
import Derived.Test.YthffhhgaeolpgaaReg
import Derived.Lib.QuietBelow
import Derived.Deep.Cut
import Derived.Deep.CutBlock
import Derived.Deep.RegionHeld3
namespace Go.Proofs.Ythffhhgaeolpgaa.Mc
open Go.RowKit Go.Proofs.Ythffhhgaeolpgaa.Ara Go.Proofs.Ythffhhgaeolpgaa.Lok Go.Sort

theorem frame166 {a : Act} (h : a.tmps.size = 166) (hd : a.defers = []) : ∃ u : Nat → Value, a = { tmps := #[u 0, u 1, u 2, u 3, u 4, u 5, u 6, u 7, u 8, u 9, u 10, u 11, u 12, u 13, u 14, u 15, u 16, u 17, u 18, u 19, u 20, u 21, u 22, u 23, u 24, u 25, u 26, u 27, u 28, u 29, u 30, u 31, u 32, u 33, u 34, u 35, u 36, u 37, u 38, u 39, u 40, u 41, u 42, u 43, u 44, u 45, u 46, u 47, u 48, u 49, u 50, u 51, u 52, u 53, u 54, u 55, u 56, u 57, u 58, u 59, u 60, u 61, u 62, u 63, u 64, u 65, u 66, u 67, u 68, u 69, u 70, u 71, u 72, u 73, u 74, u 75, u 76, u 77, u 78, u 79, u 80, u 81, u 82, u 83, u 84, u 85, u 86, u 87, u 88, u 89, u 90, u 91, u 92, u 93, u 94, u 95, u 96, u 97, u 98, u 99, u 100, u 101, u 102, u 103, u 104, u 105, u 106, u 107, u 108, u 109, u 110, u 111, u 112, u 113, u 114, u 115, u 116, u 117, u 118, u 119, u 120, u 121, u 122, u 123, u 124, u 125, u 126, u 127, u 128, u 129, u 130, u 131, u 132, u 133, u 134, u 135, u 136, u 137, u 138, u 139, u 140, u 141, u 142, u 143, u 144, u 145, u 146, u 147, u 148, u 149, u 150, u 151, u 152, u 153, u 154, u 155, u 156, u 157, u 158, u 159, u 160, u 161, u 162, u 163, u 164, u 165], defers := [] } ∧ ∀ n, a.tmps.getD n undef = u n := by
  refine ⟨fun n => a.tmps.getD n undef, ?_, fun _ => rfl⟩
  have h1 := arr_lit a.tmps h
  cases a with
  | mk t d =>
    simp only at hd h1
    subst hd
    congr 1
theorem take100 (k : Nat) (h1 : k ≤ 32) : (Ar.fresh (room 100)).take (1 + 2 * (k : Int)) = ((1, 0), ⟨zerosW 100, 1 + 2 * k, 0, 0, 0, false⟩) := by
  unfold Ar.take
  rw [if_neg (by omega), if_neg (by simp [Ar.fresh, zerosW, room]; omega), show (1 + 2 * (k : Int)).toNat = 1 + 2 * k by omega]
  simp [Ar.fresh, room]
def OneJ (l : List Ac) (A : Option Addr) (cap N gl ga ha hs : Nat) (P : Par) (w : World) (a : Act) (W : World) : Prop :=
  a.tmps.size = 166 ∧ a.defers = [] ∧ a.tmps.getD 1 undef = .slice A l.length cap ∧ a.tmps.getD 5 undef = .int .i64 N ∧ a.tmps.getD 6 undef = .pointer (some ⟨ga, 0, none⟩) ∧ a.tmps.getD 7 undef = .pointer (some ⟨gl, 0, none⟩) ∧
    ∃ (k : Nat) (σ : Ar) (sp : List Sp), a.tmps.getD 9 undef = .int .i64 k ∧ k ≤ l.length ∧ OkP P σ sp N k ∧ LkAt W gl ga ha hs P σ sp ∧ Below w.heap.size w W
def OneC (l : List Ac) (b off cap N gl ga ha hs : Nat) (P : Par) (k bw : Nat) (kd pc : Int) (ok : Bool) (σ : Ar) (sp : List Sp) (w : World) (a : Act) (W : World) : Prop :=
  a.tmps.size = 166 ∧ a.defers = [] ∧ a.tmps.getD 1 undef = .slice (some ⟨b, off, none⟩) l.length cap ∧ a.tmps.getD 5 undef = .int .i64 N ∧ a.tmps.getD 6 undef = .pointer (some ⟨ga, 0, none⟩) ∧ a.tmps.getD 7 undef = .pointer (some ⟨gl, 0, none⟩) ∧ a.tmps.getD 9 undef = .int .i64 k ∧ a.tmps.getD 10 undef = .pointer (some ⟨bw, 0, none⟩) ∧ a.tmps.getD 13 undef = .bool ok ∧
    ∃ j : Nat, a.tmps.getD 17 undef = .int .i64 j ∧ j ≤ N ∧ a.tmps.getD 15 undef = .int .i64 (cnt (fun s => s.pc == 10) sp j) ∧ a.tmps.getD 16 undef = .int .i64 (cnt (fun s => decide (0 < s.pc) && decide (s.pc < 10)) sp j) ∧
    LkAt W gl ga ha hs P σ sp ∧ Below w.heap.size w W ∧ W.cell? ⟨b, off + k * 2, none⟩ = some (.int .i64 kd) ∧ W.cell? ⟨bw, 0, none⟩ = some (.int .i64 pc)
/-- Ahead of the test of an act; behind it. -/
def OneA (l : List Ac) (b off cap N gl ga : Nat) (k bw : Nat) (Aw : Option Addr) (cw o t : Nat) (ok asks : Bool) (W0 : World) (a : Act) (W : World) : Prop :=
  a.tmps.size = 166 ∧ a.defers = [] ∧ a.tmps.getD 1 undef = .slice (some ⟨b, off, none⟩) l.length cap ∧ a.tmps.getD 5 undef = .int .i64 N ∧ a.tmps.getD 6 undef = .pointer (some ⟨ga, 0, none⟩) ∧ a.tmps.getD 7 undef = .pointer (some ⟨gl, 0, none⟩) ∧ a.tmps.getD 9 undef = .int .i64 k ∧ a.tmps.getD 10 undef = .pointer (some ⟨bw, 0, none⟩) ∧ a.tmps.getD 11 undef = .int .i64 o ∧ a.tmps.getD 12 undef = .slice Aw t cw ∧ a.tmps.getD 13 undef = .bool ok ∧ a.tmps.getD 14 undef = .bool asks ∧ W = W0
def OneB (l : List Ac) (b off cap N gl ga ha hs : Nat) (P : Par) (k bw : Nat) (kd pc : Int) (ok : Bool) (σ : Ar) (sp : List Sp) (w : World) (a : Act) (W : World) : Prop :=
  a.tmps.size = 166 ∧ a.defers = [] ∧ a.tmps.getD 1 undef = .slice (some ⟨b, off, none⟩) l.length cap ∧ a.tmps.getD 5 undef = .int .i64 N ∧ a.tmps.getD 6 undef = .pointer (some ⟨ga, 0, none⟩) ∧ a.tmps.getD 7 undef = .pointer (some ⟨gl, 0, none⟩) ∧ a.tmps.getD 9 undef = .int .i64 k ∧ a.tmps.getD 10 undef = .pointer (some ⟨bw, 0, none⟩) ∧ a.tmps.getD 13 undef = .bool ok ∧ a.tmps.getD 120 undef = .bool false ∧
    LkAt W gl ga ha hs P σ sp ∧ Below w.heap.size w W ∧ W.cell? ⟨b, off + k * 2, none⟩ = some (.int .i64 kd) ∧ W.cell? ⟨bw, 0, none⟩ = some (.int .i64 pc)
set_option maxHeartbeats 8000000 in
set_option maxRecDepth 100000 in
theorem one_walk (n : Int) (n0 : 0 ≤ n) (n1 : n ≤ 255) (l : List Ac) (A : Option Addr) (cap : Nat) (w : World) (hl : l.length ≤ 100) (hs : Sl w w.heap.size A (l.flatMap decAc)) :
    Calls Try.prog 7 #[.int .u8 n, .slice A l.length cap] w fun e w' => e = .returned (.bool true) ∧ Below w.heap.size w w' := by
  have i1 : (l.length : Int) ≤ 100 := by omega
  have m0 : 0 ≤ n % 8 := by omega
  have m1 : n % 8 < 8 := by omega
  have m2 : 0 ≤ n / 8 % 4 := by omega
  have m3 : n / 8 % 4 < 4 := by omega
  obtain ⟨N, hN⟩ := Int.eq_ofNat_of_zero_le (show 0 ≤ 1 + n % 8 by omega)
  have hN1 : 1 ≤ N := by omega
  have hN2 : N ≤ 8 := by omega
  have HSl := Lib.hid hs
  clear hs
  go_enter Try.func7, Try.ntmps7
  go_wp2_with fail
  refine (new_at 100 _ _ rfl).mono ?_
  rintro e w1 ⟨rfl, hat⟩
  go_wp2_with fail
  have HN := new_lk (w.heap.size + 1) w.heap.size _ _ w1 hat.1 (by have := hat.2.1; omega) N hN1 (by omega) 1 (by omega) (by omega) (take100 N (by omega)) (by show 0 ≤ _; omega)
  replace HN := Lib.hid HN
  refine HN.out.mono ?_
  rintro e w2 ⟨gl, hs, rfl, hk, hgl, hhs, hmn⟩
  obtain ⟨P, x0, HK, HO⟩ : ∃ (P : Par) (x : Ar × List Sp), Hid (LkAt w2 gl (w.heap.size + 1) w.heap.size hs P x.1 x.2) ∧ Hid (OkP P x.1 x.2 N 0) := ⟨_, first1 N, hk, OkP.first N (by omega)⟩
  have HB := Lib.hid (hat.2.2.trans (hmn.below (by have := hat.2.1; omega) (by simp)))
  have HG := Lib.hid (show w.heap.size ≤ gl ∧ w.heap.size ≤ hs from by have := hat.2.1; omega)
  clear hk hmn hgl hhs HN hat
  go_wp2_with fail
  refine wp_loop (OneJ l A cap N gl (w.heap.size + 1) w.heap.size hs P w) (fun a' _ => l.length - (intOf (a'.tmps.getD 9 undef)).toNat) ?_ ?_
  · exact ⟨rfl, rfl, rfl, rfl, rfl, rfl, 0, _, _, rfl, Nat.zero_le _, HO.out, HK.out, HB.out⟩
  · clear HO HK HB
    rintro a' W ⟨hsz, hdf, s1, s5, s6, s7, k, σ, sp, s9, hk, hO, hK, hB⟩
    obtain ⟨u, rfl, hu⟩ := frame166 hsz hdf
    rw [hu] at s1 s5 s6 s7 s9
    simp only [s1, s5, s6, s7, s9]
    clear hsz hdf s1 s5 s6 s7 s9 hu
    have HO := Lib.hid hO
    have HK := Lib.hid hK
    have HB := Lib.hid hB
    clear hO hK
    have hBW := hB.size
    by_cases hlt : k < l.length
    · obtain ⟨b, off, rfl, hbb, hcell⟩ := Sl_at (k := 2) (fun _ => rfl) (by omega) (HSl.out.below hB) (by omega)
      have c0 := hcell k hlt 0 (by omega)
      have c1 := hcell k hlt 1 (by omega)
      simp only [decAc, List.getElem?_cons_zero, List.getElem?_cons_succ, Nat.add_zero, ← Nat.add_assoc] at c0 c1
      clear hcell hB
      generalize l[k] = x at *
      obtain ⟨kd, i⟩ := x
      simp only at c0 c1
      have hNum := HO.out.num (by omega)
      have HNum := Lib.hid hNum
      clear hNum
      have HSp := Lib.hid (Spot_lk gl (w.heap.size + 1) w.heap.size hs P σ sp W HK.out i)
      generalize hwas : spOf sp i = was at HSp
      have HWas := Lib.hid hwas
      clear hwas
      go_wp2_with fail
      refine HSp.out.mono ?_
      rintro e w3 ⟨rfl, hb3⟩
      have HK3 := Lib.hid (HK.out.same hb3)
      go_wp2_with fail
      refine (ops_any _ _ σ _ HK3.out.1).mono ?_
      rintro e wx ⟨rfl, hwx⟩
      obtain rfl := hwx.symm
      go_wp2_with fail
      refine (words_own _ _ σ _ HK3.out.1 _ _ rfl rfl).mono ?_
      rintro e w4 ⟨Aw, cw, rfl, hsw, hb4⟩
      have c0 := keep1 hb4 (keep1 hb3 c0)
      have c1 := keep1 hb4 (keep1 hb3 c1)
      have hbx := below_new w4 (.cells #[.int .i64 was.pc, .int .i64 was.a, .int .i64 was.b, .int .i64 was.c] 31)
      have hbk := blk_new w4 (.cells #[.int .i64 was.pc, .int .i64 was.a, .int .i64 was.b, .int .i64 was.c] 31)
      have d0 := keep1 hbx c0
      have d1 := keep1 hbx c1
      have HK5 := Lib.hid ((HK3.out.same hb4).same hbx)
      have HB5 := Lib.hid (HB.out.trans ((hb3.mono hBW).trans ((hb4.mono (Nat.le_trans hBW hb3.size)).trans (hbx.mono (Nat.le_trans hBW (Nat.le_trans hb3.size hb4.size))))))
      have HSw := Lib.hid (hsw.same hbx)
      have hx1 : hs < w3.heap.size := by have := HK.out.2.1.lt; have := hb3.size; omega
      have hx2 : w.heap.size + 1 < w3.heap.size := by have := HK.out.1.lt; have := hb3.size; omega
      have hx3 : w3.heap.size ≤ w4.heap.size := hb4.size
      have HBK := Lib.hid hbk
      have hx4 : (σ.ops : Int) ≤ 101 := by have := HO.out.ops; omega
      have hx5 : σ.t ≤ 4096 := by have := HK5.out.1.1; have := HK5.out.1.2.1; omega
      have HSR := Lib.hid hx5
      have HLen := Lib.hid (show (σ.ws.take σ.t).length = σ.t by have := HK5.out.1.1; simp; omega)
      clear hbx hbk hb3 hb4 hsw HK3 HB HK c0 c1 hx5
      go_wp2_with fail
      generalize w4.alloc (.cells #[.int .i64 was.pc, .int .i64 was.a, .int .i64 was.b, .int .i64 was.c] 31) = W5 at *
      generalize w4.heap.size = bw at *
      have HO2 := HO.out.act kd i
      have HD := do_lk gl (w.heap.size + 1) w.heap.size hs P σ sp W5 HK5.out HNum.out kd i
      have F1 := HO2.one
      have F3 : kd = 3 → was.pc = 10 → (doP P σ sp kd i).1 = false → 0 < cnt (fun s => decide (0 < s.pc) && decide (s.pc < 10)) (doP P σ sp kd i).2.2 N := by
        rintro rfl h1 h2
        rw [do_three]
        exact HO.out.behind i (by rw [HWas.out]; exact h1) h2
      have FA := do_asks P σ sp kd i
      have FW := do_words P σ sp kd i
      have FO := do_ops P σ sp kd i
      generalize (doP P σ sp kd i).1 = ok at *
      generalize (doP P σ sp kd i).2.1 = σ2 at *
      generalize (doP P σ sp kd i).2.2 = sp2 at *
      replace HD := Lib.hid HD
      replace F1 := Lib.hid F1
      replace F3 := Lib.hid F3
      replace FA := Lib.hid FA
      replace FW := Lib.hid FW
      replace HO2 := Lib.hid HO2
      obtain ⟨fo1, _⟩ := FO
      have fo2 : (σ2.ops : Int) ≤ (σ.ops : Int) + 1 := by omega
      have fo3 : IntKind.i64.wrap ((σ.ops : Int) + 1) = (σ.ops : Int) + 1 := IntWalk.i64_in _ (by omega)
      have fo4 : decide ((σ.ops : Int) + 1 < (σ2.ops : Int)) = false := decide_eq_false (by omega)
      refine HD.out.mono ?_
      rintro e W6 ⟨rfl, h6, hm6⟩
      have HK6 := Lib.hid h6
      have HB6 := Lib.hid (HB5.out.trans (hm6.below HB5.out.size (by have := HG.out; simp; omega)))
      have HSw6 := Lib.hid (HSw.out.mod hm6 (by simp; omega))
      have hbk6 := hm6.blk HBK.out (by simp; omega)
      have d0 := keepM hm6 d0 (by have := HG.out; simp; omega)
      have d1 := keepM hm6 d1 (by have := HG.out; simp; omega)
      have b0 := blk_cell hbk6 0 (by simp)
      have b1 := blk_cell hbk6 1 (by simp)
      have b2 := blk_cell hbk6 2 (by simp)
      have b3 := blk_cell hbk6 3 (by simp)
      simp only [List.getElem_toArray, List.getElem_cons_zero, List.getElem_cons_succ] at b0 b1 b2 b3
      have HS6 := And.intro d0 (And.intro d1 (And.intro b0 (And.intro b1 (And.intro b2 b3))))
      replace HS6 := Lib.hid HS6
      clear h6 hm6 hbk6 HBK HD HK5 HB5 HSw HSp HNum fo1 d1 b0 b1 b2 b3
      go_upto_region 13 with fail
      refine wp_cut (OneA l b off cap N gl (w.heap.size + 1) k bw Aw cw σ.ops σ.t ok (kd == 1 || kd == 2) W6) ?_ ?_
      · generalize hasks : (kd == 1 || kd == 2) = asks
        have HAsks := Lib.hid hasks
        clear hasks
        rintro a' W ⟨hsz, hdf, s1, s5, s6, s7, s9, s10, s11, s12, s13, s14, hW⟩
        subst hW
        obtain ⟨u, rfl, hu⟩ := frame166 hsz hdf
        rw [hu] at s1 s5 s6 s7 s9 s10 s11 s12 s13 s14
        simp only [s1, s5, s6, s7, s9, s10, s11, s12, s13, s14]
        clear hsz hdf s1 s5 s6 s7 s9 s10 s11 s12 s13 s14 hu
        go_upto_region 14 with fail
        refine wp_cut (OneB l b off cap N gl (w.heap.size + 1) w.heap.size hs P k bw kd was.pc ok σ2 sp2 w) ?_ ?_
        · clear HK6 HB6 HSw6 HS6 d0 fo2 fo3 fo4 HAsks
          rintro a' W9 ⟨hsz, hdf, s1, s5, s6, s7, s9, s10, s13, s125, hK9, hB9, hC9⟩
          obtain ⟨u, rfl, hu⟩ := frame166 hsz hdf
          rw [hu] at s1 s5 s6 s7 s9 s10 s13 s125
          simp only [s1, s5, s6, s7, s9, s10, s13, s125]
          clear hsz hdf s1 s5 s6 s7 s9 s10 s13 s125 hu
          have HK9 := Lib.hid hK9
          have HB9 := Lib.hid hB9
          have HC9 := Lib.hid hC9
          clear hK9 hB9 hC9
          go_wp2_with fail
          refine wp_loop (OneC l b off cap N gl (w.heap.size + 1) w.heap.size hs P k bw kd was.pc ok σ2 sp2 w) (fun a' _ => N - (intOf (a'.tmps.getD 17 undef)).toNat) ?_ ?_
          · exact ⟨rfl, rfl, rfl, rfl, rfl, rfl, rfl, rfl, rfl, 0, rfl, Nat.zero_le _, rfl, rfl, HK9.out, HB9.out, HC9.out⟩
          · clear HK9 HB9 HC9
            rintro a' W ⟨hsz, hdf, s1, s5, s6, s7, s9, s10, s13, j, s17, hj, s15, s16, hK, hB, hkc, hbc⟩
            obtain ⟨u, rfl, hu⟩ := frame166 hsz hdf
            rw [hu] at s1 s5 s6 s7 s9 s10 s13 s17 s15 s16
            simp only [s1, s5, s6, s7, s9, s10, s13, s17, s15, s16]
            clear hsz hdf s1 s5 s6 s7 s9 s10 s13 s17 s15 s16 hu
            have HK := Lib.hid hK
            have HB := Lib.hid hB
            clear hK hB
            by_cases hjN : j < N
            · have HSp := Spot_lk gl (w.heap.size + 1) w.heap.size hs P σ2 sp2 W HK.out (j : Int)
              have q1 := fun a b c d W => sfld0 a b c d W
              have h10 : cnt (fun s => s.pc == 10) sp2 (j + 1) = cnt (fun s => s.pc == 10) sp2 j + if (spOf sp2 (j : Int)).pc == 10 then 1 else 0 := rfl
              have hco : cnt (fun s => decide (0 < s.pc) && decide (s.pc < 10)) sp2 (j + 1) = cnt (fun s => decide (0 < s.pc) && decide (s.pc < 10)) sp2 j + if decide (0 < (spOf sp2 (j : Int)).pc) && decide ((spOf sp2 (j : Int)).pc < 10) then 1 else 0 := rfl
              have la := cnt_le (fun s => s.pc == 10) sp2 j
              have lb := cnt_le (fun s => decide (0 < s.pc) && decide (s.pc < 10)) sp2 j
              replace HSp := Lib.hid HSp
              generalize spOf sp2 (j : Int) = s at *
              obtain ⟨xp, xa, xb, xc⟩ := s
              simp only at h10 hco
              generalize cnt (fun s => s.pc == 10) sp2 j = ca at *
              generalize cnt (fun s => decide (0 < s.pc) && decide (s.pc < 10)) sp2 j = cb at *
              have la : (ca : Int) ≤ 8 := by omega
              have lb : (cb : Int) ≤ 8 := by omega
              by_cases hp : xp = 10
              · subst hp
                have HA1 := Lib.hid (show cnt (fun s => s.pc == 10) sp2 (j + 1) = ca + 1 from h10.trans (by simp; try omega))
                have HB1 := Lib.hid (show cnt (fun s => decide (0 < s.pc) && decide (s.pc < 10)) sp2 (j + 1) = cb from hco.trans (by simp; try omega))
                clear h10 hco
                go_wp2_with fail
                refine HSp.out.mono ?_
                rintro e w7 ⟨rfl, hb7⟩
                have HK7 := Lib.hid (HK.out.same hb7)
                have HB7 := Lib.hid (HB.out.trans (hb7.mono HB.out.size))
                have HC7 := Lib.hid (And.intro (keep1 hb7 hkc) (keep1 hb7 hbc))
                clear hb7 hkc hbc
                go_wp2_with fail
                exact ⟨⟨rfl, rfl, rfl, rfl, rfl, rfl, rfl, rfl, rfl, j + 1, rfl, hjN, by rw [HA1.out]; rfl, by rw [HB1.out]; rfl, HK7.out, HB7.out, HC7.out⟩, by simp [intOf]; omega⟩
              · have p1 := ibeq_no hp
                by_cases hp0 : 0 < xp
                · by_cases hp1 : xp < 10
                  · have HA1 := Lib.hid (show cnt (fun s => s.pc == 10) sp2 (j + 1) = ca from h10.trans (by simp; try omega))
                    have HB1 := Lib.hid (show cnt (fun s => decide (0 < s.pc) && decide (s.pc < 10)) sp2 (j + 1) = cb + 1 from hco.trans (by simp; try omega))
                    clear h10 hco
                    go_wp2_with fail
                    refine HSp.out.mono ?_
                    rintro e w7 ⟨rfl, hb7⟩
                    have HK7 := Lib.hid (HK.out.same hb7)
                    have HB7 := Lib.hid (HB.out.trans (hb7.mono HB.out.size))
                    have HC7 := Lib.hid (And.intro (keep1 hb7 hkc) (keep1 hb7 hbc))
                    clear hb7 hkc hbc
                    go_wp2_with fail
                    exact ⟨⟨rfl, rfl, rfl, rfl, rfl, rfl, rfl, rfl, rfl, j + 1, rfl, hjN, by rw [HA1.out]; rfl, by rw [HB1.out]; rfl, HK7.out, HB7.out, HC7.out⟩, by simp [intOf]; omega⟩
                  · have hp2 : 10 ≤ xp := by omega
                    have HA1 := Lib.hid (show cnt (fun s => s.pc == 10) sp2 (j + 1) = ca from h10.trans (by simp; try omega))
                    have HB1 := Lib.hid (show cnt (fun s => decide (0 < s.pc) && decide (s.pc < 10)) sp2 (j + 1) = cb from hco.trans (by simp; try omega))
                    clear h10 hco
                    go_wp2_with fail
                    refine HSp.out.mono ?_
                    rintro e w7 ⟨rfl, hb7⟩
                    have HK7 := Lib.hid (HK.out.same hb7)
                    have HB7 := Lib.hid (HB.out.trans (hb7.mono HB.out.size))
                    have HC7 := Lib.hid (And.intro (keep1 hb7 hkc) (keep1 hb7 hbc))
                    clear hb7 hkc hbc
                    go_wp2_with fail
                    exact ⟨⟨rfl, rfl, rfl, rfl, rfl, rfl, rfl, rfl, rfl, j + 1, rfl, hjN, by rw [HA1.out]; rfl, by rw [HB1.out]; rfl, HK7.out, HB7.out, HC7.out⟩, by simp [intOf]; omega⟩
                · have hp2 : xp ≤ 0 := by omega
                  have HA1 := Lib.hid (show cnt (fun s => s.pc == 10) sp2 (j + 1) = ca from h10.trans (by simp; try omega))
                  have HB1 := Lib.hid (show cnt (fun s => decide (0 < s.pc) && decide (s.pc < 10)) sp2 (j + 1) = cb from hco.trans (by simp; try omega))
                  clear h10 hco
                  go_wp2_with fail
                  refine HSp.out.mono ?_
                  rintro e w7 ⟨rfl, hb7⟩
                  have HK7 := Lib.hid (HK.out.same hb7)
                  have HB7 := Lib.hid (HB.out.trans (hb7.mono HB.out.size))
                  have HC7 := Lib.hid (And.intro (keep1 hb7 hkc) (keep1 hb7 hbc))
                  clear hb7 hkc hbc
                  go_wp2_with fail
                  exact ⟨⟨rfl, rfl, rfl, rfl, rfl, rfl, rfl, rfl, rfl, j + 1, rfl, hjN, by rw [HA1.out]; rfl, by rw [HB1.out]; rfl, HK7.out, HB7.out, HC7.out⟩, by simp [intOf]; omega⟩
            · obtain rfl : j = N := by omega
              have f1 := F1.out
              have f3 := F3.out
              have lb := cnt_le (fun s => decide (0 < s.pc) && decide (s.pc < 10)) sp2 j
              generalize cnt (fun s => s.pc == 10) sp2 j = ca at *
              generalize cnt (fun s => decide (0 < s.pc) && decide (s.pc < 10)) sp2 j = cb at *
              have la : (ca : Int) ≤ 1 := by omega
              by_cases hk3 : kd = 3
              · have e3 := ibeq hk3
                by_cases hp : was.pc = 10
                · have e4 := ibeq hp
                  cases ok
                  · have hcb := f3 hk3 hp rfl
                    have e5 := nbeq_no (show ¬ cb = 0 by omega)
                    have e6 := ibeq_no (show ¬ (cb : Int) = 0 by omega)
                    clear f1 f3 hk3 hp
                    go_wp2_with fail
                    exact ⟨⟨rfl, rfl, rfl, rfl, rfl, rfl, k + 1, σ2, sp2, rfl, hlt, HO2.out, HK.out, HB.out⟩, by simp [intOf]; omega⟩
                  · clear f1 f3 hk3 hp
                    go_wp2_with fail
                    exact ⟨⟨rfl, rfl, rfl, rfl, rfl, rfl, k + 1, σ2, sp2, rfl, hlt, HO2.out, HK.out, HB.out⟩, by simp [intOf]; omega⟩
                · have e4 := ibeq_no hp
                  clear f1 f3 hk3 hp
                  go_wp2_with fail
                  exact ⟨⟨rfl, rfl, rfl, rfl, rfl, rfl, k + 1, σ2, sp2, rfl, hlt, HO2.out, HK.out, HB.out⟩, by simp [intOf]; omega⟩
              · have e3 := ibeq_no hk3
                clear f1 f3 hk3
                go_wp2_with fail
                exact ⟨⟨rfl, rfl, rfl, rfl, rfl, rfl, k + 1, σ2, sp2, rfl, hlt, HO2.out, HK.out, HB.out⟩, by simp [intOf]; omega⟩
        · intro J K' hJ hK'
          have hK6 := HK6.out
          have HE := Lib.hid (fun (W9 : World) (hb : Below W.heap.size W W9) => And.intro (HK6.out.same hb) (And.intro (HB6.out.trans (hb.mono HB6.out.size)) (And.intro (keep1 hb HS6.out.1) (keep1 hb HS6.out.2.2.1))))
          clear hK6
          by_cases k0 : kd = 0
          · have e0 := ibeq k0
            have e3 := ibne_no k0
            have ha : asks = false := by rw [← HAsks.out, k0]; rfl
            subst ha
            clear k0
            have cO := fun d os => Calls.regrown_of (of_same (ops_any _ _ σ2 (grow (redrawn W d) os) (HK6.out.same (below_regrown W d os)).1))
            replace cO := Lib.hid cO
            have r0 := cell_regrown d0
            clear d0
            refine wp_region_quiet_below (by kernel_rfl) (by kernel_rfl) ?_
            repeat (any_goals (first | go_big_quiet_step ((exact cO.out _ _)) | quiet_step ((exact cO.out _ _))))
            refine wpQuiet_nil ?_
            intro _ hw'
            obtain ⟨⟨dq, osq⟩, hw''⟩ := hw'
            subst hw''
            refine hK' _ _ (Met.intro (hJ _ _ ⟨rfl, rfl, rfl, rfl, rfl, rfl, rfl, rfl, rfl, ?_, HE.out _ (below_regrown W dq osq)⟩))
            first | rfl | skip
            all_goals simp only [List.getElem_cons_succ, List.getElem_cons_zero, List.getD_cons_succ, List.getD_cons_zero, Array.getD_eq_getD_getElem?, List.getElem?_toArray, List.getElem?_cons_succ, List.getElem?_cons_zero, Option.getD_some]
            all_goals rw [decide_eq_false (by omega)]
          · have e3 := ibne k0
            have HFW := Lib.hid (FW.out k0)
            clear d0
            by_cases k12 : kd = 1 ∨ kd = 2
            · have ha : asks = true := by rw [← HAsks.out]; rcases k12 with h | h <;> rw [h] <;> rfl
              subst ha
              obtain ⟨hσ, hsp⟩ := FA.out k12
              have e4 := nbne_no (show σ2.ops = σ.ops by rw [hσ])
              clear k12 k0 hσ
              have hb7 : Below W.heap.size W W.drew := Below.drew (Below.refl _ _)
              have HK7 := Lib.hid (show LkAt W.drew gl (w.heap.size + 1) w.heap.size hs P σ2 sp2 from HK6.out)
              have HSw7 := Lib.hid (show Rw w3.heap.size W.drew Aw cw σ.t (σ.ws.take σ.t) from HSw6.out)
              replace hb7 := Lib.hid hb7
              refine wp_region_held_drew (S := fun V => V.cell? ⟨b, off + k * 2, none⟩ = some (.int .i64 kd) ∧ V.cell? ⟨b, off + k * 2 + 1, none⟩ = some (.int .i64 i) ∧ V.cell? ⟨bw, 0, none⟩ = some (.int .i64 was.pc) ∧ V.cell? ⟨bw, 1, none⟩ = some (.int .i64 was.a) ∧ V.cell? ⟨bw, 2, none⟩ = some (.int .i64 was.b) ∧ V.cell? ⟨bw, 3, none⟩ = some (.int .i64 was.c)) (by kernel_rfl) HS6.out (fun hHeld => ?_)
              refine take_to 0 (some 77) (v := ?_) rfl rfl (by kernel_rfl) (by kernel_rfl) (by kernel_rfl) (fun _ _ _ h => h) (Or.inl ⟨by rfl, ?_⟩) (by first | trivial | assumption) ?_
              rotate_left
              focus (intro w hSw; (try dsimp only at hSw); go_simp; (try with_reducible rfl))
              simp only [Act.put, List.setIfInBounds_toArray, List.set_cons_zero, List.set_cons_succ]
              refine take_to 2 (some 79) (v := ?_) rfl rfl (by kernel_rfl) (by kernel_rfl) (by kernel_rfl) (fun _ _ _ h => h) (Or.inl ⟨by rfl, ?_⟩) (by first | trivial | assumption) ?_
              rotate_left
              focus (intro w hSw; (try dsimp only at hSw); go_simp; (try with_reducible rfl))
              simp only [Act.put, List.setIfInBounds_toArray, List.set_cons_zero, List.set_cons_succ]
              refine take_to 3 (some 80) (v := ?_) rfl rfl (by kernel_rfl) (by kernel_rfl) (by kernel_rfl) (fun _ _ _ h => h) (Or.inl ⟨by rfl, ?_⟩) (by first | trivial | assumption) ?_
              rotate_left
              focus (intro w hSw; (try dsimp only at hSw); go_simp; (try with_reducible rfl))
              simp only [Act.put, List.setIfInBounds_toArray, List.set_cons_zero, List.set_cons_succ]
              refine wpAnyH_ready (rs := [1]) (by kernel_rfl) (by simp) ?_
              refine AllReadyH.cons rfl (fun K hK => ?_) AllReadyH.nil
              go_simp
              refine (ops_any _ _ σ2 _ HK7.out.1).mono ?_
              rintro e wx ⟨rfl, hwx⟩
              obtain rfl := hwx.symm
              go_simp
              refine hK.out _ _ hHeld (fun hHeld => ?_)
              refine take_to 4 (some 81) (v := ?_) rfl rfl (by kernel_rfl) (by kernel_rfl) (by kernel_rfl) (fun _ _ _ h => h) (Or.inl ⟨by rfl, ?_⟩) (by first | trivial | assumption) ?_
              rotate_left
              focus (intro w hSw; (try dsimp only at hSw); go_simp; (try with_reducible rfl))
              simp only [Act.put, List.setIfInBounds_toArray, List.set_cons_zero, List.set_cons_succ]
              refine take_to 5 (some 82) (v := ?_) rfl rfl (by kernel_rfl) (by kernel_rfl) (by kernel_rfl) (fun _ _ _ h => h) (Or.inl ⟨by rfl, ?_⟩) (by first | trivial | assumption) ?_
              rotate_left
              focus (intro w hSw; (try dsimp only at hSw); go_simp; (try with_reducible rfl))
              simp only [Act.put, List.setIfInBounds_toArray, List.set_cons_zero, List.set_cons_succ]
              refine take_to 6 (some 83) (v := ?_) rfl rfl (by kernel_rfl) (by kernel_rfl) (by kernel_rfl) (fun _ _ _ h => h) (Or.inl ⟨by rfl, ?_⟩) (by first | trivial | assumption) ?_
              rotate_left
              focus (intro w hSw; (try dsimp only at hSw); go_simp; (try with_reducible rfl))
              simp only [Act.put, List.setIfInBounds_toArray, List.set_cons_zero, List.set_cons_succ]
              refine take_to 7 (some 84) (v := ?_) rfl rfl (by kernel_rfl) (by kernel_rfl) (by kernel_rfl) (fun _ _ _ h => h) (Or.inl ⟨by rfl, ?_⟩) (by first | trivial | assumption) ?_
              rotate_left
              focus (intro w hSw; (try dsimp only at hSw); go_simp; (try with_reducible rfl))
              simp only [Act.put, List.setIfInBounds_toArray, List.set_cons_zero, List.set_cons_succ]
              refine take_to 8 (some 85) (v := ?_) rfl rfl (by kernel_rfl) (by kernel_rfl) (by kernel_rfl) (fun _ _ _ h => h) (Or.inl ⟨by rfl, ?_⟩) (by first | trivial | assumption) ?_
              rotate_left
              focus (intro w hSw; (try dsimp only at hSw); go_simp; (try with_reducible rfl))
              simp only [Act.put, List.setIfInBounds_toArray, List.set_cons_zero, List.set_cons_succ]
              refine take_to 10 (some 87) (v := ?_) rfl rfl (by kernel_rfl) (by kernel_rfl) (by kernel_rfl) (fun _ _ _ h => h) (Or.inl ⟨by rfl, ?_⟩) (by first | trivial | assumption) ?_
              rotate_left
              focus (intro w hSw; (try dsimp only at hSw); go_simp; (try with_reducible rfl))
              simp only [Act.put, List.setIfInBounds_toArray, List.set_cons_zero, List.set_cons_succ]
              refine wpAnyH_ready (rs := [9]) (by kernel_rfl) (by simp) ?_
              refine AllReadyH.cons rfl (fun K hK => ?_) AllReadyH.nil
              go_simp
              refine (ops_any _ _ σ2 _ HK7.out.1).mono ?_
              rintro e wx ⟨rfl, hwx⟩
              obtain rfl := hwx.symm
              go_simp
              refine hK.out _ _ hHeld (fun hHeld => ?_)
              refine take_to 11 (some 88) (v := ?_) rfl rfl (by kernel_rfl) (by kernel_rfl) (by kernel_rfl) (fun _ _ _ h => h) (Or.inl ⟨by rfl, ?_⟩) (by first | trivial | assumption) ?_
              rotate_left
              focus (intro w hSw; (try dsimp only at hSw); go_simp; (try with_reducible rfl))
              simp only [Act.put, List.setIfInBounds_toArray, List.set_cons_zero, List.set_cons_succ]
              refine take_to 12 (some 89) (v := ?_) rfl rfl (by kernel_rfl) (by kernel_rfl) (by kernel_rfl) (fun _ _ _ h => h) (Or.inl ⟨by rfl, ?_⟩) (by first | trivial | assumption) ?_
              rotate_left
              focus (intro w hSw; (try dsimp only at hSw); go_simp; (try with_reducible rfl))
              simp only [Act.put, List.setIfInBounds_toArray, List.set_cons_zero, List.set_cons_succ]
              refine take_to 13 (some 90) (v := ?_) rfl rfl (by kernel_rfl) (by kernel_rfl) (by kernel_rfl) (fun _ _ _ h => h) (Or.inl ⟨by rfl, ?_⟩) (by first | trivial | assumption) ?_
              rotate_left
              focus (intro w hSw; (try dsimp only at hSw); go_simp; (try with_reducible rfl))
              simp only [Act.put, List.setIfInBounds_toArray, List.set_cons_zero, List.set_cons_succ]
              refine take_to 14 (some 91) (v := ?_) rfl rfl (by kernel_rfl) (by kernel_rfl) (by kernel_rfl) (fun _ _ _ h => h) (Or.inl ⟨by rfl, ?_⟩) (by first | trivial | assumption) ?_
              rotate_left
              focus (intro w hSw; (try dsimp only at hSw); go_simp; (try with_reducible rfl))
              simp only [Act.put, List.setIfInBounds_toArray, List.set_cons_zero, List.set_cons_succ]
              cases ok
              · obtain rfl := hsp rfl
                have HSpt := Spot_lk gl (w.heap.size + 1) w.heap.size hs P σ2 sp2 _ HK7.out i
                rw [HWas.out] at HSpt
                replace HSpt := Lib.hid HSpt
                have n1 := fun a b c d W => neSp a b c d W
                have n2 := fun x y xs ys W => neGSp x y xs ys W
                clear hsp
                refine take_to 15 (some 92) (v := ?_) rfl rfl (by kernel_rfl) (by kernel_rfl) (by kernel_rfl) (fun _ _ _ h => h) (Or.inl ⟨by rfl, ?_⟩) (by first | trivial | assumption) ?_
                rotate_left
                focus (intro w hSw; (try dsimp only at hSw); go_simp; (try with_reducible rfl))
                simp only [Act.put, List.setIfInBounds_toArray, List.set_cons_zero, List.set_cons_succ]
                refine take_to 16 (some 93) (v := ?_) rfl rfl (by kernel_rfl) (by kernel_rfl) (by kernel_rfl) (fun _ _ _ h => h) (Or.inl ⟨by rfl, ?_⟩) (by first | trivial | assumption) ?_
                rotate_left
                focus (intro w hSw; (try dsimp only at hSw); go_simp; (try with_reducible rfl))
                simp only [Act.put, List.setIfInBounds_toArray, List.set_cons_zero, List.set_cons_succ]
                refine take_to 17 (some 94) (v := ?_) rfl rfl (by kernel_rfl) (by kernel_rfl) (by kernel_rfl) (fun _ _ _ h => h) (Or.inl ⟨by rfl, ?_⟩) (by first | trivial | assumption) ?_
                rotate_left
                focus (intro w hSw; (try dsimp only at hSw); go_simp; (try with_reducible rfl))
                simp only [Act.put, List.setIfInBounds_toArray, List.set_cons_zero, List.set_cons_succ]
                refine take_to 18 (some 95) (v := ?_) rfl rfl (by kernel_rfl) (by kernel_rfl) (by kernel_rfl) (fun _ _ _ h => h) (Or.inl ⟨by rfl, ?_⟩) (by first | trivial | assumption) ?_
                rotate_left
                focus (intro w hSw; (try dsimp only at hSw); go_simp; (try with_reducible rfl))
                simp only [Act.put, List.setIfInBounds_toArray, List.set_cons_zero, List.set_cons_succ]
                refine take_to 19 (some 96) (v := ?_) rfl rfl (by kernel_rfl) (by kernel_rfl) (by kernel_rfl) (fun _ _ _ h => h) (Or.inl ⟨by rfl, ?_⟩) (by first | trivial | assumption) ?_
                rotate_left
                focus (intro w hSw; (try dsimp only at hSw); go_simp; (try with_reducible rfl))
                simp only [Act.put, List.setIfInBounds_toArray, List.set_cons_zero, List.set_cons_succ]
                refine take_to 20 (some 97) (v := ?_) rfl rfl (by kernel_rfl) (by kernel_rfl) (by kernel_rfl) (fun _ _ _ h => h) (Or.inl ⟨by rfl, ?_⟩) (by first | trivial | assumption) ?_
                rotate_left
                focus (intro w hSw; (try dsimp only at hSw); go_simp; (try with_reducible rfl))
                simp only [Act.put, List.setIfInBounds_toArray, List.set_cons_zero, List.set_cons_succ]
                refine take_to 21 (some 98) (v := ?_) rfl rfl (by kernel_rfl) (by kernel_rfl) (by kernel_rfl) (fun _ _ _ h => h) (Or.inl ⟨by rfl, ?_⟩) (by first | trivial | assumption) ?_
                rotate_left
                focus (intro w hSw; (try dsimp only at hSw); go_simp; (try with_reducible rfl))
                simp only [Act.put, List.setIfInBounds_toArray, List.set_cons_zero, List.set_cons_succ]
                refine take_to 23 (some 100) (v := ?_) rfl rfl (by kernel_rfl) (by kernel_rfl) (by kernel_rfl) (fun _ _ _ h => h) (Or.inl ⟨by rfl, ?_⟩) (by first | trivial | assumption) ?_
                rotate_left
                focus (intro w hSw; (try dsimp only at hSw); go_simp; (try with_reducible rfl))
                simp only [Act.put, List.setIfInBounds_toArray, List.set_cons_zero, List.set_cons_succ]
                refine wpAnyH_ready (rs := [22]) (by kernel_rfl) (by simp) ?_
                refine AllReadyH.cons rfl (fun K hK => ?_) AllReadyH.nil
                go_simp
                refine HSpt.out.mono ?_
                rintro e w10 ⟨rfl, hb10⟩
                go_simp
                refine hK.out _ _ (keep6 hb10 hHeld) (fun hHeld => ?_)
                replace HK7 := Lib.hid (HK7.out.same hb10)
                replace HSw7 := Lib.hid (HSw7.out.same hb10)
                replace hb7 := Lib.hid (hb7.out.trans (hb10.mono hb7.out.size))
                refine take_to 24 (some 101) (v := ?_) rfl rfl (by kernel_rfl) (by kernel_rfl) (by kernel_rfl) (fun _ _ _ h => h) (Or.inl ⟨by rfl, ?_⟩) (by first | trivial | assumption) ?_
                rotate_left
                focus (intro w hSw; (try dsimp only at hSw); go_simp; (try with_reducible rfl))
                simp only [Act.put, List.setIfInBounds_toArray, List.set_cons_zero, List.set_cons_succ]
                refine take_to 25 (some 102) (v := ?_) rfl rfl (by kernel_rfl) (by kernel_rfl) (by kernel_rfl) (fun _ _ _ h => h) (Or.inl ⟨by rfl, ?_⟩) (by first | trivial | assumption) ?_
                rotate_left
                focus (intro w hSw; (try dsimp only at hSw); go_simp; (try with_reducible rfl))
                simp only [Act.put, List.setIfInBounds_toArray, List.set_cons_zero, List.set_cons_succ]
                refine take_to 26 (some 103) (v := ?_) rfl rfl (by kernel_rfl) (by kernel_rfl) (by kernel_rfl) (fun _ _ _ h => h) (Or.inl ⟨by rfl, ?_⟩) (by first | trivial | assumption) ?_
                rotate_left
                focus (intro w hSw; (try dsimp only at hSw); go_simp; (try with_reducible rfl))
                simp only [Act.put, List.setIfInBounds_toArray, List.set_cons_zero, List.set_cons_succ]
                refine take_to 27 (some 104) (v := ?_) rfl rfl (by kernel_rfl) (by kernel_rfl) (by kernel_rfl) (fun _ _ _ h => h) (Or.inl ⟨by rfl, ?_⟩) (by first | trivial | assumption) ?_
                rotate_left
                focus (intro w hSw; (try dsimp only at hSw); go_simp; (try with_reducible rfl))
                simp only [Act.put, List.setIfInBounds_toArray, List.set_cons_zero, List.set_cons_succ]
                refine take_to 28 (some 105) (v := ?_) rfl rfl (by kernel_rfl) (by kernel_rfl) (by kernel_rfl) (fun _ _ _ h => h) (Or.inl ⟨by rfl, ?_⟩) (by first | trivial | assumption) ?_
                rotate_left
                focus (intro w hSw; (try dsimp only at hSw); go_simp; (try with_reducible rfl))
                simp only [Act.put, List.setIfInBounds_toArray, List.set_cons_zero, List.set_cons_succ]
                refine take_to 29 (some 106) (v := ?_) rfl rfl (by kernel_rfl) (by kernel_rfl) (by kernel_rfl) (fun _ _ _ h => h) (Or.inl ⟨by rfl, ?_⟩) (by first | trivial | assumption) ?_
                rotate_left
                focus (intro w hSw; (try dsimp only at hSw); go_simp; (try with_reducible rfl))
                simp only [Act.put, List.setIfInBounds_toArray, List.set_cons_zero, List.set_cons_succ]
                refine take_to 30 (some 107) (v := ?_) rfl rfl (by kernel_rfl) (by kernel_rfl) (by kernel_rfl) (fun _ _ _ h => h) (Or.inl ⟨by rfl, ?_⟩) (by first | trivial | assumption) ?_
                rotate_left
                focus (intro w hSw; (try dsimp only at hSw); go_simp; (try with_reducible rfl))
                simp only [Act.put, List.setIfInBounds_toArray, List.set_cons_zero, List.set_cons_succ]
                refine take_to 31 (some 108) (v := ?_) rfl rfl (by kernel_rfl) (by kernel_rfl) (by kernel_rfl) (fun _ _ _ h => h) (Or.inl ⟨by rfl, ?_⟩) (by first | trivial | assumption) ?_
                rotate_left
                focus (intro w hSw; (try dsimp only at hSw); go_simp; (try with_reducible rfl))
                simp only [Act.put, List.setIfInBounds_toArray, List.set_cons_zero, List.set_cons_succ]
                refine take_to 32 (some 109) (v := ?_) rfl rfl (by kernel_rfl) (by kernel_rfl) (by kernel_rfl) (fun _ _ _ h => h) (Or.inl ⟨by rfl, ?_⟩) (by first | trivial | assumption) ?_
                rotate_left
                focus (intro w hSw; (try dsimp only at hSw); go_simp; (try with_reducible rfl))
                simp only [Act.put, List.setIfInBounds_toArray, List.set_cons_zero, List.set_cons_succ]
                refine take_to 33 (some 110) (v := ?_) rfl rfl (by kernel_rfl) (by kernel_rfl) (by kernel_rfl) (fun _ _ _ h => h) (Or.inl ⟨by rfl, ?_⟩) (by first | trivial | assumption) ?_
                rotate_left
                focus (intro w hSw; (try dsimp only at hSw); go_simp; (try with_reducible rfl))
                simp only [Act.put, List.setIfInBounds_toArray, List.set_cons_zero, List.set_cons_succ]
                refine take_to 34 (some 111) (v := ?_) rfl rfl (by kernel_rfl) (by kernel_rfl) (by kernel_rfl) (fun _ _ _ h => h) (Or.inl ⟨by rfl, ?_⟩) (by first | trivial | assumption) ?_
                rotate_left
                focus (intro w hSw; (try dsimp only at hSw); go_simp; (try with_reducible rfl))
                simp only [Act.put, List.setIfInBounds_toArray, List.set_cons_zero, List.set_cons_succ]
                refine take_to 35 (some 112) (v := ?_) rfl rfl (by kernel_rfl) (by kernel_rfl) (by kernel_rfl) (fun _ _ _ h => h) (Or.inl ⟨by rfl, ?_⟩) (by first | trivial | assumption) ?_
                rotate_left
                focus (intro w hSw; (try dsimp only at hSw); go_simp; (try with_reducible rfl))
                simp only [Act.put, List.setIfInBounds_toArray, List.set_cons_zero, List.set_cons_succ]
                refine take_to 36 (some 113) (v := ?_) rfl rfl (by kernel_rfl) (by kernel_rfl) (by kernel_rfl) (fun _ _ _ h => h) (Or.inl ⟨by rfl, ?_⟩) (by first | trivial | assumption) ?_
                rotate_left
                focus (intro w hSw; (try dsimp only at hSw); go_simp; (try with_reducible rfl))
                simp only [Act.put, List.setIfInBounds_toArray, List.set_cons_zero, List.set_cons_succ]
                refine take_to 37 (some 114) (v := ?_) rfl rfl (by kernel_rfl) (by kernel_rfl) (by kernel_rfl) (fun _ _ _ h => h) (Or.inl ⟨by rfl, ?_⟩) (by first | trivial | assumption) ?_
                rotate_left
                focus (intro w hSw; (try dsimp only at hSw); go_simp; (try with_reducible rfl))
                simp only [Act.put, List.setIfInBounds_toArray, List.set_cons_zero, List.set_cons_succ]
                refine take_to 39 (some 116) (v := ?_) rfl rfl (by kernel_rfl) (by kernel_rfl) (by kernel_rfl) (fun _ _ _ h => h) (Or.inl ⟨by rfl, ?_⟩) (by first | trivial | assumption) ?_
                rotate_left
                focus (intro w hSw; (try dsimp only at hSw); go_simp; (try with_reducible rfl))
                simp only [Act.put, List.setIfInBounds_toArray, List.set_cons_zero, List.set_cons_succ]
                refine wpAnyH_ready (rs := [38]) (by kernel_rfl) (by simp) ?_
                refine AllReadyH.cons rfl (fun K hK => ?_) AllReadyH.nil
                go_simp
                refine (words_own _ _ σ2 _ HK7.out.1 σ.t (σ.ws.take σ.t) HFW.out.2 (by rw [HFW.out.1, HFW.out.2])).mono ?_
                rintro e w8 ⟨A8, c8, rfl, hr8, hb8⟩
                go_simp
                refine hK.out _ _ (keep6 hb8 hHeld) (fun hHeld => ?_)
                refine wpAnyH_ready (rs := [40]) (by kernel_rfl) (by simp) ?_
                refine AllReadyH.cons rfl (fun K hK => ?_) AllReadyH.nil
                go_simp
                refine (same_tt (σ.ws.take σ.t) A8 Aw c8 cw σ.t _ HLen.out HSR.out hr8.sl (HSw7.out.same hb8).sl).mono ?_
                rintro e w9 ⟨rfl, hb9⟩
                go_simp
                refine hK.out _ _ (keep6 hb9 hHeld) (fun hHeld => ?_)
                refine take_to 41 (some 118) (v := ?_) rfl rfl (by kernel_rfl) (by kernel_rfl) (by kernel_rfl) (fun _ _ _ h => h) (Or.inl ⟨by rfl, ?_⟩) (by first | trivial | assumption) ?_
                rotate_left
                focus (intro w hSw; (try dsimp only at hSw); go_simp; (try with_reducible rfl))
                simp only [Act.put, List.setIfInBounds_toArray, List.set_cons_zero, List.set_cons_succ]
                refine take_to 42 (some 119) (v := ?_) rfl rfl (by kernel_rfl) (by kernel_rfl) (by kernel_rfl) (fun _ _ _ h => h) (Or.inl ⟨by rfl, ?_⟩) (by first | trivial | assumption) ?_
                rotate_left
                focus (intro w hSw; (try dsimp only at hSw); go_simp; (try with_reducible rfl))
                simp only [Act.put, List.setIfInBounds_toArray, List.set_cons_zero, List.set_cons_succ]
                refine take_to 43 (some 120) (v := ?_) rfl rfl (by kernel_rfl) (by kernel_rfl) (by kernel_rfl) (fun _ _ _ h => h) (Or.inl ⟨by rfl, ?_⟩) (by first | trivial | assumption) ?_
                rotate_left
                focus (intro w hSw; (try dsimp only at hSw); go_simp; (try with_reducible rfl))
                simp only [Act.put, List.setIfInBounds_toArray, List.set_cons_zero, List.set_cons_succ]
                refine wpAnyH_done (by kernel_rfl) ?_ _
                exact hK' _ _ (Met.intro (hJ _ _ ⟨rfl, rfl, rfl, rfl, rfl, rfl, rfl, rfl, rfl, rfl, HE.out _ (hb7.out.trans ((hb8.mono hb7.out.size).trans (hb9.mono (Nat.le_trans hb7.out.size hb8.size))))⟩))
              · clear hsp
                refine take_to 15 (some 92) (v := ?_) rfl rfl (by kernel_rfl) (by kernel_rfl) (by kernel_rfl) (fun _ _ _ h => h) (Or.inl ⟨by rfl, ?_⟩) (by first | trivial | assumption) ?_
                rotate_left
                focus (intro w hSw; (try dsimp only at hSw); go_simp; (try with_reducible rfl))
                simp only [Act.put, List.setIfInBounds_toArray, List.set_cons_zero, List.set_cons_succ]
                refine take_to 16 (some 93) (v := undef) rfl rfl (by kernel_rfl) (by kernel_rfl) (by kernel_rfl) (fun _ _ _ h => h) (Or.inr ⟨by rfl, rfl⟩) (by first | trivial | assumption) ?_
                simp only [Act.put, List.setIfInBounds_toArray, List.set_cons_zero, List.set_cons_succ]
                refine take_to 17 (some 94) (v := undef) rfl rfl (by kernel_rfl) (by kernel_rfl) (by kernel_rfl) (fun _ _ _ h => h) (Or.inr ⟨by rfl, rfl⟩) (by first | trivial | assumption) ?_
                simp only [Act.put, List.setIfInBounds_toArray, List.set_cons_zero, List.set_cons_succ]
                refine take_to 18 (some 95) (v := undef) rfl rfl (by kernel_rfl) (by kernel_rfl) (by kernel_rfl) (fun _ _ _ h => h) (Or.inr ⟨by rfl, rfl⟩) (by first | trivial | assumption) ?_
                simp only [Act.put, List.setIfInBounds_toArray, List.set_cons_zero, List.set_cons_succ]
                refine take_to 19 (some 96) (v := undef) rfl rfl (by kernel_rfl) (by kernel_rfl) (by kernel_rfl) (fun _ _ _ h => h) (Or.inr ⟨by rfl, rfl⟩) (by first | trivial | assumption) ?_
                simp only [Act.put, List.setIfInBounds_toArray, List.set_cons_zero, List.set_cons_succ]
                refine take_to 20 (some 97) (v := undef) rfl rfl (by kernel_rfl) (by kernel_rfl) (by kernel_rfl) (fun _ _ _ h => h) (Or.inr ⟨by rfl, rfl⟩) (by first | trivial | assumption) ?_
                simp only [Act.put, List.setIfInBounds_toArray, List.set_cons_zero, List.set_cons_succ]
                refine take_to 21 (some 98) (v := undef) rfl rfl (by kernel_rfl) (by kernel_rfl) (by kernel_rfl) (fun _ _ _ h => h) (Or.inr ⟨by rfl, rfl⟩) (by first | trivial | assumption) ?_
                simp only [Act.put, List.setIfInBounds_toArray, List.set_cons_zero, List.set_cons_succ]
                refine take_to 22 (some 99) (v := undef) rfl rfl (by kernel_rfl) (by kernel_rfl) (by kernel_rfl) (fun _ _ _ h => h) (Or.inr ⟨by rfl, rfl⟩) (by first | trivial | assumption) ?_
                simp only [Act.put, List.setIfInBounds_toArray, List.set_cons_zero, List.set_cons_succ]
                refine take_to 23 (some 100) (v := undef) rfl rfl (by kernel_rfl) (by kernel_rfl) (by kernel_rfl) (fun _ _ _ h => h) (Or.inr ⟨by rfl, rfl⟩) (by first | trivial | assumption) ?_
                simp only [Act.put, List.setIfInBounds_toArray, List.set_cons_zero, List.set_cons_succ]
                refine take_to 24 (some 101) (v := undef) rfl rfl (by kernel_rfl) (by kernel_rfl) (by kernel_rfl) (fun _ _ _ h => h) (Or.inr ⟨by rfl, rfl⟩) (by first | trivial | assumption) ?_
                simp only [Act.put, List.setIfInBounds_toArray, List.set_cons_zero, List.set_cons_succ]
                refine take_to 25 (some 102) (v := ?_) rfl rfl (by kernel_rfl) (by kernel_rfl) (by kernel_rfl) (fun _ _ _ h => h) (Or.inl ⟨by rfl, ?_⟩) (by first | trivial | assumption) ?_
                rotate_left
                focus (intro w hSw; (try dsimp only at hSw); go_simp; (try with_reducible rfl))
                simp only [Act.put, List.setIfInBounds_toArray, List.set_cons_zero, List.set_cons_succ]
                refine take_to 26 (some 103) (v := ?_) rfl rfl (by kernel_rfl) (by kernel_rfl) (by kernel_rfl) (fun _ _ _ h => h) (Or.inl ⟨by rfl, ?_⟩) (by first | trivial | assumption) ?_
                rotate_left
                focus (intro w hSw; (try dsimp only at hSw); go_simp; (try with_reducible rfl))
                simp only [Act.put, List.setIfInBounds_toArray, List.set_cons_zero, List.set_cons_succ]
                refine take_to 27 (some 104) (v := ?_) rfl rfl (by kernel_rfl) (by kernel_rfl) (by kernel_rfl) (fun _ _ _ h => h) (Or.inl ⟨by rfl, ?_⟩) (by first | trivial | assumption) ?_
                rotate_left
                focus (intro w hSw; (try dsimp only at hSw); go_simp; (try with_reducible rfl))
                simp only [Act.put, List.setIfInBounds_toArray, List.set_cons_zero, List.set_cons_succ]
                refine take_to 28 (some 105) (v := ?_) rfl rfl (by kernel_rfl) (by kernel_rfl) (by kernel_rfl) (fun _ _ _ h => h) (Or.inl ⟨by rfl, ?_⟩) (by first | trivial | assumption) ?_
                rotate_left
                focus (intro w hSw; (try dsimp only at hSw); go_simp; (try with_reducible rfl))
                simp only [Act.put, List.setIfInBounds_toArray, List.set_cons_zero, List.set_cons_succ]
                refine take_to 29 (some 106) (v := ?_) rfl rfl (by kernel_rfl) (by kernel_rfl) (by kernel_rfl) (fun _ _ _ h => h) (Or.inl ⟨by rfl, ?_⟩) (by first | trivial | assumption) ?_
                rotate_left
                focus (intro w hSw; (try dsimp only at hSw); go_simp; (try with_reducible rfl))
                simp only [Act.put, List.setIfInBounds_toArray, List.set_cons_zero, List.set_cons_succ]
                refine take_to 30 (some 107) (v := ?_) rfl rfl (by kernel_rfl) (by kernel_rfl) (by kernel_rfl) (fun _ _ _ h => h) (Or.inl ⟨by rfl, ?_⟩) (by first | trivial | assumption) ?_
                rotate_left
                focus (intro w hSw; (try dsimp only at hSw); go_simp; (try with_reducible rfl))
                simp only [Act.put, List.setIfInBounds_toArray, List.set_cons_zero, List.set_cons_succ]
                refine take_to 31 (some 108) (v := ?_) rfl rfl (by kernel_rfl) (by kernel_rfl) (by kernel_rfl) (fun _ _ _ h => h) (Or.inl ⟨by rfl, ?_⟩) (by first | trivial | assumption) ?_
                rotate_left
                focus (intro w hSw; (try dsimp only at hSw); go_simp; (try with_reducible rfl))
                simp only [Act.put, List.setIfInBounds_toArray, List.set_cons_zero, List.set_cons_succ]
                refine take_to 32 (some 109) (v := ?_) rfl rfl (by kernel_rfl) (by kernel_rfl) (by kernel_rfl) (fun _ _ _ h => h) (Or.inl ⟨by rfl, ?_⟩) (by first | trivial | assumption) ?_
                rotate_left
                focus (intro w hSw; (try dsimp only at hSw); go_simp; (try with_reducible rfl))
                simp only [Act.put, List.setIfInBounds_toArray, List.set_cons_zero, List.set_cons_succ]
                refine take_to 33 (some 110) (v := ?_) rfl rfl (by kernel_rfl) (by kernel_rfl) (by kernel_rfl) (fun _ _ _ h => h) (Or.inl ⟨by rfl, ?_⟩) (by first | trivial | assumption) ?_
                rotate_left
                focus (intro w hSw; (try dsimp only at hSw); go_simp; (try with_reducible rfl))
                simp only [Act.put, List.setIfInBounds_toArray, List.set_cons_zero, List.set_cons_succ]
                refine take_to 34 (some 111) (v := ?_) rfl rfl (by kernel_rfl) (by kernel_rfl) (by kernel_rfl) (fun _ _ _ h => h) (Or.inl ⟨by rfl, ?_⟩) (by first | trivial | assumption) ?_
                rotate_left
                focus (intro w hSw; (try dsimp only at hSw); go_simp; (try with_reducible rfl))
                simp only [Act.put, List.setIfInBounds_toArray, List.set_cons_zero, List.set_cons_succ]
                refine take_to 35 (some 112) (v := ?_) rfl rfl (by kernel_rfl) (by kernel_rfl) (by kernel_rfl) (fun _ _ _ h => h) (Or.inl ⟨by rfl, ?_⟩) (by first | trivial | assumption) ?_
                rotate_left
                focus (intro w hSw; (try dsimp only at hSw); go_simp; (try with_reducible rfl))
                simp only [Act.put, List.setIfInBounds_toArray, List.set_cons_zero, List.set_cons_succ]
                refine take_to 36 (some 113) (v := ?_) rfl rfl (by kernel_rfl) (by kernel_rfl) (by kernel_rfl) (fun _ _ _ h => h) (Or.inl ⟨by rfl, ?_⟩) (by first | trivial | assumption) ?_
                rotate_left
                focus (intro w hSw; (try dsimp only at hSw); go_simp; (try with_reducible rfl))
                simp only [Act.put, List.setIfInBounds_toArray, List.set_cons_zero, List.set_cons_succ]
                refine take_to 37 (some 114) (v := ?_) rfl rfl (by kernel_rfl) (by kernel_rfl) (by kernel_rfl) (fun _ _ _ h => h) (Or.inl ⟨by rfl, ?_⟩) (by first | trivial | assumption) ?_
                rotate_left
                focus (intro w hSw; (try dsimp only at hSw); go_simp; (try with_reducible rfl))
                simp only [Act.put, List.setIfInBounds_toArray, List.set_cons_zero, List.set_cons_succ]
                refine take_to 39 (some 116) (v := ?_) rfl rfl (by kernel_rfl) (by kernel_rfl) (by kernel_rfl) (fun _ _ _ h => h) (Or.inl ⟨by rfl, ?_⟩) (by first | trivial | assumption) ?_
                rotate_left
                focus (intro w hSw; (try dsimp only at hSw); go_simp; (try with_reducible rfl))
                simp only [Act.put, List.setIfInBounds_toArray, List.set_cons_zero, List.set_cons_succ]
                refine wpAnyH_ready (rs := [38]) (by kernel_rfl) (by simp) ?_
                refine AllReadyH.cons rfl (fun K hK => ?_) AllReadyH.nil
                go_simp
                refine (words_own _ _ σ2 _ HK7.out.1 σ.t (σ.ws.take σ.t) HFW.out.2 (by rw [HFW.out.1, HFW.out.2])).mono ?_
                rintro e w8 ⟨A8, c8, rfl, hr8, hb8⟩
                go_simp
                refine hK.out _ _ (keep6 hb8 hHeld) (fun hHeld => ?_)
                refine wpAnyH_ready (rs := [40]) (by kernel_rfl) (by simp) ?_
                refine AllReadyH.cons rfl (fun K hK => ?_) AllReadyH.nil
                go_simp
                refine (same_tt (σ.ws.take σ.t) A8 Aw c8 cw σ.t _ HLen.out HSR.out hr8.sl (HSw7.out.same hb8).sl).mono ?_
                rintro e w9 ⟨rfl, hb9⟩
                go_simp
                refine hK.out _ _ (keep6 hb9 hHeld) (fun hHeld => ?_)
                refine take_to 41 (some 118) (v := ?_) rfl rfl (by kernel_rfl) (by kernel_rfl) (by kernel_rfl) (fun _ _ _ h => h) (Or.inl ⟨by rfl, ?_⟩) (by first | trivial | assumption) ?_
                rotate_left
                focus (intro w hSw; (try dsimp only at hSw); go_simp; (try with_reducible rfl))
                simp only [Act.put, List.setIfInBounds_toArray, List.set_cons_zero, List.set_cons_succ]
                refine take_to 42 (some 119) (v := ?_) rfl rfl (by kernel_rfl) (by kernel_rfl) (by kernel_rfl) (fun _ _ _ h => h) (Or.inl ⟨by rfl, ?_⟩) (by first | trivial | assumption) ?_
                rotate_left
                focus (intro w hSw; (try dsimp only at hSw); go_simp; (try with_reducible rfl))
                simp only [Act.put, List.setIfInBounds_toArray, List.set_cons_zero, List.set_cons_succ]
                refine take_to 43 (some 120) (v := ?_) rfl rfl (by kernel_rfl) (by kernel_rfl) (by kernel_rfl) (fun _ _ _ h => h) (Or.inl ⟨by rfl, ?_⟩) (by first | trivial | assumption) ?_
                rotate_left
                focus (intro w hSw; (try dsimp only at hSw); go_simp; (try with_reducible rfl))
                simp only [Act.put, List.setIfInBounds_toArray, List.set_cons_zero, List.set_cons_succ]
                refine wpAnyH_done (by kernel_rfl) ?_ _
                exact hK' _ _ (Met.intro (hJ _ _ ⟨rfl, rfl, rfl, rfl, rfl, rfl, rfl, rfl, rfl, rfl, HE.out _ (hb7.out.trans ((hb8.mono hb7.out.size).trans (hb9.mono (Nat.le_trans hb7.out.size hb8.size))))⟩))
            · have ha : asks = false := by rw [← HAsks.out, beq_eq_false_iff_ne.2 (fun h => k12 (.inl h)), beq_eq_false_iff_ne.2 (fun h => k12 (.inr h))]; rfl
              subst ha
              clear k12 k0
              have hb7 : Below W.heap.size W W.drew := Below.drew (Below.refl _ _)
              have HK7 := Lib.hid (show LkAt W.drew gl (w.heap.size + 1) w.heap.size hs P σ2 sp2 from HK6.out)
              have HSw7 := Lib.hid (show Rw w3.heap.size W.drew Aw cw σ.t (σ.ws.take σ.t) from HSw6.out)
              replace hb7 := Lib.hid hb7
              refine wp_region_held_drew (S := fun V => V.cell? ⟨b, off + k * 2, none⟩ = some (.int .i64 kd) ∧ V.cell? ⟨b, off + k * 2 + 1, none⟩ = some (.int .i64 i) ∧ V.cell? ⟨bw, 0, none⟩ = some (.int .i64 was.pc) ∧ V.cell? ⟨bw, 1, none⟩ = some (.int .i64 was.a) ∧ V.cell? ⟨bw, 2, none⟩ = some (.int .i64 was.b) ∧ V.cell? ⟨bw, 3, none⟩ = some (.int .i64 was.c)) (by kernel_rfl) HS6.out (fun hHeld => ?_)
              refine take_to 0 (some 77) (v := ?_) rfl rfl (by kernel_rfl) (by kernel_rfl) (by kernel_rfl) (fun _ _ _ h => h) (Or.inl ⟨by rfl, ?_⟩) (by first | trivial | assumption) ?_
              rotate_left
              focus (intro w hSw; (try dsimp only at hSw); go_simp; (try with_reducible rfl))
              simp only [Act.put, List.setIfInBounds_toArray, List.set_cons_zero, List.set_cons_succ]
              refine take_to 2 (some 79) (v := ?_) rfl rfl (by kernel_rfl) (by kernel_rfl) (by kernel_rfl) (fun _ _ _ h => h) (Or.inl ⟨by rfl, ?_⟩) (by first | trivial | assumption) ?_
              rotate_left
              focus (intro w hSw; (try dsimp only at hSw); go_simp; (try with_reducible rfl))
              simp only [Act.put, List.setIfInBounds_toArray, List.set_cons_zero, List.set_cons_succ]
              refine take_to 3 (some 80) (v := ?_) rfl rfl (by kernel_rfl) (by kernel_rfl) (by kernel_rfl) (fun _ _ _ h => h) (Or.inl ⟨by rfl, ?_⟩) (by first | trivial | assumption) ?_
              rotate_left
              focus (intro w hSw; (try dsimp only at hSw); go_simp; (try with_reducible rfl))
              simp only [Act.put, List.setIfInBounds_toArray, List.set_cons_zero, List.set_cons_succ]
              refine wpAnyH_ready (rs := [1]) (by kernel_rfl) (by simp) ?_
              refine AllReadyH.cons rfl (fun K hK => ?_) AllReadyH.nil
              go_simp
              refine (ops_any _ _ σ2 _ HK7.out.1).mono ?_
              rintro e wx ⟨rfl, hwx⟩
              obtain rfl := hwx.symm
              go_simp
              refine hK.out _ _ hHeld (fun hHeld => ?_)
              refine take_to 4 (some 81) (v := ?_) rfl rfl (by kernel_rfl) (by kernel_rfl) (by kernel_rfl) (fun _ _ _ h => h) (Or.inl ⟨by rfl, ?_⟩) (by first | trivial | assumption) ?_
              rotate_left
              focus (intro w hSw; (try dsimp only at hSw); go_simp; (try with_reducible rfl))
              simp only [Act.put, List.setIfInBounds_toArray, List.set_cons_zero, List.set_cons_succ]
              refine take_to 5 (some 82) (v := ?_) rfl rfl (by kernel_rfl) (by kernel_rfl) (by kernel_rfl) (fun _ _ _ h => h) (Or.inl ⟨by rfl, ?_⟩) (by first | trivial | assumption) ?_
              rotate_left
              focus (intro w hSw; (try dsimp only at hSw); go_simp; (try with_reducible rfl))
              simp only [Act.put, List.setIfInBounds_toArray, List.set_cons_zero, List.set_cons_succ]
              refine take_to 6 (some 83) (v := ?_) rfl rfl (by kernel_rfl) (by kernel_rfl) (by kernel_rfl) (fun _ _ _ h => h) (Or.inl ⟨by rfl, ?_⟩) (by first | trivial | assumption) ?_
              rotate_left
              focus (intro w hSw; (try dsimp only at hSw); go_simp; (try with_reducible rfl))
              simp only [Act.put, List.setIfInBounds_toArray, List.set_cons_zero, List.set_cons_succ]
              refine take_to 7 (some 84) (v := ?_) rfl rfl (by kernel_rfl) (by kernel_rfl) (by kernel_rfl) (fun _ _ _ h => h) (Or.inl ⟨by rfl, ?_⟩) (by first | trivial | assumption) ?_
              rotate_left
              focus (intro w hSw; (try dsimp only at hSw); go_simp; (try with_reducible rfl))
              simp only [Act.put, List.setIfInBounds_toArray, List.set_cons_zero, List.set_cons_succ]
              refine take_to 8 (some 85) (v := undef) rfl rfl (by kernel_rfl) (by kernel_rfl) (by kernel_rfl) (fun _ _ _ h => h) (Or.inr ⟨by rfl, rfl⟩) (by first | trivial | assumption) ?_
              simp only [Act.put, List.setIfInBounds_toArray, List.set_cons_zero, List.set_cons_succ]
              refine take_to 9 (some 86) (v := undef) rfl rfl (by kernel_rfl) (by kernel_rfl) (by kernel_rfl) (fun _ _ _ h => h) (Or.inr ⟨by rfl, rfl⟩) (by first | trivial | assumption) ?_
              simp only [Act.put, List.setIfInBounds_toArray, List.set_cons_zero, List.set_cons_succ]
              refine take_to 10 (some 87) (v := undef) rfl rfl (by kernel_rfl) (by kernel_rfl) (by kernel_rfl) (fun _ _ _ h => h) (Or.inr ⟨by rfl, rfl⟩) (by first | trivial | assumption) ?_
              simp only [Act.put, List.setIfInBounds_toArray, List.set_cons_zero, List.set_cons_succ]
              refine take_to 11 (some 88) (v := undef) rfl rfl (by kernel_rfl) (by kernel_rfl) (by kernel_rfl) (fun _ _ _ h => h) (Or.inr ⟨by rfl, rfl⟩) (by first | trivial | assumption) ?_
              simp only [Act.put, List.setIfInBounds_toArray, List.set_cons_zero, List.set_cons_succ]
              refine take_to 12 (some 89) (v := undef) rfl rfl (by kernel_rfl) (by kernel_rfl) (by kernel_rfl) (fun _ _ _ h => h) (Or.inr ⟨by rfl, rfl⟩) (by first | trivial | assumption) ?_
              simp only [Act.put, List.setIfInBounds_toArray, List.set_cons_zero, List.set_cons_succ]
              refine take_to 13 (some 90) (v := undef) rfl rfl (by kernel_rfl) (by kernel_rfl) (by kernel_rfl) (fun _ _ _ h => h) (Or.inr ⟨by rfl, rfl⟩) (by first | trivial | assumption) ?_
              simp only [Act.put, List.setIfInBounds_toArray, List.set_cons_zero, List.set_cons_succ]
              refine take_to 14 (some 91) (v := undef) rfl rfl (by kernel_rfl) (by kernel_rfl) (by kernel_rfl) (fun _ _ _ h => h) (Or.inr ⟨by rfl, rfl⟩) (by first | trivial | assumption) ?_
              simp only [Act.put, List.setIfInBounds_toArray, List.set_cons_zero, List.set_cons_succ]
              refine take_to 15 (some 92) (v := undef) rfl rfl (by kernel_rfl) (by kernel_rfl) (by kernel_rfl) (fun _ _ _ h => h) (Or.inr ⟨by rfl, rfl⟩) (by first | trivial | assumption) ?_
              simp only [Act.put, List.setIfInBounds_toArray, List.set_cons_zero, List.set_cons_succ]
              refine take_to 16 (some 93) (v := undef) rfl rfl (by kernel_rfl) (by kernel_rfl) (by kernel_rfl) (fun _ _ _ h => h) (Or.inr ⟨by rfl, rfl⟩) (by first | trivial | assumption) ?_
              simp only [Act.put, List.setIfInBounds_toArray, List.set_cons_zero, List.set_cons_succ]
              refine take_to 17 (some 94) (v := undef) rfl rfl (by kernel_rfl) (by kernel_rfl) (by kernel_rfl) (fun _ _ _ h => h) (Or.inr ⟨by rfl, rfl⟩) (by first | trivial | assumption) ?_
              simp only [Act.put, List.setIfInBounds_toArray, List.set_cons_zero, List.set_cons_succ]
              refine take_to 18 (some 95) (v := undef) rfl rfl (by kernel_rfl) (by kernel_rfl) (by kernel_rfl) (fun _ _ _ h => h) (Or.inr ⟨by rfl, rfl⟩) (by first | trivial | assumption) ?_
              simp only [Act.put, List.setIfInBounds_toArray, List.set_cons_zero, List.set_cons_succ]
              refine take_to 19 (some 96) (v := undef) rfl rfl (by kernel_rfl) (by kernel_rfl) (by kernel_rfl) (fun _ _ _ h => h) (Or.inr ⟨by rfl, rfl⟩) (by first | trivial | assumption) ?_
              simp only [Act.put, List.setIfInBounds_toArray, List.set_cons_zero, List.set_cons_succ]
              refine take_to 20 (some 97) (v := undef) rfl rfl (by kernel_rfl) (by kernel_rfl) (by kernel_rfl) (fun _ _ _ h => h) (Or.inr ⟨by rfl, rfl⟩) (by first | trivial | assumption) ?_
              simp only [Act.put, List.setIfInBounds_toArray, List.set_cons_zero, List.set_cons_succ]
              refine take_to 21 (some 98) (v := undef) rfl rfl (by kernel_rfl) (by kernel_rfl) (by kernel_rfl) (fun _ _ _ h => h) (Or.inr ⟨by rfl, rfl⟩) (by first | trivial | assumption) ?_
              simp only [Act.put, List.setIfInBounds_toArray, List.set_cons_zero, List.set_cons_succ]
              refine take_to 22 (some 99) (v := undef) rfl rfl (by kernel_rfl) (by kernel_rfl) (by kernel_rfl) (fun _ _ _ h => h) (Or.inr ⟨by rfl, rfl⟩) (by first | trivial | assumption) ?_
              simp only [Act.put, List.setIfInBounds_toArray, List.set_cons_zero, List.set_cons_succ]
              refine take_to 23 (some 100) (v := undef) rfl rfl (by kernel_rfl) (by kernel_rfl) (by kernel_rfl) (fun _ _ _ h => h) (Or.inr ⟨by rfl, rfl⟩) (by first | trivial | assumption) ?_
              simp only [Act.put, List.setIfInBounds_toArray, List.set_cons_zero, List.set_cons_succ]
              refine take_to 24 (some 101) (v := undef) rfl rfl (by kernel_rfl) (by kernel_rfl) (by kernel_rfl) (fun _ _ _ h => h) (Or.inr ⟨by rfl, rfl⟩) (by first | trivial | assumption) ?_
              simp only [Act.put, List.setIfInBounds_toArray, List.set_cons_zero, List.set_cons_succ]
              refine take_to 25 (some 102) (v := undef) rfl rfl (by kernel_rfl) (by kernel_rfl) (by kernel_rfl) (fun _ _ _ h => h) (Or.inr ⟨by rfl, rfl⟩) (by first | trivial | assumption) ?_
              simp only [Act.put, List.setIfInBounds_toArray, List.set_cons_zero, List.set_cons_succ]
              refine take_to 26 (some 103) (v := undef) rfl rfl (by kernel_rfl) (by kernel_rfl) (by kernel_rfl) (fun _ _ _ h => h) (Or.inr ⟨by rfl, rfl⟩) (by first | trivial | assumption) ?_
              simp only [Act.put, List.setIfInBounds_toArray, List.set_cons_zero, List.set_cons_succ]
              refine take_to 27 (some 104) (v := ?_) rfl rfl (by kernel_rfl) (by kernel_rfl) (by kernel_rfl) (fun _ _ _ h => h) (Or.inl ⟨by rfl, ?_⟩) (by first | trivial | assumption) ?_
              rotate_left
              focus (intro w hSw; (try dsimp only at hSw); go_simp; (try with_reducible rfl))
              simp only [Act.put, List.setIfInBounds_toArray, List.set_cons_zero, List.set_cons_succ]
              refine take_to 28 (some 105) (v := ?_) rfl rfl (by kernel_rfl) (by kernel_rfl) (by kernel_rfl) (fun _ _ _ h => h) (Or.inl ⟨by rfl, ?_⟩) (by first | trivial | assumption) ?_
              rotate_left
              focus (intro w hSw; (try dsimp only at hSw); go_simp; (try with_reducible rfl))
              simp only [Act.put, List.setIfInBounds_toArray, List.set_cons_zero, List.set_cons_succ]
              refine take_to 29 (some 106) (v := ?_) rfl rfl (by kernel_rfl) (by kernel_rfl) (by kernel_rfl) (fun _ _ _ h => h) (Or.inl ⟨by rfl, ?_⟩) (by first | trivial | assumption) ?_
              rotate_left
              focus (intro w hSw; (try dsimp only at hSw); go_simp; (try with_reducible rfl))
              simp only [Act.put, List.setIfInBounds_toArray, List.set_cons_zero, List.set_cons_succ]
              refine take_to 30 (some 107) (v := ?_) rfl rfl (by kernel_rfl) (by kernel_rfl) (by kernel_rfl) (fun _ _ _ h => h) (Or.inl ⟨by rfl, ?_⟩) (by first | trivial | assumption) ?_
              rotate_left
              focus (intro w hSw; (try dsimp only at hSw); go_simp; (try with_reducible rfl))
              simp only [Act.put, List.setIfInBounds_toArray, List.set_cons_zero, List.set_cons_succ]
              refine take_to 31 (some 108) (v := ?_) rfl rfl (by kernel_rfl) (by kernel_rfl) (by kernel_rfl) (fun _ _ _ h => h) (Or.inl ⟨by rfl, ?_⟩) (by first | trivial | assumption) ?_
              rotate_left
              focus (intro w hSw; (try dsimp only at hSw); go_simp; (try with_reducible rfl))
              simp only [Act.put, List.setIfInBounds_toArray, List.set_cons_zero, List.set_cons_succ]
              refine take_to 32 (some 109) (v := ?_) rfl rfl (by kernel_rfl) (by kernel_rfl) (by kernel_rfl) (fun _ _ _ h => h) (Or.inl ⟨by rfl, ?_⟩) (by first | trivial | assumption) ?_
              rotate_left
              focus (intro w hSw; (try dsimp only at hSw); go_simp; (try with_reducible rfl))
              simp only [Act.put, List.setIfInBounds_toArray, List.set_cons_zero, List.set_cons_succ]
              refine take_to 33 (some 110) (v := ?_) rfl rfl (by kernel_rfl) (by kernel_rfl) (by kernel_rfl) (fun _ _ _ h => h) (Or.inl ⟨by rfl, ?_⟩) (by first | trivial | assumption) ?_
              rotate_left
              focus (intro w hSw; (try dsimp only at hSw); go_simp; (try with_reducible rfl))
              simp only [Act.put, List.setIfInBounds_toArray, List.set_cons_zero, List.set_cons_succ]
              refine take_to 34 (some 111) (v := ?_) rfl rfl (by kernel_rfl) (by kernel_rfl) (by kernel_rfl) (fun _ _ _ h => h) (Or.inl ⟨by rfl, ?_⟩) (by first | trivial | assumption) ?_
              rotate_left
              focus (intro w hSw; (try dsimp only at hSw); go_simp; (try with_reducible rfl))
              simp only [Act.put, List.setIfInBounds_toArray, List.set_cons_zero, List.set_cons_succ]
              refine take_to 35 (some 112) (v := ?_) rfl rfl (by kernel_rfl) (by kernel_rfl) (by kernel_rfl) (fun _ _ _ h => h) (Or.inl ⟨by rfl, ?_⟩) (by first | trivial | assumption) ?_
              rotate_left
              focus (intro w hSw; (try dsimp only at hSw); go_simp; (try with_reducible rfl))
              simp only [Act.put, List.setIfInBounds_toArray, List.set_cons_zero, List.set_cons_succ]
              refine take_to 36 (some 113) (v := ?_) rfl rfl (by kernel_rfl) (by kernel_rfl) (by kernel_rfl) (fun _ _ _ h => h) (Or.inl ⟨by rfl, ?_⟩) (by first | trivial | assumption) ?_
              rotate_left
              focus (intro w hSw; (try dsimp only at hSw); go_simp; (try with_reducible rfl))
              simp only [Act.put, List.setIfInBounds_toArray, List.set_cons_zero, List.set_cons_succ]
              refine take_to 37 (some 114) (v := ?_) rfl rfl (by kernel_rfl) (by kernel_rfl) (by kernel_rfl) (fun _ _ _ h => h) (Or.inl ⟨by rfl, ?_⟩) (by first | trivial | assumption) ?_
              rotate_left
              focus (intro w hSw; (try dsimp only at hSw); go_simp; (try with_reducible rfl))
              simp only [Act.put, List.setIfInBounds_toArray, List.set_cons_zero, List.set_cons_succ]
              refine take_to 39 (some 116) (v := ?_) rfl rfl (by kernel_rfl) (by kernel_rfl) (by kernel_rfl) (fun _ _ _ h => h) (Or.inl ⟨by rfl, ?_⟩) (by first | trivial | assumption) ?_
              rotate_left
              focus (intro w hSw; (try dsimp only at hSw); go_simp; (try with_reducible rfl))
              simp only [Act.put, List.setIfInBounds_toArray, List.set_cons_zero, List.set_cons_succ]
              refine wpAnyH_ready (rs := [38]) (by kernel_rfl) (by simp) ?_
              refine AllReadyH.cons rfl (fun K hK => ?_) AllReadyH.nil
              go_simp
              refine (words_own _ _ σ2 _ HK7.out.1 σ.t (σ.ws.take σ.t) HFW.out.2 (by rw [HFW.out.1, HFW.out.2])).mono ?_
              rintro e w8 ⟨A8, c8, rfl, hr8, hb8⟩
              go_simp
              refine hK.out _ _ (keep6 hb8 hHeld) (fun hHeld => ?_)
              refine wpAnyH_ready (rs := [40]) (by kernel_rfl) (by simp) ?_
              refine AllReadyH.cons rfl (fun K hK => ?_) AllReadyH.nil
              go_simp
              refine (same_tt (σ.ws.take σ.t) A8 Aw c8 cw σ.t _ HLen.out HSR.out hr8.sl (HSw7.out.same hb8).sl).mono ?_
              rintro e w9 ⟨rfl, hb9⟩
              go_simp
              refine hK.out _ _ (keep6 hb9 hHeld) (fun hHeld => ?_)
              refine take_to 41 (some 118) (v := ?_) rfl rfl (by kernel_rfl) (by kernel_rfl) (by kernel_rfl) (fun _ _ _ h => h) (Or.inl ⟨by rfl, ?_⟩) (by first | trivial | assumption) ?_
              rotate_left
              focus (intro w hSw; (try dsimp only at hSw); go_simp; (try with_reducible rfl))
              simp only [Act.put, List.setIfInBounds_toArray, List.set_cons_zero, List.set_cons_succ]
              refine take_to 42 (some 119) (v := ?_) rfl rfl (by kernel_rfl) (by kernel_rfl) (by kernel_rfl) (fun _ _ _ h => h) (Or.inl ⟨by rfl, ?_⟩) (by first | trivial | assumption) ?_
              rotate_left
              focus (intro w hSw; (try dsimp only at hSw); go_simp; (try with_reducible rfl))
              simp only [Act.put, List.setIfInBounds_toArray, List.set_cons_zero, List.set_cons_succ]
              refine take_to 43 (some 120) (v := ?_) rfl rfl (by kernel_rfl) (by kernel_rfl) (by kernel_rfl) (fun _ _ _ h => h) (Or.inl ⟨by rfl, ?_⟩) (by first | trivial | assumption) ?_
              rotate_left
              focus (intro w hSw; (try dsimp only at hSw); go_simp; (try with_reducible rfl))
              simp only [Act.put, List.setIfInBounds_toArray, List.set_cons_zero, List.set_cons_succ]
              refine wpAnyH_done (by kernel_rfl) ?_ _
              exact hK' _ _ (Met.intro (hJ _ _ ⟨rfl, rfl, rfl, rfl, rfl, rfl, rfl, rfl, rfl, rfl, HE.out _ (hb7.out.trans ((hb8.mono hb7.out.size).trans (hb9.mono (Nat.le_trans hb7.out.size hb8.size))))⟩))
      · intro J K' hJ hK'
        by_cases k1 : kd = 1
        · have e1 := ibeq k1
          have HE14 := Lib.hid (show Value.bool true = Value.bool (kd == 1 || kd == 2) by rw [k1]; rfl)
          clear k1
          go_wp2_with fail
          exact Met.intro (hJ _ _ ⟨rfl, rfl, rfl, rfl, rfl, rfl, rfl, rfl, rfl, rfl, rfl, HE14.out, rfl⟩)
        · have e1 := ibeq_no k1
          by_cases k2 : kd = 2
          · have e2 := ibeq k2
            have HE14 := Lib.hid (show Value.bool true = Value.bool (kd == 1 || kd == 2) by rw [k2]; rfl)
            clear k1 k2
            go_wp2_with fail
            exact Met.intro (hJ _ _ ⟨rfl, rfl, rfl, rfl, rfl, rfl, rfl, rfl, rfl, rfl, rfl, HE14.out, rfl⟩)
          · have e2 := ibeq_no k2
            have HE14 := Lib.hid (show Value.bool false = Value.bool (kd == 1 || kd == 2) by rw [beq_eq_false_iff_ne.2 k1, beq_eq_false_iff_ne.2 k2]; rfl)
            clear k1 k2
            go_wp2_with fail
            exact Met.intro (hJ _ _ ⟨rfl, rfl, rfl, rfl, rfl, rfl, rfl, rfl, rfl, rfl, rfl, HE14.out, rfl⟩)
    · have he : (l.length : Int) ≤ (k : Int) := by omega
      clear HK HO
      go_wp2_with fail
      refine (awake_lk _).mono ?_
      rintro e W9 ⟨rfl, hb9⟩
      go_wp2_with fail
      go_ret
      exact ⟨rfl, HB.out.trans (hb9.mono hBW)⟩

end Go.Proofs.Ythffhhgaeolpgaa.Mc
