/- The walk of PickSays. -/
import Derived.Test.YtcfdphfochfeoaaDoorPi7
namespace Go.Proofs.YtcfdphfochfeoaaDoor.Pi
open Go.RowKit Go.Proofs.YtcfdphfochfeoaaDoor.Li Go.Proofs.YtcfdphfochfeoaaDoor.De Go.Proofs.YtcfdphfochfeoaaDoor.Ara
theorem frame132 {a : Act} (h : a.tmps.size = 132) (hd : a.defers = []) : ∃ u : Nat → Value, a = { tmps := #[u 0, u 1, u 2, u 3, u 4, u 5, u 6, u 7, u 8, u 9, u 10, u 11, u 12, u 13, u 14, u 15, u 16, u 17, u 18, u 19, u 20, u 21, u 22, u 23, u 24, u 25, u 26, u 27, u 28, u 29, u 30, u 31, u 32, u 33, u 34, u 35, u 36, u 37, u 38, u 39, u 40, u 41, u 42, u 43, u 44, u 45, u 46, u 47, u 48, u 49, u 50, u 51, u 52, u 53, u 54, u 55, u 56, u 57, u 58, u 59, u 60, u 61, u 62, u 63, u 64, u 65, u 66, u 67, u 68, u 69, u 70, u 71, u 72, u 73, u 74, u 75, u 76, u 77, u 78, u 79, u 80, u 81, u 82, u 83, u 84, u 85, u 86, u 87, u 88, u 89, u 90, u 91, u 92, u 93, u 94, u 95, u 96, u 97, u 98, u 99, u 100, u 101, u 102, u 103, u 104, u 105, u 106, u 107, u 108, u 109, u 110, u 111, u 112, u 113, u 114, u 115, u 116, u 117, u 118, u 119, u 120, u 121, u 122, u 123, u 124, u 125, u 126, u 127, u 128, u 129, u 130, u 131], defers := [] } ∧ ∀ n, a.tmps.getD n undef = u n := by
  refine ⟨fun n => a.tmps.getD n undef, ?_, fun _ => rfl⟩
  have h1 := arr_lit a.tmps h
  cases a with
  | mk t d =>
    simp only at hd h1
    subst hd
    congr 1
def PsJ (n : Nat) (v0 v1 v7 v8 v11 v12 v13 v14 v17 v18 v21 : Value) (w1 : World) (a : Act) (w' : World) : Prop :=
  a.tmps.size = 132 ∧ a.defers = [] ∧ a.tmps.getD 0 undef = v0 ∧ a.tmps.getD 1 undef = v1 ∧ a.tmps.getD 7 undef = v7 ∧ a.tmps.getD 8 undef = v8 ∧ a.tmps.getD 9 undef = v7 ∧ a.tmps.getD 10 undef = v8 ∧ a.tmps.getD 11 undef = v11 ∧ a.tmps.getD 12 undef = v12 ∧ a.tmps.getD 13 undef = v13 ∧ a.tmps.getD 14 undef = v14 ∧ a.tmps.getD 15 undef = v12 ∧ a.tmps.getD 16 undef = v13 ∧ a.tmps.getD 17 undef = v17 ∧ a.tmps.getD 18 undef = v18 ∧ a.tmps.getD 19 undef = v17 ∧ a.tmps.getD 20 undef = v18 ∧ a.tmps.getD 21 undef = v21 ∧
    ∃ i : Nat, a.tmps.getD 22 undef = .int .i64 (i : Int) ∧ i ≤ n ∧ Below w1.heap.size w1 w'
theorem sl_th {w : World} {Bd : Nat} {A : Option Addr} {ps : List Pk} (h : Sl w Bd A (ps.map fun p => .int .i64 p.th)) {k : Nat} (hk : k < ps.length) : ∃ b off, A = some ⟨b, off, none⟩ ∧ b < Bd ∧ w.cell? ⟨b, off + k, none⟩ = some (.int .i64 ps[k].th) := by
  obtain ⟨b, off, h1, h2, h3⟩ := h.at_ (by rw [List.length_map]; omega)
  refine ⟨b, off, h1, h2, ?_⟩
  have := h3 k (by rw [List.length_map]; exact hk)
  rw [List.getElem_map] at this
  exact this
set_option maxRecDepth 100000 in
set_option maxHeartbeats 8000000 in
theorem says_law (w : World) (ho : Ok w) (A : Option Addr) (cap : Nat) (ps : List Pk) (hm : ps.length ≤ 9223372036854775807) (h64 : ∀ p ∈ ps, okP p) (hs : Sl w w.heap.size A (ps.flatMap dP)) (l : List UInt8) (h63 : l.length ≤ 9223372036854775807) (c : UInt8) :
    Calls Tryd.prog 8 #[.slice A ps.length cap, vS l, .int .u8 (c.toNat : Int)] w fun e w' => e = .returned (.bool true) ∧ Below w.heap.size w w' := by
  have HA := Lib.hid (fun W hW => awake_any W hW)
  have HO := Lib.hid ho
  have hsB := size_B l
  have HS := Lib.hid hs
  clear ho hs
  by_cases h6 : ps.length ≤ 60
  · have i4 : ¬ (60 : Int) < (ps.length : Int) := by omega
    by_cases h4 : l.length ≤ 400
    · have i3 : ¬ (400 : Int) < (l.length : Int) := by omega
      have C1 := Lib.hid (fun W => text_any ps A cap W (by omega) h64)
      have C2 := Lib.hid (fun W => rtext_any ps A cap W (by omega) h64)
      have C3 := Lib.hid (fun W hW => parse_any l (by omega) W hW)
      have C4 := Lib.hid (fun W => rparse_any l (by omega) W)
      have C5 := Lib.hid (fun W => want_any c W)
      have C6 := Lib.hid (fun W => rwant_any c W)
      have C7 := Lib.hid (fun W => threads_any ps A cap W (by omega))
      have C8 := Lib.hid (fun W => decode_any l (by omega) W)
      have C9 := Lib.hid (fun W => rdecode_any l (by omega) W)
      have hpl : (parseP l).1.length ≤ 4096 := by
        rcases parse_cases l with ⟨m, e1, _, _, e4, _⟩ | ⟨j, e1, _⟩
        · rw [e1]; show m.length ≤ 4096; omega
        · rw [e1]; simp
      have hdl : (l.map decP).length ≤ 4096 := by rw [List.length_map]; omega
      unfold PQ at C3 C4
      generalize textP ps = tx at *
      generalize parseP l = R at *
      generalize l.map decP = ds at *
      clear h64
      go_enter Tryd.func8, Tryd.ntmps8
      go_wp2_with fail
      refine (C1.out _ HS.out).mono ?_
      rintro e w1 ⟨rfl, b1⟩
      have B1 := Lib.hid b1
      have O1 := Lib.hid (HO.out.step b1)
      clear b1
      go_wp2_with fail
      refine (C2.out _ ((HS.out.below B1.out).more B1.out.size)).mono ?_
      rintro e wx ⟨rfl, q, rfl⟩
      have B2 := Lib.hid (below_drewN B1.out q)
      have O2 : Hid (Ok (w1.drewN q)) := Lib.hid O1.out
      generalize w1.drewN q = w2 at *
      go_wp2_with fail
      refine (C3.out _ O2.out).mono ?_
      rintro e w3 ⟨A3, c3, rfl, s3, b3⟩
      have B3 := Lib.hid (nx B2.out b3)
      have O3 := Lib.hid (O2.out.step b3)
      have S3 := Lib.hid s3
      clear s3 b3
      go_wp2_with fail
      refine (C4.out _).mono ?_
      rintro e w4 ⟨A4, c4, rfl, s4, b4⟩
      have B4 := Lib.hid (nx B3.out b4)
      have O4 := Lib.hid (O3.out.step b4)
      have S3 := Lib.hid (S3.out.step b4)
      have S4 := Lib.hid s4
      clear s4 b4
      go_wp2_with fail
      refine (C5.out _).mono ?_
      rintro e w5 ⟨rfl, b5⟩
      have B5 := Lib.hid (nx B4.out b5)
      have O5 := Lib.hid (O4.out.step b5)
      have S3 := Lib.hid (S3.out.step b5)
      have S4 := Lib.hid (S4.out.step b5)
      clear b5
      go_wp2_with fail
      refine (C6.out _).mono ?_
      rintro e wx ⟨rfl, hwx⟩
      obtain rfl := hwx.symm
      go_wp2_with fail
      refine (C7.out _ ((HS.out.below B5.out).more B5.out.size)).mono ?_
      rintro e w7 ⟨A7, c7, rfl, s7, b7⟩
      have B7 := Lib.hid (nx B5.out b7)
      have O7 := Lib.hid (O5.out.step b7)
      have S3 := Lib.hid (S3.out.step b7)
      have S4 := Lib.hid (S4.out.step b7)
      have S7 := Lib.hid s7
      clear s7 b7
      generalize wv c = cv at *
      generalize wb c = cb at *
      go_wp2_with fail
      refine wp_loop (PsJ ps.length (.slice A ps.length cap) (vS l) (vS tx.1) (.int .i64 tx.2) (.slice A3 R.1.length c3) (.int .i64 (R.2.1 : Int)) (.int .i64 R.2.2) (.slice A4 R.1.length c4) (.int .i64 cv) (.bool cb) (.slice A7 ps.length c7) w7) (fun a' _ => ps.length - (intOf (a'.tmps.getD 22 undef)).toNat) ?_ ?_
      · exact ⟨rfl, rfl, rfl, rfl, rfl, rfl, rfl, rfl, rfl, rfl, rfl, rfl, rfl, rfl, rfl, rfl, rfl, rfl, rfl, 0, rfl, Nat.zero_le _, Below.refl _ _⟩
      · rintro a' W ⟨hsz, hdf, s0, s1, s7, s8, s9, s10, s11, s12, s13, s14, s15, s16, s17, s18, s19, s20, s21, i, s22, hi, hbel⟩
        obtain ⟨u, rfl, hu⟩ := frame132 hsz hdf
        rw [hu] at s0 s1 s7 s8 s9 s10 s11 s12 s13 s14 s15 s16 s17 s18 s19 s20 s21 s22
        simp only [s0, s1, s7, s8, s9, s10, s11, s12, s13, s14, s15, s16, s17, s18, s19, s20, s21, s22]
        clear hsz hdf s0 s1 s7 s8 s9 s10 s11 s12 s13 s14 s15 s16 s17 s18 s19 s20 s21 s22 hu
        have HB := Lib.hid hbel
        have HBw := Lib.hid (nx B7.out hbel)
        clear hbel
        by_cases hlt : i < ps.length
        · obtain ⟨b, off, rfl, hbb, hcell⟩ := sl_pk ((HS.out.below HBw.out).more HBw.out.size) hlt
          obtain ⟨h0, _⟩ := hcell i hlt
          obtain ⟨b', off', rfl, hbb', g0⟩ := sl_th ((S7.out.below HB.out).more HB.out.size) hlt
          have i1 : (i : Int) < (ps.length : Int) := by omega
          have q0 : ((ps.length : Int) != (ps.length : Int)) = false := ibne_no rfl
          have q1 : (ps[i].th != ps[i].th) = false := ibne_no rfl
          clear hcell
          generalize ps[i] = p at *
          go_wp2_with fail
          go_quiet (fail)
          go_wp2_with fail
          go_roundw
          case rel => exact ⟨rfl, rfl, rfl, rfl, rfl, rfl, rfl, rfl, rfl, rfl, rfl, rfl, rfl, rfl, rfl, rfl, rfl, rfl, rfl, i + 1, by go_num, by omega, below_drewN HB.out _⟩
          case measure => simp [intOf]; omega
        · have S3 := Lib.hid ((S3.out.below HB.out).more HB.out.size)
          have S4 := Lib.hid ((S4.out.below HB.out).more HB.out.size)
          have OW := Lib.hid (O7.out.step HB.out)
          go_wp2_with fail
          refine (psame_tt R.1 A3 A4 c3 c4 _ hpl S3.out S4.out).mono ?_
          rintro e w8 ⟨rfl, b8⟩
          have B8 := Lib.hid (nx HBw.out b8)
          have O8 := Lib.hid (OW.out.step b8)
          clear b8
          go_wp2_with fail
          refine (C8.out _).mono ?_
          rintro e w9 ⟨A9, c9, rfl, s9, b9⟩
          have B9 := Lib.hid (nx B8.out b9)
          have O9 := Lib.hid (O8.out.step b9)
          have S9 := Lib.hid s9
          clear s9 b9
          go_wp2_with fail
          refine (C9.out _).mono ?_
          rintro e w10 ⟨A10, c10, rfl, s10, b10⟩
          have B10 := Lib.hid (nx B9.out b10)
          have O10 := Lib.hid (O9.out.step b10)
          have S9 := Lib.hid (S9.out.step b10)
          have S10 := Lib.hid s10
          clear s10 b10
          go_wp2_with fail
          refine (psame_tt ds A9 A10 c9 c10 _ hdl S9.out S10.out).mono ?_
          rintro e w11 ⟨rfl, b11⟩
          have B11 := Lib.hid (nx B10.out b11)
          have O11 := Lib.hid (O10.out.step b11)
          clear b11
          go_wp2_with fail
          refine (HA.out _ O11.out).mono ?_
          rintro e wz ⟨rfl, bz⟩
          have BZ := Lib.hid (nx B11.out bz)
          clear bz
          go_wp2_with fail
          go_ret
          exact ⟨rfl, BZ.out⟩
    · have i3 : (400 : Int) < (l.length : Int) := by omega
      go_enter Tryd.func8, Tryd.ntmps8
      go_wp2_with fail
      refine (HA.out _ HO.out).mono ?_
      rintro e wz ⟨rfl, bz⟩
      have BZ := Lib.hid (nx (Below.refl _ _) bz)
      clear bz
      go_wp2_with fail
      go_ret
      exact ⟨rfl, BZ.out⟩
  · have i4 : (60 : Int) < (ps.length : Int) := by omega
    go_enter Tryd.func8, Tryd.ntmps8
    go_wp2_with fail
    refine (HA.out _ HO.out).mono ?_
    rintro e wz ⟨rfl, bz⟩
    have BZ := Lib.hid (nx (Below.refl _ _) bz)
    clear bz
    go_wp2_with fail
    go_ret
    exact ⟨rfl, BZ.out⟩
end Go.Proofs.YtcfdphfochfeoaaDoor.Pi
