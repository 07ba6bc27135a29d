/- The walks of the laws of picks: awake, PickBack. -/
import Derived.Test.YtcfdphfochfeoaaDoorPi6
import Derived.Test.YtcfdphfochfeoaaDoorDe8
namespace Go.Proofs.YtcfdphfochfeoaaDoor.Pi
open Go.RowKit Go.Proofs.YtcfdphfochfeoaaDoor.Li Go.Proofs.YtcfdphfochfeoaaDoor.De Go.Proofs.YtcfdphfochfeoaaDoor.Ara

theorem psame_tt (l : List Pk) (A C : Option Addr) (c1 c2 : Nat) (w : World) (hm : l.length ≤ 4096) (hs : Sl w w.heap.size A (l.flatMap dP)) (ht : Sl w w.heap.size C (l.flatMap dP)) :
    Calls Tryd.prog 48 #[.slice A l.length c1, .slice C l.length c2] w fun e w' => e = .returned (.bool true) ∧ Below w.heap.size w w' := by
  have := psame_any l l A C c1 c2 w hm hm hs ht
  rw [decide_eq_true rfl] at this
  exact this
set_option maxRecDepth 100000 in
set_option maxHeartbeats 4000000 in
theorem awake_any (w : World) (ho : Ok w) : Calls Tryd.prog 40 #[] w fun e w' => e = .returned (.bool true) ∧ Below w.heap.size w w' := by
  have a1 : Hid (∀ W, Ok W → Calls Tryd.prog 43 #[.string ⟨#[48, 108, 10, 32, 45, 49, 115, 32]⟩] W fun e w' => ∃ A c, e = .returned (.tuple #[.slice A 2 c, .int .i64 0, .int .i64 0]) ∧ Sl w' w'.heap.size A [.int .i64 0, .int .i64 1, .int .i64 (-1), .int .i64 0] ∧ Below W.heap.size W w') := Lib.hid (fun W hW => by
    have := parse_any [48, 108, 10, 32, 45, 49, 115, 32] (by decide) W hW
    unfold PQ at this
    rw [show parseP [48, 108, 10, 32, 45, 49, 115, 32] = ([⟨0, 1⟩, ⟨-1, 0⟩], 0, 0) by kernel_rfl] at this
    exact this)
  have a2 : Hid (∀ W, Ok W → Calls Tryd.prog 43 #[.string ⟨#[48, 108, 32, 49, 120]⟩] W fun e w' => ∃ A c, e = .returned (.tuple #[.slice A 0 c, .int .i64 1, .int .i64 2]) ∧ Sl w' w'.heap.size A [] ∧ Below W.heap.size W w') := Lib.hid (fun W hW => by
    have := parse_any [48, 108, 32, 49, 120] (by decide) W hW
    unfold PQ at this
    rw [show parseP [48, 108, 32, 49, 120] = ([], 1, 2) by kernel_rfl] at this
    exact this)
  have a3 : Hid (∀ A c W, Sl W W.heap.size A [.int .i64 2, .int .i64 4, .int .i64 0, .int .i64 2] → Calls Tryd.prog 41 #[.slice A 2 c] W fun e w' => e = .returned (.tuple #[vS [50, 118, 32, 48, 117], .int .i64 0]) ∧ Below W.heap.size W w') := Lib.hid (fun A c W h => by
    have := text_any [⟨2, 4⟩, ⟨0, 2⟩] A c W (by decide) (by unfold okP; decide) h
    rw [show textP [⟨2, 4⟩, ⟨0, 2⟩] = ([50, 118, 32, 48, 117], 0) by kernel_rfl] at this
    exact this)
  have a4 := Lib.hid (fun A c1 C c2 W => psame_tt [⟨0, 1⟩, ⟨-1, 0⟩] A C c1 c2 W (by decide))
  have a5 : Hid (∀ W, Calls Tryd.prog 49 #[.string ⟨#[9, 15]⟩] W fun e w' => ∃ A c, e = .returned (.slice A 2 c) ∧ Sl w' w'.heap.size A [.int .i64 1, .int .i64 1, .int .i64 1, .int .i64 0] ∧ Below W.heap.size W w') := Lib.hid (fun W => by
    have := decode_any [9, 15] (by decide) W
    rw [show ([9, 15] : List UInt8).map decP = [⟨1, 1⟩, ⟨1, 0⟩] by kernel_rfl] at this
    exact this)
  have a6 := Lib.hid (fun A c1 C c2 W => psame_tt [⟨1, 1⟩, ⟨1, 0⟩] A C c1 c2 W (by decide))
  have a7 : Hid (∀ A c W, Sl W W.heap.size A [.int .i64 0, .int .i64 1, .int .i64 (-1), .int .i64 0] → Calls Tryd.prog 47 #[.slice A 2 c] W fun e w' => ∃ B c, e = .returned (.slice B 2 c) ∧ Sl w' w'.heap.size B [.int .i64 0, .int .i64 (-1)] ∧ Below W.heap.size W w') := Lib.hid (fun A c W h => threads_any [⟨0, 1⟩, ⟨-1, 0⟩] A c W (by decide) h)
  have a8 := Lib.hid (fun A c1 C c2 W => nsame_tt [0, -1] A C c1 c2 W (by decide))
  go_enter Tryd.func40, Tryd.ntmps40
  go_wp2_with fail
  refine (a1.out _ ho).mono ?_
  rintro e w1 ⟨A1, c1, rfl, s1, b1⟩
  have B1 := Lib.hid b1
  have O1 := Lib.hid (ho.step b1)
  have S1 := Lib.hid s1
  clear s1 b1
  go_wp2_with fail
  refine (a2.out _ O1.out).mono ?_
  rintro e w2 ⟨A2, c2, rfl, _, b2⟩
  have B2 := Lib.hid (nx B1.out b2)
  have S2 := Lib.hid (S1.out.step b2)
  clear b2
  go_wp2_with fail
  refine (a3.out _ _ _ (Sl.made w2 _ _)).mono ?_
  rintro e w3 ⟨rfl, b3⟩
  have B3 := Lib.hid (nx (nx B2.out (below_new _ _)) b3)
  have S3 := Lib.hid ((S2.out.push _).step b3)
  clear b3
  go_wp2_with fail
  refine (a4.out _ _ _ _ _ (S3.out.push _) (Sl.made w3 _ _)).mono ?_
  rintro e w4 ⟨rfl, b4⟩
  have B4 := Lib.hid (nx (nx B3.out (below_new _ _)) b4)
  have S4 := Lib.hid ((S3.out.push _).step b4)
  clear b4
  go_wp2_with fail
  refine (a5.out _).mono ?_
  rintro e w5 ⟨A5, c5, rfl, s5, b5⟩
  have B5 := Lib.hid (nx B4.out b5)
  have S5 := Lib.hid s5
  have S4 := Lib.hid (S4.out.step b5)
  clear s5 b5
  go_wp2_with fail
  refine (a6.out _ _ _ _ _ (S5.out.push _) (Sl.made w5 _ _)).mono ?_
  rintro e w6 ⟨rfl, b6⟩
  have B6 := Lib.hid (nx (nx B5.out (below_new _ _)) b6)
  have S6 := Lib.hid ((S4.out.push _).step b6)
  clear b6
  go_wp2_with fail
  refine (a7.out _ _ _ S6.out).mono ?_
  rintro e w7 ⟨A7, c7, rfl, s7, b7⟩
  have B7 := Lib.hid (nx B6.out b7)
  have S7 := Lib.hid s7
  clear s7 b7
  go_wp2_with fail
  refine (a8.out _ _ _ _ _ (S7.out.push _) (Sl.made w7 _ _)).mono ?_
  rintro e w8 ⟨rfl, b8⟩
  have B8 := Lib.hid (nx (nx B7.out (below_new _ _)) b8)
  clear b8
  go_wp2_with fail
  go_ret
  exact ⟨rfl, B8.out⟩
set_option maxRecDepth 100000 in
set_option maxHeartbeats 8000000 in
theorem back_law (w : World) (ho : Ok w) (A : Option Addr) (cap : Nat) (ps : List Pk) (hm : ps.length ≤ 9223372036854775807) (h64 : ∀ p ∈ ps, okP p) (hs : Sl w w.heap.size A (ps.flatMap dP)) (l : List UInt8) (h63 : l.length ≤ 9223372036854775807) :
    Calls Tryd.prog 9 #[.slice A ps.length cap, vS l] w fun e w' => e = .returned (.bool true) ∧ Below w.heap.size w w' := by
  have HA := Lib.hid (fun W hW => awake_any W hW)
  have HO := Lib.hid ho
  have hsB := size_B l
  have HS := Lib.hid hs
  clear ho hs
  by_cases h6 : ps.length ≤ 60
  · have i4 : ¬ (60 : Int) < (ps.length : Int) := by omega
    by_cases h4 : l.length ≤ 400
    · have i3 : ¬ (400 : Int) < (l.length : Int) := by omega
      have hjl := js_le ps h64 ps.length
      rw [List.take_length] at hjl
      by_cases hg : ps.all goodP = true
      · have ht : textP ps = (js (ps.map wordP), 0) := text_ok (List.all_eq_true.1 hg)
        have C1 : Hid (∀ W, Sl W W.heap.size A (ps.flatMap dP) → Calls Tryd.prog 41 #[.slice A ps.length cap] W fun e w' => e = .returned (.tuple #[vS (js (ps.map wordP)), .int .i64 0]) ∧ Below W.heap.size W w') := Lib.hid (fun W h => by
          have := text_any ps A cap W (by omega) h64 h
          rw [ht] at this
          exact this)
        have C2 : Hid (∀ W, Ok W → Calls Tryd.prog 43 #[vS (js (ps.map wordP))] W fun e w' => ∃ A c, e = .returned (.tuple #[.slice A ps.length c, .int .i64 0, .int .i64 0]) ∧ Sl w' w'.heap.size A (ps.flatMap dP) ∧ Below W.heap.size W w') := Lib.hid (fun W hW => by
          have hp := parse_text ps h64 hg
          rw [ht] at hp
          have := parse_any (js (ps.map wordP)) (by omega) W hW
          unfold PQ at this
          rw [hp] at this
          exact this)
        clear hg ht hjl h64
        generalize js (ps.map wordP) = t at *
        go_enter Tryd.func9, Tryd.ntmps9
        go_wp2_with fail
        refine (C1.out _ HS.out).mono ?_
        rintro e w1 ⟨rfl, b1⟩
        have B1 := Lib.hid b1
        have O1 := Lib.hid (HO.out.step b1)
        clear b1
        go_wp2_with fail
        refine (C2.out _ O1.out).mono ?_
        rintro e w2 ⟨A2, c2, rfl, s2, b2⟩
        have B2 := Lib.hid (nx B1.out b2)
        have O2 := Lib.hid (O1.out.step b2)
        have S2 := Lib.hid s2
        clear s2 b2
        go_wp2_with fail
        refine (psame_tt ps _ _ _ _ _ (by omega) S2.out ((HS.out.below B2.out).more B2.out.size)).mono ?_
        rintro e w3 ⟨rfl, b3⟩
        have B3 := Lib.hid (nx B2.out b3)
        have O3 := Lib.hid (O2.out.step b3)
        clear b3
        rcases parse_cases l with ⟨m, e1, e2, e3, e4, e5⟩ | ⟨j, e1, e2⟩
        · have C6 : Hid (∀ W, Ok W → Calls Tryd.prog 43 #[vS l] W fun e w' => ∃ A c, e = .returned (.tuple #[.slice A m.length c, .int .i64 0, .int .i64 0]) ∧ Sl w' w'.heap.size A (m.flatMap dP) ∧ Below W.heap.size W w') := Lib.hid (fun W hW => by
            have := parse_any l (by omega) W hW
            unfold PQ at this
            rw [e1] at this
            exact this)
          have C7 : Hid (∀ A c W, Sl W W.heap.size A (m.flatMap dP) → Calls Tryd.prog 41 #[.slice A m.length c] W fun e w' => e = .returned (.tuple #[vS (js (allW l)), .int .i64 0]) ∧ Below W.heap.size W w') := Lib.hid (fun A c W h => by
            have := text_any m A c W (by omega) (fun p hp => (e3 p hp).1) h
            rw [e2] at this
            exact this)
          have C8 : Hid (∀ W, Ok W → Calls Tryd.prog 43 #[vS (js (allW l))] W fun e w' => ∃ A c, e = .returned (.tuple #[.slice A m.length c, .int .i64 0, .int .i64 0]) ∧ Sl w' w'.heap.size A (m.flatMap dP) ∧ Below W.heap.size W w') := Lib.hid (fun W hW => by
            have hp := parse_text m (fun p hp => (e3 p hp).1) (List.all_eq_true.2 fun p hp => (e3 p hp).2)
            rw [e2] at hp
            have := parse_any (js (allW l)) (by omega) W hW
            unfold PQ at this
            rw [hp] at this
            exact this)
          have i9 : ((js (allW l)).length : Int) ≤ (l.length : Int) := by omega
          have hsu := size_B (js (allW l))
          clear e1 e2 e3
          generalize js (allW l) = u at *
          go_wp2_with fail
          refine (C6.out _ O3.out).mono ?_
          rintro e w6 ⟨A6, c6, rfl, s6, b6⟩
          have B6 := Lib.hid (nx B3.out b6)
          have O6 := Lib.hid ((O3.out).step b6)
          have S6 := Lib.hid s6
          clear s6 b6
          go_wp2_with fail
          refine (C7.out _ _ _ S6.out).mono ?_
          rintro e w7 ⟨rfl, b7⟩
          have B7 := Lib.hid (nx B6.out b7)
          have O7 := Lib.hid (O6.out.step b7)
          have S7 := Lib.hid (S6.out.step b7)
          clear b7
          go_wp2_with fail
          refine (C8.out _ O7.out).mono ?_
          rintro e w8 ⟨A8, c8, rfl, s8, b8⟩
          have B8 := Lib.hid (nx B7.out b8)
          have O8 := Lib.hid (O7.out.step b8)
          have S8 := Lib.hid s8
          have S7 := Lib.hid (S7.out.step b8)
          clear s8 b8
          go_wp2_with fail
          refine (psame_tt m _ _ _ _ _ (by omega) S8.out S7.out).mono ?_
          rintro e w9 ⟨rfl, b9⟩
          have B9 := Lib.hid (nx B8.out b9)
          have O9 := Lib.hid (O8.out.step b9)
          clear b9
          go_wp2_with fail
          refine (HA.out _ O9.out).mono ?_
          rintro e wz ⟨rfl, bz⟩
          have BZ := Lib.hid (nx B9.out bz)
          clear bz
          go_wp2_with fail
          go_ret
          exact ⟨rfl, BZ.out⟩
        · have C6 : Hid (∀ W, Ok W → Calls Tryd.prog 43 #[vS l] W fun e w' => ∃ A c, e = .returned (.tuple #[.slice A 0 c, .int .i64 (j : Int), .int .i64 2]) ∧ Sl w' w'.heap.size A [] ∧ Below W.heap.size W w') := Lib.hid (fun W hW => by
            have := parse_any l (by omega) W hW
            unfold PQ at this
            rw [e1] at this
            exact this)
          clear e1 e2
          go_wp2_with fail
          refine (C6.out _ O3.out).mono ?_
          rintro e w6 ⟨A6, c6, rfl, _, b6⟩
          have B6 := Lib.hid (nx B3.out b6)
          have O6 := Lib.hid ((O3.out).step b6)
          clear b6
          go_wp2_with fail
          refine (HA.out _ O6.out).mono ?_
          rintro e wz ⟨rfl, bz⟩
          have BZ := Lib.hid (nx B6.out bz)
          clear bz
          go_wp2_with fail
          go_ret
          exact ⟨rfl, BZ.out⟩
      · have ht : textP ps = ([], 1) := by unfold textP; rw [if_neg hg]
        have C1 : Hid (∀ W, Sl W W.heap.size A (ps.flatMap dP) → Calls Tryd.prog 41 #[.slice A ps.length cap] W fun e w' => e = .returned (.tuple #[vS [], .int .i64 1]) ∧ Below W.heap.size W w') := Lib.hid (fun W h => by
          have := text_any ps A cap W (by omega) h64 h
          rw [ht] at this
          exact this)
        clear hg ht hjl h64
        go_enter Tryd.func9, Tryd.ntmps9
        go_wp2_with fail
        refine (C1.out _ HS.out).mono ?_
        rintro e w1 ⟨rfl, b1⟩
        have B1 := Lib.hid b1
        have O1 := Lib.hid (HO.out.step b1)
        clear b1
        rcases parse_cases l with ⟨m, e1, e2, e3, e4, e5⟩ | ⟨j, e1, e2⟩
        · have C6 : Hid (∀ W, Ok W → Calls Tryd.prog 43 #[vS l] W fun e w' => ∃ A c, e = .returned (.tuple #[.slice A m.length c, .int .i64 0, .int .i64 0]) ∧ Sl w' w'.heap.size A (m.flatMap dP) ∧ Below W.heap.size W w') := Lib.hid (fun W hW => by
            have := parse_any l (by omega) W hW
            unfold PQ at this
            rw [e1] at this
            exact this)
          have C7 : Hid (∀ A c W, Sl W W.heap.size A (m.flatMap dP) → Calls Tryd.prog 41 #[.slice A m.length c] W fun e w' => e = .returned (.tuple #[vS (js (allW l)), .int .i64 0]) ∧ Below W.heap.size W w') := Lib.hid (fun A c W h => by
            have := text_any m A c W (by omega) (fun p hp => (e3 p hp).1) h
            rw [e2] at this
            exact this)
          have C8 : Hid (∀ W, Ok W → Calls Tryd.prog 43 #[vS (js (allW l))] W fun e w' => ∃ A c, e = .returned (.tuple #[.slice A m.length c, .int .i64 0, .int .i64 0]) ∧ Sl w' w'.heap.size A (m.flatMap dP) ∧ Below W.heap.size W w') := Lib.hid (fun W hW => by
            have hp := parse_text m (fun p hp => (e3 p hp).1) (List.all_eq_true.2 fun p hp => (e3 p hp).2)
            rw [e2] at hp
            have := parse_any (js (allW l)) (by omega) W hW
            unfold PQ at this
            rw [hp] at this
            exact this)
          have i9 : ((js (allW l)).length : Int) ≤ (l.length : Int) := by omega
          have hsu := size_B (js (allW l))
          clear e1 e2 e3
          generalize js (allW l) = u at *
          go_wp2_with fail
          refine (C6.out _ O1.out).mono ?_
          rintro e w6 ⟨A6, c6, rfl, s6, b6⟩
          have B6 := Lib.hid (nx B1.out b6)
          have O6 := Lib.hid ((O1.out).step b6)
          have S6 := Lib.hid s6
          clear s6 b6
          go_wp2_with fail
          refine (C7.out _ _ _ S6.out).mono ?_
          rintro e w7 ⟨rfl, b7⟩
          have B7 := Lib.hid (nx B6.out b7)
          have O7 := Lib.hid (O6.out.step b7)
          have S7 := Lib.hid (S6.out.step b7)
          clear b7
          go_wp2_with fail
          refine (C8.out _ O7.out).mono ?_
          rintro e w8 ⟨A8, c8, rfl, s8, b8⟩
          have B8 := Lib.hid (nx B7.out b8)
          have O8 := Lib.hid (O7.out.step b8)
          have S8 := Lib.hid s8
          have S7 := Lib.hid (S7.out.step b8)
          clear s8 b8
          go_wp2_with fail
          refine (psame_tt m _ _ _ _ _ (by omega) S8.out S7.out).mono ?_
          rintro e w9 ⟨rfl, b9⟩
          have B9 := Lib.hid (nx B8.out b9)
          have O9 := Lib.hid (O8.out.step b9)
          clear b9
          go_wp2_with fail
          refine (HA.out _ O9.out).mono ?_
          rintro e wz ⟨rfl, bz⟩
          have BZ := Lib.hid (nx B9.out bz)
          clear bz
          go_wp2_with fail
          go_ret
          exact ⟨rfl, BZ.out⟩
        · have C6 : Hid (∀ W, Ok W → Calls Tryd.prog 43 #[vS l] W fun e w' => ∃ A c, e = .returned (.tuple #[.slice A 0 c, .int .i64 (j : Int), .int .i64 2]) ∧ Sl w' w'.heap.size A [] ∧ Below W.heap.size W w') := Lib.hid (fun W hW => by
            have := parse_any l (by omega) W hW
            unfold PQ at this
            rw [e1] at this
            exact this)
          clear e1 e2
          go_wp2_with fail
          refine (C6.out _ O1.out).mono ?_
          rintro e w6 ⟨A6, c6, rfl, _, b6⟩
          have B6 := Lib.hid (nx B1.out b6)
          have O6 := Lib.hid ((O1.out).step b6)
          clear b6
          go_wp2_with fail
          refine (HA.out _ O6.out).mono ?_
          rintro e wz ⟨rfl, bz⟩
          have BZ := Lib.hid (nx B6.out bz)
          clear bz
          go_wp2_with fail
          go_ret
          exact ⟨rfl, BZ.out⟩
    · have i3 : (400 : Int) < (l.length : Int) := by omega
      go_enter Tryd.func9, Tryd.ntmps9
      go_wp2_with fail
      refine (HA.out _ HO.out).mono ?_
      rintro e wz ⟨rfl, bz⟩
      have BZ := Lib.hid (nx (Below.refl _ _) bz)
      clear bz
      go_wp2_with fail
      go_ret
      exact ⟨rfl, BZ.out⟩
  · have i4 : (60 : Int) < (ps.length : Int) := by omega
    go_enter Tryd.func9, Tryd.ntmps9
    go_wp2_with fail
    refine (HA.out _ HO.out).mono ?_
    rintro e wz ⟨rfl, bz⟩
    have BZ := Lib.hid (nx (Below.refl _ _) bz)
    clear bz
    go_wp2_with fail
    go_ret
    exact ⟨rfl, BZ.out⟩
end Go.Proofs.YtcfdphfochfeoaaDoor.Pi
