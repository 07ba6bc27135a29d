/- The walks of the laws of events: awake, TraceBack. -/
import Derived.Test.YtcfdphfochfeoaaDoorTr5
import Derived.Test.YtcfdphfochfeoaaDoorTr4
namespace Go.Proofs.YtcfdphfochfeoaaDoor.Tr
open Go.RowKit Go.Proofs.YtcfdphfochfeoaaDoor.Li Go.Proofs.YtcfdphfochfeoaaDoor.De Go.Proofs.YtcfdphfochfeoaaDoor.Ara
open Go.Proofs.YtcfdphfochfeoaaDoor.Pi (js allW)

set_option maxRecDepth 100000 in
set_option maxHeartbeats 4000000 in
theorem awake_any (w : World) (ho : Ok w) : Calls Tryd.prog 51 #[] w fun e w' => e = .returned (.bool true) ∧ Below w.heap.size w w' := by
  have a1 : Hid (∀ W, Ok W → Calls Tryd.prog 54 #[.string ⟨#[97, 48, 39, 10, 32, 101, 51, 39, 47, 50, 32, 32, 98, 45, 49]⟩] W fun e w' => ∃ A c, e = .returned (.tuple #[.slice A 3 c, .int .i64 0, .int .i64 0]) ∧ Sl w' w'.heap.size A [.int .i64 1, .int .i64 0, .bool true, .int .i64 0, .int .i64 2, .int .i64 3, .bool true, .int .i64 2, .int .i64 5, .int .i64 (-1), .bool false, .int .i64 0] ∧ Below W.heap.size W w') := Lib.hid (fun W hW => by
    have := parse_any [97, 48, 39, 10, 32, 101, 51, 39, 47, 50, 32, 32, 98, 45, 49] (by decide) W hW
    unfold PQ at this
    rw [show parseE [97, 48, 39, 10, 32, 101, 51, 39, 47, 50, 32, 32, 98, 45, 49] = ([⟨1, 0, true, 0⟩, ⟨2, 3, true, 2⟩, ⟨5, -1, false, 0⟩], 0, 0) by kernel_rfl] at this
    exact this)
  have a2 : Hid (∀ W, Ok W → Calls Tryd.prog 54 #[.string ⟨#[97, 48, 32, 101, 49, 47, 48]⟩] W fun e w' => ∃ A c, e = .returned (.tuple #[.slice A 0 c, .int .i64 1, .int .i64 2]) ∧ Sl w' w'.heap.size A [] ∧ Below W.heap.size W w') := Lib.hid (fun W hW => by
    have := parse_any [97, 48, 32, 101, 49, 47, 48] (by decide) W hW
    unfold PQ at this
    rw [show parseE [97, 48, 32, 101, 49, 47, 48] = ([], 1, 2) by kernel_rfl] at this
    exact this)
  have a3 : Hid (∀ A c W, Sl W W.heap.size A [.int .i64 1, .int .i64 0, .bool true, .int .i64 0, .int .i64 2, .int .i64 3, .bool true, .int .i64 2, .int .i64 5, .int .i64 (-1), .bool false, .int .i64 0] → Calls Tryd.prog 52 #[.slice A 3 c] W fun e w' => e = .returned (.tuple #[vS [97, 48, 39, 32, 101, 51, 39, 47, 50, 32, 98, 45, 49], .int .i64 0]) ∧ Below W.heap.size W w') := Lib.hid (fun A c W h => by
    have := text_any [⟨1, 0, true, 0⟩, ⟨2, 3, true, 2⟩, ⟨5, -1, false, 0⟩] A c W (by decide) (by unfold okE; decide) h
    rw [show textE [⟨1, 0, true, 0⟩, ⟨2, 3, true, 2⟩, ⟨5, -1, false, 0⟩] = ([97, 48, 39, 32, 101, 51, 39, 47, 50, 32, 98, 45, 49], 0) by kernel_rfl] at this
    exact this)
  have a4 := Lib.hid (fun A c1 C c2 W => esame_tt [⟨1, 0, true, 0⟩, ⟨2, 3, true, 2⟩, ⟨5, -1, false, 0⟩] A C c1 c2 W (by decide))
  have a5 : Hid (∀ A c W, Sl W W.heap.size A [.int .i64 1, .int .i64 0, .bool true, .int .i64 0, .int .i64 2, .int .i64 3, .bool true, .int .i64 2, .int .i64 5, .int .i64 (-1), .bool false, .int .i64 0] → Calls Tryd.prog 59 #[.slice A 3 c] W fun e w' => ∃ B c, e = .returned (.slice B 2 c) ∧ Below W.heap.size W w') := Lib.hid (fun A c W h => by
    refine (clean_any [⟨1, 0, true, 0⟩, ⟨2, 3, true, 2⟩, ⟨5, -1, false, 0⟩] A c W (by decide) h).mono ?_
    rintro e w' ⟨B, c', h1, _, h3⟩
    exact ⟨B, c', by rw [h1, show wo 5 [⟨1, 0, true, 0⟩, ⟨2, 3, true, 2⟩, ⟨5, -1, false, 0⟩] = [⟨1, 0, true, 0⟩, ⟨2, 3, true, 2⟩] by kernel_rfl]; rfl, h3⟩)
  have a6 : Hid (∀ A c W, Sl W W.heap.size A [.int .i64 0, .int .i64 0, .bool false, .int .i64 0] → Calls Tryd.prog 57 #[.slice A 1 c] W fun e w' => ∃ B c, e = .returned (.slice B 0 c) ∧ Below W.heap.size W w') := Lib.hid (fun A c W h => by
    refine (brief_any [⟨0, 0, false, 0⟩] A c W (by decide) h).mono ?_
    rintro e w' ⟨B, c', h1, _, h3⟩
    exact ⟨B, c', by rw [h1, show wo 0 [⟨0, 0, false, 0⟩] = [] by kernel_rfl]; rfl, h3⟩)
  have a7 : Hid (∀ A c1 C c2 W, Sl W W.heap.size A [.int .i64 1, .int .i64 0, .bool true, .int .i64 0, .int .i64 2, .int .i64 3, .bool true, .int .i64 2, .int .i64 5, .int .i64 (-1), .bool false, .int .i64 0] → Sl W W.heap.size C [.int .i64 1, .int .i64 0, .bool true, .int .i64 0, .int .i64 2, .int .i64 3, .bool true, .int .i64 2, .int .i64 5, .int .i64 (-1), .bool false, .int .i64 0] → Calls Tryd.prog 60 #[.slice A 3 c1, .slice C 3 c2] W fun e w' => e = .returned (.bool true) ∧ Below W.heap.size W w') := Lib.hid (fun A c1 C c2 W h1 h2 => by
    have := same_any [⟨1, 0, true, 0⟩, ⟨2, 3, true, 2⟩, ⟨5, -1, false, 0⟩] [⟨1, 0, true, 0⟩, ⟨2, 3, true, 2⟩, ⟨5, -1, false, 0⟩] A C c1 c2 W (by decide) (by decide) h1 h2
    rw [decide_eq_true rfl] at this
    exact this)
  have a8 : Hid (∀ A c1 W, Sl W W.heap.size A [.int .i64 1, .int .i64 0, .bool true, .int .i64 0, .int .i64 2, .int .i64 3, .bool true, .int .i64 2, .int .i64 5, .int .i64 (-1), .bool false, .int .i64 0] → Calls Tryd.prog 60 #[.slice A 3 c1, .slice none 0 0] W fun e w' => e = .returned (.bool false) ∧ Below W.heap.size W w') := Lib.hid (fun A c1 W h1 => by
    have := same_any [⟨1, 0, true, 0⟩, ⟨2, 3, true, 2⟩, ⟨5, -1, false, 0⟩] [] A none c1 0 W (by decide) (by decide) h1 (Sl.nil _ _ _)
    rw [decide_eq_false (by simp)] at this
    exact this)
  go_enter Tryd.func51, Tryd.ntmps51
  go_wp2_with fail
  refine (a1.out _ ho).mono ?_
  rintro e w1 ⟨A1, c1, rfl, s1, b1⟩
  have B1 := Lib.hid b1
  have O1 := Lib.hid (ho.step b1)
  have S1 := Lib.hid s1
  clear s1 b1
  go_wp2_with fail
  refine (a2.out _ O1.out).mono ?_
  rintro e w2 ⟨A2, c2, rfl, _, b2⟩
  have B2 := Lib.hid (nx B1.out b2)
  have S2 := Lib.hid (S1.out.step b2)
  clear b2
  go_wp2_with fail
  refine (a3.out _ _ _ S2.out).mono ?_
  rintro e w3 ⟨rfl, b3⟩
  have B3 := Lib.hid (nx B2.out b3)
  have S3 := Lib.hid (S2.out.step b3)
  clear b3
  have W3 := Lib.hid (Sl.made w3 #[.int .i64 1, .int .i64 0, .bool true, .int .i64 0, .int .i64 2, .int .i64 3, .bool true, .int .i64 2, .int .i64 5, .int .i64 (-1), .bool false, .int .i64 0] 105)
  go_wp2_with fail
  refine (a4.out _ _ _ _ _ (S3.out.push _) W3.out).mono ?_
  rintro e w4 ⟨rfl, b4⟩
  have B4 := Lib.hid (nx (nx B3.out (below_new _ _)) b4)
  have S4 := Lib.hid ((S3.out.push _).step b4)
  have W4 := Lib.hid (W3.out.step b4)
  clear b4
  go_wp2_with fail
  refine (a5.out _ _ _ S4.out).mono ?_
  rintro e w5 ⟨A5, c5, rfl, b5⟩
  have B5 := Lib.hid (nx B4.out b5)
  have S5 := Lib.hid (S4.out.step b5)
  have W5 := Lib.hid (W4.out.step b5)
  clear b5
  go_wp2_with fail
  refine (a6.out _ _ _ (Sl.made w5 _ _)).mono ?_
  rintro e w6 ⟨A6, c6, rfl, b6⟩
  have B6 := Lib.hid (nx (nx B5.out (below_new _ _)) b6)
  have S6 := Lib.hid ((S5.out.push _).step b6)
  have W6 := Lib.hid ((W5.out.push _).step b6)
  clear b6
  go_wp2_with fail
  refine (a7.out _ _ _ _ _ S6.out W6.out).mono ?_
  rintro e w7 ⟨rfl, b7⟩
  have B7 := Lib.hid (nx B6.out b7)
  have S7 := Lib.hid (S6.out.step b7)
  clear b7
  go_wp2_with fail
  refine (a8.out _ _ _ S7.out).mono ?_
  rintro e w8 ⟨rfl, b8⟩
  have B8 := Lib.hid (nx B7.out b8)
  clear b8
  go_wp2_with fail
  go_ret
  exact ⟨rfl, B8.out⟩
set_option maxRecDepth 100000 in
set_option maxHeartbeats 8000000 in
theorem back_law (w : World) (ho : Ok w) (A : Option Addr) (cap : Nat) (ps : List Ev) (hm : ps.length ≤ 9223372036854775807) (h64 : ∀ p ∈ ps, okE p) (hs : Sl w w.heap.size A (ps.flatMap dE)) (l : List UInt8) (h63 : l.length ≤ 9223372036854775807) :
    Calls Tryd.prog 11 #[.slice A ps.length cap, vS l] w fun e w' => e = .returned (.bool true) ∧ Below w.heap.size w w' := by
  have HA := Lib.hid (fun W hW => awake_any W hW)
  have HO := Lib.hid ho
  have hsB := size_B l
  have HS := Lib.hid hs
  clear ho hs
  by_cases h6 : ps.length ≤ 60
  · have i4 : ¬ (60 : Int) < (ps.length : Int) := by omega
    by_cases h4 : l.length ≤ 300
    · have i3 : ¬ (300 : Int) < (l.length : Int) := by omega
      have hjl := js_le ps h64 ps.length
      rw [List.take_length] at hjl
      by_cases hg : ps.all goodE = true
      · have ht : textE ps = (js (ps.map wordE), 0) := text_ok (List.all_eq_true.1 hg)
        have C1 : Hid (∀ W, Sl W W.heap.size A (ps.flatMap dE) → Calls Tryd.prog 52 #[.slice A ps.length cap] W fun e w' => e = .returned (.tuple #[vS (js (ps.map wordE)), .int .i64 0]) ∧ Below W.heap.size W w') := Lib.hid (fun W h => by
          have := text_any ps A cap W (by omega) h64 h
          rw [ht] at this
          exact this)
        have C2 : Hid (∀ W, Ok W → Calls Tryd.prog 54 #[vS (js (ps.map wordE))] W fun e w' => ∃ A c, e = .returned (.tuple #[.slice A ps.length c, .int .i64 0, .int .i64 0]) ∧ Sl w' w'.heap.size A (ps.flatMap dE) ∧ Below W.heap.size W w') := Lib.hid (fun W hW => by
          have hp := parse_text ps h64 hg
          rw [ht] at hp
          have := parse_any (js (ps.map wordE)) (by omega) W hW
          unfold PQ at this
          rw [hp] at this
          exact this)
        clear hg ht hjl h64
        generalize js (ps.map wordE) = t at *
        go_enter Tryd.func11, Tryd.ntmps11
        go_wp2_with fail
        refine (C1.out _ HS.out).mono ?_
        rintro e w1 ⟨rfl, b1⟩
        have B1 := Lib.hid b1
        have O1 := Lib.hid (HO.out.step b1)
        clear b1
        go_wp2_with fail
        refine (C2.out _ O1.out).mono ?_
        rintro e w2 ⟨A2, c2, rfl, s2, b2⟩
        have B2 := Lib.hid (nx B1.out b2)
        have O2 := Lib.hid (O1.out.step b2)
        have S2 := Lib.hid s2
        clear s2 b2
        go_wp2_with fail
        refine (esame_tt ps _ _ _ _ _ (by omega) S2.out ((HS.out.below B2.out).more B2.out.size)).mono ?_
        rintro e w3 ⟨rfl, b3⟩
        have B3 := Lib.hid (nx B2.out b3)
        have O3 := Lib.hid (O2.out.step b3)
        clear b3
        rcases parse_cases l with ⟨m, e1, e2, e3, e4, e5⟩ | ⟨j, e1, e2⟩
        · have C6 : Hid (∀ W, Ok W → Calls Tryd.prog 54 #[vS l] W fun e w' => ∃ A c, e = .returned (.tuple #[.slice A m.length c, .int .i64 0, .int .i64 0]) ∧ Sl w' w'.heap.size A (m.flatMap dE) ∧ Below W.heap.size W w') := Lib.hid (fun W hW => by
            have := parse_any l (by omega) W hW
            unfold PQ at this
            rw [e1] at this
            exact this)
          have C7 : Hid (∀ A c W, Sl W W.heap.size A (m.flatMap dE) → Calls Tryd.prog 52 #[.slice A m.length c] W fun e w' => e = .returned (.tuple #[vS (js (allW l)), .int .i64 0]) ∧ Below W.heap.size W w') := Lib.hid (fun A c W h => by
            have := text_any m A c W (by omega) (fun p hp => (e3 p hp).1) h
            rw [e2] at this
            exact this)
          have C8 : Hid (∀ W, Ok W → Calls Tryd.prog 54 #[vS (js (allW l))] W fun e w' => ∃ A c, e = .returned (.tuple #[.slice A m.length c, .int .i64 0, .int .i64 0]) ∧ Sl w' w'.heap.size A (m.flatMap dE) ∧ Below W.heap.size W w') := Lib.hid (fun W hW => by
            have hp := parse_text m (fun p hp => (e3 p hp).1) (List.all_eq_true.2 fun p hp => (e3 p hp).2)
            rw [e2] at hp
            have := parse_any (js (allW l)) (by omega) W hW
            unfold PQ at this
            rw [hp] at this
            exact this)
          have i9 : ((js (allW l)).length : Int) ≤ (l.length : Int) := by omega
          have hsu := size_B (js (allW l))
          clear e1 e2 e3
          generalize js (allW l) = u at *
          go_wp2_with fail
          refine (C6.out _ O3.out).mono ?_
          rintro e w6 ⟨A6, c6, rfl, s6, b6⟩
          have B6 := Lib.hid (nx B3.out b6)
          have O6 := Lib.hid ((O3.out).step b6)
          have S6 := Lib.hid s6
          clear s6 b6
          go_wp2_with fail
          refine (C7.out _ _ _ S6.out).mono ?_
          rintro e w7 ⟨rfl, b7⟩
          have B7 := Lib.hid (nx B6.out b7)
          have O7 := Lib.hid (O6.out.step b7)
          have S7 := Lib.hid (S6.out.step b7)
          clear b7
          go_wp2_with fail
          refine (C8.out _ O7.out).mono ?_
          rintro e w8 ⟨A8, c8, rfl, s8, b8⟩
          have B8 := Lib.hid (nx B7.out b8)
          have O8 := Lib.hid (O7.out.step b8)
          have S8 := Lib.hid s8
          have S7 := Lib.hid (S7.out.step b8)
          clear s8 b8
          go_wp2_with fail
          refine (esame_tt m _ _ _ _ _ (by omega) S7.out S8.out).mono ?_
          rintro e w9 ⟨rfl, b9⟩
          have B9 := Lib.hid (nx B8.out b9)
          have O9 := Lib.hid (O8.out.step b9)
          clear b9
          go_wp2_with fail
          refine (HA.out _ O9.out).mono ?_
          rintro e wz ⟨rfl, bz⟩
          have BZ := Lib.hid (nx B9.out bz)
          clear bz
          go_wp2_with fail
          go_ret
          refine ⟨?_, BZ.out⟩
          rfl
        · have C6 : Hid (∀ W, Ok W → Calls Tryd.prog 54 #[vS l] W fun e w' => ∃ A c, e = .returned (.tuple #[.slice A 0 c, .int .i64 (j : Int), .int .i64 2]) ∧ Sl w' w'.heap.size A [] ∧ Below W.heap.size W w') := Lib.hid (fun W hW => by
            have := parse_any l (by omega) W hW
            unfold PQ at this
            rw [e1] at this
            exact this)
          clear e1 e2
          go_wp2_with fail
          refine (C6.out _ O3.out).mono ?_
          rintro e w6 ⟨A6, c6, rfl, _, b6⟩
          have B6 := Lib.hid (nx B3.out b6)
          have O6 := Lib.hid ((O3.out).step b6)
          clear b6
          go_wp2_with fail
          refine (HA.out _ O6.out).mono ?_
          rintro e wz ⟨rfl, bz⟩
          have BZ := Lib.hid (nx B6.out bz)
          clear bz
          go_wp2_with fail
          go_ret
          refine ⟨?_, BZ.out⟩
          rfl
      · have ht : textE ps = ([], 7) := by unfold textE; rw [if_neg hg]
        have C1 : Hid (∀ W, Sl W W.heap.size A (ps.flatMap dE) → Calls Tryd.prog 52 #[.slice A ps.length cap] W fun e w' => e = .returned (.tuple #[vS [], .int .i64 7]) ∧ Below W.heap.size W w') := Lib.hid (fun W h => by
          have := text_any ps A cap W (by omega) h64 h
          rw [ht] at this
          exact this)
        clear hg ht hjl h64
        go_enter Tryd.func11, Tryd.ntmps11
        go_wp2_with fail
        refine (C1.out _ HS.out).mono ?_
        rintro e w1 ⟨rfl, b1⟩
        have B1 := Lib.hid b1
        have O1 := Lib.hid (HO.out.step b1)
        clear b1
        have C2 : Hid (∀ W, Ok W → Calls Tryd.prog 54 #[vS []] W fun e w' => ∃ A c, e = .returned (.tuple #[.slice A 0 c, .int .i64 0, .int .i64 0]) ∧ Sl w' w'.heap.size A [] ∧ Below W.heap.size W w') := Lib.hid (fun W hW => by
          have := parse_any [] (by decide) W hW
          unfold PQ at this
          rw [show parseE [] = ([], 0, 0) by kernel_rfl] at this
          exact this)
        go_wp2_with fail
        refine (C2.out _ O1.out).mono ?_
        rintro e w2 ⟨A2, c2, rfl, _, b2⟩
        have B2 := Lib.hid (nx B1.out b2)
        have O2 := Lib.hid (O1.out.step b2)
        clear b2
        rcases parse_cases l with ⟨m, e1, e2, e3, e4, e5⟩ | ⟨j, e1, e2⟩
        · have C6 : Hid (∀ W, Ok W → Calls Tryd.prog 54 #[vS l] W fun e w' => ∃ A c, e = .returned (.tuple #[.slice A m.length c, .int .i64 0, .int .i64 0]) ∧ Sl w' w'.heap.size A (m.flatMap dE) ∧ Below W.heap.size W w') := Lib.hid (fun W hW => by
            have := parse_any l (by omega) W hW
            unfold PQ at this
            rw [e1] at this
            exact this)
          have C7 : Hid (∀ A c W, Sl W W.heap.size A (m.flatMap dE) → Calls Tryd.prog 52 #[.slice A m.length c] W fun e w' => e = .returned (.tuple #[vS (js (allW l)), .int .i64 0]) ∧ Below W.heap.size W w') := Lib.hid (fun A c W h => by
            have := text_any m A c W (by omega) (fun p hp => (e3 p hp).1) h
            rw [e2] at this
            exact this)
          have C8 : Hid (∀ W, Ok W → Calls Tryd.prog 54 #[vS (js (allW l))] W fun e w' => ∃ A c, e = .returned (.tuple #[.slice A m.length c, .int .i64 0, .int .i64 0]) ∧ Sl w' w'.heap.size A (m.flatMap dE) ∧ Below W.heap.size W w') := Lib.hid (fun W hW => by
            have hp := parse_text m (fun p hp => (e3 p hp).1) (List.all_eq_true.2 fun p hp => (e3 p hp).2)
            rw [e2] at hp
            have := parse_any (js (allW l)) (by omega) W hW
            unfold PQ at this
            rw [hp] at this
            exact this)
          have i9 : ((js (allW l)).length : Int) ≤ (l.length : Int) := by omega
          have hsu := size_B (js (allW l))
          clear e1 e2 e3
          generalize js (allW l) = u at *
          go_wp2_with fail
          refine (C6.out _ O2.out).mono ?_
          rintro e w6 ⟨A6, c6, rfl, s6, b6⟩
          have B6 := Lib.hid (nx B2.out b6)
          have O6 := Lib.hid ((O2.out).step b6)
          have S6 := Lib.hid s6
          clear s6 b6
          go_wp2_with fail
          refine (C7.out _ _ _ S6.out).mono ?_
          rintro e w7 ⟨rfl, b7⟩
          have B7 := Lib.hid (nx B6.out b7)
          have O7 := Lib.hid (O6.out.step b7)
          have S7 := Lib.hid (S6.out.step b7)
          clear b7
          go_wp2_with fail
          refine (C8.out _ O7.out).mono ?_
          rintro e w8 ⟨A8, c8, rfl, s8, b8⟩
          have B8 := Lib.hid (nx B7.out b8)
          have O8 := Lib.hid (O7.out.step b8)
          have S8 := Lib.hid s8
          have S7 := Lib.hid (S7.out.step b8)
          clear s8 b8
          go_wp2_with fail
          refine (esame_tt m _ _ _ _ _ (by omega) S7.out S8.out).mono ?_
          rintro e w9 ⟨rfl, b9⟩
          have B9 := Lib.hid (nx B8.out b9)
          have O9 := Lib.hid (O8.out.step b9)
          clear b9
          go_wp2_with fail
          refine (HA.out _ O9.out).mono ?_
          rintro e wz ⟨rfl, bz⟩
          have BZ := Lib.hid (nx B9.out bz)
          clear bz
          go_wp2_with fail
          go_ret
          refine ⟨?_, BZ.out⟩
          rfl
        · have C6 : Hid (∀ W, Ok W → Calls Tryd.prog 54 #[vS l] W fun e w' => ∃ A c, e = .returned (.tuple #[.slice A 0 c, .int .i64 (j : Int), .int .i64 2]) ∧ Sl w' w'.heap.size A [] ∧ Below W.heap.size W w') := Lib.hid (fun W hW => by
            have := parse_any l (by omega) W hW
            unfold PQ at this
            rw [e1] at this
            exact this)
          clear e1 e2
          go_wp2_with fail
          refine (C6.out _ O2.out).mono ?_
          rintro e w6 ⟨A6, c6, rfl, _, b6⟩
          have B6 := Lib.hid (nx B2.out b6)
          have O6 := Lib.hid ((O2.out).step b6)
          clear b6
          go_wp2_with fail
          refine (HA.out _ O6.out).mono ?_
          rintro e wz ⟨rfl, bz⟩
          have BZ := Lib.hid (nx B6.out bz)
          clear bz
          go_wp2_with fail
          go_ret
          refine ⟨?_, BZ.out⟩
          rfl
    · have i3 : (300 : Int) < (l.length : Int) := by omega
      go_enter Tryd.func11, Tryd.ntmps11
      go_wp2_with fail
      refine (HA.out _ HO.out).mono ?_
      rintro e wz ⟨rfl, bz⟩
      have BZ := Lib.hid (nx (Below.refl _ _) bz)
      clear bz
      go_wp2_with fail
      go_ret
      refine ⟨?_, BZ.out⟩
      rfl
  · have i4 : (60 : Int) < (ps.length : Int) := by omega
    go_enter Tryd.func11, Tryd.ntmps11
    go_wp2_with fail
    refine (HA.out _ HO.out).mono ?_
    rintro e wz ⟨rfl, bz⟩
    have BZ := Lib.hid (nx (Below.refl _ _) bz)
    clear bz
    go_wp2_with fail
    go_ret
    refine ⟨?_, BZ.out⟩
    rfl
end Go.Proofs.YtcfdphfochfeoaaDoor.Tr
