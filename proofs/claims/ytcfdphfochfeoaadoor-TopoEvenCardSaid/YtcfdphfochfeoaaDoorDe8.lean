/- The walks of the laws of numbers' texts: awake, DecSays, DecLists, DecBack. -/
import Derived.Test.YtcfdphfochfeoaaDoorDe7
namespace Go.Proofs.YtcfdphfochfeoaaDoor.De
open Go.RowKit Go.Proofs.YtcfdphfochfeoaaDoor.Li Go.Proofs.YtcfdphfochfeoaaDoor.Ara

theorem numsL_len {ls : List (List UInt8)} {ns : List Int} (h : numsL ls = some ns) : ns.length = ls.length := by
  have := congrArg List.length (numsL_some ls ns h).1
  rwa [List.length_map] at this
theorem nl_len (l : List UInt8) : (nl l).1.length ≤ l.length + 1 := by
  unfold nl nums
  split
  · rename_i ns h
    split at h
    · injection h with h; subst h; simp
    · rw [numsL_len h]; exact cut_cnt 44 l []
  · simp
theorem nq_sl {l : List UInt8} {w0 w' : World} {e : Ending} (h : NQ l w0 e w') : ∃ A c, e = .returned (.tuple #[.slice A (nl l).1.length c, .int .i64 (nl l).2]) ∧ Sl w' w'.heap.size A ((nl l).1.flatMap decI) ∧ Below w0.heap.size w0 w' := by
  obtain ⟨v, rfl, h1, h2⟩ := h
  obtain ⟨A, c, rfl, _, _, h3⟩ := own_slice h1
  exact ⟨A, c, rfl, by rw [flatI]; exact h3, h2⟩
theorem numbers_sl (l : List UInt8) (hl : l.length ≤ 4000) (w : World) (ho : Ok w) : Calls Tryd.prog 35 #[vS l] w fun e w' => ∃ A c, e = .returned (.tuple #[.slice A (nl l).1.length c, .int .i64 (nl l).2]) ∧ Sl w' w'.heap.size A ((nl l).1.flatMap decI) ∧ Below w.heap.size w w' :=
  (numbers_any l hl w ho).mono fun _ _ h => nq_sl h
theorem rnumbers_sl (l : List UInt8) (hl : l.length ≤ 4000) (w : World) : Calls Tryd.prog 36 #[vS l] w fun e w' => ∃ A c, e = .returned (.tuple #[.slice A (nl l).1.length c, .int .i64 (nl l).2]) ∧ Sl w' w'.heap.size A ((nl l).1.flatMap decI) ∧ Below w.heap.size w w' :=
  (rnumbers_any l hl w).mono fun _ _ h => nq_sl h
theorem nsame_tt (l : List Int) (A C : Option Addr) (c1 c2 : Nat) (w : World) (hm : l.length ≤ 9223372036854775807) (hs : Sl w w.heap.size A (l.flatMap decI)) (ht : Sl w w.heap.size C (l.flatMap decI)) :
    Calls Tryd.prog 39 #[.slice A l.length c1, .slice C l.length c2] w fun e w' => e = .returned (.bool true) ∧ Below w.heap.size w w' := by
  have := same_any l l A C c1 c2 w hm hm hs ht
  rw [decide_eq_true rfl] at this
  exact this
set_option maxRecDepth 100000 in
set_option maxHeartbeats 4000000 in
theorem awake_any (w : World) (ho : Ok w) : Calls Tryd.prog 28 #[] w fun e w' => e = .returned (.bool true) ∧ Below w.heap.size w w' := by
  have a1 : Hid (∀ W, Calls Tryd.prog 29 #[.string ⟨#[45, 57, 50, 50, 51, 51, 55, 50, 48, 51, 54, 56, 53, 52, 55, 55, 53, 56, 48, 56]⟩] W fun e w' => e = .returned (.tuple #[.int .i64 (-9223372036854775808), .int .i64 0]) ∧ w' = W) := Lib.hid (fun W => by
    have := parse_any [45, 57, 50, 50, 51, 51, 55, 50, 48, 51, 54, 56, 53, 52, 55, 55, 53, 56, 48, 56] (by decide) W
    rw [show pr [45, 57, 50, 50, 51, 51, 55, 50, 48, 51, 54, 56, 53, 52, 55, 55, 53, 56, 48, 56] = (-9223372036854775808, 0) by kernel_rfl] at this
    exact this)
  have a2 : Hid (∀ W, Calls Tryd.prog 29 #[.string ⟨#[57, 50, 50, 51, 51, 55, 50, 48, 51, 54, 56, 53, 52, 55, 55, 53, 56, 48, 56]⟩] W fun e w' => e = .returned (.tuple #[.int .i64 0, .int .i64 2]) ∧ w' = W) := Lib.hid (fun W => by
    have := parse_any [57, 50, 50, 51, 51, 55, 50, 48, 51, 54, 56, 53, 52, 55, 55, 53, 56, 48, 56] (by decide) W
    rw [show pr [57, 50, 50, 51, 51, 55, 50, 48, 51, 54, 56, 53, 52, 55, 55, 53, 56, 48, 56] = (0, 2) by kernel_rfl] at this
    exact this)
  have a3 : Hid (∀ W, Calls Tryd.prog 31 #[.string ⟨#[49, 50, 48, 120]⟩] W fun e w' => e = .returned (.tuple #[.int .i64 120, .int .i64 3]) ∧ w' = W) := Lib.hid (fun W => by
    have := take_any [49, 50, 48, 120] (by decide) W
    rw [show take [49, 50, 48, 120] = (120, 3) by kernel_rfl] at this
    exact this)
  have a4 : Hid (∀ W, Ok W → Calls Tryd.prog 35 #[.string ⟨#[51, 44, 45, 52, 48]⟩] W fun e w' => ∃ A c, e = .returned (.tuple #[.slice A 2 c, .int .i64 0]) ∧ Sl w' w'.heap.size A [.int .i64 3, .int .i64 (-40)] ∧ Below W.heap.size W w') := Lib.hid (fun W hW => by
    have := numbers_sl [51, 44, 45, 52, 48] (by decide) W hW
    rw [show nl [51, 44, 45, 52, 48] = ([3, -40], 0) by kernel_rfl] at this
    exact this)
  have a5 := Lib.hid (fun A c1 C c2 W => nsame_tt [3, -40] A C c1 c2 W (by decide))
  have a6 : Hid (∀ A c W, Sl W W.heap.size A [.int .i64 3, .int .i64 (-40)] → Calls Tryd.prog 37 #[.slice A 2 c] W fun e w' => e = .returned (vS [51, 44, 45, 52, 48]) ∧ Below W.heap.size W w') := Lib.hid (fun A c W h => by
    have := list_any [3, -40] A c W (by decide) (by unfold isI64; decide) h
    rw [show lst [3, -40] = [51, 44, 45, 52, 48] by kernel_rfl] at this
    exact this)
  have a7 : Hid (∀ W, Calls Tryd.prog 33 #[.int .i64 (-7)] W fun e w' => e = .returned (vS [45, 55]) ∧ Below W.heap.size W w') := Lib.hid (fun W => by
    have := text_any (-7) (by decide) W
    rw [show txt (-7) = [45, 55] by kernel_rfl] at this
    exact this)
  go_enter Tryd.func28, Tryd.ntmps28
  go_wp2_with fail
  refine (a1.out _).mono ?_
  rintro e wx ⟨rfl, hwx⟩
  obtain rfl := hwx.symm
  go_wp2_with fail
  refine (a2.out _).mono ?_
  rintro e wx ⟨rfl, hwx⟩
  obtain rfl := hwx.symm
  go_wp2_with fail
  refine (a3.out _).mono ?_
  rintro e wx ⟨rfl, hwx⟩
  obtain rfl := hwx.symm
  go_wp2_with fail
  refine (a4.out _ ho).mono ?_
  rintro e w2 ⟨A2, c2, rfl, s2, b2⟩
  have B2 := Lib.hid b2
  have S2 := Lib.hid s2
  clear b2 s2
  go_wp2_with fail
  refine (a5.out _ _ _ _ _ (S2.out.push _) (Sl.made w2 _ _)).mono ?_
  rintro e w3 ⟨rfl, b3⟩
  have B3 := Lib.hid (nx (nx B2.out (below_new _ _)) b3)
  clear b3
  go_wp2_with fail
  refine (a6.out _ _ _ (Sl.made w3 _ _)).mono ?_
  rintro e w4 ⟨rfl, b4⟩
  have B4 := Lib.hid (nx (nx B3.out (below_new _ _)) b4)
  clear b4
  go_wp2_with fail
  refine (a7.out _).mono ?_
  rintro e w5 ⟨rfl, b5⟩
  have B5 := Lib.hid (nx B4.out b5)
  clear b5
  go_wp2_with fail
  go_ret
  exact ⟨rfl, B5.out⟩
set_option maxRecDepth 100000 in
set_option maxHeartbeats 4000000 in
theorem says_law (w : World) (ho : Ok w) (n : Int) (hn : isI64 n) (l : List UInt8) (h63 : l.length ≤ 9223372036854775807) : Calls Tryd.prog 5 #[.int .i64 n, vS l] w fun e w' => e = .returned (.bool true) ∧ Below w.heap.size w w' := by
  have HA := Lib.hid (fun W hW => awake_any W hW)
  have HO := Lib.hid ho
  have hsB := size_B l
  clear ho
  by_cases h6 : l.length ≤ 60
  · have i3 : ¬ (60 : Int) < (l.length : Int) := by omega
    have C1 := Lib.hid (fun W => parse_any l (by omega) W)
    have C2 := Lib.hid (fun W => rparse_any l (by omega) W)
    have C3 := Lib.hid (fun W => take_any l (by omega) W)
    have C4 := Lib.hid (fun W => rtake_any l (by omega) W)
    have C5 := Lib.hid (fun W => text_any n hn W)
    have C6 := Lib.hid (fun W => rtxt_any _ n (Nat.le_refl _) hn W)
    generalize pr l = p at *
    generalize take l = t at *
    generalize txt n = x at *
    go_enter Tryd.func5, Tryd.ntmps5
    go_wp2_with fail
    refine (C1.out _).mono ?_
    rintro e wx ⟨rfl, hwx⟩
    obtain rfl := hwx.symm
    go_wp2_with fail
    refine (C2.out _).mono ?_
    rintro e wx ⟨rfl, hwx⟩
    obtain rfl := hwx.symm
    go_wp2_with fail
    refine (C3.out _).mono ?_
    rintro e wx ⟨rfl, hwx⟩
    obtain rfl := hwx.symm
    go_wp2_with fail
    refine (C4.out _).mono ?_
    rintro e wx ⟨rfl, hwx⟩
    obtain rfl := hwx.symm
    go_wp2_with fail
    refine (C5.out _).mono ?_
    rintro e w5 ⟨rfl, b5⟩
    have B5 := Lib.hid b5
    have O5 := Lib.hid (HO.out.step b5)
    clear b5
    go_wp2_with fail
    refine (C6.out _).mono ?_
    rintro e wx ⟨rfl, hwx⟩
    obtain rfl := hwx.symm
    go_wp2_with fail
    refine (HA.out _ O5.out).mono ?_
    rintro e wz ⟨rfl, bz⟩
    have BZ := Lib.hid (nx B5.out bz)
    clear bz
    go_wp2_with fail
    go_ret
    exact ⟨rfl, BZ.out⟩
  · have i3 : (60 : Int) < (l.length : Int) := by omega
    go_enter Tryd.func5, Tryd.ntmps5
    go_wp2_with fail
    refine (HA.out _ HO.out).mono ?_
    rintro e wz ⟨rfl, bz⟩
    have BZ := Lib.hid (nx (Below.refl _ _) bz)
    clear bz
    go_wp2_with fail
    go_ret
    exact ⟨rfl, BZ.out⟩
set_option maxRecDepth 100000 in
set_option maxHeartbeats 4000000 in
theorem lists_law (w : World) (ho : Ok w) (A : Option Addr) (cap : Nat) (ns : List Int) (hm : ns.length ≤ 9223372036854775807) (h64 : ∀ n ∈ ns, isI64 n) (hs : Sl w w.heap.size A (ns.flatMap decI)) (l : List UInt8) (h63 : l.length ≤ 9223372036854775807) :
    Calls Tryd.prog 6 #[.slice A ns.length cap, vS l] w fun e w' => e = .returned (.bool true) ∧ Below w.heap.size w w' := by
  have HA := Lib.hid (fun W hW => awake_any W hW)
  have HO := Lib.hid ho
  have hsB := size_B l
  have HS := Lib.hid hs
  clear ho hs
  by_cases h4 : ns.length ≤ 40
  · have i4 : ¬ (40 : Int) < (ns.length : Int) := by omega
    by_cases h2 : l.length ≤ 200
    · have i3 : ¬ (200 : Int) < (l.length : Int) := by omega
      have C1 := Lib.hid (fun W hW => numbers_sl l (by omega) W hW)
      have C2 := Lib.hid (fun W => rnumbers_sl l (by omega) W)
      have C3 := Lib.hid (fun W => list_any ns A cap W (by omega) h64)
      have C4 := Lib.hid (fun W => rlist_any ns A cap W (by omega) h64)
      have hnl := nl_len l
      generalize nl l = p at *
      generalize lst ns = x at *
      clear h64
      go_enter Tryd.func6, Tryd.ntmps6
      go_wp2_with fail
      refine (C1.out _ HO.out).mono ?_
      rintro e w1 ⟨A1, c1, rfl, s1, b1⟩
      have B1 := Lib.hid b1
      have O1 := Lib.hid (HO.out.step b1)
      have S1 := Lib.hid s1
      clear s1 b1
      go_wp2_with fail
      refine (C2.out _).mono ?_
      rintro e w2 ⟨A2, c2, rfl, s2, b2⟩
      have B2 := Lib.hid (nx B1.out b2)
      have O2 := Lib.hid (O1.out.step b2)
      have S1 := Lib.hid (S1.out.step b2)
      have S2 := Lib.hid s2
      clear s2 b2
      go_wp2_with fail
      refine (C3.out _ ((HS.out.below B2.out).more B2.out.size)).mono ?_
      rintro e w3 ⟨rfl, b3⟩
      have B3 := Lib.hid (nx B2.out b3)
      have O3 := Lib.hid (O2.out.step b3)
      have S1 := Lib.hid (S1.out.step b3)
      have S2 := Lib.hid (S2.out.step b3)
      clear b3
      go_wp2_with fail
      refine (C4.out _ ((HS.out.below B3.out).more B3.out.size)).mono ?_
      rintro e wx ⟨rfl, hwx⟩
      obtain rfl := hwx.symm
      go_wp2_with fail
      refine (nsame_tt p.1 A1 A2 c1 c2 _ (by omega) S1.out S2.out).mono ?_
      rintro e w4 ⟨rfl, b4⟩
      have B4 := Lib.hid (nx B3.out b4)
      have O4 := Lib.hid (O3.out.step b4)
      clear b4
      go_wp2_with fail
      refine (HA.out _ O4.out).mono ?_
      rintro e wz ⟨rfl, bz⟩
      have BZ := Lib.hid (nx B4.out bz)
      clear bz
      go_wp2_with fail
      go_ret
      exact ⟨rfl, BZ.out⟩
    · have i3 : (200 : Int) < (l.length : Int) := by omega
      go_enter Tryd.func6, Tryd.ntmps6
      go_wp2_with fail
      refine (HA.out _ HO.out).mono ?_
      rintro e wz ⟨rfl, bz⟩
      have BZ := Lib.hid (nx (Below.refl _ _) bz)
      clear bz
      go_wp2_with fail
      go_ret
      exact ⟨rfl, BZ.out⟩
  · have i4 : (40 : Int) < (ns.length : Int) := by omega
    go_enter Tryd.func6, Tryd.ntmps6
    go_wp2_with fail
    refine (HA.out _ HO.out).mono ?_
    rintro e wz ⟨rfl, bz⟩
    have BZ := Lib.hid (nx (Below.refl _ _) bz)
    clear bz
    go_wp2_with fail
    go_ret
    exact ⟨rfl, BZ.out⟩

theorem pr_txt {n : Int} (hn : isI64 n) : pr (txt n) = (n, 0) := by unfold pr; rw [prs_txt hn]
theorem nl_lst {ns : List Int} (h : ∀ n ∈ ns, isI64 n) : nl (lst ns) = (ns, 0) := by unfold nl; rw [nums_lst ns h]
theorem nl_cases (l : List UInt8) : (∃ ns, nl l = (ns, 0) ∧ lst ns = l ∧ (∀ n ∈ ns, isI64 n) ∧ ns.length ≤ l.length + 1) ∨ nl l = ([], 2) := by
  have h1 := nl_len l
  unfold nl at *
  cases h : nums l with
  | none => exact .inr rfl
  | some ns =>
    obtain ⟨h2, h3⟩ := lst_nums h
    rw [h] at h1
    exact .inl ⟨ns, rfl, h2, h3, h1⟩
theorem pr_cases (l : List UInt8) : (∃ m, pr l = (m, 0) ∧ txt m = l ∧ isI64 m) ∨ pr l = (0, 2) := by
  unfold pr
  cases h : prs l with
  | none => exact .inr rfl
  | some m =>
    obtain ⟨h1, h2⟩ := prs_some h
    exact .inl ⟨m, rfl, h2.symm, h1⟩
set_option maxRecDepth 100000 in
set_option maxHeartbeats 8000000 in
theorem back_law (w : World) (ho : Ok w) (n : Int) (hn : isI64 n) (A : Option Addr) (cap : Nat) (ns : List Int) (hm : ns.length ≤ 9223372036854775807) (h64 : ∀ n ∈ ns, isI64 n) (hs : Sl w w.heap.size A (ns.flatMap decI)) (l : List UInt8) (h63 : l.length ≤ 9223372036854775807) :
    Calls Tryd.prog 7 #[.int .i64 n, .slice A ns.length cap, vS l] w fun e w' => e = .returned (.bool true) ∧ Below w.heap.size w w' := by
  have HA := Lib.hid (fun W hW => awake_any W hW)
  have HO := Lib.hid ho
  have hsB := size_B l
  have HS := Lib.hid hs
  clear ho hs
  by_cases h4 : ns.length ≤ 40
  · have i4 : ¬ (40 : Int) < (ns.length : Int) := by omega
    by_cases h2 : l.length ≤ 200
    · have i3 : ¬ (200 : Int) < (l.length : Int) := by omega
      have hxl := txt_len hn
      have hll := lst_len ns h64 ns.length
      rw [List.take_length] at hll
      have C1 := Lib.hid (fun W => text_any n hn W)
      have C2 := parse_any (txt n) (by omega)
      rw [pr_txt hn] at C2
      have C3 := take_any (txt n ++ 44 :: l) (by rw [List.length_append, List.length_cons]; omega)
      rw [take_txt hn l 44 (by decide) (by decide)] at C3
      have C2 := Lib.hid C2
      have C3 := Lib.hid C3
      have C4 := Lib.hid (fun W => list_any ns A cap W (by omega) h64)
      have C5 := numbers_sl (lst ns) (by omega)
      rw [nl_lst h64] at C5
      have C5 := Lib.hid C5
      have C6 := Lib.hid (fun W hW => numbers_sl l (by omega) W hW)
      have C7 := Lib.hid (fun W => parse_any l (by omega) W)
      have hsx := size_B (txt n)
      generalize txt n = x at *
      generalize lst ns = y at *
      have HX := Lib.hid (show B x ++ (⟨#[44]⟩ : ByteArray) ++ B l = B (x ++ 44 :: l) by rw [app44, app_B, List.append_assoc]; rfl)
      have n1 : ¬ 9223372036854775807 < x.length + 1 := by omega
      have n2 : ¬ 9223372036854775807 < x.length + 1 + l.length := by omega
      clear h64
      go_enter Tryd.func7, Tryd.ntmps7
      go_wp2_with fail
      refine (C1.out _).mono ?_
      rintro e w1 ⟨rfl, b1⟩
      have B1 := Lib.hid b1
      have O1 := Lib.hid (HO.out.step b1)
      clear b1
      go_wp2_with fail
      refine (C2.out _).mono ?_
      rintro e wx ⟨rfl, hwx⟩
      obtain rfl := hwx.symm
      go_wp2_with fail
      refine (C1.out _).mono ?_
      rintro e w2 ⟨rfl, b2⟩
      have B2 := Lib.hid (nx B1.out b2)
      have O2 := Lib.hid (O1.out.step b2)
      clear b2
      go_wp2_with fail
      rw [HX.out]
      refine (C3.out _).mono ?_
      rintro e wx ⟨rfl, hwx⟩
      obtain rfl := hwx.symm
      go_wp2_with fail
      refine (C4.out _ ((HS.out.below B2.out).more B2.out.size)).mono ?_
      rintro e w3 ⟨rfl, b3⟩
      have B3 := Lib.hid (nx B2.out b3)
      have O3 := Lib.hid (O2.out.step b3)
      clear b3
      go_wp2_with fail
      refine (C5.out _ O3.out).mono ?_
      rintro e w4 ⟨A4, c4, rfl, s4, b4⟩
      have B4 := Lib.hid (nx B3.out b4)
      have O4 := Lib.hid (O3.out.step b4)
      have S4 := Lib.hid s4
      clear s4 b4
      have t1 : ((x.length : Int) != (x.length : Int)) = false := ibne_no rfl
      have t2 : (n != n) = false := ibne_no rfl
      go_wp2_with fail
      refine (C1.out _).mono ?_
      rintro e w5 ⟨rfl, b5⟩
      have B5 := Lib.hid (nx B4.out b5)
      have O5 := Lib.hid (O4.out.step b5)
      have S5 := Lib.hid (S4.out.step b5)
      clear b5
      go_wp2_with fail
      refine (nsame_tt ns A4 A c4 cap _ hm S5.out ((HS.out.below B5.out).more B5.out.size)).mono ?_
      rintro e w6 ⟨rfl, b6⟩
      have B6 := Lib.hid (nx B5.out b6)
      have O6 := Lib.hid (O5.out.step b6)
      clear b6
      have hnc := nl_cases l
      have hpc := pr_cases l
      rcases hnc with ⟨bs, e1, e2, e3, e4⟩ | e1
      · have CL : Hid (∀ A c W, Sl W W.heap.size A (bs.flatMap decI) → Calls Tryd.prog 37 #[.slice A bs.length c] W fun e w' => e = .returned (vS l) ∧ Below W.heap.size W w') := Lib.hid (fun A c W h => by have := list_any bs A c W (by omega) e3 h; rw [e2] at this; exact this)
        rw [e1] at C6
        clear e1 e2 e3
        rcases hpc with ⟨m, f1, f2, f3⟩ | f1
        · have CT : Hid (∀ W, Calls Tryd.prog 33 #[.int .i64 m] W fun e w' => e = .returned (vS l) ∧ Below W.heap.size W w') := Lib.hid (fun W => by have := text_any m f3 W; rw [f2] at this; exact this)
          rw [f1] at C7
          clear f1 f2 f3
          go_wp2_with fail
          refine (C6.out _ O6.out).mono ?_
          rintro e w7 ⟨A7, c7, rfl, s7, b7⟩
          have B7 := Lib.hid (nx B6.out b7)
          have O7 := Lib.hid (O6.out.step b7)
          have S7 := Lib.hid s7
          clear s7 b7
          go_wp2_with fail
          refine (C7.out _).mono ?_
          rintro e wx ⟨rfl, hwx⟩
          obtain rfl := hwx.symm
          go_wp2_with fail
          refine (CL.out A7 c7 _ S7.out).mono ?_
          rintro e w8 ⟨rfl, b8⟩
          have B8 := Lib.hid (nx B7.out b8)
          have O8 := Lib.hid (O7.out.step b8)
          clear b8
          go_wp2_with fail
          refine (CT.out _).mono ?_
          rintro e w9 ⟨rfl, b9⟩
          have B9 := Lib.hid (nx B8.out b9)
          have O9 := Lib.hid (O8.out.step b9)
          clear b9
          go_wp2_with fail
          refine (HA.out _ O9.out).mono ?_
          rintro e wz ⟨rfl, bz⟩
          have BZ := Lib.hid (nx B9.out bz)
          clear bz
          go_wp2_with fail
          go_ret
          exact ⟨rfl, BZ.out⟩
        · rw [f1] at C7
          clear f1
          go_wp2_with fail
          refine (C6.out _ O6.out).mono ?_
          rintro e w7 ⟨A7, c7, rfl, s7, b7⟩
          have B7 := Lib.hid (nx B6.out b7)
          have O7 := Lib.hid (O6.out.step b7)
          have S7 := Lib.hid s7
          clear s7 b7
          go_wp2_with fail
          refine (C7.out _).mono ?_
          rintro e wx ⟨rfl, hwx⟩
          obtain rfl := hwx.symm
          go_wp2_with fail
          refine (CL.out A7 c7 _ S7.out).mono ?_
          rintro e w8 ⟨rfl, b8⟩
          have B8 := Lib.hid (nx B7.out b8)
          have O8 := Lib.hid (O7.out.step b8)
          clear b8
          go_wp2_with fail
          refine (HA.out _ O8.out).mono ?_
          rintro e wz ⟨rfl, bz⟩
          have BZ := Lib.hid (nx B8.out bz)
          clear bz
          go_wp2_with fail
          go_ret
          exact ⟨rfl, BZ.out⟩
      · rw [e1] at C6
        clear e1
        rcases hpc with ⟨m, f1, f2, f3⟩ | f1
        · have CT : Hid (∀ W, Calls Tryd.prog 33 #[.int .i64 m] W fun e w' => e = .returned (vS l) ∧ Below W.heap.size W w') := Lib.hid (fun W => by have := text_any m f3 W; rw [f2] at this; exact this)
          rw [f1] at C7
          clear f1 f2 f3
          go_wp2_with fail
          refine (C6.out _ O6.out).mono ?_
          rintro e w7 ⟨A7, c7, rfl, s7, b7⟩
          have B7 := Lib.hid (nx B6.out b7)
          have O7 := Lib.hid (O6.out.step b7)
          have S7 := Lib.hid s7
          clear s7 b7
          go_wp2_with fail
          refine (C7.out _).mono ?_
          rintro e wx ⟨rfl, hwx⟩
          obtain rfl := hwx.symm
          go_wp2_with fail
          refine (CT.out _).mono ?_
          rintro e w9 ⟨rfl, b9⟩
          have B9 := Lib.hid (nx B7.out b9)
          have O9 := Lib.hid (O7.out.step b9)
          clear b9
          go_wp2_with fail
          refine (HA.out _ O9.out).mono ?_
          rintro e wz ⟨rfl, bz⟩
          have BZ := Lib.hid (nx B9.out bz)
          clear bz
          go_wp2_with fail
          go_ret
          exact ⟨rfl, BZ.out⟩
        · rw [f1] at C7
          clear f1
          go_wp2_with fail
          refine (C6.out _ O6.out).mono ?_
          rintro e w7 ⟨A7, c7, rfl, s7, b7⟩
          have B7 := Lib.hid (nx B6.out b7)
          have O7 := Lib.hid (O6.out.step b7)
          have S7 := Lib.hid s7
          clear s7 b7
          go_wp2_with fail
          refine (C7.out _).mono ?_
          rintro e wx ⟨rfl, hwx⟩
          obtain rfl := hwx.symm
          go_wp2_with fail
          refine (HA.out _ O7.out).mono ?_
          rintro e wz ⟨rfl, bz⟩
          have BZ := Lib.hid (nx B7.out bz)
          clear bz
          go_wp2_with fail
          go_ret
          exact ⟨rfl, BZ.out⟩
    · have i3 : (200 : Int) < (l.length : Int) := by omega
      go_enter Tryd.func7, Tryd.ntmps7
      go_wp2_with fail
      refine (HA.out _ HO.out).mono ?_
      rintro e wz ⟨rfl, bz⟩
      have BZ := Lib.hid (nx (Below.refl _ _) bz)
      clear bz
      go_wp2_with fail
      go_ret
      exact ⟨rfl, BZ.out⟩
  · have i4 : (40 : Int) < (ns.length : Int) := by omega
    go_enter Tryd.func7, Tryd.ntmps7
    go_wp2_with fail
    refine (HA.out _ HO.out).mono ?_
    rintro e wz ⟨rfl, bz⟩
    have BZ := Lib.hid (nx (Below.refl _ _) bz)
    clear bz
    go_wp2_with fail
    go_ret
    exact ⟨rfl, BZ.out⟩
end Go.Proofs.YtcfdphfochfeoaaDoor.De
