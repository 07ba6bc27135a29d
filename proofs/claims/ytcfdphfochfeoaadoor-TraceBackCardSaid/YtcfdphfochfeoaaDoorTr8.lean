/- The walk of TraceSays. -/
import Derived.Test.YtcfdphfochfeoaaDoorTr7
namespace Go.Proofs.YtcfdphfochfeoaaDoor.Tr
open Go.RowKit Go.Proofs.YtcfdphfochfeoaaDoor.Li Go.Proofs.YtcfdphfochfeoaaDoor.De Go.Proofs.YtcfdphfochfeoaaDoor.Ara
set_option maxRecDepth 100000 in
set_option maxHeartbeats 8000000 in
theorem says_law (w : World) (ho : Ok w) (A : Option Addr) (cap : Nat) (ps : List Ev) (hm : ps.length ≤ 9223372036854775807) (h64 : ∀ p ∈ ps, okE p) (hs : Sl w w.heap.size A (ps.flatMap dE))
    (A2 : Option Addr) (cap2 : Nat) (ms : List Ev) (hm2 : ms.length ≤ 9223372036854775807) (hs2 : Sl w w.heap.size A2 (ms.flatMap dE)) (l : List UInt8) (h63 : l.length ≤ 9223372036854775807) :
    Calls Tryd.prog 10 #[.slice A ps.length cap, .slice A2 ms.length cap2, vS l] w fun e w' => e = .returned (.bool true) ∧ Below w.heap.size w w' := by
  have HA := Lib.hid (fun W hW => awake_any W hW)
  have HO := Lib.hid ho
  have hsB := size_B l
  have HS := Lib.hid hs
  have HM := Lib.hid hs2
  clear ho hs hs2
  by_cases h6 : ps.length ≤ 60
  · have i4 : ¬ (60 : Int) < (ps.length : Int) := by omega
    by_cases h7 : ms.length ≤ 60
    · have i5 : ¬ (60 : Int) < (ms.length : Int) := by omega
      by_cases h4 : l.length ≤ 300
      · have i3 : ¬ (300 : Int) < (l.length : Int) := by omega
        have C1 := Lib.hid (fun W => text_any ps A cap W (by omega) h64)
        have C2 := Lib.hid (fun W => rtext_any ps A cap W (by omega) h64)
        have C3 := Lib.hid (fun W hW => parse_any l (by omega) W hW)
        have C4 := Lib.hid (fun W => rparse_any l (by omega) W)
        have C5 := Lib.hid (fun W => brief_any ps A cap W (by omega))
        have C6 := Lib.hid (fun W => rwithout_any 0 ps A cap W (by omega))
        have C7 := Lib.hid (fun W => clean_any ps A cap W (by omega))
        have C8 := Lib.hid (fun W => rwithout_any 5 ps A cap W (by omega))
        have C9 := Lib.hid (fun W => same_any ps ms A A2 cap cap2 W (by omega) (by omega))
        have C10 := Lib.hid (fun W => esame_any ps ms A A2 cap cap2 W (by omega) (by omega))
        have hpl : (parseE l).1.length ≤ 4096 := by
          rcases parse_cases l with ⟨m, e1, _, _, e4, _⟩ | ⟨j, e1, _⟩
          · rw [e1]; show m.length ≤ 4096; omega
          · rw [e1]; simp
        have hw0 : (wo 0 ps).length ≤ 4096 := by have := wo_len 0 ps; omega
        have hw5 : (wo 5 ps).length ≤ 4096 := by have := wo_len 5 ps; omega
        unfold PQ at C3 C4
        generalize textE ps = tx at *
        generalize parseE l = R at *
        generalize wo 0 ps = k0 at *
        generalize wo 5 ps = k5 at *
        generalize decide (ps = ms) = bb at *
        have hbb : (bb == bb) = true := beq_self_eq_true bb
        clear h64
        go_enter Tryd.func10, Tryd.ntmps10
        go_wp2_with fail
        refine (C1.out _ HS.out).mono ?_
        rintro e w1 ⟨rfl, b1⟩
        have B1 := Lib.hid b1
        have O1 := Lib.hid (HO.out.step b1)
        clear b1
        go_wp2_with fail
        refine (C2.out _ ((HS.out.below B1.out).more B1.out.size)).mono ?_
        rintro e wx ⟨rfl, q, rfl⟩
        have B2 := Lib.hid (below_drewN B1.out q)
        have O2 : Hid (Ok (w1.drewN q)) := Lib.hid O1.out
        generalize w1.drewN q = w2 at *
        go_wp2_with fail
        refine (C3.out _ O2.out).mono ?_
        rintro e w3 ⟨A3, c3, rfl, s3, b3⟩
        have B3 := Lib.hid (nx B2.out b3)
        have O3 := Lib.hid (O2.out.step b3)
        have S3 := Lib.hid s3
        clear s3 b3
        go_wp2_with fail
        refine (C4.out _).mono ?_
        rintro e w4 ⟨A4, c4, rfl, s4, b4⟩
        have B4 := Lib.hid (nx B3.out b4)
        have O4 := Lib.hid (O3.out.step b4)
        have S3 := Lib.hid (S3.out.step b4)
        have S4 := Lib.hid s4
        clear s4 b4
        go_wp2_with fail
        refine (esame_tt R.1 A3 A4 c3 c4 _ hpl S3.out S4.out).mono ?_
        rintro e w5 ⟨rfl, b5⟩
        have B5 := Lib.hid (nx B4.out b5)
        have O5 := Lib.hid (O4.out.step b5)
        clear b5
        go_wp2_with fail
        refine (C5.out _ ((HS.out.below B5.out).more B5.out.size)).mono ?_
        rintro e u6 ⟨D6, d6, rfl, t6, b6⟩
        have U6 := Lib.hid (nx B5.out b6)
        have P6 := Lib.hid (O5.out.step b6)
        have T6 := Lib.hid t6
        clear t6 b6
        go_wp2_with fail
        refine (C6.out _ ((HS.out.below U6.out).more U6.out.size)).mono ?_
        rintro e v6 ⟨E6, c6, rfl, r6, b6⟩
        have V6 := Lib.hid (nx U6.out b6)
        have Q6 := Lib.hid (P6.out.step b6)
        have T6 := Lib.hid (T6.out.step b6)
        have R6 := Lib.hid r6
        clear r6 b6
        go_wp2_with fail
        refine (esame_tt k0 _ _ _ _ _ hw0 T6.out R6.out).mono ?_
        rintro e w7 ⟨rfl, b7⟩
        have B7 := Lib.hid (nx V6.out b7)
        have O7 := Lib.hid (Q6.out.step b7)
        clear b7
        go_wp2_with fail
        refine (C7.out _ ((HS.out.below B7.out).more B7.out.size)).mono ?_
        rintro e u8 ⟨D8, d8, rfl, t8, b8⟩
        have U8 := Lib.hid (nx B7.out b8)
        have P8 := Lib.hid (O7.out.step b8)
        have T8 := Lib.hid t8
        clear t8 b8
        go_wp2_with fail
        refine (C8.out _ ((HS.out.below U8.out).more U8.out.size)).mono ?_
        rintro e v8 ⟨E8, c8, rfl, r8, b8⟩
        have V8 := Lib.hid (nx U8.out b8)
        have Q8 := Lib.hid (P8.out.step b8)
        have T8 := Lib.hid (T8.out.step b8)
        have R8 := Lib.hid r8
        clear r8 b8
        go_wp2_with fail
        refine (esame_tt k5 _ _ _ _ _ hw5 T8.out R8.out).mono ?_
        rintro e w9 ⟨rfl, b9⟩
        have B9 := Lib.hid (nx V8.out b9)
        have O9 := Lib.hid (Q8.out.step b9)
        clear b9
        go_wp2_with fail
        refine (C9.out _ ((HS.out.below B9.out).more B9.out.size) ((HM.out.below B9.out).more B9.out.size)).mono ?_
        rintro e w10 ⟨rfl, b10⟩
        have B10 := Lib.hid (nx B9.out b10)
        have O10 := Lib.hid (O9.out.step b10)
        clear b10
        go_wp2_with fail
        refine (C10.out _ ((HS.out.below B10.out).more B10.out.size) ((HM.out.below B10.out).more B10.out.size)).mono ?_
        rintro e w11 ⟨rfl, b11⟩
        have B11 := Lib.hid (nx B10.out b11)
        have O11 := Lib.hid (O10.out.step b11)
        clear b11
        go_wp2_with fail
        refine (HA.out _ O11.out).mono ?_
        rintro e wz ⟨rfl, bz⟩
        have BZ := Lib.hid (nx B11.out bz)
        clear bz
        go_wp2_with fail
        go_ret
        refine ⟨?_, BZ.out⟩
        rfl
      · have i3 : (300 : Int) < (l.length : Int) := by omega
        go_enter Tryd.func10, Tryd.ntmps10
        go_wp2_with fail
        refine (HA.out _ HO.out).mono ?_
        rintro e wz ⟨rfl, bz⟩
        have BZ := Lib.hid (nx (Below.refl _ _) bz)
        clear bz
        go_wp2_with fail
        go_ret
        refine ⟨?_, BZ.out⟩
        rfl
    · have i5 : (60 : Int) < (ms.length : Int) := by omega
      go_enter Tryd.func10, Tryd.ntmps10
      go_wp2_with fail
      refine (HA.out _ HO.out).mono ?_
      rintro e wz ⟨rfl, bz⟩
      have BZ := Lib.hid (nx (Below.refl _ _) bz)
      clear bz
      go_wp2_with fail
      go_ret
      refine ⟨?_, BZ.out⟩
      rfl
  · have i4 : (60 : Int) < (ps.length : Int) := by omega
    go_enter Tryd.func10, Tryd.ntmps10
    go_wp2_with fail
    refine (HA.out _ HO.out).mono ?_
    rintro e wz ⟨rfl, bz⟩
    have BZ := Lib.hid (nx (Below.refl _ _) bz)
    clear bz
    go_wp2_with fail
    go_ret
    refine ⟨?_, BZ.out⟩
    rfl
end Go.Proofs.YtcfdphfochfeoaaDoor.Tr
