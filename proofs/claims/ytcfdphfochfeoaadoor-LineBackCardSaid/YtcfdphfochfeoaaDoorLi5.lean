/- The walk of LineSays. -/
import Derived.Test.YtcfdphfochfeoaaDoorLi4
namespace Go.Proofs.YtcfdphfochfeoaaDoor.Li
open Go.RowKit Go.Shelf
set_option maxRecDepth 100000 in
set_option maxHeartbeats 4000000 in
theorem says_law (w : World) (ho : Ok w) (s : ByteArray) (hs63 : s.size ≤ 9223372036854775807) (A : Option Addr) (cap : Nat) (ls : List (List UInt8)) (hm : ls.length ≤ 9223372036854775807) (h63 : ∀ x ∈ ls, x.length ≤ 9223372036854775807) (hs : Sl w w.heap.size A (ls.map vS)) :
    Calls Tryd.prog 3 #[.string s, .slice A ls.length cap] w fun e w' => e = .returned (.bool true) ∧ Below w.heap.size w w' := by
  have HA := Lib.hid (fun W hW => awake_any W hW)
  have HF := Lib.hid (few_any ls A cap w hm h63 hs)
  have HO := Lib.hid ho
  have HS := Lib.hid hs
  clear ho hs h63
  by_cases h3 : s.size ≤ 300
  · have i3 : ¬ (300 : Int) < (s.size : Int) := by omega
    have C1 := Lib.hid (fun W => head_any s W (by omega))
    have C2 := Lib.hid (fun W => rhead_any s W (by omega))
    have C3 := Lib.hid (fun W => lines_sl s W (by omega))
    have C4 := Lib.hid (fun W => rlines_sl s W (by omega))
    have C5 := Lib.hid (fun W => words_sl s W (by omega))
    have C6 := Lib.hid (fun W => rwords_sl s W (by omega))
    have n1 := words_len (L s)
    have n2 := lines_len (L s)
    rw [← size_L] at n1 n2
    generalize headW (L s) = x at *
    generalize headR (L s) = y at *
    generalize words (L s) = ws at *
    generalize lines (L s) = lns at *
    go_enter Tryd.func3, Tryd.ntmps3
    go_wp2_with fail
    refine HF.out.mono ?_
    rintro e wx ⟨⟨b, rfl, hb⟩, hwx⟩
    obtain rfl := hwx.symm
    cases b with
    | false =>
      go_wp2_with fail
      refine (HA.out _ HO.out).mono ?_
      rintro e wz ⟨rfl, bz⟩
      have BZ := Lib.hid (nx (Below.refl _ _) bz)
      clear bz
      go_wp2_with fail
      go_ret
      exact ⟨rfl, BZ.out⟩
    | true =>
      have hf := hb rfl
      have hz := few_textL hf
      have hl20 := hf.1
      clear hb
      have C7 := Lib.hid (fun W => text_any ls A cap W (by omega) (by omega))
      have C8 := Lib.hid (fun W => rtext_any ls A cap W (by omega) (by omega))
      clear hf
      generalize textL ls = tx at *
      go_wp2_with fail
      refine (C1.out _).mono ?_
      rintro e w1 ⟨rfl, b1⟩
      have B1 := Lib.hid b1
      have O1 := Lib.hid (HO.out.step b1)
      clear b1
      go_wp2_with fail
      refine (C2.out _).mono ?_
      rintro e wx ⟨rfl, q, rfl⟩
      have B2 := Lib.hid (below_drewN B1.out q)
      have O2 : Hid (Ok (w1.drewN q)) := Lib.hid O1.out
      generalize w1.drewN q = w2 at *
      go_wp2_with fail
      refine (C3.out _ O2.out).mono ?_
      rintro e w3 ⟨A3, c3, rfl, s3, b3⟩
      have B3 := Lib.hid (nx B2.out b3)
      have O3 := Lib.hid (O2.out.step b3)
      have S3 := Lib.hid s3
      clear s3 b3
      go_wp2_with fail
      refine (C4.out _).mono ?_
      rintro e w4 ⟨A4, c4, rfl, s4, b4⟩
      have B4 := Lib.hid (nx B3.out b4)
      have O4 := Lib.hid (O3.out.step b4)
      have S3 := Lib.hid (S3.out.step b4)
      have S4 := Lib.hid s4
      clear s4 b4
      go_wp2_with fail
      refine (same_tt lns A3 A4 c3 c4 _ (by omega) S3.out S4.out).mono ?_
      rintro e w5 ⟨rfl, b5⟩
      have B5 := Lib.hid (nx B4.out b5)
      have O5 := Lib.hid (O4.out.step b5)
      clear b5
      go_wp2_with fail
      refine (C5.out _).mono ?_
      rintro e w6 ⟨A6, c6, rfl, s6, b6⟩
      have B6 := Lib.hid (nx B5.out b6)
      have O6 := Lib.hid (O5.out.step b6)
      have S6 := Lib.hid s6
      clear s6 b6
      go_wp2_with fail
      refine (C6.out _).mono ?_
      rintro e w7 ⟨A7, c7, rfl, s7, b7⟩
      have B7 := Lib.hid (nx B6.out b7)
      have O7 := Lib.hid (O6.out.step b7)
      have S6 := Lib.hid (S6.out.step b7)
      have S7 := Lib.hid s7
      clear s7 b7
      go_wp2_with fail
      refine (same_tt ws A6 A7 c6 c7 _ (by omega) S6.out S7.out).mono ?_
      rintro e w8 ⟨rfl, b8⟩
      have B8 := Lib.hid (nx B7.out b8)
      have O8 := Lib.hid (O7.out.step b8)
      clear b8
      go_wp2_with fail
      refine (C7.out _ ((HS.out.below B8.out).more B8.out.size)).mono ?_
      rintro e w9 ⟨rfl, b9⟩
      have B9 := Lib.hid (nx B8.out b9)
      have O9 := Lib.hid (O8.out.step b9)
      clear b9
      go_wp2_with fail
      refine (C8.out _ ((HS.out.below B9.out).more B9.out.size)).mono ?_
      rintro e wx ⟨rfl, q2, rfl⟩
      have B10 := Lib.hid (below_drewN B9.out q2)
      have O10 : Hid (Ok (w9.drewN q2)) := Lib.hid O9.out
      generalize w9.drewN q2 = w10 at *
      go_wp2_with fail
      refine (HA.out _ O10.out).mono ?_
      rintro e wz ⟨rfl, bz⟩
      have BZ := Lib.hid (nx B10.out bz)
      clear bz
      go_wp2_with fail
      go_ret
      exact ⟨rfl, BZ.out⟩
  · have i3 : (300 : Int) < (s.size : Int) := by omega
    go_enter Tryd.func3, Tryd.ntmps3
    go_wp2_with fail
    refine (HA.out _ HO.out).mono ?_
    rintro e wz ⟨rfl, bz⟩
    have BZ := Lib.hid (nx (Below.refl _ _) bz)
    clear bz
    go_wp2_with fail
    go_ret
    exact ⟨rfl, BZ.out⟩
end Go.Proofs.YtcfdphfochfeoaaDoor.Li
