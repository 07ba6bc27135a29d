/- The walk of TopoParses. -/
import Derived.Test.YtcfdphfochfeoaaDoorTp11
namespace Go.Proofs.YtcfdphfochfeoaaDoor.Tp
open Go.RowKit Go.Proofs.YtcfdphfochfeoaaDoor.Li Go.Proofs.YtcfdphfochfeoaaDoor.De Go.Proofs.YtcfdphfochfeoaaDoor.Ara
theorem fin_len (p t : List Int) : (fin p t).1.1.length ≤ 32 ∧ (fin p t).1.2.length ≤ 32 := by
  unfold fin
  split
  · rename_i h
    have := (chk_ok h).1
    unfold manyP at this
    exact ⟨by show p.length ≤ 32; omega, by show t.length ≤ 32; omega⟩
  · exact ⟨by simp, by simp⟩
theorem psT_len (s : List UInt8) : (psT s).1.1.length ≤ 32 ∧ (psT s).1.2.length ≤ 32 := by
  unfold psT
  split
  · unfold bld
    split
    · exact fin_len _ _
    · exact ⟨by simp, by simp⟩
  · exact ⟨by simp, by simp⟩
theorem rsame_tt (p t : List Int) (A B A2 B2 : Option Addr) (c d c2 d2 : Nat) (w : World) (hp : p.length ≤ 32) (htl : t.length ≤ 32)
    (hs : Sl w w.heap.size A (p.flatMap decI)) (ht : Sl w w.heap.size B (t.flatMap decI)) (hs2 : Sl w w.heap.size A2 (p.flatMap decI)) (ht2 : Sl w w.heap.size B2 (t.flatMap decI)) :
    Calls Tryd.prog 72 #[.agg #[.slice A p.length c, .slice B t.length d], .agg #[.slice A2 p.length c2, .slice B2 t.length d2]] w fun e w' => e = .returned (.bool true) ∧ Below w.heap.size w w' := by
  have := rtsame_any p t p t A B A2 B2 c d c2 d2 w (by omega) (by omega) (by omega) (by omega) hs ht hs2 ht2
  rw [decide_eq_true ⟨rfl, rfl⟩] at this
  exact this
set_option maxRecDepth 100000 in
set_option maxHeartbeats 8000000 in
theorem parses_law (w : World) (ho : Ok w) (s : List UInt8) (h63 : s.length ≤ 9223372036854775807) : Calls Tryd.prog 14 #[vS s] w fun e w' => e = .returned (.bool true) ∧ Below w.heap.size w w' := by
  have HA := Lib.hid (fun W hW => awake_any W hW)
  have HO := Lib.hid ho
  have hsB := size_B s
  clear ho
  by_cases h4 : s.length ≤ 400
  · have i3 : ¬ (400 : Int) < (s.length : Int) := by omega
    have C1 := Lib.hid (fun W hW => parse_any s (by omega) W hW)
    have C2 := Lib.hid (fun W => rparse_any s (by omega) W)
    obtain ⟨l1, l2⟩ := psT_len s
    unfold TQ at C1 C2
    generalize psT s = R at *
    obtain ⟨⟨p, t⟩, k⟩ := R
    simp only at C1 C2 l1 l2
    have hkk : (k == k) = true := beq_self_eq_true k
    go_enter Tryd.func14, Tryd.ntmps14
    go_wp2_with fail
    refine (C1.out _ HO.out).mono ?_
    rintro e w1 ⟨A1, c1, B1, d1, rfl, s1, t1, b1⟩
    have S1 := Lib.hid (s1.push (.cells #[.slice A1 p.length c1, .slice B1 t.length d1] 75))
    have T1 := Lib.hid (t1.push (.cells #[.slice A1 p.length c1, .slice B1 t.length d1] 75))
    have HB1 := Lib.hid (nx b1 (below_new w1 (.cells #[.slice A1 p.length c1, .slice B1 t.length d1] 75)))
    have K1 := Lib.hid (blk_new w1 (.cells #[.slice A1 p.length c1, .slice B1 t.length d1] 75))
    clear s1 t1 b1
    go_upto_region 4 with fail
    generalize w1.alloc (.cells #[.slice A1 p.length c1, .slice B1 t.length d1] 75) = V1 at *
    go_wp2_with fail
    refine (C2.out _).mono ?_
    rintro e w2 ⟨A2, c2, B2, d2, rfl, s2, t2, b2⟩
    have b3 := nx b2 (below_new w2 (.cells #[.slice A2 p.length c2, .slice B2 t.length d2] 75))
    have S2 := Lib.hid (s2.push (.cells #[.slice A2 p.length c2, .slice B2 t.length d2] 75))
    have T2 := Lib.hid (t2.push (.cells #[.slice A2 p.length c2, .slice B2 t.length d2] 75))
    have S1 := Lib.hid (S1.out.step b3)
    have T1 := Lib.hid (T1.out.step b3)
    have HB2 := Lib.hid (nx HB1.out b3)
    have K1 := Lib.hid ((b3.block _ (lt_of_blk K1.out)).trans K1.out)
    have K2 := Lib.hid (blk_new w2 (.cells #[.slice A2 p.length c2, .slice B2 t.length d2] 75))
    clear s2 t2 b2 b3 HB1
    go_upto_region 5 with fail
    generalize w2.alloc (.cells #[.slice A2 p.length c2, .slice B2 t.length d2] 75) = V2 at *
    have k0 := blk_cell K1.out 0 (by simp)
    have k1 := blk_cell K1.out 1 (by simp)
    have m0 := blk_cell K2.out 0 (by simp)
    have m1 := blk_cell K2.out 1 (by simp)
    go_wp2_with fail
    refine (rsame_tt p t A1 B1 A2 B2 c1 d1 c2 d2 _ l1 l2 S1.out T1.out S2.out T2.out).mono ?_
    rintro e w3 ⟨rfl, b3⟩
    have HB3 := Lib.hid (nx HB2.out b3)
    clear b3 k0 k1 m0 m1
    go_wp2_with fail
    refine (HA.out _ (HO.out.step HB3.out)).mono ?_
    rintro e wz ⟨rfl, bz⟩
    have BZ := Lib.hid (nx HB3.out bz)
    clear bz
    go_wp2_with fail
    go_ret
    refine ⟨?_, BZ.out⟩
    rfl
  · have i3 : (400 : Int) < (s.length : Int) := by omega
    go_enter Tryd.func14, Tryd.ntmps14
    go_wp2_with fail
    refine (HA.out _ HO.out).mono ?_
    rintro e wz ⟨rfl, bz⟩
    have BZ := Lib.hid bz
    clear bz
    go_wp2_with fail
    go_ret
    refine ⟨?_, BZ.out⟩
    rfl
end Go.Proofs.YtcfdphfochfeoaaDoor.Tp
