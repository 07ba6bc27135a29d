/- The walk of TopoEven. -/
import Derived.Test.YtcfdphfochfeoaaDoorTp20
import Derived.Test.YtcfdphfochfeoaaDoorTp13
import Derived.Test.YtcfdphfochfeoaaDoorTpA
namespace Go.Proofs.YtcfdphfochfeoaaDoor.Tp
open Go.RowKit Go.Proofs.YtcfdphfochfeoaaDoor.Li Go.Proofs.YtcfdphfochfeoaaDoor.De Go.Proofs.YtcfdphfochfeoaaDoor.Ara
theorem evfin_len (p t : List Int) : (fin p t).1.1.length ≤ 32 ∧ (fin p t).1.2.length ≤ 32 := by
  unfold fin
  split
  · rename_i h
    have := (chk_ok h).1
    unfold manyP at this
    exact ⟨by show p.length ≤ 32; omega, by show t.length ≤ 32; omega⟩
  · exact ⟨by simp, by simp⟩
theorem evT_len (parts : List Int) (th : Int) : (evT parts th).1.1.length ≤ 32 ∧ (evT parts th).1.2.length ≤ 32 := by
  unfold evT
  split
  · exact ⟨by simp, by simp⟩
  · split
    · exact ⟨by simp, by simp⟩
    · exact evfin_len _ _
theorem evsame_tt (p t : List Int) (A B A2 B2 : Option Addr) (c d c2 d2 : Nat) (w : World) (hp : p.length ≤ 32) (htl : t.length ≤ 32)
    (hs : Sl w w.heap.size A (p.flatMap decI)) (ht : Sl w w.heap.size B (t.flatMap decI)) (hs2 : Sl w w.heap.size A2 (p.flatMap decI)) (ht2 : Sl w w.heap.size B2 (t.flatMap decI)) :
    Calls Tryd.prog 72 #[.agg #[.slice A p.length c, .slice B t.length d], .agg #[.slice A2 p.length c2, .slice B2 t.length d2]] w fun e w' => e = .returned (.bool true) ∧ Below w.heap.size w w' := by
  have := rtsame_any p t p t A B A2 B2 c d c2 d2 w (by omega) (by omega) (by omega) (by omega) hs ht hs2 ht2
  rw [decide_eq_true ⟨rfl, rfl⟩] at this
  exact this
set_option maxRecDepth 100000 in
set_option maxHeartbeats 8000000 in
theorem even_law (w : World) (ho : Ok w) (parts : List Int) (A : Option Addr) (cap : Nat) (th : Int) (hm : parts.length ≤ 9223372036854775807) (hs : Sl w w.heap.size A (parts.flatMap decI)) :
    Calls Tryd.prog 13 #[.slice A parts.length cap, .int .i64 th] w fun e w' => e = .returned (.bool true) ∧ Below w.heap.size w w' := by
  have HA := Lib.hid (fun W hW => awake_any W hW)
  have HO := Lib.hid ho
  have HS := Lib.hid hs
  clear ho hs
  by_cases h4 : parts.length ≤ 20
  · have i3 : ¬ (20 : Int) < (parts.length : Int) := by omega
    have C1 := Lib.hid (fun W hW => even_any parts A cap th W (by omega) hW)
    have C2 := Lib.hid (fun W hW => reven_any parts A cap th W (by omega) hW)
    obtain ⟨l1, l2⟩ := evT_len parts th
    have hdeep := evT_deep (parts := parts) (th := th)
    unfold TQ at C1 C2
    generalize evT parts th = R at *
    obtain ⟨⟨p, t⟩, k⟩ := R
    simp only at C1 C2 l1 l2 hdeep
    have HDP := Lib.hid (fun A B c d W h1 h2 => depth_any p t A B c d W (by omega) (by omega) h1 h2)
    have HDEEP := Lib.hid hdeep
    have hkk : (k == k) = true := beq_self_eq_true k
    generalize dpT p t = dp at *
    clear hdeep
    go_enter Tryd.func13, Tryd.ntmps13
    go_wp2_with fail
    refine (C1.out _ HS.out).mono ?_
    rintro e w1 ⟨A1, c1, B1, d1, rfl, s1, t1, b1⟩
    have S1 := Lib.hid (s1.push (.cells #[.slice A1 p.length c1, .slice B1 t.length d1] 75))
    have T1 := Lib.hid (t1.push (.cells #[.slice A1 p.length c1, .slice B1 t.length d1] 75))
    have HB1 := Lib.hid (nx b1 (below_new w1 (.cells #[.slice A1 p.length c1, .slice B1 t.length d1] 75)))
    have K1 := Lib.hid (blk_new w1 (.cells #[.slice A1 p.length c1, .slice B1 t.length d1] 75))
    clear s1 t1 b1
    go_upto_region 4 with fail
    generalize w1.alloc (.cells #[.slice A1 p.length c1, .slice B1 t.length d1] 75) = V1 at *
    go_wp2_with fail
    refine (C2.out _ ((HS.out.below HB1.out).more HB1.out.size)).mono ?_
    rintro e w2 ⟨A2, c2, B2, d2, rfl, s2, t2, b2⟩
    have b3 := nx b2 (below_new w2 (.cells #[.slice A2 p.length c2, .slice B2 t.length d2] 75))
    have S2 := Lib.hid (s2.push (.cells #[.slice A2 p.length c2, .slice B2 t.length d2] 75))
    have T2 := Lib.hid (t2.push (.cells #[.slice A2 p.length c2, .slice B2 t.length d2] 75))
    have S1 := Lib.hid (S1.out.step b3)
    have T1 := Lib.hid (T1.out.step b3)
    have HB2 := Lib.hid (nx HB1.out b3)
    have K1 := Lib.hid ((b3.block _ (lt_of_blk K1.out)).trans K1.out)
    have K2 := Lib.hid (blk_new w2 (.cells #[.slice A2 p.length c2, .slice B2 t.length d2] 75))
    clear s2 t2 b2 b3 HB1
    go_upto_region 5 with fail
    generalize w2.alloc (.cells #[.slice A2 p.length c2, .slice B2 t.length d2] 75) = V2 at *
    have k0 := blk_cell K1.out 0 (by simp)
    have k1 := blk_cell K1.out 1 (by simp)
    have m0 := blk_cell K2.out 0 (by simp)
    have m1 := blk_cell K2.out 1 (by simp)
    go_wp2_with fail
    refine (evsame_tt p t A1 B1 A2 B2 c1 d1 c2 d2 _ l1 l2 S1.out T1.out S2.out T2.out).mono ?_
    rintro e w3 ⟨rfl, b3⟩
    have HB3 := Lib.hid (nx HB2.out b3)
    have S3 := Lib.hid (S1.out.step b3)
    have T3 := Lib.hid (T1.out.step b3)
    have K3 := Lib.hid ((b3.block _ (lt_of_blk K1.out)).trans K1.out)
    clear b3 k0 k1 m0 m1 K1 K2 S1 S2 T1 T2
    by_cases hk : k = 0
    · have q1 := ibne_no hk
      have hdd := HDEEP.out hk
      subst hdd
      have q2 : (((parts.length + 1 : Nat) : Int) == (parts.length : Int) + 1) = true := ibeq (by omega)
      have k0 := blk_cell K3.out 0 (by simp)
      have k1 := blk_cell K3.out 1 (by simp)
      clear hk
      go_wp2_with fail
      refine (HDP.out _ _ _ _ _ S3.out T3.out).mono ?_
      rintro e w4 ⟨rfl, b4⟩
      have HB4 := Lib.hid (nx HB3.out b4)
      clear b4 k0 k1
      go_wp2_with fail
      refine (HA.out _ (HO.out.step HB4.out)).mono ?_
      rintro e wz ⟨rfl, bz⟩
      have BZ := Lib.hid (nx HB4.out bz)
      clear bz
      go_wp2_with fail
      go_ret
      refine ⟨?_, BZ.out⟩
      rfl
    · have q1 := ibne hk
      clear hk
      go_wp2_with fail
      refine (HA.out _ (HO.out.step HB3.out)).mono ?_
      rintro e wz ⟨rfl, bz⟩
      have BZ := Lib.hid (nx HB3.out bz)
      clear bz
      go_wp2_with fail
      go_ret
      refine ⟨?_, BZ.out⟩
      rfl
  · have i3 : (20 : Int) < (parts.length : Int) := by omega
    go_enter Tryd.func13, Tryd.ntmps13
    go_wp2_with fail
    refine (HA.out _ (HO.out.step (Below.refl _ _))).mono ?_
    rintro e wz ⟨rfl, bz⟩
    have BZ := Lib.hid (nx (Below.refl _ _) bz)
    clear bz
    go_wp2_with fail
    go_ret
    refine ⟨?_, BZ.out⟩
    rfl
theorem even (w : World) (ho : Ok w) (A : Option Addr) (cap : Nat) (parts : List Int) (hc : parts.length ≤ cap) (hm : cap ≤ maxLen) (_ : ∀ n ∈ parts, isI64 n) (hs : Sl w w.heap.size A (parts.flatMap fun n : Int => [.int .i64 n])) (th : Int) (_ : isI64 th) :
    Calls Tryd.prog 13 #[.slice A parts.length cap, .int .i64 th] w fun e w' => e = .returned (.bool true) ∧ Below w.heap.size w w' :=
  even_law w ho parts A cap th (Nat.le_trans hc hm) hs
end Go.Proofs.YtcfdphfochfeoaaDoor.Tp
