/- Walks of layer 6: Parse. -/
import Derived.Test.YtcfdphfochfeoaaDoorTp9
namespace Go.Proofs.YtcfdphfochfeoaaDoor.Tp
open Go.RowKit Go.Proofs.YtcfdphfochfeoaaDoor.Li Go.Proofs.YtcfdphfochfeoaaDoor.De Go.Proofs.YtcfdphfochfeoaaDoor.Ara
/-- What Parse answers. -/
def TQ (R : (List Int × List Int) × Int) (w : World) (e : Ending) (w' : World) : Prop :=
  ∃ A c B d, e = .returned (.tuple #[.agg #[.slice A R.1.1.length c, .slice B R.1.2.length d], .int .i64 R.2]) ∧ Sl w' w'.heap.size A (R.1.1.flatMap decI) ∧ Sl w' w'.heap.size B (R.1.2.flatMap decI) ∧ Below w.heap.size w w'
theorem TQ.none {w w' : World} (k : Int) (h : Below w.heap.size w w') : TQ (([], []), k) w (.returned (.tuple #[.agg #[.slice none 0 0, .slice none 0 0], .int .i64 k])) w' :=
  ⟨.none, 0, .none, 0, rfl, Sl.nil _ _ _, Sl.nil _ _ _, h⟩
theorem lines_s (l : List UInt8) (w : World) (h : l.length ≤ 4096) (ho : Ok w) : Calls Tryd.prog 21 #[vS l] w fun e w' => ∃ A c, e = .returned (.slice A (lines l).length c) ∧ Sl w' w'.heap.size A ((lines l).map vS) ∧ Below w.heap.size w w' :=
  lines_sl (B l) w (by rw [size_B]; exact h) ho
/-- A block of the call's own with two cells. -/
def Two (w W : World) (x y : Value) : Prop := Below w.heap.size w W ∧ W.heap[w.heap.size]? = some (.cells #[x, y] 75 (0, 0))
theorem Two.made (w : World) (x y : Value) : Two w (w.alloc (.cells #[x, y] 75)) x y := ⟨below_new _ _, blk_new _ _⟩
theorem Two.step {w W V : World} {x y : Value} (h : Two w W x y) (b : Below W.heap.size W V) : Two w V x y := ⟨nx h.1 b, (b.block _ (lt_of_blk h.2)).trans h.2⟩
theorem nmb_len (W s : List UInt8) : (nmb W s).1.length ≤ s.length + 1 := by
  unfold nmb
  split
  · rename_i x c e
    split
    · have h1 := nl_len c
      have h2 := word_le (l := s) c (by rw [e]; simp)
      omega
    · simp
  · simp
theorem bset {w W : World} {B g i : Nat} {u : Value} (h : Below B w W) (hg : B ≤ g) : Below B w (W.setCell ⟨g, i, none⟩ u) := h.setCell (p := ⟨g, i, none⟩) hg u
theorem own_set2 {w : World} {base g : Nat} {A : Option Addr} {n c : Nat} {xs : List Int} (h : w.ownsRow base 3 1 (.slice A n c) n (xs.map (Value.int .i64))) (hg : g < base) (u u' : Value) :
    Sl ((w.setCell ⟨g, 0, none⟩ u).setCell ⟨g, 1, none⟩ u') ((w.setCell ⟨g, 0, none⟩ u).setCell ⟨g, 1, none⟩ u').heap.size A (xs.flatMap decI) := by
  have hm : Mod [g] w ((w.setCell ⟨g, 0, none⟩ u).setCell ⟨g, 1, none⟩ u') := ((Mod.refl _ _).setCell (p := ⟨g, 0, none⟩) (by simp) _).setCell (p := ⟨g, 1, none⟩) (by simp) _
  have := own_mod h hm (by simp; exact hg)
  obtain ⟨A', c', e, _, _, hs⟩ := own_slice this
  injection e with e1 e2 e3
  subst e1
  rw [Ara.flatI]
  exact hs
set_option maxRecDepth 100000 in
set_option maxHeartbeats 4000000 in
theorem parse_any (s : List UInt8) (hl : s.length ≤ 4000) (w : World) (ho : Ok w) : Calls Tryd.prog 75 #[vS s] w fun e w' => TQ (psT s) w e w' := by
  obtain ⟨R, hR⟩ : ∃ R, psT s = R := ⟨_, rfl⟩
  rw [hR]
  have HL := Lib.hid (fun W hW => lines_s s W (by omega) hW)
  have HT := Lib.hid (Two.made w (.slice none 0 0) (.slice none 0 0))
  have HO := Lib.hid (ho.step HT.out.1)
  go_enter Tryd.func75, Tryd.ntmps75
  go_upto_region 1 with fail
  generalize w.alloc (.cells #[.slice none 0 0, .slice none 0 0] 75) = W0 at *
  by_cases h2 : (lines s).length = 2
  · obtain ⟨a, b, e⟩ := two_of h2
    have la := line_le (l := s) a (by rw [e]; simp)
    have lb := line_le (l := s) b (by rw [e]; simp)
    have HBL := Lib.hid (show bld (nmb NODES a) (nmb THREADS b) = R by rw [← hR, psT_two e])
    have H1 := Lib.hid (fun W hW => numb_own NODES a (by omega) W hW)
    have H2 := Lib.hid (fun W hW => numb_own THREADS b (by omega) W hW)
    rw [e] at HL
    have nl1 := nmb_len NODES a
    have nl2 := nmb_len THREADS b
    clear hR h2 e
    generalize nmb NODES a = A at *
    generalize nmb THREADS b = Bq at *
    go_wp2_with fail
    refine (HL.out _ HO.out).mono ?_
    rintro e w1 ⟨A1, c1, rfl, s1, b1⟩
    obtain ⟨bk, off, rfl, hbb, hcell⟩ := sl_str s1 (k := 0) (by simp)
    have l0 : w1.cell? ⟨bk, off, none⟩ = some (vS a) := hcell 0 (by simp)
    have l1 : w1.cell? ⟨bk, off + 1, none⟩ = some (vS b) := hcell 1 (by simp)
    have HT := Lib.hid (HT.out.step b1)
    have HO := Lib.hid (HO.out.step b1)
    clear b1 s1 hcell
    go_wp2_with fail
    refine (H1.out _ HO.out).mono ?_
    rintro e w2 ⟨v2, rfl, o2, b2⟩
    obtain ⟨A2, c2, rfl, _, _, s2'⟩ := own_slice o2
    have s2 : Sl w2 w2.heap.size A2 (A.1.flatMap decI) := by rw [Ara.flatI]; exact s2'
    clear s2'
    have hw1 := lt_of_blk HT.out.2
    have hw2 := b2.size
    have O2 := Lib.hid o2
    clear o2
    have HT := Lib.hid (HT.out.step b2)
    have HO := Lib.hid (HO.out.step b2)
    have l1 := (b2.cell (p := ⟨bk, off + 1, none⟩) hbb).trans l1
    have S2 := Lib.hid s2
    clear b2 s2 l0
    go_wp2_with fail
    refine (H2.out _ HO.out).mono ?_
    rintro e w3 ⟨v3, rfl, o3, b3⟩
    obtain ⟨A3, c3, rfl, _, _, s3'⟩ := own_slice o3
    have s3 : Sl w3 w3.heap.size A3 (Bq.1.flatMap decI) := by rw [Ara.flatI]; exact s3'
    clear s3'
    have O2 := Lib.hid (own_below O2.out (Nat.le_refl _) b3)
    have O3 := Lib.hid o3
    clear o3
    have HT := Lib.hid (HT.out.step b3)
    have S3 := Lib.hid (S2.out.step b3)
    have R3 := Lib.hid s3
    clear b3 s3 l1
    by_cases ha : A.2 = 0
    · by_cases hb : Bq.2 = 0
      · have HN := Lib.hid (show fin A.1 Bq.1 = R by rw [← bld_ok ha hb]; exact HBL.out)
        have q1 := ibne_no ha
        have q2 := ibne_no hb
        have HCK := Lib.hid (fun A' B' c' d' W h1 h2 => check_any A.1 Bq.1 A' B' c' d' W (by omega) (by omega) h1 h2)
        clear ha hb HBL
        have g0 := blk_cell HT.out.2 0 (by simp)
        have g1 := blk_cell HT.out.2 1 (by simp)
        have f0 := blk_free HT.out.2 0
        have f1 := blk_free HT.out.2 1
        go_wp2_with fail
        have S4 := Lib.hid (S3.out.push (.cells #[.slice A2 A.1.length c2, .slice A3 Bq.1.length c3] 75))
        have R4 := Lib.hid (R3.out.push (.cells #[.slice A2 A.1.length c2, .slice A3 Bq.1.length c3] 75))
        have HT4 := Lib.hid (HT.out.step (below_new w3 (.cells #[.slice A2 A.1.length c2, .slice A3 Bq.1.length c3] 75)))
        have HK4 := Lib.hid (blk_new w3 (.cells #[.slice A2 A.1.length c2, .slice A3 Bq.1.length c3] 75))
        refine (HCK.out _ _ _ _ _ S4.out R4.out).mono ?_
        rintro e w5 ⟨rfl, b5⟩
        have HT := Lib.hid (HT4.out.step b5)
        have S5 := Lib.hid (S4.out.step b5)
        have R5 := Lib.hid (R4.out.step b5)
        have O2 := Lib.hid (own_below (O2.out.alloc (.cells #[.slice A2 A.1.length c2, .slice A3 Bq.1.length c3] 75)) (Nat.le_refl _) b5)
        have O3 := Lib.hid (own_below (O3.out.alloc (.cells #[.slice A2 A.1.length c2, .slice A3 Bq.1.length c3] 75)) (Nat.le_refl _) b5)
        have HK5 := Lib.hid ((b5.block w3.heap.size (by simp)).trans HK4.out)
        clear b5 HT4 S4 R4 HK4 g0 g1 f0 f1
        by_cases hc : chk A.1 Bq.1 = 0
        · have HN := Lib.hid (show ((A.1, Bq.1), 0) = R by rw [← HN.out]; exact (fin_ok hc).symm)
          have q3 := ibne_no hc
          clear hc
          generalize chk A.1 Bq.1 = ck at *
          have g0 := blk_cell HT.out.2 0 (by simp)
          have g1 := blk_cell HT.out.2 1 (by simp)
          have f0 := blk_free HT.out.2 0
          have f1 := blk_free HT.out.2 1
          have k0 := blk_cell HK5.out 0 (by simp)
          have k1 := blk_cell HK5.out 1 (by simp)
          go_wp2_with fail
          (try simp only [Exit.inBlock, Exit.then])
          refine bodyPost_ret (v := .tuple #[.agg #[.slice A2 A.1.length c2, .slice A3 Bq.1.length c3], .int .i64 0]) ?_ rfl ?_
          · rw [results_cell_tmp rfl]
            go_simp
          rw [← HN.out]
          exact ⟨A2, c2, A3, c3, rfl, own_set2 O2.out hw1 _ _, own_set2 O3.out (Nat.lt_of_lt_of_le hw1 hw2) _ _, bset (bset HT.out.1 (Nat.le_refl _)) (Nat.le_refl _)⟩
        · have HN := Lib.hid (show (([], []), chk A.1 Bq.1) = R by rw [← HN.out]; exact (fin_no hc).symm)
          have q3 := ibne hc
          clear hc
          generalize chk A.1 Bq.1 = ck at *
          have g0 := blk_cell HT.out.2 0 (by simp)
          have g1 := blk_cell HT.out.2 1 (by simp)
          have f0 := blk_free HT.out.2 0
          have f1 := blk_free HT.out.2 1
          go_wp2_with fail
          (try simp only [Exit.inBlock, Exit.then])
          refine bodyPost_ret (v := .tuple #[.agg #[.slice none 0 0, .slice none 0 0], .int .i64 ck]) ?_ rfl ?_
          · rw [results_cell_tmp rfl]
            go_simp
          rw [← HN.out]
          exact TQ.none _ (bset (bset HT.out.1 (Nat.le_refl _)) (Nat.le_refl _))
      · have HN := Lib.hid (show (([], []), 2) = R by rw [← bld_no (A := A) (B := Bq) (.inr hb)]; exact HBL.out)
        have q1 := ibne_no ha
        have q2 := ibne hb
        clear ha hb HBL
        have g0 := blk_cell HT.out.2 0 (by simp)
        have g1 := blk_cell HT.out.2 1 (by simp)
        have f0 := blk_free HT.out.2 0
        have f1 := blk_free HT.out.2 1
        go_wp2_with fail
        (try simp only [Exit.inBlock, Exit.then])
        refine bodyPost_ret (v := .tuple #[.agg #[.slice none 0 0, .slice none 0 0], .int .i64 2]) ?_ rfl ?_
        · rw [results_cell_tmp rfl]
          go_simp
        rw [← HN.out]
        exact TQ.none _ (bset (bset HT.out.1 (Nat.le_refl _)) (Nat.le_refl _))
    · have HN := Lib.hid (show (([], []), 2) = R by rw [← bld_no (A := A) (B := Bq) (.inl ha)]; exact HBL.out)
      have q1 := ibne ha
      clear ha HBL
      have g0 := blk_cell HT.out.2 0 (by simp)
      have g1 := blk_cell HT.out.2 1 (by simp)
      have f0 := blk_free HT.out.2 0
      have f1 := blk_free HT.out.2 1
      go_wp2_with fail
      (try simp only [Exit.inBlock, Exit.then])
      refine bodyPost_ret (v := .tuple #[.agg #[.slice none 0 0, .slice none 0 0], .int .i64 2]) ?_ rfl ?_
      · rw [results_cell_tmp rfl]
        go_simp
      rw [← HN.out]
      exact TQ.none _ (bset (bset HT.out.1 (Nat.le_refl _)) (Nat.le_refl _))
  · have HN := Lib.hid (show (([], []), 2) = R by rw [← hR, psT_no h2])
    have q : (((lines s).length : Int) != 2) = true := ibne (by omega)
    clear hR h2
    go_wp2_with fail
    refine (HL.out _ HO.out).mono ?_
    rintro e w1 ⟨A1, c1, rfl, s1, b1⟩
    have HT := Lib.hid (HT.out.step b1)
    clear b1 s1
    have g0 := blk_cell HT.out.2 0 (by simp)
    have g1 := blk_cell HT.out.2 1 (by simp)
    have f0 := blk_free HT.out.2 0
    have f1 := blk_free HT.out.2 1
    go_wp2_with fail
    (try simp only [Exit.inBlock, Exit.then])
    refine bodyPost_ret (v := .tuple #[.agg #[.slice none 0 0, .slice none 0 0], .int .i64 2]) ?_ rfl ?_
    · rw [results_cell_tmp rfl]
      go_simp
    rw [← HN.out]
    exact TQ.none _ (bset (bset HT.out.1 (Nat.le_refl _)) (Nat.le_refl _))
end Go.Proofs.YtcfdphfochfeoaaDoor.Tp
