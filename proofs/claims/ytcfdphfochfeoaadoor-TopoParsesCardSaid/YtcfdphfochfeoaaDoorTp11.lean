/- Walks of layer 6: the reference's Parse; TopoParses. -/
import Derived.Test.YtcfdphfochfeoaaDoorTp13
namespace Go.Proofs.YtcfdphfochfeoaaDoor.Tp
open Go.RowKit Go.Proofs.YtcfdphfochfeoaaDoor.Li Go.Proofs.YtcfdphfochfeoaaDoor.De Go.Proofs.YtcfdphfochfeoaaDoor.Ara
theorem rlines_s (l : List UInt8) (w : World) (h : l.length ≤ 4096) : Calls Tryd.prog 22 #[vS l] w fun e w' => ∃ A c, e = .returned (.slice A (lines l).length c) ∧ Sl w' w'.heap.size A ((lines l).map vS) ∧ Below w.heap.size w w' :=
  rlines_sl (Li.B l) w (by rw [size_B]; exact h)
theorem rwords_s (l : List UInt8) (w : World) (h : l.length ≤ 4096) : Calls Tryd.prog 24 #[vS l] w fun e w' => ∃ A c, e = .returned (.slice A (words l).length c) ∧ Sl w' w'.heap.size A ((words l).map vS) ∧ Below w.heap.size w w' :=
  rwords_sl (Li.B l) w (by rw [size_B]; exact h)
theorem own_shape {w : World} {base : Nat} {v : Value} {n : Nat} {xs : List Int} (h : w.ownsRow base 3 1 v n (xs.map (Value.int .i64))) : ∃ A c, v = .slice A n c ∧ Sl w w.heap.size A (xs.flatMap decI) := by
  obtain ⟨A, c, h1, _, _, h2⟩ := own_slice h
  exact ⟨A, c, h1, by rw [Ara.flatI]; exact h2⟩
set_option maxRecDepth 100000 in
set_option maxHeartbeats 8000000 in
theorem rparse_any (s : List UInt8) (hl : s.length ≤ 4000) (w : World) : Calls Tryd.prog 76 #[vS s] w fun e w' => TQ (psT s) w e w' := by
  obtain ⟨R, hR⟩ : ∃ R, psT s = R := ⟨_, rfl⟩
  rw [hR]
  have HL := Lib.hid (fun W => rlines_s s W (by omega))
  have HT := Lib.hid (Two.made w (.slice none 0 0) (.slice none 0 0))
  go_enter Tryd.func76, Tryd.ntmps76
  by_cases h2 : (lines s).length = 2
  · obtain ⟨a, b, e⟩ := two_of h2
    have la := line_le (l := s) a (by rw [e]; simp)
    have lb := line_le (l := s) b (by rw [e]; simp)
    have HBL := Lib.hid (show bld (nmb NODES a) (nmb THREADS b) = R by rw [← hR, psT_two e])
    have HWa := Lib.hid (fun W => rwords_s a W (by omega))
    have HWb := Lib.hid (fun W => rwords_s b W (by omega))
    rw [e] at HL
    clear hR h2 e
    by_cases ha : (words a).length = 2
    · by_cases hb : (words b).length = 2
      · obtain ⟨x, y, ea⟩ := two_of ha
        obtain ⟨x', y', eb⟩ := two_of hb
        have hy : y.length ≤ 4000 := by have := word_le (l := a) y (by rw [ea]; simp); omega
        have hy' : y'.length ≤ 4000 := by have := word_le (l := b) y' (by rw [eb]; simp); omega
        rw [nmb_two ea, nmb_two eb] at HBL
        rw [ea] at HWa
        rw [eb] at HWb
        clear ha hb ea eb
        by_cases hx : x = NODES
        · by_cases hx' : x' = THREADS
          · rw [if_pos hx, if_pos hx'] at HBL
            have nl1 := nl_len y
            have nl2 := nl_len y'
            have H1 := Lib.hid (fun W => rnumbers_any y hy W)
            have H2 := Lib.hid (fun W => rnumbers_any y' hy' W)
            have q1 : (x == ([110, 111, 100, 101, 115] : List UInt8)) = true := beq_iff_eq.2 hx
            have r1 : (Li.B x == (⟨#[110, 111, 100, 101, 115]⟩ : ByteArray)) = true := by rw [hx]; rfl
            have q2 : (x' == ([116, 104, 114, 101, 97, 100, 115] : List UInt8)) = true := beq_iff_eq.2 hx'
            have r2 : (Li.B x' == (⟨#[116, 104, 114, 101, 97, 100, 115]⟩ : ByteArray)) = true := by rw [hx']; rfl
            unfold NQ at H1 H2
            generalize nl y = A at *
            generalize nl y' = Bq at *
            go_upto_region 1 with fail
            generalize w.alloc (.cells #[.slice none 0 0, .slice none 0 0] 75) = W0 at *
            go_wp2_with fail
            refine (HL.out _).mono ?_
            rintro e w1 ⟨A1, c1, rfl, s1, b1⟩
            have HT := Lib.hid (HT.out.step b1)
            obtain ⟨bk, off, rfl, hbb, hcell⟩ := sl_str s1 (k := 0) (by simp)
            have l0 : w1.drew.cell? ⟨bk, off, none⟩ = some (vS a) := hcell 0 (by simp)
            have l1 : w1.drew.cell? ⟨bk, off + 1, none⟩ = some (vS b) := hcell 1 (by simp)
            have hbb' : bk < w1.drew.heap.size := hbb
            have HT : Hid (Two w w1.drew (.slice none 0 0) (.slice none 0 0)) := Lib.hid ⟨Below.drew HT.out.1, HT.out.2⟩
            clear b1 s1 hcell hbb
            go_upto_region 4 with fail
            refine wp_region_held_drew (S := fun V => V.cell? ⟨bk, off, none⟩ = some (vS a) ∧ V.cell? ⟨bk, off + 1, none⟩ = some (vS b)) (by kernel_rfl) ⟨l0, l1⟩ (fun hHeld => ?_)
            generalize w1.drew = X0 at *
            refine take_to 0 (some 19) (v := ?_) rfl rfl (by kernel_rfl) (by kernel_rfl) (by kernel_rfl) (fun _ _ _ h => h) (Or.inl ⟨by rfl, ?_⟩) (by first | trivial | assumption) ?_
            rotate_left
            focus (intro w hSw; (try dsimp only at hSw); go_simp; (try with_reducible rfl))
            simp only [Act.put, List.setIfInBounds_toArray, List.set_cons_zero, List.set_cons_succ]
            refine take_to 1 (some 20) (v := ?_) rfl rfl (by kernel_rfl) (by kernel_rfl) (by kernel_rfl) (fun _ _ _ h => h) (Or.inl ⟨by rfl, ?_⟩) (by first | trivial | assumption) ?_
            rotate_left
            focus (intro w hSw; (try dsimp only at hSw); go_simp; (try with_reducible rfl))
            simp only [Act.put, List.setIfInBounds_toArray, List.set_cons_zero, List.set_cons_succ]
            refine take_to 2 (some 21) (v := ?_) rfl rfl (by kernel_rfl) (by kernel_rfl) (by kernel_rfl) (fun _ _ _ h => h) (Or.inl ⟨by rfl, ?_⟩) (by first | trivial | assumption) ?_
            rotate_left
            focus (intro w hSw; (try dsimp only at hSw); go_simp; (try with_reducible rfl))
            simp only [Act.put, List.setIfInBounds_toArray, List.set_cons_zero, List.set_cons_succ]
            refine take_to 4 (some 23) (v := ?_) rfl rfl (by kernel_rfl) (by kernel_rfl) (by kernel_rfl) (fun _ _ _ h => h) (Or.inl ⟨by rfl, ?_⟩) (by first | trivial | assumption) ?_
            rotate_left
            focus (intro w hSw; (try dsimp only at hSw); go_simp; (try with_reducible rfl))
            simp only [Act.put, List.setIfInBounds_toArray, List.set_cons_zero, List.set_cons_succ]
            refine take_to 5 (some 24) (v := ?_) rfl rfl (by kernel_rfl) (by kernel_rfl) (by kernel_rfl) (fun _ _ _ h => h) (Or.inl ⟨by rfl, ?_⟩) (by first | trivial | assumption) ?_
            rotate_left
            focus (intro w hSw; (try dsimp only at hSw); go_simp; (try with_reducible rfl))
            simp only [Act.put, List.setIfInBounds_toArray, List.set_cons_zero, List.set_cons_succ]
            refine take_to 6 (some 25) (v := ?_) rfl rfl (by kernel_rfl) (by kernel_rfl) (by kernel_rfl) (fun _ _ _ h => h) (Or.inl ⟨by rfl, ?_⟩) (by first | trivial | assumption) ?_
            rotate_left
            focus (intro w hSw; (try dsimp only at hSw); go_simp; (try with_reducible rfl))
            simp only [Act.put, List.setIfInBounds_toArray, List.set_cons_zero, List.set_cons_succ]
            refine wpAnyH_ready (rs := [3]) (by kernel_rfl) (by simp) ?_
            refine AllReadyH.cons rfl (fun K hK => ?_) AllReadyH.nil
            go_simp
            refine (HWa.out _).mono ?_
            rintro e X1 ⟨E1, k1, rfl, s1, b1⟩
            have HT := Lib.hid (HT.out.step b1)
            have S1 := Lib.hid s1
            have m0 := (b1.cell (p := ⟨bk, off, none⟩) hbb').trans l0
            have m1 := (b1.cell (p := ⟨bk, off + 1, none⟩) hbb').trans l1
            have hb1 : bk < X1.heap.size := Nat.lt_of_lt_of_le hbb' b1.size
            clear s1 b1 l0 l1 hbb'
            go_simp
            refine hK.out _ _ ⟨m0, m1⟩ (fun hHeld => ?_)
            refine wpAnyH_ready (rs := [7]) (by kernel_rfl) (by simp) ?_
            refine AllReadyH.cons rfl (fun K hK => ?_) AllReadyH.nil
            go_simp
            refine (HWb.out _).mono ?_
            rintro e X2 ⟨E2, k2, rfl, s2, b2⟩
            have HT := Lib.hid (HT.out.step b2)
            have S1 := Lib.hid (S1.out.step b2)
            have S2 := Lib.hid s2
            have m0 := (b2.cell (p := ⟨bk, off, none⟩) hb1).trans m0
            have m1 := (b2.cell (p := ⟨bk, off + 1, none⟩) hb1).trans m1
            clear s2 b2 hb1
            go_simp
            refine hK.out _ _ ⟨m0, m1⟩ (fun hHeld => ?_)
            refine take_to 8 (some 5) (v := ?_) rfl rfl (by kernel_rfl) (by kernel_rfl) (by kernel_rfl) (fun _ _ _ h => h) (Or.inl ⟨by rfl, ?_⟩) (by first | trivial | assumption) ?_
            rotate_left
            focus (intro w hSw; (try dsimp only at hSw); go_simp; (try with_reducible rfl))
            simp only [Act.put, List.setIfInBounds_toArray, List.set_cons_zero, List.set_cons_succ]
            refine take_to 9 (some 6) (v := ?_) rfl rfl (by kernel_rfl) (by kernel_rfl) (by kernel_rfl) (fun _ _ _ h => h) (Or.inl ⟨by rfl, ?_⟩) (by first | trivial | assumption) ?_
            rotate_left
            focus (intro w hSw; (try dsimp only at hSw); go_simp; (try with_reducible rfl))
            simp only [Act.put, List.setIfInBounds_toArray, List.set_cons_zero, List.set_cons_succ]
            refine wpAnyH_done (by kernel_rfl) ?_ _
            clear m0 m1
            obtain ⟨g1, o1, hE1, hg1, hc1⟩ := sl_str S1.out (k := 0) (by simp)
            obtain ⟨g2, o2, hE2, hg2, hc2⟩ := sl_str S2.out (k := 0) (by simp)
            subst hE1 hE2
            have u0 : X2.cell? ⟨g1, o1, none⟩ = some (vS x) := hc1 0 (by simp)
            have u1 : X2.cell? ⟨g1, o1 + 1, none⟩ = some (vS y) := hc1 1 (by simp)
            have v0 : X2.cell? ⟨g2, o2, none⟩ = some (vS x') := hc2 0 (by simp)
            have v1 : X2.cell? ⟨g2, o2 + 1, none⟩ = some (vS y') := hc2 1 (by simp)
            clear hc1 hc2 hx hx' S1 S2
            go_wp2_with fail
            refine (H1.out _).mono ?_
            rintro e w2 ⟨v2, rfl, o2', b2⟩
            obtain ⟨A2, c2, rfl, s2⟩ := own_shape o2'
            have hw1 := lt_of_blk HT.out.2
            have hw2 := b2.size
            have O2 := Lib.hid o2'
            have HT := Lib.hid (HT.out.step b2)
            have S2 := Lib.hid s2
            have v1 := (b2.cell (p := ⟨g2, o2 + 1, none⟩) hg2).trans v1
            clear b2 s2 o2' u0 u1 v0
            go_wp2_with fail
            refine (H2.out _).mono ?_
            rintro e w3 ⟨v3, rfl, o3, b3⟩
            obtain ⟨A3, c3, rfl, s3⟩ := own_shape o3
            have O2 := Lib.hid (own_below O2.out (Nat.le_refl _) b3)
            have O3 := Lib.hid o3
            have HT := Lib.hid (HT.out.step b3)
            have S3 := Lib.hid (S2.out.step b3)
            have R3 := Lib.hid s3
            clear b3 s3 o3 v1
            by_cases ha : A.2 = 0
            · by_cases hb : Bq.2 = 0
              · have HN := Lib.hid (show fin A.1 Bq.1 = R by rw [← bld_ok ha hb]; exact HBL.out)
                have q1 := ibne_no ha
                have q2 := ibne_no hb
                have HCK := Lib.hid (fun A' B' c' d' W h1 h2 => rcheck_any A.1 Bq.1 A' B' c' d' W (by omega) (by omega) h1 h2)
                clear ha hb HBL
                have g0 := blk_cell HT.out.2 0 (by simp)
                have g1 := blk_cell HT.out.2 1 (by simp)
                have f0 := blk_free HT.out.2 0
                have f1 := blk_free HT.out.2 1
                go_wp2_with fail
                have S4 := Lib.hid (S3.out.push (.cells #[.slice A2 A.1.length c2, .slice A3 Bq.1.length c3] 75))
                have R4 := Lib.hid (R3.out.push (.cells #[.slice A2 A.1.length c2, .slice A3 Bq.1.length c3] 75))
                have HT4 := Lib.hid (HT.out.step (below_new w3 (.cells #[.slice A2 A.1.length c2, .slice A3 Bq.1.length c3] 75)))
                have HK4 := Lib.hid (blk_new w3 (.cells #[.slice A2 A.1.length c2, .slice A3 Bq.1.length c3] 75))
                refine (HCK.out _ _ _ _ _ S4.out R4.out).mono ?_
                rintro e w5 ⟨rfl, b5⟩
                have HT := Lib.hid (HT4.out.step b5)
                have S5 := Lib.hid (S4.out.step b5)
                have R5 := Lib.hid (R4.out.step b5)
                have O2 := Lib.hid (own_below (O2.out.alloc (.cells #[.slice A2 A.1.length c2, .slice A3 Bq.1.length c3] 75)) (Nat.le_refl _) b5)
                have O3 := Lib.hid (own_below (O3.out.alloc (.cells #[.slice A2 A.1.length c2, .slice A3 Bq.1.length c3] 75)) (Nat.le_refl _) b5)
                have HK5 := Lib.hid ((b5.block w3.heap.size (by simp)).trans HK4.out)
                clear b5 HT4 S4 R4 HK4 g0 g1 f0 f1
                by_cases hc : chk A.1 Bq.1 = 0
                · have HN := Lib.hid (show ((A.1, Bq.1), 0) = R by rw [← HN.out]; exact (fin_ok hc).symm)
                  have q3 := ibne_no hc
                  clear hc
                  generalize chk A.1 Bq.1 = ck at *
                  have g0 := blk_cell HT.out.2 0 (by simp)
                  have g1 := blk_cell HT.out.2 1 (by simp)
                  have f0 := blk_free HT.out.2 0
                  have f1 := blk_free HT.out.2 1
                  have k0 := blk_cell HK5.out 0 (by simp)
                  have k1 := blk_cell HK5.out 1 (by simp)
                  go_wp2_with fail
                  (try simp only [Exit.inBlock, Exit.then])
                  refine bodyPost_ret (v := .tuple #[.agg #[.slice A2 A.1.length c2, .slice A3 Bq.1.length c3], .int .i64 0]) ?_ rfl ?_
                  · rw [results_cell_tmp rfl]
                    go_simp
                  rw [← HN.out]
                  exact ⟨A2, c2, A3, c3, rfl, own_set2 O2.out hw1 _ _, own_set2 O3.out (Nat.lt_of_lt_of_le hw1 hw2) _ _, bset (bset HT.out.1 (Nat.le_refl _)) (Nat.le_refl _)⟩
                · have HN := Lib.hid (show (([], []), chk A.1 Bq.1) = R by rw [← HN.out]; exact (fin_no hc).symm)
                  have q3 := ibne hc
                  clear hc
                  generalize chk A.1 Bq.1 = ck at *
                  have g0 := blk_cell HT.out.2 0 (by simp)
                  have g1 := blk_cell HT.out.2 1 (by simp)
                  have f0 := blk_free HT.out.2 0
                  have f1 := blk_free HT.out.2 1
                  go_wp2_with fail
                  (try simp only [Exit.inBlock, Exit.then])
                  refine bodyPost_ret (v := .tuple #[.agg #[.slice none 0 0, .slice none 0 0], .int .i64 ck]) ?_ rfl ?_
                  · rw [results_cell_tmp rfl]
                    go_simp
                  rw [← HN.out]
                  exact TQ.none _ (bset (bset HT.out.1 (Nat.le_refl _)) (Nat.le_refl _))
              · have HN := Lib.hid (show (([], []), 2) = R by rw [← bld_no (A := A) (B := Bq) (.inr hb)]; exact HBL.out)
                have q1 := ibne_no ha
                have q2 := ibne hb
                clear ha hb HBL
                have g0 := blk_cell HT.out.2 0 (by simp)
                have g1 := blk_cell HT.out.2 1 (by simp)
                have f0 := blk_free HT.out.2 0
                have f1 := blk_free HT.out.2 1
                go_wp2_with fail
                (try simp only [Exit.inBlock, Exit.then])
                refine bodyPost_ret (v := .tuple #[.agg #[.slice none 0 0, .slice none 0 0], .int .i64 2]) ?_ rfl ?_
                · rw [results_cell_tmp rfl]
                  go_simp
                rw [← HN.out]
                exact TQ.none _ (bset (bset HT.out.1 (Nat.le_refl _)) (Nat.le_refl _))
            · have HN := Lib.hid (show (([], []), 2) = R by rw [← bld_no (A := A) (B := Bq) (.inl ha)]; exact HBL.out)
              have q1 := ibne ha
              clear ha HBL
              have g0 := blk_cell HT.out.2 0 (by simp)
              have g1 := blk_cell HT.out.2 1 (by simp)
              have f0 := blk_free HT.out.2 0
              have f1 := blk_free HT.out.2 1
              go_wp2_with fail
              (try simp only [Exit.inBlock, Exit.then])
              refine bodyPost_ret (v := .tuple #[.agg #[.slice none 0 0, .slice none 0 0], .int .i64 2]) ?_ rfl ?_
              · rw [results_cell_tmp rfl]
                go_simp
              rw [← HN.out]
              exact TQ.none _ (bset (bset HT.out.1 (Nat.le_refl _)) (Nat.le_refl _))
          · rw [if_neg hx'] at HBL
            have HN := Lib.hid (show (([], []), 2) = R by rw [← HBL.out, bld_no (.inr (by decide))])
            clear HBL
            have q1 : (x == ([110, 111, 100, 101, 115] : List UInt8)) = true := beq_iff_eq.2 hx
            have r1 : (Li.B x == (⟨#[110, 111, 100, 101, 115]⟩ : ByteArray)) = true := by rw [hx]; rfl
            have q2 : (x' == ([116, 104, 114, 101, 97, 100, 115] : List UInt8)) = false := beq_eq_false_iff_ne.2 hx'
            go_upto_region 1 with fail
            generalize w.alloc (.cells #[.slice none 0 0, .slice none 0 0] 75) = W0 at *
            go_wp2_with fail
            refine (HL.out _).mono ?_
            rintro e w1 ⟨A1, c1, rfl, s1, b1⟩
            have HT := Lib.hid (HT.out.step b1)
            obtain ⟨bk, off, rfl, hbb, hcell⟩ := sl_str s1 (k := 0) (by simp)
            have l0 : w1.drew.cell? ⟨bk, off, none⟩ = some (vS a) := hcell 0 (by simp)
            have l1 : w1.drew.cell? ⟨bk, off + 1, none⟩ = some (vS b) := hcell 1 (by simp)
            have hbb' : bk < w1.drew.heap.size := hbb
            have HT : Hid (Two w w1.drew (.slice none 0 0) (.slice none 0 0)) := Lib.hid ⟨Below.drew HT.out.1, HT.out.2⟩
            clear b1 s1 hcell hbb
            go_upto_region 4 with fail
            refine wp_region_held_drew (S := fun V => V.cell? ⟨bk, off, none⟩ = some (vS a) ∧ V.cell? ⟨bk, off + 1, none⟩ = some (vS b)) (by kernel_rfl) ⟨l0, l1⟩ (fun hHeld => ?_)
            generalize w1.drew = X0 at *
            refine take_to 0 (some 19) (v := ?_) rfl rfl (by kernel_rfl) (by kernel_rfl) (by kernel_rfl) (fun _ _ _ h => h) (Or.inl ⟨by rfl, ?_⟩) (by first | trivial | assumption) ?_
            rotate_left
            focus (intro w hSw; (try dsimp only at hSw); go_simp; (try with_reducible rfl))
            simp only [Act.put, List.setIfInBounds_toArray, List.set_cons_zero, List.set_cons_succ]
            refine take_to 1 (some 20) (v := ?_) rfl rfl (by kernel_rfl) (by kernel_rfl) (by kernel_rfl) (fun _ _ _ h => h) (Or.inl ⟨by rfl, ?_⟩) (by first | trivial | assumption) ?_
            rotate_left
            focus (intro w hSw; (try dsimp only at hSw); go_simp; (try with_reducible rfl))
            simp only [Act.put, List.setIfInBounds_toArray, List.set_cons_zero, List.set_cons_succ]
            refine take_to 2 (some 21) (v := ?_) rfl rfl (by kernel_rfl) (by kernel_rfl) (by kernel_rfl) (fun _ _ _ h => h) (Or.inl ⟨by rfl, ?_⟩) (by first | trivial | assumption) ?_
            rotate_left
            focus (intro w hSw; (try dsimp only at hSw); go_simp; (try with_reducible rfl))
            simp only [Act.put, List.setIfInBounds_toArray, List.set_cons_zero, List.set_cons_succ]
            refine take_to 4 (some 23) (v := ?_) rfl rfl (by kernel_rfl) (by kernel_rfl) (by kernel_rfl) (fun _ _ _ h => h) (Or.inl ⟨by rfl, ?_⟩) (by first | trivial | assumption) ?_
            rotate_left
            focus (intro w hSw; (try dsimp only at hSw); go_simp; (try with_reducible rfl))
            simp only [Act.put, List.setIfInBounds_toArray, List.set_cons_zero, List.set_cons_succ]
            refine take_to 5 (some 24) (v := ?_) rfl rfl (by kernel_rfl) (by kernel_rfl) (by kernel_rfl) (fun _ _ _ h => h) (Or.inl ⟨by rfl, ?_⟩) (by first | trivial | assumption) ?_
            rotate_left
            focus (intro w hSw; (try dsimp only at hSw); go_simp; (try with_reducible rfl))
            simp only [Act.put, List.setIfInBounds_toArray, List.set_cons_zero, List.set_cons_succ]
            refine take_to 6 (some 25) (v := ?_) rfl rfl (by kernel_rfl) (by kernel_rfl) (by kernel_rfl) (fun _ _ _ h => h) (Or.inl ⟨by rfl, ?_⟩) (by first | trivial | assumption) ?_
            rotate_left
            focus (intro w hSw; (try dsimp only at hSw); go_simp; (try with_reducible rfl))
            simp only [Act.put, List.setIfInBounds_toArray, List.set_cons_zero, List.set_cons_succ]
            refine wpAnyH_ready (rs := [3]) (by kernel_rfl) (by simp) ?_
            refine AllReadyH.cons rfl (fun K hK => ?_) AllReadyH.nil
            go_simp
            refine (HWa.out _).mono ?_
            rintro e X1 ⟨E1, k1, rfl, s1, b1⟩
            have HT := Lib.hid (HT.out.step b1)
            have S1 := Lib.hid s1
            have m0 := (b1.cell (p := ⟨bk, off, none⟩) hbb').trans l0
            have m1 := (b1.cell (p := ⟨bk, off + 1, none⟩) hbb').trans l1
            have hb1 : bk < X1.heap.size := Nat.lt_of_lt_of_le hbb' b1.size
            clear s1 b1 l0 l1 hbb'
            go_simp
            refine hK.out _ _ ⟨m0, m1⟩ (fun hHeld => ?_)
            refine wpAnyH_ready (rs := [7]) (by kernel_rfl) (by simp) ?_
            refine AllReadyH.cons rfl (fun K hK => ?_) AllReadyH.nil
            go_simp
            refine (HWb.out _).mono ?_
            rintro e X2 ⟨E2, k2, rfl, s2, b2⟩
            have HT := Lib.hid (HT.out.step b2)
            have S1 := Lib.hid (S1.out.step b2)
            have S2 := Lib.hid s2
            have m0 := (b2.cell (p := ⟨bk, off, none⟩) hb1).trans m0
            have m1 := (b2.cell (p := ⟨bk, off + 1, none⟩) hb1).trans m1
            clear s2 b2 hb1
            go_simp
            refine hK.out _ _ ⟨m0, m1⟩ (fun hHeld => ?_)
            refine take_to 8 (some 5) (v := ?_) rfl rfl (by kernel_rfl) (by kernel_rfl) (by kernel_rfl) (fun _ _ _ h => h) (Or.inl ⟨by rfl, ?_⟩) (by first | trivial | assumption) ?_
            rotate_left
            focus (intro w hSw; (try dsimp only at hSw); go_simp; (try with_reducible rfl))
            simp only [Act.put, List.setIfInBounds_toArray, List.set_cons_zero, List.set_cons_succ]
            refine take_to 9 (some 6) (v := ?_) rfl rfl (by kernel_rfl) (by kernel_rfl) (by kernel_rfl) (fun _ _ _ h => h) (Or.inl ⟨by rfl, ?_⟩) (by first | trivial | assumption) ?_
            rotate_left
            focus (intro w hSw; (try dsimp only at hSw); go_simp; (try with_reducible rfl))
            simp only [Act.put, List.setIfInBounds_toArray, List.set_cons_zero, List.set_cons_succ]
            refine wpAnyH_done (by kernel_rfl) ?_ _
            clear m0 m1
            obtain ⟨g1, o1, hE1, hg1, hc1⟩ := sl_str S1.out (k := 0) (by simp)
            obtain ⟨g2, o2, hE2, hg2, hc2⟩ := sl_str S2.out (k := 0) (by simp)
            subst hE1 hE2
            have u0 : X2.cell? ⟨g1, o1, none⟩ = some (vS x) := hc1 0 (by simp)
            have v0 : X2.cell? ⟨g2, o2, none⟩ = some (vS x') := hc2 0 (by simp)
            clear hc1 hc2 hx hx' S1 S2
            have g0 := blk_cell HT.out.2 0 (by simp)
            have g1 := blk_cell HT.out.2 1 (by simp)
            have f0 := blk_free HT.out.2 0
            have f1 := blk_free HT.out.2 1
            go_wp2_with fail
            (try simp only [Exit.inBlock, Exit.then])
            refine bodyPost_ret (v := .tuple #[.agg #[.slice none 0 0, .slice none 0 0], .int .i64 2]) ?_ rfl ?_
            · rw [results_cell_tmp rfl]
              go_simp
            rw [← HN.out]
            exact TQ.none _ (bset (bset HT.out.1 (Nat.le_refl _)) (Nat.le_refl _))
        · rw [if_neg hx] at HBL
          have HN := Lib.hid (show (([], []), 2) = R by rw [← HBL.out, bld_no (.inl (by decide))])
          clear HBL
          have q1 : (x == ([110, 111, 100, 101, 115] : List UInt8)) = false := beq_eq_false_iff_ne.2 hx
          go_upto_region 1 with fail
          generalize w.alloc (.cells #[.slice none 0 0, .slice none 0 0] 75) = W0 at *
          go_wp2_with fail
          refine (HL.out _).mono ?_
          rintro e w1 ⟨A1, c1, rfl, s1, b1⟩
          have HT := Lib.hid (HT.out.step b1)
          obtain ⟨bk, off, rfl, hbb, hcell⟩ := sl_str s1 (k := 0) (by simp)
          have l0 : w1.drew.cell? ⟨bk, off, none⟩ = some (vS a) := hcell 0 (by simp)
          have l1 : w1.drew.cell? ⟨bk, off + 1, none⟩ = some (vS b) := hcell 1 (by simp)
          have hbb' : bk < w1.drew.heap.size := hbb
          have HT : Hid (Two w w1.drew (.slice none 0 0) (.slice none 0 0)) := Lib.hid ⟨Below.drew HT.out.1, HT.out.2⟩
          clear b1 s1 hcell hbb
          go_upto_region 4 with fail
          refine wp_region_held_drew (S := fun V => V.cell? ⟨bk, off, none⟩ = some (vS a) ∧ V.cell? ⟨bk, off + 1, none⟩ = some (vS b)) (by kernel_rfl) ⟨l0, l1⟩ (fun hHeld => ?_)
          generalize w1.drew = X0 at *
          refine take_to 0 (some 19) (v := ?_) rfl rfl (by kernel_rfl) (by kernel_rfl) (by kernel_rfl) (fun _ _ _ h => h) (Or.inl ⟨by rfl, ?_⟩) (by first | trivial | assumption) ?_
          rotate_left
          focus (intro w hSw; (try dsimp only at hSw); go_simp; (try with_reducible rfl))
          simp only [Act.put, List.setIfInBounds_toArray, List.set_cons_zero, List.set_cons_succ]
          refine take_to 1 (some 20) (v := ?_) rfl rfl (by kernel_rfl) (by kernel_rfl) (by kernel_rfl) (fun _ _ _ h => h) (Or.inl ⟨by rfl, ?_⟩) (by first | trivial | assumption) ?_
          rotate_left
          focus (intro w hSw; (try dsimp only at hSw); go_simp; (try with_reducible rfl))
          simp only [Act.put, List.setIfInBounds_toArray, List.set_cons_zero, List.set_cons_succ]
          refine take_to 2 (some 21) (v := ?_) rfl rfl (by kernel_rfl) (by kernel_rfl) (by kernel_rfl) (fun _ _ _ h => h) (Or.inl ⟨by rfl, ?_⟩) (by first | trivial | assumption) ?_
          rotate_left
          focus (intro w hSw; (try dsimp only at hSw); go_simp; (try with_reducible rfl))
          simp only [Act.put, List.setIfInBounds_toArray, List.set_cons_zero, List.set_cons_succ]
          refine take_to 4 (some 23) (v := ?_) rfl rfl (by kernel_rfl) (by kernel_rfl) (by kernel_rfl) (fun _ _ _ h => h) (Or.inl ⟨by rfl, ?_⟩) (by first | trivial | assumption) ?_
          rotate_left
          focus (intro w hSw; (try dsimp only at hSw); go_simp; (try with_reducible rfl))
          simp only [Act.put, List.setIfInBounds_toArray, List.set_cons_zero, List.set_cons_succ]
          refine take_to 5 (some 24) (v := ?_) rfl rfl (by kernel_rfl) (by kernel_rfl) (by kernel_rfl) (fun _ _ _ h => h) (Or.inl ⟨by rfl, ?_⟩) (by first | trivial | assumption) ?_
          rotate_left
          focus (intro w hSw; (try dsimp only at hSw); go_simp; (try with_reducible rfl))
          simp only [Act.put, List.setIfInBounds_toArray, List.set_cons_zero, List.set_cons_succ]
          refine take_to 6 (some 25) (v := ?_) rfl rfl (by kernel_rfl) (by kernel_rfl) (by kernel_rfl) (fun _ _ _ h => h) (Or.inl ⟨by rfl, ?_⟩) (by first | trivial | assumption) ?_
          rotate_left
          focus (intro w hSw; (try dsimp only at hSw); go_simp; (try with_reducible rfl))
          simp only [Act.put, List.setIfInBounds_toArray, List.set_cons_zero, List.set_cons_succ]
          refine wpAnyH_ready (rs := [3]) (by kernel_rfl) (by simp) ?_
          refine AllReadyH.cons rfl (fun K hK => ?_) AllReadyH.nil
          go_simp
          refine (HWa.out _).mono ?_
          rintro e X1 ⟨E1, k1, rfl, s1, b1⟩
          have HT := Lib.hid (HT.out.step b1)
          have S1 := Lib.hid s1
          have m0 := (b1.cell (p := ⟨bk, off, none⟩) hbb').trans l0
          have m1 := (b1.cell (p := ⟨bk, off + 1, none⟩) hbb').trans l1
          have hb1 : bk < X1.heap.size := Nat.lt_of_lt_of_le hbb' b1.size
          clear s1 b1 l0 l1 hbb'
          go_simp
          refine hK.out _ _ ⟨m0, m1⟩ (fun hHeld => ?_)
          refine wpAnyH_ready (rs := [7]) (by kernel_rfl) (by simp) ?_
          refine AllReadyH.cons rfl (fun K hK => ?_) AllReadyH.nil
          go_simp
          refine (HWb.out _).mono ?_
          rintro e X2 ⟨E2, k2, rfl, s2, b2⟩
          have HT := Lib.hid (HT.out.step b2)
          have S1 := Lib.hid (S1.out.step b2)
          have S2 := Lib.hid s2
          have m0 := (b2.cell (p := ⟨bk, off, none⟩) hb1).trans m0
          have m1 := (b2.cell (p := ⟨bk, off + 1, none⟩) hb1).trans m1
          clear s2 b2 hb1
          go_simp
          refine hK.out _ _ ⟨m0, m1⟩ (fun hHeld => ?_)
          refine take_to 8 (some 5) (v := ?_) rfl rfl (by kernel_rfl) (by kernel_rfl) (by kernel_rfl) (fun _ _ _ h => h) (Or.inl ⟨by rfl, ?_⟩) (by first | trivial | assumption) ?_
          rotate_left
          focus (intro w hSw; (try dsimp only at hSw); go_simp; (try with_reducible rfl))
          simp only [Act.put, List.setIfInBounds_toArray, List.set_cons_zero, List.set_cons_succ]
          refine take_to 9 (some 6) (v := ?_) rfl rfl (by kernel_rfl) (by kernel_rfl) (by kernel_rfl) (fun _ _ _ h => h) (Or.inl ⟨by rfl, ?_⟩) (by first | trivial | assumption) ?_
          rotate_left
          focus (intro w hSw; (try dsimp only at hSw); go_simp; (try with_reducible rfl))
          simp only [Act.put, List.setIfInBounds_toArray, List.set_cons_zero, List.set_cons_succ]
          refine wpAnyH_done (by kernel_rfl) ?_ _
          clear m0 m1
          obtain ⟨g1, o1, hE1, hg1, hc1⟩ := sl_str S1.out (k := 0) (by simp)
          subst hE1
          have u0 : X2.cell? ⟨g1, o1, none⟩ = some (vS x) := hc1 0 (by simp)
          clear hc1 hx S1 S2
          have g0 := blk_cell HT.out.2 0 (by simp)
          have g1 := blk_cell HT.out.2 1 (by simp)
          have f0 := blk_free HT.out.2 0
          have f1 := blk_free HT.out.2 1
          go_wp2_with fail
          (try simp only [Exit.inBlock, Exit.then])
          refine bodyPost_ret (v := .tuple #[.agg #[.slice none 0 0, .slice none 0 0], .int .i64 2]) ?_ rfl ?_
          · rw [results_cell_tmp rfl]
            go_simp
          rw [← HN.out]
          exact TQ.none _ (bset (bset HT.out.1 (Nat.le_refl _)) (Nat.le_refl _))
      · rw [nmb_no (W := THREADS) hb] at HBL
        have HN := Lib.hid (show (([], []), 2) = R by rw [← HBL.out, bld_no (.inr (by decide))])
        clear HBL
        have q1 : (((words a).length : Int) != 2) = false := ibne_no (by omega)
        have q2 : (((words b).length : Int) != 2) = true := ibne (by omega)
        clear ha hb
        generalize words a = wa at *
        generalize words b = wb at *
        go_upto_region 1 with fail
        generalize w.alloc (.cells #[.slice none 0 0, .slice none 0 0] 75) = W0 at *
        go_wp2_with fail
        refine (HL.out _).mono ?_
        rintro e w1 ⟨A1, c1, rfl, s1, b1⟩
        have HT := Lib.hid (HT.out.step b1)
        obtain ⟨bk, off, rfl, hbb, hcell⟩ := sl_str s1 (k := 0) (by simp)
        have l0 : w1.drew.cell? ⟨bk, off, none⟩ = some (vS a) := hcell 0 (by simp)
        have l1 : w1.drew.cell? ⟨bk, off + 1, none⟩ = some (vS b) := hcell 1 (by simp)
        have hbb' : bk < w1.drew.heap.size := hbb
        have HT : Hid (Two w w1.drew (.slice none 0 0) (.slice none 0 0)) := Lib.hid ⟨Below.drew HT.out.1, HT.out.2⟩
        clear b1 s1 hcell hbb
        go_upto_region 4 with fail
        refine wp_region_held_drew (S := fun V => V.cell? ⟨bk, off, none⟩ = some (vS a) ∧ V.cell? ⟨bk, off + 1, none⟩ = some (vS b)) (by kernel_rfl) ⟨l0, l1⟩ (fun hHeld => ?_)
        generalize w1.drew = X0 at *
        refine take_to 0 (some 19) (v := ?_) rfl rfl (by kernel_rfl) (by kernel_rfl) (by kernel_rfl) (fun _ _ _ h => h) (Or.inl ⟨by rfl, ?_⟩) (by first | trivial | assumption) ?_
        rotate_left
        focus (intro w hSw; (try dsimp only at hSw); go_simp; (try with_reducible rfl))
        simp only [Act.put, List.setIfInBounds_toArray, List.set_cons_zero, List.set_cons_succ]
        refine take_to 1 (some 20) (v := ?_) rfl rfl (by kernel_rfl) (by kernel_rfl) (by kernel_rfl) (fun _ _ _ h => h) (Or.inl ⟨by rfl, ?_⟩) (by first | trivial | assumption) ?_
        rotate_left
        focus (intro w hSw; (try dsimp only at hSw); go_simp; (try with_reducible rfl))
        simp only [Act.put, List.setIfInBounds_toArray, List.set_cons_zero, List.set_cons_succ]
        refine take_to 2 (some 21) (v := ?_) rfl rfl (by kernel_rfl) (by kernel_rfl) (by kernel_rfl) (fun _ _ _ h => h) (Or.inl ⟨by rfl, ?_⟩) (by first | trivial | assumption) ?_
        rotate_left
        focus (intro w hSw; (try dsimp only at hSw); go_simp; (try with_reducible rfl))
        simp only [Act.put, List.setIfInBounds_toArray, List.set_cons_zero, List.set_cons_succ]
        refine take_to 4 (some 23) (v := ?_) rfl rfl (by kernel_rfl) (by kernel_rfl) (by kernel_rfl) (fun _ _ _ h => h) (Or.inl ⟨by rfl, ?_⟩) (by first | trivial | assumption) ?_
        rotate_left
        focus (intro w hSw; (try dsimp only at hSw); go_simp; (try with_reducible rfl))
        simp only [Act.put, List.setIfInBounds_toArray, List.set_cons_zero, List.set_cons_succ]
        refine take_to 5 (some 24) (v := ?_) rfl rfl (by kernel_rfl) (by kernel_rfl) (by kernel_rfl) (fun _ _ _ h => h) (Or.inl ⟨by rfl, ?_⟩) (by first | trivial | assumption) ?_
        rotate_left
        focus (intro w hSw; (try dsimp only at hSw); go_simp; (try with_reducible rfl))
        simp only [Act.put, List.setIfInBounds_toArray, List.set_cons_zero, List.set_cons_succ]
        refine take_to 6 (some 25) (v := ?_) rfl rfl (by kernel_rfl) (by kernel_rfl) (by kernel_rfl) (fun _ _ _ h => h) (Or.inl ⟨by rfl, ?_⟩) (by first | trivial | assumption) ?_
        rotate_left
        focus (intro w hSw; (try dsimp only at hSw); go_simp; (try with_reducible rfl))
        simp only [Act.put, List.setIfInBounds_toArray, List.set_cons_zero, List.set_cons_succ]
        refine wpAnyH_ready (rs := [3]) (by kernel_rfl) (by simp) ?_
        refine AllReadyH.cons rfl (fun K hK => ?_) AllReadyH.nil
        go_simp
        refine (HWa.out _).mono ?_
        rintro e X1 ⟨E1, k1, rfl, s1, b1⟩
        have HT := Lib.hid (HT.out.step b1)
        have S1 := Lib.hid s1
        have m0 := (b1.cell (p := ⟨bk, off, none⟩) hbb').trans l0
        have m1 := (b1.cell (p := ⟨bk, off + 1, none⟩) hbb').trans l1
        have hb1 : bk < X1.heap.size := Nat.lt_of_lt_of_le hbb' b1.size
        clear s1 b1 l0 l1 hbb'
        go_simp
        refine hK.out _ _ ⟨m0, m1⟩ (fun hHeld => ?_)
        refine wpAnyH_ready (rs := [7]) (by kernel_rfl) (by simp) ?_
        refine AllReadyH.cons rfl (fun K hK => ?_) AllReadyH.nil
        go_simp
        refine (HWb.out _).mono ?_
        rintro e X2 ⟨E2, k2, rfl, s2, b2⟩
        have HT := Lib.hid (HT.out.step b2)
        have S1 := Lib.hid (S1.out.step b2)
        have S2 := Lib.hid s2
        have m0 := (b2.cell (p := ⟨bk, off, none⟩) hb1).trans m0
        have m1 := (b2.cell (p := ⟨bk, off + 1, none⟩) hb1).trans m1
        clear s2 b2 hb1
        go_simp
        refine hK.out _ _ ⟨m0, m1⟩ (fun hHeld => ?_)
        refine take_to 8 (some 5) (v := ?_) rfl rfl (by kernel_rfl) (by kernel_rfl) (by kernel_rfl) (fun _ _ _ h => h) (Or.inl ⟨by rfl, ?_⟩) (by first | trivial | assumption) ?_
        rotate_left
        focus (intro w hSw; (try dsimp only at hSw); go_simp; (try with_reducible rfl))
        simp only [Act.put, List.setIfInBounds_toArray, List.set_cons_zero, List.set_cons_succ]
        refine take_to 9 (some 6) (v := ?_) rfl rfl (by kernel_rfl) (by kernel_rfl) (by kernel_rfl) (fun _ _ _ h => h) (Or.inl ⟨by rfl, ?_⟩) (by first | trivial | assumption) ?_
        rotate_left
        focus (intro w hSw; (try dsimp only at hSw); go_simp; (try with_reducible rfl))
        simp only [Act.put, List.setIfInBounds_toArray, List.set_cons_zero, List.set_cons_succ]
        refine wpAnyH_done (by kernel_rfl) ?_ _
        clear m0 m1
        clear S1 S2
        have g0 := blk_cell HT.out.2 0 (by simp)
        have g1 := blk_cell HT.out.2 1 (by simp)
        have f0 := blk_free HT.out.2 0
        have f1 := blk_free HT.out.2 1
        go_wp2_with fail
        (try simp only [Exit.inBlock, Exit.then])
        refine bodyPost_ret (v := .tuple #[.agg #[.slice none 0 0, .slice none 0 0], .int .i64 2]) ?_ rfl ?_
        · rw [results_cell_tmp rfl]
          go_simp
        rw [← HN.out]
        exact TQ.none _ (bset (bset HT.out.1 (Nat.le_refl _)) (Nat.le_refl _))
    · rw [nmb_no (W := NODES) ha] at HBL
      have HN := Lib.hid (show (([], []), 2) = R by rw [← HBL.out, bld_no (.inl (by decide))])
      clear HBL
      have q1 : (((words a).length : Int) != 2) = true := ibne (by omega)
      clear ha
      generalize words a = wa at *
      go_upto_region 1 with fail
      generalize w.alloc (.cells #[.slice none 0 0, .slice none 0 0] 75) = W0 at *
      go_wp2_with fail
      refine (HL.out _).mono ?_
      rintro e w1 ⟨A1, c1, rfl, s1, b1⟩
      have HT := Lib.hid (HT.out.step b1)
      obtain ⟨bk, off, rfl, hbb, hcell⟩ := sl_str s1 (k := 0) (by simp)
      have l0 : w1.drew.cell? ⟨bk, off, none⟩ = some (vS a) := hcell 0 (by simp)
      have l1 : w1.drew.cell? ⟨bk, off + 1, none⟩ = some (vS b) := hcell 1 (by simp)
      have hbb' : bk < w1.drew.heap.size := hbb
      have HT : Hid (Two w w1.drew (.slice none 0 0) (.slice none 0 0)) := Lib.hid ⟨Below.drew HT.out.1, HT.out.2⟩
      clear b1 s1 hcell hbb
      go_upto_region 4 with fail
      refine wp_region_held_drew (S := fun V => V.cell? ⟨bk, off, none⟩ = some (vS a) ∧ V.cell? ⟨bk, off + 1, none⟩ = some (vS b)) (by kernel_rfl) ⟨l0, l1⟩ (fun hHeld => ?_)
      generalize w1.drew = X0 at *
      refine take_to 0 (some 19) (v := ?_) rfl rfl (by kernel_rfl) (by kernel_rfl) (by kernel_rfl) (fun _ _ _ h => h) (Or.inl ⟨by rfl, ?_⟩) (by first | trivial | assumption) ?_
      rotate_left
      focus (intro w hSw; (try dsimp only at hSw); go_simp; (try with_reducible rfl))
      simp only [Act.put, List.setIfInBounds_toArray, List.set_cons_zero, List.set_cons_succ]
      refine take_to 1 (some 20) (v := ?_) rfl rfl (by kernel_rfl) (by kernel_rfl) (by kernel_rfl) (fun _ _ _ h => h) (Or.inl ⟨by rfl, ?_⟩) (by first | trivial | assumption) ?_
      rotate_left
      focus (intro w hSw; (try dsimp only at hSw); go_simp; (try with_reducible rfl))
      simp only [Act.put, List.setIfInBounds_toArray, List.set_cons_zero, List.set_cons_succ]
      refine take_to 2 (some 21) (v := ?_) rfl rfl (by kernel_rfl) (by kernel_rfl) (by kernel_rfl) (fun _ _ _ h => h) (Or.inl ⟨by rfl, ?_⟩) (by first | trivial | assumption) ?_
      rotate_left
      focus (intro w hSw; (try dsimp only at hSw); go_simp; (try with_reducible rfl))
      simp only [Act.put, List.setIfInBounds_toArray, List.set_cons_zero, List.set_cons_succ]
      refine take_to 4 (some 23) (v := ?_) rfl rfl (by kernel_rfl) (by kernel_rfl) (by kernel_rfl) (fun _ _ _ h => h) (Or.inl ⟨by rfl, ?_⟩) (by first | trivial | assumption) ?_
      rotate_left
      focus (intro w hSw; (try dsimp only at hSw); go_simp; (try with_reducible rfl))
      simp only [Act.put, List.setIfInBounds_toArray, List.set_cons_zero, List.set_cons_succ]
      refine take_to 5 (some 24) (v := ?_) rfl rfl (by kernel_rfl) (by kernel_rfl) (by kernel_rfl) (fun _ _ _ h => h) (Or.inl ⟨by rfl, ?_⟩) (by first | trivial | assumption) ?_
      rotate_left
      focus (intro w hSw; (try dsimp only at hSw); go_simp; (try with_reducible rfl))
      simp only [Act.put, List.setIfInBounds_toArray, List.set_cons_zero, List.set_cons_succ]
      refine take_to 6 (some 25) (v := ?_) rfl rfl (by kernel_rfl) (by kernel_rfl) (by kernel_rfl) (fun _ _ _ h => h) (Or.inl ⟨by rfl, ?_⟩) (by first | trivial | assumption) ?_
      rotate_left
      focus (intro w hSw; (try dsimp only at hSw); go_simp; (try with_reducible rfl))
      simp only [Act.put, List.setIfInBounds_toArray, List.set_cons_zero, List.set_cons_succ]
      refine wpAnyH_ready (rs := [3]) (by kernel_rfl) (by simp) ?_
      refine AllReadyH.cons rfl (fun K hK => ?_) AllReadyH.nil
      go_simp
      refine (HWa.out _).mono ?_
      rintro e X1 ⟨E1, k1, rfl, s1, b1⟩
      have HT := Lib.hid (HT.out.step b1)
      have S1 := Lib.hid s1
      have m0 := (b1.cell (p := ⟨bk, off, none⟩) hbb').trans l0
      have m1 := (b1.cell (p := ⟨bk, off + 1, none⟩) hbb').trans l1
      have hb1 : bk < X1.heap.size := Nat.lt_of_lt_of_le hbb' b1.size
      clear s1 b1 l0 l1 hbb'
      go_simp
      refine hK.out _ _ ⟨m0, m1⟩ (fun hHeld => ?_)
      refine wpAnyH_ready (rs := [7]) (by kernel_rfl) (by simp) ?_
      refine AllReadyH.cons rfl (fun K hK => ?_) AllReadyH.nil
      go_simp
      refine (HWb.out _).mono ?_
      rintro e X2 ⟨E2, k2, rfl, s2, b2⟩
      have HT := Lib.hid (HT.out.step b2)
      have S1 := Lib.hid (S1.out.step b2)
      have S2 := Lib.hid s2
      have m0 := (b2.cell (p := ⟨bk, off, none⟩) hb1).trans m0
      have m1 := (b2.cell (p := ⟨bk, off + 1, none⟩) hb1).trans m1
      clear s2 b2 hb1
      go_simp
      refine hK.out _ _ ⟨m0, m1⟩ (fun hHeld => ?_)
      refine take_to 8 (some 5) (v := ?_) rfl rfl (by kernel_rfl) (by kernel_rfl) (by kernel_rfl) (fun _ _ _ h => h) (Or.inl ⟨by rfl, ?_⟩) (by first | trivial | assumption) ?_
      rotate_left
      focus (intro w hSw; (try dsimp only at hSw); go_simp; (try with_reducible rfl))
      simp only [Act.put, List.setIfInBounds_toArray, List.set_cons_zero, List.set_cons_succ]
      refine take_to 9 (some 6) (v := ?_) rfl rfl (by kernel_rfl) (by kernel_rfl) (by kernel_rfl) (fun _ _ _ h => h) (Or.inl ⟨by rfl, ?_⟩) (by first | trivial | assumption) ?_
      rotate_left
      focus (intro w hSw; (try dsimp only at hSw); go_simp; (try with_reducible rfl))
      simp only [Act.put, List.setIfInBounds_toArray, List.set_cons_zero, List.set_cons_succ]
      refine wpAnyH_done (by kernel_rfl) ?_ _
      clear m0 m1
      clear S1 S2
      have g0 := blk_cell HT.out.2 0 (by simp)
      have g1 := blk_cell HT.out.2 1 (by simp)
      have f0 := blk_free HT.out.2 0
      have f1 := blk_free HT.out.2 1
      go_wp2_with fail
      (try simp only [Exit.inBlock, Exit.then])
      refine bodyPost_ret (v := .tuple #[.agg #[.slice none 0 0, .slice none 0 0], .int .i64 2]) ?_ rfl ?_
      · rw [results_cell_tmp rfl]
        go_simp
      rw [← HN.out]
      exact TQ.none _ (bset (bset HT.out.1 (Nat.le_refl _)) (Nat.le_refl _))
  · have HN := Lib.hid (show (([], []), 2) = R by rw [← hR, psT_no h2])
    have q : (((lines s).length : Int) != 2) = true := ibne (by omega)
    clear hR h2
    generalize lines s = ls at *
    go_upto_region 1 with fail
    generalize w.alloc (.cells #[.slice none 0 0, .slice none 0 0] 75) = W0 at *
    go_wp2_with fail
    refine (HL.out _).mono ?_
    rintro e w1 ⟨A1, c1, rfl, s1, b1⟩
    have HT := Lib.hid (HT.out.step b1)
    clear b1 s1
    have g0 := blk_cell HT.out.2 0 (by simp)
    have g1 := blk_cell HT.out.2 1 (by simp)
    have f0 := blk_free HT.out.2 0
    have f1 := blk_free HT.out.2 1
    go_wp2_with fail
    (try simp only [Exit.inBlock, Exit.then])
    refine bodyPost_ret (v := .tuple #[.agg #[.slice none 0 0, .slice none 0 0], .int .i64 2]) ?_ rfl ?_
    · rw [results_cell_tmp rfl]
      go_simp
    rw [← HN.out]
    exact TQ.none _ (bset (bset HT.out.1 (Nat.le_refl _)) (Nat.le_refl _))
end Go.Proofs.YtcfdphfochfeoaaDoor.Tp
