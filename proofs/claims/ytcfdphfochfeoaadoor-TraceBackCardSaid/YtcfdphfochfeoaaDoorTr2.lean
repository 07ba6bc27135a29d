/- Walks of events: an event's word; the texts. -/
import Derived.Test.YtcfdphfochfeoaaDoorTr1
namespace Go.Proofs.YtcfdphfochfeoaaDoor.Tr
open Go.RowKit Go.Proofs.YtcfdphfochfeoaaDoor.Li Go.Proofs.YtcfdphfochfeoaaDoor.De Go.Proofs.YtcfdphfochfeoaaDoor.Ara
open Go.Proofs.YtcfdphfochfeoaaDoor.Pi (iter_pos iter_below add_any size_app joins_any wp_append1 append1_at own_at cell_of_blk allW_len words_wlen lines_llen flat_drop append_rows js js_snoc)

theorem let_ext : ∀ m : Nat, m < 6 → ((⟨#[110, 97, 101, 120, 114, 98]⟩ : ByteArray)).extract m (m + 1) = B [lets.getD m 0] := by
  intro m h
  apply L_inj
  rw [ext_L, L_B]
  revert m
  decide
theorem let_slice (m : Nat) (hm : m < 6) (W : World) : (Instr.sliceAt 9 (.string (⟨#[110, 97, 101, 120, 114, 98]⟩ : ByteArray)) (some (.int .i64 (m : Int))) (some (.int .i64 ((m : Int) + 1))) none).run Tryd.prog W = .ok (.string (((⟨#[110, 97, 101, 120, 114, 98]⟩ : ByteArray)).extract m (m + 1))) W := by
  rw [run_sliceAt_string W _ _ _ _ _ Tryd.underlying9]
  have h1 : ((m : Int) + 1).toNat = m + 1 := by omega
  have hsz : ((⟨#[110, 97, 101, 120, 114, 98]⟩ : ByteArray)).size = 6 := rfl
  have b1 := fun code => run_sliceBound (P := Tryd.prog) W .i64 ((m : Int) + 1) 6 code (by omega) (by omega)
  have b2 := fun code => run_sliceBound (P := Tryd.prog) W .i64 (m : Int) (m + 1) code (by omega) (by omega)
  rw [h1] at b1
  rw [Int.toNat_natCast] at b2
  simp [Instr.slice, run_underlying Tryd.underlying9, Instr.sliceBounds, hsz, b1, b2]
theorem app39 (x : List UInt8) : B x ++ (⟨#[39]⟩ : ByteArray) = B (x ++ [39]) := app_B x [39]
theorem app47 (x : List UInt8) : (⟨#[47]⟩ : ByteArray) ++ B x = B (47 :: x) := app_B [47] x
set_option maxRecDepth 100000 in
set_option maxHeartbeats 4000000 in
theorem word_any (x : Ev) (hx : okE x) (hg : goodE x = true) (w : World) : Calls Tryd.prog 92 #[.agg #[.int .i64 x.kind, .int .i64 x.th, .bool x.rd, .int .i64 x.ct]] w fun e w' => e = .returned (vS (wordE x)) ∧ Below w.heap.size w w' := by
  obtain ⟨g1, g2⟩ := (good_iff x).1 hg
  obtain ⟨m, hm0⟩ := Int.eq_ofNat_of_zero_le g1
  have HT := Lib.hid (fun W => De.text_any x.th hx.2.1 W)
  have HC := Lib.hid (fun W => De.text_any x.ct hx.2.2 W)
  have hX := txt_len hx.2.1
  have hY := txt_len hx.2.2
  have HWD := Lib.hid (show wordE x = (lets.getD m 0 :: txt x.th) ++ tailE x by unfold wordE; rw [hm0]; rfl)
  have HTL := Lib.hid (show tailE x = (if x.rd then [39] else []) ++ (if x.ct = 0 then [] else 47 :: txt x.ct) from rfl)
  have hwm := IntWalk.i64_in ((m : Int) + 1) (by omega)
  have sls := fun W => let_slice m (by omega) W
  have i4 : (0 : Int) ≤ (m : Int) := by omega
  have i7 : (m : Int) ≤ 5 := by omega
  have i8 : (m : Int) + 1 ≤ 6 := by omega
  have HX := Lib.hid (show ((⟨#[110, 97, 101, 120, 114, 98]⟩ : ByteArray)).extract m (m + 1) ++ B (txt x.th) = B (lets.getD m 0 :: txt x.th) by rw [let_ext m (by omega), app_B]; rfl)
  rw [hm0]
  clear hm0 g1 g2 hx hg
  obtain ⟨xk, xt, xr, xc⟩ := x
  simp only at *
  generalize wordE ⟨xk, xt, xr, xc⟩ = WD at *
  generalize txt xt = t at *
  generalize txt xc = tc at *
  have hnb : ¬ 9223372036854775807 < (min (m + 1) 6 - m) + t.length := by omega
  obtain ⟨g, hg⟩ : ∃ g, w.heap.size = g := ⟨_, rfl⟩
  rw [hg]
  go_enter Tryd.func92, Tryd.ntmps92
  go_wp2_with fail
  have hblk : (w.alloc (.cells #[.int .i64 (m : Int), .int .i64 xt, .bool xr, .int .i64 xc] 105)).heap[w.heap.size]? = some (.cells #[.int .i64 (m : Int), .int .i64 xt, .bool xr, .int .i64 xc] 105 (0, 0)) := blk_new w _
  have c0 := blk_cell hblk 0 (by simp)
  have c1 := blk_cell hblk 1 (by simp)
  simp only [List.getElem_toArray, List.getElem_cons_zero, List.getElem_cons_succ] at c0 c1
  have HBLK := Lib.hid hblk
  have hb1 := Lib.hid (below_new w (.cells #[.int .i64 (m : Int), .int .i64 xt, .bool xr, .int .i64 xc] 105))
  have hgs : (w.alloc (.cells #[.int .i64 (m : Int), .int .i64 xt, .bool xr, .int .i64 xc] 105)).heap.size = w.heap.size + 1 := by simp
  clear hblk
  generalize (w.alloc (.cells #[.int .i64 (m : Int), .int .i64 xt, .bool xr, .int .i64 xc] 105)) = W1 at *
  simp only [hg] at c0 c1 HBLK hb1 hgs ⊢
  refine wp_region_held_drew (S := fun V => V.cell? ⟨g, 0, none⟩ = some (.int .i64 (m : Int)) ∧ V.cell? ⟨g, 1, none⟩ = some (.int .i64 xt)) (by kernel_rfl) ⟨c0, c1⟩ (fun hHeld => ?_)
  refine take_to 0 (some 4) (v := ?_) rfl rfl (by kernel_rfl) (by kernel_rfl) (by kernel_rfl) (fun _ _ _ h => h) (Or.inl ⟨by rfl, ?_⟩) (by first | trivial | assumption) ?_
  rotate_left
  focus (intro w hSw; (try dsimp only at hSw); go_simp; (try with_reducible rfl))
  simp only [Act.put, List.setIfInBounds_toArray, List.set_cons_zero, List.set_cons_succ]
  refine take_to 1 (some 5) (v := ?_) rfl rfl (by kernel_rfl) (by kernel_rfl) (by kernel_rfl) (fun _ _ _ h => h) (Or.inl ⟨by rfl, ?_⟩) (by first | trivial | assumption) ?_
  rotate_left
  focus (intro w hSw; (try dsimp only at hSw); go_simp; (try with_reducible rfl))
  simp only [Act.put, List.setIfInBounds_toArray, List.set_cons_zero, List.set_cons_succ]
  refine take_to 2 (some 6) (v := ?_) rfl rfl (by kernel_rfl) (by kernel_rfl) (by kernel_rfl) (fun _ _ _ h => h) (Or.inl ⟨by rfl, ?_⟩) (by first | trivial | assumption) ?_
  rotate_left
  focus (intro w hSw; (try dsimp only at hSw); go_simp; (try with_reducible rfl))
  simp only [Act.put, List.setIfInBounds_toArray, List.set_cons_zero, List.set_cons_succ]
  refine take_to 3 (some 7) (v := ?_) rfl rfl (by kernel_rfl) (by kernel_rfl) (by kernel_rfl) (fun _ _ _ h => h) (Or.inl ⟨by rfl, ?_⟩) (by first | trivial | assumption) ?_
  rotate_left
  focus (intro w hSw; (try dsimp only at hSw); go_simp; (try with_reducible rfl))
  simp only [Act.put, List.setIfInBounds_toArray, List.set_cons_zero, List.set_cons_succ]
  refine take_to 4 (some 8) (v := ?_) rfl rfl (by kernel_rfl) (by kernel_rfl) (by kernel_rfl) (fun _ _ _ h => h) (Or.inl ⟨by rfl, ?_⟩) (by first | trivial | assumption) ?_
  rotate_left
  focus (intro w hSw; (try dsimp only at hSw); go_simp; (try with_reducible rfl))
  simp only [Act.put, List.setIfInBounds_toArray, List.set_cons_zero, List.set_cons_succ]
  refine take_to 5 (some 9) (v := ?_) rfl rfl (by kernel_rfl) (by kernel_rfl) (by kernel_rfl) (fun _ _ _ h => h) (Or.inl ⟨by rfl, ?_⟩) (by first | trivial | assumption) ?_
  rotate_left
  focus (intro w hSw; (try dsimp only at hSw); go_simp; (try with_reducible rfl))
  simp only [Act.put, List.setIfInBounds_toArray, List.set_cons_zero, List.set_cons_succ]
  refine take_to 6 (some 10) (v := ?_) rfl rfl (by kernel_rfl) (by kernel_rfl) (by kernel_rfl) (fun _ _ _ h => h) (Or.inl ⟨by rfl, ?_⟩) (by first | trivial | assumption) ?_
  rotate_left
  focus (intro w hSw; (try dsimp only at hSw); go_simp; (try with_reducible rfl))
  simp only [Act.put, List.setIfInBounds_toArray, List.set_cons_zero, List.set_cons_succ]
  refine take_to 7 (some 11) (v := ?_) rfl rfl (by kernel_rfl) (by kernel_rfl) (by kernel_rfl) (fun _ _ _ h => h) (Or.inl ⟨by rfl, ?_⟩) (by first | trivial | assumption) ?_
  rotate_left
  focus (intro w hSw; (try dsimp only at hSw); go_simp; (try with_reducible rfl))
  simp only [Act.put, List.setIfInBounds_toArray, List.set_cons_zero, List.set_cons_succ]
  refine wpAnyH_ready (rs := [8]) (by kernel_rfl) (by simp) ?_
  refine AllReadyH.cons rfl (fun K hK => ?_) AllReadyH.nil
  go_simp
  refine (HT.out _).mono ?_
  rintro e w2 ⟨rfl, b2⟩
  have hblk2 : w2.heap[g]? = some (.cells #[.int .i64 (m : Int), .int .i64 xt, .bool xr, .int .i64 xc] 105 (0, 0)) := (b2.block g (by show g < W1.heap.size; omega)).trans HBLK.out
  have d0 := blk_cell hblk2 0 (by simp)
  have d1 := blk_cell hblk2 1 (by simp)
  have d2 := blk_cell hblk2 2 (by simp)
  have d3 := blk_cell hblk2 3 (by simp)
  simp only [List.getElem_toArray, List.getElem_cons_zero, List.getElem_cons_succ] at d0 d1 d2 d3
  have hB2 := hb1.out.trans ((show Below W1.heap.size W1 w2 from (below_drewN (Below.refl _ _) 1).trans b2).mono (by omega))
  have HB2 := Lib.hid hB2
  have hg2 : g < w2.heap.size := by have := b2.size; change W1.heap.size ≤ _ at this; omega
  have HBLK2 := Lib.hid hblk2
  clear b2 hblk2 hB2
  go_simp
  refine hK.out _ _ ⟨d0, d1⟩ (fun hHeld => ?_)
  refine take_to 9 (some 13) (v := ?_) rfl rfl (by kernel_rfl) (by kernel_rfl) (by kernel_rfl) (fun _ _ _ h => h) (Or.inl ⟨by rfl, ?_⟩) (by first | trivial | assumption) ?_
  rotate_left
  focus (intro w hSw; (try dsimp only at hSw); go_simp; (try with_reducible rfl))
  simp only [Act.put, List.setIfInBounds_toArray, List.set_cons_zero, List.set_cons_succ]
  refine take_to 10 (some 3) (v := ?_) rfl rfl (by kernel_rfl) (by kernel_rfl) (by kernel_rfl) (fun _ _ _ h => h) (Or.inl ⟨by rfl, ?_⟩) (by first | trivial | assumption) ?_
  rotate_left
  focus (intro w hSw; (try dsimp only at hSw); go_simp; (try with_reducible rfl))
  simp only [Act.put, List.setIfInBounds_toArray, List.set_cons_zero, List.set_cons_succ]
  refine wpAnyH_done (by kernel_rfl) ?_ _
  rw [HX.out]
  have h1 : (lets.getD m 0 :: t).length = t.length + 1 := rfl
  generalize lets.getD m 0 :: t = P0 at *
  have l1 : P0.length ≤ 21 := by omega
  have n1 : ¬ 9223372036854775807 < P0.length + 1 := by omega
  have n2 : ¬ 9223372036854775807 < tc.length + 1 := by omega
  have n3 : ¬ 9223372036854775807 < P0.length + (tc.length + 1) := by omega
  have n4 : ¬ 9223372036854775807 < P0.length + 1 + (tc.length + 1) := by omega
  have n5 : ¬ 9223372036854775807 < 1 + tc.length := by omega
  have n6 : ¬ 9223372036854775807 < P0.length + (1 + tc.length) := by omega
  have n7 : ¬ 9223372036854775807 < P0.length + 1 + (1 + tc.length) := by omega
  clear HX h1 hnb hX hY
  by_cases h0 : xc = 0
  · have q := ibne_no h0
    have HE := Lib.hid (show WD = P0 ++ ((if xr = true then [39] else []) ++ []) by rw [HWD.out, HTL.out, if_pos h0])
    clear h0
    cases xr with
    | true =>
      go_wp2_with fail
      go_ret
      exact ⟨by rw [HE.out]; simp only [if_true, List.append_nil]; show _ = Ending.returned (.string (B _)); rw [← app39]; rfl, below_drewN HB2.out 0⟩
    | false =>
      go_wp2_with fail
      go_ret
      exact ⟨by rw [HE.out]; simp only [Bool.false_eq_true, if_false, List.append_nil]; rfl, below_drewN HB2.out 0⟩
  · have q := ibne h0
    have HE := Lib.hid (show WD = P0 ++ ((if xr = true then [39] else []) ++ 47 :: tc) by rw [HWD.out, HTL.out, if_neg h0])
    clear h0
    cases xr with
    | true =>
      go_wp2_with fail
      refine (HC.out _).mono ?_
      rintro e w3 ⟨rfl, b3⟩
      have HB3 := Lib.hid (HB2.out.trans (b3.mono (by have := HB2.out.size; omega)))
      clear b3
      go_wp2_with fail
      go_ret
      exact ⟨by rw [HE.out]; simp only [if_true]; show _ = Ending.returned (.string (B _)); rw [← List.append_assoc, ← app_B, ← app39, ← app47]; rfl, HB3.out⟩
    | false =>
      go_wp2_with fail
      refine (HC.out _).mono ?_
      rintro e w3 ⟨rfl, b3⟩
      have HB3 := Lib.hid (HB2.out.trans (b3.mono (by have := HB2.out.size; omega)))
      clear b3
      go_wp2_with fail
      go_ret
      exact ⟨by rw [HE.out]; simp only [Bool.false_eq_true, if_false, List.nil_append]; show _ = Ending.returned (.string (B _)); rw [← app_B, ← app47]; rfl, HB3.out⟩
end Go.Proofs.YtcfdphfochfeoaaDoor.Tr
