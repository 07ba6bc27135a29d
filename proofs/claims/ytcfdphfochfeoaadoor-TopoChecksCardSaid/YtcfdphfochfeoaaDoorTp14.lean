/- The walk of TopoChecks. -/
import Derived.Test.YtcfdphfochfeoaaDoorTp13
namespace Go.Proofs.YtcfdphfochfeoaaDoor.Tp
open Go.RowKit Go.Proofs.YtcfdphfochfeoaaDoor.Li Go.Proofs.YtcfdphfochfeoaaDoor.De Go.Proofs.YtcfdphfochfeoaaDoor.Ara
/-- Two boxes behind one another, and what they have. -/
def Cs (w W : World) (x y x2 y2 : Value) : Prop := Below w.heap.size w W ∧ w.heap.size + 1 < W.heap.size ∧ W.cell? ⟨w.heap.size, 0, none⟩ = some x ∧ W.cell? ⟨w.heap.size, 1, none⟩ = some y ∧ W.cell? ⟨w.heap.size + 1, 0, none⟩ = some x2 ∧ W.cell? ⟨w.heap.size + 1, 1, none⟩ = some y2
theorem Cs.step {w W V : World} {x y x2 y2 : Value} (h : Cs w W x y x2 y2) (b : Below W.heap.size W V) : Cs w V x y x2 y2 :=
  ⟨nx h.1 b, Nat.lt_of_lt_of_le h.2.1 b.size, (b.cell (p := ⟨w.heap.size, 0, none⟩) (Nat.lt_of_succ_lt h.2.1)).trans h.2.2.1, (b.cell (p := ⟨w.heap.size, 1, none⟩) (Nat.lt_of_succ_lt h.2.1)).trans h.2.2.2.1,
    (b.cell (p := ⟨w.heap.size + 1, 0, none⟩) h.2.1).trans h.2.2.2.2.1, (b.cell (p := ⟨w.heap.size + 1, 1, none⟩) h.2.1).trans h.2.2.2.2.2⟩
theorem Cs.made (w : World) (x y x2 y2 : Value) (T : TypeId) : Cs w ((w.alloc (.cells #[x, y] T)).alloc (.cells #[x2, y2] T)) x y x2 y2 := by
  have h1 := Bx.made w x y T
  have hz : (w.alloc (.cells #[x, y] T)).heap.size = w.heap.size + 1 := by simp
  generalize w.alloc (.cells #[x, y] T) = W1 at *
  have h2 := Bx.made W1 x2 y2 T
  have h3 := h1.step h2.1
  rw [Bx, hz] at h2
  generalize W1.alloc (.cells #[x2, y2] T) = W2 at *
  exact ⟨h3.1, h2.2.1, h3.2.2.1, h3.2.2.2, h2.2.2.1, h2.2.2.2⟩
theorem Cs.sl {w W : World} {x y x2 y2 : Value} (h : Cs w W x y x2 y2) {A : Option Addr} {xs : List Value} (hs : Sl w w.heap.size A xs) : Sl W W.heap.size A xs := (hs.below h.1).more h.1.size
set_option maxRecDepth 100000 in
set_option maxHeartbeats 16000000 in
theorem checks_law (w : World) (ho : Ok w) (p t q u : List Int) (A B A2 B2 : Option Addr) (c d c2 d2 : Nat) (hp : p.length ≤ 9223372036854775807) (htl : t.length ≤ 9223372036854775807) (hq : q.length ≤ 9223372036854775807) (hu : u.length ≤ 9223372036854775807)
    (hs : Sl w w.heap.size A (p.flatMap decI)) (ht : Sl w w.heap.size B (t.flatMap decI)) (hs2 : Sl w w.heap.size A2 (q.flatMap decI)) (ht2 : Sl w w.heap.size B2 (u.flatMap decI)) :
    Calls Tryd.prog 12 #[(.agg #[.slice A p.length c, .slice B t.length d]), (.agg #[.slice A2 q.length c2, .slice B2 u.length d2])] w fun e w' => e = .returned (.bool true) ∧ Below w.heap.size w w' := by
  have HA := Lib.hid (fun W hW => awake_any W hW)
  have HO := Lib.hid ho
  have HS := Lib.hid hs
  have HT := Lib.hid ht
  have HS2 := Lib.hid hs2
  have HT2 := Lib.hid ht2
  have hF1 := fun W => few_any p t A B c d W hp htl
  have hF2 := fun W => few_any q u A2 B2 c2 d2 W hq hu
  clear ho hs ht hs2 ht2
  cases h1 : (decide (p.length ≤ 60) && decide (t.length ≤ 60)) with
  | false =>
    rw [h1] at hF1
    have HF1 := Lib.hid hF1
    clear hF1 hF2 h1
    go_enter Tryd.func12, Tryd.ntmps12
    go_upto_region 1 with fail
    have HC0 := Lib.hid (Cs.made w (.slice A p.length c) (.slice B t.length d) (.slice A2 q.length c2) (.slice B2 u.length d2) 75)
    generalize (w.alloc (.cells #[.slice A p.length c, .slice B t.length d] 75)).alloc (.cells #[.slice A2 q.length c2, .slice B2 u.length d2] 75) = W0 at *
    have c0 := HC0.out.2.2.1
    have c1 := HC0.out.2.2.2.1
    have c2' := HC0.out.2.2.2.2.1
    have c3 := HC0.out.2.2.2.2.2
    go_wp2_with fail
    refine (HF1.out _).mono ?_
    rintro e W1 ⟨rfl, b1⟩
    have HC1 := Lib.hid (HC0.out.step b1)
    clear b1 c0 c1 c2' c3
    have c0 := HC1.out.2.2.1
    have c1 := HC1.out.2.2.2.1
    have c2' := HC1.out.2.2.2.2.1
    have c3 := HC1.out.2.2.2.2.2
    go_wp2_with fail
    refine (HA.out _ (HO.out.step HC1.out.1)).mono ?_
    rintro e wz ⟨rfl, bz⟩
    have BZ := Lib.hid (nx HC1.out.1 bz)
    clear bz
    go_wp2_with fail
    go_ret
    refine ⟨?_, BZ.out⟩
    rfl
  | true =>
    cases h2 : (decide (q.length ≤ 60) && decide (u.length ≤ 60)) with
    | false =>
      rw [h1] at hF1
      rw [h2] at hF2
      have HF1 := Lib.hid hF1
      have HF2 := Lib.hid hF2
      clear hF1 hF2 h1 h2
      go_enter Tryd.func12, Tryd.ntmps12
      go_upto_region 1 with fail
      have HC0 := Lib.hid (Cs.made w (.slice A p.length c) (.slice B t.length d) (.slice A2 q.length c2) (.slice B2 u.length d2) 75)
      generalize (w.alloc (.cells #[.slice A p.length c, .slice B t.length d] 75)).alloc (.cells #[.slice A2 q.length c2, .slice B2 u.length d2] 75) = W0 at *
      have c0 := HC0.out.2.2.1
      have c1 := HC0.out.2.2.2.1
      have c2' := HC0.out.2.2.2.2.1
      have c3 := HC0.out.2.2.2.2.2
      go_wp2_with fail
      refine (HF1.out _).mono ?_
      rintro e W1 ⟨rfl, b1⟩
      have HC1 := Lib.hid (HC0.out.step b1)
      clear b1 c0 c1 c2' c3
      have c0 := HC1.out.2.2.1
      have c1 := HC1.out.2.2.2.1
      have c2' := HC1.out.2.2.2.2.1
      have c3 := HC1.out.2.2.2.2.2
      go_wp2_with fail
      refine (HF2.out _).mono ?_
      rintro e W2 ⟨rfl, b2⟩
      have HC2 := Lib.hid (HC1.out.step b2)
      clear b2 c0 c1 c2' c3
      have c0 := HC2.out.2.2.1
      have c1 := HC2.out.2.2.2.1
      have c2' := HC2.out.2.2.2.2.1
      have c3 := HC2.out.2.2.2.2.2
      go_wp2_with fail
      refine (HA.out _ (HO.out.step HC2.out.1)).mono ?_
      rintro e wz ⟨rfl, bz⟩
      have BZ := Lib.hid (nx HC2.out.1 bz)
      clear bz
      go_wp2_with fail
      go_ret
      refine ⟨?_, BZ.out⟩
      rfl
    | true =>
      rw [h1] at hF1
      rw [h2] at hF2
      have HF1 := Lib.hid hF1
      have HF2 := Lib.hid hF2
      rw [Bool.and_eq_true, decide_eq_true_iff, decide_eq_true_iff] at h1 h2
      obtain ⟨l1, l2⟩ := h1
      obtain ⟨l3, l4⟩ := h2
      have D1 := Lib.hid (fun W h1 h2 => check_any p t A B c d W (by omega) (by omega) h1 h2)
      have D2 := Lib.hid (fun W h1 h2 => rcheck_any p t A B c d W (by omega) (by omega) h1 h2)
      have D3 := Lib.hid (fun W h1 h2 => tleaves_any p t A B c d W (by omega) (by omega) h1 h2)
      have D4 := Lib.hid (fun W h1 h2 => rleaves_any p t A B c d W (by omega) (by omega) h1 h2)
      have D5 := Lib.hid (fun W h1 h2 => depth_any p t A B c d W (by omega) (by omega) h1 h2)
      have D6 := Lib.hid (fun W h1 h2 => rdepth_any p t A B c d W (by omega) (by omega) h1 h2)
      have D7 := Lib.hid (fun W h1 h2 => ttext_any p t A B c d W (by omega) (by omega) h1 h2)
      have D8 := Lib.hid (fun W h1 h2 => rttext_any p t A B c d W (by omega) (by omega) h1 h2)
      have D9 := Lib.hid (fun W => tsame_any p t q u A B A2 B2 c d c2 d2 W hp htl hq hu)
      have D10 := Lib.hid (fun W => rtsame_any p t q u A B A2 B2 c d c2 d2 W hp htl hq hu)
      have hll : (lvT p t).length ≤ 60 := by
        unfold lvT
        split
        · exact Nat.le_trans (lvs_len p) l1
        · simp
      have D11 := Lib.hid (fun A C c1 c2 W => nsm_any (lvT p t) A C c1 c2 W (by omega))
      generalize chk p t = ck at *
      generalize lvT p t = lv at *
      generalize dpT p t = dp at *
      generalize txT p t = tx at *
      generalize decide (p = q ∧ t = u) = bb at *
      clear hF1 hF2
      go_enter Tryd.func12, Tryd.ntmps12
      go_upto_region 1 with fail
      have HC0 := Lib.hid (Cs.made w (.slice A p.length c) (.slice B t.length d) (.slice A2 q.length c2) (.slice B2 u.length d2) 75)
      generalize (w.alloc (.cells #[.slice A p.length c, .slice B t.length d] 75)).alloc (.cells #[.slice A2 q.length c2, .slice B2 u.length d2] 75) = W0 at *
      have c0 := HC0.out.2.2.1
      have c1 := HC0.out.2.2.2.1
      have c2' := HC0.out.2.2.2.2.1
      have c3 := HC0.out.2.2.2.2.2
      go_wp2_with fail
      refine (HF1.out _).mono ?_
      rintro e W1 ⟨rfl, b1⟩
      have HC1 := Lib.hid (HC0.out.step b1)
      clear b1 c0 c1 c2' c3
      have c0 := HC1.out.2.2.1
      have c1 := HC1.out.2.2.2.1
      have c2' := HC1.out.2.2.2.2.1
      have c3 := HC1.out.2.2.2.2.2
      go_wp2_with fail
      refine (HF2.out _).mono ?_
      rintro e W2 ⟨rfl, b2⟩
      have HC2 := Lib.hid (HC1.out.step b2)
      clear b2 c0 c1 c2' c3
      have c0 := HC2.out.2.2.1
      have c1 := HC2.out.2.2.2.1
      have c2' := HC2.out.2.2.2.2.1
      have c3 := HC2.out.2.2.2.2.2
      go_upto_region 3 with fail
      have HX0 : Hid (Cs w W2.drew (.slice A p.length c) (.slice B t.length d) (.slice A2 q.length c2) (.slice B2 u.length d2)) := Lib.hid ⟨Below.drew HC2.out.1, HC2.out.2⟩
      refine wp_region_held_drew (S := fun V => V.cell? ⟨w.heap.size, 0, none⟩ = some (.slice A p.length c) ∧ V.cell? ⟨w.heap.size, 1, none⟩ = some (.slice B t.length d) ∧ V.cell? ⟨w.heap.size + 1, 0, none⟩ = some (.slice A2 q.length c2) ∧ V.cell? ⟨w.heap.size + 1, 1, none⟩ = some (.slice B2 u.length d2)) (by kernel_rfl) HX0.out.2.2 (fun hHeld => ?_)
      clear c0 c1 c2' c3 HC0 HC1 HC2 HF1 HF2
      generalize W2.drew = X0 at *
      refine take_to 0 (some 14) (v := ?_) rfl rfl (by kernel_rfl) (by kernel_rfl) (by kernel_rfl) (fun _ _ _ h => h) (Or.inl ⟨by rfl, ?_⟩) (by first | trivial | assumption) ?_
      rotate_left
      focus (intro w hSw; (try dsimp only at hSw); go_simp; (try with_reducible rfl))
      simp only [Act.put, List.setIfInBounds_toArray, List.set_cons_zero, List.set_cons_succ]
      refine take_to 2 (some 16) (v := ?_) rfl rfl (by kernel_rfl) (by kernel_rfl) (by kernel_rfl) (fun _ _ _ h => h) (Or.inl ⟨by rfl, ?_⟩) (by first | trivial | assumption) ?_
      rotate_left
      focus (intro w hSw; (try dsimp only at hSw); go_simp; (try with_reducible rfl))
      simp only [Act.put, List.setIfInBounds_toArray, List.set_cons_zero, List.set_cons_succ]
      refine wpAnyH_ready (rs := [1]) (by kernel_rfl) (by simp) ?_
      refine AllReadyH.cons rfl (fun K hK => ?_) AllReadyH.nil
      go_simp
      refine (D1.out _ (HX0.out.sl HS.out) (HX0.out.sl HT.out)).mono ?_
      rintro e X1 ⟨rfl, b1⟩
      have HX1 := Lib.hid (HX0.out.step b1)
      clear b1
      go_simp
      refine hK.out _ _ HX1.out.2.2 (fun hHeld => ?_)
      refine wpAnyH_ready (rs := [3]) (by kernel_rfl) (by simp) ?_
      refine AllReadyH.cons rfl (fun K hK => ?_) AllReadyH.nil
      go_simp
      refine (D2.out _ (HX1.out.sl HS.out) (HX1.out.sl HT.out)).mono ?_
      rintro e X2 ⟨rfl, b2⟩
      have HX2 := Lib.hid (HX1.out.step b2)
      clear b2
      go_simp
      refine hK.out _ _ HX2.out.2.2 (fun hHeld => ?_)
      refine take_to 4 (some 18) (v := ?_) rfl rfl (by kernel_rfl) (by kernel_rfl) (by kernel_rfl) (fun _ _ _ h => h) (Or.inl ⟨by rfl, ?_⟩) (by first | trivial | assumption) ?_
      rotate_left
      focus (intro w hSw; (try dsimp only at hSw); go_simp; (try with_reducible rfl))
      simp only [Act.put, List.setIfInBounds_toArray, List.set_cons_zero, List.set_cons_succ]
      refine take_to 5 (some 19) (v := ?_) rfl rfl (by kernel_rfl) (by kernel_rfl) (by kernel_rfl) (fun _ _ _ h => h) (Or.inl ⟨by rfl, ?_⟩) (by first | trivial | assumption) ?_
      rotate_left
      focus (intro w hSw; (try dsimp only at hSw); go_simp; (try with_reducible rfl))
      simp only [Act.put, List.setIfInBounds_toArray, List.set_cons_zero, List.set_cons_succ]
      refine take_to 6 (some 20) (v := ?_) rfl rfl (by kernel_rfl) (by kernel_rfl) (by kernel_rfl) (fun _ _ _ h => h) (Or.inl ⟨by rfl, ?_⟩) (by first | trivial | assumption) ?_
      rotate_left
      focus (intro w hSw; (try dsimp only at hSw); go_simp; (try with_reducible rfl))
      simp only [Act.put, List.setIfInBounds_toArray, List.set_cons_zero, List.set_cons_succ]
      refine take_to 8 (some 22) (v := ?_) rfl rfl (by kernel_rfl) (by kernel_rfl) (by kernel_rfl) (fun _ _ _ h => h) (Or.inl ⟨by rfl, ?_⟩) (by first | trivial | assumption) ?_
      rotate_left
      focus (intro w hSw; (try dsimp only at hSw); go_simp; (try with_reducible rfl))
      simp only [Act.put, List.setIfInBounds_toArray, List.set_cons_zero, List.set_cons_succ]
      refine wpAnyH_ready (rs := [7]) (by kernel_rfl) (by simp) ?_
      refine AllReadyH.cons rfl (fun K hK => ?_) AllReadyH.nil
      go_simp
      refine (D3.out _ (HX2.out.sl HS.out) (HX2.out.sl HT.out)).mono ?_
      rintro e X3 ⟨E3, k3, rfl, s3, b3⟩
      have HX3 := Lib.hid (HX2.out.step b3)
      have S3 := Lib.hid s3
      clear b3 s3
      go_simp
      refine hK.out _ _ HX3.out.2.2 (fun hHeld => ?_)
      refine wpAnyH_ready (rs := [9]) (by kernel_rfl) (by simp) ?_
      refine AllReadyH.cons rfl (fun K hK => ?_) AllReadyH.nil
      go_simp
      refine (D4.out _ (HX3.out.sl HS.out) (HX3.out.sl HT.out)).mono ?_
      rintro e X4 ⟨E4, k4, rfl, s4, b4⟩
      have HX4 := Lib.hid (HX3.out.step b4)
      have S3 := Lib.hid (S3.out.step b4)
      have S4 := Lib.hid s4
      clear b4 s4
      go_simp
      refine hK.out _ _ HX4.out.2.2 (fun hHeld => ?_)
      refine wpAnyH_ready (rs := [10]) (by kernel_rfl) (by simp) ?_
      refine AllReadyH.cons rfl (fun K hK => ?_) AllReadyH.nil
      go_simp
      refine (D11.out _ _ _ _ _ S3.out S4.out).mono ?_
      rintro e X5 ⟨rfl, b5⟩
      have HX5 := Lib.hid (HX4.out.step b5)
      clear b5
      go_simp
      refine hK.out _ _ HX5.out.2.2 (fun hHeld => ?_)
      refine take_to 11 (some 25) (v := ?_) rfl rfl (by kernel_rfl) (by kernel_rfl) (by kernel_rfl) (fun _ _ _ h => h) (Or.inl ⟨by rfl, ?_⟩) (by first | trivial | assumption) ?_
      rotate_left
      focus (intro w hSw; (try dsimp only at hSw); go_simp; (try with_reducible rfl))
      simp only [Act.put, List.setIfInBounds_toArray, List.set_cons_zero, List.set_cons_succ]
      refine take_to 12 (some 26) (v := ?_) rfl rfl (by kernel_rfl) (by kernel_rfl) (by kernel_rfl) (fun _ _ _ h => h) (Or.inl ⟨by rfl, ?_⟩) (by first | trivial | assumption) ?_
      rotate_left
      focus (intro w hSw; (try dsimp only at hSw); go_simp; (try with_reducible rfl))
      simp only [Act.put, List.setIfInBounds_toArray, List.set_cons_zero, List.set_cons_succ]
      refine take_to 13 (some 27) (v := ?_) rfl rfl (by kernel_rfl) (by kernel_rfl) (by kernel_rfl) (fun _ _ _ h => h) (Or.inl ⟨by rfl, ?_⟩) (by first | trivial | assumption) ?_
      rotate_left
      focus (intro w hSw; (try dsimp only at hSw); go_simp; (try with_reducible rfl))
      simp only [Act.put, List.setIfInBounds_toArray, List.set_cons_zero, List.set_cons_succ]
      refine take_to 15 (some 29) (v := ?_) rfl rfl (by kernel_rfl) (by kernel_rfl) (by kernel_rfl) (fun _ _ _ h => h) (Or.inl ⟨by rfl, ?_⟩) (by first | trivial | assumption) ?_
      rotate_left
      focus (intro w hSw; (try dsimp only at hSw); go_simp; (try with_reducible rfl))
      simp only [Act.put, List.setIfInBounds_toArray, List.set_cons_zero, List.set_cons_succ]
      refine wpAnyH_ready (rs := [14]) (by kernel_rfl) (by simp) ?_
      refine AllReadyH.cons rfl (fun K hK => ?_) AllReadyH.nil
      go_simp
      refine (D5.out _ (HX5.out.sl HS.out) (HX5.out.sl HT.out)).mono ?_
      rintro e X6 ⟨rfl, b6⟩
      have HX6 := Lib.hid (HX5.out.step b6)
      clear b6
      go_simp
      refine hK.out _ _ HX6.out.2.2 (fun hHeld => ?_)
      refine wpAnyH_ready (rs := [16]) (by kernel_rfl) (by simp) ?_
      refine AllReadyH.cons rfl (fun K hK => ?_) AllReadyH.nil
      go_simp
      refine (D6.out _ (HX6.out.sl HS.out) (HX6.out.sl HT.out)).mono ?_
      rintro e X7 ⟨rfl, b7⟩
      have HX7 := Lib.hid (HX6.out.step b7)
      clear b7
      go_simp
      refine hK.out _ _ HX7.out.2.2 (fun hHeld => ?_)
      refine take_to 17 (some 31) (v := ?_) rfl rfl (by kernel_rfl) (by kernel_rfl) (by kernel_rfl) (fun _ _ _ h => h) (Or.inl ⟨by rfl, ?_⟩) (by first | trivial | assumption) ?_
      rotate_left
      focus (intro w hSw; (try dsimp only at hSw); go_simp; (try with_reducible rfl))
      simp only [Act.put, List.setIfInBounds_toArray, List.set_cons_zero, List.set_cons_succ]
      refine take_to 18 (some 32) (v := ?_) rfl rfl (by kernel_rfl) (by kernel_rfl) (by kernel_rfl) (fun _ _ _ h => h) (Or.inl ⟨by rfl, ?_⟩) (by first | trivial | assumption) ?_
      rotate_left
      focus (intro w hSw; (try dsimp only at hSw); go_simp; (try with_reducible rfl))
      simp only [Act.put, List.setIfInBounds_toArray, List.set_cons_zero, List.set_cons_succ]
      refine take_to 19 (some 33) (v := ?_) rfl rfl (by kernel_rfl) (by kernel_rfl) (by kernel_rfl) (fun _ _ _ h => h) (Or.inl ⟨by rfl, ?_⟩) (by first | trivial | assumption) ?_
      rotate_left
      focus (intro w hSw; (try dsimp only at hSw); go_simp; (try with_reducible rfl))
      simp only [Act.put, List.setIfInBounds_toArray, List.set_cons_zero, List.set_cons_succ]
      refine take_to 20 (some 34) (v := ?_) rfl rfl (by kernel_rfl) (by kernel_rfl) (by kernel_rfl) (fun _ _ _ h => h) (Or.inl ⟨by rfl, ?_⟩) (by first | trivial | assumption) ?_
      rotate_left
      focus (intro w hSw; (try dsimp only at hSw); go_simp; (try with_reducible rfl))
      simp only [Act.put, List.setIfInBounds_toArray, List.set_cons_zero, List.set_cons_succ]
      refine take_to 22 (some 36) (v := ?_) rfl rfl (by kernel_rfl) (by kernel_rfl) (by kernel_rfl) (fun _ _ _ h => h) (Or.inl ⟨by rfl, ?_⟩) (by first | trivial | assumption) ?_
      rotate_left
      focus (intro w hSw; (try dsimp only at hSw); go_simp; (try with_reducible rfl))
      simp only [Act.put, List.setIfInBounds_toArray, List.set_cons_zero, List.set_cons_succ]
      refine wpAnyH_ready (rs := [21]) (by kernel_rfl) (by simp) ?_
      refine AllReadyH.cons rfl (fun K hK => ?_) AllReadyH.nil
      go_simp
      refine (D7.out _ (HX7.out.sl HS.out) (HX7.out.sl HT.out)).mono ?_
      rintro e X8 ⟨rfl, b8⟩
      have HX8 := Lib.hid (HX7.out.step b8)
      clear b8
      go_simp
      refine hK.out _ _ HX8.out.2.2 (fun hHeld => ?_)
      refine wpAnyH_ready (rs := [23]) (by kernel_rfl) (by simp) ?_
      refine AllReadyH.cons rfl (fun K hK => ?_) AllReadyH.nil
      go_simp
      refine (D8.out _ (HX8.out.sl HS.out) (HX8.out.sl HT.out)).mono ?_
      rintro e X9 ⟨rfl, b9⟩
      have HX9 := Lib.hid (HX8.out.step b9)
      clear b9
      go_simp
      refine hK.out _ _ HX9.out.2.2 (fun hHeld => ?_)
      refine take_to 24 (some 38) (v := ?_) rfl rfl (by kernel_rfl) (by kernel_rfl) (by kernel_rfl) (fun _ _ _ h => h) (Or.inl ⟨by rfl, ?_⟩) (by first | trivial | assumption) ?_
      rotate_left
      focus (intro w hSw; (try dsimp only at hSw); go_simp; (try with_reducible rfl))
      simp only [Act.put, List.setIfInBounds_toArray, List.set_cons_zero, List.set_cons_succ]
      refine take_to 25 (some 39) (v := ?_) rfl rfl (by kernel_rfl) (by kernel_rfl) (by kernel_rfl) (fun _ _ _ h => h) (Or.inl ⟨by rfl, ?_⟩) (by first | trivial | assumption) ?_
      rotate_left
      focus (intro w hSw; (try dsimp only at hSw); go_simp; (try with_reducible rfl))
      simp only [Act.put, List.setIfInBounds_toArray, List.set_cons_zero, List.set_cons_succ]
      refine take_to 26 (some 40) (v := ?_) rfl rfl (by kernel_rfl) (by kernel_rfl) (by kernel_rfl) (fun _ _ _ h => h) (Or.inl ⟨by rfl, ?_⟩) (by first | trivial | assumption) ?_
      rotate_left
      focus (intro w hSw; (try dsimp only at hSw); go_simp; (try with_reducible rfl))
      simp only [Act.put, List.setIfInBounds_toArray, List.set_cons_zero, List.set_cons_succ]
      refine take_to 27 (some 41) (v := ?_) rfl rfl (by kernel_rfl) (by kernel_rfl) (by kernel_rfl) (fun _ _ _ h => h) (Or.inl ⟨by rfl, ?_⟩) (by first | trivial | assumption) ?_
      rotate_left
      focus (intro w hSw; (try dsimp only at hSw); go_simp; (try with_reducible rfl))
      simp only [Act.put, List.setIfInBounds_toArray, List.set_cons_zero, List.set_cons_succ]
      refine take_to 28 (some 42) (v := ?_) rfl rfl (by kernel_rfl) (by kernel_rfl) (by kernel_rfl) (fun _ _ _ h => h) (Or.inl ⟨by rfl, ?_⟩) (by first | trivial | assumption) ?_
      rotate_left
      focus (intro w hSw; (try dsimp only at hSw); go_simp; (try with_reducible rfl))
      simp only [Act.put, List.setIfInBounds_toArray, List.set_cons_zero, List.set_cons_succ]
      refine take_to 30 (some 44) (v := ?_) rfl rfl (by kernel_rfl) (by kernel_rfl) (by kernel_rfl) (fun _ _ _ h => h) (Or.inl ⟨by rfl, ?_⟩) (by first | trivial | assumption) ?_
      rotate_left
      focus (intro w hSw; (try dsimp only at hSw); go_simp; (try with_reducible rfl))
      simp only [Act.put, List.setIfInBounds_toArray, List.set_cons_zero, List.set_cons_succ]
      refine take_to 31 (some 45) (v := ?_) rfl rfl (by kernel_rfl) (by kernel_rfl) (by kernel_rfl) (fun _ _ _ h => h) (Or.inl ⟨by rfl, ?_⟩) (by first | trivial | assumption) ?_
      rotate_left
      focus (intro w hSw; (try dsimp only at hSw); go_simp; (try with_reducible rfl))
      simp only [Act.put, List.setIfInBounds_toArray, List.set_cons_zero, List.set_cons_succ]
      refine wpAnyH_ready (rs := [29]) (by kernel_rfl) (by simp) ?_
      refine AllReadyH.cons rfl (fun K hK => ?_) AllReadyH.nil
      go_simp
      refine (D9.out _ (HX9.out.sl HS.out) (HX9.out.sl HT.out) (HX9.out.sl HS2.out) (HX9.out.sl HT2.out)).mono ?_
      rintro e X10 ⟨rfl, b10⟩
      have HX10 := Lib.hid (HX9.out.step b10)
      clear b10
      go_simp
      refine hK.out _ _ HX10.out.2.2 (fun hHeld => ?_)
      refine wpAnyH_ready (rs := [32]) (by kernel_rfl) (by simp) ?_
      refine AllReadyH.cons rfl (fun K hK => ?_) AllReadyH.nil
      go_simp
      refine (D10.out _ (HX10.out.sl HS.out) (HX10.out.sl HT.out) (HX10.out.sl HS2.out) (HX10.out.sl HT2.out)).mono ?_
      rintro e X11 ⟨rfl, b11⟩
      have HX11 := Lib.hid (HX10.out.step b11)
      clear b11
      go_simp
      refine hK.out _ _ HX11.out.2.2 (fun hHeld => ?_)
      refine take_to 33 (some 47) (v := ?_) rfl rfl (by kernel_rfl) (by kernel_rfl) (by kernel_rfl) (fun _ _ _ h => h) (Or.inl ⟨by rfl, ?_⟩) (by first | trivial | assumption) ?_
      rotate_left
      focus (intro w hSw; (try dsimp only at hSw); go_simp; (try with_reducible rfl))
      simp only [Act.put, List.setIfInBounds_toArray, List.set_cons_zero, List.set_cons_succ]
      refine take_to 34 (some 48) (v := ?_) rfl rfl (by kernel_rfl) (by kernel_rfl) (by kernel_rfl) (fun _ _ _ h => h) (Or.inl ⟨by rfl, ?_⟩) (by first | trivial | assumption) ?_
      rotate_left
      focus (intro w hSw; (try dsimp only at hSw); go_simp; (try with_reducible rfl))
      simp only [Act.put, List.setIfInBounds_toArray, List.set_cons_zero, List.set_cons_succ]
      refine take_to 35 (some 49) (v := ?_) rfl rfl (by kernel_rfl) (by kernel_rfl) (by kernel_rfl) (fun _ _ _ h => h) (Or.inl ⟨by rfl, ?_⟩) (by first | trivial | assumption) ?_
      rotate_left
      focus (intro w hSw; (try dsimp only at hSw); go_simp; (try with_reducible rfl))
      simp only [Act.put, List.setIfInBounds_toArray, List.set_cons_zero, List.set_cons_succ]
      refine wpAnyH_ready (rs := [36]) (by kernel_rfl) (by simp) ?_
      refine AllReadyH.cons rfl (fun K hK => ?_) AllReadyH.nil
      go_simp
      refine (HA.out _ (HO.out.step HX11.out.1)).mono ?_
      rintro e X12 ⟨rfl, b12⟩
      have HX12 := Lib.hid (HX11.out.step b12)
      clear b12
      go_simp
      refine hK.out _ _ HX12.out.2.2 (fun hHeld => ?_)
      refine take_to 37 (some 51) (v := ?_) rfl rfl (by kernel_rfl) (by kernel_rfl) (by kernel_rfl) (fun _ _ _ h => h) (Or.inl ⟨by rfl, ?_⟩) (by first | trivial | assumption) ?_
      rotate_left
      focus (intro w hSw; (try dsimp only at hSw); go_simp; (try with_reducible rfl))
      simp only [Act.put, List.setIfInBounds_toArray, List.set_cons_zero, List.set_cons_succ]
      refine take_to 38 (some 4) (v := ?_) rfl rfl (by kernel_rfl) (by kernel_rfl) (by kernel_rfl) (fun _ _ _ h => h) (Or.inl ⟨by rfl, ?_⟩) (by first | trivial | assumption) ?_
      rotate_left
      focus (intro w hSw; (try dsimp only at hSw); go_simp; (try with_reducible rfl))
      simp only [Act.put, List.setIfInBounds_toArray, List.set_cons_zero, List.set_cons_succ]
      refine wpAnyH_done (by kernel_rfl) ?_ _
      go_wp2_with fail
      go_ret
      refine ⟨?_, HX12.out.1⟩
      rfl
end Go.Proofs.YtcfdphfochfeoaaDoor.Tp
