/- Walks of layer 6: Text and Parse, of the program and of the reference. -/
import Derived.Test.YtcfdphfochfeoaaDoorTp6
import Derived.Test.YtcfdphfochfeoaaDoorTp8
import Derived.Test.YtcfdphfochfeoaaDoorDe6
import Derived.Test.YtcfdphfochfeoaaDoorLi4
namespace Go.Proofs.YtcfdphfochfeoaaDoor.Tp
open Go.RowKit Go.Proofs.YtcfdphfochfeoaaDoor.Li Go.Proofs.YtcfdphfochfeoaaDoor.De Go.Proofs.YtcfdphfochfeoaaDoor.Ara
theorem txT_no {p t : List Int} (h : chk p t ≠ 0) : txT p t = [] := by unfold txT; rw [if_neg h]
theorem txT_ok {p t : List Int} (h : chk p t = 0) : txT p t = textL [rowT NODES p, rowT THREADS t] := by unfold txT; rw [if_pos h]
theorem row_len {p : List Int} (W : List UInt8) (hW : W.length ≤ 10) (h : ∀ n ∈ p, isI64 n) (hp : p.length ≤ 32) : (rowT W p).length ≤ 700 := by
  have a := lst_len p h p.length
  rw [List.take_length] at a
  unfold rowT
  rw [List.length_append, List.length_cons]
  omega
theorem tl_two (x y : List UInt8) : (textL [x, y]).length = x.length + y.length + 2 := by simp [textL]; omega
set_option maxRecDepth 100000 in
set_option maxHeartbeats 4000000 in
theorem ttext_any (p t : List Int) (A B : Option Addr) (c d : Nat) (w : World) (hp : p.length ≤ 100000) (htl : t.length ≤ 100000) (hs : Sl w w.heap.size A (p.flatMap decI)) (ht : Sl w w.heap.size B (t.flatMap decI)) :
    Calls Tryd.prog 69 #[(.agg #[.slice A p.length c, .slice B t.length d])] w fun e w' => e = .returned (vS (txT p t)) ∧ Below w.heap.size w w' := by
  by_cases h : chk p t = 0
  · have HN := Lib.hid (txT_ok h)
    obtain ⟨i1, i2, _, _, l1, l2⟩ := chk_i64 h
    have H1 := Lib.hid (fun W hW => list_any p A c W (by omega) i1 hW)
    have H2 := Lib.hid (fun W hW => list_any t B d W (by omega) i2 hW)
    have r1 := row_len NODES (by decide) i1 l1
    have r2 := row_len THREADS (by decide) i2 l2
    have H3 := Lib.hid (fun A' c' W hW => Li.text_any [rowT NODES p, rowT THREADS t] A' c' W (by simp) (by rw [tl_two]; omega) hW)
    have hN := Lib.hid (show (⟨#[110, 111, 100, 101, 115, 32]⟩ : ByteArray) ++ Li.B (lst p) = Li.B (rowT NODES p) from app_B [110, 111, 100, 101, 115, 32] (lst p))
    have hT := Lib.hid (show (⟨#[116, 104, 114, 101, 97, 100, 115, 32]⟩ : ByteArray) ++ Li.B (lst t) = Li.B (rowT THREADS t) from app_B [116, 104, 114, 101, 97, 100, 115, 32] (lst t))
    have q := ibne_no h
    rw [HN.out]
    have r3 := lst_len p i1 p.length
    have r4 := lst_len t i2 t.length
    rw [List.take_length] at r3 r4
    clear h i1 i2 r1 r2
    have HS := Lib.hid hs
    have HT := Lib.hid ht
    have HCK := Lib.hid (fun W h1 h2 => check_any p t A B c d W hp htl h1 h2)
    clear hs ht
    generalize chk p t = r at *
    go_enter Tryd.func69, Tryd.ntmps69
    go_upto_region 1 with fail
    have HX := Lib.hid (Bx.made w (.slice A p.length c) (.slice B t.length d) 75)
    generalize w.alloc (.cells #[.slice A p.length c, .slice B t.length d] 75) = W0 at *
    have c0 := HX.out.2.2.1
    have c1 := HX.out.2.2.2
    have SP := Lib.hid (HX.out.sl HS.out)
    have ST := Lib.hid (HX.out.sl HT.out)
    go_wp2_with fail
    refine (HCK.out _ SP.out ST.out).mono ?_
    rintro e W1 ⟨rfl, b1⟩
    have HX1 := Lib.hid (HX.out.step b1)
    clear c0 c1 SP ST HX b1 HCK
    have c0 := HX1.out.2.2.1
    have c1 := HX1.out.2.2.2
    go_wp2_with fail
    have SP : Hid (Sl W1.drew W1.drew.heap.size A (p.flatMap decI)) := Lib.hid (HX1.out.sl HS.out)
    have ST : Hid (Sl W1.drew W1.drew.heap.size B (t.flatMap decI)) := Lib.hid (HX1.out.sl HT.out)
    have HXd : Hid (Bx w W1.drew (.slice A p.length c) (.slice B t.length d)) := Lib.hid ⟨Below.drew HX1.out.1, HX1.out.2⟩
    have d0 : W1.drew.cell? ⟨w.heap.size, 0, none⟩ = some (.slice A p.length c) ∧ W1.drew.cell? ⟨w.heap.size, 1, none⟩ = some (.slice B t.length d) := ⟨c0, c1⟩
    refine wp_region_held_drew (S := fun V => V.cell? ⟨w.heap.size, 0, none⟩ = some (.slice A p.length c) ∧ V.cell? ⟨w.heap.size, 1, none⟩ = some (.slice B t.length d)) (by kernel_rfl) d0 (fun hHeld => ?_)
    clear c0 c1 d0 HX1
    generalize W1.drew = X0 at *
    refine take_to 0 (some 6) (v := ?_) rfl rfl (by kernel_rfl) (by kernel_rfl) (by kernel_rfl) (fun _ _ _ h => h) (Or.inl ⟨by rfl, ?_⟩) (by first | trivial | assumption) ?_
    rotate_left
    focus (intro w hSw; (try dsimp only at hSw); go_simp; (try with_reducible rfl))
    simp only [Act.put, List.setIfInBounds_toArray, List.set_cons_zero, List.set_cons_succ]
    refine take_to 1 (some 7) (v := ?_) rfl rfl (by kernel_rfl) (by kernel_rfl) (by kernel_rfl) (fun _ _ _ h => h) (Or.inl ⟨by rfl, ?_⟩) (by first | trivial | assumption) ?_
    rotate_left
    focus (intro w hSw; (try dsimp only at hSw); go_simp; (try with_reducible rfl))
    simp only [Act.put, List.setIfInBounds_toArray, List.set_cons_zero, List.set_cons_succ]
    refine take_to 4 (some 10) (v := ?_) rfl rfl (by kernel_rfl) (by kernel_rfl) (by kernel_rfl) (fun _ _ _ h => h) (Or.inl ⟨by rfl, ?_⟩) (by first | trivial | assumption) ?_
    rotate_left
    focus (intro w hSw; (try dsimp only at hSw); go_simp; (try with_reducible rfl))
    simp only [Act.put, List.setIfInBounds_toArray, List.set_cons_zero, List.set_cons_succ]
    refine take_to 5 (some 11) (v := ?_) rfl rfl (by kernel_rfl) (by kernel_rfl) (by kernel_rfl) (fun _ _ _ h => h) (Or.inl ⟨by rfl, ?_⟩) (by first | trivial | assumption) ?_
    rotate_left
    focus (intro w hSw; (try dsimp only at hSw); go_simp; (try with_reducible rfl))
    simp only [Act.put, List.setIfInBounds_toArray, List.set_cons_zero, List.set_cons_succ]
    refine wpAnyH_ready (rs := [2]) (by kernel_rfl) (by simp) ?_
    refine AllReadyH.cons rfl (fun K hK => ?_) AllReadyH.nil
    go_simp
    refine (H1.out _ SP.out).mono ?_
    rintro e w2 ⟨rfl, b2⟩
    have HX2 := Lib.hid (HXd.out.step b2)
    have ST2 := Lib.hid (ST.out.step b2)
    clear b2 SP ST HXd
    go_simp
    refine hK.out _ _ HX2.out.2.2 (fun hHeld => ?_)
    refine take_to 3 (some 9) (v := vS (rowT NODES p)) rfl rfl (by kernel_rfl) (by kernel_rfl) (by kernel_rfl) (fun _ _ _ h => h) (Or.inl ⟨by rfl, ?_⟩) (by first | trivial | assumption) ?_
    focus (intro w hSw; clear hSw; go_simp; rw [if_neg (by omega)]; first | rw [hN.out] | skip)
    try simp only [Act.put, List.setIfInBounds_toArray, List.set_cons_zero, List.set_cons_succ]
    refine wpAnyH_ready (rs := [6]) (by kernel_rfl) (by simp) ?_
    refine AllReadyH.cons rfl (fun K hK => ?_) AllReadyH.nil
    go_simp
    refine (H2.out _ ST2.out).mono ?_
    rintro e w3 ⟨rfl, b3⟩
    have HX3 := Lib.hid (HX2.out.step b3)
    clear b3 ST2 HX2
    go_simp
    refine hK.out _ _ HX3.out.2.2 (fun hHeld => ?_)
    refine take_to 7 (some 13) (v := vS (rowT THREADS t)) rfl rfl (by kernel_rfl) (by kernel_rfl) (by kernel_rfl) (fun _ _ _ h => h) (Or.inl ⟨by rfl, ?_⟩) (by first | trivial | assumption) ?_
    focus (intro w hSw; clear hSw; go_simp; rw [if_neg (by omega)]; first | rw [hT.out] | skip)
    try simp only [Act.put, List.setIfInBounds_toArray, List.set_cons_zero, List.set_cons_succ]
    refine wpAnyH_ready (rs := [8]) (by kernel_rfl) (by simp) ?_
    refine AllReadyH.cons rfl (fun K hK => ?_) AllReadyH.nil
    go_simp
    have HX4 := Lib.hid (HX3.out.step (below_new w3 (.cells #[vS (rowT NODES p), vS (rowT THREADS t)] 9)))
    have S4 := Lib.hid (Sl.made w3 #[vS (rowT NODES p), vS (rowT THREADS t)] 9)
    refine hK.out _ _ HX4.out.2.2 (fun hHeld => ?_)
    refine wpAnyH_ready (rs := [9]) (by kernel_rfl) (by simp) ?_
    refine AllReadyH.cons rfl (fun K hK => ?_) AllReadyH.nil
    go_simp
    refine (H3.out _ _ _ S4.out).mono ?_
    rintro e w5 ⟨rfl, b5⟩
    have HX5 := Lib.hid (HX4.out.step b5)
    clear b5 HX4 S4
    go_simp
    refine hK.out _ _ HX5.out.2.2 (fun hHeld => ?_)
    refine take_to 10 (some 2) (v := ?_) rfl rfl (by kernel_rfl) (by kernel_rfl) (by kernel_rfl) (fun _ _ _ h => h) (Or.inl ⟨by rfl, ?_⟩) (by first | trivial | assumption) ?_
    rotate_left
    focus (intro w hSw; (try dsimp only at hSw); go_simp; (try with_reducible rfl))
    simp only [Act.put, List.setIfInBounds_toArray, List.set_cons_zero, List.set_cons_succ]
    refine wpAnyH_done (by kernel_rfl) ?_ _
    go_wp2_with fail
    go_ret
    exact ⟨rfl, HX5.out.1⟩
  · have HN := Lib.hid (txT_no h)
    have q := ibne h
    rw [HN.out]
    clear h
    have HS := Lib.hid hs
    have HT := Lib.hid ht
    have HCK := Lib.hid (fun W h1 h2 => check_any p t A B c d W hp htl h1 h2)
    clear hs ht
    generalize chk p t = r at *
    go_enter Tryd.func69, Tryd.ntmps69
    go_upto_region 1 with fail
    have HX := Lib.hid (Bx.made w (.slice A p.length c) (.slice B t.length d) 75)
    generalize w.alloc (.cells #[.slice A p.length c, .slice B t.length d] 75) = W0 at *
    have c0 := HX.out.2.2.1
    have c1 := HX.out.2.2.2
    have SP := Lib.hid (HX.out.sl HS.out)
    have ST := Lib.hid (HX.out.sl HT.out)
    go_wp2_with fail
    refine (HCK.out _ SP.out ST.out).mono ?_
    rintro e W1 ⟨rfl, b1⟩
    have HX1 := Lib.hid (HX.out.step b1)
    clear c0 c1 SP ST HX b1 HCK
    have c0 := HX1.out.2.2.1
    have c1 := HX1.out.2.2.2
    go_wp2_with fail
    go_ret
    exact ⟨rfl, HX1.out.1⟩
set_option maxRecDepth 100000 in
set_option maxHeartbeats 2000000 in
theorem rttext_any (p t : List Int) (A B : Option Addr) (c d : Nat) (w : World) (hp : p.length ≤ 100000) (htl : t.length ≤ 100000) (hs : Sl w w.heap.size A (p.flatMap decI)) (ht : Sl w w.heap.size B (t.flatMap decI)) :
    Calls Tryd.prog 70 #[(.agg #[.slice A p.length c, .slice B t.length d])] w fun e w' => e = .returned (vS (txT p t)) ∧ Below w.heap.size w w' := by
  by_cases h : chk p t = 0
  · have HN := Lib.hid (txT_ok h)
    obtain ⟨i1, i2, _, _, l1, l2⟩ := chk_i64 h
    have H1 := Lib.hid (fun W hW => rlist_any p A c W (by omega) i1 hW)
    have H2 := Lib.hid (fun W hW => rlist_any t B d W (by omega) i2 hW)
    have r1 := lst_len p i1 p.length
    have r2 := lst_len t i2 t.length
    rw [List.take_length] at r1 r2
    obtain ⟨x1, e1⟩ : ∃ x, [110, 111, 100, 101, 115, 32] ++ lst p = x := ⟨_, rfl⟩
    obtain ⟨x2, e2⟩ : ∃ x, x1 ++ [10, 116, 104, 114, 101, 97, 100, 115, 32] = x := ⟨_, rfl⟩
    obtain ⟨x3, e3⟩ : ∃ x, x2 ++ lst t = x := ⟨_, rfl⟩
    have e4 : x3 ++ [10] = textL [rowT NODES p, rowT THREADS t] := by
      rw [← e3, ← e2, ← e1]
      simp [textL, rowT, NODES, THREADS]
    have k1 : x1.length ≤ 700 := by rw [← e1, List.length_append]; simp; omega
    have k2 : x2.length ≤ 710 := by rw [← e2, List.length_append]; simp; omega
    have k3 : x3.length ≤ 1400 := by rw [← e3, List.length_append]; omega
    have hA := Lib.hid (show (⟨#[110, 111, 100, 101, 115, 32]⟩ : ByteArray) ++ Li.B (lst p) = Li.B x1 from (app_B [110, 111, 100, 101, 115, 32] (lst p)).trans (congrArg Li.B e1))
    have hB := Lib.hid (show Li.B x1 ++ (⟨#[10, 116, 104, 114, 101, 97, 100, 115, 32]⟩ : ByteArray) = Li.B x2 from (app_B x1 [10, 116, 104, 114, 101, 97, 100, 115, 32]).trans (congrArg Li.B e2))
    have hC := Lib.hid (show Li.B x2 ++ Li.B (lst t) = Li.B x3 from (app_B x2 (lst t)).trans (congrArg Li.B e3))
    have hD := Lib.hid (show Li.B x3 ++ (⟨#[10]⟩ : ByteArray) = Li.B (textL [rowT NODES p, rowT THREADS t]) from (app_B x3 [10]).trans (congrArg Li.B e4))
    have q := ibne_no h
    rw [HN.out]
    clear h i1 i2 e1 e2 e3 e4
    generalize textL [rowT NODES p, rowT THREADS t] = tx at *
    have HS := Lib.hid hs
    have HT := Lib.hid ht
    have HCK := Lib.hid (fun W h1 h2 => rcheck_any p t A B c d W hp htl h1 h2)
    clear hs ht
    generalize chk p t = r at *
    go_enter Tryd.func70, Tryd.ntmps70
    go_upto_region 1 with fail
    have HX := Lib.hid (Bx.made w (.slice A p.length c) (.slice B t.length d) 75)
    generalize w.alloc (.cells #[.slice A p.length c, .slice B t.length d] 75) = W0 at *
    have c0 := HX.out.2.2.1
    have c1 := HX.out.2.2.2
    have SP := Lib.hid (HX.out.sl HS.out)
    have ST := Lib.hid (HX.out.sl HT.out)
    go_wp2_with fail
    refine (HCK.out _ SP.out ST.out).mono ?_
    rintro e W1 ⟨rfl, b1⟩
    have HX1 := Lib.hid (HX.out.step b1)
    clear c0 c1 SP ST HX b1 HCK
    have c0 := HX1.out.2.2.1
    have c1 := HX1.out.2.2.2
    go_wp2_with fail
    have SP : Hid (Sl W1.drew W1.drew.heap.size A (p.flatMap decI)) := Lib.hid (HX1.out.sl HS.out)
    have ST : Hid (Sl W1.drew W1.drew.heap.size B (t.flatMap decI)) := Lib.hid (HX1.out.sl HT.out)
    have HXd : Hid (Bx w W1.drew (.slice A p.length c) (.slice B t.length d)) := Lib.hid ⟨Below.drew HX1.out.1, HX1.out.2⟩
    have d0 : W1.drew.cell? ⟨w.heap.size, 0, none⟩ = some (.slice A p.length c) ∧ W1.drew.cell? ⟨w.heap.size, 1, none⟩ = some (.slice B t.length d) := ⟨c0, c1⟩
    refine wp_region_held_drew (S := fun V => V.cell? ⟨w.heap.size, 0, none⟩ = some (.slice A p.length c) ∧ V.cell? ⟨w.heap.size, 1, none⟩ = some (.slice B t.length d)) (by kernel_rfl) d0 (fun hHeld => ?_)
    clear c0 c1 d0 HX1
    generalize W1.drew = X0 at *
    refine take_to 0 (some 6) (v := ?_) rfl rfl (by kernel_rfl) (by kernel_rfl) (by kernel_rfl) (fun _ _ _ h => h) (Or.inl ⟨by rfl, ?_⟩) (by first | trivial | assumption) ?_
    rotate_left
    focus (intro w hSw; (try dsimp only at hSw); go_simp; (try with_reducible rfl))
    simp only [Act.put, List.setIfInBounds_toArray, List.set_cons_zero, List.set_cons_succ]
    refine take_to 1 (some 7) (v := ?_) rfl rfl (by kernel_rfl) (by kernel_rfl) (by kernel_rfl) (fun _ _ _ h => h) (Or.inl ⟨by rfl, ?_⟩) (by first | trivial | assumption) ?_
    rotate_left
    focus (intro w hSw; (try dsimp only at hSw); go_simp; (try with_reducible rfl))
    simp only [Act.put, List.setIfInBounds_toArray, List.set_cons_zero, List.set_cons_succ]
    refine take_to 5 (some 11) (v := ?_) rfl rfl (by kernel_rfl) (by kernel_rfl) (by kernel_rfl) (fun _ _ _ h => h) (Or.inl ⟨by rfl, ?_⟩) (by first | trivial | assumption) ?_
    rotate_left
    focus (intro w hSw; (try dsimp only at hSw); go_simp; (try with_reducible rfl))
    simp only [Act.put, List.setIfInBounds_toArray, List.set_cons_zero, List.set_cons_succ]
    refine take_to 6 (some 12) (v := ?_) rfl rfl (by kernel_rfl) (by kernel_rfl) (by kernel_rfl) (fun _ _ _ h => h) (Or.inl ⟨by rfl, ?_⟩) (by first | trivial | assumption) ?_
    rotate_left
    focus (intro w hSw; (try dsimp only at hSw); go_simp; (try with_reducible rfl))
    simp only [Act.put, List.setIfInBounds_toArray, List.set_cons_zero, List.set_cons_succ]
    refine wpAnyH_ready (rs := [2]) (by kernel_rfl) (by simp) ?_
    refine AllReadyH.cons rfl (fun K hK => ?_) AllReadyH.nil
    go_simp
    refine (H1.out _ SP.out).mono ?_
    rintro e wx ⟨rfl, hwx⟩
    obtain rfl := hwx.symm
    go_simp
    refine hK.out _ _ HXd.out.2.2 (fun hHeld => ?_)
    refine take_to 3 (some 9) (v := vS x1) rfl rfl (by kernel_rfl) (by kernel_rfl) (by kernel_rfl) (fun _ _ _ h => h) (Or.inl ⟨by rfl, ?_⟩) (by first | trivial | assumption) ?_
    focus (intro w hSw; clear hSw; go_simp; rw [if_neg (by omega)]; first | rw [hA.out] | skip)
    try simp only [Act.put, List.setIfInBounds_toArray, List.set_cons_zero, List.set_cons_succ]
    refine take_to 4 (some 10) (v := vS x2) rfl rfl (by kernel_rfl) (by kernel_rfl) (by kernel_rfl) (fun _ _ _ h => h) (Or.inl ⟨by rfl, ?_⟩) (by first | trivial | assumption) ?_
    focus (intro w hSw; clear hSw; go_simp; rw [if_neg (by omega)]; first | rw [hB.out] | skip)
    try simp only [Act.put, List.setIfInBounds_toArray, List.set_cons_zero, List.set_cons_succ]
    refine wpAnyH_ready (rs := [7]) (by kernel_rfl) (by simp) ?_
    refine AllReadyH.cons rfl (fun K hK => ?_) AllReadyH.nil
    go_simp
    refine (H2.out _ ST.out).mono ?_
    rintro e wx ⟨rfl, hwx⟩
    obtain rfl := hwx.symm
    go_simp
    refine hK.out _ _ HXd.out.2.2 (fun hHeld => ?_)
    refine take_to 8 (some 14) (v := vS x3) rfl rfl (by kernel_rfl) (by kernel_rfl) (by kernel_rfl) (fun _ _ _ h => h) (Or.inl ⟨by rfl, ?_⟩) (by first | trivial | assumption) ?_
    focus (intro w hSw; clear hSw; go_simp; rw [if_neg (by omega)]; first | rw [hC.out] | skip)
    try simp only [Act.put, List.setIfInBounds_toArray, List.set_cons_zero, List.set_cons_succ]
    refine take_to 9 (some 15) (v := vS tx) rfl rfl (by kernel_rfl) (by kernel_rfl) (by kernel_rfl) (fun _ _ _ h => h) (Or.inl ⟨by rfl, ?_⟩) (by first | trivial | assumption) ?_
    focus (intro w hSw; clear hSw; go_simp; rw [if_neg (by omega)]; first | rw [hD.out] | skip)
    try simp only [Act.put, List.setIfInBounds_toArray, List.set_cons_zero, List.set_cons_succ]
    refine take_to 10 (some 2) (v := ?_) rfl rfl (by kernel_rfl) (by kernel_rfl) (by kernel_rfl) (fun _ _ _ h => h) (Or.inl ⟨by rfl, ?_⟩) (by first | trivial | assumption) ?_
    rotate_left
    focus (intro w hSw; (try dsimp only at hSw); go_simp; (try with_reducible rfl))
    simp only [Act.put, List.setIfInBounds_toArray, List.set_cons_zero, List.set_cons_succ]
    refine wpAnyH_done (by kernel_rfl) ?_ _
    go_wp2_with fail
    go_ret
    exact ⟨rfl, HXd.out.1⟩
  · have HN := Lib.hid (txT_no h)
    have q := ibne h
    rw [HN.out]
    clear h
    have HS := Lib.hid hs
    have HT := Lib.hid ht
    have HCK := Lib.hid (fun W h1 h2 => rcheck_any p t A B c d W hp htl h1 h2)
    clear hs ht
    generalize chk p t = r at *
    go_enter Tryd.func70, Tryd.ntmps70
    go_upto_region 1 with fail
    have HX := Lib.hid (Bx.made w (.slice A p.length c) (.slice B t.length d) 75)
    generalize w.alloc (.cells #[.slice A p.length c, .slice B t.length d] 75) = W0 at *
    have c0 := HX.out.2.2.1
    have c1 := HX.out.2.2.2
    have SP := Lib.hid (HX.out.sl HS.out)
    have ST := Lib.hid (HX.out.sl HT.out)
    go_wp2_with fail
    refine (HCK.out _ SP.out ST.out).mono ?_
    rintro e W1 ⟨rfl, b1⟩
    have HX1 := Lib.hid (HX.out.step b1)
    clear c0 c1 SP ST HX b1 HCK
    have c0 := HX1.out.2.2.1
    have c1 := HX1.out.2.2.2
    go_wp2_with fail
    go_ret
    exact ⟨rfl, HX1.out.1⟩
end Go.Proofs.YtcfdphfochfeoaaDoor.Tp
