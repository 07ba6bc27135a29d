/- Merged texts: Tq2, WoL, QuE, Wn3, Tq3, SpQ, Sp1, Sp2, Sp3, Sp4, Sp5, Sp6, Sp8, Sp9, Sp10. -/
import Derived.Test.YtfmiioddhpkdkaaGreatWh28
import Derived.Deep.Cut
import Derived.Deep.CutBlock
import Derived.Laws.ResultCell
set_option linter.unusedVariables false
/- The theorems' helpers: made: the world of a lock, of a topology that may be, of few threads; two. -/
namespace Go.Proofs.YtfmiioddhpkdkaaGreat.Tq
open Go.RowKit Go.Proofs.YtfmiioddhpkdkaaGreat.Ara Go.Proofs.YtfmiioddhpkdkaaGreat.Tp Go.Proofs.YtfmiioddhpkdkaaGreat.Wo Go.Proofs.YtfmiioddhpkdkaaGreat.Cm

def MadeW (kind : Int) (R : Nat → Nat → World → Prop) (w : World) (e : Ending) (w' : World) : Prop :=
  ∃ gw ga gt gl W2, e = .returned (.pointer (some ⟨gw, 0, none⟩)) ∧ WoB w' gw ga gt gl (Lk.shK kind) ∧ R ga gl W2 ∧ Below W2.heap.size W2 w' ∧ W2.heap.size ≤ gw ∧ gw < w'.heap.size ∧ Below w.heap.size w w'
section
variable (p t : List Int) (A B : Option Addr) (c d : Nat) (w : World) (hs : Sl w w.heap.size A (p.flatMap decI)) (ht : Sl w w.heap.size B (t.flatMap decI)) (n0 n1 n2 n3 : Int)
include hs ht
set_option maxRecDepth 100000 in
theorem made_no (h : ¬ (chk p t = 0 ∧ t.length ≤ 8)) : Calls Tryz.prog 6 #[(.agg #[.slice A p.length c, .slice B t.length d]), (.agg #[.int .u8 n0, .int .u8 n1, .int .u8 n2, .int .u8 n3]), .int .i64 8] w fun e w' => e = .returned (.pointer none) ∧ Below w.heap.size w w' := by
  have hsm := fun W h1 h2 => Rn.small_any p t A B c d W h1 h2 8
  rw [show (decide (chk p t = 0) && decide ((t.length : Int) ≤ 8)) = false by
    by_cases h1 : chk p t = 0
    · rw [decide_eq_true h1, Bool.true_and]; exact decide_eq_false (by omega)
    · rw [decide_eq_false h1, Bool.false_and]] at hsm
  have HSM := Lib.hid hsm
  have HS := Lib.hid hs
  have HT := Lib.hid ht
  clear hsm hs ht h
  go_enter Tryz.func6, Tryz.ntmps6
  go_wp2_with fail
  have hb1 := below_new w (.cells #[.slice A p.length c, .slice B t.length d] 24)
  have hx1 := blk_new w (.cells #[.slice A p.length c, .slice B t.length d] 24)
  have hz1 : (w.alloc (.cells #[.slice A p.length c, .slice B t.length d] 24)).heap.size = w.heap.size + 1 := by simp
  generalize w.alloc (.cells #[.slice A p.length c, .slice B t.length d] 24) = W1 at *
  have hb2 := below_new W1 (.cells #[.int .u8 n0, .int .u8 n1, .int .u8 n2, .int .u8 n3] 25)
  have hx2 := blk_new W1 (.cells #[.int .u8 n0, .int .u8 n1, .int .u8 n2, .int .u8 n3] 25)
  generalize W1.alloc (.cells #[.int .u8 n0, .int .u8 n1, .int .u8 n2, .int .u8 n3] 25) = W2 at *
  have HB2 := Lib.hid (hb1.trans (hb2.mono hb1.size))
  have HX1 := Lib.hid ((Mod.of_below (S := []) hb2).blk hx1 (by simp))
  rw [hz1] at hx2
  have HX2 := Lib.hid hx2
  clear hb1 hx1 hb2 hx2 hz1
  have b0 := blk_cell HX1.out 0 (by simp)
  have b1 := blk_cell HX1.out 1 (by simp)
  simp only [List.getElem_toArray, List.getElem_cons_zero, List.getElem_cons_succ] at b0 b1
  refine (HSM.out W2 ((Sl.below HS.out HB2.out).more HB2.out.size) ((Sl.below HT.out HB2.out).more HB2.out.size)).mono ?_
  rintro e W3 ⟨rfl, hb3⟩
  have HB3 := Lib.hid (HB2.out.trans (hb3.mono HB2.out.size))
  clear hb3
  go_wp2_with fail
  go_ret
  exact ⟨rfl, HB3.out⟩
set_option maxRecDepth 100000 in
theorem made_yes (h0 : 0 ≤ n0 ∧ n0 ≤ 255) (h1 : 0 ≤ n1 ∧ n1 ≤ 255) (h2 : 0 ≤ n2 ∧ n2 ≤ 255) (h3 : 0 ≤ n3 ∧ n3 ≤ 255) (hck : chk p t = 0) (h8 : t.length ≤ 8) (R : Nat → Nat → World → Prop)
    (HW : ∀ W, Below w.heap.size w W → Calls Tryz.prog 18 #[(.agg #[.slice A p.length c, .slice B t.length d]), spV n0 n1 n2 n3] W (NewW (1 + n3 % 13) R W)) :
    Calls Tryz.prog 6 #[(.agg #[.slice A p.length c, .slice B t.length d]), (.agg #[.int .u8 n0, .int .u8 n1, .int .u8 n2, .int .u8 n3]), .int .i64 8] w (MadeW (1 + n3 % 13) R w) := by
  have hsm := fun W h1 h2 => Rn.small_any p t A B c d W h1 h2 8
  rw [show (decide (chk p t = 0) && decide ((t.length : Int) ≤ 8)) = true by rw [decide_eq_true hck, decide_eq_true (by omega)]; rfl] at hsm
  have HSM := Lib.hid hsm
  have HS := Lib.hid hs
  have HT := Lib.hid ht
  have HWN := Lib.hid HW
  have HSP := Lib.hid (fun W => spec_any n0 n1 n2 n3 h0 h1 h2 h3 W)
  clear hsm hs ht HW
  unfold MadeW
  go_enter Tryz.func6, Tryz.ntmps6
  go_wp2_with fail
  have hb1 := below_new w (.cells #[.slice A p.length c, .slice B t.length d] 24)
  have hx1 := blk_new w (.cells #[.slice A p.length c, .slice B t.length d] 24)
  have hz1 : (w.alloc (.cells #[.slice A p.length c, .slice B t.length d] 24)).heap.size = w.heap.size + 1 := by simp
  generalize w.alloc (.cells #[.slice A p.length c, .slice B t.length d] 24) = W1 at *
  have hb2 := below_new W1 (.cells #[.int .u8 n0, .int .u8 n1, .int .u8 n2, .int .u8 n3] 25)
  have hx2 := blk_new W1 (.cells #[.int .u8 n0, .int .u8 n1, .int .u8 n2, .int .u8 n3] 25)
  generalize W1.alloc (.cells #[.int .u8 n0, .int .u8 n1, .int .u8 n2, .int .u8 n3] 25) = W2 at *
  have HB2 := Lib.hid (hb1.trans (hb2.mono hb1.size))
  have HX1 := Lib.hid ((Mod.of_below (S := []) hb2).blk hx1 (by simp))
  rw [hz1] at hx2
  have HX2 := Lib.hid hx2
  clear hb1 hx1 hb2 hx2 hz1
  have b0 := blk_cell HX1.out 0 (by simp)
  have b1 := blk_cell HX1.out 1 (by simp)
  simp only [List.getElem_toArray, List.getElem_cons_zero, List.getElem_cons_succ] at b0 b1
  refine (HSM.out W2 ((Sl.below HS.out HB2.out).more HB2.out.size) ((Sl.below HT.out HB2.out).more HB2.out.size)).mono ?_
  rintro e W3 ⟨rfl, hb3⟩
  have hz3 := hb3.size
  have HB3 := Lib.hid (HB2.out.trans (hb3.mono HB2.out.size))
  have HY1 := Lib.hid ((Mod.of_below (S := []) hb3).blk HX1.out (by simp))
  have HY2 := Lib.hid ((Mod.of_below (S := []) hb3).blk HX2.out (by simp))
  clear hb3 b0 b1 HX1 HX2 HB2 HSM
  go_upto_region 3 with fail
  have HBd := Lib.hid (show Below w.heap.size w W3.drew from Below.drew HB3.out)
  have HZ1 := Lib.hid (show W3.drew.heap[w.heap.size]? = some (.cells #[.slice A p.length c, .slice B t.length d] 24 (0, 0)) from HY1.out)
  have HZ2 := Lib.hid (show W3.drew.heap[w.heap.size + 1]? = some (.cells #[.int .u8 n0, .int .u8 n1, .int .u8 n2, .int .u8 n3] 25 (0, 0)) from HY2.out)
  have SW := And.intro (And.intro (blk_cell HZ1.out 0 (by simp)) (blk_cell HZ1.out 1 (by simp))) (And.intro (And.intro (blk_cell HZ2.out 0 (by simp)) (blk_cell HZ2.out 1 (by simp))) (And.intro (blk_cell HZ2.out 2 (by simp)) (blk_cell HZ2.out 3 (by simp))))
  simp only [List.getElem_toArray, List.getElem_cons_zero, List.getElem_cons_succ] at SW
  refine wp_region_held_drew (S := fun V => (V.cell? ⟨w.heap.size, 0, none⟩ = some (.slice A p.length c) ∧ V.cell? ⟨w.heap.size, 1, none⟩ = some (.slice B t.length d)) ∧ (V.cell? ⟨w.heap.size + 1, 0, none⟩ = some (.int .u8 n0) ∧ V.cell? ⟨w.heap.size + 1, 1, none⟩ = some (.int .u8 n1)) ∧ V.cell? ⟨w.heap.size + 1, 2, none⟩ = some (.int .u8 n2) ∧ V.cell? ⟨w.heap.size + 1, 3, none⟩ = some (.int .u8 n3)) (by kernel_rfl) SW (fun hHeld => ?_)
  clear HY1 HY2 HB3
  generalize W3.drew = W4 at *
  refine tkA 0 14 (v := ?_) ?_ ?_
  rotate_left
  focus (intro w hSw; (try dsimp only at hSw); go_simp; (try with_reducible rfl))
  simp only [Act.put, List.setIfInBounds_toArray, List.set_cons_zero, List.set_cons_succ]
  refine tkA 1 15 (v := ?_) ?_ ?_
  rotate_left
  focus (intro w hSw; (try dsimp only at hSw); go_simp; (try with_reducible rfl))
  simp only [Act.put, List.setIfInBounds_toArray, List.set_cons_zero, List.set_cons_succ]
  refine wpAnyH_ready (rs := [2]) (by kernel_rfl) (by simp) ?_
  refine AllReadyH.cons rfl (fun K hK => ?_) AllReadyH.nil
  go_simp
  refine (HSP.out W4).mono ?_
  rintro e W5 ⟨rfl, hb5⟩
  have HB5 := Lib.hid (HBd.out.trans (hb5.mono HBd.out.size))
  have HV1 := Lib.hid ((Mod.of_below (S := []) hb5).blk HZ1.out (by simp))
  have HV2 := Lib.hid ((Mod.of_below (S := []) hb5).blk HZ2.out (by simp))
  have SW5 := And.intro (And.intro (blk_cell HV1.out 0 (by simp)) (blk_cell HV1.out 1 (by simp))) (And.intro (And.intro (blk_cell HV2.out 0 (by simp)) (blk_cell HV2.out 1 (by simp))) (And.intro (blk_cell HV2.out 2 (by simp)) (blk_cell HV2.out 3 (by simp))))
  simp only [List.getElem_toArray, List.getElem_cons_zero, List.getElem_cons_succ] at SW5
  have HW5 := Lib.hid (HWN.out W5 HB5.out)
  clear hb5 HZ1 HZ2 SW HWN HSP HBd
  unfold spV at HW5 ⊢
  go_simp
  refine hK.out _ _ SW5 (fun hHeld => ?_)
  refine wpAnyH_ready (rs := [3]) (by kernel_rfl) (by simp) ?_
  refine AllReadyH.cons rfl (fun K hK => ?_) AllReadyH.nil
  go_simp
  refine HW5.out.mono ?_
  unfold NewW
  rintro e W6 ⟨gw, ga, gt, gl, V2, rfl, e2, e3, e4, e5, e6, hb6⟩
  have HR6 := Lib.hid (And.intro e2 (And.intro e3 (And.intro e4 (And.intro e5 e6))))
  have HB6 := Lib.hid (HB5.out.trans (hb6.mono HB5.out.size))
  have HU1 := Lib.hid ((Mod.of_below (S := []) hb6).blk HV1.out (by simp))
  have HU2 := Lib.hid ((Mod.of_below (S := []) hb6).blk HV2.out (by simp))
  have SW6 := And.intro (And.intro (blk_cell HU1.out 0 (by simp)) (blk_cell HU1.out 1 (by simp))) (And.intro (And.intro (blk_cell HU2.out 0 (by simp)) (blk_cell HU2.out 1 (by simp))) (And.intro (blk_cell HU2.out 2 (by simp)) (blk_cell HU2.out 3 (by simp))))
  simp only [List.getElem_toArray, List.getElem_cons_zero, List.getElem_cons_succ] at SW6
  clear hb6 e2 e3 e4 e5 e6 HV1 HV2 SW5 HW5 HU1 HU2 HB5
  go_simp
  refine hK.out _ _ SW6 (fun hHeld => ?_)
  refine tkA 4 13 (v := ?_) ?_ ?_
  rotate_left
  focus (intro w hSw; (try dsimp only at hSw); go_simp; (try with_reducible rfl))
  simp only [Act.put, List.setIfInBounds_toArray, List.set_cons_zero, List.set_cons_succ]
  refine tkA 5 18 (v := ?_) ?_ ?_
  rotate_left
  focus (intro w hSw; (try dsimp only at hSw); go_simp; (try with_reducible rfl))
  simp only [Act.put, List.setIfInBounds_toArray, List.set_cons_zero, List.set_cons_succ]
  refine tkA 6 19 (v := ?_) ?_ ?_
  rotate_left
  focus (intro w hSw; (try dsimp only at hSw); go_simp; (try with_reducible rfl))
  simp only [Act.put, List.setIfInBounds_toArray, List.set_cons_zero, List.set_cons_succ]
  refine tkA 7 7 (v := ?_) ?_ ?_
  rotate_left
  focus (intro w hSw; (try dsimp only at hSw); go_simp; (try with_reducible rfl))
  simp only [Act.put, List.setIfInBounds_toArray, List.set_cons_zero, List.set_cons_succ]
  refine tkA 8 8 (v := ?_) ?_ ?_
  rotate_left
  focus (intro w hSw; (try dsimp only at hSw); go_simp; (try with_reducible rfl))
  simp only [Act.put, List.setIfInBounds_toArray, List.set_cons_zero, List.set_cons_succ]
  refine wpAnyH_done (by kernel_rfl) ?_ _
  clear SW6
  go_wp2_with fail
  go_ret
  exact ⟨gw, ga, gt, gl, V2, rfl, HR6.out.1, HR6.out.2.1, HR6.out.2.2.1, HR6.out.2.2.2.1, HR6.out.2.2.2.2, HB6.out⟩
end
theorem two_any (w : World) : Calls Tryz.prog 20 #[] w fun e w' => ∃ A B, e = .returned (.agg #[.slice A twoP.length 3, .slice B twoT.length 4]) ∧ Sl w' w'.heap.size A (twoP.flatMap decI) ∧ Sl w' w'.heap.size B (twoT.flatMap decI) ∧ Below w.heap.size w w' := by
  have HN := Lib.hid (below_new w (.cells #[.slice none 0 0, .slice none 0 0] 24))
  go_enter Tryz.func20, Tryz.ntmps20
  go_wp2_with fail
  (try simp only [Exit.inBlock, Exit.then])
  have hB1 : (((w.alloc (.cells #[.slice (some ⟨w.heap.size + 1, 0, none⟩) 3 3, .slice (some ⟨w.heap.size + 1 + 1, 0, none⟩) 4 4] 24)).alloc (.cells #[.int .i64 (-1), .int .i64 0, .int .i64 0] 3)).alloc (.cells #[.int .i64 1, .int .i64 1, .int .i64 2, .int .i64 2] 3)).heap[w.heap.size + 1]? = some (.cells (its twoP) 3 (0, 0)) := by
    refine blk_alloc ?_ _
    have := blk_new (w.alloc (.cells #[.slice (some ⟨w.heap.size + 1, 0, none⟩) 3 3, .slice (some ⟨w.heap.size + 1 + 1, 0, none⟩) 4 4] 24)) (.cells #[.int .i64 (-1), .int .i64 0, .int .i64 0] 3)
    rw [show (w.alloc (.cells #[.slice (some ⟨w.heap.size + 1, 0, none⟩) 3 3, .slice (some ⟨w.heap.size + 1 + 1, 0, none⟩) 4 4] 24)).heap.size = w.heap.size + 1 by simp] at this
    exact this
  have hB2 : (((w.alloc (.cells #[.slice (some ⟨w.heap.size + 1, 0, none⟩) 3 3, .slice (some ⟨w.heap.size + 1 + 1, 0, none⟩) 4 4] 24)).alloc (.cells #[.int .i64 (-1), .int .i64 0, .int .i64 0] 3)).alloc (.cells #[.int .i64 1, .int .i64 1, .int .i64 2, .int .i64 2] 3)).heap[w.heap.size + 1 + 1]? = some (.cells (its twoT) 3 (0, 0)) := by
    have := blk_new ((w.alloc (.cells #[.slice (some ⟨w.heap.size + 1, 0, none⟩) 3 3, .slice (some ⟨w.heap.size + 1 + 1, 0, none⟩) 4 4] 24)).alloc (.cells #[.int .i64 (-1), .int .i64 0, .int .i64 0] 3)) (.cells #[.int .i64 1, .int .i64 1, .int .i64 2, .int .i64 2] 3)
    rw [show ((w.alloc (.cells #[.slice (some ⟨w.heap.size + 1, 0, none⟩) 3 3, .slice (some ⟨w.heap.size + 1 + 1, 0, none⟩) 4 4] 24)).alloc (.cells #[.int .i64 (-1), .int .i64 0, .int .i64 0] 3)).heap.size = w.heap.size + 1 + 1 by simp] at this
    exact this
  have hb : Below w.heap.size w (((w.alloc (.cells #[.slice (some ⟨w.heap.size + 1, 0, none⟩) 3 3, .slice (some ⟨w.heap.size + 1 + 1, 0, none⟩) 4 4] 24)).alloc (.cells #[.int .i64 (-1), .int .i64 0, .int .i64 0] 3)).alloc (.cells #[.int .i64 1, .int .i64 1, .int .i64 2, .int .i64 2] 3)) :=
    (((Below.refl _ _).alloc (Nat.le_refl _) _).alloc (by simp) _).alloc (by simp; omega) _
  have s1 := Pa.sl_rw (l := twoP) (fun j hj => its_cell hB1 hj) (lt_of_blk hB1)
  have s2 := Pa.sl_rw (l := twoT) (fun j hj => its_cell hB2 hj) (lt_of_blk hB2)
  exact bodyPost_ret (v := .agg #[.slice (some ⟨w.heap.size + 1, 0, none⟩) 3 3, .slice (some ⟨w.heap.size + 1 + 1, 0, none⟩) 4 4]) (by simp [results, Tryz.results20, go_sem]) rfl ⟨_, _, rfl, s1, s2, hb⟩
end Go.Proofs.YtfmiioddhpkdkaaGreat.Tq

/- A pick at a flat lock of a world: the plain law's act. -/
namespace Go.Proofs.YtfmiioddhpkdkaaGreat.Wo
open Go.RowKit Go.Proofs.YtfmiioddhpkdkaaGreat.Ara Go.Proofs.YtfmiioddhpkdkaaGreat.Lok Go.Proofs.YtfmiioddhpkdkaaGreat.Ga Go.Proofs.YtfmiioddhpkdkaaGreat.Wf Go.Proofs.YtfmiioddhpkdkaaGreat.Fl

theorem wact_flat (p : PK) (n : Nat) (σ : Ar) (sp : List Sp) (hn : sp.length = n) (hc : ∀ t, gst (spOf sp t) = 1 → (doK p σ sp 0 t).1 = true → (spOf (doK p σ sp 0 t).2.2 t).pc = 10) (t w : Int) :
    wact (ldF p n) (σ, sp) t w = fact p σ sp t w := by
  unfold wact fact
  rw [hn]
  by_cases ht : t < 0 ∨ (n : Int) ≤ t
  · rw [if_pos (show t < 0 ∨ ((ldF p n).N : Int) ≤ t from ht), if_pos ht]
  rw [if_neg (show ¬ (t < 0 ∨ ((ldF p n).N : Int) ≤ t) from ht), if_neg ht]
  by_cases h0 : w = 0
  · rw [if_pos h0, if_pos h0]
    unfold wstep
    show (if gst (spOf sp t) = 1 then ((if (doK p σ sp 0 t).1 then ((2 : Int), t, false, if (spOf (doK p σ sp 0 t).2.2 t).pc = 10 then (1 : Int) else 0) else (0, t, false, 0)), (doK p σ sp 0 t).2) else if gst (spOf sp t) = 3 then ((if (doK p σ sp 0 t).1 then ((4 : Int), t, false, (0 : Int)) else (0, t, false, 0)), (doK p σ sp 0 t).2) else ((0, t, false, 0), σ, sp)) = _
    by_cases h1 : gst (spOf sp t) = 1
    · have h13 : gst (spOf sp t) = 1 ∨ gst (spOf sp t) = 3 := .inl h1
      rw [if_pos h13]
      simp only [h1, if_true]
      by_cases hb : (doK p σ sp 0 t).1 = true
      · simp only [hb, if_true, hc t h1 hb]
      · simp only [hb, if_false]
        rfl
    · rw [if_neg h1]
      by_cases h3 : gst (spOf sp t) = 3
      · have h13 : gst (spOf sp t) = 1 ∨ gst (spOf sp t) = 3 := .inr h3
        rw [if_pos h13, if_pos h3]
        simp only [h1, if_false]
      · rw [if_neg h3, if_neg (by omega)]
  rw [if_neg h0, if_neg h0]
  by_cases h1 : w = 1
  · rw [if_pos h1, if_pos h1]
    rfl
  rw [if_neg h1, if_neg h1]
  by_cases h3 : w = 3
  · rw [if_pos h3, if_neg (by omega)]
    rfl
  rw [if_neg h3]
  by_cases h2 : w = 2
  · rw [if_pos h2, if_pos h2]
    rfl
  rw [if_neg h2, if_neg h2]
  by_cases h4 : w = 4
  · rw [if_pos h4]
    rfl
  rw [if_neg h4]
  rfl
theorem wact_ok {p : PK} {n m : Nat} {σ : Ar} {sp : List Sp} (h : OkK p σ sp n m) (t w : Int) : wact (ldF p n) (σ, sp) t w = fact p σ sp t w := by
  refine wact_flat p n σ sp h.len (fun u h1 hb => ?_) t w
  have hg : 0 < (spOf sp u).pc ∧ (spOf sp u).pc < 10 := by
    have := h.pos u
    unfold gst at h1
    repeat' split at h1
    all_goals omega
  rcases (h.step_pc u).2.2.1 hg.1 hg.2 with ⟨_, h2⟩ | ⟨h2, _⟩
  · exact h2
  · rw [hb] at h2
    cases h2
end Go.Proofs.YtfmiioddhpkdkaaGreat.Wo

/- A lock that keeps order has a queue: the plain law. -/
namespace Go.Proofs.YtfmiioddhpkdkaaGreat.Fl
open Go.RowKit Go.Proofs.YtfmiioddhpkdkaaGreat.Ara Go.Proofs.YtfmiioddhpkdkaaGreat.Lok

theorem OkK.queue {p : PK} {σ : Ar} {sp : List Sp} {n m : Nat} (h : OkK p σ sp n m) : (∃ P, p = .tas P) ∨ ∃ q, QuK p σ sp q := by
  cases p with
  | tas P => exact .inl ⟨P, rfl⟩
  | tic P =>
    right
    obtain ⟨S, T, hi, _⟩ := Tk.OkP.inv h
    have hle := hi.le
    have hc : ∀ k : Nat, ∃ i, k < T - S → Tk.inq (spOf sp i) ∧ (spOf sp i).a = (S : Int) + k := fun k => by
      by_cases hk : k < T - S
      · obtain ⟨i, h1, h2⟩ := hi.all ((S : Int) + k) (by omega) (by omega)
        exact ⟨i, fun _ => ⟨h1, h2⟩⟩
      · exact ⟨0, fun h => absurd h hk⟩
    refine ⟨(List.range (T - S)).map fun k => (hc k).choose, S, T, hi, by simp; omega, fun k hk => ?_⟩
    rw [List.getElem_map, List.getElem_range]
    exact (hc k).choose_spec (by simpa using hk)
  | par P =>
    right
    obtain ⟨S, T, hi, _⟩ := Pt.OkP.inv h
    have hle := hi.le
    have hc : ∀ k : Nat, ∃ i, k < T - S → Pt.inq (spOf sp i) ∧ (spOf sp i).a = (S : Int) + k := fun k => by
      by_cases hk : k < T - S
      · obtain ⟨i, h1, h2⟩ := hi.all ((S : Int) + k) (by omega) (by omega)
        exact ⟨i, fun _ => ⟨h1, h2⟩⟩
      · exact ⟨0, fun h => absurd h hk⟩
    refine ⟨(List.range (T - S)).map fun k => (hc k).choose, S, T, hi, by simp; omega, fun k hk => ?_⟩
    rw [List.getElem_map, List.getElem_range]
    exact (hc k).choose_spec (by simpa using hk)
  | mcs P => obtain ⟨q, hi⟩ := Mc.OkP.inv h; exact .inr ⟨q, hi⟩
  | clh P => obtain ⟨z, q, hi⟩ := Cl.OkP.inv h; exact .inr ⟨q, z, hi⟩
end Go.Proofs.YtfmiioddhpkdkaaGreat.Fl

/- Package world: a world of a flat lock, of a cohort lock, as New leaves it. -/
namespace Go.Proofs.YtfmiioddhpkdkaaGreat.Wo
open Go.RowKit Go.Proofs.YtfmiioddhpkdkaaGreat.Ara Go.Proofs.YtfmiioddhpkdkaaGreat.Tp Go.Proofs.YtfmiioddhpkdkaaGreat.Lok Go.Proofs.YtfmiioddhpkdkaaGreat.Fl Go.Proofs.YtfmiioddhpkdkaaGreat.Lk Go.Proofs.YtfmiioddhpkdkaaGreat.Co Go.Proofs.YtfmiioddhpkdkaaGreat.Cm Go.Proofs.YtfmiioddhpkdkaaGreat.Ga Go.Proofs.YtfmiioddhpkdkaaGreat.Sp Go.Proofs.YtfmiioddhpkdkaaGreat.Wf

theorem woa_flat {B : Nat} {kind par : Int} {T : Nat} (hM : mayK kind T par) (hs : sizeK kind T par ≤ 4096) {gw ga gt gl : Nat} {W2 w' : World} (hW : WoB w' gw ga gt gl (shK kind)) (hR : RF B kind par T ga gl W2) (hb : Below W2.heap.size W2 w') (h1 : W2.heap.size ≤ gw) (h2 : gw < w'.heap.size) :
    ∃ c : Fp, c.g = gl ∧ (∀ q ∈ [c.ga, c.ha, c.hs], B ≤ q) ∧ LI gl (ldF (pkK kind par 1) T) (fun k W x => FA c (pkK kind par 1) T 0 w'.heap.size k W x ∧ w'.heap.size ≤ W.heap.size) (fun b => b = false) [c.ga, c.ha, c.hs] w'.heap.size ∧
      WoA gw ga gt gl (ldF (pkK kind par 1) T) (fun k W x => FA c (pkK kind par 1) T 0 w'.heap.size k W x ∧ w'.heap.size ≤ W.heap.size) [c.ga, c.ha, c.hs] w'.heap.size 0 w' (tak kind T par (Ar.fresh 4096)) := by
  obtain ⟨gf, gk, gh, ha, r1, r2, ⟨r3, r4, r5⟩, r6, r7, r8, r9⟩ := hR
  obtain ⟨b1, b2, b3, b4⟩ := r2.blocks
  have hgl : gl < W2.heap.size := lt_of_blk r1
  have hz := hb.size
  have hsh : shK kind = false := by unfold shK; rw [decide_eq_false (by have := hM.1; omega)]; rfl
  rw [hsh] at hW
  have hok : OkK (pkK kind par 1) (tak kind T par (Ar.fresh 4096)).1 (tak kind T par (Ar.fresh 4096)).2 T (0 + 0) := ok_flat kind T par hM (Ar.fresh 4096) (fun k _ => zeros_at 4096 k) (by rw [fresh_len]; show 0 + _ ≤ _; omega) (by rw [fresh_len]; exact Nat.le_refl _) 0 (Nat.le_refl _)
  refine ⟨⟨gl, gf, gk, ga, ha, gh, kind⟩, rfl, fun q hq => by simp at hq; omega, li_flat (c := ⟨gl, gf, gk, ga, ha, gh, kind⟩) (p := pkK kind par 1) (n := T) (m0 := 0) (L := w'.heap.size) (by omega) ⟨by show ga < _; omega, by show ha < _; omega, by show gh < _; omega⟩, ⟨hW, ⟨⟨r1.same hb, r2.same hb, hok, hM.1.2, ⟨r3, r4, r5⟩, ⟨by show gl < _; omega, by show gf < _; omega, by show gk < _; omega, by show ga < _; omega, by show ha < _; omega, by show gh < _; omega⟩⟩, Nat.le_refl _⟩, by simp; omega, h2, Nat.le_refl _⟩⟩
theorem woa_co {B : Nat} {q : Nw} (O : q.Ok) (hr : q.tN 0 q.NN ≤ 4096) (hB : Bud.right q.B = true) {gw ga gt gl : Nat} {W2 w' : World} (hW : WoB w' gw ga gt gl (shK 6)) (hR : RC B q ga gl W2) (hb : Below W2.heap.size W2 w') (h1 : W2.heap.size ≤ gw) (h2 : gw < w'.heap.size) :
    ∃ c : Cd, (∀ x ∈ colS c.col w'.heap.size, B ≤ x) ∧ LI gl (ldC (q.pm (Ar.fresh 4096))) (fun k W x => CA gl 6 c (q.pm (Ar.fresh 4096)) (q.NN + 1) w'.heap.size k W x) (fun b => b = false) (colS c.col w'.heap.size) w'.heap.size ∧
      WoA gw ga gt gl (ldC (q.pm (Ar.fresh 4096))) (fun k W x => CA gl 6 c (q.pm (Ar.fresh 4096)) (q.NN + 1) w'.heap.size k W x) (colS c.col w'.heap.size) w'.heap.size 0 w' (q.st (Ar.fresh 4096)) := by
  obtain ⟨cd, r1, r2, r3, r4⟩ := hR
  have hgl : gl < W2.heap.size := lt_of_blk r1
  have hz := hb.size
  have hsh : shK 6 = false := by decide
  rw [hsh] at hW
  have hrm : q.tN (Ar.fresh 4096).t q.NN ≤ (Ar.fresh 4096).ws.length := by rw [fresh_len]; exact hr
  have hNN : q.NN ≤ 4000 := by
    have : ∀ n, n ≤ q.NN → n ≤ q.tN 0 n := fun n => by
      induction n with
      | zero => intro _; exact Nat.zero_le _
      | succ n ih => intro h; have := ih (by omega); unfold Nw.tN; omega
    have := this q.NN (Nat.le_refl _)
    have h5 := O.g.2.1.2
    omega
  have K := r2.same hb
  refine ⟨cd, fun x hx => ?_, li_co (Nw.dj O hrm) hB (by omega), ⟨hW, ⟨r1.same hb, K, Nw.ci O hrm (fun k _ => zeros_at 4096 k) (by rw [fresh_len]; exact Nat.le_refl _) (by show 0 + q.NN + 1 ≤ q.NN + 1 + 0; omega), rfl, r3, ⟨by omega, CoAt.clo K⟩, fun x hx => K.s.fresh x hx, Nat.le_refl _⟩, fun hx => ?_, h2, Nat.le_refl _⟩⟩
  · have := (mem_colS.1 hx).2
    exact Nat.le_of_not_lt fun h => this (r4 x h)
  · exact (mem_colS.1 hx).2 (r2.s.fresh gw h1)
theorem pk_order' {kind par : Int} {a : Nat} (h : 2 ≤ kind ∧ kind ≤ 5) {σ : Ar} {sp : List Sp} {n m : Nat} (ho : OkK (pkK kind par a) σ sp n m) : (∃ q, QuK (pkK kind par a) σ sp q) ∧ 1 ≤ dr (pkK kind par a) := by
  rcases (show kind = 2 ∨ kind = 3 ∨ kind = 4 ∨ kind = 5 by omega) with rfl | rfl | rfl | rfl
  · refine ⟨?_, by show (1 : Int) ≤ 1; omega⟩
    rcases ho.queue with ⟨P, h1⟩ | h1
    · have : (PK.tic ⟨a⟩) = PK.tas P := h1
      cases this
    · exact h1
  · refine ⟨?_, by show (1 : Int) ≤ 1; omega⟩
    rcases ho.queue with ⟨P, h1⟩ | h1
    · have : (PK.par ⟨a, par⟩) = PK.tas P := h1
      cases this
    · exact h1
  · refine ⟨?_, by show (1 : Int) ≤ 3; omega⟩
    rcases ho.queue with ⟨P, h1⟩ | h1
    · have : (PK.mcs ⟨a⟩) = PK.tas P := h1
      cases this
    · exact h1
  · refine ⟨?_, by show (1 : Int) ≤ 2; omega⟩
    rcases ho.queue with ⟨P, h1⟩ | h1
    · have : (PK.clh ⟨a⟩) = PK.tas P := h1
      cases this
    · exact h1
theorem far_start {kind par : Int} {T : Nat} (hk : 2 ≤ kind ∧ kind ≤ 5) (hM : mayK kind T par) (hs : sizeK kind T par ≤ 4096) : FaR (pkK kind par 1) (tak kind T par (Ar.fresh 4096), []) [] := by
  have hok : OkK (pkK kind par 1) (tak kind T par (Ar.fresh 4096)).1 (tak kind T par (Ar.fresh 4096)).2 T 0 := ok_flat kind T par hM (Ar.fresh 4096) (fun k _ => zeros_at 4096 k) (by rw [fresh_len]; show 0 + _ ≤ _; omega) (by rw [fresh_len]; exact Nat.le_refl _) 0 (Nat.le_refl _)
  obtain ⟨⟨q, hq⟩, hd⟩ := pk_order' hk hok
  have hz : ∀ i, (spOf (tak kind T par (Ar.fresh 4096)).2 i).pc = 0 := fun i => tak_zero hM (by rw [fresh_len]; show 0 + _ ≤ _; omega) i
  have hnil : q = [] := by
    cases q with
    | nil => rfl
    | cons i r =>
      have := (QuK.mem hq i).1 (List.mem_cons_self ..)
      rw [hz i] at this
      omega
  subst hnil
  refine ⟨[], [], [], rfl, ⟨hq, List.Pairwise.nil, fun s hs => absurd hs List.not_mem_nil, fun s hs => absurd hs List.not_mem_nil, rfl, fun t ht => ?_, fun t ht => ?_, .inl rfl⟩⟩
  · have : 10 ≤ (spOf (tak kind T par (Ar.fresh 4096)).2 t).pc := ht
    rw [hz t] at this
    omega
  · have : 0 < (spOf (tak kind T par (Ar.fresh 4096)).2 t).pc := ht
    rw [hz t] at this
    omega
end Go.Proofs.YtfmiioddhpkdkaaGreat.Wo

/- The theorems' helpers: awake: two threads, one behind the other. -/
namespace Go.Proofs.YtfmiioddhpkdkaaGreat.Tq
open Go.RowKit Go.Proofs.YtfmiioddhpkdkaaGreat.Ara Go.Proofs.YtfmiioddhpkdkaaGreat.Tp Go.Proofs.YtfmiioddhpkdkaaGreat.Lok Go.Proofs.YtfmiioddhpkdkaaGreat.Wo Go.Proofs.YtfmiioddhpkdkaaGreat.Co Go.Proofs.YtfmiioddhpkdkaaGreat.Cm Go.Proofs.YtfmiioddhpkdkaaGreat.Wf

theorem frame75 {a : Act} (h : a.tmps.size = 75) (hd : a.defers = []) : ∃ u : Nat → Value, a = { tmps := #[u 0, u 1, u 2, u 3, u 4, u 5, u 6, u 7, u 8, u 9, u 10, u 11, u 12, u 13, u 14, u 15, u 16, u 17, u 18, u 19, u 20, u 21, u 22, u 23, u 24, u 25, u 26, u 27, u 28, u 29, u 30, u 31, u 32, u 33, u 34, u 35, u 36, u 37, u 38, u 39, u 40, u 41, u 42, u 43, u 44, u 45, u 46, u 47, u 48, u 49, u 50, u 51, u 52, u 53, u 54, u 55, u 56, u 57, u 58, u 59, u 60, u 61, u 62, u 63, u 64, u 65, u 66, u 67, u 68, u 69, u 70, u 71, u 72, u 73, u 74], defers := [] } ∧ ∀ n, a.tmps.getD n undef = u n := by
  refine ⟨fun n => a.tmps.getD n undef, ?_, fun _ => rfl⟩
  have h1 := arr_lit a.tmps h
  cases a with
  | mk t d =>
    simp only at hd h1
    subst hd
    congr 1
def dPk (q : Int × Int) : List Value := [.int .i64 q.1, .int .i64 q.2]
theorem row_cell {W : World} {g : Nat} {T : TypeId} {α : Type} {dec : α → List Value} {k : Nat} (hdk : ∀ a, (dec a).length = k) {l : List α} (h : W.heap[g]? = some (.cells (l.flatMap dec).toArray T (0, 0))) {i j : Nat} (hi : i < l.length) (hj : j < k) : W.cell? ⟨g, i * k + j, none⟩ = (dec l[i])[j]? := by
  have h3 := flat_get hdk l i j hj l[i] (List.getElem?_eq_getElem hi)
  have hl : i * k + j < (l.flatMap dec).length := by
    rw [flat_len hdk]
    have : i * k + k ≤ l.length * k := by rw [← Nat.succ_mul]; exact Nat.mul_le_mul_right k hi
    omega
  rw [blk_cell h (i * k + j) (by simpa using hl), ← h3]
  simp [hl]
abbrev awAt (gw ga gt gl : Nat) (c : Cd) (L k : Nat) (W : World) (x : CS) : Prop := WoA gw ga gt gl (ldC pmW) (fun k W x => CA gl 6 c pmW (nwW.NN + 1) L k W x) (colS c.col L) L k W x
def AwJ (gw ga gt gl : Nat) (c : Cd) (L gq gp : Nat) (w : World) (a : Act) (W : World) : Prop :=
  a.tmps.size = 75 ∧ a.defers = [] ∧ a.tmps.getD 1 undef = .pointer (some ⟨gw, 0, none⟩) ∧ a.tmps.getD 3 undef = .pointer (some ⟨gq, 0, none⟩) ∧ a.tmps.getD 5 undef = .slice (some ⟨gp, 0, none⟩) 23 23 ∧ ∃ i : Nat, a.tmps.getD 4 undef = .int .i64 (awC i : Int) ∧ a.tmps.getD 6 undef = .int .i64 (i : Int) ∧ i ≤ 23 ∧ awAt gw ga gt gl c L i W (awk i) ∧ W.heap[gq]? = some (.cells (wantW.flatMap decI).toArray 70 (0, 0)) ∧ W.heap[gp]? = some (.cells (pkW.flatMap dPk).toArray 47 (0, 0)) ∧ Below w.heap.size w W
set_option maxRecDepth 100000 in
set_option maxHeartbeats 8000000 in
theorem awake_any (w : World) : Calls Tryz.prog 8 #[] w fun e w' => e = .returned (.bool true) ∧ Below w.heap.size w w' := by
  go_enter Tryz.func8, Tryz.ntmps8
  go_wp2_with fail
  refine (two_any w).mono ?_
  rintro e W1 ⟨A, B, rfl, s1, s2, hb1⟩
  have HB1 := Lib.hid hb1
  have HN := Lib.hid (wnew_co w.heap.size twoP twoT A B 3 4 W1 hb1.size hckW s1 s2 2 4 1 1 (by decide) (by decide) (by decide) (by decide) (by decide))
  clear s1 s2 hb1
  go_wp2_with fail
  refine HN.out.mono ?_
  unfold NewW
  rintro e W2 ⟨gw, ga, gt, gl, V2, rfl, e2, e3, e4, e5, e6, hb2⟩
  obtain ⟨cd, hc1, hc2, hc3⟩ := woa_co (q := nwW) okW (by decide) brW e2 e3 e4 e5 e6
  have HG := Lib.hid (show LI gl (ldC pmW) (fun k W x => CA gl 6 cd pmW (nwW.NN + 1) W2.heap.size k W x) (fun b => b = false) (colS cd.col W2.heap.size) W2.heap.size from hc2)
  have HK := Lib.hid (show awAt gw ga gt gl cd W2.heap.size 0 W2 (awk 0) from hc3)
  have HB2 := Lib.hid (HB1.out.trans (hb2.mono HB1.out.size))
  have HS := Lib.hid hc1
  clear e2 e3 e4 e5 e6 hb2 hc1 hc2 hc3 HN HB1
  go_wp2_with fail
  have hz1 : (W2.alloc (.cells (wantW.flatMap decI).toArray 70)).heap.size = W2.heap.size + 1 := by simp
  have hbb : Below W2.heap.size W2 ((W2.alloc (.cells (wantW.flatMap decI).toArray 70)).alloc (.cells (pkW.flatMap dPk).toArray 47)) := (below_new _ _).alloc (by simp) _
  have hq0 : ((W2.alloc (.cells (wantW.flatMap decI).toArray 70)).alloc (.cells (pkW.flatMap dPk).toArray 47)).heap[W2.heap.size]? = some (.cells (wantW.flatMap decI).toArray 70 (0, 0)) := (heap_alloc_old _ _ (by simp)).trans (blk_new _ _)
  have hp0 := blk_new (W2.alloc (.cells (wantW.flatMap decI).toArray 70)) (.cells (pkW.flatMap dPk).toArray 47)
  rw [hz1] at hp0
  have HI := Lib.hid (And.intro (HK.out.same HG.out hbb) (And.intro hq0 (And.intro hp0 (HB2.out.trans (hbb.mono HB2.out.size)))))
  have HL := Lib.hid HB2.out.size
  clear hbb hq0 hp0 hz1 HK HB2
  generalize hL : W2.heap.size = L at *
  refine wp_loop (AwJ gw ga gt gl cd L L (L + 1) w) (fun a' _ => 23 - (intOf (a'.tmps.getD 6 undef)).toNat) ?_ ?_
  · exact ⟨rfl, rfl, rfl, rfl, rfl, 0, rfl, rfl, Nat.zero_le _, HI.out.1, HI.out.2.1, HI.out.2.2.1, HI.out.2.2.2⟩
  · clear HI hL
    rintro a' W ⟨hsz, hdf, s1, s3, s5, i, s4, s6, hi, hK, hq, hp, hB⟩
    obtain ⟨u, rfl, hu⟩ := frame75 hsz hdf
    rw [hu] at s1 s3 s5 s4 s6
    simp only [s1, s3, s5, s4, s6]
    clear hsz hdf s1 s3 s5 s4 s6 hu
    have HB := Lib.hid hB
    have HQ := Lib.hid hq
    have HP := Lib.hid hp
    have HK := Lib.hid hK
    have hlp : pkW.length = 23 := rfl
    clear hB hq hp hK
    by_cases hlt : i < 23
    · have c0 := row_cell (dec := dPk) (k := 2) (fun _ => rfl) HP.out (i := i) (j := 0) (by omega) (by omega)
      have c1 := row_cell (dec := dPk) (k := 2) (fun _ => rfl) HP.out (i := i) (j := 1) (by omega) (by omega)
      simp only [dPk, List.getElem?_cons_zero, List.getElem?_cons_succ, Nat.add_zero] at c0 c1
      have hgd : pkW.getD i (0, 0) = pkW[i] := by rw [List.getD_eq_getElem?_getD, List.getElem?_eq_getElem (show i < pkW.length by omega)]; rfl
      have hE : awE i = (wact (ldC pmW) (awk i) pkW[i].1 pkW[i].2).1 := by rw [← hgd]; rfl
      have hX : awk (i + 1) = (wact (ldC pmW) (awk i) pkW[i].1 pkW[i].2).2 := by rw [← hgd]; rfl
      have hC : awC (i + 1) = if (awE i).1 = 0 then awC i else awC i + 1 := rfl
      have hat := aw_at hlt
      have i1 : (i : Int) < 23 := by omega
      have HD := Lib.hid (do_wo HG.out HK.out pkW[i].1 pkW[i].2 (by omega) (fun _ => rfl) (fun _ h => by cases h))
      rw [hE] at hC hat
      clear hgd hE
      generalize pkW[i] = pq at *
      obtain ⟨pt, pw⟩ := pq
      simp only at c0 c1 hX hC hat HD
      generalize hax : awk (i + 1) = ax at *
      have HAX := Lib.hid hax
      clear hax
      generalize wact (ldC pmW) (awk i) pt pw = r at *
      obtain ⟨⟨ek, et, er, ec⟩, x2⟩ := r
      simp only at hX hC hat
      subst hX
      generalize hcn : awC (i + 1) = cn at *
      have HCN := Lib.hid hC
      have HDN := Lib.hid hcn
      clear hcn
      have HAT := Lib.hid hat
      clear hC hat
      unfold WAft at HD
      simp only [wev] at HD
      go_wp2_with fail
      refine HD.out.mono ?_
      rintro e W4 ⟨rfl, hk4, hm4⟩
      have hbe := below_new W4 (.cells #[.int .i64 ek, .int .i64 et, .bool er, .int .i64 ec] 44)
      have hlo : ∀ q ∈ colS cd.col L, q < L := HG.out.lt
      have HK5 := Lib.hid (hk4.same HG.out hbe)
      have HQ5 := Lib.hid ((Mod.of_below (S := []) hbe).blk (hm4.blk HQ.out (fun h => by have := hlo _ h; omega)) (by simp))
      have HP5 := Lib.hid ((Mod.of_below (S := []) hbe).blk (hm4.blk HP.out (fun h => by have := hlo _ h; omega)) (by simp))
      have HB5 := Lib.hid (show Below w.heap.size w (W4.alloc (.cells #[.int .i64 ek, .int .i64 et, .bool er, .int .i64 ec] 44)) from (HB.out.trans (hm4.below HB.out.size (fun q hq => HS.out q hq))).trans (hbe.mono (Nat.le_trans HB.out.size hm4.size)))
      clear hk4 hm4 hbe hlo HK HQ HP HB HD c0 c1
      by_cases h0 : ek = 0
      · have hcc := HCN.out
        rw [if_pos h0] at hcc
        have HCC := Lib.hid hcc
        clear hcc HCN HAT
        subst h0
        go_wp2_with fail
        go_roundw
        case rel => exact ⟨rfl, rfl, rfl, rfl, rfl, i + 1, by rw [HDN.out, HCC.out]; rfl, by go_num, by omega, by rw [HAX.out]; exact HK5.out, HQ5.out, HP5.out, HB5.out⟩
        case measure => simp [intOf]; omega
      · have hcc := HCN.out
        rw [if_neg h0] at hcc
        obtain ⟨ha6, hek⟩ := HAT.out.resolve_left h0
        have HCC := Lib.hid hcc
        have e0 := ibeq_no h0
        have cq := row_cell (dec := decI) (k := 1) (fun _ => rfl) HQ5.out (i := awC i) (j := 0) ha6 (by omega)
        have hwg : wantW.getD (awC i) 0 = wantW[awC i]'ha6 := by rw [List.getD_eq_getElem?_getD, List.getElem?_eq_getElem (show awC i < wantW.length from ha6)]; rfl
        rw [hwg] at hek
        simp only [decI, List.getElem?_cons_zero, Nat.add_zero, Nat.mul_one] at cq
        rw [← hek] at cq
        clear hcc HCN HAT hwg hek h0
        generalize awC i = ai at *
        have j1 : (ai : Int) < 6 := by omega
        have j2 : ¬ 6 ≤ (ai : Int) := by omega
        have j3 : decide (6 ≤ (ai : Int)) = false := decide_eq_false j2
        have j4 := ibeq (rfl : ek = ek)
        have ev0 := blk_cell (blk_new W4 (.cells #[.int .i64 ek, .int .i64 et, .bool er, .int .i64 ec] 44)) 0 (by simp)
        simp only [List.getElem_toArray, List.getElem_cons_zero] at ev0
        go_upto_region 11 with fail
        go_quiet (fail)
        go_wp2_with fail
        go_roundw
        case rel => exact ⟨rfl, rfl, rfl, rfl, rfl, i + 1, by rw [HDN.out, HCC.out]; go_num, by go_num, by omega, by rw [HAX.out]; exact HK5.out.drewN HG.out nq, HQ5.out, HP5.out, below_drewN HB5.out nq⟩
        case measure => simp [intOf]; omega
    · obtain rfl : i = 23 := by omega
      have i1 : ¬ (23 : Int) < 23 := by omega
      have hend := aw_end
      rw [hend]
      go_wp2_with fail
      go_ret
      exact ⟨rfl, HB.out⟩
end Go.Proofs.YtfmiioddhpkdkaaGreat.Tq

/- Whether a trace moves and keeps: the plain law of layer 22's Keeps and Moves. -/
namespace Go.Proofs.YtfmiioddhpkdkaaGreat.Sp

end Go.Proofs.YtfmiioddhpkdkaaGreat.Sp

/- Walks of layer 22: parts, may. -/
namespace Go.Proofs.YtfmiioddhpkdkaaGreat.Sp
open Go.RowKit

def stepD (kind : Int) : Int := if kind = 4 then 8 else 4
end Go.Proofs.YtfmiioddhpkdkaaGreat.Sp

/- Walks of layer 22: Each, Some, of the program and of the reference. -/
namespace Go.Proofs.YtfmiioddhpkdkaaGreat.Sp
open Go.RowKit
theorem step_in (kind : Int) : 4 ≤ stepD kind ∧ stepD kind ≤ 8 := by unfold stepD; split <;> omega
end Go.Proofs.YtfmiioddhpkdkaaGreat.Sp

/- Walks of layer 22: the reference's Each, Some. -/
namespace Go.Proofs.YtfmiioddhpkdkaaGreat.Sp
open Go.RowKit
end Go.Proofs.YtfmiioddhpkdkaaGreat.Sp

/- Walks of layer 12's reference: next, behind. -/
namespace Go.Proofs.YtfmiioddhpkdkaaGreat.Sp
open Go.RowKit
def dE (e : E) : List Value := [.int .i64 e.kind, .int .i64 e.th, .bool e.rd, .int .i64 e.ct]
theorem sl_ev {w : World} {Bd : Nat} {A : Option Addr} {l : List E} (h : Sl w Bd A (l.flatMap dE)) (hk : 0 < l.length) : ∃ b off, A = some ⟨b, off, none⟩ ∧ b < Bd ∧ ∀ j, j < l.length → w.cell? ⟨b, off + j * 4, none⟩ = some (.int .i64 (l.getD j e0).kind) ∧ w.cell? ⟨b, off + j * 4 + 1, none⟩ = some (.int .i64 (l.getD j e0).th) ∧ w.cell? ⟨b, off + j * 4 + 2, none⟩ = some (.bool (l.getD j e0).rd) ∧ w.cell? ⟨b, off + j * 4 + 3, none⟩ = some (.int .i64 (l.getD j e0).ct) := by
  obtain ⟨b, off, rfl, hb, hc⟩ := Sl_at (dec := dE) (k := 4) (fun _ => rfl) (by omega) h hk
  refine ⟨b, off, rfl, hb, fun j hj => ?_⟩
  have h0 := hc j hj 0 (by omega)
  have h1 := hc j hj 1 (by omega)
  have h2 := hc j hj 2 (by omega)
  have h3 := hc j hj 3 (by omega)
  simp only [dE, List.getElem?_cons_zero, List.getElem?_cons_succ, Nat.add_zero, ← Nat.add_assoc] at h0 h1 h2 h3
  have e : l.getD j e0 = l[j] := by rw [List.getD_eq_getElem?_getD, List.getElem?_eq_getElem hj]; rfl
  rw [e]
  exact ⟨h0, h1, h2, h3⟩
end Go.Proofs.YtfmiioddhpkdkaaGreat.Sp

/- Walks of layer 12's reference: stay. -/
namespace Go.Proofs.YtfmiioddhpkdkaaGreat.Sp
open Go.RowKit
def vSt (s : St) : Value := .agg #[.int .i64 s.th, .bool s.rd, .int .i64 s.ask, .int .i64 s.en, .int .i64 s.ex, .int .i64 s.re, .int .i64 s.ct]
end Go.Proofs.YtfmiioddhpkdkaaGreat.Sp

/- Walks of layer 12's reference: Of. -/
namespace Go.Proofs.YtfmiioddhpkdkaaGreat.Sp
open Go.RowKit
def dSt (s : St) : List Value := [.int .i64 s.th, .bool s.rd, .int .i64 s.ask, .int .i64 s.en, .int .i64 s.ex, .int .i64 s.re, .int .i64 s.ct]
def s0 : St := ⟨0, false, 0, 0, 0, 0, 0⟩
theorem infoSt : (Tryz.prog.info? 40).map (fun i => (i.zero, i.size, i.bytes)) = some (some (.agg #[.int .i64 0, .bool false, .int .i64 0, .int .i64 0, .int .i64 0, .int .i64 0, .int .i64 0]), 7, 56) := by kernel_rfl
end Go.Proofs.YtfmiioddhpkdkaaGreat.Sp

/- The walk of layer 12's reference: Of. -/
namespace Go.Proofs.YtfmiioddhpkdkaaGreat.Sp
open Go.RowKit
def busy (k : Nat) (t : Int) (s : St) : Bool := decide (s.th = t) && (decide (s.re < 0) || decide ((k : Int) < s.re))
end Go.Proofs.YtfmiioddhpkdkaaGreat.Sp

/- Walks of layer 22's reference: waits, enters, Keeps. -/
namespace Go.Proofs.YtfmiioddhpkdkaaGreat.Sp
open Go.RowKit
end Go.Proofs.YtfmiioddhpkdkaaGreat.Sp

/- Walks of layer 22's reference: Keeps, Moves. -/
namespace Go.Proofs.YtfmiioddhpkdkaaGreat.Sp
open Go.RowKit
theorem getD_mem {l : List St} {j : Nat} (h : j < l.length) : l.getD j s0 ∈ l := by
  rw [List.getD_eq_getElem?_getD, List.getElem?_eq_getElem h]
  exact List.getElem_mem h
end Go.Proofs.YtfmiioddhpkdkaaGreat.Sp

