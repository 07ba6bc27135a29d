/- Merged texts: Rwa, Rw3. -/
import Derived.Test.YtfmiioddhpkdkaaGreatWz28
import Derived.Laws.ResultCell
set_option linter.unusedVariables false
set_option maxRecDepth 100000
set_option maxHeartbeats 8000000
/- Package locks: make, of a lock of readers and writers; package world: New. -/
namespace Go.Proofs.YtfmiioddhpkdkaaGreat.Rw
open Go.RowKit Tp Ara Lok Fl Lk Wr Co Cm Wo

theorem RwA.other {Ty TyP : TypeId} {m : Int} {p t : List Int} {q : Nw} {ga ha gr B0 : Nat} {W W' : World} (h : RwA Ty TyP m p t q ga ha gr B0 W) {g : Nat} (hm : Mod [g] W W') (hz : W'.heap.size = W.heap.size) (hg : g < B0) (h1 : g ≠ ga) (h2 : g ≠ ha) : RwA Ty TyP m p t q ga ha gr B0 W' := by
  obtain ⟨c, k1, k2, ⟨k3, k4, k5, k6⟩, ⟨k7, k8, k9⟩, ka, kb⟩ := h
  have k2' := k2.mod hm ⟨by simp; omega, by simp; omega, by simp; omega, by simp; omega⟩ ⟨by simp; omega, by simp; omega, by simp; omega⟩
  rw [← hz] at k2'
  exact ⟨c, k1.mod hm (by simp; omega), k2', ⟨k3, k4, k5, k6⟩, ⟨k7, k8, k9⟩, ka, kb⟩
theorem make_neutral (p t : List Int) (A B : Option Addr) (c d : Nat) (w : World) (hck : chk p t = 0) (B0 : Nat) (hs : Sl w B0 A (p.flatMap decI)) (ht : Sl w B0 B (t.flatMap decI)) (gl ga ha : Nat) (hb0 : B0 ≤ w.heap.size ∧ B0 ≤ ga ∧ B0 ≤ ha) (hL : NewL w gl 11 t.length) (hA : ArAt w ga ha (Ar.fresh 4096)) (hha : ha < w.heap.size) (hne : gl ≠ ga ∧ gl ≠ ha ∧ ga ≠ ha) (kg kl par bud : Int) (O : (nwOf p t kg kl par bud).Ok) (hp : par ≤ 32) (hB : Bud.right bud = true) :
    Calls Tryz.prog 58 #[.pointer (some ⟨gl, 0, none⟩), .pointer (some ⟨ga, 0, none⟩), (.agg #[.slice A p.length c, .slice B t.length d]), (.agg #[.int .i64 kg, .int .i64 kl, .int .i64 par, .int .i64 bud])] w fun e w' => e = .returned (.int .i64 0) ∧ ∃ gr, LkB w' gl 11 t.length 166 (botV gr) ∧ RwA 254 210 1 p t (nwOf p t kg kl par bud) ga ha gr w.heap.size w' ∧ Mod [gl, ga, ha] w w' := by
  have hga := hA.lt
  have hgl : gl < w.heap.size := lt_of_blk hL
  have HM0 := Lib.hid (MkB.made w (.slice A p.length c) (.slice B t.length d) kg kl par bud)
  generalize hW1 : (w.alloc (.cells #[.slice A p.length c, .slice B t.length d] 24)).alloc (.cells #[.int .i64 kg, .int .i64 kl, .int .i64 par, .int .i64 bud] 56) = W1 at *
  have hz1 : w.heap.size + 1 < W1.heap.size := lt_of_blk HM0.out.x1
  have HL1 := Lib.hid ((Mod.of_below (S := []) HM0.out.b).blk hL (by simp))
  have i0 := blk_cell HL1.out 0 (by simp)
  simp only [List.getElem_toArray, List.getElem_cons_zero, List.getElem_cons_succ] at i0
  have HN := Lib.hid (rw_neutral p t A B c d W1.drew hck B0 (Sl.below hs ((Below.drew HM0.out.b).mono hb0.1)) (Sl.below ht ((Below.drew HM0.out.b).mono hb0.1)) ga ha ⟨by show B0 ≤ W1.heap.size; omega, hb0.2⟩ (hA.mod (S := []) (Mod.of_below (Below.drew HM0.out.b)) (by simp) (by simp)) (by show ha < W1.heap.size; omega) hne.2.2 kg kl par bud O hp hB)
  clear hs ht hA O hB hL
  go_enter Tryz.func58, Tryz.ntmps58
  go_wp2_with fail
  clear hW1
  go_upto_region 24 with fail
  have HL2 := Lib.hid (show NewL W1.drew gl 11 t.length from HL1.out)
  have HX0 := Lib.hid (show W1.drew.heap[w.heap.size]? = some (.cells #[.slice A p.length c, .slice B t.length d] 24 (0, 0)) from HM0.out.x0)
  have HX1 := Lib.hid (show W1.drew.heap[w.heap.size + 1]? = some (.cells #[.int .i64 kg, .int .i64 kl, .int .i64 par, .int .i64 bud] 56 (0, 0)) from HM0.out.x1)
  have HB2 := Lib.hid (show Below w.heap.size w W1.drew from Below.drew HM0.out.b)
  have hz2 : w.heap.size + 1 < W1.drew.heap.size := hz1
  clear HL1 HM0 i0
  have F2 := And.intro (blk_cell HL2.out 0 (by simp)) (And.intro (And.intro (blk_cell HX0.out 0 (by simp)) (blk_cell HX0.out 1 (by simp))) (And.intro (And.intro (blk_cell HX1.out 0 (by simp)) (blk_cell HX1.out 1 (by simp))) (And.intro (blk_cell HX1.out 2 (by simp)) (blk_cell HX1.out 3 (by simp)))))
  simp only [List.getElem_toArray, List.getElem_cons_zero, List.getElem_cons_succ] at F2
  refine wp_region_held_drew (S := fun V => V.cell? ⟨gl, 0, none⟩ = some (.int .i64 11) ∧ (V.cell? ⟨w.heap.size, 0, none⟩ = some (.slice A p.length c) ∧ V.cell? ⟨w.heap.size, 1, none⟩ = some (.slice B t.length d)) ∧ (V.cell? ⟨w.heap.size + 1, 0, none⟩ = some (.int .i64 kg) ∧ V.cell? ⟨w.heap.size + 1, 1, none⟩ = some (.int .i64 kl)) ∧ V.cell? ⟨w.heap.size + 1, 2, none⟩ = some (.int .i64 par) ∧ V.cell? ⟨w.heap.size + 1, 3, none⟩ = some (.int .i64 bud)) (by kernel_rfl) F2 (fun hHeld => ?_)
  generalize W1.drew = W2 at *
  refine tkC 0 128 ?_
  refine tkC 1 129 ?_
  refine tkC 2 130 ?_
  refine tkC 3 131 ?_
  refine tkC 4 132 ?_
  refine tkC 5 133 ?_
  refine tkC 6 134 ?_
  refine tkC 7 135 ?_
  refine tkC 8 136 ?_
  refine wpAnyH_ready (rs := [9]) (by kernel_rfl) (by simp) ?_
  refine AllReadyH.cons rfl (fun K hK => ?_) AllReadyH.nil
  go_simp
  refine HN.out.mono ?_
  rintro e W3 ⟨gr, rfl, hr3, hm3⟩
  have hz3 := hm3.size
  have HL3 := Lib.hid (show NewL W3 gl 11 t.length from hm3.blk HL2.out (by simp; omega))
  have HY0 := Lib.hid (hm3.blk HX0.out (by simp; omega))
  have HY1 := Lib.hid (hm3.blk HX1.out (by simp; omega))
  have HR3 := Lib.hid hr3
  have HD3 := Lib.hid hm3
  have F3 := And.intro (blk_cell HL3.out 0 (by simp)) (And.intro (And.intro (blk_cell HY0.out 0 (by simp)) (blk_cell HY0.out 1 (by simp))) (And.intro (And.intro (blk_cell HY1.out 0 (by simp)) (blk_cell HY1.out 1 (by simp))) (And.intro (blk_cell HY1.out 2 (by simp)) (blk_cell HY1.out 3 (by simp)))))
  simp only [List.getElem_toArray, List.getElem_cons_zero, List.getElem_cons_succ] at F3
  clear hr3 hm3 HN F2 HX0 HX1 HL2
  go_simp
  refine hK.out _ _ F3 (fun hHeld => ?_)
  refine tkC 10 127 ?_
  refine tkC 11 138 ?_
  refine tkC 12 139 ?_
  refine tkC 13 11 ?_
  refine tkC 14 12 ?_
  refine wpAnyH_done (by kernel_rfl) ?_ _
  have c2 := blk_cell HL3.out 2 (by simp)
  simp only [List.getElem_toArray, List.getElem_cons_zero, List.getElem_cons_succ] at c2
  have f2 := blk_free HL3.out 2
  have hs4 := blk_set HL3.out 2 (.iface 166 (botV gr))
  simp only [Array.set!_eq_setIfInBounds, List.setIfInBounds_toArray, List.set_cons_zero, List.set_cons_succ] at hs4
  have HS4 := Lib.hid hs4
  have hm4 : Mod [gl] W3 (W3.setCell ⟨gl, 2, none⟩ (.iface 166 (botV gr))) := (Mod.refl _ _).setCell (by simp) _
  have HF4 := Lib.hid (HR3.out.other hm4 (by simp [World.setCell]) (by omega) hne.1 hne.2.1)
  have HM4 := Lib.hid (show Mod [gl, ga, ha] w (W3.setCell ⟨gl, 2, none⟩ (.iface 166 (botV gr))) from (((Mod.of_below HB2.out).trans (hD3x HD3.out)).setCell (by simp) _))
  clear hs4 hm4 HR3 HD3 HL3 F3 HY0 HY1
  unfold botV at HS4 HF4 HM4
  go_wp2_with fail
  go_ret
  obtain ⟨cc, k1, k2, ⟨k3, k4, k5, k6⟩, ⟨k7, k8, k9⟩, ka, kb⟩ := HF4.out
  exact ⟨rfl, gr, HS4.out, ⟨cc, k1, k2, ⟨k3, k4, by omega, by omega⟩, ⟨by omega, by omega, by omega⟩, by omega, kb⟩, HM4.out⟩
theorem make_readers (p t : List Int) (A B : Option Addr) (c d : Nat) (w : World) (hck : chk p t = 0) (B0 : Nat) (hs : Sl w B0 A (p.flatMap decI)) (ht : Sl w B0 B (t.flatMap decI)) (gl ga ha : Nat) (hb0 : B0 ≤ w.heap.size ∧ B0 ≤ ga ∧ B0 ≤ ha) (hL : NewL w gl 12 t.length) (hA : ArAt w ga ha (Ar.fresh 4096)) (hha : ha < w.heap.size) (hne : gl ≠ ga ∧ gl ≠ ha ∧ ga ≠ ha) (kg kl par bud : Int) (O : (nwOf p t kg kl par bud).Ok) (hp : par ≤ 32) (hB : Bud.right bud = true) :
    Calls Tryz.prog 58 #[.pointer (some ⟨gl, 0, none⟩), .pointer (some ⟨ga, 0, none⟩), (.agg #[.slice A p.length c, .slice B t.length d]), (.agg #[.int .i64 kg, .int .i64 kl, .int .i64 par, .int .i64 bud])] w fun e w' => e = .returned (.int .i64 0) ∧ ∃ gr, LkB w' gl 12 t.length 166 (botV gr) ∧ RwA 259 213 2 p t (nwOf p t kg kl par bud) ga ha gr w.heap.size w' ∧ Mod [gl, ga, ha] w w' := by
  have hga := hA.lt
  have hgl : gl < w.heap.size := lt_of_blk hL
  have HM0 := Lib.hid (MkB.made w (.slice A p.length c) (.slice B t.length d) kg kl par bud)
  generalize hW1 : (w.alloc (.cells #[.slice A p.length c, .slice B t.length d] 24)).alloc (.cells #[.int .i64 kg, .int .i64 kl, .int .i64 par, .int .i64 bud] 56) = W1 at *
  have hz1 : w.heap.size + 1 < W1.heap.size := lt_of_blk HM0.out.x1
  have HL1 := Lib.hid ((Mod.of_below (S := []) HM0.out.b).blk hL (by simp))
  have i0 := blk_cell HL1.out 0 (by simp)
  simp only [List.getElem_toArray, List.getElem_cons_zero, List.getElem_cons_succ] at i0
  have HN := Lib.hid (rw_readers p t A B c d W1.drew hck B0 (Sl.below hs ((Below.drew HM0.out.b).mono hb0.1)) (Sl.below ht ((Below.drew HM0.out.b).mono hb0.1)) ga ha ⟨by show B0 ≤ W1.heap.size; omega, hb0.2⟩ (hA.mod (S := []) (Mod.of_below (Below.drew HM0.out.b)) (by simp) (by simp)) (by show ha < W1.heap.size; omega) hne.2.2 kg kl par bud O hp hB)
  clear hs ht hA O hB hL
  go_enter Tryz.func58, Tryz.ntmps58
  go_wp2_with fail
  clear hW1
  go_upto_region 24 with fail
  have HL2 := Lib.hid (show NewL W1.drew gl 12 t.length from HL1.out)
  have HX0 := Lib.hid (show W1.drew.heap[w.heap.size]? = some (.cells #[.slice A p.length c, .slice B t.length d] 24 (0, 0)) from HM0.out.x0)
  have HX1 := Lib.hid (show W1.drew.heap[w.heap.size + 1]? = some (.cells #[.int .i64 kg, .int .i64 kl, .int .i64 par, .int .i64 bud] 56 (0, 0)) from HM0.out.x1)
  have HB2 := Lib.hid (show Below w.heap.size w W1.drew from Below.drew HM0.out.b)
  have hz2 : w.heap.size + 1 < W1.drew.heap.size := hz1
  clear HL1 HM0 i0
  have F2 := And.intro (blk_cell HL2.out 0 (by simp)) (And.intro (And.intro (blk_cell HX0.out 0 (by simp)) (blk_cell HX0.out 1 (by simp))) (And.intro (And.intro (blk_cell HX1.out 0 (by simp)) (blk_cell HX1.out 1 (by simp))) (And.intro (blk_cell HX1.out 2 (by simp)) (blk_cell HX1.out 3 (by simp)))))
  simp only [List.getElem_toArray, List.getElem_cons_zero, List.getElem_cons_succ] at F2
  refine wp_region_held_drew (S := fun V => V.cell? ⟨gl, 0, none⟩ = some (.int .i64 12) ∧ (V.cell? ⟨w.heap.size, 0, none⟩ = some (.slice A p.length c) ∧ V.cell? ⟨w.heap.size, 1, none⟩ = some (.slice B t.length d)) ∧ (V.cell? ⟨w.heap.size + 1, 0, none⟩ = some (.int .i64 kg) ∧ V.cell? ⟨w.heap.size + 1, 1, none⟩ = some (.int .i64 kl)) ∧ V.cell? ⟨w.heap.size + 1, 2, none⟩ = some (.int .i64 par) ∧ V.cell? ⟨w.heap.size + 1, 3, none⟩ = some (.int .i64 bud)) (by kernel_rfl) F2 (fun hHeld => ?_)
  generalize W1.drew = W2 at *
  refine tkC 0 128 ?_
  refine tkC 1 129 ?_
  refine tkC 2 130 ?_
  refine tkC 3 131 ?_
  refine tkC 4 132 ?_
  refine tkC 5 133 ?_
  refine tkC 6 134 ?_
  refine tkC 7 135 ?_
  refine tkC 8 136 ?_
  refine wpAnyH_ready (rs := [9]) (by kernel_rfl) (by simp) ?_
  refine AllReadyH.cons rfl (fun K hK => ?_) AllReadyH.nil
  go_simp
  refine HN.out.mono ?_
  rintro e W3 ⟨gr, rfl, hr3, hm3⟩
  have hz3 := hm3.size
  have HL3 := Lib.hid (show NewL W3 gl 12 t.length from hm3.blk HL2.out (by simp; omega))
  have HY0 := Lib.hid (hm3.blk HX0.out (by simp; omega))
  have HY1 := Lib.hid (hm3.blk HX1.out (by simp; omega))
  have HR3 := Lib.hid hr3
  have HD3 := Lib.hid hm3
  have F3 := And.intro (blk_cell HL3.out 0 (by simp)) (And.intro (And.intro (blk_cell HY0.out 0 (by simp)) (blk_cell HY0.out 1 (by simp))) (And.intro (And.intro (blk_cell HY1.out 0 (by simp)) (blk_cell HY1.out 1 (by simp))) (And.intro (blk_cell HY1.out 2 (by simp)) (blk_cell HY1.out 3 (by simp)))))
  simp only [List.getElem_toArray, List.getElem_cons_zero, List.getElem_cons_succ] at F3
  clear hr3 hm3 HN F2 HX0 HX1 HL2
  go_simp
  refine hK.out _ _ F3 (fun hHeld => ?_)
  refine tkC 10 127 ?_
  refine tkC 11 138 ?_
  refine tkC 12 139 ?_
  refine tkC 13 11 ?_
  refine tkC 14 12 ?_
  refine wpAnyH_done (by kernel_rfl) ?_ _
  have c2 := blk_cell HL3.out 2 (by simp)
  simp only [List.getElem_toArray, List.getElem_cons_zero, List.getElem_cons_succ] at c2
  have f2 := blk_free HL3.out 2
  have hs4 := blk_set HL3.out 2 (.iface 166 (botV gr))
  simp only [Array.set!_eq_setIfInBounds, List.setIfInBounds_toArray, List.set_cons_zero, List.set_cons_succ] at hs4
  have HS4 := Lib.hid hs4
  have hm4 : Mod [gl] W3 (W3.setCell ⟨gl, 2, none⟩ (.iface 166 (botV gr))) := (Mod.refl _ _).setCell (by simp) _
  have HF4 := Lib.hid (HR3.out.other hm4 (by simp [World.setCell]) (by omega) hne.1 hne.2.1)
  have HM4 := Lib.hid (show Mod [gl, ga, ha] w (W3.setCell ⟨gl, 2, none⟩ (.iface 166 (botV gr))) from (((Mod.of_below HB2.out).trans (hD3x HD3.out)).setCell (by simp) _))
  clear hs4 hm4 HR3 HD3 HL3 F3 HY0 HY1
  unfold botV at HS4 HF4 HM4
  go_wp2_with fail
  go_ret
  obtain ⟨cc, k1, k2, ⟨k3, k4, k5, k6⟩, ⟨k7, k8, k9⟩, ka, kb⟩ := HF4.out
  exact ⟨rfl, gr, HS4.out, ⟨cc, k1, k2, ⟨k3, k4, by omega, by omega⟩, ⟨by omega, by omega, by omega⟩, by omega, kb⟩, HM4.out⟩
theorem make_writers (p t : List Int) (A B : Option Addr) (c d : Nat) (w : World) (hck : chk p t = 0) (B0 : Nat) (hs : Sl w B0 A (p.flatMap decI)) (ht : Sl w B0 B (t.flatMap decI)) (gl ga ha : Nat) (hb0 : B0 ≤ w.heap.size ∧ B0 ≤ ga ∧ B0 ≤ ha) (hL : NewL w gl 13 t.length) (hA : ArAt w ga ha (Ar.fresh 4096)) (hha : ha < w.heap.size) (hne : gl ≠ ga ∧ gl ≠ ha ∧ ga ≠ ha) (kg kl par bud : Int) (O : (nwOf p t kg kl par bud).Ok) (hp : par ≤ 32) (hB : Bud.right bud = true) :
    Calls Tryz.prog 58 #[.pointer (some ⟨gl, 0, none⟩), .pointer (some ⟨ga, 0, none⟩), (.agg #[.slice A p.length c, .slice B t.length d]), (.agg #[.int .i64 kg, .int .i64 kl, .int .i64 par, .int .i64 bud])] w fun e w' => e = .returned (.int .i64 0) ∧ ∃ gr, LkB w' gl 13 t.length 166 (botV gr) ∧ RwA 261 216 3 p t (nwOf p t kg kl par bud) ga ha gr w.heap.size w' ∧ Mod [gl, ga, ha] w w' := by
  have hga := hA.lt
  have hgl : gl < w.heap.size := lt_of_blk hL
  have HM0 := Lib.hid (MkB.made w (.slice A p.length c) (.slice B t.length d) kg kl par bud)
  generalize hW1 : (w.alloc (.cells #[.slice A p.length c, .slice B t.length d] 24)).alloc (.cells #[.int .i64 kg, .int .i64 kl, .int .i64 par, .int .i64 bud] 56) = W1 at *
  have hz1 : w.heap.size + 1 < W1.heap.size := lt_of_blk HM0.out.x1
  have HL1 := Lib.hid ((Mod.of_below (S := []) HM0.out.b).blk hL (by simp))
  have i0 := blk_cell HL1.out 0 (by simp)
  simp only [List.getElem_toArray, List.getElem_cons_zero, List.getElem_cons_succ] at i0
  have HN := Lib.hid (rw_writers p t A B c d W1.drew hck B0 (Sl.below hs ((Below.drew HM0.out.b).mono hb0.1)) (Sl.below ht ((Below.drew HM0.out.b).mono hb0.1)) ga ha ⟨by show B0 ≤ W1.heap.size; omega, hb0.2⟩ (hA.mod (S := []) (Mod.of_below (Below.drew HM0.out.b)) (by simp) (by simp)) (by show ha < W1.heap.size; omega) hne.2.2 kg kl par bud O hp hB)
  clear hs ht hA O hB hL
  go_enter Tryz.func58, Tryz.ntmps58
  go_wp2_with fail
  clear hW1
  go_upto_region 24 with fail
  have HL2 := Lib.hid (show NewL W1.drew gl 13 t.length from HL1.out)
  have HX0 := Lib.hid (show W1.drew.heap[w.heap.size]? = some (.cells #[.slice A p.length c, .slice B t.length d] 24 (0, 0)) from HM0.out.x0)
  have HX1 := Lib.hid (show W1.drew.heap[w.heap.size + 1]? = some (.cells #[.int .i64 kg, .int .i64 kl, .int .i64 par, .int .i64 bud] 56 (0, 0)) from HM0.out.x1)
  have HB2 := Lib.hid (show Below w.heap.size w W1.drew from Below.drew HM0.out.b)
  have hz2 : w.heap.size + 1 < W1.drew.heap.size := hz1
  clear HL1 HM0 i0
  have F2 := And.intro (blk_cell HL2.out 0 (by simp)) (And.intro (And.intro (blk_cell HX0.out 0 (by simp)) (blk_cell HX0.out 1 (by simp))) (And.intro (And.intro (blk_cell HX1.out 0 (by simp)) (blk_cell HX1.out 1 (by simp))) (And.intro (blk_cell HX1.out 2 (by simp)) (blk_cell HX1.out 3 (by simp)))))
  simp only [List.getElem_toArray, List.getElem_cons_zero, List.getElem_cons_succ] at F2
  refine wp_region_held_drew (S := fun V => V.cell? ⟨gl, 0, none⟩ = some (.int .i64 13) ∧ (V.cell? ⟨w.heap.size, 0, none⟩ = some (.slice A p.length c) ∧ V.cell? ⟨w.heap.size, 1, none⟩ = some (.slice B t.length d)) ∧ (V.cell? ⟨w.heap.size + 1, 0, none⟩ = some (.int .i64 kg) ∧ V.cell? ⟨w.heap.size + 1, 1, none⟩ = some (.int .i64 kl)) ∧ V.cell? ⟨w.heap.size + 1, 2, none⟩ = some (.int .i64 par) ∧ V.cell? ⟨w.heap.size + 1, 3, none⟩ = some (.int .i64 bud)) (by kernel_rfl) F2 (fun hHeld => ?_)
  generalize W1.drew = W2 at *
  refine tkC 0 128 ?_
  refine tkC 1 129 ?_
  refine tkC 2 130 ?_
  refine tkC 3 131 ?_
  refine tkC 4 132 ?_
  refine tkC 5 133 ?_
  refine tkC 6 134 ?_
  refine tkC 7 135 ?_
  refine tkC 8 136 ?_
  refine wpAnyH_ready (rs := [9]) (by kernel_rfl) (by simp) ?_
  refine AllReadyH.cons rfl (fun K hK => ?_) AllReadyH.nil
  go_simp
  refine HN.out.mono ?_
  rintro e W3 ⟨gr, rfl, hr3, hm3⟩
  have hz3 := hm3.size
  have HL3 := Lib.hid (show NewL W3 gl 13 t.length from hm3.blk HL2.out (by simp; omega))
  have HY0 := Lib.hid (hm3.blk HX0.out (by simp; omega))
  have HY1 := Lib.hid (hm3.blk HX1.out (by simp; omega))
  have HR3 := Lib.hid hr3
  have HD3 := Lib.hid hm3
  have F3 := And.intro (blk_cell HL3.out 0 (by simp)) (And.intro (And.intro (blk_cell HY0.out 0 (by simp)) (blk_cell HY0.out 1 (by simp))) (And.intro (And.intro (blk_cell HY1.out 0 (by simp)) (blk_cell HY1.out 1 (by simp))) (And.intro (blk_cell HY1.out 2 (by simp)) (blk_cell HY1.out 3 (by simp)))))
  simp only [List.getElem_toArray, List.getElem_cons_zero, List.getElem_cons_succ] at F3
  clear hr3 hm3 HN F2 HX0 HX1 HL2
  go_simp
  refine hK.out _ _ F3 (fun hHeld => ?_)
  refine tkC 10 127 ?_
  refine tkC 11 138 ?_
  refine tkC 12 139 ?_
  refine tkC 13 11 ?_
  refine tkC 14 12 ?_
  refine wpAnyH_done (by kernel_rfl) ?_ _
  have c2 := blk_cell HL3.out 2 (by simp)
  simp only [List.getElem_toArray, List.getElem_cons_zero, List.getElem_cons_succ] at c2
  have f2 := blk_free HL3.out 2
  have hs4 := blk_set HL3.out 2 (.iface 166 (botV gr))
  simp only [Array.set!_eq_setIfInBounds, List.setIfInBounds_toArray, List.set_cons_zero, List.set_cons_succ] at hs4
  have HS4 := Lib.hid hs4
  have hm4 : Mod [gl] W3 (W3.setCell ⟨gl, 2, none⟩ (.iface 166 (botV gr))) := (Mod.refl _ _).setCell (by simp) _
  have HF4 := Lib.hid (HR3.out.other hm4 (by simp [World.setCell]) (by omega) hne.1 hne.2.1)
  have HM4 := Lib.hid (show Mod [gl, ga, ha] w (W3.setCell ⟨gl, 2, none⟩ (.iface 166 (botV gr))) from (((Mod.of_below HB2.out).trans (hD3x HD3.out)).setCell (by simp) _))
  clear hs4 hm4 HR3 HD3 HL3 F3 HY0 HY1
  unfold botV at HS4 HF4 HM4
  go_wp2_with fail
  go_ret
  obtain ⟨cc, k1, k2, ⟨k3, k4, k5, k6⟩, ⟨k7, k8, k9⟩, ka, kb⟩ := HF4.out
  exact ⟨rfl, gr, HS4.out, ⟨cc, k1, k2, ⟨k3, k4, by omega, by omega⟩, ⟨by omega, by omega, by omega⟩, by omega, kb⟩, HM4.out⟩
def RR (Ty TyP : TypeId) (m kind : Int) (B0 : Nat) (p t : List Int) (q : Nw) (ga gl : Nat) (W : World) : Prop :=
  ∃ gr ha B1, LkB W gl kind t.length 166 (botV gr) ∧ RwA Ty TyP m p t q ga ha gr B1 W ∧ (gl < B1 ∧ gl ≠ ga ∧ gl ≠ ha) ∧ (ga < B1 ∧ ha < B1) ∧ B0 ≤ ga ∧ B0 ≤ ha ∧ B0 ≤ B1
theorem wnew_neutral (B0 : Nat) (p t : List Int) (A B : Option Addr) (c d : Nat) (w : World) (hB0 : B0 ≤ w.heap.size) (hck : chk p t = 0) (hs : Sl w w.heap.size A (p.flatMap decI)) (ht : Sl w w.heap.size B (t.flatMap decI)) (kg kl par bud : Int) (hg : 1 ≤ kg ∧ kg ≤ 5) (hl : 1 ≤ kl ∧ kl ≤ 5) (hp : 1 ≤ par ∧ par ≤ 32) (hb0 : 0 ≤ bud) (hB : Bud.right bud = true) :
    Calls Tryz.prog 18 #[(.agg #[.slice A p.length c, .slice B t.length d]), .agg #[.int .i64 11, .int .i64 kg, .int .i64 kl, .int .i64 par, .int .i64 bud]] w (NewW 11 (RR 254 210 1 11 B0 p t (nwOf p t kg kl par bud)) w) := by
  have O := nw_ok hck hg hl hp hb0
  refine (wnew_gen p t A B c d w hck hs ht 11 kg kl par bud (fun gl W => RR 254 210 1 11 B0 p t (nwOf p t kg kl par bud) (w.heap.size + 1 + 1 + 1) gl W) fun W hb ha hlt => ?_).mono fun e w' ⟨gw, gt, gl, W2, e1, e2, e3, e4⟩ => ⟨gw, _, gt, gl, W2, e1, e2, e3, e4⟩
  have hz := hb.size
  refine (lnew_gen p t A B c d W hck ((Sl.below hs hb).more hz) ((Sl.below ht hb).more hz) 11 named_11 (w.heap.size + 1 + 1 + 1) kg kl par bud (fun gl V w' => ∃ gr, LkB w' gl 11 t.length 166 (botV gr) ∧ RwA 254 210 1 p t (nwOf p t kg kl par bud) (w.heap.size + 1 + 1 + 1) (w.heap.size + 1 + 1) gr V.heap.size w' ∧ Mod [gl, w.heap.size + 1 + 1 + 1, w.heap.size + 1 + 1] V w') fun gl V hg hv hl => ?_).mono ?_
  · have hzv := hv.size
    exact make_neutral p t A B c d V hck w.heap.size (Sl.below hs (hb.trans (hv.mono hz))) (Sl.below ht (hb.trans (hv.mono hz))) gl _ _ ⟨by omega, by omega, by omega⟩ hl (ha.mod (S := []) (Mod.of_below hv) (by simp) (by simp)) (by omega) ⟨by omega, by omega, by omega⟩ kg kl par bud O hp.2 hB
  · rintro e w' ⟨gl, V, rfl, hg, hv, hl, gr, h1, h2, h4⟩
    have hlg : gl < V.heap.size := lt_of_blk hl
    have hzv := hv.size
    exact ⟨gl, rfl, ⟨gr, w.heap.size + 1 + 1, V.heap.size, h1, h2, ⟨hlg, by omega, by omega⟩, ⟨by omega, by omega⟩, by omega, by omega, by omega⟩, mod_fresh hv hg h4⟩
theorem wnew_readers (B0 : Nat) (p t : List Int) (A B : Option Addr) (c d : Nat) (w : World) (hB0 : B0 ≤ w.heap.size) (hck : chk p t = 0) (hs : Sl w w.heap.size A (p.flatMap decI)) (ht : Sl w w.heap.size B (t.flatMap decI)) (kg kl par bud : Int) (hg : 1 ≤ kg ∧ kg ≤ 5) (hl : 1 ≤ kl ∧ kl ≤ 5) (hp : 1 ≤ par ∧ par ≤ 32) (hb0 : 0 ≤ bud) (hB : Bud.right bud = true) :
    Calls Tryz.prog 18 #[(.agg #[.slice A p.length c, .slice B t.length d]), .agg #[.int .i64 12, .int .i64 kg, .int .i64 kl, .int .i64 par, .int .i64 bud]] w (NewW 12 (RR 259 213 2 12 B0 p t (nwOf p t kg kl par bud)) w) := by
  have O := nw_ok hck hg hl hp hb0
  refine (wnew_gen p t A B c d w hck hs ht 12 kg kl par bud (fun gl W => RR 259 213 2 12 B0 p t (nwOf p t kg kl par bud) (w.heap.size + 1 + 1 + 1) gl W) fun W hb ha hlt => ?_).mono fun e w' ⟨gw, gt, gl, W2, e1, e2, e3, e4⟩ => ⟨gw, _, gt, gl, W2, e1, e2, e3, e4⟩
  have hz := hb.size
  refine (lnew_gen p t A B c d W hck ((Sl.below hs hb).more hz) ((Sl.below ht hb).more hz) 12 named_12 (w.heap.size + 1 + 1 + 1) kg kl par bud (fun gl V w' => ∃ gr, LkB w' gl 12 t.length 166 (botV gr) ∧ RwA 259 213 2 p t (nwOf p t kg kl par bud) (w.heap.size + 1 + 1 + 1) (w.heap.size + 1 + 1) gr V.heap.size w' ∧ Mod [gl, w.heap.size + 1 + 1 + 1, w.heap.size + 1 + 1] V w') fun gl V hg hv hl => ?_).mono ?_
  · have hzv := hv.size
    exact make_readers p t A B c d V hck w.heap.size (Sl.below hs (hb.trans (hv.mono hz))) (Sl.below ht (hb.trans (hv.mono hz))) gl _ _ ⟨by omega, by omega, by omega⟩ hl (ha.mod (S := []) (Mod.of_below hv) (by simp) (by simp)) (by omega) ⟨by omega, by omega, by omega⟩ kg kl par bud O hp.2 hB
  · rintro e w' ⟨gl, V, rfl, hg, hv, hl, gr, h1, h2, h4⟩
    have hlg : gl < V.heap.size := lt_of_blk hl
    have hzv := hv.size
    exact ⟨gl, rfl, ⟨gr, w.heap.size + 1 + 1, V.heap.size, h1, h2, ⟨hlg, by omega, by omega⟩, ⟨by omega, by omega⟩, by omega, by omega, by omega⟩, mod_fresh hv hg h4⟩
theorem wnew_writers (B0 : Nat) (p t : List Int) (A B : Option Addr) (c d : Nat) (w : World) (hB0 : B0 ≤ w.heap.size) (hck : chk p t = 0) (hs : Sl w w.heap.size A (p.flatMap decI)) (ht : Sl w w.heap.size B (t.flatMap decI)) (kg kl par bud : Int) (hg : 1 ≤ kg ∧ kg ≤ 5) (hl : 1 ≤ kl ∧ kl ≤ 5) (hp : 1 ≤ par ∧ par ≤ 32) (hb0 : 0 ≤ bud) (hB : Bud.right bud = true) :
    Calls Tryz.prog 18 #[(.agg #[.slice A p.length c, .slice B t.length d]), .agg #[.int .i64 13, .int .i64 kg, .int .i64 kl, .int .i64 par, .int .i64 bud]] w (NewW 13 (RR 261 216 3 13 B0 p t (nwOf p t kg kl par bud)) w) := by
  have O := nw_ok hck hg hl hp hb0
  refine (wnew_gen p t A B c d w hck hs ht 13 kg kl par bud (fun gl W => RR 261 216 3 13 B0 p t (nwOf p t kg kl par bud) (w.heap.size + 1 + 1 + 1) gl W) fun W hb ha hlt => ?_).mono fun e w' ⟨gw, gt, gl, W2, e1, e2, e3, e4⟩ => ⟨gw, _, gt, gl, W2, e1, e2, e3, e4⟩
  have hz := hb.size
  refine (lnew_gen p t A B c d W hck ((Sl.below hs hb).more hz) ((Sl.below ht hb).more hz) 13 named_13 (w.heap.size + 1 + 1 + 1) kg kl par bud (fun gl V w' => ∃ gr, LkB w' gl 13 t.length 166 (botV gr) ∧ RwA 261 216 3 p t (nwOf p t kg kl par bud) (w.heap.size + 1 + 1 + 1) (w.heap.size + 1 + 1) gr V.heap.size w' ∧ Mod [gl, w.heap.size + 1 + 1 + 1, w.heap.size + 1 + 1] V w') fun gl V hg hv hl => ?_).mono ?_
  · have hzv := hv.size
    exact make_writers p t A B c d V hck w.heap.size (Sl.below hs (hb.trans (hv.mono hz))) (Sl.below ht (hb.trans (hv.mono hz))) gl _ _ ⟨by omega, by omega, by omega⟩ hl (ha.mod (S := []) (Mod.of_below hv) (by simp) (by simp)) (by omega) ⟨by omega, by omega, by omega⟩ kg kl par bud O hp.2 hB
  · rintro e w' ⟨gl, V, rfl, hg, hv, hl, gr, h1, h2, h4⟩
    have hlg : gl < V.heap.size := lt_of_blk hl
    have hzv := hv.size
    exact ⟨gl, rfl, ⟨gr, w.heap.size + 1 + 1, V.heap.size, h1, h2, ⟨hlg, by omega, by omega⟩, ⟨by omega, by omega⟩, by omega, by omega, by omega⟩, mod_fresh hv hg h4⟩
end Go.Proofs.YtfmiioddhpkdkaaGreat.Rw

/- Locks of readers and writers: Threads, Spot, and a reader's Ask and Leave. -/
namespace Go.Proofs.YtfmiioddhpkdkaaGreat.Rw
open Go.RowKit Ara Lok Ga Lk Wr

def RAft (Ty : TypeId) (L : Nat) (c : Rc) (P : Rp) (r : Bool × (Ar × List Sp)) (W : World) (e : Ending) (w' : World) : Prop := e = .returned (.bool r.1) ∧ RdA Ty L w' c P r.2 ∧ Mod [c.ga, c.ha, c.hs] W w'
theorem RAft.self {Ty : TypeId} {L : Nat} {c : Rc} {P : Rp} {x : Ar × List Sp} {W : World} (K : RdA Ty L W c P x) {b : Bool} {e : Ending} {w' : World} (he : e = .returned (.bool b)) (hb : Below W.heap.size W w') : RAft Ty L c P (b, x) W e w' := ⟨he, K.same hb, Mod.of_below hb⟩
section
variable {L : Nat} {W : World} {c : Rc} {P : Rp} {x : Ar × List Sp} (K : RdA 254 L W c P x)
include K
theorem threads_neutral : Calls Tryz.prog 296 #[.pointer (some ⟨c.gk, 0, none⟩)] W fun e w' => e = .returned (.int .i64 (P.T : Int)) ∧ w' = W := by
  obtain ⟨-, -, c8⟩ := K.cells
  clear K
  go_enter Tryz.func296, Tryz.ntmps296
  go_wp2_with fail
  go_ret
  exact ⟨rfl, rfl⟩
theorem has_in_neutral (k : Nat) (hk : k < P.T) : Calls Tryz.prog 297 #[.pointer (some ⟨c.gk, 0, none⟩), .int .i64 (k : Int)] W fun e w' => e = .returned (.bool true) ∧ w' = W := by
  have HT := Lib.hid (threads_neutral K)
  have i0 : (0 : Int) ≤ (k : Int) := by omega
  have i1 : (k : Int) < (P.T : Int) := by omega
  clear K
  go_enter Tryz.func297, Tryz.ntmps297
  go_wp2_with fail
  refine (HT.out).mono ?_
  rintro e wx ⟨rfl, hwx⟩
  obtain rfl := hwx.symm
  go_wp2_with fail
  go_ret
  exact ⟨rfl, rfl⟩
theorem has_out_neutral (i : Int) (hi : i < 0 ∨ (P.T : Int) ≤ i) : Calls Tryz.prog 297 #[.pointer (some ⟨c.gk, 0, none⟩), .int .i64 i] W fun e w' => e = .returned (.bool false) ∧ w' = W := by
  have HT := Lib.hid (threads_neutral K)
  clear K
  by_cases h0 : 0 ≤ i
  · have h1 : ¬ i < (P.T : Int) := by omega
    have q1 := decide_eq_false h1
    go_enter Tryz.func297, Tryz.ntmps297
    go_wp2_with fail
    refine (HT.out).mono ?_
    rintro e wx ⟨rfl, hwx⟩
    obtain rfl := hwx.symm
    go_wp2_with fail
    go_ret
    exact ⟨rfl, rfl⟩
  · go_enter Tryz.func297, Tryz.ntmps297
    go_wp2_with fail
    go_ret
    exact ⟨rfl, rfl⟩
theorem spot_neutral (i : Int) : Calls Tryz.prog 294 #[.pointer (some ⟨c.gk, 0, none⟩), .int .i64 i] W fun e w' => e = .returned (vSp (spOf x.2 i)) ∧ Below W.heap.size W w' := by
  have HK := Lib.hid (K.same (below_new W (.cells #[.int .i64 0, .int .i64 0, .int .i64 0, .int .i64 0] 134)))
  unfold vSp
  by_cases hi : i < 0 ∨ (P.T : Int) ≤ i
  · rw [K.out hi]
    have HS := Lib.hid (has_out_neutral HK.out i hi)
    clear K hi
    go_enter Tryz.func294, Tryz.ntmps294
    go_wp2_with fail
    refine (HS.out).mono ?_
    rintro e wx ⟨rfl, hwx⟩
    obtain rfl := hwx.symm
    go_wp2_with fail
    exact bodyPost_ret (v := .agg #[.int .i64 0, .int .i64 0, .int .i64 0, .int .i64 0]) (by simp [results, Tryz.results294, go_sem]) rfl ⟨rfl, by first | exact (Below.refl _ _).alloc (Nat.le_refl _) _ | exact (((((Below.refl _ _).alloc (Nat.le_refl _) _).setCell (Nat.le_refl _) _).setCell (Nat.le_refl _) _).setCell (Nat.le_refl _) _).setCell (Nat.le_refl _) _⟩
  · obtain ⟨k, rfl⟩ := Int.eq_ofNat_of_zero_le (show 0 ≤ i by omega)
    have hk : k < P.T := by omega
    have i1 : (k : Int) < (P.T : Int) := by omega
    have HS := Lib.hid (has_in_neutral HK.out k hk)
    obtain ⟨c0, c1, c2, c3, -⟩ := HK.out.spots hk
    obtain ⟨-, -, c8⟩ := HK.out.cells
    obtain ⟨⟨l1, -, -, -⟩, -, -, l2⟩ := K.lo
    have l3 := K.sz
    have l4 : c.gk < W.heap.size := by omega
    have l5 : c.hs < W.heap.size := by omega
    clear K hi
    generalize spOf x.2 (k : Int) = s at *
    obtain ⟨xp, xa, xb, xc⟩ := s
    simp only at c0 c1 c2 c3 ⊢
    go_enter Tryz.func294, Tryz.ntmps294
    go_wp2_with fail
    refine (HS.out).mono ?_
    rintro e wx ⟨rfl, hwx⟩
    obtain rfl := hwx.symm
    go_wp2_with fail
    exact bodyPost_ret (v := .agg #[.int .i64 xp, .int .i64 xa, .int .i64 xb, .int .i64 xc]) (by simp [results, Tryz.results294, go_sem]) rfl ⟨rfl, by first | exact (Below.refl _ _).alloc (Nat.le_refl _) _ | exact (((((Below.refl _ _).alloc (Nat.le_refl _) _).setCell (Nat.le_refl _) _).setCell (Nat.le_refl _) _).setCell (Nat.le_refl _) _).setCell (Nat.le_refl _) _⟩
end
section
variable {L : Nat} {W : World} {c : Rc} {P : Rp} {x : Ar × List Sp} (K : RdA 259 L W c P x)
include K
theorem threads_readers : Calls Tryz.prog 320 #[.pointer (some ⟨c.gk, 0, none⟩)] W fun e w' => e = .returned (.int .i64 (P.T : Int)) ∧ w' = W := by
  obtain ⟨-, -, c8⟩ := K.cells
  clear K
  go_enter Tryz.func320, Tryz.ntmps320
  go_wp2_with fail
  go_ret
  exact ⟨rfl, rfl⟩
theorem has_in_readers (k : Nat) (hk : k < P.T) : Calls Tryz.prog 321 #[.pointer (some ⟨c.gk, 0, none⟩), .int .i64 (k : Int)] W fun e w' => e = .returned (.bool true) ∧ w' = W := by
  have HT := Lib.hid (threads_readers K)
  have i0 : (0 : Int) ≤ (k : Int) := by omega
  have i1 : (k : Int) < (P.T : Int) := by omega
  clear K
  go_enter Tryz.func321, Tryz.ntmps321
  go_wp2_with fail
  refine (HT.out).mono ?_
  rintro e wx ⟨rfl, hwx⟩
  obtain rfl := hwx.symm
  go_wp2_with fail
  go_ret
  exact ⟨rfl, rfl⟩
theorem has_out_readers (i : Int) (hi : i < 0 ∨ (P.T : Int) ≤ i) : Calls Tryz.prog 321 #[.pointer (some ⟨c.gk, 0, none⟩), .int .i64 i] W fun e w' => e = .returned (.bool false) ∧ w' = W := by
  have HT := Lib.hid (threads_readers K)
  clear K
  by_cases h0 : 0 ≤ i
  · have h1 : ¬ i < (P.T : Int) := by omega
    have q1 := decide_eq_false h1
    go_enter Tryz.func321, Tryz.ntmps321
    go_wp2_with fail
    refine (HT.out).mono ?_
    rintro e wx ⟨rfl, hwx⟩
    obtain rfl := hwx.symm
    go_wp2_with fail
    go_ret
    exact ⟨rfl, rfl⟩
  · go_enter Tryz.func321, Tryz.ntmps321
    go_wp2_with fail
    go_ret
    exact ⟨rfl, rfl⟩
theorem spot_readers (i : Int) : Calls Tryz.prog 318 #[.pointer (some ⟨c.gk, 0, none⟩), .int .i64 i] W fun e w' => e = .returned (vSp (spOf x.2 i)) ∧ Below W.heap.size W w' := by
  have HK := Lib.hid (K.same (below_new W (.cells #[.int .i64 0, .int .i64 0, .int .i64 0, .int .i64 0] 134)))
  unfold vSp
  by_cases hi : i < 0 ∨ (P.T : Int) ≤ i
  · rw [K.out hi]
    have HS := Lib.hid (has_out_readers HK.out i hi)
    clear K hi
    go_enter Tryz.func318, Tryz.ntmps318
    go_wp2_with fail
    refine (HS.out).mono ?_
    rintro e wx ⟨rfl, hwx⟩
    obtain rfl := hwx.symm
    go_wp2_with fail
    exact bodyPost_ret (v := .agg #[.int .i64 0, .int .i64 0, .int .i64 0, .int .i64 0]) (by simp [results, Tryz.results318, go_sem]) rfl ⟨rfl, by first | exact (Below.refl _ _).alloc (Nat.le_refl _) _ | exact (((((Below.refl _ _).alloc (Nat.le_refl _) _).setCell (Nat.le_refl _) _).setCell (Nat.le_refl _) _).setCell (Nat.le_refl _) _).setCell (Nat.le_refl _) _⟩
  · obtain ⟨k, rfl⟩ := Int.eq_ofNat_of_zero_le (show 0 ≤ i by omega)
    have hk : k < P.T := by omega
    have i1 : (k : Int) < (P.T : Int) := by omega
    have HS := Lib.hid (has_in_readers HK.out k hk)
    obtain ⟨c0, c1, c2, c3, -⟩ := HK.out.spots hk
    obtain ⟨-, -, c8⟩ := HK.out.cells
    obtain ⟨⟨l1, -, -, -⟩, -, -, l2⟩ := K.lo
    have l3 := K.sz
    have l4 : c.gk < W.heap.size := by omega
    have l5 : c.hs < W.heap.size := by omega
    clear K hi
    generalize spOf x.2 (k : Int) = s at *
    obtain ⟨xp, xa, xb, xc⟩ := s
    simp only at c0 c1 c2 c3 ⊢
    go_enter Tryz.func318, Tryz.ntmps318
    go_wp2_with fail
    refine (HS.out).mono ?_
    rintro e wx ⟨rfl, hwx⟩
    obtain rfl := hwx.symm
    go_wp2_with fail
    exact bodyPost_ret (v := .agg #[.int .i64 xp, .int .i64 xa, .int .i64 xb, .int .i64 xc]) (by simp [results, Tryz.results318, go_sem]) rfl ⟨rfl, by first | exact (Below.refl _ _).alloc (Nat.le_refl _) _ | exact (((((Below.refl _ _).alloc (Nat.le_refl _) _).setCell (Nat.le_refl _) _).setCell (Nat.le_refl _) _).setCell (Nat.le_refl _) _).setCell (Nat.le_refl _) _⟩
end
section
variable {L : Nat} {W : World} {c : Rc} {P : Rp} {x : Ar × List Sp} (K : RdA 261 L W c P x)
include K
theorem threads_writers : Calls Tryz.prog 331 #[.pointer (some ⟨c.gk, 0, none⟩)] W fun e w' => e = .returned (.int .i64 (P.T : Int)) ∧ w' = W := by
  obtain ⟨-, -, c8⟩ := K.cells
  clear K
  go_enter Tryz.func331, Tryz.ntmps331
  go_wp2_with fail
  go_ret
  exact ⟨rfl, rfl⟩
theorem has_in_writers (k : Nat) (hk : k < P.T) : Calls Tryz.prog 332 #[.pointer (some ⟨c.gk, 0, none⟩), .int .i64 (k : Int)] W fun e w' => e = .returned (.bool true) ∧ w' = W := by
  have HT := Lib.hid (threads_writers K)
  have i0 : (0 : Int) ≤ (k : Int) := by omega
  have i1 : (k : Int) < (P.T : Int) := by omega
  clear K
  go_enter Tryz.func332, Tryz.ntmps332
  go_wp2_with fail
  refine (HT.out).mono ?_
  rintro e wx ⟨rfl, hwx⟩
  obtain rfl := hwx.symm
  go_wp2_with fail
  go_ret
  exact ⟨rfl, rfl⟩
theorem has_out_writers (i : Int) (hi : i < 0 ∨ (P.T : Int) ≤ i) : Calls Tryz.prog 332 #[.pointer (some ⟨c.gk, 0, none⟩), .int .i64 i] W fun e w' => e = .returned (.bool false) ∧ w' = W := by
  have HT := Lib.hid (threads_writers K)
  clear K
  by_cases h0 : 0 ≤ i
  · have h1 : ¬ i < (P.T : Int) := by omega
    have q1 := decide_eq_false h1
    go_enter Tryz.func332, Tryz.ntmps332
    go_wp2_with fail
    refine (HT.out).mono ?_
    rintro e wx ⟨rfl, hwx⟩
    obtain rfl := hwx.symm
    go_wp2_with fail
    go_ret
    exact ⟨rfl, rfl⟩
  · go_enter Tryz.func332, Tryz.ntmps332
    go_wp2_with fail
    go_ret
    exact ⟨rfl, rfl⟩
theorem spot_writers (i : Int) : Calls Tryz.prog 329 #[.pointer (some ⟨c.gk, 0, none⟩), .int .i64 i] W fun e w' => e = .returned (vSp (spOf x.2 i)) ∧ Below W.heap.size W w' := by
  have HK := Lib.hid (K.same (below_new W (.cells #[.int .i64 0, .int .i64 0, .int .i64 0, .int .i64 0] 134)))
  unfold vSp
  by_cases hi : i < 0 ∨ (P.T : Int) ≤ i
  · rw [K.out hi]
    have HS := Lib.hid (has_out_writers HK.out i hi)
    clear K hi
    go_enter Tryz.func329, Tryz.ntmps329
    go_wp2_with fail
    refine (HS.out).mono ?_
    rintro e wx ⟨rfl, hwx⟩
    obtain rfl := hwx.symm
    go_wp2_with fail
    exact bodyPost_ret (v := .agg #[.int .i64 0, .int .i64 0, .int .i64 0, .int .i64 0]) (by simp [results, Tryz.results329, go_sem]) rfl ⟨rfl, by first | exact (Below.refl _ _).alloc (Nat.le_refl _) _ | exact (((((Below.refl _ _).alloc (Nat.le_refl _) _).setCell (Nat.le_refl _) _).setCell (Nat.le_refl _) _).setCell (Nat.le_refl _) _).setCell (Nat.le_refl _) _⟩
  · obtain ⟨k, rfl⟩ := Int.eq_ofNat_of_zero_le (show 0 ≤ i by omega)
    have hk : k < P.T := by omega
    have i1 : (k : Int) < (P.T : Int) := by omega
    have HS := Lib.hid (has_in_writers HK.out k hk)
    obtain ⟨c0, c1, c2, c3, -⟩ := HK.out.spots hk
    obtain ⟨-, -, c8⟩ := HK.out.cells
    obtain ⟨⟨l1, -, -, -⟩, -, -, l2⟩ := K.lo
    have l3 := K.sz
    have l4 : c.gk < W.heap.size := by omega
    have l5 : c.hs < W.heap.size := by omega
    clear K hi
    generalize spOf x.2 (k : Int) = s at *
    obtain ⟨xp, xa, xb, xc⟩ := s
    simp only at c0 c1 c2 c3 ⊢
    go_enter Tryz.func329, Tryz.ntmps329
    go_wp2_with fail
    refine (HS.out).mono ?_
    rintro e wx ⟨rfl, hwx⟩
    obtain rfl := hwx.symm
    go_wp2_with fail
    exact bodyPost_ret (v := .agg #[.int .i64 xp, .int .i64 xa, .int .i64 xb, .int .i64 xc]) (by simp [results, Tryz.results329, go_sem]) rfl ⟨rfl, by first | exact (Below.refl _ _).alloc (Nat.le_refl _) _ | exact (((((Below.refl _ _).alloc (Nat.le_refl _) _).setCell (Nat.le_refl _) _).setCell (Nat.le_refl _) _).setCell (Nat.le_refl _) _).setCell (Nat.le_refl _) _⟩
end
end Go.Proofs.YtfmiioddhpkdkaaGreat.Rw

