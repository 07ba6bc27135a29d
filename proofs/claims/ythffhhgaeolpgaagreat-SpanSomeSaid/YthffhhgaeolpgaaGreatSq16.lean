/- Merged texts: Ga1, Ga2. -/
import Derived.Test.YthffhhgaeolpgaaGreatSq15
import Derived.Deep.RegionHeld3
import Derived.RegionTactic
import Derived.BigRegion
set_option linter.unusedVariables false
/- Package gate: a lock of any kind, and its threads: what its methods tell. -/
namespace Go.Proofs.YthffhhgaeolpgaaGreat.Ga
open Go.RowKit Go.Proofs.YthffhhgaeolpgaaGreat.Ara Go.Proofs.YthffhhgaeolpgaaGreat.Lok Go.Proofs.YthffhhgaeolpgaaGreat.Fl

def GB (W : World) (gg ga gf : Nat) : Prop := W.heap[gg]? = some (.cells #[.pointer (some ⟨ga, 0, none⟩), .pointer (some ⟨gf, 0, none⟩)] 73 (0, 0))
structure GAt (W : World) (gg gf gl ga ha hs : Nat) (p : PK) (σ : Ar) (sp : List Sp) : Prop where
  gb : GB W gg ga gf
  fl : FLAt W gf gl ga ha hs p σ sp
  n1 : gg ≠ ga
  n2 : gg ≠ ha
  n3 : gg ≠ hs
  nh : ha < W.heap.size
theorem GAt.same {W W' : World} {gg gf gl ga ha hs : Nat} {p : PK} {σ : Ar} {sp : List Sp} (k : GAt W gg gf gl ga ha hs p σ sp) (hb : Below W.heap.size W W') : GAt W' gg gf gl ga ha hs p σ sp :=
  ⟨(Mod.of_below (S := []) hb).blk k.gb (by simp), k.fl.same hb, k.n1, k.n2, k.n3, Nat.lt_of_lt_of_le k.nh hb.size⟩
theorem GAt.mod {S : List Nat} {W W' : World} {gg gf gl ga ha hs : Nat} {p : PK} {σ : Ar} {sp : List Sp} (k : GAt W gg gf gl ga ha hs p σ sp) (hm : Mod S W W') (h : gg ∉ S) (h0 : gf ∉ S) (h1 : gl ∉ S) (h2 : ga ∉ S) (h3 : ha ∉ S) (h4 : hs ∉ S) : GAt W' gg gf gl ga ha hs p σ sp :=
  ⟨hm.blk k.gb h, k.fl.mod hm h0 h1 h2 h3 h4, k.n1, k.n2, k.n3, Nat.lt_of_lt_of_le k.nh hm.size⟩
theorem GAt.acts {W W' : World} {gg gf gl ga ha hs : Nat} {p : PK} {σ σ' : Ar} {sp sp' : List Sp} (k : GAt W gg gf gl ga ha hs p σ sp) (h : FLAt W' gf gl ga ha hs p σ' sp') (hm : Mod [ga, ha, hs] W W') : GAt W' gg gf gl ga ha hs p σ' sp' := by
  have h1 := k.n1
  have h2 := k.n2
  have h3 := k.n3
  exact ⟨hm.blk k.gb (by simp; omega), h, h1, h2, h3, Nat.lt_of_lt_of_le k.nh hm.size⟩
theorem GAt.cells {W : World} {gg gf gl ga ha hs : Nat} {p : PK} {σ : Ar} {sp : List Sp} (k : GAt W gg gf gl ga ha hs p σ sp) : W.cell? ⟨gg, 0, none⟩ = some (.pointer (some ⟨ga, 0, none⟩)) ∧ W.cell? ⟨gg, 1, none⟩ = some (.pointer (some ⟨gf, 0, none⟩)) :=
  ⟨blk_cell k.gb 0 (by simp), blk_cell k.gb 1 (by simp)⟩
theorem GAt.blocks {W : World} {gg gf gl ga ha hs : Nat} {p : PK} {σ : Ar} {sp : List Sp} (k : GAt W gg gf gl ga ha hs p σ sp) : gg < W.heap.size ∧ gf < W.heap.size ∧ gl < W.heap.size ∧ ga < W.heap.size ∧ ha < W.heap.size ∧ hs < W.heap.size := by
  obtain ⟨h1, h2, h3, h4⟩ := k.fl.blocks
  exact ⟨lt_of_blk k.gb, h1, h2, h3, k.nh, h4⟩
theorem GAt.drewN {W : World} {gg gf gl ga ha hs : Nat} {p : PK} {σ : Ar} {sp : List Sp} (k : GAt W gg gf gl ga ha hs p σ sp) (n : Nat) : GAt (W.drewN n) gg gf gl ga ha hs p σ sp :=
  k.mod (S := []) ((Mod.refl _ _).drewN n) (by simp) (by simp) (by simp) (by simp) (by simp) (by simp)
def gev (k t c : Int) : Value := .agg #[.int .i64 k, .int .i64 t, .bool false, .int .i64 c]
theorem fld0 (a b c d : Value) (W : World) : (Instr.field 53 (.agg #[a, b, c, d]) 0).run Tryz.prog W = .ok a W := by kernel_rfl
section
variable {gg gf gl ga ha hs : Nat} {p : PK} {σ : Ar} {sp : List Sp} {w : World} (K : GAt w gg gf gl ga ha hs p σ sp)
include K
set_option maxRecDepth 100000 in
theorem threads_g : Calls Tryz.prog 38 #[.pointer (some ⟨gg, 0, none⟩)] w fun e w' => e = .returned (.int .i64 (sp.length : Int)) ∧ w' = w := by
  have HS := Lib.hid (Slots_flat K.fl)
  obtain ⟨c0, c1⟩ := K.cells
  clear K
  go_enter Tryz.func38, Tryz.ntmps38
  go_wp2_with fail
  refine (HS.out).mono ?_
  rintro e wx ⟨rfl, hwx⟩
  obtain rfl := hwx.symm
  go_wp2_with fail
  go_ret
  exact ⟨rfl, rfl⟩
set_option maxRecDepth 100000 in
theorem ops_g : Calls Tryz.prog 35 #[.pointer (some ⟨gg, 0, none⟩)] w fun e w' => e = .returned (.int .i64 σ.ops) ∧ w' = w := by
  have HS := Lib.hid (ops_any _ _ σ _ K.fl.at_.facts.1)
  obtain ⟨c0, c1⟩ := K.cells
  clear K
  go_enter Tryz.func35, Tryz.ntmps35
  go_wp2_with fail
  refine (HS.out).mono ?_
  rintro e wx ⟨rfl, hwx⟩
  obtain rfl := hwx.symm
  go_wp2_with fail
  go_ret
  exact ⟨rfl, rfl⟩
set_option maxRecDepth 100000 in
theorem words_g : Calls Tryz.prog 34 #[.pointer (some ⟨gg, 0, none⟩)] w fun e w' => ∃ A c, e = .returned (.slice A σ.t c) ∧ Sl w' w'.heap.size A ((σ.ws.take σ.t).flatMap decI) ∧ Below w.heap.size w w' := by
  have HS := Lib.hid (words_ar _ _ σ _ K.fl.at_.facts.1)
  obtain ⟨c0, c1⟩ := K.cells
  clear K
  go_enter Tryz.func34, Tryz.ntmps34
  go_wp2_with fail
  refine HS.out.mono ?_
  rintro e w2 ⟨A, c, rfl, hs2, hb2⟩
  have H2 := Lib.hid hs2
  have HB := Lib.hid hb2
  clear hs2 hb2
  go_wp2_with fail
  go_ret
  exact ⟨A, c, rfl, H2.out, HB.out⟩
set_option maxRecDepth 100000 in
theorem state_g (t : Int) : Calls Tryz.prog 36 #[.pointer (some ⟨gg, 0, none⟩), .int .i64 t] w fun e w' => e = .returned (.int .i64 (gst (spOf sp t))) ∧ Below w.heap.size w w' := by
  have HT := Lib.hid (threads_g K)
  have q1 := fun a b c d W => fld0 a b c d W
  by_cases ht : t < 0 ∨ (sp.length : Int) ≤ t
  · rw [spOf_out ht]
    clear K
    by_cases h0 : t < 0
    · go_enter Tryz.func36, Tryz.ntmps36
      go_wp2_with fail
      go_ret
      exact ⟨rfl, Below.refl _ _⟩
    · have h1 : (sp.length : Int) ≤ t := by omega
      have h2 : decide (t < 0) = false := decide_eq_false h0
      go_enter Tryz.func36, Tryz.ntmps36
      go_wp2_with fail
      refine (HT.out).mono ?_
      rintro e wx ⟨rfl, hwx⟩
      obtain rfl := hwx.symm
      go_wp2_with fail
      go_ret
      exact ⟨rfl, Below.refl _ _⟩
  · have h0 : ¬ t < 0 := by omega
    have h1 : ¬ (sp.length : Int) ≤ t := by omega
    have h2 : decide (t < 0) = false := decide_eq_false h0
    have h3 : decide ((sp.length : Int) ≤ t) = false := decide_eq_false h1
    have HS := Lib.hid (Spot_flat K.fl t)
    obtain ⟨c0, c1⟩ := K.cells
    clear K ht
    generalize spOf sp t = s at *
    obtain ⟨xp, xa, xb, xc⟩ := s
    simp only at HS
    by_cases e0 : xp = 0
    · subst e0
      go_enter Tryz.func36, Tryz.ntmps36
      go_wp2_with fail
      refine (HT.out).mono ?_
      rintro e wx ⟨rfl, hwx⟩
      obtain rfl := hwx.symm
      go_wp2_with fail
      refine HS.out.mono ?_
      rintro e w2 ⟨rfl, hb⟩
      go_wp2_with fail
      go_ret
      exact ⟨rfl, hb⟩
    by_cases e1 : xp < 10
    · have g0 := ibeq_no e0
      have HE := Lib.hid (show gst ⟨xp, xa, xb, xc⟩ = 1 by show (if xp = 0 then _ else _) = _; rw [if_neg e0, if_pos e1])
      go_enter Tryz.func36, Tryz.ntmps36
      go_wp2_with fail
      refine (HT.out).mono ?_
      rintro e wx ⟨rfl, hwx⟩
      obtain rfl := hwx.symm
      go_wp2_with fail
      refine HS.out.mono ?_
      rintro e w2 ⟨rfl, hb⟩
      go_wp2_with fail
      go_ret
      exact ⟨by rw [HE.out]; rfl, hb⟩
    by_cases e2 : xp = 10
    · subst e2
      go_enter Tryz.func36, Tryz.ntmps36
      go_wp2_with fail
      refine (HT.out).mono ?_
      rintro e wx ⟨rfl, hwx⟩
      obtain rfl := hwx.symm
      go_wp2_with fail
      refine HS.out.mono ?_
      rintro e w2 ⟨rfl, hb⟩
      go_wp2_with fail
      go_ret
      exact ⟨rfl, hb⟩
    · have g0 := ibeq_no e0
      have g2 := ibeq_no e2
      have g1 : decide (xp < 10) = false := decide_eq_false e1
      have HE := Lib.hid (show gst ⟨xp, xa, xb, xc⟩ = 3 by show (if xp = 0 then _ else _) = _; rw [if_neg e0, if_neg e1, if_neg e2])
      go_enter Tryz.func36, Tryz.ntmps36
      go_wp2_with fail
      refine (HT.out).mono ?_
      rintro e wx ⟨rfl, hwx⟩
      obtain rfl := hwx.symm
      go_wp2_with fail
      refine HS.out.mono ?_
      rintro e w2 ⟨rfl, hb⟩
      go_wp2_with fail
      go_ret
      exact ⟨by rw [HE.out]; rfl, hb⟩
end
end Go.Proofs.YthffhhgaeolpgaaGreat.Ga

/- Package gate: what comes of a pick. -/
namespace Go.Proofs.YthffhhgaeolpgaaGreat.Ga
open Go.RowKit Go.Proofs.YthffhhgaeolpgaaGreat.Ara Go.Proofs.YthffhhgaeolpgaaGreat.Lok Go.Proofs.YthffhhgaeolpgaaGreat.Fl


def gact (p : PK) (σ : Ar) (sp : List Sp) (t w : Int) : (Int × Int × Int) × Ar × List Sp :=
  if t < 0 ∨ (sp.length : Int) ≤ t then ((0, 0, 0), σ, sp)
  else if w = 0 then
    if gst (spOf sp t) = 1 ∨ gst (spOf sp t) = 3 then
      (if (doK p σ sp 0 t).1 then (if gst (spOf sp t) = 1 then (2, t, 1) else (4, t, 0)) else (0, t, 0), (doK p σ sp 0 t).2)
    else ((0, t, 0), σ, sp)
  else if w = 1 then (if (doK p σ sp 1 t).1 then (1, t, 0) else (5, t, 0), (doK p σ sp 1 t).2)
  else if w = 2 then (if (doK p σ sp 2 t).1 then (3, t, 0) else (5, t, 0), (doK p σ sp 2 t).2)
  else ((5, t, 0), σ, sp)
theorem gst_in (s : Sp) : gst s = 0 ∨ gst s = 1 ∨ gst s = 2 ∨ gst s = 3 := by unfold gst; repeat (first | split | simp)
section
variable {gg gf gl ga ha hs : Nat} {p : PK}
theorem ev_end {W w : World} {σ : Ar} {sp : List Sp} (k : GAt W gg gf gl ga ha hs p σ sp) {x : Nat} (hm : Mod [ga, ha, hs] w W) (hx : w.heap.size ≤ x) (hg : gg < w.heap.size ∧ gf < w.heap.size ∧ gl < w.heap.size ∧ ga < w.heap.size ∧ ha < w.heap.size ∧ hs < w.heap.size) {W' : World} (h : Mod [x] W W') :
    GAt W' gg gf gl ga ha hs p σ sp ∧ Mod [ga, ha, hs] w W' :=
  ⟨k.mod h (by simp; omega) (by simp; omega) (by simp; omega) (by simp; omega) (by simp; omega) (by simp; omega), ⟨h.os.trans hm.os, h.tape.trans hm.tape, h.output.trans hm.output, Nat.le_trans hm.size h.size, fun q hq hn => (h.block q (Nat.lt_of_lt_of_le hq hm.size) (by simp; omega)).trans (hm.block q hq hn)⟩⟩
variable {σ : Ar} {sp : List Sp} {w : World} (K : GAt w gg gf gl ga ha hs p σ sp)
include K
set_option maxHeartbeats 4000000 in
set_option maxRecDepth 100000 in
theorem do_out (t want : Int) (ht : t < 0 ∨ (sp.length : Int) ≤ t) : Calls Tryz.prog 32 #[.pointer (some ⟨gg, 0, none⟩), .agg #[.int .i64 t, .int .i64 want]] w fun e w' => e = .returned (gev 0 0 0) ∧ GAt w' gg gf gl ga ha hs p σ sp ∧ Mod [ga, ha, hs] w w' := by
  have hb1 : Below w.heap.size w (w.alloc (.cells #[.int .i64 t, .int .i64 want] 68)) := below_new _ _
  have hb2 : Below w.heap.size w ((w.alloc (.cells #[.int .i64 t, .int .i64 want] 68)).alloc (.cells #[.int .i64 0, .int .i64 0, .bool false, .int .i64 0] 65)) := hb1.alloc hb1.size _
  have HE := Lib.hid (show ((w.alloc (.cells #[.int .i64 t, .int .i64 want] 68)).alloc (.cells #[.int .i64 0, .int .i64 0, .bool false, .int .i64 0] 65)).heap[w.heap.size + 1]? = some (.cells #[.int .i64 0, .int .i64 0, .bool false, .int .i64 0] 65) from by simpa using blk_new (w.alloc (.cells #[.int .i64 t, .int .i64 want] 68)) (.cells #[.int .i64 0, .int .i64 0, .bool false, .int .i64 0] 65))
  have HP := Lib.hid (show ((w.alloc (.cells #[.int .i64 t, .int .i64 want] 68)).alloc (.cells #[.int .i64 0, .int .i64 0, .bool false, .int .i64 0] 65)).heap[w.heap.size]? = some (.cells #[.int .i64 t, .int .i64 want] 68) from (heap_alloc_old _ _ (by simp)).trans (blk_new _ _))
  have hK := K.same hb2
  have HT := Lib.hid (fun n => threads_g (hK.drewN n))
  have HK := Lib.hid hK
  have HG := Lib.hid K.blocks
  have HM := Lib.hid (Mod.of_below (S := [ga, ha, hs]) hb2)
  clear K hK hb1 hb2
  by_cases h0 : t < 0
  · clear HT ht
    have HT := Lib.hid trivial
    go_enter Tryz.func32, Tryz.ntmps32
    go_wp2_with fail
    go_quiet (fail)
    have HK2 := Lib.hid (HK.out.drewN nq)
    have HM2 := Lib.hid (HM.out.drewN nq)
    have HE2 := Lib.hid (show (((w.alloc (.cells #[.int .i64 t, .int .i64 want] 68)).alloc (.cells #[.int .i64 0, .int .i64 0, .bool false, .int .i64 0] 65)).drewN nq).heap[w.heap.size + 1]? = some (.cells #[.int .i64 0, .int .i64 0, .bool false, .int .i64 0] 65) from HE.out)
    have HP2 := Lib.hid (show (((w.alloc (.cells #[.int .i64 t, .int .i64 want] 68)).alloc (.cells #[.int .i64 0, .int .i64 0, .bool false, .int .i64 0] 65)).drewN nq).heap[w.heap.size]? = some (.cells #[.int .i64 t, .int .i64 want] 68) from HP.out)
    have HZ2 := Lib.hid (show w.heap.size ≤ (((w.alloc (.cells #[.int .i64 t, .int .i64 want] 68)).alloc (.cells #[.int .i64 0, .int .i64 0, .bool false, .int .i64 0] 65)).drewN nq).heap.size from HM2.out.size)
    clear HK HM HE HP HT
    generalize ((w.alloc (.cells #[.int .i64 t, .int .i64 want] 68)).alloc (.cells #[.int .i64 0, .int .i64 0, .bool false, .int .i64 0] 65)).drewN nq = W2 at *
    have c0 := blk_cell HP2.out 0 (by simp)
    have c1 := blk_cell HP2.out 1 (by simp)
    simp only [List.getElem_toArray, List.getElem_cons_zero, List.getElem_cons_succ] at c0 c1
    have d0 := blk_cell HE2.out 0 (by simp)
    have d1 := blk_cell HE2.out 1 (by simp)
    have d2 := blk_cell HE2.out 2 (by simp)
    have d3 := blk_cell HE2.out 3 (by simp)
    simp only [List.getElem_toArray, List.getElem_cons_zero, List.getElem_cons_succ] at d0 d1 d2 d3
    have f0 := blk_free HE2.out 0
    have f1 := blk_free HE2.out 1
    have f2 := blk_free HE2.out 2
    have f3 := blk_free HE2.out 3
    have k0 := blk_set HE2.out 0 (.int .i64 (0))
    have k1 := blk_set k0 1 (.int .i64 (0))
    have k2 := blk_set k1 2 (.bool false)
    have k3 := blk_set k2 3 (.int .i64 (0))
    have g0 := blk_cell k0 0 (by simp)
    have g1 := blk_cell k1 1 (by simp)
    have g2 := blk_cell k2 2 (by simp)
    have g3 := blk_cell k3 3 (by simp)
    simp at g0 g1 g2 g3
    clear k0 k1 k2 k3
    go_wp2_with fail
    refine bodyPost_ret (v := gev (0) (0) (0)) ?_ rfl ⟨rfl, ?_⟩
    · simp [gev, results, Tryz.results32, go_sem, g0, g1, g2, g3]
    · exact ev_end HK2.out HM2.out (x := w.heap.size + 1) (Nat.le_succ _) HG.out (((((Mod.refl [w.heap.size + 1] _).setCell (by simp) _).setCell (by simp) _).setCell (by simp) _).setCell (by simp) _)
  · have h1 : (sp.length : Int) ≤ t := by omega
    have h2 : decide (t < 0) = false := decide_eq_false h0
    clear ht
    go_enter Tryz.func32, Tryz.ntmps32
    go_wp2_with fail
    go_quiet ((go_at_call 38; exact Calls.quiet_of_same (HT.out _)))
    have HK2 := Lib.hid (HK.out.drewN nq)
    have HM2 := Lib.hid (HM.out.drewN nq)
    have HE2 := Lib.hid (show (((w.alloc (.cells #[.int .i64 t, .int .i64 want] 68)).alloc (.cells #[.int .i64 0, .int .i64 0, .bool false, .int .i64 0] 65)).drewN nq).heap[w.heap.size + 1]? = some (.cells #[.int .i64 0, .int .i64 0, .bool false, .int .i64 0] 65) from HE.out)
    have HP2 := Lib.hid (show (((w.alloc (.cells #[.int .i64 t, .int .i64 want] 68)).alloc (.cells #[.int .i64 0, .int .i64 0, .bool false, .int .i64 0] 65)).drewN nq).heap[w.heap.size]? = some (.cells #[.int .i64 t, .int .i64 want] 68) from HP.out)
    have HZ2 := Lib.hid (show w.heap.size ≤ (((w.alloc (.cells #[.int .i64 t, .int .i64 want] 68)).alloc (.cells #[.int .i64 0, .int .i64 0, .bool false, .int .i64 0] 65)).drewN nq).heap.size from HM2.out.size)
    clear HK HM HE HP HT
    generalize ((w.alloc (.cells #[.int .i64 t, .int .i64 want] 68)).alloc (.cells #[.int .i64 0, .int .i64 0, .bool false, .int .i64 0] 65)).drewN nq = W2 at *
    have c0 := blk_cell HP2.out 0 (by simp)
    have c1 := blk_cell HP2.out 1 (by simp)
    simp only [List.getElem_toArray, List.getElem_cons_zero, List.getElem_cons_succ] at c0 c1
    have d0 := blk_cell HE2.out 0 (by simp)
    have d1 := blk_cell HE2.out 1 (by simp)
    have d2 := blk_cell HE2.out 2 (by simp)
    have d3 := blk_cell HE2.out 3 (by simp)
    simp only [List.getElem_toArray, List.getElem_cons_zero, List.getElem_cons_succ] at d0 d1 d2 d3
    have f0 := blk_free HE2.out 0
    have f1 := blk_free HE2.out 1
    have f2 := blk_free HE2.out 2
    have f3 := blk_free HE2.out 3
    have k0 := blk_set HE2.out 0 (.int .i64 (0))
    have k1 := blk_set k0 1 (.int .i64 (0))
    have k2 := blk_set k1 2 (.bool false)
    have k3 := blk_set k2 3 (.int .i64 (0))
    have g0 := blk_cell k0 0 (by simp)
    have g1 := blk_cell k1 1 (by simp)
    have g2 := blk_cell k2 2 (by simp)
    have g3 := blk_cell k3 3 (by simp)
    simp at g0 g1 g2 g3
    clear k0 k1 k2 k3
    go_wp2_with fail
    refine bodyPost_ret (v := gev (0) (0) (0)) ?_ rfl ⟨rfl, ?_⟩
    · simp [gev, results, Tryz.results32, go_sem, g0, g1, g2, g3]
    · exact ev_end HK2.out HM2.out (x := w.heap.size + 1) (Nat.le_succ _) HG.out (((((Mod.refl [w.heap.size + 1] _).setCell (by simp) _).setCell (by simp) _).setCell (by simp) _).setCell (by simp) _)
set_option maxHeartbeats 4000000 in
set_option maxRecDepth 100000 in
theorem do_bad (t want : Int) (ht : ¬ (t < 0 ∨ (sp.length : Int) ≤ t)) (hw : want < 0 ∨ 2 < want) : Calls Tryz.prog 32 #[.pointer (some ⟨gg, 0, none⟩), .agg #[.int .i64 t, .int .i64 want]] w fun e w' => e = .returned (gev 5 t 0) ∧ GAt w' gg gf gl ga ha hs p σ sp ∧ Mod [ga, ha, hs] w w' := by
  have hb1 : Below w.heap.size w (w.alloc (.cells #[.int .i64 t, .int .i64 want] 68)) := below_new _ _
  have hb2 : Below w.heap.size w ((w.alloc (.cells #[.int .i64 t, .int .i64 want] 68)).alloc (.cells #[.int .i64 0, .int .i64 0, .bool false, .int .i64 0] 65)) := hb1.alloc hb1.size _
  have HE := Lib.hid (show ((w.alloc (.cells #[.int .i64 t, .int .i64 want] 68)).alloc (.cells #[.int .i64 0, .int .i64 0, .bool false, .int .i64 0] 65)).heap[w.heap.size + 1]? = some (.cells #[.int .i64 0, .int .i64 0, .bool false, .int .i64 0] 65) from by simpa using blk_new (w.alloc (.cells #[.int .i64 t, .int .i64 want] 68)) (.cells #[.int .i64 0, .int .i64 0, .bool false, .int .i64 0] 65))
  have HP := Lib.hid (show ((w.alloc (.cells #[.int .i64 t, .int .i64 want] 68)).alloc (.cells #[.int .i64 0, .int .i64 0, .bool false, .int .i64 0] 65)).heap[w.heap.size]? = some (.cells #[.int .i64 t, .int .i64 want] 68) from (heap_alloc_old _ _ (by simp)).trans (blk_new _ _))
  have hK := K.same hb2
  have HT := Lib.hid (fun n => threads_g (hK.drewN n))
  have HK := Lib.hid hK
  have HG := Lib.hid K.blocks
  have HM := Lib.hid (Mod.of_below (S := [ga, ha, hs]) hb2)
  clear K hK hb1 hb2
  have hr0 : ¬ t < 0 := by omega
  have hr1 : ¬ (sp.length : Int) ≤ t := by omega
  have hr2 : decide (t < 0) = false := decide_eq_false hr0
  have hr3 : decide ((sp.length : Int) ≤ t) = false := decide_eq_false hr1
  have e0 := ibeq_no (show ¬ want = 0 by omega)
  have e1 := ibeq_no (show ¬ want = 1 by omega)
  have e2 := ibeq_no (show ¬ want = 2 by omega)
  clear ht hw
  go_enter Tryz.func32, Tryz.ntmps32
  go_wp2_with fail
  go_quiet ((go_at_call 38; exact Calls.quiet_of_same (HT.out _)))
  have HK2 := Lib.hid (HK.out.drewN nq)
  have HM2 := Lib.hid (HM.out.drewN nq)
  have HE2 := Lib.hid (show (((w.alloc (.cells #[.int .i64 t, .int .i64 want] 68)).alloc (.cells #[.int .i64 0, .int .i64 0, .bool false, .int .i64 0] 65)).drewN nq).heap[w.heap.size + 1]? = some (.cells #[.int .i64 0, .int .i64 0, .bool false, .int .i64 0] 65) from HE.out)
  have HP2 := Lib.hid (show (((w.alloc (.cells #[.int .i64 t, .int .i64 want] 68)).alloc (.cells #[.int .i64 0, .int .i64 0, .bool false, .int .i64 0] 65)).drewN nq).heap[w.heap.size]? = some (.cells #[.int .i64 t, .int .i64 want] 68) from HP.out)
  have HZ2 := Lib.hid (show w.heap.size ≤ (((w.alloc (.cells #[.int .i64 t, .int .i64 want] 68)).alloc (.cells #[.int .i64 0, .int .i64 0, .bool false, .int .i64 0] 65)).drewN nq).heap.size from HM2.out.size)
  clear HK HM HE HP HT
  generalize ((w.alloc (.cells #[.int .i64 t, .int .i64 want] 68)).alloc (.cells #[.int .i64 0, .int .i64 0, .bool false, .int .i64 0] 65)).drewN nq = W2 at *
  have c0 := blk_cell HP2.out 0 (by simp)
  have c1 := blk_cell HP2.out 1 (by simp)
  simp only [List.getElem_toArray, List.getElem_cons_zero, List.getElem_cons_succ] at c0 c1
  go_wp2_with fail
  refine (state_g HK2.out t).mono ?_
  rintro e w3 ⟨rfl, hb3⟩
  have HK3 := Lib.hid (HK2.out.same hb3)
  have HM3 := Lib.hid (HM2.out.trans (Mod.of_below (S := [ga, ha, hs]) hb3))
  have HE3 := Lib.hid (show w3.heap[w.heap.size + 1]? = some (.cells #[.int .i64 0, .int .i64 0, .bool false, .int .i64 0] 65) from (Mod.of_below (S := []) hb3).blk HE2.out (by simp))
  have HP3 := Lib.hid (show w3.heap[w.heap.size]? = some (.cells #[.int .i64 t, .int .i64 want] 68) from (Mod.of_below (S := []) hb3).blk HP2.out (by simp))
  have HZ3 := Lib.hid (show w.heap.size ≤ w3.heap.size from HM3.out.size)
  clear HK2 HM2 HE2 HP2 HZ2 hb3 c0 c1
  have c0 := blk_cell HP3.out 0 (by simp)
  have c1 := blk_cell HP3.out 1 (by simp)
  simp only [List.getElem_toArray, List.getElem_cons_zero, List.getElem_cons_succ] at c0 c1
  have hst := gst_in (spOf sp t)
  generalize gst (spOf sp t) = st at *
  rcases hst with rfl | rfl | rfl | rfl
  all_goals
    go_wp2_with fail
    go_quiet (fail)
    have HKn := Lib.hid (HK3.out.drewN nq)
    have HMn := Lib.hid (HM3.out.drewN nq)
    have HEn := Lib.hid (show (w3.drewN nq).heap[w.heap.size + 1]? = some (.cells #[.int .i64 0, .int .i64 0, .bool false, .int .i64 0] 65) from HE3.out)
    have HPn := Lib.hid (show (w3.drewN nq).heap[w.heap.size]? = some (.cells #[.int .i64 t, .int .i64 want] 68) from HP3.out)
    have HZn := Lib.hid (show w.heap.size ≤ (w3.drewN nq).heap.size from HMn.out.size)
    clear HK3 HM3 HE3 HP3 HZ3 c0 c1
    generalize w3.drewN nq = W4 at *
    have HK3 := HKn
    have HM3 := HMn
    have HE3 := HEn
    have HP3 := HPn
    have HZ3 := HZn
    clear HKn HMn HEn HPn HZn
    have c0 := blk_cell HP3.out 0 (by simp)
    have c1 := blk_cell HP3.out 1 (by simp)
    simp only [List.getElem_toArray, List.getElem_cons_zero, List.getElem_cons_succ] at c0 c1
    go_wp2_with fail
    go_quiet (fail)
    have HKn := Lib.hid (HK3.out.drewN nq)
    have HMn := Lib.hid (HM3.out.drewN nq)
    have HEn := Lib.hid (show (W4.drewN nq).heap[w.heap.size + 1]? = some (.cells #[.int .i64 0, .int .i64 0, .bool false, .int .i64 0] 65) from HE3.out)
    have HPn := Lib.hid (show (W4.drewN nq).heap[w.heap.size]? = some (.cells #[.int .i64 t, .int .i64 want] 68) from HP3.out)
    have HZn := Lib.hid (show w.heap.size ≤ (W4.drewN nq).heap.size from HMn.out.size)
    clear HK3 HM3 HE3 HP3 HZ3 c0 c1
    generalize W4.drewN nq = W5 at *
    have HK3 := HKn
    have HM3 := HMn
    have HE3 := HEn
    have HP3 := HPn
    have HZ3 := HZn
    clear HKn HMn HEn HPn HZn
    have c0 := blk_cell HP3.out 0 (by simp)
    have c1 := blk_cell HP3.out 1 (by simp)
    simp only [List.getElem_toArray, List.getElem_cons_zero, List.getElem_cons_succ] at c0 c1
    have d0 := blk_cell HE3.out 0 (by simp)
    have d1 := blk_cell HE3.out 1 (by simp)
    have d2 := blk_cell HE3.out 2 (by simp)
    have d3 := blk_cell HE3.out 3 (by simp)
    simp only [List.getElem_toArray, List.getElem_cons_zero, List.getElem_cons_succ] at d0 d1 d2 d3
    have f0 := blk_free HE3.out 0
    have f1 := blk_free HE3.out 1
    have f2 := blk_free HE3.out 2
    have f3 := blk_free HE3.out 3
    have k0 := blk_set HE3.out 0 (.int .i64 (5))
    have k1 := blk_set k0 1 (.int .i64 (t))
    have k2 := blk_set k1 2 (.bool false)
    have k3 := blk_set k2 3 (.int .i64 (0))
    have g0 := blk_cell k0 0 (by simp)
    have g1 := blk_cell k1 1 (by simp)
    have g2 := blk_cell k2 2 (by simp)
    have g3 := blk_cell k3 3 (by simp)
    simp at g0 g1 g2 g3
    clear k0 k1 k2 k3
    go_wp2_with fail
    refine bodyPost_ret (v := gev (5) (t) (0)) ?_ rfl ⟨rfl, ?_⟩
    · simp [gev, results, Tryz.results32, go_sem, g0, g1, g2, g3]
    · exact ev_end HK3.out HM3.out (x := w.heap.size + 1) (Nat.le_succ _) HG.out (((((Mod.refl [w.heap.size + 1] _).setCell (by simp) _).setCell (by simp) _).setCell (by simp) _).setCell (by simp) _)
set_option maxHeartbeats 4000000 in
set_option maxRecDepth 100000 in
theorem do_stay (t want : Int) (ht : ¬ (t < 0 ∨ (sp.length : Int) ≤ t)) (hw : want = 0) (hs0 : gst (spOf sp t) = 0 ∨ gst (spOf sp t) = 2) : Calls Tryz.prog 32 #[.pointer (some ⟨gg, 0, none⟩), .agg #[.int .i64 t, .int .i64 want]] w fun e w' => e = .returned (gev 0 t 0) ∧ GAt w' gg gf gl ga ha hs p σ sp ∧ Mod [ga, ha, hs] w w' := by
  have hb1 : Below w.heap.size w (w.alloc (.cells #[.int .i64 t, .int .i64 want] 68)) := below_new _ _
  have hb2 : Below w.heap.size w ((w.alloc (.cells #[.int .i64 t, .int .i64 want] 68)).alloc (.cells #[.int .i64 0, .int .i64 0, .bool false, .int .i64 0] 65)) := hb1.alloc hb1.size _
  have HE := Lib.hid (show ((w.alloc (.cells #[.int .i64 t, .int .i64 want] 68)).alloc (.cells #[.int .i64 0, .int .i64 0, .bool false, .int .i64 0] 65)).heap[w.heap.size + 1]? = some (.cells #[.int .i64 0, .int .i64 0, .bool false, .int .i64 0] 65) from by simpa using blk_new (w.alloc (.cells #[.int .i64 t, .int .i64 want] 68)) (.cells #[.int .i64 0, .int .i64 0, .bool false, .int .i64 0] 65))
  have HP := Lib.hid (show ((w.alloc (.cells #[.int .i64 t, .int .i64 want] 68)).alloc (.cells #[.int .i64 0, .int .i64 0, .bool false, .int .i64 0] 65)).heap[w.heap.size]? = some (.cells #[.int .i64 t, .int .i64 want] 68) from (heap_alloc_old _ _ (by simp)).trans (blk_new _ _))
  have hK := K.same hb2
  have HT := Lib.hid (fun n => threads_g (hK.drewN n))
  have HK := Lib.hid hK
  have HG := Lib.hid K.blocks
  have HM := Lib.hid (Mod.of_below (S := [ga, ha, hs]) hb2)
  clear K hK hb1 hb2
  have hr0 : ¬ t < 0 := by omega
  have hr1 : ¬ (sp.length : Int) ≤ t := by omega
  have hr2 : decide (t < 0) = false := decide_eq_false hr0
  have hr3 : decide ((sp.length : Int) ≤ t) = false := decide_eq_false hr1
  have e0 := ibeq hw
  clear ht hw
  go_enter Tryz.func32, Tryz.ntmps32
  go_wp2_with fail
  go_quiet ((go_at_call 38; exact Calls.quiet_of_same (HT.out _)))
  have HK2 := Lib.hid (HK.out.drewN nq)
  have HM2 := Lib.hid (HM.out.drewN nq)
  have HE2 := Lib.hid (show (((w.alloc (.cells #[.int .i64 t, .int .i64 want] 68)).alloc (.cells #[.int .i64 0, .int .i64 0, .bool false, .int .i64 0] 65)).drewN nq).heap[w.heap.size + 1]? = some (.cells #[.int .i64 0, .int .i64 0, .bool false, .int .i64 0] 65) from HE.out)
  have HP2 := Lib.hid (show (((w.alloc (.cells #[.int .i64 t, .int .i64 want] 68)).alloc (.cells #[.int .i64 0, .int .i64 0, .bool false, .int .i64 0] 65)).drewN nq).heap[w.heap.size]? = some (.cells #[.int .i64 t, .int .i64 want] 68) from HP.out)
  have HZ2 := Lib.hid (show w.heap.size ≤ (((w.alloc (.cells #[.int .i64 t, .int .i64 want] 68)).alloc (.cells #[.int .i64 0, .int .i64 0, .bool false, .int .i64 0] 65)).drewN nq).heap.size from HM2.out.size)
  clear HK HM HE HP HT
  generalize ((w.alloc (.cells #[.int .i64 t, .int .i64 want] 68)).alloc (.cells #[.int .i64 0, .int .i64 0, .bool false, .int .i64 0] 65)).drewN nq = W2 at *
  have c0 := blk_cell HP2.out 0 (by simp)
  have c1 := blk_cell HP2.out 1 (by simp)
  simp only [List.getElem_toArray, List.getElem_cons_zero, List.getElem_cons_succ] at c0 c1
  go_wp2_with fail
  refine (state_g HK2.out t).mono ?_
  rintro e w3 ⟨rfl, hb3⟩
  have HK3 := Lib.hid (HK2.out.same hb3)
  have HM3 := Lib.hid (HM2.out.trans (Mod.of_below (S := [ga, ha, hs]) hb3))
  have HE3 := Lib.hid (show w3.heap[w.heap.size + 1]? = some (.cells #[.int .i64 0, .int .i64 0, .bool false, .int .i64 0] 65) from (Mod.of_below (S := []) hb3).blk HE2.out (by simp))
  have HP3 := Lib.hid (show w3.heap[w.heap.size]? = some (.cells #[.int .i64 t, .int .i64 want] 68) from (Mod.of_below (S := []) hb3).blk HP2.out (by simp))
  have HZ3 := Lib.hid (show w.heap.size ≤ w3.heap.size from HM3.out.size)
  clear HK2 HM2 HE2 HP2 HZ2 hb3 c0 c1
  have c0 := blk_cell HP3.out 0 (by simp)
  have c1 := blk_cell HP3.out 1 (by simp)
  simp only [List.getElem_toArray, List.getElem_cons_zero, List.getElem_cons_succ] at c0 c1
  have hst := gst_in (spOf sp t)
  clear hst
  generalize gst (spOf sp t) = st at *
  rcases hs0 with rfl | rfl
  all_goals
    have d0 := blk_cell HE3.out 0 (by simp)
    have d1 := blk_cell HE3.out 1 (by simp)
    have d2 := blk_cell HE3.out 2 (by simp)
    have d3 := blk_cell HE3.out 3 (by simp)
    simp only [List.getElem_toArray, List.getElem_cons_zero, List.getElem_cons_succ] at d0 d1 d2 d3
    have f0 := blk_free HE3.out 0
    have f1 := blk_free HE3.out 1
    have f2 := blk_free HE3.out 2
    have f3 := blk_free HE3.out 3
    have k0 := blk_set HE3.out 0 (.int .i64 (0))
    have k1 := blk_set k0 1 (.int .i64 (t))
    have k2 := blk_set k1 2 (.bool false)
    have k3 := blk_set k2 3 (.int .i64 (0))
    have g0 := blk_cell k0 0 (by simp)
    have g1 := blk_cell k1 1 (by simp)
    have g2 := blk_cell k2 2 (by simp)
    have g3 := blk_cell k3 3 (by simp)
    simp at g0 g1 g2 g3
    clear k0 k1 k2 k3
    go_wp2_with fail
    refine bodyPost_ret (v := gev (0) (t) (0)) ?_ rfl ⟨rfl, ?_⟩
    · simp [gev, results, Tryz.results32, go_sem, g0, g1, g2, g3]
    · exact ev_end HK3.out HM3.out (x := w.heap.size + 1) (Nat.le_succ _) HG.out (((((Mod.refl [w.heap.size + 1] _).setCell (by simp) _).setCell (by simp) _).setCell (by simp) _).setCell (by simp) _)
set_option maxHeartbeats 4000000 in
set_option maxRecDepth 100000 in
theorem step_g (n m : Nat) (ho : OkK p σ sp n m) (hm : m ≤ 100000) (t s : Int) (hs1 : s = 1 ∨ s = 3) (b : Bool) (σ2 : Ar) (sp2 : List Sp) (hr : doK p σ sp 0 t = (b, σ2, sp2)) (k c : Int) (hkc : (k, c) = if b then (if s = 1 then (2, 1) else (4, 0)) else ((0, 0) : Int × Int)) :
    Calls Tryz.prog 71 #[.pointer (some ⟨gg, 0, none⟩), .int .i64 t, .int .i64 s] w fun e w' => e = .returned (gev k t c) ∧ GAt w' gg gf gl ga ha hs p σ2 sp2 ∧ Mod [ga, ha, hs] w w' := by
  have hb1 : Below w.heap.size w (w.alloc (.cells #[.int .i64 0, .int .i64 0, .bool false, .int .i64 0] 65)) := below_new _ _
  have hb2 : Below w.heap.size w ((w.alloc (.cells #[.int .i64 0, .int .i64 0, .bool false, .int .i64 0] 65)).alloc (.cells #[.int .i64 0, .int .i64 t, .bool false, .int .i64 0] 65)) := hb1.alloc hb1.size _
  have HE := Lib.hid (show ((w.alloc (.cells #[.int .i64 0, .int .i64 0, .bool false, .int .i64 0] 65)).alloc (.cells #[.int .i64 0, .int .i64 t, .bool false, .int .i64 0] 65)).heap[w.heap.size + 1]? = some (.cells #[.int .i64 0, .int .i64 t, .bool false, .int .i64 0] 65) by simpa using blk_new (w.alloc (.cells #[.int .i64 0, .int .i64 0, .bool false, .int .i64 0] 65)) (.cells #[.int .i64 0, .int .i64 t, .bool false, .int .i64 0] 65))
  have HR := Lib.hid (show ((w.alloc (.cells #[.int .i64 0, .int .i64 0, .bool false, .int .i64 0] 65)).alloc (.cells #[.int .i64 0, .int .i64 t, .bool false, .int .i64 0] 65)).heap[w.heap.size]? = some (.cells #[.int .i64 0, .int .i64 0, .bool false, .int .i64 0] 65) from (heap_alloc_old _ _ (by simp)).trans (blk_new _ _))
  have HG := Lib.hid K.blocks
  have HK := Lib.hid (K.same hb2)
  have HM := Lib.hid (Mod.of_below (S := [ga, ha, hs]) hb2)
  have HS := Lib.hid (Step_flat HK.out.fl n m ho hm t)
  rw [hr] at HS
  simp only at HS
  obtain ⟨g0, g1⟩ := HK.out.cells
  clear K hb1 hb2 ho hr
  go_enter Tryz.func71, Tryz.ntmps71
  go_wp2_with fail
  refine HS.out.mono ?_
  rintro e w2 ⟨rfl, hf2, hm2⟩
  have hgb := HG.out
  have HR2 := Lib.hid (show w2.heap[w.heap.size]? = some (.cells #[.int .i64 0, .int .i64 0, .bool false, .int .i64 0] 65) from hm2.blk HR.out (by simp; omega))
  have HE2 := Lib.hid (show w2.heap[w.heap.size + 1]? = _ from hm2.blk HE.out (by simp; omega))
  have HK2 := Lib.hid (HK.out.acts hf2 hm2)
  have HM2 := Lib.hid (HM.out.trans hm2)
  clear HR HE HK HM HS hf2 hm2 g0 g1 hgb
  have e0 := blk_cell HE2.out 0 (by simp)
  have e1 := blk_cell HE2.out 1 (by simp)
  have e2 := blk_cell HE2.out 2 (by simp)
  have e3 := blk_cell HE2.out 3 (by simp)
  simp only [List.getElem_toArray, List.getElem_cons_zero, List.getElem_cons_succ] at e0 e1 e2 e3
  cases b with
  | false =>
    obtain ⟨rfl, rfl⟩ : k = 0 ∧ c = 0 := by simpa using hkc
    clear hkc
    have d0 := blk_cell HR2.out 0 (by simp)
    have d1 := blk_cell HR2.out 1 (by simp)
    have d2 := blk_cell HR2.out 2 (by simp)
    have d3 := blk_cell HR2.out 3 (by simp)
    simp only [List.getElem_toArray, List.getElem_cons_zero, List.getElem_cons_succ] at d0 d1 d2 d3
    have f0 := blk_free HR2.out 0
    have f1 := blk_free HR2.out 1
    have f2 := blk_free HR2.out 2
    have f3 := blk_free HR2.out 3
    have k0 := blk_set HR2.out 0 (.int .i64 (0))
    have k1 := blk_set k0 1 (.int .i64 (t))
    have k2 := blk_set k1 2 (.bool false)
    have k3 := blk_set k2 3 (.int .i64 (0))
    have g0 := blk_cell k0 0 (by simp)
    have g1 := blk_cell k1 1 (by simp)
    have g2 := blk_cell k2 2 (by simp)
    have g3 := blk_cell k3 3 (by simp)
    simp at g0 g1 g2 g3
    clear k0 k1 k2 k3
    go_wp2_with fail
    refine bodyPost_ret (v := gev (0) (t) (0)) ?_ rfl ⟨rfl, ?_⟩
    · simp [gev, results, Tryz.results71, go_sem, g0, g1, g2, g3]
    · exact ev_end HK2.out HM2.out (x := w.heap.size) (Nat.le_refl _) HG.out (((((Mod.refl [w.heap.size] _).setCell (by simp) _).setCell (by simp) _).setCell (by simp) _).setCell (by simp) _)
  | true =>
    have fE0 := blk_free HE2.out 0
    have fE3 := blk_free HE2.out 3
    rcases hs1 with rfl | rfl
    · obtain ⟨rfl, rfl⟩ : k = 2 ∧ c = 1 := by simpa using hkc
      clear hkc
      have hmm : Mod [w.heap.size + 1] w2 ((w2.setCell ⟨w.heap.size + 1, 0, none⟩ (.int .i64 2)).setCell ⟨w.heap.size + 1, 3, none⟩ (.int .i64 1)) := ((Mod.refl [w.heap.size + 1] w2).setCell (by simp) _).setCell (by simp) _
      have hend := ev_end HK2.out HM2.out (x := w.heap.size + 1) (Nat.le_succ _) HG.out hmm
      have HR3 := Lib.hid (hmm.blk HR2.out (by simp))
      have hbl := (blk_set (blk_set HE2.out 0 (.int .i64 2)) 3 (.int .i64 1))
      simp only [Array.set!_eq_setIfInBounds, List.setIfInBounds_toArray, List.set_cons_zero, List.set_cons_succ] at hbl
      have HKn := Lib.hid hend.1
      have HMn := Lib.hid hend.2
      have x0 := blk_cell hbl 0 (by simp)
      have x1 := blk_cell hbl 1 (by simp)
      have x2 := blk_cell hbl 2 (by simp)
      have x3 := blk_cell hbl 3 (by simp)
      simp only [List.getElem_toArray, List.getElem_cons_zero, List.getElem_cons_succ] at x0 x1 x2 x3
      clear hmm hend hbl HR2 HE2 HK2 HM2
      have d0 := blk_cell HR3.out 0 (by simp)
      have d1 := blk_cell HR3.out 1 (by simp)
      have d2 := blk_cell HR3.out 2 (by simp)
      have d3 := blk_cell HR3.out 3 (by simp)
      simp only [List.getElem_toArray, List.getElem_cons_zero, List.getElem_cons_succ] at d0 d1 d2 d3
      have f0 := blk_free HR3.out 0
      have f1 := blk_free HR3.out 1
      have f2 := blk_free HR3.out 2
      have f3 := blk_free HR3.out 3
      have k0 := blk_set HR3.out 0 (.int .i64 (2))
      have k1 := blk_set k0 1 (.int .i64 (t))
      have k2 := blk_set k1 2 (.bool false)
      have k3 := blk_set k2 3 (.int .i64 (1))
      have g0 := blk_cell k0 0 (by simp)
      have g1 := blk_cell k1 1 (by simp)
      have g2 := blk_cell k2 2 (by simp)
      have g3 := blk_cell k3 3 (by simp)
      simp at g0 g1 g2 g3
      clear k0 k1 k2 k3
      go_wp2_with fail
      refine bodyPost_ret (v := gev (2) (t) (1)) ?_ rfl ⟨rfl, ?_⟩
      · simp [gev, results, Tryz.results71, go_sem, g0, g1, g2, g3]
      · exact ev_end HKn.out HMn.out (x := w.heap.size) (Nat.le_refl _) HG.out (((((Mod.refl [w.heap.size] _).setCell (by simp) _).setCell (by simp) _).setCell (by simp) _).setCell (by simp) _)
    · obtain ⟨rfl, rfl⟩ : k = 4 ∧ c = 0 := by simpa using hkc
      clear hkc
      have hmm : Mod [w.heap.size + 1] w2 (w2.setCell ⟨w.heap.size + 1, 0, none⟩ (.int .i64 4)) := (Mod.refl [w.heap.size + 1] w2).setCell (by simp) _
      have hend := ev_end HK2.out HM2.out (x := w.heap.size + 1) (Nat.le_succ _) HG.out hmm
      have HR3 := Lib.hid (hmm.blk HR2.out (by simp))
      have hbl := (blk_set HE2.out 0 (.int .i64 4))
      simp only [Array.set!_eq_setIfInBounds, List.setIfInBounds_toArray, List.set_cons_zero, List.set_cons_succ] at hbl
      have HKn := Lib.hid hend.1
      have HMn := Lib.hid hend.2
      have x0 := blk_cell hbl 0 (by simp)
      have x1 := blk_cell hbl 1 (by simp)
      have x2 := blk_cell hbl 2 (by simp)
      have x3 := blk_cell hbl 3 (by simp)
      simp only [List.getElem_toArray, List.getElem_cons_zero, List.getElem_cons_succ] at x0 x1 x2 x3
      clear hmm hend hbl HR2 HE2 HK2 HM2
      have d0 := blk_cell HR3.out 0 (by simp)
      have d1 := blk_cell HR3.out 1 (by simp)
      have d2 := blk_cell HR3.out 2 (by simp)
      have d3 := blk_cell HR3.out 3 (by simp)
      simp only [List.getElem_toArray, List.getElem_cons_zero, List.getElem_cons_succ] at d0 d1 d2 d3
      have f0 := blk_free HR3.out 0
      have f1 := blk_free HR3.out 1
      have f2 := blk_free HR3.out 2
      have f3 := blk_free HR3.out 3
      have k0 := blk_set HR3.out 0 (.int .i64 (4))
      have k1 := blk_set k0 1 (.int .i64 (t))
      have k2 := blk_set k1 2 (.bool false)
      have k3 := blk_set k2 3 (.int .i64 (0))
      have g0 := blk_cell k0 0 (by simp)
      have g1 := blk_cell k1 1 (by simp)
      have g2 := blk_cell k2 2 (by simp)
      have g3 := blk_cell k3 3 (by simp)
      simp at g0 g1 g2 g3
      clear k0 k1 k2 k3
      go_wp2_with fail
      refine bodyPost_ret (v := gev (4) (t) (0)) ?_ rfl ⟨rfl, ?_⟩
      · simp [gev, results, Tryz.results71, go_sem, g0, g1, g2, g3]
      · exact ev_end HKn.out HMn.out (x := w.heap.size) (Nat.le_refl _) HG.out (((((Mod.refl [w.heap.size] _).setCell (by simp) _).setCell (by simp) _).setCell (by simp) _).setCell (by simp) _)
end
end Go.Proofs.YthffhhgaeolpgaaGreat.Ga

