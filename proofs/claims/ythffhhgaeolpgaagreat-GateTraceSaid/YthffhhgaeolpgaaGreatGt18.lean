/- Merged texts: Ga6, GaP, Auto, Auto2, Auto3, Auto4, Auto5, Auto6, Auto7, Auto8. -/
import Derived.Test.YthffhhgaeolpgaaGreatGt17
import Derived.Test.YthffhhgaeolpgaaGreatOpen
import Derived.Deep.OwnRows
import Derived.BigQuiet
import Derived.StillTailTactics
set_option linter.unusedVariables false
/- Package gate: New, Do whole, a gate that nobody made; what Run asks of them. -/
namespace Go.Proofs.YthffhhgaeolpgaaGreat.Ga
open Go.RowKit Go.Proofs.YthffhhgaeolpgaaGreat.Ara Go.Proofs.YthffhhgaeolpgaaGreat.Lok Go.Proofs.YthffhhgaeolpgaaGreat.Fl

theorem fl_base {B gf gl ga ha hs : Nat} {p : PK} {σ : Ar} {sp : List Sp} {W W' : World} (k : FLAt W gf gl ga ha hs p σ sp) (hb : Below B W W') (h0 : gf < B) (h1 : gl < B) (h2 : ga < B) (h3 : ha < B) (h4 : hs < B) : FLAt W' gf gl ga ha hs p σ sp := by
  have key : ∀ {X : Nat}, X < B → W'.heap[X]? = W.heap[X]? := fun h => hb.block _ h
  refine ⟨(key h0).trans k.fb, ?_, k.n1, k.n2, k.n3⟩
  have a := k.at_
  cases p with
  | tas P => obtain ⟨k1, k2, k3, ⟨c, k4⟩, k5⟩ := a; exact ⟨k1.upd (S := []) (Upd.of_below hb) h2 h3 (by simp) (by simp), k2.of_blk (key h4), k3, ⟨c, (key h1).trans k4⟩, k5⟩
  | tic P => obtain ⟨k1, k2, k3, ⟨c, k4⟩, k5⟩ := a; exact ⟨k1.upd (S := []) (Upd.of_below hb) h2 h3 (by simp) (by simp), k2.of_blk (key h4), k3, ⟨c, (key h1).trans k4⟩, k5⟩
  | par P => obtain ⟨k1, k2, k3, ⟨c, k4⟩, k5⟩ := a; exact ⟨k1.upd (S := []) (Upd.of_below hb) h2 h3 (by simp) (by simp), k2.of_blk (key h4), k3, ⟨c, (key h1).trans k4⟩, k5⟩
  | mcs P => obtain ⟨k1, k2, k3, ⟨c, k4⟩, k5⟩ := a; exact ⟨k1.upd (S := []) (Upd.of_below hb) h2 h3 (by simp) (by simp), k2.of_blk (key h4), k3, ⟨c, (key h1).trans k4⟩, k5⟩
  | clh P => obtain ⟨k1, k2, k3, ⟨c, k4⟩, k5⟩ := a; exact ⟨k1.upd (S := []) (Upd.of_below hb) h2 h3 (by simp) (by simp), k2.of_blk (key h4), k3, ⟨c, (key h1).trans k4⟩, k5⟩
theorem words_nil (w : World) : Calls Tryz.prog 21 #[.pointer none] w fun e w' => e = .returned (.slice none 0 0) ∧ Below w.heap.size w w' := by
  go_enter Tryz.func21, Tryz.ntmps21
  go_wp2_with fail
  refine (len_nil _).mono ?_
  rintro e wx ⟨rfl, hwx⟩
  obtain rfl := hwx.symm
  go_wp2_with fail
  go_loop [3, 7] (fun o i => o = .slice none 0 0 ∧ i = .int .i64 0) (fun _ _ => 0)
  case atStart => exact ⟨rfl, rfl⟩
  case round =>
    obtain ⟨rfl, rfl⟩ := hrel
    go_wp2_with fail
    go_ret
    exact ⟨rfl, Below.refl _ _⟩
theorem do_g {gg gf gl ga ha hs : Nat} {p : PK} {σ : Ar} {sp : List Sp} {w : World} (K : GAt w gg gf gl ga ha hs p σ sp) (n m : Nat) (ho : OkK p σ sp n m) (hm : m ≤ 100000) (t want : Int) :
    Calls Tryz.prog 32 #[.pointer (some ⟨gg, 0, none⟩), .agg #[.int .i64 t, .int .i64 want]] w fun e w' => e = .returned (gev (gact p σ sp t want).1.1 (gact p σ sp t want).1.2.1 (gact p σ sp t want).1.2.2) ∧ GAt w' gg gf gl ga ha hs p (gact p σ sp t want).2.1 (gact p σ sp t want).2.2 ∧ Mod [ga, ha, hs] w w' := by
  unfold gact
  by_cases ht : t < 0 ∨ (sp.length : Int) ≤ t
  · rw [if_pos ht]
    exact do_out K t want ht
  rw [if_neg ht]
  by_cases h0 : want = 0
  · rw [if_pos h0]
    by_cases hs0 : gst (spOf sp t) = 1 ∨ gst (spOf sp t) = 3
    · rw [if_pos hs0]
      rcases hr : doK p σ sp 0 t with ⟨b, σ2, sp2⟩
      have h2 : (if b then (if gst (spOf sp t) = 1 then ((2 : Int), t, (1 : Int)) else (4, t, 0)) else (0, t, 0)) = ((if b then (if gst (spOf sp t) = 1 then ((2 : Int), (1 : Int)) else (4, 0)) else (0, 0)).1, t, (if b then (if gst (spOf sp t) = 1 then ((2 : Int), (1 : Int)) else (4, 0)) else (0, 0)).2) := by
        cases b
        · rfl
        · rcases hs0 with h | h
          · simp [h]
          · simp [h]
      simp only [h2]
      exact do_way K n m ho hm t want ht h0 hs0 b σ2 sp2 hr _ _ rfl
    · rw [if_neg hs0]
      refine do_stay K t want ht h0 ?_
      have := gst_in (spOf sp t)
      omega
  rw [if_neg h0]
  by_cases h1 : want = 1
  · rw [if_pos h1]
    subst h1
    rcases hr : doK p σ sp 1 t with ⟨b, σ2, sp2⟩
    have := do_ask K n m ho hm t ht b σ2 sp2 hr
    cases b <;> exact this
  rw [if_neg h1]
  by_cases h2 : want = 2
  · rw [if_pos h2]
    subst h2
    rcases hr : doK p σ sp 2 t with ⟨b, σ2, sp2⟩
    have := do_leave K n m ho hm t ht b σ2 sp2 hr
    cases b <;> exact this
  rw [if_neg h2]
  exact do_bad K t want ht (by omega)
/-- A pick is an act of the lock, or none. -/
theorem gact_do (p : PK) (σ : Ar) (sp : List Sp) (t want : Int) : ∃ kd, (gact p σ sp t want).2 = (doK p σ sp kd t).2 ∧ (kd = 0 ∨ kd = 1 ∨ kd = 2 ∨ kd = 7) := by
  have h7 : (doK p σ sp 7 t).2 = (σ, sp) := by rw [do_else p σ sp 7 t (.inr (by omega))]
  unfold gact
  split
  · exact ⟨7, h7.symm, by omega⟩
  split
  · split
    · exact ⟨0, rfl, by omega⟩
    · exact ⟨7, h7.symm, by omega⟩
  split
  · exact ⟨1, rfl, by omega⟩
  split
  · exact ⟨2, rfl, by omega⟩
  · exact ⟨7, h7.symm, by omega⟩
theorem ok_gact {p : PK} {σ : Ar} {sp : List Sp} {n m : Nat} (h : OkK p σ sp n m) (t want : Int) : OkK p (gact p σ sp t want).2.1 (gact p σ sp t want).2.2 n (m + 1) := by
  obtain ⟨kd, he, _⟩ := gact_do p σ sp t want
  rw [he]
  exact h.act kd t
/-- The real gate, as Run asks it. -/
theorem gi_real (gg gf gl ga ha hs : Nat) (p : PK) (n m0 : Nat) (hm0 : m0 ≤ 50000) (L : Nat) (h0 : gg < L) (h1 : gf < L) (h2 : gl < L) (h3 : ga < L) (h4 : ha < L) (h5 : hs < L) :
    GI (.pointer (some ⟨gg, 0, none⟩)) (Ar × List Sp) (fun k W x => GAt W gg gf gl ga ha hs p x.1 x.2 ∧ OkK p x.1 x.2 n (m0 + k)) (fun x t => gst (spOf x.2 t)) (fun x t w => gact p x.1 x.2 t w) [ga, ha, hs] L := by
  refine ⟨by simp; omega, fun k W W' x h hb => ?_, fun k W x t h => state_g h.1 t, fun k W x t wn hk h => ?_⟩
  · refine ⟨?_, h.2⟩
    have g := h.1
    exact ⟨(hb.block gg h0).trans g.gb, fl_base g.fl hb h1 h2 h3 h4 h5, g.n1, g.n2, g.n3, by have := hb.size; have := g.nh; omega⟩
  · exact (do_g h.1 n (m0 + k) h.2 (by omega) t wn).mono fun e w' ⟨e1, e2, e3⟩ => ⟨e1, ⟨e2, ok_gact h.2 t wn⟩, e3⟩
def GNew (kind : Int) (n : Nat) (par : Int) (w : World) (e : Ending) (w' : World) : Prop :=
  ∃ gg gf gl hs, e = .returned (.tuple #[.pointer (some ⟨gg, 0, none⟩), .int .i64 0]) ∧ GAt w' gg gf gl (w.heap.size + 1) w.heap.size hs (pkK kind par 1) (firstK kind n par 1 { Ar.fresh 4096 with t := sizeK kind n par }).1 (firstK kind n par 1 { Ar.fresh 4096 with t := sizeK kind n par }).2 ∧ (w.heap.size ≤ gg ∧ w.heap.size ≤ gf ∧ w.heap.size ≤ gl ∧ w.heap.size ≤ hs) ∧ Below w.heap.size w w'
set_option maxRecDepth 100000 in
theorem gnew_any (kind : Int) (n : Nat) (par : Int) (hM : mayK kind n par) (w : World) : Calls Tryz.prog 30 #[.int .i64 kind, .int .i64 (n : Int), .int .i64 par] w (GNew kind n par w) := by
  have hr : (Ar.fresh (room 4096)).ws.length = 4096 := by simp [Ar.fresh, zerosW, room]
  have hsz : sizeK kind n par ≤ 100 := by
    obtain ⟨_, h1, h2, h3⟩ := hM
    unfold sizeK
    repeat (first | split | omega)
  have HM := Lib.hid hM
  have HR := Lib.hid hr
  clear hM hr
  go_enter Tryz.func30, Tryz.ntmps30
  go_wp2_with fail
  refine (new_at 4096 _ _ rfl).mono ?_
  rintro e w1 ⟨rfl, hat⟩
  have HN := Lib.hid (new_flat kind n par HM.out (w.heap.size + 1) w.heap.size _ w1 hat.1 (by have := hat.2.1; omega) (by rw [HR.out]; show 0 + _ ≤ _; omega) (by rw [HR.out]; omega) (by show 0 ≤ _; omega))
  have HB1 := Lib.hid hat.2.2
  have hz1 := hat.2.1
  clear hat
  go_wp2_with fail
  refine HN.out.mono ?_
  rintro e w2 ⟨gf, gl, hs, rfl, hk, ⟨b1, b2, b3⟩, hm⟩
  simp only [show (Ar.fresh (room 4096)).t = 0 from rfl, Nat.zero_add] at hk
  have HK := Lib.hid hk
  have HB := Lib.hid (HB1.out.trans (hm.below (by omega) (by simp)))
  have hz2 := hm.size
  clear hk hm HN HB1
  have hbn := below_new w2 (.cells #[.pointer (some ⟨w.heap.size + 1, 0, none⟩), .pointer (some ⟨gf, 0, none⟩)] 73)
  have HG := Lib.hid (blk_new w2 (.cells #[.pointer (some ⟨w.heap.size + 1, 0, none⟩), .pointer (some ⟨gf, 0, none⟩)] 73))
  have HK2 := Lib.hid (HK.out.same hbn)
  have HBB := Lib.hid (HK.out.blocks)
  have HB2 := Lib.hid (HB.out.trans (hbn.mono HB.out.size))
  clear hbn
  go_wp2_with fail
  go_ret2
  obtain ⟨q1, q2, q3, q4⟩ := HBB.out
  exact ⟨w2.heap.size, gf, gl, hs, rfl, ⟨HG.out, HK2.out, by omega, by omega, by omega, by simp; omega⟩, by omega, HB2.out⟩
theorem new_kind9 (q : Option Addr) (w : World) : Calls Tryz.prog 12 #[.pointer q, .int .i64 9, .int .i64 2, .int .i64 0] w fun e w' => e = .returned (.tuple #[.pointer none, .int .i64 7]) ∧ w' = w := by
  go_enter Tryz.func12, Tryz.ntmps12
  go_wp2_with fail
  go_ret2
  exact ⟨rfl, by trivial⟩
theorem gnew_kind9 (w : World) : Calls Tryz.prog 30 #[.int .i64 9, .int .i64 2, .int .i64 0] w fun e w' => e = .returned (.tuple #[.pointer none, .int .i64 7]) ∧ Below w.heap.size w w' := by
  go_enter Tryz.func30, Tryz.ntmps30
  go_wp2_with fail
  refine (new_at 4096 _ _ rfl).mono ?_
  rintro e w1 ⟨rfl, hat⟩
  have HB1 := Lib.hid hat.2.2
  clear hat
  go_wp2_with fail
  refine (new_kind9 _ _).mono ?_
  rintro e wx ⟨rfl, hwx⟩
  obtain rfl := hwx.symm
  go_wp2_with fail
  go_ret2
  exact ⟨rfl, HB1.out⟩
/-- A gate that nobody made: none, or an empty one. -/
def NoG (W : World) (q : Option Addr) : Prop := q = none ∨ ∃ g, q = some ⟨g, 0, none⟩ ∧ W.heap[g]? = some (.cells #[.pointer none, .pointer none] 73 (0, 0))
theorem NoG.same {W W' : World} {q : Option Addr} (h : NoG W q) (hb : Below W.heap.size W W') : NoG W' q := by
  rcases h with h | ⟨g, h1, h2⟩
  · exact .inl h
  · exact .inr ⟨g, h1, (Mod.of_below (S := []) hb).blk h2 (by simp)⟩
section
variable (q : Option Addr) (w : World) (H : NoG w q)
include H
set_option maxRecDepth 100000 in
theorem nthreads : Calls Tryz.prog 38 #[.pointer q] w fun e w' => e = .returned (.int .i64 0) ∧ w' = w := by
  rcases H with rfl | ⟨g, rfl, hc⟩
  · go_enter Tryz.func38, Tryz.ntmps38
    go_wp2_with fail
    go_ret
    exact ⟨rfl, rfl⟩
  · have c0 := blk_cell hc 0 (by simp)
    have c1 := blk_cell hc 1 (by simp)
    simp only [List.getElem_toArray, List.getElem_cons_zero, List.getElem_cons_succ] at c0 c1
    have HS := Lib.hid (slots_none none w (.inl rfl))
    clear hc
    go_enter Tryz.func38, Tryz.ntmps38
    go_wp2_with fail
    refine (HS.out).mono ?_
    rintro e wx ⟨rfl, hwx⟩
    obtain rfl := hwx.symm
    go_wp2_with fail
    go_ret
    exact ⟨rfl, rfl⟩
set_option maxRecDepth 100000 in
theorem nops : Calls Tryz.prog 35 #[.pointer q] w fun e w' => e = .returned (.int .i64 0) ∧ w' = w := by
  rcases H with rfl | ⟨g, rfl, hc⟩
  · go_enter Tryz.func35, Tryz.ntmps35
    go_wp2_with fail
    go_ret
    exact ⟨rfl, rfl⟩
  · have c0 := blk_cell hc 0 (by simp)
    have c1 := blk_cell hc 1 (by simp)
    simp only [List.getElem_toArray, List.getElem_cons_zero, List.getElem_cons_succ] at c0 c1
    have HS := Lib.hid (ops_nil w)
    clear hc
    go_enter Tryz.func35, Tryz.ntmps35
    go_wp2_with fail
    refine (HS.out).mono ?_
    rintro e wx ⟨rfl, hwx⟩
    obtain rfl := hwx.symm
    go_wp2_with fail
    go_ret
    exact ⟨rfl, rfl⟩
set_option maxRecDepth 100000 in
theorem nwords : Calls Tryz.prog 34 #[.pointer q] w fun e w' => e = .returned (.slice none 0 0) ∧ Below w.heap.size w w' := by
  rcases H with rfl | ⟨g, rfl, hc⟩
  · go_enter Tryz.func34, Tryz.ntmps34
    go_wp2_with fail
    go_ret
    exact ⟨rfl, Below.refl _ _⟩
  · have c0 := blk_cell hc 0 (by simp)
    have c1 := blk_cell hc 1 (by simp)
    simp only [List.getElem_toArray, List.getElem_cons_zero, List.getElem_cons_succ] at c0 c1
    have HS := Lib.hid (words_nil w)
    clear hc
    go_enter Tryz.func34, Tryz.ntmps34
    go_wp2_with fail
    refine HS.out.mono ?_
    rintro e w2 ⟨rfl, hb⟩
    go_wp2_with fail
    go_ret
    exact ⟨rfl, hb⟩
set_option maxRecDepth 100000 in
theorem nstate (t : Int) : Calls Tryz.prog 36 #[.pointer q, .int .i64 t] w fun e w' => e = .returned (.int .i64 0) ∧ w' = w := by
  have HT := Lib.hid (nthreads q w H)
  clear H
  by_cases h0 : t < 0
  · go_enter Tryz.func36, Tryz.ntmps36
    go_wp2_with fail
    go_ret
    exact ⟨rfl, rfl⟩
  · have h1 : (0 : Int) ≤ t := by omega
    have h2 : decide (t < 0) = false := decide_eq_false h0
    go_enter Tryz.func36, Tryz.ntmps36
    go_wp2_with fail
    refine (HT.out).mono ?_
    rintro e wx ⟨rfl, hwx⟩
    obtain rfl := hwx.symm
    go_wp2_with fail
    go_ret
    exact ⟨rfl, rfl⟩
set_option maxHeartbeats 4000000 in
set_option maxRecDepth 100000 in
theorem ndo (t want : Int) : Calls Tryz.prog 32 #[.pointer q, .agg #[.int .i64 t, .int .i64 want]] w fun e w' => e = .returned (gev 0 0 0) ∧ Below w.heap.size w w' := by
  have hb1 : Below w.heap.size w (w.alloc (.cells #[.int .i64 t, .int .i64 want] 68)) := below_new _ _
  have hb2 : Below w.heap.size w ((w.alloc (.cells #[.int .i64 t, .int .i64 want] 68)).alloc (.cells #[.int .i64 0, .int .i64 0, .bool false, .int .i64 0] 65)) := hb1.alloc hb1.size _
  have HE := Lib.hid (show ((w.alloc (.cells #[.int .i64 t, .int .i64 want] 68)).alloc (.cells #[.int .i64 0, .int .i64 0, .bool false, .int .i64 0] 65)).heap[w.heap.size + 1]? = some (.cells #[.int .i64 0, .int .i64 0, .bool false, .int .i64 0] 65) from by simpa using blk_new (w.alloc (.cells #[.int .i64 t, .int .i64 want] 68)) (.cells #[.int .i64 0, .int .i64 0, .bool false, .int .i64 0] 65))
  have hH := H.same hb2
  have HT := Lib.hid (fun n => nthreads q _ (hH.same (below_drewN (Below.refl _ _) n)))
  have HB := Lib.hid hb2
  clear H hb1 hb2 hH
  by_cases h0 : t < 0
  · go_enter Tryz.func32, Tryz.ntmps32
    go_wp2_with fail
    go_quiet (fail)
    have HE2 := Lib.hid (show ((((w.alloc (.cells #[.int .i64 t, .int .i64 want] 68)).alloc (.cells #[.int .i64 0, .int .i64 0, .bool false, .int .i64 0] 65))).drewN nq).heap[w.heap.size + 1]? = some (.cells #[.int .i64 0, .int .i64 0, .bool false, .int .i64 0] 65) from HE.out)
    have HB2 := Lib.hid (below_drewN HB.out nq)
    generalize ((w.alloc (.cells #[.int .i64 t, .int .i64 want] 68)).alloc (.cells #[.int .i64 0, .int .i64 0, .bool false, .int .i64 0] 65)).drewN nq = W2 at *
    have d0 := blk_cell HE2.out 0 (by simp)
    have d1 := blk_cell HE2.out 1 (by simp)
    have d2 := blk_cell HE2.out 2 (by simp)
    have d3 := blk_cell HE2.out 3 (by simp)
    simp only [List.getElem_toArray, List.getElem_cons_zero, List.getElem_cons_succ] at d0 d1 d2 d3
    have f0 := blk_free HE2.out 0
    have f1 := blk_free HE2.out 1
    have f2 := blk_free HE2.out 2
    have f3 := blk_free HE2.out 3
    have k0 := blk_set HE2.out 0 (.int .i64 (0))
    have k1 := blk_set k0 1 (.int .i64 (0))
    have k2 := blk_set k1 2 (.bool false)
    have k3 := blk_set k2 3 (.int .i64 (0))
    have g0 := blk_cell k0 0 (by simp)
    have g1 := blk_cell k1 1 (by simp)
    have g2 := blk_cell k2 2 (by simp)
    have g3 := blk_cell k3 3 (by simp)
    simp at g0 g1 g2 g3
    clear k0 k1 k2 k3
    go_wp2_with fail
    refine bodyPost_ret (v := gev (0) (0) (0)) ?_ rfl ⟨rfl, ?_⟩
    · simp [gev, results, Tryz.results32, go_sem, g0, g1, g2, g3]
    · exact ((((HB2.out.setCell (Nat.le_succ _) _).setCell (Nat.le_succ _) _).setCell (Nat.le_succ _) _).setCell (Nat.le_succ _) _)
  · have h1 : (0 : Int) ≤ t := by omega
    have h2 : decide (t < 0) = false := decide_eq_false h0
    go_enter Tryz.func32, Tryz.ntmps32
    go_wp2_with fail
    go_quiet ((go_at_call 38; exact Calls.quiet_of_same (HT.out _)))
    have HE2 := Lib.hid (show ((((w.alloc (.cells #[.int .i64 t, .int .i64 want] 68)).alloc (.cells #[.int .i64 0, .int .i64 0, .bool false, .int .i64 0] 65))).drewN nq).heap[w.heap.size + 1]? = some (.cells #[.int .i64 0, .int .i64 0, .bool false, .int .i64 0] 65) from HE.out)
    have HB2 := Lib.hid (below_drewN HB.out nq)
    generalize ((w.alloc (.cells #[.int .i64 t, .int .i64 want] 68)).alloc (.cells #[.int .i64 0, .int .i64 0, .bool false, .int .i64 0] 65)).drewN nq = W2 at *
    have d0 := blk_cell HE2.out 0 (by simp)
    have d1 := blk_cell HE2.out 1 (by simp)
    have d2 := blk_cell HE2.out 2 (by simp)
    have d3 := blk_cell HE2.out 3 (by simp)
    simp only [List.getElem_toArray, List.getElem_cons_zero, List.getElem_cons_succ] at d0 d1 d2 d3
    have f0 := blk_free HE2.out 0
    have f1 := blk_free HE2.out 1
    have f2 := blk_free HE2.out 2
    have f3 := blk_free HE2.out 3
    have k0 := blk_set HE2.out 0 (.int .i64 (0))
    have k1 := blk_set k0 1 (.int .i64 (0))
    have k2 := blk_set k1 2 (.bool false)
    have k3 := blk_set k2 3 (.int .i64 (0))
    have g0 := blk_cell k0 0 (by simp)
    have g1 := blk_cell k1 1 (by simp)
    have g2 := blk_cell k2 2 (by simp)
    have g3 := blk_cell k3 3 (by simp)
    simp at g0 g1 g2 g3
    clear k0 k1 k2 k3
    go_wp2_with fail
    refine bodyPost_ret (v := gev (0) (0) (0)) ?_ rfl ⟨rfl, ?_⟩
    · simp [gev, results, Tryz.results32, go_sem, g0, g1, g2, g3]
    · exact ((((HB2.out.setCell (Nat.le_succ _) _).setCell (Nat.le_succ _) _).setCell (Nat.le_succ _) _).setCell (Nat.le_succ _) _)
end
theorem gi_none (q : Option Addr) (L : Nat) (hq : ∀ g, q = some ⟨g, 0, none⟩ → g < L) :
    GI (.pointer q) Unit (fun _ W _ => NoG W q ∧ L ≤ W.heap.size) (fun _ _ => 0) (fun _ _ _ => ((0, 0, 0), ())) [] L := by
  refine ⟨by simp, fun k W W' x h hb => ?_, fun k W x t h => ?_, fun k W x t wn hk h => ?_⟩
  · refine ⟨?_, Nat.le_trans h.2 hb.size⟩
    rcases h.1 with h | ⟨g, h1, h2⟩
    · exact .inl h
    · exact .inr ⟨g, h1, (hb.block g (hq g h1)).trans h2⟩
  · exact (nstate q W h.1 t).mono fun e w' ⟨e1, e2⟩ => ⟨e1, by subst e2; exact Below.refl _ _⟩
  · exact (ndo q W h.1 t wn).mono fun e w' ⟨e1, e2⟩ => ⟨e1, ⟨h.1.same e2, Nat.le_trans h.2 e2.size⟩, Mod.of_below e2⟩
end Go.Proofs.YthffhhgaeolpgaaGreat.Ga

/- Package gate: how a pick moves its thread: the plain law. -/
namespace Go.Proofs.YthffhhgaeolpgaaGreat.Ga
open Go.RowKit Go.Proofs.YthffhhgaeolpgaaGreat.Ara Go.Proofs.YthffhhgaeolpgaaGreat.Lok Go.Proofs.YthffhhgaeolpgaaGreat.Fl

/-- How a step moves what a thread is at. -/
def St (s : Sp) (b : Bool) (s' : Sp) : Prop := (gst s = 1 → gst s' = if b = true then 2 else 1) ∧ (gst s = 3 → gst s' = if b = true then 0 else 3)
theorem gst_1 {s : Sp} (h : s.pc ≠ 0 ∧ s.pc < 10) : gst s = 1 := by unfold gst; rw [if_neg h.1, if_pos h.2]
theorem gst_2 {s : Sp} (h : s.pc = 10) : gst s = 2 := by unfold gst; rw [if_neg (by omega), if_neg (by omega), if_pos h]
theorem gst_3 {s : Sp} (h : 10 < s.pc) : gst s = 3 := by unfold gst; rw [if_neg (by omega), if_neg (by omega), if_neg (by omega)]
theorem gst_0 {s : Sp} (h : s.pc = 0) : gst s = 0 := by unfold gst; rw [if_pos h]
theorem St.no {s s' : Sp} (h : gst s' = gst s) : St s false s' := ⟨fun e => by rw [h, e]; rfl, fun e => by rw [h, e]; rfl⟩
theorem St.c0 {s s' : Sp} (h : s.pc ≠ 0 ∧ s.pc < 10) (h' : s'.pc ≠ 0 ∧ s'.pc < 10) : St s false s' := .no (by rw [gst_1 h, gst_1 h'])
theorem St.c1 {s s' : Sp} (h : s.pc ≠ 0 ∧ s.pc < 10) (h' : s'.pc = 10) : St s true s' := ⟨fun _ => gst_2 h', fun e => by rw [gst_1 h] at e; omega⟩
theorem St.g0 {s s' : Sp} (h : 10 < s.pc) (h' : 10 < s'.pc) : St s false s' := .no (by rw [gst_3 h, gst_3 h'])
theorem St.g1 {s s' : Sp} (h : 10 < s.pc) (h' : s'.pc = 0) : St s true s' := ⟨fun e => by rw [gst_3 h] at e; omega, fun _ => gst_0 h'⟩
def StepW (r : Bool × Ar × List Sp) (sp : List Sp) (k : Nat) (s : Sp) : Prop := ∃ s', r.2.2 = sp.set k s' ∧ St s r.1 s'
theorem same_w {sp : List Sp} {k : Nat} (hk : k < sp.length) (σ : Ar) : StepW (false, σ, sp) sp k sp[k] := ⟨sp[k], by rw [List.set_getElem_self], .no rfl⟩
section
variable (σ : Ar) (sp : List Sp) (k : Nat) (hk : k < sp.length)
include hk
theorem sw_ta (P : Ta.Par) : StepW (Ta.stepP P σ sp k) sp k sp[k] := by
  unfold Ta.stepP
  rw [spOf_in hk, Int.toNat_natCast]
  by_cases h1 : sp[k].pc = 1
  · rw [if_pos h1]
    cases hb : Ta.tryB P σ with
    | true => exact ⟨_, rfl, St.c1 (by omega) rfl⟩
    | false => exact ⟨_, rfl, St.c0 (by omega) (by simp)⟩
  rw [if_neg h1]
  by_cases h2 : sp[k].pc = 2
  · rw [if_pos h2]
    exact ⟨_, rfl, St.c0 (by omega) (by simp only; split <;> omega)⟩
  rw [if_neg h2]
  by_cases h3 : sp[k].pc = 11
  · rw [if_pos h3]
    exact ⟨_, rfl, St.g1 (by omega) rfl⟩
  rw [if_neg h3]
  exact same_w hk σ
theorem sw_tk (P : Tk.Par) : StepW (Tk.stepP P σ sp k) sp k sp[k] := by
  unfold Tk.stepP
  rw [spOf_in hk, Int.toNat_natCast]
  by_cases h1 : sp[k].pc = 1
  · rw [if_pos h1]
    exact ⟨_, rfl, St.c0 (by omega) (by simp)⟩
  rw [if_neg h1]
  by_cases h2 : sp[k].pc = 2
  · rw [if_pos h2]
    by_cases hc : σ.get (Tk.place P sp[k].a) = sp[k].a
    · exact ⟨_, if_pos hc, by rw [show (σ.get (Tk.place P sp[k].a) == sp[k].a) = true from by simpa using hc]; exact St.c1 (by omega) rfl⟩
    · exact ⟨sp[k], by show (if _ then _ else _) = _; rw [if_neg hc, List.set_getElem_self], by rw [show (σ.get (Tk.place P sp[k].a) == sp[k].a) = false from by simpa using hc]; exact .no rfl⟩
  rw [if_neg h2]
  by_cases h3 : sp[k].pc = 11
  · rw [if_pos h3]
    exact ⟨_, rfl, St.g1 (by omega) rfl⟩
  rw [if_neg h3]
  exact same_w hk σ
theorem sw_pt (P : Pt.Par) : StepW (Pt.stepP P σ sp k) sp k sp[k] := by
  unfold Pt.stepP
  rw [spOf_in hk, Int.toNat_natCast]
  by_cases h1 : sp[k].pc = 1
  · rw [if_pos h1]
    exact ⟨_, rfl, St.c0 (by omega) (by simp)⟩
  rw [if_neg h1]
  by_cases h2 : sp[k].pc = 2
  · rw [if_pos h2]
    by_cases hc : σ.get (Pt.place P sp[k].a) = sp[k].a + 1
    · exact ⟨_, if_pos hc, by rw [show (σ.get (Pt.place P sp[k].a) == sp[k].a + 1) = true from by simpa using hc]; exact St.c1 (by omega) rfl⟩
    · exact ⟨sp[k], by show (if _ then _ else _) = _; rw [if_neg hc, List.set_getElem_self], by rw [show (σ.get (Pt.place P sp[k].a) == sp[k].a + 1) = false from by simpa using hc]; exact .no rfl⟩
  rw [if_neg h2]
  by_cases h3 : sp[k].pc = 11
  · rw [if_pos h3]
    exact ⟨_, rfl, St.g1 (by omega) rfl⟩
  rw [if_neg h3]
  exact same_w hk σ
theorem sw_cl (P : Cl.Par) : StepW (Cl.stepP P σ sp k) sp k sp[k] := by
  unfold Cl.stepP
  rw [spOf_in hk, Int.toNat_natCast]
  by_cases h1 : sp[k].pc = 1
  · rw [if_pos h1]
    exact ⟨_, rfl, St.c0 (by omega) (by simp)⟩
  rw [if_neg h1]
  by_cases h2 : sp[k].pc = 2
  · rw [if_pos h2]
    exact ⟨_, rfl, St.c0 (by omega) (by simp)⟩
  rw [if_neg h2]
  by_cases h2 : sp[k].pc = 3
  · rw [if_pos h2]
    by_cases hc : σ.get (Cl.box P sp[k].b) = 0
    · exact ⟨_, if_pos hc, by rw [show (σ.get (Cl.box P sp[k].b) == 0) = true from by simpa using hc]; exact St.c1 (by omega) rfl⟩
    · exact ⟨sp[k], by show (if _ then _ else _) = _; rw [if_neg hc, List.set_getElem_self], by rw [show (σ.get (Cl.box P sp[k].b) == 0) = false from by simpa using hc]; exact .no rfl⟩
  rw [if_neg h2]
  by_cases h3 : sp[k].pc = 11
  · rw [if_pos h3]
    exact ⟨_, rfl, St.g1 (by omega) rfl⟩
  rw [if_neg h3]
  exact same_w hk σ
theorem sw_mc (P : Mc.Par) : StepW (Mc.stepP P σ sp k) sp k sp[k] := by
  unfold Mc.stepP
  rw [spOf_in hk, Int.toNat_natCast]
  by_cases h1 : sp[k].pc = 1
  · rw [if_pos h1]
    exact ⟨_, rfl, St.c0 (by omega) (by simp)⟩
  rw [if_neg h1]
  by_cases h2 : sp[k].pc = 2
  · rw [if_pos h2]
    exact ⟨_, rfl, St.c0 (by omega) (by simp)⟩
  rw [if_neg h2]
  by_cases h3 : sp[k].pc = 3
  · rw [if_pos h3]
    by_cases hc : σ.get P.tail = 0
    · exact ⟨_, rfl, by rw [show (σ.get P.tail == 0) = true from by simpa using hc]; exact St.c1 (by omega) (if_pos hc)⟩
    · exact ⟨_, rfl, by rw [show (σ.get P.tail == 0) = false from by simpa using hc]; exact St.c0 (by omega) (by simp only [if_neg hc]; omega)⟩
  rw [if_neg h3]
  by_cases h4 : sp[k].pc = 4
  · rw [if_pos h4]
    exact ⟨_, rfl, St.c0 (by omega) (by simp)⟩
  rw [if_neg h4]
  by_cases h5 : sp[k].pc = 5
  · rw [if_pos h5]
    by_cases hc : σ.get (Mc.wt P ((k : Int) + 1)) = 0
    · exact ⟨_, rfl, by rw [show (σ.get (Mc.wt P ((k : Int) + 1)) == 0) = true from by simpa using hc]; exact St.c1 (by omega) (if_pos hc)⟩
    · exact ⟨_, rfl, by rw [show (σ.get (Mc.wt P ((k : Int) + 1)) == 0) = false from by simpa using hc]; exact St.c0 (by omega) (by simp only [if_neg hc]; omega)⟩
  rw [if_neg h5]
  by_cases h6 : sp[k].pc = 11
  · rw [if_pos h6]
    exact ⟨_, rfl, St.g0 (by omega) (by simp only; split <;> omega)⟩
  rw [if_neg h6]
  by_cases h7 : sp[k].pc = 12
  · rw [if_pos h7]
    cases hc : (σ.has P.tail && (σ.get P.tail == (k : Int) + 1)) with
    | true => exact ⟨_, rfl, St.g1 (by omega) (by simp)⟩
    | false => exact ⟨_, rfl, St.g0 (by omega) (by simp)⟩
  rw [if_neg h7]
  by_cases h8 : sp[k].pc = 13
  · rw [if_pos h8]
    exact ⟨_, rfl, St.g0 (by omega) (by simp only; split <;> omega)⟩
  rw [if_neg h8]
  by_cases h9 : sp[k].pc = 14
  · rw [if_pos h9]
    exact ⟨_, rfl, St.g1 (by omega) rfl⟩
  rw [if_neg h9]
  exact same_w hk σ
theorem sw_k (p : PK) : StepW (doK p σ sp 0 k) sp k sp[k] := by
  cases p with
  | tas P => exact sw_ta σ sp k hk P
  | tic P => exact sw_tk σ sp k hk P
  | par P => exact sw_pt σ sp k hk P
  | mcs P => exact sw_mc σ sp k hk P
  | clh P => exact sw_cl σ sp k hk P
end
end Go.Proofs.YthffhhgaeolpgaaGreat.Ga

/- Walks of package auto: Threads, has, State, Holder, from. -/
namespace Go.Proofs.YthffhhgaeolpgaaGreat.Aut
open Go.RowKit

def vN (n : Nat) : Value := .int .i64 n
def decN (n : Nat) : List Value := [.int .i64 n]
theorem infoI : (Tryz.prog.info? 3).map (fun i => (i.zero, i.size, i.bytes)) = some (some (.int .i64 0), 1, 8) := by kernel_rfl

/-- A lock in memory: what each thread is at. -/
def AutoAt (w : World) (g : Nat) (s : List Nat) : Prop :=
  ∃ A c, w.heap[g]? = some (.cells #[.slice A s.length c] 155 (0, 0)) ∧
    (s = [] ∨ ∃ h, A = some ⟨h, 0, none⟩ ∧ h ≠ g ∧ w.heap[h]? = some (.cells (s.map vN).toArray 3 (0, 0)))

def stateOf (s : List Nat) (t : Int) : Nat := if 0 ≤ t then s.getD t.toNat 0 else 0
def hasB (s : List Nat) (t : Int) : Bool := decide (0 ≤ t) && decide (t < s.length)
def idxOf (s : List Nat) (x : Nat) : Int := match s.findIdx? (· == x) with | some i => i | none => -1

section
variable {w : World} {g : Nat} {s : List Nat}
theorem AutoAt.slot (h : AutoAt w g s) : ∃ A c, w.cell? ⟨g, 0, none⟩ = some (.slice A s.length c) ∧ w.frozen? ⟨g, 0, none⟩ = false ∧
    (∀ i (hi : i < s.length), ∃ b, A = some ⟨b, 0, none⟩ ∧ w.cell? ⟨b, i, none⟩ = some (.int .i64 s[i]) ∧ w.frozen? ⟨b, i, none⟩ = false) := by
  obtain ⟨A, c, h1, h2⟩ := h
  refine ⟨A, c, by simp [World.cell?, h1], by simp [World.frozen?, h1], fun i hi => ?_⟩
  rcases h2 with rfl | ⟨b, rfl, _, hb⟩
  · simp at hi
  · exact ⟨b, rfl, by simp [World.cell?, hb, vN, hi], by simp [World.frozen?, hb]⟩
end

theorem threads_any (g : Nat) (s : List Nat) (w : World) (h : AutoAt w g s) :
    Calls Tryz.prog 109 #[.pointer (some ⟨g, 0, none⟩)] w fun e w' => e = .returned (.int .i64 s.length) ∧ w' = w := by
  obtain ⟨A, c, h0, _, _⟩ := h.slot
  go_enter Tryz.func109, Tryz.ntmps109
  go_wp2
  go_goals
  all_goals go_ret
  all_goals exact ⟨rfl, rfl⟩
theorem threads_nil (w : World) :
    Calls Tryz.prog 109 #[.pointer none] w fun e w' => e = .returned (.int .i64 0) ∧ w' = w := by
  go_enter Tryz.func109, Tryz.ntmps109
  go_wp2
  all_goals go_ret
  all_goals exact ⟨rfl, rfl⟩
end Go.Proofs.YthffhhgaeolpgaaGreat.Aut

/- Walks of package auto: has, State, Holder, from, New. -/
namespace Go.Proofs.YthffhhgaeolpgaaGreat.Aut
open Go.RowKit

theorem has_any (g : Nat) (s : List Nat) (t : Int) (w : World) (h : AutoAt w g s) :
    Calls Tryz.prog 74 #[.pointer (some ⟨g, 0, none⟩), .int .i64 t] w fun e w' => e = .returned (.bool (hasB s t)) ∧ w' = w := by
  by_cases h0 : 0 ≤ t
  · have hn := Lib.hid (show hasB s t = decide (t < s.length) by simp [hasB, h0])
    go_enter Tryz.func74, Tryz.ntmps74
    go_wp2_with fail
    refine (threads_any g s _ h).mono ?_
    rintro e wx ⟨rfl, hwx⟩
    obtain rfl := hwx.symm
    go_wp2_with fail
    go_ret
    exact ⟨by rw [hn.out]; rfl, rfl⟩
  · have hn := Lib.hid (show hasB s t = false by simp [hasB]; omega)
    have h1 : t < 0 := by omega
    go_enter Tryz.func74, Tryz.ntmps74
    go_wp2_with fail
    go_ret
    exact ⟨by rw [hn.out]; rfl, rfl⟩
theorem has_nil (t : Int) (w : World) :
    Calls Tryz.prog 74 #[.pointer none, .int .i64 t] w fun e w' => e = .returned (.bool false) ∧ w' = w := by
  by_cases h0 : 0 ≤ t
  · have h1 : ¬ t < 0 := by omega
    have hd := Lib.hid (show decide (t < 0) = false by simpa using h0)
    go_enter Tryz.func74, Tryz.ntmps74
    go_wp2_with fail
    refine (threads_nil _).mono ?_
    rintro e wx ⟨rfl, hwx⟩
    obtain rfl := hwx.symm
    go_wp2_with fail
    go_ret
    exact ⟨by first | rfl | (rw [← hd.out]; rfl), rfl⟩
  · have h1 : t < 0 := by omega
    go_enter Tryz.func74, Tryz.ntmps74
    go_wp2_with fail
    go_ret
    exact ⟨rfl, rfl⟩

theorem state_any (g : Nat) (s : List Nat) (t : Int) (w : World) (h : AutoAt w g s) :
    Calls Tryz.prog 42 #[.pointer (some ⟨g, 0, none⟩), .int .i64 t] w fun e w' => e = .returned (.int .i64 (stateOf s t)) ∧ w' = w := by
  cases hh : hasB s t
  · have hn := Lib.hid (show stateOf s t = 0 by
      unfold stateOf
      split
      · rename_i h0
        simp [hasB, h0] at hh
        simp [List.getD, List.getElem?_eq_none (show s.length ≤ t.toNat by omega)]
      · rfl)
    go_enter Tryz.func42, Tryz.ntmps42
    go_wp2_with fail
    refine (has_any g s t _ h).mono ?_
    rintro e wx ⟨rfl, hwx⟩
    obtain rfl := hwx.symm
    go_wp2_with fail
    go_ret
    exact ⟨by rw [hn.out]; rfl, rfl⟩
  · have hb : 0 ≤ t ∧ t < s.length := by simpa [hasB] using hh
    obtain ⟨h0, h1⟩ := hb
    obtain ⟨k, rfl⟩ := Int.eq_ofNat_of_zero_le h0
    have hk : k < s.length := by omega
    obtain ⟨A, c, c0, _, hc⟩ := h.slot
    obtain ⟨b, rfl, c1, _⟩ := hc k hk
    have hn := Lib.hid (show stateOf s k = s[k] by simp [stateOf, hk])
    clear hc
    go_enter Tryz.func42, Tryz.ntmps42
    go_wp2_with fail
    refine (has_any g s k _ h).mono ?_
    rintro e wx ⟨rfl, hwx⟩
    obtain rfl := hwx.symm
    go_wp2_with fail
    go_ret
    exact ⟨by rw [hn.out]; rfl, rfl⟩
theorem state_nil (t : Int) (w : World) :
    Calls Tryz.prog 42 #[.pointer none, .int .i64 t] w fun e w' => e = .returned (.int .i64 0) ∧ w' = w := by
  go_enter Tryz.func42, Tryz.ntmps42
  go_wp2_with fail
  refine (has_nil t _).mono ?_
  rintro e wx ⟨rfl, hwx⟩
  obtain rfl := hwx.symm
  go_wp2_with fail
  go_ret
  exact ⟨rfl, rfl⟩

theorem idx_none {s : List Nat} {x : Nat} (h : ∀ i (hi : i < s.length), s[i] ≠ x) : idxOf s x = -1 := by
  unfold idxOf
  rw [List.findIdx?_eq_none_iff.2]
  intro y hy
  obtain ⟨i, hi, rfl⟩ := List.getElem_of_mem hy
  simpa using h i hi
theorem idx_some {s : List Nat} {x k : Nat} (hk : k < s.length) (he : s[k] = x) (h : ∀ i (hi : i < s.length), i < k → s[i] ≠ x) : idxOf s x = k := by
  unfold idxOf
  rw [(List.findIdx?_eq_some_iff_getElem (i := k)).2 ⟨hk, by simpa using he, fun j hj => by simpa using h j (by omega) hj⟩]

/-- slices.Index over what each thread is at. -/
theorem index_any (s : List Nat) (A : Option Addr) (cap x : Nat) (w : World) (hm : s.length ≤ 9223372036854775807) (hs : ∀ i (hi : i < s.length), ∃ b, A = some ⟨b, 0, none⟩ ∧ w.cell? ⟨b, i, none⟩ = some (.int .i64 s[i])) :
    Calls Tryz.prog 110 #[.slice A s.length cap, .int .i64 x] w fun e w' => e = .returned (.int .i64 (idxOf s x)) ∧ w' = w := by
  have HS := Lib.hid hs
  clear hs
  go_enter Tryz.func110, Tryz.ntmps110
  go_wp2
  go_loop [8] (fun i => ∃ k : Nat, k ≤ s.length ∧ i = .int .i64 k ∧ ∀ j (h : j < s.length), j < k → s[j] ≠ x) (fun i => s.length - (intOf i).toNat)
  case atStart => exact ⟨0, by omega, rfl, by intro j _ h; omega⟩
  case round =>
    obtain ⟨k, hk, rfl, hno⟩ := hrel
    have HN := Lib.hid hno
    clear hno
    by_cases hlt : k < s.length
    · obtain ⟨b, rfl, h0⟩ := HS.out k hlt
      by_cases hx : s[k] = x
      · have e1 := nbeq hx.symm
        have he := Lib.hid (idx_some hlt hx HN.out)
        clear hx
        go_wp2
        go_ret
        exact ⟨by rw [he.out]; rfl, rfl⟩
      · have e1 := nbeq_no (show ¬ x = s[k] from fun e => hx e.symm)
        have HX := Lib.hid hx
        clear hx
        go_wp2
        go_round
        case rel => exact ⟨k + 1, by omega, by go_num, fun j h1 h2 => by
          by_cases h3 : j < k
          · exact HN.out j h1 h3
          · obtain rfl : j = k := by omega
            exact HX.out⟩
        case measure => simp [intOf]; omega
    · have he := Lib.hid (idx_none (x := x) (fun i hi => HN.out i hi (by omega)))
      go_wp2
      go_ret
      exact ⟨by rw [he.out]; rfl, rfl⟩

theorem holder_any (g : Nat) (s : List Nat) (w : World) (hm : s.length ≤ 9223372036854775807) (h : AutoAt w g s) :
    Calls Tryz.prog 76 #[.pointer (some ⟨g, 0, none⟩)] w fun e w' => e = .returned (.int .i64 (idxOf s 2)) ∧ w' = w := by
  obtain ⟨A, c, c0, _, hc⟩ := h.slot
  have hc' : ∀ i (hi : i < s.length), ∃ b, A = some ⟨b, 0, none⟩ ∧ w.cell? ⟨b, i, none⟩ = some (.int .i64 s[i]) := fun i hi => by
    obtain ⟨b, h1, h2, _⟩ := hc i hi
    exact ⟨b, h1, h2⟩
  have HC := Lib.hid hc'
  clear hc hc'
  go_enter Tryz.func76, Tryz.ntmps76
  go_wp2_with fail
  refine (index_any s A c 2 _ hm HC.out).mono ?_
  rintro e wx ⟨rfl, hwx⟩
  obtain rfl := hwx.symm
  go_wp2_with fail
  go_ret
  exact ⟨rfl, rfl⟩
theorem holder_nil (w : World) :
    Calls Tryz.prog 76 #[.pointer none] w fun e w' => e = .returned (.int .i64 (-1)) ∧ w' = w := by
  go_enter Tryz.func76, Tryz.ntmps76
  go_wp2
  go_ret
  exact ⟨rfl, rfl⟩

/-- At what a thread must be for an event, what it is at then, and what is wrong else. -/
def from3 (k : Int) : Int × Int × Int := if k = 1 then (0, 1, 5) else if k = 2 then (1, 2, 6) else if k = 3 then (2, 3, 6) else (3, 0, 6)
theorem from_any (k : Int) (w : World) :
    Calls Tryz.prog 75 #[.int .i64 k] w fun e w' => e = .returned (.tuple #[.int .i64 (from3 k).1, .int .i64 (from3 k).2.1, .int .i64 (from3 k).2.2]) ∧ w' = w := by
  by_cases h1 : k = 1
  · subst h1
    go_enter Tryz.func75, Tryz.ntmps75
    go_wp2
    go_ret3
    exact ⟨rfl, rfl⟩
  · by_cases h2 : k = 2
    · subst h2
      go_enter Tryz.func75, Tryz.ntmps75
      go_wp2
      go_ret3
      exact ⟨rfl, rfl⟩
    · by_cases h3 : k = 3
      · subst h3
        go_enter Tryz.func75, Tryz.ntmps75
        go_wp2
        go_ret3
        exact ⟨rfl, rfl⟩
      · have hn := Lib.hid (show from3 k = (3, 0, 6) by simp [from3, h1, h2, h3])
        have e1 := ibeq_no h1
        have e2 := ibeq_no h2
        have e3 := ibeq_no h3
        clear h1 h2 h3
        go_enter Tryz.func75, Tryz.ntmps75
        go_wp2
        go_ret3
        exact ⟨by rw [hn.out]; rfl, rfl⟩
end Go.Proofs.YthffhhgaeolpgaaGreat.Aut

/- Walks of package auto: New; and of the reference: Some. -/
namespace Go.Proofs.YthffhhgaeolpgaaGreat.Aut
open Go.RowKit

def zerosA (n : Nat) : Array Value := ((List.replicate n 0).map vN).toArray
theorem made_zeroA (n : Nat) : madeCells #[.int .i64 0] n = zerosA n := by
  apply Array.ext
  · simp [madeCells, zerosA]
  · intro i h1 h2
    simp [madeCells, zerosA, vN, Nat.mod_one]
theorem make_zeros (n : Nat) (h : n ≤ 65536) (W : World) : (Instr.makeSlice 43 (.int .i64 (n : Int)) (.int .i64 (n : Int))).run Tryz.prog W = .ok (.slice (some ⟨W.heap.size, 0, none⟩) n n) (W.alloc (.cells (zerosA n) 3)) := by
  rw [run_make_row' (P := Tryz.prog) 43 3 (.int .i64 0) 8 Tryz.underlying43 infoI rfl .i64 .i64 n (by omega) (by omega) W, made_zeroA]

/-- How many threads there are, of as many. -/
def som (t : Int) : Nat := if t < 0 then 0 else if 32 < t then 32 else t.toNat

theorem new_at0 (c : Nat) (hc : c ≤ 32) (t : Int) (w : World) (hh : Hid (∀ W, (Instr.makeSlice 43 (.int .i64 (c : Int)) (.int .i64 (c : Int))).run Tryz.prog W = .ok (.slice (some ⟨W.heap.size, 0, none⟩) c c) (W.alloc (.cells (zerosA c) 3))))
    (hr : Hid ((t ≤ 0 ∧ c = 0) ∨ (t = c ∧ 0 < c) ∨ (32 < t ∧ c = 32))) :
    Calls Tryz.prog 40 #[.int .i64 t] w fun e w' => ∃ g, e = .returned (.pointer (some ⟨g, 0, none⟩)) ∧ w.heap.size ≤ g ∧ g < w'.heap.size ∧ AutoAt w' g (List.replicate c 0) ∧ Below w.heap.size w w' := by
  have hfin : Hid (AutoAt ((w.alloc (.cells (zerosA c) 3)).alloc (.cells #[.slice (some ⟨w.heap.size, 0, none⟩) c c] 155)) (w.heap.size + 1) (List.replicate c 0) ∧
      Below w.heap.size w ((w.alloc (.cells (zerosA c) 3)).alloc (.cells #[.slice (some ⟨w.heap.size, 0, none⟩) c c] 155))) := by
    refine Lib.hid ⟨⟨some ⟨w.heap.size, 0, none⟩, c, ?_, .inr ⟨w.heap.size, rfl, by omega, ?_⟩⟩, (below_new _ _).alloc (by simp) _⟩
    · rw [List.length_replicate]
      exact heap_alloc2_new _ _ _
    · exact heap_alloc2_old _ _ _
  rcases hr.out with ⟨h1, rfl⟩ | ⟨rfl, h0⟩ | ⟨h1, rfl⟩
  · have hmk : ∀ W, (Instr.makeSlice 43 (.int .i64 0) (.int .i64 0)).run Tryz.prog W = .ok (.slice (some ⟨W.heap.size, 0, none⟩) 0 0) (W.alloc (.cells (zerosA 0) 3)) := hh.out
    have hm2 : t ≤ 32 := by omega
    by_cases h0 : t = 0
    all_goals
      go_enter Tryz.func40, Tryz.ntmps40
      go_wp2_with fail
      go_ret
      exact ⟨_, rfl, by simp, by simp, hfin.out.1, hfin.out.2⟩
  · have hmk := hh.out
    have h1 : (c : Int) ≤ 32 := by omega
    have h2 : (0 : Int) ≤ (c : Int) := by omega
    go_enter Tryz.func40, Tryz.ntmps40
    go_wp2_with fail
    go_ret
    exact ⟨_, rfl, by simp, by simp, hfin.out.1, hfin.out.2⟩
  · have hmk : ∀ W, (Instr.makeSlice 43 (.int .i64 32) (.int .i64 32)).run Tryz.prog W = .ok (.slice (some ⟨W.heap.size, 0, none⟩) 32 32) (W.alloc (.cells (zerosA 32) 3)) := hh.out
    go_enter Tryz.func40, Tryz.ntmps40
    go_wp2_with fail
    go_ret
    exact ⟨_, rfl, by simp, by simp, hfin.out.1, hfin.out.2⟩

theorem new_at (t : Int) (w : World) :
    Calls Tryz.prog 40 #[.int .i64 t] w fun e w' => ∃ g, e = .returned (.pointer (some ⟨g, 0, none⟩)) ∧ w.heap.size ≤ g ∧ g < w'.heap.size ∧ AutoAt w' g (List.replicate (som t) 0) ∧ Below w.heap.size w w' := by
  by_cases h0 : t ≤ 0
  · rw [show som t = 0 by unfold som; by_cases h : t < 0; rw [if_pos h]; rw [if_neg h, if_neg (by omega)]; omega]
    exact new_at0 0 (by omega) t w (fun W => make_zeros 0 (by omega) W) (.inl ⟨h0, rfl⟩)
  · by_cases h1 : 32 < t
    · rw [show som t = 32 by unfold som; rw [if_neg (by omega), if_pos h1]]
      exact new_at0 32 (by omega) t w (fun W => make_zeros 32 (by omega) W) (.inr (.inr ⟨h1, rfl⟩))
    · obtain ⟨c, rfl⟩ := Int.eq_ofNat_of_zero_le (show 0 ≤ t by omega)
      rw [show som c = c by unfold som; rw [if_neg (by omega), if_neg h1]; omega]
      exact new_at0 c (by omega) c w (fun W => make_zeros c (by omega) W) (.inr (.inl ⟨rfl, by omega⟩))

end Go.Proofs.YthffhhgaeolpgaaGreat.Aut

/- Walks of the reference of layer 10: State, Holder. -/
namespace Go.Proofs.YthffhhgaeolpgaaGreat.Aut
open Go.RowKit

structure Ev where
  kind : Int
  thread : Int
  read : Bool
  count : Int
  deriving DecidableEq
def decE (e : Ev) : List Value := [.int .i64 e.kind, .int .i64 e.thread, .bool e.read, .int .i64 e.count]
instance : Inhabited Ev := ⟨⟨0, 0, false, 0⟩⟩

def stepTo (t : Int) (a : Nat) (e : Ev) : Nat :=
  if e.thread = t then (if e.kind = 1 then 1 else if e.kind = 2 then 2 else if e.kind = 3 then 3 else if e.kind = 4 then 0 else a) else a
def rstate (l : List Ev) (t : Int) : Nat := l.foldl (stepTo t) 0
theorem rstate_take (l : List Ev) (t : Int) (k : Nat) (h : k < l.length) : rstate (l.take (k + 1)) t = stepTo t (rstate (l.take k) t) l[k] := by
  unfold rstate
  rw [List.take_succ_eq_append_getElem h, List.foldl_append]
  rfl

end Go.Proofs.YthffhhgaeolpgaaGreat.Aut

/- Walks of the reference of layer 10: Holder. -/
namespace Go.Proofs.YthffhhgaeolpgaaGreat.Aut
open Go.RowKit

/-- At what each thread is, behind events. -/
def stOf (n : Nat) (l : List Ev) : List Nat := (List.range n).map fun i => rstate l (i : Nat)
theorem som_le (t : Int) : som t ≤ 32 := by unfold som; split; omega; split <;> omega

end Go.Proofs.YthffhhgaeolpgaaGreat.Aut

/- Walks of package auto: Do. -/
namespace Go.Proofs.YthffhhgaeolpgaaGreat.Aut
open Go.RowKit

/-- A lock in memory, its ints' block named. -/
def AutoIn (w : World) (g h : Nat) (s : List Nat) : Prop :=
  ∃ A c, w.heap[g]? = some (.cells #[.slice A s.length c] 155 (0, 0)) ∧
    (s = [] ∨ (A = some ⟨h, 0, none⟩ ∧ h ≠ g ∧ w.heap[h]? = some (.cells (s.map vN).toArray 3 (0, 0))))
theorem AutoIn.at_ {w : World} {g h : Nat} {s : List Nat} (k : AutoIn w g h s) : AutoAt w g s := by
  obtain ⟨A, c, h1, h2⟩ := k
  rcases h2 with rfl | ⟨rfl, hn, h3⟩
  · exact ⟨A, c, h1, .inl rfl⟩
  · exact ⟨_, c, h1, .inr ⟨h, rfl, hn, h3⟩⟩
theorem AutoIn.alloc {w : World} {g h : Nat} {s : List Nat} (k : AutoIn w g h s) (o : Obj) : AutoIn (w.alloc o) g h s := by
  have old : ∀ {i : Nat} {x : Obj}, w.heap[i]? = some x → (w.alloc o).heap[i]? = some x := fun {i x} hx => by
    have hi : i < w.heap.size := by
      rcases Nat.lt_or_ge i w.heap.size with h | h
      · exact h
      · rw [Array.getElem?_eq_none h] at hx; simp at hx
    rw [heap_alloc_old w o hi, hx]
  obtain ⟨A, c, h1, h2⟩ := k
  refine ⟨A, c, old h1, ?_⟩
  rcases h2 with rfl | ⟨rfl, hn, h3⟩
  · exact .inl rfl
  · exact .inr ⟨rfl, hn, old h3⟩
theorem AutoIn.drewN {w : World} {g h : Nat} {s : List Nat} (k : AutoIn w g h s) (n : Nat) : AutoIn (w.drewN n) g h s := k
theorem AutoIn.set {w : World} {g h : Nat} {s : List Nat} (k : AutoIn w g h s) (q x : Nat) (hq : q < s.length) : AutoIn (w.setCell ⟨h, q, none⟩ (.int .i64 x)) g h (s.set q x) := by
  obtain ⟨A, c, h1, h2⟩ := k
  rcases h2 with rfl | ⟨rfl, hn, h3⟩
  · simp at hq
  · refine ⟨_, c, ?_, .inr ⟨rfl, hn, ?_⟩⟩
    · rw [List.length_set]
      simp [World.setCell, Array.getElem?_modify, h1, hn]
    · rw [blk_set h3]
      simp [vN, List.map_set]

/-- What an event comes to, and what each thread is at then. -/
def doS (s : List Nat) (e : Ev) : Nat × List Nat :=
  if e.read then (7, s) else if e.kind = 0 ∨ e.kind = 5 then (0, s) else if e.kind < 0 ∨ 5 < e.kind then (7, s)
  else if hasB s e.thread = false then (4, s)
  else if stateOf s e.thread ≠ (from3 e.kind).1 then ((from3 e.kind).2.2.toNat, s)
  else if e.kind = 2 ∧ 0 ≤ idxOf s 2 then (5, s)
  else (0, s.set e.thread.toNat (from3 e.kind).2.1.toNat)

def boxE (e : Ev) : Obj := .cells #[.int .i64 e.kind, .int .i64 e.thread, .bool e.read, .int .i64 e.count] 65 (0, 0)
/-- The world behind Do: the event's box, some draws, and one int of the lock's, if at all. -/
def DoneW (w : World) (h : Nat) (e : Ev) (w' : World) : Prop :=
  ∃ n, w' = (w.alloc (boxE e)).drewN n ∨ ∃ q x, w' = ((w.alloc (boxE e)).drewN n).setCell ⟨h, q, none⟩ (.int .i64 x)



theorem do_read (g h : Nat) (s : List Nat) (kd th ct : Int) (w : World) :
    Calls Tryz.prog 41 #[.pointer (some ⟨g, 0, none⟩), .agg #[.int .i64 kd, .int .i64 th, .bool true, .int .i64 ct]] w fun r w' => r = .returned (.int .i64 7) ∧ w' = w.alloc (boxE ⟨kd, th, true, ct⟩) := by
  go_enter Tryz.func41, Tryz.ntmps41
  go_wp2_with fail
  go_ret
  exact ⟨rfl, rfl⟩
theorem do_free (g h : Nat) (s : List Nat) (kd th ct : Int) (w : World) (hk : kd = 0 ∨ kd = 5) :
    Calls Tryz.prog 41 #[.pointer (some ⟨g, 0, none⟩), .agg #[.int .i64 kd, .int .i64 th, .bool false, .int .i64 ct]] w fun r w' => r = .returned (.int .i64 0) ∧ w' = w.alloc (boxE ⟨kd, th, false, ct⟩) := by
  rcases hk with rfl | rfl
  all_goals
    go_enter Tryz.func41, Tryz.ntmps41
    go_wp2_with fail
    go_ret
    exact ⟨rfl, rfl⟩
theorem do_wrong (g h : Nat) (s : List Nat) (kd th ct : Int) (w : World) (hk : kd < 0 ∨ 5 < kd) :
    Calls Tryz.prog 41 #[.pointer (some ⟨g, 0, none⟩), .agg #[.int .i64 kd, .int .i64 th, .bool false, .int .i64 ct]] w fun r w' => r = .returned (.int .i64 7) ∧ w' = w.alloc (boxE ⟨kd, th, false, ct⟩) := by
  have e0 := ibeq_no (show ¬ kd = 0 by omega)
  have e1 := ibeq_no (show ¬ kd = 1 by omega)
  have e2 := ibeq_no (show ¬ kd = 2 by omega)
  have e3 := ibeq_no (show ¬ kd = 3 by omega)
  have e4 := ibeq_no (show ¬ kd = 4 by omega)
  have e5 := ibeq_no (show ¬ kd = 5 by omega)
  clear hk
  go_enter Tryz.func41, Tryz.ntmps41
  go_wp2_with fail
  go_ret
  exact ⟨rfl, rfl⟩
theorem do_none (g h : Nat) (s : List Nat) (kd th ct : Int) (w : World) (hk : 1 ≤ kd ∧ kd ≤ 4) (H : AutoIn w g h s) (hh : hasB s th = false) :
    Calls Tryz.prog 41 #[.pointer (some ⟨g, 0, none⟩), .agg #[.int .i64 kd, .int .i64 th, .bool false, .int .i64 ct]] w fun r w' => r = .returned (.int .i64 4) ∧ w' = w.alloc (boxE ⟨kd, th, false, ct⟩) := by
  have HA := Lib.hid (has_any g s th _ (H.alloc (boxE ⟨kd, th, false, ct⟩)).at_)
  clear H
  rcases (show kd = 1 ∨ kd = 2 ∨ kd = 3 ∨ kd = 4 by omega) with rfl | rfl | rfl | rfl
  all_goals
    go_enter Tryz.func41, Tryz.ntmps41
    go_wp2_with fail
    refine (HA.out).mono ?_
    rintro e wx ⟨rfl, hwx⟩
    obtain rfl := hwx.symm
    rw [hh]
    go_wp2_with fail
    go_ret
    exact ⟨rfl, rfl⟩
end Go.Proofs.YthffhhgaeolpgaaGreat.Aut

/- Walks of package auto: Do of an event that may be. -/
namespace Go.Proofs.YthffhhgaeolpgaaGreat.Aut
open Go.RowKit



theorem do_not (g h k : Nat) (s : List Nat) (kd ct : Int) (w : World) (hk : 1 ≤ kd ∧ kd ≤ 4) (H : AutoIn w g h s) (hl : k < s.length) (hm : s.length ≤ 9223372036854775807) (hx : (s[k] : Int) ≠ (from3 kd).1) :
    Calls Tryz.prog 41 #[.pointer (some ⟨g, 0, none⟩), .agg #[.int .i64 kd, .int .i64 k, .bool false, .int .i64 ct]] w fun r w' => r = .returned (.int .i64 (from3 kd).2.2) ∧ ∃ n, w' = (w.alloc (boxE ⟨kd, k, false, ct⟩)).drewN n := by
  have hh : hasB s k = true := by simp [hasB, hl]
  have ha := has_any g s k _ (H.alloc (boxE ⟨kd, k, false, ct⟩)).at_
  have hf := from_any kd (w.alloc (boxE ⟨kd, k, false, ct⟩))
  simp only [boxE] at ha hf ⊢
  have HA := Lib.hid ha
  have HF := Lib.hid hf
  obtain ⟨A, c, c0, _, hc⟩ := (H.alloc (boxE ⟨kd, k, false, ct⟩)).at_.slot
  obtain ⟨b, rfl, c1, _⟩ := hc k hl
  clear H hc ha hf
  simp only [boxE] at c0 c1
  generalize s[k] = x at hx c1
  rcases (show kd = 1 ∨ kd = 2 ∨ kd = 3 ∨ kd = 4 by omega) with rfl | rfl | rfl | rfl
  · have e1 := nbne (show x ≠ 0 by
      intro hz
      subst hz
      exact hx rfl)
    clear hx
    go_enter Tryz.func41, Tryz.ntmps41
    go_wp2_with fail
    refine (HA.out).mono ?_
    rintro e wx ⟨rfl, hwx⟩
    obtain rfl := hwx.symm
    rw [hh]
    go_wp2_with fail
    refine (HF.out).mono ?_
    rintro e wx ⟨rfl, hwx⟩
    obtain rfl := hwx.symm
    simp only [from3]
    go_wp2_with fail
    go_quiet (fail)
    go_wp2_with fail
    go_ret
    exact ⟨rfl, _, rfl⟩
  · have e1 := nbne (show x ≠ 1 by
      intro hz
      subst hz
      exact hx rfl)
    clear hx
    go_enter Tryz.func41, Tryz.ntmps41
    go_wp2_with fail
    refine (HA.out).mono ?_
    rintro e wx ⟨rfl, hwx⟩
    obtain rfl := hwx.symm
    rw [hh]
    go_wp2_with fail
    refine (HF.out).mono ?_
    rintro e wx ⟨rfl, hwx⟩
    obtain rfl := hwx.symm
    simp only [from3]
    go_wp2_with fail
    go_quiet (fail)
    go_wp2_with fail
    go_ret
    exact ⟨rfl, _, rfl⟩
  · have e1 := nbne (show x ≠ 2 by
      intro hz
      subst hz
      exact hx rfl)
    clear hx
    go_enter Tryz.func41, Tryz.ntmps41
    go_wp2_with fail
    refine (HA.out).mono ?_
    rintro e wx ⟨rfl, hwx⟩
    obtain rfl := hwx.symm
    rw [hh]
    go_wp2_with fail
    refine (HF.out).mono ?_
    rintro e wx ⟨rfl, hwx⟩
    obtain rfl := hwx.symm
    simp only [from3]
    go_wp2_with fail
    go_quiet (fail)
    go_wp2_with fail
    go_ret
    exact ⟨rfl, _, rfl⟩
  · have e1 := nbne (show x ≠ 3 by
      intro hz
      subst hz
      exact hx rfl)
    clear hx
    go_enter Tryz.func41, Tryz.ntmps41
    go_wp2_with fail
    refine (HA.out).mono ?_
    rintro e wx ⟨rfl, hwx⟩
    obtain rfl := hwx.symm
    rw [hh]
    go_wp2_with fail
    refine (HF.out).mono ?_
    rintro e wx ⟨rfl, hwx⟩
    obtain rfl := hwx.symm
    simp only [from3]
    go_wp2_with fail
    go_quiet (fail)
    go_wp2_with fail
    go_ret
    exact ⟨rfl, _, rfl⟩

/-- Enter, and somebody is in. -/
theorem do_busy (g h k : Nat) (s : List Nat) (ct : Int) (w : World) (H : AutoIn w g h s) (hl : k < s.length) (hm : s.length ≤ 9223372036854775807) (hx : s[k] = 1) (hi : 0 ≤ idxOf s 2) :
    Calls Tryz.prog 41 #[.pointer (some ⟨g, 0, none⟩), .agg #[.int .i64 2, .int .i64 k, .bool false, .int .i64 ct]] w fun r w' => r = .returned (.int .i64 5) ∧ ∃ n, w' = (w.alloc (boxE ⟨2, k, false, ct⟩)).drewN n := by
  have hh : hasB s k = true := by simp [hasB, hl]
  have ha := has_any g s k _ (H.alloc (boxE ⟨2, k, false, ct⟩)).at_
  have hf := from_any 2 (w.alloc (boxE ⟨2, k, false, ct⟩))
  have hd : ∀ n, _ := fun n => holder_any g s _ hm ((H.alloc (boxE ⟨2, k, false, ct⟩)).drewN n).at_
  obtain ⟨A, c, c0, _, hc⟩ := (H.alloc (boxE ⟨2, k, false, ct⟩)).at_.slot
  obtain ⟨b, rfl, c1, _⟩ := hc k hl
  simp only [boxE] at ha hf hd c0 c1 ⊢
  have HA := Lib.hid ha
  have HF := Lib.hid hf
  have HD := Lib.hid hd
  clear H hc ha hf hd
  rw [hx] at c1
  generalize idxOf s 2 = y at hi HD
  go_enter Tryz.func41, Tryz.ntmps41
  go_wp2_with fail
  refine (HA.out).mono ?_
  rintro e wx ⟨rfl, hwx⟩
  obtain rfl := hwx.symm
  rw [hh]
  go_wp2_with fail
  refine (HF.out).mono ?_
  rintro e wx ⟨rfl, hwx⟩
  obtain rfl := hwx.symm
  simp only [from3]
  go_wp2_with fail
  go_quiet (fail)
  go_wp2_with fail
  refine (HD.out _).mono ?_
  rintro e wx ⟨rfl, hwx⟩
  obtain rfl := hwx.symm
  go_wp2_with fail
  go_ret
  exact ⟨rfl, _, rfl⟩
end Go.Proofs.YthffhhgaeolpgaaGreat.Aut

/- Walks of package auto: Do of an event that is taken. -/
namespace Go.Proofs.YthffhhgaeolpgaaGreat.Aut
open Go.RowKit

theorem do_ask (g h k : Nat) (s : List Nat) (ct : Int) (w : World) (H : AutoIn w g h s) (hl : k < s.length) (hm : s.length ≤ 9223372036854775807) (hx : s[k] = 0) :
    Calls Tryz.prog 41 #[.pointer (some ⟨g, 0, none⟩), .agg #[.int .i64 1, .int .i64 k, .bool false, .int .i64 ct]] w fun r w' => r = .returned (.int .i64 0) ∧ ∃ n, w' = ((w.alloc (boxE ⟨1, k, false, ct⟩)).drewN n).setCell ⟨h, k, none⟩ (.int .i64 1) := by
  have hh : hasB s k = true := by simp [hasB, hl]
  have ha := has_any g s k _ (H.alloc (boxE ⟨1, k, false, ct⟩)).at_
  have hf := from_any 1 (w.alloc (boxE ⟨1, k, false, ct⟩))
  obtain ⟨A, c, k0, kk⟩ := H.alloc (boxE ⟨1, k, false, ct⟩)
  rcases kk with rfl | ⟨rfl, hne, k1⟩
  · simp at hl
  have c0 : (w.alloc (boxE ⟨1, k, false, ct⟩)).cell? ⟨g, 0, none⟩ = some (.slice (some ⟨h, 0, none⟩) s.length c) := by simp only [World.cell?, k0]; rfl
  have c1 : (w.alloc (boxE ⟨1, k, false, ct⟩)).cell? ⟨h, k, none⟩ = some (.int .i64 s[k]) := by simp [World.cell?, k1, vN, hl]
  have f1 : (w.alloc (boxE ⟨1, k, false, ct⟩)).frozen? ⟨h, k, none⟩ = false := by simp [World.frozen?, k1]
  simp only [boxE] at ha hf c0 c1 f1 ⊢
  have HA := Lib.hid ha
  have HF := Lib.hid hf
  clear H k0 k1 ha hf
  rw [hx] at c1
  go_enter Tryz.func41, Tryz.ntmps41
  go_wp2_with fail
  refine (HA.out).mono ?_
  rintro e wx ⟨rfl, hwx⟩
  obtain rfl := hwx.symm
  rw [hh]
  go_wp2_with fail
  refine (HF.out).mono ?_
  rintro e wx ⟨rfl, hwx⟩
  obtain rfl := hwx.symm
  simp only [from3]
  go_wp2_with fail
  go_quiet (fail)
  go_wp2_with fail
  go_region
  go_wp2_with fail
  go_ret
  exact ⟨rfl, _, rfl⟩
theorem do_exit (g h k : Nat) (s : List Nat) (ct : Int) (w : World) (H : AutoIn w g h s) (hl : k < s.length) (hm : s.length ≤ 9223372036854775807) (hx : s[k] = 2) :
    Calls Tryz.prog 41 #[.pointer (some ⟨g, 0, none⟩), .agg #[.int .i64 3, .int .i64 k, .bool false, .int .i64 ct]] w fun r w' => r = .returned (.int .i64 0) ∧ ∃ n, w' = ((w.alloc (boxE ⟨3, k, false, ct⟩)).drewN n).setCell ⟨h, k, none⟩ (.int .i64 3) := by
  have hh : hasB s k = true := by simp [hasB, hl]
  have ha := has_any g s k _ (H.alloc (boxE ⟨3, k, false, ct⟩)).at_
  have hf := from_any 3 (w.alloc (boxE ⟨3, k, false, ct⟩))
  obtain ⟨A, c, k0, kk⟩ := H.alloc (boxE ⟨3, k, false, ct⟩)
  rcases kk with rfl | ⟨rfl, hne, k1⟩
  · simp at hl
  have c0 : (w.alloc (boxE ⟨3, k, false, ct⟩)).cell? ⟨g, 0, none⟩ = some (.slice (some ⟨h, 0, none⟩) s.length c) := by simp only [World.cell?, k0]; rfl
  have c1 : (w.alloc (boxE ⟨3, k, false, ct⟩)).cell? ⟨h, k, none⟩ = some (.int .i64 s[k]) := by simp [World.cell?, k1, vN, hl]
  have f1 : (w.alloc (boxE ⟨3, k, false, ct⟩)).frozen? ⟨h, k, none⟩ = false := by simp [World.frozen?, k1]
  simp only [boxE] at ha hf c0 c1 f1 ⊢
  have HA := Lib.hid ha
  have HF := Lib.hid hf
  clear H k0 k1 ha hf
  rw [hx] at c1
  go_enter Tryz.func41, Tryz.ntmps41
  go_wp2_with fail
  refine (HA.out).mono ?_
  rintro e wx ⟨rfl, hwx⟩
  obtain rfl := hwx.symm
  rw [hh]
  go_wp2_with fail
  refine (HF.out).mono ?_
  rintro e wx ⟨rfl, hwx⟩
  obtain rfl := hwx.symm
  simp only [from3]
  go_wp2_with fail
  go_quiet (fail)
  go_wp2_with fail
  go_region
  go_wp2_with fail
  go_ret
  exact ⟨rfl, _, rfl⟩
theorem do_rest (g h k : Nat) (s : List Nat) (ct : Int) (w : World) (H : AutoIn w g h s) (hl : k < s.length) (hm : s.length ≤ 9223372036854775807) (hx : s[k] = 3) :
    Calls Tryz.prog 41 #[.pointer (some ⟨g, 0, none⟩), .agg #[.int .i64 4, .int .i64 k, .bool false, .int .i64 ct]] w fun r w' => r = .returned (.int .i64 0) ∧ ∃ n, w' = ((w.alloc (boxE ⟨4, k, false, ct⟩)).drewN n).setCell ⟨h, k, none⟩ (.int .i64 0) := by
  have hh : hasB s k = true := by simp [hasB, hl]
  have ha := has_any g s k _ (H.alloc (boxE ⟨4, k, false, ct⟩)).at_
  have hf := from_any 4 (w.alloc (boxE ⟨4, k, false, ct⟩))
  obtain ⟨A, c, k0, kk⟩ := H.alloc (boxE ⟨4, k, false, ct⟩)
  rcases kk with rfl | ⟨rfl, hne, k1⟩
  · simp at hl
  have c0 : (w.alloc (boxE ⟨4, k, false, ct⟩)).cell? ⟨g, 0, none⟩ = some (.slice (some ⟨h, 0, none⟩) s.length c) := by simp only [World.cell?, k0]; rfl
  have c1 : (w.alloc (boxE ⟨4, k, false, ct⟩)).cell? ⟨h, k, none⟩ = some (.int .i64 s[k]) := by simp [World.cell?, k1, vN, hl]
  have f1 : (w.alloc (boxE ⟨4, k, false, ct⟩)).frozen? ⟨h, k, none⟩ = false := by simp [World.frozen?, k1]
  simp only [boxE] at ha hf c0 c1 f1 ⊢
  have HA := Lib.hid ha
  have HF := Lib.hid hf
  clear H k0 k1 ha hf
  rw [hx] at c1
  go_enter Tryz.func41, Tryz.ntmps41
  go_wp2_with fail
  refine (HA.out).mono ?_
  rintro e wx ⟨rfl, hwx⟩
  obtain rfl := hwx.symm
  rw [hh]
  go_wp2_with fail
  refine (HF.out).mono ?_
  rintro e wx ⟨rfl, hwx⟩
  obtain rfl := hwx.symm
  simp only [from3]
  go_wp2_with fail
  go_quiet (fail)
  go_wp2_with fail
  go_region
  go_wp2_with fail
  go_ret
  exact ⟨rfl, _, rfl⟩
theorem do_enter (g h k : Nat) (s : List Nat) (ct : Int) (w : World) (H : AutoIn w g h s) (hl : k < s.length) (hm : s.length ≤ 9223372036854775807) (hx : s[k] = 1) (hi : idxOf s 2 < 0) :
    Calls Tryz.prog 41 #[.pointer (some ⟨g, 0, none⟩), .agg #[.int .i64 2, .int .i64 k, .bool false, .int .i64 ct]] w fun r w' => r = .returned (.int .i64 0) ∧ ∃ n, w' = ((w.alloc (boxE ⟨2, k, false, ct⟩)).drewN n).setCell ⟨h, k, none⟩ (.int .i64 2) := by
  have hh : hasB s k = true := by simp [hasB, hl]
  have ha := has_any g s k _ (H.alloc (boxE ⟨2, k, false, ct⟩)).at_
  have hf := from_any 2 (w.alloc (boxE ⟨2, k, false, ct⟩))
  have hd : ∀ n, _ := fun n => holder_any g s _ hm ((H.alloc (boxE ⟨2, k, false, ct⟩)).drewN n).at_
  obtain ⟨A, c, k0, kk⟩ := H.alloc (boxE ⟨2, k, false, ct⟩)
  rcases kk with rfl | ⟨rfl, hne, k1⟩
  · simp at hl
  have c0 : (w.alloc (boxE ⟨2, k, false, ct⟩)).cell? ⟨g, 0, none⟩ = some (.slice (some ⟨h, 0, none⟩) s.length c) := by simp only [World.cell?, k0]; rfl
  have c1 : (w.alloc (boxE ⟨2, k, false, ct⟩)).cell? ⟨h, k, none⟩ = some (.int .i64 s[k]) := by simp [World.cell?, k1, vN, hl]
  have f1 : (w.alloc (boxE ⟨2, k, false, ct⟩)).frozen? ⟨h, k, none⟩ = false := by simp [World.frozen?, k1]
  simp only [boxE] at ha hf hd c0 c1 f1 ⊢
  have HA := Lib.hid ha
  have HF := Lib.hid hf
  have HD := Lib.hid hd
  clear H k0 k1 ha hf hd
  generalize idxOf s 2 = y at hi HD
  rw [hx] at c1
  go_enter Tryz.func41, Tryz.ntmps41
  go_wp2_with fail
  refine (HA.out).mono ?_
  rintro e wx ⟨rfl, hwx⟩
  obtain rfl := hwx.symm
  rw [hh]
  go_wp2_with fail
  refine (HF.out).mono ?_
  rintro e wx ⟨rfl, hwx⟩
  obtain rfl := hwx.symm
  simp only [from3]
  go_wp2_with fail
  go_quiet (fail)
  go_wp2_with fail
  refine (HD.out _).mono ?_
  rintro e wx ⟨rfl, hwx⟩
  obtain rfl := hwx.symm
  go_wp2_with fail
  go_region
  go_wp2_with fail
  go_ret
  exact ⟨rfl, _, rfl⟩
end Go.Proofs.YthffhhgaeolpgaaGreat.Aut

