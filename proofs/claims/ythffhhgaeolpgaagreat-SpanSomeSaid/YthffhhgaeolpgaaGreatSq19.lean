/- Merged texts: Ga6, Sn2, Sn3, Sn4, Sn5. -/
import Derived.Test.YthffhhgaeolpgaaGreatSq18
set_option linter.unusedVariables false
/- Package gate: New, Do whole, a gate that nobody made; what Run asks of them. -/
namespace Go.Proofs.YthffhhgaeolpgaaGreat.Ga
open Go.RowKit Go.Proofs.YthffhhgaeolpgaaGreat.Ara Go.Proofs.YthffhhgaeolpgaaGreat.Lok Go.Proofs.YthffhhgaeolpgaaGreat.Fl

theorem fl_base {B gf gl ga ha hs : Nat} {p : PK} {σ : Ar} {sp : List Sp} {W W' : World} (k : FLAt W gf gl ga ha hs p σ sp) (hb : Below B W W') (h0 : gf < B) (h1 : gl < B) (h2 : ga < B) (h3 : ha < B) (h4 : hs < B) : FLAt W' gf gl ga ha hs p σ sp := by
  have key : ∀ {X : Nat}, X < B → W'.heap[X]? = W.heap[X]? := fun h => hb.block _ h
  refine ⟨(key h0).trans k.fb, ?_, k.n1, k.n2, k.n3⟩
  have a := k.at_
  cases p with
  | tas P => obtain ⟨k1, k2, k3, ⟨c, k4⟩, k5⟩ := a; exact ⟨k1.upd (S := []) (Upd.of_below hb) h2 h3 (by simp) (by simp), k2.of_blk (key h4), k3, ⟨c, (key h1).trans k4⟩, k5⟩
  | tic P => obtain ⟨k1, k2, k3, ⟨c, k4⟩, k5⟩ := a; exact ⟨k1.upd (S := []) (Upd.of_below hb) h2 h3 (by simp) (by simp), k2.of_blk (key h4), k3, ⟨c, (key h1).trans k4⟩, k5⟩
  | par P => obtain ⟨k1, k2, k3, ⟨c, k4⟩, k5⟩ := a; exact ⟨k1.upd (S := []) (Upd.of_below hb) h2 h3 (by simp) (by simp), k2.of_blk (key h4), k3, ⟨c, (key h1).trans k4⟩, k5⟩
  | mcs P => obtain ⟨k1, k2, k3, ⟨c, k4⟩, k5⟩ := a; exact ⟨k1.upd (S := []) (Upd.of_below hb) h2 h3 (by simp) (by simp), k2.of_blk (key h4), k3, ⟨c, (key h1).trans k4⟩, k5⟩
  | clh P => obtain ⟨k1, k2, k3, ⟨c, k4⟩, k5⟩ := a; exact ⟨k1.upd (S := []) (Upd.of_below hb) h2 h3 (by simp) (by simp), k2.of_blk (key h4), k3, ⟨c, (key h1).trans k4⟩, k5⟩
theorem words_nil (w : World) : Calls Tryz.prog 21 #[.pointer none] w fun e w' => e = .returned (.slice none 0 0) ∧ Below w.heap.size w w' := by
  go_enter Tryz.func21, Tryz.ntmps21
  go_wp2_with fail
  refine (len_nil _).mono ?_
  rintro e wx ⟨rfl, hwx⟩
  obtain rfl := hwx.symm
  go_wp2_with fail
  go_loop [3, 7] (fun o i => o = .slice none 0 0 ∧ i = .int .i64 0) (fun _ _ => 0)
  case atStart => exact ⟨rfl, rfl⟩
  case round =>
    obtain ⟨rfl, rfl⟩ := hrel
    go_wp2_with fail
    go_ret
    exact ⟨rfl, Below.refl _ _⟩
theorem do_g {gg gf gl ga ha hs : Nat} {p : PK} {σ : Ar} {sp : List Sp} {w : World} (K : GAt w gg gf gl ga ha hs p σ sp) (n m : Nat) (ho : OkK p σ sp n m) (hm : m ≤ 100000) (t want : Int) :
    Calls Tryz.prog 32 #[.pointer (some ⟨gg, 0, none⟩), .agg #[.int .i64 t, .int .i64 want]] w fun e w' => e = .returned (gev (gact p σ sp t want).1.1 (gact p σ sp t want).1.2.1 (gact p σ sp t want).1.2.2) ∧ GAt w' gg gf gl ga ha hs p (gact p σ sp t want).2.1 (gact p σ sp t want).2.2 ∧ Mod [ga, ha, hs] w w' := by
  unfold gact
  by_cases ht : t < 0 ∨ (sp.length : Int) ≤ t
  · rw [if_pos ht]
    exact do_out K t want ht
  rw [if_neg ht]
  by_cases h0 : want = 0
  · rw [if_pos h0]
    by_cases hs0 : gst (spOf sp t) = 1 ∨ gst (spOf sp t) = 3
    · rw [if_pos hs0]
      rcases hr : doK p σ sp 0 t with ⟨b, σ2, sp2⟩
      have h2 : (if b then (if gst (spOf sp t) = 1 then ((2 : Int), t, (1 : Int)) else (4, t, 0)) else (0, t, 0)) = ((if b then (if gst (spOf sp t) = 1 then ((2 : Int), (1 : Int)) else (4, 0)) else (0, 0)).1, t, (if b then (if gst (spOf sp t) = 1 then ((2 : Int), (1 : Int)) else (4, 0)) else (0, 0)).2) := by
        cases b
        · rfl
        · rcases hs0 with h | h
          · simp [h]
          · simp [h]
      simp only [h2]
      exact do_way K n m ho hm t want ht h0 hs0 b σ2 sp2 hr _ _ rfl
    · rw [if_neg hs0]
      refine do_stay K t want ht h0 ?_
      have := gst_in (spOf sp t)
      omega
  rw [if_neg h0]
  by_cases h1 : want = 1
  · rw [if_pos h1]
    subst h1
    rcases hr : doK p σ sp 1 t with ⟨b, σ2, sp2⟩
    have := do_ask K n m ho hm t ht b σ2 sp2 hr
    cases b <;> exact this
  rw [if_neg h1]
  by_cases h2 : want = 2
  · rw [if_pos h2]
    subst h2
    rcases hr : doK p σ sp 2 t with ⟨b, σ2, sp2⟩
    have := do_leave K n m ho hm t ht b σ2 sp2 hr
    cases b <;> exact this
  rw [if_neg h2]
  exact do_bad K t want ht (by omega)
theorem gact_do (p : PK) (σ : Ar) (sp : List Sp) (t want : Int) : ∃ kd, (gact p σ sp t want).2 = (doK p σ sp kd t).2 ∧ (kd = 0 ∨ kd = 1 ∨ kd = 2 ∨ kd = 7) := by
  have h7 : (doK p σ sp 7 t).2 = (σ, sp) := by rw [do_else p σ sp 7 t (.inr (by omega))]
  unfold gact
  split
  · exact ⟨7, h7.symm, by omega⟩
  split
  · split
    · exact ⟨0, rfl, by omega⟩
    · exact ⟨7, h7.symm, by omega⟩
  split
  · exact ⟨1, rfl, by omega⟩
  split
  · exact ⟨2, rfl, by omega⟩
  · exact ⟨7, h7.symm, by omega⟩
theorem ok_gact {p : PK} {σ : Ar} {sp : List Sp} {n m : Nat} (h : OkK p σ sp n m) (t want : Int) : OkK p (gact p σ sp t want).2.1 (gact p σ sp t want).2.2 n (m + 1) := by
  obtain ⟨kd, he, _⟩ := gact_do p σ sp t want
  rw [he]
  exact h.act kd t
theorem gi_real (gg gf gl ga ha hs : Nat) (p : PK) (n m0 : Nat) (hm0 : m0 ≤ 50000) (L : Nat) (h0 : gg < L) (h1 : gf < L) (h2 : gl < L) (h3 : ga < L) (h4 : ha < L) (h5 : hs < L) :
    GI (.pointer (some ⟨gg, 0, none⟩)) (Ar × List Sp) (fun k W x => GAt W gg gf gl ga ha hs p x.1 x.2 ∧ OkK p x.1 x.2 n (m0 + k)) (fun x t => gst (spOf x.2 t)) (fun x t w => gact p x.1 x.2 t w) [ga, ha, hs] L := by
  refine ⟨by simp; omega, fun k W W' x h hb => ?_, fun k W x t h => state_g h.1 t, fun k W x t wn hk h => ?_⟩
  · refine ⟨?_, h.2⟩
    have g := h.1
    exact ⟨(hb.block gg h0).trans g.gb, fl_base g.fl hb h1 h2 h3 h4 h5, g.n1, g.n2, g.n3, by have := hb.size; have := g.nh; omega⟩
  · exact (do_g h.1 n (m0 + k) h.2 (by omega) t wn).mono fun e w' ⟨e1, e2, e3⟩ => ⟨e1, ⟨e2, ok_gact h.2 t wn⟩, e3⟩
def GNew (kind : Int) (n : Nat) (par : Int) (w : World) (e : Ending) (w' : World) : Prop :=
  ∃ gg gf gl hs, e = .returned (.tuple #[.pointer (some ⟨gg, 0, none⟩), .int .i64 0]) ∧ GAt w' gg gf gl (w.heap.size + 1) w.heap.size hs (pkK kind par 1) (firstK kind n par 1 { Ar.fresh 4096 with t := sizeK kind n par }).1 (firstK kind n par 1 { Ar.fresh 4096 with t := sizeK kind n par }).2 ∧ (w.heap.size ≤ gg ∧ w.heap.size ≤ gf ∧ w.heap.size ≤ gl ∧ w.heap.size ≤ hs) ∧ Below w.heap.size w w'
set_option maxRecDepth 100000 in
theorem gnew_any (kind : Int) (n : Nat) (par : Int) (hM : mayK kind n par) (w : World) : Calls Tryz.prog 30 #[.int .i64 kind, .int .i64 (n : Int), .int .i64 par] w (GNew kind n par w) := by
  have hr : (Ar.fresh (room 4096)).ws.length = 4096 := by simp [Ar.fresh, zerosW, room]
  have hsz : sizeK kind n par ≤ 100 := by
    obtain ⟨_, h1, h2, h3⟩ := hM
    unfold sizeK
    repeat (first | split | omega)
  have HM := Lib.hid hM
  have HR := Lib.hid hr
  clear hM hr
  go_enter Tryz.func30, Tryz.ntmps30
  go_wp2_with fail
  refine (new_at 4096 _ _ rfl).mono ?_
  rintro e w1 ⟨rfl, hat⟩
  have HN := Lib.hid (new_flat kind n par HM.out (w.heap.size + 1) w.heap.size _ w1 hat.1 (by have := hat.2.1; omega) (by rw [HR.out]; show 0 + _ ≤ _; omega) (by rw [HR.out]; omega) (by show 0 ≤ _; omega))
  have HB1 := Lib.hid hat.2.2
  have hz1 := hat.2.1
  clear hat
  go_wp2_with fail
  refine HN.out.mono ?_
  rintro e w2 ⟨gf, gl, hs, rfl, hk, ⟨b1, b2, b3⟩, hm⟩
  simp only [show (Ar.fresh (room 4096)).t = 0 from rfl, Nat.zero_add] at hk
  have HK := Lib.hid hk
  have HB := Lib.hid (HB1.out.trans (hm.below (by omega) (by simp)))
  have hz2 := hm.size
  clear hk hm HN HB1
  have hbn := below_new w2 (.cells #[.pointer (some ⟨w.heap.size + 1, 0, none⟩), .pointer (some ⟨gf, 0, none⟩)] 73)
  have HG := Lib.hid (blk_new w2 (.cells #[.pointer (some ⟨w.heap.size + 1, 0, none⟩), .pointer (some ⟨gf, 0, none⟩)] 73))
  have HK2 := Lib.hid (HK.out.same hbn)
  have HBB := Lib.hid (HK.out.blocks)
  have HB2 := Lib.hid (HB.out.trans (hbn.mono HB.out.size))
  clear hbn
  go_wp2_with fail
  go_ret2
  obtain ⟨q1, q2, q3, q4⟩ := HBB.out
  exact ⟨w2.heap.size, gf, gl, hs, rfl, ⟨HG.out, HK2.out, by omega, by omega, by omega, by simp; omega⟩, by omega, HB2.out⟩
theorem new_kind9 (q : Option Addr) (w : World) : Calls Tryz.prog 12 #[.pointer q, .int .i64 9, .int .i64 2, .int .i64 0] w fun e w' => e = .returned (.tuple #[.pointer none, .int .i64 7]) ∧ w' = w := by
  go_enter Tryz.func12, Tryz.ntmps12
  go_wp2_with fail
  go_ret2
  exact ⟨rfl, by trivial⟩
theorem gnew_kind9 (w : World) : Calls Tryz.prog 30 #[.int .i64 9, .int .i64 2, .int .i64 0] w fun e w' => e = .returned (.tuple #[.pointer none, .int .i64 7]) ∧ Below w.heap.size w w' := by
  go_enter Tryz.func30, Tryz.ntmps30
  go_wp2_with fail
  refine (new_at 4096 _ _ rfl).mono ?_
  rintro e w1 ⟨rfl, hat⟩
  have HB1 := Lib.hid hat.2.2
  clear hat
  go_wp2_with fail
  refine (new_kind9 _ _).mono ?_
  rintro e wx ⟨rfl, hwx⟩
  obtain rfl := hwx.symm
  go_wp2_with fail
  go_ret2
  exact ⟨rfl, HB1.out⟩
def NoG (W : World) (q : Option Addr) : Prop := q = none ∨ ∃ g, q = some ⟨g, 0, none⟩ ∧ W.heap[g]? = some (.cells #[.pointer none, .pointer none] 73 (0, 0))
theorem NoG.same {W W' : World} {q : Option Addr} (h : NoG W q) (hb : Below W.heap.size W W') : NoG W' q := by
  rcases h with h | ⟨g, h1, h2⟩
  · exact .inl h
  · exact .inr ⟨g, h1, (Mod.of_below (S := []) hb).blk h2 (by simp)⟩
section
variable (q : Option Addr) (w : World) (H : NoG w q)
include H
set_option maxRecDepth 100000 in
theorem nthreads : Calls Tryz.prog 38 #[.pointer q] w fun e w' => e = .returned (.int .i64 0) ∧ w' = w := by
  rcases H with rfl | ⟨g, rfl, hc⟩
  · go_enter Tryz.func38, Tryz.ntmps38
    go_wp2_with fail
    go_ret
    exact ⟨rfl, rfl⟩
  · have c0 := blk_cell hc 0 (by simp)
    have c1 := blk_cell hc 1 (by simp)
    simp only [List.getElem_toArray, List.getElem_cons_zero, List.getElem_cons_succ] at c0 c1
    have HS := Lib.hid (slots_none none w (.inl rfl))
    clear hc
    go_enter Tryz.func38, Tryz.ntmps38
    go_wp2_with fail
    refine (HS.out).mono ?_
    rintro e wx ⟨rfl, hwx⟩
    obtain rfl := hwx.symm
    go_wp2_with fail
    go_ret
    exact ⟨rfl, rfl⟩
set_option maxRecDepth 100000 in
theorem nops : Calls Tryz.prog 35 #[.pointer q] w fun e w' => e = .returned (.int .i64 0) ∧ w' = w := by
  rcases H with rfl | ⟨g, rfl, hc⟩
  · go_enter Tryz.func35, Tryz.ntmps35
    go_wp2_with fail
    go_ret
    exact ⟨rfl, rfl⟩
  · have c0 := blk_cell hc 0 (by simp)
    have c1 := blk_cell hc 1 (by simp)
    simp only [List.getElem_toArray, List.getElem_cons_zero, List.getElem_cons_succ] at c0 c1
    have HS := Lib.hid (ops_nil w)
    clear hc
    go_enter Tryz.func35, Tryz.ntmps35
    go_wp2_with fail
    refine (HS.out).mono ?_
    rintro e wx ⟨rfl, hwx⟩
    obtain rfl := hwx.symm
    go_wp2_with fail
    go_ret
    exact ⟨rfl, rfl⟩
set_option maxRecDepth 100000 in
theorem nwords : Calls Tryz.prog 34 #[.pointer q] w fun e w' => e = .returned (.slice none 0 0) ∧ Below w.heap.size w w' := by
  rcases H with rfl | ⟨g, rfl, hc⟩
  · go_enter Tryz.func34, Tryz.ntmps34
    go_wp2_with fail
    go_ret
    exact ⟨rfl, Below.refl _ _⟩
  · have c0 := blk_cell hc 0 (by simp)
    have c1 := blk_cell hc 1 (by simp)
    simp only [List.getElem_toArray, List.getElem_cons_zero, List.getElem_cons_succ] at c0 c1
    have HS := Lib.hid (words_nil w)
    clear hc
    go_enter Tryz.func34, Tryz.ntmps34
    go_wp2_with fail
    refine HS.out.mono ?_
    rintro e w2 ⟨rfl, hb⟩
    go_wp2_with fail
    go_ret
    exact ⟨rfl, hb⟩
set_option maxRecDepth 100000 in
theorem nstate (t : Int) : Calls Tryz.prog 36 #[.pointer q, .int .i64 t] w fun e w' => e = .returned (.int .i64 0) ∧ w' = w := by
  have HT := Lib.hid (nthreads q w H)
  clear H
  by_cases h0 : t < 0
  · go_enter Tryz.func36, Tryz.ntmps36
    go_wp2_with fail
    go_ret
    exact ⟨rfl, rfl⟩
  · have h1 : (0 : Int) ≤ t := by omega
    have h2 : decide (t < 0) = false := decide_eq_false h0
    go_enter Tryz.func36, Tryz.ntmps36
    go_wp2_with fail
    refine (HT.out).mono ?_
    rintro e wx ⟨rfl, hwx⟩
    obtain rfl := hwx.symm
    go_wp2_with fail
    go_ret
    exact ⟨rfl, rfl⟩
set_option maxHeartbeats 4000000 in
set_option maxRecDepth 100000 in
theorem ndo (t want : Int) : Calls Tryz.prog 32 #[.pointer q, .agg #[.int .i64 t, .int .i64 want]] w fun e w' => e = .returned (gev 0 0 0) ∧ Below w.heap.size w w' := by
  have hb1 : Below w.heap.size w (w.alloc (.cells #[.int .i64 t, .int .i64 want] 68)) := below_new _ _
  have hb2 : Below w.heap.size w ((w.alloc (.cells #[.int .i64 t, .int .i64 want] 68)).alloc (.cells #[.int .i64 0, .int .i64 0, .bool false, .int .i64 0] 65)) := hb1.alloc hb1.size _
  have HE := Lib.hid (show ((w.alloc (.cells #[.int .i64 t, .int .i64 want] 68)).alloc (.cells #[.int .i64 0, .int .i64 0, .bool false, .int .i64 0] 65)).heap[w.heap.size + 1]? = some (.cells #[.int .i64 0, .int .i64 0, .bool false, .int .i64 0] 65) from by simpa using blk_new (w.alloc (.cells #[.int .i64 t, .int .i64 want] 68)) (.cells #[.int .i64 0, .int .i64 0, .bool false, .int .i64 0] 65))
  have hH := H.same hb2
  have HT := Lib.hid (fun n => nthreads q _ (hH.same (below_drewN (Below.refl _ _) n)))
  have HB := Lib.hid hb2
  clear H hb1 hb2 hH
  by_cases h0 : t < 0
  · go_enter Tryz.func32, Tryz.ntmps32
    go_wp2_with fail
    go_quiet (fail)
    have HE2 := Lib.hid (show ((((w.alloc (.cells #[.int .i64 t, .int .i64 want] 68)).alloc (.cells #[.int .i64 0, .int .i64 0, .bool false, .int .i64 0] 65))).drewN nq).heap[w.heap.size + 1]? = some (.cells #[.int .i64 0, .int .i64 0, .bool false, .int .i64 0] 65) from HE.out)
    have HB2 := Lib.hid (below_drewN HB.out nq)
    generalize ((w.alloc (.cells #[.int .i64 t, .int .i64 want] 68)).alloc (.cells #[.int .i64 0, .int .i64 0, .bool false, .int .i64 0] 65)).drewN nq = W2 at *
    have d0 := blk_cell HE2.out 0 (by simp)
    have d1 := blk_cell HE2.out 1 (by simp)
    have d2 := blk_cell HE2.out 2 (by simp)
    have d3 := blk_cell HE2.out 3 (by simp)
    simp only [List.getElem_toArray, List.getElem_cons_zero, List.getElem_cons_succ] at d0 d1 d2 d3
    have f0 := blk_free HE2.out 0
    have f1 := blk_free HE2.out 1
    have f2 := blk_free HE2.out 2
    have f3 := blk_free HE2.out 3
    have k0 := blk_set HE2.out 0 (.int .i64 (0))
    have k1 := blk_set k0 1 (.int .i64 (0))
    have k2 := blk_set k1 2 (.bool false)
    have k3 := blk_set k2 3 (.int .i64 (0))
    have g0 := blk_cell k0 0 (by simp)
    have g1 := blk_cell k1 1 (by simp)
    have g2 := blk_cell k2 2 (by simp)
    have g3 := blk_cell k3 3 (by simp)
    simp at g0 g1 g2 g3
    clear k0 k1 k2 k3
    go_wp2_with fail
    refine bodyPost_ret (v := gev (0) (0) (0)) ?_ rfl ⟨rfl, ?_⟩
    · simp [gev, results, Tryz.results32, go_sem, g0, g1, g2, g3]
    · exact ((((HB2.out.setCell (Nat.le_succ _) _).setCell (Nat.le_succ _) _).setCell (Nat.le_succ _) _).setCell (Nat.le_succ _) _)
  · have h1 : (0 : Int) ≤ t := by omega
    have h2 : decide (t < 0) = false := decide_eq_false h0
    go_enter Tryz.func32, Tryz.ntmps32
    go_wp2_with fail
    go_quiet ((go_at_call 38; exact Calls.quiet_of_same (HT.out _)))
    have HE2 := Lib.hid (show ((((w.alloc (.cells #[.int .i64 t, .int .i64 want] 68)).alloc (.cells #[.int .i64 0, .int .i64 0, .bool false, .int .i64 0] 65))).drewN nq).heap[w.heap.size + 1]? = some (.cells #[.int .i64 0, .int .i64 0, .bool false, .int .i64 0] 65) from HE.out)
    have HB2 := Lib.hid (below_drewN HB.out nq)
    generalize ((w.alloc (.cells #[.int .i64 t, .int .i64 want] 68)).alloc (.cells #[.int .i64 0, .int .i64 0, .bool false, .int .i64 0] 65)).drewN nq = W2 at *
    have d0 := blk_cell HE2.out 0 (by simp)
    have d1 := blk_cell HE2.out 1 (by simp)
    have d2 := blk_cell HE2.out 2 (by simp)
    have d3 := blk_cell HE2.out 3 (by simp)
    simp only [List.getElem_toArray, List.getElem_cons_zero, List.getElem_cons_succ] at d0 d1 d2 d3
    have f0 := blk_free HE2.out 0
    have f1 := blk_free HE2.out 1
    have f2 := blk_free HE2.out 2
    have f3 := blk_free HE2.out 3
    have k0 := blk_set HE2.out 0 (.int .i64 (0))
    have k1 := blk_set k0 1 (.int .i64 (0))
    have k2 := blk_set k1 2 (.bool false)
    have k3 := blk_set k2 3 (.int .i64 (0))
    have g0 := blk_cell k0 0 (by simp)
    have g1 := blk_cell k1 1 (by simp)
    have g2 := blk_cell k2 2 (by simp)
    have g3 := blk_cell k3 3 (by simp)
    simp at g0 g1 g2 g3
    clear k0 k1 k2 k3
    go_wp2_with fail
    refine bodyPost_ret (v := gev (0) (0) (0)) ?_ rfl ⟨rfl, ?_⟩
    · simp [gev, results, Tryz.results32, go_sem, g0, g1, g2, g3]
    · exact ((((HB2.out.setCell (Nat.le_succ _) _).setCell (Nat.le_succ _) _).setCell (Nat.le_succ _) _).setCell (Nat.le_succ _) _)
end
theorem gi_none (q : Option Addr) (L : Nat) (hq : ∀ g, q = some ⟨g, 0, none⟩ → g < L) :
    GI (.pointer q) Unit (fun _ W _ => NoG W q ∧ L ≤ W.heap.size) (fun _ _ => 0) (fun _ _ _ => ((0, 0, 0), ())) [] L := by
  refine ⟨by simp, fun k W W' x h hb => ?_, fun k W x t h => ?_, fun k W x t wn hk h => ?_⟩
  · refine ⟨?_, Nat.le_trans h.2 hb.size⟩
    rcases h.1 with h | ⟨g, h1, h2⟩
    · exact .inl h
    · exact .inr ⟨g, h1, (hb.block g (hq g h1)).trans h2⟩
  · exact (nstate q W h.1 t).mono fun e w' ⟨e1, e2⟩ => ⟨e1, by subst e2; exact Below.refl _ _⟩
  · exact (ndo q W h.1 t wn).mono fun e w' ⟨e1, e2⟩ => ⟨e1, ⟨h.1.same e2, Nat.le_trans h.2 e2.size⟩, Mod.of_below e2⟩
end Go.Proofs.YthffhhgaeolpgaaGreat.Ga

/- A run of threads by their plans, over a lock that keeps order: how each pick turns it: the plain law. -/
namespace Go.Proofs.YthffhhgaeolpgaaGreat.Sn
open Go.RowKit Go.Proofs.YthffhhgaeolpgaaGreat.Ara Go.Proofs.YthffhhgaeolpgaaGreat.Lok Go.Proofs.YthffhhgaeolpgaaGreat.Fl Go.Proofs.YthffhhgaeolpgaaGreat.Ga

abbrev LS := Ar × List Sp
abbrev stF (x : LS) (t : Int) : Int := gst (spOf x.2 t)
abbrev actF (p : PK) (x : LS) (t w : Int) : Ev3 × LS := gact p x.1 x.2 t w
def wOf (ps : List Pl) (r : RunS LS) (v : Int) : Int × Wn := wantS (planOf ps v) (r.m v) (stF r.x v)
def qn (p : PK) (ps : List Pl) (r : RunS LS) (q : List Int) (v : Int) : List Int :=
  if (wOf ps r v).1 = 0 ∧ (stF r.x v = 1 ∨ stF r.x v = 3) then
    (if (spOf r.x.2 v).pc = dr p then q ++ [v] else if 10 < (spOf r.x.2 v).pc ∧ (doK p r.x.1 r.x.2 0 v).1 = true then q.tail else q)
  else q
def hp (r : RunS LS) (u : Int) : Int := if (r.m u).ws = 2 then (r.m u).pk else 0
structure Rn (p : PK) (ps : List Pl) (N S n : Nat) (r : RunS LS) (q : List Int) : Prop where
  ok : OkK p r.x.1 r.x.2 N n
  qu : QuK p r.x.1 r.x.2 q
  hold : ∀ u, (spOf r.x.2 u).pc = 10 → 0 ≤ hp r u ∧ hp r u ≤ (planOf ps u).stay
  pk0 : ∀ u, 0 ≤ (r.m u).pk
theorem st_out {x : LS} {v : Int} (h : v < 0 ∨ (x.2.length : Int) ≤ v) : stF x v = 0 := by
  show gst (spOf x.2 v) = 0
  rw [spOf_out h]
  rfl
theorem gst_1i {s : Sp} : gst s = 1 ↔ 0 < s.pc ∧ s.pc < 10 ∨ s.pc < 0 := by
  unfold gst
  constructor
  · intro h
    split at h
    · omega
    · split at h
      · omega
      · split at h <;> omega
  · intro h
    rw [if_neg (by omega), if_pos (by omega)]
theorem gst_2i {s : Sp} : gst s = 2 ↔ s.pc = 10 := by
  unfold gst
  constructor
  · intro h
    split at h
    · omega
    · split at h
      · omega
      · split at h
        · assumption
        · omega
  · intro h; rw [if_neg (by omega), if_neg (by omega), if_pos h]
theorem gst_3i {s : Sp} : gst s = 3 ↔ 10 < s.pc := by
  unfold gst
  constructor
  · intro h
    split at h
    · omega
    · split at h
      · omega
      · split at h <;> omega
  · intro h; rw [if_neg (by omega), if_neg (by omega), if_neg (by omega)]
theorem gst_0i {s : Sp} : gst s = 0 ↔ s.pc = 0 := by
  unfold gst
  constructor
  · intro h
    split at h
    · assumption
    · split at h
      · omega
      · split at h <;> omega
  · intro h; rw [if_pos h]
theorem wants_cases (pl : Pl) (x : Wn) (st : Int) : ((wantS pl x st).1 = 0 ∨ ((wantS pl x st).1 = 1 ∧ st = 0) ∨ ((wantS pl x st).1 = 2 ∧ st = 2 ∧ pl.stay < (if st = x.ws then x.pk else 0) + 1)) ∧
    (wantS pl x st).2.ws = st ∧ (wantS pl x st).2.pk = (if st = x.ws then x.pk else 0) + 1 ∧ (st = 2 → (wantS pl x st).1 = 0 → (if st = x.ws then x.pk else 0) + 1 ≤ pl.stay) := by
  unfold wantS wantT
  by_cases h1 : st = 0 ∧ x.as_ < pl.times ∧ pl.rest < (if st = x.ws then x.pk else 0) + 1
  · rw [if_pos h1]
    exact ⟨.inr (.inl ⟨rfl, h1.1⟩), rfl, rfl, fun h => by omega⟩
  · rw [if_neg h1]
    by_cases h2 : st = 2 ∧ pl.stay < (if st = x.ws then x.pk else 0) + 1
    · rw [if_pos h2]
      exact ⟨.inr (.inr ⟨rfl, h2.1, h2.2⟩), rfl, rfl, fun _ e => by simp at e⟩
    · rw [if_neg h2]
      refine ⟨.inl rfl, rfl, rfl, fun e _ => ?_⟩
      have : ¬ pl.stay < (if st = x.ws then x.pk else 0) + 1 := fun h => h2 ⟨e, h⟩
      omega
section
variable {p : PK} {σ : Ar} {sp : List Sp} {v : Int}
theorem ga_stay (h : gst (spOf sp v) = 0 ∨ gst (spOf sp v) = 2) : (gact p σ sp v 0).2 = (σ, sp) ∧ (gact p σ sp v 0).1.1 = 0 := by
  unfold gact
  split
  · exact ⟨rfl, rfl⟩
  · rw [if_pos rfl, if_neg (by omega)]; exact ⟨rfl, rfl⟩
theorem ga_step (h : gst (spOf sp v) = 1 ∨ gst (spOf sp v) = 3) : gact p σ sp v 0 = (if (doK p σ sp 0 v).1 then (if gst (spOf sp v) = 1 then (2, v, 1) else (4, v, 0)) else (0, v, 0), (doK p σ sp 0 v).2) := by
  have hr : ¬ (v < 0 ∨ (sp.length : Int) ≤ v) := fun hh => by rw [spOf_out hh] at h; rcases h with h | h <;> cases h
  unfold gact
  rw [if_neg hr, if_pos rfl, if_pos h]
theorem ga_ask : (gact p σ sp v 1).2 = (doK p σ sp 1 v).2 ∨ ((gact p σ sp v 1).2 = (σ, sp) ∧ (v < 0 ∨ (sp.length : Int) ≤ v)) := by
  unfold gact
  split
  · rename_i h; exact .inr ⟨rfl, h⟩
  · rw [if_neg (by omega), if_pos rfl]; exact .inl rfl
theorem ga_leave (h : gst (spOf sp v) = 2) : (gact p σ sp v 2).2 = (doK p σ sp 2 v).2 := by
  have hr : ¬ (v < 0 ∨ (sp.length : Int) ≤ v) := fun hh => by rw [spOf_out hh] at h; cases h
  unfold gact
  rw [if_neg hr, if_neg (by omega), if_neg (by omega), if_pos rfl]
theorem do_leave (h : (spOf sp v).pc = 10) : (spOf (doK p σ sp 2 v).2.2 v).pc = 11 := by
  obtain ⟨i0, i1⟩ := spOf_range (sp := sp) (i := v) (by omega)
  have ht : turnB sp v 10 = true := by
    obtain ⟨k, rfl⟩ := Int.eq_ofNat_of_zero_le i0
    rw [spOf_in (by omega)] at h
    rw [turn_in (by omega), h]
    rfl
  have e : (doK p σ sp 2 v).2.2 = turnS sp v 10 11 := by cases p <;> rfl
  rw [e, spOf_turnS, if_pos ⟨ht, rfl⟩]
theorem do_ask (hp : ∀ P, p ≠ .tas P) : (doK p σ sp 1 v).2.2 = turnS sp v 0 1 ∧ (doK p σ sp 1 v).2.1 = σ := by
  cases p with
  | tas P => exact absurd rfl (hp P)
  | _ => exact ⟨rfl, rfl⟩
end
end Go.Proofs.YthffhhgaeolpgaaGreat.Sn

/- A pick of a thread that runs by its plan, over a lock that keeps order: what it turns, case by case: the plain law. -/
namespace Go.Proofs.YthffhhgaeolpgaaGreat.Sn
open Go.RowKit Go.Proofs.YthffhhgaeolpgaaGreat.Ara Go.Proofs.YthffhhgaeolpgaaGreat.Lok Go.Proofs.YthffhhgaeolpgaaGreat.Fl Go.Proofs.YthffhhgaeolpgaaGreat.Ga

abbrev pcO (r : RunS LS) (u : Int) : Int := (spOf r.x.2 u).pc
abbrev rn (p : PK) (ps : List Pl) (r : RunS LS) (v : Int) : RunS LS := runStep stF (actF p) ps r v
abbrev evO (p : PK) (ps : List Pl) (r : RunS LS) (v : Int) : Ev3 := (actF p r.x v (wOf ps r v).1).1
inductive Mv (p : PK) (ps : List Pl) (r r' : RunS LS) (q q' : List Int) (v : Int) (e : Ev3) : Prop where
  | idle (h : pcO r v = 0) (h' : pcO r' v = 0) (hq : q' = q) (he : e.1 = 0)
  | ask (h : pcO r v = 0) (h' : pcO r' v = 1) (hq : q' = q) (he : e = (1, v, 0))
  | walk (h : 0 < pcO r v) (hd : pcO r v < dr p) (h' : pcO r' v = pcO r v + 1) (hq : q' = q) (he : e.1 = 0)
  | door (h : 0 < pcO r v) (hd : pcO r v = dr p) (h' : dr p < pcO r' v ∧ pcO r' v < 10) (hq : q' = q ++ [v]) (he : e.1 = 0)
  | door1 (h : 0 < pcO r v) (hd : pcO r v = dr p) (h' : pcO r' v = 10) (hh : hp r' v = 0) (hq : q = [] ∧ q' = [v]) (he : e = (2, v, 1))
  | enter (h : dr p < pcO r v) (hd : pcO r v < 10) (hf : q.head? = some v) (h' : pcO r' v = 10) (hh : hp r' v = 0) (hq : q' = q) (he : e = (2, v, 1))
  | spin (h : dr p < pcO r v) (hd : pcO r v < 10) (hf : q.head? ≠ some v) (h' : (pcO r' v = pcO r v ∧ ¬ (dr p = 3 ∧ pcO r v = 4)) ∨ (dr p = 3 ∧ pcO r v = 4 ∧ pcO r' v = 5)) (hq : q' = q) (he : e.1 = 0)
  | hold (h : pcO r v = 10) (h' : pcO r' v = 10) (hh : hp r' v = hp r v + 1) (hs : hp r v + 1 ≤ (planOf ps v).stay) (hq : q' = q) (he : e.1 = 0)
  | leave (h : pcO r v = 10) (h' : pcO r' v = 11) (hs : (planOf ps v).stay < hp r v + 1) (hq : q' = q) (he : e = (3, v, 0))
  | out (h : 10 < pcO r v) (h' : pcO r' v = 0) (t : List Int) (hq : q = v :: t ∧ q' = t) (he : e = (4, v, 0))
  | going (h : 10 < pcO r v) (hd : dr p = 3) (h' : (pcO r v = 11 ∧ pcO r' v = 12) ∨ (pcO r v = 11 ∧ pcO r' v = 14) ∨ (pcO r v = 12 ∧ pcO r' v = 13) ∨ (pcO r v = 13 ∧ pcO r' v = 14) ∨ (pcO r v = 13 ∧ pcO r' v = 13 ∧ ∃ j t, q = v :: j :: t ∧ pcO r j = 4)) (hq : q' = q) (he : e.1 = 0)
theorem _root_.Go.Proofs.YthffhhgaeolpgaaGreat.Fl.QuK.pos {p : PK} {σ : Ar} {sp : List Sp} {q : List Int} (h : QuK p σ sp q) (hT : ∀ P, p ≠ .tas P) (v : Int) : 0 ≤ (spOf sp v).pc := by
  cases p with
  | tas P => exact absurd rfl (hT P)
  | tic P => have h : Tkq P σ sp q := h; have := h.pcs v; omega
  | par P => have h : Ptq P σ sp q := h; have := h.pcs v; omega
  | mcs P => have := mcpcs h v; omega
  | clh P => obtain ⟨z, h⟩ := h; have := clpcs h v; omega
theorem dr_le (p : PK) : dr p ≤ 3 ∧ 0 ≤ dr p := by cases p <;> simp [dr]
theorem rn_x (p : PK) (ps : List Pl) (r : RunS LS) (v : Int) : (rn p ps r v).x = (actF p r.x v (wOf ps r v).1).2 := rfl
theorem rn_m (p : PK) (ps : List Pl) (r : RunS LS) (v u : Int) : (rn p ps r v).m u = if u = v then (wOf ps r v).2 else r.m u := rfl
theorem hp_other {p : PK} {ps : List Pl} {r : RunS LS} {v u : Int} (h : u ≠ v) : hp (rn p ps r v) u = hp r u := by
  unfold hp
  rw [rn_m, if_neg h]
theorem hp_self {p : PK} {ps : List Pl} {r : RunS LS} {v : Int} : hp (rn p ps r v) v = if pcO r v = 10 then hp r v + 1 else 0 := by
  obtain ⟨_, h2, h3, _⟩ := wants_cases (planOf ps v) (r.m v) (stF r.x v)
  unfold hp
  rw [rn_m, if_pos rfl]
  have e2 : (wOf ps r v).2.ws = stF r.x v := h2
  have e3 : (wOf ps r v).2.pk = (if stF r.x v = (r.m v).ws then (r.m v).pk else 0) + 1 := h3
  rw [e2, e3]
  by_cases h : pcO r v = 10
  · have hs : stF r.x v = 2 := gst_2i.2 h
    rw [if_pos hs, if_pos h, hs]
    by_cases hw : (r.m v).ws = 2
    · rw [if_pos hw.symm, if_pos hw]
    · rw [if_neg (fun e => hw e.symm), if_neg hw]
  · have hs : ¬ stF r.x v = 2 := fun e => h (gst_2i.1 e)
    rw [if_neg hs, if_neg h]
theorem rn_other {p : PK} {ps : List Pl} {r : RunS LS} {v u : Int} (hu : u ≠ v) : spOf (rn p ps r v).x.2 u = spOf r.x.2 u := by
  rw [rn_x]
  show spOf (gact p r.x.1 r.x.2 v _).2.2 u = _
  unfold gact
  repeat' (first | rfl | exact do_other _ _ _ _ _ _ hu | split)
theorem hps {r : RunS LS} (v : Int) (h : pcO r v = 10) : stF r.x v = 2 ∧ (if stF r.x v = (r.m v).ws then (r.m v).pk else 0) = hp r v := by
  have hs : stF r.x v = 2 := gst_2i.2 h
  refine ⟨hs, ?_⟩
  unfold hp
  rw [hs]
  by_cases hw : (r.m v).ws = 2
  · rw [if_pos hw.symm, if_pos hw]
  · rw [if_neg (fun e => hw e.symm), if_neg hw]
section
variable {p : PK} {ps : List Pl} {N S n : Nat} {r : RunS LS} {q : List Int} (H : Rn p ps N S n r q) (hT : ∀ P, p ≠ .tas P)
include H
include hT
theorem Rn.move (v : Int) : Mv p ps r (rn p ps r v) q (qn p ps r q v) v (evO p ps r v) ∧ QuK p (rn p ps r v).x.1 (rn p ps r v).x.2 (qn p ps r q v) := by
  obtain ⟨hw, -, -, h4⟩ := wants_cases (planOf ps v) (r.m v) (stF r.x v)
  have hpos : 0 ≤ pcO r v := H.qu.pos hT v
  have hx : (rn p ps r v).x = (actF p r.x v (wOf ps r v).1).2 := rfl
  have hwo : wOf ps r v = wantS (planOf ps v) (r.m v) (stF r.x v) := rfl
  have hst : stF r.x v = gst (spOf r.x.2 v) := rfl
  rcases hw with h0 | ⟨h1, hs⟩ | ⟨h1, hs, h3⟩
  · have hw0 : (wOf ps r v).1 = 0 := h0
    by_cases hg : gst (spOf r.x.2 v) = 1 ∨ gst (spOf r.x.2 v) = 3
    · have ha : actF p r.x v (wOf ps r v).1 = _ := (congrArg (actF p r.x v) hw0).trans (ga_step hg)
      have hx2 : (rn p ps r v).x = (doK p r.x.1 r.x.2 0 v).2 := by rw [hx, ha]
      have he2 : evO p ps r v = (if (doK p r.x.1 r.x.2 0 v).1 then (if gst (spOf r.x.2 v) = 1 then (2, v, 1) else (4, v, 0)) else (0, v, 0)) := by show (actF p r.x v (wOf ps r v).1).1 = _; rw [ha]
      have hnx := H.qu.next v
      have hqs := H.qu.step v
      unfold QTurn at hqs
      have hpc : (spOf (doK p r.x.1 r.x.2 0 v).2.2 v).pc = pcO (rn p ps r v) v := by show _ = (spOf (rn p ps r v).x.2 v).pc; rw [hx2]
      have hq : qn p ps r q v = if pcO r v = dr p then q ++ [v] else if 10 < pcO r v ∧ (doK p r.x.1 r.x.2 0 v).1 = true then q.tail else q := by
        unfold qn
        rw [if_pos ⟨hw0, hg⟩]
      have hhs := hp_self (p := p) (ps := ps) (r := r) (v := v)
      rw [hpc] at hnx
      rw [hx2] at *
      generalize hrn : rn p ps r v = r' at *
      generalize hD : doK p r.x.1 r.x.2 0 v = D at *
      have hpc1 : pcO r v ≠ 0 ∧ pcO r v ≠ 10 := by
        rcases hg with hg | hg
        · have := gst_1i.1 hg; constructor <;> (intro e; have e : (spOf r.x.2 v).pc = _ := e; omega)
        · have := gst_3i.1 hg; constructor <;> (intro e; have e : (spOf r.x.2 v).pc = _ := e; omega)
      rw [if_neg hpc1.2] at hhs
      obtain ⟨-, -, n3, n4, n5, n6⟩ := hnx
      rw [he2, hq]
      rcases hqs with ⟨⟨a1, a2⟩, a3⟩ | ⟨a1, a2, t, a3, a4⟩ | ⟨a1, a2, a3⟩
      · have hg1 : gst (spOf r.x.2 v) = 1 := by rcases hg with hg | hg; exact hg; have := gst_3i.1 hg; have := dr_le p; omega
        rw [if_pos a2, hg1]
        refine ⟨?_, a3⟩
        rcases n4 a1 a2 with ⟨b1, b2, b3, b4⟩ | ⟨b1, b2, b3⟩
        · rw [b3]
          exact .door1 a1 a2 b2 hhs ⟨b1, by rw [b1]; rfl⟩ rfl
        · rw [b3]
          exact .door a1 a2 ⟨b1, b2⟩ rfl rfl
      · have hd : ¬ pcO r v = dr p := fun e => by have := dr_le p; have e : (spOf r.x.2 v).pc = _ := e; omega
        have hg3 : gst (spOf r.x.2 v) = 3 := gst_3i.2 a1
        rw [if_neg hd, if_pos ⟨a1, a2⟩, a2, hg3]
        rw [a3]
        refine ⟨?_, a4⟩
        rcases n6 a1 with ⟨b1, b2⟩ | ⟨b1, _⟩
        · exact .out a1 b2 t ⟨rfl, rfl⟩ rfl
        · rw [a2] at b1; cases b1
      · have hd : ¬ pcO r v = dr p := a1
        rw [if_neg hd, if_neg a2]
        refine ⟨?_, a3⟩
        by_cases c1 : 10 < pcO r v
        · rcases n6 c1 with ⟨b1, b2⟩ | ⟨b1, b2, b3, b4⟩
          · exact absurd ⟨c1, b1⟩ a2
          · rw [b1]
            exact .going c1 b3 b4 rfl rfl
        · have c2 : pcO r v < 10 := by omega
          have hg1 : gst (spOf r.x.2 v) = 1 := by rcases hg with hg | hg; exact hg; have := gst_3i.1 hg; exact absurd this c1
          by_cases c3 : pcO r v < dr p
          · obtain ⟨b1, b2⟩ := n3 (by show 0 < pcO r v; omega) c3
            rw [b2]
            exact .walk (by omega) c3 b1 rfl rfl
          · obtain ⟨b1, b2⟩ := n5 (by show dr p < pcO r v; omega) c2
            by_cases c4 : q.head? = some v
            · obtain ⟨d1, d2⟩ := b1 c4
              rw [d2, hg1]
              exact .enter (by omega) c2 c4 d1 hhs rfl rfl
            · obtain ⟨d1, d2⟩ := b2 c4
              rw [d1]
              exact .spin (by omega) c2 c4 d2 rfl rfl
    · have hg' : gst (spOf r.x.2 v) = 0 ∨ gst (spOf r.x.2 v) = 2 := by rcases gst_in (spOf r.x.2 v) with h | h | h | h <;> omega
      obtain ⟨ha, he⟩ := ga_stay (p := p) (σ := r.x.1) hg'
      have hx2 : (rn p ps r v).x = r.x := by rw [hx, hw0]; exact ha
      have he2 : (evO p ps r v).1 = 0 := by show (actF p r.x v (wOf ps r v).1).1.1 = 0; rw [hw0]; exact he
      have hq : qn p ps r q v = q := by unfold qn; rw [if_neg (fun h => hg h.2)]
      rw [hq, hx2]
      refine ⟨?_, H.qu⟩
      have hpc : pcO (rn p ps r v) v = pcO r v := by show (spOf (rn p ps r v).x.2 v).pc = _; rw [hx2]
      have hhs := hp_self (p := p) (ps := ps) (r := r) (v := v)
      rcases hg' with hg' | hg'
      · have := gst_0i.1 hg'
        exact .idle this (hpc.trans this) rfl he2
      · have h10 : pcO r v = 10 := gst_2i.1 hg'
        rw [if_pos h10] at hhs
        have h5 := h4 hg' h0
        rw [(hps v h10).2] at h5
        exact .hold h10 (hpc.trans h10) hhs h5 rfl he2
  · have hw1 : (wOf ps r v).1 = 1 := h1
    have hz : pcO r v = 0 := gst_0i.1 hs
    have hq : qn p ps r q v = q := by unfold qn; rw [if_neg (fun h => by rw [hw1] at h; exact absurd h.1 (by decide))]
    rw [hq]
    by_cases hr : v < 0 ∨ (r.x.2.length : Int) ≤ v
    · have ha : actF p r.x v (wOf ps r v).1 = ((0, 0, 0), r.x) := by show gact p r.x.1 r.x.2 v _ = _; unfold gact; rw [if_pos hr]
      have hx2 : (rn p ps r v).x = r.x := by rw [hx, ha]
      rw [hx2]
      refine ⟨.idle hz (by show (spOf (rn p ps r v).x.2 v).pc = 0; rw [hx2]; exact hz) rfl (by show (actF p r.x v (wOf ps r v).1).1.1 = 0; rw [ha]), H.qu⟩
    · have ha : actF p r.x v (wOf ps r v).1 = (if (doK p r.x.1 r.x.2 1 v).1 then (1, v, 0) else (5, v, 0), (doK p r.x.1 r.x.2 1 v).2) := by
        show gact p r.x.1 r.x.2 v _ = _
        rw [hw1]
        unfold gact
        rw [if_neg hr, if_neg (by decide), if_pos rfl]
      have hx2 : (rn p ps r v).x = (doK p r.x.1 r.x.2 1 v).2 := by rw [hx, ha]
      obtain ⟨hd1, hd2⟩ := do_ask (p := p) (σ := r.x.1) (sp := r.x.2) (v := v) hT
      have ht : turnB r.x.2 v 0 = true := by
        obtain ⟨k, rfl⟩ := Int.eq_ofNat_of_zero_le (show 0 ≤ v by omega)
        have hz : (spOf r.x.2 (k : Int)).pc = 0 := hz
        rw [spOf_in (by omega)] at hz
        rw [turn_in (by omega), hz]
        rfl
      have hd3 : (doK p r.x.1 r.x.2 1 v).1 = true := by
        cases p with
        | tas P => exact absurd rfl (hT P)
        | _ => exact ht
      have hqa := H.qu.ask v
      have he2 : evO p ps r v = (1, v, 0) := by show (actF p r.x v (wOf ps r v).1).1 = _; rw [ha, hd3]; rfl
      refine ⟨.ask hz ?_ rfl he2, by rw [hx2]; exact hqa⟩
      show (spOf (rn p ps r v).x.2 v).pc = 1
      rw [hx2, hd1, spOf_turnS, if_pos ⟨ht, rfl⟩]
  · have hw1 : (wOf ps r v).1 = 2 := h1
    have hz : pcO r v = 10 := gst_2i.1 hs
    have hq : qn p ps r q v = q := by unfold qn; rw [if_neg (fun h => by rw [hw1] at h; exact absurd h.1 (by decide))]
    rw [hq]
    have hr : ¬ (v < 0 ∨ (r.x.2.length : Int) ≤ v) := fun hh => by have hz : (spOf r.x.2 v).pc = 10 := hz; rw [spOf_out hh] at hz; cases hz
    have ha : actF p r.x v (wOf ps r v).1 = (if (doK p r.x.1 r.x.2 2 v).1 then (3, v, 0) else (5, v, 0), (doK p r.x.1 r.x.2 2 v).2) := by
      show gact p r.x.1 r.x.2 v _ = _
      rw [hw1]
      unfold gact
      rw [if_neg hr, if_neg (by decide), if_neg (by decide), if_pos rfl]
    have hx2 : (rn p ps r v).x = (doK p r.x.1 r.x.2 2 v).2 := by rw [hx, ha]
    have hd3 : (doK p r.x.1 r.x.2 2 v).1 = true := by
      have ht : turnB r.x.2 v 10 = true := by
        obtain ⟨k, rfl⟩ := Int.eq_ofNat_of_zero_le (show 0 ≤ v by omega)
        have hz : (spOf r.x.2 (k : Int)).pc = 10 := hz
        rw [spOf_in (by omega)] at hz
        rw [turn_in (by omega), hz]
        rfl
      cases p with
      | tas P => exact absurd rfl (hT P)
      | _ => exact ht
    have h11 := do_leave (p := p) (σ := r.x.1) hz
    have hqa := H.qu.leave v
    have he2 : evO p ps r v = (3, v, 0) := by show (actF p r.x v (wOf ps r v).1).1 = _; rw [ha, hd3]; rfl
    rw [(hps v hz).2] at h3
    refine ⟨.leave hz ?_ h3 rfl he2, by rw [hx2]; exact hqa⟩
    show (spOf (rn p ps r v).x.2 v).pc = 11
    rw [hx2, h11]
theorem Rn.next (hS : ∀ u : Int, 0 ≤ u → u < N → 0 ≤ (planOf ps u).stay) (v : Int) : Rn p ps N S (n + 1) (rn p ps r v) (qn p ps r q v) := by
  obtain ⟨hm, hq⟩ := H.move hT v
  have hpk : ∀ u, 0 ≤ ((rn p ps r v).m u).pk := by
    intro u
    rw [rn_m]
    split
    · obtain ⟨_, _, h3, _⟩ := wants_cases (planOf ps v) (r.m v) (stF r.x v)
      have h3 : (wOf ps r v).2.pk = _ := h3
      have := H.pk0 v
      rw [h3]
      split <;> omega
    · exact H.pk0 u
  refine ⟨ok_gact H.ok v _, hq, fun u hu => ?_, hpk⟩
  by_cases e : u = v
  · subst e
    have hu : pcO (rn p ps r u) u = 10 := hu
    have hin := spOf_range (sp := (rn p ps r u).x.2) (i := u) (by show pcO (rn p ps r u) u ≠ 0; rw [hu]; decide)
    have hl : (rn p ps r u).x.2.length = N := (ok_gact H.ok u _).len
    have hs0 := hS u hin.1 (by omega)
    cases hm with
    | idle h h' => rw [hu] at h'; cases h'
    | ask h h' => rw [hu] at h'; cases h'
    | walk h hd h' => have := dr_le p; omega
    | door h hd h' => omega
    | door1 h hd h' hh => rw [hh]; omega
    | enter h hd hf h' hh => rw [hh]; omega
    | spin h hd hf h' => omega
    | hold h h' hh hs => have := (H.hold u h).1; rw [hh]; omega
    | leave h h' => rw [hu] at h'; cases h'
    | out h h' => rw [hu] at h'; cases h'
    | going h hd h' => omega
  · rw [hp_other e]
    rw [rn_other e] at hu
    exact H.hold u hu
end
end Go.Proofs.YthffhhgaeolpgaaGreat.Sn

/- What is left to do ahead of one that waits: a pick makes it less, or leaves it and is none of the one that counts: the plain law. -/
namespace Go.Proofs.YthffhhgaeolpgaaGreat.Sn
open Go.RowKit Go.Proofs.YthffhhgaeolpgaaGreat.Ara Go.Proofs.YthffhhgaeolpgaaGreat.Lok Go.Proofs.YthffhhgaeolpgaaGreat.Fl Go.Proofs.YthffhhgaeolpgaaGreat.Ga

def ow (p : PK) : Nat := if dr p = 3 then 4 else 1
def tp (p : PK) (S : Nat) : Nat := if dr p = 3 then S + 7 else S + 3
def cst (p : PK) (ps : List Pl) (S : Nat) (r : RunS LS) (u : Int) : Nat :=
  if pcO r u = 10 then ((planOf ps u).stay + 1 - hp r u).toNat + ow p
  else if 10 < pcO r u then (if dr p = 3 then (15 - pcO r u).toNat else 1)
  else if dr p = 3 then (if pcO r u = 4 then S + 7 else S + 6) else S + 3
def own (p : PK) (pc : Int) : Nat := if dr p = 3 ∧ pc = 4 then 2 else 1
def Dn (p : PK) (ps : List Pl) (N S : Nat) (r : RunS LS) (q : List Int) (t : Int) : Nat :=
  if pcO r t ≤ dr p then (dr p + 1 - pcO r t).toNat + (N - 1) * tp p S + (if dr p = 3 then 2 else 1) else ahead (cst p ps S r) q t + own p (pcO r t)
def crt (p : PK) (r : RunS LS) (q : List Int) (t : Int) : Int :=
  if pcO r t ≤ dr p then t else match q with
    | [] => t
    | [u] => u
    | u :: j :: _ => if dr p = 3 ∧ pcO r u = 13 ∧ pcO r j = 4 then j else u
def Wtn (N : Nat) (r : RunS LS) (t : Int) : Prop := 0 < pcO r t ∧ pcO r t < 10 ∧ 0 ≤ t ∧ t < N
theorem ahead_out {c : Int → Nat} {q : List Int} {t : Int} (ht : t ∉ q) (C : Nat) (h : ∀ u, u ∈ q → c u ≤ C) : ahead c (q ++ [t]) t ≤ q.length * C := by
  induction q with
  | nil => show (if t = t then 0 else _) ≤ _; rw [if_pos rfl]; exact Nat.zero_le _
  | cons u r ih =>
    show (if u = t then 0 else c u + ahead c (r ++ [t]) t) ≤ _
    have h1 := h u (by simp)
    have h2 := ih (fun h => ht (by simp [h])) (fun v hv => h v (by simp [hv]))
    rw [List.length_cons, Nat.add_mul]
    split <;> omega
section
variable {p : PK} {ps : List Pl} {N S n : Nat} {r : RunS LS} {q : List Int} (H : Rn p ps N S n r q) (hT : ∀ P, p ≠ .tas P) (hS : ∀ u : Int, 0 ≤ u → u < N → 0 ≤ (planOf ps u).stay ∧ (planOf ps u).stay ≤ S)
include H
theorem Rn.rng {u : Int} (h : 0 < pcO r u) : 0 ≤ u ∧ u < N := by
  have h1 := spOf_range (sp := r.x.2) (i := u) (by show pcO r u ≠ 0; omega)
  have h2 : r.x.2.length = N := H.ok.len
  omega
theorem Rn.inq {u : Int} (h : u ∈ q) : dr p < pcO r u := (H.qu.mem u).1 h
theorem Rn.qrng {u : Int} (h : u ∈ q) : 0 ≤ u ∧ u < N := H.rng (by have := H.inq h; have := dr_le p; omega)
include hS
theorem Rn.cst_le {u : Int} (h : u ∈ q) : cst p ps S r u ≤ tp p S := by
  have hr := H.qrng h
  have hs := hS u hr.1 hr.2
  unfold cst tp ow
  by_cases h10 : pcO r u = 10
  · have hh := H.hold u h10
    rw [if_pos h10]
    split <;> omega
  · rw [if_neg h10]
    by_cases h11 : 10 < pcO r u
    · rw [if_pos h11]; split <;> omega
    · rw [if_neg h11]; split
      · split <;> omega
      · omega
theorem Rn.cst_pos {u : Int} (h : u ∈ q) (h14 : pcO r u ≤ 14) : 0 < cst p ps S r u := by
  have hr := H.qrng h
  have hs := hS u hr.1 hr.2
  unfold cst ow
  by_cases h10 : pcO r u = 10
  · rw [if_pos h10]; split <;> omega
  · rw [if_neg h10]
    by_cases h11 : 10 < pcO r u
    · rw [if_pos h11]; split <;> omega
    · rw [if_neg h11]; split
      · split <;> omega
      · omega
end
theorem cst_other {p : PK} {ps : List Pl} {S : Nat} {r : RunS LS} {v u : Int} (h : u ≠ v) : cst p ps S (rn p ps r v) u = cst p ps S r u := by
  unfold cst
  rw [hp_other h, show pcO (rn p ps r v) u = pcO r u from congrArg Sp.pc (rn_other h)]
section
variable {p : PK} {ps : List Pl} {N S n : Nat} {r : RunS LS} {q : List Int} (H : Rn p ps N S n r q) (hS : ∀ u : Int, 0 ≤ u → u < N → 0 ≤ (planOf ps u).stay ∧ (planOf ps u).stay ≤ S)
include H hS
theorem Rn.cst_step {v : Int} (hv : v ∈ q) {q' : List Int} {e : Ev3} (hm : Mv p ps r (rn p ps r v) q q' v e) (ho : pcO (rn p ps r v) v ≠ 0) :
    q' = q ∧ cst p ps S (rn p ps r v) v ≤ cst p ps S r v ∧ ((q.head? = some v ∧ ¬ (dr p = 3 ∧ pcO r v = 13 ∧ ∃ j t, q = v :: j :: t ∧ pcO r j = 4)) ∨ (dr p = 3 ∧ pcO r v = 4) → cst p ps S (rn p ps r v) v < cst p ps S r v) := by
  have hin := H.inq hv
  have hr := H.qrng hv
  have hs := hS v hr.1 hr.2
  have hd := dr_le p
  unfold cst ow
  cases hm with
  | idle h h' => omega
  | ask h h' => omega
  | walk h hd h' => omega
  | door h hd h' => omega
  | door1 h hd h' => omega
  | enter h hd1 hf h' hh hq =>
    rw [hh]
    refine ⟨hq, ?_, fun _ => ?_⟩
    all_goals (repeat' split) <;> omega
  | spin h hd1 hf h' hq =>
    refine ⟨hq, ?_, fun hc => ?_⟩
    · (repeat' split) <;> omega
    · rcases hc with ⟨hc, _⟩ | hc
      · exact absurd hc hf
      · (repeat' split) <;> omega
  | hold h h' hh hst hq =>
    have hl := H.hold v h
    rw [hh]
    refine ⟨hq, ?_, fun _ => ?_⟩
    all_goals (repeat' split) <;> omega
  | leave h h' hst hq =>
    have hl := H.hold v h
    refine ⟨hq, ?_, fun _ => ?_⟩
    all_goals (repeat' split) <;> omega
  | out h h' => exact absurd h' ho
  | going h hd1 h' hq =>
    refine ⟨hq, ?_, fun hc => ?_⟩
    · rcases h' with h' | h' | h' | h' | h' <;> ((repeat' split) <;> omega)
    · rcases h' with h' | h' | h' | h' | h'
      · (repeat' split) <;> omega
      · (repeat' split) <;> omega
      · (repeat' split) <;> omega
      · (repeat' split) <;> omega
      · rcases hc with ⟨_, hc⟩ | hc
        · exact absurd ⟨hd1, h'.1, h'.2.2⟩ hc
        · omega
end
end Go.Proofs.YthffhhgaeolpgaaGreat.Sn

/- How a pick turns what is left to do till one that waits enters: the plain law. -/
namespace Go.Proofs.YthffhhgaeolpgaaGreat.Sn
open Go.RowKit Go.Proofs.YthffhhgaeolpgaaGreat.Ara Go.Proofs.YthffhhgaeolpgaaGreat.Lok Go.Proofs.YthffhhgaeolpgaaGreat.Fl Go.Proofs.YthffhhgaeolpgaaGreat.Ga

theorem _root_.Go.Proofs.YthffhhgaeolpgaaGreat.Fl.QuK.top {p : PK} {σ : Ar} {sp : List Sp} {q : List Int} (h : QuK p σ sp q) (v : Int) : (spOf sp v).pc ≤ 14 := by
  cases p with
  | tas P => exact absurd h id
  | tic P => have h : Tkq P σ sp q := h; have := h.pcs v; omega
  | par P => have h : Ptq P σ sp q := h; have := h.pcs v; omega
  | mcs P => have := mcpcs h v; omega
  | clh P => obtain ⟨z, h⟩ := h; have := clpcs h v; omega
theorem own_le (p : PK) (pc : Int) : 1 ≤ own p pc ∧ own p pc ≤ (if dr p = 3 then 2 else 1) := by
  unfold own
  by_cases h : dr p = 3
  · rw [if_pos h]; split <;> omega
  · rw [if_neg h, if_neg (fun e => h e.1)]; omega
theorem dn_pos {p : PK} {ps : List Pl} {N S : Nat} {r : RunS LS} {q : List Int} {t : Int} : 0 < Dn p ps N S r q t := by
  unfold Dn
  have := own_le p (pcO r t)
  split <;> omega
theorem crt_q {p : PK} {r r' : RunS LS} {q : List Int} {t : Int} (h : ∀ u, u ∈ q → pcO r' u = pcO r u) (ht : pcO r' t = pcO r t) : crt p r' q t = crt p r q t := by
  unfold crt
  rw [ht]
  split
  · rfl
  · split
    · rfl
    · rfl
    · rw [h _ (by simp), h _ (by simp)]
theorem crt_mem {p : PK} {r : RunS LS} {q : List Int} {t : Int} (h : t ∈ q) (hd : ¬ pcO r t ≤ dr p) : crt p r q t ∈ q := by
  unfold crt
  rw [if_neg hd]
  split
  · simp at h
  · simp
  · split <;> simp
section
variable {p : PK} {ps : List Pl} {N S n : Nat} {r : RunS LS} {q : List Int} (H : Rn p ps N S n r q)
include H
theorem Rn.crt_in {t : Int} (hw : Wtn N r t) : 0 ≤ crt p r q t ∧ crt p r q t < N := by
  by_cases hd : pcO r t ≤ dr p
  · unfold crt; rw [if_pos hd]; exact hw.2.2
  · exact H.qrng (crt_mem ((H.qu.mem t).2 (by show dr p < pcO r t; omega)) hd)
end
def Res (p : PK) (ps : List Pl) (N S : Nat) (r : RunS LS) (q : List Int) (t v : Int) (r' : RunS LS) (q' : List Int) (e : Ev3) : Prop :=
  e = (2, t, 1) ∨ (Wtn N r' t ∧ Dn p ps N S r' q' t ≤ Dn p ps N S r q t ∧ (Dn p ps N S r' q' t < Dn p ps N S r q t ∨ (crt p r' q' t = crt p r q t ∧ v ≠ crt p r q t)))
section
variable {p : PK} {ps : List Pl} {N S n : Nat} {r : RunS LS} {q : List Int} (H : Rn p ps N S n r q) (hS : ∀ u : Int, 0 ≤ u → u < N → 0 ≤ (planOf ps u).stay ∧ (planOf ps u).stay ≤ S)
include H hS
theorem Rn.turn_self {t : Int} {q' : List Int} {e : Ev3} (hw : Wtn N r t) (hm : Mv p ps r (rn p ps r t) q q' t e) (hnd : q'.Nodup) : Res p ps N S r q t t (rn p ps r t) q' e := by
  obtain ⟨w1, w2, w3⟩ := hw
  have hd := dr_le p
  unfold Res
  cases hm with
  | idle h h' => omega
  | ask h h' => omega
  | walk h hd h' hq =>
    right
    refine ⟨⟨by omega, by omega, w3⟩, ?_⟩
    unfold Dn
    rw [if_pos (show pcO (rn p ps r t) t ≤ dr p by omega), if_pos (show pcO r t ≤ dr p by omega)]
    refine ⟨by omega, .inl (by omega)⟩
  | door h hd h' hq =>
    right
    subst hq
    have hno : t ∉ q := fun hm => by have := H.inq hm; omega
    have hlen : (q ++ [t]).length ≤ N := nodup_len hnd (fun u hu => by
      rcases List.mem_append.1 hu with hu | hu
      · exact H.qrng hu
      · rw [List.mem_singleton.1 hu]; exact w3)
    rw [List.length_append, List.length_singleton] at hlen
    have ha := ahead_out (c := cst p ps S (rn p ps r t)) hno (tp p S) (fun u hu => by rw [cst_other (v := t) (u := u) (fun e : u = t => hno (e ▸ hu))]; exact H.cst_le hS hu)
    have hmul : q.length * tp p S ≤ (N - 1) * tp p S := Nat.mul_le_mul_right _ (by omega)
    have ho := own_le p (pcO (rn p ps r t) t)
    refine ⟨⟨by omega, by omega, w3⟩, ?_⟩
    unfold Dn
    rw [if_neg (show ¬ pcO (rn p ps r t) t ≤ dr p by omega), if_pos (show pcO r t ≤ dr p by omega)]
    refine ⟨by omega, .inl (by omega)⟩
  | door1 h hd h' hh hq he => exact .inl he
  | enter h hd1 hf h' hh hq he => exact .inl he
  | spin h hd1 hf h' hq =>
    right
    subst hq
    have hpo : ∀ u, u ≠ t → pcO (rn p ps r t) u = pcO r u := fun u hu => congrArg Sp.pc (rn_other hu)
    refine ⟨⟨by omega, by omega, w3⟩, ?_⟩
    unfold Dn
    rw [if_neg (show ¬ pcO (rn p ps r t) t ≤ dr p by omega), if_neg (show ¬ pcO r t ≤ dr p by omega), ahead_eq (c := cst p ps S r) (c' := cst p ps S (rn p ps r t)) (fun u _ hu => cst_other hu)]
    rcases h' with ⟨h1, h2⟩ | ⟨h1, h2, h3⟩
    · rw [h1]
      refine ⟨Nat.le_refl _, .inr ⟨crt_q (fun u _ => ?_) h1, fun he => ?_⟩⟩
      · by_cases e : u = t
        · rw [e, h1]
        · exact hpo u e
      · have hin : t ∈ q' := (H.qu.mem t).2 h
        unfold crt at he
        rw [if_neg (show ¬ pcO r t ≤ dr p by omega)] at he
        cases q' with
        | nil => simp at hin
        | cons u l =>
          have hut : u ≠ t := fun e => hf (by rw [e]; rfl)
          cases l with
          | nil => exact hut he.symm
          | cons j l =>
            simp only at he
            split at he
            · rename_i hc
              rw [← he] at hc
              exact h2 ⟨hc.1, hc.2.2⟩
            · exact hut he.symm
    · have e1 : own p (pcO r t) = 2 := by unfold own; rw [if_pos ⟨h1, h2⟩]
      have e2 : own p (pcO (rn p ps r t) t) = 1 := by unfold own; rw [if_neg (by omega)]
      rw [e1, e2]
      exact ⟨by omega, .inl (by omega)⟩
  | hold h => omega
  | leave h => omega
  | out h => omega
  | going h => omega
omit hS in
theorem Rn.turn_far {t v : Int} {q' : List Int} {e : Ev3} (hw : Wtn N r t) (hvt : v ≠ t) (hv : v ∉ q) (hin : t ∈ q) (hm : Mv p ps r (rn p ps r v) q q' v e) : Res p ps N S r q t v (rn p ps r v) q' e := by
  obtain ⟨w1, w2, w3⟩ := hw
  have hd := dr_le p
  have hpo : ∀ u, u ≠ v → pcO (rn p ps r v) u = pcO r u := fun u hu => congrArg Sp.pc (rn_other hu)
  have hpt := hpo t (Ne.symm hvt)
  have hpq : ∀ u, u ∈ q → pcO (rn p ps r v) u = pcO r u := fun u hu => hpo u (fun e => hv (e ▸ hu))
  have htd := H.inq hin
  have hcv : v ≠ crt p r q t := fun e => hv (e ▸ crt_mem hin (by omega))
  have hsame : Res p ps N S r q t v (rn p ps r v) q e := by
    right
    refine ⟨⟨by omega, by omega, w3⟩, ?_⟩
    unfold Dn
    rw [hpt, if_neg (show ¬ pcO r t ≤ dr p by omega), ahead_eq (c := cst p ps S r) (c' := cst p ps S (rn p ps r v)) (fun u hu _ => cst_other (fun e => hv (e ▸ hu)))]
    rw [if_neg (show ¬ pcO r t ≤ dr p by omega)]
    exact ⟨Nat.le_refl _, .inr ⟨crt_q hpq hpt, hcv⟩⟩
  have hnv : ¬ dr p < pcO r v := fun h => hv ((H.qu.mem v).2 h)
  cases hm with
  | idle h h' hq => rw [hq]; exact hsame
  | ask h h' hq => rw [hq]; exact hsame
  | walk h hd h' hq => rw [hq]; exact hsame
  | door h hd1 h' hq =>
    subst hq
    right
    refine ⟨⟨by omega, by omega, w3⟩, ?_⟩
    unfold Dn
    rw [hpt, if_neg (show ¬ pcO r t ≤ dr p by omega), if_neg (show ¬ pcO r t ≤ dr p by omega), ahead_push hin, ahead_eq (c := cst p ps S r) (c' := cst p ps S (rn p ps r v)) (fun u hu _ => cst_other (fun e => hv (e ▸ hu)))]
    refine ⟨Nat.le_refl _, .inr ⟨?_, hcv⟩⟩
    unfold crt
    rw [hpt, if_neg (show ¬ pcO r t ≤ dr p by omega), if_neg (show ¬ pcO r t ≤ dr p by omega)]
    cases q with
    | nil => simp at hin
    | cons u l =>
      cases l with
      | nil =>
        have : t = u := by simpa using hin
        subst this
        show (if dr p = 3 ∧ pcO (rn p ps r v) t = 13 ∧ pcO (rn p ps r v) v = 4 then v else t) = t
        rw [if_neg (by omega)]
      | cons j l =>
        show (if dr p = 3 ∧ pcO (rn p ps r v) u = 13 ∧ pcO (rn p ps r v) j = 4 then j else u) = _
        rw [hpq u (by simp), hpq j (by simp)]
  | door1 h hd h' hh hq => rw [hq.1] at hin; simp at hin
  | enter h => omega
  | spin h => omega
  | hold h => omega
  | leave h => omega
  | out h => omega
  | going h => omega
theorem Rn.turn_near {t v : Int} {q' : List Int} {e : Ev3} (hw : Wtn N r t) (hvt : v ≠ t) (hv : v ∈ q) (hin : t ∈ q) (hm : Mv p ps r (rn p ps r v) q q' v e) : Res p ps N S r q t v (rn p ps r v) q' e := by
  obtain ⟨w1, w2, w3⟩ := hw
  have hd := dr_le p
  have hpo : ∀ u, u ≠ v → pcO (rn p ps r v) u = pcO r u := fun u hu => congrArg Sp.pc (rn_other hu)
  have hpt := hpo t (Ne.symm hvt)
  have htd := H.inq hin
  have hvd := H.inq hv
  right
  refine ⟨⟨by omega, by omega, w3⟩, ?_⟩
  unfold Dn
  rw [hpt, if_neg (show ¬ pcO r t ≤ dr p by omega), if_neg (show ¬ pcO r t ≤ dr p by omega)]
  by_cases ho : pcO (rn p ps r v) v = 0
  · -- it goes out
    have hout : ∃ l, q = v :: l ∧ q' = l := by
      cases hm with
      | out h h' l hq => exact ⟨l, hq⟩
      | _ => omega
    obtain ⟨l, rfl, rfl⟩ := hout
    have hpos := H.cst_pos hS hv (H.qu.top v)
    have hv' : v ∉ q' := (List.nodup_cons.1 H.qu.nodup).1
    have e1 : ahead (cst p ps S r) (v :: q') t = cst p ps S r v + ahead (cst p ps S r) q' t := by
      show (if v = t then 0 else _) = _
      rw [if_neg hvt]
    rw [e1, ahead_eq (c := cst p ps S r) (c' := cst p ps S (rn p ps r v)) (fun u hu _ => cst_other (fun e => hv' (e ▸ hu)))]
    exact ⟨by omega, .inl (by omega)⟩
  · obtain ⟨rfl, hle, hlt⟩ := H.cst_step hS hv hm ho
    have hcs : ∀ u, u ∈ q' → u ≠ t → cst p ps S (rn p ps r v) u ≤ cst p ps S r u := fun u _ _ => by
      by_cases e : u = v
      · rw [e]; exact hle
      · rw [cst_other e]; exact Nat.le_refl _
    have hal := ahead_le hcs
    refine ⟨by omega, ?_⟩
    have hless : isAhead q' t v → cst p ps S (rn p ps r v) v < cst p ps S r v → ahead (cst p ps S (rn p ps r v)) q' t + own p (pcO r t) < ahead (cst p ps S r) q' t + own p (pcO r t) := fun ha hl => by
      have := ahead_lt hcs ha hl
      omega
    cases q' with
    | nil => simp at hin
    | cons u l =>
      cases l with
      | nil =>
        have h1 : t = u := by simpa using hin
        have h2 : v = u := by simpa using hv
        exact absurd (h2.trans h1.symm) hvt
      | cons j l =>
        have hnd := H.qu.nodup
        have huj : u ≠ j := fun e => by rw [e] at hnd; simp at hnd
        unfold crt
        rw [hpt, if_neg (show ¬ pcO r t ≤ dr p by omega), if_neg (show ¬ pcO r t ≤ dr p by omega)]
        simp only
        by_cases hc : dr p = 3 ∧ pcO r u = 13 ∧ pcO r j = 4
        · rw [if_pos hc]
          have hut : u ≠ t := fun e => by rw [e] at hc; omega
          by_cases hvj : v = j
          · left
            subst hvj
            exact hless ⟨hut, .inr ⟨hvt, .inl rfl⟩⟩ (hlt (.inr ⟨hc.1, hc.2.2⟩))
          · by_cases hvu : v = u
            · subst hvu
              by_cases h13 : pcO (rn p ps r v) v = 13
              · right
                rw [hpo j (Ne.symm hvj), h13, if_pos ⟨hc.1, rfl, hc.2.2⟩]
                exact ⟨rfl, hvj⟩
              · left
                refine hless ⟨hut, .inl rfl⟩ ?_
                cases hm with
                | going h hd1 h' hq =>
                  have h14 : pcO (rn p ps r v) v = 14 := by omega
                  unfold cst
                  (repeat' split) <;> omega
                | out h h' => exact absurd h' ho
                | _ => omega
            · right
              rw [hpo j (Ne.symm hvj), hpo u (Ne.symm hvu), if_pos hc]
              exact ⟨rfl, hvj⟩
        · rw [if_neg hc]
          by_cases hvu : v = u
          · left
            subst hvu
            refine hless ⟨hvt, .inl rfl⟩ (hlt (.inl ⟨rfl, fun hx => ?_⟩))
            obtain ⟨x1, x2, j2, l2, x3, x4⟩ := hx
            injection x3 with _ x3
            injection x3 with x3 _
            exact hc ⟨x1, x2, x3 ▸ x4⟩
          · right
            refine ⟨?_, hvu⟩
            rw [if_neg (fun hx => hc ⟨hx.1, by rw [← hpo u (Ne.symm hvu)]; exact hx.2.1, ?_⟩)]
            have h4 := hx.2.2
            by_cases hvj : v = j
            · subst hvj
              cases hm with
              | spin h hd1 hf h' hq => rcases h' with h' | h' <;> omega
              | idle h => omega
              | ask h => omega
              | walk h hd1 => omega
              | door h hd1 => omega
              | door1 h hd1 => omega
              | enter h hd1 hf h' => omega
              | hold h h' => omega
              | leave h h' => omega
              | out h h' => omega
              | going h hd1 h' => omega
            · rw [← hpo j (Ne.symm hvj)]; exact h4
theorem Rn.turn (hT : ∀ P, p ≠ .tas P) {t : Int} (hw : Wtn N r t) (v : Int) : Res p ps N S r q t v (rn p ps r v) (qn p ps r q v) (evO p ps r v) := by
  obtain ⟨hm, hq⟩ := H.move hT v
  by_cases hvt : v = t
  · subst hvt; exact H.turn_self hS hw hm hq.nodup
  · by_cases hin : t ∈ q
    · by_cases hv : v ∈ q
      · exact H.turn_near hS hw hvt hv hin hm
      · exact H.turn_far hw hvt hv hin hm
    · have hd : pcO r t ≤ dr p := by
        rcases Int.lt_or_le (dr p) (pcO r t) with h | h
        · exact absurd ((H.qu.mem t).2 h) hin
        · exact h
      have hpt : pcO (rn p ps r v) t = pcO r t := congrArg Sp.pc (rn_other (Ne.symm hvt))
      right
      refine ⟨⟨by rw [hpt]; exact hw.1, by rw [hpt]; exact hw.2.1, hw.2.2⟩, ?_⟩
      unfold Dn crt
      rw [hpt, if_pos hd, if_pos hd, if_pos hd, if_pos hd]
      exact ⟨Nat.le_refl _, .inr ⟨rfl, hvt⟩⟩
end
end Go.Proofs.YthffhhgaeolpgaaGreat.Sn

