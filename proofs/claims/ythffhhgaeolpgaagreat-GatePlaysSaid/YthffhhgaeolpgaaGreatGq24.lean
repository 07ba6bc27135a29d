/- Merged texts: Ga6, Ga7, Ga8, Rga, Rgb. -/
import Derived.Test.YthffhhgaeolpgaaGreatGq23
set_option linter.unusedVariables false
/- Package gate: New, Do whole, a gate that nobody made; what Run asks of them. -/
namespace Go.Proofs.YthffhhgaeolpgaaGreat.Ga
open Go.RowKit Go.Proofs.YthffhhgaeolpgaaGreat.Ara Go.Proofs.YthffhhgaeolpgaaGreat.Lok Go.Proofs.YthffhhgaeolpgaaGreat.Fl

theorem fl_base {B gf gl ga ha hs : Nat} {p : PK} {σ : Ar} {sp : List Sp} {W W' : World} (k : FLAt W gf gl ga ha hs p σ sp) (hb : Below B W W') (h0 : gf < B) (h1 : gl < B) (h2 : ga < B) (h3 : ha < B) (h4 : hs < B) : FLAt W' gf gl ga ha hs p σ sp := by
  have key : ∀ {X : Nat}, X < B → W'.heap[X]? = W.heap[X]? := fun h => hb.block _ h
  refine ⟨(key h0).trans k.fb, ?_, k.n1, k.n2, k.n3⟩
  have a := k.at_
  cases p with
  | tas P => obtain ⟨k1, k2, k3, ⟨c, k4⟩, k5⟩ := a; exact ⟨k1.upd (S := []) (Upd.of_below hb) h2 h3 (by simp) (by simp), k2.of_blk (key h4), k3, ⟨c, (key h1).trans k4⟩, k5⟩
  | tic P => obtain ⟨k1, k2, k3, ⟨c, k4⟩, k5⟩ := a; exact ⟨k1.upd (S := []) (Upd.of_below hb) h2 h3 (by simp) (by simp), k2.of_blk (key h4), k3, ⟨c, (key h1).trans k4⟩, k5⟩
  | par P => obtain ⟨k1, k2, k3, ⟨c, k4⟩, k5⟩ := a; exact ⟨k1.upd (S := []) (Upd.of_below hb) h2 h3 (by simp) (by simp), k2.of_blk (key h4), k3, ⟨c, (key h1).trans k4⟩, k5⟩
  | mcs P => obtain ⟨k1, k2, k3, ⟨c, k4⟩, k5⟩ := a; exact ⟨k1.upd (S := []) (Upd.of_below hb) h2 h3 (by simp) (by simp), k2.of_blk (key h4), k3, ⟨c, (key h1).trans k4⟩, k5⟩
  | clh P => obtain ⟨k1, k2, k3, ⟨c, k4⟩, k5⟩ := a; exact ⟨k1.upd (S := []) (Upd.of_below hb) h2 h3 (by simp) (by simp), k2.of_blk (key h4), k3, ⟨c, (key h1).trans k4⟩, k5⟩
theorem words_nil (w : World) : Calls Tryz.prog 21 #[.pointer none] w fun e w' => e = .returned (.slice none 0 0) ∧ Below w.heap.size w w' := by
  go_enter Tryz.func21, Tryz.ntmps21
  go_wp2_with fail
  refine (len_nil _).mono ?_
  rintro e wx ⟨rfl, hwx⟩
  obtain rfl := hwx.symm
  go_wp2_with fail
  go_loop [3, 7] (fun o i => o = .slice none 0 0 ∧ i = .int .i64 0) (fun _ _ => 0)
  case atStart => exact ⟨rfl, rfl⟩
  case round =>
    obtain ⟨rfl, rfl⟩ := hrel
    go_wp2_with fail
    go_ret
    exact ⟨rfl, Below.refl _ _⟩
theorem do_g {gg gf gl ga ha hs : Nat} {p : PK} {σ : Ar} {sp : List Sp} {w : World} (K : GAt w gg gf gl ga ha hs p σ sp) (n m : Nat) (ho : OkK p σ sp n m) (hm : m ≤ 100000) (t want : Int) :
    Calls Tryz.prog 32 #[.pointer (some ⟨gg, 0, none⟩), .agg #[.int .i64 t, .int .i64 want]] w fun e w' => e = .returned (gev (gact p σ sp t want).1.1 (gact p σ sp t want).1.2.1 (gact p σ sp t want).1.2.2) ∧ GAt w' gg gf gl ga ha hs p (gact p σ sp t want).2.1 (gact p σ sp t want).2.2 ∧ Mod [ga, ha, hs] w w' := by
  unfold gact
  by_cases ht : t < 0 ∨ (sp.length : Int) ≤ t
  · rw [if_pos ht]
    exact do_out K t want ht
  rw [if_neg ht]
  by_cases h0 : want = 0
  · rw [if_pos h0]
    by_cases hs0 : gst (spOf sp t) = 1 ∨ gst (spOf sp t) = 3
    · rw [if_pos hs0]
      rcases hr : doK p σ sp 0 t with ⟨b, σ2, sp2⟩
      have h2 : (if b then (if gst (spOf sp t) = 1 then ((2 : Int), t, (1 : Int)) else (4, t, 0)) else (0, t, 0)) = ((if b then (if gst (spOf sp t) = 1 then ((2 : Int), (1 : Int)) else (4, 0)) else (0, 0)).1, t, (if b then (if gst (spOf sp t) = 1 then ((2 : Int), (1 : Int)) else (4, 0)) else (0, 0)).2) := by
        cases b
        · rfl
        · rcases hs0 with h | h
          · simp [h]
          · simp [h]
      simp only [h2]
      exact do_way K n m ho hm t want ht h0 hs0 b σ2 sp2 hr _ _ rfl
    · rw [if_neg hs0]
      refine do_stay K t want ht h0 ?_
      have := gst_in (spOf sp t)
      omega
  rw [if_neg h0]
  by_cases h1 : want = 1
  · rw [if_pos h1]
    subst h1
    rcases hr : doK p σ sp 1 t with ⟨b, σ2, sp2⟩
    have := do_ask K n m ho hm t ht b σ2 sp2 hr
    cases b <;> exact this
  rw [if_neg h1]
  by_cases h2 : want = 2
  · rw [if_pos h2]
    subst h2
    rcases hr : doK p σ sp 2 t with ⟨b, σ2, sp2⟩
    have := do_leave K n m ho hm t ht b σ2 sp2 hr
    cases b <;> exact this
  rw [if_neg h2]
  exact do_bad K t want ht (by omega)
theorem gact_do (p : PK) (σ : Ar) (sp : List Sp) (t want : Int) : ∃ kd, (gact p σ sp t want).2 = (doK p σ sp kd t).2 ∧ (kd = 0 ∨ kd = 1 ∨ kd = 2 ∨ kd = 7) := by
  have h7 : (doK p σ sp 7 t).2 = (σ, sp) := by rw [do_else p σ sp 7 t (.inr (by omega))]
  unfold gact
  split
  · exact ⟨7, h7.symm, by omega⟩
  split
  · split
    · exact ⟨0, rfl, by omega⟩
    · exact ⟨7, h7.symm, by omega⟩
  split
  · exact ⟨1, rfl, by omega⟩
  split
  · exact ⟨2, rfl, by omega⟩
  · exact ⟨7, h7.symm, by omega⟩
theorem ok_gact {p : PK} {σ : Ar} {sp : List Sp} {n m : Nat} (h : OkK p σ sp n m) (t want : Int) : OkK p (gact p σ sp t want).2.1 (gact p σ sp t want).2.2 n (m + 1) := by
  obtain ⟨kd, he, _⟩ := gact_do p σ sp t want
  rw [he]
  exact h.act kd t
theorem gi_real (gg gf gl ga ha hs : Nat) (p : PK) (n m0 : Nat) (hm0 : m0 ≤ 50000) (L : Nat) (h0 : gg < L) (h1 : gf < L) (h2 : gl < L) (h3 : ga < L) (h4 : ha < L) (h5 : hs < L) :
    GI (.pointer (some ⟨gg, 0, none⟩)) (Ar × List Sp) (fun k W x => GAt W gg gf gl ga ha hs p x.1 x.2 ∧ OkK p x.1 x.2 n (m0 + k)) (fun x t => gst (spOf x.2 t)) (fun x t w => gact p x.1 x.2 t w) [ga, ha, hs] L := by
  refine ⟨by simp; omega, fun k W W' x h hb => ?_, fun k W x t h => state_g h.1 t, fun k W x t wn hk h => ?_⟩
  · refine ⟨?_, h.2⟩
    have g := h.1
    exact ⟨(hb.block gg h0).trans g.gb, fl_base g.fl hb h1 h2 h3 h4 h5, g.n1, g.n2, g.n3, by have := hb.size; have := g.nh; omega⟩
  · exact (do_g h.1 n (m0 + k) h.2 (by omega) t wn).mono fun e w' ⟨e1, e2, e3⟩ => ⟨e1, ⟨e2, ok_gact h.2 t wn⟩, e3⟩
def GNew (kind : Int) (n : Nat) (par : Int) (w : World) (e : Ending) (w' : World) : Prop :=
  ∃ gg gf gl hs, e = .returned (.tuple #[.pointer (some ⟨gg, 0, none⟩), .int .i64 0]) ∧ GAt w' gg gf gl (w.heap.size + 1) w.heap.size hs (pkK kind par 1) (firstK kind n par 1 { Ar.fresh 4096 with t := sizeK kind n par }).1 (firstK kind n par 1 { Ar.fresh 4096 with t := sizeK kind n par }).2 ∧ (w.heap.size ≤ gg ∧ w.heap.size ≤ gf ∧ w.heap.size ≤ gl ∧ w.heap.size ≤ hs) ∧ Below w.heap.size w w'
set_option maxRecDepth 100000 in
theorem gnew_any (kind : Int) (n : Nat) (par : Int) (hM : mayK kind n par) (w : World) : Calls Tryz.prog 30 #[.int .i64 kind, .int .i64 (n : Int), .int .i64 par] w (GNew kind n par w) := by
  have hr : (Ar.fresh (room 4096)).ws.length = 4096 := by simp [Ar.fresh, zerosW, room]
  have hsz : sizeK kind n par ≤ 100 := by
    obtain ⟨_, h1, h2, h3⟩ := hM
    unfold sizeK
    repeat (first | split | omega)
  have HM := Lib.hid hM
  have HR := Lib.hid hr
  clear hM hr
  go_enter Tryz.func30, Tryz.ntmps30
  go_wp2_with fail
  refine (new_at 4096 _ _ rfl).mono ?_
  rintro e w1 ⟨rfl, hat⟩
  have HN := Lib.hid (new_flat kind n par HM.out (w.heap.size + 1) w.heap.size _ w1 hat.1 (by have := hat.2.1; omega) (by rw [HR.out]; show 0 + _ ≤ _; omega) (by rw [HR.out]; omega) (by show 0 ≤ _; omega))
  have HB1 := Lib.hid hat.2.2
  have hz1 := hat.2.1
  clear hat
  go_wp2_with fail
  refine HN.out.mono ?_
  rintro e w2 ⟨gf, gl, hs, rfl, hk, ⟨b1, b2, b3⟩, hm⟩
  simp only [show (Ar.fresh (room 4096)).t = 0 from rfl, Nat.zero_add] at hk
  have HK := Lib.hid hk
  have HB := Lib.hid (HB1.out.trans (hm.below (by omega) (by simp)))
  have hz2 := hm.size
  clear hk hm HN HB1
  have hbn := below_new w2 (.cells #[.pointer (some ⟨w.heap.size + 1, 0, none⟩), .pointer (some ⟨gf, 0, none⟩)] 73)
  have HG := Lib.hid (blk_new w2 (.cells #[.pointer (some ⟨w.heap.size + 1, 0, none⟩), .pointer (some ⟨gf, 0, none⟩)] 73))
  have HK2 := Lib.hid (HK.out.same hbn)
  have HBB := Lib.hid (HK.out.blocks)
  have HB2 := Lib.hid (HB.out.trans (hbn.mono HB.out.size))
  clear hbn
  go_wp2_with fail
  go_ret2
  obtain ⟨q1, q2, q3, q4⟩ := HBB.out
  exact ⟨w2.heap.size, gf, gl, hs, rfl, ⟨HG.out, HK2.out, by omega, by omega, by omega, by simp; omega⟩, by omega, HB2.out⟩
theorem new_kind9 (q : Option Addr) (w : World) : Calls Tryz.prog 12 #[.pointer q, .int .i64 9, .int .i64 2, .int .i64 0] w fun e w' => e = .returned (.tuple #[.pointer none, .int .i64 7]) ∧ w' = w := by
  go_enter Tryz.func12, Tryz.ntmps12
  go_wp2_with fail
  go_ret2
  exact ⟨rfl, by trivial⟩
theorem gnew_kind9 (w : World) : Calls Tryz.prog 30 #[.int .i64 9, .int .i64 2, .int .i64 0] w fun e w' => e = .returned (.tuple #[.pointer none, .int .i64 7]) ∧ Below w.heap.size w w' := by
  go_enter Tryz.func30, Tryz.ntmps30
  go_wp2_with fail
  refine (new_at 4096 _ _ rfl).mono ?_
  rintro e w1 ⟨rfl, hat⟩
  have HB1 := Lib.hid hat.2.2
  clear hat
  go_wp2_with fail
  refine (new_kind9 _ _).mono ?_
  rintro e wx ⟨rfl, hwx⟩
  obtain rfl := hwx.symm
  go_wp2_with fail
  go_ret2
  exact ⟨rfl, HB1.out⟩
def NoG (W : World) (q : Option Addr) : Prop := q = none ∨ ∃ g, q = some ⟨g, 0, none⟩ ∧ W.heap[g]? = some (.cells #[.pointer none, .pointer none] 73 (0, 0))
theorem NoG.same {W W' : World} {q : Option Addr} (h : NoG W q) (hb : Below W.heap.size W W') : NoG W' q := by
  rcases h with h | ⟨g, h1, h2⟩
  · exact .inl h
  · exact .inr ⟨g, h1, (Mod.of_below (S := []) hb).blk h2 (by simp)⟩
section
variable (q : Option Addr) (w : World) (H : NoG w q)
include H
set_option maxRecDepth 100000 in
theorem nthreads : Calls Tryz.prog 38 #[.pointer q] w fun e w' => e = .returned (.int .i64 0) ∧ w' = w := by
  rcases H with rfl | ⟨g, rfl, hc⟩
  · go_enter Tryz.func38, Tryz.ntmps38
    go_wp2_with fail
    go_ret
    exact ⟨rfl, rfl⟩
  · have c0 := blk_cell hc 0 (by simp)
    have c1 := blk_cell hc 1 (by simp)
    simp only [List.getElem_toArray, List.getElem_cons_zero, List.getElem_cons_succ] at c0 c1
    have HS := Lib.hid (slots_none none w (.inl rfl))
    clear hc
    go_enter Tryz.func38, Tryz.ntmps38
    go_wp2_with fail
    refine (HS.out).mono ?_
    rintro e wx ⟨rfl, hwx⟩
    obtain rfl := hwx.symm
    go_wp2_with fail
    go_ret
    exact ⟨rfl, rfl⟩
set_option maxRecDepth 100000 in
theorem nops : Calls Tryz.prog 35 #[.pointer q] w fun e w' => e = .returned (.int .i64 0) ∧ w' = w := by
  rcases H with rfl | ⟨g, rfl, hc⟩
  · go_enter Tryz.func35, Tryz.ntmps35
    go_wp2_with fail
    go_ret
    exact ⟨rfl, rfl⟩
  · have c0 := blk_cell hc 0 (by simp)
    have c1 := blk_cell hc 1 (by simp)
    simp only [List.getElem_toArray, List.getElem_cons_zero, List.getElem_cons_succ] at c0 c1
    have HS := Lib.hid (ops_nil w)
    clear hc
    go_enter Tryz.func35, Tryz.ntmps35
    go_wp2_with fail
    refine (HS.out).mono ?_
    rintro e wx ⟨rfl, hwx⟩
    obtain rfl := hwx.symm
    go_wp2_with fail
    go_ret
    exact ⟨rfl, rfl⟩
set_option maxRecDepth 100000 in
theorem nwords : Calls Tryz.prog 34 #[.pointer q] w fun e w' => e = .returned (.slice none 0 0) ∧ Below w.heap.size w w' := by
  rcases H with rfl | ⟨g, rfl, hc⟩
  · go_enter Tryz.func34, Tryz.ntmps34
    go_wp2_with fail
    go_ret
    exact ⟨rfl, Below.refl _ _⟩
  · have c0 := blk_cell hc 0 (by simp)
    have c1 := blk_cell hc 1 (by simp)
    simp only [List.getElem_toArray, List.getElem_cons_zero, List.getElem_cons_succ] at c0 c1
    have HS := Lib.hid (words_nil w)
    clear hc
    go_enter Tryz.func34, Tryz.ntmps34
    go_wp2_with fail
    refine HS.out.mono ?_
    rintro e w2 ⟨rfl, hb⟩
    go_wp2_with fail
    go_ret
    exact ⟨rfl, hb⟩
set_option maxRecDepth 100000 in
theorem nstate (t : Int) : Calls Tryz.prog 36 #[.pointer q, .int .i64 t] w fun e w' => e = .returned (.int .i64 0) ∧ w' = w := by
  have HT := Lib.hid (nthreads q w H)
  clear H
  by_cases h0 : t < 0
  · go_enter Tryz.func36, Tryz.ntmps36
    go_wp2_with fail
    go_ret
    exact ⟨rfl, rfl⟩
  · have h1 : (0 : Int) ≤ t := by omega
    have h2 : decide (t < 0) = false := decide_eq_false h0
    go_enter Tryz.func36, Tryz.ntmps36
    go_wp2_with fail
    refine (HT.out).mono ?_
    rintro e wx ⟨rfl, hwx⟩
    obtain rfl := hwx.symm
    go_wp2_with fail
    go_ret
    exact ⟨rfl, rfl⟩
set_option maxHeartbeats 4000000 in
set_option maxRecDepth 100000 in
theorem ndo (t want : Int) : Calls Tryz.prog 32 #[.pointer q, .agg #[.int .i64 t, .int .i64 want]] w fun e w' => e = .returned (gev 0 0 0) ∧ Below w.heap.size w w' := by
  have hb1 : Below w.heap.size w (w.alloc (.cells #[.int .i64 t, .int .i64 want] 68)) := below_new _ _
  have hb2 : Below w.heap.size w ((w.alloc (.cells #[.int .i64 t, .int .i64 want] 68)).alloc (.cells #[.int .i64 0, .int .i64 0, .bool false, .int .i64 0] 65)) := hb1.alloc hb1.size _
  have HE := Lib.hid (show ((w.alloc (.cells #[.int .i64 t, .int .i64 want] 68)).alloc (.cells #[.int .i64 0, .int .i64 0, .bool false, .int .i64 0] 65)).heap[w.heap.size + 1]? = some (.cells #[.int .i64 0, .int .i64 0, .bool false, .int .i64 0] 65) from by simpa using blk_new (w.alloc (.cells #[.int .i64 t, .int .i64 want] 68)) (.cells #[.int .i64 0, .int .i64 0, .bool false, .int .i64 0] 65))
  have hH := H.same hb2
  have HT := Lib.hid (fun n => nthreads q _ (hH.same (below_drewN (Below.refl _ _) n)))
  have HB := Lib.hid hb2
  clear H hb1 hb2 hH
  by_cases h0 : t < 0
  · go_enter Tryz.func32, Tryz.ntmps32
    go_wp2_with fail
    go_quiet (fail)
    have HE2 := Lib.hid (show ((((w.alloc (.cells #[.int .i64 t, .int .i64 want] 68)).alloc (.cells #[.int .i64 0, .int .i64 0, .bool false, .int .i64 0] 65))).drewN nq).heap[w.heap.size + 1]? = some (.cells #[.int .i64 0, .int .i64 0, .bool false, .int .i64 0] 65) from HE.out)
    have HB2 := Lib.hid (below_drewN HB.out nq)
    generalize ((w.alloc (.cells #[.int .i64 t, .int .i64 want] 68)).alloc (.cells #[.int .i64 0, .int .i64 0, .bool false, .int .i64 0] 65)).drewN nq = W2 at *
    have d0 := blk_cell HE2.out 0 (by simp)
    have d1 := blk_cell HE2.out 1 (by simp)
    have d2 := blk_cell HE2.out 2 (by simp)
    have d3 := blk_cell HE2.out 3 (by simp)
    simp only [List.getElem_toArray, List.getElem_cons_zero, List.getElem_cons_succ] at d0 d1 d2 d3
    have f0 := blk_free HE2.out 0
    have f1 := blk_free HE2.out 1
    have f2 := blk_free HE2.out 2
    have f3 := blk_free HE2.out 3
    have k0 := blk_set HE2.out 0 (.int .i64 (0))
    have k1 := blk_set k0 1 (.int .i64 (0))
    have k2 := blk_set k1 2 (.bool false)
    have k3 := blk_set k2 3 (.int .i64 (0))
    have g0 := blk_cell k0 0 (by simp)
    have g1 := blk_cell k1 1 (by simp)
    have g2 := blk_cell k2 2 (by simp)
    have g3 := blk_cell k3 3 (by simp)
    simp at g0 g1 g2 g3
    clear k0 k1 k2 k3
    go_wp2_with fail
    refine bodyPost_ret (v := gev (0) (0) (0)) ?_ rfl ⟨rfl, ?_⟩
    · simp [gev, results, Tryz.results32, go_sem, g0, g1, g2, g3]
    · exact ((((HB2.out.setCell (Nat.le_succ _) _).setCell (Nat.le_succ _) _).setCell (Nat.le_succ _) _).setCell (Nat.le_succ _) _)
  · have h1 : (0 : Int) ≤ t := by omega
    have h2 : decide (t < 0) = false := decide_eq_false h0
    go_enter Tryz.func32, Tryz.ntmps32
    go_wp2_with fail
    go_quiet ((go_at_call 38; exact Calls.quiet_of_same (HT.out _)))
    have HE2 := Lib.hid (show ((((w.alloc (.cells #[.int .i64 t, .int .i64 want] 68)).alloc (.cells #[.int .i64 0, .int .i64 0, .bool false, .int .i64 0] 65))).drewN nq).heap[w.heap.size + 1]? = some (.cells #[.int .i64 0, .int .i64 0, .bool false, .int .i64 0] 65) from HE.out)
    have HB2 := Lib.hid (below_drewN HB.out nq)
    generalize ((w.alloc (.cells #[.int .i64 t, .int .i64 want] 68)).alloc (.cells #[.int .i64 0, .int .i64 0, .bool false, .int .i64 0] 65)).drewN nq = W2 at *
    have d0 := blk_cell HE2.out 0 (by simp)
    have d1 := blk_cell HE2.out 1 (by simp)
    have d2 := blk_cell HE2.out 2 (by simp)
    have d3 := blk_cell HE2.out 3 (by simp)
    simp only [List.getElem_toArray, List.getElem_cons_zero, List.getElem_cons_succ] at d0 d1 d2 d3
    have f0 := blk_free HE2.out 0
    have f1 := blk_free HE2.out 1
    have f2 := blk_free HE2.out 2
    have f3 := blk_free HE2.out 3
    have k0 := blk_set HE2.out 0 (.int .i64 (0))
    have k1 := blk_set k0 1 (.int .i64 (0))
    have k2 := blk_set k1 2 (.bool false)
    have k3 := blk_set k2 3 (.int .i64 (0))
    have g0 := blk_cell k0 0 (by simp)
    have g1 := blk_cell k1 1 (by simp)
    have g2 := blk_cell k2 2 (by simp)
    have g3 := blk_cell k3 3 (by simp)
    simp at g0 g1 g2 g3
    clear k0 k1 k2 k3
    go_wp2_with fail
    refine bodyPost_ret (v := gev (0) (0) (0)) ?_ rfl ⟨rfl, ?_⟩
    · simp [gev, results, Tryz.results32, go_sem, g0, g1, g2, g3]
    · exact ((((HB2.out.setCell (Nat.le_succ _) _).setCell (Nat.le_succ _) _).setCell (Nat.le_succ _) _).setCell (Nat.le_succ _) _)
end
theorem gi_none (q : Option Addr) (L : Nat) (hq : ∀ g, q = some ⟨g, 0, none⟩ → g < L) :
    GI (.pointer q) Unit (fun _ W _ => NoG W q ∧ L ≤ W.heap.size) (fun _ _ => 0) (fun _ _ _ => ((0, 0, 0), ())) [] L := by
  refine ⟨by simp, fun k W W' x h hb => ?_, fun k W x t h => ?_, fun k W x t wn hk h => ?_⟩
  · refine ⟨?_, Nat.le_trans h.2 hb.size⟩
    rcases h.1 with h | ⟨g, h1, h2⟩
    · exact .inl h
    · exact .inr ⟨g, h1, (hb.block g (hq g h1)).trans h2⟩
  · exact (nstate q W h.1 t).mono fun e w' ⟨e1, e2⟩ => ⟨e1, by subst e2; exact Below.refl _ _⟩
  · exact (ndo q W h.1 t wn).mono fun e w' ⟨e1, e2⟩ => ⟨e1, ⟨h.1.same e2, Nat.le_trans h.2 e2.size⟩, Mod.of_below e2⟩
end Go.Proofs.YthffhhgaeolpgaaGreat.Ga

/- Layer 21's law: awake. -/
namespace Go.Proofs.YthffhhgaeolpgaaGreat.Ga
open Go.RowKit Go.Proofs.YthffhhgaeolpgaaGreat.Ara Go.Proofs.YthffhhgaeolpgaaGreat.Lok Go.Proofs.YthffhhgaeolpgaaGreat.Fl

def pl21 : List Pl := [⟨0, 1, 1, false⟩]
def l21 : List Int := [0, 0, 0, 0, 0, 0, 0, 9]
def ev21 : List Ev3 := [(1, 0, 0), (0, 0, 0), (2, 0, 1), (0, 0, 0), (3, 0, 0), (4, 0, 0), (0, 0, 0), (0, 0, 0)]
def x21 (rest : List Int) : Ar × List Sp := (gact (.tic ⟨1⟩) ⟨0 :: 0 :: rest, 2, 0, 0, 0, false⟩ [sp0, sp0] 1 2).2
def r21 (rest : List Int) : RunS (Ar × List Sp) := runL (fun x t => gst (spOf x.2 t)) (fun x t w => gact (.tic ⟨1⟩) x.1 x.2 t w) pl21 (x21 rest) l21
theorem r21_first (rest : List Int) : (gact (.tic ⟨1⟩) ⟨0 :: 0 :: rest, 2, 0, 0, 0, false⟩ [sp0, sp0] 1 2).1 = (5, 1, 0) := by kernel_rfl
set_option maxRecDepth 100000 in
theorem r21_out (rest : List Int) : (r21 rest).out = ev21 := by kernel_rfl
set_option maxRecDepth 100000 in
theorem r21_x (rest : List Int) : (r21 rest).x.1.t = 2 ∧ (r21 rest).x.1.ws.take 2 = [1, 1] ∧ (r21 rest).x.1.ops = 3 ∧ (r21 rest).x.2.length = 2 ∧ gst (spOf (r21 rest).x.2 0) = 0 := ⟨by kernel_rfl, by kernel_rfl, by kernel_rfl, by kernel_rfl, by kernel_rfl⟩
set_option maxRecDepth 100000 in
theorem fresh2 : ∃ rest, ({ Ar.fresh 4096 with t := sizeK 2 2 0 } : Ar) = ⟨0 :: 0 :: rest, 2, 0, 0, 0, false⟩ := ⟨List.replicate 4094 0, by kernel_rfl⟩
theorem isI_small {t : Int} (h : 0 ≤ t ∧ t ≤ 100) : isI t := WalkArith.wf_i64 (by omega)
theorem sl_of {w W : World} {g B : Nat} {xs : List Value} {T : TypeId} {S : List Nat} (hb : w.heap[g]? = some (.cells xs.toArray T (0, 0))) (hm : Mod S w W) (hg : g ∉ S) (hB : g < B) : Sl W B (some ⟨g, 0, none⟩) xs := .inr ⟨g, 0, rfl, hB, fun j hj => by
  have := blk_cell ((hm.blk hb hg)) j (by simpa using hj)
  simpa using this⟩
def toEv (e : Ev3) : Evs.Ev := ⟨e.1, e.2.1, false, e.2.2⟩
theorem flat_ev (l : List Ev3) : l.flatMap decEv = (l.map toEv).flatMap Evs.dE := by
  rw [List.flatMap_map]
  rfl
set_option maxHeartbeats 8000000 in
set_option maxRecDepth 100000 in
theorem awake21 (w : World) : Calls Tryz.prog 29 #[] w fun e w' => e = .returned (.bool true) ∧ Below w.heap.size w w' := by
  obtain ⟨rest, hrest⟩ := fresh2
  have HN : Calls Tryz.prog 30 #[.int .i64 2, .int .i64 2, .int .i64 0] w (GNew 2 2 0 w) := gnew_any 2 2 0 ⟨by omega, by omega, fun h => by omega, fun h => by omega⟩ w
  replace HN := Lib.hid HN
  have HREST := Lib.hid hrest
  clear hrest
  go_enter Tryz.func29, Tryz.ntmps29
  go_wp2_with fail
  refine HN.out.mono ?_
  rintro e w1 ⟨gg, gf, gl, hs, rfl, hk, ⟨b1, b2, b3, b4⟩, hb⟩
  rw [HREST.out] at hk
  have hK : GAt w1 gg gf gl (w.heap.size + 1) w.heap.size hs (.tic ⟨1⟩) ⟨0 :: 0 :: rest, 2, 0, 0, 0, false⟩ [sp0, sp0] := hk
  have HK := Lib.hid hK
  have HB := Lib.hid hb
  clear hk hK hb HN
  have HO : OkK (.tic ⟨1⟩) ⟨0 :: 0 :: rest, 2, 0, 0, 0, false⟩ [sp0, sp0] 2 0 := by
    have h := ok_flat 2 2 0 ⟨by omega, by omega, fun h => by omega, fun h => by omega⟩ (Ar.fresh 4096) (fun k _ => zeros_getD _ _) (by simp [Ar.fresh, zerosW, sizeK]) (by simp [Ar.fresh, zerosW]) 0 (Nat.le_refl _)
    have e : ({ Ar.fresh 4096 with t := (Ar.fresh 4096).t + sizeK 2 2 0 } : Ar) = _ := HREST.out
    rw [e] at h
    exact h
  replace HO := Lib.hid HO
  go_wp2_with fail
  refine (gnew_kind9 _).mono ?_
  rintro e w2 ⟨rfl, hb2⟩
  have HK2 := Lib.hid (HK.out.same hb2)
  have HB2 := Lib.hid (HB.out.trans (hb2.mono HB.out.size))
  clear hb2 HK HB
  go_wp2_with fail
  refine (do_g HK2.out 2 0 HO.out (by omega) 1 2).mono ?_
  rw [r21_first]
  rintro e w3 ⟨rfl, hk3, hm3⟩
  have HO3 := Lib.hid (ok_gact HO.out 1 2)
  have HK3 : Hid (GAt w3 gg gf gl (w.heap.size + 1) w.heap.size hs (.tic ⟨1⟩) (x21 rest).1 (x21 rest).2) := Lib.hid hk3
  have HB3 := Lib.hid (HB2.out.trans (hm3.below HB2.out.size (by simp; omega)))
  clear hk3 hm3 HK2 HB2 HO
  simp only [gev]
  go_wp2_with fail
  have hbb := HK3.out.blocks
  have hK3 := HK3.out
  have hO3 := HO3.out
  have hB3 := HB3.out
  have hz : (((w3.alloc (.cells #[.int .i64 5, .int .i64 1, .bool false, .int .i64 0] 65)).alloc (.cells #[.int .i64 0, .int .i64 1, .int .i64 1, .bool false] 149)).alloc (.cells #[.int .i64 0, .int .i64 0, .int .i64 0, .int .i64 0, .int .i64 0, .int .i64 0, .int .i64 0, .int .i64 9] 3)).heap.size = w3.heap.size + 3 := by simp
  have hw3 : Below w3.heap.size w3 (((w3.alloc (.cells #[.int .i64 5, .int .i64 1, .bool false, .int .i64 0] 65)).alloc (.cells #[.int .i64 0, .int .i64 1, .int .i64 1, .bool false] 149)).alloc (.cells #[.int .i64 0, .int .i64 0, .int .i64 0, .int .i64 0, .int .i64 0, .int .i64 0, .int .i64 0, .int .i64 9] 3)) := (((below_new _ _).alloc (by simp) _).alloc (by simp; omega) _)
  have k5 : (((w3.alloc (.cells #[.int .i64 5, .int .i64 1, .bool false, .int .i64 0] 65)).alloc (.cells #[.int .i64 0, .int .i64 1, .int .i64 1, .bool false] 149)).alloc (.cells #[.int .i64 0, .int .i64 0, .int .i64 0, .int .i64 0, .int .i64 0, .int .i64 0, .int .i64 0, .int .i64 9] 3)).heap[w3.heap.size]? = some (.cells #[.int .i64 5, .int .i64 1, .bool false, .int .i64 0] 65) := blk_alloc (blk_alloc (blk_new w3 _) _) _
  have kp : (((w3.alloc (.cells #[.int .i64 5, .int .i64 1, .bool false, .int .i64 0] 65)).alloc (.cells #[.int .i64 0, .int .i64 1, .int .i64 1, .bool false] 149)).alloc (.cells #[.int .i64 0, .int .i64 0, .int .i64 0, .int .i64 0, .int .i64 0, .int .i64 0, .int .i64 0, .int .i64 9] 3)).heap[w3.heap.size + 1]? = some (.cells #[.int .i64 0, .int .i64 1, .int .i64 1, .bool false] 149) := blk_alloc (show ((w3.alloc (.cells #[.int .i64 5, .int .i64 1, .bool false, .int .i64 0] 65)).alloc (.cells #[.int .i64 0, .int .i64 1, .int .i64 1, .bool false] 149)).heap[w3.heap.size + 1]? = _ by simpa using blk_new (w3.alloc (.cells #[.int .i64 5, .int .i64 1, .bool false, .int .i64 0] 65)) (.cells #[.int .i64 0, .int .i64 1, .int .i64 1, .bool false] 149)) _
  have kq : (((w3.alloc (.cells #[.int .i64 5, .int .i64 1, .bool false, .int .i64 0] 65)).alloc (.cells #[.int .i64 0, .int .i64 1, .int .i64 1, .bool false] 149)).alloc (.cells #[.int .i64 0, .int .i64 0, .int .i64 0, .int .i64 0, .int .i64 0, .int .i64 0, .int .i64 0, .int .i64 9] 3)).heap[w3.heap.size + 1 + 1]? = some (.cells #[.int .i64 0, .int .i64 0, .int .i64 0, .int .i64 0, .int .i64 0, .int .i64 0, .int .i64 0, .int .i64 9] 3) := by simpa using blk_new ((w3.alloc (.cells #[.int .i64 5, .int .i64 1, .bool false, .int .i64 0] 65)).alloc (.cells #[.int .i64 0, .int .i64 1, .int .i64 1, .bool false] 149)) (.cells #[.int .i64 0, .int .i64 0, .int .i64 0, .int .i64 0, .int .i64 0, .int .i64 0, .int .i64 0, .int .i64 9] 3)
  have HR := Lib.hid (run_any (.pointer (some ⟨gg, 0, none⟩)) _ _ _ [w.heap.size + 1, w.heap.size, hs] _ (gi_real gg gf gl (w.heap.size + 1) w.heap.size hs (.tic ⟨1⟩) 2 1 (by omega) (((w3.alloc (.cells #[.int .i64 5, .int .i64 1, .bool false, .int .i64 0] 65)).alloc (.cells #[.int .i64 0, .int .i64 1, .int .i64 1, .bool false] 149)).alloc (.cells #[.int .i64 0, .int .i64 0, .int .i64 0, .int .i64 0, .int .i64 0, .int .i64 0, .int .i64 0, .int .i64 9] 3)).heap.size (by omega) (by omega) (by omega) (by omega) (by omega) (by omega)) pl21 (some ⟨w3.heap.size + 1, 0, none⟩) 1 (by decide) (fun W hW => sl_of (xs := pl21.flatMap decPl) kp hW (by simp; omega) (by omega)) l21 (some ⟨w3.heap.size + 1 + 1, 0, none⟩) 8 (by decide) (fun t ht => isI_small (by simp [l21] at ht; omega)) (fun W hW => sl_of (xs := l21.flatMap decI) kq hW (by simp; omega) (by omega)) (x21 rest) ⟨hK3.same hw3, hO3⟩)
  have HB4 := Lib.hid (hB3.trans (hw3.mono hB3.size))
  have HE5 := Lib.hid k5
  have hzz := hB3.size
  have hlt : w.heap.size + 1 < w3.heap.size ∧ w.heap.size < w3.heap.size ∧ hs < w3.heap.size := by omega
  clear hbb hK3 hO3 hB3 hw3 kp kq k5 HK3 HO3 HB3
  generalize (((w3.alloc (.cells #[.int .i64 5, .int .i64 1, .bool false, .int .i64 0] 65)).alloc (.cells #[.int .i64 0, .int .i64 1, .int .i64 1, .bool false] 149)).alloc (.cells #[.int .i64 0, .int .i64 0, .int .i64 0, .int .i64 0, .int .i64 0, .int .i64 0, .int .i64 0, .int .i64 9] 3)) = W3 at *
  generalize w3.heap.size = n3 at *
  refine HR.out.mono ?_
  rintro e w4 ⟨B, cb, rfl, hown, ⟨hk4, _⟩, hm4⟩
  have hown2 : w4.ownsRow (W3.heap.size + 1) 65 4 (.slice B 8 cb) 8 (ev21.flatMap decEv) := by rw [← r21_out rest]; exact hown
  have hk5 : GAt w4 gg gf gl (w.heap.size + 1) w.heap.size hs (.tic ⟨1⟩) (r21 rest).x.1 (r21 rest).x.2 := hk4
  obtain ⟨x1, x2, x3, x4, x5⟩ := r21_x rest
  generalize (r21 rest).x = X8 at *
  obtain ⟨σ8, sp8⟩ := X8
  simp only at x1 x2 x3 x4 x5 hk5
  have HK4 := Lib.hid hk5
  have HB5 := Lib.hid (HB4.out.trans (hm4.below HB4.out.size (by simp; omega)))
  have HE6 := Lib.hid (show w4.heap[n3]? = _ from hm4.blk HE5.out (by simp; omega))
  obtain ⟨B2, c2, hBc, _, _, hsl⟩ := own_slice hown2
  cases hBc
  rw [flat_ev] at hsl
  have HSL := Lib.hid (show Sl w4 w4.heap.size B ((ev21.map toEv).flatMap Evs.dE) from hsl)
  have hev : ∀ W, (binOp .eql 65 (.agg #[.int .i64 5, .int .i64 1, .bool false, .int .i64 0]) (.agg #[.int .i64 5, .int .i64 1, .bool false, .int .i64 0])).run Tryz.prog W = .ok (.bool true) W := fun W => by rw [Evs.eqE]; rfl
  have heg := fun x y xs ys W => Evs.eqGE x y xs ys W
  have q0 := blk_cell HE6.out 0 (by simp)
  have q1 := blk_cell HE6.out 1 (by simp)
  have q2 := blk_cell HE6.out 2 (by simp)
  have q3 := blk_cell HE6.out 3 (by simp)
  simp only [List.getElem_toArray, List.getElem_cons_zero, List.getElem_cons_succ] at q0 q1 q2 q3
  have hn3 : n3 < w4.heap.size := lt_of_blk HE6.out
  clear hown hown2 hk4 hk5 hm4 HE5 HB4 HR hsl HREST
  simp only [show l21.length = 8 from rfl]
  go_wp2_with fail
  have hsame := Evs.esame_any (ev21.map toEv) (ev21.map toEv) B (some ⟨w4.heap.size, 0, none⟩) cb 8 (w4.alloc (.cells ((ev21.map toEv).flatMap Evs.dE).toArray 65)) (by decide) (by decide) (HSL.out.push _) (Sl.made w4 ((ev21.map toEv).flatMap Evs.dE).toArray 65)
  rw [decide_eq_true rfl] at hsame
  refine hsame.mono ?_
  rintro e w5 ⟨rfl, hb5⟩
  have hbn5 := (below_new w4 (.cells ((ev21.map toEv).flatMap Evs.dE).toArray 65)).trans (hb5.mono (by simp))
  have HK5 := Lib.hid (HK4.out.same hbn5)
  have HB6 := Lib.hid (HB5.out.trans (hbn5.mono HB5.out.size))
  clear hsame hb5 hbn5 HK4 HB5 HE6 HSL q0 q1 q2 q3 hev heg
  go_wp2_with fail
  refine (words_g HK5.out).mono ?_
  rw [x1, x2]
  rintro e w6 ⟨A, c, rfl, hsl6, hb6⟩
  have HSL6 := Lib.hid hsl6
  have HK6 := Lib.hid (HK5.out.same hb6)
  have HB7 := Lib.hid (HB6.out.trans (hb6.mono HB6.out.size))
  clear hsl6 hb6 HK5 HB6
  go_wp2_with fail
  have hsame := same_any [1, 1] [1, 1] A (some ⟨w6.heap.size, 0, none⟩) c 2 (w6.alloc (.cells (([1, 1] : List Int).flatMap decI).toArray 3)) (by decide) (by decide) (HSL6.out.push _) (Sl.made w6 (([1, 1] : List Int).flatMap decI).toArray 3)
  rw [decide_eq_true rfl] at hsame
  refine hsame.mono ?_
  rintro e w7 ⟨rfl, hb7⟩
  have hbn7 := (below_new w6 (.cells (([1, 1] : List Int).flatMap decI).toArray 3)).trans (hb7.mono (by simp))
  have HK7 := Lib.hid (HK6.out.same hbn7)
  have HB8 := Lib.hid (HB7.out.trans (hbn7.mono HB7.out.size))
  clear hsame hb7 hbn7 HK6 HB7 HSL6
  go_wp2_with fail
  have ho7 := ops_g HK7.out
  rw [x3] at ho7
  refine (ho7).mono ?_
  rintro e wx ⟨rfl, hwx⟩
  obtain rfl := hwx.symm
  go_wp2_with fail
  have ht7 := threads_g HK7.out
  rw [x4] at ht7
  refine (ht7).mono ?_
  rintro e wx ⟨rfl, hwx⟩
  obtain rfl := hwx.symm
  go_wp2_with fail
  have hs7 := state_g HK7.out 0
  rw [x5] at hs7
  refine hs7.mono ?_
  rintro e w8 ⟨rfl, hb8⟩
  have HB9 := Lib.hid (HB8.out.trans (hb8.mono HB8.out.size))
  clear hb8 HB8
  go_wp2_with fail
  go_ret
  exact ⟨rfl, HB9.out⟩
end Go.Proofs.YthffhhgaeolpgaaGreat.Ga

/- Layer 21's law: GateNone. -/
namespace Go.Proofs.YthffhhgaeolpgaaGreat.Ga
open Go.RowKit Go.Proofs.YthffhhgaeolpgaaGreat.Ara Go.Proofs.YthffhhgaeolpgaaGreat.Lok Go.Proofs.YthffhhgaeolpgaaGreat.Fl

theorem frame61 {a : Act} (h : a.tmps.size = 61) (hd : a.defers = []) : ∃ u : Nat → Value, a = { tmps := #[u 0, u 1, u 2, u 3, u 4, u 5, u 6, u 7, u 8, u 9, u 10, u 11, u 12, u 13, u 14, u 15, u 16, u 17, u 18, u 19, u 20, u 21, u 22, u 23, u 24, u 25, u 26, u 27, u 28, u 29, u 30, u 31, u 32, u 33, u 34, u 35, u 36, u 37, u 38, u 39, u 40, u 41, u 42, u 43, u 44, u 45, u 46, u 47, u 48, u 49, u 50, u 51, u 52, u 53, u 54, u 55, u 56, u 57, u 58, u 59, u 60], defers := [] } ∧ ∀ n, a.tmps.getD n undef = u n := by
  refine ⟨fun n => a.tmps.getD n undef, ?_, fun _ => rfl⟩
  have h1 := arr_lit a.tmps h
  cases a with
  | mk t d =>
    simp only at hd h1
    subst hd
    congr 1
theorem gx0 (a b : Option Addr) (W : World) : (Instr.index 74 (.agg #[.pointer a, .pointer b]) (.int .i64 0)).run Tryz.prog W = .ok (.pointer a) W := by
  simp [Instr.index, run_underlying Tryz.underlying74, asIntOf, go_sem]
theorem gx1 (a b : Option Addr) (W : World) : (Instr.index 74 (.agg #[.pointer a, .pointer b]) (.int .i64 1)).run Tryz.prog W = .ok (.pointer b) W := by
  simp [Instr.index, run_underlying Tryz.underlying74, asIntOf, go_sem]
def GnJ (t wn : Int) (w : World) (a : Act) (W : World) : Prop :=
  a.tmps.size = 61 ∧ a.defers = [] ∧ a.tmps.getD 1 undef = .pointer (some ⟨w.heap.size, 0, none⟩) ∧ a.tmps.getD 10 undef = .agg #[.pointer none, .pointer (some ⟨w.heap.size + 1, 0, none⟩)] ∧
    ∃ k : Nat, a.tmps.getD 11 undef = .int .i64 k ∧ k ≤ 2 ∧ W.cell? ⟨w.heap.size, 0, none⟩ = some (.int .i64 t) ∧ W.cell? ⟨w.heap.size, 1, none⟩ = some (.int .i64 wn) ∧ NoG W (some ⟨w.heap.size + 1, 0, none⟩) ∧ Below w.heap.size w W ∧ w.heap.size + 2 ≤ W.heap.size
set_option maxHeartbeats 8000000 in
set_option maxRecDepth 100000 in
theorem gnone_walk (t wn : Int) (ht : isI t) (w : World) : Calls Tryz.prog 5 #[.agg #[.int .i64 t, .int .i64 wn]] w fun e w' => e = .returned (.bool true) ∧ Below w.heap.size w w' := by
  have q1 : ∀ W, (binOp .neq 65 (.agg #[.int .i64 0, .int .i64 0, .bool false, .int .i64 0]) (.agg #[.int .i64 0, .int .i64 0, .bool false, .int .i64 0])).run Tryz.prog W = .ok (.bool false) W := fun W => by rw [Evs.neE]; rfl
  have q2 := fun x y xs ys W => Evs.neGE x y xs ys W
  have q3 := fun a b W => gx0 a b W
  have q4 := fun a b W => gx1 a b W
  have h0 := below_new w (.cells #[.int .i64 t, .int .i64 wn] 68)
  have hz1 : (w.alloc (.cells #[.int .i64 t, .int .i64 wn] 68)).heap.size = w.heap.size + 1 := by simp
  have h1 := below_new (w.alloc (.cells #[.int .i64 t, .int .i64 wn] 68)) (.cells #[.pointer none, .pointer none] 73)
  have b0 := blk_alloc (blk_new w (.cells #[.int .i64 t, .int .i64 wn] 68)) (.cells #[.pointer none, .pointer none] 73)
  have b1 := blk_new (w.alloc (.cells #[.int .i64 t, .int .i64 wn] 68)) (.cells #[.pointer none, .pointer none] 73)
  rw [hz1] at b1
  have c0 := blk_cell b0 0 (by simp)
  have c1 := blk_cell b0 1 (by simp)
  simp only [List.getElem_toArray, List.getElem_cons_zero, List.getElem_cons_succ] at c0 c1
  have HN := Lib.hid (show NoG _ (some ⟨w.heap.size + 1, 0, none⟩) from .inr ⟨_, rfl, b1⟩)
  have HB := Lib.hid (h0.trans (h1.mono (by omega)))
  have HZ := Lib.hid (show w.heap.size + 2 ≤ ((w.alloc (.cells #[.int .i64 t, .int .i64 wn] 68)).alloc (.cells #[.pointer none, .pointer none] 73)).heap.size by simp)
  clear h0 h1 b0 b1 hz1
  go_enter Tryz.func5, Tryz.ntmps5
  go_wp2_with fail
  refine wp_loop (GnJ t wn w) (fun a' _ => 2 - (intOf (a'.tmps.getD 11 undef)).toNat) ?_ ?_
  · exact ⟨rfl, rfl, rfl, rfl, 0, rfl, by omega, c0, c1, HN.out, HB.out, HZ.out⟩
  · clear HN HB c0 c1 HZ
    rintro a' W ⟨hsz, hdf, s1, s10, k, s11, hk, c0, c1, hn, hb, hz⟩
    obtain ⟨u, rfl, hu⟩ := frame61 hsz hdf
    rw [hu] at s1 s10 s11
    simp only [s1, s10, s11]
    clear hsz hdf s1 s10 s11 hu
    have HN := Lib.hid hn
    have HB := Lib.hid hb
    have HZ := Lib.hid hz
    clear hn hb hz
    by_cases hlt : k < 2
    · rcases (show k = 0 ∨ k = 1 by omega) with rfl | rfl
      · have HNq : Hid (NoG W none) := Lib.hid (.inl rfl)
        go_wp2_with fail
        have hbn := below_new W (.cells #[.int .i64 t] 3)
        have hpk := blk_new W (.cells #[.int .i64 t] 3)
        have c0 := keep1 hbn c0
        have c1 := keep1 hbn c1
        have HNq := Lib.hid (HNq.out.same hbn)
        have HN := Lib.hid (HN.out.same hbn)
        have HB := Lib.hid (HB.out.trans ((hbn).mono HB.out.size))
        have HZ := Lib.hid (Nat.le_trans HZ.out (hbn).size)
        have hR := run_any (.pointer none) _ _ _ [] (W.alloc (.cells #[.int .i64 t] 3)) (gi_none none (W.alloc (.cells #[.int .i64 t] 3)).heap.size (fun g h => by have := HZ.out; cases h <;> omega)) [] none 0 (by simp) (fun W hW => Sl.nil _ _ _) [t] (some ⟨W.heap.size, 0, none⟩) 1 (by simp) (fun u hu => by have e : u = t := (by simpa using hu); rw [e]; exact ht) (fun W hW => sl_of (xs := [t].flatMap decI) hpk hW (by simp) (by simp)) () ⟨HNq.out, Nat.le_refl _⟩
        refine hR.mono ?_
        rintro e w3 ⟨B, cb, rfl, hown, _, hm3⟩
        have hb3 : Below (W.alloc (.cells #[.int .i64 t] 3)).heap.size (W.alloc (.cells #[.int .i64 t] 3)) w3 := ⟨hm3.os, hm3.tape, hm3.output, hm3.size, fun k hk => hm3.block k hk (by simp)⟩
        obtain ⟨B2, cb2, hBc, _, _, hsl⟩ := own_slice hown
        cases hBc
        have HSL := Lib.hid (show Sl w3 w3.heap.size B (([(0, 0, 0)] : List Ev3).flatMap decEv) from hsl)
        have c0 := keep1 hb3 c0
        have c1 := keep1 hb3 c1
        have HNq := Lib.hid (HNq.out.same hb3)
        have HN := Lib.hid (HN.out.same hb3)
        have HB := Lib.hid (HB.out.trans ((hb3).mono HB.out.size))
        have HZ := Lib.hid (Nat.le_trans HZ.out (hb3).size)
        clear hbn hpk hR hown hsl hb3 hm3
        go_wp2_with fail
        refine (ndo none _ HNq.out t wn).mono ?_
        rintro e w4 ⟨rfl, hb4⟩
        have HSL := Lib.hid (HSL.out.step hb4)
        have c0 := keep1 hb4 c0
        have c1 := keep1 hb4 c1
        have HNq := Lib.hid (HNq.out.same hb4)
        have HN := Lib.hid (HN.out.same hb4)
        have HB := Lib.hid (HB.out.trans ((hb4).mono HB.out.size))
        have HZ := Lib.hid (Nat.le_trans HZ.out (hb4).size)
        clear hb4
        simp only [gev]
        go_wp2_with fail
        refine (nthreads none _ HNq.out).mono ?_
        rintro e wx ⟨rfl, hwx⟩
        obtain rfl := hwx.symm
        go_wp2_with fail
        refine (nwords none _ HNq.out).mono ?_
        rintro e w5 ⟨rfl, hb5⟩
        have HSL := Lib.hid (HSL.out.step hb5)
        have c0 := keep1 hb5 c0
        have c1 := keep1 hb5 c1
        have HNq := Lib.hid (HNq.out.same hb5)
        have HN := Lib.hid (HN.out.same hb5)
        have HB := Lib.hid (HB.out.trans ((hb5).mono HB.out.size))
        have HZ := Lib.hid (Nat.le_trans HZ.out (hb5).size)
        clear hb5
        obtain ⟨b, off, rfl, hbb, hcell⟩ := HSL.out.at_ (by decide)
        have e0 : w5.cell? ⟨b, off + 0, none⟩ = some (Value.int .i64 0) := hcell 0 (by decide)
        have e1 : w5.cell? ⟨b, off + 1, none⟩ = some (Value.int .i64 0) := hcell 1 (by decide)
        have e2 : w5.cell? ⟨b, off + 2, none⟩ = some (Value.bool false) := hcell 2 (by decide)
        have e3 : w5.cell? ⟨b, off + 3, none⟩ = some (Value.int .i64 0) := hcell 3 (by decide)
        rw [Nat.add_zero] at e0
        clear hcell
        go_wp2_with fail
        refine (nops none _ HNq.out).mono ?_
        rintro e wx ⟨rfl, hwx⟩
        obtain rfl := hwx.symm
        go_wp2_with fail
        refine (nstate none _ HNq.out t).mono ?_
        rintro e wx ⟨rfl, hwx⟩
        obtain rfl := hwx.symm
        go_wp2_with fail
        exact ⟨⟨rfl, rfl, rfl, rfl, 1, rfl, by omega, c0, c1, HN.out, HB.out, HZ.out⟩, by simp [intOf]⟩
      · have HNq := HN
        go_wp2_with fail
        have hbn := below_new W (.cells #[.int .i64 t] 3)
        have hpk := blk_new W (.cells #[.int .i64 t] 3)
        have c0 := keep1 hbn c0
        have c1 := keep1 hbn c1
        have HNq := Lib.hid (HNq.out.same hbn)
        have HN := Lib.hid (HN.out.same hbn)
        have HB := Lib.hid (HB.out.trans ((hbn).mono HB.out.size))
        have HZ := Lib.hid (Nat.le_trans HZ.out (hbn).size)
        have hR := run_any (.pointer (some ⟨w.heap.size + 1, 0, none⟩)) _ _ _ [] (W.alloc (.cells #[.int .i64 t] 3)) (gi_none (some ⟨w.heap.size + 1, 0, none⟩) (W.alloc (.cells #[.int .i64 t] 3)).heap.size (fun g h => by have := HZ.out; cases h <;> omega)) [] none 0 (by simp) (fun W hW => Sl.nil _ _ _) [t] (some ⟨W.heap.size, 0, none⟩) 1 (by simp) (fun u hu => by have e : u = t := (by simpa using hu); rw [e]; exact ht) (fun W hW => sl_of (xs := [t].flatMap decI) hpk hW (by simp) (by simp)) () ⟨HNq.out, Nat.le_refl _⟩
        refine hR.mono ?_
        rintro e w3 ⟨B, cb, rfl, hown, _, hm3⟩
        have hb3 : Below (W.alloc (.cells #[.int .i64 t] 3)).heap.size (W.alloc (.cells #[.int .i64 t] 3)) w3 := ⟨hm3.os, hm3.tape, hm3.output, hm3.size, fun k hk => hm3.block k hk (by simp)⟩
        obtain ⟨B2, cb2, hBc, _, _, hsl⟩ := own_slice hown
        cases hBc
        have HSL := Lib.hid (show Sl w3 w3.heap.size B (([(0, 0, 0)] : List Ev3).flatMap decEv) from hsl)
        have c0 := keep1 hb3 c0
        have c1 := keep1 hb3 c1
        have HNq := Lib.hid (HNq.out.same hb3)
        have HN := Lib.hid (HN.out.same hb3)
        have HB := Lib.hid (HB.out.trans ((hb3).mono HB.out.size))
        have HZ := Lib.hid (Nat.le_trans HZ.out (hb3).size)
        clear hbn hpk hR hown hsl hb3 hm3
        go_wp2_with fail
        refine (ndo (some ⟨w.heap.size + 1, 0, none⟩) _ HNq.out t wn).mono ?_
        rintro e w4 ⟨rfl, hb4⟩
        have HSL := Lib.hid (HSL.out.step hb4)
        have c0 := keep1 hb4 c0
        have c1 := keep1 hb4 c1
        have HNq := Lib.hid (HNq.out.same hb4)
        have HN := Lib.hid (HN.out.same hb4)
        have HB := Lib.hid (HB.out.trans ((hb4).mono HB.out.size))
        have HZ := Lib.hid (Nat.le_trans HZ.out (hb4).size)
        clear hb4
        simp only [gev]
        go_wp2_with fail
        refine (nthreads (some ⟨w.heap.size + 1, 0, none⟩) _ HNq.out).mono ?_
        rintro e wx ⟨rfl, hwx⟩
        obtain rfl := hwx.symm
        go_wp2_with fail
        refine (nwords (some ⟨w.heap.size + 1, 0, none⟩) _ HNq.out).mono ?_
        rintro e w5 ⟨rfl, hb5⟩
        have HSL := Lib.hid (HSL.out.step hb5)
        have c0 := keep1 hb5 c0
        have c1 := keep1 hb5 c1
        have HNq := Lib.hid (HNq.out.same hb5)
        have HN := Lib.hid (HN.out.same hb5)
        have HB := Lib.hid (HB.out.trans ((hb5).mono HB.out.size))
        have HZ := Lib.hid (Nat.le_trans HZ.out (hb5).size)
        clear hb5
        obtain ⟨b, off, rfl, hbb, hcell⟩ := HSL.out.at_ (by decide)
        have e0 : w5.cell? ⟨b, off + 0, none⟩ = some (Value.int .i64 0) := hcell 0 (by decide)
        have e1 : w5.cell? ⟨b, off + 1, none⟩ = some (Value.int .i64 0) := hcell 1 (by decide)
        have e2 : w5.cell? ⟨b, off + 2, none⟩ = some (Value.bool false) := hcell 2 (by decide)
        have e3 : w5.cell? ⟨b, off + 3, none⟩ = some (Value.int .i64 0) := hcell 3 (by decide)
        rw [Nat.add_zero] at e0
        clear hcell
        go_wp2_with fail
        refine (nops (some ⟨w.heap.size + 1, 0, none⟩) _ HNq.out).mono ?_
        rintro e wx ⟨rfl, hwx⟩
        obtain rfl := hwx.symm
        go_wp2_with fail
        refine (nstate (some ⟨w.heap.size + 1, 0, none⟩) _ HNq.out t).mono ?_
        rintro e wx ⟨rfl, hwx⟩
        obtain rfl := hwx.symm
        go_wp2_with fail
        exact ⟨⟨rfl, rfl, rfl, rfl, 2, rfl, by omega, c0, c1, HN.out, HB.out, HZ.out⟩, by simp [intOf]⟩
    · obtain rfl : k = 2 := by omega
      clear c0 c1
      go_wp2_with fail
      refine (awake21 _).mono ?_
      rintro e w9 ⟨rfl, hb9⟩
      go_wp2_with fail
      go_ret
      exact ⟨rfl, HB.out.trans (hb9.mono HB.out.size)⟩
structure Pick where
  th : Int
  want : Int
def decPk (p : Pick) : List Value := [.int .i64 p.th, .int .i64 p.want]
theorem reads_pk {H : Type} {enc : TypeId × Value → H} : Reads enc Tryz.prog 68 decPk (fun e => isI64 e.th ∧ isI64 e.want) :=
  (reads_s2 (d0 := Value.int .i64) (d1 := Value.int .i64) Tryz.underlying68 (by kernel_rfl) (by kernel_rfl) (reads_i64 Tryz.underlying3) (reads_i64 Tryz.underlying3)).map
    (fun p => ⟨p.1, p.2⟩) (fun _ => rfl) (fun _ h => h)
theorem none_law (w : World) (x : Pick) (h : isI64 x.th ∧ isI64 x.want) : Calls Tryz.prog 5 #[.agg (decPk x).toArray] w fun e w' => e = .returned (.bool true) ∧ Below w.heap.size w w' := gnone_walk x.th x.want (WalkArith.wf_i64 h.1) w
end Go.Proofs.YthffhhgaeolpgaaGreat.Ga

/- The document's gate of layer 21, in memory: State, Do. -/
namespace Go.Proofs.YthffhhgaeolpgaaGreat.Ga
open Go.RowKit Go.Proofs.YthffhhgaeolpgaaGreat.Ara Go.Proofs.YthffhhgaeolpgaaGreat.Lok Go.Proofs.YthffhhgaeolpgaaGreat.Fl

structure RG (W : World) (gy gK gL gr base hr : Nat) (p : PK) (ρ : Rf) (sp : List Sp) : Prop where
  gb : W.heap[gy]? = some (.cells #[.pointer (some ⟨gr, 0, none⟩), .pointer (some ⟨gK, 0, none⟩)] 70 (0, 0))
  rl : RFL W gK gL gr base hr p ρ sp
  n1 : gy ≠ gr
  n2 : gy ≠ hr
section
variable {W : World} {gy gK gL gr base hr : Nat} {p : PK} {ρ : Rf} {sp : List Sp} (k : RG W gy gK gL gr base hr p ρ sp)
include k
theorem RG.mod {S : List Nat} {W' : World} (hm : Mod S W W') (h : ∀ x ∈ S, x ≠ gr ∧ ¬ IntRow W x) (h0 : gy ∉ S) (h1 : gK ∉ S) (h2 : gL ∉ S) (h3 : hr ∉ S) : RG W' gy gK gL gr base hr p ρ sp :=
  ⟨hm.blk k.gb h0, k.rl.mod hm h h1 h2 h3, k.n1, k.n2⟩
theorem RG.same {W' : World} (hb : Below W.heap.size W W') : RG W' gy gK gL gr base hr p ρ sp := k.mod (S := []) (Mod.of_below hb) (by simp) (by simp) (by simp) (by simp) (by simp)
theorem RG.drewN (n : Nat) : RG (W.drewN n) gy gK gL gr base hr p ρ sp := k.mod (S := []) ((Mod.refl _ _).drewN n) (by simp) (by simp) (by simp) (by simp) (by simp)
theorem RG.acts {W' : World} {ρ' : Rf} {sp' : List Sp} (h : RFL W' gK gL gr base hr p ρ' sp') (hm : RMs base [gr, hr] W W') : RG W' gy gK gL gr base hr p ρ' sp' := by
  have h1 := k.n1
  have h2 := k.n2
  exact ⟨(hm.blk k.gb (by decide) (by simp; omega)).trans k.gb, h, h1, h2⟩
theorem RG.cells : W.cell? ⟨gy, 0, none⟩ = some (.pointer (some ⟨gr, 0, none⟩)) ∧ W.cell? ⟨gy, 1, none⟩ = some (.pointer (some ⟨gK, 0, none⟩)) := ⟨blk_cell k.gb 0 (by simp), blk_cell k.gb 1 (by simp)⟩
theorem RG.blocks : gy < W.heap.size ∧ gK < W.heap.size ∧ gL < W.heap.size ∧ gr < W.heap.size ∧ hr < W.heap.size := by
  obtain ⟨f1, f2, _, f4, _⟩ := k.rl.at_.facts
  obtain ⟨_, _, _, _, _, v, h5, _⟩ := f1
  exact ⟨lt_of_blk k.gb, lt_of_blk k.rl.fb, f4, lt_of_blk h5, f2.lt⟩
end
theorem rat21 (pc : Int) (w : World) (s : Sp) (hs : s.pc = pc) : Calls Tryz.prog 72 #[.int .i64 pc] w fun e w' => e = .returned (.int .i64 (gst s)) ∧ w' = w := by
  unfold gst
  rw [hs]
  by_cases h0 : pc = 0
  · subst h0
    go_enter Tryz.func72, Tryz.ntmps72
    go_wp2_with fail
    go_ret
    exact ⟨rfl, rfl⟩
  by_cases h1 : pc < 10
  · rw [if_neg h0, if_pos h1]
    have e0 := ibeq_no h0
    go_enter Tryz.func72, Tryz.ntmps72
    go_wp2_with fail
    go_ret
    exact ⟨rfl, rfl⟩
  by_cases h2 : pc = 10
  · subst h2
    go_enter Tryz.func72, Tryz.ntmps72
    go_wp2_with fail
    go_ret
    exact ⟨rfl, rfl⟩
  · rw [if_neg h0, if_neg h1, if_neg h2]
    have e0 := ibeq_no h0
    have e2 := ibeq_no h2
    have e1 : decide (pc < 10) = false := decide_eq_false h1
    go_enter Tryz.func72, Tryz.ntmps72
    go_wp2_with fail
    go_ret
    exact ⟨rfl, rfl⟩
set_option maxRecDepth 100000 in
theorem rstate21 {W : World} {gy gK gL gr base hr : Nat} {p : PK} {ρ : Rf} {sp : List Sp} (K : RG W gy gK gL gr base hr p ρ sp) (t : Int) : Calls Tryz.prog 37 #[.pointer (some ⟨gy, 0, none⟩), .int .i64 t] W fun e w' => e = .returned (.int .i64 (gst (spOf sp t))) ∧ Below W.heap.size W w' := by
  have HS := Lib.hid (rSpot K.rl t)
  have HT := Lib.hid (fun pc W hs => rat21 pc W (spOf sp t) hs)
  have q1 := fun a b c d W => fld0 a b c d W
  obtain ⟨c0, c1⟩ := K.cells
  clear K
  generalize spOf sp t = s at *
  obtain ⟨xp, xa, xb, xc⟩ := s
  simp only at HS
  go_enter Tryz.func37, Tryz.ntmps37
  go_wp2_with fail
  refine HS.out.mono ?_
  rintro e w2 ⟨rfl, hb⟩
  go_wp2_with fail
  refine (HT.out xp _ rfl).mono ?_
  rintro e wx ⟨rfl, hwx⟩
  obtain rfl := hwx.symm
  go_wp2_with fail
  go_ret
  exact ⟨rfl, hb⟩
structure RDo (gy gK gL gr base hr : Nat) (p : PK) (ρ : Rf) (sp : List Sp) (t want ek : Int) (w W : World) : Prop where
  rg : RG W gy gK gL gr base hr p ρ sp
  rm : RMs base [gr, hr] w W
  bp : W.heap[w.heap.size]? = some (.cells #[.int .i64 t, .int .i64 want] 68 (0, 0))
  bo : W.heap[w.heap.size + 1]? = some (.cells #[.int .i64 0, .int .i64 0, .bool false, .int .i64 0] 65 (0, 0))
  be : W.heap[w.heap.size + 2]? = some (.cells #[.int .i64 ek, .int .i64 t, .bool false, .int .i64 0] 65 (0, 0))
  ap : gy < w.heap.size ∧ gK < w.heap.size ∧ gL < w.heap.size ∧ gr < w.heap.size ∧ hr < w.heap.size
section
variable {gy gK gL gr base hr : Nat} {p : PK} {ρ : Rf} {sp : List Sp} {t want ek : Int} {w W : World} (k : RDo gy gK gL gr base hr p ρ sp t want ek w W)
include k
theorem RDo.same {W' : World} (hb : Below W.heap.size W W') : RDo gy gK gL gr base hr p ρ sp t want ek w W' := by
  have hm := Mod.of_below (S := []) hb
  exact ⟨k.rg.same hb, k.rm.trans (RMs.of_mod (Mod.of_below hb)), hm.blk k.bp (by simp), hm.blk k.bo (by simp), hm.blk k.be (by simp), k.ap⟩
theorem RDo.drewN (n : Nat) : RDo gy gK gL gr base hr p ρ sp t want ek w (W.drewN n) := ⟨k.rg.drewN n, k.rm.drewN n, k.bp, k.bo, k.be, k.ap⟩
theorem RDo.acts {W' : World} {ρ' : Rf} {sp' : List Sp} (h : RFL W' gK gL gr base hr p ρ' sp') (hm : RMs base [gr, hr] W W') : RDo gy gK gL gr base hr p ρ' sp' t want ek w W' := by
  obtain ⟨a1, a2, a3, a4, a5⟩ := k.ap
  exact ⟨k.rg.acts h hm, k.rm.trans hm, (hm.blk k.bp (by decide) (by simp; omega)).trans k.bp, (hm.blk k.bo (by decide) (by simp; omega)).trans k.bo, (hm.blk k.be (by decide) (by simp; omega)).trans k.be, k.ap⟩
theorem RDo.fin {W' : World} (hm : Mod [w.heap.size + 1, w.heap.size + 2] W W') : RG W' gy gK gL gr base hr p ρ sp ∧ RMs base [gr, hr] w W' := by
  obtain ⟨a1, a2, a3, a4, a5⟩ := k.ap
  have hi : ∀ x ∈ [w.heap.size + 1, w.heap.size + 2], x ≠ gr ∧ ¬ IntRow W x := by
    intro x hx
    simp at hx
    rcases hx with rfl | rfl
    · exact ⟨by omega, not_int k.bo (by decide)⟩
    · exact ⟨by omega, not_int k.be (by decide)⟩
  refine ⟨k.rg.mod hm hi (by simp; omega) (by simp; omega) (by simp; omega) (by simp; omega), ?_⟩
  have h1 := k.rm
  exact ⟨hm.os.trans h1.os, hm.tape.trans h1.tape, hm.output.trans h1.output, Nat.le_trans h1.size hm.size, fun q hq hn hr => (hm.block q (Nat.lt_of_lt_of_le hq h1.size) (by simp; omega)).trans (h1.block q hq hn hr)⟩
theorem RDo.kind (y : Int) : RDo gy gK gL gr base hr p ρ sp t want y w (W.setCell ⟨w.heap.size + 2, 0, none⟩ (.int .i64 y)) := by
  obtain ⟨h1, h2⟩ := k.fin ((Mod.refl [w.heap.size + 1, w.heap.size + 2] _).setCell (p := ⟨w.heap.size + 2, 0, none⟩) (by simp) (.int .i64 y))
  exact ⟨h1, h2, blk_other k.bp (by simp) _, blk_other k.bo (by simp) _, blk_set k.be 0 _, k.ap⟩
end
end Go.Proofs.YthffhhgaeolpgaaGreat.Ga

/- The document's gate of layer 21: Do. -/
namespace Go.Proofs.YthffhhgaeolpgaaGreat.Ga
open Go.RowKit Go.Proofs.YthffhhgaeolpgaaGreat.Ara Go.Proofs.YthffhhgaeolpgaaGreat.Lok Go.Proofs.YthffhhgaeolpgaaGreat.Fl

theorem rSpots_q {gK gL gr base hr : Nat} {p : PK} {ρ : Rf} {sp : List Sp} {w : World} (K : RFL w gK gL gr base hr p ρ sp) : ∃ c : Nat, ∀ n, Calls Tryz.prog 23 #[.pointer (some ⟨gK, 0, none⟩)] (w.drewN n) fun e w' => e = .returned (.slice (some ⟨hr, 0, none⟩) sp.length c) ∧ w' = w.drewN n := by
  cases p with
  | tas P =>
    have h0 := blk_cell K.fb 0 (by simp [rcs])
    have h1 := blk_cell K.fb 1 (by simp [rcs])
    simp only [rcs, List.getElem_toArray, List.getElem_cons_zero, List.getElem_cons_succ] at h0 h1
    obtain ⟨⟨c, q0, q1, q2, q3⟩, _⟩ := Ta.RLk.heads K.at_
    exact ⟨c, fun n => rSpots_1 gK gL _ (w.drewN n) h0 h1 q3⟩
  | tic P =>
    have h0 := blk_cell K.fb 0 (by simp [rcs])
    have h1 := blk_cell K.fb 2 (by simp [rcs])
    simp only [rcs, List.getElem_toArray, List.getElem_cons_zero, List.getElem_cons_succ] at h0 h1
    obtain ⟨⟨c, q0, q1, q2, q3⟩, _⟩ := Tk.RLk.heads K.at_
    exact ⟨c, fun n => rSpots_2 gK gL _ (w.drewN n) h0 h1 q3⟩
  | par P =>
    have h0 := blk_cell K.fb 0 (by simp [rcs])
    have h1 := blk_cell K.fb 3 (by simp [rcs])
    simp only [rcs, List.getElem_toArray, List.getElem_cons_zero, List.getElem_cons_succ] at h0 h1
    obtain ⟨⟨c, q0, q1, q2, q3⟩, _⟩ := Pt.RLk.heads K.at_
    exact ⟨c, fun n => rSpots_3 gK gL _ (w.drewN n) h0 h1 q3⟩
  | mcs P =>
    have h0 := blk_cell K.fb 0 (by simp [rcs])
    have h1 := blk_cell K.fb 4 (by simp [rcs])
    simp only [rcs, List.getElem_toArray, List.getElem_cons_zero, List.getElem_cons_succ] at h0 h1
    obtain ⟨⟨c, q0, q1, q2⟩, _⟩ := Mc.RLk.heads K.at_
    exact ⟨c, fun n => rSpots_4 gK gL _ (w.drewN n) h0 h1 q2⟩
  | clh P =>
    have h0 := blk_cell K.fb 0 (by simp [rcs])
    have h1 := blk_cell K.fb 5 (by simp [rcs])
    simp only [rcs, List.getElem_toArray, List.getElem_cons_zero, List.getElem_cons_succ] at h0 h1
    obtain ⟨⟨c, q0, q1, q2⟩, _⟩ := Cl.RLk.heads K.at_
    exact ⟨c, fun n => rSpots_5 gK gL _ (w.drewN n) h0 h1 q2⟩
theorem rg_fin {gy gK gL gr base hr : Nat} {p : PK} {ρ : Rf} {sp : List Sp} {w W W' : World} (K : RG W gy gK gL gr base hr p ρ sp) (hM : RMs base [gr, hr] w W) (ap : gy < w.heap.size ∧ gK < w.heap.size ∧ gL < w.heap.size ∧ gr < w.heap.size ∧ hr < w.heap.size) (hb : W.heap[w.heap.size + 1]? = some (.cells #[.int .i64 0, .int .i64 0, .bool false, .int .i64 0] 65 (0, 0))) (hm : Mod [w.heap.size + 1] W W') : RG W' gy gK gL gr base hr p ρ sp ∧ RMs base [gr, hr] w W' := by
  obtain ⟨a1, a2, a3, a4, a5⟩ := ap
  refine ⟨K.mod hm (fun x hx => ?_) (by simp; omega) (by simp; omega) (by simp; omega) (by simp; omega), ?_⟩
  · obtain rfl : x = w.heap.size + 1 := by simpa using hx
    exact ⟨by omega, not_int hb (by decide)⟩
  exact ⟨hm.os.trans hM.os, hm.tape.trans hM.tape, hm.output.trans hM.output, Nat.le_trans hM.size hm.size, fun q hq hn hr => (hm.block q (Nat.lt_of_lt_of_le hq hM.size) (by simp; omega)).trans (hM.block q hq hn hr)⟩
section
variable {gy gK gL gr base hr : Nat} {p : PK} {ρ : Rf} {sp : List Sp} {w : World} (K : RG w gy gK gL gr base hr p ρ sp) (t want : Int)
include K
set_option maxHeartbeats 4000000 in
set_option maxRecDepth 100000 in
theorem rdo_out (ht : t < 0 ∨ (sp.length : Int) ≤ t) : Calls Tryz.prog 33 #[.pointer (some ⟨gy, 0, none⟩), .agg #[.int .i64 t, .int .i64 want]] w fun e w' => e = .returned (gev 0 0 0) ∧ RG w' gy gK gL gr base hr p ρ sp ∧ RMs base [gr, hr] w w' := by
  have hb1 : Below w.heap.size w (w.alloc (.cells #[.int .i64 t, .int .i64 want] 68)) := below_new _ _
  have hb2 : Below w.heap.size w ((w.alloc (.cells #[.int .i64 t, .int .i64 want] 68)).alloc (.cells #[.int .i64 0, .int .i64 0, .bool false, .int .i64 0] 65)) := hb1.alloc hb1.size _
  have HE := Lib.hid (show ((w.alloc (.cells #[.int .i64 t, .int .i64 want] 68)).alloc (.cells #[.int .i64 0, .int .i64 0, .bool false, .int .i64 0] 65)).heap[w.heap.size + 1]? = some (.cells #[.int .i64 0, .int .i64 0, .bool false, .int .i64 0] 65 (0, 0)) from by simpa using blk_new (w.alloc (.cells #[.int .i64 t, .int .i64 want] 68)) (.cells #[.int .i64 0, .int .i64 0, .bool false, .int .i64 0] 65))
  have HP := Lib.hid (show ((w.alloc (.cells #[.int .i64 t, .int .i64 want] 68)).alloc (.cells #[.int .i64 0, .int .i64 0, .bool false, .int .i64 0] 65)).heap[w.heap.size]? = some (.cells #[.int .i64 t, .int .i64 want] 68 (0, 0)) from (heap_alloc_old _ _ (by simp)).trans (blk_new _ _))
  have hK := K.same hb2
  have ap := Lib.hid K.blocks
  obtain ⟨cc, hSp⟩ := rSpots_q hK.rl
  have HSp := Lib.hid hSp
  have HK := Lib.hid hK
  have HM := Lib.hid (RMs.of_mod (base := base) (Mod.of_below (S := [gr, hr]) hb2))
  have hz2 : ((w.alloc (.cells #[.int .i64 t, .int .i64 want] 68)).alloc (.cells #[.int .i64 0, .int .i64 0, .bool false, .int .i64 0] 65)).heap.size = w.heap.size + 2 := by simp
  obtain ⟨q0, q1⟩ := hK.cells
  obtain ⟨_, _, hl32, _⟩ := hK.rl.at_.facts
  clear K hK hb1 hb2 hSp
  by_cases h0 : t < 0
  · clear HSp ht
    go_enter Tryz.func33, Tryz.ntmps33
    go_wp2_with fail
    go_quiet (fail)
    have HK2 := Lib.hid (HK.out.drewN nq)
    have HM2 := Lib.hid (HM.out.drewN nq)
    have HE2 := Lib.hid (show (((w.alloc (.cells #[.int .i64 t, .int .i64 want] 68)).alloc (.cells #[.int .i64 0, .int .i64 0, .bool false, .int .i64 0] 65)).drewN nq).heap[w.heap.size + 1]? = some (.cells #[.int .i64 0, .int .i64 0, .bool false, .int .i64 0] 65 (0, 0)) from HE.out)
    clear HK HM HE HP q0 q1 hz2
    generalize ((w.alloc (.cells #[.int .i64 t, .int .i64 want] 68)).alloc (.cells #[.int .i64 0, .int .i64 0, .bool false, .int .i64 0] 65)).drewN nq = W2 at *
    have d0 := blk_cell HE2.out 0 (by simp)
    have d1 := blk_cell HE2.out 1 (by simp)
    have d2 := blk_cell HE2.out 2 (by simp)
    have d3 := blk_cell HE2.out 3 (by simp)
    simp only [List.getElem_toArray, List.getElem_cons_zero, List.getElem_cons_succ] at d0 d1 d2 d3
    have f0 := blk_free HE2.out 0
    have f1 := blk_free HE2.out 1
    have f2 := blk_free HE2.out 2
    have f3 := blk_free HE2.out 3
    have k0 := blk_set HE2.out 0 (.int .i64 (0))
    have k1 := blk_set k0 1 (.int .i64 (0))
    have k2 := blk_set k1 2 (.bool false)
    have k3 := blk_set k2 3 (.int .i64 (0))
    have g0 := blk_cell k0 0 (by simp)
    have g1 := blk_cell k1 1 (by simp)
    have g2 := blk_cell k2 2 (by simp)
    have g3 := blk_cell k3 3 (by simp)
    simp at g0 g1 g2 g3
    clear k0 k1 k2 k3
    go_wp2_with fail
    refine bodyPost_ret (v := gev (0) (0) (0)) ?_ rfl ⟨rfl, ?_⟩
    · simp [gev, results, Tryz.results33, go_sem, g0, g1, g2, g3]
    · exact rg_fin HK2.out HM2.out ap.out HE2.out (((((Mod.refl [w.heap.size + 1] _).setCell (by simp) _).setCell (by simp) _).setCell (by simp) _).setCell (by simp) _)
  · have h1 : (sp.length : Int) ≤ t := by omega
    have h2 : decide (t < 0) = false := decide_eq_false h0
    clear ht
    go_enter Tryz.func33, Tryz.ntmps33
    go_wp2_with fail
    go_quiet ((go_at_call 23; exact Calls.quiet_of_same (HSp.out _)))
    have HK2 := Lib.hid (HK.out.drewN nq)
    have HM2 := Lib.hid (HM.out.drewN nq)
    have HE2 := Lib.hid (show (((w.alloc (.cells #[.int .i64 t, .int .i64 want] 68)).alloc (.cells #[.int .i64 0, .int .i64 0, .bool false, .int .i64 0] 65)).drewN nq).heap[w.heap.size + 1]? = some (.cells #[.int .i64 0, .int .i64 0, .bool false, .int .i64 0] 65 (0, 0)) from HE.out)
    clear HK HM HE HP q0 q1 hz2
    generalize ((w.alloc (.cells #[.int .i64 t, .int .i64 want] 68)).alloc (.cells #[.int .i64 0, .int .i64 0, .bool false, .int .i64 0] 65)).drewN nq = W2 at *
    have d0 := blk_cell HE2.out 0 (by simp)
    have d1 := blk_cell HE2.out 1 (by simp)
    have d2 := blk_cell HE2.out 2 (by simp)
    have d3 := blk_cell HE2.out 3 (by simp)
    simp only [List.getElem_toArray, List.getElem_cons_zero, List.getElem_cons_succ] at d0 d1 d2 d3
    have f0 := blk_free HE2.out 0
    have f1 := blk_free HE2.out 1
    have f2 := blk_free HE2.out 2
    have f3 := blk_free HE2.out 3
    have k0 := blk_set HE2.out 0 (.int .i64 (0))
    have k1 := blk_set k0 1 (.int .i64 (0))
    have k2 := blk_set k1 2 (.bool false)
    have k3 := blk_set k2 3 (.int .i64 (0))
    have g0 := blk_cell k0 0 (by simp)
    have g1 := blk_cell k1 1 (by simp)
    have g2 := blk_cell k2 2 (by simp)
    have g3 := blk_cell k3 3 (by simp)
    simp at g0 g1 g2 g3
    clear k0 k1 k2 k3
    go_wp2_with fail
    refine bodyPost_ret (v := gev (0) (0) (0)) ?_ rfl ⟨rfl, ?_⟩
    · simp [gev, results, Tryz.results33, go_sem, g0, g1, g2, g3]
    · exact rg_fin HK2.out HM2.out ap.out HE2.out (((((Mod.refl [w.heap.size + 1] _).setCell (by simp) _).setCell (by simp) _).setCell (by simp) _).setCell (by simp) _)
end
end Go.Proofs.YthffhhgaeolpgaaGreat.Ga

