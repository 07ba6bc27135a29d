/- Merged texts: Sp13, Ff1. -/
import Derived.Test.YtfmiioddhpkdkaaGreatWh30
set_option linter.unusedVariables false
/- The walk of layer 12: Of. -/
namespace Go.Proofs.YtfmiioddhpkdkaaGreat.Sp
open Go.RowKit Go.Maps
theorem frame66 {a : Act} (h : a.tmps.size = 66) (hd : a.defers = []) : ∃ u : Nat → Value, a = { tmps := #[u 0, u 1, u 2, u 3, u 4, u 5, u 6, u 7, u 8, u 9, u 10, u 11, u 12, u 13, u 14, u 15, u 16, u 17, u 18, u 19, u 20, u 21, u 22, u 23, u 24, u 25, u 26, u 27, u 28, u 29, u 30, u 31, u 32, u 33, u 34, u 35, u 36, u 37, u 38, u 39, u 40, u 41, u 42, u 43, u 44, u 45, u 46, u 47, u 48, u 49, u 50, u 51, u 52, u 53, u 54, u 55, u 56, u 57, u 58, u 59, u 60, u 61, u 62, u 63, u 64, u 65], defers := [] } ∧ ∀ n, a.tmps.getD n undef = u n := by
  refine ⟨fun n => a.tmps.getD n undef, ?_, fun _ => rfl⟩
  have h1 := arr_lit a.tmps h
  cases a with
  | mk t d =>
    simp only at hd h1
    subst hd
    congr 1
theorem lawI : Keyed Tryz.prog 3 := int_keyed Tryz.underlying3
theorem zeroI (w : World) : (zeroValue 3).run Tryz.prog w = .ok (.int .i64 0) w := by kernel_rfl
theorem wpList_lookup_hit (w : World) {ops : Array Oper} {rest : List Oper} {o : Oper} {a : Act} {Q : Exit → Act → World → Prop}
    (hg : o.guard = none) (m x : Operand) (hop : o.op = Op.lookup 82 m x true)
    (b n : Nat) (D : DataW Unit) (hm : a.eval m = .map (some b)) (hown : w.ownsMap Tryz.prog 3 (plainElem Tryz.prog 3) b n D) (t : Int) (hx : a.eval x = .int .i64 t) (hwf : (Lit.int .i64 t).wf = true)
    (c0 : Int) (b0 : Bool) (hb : Maps.has D (kI t) = b0) (hc : ∀ z, D.atKey (kI t) z = z ∨ D.atKey (kI t) z = .lit (.int .i64 c0)) (h0 : b0 = false → c0 = 0)
    (hb1 : b0 = true → ∀ z, D.atKey (kI t) z = .lit (.int .i64 c0))
    (hK : wpList Tryz.prog ops Q rest (a.put o.dst (.tuple #[.int .i64 c0, .bool b0])) w) :
    wpList Tryz.prog ops Q (o :: rest) a w :=
  wpList_lookup_own_ok_int w hg m x _ hop 3 3 .i64 lawI Tryz.underlying82 Tryz.underlying3 (zeroI _) b n D hm hown _ (kI t) hx (keyOf_int_mk Tryz.underlying3 hwf) (fun c hat _ => by
    have : c = c0 := by
      cases hbb : b0 with
      | true =>
        rw [hb1 hbb] at hat
        have h2 : c0 = c := by simpa using hat
        exact h2.symm
      | false =>
        have hno : Maps.has D (kI t) = false := by rw [hb, hbb]
        rw [atKey_of_not_has hno] at hat
        have h2 : (0 : Int) = c := by simpa using hat
        rw [h0 hbb]
        exact h2.symm
    rw [this, hb]
    exact hK)
theorem mapN {w : World} {b n : Nat} {D : DataW Unit} (h : w.ownsMap Tryz.prog 3 (plainElem Tryz.prog 3) b n D) (q : Nat) : (w.drewN q).ownsMap Tryz.prog 3 (plainElem Tryz.prog 3) b n D := h
theorem behind_put {w W w1 : World} {ev : E} {v : Value} {n : Nat} {xs : List Value} (hb : Below w.heap.size w W) (ho : W.ownsRow (w.heap.size + 1) 40 7 v n xs) (hs : w.heap.size + 1 ≤ W.heap.size)
    (hg : (W.alloc (.cells #[.int .i64 ev.kind, .int .i64 ev.th, .bool ev.rd, .int .i64 ev.ct] 44)).grownBy w1 (some w.heap.size)) :
    w1.cell? ⟨W.heap.size, 0, none⟩ = some (.int .i64 ev.kind) ∧ w1.cell? ⟨W.heap.size, 1, none⟩ = some (.int .i64 ev.th) ∧ w1.cell? ⟨W.heap.size, 2, none⟩ = some (.bool ev.rd) ∧ w1.cell? ⟨W.heap.size, 3, none⟩ = some (.int .i64 ev.ct) ∧
    w.heap.size + 1 ≤ w1.heap.size ∧ w1.ownsRow (w.heap.size + 1) 40 7 v n xs ∧ Below w.heap.size w w1 := by
  have hk : w1.heap[W.heap.size]? = some (.cells #[.int .i64 ev.kind, .int .i64 ev.th, .bool ev.rd, .int .i64 ev.ct] 44) :=
    (hg.block W.heap.size (by simp) (by intro e; injection e with e; omega)).trans (blk_new _ _)
  refine ⟨blk_cell hk 0 (by simp), blk_cell hk 1 (by simp), blk_cell hk 2 (by simp), blk_cell hk 3 (by simp), ?_, ?_, ?_⟩
  · have := hg.size
    simp at this
    omega
  · refine (ho.alloc _).kept hg ?_
    cases hv : v.ownBlock with
    | none => exact .inl rfl
    | some b =>
      right
      intro e
      injection e with e
      have := ho.lt b hv
      omega
  · exact (hb.alloc hb.size _).grown hg (by have := hb.size; simp; omega) (fun k hk => by injection hk with hk; omega)
theorem ev_cells (W : World) (ev : E) : (W.alloc (.cells #[.int .i64 ev.kind, .int .i64 ev.th, .bool ev.rd, .int .i64 ev.ct] 44)).heap[W.heap.size]? = some (.cells #[.int .i64 ev.kind, .int .i64 ev.th, .bool ev.rd, .int .i64 ev.ct] 44) := blk_new _ _
def EvS (bx : Nat) (ev : E) (V : World) : Prop := V.cell? ⟨bx, 0, none⟩ = some (.int .i64 ev.kind) ∧ V.cell? ⟨bx, 1, none⟩ = some (.int .i64 ev.th) ∧ V.cell? ⟨bx, 2, none⟩ = some (.bool ev.rd) ∧ V.cell? ⟨bx, 3, none⟩ = some (.int .i64 ev.ct)
theorem ev_s {V : World} {bx : Nat} {ev : E} (h : V.heap[bx]? = some (.cells #[.int .i64 ev.kind, .int .i64 ev.th, .bool ev.rd, .int .i64 ev.ct] 44)) : EvS bx ev V :=
  ⟨blk_cell h 0 (by simp), blk_cell h 1 (by simp), blk_cell h 2 (by simp), blk_cell h 3 (by simp)⟩
theorem own_head {w : World} {base n cap : Nat} {B : Option Addr} {e : TypeId} {size : Nat} {xs : List Value} (h : w.ownsRow base e size (.slice B n cap) n xs) (hn : 0 < n) : ∃ g, B = some ⟨g, 0, none⟩ ∧ base ≤ g ∧ g < w.heap.size := by
  rcases h.2 with ⟨_, h0⟩ | ⟨g, cap', cur, hv, hb, hg, _⟩
  · omega
  · cases hv
    exact ⟨g, rfl, hb, lt_of_blk hg⟩
theorem SRow.to {base g cap n : Nat} {out : List St} {w : World} (h : SRow base g cap out w) (hl : out.length = n) : w.ownsRow base 40 7 (.slice (some ⟨g, 0, none⟩) n cap) out.length (out.flatMap dSt) := by subst hl; exact h
theorem mod_grown1 {g : Nat} {a w : World} (h : Mod [g] a w) : a.grownBy w (some g) := ⟨h.os, h.tape, h.output, h.size, fun k hk hne => h.block k hk (fun e => hne (by rw [List.mem_singleton.1 e]))⟩
theorem sz_ev {W w2 : World} {S : List Nat} {o : Obj} (h : Mod S ((W.alloc o).drew) w2) : W.heap.size ≤ w2.heap.size := by
  have h1 := h.size
  have h2 : ((W.alloc o).drew).heap.size = W.heap.size + 1 := by show (W.alloc _).heap.size = _; simp
  omega
def OfK (l : List E) (w : World) (A : Option Addr) (cap : Nat) (a : Act) (W : World) : Prop :=
  a.tmps.size = 66 ∧ a.defers = [] ∧ a.tmps.getD 4 undef = .map (some w.heap.size) ∧ a.tmps.getD 10 undef = .slice A l.length cap ∧ a.tmps.getD 11 undef = .int .i64 (l.length : Int) ∧ ∃ (k : Nat) (v : Value) (D : DataW Unit) (n : Nat), a.tmps.getD 3 undef = v ∧ a.tmps.getD 12 undef = .int .i64 (k : Int) ∧ k ≤ l.length ∧
    W.ownsRow (w.heap.size + 1) 40 7 v (outP l k).length ((outP l k).flatMap dSt) ∧ W.ownsMap Tryz.prog 3 (plainElem Tryz.prog 3) w.heap.size n D ∧ n ≤ k ∧ MapR D (outP l k) ∧ Below w.heap.size w W ∧ w.heap.size + 1 ≤ W.heap.size
def Wf (l : List E) : Prop := ∀ e ∈ l, (Lit.int .i64 e.th).wf = true
set_option maxRecDepth 100000 in
set_option maxHeartbeats 4000000 in
theorem of_any (l : List E) (A : Option Addr) (cap : Nat) (w : World) (hm : l.length ≤ 1000) (hwf : Wf l) (hs : Sl w w.heap.size A (l.flatMap dE)) :
    Calls Tryz.prog 10 #[.slice A l.length cap] w fun e w' => ∃ B c, e = .returned (.slice B (outP l l.length).length c) ∧ w'.ownsRow (w.heap.size + 1) 40 7 (.slice B (outP l l.length).length c) (outP l l.length).length ((outP l l.length).flatMap dSt) ∧ Below w.heap.size w w' := by
  have HS := Lib.hid hs
  have HWF := Lib.hid hwf
  have hmm := @run_makeMap Tryz.prog
  clear hs hwf
  go_enter Tryz.func10, Tryz.ntmps10
  go_wp2_with fail
  refine wp_loop (OfK l w A cap) (fun a' _ => l.length - (intOf (a'.tmps.getD 12 undef)).toNat) ?_ ?_
  · exact ⟨rfl, rfl, rfl, rfl, rfl, 0, _, .map [], 0, rfl, rfl, Nat.zero_le _, World.ownsRow_nil _ _ _ _, World.ownsMap_made _ _ _ _, Nat.le_refl _, mapR_nil, (Below.refl _ _).alloc (Nat.le_refl _) _, by simp⟩
  · rintro a' W ⟨hsz, hdf, s4, s10, s11, k, v, D, n, s3, s12, hk, hown, hmap, hn, hR, hbel, hws⟩
    obtain ⟨u, rfl, hu⟩ := frame66 hsz hdf
    rw [hu] at s4 s10 s11 s3 s12
    simp only [s4, s10, s11, s3, s12]
    clear hsz hdf s4 s10 s11 s3 s12 hu
    have HB := Lib.hid hbel
    have HO := Lib.hid hown
    have HR := Lib.hid hR
    have HM := Lib.hid hmap
    have hol := outP_len l k
    by_cases hlt : k < l.length
    · obtain ⟨b, off, hA, hbb, hcell⟩ := sl_ev ((HS.out.below hbel).more hbel.size) (by omega)
      subst hA
      obtain ⟨c0, c1, c2, c3⟩ := hcell k hlt
      have i1 : (k : Int) < (l.length : Int) := by omega
      have HW := Lib.hid (HWF.out _ (by rw [List.getD_eq_getElem?_getD, List.getElem?_eq_getElem hlt]; exact List.getElem_mem hlt : l.getD k e0 ∈ l))
      obtain ⟨B2, cb, rfl, _, _, hsl⟩ := own_slice hown
      have HST : Hid (outP l (k + 1) = stepP (outP l k) k (l.getD k e0)) := Lib.hid rfl
      clear hcell hbel hown hsl hR hmap
      generalize l.getD k e0 = ev at *
      generalize outP l k = out at *
      cases hany : out.any (isO ev.th) with
      | false =>
        have HL := Lib.hid ((HR.out.2 ev.th).1.trans hany)
        by_cases h1 : ev.kind = 1
        · have HV : Hid (outP l (k + 1) = out ++ [⟨ev.th, ev.rd, k, -1, -1, -1, 0⟩]) := Lib.hid (HST.out.trans (step_new hany h1))
          have HR2 : Hid (MapR (D.put (kI ev.th) (.lit (.int .i64 (out.length : Int)))) (out ++ [⟨ev.th, ev.rd, k, -1, -1, -1, 0⟩])) := Lib.hid (HR.out.new (s := ⟨ev.th, ev.rd, k, -1, -1, -1, 0⟩) (by show (-1 : Int) < 0; decide) hany)
          have q := ibeq h1
          clear h1 hany
          go_wp2_with (first
            | (at_lookup; refine wpList_lookup_hit _ rfl _ _ rfl w.heap.size n D rfl (HM.out.alloc _) ev.th rfl HW.out 0 false HL.out (fun z => .inl (atKey_of_not_has HL.out z)) (fun _ => rfl) (fun h => by cases h) ?_)
            | (at_mapUpdate; refine wpList_mapUpdate_own _ rfl _ _ _ 82 rfl 3 3 lawI Tryz.underlying82 _ w.heap.size n D rfl (HM.out.alloc _) (by unfold maxLen; omega) _ _ (kI ev.th) rfl rfl (keyOf_int_mk Tryz.underlying3 HW.out) _ [] (plainElem_int Tryz.underlying3 (WalkArith.wf_i64 (by omega))) ?_; intro w1 hown1 hgrow1; obtain ⟨d0, d1, d2, d3, hsz1, how1, hbel1⟩ := behind_put HB.out HO.out hws hgrow1; have HM1 := Lib.hid hown1; have HO1 := Lib.hid how1; have HB1 := Lib.hid hbel1; clear hown1 hgrow1 how1 hbel1)
            | (at_builtin; refine wpList_append1 (.tmp 37) (.tmp 44) 37 40 _ 7 56 rfl rfl Tryz.underlying37 infoSt rfl (by decide) (w.heap.size + 1) _ _ _ _ _ _ _ _ HO1.out rfl rfl ?cgS rfl ?d1S ?d2S ?d3S ?d4S ?ckS; case' ckS => intro v' w2 hown2 hb2 hg2))
          case cgS => first | rfl | simp
          case d1S => simp [Value.oneCell']
          case d2S => simp only [maxLen]; omega
          case d3S => omega
          try (case d4S => omega)
          have HM2 := Lib.hid (HM1.out.kept hg2 (fun e => by have := HO1.out.lt _ e.symm; omega))
          have HB2 := Lib.hid (HB1.out.trans (hb2.mono (Nat.le_succ _)))
          have HO2 := Lib.hid hown2
          have HZ := Lib.hid (Nat.le_trans hsz1 hg2.size)
          clear hown2 hb2 hg2
          go_wp2_with fail
          go_roundw
          case rel => exact ⟨rfl, rfl, rfl, rfl, rfl, k + 1, v', _, n + 1, rfl, by go_num, by omega, by rw [HV.out]; simpa [dSt] using HO2.out, HM2.out, by omega, by rw [HV.out]; exact HR2.out, HB2.out, HZ.out⟩
          case measure => simp [intOf]; omega
        · have HV : Hid (outP l (k + 1) = out) := Lib.hid (HST.out.trans (step_none hany h1))
          have q := ibeq_no h1
          clear h1 hany
          go_wp2_with (at_lookup; refine wpList_lookup_hit _ rfl _ _ rfl w.heap.size n D rfl (HM.out.alloc _) ev.th rfl HW.out 0 false HL.out (fun z => .inl (atKey_of_not_has HL.out z)) (fun _ => rfl) (fun h => by cases h) ?_)
          go_quiet (fail)
          go_wp2_with fail
          go_roundw
          case rel => exact ⟨rfl, rfl, rfl, rfl, rfl, k + 1, _, D, n, rfl, by go_num, by omega, by rw [HV.out]; exact own_drewN (HO.out.alloc _) _, mapN (HM.out.alloc _) _, by omega, by rw [HV.out]; exact HR.out, below_drewN (HB.out.alloc HB.out.size _) _, by show w.heap.size + 1 ≤ ((W.alloc _).drewN _).heap.size; simp; omega⟩
          case measure => simp [intOf]; omega
      | true =>
        obtain ⟨j, hj, ho⟩ := (any_iff _ _).1 hany
        have HL := Lib.hid ((HR.out.2 ev.th).1.trans hany)
        have HAT := Lib.hid ((HR.out.2 ev.th).2 j hj ho)
        obtain ⟨g, rfl, hg1, hg2⟩ := own_head HO.out (by omega)
        have HV : Hid (outP l (k + 1) = out.set j (noteP k (out.getD j s0) ev)) := Lib.hid (HST.out.trans (step_hit HR.out hj ho))
        have HN := Lib.hid (note_any (w.heap.size + 1) g cb k j out ev ((W.alloc (.cells #[.int .i64 ev.kind, .int .i64 ev.th, .bool ev.rd, .int .i64 ev.ct] 44)).drew) (SRow.drew (SRow.alloc HO.out _)) hj)
        have HE := Lib.hid (ev_cells W ev)
        have i2 : (j : Int) < (out.length : Int) := by omega
        have HL2 : Hid ((out.set j (noteP k (out.getD j s0) ev)).length = out.length) := Lib.hid List.length_set
        by_cases hdel : ev.kind = 4 ∧ 0 ≤ (out.getD j s0).ex
        · obtain ⟨hnb, hre⟩ := note_end (k := k) hdel.1 hdel.2
          rw [hnb] at HN
          have HR2 := Lib.hid (HR.out.close hj ho hre)
          have q1 : (ev.kind == 1) = false := ibeq_no (by omega)
          have HQ4 := Lib.hid (ibeq hdel.1)
          clear hdel hnb hre hany ho
          generalize out.set j (noteP k (out.getD j s0) ev) = out' at *
          go_wp2_with (at_lookup; refine wpList_lookup_hit _ rfl _ _ rfl w.heap.size n D rfl (HM.out.alloc _) ev.th rfl HW.out (j : Int) true HL.out (fun z => .inr (HAT.out z)) (fun h => by cases h) (fun _ => HAT.out) ?_)
          refine wp_region_held_drew (S := fun V => V.cell? ⟨W.heap.size, 0, none⟩ = some (.int .i64 ev.kind) ∧ V.cell? ⟨W.heap.size, 1, none⟩ = some (.int .i64 ev.th) ∧ V.cell? ⟨W.heap.size, 2, none⟩ = some (.bool ev.rd) ∧ V.cell? ⟨W.heap.size, 3, none⟩ = some (.int .i64 ev.ct)) (by kernel_rfl) (ev_s HE.out) (fun hHeld => ?_)
          refine tkA 0 47 (v := ?_) ?_ ?_
          rotate_left
          focus (intro w hSw; (try dsimp only at hSw); go_simp; (try with_reducible rfl))
          simp only [Act.put, List.setIfInBounds_toArray, List.set_cons_zero, List.set_cons_succ]
          refine tkA 1 48 (v := ?_) ?_ ?_
          rotate_left
          focus (intro w hSw; (try dsimp only at hSw); go_simp; (try with_reducible rfl))
          simp only [Act.put, List.setIfInBounds_toArray, List.set_cons_zero, List.set_cons_succ]
          refine tkA 2 49 (v := ?_) ?_ ?_
          rotate_left
          focus (intro w hSw; (try dsimp only at hSw); go_simp; (try with_reducible rfl))
          simp only [Act.put, List.setIfInBounds_toArray, List.set_cons_zero, List.set_cons_succ]
          refine tkA 3 50 (v := ?_) ?_ ?_
          rotate_left
          focus (intro w hSw; (try dsimp only at hSw); go_simp; (try with_reducible rfl))
          simp only [Act.put, List.setIfInBounds_toArray, List.set_cons_zero, List.set_cons_succ]
          refine tkA 4 51 (v := ?_) ?_ ?_
          rotate_left
          focus (intro w hSw; (try dsimp only at hSw); go_simp; (try with_reducible rfl))
          simp only [Act.put, List.setIfInBounds_toArray, List.set_cons_zero, List.set_cons_succ]
          refine tkA 5 52 (v := ?_) ?_ ?_
          rotate_left
          focus (intro w hSw; (try dsimp only at hSw); go_simp; (try with_reducible rfl))
          simp only [Act.put, List.setIfInBounds_toArray, List.set_cons_zero, List.set_cons_succ]
          refine tkA 6 53 (v := ?_) ?_ ?_
          rotate_left
          focus (intro w hSw; (try dsimp only at hSw); go_simp; (try with_reducible rfl))
          simp only [Act.put, List.setIfInBounds_toArray, List.set_cons_zero, List.set_cons_succ]
          refine wpAnyH_ready (rs := [7]) (by kernel_rfl) (by simp) ?_
          refine AllReadyH.cons rfl (fun K hK => ?_) AllReadyH.nil
          go_simp
          refine (HN.out).mono ?_
          rintro e w2 ⟨rfl, hr2, hm2⟩
          go_simp
          have HE2 := Lib.hid (hm2.blk (show ((W.alloc (.cells #[.int .i64 ev.kind, .int .i64 ev.th, .bool ev.rd, .int .i64 ev.ct] 44)).drew).heap[W.heap.size]? = _ from HE.out) (by simp; omega))
          have HM2 := Lib.hid hm2
          have HR4 := Lib.hid (hr2.to HL2.out)
          have HMP := Lib.hid (((HM.out.alloc (.cells #[.int .i64 ev.kind, .int .i64 ev.th, .bool ev.rd, .int .i64 ev.ct] 44)).drew).kept (mod_grown1 hm2) (by intro e; injection e with e; omega))
          have HB2 := Lib.hid (((HB.out.alloc HB.out.size (.cells #[.int .i64 ev.kind, .int .i64 ev.th, .bool ev.rd, .int .i64 ev.ct] 44)).drew).grown (mod_grown1 hm2) (by have := HB.out.size; show _ ≤ (W.alloc _).heap.size; simp; omega) (fun q hq => by injection hq with hq; omega))
          have HZ2 := Lib.hid (sz_ev hm2)
          clear hm2 hr2
          refine hK.out _ _ (ev_s HE2.out) (fun hHeld => ?_)
          refine tkA 8 55 (v := ?_) ?_ ?_
          rotate_left
          focus (intro w hSw; (try dsimp only at hSw); go_simp; (try with_reducible rfl))
          simp only [Act.put, List.setIfInBounds_toArray, List.set_cons_zero, List.set_cons_succ]
          refine tkA 9 56 (v := ?_) ?_ ?_
          rotate_left
          focus (intro w hSw; (try dsimp only at hSw); go_simp; (try with_reducible rfl))
          simp only [Act.put, List.setIfInBounds_toArray, List.set_cons_zero, List.set_cons_succ]
          have q4 := HQ4.out
          refine tkA 10 57 (v := ?_) ?_ ?_
          rotate_left
          focus (intro w hSw; (try dsimp only at hSw); go_simp; (try with_reducible rfl))
          simp only [Act.put, List.setIfInBounds_toArray, List.set_cons_zero, List.set_cons_succ]
          refine tkA 11 58 (v := ?_) ?_ ?_
          rotate_left
          focus (intro w hSw; (try dsimp only at hSw); go_simp; (try with_reducible rfl))
          simp only [Act.put, List.setIfInBounds_toArray, List.set_cons_zero, List.set_cons_succ]
          refine tkA 12 59 (v := ?_) ?_ ?_
          rotate_left
          focus (intro w hSw; (try dsimp only at hSw); go_simp; (try with_reducible rfl))
          simp only [Act.put, List.setIfInBounds_toArray, List.set_cons_zero, List.set_cons_succ]
          refine tkA 13 60 (v := ?_) ?_ ?_
          rotate_left
          focus (intro w hSw; (try dsimp only at hSw); go_simp; (try with_reducible rfl))
          simp only [Act.put, List.setIfInBounds_toArray, List.set_cons_zero, List.set_cons_succ]
          refine tkA 14 46 (v := ?_) ?_ ?_
          rotate_left
          focus (intro w hSw; (try dsimp only at hSw); go_simp; (try with_reducible rfl))
          simp only [Act.put, List.setIfInBounds_toArray, List.set_cons_zero, List.set_cons_succ]
          refine wpAnyH_done (by kernel_rfl) ?_ _
          obtain ⟨d0, d1, d2, d3⟩ := ev_s HE2.out
          go_wp2_with (at_delete; refine wpList_delete_own _ rfl _ _ 82 3 rfl 3 lawI Tryz.underlying82 _ w.heap.size n D rfl HMP.out _ (kI ev.th) rfl (keyOf_int_mk Tryz.underlying3 HW.out) ?_; intro w3 hown3 hturn3; have HM3 := Lib.hid hown3; have HT3 := Lib.hid hturn3; clear hown3 hturn3 d0 d1 d2 d3)
          have HO3 := Lib.hid (HR4.out.kept HT3.out.grown (.inr (by simp [Value.ownBlock]; omega)))
          have HB3 := Lib.hid (HB2.out.grown HT3.out.grown (Nat.le_trans HB.out.size HZ2.out) (fun q hq => by injection hq with hq; omega))
          have HZ3 := Lib.hid (Nat.le_trans (Nat.le_trans hws HZ2.out) HT3.out.grown.size)
          go_wp2_with fail
          go_roundw
          case rel => exact ⟨rfl, rfl, rfl, rfl, rfl, k + 1, _, _, n, rfl, by go_num, by omega, by rw [HV.out]; exact HO3.out, HM3.out, by omega, by rw [HV.out]; exact HR2.out, HB3.out, HZ3.out⟩
          case measure => simp [intOf]; omega
        · have hopn := fun t => note_open (k := k) (s := out.getD j s0) (e := ev) hdel t
          have HR2 := Lib.hid (HR.out.set hj hopn)
          clear hopn
          cases hnb : noteB (out.getD j s0) ev with
          | true =>
            have h4 : ¬ ev.kind = 4 := fun h => by
              have := (noteB_iff _ _).1 hnb
              omega
            have h1 : ¬ ev.kind = 1 := fun h => by
              have := (noteB_iff _ _).1 hnb
              omega
            rw [hnb] at HN
            have q1 := ibeq_no h1
            have HQ4 := Lib.hid (ibeq_no h4)
            clear hdel hnb h1 h4 hany ho
            generalize out.set j (noteP k (out.getD j s0) ev) = out' at *
            go_wp2_with (at_lookup; refine wpList_lookup_hit _ rfl _ _ rfl w.heap.size n D rfl (HM.out.alloc _) ev.th rfl HW.out (j : Int) true HL.out (fun z => .inr (HAT.out z)) (fun h => by cases h) (fun _ => HAT.out) ?_)
            refine wp_region_held_drew (S := fun V => V.cell? ⟨W.heap.size, 0, none⟩ = some (.int .i64 ev.kind) ∧ V.cell? ⟨W.heap.size, 1, none⟩ = some (.int .i64 ev.th) ∧ V.cell? ⟨W.heap.size, 2, none⟩ = some (.bool ev.rd) ∧ V.cell? ⟨W.heap.size, 3, none⟩ = some (.int .i64 ev.ct)) (by kernel_rfl) (ev_s HE.out) (fun hHeld => ?_)
            refine tkA 0 47 (v := ?_) ?_ ?_
            rotate_left
            focus (intro w hSw; (try dsimp only at hSw); go_simp; (try with_reducible rfl))
            simp only [Act.put, List.setIfInBounds_toArray, List.set_cons_zero, List.set_cons_succ]
            refine tkA 1 48 (v := ?_) ?_ ?_
            rotate_left
            focus (intro w hSw; (try dsimp only at hSw); go_simp; (try with_reducible rfl))
            simp only [Act.put, List.setIfInBounds_toArray, List.set_cons_zero, List.set_cons_succ]
            refine tkA 2 49 (v := ?_) ?_ ?_
            rotate_left
            focus (intro w hSw; (try dsimp only at hSw); go_simp; (try with_reducible rfl))
            simp only [Act.put, List.setIfInBounds_toArray, List.set_cons_zero, List.set_cons_succ]
            refine tkA 3 50 (v := ?_) ?_ ?_
            rotate_left
            focus (intro w hSw; (try dsimp only at hSw); go_simp; (try with_reducible rfl))
            simp only [Act.put, List.setIfInBounds_toArray, List.set_cons_zero, List.set_cons_succ]
            refine tkA 4 51 (v := ?_) ?_ ?_
            rotate_left
            focus (intro w hSw; (try dsimp only at hSw); go_simp; (try with_reducible rfl))
            simp only [Act.put, List.setIfInBounds_toArray, List.set_cons_zero, List.set_cons_succ]
            refine tkA 5 52 (v := ?_) ?_ ?_
            rotate_left
            focus (intro w hSw; (try dsimp only at hSw); go_simp; (try with_reducible rfl))
            simp only [Act.put, List.setIfInBounds_toArray, List.set_cons_zero, List.set_cons_succ]
            refine tkA 6 53 (v := ?_) ?_ ?_
            rotate_left
            focus (intro w hSw; (try dsimp only at hSw); go_simp; (try with_reducible rfl))
            simp only [Act.put, List.setIfInBounds_toArray, List.set_cons_zero, List.set_cons_succ]
            refine wpAnyH_ready (rs := [7]) (by kernel_rfl) (by simp) ?_
            refine AllReadyH.cons rfl (fun K hK => ?_) AllReadyH.nil
            go_simp
            refine (HN.out).mono ?_
            rintro e w2 ⟨rfl, hr2, hm2⟩
            go_simp
            have HE2 := Lib.hid (hm2.blk (show ((W.alloc (.cells #[.int .i64 ev.kind, .int .i64 ev.th, .bool ev.rd, .int .i64 ev.ct] 44)).drew).heap[W.heap.size]? = _ from HE.out) (by simp; omega))
            have HM2 := Lib.hid hm2
            have HR4 := Lib.hid (hr2.to HL2.out)
            have HMP := Lib.hid (((HM.out.alloc (.cells #[.int .i64 ev.kind, .int .i64 ev.th, .bool ev.rd, .int .i64 ev.ct] 44)).drew).kept (mod_grown1 hm2) (by intro e; injection e with e; omega))
            have HB2 := Lib.hid (((HB.out.alloc HB.out.size (.cells #[.int .i64 ev.kind, .int .i64 ev.th, .bool ev.rd, .int .i64 ev.ct] 44)).drew).grown (mod_grown1 hm2) (by have := HB.out.size; show _ ≤ (W.alloc _).heap.size; simp; omega) (fun q hq => by injection hq with hq; omega))
            have HZ2 := Lib.hid (sz_ev hm2)
            clear hm2 hr2
            refine hK.out _ _ (ev_s HE2.out) (fun hHeld => ?_)
            refine tkA 8 55 (v := ?_) ?_ ?_
            rotate_left
            focus (intro w hSw; (try dsimp only at hSw); go_simp; (try with_reducible rfl))
            simp only [Act.put, List.setIfInBounds_toArray, List.set_cons_zero, List.set_cons_succ]
            refine tkA 9 56 (v := ?_) ?_ ?_
            rotate_left
            focus (intro w hSw; (try dsimp only at hSw); go_simp; (try with_reducible rfl))
            simp only [Act.put, List.setIfInBounds_toArray, List.set_cons_zero, List.set_cons_succ]
            have q4 := HQ4.out
            refine tkA 10 57 (v := ?_) ?_ ?_
            rotate_left
            focus (intro w hSw; (try dsimp only at hSw); go_simp; (try with_reducible rfl))
            simp only [Act.put, List.setIfInBounds_toArray, List.set_cons_zero, List.set_cons_succ]
            refine tkA 11 58 (v := ?_) ?_ ?_
            rotate_left
            focus (intro w hSw; (try dsimp only at hSw); go_simp; (try with_reducible rfl))
            simp only [Act.put, List.setIfInBounds_toArray, List.set_cons_zero, List.set_cons_succ]
            refine tkA 12 59 (v := ?_) ?_ ?_
            rotate_left
            focus (intro w hSw; (try dsimp only at hSw); go_simp; (try with_reducible rfl))
            simp only [Act.put, List.setIfInBounds_toArray, List.set_cons_zero, List.set_cons_succ]
            refine tkA 13 60 (v := ?_) ?_ ?_
            rotate_left
            focus (intro w hSw; (try dsimp only at hSw); go_simp; (try with_reducible rfl))
            simp only [Act.put, List.setIfInBounds_toArray, List.set_cons_zero, List.set_cons_succ]
            refine tkA 14 46 (v := ?_) ?_ ?_
            rotate_left
            focus (intro w hSw; (try dsimp only at hSw); go_simp; (try with_reducible rfl))
            simp only [Act.put, List.setIfInBounds_toArray, List.set_cons_zero, List.set_cons_succ]
            refine wpAnyH_done (by kernel_rfl) ?_ _
            go_wp2_with fail
            go_roundw
            case rel => exact ⟨rfl, rfl, rfl, rfl, rfl, k + 1, _, D, n, rfl, by go_num, by omega, by rw [HV.out]; exact HR4.out, HMP.out, by omega, by rw [HV.out]; exact HR2.out, HB2.out, Nat.le_trans hws HZ2.out⟩
            case measure => simp [intOf]; omega
          | false =>
            rw [hnb] at HN
            by_cases h1 : ev.kind = 1
            · have q1 := ibeq h1
              clear hdel hnb h1 hany ho
              generalize out.set j (noteP k (out.getD j s0) ev) = out' at *
              go_wp2_with (at_lookup; refine wpList_lookup_hit _ rfl _ _ rfl w.heap.size n D rfl (HM.out.alloc _) ev.th rfl HW.out (j : Int) true HL.out (fun z => .inr (HAT.out z)) (fun h => by cases h) (fun _ => HAT.out) ?_)
              refine wp_region_held_drew (S := fun V => V.cell? ⟨W.heap.size, 0, none⟩ = some (.int .i64 ev.kind) ∧ V.cell? ⟨W.heap.size, 1, none⟩ = some (.int .i64 ev.th) ∧ V.cell? ⟨W.heap.size, 2, none⟩ = some (.bool ev.rd) ∧ V.cell? ⟨W.heap.size, 3, none⟩ = some (.int .i64 ev.ct)) (by kernel_rfl) (ev_s HE.out) (fun hHeld => ?_)
              refine tkA 0 47 (v := ?_) ?_ ?_
              rotate_left
              focus (intro w hSw; (try dsimp only at hSw); go_simp; (try with_reducible rfl))
              simp only [Act.put, List.setIfInBounds_toArray, List.set_cons_zero, List.set_cons_succ]
              refine tkA 1 48 (v := ?_) ?_ ?_
              rotate_left
              focus (intro w hSw; (try dsimp only at hSw); go_simp; (try with_reducible rfl))
              simp only [Act.put, List.setIfInBounds_toArray, List.set_cons_zero, List.set_cons_succ]
              refine tkA 2 49 (v := ?_) ?_ ?_
              rotate_left
              focus (intro w hSw; (try dsimp only at hSw); go_simp; (try with_reducible rfl))
              simp only [Act.put, List.setIfInBounds_toArray, List.set_cons_zero, List.set_cons_succ]
              refine tkA 3 50 (v := ?_) ?_ ?_
              rotate_left
              focus (intro w hSw; (try dsimp only at hSw); go_simp; (try with_reducible rfl))
              simp only [Act.put, List.setIfInBounds_toArray, List.set_cons_zero, List.set_cons_succ]
              refine tkA 4 51 (v := ?_) ?_ ?_
              rotate_left
              focus (intro w hSw; (try dsimp only at hSw); go_simp; (try with_reducible rfl))
              simp only [Act.put, List.setIfInBounds_toArray, List.set_cons_zero, List.set_cons_succ]
              refine tkA 5 52 (v := ?_) ?_ ?_
              rotate_left
              focus (intro w hSw; (try dsimp only at hSw); go_simp; (try with_reducible rfl))
              simp only [Act.put, List.setIfInBounds_toArray, List.set_cons_zero, List.set_cons_succ]
              refine tkA 6 53 (v := ?_) ?_ ?_
              rotate_left
              focus (intro w hSw; (try dsimp only at hSw); go_simp; (try with_reducible rfl))
              simp only [Act.put, List.setIfInBounds_toArray, List.set_cons_zero, List.set_cons_succ]
              refine wpAnyH_ready (rs := [7]) (by kernel_rfl) (by simp) ?_
              refine AllReadyH.cons rfl (fun K hK => ?_) AllReadyH.nil
              go_simp
              refine (HN.out).mono ?_
              rintro e w2 ⟨rfl, hr2, hm2⟩
              go_simp
              have HE2 := Lib.hid (hm2.blk (show ((W.alloc (.cells #[.int .i64 ev.kind, .int .i64 ev.th, .bool ev.rd, .int .i64 ev.ct] 44)).drew).heap[W.heap.size]? = _ from HE.out) (by simp; omega))
              have HM2 := Lib.hid hm2
              have HR4 := Lib.hid (hr2.to HL2.out)
              have HMP := Lib.hid (((HM.out.alloc (.cells #[.int .i64 ev.kind, .int .i64 ev.th, .bool ev.rd, .int .i64 ev.ct] 44)).drew).kept (mod_grown1 hm2) (by intro e; injection e with e; omega))
              have HB2 := Lib.hid (((HB.out.alloc HB.out.size (.cells #[.int .i64 ev.kind, .int .i64 ev.th, .bool ev.rd, .int .i64 ev.ct] 44)).drew).grown (mod_grown1 hm2) (by have := HB.out.size; show _ ≤ (W.alloc _).heap.size; simp; omega) (fun q hq => by injection hq with hq; omega))
              have HZ2 := Lib.hid (sz_ev hm2)
              clear hm2 hr2
              refine hK.out _ _ (ev_s HE2.out) (fun hHeld => ?_)
              refine tkA 8 55 (v := ?_) ?_ ?_
              rotate_left
              focus (intro w hSw; (try dsimp only at hSw); go_simp; (try with_reducible rfl))
              simp only [Act.put, List.setIfInBounds_toArray, List.set_cons_zero, List.set_cons_succ]
              refine tkA 9 56 (v := ?_) ?_ ?_
              rotate_left
              focus (intro w hSw; (try dsimp only at hSw); go_simp; (try with_reducible rfl))
              simp only [Act.put, List.setIfInBounds_toArray, List.set_cons_zero, List.set_cons_succ]
              refine take_to 10 (some 57) (v := undef) rfl rfl (by kernel_rfl) (by kernel_rfl) (by kernel_rfl) (fun _ _ _ h => h) (Or.inr ⟨by rfl, rfl⟩) (by first | trivial | assumption) ?_
              simp only [Act.put, List.setIfInBounds_toArray, List.set_cons_zero, List.set_cons_succ]
              refine take_to 11 (some 58) (v := undef) rfl rfl (by kernel_rfl) (by kernel_rfl) (by kernel_rfl) (fun _ _ _ h => h) (Or.inr ⟨by rfl, rfl⟩) (by first | trivial | assumption) ?_
              simp only [Act.put, List.setIfInBounds_toArray, List.set_cons_zero, List.set_cons_succ]
              refine take_to 12 (some 59) (v := undef) rfl rfl (by kernel_rfl) (by kernel_rfl) (by kernel_rfl) (fun _ _ _ h => h) (Or.inr ⟨by rfl, rfl⟩) (by first | trivial | assumption) ?_
              simp only [Act.put, List.setIfInBounds_toArray, List.set_cons_zero, List.set_cons_succ]
              refine tkA 13 60 (v := ?_) ?_ ?_
              rotate_left
              focus (intro w hSw; (try dsimp only at hSw); go_simp; (try with_reducible rfl))
              simp only [Act.put, List.setIfInBounds_toArray, List.set_cons_zero, List.set_cons_succ]
              refine tkA 14 46 (v := ?_) ?_ ?_
              rotate_left
              focus (intro w hSw; (try dsimp only at hSw); go_simp; (try with_reducible rfl))
              simp only [Act.put, List.setIfInBounds_toArray, List.set_cons_zero, List.set_cons_succ]
              refine wpAnyH_done (by kernel_rfl) ?_ _
              go_wp2_with fail
              go_roundw
              case rel => exact ⟨rfl, rfl, rfl, rfl, rfl, k + 1, _, D, n, rfl, by go_num, by omega, by rw [HV.out]; exact HR4.out, HMP.out, by omega, by rw [HV.out]; exact HR2.out, HB2.out, Nat.le_trans hws HZ2.out⟩
              case measure => simp [intOf]; omega
            · have q1 := ibeq_no h1
              clear hdel hnb h1 hany ho
              generalize out.set j (noteP k (out.getD j s0) ev) = out' at *
              go_wp2_with (at_lookup; refine wpList_lookup_hit _ rfl _ _ rfl w.heap.size n D rfl (HM.out.alloc _) ev.th rfl HW.out (j : Int) true HL.out (fun z => .inr (HAT.out z)) (fun h => by cases h) (fun _ => HAT.out) ?_)
              refine wp_region_held_drew (S := fun V => V.cell? ⟨W.heap.size, 0, none⟩ = some (.int .i64 ev.kind) ∧ V.cell? ⟨W.heap.size, 1, none⟩ = some (.int .i64 ev.th) ∧ V.cell? ⟨W.heap.size, 2, none⟩ = some (.bool ev.rd) ∧ V.cell? ⟨W.heap.size, 3, none⟩ = some (.int .i64 ev.ct)) (by kernel_rfl) (ev_s HE.out) (fun hHeld => ?_)
              refine tkA 0 47 (v := ?_) ?_ ?_
              rotate_left
              focus (intro w hSw; (try dsimp only at hSw); go_simp; (try with_reducible rfl))
              simp only [Act.put, List.setIfInBounds_toArray, List.set_cons_zero, List.set_cons_succ]
              refine tkA 1 48 (v := ?_) ?_ ?_
              rotate_left
              focus (intro w hSw; (try dsimp only at hSw); go_simp; (try with_reducible rfl))
              simp only [Act.put, List.setIfInBounds_toArray, List.set_cons_zero, List.set_cons_succ]
              refine tkA 2 49 (v := ?_) ?_ ?_
              rotate_left
              focus (intro w hSw; (try dsimp only at hSw); go_simp; (try with_reducible rfl))
              simp only [Act.put, List.setIfInBounds_toArray, List.set_cons_zero, List.set_cons_succ]
              refine tkA 3 50 (v := ?_) ?_ ?_
              rotate_left
              focus (intro w hSw; (try dsimp only at hSw); go_simp; (try with_reducible rfl))
              simp only [Act.put, List.setIfInBounds_toArray, List.set_cons_zero, List.set_cons_succ]
              refine tkA 4 51 (v := ?_) ?_ ?_
              rotate_left
              focus (intro w hSw; (try dsimp only at hSw); go_simp; (try with_reducible rfl))
              simp only [Act.put, List.setIfInBounds_toArray, List.set_cons_zero, List.set_cons_succ]
              refine tkA 5 52 (v := ?_) ?_ ?_
              rotate_left
              focus (intro w hSw; (try dsimp only at hSw); go_simp; (try with_reducible rfl))
              simp only [Act.put, List.setIfInBounds_toArray, List.set_cons_zero, List.set_cons_succ]
              refine tkA 6 53 (v := ?_) ?_ ?_
              rotate_left
              focus (intro w hSw; (try dsimp only at hSw); go_simp; (try with_reducible rfl))
              simp only [Act.put, List.setIfInBounds_toArray, List.set_cons_zero, List.set_cons_succ]
              refine wpAnyH_ready (rs := [7]) (by kernel_rfl) (by simp) ?_
              refine AllReadyH.cons rfl (fun K hK => ?_) AllReadyH.nil
              go_simp
              refine (HN.out).mono ?_
              rintro e w2 ⟨rfl, hr2, hm2⟩
              go_simp
              have HE2 := Lib.hid (hm2.blk (show ((W.alloc (.cells #[.int .i64 ev.kind, .int .i64 ev.th, .bool ev.rd, .int .i64 ev.ct] 44)).drew).heap[W.heap.size]? = _ from HE.out) (by simp; omega))
              have HM2 := Lib.hid hm2
              have HR4 := Lib.hid (hr2.to HL2.out)
              have HMP := Lib.hid (((HM.out.alloc (.cells #[.int .i64 ev.kind, .int .i64 ev.th, .bool ev.rd, .int .i64 ev.ct] 44)).drew).kept (mod_grown1 hm2) (by intro e; injection e with e; omega))
              have HB2 := Lib.hid (((HB.out.alloc HB.out.size (.cells #[.int .i64 ev.kind, .int .i64 ev.th, .bool ev.rd, .int .i64 ev.ct] 44)).drew).grown (mod_grown1 hm2) (by have := HB.out.size; show _ ≤ (W.alloc _).heap.size; simp; omega) (fun q hq => by injection hq with hq; omega))
              have HZ2 := Lib.hid (sz_ev hm2)
              clear hm2 hr2
              refine hK.out _ _ (ev_s HE2.out) (fun hHeld => ?_)
              refine tkA 8 55 (v := ?_) ?_ ?_
              rotate_left
              focus (intro w hSw; (try dsimp only at hSw); go_simp; (try with_reducible rfl))
              simp only [Act.put, List.setIfInBounds_toArray, List.set_cons_zero, List.set_cons_succ]
              refine tkA 9 56 (v := ?_) ?_ ?_
              rotate_left
              focus (intro w hSw; (try dsimp only at hSw); go_simp; (try with_reducible rfl))
              simp only [Act.put, List.setIfInBounds_toArray, List.set_cons_zero, List.set_cons_succ]
              refine take_to 10 (some 57) (v := undef) rfl rfl (by kernel_rfl) (by kernel_rfl) (by kernel_rfl) (fun _ _ _ h => h) (Or.inr ⟨by rfl, rfl⟩) (by first | trivial | assumption) ?_
              simp only [Act.put, List.setIfInBounds_toArray, List.set_cons_zero, List.set_cons_succ]
              refine take_to 11 (some 58) (v := undef) rfl rfl (by kernel_rfl) (by kernel_rfl) (by kernel_rfl) (fun _ _ _ h => h) (Or.inr ⟨by rfl, rfl⟩) (by first | trivial | assumption) ?_
              simp only [Act.put, List.setIfInBounds_toArray, List.set_cons_zero, List.set_cons_succ]
              refine take_to 12 (some 59) (v := undef) rfl rfl (by kernel_rfl) (by kernel_rfl) (by kernel_rfl) (fun _ _ _ h => h) (Or.inr ⟨by rfl, rfl⟩) (by first | trivial | assumption) ?_
              simp only [Act.put, List.setIfInBounds_toArray, List.set_cons_zero, List.set_cons_succ]
              refine tkA 13 60 (v := ?_) ?_ ?_
              rotate_left
              focus (intro w hSw; (try dsimp only at hSw); go_simp; (try with_reducible rfl))
              simp only [Act.put, List.setIfInBounds_toArray, List.set_cons_zero, List.set_cons_succ]
              refine tkA 14 46 (v := ?_) ?_ ?_
              rotate_left
              focus (intro w hSw; (try dsimp only at hSw); go_simp; (try with_reducible rfl))
              simp only [Act.put, List.setIfInBounds_toArray, List.set_cons_zero, List.set_cons_succ]
              refine wpAnyH_done (by kernel_rfl) ?_ _
              go_wp2_with fail
              go_roundw
              case rel => exact ⟨rfl, rfl, rfl, rfl, rfl, k + 1, _, D, n, rfl, by go_num, by omega, by rw [HV.out]; exact HR4.out, HMP.out, by omega, by rw [HV.out]; exact HR2.out, HB2.out, Nat.le_trans hws HZ2.out⟩
              case measure => simp [intOf]; omega
    · obtain rfl : k = l.length := by omega
      have i1 : ¬ (l.length : Int) < (l.length : Int) := by omega
      obtain ⟨B2, cb, rfl, _, _, hsl⟩ := own_slice hown
      clear hown hbel hsl hR hmap
      go_wp2_with fail
      go_ret
      first | exact ⟨B2, ⟨cb, rfl⟩, HO.out, HB.out⟩ | exact ⟨B2, cb, rfl, HO.out, HB.out⟩
end Go.Proofs.YtfmiioddhpkdkaaGreat.Sp

/- Package tally: Fifo: all enter in the order in which they asked. -/
namespace Go.Proofs.YtfmiioddhpkdkaaGreat.Ff
open Go.RowKit Go.Proofs.YtfmiioddhpkdkaaGreat.Ara Go.Proofs.YtfmiioddhpkdkaaGreat.Sp Go.Proofs.YtfmiioddhpkdkaaGreat.Wf

def vSt (s : St) : Value := .agg (dSt s).toArray
theorem nan_any (x : Int) (w : World) : Calls Tryz.prog 50 #[.int .i64 x] w fun e w' => e = .returned (.bool false) ∧ w' = w := by
  have e0 := ibeq (rfl : x = x)
  go_enter Tryz.func50, Tryz.ntmps50
  go_wp2_with fail
  go_ret
  exact ⟨rfl, rfl⟩
def cmpI (x y : Int) : Int := if x < y then -1 else if y < x then 1 else 0
theorem cmp_any (x y : Int) (w : World) : Calls Tryz.prog 30 #[.int .i64 x, .int .i64 y] w fun e w' => e = .returned (.int .i64 (cmpI x y)) ∧ w' = w := by
  have hx := nan_any x w
  have hy := nan_any y w
  replace hx := Lib.hid hx
  replace hy := Lib.hid hy
  unfold cmpI
  by_cases h : x < y
  · rw [if_pos h]
    go_enter Tryz.func30, Tryz.ntmps30
    go_wp2_with fail
    refine (hx.out).mono ?_
    rintro e wx ⟨rfl, hwx⟩
    obtain rfl := hwx.symm
    go_wp2_with fail
    refine (hy.out).mono ?_
    rintro e wx ⟨rfl, hwx⟩
    obtain rfl := hwx.symm
    go_wp2_with fail
    go_ret
    exact ⟨rfl, rfl⟩
  · rw [if_neg h]
    by_cases h2 : y < x
    · rw [if_pos h2]
      go_enter Tryz.func30, Tryz.ntmps30
      go_wp2_with fail
      refine (hx.out).mono ?_
      rintro e wx ⟨rfl, hwx⟩
      obtain rfl := hwx.symm
      go_wp2_with fail
      refine (hy.out).mono ?_
      rintro e wx ⟨rfl, hwx⟩
      obtain rfl := hwx.symm
      go_wp2_with fail
      go_ret
      exact ⟨rfl, rfl⟩
    · rw [if_neg h2]
      go_enter Tryz.func30, Tryz.ntmps30
      go_wp2_with fail
      refine (hx.out).mono ?_
      rintro e wx ⟨rfl, hwx⟩
      obtain rfl := hwx.symm
      go_wp2_with fail
      refine (hy.out).mono ?_
      rintro e wx ⟨rfl, hwx⟩
      obtain rfl := hwx.symm
      go_wp2_with fail
      go_ret
      exact ⟨rfl, rfl⟩
theorem entered_any (s : St) (n : Nat) (w : World) : Calls Tryz.prog 31 #[vSt s, .int .i64 (n : Int)] w fun e w' => e = .returned (.int .i64 (ent n s)) ∧ Below w.heap.size w w' := by
  obtain ⟨th, rd, ask, en, ex, re, ct⟩ := s
  have hb := Lib.hid (below_new w (.cells #[.int .i64 th, .bool rd, .int .i64 ask, .int .i64 en, .int .i64 ex, .int .i64 re, .int .i64 ct] 40))
  unfold ent vSt
  simp only [dSt]
  by_cases h : en < 0
  · rw [if_pos h]
    go_enter Tryz.func31, Tryz.ntmps31
    go_wp2_with fail
    go_ret
    exact ⟨rfl, hb.out⟩
  · rw [if_neg h]
    go_enter Tryz.func31, Tryz.ntmps31
    go_wp2_with fail
    go_ret
    exact ⟨rfl, hb.out⟩
theorem own_sl7 {w : World} {base n c : Nat} {B : Option Addr} {out : List St} (h : w.ownsRow base 40 7 (.slice B n c) n (out.flatMap dSt)) : Sl w w.heap.size B (out.flatMap dSt) := by
  obtain ⟨A, c', hA, _, _, hc⟩ := own_slice h
  cases hA
  exact hc
theorem sl_st7 {w : World} {Bd : Nat} {A : Option Addr} {l : List St} (h : Sl w Bd A (l.flatMap dSt)) (hk : 0 < l.length) : ∃ b off, A = some ⟨b, off, none⟩ ∧ b < Bd ∧ ∀ j, j < l.length → w.cell? ⟨b, off + j * 7, none⟩ = some (.int .i64 (l.getD j s0).th) ∧ w.cell? ⟨b, off + j * 7 + 1, none⟩ = some (.bool (l.getD j s0).rd) ∧ w.cell? ⟨b, off + j * 7 + 2, none⟩ = some (.int .i64 (l.getD j s0).ask) ∧ w.cell? ⟨b, off + j * 7 + 3, none⟩ = some (.int .i64 (l.getD j s0).en) ∧ w.cell? ⟨b, off + j * 7 + 4, none⟩ = some (.int .i64 (l.getD j s0).ex) ∧ w.cell? ⟨b, off + j * 7 + 5, none⟩ = some (.int .i64 (l.getD j s0).re) ∧ w.cell? ⟨b, off + j * 7 + 6, none⟩ = some (.int .i64 (l.getD j s0).ct) := by
  obtain ⟨b, off, rfl, hb, hc⟩ := Sl_at (dec := dSt) (k := 7) (fun _ => rfl) (by omega) h hk
  refine ⟨b, off, rfl, hb, fun j hj => ?_⟩
  have h0 := hc j hj 0 (by omega)
  have h1 := hc j hj 1 (by omega)
  have h2 := hc j hj 2 (by omega)
  have h3 := hc j hj 3 (by omega)
  have h4 := hc j hj 4 (by omega)
  have h5 := hc j hj 5 (by omega)
  have h6 := hc j hj 6 (by omega)
  simp only [dSt, List.getElem?_cons_zero, List.getElem?_cons_succ, Nat.add_zero, ← Nat.add_assoc] at h0 h1 h2 h3 h4 h5 h6
  have e : l.getD j s0 = l[j] := by rw [List.getD_eq_getElem?_getD, List.getElem?_eq_getElem hj]; rfl
  rw [e]
  exact ⟨h0, h1, h2, h3, h4, h5, h6⟩
end Go.Proofs.YtfmiioddhpkdkaaGreat.Ff

