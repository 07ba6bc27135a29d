/- Merged texts: GaW. -/
import Derived.Test.YthffhhgaeolpgaaGreatGt19
set_option linter.unusedVariables false
/- Layer 21's law GateTrace: the walk. -/
namespace Go.Proofs.YthffhhgaeolpgaaGreat.Ga
open Go.RowKit Go.Proofs.YthffhhgaeolpgaaGreat.Ara Go.Proofs.YthffhhgaeolpgaaGreat.Lok Go.Proofs.YthffhhgaeolpgaaGreat.Fl Go.Proofs.YthffhhgaeolpgaaGreat.Aut

theorem frame146 {a : Act} (h : a.tmps.size = 146) (hd : a.defers = []) : ∃ u : Nat → Value, a = { tmps := #[u 0, u 1, u 2, u 3, u 4, u 5, u 6, u 7, u 8, u 9, u 10, u 11, u 12, u 13, u 14, u 15, u 16, u 17, u 18, u 19, u 20, u 21, u 22, u 23, u 24, u 25, u 26, u 27, u 28, u 29, u 30, u 31, u 32, u 33, u 34, u 35, u 36, u 37, u 38, u 39, u 40, u 41, u 42, u 43, u 44, u 45, u 46, u 47, u 48, u 49, u 50, u 51, u 52, u 53, u 54, u 55, u 56, u 57, u 58, u 59, u 60, u 61, u 62, u 63, u 64, u 65, u 66, u 67, u 68, u 69, u 70, u 71, u 72, u 73, u 74, u 75, u 76, u 77, u 78, u 79, u 80, u 81, u 82, u 83, u 84, u 85, u 86, u 87, u 88, u 89, u 90, u 91, u 92, u 93, u 94, u 95, u 96, u 97, u 98, u 99, u 100, u 101, u 102, u 103, u 104, u 105, u 106, u 107, u 108, u 109, u 110, u 111, u 112, u 113, u 114, u 115, u 116, u 117, u 118, u 119, u 120, u 121, u 122, u 123, u 124, u 125, u 126, u 127, u 128, u 129, u 130, u 131, u 132, u 133, u 134, u 135, u 136, u 137, u 138, u 139, u 140, u 141, u 142, u 143, u 144, u 145], defers := [] } ∧ ∀ n, a.tmps.getD n undef = u n := by
  refine ⟨fun n => a.tmps.getD n undef, ?_, fun _ => rfl⟩
  have h1 := arr_lit a.tmps h
  cases a with
  | mk t d =>
    simp only at hd h1
    subst hd
    congr 1
theorem auto_mod {S : List Nat} {W W' : World} {g h : Nat} {s : List Nat} (k : AutoIn W g h s) (hm : Mod S W W') (h1 : g ∉ S) (h2 : h ∉ S) : AutoIn W' g h s := by
  obtain ⟨A, c, k1, k2⟩ := k
  refine ⟨A, c, hm.blk k1 h1, ?_⟩
  rcases k2 with k2 | ⟨a, b, k3⟩
  · exact .inl k2
  · exact .inr ⟨a, b, hm.blk k3 h2⟩
theorem rel_first {sp : List Sp} {N : Nat} (hl : sp.length = N) (h : ∀ i, (spOf sp i).pc = 0) : Rel (List.replicate N 0) sp := by
  refine ⟨by rw [List.length_replicate, hl], fun i h1 h2 => ?_⟩
  rw [List.getElem_replicate]
  have := h (i : Int)
  rw [spOf_in h2] at this
  rw [gst_0 this]
  rfl
theorem first_pc (kind : Int) (n : Nat) (par : Int) (a : Nat) (σ1 : Ar) (i : Int) : (spOf (firstK kind n par a σ1).2 i).pc = 0 := by
  unfold firstK
  split
  · show (spOf (List.replicate n sp0) i).pc = 0
    rw [Pt.zero_spot]; rfl
  split
  · show (spOf (Cl.first0 n) i).pc = 0
    rw [Cl.first0_spot]; split <;> rfl
  · show (spOf (Ta.zeroS n) i).pc = 0
    rw [Ta.zero_spot]; rfl
set_option maxRecDepth 100000 in
theorem words_g2 {gg gf gl ga ha hs : Nat} {p : PK} {σ : Ar} {sp : List Sp} {w : World} (K : GAt w gg gf gl ga ha hs p σ sp) : Calls Tryz.prog 34 #[.pointer (some ⟨gg, 0, none⟩)] w fun e w' => ∃ v, e = .returned v ∧ w'.ownsRow w.heap.size 3 1 v σ.t ((σ.ws.take σ.t).map vI) ∧ Below w.heap.size w w' := by
  have HS := Lib.hid (words_any _ _ σ _ K.fl.at_.facts.1)
  obtain ⟨c0, c1⟩ := K.cells
  clear K
  go_enter Tryz.func34, Tryz.ntmps34
  go_wp2_with fail
  refine HS.out.mono ?_
  rintro e w2 ⟨v, rfl, hs2, hb2⟩
  have H2 := Lib.hid hs2
  have HB := Lib.hid hb2
  clear hs2 hb2
  go_wp2_with fail
  go_ret
  exact ⟨v, rfl, H2.out, HB.out⟩
theorem own_less {B B' : Nat} {e : TypeId} {size : Nat} {v : Value} {n : Nat} {xs : List Value} {W : World} (h : W.ownsRow B e size v n xs) (hB : B' ≤ B) : W.ownsRow B' e size v n xs := by
  obtain ⟨h1, h2⟩ := h
  refine ⟨h1, ?_⟩
  rcases h2 with h2 | ⟨g, cap, cur, rfl, hg, rest⟩
  · exact .inl h2
  · exact .inr ⟨g, cap, cur, rfl, Nat.le_trans hB hg, rest⟩
/-- What the trace's walk keeps. -/
structure TW (N gg gf gl ga ha hs ah : Nat) (p : PK) (σ : Ar) (sp : List Sp) (s : List Nat) (w W : World) : Prop where
  gt : GAt W gg gf gl ga ha hs p σ sp
  au : AutoIn W (ah + 1) ah s
  rel : Rel s sp
  bel : Below w.heap.size w W
  sz : ah + 1 < W.heap.size
  len : sp.length ≤ 32
theorem TW.same {N gg gf gl ga ha hs ah : Nat} {p : PK} {σ : Ar} {sp : List Sp} {s : List Nat} {w W W' : World} (h : TW N gg gf gl ga ha hs ah p σ sp s w W) (hb : Below W.heap.size W W') : TW N gg gf gl ga ha hs ah p σ sp s w W' :=
  ⟨h.gt.same hb, auto_mod h.au (Mod.of_below (S := []) hb) (by simp) (by simp), h.rel, h.bel.trans (hb.mono h.bel.size), Nat.lt_of_lt_of_le h.sz hb.size, h.len⟩
theorem ev_t {V : World} {xe : Nat} {ek et ec : Int} (h : V.heap[xe]? = some (.cells #[.int .i64 ek, .int .i64 et, .bool false, .int .i64 ec] 65 (0, 0))) {P : Prop} (hp : P) : V.cell? ⟨xe, 0, none⟩ = some (.int .i64 ek) ∧ V.cell? ⟨xe, 1, none⟩ = some (.int .i64 et) ∧ V.cell? ⟨xe, 2, none⟩ = some (.bool false) ∧ V.cell? ⟨xe, 3, none⟩ = some (.int .i64 ec) ∧ P :=
  ⟨blk_cell h 0 (by simp), blk_cell h 1 (by simp), blk_cell h 2 (by simp), blk_cell h 3 (by simp), hp⟩
def TrJ (l : List Pick) (A : Option Addr) (cap N gg gf gl ga ha hs ah : Nat) (p : PK) (w : World) (a : Act) (W : World) : Prop :=
  a.tmps.size = 146 ∧ a.defers = [] ∧ a.tmps.getD 2 undef = .slice A l.length cap ∧ a.tmps.getD 8 undef = .pointer (some ⟨gg, 0, none⟩) ∧ a.tmps.getD 10 undef = .pointer (some ⟨ah + 1, 0, none⟩) ∧
    ∃ (k : Nat) (σ : Ar) (sp : List Sp) (s : List Nat), a.tmps.getD 11 undef = .int .i64 k ∧ k ≤ l.length ∧ OkK p σ sp N k ∧ TW N gg gf gl ga ha hs ah p σ sp s w W
def TrA (l : List Pick) (A : Option Addr) (cap N gg gf gl ga ha hs ah : Nat) (p : PK) (k : Nat) (σ : Ar) (sp : List Sp) (s : List Nat) (t : Int) (w : World) (a : Act) (W : World) : Prop :=
  a.tmps.size = 146 ∧ a.defers = [] ∧ a.tmps.getD 2 undef = .slice A l.length cap ∧ a.tmps.getD 8 undef = .pointer (some ⟨gg, 0, none⟩) ∧ a.tmps.getD 10 undef = .pointer (some ⟨ah + 1, 0, none⟩) ∧ a.tmps.getD 11 undef = .int .i64 k ∧ a.tmps.getD 12 undef = .int .i64 (σ.ops : Int) ∧ a.tmps.getD 14 undef = .int .i64 (gst (spOf sp t)) ∧
    TW N gg gf gl ga ha hs ah p σ sp s w W ∧ ∃ (vw : Value), a.tmps.getD 13 undef = vw ∧ W.ownsRow (ah + 2) 3 1 vw σ.t ((σ.ws.take σ.t).map vI)
set_option maxHeartbeats 4000000 in
set_option maxRecDepth 100000 in
theorem trace_walk (kind n : Int) (k0 : 0 ≤ kind) (k1 : kind ≤ 255) (n0 : 0 ≤ n) (n1 : n ≤ 255) (l : List Pick) (A : Option Addr) (cap : Nat) (w : World) (hl : l.length ≤ 100) (hs : Sl w w.heap.size A (l.flatMap decPk)) :
    Calls Tryz.prog 6 #[.int .u8 kind, .int .u8 n, .slice A l.length cap] w fun e w' => e = .returned (.bool true) ∧ Below w.heap.size w w' := by
  have i1 : (l.length : Int) ≤ 100 := by omega
  have m0 : 0 ≤ n % 8 := by omega
  have m1 : n % 8 < 8 := by omega
  have m2 : 0 ≤ n / 8 % 4 := by omega
  have m3 : n / 8 % 4 < 4 := by omega
  have m4 : 0 ≤ kind % 5 := by omega
  have m5 : kind % 5 < 5 := by omega
  obtain ⟨N, hN⟩ := Int.eq_ofNat_of_zero_le (show 0 ≤ 1 + n % 8 by omega)
  have hN1 : 1 ≤ N := by omega
  have hN2 : N ≤ 8 := by omega
  have HSl := Lib.hid hs
  have hM : mayK (1 + kind % 5) N (1 + n / 8 % 4) := ⟨by omega, by omega, fun _ => by omega, fun _ => by omega⟩
  have hsz : sizeK (1 + kind % 5) N (1 + n / 8 % 4) ≤ 20 := by unfold sizeK; repeat (first | split | omega)
  have HN := Lib.hid (gnew_any (1 + kind % 5) N (1 + n / 8 % 4) hM w)
  have HO1 := ok_flat (1 + kind % 5) N (1 + n / 8 % 4) hM (Ar.fresh 4096) (fun k _ => zeros_getD _ _) (by simp [Ar.fresh, zerosW]; omega) (by simp [Ar.fresh, zerosW]) 0 (Nat.le_refl _)
  simp only [show (Ar.fresh 4096).t = 0 from rfl, Nat.zero_add] at HO1
  replace HO1 := Lib.hid HO1
  have HF1 := Lib.hid (fun σ1 => first_pc (1 + kind % 5) N (1 + n / 8 % 4) 1 σ1)
  clear hs hM hsz
  go_enter Tryz.func6, Tryz.ntmps6
  go_wp2_with fail
  refine HN.out.mono ?_
  rintro e w2 ⟨gg, gf, gl, hs, rfl, hk, ⟨b1, b2, b3, b4⟩, hb2⟩
  obtain ⟨p, σ0, sp0, HK, HO, HF⟩ : ∃ (p : PK) (σ0 : Ar) (sp0 : List Sp), Hid (GAt w2 gg gf gl (w.heap.size + 1) w.heap.size hs p σ0 sp0) ∧ Hid (OkK p σ0 sp0 N 0) ∧ Hid (∀ i, (spOf sp0 i).pc = 0) := ⟨_, _, _, hk, HO1.out, HF1.out _⟩
  have HB := Lib.hid hb2
  clear hk hb2 HN HO1 HF1
  go_wp2_with fail
  have hnew := Aut.new_in (N : Int) w2
  rw [show som (N : Int) = N by unfold som; rw [if_neg (by omega), if_neg (by omega)]; omega] at hnew
  refine hnew.mono ?_
  rintro e w3 ⟨rfl, ha3, hz3, hb3⟩
  have HBL := Lib.hid HK.out.blocks
  have HT := Lib.hid (show TW N gg gf gl (w.heap.size + 1) w.heap.size hs w2.heap.size p σ0 sp0 (List.replicate N 0) w w3 from ⟨HK.out.same hb3, ha3, rel_first HO.out.len HF.out, HB.out.trans (hb3.mono HB.out.size), by omega, by have := HO.out.len; omega⟩)
  have hw2 := HB.out.size
  clear hnew ha3 hz3 hb3 HK HF HB
  generalize w2.heap.size = ah at *
  go_wp2_with fail
  refine wp_loop (TrJ l A cap N gg gf gl (w.heap.size + 1) w.heap.size hs ah p w) (fun a' _ => l.length - (intOf (a'.tmps.getD 11 undef)).toNat) ?_ ?_
  · exact ⟨rfl, rfl, rfl, rfl, rfl, 0, σ0, sp0, _, rfl, Nat.zero_le _, HO.out, HT.out⟩
  · clear HO HT
    rintro a' W ⟨hsz, hdf, s2, s8, s10, k, σ, sp, s, s11, hk, hO, hT⟩
    obtain ⟨u, rfl, hu⟩ := frame146 hsz hdf
    rw [hu] at s2 s8 s10 s11
    simp only [s2, s8, s10, s11]
    clear hsz hdf s2 s8 s10 s11 hu
    have HO := Lib.hid hO
    have HT := Lib.hid hT
    clear hO hT
    by_cases hlt : k < l.length
    · obtain ⟨b, off, rfl, hbb, hcell⟩ := Sl_at (k := 2) (fun _ => rfl) (by omega) HSl.out (by omega)
      have c0 := hcell k hlt 0 (by omega)
      have c1 := hcell k hlt 1 (by omega)
      simp only [decPk, List.getElem?_cons_zero, List.getElem?_cons_succ, Nat.add_zero, ← Nat.add_assoc] at c0 c1
      clear hcell
      generalize l[k] = x at *
      obtain ⟨t, wn⟩ := x
      simp only at c0 c1
      have HC0 := Lib.hid (fun V (h : Below w.heap.size w V) => (h.cell (p := ⟨b, off + k * 2, none⟩) hbb).trans c0)
      have HC1 := Lib.hid (fun V (h : Below w.heap.size w V) => (h.cell (p := ⟨b, off + k * 2 + 1, none⟩) hbb).trans c1)
      replace c0 := HC0.out _ HT.out.bel
      replace c1 := HC1.out _ HT.out.bel
      have i2 : (k : Int) < (l.length : Int) := by omega
      have hbW : b < W.heap.size := by have := HT.out.bel.size; omega
      go_upto_region 11 with fail
      refine wp_cut (TrA l (some ⟨b, off, none⟩) cap N gg gf gl (w.heap.size + 1) w.heap.size hs ah p k σ sp s t w) ?_ ?_
      · rintro a' W2 ⟨hsz, hdf, s2, s8, s10, s11, s12, s14, hT2, vw, s13, hsw⟩
        obtain ⟨u, rfl, hu⟩ := frame146 hsz hdf
        rw [hu] at s2 s8 s10 s11 s12 s14 s13
        simp only [s2, s8, s10, s11, s12, s14, s13]
        clear hsz hdf s2 s8 s10 s11 s12 s14 s13 hu
        have HT2 := Lib.hid hT2
        have HW2 := Lib.hid hsw
        have HO2 := Lib.hid (ok_gact HO.out t wn)
        have HTR := Lib.hid (trace_step HO.out HT.out.rel t wn)
        have hops : (gact p σ sp t wn).2.1.ops ≤ σ.ops + 1 := by
          obtain ⟨kd, he, _⟩ := gact_do p σ sp t wn
          rw [he]
          exact (do_ops p σ sp kd t).1
        have hso := HO.out.ops
        have hD := do_g HT2.out.gt N k HO.out (by omega) t wn
        replace c0 := HC0.out _ hT2.bel
        replace c1 := HC1.out _ hT2.bel
        have hbW := Nat.lt_of_lt_of_le hbb hT2.bel.size
        clear hT2 hsw
        generalize gact p σ sp t wn = r at *
        obtain ⟨⟨ek, et, ec⟩, σ2, sp2⟩ := r
        simp only at HO2 HTR hD hops
        replace hD := Lib.hid hD
        go_wp2_with fail
        refine hD.out.mono ?_
        rintro e w5 ⟨rfl, hg5, hm5⟩
        simp only [gev]
        go_wp2_with fail
        have hgb := HBL.out
        have hb5 : Below w.heap.size W2 w5 := hm5.below HT2.out.bel.size (by simp; omega)
        have HG5 := Lib.hid hg5
        have HA5 := Lib.hid (auto_mod HT2.out.au hm5 (by simp; omega) (by simp; omega))
        have HB5 := Lib.hid (HT2.out.bel.trans hb5)
        have HZ5 := Lib.hid (Nat.lt_of_lt_of_le HT2.out.sz hm5.size)
        have HW5 := Lib.hid (own_mod HW2.out hm5 (by simp; omega))
        have hbe := blk_new w5 (.cells #[.int .i64 ek, .int .i64 et, .bool false, .int .i64 ec] 65)
        have hbn := below_new w5 (.cells #[.int .i64 ek, .int .i64 et, .bool false, .int .i64 ec] 65)
        have HG6 := Lib.hid (HG5.out.same hbn)
        have HA6 := Lib.hid (auto_mod HA5.out (Mod.of_below (S := []) hbn) (by simp) (by simp))
        have HB6 := Lib.hid (HB5.out.trans (hbn.mono HB5.out.size))
        have HZ6 := Lib.hid (Nat.lt_of_lt_of_le HZ5.out hbn.size)
        have HE6 := Lib.hid hbe
        have HW6 := Lib.hid (own_mod HW5.out (Mod.of_below (S := []) hbn) (by simp))
        have hxl : w5.heap.size < (w5.alloc (.cells #[.int .i64 ek, .int .i64 et, .bool false, .int .i64 ec] 65)).heap.size := by simp
        have hax := HZ5.out
        clear hg5 hm5 hb5 hbe hbn HG5 HA5 HB5 HZ5 c0 c1 hbW
        generalize (w5.alloc (.cells #[.int .i64 ek, .int .i64 et, .bool false, .int .i64 ec] 65)) = w6 at *
        generalize w5.heap.size = xe at *
        refine wp_region_held_drew (S := fun V => V.cell? ⟨xe, 0, none⟩ = some (.int .i64 ek) ∧ V.cell? ⟨xe, 1, none⟩ = some (.int .i64 et) ∧ V.cell? ⟨xe, 2, none⟩ = some (.bool false) ∧ V.cell? ⟨xe, 3, none⟩ = some (.int .i64 ec) ∧ V.cell? ⟨b, off + k * 2, none⟩ = some (.int .i64 t)) (by kernel_rfl) (ev_t HE6.out (HC0.out _ (Below.drew HB6.out))) (fun hHeld => ?_)
        refine take_to 0 (some 69) (v := ?_) rfl rfl (by kernel_rfl) (by kernel_rfl) (by kernel_rfl) (fun _ _ _ h => h) (Or.inl ⟨by rfl, ?_⟩) (by first | trivial | assumption) ?_
        rotate_left
        focus (intro w hSw; (try dsimp only at hSw); go_simp; (try with_reducible rfl))
        simp only [Act.put, List.setIfInBounds_toArray, List.set_cons_zero, List.set_cons_succ]
        refine take_to 1 (some 70) (v := ?_) rfl rfl (by kernel_rfl) (by kernel_rfl) (by kernel_rfl) (fun _ _ _ h => h) (Or.inl ⟨by rfl, ?_⟩) (by first | trivial | assumption) ?_
        rotate_left
        focus (intro w hSw; (try dsimp only at hSw); go_simp; (try with_reducible rfl))
        simp only [Act.put, List.setIfInBounds_toArray, List.set_cons_zero, List.set_cons_succ]
        refine wpAnyH_ready (rs := [2]) (by kernel_rfl) (by simp) ?_
        refine AllReadyH.cons rfl (fun K hK => ?_) AllReadyH.nil
        go_simp
        have hdo := Aut.do_any (ah + 1) ah s (evOf (ek, et, ec)) w6.drew (auto_mod HA6.out (S := []) ((Mod.refl _ _).drew) (by simp) (by simp)) (by have := HT2.out.len; have := HT2.out.rel.1; omega)
        rw [HTR.out.ok] at hdo
        refine hdo.mono ?_
        rintro e w7 ⟨rfl, ha7, hdn⟩
        have hm7 : Mod [ah] w6 w7 := ((Mod.refl [ah] w6).drew).trans hdn.mod
        have hgb := HBL.out
        have HT7 := Lib.hid (show TW N gg gf gl (w.heap.size + 1) w.heap.size hs ah p σ2 sp2 (doS s (evOf (ek, et, ec))).2 w w7 from ⟨HG6.out.mod hm7 (by simp; omega) (by simp; omega) (by simp; omega) (by simp; omega) (by simp; omega) (by simp; omega), ha7, HTR.out.rel, HB6.out.trans (hm7.below HB6.out.size (by simp; omega)), Nat.lt_of_lt_of_le HZ6.out hm7.size, by have := HO2.out.len; omega⟩)
        have HE7 := Lib.hid (show w7.heap[xe]? = _ from hm7.blk HE6.out (by simp; omega))
        have hxl7 : xe < w7.heap.size := Nat.lt_of_lt_of_le hxl hm7.size
        have HW7 := Lib.hid (own_mod HW6.out hm7 (by simp))
        clear hdo ha7 hdn hm7 HG6 HA6 HB6 HZ6 HE6 HW5 HW6 HW2 hxl
        generalize (doS s (evOf (ek, et, ec))).2 = s2 at *
        go_simp
        refine hK.out _ _ (ev_t HE7.out (HC0.out _ HT7.out.bel)) (fun hHeld => ?_)
        have ww : IntKind.i64.wrap ((σ.ops : Int) + 1) = (σ.ops : Int) + 1 := IntWalk.i64_in _ (by omega)
        have hlo : decide ((σ.ops : Int) + 1 < (σ2.ops : Int)) = false := decide_eq_false (by omega)
        refine take_to 3 (some 72) (v := ?_) rfl rfl (by kernel_rfl) (by kernel_rfl) (by kernel_rfl) (fun _ _ _ h => h) (Or.inl ⟨by rfl, ?_⟩) (by first | trivial | assumption) ?_
        rotate_left
        focus (intro w hSw; (try dsimp only at hSw); go_simp; (try with_reducible rfl))
        simp only [Act.put, List.setIfInBounds_toArray, List.set_cons_zero, List.set_cons_succ]
        refine take_to 4 (some 73) (v := ?_) rfl rfl (by kernel_rfl) (by kernel_rfl) (by kernel_rfl) (fun _ _ _ h => h) (Or.inl ⟨by rfl, ?_⟩) (by first | trivial | assumption) ?_
        rotate_left
        focus (intro w hSw; (try dsimp only at hSw); go_simp; (try with_reducible rfl))
        simp only [Act.put, List.setIfInBounds_toArray, List.set_cons_zero, List.set_cons_succ]
        refine take_to 5 (some 74) (v := ?_) rfl rfl (by kernel_rfl) (by kernel_rfl) (by kernel_rfl) (fun _ _ _ h => h) (Or.inl ⟨by rfl, ?_⟩) (by first | trivial | assumption) ?_
        rotate_left
        focus (intro w hSw; (try dsimp only at hSw); go_simp; (try with_reducible rfl))
        simp only [Act.put, List.setIfInBounds_toArray, List.set_cons_zero, List.set_cons_succ]
        refine take_to 7 (some 76) (v := ?_) rfl rfl (by kernel_rfl) (by kernel_rfl) (by kernel_rfl) (fun _ _ _ h => h) (Or.inl ⟨by rfl, ?_⟩) (by first | trivial | assumption) ?_
        rotate_left
        focus (intro w hSw; (try dsimp only at hSw); go_simp; (try with_reducible rfl))
        simp only [Act.put, List.setIfInBounds_toArray, List.set_cons_zero, List.set_cons_succ]
        refine take_to 8 (some 77) (v := ?_) rfl rfl (by kernel_rfl) (by kernel_rfl) (by kernel_rfl) (fun _ _ _ h => h) (Or.inl ⟨by rfl, ?_⟩) (by first | trivial | assumption) ?_
        rotate_left
        focus (intro w hSw; (try dsimp only at hSw); go_simp; (try with_reducible rfl))
        simp only [Act.put, List.setIfInBounds_toArray, List.set_cons_zero, List.set_cons_succ]
        refine wpAnyH_ready (rs := [6]) (by kernel_rfl) (by simp) ?_
        refine AllReadyH.cons rfl (fun K hK => ?_) AllReadyH.nil
        go_simp
        refine (ops_g HT7.out.gt).mono ?_
        rintro e wx ⟨rfl, hwx⟩
        obtain rfl := hwx.symm
        go_simp
        refine hK.out _ _ (ev_t HE7.out (HC0.out _ HT7.out.bel)) (fun hHeld => ?_)
        refine take_to 9 (some 78) (v := ?_) rfl rfl (by kernel_rfl) (by kernel_rfl) (by kernel_rfl) (fun _ _ _ h => h) (Or.inl ⟨by rfl, ?_⟩) (by first | trivial | assumption) ?_
        rotate_left
        focus (intro w hSw; (try dsimp only at hSw); go_simp; (try with_reducible rfl))
        simp only [Act.put, List.setIfInBounds_toArray, List.set_cons_zero, List.set_cons_succ]
        refine take_to 10 (some 79) (v := ?_) rfl rfl (by kernel_rfl) (by kernel_rfl) (by kernel_rfl) (fun _ _ _ h => h) (Or.inl ⟨by rfl, ?_⟩) (by first | trivial | assumption) ?_
        rotate_left
        focus (intro w hSw; (try dsimp only at hSw); go_simp; (try with_reducible rfl))
        simp only [Act.put, List.setIfInBounds_toArray, List.set_cons_zero, List.set_cons_succ]
        refine take_to 11 (some 80) (v := ?_) rfl rfl (by kernel_rfl) (by kernel_rfl) (by kernel_rfl) (fun _ _ _ h => h) (Or.inl ⟨by rfl, ?_⟩) (by first | trivial | assumption) ?_
        rotate_left
        focus (intro w hSw; (try dsimp only at hSw); go_simp; (try with_reducible rfl))
        simp only [Act.put, List.setIfInBounds_toArray, List.set_cons_zero, List.set_cons_succ]
        refine take_to 12 (some 81) (v := ?_) rfl rfl (by kernel_rfl) (by kernel_rfl) (by kernel_rfl) (fun _ _ _ h => h) (Or.inl ⟨by rfl, ?_⟩) (by first | trivial | assumption) ?_
        rotate_left
        focus (intro w hSw; (try dsimp only at hSw); go_simp; (try with_reducible rfl))
        simp only [Act.put, List.setIfInBounds_toArray, List.set_cons_zero, List.set_cons_succ]
        refine take_to 13 (some 82) (v := ?_) rfl rfl (by kernel_rfl) (by kernel_rfl) (by kernel_rfl) (fun _ _ _ h => h) (Or.inl ⟨by rfl, ?_⟩) (by first | trivial | assumption) ?_
        rotate_left
        focus (intro w hSw; (try dsimp only at hSw); go_simp; (try with_reducible rfl))
        simp only [Act.put, List.setIfInBounds_toArray, List.set_cons_zero, List.set_cons_succ]
        refine take_to 14 (some 83) (v := ?_) rfl rfl (by kernel_rfl) (by kernel_rfl) (by kernel_rfl) (fun _ _ _ h => h) (Or.inl ⟨by rfl, ?_⟩) (by first | trivial | assumption) ?_
        rotate_left
        focus (intro w hSw; (try dsimp only at hSw); go_simp; (try with_reducible rfl))
        simp only [Act.put, List.setIfInBounds_toArray, List.set_cons_zero, List.set_cons_succ]
        refine take_to 15 (some 84) (v := ?_) rfl rfl (by kernel_rfl) (by kernel_rfl) (by kernel_rfl) (fun _ _ _ h => h) (Or.inl ⟨by rfl, ?_⟩) (by first | trivial | assumption) ?_
        rotate_left
        focus (intro w hSw; (try dsimp only at hSw); go_simp; (try with_reducible rfl))
        simp only [Act.put, List.setIfInBounds_toArray, List.set_cons_zero, List.set_cons_succ]
        refine take_to 16 (some 85) (v := ?_) rfl rfl (by kernel_rfl) (by kernel_rfl) (by kernel_rfl) (fun _ _ _ h => h) (Or.inl ⟨by rfl, ?_⟩) (by first | trivial | assumption) ?_
        rotate_left
        focus (intro w hSw; (try dsimp only at hSw); go_simp; (try with_reducible rfl))
        simp only [Act.put, List.setIfInBounds_toArray, List.set_cons_zero, List.set_cons_succ]
        refine take_to 17 (some 86) (v := ?_) rfl rfl (by kernel_rfl) (by kernel_rfl) (by kernel_rfl) (fun _ _ _ h => h) (Or.inl ⟨by rfl, ?_⟩) (by first | trivial | assumption) ?_
        rotate_left
        focus (intro w hSw; (try dsimp only at hSw); go_simp; (try with_reducible rfl))
        simp only [Act.put, List.setIfInBounds_toArray, List.set_cons_zero, List.set_cons_succ]
        refine take_to 19 (some 88) (v := ?_) rfl rfl (by kernel_rfl) (by kernel_rfl) (by kernel_rfl) (fun _ _ _ h => h) (Or.inl ⟨by rfl, ?_⟩) (by first | trivial | assumption) ?_
        rotate_left
        focus (intro w hSw; (try dsimp only at hSw); go_simp; (try with_reducible rfl))
        simp only [Act.put, List.setIfInBounds_toArray, List.set_cons_zero, List.set_cons_succ]
        refine take_to 20 (some 89) (v := ?_) rfl rfl (by kernel_rfl) (by kernel_rfl) (by kernel_rfl) (fun _ _ _ h => h) (Or.inl ⟨by rfl, ?_⟩) (by first | trivial | assumption) ?_
        rotate_left
        focus (intro w hSw; (try dsimp only at hSw); go_simp; (try with_reducible rfl))
        simp only [Act.put, List.setIfInBounds_toArray, List.set_cons_zero, List.set_cons_succ]
        refine take_to 21 (some 90) (v := ?_) rfl rfl (by kernel_rfl) (by kernel_rfl) (by kernel_rfl) (fun _ _ _ h => h) (Or.inl ⟨by rfl, ?_⟩) (by first | trivial | assumption) ?_
        rotate_left
        focus (intro w hSw; (try dsimp only at hSw); go_simp; (try with_reducible rfl))
        simp only [Act.put, List.setIfInBounds_toArray, List.set_cons_zero, List.set_cons_succ]
        refine take_to 22 (some 91) (v := ?_) rfl rfl (by kernel_rfl) (by kernel_rfl) (by kernel_rfl) (fun _ _ _ h => h) (Or.inl ⟨by rfl, ?_⟩) (by first | trivial | assumption) ?_
        rotate_left
        focus (intro w hSw; (try dsimp only at hSw); go_simp; (try with_reducible rfl))
        simp only [Act.put, List.setIfInBounds_toArray, List.set_cons_zero, List.set_cons_succ]
        refine take_to 23 (some 92) (v := ?_) rfl rfl (by kernel_rfl) (by kernel_rfl) (by kernel_rfl) (fun _ _ _ h => h) (Or.inl ⟨by rfl, ?_⟩) (by first | trivial | assumption) ?_
        rotate_left
        focus (intro w hSw; (try dsimp only at hSw); go_simp; (try with_reducible rfl))
        simp only [Act.put, List.setIfInBounds_toArray, List.set_cons_zero, List.set_cons_succ]
        refine take_to 24 (some 93) (v := ?_) rfl rfl (by kernel_rfl) (by kernel_rfl) (by kernel_rfl) (fun _ _ _ h => h) (Or.inl ⟨by rfl, ?_⟩) (by first | trivial | assumption) ?_
        rotate_left
        focus (intro w hSw; (try dsimp only at hSw); go_simp; (try with_reducible rfl))
        simp only [Act.put, List.setIfInBounds_toArray, List.set_cons_zero, List.set_cons_succ]
        refine wpAnyH_ready (rs := [18]) (by kernel_rfl) (by simp) ?_
        refine AllReadyH.cons rfl (fun K hK => ?_) AllReadyH.nil
        go_simp
        refine (Aut.state_any (ah + 1) s2 t w7 HT7.out.au.at_).mono ?_
        rintro e wx ⟨rfl, hwx⟩
        obtain rfl := hwx.symm
        rw [HT7.out.rel.state t]
        go_simp
        refine hK.out _ _ (ev_t HE7.out (HC0.out _ HT7.out.bel)) (fun hHeld => ?_)
        refine wpAnyH_ready (rs := [25]) (by kernel_rfl) (by simp) ?_
        refine AllReadyH.cons rfl (fun K hK => ?_) AllReadyH.nil
        go_simp
        refine (state_g HT7.out.gt t).mono ?_
        rintro e w8 ⟨rfl, hb8⟩
        have HT8 := Lib.hid (HT7.out.same hb8)
        have HE8 := Lib.hid (show w8.heap[xe]? = _ from (Mod.of_below (S := []) hb8).blk HE7.out (by simp))
        have HW8 := Lib.hid (own_mod HW7.out (Mod.of_below (S := []) hb8) (by simp))
        have hxl8 : xe < w8.heap.size := Nat.lt_of_lt_of_le hxl7 hb8.size
        clear hb8 HT7 HE7 HW7 hxl7
        go_simp
        refine hK.out _ _ (ev_t HE8.out (HC0.out _ HT8.out.bel)) (fun hHeld => ?_)
        refine take_to 26 (some 95) (v := ?_) rfl rfl (by kernel_rfl) (by kernel_rfl) (by kernel_rfl) (fun _ _ _ h => h) (Or.inl ⟨by rfl, ?_⟩) (by first | trivial | assumption) ?_
        rotate_left
        focus (intro w hSw; (try dsimp only at hSw); go_simp; (try with_reducible rfl))
        simp only [Act.put, List.setIfInBounds_toArray, List.set_cons_zero, List.set_cons_succ]
        refine take_to 27 (some 96) (v := ?_) rfl rfl (by kernel_rfl) (by kernel_rfl) (by kernel_rfl) (fun _ _ _ h => h) (Or.inl ⟨by rfl, ?_⟩) (by first | trivial | assumption) ?_
        rotate_left
        focus (intro w hSw; (try dsimp only at hSw); go_simp; (try with_reducible rfl))
        simp only [Act.put, List.setIfInBounds_toArray, List.set_cons_zero, List.set_cons_succ]
        refine wpAnyH_done (by kernel_rfl) ?_ _
        have ww2 := HC1.out _ HT8.out.bel
        obtain ⟨d0, d1, d2, d3, c0⟩ := ev_t HE8.out (HC0.out _ HT8.out.bel)
        have hthr := HTR.out.th
        have hbad := HTR.out.bad
        simp only at hthr hbad
        have hbW8 : b < w8.heap.size := Nat.lt_of_lt_of_le hbb HT8.out.bel.size
        by_cases hk0 : ek = 0
        · have e0 := ibne_no hk0
          have e5 := ibeq_no (show ¬ ek = 5 by omega)
          clear hthr hbad hk0
          go_wp2_with fail
          go_quiet (fail)
          have HT9 := Lib.hid (HT8.out.same (below_drewN (Below.refl _ _) nq))
          have HE9 := Lib.hid (show (w8.drewN nq).heap[xe]? = _ from HE8.out)
          clear HT8 HE8 d0 d1 d2 d3 c0 ww2 HW8
          generalize w8.drewN nq = w9 at *
          obtain ⟨d0, d1, d2, d3, c0⟩ := ev_t HE9.out (HC0.out _ HT9.out.bel)
          go_wp2_with fail
          go_roundw
          case rel => exact ⟨rfl, rfl, rfl, rfl, rfl, k + 1, σ2, sp2, s2, by go_num, by omega, HO2.out, HT9.out⟩
          case measure => simp [intOf]; omega
        · have e0 := ibne hk0
          have e1 := hthr hk0
          subst e1
          have hwlen : (σ.ws.take σ.t).length = σ.t := by have := HW8.out.1; rwa [List.length_map, Nat.mul_one] at this
          obtain ⟨A8, c8, rfl, hn8, hm8, hsl8⟩ := own_slice HW8.out
          have HS8 := Lib.hid (show Sl w8 w8.heap.size A8 ((σ.ws.take σ.t).flatMap decI) by rw [flatI]; exact hsl8)
          clear hsl8 hthr hk0
          go_wp2_with fail
          go_quiet (fail)
          have HT9 := Lib.hid (HT8.out.same (below_drewN (Below.refl _ _) nq))
          have HE9 := Lib.hid (show (w8.drewN nq).heap[xe]? = _ from HE8.out)
          have HS9 := Lib.hid (HS8.out.drews nq)
          clear HT8 HE8 d0 d1 d2 d3 c0 ww2 HW8 HS8
          generalize w8.drewN nq = w9 at *
          obtain ⟨d0, d1, d2, d3, c0⟩ := ev_t HE9.out (HC0.out _ HT9.out.bel)
          have c1 := HC1.out _ HT9.out.bel
          by_cases h5 : ek = 5
          · obtain ⟨hst, hwn⟩ := hbad h5
            injection hst with hs1 hs2
            subst hs1 hs2
            have e5 := ibeq h5
            have ew := ibeq_no hwn
            clear hbad h5 hwn
            go_wp2_with fail
            refine (ops_g HT9.out.gt).mono ?_
            rintro e wx ⟨rfl, hwx⟩
            obtain rfl := hwx.symm
            go_wp2_with fail
            refine (words_g2 HT9.out.gt).mono ?_
            rintro e w10 ⟨v10, rfl, ho10, hb10⟩
            obtain ⟨A10, c10, rfl, _, _, hsl10⟩ := own_slice ho10
            have HS10 := Lib.hid (show Sl w10 w10.heap.size A10 ((σ2.ws.take σ2.t).flatMap decI) by rw [flatI]; exact hsl10)
            have HS10b := Lib.hid (HS9.out.step hb10)
            have HT10 := Lib.hid (HT9.out.same hb10)
            clear ho10 hb10 hsl10 HS9 HT9 HE9 d0 d1 d2 d3 c0 c1
            go_wp2_with fail
            have hsm := same_any (σ2.ws.take σ2.t) (σ2.ws.take σ2.t) A10 A8 c10 c8 w10 (by rw [hwlen]; simp only [maxLen] at hm8; omega) (by rw [hwlen]; simp only [maxLen] at hm8; omega) HS10.out HS10b.out
            rw [decide_eq_true rfl, hwlen] at hsm
            refine hsm.mono ?_
            rintro e w11 ⟨rfl, hb11⟩
            have HT11 := Lib.hid (HT10.out.same hb11)
            clear hb11 HT10 HS10 HS10b hsm
            have c0 := HC0.out _ HT11.out.bel
            have c1 := HC1.out _ HT11.out.bel
            go_wp2_with fail
            refine (state_g HT11.out.gt et).mono ?_
            rintro e w12 ⟨rfl, hb12⟩
            have HT12 := Lib.hid (HT11.out.same hb12)
            clear hb12 HT11 c0 c1
            have c0 := HC0.out _ HT12.out.bel
            have c1 := HC1.out _ HT12.out.bel
            go_wp2_with fail
            go_roundw
            case rel => exact ⟨rfl, rfl, rfl, rfl, rfl, k + 1, _, _, s2, by go_num, by omega, HO2.out, HT12.out⟩
            case measure => simp [intOf]; omega
          · have e5 := ibeq_no h5
            clear hbad h5
            go_wp2_with fail
            go_roundw
            case rel => exact ⟨rfl, rfl, rfl, rfl, rfl, k + 1, σ2, sp2, s2, by go_num, by omega, HO2.out, HT9.out⟩
            case measure => simp [intOf]; omega
      · intro J K' hJ hK'
        refine wp_region_held_drew (S := fun V => V.cell? ⟨b, off + k * 2, none⟩ = some (.int .i64 t)) (by kernel_rfl) c0 (fun hHeld => ?_)
        refine take_to 0 (some 52) (v := ?_) rfl rfl (by kernel_rfl) (by kernel_rfl) (by kernel_rfl) (fun _ _ _ h => h) (Or.inl ⟨by rfl, ?_⟩) (by first | trivial | assumption) ?_
        rotate_left
        focus (intro w hSw; (try dsimp only at hSw); go_simp; (try with_reducible rfl))
        simp only [Act.put, List.setIfInBounds_toArray, List.set_cons_zero, List.set_cons_succ]
        refine take_to 2 (some 54) (v := ?_) rfl rfl (by kernel_rfl) (by kernel_rfl) (by kernel_rfl) (fun _ _ _ h => h) (Or.inl ⟨by rfl, ?_⟩) (by first | trivial | assumption) ?_
        rotate_left
        focus (intro w hSw; (try dsimp only at hSw); go_simp; (try with_reducible rfl))
        simp only [Act.put, List.setIfInBounds_toArray, List.set_cons_zero, List.set_cons_succ]
        refine take_to 4 (some 56) (v := ?_) rfl rfl (by kernel_rfl) (by kernel_rfl) (by kernel_rfl) (fun _ _ _ h => h) (Or.inl ⟨by rfl, ?_⟩) (by first | trivial | assumption) ?_
        rotate_left
        focus (intro w hSw; (try dsimp only at hSw); go_simp; (try with_reducible rfl))
        simp only [Act.put, List.setIfInBounds_toArray, List.set_cons_zero, List.set_cons_succ]
        refine take_to 5 (some 57) (v := ?_) rfl rfl (by kernel_rfl) (by kernel_rfl) (by kernel_rfl) (fun _ _ _ h => h) (Or.inl ⟨by rfl, ?_⟩) (by first | trivial | assumption) ?_
        rotate_left
        focus (intro w hSw; (try dsimp only at hSw); go_simp; (try with_reducible rfl))
        simp only [Act.put, List.setIfInBounds_toArray, List.set_cons_zero, List.set_cons_succ]
        refine take_to 6 (some 58) (v := ?_) rfl rfl (by kernel_rfl) (by kernel_rfl) (by kernel_rfl) (fun _ _ _ h => h) (Or.inl ⟨by rfl, ?_⟩) (by first | trivial | assumption) ?_
        rotate_left
        focus (intro w hSw; (try dsimp only at hSw); go_simp; (try with_reducible rfl))
        simp only [Act.put, List.setIfInBounds_toArray, List.set_cons_zero, List.set_cons_succ]
        refine take_to 7 (some 59) (v := ?_) rfl rfl (by kernel_rfl) (by kernel_rfl) (by kernel_rfl) (fun _ _ _ h => h) (Or.inl ⟨by rfl, ?_⟩) (by first | trivial | assumption) ?_
        rotate_left
        focus (intro w hSw; (try dsimp only at hSw); go_simp; (try with_reducible rfl))
        simp only [Act.put, List.setIfInBounds_toArray, List.set_cons_zero, List.set_cons_succ]
        refine take_to 8 (some 60) (v := ?_) rfl rfl (by kernel_rfl) (by kernel_rfl) (by kernel_rfl) (fun _ _ _ h => h) (Or.inl ⟨by rfl, ?_⟩) (by first | trivial | assumption) ?_
        rotate_left
        focus (intro w hSw; (try dsimp only at hSw); go_simp; (try with_reducible rfl))
        simp only [Act.put, List.setIfInBounds_toArray, List.set_cons_zero, List.set_cons_succ]
        refine take_to 9 (some 61) (v := ?_) rfl rfl (by kernel_rfl) (by kernel_rfl) (by kernel_rfl) (fun _ _ _ h => h) (Or.inl ⟨by rfl, ?_⟩) (by first | trivial | assumption) ?_
        rotate_left
        focus (intro w hSw; (try dsimp only at hSw); go_simp; (try with_reducible rfl))
        simp only [Act.put, List.setIfInBounds_toArray, List.set_cons_zero, List.set_cons_succ]
        have HT1 := Lib.hid (HT.out.same (show Below W.heap.size W W.drew from Below.drew (Below.refl _ _)))
        have hz1 : W.heap.size ≤ W.drew.heap.size := Nat.le_refl _
        refine wpAnyH_ready (rs := [1]) (by kernel_rfl) (by simp) ?_
        refine AllReadyH.cons rfl (fun K hK => ?_) AllReadyH.nil
        go_simp
        refine (ops_g HT1.out.gt).mono ?_
        rintro e wx ⟨rfl, hwx⟩
        obtain rfl := hwx.symm
        go_simp
        refine hK.out _ _ c0 (fun hHeld => ?_)
        refine wpAnyH_ready (rs := [3]) (by kernel_rfl) (by simp) ?_
        refine AllReadyH.cons rfl (fun K hK => ?_) AllReadyH.nil
        go_simp
        refine (words_g2 HT1.out.gt).mono ?_
        rintro e w3 ⟨vw, rfl, hsl3, hb3⟩
        have HT3 := Lib.hid (HT1.out.same hb3)
        have HS3 := Lib.hid (own_less hsl3 (show ah + 2 ≤ W.drew.heap.size from HT1.out.sz))
        have c3 : w3.cell? ⟨b, off + k * 2, none⟩ = some (.int .i64 t) := (hb3.cell (by exact hbW)).trans c0
        have hbW3 : b < w3.heap.size := Nat.lt_of_lt_of_le hbW hb3.size
        clear hb3 hsl3 HT1
        go_simp
        refine hK.out _ _ c3 (fun hHeld => ?_)
        refine wpAnyH_ready (rs := [10]) (by kernel_rfl) (by simp) ?_
        refine AllReadyH.cons rfl (fun K hK => ?_) AllReadyH.nil
        go_simp
        refine (state_g HT3.out.gt t).mono ?_
        rintro e w4 ⟨rfl, hb4⟩
        have HT4 := Lib.hid (HT3.out.same hb4)
        have HS4 := Lib.hid (own_mod HS3.out (Mod.of_below (S := []) hb4) (by simp))
        have c4 : w4.cell? ⟨b, off + k * 2, none⟩ = some (.int .i64 t) := (hb4.cell hbW3).trans c3
        clear hb4 HT3 HS3
        go_simp
        refine hK.out _ _ c4 (fun hHeld => ?_)
        refine take_to 11 (some 12) (v := ?_) rfl rfl (by kernel_rfl) (by kernel_rfl) (by kernel_rfl) (fun _ _ _ h => h) (Or.inl ⟨by rfl, ?_⟩) (by first | trivial | assumption) ?_
        rotate_left
        focus (intro w hSw; (try dsimp only at hSw); go_simp; (try with_reducible rfl))
        simp only [Act.put, List.setIfInBounds_toArray, List.set_cons_zero, List.set_cons_succ]
        refine take_to 12 (some 13) (v := ?_) rfl rfl (by kernel_rfl) (by kernel_rfl) (by kernel_rfl) (fun _ _ _ h => h) (Or.inl ⟨by rfl, ?_⟩) (by first | trivial | assumption) ?_
        rotate_left
        focus (intro w hSw; (try dsimp only at hSw); go_simp; (try with_reducible rfl))
        simp only [Act.put, List.setIfInBounds_toArray, List.set_cons_zero, List.set_cons_succ]
        refine take_to 13 (some 14) (v := ?_) rfl rfl (by kernel_rfl) (by kernel_rfl) (by kernel_rfl) (fun _ _ _ h => h) (Or.inl ⟨by rfl, ?_⟩) (by first | trivial | assumption) ?_
        rotate_left
        focus (intro w hSw; (try dsimp only at hSw); go_simp; (try with_reducible rfl))
        simp only [Act.put, List.setIfInBounds_toArray, List.set_cons_zero, List.set_cons_succ]
        refine wpAnyH_done (by kernel_rfl) ?_ _
        exact hK' _ _ (Met.intro (hJ _ _ ⟨rfl, rfl, rfl, rfl, rfl, rfl, rfl, rfl, HT4.out, vw, rfl, HS4.out⟩))
    · have i2 : ¬ (k : Int) < (l.length : Int) := by omega
      go_wp2_with fail
      refine (awake21 _).mono ?_
      rintro e w9 ⟨rfl, hb9⟩
      have HB9 := Lib.hid (HT.out.bel.trans (hb9.mono HT.out.bel.size))
      clear hb9
      go_wp2_with fail
      go_ret
      exact ⟨rfl, HB9.out⟩
theorem trace_law (w : World) (kind : Int) (hk : isU8 kind) (n : Int) (h0 : isU8 n) (A : Option Addr) (c : Nat) (l : List Pick) (hc : l.length ≤ c) (hm : c ≤ maxLen) (_w0 : ∀ e ∈ l, isI64 e.th ∧ isI64 e.want) (hs : Sl w w.heap.size A (l.flatMap decPk)) :
    Calls Tryz.prog 6 #[.int .u8 kind, .int .u8 n, .slice A l.length c] w fun e w' => e = .returned (.bool true) ∧ Below w.heap.size w w' := by
  by_cases hl : l.length ≤ 100
  · exact trace_walk kind n hk.1 hk.2 h0.1 h0.2 l A c w hl hs
  · have i1 : (100 : Int) < (l.length : Int) := by omega
    have i2 : (l.length : Int) ≤ 9223372036854775807 := by simp only [maxLen] at hm; omega
    clear hs
    go_enter Tryz.func6, Tryz.ntmps6
    go_wp2_with fail
    refine (awake21 _).mono ?_
    rintro e W9 ⟨rfl, hb9⟩
    go_wp2_with fail
    go_ret
    exact ⟨rfl, hb9⟩
end Go.Proofs.YthffhhgaeolpgaaGreat.Ga

