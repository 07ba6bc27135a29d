/- Merged texts: Rgp. -/
import Derived.Test.YthffhhgaeolpgaaGreatGq27
set_option linter.unusedVariables false
/- Layer 21's law GatePlays. -/
namespace Go.Proofs.YthffhhgaeolpgaaGreat.Ga
open Go.RowKit Go.Proofs.YthffhhgaeolpgaaGreat.Ara Go.Proofs.YthffhhgaeolpgaaGreat.Lok Go.Proofs.YthffhhgaeolpgaaGreat.Fl

theorem frame114 {a : Act} (h : a.tmps.size = 114) (hd : a.defers = []) : ∃ u : Nat → Value, a = { tmps := #[u 0, u 1, u 2, u 3, u 4, u 5, u 6, u 7, u 8, u 9, u 10, u 11, u 12, u 13, u 14, u 15, u 16, u 17, u 18, u 19, u 20, u 21, u 22, u 23, u 24, u 25, u 26, u 27, u 28, u 29, u 30, u 31, u 32, u 33, u 34, u 35, u 36, u 37, u 38, u 39, u 40, u 41, u 42, u 43, u 44, u 45, u 46, u 47, u 48, u 49, u 50, u 51, u 52, u 53, u 54, u 55, u 56, u 57, u 58, u 59, u 60, u 61, u 62, u 63, u 64, u 65, u 66, u 67, u 68, u 69, u 70, u 71, u 72, u 73, u 74, u 75, u 76, u 77, u 78, u 79, u 80, u 81, u 82, u 83, u 84, u 85, u 86, u 87, u 88, u 89, u 90, u 91, u 92, u 93, u 94, u 95, u 96, u 97, u 98, u 99, u 100, u 101, u 102, u 103, u 104, u 105, u 106, u 107, u 108, u 109, u 110, u 111, u 112, u 113], defers := [] } ∧ ∀ n, a.tmps.getD n undef = u n := by
  refine ⟨fun n => a.tmps.getD n undef, ?_, fun _ => rfl⟩
  have h1 := arr_lit a.tmps h
  cases a with
  | mk t d =>
    simp only at hd h1
    subst hd
    congr 1
set_option maxHeartbeats 4000000 in
set_option maxRecDepth 100000 in
theorem gplays_err (n0 n1 n2 th : Int) (l : List Pick) (A : Option Addr) (cap : Nat) (w : World) (hl : l.length ≤ 100) (er : Int) (her : er = 1 ∨ er = 7)
    (HPn : ∀ W, Calls Tryz.prog 30 #[.int .i64 n0, .int .i64 n1, .int .i64 n2] W fun e w' => e = .returned (.tuple #[.pointer none, .int .i64 er]) ∧ Below W.heap.size W w')
    (HRn : ∀ W, Calls Tryz.prog 31 #[.int .i64 n0, .int .i64 n1, .int .i64 n2] W fun e w' => e = .returned (.tuple #[.pointer none, .int .i64 er]) ∧ Below W.heap.size W w') :
    Calls Tryz.prog 4 #[.agg #[.int .i64 n0, .int .i64 n1, .int .i64 n2], .slice A l.length cap, .int .i64 th] w fun e w' => e = .returned (.bool true) ∧ Below w.heap.size w w' := by
  have i1 : ¬ (100 : Int) < (l.length : Int) := by omega
  replace HPn := Lib.hid HPn
  replace HRn := Lib.hid HRn
  rcases her with rfl | rfl
  all_goals
    have hbx := blk_new w (.cells #[.int .i64 n0, .int .i64 n1, .int .i64 n2] 56)
    have q0 := blk_cell hbx 0 (by simp)
    have q1 := blk_cell hbx 1 (by simp)
    have q2 := blk_cell hbx 2 (by simp)
    simp only [List.getElem_toArray, List.getElem_cons_zero, List.getElem_cons_succ] at q0 q1 q2
    have hB0 := Lib.hid (below_new w (.cells #[.int .i64 n0, .int .i64 n1, .int .i64 n2] 56))
    have hz0 : (w.alloc (.cells #[.int .i64 n0, .int .i64 n1, .int .i64 n2] 56)).heap.size = w.heap.size + 1 := by simp
    clear hbx
    go_enter Tryz.func4, Tryz.ntmps4
    go_wp2_with fail
    refine (HPn.out _).mono ?_
    rintro e w1 ⟨rfl, hb1⟩
    replace q0 := keep1 hb1 q0
    replace q1 := keep1 hb1 q1
    replace q2 := keep1 hb1 q2
    have HB1 := Lib.hid (hB0.out.trans (hb1.mono hB0.out.size))
    clear hb1
    go_wp2_with fail
    refine (HRn.out _).mono ?_
    rintro e w2 ⟨rfl, hb2⟩
    have HB2 := Lib.hid (HB1.out.trans (hb2.mono HB1.out.size))
    clear hb2 q0 q1 q2
    go_wp2_with fail
    refine (awake21 _).mono ?_
    rintro e w9 ⟨rfl, hb9⟩
    have HB9 := Lib.hid (HB2.out.trans (hb9.mono HB2.out.size))
    clear hb9
    go_wp2_with fail
    go_ret
    exact ⟨rfl, HB9.out⟩
structure GDuo (W : World) (gg gf gl ga ha hs gy gK gL gr base hr : Nat) (p : PK) (σ : Ar) (ρ : Rf) (sp : List Sp) (n m : Nat) : Prop where
  ok : OkK p σ sp n m
  al : Alk σ ρ
  gat : GAt W gg gf gl ga ha hs p σ sp
  rg : RG W gy gK gL gr base hr p ρ sp
  ap : ∀ x ∈ [gg, gf, gl, ga, ha, hs], x ≠ gy ∧ x ≠ gK ∧ x ≠ gL ∧ x ≠ gr ∧ x ≠ hr
theorem GDuo.same {W W' : World} {gg gf gl ga ha hs gy gK gL gr base hr : Nat} {p : PK} {σ : Ar} {ρ : Rf} {sp : List Sp} {n m : Nat} (h : GDuo W gg gf gl ga ha hs gy gK gL gr base hr p σ ρ sp n m) (hb : Below W.heap.size W W') : GDuo W' gg gf gl ga ha hs gy gK gL gr base hr p σ ρ sp n m :=
  ⟨h.ok, h.al, h.gat.same hb, h.rg.same hb, h.ap⟩
theorem GDuo.drewN {W : World} {gg gf gl ga ha hs gy gK gL gr base hr : Nat} {p : PK} {σ : Ar} {ρ : Rf} {sp : List Sp} {n m : Nat} (h : GDuo W gg gf gl ga ha hs gy gK gL gr base hr p σ ρ sp n m) (k : Nat) : GDuo (W.drewN k) gg gf gl ga ha hs gy gK gL gr base hr p σ ρ sp n m :=
  ⟨h.ok, h.al, h.gat.drewN k, h.rg.drewN k, h.ap⟩
theorem GDuo.prog {W W' : World} {gg gf gl ga ha hs gy gK gL gr base hr : Nat} {p : PK} {σ : Ar} {ρ : Rf} {sp : List Sp} {n m : Nat} (h : GDuo W gg gf gl ga ha hs gy gK gL gr base hr p σ ρ sp n m) (hm : Mod [ga, ha, hs] W W') : RG W' gy gK gL gr base hr p ρ sp := by
  have hi := h.gat.fl.ints h.ok.taken
  have ap := h.ap
  have key : ∀ x ∈ [ga, ha, hs], x ∈ [gg, gf, gl, ga, ha, hs] := by intro x hx; simp at hx ⊢; rcases hx with rfl | rfl | rfl <;> simp
  refine h.rg.mod hm (fun x hx => ⟨(ap x (key x hx)).2.2.2.1, hi x hx⟩) (fun hx => ?_) (fun hx => ?_) (fun hx => ?_) (fun hx => ?_)
  · exact (ap _ (key _ hx)).1 rfl
  · exact (ap _ (key _ hx)).2.1 rfl
  · exact (ap _ (key _ hx)).2.2.1 rfl
  · exact (ap _ (key _ hx)).2.2.2.2 rfl
theorem GAt.rms {base : Nat} {S : List Nat} {W W' : World} {gg gf gl ga ha hs : Nat} {p : PK} {σ : Ar} {sp : List Sp} (k : GAt W gg gf gl ga ha hs p σ sp) (hm : RMs base S W W') (h : ∀ x ∈ [gg, gf, gl, ga, ha, hs], x ∉ S) : GAt W' gg gf gl ga ha hs p σ sp :=
  ⟨(hm.blk k.gb (by decide) (h _ (by simp))).trans k.gb, k.fl.rms hm (h _ (by simp)) (h _ (by simp)) (h _ (by simp)) (h _ (by simp)) (h _ (by simp)), k.n1, k.n2, k.n3, Nat.lt_of_lt_of_le k.nh hm.size⟩
theorem GDuo.both {W1 W2 : World} {gg gf gl ga ha hs gy gK gL gr base hr : Nat} {p : PK} {σ : Ar} {ρ : Rf} {sp : List Sp} {n m : Nat} (ok : OkK p σ sp n m) (ap : ∀ x ∈ [gg, gf, gl, ga, ha, hs], x ≠ gy ∧ x ≠ gK ∧ x ≠ gL ∧ x ≠ gr ∧ x ≠ hr) (hf : GAt W1 gg gf gl ga ha hs p σ sp) (al : Alk σ ρ) (hl : RG W2 gy gK gL gr base hr p ρ sp) (hm : RMs base [gr, hr] W1 W2) : GDuo W2 gg gf gl ga ha hs gy gK gL gr base hr p σ ρ sp n m :=
  ⟨ok, al, hf.rms hm (fun x hx => by have := ap x hx; simp; omega), hl, ap⟩
def GHi (x gg gf gl ga ha hs gy gK gL gr hr : Nat) : Prop := x < gg ∧ x < gf ∧ x < gl ∧ x < ga ∧ x < ha ∧ x < hs ∧ x < gy ∧ x < gK ∧ x < gL ∧ x < gr ∧ x < hr
def GpJ (l : List Pick) (A : Option Addr) (cap N x gg gf gl ga ha hs gy gK gL gr base hr : Nat) (p : PK) (th : Int) (w : World) (a : Act) (W : World) : Prop :=
  a.tmps.size = 114 ∧ a.defers = [] ∧ a.tmps.getD 1 undef = .slice A l.length cap ∧ a.tmps.getD 2 undef = .int .i64 th ∧ a.tmps.getD 7 undef = .pointer (some ⟨gg, 0, none⟩) ∧ a.tmps.getD 9 undef = .pointer (some ⟨gy, 0, none⟩) ∧
    ∃ (k : Nat) (σ : Ar) (ρ : Rf) (sp : List Sp), a.tmps.getD 11 undef = .int .i64 k ∧ k ≤ l.length ∧ GDuo W gg gf gl ga ha hs gy gK gL gr base hr p σ ρ sp N k ∧ Below x w W
set_option maxHeartbeats 4000000 in
set_option maxRecDepth 100000 in
theorem gplays_ok (n0 n2 th : Int) (N : Nat) (hM : mayK n0 N n2) (l : List Pick) (A : Option Addr) (cap : Nat) (w : World) (hl : l.length ≤ 100) (hs : Sl w w.heap.size A (l.flatMap decPk)) :
    Calls Tryz.prog 4 #[.agg #[.int .i64 n0, .int .i64 (N : Int), .int .i64 n2], .slice A l.length cap, .int .i64 th] w fun e w' => e = .returned (.bool true) ∧ Below w.heap.size w w' := by
  have i1 : ¬ (100 : Int) < (l.length : Int) := by omega
  have hN2 : N ≤ 32 := hM.2.1.2
  have HM := Lib.hid hM
  have HSl := Lib.hid hs
  have HO := Lib.hid (ok_flat n0 N n2 hM (Ar.fresh 4096) (fun k _ => zeros_getD _ _) (by have := size_lt hM; show 0 + _ ≤ (Ar.fresh 4096).ws.length; simp [Ar.fresh, zerosW]; omega) (by simp [Ar.fresh, zerosW]) 0 (Nat.le_refl _))
  have HPn := Lib.hid (fun W => gnew_any n0 N n2 hM W)
  have HRn := Lib.hid (fun W => rnew21_ok n0 N n2 hM W)
  clear hM hs
  obtain ⟨n1, hn1⟩ : ∃ n1 : Int, n1 = (N : Int) := ⟨_, rfl⟩
  rw [← hn1] at HPn HRn ⊢
  replace hn1 := Lib.hid hn1
  have hbx := blk_new w (.cells #[.int .i64 n0, .int .i64 n1, .int .i64 n2] 56)
  have q0 := blk_cell hbx 0 (by simp)
  have q1 := blk_cell hbx 1 (by simp)
  have q2 := blk_cell hbx 2 (by simp)
  simp only [List.getElem_toArray, List.getElem_cons_zero, List.getElem_cons_succ] at q0 q1 q2
  have hB0 := Lib.hid (below_new w (.cells #[.int .i64 n0, .int .i64 n1, .int .i64 n2] 56))
  have hz0 : (w.alloc (.cells #[.int .i64 n0, .int .i64 n1, .int .i64 n2] 56)).heap.size = w.heap.size + 1 := by simp
  clear hbx
  go_enter Tryz.func4, Tryz.ntmps4
  go_wp2_with fail
  refine (HPn.out _).mono ?_
  rintro e w1 ⟨gg, gf, gl, hsp, rfl, hga, ⟨b1, b2, b3, b4⟩, hb1⟩
  simp only [show (Ar.fresh 4096).t = 0 from rfl, Nat.zero_add] at HO
  have HG := Lib.hid hga
  have hz1 := hb1.size
  have HB1 := Lib.hid (hB0.out.trans (hb1.mono hB0.out.size))
  replace q0 := keep1 hb1 q0
  replace q1 := keep1 hb1 q1
  replace q2 := keep1 hb1 q2
  rw [hz0] at HG b1 b2 b3 b4 hz1
  clear hga hb1
  go_wp2_with fail
  refine (HRn.out _).mono ?_
  rintro e w2 ⟨gy, gL, hr, ρ0, rfl, hal, hrg, ⟨r1, r2, r3⟩, hb2⟩
  obtain ⟨t1, t2, t3, t4, t5, t6⟩ := HG.out.blocks
  have HD := Lib.hid (show GDuo w2 gg gf gl (w.heap.size + 1 + 1) (w.heap.size + 1) hsp gy (w1.heap.size + 1) gL w1.heap.size (w1.heap.size + 1) hr _ _ ρ0 _ N 0 from ⟨HO.out, hal, HG.out.same hb2, hrg, by intro x hx; simp at hx; omega⟩)
  have HH := Lib.hid (show GHi w.heap.size gg gf gl (w.heap.size + 1 + 1) (w.heap.size + 1) hsp gy (w1.heap.size + 1) gL w1.heap.size hr from by unfold GHi; omega)
  have HB2 := Lib.hid (HB1.out.trans (hb2.mono HB1.out.size))
  have hbs : w.heap.size < w1.heap.size + 1 := by omega
  clear hal hrg hb2 HG HO q0 q1 q2 HPn HRn HB1 r1 r2 r3 t1 t2 t3 t4 t5 t6 b1 b2 b3 b4 hz0 hz1 hB0
  generalize (firstK n0 N n2 1 { Ar.fresh 4096 with t := sizeK n0 N n2 }) = fk at *
  obtain ⟨σ0, sp0⟩ := fk
  generalize pkK n0 n2 1 = p at *
  simp only at HD
  go_wp2_with fail
  refine wp_loop (GpJ l A cap N w.heap.size gg gf gl (w.heap.size + 1 + 1) (w.heap.size + 1) hsp gy (w1.heap.size + 1) gL w1.heap.size (w1.heap.size + 1) hr p th w) (fun a' _ => l.length - (intOf (a'.tmps.getD 11 undef)).toNat) ?_ ?_
  · exact ⟨rfl, rfl, rfl, rfl, rfl, rfl, 0, σ0, ρ0, sp0, rfl, Nat.zero_le _, HD.out, HB2.out⟩
  · clear HD HB2
    rintro a' W ⟨hsz, hdf, s1, s2, s7, s9, k, σ, ρ, sp, s11, hk, hD, hB⟩
    obtain ⟨u, rfl, hu⟩ := frame114 hsz hdf
    rw [hu] at s1 s2 s7 s9 s11
    simp only [s1, s2, s7, s9, s11]
    clear hsz hdf s1 s2 s7 s9 s11 hu
    have hbs2 : w.heap.size < w1.heap.size + 1 := hbs
    clear hbs
    generalize w1.heap.size + 1 = base at HH hD hbs2 ⊢
    generalize w1.heap.size = gr at HH hD ⊢
    generalize w.heap.size + 1 + 1 = ga at HH hD ⊢
    generalize w.heap.size + 1 = ha at HH hD ⊢
    have HD := Lib.hid hD
    have HB := Lib.hid hB
    have hBW := hB.size
    clear hD
    obtain ⟨x1, x2, x3, x4, x5, x6, x7, x8, x9, x10, x11⟩ := HH.out
    by_cases hlt : k < l.length
    · obtain ⟨b, off, rfl, hbb, hcell⟩ := Sl_at (k := 2) (fun _ => rfl) (by omega) (HSl.out.below hB) (by omega)
      have d0 := hcell k hlt 0 (by omega)
      have d1 := hcell k hlt 1 (by omega)
      simp only [decPk, List.getElem?_cons_zero, List.getElem?_cons_succ, Nat.add_zero, ← Nat.add_assoc] at d0 d1
      clear hcell hB
      generalize l[k] = x at *
      obtain ⟨t, want⟩ := x
      simp only at d0 d1
      have HDo := Lib.hid (do_g (HD.out.drewN 1).gat N k HD.out.ok (by omega) t want)
      have HO2 := Lib.hid (ok_gact HD.out.ok t want)
      have HDn := Lib.hid (fun W' (K : RG W' gy base gL gr base hr p ρ sp) => show Calls Tryz.prog 33 #[.pointer (some ⟨gy, 0, none⟩), .agg #[.int .i64 t, .int .i64 want]] W' fun e w' => e = .returned (gev (gact p σ sp t want).1.1 (gact p σ sp t want).1.2.1 (gact p σ sp t want).1.2.2) ∧ (∃ ρ', Alk (gact p σ sp t want).2.1 ρ' ∧ RG w' gy base gL gr base hr p ρ' (gact p σ sp t want).2.2) ∧ RMs base [gr, hr] W' w' from rdo21 K HD.out.al N k HD.out.ok (by omega) t want)
      obtain ⟨r, hr'⟩ : ∃ r, gact p σ sp t want = r := ⟨_, rfl⟩
      rw [hr'] at HDo HO2 HDn
      clear hr'
      obtain ⟨⟨ek, et, ec⟩, σ2, sp2⟩ := r
      simp only at HDo HO2 HDn
      have i2 : (k : Int) < (l.length : Int) := by omega
      have m1 : ∀ W, (binOp .neq 65 (gev ek et ec) (gev ek et ec)).run Tryz.prog W = .ok (.bool false) W := fun W => by unfold gev; rw [Evs.neE]; simp
      have m2 := fun x y W => Evs.neGE x y #[.int .i64 ek, .int .i64 et, .bool false, .int .i64 ec] #[.int .i64 ek, .int .i64 et, .bool false, .int .i64 ec] W
      replace m2 : ∀ x y W, (eqGuard .neq 65 x y (gev ek et ec) (gev ek et ec)).run Tryz.prog W = .ok () W := fun x y W => m2 x y W
      generalize gev ek et ec = ev at *
      go_wp2_with fail
      refine wp_region_held_drew (S := fun V => V.cell? ⟨b, off + k * 2, none⟩ = some (.int .i64 t) ∧ V.cell? ⟨b, off + k * 2 + 1, none⟩ = some (.int .i64 want)) (by kernel_rfl) ⟨d0, d1⟩ (fun hHeld => ?_)
      refine take_to 0 (some 55) (v := ?_) rfl rfl (by kernel_rfl) (by kernel_rfl) (by kernel_rfl) (fun _ _ _ h => h) (Or.inl ⟨by rfl, ?_⟩) (by first | trivial | assumption) ?_
      rotate_left
      focus (intro w hSw; (try dsimp only at hSw); go_simp; (try with_reducible rfl))
      simp only [Act.put, List.setIfInBounds_toArray, List.set_cons_zero, List.set_cons_succ]
      refine take_to 1 (some 56) (v := ?_) rfl rfl (by kernel_rfl) (by kernel_rfl) (by kernel_rfl) (fun _ _ _ h => h) (Or.inl ⟨by rfl, ?_⟩) (by first | trivial | assumption) ?_
      rotate_left
      focus (intro w hSw; (try dsimp only at hSw); go_simp; (try with_reducible rfl))
      simp only [Act.put, List.setIfInBounds_toArray, List.set_cons_zero, List.set_cons_succ]
      refine take_to 2 (some 57) (v := ?_) rfl rfl (by kernel_rfl) (by kernel_rfl) (by kernel_rfl) (fun _ _ _ h => h) (Or.inl ⟨by rfl, ?_⟩) (by first | trivial | assumption) ?_
      rotate_left
      focus (intro w hSw; (try dsimp only at hSw); go_simp; (try with_reducible rfl))
      simp only [Act.put, List.setIfInBounds_toArray, List.set_cons_zero, List.set_cons_succ]
      refine take_to 3 (some 58) (v := ?_) rfl rfl (by kernel_rfl) (by kernel_rfl) (by kernel_rfl) (fun _ _ _ h => h) (Or.inl ⟨by rfl, ?_⟩) (by first | trivial | assumption) ?_
      rotate_left
      focus (intro w hSw; (try dsimp only at hSw); go_simp; (try with_reducible rfl))
      simp only [Act.put, List.setIfInBounds_toArray, List.set_cons_zero, List.set_cons_succ]
      refine take_to 4 (some 59) (v := ?_) rfl rfl (by kernel_rfl) (by kernel_rfl) (by kernel_rfl) (fun _ _ _ h => h) (Or.inl ⟨by rfl, ?_⟩) (by first | trivial | assumption) ?_
      rotate_left
      focus (intro w hSw; (try dsimp only at hSw); go_simp; (try with_reducible rfl))
      simp only [Act.put, List.setIfInBounds_toArray, List.set_cons_zero, List.set_cons_succ]
      refine take_to 6 (some 61) (v := ?_) rfl rfl (by kernel_rfl) (by kernel_rfl) (by kernel_rfl) (fun _ _ _ h => h) (Or.inl ⟨by rfl, ?_⟩) (by first | trivial | assumption) ?_
      rotate_left
      focus (intro w hSw; (try dsimp only at hSw); go_simp; (try with_reducible rfl))
      simp only [Act.put, List.setIfInBounds_toArray, List.set_cons_zero, List.set_cons_succ]
      refine take_to 7 (some 62) (v := ?_) rfl rfl (by kernel_rfl) (by kernel_rfl) (by kernel_rfl) (fun _ _ _ h => h) (Or.inl ⟨by rfl, ?_⟩) (by first | trivial | assumption) ?_
      rotate_left
      focus (intro w hSw; (try dsimp only at hSw); go_simp; (try with_reducible rfl))
      simp only [Act.put, List.setIfInBounds_toArray, List.set_cons_zero, List.set_cons_succ]
      refine take_to 8 (some 63) (v := ?_) rfl rfl (by kernel_rfl) (by kernel_rfl) (by kernel_rfl) (fun _ _ _ h => h) (Or.inl ⟨by rfl, ?_⟩) (by first | trivial | assumption) ?_
      rotate_left
      focus (intro w hSw; (try dsimp only at hSw); go_simp; (try with_reducible rfl))
      simp only [Act.put, List.setIfInBounds_toArray, List.set_cons_zero, List.set_cons_succ]
      refine take_to 9 (some 64) (v := ?_) rfl rfl (by kernel_rfl) (by kernel_rfl) (by kernel_rfl) (fun _ _ _ h => h) (Or.inl ⟨by rfl, ?_⟩) (by first | trivial | assumption) ?_
      rotate_left
      focus (intro w hSw; (try dsimp only at hSw); go_simp; (try with_reducible rfl))
      simp only [Act.put, List.setIfInBounds_toArray, List.set_cons_zero, List.set_cons_succ]
      refine take_to 10 (some 65) (v := ?_) rfl rfl (by kernel_rfl) (by kernel_rfl) (by kernel_rfl) (fun _ _ _ h => h) (Or.inl ⟨by rfl, ?_⟩) (by first | trivial | assumption) ?_
      rotate_left
      focus (intro w hSw; (try dsimp only at hSw); go_simp; (try with_reducible rfl))
      simp only [Act.put, List.setIfInBounds_toArray, List.set_cons_zero, List.set_cons_succ]
      refine wpAnyH_ready (rs := [5]) (by kernel_rfl) (by simp) ?_
      refine AllReadyH.cons rfl (fun K hK => ?_) AllReadyH.nil
      go_simp
      refine HDo.out.mono ?_
      rintro e w6 ⟨rfl, hf6, hm6⟩
      have HR6 := Lib.hid ((HD.out.drewN 1).prog hm6)
      have HF6 := Lib.hid hf6
      have hh6 := And.intro (keepM hm6 hHeld.1 (by simp; omega)) (keepM hm6 hHeld.2 (by simp; omega))
      have HM6 := Lib.hid hm6
      clear hf6 hm6
      go_simp
      refine hK.out _ _ hh6 (fun hHeld => ?_)
      refine wpAnyH_ready (rs := [11]) (by kernel_rfl) (by simp) ?_
      refine AllReadyH.cons rfl (fun K hK => ?_) AllReadyH.nil
      go_simp
      refine (HDn.out _ HR6.out).mono ?_
      rintro e w7 ⟨rfl, ⟨ρ2, hal, hl7⟩, hm7⟩
      (try simp only at hal hl7)
      have HD7 := Lib.hid (GDuo.both HO2.out HD.out.ap HF6.out hal hl7 hm7)
      have HB7 := Lib.hid (RMs.below (((HB.out.trans (Below.drew (Below.refl _ W))).trans (HM6.out.below (by exact hBW) (by simp; omega)))) hm7 (Nat.le_trans hBW (HM6.out.size)) (Nat.le_of_lt hbs2) (by simp; omega))
      have hh7 := And.intro (keepR hm7 hh6.1 (by simp; omega) (by simp; omega)) (keepR hm7 hh6.2 (by simp; omega) (by simp; omega))
      have hz7 := HB7.out.size
      obtain ⟨Aq, cq, _, q1, q2, _, _, _, _, _, _, hown⟩ := HD7.out.rg.rl.at_.facts.1.slot
      rw [hal.len] at q1
      rw [hal.2.2.2.2.1] at q2
      have q0 := HD7.out.rg.cells.1
      have HRw := Lib.hid (show Rw base w7 Aq cq σ2.t (σ2.ws.take σ2.t) from by have h := hown; rw [hal.len] at h; rw [← hal.2.1]; exact h)
      have HTk := Lib.hid (show (σ2.ws.take σ2.t).length = σ2.t from by rw [List.length_take]; have := hal.2.2.1; omega)
      have HLe := Lib.hid (show σ2.t ≤ 4096 from Nat.le_trans hal.2.2.1 HD7.out.gat.fl.at_.facts.1.2.1)
      clear hm7 hl7 hown hal HR6 HF6 HM6 HDn HDo hh6 d0 d1
      go_simp
      refine hK.out _ _ hh7 (fun hHeld => ?_)
      refine held_weaken (S' := fun V => (V.cell? ⟨b, off + k * 2, none⟩ = some (.int .i64 t) ∧ V.cell? ⟨b, off + k * 2 + 1, none⟩ = some (.int .i64 want)) ∧ V.cell? ⟨gy, 0, none⟩ = some (.pointer (some ⟨gr, 0, none⟩)) ∧ V.cell? ⟨gr, 1, none⟩ = some (.slice Aq σ2.t cq) ∧ V.cell? ⟨gr, 2, none⟩ = some (.int .i64 σ2.ops)) (fun _ h => h.1) _ _ _ _ ?_
      have hHS := And.intro hh7 (And.intro q0 (And.intro q1 q2))
      refine take_to 12 (some 67) (v := ?_) rfl rfl (by kernel_rfl) (by kernel_rfl) (by kernel_rfl) (fun _ _ _ h => h) (Or.inl ⟨by rfl, ?_⟩) (by first | trivial | assumption) ?_
      rotate_left
      focus (intro w hSw; (try dsimp only at hSw); go_simp; (try with_reducible rfl))
      simp only [Act.put, List.setIfInBounds_toArray, List.set_cons_zero, List.set_cons_succ]
      refine take_to 13 (some 68) (v := ?_) rfl rfl (by kernel_rfl) (by kernel_rfl) (by kernel_rfl) (fun _ _ _ h => h) (Or.inl ⟨by rfl, ?_⟩) (by first | trivial | assumption) ?_
      rotate_left
      focus (intro w hSw; (try dsimp only at hSw); go_simp; (try with_reducible rfl))
      simp only [Act.put, List.setIfInBounds_toArray, List.set_cons_zero, List.set_cons_succ]
      refine take_to 14 (some 69) (v := ?_) rfl rfl (by kernel_rfl) (by kernel_rfl) (by kernel_rfl) (fun _ _ _ h => h) (Or.inl ⟨by rfl, ?_⟩) (by first | trivial | assumption) ?_
      rotate_left
      focus (intro w hSw; (try dsimp only at hSw); go_simp; (try with_reducible rfl))
      simp only [Act.put, List.setIfInBounds_toArray, List.set_cons_zero, List.set_cons_succ]
      refine take_to 16 (some 71) (v := ?_) rfl rfl (by kernel_rfl) (by kernel_rfl) (by kernel_rfl) (fun _ _ _ h => h) (Or.inl ⟨by rfl, ?_⟩) (by first | trivial | assumption) ?_
      rotate_left
      focus (intro w hSw; (try dsimp only at hSw); go_simp; (try with_reducible rfl))
      simp only [Act.put, List.setIfInBounds_toArray, List.set_cons_zero, List.set_cons_succ]
      refine take_to 17 (some 72) (v := ?_) rfl rfl (by kernel_rfl) (by kernel_rfl) (by kernel_rfl) (fun _ _ _ h => h) (Or.inl ⟨by rfl, ?_⟩) (by first | trivial | assumption) ?_
      rotate_left
      focus (intro w hSw; (try dsimp only at hSw); go_simp; (try with_reducible rfl))
      simp only [Act.put, List.setIfInBounds_toArray, List.set_cons_zero, List.set_cons_succ]
      refine take_to 18 (some 73) (v := ?_) rfl rfl (by kernel_rfl) (by kernel_rfl) (by kernel_rfl) (fun _ _ _ h => h) (Or.inl ⟨by rfl, ?_⟩) (by first | trivial | assumption) ?_
      rotate_left
      focus (intro w hSw; (try dsimp only at hSw); go_simp; (try with_reducible rfl))
      simp only [Act.put, List.setIfInBounds_toArray, List.set_cons_zero, List.set_cons_succ]
      refine take_to 19 (some 74) (v := ?_) rfl rfl (by kernel_rfl) (by kernel_rfl) (by kernel_rfl) (fun _ _ _ h => h) (Or.inl ⟨by rfl, ?_⟩) (by first | trivial | assumption) ?_
      rotate_left
      focus (intro w hSw; (try dsimp only at hSw); go_simp; (try with_reducible rfl))
      simp only [Act.put, List.setIfInBounds_toArray, List.set_cons_zero, List.set_cons_succ]
      refine take_to 20 (some 75) (v := ?_) rfl rfl (by kernel_rfl) (by kernel_rfl) (by kernel_rfl) (fun _ _ _ h => h) (Or.inl ⟨by rfl, ?_⟩) (by first | trivial | assumption) ?_
      rotate_left
      focus (intro w hSw; (try dsimp only at hSw); go_simp; (try with_reducible rfl))
      simp only [Act.put, List.setIfInBounds_toArray, List.set_cons_zero, List.set_cons_succ]
      refine take_to 21 (some 76) (v := ?_) rfl rfl (by kernel_rfl) (by kernel_rfl) (by kernel_rfl) (fun _ _ _ h => h) (Or.inl ⟨by rfl, ?_⟩) (by first | trivial | assumption) ?_
      rotate_left
      focus (intro w hSw; (try dsimp only at hSw); go_simp; (try with_reducible rfl))
      simp only [Act.put, List.setIfInBounds_toArray, List.set_cons_zero, List.set_cons_succ]
      refine take_to 22 (some 77) (v := ?_) rfl rfl (by kernel_rfl) (by kernel_rfl) (by kernel_rfl) (fun _ _ _ h => h) (Or.inl ⟨by rfl, ?_⟩) (by first | trivial | assumption) ?_
      rotate_left
      focus (intro w hSw; (try dsimp only at hSw); go_simp; (try with_reducible rfl))
      simp only [Act.put, List.setIfInBounds_toArray, List.set_cons_zero, List.set_cons_succ]
      refine wpAnyH_ready (rs := [15]) (by kernel_rfl) (by simp) ?_
      refine AllReadyH.cons rfl (fun K hK => ?_) AllReadyH.nil
      go_simp
      refine (words_g HD7.out.gat).mono ?_
      rintro e w8 ⟨A8, c8, rfl, hs8, hb8⟩
      have hh8 := And.intro (And.intro (keep1 hb8 hh7.1) (keep1 hb8 hh7.2)) (And.intro (keep1 hb8 q0) (And.intro (keep1 hb8 q1) (keep1 hb8 q2)))
      go_simp
      refine hK.out _ _ hh8 (fun hHeld => ?_)
      refine wpAnyH_ready (rs := [23]) (by kernel_rfl) (by simp) ?_
      refine AllReadyH.cons rfl (fun K hK => ?_) AllReadyH.nil
      go_simp
      refine (same_tt (σ2.ws.take σ2.t) A8 Aq c8 cq σ2.t _ HTk.out HLe.out hs8 (HRw.out.same hb8).sl).mono ?_
      rintro e w9 ⟨rfl, hb9⟩
      have hh9 := And.intro (And.intro (keep1 hb9 hh8.1.1) (keep1 hb9 hh8.1.2)) (And.intro (keep1 hb9 hh8.2.1) (And.intro (keep1 hb9 hh8.2.2.1) (keep1 hb9 hh8.2.2.2)))
      have HD9 := Lib.hid ((HD7.out.same hb8).same hb9)
      have HB9 := Lib.hid ((HB7.out.trans (hb8.mono hz7)).trans (hb9.mono (Nat.le_trans hz7 hb8.size)))
      clear hs8 hb8 hb9 hh8 hHS q0 q1 q2 hh7 HRw HTk HLe
      go_simp
      refine hK.out _ _ hh9 (fun hHeld => ?_)
      refine take_to 24 (some 79) (v := ?_) rfl rfl (by kernel_rfl) (by kernel_rfl) (by kernel_rfl) (fun _ _ _ h => h) (Or.inl ⟨by rfl, ?_⟩) (by first | trivial | assumption) ?_
      rotate_left
      focus (intro w hSw; (try dsimp only at hSw); go_simp; (try with_reducible rfl))
      simp only [Act.put, List.setIfInBounds_toArray, List.set_cons_zero, List.set_cons_succ]
      refine take_to 25 (some 80) (v := ?_) rfl rfl (by kernel_rfl) (by kernel_rfl) (by kernel_rfl) (fun _ _ _ h => h) (Or.inl ⟨by rfl, ?_⟩) (by first | trivial | assumption) ?_
      rotate_left
      focus (intro w hSw; (try dsimp only at hSw); go_simp; (try with_reducible rfl))
      simp only [Act.put, List.setIfInBounds_toArray, List.set_cons_zero, List.set_cons_succ]
      refine take_to 26 (some 81) (v := ?_) rfl rfl (by kernel_rfl) (by kernel_rfl) (by kernel_rfl) (fun _ _ _ h => h) (Or.inl ⟨by rfl, ?_⟩) (by first | trivial | assumption) ?_
      rotate_left
      focus (intro w hSw; (try dsimp only at hSw); go_simp; (try with_reducible rfl))
      simp only [Act.put, List.setIfInBounds_toArray, List.set_cons_zero, List.set_cons_succ]
      refine take_to 27 (some 82) (v := ?_) rfl rfl (by kernel_rfl) (by kernel_rfl) (by kernel_rfl) (fun _ _ _ h => h) (Or.inl ⟨by rfl, ?_⟩) (by first | trivial | assumption) ?_
      rotate_left
      focus (intro w hSw; (try dsimp only at hSw); go_simp; (try with_reducible rfl))
      simp only [Act.put, List.setIfInBounds_toArray, List.set_cons_zero, List.set_cons_succ]
      refine take_to 29 (some 84) (v := ?_) rfl rfl (by kernel_rfl) (by kernel_rfl) (by kernel_rfl) (fun _ _ _ h => h) (Or.inl ⟨by rfl, ?_⟩) (by first | trivial | assumption) ?_
      rotate_left
      focus (intro w hSw; (try dsimp only at hSw); go_simp; (try with_reducible rfl))
      simp only [Act.put, List.setIfInBounds_toArray, List.set_cons_zero, List.set_cons_succ]
      refine take_to 30 (some 85) (v := ?_) rfl rfl (by kernel_rfl) (by kernel_rfl) (by kernel_rfl) (fun _ _ _ h => h) (Or.inl ⟨by rfl, ?_⟩) (by first | trivial | assumption) ?_
      rotate_left
      focus (intro w hSw; (try dsimp only at hSw); go_simp; (try with_reducible rfl))
      simp only [Act.put, List.setIfInBounds_toArray, List.set_cons_zero, List.set_cons_succ]
      refine take_to 31 (some 86) (v := ?_) rfl rfl (by kernel_rfl) (by kernel_rfl) (by kernel_rfl) (fun _ _ _ h => h) (Or.inl ⟨by rfl, ?_⟩) (by first | trivial | assumption) ?_
      rotate_left
      focus (intro w hSw; (try dsimp only at hSw); go_simp; (try with_reducible rfl))
      simp only [Act.put, List.setIfInBounds_toArray, List.set_cons_zero, List.set_cons_succ]
      refine take_to 32 (some 87) (v := ?_) rfl rfl (by kernel_rfl) (by kernel_rfl) (by kernel_rfl) (fun _ _ _ h => h) (Or.inl ⟨by rfl, ?_⟩) (by first | trivial | assumption) ?_
      rotate_left
      focus (intro w hSw; (try dsimp only at hSw); go_simp; (try with_reducible rfl))
      simp only [Act.put, List.setIfInBounds_toArray, List.set_cons_zero, List.set_cons_succ]
      refine take_to 33 (some 88) (v := ?_) rfl rfl (by kernel_rfl) (by kernel_rfl) (by kernel_rfl) (fun _ _ _ h => h) (Or.inl ⟨by rfl, ?_⟩) (by first | trivial | assumption) ?_
      rotate_left
      focus (intro w hSw; (try dsimp only at hSw); go_simp; (try with_reducible rfl))
      simp only [Act.put, List.setIfInBounds_toArray, List.set_cons_zero, List.set_cons_succ]
      refine take_to 34 (some 89) (v := ?_) rfl rfl (by kernel_rfl) (by kernel_rfl) (by kernel_rfl) (fun _ _ _ h => h) (Or.inl ⟨by rfl, ?_⟩) (by first | trivial | assumption) ?_
      rotate_left
      focus (intro w hSw; (try dsimp only at hSw); go_simp; (try with_reducible rfl))
      simp only [Act.put, List.setIfInBounds_toArray, List.set_cons_zero, List.set_cons_succ]
      refine take_to 35 (some 90) (v := ?_) rfl rfl (by kernel_rfl) (by kernel_rfl) (by kernel_rfl) (fun _ _ _ h => h) (Or.inl ⟨by rfl, ?_⟩) (by first | trivial | assumption) ?_
      rotate_left
      focus (intro w hSw; (try dsimp only at hSw); go_simp; (try with_reducible rfl))
      simp only [Act.put, List.setIfInBounds_toArray, List.set_cons_zero, List.set_cons_succ]
      refine wpAnyH_ready (rs := [28]) (by kernel_rfl) (by simp) ?_
      refine AllReadyH.cons rfl (fun K hK => ?_) AllReadyH.nil
      go_simp
      refine (ops_g HD9.out.gat).mono ?_
      rintro e wx ⟨rfl, hwx⟩
      obtain rfl := hwx.symm
      go_simp
      refine hK.out _ _ hh9 (fun hHeld => ?_)
      refine take_to 36 (some 91) (v := ?_) rfl rfl (by kernel_rfl) (by kernel_rfl) (by kernel_rfl) (fun _ _ _ h => h) (Or.inl ⟨by rfl, ?_⟩) (by first | trivial | assumption) ?_
      rotate_left
      focus (intro w hSw; (try dsimp only at hSw); go_simp; (try with_reducible rfl))
      simp only [Act.put, List.setIfInBounds_toArray, List.set_cons_zero, List.set_cons_succ]
      refine take_to 37 (some 92) (v := ?_) rfl rfl (by kernel_rfl) (by kernel_rfl) (by kernel_rfl) (fun _ _ _ h => h) (Or.inl ⟨by rfl, ?_⟩) (by first | trivial | assumption) ?_
      rotate_left
      focus (intro w hSw; (try dsimp only at hSw); go_simp; (try with_reducible rfl))
      simp only [Act.put, List.setIfInBounds_toArray, List.set_cons_zero, List.set_cons_succ]
      refine take_to 38 (some 93) (v := ?_) rfl rfl (by kernel_rfl) (by kernel_rfl) (by kernel_rfl) (fun _ _ _ h => h) (Or.inl ⟨by rfl, ?_⟩) (by first | trivial | assumption) ?_
      rotate_left
      focus (intro w hSw; (try dsimp only at hSw); go_simp; (try with_reducible rfl))
      simp only [Act.put, List.setIfInBounds_toArray, List.set_cons_zero, List.set_cons_succ]
      refine take_to 39 (some 94) (v := ?_) rfl rfl (by kernel_rfl) (by kernel_rfl) (by kernel_rfl) (fun _ _ _ h => h) (Or.inl ⟨by rfl, ?_⟩) (by first | trivial | assumption) ?_
      rotate_left
      focus (intro w hSw; (try dsimp only at hSw); go_simp; (try with_reducible rfl))
      simp only [Act.put, List.setIfInBounds_toArray, List.set_cons_zero, List.set_cons_succ]
      refine take_to 40 (some 95) (v := ?_) rfl rfl (by kernel_rfl) (by kernel_rfl) (by kernel_rfl) (fun _ _ _ h => h) (Or.inl ⟨by rfl, ?_⟩) (by first | trivial | assumption) ?_
      rotate_left
      focus (intro w hSw; (try dsimp only at hSw); go_simp; (try with_reducible rfl))
      simp only [Act.put, List.setIfInBounds_toArray, List.set_cons_zero, List.set_cons_succ]
      refine take_to 42 (some 97) (v := ?_) rfl rfl (by kernel_rfl) (by kernel_rfl) (by kernel_rfl) (fun _ _ _ h => h) (Or.inl ⟨by rfl, ?_⟩) (by first | trivial | assumption) ?_
      rotate_left
      focus (intro w hSw; (try dsimp only at hSw); go_simp; (try with_reducible rfl))
      simp only [Act.put, List.setIfInBounds_toArray, List.set_cons_zero, List.set_cons_succ]
      refine take_to 43 (some 98) (v := ?_) rfl rfl (by kernel_rfl) (by kernel_rfl) (by kernel_rfl) (fun _ _ _ h => h) (Or.inl ⟨by rfl, ?_⟩) (by first | trivial | assumption) ?_
      rotate_left
      focus (intro w hSw; (try dsimp only at hSw); go_simp; (try with_reducible rfl))
      simp only [Act.put, List.setIfInBounds_toArray, List.set_cons_zero, List.set_cons_succ]
      refine wpAnyH_ready (rs := [41]) (by kernel_rfl) (by simp) ?_
      refine AllReadyH.cons rfl (fun K hK => ?_) AllReadyH.nil
      go_simp
      refine (state_g HD9.out.gat th).mono ?_
      rintro e w10 ⟨rfl, hb10⟩
      have hh10 := And.intro (And.intro (keep1 hb10 hh9.1.1) (keep1 hb10 hh9.1.2)) (And.intro (keep1 hb10 hh9.2.1) (And.intro (keep1 hb10 hh9.2.2.1) (keep1 hb10 hh9.2.2.2)))
      have HD10 := Lib.hid (HD9.out.same hb10)
      have HB10 := Lib.hid (HB9.out.trans (hb10.mono HB9.out.size))
      clear hb10 hh9 HD9 HB9
      go_simp
      refine hK.out _ _ hh10 (fun hHeld => ?_)
      refine wpAnyH_ready (rs := [44]) (by kernel_rfl) (by simp) ?_
      refine AllReadyH.cons rfl (fun K hK => ?_) AllReadyH.nil
      go_simp
      refine (rstate21 HD10.out.rg th).mono ?_
      rintro e w11 ⟨rfl, hb11⟩
      have hh11 := And.intro (And.intro (keep1 hb11 hh10.1.1) (keep1 hb11 hh10.1.2)) (And.intro (keep1 hb11 hh10.2.1) (And.intro (keep1 hb11 hh10.2.2.1) (keep1 hb11 hh10.2.2.2)))
      have HD11 := Lib.hid (HD10.out.same hb11)
      have HB11 := Lib.hid (HB10.out.trans (hb11.mono HB10.out.size))
      clear hb11 hh10 HD10 HB10
      go_simp
      refine hK.out _ _ hh11 (fun hHeld => ?_)
      refine take_to 45 (some 100) (v := ?_) rfl rfl (by kernel_rfl) (by kernel_rfl) (by kernel_rfl) (fun _ _ _ h => h) (Or.inl ⟨by rfl, ?_⟩) (by first | trivial | assumption) ?_
      rotate_left
      focus (intro w hSw; (try dsimp only at hSw); go_simp; (try with_reducible rfl))
      simp only [Act.put, List.setIfInBounds_toArray, List.set_cons_zero, List.set_cons_succ]
      refine take_to 46 (some 101) (v := ?_) rfl rfl (by kernel_rfl) (by kernel_rfl) (by kernel_rfl) (fun _ _ _ h => h) (Or.inl ⟨by rfl, ?_⟩) (by first | trivial | assumption) ?_
      rotate_left
      focus (intro w hSw; (try dsimp only at hSw); go_simp; (try with_reducible rfl))
      simp only [Act.put, List.setIfInBounds_toArray, List.set_cons_zero, List.set_cons_succ]
      refine wpAnyH_done (by kernel_rfl) ?_ _
      clear hh11 HD7 HB7 HD HB
      go_wp2_with fail
      exact ⟨⟨rfl, rfl, rfl, rfl, rfl, rfl, k + 1, σ2, ρ2, sp2, rfl, hlt, HD11.out, HB11.out⟩, by simp [intOf]; omega⟩
    · have i2 : ¬ (k : Int) < (l.length : Int) := by omega
      have HS1 := Lib.hid (threads_g (HD.out.drewN 1).gat)
      have HS2 := Lib.hid (rSpots (HD.out.drewN 1).rg.rl)
      have q1 := HD.out.rg.cells.2
      have HAW := Lib.hid (fun W => awake21 W)
      clear hB
      go_wp2_with fail
      go_region_held3 (fun V => V.cell? ⟨gy, 1, none⟩ = some (.pointer (some ⟨base, 0, none⟩)))
        (first | exact q1 | exact k1)
        (first
          | (go_at_call 38; refine HS1.out.mono ?_; rintro e wx ⟨rfl, hwx⟩; obtain rfl := hwx.symm)
          | (go_at_call 23; refine HS2.out.mono ?_; rintro e wx ⟨⟨cx, rfl⟩, hwx⟩; obtain rfl := hwx.symm)
          | (go_at_call 29; refine (HAW.out _).mono ?_; rintro e w9 ⟨rfl, hb9⟩; have k1 := keep1 hb9 (show (W.drewN 1).cell? _ = _ from q1)))
      have HB9 := Lib.hid (HB.out.trans ((Below.drew (Below.refl _ W)).trans (hb9.mono hBW)))
      clear k1 hb9 q1
      go_wp2_with fail
      go_ret
      exact ⟨rfl, HB9.out⟩
theorem list3 {α : Type} {n : List α} (h : n.length = 3) : ∃ a b c, n = [a, b, c] := by
  match n, h with
  | [a, b, c], _ => exact ⟨a, b, c, rfl⟩
theorem gplays21 (n0 n1 n2 th : Int) (l : List Pick) (A : Option Addr) (cap : Nat) (w : World) (hl : l.length ≤ 100) (hs : Sl w w.heap.size A (l.flatMap decPk)) :
    Calls Tryz.prog 4 #[.agg #[.int .i64 n0, .int .i64 n1, .int .i64 n2], .slice A l.length cap, .int .i64 th] w fun e w' => e = .returned (.bool true) ∧ Below w.heap.size w w' := by
  by_cases hk : 1 ≤ n0 ∧ n0 ≤ 5
  · by_cases ha : argsOk n0 n1 n2
    · obtain ⟨N, rfl⟩ := Int.eq_ofNat_of_zero_le (show 0 ≤ n1 by have := ha.1; omega)
      exact gplays_ok n0 n2 th N (may_of hk ha) l A cap w hl hs
    · exact gplays_err n0 n1 n2 th l A cap w hl 1 (.inl rfl) (gnew_err n0 n1 n2 1 (.inl rfl) (fun q W => pbad q n0 n1 n2 hk ha W)) (rnew21_err n0 n1 n2 1 (.inl rfl) (fun gr base W h1 h2 => (rbad_flat gr base W h1 h2 n0 n1 n2 hk ha).mono fun e w' h => h))
  · exact gplays_err n0 n1 n2 th l A cap w hl 7 (.inr rfl) (gnew_err n0 n1 n2 7 (.inr rfl) (fun q W => pnewK q n0 n1 n2 (by omega) W)) (rnew21_err n0 n1 n2 7 (.inr rfl) (fun gr base W h1 h2 => (rnewK _ n0 n1 n2 (by omega) W).mono fun e w' ⟨a, b⟩ => ⟨a, RMs.of_mod (Mod.of_below b)⟩))
set_option maxRecDepth 100000 in
theorem gplays_law (w : World) (n : List Int) (hn : n.length = 3 ∧ ∀ a ∈ n, isI64 a) (A : Option Addr) (c : Nat) (l : List Pick) (hc : l.length ≤ c) (hm : c ≤ maxLen) (_w0 : ∀ e ∈ l, isI64 e.th ∧ isI64 e.want) (hs : Sl w w.heap.size A (l.flatMap decPk)) (th : Int) (_ht : isI64 th) :
    Calls Tryz.prog 4 #[.agg (n.flatMap fun n => [.int .i64 n]).toArray, .slice A l.length c, .int .i64 th] w fun e w' => e = .returned (.bool true) ∧ Below w.heap.size w w' := by
  obtain ⟨n0, n1, n2, rfl⟩ := list3 hn.1
  by_cases hl : l.length ≤ 100
  · exact gplays21 n0 n1 n2 th l A c w hl hs
  · have i1 : (100 : Int) < (l.length : Int) := by omega
    have i2 : (l.length : Int) ≤ 9223372036854775807 := by simp only [maxLen] at hm; omega
    have hb0 := below_new w (.cells #[.int .i64 n0, .int .i64 n1, .int .i64 n2] 56)
    show Calls Tryz.prog 4 #[.agg #[.int .i64 n0, .int .i64 n1, .int .i64 n2], .slice A l.length c, .int .i64 th] w _
    clear hs
    go_enter Tryz.func4, Tryz.ntmps4
    go_wp2_with fail
    refine (awake21 _).mono ?_
    rintro e W9 ⟨rfl, hb9⟩
    have HB := Lib.hid (hb0.trans (hb9.mono hb0.size))
    go_wp2_with fail
    go_ret
    exact ⟨rfl, HB.out⟩
end Go.Proofs.YthffhhgaeolpgaaGreat.Ga

