/- Walks of layer 6: Check, Leaves, Depth, and the reference's Leaves, Depth. -/
import Derived.Test.YtcfdphfochfeoaaDoorTp4
import Derived.Test.YtcfdphfochfeoaaDoorReg
namespace Go.Proofs.YtcfdphfochfeoaaDoor.Tp
open Go.RowKit Go.Proofs.YtcfdphfochfeoaaDoor.Li Go.Proofs.YtcfdphfochfeoaaDoor.De Go.Proofs.YtcfdphfochfeoaaDoor.Ara

theorem frame68 {a : Act} (h : a.tmps.size = 68) (hd : a.defers = []) : ∃ u : Nat → Value, a = { tmps := #[u 0, u 1, u 2, u 3, u 4, u 5, u 6, u 7, u 8, u 9, u 10, u 11, u 12, u 13, u 14, u 15, u 16, u 17, u 18, u 19, u 20, u 21, u 22, u 23, u 24, u 25, u 26, u 27, u 28, u 29, u 30, u 31, u 32, u 33, u 34, u 35, u 36, u 37, u 38, u 39, u 40, u 41, u 42, u 43, u 44, u 45, u 46, u 47, u 48, u 49, u 50, u 51, u 52, u 53, u 54, u 55, u 56, u 57, u 58, u 59, u 60, u 61, u 62, u 63, u 64, u 65, u 66, u 67], defers := [] } ∧ ∀ n, a.tmps.getD n undef = u n := by
  refine ⟨fun n => a.tmps.getD n undef, ?_, fun _ => rfl⟩
  have h1 := arr_lit a.tmps h
  cases a with
  | mk t d =>
    simp only at hd h1
    subst hd
    congr 1
/-- What Check has behind its leaves and levels: where they stand. -/
def ChR (p : List Int) (x y : Value) (w : World) (a : Act) (W : World) : Prop :=
  a.tmps.size = 68 ∧ a.defers = [] ∧ a.tmps.getD 1 undef = .pointer (some ⟨w.heap.size, 0, none⟩) ∧ ∃ g eb ec gd : Nat, a.tmps.getD 5 undef = .pointer (some ⟨g, 0, none⟩) ∧ a.tmps.getD 6 undef = .slice (some ⟨gd, 0, none⟩) p.length p.length ∧
    W.cell? ⟨g, 0, none⟩ = some (.slice (some ⟨eb, 0, none⟩) (lvs p).length ec) ∧ (∀ j, j < (lvs p).length → W.cell? ⟨eb, j, none⟩ = some (.int .i64 ((lvs p).getD j 0))) ∧
    (∀ v, v < p.length → W.cell? ⟨gd, v, none⟩ = some (.int .i64 (dep p (v : Int) : Int))) ∧ Bx w W x y
theorem cell_set_ne {w : World} {g b i : Nat} (h : b ≠ g) (u : Value) : (w.setCell ⟨g, 0, none⟩ u).cell? ⟨b, i, none⟩ = w.cell? ⟨b, i, none⟩ := by
  simp only [World.cell?, Below.heap_setCell w ⟨g, 0, none⟩ u b h]
theorem Bx.set {w W : World} {x y : Value} (h : Bx w W x y) {g : Nat} (hg : w.heap.size < g) (u : Value) : Bx w (W.setCell ⟨g, 0, none⟩ u) x y := by
  obtain ⟨h1, h2, h3, h4⟩ := h
  exact ⟨h1.setCell (p := ⟨g, 0, none⟩) (Nat.le_of_lt hg) u, by simpa using h2, (cell_set_ne (Nat.ne_of_lt hg) u).trans h3, (cell_set_ne (Nat.ne_of_lt hg) u).trans h4⟩
theorem nin_no {p t : List Int} (h : anyF (nin (lvs p)) t = false) : ∀ x ∈ t, leafP p x := by
  intro x hx
  unfold anyF at h
  rw [List.any_eq_false] at h
  have := h x hx
  unfold nin at this
  rw [← mem_lvs]
  simpa using this
theorem nin_yes {p t : List Int} (h : anyF (nin (lvs p)) t = true) : ¬ ∀ x ∈ t, leafP p x := by
  intro hh
  unfold anyF at h
  rw [List.any_eq_true] at h
  obtain ⟨x, hx, h⟩ := h
  have := mem_lvs.2 (hh x hx)
  unfold nin at h
  simp [this] at h
theorem lvs_len (p : List Int) : (lvs p).length ≤ p.length := lvK_len p _
theorem lvs_at {p : List Int} {j : Nat} (h : j < (lvs p).length) : ∃ v : Nat, (lvs p).getD j 0 = (v : Int) ∧ v < p.length ∧ leafP p (v : Int) := by
  have := mem_lvs.1 (getD_mem h)
  obtain ⟨h1, h2, h3⟩ := this
  exact ⟨((lvs p).getD j 0).toNat, by omega, by omega, by rw [Int.toNat_of_nonneg h1]; exact ⟨h1, h2, h3⟩⟩
theorem lvB_all {p : List Int} {v : Nat} (h : v < p.length) : (lvB p p.length).getD v 0 = (dep p (v : Int) : Int) := lvB_at h h
theorem lv_cell {w : World} {g : Nat} {p : List Int} (h : w.heap[g]? = some (.cells (its (lvB p p.length)) 3 (0, 0))) {v : Nat} (hv : v < p.length) : w.cell? ⟨g, v, none⟩ = some (.int .i64 (dep p (v : Int) : Int)) := by
  rw [its_cell h (by rw [lvB_len]; exact hv), lvB_all hv]
def ChJ (p : List Int) (g gd eb ec : Nat) (w W0 : World) (a : Act) (W : World) : Prop :=
  a.tmps.size = 68 ∧ a.defers = [] ∧ a.tmps.getD 1 undef = .pointer (some ⟨w.heap.size, 0, none⟩) ∧ a.tmps.getD 5 undef = .pointer (some ⟨g, 0, none⟩) ∧ a.tmps.getD 6 undef = .slice (some ⟨gd, 0, none⟩) p.length p.length ∧ a.tmps.getD 39 undef = .slice (some ⟨eb, 0, none⟩) (lvs p).length ec ∧ a.tmps.getD 40 undef = .int .i64 ((lvs p).length : Int) ∧
    ∃ q, W = W0.drewN q ∧ ∃ j : Nat, a.tmps.getD 41 undef = .int .i64 (j : Int) ∧ j ≤ (lvs p).length ∧ (∀ v, v < j → dep p ((lvs p).getD v 0) = dep p ((lvs p).getD 0 0) ∧ dep p ((lvs p).getD v 0) ≤ 5)
set_option maxRecDepth 100000 in
set_option maxHeartbeats 8000000 in
theorem check_any (p t : List Int) (A B : Option Addr) (c d : Nat) (w : World) (hp : p.length ≤ 100000) (htl : t.length ≤ 100000) (hs : Sl w w.heap.size A (p.flatMap decI)) (ht : Sl w w.heap.size B (t.flatMap decI)) :
    Calls Tryd.prog 63 #[(.agg #[.slice A p.length c, .slice B t.length d])] w fun e w' => e = .returned (.int .i64 (chk p t)) ∧ Below w.heap.size w w' := by
  by_cases k1 : p.length < 1
  · have i1 : (p.length : Int) < 1 := by omega
    have HN := Lib.hid (chk_many (p := p) (t := t) (.inl k1))
    go_enter Tryd.func63, Tryd.ntmps63
    go_upto_region 1 with fail
    have HX := Lib.hid (Bx.made w (.slice A p.length c) (.slice B t.length d) 75)
    generalize w.alloc (.cells #[.slice A p.length c, .slice B t.length d] 75) = W0 at *
    have c0 := HX.out.2.2.1
    have c1 := HX.out.2.2.2
    have SP := Lib.hid (HX.out.sl hs)
    have ST := Lib.hid (HX.out.sl ht)
    go_quiet (fail)
    go_wp2_with fail
    go_ret
    exact ⟨by rw [HN.out]; rfl, below_drewN HX.out.1 _⟩
  have i1 : ¬ (p.length : Int) < 1 := by omega
  by_cases k2 : 32 < p.length
  · have i2 : (32 : Int) < (p.length : Int) := by omega
    have HN := Lib.hid (chk_many (p := p) (t := t) (.inr (.inl k2)))
    go_enter Tryd.func63, Tryd.ntmps63
    go_upto_region 1 with fail
    have HX := Lib.hid (Bx.made w (.slice A p.length c) (.slice B t.length d) 75)
    generalize w.alloc (.cells #[.slice A p.length c, .slice B t.length d] 75) = W0 at *
    have c0 := HX.out.2.2.1
    have c1 := HX.out.2.2.2
    have SP := Lib.hid (HX.out.sl hs)
    have ST := Lib.hid (HX.out.sl ht)
    go_quiet (fail)
    go_wp2_with fail
    go_ret
    exact ⟨by rw [HN.out]; rfl, below_drewN HX.out.1 _⟩
  have i2 : ¬ (32 : Int) < (p.length : Int) := by omega
  by_cases k3 : t.length < 1
  · have i3 : (t.length : Int) < 1 := by omega
    have HN := Lib.hid (chk_many (p := p) (t := t) (.inr (.inr (.inl k3))))
    go_enter Tryd.func63, Tryd.ntmps63
    go_upto_region 1 with fail
    have HX := Lib.hid (Bx.made w (.slice A p.length c) (.slice B t.length d) 75)
    generalize w.alloc (.cells #[.slice A p.length c, .slice B t.length d] 75) = W0 at *
    have c0 := HX.out.2.2.1
    have c1 := HX.out.2.2.2
    have SP := Lib.hid (HX.out.sl hs)
    have ST := Lib.hid (HX.out.sl ht)
    go_quiet (fail)
    go_wp2_with fail
    go_ret
    exact ⟨by rw [HN.out]; rfl, below_drewN HX.out.1 _⟩
  have i3 : ¬ (t.length : Int) < 1 := by omega
  by_cases k4 : 32 < t.length
  · have i4 : (32 : Int) < (t.length : Int) := by omega
    have HN := Lib.hid (chk_many (p := p) (t := t) (.inr (.inr (.inr k4))))
    go_enter Tryd.func63, Tryd.ntmps63
    go_upto_region 1 with fail
    have HX := Lib.hid (Bx.made w (.slice A p.length c) (.slice B t.length d) 75)
    generalize w.alloc (.cells #[.slice A p.length c, .slice B t.length d] 75) = W0 at *
    have c0 := HX.out.2.2.1
    have c1 := HX.out.2.2.2
    have SP := Lib.hid (HX.out.sl hs)
    have ST := Lib.hid (HX.out.sl ht)
    go_quiet (fail)
    go_wp2_with fail
    go_ret
    exact ⟨by rw [HN.out]; rfl, below_drewN HX.out.1 _⟩
  have i4 : ¬ (32 : Int) < (t.length : Int) := by omega
  have hno : ¬ manyP p t := by unfold manyP; omega
  have HTR := Lib.hid (fun h => chk_tree (p := p) (t := t) hno h)
  have HFT := Lib.hid (fun h1 h2 => chk_fit (p := p) (t := t) hno h1 h2)
  have HLT := Lib.hid (fun W h => tree_any p A c W (by omega) h)
  clear hno
  go_enter Tryd.func63, Tryd.ntmps63
  go_upto_region 1 with fail
  have HX := Lib.hid (Bx.made w (.slice A p.length c) (.slice B t.length d) 75)
  generalize w.alloc (.cells #[.slice A p.length c, .slice B t.length d] 75) = W0 at *
  have c0 := HX.out.2.2.1
  have c1 := HX.out.2.2.2
  have SP := Lib.hid (HX.out.sl hs)
  have ST := Lib.hid (HX.out.sl ht)
  have HS := Lib.hid hs
  have HT := Lib.hid ht
  clear hs ht SP ST
  go_quiet (fail)
  have HX1 := Lib.hid (HX.out.drewN nq)
  generalize W0.drewN nq = W1 at *
  clear HX c0 c1
  have c0 := HX1.out.2.2.1
  have c1 := HX1.out.2.2.2
  have SP := Lib.hid (HX1.out.sl HS.out)
  have ST := Lib.hid (HX1.out.sl HT.out)
  by_cases ktr : treeP p
  · have hd : decide (treeP p) = true := decide_eq_true ktr
    rw [hd] at HLT
    have KT := Lib.hid ktr
    clear hd ktr
    go_wp2_with fail
    refine (HLT.out _ SP.out).mono ?_
    rintro e wx ⟨rfl, hwx⟩
    obtain rfl := hwx.symm
    go_upto_region 6 with fail
    refine wp_cut (ChR p (.slice A p.length c) (.slice B t.length d) w) ?_ ?_
    · rintro a' W2 ⟨hsz, hdf, s1, g, eb, ec, gd, s5, s6, cg, fe, fd, hx⟩
      obtain ⟨u, rfl, hu⟩ := frame68 hsz hdf
      rw [hu] at s1 s5 s6
      simp only [s1, s5, s6]
      clear hsz hdf s1 s5 s6 hu
      clear SP ST c0 c1 HLT
      have HFE := Lib.hid fe
      have HFD := Lib.hid fd
      have HX2 := Lib.hid hx
      clear fe fd hx
      go_wp2_with fail
      refine wp_loop (ChJ p g gd eb ec w W2) (fun a' _ => (lvs p).length - (intOf (a'.tmps.getD 41 undef)).toNat) ?_ ?_
      · exact ⟨rfl, rfl, rfl, rfl, rfl, rfl, rfl, 0, rfl, 0, rfl, Nat.zero_le _, fun v hv => absurd hv (Nat.not_lt_zero v)⟩
      · rintro a' W3 ⟨hsz, hdf, s1, s5, s6, s39, s40, qd, hW, j, s41, hj, hgood⟩
        obtain ⟨u, rfl, hu⟩ := frame68 hsz hdf
        rw [hu] at s1 s5 s6 s39 s40 s41
        simp only [s1, s5, s6, s39, s40, s41]
        clear hsz hdf s1 s5 s6 s39 s40 s41 hu
        have HX3 : Hid (Bx w W3 (.slice A p.length c) (.slice B t.length d)) := Lib.hid (by rw [hW]; exact HX2.out.drewN qd)
        have HFE3 : Hid (∀ j, j < (lvs p).length → W3.cell? ⟨eb, j, none⟩ = some (.int .i64 ((lvs p).getD j 0))) := Lib.hid (by rw [hW]; exact HFE.out)
        have HFD3 : Hid (∀ v, v < p.length → W3.cell? ⟨gd, v, none⟩ = some (.int .i64 (dep p (v : Int) : Int))) := Lib.hid (by rw [hW]; exact HFD.out)
        have cg3 : W3.cell? ⟨g, 0, none⟩ = some (.slice (some ⟨eb, 0, none⟩) (lvs p).length ec) := by rw [hW]; exact cg
        have HW := Lib.hid hW
        clear hW
        have hLL := lvs_len p
        by_cases hlt : j < (lvs p).length
        · obtain ⟨v, hv, hvp, hvl⟩ := lvs_at hlt
          obtain ⟨a, ha, hap, hal⟩ := lvs_at (p := p) (j := 0) (by omega)
          have e0 := HFE3.out j hlt
          have e1 := HFE3.out 0 (by omega)
          have d0 := HFD3.out v hvp
          have d1 := HFD3.out a hap
          have i5 : (j : Int) < ((lvs p).length : Int) := by omega
          have HBAD := Lib.hid (show ¬ (dep p (v : Int) = dep p (a : Int) ∧ dep p (v : Int) ≤ 5) → chk p t = 9 from fun h => HTR.out (.inr fun hf => h (hf _ (mem_lvs.2 hvl) _ (mem_lvs.2 hal))))
          have HGOOD := Lib.hid (show dep p (v : Int) = dep p (a : Int) ∧ dep p (v : Int) ≤ 5 → ∀ v, v < j + 1 → dep p ((lvs p).getD v 0) = dep p ((lvs p).getD 0 0) ∧ dep p ((lvs p).getD v 0) ≤ 5 from fun h u hu => by
            by_cases e : u = j
            · subst e; rw [hv, ha]; exact h
            · exact hgood u (by omega))
          rw [hv] at e0
          rw [ha] at e1
          clear hgood hv ha hvl hal
          generalize dep p (v : Int) = D at *
          generalize dep p (a : Int) = E at *
          by_cases h1 : D = E
          · have q1 := nbne_no h1
            by_cases h2 : D ≤ 5
            · have i6 : ¬ (5 : Int) < (D : Int) := by omega
              have HN := Lib.hid (HGOOD.out ⟨h1, h2⟩)
              clear HBAD HGOOD h1
              go_wp2_with fail
              go_quiet (fail)
              go_wp2_with fail
              go_roundw
              case rel => exact ⟨rfl, rfl, rfl, rfl, rfl, rfl, rfl, _, by rw [HW.out, World.drewN_drewN], j + 1, by go_num, by omega, HN.out⟩
              case measure => simp [intOf]; omega
            · have i6 : (5 : Int) < (D : Int) := by omega
              have HN := Lib.hid (HBAD.out (fun h => h2 h.2))
              clear HBAD HGOOD h1
              go_wp2_with fail
              go_quiet (fail)
              go_wp2_with fail
              go_ret
              exact ⟨by rw [HN.out]; rfl, below_drewN HX3.out.1 _⟩
          · have q1 := nbne h1
            have HN := Lib.hid (HBAD.out (fun h => h1 h.1))
            clear HBAD HGOOD h1
            go_wp2_with fail
            go_quiet (fail)
            go_wp2_with fail
            go_ret
            exact ⟨by rw [HN.out]; rfl, below_drewN HX3.out.1 _⟩
        · obtain rfl : j = (lvs p).length := by omega
          have hflat : flatP p := by
            intro v hv u hu
            obtain ⟨i, hi, rfl⟩ := mem_getD hv
            obtain ⟨k, hk, rfl⟩ := mem_getD hu
            have := hgood i hi
            have := hgood k hk
            omega
          have HFIT := Lib.hid (HFT.out KT.out hflat)
          have i5 : ¬ ((lvs p).length : Int) < ((lvs p).length : Int) := by omega
          have c1 := HX3.out.2.2.2
          have hmf : ∀ (fn : Fn) (first cap : Array Value) (w : World), (Instr.makeFunc fn first cap).run Tryd.prog w = .ok (.func fn first cap) w := fun _ _ _ _ => rfl
          have hC := cfC_any (lvs p) t B d g eb 0 ec W3 (by omega) (by omega) (HX3.out.sl HT.out) cg3 (fun j hj => by rw [Nat.zero_add]; exact HFE3.out j hj)
          clear hgood hflat
          cases hr : anyF (nin (lvs p)) t with
          | true =>
            have HN := Lib.hid (HFIT.out.trans (if_neg (nin_yes hr)))
            rw [hr] at hC
            have HC := Lib.hid hC
            clear hC hr
            go_wp2_with fail
            refine (HC.out).mono ?_
            rintro e wx ⟨rfl, hwx⟩
            obtain rfl := hwx.symm
            go_wp2_with fail
            go_ret
            exact ⟨by rw [HN.out]; rfl, HX3.out.1⟩
          | false =>
            have HN := Lib.hid (HFIT.out.trans (if_pos (nin_no hr)))
            rw [hr] at hC
            have HC := Lib.hid hC
            clear hC hr
            go_wp2_with fail
            refine (HC.out).mono ?_
            rintro e wx ⟨rfl, hwx⟩
            obtain rfl := hwx.symm
            go_wp2_with fail
            go_ret
            exact ⟨by rw [HN.out]; rfl, HX3.out.1⟩
    · intro J K' hJ hK'
      have HL := Lib.hid (fun W h => leaves_row p A c W (by omega) (by omega) KT.out h)
      have HV := Lib.hid (fun W h => levels_any p A c W (by omega) KT.out h)
      have SPd : Hid (Sl W1.drew W1.drew.heap.size A (p.flatMap decI)) := Lib.hid SP.out
      have HXd : Hid (Bx w W1.drew (.slice A p.length c) (.slice B t.length d)) := Lib.hid ⟨Below.drew HX1.out.1, HX1.out.2⟩
      have hw1 : w.heap.size < W1.heap.size := HX1.out.2.1
      have d0 : W1.drew.cell? ⟨w.heap.size, 0, none⟩ = some (.slice A p.length c) := c0
      refine wp_region_held_drew (S := fun V => V.cell? ⟨w.heap.size, 0, none⟩ = some (.slice A p.length c)) (by kernel_rfl) d0 (fun hHeld => ?_)
      clear c0 c1 d0 SP ST HX1 HLT
      generalize W1.drew = X0 at *
      have hb0 : w.heap.size < X0.heap.size := HXd.out.2.1
      refine take_to 0 (some 33) (v := ?_) rfl rfl (by kernel_rfl) (by kernel_rfl) (by kernel_rfl) (fun _ _ _ h => h) (Or.inl ⟨by rfl, ?_⟩) (by first | trivial | assumption) ?_
      rotate_left
      focus (intro w hSw; (try dsimp only at hSw); go_simp; (try with_reducible rfl))
      simp only [Act.put, List.setIfInBounds_toArray, List.set_cons_zero, List.set_cons_succ]
      refine take_to 1 (some 34) (v := ?_) rfl rfl (by kernel_rfl) (by kernel_rfl) (by kernel_rfl) (fun _ _ _ h => h) (Or.inl ⟨by rfl, ?_⟩) (by first | trivial | assumption) ?_
      rotate_left
      focus (intro w hSw; (try dsimp only at hSw); go_simp; (try with_reducible rfl))
      simp only [Act.put, List.setIfInBounds_toArray, List.set_cons_zero, List.set_cons_succ]
      refine take_to 3 (some 36) (v := ?_) rfl rfl (by kernel_rfl) (by kernel_rfl) (by kernel_rfl) (fun _ _ _ h => h) (Or.inl ⟨by rfl, ?_⟩) (by first | trivial | assumption) ?_
      rotate_left
      focus (intro w hSw; (try dsimp only at hSw); go_simp; (try with_reducible rfl))
      simp only [Act.put, List.setIfInBounds_toArray, List.set_cons_zero, List.set_cons_succ]
      refine take_to 4 (some 37) (v := ?_) rfl rfl (by kernel_rfl) (by kernel_rfl) (by kernel_rfl) (fun _ _ _ h => h) (Or.inl ⟨by rfl, ?_⟩) (by first | trivial | assumption) ?_
      rotate_left
      focus (intro w hSw; (try dsimp only at hSw); go_simp; (try with_reducible rfl))
      simp only [Act.put, List.setIfInBounds_toArray, List.set_cons_zero, List.set_cons_succ]
      refine wpAnyH_ready (rs := [2, 6]) (by kernel_rfl) (by simp) ?_
      refine AllReadyH.cons rfl (fun K hK => ?_) (AllReadyH.cons rfl (fun K hK => ?_) AllReadyH.nil)
      · go_simp
        refine (HL.out _ SPd.out).mono ?_
        rintro e wl ⟨eb, ec, rfl, le1, le2, fe, bl⟩
        have HXl := Lib.hid (HXd.out.step bl)
        have SW := Lib.hid (SPd.out.step bl)
        have FE0 := Lib.hid fe
        have hbl := HXl.out.2.1
        clear fe bl
        go_simp
        refine hK.out _ _ HXl.out.2.2.1 (fun hHeld => ?_)
        refine wpAnyH_ready (rs := [5, 6]) (by kernel_rfl) (by simp) ?_
        refine AllReadyH.cons rfl (fun K hK => ?_) (AllReadyH.cons rfl (fun K hK => ?_) AllReadyH.nil)
        · go_simp
          refine (HV.out _ SW.out).mono ?_
          rintro e wd ⟨rfl, fd, bd⟩
          have HXv := Lib.hid (HXl.out.step bd)
          have FE := Lib.hid (fun j hj => (bd.cell (p := ⟨eb, j, none⟩) le2).trans (FE0.out j hj))
          have FD := Lib.hid fd
          have hgd := lt_of_blk fd
          have heb : eb < wd.heap.size := Nat.lt_of_lt_of_le le2 bd.size
          clear fd bd
          go_simp
          refine hK.out _ _ HXv.out.2.2.1 (fun hHeld => ?_)
          refine wpAnyH_ready (rs := [6]) (by kernel_rfl) (by simp) ?_
          refine AllReadyH.cons rfl (fun K hK => ?_) AllReadyH.nil
          go_simp
          have G0 := Lib.hid (blk_new wd (.cells #[.slice none 0 0] 41))
          have HXa := Lib.hid (HXv.out.step (below_new wd (.cells #[.slice none 0 0] 41)))
          refine hK.out _ _ HXa.out.2.2.1 (fun hHeld => ?_)
          have g0 := blk_cell G0.out 0 (by simp)
          have g1 := blk_free G0.out 0
          refine wpAnyH_ready (rs := [7]) (by kernel_rfl) (by simp) ?_
          refine AllReadyH.cons rfl (fun K hK => ?_) AllReadyH.nil
          go_simp
          have HX9 := Lib.hid (HXv.out.step (below_new wd (.cells #[.slice (some ⟨eb, 0, none⟩) (lvs p).length ec] 41)))
          have hG := blk_cell (blk_new wd (.cells #[.slice (some ⟨eb, 0, none⟩) (lvs p).length ec] 41)) 0 (by simp)
          have hb9 := below_new wd (.cells #[.slice (some ⟨eb, 0, none⟩) (lvs p).length ec] 41)
          have HFE := Lib.hid (fun j hj => (hb9.cell (p := ⟨eb, j, none⟩) heb).trans (FE.out j hj))
          have HFD := Lib.hid (fun (v : Nat) (hv : v < p.length) => (hb9.cell (p := ⟨wl.heap.size, v, none⟩) hgd).trans (lv_cell FD.out hv))
          clear hb9 g0 g1
          refine hK.out _ _ HX9.out.2.2.1 (fun hHeld => ?_)
          refine take_to 8 (some 6) (v := ?_) rfl rfl (by kernel_rfl) (by kernel_rfl) (by kernel_rfl) (fun _ _ _ h => h) (Or.inl ⟨by rfl, ?_⟩) (by first | trivial | assumption) ?_
          rotate_left
          focus (intro w hSw; (try dsimp only at hSw); go_simp; (try with_reducible rfl))
          simp only [Act.put, List.setIfInBounds_toArray, List.set_cons_zero, List.set_cons_succ]
          refine wpAnyH_done (by kernel_rfl) ?_ _
          exact hK' _ _ (Met.intro (hJ _ _ ⟨rfl, rfl, rfl, wd.heap.size, eb, ec, wl.heap.size, rfl, rfl, hG, HFE.out, HFD.out, HX9.out⟩))
        · go_simp
          have HXa := Lib.hid (HXl.out.step (below_new wl (.cells #[.slice none 0 0] 41)))
          have G0 := Lib.hid (blk_new wl (.cells #[.slice none 0 0] 41))
          have FE1 := Lib.hid (fun j hj => ((below_new wl (.cells #[.slice none 0 0] 41)).cell (p := ⟨eb, j, none⟩) le2).trans (FE0.out j hj))
          have SW1 := Lib.hid (SW.out.push (.cells #[.slice none 0 0] 41))
          have hsz : (wl.alloc (.cells #[.slice none 0 0] 41)).heap.size = wl.heap.size + 1 := by simp
          refine hK.out _ _ HXa.out.2.2.1 (fun hHeld => ?_)
          clear FE0 SW HXl
          generalize hwa : wl.alloc (.cells #[.slice none 0 0] 41) = wa at *
          clear hwa
          refine wpAnyH_ready (rs := [5]) (by kernel_rfl) (by simp) ?_
          refine AllReadyH.cons rfl (fun K hK => ?_) AllReadyH.nil
          go_simp
          refine (HV.out _ SW1.out).mono ?_
          rintro e wd ⟨rfl, fd, bd⟩
          have HXv := Lib.hid (HXa.out.step bd)
          have FE := Lib.hid (fun j hj => (bd.cell (p := ⟨eb, j, none⟩) (by rw [hsz]; exact Nat.lt_succ_of_lt le2)).trans (FE1.out j hj))
          have FD := Lib.hid fd
          have GV := Lib.hid ((bd.block wl.heap.size (by omega)).trans G0.out)
          clear fd bd
          go_simp
          refine hK.out _ _ HXv.out.2.2.1 (fun hHeld => ?_)
          have g0 := blk_cell GV.out 0 (by simp)
          have g1 := blk_free GV.out 0
          refine wpAnyH_ready (rs := [7]) (by kernel_rfl) (by simp) ?_
          refine AllReadyH.cons rfl (fun K hK => ?_) AllReadyH.nil
          go_simp
          have HX9 := Lib.hid (HXv.out.set (g := wl.heap.size) (by omega) (.slice (some ⟨eb, 0, none⟩) (lvs p).length ec))
          have hG := blk_cell (blk_set GV.out 0 (.slice (some ⟨eb, 0, none⟩) (lvs p).length ec)) 0 (by simp)
          have HFE := Lib.hid (fun j hj => (cell_set_ne (i := j) (show eb ≠ wl.heap.size by omega) (.slice (some ⟨eb, 0, none⟩) (lvs p).length ec)).trans (FE.out j hj))
          have HFD := Lib.hid (fun (v : Nat) (hv : v < p.length) => (cell_set_ne (i := v) (show wa.heap.size ≠ wl.heap.size by omega) (.slice (some ⟨eb, 0, none⟩) (lvs p).length ec)).trans (lv_cell FD.out hv))
          clear g0 g1
          refine hK.out _ _ HX9.out.2.2.1 (fun hHeld => ?_)
          refine take_to 8 (some 6) (v := ?_) rfl rfl (by kernel_rfl) (by kernel_rfl) (by kernel_rfl) (fun _ _ _ h => h) (Or.inl ⟨by rfl, ?_⟩) (by first | trivial | assumption) ?_
          rotate_left
          focus (intro w hSw; (try dsimp only at hSw); go_simp; (try with_reducible rfl))
          simp only [Act.put, List.setIfInBounds_toArray, List.set_cons_zero, List.set_cons_succ]
          refine wpAnyH_done (by kernel_rfl) ?_ _
          exact hK' _ _ (Met.intro (hJ _ _ ⟨rfl, rfl, rfl, wl.heap.size, eb, ec, wl.heap.size + 1, rfl, rfl, hG, HFE.out, (by rw [← hsz]; exact HFD.out), HX9.out⟩))
      · go_simp
        have HXa := Lib.hid (HXd.out.step (below_new X0 (.cells #[.slice none 0 0] 41)))
        have G0 := Lib.hid (blk_new X0 (.cells #[.slice none 0 0] 41))
        have SW1 := Lib.hid (SPd.out.push (.cells #[.slice none 0 0] 41))
        have hsz : (X0.alloc (.cells #[.slice none 0 0] 41)).heap.size = X0.heap.size + 1 := by simp
        refine hK.out _ _ HXa.out.2.2.1 (fun hHeld => ?_)
        clear SPd HXd
        generalize hwa : X0.alloc (.cells #[.slice none 0 0] 41) = wa at *
        clear hwa
        refine wpAnyH_ready (rs := [2]) (by kernel_rfl) (by simp) ?_
        refine AllReadyH.cons rfl (fun K hK => ?_) AllReadyH.nil
        go_simp
        refine (HL.out _ SW1.out).mono ?_
        rintro e wl ⟨eb, ec, rfl, le1, le2, fe, bl⟩
        have HXl := Lib.hid (HXa.out.step bl)
        have SW := Lib.hid (SW1.out.step bl)
        have FE0 := Lib.hid fe
        have G1 := Lib.hid ((bl.block X0.heap.size (by omega)).trans G0.out)
        have hxl := lt_of_blk G1.out
        clear fe bl
        go_simp
        refine hK.out _ _ HXl.out.2.2.1 (fun hHeld => ?_)
        refine wpAnyH_ready (rs := [5]) (by kernel_rfl) (by simp) ?_
        refine AllReadyH.cons rfl (fun K hK => ?_) AllReadyH.nil
        go_simp
        refine (HV.out _ SW.out).mono ?_
        rintro e wd ⟨rfl, fd, bd⟩
        have HXv := Lib.hid (HXl.out.step bd)
        have FE := Lib.hid (fun j hj => (bd.cell (p := ⟨eb, j, none⟩) le2).trans (FE0.out j hj))
        have FD := Lib.hid fd
        have GV := Lib.hid ((bd.block X0.heap.size hxl).trans G1.out)
        clear fd bd
        go_simp
        refine hK.out _ _ HXv.out.2.2.1 (fun hHeld => ?_)
        have g0 := blk_cell GV.out 0 (by simp)
        have g1 := blk_free GV.out 0
        refine wpAnyH_ready (rs := [7]) (by kernel_rfl) (by simp) ?_
        refine AllReadyH.cons rfl (fun K hK => ?_) AllReadyH.nil
        go_simp
        have HX9 := Lib.hid (HXv.out.set (g := X0.heap.size) (by omega) (.slice (some ⟨eb, 0, none⟩) (lvs p).length ec))
        have hG := blk_cell (blk_set GV.out 0 (.slice (some ⟨eb, 0, none⟩) (lvs p).length ec)) 0 (by simp)
        have HFE := Lib.hid (fun j hj => (cell_set_ne (i := j) (show eb ≠ X0.heap.size by omega) (.slice (some ⟨eb, 0, none⟩) (lvs p).length ec)).trans (FE.out j hj))
        have HFD := Lib.hid (fun (v : Nat) (hv : v < p.length) => (cell_set_ne (i := v) (show wl.heap.size ≠ X0.heap.size by omega) (.slice (some ⟨eb, 0, none⟩) (lvs p).length ec)).trans (lv_cell FD.out hv))
        clear g0 g1
        refine hK.out _ _ HX9.out.2.2.1 (fun hHeld => ?_)
        refine take_to 8 (some 6) (v := ?_) rfl rfl (by kernel_rfl) (by kernel_rfl) (by kernel_rfl) (fun _ _ _ h => h) (Or.inl ⟨by rfl, ?_⟩) (by first | trivial | assumption) ?_
        rotate_left
        focus (intro w hSw; (try dsimp only at hSw); go_simp; (try with_reducible rfl))
        simp only [Act.put, List.setIfInBounds_toArray, List.set_cons_zero, List.set_cons_succ]
        refine wpAnyH_done (by kernel_rfl) ?_ _
        exact hK' _ _ (Met.intro (hJ _ _ ⟨rfl, rfl, rfl, X0.heap.size, eb, ec, wl.heap.size, rfl, rfl, hG, HFE.out, HFD.out, HX9.out⟩))
  · have hd : decide (treeP p) = false := decide_eq_false ktr
    rw [hd] at HLT
    have HN := Lib.hid (HTR.out (.inl ktr))
    clear hd ktr
    go_wp2_with fail
    refine (HLT.out _ SP.out).mono ?_
    rintro e wx ⟨rfl, hwx⟩
    obtain rfl := hwx.symm
    go_wp2_with fail
    go_ret
    exact ⟨by rw [HN.out]; rfl, HX1.out.1⟩
end Go.Proofs.YtcfdphfochfeoaaDoor.Tp
