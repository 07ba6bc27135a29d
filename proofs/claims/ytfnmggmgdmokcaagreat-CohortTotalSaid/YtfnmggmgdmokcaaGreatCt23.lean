/- Merged texts: Cm7, Cm8. -/
import Derived.Test.YtfnmggmgdmokcaaGreatCt22
set_option linter.unusedVariables false
/- Package cohort: the step that loads a node's count, coming in and going out. -/
namespace Go.Proofs.YtfnmggmgdmokcaaGreat.Cm
open Go.RowKit Go.Proofs.YtfnmggmgdmokcaaGreat.Ara Go.Proofs.YtfnmggmgdmokcaaGreat.Lok Go.Proofs.YtfnmggmgdmokcaaGreat.Fl Go.Proofs.YtfnmggmgdmokcaaGreat.Co


theorem do12s (p : PK) (σ σ' : Ar) (sp : List Sp) {kd : Int} (h : kd = 1 ∨ kd = 2) (i : Int) : (doK p σ' sp kd i).2.2 = (doK p σ sp kd i).2.2 := by
  rcases h with rfl | rfl <;> cases p <;> rfl
section
variable {W : World} {c : Cd} {P : Pm} {x : CS} (K : CoAt W c P x) (D : Dj P) {m : Nat} (H : CI P x m) (hm : m ≤ 99999) (k : Nat) (hk : k < P.T)
include K D H hm hk
theorem in2a (h : (spOf x.S (k : Int)).pc = 2) (ha : 0 < x.σ.get (P.cw (P.nd k))) : Calls Tryz.prog 34 #[.pointer (some ⟨c.gl, 0, none⟩), .int .i64 (k : Int)] W (AftI c P { x with σ := x.σ.op 1 (P.cw (P.nd k)) false 0, S := x.S.set k { spOf x.S (k : Int) with a := x.σ.get (P.cw (P.nd k)) } } 10 W) := by
  have HO := Lib.hid (of_co K D k hk)
  have hnd := (D.nd k hk).1
  have ho : x.σ.ops ≤ 1000000 := by have := H.ops; omega
  have hL := fun W' (K' : CoAt W' c P x) => load_any c.ga c.ha x.σ W' K'.d.ar ho (P.cw (P.nd k))
  have HLN := Lib.hid K.len
  have HK := Lib.hid K
  have HPC := Lib.hid h
  have i2 : (k : Int) < (P.T : Int) := by omega
  clear K H h
  generalize x.σ.get (P.cw (P.nd k)) = av at *
  have HL := Lib.hid hL
  clear hL
  have c8 := HK.out.cells.2.2.2.2.2
  go_enter Tryz.func34, Tryz.ntmps34
  go_upto_region 3 with (go_at_call 42; refine HO.out.mono ?_; rintro e w2 ⟨rfl, hb2⟩; have HB2 := Lib.hid hb2; clear hb2)
  have hb3 := HB2.out.trans ((below_new w2 (.cells #[.pointer (some ⟨c.lf (P.nd k), 0, none⟩), .int .i64 (P.cw (P.nd k))] 81)).mono HB2.out.size)
  have hx3 := blk_new w2 (.cells #[.pointer (some ⟨c.lf (P.nd k), 0, none⟩), .int .i64 (P.cw (P.nd k))] 81)
  have hcol := HK.out.s.fresh _ HB2.out.size
  have hnb := lt_of_blk hx3
  generalize w2.alloc (.cells #[.pointer (some ⟨c.lf (P.nd k), 0, none⟩), .int .i64 (P.cw (P.nd k))] 81) = W3 at *
  generalize w2.heap.size = nb at *
  have HB3 := Lib.hid hb3
  have HK3 := Lib.hid (HK.out.same hb3)
  have n0 := blk_cell hx3 0 (by simp)
  have n1 := blk_cell hx3 1 (by simp)
  simp at n0 n1
  have HN0 := Lib.hid n0
  have HN1 := Lib.hid n1
  have HCOL := Lib.hid hcol
  clear hx3 hb3 HB2 HO hcol c8
  obtain ⟨p0, p1, -, -, pf⟩ := HK3.out.spots hk
  obtain ⟨l0, -, l5, l6, -, l8⟩ := HK3.out.cells
  rw [HPC.out] at p0
  have pf0 := pf (k * 4)
  have pf1 := pf (k * 4 + 1)
  clear pf
  go_upto_region 8 with fail
  have SW0 : W3.drew.cell? ⟨c.gl, 0, none⟩ = some (.pointer (some ⟨c.ga, 0, none⟩)) ∧ W3.drew.cell? ⟨nb, 1, none⟩ = some (.int .i64 (P.cw (P.nd k))) := ⟨l0, n1⟩
  refine wp_region_held_drew (S := fun V => V.cell? ⟨c.gl, 0, none⟩ = some (.pointer (some ⟨c.ga, 0, none⟩)) ∧ V.cell? ⟨nb, 1, none⟩ = some (.int .i64 (P.cw (P.nd k)))) (by kernel_rfl) SW0 (fun hHeld => ?_)
  have HKd := Lib.hid (HK3.out.same (show Below W3.heap.size W3 W3.drew from Below.drew (Below.refl _ _)))
  have HBd := Lib.hid (show Below W.heap.size W W3.drew from Below.drew HB3.out)
  have hnd9 : nb < W3.drew.heap.size := hnb
  have HN1d := Lib.hid (show W3.drew.cell? ⟨nb, 1, none⟩ = some (.int .i64 (P.cw (P.nd k))) from n1)
  have HN0d := Lib.hid (show W3.drew.cell? ⟨nb, 0, none⟩ = some (.pointer (some ⟨c.lf (P.nd k), 0, none⟩)) from n0)
  clear p0 p1 l0 l5 l6 l8 pf0 pf1 n0 n1 HK3 HB3 HN0 HN1 hnb
  generalize W3.drew = X0 at *
  refine take_to 0 (some 34) (v := ?_) rfl rfl (by kernel_rfl) (by kernel_rfl) (by kernel_rfl) (fun _ _ _ h => h) (Or.inl ⟨by rfl, ?_⟩) (by first | trivial | assumption) ?_
  rotate_left
  focus (intro w hSw; (try dsimp only at hSw); go_simp; (try with_reducible rfl))
  simp only [Act.put, List.setIfInBounds_toArray, List.set_cons_zero, List.set_cons_succ]
  refine take_to 1 (some 35) (v := ?_) rfl rfl (by kernel_rfl) (by kernel_rfl) (by kernel_rfl) (fun _ _ _ h => h) (Or.inl ⟨by rfl, ?_⟩) (by first | trivial | assumption) ?_
  rotate_left
  focus (intro w hSw; (try dsimp only at hSw); go_simp; (try with_reducible rfl))
  simp only [Act.put, List.setIfInBounds_toArray, List.set_cons_zero, List.set_cons_succ]
  refine take_to 2 (some 36) (v := ?_) rfl rfl (by kernel_rfl) (by kernel_rfl) (by kernel_rfl) (fun _ _ _ h => h) (Or.inl ⟨by rfl, ?_⟩) (by first | trivial | assumption) ?_
  rotate_left
  focus (intro w hSw; (try dsimp only at hSw); go_simp; (try with_reducible rfl))
  simp only [Act.put, List.setIfInBounds_toArray, List.set_cons_zero, List.set_cons_succ]
  refine take_to 3 (some 37) (v := ?_) rfl rfl (by kernel_rfl) (by kernel_rfl) (by kernel_rfl) (fun _ _ _ h => h) (Or.inl ⟨by rfl, ?_⟩) (by first | trivial | assumption) ?_
  rotate_left
  focus (intro w hSw; (try dsimp only at hSw); go_simp; (try with_reducible rfl))
  simp only [Act.put, List.setIfInBounds_toArray, List.set_cons_zero, List.set_cons_succ]
  refine take_to 4 (some 38) (v := ?_) rfl rfl (by kernel_rfl) (by kernel_rfl) (by kernel_rfl) (fun _ _ _ h => h) (Or.inl ⟨by rfl, ?_⟩) (by first | trivial | assumption) ?_
  rotate_left
  focus (intro w hSw; (try dsimp only at hSw); go_simp; (try with_reducible rfl))
  simp only [Act.put, List.setIfInBounds_toArray, List.set_cons_zero, List.set_cons_succ]
  refine take_to 5 (some 39) (v := ?_) rfl rfl (by kernel_rfl) (by kernel_rfl) (by kernel_rfl) (fun _ _ _ h => h) (Or.inl ⟨by rfl, ?_⟩) (by first | trivial | assumption) ?_
  rotate_left
  focus (intro w hSw; (try dsimp only at hSw); go_simp; (try with_reducible rfl))
  simp only [Act.put, List.setIfInBounds_toArray, List.set_cons_zero, List.set_cons_succ]
  refine take_to 6 (some 40) (v := ?_) rfl rfl (by kernel_rfl) (by kernel_rfl) (by kernel_rfl) (fun _ _ _ h => h) (Or.inl ⟨by rfl, ?_⟩) (by first | trivial | assumption) ?_
  rotate_left
  focus (intro w hSw; (try dsimp only at hSw); go_simp; (try with_reducible rfl))
  simp only [Act.put, List.setIfInBounds_toArray, List.set_cons_zero, List.set_cons_succ]
  refine wpAnyH_ready (rs := [7]) (by kernel_rfl) (by simp) ?_
  refine AllReadyH.cons rfl (fun K hK => ?_) AllReadyH.nil
  go_simp
  refine (HL.out _ HKd.out).mono ?_
  rintro e w4 ⟨rfl, hf4, hm4⟩
  have h4 := HKd.out.wrd hf4 hm4
  have HK4 := Lib.hid h4.1
  have HP4 := Lib.hid ((Kp.of_below HBd.out).trans h4.2)
  have hN0 := (h4.2.cell (p := ⟨nb, 0, none⟩) hnd9 HCOL.out).trans HN0d.out
  have SW4 : w4.cell? ⟨c.gl, 0, none⟩ = some (.pointer (some ⟨c.ga, 0, none⟩)) ∧ w4.cell? ⟨nb, 1, none⟩ = some (.int .i64 (P.cw (P.nd k))) := ⟨HK4.out.cells.1, (h4.2.cell (p := ⟨nb, 1, none⟩) hnd9 HCOL.out).trans HN1d.out⟩
  have hnb4 : nb < w4.heap.size := Nat.lt_of_lt_of_le hnd9 h4.2.size
  clear hf4 hm4 h4
  go_simp
  refine hK.out _ _ SW4 (fun hHeld => ?_)
  refine take_to 8 (some 42) (v := ?_) rfl rfl (by kernel_rfl) (by kernel_rfl) (by kernel_rfl) (fun _ _ _ h => h) (Or.inl ⟨by rfl, ?_⟩) (by first | trivial | assumption) ?_
  rotate_left
  focus (intro w hSw; (try dsimp only at hSw); go_simp; (try with_reducible rfl))
  simp only [Act.put, List.setIfInBounds_toArray, List.set_cons_zero, List.set_cons_succ]
  refine take_to 9 (some 43) (v := ?_) rfl rfl (by kernel_rfl) (by kernel_rfl) (by kernel_rfl) (fun _ _ _ h => h) (Or.inl ⟨by rfl, ?_⟩) (by first | trivial | assumption) ?_
  rotate_left
  focus (intro w hSw; (try dsimp only at hSw); go_simp; (try with_reducible rfl))
  simp only [Act.put, List.setIfInBounds_toArray, List.set_cons_zero, List.set_cons_succ]
  obtain ⟨-, p1, -, -, pf⟩ := HK4.out.spots hk
  have pf1 := pf (k * 4 + 1)
  have hS5 := HK4.out.spot hk 1 (by omega) (.int .i64 av) { spOf x.S (k : Int) with a := av } rfl
  have HK5 := Lib.hid hS5.1
  have HP5 := Lib.hid (HP4.out.trans hS5.2)
  have hN0 := (hS5.2.cell (p := ⟨nb, 0, none⟩) hnb4 HCOL.out).trans hN0
  have SW5 : (w4.setCell ⟨c.hs, k * 4 + 1, none⟩ (.int .i64 av)).cell? ⟨c.gl, 0, none⟩ = some (.pointer (some ⟨c.ga, 0, none⟩)) ∧ (w4.setCell ⟨c.hs, k * 4 + 1, none⟩ (.int .i64 av)).cell? ⟨nb, 1, none⟩ = some (.int .i64 (P.cw (P.nd k))) := ⟨HK5.out.cells.1, (hS5.2.cell (p := ⟨nb, 1, none⟩) hnb4 HCOL.out).trans SW4.2⟩
  clear hS5 pf
  refine wpAnyH_ready (rs := [10]) (by kernel_rfl) (by simp) ?_
  refine AllReadyH.cons rfl (fun K hK => ?_) AllReadyH.nil
  go_simp
  refine hK.out _ _ SW5 (fun hHeld => ?_)
  refine wpAnyH_done (by kernel_rfl) ?_ _
  obtain ⟨p0, p1, -, -, -⟩ := HK5.out.spots hk
  have hss : spOf (x.S.set k { spOf x.S (k : Int) with a := av }) (k : Int) = { spOf x.S (k : Int) with a := av } := set_t (by rw [HLN.out]; exact hk) _
  rw [show ({ x with σ := x.σ.op 1 (P.cw (P.nd k)) false 0, S := x.S.set k { spOf x.S (k : Int) with a := av } } : CS).S = x.S.set k { spOf x.S (k : Int) with a := av } from rfl, hss] at p0 p1
  rw [show ({ spOf x.S (k : Int) with a := av } : Sp).pc = (spOf x.S (k : Int)).pc from rfl, HPC.out] at p0
  rw [show ({ spOf x.S (k : Int) with a := av } : Sp).a = av from rfl] at p1
  obtain ⟨l0, -, l5, l6, -, l8⟩ := HK5.out.cells
  generalize w4.setCell ⟨c.hs, k * 4 + 1, none⟩ (.int .i64 av) = W5 at *
  clear SW4 SW5 HK4 HP4 hss hN0 pf1
  go_wp2_with fail
  go_ret
  exact ⟨rfl, HK5.out, HP5.out⟩
theorem in2b (h : (spOf x.S (k : Int)).pc = 2) (ha : ¬ 0 < x.σ.get (P.cw (P.nd k))) : Calls Tryz.prog 34 #[.pointer (some ⟨c.gl, 0, none⟩), .int .i64 (k : Int)] W (AftI c P { x with σ := x.σ.op 1 (P.cw (P.nd k)) false 0, g := (doK P.pg x.σ x.g 1 (P.nd k)).2.2, S := x.S.set k { spOf x.S (k : Int) with a := x.σ.get (P.cw (P.nd k)) } } 3 W) := by
  have HO := Lib.hid (of_co K D k hk)
  have hnd := (D.nd k hk).1
  have ho : x.σ.ops ≤ 1000000 := by have := H.ops; omega
  have hL := fun W' (K' : CoAt W' c P x) => load_any c.ga c.ha x.σ W' K'.d.ar ho (P.cw (P.nd k))
  have HLN := Lib.hid K.len
  have HK := Lib.hid K
  have HPC := Lib.hid h
  have i2 : (k : Int) < (P.T : Int) := by omega
  have hal := (H.op_al D hnd 1 0 false).1
  have hg1 := H.og.al hal (m' := m + 1) (by rw [op_ops]; have := H.ops; split <;> omega) (by omega)
  have HG := Lib.hid (fun W' (K' : CoAt W' c P { x with σ := x.σ.op 1 (P.cw (P.nd k)) false 0, S := x.S.set k { spOf x.S (k : Int) with a := x.σ.get (P.cw (P.nd k)) } }) => Ask_flat K'.d.fg P.NN (m + 1) hg1 (by omega) (P.nd k : Int))
  have HS9 := Lib.hid (show (doK P.pg (x.σ.op 1 (P.cw (P.nd k)) false 0) x.g 1 (P.nd k)).2.1 = x.σ.op 1 (P.cw (P.nd k)) false 0 from do12 _ _ _ (.inl rfl) _)
  have HS8 := Lib.hid (do12s P.pg x.σ (x.σ.op 1 (P.cw (P.nd k)) false 0) x.g (.inl (rfl : (1 : Int) = 1)) (P.nd k))
  rw [← HS8.out]
  clear K H h hal hg1 HS8
  generalize x.σ.get (P.cw (P.nd k)) = av at *
  have HL := Lib.hid hL
  clear hL
  generalize hdk : doK P.pg (x.σ.op 1 (P.cw (P.nd k)) false 0) x.g 1 (P.nd k) = r at *
  clear hdk
  obtain ⟨rb, rσ, rl⟩ := r
  simp only at HG HS9 ⊢
  have c8 := HK.out.cells.2.2.2.2.2
  go_enter Tryz.func34, Tryz.ntmps34
  go_upto_region 3 with (go_at_call 42; refine HO.out.mono ?_; rintro e w2 ⟨rfl, hb2⟩; have HB2 := Lib.hid hb2; clear hb2)
  have hb3 := HB2.out.trans ((below_new w2 (.cells #[.pointer (some ⟨c.lf (P.nd k), 0, none⟩), .int .i64 (P.cw (P.nd k))] 81)).mono HB2.out.size)
  have hx3 := blk_new w2 (.cells #[.pointer (some ⟨c.lf (P.nd k), 0, none⟩), .int .i64 (P.cw (P.nd k))] 81)
  have hcol := HK.out.s.fresh _ HB2.out.size
  have hnb := lt_of_blk hx3
  generalize w2.alloc (.cells #[.pointer (some ⟨c.lf (P.nd k), 0, none⟩), .int .i64 (P.cw (P.nd k))] 81) = W3 at *
  generalize w2.heap.size = nb at *
  have HB3 := Lib.hid hb3
  have HK3 := Lib.hid (HK.out.same hb3)
  have n0 := blk_cell hx3 0 (by simp)
  have n1 := blk_cell hx3 1 (by simp)
  simp at n0 n1
  have HN0 := Lib.hid n0
  have HN1 := Lib.hid n1
  have HCOL := Lib.hid hcol
  clear hx3 hb3 HB2 HO hcol c8
  obtain ⟨p0, p1, -, -, pf⟩ := HK3.out.spots hk
  obtain ⟨l0, -, l5, l6, -, l8⟩ := HK3.out.cells
  rw [HPC.out] at p0
  have pf0 := pf (k * 4)
  have pf1 := pf (k * 4 + 1)
  clear pf
  go_upto_region 8 with fail
  have SW0 : W3.drew.cell? ⟨c.gl, 0, none⟩ = some (.pointer (some ⟨c.ga, 0, none⟩)) ∧ W3.drew.cell? ⟨nb, 1, none⟩ = some (.int .i64 (P.cw (P.nd k))) := ⟨l0, n1⟩
  refine wp_region_held_drew (S := fun V => V.cell? ⟨c.gl, 0, none⟩ = some (.pointer (some ⟨c.ga, 0, none⟩)) ∧ V.cell? ⟨nb, 1, none⟩ = some (.int .i64 (P.cw (P.nd k)))) (by kernel_rfl) SW0 (fun hHeld => ?_)
  have HKd := Lib.hid (HK3.out.same (show Below W3.heap.size W3 W3.drew from Below.drew (Below.refl _ _)))
  have HBd := Lib.hid (show Below W.heap.size W W3.drew from Below.drew HB3.out)
  have hnd9 : nb < W3.drew.heap.size := hnb
  have HN1d := Lib.hid (show W3.drew.cell? ⟨nb, 1, none⟩ = some (.int .i64 (P.cw (P.nd k))) from n1)
  have HN0d := Lib.hid (show W3.drew.cell? ⟨nb, 0, none⟩ = some (.pointer (some ⟨c.lf (P.nd k), 0, none⟩)) from n0)
  clear p0 p1 l0 l5 l6 l8 pf0 pf1 n0 n1 HK3 HB3 HN0 HN1 hnb
  generalize W3.drew = X0 at *
  refine take_to 0 (some 34) (v := ?_) rfl rfl (by kernel_rfl) (by kernel_rfl) (by kernel_rfl) (fun _ _ _ h => h) (Or.inl ⟨by rfl, ?_⟩) (by first | trivial | assumption) ?_
  rotate_left
  focus (intro w hSw; (try dsimp only at hSw); go_simp; (try with_reducible rfl))
  simp only [Act.put, List.setIfInBounds_toArray, List.set_cons_zero, List.set_cons_succ]
  refine take_to 1 (some 35) (v := ?_) rfl rfl (by kernel_rfl) (by kernel_rfl) (by kernel_rfl) (fun _ _ _ h => h) (Or.inl ⟨by rfl, ?_⟩) (by first | trivial | assumption) ?_
  rotate_left
  focus (intro w hSw; (try dsimp only at hSw); go_simp; (try with_reducible rfl))
  simp only [Act.put, List.setIfInBounds_toArray, List.set_cons_zero, List.set_cons_succ]
  refine take_to 2 (some 36) (v := ?_) rfl rfl (by kernel_rfl) (by kernel_rfl) (by kernel_rfl) (fun _ _ _ h => h) (Or.inl ⟨by rfl, ?_⟩) (by first | trivial | assumption) ?_
  rotate_left
  focus (intro w hSw; (try dsimp only at hSw); go_simp; (try with_reducible rfl))
  simp only [Act.put, List.setIfInBounds_toArray, List.set_cons_zero, List.set_cons_succ]
  refine take_to 3 (some 37) (v := ?_) rfl rfl (by kernel_rfl) (by kernel_rfl) (by kernel_rfl) (fun _ _ _ h => h) (Or.inl ⟨by rfl, ?_⟩) (by first | trivial | assumption) ?_
  rotate_left
  focus (intro w hSw; (try dsimp only at hSw); go_simp; (try with_reducible rfl))
  simp only [Act.put, List.setIfInBounds_toArray, List.set_cons_zero, List.set_cons_succ]
  refine take_to 4 (some 38) (v := ?_) rfl rfl (by kernel_rfl) (by kernel_rfl) (by kernel_rfl) (fun _ _ _ h => h) (Or.inl ⟨by rfl, ?_⟩) (by first | trivial | assumption) ?_
  rotate_left
  focus (intro w hSw; (try dsimp only at hSw); go_simp; (try with_reducible rfl))
  simp only [Act.put, List.setIfInBounds_toArray, List.set_cons_zero, List.set_cons_succ]
  refine take_to 5 (some 39) (v := ?_) rfl rfl (by kernel_rfl) (by kernel_rfl) (by kernel_rfl) (fun _ _ _ h => h) (Or.inl ⟨by rfl, ?_⟩) (by first | trivial | assumption) ?_
  rotate_left
  focus (intro w hSw; (try dsimp only at hSw); go_simp; (try with_reducible rfl))
  simp only [Act.put, List.setIfInBounds_toArray, List.set_cons_zero, List.set_cons_succ]
  refine take_to 6 (some 40) (v := ?_) rfl rfl (by kernel_rfl) (by kernel_rfl) (by kernel_rfl) (fun _ _ _ h => h) (Or.inl ⟨by rfl, ?_⟩) (by first | trivial | assumption) ?_
  rotate_left
  focus (intro w hSw; (try dsimp only at hSw); go_simp; (try with_reducible rfl))
  simp only [Act.put, List.setIfInBounds_toArray, List.set_cons_zero, List.set_cons_succ]
  refine wpAnyH_ready (rs := [7]) (by kernel_rfl) (by simp) ?_
  refine AllReadyH.cons rfl (fun K hK => ?_) AllReadyH.nil
  go_simp
  refine (HL.out _ HKd.out).mono ?_
  rintro e w4 ⟨rfl, hf4, hm4⟩
  have h4 := HKd.out.wrd hf4 hm4
  have HK4 := Lib.hid h4.1
  have HP4 := Lib.hid ((Kp.of_below HBd.out).trans h4.2)
  have hN0 := (h4.2.cell (p := ⟨nb, 0, none⟩) hnd9 HCOL.out).trans HN0d.out
  have SW4 : w4.cell? ⟨c.gl, 0, none⟩ = some (.pointer (some ⟨c.ga, 0, none⟩)) ∧ w4.cell? ⟨nb, 1, none⟩ = some (.int .i64 (P.cw (P.nd k))) := ⟨HK4.out.cells.1, (h4.2.cell (p := ⟨nb, 1, none⟩) hnd9 HCOL.out).trans HN1d.out⟩
  have hnb4 : nb < w4.heap.size := Nat.lt_of_lt_of_le hnd9 h4.2.size
  clear hf4 hm4 h4
  go_simp
  refine hK.out _ _ SW4 (fun hHeld => ?_)
  refine take_to 8 (some 42) (v := ?_) rfl rfl (by kernel_rfl) (by kernel_rfl) (by kernel_rfl) (fun _ _ _ h => h) (Or.inl ⟨by rfl, ?_⟩) (by first | trivial | assumption) ?_
  rotate_left
  focus (intro w hSw; (try dsimp only at hSw); go_simp; (try with_reducible rfl))
  simp only [Act.put, List.setIfInBounds_toArray, List.set_cons_zero, List.set_cons_succ]
  refine take_to 9 (some 43) (v := ?_) rfl rfl (by kernel_rfl) (by kernel_rfl) (by kernel_rfl) (fun _ _ _ h => h) (Or.inl ⟨by rfl, ?_⟩) (by first | trivial | assumption) ?_
  rotate_left
  focus (intro w hSw; (try dsimp only at hSw); go_simp; (try with_reducible rfl))
  simp only [Act.put, List.setIfInBounds_toArray, List.set_cons_zero, List.set_cons_succ]
  obtain ⟨-, p1, -, -, pf⟩ := HK4.out.spots hk
  have pf1 := pf (k * 4 + 1)
  have hS5 := HK4.out.spot hk 1 (by omega) (.int .i64 av) { spOf x.S (k : Int) with a := av } rfl
  have HK5 := Lib.hid hS5.1
  have HP5 := Lib.hid (HP4.out.trans hS5.2)
  have hN0 := (hS5.2.cell (p := ⟨nb, 0, none⟩) hnb4 HCOL.out).trans hN0
  have SW5 : (w4.setCell ⟨c.hs, k * 4 + 1, none⟩ (.int .i64 av)).cell? ⟨c.gl, 0, none⟩ = some (.pointer (some ⟨c.ga, 0, none⟩)) ∧ (w4.setCell ⟨c.hs, k * 4 + 1, none⟩ (.int .i64 av)).cell? ⟨nb, 1, none⟩ = some (.int .i64 (P.cw (P.nd k))) := ⟨HK5.out.cells.1, (hS5.2.cell (p := ⟨nb, 1, none⟩) hnb4 HCOL.out).trans SW4.2⟩
  clear hS5 pf
  refine wpAnyH_ready (rs := [10]) (by kernel_rfl) (by simp) ?_
  refine AllReadyH.cons rfl (fun K hK => ?_) AllReadyH.nil
  go_simp
  refine hK.out _ _ SW5 (fun hHeld => ?_)
  refine wpAnyH_done (by kernel_rfl) ?_ _
  obtain ⟨p0, p1, -, -, -⟩ := HK5.out.spots hk
  have hss : spOf (x.S.set k { spOf x.S (k : Int) with a := av }) (k : Int) = { spOf x.S (k : Int) with a := av } := set_t (by rw [HLN.out]; exact hk) _
  rw [show ({ x with σ := x.σ.op 1 (P.cw (P.nd k)) false 0, S := x.S.set k { spOf x.S (k : Int) with a := av } } : CS).S = x.S.set k { spOf x.S (k : Int) with a := av } from rfl, hss] at p0 p1
  rw [show ({ spOf x.S (k : Int) with a := av } : Sp).pc = (spOf x.S (k : Int)).pc from rfl, HPC.out] at p0
  rw [show ({ spOf x.S (k : Int) with a := av } : Sp).a = av from rfl] at p1
  obtain ⟨l0, -, l5, l6, -, l8⟩ := HK5.out.cells
  generalize w4.setCell ⟨c.hs, k * 4 + 1, none⟩ (.int .i64 av) = W5 at *
  clear SW4 SW5 HK4 HP4 hss hN0 pf1
  go_wp2_with fail
  refine (HG.out _ HK5.out).mono ?_
  rintro e w6 ⟨rfl, hf6, hm6⟩
  have h6 := HK5.out.glo hf6 hm6
  simp only [HS9.out] at h6
  have HK6 := Lib.hid h6.1
  have HP6 := Lib.hid (HP5.out.trans h6.2)
  clear hf6 hm6 h6 p0 p1 l0 l5 l6 l8
  go_wp2_with fail
  go_ret
  exact ⟨rfl, HK6.out, HP6.out⟩
theorem out11 (h : (spOf x.S (k : Int)).pc = 11) : Calls Tryz.prog 35 #[.pointer (some ⟨c.gl, 0, none⟩), .int .i64 (k : Int)] W (AftI c P { x with σ := x.σ.op 1 (P.cw (P.nd k)) false 0, S := x.S.set k { spOf x.S (k : Int) with a := x.σ.get (P.cw (P.nd k)) } } (selI (decide (P.B < x.σ.get (P.cw (P.nd k)))) 14 12) W) := by
  have HO := Lib.hid (of_co K D k hk)
  have hnd := (D.nd k hk).1
  have ho : x.σ.ops ≤ 1000000 := by have := H.ops; omega
  have hL := fun W' (K' : CoAt W' c P x) => load_any c.ga c.ha x.σ W' K'.d.ar ho (P.cw (P.nd k))
  have HLN := Lib.hid K.len
  have HK := Lib.hid K
  have HPC := Lib.hid h
  have i2 : (k : Int) < (P.T : Int) := by omega
  clear K H h
  generalize x.σ.get (P.cw (P.nd k)) = av at *
  have HL := Lib.hid hL
  clear hL
  by_cases hB : P.B < av
  · have HN := Lib.hid (show selI (decide (P.B < av)) 14 12 = 14 by rw [decide_eq_true hB]; rfl)
    have c8 := HK.out.cells.2.2.2.2.2
    go_enter Tryz.func35, Tryz.ntmps35
    go_upto_region 3 with (go_at_call 42; refine HO.out.mono ?_; rintro e w2 ⟨rfl, hb2⟩; have HB2 := Lib.hid hb2; clear hb2)
    have hb3 := HB2.out.trans ((below_new w2 (.cells #[.pointer (some ⟨c.lf (P.nd k), 0, none⟩), .int .i64 (P.cw (P.nd k))] 81)).mono HB2.out.size)
    have hx3 := blk_new w2 (.cells #[.pointer (some ⟨c.lf (P.nd k), 0, none⟩), .int .i64 (P.cw (P.nd k))] 81)
    have hcol := HK.out.s.fresh _ HB2.out.size
    have hnb := lt_of_blk hx3
    generalize w2.alloc (.cells #[.pointer (some ⟨c.lf (P.nd k), 0, none⟩), .int .i64 (P.cw (P.nd k))] 81) = W3 at *
    generalize w2.heap.size = nb at *
    have HB3 := Lib.hid hb3
    have HK3 := Lib.hid (HK.out.same hb3)
    have n0 := blk_cell hx3 0 (by simp)
    have n1 := blk_cell hx3 1 (by simp)
    simp at n0 n1
    have HN0 := Lib.hid n0
    have HN1 := Lib.hid n1
    have HCOL := Lib.hid hcol
    clear hx3 hb3 HB2 HO hcol c8
    obtain ⟨p0, p1, -, -, pf⟩ := HK3.out.spots hk
    obtain ⟨l0, -, l5, l6, -, l8⟩ := HK3.out.cells
    rw [HPC.out] at p0
    have pf0 := pf (k * 4)
    have pf1 := pf (k * 4 + 1)
    clear pf
    go_upto_region 5 with fail
    have SW0 : W3.drew.cell? ⟨c.gl, 0, none⟩ = some (.pointer (some ⟨c.ga, 0, none⟩)) ∧ W3.drew.cell? ⟨nb, 1, none⟩ = some (.int .i64 (P.cw (P.nd k))) := ⟨l0, n1⟩
    refine wp_region_held_drew (S := fun V => V.cell? ⟨c.gl, 0, none⟩ = some (.pointer (some ⟨c.ga, 0, none⟩)) ∧ V.cell? ⟨nb, 1, none⟩ = some (.int .i64 (P.cw (P.nd k)))) (by kernel_rfl) SW0 (fun hHeld => ?_)
    have HKd := Lib.hid (HK3.out.same (show Below W3.heap.size W3 W3.drew from Below.drew (Below.refl _ _)))
    have HBd := Lib.hid (show Below W.heap.size W W3.drew from Below.drew HB3.out)
    have hnd9 : nb < W3.drew.heap.size := hnb
    have HN1d := Lib.hid (show W3.drew.cell? ⟨nb, 1, none⟩ = some (.int .i64 (P.cw (P.nd k))) from n1)
    have HN0d := Lib.hid (show W3.drew.cell? ⟨nb, 0, none⟩ = some (.pointer (some ⟨c.lf (P.nd k), 0, none⟩)) from n0)
    clear p0 p1 l0 l5 l6 l8 pf0 pf1 n0 n1 HK3 HB3 HN0 HN1 hnb
    generalize W3.drew = X0 at *
    refine take_to 0 (some 28) (v := ?_) rfl rfl (by kernel_rfl) (by kernel_rfl) (by kernel_rfl) (fun _ _ _ h => h) (Or.inl ⟨by rfl, ?_⟩) (by first | trivial | assumption) ?_
    rotate_left
    focus (intro w hSw; (try dsimp only at hSw); go_simp; (try with_reducible rfl))
    simp only [Act.put, List.setIfInBounds_toArray, List.set_cons_zero, List.set_cons_succ]
    refine take_to 1 (some 29) (v := ?_) rfl rfl (by kernel_rfl) (by kernel_rfl) (by kernel_rfl) (fun _ _ _ h => h) (Or.inl ⟨by rfl, ?_⟩) (by first | trivial | assumption) ?_
    rotate_left
    focus (intro w hSw; (try dsimp only at hSw); go_simp; (try with_reducible rfl))
    simp only [Act.put, List.setIfInBounds_toArray, List.set_cons_zero, List.set_cons_succ]
    refine take_to 2 (some 30) (v := ?_) rfl rfl (by kernel_rfl) (by kernel_rfl) (by kernel_rfl) (fun _ _ _ h => h) (Or.inl ⟨by rfl, ?_⟩) (by first | trivial | assumption) ?_
    rotate_left
    focus (intro w hSw; (try dsimp only at hSw); go_simp; (try with_reducible rfl))
    simp only [Act.put, List.setIfInBounds_toArray, List.set_cons_zero, List.set_cons_succ]
    refine take_to 3 (some 31) (v := ?_) rfl rfl (by kernel_rfl) (by kernel_rfl) (by kernel_rfl) (fun _ _ _ h => h) (Or.inl ⟨by rfl, ?_⟩) (by first | trivial | assumption) ?_
    rotate_left
    focus (intro w hSw; (try dsimp only at hSw); go_simp; (try with_reducible rfl))
    simp only [Act.put, List.setIfInBounds_toArray, List.set_cons_zero, List.set_cons_succ]
    refine take_to 4 (some 32) (v := ?_) rfl rfl (by kernel_rfl) (by kernel_rfl) (by kernel_rfl) (fun _ _ _ h => h) (Or.inl ⟨by rfl, ?_⟩) (by first | trivial | assumption) ?_
    rotate_left
    focus (intro w hSw; (try dsimp only at hSw); go_simp; (try with_reducible rfl))
    simp only [Act.put, List.setIfInBounds_toArray, List.set_cons_zero, List.set_cons_succ]
    refine take_to 5 (some 33) (v := ?_) rfl rfl (by kernel_rfl) (by kernel_rfl) (by kernel_rfl) (fun _ _ _ h => h) (Or.inl ⟨by rfl, ?_⟩) (by first | trivial | assumption) ?_
    rotate_left
    focus (intro w hSw; (try dsimp only at hSw); go_simp; (try with_reducible rfl))
    simp only [Act.put, List.setIfInBounds_toArray, List.set_cons_zero, List.set_cons_succ]
    refine take_to 6 (some 34) (v := ?_) rfl rfl (by kernel_rfl) (by kernel_rfl) (by kernel_rfl) (fun _ _ _ h => h) (Or.inl ⟨by rfl, ?_⟩) (by first | trivial | assumption) ?_
    rotate_left
    focus (intro w hSw; (try dsimp only at hSw); go_simp; (try with_reducible rfl))
    simp only [Act.put, List.setIfInBounds_toArray, List.set_cons_zero, List.set_cons_succ]
    refine wpAnyH_ready (rs := [7]) (by kernel_rfl) (by simp) ?_
    refine AllReadyH.cons rfl (fun K hK => ?_) AllReadyH.nil
    go_simp
    refine (HL.out _ HKd.out).mono ?_
    rintro e w4 ⟨rfl, hf4, hm4⟩
    have h4 := HKd.out.wrd hf4 hm4
    have HK4 := Lib.hid h4.1
    have HP4 := Lib.hid ((Kp.of_below HBd.out).trans h4.2)
    have hN0 := (h4.2.cell (p := ⟨nb, 0, none⟩) hnd9 HCOL.out).trans HN0d.out
    have SW4 : w4.cell? ⟨c.gl, 0, none⟩ = some (.pointer (some ⟨c.ga, 0, none⟩)) ∧ w4.cell? ⟨nb, 1, none⟩ = some (.int .i64 (P.cw (P.nd k))) := ⟨HK4.out.cells.1, (h4.2.cell (p := ⟨nb, 1, none⟩) hnd9 HCOL.out).trans HN1d.out⟩
    have hnb4 : nb < w4.heap.size := Nat.lt_of_lt_of_le hnd9 h4.2.size
    clear hf4 hm4 h4
    go_simp
    refine hK.out _ _ SW4 (fun hHeld => ?_)
    refine take_to 8 (some 36) (v := ?_) rfl rfl (by kernel_rfl) (by kernel_rfl) (by kernel_rfl) (fun _ _ _ h => h) (Or.inl ⟨by rfl, ?_⟩) (by first | trivial | assumption) ?_
    rotate_left
    focus (intro w hSw; (try dsimp only at hSw); go_simp; (try with_reducible rfl))
    simp only [Act.put, List.setIfInBounds_toArray, List.set_cons_zero, List.set_cons_succ]
    refine take_to 9 (some 37) (v := ?_) rfl rfl (by kernel_rfl) (by kernel_rfl) (by kernel_rfl) (fun _ _ _ h => h) (Or.inl ⟨by rfl, ?_⟩) (by first | trivial | assumption) ?_
    rotate_left
    focus (intro w hSw; (try dsimp only at hSw); go_simp; (try with_reducible rfl))
    simp only [Act.put, List.setIfInBounds_toArray, List.set_cons_zero, List.set_cons_succ]
    obtain ⟨-, p1, -, -, pf⟩ := HK4.out.spots hk
    have pf1 := pf (k * 4 + 1)
    have hS5 := HK4.out.spot hk 1 (by omega) (.int .i64 av) { spOf x.S (k : Int) with a := av } rfl
    have HK5 := Lib.hid hS5.1
    have HP5 := Lib.hid (HP4.out.trans hS5.2)
    have hN0 := (hS5.2.cell (p := ⟨nb, 0, none⟩) hnb4 HCOL.out).trans hN0
    have SW5 : (w4.setCell ⟨c.hs, k * 4 + 1, none⟩ (.int .i64 av)).cell? ⟨c.gl, 0, none⟩ = some (.pointer (some ⟨c.ga, 0, none⟩)) ∧ (w4.setCell ⟨c.hs, k * 4 + 1, none⟩ (.int .i64 av)).cell? ⟨nb, 1, none⟩ = some (.int .i64 (P.cw (P.nd k))) := ⟨HK5.out.cells.1, (hS5.2.cell (p := ⟨nb, 1, none⟩) hnb4 HCOL.out).trans SW4.2⟩
    clear hS5 pf
    refine wpAnyH_ready (rs := [10]) (by kernel_rfl) (by simp) ?_
    refine AllReadyH.cons rfl (fun K hK => ?_) AllReadyH.nil
    go_simp
    refine hK.out _ _ SW5 (fun hHeld => ?_)
    refine wpAnyH_done (by kernel_rfl) ?_ _
    obtain ⟨p0, p1, -, -, -⟩ := HK5.out.spots hk
    have hss : spOf (x.S.set k { spOf x.S (k : Int) with a := av }) (k : Int) = { spOf x.S (k : Int) with a := av } := set_t (by rw [HLN.out]; exact hk) _
    rw [show ({ x with σ := x.σ.op 1 (P.cw (P.nd k)) false 0, S := x.S.set k { spOf x.S (k : Int) with a := av } } : CS).S = x.S.set k { spOf x.S (k : Int) with a := av } from rfl, hss] at p0 p1
    rw [show ({ spOf x.S (k : Int) with a := av } : Sp).pc = (spOf x.S (k : Int)).pc from rfl, HPC.out] at p0
    rw [show ({ spOf x.S (k : Int) with a := av } : Sp).a = av from rfl] at p1
    obtain ⟨l0, -, l5, l6, -, l8⟩ := HK5.out.cells
    generalize w4.setCell ⟨c.hs, k * 4 + 1, none⟩ (.int .i64 av) = W5 at *
    clear SW4 SW5 HK4 HP4 hss hN0 pf1
    go_wp2_with fail
    go_quiet (fail)
    go_wp2_with fail
    go_ret
    exact ⟨by rw [HN.out]; rfl, HK5.out.same (below_drewN (Below.refl _ _) _), HP5.out.trans (Kp.of_below (below_drewN (Below.refl _ _) _))⟩
  · have HN := Lib.hid (show selI (decide (P.B < av)) 14 12 = 12 by rw [decide_eq_false hB]; rfl)
    have c8 := HK.out.cells.2.2.2.2.2
    go_enter Tryz.func35, Tryz.ntmps35
    go_upto_region 3 with (go_at_call 42; refine HO.out.mono ?_; rintro e w2 ⟨rfl, hb2⟩; have HB2 := Lib.hid hb2; clear hb2)
    have hb3 := HB2.out.trans ((below_new w2 (.cells #[.pointer (some ⟨c.lf (P.nd k), 0, none⟩), .int .i64 (P.cw (P.nd k))] 81)).mono HB2.out.size)
    have hx3 := blk_new w2 (.cells #[.pointer (some ⟨c.lf (P.nd k), 0, none⟩), .int .i64 (P.cw (P.nd k))] 81)
    have hcol := HK.out.s.fresh _ HB2.out.size
    have hnb := lt_of_blk hx3
    generalize w2.alloc (.cells #[.pointer (some ⟨c.lf (P.nd k), 0, none⟩), .int .i64 (P.cw (P.nd k))] 81) = W3 at *
    generalize w2.heap.size = nb at *
    have HB3 := Lib.hid hb3
    have HK3 := Lib.hid (HK.out.same hb3)
    have n0 := blk_cell hx3 0 (by simp)
    have n1 := blk_cell hx3 1 (by simp)
    simp at n0 n1
    have HN0 := Lib.hid n0
    have HN1 := Lib.hid n1
    have HCOL := Lib.hid hcol
    clear hx3 hb3 HB2 HO hcol c8
    obtain ⟨p0, p1, -, -, pf⟩ := HK3.out.spots hk
    obtain ⟨l0, -, l5, l6, -, l8⟩ := HK3.out.cells
    rw [HPC.out] at p0
    have pf0 := pf (k * 4)
    have pf1 := pf (k * 4 + 1)
    clear pf
    go_upto_region 5 with fail
    have SW0 : W3.drew.cell? ⟨c.gl, 0, none⟩ = some (.pointer (some ⟨c.ga, 0, none⟩)) ∧ W3.drew.cell? ⟨nb, 1, none⟩ = some (.int .i64 (P.cw (P.nd k))) := ⟨l0, n1⟩
    refine wp_region_held_drew (S := fun V => V.cell? ⟨c.gl, 0, none⟩ = some (.pointer (some ⟨c.ga, 0, none⟩)) ∧ V.cell? ⟨nb, 1, none⟩ = some (.int .i64 (P.cw (P.nd k)))) (by kernel_rfl) SW0 (fun hHeld => ?_)
    have HKd := Lib.hid (HK3.out.same (show Below W3.heap.size W3 W3.drew from Below.drew (Below.refl _ _)))
    have HBd := Lib.hid (show Below W.heap.size W W3.drew from Below.drew HB3.out)
    have hnd9 : nb < W3.drew.heap.size := hnb
    have HN1d := Lib.hid (show W3.drew.cell? ⟨nb, 1, none⟩ = some (.int .i64 (P.cw (P.nd k))) from n1)
    have HN0d := Lib.hid (show W3.drew.cell? ⟨nb, 0, none⟩ = some (.pointer (some ⟨c.lf (P.nd k), 0, none⟩)) from n0)
    clear p0 p1 l0 l5 l6 l8 pf0 pf1 n0 n1 HK3 HB3 HN0 HN1 hnb
    generalize W3.drew = X0 at *
    refine take_to 0 (some 28) (v := ?_) rfl rfl (by kernel_rfl) (by kernel_rfl) (by kernel_rfl) (fun _ _ _ h => h) (Or.inl ⟨by rfl, ?_⟩) (by first | trivial | assumption) ?_
    rotate_left
    focus (intro w hSw; (try dsimp only at hSw); go_simp; (try with_reducible rfl))
    simp only [Act.put, List.setIfInBounds_toArray, List.set_cons_zero, List.set_cons_succ]
    refine take_to 1 (some 29) (v := ?_) rfl rfl (by kernel_rfl) (by kernel_rfl) (by kernel_rfl) (fun _ _ _ h => h) (Or.inl ⟨by rfl, ?_⟩) (by first | trivial | assumption) ?_
    rotate_left
    focus (intro w hSw; (try dsimp only at hSw); go_simp; (try with_reducible rfl))
    simp only [Act.put, List.setIfInBounds_toArray, List.set_cons_zero, List.set_cons_succ]
    refine take_to 2 (some 30) (v := ?_) rfl rfl (by kernel_rfl) (by kernel_rfl) (by kernel_rfl) (fun _ _ _ h => h) (Or.inl ⟨by rfl, ?_⟩) (by first | trivial | assumption) ?_
    rotate_left
    focus (intro w hSw; (try dsimp only at hSw); go_simp; (try with_reducible rfl))
    simp only [Act.put, List.setIfInBounds_toArray, List.set_cons_zero, List.set_cons_succ]
    refine take_to 3 (some 31) (v := ?_) rfl rfl (by kernel_rfl) (by kernel_rfl) (by kernel_rfl) (fun _ _ _ h => h) (Or.inl ⟨by rfl, ?_⟩) (by first | trivial | assumption) ?_
    rotate_left
    focus (intro w hSw; (try dsimp only at hSw); go_simp; (try with_reducible rfl))
    simp only [Act.put, List.setIfInBounds_toArray, List.set_cons_zero, List.set_cons_succ]
    refine take_to 4 (some 32) (v := ?_) rfl rfl (by kernel_rfl) (by kernel_rfl) (by kernel_rfl) (fun _ _ _ h => h) (Or.inl ⟨by rfl, ?_⟩) (by first | trivial | assumption) ?_
    rotate_left
    focus (intro w hSw; (try dsimp only at hSw); go_simp; (try with_reducible rfl))
    simp only [Act.put, List.setIfInBounds_toArray, List.set_cons_zero, List.set_cons_succ]
    refine take_to 5 (some 33) (v := ?_) rfl rfl (by kernel_rfl) (by kernel_rfl) (by kernel_rfl) (fun _ _ _ h => h) (Or.inl ⟨by rfl, ?_⟩) (by first | trivial | assumption) ?_
    rotate_left
    focus (intro w hSw; (try dsimp only at hSw); go_simp; (try with_reducible rfl))
    simp only [Act.put, List.setIfInBounds_toArray, List.set_cons_zero, List.set_cons_succ]
    refine take_to 6 (some 34) (v := ?_) rfl rfl (by kernel_rfl) (by kernel_rfl) (by kernel_rfl) (fun _ _ _ h => h) (Or.inl ⟨by rfl, ?_⟩) (by first | trivial | assumption) ?_
    rotate_left
    focus (intro w hSw; (try dsimp only at hSw); go_simp; (try with_reducible rfl))
    simp only [Act.put, List.setIfInBounds_toArray, List.set_cons_zero, List.set_cons_succ]
    refine wpAnyH_ready (rs := [7]) (by kernel_rfl) (by simp) ?_
    refine AllReadyH.cons rfl (fun K hK => ?_) AllReadyH.nil
    go_simp
    refine (HL.out _ HKd.out).mono ?_
    rintro e w4 ⟨rfl, hf4, hm4⟩
    have h4 := HKd.out.wrd hf4 hm4
    have HK4 := Lib.hid h4.1
    have HP4 := Lib.hid ((Kp.of_below HBd.out).trans h4.2)
    have hN0 := (h4.2.cell (p := ⟨nb, 0, none⟩) hnd9 HCOL.out).trans HN0d.out
    have SW4 : w4.cell? ⟨c.gl, 0, none⟩ = some (.pointer (some ⟨c.ga, 0, none⟩)) ∧ w4.cell? ⟨nb, 1, none⟩ = some (.int .i64 (P.cw (P.nd k))) := ⟨HK4.out.cells.1, (h4.2.cell (p := ⟨nb, 1, none⟩) hnd9 HCOL.out).trans HN1d.out⟩
    have hnb4 : nb < w4.heap.size := Nat.lt_of_lt_of_le hnd9 h4.2.size
    clear hf4 hm4 h4
    go_simp
    refine hK.out _ _ SW4 (fun hHeld => ?_)
    refine take_to 8 (some 36) (v := ?_) rfl rfl (by kernel_rfl) (by kernel_rfl) (by kernel_rfl) (fun _ _ _ h => h) (Or.inl ⟨by rfl, ?_⟩) (by first | trivial | assumption) ?_
    rotate_left
    focus (intro w hSw; (try dsimp only at hSw); go_simp; (try with_reducible rfl))
    simp only [Act.put, List.setIfInBounds_toArray, List.set_cons_zero, List.set_cons_succ]
    refine take_to 9 (some 37) (v := ?_) rfl rfl (by kernel_rfl) (by kernel_rfl) (by kernel_rfl) (fun _ _ _ h => h) (Or.inl ⟨by rfl, ?_⟩) (by first | trivial | assumption) ?_
    rotate_left
    focus (intro w hSw; (try dsimp only at hSw); go_simp; (try with_reducible rfl))
    simp only [Act.put, List.setIfInBounds_toArray, List.set_cons_zero, List.set_cons_succ]
    obtain ⟨-, p1, -, -, pf⟩ := HK4.out.spots hk
    have pf1 := pf (k * 4 + 1)
    have hS5 := HK4.out.spot hk 1 (by omega) (.int .i64 av) { spOf x.S (k : Int) with a := av } rfl
    have HK5 := Lib.hid hS5.1
    have HP5 := Lib.hid (HP4.out.trans hS5.2)
    have hN0 := (hS5.2.cell (p := ⟨nb, 0, none⟩) hnb4 HCOL.out).trans hN0
    have SW5 : (w4.setCell ⟨c.hs, k * 4 + 1, none⟩ (.int .i64 av)).cell? ⟨c.gl, 0, none⟩ = some (.pointer (some ⟨c.ga, 0, none⟩)) ∧ (w4.setCell ⟨c.hs, k * 4 + 1, none⟩ (.int .i64 av)).cell? ⟨nb, 1, none⟩ = some (.int .i64 (P.cw (P.nd k))) := ⟨HK5.out.cells.1, (hS5.2.cell (p := ⟨nb, 1, none⟩) hnb4 HCOL.out).trans SW4.2⟩
    clear hS5 pf
    refine wpAnyH_ready (rs := [10]) (by kernel_rfl) (by simp) ?_
    refine AllReadyH.cons rfl (fun K hK => ?_) AllReadyH.nil
    go_simp
    refine hK.out _ _ SW5 (fun hHeld => ?_)
    refine wpAnyH_done (by kernel_rfl) ?_ _
    obtain ⟨p0, p1, -, -, -⟩ := HK5.out.spots hk
    have hss : spOf (x.S.set k { spOf x.S (k : Int) with a := av }) (k : Int) = { spOf x.S (k : Int) with a := av } := set_t (by rw [HLN.out]; exact hk) _
    rw [show ({ x with σ := x.σ.op 1 (P.cw (P.nd k)) false 0, S := x.S.set k { spOf x.S (k : Int) with a := av } } : CS).S = x.S.set k { spOf x.S (k : Int) with a := av } from rfl, hss] at p0 p1
    rw [show ({ spOf x.S (k : Int) with a := av } : Sp).pc = (spOf x.S (k : Int)).pc from rfl, HPC.out] at p0
    rw [show ({ spOf x.S (k : Int) with a := av } : Sp).a = av from rfl] at p1
    obtain ⟨l0, -, l5, l6, -, l8⟩ := HK5.out.cells
    generalize w4.setCell ⟨c.hs, k * 4 + 1, none⟩ (.int .i64 av) = W5 at *
    clear SW4 SW5 HK4 HP4 hss hN0 pf1
    go_wp2_with fail
    go_quiet (fail)
    go_wp2_with fail
    go_ret
    exact ⟨by rw [HN.out]; rfl, HK5.out.same (below_drewN (Below.refl _ _) _), HP5.out.trans (Kp.of_below (below_drewN (Below.refl _ _) _))⟩
end
end Go.Proofs.YtfnmggmgdmokcaaGreat.Cm

/- Package cohort: a step of one that goes out. -/
namespace Go.Proofs.YtfnmggmgdmokcaaGreat.Cm
open Go.RowKit Go.Proofs.YtfnmggmgdmokcaaGreat.Ara Go.Proofs.YtfnmggmgdmokcaaGreat.Lok Go.Proofs.YtfnmggmgdmokcaaGreat.Fl Go.Proofs.YtfnmggmgdmokcaaGreat.Co


section
variable {W : World} {c : Cd} {P : Pm} {x : CS} (K : CoAt W c P x) (D : Dj P) {m : Nat} (H : CI P x m) (hm : m ≤ 99999) (k : Nat) (hk : k < P.T)
include K D H hm hk
theorem out16 (h : (spOf x.S (k : Int)).pc = 16) : Calls Tryz.prog 35 #[.pointer (some ⟨c.gl, 0, none⟩), .int .i64 (k : Int)] W (AftI c P { x with σ := (doK (P.pl (P.nd k)) x.σ (x.loc (P.nd k)) 0 (P.sl k)).2.1, loc := upd x.loc (P.nd k) (doK (P.pl (P.nd k)) x.σ (x.loc (P.nd k)) 0 (P.sl k)).2.2 } (selI (doK (P.pl (P.nd k)) x.σ (x.loc (P.nd k)) 0 (P.sl k)).1 0 16) W) := by
  have HO := Lib.hid (of_co K D k hk)
  have hnd := (D.nd k hk).1
  have ho : x.σ.ops ≤ 1000000 := by have := H.ops; omega
  have HK := Lib.hid K
  have HPC := Lib.hid h
  have i2 : (k : Int) < (P.T : Int) := by omega
  have HF := Lib.hid (fun W' (K' : CoAt W' c P x) => Step_flat (K'.d.fl _ hnd) (P.mt (P.nd k)) m (H.ol _ hnd) (by omega) (P.sl k : Int))
  clear K H h
  generalize hdk : doK (P.pl (P.nd k)) x.σ (x.loc (P.nd k)) 0 (P.sl k) = r at *
  clear hdk
  obtain ⟨rb, rσ, rl⟩ := r
  simp only at HF ⊢
  have c8 := HK.out.cells.2.2.2.2.2
  go_enter Tryz.func35, Tryz.ntmps35
  go_upto_region 3 with (go_at_call 42; refine HO.out.mono ?_; rintro e w2 ⟨rfl, hb2⟩; have HB2 := Lib.hid hb2; clear hb2)
  have hb3 := HB2.out.trans ((below_new w2 (.cells #[.pointer (some ⟨c.lf (P.nd k), 0, none⟩), .int .i64 (P.cw (P.nd k))] 81)).mono HB2.out.size)
  have hx3 := blk_new w2 (.cells #[.pointer (some ⟨c.lf (P.nd k), 0, none⟩), .int .i64 (P.cw (P.nd k))] 81)
  have hcol := HK.out.s.fresh _ HB2.out.size
  have hnb := lt_of_blk hx3
  generalize w2.alloc (.cells #[.pointer (some ⟨c.lf (P.nd k), 0, none⟩), .int .i64 (P.cw (P.nd k))] 81) = W3 at *
  generalize w2.heap.size = nb at *
  have HB3 := Lib.hid hb3
  have HK3 := Lib.hid (HK.out.same hb3)
  have n0 := blk_cell hx3 0 (by simp)
  have n1 := blk_cell hx3 1 (by simp)
  simp at n0 n1
  have HN0 := Lib.hid n0
  have HN1 := Lib.hid n1
  have HCOL := Lib.hid hcol
  clear hx3 hb3 HB2 HO hcol c8
  obtain ⟨p0, p1, -, -, pf⟩ := HK3.out.spots hk
  obtain ⟨l0, -, l5, l6, -, l8⟩ := HK3.out.cells
  rw [HPC.out] at p0
  have pf0 := pf (k * 4)
  have pf1 := pf (k * 4 + 1)
  clear pf
  go_wp2_with fail
  refine (HF.out _ HK3.out).mono ?_
  rintro e w4 ⟨rfl, hf4, hm4⟩
  have h4 := HK3.out.loc hnd hf4 hm4
  have HK4 := Lib.hid h4.1
  have HP4 := Lib.hid ((Kp.of_below HB3.out).trans h4.2)
  clear hf4 hm4 h4 p0 p1 l0 l5 l6 l8 pf0 pf1 n0 n1
  cases rb with
  | true =>
    go_wp2_with fail
    go_ret
    exact ⟨rfl, HK4.out, HP4.out⟩
  | false =>
    obtain ⟨p0, -, -, -, -⟩ := HK4.out.spots hk
    rw [HPC.out] at p0
    go_wp2_with fail
    go_ret
    exact ⟨rfl, HK4.out, HP4.out⟩
theorem out15 (h : (spOf x.S (k : Int)).pc = 15) : Calls Tryz.prog 35 #[.pointer (some ⟨c.gl, 0, none⟩), .int .i64 (k : Int)] W (AftI c P { x with σ := (doK P.pg x.σ x.g 0 (P.nd k)).2.1, g := (doK P.pg x.σ x.g 0 (P.nd k)).2.2, loc := if (doK P.pg x.σ x.g 0 (P.nd k)).1 = true then upd x.loc (P.nd k) (doK (P.pl (P.nd k)) x.σ (x.loc (P.nd k)) 2 (P.sl k)).2.2 else x.loc } (selI (doK P.pg x.σ x.g 0 (P.nd k)).1 16 15) W) := by
  have HO := Lib.hid (of_co K D k hk)
  have hnd := (D.nd k hk).1
  have ho : x.σ.ops ≤ 1000000 := by have := H.ops; omega
  have HK := Lib.hid K
  have HPC := Lib.hid h
  have i2 : (k : Int) < (P.T : Int) := by omega
  have HF := Lib.hid (fun W' (K' : CoAt W' c P x) => Step_flat K'.d.fg P.NN m H.og (by omega) (P.nd k : Int))
  have hal := (H.glo_al D (P.nd k) 0).1 _ hnd
  have hops := (do_ops P.pg x.σ x.g 0 (P.nd k)).1
  have hl1 := (H.ol _ hnd).al hal (m' := m + 1) (by have := H.ops; omega) (by omega)
  have HG := Lib.hid (fun W' (K' : CoAt W' c P { x with σ := (doK P.pg x.σ x.g 0 (P.nd k)).2.1, g := (doK P.pg x.σ x.g 0 (P.nd k)).2.2 }) => Leave_flat (K'.d.fl _ hnd) (P.mt (P.nd k)) (m + 1) hl1 (by omega) (P.sl k : Int))
  have HS9 := Lib.hid (show (doK (P.pl (P.nd k)) (doK P.pg x.σ x.g 0 (P.nd k)).2.1 (x.loc (P.nd k)) 2 (P.sl k)).2.1 = (doK P.pg x.σ x.g 0 (P.nd k)).2.1 from do12 _ _ _ (.inr rfl) _)
  have HS8 := Lib.hid (do12s (P.pl (P.nd k)) x.σ (doK P.pg x.σ x.g 0 (P.nd k)).2.1 (x.loc (P.nd k)) (.inr (rfl : (2 : Int) = 2)) (P.sl k))
  rw [← HS8.out]
  clear K H h hal hl1 hops HS8
  generalize hdk : doK P.pg x.σ x.g 0 (P.nd k) = r at *
  clear hdk
  obtain ⟨rb, rσ, rl⟩ := r
  simp only at HF HG HS9 ⊢
  generalize hdq : doK (P.pl (P.nd k)) rσ (x.loc (P.nd k)) 2 (P.sl k) = q at *
  clear hdq
  obtain ⟨qb, qσ, ql⟩ := q
  simp only at HG HS9 ⊢
  cases rb with
  | true =>
    rw [if_pos rfl]
    have c8 := HK.out.cells.2.2.2.2.2
    go_enter Tryz.func35, Tryz.ntmps35
    go_upto_region 3 with (go_at_call 42; refine HO.out.mono ?_; rintro e w2 ⟨rfl, hb2⟩; have HB2 := Lib.hid hb2; clear hb2)
    have hb3 := HB2.out.trans ((below_new w2 (.cells #[.pointer (some ⟨c.lf (P.nd k), 0, none⟩), .int .i64 (P.cw (P.nd k))] 81)).mono HB2.out.size)
    have hx3 := blk_new w2 (.cells #[.pointer (some ⟨c.lf (P.nd k), 0, none⟩), .int .i64 (P.cw (P.nd k))] 81)
    have hcol := HK.out.s.fresh _ HB2.out.size
    have hnb := lt_of_blk hx3
    generalize w2.alloc (.cells #[.pointer (some ⟨c.lf (P.nd k), 0, none⟩), .int .i64 (P.cw (P.nd k))] 81) = W3 at *
    generalize w2.heap.size = nb at *
    have HB3 := Lib.hid hb3
    have HK3 := Lib.hid (HK.out.same hb3)
    have n0 := blk_cell hx3 0 (by simp)
    have n1 := blk_cell hx3 1 (by simp)
    simp at n0 n1
    have HN0 := Lib.hid n0
    have HN1 := Lib.hid n1
    have HCOL := Lib.hid hcol
    clear hx3 hb3 HB2 HO hcol c8
    obtain ⟨p0, p1, -, -, pf⟩ := HK3.out.spots hk
    obtain ⟨l0, -, l5, l6, -, l8⟩ := HK3.out.cells
    rw [HPC.out] at p0
    have pf0 := pf (k * 4)
    have pf1 := pf (k * 4 + 1)
    clear pf
    go_wp2_with fail
    refine (HF.out _ HK3.out).mono ?_
    rintro e w4 ⟨rfl, hf4, hm4⟩
    have h4 := HK3.out.glo hf4 hm4
    have HK4 := Lib.hid h4.1
    have HP4 := Lib.hid ((Kp.of_below HB3.out).trans h4.2)
    have m0 := (h4.2.cell (p := ⟨nb, 0, none⟩) hnb HCOL.out).trans HN0.out
    clear hf4 hm4 h4 p0 p1 l0 l5 l6 l8 pf0 pf1 n0 n1
    go_wp2_with fail
    refine (HG.out _ HK4.out).mono ?_
    rintro e w5 ⟨rfl, hf5, hm5⟩
    have h5 := HK4.out.loc hnd hf5 hm5
    simp only [HS9.out] at h5
    have HK5 := Lib.hid h5.1
    have HP5 := Lib.hid (HP4.out.trans h5.2)
    clear hf5 hm5 h5 m0
    go_wp2_with fail
    go_ret
    exact ⟨rfl, HK5.out, HP5.out⟩
  | false =>
    rw [if_neg (by decide)]
    have c8 := HK.out.cells.2.2.2.2.2
    go_enter Tryz.func35, Tryz.ntmps35
    go_upto_region 3 with (go_at_call 42; refine HO.out.mono ?_; rintro e w2 ⟨rfl, hb2⟩; have HB2 := Lib.hid hb2; clear hb2)
    have hb3 := HB2.out.trans ((below_new w2 (.cells #[.pointer (some ⟨c.lf (P.nd k), 0, none⟩), .int .i64 (P.cw (P.nd k))] 81)).mono HB2.out.size)
    have hx3 := blk_new w2 (.cells #[.pointer (some ⟨c.lf (P.nd k), 0, none⟩), .int .i64 (P.cw (P.nd k))] 81)
    have hcol := HK.out.s.fresh _ HB2.out.size
    have hnb := lt_of_blk hx3
    generalize w2.alloc (.cells #[.pointer (some ⟨c.lf (P.nd k), 0, none⟩), .int .i64 (P.cw (P.nd k))] 81) = W3 at *
    generalize w2.heap.size = nb at *
    have HB3 := Lib.hid hb3
    have HK3 := Lib.hid (HK.out.same hb3)
    have n0 := blk_cell hx3 0 (by simp)
    have n1 := blk_cell hx3 1 (by simp)
    simp at n0 n1
    have HN0 := Lib.hid n0
    have HN1 := Lib.hid n1
    have HCOL := Lib.hid hcol
    clear hx3 hb3 HB2 HO hcol c8
    obtain ⟨p0, p1, -, -, pf⟩ := HK3.out.spots hk
    obtain ⟨l0, -, l5, l6, -, l8⟩ := HK3.out.cells
    rw [HPC.out] at p0
    have pf0 := pf (k * 4)
    have pf1 := pf (k * 4 + 1)
    clear pf
    go_wp2_with fail
    refine (HF.out _ HK3.out).mono ?_
    rintro e w4 ⟨rfl, hf4, hm4⟩
    have h4 := HK3.out.glo hf4 hm4
    have HK4 := Lib.hid h4.1
    have HP4 := Lib.hid ((Kp.of_below HB3.out).trans h4.2)
    clear hf4 hm4 h4 p0 p1 l0 l5 l6 l8 pf0 pf1 n0 n1
    obtain ⟨p0, -, -, -, -⟩ := HK4.out.spots hk
    rw [HPC.out] at p0
    go_wp2_with fail
    go_ret
    exact ⟨rfl, HK4.out, HP4.out⟩
theorem out14 (h : (spOf x.S (k : Int)).pc = 14) : Calls Tryz.prog 35 #[.pointer (some ⟨c.gl, 0, none⟩), .int .i64 (k : Int)] W (AftI c P { x with σ := x.σ.op 2 (P.cw (P.nd k)) true 0, g := (doK P.pg x.σ x.g 2 (P.nd k)).2.2 } 15 W) := by
  have HO := Lib.hid (of_co K D k hk)
  have hnd := (D.nd k hk).1
  have ho : x.σ.ops ≤ 1000000 := by have := H.ops; omega
  have HK := Lib.hid K
  have HPC := Lib.hid h
  have i2 : (k : Int) < (P.T : Int) := by omega
  have HF := Lib.hid (fun W' (K' : CoAt W' c P x) => store_any c.ga c.ha x.σ W' K'.d.ar ho (P.cw (P.nd k)) 0)
  have hal := (H.op_al D hnd 2 0 true).1
  have hg1 := H.og.al hal (m' := m + 1) (by rw [op_ops]; have := H.ops; split <;> omega) (by omega)
  have HG := Lib.hid (fun W' (K' : CoAt W' c P { x with σ := x.σ.op 2 (P.cw (P.nd k)) true 0 }) => Leave_flat K'.d.fg P.NN (m + 1) hg1 (by omega) (P.nd k : Int))
  have HS9 := Lib.hid (show (doK P.pg (x.σ.op 2 (P.cw (P.nd k)) true 0) x.g 2 (P.nd k)).2.1 = x.σ.op 2 (P.cw (P.nd k)) true 0 from do12 _ _ _ (.inr rfl) _)
  have HS8 := Lib.hid (do12s P.pg x.σ (x.σ.op 2 (P.cw (P.nd k)) true 0) x.g (.inr (rfl : (2 : Int) = 2)) (P.nd k))
  rw [← HS8.out]
  clear K H h hal hg1 HS8
  generalize hdk : doK P.pg (x.σ.op 2 (P.cw (P.nd k)) true 0) x.g 2 (P.nd k) = r at *
  clear hdk
  obtain ⟨rb, rσ, rl⟩ := r
  simp only at HG HS9 ⊢
  have c8 := HK.out.cells.2.2.2.2.2
  go_enter Tryz.func35, Tryz.ntmps35
  go_upto_region 3 with (go_at_call 42; refine HO.out.mono ?_; rintro e w2 ⟨rfl, hb2⟩; have HB2 := Lib.hid hb2; clear hb2)
  have hb3 := HB2.out.trans ((below_new w2 (.cells #[.pointer (some ⟨c.lf (P.nd k), 0, none⟩), .int .i64 (P.cw (P.nd k))] 81)).mono HB2.out.size)
  have hx3 := blk_new w2 (.cells #[.pointer (some ⟨c.lf (P.nd k), 0, none⟩), .int .i64 (P.cw (P.nd k))] 81)
  have hcol := HK.out.s.fresh _ HB2.out.size
  have hnb := lt_of_blk hx3
  generalize w2.alloc (.cells #[.pointer (some ⟨c.lf (P.nd k), 0, none⟩), .int .i64 (P.cw (P.nd k))] 81) = W3 at *
  generalize w2.heap.size = nb at *
  have HB3 := Lib.hid hb3
  have HK3 := Lib.hid (HK.out.same hb3)
  have n0 := blk_cell hx3 0 (by simp)
  have n1 := blk_cell hx3 1 (by simp)
  simp at n0 n1
  have HN0 := Lib.hid n0
  have HN1 := Lib.hid n1
  have HCOL := Lib.hid hcol
  clear hx3 hb3 HB2 HO hcol c8
  obtain ⟨p0, p1, -, -, pf⟩ := HK3.out.spots hk
  obtain ⟨l0, -, l5, l6, -, l8⟩ := HK3.out.cells
  rw [HPC.out] at p0
  have pf0 := pf (k * 4)
  have pf1 := pf (k * 4 + 1)
  clear pf
  go_upto_region 18 with fail
  have SW0 : W3.drew.cell? ⟨c.gl, 0, none⟩ = some (.pointer (some ⟨c.ga, 0, none⟩)) ∧ W3.drew.cell? ⟨nb, 1, none⟩ = some (.int .i64 (P.cw (P.nd k))) := ⟨l0, n1⟩
  refine wp_region_held_drew (S := fun V => V.cell? ⟨c.gl, 0, none⟩ = some (.pointer (some ⟨c.ga, 0, none⟩)) ∧ V.cell? ⟨nb, 1, none⟩ = some (.int .i64 (P.cw (P.nd k)))) (by kernel_rfl) SW0 (fun hHeld => ?_)
  have HKd := Lib.hid (HK3.out.same (show Below W3.heap.size W3 W3.drew from Below.drew (Below.refl _ _)))
  have HBd := Lib.hid (show Below W.heap.size W W3.drew from Below.drew HB3.out)
  have hnd9 : nb < W3.drew.heap.size := hnb
  have HN1d := Lib.hid (show W3.drew.cell? ⟨nb, 1, none⟩ = some (.int .i64 (P.cw (P.nd k))) from n1)
  have HN0d := Lib.hid (show W3.drew.cell? ⟨nb, 0, none⟩ = some (.pointer (some ⟨c.lf (P.nd k), 0, none⟩)) from n0)
  clear p0 p1 l0 l5 l6 l8 pf0 pf1 n0 n1 HK3 HB3 HN0 HN1 hnb
  generalize W3.drew = X0 at *
  refine take_to 0 (some 84) (v := ?_) rfl rfl (by kernel_rfl) (by kernel_rfl) (by kernel_rfl) (fun _ _ _ h => h) (Or.inl ⟨by rfl, ?_⟩) (by first | trivial | assumption) ?_
  rotate_left
  focus (intro w hSw; (try dsimp only at hSw); go_simp; (try with_reducible rfl))
  simp only [Act.put, List.setIfInBounds_toArray, List.set_cons_zero, List.set_cons_succ]
  refine take_to 1 (some 85) (v := ?_) rfl rfl (by kernel_rfl) (by kernel_rfl) (by kernel_rfl) (fun _ _ _ h => h) (Or.inl ⟨by rfl, ?_⟩) (by first | trivial | assumption) ?_
  rotate_left
  focus (intro w hSw; (try dsimp only at hSw); go_simp; (try with_reducible rfl))
  simp only [Act.put, List.setIfInBounds_toArray, List.set_cons_zero, List.set_cons_succ]
  refine take_to 2 (some 86) (v := ?_) rfl rfl (by kernel_rfl) (by kernel_rfl) (by kernel_rfl) (fun _ _ _ h => h) (Or.inl ⟨by rfl, ?_⟩) (by first | trivial | assumption) ?_
  rotate_left
  focus (intro w hSw; (try dsimp only at hSw); go_simp; (try with_reducible rfl))
  simp only [Act.put, List.setIfInBounds_toArray, List.set_cons_zero, List.set_cons_succ]
  refine take_to 3 (some 87) (v := ?_) rfl rfl (by kernel_rfl) (by kernel_rfl) (by kernel_rfl) (fun _ _ _ h => h) (Or.inl ⟨by rfl, ?_⟩) (by first | trivial | assumption) ?_
  rotate_left
  focus (intro w hSw; (try dsimp only at hSw); go_simp; (try with_reducible rfl))
  simp only [Act.put, List.setIfInBounds_toArray, List.set_cons_zero, List.set_cons_succ]
  refine take_to 4 (some 88) (v := ?_) rfl rfl (by kernel_rfl) (by kernel_rfl) (by kernel_rfl) (fun _ _ _ h => h) (Or.inl ⟨by rfl, ?_⟩) (by first | trivial | assumption) ?_
  rotate_left
  focus (intro w hSw; (try dsimp only at hSw); go_simp; (try with_reducible rfl))
  simp only [Act.put, List.setIfInBounds_toArray, List.set_cons_zero, List.set_cons_succ]
  refine take_to 5 (some 89) (v := ?_) rfl rfl (by kernel_rfl) (by kernel_rfl) (by kernel_rfl) (fun _ _ _ h => h) (Or.inl ⟨by rfl, ?_⟩) (by first | trivial | assumption) ?_
  rotate_left
  focus (intro w hSw; (try dsimp only at hSw); go_simp; (try with_reducible rfl))
  simp only [Act.put, List.setIfInBounds_toArray, List.set_cons_zero, List.set_cons_succ]
  refine wpAnyH_ready (rs := [6]) (by kernel_rfl) (by simp) ?_
  refine AllReadyH.cons rfl (fun K hK => ?_) AllReadyH.nil
  go_simp
  refine (HF.out _ HKd.out).mono ?_
  rintro e w4 ⟨rfl, hf4, hm4⟩
  have h4 := HKd.out.wrd hf4 hm4
  have HK4 := Lib.hid h4.1
  have HP4 := Lib.hid ((Kp.of_below HBd.out).trans h4.2)
  have SW4 : w4.cell? ⟨c.gl, 0, none⟩ = some (.pointer (some ⟨c.ga, 0, none⟩)) ∧ w4.cell? ⟨nb, 1, none⟩ = some (.int .i64 (P.cw (P.nd k))) := ⟨HK4.out.cells.1, (h4.2.cell (p := ⟨nb, 1, none⟩) hnd9 HCOL.out).trans HN1d.out⟩
  clear hf4 hm4 h4
  go_simp
  refine hK.out _ _ SW4 (fun hHeld => ?_)
  refine wpAnyH_done (by kernel_rfl) ?_ _
  obtain ⟨-, -, -, l6, -, -⟩ := HK4.out.cells
  clear SW4
  go_wp2_with fail
  refine (HG.out _ HK4.out).mono ?_
  rintro e w6 ⟨rfl, hf6, hm6⟩
  have h6 := HK4.out.glo hf6 hm6
  simp only [HS9.out] at h6
  have HK6 := Lib.hid h6.1
  have HP6 := Lib.hid (HP4.out.trans h6.2)
  clear hf6 hm6 h6 l6
  go_wp2_with fail
  go_ret
  exact ⟨rfl, HK6.out, HP6.out⟩
end
end Go.Proofs.YtfnmggmgdmokcaaGreat.Cm

