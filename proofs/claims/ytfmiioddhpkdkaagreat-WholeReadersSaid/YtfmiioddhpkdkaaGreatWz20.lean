/- Merged texts: Cm8, Cm9, Cm10, Cm11. -/
import Derived.Test.YtfmiioddhpkdkaaGreatWz19
set_option linter.unusedVariables false
set_option maxRecDepth 100000
set_option maxHeartbeats 8000000
/- Package cohort: a step of one that goes out. -/
namespace Go.Proofs.YtfmiioddhpkdkaaGreat.Cm
open Go.RowKit Ara Lok Fl Co


section
variable {W : World} {c : Cd} {P : Pm} {x : CS} (K : CoAt W c P x) (D : Dj P) {m : Nat} (H : CI P x m) (hm : m ≤ 99999) (k : Nat) (hk : k < P.T)
include K D H hm hk
theorem out16 (h : (spOf x.S (k : Int)).pc = 16) : Calls Tryz.prog 173 #[.pointer (some ⟨c.gl, 0, none⟩), .int .i64 (k : Int)] W (AftI c P { x with σ := (doK (P.pl (P.nd k)) x.σ (x.loc (P.nd k)) 0 (P.sl k)).2.1, loc := upd x.loc (P.nd k) (doK (P.pl (P.nd k)) x.σ (x.loc (P.nd k)) 0 (P.sl k)).2.2 } (selI (doK (P.pl (P.nd k)) x.σ (x.loc (P.nd k)) 0 (P.sl k)).1 0 16) W) := by
  have HO := Lib.hid (of_co K D k hk)
  have hnd := (D.nd k hk).1
  have ho : x.σ.ops ≤ 1000000 := by have := H.ops; omega
  have HK := Lib.hid K
  have HPC := Lib.hid h
  have i2 : (k : Int) < (P.T : Int) := by omega
  have HF := Lib.hid (fun W' (K' : CoAt W' c P x) => Step_flat (K'.d.fl _ hnd) (P.mt (P.nd k)) m (H.ol _ hnd) (by omega) (P.sl k : Int))
  clear K H h
  generalize hdk : doK (P.pl (P.nd k)) x.σ (x.loc (P.nd k)) 0 (P.sl k) = r at *
  clear hdk
  obtain ⟨rb, rσ, rl⟩ := r
  simp only at HF ⊢
  have c8 := HK.out.cells.2.2.2.2.2
  go_enter Tryz.func173, Tryz.ntmps173
  go_upto_region 3 with (go_at_call 170; refine HO.out.mono ?_; rintro e w2 ⟨rfl, hb2⟩; have HB2 := Lib.hid hb2; clear hb2)
  have hb3 := HB2.out.trans ((below_new w2 (.cells #[.pointer (some ⟨c.lf (P.nd k), 0, none⟩), .int .i64 (P.cw (P.nd k))] 179)).mono HB2.out.size)
  have hx3 := blk_new w2 (.cells #[.pointer (some ⟨c.lf (P.nd k), 0, none⟩), .int .i64 (P.cw (P.nd k))] 179)
  have hcol := HK.out.s.fresh _ HB2.out.size
  have hnb := lt_of_blk hx3
  generalize w2.alloc (.cells #[.pointer (some ⟨c.lf (P.nd k), 0, none⟩), .int .i64 (P.cw (P.nd k))] 179) = W3 at *
  generalize w2.heap.size = nb at *
  have HB3 := Lib.hid hb3
  have HK3 := Lib.hid (HK.out.same hb3)
  have n0 := blk_cell hx3 0 (by simp)
  have n1 := blk_cell hx3 1 (by simp)
  simp at n0 n1
  have HN0 := Lib.hid n0
  have HN1 := Lib.hid n1
  have HCOL := Lib.hid hcol
  clear hx3 hb3 HB2 HO hcol c8
  obtain ⟨p0, p1, -, -, pf⟩ := HK3.out.spots hk
  obtain ⟨l0, -, l5, l6, -, l8⟩ := HK3.out.cells
  rw [HPC.out] at p0
  have pf0 := pf (k * 4)
  have pf1 := pf (k * 4 + 1)
  clear pf
  go_wp2_with fail
  refine (HF.out _ HK3.out).mono ?_
  rintro e w4 ⟨rfl, hf4, hm4⟩
  have h4 := HK3.out.loc hnd hf4 hm4
  have HK4 := Lib.hid h4.1
  have HP4 := Lib.hid ((Kp.of_below HB3.out).trans h4.2)
  clear hf4 hm4 h4 p0 p1 l0 l5 l6 l8 pf0 pf1 n0 n1
  cases rb with
  | true =>
    go_wp2_with fail
    go_ret
    exact ⟨rfl, HK4.out, HP4.out⟩
  | false =>
    obtain ⟨p0, -, -, -, -⟩ := HK4.out.spots hk
    rw [HPC.out] at p0
    go_wp2_with fail
    go_ret
    exact ⟨rfl, HK4.out, HP4.out⟩
theorem out15 (h : (spOf x.S (k : Int)).pc = 15) : Calls Tryz.prog 173 #[.pointer (some ⟨c.gl, 0, none⟩), .int .i64 (k : Int)] W (AftI c P { x with σ := (doK P.pg x.σ x.g 0 (P.nd k)).2.1, g := (doK P.pg x.σ x.g 0 (P.nd k)).2.2, loc := if (doK P.pg x.σ x.g 0 (P.nd k)).1 = true then upd x.loc (P.nd k) (doK (P.pl (P.nd k)) x.σ (x.loc (P.nd k)) 2 (P.sl k)).2.2 else x.loc } (selI (doK P.pg x.σ x.g 0 (P.nd k)).1 16 15) W) := by
  have HO := Lib.hid (of_co K D k hk)
  have hnd := (D.nd k hk).1
  have ho : x.σ.ops ≤ 1000000 := by have := H.ops; omega
  have HK := Lib.hid K
  have HPC := Lib.hid h
  have i2 : (k : Int) < (P.T : Int) := by omega
  have HF := Lib.hid (fun W' (K' : CoAt W' c P x) => Step_flat K'.d.fg P.NN m H.og (by omega) (P.nd k : Int))
  have hal := (H.glo_al D (P.nd k) 0).1 _ hnd
  have hops := (do_ops P.pg x.σ x.g 0 (P.nd k)).1
  have hl1 := (H.ol _ hnd).al hal (m' := m + 1) (by have := H.ops; omega) (by omega)
  have HG := Lib.hid (fun W' (K' : CoAt W' c P { x with σ := (doK P.pg x.σ x.g 0 (P.nd k)).2.1, g := (doK P.pg x.σ x.g 0 (P.nd k)).2.2 }) => Leave_flat (K'.d.fl _ hnd) (P.mt (P.nd k)) (m + 1) hl1 (by omega) (P.sl k : Int))
  have HS9 := Lib.hid (show (doK (P.pl (P.nd k)) (doK P.pg x.σ x.g 0 (P.nd k)).2.1 (x.loc (P.nd k)) 2 (P.sl k)).2.1 = (doK P.pg x.σ x.g 0 (P.nd k)).2.1 from do12 _ _ _ (.inr rfl) _)
  have HS8 := Lib.hid (do12s (P.pl (P.nd k)) x.σ (doK P.pg x.σ x.g 0 (P.nd k)).2.1 (x.loc (P.nd k)) (.inr (rfl : (2 : Int) = 2)) (P.sl k))
  rw [← HS8.out]
  clear K H h hal hl1 hops HS8
  generalize hdk : doK P.pg x.σ x.g 0 (P.nd k) = r at *
  clear hdk
  obtain ⟨rb, rσ, rl⟩ := r
  simp only at HF HG HS9 ⊢
  generalize hdq : doK (P.pl (P.nd k)) rσ (x.loc (P.nd k)) 2 (P.sl k) = q at *
  clear hdq
  obtain ⟨qb, qσ, ql⟩ := q
  simp only at HG HS9 ⊢
  cases rb with
  | true =>
    rw [if_pos rfl]
    have c8 := HK.out.cells.2.2.2.2.2
    go_enter Tryz.func173, Tryz.ntmps173
    go_upto_region 3 with (go_at_call 170; refine HO.out.mono ?_; rintro e w2 ⟨rfl, hb2⟩; have HB2 := Lib.hid hb2; clear hb2)
    have hb3 := HB2.out.trans ((below_new w2 (.cells #[.pointer (some ⟨c.lf (P.nd k), 0, none⟩), .int .i64 (P.cw (P.nd k))] 179)).mono HB2.out.size)
    have hx3 := blk_new w2 (.cells #[.pointer (some ⟨c.lf (P.nd k), 0, none⟩), .int .i64 (P.cw (P.nd k))] 179)
    have hcol := HK.out.s.fresh _ HB2.out.size
    have hnb := lt_of_blk hx3
    generalize w2.alloc (.cells #[.pointer (some ⟨c.lf (P.nd k), 0, none⟩), .int .i64 (P.cw (P.nd k))] 179) = W3 at *
    generalize w2.heap.size = nb at *
    have HB3 := Lib.hid hb3
    have HK3 := Lib.hid (HK.out.same hb3)
    have n0 := blk_cell hx3 0 (by simp)
    have n1 := blk_cell hx3 1 (by simp)
    simp at n0 n1
    have HN0 := Lib.hid n0
    have HN1 := Lib.hid n1
    have HCOL := Lib.hid hcol
    clear hx3 hb3 HB2 HO hcol c8
    obtain ⟨p0, p1, -, -, pf⟩ := HK3.out.spots hk
    obtain ⟨l0, -, l5, l6, -, l8⟩ := HK3.out.cells
    rw [HPC.out] at p0
    have pf0 := pf (k * 4)
    have pf1 := pf (k * 4 + 1)
    clear pf
    go_wp2_with fail
    refine (HF.out _ HK3.out).mono ?_
    rintro e w4 ⟨rfl, hf4, hm4⟩
    have h4 := HK3.out.glo hf4 hm4
    have HK4 := Lib.hid h4.1
    have HP4 := Lib.hid ((Kp.of_below HB3.out).trans h4.2)
    have m0 := (h4.2.cell (p := ⟨nb, 0, none⟩) hnb HCOL.out).trans HN0.out
    clear hf4 hm4 h4 p0 p1 l0 l5 l6 l8 pf0 pf1 n0 n1
    go_wp2_with fail
    refine (HG.out _ HK4.out).mono ?_
    rintro e w5 ⟨rfl, hf5, hm5⟩
    have h5 := HK4.out.loc hnd hf5 hm5
    simp only [HS9.out] at h5
    have HK5 := Lib.hid h5.1
    have HP5 := Lib.hid (HP4.out.trans h5.2)
    clear hf5 hm5 h5 m0
    go_wp2_with fail
    go_ret
    exact ⟨rfl, HK5.out, HP5.out⟩
  | false =>
    rw [if_neg (by decide)]
    have c8 := HK.out.cells.2.2.2.2.2
    go_enter Tryz.func173, Tryz.ntmps173
    go_upto_region 3 with (go_at_call 170; refine HO.out.mono ?_; rintro e w2 ⟨rfl, hb2⟩; have HB2 := Lib.hid hb2; clear hb2)
    have hb3 := HB2.out.trans ((below_new w2 (.cells #[.pointer (some ⟨c.lf (P.nd k), 0, none⟩), .int .i64 (P.cw (P.nd k))] 179)).mono HB2.out.size)
    have hx3 := blk_new w2 (.cells #[.pointer (some ⟨c.lf (P.nd k), 0, none⟩), .int .i64 (P.cw (P.nd k))] 179)
    have hcol := HK.out.s.fresh _ HB2.out.size
    have hnb := lt_of_blk hx3
    generalize w2.alloc (.cells #[.pointer (some ⟨c.lf (P.nd k), 0, none⟩), .int .i64 (P.cw (P.nd k))] 179) = W3 at *
    generalize w2.heap.size = nb at *
    have HB3 := Lib.hid hb3
    have HK3 := Lib.hid (HK.out.same hb3)
    have n0 := blk_cell hx3 0 (by simp)
    have n1 := blk_cell hx3 1 (by simp)
    simp at n0 n1
    have HN0 := Lib.hid n0
    have HN1 := Lib.hid n1
    have HCOL := Lib.hid hcol
    clear hx3 hb3 HB2 HO hcol c8
    obtain ⟨p0, p1, -, -, pf⟩ := HK3.out.spots hk
    obtain ⟨l0, -, l5, l6, -, l8⟩ := HK3.out.cells
    rw [HPC.out] at p0
    have pf0 := pf (k * 4)
    have pf1 := pf (k * 4 + 1)
    clear pf
    go_wp2_with fail
    refine (HF.out _ HK3.out).mono ?_
    rintro e w4 ⟨rfl, hf4, hm4⟩
    have h4 := HK3.out.glo hf4 hm4
    have HK4 := Lib.hid h4.1
    have HP4 := Lib.hid ((Kp.of_below HB3.out).trans h4.2)
    clear hf4 hm4 h4 p0 p1 l0 l5 l6 l8 pf0 pf1 n0 n1
    obtain ⟨p0, -, -, -, -⟩ := HK4.out.spots hk
    rw [HPC.out] at p0
    go_wp2_with fail
    go_ret
    exact ⟨rfl, HK4.out, HP4.out⟩
theorem out14 (h : (spOf x.S (k : Int)).pc = 14) : Calls Tryz.prog 173 #[.pointer (some ⟨c.gl, 0, none⟩), .int .i64 (k : Int)] W (AftI c P { x with σ := x.σ.op 2 (P.cw (P.nd k)) true 0, g := (doK P.pg x.σ x.g 2 (P.nd k)).2.2 } 15 W) := by
  have HO := Lib.hid (of_co K D k hk)
  have hnd := (D.nd k hk).1
  have ho : x.σ.ops ≤ 1000000 := by have := H.ops; omega
  have HK := Lib.hid K
  have HPC := Lib.hid h
  have i2 : (k : Int) < (P.T : Int) := by omega
  have HF := Lib.hid (fun W' (K' : CoAt W' c P x) => store_any c.ga c.ha x.σ W' K'.d.ar ho (P.cw (P.nd k)) 0)
  have hal := (H.op_al D hnd 2 0 true).1
  have hg1 := H.og.al hal (m' := m + 1) (by rw [op_ops]; have := H.ops; split <;> omega) (by omega)
  have HG := Lib.hid (fun W' (K' : CoAt W' c P { x with σ := x.σ.op 2 (P.cw (P.nd k)) true 0 }) => Leave_flat K'.d.fg P.NN (m + 1) hg1 (by omega) (P.nd k : Int))
  have HS9 := Lib.hid (show (doK P.pg (x.σ.op 2 (P.cw (P.nd k)) true 0) x.g 2 (P.nd k)).2.1 = x.σ.op 2 (P.cw (P.nd k)) true 0 from do12 _ _ _ (.inr rfl) _)
  have HS8 := Lib.hid (do12s P.pg x.σ (x.σ.op 2 (P.cw (P.nd k)) true 0) x.g (.inr (rfl : (2 : Int) = 2)) (P.nd k))
  rw [← HS8.out]
  clear K H h hal hg1 HS8
  generalize hdk : doK P.pg (x.σ.op 2 (P.cw (P.nd k)) true 0) x.g 2 (P.nd k) = r at *
  clear hdk
  obtain ⟨rb, rσ, rl⟩ := r
  simp only at HG HS9 ⊢
  have c8 := HK.out.cells.2.2.2.2.2
  go_enter Tryz.func173, Tryz.ntmps173
  go_upto_region 3 with (go_at_call 170; refine HO.out.mono ?_; rintro e w2 ⟨rfl, hb2⟩; have HB2 := Lib.hid hb2; clear hb2)
  have hb3 := HB2.out.trans ((below_new w2 (.cells #[.pointer (some ⟨c.lf (P.nd k), 0, none⟩), .int .i64 (P.cw (P.nd k))] 179)).mono HB2.out.size)
  have hx3 := blk_new w2 (.cells #[.pointer (some ⟨c.lf (P.nd k), 0, none⟩), .int .i64 (P.cw (P.nd k))] 179)
  have hcol := HK.out.s.fresh _ HB2.out.size
  have hnb := lt_of_blk hx3
  generalize w2.alloc (.cells #[.pointer (some ⟨c.lf (P.nd k), 0, none⟩), .int .i64 (P.cw (P.nd k))] 179) = W3 at *
  generalize w2.heap.size = nb at *
  have HB3 := Lib.hid hb3
  have HK3 := Lib.hid (HK.out.same hb3)
  have n0 := blk_cell hx3 0 (by simp)
  have n1 := blk_cell hx3 1 (by simp)
  simp at n0 n1
  have HN0 := Lib.hid n0
  have HN1 := Lib.hid n1
  have HCOL := Lib.hid hcol
  clear hx3 hb3 HB2 HO hcol c8
  obtain ⟨p0, p1, -, -, pf⟩ := HK3.out.spots hk
  obtain ⟨l0, -, l5, l6, -, l8⟩ := HK3.out.cells
  rw [HPC.out] at p0
  have pf0 := pf (k * 4)
  have pf1 := pf (k * 4 + 1)
  clear pf
  go_upto_region 18 with fail
  have SW0 : W3.drew.cell? ⟨c.gl, 0, none⟩ = some (.pointer (some ⟨c.ga, 0, none⟩)) ∧ W3.drew.cell? ⟨nb, 1, none⟩ = some (.int .i64 (P.cw (P.nd k))) := ⟨l0, n1⟩
  refine wp_region_held_drew (S := fun V => V.cell? ⟨c.gl, 0, none⟩ = some (.pointer (some ⟨c.ga, 0, none⟩)) ∧ V.cell? ⟨nb, 1, none⟩ = some (.int .i64 (P.cw (P.nd k)))) (by kernel_rfl) SW0 (fun hHeld => ?_)
  have HKd := Lib.hid (HK3.out.same (show Below W3.heap.size W3 W3.drew from Below.drew (Below.refl _ _)))
  have HBd := Lib.hid (show Below W.heap.size W W3.drew from Below.drew HB3.out)
  have hnd9 : nb < W3.drew.heap.size := hnb
  have HN1d := Lib.hid (show W3.drew.cell? ⟨nb, 1, none⟩ = some (.int .i64 (P.cw (P.nd k))) from n1)
  have HN0d := Lib.hid (show W3.drew.cell? ⟨nb, 0, none⟩ = some (.pointer (some ⟨c.lf (P.nd k), 0, none⟩)) from n0)
  clear p0 p1 l0 l5 l6 l8 pf0 pf1 n0 n1 HK3 HB3 HN0 HN1 hnb
  generalize W3.drew = X0 at *
  refine tkC 0 84 ?_
  refine tkC 1 85 ?_
  refine tkC 2 86 ?_
  refine tkC 3 87 ?_
  refine tkC 4 88 ?_
  refine tkC 5 89 ?_
  refine wpAnyH_ready (rs := [6]) (by kernel_rfl) (by simp) ?_
  refine AllReadyH.cons rfl (fun K hK => ?_) AllReadyH.nil
  go_simp
  refine (HF.out _ HKd.out).mono ?_
  rintro e w4 ⟨rfl, hf4, hm4⟩
  have h4 := HKd.out.wrd hf4 hm4
  have HK4 := Lib.hid h4.1
  have HP4 := Lib.hid ((Kp.of_below HBd.out).trans h4.2)
  have SW4 : w4.cell? ⟨c.gl, 0, none⟩ = some (.pointer (some ⟨c.ga, 0, none⟩)) ∧ w4.cell? ⟨nb, 1, none⟩ = some (.int .i64 (P.cw (P.nd k))) := ⟨HK4.out.cells.1, (h4.2.cell (p := ⟨nb, 1, none⟩) hnd9 HCOL.out).trans HN1d.out⟩
  clear hf4 hm4 h4
  go_simp
  refine hK.out _ _ SW4 (fun hHeld => ?_)
  refine wpAnyH_done (by kernel_rfl) ?_ _
  obtain ⟨-, -, -, l6, -, -⟩ := HK4.out.cells
  clear SW4
  go_wp2_with fail
  refine (HG.out _ HK4.out).mono ?_
  rintro e w6 ⟨rfl, hf6, hm6⟩
  have h6 := HK4.out.glo hf6 hm6
  simp only [HS9.out] at h6
  have HK6 := Lib.hid h6.1
  have HP6 := Lib.hid (HP4.out.trans h6.2)
  clear hf6 hm6 h6 l6
  go_wp2_with fail
  go_ret
  exact ⟨rfl, HK6.out, HP6.out⟩
end
end Go.Proofs.YtfmiioddhpkdkaaGreat.Cm

/- Package cohort: the steps by which who goes out hands on within its node. -/
namespace Go.Proofs.YtfmiioddhpkdkaaGreat.Cm
open Go.RowKit Ara Lok Fl Co


section
variable {W : World} {c : Cd} {P : Pm} {x : CS} (K : CoAt W c P x) (D : Dj P) {m : Nat} (H : CI P x m) (hm : m ≤ 99999) (k : Nat) (hk : k < P.T)
include K D H hm hk
theorem out12 (hB : Bud.right P.B = true) (h : (spOf x.S (k : Int)).pc = 12) : Calls Tryz.prog 173 #[.pointer (some ⟨c.gl, 0, none⟩), .int .i64 (k : Int)] W (AftI c P { x with σ := (doK (P.pl (P.nd k)) x.σ (x.loc (P.nd k)) 3 (P.sl k)).2.1 } (selI (passes (spOf x.S (k : Int)).a P.B (doK (P.pl (P.nd k)) x.σ (x.loc (P.nd k)) 3 (P.sl k)).1) 13 14) W) := by
  have HO := Lib.hid (of_co K D k hk)
  have hnd := (D.nd k hk).1
  have ho : x.σ.ops ≤ 1000000 := by have := H.ops; omega
  have HK := Lib.hid K
  have HPC := Lib.hid h
  have i2 : (k : Int) < (P.T : Int) := by omega
  have HF := Lib.hid (fun W' (K' : CoAt W' c P x) => Alone_flat (K'.d.fl _ hnd) (P.mt (P.nd k)) m (H.ol _ hnd) (by omega) (P.sl k : Int))
  have HU := Lib.hid (show upd x.loc (P.nd k) (doK (P.pl (P.nd k)) x.σ (x.loc (P.nd k)) 3 (P.sl k)).2.2 = x.loc from by
    funext j
    unfold upd
    split
    · rename_i h; rw [h, alone_sp]
    · rfl)
  have HPS := Lib.hid (fun (a : Int) b => show Bud.passes a P.B b = passes a P.B b by unfold Bud.passes passes Bud.inB; rw [hB, Bool.true_and])
  clear K H h hB
  generalize hdk : doK (P.pl (P.nd k)) x.σ (x.loc (P.nd k)) 3 (P.sl k) = r at *
  clear hdk
  obtain ⟨rb, rσ, rl⟩ := r
  simp only at HF HU ⊢
  generalize hav : (spOf x.S (k : Int)).a = av at *
  have HAV := Lib.hid hav
  clear hav
  have HP := Lib.hid (fun w => Bud.passes_any av P.B rb w)
  rw [HPS.out] at HP
  generalize passes av P.B rb = pb at *
  have c8 := HK.out.cells.2.2.2.2.2
  go_enter Tryz.func173, Tryz.ntmps173
  go_upto_region 3 with (go_at_call 170; refine HO.out.mono ?_; rintro e w2 ⟨rfl, hb2⟩; have HB2 := Lib.hid hb2; clear hb2)
  have hb3 := HB2.out.trans ((below_new w2 (.cells #[.pointer (some ⟨c.lf (P.nd k), 0, none⟩), .int .i64 (P.cw (P.nd k))] 179)).mono HB2.out.size)
  have hx3 := blk_new w2 (.cells #[.pointer (some ⟨c.lf (P.nd k), 0, none⟩), .int .i64 (P.cw (P.nd k))] 179)
  have hcol := HK.out.s.fresh _ HB2.out.size
  have hnb := lt_of_blk hx3
  generalize w2.alloc (.cells #[.pointer (some ⟨c.lf (P.nd k), 0, none⟩), .int .i64 (P.cw (P.nd k))] 179) = W3 at *
  generalize w2.heap.size = nb at *
  have HB3 := Lib.hid hb3
  have HK3 := Lib.hid (HK.out.same hb3)
  have n0 := blk_cell hx3 0 (by simp)
  have n1 := blk_cell hx3 1 (by simp)
  simp at n0 n1
  have HN0 := Lib.hid n0
  have HN1 := Lib.hid n1
  have HCOL := Lib.hid hcol
  clear hx3 hb3 HB2 HO hcol c8
  obtain ⟨p0, p1, -, -, pf⟩ := HK3.out.spots hk
  obtain ⟨l0, -, l5, l6, -, l8⟩ := HK3.out.cells
  rw [HPC.out] at p0
  have pf0 := pf (k * 4)
  have pf1 := pf (k * 4 + 1)
  clear pf
  rw [HAV.out] at p1
  go_upto_region 10 with fail
  have SW0 : W3.drew.cell? ⟨c.hs, k * 4 + 1, none⟩ = some (.int .i64 av) ∧ W3.drew.cell? ⟨c.gl, 5, none⟩ = some (.int .i64 P.B) ∧ W3.drew.cell? ⟨nb, 0, none⟩ = some (.pointer (some ⟨c.lf (P.nd k), 0, none⟩)) := ⟨p1, l5, n0⟩
  refine wp_region_held_drew (S := fun V => V.cell? ⟨c.hs, k * 4 + 1, none⟩ = some (.int .i64 av) ∧ V.cell? ⟨c.gl, 5, none⟩ = some (.int .i64 P.B) ∧ V.cell? ⟨nb, 0, none⟩ = some (.pointer (some ⟨c.lf (P.nd k), 0, none⟩))) (by kernel_rfl) SW0 (fun hHeld => ?_)
  have HKd := Lib.hid (HK3.out.same (show Below W3.heap.size W3 W3.drew from Below.drew (Below.refl _ _)))
  have HBd := Lib.hid (show Below W.heap.size W W3.drew from Below.drew HB3.out)
  have hnd9 : nb < W3.drew.heap.size := hnb
  have HN1d := Lib.hid (show W3.drew.cell? ⟨nb, 1, none⟩ = some (.int .i64 (P.cw (P.nd k))) from n1)
  have HN0d := Lib.hid (show W3.drew.cell? ⟨nb, 0, none⟩ = some (.pointer (some ⟨c.lf (P.nd k), 0, none⟩)) from n0)
  clear p0 p1 l0 l5 l6 l8 pf0 pf1 n0 n1 HK3 HB3 HN0 HN1 hnb
  generalize W3.drew = X0 at *
  refine tkC 0 50 ?_
  refine tkC 1 51 ?_
  refine tkC 2 52 ?_
  refine tkC 3 53 ?_
  refine tkC 4 54 ?_
  refine tkC 5 55 ?_
  refine tkC 6 56 ?_
  refine tkC 7 57 ?_
  refine tkC 8 58 ?_
  refine tkC 9 59 ?_
  refine tkC 10 60 ?_
  refine tkC 11 61 ?_
  refine wpAnyH_ready (rs := [12]) (by kernel_rfl) (by simp) ?_
  refine AllReadyH.cons rfl (fun K hK => ?_) AllReadyH.nil
  go_simp
  refine (HF.out _ HKd.out).mono ?_
  rintro e w4 ⟨rfl, hf4, hm4⟩
  have h4 := HKd.out.loc hnd hf4 hm4
  rw [HU.out] at h4
  have HK4 := Lib.hid h4.1
  have HP4 := Lib.hid ((Kp.of_below HBd.out).trans h4.2)
  have q1 := HK4.out.spots hk
  have SW4 : w4.cell? ⟨c.hs, k * 4 + 1, none⟩ = some (.int .i64 av) ∧ w4.cell? ⟨c.gl, 5, none⟩ = some (.int .i64 P.B) ∧ w4.cell? ⟨nb, 0, none⟩ = some (.pointer (some ⟨c.lf (P.nd k), 0, none⟩)) := ⟨by rw [← HAV.out]; exact q1.2.1, HK4.out.cells.2.2.1, (h4.2.cell (p := ⟨nb, 0, none⟩) hnd9 HCOL.out).trans HN0d.out⟩
  clear hf4 hm4 h4 q1
  go_simp
  refine hK.out _ _ SW4 (fun hHeld => ?_)
  refine wpAnyH_ready (rs := [13]) (by kernel_rfl) (by simp) ?_
  refine AllReadyH.cons rfl (fun K hK => ?_) AllReadyH.nil
  go_simp
  refine (HP.out _).mono ?_
  rintro e w5 ⟨rfl, hw5⟩
  obtain rfl := hw5.symm
  go_simp
  refine hK.out _ _ SW4 (fun hHeld => ?_)
  refine wpAnyH_done (by kernel_rfl) ?_ _
  clear SW4
  cases pb with
  | true =>
    go_wp2_with fail
    go_ret
    exact ⟨rfl, HK4.out, HP4.out⟩
  | false =>
    go_wp2_with fail
    go_ret
    exact ⟨rfl, HK4.out, HP4.out⟩
theorem out13 (hB : Bud.right P.B = true) (h : (spOf x.S (k : Int)).pc = 13) : Calls Tryz.prog 173 #[.pointer (some ⟨c.gl, 0, none⟩), .int .i64 (k : Int)] W (AftI c P { x with σ := x.σ.op 2 (P.cw (P.nd k)) true ((spOf x.S (k : Int)).a + 1), loc := upd x.loc (P.nd k) (doK (P.pl (P.nd k)) x.σ (x.loc (P.nd k)) 2 (P.sl k)).2.2 } 16 W) := by
  have HO := Lib.hid (of_co K D k hk)
  have hnd := (D.nd k hk).1
  have ho : x.σ.ops ≤ 1000000 := by have := H.ops; omega
  have HK := Lib.hid K
  have HPC := Lib.hid h
  have i2 : (k : Int) < (P.T : Int) := by omega
  have h' : pcT x k = 13 := h
  have hN := H.nod k hk
  unfold nodP at hN
  have hB9 := (Bud.right_iff.1 hB).2
  have hc := hN.2.2.1 (by omega)
  have hac := hN.2.2.2.2.1 (by omega)
  have ha0 : 0 ≤ (spOf x.S (k : Int)).a := by omega
  have ha1 : (spOf x.S (k : Int)).a ≤ 1000 := by omega
  generalize hav : (spOf x.S (k : Int)).a = av at *
  have HAV := Lib.hid hav
  clear hav hc hac hN hB9 hB h'
  have HF := Lib.hid (fun W' (K' : CoAt W' c P x) => store_any c.ga c.ha x.σ W' K'.d.ar ho (P.cw (P.nd k)) (av + 1))
  have hal := (H.op_al D hnd 2 (av + 1) true).2.1 _ hnd
  have hg1 := (H.ol _ hnd).al hal (m' := m + 1) (by rw [op_ops]; have := H.ops; split <;> omega) (by omega)
  have HG := Lib.hid (fun W' (K' : CoAt W' c P { x with σ := x.σ.op 2 (P.cw (P.nd k)) true (av + 1) }) => Leave_flat (K'.d.fl _ hnd) (P.mt (P.nd k)) (m + 1) hg1 (by omega) (P.sl k : Int))
  have HS9 := Lib.hid (show (doK (P.pl (P.nd k)) (x.σ.op 2 (P.cw (P.nd k)) true (av + 1)) (x.loc (P.nd k)) 2 (P.sl k)).2.1 = x.σ.op 2 (P.cw (P.nd k)) true (av + 1) from do12 _ _ _ (.inr rfl) _)
  have HS8 := Lib.hid (do12s (P.pl (P.nd k)) x.σ (x.σ.op 2 (P.cw (P.nd k)) true (av + 1)) (x.loc (P.nd k)) (.inr (rfl : (2 : Int) = 2)) (P.sl k))
  rw [← HS8.out]
  clear K H h hal hg1 HS8
  generalize hdk : doK (P.pl (P.nd k)) (x.σ.op 2 (P.cw (P.nd k)) true (av + 1)) (x.loc (P.nd k)) 2 (P.sl k) = r at *
  clear hdk
  obtain ⟨rb, rσ, rl⟩ := r
  simp only at HG HS9 ⊢
  have c8 := HK.out.cells.2.2.2.2.2
  go_enter Tryz.func173, Tryz.ntmps173
  go_upto_region 3 with (go_at_call 170; refine HO.out.mono ?_; rintro e w2 ⟨rfl, hb2⟩; have HB2 := Lib.hid hb2; clear hb2)
  have hb3 := HB2.out.trans ((below_new w2 (.cells #[.pointer (some ⟨c.lf (P.nd k), 0, none⟩), .int .i64 (P.cw (P.nd k))] 179)).mono HB2.out.size)
  have hx3 := blk_new w2 (.cells #[.pointer (some ⟨c.lf (P.nd k), 0, none⟩), .int .i64 (P.cw (P.nd k))] 179)
  have hcol := HK.out.s.fresh _ HB2.out.size
  have hnb := lt_of_blk hx3
  generalize w2.alloc (.cells #[.pointer (some ⟨c.lf (P.nd k), 0, none⟩), .int .i64 (P.cw (P.nd k))] 179) = W3 at *
  generalize w2.heap.size = nb at *
  have HB3 := Lib.hid hb3
  have HK3 := Lib.hid (HK.out.same hb3)
  have n0 := blk_cell hx3 0 (by simp)
  have n1 := blk_cell hx3 1 (by simp)
  simp at n0 n1
  have HN0 := Lib.hid n0
  have HN1 := Lib.hid n1
  have HCOL := Lib.hid hcol
  clear hx3 hb3 HB2 HO hcol c8
  obtain ⟨p0, p1, -, -, pf⟩ := HK3.out.spots hk
  obtain ⟨l0, -, l5, l6, -, l8⟩ := HK3.out.cells
  rw [HPC.out] at p0
  have pf0 := pf (k * 4)
  have pf1 := pf (k * 4 + 1)
  clear pf
  rw [HAV.out] at p1
  go_upto_region 14 with fail
  have SW0 : W3.drew.cell? ⟨c.gl, 0, none⟩ = some (.pointer (some ⟨c.ga, 0, none⟩)) ∧ W3.drew.cell? ⟨nb, 1, none⟩ = some (.int .i64 (P.cw (P.nd k))) ∧ W3.drew.cell? ⟨c.hs, k * 4 + 1, none⟩ = some (.int .i64 av) := ⟨l0, n1, p1⟩
  refine wp_region_held_drew (S := fun V => V.cell? ⟨c.gl, 0, none⟩ = some (.pointer (some ⟨c.ga, 0, none⟩)) ∧ V.cell? ⟨nb, 1, none⟩ = some (.int .i64 (P.cw (P.nd k))) ∧ V.cell? ⟨c.hs, k * 4 + 1, none⟩ = some (.int .i64 av)) (by kernel_rfl) SW0 (fun hHeld => ?_)
  have HKd := Lib.hid (HK3.out.same (show Below W3.heap.size W3 W3.drew from Below.drew (Below.refl _ _)))
  have HBd := Lib.hid (show Below W.heap.size W W3.drew from Below.drew HB3.out)
  have hnd9 : nb < W3.drew.heap.size := hnb
  have HN1d := Lib.hid (show W3.drew.cell? ⟨nb, 1, none⟩ = some (.int .i64 (P.cw (P.nd k))) from n1)
  have HN0d := Lib.hid (show W3.drew.cell? ⟨nb, 0, none⟩ = some (.pointer (some ⟨c.lf (P.nd k), 0, none⟩)) from n0)
  clear p0 p1 l0 l5 l6 l8 pf0 pf1 n0 n1 HK3 HB3 HN0 HN1 hnb
  generalize W3.drew = X0 at *
  refine tkC 0 66 ?_
  refine tkC 1 67 ?_
  refine tkC 2 68 ?_
  refine tkC 3 69 ?_
  refine tkC 4 70 ?_
  refine tkC 5 71 ?_
  refine tkC 6 72 ?_
  refine tkC 7 73 ?_
  refine tkC 8 74 ?_
  refine tkC 9 75 ?_
  refine tkC 10 76 ?_
  refine wpAnyH_ready (rs := [11]) (by kernel_rfl) (by simp) ?_
  refine AllReadyH.cons rfl (fun K hK => ?_) AllReadyH.nil
  go_simp
  rw [show IntKind.i64.wrap (av + 1) = av + 1 from IntWalk.i64_in _ (by omega)]
  refine (HF.out _ HKd.out).mono ?_
  rintro e w4 ⟨rfl, hf4, hm4⟩
  have h4 := HKd.out.wrd hf4 hm4
  have HK4 := Lib.hid h4.1
  have HP4 := Lib.hid ((Kp.of_below HBd.out).trans h4.2)
  have m0 := (h4.2.cell (p := ⟨nb, 0, none⟩) hnd9 HCOL.out).trans HN0d.out
  have q1 := HK4.out.spots hk
  have SW4 : w4.cell? ⟨c.gl, 0, none⟩ = some (.pointer (some ⟨c.ga, 0, none⟩)) ∧ w4.cell? ⟨nb, 1, none⟩ = some (.int .i64 (P.cw (P.nd k))) ∧ w4.cell? ⟨c.hs, k * 4 + 1, none⟩ = some (.int .i64 av) := ⟨HK4.out.cells.1, (h4.2.cell (p := ⟨nb, 1, none⟩) hnd9 HCOL.out).trans HN1d.out, by rw [← HAV.out]; exact q1.2.1⟩
  clear hf4 hm4 h4 q1
  go_simp
  refine hK.out _ _ SW4 (fun hHeld => ?_)
  refine wpAnyH_done (by kernel_rfl) ?_ _
  clear SW4
  go_wp2_with fail
  refine (HG.out _ HK4.out).mono ?_
  rintro e w6 ⟨rfl, hf6, hm6⟩
  have h6 := HK4.out.loc hnd hf6 hm6
  simp only [HS9.out] at h6
  have HK6 := Lib.hid h6.1
  have HP6 := Lib.hid (HP4.out.trans h6.2)
  clear hf6 hm6 h6 m0
  go_wp2_with fail
  go_ret
  exact ⟨rfl, HK6.out, HP6.out⟩
end
end Go.Proofs.YtfmiioddhpkdkaaGreat.Cm

/- Package cohort: Step; an act of a law. -/
namespace Go.Proofs.YtfmiioddhpkdkaaGreat.Cm
open Go.RowKit Ara Lok Fl Co

theorem set_self' {S : List Sp} {k : Nat} (hk : k < S.length) : S.set k (spOf S (k : Int)) = S := by
  rw [spOf_in hk]
  exact List.set_getElem_self hk
section
variable {W : World} {c : Cd} {P : Pm} {x : CS} (K : CoAt W c P x)
include K
theorem step_via (x' xm : CS) (nx : Int) (k : Nat) (hk : k < P.T) (hne : ¬ ((spOf x.S (k : Int)).pc = 0 ∨ (spOf x.S (k : Int)).pc = 10)) (hS : ({ xm with S := xm.S.set k { spOf xm.S (k : Int) with pc := nx } } : CS) = x') (hl : xm.S.length = P.T)
    (HI : (spOf x.S (k : Int)).pc < 10 → ∀ W', CoAt W' c P x → Calls Tryz.prog 172 #[.pointer (some ⟨c.gl, 0, none⟩), .int .i64 (k : Int)] W' (AftI c P xm nx W'))
    (HU : ¬ (spOf x.S (k : Int)).pc < 10 → ∀ W', CoAt W' c P x → Calls Tryz.prog 173 #[.pointer (some ⟨c.gl, 0, none⟩), .int .i64 (k : Int)] W' (AftI c P xm nx W')) :
    Calls Tryz.prog 167 #[.pointer (some ⟨c.gl, 0, none⟩), .int .i64 (k : Int)] W (Aft c P x' (decide (nx = 10) || decide (nx = 0)) W) := by
  have HS := Lib.hid (spot_co K (k : Int))
  have q1 := fun a b c d W => fld0 a b c d W
  have i2 : (k : Int) < (P.T : Int) := by omega
  have HK := Lib.hid K
  have HX := Lib.hid hS
  have HPC := Lib.hid (show (spOf x'.S (k : Int)).pc = nx by rw [← hS]; show (spOf (xm.S.set k _) (k : Int)).pc = nx; rw [set_t (by omega)])
  have e0 : ¬ (spOf x.S (k : Int)).pc = 0 := fun h => hne (.inl h)
  have e1 : ¬ (spOf x.S (k : Int)).pc = 10 := fun h => hne (.inr h)
  clear K hS hne
  by_cases hlt : (spOf x.S (k : Int)).pc < 10
  · have HC := Lib.hid (HI hlt)
    clear HI HU
    generalize spOf x.S (k : Int) = s at *
    obtain ⟨xp, xa, xb, xc⟩ := s
    simp only at HS e0 e1 hlt
    have g0 := ibeq_no e0
    have g1 := ibeq_no e1
    go_enter Tryz.func167, Tryz.ntmps167
    go_wp2_with fail
    refine HS.out.mono ?_
    rintro e w2 ⟨rfl, hb⟩
    have HB2 := Lib.hid hb
    have HK2 := Lib.hid (HK.out.same hb)
    have l8 := HK2.out.cells.2.2.2.2.2
    clear hb HS HK
    go_upto_region 6 with fail
    have SW0 : w2.drew.cell? ⟨c.gl, 8, none⟩ = some (.slice (some ⟨c.hs, 0, none⟩) P.T P.T) := l8
    refine wp_region_held_drew (S := fun V => V.cell? ⟨c.gl, 8, none⟩ = some (.slice (some ⟨c.hs, 0, none⟩) P.T P.T)) (by kernel_rfl) SW0 (fun hHeld => ?_)
    have HKd := Lib.hid (HK2.out.same (show Below w2.heap.size w2 w2.drew from Below.drew (Below.refl _ _)))
    have HBd := Lib.hid (show Below W.heap.size W w2.drew from Below.drew HB2.out)
    clear l8 HK2 HB2
    generalize w2.drew = X0 at *
    refine tkC 0 31 ?_
    refine tkC 1 32 ?_
    refine tkC 2 33 ?_
    refine tkC 3 34 ?_
    refine tkC 4 35 ?_
    refine tkC 5 36 ?_
    refine tkC 6 37 ?_
    refine wpAnyH_ready (rs := [7]) (by kernel_rfl) (by simp) ?_
    refine AllReadyH.cons rfl (fun K hK => ?_) AllReadyH.nil
    go_simp
    refine (HC.out _ HKd.out).mono ?_
    rintro e w4 ⟨rfl, hk4, hp4⟩
    have HK4 := Lib.hid hk4
    have HP4 := Lib.hid ((Kp.of_below HBd.out).trans hp4)
    have SW4 := HK4.out.cells.2.2.2.2.2
    obtain ⟨p0, -, -, -, pf⟩ := HK4.out.spots hk
    have pf0 := pf (k * 4)
    have hF := HK4.out.spot hk 0 (by omega) (.int .i64 nx) { spOf xm.S (k : Int) with pc := nx } rfl
    rw [HX.out] at hF
    have HF9 := Lib.hid hF
    have SW5 := hF.1.cells.2.2.2.2.2
    clear hk4 hp4 pf hF
    go_simp
    refine hK.out _ _ SW4 (fun hHeld => ?_)
    refine tkC 8 39 ?_
    refine tkC 9 40 ?_
    refine wpAnyH_ready (rs := [10]) (by kernel_rfl) (by simp) ?_
    refine AllReadyH.cons rfl (fun K hK => ?_) AllReadyH.nil
    go_simp
    refine hK.out _ _ SW5 (fun hHeld => ?_)
    refine wpAnyH_done (by kernel_rfl) ?_ _
    obtain ⟨p0, -, -, -, -⟩ := HF9.out.1.spots hk
    have l8 := SW5
    rw [HPC.out] at p0
    have HP9 := Lib.hid (HP4.out.trans HF9.out.2)
    have HK9 := Lib.hid HF9.out.1
    clear SW4 SW5 HF9 HP4 HK4 pf0
    generalize w4.setCell ⟨c.hs, k * 4, none⟩ (.int .i64 nx) = W5 at *
    by_cases t1 : nx = 10
    · have g9 := ibeq t1
      have HV := Lib.hid (show (decide (nx = 10) || decide (nx = 0)) = true by rw [decide_eq_true t1]; rfl)
      clear t1
      go_wp2_with fail
      go_ret
      exact ⟨by rw [HV.out]; rfl, HK9.out, HP9.out⟩
    · have g9 := ibeq_no t1
      by_cases t2 : nx = 0
      · have g8 := ibeq t2
        have HV := Lib.hid (show (decide (nx = 10) || decide (nx = 0)) = true by rw [decide_eq_true t2, Bool.or_true])
        clear t1 t2
        go_wp2_with fail
        go_ret
        exact ⟨by rw [HV.out]; rfl, HK9.out, HP9.out⟩
      · have g8 := ibeq_no t2
        have HV := Lib.hid (show (decide (nx = 10) || decide (nx = 0)) = false by rw [decide_eq_false t1, decide_eq_false t2]; rfl)
        clear t1 t2
        go_wp2_with fail
        go_ret
        exact ⟨by rw [HV.out]; rfl, HK9.out, HP9.out⟩
  · have HC := Lib.hid (HU hlt)
    clear HI HU
    generalize spOf x.S (k : Int) = s at *
    obtain ⟨xp, xa, xb, xc⟩ := s
    simp only at HS e0 e1 hlt
    have g0 := ibeq_no e0
    have g1 := ibeq_no e1
    go_enter Tryz.func167, Tryz.ntmps167
    go_wp2_with fail
    refine HS.out.mono ?_
    rintro e w2 ⟨rfl, hb⟩
    have HB2 := Lib.hid hb
    have HK2 := Lib.hid (HK.out.same hb)
    have l8 := HK2.out.cells.2.2.2.2.2
    clear hb HS HK
    go_upto_region 2 with fail
    have SW0 : w2.drew.cell? ⟨c.gl, 8, none⟩ = some (.slice (some ⟨c.hs, 0, none⟩) P.T P.T) := l8
    refine wp_region_held_drew (S := fun V => V.cell? ⟨c.gl, 8, none⟩ = some (.slice (some ⟨c.hs, 0, none⟩) P.T P.T)) (by kernel_rfl) SW0 (fun hHeld => ?_)
    have HKd := Lib.hid (HK2.out.same (show Below w2.heap.size w2 w2.drew from Below.drew (Below.refl _ _)))
    have HBd := Lib.hid (show Below W.heap.size W w2.drew from Below.drew HB2.out)
    clear l8 HK2 HB2
    generalize w2.drew = X0 at *
    refine tkC 0 11 ?_
    refine tkC 1 12 ?_
    refine tkC 2 13 ?_
    refine tkC 3 14 ?_
    refine tkC 4 15 ?_
    refine tkC 5 16 ?_
    refine tkC 6 17 ?_
    refine wpAnyH_ready (rs := [7]) (by kernel_rfl) (by simp) ?_
    refine AllReadyH.cons rfl (fun K hK => ?_) AllReadyH.nil
    go_simp
    refine (HC.out _ HKd.out).mono ?_
    rintro e w4 ⟨rfl, hk4, hp4⟩
    have HK4 := Lib.hid hk4
    have HP4 := Lib.hid ((Kp.of_below HBd.out).trans hp4)
    have SW4 := HK4.out.cells.2.2.2.2.2
    obtain ⟨p0, -, -, -, pf⟩ := HK4.out.spots hk
    have pf0 := pf (k * 4)
    have hF := HK4.out.spot hk 0 (by omega) (.int .i64 nx) { spOf xm.S (k : Int) with pc := nx } rfl
    rw [HX.out] at hF
    have HF9 := Lib.hid hF
    have SW5 := hF.1.cells.2.2.2.2.2
    clear hk4 hp4 pf hF
    go_simp
    refine hK.out _ _ SW4 (fun hHeld => ?_)
    refine tkC 8 19 ?_
    refine tkC 9 20 ?_
    refine wpAnyH_ready (rs := [10]) (by kernel_rfl) (by simp) ?_
    refine AllReadyH.cons rfl (fun K hK => ?_) AllReadyH.nil
    go_simp
    refine hK.out _ _ SW5 (fun hHeld => ?_)
    refine wpAnyH_done (by kernel_rfl) ?_ _
    obtain ⟨p0, -, -, -, -⟩ := HF9.out.1.spots hk
    have l8 := SW5
    rw [HPC.out] at p0
    have HP9 := Lib.hid (HP4.out.trans HF9.out.2)
    have HK9 := Lib.hid HF9.out.1
    clear SW4 SW5 HF9 HP4 HK4 pf0
    generalize w4.setCell ⟨c.hs, k * 4, none⟩ (.int .i64 nx) = W5 at *
    by_cases t1 : nx = 10
    · have g9 := ibeq t1
      have HV := Lib.hid (show (decide (nx = 10) || decide (nx = 0)) = true by rw [decide_eq_true t1]; rfl)
      clear t1
      go_wp2_with fail
      go_ret
      exact ⟨by rw [HV.out]; rfl, HK9.out, HP9.out⟩
    · have g9 := ibeq_no t1
      by_cases t2 : nx = 0
      · have g8 := ibeq t2
        have HV := Lib.hid (show (decide (nx = 10) || decide (nx = 0)) = true by rw [decide_eq_true t2, Bool.or_true])
        clear t1 t2
        go_wp2_with fail
        go_ret
        exact ⟨by rw [HV.out]; rfl, HK9.out, HP9.out⟩
      · have g8 := ibeq_no t2
        have HV := Lib.hid (show (decide (nx = 10) || decide (nx = 0)) = false by rw [decide_eq_false t1, decide_eq_false t2]; rfl)
        clear t1 t2
        go_wp2_with fail
        go_ret
        exact ⟨by rw [HV.out]; rfl, HK9.out, HP9.out⟩
theorem step_rest (i : Int) (h : (spOf x.S i).pc = 0 ∨ (spOf x.S i).pc = 10) : Calls Tryz.prog 167 #[.pointer (some ⟨c.gl, 0, none⟩), .int .i64 i] W (Aft c P x false W) := by
  have HS := Lib.hid (spot_co K i)
  have q1 := fun a b c d W => fld0 a b c d W
  have HA := Lib.hid (fun (e : Ending) w' (he : e = .returned (.bool false)) (h : Below W.heap.size W w') => Aft.self K he h)
  clear K
  generalize spOf x.S i = s at *
  obtain ⟨xp, xa, xb, xc⟩ := s
  simp only at HS h
  by_cases e0 : xp = 0
  · have g0 := ibeq e0
    clear h
    go_enter Tryz.func167, Tryz.ntmps167
    go_wp2_with fail
    refine HS.out.mono ?_
    rintro e w2 ⟨rfl, hb⟩
    go_wp2_with fail
    go_ret
    exact HA.out _ _ rfl hb
  · have e1 : xp = 10 := h.resolve_left e0
    have g0 := ibeq_no e0
    have g1 := ibeq e1
    clear h
    go_enter Tryz.func167, Tryz.ntmps167
    go_wp2_with fail
    refine HS.out.mono ?_
    rintro e w2 ⟨rfl, hb⟩
    go_wp2_with fail
    go_ret
    exact HA.out _ _ rfl hb
end
end Go.Proofs.YtfmiioddhpkdkaaGreat.Cm

/- Package cohort: Step, whatever the thread is at; an act of a law. -/
namespace Go.Proofs.YtfmiioddhpkdkaaGreat.Cm
open Go.RowKit Ara Lok Fl Co

theorem sel_set {S : List Sp} {k : Nat} (hk : k < S.length) (b : Bool) (p q : Int) (h : (spOf S (k : Int)).pc = q) : S.set k { spOf S (k : Int) with pc := selI b p q } = if b then S.set k { spOf S (k : Int) with pc := p } else S := by
  cases b with
  | true => rfl
  | false =>
    rw [if_neg (by decide)]
    show S.set k { spOf S (k : Int) with pc := q } = S
    rw [← h]
    exact set_self' hk
theorem set_two {S : List Sp} {k : Nat} (hk : k < S.length) (s1 : Sp) (nx : Int) : (S.set k s1).set k { spOf (S.set k s1) (k : Int) with pc := nx } = S.set k { s1 with pc := nx } := by
  rw [set_t hk, List.set_set]
theorem stepB_eq {P : Pm} {x : CS} {k : Nat} (hne : ¬ ((spOf x.S (k : Int)).pc = 0 ∨ (spOf x.S (k : Int)).pc = 10)) {nx : Int} (h : (spOf (stepC P x (k : Int)).S (k : Int)).pc = nx) : stepB P x (k : Int) = (decide (nx = 10) || decide (nx = 0)) := by
  unfold stepB
  rw [decide_eq_true hne, Bool.true_and, h]
section
variable {W : World} {c : Cd} {P : Pm} {x : CS} (K : CoAt W c P x) (D : Dj P) {m : Nat} (H : CI P x m) (hm : m ≤ 99999) (hB : Bud.right P.B = true)
include K D H hm hB
theorem step_co (i : Int) : Calls Tryz.prog 167 #[.pointer (some ⟨c.gl, 0, none⟩), .int .i64 i] W (Aft c P (stepC P x i) (stepB P x i) W) := by
  by_cases hr : (spOf x.S i).pc = 0 ∨ (spOf x.S i).pc = 10
  · have e1 : stepC P x i = x := by unfold stepC; rw [if_pos hr]
    have e2 : stepB P x i = false := by unfold stepB; rw [decide_eq_false (fun h => h hr), Bool.false_and]
    rw [e1, e2]
    exact step_rest K i hr
  · obtain ⟨k, rfl, hk⟩ := H.rngT (fun h => hr (.inl h))
    have hl : k < x.S.length := by rw [K.len]; exact hk
    have hrel := H.rel k hk
    unfold relP at hrel
    have key : ∀ (xm : CS) (nx : Int), xm.S.length = P.T → ({ xm with S := xm.S.set k { spOf xm.S (k : Int) with pc := nx } } : CS) = stepC P x (k : Int) →
        ((spOf x.S (k : Int)).pc < 10 → ∀ W', CoAt W' c P x → Calls Tryz.prog 172 #[.pointer (some ⟨c.gl, 0, none⟩), .int .i64 (k : Int)] W' (AftI c P xm nx W')) →
        (¬ (spOf x.S (k : Int)).pc < 10 → ∀ W', CoAt W' c P x → Calls Tryz.prog 173 #[.pointer (some ⟨c.gl, 0, none⟩), .int .i64 (k : Int)] W' (AftI c P xm nx W')) →
        Calls Tryz.prog 167 #[.pointer (some ⟨c.gl, 0, none⟩), .int .i64 (k : Int)] W (Aft c P (stepC P x (k : Int)) (stepB P x (k : Int)) W) := by
      intro xm nx h1 h2 h3 h4
      rw [stepB_eq hr (nx := nx) (by rw [← h2]; show (spOf (xm.S.set k _) (k : Int)).pc = nx; rw [set_t (by omega)])]
      exact step_via K _ xm nx k hk hr h2 h1 h3 h4
    have hstep : ∀ (x' : CS), x' = (if pcT x k < 10 then inC P x k (spOf x.S (k : Int)) else outC P x k (spOf x.S (k : Int))) → x' = stepC P x (k : Int) := by
      intro x' h
      rw [h]
      unfold stepC
      rw [if_neg hr, Int.toNat_natCast]
    rcases (show pcT x k = 1 ∨ pcT x k = 2 ∨ pcT x k = 3 ∨ pcT x k = 4 ∨ pcT x k = 11 ∨ pcT x k = 12 ∨ pcT x k = 13 ∨ pcT x k = 14 ∨ pcT x k = 15 ∨ pcT x k = 16 by
      have h0 : ¬ (pcT x k = 0 ∨ pcT x k = 10) := hr
      omega) with e | e | e | e | e | e | e | e | e | e
    · refine key _ _ ?_ (hstep _ ?_) (fun _ W' K' => in1 K' D H (by omega) k hk e) (fun h => absurd (show pcT x k < 10 by omega) h)
      · exact K.len
      · rw [if_pos (by omega)]
        unfold inC
        rw [if_pos e]
        show (⟨_, _, _, x.S.set k { spOf x.S (k : Int) with pc := selI _ 2 1 }⟩ : CS) = _
        rw [sel_set hl _ 2 1 e]
    · by_cases hc : 0 < x.σ.get (P.cw (P.nd k))
      · refine key _ _ ?_ (hstep _ ?_) (fun _ W' K' => in2a K' D H hm k hk e hc) (fun h => absurd (show pcT x k < 10 by omega) h)
        · show (x.S.set k _).length = _; rw [List.length_set]; exact K.len
        · rw [if_pos (by omega)]
          unfold inC
          rw [if_neg (by show ¬ pcT x k = 1; omega), if_pos e, if_pos hc]
          show (⟨_, _, _, (x.S.set k _).set k { spOf (x.S.set k _) (k : Int) with pc := 10 }⟩ : CS) = _
          rw [set_two hl]
      · refine key _ _ ?_ (hstep _ ?_) (fun _ W' K' => in2b K' D H hm k hk e hc) (fun h => absurd (show pcT x k < 10 by omega) h)
        · show (x.S.set k _).length = _; rw [List.length_set]; exact K.len
        · rw [if_pos (by omega)]
          unfold inC
          rw [if_neg (by show ¬ pcT x k = 1; omega), if_pos e, if_neg hc]
          show (⟨_, _, _, (x.S.set k _).set k { spOf (x.S.set k _) (k : Int) with pc := 3 }⟩ : CS) = _
          rw [set_two hl]
    · refine key _ _ ?_ (hstep _ ?_) (fun _ W' K' => in3 K' D H (by omega) k hk e) (fun h => absurd (show pcT x k < 10 by omega) h)
      · exact K.len
      · rw [if_pos (by omega)]
        unfold inC
        rw [if_neg (by show ¬ pcT x k = 1; omega), if_neg (by show ¬ pcT x k = 2; omega), if_pos e]
        show (⟨_, _, _, x.S.set k { spOf x.S (k : Int) with pc := selI _ 4 3 }⟩ : CS) = _
        rw [sel_set hl _ 4 3 e]
    · refine key _ _ ?_ (hstep _ ?_) (fun _ W' K' => in4 K' D H (by omega) k hk e) (fun h => absurd (show pcT x k < 10 by omega) h)
      · show (x.S.set k _).length = _; rw [List.length_set]; exact K.len
      · rw [if_pos (by omega)]
        unfold inC
        rw [if_neg (by show ¬ pcT x k = 1; omega), if_neg (by show ¬ pcT x k = 2; omega), if_neg (by show ¬ pcT x k = 3; omega), if_pos e]
        show (⟨_, _, _, (x.S.set k _).set k { spOf (x.S.set k _) (k : Int) with pc := 10 }⟩ : CS) = _
        rw [set_two hl]
    · refine key _ _ ?_ (hstep _ ?_) (fun h => absurd h (show ¬ pcT x k < 10 by omega)) (fun _ W' K' => out11 K' D H hm k hk e)
      · show (x.S.set k _).length = _; rw [List.length_set]; exact K.len
      · rw [if_neg (by omega)]
        unfold outC
        rw [if_pos e]
        show (⟨_, _, _, (x.S.set k _).set k { spOf (x.S.set k _) (k : Int) with pc := selI (decide (P.B < x.σ.get (P.cw (P.nd k)))) 14 12 }⟩ : CS) = _
        rw [set_two hl]
        by_cases h9 : P.B < x.σ.get (P.cw (P.nd k))
        · rw [decide_eq_true h9, if_pos h9]; rfl
        · rw [decide_eq_false h9, if_neg h9]; rfl
    · refine key _ _ ?_ (hstep _ ?_) (fun h => absurd h (show ¬ pcT x k < 10 by omega)) (fun _ W' K' => out12 K' D H hm k hk hB e)
      · exact K.len
      · rw [if_neg (by omega)]
        unfold outC
        rw [if_neg (by show ¬ pcT x k = 11; omega), if_pos e]
        rfl
    · refine key _ _ ?_ (hstep _ ?_) (fun h => absurd h (show ¬ pcT x k < 10 by omega)) (fun _ W' K' => out13 K' D H hm k hk hB e)
      · exact K.len
      · rw [if_neg (by omega)]
        unfold outC
        rw [if_neg (by show ¬ pcT x k = 11; omega), if_neg (by show ¬ pcT x k = 12; omega), if_pos e]
    · refine key _ _ ?_ (hstep _ ?_) (fun h => absurd h (show ¬ pcT x k < 10 by omega)) (fun _ W' K' => out14 K' D H hm k hk e)
      · exact K.len
      · rw [if_neg (by omega)]
        unfold outC
        rw [if_neg (by show ¬ pcT x k = 11; omega), if_neg (by show ¬ pcT x k = 12; omega), if_neg (by show ¬ pcT x k = 13; omega), if_pos e]
    · refine key _ _ ?_ (hstep _ ?_) (fun h => absurd h (show ¬ pcT x k < 10 by omega)) (fun _ W' K' => out15 K' D H hm k hk e)
      · exact K.len
      · have hq : (if pcT x k < 10 then inC P x k (spOf x.S (k : Int)) else outC P x k (spOf x.S (k : Int))) = outC P x k (spOf x.S (k : Int)) := if_neg (by omega)
        rw [hq]
        unfold outC
        cases hb : (doK P.pg x.σ x.g 0 (P.nd k)).1 with
        | true =>
          rw [if_pos rfl, if_neg (by show ¬ pcT x k = 11; omega), if_neg (by show ¬ pcT x k = 12; omega), if_neg (by show ¬ pcT x k = 13; omega), if_neg (by show ¬ pcT x k = 14; omega), if_pos e, if_pos rfl]
          rfl
        | false =>
          rw [if_neg (by decide), if_neg (by show ¬ pcT x k = 11; omega), if_neg (by show ¬ pcT x k = 12; omega), if_neg (by show ¬ pcT x k = 13; omega), if_neg (by show ¬ pcT x k = 14; omega), if_pos e, if_neg (by decide)]
          show (⟨_, _, _, x.S.set k { spOf x.S (k : Int) with pc := selI false 16 15 }⟩ : CS) = _
          rw [sel_set hl _ 16 15 e]
          rfl
    · refine key _ _ ?_ (hstep _ ?_) (fun h => absurd h (show ¬ pcT x k < 10 by omega)) (fun _ W' K' => out16 K' D H hm k hk e)
      · exact K.len
      · rw [if_neg (by omega)]
        unfold outC
        rw [if_neg (by show ¬ pcT x k = 11; omega), if_neg (by show ¬ pcT x k = 12; omega), if_neg (by show ¬ pcT x k = 13; omega), if_neg (by show ¬ pcT x k = 14; omega), if_neg (by show ¬ pcT x k = 15; omega), if_pos e]
        show (⟨_, _, _, x.S.set k { spOf x.S (k : Int) with pc := selI _ 0 16 }⟩ : CS) = _
        rw [sel_set hl _ 0 16 e]
end
end Go.Proofs.YtfmiioddhpkdkaaGreat.Cm

