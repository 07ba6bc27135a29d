/- Merged texts: Rw8, Rw9. -/
import Derived.Test.YtfmiioddhpkdkaaGreatWz27
set_option linter.unusedVariables false
set_option maxRecDepth 100000
set_option maxHeartbeats 8000000
/- Locks of readers and writers: New. -/
namespace Go.Proofs.YtfmiioddhpkdkaaGreat.Rw
open Go.RowKit Tp Ara Lok Fl Lk Wr Co Cm Wo

def rpOf (m : Int) (p t : List Int) : Rp := ⟨m, t.length, (lvs p).length, 1, 2 * ((lvs p).length : Int) + 1, ndI p t⟩
def arR (p : List Int) : Ar := { Ar.fresh 4096 with t := 2 * (lvs p).length + 1 }
def NewR (Ty : TypeId) (m : Int) (p t : List Int) (q : Nw) (ga ha : Nat) (w : World) (e : Ending) (w' : World) : Prop :=
  ∃ c : Rc, e = .returned (.tuple #[.pointer (some ⟨c.gk, 0, none⟩), .int .i64 0]) ∧ RdA Ty w'.heap.size w' c (rpOf m p t) (q.σN (arR p) q.NN, List.replicate t.length sp0) ∧ (c.ga = ga ∧ c.ha = ha ∧ w.heap.size ≤ c.hs ∧ w.heap.size ≤ c.gk) ∧ (w.heap.size ≤ c.gg ∧ w.heap.size ≤ c.gt ∧ w.heap.size ≤ c.gn) ∧ Mod [ga, ha] w w'
theorem okr_new (m : Int) (hm : 1 ≤ m ∧ m ≤ 3) {p t : List Int} (hck : chk p t = 0) {kg kl par bud : Int} (O : (nwOf p t kg kl par bud).Ok) (hp : par ≤ 32) :
    RpOk (rpOf m p t) ∧ OkR (rpOf m p t) ((nwOf p t kg kl par bud).σN (arR p) (lvs p).length, List.replicate t.length sp0) 40 := by
  obtain ⟨l1, l2, l3, l4⟩ := chk_len hck
  have hLL := lvs_len p
  have hrm := nw_room O hp (arR p).t (lvs p).length (Nat.le_refl _)
  have hlen : (arR p).ws.length = 4096 := fresh_len
  have ht : (arR p).t = 2 * (lvs p).length + 1 := rfl
  obtain ⟨gr, gt⟩ := Nw.σ_gr O (σ0 := arR p) (by rw [hlen]; show (nwOf p t kg kl par bud).tN (arR p).t (lvs p).length ≤ 4096; omega) (lvs p).length (Nat.le_refl _)
  have hz : ∀ i, spOf (List.replicate t.length sp0) i = sp0 := fun i => Pt.zero_spot t.length i
  refine ⟨⟨hm, ⟨by show (1 : Int) ≤ 1; omega, by show (1 : Int) ≤ 10000; omega⟩, by show 2 * ((lvs p).length : Int) + 1 = 1 + 2 * ((lvs p).length : Int); omega, by show (lvs p).length ≤ 1000; omega, fun k hk => (O.nd k hk).1⟩, ⟨List.length_replicate, fun i => .inl (by show (spOf (List.replicate t.length sp0) i).pc = 0; rw [hz]; rfl), fun i h => absurd (by show (spOf (List.replicate t.length sp0) i).pc = 0; rw [hz]; rfl) h, ?_, gr.hl, ?_⟩⟩
  · show ((nwOf p t kg kl par bud).σN (arR p) (lvs p).length).get (2 * ((lvs p).length : Int) + 1) = 0
    rw [gr.get _ (by rw [ht]; omega)]
    unfold Ar.get
    split
    · exact zeros_at 4096 _
    · rfl
  · have := gr.ops
    have h0 : (arR p).ops = 0 := rfl
    show ((nwOf p t kg kl par bud).σN (arR p) (lvs p).length).ops ≤ 40
    omega
theorem new_neutral (m : Int) (p t : List Int) (A B : Option Addr) (c d : Nat) (w : World) (hck : chk p t = 0) (B0 : Nat) (hs : Sl w B0 A (p.flatMap decI)) (ht : Sl w B0 B (t.flatMap decI)) (ga ha : Nat) (hb0 : B0 ≤ w.heap.size ∧ B0 ≤ ga ∧ B0 ≤ ha) (hA : ArAt w ga ha (Ar.fresh 4096)) (hha : ha < w.heap.size) (hne : ga ≠ ha) (kg kl par bud : Int) (O : (nwOf p t kg kl par bud).Ok) (hp : par ≤ 32) (hB : Bud.right bud = true) :
    Calls Tryz.prog 93 #[.pointer (some ⟨ga, 0, none⟩), (.agg #[.slice A p.length c, .slice B t.length d]), (.agg #[.int .i64 kg, .int .i64 kl, .int .i64 par, .int .i64 bud])] w (NewR 254 m p t (nwOf p t kg kl par bud) ga ha w) := by
  obtain ⟨l1, l2, l3, l4⟩ := chk_len hck
  have hLL := lvs_len p
  have hga := hA.lt
  have hLpos : 1 ≤ (lvs p).length := List.length_pos_iff.2 (lvs_ne (chk_ok hck).2.1 l1)
  have hmk := fun W => Ta.make_spots t.length (by omega) W
  have HM0 := Lib.hid (MkB.made w (.slice A p.length c) (.slice B t.length d) kg kl par bud)
  generalize hW1 : (w.alloc (.cells #[.slice A p.length c, .slice B t.length d] 24)).alloc (.cells #[.int .i64 kg, .int .i64 kl, .int .i64 par, .int .i64 bud] 56) = W1 at *
  have hz1 : w.heap.size + 1 < W1.heap.size := lt_of_blk HM0.out.x1
  have HS := Lib.hid hs
  have HT := Lib.hid ht
  have HNP := Lib.hid (Pa.pnew_ok p t A B c d W1 hck ((Sl.below hs (HM0.out.b.mono hb0.1)).more (by omega)) ((Sl.below ht (HM0.out.b.mono hb0.1)).more (by omega)))
  have x0 := blk_cell HM0.out.x0 0 (by simp)
  have x1 := blk_cell HM0.out.x0 1 (by simp)
  simp only [List.getElem_toArray, List.getElem_cons_zero, List.getElem_cons_succ] at x0 x1
  have HA1 := Lib.hid (hA.mod (S := []) (Mod.of_below HM0.out.b) (by simp) (by simp))
  clear hs ht hA
  go_enter Tryz.func93, Tryz.ntmps93
  go_wp2_with fail
  clear hW1
  refine HNP.out.mono ?_
  rintro e W2 ⟨gt, pb, tb, cA, cB, rfl, htb, rpb, rtb, ⟨o1, o2, o3, o4⟩, b2⟩
  have hz2 := b2.size
  have hgt := lt_of_blk htb
  have hm2 : Mod [] W1 W2 := Mod.of_below b2
  have HX0 := Lib.hid (hm2.blk HM0.out.x0 (by simp))
  have HX1 := Lib.hid (hm2.blk HM0.out.x1 (by simp))
  have HB2 := Lib.hid (HM0.out.b.trans (b2.mono HM0.out.b.size))
  have HA2 := Lib.hid (HA1.out.mod hm2 (by simp) (by simp))
  have HTB := Lib.hid htb
  have HRP := Lib.hid rpb
  have HRT := Lib.hid rtb
  have HTH := Lib.hid (Pa.threads_any (w := W2) (gt := gt) _ t.length cB htb.cells.2.1)
  clear htb rpb rtb b2 hm2 HM0 HNP HA1 x0 x1
  go_wp2_with fail
  refine HTH.out.mono ?_
  rintro e wx ⟨rfl, hwx⟩
  obtain rfl := hwx.symm
  generalize hhz : W2.heap.size = hz at *
  have hb3 : Below W2.heap.size W2 ((W2.alloc (.cells ((Ta.zeroS t.length).flatMap decSp).toArray 134)).alloc (.cells #[.pointer (some ⟨ga, 0, none⟩), .pointer (some ⟨gt, 0, none⟩), .pointer none, .pointer none, .int .i64 0, .pointer none, .slice (some ⟨hz, 0, none⟩) t.length t.length] 254)) := (below_new _ _).alloc (by simp) _
  have hx3 := blk_new (W2.alloc (.cells ((Ta.zeroS t.length).flatMap decSp).toArray 134)) (.cells #[.pointer (some ⟨ga, 0, none⟩), .pointer (some ⟨gt, 0, none⟩), .pointer none, .pointer none, .int .i64 0, .pointer none, .slice (some ⟨hz, 0, none⟩) t.length t.length] 254)
  have hy3 := heap_alloc2_old W2 (.cells ((Ta.zeroS t.length).flatMap decSp).toArray 134) (.cells #[.pointer (some ⟨ga, 0, none⟩), .pointer (some ⟨gt, 0, none⟩), .pointer none, .pointer none, .int .i64 0, .pointer none, .slice (some ⟨hz, 0, none⟩) t.length t.length] 254)
  have hzz : (W2.alloc (.cells ((Ta.zeroS t.length).flatMap decSp).toArray 134)).heap.size = hz + 1 := by simp [hhz]
  have hz3 : ((W2.alloc (.cells ((Ta.zeroS t.length).flatMap decSp).toArray 134)).alloc (.cells #[.pointer (some ⟨ga, 0, none⟩), .pointer (some ⟨gt, 0, none⟩), .pointer none, .pointer none, .int .i64 0, .pointer none, .slice (some ⟨hz, 0, none⟩) t.length t.length] 254)).heap.size = hz + 1 + 1 := by simp [hhz]
  rw [hzz] at hx3
  rw [hhz] at hy3
  have hm3 : Mod [] W2 ((W2.alloc (.cells ((Ta.zeroS t.length).flatMap decSp).toArray 134)).alloc (.cells #[.pointer (some ⟨ga, 0, none⟩), .pointer (some ⟨gt, 0, none⟩), .pointer none, .pointer none, .int .i64 0, .pointer none, .slice (some ⟨hz, 0, none⟩) t.length t.length] 254)) := Mod.of_below hb3
  have HTB3 := Lib.hid (HTB.out.mod hm3 (by simp))
  have HRP3 := Lib.hid (HRP.out.mod hm3 (by omega) (by simp))
  have HRT3 := Lib.hid (HRT.out.mod hm3 (by omega) (by simp))
  have HY0 := Lib.hid (hm3.blk HX0.out (by simp))
  have HY1 := Lib.hid (hm3.blk HX1.out (by simp))
  have HA3 := Lib.hid (HA2.out.mod hm3 (by simp) (by simp))
  have HB3 := Lib.hid (HB2.out.trans (hb3.mono HB2.out.size))
  have HLK := Lib.hid hx3
  have HSP := Lib.hid (show SpAt _ hz (List.replicate t.length sp0) from ⟨_, hy3, by rw [List.toList_toArray]; exact List.take_of_length_le (by rw [flat_len decSp_len]; simp [Ta.zeroS])⟩)
  clear hx3 hy3 hm3 hb3 HTB HRP HRT HX0 HX1 HA2 HB2 HTH
  go_wp2_with fail
  generalize (W2.alloc (.cells ((Ta.zeroS t.length).flatMap decSp).toArray 134)).alloc (.cells #[.pointer (some ⟨ga, 0, none⟩), .pointer (some ⟨gt, 0, none⟩), .pointer none, .pointer none, .int .i64 0, .pointer none, .slice (some ⟨hz, 0, none⟩) t.length t.length] 254) = W3 at *
  clear hzz hmk
  have HNF := Lib.hid (Pa.nodes_first p t hck gt pb tb cA cB W3 HTB3.out HRP3.out HRT3.out (by omega) (by omega))
  refine HNF.out.mono ?_
  rintro e W4 ⟨rfl, vu, gn, cn, gs, cs, gm, htb4, rn4, rs4, rm4, hmd4, ⟨y1, y2, y3⟩, z1, z2, z3⟩
  have hz4 := hmd4.size
  have HLK4 := Lib.hid (hmd4.blk HLK.out (by simp; omega))
  have HSP4 := Lib.hid (HSP.out.mod hmd4 (by simp; omega))
  have HZ0 := Lib.hid (hmd4.blk HY0.out (by simp; omega))
  have HZ1 := Lib.hid (hmd4.blk HY1.out (by simp; omega))
  have HA4 := Lib.hid (HA3.out.mod hmd4 (by simp; omega) (by simp; omega))
  have HB4 := Lib.hid (HB3.out.trans (hmd4.below (B := w.heap.size) (by omega) (by simp; omega)))
  have HTB4 := Lib.hid htb4
  have HRN := Lib.hid rn4
  clear htb4 rn4 rs4 rm4 hmd4 HTB3 HRP3 HRT3 HY0 HY1 HA3 HB3 HLK HSP HNF
  have hft : (Ar.fresh 4096).t = 0 := rfl
  have hfl : (Ar.fresh 4096).ws.length = 4096 := fresh_len
  have HGN := Lib.hid (Gg.new_gg ga ha (Ar.fresh 4096) W4 HA4.out (lvs p).length ⟨hLpos, by omega⟩ (by rw [hft, hfl]; omega) (by omega))
  go_wp2_with fail
  refine HGN.out.mono ?_
  rintro e W5 ⟨gg, rfl, hgb, hgg, hA5, hm5⟩
  have hz5 := hm5.size
  have hggl := lt_of_blk hgb
  have HLK5 := Lib.hid (hm5.blk HLK4.out (by simp; omega))
  have hst := blk_set HLK5.out 2 (.pointer (some ⟨gg, 0, none⟩))
  simp only [Array.set!_eq_setIfInBounds, List.setIfInBounds_toArray, List.set_cons_zero, List.set_cons_succ] at hst
  have HLK6 := Lib.hid hst
  have cj := blk_cell HLK5.out 2 (by simp)
  simp only [List.getElem_toArray, List.getElem_cons_zero, List.getElem_cons_succ] at cj
  have fj := blk_free HLK5.out 2
  clear hst
  have hmX : Mod [hz + 1] W5 (W5.setCell ⟨hz + 1, 2, none⟩ (.pointer (some ⟨gg, 0, none⟩))) := (Mod.refl _ _).setCell (by simp) _
  have hm5b : Mod [ga, ha, hz + 1] W4 (W5.setCell ⟨hz + 1, 2, none⟩ (.pointer (some ⟨gg, 0, none⟩))) := (Mod.trans ⟨hm5.os, hm5.tape, hm5.output, hm5.size, fun k hk hn => hm5.block k hk (fun h => hn (by simp at h ⊢; omega))⟩ (hmX.sub (fun k hk => by simp at hk ⊢; omega)))
  have HMM := Lib.hid hm5b
  have HA5 := Lib.hid (hA5.mod hmX (by simp; omega) (by simp; omega))
  have HGG := Lib.hid (hmX.blk hgb (by simp; omega))
  clear hgb hA5 hm5 hmX hm5b HGN HLK5 HLK4 HA4
  have hv : (((Ar.fresh 4096).t + 2 * (lvs p).length : Nat) : Int) + 1 = 2 * ((lvs p).length : Int) + 1 := by rw [hft]; omega
  have he : ({ ({ Ar.fresh 4096 with t := (Ar.fresh 4096).t + 2 * (lvs p).length } : Ar) with t := (Ar.fresh 4096).t + 2 * (lvs p).length + 1 } : Ar) = arR p := by unfold arR; rw [hft, Nat.zero_add]
  have hTK := take_any ga ha { Ar.fresh 4096 with t := (Ar.fresh 4096).t + 2 * (lvs p).length } _ HA5.out ((1 : Nat) : Int)
  rw [Fl.take_ok (m := 1) (by show (Ar.fresh 4096).t + 2 * (lvs p).length + 1 ≤ (Ar.fresh 4096).ws.length; rw [hft, hfl]; omega)] at hTK
  simp only at hTK
  rw [hv, he] at hTK
  have HTK := Lib.hid hTK
  clear hTK hv he HA5
  go_wp2_with fail
  generalize W5.setCell ⟨hz + 1, 2, none⟩ (.pointer (some ⟨gg, 0, none⟩)) = W6 at *
  clear cj fj
  refine HTK.out.mono ?_
  rintro e W7 ⟨rfl, hA7, hm7⟩
  have hm7' : Mod [ga, ha, hz + 1] W6 W7 := hm7.sub (fun k hk => by simp at hk ⊢; omega)
  have HLK7 := Lib.hid (hm7.blk HLK6.out (by simp; omega))
  have hst := blk_set HLK7.out 4 (.int .i64 (2 * ((lvs p).length : Int) + 1))
  simp only [Array.set!_eq_setIfInBounds, List.setIfInBounds_toArray, List.set_cons_zero, List.set_cons_succ] at hst
  have HLK8 := Lib.hid hst
  have cj := blk_cell HLK7.out 4 (by simp)
  simp only [List.getElem_toArray, List.getElem_cons_zero, List.getElem_cons_succ] at cj
  have fj := blk_free HLK7.out 4
  clear hst
  have hm8 : Mod [hz + 1] W7 (W7.setCell ⟨hz + 1, 4, none⟩ (.int .i64 (2 * ((lvs p).length : Int) + 1))) := (Mod.refl _ _).setCell (by simp) _
  have HM8 := Lib.hid ((HMM.out.trans hm7').trans (hm8.sub (fun k hk => by simp at hk ⊢; omega)))
  have HA8 := Lib.hid (hA7.mod hm8 (by simp; omega) (by simp; omega))
  have HG8 := Lib.hid (hm8.blk (hm7.blk HGG.out (by simp; omega)) (by simp; omega))
  have hz78 := HM8.out.size
  have HZ0' := Lib.hid (HM8.out.blk HZ0.out (by simp; omega))
  have HZ1' := Lib.hid (HM8.out.blk HZ1.out (by simp; omega))
  have HS8 := Lib.hid (Sl.mod (Sl.below HS.out (HB4.out.mono hb0.1)) HM8.out (by omega) (by simp; omega))
  have HT8 := Lib.hid (Sl.mod (Sl.below HT.out (HB4.out.mono hb0.1)) HM8.out (by omega) (by simp; omega))
  clear hm7 hm7' hm8 hA7 HLK7 HGG HMM HTK HZ0 HZ1 HLK6
  have b0 := blk_cell HZ0'.out 0 (by simp)
  have b1 := blk_cell HZ0'.out 1 (by simp)
  have p0 := blk_cell HZ1'.out 0 (by simp)
  have p1 := blk_cell HZ1'.out 1 (by simp)
  have p2 := blk_cell HZ1'.out 2 (by simp)
  have p3 := blk_cell HZ1'.out 3 (by simp)
  simp only [List.getElem_toArray, List.getElem_cons_zero, List.getElem_cons_succ] at b0 b1 p0 p1 p2 p3
  go_wp2_with fail
  generalize W7.setCell ⟨hz + 1, 4, none⟩ (.int .i64 (2 * ((lvs p).length : Int) + 1)) = W8 at *
  clear cj fj
  have hlen : (arR p).ws.length = 4096 := fresh_len
  have hrm := nw_room O hp (arR p).t (lvs p).length (Nat.le_refl _)
  have hat : (arR p).t = 2 * (lvs p).length + 1 := rfl
  have HNC := Lib.hid (new_co p t A B c d W8 hck (HS8.out.more (by omega)) (HT8.out.more (by omega)) ga ha (arR p) HA8.out (by omega) hne kg kl par bud O hB (by omega) (by omega) (by show 0 ≤ 1000; omega))
  refine HNC.out.mono ?_
  unfold NewC
  rintro e W9 ⟨cd, rfl, hco, ⟨g1, g2, hlw⟩, hcol, hm9⟩
  have hA9 := hco.d.ar
  rw [g1, g2] at hA9
  have hz9 := hm9.size
  have HLK9 := Lib.hid (hm9.blk HLK8.out (by simp; omega))
  have hst := blk_set HLK9.out 5 (.pointer (some ⟨cd.gl, 0, none⟩))
  simp only [Array.set!_eq_setIfInBounds, List.setIfInBounds_toArray, List.set_cons_zero, List.set_cons_succ] at hst
  have HLKa := Lib.hid hst
  have cj := blk_cell HLK9.out 5 (by simp)
  simp only [List.getElem_toArray, List.getElem_cons_zero, List.getElem_cons_succ] at cj
  have fj := blk_free HLK9.out 5
  clear hst
  have hma : Mod [hz + 1] W9 (W9.setCell ⟨hz + 1, 5, none⟩ (.pointer (some ⟨cd.gl, 0, none⟩))) := (Mod.refl _ _).setCell (by simp) _
  have HMa := Lib.hid ((HM8.out.trans (hm9.sub (fun k hk => by simp at hk ⊢; omega))).trans (hma.sub (T := [ga, ha, hz + 1]) (fun k hk => by simp at hk ⊢; omega)))
  have HAa := Lib.hid (hA9.mod hma (by simp; omega) (by simp; omega))
  have HGa := Lib.hid (hma.blk (hm9.blk HG8.out (by simp; omega)) (by simp; omega))
  clear hco g1 g2 hlw hcol hm9 hA9 hma HLK9 HLK8 HA8 HG8 HM8 HZ0' HZ1' HS8 HT8 HNC b0 b1 p0 p1 p2 p3
  have ca2 := blk_cell HLKa.out 2 (by simp)
  simp only [List.getElem_toArray, List.getElem_cons_zero, List.getElem_cons_succ] at ca2
  go_wp2_with fail
  generalize W9.setCell ⟨hz + 1, 5, none⟩ (.pointer (some ⟨cd.gl, 0, none⟩)) = Wa at *
  clear cj fj
  refine (Gg.new_dr gg Wa).mono ?_
  rintro e Wb ⟨gd, rfl, -, hbb⟩
  have hmb : Mod [] Wa Wb := Mod.of_below hbb
  have hzb := hbb.size
  have hza := HMa.out.size
  have HLKb := Lib.hid (hmb.blk HLKa.out (by simp))
  have hst := blk_set HLKb.out 3 (.pointer (some ⟨gd, 0, none⟩))
  simp only [Array.set!_eq_setIfInBounds, List.setIfInBounds_toArray, List.set_cons_zero, List.set_cons_succ] at hst
  have HLKc := Lib.hid hst
  have cj := blk_cell HLKb.out 3 (by simp)
  simp only [List.getElem_toArray, List.getElem_cons_zero, List.getElem_cons_succ] at cj
  have fj := blk_free HLKb.out 3
  clear hst
  have hmc : Mod [hz + 1] Wb (Wb.setCell ⟨hz + 1, 3, none⟩ (.pointer (some ⟨gd, 0, none⟩))) := (Mod.refl _ _).setCell (by simp) _
  have HMc := Lib.hid ((HMa.out.trans (hmb.sub (fun k hk => by simp at hk))).trans (hmc.sub (T := [ga, ha, hz + 1]) (fun k hk => by simp at hk ⊢; omega)))
  have HAc := Lib.hid ((HAa.out.mod hmb (by simp) (by simp)).mod hmc (by simp; omega) (by simp; omega))
  have HGc := Lib.hid (hmc.blk (hmb.blk HGa.out (by simp)) (by simp; omega))
  clear hmb hmc HLKb HLKa HMa HAa HGa hbb ca2
  go_wp2_with fail
  generalize Wb.setCell ⟨hz + 1, 3, none⟩ (.pointer (some ⟨gd, 0, none⟩)) = Wc at *
  go_ret2
  have hzc := HMc.out.size
  have hgc := lt_of_blk HGc.out
  have htc := HTB4.out.mod HMc.out (by simp; omega)
  refine ⟨⟨hz + 1, gt, gg, gd, cd.gl, hz, ga, ha, gn, some ⟨tb, 0, none⟩, cB, cn⟩, rfl, ⟨HLKc.out, HGc.out, htc.cells.2.1, htc.cells.2.2.1, htc.cells.2.2.2.2.2.1, fun k hk => ?_, HAc.out, HSP4.out.mod HMc.out (by simp; omega), List.length_replicate, ⟨⟨⟨?_, ?_, ?_⟩, ?_, ?_, ?_⟩, ⟨⟨?_, ?_, ?_⟩, ?_, ?_, ?_⟩, ?_, ?_⟩, ⟨⟨?_, ?_, ?_, ?_⟩, ?_, ?_, ?_⟩, Nat.le_refl _⟩, ⟨rfl, rfl, ?_, ?_⟩, ⟨?_, ?_, ?_⟩, ?_⟩
  · have := HRN.out.mod HMc.out z1 (by simp; omega) k (by rw [Pa.ndL_len]; exact hk)
    rw [show (Pa.ndL p t t.length).getD k 0 = (ndI p t k : Int) from Pa.map_getD hk] at this
    exact this
  all_goals (try dsimp only)
  all_goals first
    | omega
    | exact mod_fresh HB4.out (show w.heap.size ≤ hz + 1 by omega) (HMc.out.sub (T := [hz + 1, ga, ha]) (fun k hk => by simp only [List.mem_cons, List.not_mem_nil, or_false] at hk ⊢; omega))
theorem new_readers (m : Int) (p t : List Int) (A B : Option Addr) (c d : Nat) (w : World) (hck : chk p t = 0) (B0 : Nat) (hs : Sl w B0 A (p.flatMap decI)) (ht : Sl w B0 B (t.flatMap decI)) (ga ha : Nat) (hb0 : B0 ≤ w.heap.size ∧ B0 ≤ ga ∧ B0 ≤ ha) (hA : ArAt w ga ha (Ar.fresh 4096)) (hha : ha < w.heap.size) (hne : ga ≠ ha) (kg kl par bud : Int) (O : (nwOf p t kg kl par bud).Ok) (hp : par ≤ 32) (hB : Bud.right bud = true) :
    Calls Tryz.prog 94 #[.pointer (some ⟨ga, 0, none⟩), (.agg #[.slice A p.length c, .slice B t.length d]), (.agg #[.int .i64 kg, .int .i64 kl, .int .i64 par, .int .i64 bud])] w (NewR 259 m p t (nwOf p t kg kl par bud) ga ha w) := by
  obtain ⟨l1, l2, l3, l4⟩ := chk_len hck
  have hLL := lvs_len p
  have hga := hA.lt
  have hLpos : 1 ≤ (lvs p).length := List.length_pos_iff.2 (lvs_ne (chk_ok hck).2.1 l1)
  have hmk := fun W => Ta.make_spots t.length (by omega) W
  have HM0 := Lib.hid (MkB.made w (.slice A p.length c) (.slice B t.length d) kg kl par bud)
  generalize hW1 : (w.alloc (.cells #[.slice A p.length c, .slice B t.length d] 24)).alloc (.cells #[.int .i64 kg, .int .i64 kl, .int .i64 par, .int .i64 bud] 56) = W1 at *
  have hz1 : w.heap.size + 1 < W1.heap.size := lt_of_blk HM0.out.x1
  have HS := Lib.hid hs
  have HT := Lib.hid ht
  have HNP := Lib.hid (Pa.pnew_ok p t A B c d W1 hck ((Sl.below hs (HM0.out.b.mono hb0.1)).more (by omega)) ((Sl.below ht (HM0.out.b.mono hb0.1)).more (by omega)))
  have x0 := blk_cell HM0.out.x0 0 (by simp)
  have x1 := blk_cell HM0.out.x0 1 (by simp)
  simp only [List.getElem_toArray, List.getElem_cons_zero, List.getElem_cons_succ] at x0 x1
  have HA1 := Lib.hid (hA.mod (S := []) (Mod.of_below HM0.out.b) (by simp) (by simp))
  clear hs ht hA
  go_enter Tryz.func94, Tryz.ntmps94
  go_wp2_with fail
  clear hW1
  refine HNP.out.mono ?_
  rintro e W2 ⟨gt, pb, tb, cA, cB, rfl, htb, rpb, rtb, ⟨o1, o2, o3, o4⟩, b2⟩
  have hz2 := b2.size
  have hgt := lt_of_blk htb
  have hm2 : Mod [] W1 W2 := Mod.of_below b2
  have HX0 := Lib.hid (hm2.blk HM0.out.x0 (by simp))
  have HX1 := Lib.hid (hm2.blk HM0.out.x1 (by simp))
  have HB2 := Lib.hid (HM0.out.b.trans (b2.mono HM0.out.b.size))
  have HA2 := Lib.hid (HA1.out.mod hm2 (by simp) (by simp))
  have HTB := Lib.hid htb
  have HRP := Lib.hid rpb
  have HRT := Lib.hid rtb
  have HTH := Lib.hid (Pa.threads_any (w := W2) (gt := gt) _ t.length cB htb.cells.2.1)
  clear htb rpb rtb b2 hm2 HM0 HNP HA1 x0 x1
  go_wp2_with fail
  refine HTH.out.mono ?_
  rintro e wx ⟨rfl, hwx⟩
  obtain rfl := hwx.symm
  generalize hhz : W2.heap.size = hz at *
  have hb3 : Below W2.heap.size W2 ((W2.alloc (.cells ((Ta.zeroS t.length).flatMap decSp).toArray 134)).alloc (.cells #[.pointer (some ⟨ga, 0, none⟩), .pointer (some ⟨gt, 0, none⟩), .pointer none, .pointer none, .int .i64 0, .pointer none, .slice (some ⟨hz, 0, none⟩) t.length t.length] 259)) := (below_new _ _).alloc (by simp) _
  have hx3 := blk_new (W2.alloc (.cells ((Ta.zeroS t.length).flatMap decSp).toArray 134)) (.cells #[.pointer (some ⟨ga, 0, none⟩), .pointer (some ⟨gt, 0, none⟩), .pointer none, .pointer none, .int .i64 0, .pointer none, .slice (some ⟨hz, 0, none⟩) t.length t.length] 259)
  have hy3 := heap_alloc2_old W2 (.cells ((Ta.zeroS t.length).flatMap decSp).toArray 134) (.cells #[.pointer (some ⟨ga, 0, none⟩), .pointer (some ⟨gt, 0, none⟩), .pointer none, .pointer none, .int .i64 0, .pointer none, .slice (some ⟨hz, 0, none⟩) t.length t.length] 259)
  have hzz : (W2.alloc (.cells ((Ta.zeroS t.length).flatMap decSp).toArray 134)).heap.size = hz + 1 := by simp [hhz]
  have hz3 : ((W2.alloc (.cells ((Ta.zeroS t.length).flatMap decSp).toArray 134)).alloc (.cells #[.pointer (some ⟨ga, 0, none⟩), .pointer (some ⟨gt, 0, none⟩), .pointer none, .pointer none, .int .i64 0, .pointer none, .slice (some ⟨hz, 0, none⟩) t.length t.length] 259)).heap.size = hz + 1 + 1 := by simp [hhz]
  rw [hzz] at hx3
  rw [hhz] at hy3
  have hm3 : Mod [] W2 ((W2.alloc (.cells ((Ta.zeroS t.length).flatMap decSp).toArray 134)).alloc (.cells #[.pointer (some ⟨ga, 0, none⟩), .pointer (some ⟨gt, 0, none⟩), .pointer none, .pointer none, .int .i64 0, .pointer none, .slice (some ⟨hz, 0, none⟩) t.length t.length] 259)) := Mod.of_below hb3
  have HTB3 := Lib.hid (HTB.out.mod hm3 (by simp))
  have HRP3 := Lib.hid (HRP.out.mod hm3 (by omega) (by simp))
  have HRT3 := Lib.hid (HRT.out.mod hm3 (by omega) (by simp))
  have HY0 := Lib.hid (hm3.blk HX0.out (by simp))
  have HY1 := Lib.hid (hm3.blk HX1.out (by simp))
  have HA3 := Lib.hid (HA2.out.mod hm3 (by simp) (by simp))
  have HB3 := Lib.hid (HB2.out.trans (hb3.mono HB2.out.size))
  have HLK := Lib.hid hx3
  have HSP := Lib.hid (show SpAt _ hz (List.replicate t.length sp0) from ⟨_, hy3, by rw [List.toList_toArray]; exact List.take_of_length_le (by rw [flat_len decSp_len]; simp [Ta.zeroS])⟩)
  clear hx3 hy3 hm3 hb3 HTB HRP HRT HX0 HX1 HA2 HB2 HTH
  go_wp2_with fail
  generalize (W2.alloc (.cells ((Ta.zeroS t.length).flatMap decSp).toArray 134)).alloc (.cells #[.pointer (some ⟨ga, 0, none⟩), .pointer (some ⟨gt, 0, none⟩), .pointer none, .pointer none, .int .i64 0, .pointer none, .slice (some ⟨hz, 0, none⟩) t.length t.length] 259) = W3 at *
  clear hzz hmk
  have HNF := Lib.hid (Pa.nodes_first p t hck gt pb tb cA cB W3 HTB3.out HRP3.out HRT3.out (by omega) (by omega))
  refine HNF.out.mono ?_
  rintro e W4 ⟨rfl, vu, gn, cn, gs, cs, gm, htb4, rn4, rs4, rm4, hmd4, ⟨y1, y2, y3⟩, z1, z2, z3⟩
  have hz4 := hmd4.size
  have HLK4 := Lib.hid (hmd4.blk HLK.out (by simp; omega))
  have HSP4 := Lib.hid (HSP.out.mod hmd4 (by simp; omega))
  have HZ0 := Lib.hid (hmd4.blk HY0.out (by simp; omega))
  have HZ1 := Lib.hid (hmd4.blk HY1.out (by simp; omega))
  have HA4 := Lib.hid (HA3.out.mod hmd4 (by simp; omega) (by simp; omega))
  have HB4 := Lib.hid (HB3.out.trans (hmd4.below (B := w.heap.size) (by omega) (by simp; omega)))
  have HTB4 := Lib.hid htb4
  have HRN := Lib.hid rn4
  clear htb4 rn4 rs4 rm4 hmd4 HTB3 HRP3 HRT3 HY0 HY1 HA3 HB3 HLK HSP HNF
  have hft : (Ar.fresh 4096).t = 0 := rfl
  have hfl : (Ar.fresh 4096).ws.length = 4096 := fresh_len
  have HGN := Lib.hid (Gg.new_gg ga ha (Ar.fresh 4096) W4 HA4.out (lvs p).length ⟨hLpos, by omega⟩ (by rw [hft, hfl]; omega) (by omega))
  go_wp2_with fail
  refine HGN.out.mono ?_
  rintro e W5 ⟨gg, rfl, hgb, hgg, hA5, hm5⟩
  have hz5 := hm5.size
  have hggl := lt_of_blk hgb
  have HLK5 := Lib.hid (hm5.blk HLK4.out (by simp; omega))
  have hst := blk_set HLK5.out 2 (.pointer (some ⟨gg, 0, none⟩))
  simp only [Array.set!_eq_setIfInBounds, List.setIfInBounds_toArray, List.set_cons_zero, List.set_cons_succ] at hst
  have HLK6 := Lib.hid hst
  have cj := blk_cell HLK5.out 2 (by simp)
  simp only [List.getElem_toArray, List.getElem_cons_zero, List.getElem_cons_succ] at cj
  have fj := blk_free HLK5.out 2
  clear hst
  have hmX : Mod [hz + 1] W5 (W5.setCell ⟨hz + 1, 2, none⟩ (.pointer (some ⟨gg, 0, none⟩))) := (Mod.refl _ _).setCell (by simp) _
  have hm5b : Mod [ga, ha, hz + 1] W4 (W5.setCell ⟨hz + 1, 2, none⟩ (.pointer (some ⟨gg, 0, none⟩))) := (Mod.trans ⟨hm5.os, hm5.tape, hm5.output, hm5.size, fun k hk hn => hm5.block k hk (fun h => hn (by simp at h ⊢; omega))⟩ (hmX.sub (fun k hk => by simp at hk ⊢; omega)))
  have HMM := Lib.hid hm5b
  have HA5 := Lib.hid (hA5.mod hmX (by simp; omega) (by simp; omega))
  have HGG := Lib.hid (hmX.blk hgb (by simp; omega))
  clear hgb hA5 hm5 hmX hm5b HGN HLK5 HLK4 HA4
  have hv : (((Ar.fresh 4096).t + 2 * (lvs p).length : Nat) : Int) + 1 = 2 * ((lvs p).length : Int) + 1 := by rw [hft]; omega
  have he : ({ ({ Ar.fresh 4096 with t := (Ar.fresh 4096).t + 2 * (lvs p).length } : Ar) with t := (Ar.fresh 4096).t + 2 * (lvs p).length + 1 } : Ar) = arR p := by unfold arR; rw [hft, Nat.zero_add]
  have hTK := take_any ga ha { Ar.fresh 4096 with t := (Ar.fresh 4096).t + 2 * (lvs p).length } _ HA5.out ((1 : Nat) : Int)
  rw [Fl.take_ok (m := 1) (by show (Ar.fresh 4096).t + 2 * (lvs p).length + 1 ≤ (Ar.fresh 4096).ws.length; rw [hft, hfl]; omega)] at hTK
  simp only at hTK
  rw [hv, he] at hTK
  have HTK := Lib.hid hTK
  clear hTK hv he HA5
  go_wp2_with fail
  generalize W5.setCell ⟨hz + 1, 2, none⟩ (.pointer (some ⟨gg, 0, none⟩)) = W6 at *
  clear cj fj
  refine HTK.out.mono ?_
  rintro e W7 ⟨rfl, hA7, hm7⟩
  have hm7' : Mod [ga, ha, hz + 1] W6 W7 := hm7.sub (fun k hk => by simp at hk ⊢; omega)
  have HLK7 := Lib.hid (hm7.blk HLK6.out (by simp; omega))
  have hst := blk_set HLK7.out 4 (.int .i64 (2 * ((lvs p).length : Int) + 1))
  simp only [Array.set!_eq_setIfInBounds, List.setIfInBounds_toArray, List.set_cons_zero, List.set_cons_succ] at hst
  have HLK8 := Lib.hid hst
  have cj := blk_cell HLK7.out 4 (by simp)
  simp only [List.getElem_toArray, List.getElem_cons_zero, List.getElem_cons_succ] at cj
  have fj := blk_free HLK7.out 4
  clear hst
  have hm8 : Mod [hz + 1] W7 (W7.setCell ⟨hz + 1, 4, none⟩ (.int .i64 (2 * ((lvs p).length : Int) + 1))) := (Mod.refl _ _).setCell (by simp) _
  have HM8 := Lib.hid ((HMM.out.trans hm7').trans (hm8.sub (fun k hk => by simp at hk ⊢; omega)))
  have HA8 := Lib.hid (hA7.mod hm8 (by simp; omega) (by simp; omega))
  have HG8 := Lib.hid (hm8.blk (hm7.blk HGG.out (by simp; omega)) (by simp; omega))
  have hz78 := HM8.out.size
  have HZ0' := Lib.hid (HM8.out.blk HZ0.out (by simp; omega))
  have HZ1' := Lib.hid (HM8.out.blk HZ1.out (by simp; omega))
  have HS8 := Lib.hid (Sl.mod (Sl.below HS.out (HB4.out.mono hb0.1)) HM8.out (by omega) (by simp; omega))
  have HT8 := Lib.hid (Sl.mod (Sl.below HT.out (HB4.out.mono hb0.1)) HM8.out (by omega) (by simp; omega))
  clear hm7 hm7' hm8 hA7 HLK7 HGG HMM HTK HZ0 HZ1 HLK6
  have b0 := blk_cell HZ0'.out 0 (by simp)
  have b1 := blk_cell HZ0'.out 1 (by simp)
  have p0 := blk_cell HZ1'.out 0 (by simp)
  have p1 := blk_cell HZ1'.out 1 (by simp)
  have p2 := blk_cell HZ1'.out 2 (by simp)
  have p3 := blk_cell HZ1'.out 3 (by simp)
  simp only [List.getElem_toArray, List.getElem_cons_zero, List.getElem_cons_succ] at b0 b1 p0 p1 p2 p3
  go_wp2_with fail
  generalize W7.setCell ⟨hz + 1, 4, none⟩ (.int .i64 (2 * ((lvs p).length : Int) + 1)) = W8 at *
  clear cj fj
  have hlen : (arR p).ws.length = 4096 := fresh_len
  have hrm := nw_room O hp (arR p).t (lvs p).length (Nat.le_refl _)
  have hat : (arR p).t = 2 * (lvs p).length + 1 := rfl
  have HNC := Lib.hid (new_co p t A B c d W8 hck (HS8.out.more (by omega)) (HT8.out.more (by omega)) ga ha (arR p) HA8.out (by omega) hne kg kl par bud O hB (by omega) (by omega) (by show 0 ≤ 1000; omega))
  refine HNC.out.mono ?_
  unfold NewC
  rintro e W9 ⟨cd, rfl, hco, ⟨g1, g2, hlw⟩, hcol, hm9⟩
  have hA9 := hco.d.ar
  rw [g1, g2] at hA9
  have hz9 := hm9.size
  have HLK9 := Lib.hid (hm9.blk HLK8.out (by simp; omega))
  have hst := blk_set HLK9.out 5 (.pointer (some ⟨cd.gl, 0, none⟩))
  simp only [Array.set!_eq_setIfInBounds, List.setIfInBounds_toArray, List.set_cons_zero, List.set_cons_succ] at hst
  have HLKa := Lib.hid hst
  have cj := blk_cell HLK9.out 5 (by simp)
  simp only [List.getElem_toArray, List.getElem_cons_zero, List.getElem_cons_succ] at cj
  have fj := blk_free HLK9.out 5
  clear hst
  have hma : Mod [hz + 1] W9 (W9.setCell ⟨hz + 1, 5, none⟩ (.pointer (some ⟨cd.gl, 0, none⟩))) := (Mod.refl _ _).setCell (by simp) _
  have HMa := Lib.hid ((HM8.out.trans (hm9.sub (fun k hk => by simp at hk ⊢; omega))).trans (hma.sub (T := [ga, ha, hz + 1]) (fun k hk => by simp at hk ⊢; omega)))
  have HAa := Lib.hid (hA9.mod hma (by simp; omega) (by simp; omega))
  have HGa := Lib.hid (hma.blk (hm9.blk HG8.out (by simp; omega)) (by simp; omega))
  clear hco g1 g2 hlw hcol hm9 hA9 hma HLK9 HLK8 HA8 HG8 HM8 HZ0' HZ1' HS8 HT8 HNC b0 b1 p0 p1 p2 p3
  have ca2 := blk_cell HLKa.out 2 (by simp)
  simp only [List.getElem_toArray, List.getElem_cons_zero, List.getElem_cons_succ] at ca2
  go_wp2_with fail
  generalize W9.setCell ⟨hz + 1, 5, none⟩ (.pointer (some ⟨cd.gl, 0, none⟩)) = Wa at *
  clear cj fj
  refine (Gg.new_dr gg Wa).mono ?_
  rintro e Wb ⟨gd, rfl, -, hbb⟩
  have hmb : Mod [] Wa Wb := Mod.of_below hbb
  have hzb := hbb.size
  have hza := HMa.out.size
  have HLKb := Lib.hid (hmb.blk HLKa.out (by simp))
  have hst := blk_set HLKb.out 3 (.pointer (some ⟨gd, 0, none⟩))
  simp only [Array.set!_eq_setIfInBounds, List.setIfInBounds_toArray, List.set_cons_zero, List.set_cons_succ] at hst
  have HLKc := Lib.hid hst
  have cj := blk_cell HLKb.out 3 (by simp)
  simp only [List.getElem_toArray, List.getElem_cons_zero, List.getElem_cons_succ] at cj
  have fj := blk_free HLKb.out 3
  clear hst
  have hmc : Mod [hz + 1] Wb (Wb.setCell ⟨hz + 1, 3, none⟩ (.pointer (some ⟨gd, 0, none⟩))) := (Mod.refl _ _).setCell (by simp) _
  have HMc := Lib.hid ((HMa.out.trans (hmb.sub (fun k hk => by simp at hk))).trans (hmc.sub (T := [ga, ha, hz + 1]) (fun k hk => by simp at hk ⊢; omega)))
  have HAc := Lib.hid ((HAa.out.mod hmb (by simp) (by simp)).mod hmc (by simp; omega) (by simp; omega))
  have HGc := Lib.hid (hmc.blk (hmb.blk HGa.out (by simp)) (by simp; omega))
  clear hmb hmc HLKb HLKa HMa HAa HGa hbb ca2
  go_wp2_with fail
  generalize Wb.setCell ⟨hz + 1, 3, none⟩ (.pointer (some ⟨gd, 0, none⟩)) = Wc at *
  go_ret2
  have hzc := HMc.out.size
  have hgc := lt_of_blk HGc.out
  have htc := HTB4.out.mod HMc.out (by simp; omega)
  refine ⟨⟨hz + 1, gt, gg, gd, cd.gl, hz, ga, ha, gn, some ⟨tb, 0, none⟩, cB, cn⟩, rfl, ⟨HLKc.out, HGc.out, htc.cells.2.1, htc.cells.2.2.1, htc.cells.2.2.2.2.2.1, fun k hk => ?_, HAc.out, HSP4.out.mod HMc.out (by simp; omega), List.length_replicate, ⟨⟨⟨?_, ?_, ?_⟩, ?_, ?_, ?_⟩, ⟨⟨?_, ?_, ?_⟩, ?_, ?_, ?_⟩, ?_, ?_⟩, ⟨⟨?_, ?_, ?_, ?_⟩, ?_, ?_, ?_⟩, Nat.le_refl _⟩, ⟨rfl, rfl, ?_, ?_⟩, ⟨?_, ?_, ?_⟩, ?_⟩
  · have := HRN.out.mod HMc.out z1 (by simp; omega) k (by rw [Pa.ndL_len]; exact hk)
    rw [show (Pa.ndL p t t.length).getD k 0 = (ndI p t k : Int) from Pa.map_getD hk] at this
    exact this
  all_goals (try dsimp only)
  all_goals first
    | omega
    | exact mod_fresh HB4.out (show w.heap.size ≤ hz + 1 by omega) (HMc.out.sub (T := [hz + 1, ga, ha]) (fun k hk => by simp only [List.mem_cons, List.not_mem_nil, or_false] at hk ⊢; omega))
theorem new_writers (m : Int) (p t : List Int) (A B : Option Addr) (c d : Nat) (w : World) (hck : chk p t = 0) (B0 : Nat) (hs : Sl w B0 A (p.flatMap decI)) (ht : Sl w B0 B (t.flatMap decI)) (ga ha : Nat) (hb0 : B0 ≤ w.heap.size ∧ B0 ≤ ga ∧ B0 ≤ ha) (hA : ArAt w ga ha (Ar.fresh 4096)) (hha : ha < w.heap.size) (hne : ga ≠ ha) (kg kl par bud : Int) (O : (nwOf p t kg kl par bud).Ok) (hp : par ≤ 32) (hB : Bud.right bud = true) :
    Calls Tryz.prog 95 #[.pointer (some ⟨ga, 0, none⟩), (.agg #[.slice A p.length c, .slice B t.length d]), (.agg #[.int .i64 kg, .int .i64 kl, .int .i64 par, .int .i64 bud])] w (NewR 261 m p t (nwOf p t kg kl par bud) ga ha w) := by
  obtain ⟨l1, l2, l3, l4⟩ := chk_len hck
  have hLL := lvs_len p
  have hga := hA.lt
  have hLpos : 1 ≤ (lvs p).length := List.length_pos_iff.2 (lvs_ne (chk_ok hck).2.1 l1)
  have hmk := fun W => Ta.make_spots t.length (by omega) W
  have HM0 := Lib.hid (MkB.made w (.slice A p.length c) (.slice B t.length d) kg kl par bud)
  generalize hW1 : (w.alloc (.cells #[.slice A p.length c, .slice B t.length d] 24)).alloc (.cells #[.int .i64 kg, .int .i64 kl, .int .i64 par, .int .i64 bud] 56) = W1 at *
  have hz1 : w.heap.size + 1 < W1.heap.size := lt_of_blk HM0.out.x1
  have HS := Lib.hid hs
  have HT := Lib.hid ht
  have HNP := Lib.hid (Pa.pnew_ok p t A B c d W1 hck ((Sl.below hs (HM0.out.b.mono hb0.1)).more (by omega)) ((Sl.below ht (HM0.out.b.mono hb0.1)).more (by omega)))
  have x0 := blk_cell HM0.out.x0 0 (by simp)
  have x1 := blk_cell HM0.out.x0 1 (by simp)
  simp only [List.getElem_toArray, List.getElem_cons_zero, List.getElem_cons_succ] at x0 x1
  have HA1 := Lib.hid (hA.mod (S := []) (Mod.of_below HM0.out.b) (by simp) (by simp))
  clear hs ht hA
  go_enter Tryz.func95, Tryz.ntmps95
  go_wp2_with fail
  clear hW1
  refine HNP.out.mono ?_
  rintro e W2 ⟨gt, pb, tb, cA, cB, rfl, htb, rpb, rtb, ⟨o1, o2, o3, o4⟩, b2⟩
  have hz2 := b2.size
  have hgt := lt_of_blk htb
  have hm2 : Mod [] W1 W2 := Mod.of_below b2
  have HX0 := Lib.hid (hm2.blk HM0.out.x0 (by simp))
  have HX1 := Lib.hid (hm2.blk HM0.out.x1 (by simp))
  have HB2 := Lib.hid (HM0.out.b.trans (b2.mono HM0.out.b.size))
  have HA2 := Lib.hid (HA1.out.mod hm2 (by simp) (by simp))
  have HTB := Lib.hid htb
  have HRP := Lib.hid rpb
  have HRT := Lib.hid rtb
  have HTH := Lib.hid (Pa.threads_any (w := W2) (gt := gt) _ t.length cB htb.cells.2.1)
  clear htb rpb rtb b2 hm2 HM0 HNP HA1 x0 x1
  go_wp2_with fail
  refine HTH.out.mono ?_
  rintro e wx ⟨rfl, hwx⟩
  obtain rfl := hwx.symm
  generalize hhz : W2.heap.size = hz at *
  have hb3 : Below W2.heap.size W2 ((W2.alloc (.cells ((Ta.zeroS t.length).flatMap decSp).toArray 134)).alloc (.cells #[.pointer (some ⟨ga, 0, none⟩), .pointer (some ⟨gt, 0, none⟩), .pointer none, .pointer none, .int .i64 0, .pointer none, .slice (some ⟨hz, 0, none⟩) t.length t.length] 261)) := (below_new _ _).alloc (by simp) _
  have hx3 := blk_new (W2.alloc (.cells ((Ta.zeroS t.length).flatMap decSp).toArray 134)) (.cells #[.pointer (some ⟨ga, 0, none⟩), .pointer (some ⟨gt, 0, none⟩), .pointer none, .pointer none, .int .i64 0, .pointer none, .slice (some ⟨hz, 0, none⟩) t.length t.length] 261)
  have hy3 := heap_alloc2_old W2 (.cells ((Ta.zeroS t.length).flatMap decSp).toArray 134) (.cells #[.pointer (some ⟨ga, 0, none⟩), .pointer (some ⟨gt, 0, none⟩), .pointer none, .pointer none, .int .i64 0, .pointer none, .slice (some ⟨hz, 0, none⟩) t.length t.length] 261)
  have hzz : (W2.alloc (.cells ((Ta.zeroS t.length).flatMap decSp).toArray 134)).heap.size = hz + 1 := by simp [hhz]
  have hz3 : ((W2.alloc (.cells ((Ta.zeroS t.length).flatMap decSp).toArray 134)).alloc (.cells #[.pointer (some ⟨ga, 0, none⟩), .pointer (some ⟨gt, 0, none⟩), .pointer none, .pointer none, .int .i64 0, .pointer none, .slice (some ⟨hz, 0, none⟩) t.length t.length] 261)).heap.size = hz + 1 + 1 := by simp [hhz]
  rw [hzz] at hx3
  rw [hhz] at hy3
  have hm3 : Mod [] W2 ((W2.alloc (.cells ((Ta.zeroS t.length).flatMap decSp).toArray 134)).alloc (.cells #[.pointer (some ⟨ga, 0, none⟩), .pointer (some ⟨gt, 0, none⟩), .pointer none, .pointer none, .int .i64 0, .pointer none, .slice (some ⟨hz, 0, none⟩) t.length t.length] 261)) := Mod.of_below hb3
  have HTB3 := Lib.hid (HTB.out.mod hm3 (by simp))
  have HRP3 := Lib.hid (HRP.out.mod hm3 (by omega) (by simp))
  have HRT3 := Lib.hid (HRT.out.mod hm3 (by omega) (by simp))
  have HY0 := Lib.hid (hm3.blk HX0.out (by simp))
  have HY1 := Lib.hid (hm3.blk HX1.out (by simp))
  have HA3 := Lib.hid (HA2.out.mod hm3 (by simp) (by simp))
  have HB3 := Lib.hid (HB2.out.trans (hb3.mono HB2.out.size))
  have HLK := Lib.hid hx3
  have HSP := Lib.hid (show SpAt _ hz (List.replicate t.length sp0) from ⟨_, hy3, by rw [List.toList_toArray]; exact List.take_of_length_le (by rw [flat_len decSp_len]; simp [Ta.zeroS])⟩)
  clear hx3 hy3 hm3 hb3 HTB HRP HRT HX0 HX1 HA2 HB2 HTH
  go_wp2_with fail
  generalize (W2.alloc (.cells ((Ta.zeroS t.length).flatMap decSp).toArray 134)).alloc (.cells #[.pointer (some ⟨ga, 0, none⟩), .pointer (some ⟨gt, 0, none⟩), .pointer none, .pointer none, .int .i64 0, .pointer none, .slice (some ⟨hz, 0, none⟩) t.length t.length] 261) = W3 at *
  clear hzz hmk
  have HNF := Lib.hid (Pa.nodes_first p t hck gt pb tb cA cB W3 HTB3.out HRP3.out HRT3.out (by omega) (by omega))
  refine HNF.out.mono ?_
  rintro e W4 ⟨rfl, vu, gn, cn, gs, cs, gm, htb4, rn4, rs4, rm4, hmd4, ⟨y1, y2, y3⟩, z1, z2, z3⟩
  have hz4 := hmd4.size
  have HLK4 := Lib.hid (hmd4.blk HLK.out (by simp; omega))
  have HSP4 := Lib.hid (HSP.out.mod hmd4 (by simp; omega))
  have HZ0 := Lib.hid (hmd4.blk HY0.out (by simp; omega))
  have HZ1 := Lib.hid (hmd4.blk HY1.out (by simp; omega))
  have HA4 := Lib.hid (HA3.out.mod hmd4 (by simp; omega) (by simp; omega))
  have HB4 := Lib.hid (HB3.out.trans (hmd4.below (B := w.heap.size) (by omega) (by simp; omega)))
  have HTB4 := Lib.hid htb4
  have HRN := Lib.hid rn4
  clear htb4 rn4 rs4 rm4 hmd4 HTB3 HRP3 HRT3 HY0 HY1 HA3 HB3 HLK HSP HNF
  have hft : (Ar.fresh 4096).t = 0 := rfl
  have hfl : (Ar.fresh 4096).ws.length = 4096 := fresh_len
  have HGN := Lib.hid (Gg.new_gg ga ha (Ar.fresh 4096) W4 HA4.out (lvs p).length ⟨hLpos, by omega⟩ (by rw [hft, hfl]; omega) (by omega))
  go_wp2_with fail
  refine HGN.out.mono ?_
  rintro e W5 ⟨gg, rfl, hgb, hgg, hA5, hm5⟩
  have hz5 := hm5.size
  have hggl := lt_of_blk hgb
  have HLK5 := Lib.hid (hm5.blk HLK4.out (by simp; omega))
  have hst := blk_set HLK5.out 2 (.pointer (some ⟨gg, 0, none⟩))
  simp only [Array.set!_eq_setIfInBounds, List.setIfInBounds_toArray, List.set_cons_zero, List.set_cons_succ] at hst
  have HLK6 := Lib.hid hst
  have cj := blk_cell HLK5.out 2 (by simp)
  simp only [List.getElem_toArray, List.getElem_cons_zero, List.getElem_cons_succ] at cj
  have fj := blk_free HLK5.out 2
  clear hst
  have hmX : Mod [hz + 1] W5 (W5.setCell ⟨hz + 1, 2, none⟩ (.pointer (some ⟨gg, 0, none⟩))) := (Mod.refl _ _).setCell (by simp) _
  have hm5b : Mod [ga, ha, hz + 1] W4 (W5.setCell ⟨hz + 1, 2, none⟩ (.pointer (some ⟨gg, 0, none⟩))) := (Mod.trans ⟨hm5.os, hm5.tape, hm5.output, hm5.size, fun k hk hn => hm5.block k hk (fun h => hn (by simp at h ⊢; omega))⟩ (hmX.sub (fun k hk => by simp at hk ⊢; omega)))
  have HMM := Lib.hid hm5b
  have HA5 := Lib.hid (hA5.mod hmX (by simp; omega) (by simp; omega))
  have HGG := Lib.hid (hmX.blk hgb (by simp; omega))
  clear hgb hA5 hm5 hmX hm5b HGN HLK5 HLK4 HA4
  have hv : (((Ar.fresh 4096).t + 2 * (lvs p).length : Nat) : Int) + 1 = 2 * ((lvs p).length : Int) + 1 := by rw [hft]; omega
  have he : ({ ({ Ar.fresh 4096 with t := (Ar.fresh 4096).t + 2 * (lvs p).length } : Ar) with t := (Ar.fresh 4096).t + 2 * (lvs p).length + 1 } : Ar) = arR p := by unfold arR; rw [hft, Nat.zero_add]
  have hTK := take_any ga ha { Ar.fresh 4096 with t := (Ar.fresh 4096).t + 2 * (lvs p).length } _ HA5.out ((1 : Nat) : Int)
  rw [Fl.take_ok (m := 1) (by show (Ar.fresh 4096).t + 2 * (lvs p).length + 1 ≤ (Ar.fresh 4096).ws.length; rw [hft, hfl]; omega)] at hTK
  simp only at hTK
  rw [hv, he] at hTK
  have HTK := Lib.hid hTK
  clear hTK hv he HA5
  go_wp2_with fail
  generalize W5.setCell ⟨hz + 1, 2, none⟩ (.pointer (some ⟨gg, 0, none⟩)) = W6 at *
  clear cj fj
  refine HTK.out.mono ?_
  rintro e W7 ⟨rfl, hA7, hm7⟩
  have hm7' : Mod [ga, ha, hz + 1] W6 W7 := hm7.sub (fun k hk => by simp at hk ⊢; omega)
  have HLK7 := Lib.hid (hm7.blk HLK6.out (by simp; omega))
  have hst := blk_set HLK7.out 4 (.int .i64 (2 * ((lvs p).length : Int) + 1))
  simp only [Array.set!_eq_setIfInBounds, List.setIfInBounds_toArray, List.set_cons_zero, List.set_cons_succ] at hst
  have HLK8 := Lib.hid hst
  have cj := blk_cell HLK7.out 4 (by simp)
  simp only [List.getElem_toArray, List.getElem_cons_zero, List.getElem_cons_succ] at cj
  have fj := blk_free HLK7.out 4
  clear hst
  have hm8 : Mod [hz + 1] W7 (W7.setCell ⟨hz + 1, 4, none⟩ (.int .i64 (2 * ((lvs p).length : Int) + 1))) := (Mod.refl _ _).setCell (by simp) _
  have HM8 := Lib.hid ((HMM.out.trans hm7').trans (hm8.sub (fun k hk => by simp at hk ⊢; omega)))
  have HA8 := Lib.hid (hA7.mod hm8 (by simp; omega) (by simp; omega))
  have HG8 := Lib.hid (hm8.blk (hm7.blk HGG.out (by simp; omega)) (by simp; omega))
  have hz78 := HM8.out.size
  have HZ0' := Lib.hid (HM8.out.blk HZ0.out (by simp; omega))
  have HZ1' := Lib.hid (HM8.out.blk HZ1.out (by simp; omega))
  have HS8 := Lib.hid (Sl.mod (Sl.below HS.out (HB4.out.mono hb0.1)) HM8.out (by omega) (by simp; omega))
  have HT8 := Lib.hid (Sl.mod (Sl.below HT.out (HB4.out.mono hb0.1)) HM8.out (by omega) (by simp; omega))
  clear hm7 hm7' hm8 hA7 HLK7 HGG HMM HTK HZ0 HZ1 HLK6
  have b0 := blk_cell HZ0'.out 0 (by simp)
  have b1 := blk_cell HZ0'.out 1 (by simp)
  have p0 := blk_cell HZ1'.out 0 (by simp)
  have p1 := blk_cell HZ1'.out 1 (by simp)
  have p2 := blk_cell HZ1'.out 2 (by simp)
  have p3 := blk_cell HZ1'.out 3 (by simp)
  simp only [List.getElem_toArray, List.getElem_cons_zero, List.getElem_cons_succ] at b0 b1 p0 p1 p2 p3
  go_wp2_with fail
  generalize W7.setCell ⟨hz + 1, 4, none⟩ (.int .i64 (2 * ((lvs p).length : Int) + 1)) = W8 at *
  clear cj fj
  have hlen : (arR p).ws.length = 4096 := fresh_len
  have hrm := nw_room O hp (arR p).t (lvs p).length (Nat.le_refl _)
  have hat : (arR p).t = 2 * (lvs p).length + 1 := rfl
  have HNC := Lib.hid (new_co p t A B c d W8 hck (HS8.out.more (by omega)) (HT8.out.more (by omega)) ga ha (arR p) HA8.out (by omega) hne kg kl par bud O hB (by omega) (by omega) (by show 0 ≤ 1000; omega))
  refine HNC.out.mono ?_
  unfold NewC
  rintro e W9 ⟨cd, rfl, hco, ⟨g1, g2, hlw⟩, hcol, hm9⟩
  have hA9 := hco.d.ar
  rw [g1, g2] at hA9
  have hz9 := hm9.size
  have HLK9 := Lib.hid (hm9.blk HLK8.out (by simp; omega))
  have hst := blk_set HLK9.out 5 (.pointer (some ⟨cd.gl, 0, none⟩))
  simp only [Array.set!_eq_setIfInBounds, List.setIfInBounds_toArray, List.set_cons_zero, List.set_cons_succ] at hst
  have HLKa := Lib.hid hst
  have cj := blk_cell HLK9.out 5 (by simp)
  simp only [List.getElem_toArray, List.getElem_cons_zero, List.getElem_cons_succ] at cj
  have fj := blk_free HLK9.out 5
  clear hst
  have hma : Mod [hz + 1] W9 (W9.setCell ⟨hz + 1, 5, none⟩ (.pointer (some ⟨cd.gl, 0, none⟩))) := (Mod.refl _ _).setCell (by simp) _
  have HMa := Lib.hid ((HM8.out.trans (hm9.sub (fun k hk => by simp at hk ⊢; omega))).trans (hma.sub (T := [ga, ha, hz + 1]) (fun k hk => by simp at hk ⊢; omega)))
  have HAa := Lib.hid (hA9.mod hma (by simp; omega) (by simp; omega))
  have HGa := Lib.hid (hma.blk (hm9.blk HG8.out (by simp; omega)) (by simp; omega))
  clear hco g1 g2 hlw hcol hm9 hA9 hma HLK9 HLK8 HA8 HG8 HM8 HZ0' HZ1' HS8 HT8 HNC b0 b1 p0 p1 p2 p3
  have ca2 := blk_cell HLKa.out 2 (by simp)
  simp only [List.getElem_toArray, List.getElem_cons_zero, List.getElem_cons_succ] at ca2
  go_wp2_with fail
  generalize W9.setCell ⟨hz + 1, 5, none⟩ (.pointer (some ⟨cd.gl, 0, none⟩)) = Wa at *
  clear cj fj
  refine (Gg.new_dr gg Wa).mono ?_
  rintro e Wb ⟨gd, rfl, -, hbb⟩
  have hmb : Mod [] Wa Wb := Mod.of_below hbb
  have hzb := hbb.size
  have hza := HMa.out.size
  have HLKb := Lib.hid (hmb.blk HLKa.out (by simp))
  have hst := blk_set HLKb.out 3 (.pointer (some ⟨gd, 0, none⟩))
  simp only [Array.set!_eq_setIfInBounds, List.setIfInBounds_toArray, List.set_cons_zero, List.set_cons_succ] at hst
  have HLKc := Lib.hid hst
  have cj := blk_cell HLKb.out 3 (by simp)
  simp only [List.getElem_toArray, List.getElem_cons_zero, List.getElem_cons_succ] at cj
  have fj := blk_free HLKb.out 3
  clear hst
  have hmc : Mod [hz + 1] Wb (Wb.setCell ⟨hz + 1, 3, none⟩ (.pointer (some ⟨gd, 0, none⟩))) := (Mod.refl _ _).setCell (by simp) _
  have HMc := Lib.hid ((HMa.out.trans (hmb.sub (fun k hk => by simp at hk))).trans (hmc.sub (T := [ga, ha, hz + 1]) (fun k hk => by simp at hk ⊢; omega)))
  have HAc := Lib.hid ((HAa.out.mod hmb (by simp) (by simp)).mod hmc (by simp; omega) (by simp; omega))
  have HGc := Lib.hid (hmc.blk (hmb.blk HGa.out (by simp)) (by simp; omega))
  clear hmb hmc HLKb HLKa HMa HAa HGa hbb ca2
  go_wp2_with fail
  generalize Wb.setCell ⟨hz + 1, 3, none⟩ (.pointer (some ⟨gd, 0, none⟩)) = Wc at *
  go_ret2
  have hzc := HMc.out.size
  have hgc := lt_of_blk HGc.out
  have htc := HTB4.out.mod HMc.out (by simp; omega)
  refine ⟨⟨hz + 1, gt, gg, gd, cd.gl, hz, ga, ha, gn, some ⟨tb, 0, none⟩, cB, cn⟩, rfl, ⟨HLKc.out, HGc.out, htc.cells.2.1, htc.cells.2.2.1, htc.cells.2.2.2.2.2.1, fun k hk => ?_, HAc.out, HSP4.out.mod HMc.out (by simp; omega), List.length_replicate, ⟨⟨⟨?_, ?_, ?_⟩, ?_, ?_, ?_⟩, ⟨⟨?_, ?_, ?_⟩, ?_, ?_, ?_⟩, ?_, ?_⟩, ⟨⟨?_, ?_, ?_, ?_⟩, ?_, ?_, ?_⟩, Nat.le_refl _⟩, ⟨rfl, rfl, ?_, ?_⟩, ⟨?_, ?_, ?_⟩, ?_⟩
  · have := HRN.out.mod HMc.out z1 (by simp; omega) k (by rw [Pa.ndL_len]; exact hk)
    rw [show (Pa.ndL p t t.length).getD k 0 = (ndI p t k : Int) from Pa.map_getD hk] at this
    exact this
  all_goals (try dsimp only)
  all_goals first
    | omega
    | exact mod_fresh HB4.out (show w.heap.size ≤ hz + 1 by omega) (HMc.out.sub (T := [hz + 1, ga, ha]) (fun k hk => by simp only [List.mem_cons, List.not_mem_nil, or_false] at hk ⊢; omega))
end Go.Proofs.YtfmiioddhpkdkaaGreat.Rw

/- Package rw: New; package locks: make, of a lock of readers and writers. -/
namespace Go.Proofs.YtfmiioddhpkdkaaGreat.Rw
open Go.RowKit Tp Ara Lok Fl Lk Wr Co Cm Wo

theorem RdA.mod {Ty : TypeId} {L : Nat} {W W' : World} {c : Rc} {P : Rp} {x : Ar × List Sp} (K : RdA Ty L W c P x) {S : List Nat} (hm : Mod S W W') (hk : c.gk ∉ S ∧ c.gg ∉ S ∧ c.gt ∉ S ∧ c.gn ∉ S) (ha : c.ga ∉ S ∧ c.ha ∉ S ∧ c.hs ∉ S) : RdA Ty L W' c P x := by
  obtain ⟨⟨l1, l2, l3, l4⟩, l5, l6, l7⟩ := K.lo
  have hz := K.sz
  have cm : ∀ (g i : Nat), g < L → g ∉ S → W'.cell? ⟨g, i, none⟩ = W.cell? ⟨g, i, none⟩ := fun g i h1 h2 => by
    unfold World.cell?
    rw [hm.block g (by omega) h2]
  exact ⟨hm.blk K.lb hk.1, hm.blk K.gb hk.2.1, (cm _ _ l3 hk.2.2.1).trans K.t1, (cm _ _ l3 hk.2.2.1).trans K.t2, (cm _ _ l3 hk.2.2.1).trans K.t6, fun k h => (cm _ _ l4 hk.2.2.2).trans (K.rn k h), K.ar.mod hm ha.1 ha.2.1, K.sp.mod hm ha.2.2, K.len, K.ne, K.lo, Nat.le_trans hz hm.size⟩
def RwA (Ty TyP : TypeId) (m : Int) (p t : List Int) (q : Nw) (ga ha gr B0 : Nat) (W : World) : Prop :=
  ∃ c : Rc, RwB W gr m TyP (.pointer (some ⟨c.gk, 0, none⟩)) ∧ RdA Ty W.heap.size W c (rpOf m p t) (q.σN (arR p) q.NN, List.replicate t.length sp0) ∧ (c.ga = ga ∧ c.ha = ha ∧ B0 ≤ c.hs ∧ B0 ≤ c.gk) ∧ (B0 ≤ c.gg ∧ B0 ≤ c.gt ∧ B0 ≤ c.gn) ∧ B0 ≤ gr ∧ gr ≠ c.hs
theorem rw_neutral (p t : List Int) (A B : Option Addr) (c d : Nat) (w : World) (hck : chk p t = 0) (B0 : Nat) (hs : Sl w B0 A (p.flatMap decI)) (ht : Sl w B0 B (t.flatMap decI)) (ga ha : Nat) (hb0 : B0 ≤ w.heap.size ∧ B0 ≤ ga ∧ B0 ≤ ha) (hA : ArAt w ga ha (Ar.fresh 4096)) (hha : ha < w.heap.size) (hne : ga ≠ ha) (kg kl par bud : Int) (O : (nwOf p t kg kl par bud).Ok) (hp : par ≤ 32) (hB : Bud.right bud = true) :
    Calls Tryz.prog 74 #[.pointer (some ⟨ga, 0, none⟩), .int .i64 1, (.agg #[.slice A p.length c, .slice B t.length d]), (.agg #[.int .i64 kg, .int .i64 kl, .int .i64 par, .int .i64 bud])] w fun e w' => ∃ gr, e = .returned (.tuple #[.pointer (some ⟨gr, 0, none⟩), .int .i64 0]) ∧ RwA 254 210 1 p t (nwOf p t kg kl par bud) ga ha gr w.heap.size w' ∧ Mod [ga, ha] w w' := by
  have hga := hA.lt
  have HM0 := Lib.hid (MkB.made w (.slice A p.length c) (.slice B t.length d) kg kl par bud)
  generalize hW1 : (w.alloc (.cells #[.slice A p.length c, .slice B t.length d] 24)).alloc (.cells #[.int .i64 kg, .int .i64 kl, .int .i64 par, .int .i64 bud] 56) = W1 at *
  have hz1 : w.heap.size + 1 < W1.heap.size := lt_of_blk HM0.out.x1
  have hb1 := below_new W1 (.cells #[.int .i64 1, .nilIface] 209)
  have hx1 := blk_new W1 (.cells #[.int .i64 1, .nilIface] 209)
  have hz2 : (W1.alloc (.cells #[.int .i64 1, .nilIface] 209)).heap.size = W1.heap.size + 1 := by simp
  have hbb := HM0.out.b.trans (hb1.mono HM0.out.b.size)
  have hm1 : Mod [] W1 (W1.alloc (.cells #[.int .i64 1, .nilIface] 209)) := Mod.of_below hb1
  have x0 := blk_cell (hm1.blk HM0.out.x0 (by simp)) 0 (by simp)
  have x1 := blk_cell (hm1.blk HM0.out.x0 (by simp)) 1 (by simp)
  have y0 := blk_cell (hm1.blk HM0.out.x1 (by simp)) 0 (by simp)
  have y1 := blk_cell (hm1.blk HM0.out.x1 (by simp)) 1 (by simp)
  have y2 := blk_cell (hm1.blk HM0.out.x1 (by simp)) 2 (by simp)
  have y3 := blk_cell (hm1.blk HM0.out.x1 (by simp)) 3 (by simp)
  simp only [List.getElem_toArray, List.getElem_cons_zero, List.getElem_cons_succ] at x0 x1 y0 y1 y2 y3
  have HN := Lib.hid (new_neutral 1 p t A B c d (W1.alloc (.cells #[.int .i64 1, .nilIface] 209)) hck B0 (Sl.below hs (hbb.mono hb0.1)) (Sl.below ht (hbb.mono hb0.1)) ga ha ⟨by omega, hb0.2⟩ (hA.mod (S := []) (Mod.of_below hbb) (by simp) (by simp)) (by omega) hne kg kl par bud O hp hB)
  have HX1 := Lib.hid hx1
  have HB := Lib.hid hbb
  clear hs ht hA O hB hx1 hm1 hbb hb1
  go_enter Tryz.func74, Tryz.ntmps74
  go_wp2_with fail
  clear hW1
  generalize W1.alloc (.cells #[.int .i64 1, .nilIface] 209) = W2 at *
  refine HN.out.mono ?_
  unfold NewR
  rintro e W3 ⟨cc, rfl, hk, ⟨g1, g2, g3, g4⟩, ⟨g5, g6, g7⟩, hm3⟩
  have hz3 := hm3.size
  have HR3 := Lib.hid (hm3.blk HX1.out (by simp; omega))
  have hst := blk_set HR3.out 1 (.iface 210 (.pointer (some ⟨cc.gk, 0, none⟩)))
  simp only [Array.set!_eq_setIfInBounds, List.setIfInBounds_toArray, List.set_cons_zero, List.set_cons_succ] at hst
  have HR4 := Lib.hid hst
  have cj := blk_cell HR3.out 1 (by simp)
  simp only [List.getElem_toArray, List.getElem_cons_zero, List.getElem_cons_succ] at cj
  have fj := blk_free HR3.out 1
  clear hst
  have hm4 : Mod [W1.heap.size] W3 (W3.setCell ⟨W1.heap.size, 1, none⟩ (.iface 210 (.pointer (some ⟨cc.gk, 0, none⟩)))) := (Mod.refl _ _).setCell (by simp) _
  have hsz4 : (W3.setCell ⟨W1.heap.size, 1, none⟩ (.iface 210 (.pointer (some ⟨cc.gk, 0, none⟩)))).heap.size = W3.heap.size := by simp [World.setCell]
  have HK4 := Lib.hid (hk.mod hm4 ⟨by simp; omega, by simp; omega, by simp; omega, by simp; omega⟩ ⟨by simp; omega, by simp; omega, by simp; omega⟩)
  rw [← hsz4] at HK4
  have HM4 := Lib.hid (show Mod [ga, ha] w _ from mod_fresh (gl := W1.heap.size) HB.out (by omega) ((hm3.sub (T := [W1.heap.size, ga, ha]) (fun k hk => List.mem_cons_of_mem _ hk)).trans (hm4.sub (fun k hk => by simp at hk; subst hk; exact List.mem_cons_self ..))))
  have HGG := Lib.hid (show (cc.ga = ga ∧ cc.ha = ha ∧ w.heap.size ≤ cc.hs ∧ w.heap.size ≤ cc.gk) ∧ (w.heap.size ≤ cc.gg ∧ w.heap.size ≤ cc.gt ∧ w.heap.size ≤ cc.gn) ∧ w.heap.size ≤ W1.heap.size ∧ W1.heap.size ≠ cc.hs from ⟨⟨g1, g2, by omega, by omega⟩, ⟨by omega, by omega, by omega⟩, by omega, by omega⟩)
  clear hk g1 g2 g3 g4 g5 g6 g7 hm3 hm4 HR3 HN HX1 x0 x1 y0 y1 y2 y3 hsz4
  go_wp2_with fail
  go_ret2
  exact ⟨_, rfl, ⟨cc, HR4.out, HK4.out, HGG.out.1, HGG.out.2.1, HGG.out.2.2.1, HGG.out.2.2.2⟩, HM4.out⟩
theorem rw_readers (p t : List Int) (A B : Option Addr) (c d : Nat) (w : World) (hck : chk p t = 0) (B0 : Nat) (hs : Sl w B0 A (p.flatMap decI)) (ht : Sl w B0 B (t.flatMap decI)) (ga ha : Nat) (hb0 : B0 ≤ w.heap.size ∧ B0 ≤ ga ∧ B0 ≤ ha) (hA : ArAt w ga ha (Ar.fresh 4096)) (hha : ha < w.heap.size) (hne : ga ≠ ha) (kg kl par bud : Int) (O : (nwOf p t kg kl par bud).Ok) (hp : par ≤ 32) (hB : Bud.right bud = true) :
    Calls Tryz.prog 74 #[.pointer (some ⟨ga, 0, none⟩), .int .i64 2, (.agg #[.slice A p.length c, .slice B t.length d]), (.agg #[.int .i64 kg, .int .i64 kl, .int .i64 par, .int .i64 bud])] w fun e w' => ∃ gr, e = .returned (.tuple #[.pointer (some ⟨gr, 0, none⟩), .int .i64 0]) ∧ RwA 259 213 2 p t (nwOf p t kg kl par bud) ga ha gr w.heap.size w' ∧ Mod [ga, ha] w w' := by
  have hga := hA.lt
  have HM0 := Lib.hid (MkB.made w (.slice A p.length c) (.slice B t.length d) kg kl par bud)
  generalize hW1 : (w.alloc (.cells #[.slice A p.length c, .slice B t.length d] 24)).alloc (.cells #[.int .i64 kg, .int .i64 kl, .int .i64 par, .int .i64 bud] 56) = W1 at *
  have hz1 : w.heap.size + 1 < W1.heap.size := lt_of_blk HM0.out.x1
  have hb1 := below_new W1 (.cells #[.int .i64 2, .nilIface] 209)
  have hx1 := blk_new W1 (.cells #[.int .i64 2, .nilIface] 209)
  have hz2 : (W1.alloc (.cells #[.int .i64 2, .nilIface] 209)).heap.size = W1.heap.size + 1 := by simp
  have hbb := HM0.out.b.trans (hb1.mono HM0.out.b.size)
  have hm1 : Mod [] W1 (W1.alloc (.cells #[.int .i64 2, .nilIface] 209)) := Mod.of_below hb1
  have x0 := blk_cell (hm1.blk HM0.out.x0 (by simp)) 0 (by simp)
  have x1 := blk_cell (hm1.blk HM0.out.x0 (by simp)) 1 (by simp)
  have y0 := blk_cell (hm1.blk HM0.out.x1 (by simp)) 0 (by simp)
  have y1 := blk_cell (hm1.blk HM0.out.x1 (by simp)) 1 (by simp)
  have y2 := blk_cell (hm1.blk HM0.out.x1 (by simp)) 2 (by simp)
  have y3 := blk_cell (hm1.blk HM0.out.x1 (by simp)) 3 (by simp)
  simp only [List.getElem_toArray, List.getElem_cons_zero, List.getElem_cons_succ] at x0 x1 y0 y1 y2 y3
  have HN := Lib.hid (new_readers 2 p t A B c d (W1.alloc (.cells #[.int .i64 2, .nilIface] 209)) hck B0 (Sl.below hs (hbb.mono hb0.1)) (Sl.below ht (hbb.mono hb0.1)) ga ha ⟨by omega, hb0.2⟩ (hA.mod (S := []) (Mod.of_below hbb) (by simp) (by simp)) (by omega) hne kg kl par bud O hp hB)
  have HX1 := Lib.hid hx1
  have HB := Lib.hid hbb
  clear hs ht hA O hB hx1 hm1 hbb hb1
  go_enter Tryz.func74, Tryz.ntmps74
  go_wp2_with fail
  clear hW1
  generalize W1.alloc (.cells #[.int .i64 2, .nilIface] 209) = W2 at *
  refine HN.out.mono ?_
  unfold NewR
  rintro e W3 ⟨cc, rfl, hk, ⟨g1, g2, g3, g4⟩, ⟨g5, g6, g7⟩, hm3⟩
  have hz3 := hm3.size
  have HR3 := Lib.hid (hm3.blk HX1.out (by simp; omega))
  have hst := blk_set HR3.out 1 (.iface 213 (.pointer (some ⟨cc.gk, 0, none⟩)))
  simp only [Array.set!_eq_setIfInBounds, List.setIfInBounds_toArray, List.set_cons_zero, List.set_cons_succ] at hst
  have HR4 := Lib.hid hst
  have cj := blk_cell HR3.out 1 (by simp)
  simp only [List.getElem_toArray, List.getElem_cons_zero, List.getElem_cons_succ] at cj
  have fj := blk_free HR3.out 1
  clear hst
  have hm4 : Mod [W1.heap.size] W3 (W3.setCell ⟨W1.heap.size, 1, none⟩ (.iface 213 (.pointer (some ⟨cc.gk, 0, none⟩)))) := (Mod.refl _ _).setCell (by simp) _
  have hsz4 : (W3.setCell ⟨W1.heap.size, 1, none⟩ (.iface 213 (.pointer (some ⟨cc.gk, 0, none⟩)))).heap.size = W3.heap.size := by simp [World.setCell]
  have HK4 := Lib.hid (hk.mod hm4 ⟨by simp; omega, by simp; omega, by simp; omega, by simp; omega⟩ ⟨by simp; omega, by simp; omega, by simp; omega⟩)
  rw [← hsz4] at HK4
  have HM4 := Lib.hid (show Mod [ga, ha] w _ from mod_fresh (gl := W1.heap.size) HB.out (by omega) ((hm3.sub (T := [W1.heap.size, ga, ha]) (fun k hk => List.mem_cons_of_mem _ hk)).trans (hm4.sub (fun k hk => by simp at hk; subst hk; exact List.mem_cons_self ..))))
  have HGG := Lib.hid (show (cc.ga = ga ∧ cc.ha = ha ∧ w.heap.size ≤ cc.hs ∧ w.heap.size ≤ cc.gk) ∧ (w.heap.size ≤ cc.gg ∧ w.heap.size ≤ cc.gt ∧ w.heap.size ≤ cc.gn) ∧ w.heap.size ≤ W1.heap.size ∧ W1.heap.size ≠ cc.hs from ⟨⟨g1, g2, by omega, by omega⟩, ⟨by omega, by omega, by omega⟩, by omega, by omega⟩)
  clear hk g1 g2 g3 g4 g5 g6 g7 hm3 hm4 HR3 HN HX1 x0 x1 y0 y1 y2 y3 hsz4
  go_wp2_with fail
  go_ret2
  exact ⟨_, rfl, ⟨cc, HR4.out, HK4.out, HGG.out.1, HGG.out.2.1, HGG.out.2.2.1, HGG.out.2.2.2⟩, HM4.out⟩
theorem rw_writers (p t : List Int) (A B : Option Addr) (c d : Nat) (w : World) (hck : chk p t = 0) (B0 : Nat) (hs : Sl w B0 A (p.flatMap decI)) (ht : Sl w B0 B (t.flatMap decI)) (ga ha : Nat) (hb0 : B0 ≤ w.heap.size ∧ B0 ≤ ga ∧ B0 ≤ ha) (hA : ArAt w ga ha (Ar.fresh 4096)) (hha : ha < w.heap.size) (hne : ga ≠ ha) (kg kl par bud : Int) (O : (nwOf p t kg kl par bud).Ok) (hp : par ≤ 32) (hB : Bud.right bud = true) :
    Calls Tryz.prog 74 #[.pointer (some ⟨ga, 0, none⟩), .int .i64 3, (.agg #[.slice A p.length c, .slice B t.length d]), (.agg #[.int .i64 kg, .int .i64 kl, .int .i64 par, .int .i64 bud])] w fun e w' => ∃ gr, e = .returned (.tuple #[.pointer (some ⟨gr, 0, none⟩), .int .i64 0]) ∧ RwA 261 216 3 p t (nwOf p t kg kl par bud) ga ha gr w.heap.size w' ∧ Mod [ga, ha] w w' := by
  have hga := hA.lt
  have HM0 := Lib.hid (MkB.made w (.slice A p.length c) (.slice B t.length d) kg kl par bud)
  generalize hW1 : (w.alloc (.cells #[.slice A p.length c, .slice B t.length d] 24)).alloc (.cells #[.int .i64 kg, .int .i64 kl, .int .i64 par, .int .i64 bud] 56) = W1 at *
  have hz1 : w.heap.size + 1 < W1.heap.size := lt_of_blk HM0.out.x1
  have hb1 := below_new W1 (.cells #[.int .i64 3, .nilIface] 209)
  have hx1 := blk_new W1 (.cells #[.int .i64 3, .nilIface] 209)
  have hz2 : (W1.alloc (.cells #[.int .i64 3, .nilIface] 209)).heap.size = W1.heap.size + 1 := by simp
  have hbb := HM0.out.b.trans (hb1.mono HM0.out.b.size)
  have hm1 : Mod [] W1 (W1.alloc (.cells #[.int .i64 3, .nilIface] 209)) := Mod.of_below hb1
  have x0 := blk_cell (hm1.blk HM0.out.x0 (by simp)) 0 (by simp)
  have x1 := blk_cell (hm1.blk HM0.out.x0 (by simp)) 1 (by simp)
  have y0 := blk_cell (hm1.blk HM0.out.x1 (by simp)) 0 (by simp)
  have y1 := blk_cell (hm1.blk HM0.out.x1 (by simp)) 1 (by simp)
  have y2 := blk_cell (hm1.blk HM0.out.x1 (by simp)) 2 (by simp)
  have y3 := blk_cell (hm1.blk HM0.out.x1 (by simp)) 3 (by simp)
  simp only [List.getElem_toArray, List.getElem_cons_zero, List.getElem_cons_succ] at x0 x1 y0 y1 y2 y3
  have HN := Lib.hid (new_writers 3 p t A B c d (W1.alloc (.cells #[.int .i64 3, .nilIface] 209)) hck B0 (Sl.below hs (hbb.mono hb0.1)) (Sl.below ht (hbb.mono hb0.1)) ga ha ⟨by omega, hb0.2⟩ (hA.mod (S := []) (Mod.of_below hbb) (by simp) (by simp)) (by omega) hne kg kl par bud O hp hB)
  have HX1 := Lib.hid hx1
  have HB := Lib.hid hbb
  clear hs ht hA O hB hx1 hm1 hbb hb1
  go_enter Tryz.func74, Tryz.ntmps74
  go_wp2_with fail
  clear hW1
  generalize W1.alloc (.cells #[.int .i64 3, .nilIface] 209) = W2 at *
  refine HN.out.mono ?_
  unfold NewR
  rintro e W3 ⟨cc, rfl, hk, ⟨g1, g2, g3, g4⟩, ⟨g5, g6, g7⟩, hm3⟩
  have hz3 := hm3.size
  have HR3 := Lib.hid (hm3.blk HX1.out (by simp; omega))
  have hst := blk_set HR3.out 1 (.iface 216 (.pointer (some ⟨cc.gk, 0, none⟩)))
  simp only [Array.set!_eq_setIfInBounds, List.setIfInBounds_toArray, List.set_cons_zero, List.set_cons_succ] at hst
  have HR4 := Lib.hid hst
  have cj := blk_cell HR3.out 1 (by simp)
  simp only [List.getElem_toArray, List.getElem_cons_zero, List.getElem_cons_succ] at cj
  have fj := blk_free HR3.out 1
  clear hst
  have hm4 : Mod [W1.heap.size] W3 (W3.setCell ⟨W1.heap.size, 1, none⟩ (.iface 216 (.pointer (some ⟨cc.gk, 0, none⟩)))) := (Mod.refl _ _).setCell (by simp) _
  have hsz4 : (W3.setCell ⟨W1.heap.size, 1, none⟩ (.iface 216 (.pointer (some ⟨cc.gk, 0, none⟩)))).heap.size = W3.heap.size := by simp [World.setCell]
  have HK4 := Lib.hid (hk.mod hm4 ⟨by simp; omega, by simp; omega, by simp; omega, by simp; omega⟩ ⟨by simp; omega, by simp; omega, by simp; omega⟩)
  rw [← hsz4] at HK4
  have HM4 := Lib.hid (show Mod [ga, ha] w _ from mod_fresh (gl := W1.heap.size) HB.out (by omega) ((hm3.sub (T := [W1.heap.size, ga, ha]) (fun k hk => List.mem_cons_of_mem _ hk)).trans (hm4.sub (fun k hk => by simp at hk; subst hk; exact List.mem_cons_self ..))))
  have HGG := Lib.hid (show (cc.ga = ga ∧ cc.ha = ha ∧ w.heap.size ≤ cc.hs ∧ w.heap.size ≤ cc.gk) ∧ (w.heap.size ≤ cc.gg ∧ w.heap.size ≤ cc.gt ∧ w.heap.size ≤ cc.gn) ∧ w.heap.size ≤ W1.heap.size ∧ W1.heap.size ≠ cc.hs from ⟨⟨g1, g2, by omega, by omega⟩, ⟨by omega, by omega, by omega⟩, by omega, by omega⟩)
  clear hk g1 g2 g3 g4 g5 g6 g7 hm3 hm4 HR3 HN HX1 x0 x1 y0 y1 y2 y3 hsz4
  go_wp2_with fail
  go_ret2
  exact ⟨_, rfl, ⟨cc, HR4.out, HK4.out, HGG.out.1, HGG.out.2.1, HGG.out.2.2.1, HGG.out.2.2.2⟩, HM4.out⟩
end Go.Proofs.YtfmiioddhpkdkaaGreat.Rw

