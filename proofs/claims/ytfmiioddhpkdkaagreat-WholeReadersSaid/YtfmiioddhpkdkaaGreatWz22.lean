/- Merged texts: Cm14, Rn1, Cm15, Cm16, Lk1. -/
import Derived.Test.YtfmiioddhpkdkaaGreatWz21
set_option linter.unusedVariables false
set_option maxRecDepth 100000
set_option maxHeartbeats 8000000
/- Package cohort: the walk of New, where all goes well; and where the budget may not be. -/
namespace Go.Proofs.YtfmiioddhpkdkaaGreat.Cm
open Go.RowKit Tp Ara Lok Fl Co

theorem infoN : (Tryz.prog.info? 179).map (fun i => (i.zero, i.size, i.bytes)) = some (some (.agg #[.pointer none, .int .i64 0]), 2, 16) := by kernel_rfl
def nwOf (p t : List Int) (kg kl par bud : Int) : Nw := ⟨kg, kl, par, bud, (lvs p).length, t.length, fun n => max 1 (mtI p t n), ndI p t, slI t⟩
def NewC (q : Nw) (σ : Ar) (ga ha : Nat) (w : World) (e : Ending) (w' : World) : Prop :=
  ∃ cd : Cd, e = .returned (.tuple #[.pointer (some ⟨cd.gl, 0, none⟩), .int .i64 0]) ∧ CoAt w' cd (q.pm σ) (q.st σ) ∧ (cd.ga = ga ∧ cd.ha = ha ∧ Lw cd q.NN w.heap.size) ∧ (∀ x, x < w.heap.size → x ≠ ga → x ≠ ha → cd.col x = 0) ∧ Mod [ga, ha] w w'
def NwJ (w : World) (B0 : Nat) (b : Bl) (q : Nw) (σ0 : Ar) (ms : List Int) (a : Act) (W : World) : Prop :=
  a.tmps.size = 97 ∧ a.defers = [] ∧ a.tmps.getD 0 undef = .pointer (some ⟨b.ga, 0, none⟩) ∧ a.tmps.getD 5 undef = .pointer (some ⟨b.gp, 0, none⟩) ∧ a.tmps.getD 8 undef = .pointer (some ⟨b.gt, 0, none⟩) ∧ a.tmps.getD 10 undef = .pointer (some ⟨b.gl, 0, none⟩) ∧ a.tmps.getD 55 undef = .int .i64 (q.NN : Int) ∧
    ∃ (k : Nat) (lf lk lh col : Nat → Nat) (v : Value), a.tmps.getD 56 undef = .int .i64 (k : Int) ∧ k ≤ q.NN ∧ NwW w B0 b q σ0 ms k k (q.σN σ0 k) lf lk lh col v W
theorem frame97 {a : Act} (h : a.tmps.size = 97) (hd : a.defers = []) : ∃ u : Nat → Value, a = { tmps := #[u 0, u 1, u 2, u 3, u 4, u 5, u 6, u 7, u 8, u 9, u 10, u 11, u 12, u 13, u 14, u 15, u 16, u 17, u 18, u 19, u 20, u 21, u 22, u 23, u 24, u 25, u 26, u 27, u 28, u 29, u 30, u 31, u 32, u 33, u 34, u 35, u 36, u 37, u 38, u 39, u 40, u 41, u 42, u 43, u 44, u 45, u 46, u 47, u 48, u 49, u 50, u 51, u 52, u 53, u 54, u 55, u 56, u 57, u 58, u 59, u 60, u 61, u 62, u 63, u 64, u 65, u 66, u 67, u 68, u 69, u 70, u 71, u 72, u 73, u 74, u 75, u 76, u 77, u 78, u 79, u 80, u 81, u 82, u 83, u 84, u 85, u 86, u 87, u 88, u 89, u 90, u 91, u 92, u 93, u 94, u 95, u 96], defers := [] } ∧ ∀ n, a.tmps.getD n undef = u n := by
  refine ⟨fun n => a.tmps.getD n undef, ?_, fun _ => rfl⟩
  have h1 := arr_lit a.tmps h
  cases a with
  | mk t d =>
    simp only at hd h1
    subst hd
    congr 1
section
variable (p t : List Int) (A B : Option Addr) (c d : Nat) (w : World) (hck : chk p t = 0) (hs : Sl w w.heap.size A (p.flatMap decI)) (ht : Sl w w.heap.size B (t.flatMap decI))
include hck hs ht
theorem new_co (ga ha : Nat) (σ : Ar) (hA : ArAt w ga ha σ) (hha : ha < w.heap.size) (hne : ga ≠ ha) (kg kl par bud : Int) (O : (nwOf p t kg kl par bud).Ok) (hB : Bud.right bud = true) (hr : (nwOf p t kg kl par bud).tN σ.t (lvs p).length ≤ σ.ws.length) (hw : σ.ws.length ≤ 4096) (ho : σ.ops ≤ 1000) :
    Calls Tryz.prog 69 #[.pointer (some ⟨ga, 0, none⟩), (.agg #[.slice A p.length c, .slice B t.length d]), .agg #[.int .i64 kg, .int .i64 kl, .int .i64 par, .int .i64 bud]] w (NewC (nwOf p t kg kl par bud) σ ga ha w) := by
  obtain ⟨l1, l2, l3, l4⟩ := chk_len hck
  have hLL := lvs_len p
  have hga := hA.lt
  have hmk := fun W => Ta.make_spots t.length (by omega) W
  have HS := Lib.hid hs
  have HT := Lib.hid ht
  have HBD := Lib.hid hB
  have HA := Lib.hid hA
  have HCK := Lib.hid hck
  have HO := Lib.hid O
  have HR := Lib.hid hr
  clear hs ht hB hA O hr
  go_enter Tryz.func69, Tryz.ntmps69
  go_upto_region 1 with fail
  have HX := Lib.hid (Bx.made w (.slice A p.length c) (.slice B t.length d) 24)
  have hx9 := blk_new (w.alloc (.cells #[.slice A p.length c, .slice B t.length d] 24)) (.cells #[.int .i64 kg, .int .i64 kl, .int .i64 par, .int .i64 bud] 56)
  have hb9 := below_new (w.alloc (.cells #[.slice A p.length c, .slice B t.length d] 24)) (.cells #[.int .i64 kg, .int .i64 kl, .int .i64 par, .int .i64 bud] 56)
  have hs9 : (w.alloc (.cells #[.slice A p.length c, .slice B t.length d] 24)).heap.size = w.heap.size + 1 := by simp
  rw [hs9] at hx9
  generalize hW1 : (w.alloc (.cells #[.slice A p.length c, .slice B t.length d] 24)).alloc (.cells #[.int .i64 kg, .int .i64 kl, .int .i64 par, .int .i64 bud] 56) = W1 at *
  clear hW1
  have HX1 := Lib.hid (HX.out.step hb9)
  have hsw := HX1.out.1.size
  have HP1 := Lib.hid hx9
  have hlt9 := lt_of_blk hx9
  have c0 := HX1.out.2.2.1
  have c1 := HX1.out.2.2.2
  clear HX hb9 hx9 hs9
  have HNP := Lib.hid (Pa.pnew_ok p t A B c d W1 hck (HX1.out.sl HS.out) (HX1.out.sl HT.out))
  go_wp2_with fail
  refine HNP.out.mono ?_
  rintro e W2 ⟨gt, pb, tb, cA, cB, rfl, htb, rpb, rtb, ⟨o1, o2, o3, o4⟩, b2⟩
  have HTB := Lib.hid htb
  have hgt := lt_of_blk htb
  have HRP := Lib.hid rpb
  have HRT := Lib.hid rtb
  have hs2 := b2.size
  have HB2 := Lib.hid (HX1.out.1.trans (b2.mono HX1.out.1.size))
  have HP2 := Lib.hid ((Mod.of_below (S := []) b2).blk HP1.out (by simp))
  have p3 := blk_cell HP2.out 3 (by simp)
  simp at p3
  clear htb rpb rtb b2 HX1 HP1 HNP c0 c1
  go_wp2_with fail
  refine (Bud.right_any bud _).mono ?_
  rintro e wx ⟨rfl, hwx⟩
  obtain rfl := hwx.symm
  rw [HBD.out]
  go_upto_region 6 with fail
  have HPd := Lib.hid (show W2.drew.heap[w.heap.size + 1]? = some (.cells #[.int .i64 kg, .int .i64 kl, .int .i64 par, .int .i64 bud] 56 (0, 0)) from HP2.out)
  have HTd := Lib.hid (show Pa.TbB W2.drew gt (Pa.slA pb p cA) (Pa.slA tb t cB) 0 0 Pa.nilV Pa.nilV Pa.nilV Pa.nilV from HTB.out)
  have HRPd := Lib.hid (show Pa.Rw W2.drew pb p from HRP.out)
  have HRTd := Lib.hid (show Pa.Rw W2.drew tb t from HRT.out)
  have HBd := Lib.hid (show Below w.heap.size w W2.drew from Below.drew HB2.out)
  have hgt2 : gt < W2.drew.heap.size := hgt
  have hs2' : W1.heap.size ≤ W2.drew.heap.size := hs2
  have SW0 : (W2.drew).cell? ⟨w.heap.size + 1, 0, none⟩ = some (.int .i64 kg) ∧ (W2.drew).cell? ⟨w.heap.size + 1, 1, none⟩ = some (.int .i64 kl) ∧ (W2.drew).cell? ⟨w.heap.size + 1, 2, none⟩ = some (.int .i64 par) ∧ (W2.drew).cell? ⟨w.heap.size + 1, 3, none⟩ = some (.int .i64 bud) := ⟨blk_cell HPd.out 0 (by simp), blk_cell HPd.out 1 (by simp), blk_cell HPd.out 2 (by simp), blk_cell HPd.out 3 (by simp)⟩
  refine wp_region_held_drew (S := fun V => V.cell? ⟨w.heap.size + 1, 0, none⟩ = some (.int .i64 kg) ∧ V.cell? ⟨w.heap.size + 1, 1, none⟩ = some (.int .i64 kl) ∧ V.cell? ⟨w.heap.size + 1, 2, none⟩ = some (.int .i64 par) ∧ V.cell? ⟨w.heap.size + 1, 3, none⟩ = some (.int .i64 bud)) (by kernel_rfl) SW0 (fun hHeld => ?_)
  have HTH := Lib.hid (Pa.threads_any (w := W2.drew) (gt := gt) _ t.length cB HTd.out.cells.2.1)
  clear p3 HP2 HTB HRP HRT HB2 hgt hs2
  generalize W2.drew = X0 at *
  refine tkC 0 29 ?_
  refine tkC 1 30 ?_
  refine tkC 2 31 ?_
  refine tkC 3 32 ?_
  refine wpAnyH_ready (rs := [4]) (by kernel_rfl) (by simp) ?_
  refine AllReadyH.cons rfl (fun K hK => ?_) AllReadyH.nil
  go_simp
  refine HTH.out.mono ?_
  rintro e wx ⟨rfl, hwx⟩
  obtain rfl := hwx.symm
  go_simp
  refine hK.out _ _ SW0 (fun hHeld => ?_)
  have hsa := below_new X0 (.cells ((Ta.zeroS t.length).flatMap decSp).toArray 134)
  have hxa := blk_new X0 (.cells ((Ta.zeroS t.length).flatMap decSp).toArray 134)
  have hza : (X0.alloc (.cells ((Ta.zeroS t.length).flatMap decSp).toArray 134)).heap.size = X0.heap.size + 1 := by simp
  have hp9 : w.heap.size + 1 < X0.heap.size := by omega
  have HPa := Lib.hid ((Mod.of_below (S := []) hsa).blk HPd.out (by simp))
  have SWa : (X0.alloc (.cells ((Ta.zeroS t.length).flatMap decSp).toArray 134)).cell? ⟨w.heap.size + 1, 0, none⟩ = some (.int .i64 kg) ∧ (X0.alloc (.cells ((Ta.zeroS t.length).flatMap decSp).toArray 134)).cell? ⟨w.heap.size + 1, 1, none⟩ = some (.int .i64 kl) ∧ (X0.alloc (.cells ((Ta.zeroS t.length).flatMap decSp).toArray 134)).cell? ⟨w.heap.size + 1, 2, none⟩ = some (.int .i64 par) ∧ (X0.alloc (.cells ((Ta.zeroS t.length).flatMap decSp).toArray 134)).cell? ⟨w.heap.size + 1, 3, none⟩ = some (.int .i64 bud) := ⟨blk_cell HPa.out 0 (by simp), blk_cell HPa.out 1 (by simp), blk_cell HPa.out 2 (by simp), blk_cell HPa.out 3 (by simp)⟩
  refine wpAnyH_ready (rs := [5]) (by kernel_rfl) (by simp) ?_
  refine AllReadyH.cons rfl (fun K hK => ?_) AllReadyH.nil
  go_simp
  refine hK.out _ _ SWa (fun hHeld => ?_)
  refine tkC 6 35 ?_
  have hpT : SpAt (X0.alloc (.cells ((Ta.zeroS t.length).flatMap decSp).toArray 134)) X0.heap.size (List.replicate t.length sp0) := ⟨_, hxa, by rw [List.toList_toArray]; exact List.take_of_length_le (by rw [flat_len decSp_len]; simp [Ta.zeroS])⟩
  have HTa := Lib.hid (HTd.out.mod (S := []) (Mod.of_below hsa) (by simp))
  have HRPa := Lib.hid (HRPd.out.mod (S := []) (Mod.of_below hsa) (by omega) (by simp))
  have HRTa := Lib.hid (HRTd.out.mod (S := []) (Mod.of_below hsa) (by omega) (by simp))
  have HBa := Lib.hid (HBd.out.trans (hsa.mono HBd.out.size))
  have HSa := Lib.hid hpT
  clear SW0 hxa hsa HPd HTd HRPd HRTd HBd HTH hpT hmk
  generalize hX0 : X0.heap.size = hs9 at *
  generalize X0.alloc (.cells ((Ta.zeroS t.length).flatMap decSp).toArray 134) = Xa at *
  have hsb := below_new Xa (.cells #[.pointer (some ⟨ga, 0, none⟩), .pointer (some ⟨gt, 0, none⟩), .int .i64 kg, .int .i64 kl, .int .i64 par, .int .i64 bud, .pointer none, .slice none 0 0, .slice (some ⟨hs9, 0, none⟩) t.length t.length] 176)
  have hxb := blk_new Xa (.cells #[.pointer (some ⟨ga, 0, none⟩), .pointer (some ⟨gt, 0, none⟩), .int .i64 kg, .int .i64 kl, .int .i64 par, .int .i64 bud, .pointer none, .slice none 0 0, .slice (some ⟨hs9, 0, none⟩) t.length t.length] 176)
  have HPb := Lib.hid ((Mod.of_below (S := []) hsb).blk HPa.out (by simp))
  have SWb : (Xa.alloc (.cells #[.pointer (some ⟨ga, 0, none⟩), .pointer (some ⟨gt, 0, none⟩), .int .i64 kg, .int .i64 kl, .int .i64 par, .int .i64 bud, .pointer none, .slice none 0 0, .slice (some ⟨hs9, 0, none⟩) t.length t.length] 176)).cell? ⟨w.heap.size + 1, 0, none⟩ = some (.int .i64 kg) ∧ (Xa.alloc (.cells #[.pointer (some ⟨ga, 0, none⟩), .pointer (some ⟨gt, 0, none⟩), .int .i64 kg, .int .i64 kl, .int .i64 par, .int .i64 bud, .pointer none, .slice none 0 0, .slice (some ⟨hs9, 0, none⟩) t.length t.length] 176)).cell? ⟨w.heap.size + 1, 1, none⟩ = some (.int .i64 kl) ∧ (Xa.alloc (.cells #[.pointer (some ⟨ga, 0, none⟩), .pointer (some ⟨gt, 0, none⟩), .int .i64 kg, .int .i64 kl, .int .i64 par, .int .i64 bud, .pointer none, .slice none 0 0, .slice (some ⟨hs9, 0, none⟩) t.length t.length] 176)).cell? ⟨w.heap.size + 1, 2, none⟩ = some (.int .i64 par) ∧ (Xa.alloc (.cells #[.pointer (some ⟨ga, 0, none⟩), .pointer (some ⟨gt, 0, none⟩), .int .i64 kg, .int .i64 kl, .int .i64 par, .int .i64 bud, .pointer none, .slice none 0 0, .slice (some ⟨hs9, 0, none⟩) t.length t.length] 176)).cell? ⟨w.heap.size + 1, 3, none⟩ = some (.int .i64 bud) := ⟨blk_cell HPb.out 0 (by simp), blk_cell HPb.out 1 (by simp), blk_cell HPb.out 2 (by simp), blk_cell HPb.out 3 (by simp)⟩
  refine wpAnyH_ready (rs := [7]) (by kernel_rfl) (by simp) ?_
  refine AllReadyH.cons rfl (fun K hK => ?_) AllReadyH.nil
  go_simp
  refine hK.out _ _ SWb (fun hHeld => ?_)
  refine tkC 8 10 ?_
  refine wpAnyH_done (by kernel_rfl) ?_ _
  have HTb := Lib.hid (HTa.out.mod (S := []) (Mod.of_below hsb) (by simp))
  have HRPb := Lib.hid (HRPa.out.mod (S := []) (Mod.of_below hsb) (by omega) (by simp))
  have HRTb := Lib.hid (HRTa.out.mod (S := []) (Mod.of_below hsb) (by omega) (by simp))
  have HBb := Lib.hid (HBa.out.trans (hsb.mono HBa.out.size))
  have HSb := Lib.hid (HSa.out.mod (S := []) (Mod.of_below hsb) (by simp))
  have HLb := Lib.hid hxb
  have hzb : (Xa.alloc (.cells #[.pointer (some ⟨ga, 0, none⟩), .pointer (some ⟨gt, 0, none⟩), .int .i64 kg, .int .i64 kl, .int .i64 par, .int .i64 bud, .pointer none, .slice none 0 0, .slice (some ⟨hs9, 0, none⟩) t.length t.length] 176)).heap.size = Xa.heap.size + 1 := by simp
  clear SWa SWb hxb hsb HPa HTa HRPa HRTa HBa HSa
  generalize Xa.alloc (.cells #[.pointer (some ⟨ga, 0, none⟩), .pointer (some ⟨gt, 0, none⟩), .int .i64 kg, .int .i64 kl, .int .i64 par, .int .i64 bud, .pointer none, .slice none 0 0, .slice (some ⟨hs9, 0, none⟩) t.length t.length] 176) = W3 at *
  generalize Xa.heap.size = gl at *
  subst hza
  have HZB := Lib.hid hzb
  clear hzb
  go_upto_region 7 with fail
  have HPc := Lib.hid (show W3.drew.heap[w.heap.size + 1]? = some (.cells #[.int .i64 kg, .int .i64 kl, .int .i64 par, .int .i64 bud] 56 (0, 0)) from HPb.out)
  have HTc := Lib.hid (show Pa.TbB W3.drew gt (Pa.slA pb p cA) (Pa.slA tb t cB) 0 0 Pa.nilV Pa.nilV Pa.nilV Pa.nilV from HTb.out)
  have HRPc := Lib.hid (show Pa.Rw W3.drew pb p from HRPb.out)
  have HRTc := Lib.hid (show Pa.Rw W3.drew tb t from HRTb.out)
  have HBc := Lib.hid (show Below w.heap.size w W3.drew from Below.drew HBb.out)
  have HSc := Lib.hid (show SpAt W3.drew hs9 (List.replicate t.length sp0) from HSb.out)
  have HLc := Lib.hid (show W3.drew.heap[hs9 + 1]? = some (.cells #[.pointer (some ⟨ga, 0, none⟩), .pointer (some ⟨gt, 0, none⟩), .int .i64 kg, .int .i64 kl, .int .i64 par, .int .i64 bud, .pointer none, .slice none 0 0, .slice (some ⟨hs9, 0, none⟩) t.length t.length] 176 (0, 0)) from HLb.out)
  have HZC := Lib.hid (show W3.drew.heap.size = hs9 + 1 + 1 from HZB.out)
  have SW0 : (W3.drew).cell? ⟨w.heap.size + 1, 0, none⟩ = some (.int .i64 kg) ∧ (W3.drew).cell? ⟨w.heap.size + 1, 1, none⟩ = some (.int .i64 kl) ∧ (W3.drew).cell? ⟨w.heap.size + 1, 2, none⟩ = some (.int .i64 par) ∧ (W3.drew).cell? ⟨w.heap.size + 1, 3, none⟩ = some (.int .i64 bud) := ⟨blk_cell HPc.out 0 (by simp), blk_cell HPc.out 1 (by simp), blk_cell HPc.out 2 (by simp), blk_cell HPc.out 3 (by simp)⟩
  refine wp_region_held_drew (S := fun V => V.cell? ⟨w.heap.size + 1, 0, none⟩ = some (.int .i64 kg) ∧ V.cell? ⟨w.heap.size + 1, 1, none⟩ = some (.int .i64 kl) ∧ V.cell? ⟨w.heap.size + 1, 2, none⟩ = some (.int .i64 par) ∧ V.cell? ⟨w.heap.size + 1, 3, none⟩ = some (.int .i64 bud)) (by kernel_rfl) SW0 (fun hHeld => ?_)
  have HNF := Lib.hid (Pa.nodes_first p t hck gt pb tb cA cB W3.drew HTc.out HRPc.out HRTc.out (by omega) (by have := HZC.out; omega))
  have HAc := Lib.hid (HA.out.mod (S := []) (Mod.of_below HBc.out) (by simp) (by simp))
  clear HPb HTb HRPb HRTb HBb HSb HLb HZB
  generalize W3.drew = Y0 at *
  refine tkC 0 38 ?_
  refine tkC 1 39 ?_
  refine tkC 2 40 ?_
  refine tkC 3 41 ?_
  refine tkC 4 42 ?_
  refine tkC 6 44 ?_
  refine tkC 7 45 ?_
  refine wpAnyH_ready (rs := [5]) (by kernel_rfl) (by simp) ?_
  refine AllReadyH.cons rfl (fun K hK => ?_) AllReadyH.nil
  go_simp
  refine HNF.out.mono ?_
  rintro e w4 ⟨rfl, vu, gn, cn, gs, cs, gm, htb4, rn4, rs4, rm4, hmd4, ⟨y1, y2, y3⟩, z1, z2, z3⟩
  have HP4 := Lib.hid (hmd4.blk HPc.out (by simp; omega))
  have HL4 := Lib.hid (hmd4.blk HLc.out (by simp; omega))
  have HS4 := Lib.hid (HSc.out.mod hmd4 (by simp; omega))
  have HA4 := Lib.hid (HAc.out.mod hmd4 (by simp; omega) (by simp; omega))
  have HM4 := Lib.hid hmd4
  have HT4 := Lib.hid htb4
  have HRN := Lib.hid rn4
  have HRS := Lib.hid rs4
  have HRM := Lib.hid rm4
  have hs4 := hmd4.size
  have hsc := HBc.out.size
  have hzc := HZC.out
  have u1 : hs9 + 1 < gn := by omega
  have u2 : hs9 + 1 < gs := by omega
  have u3 : hs9 + 1 < gm := by omega
  have u4 : w.heap.size ≤ w4.heap.size := by omega
  have HNW := Lib.hid (new_flat kg (lvs p).length par HO.out.g ga ha σ w4 HA4.out (by omega) (Nw.room0 (c := nwOf p t kg kl par bud) HR.out) hw (by omega))
  clear htb4 rn4 rs4 rm4 hmd4 hzc HPc HLc HSc HAc HTc HRPc HRTc HNF SW0
  have SW4 : (w4).cell? ⟨w.heap.size + 1, 0, none⟩ = some (.int .i64 kg) ∧ (w4).cell? ⟨w.heap.size + 1, 1, none⟩ = some (.int .i64 kl) ∧ (w4).cell? ⟨w.heap.size + 1, 2, none⟩ = some (.int .i64 par) ∧ (w4).cell? ⟨w.heap.size + 1, 3, none⟩ = some (.int .i64 bud) := ⟨blk_cell HP4.out 0 (by simp), blk_cell HP4.out 1 (by simp), blk_cell HP4.out 2 (by simp), blk_cell HP4.out 3 (by simp)⟩
  go_simp
  refine hK.out _ _ SW4 (fun hHeld => ?_)
  refine wpAnyH_ready (rs := [8]) (by kernel_rfl) (by simp) ?_
  refine AllReadyH.cons rfl (fun K hK => ?_) AllReadyH.nil
  go_simp
  refine HNW.out.mono ?_
  rintro e w5 ⟨gf, gk, gh, rfl, hf5, ⟨x1, x2, x3⟩, hm5⟩
  have hb5 := hf5.blocks
  have HN6 := Lib.hid (nw_start (w := w) (b := ⟨hs9 + 1, gt, gn, gs, gm, hs9, ga, ha, gf, gk, gh, w.heap.size + 1, some ⟨pb, 0, none⟩, some ⟨tb, 0, none⟩, p.length, cA, cB, vu, cn, cs⟩) (c := nwOf p t kg kl par bud) (σ0 := σ) (ms := Pa.mtL p t t.length) (M := w4.heap.size) (W := w5)
    ⟨⟨hga, hha, hne⟩, ⟨by show w.heap.size ≤ w.heap.size + 1; omega, by show w.heap.size + 1 < gt; omega, by show gt < hs9; omega, by show hs9 < hs9 + 1; omega⟩, ⟨⟨u1, u2, u3⟩, z1, z2, z3⟩, ⟨x1, x2, x3⟩, ⟨hb5.1, hb5.2.1, hb5.2.2.2⟩, hf5.n3, hf5.at_.facts.2.2.2.2.2.2.1⟩
    (hm5.blk HL4.out (by simp; omega)) (hm5.blk HP4.out (by simp; omega)) (HT4.out.mod hm5 (by simp; omega))
    (fun k hk => by have := HRN.out.mod hm5 z1 (by simp; omega) k (by rw [Pa.ndL_len]; exact hk); rw [show (Pa.ndL p t t.length).getD k 0 = (ndI p t k : Int) from Pa.map_getD hk] at this; exact this)
    (fun k hk => by have := HRS.out.mod hm5 z2 (by simp; omega) k (by rw [Pa.slL_len]; exact hk); rw [show (Pa.slL t t.length).getD k 0 = (slI t k : Int) from Pa.map_getD hk] at this; exact this)
    (fun n hn => HRM.out.mod hm5 z3 (by simp; omega) n (by rw [Pa.mtL_len]; exact hn))
    (HS4.out.mod hm5 (by simp; omega)) hf5 ((Mod.of_below (S := [ga, ha]) (Mod.below_of HBc.out HM4.out (by omega) (by simp; omega))).trans hm5) (fun _ => 0))
  have hl5 := hm5.blk HL4.out (show hs9 + 1 ∉ [ga, ha] by simp; omega)
  have c6 := blk_cell hl5 6 (by simp)
  have f6 := blk_free hl5 6
  have HP5 := Lib.hid (hm5.blk HP4.out (show w.heap.size + 1 ∉ [ga, ha] by simp; omega))
  have HP6 := Lib.hid (HN6.out.pr)
  have SW5 : (w5).cell? ⟨w.heap.size + 1, 0, none⟩ = some (.int .i64 kg) ∧ (w5).cell? ⟨w.heap.size + 1, 1, none⟩ = some (.int .i64 kl) ∧ (w5).cell? ⟨w.heap.size + 1, 2, none⟩ = some (.int .i64 par) ∧ (w5).cell? ⟨w.heap.size + 1, 3, none⟩ = some (.int .i64 bud) := ⟨blk_cell HP5.out 0 (by simp), blk_cell HP5.out 1 (by simp), blk_cell HP5.out 2 (by simp), blk_cell HP5.out 3 (by simp)⟩
  have SW6 : (w5.setCell ⟨hs9 + 1, 6, none⟩ (.pointer (some ⟨gf, 0, none⟩))).cell? ⟨w.heap.size + 1, 0, none⟩ = some (.int .i64 kg) ∧ (w5.setCell ⟨hs9 + 1, 6, none⟩ (.pointer (some ⟨gf, 0, none⟩))).cell? ⟨w.heap.size + 1, 1, none⟩ = some (.int .i64 kl) ∧ (w5.setCell ⟨hs9 + 1, 6, none⟩ (.pointer (some ⟨gf, 0, none⟩))).cell? ⟨w.heap.size + 1, 2, none⟩ = some (.int .i64 par) ∧ (w5.setCell ⟨hs9 + 1, 6, none⟩ (.pointer (some ⟨gf, 0, none⟩))).cell? ⟨w.heap.size + 1, 3, none⟩ = some (.int .i64 bud) := ⟨blk_cell HP6.out 0 (by simp), blk_cell HP6.out 1 (by simp), blk_cell HP6.out 2 (by simp), blk_cell HP6.out 3 (by simp)⟩
  clear hl5 hf5 hm5 HL4 HP4 HT4 HRN HRS HRM HS4 HA4 HM4 HBc HNW SW4 HP5 HP6
  go_simp
  refine hK.out _ _ SW5 (fun hHeld => ?_)
  refine tkC 9 37 ?_
  refine tkC 10 47 ?_
  refine tkC 11 48 ?_
  refine tkC 12 49 ?_
  refine tkC 13 50 ?_
  refine wpAnyH_ready (rs := [14]) (by kernel_rfl) (by simp) ?_
  refine AllReadyH.cons rfl (fun K hK => ?_) AllReadyH.nil
  go_simp
  refine hK.out _ _ SW6 (fun hHeld => ?_)
  refine tkC 15 9 ?_
  refine wpAnyH_done (by kernel_rfl) ?_ _
  clear c6 f6 SW5 SW6
  generalize w5.setCell ⟨hs9 + 1, 6, none⟩ (.pointer (some ⟨gf, 0, none⟩)) = W6 at *
  generalize hB0 : w5.heap.size = B0 at *
  clear hB0
  have HND := Lib.hid (Pa.nodes_done HN6.out.tb.cells.2.2.1 _ _ _ HN6.out.tb.cells.2.2.2.2.2.2.2.1)
  go_wp2_with (go_at_call 81; refine HND.out.mono ?_; rintro e wx ⟨rfl, hwx⟩; obtain rfl := hwx.symm)
  generalize hbb : (⟨hs9 + 1, gt, gn, gs, gm, hs9, ga, ha, gf, gk, gh, w.heap.size + 1, some ⟨pb, 0, none⟩, some ⟨tb, 0, none⟩, p.length, cA, cB, vu, cn, cs⟩ : Bl) = b at *
  have HE := Lib.hid (show (b.ga = ga ∧ b.ha = ha) ∧ b.gp = w.heap.size + 1 ∧ b.gt = gt ∧ b.gl = hs9 + 1 by rw [← hbb]; exact ⟨⟨rfl, rfl⟩, rfl, rfl, rfl⟩)
  have HLW := Lib.hid (show (w.heap.size ≤ b.gt ∧ w.heap.size ≤ b.gn ∧ w.heap.size ≤ b.gs ∧ w.heap.size ≤ b.hs) ∧ w.heap.size ≤ b.gf ∧ w.heap.size ≤ b.gk ∧ w.heap.size ≤ b.gh by
    rw [← hbb]
    show (w.heap.size ≤ gt ∧ w.heap.size ≤ gn ∧ w.heap.size ≤ gs ∧ w.heap.size ≤ hs9) ∧ w.heap.size ≤ gf ∧ w.heap.size ≤ gk ∧ w.heap.size ≤ gh
    omega)
  clear hbb HND
  have hNN : (nwOf p t kg kl par bud).NN = (lvs p).length := rfl
  have HNN := Lib.hid hNN
  clear hNN
  refine wp_loop (NwJ w B0 b (nwOf p t kg kl par bud) σ (Pa.mtL p t t.length)) (fun a' _ => (lvs p).length - (intOf (a'.tmps.getD 56 undef)).toNat) ?_ ?_
  · refine ⟨rfl, rfl, ?_, ?_, ?_, ?_, rfl, 0, _, _, _, _, _, rfl, Nat.zero_le _, HN6.out⟩
    · rw [HE.out.1.1]; rfl
    · rw [HE.out.2.1]; rfl
    · rw [HE.out.2.2.1]; rfl
    · rw [HE.out.2.2.2]; rfl
  · clear HN6
    rintro a' W ⟨hsz, hdf, s0, s5, s8, s10, s55, k, lf, lk, lh, col, v, s56, hk, hN⟩
    obtain ⟨u, rfl, hu⟩ := frame97 hsz hdf
    rw [hu] at s0 s5 s8 s10 s55 s56
    simp only [s0, s5, s8, s10, s55, s56]
    clear hsz hdf s0 s5 s8 s10 s55 s56 hu
    have hkl : (nwOf p t kg kl par bud).NN = (lvs p).length := rfl
    rw [hkl] at hk
    have HN := Lib.hid hN
    by_cases hlt : k < (lvs p).length
    · have i1 : (k : Int) < ((lvs p).length : Int) := by omega
      have p1 := blk_cell hN.pr 1 (by simp)
      have p2 := blk_cell hN.pr 2 (by simp)
      simp [nwOf] at p1 p2
      clear hN hkl
      go_upto_region 13 with fail
      have SW0 : W.drew.cell? ⟨b.gp, 1, none⟩ = some (.int .i64 kl) ∧ W.drew.cell? ⟨b.gp, 2, none⟩ = some (.int .i64 par) := ⟨p1, p2⟩
      refine wp_region_held_drew (S := fun V => V.cell? ⟨b.gp, 1, none⟩ = some (.int .i64 kl) ∧ V.cell? ⟨b.gp, 2, none⟩ = some (.int .i64 par)) (by kernel_rfl) SW0 (fun hHeld => ?_)
      have HNd := Lib.hid (HN.out.same (show Below W.heap.size W W.drew from Below.drew (Below.refl _ _)))
      have HMT := Lib.hid (Pa.mates_in HNd.out.tb.cells.2.2.1 none (lvs p).length 0 k b.gm (lvs p).length (mtI p t k : Int) hlt HNd.out.tb.cells.2.2.2.2.2.2.2.1 (by rw [HNd.out.rm k hlt, Pa.mtL_at _ hlt]; rfl))
      clear p1 p2 HN
      generalize W.drew = Y0 at *
      refine tkC 0 60 ?_
      refine tkC 1 61 ?_
      refine tkC 2 62 ?_
      refine tkC 3 63 ?_
      refine tkC 4 64 ?_
      refine tkC 7 67 ?_
      refine tkC 8 68 ?_
      refine wpAnyH_ready (rs := [5]) (by kernel_rfl) (by simp) ?_
      refine AllReadyH.cons rfl (fun K hK => ?_) AllReadyH.nil
      go_simp
      refine HMT.out.mono ?_
      rintro e wx ⟨rfl, hwx⟩
      obtain rfl := hwx.symm
      go_simp
      refine hK.out _ _ SW0 (fun hHeld => ?_)
      refine wpAnyH_ready (rs := [6]) (by kernel_rfl) (by simp) ?_
      refine AllReadyH.cons rfl (fun K hK => ?_) AllReadyH.nil
      go_simp
      refine hK.out _ _ SW0 (fun hHeld => ?_)
      have HRM := Lib.hid (Nw.room HO.out HR.out (show k < (nwOf p t kg kl par bud).NN from hlt))
      have HGR := Lib.hid (Nw.σ_gr HO.out HR.out k (show k ≤ (nwOf p t kg kl par bud).NN from hk)).1
      have hgo := HGR.out.ops
      have hgl := HGR.out.len
      have hNW := new_flat kl (max 1 (mtI p t k)) par (HO.out.l k hlt) b.ga b.ha ((nwOf p t kg kl par bud).σN σ k) Y0 HNd.out.ar (by have := HNd.out.pre.2.2.1; have := HNd.out.sz.2; omega) (Nat.le_trans (Nat.le_succ _) HRM.out) (by omega) (by omega)
      rw [show ((max 1 (mtI p t k) : Nat) : Int) = (if (1 : Int) < (mtI p t k : Int) then (mtI p t k : Int) else 1) by split <;> omega] at hNW
      have HNW := Lib.hid hNW
      clear hNW SW0
      generalize (if (1 : Int) < (mtI p t k : Int) then (mtI p t k : Int) else 1) = mx at *
      refine wpAnyH_ready (rs := [9]) (by kernel_rfl) (by simp) ?_
      refine AllReadyH.cons rfl (fun K hK => ?_) AllReadyH.nil
      go_simp
      refine HNW.out.mono ?_
      rintro e w5 ⟨gf, gk, gh, rfl, hf5, hx5, hm5⟩
      have h5 := HNd.out.mk1 (Nat.le_refl k) hf5 hx5 hm5
      have H5 := Lib.hid h5
      have p1 := blk_cell h5.pr 1 (by simp)
      have p2 := blk_cell h5.pr 2 (by simp)
      simp [nwOf] at p1 p2
      have SW5 : w5.cell? ⟨b.gp, 1, none⟩ = some (.int .i64 kl) ∧ w5.cell? ⟨b.gp, 2, none⟩ = some (.int .i64 par) := ⟨p1, p2⟩
      obtain ⟨tg, tt⟩ := tak_gr (HO.out.l k hlt) (σ := (nwOf p t kg kl par bud).σN σ k) (Nat.le_trans (Nat.le_succ _) HRM.out)
      have tgl : (tak kl (max 1 (mtI p t k)) par ((nwOf p t kg kl par bud).σN σ k)).1.ws.length = ((nwOf p t kg kl par bud).σN σ k).ws.length := tg.len
      have tt' : (tak kl (max 1 (mtI p t k)) par ((nwOf p t kg kl par bud).σN σ k)).1.t = ((nwOf p t kg kl par bud).σN σ k).t + sizeK kl (max 1 (mtI p t k)) par := tt
      have hrm : ((nwOf p t kg kl par bud).σN σ k).t + sizeK kl (max 1 (mtI p t k)) par + 1 ≤ ((nwOf p t kg kl par bud).σN σ k).ws.length := HRM.out
      have hroom : (tak kl (max 1 (mtI p t k)) par ((nwOf p t kg kl par bud).σN σ k)).1.t + 1 ≤ (tak kl (max 1 (mtI p t k)) par ((nwOf p t kg kl par bud).σN σ k)).1.ws.length := by
        rw [tgl, tt']
        exact hrm
      have hTK := take_any b.ga b.ha (tak kl (max 1 (mtI p t k)) par ((nwOf p t kg kl par bud).σN σ k)).1 w5 h5.ar 1
      rw [show ((tak kl (max 1 (mtI p t k)) par ((nwOf p t kg kl par bud).σN σ k)).1).take 1 = _ from take_ok (m := 1) hroom] at hTK
      have HTK := Lib.hid hTK
      have hcw : ((nwOf p t kg kl par bud).pm σ).cw k = ((tak kl (max 1 (mtI p t k)) par ((nwOf p t kg kl par bud).σN σ k)).1.t : Int) + 1 := rfl
      have HCW := Lib.hid hcw
      clear hf5 hx5 hm5 h5 p1 p2 tg tt tgl tt' hrm hroom hTK hcw HNd HNW HMT HRM HGR hgo hgl
      generalize ((tak kl (max 1 (mtI p t k)) par ((nwOf p t kg kl par bud).σN σ k)).1.t : Int) = tv at *
      go_simp
      refine hK.out _ _ SW5 (fun hHeld => ?_)
      refine tkC 10 59 ?_
      refine tkC 11 70 ?_
      refine tkC 12 71 ?_
      refine tkC 13 12 ?_
      refine tkC 14 13 ?_
      refine wpAnyH_done (by kernel_rfl) ?_ _
      clear SW5
      go_wp2_with fail
      refine HTK.out.mono ?_
      rintro e w7 ⟨rfl, ha7, hm7⟩
      have h7 := H5.out.wrd ha7 hm7
      have H7 := Lib.hid (show NwW w B0 b (nwOf p t kg kl par bud) σ (Pa.mtL p t t.length) (k + 1) k ((nwOf p t kg kl par bud).σN σ (k + 1)) (upd lf k gf) (upd lk k gk) (upd lh k gh) (upd col gh (5 + k)) v w7 from h7)
      have c7 := blk_cell h7.lk_ 7 (by simp [nwCells])
      have hnr := h7.nr
      have hz7 := h7.sz.2
      simp [nwCells] at c7
      clear ha7 hm7 h7 H5 HTK
      go_wp2_with (at_builtin; refine Tp.wpList_append1_at (.tmp 87) (.tmp 91) 174 179 _ 2 16 rfl rfl Tryz.underlying174 infoN rfl (by decide) B0 _ _ _ _ _ _ _ _ hnr rfl rfl ?cgN rfl ?d1N ?d2N ?d3N ?d4N ?ckN; case' ckN => (intro v' w8 hown8 hg8 hn8; obtain ⟨An, an, rfl, _, _, _⟩ := own_slice hown8.out; have H8 := Lib.hid (H7.out.app (Nat.lt_succ_self k) (by rw [upd_self, HCW.out]; exact hown8.out) hg8.out hn8.out); have e7 := H8.out.2.1; have g7 := H8.out.2.2))
      case cgN => first | rfl | simp
      case d1N => simp [Value.oneCell']
      case d2N => simp only [maxLen]; omega
      case d3N => omega
      case d4N => omega
      go_wp2_with fail
      go_roundw
      case rel => exact ⟨rfl, rfl, rfl, rfl, rfl, rfl, rfl, k + 1, _, _, _, _, _, by go_num, by show k + 1 ≤ (lvs p).length; omega, H8.out.1⟩
      case measure => simp [intOf]; omega
    · obtain rfl : k = (lvs p).length := by omega
      have i1 : ¬ ((lvs p).length : Int) < ((lvs p).length : Int) := by omega
      clear hN
      go_wp2_with fail
      go_ret2
      have hpos : 1 ≤ (nwOf p t kg kl par bud).NN := List.length_pos_iff.2 (lvs_ne (chk_ok HCK.out).2.1 l1)
      obtain ⟨cd, ⟨e1, e2, e3, e4⟩, K, L⟩ := NwW.co (show NwW w B0 b (nwOf p t kg kl par bud) σ (Pa.mtL p t t.length) (nwOf p t kg kl par bud).NN (nwOf p t kg kl par bud).NN _ lf lk lh col v W from HN.out) hpos HLW.out
      refine ⟨cd, by rw [e1]; rfl, K, ⟨e2.trans HE.out.1.1, e3.trans HE.out.1.2, L⟩, fun x hx h1 h2 => ?_, ?_⟩
      · rw [e4]
        exact HN.out.old x hx (by rw [HE.out.1.1]; exact h1) (by rw [HE.out.1.2]; exact h2)
      · have := HN.out.md
        rw [HE.out.1.1, HE.out.1.2] at this
        exact this
end
end Go.Proofs.YtfmiioddhpkdkaaGreat.Cm

/- The references of layers 6, 7, 24: a topology that may be, of few threads; a thread's leaf, by its place; how many threads a leaf has. -/
namespace Go.Proofs.YtfmiioddhpkdkaaGreat.Rn
open Go.RowKit Tp Li De Ara

section
variable (p t : List Int) (A B : Option Addr) (c d : Nat) (w : World) (hs : Sl w w.heap.size A (p.flatMap decI)) (ht : Sl w w.heap.size B (t.flatMap decI))
include hs ht
theorem rcheck_all : Calls Tryz.prog 19 #[(.agg #[.slice A p.length c, .slice B t.length d])] w fun e w' => e = .returned (.int .i64 (chk p t)) ∧ Below w.heap.size w w' := by
  by_cases k2 : 32 < p.length
  · have i1 : ¬ (p.length : Int) < 1 := by omega
    have i2 : (32 : Int) < (p.length : Int) := by omega
    have HN := Lib.hid (chk_many (p := p) (t := t) (.inr (.inl k2)))
    go_enter Tryz.func19, Tryz.ntmps19
    go_upto_region 1 with fail
    have HX := Lib.hid (Bx.made w (.slice A p.length c) (.slice B t.length d) 24)
    generalize w.alloc (.cells #[.slice A p.length c, .slice B t.length d] 24) = W0 at *
    have c0 := HX.out.2.2.1
    have c1 := HX.out.2.2.2
    go_wp2_with fail
    go_ret
    exact ⟨by rw [HN.out]; rfl, HX.out.1⟩
  by_cases k4 : 32 < t.length
  · by_cases k1 : p.length < 1
    · have i1 : (p.length : Int) < 1 := by omega
      have HN := Lib.hid (chk_many (p := p) (t := t) (.inl k1))
      go_enter Tryz.func19, Tryz.ntmps19
      go_upto_region 1 with fail
      have HX := Lib.hid (Bx.made w (.slice A p.length c) (.slice B t.length d) 24)
      generalize w.alloc (.cells #[.slice A p.length c, .slice B t.length d] 24) = W0 at *
      have c0 := HX.out.2.2.1
      have c1 := HX.out.2.2.2
      go_wp2_with fail
      go_ret
      exact ⟨by rw [HN.out]; rfl, HX.out.1⟩
    · have i1 : ¬ (p.length : Int) < 1 := by omega
      have i2 : ¬ (32 : Int) < (p.length : Int) := by omega
      have i3 : ¬ (t.length : Int) < 1 := by omega
      have i4 : (32 : Int) < (t.length : Int) := by omega
      have HN := Lib.hid (chk_many (p := p) (t := t) (.inr (.inr (.inr k4))))
      go_enter Tryz.func19, Tryz.ntmps19
      go_upto_region 1 with fail
      have HX := Lib.hid (Bx.made w (.slice A p.length c) (.slice B t.length d) 24)
      generalize w.alloc (.cells #[.slice A p.length c, .slice B t.length d] 24) = W0 at *
      have c0 := HX.out.2.2.1
      have c1 := HX.out.2.2.2
      go_wp2_with fail
      go_ret
      exact ⟨by rw [HN.out]; rfl, HX.out.1⟩
  exact rcheck_any p t A B c d w (by omega) (by omega) hs ht
theorem small_any (most : Int) : Calls Tryz.prog 7 #[(.agg #[.slice A p.length c, .slice B t.length d]), .int .i64 most] w fun e w' => e = .returned (.bool (decide (chk p t = 0) && decide ((t.length : Int) ≤ most))) ∧ Below w.heap.size w w' := by
  have HCK := Lib.hid (fun W h1 h2 => rcheck_all p t A B c d W h1 h2)
  have HS := Lib.hid hs
  have HT := Lib.hid ht
  clear hs ht
  generalize chk p t = r at *
  by_cases h0 : r = 0
  · have g0 := ibeq h0
    by_cases h1 : (t.length : Int) ≤ most
    · have HN := Lib.hid (show (decide (r = 0) && decide ((t.length : Int) ≤ most)) = true by rw [decide_eq_true h0, decide_eq_true h1]; rfl)
      clear h0
      go_enter Tryz.func7, Tryz.ntmps7
      go_upto_region 1 with fail
      have HX := Lib.hid (Bx.made w (.slice A p.length c) (.slice B t.length d) 24)
      generalize w.alloc (.cells #[.slice A p.length c, .slice B t.length d] 24) = W0 at *
      have c0 := HX.out.2.2.1
      have c1 := HX.out.2.2.2
      go_wp2_with fail
      refine (HCK.out _ (HX.out.sl HS.out) (HX.out.sl HT.out)).mono ?_
      rintro e W1 ⟨rfl, b1⟩
      have HX1 := Lib.hid (HX.out.step b1)
      clear c0 c1 b1
      have c1 := HX1.out.2.2.2
      go_wp2_with fail
      go_ret
      exact ⟨by rw [HN.out]; rfl, HX1.out.1⟩
    · have HN := Lib.hid (show (decide (r = 0) && decide ((t.length : Int) ≤ most)) = false by rw [decide_eq_false h1, Bool.and_false])
      have q1 := decide_eq_false h1
      clear h0
      go_enter Tryz.func7, Tryz.ntmps7
      go_upto_region 1 with fail
      have HX := Lib.hid (Bx.made w (.slice A p.length c) (.slice B t.length d) 24)
      generalize w.alloc (.cells #[.slice A p.length c, .slice B t.length d] 24) = W0 at *
      have c0 := HX.out.2.2.1
      have c1 := HX.out.2.2.2
      go_wp2_with fail
      refine (HCK.out _ (HX.out.sl HS.out) (HX.out.sl HT.out)).mono ?_
      rintro e W1 ⟨rfl, b1⟩
      have HX1 := Lib.hid (HX.out.step b1)
      clear c0 c1 b1
      have c1 := HX1.out.2.2.2
      go_wp2_with fail
      go_ret
      exact ⟨by rw [HN.out]; rfl, HX1.out.1⟩
  · have g0 := ibeq_no h0
    have HN := Lib.hid (show (decide (r = 0) && decide ((t.length : Int) ≤ most)) = false by rw [decide_eq_false h0, Bool.false_and])
    clear h0
    go_enter Tryz.func7, Tryz.ntmps7
    go_upto_region 1 with fail
    have HX := Lib.hid (Bx.made w (.slice A p.length c) (.slice B t.length d) 24)
    generalize w.alloc (.cells #[.slice A p.length c, .slice B t.length d] 24) = W0 at *
    have c0 := HX.out.2.2.1
    have c1 := HX.out.2.2.2
    go_wp2_with fail
    refine (HCK.out _ (HX.out.sl HS.out) (HX.out.sl HT.out)).mono ?_
    rintro e W1 ⟨rfl, b1⟩
    have HX1 := Lib.hid (HX.out.step b1)
    clear c0 c1 b1
    have c1 := HX1.out.2.2.2
    go_wp2_with fail
    go_ret
    exact ⟨by rw [HN.out]; rfl, HX1.out.1⟩
end
end Go.Proofs.YtfmiioddhpkdkaaGreat.Rn

/- The law's made: a lock of any two kinds, of a topology that may be. -/
namespace Go.Proofs.YtfmiioddhpkdkaaGreat.Cm
open Go.RowKit Tp Ara Lok Fl Co

theorem size_le {kind par : Int} {n : Nat} (hM : mayK kind n par) (hp : par ≤ 32) : sizeK kind n par ≤ 65 := by
  obtain ⟨_, ⟨_, n2⟩, _, _⟩ := hM
  unfold sizeK
  repeat' split
  all_goals omega
theorem nw_ok {p t : List Int} (hck : chk p t = 0) {kg kl par bud : Int} (hg : 1 ≤ kg ∧ kg ≤ 5) (hl : 1 ≤ kl ∧ kl ≤ 5) (hp : 1 ≤ par ∧ par ≤ 32) (hb : 0 ≤ bud) : (nwOf p t kg kl par bud).Ok := by
  obtain ⟨l1, l2, l3, l4⟩ := chk_len hck
  have hpos : 1 ≤ (lvs p).length := List.length_pos_iff.2 (lvs_ne (chk_ok hck).2.1 l1)
  have hLL := lvs_len p
  refine ⟨⟨hg, ⟨hpos, by show (lvs p).length ≤ 32; omega⟩, fun _ => ⟨hp.1, by show par ≤ 1024; omega⟩, fun _ => hp⟩, fun n _ => ⟨hl, ⟨?_, ?_⟩, fun _ => ⟨hp.1, by show par ≤ 1024; omega⟩, fun _ => hp⟩, fun k hk => ?_, fun a b ha hb h1 h2 => nd_inj hck ha hb h1 h2, hb⟩
  · show 1 ≤ max 1 (mtI p t n)
    omega
  · show max 1 (mtI p t n) ≤ 32
    have := mt_le p t n
    omega
  · obtain ⟨h1, h2⟩ := nd_lt hck hk
    refine ⟨h1, ?_⟩
    show slI t k < max 1 (mtI p t (ndI p t k))
    omega
theorem nw_room {p t : List Int} {kg kl par bud : Int} (O : (nwOf p t kg kl par bud).Ok) (hp : par ≤ 32) (t0 : Nat) : ∀ k, k ≤ (lvs p).length → (nwOf p t kg kl par bud).tN t0 k ≤ t0 + 65 + 66 * k
  | 0, _ => by
    have := size_le O.g hp
    show t0 + sizeK kg (lvs p).length par ≤ _
    have h2 : sizeK kg (lvs p).length par ≤ 65 := this
    omega
  | k + 1, hk => by
    have h1 := nw_room O hp t0 k (by omega)
    have h2 : sizeK kl (max 1 (mtI p t k)) par ≤ 65 := size_le (O.l k hk) hp
    show (nwOf p t kg kl par bud).tN t0 k + sizeK kl (max 1 (mtI p t k)) par + 1 ≤ _
    omega
theorem nw_fits {p t : List Int} (hck : chk p t = 0) {kg kl par bud : Int} (O : (nwOf p t kg kl par bud).Ok) (hp : par ≤ 32) : (nwOf p t kg kl par bud).tN 0 (lvs p).length ≤ 4096 := by
  have h1 := nw_room O hp 0 _ (Nat.le_refl _)
  obtain ⟨l1, l2, l3, l4⟩ := chk_len hck
  have hLL := lvs_len p
  omega
theorem zeros_at (n k : Nat) : (zerosW n).getD k 0 = 0 := by
  unfold zerosW
  rw [List.getD_eq_getElem?_getD, List.getElem?_replicate]
  split <;> rfl
section
variable (p t : List Int) (A B : Option Addr) (c d : Nat) (w : World) (hs : Sl w w.heap.size A (p.flatMap decI)) (ht : Sl w w.heap.size B (t.flatMap decI)) (n0 n1 n2 : Int) (h0 : 0 ≤ n0 ∧ n0 ≤ 255) (h1 : 0 ≤ n1 ∧ n1 ≤ 255) (h2 : 0 ≤ n2 ∧ n2 ≤ 255) (fifo : Bool)
include hs ht h0 h1 h2
end
end Go.Proofs.YtfmiioddhpkdkaaGreat.Cm

/- The law's steps: a thread's steps till it holds, or is at rest; its two nodes of two threads. -/
namespace Go.Proofs.YtfmiioddhpkdkaaGreat.Cm
open Go.RowKit Tp Ara Lok Fl Co

theorem CI.up {P : Pm} {x : CS} {m n : Nat} (D : Dj P) (H : CI P x m) (h : m ≤ n) : CI P x n := by
  induction n with
  | zero => obtain rfl : m = 0 := by omega
            exact H
  | succ n ih =>
    by_cases e : m = n + 1
    · rw [← e]; exact H
    · exact (ih (by omega)).more
def twoP : List Int := [-1, 0, 0]
def twoT : List Int := [1, 1, 2, 2]
end Go.Proofs.YtfmiioddhpkdkaaGreat.Cm

/- Package locks: a lock of any kind, by its machine. -/
namespace Go.Proofs.YtfmiioddhpkdkaaGreat.Lk
open Go.RowKit Ara Lok Ga

def LkB (W : World) (gl : Nat) (kind T : Int) (Ty : TypeId) (v : Value) : Prop := W.heap[gl]? = some (.cells #[.int .i64 kind, .int .i64 T, .iface Ty v] 115 (0, 0))
theorem LkB.same {W W' : World} {gl : Nat} {kind T : Int} {Ty : TypeId} {v : Value} (h : LkB W gl kind T Ty v) (b : Below W.heap.size W W') : LkB W' gl kind T Ty v := (b.block _ (lt_of_blk h)).trans h
theorem sfld (a b c d : Int) (W : World) : (Instr.field 134 (.agg #[.int .i64 a, .int .i64 b, .int .i64 c, .int .i64 d]) 0).run Tryz.prog W = .ok (.int .i64 a) W := by
  simp [Instr.field, run_underlying Tryz.underlying134, asAgg, go_sem]
theorem sfld1 (a b c d : Int) (W : World) : (Instr.field 134 (.agg #[.int .i64 a, .int .i64 b, .int .i64 c, .int .i64 d]) 1).run Tryz.prog W = .ok (.int .i64 b) W := by
  simp [Instr.field, run_underlying Tryz.underlying134, asAgg, go_sem]
def vSp (s : Sp) : Value := .agg #[.int .i64 s.pc, .int .i64 s.a, .int .i64 s.b, .int .i64 s.c]
section
variable (gl : Nat) (kind T : Int) (Ty : TypeId) (v : Value) (w : World) (H : LkB w gl kind T Ty v)
include H
theorem threads_lk : Calls Tryz.prog 45 #[.pointer (some ⟨gl, 0, none⟩)] w fun e w' => e = .returned (.int .i64 T) ∧ w' = w := by
  have c0 := blk_cell H 0 (by simp)
  have c1 := blk_cell H 1 (by simp)
  have c2 := blk_cell H 2 (by simp)
  simp at c0 c1 c2
  clear H
  go_enter Tryz.func45, Tryz.ntmps45
  go_wp2_with fail
  go_ret
  exact ⟨rfl, rfl⟩
theorem has_in (i : Int) (h0 : 0 ≤ i) (h1 : i < T) : Calls Tryz.prog 62 #[.pointer (some ⟨gl, 0, none⟩), .int .i64 i] w fun e w' => e = .returned (.bool true) ∧ w' = w := by
  have HT := Lib.hid (threads_lk gl kind T Ty v w H)
  clear H
  go_enter Tryz.func62, Tryz.ntmps62
  go_wp2_with fail
  refine (HT.out).mono ?_
  rintro e wx ⟨rfl, hwx⟩
  obtain rfl := hwx.symm
  go_wp2_with fail
  go_ret
  exact ⟨rfl, rfl⟩
theorem has_out (i : Int) (h : i < 0 ∨ T ≤ i) : Calls Tryz.prog 62 #[.pointer (some ⟨gl, 0, none⟩), .int .i64 i] w fun e w' => e = .returned (.bool false) ∧ w' = w := by
  have HT := Lib.hid (threads_lk gl kind T Ty v w H)
  clear H
  by_cases h0 : 0 ≤ i
  · have h1 : ¬ i < T := by omega
    have h2 : decide (i < T) = false := decide_eq_false h1
    go_enter Tryz.func62, Tryz.ntmps62
    go_wp2_with fail
    refine (HT.out).mono ?_
    rintro e wx ⟨rfl, hwx⟩
    obtain rfl := hwx.symm
    go_wp2_with fail
    go_ret
    exact ⟨rfl, rfl⟩
  · go_enter Tryz.func62, Tryz.ntmps62
    go_wp2_with fail
    go_ret
    exact ⟨rfl, rfl⟩
variable (F : FuncId) (r : Value) (hc : ∀ a W, (callFunc F a).run Tryz.prog W = .ok (.enter F a) W)
theorem Leave_gen (hc : ∀ a W, (callFunc F a).run Tryz.prog W = .ok (.enter F a) W) (hm : ∀ W, (method 456 Ty v "Leave").run Tryz.prog W = .ok (F, r) W) (i : Int) (h0 : 0 ≤ i) (h1 : i < T) (b : Bool) (R : World → Prop) (HC : Calls Tryz.prog F #[r, .int .i64 i] w fun e w' => e = .returned (.bool b) ∧ R w') :
    Calls Tryz.prog 49 #[.pointer (some ⟨gl, 0, none⟩), .int .i64 i] w fun e w' => e = .returned (.bool b) ∧ R w' := by
  have HH := Lib.hid (has_in gl kind T Ty v w H i h0 h1)
  have c0 := blk_cell H 0 (by simp)
  have c1 := blk_cell H 1 (by simp)
  have c2 := blk_cell H 2 (by simp)
  simp at c0 c1 c2
  replace HC := Lib.hid HC
  clear H
  go_enter Tryz.func49, Tryz.ntmps49
  go_wp2_with fail
  refine (HH.out).mono ?_
  rintro e wx ⟨rfl, hwx⟩
  obtain rfl := hwx.symm
  go_wp2_with fail
  refine HC.out.mono ?_
  rintro e w2 ⟨rfl, h2⟩
  replace h2 := Lib.hid h2
  go_wp2_with fail
  go_ret
  exact ⟨rfl, h2.out⟩
theorem Step_gen (hc : ∀ a W, (callFunc F a).run Tryz.prog W = .ok (.enter F a) W) (hm : ∀ W, (method 456 Ty v "Step").run Tryz.prog W = .ok (F, r) W) (i : Int) (h0 : 0 ≤ i) (h1 : i < T) (b : Bool) (R : World → Prop) (HC : Calls Tryz.prog F #[r, .int .i64 i] w fun e w' => e = .returned (.bool b) ∧ R w') :
    Calls Tryz.prog 46 #[.pointer (some ⟨gl, 0, none⟩), .int .i64 i] w fun e w' => e = .returned (.bool b) ∧ R w' := by
  have HH := Lib.hid (has_in gl kind T Ty v w H i h0 h1)
  have c0 := blk_cell H 0 (by simp)
  have c1 := blk_cell H 1 (by simp)
  have c2 := blk_cell H 2 (by simp)
  simp at c0 c1 c2
  replace HC := Lib.hid HC
  clear H
  go_enter Tryz.func46, Tryz.ntmps46
  go_wp2_with fail
  refine (HH.out).mono ?_
  rintro e wx ⟨rfl, hwx⟩
  obtain rfl := hwx.symm
  go_wp2_with fail
  refine HC.out.mono ?_
  rintro e w2 ⟨rfl, h2⟩
  replace h2 := Lib.hid h2
  go_wp2_with fail
  go_ret
  exact ⟨rfl, h2.out⟩
theorem Ask_gen (hc : ∀ a W, (callFunc F a).run Tryz.prog W = .ok (.enter F a) W) (hm : ∀ W, (method 456 Ty v "Ask").run Tryz.prog W = .ok (F, r) W) (i : Int) (rd : Bool) (h0 : 0 ≤ i) (h1 : i < T) (b : Bool) (R : World → Prop) (HC : Calls Tryz.prog F #[r, .int .i64 i, .bool rd] w fun e w' => e = .returned (.bool b) ∧ R w') :
    Calls Tryz.prog 48 #[.pointer (some ⟨gl, 0, none⟩), .int .i64 i, .bool rd] w fun e w' => e = .returned (.bool b) ∧ R w' := by
  have HH := Lib.hid (has_in gl kind T Ty v w H i h0 h1)
  have c0 := blk_cell H 0 (by simp)
  have c1 := blk_cell H 1 (by simp)
  have c2 := blk_cell H 2 (by simp)
  simp at c0 c1 c2
  replace HC := Lib.hid HC
  clear H
  go_enter Tryz.func48, Tryz.ntmps48
  go_wp2_with fail
  refine (HH.out).mono ?_
  rintro e wx ⟨rfl, hwx⟩
  obtain rfl := hwx.symm
  go_wp2_with fail
  refine HC.out.mono ?_
  rintro e w2 ⟨rfl, h2⟩
  replace h2 := Lib.hid h2
  go_wp2_with fail
  go_ret
  exact ⟨rfl, h2.out⟩
theorem Count_gen (hc : ∀ a W, (callFunc F a).run Tryz.prog W = .ok (.enter F a) W) (hm : ∀ W, (method 456 Ty v "Count").run Tryz.prog W = .ok (F, r) W) (i : Int) (h0 : 0 ≤ i) (h1 : i < T) (b : Int) (R : World → Prop) (HC : Calls Tryz.prog F #[r, .int .i64 i] w fun e w' => e = .returned (.int .i64 b) ∧ R w') :
    Calls Tryz.prog 47 #[.pointer (some ⟨gl, 0, none⟩), .int .i64 i] w fun e w' => e = .returned (.int .i64 b) ∧ R w' := by
  have HH := Lib.hid (has_in gl kind T Ty v w H i h0 h1)
  have c0 := blk_cell H 0 (by simp)
  have c1 := blk_cell H 1 (by simp)
  have c2 := blk_cell H 2 (by simp)
  simp at c0 c1 c2
  replace HC := Lib.hid HC
  clear H
  go_enter Tryz.func47, Tryz.ntmps47
  go_wp2_with fail
  refine (HH.out).mono ?_
  rintro e wx ⟨rfl, hwx⟩
  obtain rfl := hwx.symm
  go_wp2_with fail
  refine HC.out.mono ?_
  rintro e w2 ⟨rfl, h2⟩
  replace h2 := Lib.hid h2
  go_wp2_with fail
  go_ret
  exact ⟨rfl, h2.out⟩
end
end Go.Proofs.YtfmiioddhpkdkaaGreat.Lk

