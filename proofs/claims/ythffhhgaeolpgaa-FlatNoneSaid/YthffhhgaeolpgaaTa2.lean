/- Package tas: Ask, Leave; a step by which a slot gets the word, or sets it free; New. -/
import Derived.Test.YthffhhgaeolpgaaTa1
import Derived.Deep.RegionHeld3
import Derived.Test.YthffhhgaeolpgaaMake
namespace Go.Proofs.Ythffhhgaeolpgaa.Ta
open Go.RowKit Go.Proofs.Ythffhhgaeolpgaa.Ara Go.Proofs.Ythffhhgaeolpgaa.Lok

section
variable (gl ga ha hs : Nat) (P : Par) (σ : Ar) (sp : List Sp) (w : World) (H : LkAt w gl ga ha hs P σ sp) (k : Nat) (hk : k < sp.length)
include H hk
set_option maxHeartbeats 4000000 in
set_option maxRecDepth 100000 in
theorem ask_yes (hp : sp[k].pc = 0) (sp2 : List Sp) (h2 : sp2 = sp.set k { sp[k] with pc := 1, a := 1 }) : Calls Try.prog 111 #[.pointer (some ⟨gl, 0, none⟩), .int .i64 (k : Int)] w fun e w' => e = .returned (.bool true) ∧ LkAt w' gl ga ha hs P σ sp2 ∧ Mod [hs] w w' := by
  have HS := Lib.hid (spot_in_lk gl ga ha hs P σ sp w H k hk)
  obtain ⟨⟨cc, q0, q1, q2, q3⟩, hl32⟩ := H.heads
  obtain ⟨d1, d2, d3, d4, d5⟩ := H.2.2.2.2
  obtain ⟨s0, s1, s2, s3, sf⟩ := H.2.1.cells k hk
  rw [hp] at s0
  have HH := Lib.hid H
  have HP := Lib.hid hp
  have hu1 : LkAt (w.setCell ⟨hs, k * 4, none⟩ (.int .i64 1)) gl ga ha hs P σ (sp.set k { sp[k] with pc := 1 }) := H.spots (H.2.1.setPc k hk 1) ((Mod.refl [hs] w).setCell (by simp) _) (by rw [List.length_set])
  have hkk : k < (sp.set k { sp[k] with pc := 1 }).length := by rw [List.length_set]; exact hk
  have hu2 := hu1.spots (hu1.2.1.setA k hkk 1) ((Mod.refl [hs] _).setCell (by simp) _) (by rw [List.length_set])
  have e : (sp.set k { sp[k] with pc := 1 }).set k { (sp.set k { sp[k] with pc := 1 })[k] with a := 1 } = sp2 := by
    have e0 : (sp.set k { sp[k] with pc := 1 })[k] = { sp[k] with pc := 1 } := List.getElem_set_self hkk
    rw [e0, List.set_set, h2]
  rw [e] at hu2
  have HU := Lib.hid hu2
  have f0 := sf (k * 4)
  have f1 := sf (k * 4 + 1)
  clear hu1 hu2 e h2 hkk H hp
  go_enter Try.func111, Try.ntmps111
  go_wp2_with fail
  refine (HS.out).mono ?_
  rintro e wx ⟨rfl, hwx⟩
  obtain rfl := hwx.symm
  go_wp2_with fail
  go_ret
  exact ⟨rfl, HU.out, ((Mod.refl _ _).setCell (by simp) _).setCell (by simp) _⟩
set_option maxHeartbeats 4000000 in
set_option maxRecDepth 100000 in
theorem leave_yes (hp : sp[k].pc = 10) (sp2 : List Sp) (h2 : sp2 = sp.set k { sp[k] with pc := 11 }) : Calls Try.prog 112 #[.pointer (some ⟨gl, 0, none⟩), .int .i64 (k : Int)] w fun e w' => e = .returned (.bool true) ∧ LkAt w' gl ga ha hs P σ sp2 ∧ Mod [hs] w w' := by
  have HS := Lib.hid (spot_in_lk gl ga ha hs P σ sp w H k hk)
  obtain ⟨⟨cc, q0, q1, q2, q3⟩, hl32⟩ := H.heads
  obtain ⟨d1, d2, d3, d4, d5⟩ := H.2.2.2.2
  obtain ⟨s0, s1, s2, s3, sf⟩ := H.2.1.cells k hk
  rw [hp] at s0
  have HH := Lib.hid H
  have HP := Lib.hid hp
  have HU := Lib.hid (show LkAt (w.setCell ⟨hs, k * 4, none⟩ (.int .i64 11)) gl ga ha hs P σ sp2 by rw [h2]; exact H.spots (H.2.1.setPc k hk 11) ((Mod.refl [hs] w).setCell (by simp) _) (by rw [List.length_set]))
  have f0 := sf (k * 4)
  clear h2 H hp
  go_enter Try.func112, Try.ntmps112
  go_wp2_with fail
  refine (HS.out).mono ?_
  rintro e wx ⟨rfl, hwx⟩
  obtain rfl := hwx.symm
  go_wp2_with fail
  go_ret
  exact ⟨rfl, HU.out, (Mod.refl _ _).setCell (by simp) _⟩
set_option maxHeartbeats 4000000 in
set_option maxRecDepth 100000 in
theorem step_one_yes (ho : σ.ops ≤ 1000000) (hp : sp[k].pc = 1) (hc : (σ.has P.word && (σ.get P.word == 0)) = true) (sp2 : List Sp) (h2 : sp2 = sp.set k { sp[k] with pc := 10 }) : Calls Try.prog 115 #[.pointer (some ⟨gl, 0, none⟩), .int .i64 (k : Int)] w fun e w' => e = .returned (.bool true) ∧ LkAt w' gl ga ha hs P (σ.op 4 P.word true ((k : Int) + 1)) sp2 ∧ Mod [ga, ha, hs] w w' := by
  have HSt := fun W (K : LkAt W gl ga ha hs P σ sp) => cas_any ga ha σ W K.1 ho P.word 0 ((k : Int) + 1)
  rw [hc] at HSt
  replace HSt := Lib.hid HSt
  have HS := Lib.hid (spot_in_lk gl ga ha hs P σ sp w H k hk)
  obtain ⟨⟨cc, q0, q1, q2, q3⟩, hl32⟩ := H.heads
  obtain ⟨d1, d2, d3, d4, d5⟩ := H.2.2.2.2
  obtain ⟨s0, s1, s2, s3, sf⟩ := H.2.1.cells k hk
  rw [hp] at s0
  have HH := Lib.hid H
  have HP := Lib.hid hp
  have HC := Lib.hid (fun W (K : LkAt W gl ga ha hs P (σ.op 4 P.word true ((k : Int) + 1)) sp) => show W.cell? ⟨hs, k * 4, none⟩ = some (.int .i64 sp[k].pc) ∧ W.frozen? ⟨hs, k * 4, none⟩ = false ∧ LkAt (W.setCell ⟨hs, k * 4, none⟩ (.int .i64 10)) gl ga ha hs P (σ.op 4 P.word true ((k : Int) + 1)) sp2 from ⟨(K.2.1.cells k hk).1, (K.2.1.cells k hk).2.2.2.2 _, by rw [h2]; exact K.spots (K.2.1.setPc k hk 10) ((Mod.refl [hs] W).setCell (by simp) _) (by rw [List.length_set])⟩)
  have e1 : IntKind.i64.wrap ((k : Int) + 1) = (k : Int) + 1 := IntWalk.i64_in _ (by omega)
  generalize σ.op 4 P.word true ((k : Int) + 1) = σ2 at *
  generalize sp[k].pc = xp at *
  clear h2 H hp hc ho
  go_enter Try.func115, Try.ntmps115
  go_wp2_with fail
  refine (HS.out).mono ?_
  rintro e wx ⟨rfl, hwx⟩
  obtain rfl := hwx.symm
  go_wp2_with fail
  go_region_held3 (fun V => V.cell? ⟨gl, 0, none⟩ = some (.pointer (some ⟨ga, 0, none⟩)) ∧ V.cell? ⟨gl, 1, none⟩ = some (.int .i64 P.word))
    (first | exact ⟨q0, q1⟩ | exact k2)
    (first
      | (go_at_call 90; refine (HSt.out _ (HH.out.drewN 1)).mono ?_; rintro e w2 ⟨rfl, ha2, hm2⟩; have k2 := And.intro (keepM hm2 (show (w.drewN 1).cell? _ = _ from q0) (by simp; omega)) (keepM hm2 (show (w.drewN 1).cell? _ = _ from q1) (by simp; omega)); have H2 := Lib.hid ((HH.out.drewN 1).arena ha2 hm2)))
  have hmm : Mod [ga, ha, hs] w w2 := ((Mod.refl _ _).drewN 1).trans (hm2.sub (by simp))
  clear k2 ha2 hm2
  obtain ⟨c0, f0, h3⟩ := HC.out _ H2.out
  have H3 := Lib.hid h3
  clear h3
  go_wp2_with fail
  go_ret
  exact ⟨rfl, H3.out, hmm.setCell (by simp) _⟩
set_option maxHeartbeats 4000000 in
set_option maxRecDepth 100000 in
theorem step_out (ho : σ.ops ≤ 1000000) (hp : sp[k].pc = 11) (sp2 : List Sp) (h2 : sp2 = sp.set k { sp[k] with pc := 0 }) : Calls Try.prog 115 #[.pointer (some ⟨gl, 0, none⟩), .int .i64 (k : Int)] w fun e w' => e = .returned (.bool true) ∧ LkAt w' gl ga ha hs P (σ.op 2 P.word true 0) sp2 ∧ Mod [ga, ha, hs] w w' := by
  have HSt := Lib.hid (fun W (K : LkAt W gl ga ha hs P σ sp) => store_any ga ha σ W K.1 ho P.word 0)
  have HS := Lib.hid (spot_in_lk gl ga ha hs P σ sp w H k hk)
  obtain ⟨⟨cc, q0, q1, q2, q3⟩, hl32⟩ := H.heads
  obtain ⟨d1, d2, d3, d4, d5⟩ := H.2.2.2.2
  obtain ⟨s0, s1, s2, s3, sf⟩ := H.2.1.cells k hk
  rw [hp] at s0
  have HH := Lib.hid H
  have HP := Lib.hid hp
  have HC := Lib.hid (fun W (K : LkAt W gl ga ha hs P (σ.op 2 P.word true 0) sp) => show W.cell? ⟨hs, k * 4, none⟩ = some (.int .i64 sp[k].pc) ∧ W.frozen? ⟨hs, k * 4, none⟩ = false ∧ LkAt (W.setCell ⟨hs, k * 4, none⟩ (.int .i64 0)) gl ga ha hs P (σ.op 2 P.word true 0) sp2 from ⟨(K.2.1.cells k hk).1, (K.2.1.cells k hk).2.2.2.2 _, by rw [h2]; exact K.spots (K.2.1.setPc k hk 0) ((Mod.refl [hs] W).setCell (by simp) _) (by rw [List.length_set])⟩)
  generalize σ.op 2 P.word true 0 = σ2 at *
  generalize sp[k].pc = xp at *
  clear h2 H hp ho
  go_enter Try.func115, Try.ntmps115
  go_wp2_with fail
  refine (HS.out).mono ?_
  rintro e wx ⟨rfl, hwx⟩
  obtain rfl := hwx.symm
  go_wp2_with fail
  go_region_held3 (fun V => V.cell? ⟨gl, 0, none⟩ = some (.pointer (some ⟨ga, 0, none⟩)) ∧ V.cell? ⟨gl, 1, none⟩ = some (.int .i64 P.word))
    (first | exact ⟨q0, q1⟩ | exact k2)
    (first
      | (go_at_call 43; refine (HSt.out _ (HH.out.drewN 1)).mono ?_; rintro e w2 ⟨rfl, ha2, hm2⟩; have k2 := And.intro (keepM hm2 (show (w.drewN 1).cell? _ = _ from q0) (by simp; omega)) (keepM hm2 (show (w.drewN 1).cell? _ = _ from q1) (by simp; omega)); have H2 := Lib.hid ((HH.out.drewN 1).arena ha2 hm2)))
  have hmm : Mod [ga, ha, hs] w w2 := ((Mod.refl _ _).drewN 1).trans (hm2.sub (by simp))
  clear k2 ha2 hm2
  obtain ⟨c0, f0, h3⟩ := HC.out _ H2.out
  have H3 := Lib.hid h3
  clear h3
  go_wp2_with fail
  go_ret
  exact ⟨rfl, H3.out, hmm.setCell (by simp) _⟩
end
theorem infoSp : (Try.prog.info? 31).map (fun i => (i.zero, i.size, i.bytes)) = some (some (.agg #[.int .i64 0, .int .i64 0, .int .i64 0, .int .i64 0]), 4, 32) := by kernel_rfl
def zeroS (n : Nat) : List Sp := List.replicate n sp0
theorem zeroS_flat (n : Nat) : ((List.replicate n ((Value.agg #[.int .i64 0, .int .i64 0, .int .i64 0, .int .i64 0]).cells.toList)).flatten).toArray = ((zeroS n).flatMap decSp).toArray := by
  congr 1
  induction n with
  | zero => rfl
  | succ n ih => rw [List.replicate_succ, List.flatten_cons, ih, zeroS, zeroS, List.replicate_succ, List.flatMap_cons]; rfl
theorem make_spots (n : Nat) (h : n ≤ 65536) (W : World) : (Instr.makeSlice 70 (.int .i64 (n : Int)) (.int .i64 (n : Int))).run Try.prog W = .ok (.slice (some ⟨W.heap.size, 0, none⟩) n n) (W.alloc (.cells ((zeroS n).flatMap decSp).toArray 31)) := by
  rw [run_make_rows (P := Try.prog) 70 31 (.agg #[.int .i64 0, .int .i64 0, .int .i64 0, .int .i64 0]) 4 32 Try.underlying70 infoSp rfl .i64 .i64 n (by omega) (by omega) W, zeroS_flat]
theorem spAt_new (W : World) (n : Nat) : SpAt (W.alloc (.cells ((zeroS n).flatMap decSp).toArray 31)) W.heap.size (zeroS n) :=
  ⟨_, blk_new _ _, by rw [List.take_of_length_le (by rw [flat_len decSp_len]; omega)]⟩
set_option maxHeartbeats 4000000 in
set_option maxRecDepth 100000 in
theorem new_lk (ga ha : Nat) (σ σ1 : Ar) (w : World) (H : ArAt w ga ha σ) (hh : ha < w.heap.size) (n : Nat) (n1 : 1 ≤ n) (n2 : n ≤ 32) (most : Int) (m1 : 1 ≤ most) (m2 : most ≤ 1024) (next : Int)
    (ht : σ.take 1 = ((next, 0), σ1)) :
    Calls Try.prog 65 #[.pointer (some ⟨ga, 0, none⟩), .int .i64 (n : Int), .int .i64 most] w fun e w' => ∃ gl hs, e = .returned (.tuple #[.pointer (some ⟨gl, 0, none⟩), .int .i64 0]) ∧ LkAt w' gl ga ha hs ⟨next, most⟩ σ1 (zeroS n) ∧ w.heap.size ≤ gl ∧ w.heap.size ≤ hs ∧ Mod [ga, ha] w w' := by
  have HT := take_any ga ha σ w H 1
  rw [ht] at HT
  replace HT := Lib.hid HT
  have hmk := fun W => make_spots n (by omega) W
  have hga := H.lt
  have i1 : (1 : Int) ≤ (n : Int) := by omega
  have i2 : (n : Int) ≤ 32 := by omega
  clear H ht
  go_enter Try.func65, Try.ntmps65
  go_wp2_with fail
  refine HT.out.mono ?_
  rintro e w2 ⟨rfl, h2, hm2⟩
  have H2 := Lib.hid h2
  clear h2
  have hz2 := hm2.size
  have hK : LkAt ((w2.alloc (.cells ((zeroS n).flatMap decSp).toArray 31)).alloc (.cells #[.pointer (some ⟨ga, 0, none⟩), .int .i64 next, .int .i64 most, .slice (some ⟨w2.heap.size, 0, none⟩) n n] 108)) (w2.heap.size + 1) ga ha w2.heap.size ⟨next, most⟩ σ1 (zeroS n) := by
    have hb := (below_new w2 (.cells ((zeroS n).flatMap decSp).toArray 31))
    have hb2 := below_new (w2.alloc (.cells ((zeroS n).flatMap decSp).toArray 31)) (.cells #[.pointer (some ⟨ga, 0, none⟩), .int .i64 next, .int .i64 most, .slice (some ⟨w2.heap.size, 0, none⟩) n n] 108)
    have hbl := blk_new (w2.alloc (.cells ((zeroS n).flatMap decSp).toArray 31)) (.cells #[.pointer (some ⟨ga, 0, none⟩), .int .i64 next, .int .i64 most, .slice (some ⟨w2.heap.size, 0, none⟩) n n] 108)
    have hzl : (zeroS n).length = n := by simp [zeroS]
    refine ⟨(H2.out.step hb).step hb2, (spAt_new w2 n).mod (S := []) (Mod.of_below hb2) (by simp), by omega, ⟨n, ?_⟩, by omega, by omega, by omega, by omega, by omega⟩
    rw [hzl]
    simpa using hbl
  have hmm : Mod [ga, ha] w ((w2.alloc (.cells ((zeroS n).flatMap decSp).toArray 31)).alloc (.cells #[.pointer (some ⟨ga, 0, none⟩), .int .i64 next, .int .i64 most, .slice (some ⟨w2.heap.size, 0, none⟩) n n] 108)) := (hm2.alloc _).alloc _
  have HK := Lib.hid hK
  clear H2 hm2 hK
  have e0 : (w2.alloc (.cells ((zeroS n).flatMap decSp).toArray 31)).heap.size = w2.heap.size + 1 := by simp
  go_wp2_with fail
  go_ret2
  exact ⟨w2.heap.size + 1, w2.heap.size, rfl, HK.out, by omega, hz2, hmm⟩
end Go.Proofs.Ythffhhgaeolpgaa.Ta
