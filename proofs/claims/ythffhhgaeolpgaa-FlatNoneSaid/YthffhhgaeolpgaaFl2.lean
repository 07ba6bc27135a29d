/- Package flat: a lock over a word that is taken, whole; Size; Door. -/
import Derived.Test.YthffhhgaeolpgaaFl1
namespace Go.Proofs.Ythffhhgaeolpgaa.Fl
open Go.RowKit Go.Proofs.Ythffhhgaeolpgaa.Ara Go.Proofs.Ythffhhgaeolpgaa.Lok

section
variable (gf gl ga ha hs : Nat) (P : Ta.Par) (σ : Ar) (sp : List Sp) (w : World) (H : FlB w gf 1 91 (.agg #[.pointer (some ⟨gl, 0, none⟩)])) (K : Ta.LkAt w gl ga ha hs P σ sp)
theorem FlB.same {W W' : World} {gf : Nat} {kind : Int} {T : TypeId} {v : Value} (h : FlB W gf kind T v) (hb : Below W.heap.size W W') : FlB W' gf kind T v := (Mod.of_below (S := []) hb).blk h (by simp)
theorem FlB.mod {S : List Nat} {W W' : World} {gf : Nat} {kind : Int} {T : TypeId} {v : Value} (h : FlB W gf kind T v) (hm : Mod S W W') (hn : gf ∉ S) : FlB W' gf kind T v := hm.blk h hn
include K in
theorem lone_alone (i : Int) (b : Bool) (hb : ((spOf sp i).pc == 10) = b) : Calls Try.prog 117 #[.agg #[.pointer (some ⟨gl, 0, none⟩)], .int .i64 i] w fun e w' => e = .returned (.bool b) ∧ Below w.heap.size w w' := by
  have hbn := below_new w (.cells #[.pointer (some ⟨gl, 0, none⟩)] 91)
  have c0 := blk_cell (blk_new w (.cells #[.pointer (some ⟨gl, 0, none⟩)] 91)) 0 (by simp)
  simp only [List.getElem_toArray, List.getElem_cons_zero] at c0
  have HSp := Ta.Spot_lk gl ga ha hs P σ sp _ (K.same hbn) i
  generalize spOf sp i = s at *
  obtain ⟨xp, xa, xb, xc⟩ := s
  replace HSp := Lib.hid HSp
  have q1 := fun a b c d W => sfld0 a b c d W
  have e9 : ((xp == 10) : Bool) = b := hb
  clear K hb
  by_cases hp : xp = 10
  · subst hp
    obtain rfl : true = b := e9
    go_enter Try.func117, Try.ntmps117
    go_wp2_with fail
    refine HSp.out.mono ?_
    rintro e w2 ⟨rfl, hb2⟩
    go_wp2_with fail
    go_ret
    exact ⟨rfl, hbn.trans (hb2.mono hbn.size)⟩
  · have e8 := ibeq_no hp
    obtain rfl : false = b := by rw [← e9]; simpa using hp
    go_enter Try.func117, Try.ntmps117
    go_wp2_with fail
    refine HSp.out.mono ?_
    rintro e w2 ⟨rfl, hb2⟩
    go_wp2_with fail
    go_ret
    exact ⟨rfl, hbn.trans (hb2.mono hbn.size)⟩
include H K
set_option maxRecDepth 100000 in
theorem Alone_fl (i : Int) (b : Bool) (hb : ((spOf sp i).pc == 10) = b) : Calls Try.prog 61 #[.pointer (some ⟨gf, 0, none⟩), .int .i64 i] w fun e w' => e = .returned (.bool b) ∧ Below w.heap.size w w' := by
  have hm := fun w => m_Alone gl w
  have HM := Lib.hid (made_yes gf 1 _ _ w H (by decide))
  have c1 := blk_cell H 1 (by simp)
  simp only [List.getElem_toArray, List.getElem_cons_succ, List.getElem_cons_zero] at c1
  have HC := Lib.hid (lone_alone gl ga ha hs P σ sp w K i b hb)
  clear H K hb
  go_enter Try.func61, Try.ntmps61
  go_wp2_with fail
  refine (HM.out).mono ?_
  rintro e wx ⟨rfl, hwx⟩
  obtain rfl := hwx.symm
  go_wp2_with fail
  refine HC.out.mono ?_
  rintro e w2 ⟨rfl, hb2⟩
  go_wp2_with fail
  go_ret
  exact ⟨rfl, hb2⟩
set_option maxRecDepth 100000 in
theorem Slots_fl : Calls Try.prog 35 #[.pointer (some ⟨gf, 0, none⟩)] w fun e w' => e = .returned (.int .i64 sp.length) ∧ w' = w := by
  have hm := fun w => m_Slots gl w
  have HM := Lib.hid (made_yes gf 1 _ _ w H (by decide))
  have c1 := blk_cell H 1 (by simp)
  simp only [List.getElem_toArray, List.getElem_cons_succ, List.getElem_cons_zero] at c1
  have HC := Lib.hid (Ta.slots_lk gl ga ha hs P σ sp w K)
  clear H K
  go_enter Try.func35, Try.ntmps35
  go_wp2_with fail
  refine (HM.out).mono ?_
  rintro e wx ⟨rfl, hwx⟩
  obtain rfl := hwx.symm
  go_wp2_with fail
  refine (HC.out).mono ?_
  rintro e wx ⟨rfl, hwx⟩
  obtain rfl := hwx.symm
  go_wp2_with fail
  go_ret
  exact ⟨rfl, rfl⟩
set_option maxRecDepth 100000 in
theorem Spot_fl (i xp xa xb xc : Int) (hx : spOf sp i = ⟨xp, xa, xb, xc⟩) : Calls Try.prog 31 #[.pointer (some ⟨gf, 0, none⟩), .int .i64 i] w fun e w' => e = .returned (.agg #[.int .i64 xp, .int .i64 xa, .int .i64 xb, .int .i64 xc]) ∧ Below w.heap.size w w' := by
  have hm := fun w => m_Spot gl w
  have hbn := below_new w (.cells #[.int .i64 0, .int .i64 0, .int .i64 0, .int .i64 0] 31)
  have H1 := H.same hbn
  have HM := Lib.hid (made_yes gf 1 _ _ _ H1 (by decide))
  have c1 := blk_cell H1 1 (by simp)
  simp only [List.getElem_toArray, List.getElem_cons_succ, List.getElem_cons_zero] at c1
  have hbk := blk_new w (.cells #[.int .i64 0, .int .i64 0, .int .i64 0, .int .i64 0] 31)
  have hz : w.heap.size < (w.alloc (.cells #[.int .i64 0, .int .i64 0, .int .i64 0, .int .i64 0] 31)).heap.size := by simp
  have HC := Ta.Spot_lk gl ga ha hs P σ sp _ (K.same hbn) i
  rw [hx] at HC
  replace HC := Lib.hid HC
  have HB := Lib.hid hbk
  clear H K hx H1 hbk
  go_enter Try.func31, Try.ntmps31
  go_wp2_with fail
  refine (HM.out).mono ?_
  rintro e wx ⟨rfl, hwx⟩
  obtain rfl := hwx.symm
  go_wp2_with fail
  refine HC.out.mono ?_
  rintro e w2 ⟨rfl, hb2⟩
  have hbk2 := (Mod.of_below (S := []) hb2).blk HB.out (by simp)
  have d0 := blk_cell hbk2 0 (by simp)
  have d1 := blk_cell hbk2 1 (by simp)
  have d2 := blk_cell hbk2 2 (by simp)
  have d3 := blk_cell hbk2 3 (by simp)
  have f0 := blk_free hbk2 0
  have f1 := blk_free hbk2 1
  have f2 := blk_free hbk2 2
  have f3 := blk_free hbk2 3
  simp only [List.getElem_toArray, List.getElem_cons_zero, List.getElem_cons_succ] at d0 d1 d2 d3
  have hB := Lib.hid (hbn.trans (hb2.mono hbn.size))
  have k0 := blk_set hbk2 0 (.int .i64 xp)
  have k1 := blk_set k0 1 (.int .i64 xa)
  have k2 := blk_set k1 2 (.int .i64 xb)
  have k3 := blk_set k2 3 (.int .i64 xc)
  have g0 := blk_cell k0 0 (by simp)
  have g1 := blk_cell k1 1 (by simp)
  have g2 := blk_cell k2 2 (by simp)
  have g3 := blk_cell k3 3 (by simp)
  simp at g0 g1 g2 g3
  clear hbk2 hb2 k0 k1 k2 k3
  go_wp2_with fail
  exact bodyPost_ret (v := .agg #[.int .i64 xp, .int .i64 xa, .int .i64 xb, .int .i64 xc]) (by simp [results, Try.results31, go_sem, g0, g1, g2, g3]) rfl ⟨rfl, by first | exact hB.out | exact (((((hB.out.setCell (Nat.le_refl _) _).setCell (Nat.le_refl _) _).setCell (Nat.le_refl _) _).setCell (Nat.le_refl _) _))⟩
end
set_option maxRecDepth 100000 in
theorem new_tas (ga ha : Nat) (σ σ1 : Ar) (w : World) (H : ArAt w ga ha σ) (hh : ha < w.heap.size) (n : Nat) (n1 : 1 ≤ n) (n2 : n ≤ 32) (most : Int) (m1 : 1 ≤ most) (m2 : most ≤ 1024) (next : Int) (ht : σ.take 1 = ((next, 0), σ1)) :
    Calls Try.prog 30 #[.pointer (some ⟨ga, 0, none⟩), .int .i64 1, .int .i64 (n : Int), .int .i64 most] w fun e w' => ∃ gf gl hs, e = .returned (.tuple #[.pointer (some ⟨gf, 0, none⟩), .int .i64 0]) ∧ FlB w' gf 1 91 (.agg #[.pointer (some ⟨gl, 0, none⟩)]) ∧ Ta.LkAt w' gl ga ha hs ⟨next, most⟩ σ1 (Ta.zeroS n) ∧ (w.heap.size ≤ gf ∧ w.heap.size ≤ gl ∧ w.heap.size ≤ hs ∧ gf ≠ hs) ∧ Mod [ga, ha] w w' := by
  have HN := Lib.hid (Ta.new_lk ga ha σ σ1 w H hh n n1 n2 most m1 m2 next ht)
  clear H ht
  go_enter Try.func30, Try.ntmps30
  go_wp2_with fail
  refine HN.out.mono ?_
  rintro e w2 ⟨gl, hs, rfl, hk, hgl, hhs, hm⟩
  have hbn := below_new w2 (.cells #[.int .i64 1, .iface 91 (.agg #[.pointer (some ⟨gl, 0, none⟩)])] 61)
  have HB := Lib.hid (blk_new w2 (.cells #[.int .i64 1, .iface 91 (.agg #[.pointer (some ⟨gl, 0, none⟩)])] 61))
  have hz := hm.size
  have hlt := hk.2.1.lt
  have HK := Lib.hid (hk.same hbn)
  have hmm := hm.alloc (.cells #[.int .i64 1, .iface 91 (.agg #[.pointer (some ⟨gl, 0, none⟩)])] 61)
  clear hk hm hbn
  go_wp2_with fail
  go_ret2
  exact ⟨w2.heap.size, gl, hs, rfl, HB.out, HK.out, by omega, hmm⟩
theorem new_kind (q : Option Addr) (w : World) : Calls Try.prog 30 #[.pointer q, .int .i64 6, .int .i64 2, .int .i64 4] w fun e w' => e = .returned (.tuple #[.pointer none, .int .i64 7]) ∧ w' = w := by
  go_enter Try.func30, Try.ntmps30
  go_wp2_with fail
  go_ret2
  exact ⟨rfl, by trivial⟩
theorem may_0 (w : World) : Calls Try.prog 41 #[.int .i64 0] w fun e w' => e = .returned (.bool false) ∧ w' = w := by
  go_enter Try.func41, Try.ntmps41
  go_wp2_with fail
  go_ret
  exact ⟨rfl, rfl⟩
theorem new_par0 (q : Option Addr) (w : World) : Calls Try.prog 14 #[.pointer q, .int .i64 3, .int .i64 0] w fun e w' => e = .returned (.tuple #[.pointer none, .int .i64 1]) ∧ w' = w := by
  go_enter Try.func14, Try.ntmps14
  go_wp2_with fail
  refine (Pt.may_yes 3 _ (by omega) (by omega)).mono ?_
  rintro e wx ⟨rfl, hwx⟩
  obtain rfl := hwx.symm
  go_wp2_with fail
  refine (may_0 _).mono ?_
  rintro e wx ⟨rfl, hwx⟩
  obtain rfl := hwx.symm
  go_wp2_with fail
  go_ret2
  exact ⟨rfl, by trivial⟩
theorem new_fpar0 (q : Option Addr) (w : World) : Calls Try.prog 30 #[.pointer q, .int .i64 3, .int .i64 3, .int .i64 0] w fun e w' => e = .returned (.tuple #[.pointer none, .int .i64 1]) ∧ w' = w := by
  go_enter Try.func30, Try.ntmps30
  go_wp2_with fail
  refine (new_par0 _ _).mono ?_
  rintro e wx ⟨rfl, hwx⟩
  obtain rfl := hwx.symm
  go_wp2_with fail
  go_ret2
  exact ⟨rfl, by trivial⟩
set_option maxRecDepth 100000 in
theorem new_fmcs (ga ha : Nat) (σ σ1 : Ar) (w : World) (H : ArAt w ga ha σ) (hh : ha < w.heap.size) (ht : σ.take (1 + 2 * ((3 : Nat) : Int)) = ((1, 0), σ1)) (ho : σ1.ops ≤ 1000000) :
    Calls Try.prog 30 #[.pointer (some ⟨ga, 0, none⟩), .int .i64 4, .int .i64 3, .int .i64 0] w fun e w' => ∃ gf, e = .returned (.tuple #[.pointer (some ⟨gf, 0, none⟩), .int .i64 0]) ∧ ArAt w' ga ha σ1 ∧ Mod [ga, ha] w w' := by
  have HN : Calls Try.prog 26 #[.pointer (some ⟨ga, 0, none⟩), .int .i64 3] w _ := Mc.new_lk ga ha σ σ1 w H hh 3 (by omega) (by omega) 1 (by omega) (by omega) ht ho
  replace HN := Lib.hid HN
  clear H ht
  go_enter Try.func30, Try.ntmps30
  go_wp2_with fail
  refine HN.out.mono ?_
  rintro e w2 ⟨gl, hs, rfl, hk, _, _, hm⟩
  have HA := Lib.hid (hk.1.step (below_new w2 (.cells #[.int .i64 4, .iface 48 (.pointer (some ⟨gl, 0, none⟩))] 61)))
  have hmm := hm.alloc (.cells #[.int .i64 4, .iface 48 (.pointer (some ⟨gl, 0, none⟩))] 61)
  clear hk hm
  go_wp2_with fail
  go_ret2
  exact ⟨_, rfl, HA.out, hmm⟩
theorem take4096 : (Ar.fresh (room 4096)).take (1 + 2 * ((3 : Nat) : Int)) = ((1, 0), ⟨zerosW 4096, 7, 0, 0, 0, false⟩) := by
  have hr : room 4096 = 4096 := by unfold room; rw [if_neg (by omega), if_neg (by omega)]; rfl
  rw [hr]
  have hl : (zerosW 4096).length = 4096 := List.length_replicate
  unfold Ar.take Ar.fresh
  rw [if_neg (by decide), if_neg (by simp only [hl]; omega)]
  rfl
theorem size_mcs (w : World) : Calls Try.prog 64 #[.int .i64 4, .int .i64 3, .int .i64 0] w fun e w' => e = .returned (.int .i64 7) ∧ Below w.heap.size w w' := by
  go_enter Try.func64, Try.ntmps64
  go_wp2_with fail
  refine (new_at 4096 _ _ rfl).mono ?_
  rintro e w1 ⟨rfl, hat⟩
  have HN := Lib.hid (new_fmcs (w.heap.size + 1) w.heap.size _ _ w1 hat.1 (by have := hat.2.1; omega) take4096 (by show 0 ≤ _; omega))
  have HB := Lib.hid hat.2.2
  have hz := hat.2.1
  clear hat
  go_wp2_with fail
  refine HN.out.mono ?_
  rintro e w2 ⟨gf, rfl, ha, hm⟩
  have HL := Lib.hid (show Calls Try.prog 46 #[.pointer (some ⟨w.heap.size + 1, 0, none⟩)] w2 fun e w' => e = .returned (.int .i64 7) ∧ w' = w2 from len_any _ _ _ _ ha)
  have hB := HB.out.trans (hm.below (by omega) (by simp))
  clear ha hm HN
  go_wp2_with fail
  refine (HL.out).mono ?_
  rintro e wx ⟨rfl, hwx⟩
  obtain rfl := hwx.symm
  go_wp2_with fail
  go_ret
  exact ⟨rfl, hB⟩
theorem size_par (w : World) : Calls Try.prog 64 #[.int .i64 3, .int .i64 3, .int .i64 0] w fun e w' => e = .returned (.int .i64 0) ∧ Below w.heap.size w w' := by
  go_enter Try.func64, Try.ntmps64
  go_wp2_with fail
  refine (new_at 4096 _ _ rfl).mono ?_
  rintro e w1 ⟨rfl, hat⟩
  have HB := Lib.hid hat.2.2
  clear hat
  go_wp2_with fail
  refine (new_fpar0 _ _).mono ?_
  rintro e wx ⟨rfl, hwx⟩
  obtain rfl := hwx.symm
  go_wp2_with fail
  go_ret
  exact ⟨rfl, HB.out⟩
theorem door_clh (w : World) : Calls Try.prog 33 #[.int .i64 5] w fun e w' => e = .returned (.int .i64 2) ∧ w' = w := by
  go_enter Try.func33, Try.ntmps33
  go_wp2_with fail
  go_ret
  exact ⟨rfl, rfl⟩
end Go.Proofs.Ythffhhgaeolpgaa.Fl
