/- Layer 20's law FlatNone. -/
import Derived.Test.YthffhhgaeolpgaaFl2
namespace Go.Proofs.Ythffhhgaeolpgaa.Fl
open Go.RowKit Go.Proofs.Ythffhhgaeolpgaa.Ara Go.Proofs.Ythffhhgaeolpgaa.Lok

theorem frame36 {a : Act} (h : a.tmps.size = 36) (hd : a.defers = []) : ∃ u : Nat → Value, a = { tmps := #[u 0, u 1, u 2, u 3, u 4, u 5, u 6, u 7, u 8, u 9, u 10, u 11, u 12, u 13, u 14, u 15, u 16, u 17, u 18, u 19, u 20, u 21, u 22, u 23, u 24, u 25, u 26, u 27, u 28, u 29, u 30, u 31, u 32, u 33, u 34, u 35], defers := [] } ∧ ∀ n, a.tmps.getD n undef = u n := by
  refine ⟨fun n => a.tmps.getD n undef, ?_, fun _ => rfl⟩
  have h1 := arr_lit a.tmps h
  cases a with
  | mk t d =>
    simp only at hd h1
    subst hd
    congr 1
set_option maxHeartbeats 8000000 in
set_option maxRecDepth 100000 in
theorem awake20 (w : World) : Calls Try.prog 29 #[] w fun e w' => e = .returned (.bool true) ∧ Below w.heap.size w w' := by
  have q1 := fun a b c d W => sfld0 a b c d W
  go_enter Try.func29, Try.ntmps29
  go_wp2_with fail
  refine (new_at 9 _ _ rfl).mono ?_
  rintro e w1 ⟨rfl, hat⟩
  have HN : Calls Try.prog 30 #[.pointer (some ⟨w.heap.size + 1, 0, none⟩), .int .i64 1, .int .i64 2, .int .i64 4] w1 _ := new_tas (w.heap.size + 1) w.heap.size (Ar.fresh (room 9)) ⟨[0, 0, 0, 0, 0, 0, 0, 0, 0], 1, 0, 0, 0, false⟩ w1 hat.1 (by have := hat.2.1; omega) 2 (by omega) (by omega) 4 (by omega) (by omega) 1 rfl
  replace HN := Lib.hid HN
  go_wp2_with fail
  refine HN.out.mono ?_
  rintro e w2 ⟨gf, gl, hs, rfl, hf, hk, ⟨hgf, hgl, hhs, hne⟩, hm⟩
  have hz := hat.2.1
  have HF := Lib.hid hf
  have HK := Lib.hid (show Ta.LkAt w2 gl (w.heap.size + 1) w.heap.size hs ⟨1, 4⟩ (⟨[0, 0, 0, 0, 0, 0, 0, 0, 0], 1, 0, 0, 0, false⟩ : Ar) ([⟨0, 0, 0, 0⟩, ⟨0, 0, 0, 0⟩] : List Sp) from hk)
  have HB := Lib.hid (hat.2.2.trans (hm.below (by omega) (by simp)))
  clear hf hk hm HN hat
  go_wp2_with fail
  refine (new_kind _ _).mono ?_
  rintro e wx ⟨rfl, hwx⟩
  obtain rfl := hwx.symm
  go_wp2_with fail
  have HC : Calls Try.prog 60 #[.pointer (some ⟨gf, 0, none⟩), .int .i64 1] w2 _ := Ask_fl gf gl w2 HF.out 1 true _ (Ta.ask_yes gl (w.heap.size + 1) w.heap.size hs _ _ _ w2 HK.out 1 (by decide) rfl [⟨0, 0, 0, 0⟩, ⟨1, 1, 0, 0⟩] rfl)
  refine HC.mono ?_
  rintro e wn ⟨rfl, hk, hm⟩
  replace HF := Lib.hid (HF.out.mod hm (by simp; omega))
  replace HB := Lib.hid (HB.out.trans (hm.below (by have := HK.out.2.1.lt; omega) (by simp; omega)))
  replace HK := Lib.hid hk
  clear hk hm HC
  go_wp2_with fail
  have HC : Calls Try.prog 61 #[.pointer (some ⟨gf, 0, none⟩), .int .i64 1] _ fun e w' => e = .returned (.bool false) ∧ Below _ _ w' := Alone_fl gf gl (w.heap.size + 1) w.heap.size hs _ _ _ _ HF.out HK.out 1 false rfl
  refine HC.mono ?_
  rintro e wn ⟨rfl, hb⟩
  replace HF := Lib.hid (HF.out.same hb)
  replace HB := Lib.hid (HB.out.trans (hb.mono (by have := HK.out.2.1.lt; omega)))
  replace HK := Lib.hid (HK.out.same hb)
  clear hb HC
  go_wp2_with fail
  have HC : Calls Try.prog 62 #[.pointer (some ⟨gf, 0, none⟩), .int .i64 1] _ _ := Step_fl gf gl _ HF.out 1 true _ (Ta.step_one_yes gl (w.heap.size + 1) w.heap.size hs _ _ _ _ HK.out 1 (by decide) (by decide) rfl rfl [⟨0, 0, 0, 0⟩, ⟨10, 1, 0, 0⟩] rfl)
  refine HC.mono ?_
  rintro e wn ⟨rfl, hk, hm⟩
  replace HF := Lib.hid (HF.out.mod hm (by simp; omega))
  replace HB := Lib.hid (HB.out.trans (hm.below (by have := HK.out.2.1.lt; omega) (by simp; omega)))
  replace HK := Lib.hid hk
  clear hk hm HC
  go_wp2_with fail
  have HC : Calls Try.prog 61 #[.pointer (some ⟨gf, 0, none⟩), .int .i64 1] _ fun e w' => e = .returned (.bool true) ∧ Below _ _ w' := Alone_fl gf gl (w.heap.size + 1) w.heap.size hs _ _ _ _ HF.out HK.out 1 true rfl
  refine HC.mono ?_
  rintro e wn ⟨rfl, hb⟩
  replace HF := Lib.hid (HF.out.same hb)
  replace HB := Lib.hid (HB.out.trans (hb.mono (by have := HK.out.2.1.lt; omega)))
  replace HK := Lib.hid (HK.out.same hb)
  clear hb HC
  go_wp2_with fail
  have HC : Calls Try.prog 31 #[.pointer (some ⟨gf, 0, none⟩), .int .i64 1] _ _ := Spot_fl gf gl (w.heap.size + 1) w.heap.size hs _ _ _ _ HF.out HK.out 1 10 1 0 0 rfl
  refine HC.mono ?_
  rintro e wn ⟨rfl, hb⟩
  replace HF := Lib.hid (HF.out.same hb)
  replace HB := Lib.hid (HB.out.trans (hb.mono (by have := HK.out.2.1.lt; omega)))
  replace HK := Lib.hid (HK.out.same hb)
  clear hb HC
  go_wp2_with fail
  have HC : Calls Try.prog 63 #[.pointer (some ⟨gf, 0, none⟩), .int .i64 1] _ _ := Leave_fl gf gl _ HF.out 1 true _ (Ta.leave_yes gl (w.heap.size + 1) w.heap.size hs _ _ _ _ HK.out 1 (by decide) rfl [⟨0, 0, 0, 0⟩, ⟨11, 1, 0, 0⟩] rfl)
  refine HC.mono ?_
  rintro e wn ⟨rfl, hk, hm⟩
  replace HF := Lib.hid (HF.out.mod hm (by simp; omega))
  replace HB := Lib.hid (HB.out.trans (hm.below (by have := HK.out.2.1.lt; omega) (by simp; omega)))
  replace HK := Lib.hid hk
  clear hk hm HC
  go_wp2_with fail
  have HC : Calls Try.prog 62 #[.pointer (some ⟨gf, 0, none⟩), .int .i64 1] _ _ := Step_fl gf gl _ HF.out 1 true _ (Ta.step_out gl (w.heap.size + 1) w.heap.size hs _ _ _ _ HK.out 1 (by decide) (by decide) rfl [⟨0, 0, 0, 0⟩, ⟨0, 1, 0, 0⟩] rfl)
  refine HC.mono ?_
  rintro e wn ⟨rfl, hk, hm⟩
  replace HF := Lib.hid (HF.out.mod hm (by simp; omega))
  replace HB := Lib.hid (HB.out.trans (hm.below (by have := HK.out.2.1.lt; omega) (by simp; omega)))
  replace HK := Lib.hid hk
  clear hk hm HC
  go_wp2_with fail
  refine (kind_yes gf 1 _ _ _ HF.out (by decide)).mono ?_
  rintro e wx ⟨rfl, hwx⟩
  obtain rfl := hwx.symm
  go_wp2_with fail
  have HC : Calls Try.prog 35 #[.pointer (some ⟨gf, 0, none⟩)] _ fun e w' => e = .returned (.int .i64 2) ∧ w' = _ := Slots_fl gf gl (w.heap.size + 1) w.heap.size hs _ _ _ _ HF.out HK.out
  refine (HC).mono ?_
  rintro e wx ⟨rfl, hwx⟩
  obtain rfl := hwx.symm
  go_wp2_with fail
  clear HC
  refine (size_mcs _).mono ?_
  rintro e wn ⟨rfl, hb⟩
  replace HB := Lib.hid (HB.out.trans (hb.mono HB.out.size))
  clear hb HF HK
  go_wp2_with fail
  refine (size_par _).mono ?_
  rintro e wn ⟨rfl, hb⟩
  replace HB := Lib.hid (HB.out.trans (hb.mono HB.out.size))
  clear hb
  go_wp2_with fail
  refine (door_clh _).mono ?_
  rintro e wx ⟨rfl, hwx⟩
  obtain rfl := hwx.symm
  go_wp2_with fail
  go_ret
  exact ⟨rfl, HB.out⟩
theorem lx0 (a b : Option Addr) (W : World) : (Instr.index 62 (.agg #[.pointer a, .pointer b]) (.int .i64 0)).run Try.prog W = .ok (.pointer a) W := by
  simp [Instr.index, run_underlying Try.underlying62, asIntOf, go_sem]
theorem lx1 (a b : Option Addr) (W : World) : (Instr.index 62 (.agg #[.pointer a, .pointer b]) (.int .i64 1)).run Try.prog W = .ok (.pointer b) W := by
  simp [Instr.index, run_underlying Try.underlying62, asIntOf, go_sem]
theorem do_none (q : Option Addr) (w : World) (H : NoneAt w q) (kd i : Int) : Calls Try.prog 32 #[.pointer q, .agg #[.int .i64 kd, .int .i64 i]] w fun e w' => e = .returned (.bool false) ∧ Below w.heap.size w w' := by
  have hbn := below_new w (.cells #[.int .i64 kd, .int .i64 i] 34)
  have H1 := H.same hbn
  by_cases hk : kd < 0 ∨ 3 < kd
  · have k0 := ibeq_no (show ¬ kd = 0 by omega)
    have k1 := ibeq_no (show ¬ kd = 1 by omega)
    have k2 := ibeq_no (show ¬ kd = 2 by omega)
    have k3 := ibeq_no (show ¬ kd = 3 by omega)
    clear H H1 hk
    go_enter Try.func32, Try.ntmps32
    go_wp2_with fail
    go_ret
    exact ⟨rfl, hbn⟩
  rcases (show kd = 0 ∨ kd = 1 ∨ kd = 2 ∨ kd = 3 by omega) with rfl | rfl | rfl | rfl
  · have HC := Lib.hid (Step_none q _ H1 i)
    clear H H1 hk
    go_enter Try.func32, Try.ntmps32
    go_wp2_with fail
    refine (HC.out).mono ?_
    rintro e wx ⟨rfl, hwx⟩
    obtain rfl := hwx.symm
    go_wp2_with fail
    go_ret
    exact ⟨rfl, hbn⟩
  · have HC := Lib.hid (Ask_none q _ H1 i)
    clear H H1 hk
    go_enter Try.func32, Try.ntmps32
    go_wp2_with fail
    refine (HC.out).mono ?_
    rintro e wx ⟨rfl, hwx⟩
    obtain rfl := hwx.symm
    go_wp2_with fail
    go_ret
    exact ⟨rfl, hbn⟩
  · have HC := Lib.hid (Leave_none q _ H1 i)
    clear H H1 hk
    go_enter Try.func32, Try.ntmps32
    go_wp2_with fail
    refine (HC.out).mono ?_
    rintro e wx ⟨rfl, hwx⟩
    obtain rfl := hwx.symm
    go_wp2_with fail
    go_ret
    exact ⟨rfl, hbn⟩
  · have HC := Lib.hid (Alone_none q _ H1 i)
    clear H H1 hk
    go_enter Try.func32, Try.ntmps32
    go_wp2_with fail
    refine (HC.out).mono ?_
    rintro e wx ⟨rfl, hwx⟩
    obtain rfl := hwx.symm
    go_wp2_with fail
    go_ret
    exact ⟨rfl, hbn⟩
def NnJ (kd i : Int) (w : World) (a : Act) (W : World) : Prop :=
  a.tmps.size = 36 ∧ a.defers = [] ∧ a.tmps.getD 1 undef = .pointer (some ⟨w.heap.size, 0, none⟩) ∧ a.tmps.getD 9 undef = .agg #[.pointer none, .pointer (some ⟨w.heap.size + 1, 0, none⟩)] ∧
    ∃ k : Nat, a.tmps.getD 10 undef = .int .i64 k ∧ k ≤ 2 ∧ W.cell? ⟨w.heap.size, 0, none⟩ = some (.int .i64 kd) ∧ W.cell? ⟨w.heap.size, 1, none⟩ = some (.int .i64 i) ∧ NoneAt W (some ⟨w.heap.size + 1, 0, none⟩) ∧ Below w.heap.size w W
set_option maxHeartbeats 8000000 in
set_option maxRecDepth 100000 in
theorem none_walk (kd i : Int) (w : World) : Calls Try.prog 10 #[.agg #[.int .i64 kd, .int .i64 i]] w fun e w' => e = .returned (.bool true) ∧ Below w.heap.size w w' := by
  have q1 := fun W => neSp 0 0 0 0 W
  have q2 := fun x y xs ys W => neGSp x y xs ys W
  have q3 := fun a b W => lx0 a b W
  have q4 := fun a b W => lx1 a b W
  have h0 := below_new w (.cells #[.int .i64 kd, .int .i64 i] 34)
  have hz1 : (w.alloc (.cells #[.int .i64 kd, .int .i64 i] 34)).heap.size = w.heap.size + 1 := by simp
  have h1 := below_new (w.alloc (.cells #[.int .i64 kd, .int .i64 i] 34)) (.cells #[.int .i64 0, .nilIface] 61)
  have b0 := blk_alloc (blk_new w (.cells #[.int .i64 kd, .int .i64 i] 34)) (.cells #[.int .i64 0, .nilIface] 61)
  have b1 := blk_new (w.alloc (.cells #[.int .i64 kd, .int .i64 i] 34)) (.cells #[.int .i64 0, .nilIface] 61)
  rw [hz1] at b1
  have c0 := blk_cell b0 0 (by simp)
  have c1 := blk_cell b0 1 (by simp)
  have d0 := blk_cell b1 0 (by simp)
  simp only [List.getElem_toArray, List.getElem_cons_zero, List.getElem_cons_succ] at c0 c1 d0
  have HN := Lib.hid (show NoneAt _ (some ⟨w.heap.size + 1, 0, none⟩) from .inr ⟨_, rfl, d0⟩)
  have HB := Lib.hid (h0.trans (h1.mono (by omega)))
  clear h0 h1 b0 b1 d0
  go_enter Try.func10, Try.ntmps10
  go_wp2_with fail
  refine wp_loop (NnJ kd i w) (fun a' _ => 2 - (intOf (a'.tmps.getD 10 undef)).toNat) ?_ ?_
  · exact ⟨rfl, rfl, rfl, rfl, 0, rfl, by omega, c0, c1, HN.out, HB.out⟩
  · clear HN HB c0 c1
    rintro a' W ⟨hsz, hdf, s1, s9, k, s10, hk, c0, c1, hn, hb⟩
    obtain ⟨u, rfl, hu⟩ := frame36 hsz hdf
    rw [hu] at s1 s9 s10
    simp only [s1, s9, s10]
    clear hsz hdf s1 s9 s10 hu
    have HN := Lib.hid hn
    have HB := Lib.hid hb
    clear hn hb
    by_cases hlt : k < 2
    · rcases (show k = 0 ∨ k = 1 by omega) with rfl | rfl
      · have HNq : Hid (NoneAt W none) := Lib.hid (.inl rfl)
        go_wp2_with fail
        refine (do_none none _ HNq.out kd i).mono ?_
        rintro e w3 ⟨rfl, hb3⟩
        have c0 := keep1 hb3 c0
        have c1 := keep1 hb3 c1
        have HNq := Lib.hid (HNq.out.same hb3)
        have HN := Lib.hid (HN.out.same hb3)
        have HB := Lib.hid (HB.out.trans (hb3.mono HB.out.size))
        clear hb3
        go_wp2_with fail
        refine (kind_none none _ HNq.out).mono ?_
        rintro e wx ⟨rfl, hwx⟩
        obtain rfl := hwx.symm
        go_wp2_with fail
        refine (slots_none none _ HNq.out).mono ?_
        rintro e wx ⟨rfl, hwx⟩
        obtain rfl := hwx.symm
        go_wp2_with fail
        refine (Spot_none none _ HNq.out i).mono ?_
        rintro e w4 ⟨rfl, hb4⟩
        have c0 := keep1 hb4 c0
        have c1 := keep1 hb4 c1
        have HN := Lib.hid (HN.out.same hb4)
        have HB := Lib.hid (HB.out.trans (hb4.mono HB.out.size))
        clear hb4
        go_wp2_with fail
        exact ⟨⟨rfl, rfl, rfl, rfl, 1, rfl, by omega, c0, c1, HN.out, HB.out⟩, by simp [intOf]⟩
      · have HNq := HN
        go_wp2_with fail
        refine (do_none (some ⟨w.heap.size + 1, 0, none⟩) _ HNq.out kd i).mono ?_
        rintro e w3 ⟨rfl, hb3⟩
        have c0 := keep1 hb3 c0
        have c1 := keep1 hb3 c1
        have HNq := Lib.hid (HNq.out.same hb3)
        have HN := Lib.hid (HN.out.same hb3)
        have HB := Lib.hid (HB.out.trans (hb3.mono HB.out.size))
        clear hb3
        go_wp2_with fail
        refine (kind_none (some ⟨w.heap.size + 1, 0, none⟩) _ HNq.out).mono ?_
        rintro e wx ⟨rfl, hwx⟩
        obtain rfl := hwx.symm
        go_wp2_with fail
        refine (slots_none (some ⟨w.heap.size + 1, 0, none⟩) _ HNq.out).mono ?_
        rintro e wx ⟨rfl, hwx⟩
        obtain rfl := hwx.symm
        go_wp2_with fail
        refine (Spot_none (some ⟨w.heap.size + 1, 0, none⟩) _ HNq.out i).mono ?_
        rintro e w4 ⟨rfl, hb4⟩
        have c0 := keep1 hb4 c0
        have c1 := keep1 hb4 c1
        have HN := Lib.hid (HN.out.same hb4)
        have HB := Lib.hid (HB.out.trans (hb4.mono HB.out.size))
        clear hb4
        go_wp2_with fail
        exact ⟨⟨rfl, rfl, rfl, rfl, 2, rfl, by omega, c0, c1, HN.out, HB.out⟩, by simp [intOf]⟩
    · obtain rfl : k = 2 := by omega
      clear c0 c1
      go_wp2_with fail
      refine (awake20 _).mono ?_
      rintro e w9 ⟨rfl, hb9⟩
      go_wp2_with fail
      go_ret
      exact ⟨rfl, HB.out.trans (hb9.mono HB.out.size)⟩
theorem reads_ac {H : Type} {enc : TypeId × Value → H} : Reads enc Try.prog 34 decAc (fun e => isI64 e.kind ∧ isI64 e.i) :=
  (reads_s2 (d0 := Value.int .i64) (d1 := Value.int .i64) Try.underlying34 (by kernel_rfl) (by kernel_rfl) (reads_i64 Try.underlying3) (reads_i64 Try.underlying3)).map
    (fun p => ⟨p.1, p.2⟩) (fun _ => rfl) (fun _ h => h)

theorem none_law (w : World) (x : Ac) (_h : isI64 x.kind ∧ isI64 x.i) : Calls Try.prog 10 #[.agg (decAc x).toArray] w fun e w' => e = .returned (.bool true) ∧ Below w.heap.size w w' := none_walk x.kind x.i w
end Go.Proofs.Ythffhhgaeolpgaa.Fl
