/- Merged texts: Fl3, Fl7, FlO1, FlO2. -/
import Derived.Test.YthffhhgaeolpgaaFr11
/- Layer 20's law FlatNone. -/
namespace Go.Proofs.Ythffhhgaeolpgaa.Fl
open Go.RowKit Go.Proofs.Ythffhhgaeolpgaa.Ara Go.Proofs.Ythffhhgaeolpgaa.Lok

theorem frame36 {a : Act} (h : a.tmps.size = 36) (hd : a.defers = []) : ∃ u : Nat → Value, a = { tmps := #[u 0, u 1, u 2, u 3, u 4, u 5, u 6, u 7, u 8, u 9, u 10, u 11, u 12, u 13, u 14, u 15, u 16, u 17, u 18, u 19, u 20, u 21, u 22, u 23, u 24, u 25, u 26, u 27, u 28, u 29, u 30, u 31, u 32, u 33, u 34, u 35], defers := [] } ∧ ∀ n, a.tmps.getD n undef = u n := by
  refine ⟨fun n => a.tmps.getD n undef, ?_, fun _ => rfl⟩
  have h1 := arr_lit a.tmps h
  cases a with
  | mk t d =>
    simp only at hd h1
    subst hd
    congr 1
set_option maxHeartbeats 8000000 in
set_option maxRecDepth 100000 in
theorem awake20 (w : World) : Calls Try.prog 29 #[] w fun e w' => e = .returned (.bool true) ∧ Below w.heap.size w w' := by
  have q1 := fun a b c d W => sfld0 a b c d W
  go_enter Try.func29, Try.ntmps29
  go_wp2_with fail
  refine (new_at 9 _ _ rfl).mono ?_
  rintro e w1 ⟨rfl, hat⟩
  have HN : Calls Try.prog 30 #[.pointer (some ⟨w.heap.size + 1, 0, none⟩), .int .i64 1, .int .i64 2, .int .i64 4] w1 _ := new_tas (w.heap.size + 1) w.heap.size (Ar.fresh (room 9)) ⟨[0, 0, 0, 0, 0, 0, 0, 0, 0], 1, 0, 0, 0, false⟩ w1 hat.1 (by have := hat.2.1; omega) 2 (by omega) (by omega) 4 (by omega) (by omega) 1 rfl
  replace HN := Lib.hid HN
  go_wp2_with fail
  refine HN.out.mono ?_
  rintro e w2 ⟨gf, gl, hs, rfl, hf, hk, ⟨hgf, hgl, hhs, hne⟩, hm⟩
  have hz := hat.2.1
  have HF := Lib.hid hf
  have HK := Lib.hid (show Ta.LkAt w2 gl (w.heap.size + 1) w.heap.size hs ⟨1, 4⟩ (⟨[0, 0, 0, 0, 0, 0, 0, 0, 0], 1, 0, 0, 0, false⟩ : Ar) ([⟨0, 0, 0, 0⟩, ⟨0, 0, 0, 0⟩] : List Sp) from hk)
  have HB := Lib.hid (hat.2.2.trans (hm.below (by omega) (by simp)))
  clear hf hk hm HN hat
  go_wp2_with fail
  refine (new_kind _ _).mono ?_
  rintro e wx ⟨rfl, hwx⟩
  obtain rfl := hwx.symm
  go_wp2_with fail
  have HC : Calls Try.prog 60 #[.pointer (some ⟨gf, 0, none⟩), .int .i64 1] w2 _ := Ask_fl gf gl w2 HF.out 1 true _ (Ta.ask_yes gl (w.heap.size + 1) w.heap.size hs _ _ _ w2 HK.out 1 (by decide) rfl [⟨0, 0, 0, 0⟩, ⟨1, 1, 0, 0⟩] rfl)
  refine HC.mono ?_
  rintro e wn ⟨rfl, hk, hm⟩
  replace HF := Lib.hid (HF.out.mod hm (by simp; omega))
  replace HB := Lib.hid (HB.out.trans (hm.below (by have := HK.out.2.1.lt; omega) (by simp; omega)))
  replace HK := Lib.hid hk
  clear hk hm HC
  go_wp2_with fail
  have HC : Calls Try.prog 61 #[.pointer (some ⟨gf, 0, none⟩), .int .i64 1] _ fun e w' => e = .returned (.bool false) ∧ Below _ _ w' := Alone_fl gf gl (w.heap.size + 1) w.heap.size hs _ _ _ _ HF.out HK.out 1 false rfl
  refine HC.mono ?_
  rintro e wn ⟨rfl, hb⟩
  replace HF := Lib.hid (HF.out.same hb)
  replace HB := Lib.hid (HB.out.trans (hb.mono (by have := HK.out.2.1.lt; omega)))
  replace HK := Lib.hid (HK.out.same hb)
  clear hb HC
  go_wp2_with fail
  have HC : Calls Try.prog 62 #[.pointer (some ⟨gf, 0, none⟩), .int .i64 1] _ _ := Step_fl gf gl _ HF.out 1 true _ (Ta.step_one_yes gl (w.heap.size + 1) w.heap.size hs _ _ _ _ HK.out 1 (by decide) (by decide) rfl rfl [⟨0, 0, 0, 0⟩, ⟨10, 1, 0, 0⟩] rfl)
  refine HC.mono ?_
  rintro e wn ⟨rfl, hk, hm⟩
  replace HF := Lib.hid (HF.out.mod hm (by simp; omega))
  replace HB := Lib.hid (HB.out.trans (hm.below (by have := HK.out.2.1.lt; omega) (by simp; omega)))
  replace HK := Lib.hid hk
  clear hk hm HC
  go_wp2_with fail
  have HC : Calls Try.prog 61 #[.pointer (some ⟨gf, 0, none⟩), .int .i64 1] _ fun e w' => e = .returned (.bool true) ∧ Below _ _ w' := Alone_fl gf gl (w.heap.size + 1) w.heap.size hs _ _ _ _ HF.out HK.out 1 true rfl
  refine HC.mono ?_
  rintro e wn ⟨rfl, hb⟩
  replace HF := Lib.hid (HF.out.same hb)
  replace HB := Lib.hid (HB.out.trans (hb.mono (by have := HK.out.2.1.lt; omega)))
  replace HK := Lib.hid (HK.out.same hb)
  clear hb HC
  go_wp2_with fail
  have HC : Calls Try.prog 31 #[.pointer (some ⟨gf, 0, none⟩), .int .i64 1] _ _ := Spot_fl gf gl (w.heap.size + 1) w.heap.size hs _ _ _ _ HF.out HK.out 1 10 1 0 0 rfl
  refine HC.mono ?_
  rintro e wn ⟨rfl, hb⟩
  replace HF := Lib.hid (HF.out.same hb)
  replace HB := Lib.hid (HB.out.trans (hb.mono (by have := HK.out.2.1.lt; omega)))
  replace HK := Lib.hid (HK.out.same hb)
  clear hb HC
  go_wp2_with fail
  have HC : Calls Try.prog 63 #[.pointer (some ⟨gf, 0, none⟩), .int .i64 1] _ _ := Leave_fl gf gl _ HF.out 1 true _ (Ta.leave_yes gl (w.heap.size + 1) w.heap.size hs _ _ _ _ HK.out 1 (by decide) rfl [⟨0, 0, 0, 0⟩, ⟨11, 1, 0, 0⟩] rfl)
  refine HC.mono ?_
  rintro e wn ⟨rfl, hk, hm⟩
  replace HF := Lib.hid (HF.out.mod hm (by simp; omega))
  replace HB := Lib.hid (HB.out.trans (hm.below (by have := HK.out.2.1.lt; omega) (by simp; omega)))
  replace HK := Lib.hid hk
  clear hk hm HC
  go_wp2_with fail
  have HC : Calls Try.prog 62 #[.pointer (some ⟨gf, 0, none⟩), .int .i64 1] _ _ := Step_fl gf gl _ HF.out 1 true _ (Ta.step_out gl (w.heap.size + 1) w.heap.size hs _ _ _ _ HK.out 1 (by decide) (by decide) rfl [⟨0, 0, 0, 0⟩, ⟨0, 1, 0, 0⟩] rfl)
  refine HC.mono ?_
  rintro e wn ⟨rfl, hk, hm⟩
  replace HF := Lib.hid (HF.out.mod hm (by simp; omega))
  replace HB := Lib.hid (HB.out.trans (hm.below (by have := HK.out.2.1.lt; omega) (by simp; omega)))
  replace HK := Lib.hid hk
  clear hk hm HC
  go_wp2_with fail
  refine (kind_yes gf 1 _ _ _ HF.out (by decide)).mono ?_
  rintro e wx ⟨rfl, hwx⟩
  obtain rfl := hwx.symm
  go_wp2_with fail
  have HC : Calls Try.prog 35 #[.pointer (some ⟨gf, 0, none⟩)] _ fun e w' => e = .returned (.int .i64 2) ∧ w' = _ := Slots_fl gf gl (w.heap.size + 1) w.heap.size hs _ _ _ _ HF.out HK.out
  refine (HC).mono ?_
  rintro e wx ⟨rfl, hwx⟩
  obtain rfl := hwx.symm
  go_wp2_with fail
  clear HC
  refine (size_mcs _).mono ?_
  rintro e wn ⟨rfl, hb⟩
  replace HB := Lib.hid (HB.out.trans (hb.mono HB.out.size))
  clear hb HF HK
  go_wp2_with fail
  refine (size_par _).mono ?_
  rintro e wn ⟨rfl, hb⟩
  replace HB := Lib.hid (HB.out.trans (hb.mono HB.out.size))
  clear hb
  go_wp2_with fail
  refine (door_clh _).mono ?_
  rintro e wx ⟨rfl, hwx⟩
  obtain rfl := hwx.symm
  go_wp2_with fail
  go_ret
  exact ⟨rfl, HB.out⟩
theorem lx0 (a b : Option Addr) (W : World) : (Instr.index 62 (.agg #[.pointer a, .pointer b]) (.int .i64 0)).run Try.prog W = .ok (.pointer a) W := by
  simp [Instr.index, run_underlying Try.underlying62, asIntOf, go_sem]
theorem lx1 (a b : Option Addr) (W : World) : (Instr.index 62 (.agg #[.pointer a, .pointer b]) (.int .i64 1)).run Try.prog W = .ok (.pointer b) W := by
  simp [Instr.index, run_underlying Try.underlying62, asIntOf, go_sem]
theorem do_none (q : Option Addr) (w : World) (H : NoneAt w q) (kd i : Int) : Calls Try.prog 32 #[.pointer q, .agg #[.int .i64 kd, .int .i64 i]] w fun e w' => e = .returned (.bool false) ∧ Below w.heap.size w w' := by
  have hbn := below_new w (.cells #[.int .i64 kd, .int .i64 i] 34)
  have H1 := H.same hbn
  by_cases hk : kd < 0 ∨ 3 < kd
  · have k0 := ibeq_no (show ¬ kd = 0 by omega)
    have k1 := ibeq_no (show ¬ kd = 1 by omega)
    have k2 := ibeq_no (show ¬ kd = 2 by omega)
    have k3 := ibeq_no (show ¬ kd = 3 by omega)
    clear H H1 hk
    go_enter Try.func32, Try.ntmps32
    go_wp2_with fail
    go_ret
    exact ⟨rfl, hbn⟩
  rcases (show kd = 0 ∨ kd = 1 ∨ kd = 2 ∨ kd = 3 by omega) with rfl | rfl | rfl | rfl
  · have HC := Lib.hid (Step_none q _ H1 i)
    clear H H1 hk
    go_enter Try.func32, Try.ntmps32
    go_wp2_with fail
    refine (HC.out).mono ?_
    rintro e wx ⟨rfl, hwx⟩
    obtain rfl := hwx.symm
    go_wp2_with fail
    go_ret
    exact ⟨rfl, hbn⟩
  · have HC := Lib.hid (Ask_none q _ H1 i)
    clear H H1 hk
    go_enter Try.func32, Try.ntmps32
    go_wp2_with fail
    refine (HC.out).mono ?_
    rintro e wx ⟨rfl, hwx⟩
    obtain rfl := hwx.symm
    go_wp2_with fail
    go_ret
    exact ⟨rfl, hbn⟩
  · have HC := Lib.hid (Leave_none q _ H1 i)
    clear H H1 hk
    go_enter Try.func32, Try.ntmps32
    go_wp2_with fail
    refine (HC.out).mono ?_
    rintro e wx ⟨rfl, hwx⟩
    obtain rfl := hwx.symm
    go_wp2_with fail
    go_ret
    exact ⟨rfl, hbn⟩
  · have HC := Lib.hid (Alone_none q _ H1 i)
    clear H H1 hk
    go_enter Try.func32, Try.ntmps32
    go_wp2_with fail
    refine (HC.out).mono ?_
    rintro e wx ⟨rfl, hwx⟩
    obtain rfl := hwx.symm
    go_wp2_with fail
    go_ret
    exact ⟨rfl, hbn⟩
def NnJ (kd i : Int) (w : World) (a : Act) (W : World) : Prop :=
  a.tmps.size = 36 ∧ a.defers = [] ∧ a.tmps.getD 1 undef = .pointer (some ⟨w.heap.size, 0, none⟩) ∧ a.tmps.getD 9 undef = .agg #[.pointer none, .pointer (some ⟨w.heap.size + 1, 0, none⟩)] ∧
    ∃ k : Nat, a.tmps.getD 10 undef = .int .i64 k ∧ k ≤ 2 ∧ W.cell? ⟨w.heap.size, 0, none⟩ = some (.int .i64 kd) ∧ W.cell? ⟨w.heap.size, 1, none⟩ = some (.int .i64 i) ∧ NoneAt W (some ⟨w.heap.size + 1, 0, none⟩) ∧ Below w.heap.size w W
set_option maxHeartbeats 8000000 in
set_option maxRecDepth 100000 in
theorem none_walk (kd i : Int) (w : World) : Calls Try.prog 10 #[.agg #[.int .i64 kd, .int .i64 i]] w fun e w' => e = .returned (.bool true) ∧ Below w.heap.size w w' := by
  have q1 := fun W => neSp 0 0 0 0 W
  have q2 := fun x y xs ys W => neGSp x y xs ys W
  have q3 := fun a b W => lx0 a b W
  have q4 := fun a b W => lx1 a b W
  have h0 := below_new w (.cells #[.int .i64 kd, .int .i64 i] 34)
  have hz1 : (w.alloc (.cells #[.int .i64 kd, .int .i64 i] 34)).heap.size = w.heap.size + 1 := by simp
  have h1 := below_new (w.alloc (.cells #[.int .i64 kd, .int .i64 i] 34)) (.cells #[.int .i64 0, .nilIface] 61)
  have b0 := blk_alloc (blk_new w (.cells #[.int .i64 kd, .int .i64 i] 34)) (.cells #[.int .i64 0, .nilIface] 61)
  have b1 := blk_new (w.alloc (.cells #[.int .i64 kd, .int .i64 i] 34)) (.cells #[.int .i64 0, .nilIface] 61)
  rw [hz1] at b1
  have c0 := blk_cell b0 0 (by simp)
  have c1 := blk_cell b0 1 (by simp)
  have d0 := blk_cell b1 0 (by simp)
  simp only [List.getElem_toArray, List.getElem_cons_zero, List.getElem_cons_succ] at c0 c1 d0
  have HN := Lib.hid (show NoneAt _ (some ⟨w.heap.size + 1, 0, none⟩) from .inr ⟨_, rfl, d0⟩)
  have HB := Lib.hid (h0.trans (h1.mono (by omega)))
  clear h0 h1 b0 b1 d0
  go_enter Try.func10, Try.ntmps10
  go_wp2_with fail
  refine wp_loop (NnJ kd i w) (fun a' _ => 2 - (intOf (a'.tmps.getD 10 undef)).toNat) ?_ ?_
  · exact ⟨rfl, rfl, rfl, rfl, 0, rfl, by omega, c0, c1, HN.out, HB.out⟩
  · clear HN HB c0 c1
    rintro a' W ⟨hsz, hdf, s1, s9, k, s10, hk, c0, c1, hn, hb⟩
    obtain ⟨u, rfl, hu⟩ := frame36 hsz hdf
    rw [hu] at s1 s9 s10
    simp only [s1, s9, s10]
    clear hsz hdf s1 s9 s10 hu
    have HN := Lib.hid hn
    have HB := Lib.hid hb
    clear hn hb
    by_cases hlt : k < 2
    · rcases (show k = 0 ∨ k = 1 by omega) with rfl | rfl
      · have HNq : Hid (NoneAt W none) := Lib.hid (.inl rfl)
        go_wp2_with fail
        refine (do_none none _ HNq.out kd i).mono ?_
        rintro e w3 ⟨rfl, hb3⟩
        have c0 := keep1 hb3 c0
        have c1 := keep1 hb3 c1
        have HNq := Lib.hid (HNq.out.same hb3)
        have HN := Lib.hid (HN.out.same hb3)
        have HB := Lib.hid (HB.out.trans (hb3.mono HB.out.size))
        clear hb3
        go_wp2_with fail
        refine (kind_none none _ HNq.out).mono ?_
        rintro e wx ⟨rfl, hwx⟩
        obtain rfl := hwx.symm
        go_wp2_with fail
        refine (slots_none none _ HNq.out).mono ?_
        rintro e wx ⟨rfl, hwx⟩
        obtain rfl := hwx.symm
        go_wp2_with fail
        refine (Spot_none none _ HNq.out i).mono ?_
        rintro e w4 ⟨rfl, hb4⟩
        have c0 := keep1 hb4 c0
        have c1 := keep1 hb4 c1
        have HN := Lib.hid (HN.out.same hb4)
        have HB := Lib.hid (HB.out.trans (hb4.mono HB.out.size))
        clear hb4
        go_wp2_with fail
        exact ⟨⟨rfl, rfl, rfl, rfl, 1, rfl, by omega, c0, c1, HN.out, HB.out⟩, by simp [intOf]⟩
      · have HNq := HN
        go_wp2_with fail
        refine (do_none (some ⟨w.heap.size + 1, 0, none⟩) _ HNq.out kd i).mono ?_
        rintro e w3 ⟨rfl, hb3⟩
        have c0 := keep1 hb3 c0
        have c1 := keep1 hb3 c1
        have HNq := Lib.hid (HNq.out.same hb3)
        have HN := Lib.hid (HN.out.same hb3)
        have HB := Lib.hid (HB.out.trans (hb3.mono HB.out.size))
        clear hb3
        go_wp2_with fail
        refine (kind_none (some ⟨w.heap.size + 1, 0, none⟩) _ HNq.out).mono ?_
        rintro e wx ⟨rfl, hwx⟩
        obtain rfl := hwx.symm
        go_wp2_with fail
        refine (slots_none (some ⟨w.heap.size + 1, 0, none⟩) _ HNq.out).mono ?_
        rintro e wx ⟨rfl, hwx⟩
        obtain rfl := hwx.symm
        go_wp2_with fail
        refine (Spot_none (some ⟨w.heap.size + 1, 0, none⟩) _ HNq.out i).mono ?_
        rintro e w4 ⟨rfl, hb4⟩
        have c0 := keep1 hb4 c0
        have c1 := keep1 hb4 c1
        have HN := Lib.hid (HN.out.same hb4)
        have HB := Lib.hid (HB.out.trans (hb4.mono HB.out.size))
        clear hb4
        go_wp2_with fail
        exact ⟨⟨rfl, rfl, rfl, rfl, 2, rfl, by omega, c0, c1, HN.out, HB.out⟩, by simp [intOf]⟩
    · obtain rfl : k = 2 := by omega
      clear c0 c1
      go_wp2_with fail
      refine (awake20 _).mono ?_
      rintro e w9 ⟨rfl, hb9⟩
      go_wp2_with fail
      go_ret
      exact ⟨rfl, HB.out.trans (hb9.mono HB.out.size)⟩
theorem reads_ac {H : Type} {enc : TypeId × Value → H} : Reads enc Try.prog 34 decAc (fun e => isI64 e.kind ∧ isI64 e.i) :=
  (reads_s2 (d0 := Value.int .i64) (d1 := Value.int .i64) Try.underlying34 (by kernel_rfl) (by kernel_rfl) (reads_i64 Try.underlying3) (reads_i64 Try.underlying3)).map
    (fun p => ⟨p.1, p.2⟩) (fun _ => rfl) (fun _ h => h)

theorem none_law (w : World) (x : Ac) (_h : isI64 x.kind ∧ isI64 x.i) : Calls Try.prog 10 #[.agg (decAc x).toArray] w fun e w' => e = .returned (.bool true) ∧ Below w.heap.size w w' := none_walk x.kind x.i w
end Go.Proofs.Ythffhhgaeolpgaa.Fl

/- Layer 20's law FlatOne. -/
namespace Go.Proofs.Ythffhhgaeolpgaa.Fl
open Go.RowKit Go.Proofs.Ythffhhgaeolpgaa.Ara Go.Proofs.Ythffhhgaeolpgaa.Lok

theorem frame81 {a : Act} (h : a.tmps.size = 81) (hd : a.defers = []) : ∃ u : Nat → Value, a = { tmps := #[u 0, u 1, u 2, u 3, u 4, u 5, u 6, u 7, u 8, u 9, u 10, u 11, u 12, u 13, u 14, u 15, u 16, u 17, u 18, u 19, u 20, u 21, u 22, u 23, u 24, u 25, u 26, u 27, u 28, u 29, u 30, u 31, u 32, u 33, u 34, u 35, u 36, u 37, u 38, u 39, u 40, u 41, u 42, u 43, u 44, u 45, u 46, u 47, u 48, u 49, u 50, u 51, u 52, u 53, u 54, u 55, u 56, u 57, u 58, u 59, u 60, u 61, u 62, u 63, u 64, u 65, u 66, u 67, u 68, u 69, u 70, u 71, u 72, u 73, u 74, u 75, u 76, u 77, u 78, u 79, u 80], defers := [] } ∧ ∀ n, a.tmps.getD n undef = u n := by
  refine ⟨fun n => a.tmps.getD n undef, ?_, fun _ => rfl⟩
  have h1 := arr_lit a.tmps h
  cases a with
  | mk t d =>
    simp only at hd h1
    subst hd
    congr 1
set_option maxHeartbeats 4000000 in
set_option maxRecDepth 100000 in
theorem do_flat (gf gl ga ha hs : Nat) (p : PK) (σ : Ar) (sp : List Sp) (w : World) (K : FLAt w gf gl ga ha hs p σ sp) (n m : Nat) (ho : OkK p σ sp n m) (hm : m ≤ 100000) (kd i : Int) :
    Calls Try.prog 32 #[.pointer (some ⟨gf, 0, none⟩), .agg #[.int .i64 kd, .int .i64 i]] w fun e w' => e = .returned (.bool (doK p σ sp kd i).1) ∧ FLAt w' gf gl ga ha hs p (doK p σ sp kd i).2.1 (doK p σ sp kd i).2.2 ∧ Mod [ga, ha, hs] w w' := by
  by_cases hk : kd < 0 ∨ 3 < kd
  · rw [do_else p σ sp kd i hk]
    have k0 := ibeq_no (show ¬ kd = 0 by omega)
    have k1 := ibeq_no (show ¬ kd = 1 by omega)
    have k2 := ibeq_no (show ¬ kd = 2 by omega)
    have k3 := ibeq_no (show ¬ kd = 3 by omega)
    have HH := Lib.hid (K.same (below_new w (.cells #[.int .i64 kd, .int .i64 i] 34)))
    have HB := Lib.hid (Mod.of_below (S := [ga, ha, hs]) (below_new w (.cells #[.int .i64 kd, .int .i64 i] 34)))
    clear K hk ho hm
    go_enter Try.func32, Try.ntmps32
    go_wp2_with fail
    go_ret
    exact ⟨rfl, HH.out, HB.out⟩
  rcases (show kd = 0 ∨ kd = 1 ∨ kd = 2 ∨ kd = 3 by omega) with rfl | rfl | rfl | rfl
  · have HC := Lib.hid (fun W (K : FLAt W gf gl ga ha hs p σ sp) => Step_flat K n m ho hm i)
    have HH := Lib.hid (K.same (below_new w (.cells #[.int .i64 0, .int .i64 i] 34)))
    have HB := Lib.hid (Mod.of_below (S := [ga, ha, hs]) (below_new w (.cells #[.int .i64 0, .int .i64 i] 34)))
    clear K hk ho hm
    generalize doK p σ sp 0 i = r at *
    go_enter Try.func32, Try.ntmps32
    go_wp2_with fail
    refine (HC.out _ HH.out).mono ?_
    rintro e w2 ⟨rfl, h2, hm2⟩
    have H2 := Lib.hid h2
    clear h2
    go_wp2_with fail
    go_ret
    exact ⟨rfl, H2.out, HB.out.trans hm2⟩
  · have HC := Lib.hid (fun W (K : FLAt W gf gl ga ha hs p σ sp) => Ask_flat K n m ho hm i)
    have HH := Lib.hid (K.same (below_new w (.cells #[.int .i64 1, .int .i64 i] 34)))
    have HB := Lib.hid (Mod.of_below (S := [ga, ha, hs]) (below_new w (.cells #[.int .i64 1, .int .i64 i] 34)))
    clear K hk ho hm
    generalize doK p σ sp 1 i = r at *
    go_enter Try.func32, Try.ntmps32
    go_wp2_with fail
    refine (HC.out _ HH.out).mono ?_
    rintro e w2 ⟨rfl, h2, hm2⟩
    have H2 := Lib.hid h2
    clear h2
    go_wp2_with fail
    go_ret
    exact ⟨rfl, H2.out, HB.out.trans hm2⟩
  · have HC := Lib.hid (fun W (K : FLAt W gf gl ga ha hs p σ sp) => Leave_flat K n m ho hm i)
    have HH := Lib.hid (K.same (below_new w (.cells #[.int .i64 2, .int .i64 i] 34)))
    have HB := Lib.hid (Mod.of_below (S := [ga, ha, hs]) (below_new w (.cells #[.int .i64 2, .int .i64 i] 34)))
    clear K hk ho hm
    generalize doK p σ sp 2 i = r at *
    go_enter Try.func32, Try.ntmps32
    go_wp2_with fail
    refine (HC.out _ HH.out).mono ?_
    rintro e w2 ⟨rfl, h2, hm2⟩
    have H2 := Lib.hid h2
    clear h2
    go_wp2_with fail
    go_ret
    exact ⟨rfl, H2.out, HB.out.trans hm2⟩
  · have HC := Lib.hid (fun W (K : FLAt W gf gl ga ha hs p σ sp) => Alone_flat K n m ho hm i)
    have HH := Lib.hid (K.same (below_new w (.cells #[.int .i64 3, .int .i64 i] 34)))
    have HB := Lib.hid (Mod.of_below (S := [ga, ha, hs]) (below_new w (.cells #[.int .i64 3, .int .i64 i] 34)))
    clear K hk ho hm
    generalize doK p σ sp 3 i = r at *
    go_enter Try.func32, Try.ntmps32
    go_wp2_with fail
    refine (HC.out _ HH.out).mono ?_
    rintro e w2 ⟨rfl, h2, hm2⟩
    have H2 := Lib.hid h2
    clear h2
    go_wp2_with fail
    go_ret
    exact ⟨rfl, H2.out, HB.out.trans hm2⟩
theorem zeros_getD (n k : Nat) : (zerosW n).getD k 0 = 0 := by
  unfold zerosW
  rw [List.getD_eq_getElem?_getD, List.getElem?_replicate]
  split <;> rfl
def isH (s : Sp) : Bool := s.pc == 10
def FoJ (l : List Ac) (A : Option Addr) (cap N gf gl ga ha hs : Nat) (p : PK) (w : World) (a : Act) (W : World) : Prop :=
  a.tmps.size = 81 ∧ a.defers = [] ∧ a.tmps.getD 2 undef = .slice A l.length cap ∧ a.tmps.getD 7 undef = .int .i64 N ∧ a.tmps.getD 8 undef = .pointer (some ⟨ga, 0, none⟩) ∧ a.tmps.getD 9 undef = .pointer (some ⟨gf, 0, none⟩) ∧
    ∃ (k : Nat) (σ : Ar) (sp : List Sp), a.tmps.getD 11 undef = .int .i64 k ∧ k ≤ l.length ∧ OkK p σ sp N k ∧ FLAt W gf gl ga ha hs p σ sp ∧ Below w.heap.size w W
def FoI (l : List Ac) (A : Option Addr) (cap N gf gl ga ha hs : Nat) (p : PK) (k o : Nat) (σ : Ar) (sp : List Sp) (w : World) (a : Act) (W : World) : Prop :=
  a.tmps.size = 81 ∧ a.defers = [] ∧ a.tmps.getD 2 undef = .slice A l.length cap ∧ a.tmps.getD 7 undef = .int .i64 N ∧ a.tmps.getD 8 undef = .pointer (some ⟨ga, 0, none⟩) ∧ a.tmps.getD 9 undef = .pointer (some ⟨gf, 0, none⟩) ∧ a.tmps.getD 11 undef = .int .i64 k ∧ a.tmps.getD 12 undef = .int .i64 (o : Int) ∧
    ∃ j : Nat, a.tmps.getD 13 undef = .int .i64 (cnt isH sp j : Int) ∧ a.tmps.getD 14 undef = .int .i64 j ∧ j ≤ N ∧ FLAt W gf gl ga ha hs p σ sp ∧ Below w.heap.size w W
set_option maxHeartbeats 4000000 in
set_option maxRecDepth 100000 in
theorem one_walk (kind n : Int) (k0 : 0 ≤ kind) (k1 : kind ≤ 255) (n0 : 0 ≤ n) (n1 : n ≤ 255) (l : List Ac) (A : Option Addr) (cap : Nat) (w : World) (hl : l.length ≤ 100) (hs : Sl w w.heap.size A (l.flatMap decAc)) :
    Calls Try.prog 11 #[.int .u8 kind, .int .u8 n, .slice A l.length cap] w fun e w' => e = .returned (.bool true) ∧ Below w.heap.size w w' := by
  have i1 : (l.length : Int) ≤ 100 := by omega
  have m0 : 0 ≤ n % 8 := by omega
  have m1 : n % 8 < 8 := by omega
  have m2 : 0 ≤ n / 8 % 4 := by omega
  have m3 : n / 8 % 4 < 4 := by omega
  have m4 : 0 ≤ kind % 5 := by omega
  have m5 : kind % 5 < 5 := by omega
  obtain ⟨N, hN⟩ := Int.eq_ofNat_of_zero_le (show 0 ≤ 1 + n % 8 by omega)
  have hN1 : 1 ≤ N := by omega
  have hN2 : N ≤ 8 := by omega
  have HSl := Lib.hid hs
  have q1 := fun a b c d W => sfld0 a b c d W
  have hM : mayK (1 + kind % 5) N (1 + n / 8 % 4) := ⟨by omega, by omega, fun _ => by omega, fun _ => by omega⟩
  have hsz : sizeK (1 + kind % 5) N (1 + n / 8 % 4) ≤ 20 := by unfold sizeK; repeat (first | split | omega)
  have HM := Lib.hid hM
  have HZ := Lib.hid hsz
  clear hs hM hsz
  go_enter Try.func11, Try.ntmps11
  go_wp2_with fail
  refine (new_at 100 _ _ rfl).mono ?_
  rintro e w1 ⟨rfl, hat⟩
  have hr : (Ar.fresh (room 100)).ws.length = 100 := by simp [Ar.fresh, zerosW, room]
  have HN := Lib.hid (new_flat (1 + kind % 5) N (1 + n / 8 % 4) HM.out (w.heap.size + 1) w.heap.size _ w1 hat.1 (by have := hat.2.1; omega) (by rw [hr]; have := HZ.out; show 0 + _ ≤ _; omega) (by omega) (by show 0 ≤ _; omega))
  have HO1 := Lib.hid (ok_flat (1 + kind % 5) N (1 + n / 8 % 4) HM.out (Ar.fresh (room 100)) (fun k _ => zeros_getD _ _) (by rw [hr]; have := HZ.out; show 0 + _ ≤ _; omega) (by omega) 0 (Nat.le_refl _))
  have HB1 := Lib.hid hat.2.2
  have hz1 := hat.2.1
  clear hat hr
  go_wp2_with fail
  refine HN.out.mono ?_
  rintro e w2 ⟨gf, gl, hs, rfl, hk, ⟨b1, b2, b3⟩, hm⟩
  obtain ⟨p, σ0, sp0, HK, HO⟩ : ∃ (p : PK) (σ0 : Ar) (sp0 : List Sp), Hid (FLAt w2 gf gl (w.heap.size + 1) w.heap.size hs p σ0 sp0) ∧ Hid (OkK p σ0 sp0 N 0) := ⟨_, _, _, hk, HO1.out⟩
  have HB := Lib.hid (HB1.out.trans (hm.below (by omega) (by simp)))
  clear hk hm HN HO1 HB1
  go_wp2_with fail
  refine wp_loop (FoJ l A cap N gf gl (w.heap.size + 1) w.heap.size hs p w) (fun a' _ => l.length - (intOf (a'.tmps.getD 11 undef)).toNat) ?_ ?_
  · exact ⟨rfl, rfl, rfl, rfl, rfl, rfl, 0, σ0, sp0, rfl, Nat.zero_le _, HO.out, HK.out, HB.out⟩
  · clear HO HK HB
    rintro a' W ⟨hsz, hdf, s2, s7, s8, s9, k, σ, sp, s11, hk, hO, hK, hB⟩
    obtain ⟨u, rfl, hu⟩ := frame81 hsz hdf
    rw [hu] at s2 s7 s8 s9 s11
    simp only [s2, s7, s8, s9, s11]
    clear hsz hdf s2 s7 s8 s9 s11 hu
    have HO := Lib.hid hO
    have HK := Lib.hid hK
    have HB := Lib.hid hB
    clear hO hK
    have hBW := hB.size
    by_cases hlt : k < l.length
    · obtain ⟨b, off, rfl, hbb, hcell⟩ := Sl_at (k := 2) (fun _ => rfl) (by omega) (HSl.out.below hB) (by omega)
      have c0 := hcell k hlt 0 (by omega)
      have c1 := hcell k hlt 1 (by omega)
      simp only [decAc, List.getElem?_cons_zero, List.getElem?_cons_succ, Nat.add_zero, ← Nat.add_assoc] at c0 c1
      clear hcell hB
      generalize l[k] = x at *
      obtain ⟨kd, i⟩ := x
      simp only at c0 c1
      have HD := Lib.hid (do_flat gf gl (w.heap.size + 1) w.heap.size hs p σ sp W HK.out N k HO.out (by omega) kd i)
      have HO2 := Lib.hid (HO.out.act kd i)
      have HOP := Lib.hid (do_ops p σ sp kd i)
      have hso := HO.out.ops
      obtain ⟨r, hr⟩ : ∃ r, doK p σ sp kd i = r := ⟨_, rfl⟩
      rw [hr] at HD HO2 HOP
      clear hr
      obtain ⟨rb, σ2, sp2⟩ := r
      simp only at HD HO2 HOP
      have i2 : (k : Int) < (l.length : Int) := by omega
      go_wp2_with fail
      refine (ops_any _ _ σ _ HK.out.at_.facts.1).mono ?_
      rintro e wx ⟨rfl, hwx⟩
      obtain rfl := hwx.symm
      go_wp2_with fail
      refine HD.out.mono ?_
      rintro e w3 ⟨rfl, h3, hm3⟩
      have HK3 := Lib.hid h3
      have HB3 := Lib.hid (HB.out.trans (hm3.below hBW (by simp; omega)))
      clear h3 hm3
      go_wp2_with fail
      refine wp_loop (FoI l (some ⟨b, off, none⟩) cap N gf gl (w.heap.size + 1) w.heap.size hs p k σ.ops σ2 sp2 w) (fun a' _ => N - (intOf (a'.tmps.getD 14 undef)).toNat) ?_ ?_
      · exact ⟨rfl, rfl, rfl, rfl, rfl, rfl, rfl, rfl, 0, rfl, rfl, Nat.zero_le _, HK3.out, HB3.out⟩
      · clear HK3 HB3 HB HK c0 c1 hBW hbb
        rintro a' W4 ⟨hsz, hdf, s2, s7, s8, s9, s11, s12, j, s13, s14, hj, hK, hB⟩
        obtain ⟨u, rfl, hu⟩ := frame81 hsz hdf
        rw [hu] at s2 s7 s8 s9 s11 s12 s13 s14
        simp only [s2, s7, s8, s9, s11, s12, s13, s14]
        clear hsz hdf s2 s7 s8 s9 s11 s12 s13 s14 hu
        have HK := Lib.hid hK
        have HB := Lib.hid hB
        have hBW := hB.size
        have hc := cnt_le isH sp2 j
        clear hK hB
        by_cases hjl : j < N
        · have i3 : (j : Int) < (N : Int) := by omega
          have HSp := Lib.hid (Spot_flat HK.out (j : Int))
          have HCN := Lib.hid (show cnt isH sp2 (j + 1) = cnt isH sp2 j + if isH (spOf sp2 (j : Int)) then 1 else 0 from rfl)
          generalize spOf sp2 (j : Int) = s at *
          obtain ⟨xp, xa, xb, xc⟩ := s
          simp only at HSp
          have HBE := Lib.hid (HK.out.blocks)
          by_cases hp : xp = 10
          · have e1 := ibeq hp
            have HCN2 := Lib.hid (HCN.out.trans (by rw [if_pos (show isH ⟨xp, xa, xb, xc⟩ = true from e1)] : _ = cnt isH sp2 j + 1))
            generalize cnt isH sp2 j = c at *
            clear hp
            go_wp2_with fail
            refine HSp.out.mono ?_
            rintro e w5 ⟨rfl, hb5⟩
            have HK5 := Lib.hid (HK.out.same hb5)
            have HB5 := Lib.hid (HB.out.trans (hb5.mono hBW))
            clear hb5
            go_wp2_with fail
            go_roundw
            case rel => exact ⟨rfl, rfl, rfl, rfl, rfl, rfl, rfl, rfl, j + 1, by rw [HCN2.out]; go_num, by go_num, by omega, HK5.out, HB5.out⟩
            case measure => simp [intOf] <;> omega
          · have e1 := ibeq_no hp
            have HCN2 := Lib.hid (HCN.out.trans (by rw [if_neg (by show ¬ isH ⟨xp, xa, xb, xc⟩ = true; rw [show isH ⟨xp, xa, xb, xc⟩ = false from e1]; simp)]; rfl : _ = cnt isH sp2 j))
            generalize cnt isH sp2 j = c at *
            clear hp
            go_wp2_with fail
            refine HSp.out.mono ?_
            rintro e w5 ⟨rfl, hb5⟩
            have HK5 := Lib.hid (HK.out.same hb5)
            have HB5 := Lib.hid (HB.out.trans (hb5.mono hBW))
            clear hb5
            go_wp2_with fail
            go_roundw
            case rel => exact ⟨rfl, rfl, rfl, rfl, rfl, rfl, rfl, rfl, j + 1, by rw [HCN2.out]; rfl, by go_num, by omega, HK5.out, HB5.out⟩
            case measure => simp [intOf] <;> omega
        · obtain rfl : j = N := by omega
          have i3 : ¬ (j : Int) < (j : Int) := by omega
          have h1 := HO2.out.one
          have i4 : ¬ (1 : Int) < (cnt isH sp2 j : Int) := by have h1' : cnt isH sp2 j ≤ 1 := h1; omega
          have hop := HOP.out.1
          have i5 : ¬ (σ.ops : Int) + 1 < (σ2.ops : Int) := by omega
          generalize cnt isH sp2 j = c at *
          clear h1 hop
          go_wp2_with fail
          refine (ops_any _ _ σ2 _ HK.out.at_.facts.1).mono ?_
          rintro e wx ⟨rfl, hwx⟩
          obtain rfl := hwx.symm
          go_wp2_with fail
          go_roundw
          case rel => exact ⟨rfl, rfl, rfl, rfl, rfl, rfl, k + 1, σ2, sp2, by go_num, by omega, HO2.out, HK.out, HB.out⟩
          case measure => simp [intOf] <;> omega
    · have i2 : ¬ (k : Int) < (l.length : Int) := by omega
      clear hB
      go_wp2_with fail
      refine (awake20 _).mono ?_
      rintro e w9 ⟨rfl, hb9⟩
      have HB9 := Lib.hid (HB.out.trans (hb9.mono hBW))
      clear hb9
      go_wp2_with fail
      go_ret
      exact ⟨rfl, HB9.out⟩
theorem one_law (w : World) (kind : Int) (hk : isU8 kind) (n : Int) (h0 : isU8 n) (A : Option Addr) (c : Nat) (l : List Ac) (hc : l.length ≤ c) (hm : c ≤ maxLen) (_w0 : ∀ e ∈ l, isI64 e.kind ∧ isI64 e.i) (hs : Sl w w.heap.size A (l.flatMap decAc)) :
    Calls Try.prog 11 #[.int .u8 kind, .int .u8 n, .slice A l.length c] w fun e w' => e = .returned (.bool true) ∧ Below w.heap.size w w' := by
  by_cases hl : l.length ≤ 100
  · exact one_walk kind n hk.1 hk.2 h0.1 h0.2 l A c w hl hs
  · have i1 : (100 : Int) < (l.length : Int) := by omega
    have i2 : (l.length : Int) ≤ 9223372036854775807 := by simp only [maxLen] at hm; omega
    clear hs
    go_enter Try.func11, Try.ntmps11
    go_wp2_with fail
    refine (awake20 _).mono ?_
    rintro e W9 ⟨rfl, hb9⟩
    go_wp2_with fail
    go_ret
    exact ⟨rfl, hb9⟩
end Go.Proofs.Ythffhhgaeolpgaa.Fl

/- Locks of any kind: slots hold in the order of their doorways: the plain law, by that of each kind. -/
namespace Go.Proofs.Ythffhhgaeolpgaa.Fl
open Go.RowKit Go.Proofs.Ythffhhgaeolpgaa.Ara Go.Proofs.Ythffhhgaeolpgaa.Lok

structure StK where
  σ : Ar
  sp : List Sp
  doors : List Int
  held : List Int
/-- The step by which a slot gets its place. -/
def doorK : PK → Int
  | .tas _ => 0
  | .tic _ => 1
  | .par _ => 1
  | .mcs _ => 3
  | .clh _ => 2
def isDoorK (p : PK) (x : StK) (c : Ac) : Bool := decide (c.kind = 0 ∧ 0 < (spOf x.sp c.i).pc ∧ (spOf x.sp c.i).pc = doorK p)
def isHoldK (p : PK) (x : StK) (c : Ac) : Bool := decide ((spOf x.sp c.i).pc < 10 ∧ (spOf (doK p x.σ x.sp c.kind c.i).2.2 c.i).pc = 10)
def ordK (p : PK) (x : StK) (c : Ac) : StK :=
  ⟨(doK p x.σ x.sp c.kind c.i).2.1, (doK p x.σ x.sp c.kind c.i).2.2, if isDoorK p x c then x.doors ++ [c.i] else x.doors, if isHoldK p x c then x.held ++ [c.i] else x.held⟩
theorem fold_len (p : PK) (l : List Ac) : ∀ (x : StK), (l.foldl (ordK p) x).sp.length = x.sp.length ∧ (l.foldl (ordK p) x).doors.length ≤ x.doors.length + l.length ∧ (l.foldl (ordK p) x).held.length ≤ x.held.length + l.length := by
  induction l with
  | nil => exact fun _ => ⟨rfl, Nat.le_refl _, Nat.le_refl _⟩
  | cons c l ih =>
    intro x
    obtain ⟨h1, h2, h4⟩ := ih (ordK p x c)
    have h5 : (ordK p x c).held.length ≤ x.held.length + 1 := by
      unfold ordK
      simp only
      split
      · simp
      · omega
    refine ⟨h1.trans (do_len p x.σ x.sp c.kind c.i), ?_⟩
    have h3 : (ordK p x c).doors.length ≤ x.doors.length + 1 := by
      unfold ordK
      simp only
      split
      · simp
      · omega
    simp only [List.foldl_cons, List.length_cons]
    constructor <;> omega
/-- An op is a new one of a kind if its word is there, and it is of that kind. -/
theorem op_new (σ : Ar) (kd q v : Int) (wr : Bool) (K : Int) : (σ.ops < (σ.op kd q wr v).ops ∧ (σ.op kd q wr v).kind = K) ↔ (σ.has q = true ∧ kd = K) := by
  cases h : σ.has q with
  | true => rw [op_ops, op_kind _ _ _ _ _ h, h]; simp
  | false => rw [Ar.op_out h]; simp
theorem not_new (σ : Ar) (K : Int) : ¬ (σ.ops < σ.ops ∧ σ.kind = K) := fun h => Nat.lt_irrefl _ h.1
def toPt (x : StK) : Pt.St := ⟨x.σ, x.sp, x.doors, x.held⟩
def toTk (x : StK) : Tk.St := ⟨x.σ, x.sp, x.doors, x.held⟩
def toMc (x : StK) : Mc.St := ⟨x.σ, x.sp, x.doors, x.held⟩
def toCl (x : StK) : Cl.St := ⟨x.σ, x.sp, x.doors, x.held⟩
theorem ite_iff {α : Type} {p q : Prop} [Decidable p] [Decidable q] (h : p ↔ q) (a b : α) : (if p then a else b) = if q then a else b := by
  by_cases hp : p
  · rw [if_pos hp, if_pos (h.1 hp)]
  · rw [if_neg hp, if_neg (fun x => hp (h.2 x))]
theorem door_if {b c : Bool} {α : Type} {p : Prop} [Decidable p] (h : b = true ↔ p) (x y : α) : (if b = true then x else y) = if p then x else y := ite_iff h x y
theorem step_pt {P : Pt.Par} {x : StK} (h : Pt.OrdP P (toPt x)) (c : Ac) : toPt (ordK (.par P) x c) = Pt.ordS P (toPt x) c := by
  obtain ⟨S, T, h⟩ := h
  have hp : (spOf x.sp c.i).pc = 0 ∨ (spOf x.sp c.i).pc = 1 ∨ Pt.inq (spOf x.sp c.i) := h.inv.pcs c.i
  have hN := h.inv.hasN
  unfold ordK Pt.ordS toPt isDoorK isHoldK
  simp only [decide_eq_true_eq]
  congr 1
  apply ite_iff
  show (c.kind = 0 ∧ 0 < (spOf x.sp c.i).pc ∧ (spOf x.sp c.i).pc = 1) ↔ _
  by_cases hk : c.kind = 0
  · rw [hk]
    show _ ↔ ((0 : Int) = 0 ∧ 0 < (spOf x.sp c.i).pc ∧ (spOf x.sp c.i).pc < 10 ∧ x.σ.ops < (Pt.stepP P x.σ x.sp c.i).2.1.ops ∧ (Pt.stepP P x.σ x.sp c.i).2.1.kind = 5)
    have hp' : (spOf x.sp c.i).pc = 0 ∨ (spOf x.sp c.i).pc = 1 ∨ (spOf x.sp c.i).pc = 2 ∨ (spOf x.sp c.i).pc = 10 ∨ (spOf x.sp c.i).pc = 11 := by unfold Pt.inq at hp; omega
    rcases hp' with p | p | p | p | p
    · rw [p]; omega
    · rw [Pt.step_1 p, op_new, p]; exact ⟨fun _ => ⟨rfl, by omega, by omega, hN, rfl⟩, fun _ => ⟨rfl, by omega, rfl⟩⟩
    · rw [Pt.step_2 p, op_new, p]; omega
    · rw [p]; omega
    · rw [p]; omega
  · exact ⟨fun h => absurd h.1 hk, fun h => absurd h.1 hk⟩
theorem step_tk {P : Tk.Par} {x : StK} (h : Tk.OrdP P (toTk x)) (c : Ac) : toTk (ordK (.tic P) x c) = Tk.ordS P (toTk x) c := by
  obtain ⟨S, T, h⟩ := h
  have hp : (spOf x.sp c.i).pc = 0 ∨ (spOf x.sp c.i).pc = 1 ∨ Tk.inq (spOf x.sp c.i) := h.inv.pcs c.i
  have hN := h.inv.hasN
  unfold ordK Tk.ordS toTk isDoorK isHoldK
  simp only [decide_eq_true_eq]
  congr 1
  apply ite_iff
  show (c.kind = 0 ∧ 0 < (spOf x.sp c.i).pc ∧ (spOf x.sp c.i).pc = 1) ↔ _
  by_cases hk : c.kind = 0
  · rw [hk]
    show _ ↔ ((0 : Int) = 0 ∧ 0 < (spOf x.sp c.i).pc ∧ (spOf x.sp c.i).pc < 10 ∧ x.σ.ops < (Tk.stepP P x.σ x.sp c.i).2.1.ops ∧ (Tk.stepP P x.σ x.sp c.i).2.1.kind = 5)
    have hp' : (spOf x.sp c.i).pc = 0 ∨ (spOf x.sp c.i).pc = 1 ∨ (spOf x.sp c.i).pc = 2 ∨ (spOf x.sp c.i).pc = 10 ∨ (spOf x.sp c.i).pc = 11 := by unfold Tk.inq at hp; omega
    rcases hp' with p | p | p | p | p
    · rw [p]; omega
    · rw [Tk.step_1 p, op_new, p]; exact ⟨fun _ => ⟨rfl, by omega, by omega, hN, rfl⟩, fun _ => ⟨rfl, by omega, rfl⟩⟩
    · rw [Tk.step_2 p, op_new, p]; omega
    · rw [p]; omega
    · rw [p]; omega
  · exact ⟨fun h => absurd h.1 hk, fun h => absurd h.1 hk⟩
theorem step_cl {P : Cl.Par} {x : StK} (h : Cl.OrdP P (toCl x)) (c : Ac) : toCl (ordK (.clh P) x c) = Cl.ordS P (toCl x) c := by
  obtain ⟨z, q, s, h⟩ := h
  have hp : (spOf x.sp c.i).pc = 0 ∨ (spOf x.sp c.i).pc = 1 ∨ (spOf x.sp c.i).pc = 2 ∨ Cl.inq (spOf x.sp c.i) := h.inv.pcs c.i
  have hN := h.inv.hasT
  unfold ordK Cl.ordS toCl isDoorK isHoldK
  simp only [decide_eq_true_eq]
  congr 1
  apply ite_iff
  show (c.kind = 0 ∧ 0 < (spOf x.sp c.i).pc ∧ (spOf x.sp c.i).pc = 2) ↔ _
  by_cases hk : c.kind = 0
  · rw [hk]
    show _ ↔ ((0 : Int) = 0 ∧ 0 < (spOf x.sp c.i).pc ∧ (spOf x.sp c.i).pc < 10 ∧ x.σ.ops < (Cl.stepP P x.σ x.sp c.i).2.1.ops ∧ (Cl.stepP P x.σ x.sp c.i).2.1.kind = 3)
    have hp' : (spOf x.sp c.i).pc = 0 ∨ (spOf x.sp c.i).pc = 1 ∨ (spOf x.sp c.i).pc = 2 ∨ (spOf x.sp c.i).pc = 3 ∨ (spOf x.sp c.i).pc = 10 ∨ (spOf x.sp c.i).pc = 11 := by unfold Cl.inq Cl.inn at hp; omega
    rcases hp' with p | p | p | p | p | p
    · rw [p]; omega
    · rw [Cl.step_1 p, op_new, p]; omega
    · rw [Cl.step_2 p, op_new, p]; exact ⟨fun _ => ⟨rfl, by omega, by omega, hN, rfl⟩, fun _ => ⟨rfl, by omega, rfl⟩⟩
    · rw [Cl.step_3 p, op_new, p]; omega
    · rw [p]; omega
    · rw [p]; omega
  · exact ⟨fun h => absurd h.1 hk, fun h => absurd h.1 hk⟩
theorem step_mc {P : Mc.Par} {x : StK} (h : Mc.OrdP P (toMc x)) (c : Ac) : toMc (ordK (.mcs P) x c) = Mc.ordS P (toMc x) c := by
  obtain ⟨q, s, h⟩ := h
  have hp : (spOf x.sp c.i).pc = 0 ∨ (spOf x.sp c.i).pc = 1 ∨ (spOf x.sp c.i).pc = 2 ∨ (spOf x.sp c.i).pc = 3 ∨ Mc.inq (spOf x.sp c.i) := h.inv.pcs c.i
  have hN := h.inv.hasT
  unfold ordK Mc.ordS toMc isDoorK isHoldK
  simp only [decide_eq_true_eq]
  congr 1
  apply ite_iff
  show (c.kind = 0 ∧ 0 < (spOf x.sp c.i).pc ∧ (spOf x.sp c.i).pc = 3) ↔ _
  by_cases hk : c.kind = 0
  · rw [hk]
    show _ ↔ ((0 : Int) = 0 ∧ 0 < (spOf x.sp c.i).pc ∧ (spOf x.sp c.i).pc < 10 ∧ x.σ.ops < (Mc.stepP P x.σ x.sp c.i).2.1.ops ∧ (Mc.stepP P x.σ x.sp c.i).2.1.kind = 3)
    by_cases h10 : 10 ≤ (spOf x.sp c.i).pc
    · omega
    have hp' : (spOf x.sp c.i).pc = 0 ∨ (spOf x.sp c.i).pc = 1 ∨ (spOf x.sp c.i).pc = 2 ∨ (spOf x.sp c.i).pc = 3 ∨ (spOf x.sp c.i).pc = 4 ∨ (spOf x.sp c.i).pc = 5 := by unfold Mc.inq Mc.outs at hp; omega
    rcases hp' with p | p | p | p | p | p
    · rw [p]; omega
    · rw [Mc.step_1 p, op_new, p]; omega
    · rw [Mc.step_2 p, op_new, p]; omega
    · rw [Mc.step_3 p, op_new, p]; exact ⟨fun _ => ⟨rfl, by omega, by omega, hN, rfl⟩, fun _ => ⟨rfl, by omega, rfl⟩⟩
    · rw [Mc.step_4 p, op_new, p]; omega
    · rw [Mc.step_5 p, op_new, p]; omega
  · exact ⟨fun h => absurd h.1 hk, fun h => absurd h.1 hk⟩
theorem fold_pt {P : Pt.Par} (l : List Ac) : ∀ (x : StK), Pt.OrdP P (toPt x) → toPt (l.foldl (ordK (.par P)) x) = l.foldl (Pt.ordS P) (toPt x) := by
  induction l with
  | nil => exact fun _ _ => rfl
  | cons c l ih =>
    intro x h
    have e := step_pt h c
    rw [List.foldl_cons, List.foldl_cons, ih _ (by rw [e]; exact Pt.ord_do h c), e]
theorem fold_tk {P : Tk.Par} (l : List Ac) : ∀ (x : StK), Tk.OrdP P (toTk x) → toTk (l.foldl (ordK (.tic P)) x) = l.foldl (Tk.ordS P) (toTk x) := by
  induction l with
  | nil => exact fun _ _ => rfl
  | cons c l ih =>
    intro x h
    have e := step_tk h c
    rw [List.foldl_cons, List.foldl_cons, ih _ (by rw [e]; exact Tk.ord_do h c), e]
theorem fold_cl {P : Cl.Par} (l : List Ac) : ∀ (x : StK), Cl.OrdP P (toCl x) → toCl (l.foldl (ordK (.clh P)) x) = l.foldl (Cl.ordS P) (toCl x) := by
  induction l with
  | nil => exact fun _ _ => rfl
  | cons c l ih =>
    intro x h
    have e := step_cl h c
    rw [List.foldl_cons, List.foldl_cons, ih _ (by rw [e]; exact Cl.ord_do h c), e]
theorem fold_mc {P : Mc.Par} (l : List Ac) : ∀ (x : StK), Mc.OrdP P (toMc x) → toMc (l.foldl (ordK (.mcs P)) x) = l.foldl (Mc.ordS P) (toMc x) := by
  induction l with
  | nil => exact fun _ _ => rfl
  | cons c l ih =>
    intro x h
    have e := step_mc h c
    rw [List.foldl_cons, List.foldl_cons, ih _ (by rw [e]; exact Mc.ord_do h c), e]
end Go.Proofs.Ythffhhgaeolpgaa.Fl

/- A lock over a word that is taken: if all step in turn, and leave at once, all come to rest: the plain law. -/
namespace Go.Proofs.Ythffhhgaeolpgaa.Ta
open Go.RowKit Go.Proofs.Ythffhhgaeolpgaa.Ara Go.Proofs.Ythffhhgaeolpgaa.Lok

/-- No slot waits longer than most. -/
def InvM (P : Par) (sp : List Sp) : Prop := ∀ i, (spOf sp i).a ≤ P.most ∧ (spOf sp i).b ≤ P.most
theorem invM_do {P : Par} {σ : Ar} {sp : List Sp} (h : Inv P σ sp) (hm : InvM P sp) (kd i : Int) : InvM P (doP P σ sp kd i).2.2 := by
  have h1 := h.m1
  have put : ∀ (i0 : 0 ≤ i) (i1 : i < sp.length) (s' : Sp), s'.a ≤ P.most ∧ s'.b ≤ P.most → InvM P (sp.set i.toNat s') := fun i0 i1 s' hs j => by
    rw [spOf_set i0 i1]
    split
    · exact hs
    · exact hm j
  have hi := hm i
  unfold doP
  split
  · unfold stepP
    split
    · rename_i p
      obtain ⟨i0, i1⟩ := spOf_range (sp := sp) (i := i) (by omega)
      refine put i0 i1 _ ?_
      split
      · exact hi
      · exact ⟨by show min _ _ ≤ P.most; omega, hi.1⟩
    split
    · rename_i _ p
      obtain ⟨i0, i1⟩ := spOf_range (sp := sp) (i := i) (by omega)
      exact put i0 i1 _ ⟨hi.1, by show (spOf sp i).b - 1 ≤ _; omega⟩
    split
    · rename_i _ _ p
      obtain ⟨i0, i1⟩ := spOf_range (sp := sp) (i := i) (by omega)
      exact put i0 i1 _ hi
    · exact hm
  split
  · show InvM P (askS sp i)
    unfold askS
    split
    · rename_i ht
      obtain ⟨⟨i0, i1⟩, _⟩ := turn_true ht
      exact put i0 i1 _ ⟨h1, hi.2⟩
    · exact hm
  split
  · show InvM P (turnS sp i 10 11)
    unfold turnS
    split
    · rename_i ht
      obtain ⟨⟨i0, i1⟩, _⟩ := turn_true ht
      exact put i0 i1 _ hi
    · exact hm
  split <;> exact hm
/-! The weight of all slots. -/
def wt1 (s : Sp) : Bool := decide (s.pc = 1) || decide (s.pc = 2)
/-- How many steps a slot still waits. -/
def left (s : Sp) : Nat := if s.pc = 2 then s.b.toNat else 0
def minR : List Sp → Nat
  | [] => 4
  | s :: l => if wt1 s then min (left s) (minR l) else minR l
theorem minR_le4 (l : List Sp) : minR l ≤ 4 := by
  induction l with
  | nil => exact Nat.le_refl _
  | cons s l ih => unfold minR; split <;> omega
theorem minR_le (l : List Sp) : ∀ (k : Nat) (h : k < l.length), wt1 l[k] = true → minR l ≤ left l[k] := by
  induction l with
  | nil => intro k h; simp at h
  | cons s l ih =>
    intro k h hw
    cases k with
    | zero => simp only [List.getElem_cons_zero] at hw ⊢; unfold minR; rw [if_pos hw]; exact Nat.min_le_left _ _
    | succ k =>
      simp only [List.getElem_cons_succ] at hw ⊢
      have := ih k (by simpa using h) hw
      unfold minR
      split <;> omega
theorem le_minR (l : List Sp) (n : Nat) (hn : n ≤ 4) : (∀ (k : Nat) (h : k < l.length), wt1 l[k] = true → n ≤ left l[k]) → n ≤ minR l := by
  induction l with
  | nil => intro _; exact hn
  | cons s l ih =>
    intro h
    have h1 := ih (fun k hk hw => h (k + 1) (by simpa using hk) (by simpa using hw))
    unfold minR
    split
    · rename_i hw
      have := h 0 (by simp) hw
      simp only [List.getElem_cons_zero] at this
      omega
    · exact h1
theorem minR_at (l : List Sp) : (∃ (k : Nat) (h : k < l.length), wt1 l[k] = true ∧ left l[k] ≤ 4) → ∃ (k : Nat) (h : k < l.length), wt1 l[k] = true ∧ left l[k] ≤ minR l := by
  induction l with
  | nil => rintro ⟨k, h, _⟩; simp at h
  | cons s l ih =>
    rintro ⟨k, h, hw, h4⟩
    unfold minR
    by_cases hs : wt1 s = true
    · rw [if_pos hs]
      by_cases hm : left s ≤ minR l
      · exact ⟨0, by simp, hs, by simp only [List.getElem_cons_zero]; omega⟩
      · by_cases hex : ∃ (k : Nat) (h : k < l.length), wt1 l[k] = true ∧ left l[k] ≤ 4
        · obtain ⟨j, j1, j2, j3⟩ := ih hex
          exact ⟨j + 1, by simpa using j1, by simpa using j2, by simp only [List.getElem_cons_succ]; omega⟩
        · exfalso
          have : 4 ≤ minR l := le_minR l 4 (Nat.le_refl _) (fun j hj hw => by
            by_cases hj4 : left l[j] ≤ 4
            · exact absurd ⟨j, hj, hw, hj4⟩ hex
            · omega)
          cases k with
          | zero => simp only [List.getElem_cons_zero] at h4; omega
          | succ k => exact hex ⟨k, by simpa using h, by simpa using hw, by simpa using h4⟩
    · rw [if_neg hs]
      cases k with
      | zero => exact absurd hw hs
      | succ k =>
        obtain ⟨j, j1, j2, j3⟩ := ih ⟨k, by simpa using h, by simpa using hw, by simpa using h4⟩
        exact ⟨j + 1, by simpa using j1, by simpa using j2, by simpa using j3⟩
def wW (p : Int) : Nat := if p = 1 ∨ p = 2 then 1 else 0
def wH (q p : Int) : Nat := if p = q then 1 else 0
def V (sp : List Sp) : Nat := 7 * wts wW sp + (if 0 < wts (wH 10) sp then 6 else if 0 < wts (wH 11) sp then 5 else if wts wW sp = 0 then 0 else minR sp)
theorem wH_pos {q : Int} {sp : List Sp} : 0 < wts (wH q) sp ↔ ∃ k : Nat, k < sp.length ∧ (spOf sp (k : Int)).pc = q := by
  constructor
  · intro h
    obtain ⟨k, k1, k2⟩ := wts_pos _ sp h
    refine ⟨k, k1, ?_⟩
    unfold wH at k2
    split at k2
    · assumption
    · omega
  · rintro ⟨k, k1, k2⟩
    rcases Nat.eq_zero_or_pos (wts (wH q) sp) with h | h
    · have := wts_zero _ sp h (k : Int) (by omega)
      unfold wH at this
      rw [if_pos k2] at this
      omega
    · exact h
theorem wW_pos {sp : List Sp} : 0 < wts wW sp ↔ ∃ k : Nat, k < sp.length ∧ ((spOf sp (k : Int)).pc = 1 ∨ (spOf sp (k : Int)).pc = 2) := by
  constructor
  · intro h
    obtain ⟨k, k1, k2⟩ := wts_pos _ sp h
    refine ⟨k, k1, ?_⟩
    unfold wW at k2
    split at k2
    · assumption
    · omega
  · rintro ⟨k, k1, k2⟩
    rcases Nat.eq_zero_or_pos (wts wW sp) with h | h
    · have := wts_zero _ sp h (k : Int) (by omega)
      unfold wW at this
      rw [if_pos k2] at this
      omega
    · exact h
def NoH (sp : List Sp) : Prop := ∀ i, ¬ holds (spOf sp i)
theorem noH_wts {sp : List Sp} (h : NoH sp) : wts (wH 10) sp = 0 ∧ wts (wH 11) sp = 0 := by
  constructor
  · rcases Nat.eq_zero_or_pos (wts (wH 10) sp) with e | e
    · exact e
    · obtain ⟨k, _, k2⟩ := wH_pos.1 e; exact absurd (.inl k2) (h k)
  · rcases Nat.eq_zero_or_pos (wts (wH 11) sp) with e | e
    · exact e
    · obtain ⟨k, _, k2⟩ := wH_pos.1 e; exact absurd (.inr k2) (h k)
theorem holder_wts {P : Par} {σ : Ar} {sp : List Sp} (h : Inv P σ sp) {k : Nat} (hk : k < sp.length) (hp : holds (spOf sp (k : Int))) : wts (wH 10) sp = wH 10 (spOf sp (k : Int)).pc ∧ wts (wH 11) sp = wH 11 (spOf sp (k : Int)).pc := by
  have hs := spOf_set (sp := sp) (i := (k : Int)) (by omega) (by omega) sp0
  rw [Int.toNat_natCast] at hs
  have hno : NoH (sp.set k sp0) := by
    intro j hj
    rw [hs] at hj
    by_cases e : j = (k : Int)
    · rw [if_pos e] at hj; unfold holds sp0 at hj; simp at hj
    · rw [if_neg e] at hj
      have h1 := h.hold j hj
      have h2 := h.hold _ hp
      omega
  obtain ⟨n1, n2⟩ := noH_wts hno
  have e1 := wts_set (wH 10) sp k hk sp0
  have e2 := wts_set (wH 11) sp k hk sp0
  rw [n1, ← spOf_in hk] at e1
  rw [n2, ← spOf_in hk] at e2
  have z1 : wH 10 sp0.pc = 0 := rfl
  have z2 : wH 11 sp0.pc = 0 := rfl
  omega
theorem word_free {P : Par} {σ : Ar} {sp : List Sp} (h : Inv P σ sp) : tryB P σ = true ↔ NoH sp := by
  unfold tryB
  rw [h.hw, Bool.true_and, beq_iff_eq]
  constructor
  · intro e j hj
    have h1 := h.hold j hj
    have := holds_range hj
    omega
  · exact h.free
theorem minR_set {sp : List Sp} {k : Nat} (hk : k < sp.length) {s' : Sp} (hw : wt1 s' = true → wt1 sp[k] = true) (hw2 : wt1 sp[k] = true → wt1 s' = true ∧ left s' ≤ left sp[k]) : minR (sp.set k s') ≤ minR sp := by
  refine le_minR sp _ (minR_le4 _) (fun j hj h1 => ?_)
  have hj2 : j < (sp.set k s').length := by rw [List.length_set]; exact hj
  by_cases e : k = j
  · subst e
    obtain ⟨a, b⟩ := hw2 h1
    have := minR_le (sp.set k s') k hj2 (by rw [List.getElem_set_self]; exact a)
    rw [List.getElem_set_self] at this
    omega
  · have := minR_le (sp.set k s') j hj2 (by rw [List.getElem_set_ne e]; exact h1)
    rw [List.getElem_set_ne e] at this
    exact this
/-- What a step, or a leave, does to the weight. -/
structure ActV (sp sp' : List Sp) (k : Nat) : Prop where
  le : V sp' ≤ V sp
  w : wts wW sp' ≤ wts wW sp
  keep : ∀ j : Int, j ≠ (k : Int) → spOf sp' j = spOf sp j
  noh : NoH sp → V sp' = V sp → NoH sp'
theorem actV_refl (sp : List Sp) (k : Nat) : ActV sp sp k := ⟨Nat.le_refl _, Nat.le_refl _, fun _ _ => rfl, fun h _ => h⟩
theorem wt1_iff (s : Sp) : wt1 s = true ↔ s.pc = 1 ∨ s.pc = 2 := by simp [wt1]
section
variable {P : Par} {σ : Ar} {sp : List Sp} (h : Inv P σ sp) {k : Nat} (hk : k < sp.length)
include h hk
theorem leave_V : ActV sp (turnS sp (k : Int) 10 11) k ∧ ((spOf sp (k : Int)).pc = 10 → V (turnS sp (k : Int) 10 11) < V sp) := by
  rw [turnS_in hk]
  rw [spOf_in hk]
  by_cases hp : sp[k].pc = 10
  · rw [if_pos hp]
    show ActV sp (sp.set k ⟨11, sp[k].a, sp[k].b, sp[k].c⟩) k ∧ (sp[k].pc = 10 → V (sp.set k ⟨11, sp[k].a, sp[k].b, sp[k].c⟩) < V sp)
    have hh : holds (spOf sp (k : Int)) := by rw [spOf_in hk]; exact .inl hp
    obtain ⟨a1, a2⟩ := holder_wts h hk hh
    rw [spOf_in hk, hp] at a1 a2
    have hs := spOf_set (sp := sp) (i := (k : Int)) (by omega) (by omega) ⟨11, sp[k].a, sp[k].b, sp[k].c⟩
    rw [Int.toNat_natCast] at hs
    have e1 := wts_set (wH 10) sp k hk ⟨11, sp[k].a, sp[k].b, sp[k].c⟩
    have e2 := wts_set (wH 11) sp k hk ⟨11, sp[k].a, sp[k].b, sp[k].c⟩
    have e3 := wts_set wW sp k hk ⟨11, sp[k].a, sp[k].b, sp[k].c⟩
    simp only [hp] at e1 e2 e3
    have z1 : wH 10 10 = 1 := rfl
    have z2 : wH 10 11 = 0 := rfl
    have z3 : wH 11 10 = 0 := rfl
    have z4 : wH 11 11 = 1 := rfl
    have z5 : wW 10 = 0 := rfl
    have z6 : wW 11 = 0 := rfl
    have hV : V (sp.set k ⟨11, sp[k].a, sp[k].b, sp[k].c⟩) < V sp := by
      unfold V
      rw [if_pos (show 0 < wts (wH 10) sp by omega), if_neg (show ¬ 0 < wts (wH 10) (sp.set k ⟨11, sp[k].a, sp[k].b, sp[k].c⟩) by omega), if_pos (show 0 < wts (wH 11) (sp.set k ⟨11, sp[k].a, sp[k].b, sp[k].c⟩) by omega)]
      omega
    exact ⟨⟨Nat.le_of_lt hV, by omega, fun j hj => by rw [hs, if_neg hj], fun hn _ => absurd hh (hn _)⟩, fun _ => hV⟩
  · rw [if_neg hp]
    exact ⟨actV_refl sp k, fun e => absurd e hp⟩
theorem step_V : ActV sp (stepP P σ sp (k : Int)).2.2 k ∧ ((spOf sp (k : Int)).pc = 11 → V (stepP P σ sp (k : Int)).2.2 < V sp) ∧ ((spOf sp (k : Int)).pc = 10 → (stepP P σ sp (k : Int)).2.2 = sp) ∧ ((spOf sp (k : Int)).pc = 1 → NoH sp → V (stepP P σ sp (k : Int)).2.2 < V sp) ∧
    ((spOf sp (k : Int)).pc = 2 → spOf (stepP P σ sp (k : Int)).2.2 (k : Int) = ⟨if (spOf sp (k : Int)).b - 1 = 0 then 1 else 2, (spOf sp (k : Int)).a, (spOf sp (k : Int)).b - 1, (spOf sp (k : Int)).c⟩) := by
  have hs := fun s' => spOf_set (sp := sp) (i := (k : Int)) (by omega) (by omega) s'
  simp only [Int.toNat_natCast] at hs
  have e1 := fun s' => wts_set (wH 10) sp k hk s'
  have e2 := fun s' => wts_set (wH 11) sp k hk s'
  have e3 := fun s' => wts_set wW sp k hk s'
  have hsp := spOf_in hk
  unfold stepP
  simp only [Int.toNat_natCast]
  rw [hsp]
  by_cases p1 : sp[k].pc = 1
  · rw [if_pos p1]
    refine ⟨?_, fun e => by omega, fun e => by omega, fun _ hn => ?_, fun e => by omega⟩
    · cases ht : tryB P σ with
      | false =>
        simp only [Bool.false_eq_true, if_false]
        have hnn : ¬ NoH sp := fun hn => by have := (word_free h).2 hn; rw [ht] at this; cases this
        have E1 := e1 ⟨2, min (2 * sp[k].a) P.most, sp[k].a, sp[k].c⟩
        have E2 := e2 ⟨2, min (2 * sp[k].a) P.most, sp[k].a, sp[k].c⟩
        have E3 := e3 ⟨2, min (2 * sp[k].a) P.most, sp[k].a, sp[k].c⟩
        have hS := hs ⟨2, min (2 * sp[k].a) P.most, sp[k].a, sp[k].c⟩
        simp only [p1] at E1 E2 E3
        have z1 : wH 10 1 = 0 := rfl
        have z2 : wH 10 2 = 0 := rfl
        have z3 : wH 11 1 = 0 := rfl
        have z4 : wH 11 2 = 0 := rfl
        have z5 : wW 1 = 1 := rfl
        have z6 : wW 2 = 1 := rfl
        have hpos : 0 < wts (wH 10) sp ∨ 0 < wts (wH 11) sp := by
          by_cases a : 0 < wts (wH 10) sp
          · exact .inl a
          · by_cases b : 0 < wts (wH 11) sp
            · exact .inr b
            · exfalso
              apply hnn
              intro j hj
              obtain ⟨j0, j1⟩ := holds_range hj
              obtain ⟨m, rfl⟩ := Int.eq_ofNat_of_zero_le j0
              rcases hj with hj | hj
              · exact a (wH_pos.2 ⟨m, by omega, hj⟩)
              · exact b (wH_pos.2 ⟨m, by omega, hj⟩)
        have hV : V (sp.set k ⟨2, min (2 * sp[k].a) P.most, sp[k].a, sp[k].c⟩) = V sp := by
          unfold V
          rw [show wts (wH 10) (sp.set k ⟨2, min (2 * sp[k].a) P.most, sp[k].a, sp[k].c⟩) = wts (wH 10) sp by omega, show wts (wH 11) (sp.set k ⟨2, min (2 * sp[k].a) P.most, sp[k].a, sp[k].c⟩) = wts (wH 11) sp by omega, show wts wW (sp.set k ⟨2, min (2 * sp[k].a) P.most, sp[k].a, sp[k].c⟩) = wts wW sp by omega]
          rcases hpos with a | a
          · rw [if_pos a, if_pos a]
          · by_cases b : 0 < wts (wH 10) sp
            · rw [if_pos b, if_pos b]
            · rw [if_neg b, if_neg b, if_pos a, if_pos a]
        exact ⟨Nat.le_of_eq hV, by omega, fun j hj => by rw [hS, if_neg hj], fun hn _ => absurd hn hnn⟩
      | true =>
        simp only [if_true]
        show ActV sp (sp.set k ⟨10, sp[k].a, sp[k].b, sp[k].c⟩) k
        have hn := (word_free h).1 ht
        obtain ⟨n1, n2⟩ := noH_wts hn
        have E1 := e1 ⟨10, sp[k].a, sp[k].b, sp[k].c⟩
        have E3 := e3 ⟨10, sp[k].a, sp[k].b, sp[k].c⟩
        have hS := hs ⟨10, sp[k].a, sp[k].b, sp[k].c⟩
        simp only [p1] at E1 E3
        have z1 : wH 10 1 = 0 := rfl
        have z2 : wH 10 10 = 1 := rfl
        have z5 : wW 1 = 1 := rfl
        have z6 : wW 10 = 0 := rfl
        have hV : V (sp.set k ⟨10, sp[k].a, sp[k].b, sp[k].c⟩) < V sp := by
          unfold V
          rw [if_pos (show 0 < wts (wH 10) (sp.set k ⟨10, sp[k].a, sp[k].b, sp[k].c⟩) by omega), if_neg (by omega), if_neg (by omega), if_neg (by omega)]
          omega
        exact ⟨Nat.le_of_lt hV, by omega, fun j hj => by rw [hS, if_neg hj], fun _ e => by omega⟩
    · have ht := (word_free h).2 hn
      rw [ht]
      simp only [if_true]
      show V (sp.set k ⟨10, sp[k].a, sp[k].b, sp[k].c⟩) < V sp
      obtain ⟨n1, n2⟩ := noH_wts hn
      have E1 := e1 ⟨10, sp[k].a, sp[k].b, sp[k].c⟩
      have E3 := e3 ⟨10, sp[k].a, sp[k].b, sp[k].c⟩
      simp only [p1] at E1 E3
      have z1 : wH 10 1 = 0 := rfl
      have z2 : wH 10 10 = 1 := rfl
      have z5 : wW 1 = 1 := rfl
      have z6 : wW 10 = 0 := rfl
      unfold V
      rw [if_pos (show 0 < wts (wH 10) (sp.set k ⟨10, sp[k].a, sp[k].b, sp[k].c⟩) by omega), if_neg (by omega), if_neg (by omega), if_neg (by omega)]
      omega
  rw [if_neg p1]
  by_cases p2 : sp[k].pc = 2
  · rw [if_pos p2]
    have hb := h.w2 (k : Int) (by rw [hsp]; exact p2)
    rw [hsp] at hb
    refine ⟨?_, fun e => by omega, fun e => by omega, fun e => by omega, fun _ => by rw [hs, if_pos rfl]⟩
    obtain ⟨q, hq⟩ : ∃ q : Int, (if sp[k].b - 1 = 0 then 1 else 2) = q := ⟨_, rfl⟩
    have hq2 : (q = 1 ∧ sp[k].b = 1) ∨ (q = 2 ∧ sp[k].b ≠ 1) := by rw [← hq]; split <;> omega
    rw [hq]
    show ActV sp (sp.set k ⟨q, sp[k].a, sp[k].b - 1, sp[k].c⟩) k
    have E1 := e1 ⟨q, sp[k].a, sp[k].b - 1, sp[k].c⟩
    have E2 := e2 ⟨q, sp[k].a, sp[k].b - 1, sp[k].c⟩
    have E3 := e3 ⟨q, sp[k].a, sp[k].b - 1, sp[k].c⟩
    have hS := hs ⟨q, sp[k].a, sp[k].b - 1, sp[k].c⟩
    simp only [p2] at E1 E2 E3
    have z1 : wH 10 q = 0 := by unfold wH; rw [if_neg (by omega)]
    have z2 : wH 10 2 = 0 := rfl
    have z3 : wH 11 q = 0 := by unfold wH; rw [if_neg (by omega)]
    have z4 : wH 11 2 = 0 := rfl
    have z5 : wW q = 1 := by unfold wW; rw [if_pos (by omega)]
    have z6 : wW 2 = 1 := rfl
    have hM : minR (sp.set k ⟨q, sp[k].a, sp[k].b - 1, sp[k].c⟩) ≤ minR sp := minR_set hk (fun _ => (wt1_iff _).2 (.inr p2)) (fun _ => ⟨(wt1_iff _).2 (by show q = 1 ∨ q = 2; omega), by
      show (if q = 2 then (sp[k].b - 1).toNat else 0) ≤ (if sp[k].pc = 2 then sp[k].b.toNat else 0)
      rw [if_pos p2]
      split <;> omega⟩)
    have hV : V (sp.set k ⟨q, sp[k].a, sp[k].b - 1, sp[k].c⟩) ≤ V sp := by
      unfold V
      rw [show wts (wH 10) (sp.set k ⟨q, sp[k].a, sp[k].b - 1, sp[k].c⟩) = wts (wH 10) sp by omega, show wts (wH 11) (sp.set k ⟨q, sp[k].a, sp[k].b - 1, sp[k].c⟩) = wts (wH 11) sp by omega, show wts wW (sp.set k ⟨q, sp[k].a, sp[k].b - 1, sp[k].c⟩) = wts wW sp by omega]
      repeat (first | split | omega)
    exact ⟨hV, by omega, fun j hj => by rw [hS, if_neg hj], fun hn _ j hj => by
      rw [hS] at hj
      by_cases ej : j = (k : Int)
      · rw [if_pos ej] at hj; unfold holds at hj; simp only at hj; omega
      · rw [if_neg ej] at hj; exact hn j hj⟩
  rw [if_neg p2]
  by_cases p3 : sp[k].pc = 11
  · rw [if_pos p3]
    show ActV sp (sp.set k ⟨0, sp[k].a, sp[k].b, sp[k].c⟩) k ∧ (sp[k].pc = 11 → V (sp.set k ⟨0, sp[k].a, sp[k].b, sp[k].c⟩) < V sp) ∧ (sp[k].pc = 10 → sp.set k ⟨0, sp[k].a, sp[k].b, sp[k].c⟩ = sp) ∧ (sp[k].pc = 1 → NoH sp → V (sp.set k ⟨0, sp[k].a, sp[k].b, sp[k].c⟩) < V sp) ∧ (sp[k].pc = 2 → spOf (sp.set k ⟨0, sp[k].a, sp[k].b, sp[k].c⟩) (k : Int) = ⟨if sp[k].b - 1 = 0 then 1 else 2, sp[k].a, sp[k].b - 1, sp[k].c⟩)
    have hh : holds (spOf sp (k : Int)) := by rw [hsp]; exact .inr p3
    obtain ⟨a1, a2⟩ := holder_wts h hk hh
    rw [hsp, p3] at a1 a2
    have E1 := e1 ⟨0, sp[k].a, sp[k].b, sp[k].c⟩
    have E2 := e2 ⟨0, sp[k].a, sp[k].b, sp[k].c⟩
    have E3 := e3 ⟨0, sp[k].a, sp[k].b, sp[k].c⟩
    have hS := hs ⟨0, sp[k].a, sp[k].b, sp[k].c⟩
    simp only [p3] at E1 E2 E3
    have z1 : wH 10 11 = 0 := rfl
    have z2 : wH 10 0 = 0 := rfl
    have z3 : wH 11 11 = 1 := rfl
    have z4 : wH 11 0 = 0 := rfl
    have z5 : wW 11 = 0 := rfl
    have z6 : wW 0 = 0 := rfl
    have hM := minR_le4 (sp.set k ⟨0, sp[k].a, sp[k].b, sp[k].c⟩)
    have hV : V (sp.set k ⟨0, sp[k].a, sp[k].b, sp[k].c⟩) < V sp := by
      unfold V
      rw [if_neg (show ¬ 0 < wts (wH 10) sp by omega), if_pos (show 0 < wts (wH 11) sp by omega), if_neg (show ¬ 0 < wts (wH 10) (sp.set k ⟨0, sp[k].a, sp[k].b, sp[k].c⟩) by omega), if_neg (show ¬ 0 < wts (wH 11) (sp.set k ⟨0, sp[k].a, sp[k].b, sp[k].c⟩) by omega)]
      split <;> omega
    exact ⟨⟨Nat.le_of_lt hV, by omega, fun j hj => by rw [hS, if_neg hj], fun hn _ => absurd hh (hn _)⟩, fun _ => hV, fun e => by omega, fun e => by omega, fun e => by omega⟩
  rw [if_neg p3]
  exact ⟨actV_refl sp k, fun e => absurd e p3, fun _ => rfl, fun e => absurd e p1, fun e => absurd e p2⟩
end
end Go.Proofs.Ythffhhgaeolpgaa.Ta

