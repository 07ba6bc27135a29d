/- Layer 11: awake. -/
import Derived.Test.YtfdcojhgpfmloaaShC
namespace Go.Proofs.Ytfdcojhgpfmloaa.Sha
open Go.RowKit

theorem frame67 {a : Act} (h : a.tmps.size = 67) (hd : a.defers = []) : ∃ u : Nat → Value, a = { tmps := #[u 0, u 1, u 2, u 3, u 4, u 5, u 6, u 7, u 8, u 9, u 10, u 11, u 12, u 13, u 14, u 15, u 16, u 17, u 18, u 19, u 20, u 21, u 22, u 23, u 24, u 25, u 26, u 27, u 28, u 29, u 30, u 31, u 32, u 33, u 34, u 35, u 36, u 37, u 38, u 39, u 40, u 41, u 42, u 43, u 44, u 45, u 46, u 47, u 48, u 49, u 50, u 51, u 52, u 53, u 54, u 55, u 56, u 57, u 58, u 59, u 60, u 61, u 62, u 63, u 64, u 65, u 66], defers := [] } ∧ ∀ n, a.tmps.getD n undef = u n := by
  refine ⟨fun n => a.tmps.getD n undef, ?_, fun _ => rfl⟩
  have h1 := arr_lit a.tmps h
  cases a with
  | mk t d =>
    simp only at hd h1
    subst hd
    congr 1
def evs : List Ev := [⟨1, 0, true, 0⟩, ⟨2, 0, true, 0⟩, ⟨1, 1, false, 0⟩, ⟨2, 1, false, 0⟩, ⟨1, 2, true, 0⟩, ⟨2, 2, true, 0⟩]
def evsV : Value := .agg #[.int .i64 1, .int .i64 0, .bool true, .int .i64 0, .int .i64 2, .int .i64 0, .bool true, .int .i64 0, .int .i64 1, .int .i64 1, .bool false, .int .i64 0,
  .int .i64 2, .int .i64 1, .bool false, .int .i64 0, .int .i64 1, .int .i64 2, .bool true, .int .i64 0, .int .i64 2, .int .i64 2, .bool true, .int .i64 0]
def sT : Nat → List (Nat × Bool)
  | 0 => [(0, false), (0, false), (0, false)]
  | 1 => [(1, true), (0, false), (0, false)]
  | 2 => [(2, true), (0, false), (0, false)]
  | 3 => [(2, true), (1, false), (0, false)]
  | 4 => [(2, true), (1, false), (0, false)]
  | 5 => [(2, true), (1, false), (1, true)]
  | _ => [(2, true), (1, false), (2, true)]
def eT : Nat → Array Value
  | 0 | 1 | 2 | 3 => #[.int .i64 0, .int .i64 0, .int .i64 0, .int .i64 0, .int .i64 0, .int .i64 0]
  | _ => #[.int .i64 0, .int .i64 0, .int .i64 0, .int .i64 5, .int .i64 0, .int .i64 0]
theorem at6 (W : World) : 
    (Instr.index 103 evsV (.int .i64 0)).run Try.prog W = .ok (.agg #[.int .i64 1, .int .i64 0, .bool true, .int .i64 0]) W ∧
    (Instr.index 103 evsV (.int .i64 1)).run Try.prog W = .ok (.agg #[.int .i64 2, .int .i64 0, .bool true, .int .i64 0]) W ∧
    (Instr.index 103 evsV (.int .i64 2)).run Try.prog W = .ok (.agg #[.int .i64 1, .int .i64 1, .bool false, .int .i64 0]) W ∧
    (Instr.index 103 evsV (.int .i64 3)).run Try.prog W = .ok (.agg #[.int .i64 2, .int .i64 1, .bool false, .int .i64 0]) W ∧
    (Instr.index 103 evsV (.int .i64 4)).run Try.prog W = .ok (.agg #[.int .i64 1, .int .i64 2, .bool true, .int .i64 0]) W ∧
    (Instr.index 103 evsV (.int .i64 5)).run Try.prog W = .ok (.agg #[.int .i64 2, .int .i64 2, .bool true, .int .i64 0]) W :=
  ⟨by kernel_rfl, by kernel_rfl, by kernel_rfl, by kernel_rfl, by kernel_rfl, by kernel_rfl⟩
theorem eq6 (W : World) : (binOp .eql 102 (.agg (eT 6)) (.agg (eT 6))).run Try.prog W = .ok (.bool true) W := by kernel_rfl
theorem eqG6 (x y : Operand) (W : World) : (eqGuard .eql 102 x y (.agg (eT 6)) (.agg (eT 6))).run Try.prog W = .ok () W := by
  have hm : Try.prog.eqGuardType Try.prog.depth 102 = false := by kernel_rfl
  simp [eqGuard, run_program, hm]

def AwJ (w : World) (b : Nat) (a : Act) (W : World) : Prop :=
  a.tmps.size = 67 ∧ a.defers = [] ∧ a.tmps.getD 1 undef = .pointer (some ⟨w.heap.size + 1, 0, none⟩) ∧ a.tmps.getD 2 undef = .pointer (some ⟨b, 0, none⟩) ∧ a.tmps.getD 16 undef = evsV ∧
    ∃ k : Nat, a.tmps.getD 17 undef = .int .i64 k ∧ k ≤ 6 ∧ At w.heap.size w W (sT k) ∧ W.heap[b]? = some (.cells (eT k) 102 (0, 0))


set_option maxHeartbeats 4000000 in
set_option maxRecDepth 100000 in
theorem awake_any (w : World) : Calls Try.prog 14 #[] w fun e w' => e = .returned (.bool true) ∧ Below w.heap.size w w' := by
  have HC := Lib.hid (fun (W : World) A (h : Sl W W.heap.size A (([⟨1, 0, true, 0⟩, ⟨2, 0, false, 0⟩] : List Ev).flatMap decE)) => check_is 1 [⟨1, 0, true, 0⟩, ⟨2, 0, false, 0⟩] 2 1 7 A 2 W rfl (by omega) h (by decide +kernel) (by decide +kernel))
  go_enter Try.func14, Try.ntmps14
  go_wp2_with fail
  refine (new_any 3 _ (sT 0) (by decide +kernel)).mono ?_
  rintro e w1 ⟨rfl, hat⟩
  go_wp2_with fail
  have hb : w.heap.size + 1 + 1 ≤ w1.heap.size := hat.2.1
  have he5 : (w1.alloc (.cells (eT 0) 102 (0, 0))).heap[w1.heap.size]? = some (.cells (eT 0) 102 (0, 0)) := blk_new _ _
  have hat := hat.alloc (.cells (eT 0) 102 (0, 0))
  generalize w1.heap.size = b at *
  refine wp_loop (AwJ w b) (fun a' _ => 7 - (intOf (a'.tmps.getD 17 undef)).toNat) ?_ ?_
  · exact ⟨rfl, rfl, rfl, rfl, rfl, 0, rfl, by omega, hat, he5⟩
  · clear hat he5
    rintro a' W ⟨hsz, hdf, s1, s2, s16, k, s17, hk, hat, he5⟩
    obtain ⟨u, rfl, hu⟩ := frame67 hsz hdf
    rw [hu] at s1 s2 s16 s17
    simp only [s1, s2, s16, s17]
    clear hsz hdf s1 s2 s16 s17 hu
    rcases (show k = 0 ∨ k = 1 ∨ k = 2 ∨ k = 3 ∨ k = 4 ∨ k = 5 ∨ k = 6 by omega) with rfl | rfl | rfl | rfl | rfl | rfl | rfl
    · have he5' := blk_alloc he5 (.cells (([.int .i64 1, .int .i64 0, .bool true, .int .i64 0] : List Value).toArray) 29 (0, 0))
      have hat' := hat.alloc (.cells (([.int .i64 1, .int .i64 0, .bool true, .int .i64 0] : List Value).toArray) 29 (0, 0))
      have HJ := at6 W
      unfold evsV at HJ
      obtain ⟨j0, j1, j2, j3, j4, j5⟩ := HJ
      unfold evsV
      go_wp2_with fail
      refine (do_at _ _ _ (sT 0) (sT 1) ⟨1, 0, true, 0⟩ 0 hat' (by decide +kernel) (by decide +kernel)).mono ?_
      rintro e W2 ⟨rfl, hat2, hm⟩
      have hb5 := hm.blk he5' (by simp; omega)
      have ce := blk_cell hb5 0 (by decide)
      have cf := blk_free hb5 0
      have hat3 := hat2.base ((Below.refl _ _).setCell (p := ⟨b, 0, none⟩) hb (.int .i64 0))
      have hb6 := blk_set hb5 0 (.int .i64 0)
      clear hat hat' hat2 hb5 hm he5 he5' j0 j1 j2 j3 j4 j5
      simp only [eT, List.getElem_toArray, List.getElem_cons_zero, List.getElem_cons_succ] at ce
      go_wp2_with fail
      exact ⟨⟨rfl, rfl, rfl, rfl, rfl, 1, rfl, by omega, hat3, hb6⟩, by simp [intOf]⟩
    · have he5' := blk_alloc he5 (.cells (([.int .i64 2, .int .i64 0, .bool true, .int .i64 0] : List Value).toArray) 29 (0, 0))
      have hat' := hat.alloc (.cells (([.int .i64 2, .int .i64 0, .bool true, .int .i64 0] : List Value).toArray) 29 (0, 0))
      have HJ := at6 W
      unfold evsV at HJ
      obtain ⟨j0, j1, j2, j3, j4, j5⟩ := HJ
      unfold evsV
      go_wp2_with fail
      refine (do_at _ _ _ (sT 1) (sT 2) ⟨2, 0, true, 0⟩ 0 hat' (by decide +kernel) (by decide +kernel)).mono ?_
      rintro e W2 ⟨rfl, hat2, hm⟩
      have hb5 := hm.blk he5' (by simp; omega)
      have ce := blk_cell hb5 1 (by decide)
      have cf := blk_free hb5 1
      have hat3 := hat2.base ((Below.refl _ _).setCell (p := ⟨b, 1, none⟩) hb (.int .i64 0))
      have hb6 := blk_set hb5 1 (.int .i64 0)
      clear hat hat' hat2 hb5 hm he5 he5' j0 j1 j2 j3 j4 j5
      simp only [eT, List.getElem_toArray, List.getElem_cons_zero, List.getElem_cons_succ] at ce
      go_wp2_with fail
      exact ⟨⟨rfl, rfl, rfl, rfl, rfl, 2, rfl, by omega, hat3, hb6⟩, by simp [intOf]⟩
    · have he5' := blk_alloc he5 (.cells (([.int .i64 1, .int .i64 1, .bool false, .int .i64 0] : List Value).toArray) 29 (0, 0))
      have hat' := hat.alloc (.cells (([.int .i64 1, .int .i64 1, .bool false, .int .i64 0] : List Value).toArray) 29 (0, 0))
      have HJ := at6 W
      unfold evsV at HJ
      obtain ⟨j0, j1, j2, j3, j4, j5⟩ := HJ
      unfold evsV
      go_wp2_with fail
      refine (do_at _ _ _ (sT 2) (sT 3) ⟨1, 1, false, 0⟩ 0 hat' (by decide +kernel) (by decide +kernel)).mono ?_
      rintro e W2 ⟨rfl, hat2, hm⟩
      have hb5 := hm.blk he5' (by simp; omega)
      have ce := blk_cell hb5 2 (by decide)
      have cf := blk_free hb5 2
      have hat3 := hat2.base ((Below.refl _ _).setCell (p := ⟨b, 2, none⟩) hb (.int .i64 0))
      have hb6 := blk_set hb5 2 (.int .i64 0)
      clear hat hat' hat2 hb5 hm he5 he5' j0 j1 j2 j3 j4 j5
      simp only [eT, List.getElem_toArray, List.getElem_cons_zero, List.getElem_cons_succ] at ce
      go_wp2_with fail
      exact ⟨⟨rfl, rfl, rfl, rfl, rfl, 3, rfl, by omega, hat3, hb6⟩, by simp [intOf]⟩
    · have he5' := blk_alloc he5 (.cells (([.int .i64 2, .int .i64 1, .bool false, .int .i64 0] : List Value).toArray) 29 (0, 0))
      have hat' := hat.alloc (.cells (([.int .i64 2, .int .i64 1, .bool false, .int .i64 0] : List Value).toArray) 29 (0, 0))
      have HJ := at6 W
      unfold evsV at HJ
      obtain ⟨j0, j1, j2, j3, j4, j5⟩ := HJ
      unfold evsV
      go_wp2_with fail
      refine (do_at _ _ _ (sT 3) (sT 4) ⟨2, 1, false, 0⟩ 5 hat' (by decide +kernel) (by decide +kernel)).mono ?_
      rintro e W2 ⟨rfl, hat2, hm⟩
      have hb5 := hm.blk he5' (by simp; omega)
      have ce := blk_cell hb5 3 (by decide)
      have cf := blk_free hb5 3
      have hat3 := hat2.base ((Below.refl _ _).setCell (p := ⟨b, 3, none⟩) hb (.int .i64 5))
      have hb6 := blk_set hb5 3 (.int .i64 5)
      clear hat hat' hat2 hb5 hm he5 he5' j0 j1 j2 j3 j4 j5
      simp only [eT, List.getElem_toArray, List.getElem_cons_zero, List.getElem_cons_succ] at ce
      go_wp2_with fail
      exact ⟨⟨rfl, rfl, rfl, rfl, rfl, 4, rfl, by omega, hat3, hb6⟩, by simp [intOf]⟩
    · have he5' := blk_alloc he5 (.cells (([.int .i64 1, .int .i64 2, .bool true, .int .i64 0] : List Value).toArray) 29 (0, 0))
      have hat' := hat.alloc (.cells (([.int .i64 1, .int .i64 2, .bool true, .int .i64 0] : List Value).toArray) 29 (0, 0))
      have HJ := at6 W
      unfold evsV at HJ
      obtain ⟨j0, j1, j2, j3, j4, j5⟩ := HJ
      unfold evsV
      go_wp2_with fail
      refine (do_at _ _ _ (sT 4) (sT 5) ⟨1, 2, true, 0⟩ 0 hat' (by decide +kernel) (by decide +kernel)).mono ?_
      rintro e W2 ⟨rfl, hat2, hm⟩
      have hb5 := hm.blk he5' (by simp; omega)
      have ce := blk_cell hb5 4 (by decide)
      have cf := blk_free hb5 4
      have hat3 := hat2.base ((Below.refl _ _).setCell (p := ⟨b, 4, none⟩) hb (.int .i64 0))
      have hb6 := blk_set hb5 4 (.int .i64 0)
      clear hat hat' hat2 hb5 hm he5 he5' j0 j1 j2 j3 j4 j5
      simp only [eT, List.getElem_toArray, List.getElem_cons_zero, List.getElem_cons_succ] at ce
      go_wp2_with fail
      exact ⟨⟨rfl, rfl, rfl, rfl, rfl, 5, rfl, by omega, hat3, hb6⟩, by simp [intOf]⟩
    · have he5' := blk_alloc he5 (.cells (([.int .i64 2, .int .i64 2, .bool true, .int .i64 0] : List Value).toArray) 29 (0, 0))
      have hat' := hat.alloc (.cells (([.int .i64 2, .int .i64 2, .bool true, .int .i64 0] : List Value).toArray) 29 (0, 0))
      have HJ := at6 W
      unfold evsV at HJ
      obtain ⟨j0, j1, j2, j3, j4, j5⟩ := HJ
      unfold evsV
      go_wp2_with fail
      refine (do_at _ _ _ (sT 5) (sT 6) ⟨2, 2, true, 0⟩ 0 hat' (by decide +kernel) (by decide +kernel)).mono ?_
      rintro e W2 ⟨rfl, hat2, hm⟩
      have hb5 := hm.blk he5' (by simp; omega)
      have ce := blk_cell hb5 5 (by decide)
      have cf := blk_free hb5 5
      have hat3 := hat2.base ((Below.refl _ _).setCell (p := ⟨b, 5, none⟩) hb (.int .i64 0))
      have hb6 := blk_set hb5 5 (.int .i64 0)
      clear hat hat' hat2 hb5 hm he5 he5' j0 j1 j2 j3 j4 j5
      simp only [eT, List.getElem_toArray, List.getElem_cons_zero, List.getElem_cons_succ] at ce
      go_wp2_with fail
      exact ⟨⟨rfl, rfl, rfl, rfl, rfl, 6, rfl, by omega, hat3, hb6⟩, by simp [intOf]⟩
    · go_wp2_with fail
      refine (state_at _ _ _ (sT 6) 2 2 true hat (by decide +kernel) (by decide +kernel)).mono ?_
      rintro e W2 ⟨rfl, hbb⟩
      have hat2 := hat.same hbb
      have he6 := (hbb.block _ (lt_of_blk he5)).trans he5
      clear hat he5 hbb
      go_wp2_with fail
      have hat3 := hat2.alloc (.cells #[.int .i64 1, .int .i64 0, .bool true, .int .i64 0, .int .i64 2, .int .i64 0, .bool false, .int .i64 0] 29)
      have he7 := blk_alloc he6 (.cells #[.int .i64 1, .int .i64 0, .bool true, .int .i64 0, .int .i64 2, .int .i64 0, .bool false, .int .i64 0] 29 (0, 0))
      refine (HC.out _ _ (Sl.made _ _ _)).mono ?_
      rintro e W3 ⟨rfl, hbb⟩
      have hat4 := hat3.same hbb
      have he8 := (hbb.block _ (lt_of_blk he7)).trans he7
      clear hat2 hat3 he6 he7 hbb
      have c0 := blk_cell he8 0 (by decide)
      have c1 := blk_cell he8 1 (by decide)
      have c2 := blk_cell he8 2 (by decide)
      have c3 := blk_cell he8 3 (by decide)
      have c4 := blk_cell he8 4 (by decide)
      have c5 := blk_cell he8 5 (by decide)
      simp only [eT, List.getElem_toArray, List.getElem_cons_zero, List.getElem_cons_succ] at c0 c1 c2 c3 c4 c5
      have q1 := fun W => eq6 W
      have q2 := fun x y W => eqG6 x y W
      simp only [eT] at q1 q2
      clear he8
      go_wp2_with fail
      refine (readers_at _ _ _ (sT 6) 2 hat4 (by decide +kernel)).mono ?_
      rintro e W4 ⟨rfl, hbb⟩
      have hat5 := hat4.same hbb
      clear hat4 hbb
      go_wp2_with fail
      refine (writer_at _ _ _ (sT 6) (-1) hat5 (by decide +kernel)).mono ?_
      rintro e W5 ⟨rfl, hbb⟩
      have hat6 := hat5.same hbb
      clear hat5 hbb
      go_wp2_with fail
      go_ret
      exact ⟨rfl, hat6.2.2⟩
end Go.Proofs.Ytfdcojhgpfmloaa.Sha
