/- Package parted: New. -/
import Derived.Test.YthffhhgaeolpgaaPt4
namespace Go.Proofs.Ythffhhgaeolpgaa.Pt
open Go.RowKit Go.Proofs.Ythffhhgaeolpgaa.Ara Go.Proofs.Ythffhhgaeolpgaa.Lok

theorem may_yes (n : Int) (w : World) (h1 : 1 ≤ n) (h2 : n ≤ 32) : Calls Try.prog 41 #[.int .i64 n] w fun e w' => e = .returned (.bool true) ∧ w' = w := by
  have e1 : decide ((1 : Int) ≤ n) = true := decide_eq_true h1
  have e2 : decide (n ≤ (32 : Int)) = true := decide_eq_true h2
  go_enter Try.func41, Try.ntmps41
  go_wp2_with fail
  go_ret
  exact ⟨rfl, rfl⟩
theorem infoSp : (Try.prog.info? 31).map (fun i => (i.zero, i.size, i.bytes)) = some (some (.agg #[.int .i64 0, .int .i64 0, .int .i64 0, .int .i64 0]), 4, 32) := by kernel_rfl
def zeroS (n : Nat) : List Sp := List.replicate n sp0
theorem zeroS_flat (n : Nat) : ((List.replicate n ((Value.agg #[.int .i64 0, .int .i64 0, .int .i64 0, .int .i64 0]).cells.toList)).flatten).toArray = ((zeroS n).flatMap decSp).toArray := by
  congr 1
  induction n with
  | zero => rfl
  | succ n ih => rw [List.replicate_succ, List.flatten_cons, ih, zeroS, zeroS, List.replicate_succ, List.flatMap_cons]; rfl
theorem make_spots (n : Nat) (h : n ≤ 65536) (W : World) : (Instr.makeSlice 70 (.int .i64 (n : Int)) (.int .i64 (n : Int))).run Try.prog W = .ok (.slice (some ⟨W.heap.size, 0, none⟩) n n) (W.alloc (.cells ((zeroS n).flatMap decSp).toArray 31)) := by
  rw [run_make_rows (P := Try.prog) 70 31 (.agg #[.int .i64 0, .int .i64 0, .int .i64 0, .int .i64 0]) 4 32 Try.underlying70 infoSp rfl .i64 .i64 n (by omega) (by omega) W, zeroS_flat]
theorem spAt_new (W : World) (n : Nat) : SpAt (W.alloc (.cells ((zeroS n).flatMap decSp).toArray 31)) W.heap.size (zeroS n) :=
  ⟨_, blk_new _ _, by rw [List.take_of_length_le (by rw [flat_len decSp_len]; omega)]⟩
set_option maxHeartbeats 4000000 in
set_option maxRecDepth 100000 in
theorem new_lk (ga ha : Nat) (σ σ1 : Ar) (w : World) (H : ArAt w ga ha σ) (hh : ha < w.heap.size) (n : Nat) (n1 : 1 ≤ n) (n2 : n ≤ 32) (parts next : Int) (p1 : 1 ≤ parts) (p2 : parts ≤ 32) (x1 : 1 ≤ next) (x2 : next ≤ 4096)
    (ht : σ.take (1 + parts) = ((next, 0), σ1)) (ho : σ1.ops ≤ 1000000) :
    Calls Try.prog 14 #[.pointer (some ⟨ga, 0, none⟩), .int .i64 (n : Int), .int .i64 parts] w fun e w' => ∃ gl hs, e = .returned (.tuple #[.pointer (some ⟨gl, 0, none⟩), .int .i64 0]) ∧ LkAt w' gl ga ha hs ⟨next, parts⟩ (σ1.op 2 (place ⟨next, parts⟩ 0) true 1) (zeroS n) ∧ w.heap.size ≤ gl ∧ w.heap.size ≤ hs ∧ Mod [ga, ha] w w' := by
  have HT := Lib.hid (take_any ga ha σ w H (1 + parts))
  rw [ht] at HT
  have hmk := fun W => make_spots n (by omega) W
  have hga := H.lt
  have HM1 := Lib.hid (fun W => may_yes (n : Int) W (by omega) (by omega))
  have HM2 := Lib.hid (fun W => may_yes parts W p1 p2)
  have e1 : IntKind.i64.wrap (1 + parts) = 1 + parts := IntWalk.i64_in _ (by omega)
  have i1 : (1 : Int) ≤ (n : Int) := by omega
  have i2 : (n : Int) ≤ 32 := by omega
  have HO := Lib.hid ho
  clear H ht ho
  go_enter Try.func14, Try.ntmps14
  go_wp2_with fail
  refine (HM1.out _).mono ?_
  rintro e wx ⟨rfl, hwx⟩
  obtain rfl := hwx.symm
  go_wp2_with fail
  refine (HM2.out _).mono ?_
  rintro e wx ⟨rfl, hwx⟩
  obtain rfl := hwx.symm
  go_wp2_with fail
  refine HT.out.mono ?_
  rintro e w2 ⟨rfl, h2, hm2⟩
  have H2 := Lib.hid h2
  clear h2
  go_wp2_with fail
  have hz2 := hm2.size
  have hK : LkAt ((w2.alloc (.cells ((zeroS n).flatMap decSp).toArray 31)).alloc (.cells #[.pointer (some ⟨ga, 0, none⟩), .int .i64 next, .int .i64 parts, .slice (some ⟨w2.heap.size, 0, none⟩) n n] 72)) (w2.heap.size + 1) ga ha w2.heap.size ⟨next, parts⟩ σ1 (zeroS n) := by
    have hb := (below_new w2 (.cells ((zeroS n).flatMap decSp).toArray 31))
    have hb2 := below_new (w2.alloc (.cells ((zeroS n).flatMap decSp).toArray 31)) (.cells #[.pointer (some ⟨ga, 0, none⟩), .int .i64 next, .int .i64 parts, .slice (some ⟨w2.heap.size, 0, none⟩) n n] 72)
    have hbl := blk_new (w2.alloc (.cells ((zeroS n).flatMap decSp).toArray 31)) (.cells #[.pointer (some ⟨ga, 0, none⟩), .int .i64 next, .int .i64 parts, .slice (some ⟨w2.heap.size, 0, none⟩) n n] 72)
    have hzl : (zeroS n).length = n := by simp [zeroS]
    refine ⟨(H2.out.step hb).step hb2, (spAt_new w2 n).mod (S := []) (Mod.of_below hb2) (by simp), by omega, ⟨n, ?_⟩, by omega, by omega, by omega, by omega, by omega⟩
    rw [hzl]
    simpa using hbl
  have hmm : Mod [ga, ha] w ((w2.alloc (.cells ((zeroS n).flatMap decSp).toArray 31)).alloc (.cells #[.pointer (some ⟨ga, 0, none⟩), .int .i64 next, .int .i64 parts, .slice (some ⟨w2.heap.size, 0, none⟩) n n] 72)) := (hm2.alloc _).alloc _
  have hK := Lib.hid hK
  clear H2 hm2
  generalize (w2.alloc (.cells ((zeroS n).flatMap decSp).toArray 31)).alloc (.cells #[.pointer (some ⟨ga, 0, none⟩), .int .i64 next, .int .i64 parts, .slice (some ⟨w2.heap.size, 0, none⟩) n n] 72) = w3 at *
  have HF := Lib.hid (show w.heap.size ≤ w2.heap.size + 1 ∧ w.heap.size ≤ w2.heap.size from ⟨by omega, hz2⟩)
  clear hz2
  generalize w2.heap.size + 1 = gl at *
  generalize w2.heap.size = hs at *
  refine (place_lk gl ga ha hs ⟨next, parts⟩ σ1 _ w3 hK.out ⟨p1, p2, x1, x2⟩ 0 (by omega) (by omega)).mono ?_
  rintro e w4 ⟨rfl, m4, rfl⟩
  go_wp2_with fail
  refine (store_any ga ha σ1 _ (hK.out.drewN m4).1 HO.out (place ⟨next, parts⟩ 0) 1).mono ?_
  rintro e w5 ⟨rfl, h5, hm5⟩
  have hK5 := Lib.hid ((hK.out.drewN m4).arena h5 hm5)
  have hm6 : Mod [ga, ha] w w5 := (hmm.drewN m4).trans hm5
  clear h5 hm5 hmm hK
  go_wp2_with fail
  go_ret2
  exact ⟨gl, hs, rfl, hK5.out, HF.out.1, HF.out.2, hm6⟩
end Go.Proofs.Ythffhhgaeolpgaa.Pt
