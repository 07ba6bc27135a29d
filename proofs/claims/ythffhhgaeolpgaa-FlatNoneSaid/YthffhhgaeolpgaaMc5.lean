/- Package mcs: New. -/
import Derived.Test.YthffhhgaeolpgaaMc4
namespace Go.Proofs.Ythffhhgaeolpgaa.Mc
open Go.RowKit Go.Proofs.Ythffhhgaeolpgaa.Ara Go.Proofs.Ythffhhgaeolpgaa.Lok

theorem infoSp : (Try.prog.info? 31).map (fun i => (i.zero, i.size, i.bytes)) = some (some (.agg #[.int .i64 0, .int .i64 0, .int .i64 0, .int .i64 0]), 4, 32) := by kernel_rfl
def zeroS (n : Nat) : List Sp := List.replicate n sp0
theorem zeroS_flat (n : Nat) : ((List.replicate n ((Value.agg #[.int .i64 0, .int .i64 0, .int .i64 0, .int .i64 0]).cells.toList)).flatten).toArray = ((zeroS n).flatMap decSp).toArray := by
  congr 1
  induction n with
  | zero => rfl
  | succ n ih => rw [List.replicate_succ, List.flatten_cons, ih, zeroS, zeroS, List.replicate_succ, List.flatMap_cons]; rfl
theorem make_spots (n : Nat) (h : n ≤ 65536) (W : World) : (Instr.makeSlice 70 (.int .i64 (n : Int)) (.int .i64 (n : Int))).run Try.prog W = .ok (.slice (some ⟨W.heap.size, 0, none⟩) n n) (W.alloc (.cells ((zeroS n).flatMap decSp).toArray 31)) := by
  rw [run_make_rows (P := Try.prog) 70 31 (.agg #[.int .i64 0, .int .i64 0, .int .i64 0, .int .i64 0]) 4 32 Try.underlying70 infoSp rfl .i64 .i64 n (by omega) (by omega) W, zeroS_flat]
theorem spAt_new (W : World) (n : Nat) : SpAt (W.alloc (.cells ((zeroS n).flatMap decSp).toArray 31)) W.heap.size (zeroS n) :=
  ⟨_, blk_new _ _, by rw [List.take_of_length_le (by rw [flat_len decSp_len]; omega)]⟩
set_option maxHeartbeats 4000000 in
set_option maxRecDepth 100000 in
theorem new_lk (ga ha : Nat) (σ σ1 : Ar) (w : World) (H : ArAt w ga ha σ) (hh : ha < w.heap.size) (n : Nat) (n1 : 1 ≤ n) (n2 : n ≤ 32) (next : Int) (x1 : 1 ≤ next) (x2 : next ≤ 4096)
    (ht : σ.take (1 + 2 * (n : Int)) = ((next, 0), σ1)) (ho : σ1.ops ≤ 1000000) :
    Calls Try.prog 26 #[.pointer (some ⟨ga, 0, none⟩), .int .i64 (n : Int)] w fun e w' => ∃ gl hs, e = .returned (.tuple #[.pointer (some ⟨gl, 0, none⟩), .int .i64 0]) ∧ LkAt w' gl ga ha hs ⟨next⟩ σ1 (zeroS n) ∧ w.heap.size ≤ gl ∧ w.heap.size ≤ hs ∧ Mod [ga, ha] w w' := by
  have HT := take_any ga ha σ w H (1 + 2 * (n : Int))
  rw [ht] at HT
  replace HT := Lib.hid HT
  have hmk := fun W => make_spots n (by omega) W
  have hga := H.lt
  have i1 : (1 : Int) ≤ (n : Int) := by omega
  have i2 : (n : Int) ≤ 32 := by omega
  have e1 : IntKind.i64.wrap (2 * (n : Int)) = 2 * (n : Int) := IntWalk.i64_in _ (by omega)
  have e2 : IntKind.i64.wrap (1 + 2 * (n : Int)) = 1 + 2 * (n : Int) := IntWalk.i64_in _ (by omega)
  clear H ht ho
  go_enter Try.func26, Try.ntmps26
  go_wp2_with fail
  refine HT.out.mono ?_
  rintro e w2 ⟨rfl, h2, hm2⟩
  have H2 := Lib.hid h2
  clear h2
  have hz2 := hm2.size
  have hK : LkAt ((w2.alloc (.cells ((zeroS n).flatMap decSp).toArray 31)).alloc (.cells #[.pointer (some ⟨ga, 0, none⟩), .int .i64 next, .slice (some ⟨w2.heap.size, 0, none⟩) n n] 85)) (w2.heap.size + 1) ga ha w2.heap.size ⟨next⟩ σ1 (zeroS n) := by
    have hb := (below_new w2 (.cells ((zeroS n).flatMap decSp).toArray 31))
    have hb2 := below_new (w2.alloc (.cells ((zeroS n).flatMap decSp).toArray 31)) (.cells #[.pointer (some ⟨ga, 0, none⟩), .int .i64 next, .slice (some ⟨w2.heap.size, 0, none⟩) n n] 85)
    have hbl := blk_new (w2.alloc (.cells ((zeroS n).flatMap decSp).toArray 31)) (.cells #[.pointer (some ⟨ga, 0, none⟩), .int .i64 next, .slice (some ⟨w2.heap.size, 0, none⟩) n n] 85)
    have hzl : (zeroS n).length = n := by simp [zeroS]
    refine ⟨(H2.out.step hb).step hb2, (spAt_new w2 n).mod (S := []) (Mod.of_below hb2) (by simp), by omega, ⟨n, ?_⟩, by omega, by omega, by omega, by omega, by omega⟩
    rw [hzl]
    simpa using hbl
  have hmm : Mod [ga, ha] w ((w2.alloc (.cells ((zeroS n).flatMap decSp).toArray 31)).alloc (.cells #[.pointer (some ⟨ga, 0, none⟩), .int .i64 next, .slice (some ⟨w2.heap.size, 0, none⟩) n n] 85)) := (hm2.alloc _).alloc _
  have HK := Lib.hid hK
  clear H2 hm2 hK
  have e0 : (w2.alloc (.cells ((zeroS n).flatMap decSp).toArray 31)).heap.size = w2.heap.size + 1 := by simp
  go_wp2_with fail
  go_ret2
  exact ⟨w2.heap.size + 1, w2.heap.size, rfl, HK.out, by omega, hz2, hmm⟩
end Go.Proofs.Ythffhhgaeolpgaa.Mc
