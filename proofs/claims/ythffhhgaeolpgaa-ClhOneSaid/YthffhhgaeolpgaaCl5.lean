/- Package clh: New. -/
import Derived.Test.YthffhhgaeolpgaaCl4
namespace Go.Proofs.Ythffhhgaeolpgaa.Cl
open Go.RowKit Go.Proofs.Ythffhhgaeolpgaa.Ara Go.Proofs.Ythffhhgaeolpgaa.Lok

theorem frame53 {a : Act} (h : a.tmps.size = 53) (hd : a.defers = []) : ∃ u : Nat → Value, a = { tmps := #[u 0, u 1, u 2, u 3, u 4, u 5, u 6, u 7, u 8, u 9, u 10, u 11, u 12, u 13, u 14, u 15, u 16, u 17, u 18, u 19, u 20, u 21, u 22, u 23, u 24, u 25, u 26, u 27, u 28, u 29, u 30, u 31, u 32, u 33, u 34, u 35, u 36, u 37, u 38, u 39, u 40, u 41, u 42, u 43, u 44, u 45, u 46, u 47, u 48, u 49, u 50, u 51, u 52], defers := [] } ∧ ∀ n, a.tmps.getD n undef = u n := by
  refine ⟨fun n => a.tmps.getD n undef, ?_, fun _ => rfl⟩
  have h1 := arr_lit a.tmps h
  cases a with
  | mk t d =>
    simp only at hd h1
    subst hd
    congr 1
theorem infoSp : (Try.prog.info? 31).map (fun i => (i.zero, i.size, i.bytes)) = some (some (.agg #[.int .i64 0, .int .i64 0, .int .i64 0, .int .i64 0]), 4, 32) := by kernel_rfl
theorem first0_succ (i : Nat) : first0 (i + 1) = first0 i ++ [⟨0, (i : Int) + 1, 0, 0⟩] := by
  unfold first0
  rw [List.range_succ, List.map_append]
  rfl
theorem first0_len (i : Nat) : (first0 i).length = i := by simp [first0]
def lkCells (ga : Nat) (tail : Int) (v : Value) : Array Value := #[.pointer (some ⟨ga, 0, none⟩), .int .i64 tail, v]
def NwJ (N ga ha gl : Nat) (tail : Int) (σ : Ar) (w2 : World) (a : Act) (W : World) : Prop :=
  a.tmps.size = 53 ∧ a.defers = [] ∧ a.tmps.getD 0 undef = .pointer (some ⟨ga, 0, none⟩) ∧ a.tmps.getD 1 undef = .int .i64 N ∧ a.tmps.getD 6 undef = .int .i64 tail ∧ a.tmps.getD 8 undef = .pointer (some ⟨gl, 0, none⟩) ∧ a.tmps.getD 30 undef = .int .i64 N ∧
    ∃ (i : Nat) (v : Value), a.tmps.getD 31 undef = .int .i64 i ∧ i ≤ N ∧ W.heap[gl]? = some (.cells (lkCells ga tail v) 83 (0, 0)) ∧ W.ownsRow (gl + 1) 31 4 v i ((first0 i).flatMap decSp) ∧ ArAt W ga ha σ ∧ Below gl w2 W ∧ gl + 1 ≤ W.heap.size
set_option maxHeartbeats 4000000 in
set_option maxRecDepth 100000 in
theorem new_lk (ga ha : Nat) (σ σ1 : Ar) (w : World) (H : ArAt w ga ha σ) (hh : ha < w.heap.size) (n : Nat) (n1 : 1 ≤ n) (n2 : n ≤ 32) (next : Int) (x1 : 1 ≤ next) (x2 : next ≤ 4096)
    (ht : σ.take ((n : Int) + 2) = ((next, 0), σ1)) (ho : σ1.ops ≤ 1000000) :
    Calls Try.prog 22 #[.pointer (some ⟨ga, 0, none⟩), .int .i64 (n : Int)] w fun e w' => ∃ gl hs, e = .returned (.tuple #[.pointer (some ⟨gl, 0, none⟩), .int .i64 0]) ∧ LkAt w' gl ga ha hs ⟨next⟩ (σ1.op 2 next true ((n : Int) + 1)) (first0 n) ∧ w.heap.size ≤ gl ∧ w.heap.size ≤ hs ∧ Mod [ga, ha] w w' := by
  have HT := take_any ga ha σ w H ((n : Int) + 2)
  rw [ht] at HT
  replace HT := Lib.hid HT
  have hga := H.lt
  have i1 : (1 : Int) ≤ (n : Int) := by omega
  have i2 : (n : Int) ≤ 32 := by omega
  have HO := Lib.hid ho
  clear H ht ho
  go_enter Try.func22, Try.ntmps22
  go_wp2_with fail
  refine HT.out.mono ?_
  rintro e w2 ⟨rfl, h2, hm2⟩
  have hz2 := hm2.size
  have hb0 := below_new w2 (.cells #[.pointer (some ⟨ga, 0, none⟩), .int .i64 next, .slice none 0 0] 83)
  have HK0 := Lib.hid (blk_new w2 (.cells #[.pointer (some ⟨ga, 0, none⟩), .int .i64 next, .slice none 0 0] 83))
  have HA0 := Lib.hid (h2.step hb0)
  have hz0 : w2.heap.size + 1 ≤ (w2.alloc (.cells #[.pointer (some ⟨ga, 0, none⟩), .int .i64 next, .slice none 0 0] 83)).heap.size := by simp
  have HB0 := Lib.hid hb0
  have HM := Lib.hid hm2
  clear hb0 h2 hm2 HT
  go_wp2_with fail
  generalize w2.alloc (.cells #[.pointer (some ⟨ga, 0, none⟩), .int .i64 next, .slice none 0 0] 83) = W0 at *
  generalize hgl : w2.heap.size = gl at *
  refine wp_loop (NwJ n ga ha gl next σ1 w2) (fun a' _ => n - (intOf (a'.tmps.getD 31 undef)).toNat) ?_ ?_
  · exact ⟨rfl, rfl, rfl, rfl, rfl, rfl, rfl, 0, .slice none 0 0, rfl, Nat.zero_le _, HK0.out, World.ownsRow_nil _ _ _ _, HA0.out, HB0.out, hz0⟩
  · clear HK0 HA0 HB0 hz0
    rintro a' W ⟨hsz, hdf, s0, s1, s6, s8, s30, i, v, s31, hi, hbk, hown, hat, hb, hz⟩
    obtain ⟨u, rfl, hu⟩ := frame53 hsz hdf
    rw [hu] at s0 s1 s6 s8 s30 s31
    simp only [s0, s1, s6, s8, s30, s31]
    clear hsz hdf s0 s1 s6 s8 s30 s31 hu
    by_cases hlt : i < n
    · obtain ⟨A, c, rfl, _⟩ := own_slice hown
      have c2 := blk_cell hbk 2 (by simp [lkCells])
      have f2 := blk_free hbk 2
      simp only [lkCells, List.getElem_toArray, List.getElem_cons_zero, List.getElem_cons_succ] at c2
      have HBk := Lib.hid hbk
      have HAt := Lib.hid hat
      have HB := Lib.hid hb
      have e1 : IntKind.i64.wrap ((i : Int) + 1) = (i : Int) + 1 := IntWalk.i64_in _ (by omega)
      clear hbk hat hb
      go_wp2_with (at_builtin; refine wpList_append1 (.tmp 38) (.tmp 42) 70 31 _ 4 32 rfl rfl Try.underlying70 infoSp rfl (by decide) (gl + 1) _ _ _ _ _ _ _ _ hown rfl rfl ?cg rfl ?d1 ?d2 ?d3 ?d4 ?ck; case' ck => intro v' w3 hown3 hb3 _; have q6 := (hb3.cell (p := ⟨gl, 2, none⟩) (Nat.lt_succ_self gl)).trans c2; have r6 := (hb3.frozen (p := ⟨gl, 2, none⟩) (Nat.lt_succ_self gl)).trans f2; obtain ⟨A3, c3, rfl, _, _, _⟩ := own_slice hown3)
      case cg => first | rfl | simp
      case d1 => simp [Value.oneCell']
      case d2 => simp only [maxLen]; omega
      case d3 => omega
      try (case d4 => exact hz)
      have hu : Upd (gl + 1) [gl] W (w3.setCell ⟨gl, 2, none⟩ (.slice A3 (i + 1) c3)) := (Upd.of_below hb3).setCell (.inl (by simp)) _
      have hbk2 := blk_set ((hb3.block gl (Nat.lt_succ_self gl)).trans HBk.out) 2 (.slice A3 (i + 1) c3)
      have hown4 : (w3.setCell ⟨gl, 2, none⟩ (.slice A3 (i + 1) c3)).ownsRow (gl + 1) 31 4 (.slice A3 (i + 1) c3) (i + 1) ((first0 (i + 1)).flatMap decSp) := by
        have := ownsRow_setCell_below hown3 (a := ⟨gl, 2, none⟩) (Nat.lt_succ_self gl) (.slice A3 (i + 1) c3)
        rw [first0_succ, List.flatMap_append]
        simpa [decSp] using this
      exact ⟨⟨rfl, rfl, rfl, rfl, rfl, rfl, rfl, i + 1, _, rfl, hlt, hbk2, hown4, HAt.out.upd hu (by omega) (by omega) (by simp; omega) (by simp; omega), HB.out.trans (hu.below (by omega) (by simp)), Nat.le_trans hz hu.size⟩, by simp [intOf]; omega⟩
    · obtain rfl : i = n := by omega
      rcases hown.2 with ⟨_, h0⟩ | ⟨g, cc, cur, rfl, hg, hgb, _, _, _, htk⟩
      · omega
      · have hK : LkAt W gl ga ha g ⟨next⟩ σ1 (first0 i) := by
          refine ⟨hat, ⟨cur, hgb, by rw [first0_len]; exact htk⟩, by rw [first0_len]; exact n2, ⟨cc, by rw [first0_len]; exact hbk⟩, by omega, by omega, by omega, by omega, by omega⟩
        have HK := Lib.hid hK
        have HB := Lib.hid hb
        have e1 : IntKind.i64.wrap ((i : Int) + 1) = (i : Int) + 1 := IntWalk.i64_in _ (by omega)
        clear hown hat hbk hb hgb htk hK
        go_wp2_with fail
        refine (store_any ga ha σ1 _ HK.out.1 HO.out next ((i : Int) + 1)).mono ?_
        rintro e w5 ⟨rfl, h5, hm5⟩
        have hK5 := Lib.hid (HK.out.arena h5 hm5)
        have hm6 : Mod [ga, ha] w w5 := (HM.out.trans (Mod.of_below (by rw [hgl]; exact HB.out))).trans hm5
        clear h5 hm5
        go_wp2_with fail
        go_ret2
        exact ⟨gl, g, rfl, hK5.out, by omega, by omega, hm6⟩
end Go.Proofs.Ythffhhgaeolpgaa.Cl
