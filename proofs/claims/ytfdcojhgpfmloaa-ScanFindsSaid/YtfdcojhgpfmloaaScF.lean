/- Layer 30's law ScanFinds. -/
import Derived.Test.YtfdcojhgpfmloaaScQ
import Derived.Test.YtfdcojhgpfmloaaScan7
import Derived.Deep.RegionWith
import Derived.Deep.Cut
import Derived.Deep.CutBlock
namespace Go.Proofs.Ytfdcojhgpfmloaa.Ara
open Go.RowKit

theorem frame173 {a : Act} (h : a.tmps.size = 173) (hd : a.defers = []) : ∃ u : Nat → Value, a = { tmps := #[u 0, u 1, u 2, u 3, u 4, u 5, u 6, u 7, u 8, u 9, u 10, u 11, u 12, u 13, u 14, u 15, u 16, u 17, u 18, u 19, u 20, u 21, u 22, u 23, u 24, u 25, u 26, u 27, u 28, u 29, u 30, u 31, u 32, u 33, u 34, u 35, u 36, u 37, u 38, u 39, u 40, u 41, u 42, u 43, u 44, u 45, u 46, u 47, u 48, u 49, u 50, u 51, u 52, u 53, u 54, u 55, u 56, u 57, u 58, u 59, u 60, u 61, u 62, u 63, u 64, u 65, u 66, u 67, u 68, u 69, u 70, u 71, u 72, u 73, u 74, u 75, u 76, u 77, u 78, u 79, u 80, u 81, u 82, u 83, u 84, u 85, u 86, u 87, u 88, u 89, u 90, u 91, u 92, u 93, u 94, u 95, u 96, u 97, u 98, u 99, u 100, u 101, u 102, u 103, u 104, u 105, u 106, u 107, u 108, u 109, u 110, u 111, u 112, u 113, u 114, u 115, u 116, u 117, u 118, u 119, u 120, u 121, u 122, u 123, u 124, u 125, u 126, u 127, u 128, u 129, u 130, u 131, u 132, u 133, u 134, u 135, u 136, u 137, u 138, u 139, u 140, u 141, u 142, u 143, u 144, u 145, u 146, u 147, u 148, u 149, u 150, u 151, u 152, u 153, u 154, u 155, u 156, u 157, u 158, u 159, u 160, u 161, u 162, u 163, u 164, u 165, u 166, u 167, u 168, u 169, u 170, u 171, u 172], defers := [] } ∧ ∀ n, a.tmps.getD n undef = u n := by
  refine ⟨fun n => a.tmps.getD n undef, ?_, fun _ => rfl⟩
  have h1 := arr_lit a.tmps h
  cases a with
  | mk t d =>
    simp only at hd h1
    subst hd
    congr 1
set_option maxRecDepth 100000 in
theorem has30 (l : List Int) (A : Option Addr) (c : Nat) (x : Int) (w : World) (hl : l.length ≤ 4096) (hs : Sl w w.heap.size A (l.map (Value.int .i64))) : Calls Try.prog 63 #[.slice A l.length c, .int .i64 x] w fun e w' => e = .returned (.bool (decide (x ∈ l))) ∧ w' = w := by
  have i9 : (l.length : Int) ≤ 4096 := by omega
  go_enter Try.func63, Try.ntmps63
  go_wp2
  go_loopw [5] (fun i wr => ∃ j : Nat, j ≤ l.length ∧ i = .int .i64 j ∧ x ∉ l.take j ∧ wr = w) (fun i _ => l.length - (intOf i).toNat)
  case atStart => exact ⟨0, by omega, rfl, by simp, rfl⟩
  case round =>
    obtain ⟨j, hj, rfl, hn, hwr⟩ := hrel
    subst hwr
    have HN := Lib.hid hn
    clear hn
    by_cases hlt : j < l.length
    · obtain ⟨b, off, rfl, hbb, hcell⟩ := hs.at_ (by simp; omega)
      have h0 := hcell j (by simpa using hlt)
      rw [List.getElem_map] at h0
      have HT := Lib.hid (List.take_succ_eq_append_getElem hlt)
      have HM := Lib.hid (List.getElem_mem hlt)
      generalize l[j] = y at *
      clear hcell
      by_cases he : y = x
      · have HX := Lib.hid (show decide (x ∈ l) = true by rw [decide_eq_true_iff, ← he]; exact HM.out)
        have q := ibeq he
        clear he
        go_wp2
        go_ret
        exact ⟨by rw [HX.out]; rfl, rfl⟩
      · have q := ibeq_no he
        have HX := Lib.hid (show x ∉ l.take (j + 1) by
          rw [HT.out, List.mem_append]
          rintro (h | h)
          · exact HN.out h
          · simp at h; exact he h.symm)
        clear he
        go_wp2
        go_roundw
        case rel => exact ⟨j + 1, by omega, by go_num, HX.out, by trivial⟩
        case measure => simp [intOf]; omega
    · have HX := Lib.hid (show decide (x ∈ l) = false by
        have := HN.out
        rw [List.take_of_length_le (by omega)] at this
        simpa using this)
      go_wp2
      go_ret
      exact ⟨by rw [HX.out]; rfl, by trivial⟩
theorem ix_first (b off r cr : Nat) (W : World) : (Instr.indexAt 63 (.slice (some ⟨b, off, none⟩) (r + 1) cr) (.int .i64 0)).run Try.prog W = .ok (.pointer (some ⟨b, off, none⟩)) W := by
  have h := Try.underlying63
  simp [Instr.indexAt, run_underlying h, asIntOf, go_sem, Addr.add]
  done
theorem list12 {l : List Int} (h : l.length = 12) : ∃ a b c d e f g i j k m n, l = [a, b, c, d, e, f, g, i, j, k, m, n] := by
  match l, h with
  | [a, b, c, d, e, f, g, i, j, k, m, n], _ => exact ⟨a, b, c, d, e, f, g, i, j, k, m, n, rfl⟩
def bx12 (l : List Int) : Obj := .cells (l.map (Value.int .u8)).toArray 92 (0, 0)
theorem bx12_cell {l : List Int} {W : World} {B : Nat} (h : W.heap[B]? = some (bx12 l)) (i : Nat) (hi : i < l.length) : W.cell? ⟨B, i, none⟩ = some (.int .u8 (l.getD i 0)) := by
  rw [blk_cell h i (by simpa using hi)]
  simp [hi]
theorem vL_set (l : List Int) (m : Nat) (y : Int) : (vL l).setIfInBounds m (.int .i64 y) = vL (l.set m y) := by simp [vL]
def FnR (nds : List Int) (nd : Int) (w : World) (a : Act) (W : World) : Prop :=
  a.tmps.size = 173 ∧ a.defers = [] ∧ a.tmps.getD 2 undef = .int .u8 nd ∧ a.tmps.getD 4 undef = .pointer (some ⟨w.heap.size, 0, none⟩) ∧
    ∃ (row : List Int) (v : Value), a.tmps.getD 7 undef = v ∧ Row row ∧ W.ownsRow (w.heap.size + 1) 3 1 v row.length (row.map vI) ∧ W.heap[w.heap.size]? = some (bx12 nds) ∧ Below w.heap.size w W ∧ w.heap.size + 1 ≤ W.heap.size
def FnJ1 (order : List Int) (A : Option Addr) (cap : Nat) (nds : List Int) (nd : Int) (w : World) (a : Act) (W : World) : Prop :=
  a.tmps.size = 173 ∧ a.defers = [] ∧ a.tmps.getD 0 undef = .slice A order.length cap ∧ a.tmps.getD 2 undef = .int .u8 nd ∧ a.tmps.getD 4 undef = .pointer (some ⟨w.heap.size, 0, none⟩) ∧
    ∃ (i : Nat) (row : List Int) (v : Value), a.tmps.getD 8 undef = .int .i64 i ∧ a.tmps.getD 7 undef = v ∧ i ≤ 100 ∧ Row row ∧ W.ownsRow (w.heap.size + 1) 3 1 v row.length (row.map vI) ∧ W.heap[w.heap.size]? = some (bx12 nds) ∧ Below w.heap.size w W ∧ w.heap.size + 1 ≤ W.heap.size
/-- The row, and the nodes. -/
def FnB (nds : List Int) (g1 : Nat) (Aw : Option Addr) (row : List Int) (w W : World) : Prop :=
  Sl W g1 Aw (row.map (Value.int .i64)) ∧ W.heap[w.heap.size]? = some (bx12 nds) ∧ Below w.heap.size w W ∧ w.heap.size < g1 ∧ g1 < W.heap.size
theorem FnB.step {nds : List Int} {g1 : Nat} {Aw : Option Addr} {row : List Int} {w W W' : World} (k : FnB nds g1 Aw row w W) (hb : Below (g1 + 1) W W') : FnB nds g1 Aw row w W' := by
  obtain ⟨k1, k2, k3, k4, k5⟩ := k
  exact ⟨k1.below (hb.mono (by omega)), (hb.block _ (by omega)).trans k2, k3.trans (hb.mono (by omega)), k4, Nat.lt_of_lt_of_le k5 hb.size⟩
theorem sl_blk {W : World} {g : Nat} {l : List Int} (h : W.heap[g]? = some (.cells (vL l) 3 (0, 0))) : Sl W W.heap.size (some ⟨g, 0, none⟩) (l.map (Value.int .i64)) := by
  refine .inr ⟨g, 0, rfl, lt_of_blk h, fun j hj => ?_⟩
  rw [Nat.zero_add, blk_cell h j (by simpa [vL] using hj)]
  simp [vL]
theorem FnB.mod {S : List Nat} {nds : List Int} {g1 : Nat} {Aw : Option Addr} {row : List Int} {w W W' : World} (k : FnB nds g1 Aw row w W) (hm : Mod S W W') (hS : ∀ x ∈ S, g1 ≤ x) : FnB nds g1 Aw row w W' := by
  obtain ⟨k1, k2, k3, k4, k5⟩ := k
  exact ⟨k1.below (hm.below (by omega) hS), hm.blk k2 (fun e => by have := hS _ e; omega), k3.trans (hm.below (by omega) (fun x hx => by have := hS _ hx; omega)), k4, Nat.lt_of_lt_of_le k5 hm.size⟩
def FnJ2 (nds : List Int) (nd : Int) (g1 : Nat) (Aw : Option Addr) (cr : Nat) (row : List Int) (w : World) (a : Act) (W : World) : Prop :=
  a.tmps.size = 173 ∧ a.defers = [] ∧ a.tmps.getD 2 undef = .int .u8 nd ∧ a.tmps.getD 4 undef = .pointer (some ⟨w.heap.size, 0, none⟩) ∧ a.tmps.getD 7 undef = .slice Aw row.length cr ∧ a.tmps.getD 10 undef = .slice (some ⟨g1, 0, none⟩) 12 12 ∧
    ∃ (i : Nat) (ws : List Int), a.tmps.getD 11 undef = .int .i64 i ∧ i + 1 ≤ row.length ∧ Wd row i ws ∧ W.heap[g1]? = some (.cells (vL ws) 3 (0, 0)) ∧ FnB nds g1 Aw row w W
def FnJ3 (nds : List Int) (nd : Int) (g1 : Nat) (Aw : Option Addr) (cr : Nat) (row ws all : List Int) (w : World) (a : Act) (W : World) : Prop :=
  a.tmps.size = 173 ∧ a.defers = [] ∧ a.tmps.getD 2 undef = .int .u8 nd ∧ a.tmps.getD 4 undef = .pointer (some ⟨w.heap.size, 0, none⟩) ∧ a.tmps.getD 7 undef = .slice Aw row.length cr ∧ a.tmps.getD 10 undef = .slice (some ⟨g1, 0, none⟩) 12 12 ∧
    ∃ (i : Nat) (v : Value), a.tmps.getD 13 undef = .int .i64 i ∧ a.tmps.getD 12 undef = v ∧ i ≤ 12 ∧ W.ownsRow (g1 + 1) 3 1 v i ((all.take i).map vI) ∧ W.heap[g1]? = some (.cells (vL ws) 3 (0, 0)) ∧ FnB nds g1 Aw row w W
/-- The walk, over what was laid at n0. -/
def FnF (n n0 : Nat) (all : List Int) (W0 : World) (σ : Ar) (s : Wk) (W : World) : Prop := Sc W n (n0 + 1) n0 all 1 1 σ s ∧ n0 + 1 < n ∧ n0 = W0.heap.size ∧ Below n0 W0 W
theorem FnF.walked {n n0 : Nat} {all : List Int} {W0 : World} {σ σ' : Ar} {s s' : Wk} {W W' : World} (k : FnF n n0 all W0 σ s W) (hs : Sc W' n (n0 + 1) n0 all 1 1 σ' s') (hm : Mod [n + 1 + 1 + 1 + 1, n0 + 1, n0] W W') : FnF n n0 all W0 σ' s' W' := by
  obtain ⟨k1, k2, k3, k4⟩ := k
  exact ⟨hs, k2, k3, k4.trans (hm.below (by have := k1.1.lt; omega) (by simp; omega))⟩
def FnJ4 (nds : List Int) (nd : Int) (n n0 : Nat) (Aw A3 : Option Addr) (cr c3 : Nat) (row ws all : List Int) (W0 : World) (a : Act) (W : World) : Prop :=
  a.tmps.size = 173 ∧ a.defers = [] ∧ a.tmps.getD 2 undef = .int .u8 nd ∧ a.tmps.getD 7 undef = .slice Aw row.length cr ∧ a.tmps.getD 12 undef = .slice A3 12 c3 ∧ a.tmps.getD 14 undef = .pointer (some ⟨n0 + 1, 0, none⟩) ∧ a.tmps.getD 16 undef = .pointer (some ⟨n + 1 + 1 + 1 + 1, 0, none⟩) ∧ a.tmps.getD 17 undef = .int .i64 12 ∧
    ∃ (k : Nat) (σ : Ar) (s : Wk), a.tmps.getD 18 undef = .bool (!s.way) ∧ a.tmps.getD 19 undef = .int .i64 k ∧ Go30 row all (nd % 4) ws (k + 1) σ s ∧ FnF n n0 all W0 σ s W
def FnJ5 (nds : List Int) (nd : Int) (n n0 : Nat) (Aw A3 : Option Addr) (cr c3 : Nat) (row all : List Int) (W0 : World) (σ : Ar) (s : Wk) (a : Act) (W : World) : Prop :=
  a.tmps.size = 173 ∧ a.defers = [] ∧ a.tmps.getD 2 undef = .int .u8 nd ∧ a.tmps.getD 7 undef = .slice Aw row.length cr ∧ a.tmps.getD 12 undef = .slice A3 12 c3 ∧ a.tmps.getD 14 undef = .pointer (some ⟨n0 + 1, 0, none⟩) ∧ a.tmps.getD 16 undef = .pointer (some ⟨n + 1 + 1 + 1 + 1, 0, none⟩) ∧ a.tmps.getD 17 undef = .int .i64 12 ∧ a.tmps.getD 18 undef = .bool true ∧
    ∃ (i : Nat) (found last : Int) (passed : Nat), a.tmps.getD 20 undef = .int .i64 found ∧ a.tmps.getD 21 undef = .int .i64 last ∧ a.tmps.getD 22 undef = .int .i64 passed ∧ a.tmps.getD 23 undef = .int .i64 i ∧ Fin30 row all (nd % 4) i found last passed ∧ FnF n n0 all W0 σ s W
set_option maxHeartbeats 8000000 in
set_option maxRecDepth 100000 in
theorem finds_rest (nds : List Int) (hnl : nds.length = 12) (hnb : ∀ e ∈ nds, isU8 e) (nd : Int) (n0 : 0 ≤ nd) (n1 : nd ≤ 255) (order : List Int) (A : Option Addr) (cap : Nat) (hob : ∀ e ∈ order, isU8 e) (hcl : order.length ≤ maxLen) (w : World) (hs : Sl w w.heap.size A (order.map (Value.int .u8))) (av : Array Value) (hav : av = (nds.map (Value.int .u8)).toArray) :
    Calls Try.prog 11 #[.slice A order.length cap, .agg av, .int .u8 nd] w fun e w' => e = .returned (.bool true) ∧ Below w.heap.size w w' := by
  have i0 : (order.length : Int) ≤ 9223372036854775807 := by simp only [maxLen] at hcl; omega
  have m0 : 0 ≤ nd % 4 := by omega
  have m1 : nd % 4 < 4 := by omega
  obtain ⟨a0, a1, a2, a3, a4, a5, a6, a7, a8, a9, a10, a11, hE⟩ := list12 hnl
  have HAV := Lib.hid hav
  have hav2 : av = #[.int .u8 a0, .int .u8 a1, .int .u8 a2, .int .u8 a3, .int .u8 a4, .int .u8 a5, .int .u8 a6, .int .u8 a7, .int .u8 a8, .int .u8 a9, .int .u8 a10, .int .u8 a11] := by rw [hav, hE]; rfl
  have HBX : Hid (w.alloc (.cells #[.int .u8 a0, .int .u8 a1, .int .u8 a2, .int .u8 a3, .int .u8 a4, .int .u8 a5, .int .u8 a6, .int .u8 a7, .int .u8 a8, .int .u8 a9, .int .u8 a10, .int .u8 a11] 92) = w.alloc (bx12 nds)) := Lib.hid (by rw [hE]; rfl)
  subst hav2
  clear hav hE
  have HSO := Lib.hid hs
  clear hs
  have hNB := Lib.hid hnb
  have hOB := Lib.hid hob
  clear hnb hob
  go_enter Try.func11, Try.ntmps11
  go_upto_block 0 with fail
  rw [HBX.out]
  refine wp_cut (FnR nds nd w) ?_ ?_
  · rintro a' W ⟨hsz, hdf, s2, s4, row, v, s7, hrow, hown, hbx, hb, hz⟩
    obtain ⟨u, rfl, hu⟩ := frame173 hsz hdf
    rw [hu] at s2 s4 s7
    simp only [s2, s4, s7]
    clear hsz hdf s2 s4 s7 hu
    have hlen := hrow.len
    have HRow := Lib.hid hrow
    by_cases h0 : row.length = 0
    · obtain rfl : row = [] := List.eq_nil_of_length_eq_zero h0
      obtain ⟨A7, c7, rfl, _⟩ := own_slice hown
      clear hown hbx hrow h0
      go_wp2_with fail
      refine (awake30 _).mono ?_
      rintro e W3 ⟨rfl, hb3⟩
      go_wp2_with fail
      go_ret
      exact ⟨rfl, hb.trans (hb3.mono (by omega))⟩
    · obtain ⟨Aw, cr, rfl, _, _, hsl⟩ := own_slice hown
      have HSl := Lib.hid (show Sl W W.heap.size Aw (row.map (Value.int .i64)) from hsl)
      have q0 := nbeq_no h0
      have q1 : (row.length : Int) ≤ 12 := by omega
      have hmk : ∀ V, (Instr.makeSlice 63 (.int .i64 12) (.int .i64 12)).run Try.prog V = .ok (.slice (some ⟨V.heap.size, 0, none⟩) 12 12) (V.alloc (.cells ((List.replicate 12 (0 : Int)).map (Value.int .i64)).toArray 3)) := fun V => make_ints 12 (by omega) V
      have hF : FnB nds W.heap.size Aw row w (W.alloc (.cells #[.int .i64 0, .int .i64 0, .int .i64 0, .int .i64 0, .int .i64 0, .int .i64 0, .int .i64 0, .int .i64 0, .int .i64 0, .int .i64 0, .int .i64 0, .int .i64 0] 3)) := ⟨HSl.out.below (below_new _ _), (Mod.of_below (S := []) (below_new W _)).blk hbx (by simp), hb.trans ((below_new W _).mono (by omega)), by omega, by simp⟩
      have hB1 := blk_new W (.cells #[.int .i64 0, .int .i64 0, .int .i64 0, .int .i64 0, .int .i64 0, .int .i64 0, .int .i64 0, .int .i64 0, .int .i64 0, .int .i64 0, .int .i64 0, .int .i64 0] 3)
      have HF := Lib.hid hF
      have HB1 := Lib.hid hB1
      clear hF hB1 hown hsl hrow hbx hb HSl
      go_wp2_with fail
      generalize W.alloc (.cells #[.int .i64 0, .int .i64 0, .int .i64 0, .int .i64 0, .int .i64 0, .int .i64 0, .int .i64 0, .int .i64 0, .int .i64 0, .int .i64 0, .int .i64 0, .int .i64 0] 3) = W1 at *
      generalize W.heap.size = g1 at *
      refine wp_loop (FnJ2 nds nd g1 Aw cr row w) (fun a' _ => row.length - (intOf (a'.tmps.getD 11 undef)).toNat) ?_ ?_
      · exact ⟨rfl, rfl, rfl, rfl, rfl, rfl, 0, List.replicate 12 0, rfl, by omega, Wd.start row, HB1.out, HF.out⟩
      · clear HF HB1 hmk
        rintro a' V ⟨hsz, hdf, s2, s4, s7, s10, i, ws, s11, hi, hwd, hbk, hF⟩
        obtain ⟨u, rfl, hu⟩ := frame173 hsz hdf
        rw [hu] at s2 s4 s7 s10 s11
        simp only [s2, s4, s7, s10, s11]
        clear hsz hdf s2 s4 s7 s10 s11 hu
        have HF := Lib.hid hF
        have HW := Lib.hid hwd
        by_cases hlt : i + 1 < row.length
        · obtain ⟨b, off, rfl, hbb, hcell⟩ := hF.1.at_ (by simp; omega)
          have c0 := hcell i (by simp; omega)
          have c1 := hcell (i + 1) (by simp; omega)
          have x0 : row[i]'(by omega) = row.getD i 0 := by simp [show i < row.length by omega]
          have x1 : row[i + 1] = row.getD (i + 1) 0 := by simp [hlt]
          simp only [List.getElem_map, ← Nat.add_assoc] at c0 c1
          rw [x0] at c0
          rw [x1] at c1
          have c2 : V.cell? ⟨b, off + (i + 1), none⟩ = some (.int .i64 (row.getD (i + 1) 0)) := c1
          have hr0 := HRow.out.at_ (show i < row.length by omega)
          have hnw := Lib.hid (hwd.step HRow.out hlt)
          obtain ⟨m, hm⟩ := Int.eq_ofNat_of_zero_le (show 0 ≤ row.getD i 0 - 1 by omega)
          rw [hm, Int.toNat_natCast] at hnw
          have hm2 : row.getD i 0 = (m : Int) + 1 := by omega
          rw [hm2] at c0 hr0
          have hml : m < 12 := by omega
          generalize row.getD (i + 1) 0 = y at *
          clear hF hwd hcell x0 x1 hm hm2
          have e1 : IntKind.i64.wrap ((m : Int) + 1 - 1) = (m : Int) := by rw [IntWalk.i64_in _ (by omega)]; omega
          have e2 : IntKind.i64.wrap (m : Int) = (m : Int) := IntWalk.i64_in _ (by omega)
          have e3 : (m : Int) < 12 := by omega
          have e4 : (0 : Int) ≤ (m : Int) := by omega
          have e5 : (m : Int).toNat = m := by omega
          have e6 : IntKind.i64.wrap ((i : Int) + 1) = (i : Int) + 1 := IntWalk.i64_in _ (by omega)
          have e7 : (i : Int) + 1 < (row.length : Int) := by omega
          have e8 : ((i : Int) + 1).toNat = i + 1 := by omega
          have e9 : (i : Int) < (row.length : Int) := by omega
          have f0 := blk_free hbk m
          have c3 := blk_cell hbk m (by have := HW.out.1; simp [vL]; omega)
          generalize (vL ws)[m]'(by have := HW.out.1; simp [vL]; omega) = vm at c3
          have HBK := Lib.hid hbk
          clear hbk hi hr0 hlt
          have hmd : Mod [g1] V (V.drew.setCell ⟨g1, m, none⟩ (.int .i64 y)) := ((Mod.refl _ _).drew).setCell (by simp) _
          have HBn := Lib.hid (show (V.drew.setCell ⟨g1, m, none⟩ (.int .i64 y)).heap[g1]? = some (.cells (vL (ws.set m y)) 3 (0, 0)) by rw [← vL_set]; exact blk_set (show V.drew.heap[g1]? = _ from HBK.out) m _)
          have HFn := Lib.hid (HF.out.mod hmd (by simp))
          go_wp2_with fail
          go_region_with fail
          skip
          all_goals
            go_wp2_with fail
            exact ⟨⟨rfl, rfl, rfl, rfl, rfl, rfl, i + 1, ws.set m y, rfl, by omega, hnw.out, HBn.out, HFn.out⟩, by simp [intOf]; omega⟩
        · have hd := Lib.hid (HW.out.done (show row.length = i + 1 by omega))
          have e1 : (row.length : Int) ≤ (i : Int) + 1 := by omega
          have e6 : IntKind.i64.wrap ((i : Int) + 1) = (i : Int) + 1 := IntWalk.i64_in _ (by omega)
          have hwl := HW.out.1
          have HBK := Lib.hid hbk
          have HAL := Lib.hid (show (nds.map (· % 4)).length = 12 by simp [hnl])
          clear hbk hF HW hwd
          go_wp2_with fail
          refine wp_loop (FnJ3 nds nd g1 Aw cr row ws (nds.map (· % 4)) w) (fun a' _ => 12 - (intOf (a'.tmps.getD 13 undef)).toNat) ?_ ?_
          · exact ⟨rfl, rfl, rfl, rfl, rfl, rfl, 0, _, rfl, rfl, by omega, World.ownsRow_nil _ _ _ _, HBK.out, HF.out⟩
          · clear HF HBK e1 e6 hlt hi
            rintro a' V2 ⟨hsz, hdf, s2, s4, s7, s10, k, v3, s13, s12, hk, hown, hbk, hF⟩
            obtain ⟨u, rfl, hu⟩ := frame173 hsz hdf
            rw [hu] at s2 s4 s7 s10 s13 s12
            simp only [s2, s4, s7, s10, s13, s12]
            clear hsz hdf s2 s4 s7 s10 s13 s12 hu
            have HF := Lib.hid hF
            have HBK := Lib.hid hbk
            by_cases hk12 : k < 12
            · have c0 := bx12_cell hF.2.1 k (by omega)
              have hy0 := hNB.out (nds.getD k 0) (by
                rw [List.getD_eq_getElem?_getD, List.getElem?_eq_getElem (by omega)]
                exact List.getElem_mem _)
              have HTk := Lib.hid (show (nds.map (· % 4)).take (k + 1) = (nds.map (· % 4)).take k ++ [nds.getD k 0 % 4] by
                rw [List.take_succ_eq_append_getElem (by simp; omega), List.getElem_map]
                simp [show k < nds.length by omega])
              generalize nds.getD k 0 = y at *
              obtain ⟨y0, y1⟩ := hy0
              have y2 : 0 ≤ y % 4 := by omega
              have y3 : y % 4 < 4 := by omega
              have hz2 := hF.2.2.2.2
              clear hF hbk
              go_wp2_with (at_builtin; refine wpList_append1 (.tmp 77) (.tmp 83) 63 3 _ 1 8 rfl rfl Try.underlying63 infoI rfl (by decide) (g1 + 1) _ _ _ _ _ _ _ _ hown rfl rfl ?cg3 rfl ?f1 ?f2 ?f3 ?f4 ?ck3; case' ck3 => intro v4 w4 hown4 hb4 _)
              case cg3 => first | rfl | simp
              case f1 => simp [Value.oneCell']
              case f2 => simp only [maxLen]; omega
              case f3 => omega
              try (case f4 => exact hz2)
              have hown5 : w4.ownsRow (g1 + 1) 3 1 v4 (k + 1) (((nds.map (· % 4)).take (k + 1)).map vI) := by
                rw [HTk.out, List.map_append]
                exact hown4
              exact ⟨⟨rfl, rfl, rfl, rfl, rfl, rfl, k + 1, v4, rfl, rfl, hk12, hown5, (hb4.block g1 (by omega)).trans HBK.out, HF.out.step hb4⟩, by simp [intOf]; omega⟩
            · obtain rfl : k = 12 := by omega
              rw [List.take_of_length_le (by simp [hnl])] at hown
              have hfl := fst_le (nds.map (· % 4)) (nd % 4) row
              have HDD := hd
              generalize nds.map (· % 4) = all at *
              obtain ⟨A3, c3, rfl, _, _, hsl3⟩ := own_slice hown
              have HS3 := Lib.hid (show Sl V2 V2.heap.size A3 (all.map (Value.int .i64)) from hsl3)
              have HSw := Lib.hid (sl_blk hbk)
              have HSr := Lib.hid (hF.1.more (show g1 ≤ V2.heap.size by have := hF.2.2.2.2; omega))
              have HB0 := Lib.hid hF.2.2.1
              have hBn : w.heap.size ≤ V2.heap.size := by have := hF.2.2.2.1; have := hF.2.2.2.2; omega
              have HLd := laid_any ws (some ⟨g1, 0, none⟩) 12 V2 (by omega) HSw.out
              rw [hwl] at HLd
              have HLd := Lib.hid HLd
              clear hF hbk HF HBK hown hsl3 hk hk12
              go_wp2_with fail
              refine HLd.out.mono ?_
              rintro e w2 ⟨rfl, σ, ρ, h2, hl1, hl2, hl3⟩
              have hzz : V2.heap.size + 1 < w2.heap.size := by have := lt_of_blk h2.2.1.2.2.2.2.2.choose_spec.1; omega
              have HN := news_at (V2.heap.size + 1) V2.heap.size σ 1 1 A3 c3 all w2 h2.1 (by omega) (by have := HAL.out; omega) ((HS3.out.below h2.2.2.2).more h2.2.2.2.size)
              rw [HAL.out] at HN
              have HN := Lib.hid HN
              have HB2 := Lib.hid h2.2.2.2
              have ht : σ.t = 12 := by omega
              have ho : σ.ops = 12 := by omega
              clear h2 hl1 hl3
              go_wp2_with fail
              refine HN.out.mono ?_
              rintro e w3 ⟨rfl, hs3, hb3⟩
              have HF := Lib.hid (show FnF w2.heap.size V2.heap.size all V2 σ ⟨0, false, 0, 0, 0⟩ w3 from ⟨hs3, hzz, rfl, HB2.out.trans (hb3.mono (by omega))⟩)
              clear hs3 hb3 HN HLd HB2
              generalize w2.heap.size = n at *
              go_wp2_with fail
              refine (aops_at _ _ _ _ _ _ _ _ _ HF.out.1 12 (by omega)).mono ?_
              rintro e wx ⟨rfl, hwx⟩
              obtain rfl := hwx.symm
              go_wp2_with fail
              obtain ⟨b, off, rfl, hbb, hcell⟩ := HSr.out.at_ (by simp; omega)
              have HSr := Lib.hid (show Sl V2 V2.heap.size (some ⟨b, off, none⟩) (row.map (Value.int .i64)) from HSr.out)
              have c0 := hcell 0 (by simp; omega)
              have x0 : row[0]'(by omega) = row.getD 0 0 := by simp [show 0 < row.length by omega]
              rw [List.getElem_map, x0, Nat.add_zero] at c0
              have c0 := (HF.out.2.2.2.cell (p := ⟨b, off, none⟩) hbb).trans c0
              have i5 : (0 : Int) < (row.length : Int) := by omega
              have hix : ∀ W, (Instr.indexAt 63 (.slice (some ⟨b, off, none⟩) row.length cr) (.int .i64 0)).run Try.prog W = .ok (.pointer (some ⟨b, off, none⟩)) W := by
                obtain ⟨r, hr⟩ : ∃ r, row.length = r + 1 := ⟨row.length - 1, by omega⟩
                rw [hr]
                exact fun W => ix_first b off r cr W
              have hG := Lib.hid (go_begin HRow.out HAL.out (nd := nd % 4) (s := ⟨0, false, 0, 0, 0⟩) ho hl2 ht)
              have HBg := Lib.hid (fun W K => begin_at n (V2.heap.size + 1) V2.heap.size all 1 1 σ ⟨0, false, 0, 0, 0⟩ W K (row.getD 0 0) (nd % 4) _ _ rfl rfl)
              generalize (Wk.first ⟨0, false, 0, 0, 0⟩ (nd % 4)).take all (row.getD 0 0) = s at *
              generalize row.getD 0 0 = x at *
              clear hcell x0 hl2 ho ht hzz
              go_wp2_with fail
              simp only [hix]
              go_simp
              go_wp2_with fail
              refine (HBg.out _ HF.out.1).mono ?_
              rintro e w4 ⟨rfl, hs4, hm4⟩
              have HF4 := Lib.hid (HF.out.walked hs4 (hm4.sub (by simp)))
              clear hs4 hm4 HF HBg c0
              go_wp2_with fail
              refine wp_loop (FnJ4 nds nd n V2.heap.size (some ⟨b, off, none⟩) A3 cr c3 row ws all V2) (fun a' _ => 20 - (intOf (a'.tmps.getD 19 undef)).toNat) ?_ ?_
              · exact ⟨rfl, rfl, rfl, rfl, rfl, rfl, rfl, rfl, 0, σ, s, rfl, rfl, hG.out, HF4.out⟩
              · clear hG HF4
                rintro a' V3 ⟨hsz, hdf, s2, s7, s12, s14, s16, s17, k, σ, s, s18, s19, hG, hF⟩
                obtain ⟨u, rfl, hu⟩ := frame173 hsz hdf
                rw [hu] at s2 s7 s12 s14 s16 s17 s18 s19
                simp only [s2, s7, s12, s14, s16, s17, s18, s19]
                clear hsz hdf s2 s7 s12 s14 s16 s17 s18 s19 hu
                have HF := Lib.hid hF
                cases hw : s.way
                · have HOff := Lib.hid (And.intro (hG.off hw).1 (And.intro (hG.off hw).2.1 (And.intro (hG.off hw).2.2.1 hw)))
                  have hk := (hG.off hw).2.2.2
                  clear hG hF hw
                  go_wp2_with fail
                  refine wp_loop (FnJ5 nds nd n V2.heap.size (some ⟨b, off, none⟩) A3 cr c3 row all V2 σ s) (fun a' _ => row.length - (intOf (a'.tmps.getD 23 undef)).toNat) ?_ ?_
                  · exact ⟨rfl, rfl, rfl, rfl, rfl, rfl, rfl, rfl, rfl, 0, 0, 0, 0, rfl, rfl, rfl, rfl, Fin30.start _ _ _, HF.out⟩
                  · clear HF hk
                    rintro a' V4 ⟨hsz, hdf, s2, s7, s12, s14, s16, s17, s18, i, found, last, passed, s20, s21, s22, s23, hFin, hF⟩
                    obtain ⟨u, rfl, hu⟩ := frame173 hsz hdf
                    rw [hu] at s2 s7 s12 s14 s16 s17 s18 s20 s21 s22 s23
                    simp only [s2, s7, s12, s14, s16, s17, s18, s20, s21, s22, s23]
                    clear hsz hdf s2 s7 s12 s14 s16 s17 s18 s20 s21 s22 s23 hu
                    have HF := Lib.hid hF
                    have HFin := Lib.hid hFin
                    have hile := hFin.le
                    by_cases hlt : i < row.length
                    · by_cases hf0 : found = 0
                      · subst hf0
                        have hr0 := HRow.out.at_ hlt
                        have c0 := HSr.out.below hF.2.2.2
                        obtain ⟨b', off', hbo, _, hcell⟩ := c0.at_ (by simp; omega)
                        injection hbo with hbo
                        injection hbo with hb1 hb2 _
                        subst hb1 hb2
                        have c0 := hcell i (by simpa using hlt)
                        have x0 : row[i] = row.getD i 0 := by simp [hlt]
                        rw [List.getElem_map, x0] at c0
                        obtain ⟨m, hm⟩ := Int.eq_ofNat_of_zero_le (show 0 ≤ row.getD i 0 - 1 by omega)
                        have hm2 : row.getD i 0 = (m : Int) + 1 := by omega
                        have hml : m < all.length := by have := HAL.out; omega
                        obtain ⟨b3, off3, rfl, hb3, hcell3⟩ := (HS3.out.below hF.2.2.2).at_ (by simp; omega)
                        have c1 := hcell3 m (by simpa using hml)
                        have x1 : all[m] = all.getD m 0 := by simp [hml]
                        rw [List.getElem_map, x1] at c1
                        have hm3 : (row.getD i 0 - 1).toNat = m := by omega
                        have HY := Lib.hid (hFin.yes HRow.out hlt)
                        have HNn := Lib.hid (hFin.no hlt)
                        rw [hm3, hm2] at HY HNn
                        rw [hm2] at c0
                        have e1 : IntKind.i64.wrap ((m : Int) + 1 - 1) = (m : Int) := by rw [IntWalk.i64_in _ (by omega)]; omega
                        have e2 : IntKind.i64.wrap (m : Int) = (m : Int) := IntWalk.i64_in _ (by omega)
                        have e3 : (m : Int) < 12 := by have := HAL.out; omega
                        have e4 : (0 : Int) ≤ (m : Int) := by omega
                        have e5 : (m : Int).toNat = m := by omega
                        have e7 : (i : Int) < (row.length : Int) := by omega
                        have e8 := ibeq (rfl : (0 : Int) = 0)
                        have e9 : passed ≤ 12 := by have := (hFin.on rfl).2.2; omega
                        generalize all.getD m 0 = y at *
                        clear hcell hcell3 x0 x1 hm hm2 hm3 hF hFin HFin
                        by_cases hn : y = nd % 4
                        · have e10 := ibeq hn
                          have HFn := Lib.hid (HY.out hn)
                          subst hn
                          clear HY HNn
                          go_wp2_with fail
                          exact ⟨⟨rfl, rfl, rfl, rfl, rfl, rfl, rfl, rfl, rfl, i + 1, _, _, _, rfl, rfl, rfl, rfl, HFn.out, HF.out⟩, by simp [intOf]; omega⟩
                        · have e10 := ibeq_no hn
                          have HFn := Lib.hid (HNn.out hn)
                          clear HY HNn hn
                          go_wp2_with fail
                          exact ⟨⟨rfl, rfl, rfl, rfl, rfl, rfl, rfl, rfl, rfl, i + 1, _, _, passed + 1, rfl, rfl, rfl, rfl, HFn.out, HF.out⟩, by simp [intOf]; omega⟩
                      · have e7 : (i : Int) < (row.length : Int) := by omega
                        have e8 := ibeq_no hf0
                        clear hF hFin
                        obtain ⟨d1, d2, d3⟩ := HFin.out.done (by omega)
                        have HD1 := Lib.hid d1
                        have HD2 := Lib.hid d2
                        have HD3 := Lib.hid d3
                        have q1 := ibeq (rfl : found = found)
                        have q2 := ibeq (rfl : last = last)
                        have q3 := ibeq (rfl : (passed : Int) = (passed : Int))
                        have HS1 := Lib.hid (HOff.out.2.1.trans d1.symm)
                        have HS2 := Lib.hid (HOff.out.1.trans d2.symm)
                        have HS3 := Lib.hid (show (σ.ops : Int) = 12 + (passed : Int) by have := HOff.out.2.2.1; omega)
                        have e1 : IntKind.i64.wrap (12 + (passed : Int) - 12) = (passed : Int) := by rw [IntWalk.i64_in _ (by have := hfl; omega)]; omega
                        clear d1 d2 d3
                        go_wp2_with fail
                        refine (over_at _ _ _ _ _ _ _ _ _ HF.out.1 true (by rw [HOff.out.2.2.2]; rfl)).mono ?_
                        rintro e wx ⟨rfl, hwx⟩
                        obtain rfl := hwx.symm
                        go_wp2_with fail
                        refine (found_at _ _ _ _ _ _ _ _ _ HF.out.1 _ HS1.out).mono ?_
                        rintro e wx ⟨rfl, hwx⟩
                        obtain rfl := hwx.symm
                        go_wp2_with fail
                        refine (lastw_at _ _ _ _ _ _ _ _ _ HF.out.1 _ HS2.out).mono ?_
                        rintro e wx ⟨rfl, hwx⟩
                        obtain rfl := hwx.symm
                        go_wp2_with fail
                        refine (aops_at _ _ _ _ _ _ _ _ _ HF.out.1 _ HS3.out).mono ?_
                        rintro e wx ⟨rfl, hwx⟩
                        obtain rfl := hwx.symm
                        go_wp2_with fail
                        refine (awake30 _).mono ?_
                        rintro e W9 ⟨rfl, hb9⟩
                        go_wp2_with fail
                        go_ret
                        exact ⟨rfl, HB0.out.trans ((HF.out.2.2.2.mono hBn).trans (hb9.mono (by have := HF.out.1.1.lt; have := HF.out.2.1; omega)))⟩
                    · have e7 : (row.length : Int) ≤ (i : Int) := by omega
                      clear hF hFin
                      obtain ⟨d1, d2, d3⟩ := HFin.out.done (by omega)
                      have HD1 := Lib.hid d1
                      have HD2 := Lib.hid d2
                      have HD3 := Lib.hid d3
                      have q1 := ibeq (rfl : found = found)
                      have q2 := ibeq (rfl : last = last)
                      have q3 := ibeq (rfl : (passed : Int) = (passed : Int))
                      have HS1 := Lib.hid (HOff.out.2.1.trans d1.symm)
                      have HS2 := Lib.hid (HOff.out.1.trans d2.symm)
                      have HS3 := Lib.hid (show (σ.ops : Int) = 12 + (passed : Int) by have := HOff.out.2.2.1; omega)
                      have e1 : IntKind.i64.wrap (12 + (passed : Int) - 12) = (passed : Int) := by rw [IntWalk.i64_in _ (by have := hfl; omega)]; omega
                      clear d1 d2 d3
                      go_wp2_with fail
                      refine (over_at _ _ _ _ _ _ _ _ _ HF.out.1 true (by rw [HOff.out.2.2.2]; rfl)).mono ?_
                      rintro e wx ⟨rfl, hwx⟩
                      obtain rfl := hwx.symm
                      go_wp2_with fail
                      refine (found_at _ _ _ _ _ _ _ _ _ HF.out.1 _ HS1.out).mono ?_
                      rintro e wx ⟨rfl, hwx⟩
                      obtain rfl := hwx.symm
                      go_wp2_with fail
                      refine (lastw_at _ _ _ _ _ _ _ _ _ HF.out.1 _ HS2.out).mono ?_
                      rintro e wx ⟨rfl, hwx⟩
                      obtain rfl := hwx.symm
                      go_wp2_with fail
                      refine (aops_at _ _ _ _ _ _ _ _ _ HF.out.1 _ HS3.out).mono ?_
                      rintro e wx ⟨rfl, hwx⟩
                      obtain rfl := hwx.symm
                      go_wp2_with fail
                      refine (awake30 _).mono ?_
                      rintro e W9 ⟨rfl, hb9⟩
                      go_wp2_with fail
                      go_ret
                      exact ⟨rfl, HB0.out.trans ((HF.out.2.2.2.mono hBn).trans (hb9.mono (by have := HF.out.1.1.lt; have := HF.out.2.1; omega)))⟩
                · obtain ⟨k1, k2, k3, k4, k5⟩ := hG.on hw
                  have hr1 := HRow.out.at_ (show k < row.length by omega)
                  rw [lst_succ] at k3
                  have HN := Lib.hid (go_next HRow.out HAL.out hG hd.out hw)
                  have HW := Lib.hid hw
                  have HC := Lib.hid (fun W K => step_at n (V2.heap.size + 1) V2.heap.size all 1 1 σ s W K (s.next all 1 1 σ) (stepA 1 1 σ s) (!(s.next all 1 1 σ).way) (by omega) (by decide) (by decide) (by decide) (by decide) (by have := HAL.out; omega) (fun _ => ⟨by omega, by omega⟩) rfl rfl (by rw [HW.out, Bool.true_and]))
                  have hk20 : k < 20 := by omega
                  clear hG hF hw k1 k2 k3 k4 k5 hr1
                  generalize s.next all 1 1 σ = s2 at *
                  generalize stepA 1 1 σ s = σ2 at *
                  go_wp2_with fail
                  refine (HC.out _ HF.out.1).mono ?_
                  rintro e w5 ⟨rfl, hs5, hm5⟩
                  have HF5 := Lib.hid (HF.out.walked hs5 hm5)
                  clear hs5 hm5
                  go_wp2_with fail
                  exact ⟨⟨rfl, rfl, rfl, rfl, rfl, rfl, rfl, rfl, k + 1, σ2, s2, rfl, rfl, HN.out, HF5.out⟩, by simp [intOf]; omega⟩
  · intro J K' hJ hK'
    go_wp2_with fail
    refine wp_loop (FnJ1 order A cap nds nd w) (fun a' _ => 100 - (intOf (a'.tmps.getD 8 undef)).toNat) ?_ ?_
    · exact ⟨rfl, rfl, rfl, rfl, rfl, 0, [], .slice none 0 0, rfl, rfl, by omega, Row.nil, World.ownsRow_nil _ _ _ _, blk_new _ _, below_new _ _, by simp⟩
    · rintro a' W ⟨hsz, hdf, s0, s2, s4, i, row, v, s8, s7, hi, hrow, hown, hbx, hb, hz⟩
      obtain ⟨u, rfl, hu⟩ := frame173 hsz hdf
      rw [hu] at s0 s2 s4 s8 s7
      simp only [s0, s2, s4, s8, s7]
      clear hsz hdf s0 s2 s4 s8 s7 hu
      have hlen := hrow.len
      by_cases hlt : i < order.length
      · by_cases h100 : i < 100
        · obtain ⟨b, off, rfl, hbb, hcell⟩ := (HSO.out.below hb).at_ (by simp; omega)
          have c0 := hcell i (by simpa using hlt)
          rw [List.getElem_map] at c0
          obtain ⟨y0, y1⟩ := hOB.out _ (List.getElem_mem hlt)
          generalize order[i] = y at *
          have y2 : 0 ≤ y % 12 := by omega
          have y3 : y % 12 < 12 := by omega
          have e7 : (i : Int) < (order.length : Int) := by omega
          obtain ⟨A7, c7, rfl, _, _, hsl⟩ := own_slice hown
          have HH := has30 row A7 c7 (1 + y % 12) W (by omega) (show Sl W W.heap.size A7 (row.map (Value.int .i64)) from hsl)
          have HOwn := Lib.hid hown
          by_cases hm : (1 + y % 12) ∈ row
          · rw [decide_eq_true hm] at HH
            have HH := Lib.hid HH
            clear hcell hm hsl hown
            go_wp2_with fail
            refine (HH.out).mono ?_
            rintro e wx ⟨rfl, hwx⟩
            obtain rfl := hwx.symm
            go_wp2_with fail
            exact ⟨⟨rfl, rfl, rfl, rfl, rfl, i + 1, row, _, rfl, rfl, h100, hrow, HOwn.out, hbx, hb, hz⟩, by simp [intOf]; omega⟩
          · rw [decide_eq_false hm] at HH
            have HH := Lib.hid HH
            have HRp := Lib.hid (hrow.push (by omega) (by omega) hm)
            clear hcell hm hsl
            go_wp2_with fail
            refine HH.out.mono ?_
            rintro e wx ⟨rfl, hwx⟩
            obtain rfl := hwx.symm
            go_wp2_with (at_builtin; refine wpList_append1 (.tmp 45) (.tmp 47) 63 3 _ 1 8 rfl rfl Try.underlying63 infoI rfl (by decide) (w.heap.size + 1) _ _ _ _ _ _ _ _ hown rfl rfl ?cg1 rfl ?d1 ?d2 ?d3 ?d4 ?ck1; case' ck1 => intro v4 w4 hown4 hb4 _)
            case cg1 => first | rfl | simp
            case d1 => simp [Value.oneCell']
            case d2 => simp only [maxLen]; omega
            case d3 => omega
            try (case d4 => exact hz)
            have hown5 : w4.ownsRow (w.heap.size + 1) 3 1 v4 (row ++ [1 + y % 12]).length ((row ++ [1 + y % 12]).map vI) := by
              rw [List.map_append, List.length_append]
              exact hown4
            exact ⟨⟨rfl, rfl, rfl, rfl, rfl, i + 1, row ++ [1 + y % 12], v4, rfl, rfl, h100, HRp.out, hown5, (hb4.block _ (by omega)).trans hbx, hb.trans (hb4.mono (by omega)), Nat.le_trans hz hb4.size⟩, by simp [intOf]; omega⟩
        · have e7 : (i : Int) < (order.length : Int) := by omega
          have e8 : (100 : Int) ≤ (i : Int) := by omega
          have HX := Lib.hid (show ∃ (row : List Int) (v' : Value), v = v' ∧ Row row ∧ W.ownsRow (w.heap.size + 1) 3 1 v' row.length (row.map vI) ∧ W.heap[w.heap.size]? = some (bx12 nds) ∧ Below w.heap.size w W ∧ w.heap.size + 1 ≤ W.heap.size from ⟨row, v, rfl, hrow, hown, hbx, hb, hz⟩)
          clear hrow hown hbx hb
          go_wp2_with fail
          exact Met.intro (hJ _ _ ⟨rfl, rfl, rfl, rfl, HX.out⟩)
      · have e7 : (order.length : Int) ≤ (i : Int) := by omega
        have HX := Lib.hid (show ∃ (row : List Int) (v' : Value), v = v' ∧ Row row ∧ W.ownsRow (w.heap.size + 1) 3 1 v' row.length (row.map vI) ∧ W.heap[w.heap.size]? = some (bx12 nds) ∧ Below w.heap.size w W ∧ w.heap.size + 1 ≤ W.heap.size from ⟨row, v, rfl, hrow, hown, hbx, hb, hz⟩)
        clear hrow hown hbx hb
        go_wp2_with fail
        exact Met.intro (hJ _ _ ⟨rfl, rfl, rfl, rfl, HX.out⟩)
end Go.Proofs.Ytfdcojhgpfmloaa.Ara
