/- Merged texts: Tp1, Tp2, SlI, Tp3, Budget, Reg. -/
import Derived.Test.YtfnmggmgdmokcaaGreatDoorNb4
import Derived.Deep.OwnRows
import Derived.Deep.Cut
import Derived.Deep.CutBlock
import Derived.Test.YtfnmggmgdmokcaaGreatDoorKit
import Derived.Deep.RegionHeld3
set_option linter.unusedVariables false
/- Walks of layer 6: tree, leaf, deep, Has. -/
namespace Go.Proofs.YtfnmggmgdmokcaaGreatDoor.Tp
open Go.RowKit Go.Proofs.YtfnmggmgdmokcaaGreatDoor.Li Go.Proofs.YtfnmggmgdmokcaaGreatDoor.De Go.Proofs.YtfnmggmgdmokcaaGreatDoor.Ara

theorem sl_int {w : World} {Bd : Nat} {A : Option Addr} {ns : List Int} (h : Sl w Bd A (ns.flatMap decI)) {k : Nat} (hk : k < ns.length) : ∃ b off, A = some ⟨b, off, none⟩ ∧ b < Bd ∧ ∀ j (h : j < ns.length), w.cell? ⟨b, off + j, none⟩ = some (.int .i64 ns[j]) := by
  rw [flatI] at h
  obtain ⟨b, off, h1, h2, h3⟩ := h.at_ (by rw [List.length_map]; omega)
  refine ⟨b, off, h1, h2, fun j hj => ?_⟩
  have := h3 j (by rw [List.length_map]; exact hj)
  rw [List.getElem_map] at this
  exact this
theorem sl_g {w : World} {Bd : Nat} {A : Option Addr} {ns : List Int} (h : Sl w Bd A (ns.flatMap decI)) (hk : 0 < ns.length) : ∃ b off, A = some ⟨b, off, none⟩ ∧ b < Bd ∧ ∀ j, j < ns.length → w.cell? ⟨b, off + j, none⟩ = some (.int .i64 (ns.getD j 0)) := by
  obtain ⟨b, off, h1, h2, h3⟩ := sl_int h hk
  refine ⟨b, off, h1, h2, fun j hj => ?_⟩
  rw [h3 j hj, List.getD_eq_getElem?_getD, List.getElem?_eq_getElem hj]
  rfl
def okV (p : List Int) (v : Nat) : Prop := if v = 0 then p.getD v 0 = -1 else 0 ≤ p.getD v 0 ∧ p.getD v 0 < (v : Int)
theorem okV_zero {p : List Int} {v : Nat} (h : v = 0) : okV p v ↔ p.getD v 0 = -1 := by unfold okV; rw [if_pos h]
theorem okV_pos {p : List Int} {v : Nat} (h : ¬ v = 0) : okV p v ↔ 0 ≤ p.getD v 0 ∧ p.getD v 0 < (v : Int) := by unfold okV; rw [if_neg h]
theorem tree_iff (p : List Int) : treeP p ↔ ∀ v, v < p.length → okV p v := Iff.rfl
set_option maxRecDepth 100000 in
theorem tree_any (p : List Int) (A : Option Addr) (cap : Nat) (w : World) (hm : p.length ≤ 1000) (hs : Sl w w.heap.size A (p.flatMap decI)) :
    Calls Tryz.prog 46 #[.slice A p.length cap] w fun e w' => e = .returned (.bool (decide (treeP p))) ∧ w' = w := by
  have HF := Lib.hid (fun j hj (h : ¬ okV p j) => (decide_eq_false (fun ht => h ((tree_iff p).1 ht j hj)) : decide (treeP p) = false))
  have HT := Lib.hid (fun h : ∀ v, v < p.length → okV p v => (decide_eq_true ((tree_iff p).2 h) : decide (treeP p) = true))
  go_enter Tryz.func46, Tryz.ntmps46
  go_wp2_with fail
  go_loopw [7] (fun i wr => ∃ j : Nat, j ≤ p.length ∧ i = .int .i64 (j : Int) ∧ (∀ v, v < j → okV p v) ∧ wr = w) (fun i _ => p.length - (intOf i).toNat)
  case atStart => exact ⟨0, Nat.zero_le _, rfl, fun v hv => absurd hv (Nat.not_lt_zero v), rfl⟩
  case round =>
    obtain ⟨j, hj, rfl, hgood, rfl⟩ := hrel
    by_cases hlt : j < p.length
    · obtain ⟨b, off, rfl, hbb, hcell⟩ := sl_g hs (by omega)
      have h0 := hcell j hlt
      have i1 : (j : Int) < (p.length : Int) := by omega
      have HBAD := Lib.hid (HF.out j hlt)
      have HGOOD := Lib.hid (show okV p j → ∀ v, v < j + 1 → okV p v from fun h v hv => by
        by_cases e : v = j
        · subst e; exact h
        · exact hgood v (by omega))
      clear hcell HF HT hgood hs
      by_cases z : j = 0
      · rw [okV_zero z] at HBAD HGOOD
        generalize p.getD j 0 = x at *
        have q0 : ((j : Int) == 0) = true := ibeq (by omega)
        have q2 : ¬ (0 : Int) < (j : Int) := by omega
        clear z
        by_cases h1 : x = -1
        · have q1 := ibne_no h1
          have HN := Lib.hid (HGOOD.out h1)
          clear HBAD HGOOD
          go_wp2_with fail
          go_roundw
          case rel => exact ⟨j + 1, by omega, by go_num, HN.out, trivial⟩
          case measure => simp [intOf]; omega
        · have q1 := ibne h1
          have HN := Lib.hid (HBAD.out h1)
          clear HBAD HGOOD
          go_wp2_with fail
          go_ret
          exact ⟨by rw [HN.out]; rfl, rfl⟩
      · rw [okV_pos z] at HBAD HGOOD
        generalize p.getD j 0 = x at *
        have q0 : ((j : Int) == 0) = false := ibeq_no (by omega)
        have q2 : (0 : Int) < (j : Int) := by omega
        clear z
        by_cases h1 : x < 0
        · have h2 : ¬ (0 ≤ x ∧ x < (j : Int)) := by omega
          have HN := Lib.hid (HBAD.out h2)
          clear HBAD HGOOD
          go_wp2_with fail
          go_ret
          exact ⟨by rw [HN.out]; rfl, rfl⟩
        · by_cases h3 : (j : Int) ≤ x
          · have h2 : ¬ (0 ≤ x ∧ x < (j : Int)) := by omega
            have HN := Lib.hid (HBAD.out h2)
            clear HBAD HGOOD
            go_wp2_with fail
            go_ret
            exact ⟨by rw [HN.out]; rfl, rfl⟩
          · have h2 : 0 ≤ x ∧ x < (j : Int) := by omega
            have HN := Lib.hid (HGOOD.out h2)
            clear HBAD HGOOD
            go_wp2_with fail
            go_roundw
            case rel => exact ⟨j + 1, by omega, by go_num, HN.out, trivial⟩
            case measure => simp [intOf]; omega
    · obtain rfl : j = p.length := by omega
      have HN := Lib.hid (HT.out hgood)
      clear HT HF hgood hs
      go_wp2_with fail
      go_ret
      exact ⟨by rw [HN.out]; rfl, rfl⟩
end Go.Proofs.YtfnmggmgdmokcaaGreatDoor.Tp

/- Walks of layer 6: inner, levels, leaves. -/
namespace Go.Proofs.YtfnmggmgdmokcaaGreatDoor.Tp
open Go.RowKit Go.Proofs.YtfnmggmgdmokcaaGreatDoor.Li Go.Proofs.YtfnmggmgdmokcaaGreatDoor.De Go.Proofs.YtfnmggmgdmokcaaGreatDoor.Ara

theorem infoB : (Tryz.prog.info? 4).map (fun i => (i.zero, i.size, i.bytes)) = some (some (.bool false), 1, 1) := by kernel_rfl
def bls (l : List Bool) : Array Value := (l.map Value.bool).toArray
def its (l : List Int) : Array Value := (l.map (Value.int .i64)).toArray
theorem made_bool (n : Nat) : madeCells #[.bool false] n = bls (List.replicate n false) := by
  apply Array.ext
  · simp [madeCells, bls]
  · intro i h1 h2
    simp [madeCells, bls, Nat.mod_one]
theorem made_int (n : Nat) : madeCells #[.int .i64 0] n = its (List.replicate n 0) := by
  apply Array.ext
  · simp [madeCells, its]
  · intro i h1 h2
    simp [madeCells, its, Nat.mod_one]
theorem make_bools (n : Nat) (h : n ≤ 65536) (W : World) : (Instr.makeSlice 148 (.int .i64 (n : Int)) (.int .i64 (n : Int))).run Tryz.prog W = .ok (.slice (some ⟨W.heap.size, 0, none⟩) n n) (W.alloc (.cells (bls (List.replicate n false)) 4)) := by
  rw [run_make_row' (P := Tryz.prog) 148 4 (.bool false) 1 Tryz.underlying148 infoB rfl .i64 .i64 n (by omega) (by omega) W, made_bool]
theorem make_ints (n : Nat) (h : n ≤ 65536) (W : World) : (Instr.makeSlice 31 (.int .i64 (n : Int)) (.int .i64 (n : Int))).run Tryz.prog W = .ok (.slice (some ⟨W.heap.size, 0, none⟩) n n) (W.alloc (.cells (its (List.replicate n 0)) 3)) := by
  rw [run_make_row' (P := Tryz.prog) 31 3 (.int .i64 0) 8 Tryz.underlying31 infoI rfl .i64 .i64 n (by omega) (by omega) W, made_int]
theorem bls_cell {w : World} {g : Nat} {l : List Bool} (h : w.heap[g]? = some (.cells (bls l) 4 (0, 0))) {i : Nat} (hi : i < l.length) : w.cell? ⟨g, i, none⟩ = some (.bool (l.getD i false)) := by
  rw [blk_cell h i (by simpa [bls] using hi)]
  simp [bls, hi]
theorem its_cell {w : World} {g : Nat} {l : List Int} (h : w.heap[g]? = some (.cells (its l) 3 (0, 0))) {i : Nat} (hi : i < l.length) : w.cell? ⟨g, i, none⟩ = some (.int .i64 (l.getD i 0)) := by
  rw [blk_cell h i (by simpa [its] using hi)]
  simp [its, hi]
theorem bls_set {w : World} {g : Nat} {l : List Bool} (h : w.heap[g]? = some (.cells (bls l) 4 (0, 0))) (i : Nat) (b : Bool) : (w.setCell ⟨g, i, none⟩ (.bool b)).heap[g]? = some (.cells (bls (l.set i b)) 4 (0, 0)) := by
  rw [blk_set h i (.bool b)]
  simp [bls, List.map_set]
theorem its_set {w : World} {g : Nat} {l : List Int} (h : w.heap[g]? = some (.cells (its l) 3 (0, 0))) (i : Nat) (b : Int) : (w.setCell ⟨g, i, none⟩ (.int .i64 b)).heap[g]? = some (.cells (its (l.set i b)) 3 (0, 0)) := by
  rw [blk_set h i (.int .i64 b)]
  simp [its, List.map_set]
def inB (p : List Int) (k : Nat) : List Bool := (List.range p.length).map fun v : Nat => decide ((v : Int) ∈ p.take k)
theorem inB_len (p : List Int) (k : Nat) : (inB p k).length = p.length := by simp [inB]
theorem inB_zero (p : List Int) : inB p 0 = List.replicate p.length false := by
  apply List.ext_getElem
  · simp [inB]
  · intro i h1 h2; simp [inB]
theorem take_g {p : List Int} {k : Nat} (hk : k < p.length) : p.take (k + 1) = p.take k ++ [p.getD k 0] := by
  rw [List.take_succ_eq_append_getElem hk, List.getD_eq_getElem?_getD, List.getElem?_eq_getElem hk]
  rfl
theorem inB_neg {p : List Int} {k : Nat} (hk : k < p.length) (h : p.getD k 0 < 0) : inB p (k + 1) = inB p k := by
  unfold inB
  rw [take_g hk]
  apply List.map_congr_left
  intro v hv
  have : ¬ ((v : Int) = p.getD k 0) := by omega
  generalize p.getD k 0 = y at *
  simp [this]
theorem inB_set {p : List Int} {k u : Nat} (hk : k < p.length) (h : p.getD k 0 = (u : Int)) : inB p (k + 1) = (inB p k).set u true := by
  unfold inB
  rw [take_g hk, h]
  apply List.ext_getElem
  · simp
  · intro i h1 h2
    simp only [List.getElem_map, List.getElem_range, List.getElem_set, List.mem_append, List.mem_singleton]
    by_cases e : u = i
    · subst e; simp
    · have : ¬ ((i : Int) = (u : Int)) := by omega
      simp [e, this]
theorem inB_at {p : List Int} {v : Nat} (h : v < p.length) : (inB p p.length).getD v false = decide ((v : Int) ∈ p) := by
  unfold inB
  rw [List.take_length, List.getD_eq_getElem?_getD]
  simp [h]
set_option maxRecDepth 100000 in
set_option maxHeartbeats 2000000 in
theorem inner_any (p : List Int) (A : Option Addr) (cap : Nat) (w : World) (hm : p.length ≤ 1000) (ht : treeP p) (hs : Sl w w.heap.size A (p.flatMap decI)) :
    Calls Tryz.prog 62 #[.slice A p.length cap] w fun e w' => e = .returned (.slice (some ⟨w.heap.size, 0, none⟩) p.length p.length) ∧ w'.heap[w.heap.size]? = some (.cells (bls (inB p p.length)) 4 (0, 0)) ∧ Below w.heap.size w w' := by
  have hmk := fun W => make_bools p.length (by omega) W
  have HT := Lib.hid ht
  clear ht
  go_enter Tryz.func62, Tryz.ntmps62
  go_wp2_with fail
  clear hmk
  go_loopw [11] (fun i wr => ∃ k : Nat, k ≤ p.length ∧ i = .int .i64 (k : Int) ∧ wr.heap[w.heap.size]? = some (.cells (bls (inB p k)) 4 (0, 0)) ∧ Below w.heap.size w wr) (fun i _ => p.length - (intOf i).toNat)
  case atStart => exact ⟨0, Nat.zero_le _, rfl, by rw [inB_zero]; exact blk_new _ _, below_new _ _⟩
  case round =>
    obtain ⟨k, hk, rfl, hblk, hb⟩ := hrel
    have HB := Lib.hid hb
    by_cases hlt : k < p.length
    · obtain ⟨b, off, rfl, hbb, hcell⟩ := sl_g (hs.below hb) (by omega)
      have h0 := hcell k hlt
      have i1 : (k : Int) < (p.length : Int) := by omega
      have ht := HT.out k hlt
      have HN := Lib.hid (fun h => inB_neg hlt h)
      have HP := Lib.hid (fun u h => inB_set (u := u) hlt h)
      have hln := inB_len p k
      have hlb := hb.size
      clear hcell hb hs
      by_cases h1 : p.getD k 0 < 0
      · have HN2 := Lib.hid (HN.out h1)
        have i2 : ¬ 0 ≤ p.getD k 0 := by omega
        clear HP ht HN
        generalize p.getD k 0 = y at *
        have HK := Lib.hid hblk
        clear hblk
        go_wp2_with fail
        go_roundw
        case rel => exact ⟨k + 1, by omega, by go_num, by rw [HN2.out]; exact HK.out, HB.out⟩
        case measure => simp [intOf]; omega
      · obtain ⟨u, hu⟩ : ∃ u : Nat, p.getD k 0 = (u : Int) := ⟨(p.getD k 0).toNat, by omega⟩
        have hun : u < p.length := by
          rw [hu] at ht
          split at ht <;> omega
        have HP2 := Lib.hid (HP.out u hu)
        clear HN ht HP
        rw [hu] at h0
        generalize p.getD k 0 = y at *
        subst hu
        have i2 : (0 : Int) ≤ (u : Int) := by omega
        have c0 := bls_cell hblk (i := u) (by omega)
        have f0 := blk_free hblk u
        have HS := Lib.hid (bls_set hblk u true)
        clear hblk
        generalize inB p k = bb at *
        go_wp2_with fail
        go_roundw
        case rel => exact ⟨k + 1, by omega, by go_num, by rw [HP2.out]; exact HS.out, HB.out.setCell (p := ⟨w.heap.size, u, none⟩) (Nat.le_refl _) _⟩
        case measure => simp [intOf]; omega
    · obtain rfl : k = p.length := by omega
      have i1 : ¬ (p.length : Int) < (p.length : Int) := by omega
      have HK := Lib.hid hblk
      clear hblk hb
      go_wp2_with fail
      go_ret
      exact ⟨rfl, HK.out, HB.out⟩
def lvB (p : List Int) (k : Nat) : List Int := (List.range p.length).map fun v : Nat => if v < k then (dep p (v : Int) : Int) else 0
theorem lvB_len (p : List Int) (k : Nat) : (lvB p k).length = p.length := by simp [lvB]
theorem lvB_zero (p : List Int) : lvB p 0 = List.replicate p.length 0 := by
  apply List.ext_getElem
  · simp [lvB]
  · intro i h1 h2; simp [lvB]
theorem lvB_set (p : List Int) (k : Nat) : lvB p (k + 1) = (lvB p k).set k (dep p (k : Int) : Int) := by
  unfold lvB
  apply List.ext_getElem
  · simp
  · intro i h1 h2
    simp only [List.getElem_map, List.getElem_range, List.getElem_set]
    by_cases e : k = i
    · subst e; rw [if_pos (by omega), if_pos rfl]
    · rw [if_neg e]
      by_cases e2 : i < k
      · rw [if_pos (by omega), if_pos e2]
      · rw [if_neg (by omega), if_neg e2]
theorem lvB_at {p : List Int} {k v : Nat} (h : v < p.length) (hk : v < k) : (lvB p k).getD v 0 = (dep p (v : Int) : Int) := by
  unfold lvB
  rw [List.getD_eq_getElem?_getD]
  simp [h, hk]
set_option maxRecDepth 100000 in
set_option maxHeartbeats 2000000 in
theorem levels_any (p : List Int) (A : Option Addr) (cap : Nat) (w : World) (hm : p.length ≤ 1000) (ht : treeP p) (hs : Sl w w.heap.size A (p.flatMap decI)) :
    Calls Tryz.prog 48 #[.slice A p.length cap] w fun e w' => e = .returned (.slice (some ⟨w.heap.size, 0, none⟩) p.length p.length) ∧ w'.heap[w.heap.size]? = some (.cells (its (lvB p p.length)) 3 (0, 0)) ∧ Below w.heap.size w w' := by
  have hmk := fun W => make_ints p.length (by omega) W
  have HT := Lib.hid ht
  clear ht
  go_enter Tryz.func48, Tryz.ntmps48
  go_wp2_with fail
  clear hmk
  go_loopw [11] (fun i wr => ∃ k : Nat, k ≤ p.length ∧ i = .int .i64 (k : Int) ∧ wr.heap[w.heap.size]? = some (.cells (its (lvB p k)) 3 (0, 0)) ∧ Below w.heap.size w wr) (fun i _ => p.length - (intOf i).toNat)
  case atStart => exact ⟨0, Nat.zero_le _, rfl, by rw [lvB_zero]; exact blk_new _ _, below_new _ _⟩
  case round =>
    obtain ⟨k, hk, rfl, hblk, hb⟩ := hrel
    have HB := Lib.hid hb
    by_cases hlt : k < p.length
    · obtain ⟨b, off, rfl, hbb, hcell⟩ := sl_g (hs.below hb) (by omega)
      have h0 := hcell k hlt
      have i1 : (k : Int) < (p.length : Int) := by omega
      have ht := HT.out k hlt
      have hln := lvB_len p k
      have hlb := hb.size
      have HL := Lib.hid (lvB_set p k)
      have f0 := blk_free hblk k
      have hset := its_set hblk k 1
      have HS := Lib.hid hset
      have f1 := blk_free hset k
      clear hcell hb hs
      by_cases z : k = 0
      · rw [if_pos z] at ht
        have hd : dep p (k : Int) = 1 := by rw [z]; exact dep_root HT.out (by omega)
        rw [hd] at HL
        rw [ht] at h0
        have c0 := its_cell hblk (i := k) (by omega)
        clear z hset hblk ht hd f1
        generalize (lvB p k).getD k 0 = y0 at *
        go_wp2_with fail
        go_roundw
        case rel => exact ⟨k + 1, by omega, by go_num, by rw [HL.out]; exact HS.out, HB.out.setCell (p := ⟨w.heap.size, k, none⟩) (Nat.le_refl _) _⟩
        case measure => simp [intOf]; omega
      · rw [if_neg z] at ht
        obtain ⟨u, hu⟩ : ∃ u : Nat, p.getD k 0 = (u : Int) := ⟨(p.getD k 0).toNat, by omega⟩
        have hd := dep_step HT.out hlt z
        have hle := dep_le p (u : Int)
        rw [hu] at ht h0 hd
        rw [hd] at HL
        have c0 := its_cell hblk (i := k) (by omega)
        have c1 := its_cell hset (i := u) (by rw [List.length_set]; omega)
        have e1 : ((lvB p k).set k 1).getD u 0 = (dep p (u : Int) : Int) := by
          rw [← lvB_at (p := p) (k := k) (v := u) (by omega) (by omega)]
          simp only [List.getD_eq_getElem?_getD]
          rw [List.getElem?_set_ne (by omega)]
        rw [e1] at c1
        have HS2 := Lib.hid (its_set hset k ((dep p (u : Int) : Int) + 1))
        have i2 : (0 : Int) ≤ (u : Int) := by omega
        have hun : u < p.length := by omega
        clear z hset hblk ht hd e1
        generalize (lvB p k).getD k 0 = y0 at *
        generalize dep p (u : Int) = d at *
        go_wp2_with fail
        go_roundw
        case rel => exact ⟨k + 1, by omega, by go_num, by rw [HL.out]; have := HS2.out; rw [List.set_set] at this; exact this, (HB.out.setCell (p := ⟨w.heap.size, k, none⟩) (Nat.le_refl _) _).setCell (p := ⟨w.heap.size, k, none⟩) (Nat.le_refl _) _⟩
        case measure => simp [intOf]; omega
    · obtain rfl : k = p.length := by omega
      have i1 : ¬ (p.length : Int) < (p.length : Int) := by omega
      have HK := Lib.hid hblk
      clear hblk hb
      go_wp2_with fail
      go_ret
      exact ⟨rfl, HK.out, HB.out⟩
theorem frame22 {a : Act} (h : a.tmps.size = 22) (hd : a.defers = []) : ∃ u : Nat → Value, a = { tmps := #[u 0, u 1, u 2, u 3, u 4, u 5, u 6, u 7, u 8, u 9, u 10, u 11, u 12, u 13, u 14, u 15, u 16, u 17, u 18, u 19, u 20, u 21], defers := [] } ∧ ∀ n, a.tmps.getD n undef = u n := by
  refine ⟨fun n => a.tmps.getD n undef, ?_, fun _ => rfl⟩
  have h1 := arr_lit a.tmps h
  cases a with
  | mk t d =>
    simp only at hd h1
    subst hd
    congr 1
def LvJ (p : List Int) (w0 w1 : World) (a : Act) (w' : World) : Prop :=
  a.tmps.size = 22 ∧ a.defers = [] ∧ a.tmps.getD 7 undef = .slice (some ⟨w0.heap.size, 0, none⟩) p.length p.length ∧ a.tmps.getD 8 undef = .int .i64 (p.length : Int) ∧ ∃ (k : Nat) (v : Value), a.tmps.getD 3 undef = v ∧ a.tmps.getD 9 undef = .int .i64 (k : Int) ∧ k ≤ p.length ∧
    w'.ownsRow w1.heap.size 3 1 v (lvK p k).length ((lvK p k).map (Value.int .i64)) ∧ Below w1.heap.size w1 w'
theorem own_base {w : World} {base base' : Nat} {e : TypeId} {size : Nat} {v : Value} {n : Nat} {xs : List Value} (h : w.ownsRow base e size v n xs) (hb : base' ≤ base) : w.ownsRow base' e size v n xs :=
  ⟨h.1, h.2.imp id fun ⟨g, cap, cur, a, b, r⟩ => ⟨g, cap, cur, a, Nat.le_trans hb b, r⟩⟩
set_option maxRecDepth 100000 in
set_option maxHeartbeats 4000000 in
theorem leaves_own (p : List Int) (A : Option Addr) (cap : Nat) (w : World) (hm : p.length ≤ 1000) (ht : treeP p) (hs : Sl w w.heap.size A (p.flatMap decI)) :
    Calls Tryz.prog 47 #[.slice A p.length cap] w fun e w' => ∃ v, e = .returned v ∧ w'.ownsRow w.heap.size 3 1 v (lvs p).length ((lvs p).map (Value.int .i64)) ∧ Below w.heap.size w w' := by
  have HI := Lib.hid (inner_any p A cap w hm ht hs)
  clear ht hs
  go_enter Tryz.func47, Tryz.ntmps47
  go_wp2_with fail
  refine HI.out.mono ?_
  rintro e w1 ⟨rfl, hblk, b1⟩
  have HB1 := Lib.hid b1
  have HBLK := Lib.hid hblk
  have hl0 := lt_of_blk hblk
  clear b1 hblk
  go_wp2_with fail
  refine wp_loop (LvJ p w w1) (fun a' _ => p.length - (intOf (a'.tmps.getD 9 undef)).toNat) ?_ ?_
  · exact ⟨rfl, rfl, rfl, rfl, 0, _, rfl, rfl, Nat.zero_le _, World.ownsRow_nil _ _ _ _, Below.refl _ _⟩
  · rintro a' w' ⟨hsz, hdf, s7, s8, k, v, s3, s9, hk, hown, hbel⟩
    obtain ⟨u, rfl, hu⟩ := frame22 hsz hdf
    rw [hu] at s3 s7 s8 s9
    simp only [s3, s7, s8, s9]
    clear hsz hdf s3 s7 s8 s9 hu
    have HB := Lib.hid hbel
    by_cases hlt : k < p.length
    · have i1 : (k : Int) < (p.length : Int) := by omega
      have hblk := (hbel.block w.heap.size hl0).trans HBLK.out
      have c0 := bls_cell hblk (i := k) (by rw [inB_len]; exact hlt)
      rw [inB_at hlt] at c0
      have HK := Lib.hid (lvK_succ p k)
      have hll := lvK_len p k
      have hwq := hbel.size
      clear hblk hbel
      by_cases hin : (k : Int) ∈ p
      · rw [if_pos hin] at HK
        rw [decide_eq_true hin] at c0
        have HO := Lib.hid hown
        clear hin hown
        go_wp2_with fail
        go_roundw
        case rel => exact ⟨rfl, rfl, rfl, rfl, k + 1, v, rfl, by go_num, by omega, by rw [HK.out]; exact HO.out, HB.out⟩
        case measure => simp [intOf]; omega
      · rw [if_neg hin] at HK
        rw [decide_eq_false hin] at c0
        have hown1 := hown
        clear hin hown
        go_wp2_with (at_builtin; refine wpList_append1 (.tmp 16) (.tmp 18) 31 3 _ 1 8 rfl rfl Tryz.underlying31 infoI rfl (by decide) w1.heap.size _ _ _ _ _ _ _ _ hown1 rfl rfl ?cgL rfl ?d1L ?d2L ?d3L ?d4L ?ckL; case' ckL => intro v' w2 hown2 hb2 _)
        case cgL => first | rfl | simp
        case d1L => simp [Value.oneCell']
        case d2L => simp only [maxLen]; omega
        case d3L => omega
        case d4L => omega
        go_wp2_with fail
        go_roundw
        case rel => exact ⟨rfl, rfl, rfl, rfl, k + 1, v', rfl, by go_num, by omega, by rw [HK.out]; simpa using hown2, HB.out.trans hb2⟩
        case measure => simp [intOf]; omega
    · obtain rfl : k = p.length := by omega
      have i1 : ¬ (p.length : Int) < (p.length : Int) := by omega
      have HO := Lib.hid (own_base hown HB1.out.size)
      clear hown hbel
      go_wp2_with fail
      go_ret
      exact ⟨v, rfl, HO.out, nx HB1.out HB.out⟩
theorem leaves_row (p : List Int) (A : Option Addr) (cap : Nat) (w : World) (hm : p.length ≤ 1000) (hn : 0 < p.length) (ht : treeP p) (hs : Sl w w.heap.size A (p.flatMap decI)) :
    Calls Tryz.prog 47 #[.slice A p.length cap] w fun e w' => ∃ g c, e = .returned (.slice (some ⟨g, 0, none⟩) (lvs p).length c) ∧ w.heap.size ≤ g ∧ g < w'.heap.size ∧ (∀ j, j < (lvs p).length → w'.cell? ⟨g, j, none⟩ = some (.int .i64 ((lvs p).getD j 0))) ∧ Below w.heap.size w w' := by
  refine (leaves_own p A cap w hm ht hs).mono ?_
  rintro e w' ⟨v, rfl, h1, h2⟩
  have hl : 0 < (lvs p).length := List.length_pos_iff.2 (lvs_ne ht hn)
  obtain ⟨A2, c2, rfl, _, _, hs2⟩ := own_slice h1
  have hs3 : Sl w' w'.heap.size A2 ((lvs p).flatMap decI) := by rw [Ara.flatI]; exact hs2
  rcases h1.2 with ⟨_, h4⟩ | ⟨g, cp, cur, h3, hg, hbk, rest⟩
  · omega
  · injection h3 with h3 _ h5
    subst h3
    obtain ⟨b, off, e, hb, hcell⟩ := sl_g hs3 hl
    injection e with e
    injection e with e1 e2
    subst e1 e2
    exact ⟨g, c2, rfl, hg, hb, fun j hj => by have := hcell j hj; rwa [Nat.zero_add] at this, h2⟩
end Go.Proofs.YtfnmggmgdmokcaaGreatDoor.Tp

/- Package slices: Index and Contains over numbers. -/
namespace Go.Proofs.YtfnmggmgdmokcaaGreatDoor.Tp
open Go.RowKit Go.Proofs.YtfnmggmgdmokcaaGreatDoor.Ara

def idxF (x : Int) : List Int → Nat → Int
  | [], _ => -1
  | y :: r, n => if y = x then (n : Int) else idxF x r (n + 1)
def idxI (l : List Int) (x : Int) : Int := idxF x l 0
theorem idxF_hit {x : Int} : ∀ {l : List Int} {j n : Nat}, j < l.length → l.getD j 0 = x → (∀ v, v < j → l.getD v 0 ≠ x) → idxF x l n = ((n + j : Nat) : Int) := by
  intro l
  induction l with
  | nil => intro j n hj; simp at hj
  | cons y r ih =>
    intro j n hj h hn
    unfold idxF
    cases j with
    | zero =>
      have : y = x := by simpa using h
      rw [if_pos this, Nat.add_zero]
    | succ j =>
      have h0 : y ≠ x := by simpa using hn 0 (by omega)
      rw [if_neg h0, ih (j := j) (by simpa using hj) (by simpa using h) (fun v hv => by simpa using hn (v + 1) (by omega))]
      congr 1
      omega
theorem idxF_miss {x : Int} : ∀ {l : List Int} {n : Nat}, (∀ v, v < l.length → l.getD v 0 ≠ x) → idxF x l n = -1 := by
  intro l
  induction l with
  | nil => intro n _; rfl
  | cons y r ih =>
    intro n hn
    unfold idxF
    have h0 : y ≠ x := by simpa using hn 0 (by simp)
    rw [if_neg h0, ih (fun v hv => by simpa using hn (v + 1) (by simpa using hv))]
theorem idx_hit {l : List Int} {x : Int} {j : Nat} (hj : j < l.length) (h : l.getD j 0 = x) (hn : ∀ v, v < j → l.getD v 0 ≠ x) : idxI l x = j := by
  unfold idxI
  rw [idxF_hit hj h hn, Nat.zero_add]
theorem idx_miss {l : List Int} {x : Int} (hn : ∀ v, v < l.length → l.getD v 0 ≠ x) : idxI l x = -1 := idxF_miss hn
theorem idxF_mem {x : Int} : ∀ {l : List Int} {n : Nat}, 0 ≤ idxF x l n ↔ x ∈ l := by
  intro l
  induction l with
  | nil => intro n; simp [idxF]
  | cons y r ih =>
    intro n
    unfold idxF
    by_cases h : y = x
    · rw [if_pos h]
      simp [h]
    · rw [if_neg h, ih, List.mem_cons]
      exact ⟨.inr, fun h1 => h1.resolve_left fun e => h e.symm⟩
theorem idx_ge {l : List Int} {x : Int} : decide (0 ≤ idxI l x) = decide (x ∈ l) := decide_eq_decide.2 idxF_mem
theorem idx_at {x : Int} : ∀ {l : List Int} {n : Nat}, x ∈ l → ∃ j : Nat, j < l.length ∧ idxF x l n = ((n + j : Nat) : Int) ∧ l.getD j 0 = x := by
  intro l
  induction l with
  | nil => intro n h; simp at h
  | cons y r ih =>
    intro n h
    unfold idxF
    by_cases e : y = x
    · exact ⟨0, by simp, by rw [if_pos e, Nat.add_zero], by simpa using e⟩
    · obtain ⟨j, h1, h2, h3⟩ := ih (n := n + 1) ((List.mem_cons.1 h).resolve_left fun e9 => e e9.symm)
      refine ⟨j + 1, by simpa using h1, ?_, by simpa using h3⟩
      rw [if_neg e, h2]
      congr 1
      omega
theorem index_any (l : List Int) (b off c : Nat) (x : Int) (w : World) (hm : l.length ≤ 1000) (hc : ∀ j, j < l.length → w.cell? ⟨b, off + j, none⟩ = some (.int .i64 (l.getD j 0))) :
    Calls Tryz.prog 64 #[.slice (some ⟨b, off, none⟩) l.length c, .int .i64 x] w fun e w' => e = .returned (.int .i64 (idxI l x)) ∧ w' = w := by
  have HT := Lib.hid (fun j (hj : j < l.length) (h : l.getD j 0 = x) (hn : ∀ v, v < j → l.getD v 0 ≠ x) => idx_hit hj h hn)
  have HF := Lib.hid (fun h : ∀ v, v < l.length → l.getD v 0 ≠ x => idx_miss h)
  have HC := Lib.hid hc
  clear hc
  go_enter Tryz.func64, Tryz.ntmps64
  go_wp2_with fail
  go_loopw [8] (fun i wr => ∃ j : Nat, j ≤ l.length ∧ i = .int .i64 (j : Int) ∧ (∀ v, v < j → l.getD v 0 ≠ x) ∧ wr = w) (fun i _ => l.length - (intOf i).toNat)
  case atStart => exact ⟨0, Nat.zero_le _, rfl, fun v hv => absurd hv (Nat.not_lt_zero v), rfl⟩
  case round =>
    obtain ⟨j, hj, rfl, hgood, rfl⟩ := hrel
    by_cases hlt : j < l.length
    · have h0 := HC.out j hlt
      have i1 : (j : Int) < (l.length : Int) := by omega
      by_cases he : l.getD j 0 = x
      · have HN := Lib.hid (HT.out j hlt he hgood)
        have hq := ibeq he.symm
        clear HT HF hgood he
        generalize l.getD j 0 = y at *
        go_wp2_with fail
        go_ret
        exact ⟨by rw [HN.out]; rfl, rfl⟩
      · have HN := Lib.hid (show ∀ v, v < j + 1 → l.getD v 0 ≠ x from fun v hv => by
          by_cases e : v = j
          · subst e; exact he
          · exact hgood v (by omega))
        have hq := ibeq_no (fun e : x = l.getD j 0 => he e.symm)
        clear HT HF hgood he
        generalize l.getD j 0 = y at *
        go_wp2_with fail
        go_roundw
        case rel => exact ⟨j + 1, by omega, by go_num, HN.out, trivial⟩
        case measure => simp [intOf]; omega
    · obtain rfl : j = l.length := by omega
      have HN := Lib.hid (HF.out hgood)
      have i1 : ¬ (l.length : Int) < (l.length : Int) := by omega
      clear HT HF hgood
      go_wp2_with fail
      go_ret
      exact ⟨by rw [HN.out]; rfl, rfl⟩
theorem cont_any (b off : Nat) (l : List Int) (c : Nat) (x : Int) (w : World) (hm : l.length ≤ 1000) (hc : ∀ j, j < l.length → w.cell? ⟨b, off + j, none⟩ = some (.int .i64 (l.getD j 0))) :
    Calls Tryz.prog 51 #[.slice (some ⟨b, off, none⟩) l.length c, .int .i64 x] w fun e w' => e = .returned (.bool (decide (x ∈ l))) ∧ w' = w := by
  have HI := Lib.hid (index_any l b off c x w hm hc)
  have HD := Lib.hid (idx_ge (l := l) (x := x))
  clear hc
  generalize idxI l x = r at *
  generalize decide (x ∈ l) = q at *
  go_enter Tryz.func51, Tryz.ntmps51
  go_wp2_with fail
  refine (HI.out).mono ?_
  rintro e wx ⟨rfl, hwx⟩
  obtain rfl := hwx.symm
  go_wp2_with fail
  go_ret
  exact ⟨by rw [← HD.out]; rfl, rfl⟩
end Go.Proofs.YtfnmggmgdmokcaaGreatDoor.Tp

/- Walks of layer 6: the closures, IndexFunc, ContainsFunc, Equal, Same. -/
namespace Go.Proofs.YtfnmggmgdmokcaaGreatDoor.Tp
open Go.RowKit Go.Proofs.YtfnmggmgdmokcaaGreatDoor.Li Go.Proofs.YtfnmggmgdmokcaaGreatDoor.De Go.Proofs.YtfnmggmgdmokcaaGreatDoor.Ara

theorem chk1_any (E : List Int) (g b off c : Nat) (x : Int) (w : World) (hm : E.length ≤ 1000) (hg : w.cell? ⟨g, 0, none⟩ = some (.slice (some ⟨b, off, none⟩) E.length c))
    (hc : ∀ j, j < E.length → w.cell? ⟨b, off + j, none⟩ = some (.int .i64 (E.getD j 0))) :
    Calls Tryz.prog 50 #[.int .i64 x, .pointer (some ⟨g, 0, none⟩)] w fun e w' => e = .returned (.bool (!decide (x ∈ E))) ∧ w' = w := by
  have hC := cont_any b off E c x w hm hc
  have HC := Lib.hid hC
  clear hC hc
  generalize decide (x ∈ E) = r at *
  go_enter Tryz.func50, Tryz.ntmps50
  go_wp2_with fail
  refine (HC.out).mono ?_
  rintro e wx ⟨rfl, hwx⟩
  obtain rfl := hwx.symm
  go_wp2_with fail
  go_ret
  exact ⟨rfl, rfl⟩
def anyF (f : Int → Bool) (t : List Int) : Bool := t.any f
theorem any_yes {f : Int → Bool} {t : List Int} {j : Nat} (hj : j < t.length) (h : f (t.getD j 0) = true) : anyF f t = true := List.any_eq_true.2 ⟨_, getD_mem hj, h⟩
theorem any_no {f : Int → Bool} {t : List Int} (h : ∀ v, v < t.length → f (t.getD v 0) = false) : anyF f t = false := by
  unfold anyF
  rw [List.any_eq_false]
  intro x hx
  obtain ⟨v, hv, e⟩ := mem_getD hx
  rw [← e, h v hv]
  simp
def nin (E : List Int) (x : Int) : Bool := !decide (x ∈ E)
def lt1 (x : Int) : Bool := decide (x < 1)
set_option maxRecDepth 100000 in
theorem ixC_any (E t : List Int) (A : Option Addr) (cap g b off c : Nat) (w : World) (hm : E.length ≤ 1000) (htl : t.length ≤ 1000) (hs : Sl w w.heap.size A (t.flatMap decI)) (hg : w.cell? ⟨g, 0, none⟩ = some (.slice (some ⟨b, off, none⟩) E.length c))
    (hc : ∀ j, j < E.length → w.cell? ⟨b, off + j, none⟩ = some (.int .i64 (E.getD j 0))) :
    Calls Tryz.prog 63 #[.slice A t.length cap, .func (.func 50) #[] #[.pointer (some ⟨g, 0, none⟩)]] w fun e w' => (∃ i : Int, e = .returned (.int .i64 i) ∧ decide (0 ≤ i) = anyF (nin E) t) ∧ w' = w := by
  have HCL := Lib.hid (fun x => chk1_any E g b off c x w hm hg hc)
  obtain ⟨f, hf0⟩ : ∃ f, nin E = f := ⟨_, rfl⟩
  have HCL : Hid (∀ x, Calls Tryz.prog 50 #[.int .i64 x, .pointer (some ⟨g, 0, none⟩)] w fun e w' => e = .returned (.bool (f x)) ∧ w' = w) := Lib.hid (fun x => by rw [← hf0]; exact HCL.out x)
  rw [hf0]
  clear hf0 hg hc
  have HT := Lib.hid (fun j (hj : j < t.length) (h : f (t.getD j 0) = true) => any_yes hj h)
  have HF := Lib.hid (fun h : ∀ v, v < t.length → f (t.getD v 0) = false => any_no h)
  go_enter Tryz.func63, Tryz.ntmps63
  go_wp2_with fail
  go_loopw [8] (fun i wr => ∃ j : Nat, j ≤ t.length ∧ i = .int .i64 (j : Int) ∧ (∀ v, v < j → f (t.getD v 0) = false) ∧ wr = w) (fun i _ => t.length - (intOf i).toNat)
  case atStart => exact ⟨0, Nat.zero_le _, rfl, fun v hv => absurd hv (Nat.not_lt_zero v), rfl⟩
  case round =>
    obtain ⟨j, hj, rfl, hgood, rfl⟩ := hrel
    by_cases hlt : j < t.length
    · obtain ⟨b', off', rfl, hbb, hcell⟩ := sl_g hs (by omega)
      have h0 := hcell j hlt
      have i1 : (j : Int) < (t.length : Int) := by omega
      have HY := Lib.hid (HT.out j hlt)
      have HGOOD := Lib.hid (show f (t.getD j 0) = false → ∀ v, v < j + 1 → f (t.getD v 0) = false from fun h v hv => by
        by_cases e : v = j
        · subst e; exact h
        · exact hgood v (by omega))
      have hC := HCL.out (t.getD j 0)
      clear hcell HT HF hgood hs HCL
      generalize t.getD j 0 = y at *
      cases hf : f y with
      | true =>
        rw [hf] at hC
        have HC := Lib.hid hC
        have HN := Lib.hid (HY.out hf)
        clear hf hC HY HGOOD
        go_wp2_with fail
        refine (HC.out).mono ?_
        rintro e wx ⟨rfl, hwx⟩
        obtain rfl := hwx.symm
        go_wp2_with fail
        go_ret
        exact ⟨⟨(j : Int), rfl, by rw [HN.out]; exact decide_eq_true (by omega)⟩, rfl⟩
      | false =>
        rw [hf] at hC
        have HC := Lib.hid hC
        have HN := Lib.hid (HGOOD.out hf)
        clear hf hC HY HGOOD
        go_wp2_with fail
        refine (HC.out).mono ?_
        rintro e wx ⟨rfl, hwx⟩
        obtain rfl := hwx.symm
        go_wp2_with fail
        go_roundw
        case rel => exact ⟨j + 1, by omega, by go_num, HN.out, trivial⟩
        case measure => simp [intOf]; omega
    · obtain rfl : j = t.length := by omega
      have HN := Lib.hid (HF.out hgood)
      have i1 : ¬ (t.length : Int) < (t.length : Int) := by omega
      clear HT HF hgood hs HCL
      go_wp2_with fail
      go_ret
      exact ⟨⟨-1, rfl, by rw [HN.out]; rfl⟩, rfl⟩
set_option maxRecDepth 100000 in
theorem cfC_any (E t : List Int) (A : Option Addr) (cap g b off c : Nat) (w : World) (hm : E.length ≤ 1000) (htl : t.length ≤ 1000) (hs : Sl w w.heap.size A (t.flatMap decI)) (hg : w.cell? ⟨g, 0, none⟩ = some (.slice (some ⟨b, off, none⟩) E.length c))
    (hc : ∀ j, j < E.length → w.cell? ⟨b, off + j, none⟩ = some (.int .i64 (E.getD j 0))) :
    Calls Tryz.prog 49 #[.slice A t.length cap, .func (.func 50) #[] #[.pointer (some ⟨g, 0, none⟩)]] w fun e w' => e = .returned (.bool (anyF (nin E) t)) ∧ w' = w := by
  have HI := Lib.hid (ixC_any E t A cap g b off c w hm htl hs hg hc)
  clear hs
  go_enter Tryz.func49, Tryz.ntmps49
  go_wp2_with fail
  refine HI.out.mono ?_
  rintro e wx ⟨⟨i, rfl, hi⟩, hwx⟩
  obtain rfl := hwx.symm
  by_cases h : 0 ≤ i
  · have HN := Lib.hid (decide_eq_true h)
    go_wp2_with fail
    go_ret
    exact ⟨by rw [← hi, HN.out]; rfl, rfl⟩
  · have HN := Lib.hid (decide_eq_false h)
    go_wp2_with fail
    go_ret
    exact ⟨by rw [← hi, HN.out]; rfl, rfl⟩
def Bx (w W : World) (x y : Value) : Prop := Below w.heap.size w W ∧ w.heap.size < W.heap.size ∧ W.cell? ⟨w.heap.size, 0, none⟩ = some x ∧ W.cell? ⟨w.heap.size, 1, none⟩ = some y
theorem Bx.made (w : World) (x y : Value) (T : TypeId) : Bx w (w.alloc (.cells #[x, y] T)) x y :=
  ⟨below_new _ _, by simp, blk_cell (blk_new w (.cells #[x, y] T)) 0 (by simp), blk_cell (blk_new w (.cells #[x, y] T)) 1 (by simp)⟩
theorem Bx.drewN {w W : World} {x y : Value} (h : Bx w W x y) (q : Nat) : Bx w (W.drewN q) x y := ⟨below_drewN h.1 q, h.2⟩
theorem Bx.step {w W V : World} {x y : Value} (h : Bx w W x y) (b : Below W.heap.size W V) : Bx w V x y :=
  ⟨nx h.1 b, Nat.lt_of_lt_of_le h.2.1 b.size, (b.cell (p := ⟨w.heap.size, 0, none⟩) h.2.1).trans h.2.2.1, (b.cell (p := ⟨w.heap.size, 1, none⟩) h.2.1).trans h.2.2.2⟩
theorem Bx.sl {w W : World} {x y : Value} (h : Bx w W x y) {A : Option Addr} {xs : List Value} (hs : Sl w w.heap.size A xs) : Sl W W.heap.size A xs := (hs.below h.1).more h.1.size
end Go.Proofs.YtfnmggmgdmokcaaGreatDoor.Tp

/- Walks of package budget and its reference, and of the law's awake. -/
namespace Go.Proofs.YtfnmggmgdmokcaaGreatDoor.Bud
open Go.RowKit

def inB (n a b : Int) : Bool := decide (a ≤ n) && decide (n ≤ b)
def right (b : Int) : Bool := inB b 0 1000
def longest (b : Int) : Int × Int := if right b then (b + 1, 0) else (0, 1)
def ahead (v b : Int) : Int × Int := if right b && inB v 1 32 then ((v - 1) * (b + 1), 0) else (0, 1)
def passes (c b : Int) (alone : Bool) : Bool := right b && inB c 1 b && !alone

theorem inB_iff {n a b : Int} : inB n a b = true ↔ a ≤ n ∧ n ≤ b := by simp [inB]
theorem right_iff {b : Int} : right b = true ↔ 0 ≤ b ∧ b ≤ 1000 := inB_iff
theorem in_any (n a b : Int) (w : World) :
    Calls Tryz.prog 29 #[.int .i64 n, .int .i64 a, .int .i64 b] w fun e w' => e = .returned (.bool (inB n a b)) ∧ w' = w := by
  unfold inB
  go_enter Tryz.func29, Tryz.ntmps29
  go_wp2
  all_goals go_ret
  all_goals exact ⟨by simp [*] <;> omega, rfl⟩

theorem right_any (b : Int) (w : World) :
    Calls Tryz.prog 17 #[.int .i64 b] w fun e w' => e = .returned (.bool (right b)) ∧ w' = w := by
  unfold right
  go_enter Tryz.func17, Tryz.ntmps17
  go_wp2_with (go_at_call 29; refine (in_any _ _ _ _).mono ?_; rintro e w' ⟨rfl, rfl⟩)
  go_ret
  exact ⟨rfl, rfl⟩

end Go.Proofs.YtfnmggmgdmokcaaGreatDoor.Bud

/- A region that draws: what holds of its worlds may be told anew behind an operation. -/
namespace Go.Proofs.YtfnmggmgdmokcaaGreatDoor
open Go.RowKit

theorem take_to {P : Program} {md : Region.Mode} {ops : Array Oper} {Q : Exit → Act → World → Prop} {S : World → Prop} (i : Nat) (d : Option Tmp) {oi : Oper} {v : Value} {fuel : Nat} {listed : Array Bool} {a : Act} {w : World} (hi : ops[i]? = some oi) (hd : oi.dst = d)
    (hs : Region.noSelect ops = true) (hf : Region.free md ops listed i = true) (hr : (Region.ready md ops listed).contains i = true)
    (hQ : ∀ c a w, Q (.panic c) (a.put d v) w → Q (.panic c) a w) (hy : YieldsIf P ops S oi v a) (hS : S w)
    (h : wpAnyH P md ops Q S fuel (listed.setIfInBounds i true) (a.put d v) w) : wpAnyH P md ops Q S (fuel + 1) listed a w := by
  subst hd
  exact wpAnyH_take hi hs hf hr hQ hy hS h
end Go.Proofs.YtfnmggmgdmokcaaGreatDoor

