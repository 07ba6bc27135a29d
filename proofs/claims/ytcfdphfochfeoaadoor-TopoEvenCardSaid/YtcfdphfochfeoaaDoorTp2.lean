/- Walks of layer 6: inner, levels, leaves. -/
import Derived.Test.YtcfdphfochfeoaaDoorTp1
import Derived.Test.YtcfdphfochfeoaaDoorDe7
import Derived.Deep.OwnRows
namespace Go.Proofs.YtcfdphfochfeoaaDoor.Tp
open Go.RowKit Go.Proofs.YtcfdphfochfeoaaDoor.Li Go.Proofs.YtcfdphfochfeoaaDoor.De Go.Proofs.YtcfdphfochfeoaaDoor.Ara

theorem infoB : (Tryd.prog.info? 4).map (fun i => (i.zero, i.size, i.bytes)) = some (some (.bool false), 1, 1) := by kernel_rfl
def bls (l : List Bool) : Array Value := (l.map Value.bool).toArray
def its (l : List Int) : Array Value := (l.map (Value.int .i64)).toArray
theorem made_bool (n : Nat) : madeCells #[.bool false] n = bls (List.replicate n false) := by
  apply Array.ext
  · simp [madeCells, bls]
  · intro i h1 h2
    simp [madeCells, bls, Nat.mod_one]
theorem made_int (n : Nat) : madeCells #[.int .i64 0] n = its (List.replicate n 0) := by
  apply Array.ext
  · simp [madeCells, its]
  · intro i h1 h2
    simp [madeCells, its, Nat.mod_one]
theorem make_bools (n : Nat) (h : n ≤ 65536) (W : World) : (Instr.makeSlice 131 (.int .i64 (n : Int)) (.int .i64 (n : Int))).run Tryd.prog W = .ok (.slice (some ⟨W.heap.size, 0, none⟩) n n) (W.alloc (.cells (bls (List.replicate n false)) 4)) := by
  rw [run_make_row' (P := Tryd.prog) 131 4 (.bool false) 1 Tryd.underlying131 infoB rfl .i64 .i64 n (by omega) (by omega) W, made_bool]
theorem make_ints (n : Nat) (h : n ≤ 65536) (W : World) : (Instr.makeSlice 41 (.int .i64 (n : Int)) (.int .i64 (n : Int))).run Tryd.prog W = .ok (.slice (some ⟨W.heap.size, 0, none⟩) n n) (W.alloc (.cells (its (List.replicate n 0)) 3)) := by
  rw [run_make_row' (P := Tryd.prog) 41 3 (.int .i64 0) 8 Tryd.underlying41 infoI rfl .i64 .i64 n (by omega) (by omega) W, made_int]
theorem bls_cell {w : World} {g : Nat} {l : List Bool} (h : w.heap[g]? = some (.cells (bls l) 4 (0, 0))) {i : Nat} (hi : i < l.length) : w.cell? ⟨g, i, none⟩ = some (.bool (l.getD i false)) := by
  rw [blk_cell h i (by simpa [bls] using hi)]
  simp [bls, hi]
theorem its_cell {w : World} {g : Nat} {l : List Int} (h : w.heap[g]? = some (.cells (its l) 3 (0, 0))) {i : Nat} (hi : i < l.length) : w.cell? ⟨g, i, none⟩ = some (.int .i64 (l.getD i 0)) := by
  rw [blk_cell h i (by simpa [its] using hi)]
  simp [its, hi]
theorem bls_set {w : World} {g : Nat} {l : List Bool} (h : w.heap[g]? = some (.cells (bls l) 4 (0, 0))) (i : Nat) (b : Bool) : (w.setCell ⟨g, i, none⟩ (.bool b)).heap[g]? = some (.cells (bls (l.set i b)) 4 (0, 0)) := by
  rw [blk_set h i (.bool b)]
  simp [bls, List.map_set]
theorem its_set {w : World} {g : Nat} {l : List Int} (h : w.heap[g]? = some (.cells (its l) 3 (0, 0))) (i : Nat) (b : Int) : (w.setCell ⟨g, i, none⟩ (.int .i64 b)).heap[g]? = some (.cells (its (l.set i b)) 3 (0, 0)) := by
  rw [blk_set h i (.int .i64 b)]
  simp [its, List.map_set]
/-- Which places are somebody's parents, among the first k. -/
def inB (p : List Int) (k : Nat) : List Bool := (List.range p.length).map fun v : Nat => decide ((v : Int) ∈ p.take k)
theorem inB_len (p : List Int) (k : Nat) : (inB p k).length = p.length := by simp [inB]
theorem inB_zero (p : List Int) : inB p 0 = List.replicate p.length false := by
  apply List.ext_getElem
  · simp [inB]
  · intro i h1 h2; simp [inB]
theorem take_g {p : List Int} {k : Nat} (hk : k < p.length) : p.take (k + 1) = p.take k ++ [p.getD k 0] := by
  rw [List.take_succ_eq_append_getElem hk, List.getD_eq_getElem?_getD, List.getElem?_eq_getElem hk]
  rfl
theorem inB_neg {p : List Int} {k : Nat} (hk : k < p.length) (h : p.getD k 0 < 0) : inB p (k + 1) = inB p k := by
  unfold inB
  rw [take_g hk]
  apply List.map_congr_left
  intro v hv
  have : ¬ ((v : Int) = p.getD k 0) := by omega
  generalize p.getD k 0 = y at *
  simp [this]
theorem inB_set {p : List Int} {k u : Nat} (hk : k < p.length) (h : p.getD k 0 = (u : Int)) : inB p (k + 1) = (inB p k).set u true := by
  unfold inB
  rw [take_g hk, h]
  apply List.ext_getElem
  · simp
  · intro i h1 h2
    simp only [List.getElem_map, List.getElem_range, List.getElem_set, List.mem_append, List.mem_singleton]
    by_cases e : u = i
    · subst e; simp
    · have : ¬ ((i : Int) = (u : Int)) := by omega
      simp [e, this]
theorem inB_at {p : List Int} {v : Nat} (h : v < p.length) : (inB p p.length).getD v false = decide ((v : Int) ∈ p) := by
  unfold inB
  rw [List.take_length, List.getD_eq_getElem?_getD]
  simp [h]
set_option maxRecDepth 100000 in
set_option maxHeartbeats 2000000 in
theorem inner_any (p : List Int) (A : Option Addr) (cap : Nat) (w : World) (hm : p.length ≤ 1000) (ht : treeP p) (hs : Sl w w.heap.size A (p.flatMap decI)) :
    Calls Tryd.prog 117 #[.slice A p.length cap] w fun e w' => e = .returned (.slice (some ⟨w.heap.size, 0, none⟩) p.length p.length) ∧ w'.heap[w.heap.size]? = some (.cells (bls (inB p p.length)) 4 (0, 0)) ∧ Below w.heap.size w w' := by
  have hmk := fun W => make_bools p.length (by omega) W
  have HT := Lib.hid ht
  clear ht
  go_enter Tryd.func117, Tryd.ntmps117
  go_wp2_with fail
  clear hmk
  go_loopw [11] (fun i wr => ∃ k : Nat, k ≤ p.length ∧ i = .int .i64 (k : Int) ∧ wr.heap[w.heap.size]? = some (.cells (bls (inB p k)) 4 (0, 0)) ∧ Below w.heap.size w wr) (fun i _ => p.length - (intOf i).toNat)
  case atStart => exact ⟨0, Nat.zero_le _, rfl, by rw [inB_zero]; exact blk_new _ _, below_new _ _⟩
  case round =>
    obtain ⟨k, hk, rfl, hblk, hb⟩ := hrel
    have HB := Lib.hid hb
    by_cases hlt : k < p.length
    · obtain ⟨b, off, rfl, hbb, hcell⟩ := sl_g (hs.below hb) (by omega)
      have h0 := hcell k hlt
      have i1 : (k : Int) < (p.length : Int) := by omega
      have ht := HT.out k hlt
      have HN := Lib.hid (fun h => inB_neg hlt h)
      have HP := Lib.hid (fun u h => inB_set (u := u) hlt h)
      have hln := inB_len p k
      have hlb := hb.size
      clear hcell hb hs
      by_cases h1 : p.getD k 0 < 0
      · have HN2 := Lib.hid (HN.out h1)
        have i2 : ¬ 0 ≤ p.getD k 0 := by omega
        clear HP ht HN
        generalize p.getD k 0 = y at *
        have HK := Lib.hid hblk
        clear hblk
        go_wp2_with fail
        go_roundw
        case rel => exact ⟨k + 1, by omega, by go_num, by rw [HN2.out]; exact HK.out, HB.out⟩
        case measure => simp [intOf]; omega
      · obtain ⟨u, hu⟩ : ∃ u : Nat, p.getD k 0 = (u : Int) := ⟨(p.getD k 0).toNat, by omega⟩
        have hun : u < p.length := by
          rw [hu] at ht
          split at ht <;> omega
        have HP2 := Lib.hid (HP.out u hu)
        clear HN ht HP
        rw [hu] at h0
        generalize p.getD k 0 = y at *
        subst hu
        have i2 : (0 : Int) ≤ (u : Int) := by omega
        have c0 := bls_cell hblk (i := u) (by omega)
        have f0 := blk_free hblk u
        have HS := Lib.hid (bls_set hblk u true)
        clear hblk
        generalize inB p k = bb at *
        go_wp2_with fail
        go_roundw
        case rel => exact ⟨k + 1, by omega, by go_num, by rw [HP2.out]; exact HS.out, HB.out.setCell (p := ⟨w.heap.size, u, none⟩) (Nat.le_refl _) _⟩
        case measure => simp [intOf]; omega
    · obtain rfl : k = p.length := by omega
      have i1 : ¬ (p.length : Int) < (p.length : Int) := by omega
      have HK := Lib.hid hblk
      clear hblk hb
      go_wp2_with fail
      go_ret
      exact ⟨rfl, HK.out, HB.out⟩
def lvB (p : List Int) (k : Nat) : List Int := (List.range p.length).map fun v : Nat => if v < k then (dep p (v : Int) : Int) else 0
theorem lvB_len (p : List Int) (k : Nat) : (lvB p k).length = p.length := by simp [lvB]
theorem lvB_zero (p : List Int) : lvB p 0 = List.replicate p.length 0 := by
  apply List.ext_getElem
  · simp [lvB]
  · intro i h1 h2; simp [lvB]
theorem lvB_set (p : List Int) (k : Nat) : lvB p (k + 1) = (lvB p k).set k (dep p (k : Int) : Int) := by
  unfold lvB
  apply List.ext_getElem
  · simp
  · intro i h1 h2
    simp only [List.getElem_map, List.getElem_range, List.getElem_set]
    by_cases e : k = i
    · subst e; rw [if_pos (by omega), if_pos rfl]
    · rw [if_neg e]
      by_cases e2 : i < k
      · rw [if_pos (by omega), if_pos e2]
      · rw [if_neg (by omega), if_neg e2]
theorem lvB_at {p : List Int} {k v : Nat} (h : v < p.length) (hk : v < k) : (lvB p k).getD v 0 = (dep p (v : Int) : Int) := by
  unfold lvB
  rw [List.getD_eq_getElem?_getD]
  simp [h, hk]
set_option maxRecDepth 100000 in
set_option maxHeartbeats 2000000 in
theorem levels_any (p : List Int) (A : Option Addr) (cap : Nat) (w : World) (hm : p.length ≤ 1000) (ht : treeP p) (hs : Sl w w.heap.size A (p.flatMap decI)) :
    Calls Tryd.prog 99 #[.slice A p.length cap] w fun e w' => e = .returned (.slice (some ⟨w.heap.size, 0, none⟩) p.length p.length) ∧ w'.heap[w.heap.size]? = some (.cells (its (lvB p p.length)) 3 (0, 0)) ∧ Below w.heap.size w w' := by
  have hmk := fun W => make_ints p.length (by omega) W
  have HT := Lib.hid ht
  clear ht
  go_enter Tryd.func99, Tryd.ntmps99
  go_wp2_with fail
  clear hmk
  go_loopw [11] (fun i wr => ∃ k : Nat, k ≤ p.length ∧ i = .int .i64 (k : Int) ∧ wr.heap[w.heap.size]? = some (.cells (its (lvB p k)) 3 (0, 0)) ∧ Below w.heap.size w wr) (fun i _ => p.length - (intOf i).toNat)
  case atStart => exact ⟨0, Nat.zero_le _, rfl, by rw [lvB_zero]; exact blk_new _ _, below_new _ _⟩
  case round =>
    obtain ⟨k, hk, rfl, hblk, hb⟩ := hrel
    have HB := Lib.hid hb
    by_cases hlt : k < p.length
    · obtain ⟨b, off, rfl, hbb, hcell⟩ := sl_g (hs.below hb) (by omega)
      have h0 := hcell k hlt
      have i1 : (k : Int) < (p.length : Int) := by omega
      have ht := HT.out k hlt
      have hln := lvB_len p k
      have hlb := hb.size
      have HL := Lib.hid (lvB_set p k)
      have f0 := blk_free hblk k
      have hset := its_set hblk k 1
      have HS := Lib.hid hset
      have f1 := blk_free hset k
      clear hcell hb hs
      by_cases z : k = 0
      · rw [if_pos z] at ht
        have hd : dep p (k : Int) = 1 := by rw [z]; exact dep_root HT.out (by omega)
        rw [hd] at HL
        rw [ht] at h0
        have c0 := its_cell hblk (i := k) (by omega)
        clear z hset hblk ht hd f1
        generalize (lvB p k).getD k 0 = y0 at *
        go_wp2_with fail
        go_roundw
        case rel => exact ⟨k + 1, by omega, by go_num, by rw [HL.out]; exact HS.out, HB.out.setCell (p := ⟨w.heap.size, k, none⟩) (Nat.le_refl _) _⟩
        case measure => simp [intOf]; omega
      · rw [if_neg z] at ht
        obtain ⟨u, hu⟩ : ∃ u : Nat, p.getD k 0 = (u : Int) := ⟨(p.getD k 0).toNat, by omega⟩
        have hd := dep_step HT.out hlt z
        have hle := dep_le p (u : Int)
        rw [hu] at ht h0 hd
        rw [hd] at HL
        have c0 := its_cell hblk (i := k) (by omega)
        have c1 := its_cell hset (i := u) (by rw [List.length_set]; omega)
        have e1 : ((lvB p k).set k 1).getD u 0 = (dep p (u : Int) : Int) := by
          rw [← lvB_at (p := p) (k := k) (v := u) (by omega) (by omega)]
          simp only [List.getD_eq_getElem?_getD]
          rw [List.getElem?_set_ne (by omega)]
        rw [e1] at c1
        have HS2 := Lib.hid (its_set hset k ((dep p (u : Int) : Int) + 1))
        have i2 : (0 : Int) ≤ (u : Int) := by omega
        have hun : u < p.length := by omega
        clear z hset hblk ht hd e1
        generalize (lvB p k).getD k 0 = y0 at *
        generalize dep p (u : Int) = d at *
        go_wp2_with fail
        go_roundw
        case rel => exact ⟨k + 1, by omega, by go_num, by rw [HL.out]; have := HS2.out; rw [List.set_set] at this; exact this, (HB.out.setCell (p := ⟨w.heap.size, k, none⟩) (Nat.le_refl _) _).setCell (p := ⟨w.heap.size, k, none⟩) (Nat.le_refl _) _⟩
        case measure => simp [intOf]; omega
    · obtain rfl : k = p.length := by omega
      have i1 : ¬ (p.length : Int) < (p.length : Int) := by omega
      have HK := Lib.hid hblk
      clear hblk hb
      go_wp2_with fail
      go_ret
      exact ⟨rfl, HK.out, HB.out⟩
theorem frame22 {a : Act} (h : a.tmps.size = 22) (hd : a.defers = []) : ∃ u : Nat → Value, a = { tmps := #[u 0, u 1, u 2, u 3, u 4, u 5, u 6, u 7, u 8, u 9, u 10, u 11, u 12, u 13, u 14, u 15, u 16, u 17, u 18, u 19, u 20, u 21], defers := [] } ∧ ∀ n, a.tmps.getD n undef = u n := by
  refine ⟨fun n => a.tmps.getD n undef, ?_, fun _ => rfl⟩
  have h1 := arr_lit a.tmps h
  cases a with
  | mk t d =>
    simp only at hd h1
    subst hd
    congr 1
def LvJ (p : List Int) (w0 w1 : World) (a : Act) (w' : World) : Prop :=
  a.tmps.size = 22 ∧ a.defers = [] ∧ a.tmps.getD 7 undef = .slice (some ⟨w0.heap.size, 0, none⟩) p.length p.length ∧ a.tmps.getD 8 undef = .int .i64 (p.length : Int) ∧ ∃ (k : Nat) (v : Value), a.tmps.getD 3 undef = v ∧ a.tmps.getD 9 undef = .int .i64 (k : Int) ∧ k ≤ p.length ∧
    w'.ownsRow w1.heap.size 3 1 v (lvK p k).length ((lvK p k).map (Value.int .i64)) ∧ Below w1.heap.size w1 w'
theorem own_base {w : World} {base base' : Nat} {e : TypeId} {size : Nat} {v : Value} {n : Nat} {xs : List Value} (h : w.ownsRow base e size v n xs) (hb : base' ≤ base) : w.ownsRow base' e size v n xs :=
  ⟨h.1, h.2.imp id fun ⟨g, cap, cur, a, b, r⟩ => ⟨g, cap, cur, a, Nat.le_trans hb b, r⟩⟩
set_option maxRecDepth 100000 in
set_option maxHeartbeats 4000000 in
theorem leaves_own (p : List Int) (A : Option Addr) (cap : Nat) (w : World) (hm : p.length ≤ 1000) (ht : treeP p) (hs : Sl w w.heap.size A (p.flatMap decI)) :
    Calls Tryd.prog 98 #[.slice A p.length cap] w fun e w' => ∃ v, e = .returned v ∧ w'.ownsRow w.heap.size 3 1 v (lvs p).length ((lvs p).map (Value.int .i64)) ∧ Below w.heap.size w w' := by
  have HI := Lib.hid (inner_any p A cap w hm ht hs)
  clear ht hs
  go_enter Tryd.func98, Tryd.ntmps98
  go_wp2_with fail
  refine HI.out.mono ?_
  rintro e w1 ⟨rfl, hblk, b1⟩
  have HB1 := Lib.hid b1
  have HBLK := Lib.hid hblk
  have hl0 := lt_of_blk hblk
  clear b1 hblk
  go_wp2_with fail
  refine wp_loop (LvJ p w w1) (fun a' _ => p.length - (intOf (a'.tmps.getD 9 undef)).toNat) ?_ ?_
  · exact ⟨rfl, rfl, rfl, rfl, 0, _, rfl, rfl, Nat.zero_le _, World.ownsRow_nil _ _ _ _, Below.refl _ _⟩
  · rintro a' w' ⟨hsz, hdf, s7, s8, k, v, s3, s9, hk, hown, hbel⟩
    obtain ⟨u, rfl, hu⟩ := frame22 hsz hdf
    rw [hu] at s3 s7 s8 s9
    simp only [s3, s7, s8, s9]
    clear hsz hdf s3 s7 s8 s9 hu
    have HB := Lib.hid hbel
    by_cases hlt : k < p.length
    · have i1 : (k : Int) < (p.length : Int) := by omega
      have hblk := (hbel.block w.heap.size hl0).trans HBLK.out
      have c0 := bls_cell hblk (i := k) (by rw [inB_len]; exact hlt)
      rw [inB_at hlt] at c0
      have HK := Lib.hid (lvK_succ p k)
      have hll := lvK_len p k
      have hwq := hbel.size
      clear hblk hbel
      by_cases hin : (k : Int) ∈ p
      · rw [if_pos hin] at HK
        rw [decide_eq_true hin] at c0
        have HO := Lib.hid hown
        clear hin hown
        go_wp2_with fail
        go_roundw
        case rel => exact ⟨rfl, rfl, rfl, rfl, k + 1, v, rfl, by go_num, by omega, by rw [HK.out]; exact HO.out, HB.out⟩
        case measure => simp [intOf]; omega
      · rw [if_neg hin] at HK
        rw [decide_eq_false hin] at c0
        have hown1 := hown
        clear hin hown
        go_wp2_with (at_builtin; refine wpList_append1 (.tmp 16) (.tmp 18) 41 3 _ 1 8 rfl rfl Tryd.underlying41 infoI rfl (by decide) w1.heap.size _ _ _ _ _ _ _ _ hown1 rfl rfl ?cgL rfl ?d1L ?d2L ?d3L ?d4L ?ckL; case' ckL => intro v' w2 hown2 hb2 _)
        case cgL => first | rfl | simp
        case d1L => simp [Value.oneCell']
        case d2L => simp only [maxLen]; omega
        case d3L => omega
        case d4L => omega
        go_wp2_with fail
        go_roundw
        case rel => exact ⟨rfl, rfl, rfl, rfl, k + 1, v', rfl, by go_num, by omega, by rw [HK.out]; simpa using hown2, HB.out.trans hb2⟩
        case measure => simp [intOf]; omega
    · obtain rfl : k = p.length := by omega
      have i1 : ¬ (p.length : Int) < (p.length : Int) := by omega
      have HO := Lib.hid (own_base hown HB1.out.size)
      clear hown hbel
      go_wp2_with fail
      go_ret
      exact ⟨v, rfl, HO.out, nx HB1.out HB.out⟩
/-- The leaves stand in a new row. -/
theorem leaves_row (p : List Int) (A : Option Addr) (cap : Nat) (w : World) (hm : p.length ≤ 1000) (hn : 0 < p.length) (ht : treeP p) (hs : Sl w w.heap.size A (p.flatMap decI)) :
    Calls Tryd.prog 98 #[.slice A p.length cap] w fun e w' => ∃ g c, e = .returned (.slice (some ⟨g, 0, none⟩) (lvs p).length c) ∧ w.heap.size ≤ g ∧ g < w'.heap.size ∧ (∀ j, j < (lvs p).length → w'.cell? ⟨g, j, none⟩ = some (.int .i64 ((lvs p).getD j 0))) ∧ Below w.heap.size w w' := by
  refine (leaves_own p A cap w hm ht hs).mono ?_
  rintro e w' ⟨v, rfl, h1, h2⟩
  have hl : 0 < (lvs p).length := List.length_pos_iff.2 (lvs_ne ht hn)
  obtain ⟨A2, c2, rfl, _, _, hs2⟩ := own_slice h1
  have hs3 : Sl w' w'.heap.size A2 ((lvs p).flatMap decI) := by rw [Ara.flatI]; exact hs2
  rcases h1.2 with ⟨_, h4⟩ | ⟨g, cp, cur, h3, hg, hbk, rest⟩
  · omega
  · injection h3 with h3 _ h5
    subst h3
    obtain ⟨b, off, e, hb, hcell⟩ := sl_g hs3 hl
    injection e with e
    injection e with e1 e2
    subst e1 e2
    exact ⟨g, c2, rfl, hg, hb, fun j hj => by have := hcell j hj; rwa [Nat.zero_add] at this, h2⟩
theorem leaves_sl (p : List Int) (A : Option Addr) (cap : Nat) (w : World) (hm : p.length ≤ 1000) (ht : treeP p) (hs : Sl w w.heap.size A (p.flatMap decI)) :
    Calls Tryd.prog 98 #[.slice A p.length cap] w fun e w' => ∃ B c, e = .returned (.slice B (lvs p).length c) ∧ Sl w' w'.heap.size B ((lvs p).flatMap decI) ∧ Below w.heap.size w w' := by
  refine (leaves_own p A cap w hm ht hs).mono ?_
  rintro e w' ⟨v, rfl, h1, h2⟩
  obtain ⟨A2, c2, rfl, _, _, hs2⟩ := own_slice h1
  exact ⟨A2, c2, rfl, by rw [Ara.flatI]; exact hs2, h2⟩
end Go.Proofs.YtcfdphfochfeoaaDoor.Tp
