/- Merged texts: Sp15, Sp16, Sp17, Fair, Fair2, Snz. -/
import Derived.Test.YthffhhgaeolpgaaGreatSq22
import Derived.Lib.QuietBelow
import Derived.Test.YthffhhgaeolpgaaGreatOpen
import Derived.Deep.OwnRows
set_option linter.unusedVariables false
/- Rows of bools; who enters and waits where, as rows: the plain law of layer 22's Moves. -/
namespace Go.Proofs.YthffhhgaeolpgaaGreat.Sp
open Go.RowKit
theorem infoB : (Tryz.prog.info? 4).map (fun i => (i.zero, i.size, i.bytes)) = some (some (.bool false), 1, 1) := by kernel_rfl
def bv (l : List Bool) : Array Value := (l.map Value.bool).toArray
def BRow (W : World) (g : Nat) (l : List Bool) : Prop := W.heap[g]? = some (.cells (bv l) 4 (0, 0))
theorem zeros_bool (n : Nat) : ((List.replicate n (Value.bool false).cells.toList).flatten).toArray = bv (List.replicate n false) := by
  unfold bv
  congr 1
  induction n with
  | zero => rfl
  | succ n ih => rw [List.replicate_succ, List.flatten_cons, ih, List.replicate_succ, List.map_cons]; rfl
theorem make_b (n : Nat) (h : n ≤ 1000) (W : World) : (Instr.makeSlice 166 (.int .i64 (n : Int)) (.int .i64 (n : Int))).run Tryz.prog W = .ok (.slice (some ⟨W.heap.size, 0, none⟩) n n) (W.alloc (.cells (bv (List.replicate n false)) 4)) := by
  rw [run_make_rows (P := Tryz.prog) 166 4 (.bool false) 1 1 Tryz.underlying166 infoB rfl .i64 .i64 n (by omega) (by omega) W, zeros_bool]
theorem BRow.cell {W : World} {g : Nat} {l : List Bool} (h : BRow W g l) {i : Nat} (hi : i < l.length) : W.cell? ⟨g, i, none⟩ = some (.bool (l.getD i false)) := by
  rw [blk_cell h i (by simpa [bv] using hi), List.getD_eq_getElem?_getD, List.getElem?_eq_getElem hi]
  simp [bv]
theorem BRow.free {W : World} {g : Nat} {l : List Bool} (h : BRow W g l) (i : Nat) : W.frozen? ⟨g, i, none⟩ = false := blk_free h i
theorem BRow.set {W : World} {g : Nat} {l : List Bool} (h : BRow W g l) (i : Nat) (b : Bool) : BRow (W.setCell ⟨g, i, none⟩ (.bool b)) g (l.set i b) := by
  unfold BRow
  rw [blk_set h i]
  simp [bv, List.map_set]
theorem BRow.other {W : World} {g : Nat} {l : List Bool} (h : BRow W g l) {p : Addr} (hn : g ≠ p.block) (u : Value) : BRow (W.setCell p u) g l := blk_other h hn u
theorem BRow.alloc {W : World} {g : Nat} {l : List Bool} (h : BRow W g l) (o : Obj) : BRow (W.alloc o) g l := blk_alloc h o
def entR (out : List St) (n i : Nat) : List Bool := (List.range n).map fun j => entD (out.take i) j
def wtR (out : List St) (n i a k : Nat) : List Bool := (List.range n).map fun j => wtD (out.take i) j || (decide (a ≤ j) && decide (j < k))
theorem entR_len (out : List St) (n i : Nat) : (entR out n i).length = n := by simp [entR]
theorem wtR_len (out : List St) (n i a k : Nat) : (wtR out n i a k).length = n := by simp [wtR]
theorem entR_nil (out : List St) (n : Nat) : entR out n 0 = List.replicate n false := by
  apply List.ext_getElem
  · simp [entR]
  · intro i h1 h2
    simp [entR, entD]
theorem wtR_nil (out : List St) (n a : Nat) : wtR out n 0 a a = List.replicate n false := by
  apply List.ext_getElem
  · simp [wtR]
  · intro i h1 h2
    simp [wtR, wtD]
theorem wtR_any (out : List St) (n i a b : Nat) : wtR out n i a a = wtR out n i b b := by
  unfold wtR
  apply List.map_congr_left
  intro j _
  have h1 : (decide (a ≤ j) && decide (j < a)) = false := by simp
  have h2 : (decide (b ≤ j) && decide (j < b)) = false := by simp
  rw [h1, h2]
theorem take_any (f : St → Bool) {out : List St} {i : Nat} (h : i < out.length) : (out.take (i + 1)).any f = ((out.take i).any f || f (out.getD i s0)) := by
  rw [List.take_succ_eq_append_getElem h, List.any_append, List.getD_eq_getElem?_getD, List.getElem?_eq_getElem h]
  simp
theorem entR_no {out : List St} {n i : Nat} (h : i < out.length) (he : (out.getD i s0).en < 0) : entR out n (i + 1) = entR out n i := by
  unfold entR entD
  apply List.map_congr_left
  intro j _
  rw [take_any _ h]
  have : decide ((out.getD i s0).en = (j : Int)) = false := by simp only [decide_eq_false_iff_not]; omega
  rw [this, Bool.or_false]
theorem entR_set {out : List St} {n i e : Nat} (h : i < out.length) (he : (out.getD i s0).en = (e : Int)) : (entR out n i).set e true = entR out n (i + 1) := by
  apply List.ext_getElem
  · simp [entR]
  · intro j h1 h2
    rw [List.getElem_set]
    simp only [entR, List.getElem_map, List.getElem_range, entD]
    rw [take_any _ h, he]
    split
    · rename_i hj
      subst hj
      simp
    · rename_i hj
      have : decide ((e : Int) = (j : Int)) = false := by simp only [decide_eq_false_iff_not]; omega
      rw [this, Bool.or_false]
theorem wtR_set {out : List St} {n i a k : Nat} (h : a ≤ k) : (wtR out n i a k).set k true = wtR out n i a (k + 1) := by
  apply List.ext_getElem
  · simp [wtR]
  · intro j h1 h2
    rw [List.getElem_set]
    simp only [wtR, List.getElem_map, List.getElem_range]
    split
    · rename_i hj
      subst hj
      have : decide (k < k + 1) = true := by simp
      rw [this, decide_eq_true h]
      simp
    · rename_i hj
      congr 2
      exact decide_eq_decide.2 ⟨fun h => by omega, fun h => by omega⟩
theorem wtR_next {out : List St} {n i a k : Nat} (h : i < out.length) (ha : (out.getD i s0).ask = (a : Int)) (hk : ((out.getD i s0).en < 0 ∧ k = n) ∨ (out.getD i s0).en = (k : Int)) : wtR out n i a k = wtR out n (i + 1) 0 0 := by
  unfold wtR wtD
  apply List.map_congr_left
  intro j hj
  rw [List.mem_range] at hj
  rw [take_any _ h, ha, Bool.or_assoc]
  congr 1
  have h0 : (decide (0 ≤ j) && decide (j < 0)) = false := by simp
  rw [h0, Bool.or_false]
  have h1 : decide (a ≤ j) = decide ((a : Int) ≤ (j : Int)) := decide_eq_decide.2 ⟨fun h => by omega, fun h => by omega⟩
  rw [h1]
  congr 1
  rcases hk with ⟨h2, h3⟩ | h2
  · rw [decide_eq_true h2, decide_eq_true (show j < k by omega)]
    rfl
  · rw [h2, decide_eq_false (show ¬ (k : Int) < 0 by omega), Bool.false_or]
    exact decide_eq_decide.2 ⟨fun h => by omega, fun h => by omega⟩
theorem entR_at {out : List St} {n j : Nat} (h : j < n) : (entR out n out.length).getD j false = entD out j := by
  rw [List.getD_eq_getElem?_getD, List.getElem?_eq_getElem (by rw [entR_len]; exact h)]
  simp [entR]
theorem wtR_at {out : List St} {n j : Nat} (h : j < n) : (wtR out n out.length 0 0).getD j false = wtD out j := by
  rw [List.getD_eq_getElem?_getD, List.getElem?_eq_getElem (by rw [wtR_len]; exact h)]
  simp [wtR]
theorem nextE_step {out : List St} {n d p : Nat} (hd : d < n) (hp : p + d + 1 = n) : nextE out n (d + 1) = if entD out p then p else nextE out n d := by
  have : n - (d + 1) = p := by omega
  rw [nextE, this]
theorem badP_at {out : List St} {n d p : Nat} {within : Int} (hp : p + d + 1 = n) : badP out n within p = (wtD out p && decide (within < (nextE out n d : Int) - (p : Int)) && decide (within ≤ (n : Int) - 1 - (p : Int))) := by
  unfold badP
  rw [show n - (p + 1) = d by omega]
theorem nextE_le (out : List St) (n : Nat) : ∀ d, nextE out n d ≤ n
  | 0 => Nat.le_refl _
  | d + 1 => by
    unfold nextE
    split
    · omega
    · exact nextE_le out n d
theorem moves_yesP {out : List St} {n : Nat} {within : Int} (h : ∀ i, i < n → badP out n within i = false) : movesD out n within = true := moves_yes fun i hi => by rw [← bad_eq out n within i hi]; exact h i hi
theorem moves_noP {out : List St} {n : Nat} {within : Int} {j : Nat} (hj : j < n) (h : badP out n within j = true) : movesD out n within = false := moves_no hj (by rw [← bad_eq out n within j hj]; exact h)
end Go.Proofs.YthffhhgaeolpgaaGreat.Sp

/- The walk of layer 22: Moves. -/
namespace Go.Proofs.YthffhhgaeolpgaaGreat.Sp
open Go.RowKit
theorem frame84 {a : Act} (h : a.tmps.size = 84) (hd : a.defers = []) : ∃ u : Nat → Value, a = { tmps := #[u 0, u 1, u 2, u 3, u 4, u 5, u 6, u 7, u 8, u 9, u 10, u 11, u 12, u 13, u 14, u 15, u 16, u 17, u 18, u 19, u 20, u 21, u 22, u 23, u 24, u 25, u 26, u 27, u 28, u 29, u 30, u 31, u 32, u 33, u 34, u 35, u 36, u 37, u 38, u 39, u 40, u 41, u 42, u 43, u 44, u 45, u 46, u 47, u 48, u 49, u 50, u 51, u 52, u 53, u 54, u 55, u 56, u 57, u 58, u 59, u 60, u 61, u 62, u 63, u 64, u 65, u 66, u 67, u 68, u 69, u 70, u 71, u 72, u 73, u 74, u 75, u 76, u 77, u 78, u 79, u 80, u 81, u 82, u 83], defers := [] } ∧ ∀ n, a.tmps.getD n undef = u n := by
  refine ⟨fun n => a.tmps.getD n undef, ?_, fun _ => rfl⟩
  have h1 := arr_lit a.tmps h
  cases a with
  | mk t d =>
    simp only at hd h1
    subst hd
    congr 1
def M1 (l : List E) (out : List St) (within : Int) (A : Option Addr) (cap : Nat) (B : Option Addr) (cb ge gw : Nat) (W1 : World) (a : Act) (W : World) : Prop :=
  a.tmps.size = 84 ∧ a.defers = [] ∧ a.tmps.getD 0 undef = .int .i64 within ∧ a.tmps.getD 1 undef = .slice A l.length cap ∧ a.tmps.getD 5 undef = .slice (some ⟨ge, 0, none⟩) l.length l.length ∧ a.tmps.getD 6 undef = .slice (some ⟨gw, 0, none⟩) l.length l.length ∧ a.tmps.getD 21 undef = .slice B out.length cb ∧ a.tmps.getD 22 undef = .int .i64 (out.length : Int) ∧
    ∃ i : Nat, a.tmps.getD 23 undef = .int .i64 (i : Int) ∧ i ≤ out.length ∧ BRow W ge (entR out l.length i) ∧ BRow W gw (wtR out l.length i 0 0) ∧ Mod [ge, gw] W1 W
def M2 (l : List E) (out : List St) (within : Int) (A : Option Addr) (cap : Nat) (B : Option Addr) (cb ge gw i ask fin : Nat) (W1 : World) (a : Act) (W : World) : Prop :=
  a.tmps.size = 84 ∧ a.defers = [] ∧ a.tmps.getD 0 undef = .int .i64 within ∧ a.tmps.getD 1 undef = .slice A l.length cap ∧ a.tmps.getD 5 undef = .slice (some ⟨ge, 0, none⟩) l.length l.length ∧ a.tmps.getD 6 undef = .slice (some ⟨gw, 0, none⟩) l.length l.length ∧ a.tmps.getD 21 undef = .slice B out.length cb ∧ a.tmps.getD 22 undef = .int .i64 (out.length : Int) ∧ a.tmps.getD 23 undef = .int .i64 (i : Int) ∧ a.tmps.getD 9 undef = .int .i64 (fin : Int) ∧
    ∃ k : Nat, a.tmps.getD 10 undef = .int .i64 (k : Int) ∧ ask ≤ k ∧ k ≤ fin ∧ BRow W ge (entR out l.length (i + 1)) ∧ BRow W gw (wtR out l.length i ask k) ∧ Mod [ge, gw] W1 W
def M3 (l : List E) (out : List St) (within : Int) (A : Option Addr) (cap ge gw : Nat) (W1 : World) (a : Act) (W : World) : Prop :=
  a.tmps.size = 84 ∧ a.defers = [] ∧ a.tmps.getD 0 undef = .int .i64 within ∧ a.tmps.getD 1 undef = .slice A l.length cap ∧ a.tmps.getD 5 undef = .slice (some ⟨ge, 0, none⟩) l.length l.length ∧ a.tmps.getD 6 undef = .slice (some ⟨gw, 0, none⟩) l.length l.length ∧ W = W1 ∧
    ∃ (d : Nat) (at_ : Int), a.tmps.getD 11 undef = .int .i64 (nextE out l.length d : Int) ∧ a.tmps.getD 12 undef = .int .i64 at_ ∧ at_ = (l.length : Int) - 1 - (d : Int) ∧ d ≤ l.length ∧ Hid (∀ i, l.length - d ≤ i → i < l.length → badP out l.length within i = false)
theorem mod2 {ge gw : Nat} {a w : World} (h : Mod [ge, gw] a w) {i : Nat} (u : Value) : Mod [ge, gw] a (w.setCell ⟨ge, i, none⟩ u) ∧ Mod [ge, gw] a (w.setCell ⟨gw, i, none⟩ u) := ⟨h.setCell (by simp) u, h.setCell (by simp) u⟩
theorem down_succ {f : Nat → Bool} {n d p : Nat} (hp : p + d + 1 = n) (h : ∀ i, n - d ≤ i → i < n → f i = false) (hj : f p = false) : ∀ i, n - (d + 1) ≤ i → i < n → f i = false := fun i h1 h2 => by
  by_cases e : i = p
  · rw [e]; exact hj
  · exact h i (by omega) h2
set_option maxRecDepth 100000 in
set_option maxHeartbeats 4000000 in
theorem moves_any (l : List E) (within : Int) (A : Option Addr) (cap : Nat) (w : World) (hm : l.length ≤ 1000) (hwf : Wf l) (hs : Sl w w.heap.size A (l.flatMap dE)) :
    Calls Tryz.prog 48 #[.int .i64 within, .slice A l.length cap] w fun e w' => e = .returned (.bool (movesD (outP l l.length) l.length within)) ∧ Below w.heap.size w w' := by
  have HC := Lib.hid (fun W (h : Below w.heap.size w W) => of_any l A cap W hm hwf ((hs.below h).more h.size))
  have HOK := Lib.hid (outP_ok l)
  have hol := outP_len l l.length
  have hmk := make_b l.length hm
  have b1 : Below w.heap.size w (w.alloc (.cells (bv (List.replicate l.length false)) 4)) := below_new _ _
  have b2 : Below w.heap.size w ((w.alloc (.cells (bv (List.replicate l.length false)) 4)).alloc (.cells (bv (List.replicate l.length false)) 4)) := b1.alloc (by simp) _
  have HB2 := Lib.hid b2
  clear hs hwf b1 b2
  generalize outP l l.length = out at *
  go_enter Tryz.func48, Tryz.ntmps48
  go_wp2_with fail
  refine (HC.out _ HB2.out).mono ?_
  rintro e w1 ⟨B, cb, rfl, hown, hb⟩
  obtain ⟨W0, hW0⟩ : ∃ W0, W0 = ((w.alloc (.cells (bv (List.replicate l.length false)) 4)).alloc (.cells (bv (List.replicate l.length false)) 4)) := ⟨_, rfl⟩
  have hsz0 : W0.heap.size = w.heap.size + 2 := by rw [hW0]; simp
  rw [← hW0] at hown hb
  have hb0 : Below w.heap.size w W0 := by rw [hW0]; exact HB2.out
  have hg0 : W0.heap[w.heap.size]? = some (.cells (bv (List.replicate l.length false)) 4 (0, 0)) := by rw [hW0]; exact blk_alloc (blk_new _ _) _
  have hg1 : W0.heap[w.heap.size + 1]? = some (.cells (bv (List.replicate l.length false)) 4 (0, 0)) := by
    rw [hW0]
    have := blk_new (w.alloc (.cells (bv (List.replicate l.length false)) 4)) (.cells (bv (List.replicate l.length false)) 4)
    simpa using this
  have r0 : BRow w1 w.heap.size (entR out l.length 0) := by rw [entR_nil]; exact (hb.block _ (by omega)).trans hg0
  have r1 : BRow w1 (w.heap.size + 1) (wtR out l.length 0 0 0) := by rw [wtR_nil]; exact (hb.block _ (by omega)).trans hg1
  have hb1 := hb0.trans (hb.mono (by omega))
  have HB1 := Lib.hid hb1
  have hz1 := hb.size
  rw [hsz0] at hown hz1
  have HO := Lib.hid hown
  have HR0 := Lib.hid r0
  have HR1 := Lib.hid r1
  clear hW0 hsz0 hb0 hg0 hg1 hb hown r0 r1 hb1 HB2 HC hmk
  generalize hge : w.heap.size = ge at *
  generalize hgw : ge + 1 = gw at *
  have HNE := Lib.hid (show ge ≠ gw by omega)
  have HNE2 := Lib.hid (show gw ≠ ge by omega)
  have g1 : ge < gw := by omega
  have HO : Hid (w1.ownsRow (gw + 2) 162 7 (.slice B out.length cb) out.length (out.flatMap dSt)) := Lib.hid (by have := HO.out; rw [show gw + 2 = ge + 2 + 1 by omega]; exact this)
  have hz1 : gw < w1.heap.size := by omega
  have HGE := Lib.hid hge
  clear hge hgw
  go_wp2_with fail
  refine wp_loop (M1 l out within A cap B cb ge gw w1) (fun a' _ => out.length - (intOf (a'.tmps.getD 23 undef)).toNat) ?_ ?_
  · exact ⟨rfl, rfl, rfl, rfl, rfl, rfl, rfl, rfl, 0, rfl, Nat.zero_le _, HR0.out, HR1.out, Mod.refl _ _⟩
  · rintro a' W ⟨hsz, hdf, s0', s1', s5', s6', s21', s22', i, s23', hi, hE, hW, hM⟩
    have HE := Lib.hid hE
    have HW := Lib.hid hW
    have HM := Lib.hid hM
    have SL := own_sl7 (own_mod HO.out hM (by simp; omega))
    have hzW := hM.size
    have hgeW : ge < W.heap.size := by omega
    have hgwW : gw < W.heap.size := by omega
    clear hE hW hM
    obtain ⟨u, rfl, hu⟩ := frame84 hsz hdf
    rw [hu] at s0' s1' s5' s6' s21' s22' s23'
    simp only [s0', s1', s5', s6', s21', s22', s23']
    clear hsz hdf s0' s1' s5' s6' s21' s22' s23' hu
    by_cases hlt : i < out.length
    · obtain ⟨b, off, rfl, hbb, hcell⟩ := sl_st7 SL (by omega)
      obtain ⟨c0, c1, c2, c3, c4, c5, c6⟩ := hcell i hlt
      have i1 : (i : Int) < (out.length : Int) := by omega
      obtain ⟨⟨o1, o2, o3, o4⟩, o5⟩ := HOK.out _ (getD_mem hlt)
      obtain ⟨ask, hask⟩ := Int.eq_ofNat_of_zero_le o1
      have HNX := Lib.hid (fun k hk => wtR_next (n := l.length) (k := k) hlt hask hk)
      have HNO := Lib.hid (fun h => entR_no (n := l.length) hlt h)
      have HNS := Lib.hid (fun e h => entR_set (n := l.length) (e := e) hlt h)
      clear hcell SL
      generalize out.getD i s0 = st at *
      rw [hask] at c2 o2 o5
      clear hask o1
      by_cases h1 : st.en < 0
      · go_wp2_with fail
        refine wp_loop (M2 l out within A cap (some ⟨b, off, none⟩) cb ge gw i ask l.length w1) (fun a' _ => l.length - (intOf (a'.tmps.getD 10 undef)).toNat) ?_ ?_
        · exact ⟨rfl, rfl, rfl, rfl, rfl, rfl, rfl, rfl, rfl, rfl, ask, rfl, Nat.le_refl _, by omega, (by rw [HNO.out h1]; exact HE.out.alloc _), (by rw [wtR_any _ _ _ _ 0]; exact HW.out.alloc _), HM.out.alloc _⟩
        · rintro a' W4 ⟨hsz, hdf, s0', s1', s5', s6', s21', s22', s23', s9', k, s10', hk1, hk2, hE, hW, hM⟩
          obtain ⟨u, rfl, hu⟩ := frame84 hsz hdf
          rw [hu] at s0' s1' s5' s6' s21' s22' s23' s9' s10'
          simp only [s0', s1', s5', s6', s21', s22', s23', s9', s10']
          clear hsz hdf s0' s1' s5' s6' s21' s22' s23' s9' s10' hu
          have HE2 := Lib.hid hE
          have HW2 := Lib.hid hW
          have HM2 := Lib.hid hM
          by_cases hkl : k < l.length
          · have i2 : (k : Int) < (l.length : Int) := by omega
            have i3 : (k : Int) < (l.length : Int) := by omega
            have ck := hW.cell (i := k) (by rw [wtR_len]; omega)
            have fk := hW.free k
            clear hE hW hM
            go_wp2_with fail
            go_roundw
            case rel => exact ⟨rfl, rfl, rfl, rfl, rfl, rfl, rfl, rfl, rfl, rfl, k + 1, by go_num, by omega, by omega, HE2.out.other HNE.out _, (by rw [← wtR_set hk1]; exact HW2.out.set k true), (mod2 HM2.out _).2⟩
            case measure => simp [intOf] <;> omega
          · obtain rfl : l.length = k := by omega
            have i2 : ¬ (l.length : Int) < (l.length : Int) := by omega
            clear hE hW hM
            go_wp2_with fail
            go_roundw
            case rel => exact ⟨rfl, rfl, rfl, rfl, rfl, rfl, rfl, rfl, i + 1, by go_num, by omega, HE2.out, (by rw [← HNX.out l.length (.inl ⟨h1, rfl⟩)]; exact HW2.out), HM2.out⟩
            case measure => simp [intOf] <;> omega
      · obtain ⟨en, hen⟩ := Int.eq_ofNat_of_zero_le (show 0 ≤ st.en by omega)
        have HEN := Lib.hid hen
        rw [hen] at c3 o4 o5 h1
        have hen0 : (0 : Int) ≤ (en : Int) := by omega
        have hel : (en : Int) < (l.length : Int) := by omega
        have ce := HE.out.cell (i := en) (by rw [entR_len]; omega)
        have fe := HE.out.free en
        clear hen h1
        generalize st.en = sten at *
        go_wp2_with fail
        refine wp_loop (M2 l out within A cap (some ⟨b, off, none⟩) cb ge gw i ask en w1) (fun a' _ => l.length - (intOf (a'.tmps.getD 10 undef)).toNat) ?_ ?_
        · exact ⟨rfl, rfl, rfl, rfl, rfl, rfl, rfl, rfl, rfl, rfl, ask, rfl, Nat.le_refl _, by omega, (by rw [← HNS.out en HEN.out]; exact (HE.out.set en true).alloc _), (by rw [wtR_any _ _ _ _ 0]; exact (HW.out.other HNE2.out _).alloc _), (mod2 HM.out _).1.alloc _⟩
        · rintro a' W4 ⟨hsz, hdf, s0', s1', s5', s6', s21', s22', s23', s9', k, s10', hk1, hk2, hE, hW, hM⟩
          obtain ⟨u, rfl, hu⟩ := frame84 hsz hdf
          rw [hu] at s0' s1' s5' s6' s21' s22' s23' s9' s10'
          simp only [s0', s1', s5', s6', s21', s22', s23', s9', s10']
          clear hsz hdf s0' s1' s5' s6' s21' s22' s23' s9' s10' hu
          have HE2 := Lib.hid hE
          have HW2 := Lib.hid hW
          have HM2 := Lib.hid hM
          by_cases hkl : k < en
          · have i2 : (k : Int) < (en : Int) := by omega
            have i3 : (k : Int) < (l.length : Int) := by omega
            have ck := hW.cell (i := k) (by rw [wtR_len]; omega)
            have fk := hW.free k
            clear hE hW hM
            go_wp2_with fail
            go_roundw
            case rel => exact ⟨rfl, rfl, rfl, rfl, rfl, rfl, rfl, rfl, rfl, rfl, k + 1, by go_num, by omega, by omega, HE2.out.other HNE.out _, (by rw [← wtR_set hk1]; exact HW2.out.set k true), (mod2 HM2.out _).2⟩
            case measure => simp [intOf] <;> omega
          · obtain rfl : en = k := by omega
            have i2 : ¬ (en : Int) < (en : Int) := by omega
            clear hE hW hM
            go_wp2_with fail
            go_roundw
            case rel => exact ⟨rfl, rfl, rfl, rfl, rfl, rfl, rfl, rfl, i + 1, by go_num, by omega, HE2.out, (by rw [← HNX.out en (.inr HEN.out)]; exact HW2.out), HM2.out⟩
            case measure => simp [intOf] <;> omega
    · obtain rfl : i = out.length := by omega
      have i1 : ¬ (out.length : Int) < (out.length : Int) := by omega
      have w5 : IntKind.i64.wrap ((l.length : Int) - 1) = (l.length : Int) - 1 := IntWalk.i64_in _ (by omega)
      go_wp2_with fail
      refine wp_loop (M3 l out within A cap ge gw W) (fun a' _ => ((intOf (a'.tmps.getD 12 undef)) + 1).toNat) ?_ ?_
      · exact ⟨rfl, rfl, rfl, rfl, rfl, rfl, rfl, 0, _, rfl, rfl, by omega, Nat.zero_le _, Lib.hid (fun i h1 h2 => by omega)⟩
      · rintro a' W4 ⟨hsz, hdf, s0', s1', s5', s6', rfl, d, at_, s11', s12', hat, hd, HA⟩
        obtain ⟨u, rfl, hu⟩ := frame84 hsz hdf
        rw [hu] at s0' s1' s5' s6' s11' s12'
        simp only [s0', s1', s5', s6', s11', s12']
        clear hsz hdf s0' s1' s5' s6' s11' s12' hu
        by_cases hdl : d < l.length
        · obtain ⟨p, hp⟩ : ∃ p, p + d + 1 = l.length := ⟨l.length - 1 - d, by omega⟩
          obtain rfl : at_ = (p : Int) := by omega
          have cw := HW.out.cell (i := p) (by rw [wtR_len]; omega)
          have ce := HE.out.cell (i := p) (by rw [entR_len]; omega)
          rw [wtR_at (by omega)] at cw
          rw [entR_at (by omega)] at ce
          have hnx := nextE_le out l.length d
          have HST := Lib.hid (nextE_step (out := out) hdl hp)
          have HBP := Lib.hid (badP_at (out := out) (within := within) hp)
          generalize nextE out l.length d = nx at *
          have w4 : IntKind.i64.wrap ((nx : Int) - (p : Int)) = (nx : Int) - (p : Int) := IntWalk.i64_in _ (by omega)
          have w6 : IntKind.i64.wrap ((l.length : Int) - 1 - (p : Int)) = (l.length : Int) - 1 - (p : Int) := IntWalk.i64_in _ (by omega)
          have w7 : IntKind.i64.wrap ((p : Int) - 1) = (p : Int) - 1 := IntWalk.i64_in _ (by omega)
          have i0 : (0 : Int) ≤ (p : Int) := by omega
          have i1 : (p : Int) < (l.length : Int) := by omega
          clear hat
          cases hw : wtD out p with
          | false =>
            rw [hw] at cw HBP
            have HBD := Lib.hid (show badP out l.length within p = false by rw [HBP.out]; rfl)
            clear hw
            cases he : entD out p with
            | false =>
              rw [he] at ce
              have HN1 := Lib.hid (HST.out.trans (if_neg (by rw [he]; simp)))
              clear he
              go_wp2_with fail
              go_roundw
              case rel => exact ⟨rfl, rfl, rfl, rfl, rfl, rfl, rfl, d + 1, (p : Int) - 1, by rw [HN1.out] <;> rfl, rfl, by omega, by omega, Lib.hid (down_succ hp HA.out HBD.out)⟩
              case measure => simp [intOf] <;> omega
            | true =>
              rw [he] at ce
              have HN1 := Lib.hid (HST.out.trans (if_pos he))
              clear he
              go_wp2_with fail
              go_roundw
              case rel => exact ⟨rfl, rfl, rfl, rfl, rfl, rfl, rfl, d + 1, (p : Int) - 1, by rw [HN1.out] <;> rfl, rfl, by omega, by omega, Lib.hid (down_succ hp HA.out HBD.out)⟩
              case measure => simp [intOf] <;> omega
          | true =>
            rw [hw] at cw HBP
            clear hw
            by_cases h2 : within < (nx : Int) - (p : Int)
            · by_cases h3 : within ≤ (l.length : Int) - 1 - (p : Int)
              · have HBD := Lib.hid (moves_noP (by omega : p < l.length) (show badP out l.length within p = true by rw [HBP.out, decide_eq_true h2, decide_eq_true h3]; rfl))
                go_wp2_with fail
                go_ret
                exact ⟨by rw [HBD.out]; rfl, by rw [HGE.out]; exact Mod.below_of HB1.out HM.out (by omega) (by simp; omega)⟩
              · have HBD := Lib.hid (show badP out l.length within p = false by rw [HBP.out, decide_eq_false h3, Bool.and_false])
                cases he : entD out p with
                | false =>
                  rw [he] at ce
                  have HN1 := Lib.hid (HST.out.trans (if_neg (by rw [he]; simp)))
                  clear he
                  go_wp2_with fail
                  go_roundw
                  case rel => exact ⟨rfl, rfl, rfl, rfl, rfl, rfl, rfl, d + 1, (p : Int) - 1, by rw [HN1.out] <;> rfl, rfl, by omega, by omega, Lib.hid (down_succ hp HA.out HBD.out)⟩
                  case measure => simp [intOf] <;> omega
                | true =>
                  rw [he] at ce
                  have HN1 := Lib.hid (HST.out.trans (if_pos he))
                  clear he
                  go_wp2_with fail
                  go_roundw
                  case rel => exact ⟨rfl, rfl, rfl, rfl, rfl, rfl, rfl, d + 1, (p : Int) - 1, by rw [HN1.out] <;> rfl, rfl, by omega, by omega, Lib.hid (down_succ hp HA.out HBD.out)⟩
                  case measure => simp [intOf] <;> omega
            · have HBD := Lib.hid (show badP out l.length within p = false by rw [HBP.out, decide_eq_false h2, Bool.and_false, Bool.false_and])
              cases he : entD out p with
              | false =>
                rw [he] at ce
                have HN1 := Lib.hid (HST.out.trans (if_neg (by rw [he]; simp)))
                clear he
                go_wp2_with fail
                go_roundw
                case rel => exact ⟨rfl, rfl, rfl, rfl, rfl, rfl, rfl, d + 1, (p : Int) - 1, by rw [HN1.out] <;> rfl, rfl, by omega, by omega, Lib.hid (down_succ hp HA.out HBD.out)⟩
                case measure => simp [intOf] <;> omega
              | true =>
                rw [he] at ce
                have HN1 := Lib.hid (HST.out.trans (if_pos he))
                clear he
                go_wp2_with fail
                go_roundw
                case rel => exact ⟨rfl, rfl, rfl, rfl, rfl, rfl, rfl, d + 1, (p : Int) - 1, by rw [HN1.out] <;> rfl, rfl, by omega, by omega, Lib.hid (down_succ hp HA.out HBD.out)⟩
                case measure => simp [intOf] <;> omega
        · obtain rfl : d = l.length := by omega
          obtain rfl : at_ = -1 := by omega
          have HN := Lib.hid (moves_yesP (out := out) (n := l.length) (within := within) (fun i h => HA.out i (by omega) h))
          go_wp2_with fail
          go_ret
          exact ⟨by rw [HN.out]; rfl, by rw [HGE.out]; exact Mod.below_of HB1.out HM.out (by omega) (by simp; omega)⟩
end Go.Proofs.YthffhhgaeolpgaaGreat.Sp

/- The law of layer 22: SpanSays. -/
namespace Go.Proofs.YthffhhgaeolpgaaGreat.Sp
open Go.RowKit Go.Sort
def okE (e : E) : Prop := isI64 e.kind ∧ isI64 e.th ∧ isI64 e.ct
theorem reads_ev {H : Type} {enc : TypeId × Value → H} : Reads enc Tryz.prog 65 dE okE :=
  (reads_s4 (d0 := Value.int .i64) (d1 := Value.int .i64) (d2 := Value.bool) (d3 := Value.int .i64) Tryz.underlying65 (by kernel_rfl) (by kernel_rfl) (reads_i64 Tryz.underlying3) (reads_i64 Tryz.underlying3) (reads_bool Tryz.underlying4) (reads_i64 Tryz.underlying3)).map
    (fun p => ⟨p.1, p.2.1, p.2.2.1, p.2.2.2⟩) (fun _ => rfl) (fun _ h => ⟨h.1, h.2.1, h.2.2.2⟩)
theorem wf_ok {l : List E} (h : ∀ e ∈ l, okE e) : Wf l := fun e he => WalkArith.wf_i64 (h e he).2.1
def l0 : List E := [⟨1, 0, false, 0⟩, ⟨0, 0, false, 0⟩, ⟨2, 0, false, 0⟩, ⟨1, 1, false, 0⟩, ⟨0, 0, false, 0⟩, ⟨0, 0, false, 0⟩]
theorem k_yes : keepsD (outP l0 l0.length) l0.length 2 = true := by decide +kernel
theorem k_no : keepsD (outP l0 l0.length) l0.length 1 = false := by decide +kernel
theorem m_yes : movesD (outP l0 l0.length) l0.length 3 = true := by decide +kernel
theorem m_no : movesD (outP l0 l0.length) l0.length 2 = false := by decide +kernel
theorem l0_ok : Wf l0 := fun e he => WalkArith.wf_i64 (by
  simp only [l0, List.mem_cons, List.not_mem_nil, or_false] at he
  rcases he with rfl | rfl | rfl | rfl | rfl | rfl <;> (constructor <;> decide))
theorem e1 : eachD 2 2 2 0 = 14 := by decide +kernel
theorem e2 : eachD 4 3 4 1 = 96 := by decide +kernel
theorem e3 : eachD 1 2 2 0 = 0 := by decide +kernel
theorem e4 : someD 1 2 3 1 2 = 21 := by decide +kernel
def SlW (A : Option Addr) (l : List E) (W : World) : Prop := Sl W W.heap.size A (l.flatMap dE)
theorem SlW.step {A : Option Addr} {l : List E} {W W' : World} (h : SlW A l W) (hb : Below W.heap.size W W') : SlW A l W' := (Sl.below h hb).more hb.size
theorem kp_any (l : List E) (within : Int) (A : Option Addr) (cap : Nat) (W : World) (b : Bool) (hb : keepsD (outP l l.length) l.length within = b) (hm : l.length ≤ 1000) (hwf : Wf l) (hs : SlW A l W) :
    Calls Tryz.prog 46 #[.int .i64 within, .slice A l.length cap] W fun e w' => e = .returned (.bool b) ∧ Below W.heap.size W w' := by subst hb; exact keeps_any l within A cap W hm hwf hs
theorem mv_any (l : List E) (within : Int) (A : Option Addr) (cap : Nat) (W : World) (b : Bool) (hb : movesD (outP l l.length) l.length within = b) (hm : l.length ≤ 1000) (hwf : Wf l) (hs : SlW A l W) :
    Calls Tryz.prog 48 #[.int .i64 within, .slice A l.length cap] W fun e w' => e = .returned (.bool b) ∧ Below W.heap.size W w' := by subst hb; exact moves_any l within A cap W hm hwf hs
theorem eachE (kind t k s v : Int) (h : eachD kind t k s = v) (w : World) : Calls Tryz.prog 47 #[.int .i64 kind, .int .i64 t, .int .i64 k, .int .i64 s] w fun e w' => e = .returned (.int .i64 v) ∧ w' = w := by subst h; exact each_any kind t k s w
theorem someE (kind t k s par v : Int) (h : someD kind t k s par = v) (w : World) : Calls Tryz.prog 49 #[.int .i64 kind, .int .i64 t, .int .i64 k, .int .i64 s, .int .i64 par] w fun e w' => e = .returned (.int .i64 v) ∧ w' = w := by subst h; exact some_any kind t k s par w
set_option maxRecDepth 100000 in
theorem awake_any (w : World) : Calls Tryz.prog 43 #[] w fun e w' => e = .returned (.bool true) ∧ Below w.heap.size w w' := by
  have S0 := Lib.hid (fun cs (hc : cs.toList = l0.flatMap dE) => show SlW (some ⟨w.heap.size, 0, none⟩) l0 (w.alloc (.cells cs 65)) from by
    have := Sl_new w cs 65
    rw [hc] at this
    exact this.more (by simp))
  have B0 := Lib.hid (fun cs => below_new w (.cells cs 65))
  have K1 := Lib.hid (fun W (h : SlW (some ⟨w.heap.size, 0, none⟩) l0 W) => kp_any l0 2 _ 6 W _ k_yes (by decide) l0_ok h)
  have K2 := Lib.hid (fun W (h : SlW (some ⟨w.heap.size, 0, none⟩) l0 W) => kp_any l0 1 _ 6 W _ k_no (by decide) l0_ok h)
  have K3 := Lib.hid (fun W (h : SlW (some ⟨w.heap.size, 0, none⟩) l0 W) => mv_any l0 3 _ 6 W _ m_yes (by decide) l0_ok h)
  have K4 := Lib.hid (fun W (h : SlW (some ⟨w.heap.size, 0, none⟩) l0 W) => mv_any l0 2 _ 6 W _ m_no (by decide) l0_ok h)
  go_enter Tryz.func43, Tryz.ntmps43
  go_wp2_with fail
  refine (eachE _ _ _ _ _ e1 _).mono ?_
  rintro e wx ⟨rfl, hwx⟩
  obtain rfl := hwx.symm
  go_wp2_with fail
  refine (eachE _ _ _ _ _ e2 _).mono ?_
  rintro e wx ⟨rfl, hwx⟩
  obtain rfl := hwx.symm
  go_wp2_with fail
  refine (eachE _ _ _ _ _ e3 _).mono ?_
  rintro e wx ⟨rfl, hwx⟩
  obtain rfl := hwx.symm
  go_wp2_with fail
  refine (someE _ _ _ _ _ _ e4 _).mono ?_
  rintro e wx ⟨rfl, hwx⟩
  obtain rfl := hwx.symm
  go_wp2_with fail
  have S1 := Lib.hid (S0.out _ (show (#[.int .i64 1, .int .i64 0, .bool false, .int .i64 0, .int .i64 0, .int .i64 0, .bool false, .int .i64 0, .int .i64 2, .int .i64 0, .bool false, .int .i64 0, .int .i64 1, .int .i64 1, .bool false, .int .i64 0, .int .i64 0, .int .i64 0, .bool false, .int .i64 0, .int .i64 0, .int .i64 0, .bool false, .int .i64 0] : Array Value).toList = l0.flatMap dE from rfl))
  have B1 := Lib.hid (B0.out #[.int .i64 1, .int .i64 0, .bool false, .int .i64 0, .int .i64 0, .int .i64 0, .bool false, .int .i64 0, .int .i64 2, .int .i64 0, .bool false, .int .i64 0, .int .i64 1, .int .i64 1, .bool false, .int .i64 0, .int .i64 0, .int .i64 0, .bool false, .int .i64 0, .int .i64 0, .int .i64 0, .bool false, .int .i64 0])
  refine (K1.out _ S1.out).mono ?_
  rintro e w2 ⟨rfl, hbx⟩
  have S2 := Lib.hid ((S1).out.step hbx)
  have B2 := Lib.hid ((B1).out.trans (hbx.mono (B1).out.size))
  clear hbx
  go_wp2_with fail
  refine (K2.out _ S2.out).mono ?_
  rintro e w3 ⟨rfl, hbx⟩
  have S3 := Lib.hid ((S2).out.step hbx)
  have B3 := Lib.hid ((B2).out.trans (hbx.mono (B2).out.size))
  clear hbx
  go_wp2_with fail
  refine (K3.out _ S3.out).mono ?_
  rintro e w4 ⟨rfl, hbx⟩
  have S4 := Lib.hid ((S3).out.step hbx)
  have B4 := Lib.hid ((B3).out.trans (hbx.mono (B3).out.size))
  clear hbx
  go_wp2_with fail
  refine (K4.out _ S4.out).mono ?_
  rintro e w5 ⟨rfl, hbx⟩
  have S5 := Lib.hid ((S4).out.step hbx)
  have B5 := Lib.hid ((B4).out.trans (hbx.mono (B4).out.size))
  clear hbx
  go_wp2_with fail
  go_ret
  exact ⟨rfl, B5.out⟩
end Go.Proofs.YthffhhgaeolpgaaGreat.Sp

/- Walks of package fair and its reference: some, Own, among, Least. -/
namespace Go.Proofs.YthffhhgaeolpgaaGreat.Fai
open Go.RowKit

def decI (n : Int) : List Value := [.int .i64 n]
theorem infoI : (Tryz.prog.info? 3).map (fun i => (i.zero, i.size, i.bytes)) = some (some (.int .i64 0), 1, 8) := by kernel_rfl

def som (t : Int) : Nat := if t < 0 then 0 else if 32 < t then 32 else t.toNat
theorem som_le (t : Int) : som t ≤ 32 := by unfold som; split; omega; split <;> omega

theorem some_any (t : Int) (w : World) :
    Calls Tryz.prog 111 #[.int .i64 t] w fun e w' => e = .returned (.int .i64 (som t)) ∧ w' = w := by
  by_cases h : t < 0
  · have hn := Lib.hid (show (som t : Int) = 0 by simp [som, h])
    go_enter Tryz.func111, Tryz.ntmps111
    go_wp2
    all_goals go_ret
    all_goals exact ⟨by rw [hn.out]; rfl, rfl⟩
  · by_cases h2 : 32 < t
    · have hn := Lib.hid (show (som t : Int) = 32 by simp [som, h, h2])
      go_enter Tryz.func111, Tryz.ntmps111
      go_wp2
      all_goals go_ret
      all_goals exact ⟨by rw [hn.out]; rfl, rfl⟩
    · have hn := Lib.hid (show (som t : Int) = t by simp [som, h, h2]; omega)
      go_enter Tryz.func111, Tryz.ntmps111
      go_wp2
      all_goals go_ret
      all_goals exact ⟨by rw [hn.out]; first | rfl | (congr 2; simp; omega), rfl⟩

def ownTo (l : List Int) (t : Int) (tz : Int) : Nat → Nat
  | 0 => 0
  | k + 1 => ownTo l t tz k + (if decide ((k : Int) < tz) && (l[k]? == some t) then 1 else 0)
def own (l : List Int) (t tz : Int) : Int := ownTo l t tz l.length
theorem ownTo_le (l : List Int) (t tz : Int) (k : Nat) : ownTo l t tz k ≤ k := by
  induction k with
  | zero => exact Nat.le_refl _
  | succ k ih => simp only [ownTo]; split <;> omega
theorem ownTo_over (l : List Int) (t tz : Int) (k j : Nat) (h : tz ≤ k) : ownTo l t tz (k + j) = ownTo l t tz k := by
  induction j with
  | zero => rfl
  | succ j ih =>
    rw [← Nat.add_assoc, ownTo, ih]
    simp
    omega



def among (l : List Int) (t : Int) : Bool := decide (t ∈ l)
end Go.Proofs.YthffhhgaeolpgaaGreat.Fai

/- Walks of package fair and its reference: Least, Fair. -/
namespace Go.Proofs.YthffhhgaeolpgaaGreat.Fai
open Go.RowKit

theorem frame59 {a : Act} (h : a.tmps.size = 59) (hd : a.defers = []) : ∃ u : Nat → Value, a = { tmps := #[u 0, u 1, u 2, u 3, u 4, u 5, u 6, u 7, u 8, u 9, u 10, u 11, u 12, u 13, u 14, u 15, u 16, u 17, u 18, u 19, u 20, u 21, u 22, u 23, u 24, u 25, u 26, u 27, u 28, u 29, u 30, u 31, u 32, u 33, u 34, u 35, u 36, u 37, u 38, u 39, u 40, u 41, u 42, u 43, u 44, u 45, u 46, u 47, u 48, u 49, u 50, u 51, u 52, u 53, u 54, u 55, u 56, u 57, u 58], defers := [] } ∧ ∀ n, a.tmps.getD n undef = u n := by
  refine ⟨fun n => a.tmps.getD n undef, ?_, fun _ => rfl⟩
  have h1 := arr_lit a.tmps h
  cases a with
  | mk t d =>
    simp only at hd h1
    subst hd
    congr 1

def vI (n : Nat) : Value := .int .i64 n
def zeros (n : Nat) : Array Value := ((List.replicate n 0).map vI).toArray
theorem made_zero (n : Nat) : madeCells #[.int .i64 0] n = zeros n := by
  apply Array.ext
  · simp [madeCells, zeros]
  · intro i h1 h2
    simp [madeCells, zeros, vI, Nat.mod_one]

def LeastJ (n : Nat) (l : List Int) (A : Option Addr) (cap : Nat) (w : World) (res : List Nat × Nat) (a : Act) (w' : World) : Prop :=
  a.tmps.size = 59 ∧ a.defers = [] ∧ a.tmps.getD 0 undef = .slice A l.length cap ∧ a.tmps.getD 5 undef = .int .i64 n ∧ a.tmps.getD 6 undef = .slice (some ⟨w.heap.size, 0, none⟩) n n ∧
  a.tmps.getD 16 undef = .slice A l.length cap ∧ a.tmps.getD 17 undef = .int .i64 l.length ∧
    ∃ (k lg : Nat) (last : List Nat), a.tmps.getD 7 undef = .int .i64 lg ∧ a.tmps.getD 18 undef = .int .i64 k ∧ k ≤ l.length ∧ lg ≤ k ∧ last.length = n ∧ (∀ x ∈ last, x ≤ k) ∧
      w'.heap[w.heap.size]? = some (.cells (last.map vI).toArray 3 (0, 0)) ∧ Below w.heap.size w w' ∧ scan n (l.drop k) k last lg = res
def LeastJ2 (n len : Nat) (l : List Int) (A : Option Addr) (cap : Nat) (w wl : World) (last : List Nat) (lg0 : Nat) (a : Act) (w' : World) : Prop :=
  a.tmps.size = 59 ∧ a.defers = [] ∧ a.tmps.getD 0 undef = .slice A l.length cap ∧
  a.tmps.getD 44 undef = .slice (some ⟨w.heap.size, 0, none⟩) n n ∧ a.tmps.getD 45 undef = .int .i64 n ∧
    ∃ k : Nat, a.tmps.getD 7 undef = .int .i64 (gaps len (last.take k) lg0) ∧ a.tmps.getD 46 undef = .int .i64 k ∧ k ≤ n ∧ w' = wl

theorem gaps_snoc (len : Nat) (last : List Nat) (lg k : Nat) (h : k < last.length) : gaps len (last.take (k + 1)) lg = max (gaps len (last.take k) lg) (len - last[k]) := by
  unfold gaps
  rw [List.take_succ_eq_append_getElem h, List.foldl_append]
  rfl
theorem gaps_le (len : Nat) (last : List Nat) (lg : Nat) (h : lg ≤ len) : gaps len last lg ≤ len := by
  have := (gaps_lt len last lg (len + 1)).2 ⟨by omega, fun f _ => by omega⟩
  omega

set_option maxHeartbeats 4000000 in
set_option maxRecDepth 100000 in
theorem least_any (l : List Int) (A : Option Addr) (cap : Nat) (t : Int) (w : World) (hm : l.length ≤ 65536) (hs : Sl w w.heap.size A (l.flatMap decI)) :
    Calls Tryz.prog 77 #[.slice A l.length cap, .int .i64 t] w fun e w' => e = .returned (.int .i64 (longest (som t) l + 1)) ∧ Below w.heap.size w w' := by
  have hle := som_le t
  have hso := fun W => some_any t W
  generalize som t = n at hle hso ⊢
  obtain ⟨res, hres⟩ : ∃ res, scan n l 0 (List.replicate n 0) 0 = res := ⟨_, rfl⟩
  have HF := Lib.hid (show longest n l = gaps l.length res.1 res.2 by rw [← hres]; rfl)
  have HR := Lib.hid hres
  have HS := Lib.hid hso
  clear hres hso
  have hmk : ∀ W : World, (Instr.makeSlice 43 (.int .i64 (n : Int)) (.int .i64 (n : Int))).run Tryz.prog W = .ok (.slice (some ⟨W.heap.size, 0, none⟩) n n) (W.alloc (.cells (zeros n) 3)) := fun W => by
    rw [run_make_row' (P := Tryz.prog) 43 3 (.int .i64 0) 8 Tryz.underlying43 infoI rfl .i64 .i64 n (by omega) (by omega) W, made_zero]
  have HK := Lib.hid hmk
  clear hmk
  go_enter Tryz.func77, Tryz.ntmps77
  go_wp2_with fail
  refine (HS.out _).mono ?_
  rintro e wx ⟨rfl, hwx⟩
  obtain rfl := hwx.symm
  have hmk := HK.out
  go_wp2_with fail
  clear hmk
  refine wp_loop (LeastJ n l A cap w res) (fun a' _ => l.length - (intOf (a'.tmps.getD 18 undef)).toNat) ?_ ?_
  · exact ⟨rfl, rfl, rfl, rfl, rfl, rfl, rfl, 0, 0, List.replicate n 0, rfl, rfl, Nat.zero_le _, Nat.le_refl _, by simp, by simp, heap_alloc_new _ _, below_new _ _, HR.out⟩
  · rintro a' w' ⟨hsz, hdf, s0, s5, s6, s16, s17, k, lg, last, s7, s18, hk, hlg, hll, hlk, hblk, hb, hrun⟩
    obtain ⟨u, rfl, hu⟩ := frame59 hsz hdf
    rw [hu] at s0 s5 s6 s7 s16 s17 s18
    simp only [s0, s5, s6, s7, s16, s17, s18]
    clear hsz hdf s0 s5 s6 s7 s16 s17 s18 hu
    have HX := Lib.hid hrun
    have HL := Lib.hid hlk
    clear hrun hlk
    by_cases hlt : k < l.length
    · obtain ⟨b, off, rfl, hbb, hcell⟩ := Sl_at (k := 1) (fun _ => rfl) (by omega) (hs.below hb) (by omega)
      have h0 := hcell k hlt 0 (by omega)
      simp only [decI, List.getElem?_cons_zero, Nat.add_zero, Nat.mul_one] at h0
      have hd := Lib.hid (List.drop_eq_getElem_cons hlt)
      clear hcell
      generalize l[k] = x at h0 hd
      by_cases hx0 : 0 ≤ x
      · obtain ⟨q, rfl⟩ := Int.eq_ofNat_of_zero_le hx0
        by_cases hxn : q < n
        · have hql : q < last.length := by omega
          have hc : w'.cell? ⟨w.heap.size, q, none⟩ = some (.int .i64 last[q]) := by
            simp [World.cell?, hblk, vI, hql]
          have hf : w'.frozen? ⟨w.heap.size, q, none⟩ = false := by simp [World.frozen?, hblk]
          have hlq := HL.out last[q] (List.getElem_mem _)
          have hset := blk_set hblk q (.int .i64 ((k + 1 : Nat) : Int))
          have hst := Lib.hid (show scan n ((q : Int) :: l.drop (k + 1)) k last lg = scan n (l.drop (k + 1)) (k + 1) (last.set q (k + 1)) (max lg (k - last[q])) by
            rw [scan, if_pos ⟨by omega, by omega⟩]
            simp [hql])
          have hmm : ∀ y ∈ last.set q (k + 1), y ≤ k + 1 := fun y hy => by
            rcases List.mem_or_eq_of_mem_set hy with h | h
            · have := HL.out y h; omega
            · omega
          have HM := Lib.hid hmm
          have HB := Lib.hid hset
          clear hmm hset hblk
          generalize last[q] = lq at hc hst hlq
          have HQ : (last.map vI).toArray.setIfInBounds q (.int .i64 ((k + 1 : Nat) : Int)) = ((last.set q (k + 1)).map vI).toArray := by
            simp [vI, List.map_set]
          have HQ' := Lib.hid HQ
          clear HQ
          go_wp2_with fail
          all_goals
            exact ⟨⟨rfl, rfl, rfl, rfl, rfl, rfl, rfl, k + 1, max lg (k - lq), last.set q (k + 1), congrArg (Value.int .i64) (by omega), rfl, hlt, by omega, by simpa using hll, HM.out, by rw [← HQ'.out]; exact HB.out, hb.setCell (p := ⟨w.heap.size, q, none⟩) (Nat.le_refl _) _, by rw [← hst.out, ← hd.out]; exact HX.out⟩, by simp [intOf]; omega⟩
        · have hst := Lib.hid (show scan n ((q : Int) :: l.drop (k + 1)) k last lg = scan n (l.drop (k + 1)) (k + 1) last lg by
            rw [scan, if_neg (by omega)])
          have HM := Lib.hid (show ∀ y ∈ last, y ≤ k + 1 from fun y hy => Nat.le_succ_of_le (HL.out y hy))
          have HB := Lib.hid hblk
          clear hblk
          go_wp2_with fail
          exact ⟨⟨rfl, rfl, rfl, rfl, rfl, rfl, rfl, k + 1, lg, last, rfl, rfl, hlt, by omega, hll, HM.out, HB.out, hb, by rw [← hst.out, ← hd.out]; exact HX.out⟩, by simp [intOf]; omega⟩
      · have hst := Lib.hid (show scan n (x :: l.drop (k + 1)) k last lg = scan n (l.drop (k + 1)) (k + 1) last lg by
          rw [scan, if_neg (by omega)])
        have HM := Lib.hid (show ∀ y ∈ last, y ≤ k + 1 from fun y hy => Nat.le_succ_of_le (HL.out y hy))
        have HB := Lib.hid hblk
        have hxx : x < 0 := by omega
        clear hblk hx0
        go_wp2_with fail
        exact ⟨⟨rfl, rfl, rfl, rfl, rfl, rfl, rfl, k + 1, lg, last, rfl, rfl, hlt, by omega, hll, HM.out, HB.out, hb, by rw [← hst.out, ← hd.out]; exact HX.out⟩, by simp [intOf]; omega⟩
    · have hkl : k = l.length := by omega
      have HZ := Lib.hid (show (last, lg) = res by rw [← HX.out, List.drop_of_length_le (by omega)]; rfl)
      have hlgl : lg ≤ l.length := by omega
      have HKL := Lib.hid hkl
      clear hkl
      go_wp2_with fail
      refine wp_loop (LeastJ2 n l.length l A cap w w' last lg) (fun a' _ => n - (intOf (a'.tmps.getD 46 undef)).toNat) ?_ ?_
      · exact ⟨rfl, rfl, rfl, rfl, rfl, 0, rfl, rfl, Nat.zero_le _, rfl⟩
      · rintro a' w'' ⟨hsz, hdf, s0, s44, s45, j, s7, s46, hj, rfl⟩
        obtain ⟨u, rfl, hu⟩ := frame59 hsz hdf
        rw [hu] at s0 s7 s44 s45 s46
        simp only [s0, s7, s44, s45, s46]
        clear hsz hdf s0 s7 s44 s45 s46 hu
        have hgl := gaps_le l.length (last.take j) lg hlgl
        by_cases hjn : j < n
        · have hjl : j < last.length := by omega
          have hc : w''.cell? ⟨w.heap.size, j, none⟩ = some (.int .i64 last[j]) := by
            simp [World.cell?, hblk, vI, hjl]
          have hsn := Lib.hid (gaps_snoc l.length last lg j hjl)
          have hlj : last[j] ≤ l.length := Nat.le_trans (HL.out _ (List.getElem_mem _)) hk
          generalize gaps l.length (last.take j) lg = gj at hsn hgl
          generalize last[j] = lj at hc hsn hlj
          go_wp2_with fail
          all_goals
            exact ⟨⟨rfl, rfl, rfl, rfl, rfl, j + 1, congrArg (Value.int .i64) (by rw [hsn.out]; omega), rfl, hjn, rfl⟩, by simp [intOf]; omega⟩
        · have HT := Lib.hid (show longest n l = gaps l.length (last.take j) lg by
            rw [HF.out, ← HZ.out, List.take_of_length_le (by omega)])
          go_wp2_with fail
          go_ret
          exact ⟨by rw [HT.out]; rfl, hb⟩
end Go.Proofs.YthffhhgaeolpgaaGreat.Fai

/- Layer 22's law: what is played. -/
namespace Go.Proofs.YthffhhgaeolpgaaGreat.Sn
open Go.RowKit Go.Proofs.YthffhhgaeolpgaaGreat.Ara Go.Proofs.YthffhhgaeolpgaaGreat.Lok Go.Proofs.YthffhhgaeolpgaaGreat.Fl Go.Proofs.YthffhhgaeolpgaaGreat.Ga

theorem first_pc (kind : Int) (n : Nat) (par : Int) (a : Nat) (σ1 : Ar) (i : Int) : (spOf (firstK kind n par a σ1).2 i).pc = 0 := by
  unfold firstK
  split
  · show (spOf (List.replicate n sp0) i).pc = 0
    rw [Pt.zero_spot]; rfl
  split
  · show (spOf (Cl.first0 n) i).pc = 0
    rw [Cl.first0_spot]; split <;> rfl
  · show (spOf (Ta.zeroS n) i).pc = 0
    rw [Ta.zero_spot]; rfl
theorem sl_ev3 (l : List Ev3) : l.flatMap decEv = (l.map evE).flatMap Sp.dE := by
  rw [List.flatMap_map]
  rfl
def trOf (kind par : Int) (ps : List Pl) (x0 : LS) (l : List Int) : List Sp.E := (runL stF (actF (pkK kind par 1)) ps x0 l).out.map evE
theorem trOf_len (kind par : Int) (ps : List Pl) (x0 : LS) (l : List Int) : (trOf kind par ps x0 l).length = l.length := by
  unfold trOf
  rw [out_run]
  simp
def Played (kind par : Int) (N : Nat) (ps : List Pl) (l : List Int) (w : World) (e : Ending) (w' : World) : Prop :=
  Below w.heap.size w w' ∧ ((styR 20 (ps.take N) 0 < 0 ∧ e = .returned (.tuple #[.slice none 0 0, .int .i64 0, .int .i64 0, .bool false])) ∨
    (0 ≤ styR 20 (ps.take N) 0 ∧ ∃ B c x0, OkK (pkK kind par 1) x0.1 x0.2 N 0 ∧ (∀ i, (spOf x0.2 i).pc = 0) ∧ e = .returned (.tuple #[.slice B l.length c, .int .i64 (((Fai.longest N l + 1 : Nat)) : Int), .int .i64 (styR 20 (ps.take N) 0), .bool true]) ∧ Sl w' w'.heap.size B ((trOf kind par ps x0 l).flatMap Sp.dE)))
set_option maxHeartbeats 4000000 in
set_option maxRecDepth 100000 in
theorem played_any (kind par : Int) (N : Nat) (hM : mayK kind N par) (ps : List Pl) (Aq : Option Addr) (cp : Nat) (hp : ps.length ≤ 20) (l : List Int) (A : Option Addr) (cap : Nat) (hl : l.length ≤ 400) (hwf : ∀ t ∈ l, isI t) (w : World)
    (hq : Sl w w.heap.size Aq (ps.flatMap decPl)) (hs : Sl w w.heap.size A (l.flatMap decI)) :
    Calls Tryz.prog 44 #[.int .i64 kind, .int .i64 par, .int .i64 (N : Int), .slice Aq ps.length cp, .slice A l.length cap] w (Played kind par N ps l w) := by
  have hN2 := hM.2.1.2
  have HS := Lib.hid hs
  have HQ := Lib.hid hq
  have HST := rstay_any ps Aq cp N 20 w (by omega) (by omega) hq
  have HN := Lib.hid (gnew_any kind N par hM w)
  have HO1 := ok_flat kind N par hM (Ar.fresh 4096) (fun k _ => zeros_getD _ _) (by have : sizeK kind N par ≤ 100 := (by obtain ⟨_, h1, h2, h3⟩ := hM; unfold sizeK; repeat (first | split | omega)); simp [Ar.fresh, zerosW]; omega) (by simp [Ar.fresh, zerosW]) 0 (Nat.le_refl _)
  simp only [show (Ar.fresh 4096).t = 0 from rfl, Nat.zero_add] at HO1
  replace HO1 := Lib.hid HO1
  have HF1 := Lib.hid (fun σ1 => first_pc kind N par 1 σ1)
  have HWF := Lib.hid hwf
  clear hs hq hM hwf
  unfold Played
  generalize hD : styR 20 (ps.take N) 0 = D at *
  have HST := Lib.hid HST
  clear hD
  go_enter Tryz.func44, Tryz.ntmps44
  go_wp2_with fail
  refine HST.out.mono ?_
  rintro e wx ⟨rfl, hwx⟩
  obtain rfl := hwx.symm
  clear HST
  go_wp2_with fail
  refine HN.out.mono ?_
  rintro e w2 ⟨gg, gf, gl, hs, rfl, hk, ⟨b1, b2, b3, b4⟩, hb2⟩
  have hb := hk.blocks
  obtain ⟨p, x0, HPK, HK, HO, HF⟩ : ∃ (p : PK) (x0 : LS), Hid (pkK kind par 1 = p) ∧ Hid (GAt w2 gg gf gl (w.heap.size + 1) w.heap.size hs p x0.1 x0.2) ∧ Hid (OkK p x0.1 x0.2 N 0) ∧ Hid (∀ i, (spOf x0.2 i).pc = 0) := ⟨_, _, rfl, hk, HO1.out, HF1.out _⟩
  have HB := Lib.hid hb2
  clear hk hb2 HN HO1 HF1
  by_cases hneg : D < 0
  · go_wp2_with fail
    exact bodyPost_ret (v := .tuple #[.slice none 0 0, .int .i64 0, .int .i64 0, .bool false]) (by simp [results, Tryz.results44, go_sem]) rfl ⟨HB.out, .inl ⟨hneg, rfl⟩⟩
  · have HD := Lib.hid (show 0 ≤ D by omega)
    go_wp2_with fail
    have HR := Lib.hid (run_any (.pointer (some ⟨gg, 0, none⟩)) _ _ _ [w.heap.size + 1, w.heap.size, hs] w2 (gi_real gg gf gl (w.heap.size + 1) w.heap.size hs p N 0 (by omega) w2.heap.size (by omega) (by omega) (by omega) (by omega) (by omega) (by omega)) ps Aq cp (by omega)
      (fun W hW => (Sl.below HQ.out (HB.out.trans (hW.below HB.out.size (by simp; omega)))).more HB.out.size) l A cap (by omega) HWF.out (fun W hW => (Sl.below HS.out (HB.out.trans (hW.below HB.out.size (by simp; omega)))).more HB.out.size) x0 ⟨HK.out, HO.out⟩)
    refine HR.out.mono ?_
    rintro e w4 ⟨B, cb, rfl, hown, -, hm4⟩
    have HB4 := Lib.hid (HB.out.trans (hm4.below HB.out.size (by simp; omega)))
    have HW4 := Lib.hid (show w4.ownsRow (w2.heap.size + 1) 65 4 (.slice B l.length cb) l.length ((trOf kind par ps x0 l).flatMap Sp.dE) by
      unfold trOf; rw [← sl_ev3, HPK.out]; exact hown)
    clear hown hm4 HR HK
    go_wp2_with fail
    have hle := Fai.least_any l A cap (N : Int) w4 (by omega) ((Sl.below HS.out HB4.out).more HB4.out.size)
    rw [show Fai.som (N : Int) = N by unfold Fai.som; rw [if_neg (by omega), if_neg (by omega)]; omega] at hle
    refine hle.mono ?_
    rintro e w5 ⟨rfl, hb5⟩
    have HB5 := Lib.hid (HB4.out.trans (hb5.mono HB4.out.size))
    have HW5 := Lib.hid (own_mod HW4.out (Mod.of_below (S := []) hb5) (by simp))
    clear hb5 HB4 HW4 hle
    go_wp2_with fail
    obtain ⟨B2, c2, hBc, _, _, hsl⟩ := own_slice HW5.out
    cases hBc
    exact bodyPost_ret (v := .tuple #[.slice B l.length cb, .int .i64 (((Fai.longest N l + 1 : Nat)) : Int), .int .i64 D, .bool true]) (by simp [results, Tryz.results44, go_sem]) rfl ⟨HB5.out, .inr ⟨HD.out, B, cb, x0, HPK.out ▸ HO.out, HF.out, rfl, hsl⟩⟩
end Go.Proofs.YthffhhgaeolpgaaGreat.Sn

