/- Rows of bools; who enters and waits where, as rows: the plain law of layer 22's Moves. -/
import Derived.Test.YtdkggdfofmgdlaaSp14
import Derived.Test.YtdkggdfofmgdlaaMake
namespace Go.Proofs.Ytdkggdfofmgdlaa.Sp
open Go.RowKit
theorem infoB : (Try.prog.info? 4).map (fun i => (i.zero, i.size, i.bytes)) = some (some (.bool false), 1, 1) := by kernel_rfl
def bv (l : List Bool) : Array Value := (l.map Value.bool).toArray
def BRow (W : World) (g : Nat) (l : List Bool) : Prop := W.heap[g]? = some (.cells (bv l) 4 (0, 0))
theorem zeros_bool (n : Nat) : ((List.replicate n (Value.bool false).cells.toList).flatten).toArray = bv (List.replicate n false) := by
  unfold bv
  congr 1
  induction n with
  | zero => rfl
  | succ n ih => rw [List.replicate_succ, List.flatten_cons, ih, List.replicate_succ, List.map_cons]; rfl
theorem make_b (n : Nat) (h : n ≤ 1000) (W : World) : (Instr.makeSlice 40 (.int .i64 (n : Int)) (.int .i64 (n : Int))).run Try.prog W = .ok (.slice (some ⟨W.heap.size, 0, none⟩) n n) (W.alloc (.cells (bv (List.replicate n false)) 4)) := by
  rw [run_make_rows (P := Try.prog) 40 4 (.bool false) 1 1 Try.underlying40 infoB rfl .i64 .i64 n (by omega) (by omega) W, zeros_bool]
theorem BRow.cell {W : World} {g : Nat} {l : List Bool} (h : BRow W g l) {i : Nat} (hi : i < l.length) : W.cell? ⟨g, i, none⟩ = some (.bool (l.getD i false)) := by
  rw [blk_cell h i (by simpa [bv] using hi), List.getD_eq_getElem?_getD, List.getElem?_eq_getElem hi]
  simp [bv]
theorem BRow.free {W : World} {g : Nat} {l : List Bool} (h : BRow W g l) (i : Nat) : W.frozen? ⟨g, i, none⟩ = false := blk_free h i
theorem BRow.set {W : World} {g : Nat} {l : List Bool} (h : BRow W g l) (i : Nat) (b : Bool) : BRow (W.setCell ⟨g, i, none⟩ (.bool b)) g (l.set i b) := by
  unfold BRow
  rw [blk_set h i]
  simp [bv, List.map_set]
theorem BRow.other {W : World} {g : Nat} {l : List Bool} (h : BRow W g l) {p : Addr} (hn : g ≠ p.block) (u : Value) : BRow (W.setCell p u) g l := blk_other h hn u
theorem BRow.alloc {W : World} {g : Nat} {l : List Bool} (h : BRow W g l) (o : Obj) : BRow (W.alloc o) g l := blk_alloc h o
/-- Where somebody enters, and where somebody waits, as far as has been looked. -/
def entR (out : List St) (n i : Nat) : List Bool := (List.range n).map fun j => entD (out.take i) j
def wtR (out : List St) (n i a k : Nat) : List Bool := (List.range n).map fun j => wtD (out.take i) j || (decide (a ≤ j) && decide (j < k))
theorem entR_len (out : List St) (n i : Nat) : (entR out n i).length = n := by simp [entR]
theorem wtR_len (out : List St) (n i a k : Nat) : (wtR out n i a k).length = n := by simp [wtR]
theorem entR_nil (out : List St) (n : Nat) : entR out n 0 = List.replicate n false := by
  apply List.ext_getElem
  · simp [entR]
  · intro i h1 h2
    simp [entR, entD]
theorem wtR_nil (out : List St) (n a : Nat) : wtR out n 0 a a = List.replicate n false := by
  apply List.ext_getElem
  · simp [wtR]
  · intro i h1 h2
    simp [wtR, wtD]
theorem wtR_any (out : List St) (n i a b : Nat) : wtR out n i a a = wtR out n i b b := by
  unfold wtR
  apply List.map_congr_left
  intro j _
  have h1 : (decide (a ≤ j) && decide (j < a)) = false := by simp
  have h2 : (decide (b ≤ j) && decide (j < b)) = false := by simp
  rw [h1, h2]
theorem take_any (f : St → Bool) {out : List St} {i : Nat} (h : i < out.length) : (out.take (i + 1)).any f = ((out.take i).any f || f (out.getD i s0)) := by
  rw [List.take_succ_eq_append_getElem h, List.any_append, List.getD_eq_getElem?_getD, List.getElem?_eq_getElem h]
  simp
theorem entR_no {out : List St} {n i : Nat} (h : i < out.length) (he : (out.getD i s0).en < 0) : entR out n (i + 1) = entR out n i := by
  unfold entR entD
  apply List.map_congr_left
  intro j _
  rw [take_any _ h]
  have : decide ((out.getD i s0).en = (j : Int)) = false := by simp only [decide_eq_false_iff_not]; omega
  rw [this, Bool.or_false]
theorem entR_set {out : List St} {n i e : Nat} (h : i < out.length) (he : (out.getD i s0).en = (e : Int)) : (entR out n i).set e true = entR out n (i + 1) := by
  apply List.ext_getElem
  · simp [entR]
  · intro j h1 h2
    rw [List.getElem_set]
    simp only [entR, List.getElem_map, List.getElem_range, entD]
    rw [take_any _ h, he]
    split
    · rename_i hj
      subst hj
      simp
    · rename_i hj
      have : decide ((e : Int) = (j : Int)) = false := by simp only [decide_eq_false_iff_not]; omega
      rw [this, Bool.or_false]
theorem wtR_set {out : List St} {n i a k : Nat} (h : a ≤ k) : (wtR out n i a k).set k true = wtR out n i a (k + 1) := by
  apply List.ext_getElem
  · simp [wtR]
  · intro j h1 h2
    rw [List.getElem_set]
    simp only [wtR, List.getElem_map, List.getElem_range]
    split
    · rename_i hj
      subst hj
      have : decide (k < k + 1) = true := by simp
      rw [this, decide_eq_true h]
      simp
    · rename_i hj
      congr 2
      exact decide_eq_decide.2 ⟨fun h => by omega, fun h => by omega⟩
theorem wtR_next {out : List St} {n i a k : Nat} (h : i < out.length) (ha : (out.getD i s0).ask = (a : Int)) (hk : ((out.getD i s0).en < 0 ∧ k = n) ∨ (out.getD i s0).en = (k : Int)) : wtR out n i a k = wtR out n (i + 1) 0 0 := by
  unfold wtR wtD
  apply List.map_congr_left
  intro j hj
  rw [List.mem_range] at hj
  rw [take_any _ h, ha, Bool.or_assoc]
  congr 1
  have h0 : (decide (0 ≤ j) && decide (j < 0)) = false := by simp
  rw [h0, Bool.or_false]
  have h1 : decide (a ≤ j) = decide ((a : Int) ≤ (j : Int)) := decide_eq_decide.2 ⟨fun h => by omega, fun h => by omega⟩
  rw [h1]
  congr 1
  rcases hk with ⟨h2, h3⟩ | h2
  · rw [decide_eq_true h2, decide_eq_true (show j < k by omega)]
    rfl
  · rw [h2, decide_eq_false (show ¬ (k : Int) < 0 by omega), Bool.false_or]
    exact decide_eq_decide.2 ⟨fun h => by omega, fun h => by omega⟩
theorem entR_at {out : List St} {n j : Nat} (h : j < n) : (entR out n out.length).getD j false = entD out j := by
  rw [List.getD_eq_getElem?_getD, List.getElem?_eq_getElem (by rw [entR_len]; exact h)]
  simp [entR]
theorem wtR_at {out : List St} {n j : Nat} (h : j < n) : (wtR out n out.length 0 0).getD j false = wtD out j := by
  rw [List.getD_eq_getElem?_getD, List.getElem?_eq_getElem (by rw [wtR_len]; exact h)]
  simp [wtR]
theorem nextE_step {out : List St} {n d p : Nat} (hd : d < n) (hp : p + d + 1 = n) : nextE out n (d + 1) = if entD out p then p else nextE out n d := by
  have : n - (d + 1) = p := by omega
  rw [nextE, this]
theorem badP_at {out : List St} {n d p : Nat} {within : Int} (hp : p + d + 1 = n) : badP out n within p = (wtD out p && decide (within < (nextE out n d : Int) - (p : Int)) && decide (within ≤ (n : Int) - 1 - (p : Int))) := by
  unfold badP
  rw [show n - (p + 1) = d by omega]
theorem nextE_le (out : List St) (n : Nat) : ∀ d, nextE out n d ≤ n
  | 0 => Nat.le_refl _
  | d + 1 => by
    unfold nextE
    split
    · omega
    · exact nextE_le out n d
theorem moves_yesP {out : List St} {n : Nat} {within : Int} (h : ∀ i, i < n → badP out n within i = false) : movesD out n within = true := moves_yes fun i hi => by rw [← bad_eq out n within i hi]; exact h i hi
theorem moves_noP {out : List St} {n : Nat} {within : Int} {j : Nat} (hj : j < n) (h : badP out n within j = true) : movesD out n within = false := moves_no hj (by rw [← bad_eq out n within j hj]; exact h)
end Go.Proofs.Ytdkggdfofmgdlaa.Sp
