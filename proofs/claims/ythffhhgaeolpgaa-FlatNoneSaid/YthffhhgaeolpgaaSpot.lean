/- Spots of slots: as Lean has them, and in memory. -/
import Derived.Test.YthffhhgaeolpgaaAta
import Derived.Test.YthffhhgaeolpgaaKeep
namespace Go.Proofs.Ythffhhgaeolpgaa.Lok
open Go.RowKit Go.Proofs.Ythffhhgaeolpgaa.Ara

structure Sp where
  pc : Int
  a : Int
  b : Int
  c : Int
  deriving DecidableEq
def decSp (s : Sp) : List Value := [.int .i64 s.pc, .int .i64 s.a, .int .i64 s.b, .int .i64 s.c]
def sp0 : Sp := ⟨0, 0, 0, 0⟩
theorem flat_set {α : Type} {dec : α → List Value} {k : Nat} (hdk : ∀ a, (dec a).length = k) (l : List α) (i j : Nat) (hj : j < k) (a a' : α) (ha : l[i]? = some a) (v : Value) (hv : dec a' = (dec a).set j v) :
    (l.flatMap dec).set (i * k + j) v = (l.set i a').flatMap dec := by
  induction l generalizing i with
  | nil => simp at ha
  | cons y l ih =>
    cases i with
    | zero =>
      obtain rfl : y = a := by simpa using ha
      rw [List.flatMap_cons, List.set_cons_zero, List.flatMap_cons, hv, Nat.zero_mul, Nat.zero_add, List.set_append_left _ _ (by rw [hdk]; exact hj)]
    | succ i =>
      rw [List.flatMap_cons, List.set_cons_succ, List.flatMap_cons, ← ih i (by simpa using ha), List.set_append_right _ _ (by rw [hdk, Nat.add_mul]; omega), hdk, show (i + 1) * k + j - k = i * k + j by rw [Nat.add_mul]; omega]
/-- Spots in memory: the first cells of block h. -/
def SpAt (W : World) (h : Nat) (sp : List Sp) : Prop :=
  ∃ cur : Array Value, W.heap[h]? = some (.cells cur 31 (0, 0)) ∧ cur.toList.take (sp.length * 4) = sp.flatMap decSp
theorem SpAt.lt {W : World} {h : Nat} {sp : List Sp} (k : SpAt W h sp) : h < W.heap.size := by
  obtain ⟨cur, h1, _⟩ := k
  exact lt_of_blk h1
theorem SpAt.of_blk {W W' : World} {h : Nat} {sp : List Sp} (k : SpAt W h sp) (e : W'.heap[h]? = W.heap[h]?) : SpAt W' h sp := by
  obtain ⟨cur, h1, h2⟩ := k
  exact ⟨cur, e.trans h1, h2⟩
theorem SpAt.mod {S : List Nat} {W W' : World} {h : Nat} {sp : List Sp} (k : SpAt W h sp) (hm : Mod S W W') (hh : h ∉ S) : SpAt W' h sp := k.of_blk (hm.block h k.lt hh)
theorem decSp_len (s : Sp) : (decSp s).length = 4 := rfl
theorem SpAt.cell {W : World} {h : Nat} {sp : List Sp} (k : SpAt W h sp) (i : Nat) (hi : i < sp.length) (j : Nat) (hj : j < 4) : W.cell? ⟨h, i * 4 + j, none⟩ = (decSp sp[i])[j]? := by
  obtain ⟨cur, h1, h2⟩ := k
  have h3 := flat_get decSp_len sp i j hj sp[i] (List.getElem?_eq_getElem hi)
  rw [← h2, List.getElem?_take_of_lt (by omega)] at h3
  have hl : i * 4 + j < cur.toList.length := by
    have := congrArg List.length h2
    rw [List.length_take, flat_len decSp_len] at this
    omega
  rw [← h3, blk_cell h1 (i * 4 + j) (by simpa using hl)]
  simp at hl
  simp [hl]
theorem SpAt.cells {W : World} {h : Nat} {sp : List Sp} (k : SpAt W h sp) (i : Nat) (hi : i < sp.length) :
    W.cell? ⟨h, i * 4, none⟩ = some (.int .i64 sp[i].pc) ∧ W.cell? ⟨h, i * 4 + 1, none⟩ = some (.int .i64 sp[i].a) ∧ W.cell? ⟨h, i * 4 + 2, none⟩ = some (.int .i64 sp[i].b) ∧ W.cell? ⟨h, i * 4 + 3, none⟩ = some (.int .i64 sp[i].c) ∧ ∀ j, W.frozen? ⟨h, j, none⟩ = false := by
  refine ⟨k.cell i hi 0 (by omega), k.cell i hi 1 (by omega), k.cell i hi 2 (by omega), k.cell i hi 3 (by omega), fun j => ?_⟩
  obtain ⟨cur, h1, _⟩ := k
  exact blk_free h1 j
theorem SpAt.set {W : World} {h : Nat} {sp : List Sp} (k : SpAt W h sp) (i : Nat) (hi : i < sp.length) (j : Nat) (hj : j < 4) (v : Value) (s' : Sp) (hv : decSp s' = (decSp sp[i]).set j v) : SpAt (W.setCell ⟨h, i * 4 + j, none⟩ v) h (sp.set i s') := by
  obtain ⟨cur, h1, h2⟩ := k
  refine ⟨cur.setIfInBounds (i * 4 + j) v, blk_set h1 _ _, ?_⟩
  rw [← flat_set decSp_len sp i j hj sp[i] s' (List.getElem?_eq_getElem hi) v hv, ← h2, List.length_set, Array.toList_setIfInBounds, List.take_set]
theorem SpAt.setPc {W : World} {h : Nat} {sp : List Sp} (k : SpAt W h sp) (i : Nat) (hi : i < sp.length) (x : Int) : SpAt (W.setCell ⟨h, i * 4, none⟩ (.int .i64 x)) h (sp.set i { sp[i] with pc := x }) := k.set i hi 0 (by omega) _ _ rfl
theorem SpAt.setA {W : World} {h : Nat} {sp : List Sp} (k : SpAt W h sp) (i : Nat) (hi : i < sp.length) (x : Int) : SpAt (W.setCell ⟨h, i * 4 + 1, none⟩ (.int .i64 x)) h (sp.set i { sp[i] with a := x }) := k.set i hi 1 (by omega) _ _ rfl
theorem SpAt.setB {W : World} {h : Nat} {sp : List Sp} (k : SpAt W h sp) (i : Nat) (hi : i < sp.length) (x : Int) : SpAt (W.setCell ⟨h, i * 4 + 2, none⟩ (.int .i64 x)) h (sp.set i { sp[i] with b := x }) := k.set i hi 2 (by omega) _ _ rfl

/-- The spot of a number; none: all zero. -/
def spOf (sp : List Sp) (i : Int) : Sp := if 0 ≤ i ∧ i < sp.length then sp.getD i.toNat sp0 else sp0
theorem spOf_in {sp : List Sp} {k : Nat} (h : k < sp.length) : spOf sp (k : Int) = sp[k] := by
  unfold spOf
  rw [if_pos (by omega), Int.toNat_natCast]
  simp [h]
theorem spOf_out {sp : List Sp} {i : Int} (h : i < 0 ∨ (sp.length : Int) ≤ i) : spOf sp i = sp0 := by
  unfold spOf
  rw [if_neg (by omega)]
/-- What 'turn' does. -/
def turnB (sp : List Sp) (i fr : Int) : Bool := decide (0 ≤ i) && decide (i < sp.length) && ((spOf sp i).pc == fr)
def turnS (sp : List Sp) (i fr to : Int) : List Sp := if turnB sp i fr then sp.set i.toNat { spOf sp i with pc := to } else sp
theorem turn_out {sp : List Sp} {i : Int} (h : i < 0 ∨ (sp.length : Int) ≤ i) (fr : Int) : turnB sp i fr = false := by
  unfold turnB
  rcases h with h | h
  · rw [decide_eq_false (by omega), Bool.false_and, Bool.false_and]
  · rw [decide_eq_false (p := i < _) (by omega), Bool.and_false, Bool.false_and]
theorem turn_in {sp : List Sp} {k : Nat} (h : k < sp.length) (fr : Int) : turnB sp (k : Int) fr = (sp[k].pc == fr) := by
  unfold turnB
  rw [decide_eq_true (by omega), decide_eq_true (by omega), spOf_in h]
  rfl
theorem turnS_in {sp : List Sp} {k : Nat} (h : k < sp.length) (fr to : Int) : turnS sp (k : Int) fr to = if sp[k].pc = fr then sp.set k { sp[k] with pc := to } else sp := by
  unfold turnS
  rw [turn_in h, spOf_in h, Int.toNat_natCast]
  simp only [beq_iff_eq]
theorem turnS_out {sp : List Sp} {i : Int} (h : i < 0 ∨ (sp.length : Int) ≤ i) (fr to : Int) : turnS sp i fr to = sp := by
  unfold turnS
  rw [turn_out h, if_neg (by decide)]
theorem turnS_len (sp : List Sp) (i fr to : Int) : (turnS sp i fr to).length = sp.length := by
  unfold turnS
  split
  · rw [List.length_set]
  · rfl
end Go.Proofs.Ythffhhgaeolpgaa.Lok
