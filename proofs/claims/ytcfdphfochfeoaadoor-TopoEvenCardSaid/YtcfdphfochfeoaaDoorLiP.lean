/- Lines and words of a text, as Lean lists of bytes: what the reference computes, and what the program's library calls compute, are the same. -/
import Derived.Test.YtcfdphfochfeoaaDoorKit
import Derived.Lib.FieldsP
import Derived.Lib.SplitLaws
import Derived.Lib.Strings
import Derived.Lib.SpaceUEq
import Derived.Shelf.GgClosure.StringsTrimFunc
namespace Go.Proofs.YtcfdphfochfeoaaDoor.Li
open Go.Lib

abbrev B (l : List UInt8) : ByteArray := ⟨l.toArray⟩
abbrev L (s : ByteArray) : List UInt8 := s.data.toList
theorem L_B (l : List UInt8) : L (B l) = l := rfl
theorem B_L (s : ByteArray) : B (L s) = s := Lib.mk_data s
theorem L_inj {s t : ByteArray} (h : L s = L t) : s = t := by rw [← B_L s, ← B_L t, h]
theorem ext_L (s : ByteArray) (a b : Nat) : L (s.extract a b) = ((L s).drop a).take (b - a) := Lib.extract_data s a b
theorem size_L (s : ByteArray) : s.size = (L s).length := Lib.size_eq s
theorem size_B (l : List UInt8) : (B l).size = l.length := size_L (B l)

/-- Is a byte a blank? -/
def nb (c : UInt8) : Bool := c == 32 || c == 9
/-- Is a rune a blank? -/
def nbR (r : Nat) : Bool := r == 32 || r == 9
theorem nb_nat (c : UInt8) : nb c = nbR c.toNat := by
  unfold nb nbR
  rw [Bool.eq_iff_iff]
  simp [← UInt8.toNat_inj]

def headW (l : List UInt8) : List UInt8 := (l.dropWhile nb).takeWhile fun c => !nb c
def headR (l : List UInt8) : List UInt8 := (l.dropWhile nb).dropWhile fun c => !nb c
def wordsF : Nat → List UInt8 → List (List UInt8)
  | 0, _ => []
  | f + 1, l => if headW l = [] then [] else headW l :: wordsF f (headR l)
def words (l : List UInt8) : List (List UInt8) := wordsF (l.length + 1) l
/-- The words, byte by byte. -/
def fl : Option (List UInt8) → List UInt8 → List (List UInt8)
  | none, [] => []
  | some w, [] => [w]
  | none, b :: t => if nb b then fl none t else fl (some [b]) t
  | some w, b :: t => if nb b then w :: fl none t else fl (some (w ++ [b])) t
/-- The lines, byte by byte. -/
def rl : List UInt8 → List UInt8 → List (List UInt8)
  | cur, [] => if cur = [] then [] else [cur]
  | cur, b :: t => if b = 10 then cur :: rl [] t else rl (cur ++ [b]) t
/-- What lies between a byte's places. -/
def cut (c : UInt8) : List UInt8 → List UInt8 → List (List UInt8)
  | cur, [] => [cur]
  | cur, b :: t => if b = c then cur :: cut c [] t else cut c (cur ++ [b]) t
def lines (l : List UInt8) : List (List UInt8) := rl [] l
def textL (ls : List (List UInt8)) : List UInt8 := ls.flatMap (· ++ [10])

theorem len_split (p : UInt8 → Bool) (l : List UInt8) : (l.takeWhile p).length + (l.dropWhile p).length = l.length := by
  conv => rhs; rw [← List.takeWhile_append_dropWhile (p := p) (l := l)]
  rw [List.length_append]
theorem head_len (l : List UInt8) : (headW l).length + (headR l).length ≤ l.length := by
  unfold headW headR
  have := len_split nb l
  have := len_split (fun c => !nb c) (l.dropWhile nb)
  omega
theorem fl_none (l : List UInt8) : fl none l = fl none (l.dropWhile nb) := by
  induction l with
  | nil => rfl
  | cons b t ih =>
    by_cases h : nb b = true
    · rw [List.dropWhile_cons_of_pos h, ← ih]; simp [fl, h]
    · rw [List.dropWhile_cons_of_neg h]
theorem fl_some (l : List UInt8) : ∀ w, fl (some w) l = (w ++ l.takeWhile fun c => !nb c) :: fl none (l.dropWhile fun c => !nb c) := by
  induction l with
  | nil => intro w; simp [fl]
  | cons b t ih =>
    intro w
    by_cases h : nb b = true
    · simp [fl, h]
    · simp only [Bool.not_eq_true] at h
      rw [List.dropWhile_cons_of_pos (by simp [h]), List.takeWhile_cons_of_pos (by simp [h])]
      simp only [fl, h, Bool.false_eq_true, if_false]
      rw [ih, List.append_assoc, List.singleton_append]
theorem drop_head {p : UInt8 → Bool} {l : List UInt8} {b : UInt8} {t : List UInt8} (h : l.dropWhile p = b :: t) : p b = false := by
  induction l with
  | nil => simp at h
  | cons x r ih =>
    by_cases hx : p x = true
    · rw [List.dropWhile_cons_of_pos hx] at h; exact ih h
    · rw [List.dropWhile_cons_of_neg hx] at h
      cases h
      simpa using hx
theorem fl_head (l : List UInt8) : fl none l = if headW l = [] then [] else headW l :: fl none (headR l) := by
  rw [fl_none]
  unfold headW headR
  cases h : l.dropWhile nb with
  | nil => simp [fl]
  | cons b t =>
    have hb := drop_head h
    rw [List.takeWhile_cons_of_pos (by simp [hb]), List.dropWhile_cons_of_pos (by simp [hb])]
    simp only [fl, hb, Bool.false_eq_true, if_false]
    rw [fl_some]
    simp
theorem wordsF_fl : ∀ (f : Nat) (l : List UInt8), l.length < f → wordsF f l = fl none l
  | 0, l, h => by omega
  | f + 1, l, h => by
    rw [fl_head]
    unfold wordsF
    split
    · rfl
    · rename_i hw
      rw [wordsF_fl f]
      have := head_len l
      have : 0 < (headW l).length := List.length_pos_iff.2 hw
      omega
theorem words_fl (l : List UInt8) : words l = fl none l := wordsF_fl _ l (by omega)
theorem words_head (l : List UInt8) : words l = if headW l = [] then [] else headW l :: words (headR l) := by
  rw [words_fl, words_fl, fl_head]

/-! runes and bytes -/
theorem dec_blank (s : ByteArray) (pos : Nat) (hp : pos < s.size) :
    (nbR (Utf8.decode s pos).1 = true → (Utf8.decode s pos).2 = 1 ∧ nb ((L s).getD pos 0) = true) ∧
    (nbR (Utf8.decode s pos).1 = false → ∀ j, j < (Utf8.decode s pos).2 → nb ((L s).getD (pos + j) 0) = false) ∧ pos + (Utf8.decode s pos).2 ≤ s.size := by
  have hd : Utf8.decode s pos = decodeN ((L s).length - pos) ((L s).getD pos 0).toNat ((L s).getD (pos + 1) 0).toNat ((L s).getD (pos + 2) 0).toNat ((L s).getD (pos + 3) 0).toNat := decode_N s pos
  rw [hd]
  have hn : 1 ≤ (L s).length - pos := by rw [size_L] at hp; omega
  generalize hb0 : (L s).getD pos 0 = c0
  generalize hb1 : (L s).getD (pos + 1) 0 = c1
  generalize hb2 : (L s).getD (pos + 2) 0 = c2
  generalize hb3 : (L s).getD (pos + 3) 0 = c3
  have hc := decodeN_conts ((L s).length - pos) c0.toNat c1.toNat c2.toNat c3.toNat
  have hle := decodeN_le_n' ((L s).length - pos) c0.toNat c1.toNat c2.toNat c3.toNat hn
  have h256 := c0.toNat_lt
  have hcs := decodeN_cases ((L s).length - pos) c0.toNat c1.toNat c2.toNat c3.toNat
  have hasc := decodeN_ascii ((L s).length - pos) c0.toNat c1.toNat c2.toNat c3.toNat
  obtain ⟨q2, q3, q4, q5⟩ := hc
  have far : ∀ c : UInt8, 128 ≤ c.toNat → nb c = false := by
    intro c h
    rw [nb_nat]
    unfold nbR
    simp
    omega
  refine ⟨fun h => ?_, fun h => ?_, by rw [size_L]; have := size_L s; omega⟩
  · by_cases ha : c0.toNat < 128
    · rw [hasc ha] at h ⊢
      exact ⟨rfl, by rw [nb_nat]; exact h⟩
    · exfalso
      unfold nbR at h
      simp only [Bool.or_eq_true, beq_iff_eq] at h
      rcases hcs with ⟨c, e⟩ | ⟨c1', c2', c3', cv, e⟩ | ⟨c1', c2', c3', c4', cv, e⟩ | ⟨c, e⟩ | e
      · omega
      · rw [e] at h; simp only at h; omega
      · rw [e] at h; simp only at h; omega
      · omega
      · rw [e] at h; simp only at h; omega
  · intro j hj
    by_cases ha : c0.toNat < 128
    · rw [hasc ha] at h hj
      obtain rfl : j = 0 := by simp only at hj; omega
      rw [Nat.add_zero, hb0, nb_nat]; exact h
    · match j, hj with
      | 0, _ => rw [Nat.add_zero, hb0]; exact far _ (by omega)
      | 1, hj => rw [hb1]; exact far _ (by have := (q2 (by omega)).1; omega)
      | 2, hj => rw [hb2]; exact far _ (by have := (q3 (by omega)).1; omega)
      | 3, hj => rw [hb3]; exact far _ (by have := (q4 (by omega)).1; omega)
      | j + 4, hj => omega

theorem drop_cons (l : List UInt8) (pos : Nat) (h : pos < l.length) : l.drop pos = l.getD pos 0 :: l.drop (pos + 1) := by
  rw [List.drop_eq_getElem_cons h]
  congr 1
  simp [List.getD, h]
theorem skip (p : UInt8 → Bool) : ∀ (k : Nat) (l : List UInt8), k ≤ l.length → (∀ j, j < k → p (l.getD j 0) = true) →
    l.takeWhile p = l.take k ++ (l.drop k).takeWhile p ∧ l.dropWhile p = (l.drop k).dropWhile p
  | 0, l, _, _ => by simp
  | k + 1, [], h, _ => by simp at h
  | k + 1, b :: t, h, hz => by
    have h0 : p b = true := by simpa using hz 0 (by omega)
    have ih := skip p k t (by simpa using h) (fun j hj => by simpa using hz (j + 1) (by omega))
    rw [List.takeWhile_cons_of_pos h0, List.dropWhile_cons_of_pos h0, ih.1, ih.2]
    simp
theorem getD_drop (l : List UInt8) (p k : Nat) : (l.drop p).getD k 0 = l.getD (p + k) 0 := getD_dropU l p k

theorem idx_false (s : ByteArray) : ∀ (f pos : Nat), s.size ≤ pos + f → pos ≤ s.size →
    idxFuncFrom nbR false s f pos = if ((L s).drop pos).dropWhile nb = [] then -1 else (pos : Int) + (((L s).drop pos).takeWhile nb).length
  | 0, pos, h, hp => by
    have : (L s).drop pos = [] := List.drop_eq_nil_of_le (by rw [← size_L]; omega)
    rw [this]; rfl
  | f + 1, pos, h, hp => by
    by_cases hlt : pos < s.size
    · obtain ⟨d1, d2, d3⟩ := dec_blank s pos hlt
      have hl : pos < (L s).length := by rw [← size_L]; exact hlt
      rw [idxFuncFrom, if_pos hlt, drop_cons _ _ hl]
      cases hr : nbR (Utf8.decode s pos).1 with
      | false =>
        have hb := d2 hr 0 (width_pos s pos)
        rw [Nat.add_zero] at hb
        rw [if_pos rfl, List.dropWhile_cons_of_neg (by rw [hb]; simp), List.takeWhile_cons_of_neg (by rw [hb]; simp)]
        simp
      | true =>
        obtain ⟨e1, e2⟩ := d1 hr
        rw [if_neg (by simp), e1, idx_false s f (pos + 1) (by omega) (by omega), List.dropWhile_cons_of_pos e2, List.takeWhile_cons_of_pos e2]
        split
        · rfl
        · simp; omega
    · have : (L s).drop pos = [] := List.drop_eq_nil_of_le (by rw [← size_L]; omega)
      rw [idxFuncFrom, if_neg hlt, this]; rfl

theorem idx_true (s : ByteArray) : ∀ (f pos : Nat), s.size ≤ pos + f → pos ≤ s.size →
    idxFuncFrom nbR true s f pos = if ((L s).drop pos).dropWhile (fun c => !nb c) = [] then -1 else (pos : Int) + (((L s).drop pos).takeWhile fun c => !nb c).length
  | 0, pos, h, hp => by
    have : (L s).drop pos = [] := List.drop_eq_nil_of_le (by rw [← size_L]; omega)
    rw [this]; rfl
  | f + 1, pos, h, hp => by
    by_cases hlt : pos < s.size
    · obtain ⟨d1, d2, d3⟩ := dec_blank s pos hlt
      have hl : pos < (L s).length := by rw [← size_L]; exact hlt
      rw [idxFuncFrom, if_pos hlt]
      cases hr : nbR (Utf8.decode s pos).1 with
      | true =>
        obtain ⟨e1, e2⟩ := d1 hr
        rw [if_pos rfl, drop_cons _ _ hl, List.dropWhile_cons_of_neg (by rw [e2]; simp), List.takeWhile_cons_of_neg (by rw [e2]; simp)]
        simp
      | false =>
        have hk := width_pos s pos
        obtain ⟨g1, g2⟩ := skip (fun c => !nb c) (Utf8.decode s pos).2 ((L s).drop pos) (by rw [List.length_drop, ← size_L]; omega) (fun j hj => by rw [getD_drop, d2 hr j hj]; rfl)
        rw [if_neg (by simp), idx_true s f _ (by omega) d3, g2, g1, List.drop_drop, List.length_append, List.length_take, List.length_drop, ← size_L]
        split
        · rfl
        · rw [Nat.min_eq_left (by omega)]; omega
    · have : (L s).drop pos = [] := List.drop_eq_nil_of_le (by rw [← size_L]; omega)
      rw [idxFuncFrom, if_neg hlt, this]; rfl

theorem drop_take_len (p : UInt8 → Bool) (l : List UInt8) : l.drop (l.takeWhile p).length = l.dropWhile p := by
  conv => lhs; rw [← List.takeWhile_append_dropWhile (p := p) (l := l)]
  rw [List.takeWhile_append_dropWhile]
  induction l with
  | nil => rfl
  | cons b t ih =>
    by_cases h : p b = true
    · rw [List.takeWhile_cons_of_pos h, List.dropWhile_cons_of_pos h]; simpa using ih
    · rw [List.takeWhile_cons_of_neg h, List.dropWhile_cons_of_neg h]; rfl
theorem take_take_len (p : UInt8 → Bool) (l : List UInt8) : l.take (l.takeWhile p).length = l.takeWhile p := by
  induction l with
  | nil => rfl
  | cons b t ih =>
    by_cases h : p b = true
    · rw [List.takeWhile_cons_of_pos h]; simpa using ih
    · rw [List.takeWhile_cons_of_neg h]; rfl

theorem trimLeft_L (s : ByteArray) : trimLeftF nbR s = B ((L s).dropWhile nb) := by
  apply L_inj
  rw [L_B]
  unfold trimLeftF idxFunc
  rw [idx_false s s.size 0 (by omega) (by omega), List.drop_zero]
  by_cases h : (L s).dropWhile nb = []
  · rw [if_pos h, if_pos rfl, h]
  · rw [if_neg h, if_neg (by omega), show ((0 : Nat) : Int) + (((L s).takeWhile nb).length : Int) = (((L s).takeWhile nb).length : Nat) by omega, Int.toNat_natCast, extract_to_end]
    exact drop_take_len nb _
theorem index_L (s : ByteArray) : idxFunc nbR true s = if (L s).dropWhile (fun c => !nb c) = [] then -1 else (((L s).takeWhile fun c => !nb c).length : Int) := by
  unfold idxFunc
  rw [idx_true s s.size 0 (by omega) (by omega), List.drop_zero]
  split
  · rfl
  · omega

theorem fl_skip (k : Nat) : ∀ (l w : List UInt8), k ≤ l.length → (∀ j, j < k → nb (l.getD j 0) = false) → fl (some w) l = fl (some (w ++ l.take k)) (l.drop k) := by
  induction k with
  | zero => intro l w _ _; simp
  | succ k ih =>
    intro l w h hz
    cases l with
    | nil => simp at h
    | cons b t =>
      have h0 : nb b = false := by simpa using hz 0 (by omega)
      simp only [fl, h0, Bool.false_eq_true, if_false]
      rw [ih t _ (by simpa using h) (fun j hj => by simpa using hz (j + 1) (by omega))]
      simp
theorem fl_open (k : Nat) (l : List UInt8) (h1 : 1 ≤ k) (h : k ≤ l.length) (hz : ∀ j, j < k → nb (l.getD j 0) = false) : fl none l = fl (some (l.take k)) (l.drop k) := by
  obtain ⟨k, rfl⟩ : ∃ m, k = m + 1 := ⟨k - 1, by omega⟩
  cases l with
  | nil => simp at h
  | cons b t =>
    have h0 : nb b = false := by simpa using hz 0 (by omega)
    simp only [fl, h0, Bool.false_eq_true, if_false]
    rw [fl_skip k t _ (by simpa using h) (fun j hj => by simpa using hz (j + 1) (by omega))]
    simp
theorem spans_fl (s : ByteArray) : ∀ (f pos : Nat) (st : Option Nat) (acc : List (Nat × Nat)), s.size ≤ pos + f → pos ≤ s.size → (∀ a, st = some a → a < pos) →
    (closeSpans s (spansFromP nbR s f pos st acc)).map (fun p => pieceU (L s) p.1 p.2) = acc.map (fun p => pieceU (L s) p.1 p.2) ++ fl (st.map fun a => pieceU (L s) a pos) ((L s).drop pos) := by
  have atEnd : ∀ (pos : Nat) (st : Option Nat) (acc : List (Nat × Nat)), pos = s.size →
      (closeSpans s (acc, st)).map (fun p => pieceU (L s) p.1 p.2) = acc.map (fun p => pieceU (L s) p.1 p.2) ++ fl (st.map fun a => pieceU (L s) a pos) ((L s).drop pos) := by
    rintro pos st acc rfl
    have : (L s).drop s.size = [] := List.drop_eq_nil_of_le (by rw [← size_L]; exact Nat.le_refl _)
    rw [this]
    cases st with
    | none => simp [closeSpans, fl]
    | some a => simp [closeSpans, fl]
  intro f
  induction f with
  | zero =>
    intro pos st acc h hp hst
    exact atEnd pos st acc (by omega)
  | succ f ih =>
    intro pos st acc h hp hst
    by_cases hlt : pos < s.size
    · obtain ⟨d1, d2, d3⟩ := dec_blank s pos hlt
      have hl : pos < (L s).length := by rw [← size_L]; exact hlt
      have hk := width_pos s pos
      unfold spansFromP
      rw [if_pos hlt]
      cases hr : nbR (Utf8.decode s pos).1 with
      | true =>
        obtain ⟨e1, e2⟩ := d1 hr
        rw [if_pos rfl, e1]
        cases st with
        | none =>
          simp only
          rw [ih _ _ _ (by omega) (by omega) (by simp), drop_cons _ _ hl]
          generalize (L s).getD pos 0 = b at e2 ⊢
          simp [fl, e2]
        | some a =>
          simp only
          rw [ih _ _ _ (by omega) (by omega) (by simp), drop_cons _ _ hl]
          generalize (L s).getD pos 0 = b at e2 ⊢
          simp [fl, e2]
      | false =>
        have hz : ∀ j, j < (Utf8.decode s pos).2 → nb (((L s).drop pos).getD j 0) = false := fun j hj => by rw [getD_drop]; exact d2 hr j hj
        have hkl : (Utf8.decode s pos).2 ≤ ((L s).drop pos).length := by rw [List.length_drop, ← size_L]; omega
        rw [if_neg (by simp)]
        cases st with
        | none =>
          simp only
          rw [ih _ _ _ (by omega) d3 (fun a ha => by cases ha; omega), Option.map_none, fl_open _ _ hk hkl hz, List.drop_drop]
          simp only [Option.map_some]
          unfold pieceU
          rw [Nat.add_sub_cancel_left]
        | some a =>
          simp only
          have ha := hst a rfl
          rw [ih _ _ _ (by omega) d3 (fun a' ha' => by cases ha'; omega), Option.map_some, Option.map_some, fl_skip _ _ _ hkl hz, List.drop_drop, pieceU_grow _ _ _ _ (by omega)]
    · rw [spansFromP_end _ _ _ _ _ _ hlt]
      exact atEnd pos st acc (by omega)
theorem fields_L (s : ByteArray) : goFieldsP nbR s = (words (L s)).map B := by
  have h := spans_fl s s.size 0 none [] (by omega) (by omega) (by simp)
  simp only [List.map_nil, List.nil_append, Option.map_none, List.drop_zero] at h
  rw [words_fl, ← h, List.map_map]
  unfold goFieldsP spansOfP
  apply List.map_congr_left
  intro p _
  apply L_inj
  rw [ext_L]
  rfl

/-! lines -/
theorem index_cons (b c : UInt8) (t : List UInt8) : Lib.index (b :: t) [c] = if b = c then 0 else if Lib.index t [c] = -1 then -1 else Lib.index t [c] + 1 := by
  rw [Lib.index]
  have : ([c].isPrefixOf (b :: t)) = (c == b) := by simp [List.isPrefixOf]
  rw [this]
  by_cases h : b = c
  · subst h; simp
  · have h' : ¬ c = b := fun e => h e.symm
    simp [h, h']
theorem split_cut (c : UInt8) : ∀ (l cur : List UInt8), splitK [c] 0 (Lib.count l [c]) l = cut c [] l ∧
    cut c cur l = match cut c [] l with | [] => [] | x :: r => (cur ++ x) :: r := by
  intro l
  induction l with
  | nil =>
    intro cur
    constructor
    · show splitK [c] 0 _ [] = [[]]
      cases Lib.count [] [c] with
      | zero => rfl
      | succ n => simp [splitK, Lib.index]
    · simp [cut]
  | cons b t ih =>
    intro cur
    have i1 := (ih []).1
    by_cases h : b = c
    · subst h
      refine ⟨?_, by simp [cut]⟩
      rw [count_cons_eq, Nat.add_comm, splitK, index_cons, if_pos rfl]
      simp only [cut, if_true]
      rw [← i1]
      simp
    · refine ⟨?_, ?_⟩
      · rw [count_cons_ne _ _ _ h]
        simp only [cut, h, if_false, List.nil_append]
        rw [(ih [b]).2, ← i1]
        cases hk : Lib.count t [c] with
        | zero => simp [splitK]
        | succ n =>
          rw [splitK, splitK, index_cons, if_neg h]
          by_cases hi : Lib.index t [c] = -1
          · simp [hi]
          · have hge := Lib.index_ge t [c]
            rw [if_neg hi, if_neg (by simp; omega), if_neg (by simpa using hi)]
            simp only
            rw [show (Lib.index t [c] + 1).toNat + 0 = (Lib.index t [c]).toNat + 0 + 1 by omega, show (Lib.index t [c] + 1).toNat + [c].length = (Lib.index t [c]).toNat + [c].length + 1 by omega]
            simp
      · simp only [cut, h, if_false, List.nil_append]
        rw [(ih (cur ++ [b])).2, (ih [b]).2]
        cases cut c [] t with
        | nil => rfl
        | cons x r => simp
theorem split_L (s : ByteArray) (c : UInt8) : splitB (B [c]) 0 (countB s (B [c])) s = (cut c [] (L s)).map B := by
  have h := Lib.splitB_data (B [c]) 0 (countB s (B [c])) s
  have h2 : countB s (B [c]) = Lib.count (L s) [c] := rfl
  change _ = splitK [c] 0 (countB s (B [c])) (L s) at h
  rw [h2, (split_cut c (L s) []).1] at h
  rw [h2, ← h, List.map_map]
  conv => lhs; rw [← List.map_id (splitB _ _ _ _)]
  apply List.map_congr_left
  intro x _
  exact (B_L x).symm

theorem rl_snoc (l : List UInt8) : ∀ cur, rl cur (l ++ [10]) = cut 10 cur l := by
  induction l with
  | nil => intro cur; simp [rl, cut]
  | cons b t ih =>
    intro cur
    by_cases h : b = 10
    · simp [rl, cut, h, ih]
    · simp [rl, cut, h, ih]
theorem rl_cut (l : List UInt8) : ∀ cur, (l ≠ [] ∨ cur ≠ []) → (∀ t, l ≠ t ++ [10]) → rl cur l = cut 10 cur l := by
  induction l with
  | nil => intro cur h _; simp at h; simp [rl, cut, h]
  | cons b t ih =>
    intro cur _ hn
    have hn' : ∀ t', t ≠ t' ++ [10] := fun t' e => hn (b :: t') (by rw [e]; rfl)
    by_cases h : b = 10
    · subst h
      have ht : t ≠ [] := fun e => hn [] (by rw [e]; rfl)
      simp [rl, cut, ih [] (Or.inl ht) hn']
    · simp [rl, cut, h, ih (cur ++ [b]) (Or.inr (by simp)) hn']
/-- The program's lines. -/
theorem lines_cut (l : List UInt8) (h : l ≠ []) : cut 10 [] (Lib.trimSuffix l [10]) = lines l := by
  unfold Lib.trimSuffix lines Lib.hasSuffix
  by_cases hs : ([10] : List UInt8).isSuffixOf l = true
  · rw [if_pos hs]
    rw [List.isSuffixOf_iff_suffix] at hs
    obtain ⟨t, rfl⟩ := hs
    rw [rl_snoc]
    simp
  · rw [if_neg hs, rl_cut l [] (Or.inl h)]
    rintro t rfl
    exact hs (List.isSuffixOf_iff_suffix.2 ⟨t, rfl⟩)
theorem rl_text (x : List UInt8) : ∀ (cur t : List UInt8), 10 ∉ x → rl cur (x ++ 10 :: t) = (cur ++ x) :: rl [] t := by
  induction x with
  | nil => intro cur t _; simp [rl]
  | cons b r ih =>
    intro cur t h
    have hb : ¬ b = 10 := fun e => h (by rw [e]; simp)
    simp only [List.cons_append, rl, hb, if_false]
    rw [ih _ _ (fun e => h (by simp [e]))]
    simp
theorem lines_text (ls : List (List UInt8)) (h : ∀ x ∈ ls, (10 : UInt8) ∉ x) : lines (textL ls) = ls := by
  unfold lines textL
  induction ls with
  | nil => rfl
  | cons x r ih =>
    rw [List.flatMap_cons, List.append_assoc, List.singleton_append, rl_text x [] _ (h x (by simp)), ih (fun y hy => h y (by simp [hy]))]
    rfl
end Go.Proofs.YtcfdphfochfeoaaDoor.Li
