/- Merged texts: LiP, Li1, Li2, DeP, De1. -/
import Derived.Test.YtfnmggmgdmokcaaGreatDoorKit
import Derived.Lib.FieldsP
import Derived.Lib.SplitLaws
import Derived.Lib.Strings
import Derived.Lib.SpaceUEq
import Derived.Shelf.GgClosure.StringsTrimFunc
import Derived.Test.YtfnmggmgdmokcaaGreatDoorOpen
import Derived.Deep.OwnRows
set_option linter.unusedVariables false
/- Lines and words of a text, as Lean lists of bytes: what the reference computes, and what the program's library calls compute, are the same. -/
namespace Go.Proofs.YtfnmggmgdmokcaaGreatDoor.Li
open Go.Lib

abbrev B (l : List UInt8) : ByteArray := ⟨l.toArray⟩
abbrev L (s : ByteArray) : List UInt8 := s.data.toList
theorem L_B (l : List UInt8) : L (B l) = l := rfl
theorem B_L (s : ByteArray) : B (L s) = s := Lib.mk_data s
theorem L_inj {s t : ByteArray} (h : L s = L t) : s = t := by rw [← B_L s, ← B_L t, h]
theorem size_L (s : ByteArray) : s.size = (L s).length := Lib.size_eq s
theorem size_B (l : List UInt8) : (B l).size = l.length := size_L (B l)

def nb (c : UInt8) : Bool := c == 32 || c == 9
def headW (l : List UInt8) : List UInt8 := (l.dropWhile nb).takeWhile fun c => !nb c
def headR (l : List UInt8) : List UInt8 := (l.dropWhile nb).dropWhile fun c => !nb c
def wordsF : Nat → List UInt8 → List (List UInt8)
  | 0, _ => []
  | f + 1, l => if headW l = [] then [] else headW l :: wordsF f (headR l)
def words (l : List UInt8) : List (List UInt8) := wordsF (l.length + 1) l
def fl : Option (List UInt8) → List UInt8 → List (List UInt8)
  | none, [] => []
  | some w, [] => [w]
  | none, b :: t => if nb b then fl none t else fl (some [b]) t
  | some w, b :: t => if nb b then w :: fl none t else fl (some (w ++ [b])) t
def cut (c : UInt8) : List UInt8 → List UInt8 → List (List UInt8)
  | cur, [] => [cur]
  | cur, b :: t => if b = c then cur :: cut c [] t else cut c (cur ++ [b]) t
theorem len_split (p : UInt8 → Bool) (l : List UInt8) : (l.takeWhile p).length + (l.dropWhile p).length = l.length := by
  conv => rhs; rw [← List.takeWhile_append_dropWhile (p := p) (l := l)]
  rw [List.length_append]
/-! runes and bytes -/
theorem drop_cons (l : List UInt8) (pos : Nat) (h : pos < l.length) : l.drop pos = l.getD pos 0 :: l.drop (pos + 1) := by
  rw [List.drop_eq_getElem_cons h]
  congr 1
  simp [List.getD, h]
theorem skip (p : UInt8 → Bool) : ∀ (k : Nat) (l : List UInt8), k ≤ l.length → (∀ j, j < k → p (l.getD j 0) = true) →
    l.takeWhile p = l.take k ++ (l.drop k).takeWhile p ∧ l.dropWhile p = (l.drop k).dropWhile p
  | 0, l, _, _ => by simp
  | k + 1, [], h, _ => by simp at h
  | k + 1, b :: t, h, hz => by
    have h0 : p b = true := by simpa using hz 0 (by omega)
    have ih := skip p k t (by simpa using h) (fun j hj => by simpa using hz (j + 1) (by omega))
    rw [List.takeWhile_cons_of_pos h0, List.dropWhile_cons_of_pos h0, ih.1, ih.2]
    simp
/-! lines -/
theorem index_cons (b c : UInt8) (t : List UInt8) : Lib.index (b :: t) [c] = if b = c then 0 else if Lib.index t [c] = -1 then -1 else Lib.index t [c] + 1 := by
  rw [Lib.index]
  have : ([c].isPrefixOf (b :: t)) = (c == b) := by simp [List.isPrefixOf]
  rw [this]
  by_cases h : b = c
  · subst h; simp
  · have h' : ¬ c = b := fun e => h e.symm
    simp [h, h']
theorem split_cut (c : UInt8) : ∀ (l cur : List UInt8), splitK [c] 0 (Lib.count l [c]) l = cut c [] l ∧
    cut c cur l = match cut c [] l with | [] => [] | x :: r => (cur ++ x) :: r := by
  intro l
  induction l with
  | nil =>
    intro cur
    constructor
    · show splitK [c] 0 _ [] = [[]]
      cases Lib.count [] [c] with
      | zero => rfl
      | succ n => simp [splitK, Lib.index]
    · simp [cut]
  | cons b t ih =>
    intro cur
    have i1 := (ih []).1
    by_cases h : b = c
    · subst h
      refine ⟨?_, by simp [cut]⟩
      rw [count_cons_eq, Nat.add_comm, splitK, index_cons, if_pos rfl]
      simp only [cut, if_true]
      rw [← i1]
      simp
    · refine ⟨?_, ?_⟩
      · rw [count_cons_ne _ _ _ h]
        simp only [cut, h, if_false, List.nil_append]
        rw [(ih [b]).2, ← i1]
        cases hk : Lib.count t [c] with
        | zero => simp [splitK]
        | succ n =>
          rw [splitK, splitK, index_cons, if_neg h]
          by_cases hi : Lib.index t [c] = -1
          · simp [hi]
          · have hge := Lib.index_ge t [c]
            rw [if_neg hi, if_neg (by simp; omega), if_neg (by simpa using hi)]
            simp only
            rw [show (Lib.index t [c] + 1).toNat + 0 = (Lib.index t [c]).toNat + 0 + 1 by omega, show (Lib.index t [c] + 1).toNat + [c].length = (Lib.index t [c]).toNat + [c].length + 1 by omega]
            simp
      · simp only [cut, h, if_false, List.nil_append]
        rw [(ih (cur ++ [b])).2, (ih [b]).2]
        cases cut c [] t with
        | nil => rfl
        | cons x r => simp
theorem split_L (s : ByteArray) (c : UInt8) : splitB (B [c]) 0 (countB s (B [c])) s = (cut c [] (L s)).map B := by
  have h := Lib.splitB_data (B [c]) 0 (countB s (B [c])) s
  have h2 : countB s (B [c]) = Lib.count (L s) [c] := rfl
  change _ = splitK [c] 0 (countB s (B [c])) (L s) at h
  rw [h2, (split_cut c (L s) []).1] at h
  rw [h2, ← h, List.map_map]
  conv => lhs; rw [← List.map_id (splitB _ _ _ _)]
  apply List.map_congr_left
  intro x _
  exact (B_L x).symm

end Go.Proofs.YtfnmggmgdmokcaaGreatDoor.Li

/- Walks over texts: blanks, the first word. -/
namespace Go.Proofs.YtfnmggmgdmokcaaGreatDoor.Li
open Go.RowKit

abbrev vS (l : List UInt8) : Value := .string (B l)
theorem getD_at {l : List UInt8} {j : Nat} (h : j < l.length) : l.getD j 0 = l[j] := by simp only [List.getD, List.getElem?_eq_getElem h, Option.getD_some]
theorem ix_str (s : ByteArray) (i : Nat) (h : i < s.size) (W : World) : (Instr.index 9 (.string s) (.int .i64 (i : Int))).run Tryz.prog W = .ok (.int .u8 (((L s).getD i 0).toNat : Int)) W := by
  rw [run_index_string W _ s .i64 i Tryz.underlying9, dif_pos ⟨by omega, by omega⟩]
  have : s[((i : Int)).toNat]'(by omega) = (L s).getD i 0 := by
    have hl : i < (L s).length := by rw [← size_L]; exact h
    simp only [Int.toNat_natCast, List.getD, List.getElem?_eq_getElem hl, Option.getD_some]
    rfl
  rw [this]

end Go.Proofs.YtfnmggmgdmokcaaGreatDoor.Li

/- Walks of the reference over texts: the words, the lines, the text, texts compared. -/
namespace Go.Proofs.YtfnmggmgdmokcaaGreatDoor.Li
open Go.RowKit

theorem infoS : (Tryz.prog.info? 9).map (fun i => (i.zero, i.size, i.bytes)) = some (some (.string ⟨#[]⟩), 1, 16) := by kernel_rfl
theorem app_B (x y : List UInt8) : B x ++ B y = B (x ++ y) := L_inj (by rw [L_B]; simp [L, B])
theorem sl_str {w : World} {Bd : Nat} {A : Option Addr} {ls : List (List UInt8)} (h : Sl w Bd A (ls.map vS)) {k : Nat} (hk : k < ls.length) : ∃ b off, A = some ⟨b, off, none⟩ ∧ b < Bd ∧ ∀ j (h : j < ls.length), w.cell? ⟨b, off + j, none⟩ = some (vS ls[j]) := by
  obtain ⟨b, off, h1, h2, h3⟩ := h.at_ (by rw [List.length_map]; omega)
  refine ⟨b, off, h1, h2, fun j hj => ?_⟩
  have := h3 j (by rw [List.length_map]; exact hj)
  rw [List.getElem_map] at this
  exact this
set_option maxHeartbeats 4000000 in
theorem rsame_any (l k : List (List UInt8)) (A C : Option Addr) (c1 c2 : Nat) (w : World) (hm : l.length ≤ 4096) (hm2 : k.length ≤ 4096)
    (hs : Sl w w.heap.size A (l.map vS)) (ht : Sl w w.heap.size C (k.map vS)) :
    Calls Tryz.prog 14 #[.slice A l.length c1, .slice C k.length c2] w fun e w' => e = .returned (.bool (decide (l = k))) ∧ ∃ n, w' = w.drewN n := by
  by_cases hl : l.length = k.length
  · have hlb := nbeq hl
    have hlb2 := nbne_no hl
    have HL := Lib.hid hl
    clear hl
    go_enter Tryz.func14, Tryz.ntmps14
    go_wp2_with fail
    go_loopw [5] (fun i wr => ∃ j : Nat, j ≤ l.length ∧ i = .int .i64 j ∧ l.take j = k.take j ∧ ∃ n, wr = w.drewN n) (fun i _ => l.length - (intOf i).toNat)
    case atStart => exact ⟨0, by omega, rfl, rfl, 0, rfl⟩
    case round =>
      obtain ⟨j, hj, rfl, hjt, q, rfl⟩ := hrel
      have HJ := Lib.hid hjt
      clear hjt
      by_cases hlt : j < l.length
      · have hlt2 : j < k.length := by have := HL.out; omega
        obtain ⟨b, off, rfl, hbb, hcell⟩ := sl_str hs hlt
        obtain ⟨b', off', rfl, hbb', hcell'⟩ := sl_str ht hlt2
        have h0 : (w.drewN q).cell? _ = _ := hcell j hlt
        have g0 : (w.drewN q).cell? _ = _ := hcell' j hlt2
        clear hcell hcell'
        have i1 : (j : Int) < (k.length : Int) := by omega
        have i0 : (j : Int) < (l.length : Int) := by omega
        have hnx := Lib.hid (show l[j] = k[j] → l.take (j + 1) = k.take (j + 1) by
          intro h
          rw [List.take_succ_eq_append_getElem hlt, List.take_succ_eq_append_getElem hlt2, HJ.out, h])
        have hno := Lib.hid (show ¬ l[j] = k[j] → decide (l = k) = false by
          intro h
          rw [decide_eq_false_iff_not]
          rintro rfl
          exact h rfl)
        generalize l[j] = x at *
        generalize k[j] = y at *
        generalize hw1 : w.drewN q = w1 at *
        have HW1 := Lib.hid hw1
        clear hw1
        by_cases hn : x = y
        · have q := beq_iff_eq.2 hn
          have HN := Lib.hid (hnx.out hn)
          clear hn
          go_wp2_with fail
          go_quiet (fail)
          go_wp2
          go_roundw
          case rel => exact ⟨j + 1, by omega, by go_num, HN.out, _, by rw [← HW1.out, World.drewN_drewN]⟩
          case measure => simp [intOf]; omega
        · have q := beq_eq_false_iff_ne.2 hn
          have HN := Lib.hid (hno.out hn)
          clear hn
          go_wp2_with fail
          go_quiet (fail)
          go_wp2
          go_ret
          exact ⟨by rw [HN.out]; rfl, _, by rw [← HW1.out, World.drewN_drewN]⟩
      · have he := Lib.hid (show decide (l = k) = true by
          rw [decide_eq_true_iff]
          have := HJ.out
          rwa [List.take_of_length_le (by omega), List.take_of_length_le (by have := HL.out; omega)] at this)
        go_wp2
        go_ret
        exact ⟨by rw [he.out]; rfl, q, rfl⟩
  · have hlb2 := nbne hl
    have hn := Lib.hid (show decide (l = k) = false by simp; rintro rfl; exact hl rfl)
    clear hl
    go_enter Tryz.func14, Tryz.ntmps14
    go_wp2
    go_ret
    exact ⟨by rw [hn.out]; rfl, 0, rfl⟩
end Go.Proofs.YtfnmggmgdmokcaaGreatDoor.Li

/- Numbers and their texts, as Lean lists of bytes. -/
namespace Go.Proofs.YtfnmggmgdmokcaaGreatDoor.De
open Go.Proofs.YtfnmggmgdmokcaaGreatDoor.Li

def dg (n : Nat) : UInt8 := UInt8.ofNat (48 + n)
def isD (c : UInt8) : Bool := decide (48 ≤ c.toNat) && decide (c.toNat ≤ 57)
def dv (c : UInt8) : Nat := c.toNat - 48
theorem isD_iff (c : UInt8) : isD c = true ↔ 48 ≤ c.toNat ∧ c.toNat ≤ 57 := by simp [isD]
theorem dg_nat {n : Nat} (h : n < 10) : (dg n).toNat = 48 + n := by
  unfold dg
  rw [UInt8.toNat_ofNat']
  omega
theorem dg_dv {c : UInt8} (h : isD c = true) : dg (dv c) = c := by
  rw [isD_iff] at h
  apply UInt8.toNat_inj.1
  unfold dv
  rw [dg_nat (by omega)]
  omega
theorem dv_dg {n : Nat} (h : n < 10) : dv (dg n) = n := by unfold dv; rw [dg_nat h]; omega
theorem isD_dg {n : Nat} (h : n < 10) : isD (dg n) = true := by rw [isD_iff, dg_nat h]; omega
theorem dv_lt {c : UInt8} (h : isD c = true) : dv c < 10 := by rw [isD_iff] at h; unfold dv; omega

def digsF : Nat → Nat → List UInt8
  | 0, _ => []
  | f + 1, n => if n < 10 then [dg n] else digsF f (n / 10) ++ [dg (n % 10)]
def digs (n : Nat) : List UInt8 := digsF (n + 1) n
theorem digsF_fuel : ∀ (f g n : Nat), n < f → n < g → digsF f n = digsF g n
  | 0, g, n, h, _ => by omega
  | f + 1, 0, n, _, h => by omega
  | f + 1, g + 1, n, h1, h2 => by
    unfold digsF
    split
    · rfl
    · rw [digsF_fuel f g (n / 10) (by omega) (by omega)]
theorem digs_lt {n : Nat} (h : n < 10) : digs n = [dg n] := by unfold digs digsF; rw [if_pos h]
theorem digs_ge {n : Nat} (h : 10 ≤ n) : digs n = digs (n / 10) ++ [dg (n % 10)] := by
  have : digs n = digsF n (n / 10) ++ [dg (n % 10)] := by
    show digsF (n + 1) n = _
    rw [digsF, if_neg (by omega)]
  rw [this, digs, digsF_fuel n (n / 10 + 1) (n / 10) (by omega) (by omega)]

def val (l : List UInt8) : Nat := l.foldl (fun a c => 10 * a + dv c) 0
theorem val_nil : val [] = 0 := rfl
theorem val_snoc (l : List UInt8) (c : UInt8) : val (l ++ [c]) = 10 * val l + dv c := by simp [val]
theorem val_one (c : UInt8) : val [c] = dv c := by simp [val]

def canon : List UInt8 → Bool
  | [] => false
  | c :: t => (c :: t).all isD && (c != 48 || t.isEmpty)
theorem canon_iff (c : UInt8) (t : List UInt8) : canon (c :: t) = true ↔ (∀ x ∈ c :: t, isD x = true) ∧ (c = 48 → t = []) := by
  simp only [canon, Bool.and_eq_true, List.all_eq_true, Bool.or_eq_true, bne_iff_ne, List.isEmpty_iff]
  constructor
  · rintro ⟨h1, h2⟩
    exact ⟨h1, fun e => h2.resolve_left (fun n => n e)⟩
  · rintro ⟨h1, h2⟩
    refine ⟨h1, ?_⟩
    by_cases h : c = 48
    · exact .inr (h2 h)
    · exact .inl h
theorem digs_head : ∀ (k n : Nat), n ≤ k → ∃ c t, digs n = c :: t ∧ (∀ x ∈ c :: t, isD x = true) ∧ (1 ≤ n → c ≠ 48) ∧ (n < 10 → t = [])
  | k, n, hk => by
    by_cases h : n < 10
    · refine ⟨dg n, [], digs_lt h, by simpa using isD_dg h, fun h1 e => ?_, fun _ => rfl⟩
      have := congrArg UInt8.toNat e
      rw [dg_nat h] at this
      have h48 : (48 : UInt8).toNat = 48 := rfl
      omega
    · match k, hk with
      | 0, hk => omega
      | k + 1, hk =>
        obtain ⟨c, t, h1, h2, h3, h4⟩ := digs_head k (n / 10) (by omega)
        refine ⟨c, t ++ [dg (n % 10)], by rw [digs_ge (by omega), h1]; rfl, ?_, fun _ => h3 (by omega), fun h' => absurd h' h⟩
        intro x hx
        rw [← List.cons_append, List.mem_append] at hx
        rcases hx with hx | hx
        · exact h2 x hx
        · rw [List.mem_singleton.1 hx]; exact isD_dg (by omega)
theorem digs_canon (n : Nat) : canon (digs n) = true := by
  obtain ⟨c, t, h1, h2, h3, h4⟩ := digs_head n n (Nat.le_refl _)
  rw [h1, canon_iff]
  refine ⟨h2, fun e => h4 ?_⟩
  by_cases h : 1 ≤ n
  · exact absurd e (h3 h)
  · omega
theorem val_digs : ∀ (k n : Nat), n ≤ k → val (digs n) = n
  | k, n, hk => by
    by_cases h : n < 10
    · rw [digs_lt h, val_one, dv_dg h]
    · match k, hk with
      | 0, hk => omega
      | k + 1, hk =>
        rw [digs_ge (by omega), val_snoc, val_digs k (n / 10) (by omega), dv_dg (by omega)]
        omega
theorem canon_prefix {t : List UInt8} {c : UInt8} (ht : t ≠ []) (h : canon (t ++ [c]) = true) : canon t = true ∧ t ≠ [48] ∧ isD c = true := by
  cases t with
  | nil => exact absurd rfl ht
  | cons x r =>
    rw [List.cons_append, canon_iff] at h
    obtain ⟨h1, h2⟩ := h
    have hx : x ≠ 48 := fun e => by simpa using h2 e
    refine ⟨(canon_iff x r).2 ⟨fun y hy => h1 y (by rw [← List.cons_append, List.mem_append]; exact .inl hy), fun e => absurd e hx⟩, fun e => ?_, h1 c (by simp)⟩
    injection e with e _
    exact hx e
theorem digs_val : ∀ (k : Nat) (l : List UInt8), l.length ≤ k → canon l = true → digs (val l) = l ∧ (l ≠ [48] → 1 ≤ val l)
  | k, l, hk, h => by
    rcases List.eq_nil_or_concat l with rfl | ⟨t, c, rfl⟩
    · cases h
    · rw [List.concat_eq_append] at hk h ⊢
      by_cases ht : t = []
      · subst ht
        rw [List.nil_append] at h ⊢
        have hd : isD c = true := ((canon_iff c []).1 h).1 c (by simp)
        rw [val_one, digs_lt (dv_lt hd), dg_dv hd]
        refine ⟨rfl, fun hn => ?_⟩
        by_cases h0 : dv c = 0
        · refine absurd ?_ hn
          have := dg_dv hd
          rw [h0] at this
          rw [← this]; rfl
        · omega
      · obtain ⟨h1, h2, h3⟩ := canon_prefix ht h
        match k, hk with
        | 0, hk => simp at hk
        | k + 1, hk =>
          obtain ⟨i1, i2⟩ := digs_val k t (by simpa using hk) h1
          have i3 := i2 h2
          have hlt := dv_lt h3
          rw [val_snoc]
          refine ⟨?_, fun _ => by omega⟩
          rw [digs_ge (by omega), show (10 * val t + dv c) / 10 = val t by omega, i1, show (10 * val t + dv c) % 10 = dv c by omega, dg_dv h3]
theorem digs_pos {n : Nat} (h : 1 ≤ n) : digs n ≠ [48] := by
  intro e
  have := val_digs n n (Nat.le_refl _)
  rw [e, val_one] at this
  have h0 : dv 48 = 0 := rfl
  omega
theorem digs_len : ∀ (k n : Nat), n < 10 ^ (k + 1) → (digs n).length ≤ k + 1
  | 0, n, h => by rw [digs_lt (by simpa using h)]; simp
  | k + 1, n, h => by
    by_cases hn : n < 10
    · rw [digs_lt hn]; simp
    · rw [digs_ge (by omega), List.length_append]
      have := digs_len k (n / 10) (by rw [Nat.pow_succ] at h; omega)
      simp; omega

def txt (n : Int) : List UInt8 := if n < 0 then 45 :: digs n.natAbs else digs n.natAbs
theorem txt_len {n : Int} (h : -9223372036854775808 ≤ n ∧ n ≤ 9223372036854775807) : (txt n).length ≤ 20 := by
  have := digs_len 18 n.natAbs (by simp; omega)
  unfold txt
  split
  · simp; omega
  · omega
theorem isD_45 : isD 45 = false := by decide
def prs (s : List UInt8) : Option Int :=
  if s.head? = some 45 then (if canon (s.drop 1) = true ∧ s.drop 1 ≠ [48] ∧ val (s.drop 1) ≤ 9223372036854775808 then some (-(val (s.drop 1) : Int)) else none)
  else if canon s = true ∧ val s ≤ 9223372036854775807 then some (val s : Int) else none
theorem canon_no45 {s : List UInt8} (h : canon s = true) : s.head? ≠ some 45 := by
  cases s with
  | nil => simp
  | cons c t =>
    intro e
    have : c = 45 := by simpa using e
    subst this
    have := ((canon_iff 45 t).1 h).1 45 (by simp)
    rw [isD_45] at this
    cases this
theorem prs_txt {n : Int} (h : -9223372036854775808 ≤ n ∧ n ≤ 9223372036854775807) : prs (txt n) = some n := by
  unfold prs txt
  by_cases hn : n < 0
  · rw [if_pos hn]
    have hv := val_digs _ _ (Nat.le_refl n.natAbs)
    simp only [List.head?_cons, if_true, List.drop_succ_cons, List.drop_zero]
    rw [if_pos ⟨digs_canon _, digs_pos (by omega), by rw [hv]; omega⟩, hv]
    congr 1
    omega
  · rw [if_neg hn]
    have hv := val_digs _ _ (Nat.le_refl n.natAbs)
    rw [if_neg (canon_no45 (digs_canon _)), if_pos ⟨digs_canon _, by rw [hv]; omega⟩, hv]
    congr 1
    omega
theorem prs_some {s : List UInt8} {n : Int} (h : prs s = some n) : (-9223372036854775808 ≤ n ∧ n ≤ 9223372036854775807) ∧ s = txt n := by
  unfold prs at h
  split at h
  · rename_i h45
    split at h
    · rename_i hc
      obtain ⟨h1, h2, h3⟩ := hc
      injection h with h
      obtain ⟨d1, d2⟩ := digs_val _ (s.drop 1) (Nat.le_refl _) h1
      have d3 := d2 h2
      refine ⟨by omega, ?_⟩
      unfold txt
      rw [if_pos (by omega), show n.natAbs = val (s.drop 1) by omega, d1]
      cases s with
      | nil => cases h45
      | cons c t =>
        have : c = 45 := by simpa using h45
        rw [this]; rfl
    · cases h
  · split at h
    · rename_i hc
      obtain ⟨h1, h3⟩ := hc
      injection h with h
      obtain ⟨d1, d2⟩ := digs_val _ s (Nat.le_refl _) h1
      refine ⟨by omega, ?_⟩
      unfold txt
      rw [if_neg (by omega), show n.natAbs = val s by omega, d1]
    · cases h
theorem val_mono (l : List UInt8) : ∀ (i j : Nat), i ≤ j → val (l.take i) ≤ val (l.take j) := by
  intro i j h
  induction j with
  | zero => obtain rfl : i = 0 := by omega
            exact Nat.le_refl _
  | succ j ih =>
    by_cases he : i = j + 1
    · rw [he]; exact Nat.le_refl _
    · refine Nat.le_trans (ih (by omega)) ?_
      by_cases hj : j < l.length
      · rw [List.take_succ_eq_append_getElem hj, val_snoc]
        omega
      · rw [List.take_of_length_le (by omega), List.take_of_length_le (by omega)]
        exact Nat.le_refl _

def tk (s : List UInt8) : Nat → Int × Nat
  | 0 => (0, 0)
  | k + 1 => match prs (s.take (k + 1)) with
    | some m => (m, k + 1)
    | none => tk s k
def take (s : List UInt8) : Int × Nat := tk s (min s.length 20)
theorem tk_none (s : List UInt8) : ∀ k, (∀ j, j ≤ k → prs (s.take j) = none) → tk s k = (0, 0)
  | 0, _ => rfl
  | k + 1, h => by
    unfold tk
    rw [h (k + 1) (Nat.le_refl _)]
    exact tk_none s k (fun j hj => h j (by omega))
theorem tk_at (s : List UInt8) (i : Nat) (m : Int) (hm : prs (s.take i) = some m) : ∀ k, i ≤ k → (∀ j, i < j → j ≤ k → prs (s.take j) = none) → tk s k = (m, i)
  | 0, hi, _ => by
    obtain rfl : i = 0 := by omega
    simp [prs, canon] at hm
  | k + 1, hi, h => by
    by_cases he : i = k + 1
    · unfold tk
      rw [← he, hm]
    · unfold tk
      rw [h (k + 1) (by omega) (Nat.le_refl _)]
      exact tk_at s i m hm k (by omega) (fun j h1 h2 => h j h1 (by omega))
theorem prs_nil : prs [] = none := by simp [prs, canon]
theorem take_none {s : List UInt8} (h : ∀ j, j ≤ s.length → prs (s.take j) = none) : take s = (0, 0) := tk_none s _ (fun j hj => h j (by omega))
theorem prs_len {s : List UInt8} {m : Int} (h : prs s = some m) : s.length ≤ 20 := by
  obtain ⟨h1, rfl⟩ := prs_some h
  exact txt_len h1
theorem take_some {s : List UInt8} {i : Nat} {m : Int} (hi : i ≤ s.length) (hm : prs (s.take i) = some m) (h : ∀ j, i < j → j ≤ s.length → prs (s.take j) = none) : take s = (m, i) := by
  refine tk_at s i m hm _ ?_ (fun j h1 h2 => h j h1 (by omega))
  have := prs_len hm
  rw [List.length_take] at this
  omega
theorem canon_all {s : List UInt8} (h : canon s = true) : s ≠ [] ∧ ∀ x ∈ s, isD x = true := by
  cases s with
  | nil => cases h
  | cons c t => exact ⟨by simp, ((canon_iff c t).1 h).1⟩
theorem take_all (p : UInt8 → Bool) (l : List UInt8) (j : Nat) (hj : j ≤ l.length) (h : ∀ x ∈ l.take j, p x = true) : j ≤ (l.takeWhile p).length := by
  induction l generalizing j with
  | nil => simpa using hj
  | cons c t ih =>
    cases j with
    | zero => omega
    | succ j =>
      have hc : p c = true := h c (by simp)
      rw [List.takeWhile_cons_of_pos hc]
      have := ih j (by simpa using hj) (fun x hx => h x (by simp [hx]))
      simp; omega
theorem all_take (p : UInt8 → Bool) (l : List UInt8) (j : Nat) (hj : j ≤ (l.takeWhile p).length) : ∀ x ∈ l.take j, p x = true := by
  induction l generalizing j with
  | nil => simp
  | cons c t ih =>
    cases j with
    | zero => simp
    | succ j =>
      by_cases hc : p c = true
      · rw [List.takeWhile_cons_of_pos hc] at hj
        intro x hx
        rw [List.take_succ_cons, List.mem_cons] at hx
        rcases hx with rfl | hx
        · exact hc
        · exact ih j (by simpa using hj) x hx
      · rw [List.takeWhile_cons_of_neg hc] at hj
        simp at hj
theorem canon_take {l : List UInt8} {i : Nat} (hi : 1 ≤ i) (hil : i ≤ l.length) (hm : i ≤ (l.takeWhile isD).length) (h48 : l.head? ≠ some 48 ∨ i = 1) : canon (l.take i) = true := by
  cases l with
  | nil => simp at hil; omega
  | cons c t =>
    obtain ⟨i, rfl⟩ : ∃ k, i = k + 1 := ⟨i - 1, by omega⟩
    have ha := all_take isD (c :: t) (i + 1) hm
    rw [List.take_succ_cons] at ha ⊢
    rw [canon_iff]
    refine ⟨ha, fun e => ?_⟩
    rcases h48 with h | h
    · exact absurd (by rw [e]; rfl) h
    · obtain rfl : i = 0 := by omega
      simp
theorem take_pos {s : List UInt8} (h45 : s.head? ≠ some 45) :
    ((s.takeWhile isD).length = 0 → take s = (0, 0)) ∧ (0 < (s.takeWhile isD).length → s.head? = some 48 → take s = (0, 1)) ∧
    (∀ i, 1 ≤ i → i ≤ (s.takeWhile isD).length → s.head? ≠ some 48 → val (s.take i) ≤ 9223372036854775807 → (i = (s.takeWhile isD).length ∨ 9223372036854775807 < val (s.take (i + 1))) → take s = ((val (s.take i) : Int), i)) := by
  have hlen : (s.takeWhile isD).length ≤ s.length := by have := len_split isD s; omega
  have h45' : ∀ j, (s.take j).head? ≠ some 45 := by
    intro j
    cases s with
    | nil => simp
    | cons c t => cases j <;> simp_all
  have hp : ∀ j, prs (s.take j) = if canon (s.take j) = true ∧ val (s.take j) ≤ 9223372036854775807 then some (val (s.take j) : Int) else none := by
    intro j
    unfold prs
    rw [if_neg (h45' j)]
  have hno : ∀ j, j ≤ s.length → (s.takeWhile isD).length < j → prs (s.take j) = none := by
    intro j hj h
    rw [hp, if_neg]
    rintro ⟨hc, _⟩
    have := take_all isD s j hj (canon_all hc).2
    omega
  refine ⟨fun h0 => take_none (fun j hj => ?_), fun h0 h48 => ?_, fun i hi hm h48 hv hor => ?_⟩
  · cases j with
    | zero => exact prs_nil
    | succ j => exact hno _ hj (by omega)
  · have hc := canon_take (l := s) (i := 1) (by omega) (by omega) (by omega) (.inr rfl)
    have h1 : s.take 1 = [48] := by
      cases s with
      | nil => simp at h48
      | cons c t => simpa using h48
    refine take_some (by omega) ?_ (fun j h1 h2 => ?_)
    · rw [hp, if_pos ⟨hc, by rw [h1]; decide⟩, h1]; rfl
    · rw [hp, if_neg]
      rintro ⟨hc, _⟩
      cases s with
      | nil => simp at h48
      | cons c t =>
        obtain ⟨j, rfl⟩ : ∃ k, j = k + 2 := ⟨j - 2, by omega⟩
        rw [List.take_succ_cons] at hc
        have := ((canon_iff _ _).1 hc).2 (by simpa using h48)
        cases t with
        | nil => simp at h2
        | cons d r => simp at this
  · refine take_some (by omega) ?_ (fun j h1 h2 => ?_)
    · rw [hp, if_pos ⟨canon_take hi (by omega) hm (.inl h48), hv⟩]
    · by_cases hj : (s.takeWhile isD).length < j
      · exact hno j h2 hj
      · rw [hp, if_neg]
        rintro ⟨_, hv2⟩
        rcases hor with h | h
        · omega
        · have := val_mono s (i + 1) j (by omega)
          omega
theorem take_neg (t : List UInt8) :
    ((t.takeWhile isD).length = 0 → take (45 :: t) = (0, 0)) ∧ (t.head? = some 48 → take (45 :: t) = (0, 0)) ∧
    (∀ i, 1 ≤ i → i ≤ (t.takeWhile isD).length → t.head? ≠ some 48 → val (t.take i) ≤ 9223372036854775808 → (i = (t.takeWhile isD).length ∨ 9223372036854775808 < val (t.take (i + 1))) → take (45 :: t) = (-(val (t.take i) : Int), i + 1)) := by
  have hlen : (t.takeWhile isD).length ≤ t.length := by have := len_split isD t; omega
  have hp : ∀ j, prs ((45 :: t).take (j + 1)) = if canon (t.take j) = true ∧ t.take j ≠ [48] ∧ val (t.take j) ≤ 9223372036854775808 then some (-(val (t.take j) : Int)) else none := by
    intro j
    unfold prs
    rw [List.take_succ_cons, List.head?_cons, if_pos rfl, List.drop_succ_cons, List.drop_zero]
  have hno : ∀ j, j ≤ t.length → (t.takeWhile isD).length < j → prs ((45 :: t).take (j + 1)) = none := by
    intro j hj h
    rw [hp, if_neg]
    rintro ⟨hc, _⟩
    have := take_all isD t j hj (canon_all hc).2
    omega
  have h0' : prs ((45 :: t).take 0) = none := prs_nil
  have h1' : prs ((45 :: t).take 1) = none := by rw [hp, if_neg]; rintro ⟨hc, _⟩; simp [canon] at hc
  refine ⟨fun h0 => take_none (fun j hj => ?_), fun h48 => take_none (fun j hj => ?_), fun i hi hm h48 hv hor => ?_⟩
  · match j with
    | 0 => exact h0'
    | 1 => exact h1'
    | j + 2 => exact hno (j + 1) (by simpa using hj) (by omega)
  · match j with
    | 0 => exact h0'
    | 1 => exact h1'
    | j + 2 =>
      rw [hp, if_neg]
      rintro ⟨hc, hn, _⟩
      cases t with
      | nil => simp at h48
      | cons c r =>
        rw [List.take_succ_cons] at hc hn
        have he := ((canon_iff _ _).1 hc).2 (by simpa using h48)
        rw [he] at hn
        exact hn (by simpa using h48)
  · refine take_some (by simp; omega) ?_ (fun j h1 h2 => ?_)
    · have hc := canon_take hi (by omega) hm (.inl h48)
      have hn : t.take i ≠ [48] := by
        intro e
        apply h48
        cases t with
        | nil => simp at e
        | cons c r =>
          obtain ⟨i, rfl⟩ : ∃ k, i = k + 1 := ⟨i - 1, by omega⟩
          rw [List.take_succ_cons] at e
          injection e with e _
          rw [e]; rfl
      rw [hp, if_pos ⟨hc, hn, hv⟩]
    · obtain ⟨j, rfl⟩ : ∃ k, j = k + 1 := ⟨j - 1, by omega⟩
      by_cases hj : (t.takeWhile isD).length < j
      · exact hno j (by simpa using h2) hj
      · rw [hp, if_neg]
        rintro ⟨_, _, hv2⟩
        rcases hor with h | h
        · omega
        · have := val_mono t (i + 1) j (by omega)
          omega
theorem prs_take {s : List UInt8} : prs s = if (take s).2 ≠ 0 ∧ (take s).2 = s.length then some (take s).1 else none := by
  cases h : prs s with
  | some m =>
    have : take s = (m, s.length) := take_some (Nat.le_refl _) (by rw [List.take_length]; exact h) (fun j h1 h2 => by omega)
    rw [this, if_pos]
    refine ⟨fun e => ?_, rfl⟩
    have : s = [] := List.eq_nil_of_length_eq_zero e
    rw [this, prs_nil] at h
    cases h
  | none =>
    rw [if_neg]
    rintro ⟨h1, h2⟩
    have key : ∀ k, k ≤ s.length → (tk s k).2 = s.length → (tk s k).2 ≠ 0 → prs s ≠ none := by
      intro k
      induction k with
      | zero => intro _ _ h; exact absurd rfl h
      | succ k ih =>
        intro hk e1 e2
        unfold tk at e1 e2
        cases hq : prs (s.take (k + 1)) with
        | some m =>
          rw [hq] at e1
          simp only at e1
          rw [e1, List.take_length] at hq
          rw [hq]; simp
        | none =>
          rw [hq] at e1 e2
          exact ih (by omega) e1 e2
    exact key _ (Nat.min_le_left _ _) h2 h1 h

/-! lists -/
theorem cut_none (c : UInt8) (x : List UInt8) (h : c ∉ x) : ∀ cur, cut c cur x = [cur ++ x] := by
  induction x with
  | nil => intro cur; simp [cut]
  | cons b r ih =>
    intro cur
    have hb : ¬ b = c := fun e => h (by rw [e]; simp)
    simp only [cut, hb, if_false]
    rw [ih (fun e => h (by simp [e]))]
    simp
theorem cut_app (c : UInt8) (x t : List UInt8) (h : c ∉ x) : ∀ cur, cut c cur (x ++ c :: t) = (cur ++ x) :: cut c [] t := by
  induction x with
  | nil => intro cur; simp [cut]
  | cons b r ih =>
    intro cur
    have hb : ¬ b = c := fun e => h (by rw [e]; simp)
    simp only [List.cons_append, cut, hb, if_false]
    rw [ih (fun e => h (by simp [e]))]
    simp
theorem cut_ne (c : UInt8) (l : List UInt8) : ∀ cur, cut c cur l ≠ [] := by
  induction l with
  | nil => intro cur; simp [cut]
  | cons b t ih => intro cur; unfold cut; split; simp; exact ih _
end Go.Proofs.YtfnmggmgdmokcaaGreatDoor.De

/- Walks of numbers' texts: the reference's Text. -/
namespace Go.Proofs.YtfnmggmgdmokcaaGreatDoor.De
open Go.RowKit Go.Proofs.YtfnmggmgdmokcaaGreatDoor.Li

end Go.Proofs.YtfnmggmgdmokcaaGreatDoor.De

