/- Walks of layer 9: Robin, the reference's Robin, Same. -/
import Derived.Test.YtmldkfmebplblaaFair5
namespace Go.Proofs.Ytmldkfmebplblaa.Fai
open Go.RowKit

theorem make_ints (n : Nat) (h : n ≤ 65536) (W : World) : (Instr.makeSlice 34 (.int .i64 (n : Int)) (.int .i64 (n : Int))).run Try.prog W = .ok (.slice (some ⟨W.heap.size, 0, none⟩) n n) (W.alloc (.cells (zeros n) 3)) := by
  rw [run_make_row' (P := Try.prog) 34 3 (.int .i64 0) 8 Try.underlying34 infoI rfl .i64 .i64 n (by omega) (by omega) W, made_zero]
theorem zeros_list (n : Nat) : (zeros n).toList = (List.replicate n (0 : Int)).flatMap decI := by
  rw [flatI]
  simp [zeros, vI]

def robin (t r : Int) : List Int := roundsTo (som t) (List.replicate r.toNat 0) []

theorem below_chain {B : Nat} {a b c : World} (h : Below B a b) (k : Below b.heap.size b c) (hB : B ≤ a.heap.size) : Below B a c := h.trans (k.mono (Nat.le_trans hB h.size))

set_option maxRecDepth 100000 in
theorem robin_sl0 (c : Nat) (hc : c ≤ 4000) (t r : Int) (w : World) (hh : Hid (∀ W, (Instr.makeSlice 34 (.int .i64 (c : Int)) (.int .i64 (c : Int))).run Try.prog W = .ok (.slice (some ⟨W.heap.size, 0, none⟩) c c) (W.alloc (.cells (zeros c) 3))))
    (hr : Hid ((r ≤ 0 ∧ c = 0) ∨ (r = c ∧ 0 < c) ∨ (4000 < r ∧ c = 4000))) :
    Calls Try.prog 41 #[.int .i64 t, .int .i64 r] w fun e w' => ∃ V d, e = .returned (.slice V (robin t r).length d) ∧
      (robin t r).length ≤ d ∧ d ≤ maxLen ∧ Sl w' w'.heap.size V ((robin t r).flatMap decI) ∧ Below w.heap.size w w' := by
  have hrob : robin t r = roundsTo (som t) (List.replicate c 0) [] := by
    unfold robin
    rcases hr.out with ⟨h1, rfl⟩ | ⟨rfl, h0⟩ | ⟨h1, rfl⟩
    · rw [show r.toNat = 0 by omega]
    · rfl
    · exact roundsTo_sat _ _ _ (by omega)
  have S := Sl.made w (zeros c) 3
  rw [zeros_list] at S
  have hcall := (rounds_sl t (List.replicate c 0) (some ⟨w.heap.size, 0, none⟩) c (w.alloc (.cells (zeros c) 3)) (by simp; omega) (fun x hx => by rw [List.eq_of_mem_replicate hx]; exact ⟨by omega, by omega⟩) S)
  rw [List.length_replicate] at hcall
  have HC := Lib.hid hcall
  rw [hrob]
  clear hcall S hrob
  rcases hr.out with ⟨h1, rfl⟩ | ⟨rfl, h0⟩ | ⟨h1, rfl⟩
  · have hmk : ∀ W, (Instr.makeSlice 34 (.int .i64 0) (.int .i64 0)).run Try.prog W = .ok (.slice (some ⟨W.heap.size, 0, none⟩) 0 0) (W.alloc (.cells (zeros 0) 3)) := hh.out
    have hm2 : r ≤ 4000 := by omega
    by_cases h0 : r = 0
    all_goals
      go_enter Try.func41, Try.ntmps41
      go_wp2_with fail
      refine (HC.out).mono ?_
      rintro e w1 ⟨V, d, rfl, h1, h2, h3, hb⟩
      go_wp2_with fail
      go_ret
      exact ⟨V, d, rfl, h1, h2, h3, below_chain (below_new _ _) hb (Nat.le_refl _)⟩
  · have hmk := hh.out
    have h1 : (c : Int) ≤ 4000 := by omega
    have h2 : (0 : Int) ≤ (c : Int) := by omega
    go_enter Try.func41, Try.ntmps41
    go_wp2_with fail
    refine (HC.out).mono ?_
    rintro e w1 ⟨V, d, rfl, h1, h2, h3, hb⟩
    go_wp2_with fail
    go_ret
    exact ⟨V, d, rfl, h1, h2, h3, below_chain (below_new _ _) hb (Nat.le_refl _)⟩
  · have hmk : ∀ W, (Instr.makeSlice 34 (.int .i64 4000) (.int .i64 4000)).run Try.prog W = .ok (.slice (some ⟨W.heap.size, 0, none⟩) 4000 4000) (W.alloc (.cells (zeros 4000) 3)) := hh.out
    go_enter Try.func41, Try.ntmps41
    go_wp2_with fail
    refine (HC.out).mono ?_
    rintro e w1 ⟨V, d, rfl, h1, h2, h3, hb⟩
    go_wp2_with fail
    go_ret
    exact ⟨V, d, rfl, h1, h2, h3, below_chain (below_new _ _) hb (Nat.le_refl _)⟩

theorem robin_sl (t r : Int) (w : World) :
    Calls Try.prog 41 #[.int .i64 t, .int .i64 r] w fun e w' => ∃ V d, e = .returned (.slice V (robin t r).length d) ∧
      (robin t r).length ≤ d ∧ d ≤ maxLen ∧ Sl w' w'.heap.size V ((robin t r).flatMap decI) ∧ Below w.heap.size w w' := by
  by_cases h0 : r ≤ 0
  · exact robin_sl0 0 (by omega) t r w (fun W => make_ints 0 (by omega) W) (.inl ⟨h0, rfl⟩)
  · by_cases h1 : 4000 < r
    · exact robin_sl0 4000 (by omega) t r w (fun W => make_ints 4000 (by omega) W) (.inr (.inr ⟨h1, rfl⟩))
    · obtain ⟨c, rfl⟩ := Int.eq_ofNat_of_zero_le (show 0 ≤ r by omega)
      exact robin_sl0 c (by omega) t c w (fun W => make_ints c (by omega) W) (.inr (.inl ⟨rfl, by omega⟩))

theorem same_any (l k : List Int) (A C : Option Addr) (c1 c2 : Nat) (w : World) (hm : l.length ≤ 9223372036854775807) (hm2 : k.length ≤ 9223372036854775807)
    (hs : Sl w w.heap.size A (l.flatMap decI)) (ht : Sl w w.heap.size C (k.flatMap decI)) :
    Calls Try.prog 43 #[.slice A l.length c1, .slice C k.length c2] w fun e w' => e = .returned (.bool (decide (l = k))) ∧ Below w.heap.size w w' := by
  by_cases hl : l.length = k.length
  · have hlb := nbeq hl
    have hlb2 := nbne_no hl
    have HL := Lib.hid hl
    clear hl
    go_enter Try.func43, Try.ntmps43
    go_wp2
    go_loopw [5] (fun i wr => ∃ j : Nat, j ≤ l.length ∧ i = .int .i64 j ∧ l.take j = k.take j ∧ Below w.heap.size w wr) (fun i _ => l.length - (intOf i).toNat)
    case atStart => exact ⟨0, by omega, rfl, rfl, Below.refl _ _⟩
    case round =>
      obtain ⟨j, hj, rfl, hjt, hb⟩ := hrel
      have HJ := Lib.hid hjt
      clear hjt
      by_cases hlt : j < l.length
      · have hlt2 : j < k.length := by have := HL.out; omega
        obtain ⟨b, off, rfl, hbb, hcell⟩ := Sl_at (k := 1) (fun _ => rfl) (by omega) (hs.below hb) (by omega)
        obtain ⟨b', off', rfl, hbb', hcell'⟩ := Sl_at (k := 1) (fun _ => rfl) (by omega) (ht.below hb) (by omega)
        have h0 := hcell j hlt 0 (by omega)
        have g0 := hcell' j hlt2 0 (by omega)
        simp only [decI, List.getElem?_cons_zero, List.getElem?_cons_succ, Nat.add_zero, Nat.mul_one] at h0 g0
        clear hcell hcell'
        have i1 : (j : Int) < (k.length : Int) := by omega
        have i0 : (j : Int) < (l.length : Int) := by omega
        have hnx := Lib.hid (show l[j] = k[j] → l.take (j + 1) = k.take (j + 1) by
          intro h
          rw [List.take_succ_eq_append_getElem hlt, List.take_succ_eq_append_getElem hlt2, HJ.out, h])
        have hno := Lib.hid (show ¬ l[j] = k[j] → decide (l = k) = false by
          intro h
          rw [decide_eq_false_iff_not]
          rintro rfl
          exact h rfl)
        generalize l[j] = x at *
        generalize k[j] = y at *
        by_cases hn : x = y
        · have q := ibne_no hn
          have HN := Lib.hid (hnx.out hn)
          clear hn
          go_wp2_with fail
          go_quiet (fail)
          go_wp2
          go_roundw
          case rel => exact ⟨j + 1, by omega, by go_num, HN.out, below_drewN hb _⟩
          case measure => simp [intOf]; omega
        · have q := ibne hn
          have HN := Lib.hid (hno.out hn)
          clear hn
          go_wp2_with fail
          go_quiet (fail)
          go_wp2
          go_ret
          exact ⟨by rw [HN.out]; rfl, below_drewN hb _⟩
      · have he := Lib.hid (show decide (l = k) = true by
          rw [decide_eq_true_iff]
          have := HJ.out
          rwa [List.take_of_length_le (by omega), List.take_of_length_le (by have := HL.out; omega)] at this)
        go_wp2
        go_ret
        exact ⟨by rw [he.out]; rfl, hb⟩
  · have hlb2 := nbne hl
    have hn := Lib.hid (show decide (l = k) = false by simp; rintro rfl; exact hl rfl)
    clear hl
    go_enter Try.func43, Try.ntmps43
    go_wp2
    go_ret
    exact ⟨by rw [hn.out]; rfl, Below.refl _ _⟩
end Go.Proofs.Ytmldkfmebplblaa.Fai
