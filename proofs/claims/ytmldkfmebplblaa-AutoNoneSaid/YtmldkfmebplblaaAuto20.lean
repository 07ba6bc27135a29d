/- The law AutoNone: its walk. -/
import Derived.Test.YtmldkfmebplblaaAuto19
namespace Go.Proofs.Ytmldkfmebplblaa.Aut
open Go.RowKit

theorem frame40 {a : Act} (h : a.tmps.size = 40) (hd : a.defers = []) : ∃ u : Nat → Value, a = { tmps := #[u 0, u 1, u 2, u 3, u 4, u 5, u 6, u 7, u 8, u 9, u 10, u 11, u 12, u 13, u 14, u 15, u 16, u 17, u 18, u 19, u 20, u 21, u 22, u 23, u 24, u 25, u 26, u 27, u 28, u 29, u 30, u 31, u 32, u 33, u 34, u 35, u 36, u 37, u 38, u 39], defers := [] } ∧ ∀ n, a.tmps.getD n undef = u n := by
  refine ⟨fun n => a.tmps.getD n undef, ?_, fun _ => rfl⟩
  have h1 := arr_lit a.tmps h
  cases a with
  | mk t d =>
    simp only at hd h1
    subst hd
    congr 1

/-- A lock without threads. -/
theorem do_empty (g : Nat) (e : Ev) (W : World) (H : AutoIn W g 0 []) (hg : g < W.heap.size) :
    Calls Try.prog 49 #[.pointer (some ⟨g, 0, none⟩), .agg (decE e).toArray] W fun x w' => x = .returned (.int .i64 (doS [] e).1) ∧ Below W.heap.size W w' := by
  have H2 : AutoIn W g W.heap.size [] := by
    obtain ⟨A, c, h1, _⟩ := H
    exact ⟨A, c, h1, .inl rfl⟩
  refine (do_any g W.heap.size [] e W H2 (by simp)).mono ?_
  rintro x w' ⟨rfl, _, n, rfl | ⟨q, v, rfl⟩⟩
  · exact ⟨rfl, below_drewN (below_new _ _) n⟩
  · exact ⟨rfl, (below_drewN (below_new _ _) n).setCell (Nat.le_refl _) _⟩

def No3 (w0 : World) (e : Ev) (W : World) : Prop :=
  Below w0.heap.size w0 W ∧ W.heap[w0.heap.size]? = some (boxE e) ∧ AutoIn W (w0.heap.size + 1) 0 [] ∧ AutoIn W (w0.heap.size + 1 + 1 + 1) 0 [] ∧ w0.heap.size + 1 + 1 + 1 + 1 ≤ W.heap.size
theorem empty_below {W W' : World} {g : Nat} (h : AutoIn W g 0 []) (hb : Below W.heap.size W W') : AutoIn W' g 0 [] := by
  have := h.lt
  obtain ⟨A, c, h1, _⟩ := h
  exact ⟨A, c, (hb.block g this).trans h1, .inl rfl⟩
theorem No3.step {w0 : World} {e : Ev} {W W' : World} (hb : Below W.heap.size W W') (h : No3 w0 e W) : No3 w0 e W' := by
  obtain ⟨h1, h2, h3, h4, h5⟩ := h
  exact ⟨h1.trans (hb.mono (by omega)), (hb.block _ (lt_of_blk h2)).trans h2, empty_below h3 hb, empty_below h4 hb, Nat.le_trans h5 hb.size⟩
theorem No3.cells {w0 : World} {e : Ev} {W : World} (h : No3 w0 e W) : W.cell? ⟨w0.heap.size, 0, none⟩ = some (.int .i64 e.kind) ∧ W.cell? ⟨w0.heap.size, 1, none⟩ = some (.int .i64 e.thread) ∧
    W.cell? ⟨w0.heap.size, 2, none⟩ = some (.bool e.read) ∧ W.cell? ⟨w0.heap.size, 3, none⟩ = some (.int .i64 e.count) := by
  have := h.2.1
  unfold boxE at this
  exact ⟨blk_cell this 0 (by simp), blk_cell this 1 (by simp), blk_cell this 2 (by simp), blk_cell this 3 (by simp)⟩

theorem rdo_zero (e : Ev) : rdo 0 [] e = (doS [] e).1 := by
  have h := do_ref 0 [] e
  have : stOf (som 0) [] = [] := rfl
  rw [this] at h
  exact h.symm

theorem rdo_b (e : Ev) (W : World) (x : Nat) (hx : rdo 0 [] e = x) :
    Calls Try.prog 50 #[.int .i64 0, .slice none 0 0, .agg (decE e).toArray] W fun r w' => r = .returned (.int .i64 x) ∧ Below W.heap.size W w' := by
  subst hx
  refine (rdo_any 0 [] e none 0 W (by simp) (.inl rfl)).mono ?_
  rintro r w' ⟨rfl, n, rfl⟩
  exact ⟨rfl, below_drewN (below_new _ _) n⟩
def P3 (w0 : World) (p : Option Addr) : Prop := p = none ∨ p = some ⟨w0.heap.size + 1, 0, none⟩ ∨ p = some ⟨w0.heap.size + 1 + 1 + 1, 0, none⟩
/-- Whichever of the three. -/
theorem do_none3 (w0 : World) (e : Ev) (W : World) (p : Option Addr) (x : Nat) (hx : rdo 0 [] e = x) (hp : p = none ∨ p = some ⟨w0.heap.size + 1, 0, none⟩ ∨ p = some ⟨w0.heap.size + 1 + 1 + 1, 0, none⟩) (H : No3 w0 e W) :
    Calls Try.prog 49 #[.pointer p, .agg (decE e).toArray] W fun r w' => r = .returned (.int .i64 x) ∧ Below W.heap.size W w' := by
  rw [← hx, rdo_zero]
  rcases hp with rfl | rfl | rfl
  · refine (do_nil e W).mono ?_
    rintro r w' ⟨rfl, rfl⟩
    exact ⟨rfl, below_new _ _⟩
  · exact do_empty _ e W H.2.2.1 H.2.2.1.lt
  · exact do_empty _ e W H.2.2.2.1 H.2.2.2.1.lt
section
variable (w0 : World) (e : Ev) (W : World) (p : Option Addr) (hp : p = none ∨ p = some ⟨w0.heap.size + 1, 0, none⟩ ∨ p = some ⟨w0.heap.size + 1 + 1 + 1, 0, none⟩) (H : No3 w0 e W)
include hp H
theorem threads3 : Calls Try.prog 57 #[.pointer p] W fun r w' => r = .returned (.int .i64 0) ∧ w' = W := by
  rcases hp with rfl | rfl | rfl
  · exact threads_nil W
  · exact threads_any _ [] W H.2.2.1.at_
  · exact threads_any _ [] W H.2.2.2.1.at_
theorem holder3 : Calls Try.prog 51 #[.pointer p] W fun r w' => r = .returned (.int .i64 (-1)) ∧ w' = W := by
  rcases hp with rfl | rfl | rfl
  · exact holder_nil W
  · exact holder_any _ [] W (by simp) H.2.2.1.at_
  · exact holder_any _ [] W (by simp) H.2.2.2.1.at_
theorem state3 (t : Int) : Calls Try.prog 53 #[.pointer p, .int .i64 t] W fun r w' => r = .returned (.int .i64 0) ∧ w' = W := by
  have h0 : stateOf [] t = 0 := by unfold stateOf; split <;> rfl
  rcases hp with rfl | rfl | rfl
  · exact state_nil t W
  · have := state_any _ [] t W H.2.2.1.at_
    rw [h0] at this
    exact this
  · have := state_any _ [] t W H.2.2.2.1.at_
    rw [h0] at this
    exact this
end

def NoJ (w : World) (e : Ev) (th : Int) (a : Act) (W : World) : Prop :=
  a.tmps.size = 40 ∧ a.defers = [] ∧ a.tmps.getD 1 undef = .int .i64 th ∧ a.tmps.getD 2 undef = .pointer (some ⟨w.heap.size, 0, none⟩) ∧ a.tmps.getD 12 undef = .agg #[.pointer none, .pointer (some ⟨w.heap.size + 1, 0, none⟩), .pointer (some ⟨w.heap.size + 1 + 1 + 1, 0, none⟩)] ∧
    ∃ k : Nat, a.tmps.getD 13 undef = .int .i64 k ∧ k ≤ 3 ∧ No3 w e W


theorem at3 (a b c : Value) (W : World) : (Instr.index 75 (.agg #[a, b, c]) (.int .i64 0)).run Try.prog W = .ok a W ∧ (Instr.index 75 (.agg #[a, b, c]) (.int .i64 1)).run Try.prog W = .ok b W ∧
    (Instr.index 75 (.agg #[a, b, c]) (.int .i64 2)).run Try.prog W = .ok c W := ⟨by kernel_rfl, by kernel_rfl, by kernel_rfl⟩
theorem no3_keep {w0 : World} {e : Ev} {c : Nat} {W W' : World} (hb : Below W.heap.size W W') (h : No3 w0 e W ∧ W.cell? ⟨c, 0, none⟩ = some (.int .i64 e.kind) ∧ W.cell? ⟨c, 1, none⟩ = some (.int .i64 e.thread) ∧ W.cell? ⟨c, 2, none⟩ = some (.bool e.read) ∧ W.cell? ⟨c, 3, none⟩ = some (.int .i64 e.count)) :
    No3 w0 e W' ∧ W'.cell? ⟨c, 0, none⟩ = some (.int .i64 e.kind) ∧ W'.cell? ⟨c, 1, none⟩ = some (.int .i64 e.thread) ∧ W'.cell? ⟨c, 2, none⟩ = some (.bool e.read) ∧ W'.cell? ⟨c, 3, none⟩ = some (.int .i64 e.count) := by
  obtain ⟨h1, h2, h3, h4, h5⟩ := h
  have hc : c < W.heap.size := World.block_lt_of_cell? _ _ h2
  exact ⟨h1.step hb, (hb.cell (p := ⟨c, 0, none⟩) hc).trans h2, (hb.cell (p := ⟨c, 1, none⟩) hc).trans h3, (hb.cell (p := ⟨c, 2, none⟩) hc).trans h4, (hb.cell (p := ⟨c, 3, none⟩) hc).trans h5⟩
theorem no3_of {w0 : World} {e : Ev} {W : World} {X : Prop} (h : No3 w0 e W ∧ X) : No3 w0 e W := h.1
theorem Below.drew' {W : World} : Below W.heap.size W W.drew := Below.drew (Below.refl _ _)

set_option maxHeartbeats 4000000 in
set_option maxRecDepth 100000 in
theorem none_walk (e : Ev) (th : Int) (w : World) :
    Calls Try.prog 13 #[.agg (decE e).toArray, .int .i64 th] w fun e w' => e = .returned (.bool true) ∧ Below w.heap.size w w' := by
  obtain ⟨x, hx⟩ : ∃ x, rdo 0 [] e = x := ⟨_, rfl⟩
  have HX := Lib.hid hx
  clear hx
  have exx := nbne_no (rfl : x = x)
  simp only [decE]
  have hz0 : som (-1) = 0 := by decide +kernel
  have KN : ∀ W : World, W.heap.size = w.heap.size + 1 + 1 → Calls Try.prog 48 #[.int .i64 (-1)] W fun e w' => e = .returned (.pointer (some ⟨w.heap.size + 1 + 1 + 1, 0, none⟩)) ∧ AutoIn w' (w.heap.size + 1 + 1 + 1) (w.heap.size + 1 + 1) [] ∧ w'.heap.size = w.heap.size + 1 + 1 + 1 + 1 ∧ Below W.heap.size W w' := by
    intro W hW
    have := new_in (-1) W
    rw [hz0, hW] at this
    rw [hW]
    exact this
  have KN := Lib.hid KN
  clear hz0
  go_enter Try.func13, Try.ntmps13
  go_wp2_with fail
  refine (KN.out _ (by simp)).mono ?_
  rintro r w1 ⟨rfl, hin, hsz, hb⟩
  have hno : No3 w e w1 := by
    have hin' : AutoIn w1 (w.heap.size + 1 + 1 + 1) 0 [] := by
      obtain ⟨A, c, h1, _⟩ := hin
      exact ⟨A, c, h1, .inl rfl⟩
    refine ⟨((below_new w _).alloc (by simp) _).trans (hb.mono (by simp; omega)), ?_, ⟨none, 0, ?_, .inl rfl⟩, hin', by omega⟩
    · exact (hb.block _ (by simp; omega)).trans (heap_alloc2_old _ _ _)
    · exact (hb.block _ (by simp)).trans (heap_alloc2_new _ _ _)
  clear hin hsz hb
  go_wp2_with fail
  refine wp_loop (NoJ w e th) (fun a' _ => 4 - (intOf (a'.tmps.getD 13 undef)).toNat) ?_ ?_
  · exact ⟨rfl, rfl, rfl, rfl, rfl, 0, rfl, by omega, hno⟩
  · clear hno
    rintro a' W ⟨hsz, hdf, s1, s2, s12, k, s13, hk, hno⟩
    obtain ⟨u, rfl, hu⟩ := frame40 hsz hdf
    rw [hu] at s1 s2 s12 s13
    simp only [s1, s2, s12, s13]
    clear hsz hdf s1 s2 s12 s13 hu
    rcases (show k = 0 ∨ k = 1 ∨ k = 2 ∨ k = 3 by omega) with rfl | rfl | rfl | rfl
    · have hp3 : P3 w none := .inl rfl
      obtain ⟨c0, c1, c2, c3⟩ := hno.cells
      obtain ⟨j0, j1, j2⟩ := at3 (.pointer none) (.pointer (some ⟨w.heap.size + 1, 0, none⟩)) (.pointer (some ⟨w.heap.size + 1 + 1 + 1, 0, none⟩)) W
      have hno2 : No3 w e W.drew := hno.step Below.drew'
      go_wp2_with fail
      go_region_held3 (fun V => No3 w e V ∧ V.cell? ⟨w.heap.size, 0, none⟩ = some (.int .i64 e.kind) ∧ V.cell? ⟨w.heap.size, 1, none⟩ = some (.int .i64 e.thread) ∧ V.cell? ⟨w.heap.size, 2, none⟩ = some (.bool e.read) ∧ V.cell? ⟨w.heap.size, 3, none⟩ = some (.int .i64 e.count))
        (first | exact ⟨hno2, c0, c1, c2, c3⟩ | exact no3_keep ‹_› ‹_›)
        (first
          | (go_at_call 49; refine (do_none3 w e _ none x HX.out hp3 (no3_of (by assumption))).mono ?_; rintro r w' ⟨rfl, hbb⟩)
          | (go_at_call 50; refine (rdo_b e _ x HX.out).mono ?_; rintro r w' ⟨rfl, hbb⟩)
          | (go_at_call 57; refine (of_same (threads3 w e _ none hp3 (no3_of (by assumption)))).mono ?_; rintro r w' ⟨rfl, hbb⟩)
          | (go_at_call 51; refine (of_same (holder3 w e _ none hp3 (no3_of (by assumption)))).mono ?_; rintro r w' ⟨rfl, hbb⟩)
          | (go_at_call 53; refine (of_same (state3 w e _ none hp3 (no3_of (by assumption)) th)).mono ?_; rintro r w' ⟨rfl, hbb⟩))
      go_wp2_with fail
      exact ⟨⟨rfl, rfl, rfl, rfl, rfl, 1, rfl, by omega, no3_of (by assumption)⟩, by simp [intOf]⟩
    · have hp3 : P3 w (some ⟨w.heap.size + 1, 0, none⟩) := .inr (.inl rfl)
      obtain ⟨c0, c1, c2, c3⟩ := hno.cells
      obtain ⟨j0, j1, j2⟩ := at3 (.pointer none) (.pointer (some ⟨w.heap.size + 1, 0, none⟩)) (.pointer (some ⟨w.heap.size + 1 + 1 + 1, 0, none⟩)) W
      have hno2 : No3 w e W.drew := hno.step Below.drew'
      go_wp2_with fail
      go_region_held3 (fun V => No3 w e V ∧ V.cell? ⟨w.heap.size, 0, none⟩ = some (.int .i64 e.kind) ∧ V.cell? ⟨w.heap.size, 1, none⟩ = some (.int .i64 e.thread) ∧ V.cell? ⟨w.heap.size, 2, none⟩ = some (.bool e.read) ∧ V.cell? ⟨w.heap.size, 3, none⟩ = some (.int .i64 e.count))
        (first | exact ⟨hno2, c0, c1, c2, c3⟩ | exact no3_keep ‹_› ‹_›)
        (first
          | (go_at_call 49; refine (do_none3 w e _ (some ⟨w.heap.size + 1, 0, none⟩) x HX.out hp3 (no3_of (by assumption))).mono ?_; rintro r w' ⟨rfl, hbb⟩)
          | (go_at_call 50; refine (rdo_b e _ x HX.out).mono ?_; rintro r w' ⟨rfl, hbb⟩)
          | (go_at_call 57; refine (of_same (threads3 w e _ (some ⟨w.heap.size + 1, 0, none⟩) hp3 (no3_of (by assumption)))).mono ?_; rintro r w' ⟨rfl, hbb⟩)
          | (go_at_call 51; refine (of_same (holder3 w e _ (some ⟨w.heap.size + 1, 0, none⟩) hp3 (no3_of (by assumption)))).mono ?_; rintro r w' ⟨rfl, hbb⟩)
          | (go_at_call 53; refine (of_same (state3 w e _ (some ⟨w.heap.size + 1, 0, none⟩) hp3 (no3_of (by assumption)) th)).mono ?_; rintro r w' ⟨rfl, hbb⟩))
      go_wp2_with fail
      exact ⟨⟨rfl, rfl, rfl, rfl, rfl, 2, rfl, by omega, no3_of (by assumption)⟩, by simp [intOf]⟩
    · have hp3 : P3 w (some ⟨w.heap.size + 1 + 1 + 1, 0, none⟩) := .inr (.inr rfl)
      obtain ⟨c0, c1, c2, c3⟩ := hno.cells
      obtain ⟨j0, j1, j2⟩ := at3 (.pointer none) (.pointer (some ⟨w.heap.size + 1, 0, none⟩)) (.pointer (some ⟨w.heap.size + 1 + 1 + 1, 0, none⟩)) W
      have hno2 : No3 w e W.drew := hno.step Below.drew'
      go_wp2_with fail
      go_region_held3 (fun V => No3 w e V ∧ V.cell? ⟨w.heap.size, 0, none⟩ = some (.int .i64 e.kind) ∧ V.cell? ⟨w.heap.size, 1, none⟩ = some (.int .i64 e.thread) ∧ V.cell? ⟨w.heap.size, 2, none⟩ = some (.bool e.read) ∧ V.cell? ⟨w.heap.size, 3, none⟩ = some (.int .i64 e.count))
        (first | exact ⟨hno2, c0, c1, c2, c3⟩ | exact no3_keep ‹_› ‹_›)
        (first
          | (go_at_call 49; refine (do_none3 w e _ (some ⟨w.heap.size + 1 + 1 + 1, 0, none⟩) x HX.out hp3 (no3_of (by assumption))).mono ?_; rintro r w' ⟨rfl, hbb⟩)
          | (go_at_call 50; refine (rdo_b e _ x HX.out).mono ?_; rintro r w' ⟨rfl, hbb⟩)
          | (go_at_call 57; refine (of_same (threads3 w e _ (some ⟨w.heap.size + 1 + 1 + 1, 0, none⟩) hp3 (no3_of (by assumption)))).mono ?_; rintro r w' ⟨rfl, hbb⟩)
          | (go_at_call 51; refine (of_same (holder3 w e _ (some ⟨w.heap.size + 1 + 1 + 1, 0, none⟩) hp3 (no3_of (by assumption)))).mono ?_; rintro r w' ⟨rfl, hbb⟩)
          | (go_at_call 53; refine (of_same (state3 w e _ (some ⟨w.heap.size + 1 + 1 + 1, 0, none⟩) hp3 (no3_of (by assumption)) th)).mono ?_; rintro r w' ⟨rfl, hbb⟩))
      go_wp2_with fail
      exact ⟨⟨rfl, rfl, rfl, rfl, rfl, 3, rfl, by omega, no3_of (by assumption)⟩, by simp [intOf]⟩
    · go_wp2_with fail
      refine (awake_any _).mono ?_
      rintro e W3 ⟨rfl, hb⟩
      go_wp2_with fail
      go_ret
      exact ⟨rfl, hno.1.trans (hb.mono (by have := hno.2.2.2.2; omega))⟩
end Go.Proofs.Ytmldkfmebplblaa.Aut
