/- The law SharedNone: its walk. -/
import Derived.Test.YtfdcojhgpfmloaaShL1
import Derived.Deep.RegionHeld3
namespace Go.Proofs.Ytfdcojhgpfmloaa.Sha
open Go.RowKit

theorem frame49 {a : Act} (h : a.tmps.size = 49) (hd : a.defers = []) : ∃ u : Nat → Value, a = { tmps := #[u 0, u 1, u 2, u 3, u 4, u 5, u 6, u 7, u 8, u 9, u 10, u 11, u 12, u 13, u 14, u 15, u 16, u 17, u 18, u 19, u 20, u 21, u 22, u 23, u 24, u 25, u 26, u 27, u 28, u 29, u 30, u 31, u 32, u 33, u 34, u 35, u 36, u 37, u 38, u 39, u 40, u 41, u 42, u 43, u 44, u 45, u 46, u 47, u 48], defers := [] } ∧ ∀ n, a.tmps.getD n undef = u n := by
  refine ⟨fun n => a.tmps.getD n undef, ?_, fun _ => rfl⟩
  have h1 := arr_lit a.tmps h
  cases a with
  | mk t d =>
    simp only at hd h1
    subst hd
    congr 1
/-- A lock without threads. -/
theorem do_empty (g : Nat) (e : Ev) (W : World) (H : ShIn W g 0 []) :
    Calls Try.prog 16 #[.pointer (some ⟨g, 0, none⟩), .agg (decE e).toArray] W fun x w' => x = .returned (.int .i64 (doS [] e).1) ∧ Below W.heap.size W w' := by
  have hg := H.lt
  have H2 : ShIn W g W.heap.size [] := by
    obtain ⟨hl, A, c, h1, _⟩ := H
    exact ⟨hl, A, c, h1, .inl rfl⟩
  refine (do_any g W.heap.size [] e W H2).mono ?_
  rintro x w' ⟨rfl, _, hm⟩
  exact ⟨rfl, hm.below (Nat.le_refl _) (by simp)⟩

def No3 (w0 : World) (e : Ev) (W : World) : Prop :=
  Below w0.heap.size w0 W ∧ W.heap[w0.heap.size]? = some (boxE e) ∧ ShIn W (w0.heap.size + 1) 0 [] ∧ ShIn W (w0.heap.size + 1 + 1 + 1) 0 [] ∧ w0.heap.size + 1 + 1 + 1 + 1 ≤ W.heap.size
theorem No3.step {w0 : World} {e : Ev} {W W' : World} (hb : Below W.heap.size W W') (h : No3 w0 e W) : No3 w0 e W' := by
  obtain ⟨h1, h2, h3, h4, h5⟩ := h
  exact ⟨h1.trans (hb.mono (by omega)), (hb.block _ (lt_of_blk h2)).trans h2, h3.step hb, h4.step hb, Nat.le_trans h5 hb.size⟩
theorem No3.cells {w0 : World} {e : Ev} {W : World} (h : No3 w0 e W) : W.cell? ⟨w0.heap.size, 0, none⟩ = some (.int .i64 e.kind) ∧ W.cell? ⟨w0.heap.size, 1, none⟩ = some (.int .i64 e.thread) ∧
    W.cell? ⟨w0.heap.size, 2, none⟩ = some (.bool e.read) ∧ W.cell? ⟨w0.heap.size, 3, none⟩ = some (.int .i64 e.count) := by
  have := h.2.1
  unfold boxE at this
  exact ⟨blk_cell this 0 (by simp), blk_cell this 1 (by simp), blk_cell this 2 (by simp), blk_cell this 3 (by simp)⟩
theorem rdo_zero (e : Ev) : rdo 0 [] e = (doS [] e).1 := (do_ref 0 [] e).symm
theorem rdo_b (e : Ev) (W : World) (x : Nat) (hx : rdo 0 [] e = x) :
    Calls Try.prog 17 #[.int .i64 0, .slice none 0 0, .agg (decE e).toArray] W fun r w' => r = .returned (.int .i64 x) ∧ Below W.heap.size W w' := by
  subst hx
  exact rdo_any 0 [] none 0 W (by simp) (.inl rfl) e
def P3 (w0 : World) (p : Option Addr) : Prop := p = none ∨ p = some ⟨w0.heap.size + 1, 0, none⟩ ∨ p = some ⟨w0.heap.size + 1 + 1 + 1, 0, none⟩
section
variable (w0 : World) (e : Ev) (W : World) (p : Option Addr) (hp : P3 w0 p) (H : No3 w0 e W)
include hp H
theorem do_none3 (x : Nat) (hx : rdo 0 [] e = x) : Calls Try.prog 16 #[.pointer p, .agg (decE e).toArray] W fun r w' => r = .returned (.int .i64 x) ∧ Below W.heap.size W w' := by
  rw [← hx, rdo_zero]
  rcases hp with rfl | rfl | rfl
  · exact do_nil e W
  · exact do_empty _ e W H.2.2.1
  · exact do_empty _ e W H.2.2.2.1
theorem writer3 : Calls Try.prog 19 #[.pointer p] W fun r w' => r = .returned (.int .i64 (-1)) ∧ Below W.heap.size W w' := by
  rcases hp with rfl | rfl | rfl
  · exact writer_nil W
  · exact writer_any _ [] W H.2.2.1.lk
  · exact writer_any _ [] W H.2.2.2.1.lk
theorem readers3 : Calls Try.prog 21 #[.pointer p] W fun r w' => r = .returned (.int .i64 0) ∧ Below W.heap.size W w' := by
  rcases hp with rfl | rfl | rfl
  · exact readers_nil W
  · exact readers_any _ [] W H.2.2.1.lk
  · exact readers_any _ [] W H.2.2.2.1.lk
theorem state3 (t : Int) : Calls Try.prog 18 #[.pointer p, .int .i64 t] W fun r w' => r = .returned (.tuple #[.int .i64 0, .bool false]) ∧ Below W.heap.size W w' := by
  have h0 : stOfT [] t = (0, false) := by unfold stOfT; split <;> rfl
  rcases hp with rfl | rfl | rfl
  · exact state_nil t W
  · have := state_any _ [] t W H.2.2.1.lk
    rw [h0] at this
    exact this
  · have := state_any _ [] t W H.2.2.2.1.lk
    rw [h0] at this
    exact this
end
def NoJ (w : World) (e : Ev) (th : Int) (a : Act) (W : World) : Prop :=
  a.tmps.size = 49 ∧ a.defers = [] ∧ a.tmps.getD 1 undef = .int .i64 th ∧ a.tmps.getD 2 undef = .pointer (some ⟨w.heap.size, 0, none⟩) ∧ a.tmps.getD 14 undef = .agg #[.pointer none, .pointer (some ⟨w.heap.size + 1, 0, none⟩), .pointer (some ⟨w.heap.size + 1 + 1 + 1, 0, none⟩)] ∧
    ∃ k : Nat, a.tmps.getD 15 undef = .int .i64 k ∧ k ≤ 3 ∧ No3 w e W
theorem at3 (a b c : Value) (W : World) : (Instr.index 45 (.agg #[a, b, c]) (.int .i64 0)).run Try.prog W = .ok a W ∧ (Instr.index 45 (.agg #[a, b, c]) (.int .i64 1)).run Try.prog W = .ok b W ∧
    (Instr.index 45 (.agg #[a, b, c]) (.int .i64 2)).run Try.prog W = .ok c W := ⟨by kernel_rfl, by kernel_rfl, by kernel_rfl⟩
theorem no3_keep {w0 : World} {e : Ev} {c : Nat} {W W' : World} (hb : Below W.heap.size W W') (h : No3 w0 e W ∧ W.cell? ⟨c, 0, none⟩ = some (.int .i64 e.kind) ∧ W.cell? ⟨c, 1, none⟩ = some (.int .i64 e.thread) ∧ W.cell? ⟨c, 2, none⟩ = some (.bool e.read) ∧ W.cell? ⟨c, 3, none⟩ = some (.int .i64 e.count)) :
    No3 w0 e W' ∧ W'.cell? ⟨c, 0, none⟩ = some (.int .i64 e.kind) ∧ W'.cell? ⟨c, 1, none⟩ = some (.int .i64 e.thread) ∧ W'.cell? ⟨c, 2, none⟩ = some (.bool e.read) ∧ W'.cell? ⟨c, 3, none⟩ = some (.int .i64 e.count) := by
  obtain ⟨h1, h2, h3, h4, h5⟩ := h
  have hc : c < W.heap.size := World.block_lt_of_cell? _ _ h2
  exact ⟨h1.step hb, (hb.cell (p := ⟨c, 0, none⟩) hc).trans h2, (hb.cell (p := ⟨c, 1, none⟩) hc).trans h3, (hb.cell (p := ⟨c, 2, none⟩) hc).trans h4, (hb.cell (p := ⟨c, 3, none⟩) hc).trans h5⟩
theorem no3_of {w0 : World} {e : Ev} {W : World} {X : Prop} (h : No3 w0 e W ∧ X) : No3 w0 e W := h.1
theorem below_drew0 {W : World} : Below W.heap.size W W.drew := Below.drew (Below.refl _ _)


set_option maxHeartbeats 4000000 in
set_option maxRecDepth 100000 in
theorem none_walk (e : Ev) (th : Int) (w : World) :
    Calls Try.prog 5 #[.agg (decE e).toArray, .int .i64 th] w fun e w' => e = .returned (.bool true) ∧ Below w.heap.size w w' := by
  obtain ⟨x, hx⟩ : ∃ x, rdo 0 [] e = x := ⟨_, rfl⟩
  have HX := Lib.hid hx
  clear hx
  have exx := nbne_no (rfl : x = x)
  simp only [decE]
  have hz0 : som (-1) = 0 := by decide +kernel
  have KN : ∀ W : World, W.heap.size = w.heap.size + 1 + 1 → Calls Try.prog 15 #[.int .i64 (-1)] W fun e w' => e = .returned (.pointer (some ⟨w.heap.size + 1 + 1 + 1, 0, none⟩)) ∧ ShIn w' (w.heap.size + 1 + 1 + 1) (w.heap.size + 1 + 1) [] ∧ w'.heap.size = w.heap.size + 1 + 1 + 1 + 1 ∧ Below W.heap.size W w' := by
    intro W hW
    have := new_in (-1) W
    rw [hz0, hW] at this
    rw [hW]
    exact this
  have KN := Lib.hid KN
  clear hz0
  go_enter Try.func5, Try.ntmps5
  go_wp2_with fail
  refine (KN.out _ (by simp)).mono ?_
  rintro r w1 ⟨rfl, hin, hsz, hb⟩
  have hno : No3 w e w1 := by
    have hin' : ShIn w1 (w.heap.size + 1 + 1 + 1) 0 [] := by
      obtain ⟨hl, A, c, h1, _⟩ := hin
      exact ⟨hl, A, c, h1, .inl rfl⟩
    refine ⟨((below_new w _).alloc (by simp) _).trans (hb.mono (by simp; omega)), ?_, ⟨by simp, none, 0, ?_, .inl rfl⟩, hin', by omega⟩
    · exact (hb.block _ (by simp; omega)).trans (heap_alloc2_old _ _ _)
    · exact (hb.block _ (by simp)).trans (heap_alloc2_new _ _ _)
  clear hin hsz hb
  go_wp2_with fail
  refine wp_loop (NoJ w e th) (fun a' _ => 4 - (intOf (a'.tmps.getD 15 undef)).toNat) ?_ ?_
  · exact ⟨rfl, rfl, rfl, rfl, rfl, 0, rfl, by omega, hno⟩
  · clear hno
    rintro a' W ⟨hsz, hdf, s1, s2, s14, k, s15, hk, hno⟩
    obtain ⟨u, rfl, hu⟩ := frame49 hsz hdf
    rw [hu] at s1 s2 s14 s15
    simp only [s1, s2, s14, s15]
    clear hsz hdf s1 s2 s14 s15 hu
    rcases (show k = 0 ∨ k = 1 ∨ k = 2 ∨ k = 3 by omega) with rfl | rfl | rfl | rfl
    · have hp3 : P3 w none := .inl rfl
      obtain ⟨j0, j1, j2⟩ := at3 (.pointer none) (.pointer (some ⟨w.heap.size + 1, 0, none⟩)) (.pointer (some ⟨w.heap.size + 1 + 1 + 1, 0, none⟩)) W
      go_wp2_with fail
      refine (state3 w e _ none hp3 hno th).mono ?_
      rintro r W1 ⟨rfl, hb1⟩
      have hno := hno.step hb1
      clear hb1 j0 j1 j2
      obtain ⟨c0, c1, c2, c3⟩ := hno.cells
      have hno2 : No3 w e W1.drew := hno.step below_drew0
      go_wp2_with fail
      go_region_held3 (fun V => No3 w e V ∧ V.cell? ⟨w.heap.size, 0, none⟩ = some (.int .i64 e.kind) ∧ V.cell? ⟨w.heap.size, 1, none⟩ = some (.int .i64 e.thread) ∧ V.cell? ⟨w.heap.size, 2, none⟩ = some (.bool e.read) ∧ V.cell? ⟨w.heap.size, 3, none⟩ = some (.int .i64 e.count))
        (first | exact ⟨hno2, c0, c1, c2, c3⟩ | exact no3_keep ‹_› ‹_›)
        (first
          | (go_at_call 16; refine (do_none3 w e _ none hp3 (no3_of (by assumption)) x HX.out).mono ?_; rintro r w' ⟨rfl, hbb⟩)
          | (go_at_call 17; refine (rdo_b e _ x HX.out).mono ?_; rintro r w' ⟨rfl, hbb⟩)
          | (go_at_call 19; refine (writer3 w e _ none hp3 (no3_of (by assumption))).mono ?_; rintro r w' ⟨rfl, hbb⟩)
          | (go_at_call 21; refine (readers3 w e _ none hp3 (no3_of (by assumption))).mono ?_; rintro r w' ⟨rfl, hbb⟩))
      go_wp2_with fail
      exact ⟨⟨rfl, rfl, rfl, rfl, rfl, 1, rfl, by omega, no3_of (by assumption)⟩, by simp [intOf]⟩
    · have hp3 : P3 w (some ⟨w.heap.size + 1, 0, none⟩) := .inr (.inl rfl)
      obtain ⟨j0, j1, j2⟩ := at3 (.pointer none) (.pointer (some ⟨w.heap.size + 1, 0, none⟩)) (.pointer (some ⟨w.heap.size + 1 + 1 + 1, 0, none⟩)) W
      go_wp2_with fail
      refine (state3 w e _ (some ⟨w.heap.size + 1, 0, none⟩) hp3 hno th).mono ?_
      rintro r W1 ⟨rfl, hb1⟩
      have hno := hno.step hb1
      clear hb1 j0 j1 j2
      obtain ⟨c0, c1, c2, c3⟩ := hno.cells
      have hno2 : No3 w e W1.drew := hno.step below_drew0
      go_wp2_with fail
      go_region_held3 (fun V => No3 w e V ∧ V.cell? ⟨w.heap.size, 0, none⟩ = some (.int .i64 e.kind) ∧ V.cell? ⟨w.heap.size, 1, none⟩ = some (.int .i64 e.thread) ∧ V.cell? ⟨w.heap.size, 2, none⟩ = some (.bool e.read) ∧ V.cell? ⟨w.heap.size, 3, none⟩ = some (.int .i64 e.count))
        (first | exact ⟨hno2, c0, c1, c2, c3⟩ | exact no3_keep ‹_› ‹_›)
        (first
          | (go_at_call 16; refine (do_none3 w e _ (some ⟨w.heap.size + 1, 0, none⟩) hp3 (no3_of (by assumption)) x HX.out).mono ?_; rintro r w' ⟨rfl, hbb⟩)
          | (go_at_call 17; refine (rdo_b e _ x HX.out).mono ?_; rintro r w' ⟨rfl, hbb⟩)
          | (go_at_call 19; refine (writer3 w e _ (some ⟨w.heap.size + 1, 0, none⟩) hp3 (no3_of (by assumption))).mono ?_; rintro r w' ⟨rfl, hbb⟩)
          | (go_at_call 21; refine (readers3 w e _ (some ⟨w.heap.size + 1, 0, none⟩) hp3 (no3_of (by assumption))).mono ?_; rintro r w' ⟨rfl, hbb⟩))
      go_wp2_with fail
      exact ⟨⟨rfl, rfl, rfl, rfl, rfl, 2, rfl, by omega, no3_of (by assumption)⟩, by simp [intOf]⟩
    · have hp3 : P3 w (some ⟨w.heap.size + 1 + 1 + 1, 0, none⟩) := .inr (.inr rfl)
      obtain ⟨j0, j1, j2⟩ := at3 (.pointer none) (.pointer (some ⟨w.heap.size + 1, 0, none⟩)) (.pointer (some ⟨w.heap.size + 1 + 1 + 1, 0, none⟩)) W
      go_wp2_with fail
      refine (state3 w e _ (some ⟨w.heap.size + 1 + 1 + 1, 0, none⟩) hp3 hno th).mono ?_
      rintro r W1 ⟨rfl, hb1⟩
      have hno := hno.step hb1
      clear hb1 j0 j1 j2
      obtain ⟨c0, c1, c2, c3⟩ := hno.cells
      have hno2 : No3 w e W1.drew := hno.step below_drew0
      go_wp2_with fail
      go_region_held3 (fun V => No3 w e V ∧ V.cell? ⟨w.heap.size, 0, none⟩ = some (.int .i64 e.kind) ∧ V.cell? ⟨w.heap.size, 1, none⟩ = some (.int .i64 e.thread) ∧ V.cell? ⟨w.heap.size, 2, none⟩ = some (.bool e.read) ∧ V.cell? ⟨w.heap.size, 3, none⟩ = some (.int .i64 e.count))
        (first | exact ⟨hno2, c0, c1, c2, c3⟩ | exact no3_keep ‹_› ‹_›)
        (first
          | (go_at_call 16; refine (do_none3 w e _ (some ⟨w.heap.size + 1 + 1 + 1, 0, none⟩) hp3 (no3_of (by assumption)) x HX.out).mono ?_; rintro r w' ⟨rfl, hbb⟩)
          | (go_at_call 17; refine (rdo_b e _ x HX.out).mono ?_; rintro r w' ⟨rfl, hbb⟩)
          | (go_at_call 19; refine (writer3 w e _ (some ⟨w.heap.size + 1 + 1 + 1, 0, none⟩) hp3 (no3_of (by assumption))).mono ?_; rintro r w' ⟨rfl, hbb⟩)
          | (go_at_call 21; refine (readers3 w e _ (some ⟨w.heap.size + 1 + 1 + 1, 0, none⟩) hp3 (no3_of (by assumption))).mono ?_; rintro r w' ⟨rfl, hbb⟩))
      go_wp2_with fail
      exact ⟨⟨rfl, rfl, rfl, rfl, rfl, 3, rfl, by omega, no3_of (by assumption)⟩, by simp [intOf]⟩
    · go_wp2_with fail
      refine (awake_any _).mono ?_
      rintro e W3 ⟨rfl, hb⟩
      go_wp2_with fail
      go_ret
      exact ⟨rfl, hno.1.trans (hb.mono (by have := hno.2.2.2.2; omega))⟩
end Go.Proofs.Ytfdcojhgpfmloaa.Sha
