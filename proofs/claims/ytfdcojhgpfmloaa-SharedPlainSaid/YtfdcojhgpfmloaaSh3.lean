/- Package shared: New, moves, Do. -/
import Derived.Test.YtfdcojhgpfmloaaSh2
import Derived.StillTailTactics
import Derived.Deep.RegionHeld3
import Derived.Deep.RegionWith
namespace Go.Proofs.Ytfdcojhgpfmloaa.Sha
open Go.RowKit

theorem infoA : (Try.prog.info? 106).map (fun i => (i.zero, i.size, i.bytes)) = some (some (.agg #[.int .i64 0, .bool false]), 2, 16) := by kernel_rfl
def zerosS (n : Nat) : List (Nat × Bool) := List.replicate n (0, false)
theorem zeros_flat (n : Nat) : ((List.replicate n ((Value.agg #[.int .i64 0, .bool false]).cells.toList)).flatten) = (zerosS n).flatMap dA := by
  induction n with
  | zero => rfl
  | succ n ih => rw [List.replicate_succ, List.flatten_cons, ih, zerosS, zerosS, List.replicate_succ, List.flatMap_cons]; rfl
theorem make_zeros (n : Nat) (h : n ≤ 65536) (W : World) : (Instr.makeSlice 42 (.int .i64 (n : Int)) (.int .i64 (n : Int))).run Try.prog W = .ok (.slice (some ⟨W.heap.size, 0, none⟩) n n) (W.alloc (.cells ((zerosS n).flatMap dA).toArray 106)) := by
  rw [run_make_rows (P := Try.prog) 42 106 (.agg #[.int .i64 0, .bool false]) 2 16 Try.underlying42 infoA rfl .i64 .i64 n (by omega) (by omega) W, zeros_flat]

/-- A lock in memory. -/
def ShIn (w : World) (g h : Nat) (s : List (Nat × Bool)) : Prop :=
  s.length ≤ 32 ∧ ∃ A c, w.heap[g]? = some (.cells #[.slice A s.length c] 44 (0, 0)) ∧
    (s = [] ∨ (A = some ⟨h, 0, none⟩ ∧ h ≠ g ∧ w.heap[h]? = some (.cells (s.flatMap dA).toArray 106 (0, 0))))
theorem dA_len (p : Nat × Bool) : (dA p).length = 2 := rfl
theorem ShIn.lk {w : World} {g h : Nat} {s : List (Nat × Bool)} (k : ShIn w g h s) : Lk w g s := by
  obtain ⟨hl, A, c, h1, h2⟩ := k
  refine ⟨A, c, by simp [World.cell?, h1], ?_, hl⟩
  rcases h2 with rfl | ⟨rfl, hn, h3⟩
  · exact .inl rfl
  · refine .inr ⟨h, 0, rfl, lt_of_blk h3, fun j hj => ?_⟩
    rw [Nat.zero_add]
    have := blk_cell h3 j (by simpa using hj)
    rw [this]
    simp
theorem ShIn.lt {w : World} {g h : Nat} {s : List (Nat × Bool)} (k : ShIn w g h s) : g < w.heap.size := k.lk.lt
theorem ShIn.below {w w' : World} {g h B : Nat} {s : List (Nat × Bool)} (k : ShIn w g h s) (hb : Below B w w') (hg : g < B) (hh : h < B) : ShIn w' g h s := by
  obtain ⟨hl, A, c, h1, h2⟩ := k
  refine ⟨hl, A, c, (hb.block g hg).trans h1, ?_⟩
  rcases h2 with h2 | ⟨a, b, c⟩
  · exact .inl h2
  · exact .inr ⟨a, b, (hb.block h hh).trans c⟩
theorem ShIn.step {w w' : World} {g h : Nat} {s : List (Nat × Bool)} (k : ShIn w g h s) (hb : Below w.heap.size w w') : ShIn w' g h s := by
  have hg := k.lt
  obtain ⟨hl, A, c, h1, h2⟩ := k
  refine ⟨hl, A, c, (hb.block g hg).trans h1, ?_⟩
  rcases h2 with h2 | ⟨a, b, c⟩
  · exact .inl h2
  · exact .inr ⟨a, b, (hb.block h (lt_of_blk c)).trans c⟩

theorem set_flat (s : List (Nat × Bool)) (q : Nat) (p : Nat × Bool) (hq : q < s.length) :
    (s.set q p).flatMap dA = ((s.flatMap dA).set (q * 2) (.int .i64 p.1)).set (q * 2 + 1) (.bool p.2) := by
  induction s generalizing q with
  | nil => simp at hq
  | cons x s ih =>
    cases q with
    | zero => simp [dA]
    | succ q =>
      have := ih q (by simpa using hq)
      rw [List.set_cons_succ, List.flatMap_cons, List.flatMap_cons, this]
      have e : (q + 1) * 2 = q * 2 + 1 + 1 := by omega
      rw [e]
      simp [dA]

/-- What becomes of a thread at an event, or why not. -/
def movS (s : List (Nat × Bool)) (x : Nat × Bool) (e : Ev) : (Nat × Bool) × Nat :=
  if e.kind = 1 then (if x.1 ≠ 0 then (x, 5) else ((1, e.read), 0))
  else if (e.kind = 2 ∧ x.1 ≠ 1) ∨ (e.kind = 3 ∧ x.1 ≠ 2) ∨ (e.kind = 4 ∧ x.1 ≠ 3) then (x, 6)
  else if e.read ≠ x.2 then (x, 7)
  else if e.kind = 2 then ((2, x.2), entersS s x.2) else if e.kind = 3 then ((3, x.2), 0) else ((0, false), 0)


set_option maxHeartbeats 1000000 in
set_option maxRecDepth 100000 in
theorem moves_any (g : Nat) (s : List (Nat × Bool)) (x : Nat × Bool) (e : Ev) (w : World) (h : Lk w g s) (hk : 1 ≤ e.kind ∧ e.kind ≤ 4) :
    Calls Try.prog 68 #[.pointer (some ⟨g, 0, none⟩), .agg #[.int .i64 x.1, .bool x.2], .agg #[.int .i64 e.kind, .int .i64 e.thread, .bool e.read, .int .i64 e.count]] w
      fun r w' => r = .returned (.tuple #[.agg #[.int .i64 (movS s x e).1.1, .bool (movS s x e).1.2], .int .i64 (movS s x e).2]) ∧ Below w.heap.size w w' := by
  obtain ⟨a, rx⟩ := x
  obtain ⟨kd, th, rd, ct⟩ := e
  unfold movS
  simp only at hk ⊢
  rcases (show kd = 1 ∨ kd = 2 ∨ kd = 3 ∨ kd = 4 by omega) with rfl | rfl | rfl | rfl
  · rw [if_pos rfl]
    by_cases ha : a = 0
    · subst ha
      rw [if_neg (by simp)]
      go_enter Try.func68, Try.ntmps68
      go_wp2_with fail
      exact bodyPost_ret (v := .tuple #[.agg #[.int .i64 1, .bool rd], .int .i64 0]) (by simp [results, Try.results68, go_sem]) rfl ⟨rfl, (((Below.refl _ _).alloc (Nat.le_refl _) _).alloc (by simp) _).alloc (by simp; omega) _⟩
    · have e1 := ibne (show ¬ (a : Int) = 0 by omega)
      rw [if_pos ha]
      go_enter Try.func68, Try.ntmps68
      go_wp2_with fail
      exact bodyPost_ret (v := .tuple #[.agg #[.int .i64 a, .bool rx], .int .i64 5]) (by simp [results, Try.results68, go_sem]) rfl ⟨rfl, (((Below.refl _ _).alloc (Nat.le_refl _) _).alloc (by simp) _).alloc (by simp; omega) _⟩
  · rw [if_neg (by decide)]
    by_cases ha : a = 1
    · subst ha
      rw [if_neg (by simp)]
      by_cases hr : rd = rx
      · subst hr
        have e2 : (rd != rd) = false := by simp
        rw [if_neg (by simp)]
        rw [if_pos rfl]
        go_enter Try.func68, Try.ntmps68
        go_wp2_with fail
        have c0 : (((w.alloc (.cells #[.int .i64 1, .bool rd] 106)).alloc (.cells #[.int .i64 2, .int .i64 th, .bool rd, .int .i64 ct] 29)).alloc (.cells #[.int .i64 0, .bool false] 106)).cell? ⟨w.heap.size, 1, none⟩ = some (.bool rd) := by
          rw [World.cell?_alloc_past _ _ _ (by simp; omega), World.cell?_alloc_past _ _ _ (by simp), World.cell?_alloc_at _ _ _ _ rfl]; rfl
        have c1 : (((w.alloc (.cells #[.int .i64 1, .bool rd] 106)).alloc (.cells #[.int .i64 2, .int .i64 th, .bool rd, .int .i64 ct] 29)).alloc (.cells #[.int .i64 0, .bool false] 106)).heap[w.heap.size + 1 + 1]? = some (.cells #[.int .i64 0, .bool false] 106 (0, 0)) := by
          rw [show w.heap.size + 1 + 1 = ((w.alloc (.cells #[.int .i64 1, .bool rd] 106)).alloc (.cells #[.int .i64 2, .int .i64 th, .bool rd, .int .i64 ct] 29)).heap.size by simp]
          exact blk_new _ _
        have hb0 : Below w.heap.size w (((w.alloc (.cells #[.int .i64 1, .bool rd] 106)).alloc (.cells #[.int .i64 2, .int .i64 th, .bool rd, .int .i64 ct] 29)).alloc (.cells #[.int .i64 0, .bool false] 106)) :=
          ((below_new _ _).alloc (by simp) _).alloc (by simp; omega) _
        generalize ((w.alloc (.cells #[.int .i64 1, .bool rd] 106)).alloc (.cells #[.int .i64 2, .int .i64 th, .bool rd, .int .i64 ct] 29)).alloc (.cells #[.int .i64 0, .bool false] 106) = W at *
        have hl := lt_of_blk c1
        have HL : Lk W g s := h.below hb0
        have c60 := blk_cell c1 0 (by simp)
        have c61 := blk_cell c1 1 (by simp)
        have f60 := blk_free c1 0
        have f61 := blk_free c1 1
        simp only [List.getElem_toArray, List.getElem_cons_zero, List.getElem_cons_succ] at c60 c61
        have hl0 : w.heap.size < W.heap.size := World.block_lt_of_cell? _ _ c0
        clear c1 h
        go_region_with (first | (go_at_call 97; refine (enters_any g s rd _ (Lk.drewN HL 1)).mono ?_; rintro e w1 ⟨rfl, hb⟩; have d0 := (hb.cell (p := ⟨w.heap.size, 1, none⟩) hl0).trans c0; have d60 := (hb.cell (p := ⟨w.heap.size + 1 + 1, 0, none⟩) hl).trans c60; have d61 := (hb.cell (p := ⟨w.heap.size + 1 + 1, 1, none⟩) hl).trans c61; have d62 := (hb.frozen (p := ⟨w.heap.size + 1 + 1, 0, none⟩) hl).trans f60; have d63 := (hb.frozen (p := ⟨w.heap.size + 1 + 1, 1, none⟩) hl).trans f61))
        all_goals
          have hb1 : Below w.heap.size w w1 := hb0.trans ((Below.drew (Below.refl _ _)).trans (hb.mono hb0.size))
          go_wp2_with fail
          refine bodyPost_ret (v := .tuple #[.agg #[.int .i64 2, .bool rd], .int .i64 (entersS s rd)]) (by simp [results, Try.results68, go_sem, d60, d61, d62, d63]) rfl ⟨rfl, ?_⟩
          first | exact (hb1.setCell (by simp; omega) _).setCell (by simp; omega) _ | exact hb1.setCell (by simp; omega) _
      · have e2 : (rd == rx) = false := by simpa using hr
        rw [if_pos hr]
        clear hr
        go_enter Try.func68, Try.ntmps68
        go_wp2_with fail
        exact bodyPost_ret (v := .tuple #[.agg #[.int .i64 1, .bool rx], .int .i64 7]) (by simp [results, Try.results68, go_sem]) rfl ⟨rfl, (((Below.refl _ _).alloc (Nat.le_refl _) _).alloc (by simp) _).alloc (by simp; omega) _⟩
    · have e1 := ibne (show ¬ (a : Int) = 1 by omega)
      rw [if_pos (by simp [ha])]
      clear ha
      go_enter Try.func68, Try.ntmps68
      go_wp2_with fail
      exact bodyPost_ret (v := .tuple #[.agg #[.int .i64 a, .bool rx], .int .i64 6]) (by simp [results, Try.results68, go_sem]) rfl ⟨rfl, (((Below.refl _ _).alloc (Nat.le_refl _) _).alloc (by simp) _).alloc (by simp; omega) _⟩
  · rw [if_neg (by decide)]
    by_cases ha : a = 2
    · subst ha
      rw [if_neg (by simp)]
      by_cases hr : rd = rx
      · subst hr
        have e2 : (rd != rd) = false := by simp
        rw [if_neg (by simp)]
        rw [if_neg (by decide), if_pos rfl]
        go_enter Try.func68, Try.ntmps68
        go_wp2_with fail
        exact bodyPost_ret (v := .tuple #[.agg #[.int .i64 3, .bool rd], .int .i64 0]) (by simp [results, Try.results68, go_sem]) rfl ⟨rfl, (((Below.refl _ _).alloc (Nat.le_refl _) _).alloc (by simp) _).alloc (by simp; omega) _⟩
      · have e2 : (rd == rx) = false := by simpa using hr
        rw [if_pos hr]
        clear hr
        go_enter Try.func68, Try.ntmps68
        go_wp2_with fail
        exact bodyPost_ret (v := .tuple #[.agg #[.int .i64 2, .bool rx], .int .i64 7]) (by simp [results, Try.results68, go_sem]) rfl ⟨rfl, (((Below.refl _ _).alloc (Nat.le_refl _) _).alloc (by simp) _).alloc (by simp; omega) _⟩
    · have e1 := ibne (show ¬ (a : Int) = 2 by omega)
      rw [if_pos (by simp [ha])]
      clear ha
      go_enter Try.func68, Try.ntmps68
      go_wp2_with fail
      exact bodyPost_ret (v := .tuple #[.agg #[.int .i64 a, .bool rx], .int .i64 6]) (by simp [results, Try.results68, go_sem]) rfl ⟨rfl, (((Below.refl _ _).alloc (Nat.le_refl _) _).alloc (by simp) _).alloc (by simp; omega) _⟩
  · rw [if_neg (by decide)]
    by_cases ha : a = 3
    · subst ha
      rw [if_neg (by simp)]
      by_cases hr : rd = rx
      · subst hr
        have e2 : (rd != rd) = false := by simp
        rw [if_neg (by simp)]
        rw [if_neg (by decide), if_neg (by decide)]
        go_enter Try.func68, Try.ntmps68
        go_wp2_with fail
        exact bodyPost_ret (v := .tuple #[.agg #[.int .i64 0, .bool false], .int .i64 0]) (by simp [results, Try.results68, go_sem]) rfl ⟨rfl, (((Below.refl _ _).alloc (Nat.le_refl _) _).alloc (by simp) _).alloc (by simp; omega) _⟩
      · have e2 : (rd == rx) = false := by simpa using hr
        rw [if_pos hr]
        clear hr
        go_enter Try.func68, Try.ntmps68
        go_wp2_with fail
        exact bodyPost_ret (v := .tuple #[.agg #[.int .i64 3, .bool rx], .int .i64 7]) (by simp [results, Try.results68, go_sem]) rfl ⟨rfl, (((Below.refl _ _).alloc (Nat.le_refl _) _).alloc (by simp) _).alloc (by simp; omega) _⟩
    · have e1 := ibne (show ¬ (a : Int) = 3 by omega)
      rw [if_pos (by simp [ha])]
      clear ha
      go_enter Try.func68, Try.ntmps68
      go_wp2_with fail
      exact bodyPost_ret (v := .tuple #[.agg #[.int .i64 a, .bool rx], .int .i64 6]) (by simp [results, Try.results68, go_sem]) rfl ⟨rfl, (((Below.refl _ _).alloc (Nat.le_refl _) _).alloc (by simp) _).alloc (by simp; omega) _⟩
end Go.Proofs.Ytfdcojhgpfmloaa.Sha
