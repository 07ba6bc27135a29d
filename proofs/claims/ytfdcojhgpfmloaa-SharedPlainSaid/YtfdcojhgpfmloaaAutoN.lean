/- Package auto: New, its blocks named; what Do turns. -/
import Derived.Test.YtfdcojhgpfmloaaAuto9
import Derived.Test.YtfdcojhgpfmloaaHeap
namespace Go.Proofs.Ytfdcojhgpfmloaa.Aut
open Go.RowKit

theorem new_in (t : Int) (w : World) :
    Calls Try.prog 64 #[.int .i64 t] w fun e w' => e = .returned (.pointer (some ⟨w.heap.size + 1, 0, none⟩)) ∧ AutoIn w' (w.heap.size + 1) w.heap.size (List.replicate (som t) 0) ∧ w'.heap.size = w.heap.size + 1 + 1 ∧ Below w.heap.size w w' := by
  have hfin : ∀ c, Hid (AutoIn ((w.alloc (.cells (zerosA c) 3)).alloc (.cells #[.slice (some ⟨w.heap.size, 0, none⟩) c c] 134)) (w.heap.size + 1) w.heap.size (List.replicate c 0) ∧
      ((w.alloc (.cells (zerosA c) 3)).alloc (.cells #[.slice (some ⟨w.heap.size, 0, none⟩) c c] 134)).heap.size = w.heap.size + 1 + 1 ∧
      Below w.heap.size w ((w.alloc (.cells (zerosA c) 3)).alloc (.cells #[.slice (some ⟨w.heap.size, 0, none⟩) c c] 134))) := fun c => by
    refine Lib.hid ⟨⟨some ⟨w.heap.size, 0, none⟩, c, ?_, .inr ⟨rfl, by omega, ?_⟩⟩, by simp, (below_new _ _).alloc (by simp) _⟩
    · rw [List.length_replicate]
      exact heap_alloc2_new _ _ _
    · exact heap_alloc2_old _ _ _
  by_cases h0 : t ≤ 0
  · rw [show som t = 0 by unfold som; by_cases h : t < 0; rw [if_pos h]; rw [if_neg h, if_neg (by omega)]; omega]
    have hf := hfin 0
    clear hfin
    have hmk : ∀ W, (Instr.makeSlice 63 (.int .i64 0) (.int .i64 0)).run Try.prog W = .ok (.slice (some ⟨W.heap.size, 0, none⟩) 0 0) (W.alloc (.cells (zerosA 0) 3)) := fun W => make_zeros 0 (by omega) W
    have hm2 : t ≤ 32 := by omega
    by_cases h0 : t = 0
    all_goals
      go_enter Try.func64, Try.ntmps64
      go_wp2_with fail
      go_ret
      exact ⟨rfl, hf.out⟩
  · by_cases h1 : 32 < t
    · rw [show som t = 32 by unfold som; rw [if_neg (by omega), if_pos h1]]
      have hf := hfin 32
      clear hfin
      have hmk : ∀ W, (Instr.makeSlice 63 (.int .i64 32) (.int .i64 32)).run Try.prog W = .ok (.slice (some ⟨W.heap.size, 0, none⟩) 32 32) (W.alloc (.cells (zerosA 32) 3)) := fun W => make_zeros 32 (by omega) W
      go_enter Try.func64, Try.ntmps64
      go_wp2_with fail
      go_ret
      exact ⟨rfl, hf.out⟩
    · obtain ⟨c, rfl⟩ := Int.eq_ofNat_of_zero_le (show 0 ≤ t by omega)
      rw [show som c = c by unfold som; rw [if_neg (by omega), if_neg h1]; omega]
      have hf := hfin c
      clear hfin
      have hmk := fun W => make_zeros c (by omega) W
      have h1 : (c : Int) ≤ 32 := by omega
      have h2 : (0 : Int) ≤ (c : Int) := by omega
      go_enter Try.func64, Try.ntmps64
      go_wp2_with fail
      go_ret
      exact ⟨rfl, hf.out⟩

theorem DoneW.mod {w w' : World} {h : Nat} {e : Ev} (k : DoneW w h e w') : Mod [h] w w' := by
  obtain ⟨n, rfl | ⟨q, x, rfl⟩⟩ := k
  · exact ((Mod.refl _ _).alloc _).drewN n
  · exact (((Mod.refl _ _).alloc _).drewN n).setCell (by simp) _
theorem DoneW.below {w w' : World} {h B : Nat} {e : Ev} (k : DoneW w h e w') (hB : B ≤ h) (hs : B ≤ w.heap.size) : Below B w w' := k.mod.below hs (by simpa using hB)
theorem AutoIn.lt {w : World} {g h : Nat} {s : List Nat} (k : AutoIn w g h s) : g < w.heap.size := by
  obtain ⟨A, c, h1, _⟩ := k
  exact lt_of_blk h1
theorem AutoIn.below {w w' : World} {g h B : Nat} {s : List Nat} (k : AutoIn w g h s) (hb : Below B w w') (hg : g < B) (hh : h < B) : AutoIn w' g h s := by
  obtain ⟨A, c, h1, h2⟩ := k
  refine ⟨A, c, (hb.block g hg).trans h1, ?_⟩
  rcases h2 with h2 | ⟨a, b, c⟩
  · exact .inl h2
  · exact .inr ⟨a, b, (hb.block h hh).trans c⟩

end Go.Proofs.Ytfdcojhgpfmloaa.Aut
