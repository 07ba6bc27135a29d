/- Walks of package auto: New; and of the reference: Some. -/
import Derived.Test.YtfdcojhgpfmloaaAuto2
namespace Go.Proofs.Ytfdcojhgpfmloaa.Aut
open Go.RowKit

def zerosA (n : Nat) : Array Value := ((List.replicate n 0).map vN).toArray
theorem made_zeroA (n : Nat) : madeCells #[.int .i64 0] n = zerosA n := by
  apply Array.ext
  · simp [madeCells, zerosA]
  · intro i h1 h2
    simp [madeCells, zerosA, vN, Nat.mod_one]
theorem make_zeros (n : Nat) (h : n ≤ 65536) (W : World) : (Instr.makeSlice 63 (.int .i64 (n : Int)) (.int .i64 (n : Int))).run Try.prog W = .ok (.slice (some ⟨W.heap.size, 0, none⟩) n n) (W.alloc (.cells (zerosA n) 3)) := by
  rw [run_make_row' (P := Try.prog) 63 3 (.int .i64 0) 8 Try.underlying63 infoI rfl .i64 .i64 n (by omega) (by omega) W, made_zeroA]

/-- How many threads there are, of as many. -/
def som (t : Int) : Nat := if t < 0 then 0 else if 32 < t then 32 else t.toNat

theorem new_at0 (c : Nat) (hc : c ≤ 32) (t : Int) (w : World) (hh : Hid (∀ W, (Instr.makeSlice 63 (.int .i64 (c : Int)) (.int .i64 (c : Int))).run Try.prog W = .ok (.slice (some ⟨W.heap.size, 0, none⟩) c c) (W.alloc (.cells (zerosA c) 3))))
    (hr : Hid ((t ≤ 0 ∧ c = 0) ∨ (t = c ∧ 0 < c) ∨ (32 < t ∧ c = 32))) :
    Calls Try.prog 64 #[.int .i64 t] w fun e w' => ∃ g, e = .returned (.pointer (some ⟨g, 0, none⟩)) ∧ w.heap.size ≤ g ∧ g < w'.heap.size ∧ AutoAt w' g (List.replicate c 0) ∧ Below w.heap.size w w' := by
  have hfin : Hid (AutoAt ((w.alloc (.cells (zerosA c) 3)).alloc (.cells #[.slice (some ⟨w.heap.size, 0, none⟩) c c] 134)) (w.heap.size + 1) (List.replicate c 0) ∧
      Below w.heap.size w ((w.alloc (.cells (zerosA c) 3)).alloc (.cells #[.slice (some ⟨w.heap.size, 0, none⟩) c c] 134))) := by
    refine Lib.hid ⟨⟨some ⟨w.heap.size, 0, none⟩, c, ?_, .inr ⟨w.heap.size, rfl, by omega, ?_⟩⟩, (below_new _ _).alloc (by simp) _⟩
    · rw [List.length_replicate]
      exact heap_alloc2_new _ _ _
    · exact heap_alloc2_old _ _ _
  rcases hr.out with ⟨h1, rfl⟩ | ⟨rfl, h0⟩ | ⟨h1, rfl⟩
  · have hmk : ∀ W, (Instr.makeSlice 63 (.int .i64 0) (.int .i64 0)).run Try.prog W = .ok (.slice (some ⟨W.heap.size, 0, none⟩) 0 0) (W.alloc (.cells (zerosA 0) 3)) := hh.out
    have hm2 : t ≤ 32 := by omega
    by_cases h0 : t = 0
    all_goals
      go_enter Try.func64, Try.ntmps64
      go_wp2_with fail
      go_ret
      exact ⟨_, rfl, by simp, by simp, hfin.out.1, hfin.out.2⟩
  · have hmk := hh.out
    have h1 : (c : Int) ≤ 32 := by omega
    have h2 : (0 : Int) ≤ (c : Int) := by omega
    go_enter Try.func64, Try.ntmps64
    go_wp2_with fail
    go_ret
    exact ⟨_, rfl, by simp, by simp, hfin.out.1, hfin.out.2⟩
  · have hmk : ∀ W, (Instr.makeSlice 63 (.int .i64 32) (.int .i64 32)).run Try.prog W = .ok (.slice (some ⟨W.heap.size, 0, none⟩) 32 32) (W.alloc (.cells (zerosA 32) 3)) := hh.out
    go_enter Try.func64, Try.ntmps64
    go_wp2_with fail
    go_ret
    exact ⟨_, rfl, by simp, by simp, hfin.out.1, hfin.out.2⟩

theorem new_at (t : Int) (w : World) :
    Calls Try.prog 64 #[.int .i64 t] w fun e w' => ∃ g, e = .returned (.pointer (some ⟨g, 0, none⟩)) ∧ w.heap.size ≤ g ∧ g < w'.heap.size ∧ AutoAt w' g (List.replicate (som t) 0) ∧ Below w.heap.size w w' := by
  by_cases h0 : t ≤ 0
  · rw [show som t = 0 by unfold som; by_cases h : t < 0; rw [if_pos h]; rw [if_neg h, if_neg (by omega)]; omega]
    exact new_at0 0 (by omega) t w (fun W => make_zeros 0 (by omega) W) (.inl ⟨h0, rfl⟩)
  · by_cases h1 : 32 < t
    · rw [show som t = 32 by unfold som; rw [if_neg (by omega), if_pos h1]]
      exact new_at0 32 (by omega) t w (fun W => make_zeros 32 (by omega) W) (.inr (.inr ⟨h1, rfl⟩))
    · obtain ⟨c, rfl⟩ := Int.eq_ofNat_of_zero_le (show 0 ≤ t by omega)
      rw [show som c = c by unfold som; rw [if_neg (by omega), if_neg h1]; omega]
      exact new_at0 c (by omega) c w (fun W => make_zeros c (by omega) W) (.inr (.inl ⟨rfl, by omega⟩))

theorem some_any (t : Int) (w : World) :
    Calls Try.prog 69 #[.int .i64 t] w fun e w' => e = .returned (.int .i64 (som t)) ∧ w' = w := by
  by_cases h0 : t < 0
  · have hn := Lib.hid (show som t = 0 by simp [som, h0])
    go_enter Try.func69, Try.ntmps69
    go_wp2_with fail
    go_ret
    exact ⟨by rw [hn.out]; rfl, rfl⟩
  · by_cases h1 : 32 < t
    · have hn := Lib.hid (show som t = 32 by simp [som, h0, h1])
      go_enter Try.func69, Try.ntmps69
      go_wp2_with fail
      go_ret
      exact ⟨by rw [hn.out]; rfl, rfl⟩
    · have hn := Lib.hid (show (som t : Int) = t by simp [som, h0, h1]; omega)
      go_enter Try.func69, Try.ntmps69
      go_wp2_with fail
      go_ret
      exact ⟨by rw [hn.out]; rfl, rfl⟩
end Go.Proofs.Ytfdcojhgpfmloaa.Aut
