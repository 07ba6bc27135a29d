/- Walks of package auto: Do of an event that is taken. -/
import Derived.Test.YtfdcojhgpfmloaaAuto7
namespace Go.Proofs.Ytfdcojhgpfmloaa.Aut
open Go.RowKit

theorem do_ask (g h k : Nat) (s : List Nat) (ct : Int) (w : World) (H : AutoIn w g h s) (hl : k < s.length) (hm : s.length ≤ 9223372036854775807) (hx : s[k] = 0) :
    Calls Try.prog 65 #[.pointer (some ⟨g, 0, none⟩), .agg #[.int .i64 1, .int .i64 k, .bool false, .int .i64 ct]] w fun r w' => r = .returned (.int .i64 0) ∧ ∃ n, w' = ((w.alloc (boxE ⟨1, k, false, ct⟩)).drewN n).setCell ⟨h, k, none⟩ (.int .i64 1) := by
  have hh : hasB s k = true := by simp [hasB, hl]
  have ha := has_any g s k _ (H.alloc (boxE ⟨1, k, false, ct⟩)).at_
  have hf := from_any 1 (w.alloc (boxE ⟨1, k, false, ct⟩))
  obtain ⟨A, c, k0, kk⟩ := H.alloc (boxE ⟨1, k, false, ct⟩)
  rcases kk with rfl | ⟨rfl, hne, k1⟩
  · simp at hl
  have c0 : (w.alloc (boxE ⟨1, k, false, ct⟩)).cell? ⟨g, 0, none⟩ = some (.slice (some ⟨h, 0, none⟩) s.length c) := by simp only [World.cell?, k0]; rfl
  have c1 : (w.alloc (boxE ⟨1, k, false, ct⟩)).cell? ⟨h, k, none⟩ = some (.int .i64 s[k]) := by simp [World.cell?, k1, vN, hl]
  have f1 : (w.alloc (boxE ⟨1, k, false, ct⟩)).frozen? ⟨h, k, none⟩ = false := by simp [World.frozen?, k1]
  simp only [boxE] at ha hf c0 c1 f1 ⊢
  have HA := Lib.hid ha
  have HF := Lib.hid hf
  clear H k0 k1 ha hf
  rw [hx] at c1
  go_enter Try.func65, Try.ntmps65
  go_wp2_with fail
  refine (HA.out).mono ?_
  rintro e wx ⟨rfl, hwx⟩
  obtain rfl := hwx.symm
  rw [hh]
  go_wp2_with fail
  refine (HF.out).mono ?_
  rintro e wx ⟨rfl, hwx⟩
  obtain rfl := hwx.symm
  simp only [from3]
  go_wp2_with fail
  go_quiet (fail)
  go_wp2_with fail
  go_region
  go_wp2_with fail
  go_ret
  exact ⟨rfl, _, rfl⟩
theorem do_exit (g h k : Nat) (s : List Nat) (ct : Int) (w : World) (H : AutoIn w g h s) (hl : k < s.length) (hm : s.length ≤ 9223372036854775807) (hx : s[k] = 2) :
    Calls Try.prog 65 #[.pointer (some ⟨g, 0, none⟩), .agg #[.int .i64 3, .int .i64 k, .bool false, .int .i64 ct]] w fun r w' => r = .returned (.int .i64 0) ∧ ∃ n, w' = ((w.alloc (boxE ⟨3, k, false, ct⟩)).drewN n).setCell ⟨h, k, none⟩ (.int .i64 3) := by
  have hh : hasB s k = true := by simp [hasB, hl]
  have ha := has_any g s k _ (H.alloc (boxE ⟨3, k, false, ct⟩)).at_
  have hf := from_any 3 (w.alloc (boxE ⟨3, k, false, ct⟩))
  obtain ⟨A, c, k0, kk⟩ := H.alloc (boxE ⟨3, k, false, ct⟩)
  rcases kk with rfl | ⟨rfl, hne, k1⟩
  · simp at hl
  have c0 : (w.alloc (boxE ⟨3, k, false, ct⟩)).cell? ⟨g, 0, none⟩ = some (.slice (some ⟨h, 0, none⟩) s.length c) := by simp only [World.cell?, k0]; rfl
  have c1 : (w.alloc (boxE ⟨3, k, false, ct⟩)).cell? ⟨h, k, none⟩ = some (.int .i64 s[k]) := by simp [World.cell?, k1, vN, hl]
  have f1 : (w.alloc (boxE ⟨3, k, false, ct⟩)).frozen? ⟨h, k, none⟩ = false := by simp [World.frozen?, k1]
  simp only [boxE] at ha hf c0 c1 f1 ⊢
  have HA := Lib.hid ha
  have HF := Lib.hid hf
  clear H k0 k1 ha hf
  rw [hx] at c1
  go_enter Try.func65, Try.ntmps65
  go_wp2_with fail
  refine (HA.out).mono ?_
  rintro e wx ⟨rfl, hwx⟩
  obtain rfl := hwx.symm
  rw [hh]
  go_wp2_with fail
  refine (HF.out).mono ?_
  rintro e wx ⟨rfl, hwx⟩
  obtain rfl := hwx.symm
  simp only [from3]
  go_wp2_with fail
  go_quiet (fail)
  go_wp2_with fail
  go_region
  go_wp2_with fail
  go_ret
  exact ⟨rfl, _, rfl⟩
theorem do_rest (g h k : Nat) (s : List Nat) (ct : Int) (w : World) (H : AutoIn w g h s) (hl : k < s.length) (hm : s.length ≤ 9223372036854775807) (hx : s[k] = 3) :
    Calls Try.prog 65 #[.pointer (some ⟨g, 0, none⟩), .agg #[.int .i64 4, .int .i64 k, .bool false, .int .i64 ct]] w fun r w' => r = .returned (.int .i64 0) ∧ ∃ n, w' = ((w.alloc (boxE ⟨4, k, false, ct⟩)).drewN n).setCell ⟨h, k, none⟩ (.int .i64 0) := by
  have hh : hasB s k = true := by simp [hasB, hl]
  have ha := has_any g s k _ (H.alloc (boxE ⟨4, k, false, ct⟩)).at_
  have hf := from_any 4 (w.alloc (boxE ⟨4, k, false, ct⟩))
  obtain ⟨A, c, k0, kk⟩ := H.alloc (boxE ⟨4, k, false, ct⟩)
  rcases kk with rfl | ⟨rfl, hne, k1⟩
  · simp at hl
  have c0 : (w.alloc (boxE ⟨4, k, false, ct⟩)).cell? ⟨g, 0, none⟩ = some (.slice (some ⟨h, 0, none⟩) s.length c) := by simp only [World.cell?, k0]; rfl
  have c1 : (w.alloc (boxE ⟨4, k, false, ct⟩)).cell? ⟨h, k, none⟩ = some (.int .i64 s[k]) := by simp [World.cell?, k1, vN, hl]
  have f1 : (w.alloc (boxE ⟨4, k, false, ct⟩)).frozen? ⟨h, k, none⟩ = false := by simp [World.frozen?, k1]
  simp only [boxE] at ha hf c0 c1 f1 ⊢
  have HA := Lib.hid ha
  have HF := Lib.hid hf
  clear H k0 k1 ha hf
  rw [hx] at c1
  go_enter Try.func65, Try.ntmps65
  go_wp2_with fail
  refine (HA.out).mono ?_
  rintro e wx ⟨rfl, hwx⟩
  obtain rfl := hwx.symm
  rw [hh]
  go_wp2_with fail
  refine (HF.out).mono ?_
  rintro e wx ⟨rfl, hwx⟩
  obtain rfl := hwx.symm
  simp only [from3]
  go_wp2_with fail
  go_quiet (fail)
  go_wp2_with fail
  go_region
  go_wp2_with fail
  go_ret
  exact ⟨rfl, _, rfl⟩
theorem do_enter (g h k : Nat) (s : List Nat) (ct : Int) (w : World) (H : AutoIn w g h s) (hl : k < s.length) (hm : s.length ≤ 9223372036854775807) (hx : s[k] = 1) (hi : idxOf s 2 < 0) :
    Calls Try.prog 65 #[.pointer (some ⟨g, 0, none⟩), .agg #[.int .i64 2, .int .i64 k, .bool false, .int .i64 ct]] w fun r w' => r = .returned (.int .i64 0) ∧ ∃ n, w' = ((w.alloc (boxE ⟨2, k, false, ct⟩)).drewN n).setCell ⟨h, k, none⟩ (.int .i64 2) := by
  have hh : hasB s k = true := by simp [hasB, hl]
  have ha := has_any g s k _ (H.alloc (boxE ⟨2, k, false, ct⟩)).at_
  have hf := from_any 2 (w.alloc (boxE ⟨2, k, false, ct⟩))
  have hd : ∀ n, _ := fun n => holder_any g s _ hm ((H.alloc (boxE ⟨2, k, false, ct⟩)).drewN n).at_
  obtain ⟨A, c, k0, kk⟩ := H.alloc (boxE ⟨2, k, false, ct⟩)
  rcases kk with rfl | ⟨rfl, hne, k1⟩
  · simp at hl
  have c0 : (w.alloc (boxE ⟨2, k, false, ct⟩)).cell? ⟨g, 0, none⟩ = some (.slice (some ⟨h, 0, none⟩) s.length c) := by simp only [World.cell?, k0]; rfl
  have c1 : (w.alloc (boxE ⟨2, k, false, ct⟩)).cell? ⟨h, k, none⟩ = some (.int .i64 s[k]) := by simp [World.cell?, k1, vN, hl]
  have f1 : (w.alloc (boxE ⟨2, k, false, ct⟩)).frozen? ⟨h, k, none⟩ = false := by simp [World.frozen?, k1]
  simp only [boxE] at ha hf hd c0 c1 f1 ⊢
  have HA := Lib.hid ha
  have HF := Lib.hid hf
  have HD := Lib.hid hd
  clear H k0 k1 ha hf hd
  generalize idxOf s 2 = y at hi HD
  rw [hx] at c1
  go_enter Try.func65, Try.ntmps65
  go_wp2_with fail
  refine (HA.out).mono ?_
  rintro e wx ⟨rfl, hwx⟩
  obtain rfl := hwx.symm
  rw [hh]
  go_wp2_with fail
  refine (HF.out).mono ?_
  rintro e wx ⟨rfl, hwx⟩
  obtain rfl := hwx.symm
  simp only [from3]
  go_wp2_with fail
  go_quiet (fail)
  go_wp2_with fail
  refine (HD.out _).mono ?_
  rintro e wx ⟨rfl, hwx⟩
  obtain rfl := hwx.symm
  go_wp2_with fail
  go_region
  go_wp2_with fail
  go_ret
  exact ⟨rfl, _, rfl⟩
end Go.Proofs.Ytfdcojhgpfmloaa.Aut
