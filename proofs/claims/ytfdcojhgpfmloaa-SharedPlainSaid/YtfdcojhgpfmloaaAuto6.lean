/- Walks of package auto: Do. -/
import Derived.Test.YtfdcojhgpfmloaaAuto5
import Derived.BigQuiet
import Derived.StillTailTactics
namespace Go.Proofs.Ytfdcojhgpfmloaa.Aut
open Go.RowKit

/-- A lock in memory, its ints' block named. -/
def AutoIn (w : World) (g h : Nat) (s : List Nat) : Prop :=
  ∃ A c, w.heap[g]? = some (.cells #[.slice A s.length c] 134 (0, 0)) ∧
    (s = [] ∨ (A = some ⟨h, 0, none⟩ ∧ h ≠ g ∧ w.heap[h]? = some (.cells (s.map vN).toArray 3 (0, 0))))
theorem AutoIn.at_ {w : World} {g h : Nat} {s : List Nat} (k : AutoIn w g h s) : AutoAt w g s := by
  obtain ⟨A, c, h1, h2⟩ := k
  rcases h2 with rfl | ⟨rfl, hn, h3⟩
  · exact ⟨A, c, h1, .inl rfl⟩
  · exact ⟨_, c, h1, .inr ⟨h, rfl, hn, h3⟩⟩
theorem AutoIn.alloc {w : World} {g h : Nat} {s : List Nat} (k : AutoIn w g h s) (o : Obj) : AutoIn (w.alloc o) g h s := by
  have old : ∀ {i : Nat} {x : Obj}, w.heap[i]? = some x → (w.alloc o).heap[i]? = some x := fun {i x} hx => by
    have hi : i < w.heap.size := by
      rcases Nat.lt_or_ge i w.heap.size with h | h
      · exact h
      · rw [Array.getElem?_eq_none h] at hx; simp at hx
    rw [heap_alloc_old w o hi, hx]
  obtain ⟨A, c, h1, h2⟩ := k
  refine ⟨A, c, old h1, ?_⟩
  rcases h2 with rfl | ⟨rfl, hn, h3⟩
  · exact .inl rfl
  · exact .inr ⟨rfl, hn, old h3⟩
theorem AutoIn.drewN {w : World} {g h : Nat} {s : List Nat} (k : AutoIn w g h s) (n : Nat) : AutoIn (w.drewN n) g h s := k
theorem AutoIn.set {w : World} {g h : Nat} {s : List Nat} (k : AutoIn w g h s) (q x : Nat) (hq : q < s.length) : AutoIn (w.setCell ⟨h, q, none⟩ (.int .i64 x)) g h (s.set q x) := by
  obtain ⟨A, c, h1, h2⟩ := k
  rcases h2 with rfl | ⟨rfl, hn, h3⟩
  · simp at hq
  · refine ⟨_, c, ?_, .inr ⟨rfl, hn, ?_⟩⟩
    · rw [List.length_set]
      simp [World.setCell, Array.getElem?_modify, h1, hn]
    · rw [blk_set h3]
      simp [vN, List.map_set]

/-- What an event comes to, and what each thread is at then. -/
def doS (s : List Nat) (e : Ev) : Nat × List Nat :=
  if e.read then (7, s) else if e.kind = 0 ∨ e.kind = 5 then (0, s) else if e.kind < 0 ∨ 5 < e.kind then (7, s)
  else if hasB s e.thread = false then (4, s)
  else if stateOf s e.thread ≠ (from3 e.kind).1 then ((from3 e.kind).2.2.toNat, s)
  else if e.kind = 2 ∧ 0 ≤ idxOf s 2 then (5, s)
  else (0, s.set e.thread.toNat (from3 e.kind).2.1.toNat)

def boxE (e : Ev) : Obj := .cells #[.int .i64 e.kind, .int .i64 e.thread, .bool e.read, .int .i64 e.count] 29 (0, 0)
/-- The world behind Do: the event's box, some draws, and one int of the lock's, if at all. -/
def DoneW (w : World) (h : Nat) (e : Ev) (w' : World) : Prop :=
  ∃ n, w' = (w.alloc (boxE e)).drewN n ∨ ∃ q x, w' = ((w.alloc (boxE e)).drewN n).setCell ⟨h, q, none⟩ (.int .i64 x)



theorem do_read (g h : Nat) (s : List Nat) (kd th ct : Int) (w : World) :
    Calls Try.prog 65 #[.pointer (some ⟨g, 0, none⟩), .agg #[.int .i64 kd, .int .i64 th, .bool true, .int .i64 ct]] w fun r w' => r = .returned (.int .i64 7) ∧ w' = w.alloc (boxE ⟨kd, th, true, ct⟩) := by
  go_enter Try.func65, Try.ntmps65
  go_wp2_with fail
  go_ret
  exact ⟨rfl, rfl⟩
theorem do_free (g h : Nat) (s : List Nat) (kd th ct : Int) (w : World) (hk : kd = 0 ∨ kd = 5) :
    Calls Try.prog 65 #[.pointer (some ⟨g, 0, none⟩), .agg #[.int .i64 kd, .int .i64 th, .bool false, .int .i64 ct]] w fun r w' => r = .returned (.int .i64 0) ∧ w' = w.alloc (boxE ⟨kd, th, false, ct⟩) := by
  rcases hk with rfl | rfl
  all_goals
    go_enter Try.func65, Try.ntmps65
    go_wp2_with fail
    go_ret
    exact ⟨rfl, rfl⟩
theorem do_wrong (g h : Nat) (s : List Nat) (kd th ct : Int) (w : World) (hk : kd < 0 ∨ 5 < kd) :
    Calls Try.prog 65 #[.pointer (some ⟨g, 0, none⟩), .agg #[.int .i64 kd, .int .i64 th, .bool false, .int .i64 ct]] w fun r w' => r = .returned (.int .i64 7) ∧ w' = w.alloc (boxE ⟨kd, th, false, ct⟩) := by
  have e0 := ibeq_no (show ¬ kd = 0 by omega)
  have e1 := ibeq_no (show ¬ kd = 1 by omega)
  have e2 := ibeq_no (show ¬ kd = 2 by omega)
  have e3 := ibeq_no (show ¬ kd = 3 by omega)
  have e4 := ibeq_no (show ¬ kd = 4 by omega)
  have e5 := ibeq_no (show ¬ kd = 5 by omega)
  clear hk
  go_enter Try.func65, Try.ntmps65
  go_wp2_with fail
  go_ret
  exact ⟨rfl, rfl⟩
theorem do_none (g h : Nat) (s : List Nat) (kd th ct : Int) (w : World) (hk : 1 ≤ kd ∧ kd ≤ 4) (H : AutoIn w g h s) (hh : hasB s th = false) :
    Calls Try.prog 65 #[.pointer (some ⟨g, 0, none⟩), .agg #[.int .i64 kd, .int .i64 th, .bool false, .int .i64 ct]] w fun r w' => r = .returned (.int .i64 4) ∧ w' = w.alloc (boxE ⟨kd, th, false, ct⟩) := by
  have HA := Lib.hid (has_any g s th _ (H.alloc (boxE ⟨kd, th, false, ct⟩)).at_)
  clear H
  rcases (show kd = 1 ∨ kd = 2 ∨ kd = 3 ∨ kd = 4 by omega) with rfl | rfl | rfl | rfl
  all_goals
    go_enter Try.func65, Try.ntmps65
    go_wp2_with fail
    refine (HA.out).mono ?_
    rintro e wx ⟨rfl, hwx⟩
    obtain rfl := hwx.symm
    rw [hh]
    go_wp2_with fail
    go_ret
    exact ⟨rfl, rfl⟩
end Go.Proofs.Ytfdcojhgpfmloaa.Aut
