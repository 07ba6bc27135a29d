/- Walks of package auto: Threads, has, State, Holder, from. -/
import Derived.Test.YtfdcojhgpfmloaaOpen
import Derived.Deep.OwnRows
namespace Go.Proofs.Ytfdcojhgpfmloaa.Aut
open Go.RowKit

def vN (n : Nat) : Value := .int .i64 n
def decN (n : Nat) : List Value := [.int .i64 n]
theorem infoI : (Try.prog.info? 3).map (fun i => (i.zero, i.size, i.bytes)) = some (some (.int .i64 0), 1, 8) := by kernel_rfl

/-- A lock in memory: what each thread is at. -/
def AutoAt (w : World) (g : Nat) (s : List Nat) : Prop :=
  ∃ A c, w.heap[g]? = some (.cells #[.slice A s.length c] 134 (0, 0)) ∧
    (s = [] ∨ ∃ h, A = some ⟨h, 0, none⟩ ∧ h ≠ g ∧ w.heap[h]? = some (.cells (s.map vN).toArray 3 (0, 0)))

def stateOf (s : List Nat) (t : Int) : Nat := if 0 ≤ t then s.getD t.toNat 0 else 0
def hasB (s : List Nat) (t : Int) : Bool := decide (0 ≤ t) && decide (t < s.length)
def idxOf (s : List Nat) (x : Nat) : Int := match s.findIdx? (· == x) with | some i => i | none => -1

section
variable {w : World} {g : Nat} {s : List Nat}
theorem AutoAt.slot (h : AutoAt w g s) : ∃ A c, w.cell? ⟨g, 0, none⟩ = some (.slice A s.length c) ∧ w.frozen? ⟨g, 0, none⟩ = false ∧
    (∀ i (hi : i < s.length), ∃ b, A = some ⟨b, 0, none⟩ ∧ w.cell? ⟨b, i, none⟩ = some (.int .i64 s[i]) ∧ w.frozen? ⟨b, i, none⟩ = false) := by
  obtain ⟨A, c, h1, h2⟩ := h
  refine ⟨A, c, by simp [World.cell?, h1], by simp [World.frozen?, h1], fun i hi => ?_⟩
  rcases h2 with rfl | ⟨b, rfl, _, hb⟩
  · simp at hi
  · exact ⟨b, rfl, by simp [World.cell?, hb, vN, hi], by simp [World.frozen?, hb]⟩
end

theorem threads_any (g : Nat) (s : List Nat) (w : World) (h : AutoAt w g s) :
    Calls Try.prog 108 #[.pointer (some ⟨g, 0, none⟩)] w fun e w' => e = .returned (.int .i64 s.length) ∧ w' = w := by
  obtain ⟨A, c, h0, _, _⟩ := h.slot
  go_enter Try.func108, Try.ntmps108
  go_wp2
  go_goals
  all_goals go_ret
  all_goals exact ⟨rfl, rfl⟩
theorem threads_nil (w : World) :
    Calls Try.prog 108 #[.pointer none] w fun e w' => e = .returned (.int .i64 0) ∧ w' = w := by
  go_enter Try.func108, Try.ntmps108
  go_wp2
  all_goals go_ret
  all_goals exact ⟨rfl, rfl⟩
end Go.Proofs.Ytfdcojhgpfmloaa.Aut
