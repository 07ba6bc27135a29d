/- A topology as an argument: how it is read. -/
import Derived.Test.YtcfdphfochfeoaaDoorDe5
import Derived.Test.YtcfdphfochfeoaaDoorDoor
namespace Go.Proofs.YtcfdphfochfeoaaDoor.Tp
open Go.RowKit Go.ChangeShapes Go.WideShapes Go.Deep Go.Proofs.YtcfdphfochfeoaaDoor.Li Go.Proofs.YtcfdphfochfeoaaDoor.De Go.Proofs.YtcfdphfochfeoaaDoor.Ara
theorem arg_topo {H : Type} {enc : TypeId × Value → H} {w : World} {base : Nat} {spare : Nat → Bool} {held : Bool} {v : Value} {D : DataW H} {pl : List MemPlace} (hv : ∃ cs, v = .agg cs) (h : DataW.Trod enc Tryd.prog w base spare held 75 v D pl) :
    ∃ (A B : Option Addr) (c d : Nat) (p t : List Int), v = .agg #[.slice A p.length c, .slice B t.length d] ∧ p.length ≤ c ∧ c ≤ maxLen ∧ t.length ≤ d ∧ d ≤ maxLen ∧ Sl w w.heap.size A (p.flatMap decI) ∧ Sl w w.heap.size B (t.flatMap decI) := by
  obtain ⟨cs, rfl⟩ := hv
  obtain ⟨fuel, hf⟩ := h
  obtain ⟨hl, hfl⟩ := fields_of Tryd.underlying75 (by kernel_rfl) (by kernel_rfl) hf
  have hl2 : cs.toList.length = 2 := hl
  obtain ⟨x, y, e⟩ := list2 hl2
  have e' : (Value.agg cs).cells.toList = [x, y] := e
  rw [e'] at hfl
  obtain ⟨_, _, g0⟩ := hfl 0 _ x rfl rfl
  obtain ⟨_, _, g1⟩ := hfl 1 _ y rfl rfl
  obtain ⟨A, n, c, p, h1, rfl, h2, h3, _, h4⟩ := slice_of (k := 1) Tryd.underlying41 (by kernel_rfl) (fun _ => rfl) (reads_i64 Tryd.underlying3) g0
  obtain ⟨B, m, d, t, k1, rfl, k2, k3, _, k4⟩ := slice_of (k := 1) Tryd.underlying41 (by kernel_rfl) (fun _ => rfl) (reads_i64 Tryd.underlying3) g1
  injection h1 with h1
  injection k1 with k1
  subst h1 k1
  refine ⟨A, B, c, d, p, t, ?_, h2, h3, k2, k3, h4, k4⟩
  congr 1
  apply Array.ext'
  rw [e]
end Go.Proofs.YtcfdphfochfeoaaDoor.Tp
