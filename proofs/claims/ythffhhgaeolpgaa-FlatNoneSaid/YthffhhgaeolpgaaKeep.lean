/- A cell that a call keeps. -/
import Derived.Test.YthffhhgaeolpgaaHeap
namespace Go.Proofs.Ythffhhgaeolpgaa
open Go.RowKit

theorem keep1 {W W' : World} {p : Addr} {v : Value} (hb : Below W.heap.size W W') (h : W.cell? p = some v) : W'.cell? p = some v := (hb.cell (World.block_lt_of_cell? _ _ h)).trans h
theorem keepM {S : List Nat} {W W' : World} {p : Addr} {v : Value} (hm : Mod S W W') (h : W.cell? p = some v) (hn : p.block ∉ S) : W'.cell? p = some v := by
  have hb := hm.block p.block (World.block_lt_of_cell? _ _ h) hn
  simpa [World.cell?, hb] using h
end Go.Proofs.Ythffhhgaeolpgaa
