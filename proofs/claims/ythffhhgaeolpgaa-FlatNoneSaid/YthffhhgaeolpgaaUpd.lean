/- Worlds that are as they were below a block, but for listed ones. -/
import Derived.Test.YthffhhgaeolpgaaHeap
namespace Go.Proofs.Ythffhhgaeolpgaa
open Go.RowKit

/-- Of the blocks below B, w has turned those of S at most. -/
structure Upd (B : Nat) (S : List Nat) (a w : World) : Prop where
  os : w.os = a.os
  tape : w.tape = a.tape
  output : w.output = a.output
  size : a.heap.size ≤ w.heap.size
  block : ∀ k, k < B → k ∉ S → w.heap[k]? = a.heap[k]?

theorem Upd.refl (B : Nat) (S : List Nat) (w : World) : Upd B S w w := ⟨rfl, rfl, rfl, Nat.le_refl _, fun _ _ _ => rfl⟩
theorem Upd.trans {B : Nat} {S : List Nat} {a b c : World} (h : Upd B S a b) (k : Upd B S b c) : Upd B S a c :=
  ⟨k.os.trans h.os, k.tape.trans h.tape, k.output.trans h.output, Nat.le_trans h.size k.size, fun i hi hn => (k.block i hi hn).trans (h.block i hi hn)⟩
theorem Upd.of_mod {B : Nat} {S : List Nat} {a w : World} (h : Mod S a w) (hB : B ≤ a.heap.size) : Upd B S a w := ⟨h.os, h.tape, h.output, h.size, fun k hk hn => h.block k (by omega) hn⟩
theorem Upd.of_below {B : Nat} {S : List Nat} {a w : World} (h : Below B a w) : Upd B S a w := ⟨h.os, h.tape, h.output, h.size, fun k hk _ => h.block k hk⟩
theorem Upd.setCell {B : Nat} {S : List Nat} {a w : World} (h : Upd B S a w) {p : Addr} (hp : p.block ∈ S ∨ B ≤ p.block) (u : Value) : Upd B S a (w.setCell p u) :=
  h.trans ⟨rfl, rfl, rfl, by simp [World.setCell], fun k hk hn => Below.heap_setCell _ _ _ _ (fun e => by
    rcases hp with hp | hp
    · exact hn (e ▸ hp)
    · omega)⟩
theorem Upd.drewN {B : Nat} {S : List Nat} {a w : World} (h : Upd B S a w) (n : Nat) : Upd B S a (w.drewN n) := ⟨h.os, h.tape, h.output, h.size, h.block⟩
theorem Upd.drew {B : Nat} {S : List Nat} {a w : World} (h : Upd B S a w) : Upd B S a w.drew := ⟨h.os, h.tape, h.output, h.size, h.block⟩
theorem Upd.sub {B B' : Nat} {S T : List Nat} {a w : World} (h : Upd B S a w) (hB : B' ≤ B) (hs : ∀ k, k ∈ S → k ∈ T) : Upd B' T a w :=
  ⟨h.os, h.tape, h.output, h.size, fun k hk hn => h.block k (by omega) (fun e => hn (hs k e))⟩
theorem Upd.blk {B : Nat} {S : List Nat} {a w : World} (h : Upd B S a w) {g : Nat} {o : Option Obj} (hg : a.heap[g]? = o) (hB : g < B) (hn : g ∉ S) : w.heap[g]? = o := (h.block g hB hn).trans hg
theorem Upd.below {B B' : Nat} {S : List Nat} {a w : World} (h : Upd B S a w) (hB : B' ≤ B) (hS : ∀ k ∈ S, B' ≤ k) : Below B' a w :=
  ⟨h.os, h.tape, h.output, h.size, fun k hk => h.block k (by omega) (fun e => by have := hS k e; omega)⟩
end Go.Proofs.Ythffhhgaeolpgaa
