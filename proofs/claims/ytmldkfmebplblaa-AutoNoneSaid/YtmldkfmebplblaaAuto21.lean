/- The three laws of layer 10, as the rows ask for them. -/
import Derived.Test.YtmldkfmebplblaaAuto20
namespace Go.Proofs.Ytmldkfmebplblaa.Aut
open Go.RowKit

theorem reads_ev {H : Type} {enc : TypeId × Value → H} : Reads enc Try.prog 46 decE (fun e => isI64 e.kind ∧ isI64 e.thread ∧ isI64 e.count) :=
  (reads_s4 (d0 := Value.int .i64) (d1 := Value.int .i64) (d2 := Value.bool) (d3 := Value.int .i64) Try.underlying46 (by kernel_rfl) (by kernel_rfl) (reads_i64 Try.underlying3) (reads_i64 Try.underlying3) (reads_bool Try.underlying4) (reads_i64 Try.underlying3)).map
    (fun p => ⟨p.1, p.2.1, p.2.2.1, p.2.2.2⟩) (fun _ => rfl) (fun _ h => ⟨h.1, h.2.1, h.2.2.2⟩)

theorem plays_law (w : World) (T : Int) (_h0 : isI64 T) (A : Option Addr) (c : Nat) (l : List Ev) (hc : l.length ≤ c) (hm : c ≤ maxLen) (_w0 : ∀ e ∈ l, isI64 e.kind ∧ isI64 e.thread ∧ isI64 e.count) (hs : Sl w w.heap.size A (l.flatMap decE)) (th : Int) (_h1 : isI64 th) :
    Calls Try.prog 11 #[.int .i64 T, .slice A l.length c, .int .i64 th] w fun e w' => e = .returned (.bool true) ∧ Below w.heap.size w w' := plays_walk T th l A c w hc hm hs
theorem one_law (w : World) (T : Int) (_h0 : isI64 T) (A : Option Addr) (c : Nat) (l : List Ev) (hc : l.length ≤ c) (hm : c ≤ maxLen) (_w0 : ∀ e ∈ l, isI64 e.kind ∧ isI64 e.thread ∧ isI64 e.count) (hs : Sl w w.heap.size A (l.flatMap decE)) :
    Calls Try.prog 12 #[.int .i64 T, .slice A l.length c] w fun e w' => e = .returned (.bool true) ∧ Below w.heap.size w w' := one_walk T l A c w hc hm hs
theorem none_law (w : World) (e : Ev) (_h : isI64 e.kind ∧ isI64 e.thread ∧ isI64 e.count) (th : Int) (_h1 : isI64 th) :
    Calls Try.prog 13 #[.agg (decE e).toArray, .int .i64 th] w fun e w' => e = .returned (.bool true) ∧ Below w.heap.size w w' := none_walk e th w
end Go.Proofs.Ytmldkfmebplblaa.Aut
