/- Layer 1's law: same, whole. -/
import Derived.Test.YtfdcojhgpfmloaaAl4
namespace Go.Proofs.Ytfdcojhgpfmloaa.Ara
open Go.RowKit

theorem eqOp (a b : Int) (c : Bool) (W : World) : (binOp .eql 59 (.agg #[.int .i64 a, .int .i64 b, .bool c]) (.agg #[.int .i64 a, .int .i64 b, .bool c])).run Try.prog W = .ok (.bool true) W := by
  have hp : Try.prog.stoodInHeld 59 = false := by kernel_rfl
  have key : ∀ n, (Op.equalIn (n + 1 + 1) 59 (.agg #[.int .i64 a, .int .i64 b, .bool c]) (.agg #[.int .i64 a, .int .i64 b, .bool c])).run Try.prog W = .ok true W := by
    intro n
    simp only [Op.equalIn, Sem.run_bind, run_underlying Try.underlying59, Result.andThen_ok, run_program, hp, Bool.false_eq_true, if_false]
    rw [← Array.forIn_toList]
    simp [go_sem]
  have k := key 9998
  simp only [binOp]
  simp [Op.equal, Op.maxDepth, k]
theorem eqGOp (x y : Operand) (xs ys : Array Value) (W : World) : (eqGuard .eql 59 x y (.agg xs) (.agg ys)).run Try.prog W = .ok () W := by
  have hm : Try.prog.eqGuardType Try.prog.depth 59 = false := by kernel_rfl
  simp [eqGuard, run_program, hm]

theorem same_tt (l : List Int) (A C : Option Addr) (c1 c2 : Nat) (w : World) (hm : l.length ≤ 4096) (hs : Sl w w.heap.size A (l.flatMap decI)) (ht : Sl w w.heap.size C (l.flatMap decI)) :
    Calls Try.prog 71 #[.slice A l.length c1, .slice C l.length c2] w fun e w' => e = .returned (.bool true) ∧ Below w.heap.size w w' := by
  have := same_any l l A C c1 c2 w (by omega) (by omega) hs ht
  rw [decide_eq_true rfl] at this
  exact this
section
variable (q : Option Addr) (g h gr base : Nat) (σ : Ar) (ρ : Rf) (w : World) (H : Sys q g h gr base w σ ρ)
include H
theorem len_al : Calls Try.prog 32 #[.pointer q] w fun e w' => e = .returned (.int .i64 ρ.ws.length) ∧ Below w.heap.size w w' := by
  rw [H.2.2.1.len]
  exact of_same (len_ao q g h σ w H.1)
theorem ops_al : Calls Try.prog 33 #[.pointer q] w fun e w' => e = .returned (.int .i64 ρ.ops) ∧ Below w.heap.size w w' := by
  rw [H.2.2.1.2.2.2.2.1]
  exact of_same (ops_ao q g h σ w H.1)
theorem last_al : Calls Try.prog 35 #[.pointer q] w fun e w' => e = .returned (.agg #[.int .i64 ρ.kind, .int .i64 ρ.pos, .bool ρ.wrote]) ∧ Below w.heap.size w w' := by
  obtain ⟨_, _, _, _, _, h1, h2, h3⟩ := H.2.2.1
  rw [h1, h2, h3]
  exact last_ao q g h σ w H.1
theorem words_al : Calls Try.prog 34 #[.pointer q] w fun e w' => ∃ A c, e = .returned (.slice A ρ.ws.length c) ∧ Sl w' w'.heap.size A (ρ.ws.flatMap decI) ∧ Below w.heap.size w w' := by
  rw [H.2.2.1.len, H.2.2.1.2.1]
  exact words_ao q g h σ w H.1
end
theorem keepS {W W' : World} {g : Nat} {v1 v2 v3 v4 v5 : Value} (hb : Below W.heap.size W W') (h : W.cell? ⟨g, 1, none⟩ = some v1 ∧ W.cell? ⟨g, 2, none⟩ = some v2 ∧ W.cell? ⟨g, 3, none⟩ = some v3 ∧ W.cell? ⟨g, 4, none⟩ = some v4 ∧ W.cell? ⟨g, 5, none⟩ = some v5) :
    W'.cell? ⟨g, 1, none⟩ = some v1 ∧ W'.cell? ⟨g, 2, none⟩ = some v2 ∧ W'.cell? ⟨g, 3, none⟩ = some v3 ∧ W'.cell? ⟨g, 4, none⟩ = some v4 ∧ W'.cell? ⟨g, 5, none⟩ = some v5 := by
  obtain ⟨h1, h2, h3, h4, h5⟩ := h
  have hc : g < W.heap.size := World.block_lt_of_cell? _ _ h1
  exact ⟨(hb.cell (p := ⟨g, 1, none⟩) hc).trans h1, (hb.cell (p := ⟨g, 2, none⟩) hc).trans h2, (hb.cell (p := ⟨g, 3, none⟩) hc).trans h3, (hb.cell (p := ⟨g, 4, none⟩) hc).trans h4, (hb.cell (p := ⟨g, 5, none⟩) hc).trans h5⟩
/-- The reference's row, read through its struct's slot. -/
theorem row_sl {W : World} {gr base : Nat} {ρ : Rf} {A : Option Addr} {c : Nat} (h : RfAt W gr base ρ) (hc : W.cell? ⟨gr, 1, none⟩ = some (.slice A ρ.ws.length c)) : Sl W W.heap.size A (ρ.ws.flatMap decI) := by
  obtain ⟨A2, c2, _, g1, _, _, _, _, _, _, _, hown⟩ := h.slot
  rw [hc] at g1
  injection g1 with g1
  injection g1 with g1 _ _
  subst g1
  obtain ⟨A3, c3, h1, _, _, h2⟩ := own_slice hown
  injection h1 with h1 _ _
  subst h1
  rw [flatI]
  exact h2

set_option maxHeartbeats 4000000 in
set_option maxRecDepth 100000 in
theorem same_sys (q : Option Addr) (g h gr base : Nat) (σ : Ar) (ρ : Rf) (w : World) (H : Sys q g h gr base w σ ρ) :
    Calls Try.prog 31 #[.pointer q, .pointer (some ⟨gr, 0, none⟩)] w fun e w' => e = .returned (.bool true) ∧ Below w.heap.size w w' := by
  obtain ⟨A, c, _, c1, c2, c3, c4, c5, _, _, _, _⟩ := H.2.1.slot
  have hl := H.2.1.2.2.1
  have HH := Lib.hid H
  have q1 := fun W => eqOp ρ.kind ρ.pos ρ.wrote W
  have q2 := fun x y xs ys W => eqGOp x y xs ys W
  have q3 := nbeq (rfl : ρ.ws.length = ρ.ws.length)
  have q4 := nbeq (rfl : ρ.ops = ρ.ops)
  clear H
  go_enter Try.func31, Try.ntmps31
  go_wp2_with fail
  go_region_held3 (fun V => V.cell? ⟨gr, 1, none⟩ = some (.slice A ρ.ws.length c) ∧ V.cell? ⟨gr, 2, none⟩ = some (.int .i64 ρ.ops) ∧ V.cell? ⟨gr, 3, none⟩ = some (.int .i64 ρ.kind) ∧ V.cell? ⟨gr, 4, none⟩ = some (.int .i64 ρ.pos) ∧ V.cell? ⟨gr, 5, none⟩ = some (.bool ρ.wrote))
    (first | exact ⟨c1, c2, c3, c4, c5⟩ | exact s5 | exact s4 | exact s3 | exact s2 | exact s1)
    (first
      | (go_at_call 34; refine (words_al q g h gr base σ ρ _ (HH.out.step drew0)).mono ?_; rintro e w1 ⟨V, cv, rfl, SV, hb1⟩; have hB1 : Below w.heap.size w w1 := drew0.trans hb1; have H1 := HH.out.step hB1; have s1 := keepS hB1 ⟨c1, c2, c3, c4, c5⟩)
      | (go_at_call 71; refine (same_tt ρ.ws V A cv c _ hl SV (row_sl H1.2.1 s1.1)).mono ?_; rintro e w2 ⟨rfl, hb2⟩; have H2 := H1.step hb2; have hB2 := hB1.trans (hb2.mono hB1.size); have s2 := keepS hb2 s1)
      | (go_at_call 32; refine (len_al q g h gr base σ ρ _ H2).mono ?_; rintro e w3 ⟨rfl, hb3⟩; have H3 := H2.step hb3; have hB3 := hB2.trans (hb3.mono hB2.size); have s3 := keepS hb3 s2)
      | (go_at_call 33; refine (ops_al q g h gr base σ ρ _ H3).mono ?_; rintro e w4 ⟨rfl, hb4⟩; have H4 := H3.step hb4; have hB4 := hB3.trans (hb4.mono hB3.size); have s4 := keepS hb4 s3)
      | (go_at_call 35; refine (last_al q g h gr base σ ρ _ H4).mono ?_; rintro e w5 ⟨rfl, hb5⟩; have hB5 := hB4.trans (hb5.mono hB4.size); have s5 := keepS hb5 s4))
  go_wp2_with fail
  go_ret
  exact ⟨rfl, hB5⟩
end Go.Proofs.Ytfdcojhgpfmloaa.Ara
