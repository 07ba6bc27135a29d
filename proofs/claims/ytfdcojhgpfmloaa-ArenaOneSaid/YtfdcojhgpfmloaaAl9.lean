/- Layer 1's law ArenaNone: its walk. -/
import Derived.Test.YtfdcojhgpfmloaaAl8
namespace Go.Proofs.Ytfdcojhgpfmloaa.Ara
open Go.RowKit

theorem frame79 {a : Act} (h : a.tmps.size = 79) (hd : a.defers = []) : ∃ u : Nat → Value, a = { tmps := #[u 0, u 1, u 2, u 3, u 4, u 5, u 6, u 7, u 8, u 9, u 10, u 11, u 12, u 13, u 14, u 15, u 16, u 17, u 18, u 19, u 20, u 21, u 22, u 23, u 24, u 25, u 26, u 27, u 28, u 29, u 30, u 31, u 32, u 33, u 34, u 35, u 36, u 37, u 38, u 39, u 40, u 41, u 42, u 43, u 44, u 45, u 46, u 47, u 48, u 49, u 50, u 51, u 52, u 53, u 54, u 55, u 56, u 57, u 58, u 59, u 60, u 61, u 62, u 63, u 64, u 65, u 66, u 67, u 68, u 69, u 70, u 71, u 72, u 73, u 74, u 75, u 76, u 77, u 78], defers := [] } ∧ ∀ n, a.tmps.getD n undef = u n := by
  refine ⟨fun n => a.tmps.getD n undef, ?_, fun _ => rfl⟩
  have h1 := arr_lit a.tmps h
  cases a with
  | mk t d =>
    simp only at hd h1
    subst hd
    congr 1
theorem neOp (a b : Int) (c : Bool) (W : World) : (binOp .neq 59 (.agg #[.int .i64 a, .int .i64 b, .bool c]) (.agg #[.int .i64 a, .int .i64 b, .bool c])).run Try.prog W = .ok (.bool false) W := by
  have hp : Try.prog.stoodInHeld 59 = false := by kernel_rfl
  have key : ∀ n, (Op.equalIn (n + 1 + 1) 59 (.agg #[.int .i64 a, .int .i64 b, .bool c]) (.agg #[.int .i64 a, .int .i64 b, .bool c])).run Try.prog W = .ok true W := by
    intro n
    simp only [Op.equalIn, Sem.run_bind, run_underlying Try.underlying59, Result.andThen_ok, run_program, hp, Bool.false_eq_true, if_false]
    rw [← Array.forIn_toList]
    simp [go_sem]
  have k := key 9998
  simp only [binOp]
  simp [Op.equal, Op.maxDepth, k]
theorem neGOp (x y : Operand) (xs ys : Array Value) (W : World) : (eqGuard .neq 59 x y (.agg xs) (.agg ys)).run Try.prog W = .ok () W := by
  have hm : Try.prog.eqGuardType Try.prog.depth 59 = false := by kernel_rfl
  simp [eqGuard, run_program, hm]
theorem act_zero (x : Ac) : actS (Ar.fresh 0) x = Ar.fresh 0 := by
  have e1 : ∀ n, ((Ar.fresh 0).take n).2 = Ar.fresh 0 := by
    intro n
    unfold Ar.take
    by_cases h0 : n < 0
    · rw [if_pos h0]
    · rw [if_neg h0]
      by_cases h1 : n = 0
      · subst h1; rfl
      · rw [if_pos (by simp [Ar.fresh, zerosW]; omega)]
  unfold actS
  simp only [e1, Ar.op_out (fresh_has _), ite_self]
section
variable (q : Option Addr) (g h : Nat) (W : World) (H : AO q g h W (Ar.fresh 0))
include H
theorem len0 : Calls Try.prog 32 #[.pointer q] W fun e w' => e = .returned (.int .i64 0) ∧ Below W.heap.size W w' := of_same (len_ao q g h _ W H)
theorem ops0 : Calls Try.prog 33 #[.pointer q] W fun e w' => e = .returned (.int .i64 0) ∧ Below W.heap.size W w' := of_same (ops_ao q g h _ W H)
theorem last0 : Calls Try.prog 35 #[.pointer q] W fun e w' => e = .returned (.agg #[.int .i64 0, .int .i64 0, .bool false]) ∧ Below W.heap.size W w' := last_ao q g h _ W H
theorem words0 : Calls Try.prog 34 #[.pointer q] W fun e w' => ∃ A c, e = .returned (.slice A 0 c) ∧ Below W.heap.size W w' := (words_ao q g h _ W H).mono fun e w' ⟨A, c, h1, _, h3⟩ => ⟨A, c, h1, h3⟩
end
theorem rnew0 (w : World) : Calls Try.prog 29 #[.int .i64 0] w fun e w' => e = .returned (.pointer (some ⟨w.heap.size, 0, none⟩)) ∧ RfAt w' w.heap.size (w.heap.size + 1) ⟨0, [], 0, 0, 0, false⟩ ∧ w'.heap.size = w.heap.size + 1 ∧ Below w.heap.size w w' := rnew_any 0 w
/-- An act with an arena without room, and with the document's. -/
theorem do0 (q : Option Addr) (g h : Nat) (V W : World) (x : Ac) (H : AO q g h V (Ar.fresh 0)) (hm : ∀ y ∈ ms q g h, y < V.heap.size) (hb : Below V.heap.size V W) (hr : RfAt W V.heap.size (V.heap.size + 1) ⟨0, [], 0, 0, 0, false⟩) :
    Calls Try.prog 30 #[.pointer q, .pointer (some ⟨V.heap.size, 0, none⟩), .agg #[.int .i64 x.kind, .int .i64 x.pos, .int .i64 x.a, .int .i64 x.b]] W fun e w' => e = .returned (.bool true) ∧ AO q g h w' (Ar.fresh 0) ∧ Upd V.heap.size (ms q g h) V w' := by
  refine (do_any q g h V.heap.size (V.heap.size + 1) (Ar.fresh 0) W ⟨_, H.step hb, hr, alk_fresh 0, fun y hy => ⟨by have := hm y hy; omega, by have := hm y hy; omega⟩⟩ (by decide) x).mono ?_
  rintro e w' ⟨rfl, ⟨ρ, h1⟩, h2⟩
  rw [act_zero] at h1
  refine ⟨rfl, h1.1, (Upd.of_below hb).trans ⟨h2.os, h2.tape, h2.output, h2.size, fun k hk hn => h2.block k (by omega) ?_⟩⟩
  simp only [List.mem_cons, not_or]
  exact ⟨by omega, hn⟩

/-- The three arenas, and the act. -/
def N3 (B : Nat) (x : Ac) (w W : World) : Prop :=
  W.heap[B]? = some (boxAc x) ∧ ArAt W (B + 1) (B + 1) (Ar.fresh 0) ∧ ArAt W (B + 1 + 1 + 1) (B + 1 + 1) (Ar.fresh 0) ∧ B + 4 ≤ W.heap.size ∧ Below B w W
theorem N3.upd {B : Nat} {x : Ac} {w W W' : World} {S : List Nat} (h : N3 B x w W) (hu : Upd W.heap.size S W W') (hS : ∀ y ∈ S, B + 1 ≤ y) (h1 : ArAt W' (B + 1) (B + 1) (Ar.fresh 0)) (h2 : ArAt W' (B + 1 + 1 + 1) (B + 1 + 1) (Ar.fresh 0)) : N3 B x w W' :=
  ⟨hu.blk h.1 (by have := h.2.2.2.1; omega) (fun e => by have := hS _ e; omega), h1, h2, Nat.le_trans h.2.2.2.1 hu.size, h.2.2.2.2.trans (hu.below (by have := h.2.2.2.1; omega) (fun y hy => by have := hS y hy; omega))⟩
theorem N3.step {B : Nat} {x : Ac} {w W W' : World} (h : N3 B x w W) (hb : Below W.heap.size W W') : N3 B x w W' :=
  h.upd (S := []) (Upd.of_below hb) (by simp) (h.2.1.step hb) (h.2.2.1.step hb)
/-- Which arena it is. -/
def Who (B : Nat) (q : Option Addr) (g h : Nat) : Prop := (q = none ∧ g = 0 ∧ h = 0) ∨ (q = some ⟨B + 1, 0, none⟩ ∧ g = B + 1 ∧ h = B + 1) ∨ (q = some ⟨B + 1 + 1 + 1, 0, none⟩ ∧ g = B + 1 + 1 + 1 ∧ h = B + 1 + 1)
theorem Who.ao {B : Nat} {q : Option Addr} {g h : Nat} {x : Ac} {w W : World} (k : Who B q g h) (n : N3 B x w W) : AO q g h W (Ar.fresh 0) ∧ ∀ y ∈ ms q g h, y < W.heap.size := by
  obtain ⟨_, n1, n2, n3, _⟩ := n
  rcases k with ⟨rfl, rfl, rfl⟩ | ⟨rfl, rfl, rfl⟩ | ⟨rfl, rfl, rfl⟩
  · exact ⟨.inr ⟨rfl, rfl⟩, by simp [ms]⟩
  · exact ⟨.inl ⟨rfl, n1⟩, by simp [ms]; omega⟩
  · exact ⟨.inl ⟨rfl, n2⟩, by simp [ms]; omega⟩
theorem Who.next {B : Nat} {q : Option Addr} {g h : Nat} {x : Ac} {w W W' : World} (k : Who B q g h) (n : N3 B x w W) (ha : AO q g h W' (Ar.fresh 0)) (hu : Upd W.heap.size (ms q g h) W W') : N3 B x w W' := by
  have h3 := n.2.2.2.1
  rcases k with ⟨rfl, rfl, rfl⟩ | ⟨rfl, rfl, rfl⟩ | ⟨rfl, rfl, rfl⟩
  · exact n.upd hu (by simp [ms]) (n.2.1.upd hu (by omega) (by omega) (by simp [ms]) (by simp [ms])) (n.2.2.1.upd hu (by omega) (by omega) (by simp [ms] <;> omega) (by simp [ms] <;> omega))
  · rcases ha with ⟨_, ha⟩ | ⟨e, _⟩
    · exact n.upd hu (by simp [ms]) ha (n.2.2.1.upd hu (by omega) (by omega) (by simp [ms] <;> omega) (by simp [ms] <;> omega))
    · cases e
  · rcases ha with ⟨_, ha⟩ | ⟨e, _⟩
    · exact n.upd hu (by simp [ms]) (n.2.1.upd hu (by omega) (by omega) (by simp [ms] <;> omega) (by simp [ms] <;> omega)) ha
    · cases e
theorem zero_arena (W : World) : ArAt (W.alloc (.cells #[.slice none 0 0, .int .i64 0, .int .i64 0, .int .i64 0, .int .i64 0, .bool false] 61)) W.heap.size W.heap.size (Ar.fresh 0) :=
  ⟨Nat.le_refl _, by decide, none, 0, blk_new _ _, .inl rfl⟩
theorem take_room (t : Int) : (Ar.fresh (room t)).take (room t) = ((1, 0), ⟨zerosW (room t), room t, 0, 0, 0, false⟩) := by
  unfold Ar.take
  rw [if_neg (by omega), if_neg (by simp [Ar.fresh, zerosW])]
  simp [Ar.fresh]
theorem take_over (t : Int) : (Ar.fresh (room t)).take ((room t : Int) + 1) = ((0, 3), Ar.fresh (room t)) := by
  unfold Ar.take
  rw [if_neg (by omega), if_pos (by simp [Ar.fresh, zerosW]; omega)]
theorem made3 (x : Ac) (w w1 : World)
    (h : AtA ((w.alloc (.cells #[.int .i64 x.kind, .int .i64 x.pos, .int .i64 x.a, .int .i64 x.b] 54)).alloc (.cells #[.slice none 0 0, .int .i64 0, .int .i64 0, .int .i64 0, .int .i64 0, .bool false] 61)).heap.size
      ((w.alloc (.cells #[.int .i64 x.kind, .int .i64 x.pos, .int .i64 x.a, .int .i64 x.b] 54)).alloc (.cells #[.slice none 0 0, .int .i64 0, .int .i64 0, .int .i64 0, .int .i64 0, .bool false] 61)) w1 (Ar.fresh 0)) : N3 w.heap.size x w w1 := by
  obtain ⟨h1, h2, h3⟩ := h
  have hz := zero_arena (w.alloc (.cells #[.int .i64 x.kind, .int .i64 x.pos, .int .i64 x.a, .int .i64 x.b] 54))
  have hb := blk_alloc (blk_new w (.cells #[.int .i64 x.kind, .int .i64 x.pos, .int .i64 x.a, .int .i64 x.b] 54)) (.cells #[.slice none 0 0, .int .i64 0, .int .i64 0, .int .i64 0, .int .i64 0, .bool false] 61)
  have hw : Below w.heap.size w ((w.alloc (.cells #[.int .i64 x.kind, .int .i64 x.pos, .int .i64 x.a, .int .i64 x.b] 54)).alloc (.cells #[.slice none 0 0, .int .i64 0, .int .i64 0, .int .i64 0, .int .i64 0, .bool false] 61)) := (below_new _ _).alloc (by simp) _
  simp only [World.size_alloc] at h1 h2 h3 hz
  exact ⟨(Upd.of_below (S := []) h3).blk hb (by omega) (by simp), hz.upd (S := []) (Upd.of_below h3) (by omega) (by omega) (by simp) (by simp), h1, by omega, hw.trans (h3.mono (by omega))⟩
theorem ix0 (a b c : Option Addr) (W : World) : (Instr.index 62 (.agg #[.pointer a, .pointer b, .pointer c]) (.int .i64 0)).run Try.prog W = .ok (.pointer a) W := by
  simp [Instr.index, run_underlying Try.underlying62, asIntOf, go_sem]
theorem ix1 (a b c : Option Addr) (W : World) : (Instr.index 62 (.agg #[.pointer a, .pointer b, .pointer c]) (.int .i64 1)).run Try.prog W = .ok (.pointer b) W := by
  simp [Instr.index, run_underlying Try.underlying62, asIntOf, go_sem]
theorem ix2 (a b c : Option Addr) (W : World) : (Instr.index 62 (.agg #[.pointer a, .pointer b, .pointer c]) (.int .i64 2)).run Try.prog W = .ok (.pointer c) W := by
  simp [Instr.index, run_underlying Try.underlying62, asIntOf, go_sem]
def NnJ (x : Ac) (t : Int) (w : World) (a : Act) (W : World) : Prop :=
  a.tmps.size = 79 ∧ a.defers = [] ∧ a.tmps.getD 1 undef = .int .i64 t ∧ a.tmps.getD 2 undef = .pointer (some ⟨w.heap.size, 0, none⟩) ∧ a.tmps.getD 15 undef = .agg #[.pointer none, .pointer (some ⟨w.heap.size + 1, 0, none⟩), .pointer (some ⟨w.heap.size + 1 + 1 + 1, 0, none⟩)] ∧
    ∃ k : Nat, a.tmps.getD 16 undef = .int .i64 k ∧ k ≤ 3 ∧ N3 w.heap.size x w W

set_option maxHeartbeats 8000000 in
set_option maxRecDepth 100000 in
theorem none_walk (x : Ac) (t : Int) (w : World) :
    Calls Try.prog 7 #[.agg #[.int .i64 x.kind, .int .i64 x.pos, .int .i64 x.a, .int .i64 x.b], .int .i64 t] w fun e w' => e = .returned (.bool true) ∧ Below w.heap.size w w' := by
  have q1 := fun W => neOp 0 0 false W
  have q2 := fun x y xs ys W => neGOp x y xs ys W
  have q3 := fun a b c W => ix0 a b c W
  have q4 := fun a b c W => ix1 a b c W
  have q5 := fun a b c W => ix2 a b c W
  go_enter Try.func7, Try.ntmps7
  go_wp2_with fail
  refine (new_at 0 _ (Ar.fresh 0) rfl).mono ?_
  rintro e w1 ⟨rfl, hat⟩
  have hN := Lib.hid (made3 x w w1 hat)
  clear hat
  go_wp2_with fail
  refine wp_loop (NnJ x t w) (fun a' _ => 3 - (intOf (a'.tmps.getD 16 undef)).toNat) ?_ ?_
  · exact ⟨rfl, rfl, rfl, rfl, rfl, 0, rfl, by omega, hN.out⟩
  · clear hN
    rintro a' W ⟨hsz, hdf, s1, s2, s15, k, s16, hk, hn⟩
    obtain ⟨u, rfl, hu⟩ := frame79 hsz hdf
    rw [hu] at s1 s2 s15 s16
    simp only [s1, s2, s15, s16]
    clear hsz hdf s1 s2 s15 s16 hu
    by_cases hlt : k < 3
    · rcases (show k = 0 ∨ k = 1 ∨ k = 2 by omega) with rfl | rfl | rfl
      · have hW : Who w.heap.size none 0 0 := by simp [Who]
        obtain ⟨hao, hms⟩ := hW.ao hn
        have hao1 := Lib.hid (hao.step (drew0 (W := W)))
        have hn1 := Lib.hid (hn.step (drew0 (W := W)))
        have hms1 := Lib.hid (show ∀ y ∈ ms none 0 0, y < W.drew.heap.size from hms)
        have hWW := Lib.hid hW
        clear hao hms hn hW
        obtain ⟨c0, c1, c2, c3⟩ := cellsA hn1.out.1
        go_wp2_with fail
        go_region_held3 (fun V => V.cell? ⟨w.heap.size, 0, none⟩ = some (.int .i64 x.kind) ∧ V.cell? ⟨w.heap.size, 1, none⟩ = some (.int .i64 x.pos) ∧ V.cell? ⟨w.heap.size, 2, none⟩ = some (.int .i64 x.a) ∧ V.cell? ⟨w.heap.size, 3, none⟩ = some (.int .i64 x.b))
          (first | exact ⟨c0, c1, c2, c3⟩ | exact cellsA n6.1 | exact cellsA n5.1 | exact cellsA n4.1 | exact cellsA n3.1 | exact cellsA n2.1 | exact cellsA n1.1)
          (first
            | (go_at_call 29; refine (rnew0 _).mono ?_; rintro e w1 ⟨rfl, hr1, hz1, hb1⟩; have n1 := hn1.out.step hb1)
            | (go_at_call 30; refine (do0 none 0 0 _ _ x hao1.out hms1.out hb1 hr1).mono ?_; rintro e w2 ⟨rfl, ha2, hu2⟩; have n2 := hWW.out.next hn1.out ha2 hu2)
            | (go_at_call 32; refine (len0 none 0 0 _ ha2).mono ?_; rintro e w3 ⟨rfl, hb3⟩; have n3 := n2.step hb3; have ha3 := ha2.step hb3)
            | (go_at_call 33; refine (ops0 none 0 0 _ ha3).mono ?_; rintro e w4 ⟨rfl, hb4⟩; have n4 := n3.step hb4; have ha4 := ha3.step hb4)
            | (go_at_call 34; refine (words0 none 0 0 _ ha4).mono ?_; rintro e w5 ⟨A5, cc5, rfl, hb5⟩; have n5 := n4.step hb5; have ha5 := ha4.step hb5)
            | (go_at_call 35; refine (last0 none 0 0 _ ha5).mono ?_; rintro e w6 ⟨rfl, hb6⟩; have n6 := n5.step hb6))
        go_wp2_with fail
        exact ⟨⟨rfl, rfl, rfl, rfl, rfl, 1, rfl, by omega, n6⟩, by simp [intOf]⟩
      · have hW : Who w.heap.size (some ⟨w.heap.size + 1, 0, none⟩) (w.heap.size + 1) (w.heap.size + 1) := by simp [Who]
        obtain ⟨hao, hms⟩ := hW.ao hn
        have hao1 := Lib.hid (hao.step (drew0 (W := W)))
        have hn1 := Lib.hid (hn.step (drew0 (W := W)))
        have hms1 := Lib.hid (show ∀ y ∈ ms (some ⟨w.heap.size + 1, 0, none⟩) (w.heap.size + 1) (w.heap.size + 1), y < W.drew.heap.size from hms)
        have hWW := Lib.hid hW
        clear hao hms hn hW
        obtain ⟨c0, c1, c2, c3⟩ := cellsA hn1.out.1
        go_wp2_with fail
        go_region_held3 (fun V => V.cell? ⟨w.heap.size, 0, none⟩ = some (.int .i64 x.kind) ∧ V.cell? ⟨w.heap.size, 1, none⟩ = some (.int .i64 x.pos) ∧ V.cell? ⟨w.heap.size, 2, none⟩ = some (.int .i64 x.a) ∧ V.cell? ⟨w.heap.size, 3, none⟩ = some (.int .i64 x.b))
          (first | exact ⟨c0, c1, c2, c3⟩ | exact cellsA n6.1 | exact cellsA n5.1 | exact cellsA n4.1 | exact cellsA n3.1 | exact cellsA n2.1 | exact cellsA n1.1)
          (first
            | (go_at_call 29; refine (rnew0 _).mono ?_; rintro e w1 ⟨rfl, hr1, hz1, hb1⟩; have n1 := hn1.out.step hb1)
            | (go_at_call 30; refine (do0 (some ⟨w.heap.size + 1, 0, none⟩) (w.heap.size + 1) (w.heap.size + 1) _ _ x hao1.out hms1.out hb1 hr1).mono ?_; rintro e w2 ⟨rfl, ha2, hu2⟩; have n2 := hWW.out.next hn1.out ha2 hu2)
            | (go_at_call 32; refine (len0 (some ⟨w.heap.size + 1, 0, none⟩) (w.heap.size + 1) (w.heap.size + 1) _ ha2).mono ?_; rintro e w3 ⟨rfl, hb3⟩; have n3 := n2.step hb3; have ha3 := ha2.step hb3)
            | (go_at_call 33; refine (ops0 (some ⟨w.heap.size + 1, 0, none⟩) (w.heap.size + 1) (w.heap.size + 1) _ ha3).mono ?_; rintro e w4 ⟨rfl, hb4⟩; have n4 := n3.step hb4; have ha4 := ha3.step hb4)
            | (go_at_call 34; refine (words0 (some ⟨w.heap.size + 1, 0, none⟩) (w.heap.size + 1) (w.heap.size + 1) _ ha4).mono ?_; rintro e w5 ⟨A5, cc5, rfl, hb5⟩; have n5 := n4.step hb5; have ha5 := ha4.step hb5)
            | (go_at_call 35; refine (last0 (some ⟨w.heap.size + 1, 0, none⟩) (w.heap.size + 1) (w.heap.size + 1) _ ha5).mono ?_; rintro e w6 ⟨rfl, hb6⟩; have n6 := n5.step hb6))
        go_wp2_with fail
        exact ⟨⟨rfl, rfl, rfl, rfl, rfl, 2, rfl, by omega, n6⟩, by simp [intOf]⟩
      · have hW : Who w.heap.size (some ⟨w.heap.size + 1 + 1 + 1, 0, none⟩) (w.heap.size + 1 + 1 + 1) (w.heap.size + 1 + 1) := by simp [Who]
        obtain ⟨hao, hms⟩ := hW.ao hn
        have hao1 := Lib.hid (hao.step (drew0 (W := W)))
        have hn1 := Lib.hid (hn.step (drew0 (W := W)))
        have hms1 := Lib.hid (show ∀ y ∈ ms (some ⟨w.heap.size + 1 + 1 + 1, 0, none⟩) (w.heap.size + 1 + 1 + 1) (w.heap.size + 1 + 1), y < W.drew.heap.size from hms)
        have hWW := Lib.hid hW
        clear hao hms hn hW
        obtain ⟨c0, c1, c2, c3⟩ := cellsA hn1.out.1
        go_wp2_with fail
        go_region_held3 (fun V => V.cell? ⟨w.heap.size, 0, none⟩ = some (.int .i64 x.kind) ∧ V.cell? ⟨w.heap.size, 1, none⟩ = some (.int .i64 x.pos) ∧ V.cell? ⟨w.heap.size, 2, none⟩ = some (.int .i64 x.a) ∧ V.cell? ⟨w.heap.size, 3, none⟩ = some (.int .i64 x.b))
          (first | exact ⟨c0, c1, c2, c3⟩ | exact cellsA n6.1 | exact cellsA n5.1 | exact cellsA n4.1 | exact cellsA n3.1 | exact cellsA n2.1 | exact cellsA n1.1)
          (first
            | (go_at_call 29; refine (rnew0 _).mono ?_; rintro e w1 ⟨rfl, hr1, hz1, hb1⟩; have n1 := hn1.out.step hb1)
            | (go_at_call 30; refine (do0 (some ⟨w.heap.size + 1 + 1 + 1, 0, none⟩) (w.heap.size + 1 + 1 + 1) (w.heap.size + 1 + 1) _ _ x hao1.out hms1.out hb1 hr1).mono ?_; rintro e w2 ⟨rfl, ha2, hu2⟩; have n2 := hWW.out.next hn1.out ha2 hu2)
            | (go_at_call 32; refine (len0 (some ⟨w.heap.size + 1 + 1 + 1, 0, none⟩) (w.heap.size + 1 + 1 + 1) (w.heap.size + 1 + 1) _ ha2).mono ?_; rintro e w3 ⟨rfl, hb3⟩; have n3 := n2.step hb3; have ha3 := ha2.step hb3)
            | (go_at_call 33; refine (ops0 (some ⟨w.heap.size + 1 + 1 + 1, 0, none⟩) (w.heap.size + 1 + 1 + 1) (w.heap.size + 1 + 1) _ ha3).mono ?_; rintro e w4 ⟨rfl, hb4⟩; have n4 := n3.step hb4; have ha4 := ha3.step hb4)
            | (go_at_call 34; refine (words0 (some ⟨w.heap.size + 1 + 1 + 1, 0, none⟩) (w.heap.size + 1 + 1 + 1) (w.heap.size + 1 + 1) _ ha4).mono ?_; rintro e w5 ⟨A5, cc5, rfl, hb5⟩; have n5 := n4.step hb5; have ha5 := ha4.step hb5)
            | (go_at_call 35; refine (last0 (some ⟨w.heap.size + 1 + 1 + 1, 0, none⟩) (w.heap.size + 1 + 1 + 1) (w.heap.size + 1 + 1) _ ha5).mono ?_; rintro e w6 ⟨rfl, hb6⟩; have n6 := n5.step hb6))
        go_wp2_with fail
        exact ⟨⟨rfl, rfl, rfl, rfl, rfl, 3, rfl, by omega, n6⟩, by simp [intOf]⟩
    · obtain rfl : k = 3 := by omega
      have hB := hn.2.2.2.2
      clear hn q1 q2 q3 q4 q5 hlt hk
      by_cases h0 : t < 0
      · have hR := Lib.hid (show room t = 0 by unfold room; rw [if_pos h0])
        have t1 : t ≤ 4096 := by omega
        go_wp2_with fail
        refine (new_at t _ _ rfl).mono ?_
        rintro e w1 ⟨rfl, hat⟩
        rw [hR.out] at hat
        go_wp2_with fail
        refine (take_at _ _ _ _ _ hat 0 1 0 (by have := take_room t; rw [hR.out] at this; exact this)).mono ?_
        rintro e w2 ⟨rfl, hat2, _⟩
        have hB2 := hB.trans (hat2.2.2.mono hB.size)
        clear hat hat2 hB
        go_wp2_with fail
        refine (new_at t _ _ rfl).mono ?_
        rintro e w3 ⟨rfl, hat⟩
        rw [hR.out] at hat
        go_wp2_with fail
        refine (take_at _ _ _ _ _ hat _ 0 3 (by have := take_over t; rw [hR.out] at this; exact this)).mono ?_
        rintro e w4 ⟨rfl, hat2, _⟩
        have hB3 := hB2.trans (hat2.2.2.mono hB2.size)
        clear hat hat2 hB2
        go_wp2_with fail
        refine (awake_any _).mono ?_
        rintro e w5 ⟨rfl, hb⟩
        have hB4 := hB3.trans (hb.mono hB3.size)
        go_wp2_with fail
        go_ret
        exact ⟨rfl, hB4⟩
      · by_cases h1 : 4096 < t
        · have hR := Lib.hid (show room t = 4096 by unfold room; rw [if_neg h0, if_pos h1])
          go_wp2_with fail
          refine (new_at t _ _ rfl).mono ?_
          rintro e w1 ⟨rfl, hat⟩
          rw [hR.out] at hat
          go_wp2_with fail
          refine (take_at _ _ _ _ _ hat 4096 1 0 (by have := take_room t; rw [hR.out] at this; exact this)).mono ?_
          rintro e w2 ⟨rfl, hat2, _⟩
          have hB2 := hB.trans (hat2.2.2.mono hB.size)
          clear hat hat2 hB
          go_wp2_with fail
          refine (new_at t _ _ rfl).mono ?_
          rintro e w3 ⟨rfl, hat⟩
          rw [hR.out] at hat
          go_wp2_with fail
          refine (take_at _ _ _ _ _ hat _ 0 3 (by have := take_over t; rw [hR.out] at this; exact this)).mono ?_
          rintro e w4 ⟨rfl, hat2, _⟩
          have hB3 := hB2.trans (hat2.2.2.mono hB2.size)
          clear hat hat2 hB2
          go_wp2_with fail
          refine (awake_any _).mono ?_
          rintro e w5 ⟨rfl, hb⟩
          have hB4 := hB3.trans (hb.mono hB3.size)
          go_wp2_with fail
          go_ret
          exact ⟨rfl, hB4⟩
        · obtain ⟨c, rfl⟩ := Int.eq_ofNat_of_zero_le (show 0 ≤ t by omega)
          have hR := Lib.hid (show room (c : Int) = c by unfold room; rw [if_neg h0, if_neg h1]; omega)
          have t1 : (c : Int) ≤ 4096 := by omega
          have t2 : (0 : Int) ≤ (c : Int) := by omega
          clear h0 h1
          by_cases hc0 : c = 0
          · subst hc0
            clear hR t1 t2
            have hR := Lib.hid (show room 0 = 0 from rfl)
            go_wp2_with fail
            refine (new_at 0 _ _ rfl).mono ?_
            rintro e w1 ⟨rfl, hat⟩
            rw [hR.out] at hat
            go_wp2_with fail
            refine (take_at _ _ _ _ _ hat 0 1 0 (by have := take_room 0; rw [hR.out] at this; exact this)).mono ?_
            rintro e w2 ⟨rfl, hat2, _⟩
            have hB2 := hB.trans (hat2.2.2.mono hB.size)
            clear hat hat2 hB
            go_wp2_with fail
            refine (new_at 0 _ _ rfl).mono ?_
            rintro e w3 ⟨rfl, hat⟩
            rw [hR.out] at hat
            go_wp2_with fail
            refine (take_at _ _ _ _ _ hat _ 0 3 (by have := take_over 0; rw [hR.out] at this; exact this)).mono ?_
            rintro e w4 ⟨rfl, hat2, _⟩
            have hB3 := hB2.trans (hat2.2.2.mono hB2.size)
            clear hat hat2 hB2
            go_wp2_with fail
            refine (awake_any _).mono ?_
            rintro e w5 ⟨rfl, hb⟩
            have hB4 := hB3.trans (hb.mono hB3.size)
            go_wp2_with fail
            go_ret
            exact ⟨rfl, hB4⟩
          · have t3 : (0 : Int) < (c : Int) := by omega
            clear hc0
            go_wp2_with fail
            refine (new_at c _ _ rfl).mono ?_
            rintro e w1 ⟨rfl, hat⟩
            rw [hR.out] at hat
            go_wp2_with fail
            refine (take_at _ _ _ _ _ hat c 1 0 (by have := take_room c; rw [hR.out] at this; exact this)).mono ?_
            rintro e w2 ⟨rfl, hat2, _⟩
            have hB2 := hB.trans (hat2.2.2.mono hB.size)
            clear hat hat2 hB
            go_wp2_with fail
            refine (new_at c _ _ rfl).mono ?_
            rintro e w3 ⟨rfl, hat⟩
            rw [hR.out] at hat
            go_wp2_with fail
            refine (take_at _ _ _ _ _ hat _ 0 3 (by have := take_over c; rw [hR.out] at this; exact this)).mono ?_
            rintro e w4 ⟨rfl, hat2, _⟩
            have hB3 := hB2.trans (hat2.2.2.mono hB2.size)
            clear hat hat2 hB2
            go_wp2_with fail
            refine (awake_any _).mono ?_
            rintro e w5 ⟨rfl, hb⟩
            have hB4 := hB3.trans (hb.mono hB3.size)
            go_wp2_with fail
            go_ret
            exact ⟨rfl, hB4⟩
theorem none_law (w : World) (x : Ac) (_h : isI64 x.kind ∧ isI64 x.pos ∧ isI64 x.a ∧ isI64 x.b) (t : Int) (_h1 : isI64 t) :
    Calls Try.prog 7 #[.agg (decAc x).toArray, .int .i64 t] w fun e w' => e = .returned (.bool true) ∧ Below w.heap.size w w' := none_walk x t w
end Go.Proofs.Ytfdcojhgpfmloaa.Ara
