/- What the laws of locks ask of an arena and of spots beside the lock: Words, Same, spots compared; two rows of the call's own. -/
import Derived.Test.YthffhhgaeolpgaaSpot
import Derived.Test.YthffhhgaeolpgaaSame
import Derived.Test.YthffhhgaeolpgaaArena4
import Derived.Maps.AppendAt
namespace Go.Proofs.Ythffhhgaeolpgaa.Lok
open Go.RowKit Go.Proofs.Ythffhhgaeolpgaa.Ara

theorem words_ar (g h : Nat) (σ : Ar) (w : World) (H : ArAt w g h σ) : Calls Try.prog 17 #[.pointer (some ⟨g, 0, none⟩)] w fun e w' => ∃ A c, e = .returned (.slice A σ.t c) ∧ Sl w' w'.heap.size A ((σ.ws.take σ.t).flatMap decI) ∧ Below w.heap.size w w' := by
  refine (words_any g h σ w H).mono ?_
  rintro e w' ⟨v, rfl, hown, hb⟩
  obtain ⟨A, c, rfl, _, _, h2⟩ := own_slice hown
  refine ⟨A, c, rfl, ?_, hb⟩
  rw [flatI]
  exact h2
/-- Words, its row kept apart. -/
def Rw (B : Nat) (W : World) (A : Option Addr) (c n : Nat) (l : List Int) : Prop := W.ownsRow B 3 1 (.slice A n c) n (l.map vI)
theorem Rw.mod {S : List Nat} {B : Nat} {W W' : World} {A : Option Addr} {c n : Nat} {l : List Int} (h : Rw B W A c n l) (hm : Mod S W W') (hS : ∀ k ∈ S, k < B) : Rw B W' A c n l := own_mod h hm hS
theorem Rw.same {B : Nat} {W W' : World} {A : Option Addr} {c n : Nat} {l : List Int} (h : Rw B W A c n l) (hb : Below W.heap.size W W') : Rw B W' A c n l := h.mod (S := []) (Mod.of_below hb) (by simp)
theorem Rw.sl {B : Nat} {W : World} {A : Option Addr} {c n : Nat} {l : List Int} (h : Rw B W A c n l) : Sl W W.heap.size A (l.flatMap decI) := by
  obtain ⟨A', c', h1, _, _, h2⟩ := own_slice h
  injection h1 with h1 _ _
  subst h1
  rw [flatI]
  exact h2
theorem words_own (g h : Nat) (σ : Ar) (w : World) (H : ArAt w g h σ) (n : Nat) (l : List Int) (hn : σ.t = n) (hl : σ.ws.take σ.t = l) : Calls Try.prog 17 #[.pointer (some ⟨g, 0, none⟩)] w fun e w' => ∃ A c, e = .returned (.slice A n c) ∧ Rw w.heap.size w' A c n l ∧ Below w.heap.size w w' := by
  subst hl hn
  refine (words_any g h σ w H).mono ?_
  rintro e w' ⟨v, rfl, hown, hb⟩
  obtain ⟨A, c, rfl, _, _, _⟩ := own_slice hown
  exact ⟨A, c, rfl, hown, hb⟩
theorem same_tt (l : List Int) (A C : Option Addr) (c1 c2 n : Nat) (w : World) (hn : l.length = n) (hm : n ≤ 4096) (hs : Sl w w.heap.size A (l.flatMap decI)) (ht : Sl w w.heap.size C (l.flatMap decI)) :
    Calls Try.prog 19 #[.slice A n c1, .slice C n c2] w fun e w' => e = .returned (.bool true) ∧ Below w.heap.size w w' := by
  subst hn
  have := same_any l l A C c1 c2 w (by omega) (by omega) hs ht
  rw [decide_eq_true rfl] at this
  exact this
set_option maxHeartbeats 4000000 in
theorem neSp (a b c d : Int) (W : World) : (binOp .neq 31 (.agg #[.int .i64 a, .int .i64 b, .int .i64 c, .int .i64 d]) (.agg #[.int .i64 a, .int .i64 b, .int .i64 c, .int .i64 d])).run Try.prog W = .ok (.bool false) W := by
  have hp : Try.prog.stoodInHeld 31 = false := by kernel_rfl
  have key : ∀ n, (Op.equalIn (n + 1 + 1) 31 (.agg #[.int .i64 a, .int .i64 b, .int .i64 c, .int .i64 d]) (.agg #[.int .i64 a, .int .i64 b, .int .i64 c, .int .i64 d])).run Try.prog W = .ok true W := by
    intro n
    simp only [Op.equalIn, Sem.run_bind, run_underlying Try.underlying31, Result.andThen_ok, run_program, hp, Bool.false_eq_true, if_false]
    rw [← Array.forIn_toList]
    simp [go_sem]
  have k := key 9998
  simp only [binOp]
  simp [Op.equal, Op.maxDepth, k]
theorem neGSp (x y : Operand) (xs ys : Array Value) (W : World) : (eqGuard .neq 31 x y (.agg xs) (.agg ys)).run Try.prog W = .ok () W := by
  have hm : Try.prog.eqGuardType Try.prog.depth 31 = false := by kernel_rfl
  simp [eqGuard, run_program, hm]
set_option maxHeartbeats 4000000 in
theorem eqSp (a b c d : Int) (W : World) : (binOp .eql 31 (.agg #[.int .i64 a, .int .i64 b, .int .i64 c, .int .i64 d]) (.agg #[.int .i64 a, .int .i64 b, .int .i64 c, .int .i64 d])).run Try.prog W = .ok (.bool true) W := by
  have hp : Try.prog.stoodInHeld 31 = false := by kernel_rfl
  have key : ∀ n, (Op.equalIn (n + 1 + 1) 31 (.agg #[.int .i64 a, .int .i64 b, .int .i64 c, .int .i64 d]) (.agg #[.int .i64 a, .int .i64 b, .int .i64 c, .int .i64 d])).run Try.prog W = .ok true W := by
    intro n
    simp only [Op.equalIn, Sem.run_bind, run_underlying Try.underlying31, Result.andThen_ok, run_program, hp, Bool.false_eq_true, if_false]
    rw [← Array.forIn_toList]
    simp [go_sem]
  have k := key 9998
  simp only [binOp]
  simp [Op.equal, Op.maxDepth, k]
theorem eqGSp (x y : Operand) (xs ys : Array Value) (W : World) : (eqGuard .eql 31 x y (.agg xs) (.agg ys)).run Try.prog W = .ok () W := by
  have hm : Try.prog.eqGuardType Try.prog.depth 31 = false := by kernel_rfl
  simp [eqGuard, run_program, hm]
theorem opfld0 (a b : Int) (c : Bool) (W : World) : (Instr.field 42 (.agg #[.int .i64 a, .int .i64 b, .bool c]) 0).run Try.prog W = .ok (.int .i64 a) W := by
  simp [Instr.field, run_underlying Try.underlying42, asAgg, go_sem]
theorem keep6 {W W' : World} {p1 p2 p3 p4 p5 p6 : Addr} {v1 v2 v3 v4 v5 v6 : Value} (hb : Below W.heap.size W W') (h : W.cell? p1 = some v1 ∧ W.cell? p2 = some v2 ∧ W.cell? p3 = some v3 ∧ W.cell? p4 = some v4 ∧ W.cell? p5 = some v5 ∧ W.cell? p6 = some v6) :
    W'.cell? p1 = some v1 ∧ W'.cell? p2 = some v2 ∧ W'.cell? p3 = some v3 ∧ W'.cell? p4 = some v4 ∧ W'.cell? p5 = some v5 ∧ W'.cell? p6 = some v6 := by
  obtain ⟨h1, h2, h3, h4, h5, h6⟩ := h
  exact ⟨keep1 hb h1, keep1 hb h2, keep1 hb h3, keep1 hb h4, keep1 hb h5, keep1 hb h6⟩
/-- 'out = append(out, x)', x of a new block: as wpList_append1, and which block it is. -/
theorem wpList_append1_at {P : Program} {ops : Array Oper} {rest : List Oper} {o : Oper} {a : Act} {Q : Exit → Act → World → Prop} (s x : Operand) (t e : TypeId) (z : Value) (size bytes : Nat)
    (hgd : o.guard = none) (ho : o.op = .call { callee := .builtin .append, args := #[s, x], argTypes := #[t, t] }) (ht : P.underlying t = some (.slice e))
    (hinfo : (P.info? e).map (fun i => (i.zero, i.size, i.bytes)) = some (some z, size, bytes)) (hzs : z.cells.size = size) (hsz : 0 < size)
    (base : Nat) (w : World) (v : Value) (n : Nat) (xs : List Value) (news : Array Value) (e' : TypeId) (c g : Nat) (hown : w.ownsRow base e size v n xs) (hs : a.eval s = v) (hx : a.eval x = .slice (some ⟨g, 0, none⟩) 1 c) (hgs : w.heap.size = g)
    (hl : news.size = size) (h1 : ∀ u ∈ news.toList, u.oneCell' = true) (h63 : n + 1 ≤ maxLen) (hbytes : (n + 1) * bytes ≤ 140737488355328) (hbase : base ≤ w.heap.size)
    (h : ∀ v' w', Hid (w'.ownsRow base e size v' (n + 1) (xs ++ news.toList)) → Hid (w.grownBy w' v.ownBlock) → Hid (∀ b, v'.ownBlock = some b → v.ownBlock = some b ∨ w.heap.size ≤ b) → wpList P ops Q rest (a.put o.dst v') w') :
    wpList P ops Q (o :: rest) a (w.alloc (.cells news e')) := by
  subst hgs
  obtain ⟨i0, hi0, hz0, hz1, hz2⟩ := info_parts hinfo
  refine wpList_append_own_at _ hgd s x t ho base e i0 z size bytes ht hi0 hz0 hz1 hz2 hzs hsz v n xs hs (hown.alloc _) ⟨w.heap.size, 0, none⟩ 1 c news.toList hx (by simpa using hl) ?_ h1 h63 hbytes (by simp; omega) ?_
  · intro j u hu
    have hadd : (⟨w.heap.size, 0, none⟩ : Addr).add j = ⟨w.heap.size, j, none⟩ := by unfold Addr.add; split <;> simp_all
    rw [hadd, World.cell?_alloc_at _ _ _ _ rfl]
    simpa using hu
  · intro v' w' h2 h3 _ h4
    have hg := grown_trans (World.grownBy_alloc w (.cells news e') v.ownBlock) h3
    refine h v' w' h2 hg (fun b hb => ?_)
    rcases h4 with h4 | h4
    · left; rw [← h4]; exact hb
    · right
      rw [h4] at hb
      injection hb with hb
      rw [← hb]
      simp
end Go.Proofs.Ythffhhgaeolpgaa.Lok
