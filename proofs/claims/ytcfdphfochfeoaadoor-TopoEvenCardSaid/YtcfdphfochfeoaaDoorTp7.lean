/- Rows of one's own, apart from one another: what Even builds. -/
import Derived.Test.YtcfdphfochfeoaaDoorTp3
namespace Go.Proofs.YtcfdphfochfeoaaDoor.Tp
open Go.RowKit Go.Proofs.YtcfdphfochfeoaaDoor.Li Go.Proofs.YtcfdphfochfeoaaDoor.De Go.Proofs.YtcfdphfochfeoaaDoor.Ara

theorem grown_mod {w w' : World} {row : Option Nat} (h : w.grownBy w' row) : Mod row.toList w w' :=
  ⟨h.os, h.tape, h.output, h.size, fun k hk hn => h.block k hk (fun e => hn (by rw [← e]; simp))⟩
theorem own_apart {S : List Nat} {w w' : World} {base : Nat} {e : TypeId} {size : Nat} {v : Value} {n : Nat} {xs : List Value} (h : w.ownsRow base e size v n xs) (hm : Mod S w w') (hb : ∀ b, v.ownBlock = some b → b ∉ S) : w'.ownsRow base e size v n xs := by
  obtain ⟨h1, h2⟩ := h
  refine ⟨h1, ?_⟩
  rcases h2 with h2 | ⟨g, cap, cur, rfl, hg, hbk, rest⟩
  · exact .inl h2
  · exact .inr ⟨g, cap, cur, rfl, hg, hm.blk hbk (hb g rfl), rest⟩
theorem own_block {w : World} {base : Nat} {e : TypeId} {size : Nat} {v : Value} {n : Nat} {xs : List Value} (h : w.ownsRow base e size v n xs) {b : Nat} (hb : v.ownBlock = some b) : base ≤ b ∧ b < w.heap.size := by
  rcases h.2 with ⟨rfl, _⟩ | ⟨g, cap, cur, rfl, hg, hbk, rest⟩
  · cases hb
  · simp [Value.ownBlock] at hb
    subst hb
    exact ⟨hg, lt_of_blk hbk⟩
/-- 'out = append(out, x)', x of a new block: la wpList_append1, and which block it is. -/
theorem wpList_append1_at {P : Program} {ops : Array Oper} {rest : List Oper} {o : Oper} {a : Act} {Q : Exit → Act → World → Prop} (s x : Operand) (t e : TypeId) (z : Value) (size bytes : Nat)
    (hgd : o.guard = none) (ho : o.op = .call { callee := .builtin .append, args := #[s, x], argTypes := #[t, t] }) (ht : P.underlying t = some (.slice e))
    (hinfo : (P.info? e).map (fun i => (i.zero, i.size, i.bytes)) = some (some z, size, bytes)) (hzs : z.cells.size = size) (hsz : 0 < size)
    (base : Nat) (w : World) (v : Value) (n : Nat) (xs : List Value) (news : Array Value) (e' : TypeId) (c g : Nat) (hown : w.ownsRow base e size v n xs) (hs : a.eval s = v) (hx : a.eval x = .slice (some ⟨g, 0, none⟩) 1 c) (hgs : w.heap.size = g)
    (hl : news.size = size) (h1 : ∀ u ∈ news.toList, u.oneCell' = true) (h63 : n + 1 ≤ maxLen) (hbytes : (n + 1) * bytes ≤ 140737488355328) (hbase : base ≤ w.heap.size)
    (h : ∀ v' w', Hid (w'.ownsRow base e size v' (n + 1) (xs ++ news.toList)) → Hid (w.grownBy w' v.ownBlock) → Hid (∀ b, v'.ownBlock = some b → v.ownBlock = some b ∨ w.heap.size ≤ b) → wpList P ops Q rest (a.put o.dst v') w') :
    wpList P ops Q (o :: rest) a (w.alloc (.cells news e')) := by
  subst hgs
  obtain ⟨i0, hi0, hz0, hz1, hz2⟩ := info_parts hinfo
  refine wpList_append_own_at _ hgd s x t ho base e i0 z size bytes ht hi0 hz0 hz1 hz2 hzs hsz v n xs hs (hown.alloc _) ⟨w.heap.size, 0, none⟩ 1 c news.toList hx (by simpa using hl) ?_ h1 h63 hbytes (by simp; omega) ?_
  · intro j u hu
    have hadd : (⟨w.heap.size, 0, none⟩ : Addr).add j = ⟨w.heap.size, j, none⟩ := by unfold Addr.add; split <;> simp_all
    rw [hadd, World.cell?_alloc_at _ _ _ _ rfl]
    simpa using hu
  · intro v' w' h2 h3 _ h4
    have hg := grown_trans (World.grownBy_alloc w (.cells news e') v.ownBlock) h3
    refine h v' w' h2 hg (fun b hb => ?_)
    rcases h4 with h4 | h4
    · left; rw [← h4]; exact hb
    · right
      rw [h4] at hb
      injection hb with hb
      rw [← hb]
      simp
def Row (B G : Nat) (W : World) (v : Value) (xs : List Int) : Prop := W.ownsRow B 3 1 v xs.length (xs.map (Value.int .i64)) ∧ ∀ b, v.ownBlock = some b → b ≠ G
def Apart (v u : Value) : Prop := ∀ b, v.ownBlock = some b → u.ownBlock ≠ some b
theorem Apart.symm {v u : Value} (h : Apart v u) : Apart u v := fun b hb e => h b e hb
/-- Three rows, apart from one another and from all blocks up to G. -/
def Tri (B G : Nat) (W : World) (a b c : Value) (la lb lc : List Int) : Prop :=
  Row B G W a la ∧ Row B G W b lb ∧ Row B G W c lc ∧ Apart a b ∧ Apart a c ∧ Apart b c ∧ B ≤ G ∧ G < W.heap.size
section
variable {B G : Nat} {W W' : World} {a b c : Value} {la lb lc : List Int}
theorem Tri.rot (h : Tri B G W a b c la lb lc) : Tri B G W b c a lb lc la := ⟨h.2.1, h.2.2.1, h.1, h.2.2.2.2.2.1, h.2.2.2.1.symm, h.2.2.2.2.1.symm, h.2.2.2.2.2.2.1, h.2.2.2.2.2.2.2⟩
theorem Row.mod {S : List Nat} {v : Value} {xs : List Int} (h : Row B G W v xs) (hm : Mod S W W') (hS : ∀ x ∈ S, x < B ∨ x = G) : Row B G W' v xs :=
  ⟨own_apart h.1 hm (fun b hb hx => by have := h.2 b hb; have := (own_block h.1 hb).1; have := hS b hx; omega), h.2⟩
theorem Tri.mod {S : List Nat} (h : Tri B G W a b c la lb lc) (hm : Mod S W W') (hS : ∀ x ∈ S, x < B ∨ x = G) : Tri B G W' a b c la lb lc := by
  obtain ⟨h1, h2, h3, h4, h5, h6, h7, h8⟩ := h
  exact ⟨h1.mod hm hS, h2.mod hm hS, h3.mod hm hS, h4, h5, h6, h7, Nat.lt_of_lt_of_le h8 hm.size⟩
theorem Tri.own (h : Tri B G W a b c la lb lc) : W.ownsRow B 3 1 c lc.length (lc.map (Value.int .i64)) := h.2.2.1.1
theorem Tri.push {c' : Value} {x : Int} (h : Tri B G W a b c la lb lc) (hown : W'.ownsRow B 3 1 c' (lc.length + 1) (lc.map (Value.int .i64) ++ [.int .i64 x])) (hg : W.grownBy W' c.ownBlock) (hn : ∀ b, c'.ownBlock = some b → c.ownBlock = some b ∨ W.heap.size ≤ b) :
    Tri B G W' a b c' la lb (lc ++ [x]) ∧ Mod c.ownBlock.toList W W' ∧ ∀ y ∈ c.ownBlock.toList, B ≤ y ∧ y ≠ G := by
  obtain ⟨h1, h2, h3, h4, h5, h6, h7, h8⟩ := h
  have hm := grown_mod hg
  have hS : ∀ x ∈ c.ownBlock.toList, c.ownBlock = some x := by simp
  have key : ∀ v, (∀ b, v.ownBlock = some b → b < W.heap.size) → Apart v c → Apart v c' := fun v hv ha b hb e => by
    rcases hn b e with h | h
    · exact ha b hb h
    · have := hv b hb; omega
  refine ⟨⟨⟨own_apart h1.1 hm (fun b hb hx => h5 b hb (hS b hx)), h1.2⟩, ⟨own_apart h2.1 hm (fun b hb hx => h6 b hb (hS b hx)), h2.2⟩, ⟨by simpa using hown, fun b hb => ?_⟩, h4, key a (fun b hb => (own_block h1.1 hb).2) h5, key b (fun b hb => (own_block h2.1 hb).2) h6, h7, Nat.lt_of_lt_of_le h8 hm.size⟩, hm, fun y hy => ⟨(own_block h3.1 (hS y hy)).1, h3.2 y (hS y hy)⟩⟩
  rcases hn b hb with h | h
  · exact h3.2 b h
  · omega
theorem Tri.next (h : Tri B G W a b c la lb lc) : Tri B G W a c (.slice none 0 0) la lc [] := by
  obtain ⟨h1, h2, h3, h4, h5, h6, h7, h8⟩ := h
  exact ⟨h1, h3, ⟨World.ownsRow_nil _ _ _ _, fun b hb => by cases hb⟩, h5, (fun b hb e => by cases e), (fun b hb e => by cases e), h7, h8⟩
theorem Tri.clear (h : Tri B G W a b c la lb lc) : Tri B G W a b (.slice none 0 0) la lb [] := by
  obtain ⟨h1, h2, h3, h4, h5, h6, h7, h8⟩ := h
  exact ⟨h1, h2, ⟨World.ownsRow_nil _ _ _ _, fun b hb => by cases hb⟩, h4, (fun b hb e => by cases e), (fun b hb e => by cases e), h7, h8⟩
theorem Row.cell {v : Value} {xs : List Int} (h : Row B G W v xs) (hn : 0 < xs.length) : ∃ g cap, v = .slice (some ⟨g, 0, none⟩) xs.length cap ∧ ∀ j, j < xs.length → W.cell? ⟨g, j, none⟩ = some (.int .i64 (xs.getD j 0)) := by
  obtain ⟨A, cp, rfl, _, _, hsl⟩ := own_slice h.1
  have hsl2 : Sl W W.heap.size A (xs.flatMap decI) := by rw [Ara.flatI]; exact hsl
  obtain ⟨h1, h2⟩ := h
  rcases h1.2 with ⟨h3, h4⟩ | ⟨g, cap, cur, h3, hg, hbk, rest⟩
  · omega
  · injection h3 with h3 _ h5
    subst h3
    obtain ⟨b, off, e, _, hcell⟩ := sl_g hsl2 hn
    injection e with e
    injection e with e1 e2
    subst e1 e2
    exact ⟨g, cp, rfl, fun j hj => by have := hcell j hj; rwa [Nat.zero_add] at this⟩
theorem Row.slice {v : Value} {xs : List Int} (h : Row B G W v xs) : ∃ A cap, v = .slice A xs.length cap ∧ Sl W W.heap.size A (xs.flatMap decI) := by
  obtain ⟨A, cp, rfl, _, _, hsl⟩ := own_slice h.1
  exact ⟨A, cp, rfl, by rw [Ara.flatI]; exact hsl⟩
end
/-- The result's cell and the topology that is built. -/
def EvW (w W : World) (x y : Value) : Prop := Below w.heap.size w W ∧ W.heap[w.heap.size]? = some (.cells #[.slice none 0 0, .slice none 0 0] 75 (0, 0)) ∧ W.heap[w.heap.size + 2]? = some (.cells #[x, y] 75 (0, 0))
theorem EvW.mod {w W W' : World} {x y : Value} {S : List Nat} (h : EvW w W x y) (hm : Mod S W W') (hS : ∀ k ∈ S, w.heap.size + 1 ≤ k ∧ k ≠ w.heap.size + 2) : EvW w W' x y :=
  ⟨Mod.below_of h.1 hm h.1.size (fun k hk => by have := hS k hk; omega), hm.blk h.2.1 (fun hk => by have := hS _ hk; omega), hm.blk h.2.2 (fun hk => (hS _ hk).2 rfl)⟩
theorem EvW.set0 {w W : World} {x y : Value} (h : EvW w W x y) (v : Value) : EvW w (W.setCell ⟨w.heap.size + 2, 0, none⟩ v) v y :=
  ⟨h.1.setCell (p := ⟨w.heap.size + 2, 0, none⟩) (by simp) _, blk_other h.2.1 (p := ⟨w.heap.size + 2, 0, none⟩) (by simp) _, by have := blk_set h.2.2 0 v; simpa using this⟩
theorem EvW.set1 {w W : World} {x y : Value} (h : EvW w W x y) (v : Value) : EvW w (W.setCell ⟨w.heap.size + 2, 1, none⟩ v) x v :=
  ⟨h.1.setCell (p := ⟨w.heap.size + 2, 1, none⟩) (by simp) _, blk_other h.2.1 (p := ⟨w.heap.size + 2, 1, none⟩) (by simp) _, by have := blk_set h.2.2 1 v; simpa using this⟩
theorem Tri.set {B G k : Nat} {W : World} {a b c : Value} {la lb lc : List Int} (h : Tri B G W a b c la lb lc) (v : Value) : Tri B G (W.setCell ⟨G, k, none⟩ v) a b c la lb lc :=
  h.mod (S := [G]) ((Mod.refl _ _).setCell (by simp) _) (fun x hx => by rw [List.mem_singleton] at hx; exact .inr hx)
end Go.Proofs.YtcfdphfochfeoaaDoor.Tp
