/- Tris of a law's own: all acts; who has passed the doorway; who has held. -/
import Derived.Test.YthffhhgaeolpgaaLokW
import Derived.Test.YthffhhgaeolpgaaLokR
import Derived.Laws.AppendOwnNone
namespace Go.Proofs.Ythffhhgaeolpgaa.Lok
open Go.RowKit Go.Proofs.Ythffhhgaeolpgaa.Ara Go.ChangeShapes Go.WideShapes Go.Deep

theorem grown_mod {w w' : World} {row : Option Nat} (h : w.grownBy w' row) : Mod row.toList w w' :=
  ⟨h.os, h.tape, h.output, h.size, fun k hk hn => h.block k hk (fun e => hn (by rw [← e]; simp))⟩
theorem own_apart {S : List Nat} {w w' : World} {base : Nat} {e : TypeId} {size : Nat} {v : Value} {n : Nat} {xs : List Value} (h : w.ownsRow base e size v n xs) (hm : Mod S w w') (hb : ∀ b, v.ownBlock = some b → b ∉ S) : w'.ownsRow base e size v n xs := by
  obtain ⟨h1, h2⟩ := h
  refine ⟨h1, ?_⟩
  rcases h2 with h2 | ⟨g, cap, cur, rfl, hg, hbk, rest⟩
  · exact .inl h2
  · exact .inr ⟨g, cap, cur, rfl, hg, hm.blk hbk (hb g rfl), rest⟩
theorem own_block {w : World} {base : Nat} {e : TypeId} {size : Nat} {v : Value} {n : Nat} {xs : List Value} (h : w.ownsRow base e size v n xs) {b : Nat} (hb : v.ownBlock = some b) : base ≤ b ∧ b < w.heap.size := by
  rcases h.2 with ⟨rfl, _⟩ | ⟨g, cap, cur, rfl, hg, hbk, rest⟩
  · cases hb
  · simp [Value.ownBlock] at hb
    subst hb
    exact ⟨hg, lt_of_blk hbk⟩
/-- The three rows, apart. -/
def Tris (W : World) (B1 B3 : Nat) (va vd vh : Value) (all : List Ac) (doors held : List Int) : Prop :=
  W.ownsRow B1 34 2 va all.length (all.flatMap decAc) ∧ (∀ b, va.ownBlock = some b → b < B3) ∧
    W.ownsRow B3 3 1 vd doors.length (doors.map vI) ∧ W.ownsRow B3 3 1 vh held.length (held.map vI) ∧ (∀ b, vd.ownBlock = some b → vh.ownBlock ≠ some b) ∧ B3 ≤ W.heap.size ∧ B1 ≤ B3
section
variable {W W' : World} {B1 B3 : Nat} {va vd vh : Value} {all : List Ac} {doors held : List Int} (h : Tris W B1 B3 va vd vh all doors held)
include h
theorem Tris.mod {S : List Nat} (hm : Mod S W W') (hS : ∀ x ∈ S, x < B1) : Tris W' B1 B3 va vd vh all doors held := by
  obtain ⟨h1, h2, h3, h4, h5, h6, h7⟩ := h
  refine ⟨own_apart h1 hm (fun b hb hx => ?_), h2, own_apart h3 hm (fun b hb hx => ?_), own_apart h4 hm (fun b hb hx => ?_), h5, Nat.le_trans h6 hm.size, h7⟩
  · have := (own_block h1 hb).1; have := hS b hx; omega
  · have := (own_block h3 hb).1; have := hS b hx; omega
  · have := (own_block h4 hb).1; have := hS b hx; omega
theorem Tris.same (hb : Below W.heap.size W W') : Tris W' B1 B3 va vd vh all doors held := h.mod (S := []) (Mod.of_below hb) (by simp)
theorem Tris.at_ {k : Nat} (hk : k < all.length) : ∃ b off cap, va = .slice (some ⟨b, off, none⟩) all.length cap ∧ W.cell? ⟨b, off + k * 2, none⟩ = some (.int .i64 all[k].kind) ∧ W.cell? ⟨b, off + k * 2 + 1, none⟩ = some (.int .i64 all[k].i) := by
  obtain ⟨A, c, rfl, _, _, hsl⟩ := own_slice h.1
  obtain ⟨b, off, rfl, _, hcell⟩ := Sl_at (dec := decAc) (k := 2) (fun _ => rfl) (by omega) (show Sl W W.heap.size A (all.flatMap decAc) from hsl) (by omega)
  have h0 := hcell k hk 0 (by omega)
  have h1 := hcell k hk 1 (by omega)
  simp only [decAc, List.getElem?_cons_zero, List.getElem?_cons_succ, Nat.add_zero, ← Nat.add_assoc] at h0 h1
  exact ⟨b, off, c, rfl, h0, h1⟩
/-- One more in the row of doorways. -/
theorem Tris.door {vd' : Value} {i : Int} (hown : W'.ownsRow B3 3 1 vd' (doors.length + 1) (doors.map vI ++ [.int .i64 i])) (hg : W.grownBy W' vd.ownBlock) (hn : ∀ b, vd'.ownBlock = some b → vd.ownBlock = some b ∨ W.heap.size ≤ b) :
    Tris W' B1 B3 va vd' vh all (doors ++ [i]) held ∧ Mod vd.ownBlock.toList W W' ∧ ∀ x ∈ vd.ownBlock.toList, B3 ≤ x := by
  obtain ⟨h1, h2, h3, h4, h5, h6, h7⟩ := h
  have hm := grown_mod hg
  have hS : ∀ x ∈ vd.ownBlock.toList, vd.ownBlock = some x := by simp
  refine ⟨⟨own_apart h1 hm (fun b hb hx => ?_), h2, ?_, own_apart h4 hm (fun b hb hx => ?_), fun b hb e => ?_, Nat.le_trans h6 hm.size, h7⟩, hm, fun x hx => (own_block h3 (hS x hx)).1⟩
  · have := (own_block h3 (hS b hx)).1; have := h2 b hb; omega
  · rw [List.length_append, List.map_append]; exact hown
  · exact h5 b (hS b hx) hb
  · rcases hn b hb with q | q
    · exact h5 b q e
    · have := (own_block h4 e).2; omega
theorem Tris.hold {vh' : Value} {i : Int} (hown : W'.ownsRow B3 3 1 vh' (held.length + 1) (held.map vI ++ [.int .i64 i])) (hg : W.grownBy W' vh.ownBlock) (hn : ∀ b, vh'.ownBlock = some b → vh.ownBlock = some b ∨ W.heap.size ≤ b) :
    Tris W' B1 B3 va vd vh' all doors (held ++ [i]) ∧ Mod vh.ownBlock.toList W W' ∧ ∀ x ∈ vh.ownBlock.toList, B3 ≤ x := by
  obtain ⟨h1, h2, h3, h4, h5, h6, h7⟩ := h
  have hm := grown_mod hg
  have hS : ∀ x ∈ vh.ownBlock.toList, vh.ownBlock = some x := by simp
  refine ⟨⟨own_apart h1 hm (fun b hb hx => ?_), h2, own_apart h3 hm (fun b hb hx => ?_), ?_, fun b hb e => ?_, Nat.le_trans h6 hm.size, h7⟩, hm, fun x hx => (own_block h4 (hS x hx)).1⟩
  · have := (own_block h4 (hS b hx)).1; have := h2 b hb; omega
  · exact h5 b hb (hS b hx)
  · rw [List.length_append, List.map_append]; exact hown
  · rcases hn b e with q | q
    · exact h5 b hb q
    · have := (own_block h3 hb).2; omega
end
set_option maxRecDepth 100000 in
theorem infoAc : (Try.prog.info? 34).map (fun i => (i.zero, i.size, i.bytes)) = some (some (.agg #[.int .i64 0, .int .i64 0]), 2, 16) := by kernel_rfl
set_option maxRecDepth 100000 in
/-- 'append(nil, l...)'. -/
theorem wpList_append_all {ops : Array Oper} {rest : List Oper} {o : Oper} {a : Act} {Q : Exit → Act → World → Prop} (s x : Operand)
    (hgd : o.guard = none) (ho : o.op = .call { callee := .builtin .append, args := #[s, x], argTypes := #[22, 22] })
    (w : World) (A : Option Addr) (c B : Nat) (l : List Ac) (hs : a.eval s = .slice none 0 0) (hx : a.eval x = .slice A l.length c) (hsl : Sl w B A (l.flatMap decAc)) (hnil : A = none → c = 0) (hl : l.length ≤ 4096)
    (h : ∀ v' w', Hid (w'.ownsRow w.heap.size 34 2 v' l.length (l.flatMap decAc)) → Hid (Below w.heap.size w w') → wpList Try.prog ops Q rest (a.put o.dst v') w') :
    wpList Try.prog ops Q (o :: rest) a w := by
  obtain ⟨i0, hi0, hz0, hz1, hz2⟩ := info_parts infoAc
  cases hA : A with
  | none =>
    have hc := hnil hA
    have hl0 : l = [] := by
      rcases hsl with h0 | ⟨b, off, e, _⟩
      · cases l with
        | nil => rfl
        | cons y l => simp [decAc] at h0
      · rw [hA] at e; cases e
    subst hl0
    rw [hA, hc] at hx
    exact wpList_append_own_none hgd s x _ ho w.heap.size _ i0 2 Try.underlying22 hi0 (.slice none 0 0) 0 [] hs (World.ownsRow_nil _ _ _ _) hx (h _ _ (World.ownsRow_nil _ _ _ _) (Below.refl _ _))
  | some ad =>
    rw [hA] at hx hsl
    refine wpList_append_own_at _ hgd s x _ ho w.heap.size _ i0 _ 2 16 Try.underlying22 hi0 hz0 hz1 hz2 rfl (by decide) (.slice none 0 0) 0 [] hs (World.ownsRow_nil _ _ _ _) ad l.length c (l.flatMap decAc) hx (flat_len (dec := decAc) (k := 2) (fun _ => rfl) l) ?_ ?_ (by simp only [maxLen]; omega) (by omega) (Nat.le_refl _) ?_
    · intro j u hu
      rcases hsl with h0 | ⟨b, off, e, _, hc⟩
      · rw [h0] at hu; simp at hu
      · injection e with e
        subst e
        have hj := (List.getElem?_eq_some_iff.1 hu).1
        have hadd : (⟨b, off, none⟩ : Addr).add j = ⟨b, off + j, none⟩ := by unfold Addr.add; split <;> simp_all
        rw [hadd, hc j hj, ← List.getElem?_eq_getElem hj, hu]
    · intro u hu
      obtain ⟨y, _, hy⟩ := List.mem_flatMap.1 hu
      simp [decAc] at hy
      rcases hy with rfl | rfl <;> rfl
    · intro v' w' hown hg _ _
      rw [Nat.zero_add, List.nil_append] at hown
      exact h v' w' hown ((grown_mod hg).below (Nat.le_refl _) (by simp [Value.ownBlock]))
theorem nil_cap {H : Type} {enc : TypeId × Value → H} {W : World} {base : Nat} {t e : TypeId} {spare : Nat → Bool} {held : Bool} {A : Option Addr} {len cap : Nat} {d : DataW H} {p : List MemPlace} (ht : Try.prog.underlying t = some (.slice e)) (h : DataW.Trod enc Try.prog W base spare held t (.slice A len cap) d p) (hA : A = none) : cap = 0 := by
  obtain ⟨fuel, hf⟩ := h
  rcases open_slice ht hf with ⟨h1, _⟩ | ⟨a, len', cap', m, n, D, Pl, h1, _⟩
  · simp [Value.cells] at h1
    exact h1.2.2
  · simp [Value.cells] at h1
    rw [hA] at h1
    cases h1.1
end Go.Proofs.Ythffhhgaeolpgaa.Lok
