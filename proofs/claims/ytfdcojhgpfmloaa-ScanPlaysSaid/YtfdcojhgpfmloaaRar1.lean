/- The reference's arena: in memory; New, op, At and the ops. -/
import Derived.Test.YtfdcojhgpfmloaaArena4
import Derived.Test.YtfdcojhgpfmloaaUpd
namespace Go.Proofs.Ytfdcojhgpfmloaa.Ara
open Go.RowKit

structure Rf where
  room : Int
  ws : List Int
  ops : Nat
  kind : Int
  pos : Int
  wrote : Bool
def rfCells (v : Value) (ρ : Rf) : Array Value := #[.int .i64 ρ.room, v, .int .i64 ρ.ops, .int .i64 ρ.kind, .int .i64 ρ.pos, .bool ρ.wrote]
/-- The reference's arena: its struct at g, its words in a row of its own from base on. -/
def RfAt (W : World) (g base : Nat) (ρ : Rf) : Prop :=
  g < base ∧ base ≤ W.heap.size ∧ ρ.ws.length ≤ 4096 ∧ (0 ≤ ρ.room ∧ ρ.room ≤ 4096) ∧ ρ.ops ≤ 1000000 ∧ ∃ v, W.heap[g]? = some (.cells (rfCells v ρ) 89 (0, 0)) ∧ W.ownsRow base 3 1 v ρ.ws.length (ρ.ws.map vI)

theorem RfAt.drewN {W : World} {g base : Nat} {ρ : Rf} (k : RfAt W g base ρ) (n : Nat) : RfAt (W.drewN n) g base ρ := k
theorem RfAt.mod {S : List Nat} {W W' : World} {g base : Nat} {ρ : Rf} (k : RfAt W g base ρ) (hm : Mod S W W') (hS : ∀ x ∈ S, x < base ∧ x ≠ g) : RfAt W' g base ρ := by
  obtain ⟨h1, hz, h2, h3, h4, v, h5, h6⟩ := k
  exact ⟨h1, Nat.le_trans hz hm.size, h2, h3, h4, v, hm.blk h5 (fun e => (hS g e).2 rfl), own_mod h6 hm (fun x hx => (hS x hx).1)⟩
theorem RfAt.step {W W' : World} {g base : Nat} {ρ : Rf} (k : RfAt W g base ρ) (hb : Below W.heap.size W W') : RfAt W' g base ρ := k.mod (S := []) (Mod.of_below hb) (by simp)
theorem RfAt.slot {W : World} {g base : Nat} {ρ : Rf} (k : RfAt W g base ρ) : ∃ A c, W.cell? ⟨g, 0, none⟩ = some (.int .i64 ρ.room) ∧ W.cell? ⟨g, 1, none⟩ = some (.slice A ρ.ws.length c) ∧ W.cell? ⟨g, 2, none⟩ = some (.int .i64 ρ.ops) ∧
    W.cell? ⟨g, 3, none⟩ = some (.int .i64 ρ.kind) ∧ W.cell? ⟨g, 4, none⟩ = some (.int .i64 ρ.pos) ∧ W.cell? ⟨g, 5, none⟩ = some (.bool ρ.wrote) ∧ (∀ i, W.frozen? ⟨g, i, none⟩ = false) ∧
    ρ.ws.length ≤ c ∧ c ≤ maxLen ∧ W.ownsRow base 3 1 (.slice A ρ.ws.length c) ρ.ws.length (ρ.ws.map vI) := by
  obtain ⟨h1, _, h2, h3, h4, v, h5, h6⟩ := k
  obtain ⟨A, c, rfl, h7, h8, _⟩ := own_slice h6
  exact ⟨A, c, blk_cell h5 0 (by simp [rfCells]), blk_cell h5 1 (by simp [rfCells]), blk_cell h5 2 (by simp [rfCells]), blk_cell h5 3 (by simp [rfCells]), blk_cell h5 4 (by simp [rfCells]), blk_cell h5 5 (by simp [rfCells]), blk_free h5, h7, h8, h6⟩
/-- A row of ints. -/
def IntRow (w : World) (k : Nat) : Prop := ∃ cur, w.heap[k]? = some (.cells cur 3 (0, 0))
/-- What the reference's ops turn: its struct, and rows of ints from base on. -/
structure RMod (base g : Nat) (a w : World) : Prop where
  os : w.os = a.os
  tape : w.tape = a.tape
  output : w.output = a.output
  size : a.heap.size ≤ w.heap.size
  block : ∀ k, k < a.heap.size → k ≠ g → (k < base ∨ ¬ IntRow a k) → w.heap[k]? = a.heap[k]?
theorem RMod.refl (base g : Nat) (w : World) : RMod base g w w := ⟨rfl, rfl, rfl, Nat.le_refl _, fun _ _ _ _ => rfl⟩
theorem RMod.trans {base g : Nat} {a b c : World} (h : RMod base g a b) (k : RMod base g b c) : RMod base g a c :=
  ⟨k.os.trans h.os, k.tape.trans h.tape, k.output.trans h.output, Nat.le_trans h.size k.size, fun i hi hn hr => by
    have e := h.block i hi hn hr
    refine (k.block i (Nat.lt_of_lt_of_le hi h.size) hn ?_).trans e
    rcases hr with hr | hr
    · exact .inl hr
    · right
      rintro ⟨cur, hc⟩
      exact hr ⟨cur, e ▸ hc⟩⟩
theorem RMod.of_mod {base g : Nat} {a w : World} (h : Mod [g] a w) : RMod base g a w := ⟨h.os, h.tape, h.output, h.size, fun k hk hn _ => h.block k hk (by simpa using hn)⟩
theorem RMod.drewN {base g : Nat} {a w : World} (h : RMod base g a w) (n : Nat) : RMod base g a (w.drewN n) := ⟨h.os, h.tape, h.output, h.size, h.block⟩
theorem RMod.setRow {base g : Nat} {a w : World} (h : RMod base g a w) {p : Addr} (hb : base ≤ p.block) (hr : IntRow w p.block) (u : Value) : RMod base g a (w.setCell p u) :=
  h.trans ⟨rfl, rfl, rfl, by simp [World.setCell], fun k hk hn hc => Below.heap_setCell _ _ _ _ (fun e => by
    subst e
    rcases hc with hc | hc
    · omega
    · exact hc hr)⟩
theorem RMod.grown {base g : Nat} {a w w' : World} {v : Value} {n : Nat} {xs : List Value} (h : RMod base g a w) (hown : w.ownsRow base 3 1 v n xs) (hg : w.grownBy w' v.ownBlock) : RMod base g a w' :=
  h.trans ⟨hg.os, hg.tape, hg.output, hg.size, fun k hk hn hc => hg.block k hk (fun e => by
    rcases hown.2 with ⟨rfl, _⟩ | ⟨b, cap, cur, rfl, hb, hbk, _⟩
    · cases e
    · simp [Value.ownBlock] at e
      subst e
      rcases hc with hc | hc
      · omega
      · exact hc ⟨cur, hbk⟩)⟩
theorem RMod.upd {base g : Nat} {w w' : World} (h : RMod base g w w') (hB : base ≤ w.heap.size) : Upd base [g] w w' :=
  ⟨h.os, h.tape, h.output, h.size, fun k hk hn => h.block k (by omega) (by simpa using hn) (.inl hk)⟩
theorem RMod.blk {base g : Nat} {w w' : World} (h : RMod base g w w') {x : Nat} {cs : Array Value} {T : TypeId} (hx : w.heap[x]? = some (.cells cs T (0, 0))) (hT : T ≠ 3) (hg : x ≠ g) : w'.heap[x]? = some (.cells cs T (0, 0)) := by
  refine (h.block x (lt_of_blk hx) hg (.inr ?_)).trans hx
  rintro ⟨cur, hc⟩
  rw [hx] at hc
  injection hc with hc
  injection hc with h1 h2
  exact hT h2
/-- A word of it. -/
theorem RfAt.word {W : World} {g base : Nat} {ρ : Rf} (k : RfAt W g base ρ) (i : Nat) (hi : i < ρ.ws.length) : ∃ b c, W.cell? ⟨g, 1, none⟩ = some (.slice (some ⟨b, 0, none⟩) ρ.ws.length c) ∧
    W.cell? ⟨b, i, none⟩ = some (.int .i64 (ρ.ws.getD i 0)) ∧ W.frozen? ⟨b, i, none⟩ = false ∧ base ≤ b ∧ b ≠ g ∧ IntRow W b ∧
    (∀ x : Int, RfAt (W.setCell ⟨b, i, none⟩ (.int .i64 x)) g base { ρ with ws := ρ.ws.set i x }) := by
  have k0 := k
  obtain ⟨h1, hz, h2, h3, h4, v, h5, h6⟩ := k
  have h66 := h6.2
  rcases h66 with ⟨rfl, hn⟩ | ⟨b, cap, cur, rfl, hb, rest⟩
  · omega
  · have hc := h6.cellAt i (by omega)
    refine ⟨b, cap, blk_cell h5 1 (by simp [rfCells]), ?_, h6.frozenAt i, hb, by omega, ⟨cur, rest.1⟩, fun x => ?_⟩
    · rw [hc]
      simp [vI, hi]
    · have hst := (h6.stored i (.int .i64 x)).1
      have e1 := blk_other (p := ⟨b, i, none⟩) h5 (by show g ≠ b; omega) (.int .i64 x)
      refine ⟨h1, by simpa [World.setCell] using hz, by simpa using h2, h3, h4, .slice (some ⟨b, 0, none⟩) (ρ.ws.set i x).length cap, ?_, ?_⟩
      · rw [List.length_set]
        exact e1
      · simpa [List.map_set, vI] using hst

def Rf.has (ρ : Rf) (p : Int) : Bool := decide (1 ≤ p) && decide (p ≤ ρ.ws.length)
def Rf.get (ρ : Rf) (p : Int) : Int := if ρ.has p then ρ.ws.getD (p - 1).toNat 0 else 0
def Rf.did (ρ : Rf) (kind pos : Int) (wrote : Bool) (ws : List Int) : Rf := ⟨ρ.room, ws, ρ.ops + 1, kind, pos, wrote⟩
def Rf.op (ρ : Rf) (kind p : Int) (wrote : Bool) (v : Int) : Rf := if ρ.has p then ρ.did kind p wrote (if wrote then ρ.ws.set (p - 1).toNat v else ρ.ws) else ρ
theorem Rf.cases (ρ : Rf) (p : Int) : (ρ.has p = false ∧ (p < 1 ∨ (ρ.ws.length : Int) < p)) ∨ ∃ k : Nat, k < ρ.ws.length ∧ p = (k : Int) + 1 := by
  cases h : ρ.has p
  · simp [Rf.has] at h
    exact .inl ⟨rfl, by omega⟩
  · right
    simp [Rf.has] at h
    exact ⟨(p - 1).toNat, by omega, by omega⟩
theorem Rf.has_in {ρ : Rf} {k : Nat} (h : k < ρ.ws.length) : ρ.has ((k : Int) + 1) = true := by simp [Rf.has]; omega
theorem Rf.get_in {ρ : Rf} {k : Nat} (h : k < ρ.ws.length) : ρ.get ((k : Int) + 1) = ρ.ws.getD k 0 := by
  unfold Rf.get
  rw [if_pos (Rf.has_in h), show ((k : Int) + 1 - 1).toNat = k by omega]
theorem Rf.op_in {ρ : Rf} {k : Nat} (h : k < ρ.ws.length) (kind : Int) (wrote : Bool) (v : Int) : ρ.op kind ((k : Int) + 1) wrote v = ρ.did kind ((k : Int) + 1) wrote (if wrote then ρ.ws.set k v else ρ.ws) := by
  unfold Rf.op
  rw [if_pos (Rf.has_in h), show ((k : Int) + 1 - 1).toNat = k by omega]

theorem RfAt.note {W : World} {g base : Nat} {ρ : Rf} (k : RfAt W g base ρ) (ho : ρ.ops < 1000000) (kind pos : Int) (wrote : Bool) :
    RfAt ((((W.setCell ⟨g, 2, none⟩ (.int .i64 ((ρ.ops : Int) + 1))).setCell ⟨g, 3, none⟩ (.int .i64 kind)).setCell ⟨g, 4, none⟩ (.int .i64 pos)).setCell ⟨g, 5, none⟩ (.bool wrote)) g base (ρ.did kind pos wrote ρ.ws) := by
  obtain ⟨h1, hz, h2, h3, h4, v, h5, h6⟩ := k
  refine ⟨h1, by simpa [World.setCell] using hz, h2, h3, by show ρ.ops + 1 ≤ 1000000; omega, v, ?_, ?_⟩
  · rw [blk_set (blk_set (blk_set (blk_set h5 _ _) _ _) _ _)]
    rfl
  · exact ownsRow_setCell_below (ownsRow_setCell_below (ownsRow_setCell_below (ownsRow_setCell_below h6 h1 _) h1 _) h1 _) h1 _

section
variable (g base : Nat) (ρ : Rf) (w : World) (H : RfAt w g base ρ) (p : Int)
include H
set_option maxRecDepth 100000 in
theorem rat_any : Calls Try.prog 99 #[.pointer (some ⟨g, 0, none⟩), .int .i64 p] w fun e w' => e = .returned (.int .i64 (ρ.get p)) ∧ w' = w := by
  obtain ⟨A, c0, _, s1, _, _, _, _, _, hc1, hc2, _⟩ := H.slot
  have hl := H.2.2.1
  rcases ρ.cases p with ⟨hh, hp⟩ | ⟨k, hk, rfl⟩
  · have hg : ρ.get p = 0 := by unfold Rf.get; rw [if_neg (by simp [hh])]
    rw [hg]
    clear H hh hg
    by_cases h0 : p < 1
    · go_enter Try.func99, Try.ntmps99
      go_wp2_with fail
      go_ret
      exact ⟨rfl, rfl⟩
    · have h1 : (ρ.ws.length : Int) < p := by omega
      go_enter Try.func99, Try.ntmps99
      go_wp2_with fail
      go_ret
      exact ⟨rfl, rfl⟩
  · rw [Rf.get_in hk]
    clear s1
    obtain ⟨b, c, g1, hc, fz, _, _, _, _⟩ := H.word k hk
    have t1 : (k : Int) + 1 ≤ (ρ.ws.length : Int) := by omega
    have t2 : (1 : Int) ≤ (k : Int) + 1 := by omega
    have t3 : (k : Int) < (ρ.ws.length : Int) := by omega
    have t5 : (k : Int) + 1 ≤ 4096 := by omega
    generalize ρ.ws.getD k 0 = x at *
    clear H
    go_enter Try.func99, Try.ntmps99
    go_wp2_with fail
    go_ret
    exact ⟨rfl, rfl⟩
set_option maxHeartbeats 1000000 in
set_option maxRecDepth 100000 in
theorem rop_any (ho : ρ.ops < 1000000) (kind v : Int) (wrote : Bool) : Calls Try.prog 98 #[.pointer (some ⟨g, 0, none⟩), .int .i64 kind, .int .i64 p, .int .i64 v, .bool wrote] w fun e w' => e = .returned (.tuple #[.int .i64 (ρ.get p), .bool (ρ.has p)]) ∧ RfAt w' g base (ρ.op kind p wrote v) ∧ RMod base g w w' := by
  obtain ⟨A, c0, _, s1, g2, g3, g4, g5, gf, hc1, hc2, _⟩ := H.slot
  have hl := H.2.2.1
  have hbz := H.2.1
  rcases ρ.cases p with ⟨hh, hp⟩ | ⟨k, hk, rfl⟩
  · have hg : ρ.get p = 0 := by unfold Rf.get; rw [if_neg (by simp [hh])]
    have hq : ρ.op kind p wrote v = ρ := by unfold Rf.op; rw [if_neg (by simp [hh])]
    rw [hg, hh, hq]
    have HH := Lib.hid H
    clear H hh hg hq gf
    by_cases h0 : p < 1
    · go_enter Try.func98, Try.ntmps98
      go_wp2_with fail
      go_ret2
      exact ⟨rfl, HH.out, RMod.of_mod (Mod.refl _ _)⟩
    · have h1 : (ρ.ws.length : Int) < p := by omega
      go_enter Try.func98, Try.ntmps98
      go_wp2_with fail
      go_ret2
      exact ⟨rfl, HH.out, RMod.of_mod (Mod.refl _ _)⟩
  · rw [Rf.get_in hk, Rf.has_in hk, Rf.op_in hk]
    clear s1
    obtain ⟨b, c, g1, hc, fz, hb1, hb2, hir, _⟩ := H.word k hk
    have HI := Lib.hid hir
    clear hir
    have HN := Lib.hid (H.note ho kind ((k : Int) + 1) wrote)
    have t1 : (k : Int) + 1 ≤ (ρ.ws.length : Int) := by omega
    have t2 : (1 : Int) ≤ (k : Int) + 1 := by omega
    have t3 : (k : Int) < (ρ.ws.length : Int) := by omega
    have t5 : (k : Int) + 1 ≤ 4096 := by omega
    have t6 : (ρ.ops : Int) ≤ 1000000 := by omega
    have t7 : (0 : Int) ≤ (ρ.ops : Int) := by omega
    have f2 := gf 2
    have f3 := gf 3
    have f4 := gf 4
    have f5 := gf 5
    have hb3 : ¬ g = b := fun e => hb2 e.symm
    have HG := Lib.hid (show ρ.ws.getD k 0 = ρ.ws.getD k 0 from rfl)
    clear gf H ho
    cases wrote
    · generalize ρ.ws.getD k 0 = x at *
      go_enter Try.func98, Try.ntmps98
      go_wp2_with fail
      go_ret2
      exact ⟨rfl, HN.out, RMod.of_mod (((((Mod.refl _ _).setCell (by simp) _).setCell (by simp) _).setCell (by simp) _).setCell (by simp) _)⟩
    · obtain ⟨b', c', q1, _, _, _, _, _, hput⟩ := HN.out.word k hk
      have hbb : b' = b := by
        have e1 : (((((w.setCell ⟨g, 2, none⟩ (.int .i64 ((ρ.ops : Int) + 1))).setCell ⟨g, 3, none⟩ (.int .i64 kind)).setCell ⟨g, 4, none⟩ (.int .i64 ((k : Int) + 1))).setCell ⟨g, 5, none⟩ (.bool true))).cell? ⟨g, 1, none⟩ = w.cell? ⟨g, 1, none⟩ := by
          rw [World.cell?_setCell_other, World.cell?_setCell_other, World.cell?_setCell_other, World.cell?_setCell_other] <;> simp
        rw [e1, g1] at q1
        simp at q1
        first | exact q1.2.symm | exact q1.1.symm | exact q1.1.1.symm | omega
      subst hbb
      have HP := Lib.hid (hput v)
      clear hput q1
      generalize ρ.ws.getD k 0 = x at *
      go_enter Try.func98, Try.ntmps98
      go_wp2_with fail
      go_ret2
      exact ⟨rfl, HP.out, (RMod.of_mod (((((Mod.refl _ _).setCell (by simp) _).setCell (by simp) _).setCell (by simp) _).setCell (by simp) _)).setRow hb1 (by obtain ⟨cur, hc⟩ := HI.out; exact ⟨cur, blk_other (blk_other (blk_other (blk_other hc hb2 _) hb2 _) hb2 _) hb2 _⟩) _⟩
end
end Go.Proofs.Ytfdcojhgpfmloaa.Ara
