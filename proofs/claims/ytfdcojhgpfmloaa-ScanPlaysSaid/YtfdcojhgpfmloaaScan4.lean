/- The document's walk, and its arena's Load, whose row stays where it is. -/
import Derived.Test.YtfdcojhgpfmloaaRar2
import Derived.Test.YtfdcojhgpfmloaaKeep
import Derived.Test.YtfdcojhgpfmloaaCopy
import Derived.Deep.RegionHeld3
namespace Go.Proofs.Ytfdcojhgpfmloaa.Ara
open Go.RowKit

/-- The document's arena, its row v. -/
def RfV (W : World) (g base : Nat) (v : Value) (ρ : Rf) : Prop :=
  g < base ∧ base ≤ W.heap.size ∧ ρ.ws.length ≤ 4096 ∧ (0 ≤ ρ.room ∧ ρ.room ≤ 4096) ∧ ρ.ops ≤ 1000000 ∧ W.heap[g]? = some (.cells (rfCells v ρ) 89 (0, 0)) ∧ W.ownsRow base 3 1 v ρ.ws.length (ρ.ws.map vI)
theorem RfAt.fixed {W : World} {g base : Nat} {ρ : Rf} (h : RfAt W g base ρ) : ∃ v, RfV W g base v ρ := by
  obtain ⟨h1, h2, h3, h4, h5, v, h6, h7⟩ := h
  exact ⟨v, h1, h2, h3, h4, h5, h6, h7⟩
theorem RfV.at_ {W : World} {g base : Nat} {v : Value} {ρ : Rf} (h : RfV W g base v ρ) : RfAt W g base ρ := ⟨h.1, h.2.1, h.2.2.1, h.2.2.2.1, h.2.2.2.2.1, v, h.2.2.2.2.2.1, h.2.2.2.2.2.2⟩
theorem own_upd {w w' : World} {B : Nat} {S : List Nat} {base : Nat} {e : TypeId} {size : Nat} {v : Value} {n : Nat} {xs : List Value} (h : w.ownsRow base e size v n xs) (hm : Upd B S w w') (hb : ∀ b, v.ownBlock = some b → b < B ∧ b ∉ S) : w'.ownsRow base e size v n xs := by
  obtain ⟨h1, h2⟩ := h
  refine ⟨h1, ?_⟩
  rcases h2 with h2 | ⟨g, cap, cur, rfl, hg, hbk, rest⟩
  · exact .inl h2
  · obtain ⟨b1, b2⟩ := hb g rfl
    exact .inr ⟨g, cap, cur, rfl, hg, hm.blk hbk b1 b2, rest⟩
theorem RfV.upd {W W' : World} {g base B : Nat} {S : List Nat} {v : Value} {ρ : Rf} (h : RfV W g base v ρ) (hu : Upd B S W W') (hB : base ≤ B) (hg : g ∉ S) (hb : ∀ b, v.ownBlock = some b → b < B ∧ b ∉ S) : RfV W' g base v ρ :=
  ⟨h.1, Nat.le_trans h.2.1 hu.size, h.2.2.1, h.2.2.2.1, h.2.2.2.2.1, hu.blk h.2.2.2.2.2.1 (by have := h.1; omega) hg, own_upd h.2.2.2.2.2.2 hu hb⟩
theorem RfV.block {W : World} {g base : Nat} {v : Value} {ρ : Rf} (h : RfV W g base v ρ) : ∀ b, v.ownBlock = some b → b < W.heap.size ∧ base ≤ b := by
  intro b hb
  rcases h.2.2.2.2.2.2.2 with ⟨rfl, _⟩ | ⟨g', cap, cur, rfl, hg, hbk, _⟩
  · cases hb
  · simp [Value.ownBlock] at hb
    subst hb
    exact ⟨lt_of_blk hbk, hg⟩
theorem RfV.note {W : World} {g base : Nat} {v : Value} {ρ : Rf} (k : RfV W g base v ρ) (ho : ρ.ops < 1000000) (kind pos : Int) (wrote : Bool) :
    RfV ((((W.setCell ⟨g, 2, none⟩ (.int .i64 ((ρ.ops : Int) + 1))).setCell ⟨g, 3, none⟩ (.int .i64 kind)).setCell ⟨g, 4, none⟩ (.int .i64 pos)).setCell ⟨g, 5, none⟩ (.bool wrote)) g base v (ρ.did kind pos wrote ρ.ws) := by
  obtain ⟨h1, hz, h2, h3, h4, h5, h6⟩ := k
  refine ⟨h1, by simpa [World.setCell] using hz, h2, h3, by show ρ.ops + 1 ≤ 1000000; omega, ?_, ?_⟩
  · rw [blk_set (blk_set (blk_set (blk_set h5 _ _) _ _) _ _)]
    rfl
  · exact ownsRow_setCell_below (ownsRow_setCell_below (ownsRow_setCell_below (ownsRow_setCell_below h6 h1 _) h1 _) h1 _) h1 _
section
variable (g base : Nat) (v : Value) (ρ : Rf) (w : World) (H : RfV w g base v ρ) (p : Int) (ho : ρ.ops < 1000000)
include H ho
set_option maxHeartbeats 1000000 in
set_option maxRecDepth 100000 in
theorem rop_v (kind : Int) : Calls Try.prog 98 #[.pointer (some ⟨g, 0, none⟩), .int .i64 kind, .int .i64 p, .int .i64 0, .bool false] w fun e w' => e = .returned (.tuple #[.int .i64 (ρ.get p), .bool (ρ.has p)]) ∧ RfV w' g base v (ρ.op kind p false 0) ∧ Mod [g] w w' := by
  obtain ⟨A, c0, _, s1, g2, g3, g4, g5, gf, hc1, hc2, _⟩ := H.at_.slot
  have hl := H.2.2.1
  have hbz := H.2.1
  rcases ρ.cases p with ⟨hh, hp⟩ | ⟨k, hk, rfl⟩
  · have hg : ρ.get p = 0 := by unfold Rf.get; rw [if_neg (by simp [hh])]
    have hq : ρ.op kind p false 0 = ρ := by unfold Rf.op; rw [if_neg (by simp [hh])]
    rw [hg, hh, hq]
    have HH := Lib.hid H
    clear H hh hg hq gf
    by_cases h0 : p < 1
    · go_enter Try.func98, Try.ntmps98
      go_wp2_with fail
      go_ret2
      exact ⟨rfl, HH.out, Mod.refl _ _⟩
    · have h1 : (ρ.ws.length : Int) < p := by omega
      go_enter Try.func98, Try.ntmps98
      go_wp2_with fail
      go_ret2
      exact ⟨rfl, HH.out, Mod.refl _ _⟩
  · rw [Rf.get_in hk, Rf.has_in hk, Rf.op_in hk]
    clear s1
    obtain ⟨b, c, g1, hc, fz, hb1, hb2, hir, _⟩ := H.at_.word k hk
    have HN := Lib.hid (H.note ho kind ((k : Int) + 1) false)
    have t1 : (k : Int) + 1 ≤ (ρ.ws.length : Int) := by omega
    have t2 : (1 : Int) ≤ (k : Int) + 1 := by omega
    have t3 : (k : Int) < (ρ.ws.length : Int) := by omega
    have t5 : (k : Int) + 1 ≤ 4096 := by omega
    have t6 : (ρ.ops : Int) ≤ 1000000 := by omega
    have t7 : (0 : Int) ≤ (ρ.ops : Int) := by omega
    have f2 := gf 2
    have f3 := gf 3
    have f4 := gf 4
    have f5 := gf 5
    have hb3 : ¬ g = b := fun e => hb2 e.symm
    clear gf H ho hir
    generalize ρ.ws.getD k 0 = x at *
    go_enter Try.func98, Try.ntmps98
    go_wp2_with fail
    go_ret2
    exact ⟨rfl, HN.out, ((((Mod.refl _ _).setCell (by simp) _).setCell (by simp) _).setCell (by simp) _).setCell (by simp) _⟩
theorem rload_v : Calls Try.prog 73 #[.pointer (some ⟨g, 0, none⟩), .int .i64 p] w fun e w' => e = .returned (.int .i64 (ρ.get p)) ∧ RfV w' g base v (ρ.op 1 p false 0) ∧ Mod [g] w w' := by
  have HO := Lib.hid (rop_v g base v ρ w H p ho 1)
  clear H ho
  go_enter Try.func73, Try.ntmps73
  go_wp2_with fail
  refine HO.out.mono ?_
  rintro e w1 ⟨rfl, h1, h2⟩
  go_wp2_with fail
  go_ret
  exact ⟨rfl, h1, h2⟩
end

/-! The document's walk. -/
structure Rk where
  node : Int
  way : Bool
  ps : List Int
  found : Int
def rkCells (gr : Nat) (pos step : Int) (N v : Value) (s : Rk) : Array Value := #[.pointer (some ⟨gr, 0, none⟩), .int .i64 pos, .int .i64 step, N, .int .i64 s.node, .bool s.way, v, .int .i64 s.found]
/-- In memory: its struct at g, what it has passed in a row from base on; the nodes are the argument's. -/
def RkAt (W : World) (g base gr : Nat) (pos step : Int) (An : Option Addr) (cn : Nat) (ns : List Int) (s : Rk) : Prop :=
  g < base ∧ base ≤ W.heap.size ∧ s.ps.length ≤ ns.length ∧ ns.length ≤ 4096 ∧ Sl W g An (ns.map (Value.int .i64)) ∧
    ∃ v, W.heap[g]? = some (.cells (rkCells gr pos step (.slice An ns.length cn) v s) 87 (0, 0)) ∧ W.ownsRow base 3 1 v s.ps.length (s.ps.map vI)
theorem RkAt.mod {S : List Nat} {W W' : World} {g base gr : Nat} {pos step : Int} {An : Option Addr} {cn : Nat} {ns : List Int} {s : Rk} (k : RkAt W g base gr pos step An cn ns s) (hm : Upd W.heap.size S W W') (hS : ∀ x ∈ S, x < base ∧ x ≠ g) (hN : ns = [] ∨ ∀ x ∈ S, ∀ b off, An = some ⟨b, off, none⟩ → x ≠ b) : RkAt W' g base gr pos step An cn ns s := by
  obtain ⟨h1, h2, h3, h4, h5, v, h6, h7⟩ := k
  refine ⟨h1, Nat.le_trans h2 hm.size, h3, h4, ?_, v, hm.blk h6 (by omega) (fun e => (hS _ e).2 rfl), own_upd h7 hm (fun b hb => ?_)⟩
  · rcases hN with hN | hN
    · exact .inl (by rw [hN]; rfl)
    rcases h5 with h5 | ⟨b, off, rfl, hb, hc⟩
    · exact .inl h5
    · refine .inr ⟨b, off, rfl, hb, fun j hj => ?_⟩
      have := hm.block b (by omega) (fun e => hN _ e b off rfl rfl)
      have hcj := hc j hj
      simpa [World.cell?, this] using hcj
  · rcases h7.2 with ⟨rfl, _⟩ | ⟨g', cap, cur, rfl, hg, hbk, _⟩
    · cases hb
    · simp [Value.ownBlock] at hb
      subst hb
      exact ⟨lt_of_blk hbk, fun e => by have := (hS _ e).1; omega⟩
def Rk.lastw (s : Rk) : Int := s.ps.getLastD 0
def Rk.take (ns : List Int) (s : Rk) (x : Int) : Rk :=
  if x < 1 ∨ (ns.length : Int) < x ∨ s.ps.length = ns.length then { s with way := false }
  else if ns.getD (x - 1).toNat 0 = s.node then { s with way := false, found := x }
  else { s with way := true, ps := s.ps ++ [x] }
end Go.Proofs.Ytfdcojhgpfmloaa.Ara
