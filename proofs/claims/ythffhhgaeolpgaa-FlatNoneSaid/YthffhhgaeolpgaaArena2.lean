/- Package arena: the arena in memory, and its ops. -/
import Derived.Test.YthffhhgaeolpgaaArena1
namespace Go.Proofs.Ythffhhgaeolpgaa.Ara
open Go.RowKit

def vI (n : Int) : Value := .int .i64 n
structure Ar where
  ws : List Int
  t : Nat
  ops : Nat
  kind : Int
  pos : Int
  wrote : Bool
  deriving DecidableEq
def arCells (A : Option Addr) (c : Nat) (σ : Ar) : Array Value := #[.slice A σ.ws.length c, .int .i64 σ.t, .int .i64 σ.ops, .int .i64 σ.kind, .int .i64 σ.pos, .bool σ.wrote]
/-- An arena in memory: its struct at g, its words at h. -/
def ArAt (w : World) (g h : Nat) (σ : Ar) : Prop :=
  σ.t ≤ σ.ws.length ∧ σ.ws.length ≤ 4096 ∧ ∃ A c, w.heap[g]? = some (.cells (arCells A c σ) 67 (0, 0)) ∧
    (σ.ws = [] ∨ (A = some ⟨h, 0, none⟩ ∧ h ≠ g ∧ w.heap[h]? = some (.cells (σ.ws.map vI).toArray 80 (0, 0))))
theorem ArAt.lt {w : World} {g h : Nat} {σ : Ar} (k : ArAt w g h σ) : g < w.heap.size := by
  obtain ⟨_, _, A, c, h1, _⟩ := k
  exact lt_of_blk h1
theorem ArAt.mod {S : List Nat} {w w' : World} {g h : Nat} {σ : Ar} (k : ArAt w g h σ) (hm : Mod S w w') (hg : g ∉ S) (hh : h ∉ S) : ArAt w' g h σ := by
  obtain ⟨h1, h2, A, c, h3, h4⟩ := k
  refine ⟨h1, h2, A, c, hm.blk h3 hg, ?_⟩
  rcases h4 with h4 | ⟨a, b, c⟩
  · exact .inl h4
  · exact .inr ⟨a, b, hm.blk c hh⟩
theorem ArAt.step {w w' : World} {g h : Nat} {σ : Ar} (k : ArAt w g h σ) (hb : Below w.heap.size w w') : ArAt w' g h σ := k.mod (S := []) (Mod.of_below hb) (by simp) (by simp)
theorem ArAt.drewN {w : World} {g h : Nat} {σ : Ar} (k : ArAt w g h σ) (n : Nat) : ArAt (w.drewN n) g h σ := k

/-- What an op leaves. -/
def Ar.did (σ : Ar) (kind pos : Int) (wrote : Bool) (ws : List Int) : Ar := ⟨ws, σ.t, σ.ops + 1, kind, pos, wrote⟩
theorem ArAt.note {w : World} {g h : Nat} {σ : Ar} (k : ArAt w g h σ) (n : Nat) (kind pos : Int) (wrote : Bool) (hn : n = σ.ops + 1) :
    ArAt ((((w.setCell ⟨g, 2, none⟩ (.int .i64 n)).setCell ⟨g, 3, none⟩ (.int .i64 kind)).setCell ⟨g, 4, none⟩ (.int .i64 pos)).setCell ⟨g, 5, none⟩ (.bool wrote)) g h (σ.did kind pos wrote σ.ws) := by
  obtain ⟨h1, h2, A, c, h3, h4⟩ := k
  subst hn
  refine ⟨h1, h2, A, c, ?_, ?_⟩
  · rw [blk_set (blk_set (blk_set (blk_set h3 _ _) _ _) _ _)]
    rfl
  · rcases h4 with h4 | ⟨a, b, c⟩
    · exact .inl h4
    · exact .inr ⟨a, b, blk_other (blk_other (blk_other (blk_other c b _) b _) b _) b _⟩
theorem ArAt.put {w : World} {g h : Nat} {σ : Ar} (k : ArAt w g h σ) (i : Nat) (v : Int) (hi : i < σ.t) : ArAt (w.setCell ⟨h, i, none⟩ (.int .i64 v)) g h { σ with ws := σ.ws.set i v } := by
  obtain ⟨h1, h2, A, c, h3, h4⟩ := k
  rcases h4 with h4 | ⟨rfl, b, h5⟩
  · rw [h4] at h1
    simp at h1
    omega
  · refine ⟨by simpa using h1, by simpa using h2, _, c, ?_, .inr ⟨rfl, b, ?_⟩⟩
    · rw [blk_other h3 (Ne.symm b)]
      simp [arCells]
    · rw [blk_set h5]
      simp [List.map_set, vI]

theorem ArAt.heads {w : World} {g h : Nat} {σ : Ar} (k : ArAt w g h σ) : ∃ A c, w.cell? ⟨g, 0, none⟩ = some (.slice A σ.ws.length c) ∧ w.cell? ⟨g, 1, none⟩ = some (.int .i64 σ.t) ∧ w.cell? ⟨g, 2, none⟩ = some (.int .i64 σ.ops) ∧
    w.cell? ⟨g, 3, none⟩ = some (.int .i64 σ.kind) ∧ w.cell? ⟨g, 4, none⟩ = some (.int .i64 σ.pos) ∧ w.cell? ⟨g, 5, none⟩ = some (.bool σ.wrote) ∧
    (∀ i, w.frozen? ⟨g, i, none⟩ = false) := by
  obtain ⟨h1, h2, A, c, h3, h4⟩ := k
  exact ⟨A, c, blk_cell h3 0 (by simp [arCells]), blk_cell h3 1 (by simp [arCells]), blk_cell h3 2 (by simp [arCells]), blk_cell h3 3 (by simp [arCells]), blk_cell h3 4 (by simp [arCells]), blk_cell h3 5 (by simp [arCells]), blk_free h3⟩
theorem ArAt.word {w : World} {g h : Nat} {σ : Ar} (k : ArAt w g h σ) (i : Nat) (hi : i < σ.t) : ∃ c, w.cell? ⟨g, 0, none⟩ = some (.slice (some ⟨h, 0, none⟩) σ.ws.length c) ∧
    w.cell? ⟨h, i, none⟩ = some (.int .i64 (σ.ws.getD i 0)) ∧ w.frozen? ⟨h, i, none⟩ = false ∧ h ≠ g ∧ i < σ.ws.length := by
  obtain ⟨h1, h2, A, c, h3, h4⟩ := k
  rcases h4 with h4 | ⟨rfl, b, h5⟩
  · rw [h4] at h1
    simp at h1
    omega
  · have hil : i < σ.ws.length := by omega
    refine ⟨c, blk_cell h3 0 (by simp [arCells]), ?_, blk_free h5 i, b, hil⟩
    rw [blk_cell h5 i (by simpa using hil)]
    simp [vI, hil]

theorem mod_note {g h : Nat} {w : World} (n : Nat) (kind pos : Int) (wrote : Bool) : Mod [g, h] w ((((w.setCell ⟨g, 2, none⟩ (.int .i64 n)).setCell ⟨g, 3, none⟩ (.int .i64 kind)).setCell ⟨g, 4, none⟩ (.int .i64 pos)).setCell ⟨g, 5, none⟩ (.bool wrote)) :=
  ((((Mod.refl _ _).setCell (by simp) _).setCell (by simp) _).setCell (by simp) _).setCell (by simp) _


theorem len_any (g h : Nat) (σ : Ar) (w : World) (H : ArAt w g h σ) :
    Calls Try.prog 46 #[.pointer (some ⟨g, 0, none⟩)] w fun e w' => e = .returned (.int .i64 σ.t) ∧ w' = w := by
  obtain ⟨A, cc, _, g1, _⟩ := H.heads
  clear H
  go_enter Try.func46, Try.ntmps46
  go_wp2_with fail
  go_ret
  exact ⟨rfl, rfl⟩
theorem len_nil (w : World) : Calls Try.prog 46 #[.pointer none] w fun e w' => e = .returned (.int .i64 0) ∧ w' = w := by
  go_enter Try.func46, Try.ntmps46
  go_wp2_with fail
  go_ret
  exact ⟨rfl, rfl⟩
set_option maxRecDepth 100000 in
theorem word_in (g h k : Nat) (σ : Ar) (w : World) (H : ArAt w g h σ) (hkt : k < σ.t) :
    Calls Try.prog 73 #[.pointer (some ⟨g, 0, none⟩), .int .i64 ((k : Int) + 1)] w fun e w' => e = .returned (.pointer (some ⟨h, k, none⟩)) ∧ w' = w := by
  have HL := Lib.hid (len_any g h σ w H)
  obtain ⟨c, g0, hk, fk, hne, hlen⟩ := H.word k hkt
  have t1 : (k : Int) + 1 ≤ (σ.t : Int) := by omega
  have t2 : (1 : Int) ≤ (k : Int) + 1 := by omega
  have t3 : (k : Int) < (σ.ws.length : Int) := by omega
  have t5 : (k : Int) + 1 ≤ 4096 := by have := H.1; have := H.2.1; omega
  clear H hk fk hlen
  go_enter Try.func73, Try.ntmps73
  go_wp2_with fail
  refine (HL.out).mono ?_
  rintro e wx ⟨rfl, hwx⟩
  obtain rfl := hwx.symm
  go_wp2_with fail
  go_ret
  exact ⟨rfl, rfl⟩
theorem word_out (g h : Nat) (p : Int) (σ : Ar) (w : World) (H : ArAt w g h σ) (hp : p < 1 ∨ (σ.t : Int) < p) :
    Calls Try.prog 73 #[.pointer (some ⟨g, 0, none⟩), .int .i64 p] w fun e w' => e = .returned (.pointer none) ∧ w' = w := by
  have HL := Lib.hid (len_any g h σ w H)
  by_cases h0 : p < 1
  · go_enter Try.func73, Try.ntmps73
    go_wp2_with fail
    go_ret
    exact ⟨rfl, rfl⟩
  · have h1 : (σ.t : Int) < p := by omega
    go_enter Try.func73, Try.ntmps73
    go_wp2_with fail
    refine (HL.out).mono ?_
    rintro e wx ⟨rfl, hwx⟩
    obtain rfl := hwx.symm
    go_wp2_with fail
    go_ret
    exact ⟨rfl, rfl⟩
theorem word_nil (p : Int) (w : World) : Calls Try.prog 73 #[.pointer none, .int .i64 p] w fun e w' => e = .returned (.pointer none) ∧ w' = w := by
  by_cases h0 : p < 1
  · go_enter Try.func73, Try.ntmps73
    go_wp2_with fail
    go_ret
    exact ⟨rfl, rfl⟩
  · by_cases h1 : 0 < p
    · go_enter Try.func73, Try.ntmps73
      go_wp2_with fail
      refine (len_nil _).mono ?_
      rintro e wx ⟨rfl, hwx⟩
      obtain rfl := hwx.symm
      go_wp2_with fail
      go_ret
      exact ⟨rfl, rfl⟩
    · omega
theorem note_any (g h : Nat) (kind p : Int) (wrote : Bool) (σ : Ar) (w : World) (H : ArAt w g h σ) (ho : σ.ops ≤ 1000000) :
    Calls Try.prog 74 #[.pointer (some ⟨g, 0, none⟩), .int .i64 kind, .int .i64 p, .bool wrote] w fun e w' => e = .returned (.tuple #[]) ∧ ArAt w' g h (σ.did kind p wrote σ.ws) ∧ w' = (((w.setCell ⟨g, 2, none⟩ (.int .i64 ((σ.ops : Int) + 1))).setCell ⟨g, 3, none⟩ (.int .i64 kind)).setCell ⟨g, 4, none⟩ (.int .i64 p)).setCell ⟨g, 5, none⟩ (.bool wrote) := by
  have HN := Lib.hid (H.note (σ.ops + 1) kind p wrote rfl)
  obtain ⟨A, cc, g0, g1, g2, g3, g4, g5, gf⟩ := H.heads
  have f2 := gf 2
  have f3 := gf 3
  have f4 := gf 4
  have f5 := gf 5
  have t4 : (σ.ops : Int) ≤ 1000000 := by omega
  have t5 : (0 : Int) ≤ (σ.ops : Int) := by omega
  clear gf H ho
  go_enter Try.func74, Try.ntmps74
  go_wp2_with fail
  go_end0
  exact ⟨rfl, HN.out, rfl⟩

section
variable (b k : Nat) (x y : Int) (w : World) (hc : w.cell? ⟨b, k, none⟩ = some (.int .i64 x)) (hz : w.frozen? ⟨b, k, none⟩ = false)
include hc
theorem i_load : Calls Try.prog 47 #[.pointer (some ⟨b, k, none⟩)] w fun e w' => e = .returned (.int .i64 x) ∧ w' = w := by
  have ax := at_load hc
  go_enter Try.func47, Try.ntmps47
  go_wp2_with fail
  go_ret
  exact ⟨rfl, rfl⟩
include hz
theorem i_store : Calls Try.prog 75 #[.pointer (some ⟨b, k, none⟩), .int .i64 y] w fun e w' => e = .returned (.tuple #[]) ∧ w' = w.setCell ⟨b, k, none⟩ (.int .i64 y) := by
  have ax := at_store (y := y) hc hz
  go_enter Try.func75, Try.ntmps75
  go_wp2_with fail
  go_end0
  exact ⟨rfl, rfl⟩
theorem i_swap : Calls Try.prog 88 #[.pointer (some ⟨b, k, none⟩), .int .i64 y] w fun e w' => e = .returned (.int .i64 x) ∧ w' = w.setCell ⟨b, k, none⟩ (.int .i64 y) := by
  have ax := at_swap (y := y) hc hz
  go_enter Try.func88, Try.ntmps88
  go_wp2_with fail
  go_ret
  exact ⟨rfl, rfl⟩
theorem i_add : Calls Try.prog 86 #[.pointer (some ⟨b, k, none⟩), .int .i64 y] w fun e w' => e = .returned (.int .i64 (wrap64 (x + y))) ∧ w' = w.setCell ⟨b, k, none⟩ (.int .i64 (wrap64 (x + y))) := by
  have ax := at_add (y := y) hc hz
  go_enter Try.func86, Try.ntmps86
  go_wp2_with fail
  go_ret
  exact ⟨rfl, rfl⟩
theorem i_cas_hit (v : Int) : Calls Try.prog 93 #[.pointer (some ⟨b, k, none⟩), .int .i64 x, .int .i64 v] w fun e w' => e = .returned (.bool true) ∧ w' = w.setCell ⟨b, k, none⟩ (.int .i64 v) := by
  have ax := at_cas_hit (v := v) hc hz
  go_enter Try.func93, Try.ntmps93
  go_wp2_with fail
  go_ret
  exact ⟨rfl, rfl⟩
theorem i_cas_miss (v : Int) (hne : x ≠ y) : Calls Try.prog 93 #[.pointer (some ⟨b, k, none⟩), .int .i64 y, .int .i64 v] w fun e w' => e = .returned (.bool false) ∧ w' = w := by
  have ax := at_cas_miss (v := v) hc hz hne
  go_enter Try.func93, Try.ntmps93
  go_wp2_with fail
  go_ret
  exact ⟨rfl, rfl⟩
end
end Go.Proofs.Ythffhhgaeolpgaa.Ara
