/- An arena that a law has made. -/
import Derived.Test.YthffhhgaeolpgaaArena4
import Derived.Test.YthffhhgaeolpgaaUpd
namespace Go.Proofs.Ythffhhgaeolpgaa.Ara
open Go.RowKit

theorem ArAt.upd {B : Nat} {S : List Nat} {w w' : World} {g h : Nat} {σ : Ar} (k : ArAt w g h σ) (hm : Upd B S w w') (hgB : g < B) (hhB : h < B) (hg : g ∉ S) (hh : h ∉ S) : ArAt w' g h σ := by
  obtain ⟨h1, h2, A, c, h3, h4⟩ := k
  refine ⟨h1, h2, A, c, hm.blk h3 hgB hg, ?_⟩
  rcases h4 with h4 | ⟨a, b, c⟩
  · exact .inl h4
  · exact .inr ⟨a, b, hm.blk c hhB hh⟩

/-- In a law: an arena made behind W0. -/
def AtA (B : Nat) (W0 W : World) (σ : Ar) : Prop := ArAt W (B + 1) B σ ∧ B + 1 + 1 ≤ W.heap.size ∧ Below B W0 W
theorem AtA.base {B : Nat} {W0 W W' : World} {σ : Ar} (h : AtA B W0 W σ) (hb : Below (B + 1 + 1) W W') : AtA B W0 W' σ :=
  ⟨h.1.upd (S := []) (Upd.of_below hb) (by omega) (by omega) (by simp) (by simp), Nat.le_trans h.2.1 hb.size, h.2.2.trans (hb.mono (by omega))⟩
theorem AtA.same {B : Nat} {W0 W W' : World} {σ : Ar} (h : AtA B W0 W σ) (hb : Below W.heap.size W W') : AtA B W0 W' σ := h.base (hb.mono h.2.1)
theorem AtA.mod {B : Nat} {W0 W W' : World} {σ σ' : Ar} (h : AtA B W0 W σ) (hi : ArAt W' (B + 1) B σ') (hm : Mod [B + 1, B] W W') : AtA B W0 W' σ' :=
  ⟨hi, Nat.le_trans h.2.1 hm.size, hm.below_of h.2.2 (by have := h.2.1; omega) (by simp)⟩
section
variable (B : Nat) (W0 W : World) (σ σ' : Ar) (H : AtA B W0 W σ)
include H
theorem take_at (n : Int) (r e : Int) (h : σ.take n = ((r, e), σ')) : Calls Try.prog 42 #[.pointer (some ⟨B + 1, 0, none⟩), .int .i64 n] W fun x w' => x = .returned (.tuple #[.int .i64 r, .int .i64 e]) ∧ AtA B W0 w' σ' ∧ Mod [B + 1, B] W w' := by
  have := take_any (B + 1) B σ W H.1 n
  rw [h] at this
  exact this.mono fun x w' ⟨h1, h2, h3⟩ => ⟨h1, H.mod h2 h3, h3⟩
theorem load_at (ho : σ.ops ≤ 1000000) (p r : Int) (h1 : σ.get p = r) (h2 : σ.op 1 p false 0 = σ') : Calls Try.prog 80 #[.pointer (some ⟨B + 1, 0, none⟩), .int .i64 p] W fun x w' => x = .returned (.int .i64 r) ∧ AtA B W0 w' σ' ∧ Mod [B + 1, B] W w' := by
  subst h1 h2
  exact (load_any (B + 1) B σ W H.1 ho p).mono fun x w' ⟨h1, h2, h3⟩ => ⟨h1, H.mod h2 h3, h3⟩
theorem store_at (ho : σ.ops ≤ 1000000) (p v : Int) (h2 : σ.op 2 p true v = σ') : Calls Try.prog 43 #[.pointer (some ⟨B + 1, 0, none⟩), .int .i64 p, .int .i64 v] W fun x w' => x = .returned (.tuple #[]) ∧ AtA B W0 w' σ' ∧ Mod [B + 1, B] W w' := by
  subst h2
  exact (store_any (B + 1) B σ W H.1 ho p v).mono fun x w' ⟨h1, h2, h3⟩ => ⟨h1, H.mod h2 h3, h3⟩
theorem swap_at (ho : σ.ops ≤ 1000000) (p v r : Int) (h1 : σ.get p = r) (h2 : σ.op 3 p true v = σ') : Calls Try.prog 79 #[.pointer (some ⟨B + 1, 0, none⟩), .int .i64 p, .int .i64 v] W fun x w' => x = .returned (.int .i64 r) ∧ AtA B W0 w' σ' ∧ Mod [B + 1, B] W w' := by
  subst h1 h2
  exact (swap_any (B + 1) B σ W H.1 ho p v).mono fun x w' ⟨h1, h2, h3⟩ => ⟨h1, H.mod h2 h3, h3⟩
theorem cas_at (ho : σ.ops ≤ 1000000) (p old v : Int) (r : Bool) (h1 : (σ.has p && (σ.get p == old)) = r) (h2 : σ.op 4 p r v = σ') : Calls Try.prog 90 #[.pointer (some ⟨B + 1, 0, none⟩), .int .i64 p, .int .i64 old, .int .i64 v] W fun x w' => x = .returned (.bool r) ∧ AtA B W0 w' σ' ∧ Mod [B + 1, B] W w' := by
  subst h1 h2
  exact (cas_any (B + 1) B σ W H.1 ho p old v).mono fun x w' ⟨h1, h2, h3⟩ => ⟨h1, H.mod h2 h3, h3⟩
theorem add_at (ho : σ.ops ≤ 1000000) (p d r : Int) (h1 : (if σ.has p then wrap64 (σ.get p + d) else 0) = r) (h2 : σ.op 5 p true (wrap64 (σ.get p + d)) = σ') : Calls Try.prog 69 #[.pointer (some ⟨B + 1, 0, none⟩), .int .i64 p, .int .i64 d] W fun x w' => x = .returned (.int .i64 r) ∧ AtA B W0 w' σ' ∧ Mod [B + 1, B] W w' := by
  subst h1 h2
  exact (add_any (B + 1) B σ W H.1 ho p d).mono fun x w' ⟨h1, h2, h3⟩ => ⟨h1, H.mod h2 h3, h3⟩
end
theorem new_at (t : Int) (w : World) (σ : Ar) (h : Ar.fresh (room t) = σ) : Calls Try.prog 13 #[.int .i64 t] w fun e w' => e = .returned (.pointer (some ⟨w.heap.size + 1, 0, none⟩)) ∧ AtA w.heap.size w w' σ := by
  subst h
  exact (new_in t w).mono fun e w' ⟨h1, h2, h3, h4⟩ => ⟨h1, h2, by omega, h4⟩
end Go.Proofs.Ythffhhgaeolpgaa.Ara
