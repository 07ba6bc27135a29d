/- Layer 1's law: do and same, with both arenas. -/
import Derived.Test.YtfdcojhgpfmloaaRar2
import Derived.Test.YtfdcojhgpfmloaaAta
import Derived.Test.YtfdcojhgpfmloaaSame
import Derived.Deep.RegionHeld3
namespace Go.Proofs.Ytfdcojhgpfmloaa.Ara
open Go.RowKit

/-- The blocks of an arena, or of none. -/
def ms (q : Option Addr) (g h : Nat) : List Nat := match q with | none => [] | some _ => [g, h]
/-- An arena, or none. -/
def AO (q : Option Addr) (g h : Nat) (W : World) (σ : Ar) : Prop := (q = some ⟨g, 0, none⟩ ∧ ArAt W g h σ) ∨ (q = none ∧ σ = Ar.fresh 0)
theorem fresh_has (p : Int) : (Ar.fresh 0).has p = false := by
  rw [Ar.has, Bool.and_eq_false_iff]
  by_cases h : 1 ≤ p
  · right
    rw [decide_eq_false_iff_not]
    show ¬ p ≤ ((0 : Nat) : Int)
    omega
  · left
    simpa using h
theorem AO.step {q : Option Addr} {g h : Nat} {W W' : World} {σ : Ar} (k : AO q g h W σ) (hb : Below W.heap.size W W') : AO q g h W' σ := by
  rcases k with ⟨h1, h2⟩ | h1
  · exact .inl ⟨h1, h2.step hb⟩
  · exact .inr h1
theorem AO.upd {B : Nat} {S : List Nat} {w w' : World} {q : Option Addr} {g h : Nat} {σ : Ar} (k : AO q g h w σ) (hm : Upd B S w w') (hgB : g < B) (hhB : h < B) (hg : g ∉ S) (hh : h ∉ S) : AO q g h w' σ := by
  rcases k with ⟨h1, h2⟩ | h1
  · exact .inl ⟨h1, h2.upd hm hgB hhB hg hh⟩
  · exact .inr h1
section
variable (q : Option Addr) (g h : Nat) (σ : Ar) (w : World) (H : AO q g h w σ) (ho : σ.ops ≤ 1000000) (p : Int)
include H ho
theorem load_ao : Calls Try.prog 37 #[.pointer q, .int .i64 p] w fun e w' => e = .returned (.int .i64 (σ.get p)) ∧ AO q g h w' (σ.op 1 p false 0) ∧ Mod (ms q g h) w w' := by
  rcases H with ⟨rfl, H⟩ | ⟨rfl, rfl⟩
  · exact (load_any g h σ w H ho p).mono fun e w' ⟨h1, h2, h3⟩ => ⟨h1, .inl ⟨rfl, h2⟩, h3⟩
  · refine (load_no w p none (word_nil p w)).mono ?_
    rintro e w' ⟨rfl, rfl⟩
    simp only [Ar.get_out (fresh_has p), Ar.op_out (fresh_has p)]
    exact ⟨trivial, .inr ⟨rfl, rfl⟩, Mod.refl _ _⟩
theorem store_ao (v : Int) : Calls Try.prog 38 #[.pointer q, .int .i64 p, .int .i64 v] w fun e w' => e = .returned (.tuple #[]) ∧ AO q g h w' (σ.op 2 p true v) ∧ Mod (ms q g h) w w' := by
  rcases H with ⟨rfl, H⟩ | ⟨rfl, rfl⟩
  · exact (store_any g h σ w H ho p v).mono fun e w' ⟨h1, h2, h3⟩ => ⟨h1, .inl ⟨rfl, h2⟩, h3⟩
  · refine (store_no w p none v (word_nil p w)).mono ?_
    rintro e w' ⟨rfl, rfl⟩
    simp only [Ar.op_out (fresh_has p)]
    exact ⟨trivial, .inr ⟨rfl, rfl⟩, Mod.refl _ _⟩
theorem swap_ao (v : Int) : Calls Try.prog 39 #[.pointer q, .int .i64 p, .int .i64 v] w fun e w' => e = .returned (.int .i64 (σ.get p)) ∧ AO q g h w' (σ.op 3 p true v) ∧ Mod (ms q g h) w w' := by
  rcases H with ⟨rfl, H⟩ | ⟨rfl, rfl⟩
  · exact (swap_any g h σ w H ho p v).mono fun e w' ⟨h1, h2, h3⟩ => ⟨h1, .inl ⟨rfl, h2⟩, h3⟩
  · refine (swap_no w p none v (word_nil p w)).mono ?_
    rintro e w' ⟨rfl, rfl⟩
    simp only [Ar.get_out (fresh_has p), Ar.op_out (fresh_has p)]
    exact ⟨trivial, .inr ⟨rfl, rfl⟩, Mod.refl _ _⟩
theorem cas_ao (old v : Int) : Calls Try.prog 40 #[.pointer q, .int .i64 p, .int .i64 old, .int .i64 v] w fun e w' => e = .returned (.bool (σ.has p && (σ.get p == old))) ∧ AO q g h w' (σ.op 4 p (σ.has p && (σ.get p == old)) v) ∧ Mod (ms q g h) w w' := by
  rcases H with ⟨rfl, H⟩ | ⟨rfl, rfl⟩
  · exact (cas_any g h σ w H ho p old v).mono fun e w' ⟨h1, h2, h3⟩ => ⟨h1, .inl ⟨rfl, h2⟩, h3⟩
  · refine (cas_no w p none v old (word_nil p w)).mono ?_
    rintro e w' ⟨rfl, rfl⟩
    simp only [Ar.op_out (fresh_has p), fresh_has p, Bool.false_and]
    exact ⟨trivial, .inr ⟨rfl, rfl⟩, Mod.refl _ _⟩
theorem add_ao (d : Int) : Calls Try.prog 41 #[.pointer q, .int .i64 p, .int .i64 d] w fun e w' => e = .returned (.int .i64 (if σ.has p then wrap64 (σ.get p + d) else 0)) ∧ AO q g h w' (σ.op 5 p true (wrap64 (σ.get p + d))) ∧ Mod (ms q g h) w w' := by
  rcases H with ⟨rfl, H⟩ | ⟨rfl, rfl⟩
  · exact (add_any g h σ w H ho p d).mono fun e w' ⟨h1, h2, h3⟩ => ⟨h1, .inl ⟨rfl, h2⟩, h3⟩
  · refine (add_no w p none d (word_nil p w)).mono ?_
    rintro e w' ⟨rfl, rfl⟩
    rw [Ar.op_out (fresh_has p), if_neg (by simp [fresh_has p])]
    exact ⟨rfl, .inr ⟨rfl, rfl⟩, Mod.refl _ _⟩
omit ho
theorem take_ao (n : Int) : Calls Try.prog 36 #[.pointer q, .int .i64 n] w fun e w' => e = .returned (.tuple #[.int .i64 (σ.take n).1.1, .int .i64 (σ.take n).1.2]) ∧ AO q g h w' (σ.take n).2 ∧ Mod (ms q g h) w w' := by
  rcases H with ⟨rfl, H⟩ | ⟨rfl, rfl⟩
  · exact (take_any g h σ w H n).mono fun e w' ⟨h1, h2, h3⟩ => ⟨h1, .inl ⟨rfl, h2⟩, h3⟩
  · refine (take_nil n w).mono ?_
    rintro e w' ⟨rfl, hb⟩
    have e1 : ((Ar.fresh 0).take n).1 = (if n = 0 then 1 else 0, if n < 0 then 1 else if n = 0 then 0 else 3) ∧ ((Ar.fresh 0).take n).2 = Ar.fresh 0 := by
      unfold Ar.take
      by_cases h0 : n < 0
      · rw [if_pos h0, if_neg (by omega), if_pos h0]; exact ⟨rfl, rfl⟩
      · rw [if_neg h0, if_neg h0]
        by_cases h1 : n = 0
        · subst h1; exact ⟨rfl, rfl⟩
        · rw [if_pos (by simp [Ar.fresh, zerosW]; omega), if_neg h1, if_neg h1]; exact ⟨rfl, rfl⟩
    rw [e1.1, e1.2]
    exact ⟨rfl, .inr ⟨rfl, rfl⟩, Mod.of_below hb⟩
end

/-- Both arenas are alike. -/
def Alk (σ : Ar) (ρ : Rf) : Prop :=
  ρ.room = σ.ws.length ∧ ρ.ws = σ.ws.take σ.t ∧ σ.t ≤ σ.ws.length ∧ (∀ i, σ.t ≤ i → σ.ws.getD i 0 = 0) ∧ ρ.ops = σ.ops ∧ ρ.kind = σ.kind ∧ ρ.pos = σ.pos ∧ ρ.wrote = σ.wrote
theorem Alk.len {σ : Ar} {ρ : Rf} (h : Alk σ ρ) : ρ.ws.length = σ.t := by
  rw [h.2.1, List.length_take]
  have := h.2.2.1
  omega
theorem Alk.has {σ : Ar} {ρ : Rf} (h : Alk σ ρ) (p : Int) : ρ.has p = σ.has p := by unfold Rf.has Ar.has; rw [h.len]
theorem Alk.get {σ : Ar} {ρ : Rf} (h : Alk σ ρ) (p : Int) : ρ.get p = σ.get p := by
  unfold Rf.get Ar.get
  rw [h.has]
  split
  · rename_i hh
    simp [Ar.has] at hh
    rw [h.2.1]
    simp only [List.getD_eq_getElem?_getD]
    rw [List.getElem?_take_of_lt (by omega)]
  · rfl
theorem Alk.op {σ : Ar} {ρ : Rf} (h : Alk σ ρ) (kind p v : Int) (wrote : Bool) : Alk (σ.op kind p wrote v) (ρ.op kind p wrote v) := by
  unfold Ar.op Rf.op
  rw [h.has]
  split
  · rename_i hh
    simp [Ar.has] at hh
    obtain ⟨h1, h2, h3, h4, h5, h6, h7, h8⟩ := h
    cases wrote
    · exact ⟨h1, h2, h3, h4, by show ρ.ops + 1 = σ.ops + 1; rw [h5], rfl, rfl, rfl⟩
    · refine ⟨by show ρ.room = ((σ.ws.set (p - 1).toNat v).length : Int); rw [List.length_set]; exact h1, ?_, by show σ.t ≤ (σ.ws.set (p - 1).toNat v).length; rw [List.length_set]; exact h3, ?_, by show ρ.ops + 1 = σ.ops + 1; rw [h5], rfl, rfl, rfl⟩
      · show ρ.ws.set (p - 1).toNat v = (σ.ws.set (p - 1).toNat v).take σ.t
        rw [h2, List.take_set]
      · intro i hi
        show (σ.ws.set (p - 1).toNat v).getD i 0 = 0
        have := h4 i hi
        simp only [List.getD_eq_getElem?_getD] at this ⊢
        rw [List.getElem?_set_ne (by have : σ.t ≤ i := hi; omega)]
        exact this
  · exact h
theorem Alk.take {σ : Ar} {ρ : Rf} (h : Alk σ ρ) (n : Int) : (ρ.take n).1 = (σ.take n).1 ∧ Alk (σ.take n).2 (ρ.take n).2 := by
  unfold Ar.take Rf.take
  by_cases h0 : n < 0
  · rw [if_pos h0, if_pos h0]; exact ⟨rfl, h⟩
  rw [if_neg h0, if_neg h0, h.len, h.1]
  by_cases h1 : (σ.ws.length : Int) - σ.t < n
  · rw [if_pos h1, if_pos h1]; exact ⟨rfl, h⟩
  rw [if_neg h1, if_neg h1]
  refine ⟨rfl, ?_⟩
  obtain ⟨g1, g2, g3, g4, g5, g6, g7, g8⟩ := h
  refine ⟨rfl, ?_, by show σ.t + n.toNat ≤ σ.ws.length; omega, fun i hi => g4 i (by have : σ.t + n.toNat ≤ i := hi; omega), g5, g6, g7, g8⟩
  show ρ.ws ++ List.replicate n.toNat 0 = σ.ws.take (σ.t + n.toNat)
  rw [g2, List.take_add]
  congr 1
  apply List.ext_getElem
  · simp; omega
  · intro i i1 i2
    have := g4 (σ.t + i) (by omega)
    simp only [List.getD_eq_getElem?_getD] at this
    simp at i1
    rw [List.getElem?_eq_getElem (by omega)] at this
    simp only [Option.getD_some] at this
    simp [this]
end Go.Proofs.Ytfdcojhgpfmloaa.Ara
