/- Package arena: Load, Store, Swap, Cas, Add. -/
import Derived.Test.YthffhhgaeolpgaaArena2
namespace Go.Proofs.Ythffhhgaeolpgaa.Ara
open Go.RowKit

def Ar.has (σ : Ar) (p : Int) : Bool := decide (1 ≤ p) && decide (p ≤ σ.t)
def Ar.get (σ : Ar) (p : Int) : Int := if σ.has p then σ.ws.getD (p - 1).toNat 0 else 0
def Ar.op (σ : Ar) (kind p : Int) (wrote : Bool) (v : Int) : Ar := if σ.has p then σ.did kind p wrote (if wrote then σ.ws.set (p - 1).toNat v else σ.ws) else σ
theorem Ar.has_in {σ : Ar} {k : Nat} (h : k < σ.t) : σ.has ((k : Int) + 1) = true := by simp [Ar.has]; omega
theorem Ar.get_in {σ : Ar} {k : Nat} (h : k < σ.t) : σ.get ((k : Int) + 1) = σ.ws.getD k 0 := by
  unfold Ar.get
  rw [if_pos (Ar.has_in h), show ((k : Int) + 1 - 1).toNat = k by omega]
theorem Ar.op_in {σ : Ar} {k : Nat} (h : k < σ.t) (kind : Int) (wrote : Bool) (v : Int) : σ.op kind ((k : Int) + 1) wrote v = σ.did kind ((k : Int) + 1) wrote (if wrote then σ.ws.set k v else σ.ws) := by
  unfold Ar.op
  rw [if_pos (Ar.has_in h), show ((k : Int) + 1 - 1).toNat = k by omega]
theorem Ar.not_has {σ : Ar} {p : Int} (h : σ.has p = false) : p < 1 ∨ (σ.t : Int) < p := by
  simp [Ar.has] at h
  omega
theorem Ar.get_out {σ : Ar} {p : Int} (h : σ.has p = false) : σ.get p = 0 := by unfold Ar.get; rw [if_neg (by simp [h])]
theorem Ar.op_out {σ : Ar} {p : Int} (h : σ.has p = false) (kind : Int) (wrote : Bool) (v : Int) : σ.op kind p wrote v = σ := by unfold Ar.op; rw [if_neg (by simp [h])]
theorem Ar.cases (σ : Ar) (p : Int) : σ.has p = false ∨ ∃ k : Nat, k < σ.t ∧ p = (k : Int) + 1 := by
  cases h : σ.has p
  · exact .inl rfl
  · right
    simp [Ar.has] at h
    exact ⟨(p - 1).toNat, by omega, by omega⟩

theorem note_mod (g h : Nat) (kind p : Int) (wrote : Bool) (σ : Ar) (w : World) (H : ArAt w g h σ) (ho : σ.ops ≤ 1000000) :
    Calls Try.prog 74 #[.pointer (some ⟨g, 0, none⟩), .int .i64 kind, .int .i64 p, .bool wrote] w fun e w' => e = .returned (.tuple #[]) ∧ ArAt w' g h (σ.did kind p wrote σ.ws) ∧ Mod [g, h] w w' := by
  refine (note_any g h kind p wrote σ w H ho).mono ?_
  rintro e w' ⟨rfl, h1, rfl⟩
  exact ⟨rfl, h1, ((((Mod.refl _ _).setCell (by simp) _).setCell (by simp) _).setCell (by simp) _).setCell (by simp) _⟩


section
variable (g h : Nat) (σ : Ar) (w : World) (H : ArAt w g h σ) (ho : σ.ops ≤ 1000000)
include H ho
theorem load_in (k : Nat) (hkt : k < σ.t) : Calls Try.prog 80 #[.pointer (some ⟨g, 0, none⟩), .int .i64 ((k : Int) + 1)] w fun e w' => e = .returned (.int .i64 (σ.ws.getD k 0)) ∧ ArAt w' g h (σ.did 1 ((k : Int) + 1) false σ.ws) ∧ Mod [g, h] w w' := by
  have ho := Lib.hid ho
  have HH := Lib.hid H
  clear H
  go_enter Try.func80, Try.ntmps80
  go_wp2_with fail
  refine (word_in g h k σ _ HH.out hkt).mono ?_
  rintro e wx ⟨rfl, hwx⟩
  obtain rfl := hwx.symm
  go_wp2_with fail
  refine (note_mod g h 1 ((k : Int) + 1) false σ _ HH.out ho.out).mono ?_
  rintro e w1 ⟨rfl, H1, hm⟩
  obtain ⟨c, _, hk, fk, hne, _⟩ := H1.word k hkt
  simp only [Ar.did] at hk
  have HH1 := Lib.hid H1
  clear H1 hne
  go_wp2_with fail
  refine (i_load h k _ _ hk).mono ?_
  rintro e wx ⟨rfl, hwx⟩
  obtain rfl := hwx.symm
  go_wp2_with fail
  go_ret
  exact ⟨rfl, HH1.out, hm⟩
theorem store_in (k : Nat) (hkt : k < σ.t) (v : Int) : Calls Try.prog 43 #[.pointer (some ⟨g, 0, none⟩), .int .i64 ((k : Int) + 1), .int .i64 v] w fun e w' => e = .returned (.tuple #[]) ∧ ArAt w' g h (σ.did 2 ((k : Int) + 1) true (σ.ws.set k v)) ∧ Mod [g, h] w w' := by
  have ho := Lib.hid ho
  have HH := Lib.hid H
  clear H
  go_enter Try.func43, Try.ntmps43
  go_wp2_with fail
  refine (word_in g h k σ _ HH.out hkt).mono ?_
  rintro e wx ⟨rfl, hwx⟩
  obtain rfl := hwx.symm
  go_wp2_with fail
  refine (note_mod g h 2 ((k : Int) + 1) true σ _ HH.out ho.out).mono ?_
  rintro e w1 ⟨rfl, H1, hm⟩
  obtain ⟨c, _, hk, fk, hne, _⟩ := H1.word k hkt
  simp only [Ar.did] at hk
  have HH1 := Lib.hid H1
  clear H1 hne
  go_wp2_with fail
  refine (i_store h k _ v _ hk fk).mono ?_
  rintro e w2 ⟨rfl, hw2⟩
  have HF := Lib.hid (HH1.out.put k v hkt)
  have HM := hm.setCell (p := ⟨h, k, none⟩) (by simp) (.int .i64 v)
  rw [← hw2] at HF HM
  clear hw2
  go_wp2_with fail
  go_end0
  exact ⟨rfl, HF.out, HM⟩
theorem swap_in (k : Nat) (hkt : k < σ.t) (v : Int) : Calls Try.prog 79 #[.pointer (some ⟨g, 0, none⟩), .int .i64 ((k : Int) + 1), .int .i64 v] w fun e w' => e = .returned (.int .i64 (σ.ws.getD k 0)) ∧ ArAt w' g h (σ.did 3 ((k : Int) + 1) true (σ.ws.set k v)) ∧ Mod [g, h] w w' := by
  have ho := Lib.hid ho
  have HH := Lib.hid H
  clear H
  go_enter Try.func79, Try.ntmps79
  go_wp2_with fail
  refine (word_in g h k σ _ HH.out hkt).mono ?_
  rintro e wx ⟨rfl, hwx⟩
  obtain rfl := hwx.symm
  go_wp2_with fail
  refine (note_mod g h 3 ((k : Int) + 1) true σ _ HH.out ho.out).mono ?_
  rintro e w1 ⟨rfl, H1, hm⟩
  obtain ⟨c, _, hk, fk, hne, _⟩ := H1.word k hkt
  simp only [Ar.did] at hk
  have HH1 := Lib.hid H1
  clear H1 hne
  go_wp2_with fail
  refine (i_swap h k _ v _ hk fk).mono ?_
  rintro e w2 ⟨rfl, hw2⟩
  have HF := Lib.hid (HH1.out.put k v hkt)
  have HM := hm.setCell (p := ⟨h, k, none⟩) (by simp) (.int .i64 v)
  rw [← hw2] at HF HM
  clear hw2
  go_wp2_with fail
  go_ret
  exact ⟨rfl, HF.out, HM⟩
theorem add_in (k : Nat) (hkt : k < σ.t) (d : Int) : Calls Try.prog 69 #[.pointer (some ⟨g, 0, none⟩), .int .i64 ((k : Int) + 1), .int .i64 d] w fun e w' => e = .returned (.int .i64 (wrap64 (σ.ws.getD k 0 + d))) ∧ ArAt w' g h (σ.did 5 ((k : Int) + 1) true (σ.ws.set k (wrap64 (σ.ws.getD k 0 + d)))) ∧ Mod [g, h] w w' := by
  have ho := Lib.hid ho
  have HH := Lib.hid H
  clear H
  go_enter Try.func69, Try.ntmps69
  go_wp2_with fail
  refine (word_in g h k σ _ HH.out hkt).mono ?_
  rintro e wx ⟨rfl, hwx⟩
  obtain rfl := hwx.symm
  go_wp2_with fail
  refine (note_mod g h 5 ((k : Int) + 1) true σ _ HH.out ho.out).mono ?_
  rintro e w1 ⟨rfl, H1, hm⟩
  obtain ⟨c, _, hk, fk, hne, _⟩ := H1.word k hkt
  simp only [Ar.did] at hk
  have HH1 := Lib.hid H1
  clear H1 hne
  go_wp2_with fail
  refine (i_add h k _ d _ hk fk).mono ?_
  rintro e w2 ⟨rfl, hw2⟩
  have HF := Lib.hid (HH1.out.put k (wrap64 (σ.ws.getD k 0 + d)) hkt)
  have HM := hm.setCell (p := ⟨h, k, none⟩) (by simp) (.int .i64 (wrap64 (σ.ws.getD k 0 + d)))
  rw [← hw2] at HF HM
  clear hw2
  go_wp2_with fail
  go_ret
  exact ⟨rfl, HF.out, HM⟩
set_option maxRecDepth 100000 in
theorem cas_hit (k : Nat) (hkt : k < σ.t) (v : Int) : Calls Try.prog 90 #[.pointer (some ⟨g, 0, none⟩), .int .i64 ((k : Int) + 1), .int .i64 (σ.ws.getD k 0), .int .i64 v] w fun e w' => e = .returned (.bool true) ∧ ArAt w' g h (σ.did 4 ((k : Int) + 1) true (σ.ws.set k v)) ∧ Mod [g, h] w w' := by
  obtain ⟨c, _, hk, fk, hne, _⟩ := H.word k hkt
  generalize σ.ws.getD k 0 = x at hk ⊢
  have ho := Lib.hid ho
  have HH := Lib.hid H
  clear H
  go_enter Try.func90, Try.ntmps90
  go_wp2_with fail
  refine (word_in g h k σ _ HH.out hkt).mono ?_
  rintro e wx ⟨rfl, hwx⟩
  obtain rfl := hwx.symm
  go_wp2_with fail
  refine (i_cas_hit h k x w hk fk v).mono ?_
  rintro e w2 ⟨rfl, hw2⟩
  have HF := Lib.hid (HH.out.put k v hkt)
  have HM := (Mod.refl [g, h] w).setCell (p := ⟨h, k, none⟩) (by simp) (.int .i64 v)
  rw [← hw2] at HF HM
  clear hw2 hne
  go_wp2_with fail
  refine (note_mod g h 4 ((k : Int) + 1) true _ _ HF.out ho.out).mono ?_
  rintro e w1 ⟨rfl, H1, hm⟩
  have HH1 := Lib.hid H1
  clear H1
  go_wp2_with fail
  go_ret
  exact ⟨rfl, HH1.out, HM.trans hm⟩
set_option maxRecDepth 100000 in
theorem cas_miss (k : Nat) (hkt : k < σ.t) (old v : Int) (hne : σ.ws.getD k 0 ≠ old) : Calls Try.prog 90 #[.pointer (some ⟨g, 0, none⟩), .int .i64 ((k : Int) + 1), .int .i64 old, .int .i64 v] w fun e w' => e = .returned (.bool false) ∧ ArAt w' g h (σ.did 4 ((k : Int) + 1) false σ.ws) ∧ Mod [g, h] w w' := by
  obtain ⟨c, _, hk, fk, hn, _⟩ := H.word k hkt
  generalize σ.ws.getD k 0 = x at hk hne
  have ho := Lib.hid ho
  have HH := Lib.hid H
  clear H
  have HN := Lib.hid hne
  clear hne hn
  go_enter Try.func90, Try.ntmps90
  go_wp2_with fail
  refine (word_in g h k σ _ HH.out hkt).mono ?_
  rintro e wx ⟨rfl, hwx⟩
  obtain rfl := hwx.symm
  go_wp2_with fail
  refine (i_cas_miss h k x old w hk fk v HN.out).mono ?_
  rintro e wx ⟨rfl, hwx⟩
  obtain rfl := hwx.symm
  go_wp2_with fail
  refine (note_mod g h 4 ((k : Int) + 1) false _ _ HH.out ho.out).mono ?_
  rintro e w1 ⟨rfl, H1, hm⟩
  have HH1 := Lib.hid H1
  clear H1
  go_wp2_with fail
  go_ret
  exact ⟨rfl, HH1.out, hm⟩
end

/-! Of a word that is not there. -/
section
variable (g h : Nat) (σ : Ar) (w : World) (p : Int)
theorem load_no (q : Option Addr) (hw : Calls Try.prog 73 #[.pointer q, .int .i64 p] w fun e w' => e = .returned (.pointer none) ∧ w' = w) : Calls Try.prog 80 #[.pointer q, .int .i64 p] w fun e w' => e = .returned (.int .i64 0) ∧ w' = w := by
  have HW := Lib.hid hw
  clear hw
  go_enter Try.func80, Try.ntmps80
  go_wp2_with fail
  refine (HW.out).mono ?_
  rintro e wx ⟨rfl, hwx⟩
  obtain rfl := hwx.symm
  go_wp2_with fail
  go_ret
  exact ⟨rfl, rfl⟩
theorem store_no (q : Option Addr) (v : Int) (hw : Calls Try.prog 73 #[.pointer q, .int .i64 p] w fun e w' => e = .returned (.pointer none) ∧ w' = w) : Calls Try.prog 43 #[.pointer q, .int .i64 p, .int .i64 v] w fun e w' => e = .returned (.tuple #[]) ∧ w' = w := by
  have HW := Lib.hid hw
  clear hw
  go_enter Try.func43, Try.ntmps43
  go_wp2_with fail
  refine (HW.out).mono ?_
  rintro e wx ⟨rfl, hwx⟩
  obtain rfl := hwx.symm
  go_wp2_with fail
  go_end0
  exact ⟨rfl, rfl⟩
theorem swap_no (q : Option Addr) (v : Int) (hw : Calls Try.prog 73 #[.pointer q, .int .i64 p] w fun e w' => e = .returned (.pointer none) ∧ w' = w) : Calls Try.prog 79 #[.pointer q, .int .i64 p, .int .i64 v] w fun e w' => e = .returned (.int .i64 0) ∧ w' = w := by
  have HW := Lib.hid hw
  clear hw
  go_enter Try.func79, Try.ntmps79
  go_wp2_with fail
  refine (HW.out).mono ?_
  rintro e wx ⟨rfl, hwx⟩
  obtain rfl := hwx.symm
  go_wp2_with fail
  go_ret
  exact ⟨rfl, rfl⟩
theorem add_no (q : Option Addr) (v : Int) (hw : Calls Try.prog 73 #[.pointer q, .int .i64 p] w fun e w' => e = .returned (.pointer none) ∧ w' = w) : Calls Try.prog 69 #[.pointer q, .int .i64 p, .int .i64 v] w fun e w' => e = .returned (.int .i64 0) ∧ w' = w := by
  have HW := Lib.hid hw
  clear hw
  go_enter Try.func69, Try.ntmps69
  go_wp2_with fail
  refine (HW.out).mono ?_
  rintro e wx ⟨rfl, hwx⟩
  obtain rfl := hwx.symm
  go_wp2_with fail
  go_ret
  exact ⟨rfl, rfl⟩
theorem cas_no (q : Option Addr) (v u : Int) (hw : Calls Try.prog 73 #[.pointer q, .int .i64 p] w fun e w' => e = .returned (.pointer none) ∧ w' = w) : Calls Try.prog 90 #[.pointer q, .int .i64 p, .int .i64 u, .int .i64 v] w fun e w' => e = .returned (.bool false) ∧ w' = w := by
  have HW := Lib.hid hw
  clear hw
  go_enter Try.func90, Try.ntmps90
  go_wp2_with fail
  refine (HW.out).mono ?_
  rintro e wx ⟨rfl, hwx⟩
  obtain rfl := hwx.symm
  go_wp2_with fail
  go_ret
  exact ⟨rfl, rfl⟩
end

/-! Whatever the word. -/
section
variable (g h : Nat) (σ : Ar) (w : World) (H : ArAt w g h σ) (ho : σ.ops ≤ 1000000) (p : Int)
include H ho
theorem load_any : Calls Try.prog 80 #[.pointer (some ⟨g, 0, none⟩), .int .i64 p] w fun e w' => e = .returned (.int .i64 (σ.get p)) ∧ ArAt w' g h (σ.op 1 p false 0) ∧ Mod [g, h] w w' := by
  rcases σ.cases p with hh | ⟨k, hk, rfl⟩
  · rw [Ar.get_out hh, Ar.op_out hh]
    exact (load_no w p _ (word_out g h p σ w H (Ar.not_has hh))).mono fun e w' ⟨h1, h2⟩ => ⟨h1, by rw [h2]; exact H, by rw [h2]; exact Mod.refl _ _⟩
  · rw [Ar.get_in hk, Ar.op_in hk]
    exact load_in g h σ w H ho k hk
theorem store_any (v : Int) : Calls Try.prog 43 #[.pointer (some ⟨g, 0, none⟩), .int .i64 p, .int .i64 v] w fun e w' => e = .returned (.tuple #[]) ∧ ArAt w' g h (σ.op 2 p true v) ∧ Mod [g, h] w w' := by
  rcases σ.cases p with hh | ⟨k, hk, rfl⟩
  · rw [Ar.op_out hh]
    exact (store_no w p _ v (word_out g h p σ w H (Ar.not_has hh))).mono fun e w' ⟨h1, h2⟩ => ⟨h1, by rw [h2]; exact H, by rw [h2]; exact Mod.refl _ _⟩
  · rw [Ar.op_in hk]
    exact store_in g h σ w H ho k hk v
theorem swap_any (v : Int) : Calls Try.prog 79 #[.pointer (some ⟨g, 0, none⟩), .int .i64 p, .int .i64 v] w fun e w' => e = .returned (.int .i64 (σ.get p)) ∧ ArAt w' g h (σ.op 3 p true v) ∧ Mod [g, h] w w' := by
  rcases σ.cases p with hh | ⟨k, hk, rfl⟩
  · rw [Ar.get_out hh, Ar.op_out hh]
    exact (swap_no w p _ v (word_out g h p σ w H (Ar.not_has hh))).mono fun e w' ⟨h1, h2⟩ => ⟨h1, by rw [h2]; exact H, by rw [h2]; exact Mod.refl _ _⟩
  · rw [Ar.get_in hk, Ar.op_in hk]
    exact swap_in g h σ w H ho k hk v
theorem add_any (d : Int) : Calls Try.prog 69 #[.pointer (some ⟨g, 0, none⟩), .int .i64 p, .int .i64 d] w fun e w' => e = .returned (.int .i64 (if σ.has p then wrap64 (σ.get p + d) else 0)) ∧ ArAt w' g h (σ.op 5 p true (wrap64 (σ.get p + d))) ∧ Mod [g, h] w w' := by
  rcases σ.cases p with hh | ⟨k, hk, rfl⟩
  · rw [Ar.op_out hh, if_neg (by simp [hh])]
    exact (add_no w p _ d (word_out g h p σ w H (Ar.not_has hh))).mono fun e w' ⟨h1, h2⟩ => ⟨h1, by rw [h2]; exact H, by rw [h2]; exact Mod.refl _ _⟩
  · rw [if_pos (Ar.has_in hk), Ar.get_in hk, Ar.op_in hk]
    exact add_in g h σ w H ho k hk d
theorem cas_any (old v : Int) : Calls Try.prog 90 #[.pointer (some ⟨g, 0, none⟩), .int .i64 p, .int .i64 old, .int .i64 v] w fun e w' => e = .returned (.bool (σ.has p && (σ.get p == old))) ∧ ArAt w' g h (σ.op 4 p (σ.has p && (σ.get p == old)) v) ∧ Mod [g, h] w w' := by
  rcases σ.cases p with hh | ⟨k, hk, rfl⟩
  · rw [Ar.op_out hh, hh]
    exact (cas_no w p _ v old (word_out g h p σ w H (Ar.not_has hh))).mono fun e w' ⟨h1, h2⟩ => ⟨h1, by rw [h2]; exact H, by rw [h2]; exact Mod.refl _ _⟩
  · rw [Ar.has_in hk, Ar.get_in hk, Ar.op_in hk, Bool.true_and]
    by_cases he : σ.ws.getD k 0 = old
    · subst he
      rw [beq_self_eq_true]
      exact cas_hit g h σ w H ho k hk v
    · rw [beq_eq_false_iff_ne.2 he]
      exact cas_miss g h σ w H ho k hk old v he
end
end Go.Proofs.Ythffhhgaeolpgaa.Ara
