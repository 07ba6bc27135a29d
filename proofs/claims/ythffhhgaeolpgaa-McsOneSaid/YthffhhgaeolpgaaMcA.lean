/- Layer 18's law: awake. -/
import Derived.Test.YthffhhgaeolpgaaMcI
namespace Go.Proofs.Ythffhhgaeolpgaa.Mc
open Go.RowKit Go.Proofs.Ythffhhgaeolpgaa.Ara Go.Proofs.Ythffhhgaeolpgaa.Lok

section
variable {gl ga ha hs : Nat} {P : Par} {σ : Ar} {sp : List Sp} {w : World} (H : LkAt w gl ga ha hs P σ sp)
include H
theorem ask_at (i : Int) (r : Bool) (x : Ar × List Sp) (h : (turnB sp i 0, σ, turnS sp i 0 1) = (r, x)) : Calls Try.prog 54 #[.pointer (some ⟨gl, 0, none⟩), .int .i64 i] w fun e w' => e = .returned (.bool r) ∧ LkAt w' gl ga ha hs P x.1 x.2 ∧ Mod [ga, ha, hs] w w' := by
  have := Ask_lk gl ga ha hs P σ sp w H i
  injection h with h1 h2
  subst h2
  rw [h1] at this
  exact this.mono fun e w' ⟨a, b, c⟩ => ⟨a, b, c.sub (by simp)⟩
theorem leave_at (i : Int) (r : Bool) (x : Ar × List Sp) (h : (turnB sp i 10, σ, turnS sp i 10 11) = (r, x)) : Calls Try.prog 57 #[.pointer (some ⟨gl, 0, none⟩), .int .i64 i] w fun e w' => e = .returned (.bool r) ∧ LkAt w' gl ga ha hs P x.1 x.2 ∧ Mod [ga, ha, hs] w w' := by
  have := Leave_lk gl ga ha hs P σ sp w H i
  injection h with h1 h2
  subst h2
  rw [h1] at this
  exact this.mono fun e w' ⟨a, b, c⟩ => ⟨a, b, c.sub (by simp)⟩
theorem step_at (hN : Num P σ sp) (i : Int) (r : Bool) (x : Ar × List Sp) (h : stepP P σ sp i = (r, x)) : Calls Try.prog 55 #[.pointer (some ⟨gl, 0, none⟩), .int .i64 i] w fun e w' => e = .returned (.bool r) ∧ LkAt w' gl ga ha hs P x.1 x.2 ∧ Mod [ga, ha, hs] w w' := by
  have := step_lk gl ga ha hs P σ sp w H hN i
  rw [h] at this
  exact this
end

theorem new_bad (q : Option Addr) (w : World) : Calls Try.prog 26 #[.pointer q, .int .i64 0] w fun e w' => e = .returned (.tuple #[.pointer none, .int .i64 1]) ∧ w' = w := by
  go_enter Try.func26, Try.ntmps26
  go_wp2_with fail
  go_ret2
  exact ⟨rfl, by trivial⟩
theorem alone_at {gl ga ha hs : Nat} {P : Par} {σ : Ar} {sp : List Sp} {w : World} (H : LkAt w gl ga ha hs P σ sp) (hN : Num P σ sp) (i : Int) (r : Bool) (x : Ar × List Sp) (h : ((aloneP P σ sp i).1, (aloneP P σ sp i).2, sp) = (r, x)) : Calls Try.prog 56 #[.pointer (some ⟨gl, 0, none⟩), .int .i64 i] w fun e w' => e = .returned (.bool r) ∧ LkAt w' gl ga ha hs P x.1 x.2 ∧ Mod [ga, ha, hs] w w' := by
  have := alone_lk gl ga ha hs P σ sp w H hN i
  injection h with h1 h2
  subst h2
  rw [h1] at this
  exact this.mono fun e w' ⟨a, b, c⟩ => ⟨a, b, c.sub (by simp)⟩

set_option maxHeartbeats 8000000 in
set_option maxRecDepth 100000 in
theorem awake_lk (w : World) : Calls Try.prog 25 #[] w fun e w' => e = .returned (.bool true) ∧ Below w.heap.size w w' := by
  have q1 := fun a b c d W => sfld0 a b c d W
  have q2 := fun a b c d W => eqSp a b c d W
  have q3 := fun x y xs ys W => eqGSp x y xs ys W
  go_enter Try.func25, Try.ntmps25
  go_wp2_with fail
  refine (new_at 9 _ _ rfl).mono ?_
  rintro e w1 ⟨rfl, hat⟩
  have HN : Calls Try.prog 26 #[.pointer (some ⟨w.heap.size + 1, 0, none⟩), .int .i64 2] w1 fun e w' => ∃ gl hs, e = .returned (.tuple #[.pointer (some ⟨gl, 0, none⟩), .int .i64 0]) ∧ LkAt w' gl (w.heap.size + 1) w.heap.size hs ⟨1⟩ (⟨[0, 0, 0, 0, 0, 0, 0, 0, 0], 5, 0, 0, 0, false⟩ : Ar) ([⟨0, 0, 0, 0⟩, ⟨0, 0, 0, 0⟩] : List Sp) ∧ w1.heap.size ≤ gl ∧ w1.heap.size ≤ hs ∧ Mod [w.heap.size + 1, w.heap.size] w1 w' := new_lk (w.heap.size + 1) w.heap.size (Ar.fresh (room 9)) ⟨[0, 0, 0, 0, 0, 0, 0, 0, 0], 5, 0, 0, 0, false⟩ w1 hat.1 (by have := hat.2.1; omega) 2 (by omega) (by omega) 1 (by omega) (by omega) rfl (by decide)
  have HN := Lib.hid HN
  go_wp2_with fail
  refine HN.out.mono ?_
  rintro e wn ⟨gl, hs, rfl, hk, hgl, hhs, hmn⟩
  have hgl : w.heap.size ≤ gl := by have := hat.2.1; omega
  have hhs : w.heap.size ≤ hs := by have := hat.2.1; omega
  have HB := Lib.hid (hat.2.2.trans (hmn.below (by have := hat.2.1; omega) (by simp)))
  have HK := Lib.hid hk
  clear hk hmn HN hat
  go_wp2_with fail
  have HC := Lib.hid (ask_at HK.out 1 true (⟨[0, 0, 0, 0, 0, 0, 0, 0, 0], 5, 0, 0, 0, false⟩, [⟨0, 0, 0, 0⟩, ⟨1, 0, 0, 0⟩]) rfl)
  refine HC.out.mono ?_
  rintro e wn ⟨rfl, hk, hmn⟩
  have HB := Lib.hid (HB.out.trans (hmn.below (by have := HK.out.2.1.lt; omega) (by simp; omega)))
  have HK := Lib.hid hk
  clear hk hmn HC
  go_wp2_with fail
  have HC := Lib.hid (step_at HK.out (by first | (unfold Num POk SOk; decide +kernel) | (unfold Num pcOk; decide +kernel) | (unfold Num; decide +kernel)) 1 false (⟨[0, 0, 0, 0, 0, 0, 0, 0, 0], 5, 1, 2, 4, true⟩, [⟨0, 0, 0, 0⟩, ⟨2, 0, 0, 0⟩]) rfl)
  refine HC.out.mono ?_
  rintro e wn ⟨rfl, hk, hmn⟩
  have HB := Lib.hid (HB.out.trans (hmn.below (by have := HK.out.2.1.lt; omega) (by simp; omega)))
  have HK := Lib.hid hk
  clear hk hmn HC
  go_wp2_with fail
  have HC := Lib.hid (step_at HK.out (by first | (unfold Num POk SOk; decide +kernel) | (unfold Num pcOk; decide +kernel) | (unfold Num; decide +kernel)) 1 false (⟨[0, 0, 0, 0, 1, 0, 0, 0, 0], 5, 2, 2, 5, true⟩, [⟨0, 0, 0, 0⟩, ⟨3, 0, 0, 0⟩]) rfl)
  refine HC.out.mono ?_
  rintro e wn ⟨rfl, hk, hmn⟩
  have HB := Lib.hid (HB.out.trans (hmn.below (by have := HK.out.2.1.lt; omega) (by simp; omega)))
  have HK := Lib.hid hk
  clear hk hmn HC
  go_wp2_with fail
  have HC := Lib.hid (step_at HK.out (by first | (unfold Num POk SOk; decide +kernel) | (unfold Num pcOk; decide +kernel) | (unfold Num; decide +kernel)) 1 true (⟨[2, 0, 0, 0, 1, 0, 0, 0, 0], 5, 3, 3, 1, true⟩, [⟨0, 0, 0, 0⟩, ⟨10, 0, 0, 0⟩]) rfl)
  refine HC.out.mono ?_
  rintro e wn ⟨rfl, hk, hmn⟩
  have HB := Lib.hid (HB.out.trans (hmn.below (by have := HK.out.2.1.lt; omega) (by simp; omega)))
  have HK := Lib.hid hk
  clear hk hmn HC
  go_wp2_with fail
  have HC := Lib.hid (alone_at HK.out (by first | (unfold Num POk SOk; decide +kernel) | (unfold Num pcOk; decide +kernel) | (unfold Num; decide +kernel)) 1 true (⟨[2, 0, 0, 0, 1, 0, 0, 0, 0], 5, 4, 1, 4, false⟩, [⟨0, 0, 0, 0⟩, ⟨10, 0, 0, 0⟩]) rfl)
  refine HC.out.mono ?_
  rintro e wn ⟨rfl, hk, hmn⟩
  have HB := Lib.hid (HB.out.trans (hmn.below (by have := HK.out.2.1.lt; omega) (by simp; omega)))
  have HK := Lib.hid hk
  clear hk hmn HC
  go_wp2_with fail
  have HC := Lib.hid (ask_at HK.out 0 true (⟨[2, 0, 0, 0, 1, 0, 0, 0, 0], 5, 4, 1, 4, false⟩, [⟨1, 0, 0, 0⟩, ⟨10, 0, 0, 0⟩]) rfl)
  refine HC.out.mono ?_
  rintro e wn ⟨rfl, hk, hmn⟩
  have HB := Lib.hid (HB.out.trans (hmn.below (by have := HK.out.2.1.lt; omega) (by simp; omega)))
  have HK := Lib.hid hk
  clear hk hmn HC
  go_wp2_with fail
  have HC := Lib.hid (step_at HK.out (by first | (unfold Num POk SOk; decide +kernel) | (unfold Num pcOk; decide +kernel) | (unfold Num; decide +kernel)) 0 false (⟨[2, 0, 0, 0, 1, 0, 0, 0, 0], 5, 5, 2, 2, true⟩, [⟨2, 0, 0, 0⟩, ⟨10, 0, 0, 0⟩]) rfl)
  refine HC.out.mono ?_
  rintro e wn ⟨rfl, hk, hmn⟩
  have HB := Lib.hid (HB.out.trans (hmn.below (by have := HK.out.2.1.lt; omega) (by simp; omega)))
  have HK := Lib.hid hk
  clear hk hmn HC
  go_wp2_with fail
  have HC := Lib.hid (step_at HK.out (by first | (unfold Num POk SOk; decide +kernel) | (unfold Num pcOk; decide +kernel) | (unfold Num; decide +kernel)) 0 false (⟨[2, 0, 1, 0, 1, 0, 0, 0, 0], 5, 6, 2, 3, true⟩, [⟨3, 0, 0, 0⟩, ⟨10, 0, 0, 0⟩]) rfl)
  refine HC.out.mono ?_
  rintro e wn ⟨rfl, hk, hmn⟩
  have HB := Lib.hid (HB.out.trans (hmn.below (by have := HK.out.2.1.lt; omega) (by simp; omega)))
  have HK := Lib.hid hk
  clear hk hmn HC
  go_wp2_with fail
  have HC := Lib.hid (step_at HK.out (by first | (unfold Num POk SOk; decide +kernel) | (unfold Num pcOk; decide +kernel) | (unfold Num; decide +kernel)) 0 false (⟨[1, 0, 1, 0, 1, 0, 0, 0, 0], 5, 7, 3, 1, true⟩, [⟨4, 2, 0, 0⟩, ⟨10, 0, 0, 0⟩]) rfl)
  refine HC.out.mono ?_
  rintro e wn ⟨rfl, hk, hmn⟩
  have HB := Lib.hid (HB.out.trans (hmn.below (by have := HK.out.2.1.lt; omega) (by simp; omega)))
  have HK := Lib.hid hk
  clear hk hmn HC
  go_wp2_with fail
  have HC := Lib.hid (alone_at HK.out (by first | (unfold Num POk SOk; decide +kernel) | (unfold Num pcOk; decide +kernel) | (unfold Num; decide +kernel)) 1 true (⟨[1, 0, 1, 0, 1, 0, 0, 0, 0], 5, 8, 1, 4, false⟩, [⟨4, 2, 0, 0⟩, ⟨10, 0, 0, 0⟩]) rfl)
  refine HC.out.mono ?_
  rintro e wn ⟨rfl, hk, hmn⟩
  have HB := Lib.hid (HB.out.trans (hmn.below (by have := HK.out.2.1.lt; omega) (by simp; omega)))
  have HK := Lib.hid hk
  clear hk hmn HC
  go_wp2_with fail
  have HC := Lib.hid (step_at HK.out (by first | (unfold Num POk SOk; decide +kernel) | (unfold Num pcOk; decide +kernel) | (unfold Num; decide +kernel)) 0 false (⟨[1, 0, 1, 1, 1, 0, 0, 0, 0], 5, 9, 2, 4, true⟩, [⟨5, 2, 0, 0⟩, ⟨10, 0, 0, 0⟩]) rfl)
  refine HC.out.mono ?_
  rintro e wn ⟨rfl, hk, hmn⟩
  have HB := Lib.hid (HB.out.trans (hmn.below (by have := HK.out.2.1.lt; omega) (by simp; omega)))
  have HK := Lib.hid hk
  clear hk hmn HC
  go_wp2_with fail
  have HC := Lib.hid (alone_at HK.out (by first | (unfold Num POk SOk; decide +kernel) | (unfold Num pcOk; decide +kernel) | (unfold Num; decide +kernel)) 1 false (⟨[1, 0, 1, 1, 1, 0, 0, 0, 0], 5, 10, 1, 4, false⟩, [⟨5, 2, 0, 0⟩, ⟨10, 0, 0, 0⟩]) rfl)
  refine HC.out.mono ?_
  rintro e wn ⟨rfl, hk, hmn⟩
  have HB := Lib.hid (HB.out.trans (hmn.below (by have := HK.out.2.1.lt; omega) (by simp; omega)))
  have HK := Lib.hid hk
  clear hk hmn HC
  go_wp2_with fail
  have HC : Calls Try.prog 27 #[.pointer (some ⟨gl, 0, none⟩), .int .i64 0] _ fun e w' => e = .returned (.agg #[.int .i64 5, .int .i64 2, .int .i64 0, .int .i64 0]) ∧ Below _ _ w' := Spot_lk _ _ _ _ _ _ _ _ HK.out 0
  refine HC.mono ?_
  rintro e wn ⟨rfl, hbn⟩
  clear HC
  have HB := Lib.hid (HB.out.trans (hbn.mono (by have := HK.out.2.1.lt; omega)))
  have HK := Lib.hid (HK.out.same hbn)
  clear hbn
  go_wp2_with fail
  have HC := Lib.hid (step_at HK.out (by first | (unfold Num POk SOk; decide +kernel) | (unfold Num pcOk; decide +kernel) | (unfold Num; decide +kernel)) 0 false (⟨[1, 0, 1, 1, 1, 0, 0, 0, 0], 5, 11, 1, 3, false⟩, [⟨5, 2, 0, 0⟩, ⟨10, 0, 0, 0⟩]) rfl)
  refine HC.out.mono ?_
  rintro e wn ⟨rfl, hk, hmn⟩
  have HB := Lib.hid (HB.out.trans (hmn.below (by have := HK.out.2.1.lt; omega) (by simp; omega)))
  have HK := Lib.hid hk
  clear hk hmn HC
  go_wp2_with fail
  have HC := Lib.hid (leave_at HK.out 1 true (⟨[1, 0, 1, 1, 1, 0, 0, 0, 0], 5, 11, 1, 3, false⟩, [⟨5, 2, 0, 0⟩, ⟨11, 0, 0, 0⟩]) rfl)
  refine HC.out.mono ?_
  rintro e wn ⟨rfl, hk, hmn⟩
  have HB := Lib.hid (HB.out.trans (hmn.below (by have := HK.out.2.1.lt; omega) (by simp; omega)))
  have HK := Lib.hid hk
  clear hk hmn HC
  go_wp2_with fail
  have HC := Lib.hid (step_at HK.out (by first | (unfold Num POk SOk; decide +kernel) | (unfold Num pcOk; decide +kernel) | (unfold Num; decide +kernel)) 1 false (⟨[1, 0, 1, 1, 1, 0, 0, 0, 0], 5, 12, 1, 4, false⟩, [⟨5, 2, 0, 0⟩, ⟨14, 1, 0, 0⟩]) rfl)
  refine HC.out.mono ?_
  rintro e wn ⟨rfl, hk, hmn⟩
  have HB := Lib.hid (HB.out.trans (hmn.below (by have := HK.out.2.1.lt; omega) (by simp; omega)))
  have HK := Lib.hid hk
  clear hk hmn HC
  go_wp2_with fail
  have HC := Lib.hid (step_at HK.out (by first | (unfold Num POk SOk; decide +kernel) | (unfold Num pcOk; decide +kernel) | (unfold Num; decide +kernel)) 1 true (⟨[1, 0, 0, 1, 1, 0, 0, 0, 0], 5, 13, 2, 3, true⟩, [⟨5, 2, 0, 0⟩, ⟨0, 1, 0, 0⟩]) rfl)
  refine HC.out.mono ?_
  rintro e wn ⟨rfl, hk, hmn⟩
  have HB := Lib.hid (HB.out.trans (hmn.below (by have := HK.out.2.1.lt; omega) (by simp; omega)))
  have HK := Lib.hid hk
  clear hk hmn HC
  go_wp2_with fail
  have HC := Lib.hid (step_at HK.out (by first | (unfold Num POk SOk; decide +kernel) | (unfold Num pcOk; decide +kernel) | (unfold Num; decide +kernel)) 0 true (⟨[1, 0, 0, 1, 1, 0, 0, 0, 0], 5, 14, 1, 3, false⟩, [⟨10, 2, 0, 0⟩, ⟨0, 1, 0, 0⟩]) rfl)
  refine HC.out.mono ?_
  rintro e wn ⟨rfl, hk, hmn⟩
  have HB := Lib.hid (HB.out.trans (hmn.below (by have := HK.out.2.1.lt; omega) (by simp; omega)))
  have HK := Lib.hid hk
  clear hk hmn HC
  go_wp2_with fail
  refine (new_bad _ _).mono ?_
  rintro e wx ⟨rfl, hwx⟩
  obtain rfl := hwx.symm
  go_wp2_with fail
  have HC : Calls Try.prog 27 #[.pointer (some ⟨gl, 0, none⟩), .int .i64 0] _ fun e w' => e = .returned (.agg #[.int .i64 10, .int .i64 2, .int .i64 0, .int .i64 0]) ∧ Below _ _ w' := Spot_lk _ _ _ _ _ _ _ _ HK.out 0
  refine HC.mono ?_
  rintro e wn ⟨rfl, hbn⟩
  clear HC
  have HB := Lib.hid (HB.out.trans (hbn.mono (by have := HK.out.2.1.lt; omega)))
  have HK := Lib.hid (HK.out.same hbn)
  clear hbn
  go_wp2_with fail
  have HC : Calls Try.prog 27 #[.pointer (some ⟨gl, 0, none⟩), .int .i64 1] _ fun e w' => e = .returned (.agg #[.int .i64 0, .int .i64 1, .int .i64 0, .int .i64 0]) ∧ Below _ _ w' := Spot_lk _ _ _ _ _ _ _ _ HK.out 1
  refine HC.mono ?_
  rintro e wn ⟨rfl, hbn⟩
  clear HC
  have HB := Lib.hid (HB.out.trans (hbn.mono (by have := HK.out.2.1.lt; omega)))
  have HK := Lib.hid (HK.out.same hbn)
  clear hbn
  go_wp2_with fail
  have HC : Calls Try.prog 17 #[.pointer (some ⟨w.heap.size + 1, 0, none⟩)] _ fun e w' => ∃ A c, e = .returned (.slice A 5 c) ∧ Sl w' w'.heap.size A (([1, 0, 0, 1, 1] : List Int).flatMap decI) ∧ Below _ _ w' := words_ar _ _ _ _ HK.out.1
  refine HC.mono ?_
  rintro e wn ⟨Aw, cw, rfl, hsw, hbn⟩
  have HSw := Lib.hid hsw
  clear hsw HC
  have HB := Lib.hid (HB.out.trans (hbn.mono (by have := HK.out.2.1.lt; omega)))
  have HK := Lib.hid (HK.out.same hbn)
  clear hbn
  go_wp2_with fail
  refine (same_tt [1, 0, 0, 1, 1] _ _ _ _ 5 _ rfl (by omega) (HSw.out.push _) (Sl.made _ _ _)).mono ?_
  rintro e wm ⟨rfl, hbm⟩
  have hbn := (below_new _ _).trans (hbm.mono (by simp))
  have HB := Lib.hid (HB.out.trans (hbn.mono (by have := HK.out.2.1.lt; omega)))
  have HK := Lib.hid (HK.out.same hbn)
  clear hbn
  go_wp2_with fail
  refine (slots_lk _ _ _ _ _ _ _ _ HK.out).mono ?_
  rintro e wx ⟨rfl, hwx⟩
  obtain rfl := hwx.symm
  go_wp2_with fail
  go_ret
  exact ⟨rfl, HB.out⟩
end Go.Proofs.Ythffhhgaeolpgaa.Mc
