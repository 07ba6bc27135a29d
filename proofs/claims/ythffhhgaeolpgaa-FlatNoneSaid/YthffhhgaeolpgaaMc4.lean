/- Layer 18's law: do. -/
import Derived.Test.YthffhhgaeolpgaaMc3
namespace Go.Proofs.Ythffhhgaeolpgaa.Mc
open Go.RowKit Go.Proofs.Ythffhhgaeolpgaa.Ara Go.Proofs.Ythffhhgaeolpgaa.Lok

section
variable (gl ga ha hs : Nat) (P : Par) (σ : Ar) (sp : List Sp) (w : World) (H : LkAt w gl ga ha hs P σ sp) (hN : Num P σ sp)
include H hN
set_option maxHeartbeats 4000000 in
set_option maxRecDepth 100000 in
theorem do_lk (kd i : Int) : Calls Try.prog 28 #[.pointer (some ⟨gl, 0, none⟩), .agg #[.int .i64 kd, .int .i64 i]] w fun e w' => e = .returned (.bool (doP P σ sp kd i).1) ∧ LkAt w' gl ga ha hs P (doP P σ sp kd i).2.1 (doP P σ sp kd i).2.2 ∧ Mod [ga, ha, hs] w w' := by
  have D : ∀ (kd : Int) (r : Bool × Ar × List Sp), doP P σ sp kd i = r → (Calls Try.prog 28 #[.pointer (some ⟨gl, 0, none⟩), .agg #[.int .i64 kd, .int .i64 i]] w fun e w' => e = .returned (.bool r.1) ∧ LkAt w' gl ga ha hs P r.2.1 r.2.2 ∧ Mod [ga, ha, hs] w w') →
      Calls Try.prog 28 #[.pointer (some ⟨gl, 0, none⟩), .agg #[.int .i64 kd, .int .i64 i]] w fun e w' => e = .returned (.bool (doP P σ sp kd i).1) ∧ LkAt w' gl ga ha hs P (doP P σ sp kd i).2.1 (doP P σ sp kd i).2.2 ∧ Mod [ga, ha, hs] w w' := by
    intro kd r e h
    rw [e]
    exact h
  by_cases hk : kd < 0 ∨ 3 < kd
  · refine D kd (false, σ, sp) (by unfold doP; rw [if_neg (by omega), if_neg (by omega), if_neg (by omega), if_neg (by omega)]) ?_
    have k0 := ibeq_no (show ¬ kd = 0 by omega)
    have k1 := ibeq_no (show ¬ kd = 1 by omega)
    have k2 := ibeq_no (show ¬ kd = 2 by omega)
    have k3 := ibeq_no (show ¬ kd = 3 by omega)
    have HH := Lib.hid (H.same (below_new w (.cells #[.int .i64 kd, .int .i64 i] 34)))
    have HB := Lib.hid (Mod.of_below (S := [ga, ha, hs]) (below_new w (.cells #[.int .i64 kd, .int .i64 i] 34)))
    clear H hk D
    go_enter Try.func28, Try.ntmps28
    go_wp2_with fail
    go_ret
    exact ⟨rfl, HH.out, HB.out⟩
  rcases (show kd = 0 ∨ kd = 1 ∨ kd = 2 ∨ kd = 3 by omega) with rfl | rfl | rfl | rfl
  · refine D 0 ((stepP P σ sp i).1, (stepP P σ sp i).2.1, (stepP P σ sp i).2.2) rfl ?_
    have HC := Lib.hid (fun W (K : LkAt W gl ga ha hs P σ sp) => step_lk gl ga ha hs P σ sp W K hN i)
    have HH := Lib.hid (H.same (below_new w (.cells #[.int .i64 0, .int .i64 i] 34)))
    have HB := Lib.hid (Mod.of_below (S := [ga, ha, hs]) (below_new w (.cells #[.int .i64 0, .int .i64 i] 34)))
    clear H D hk hN
    (generalize (stepP P σ sp i).1 = b at *; generalize (stepP P σ sp i).2.1 = σ2 at *; generalize (stepP P σ sp i).2.2 = sp2 at *)
    go_enter Try.func28, Try.ntmps28
    go_wp2_with fail
    refine (HC.out _ HH.out).mono ?_
    rintro e w2 ⟨rfl, h2, hm2⟩
    have H2 := Lib.hid h2
    clear h2
    go_wp2_with fail
    go_ret
    exact ⟨rfl, H2.out, HB.out.trans (hm2.sub (by simp))⟩
  · refine D 1 (turnB sp i 0, σ, turnS sp i 0 1) rfl ?_
    have HC := Lib.hid (fun W (K : LkAt W gl ga ha hs P σ sp) => Ask_lk gl ga ha hs P σ sp W K i)
    have HH := Lib.hid (H.same (below_new w (.cells #[.int .i64 1, .int .i64 i] 34)))
    have HB := Lib.hid (Mod.of_below (S := [ga, ha, hs]) (below_new w (.cells #[.int .i64 1, .int .i64 i] 34)))
    clear H D hk hN
    (generalize turnB sp i 0 = b at *; generalize turnS sp i 0 1 = sp2 at *)
    go_enter Try.func28, Try.ntmps28
    go_wp2_with fail
    refine (HC.out _ HH.out).mono ?_
    rintro e w2 ⟨rfl, h2, hm2⟩
    have H2 := Lib.hid h2
    clear h2
    go_wp2_with fail
    go_ret
    exact ⟨rfl, H2.out, HB.out.trans (hm2.sub (by simp))⟩
  · refine D 2 (turnB sp i 10, σ, turnS sp i 10 11) rfl ?_
    have HC := Lib.hid (fun W (K : LkAt W gl ga ha hs P σ sp) => Leave_lk gl ga ha hs P σ sp W K i)
    have HH := Lib.hid (H.same (below_new w (.cells #[.int .i64 2, .int .i64 i] 34)))
    have HB := Lib.hid (Mod.of_below (S := [ga, ha, hs]) (below_new w (.cells #[.int .i64 2, .int .i64 i] 34)))
    clear H D hk hN
    (generalize turnB sp i 10 = b at *; generalize turnS sp i 10 11 = sp2 at *)
    go_enter Try.func28, Try.ntmps28
    go_wp2_with fail
    refine (HC.out _ HH.out).mono ?_
    rintro e w2 ⟨rfl, h2, hm2⟩
    have H2 := Lib.hid h2
    clear h2
    go_wp2_with fail
    go_ret
    exact ⟨rfl, H2.out, HB.out.trans (hm2.sub (by simp))⟩
  · refine D 3 ((aloneP P σ sp i).1, (aloneP P σ sp i).2, sp) rfl ?_
    have HC := Lib.hid (fun W (K : LkAt W gl ga ha hs P σ sp) => alone_lk gl ga ha hs P σ sp W K hN i)
    have HH := Lib.hid (H.same (below_new w (.cells #[.int .i64 3, .int .i64 i] 34)))
    have HB := Lib.hid (Mod.of_below (S := [ga, ha, hs]) (below_new w (.cells #[.int .i64 3, .int .i64 i] 34)))
    clear H D hk hN
    (generalize (aloneP P σ sp i).1 = b at *; generalize (aloneP P σ sp i).2 = σ2 at *)
    go_enter Try.func28, Try.ntmps28
    go_wp2_with fail
    refine (HC.out _ HH.out).mono ?_
    rintro e w2 ⟨rfl, h2, hm2⟩
    have H2 := Lib.hid h2
    clear h2
    go_wp2_with fail
    go_ret
    exact ⟨rfl, H2.out, HB.out.trans (hm2.sub (by simp))⟩
end

end Go.Proofs.Ythffhhgaeolpgaa.Mc
