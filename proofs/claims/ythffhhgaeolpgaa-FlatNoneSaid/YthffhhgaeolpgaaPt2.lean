/- Package parted: place, served, last, Alone, Step. -/
import Derived.Test.YthffhhgaeolpgaaPt1
import Derived.Deep.RegionHeld3
namespace Go.Proofs.Ythffhhgaeolpgaa.Pt
open Go.RowKit Go.Proofs.Ythffhhgaeolpgaa.Ara Go.Proofs.Ythffhhgaeolpgaa.Lok

def POk (P : Par) : Prop := 1 ≤ P.parts ∧ P.parts ≤ 32 ∧ 1 ≤ P.next ∧ P.next ≤ 4096
section
variable (gl ga ha hs : Nat) (P : Par) (σ : Ar) (sp : List Sp) (w : World) (H : LkAt w gl ga ha hs P σ sp) (hP : POk P)
include H hP
set_option maxRecDepth 100000 in
theorem place_lk (t : Int) (t0 : 0 ≤ t) (t1 : t ≤ 2000000) : Calls Try.prog 44 #[.pointer (some ⟨gl, 0, none⟩), .int .i64 t] w fun e w' => e = .returned (.int .i64 (place P t)) ∧ ∃ n, w' = w.drewN n := by
  obtain ⟨⟨cc, q0, q1, q2, q3⟩, hl⟩ := H.heads
  obtain ⟨p1, p2, p3, p4⟩ := hP
  unfold place
  have m0 : 0 ≤ t % P.parts := Int.emod_nonneg _ (by omega)
  have m1 : t % P.parts < P.parts := Int.emod_lt_of_pos _ (by omega)
  have e0 : t.tmod P.parts = t % P.parts := Int.tmod_eq_emod_of_nonneg t0
  have e1 : IntKind.i64.wrap (P.next + 1) = P.next + 1 := IntWalk.i64_in _ (by omega)
  have e2 : IntKind.i64.wrap (t % P.parts) = t % P.parts := IntWalk.i64_in _ (by omega)
  have e3 : IntKind.i64.wrap (P.next + 1 + t % P.parts) = P.next + 1 + t % P.parts := IntWalk.i64_in _ (by omega)
  have e4 : ¬ P.parts = 0 := by omega
  have e5 : (P.parts == 0) = false := ibeq_no e4
  generalize t % P.parts = m at *
  clear H
  go_enter Try.func44, Try.ntmps44
  go_wp2_with fail
  go_quiet (fail)
  go_wp2_with fail
  go_ret
  exact ⟨rfl, _, rfl⟩
set_option maxRecDepth 100000 in
theorem served_lk (ho : σ.ops ≤ 1000000) (t : Int) (t0 : 0 ≤ t) (t1 : t ≤ 1000000) : Calls Try.prog 71 #[.pointer (some ⟨gl, 0, none⟩), .int .i64 t] w fun e w' => e = .returned (.bool (σ.get (place P t) == t + 1)) ∧ LkAt w' gl ga ha hs P (σ.op 1 (place P t) false 0) sp ∧ Mod [ga, ha] w w' := by
  obtain ⟨⟨cc, q0, q1, q2, q3⟩, hl⟩ := H.heads
  obtain ⟨d1, d2, d3, d4, d5⟩ := H.2.2.2.2
  have HC := Lib.hid (fun n => place_lk gl ga ha hs P σ sp (w.drewN n) H hP t t0 (by omega))
  have HL := Lib.hid (fun W K => load_any ga ha σ W (K : LkAt W gl ga ha hs P σ sp).1 ho (place P t))
  have HH := Lib.hid H
  have e1 : IntKind.i64.wrap (t + 1) = t + 1 := IntWalk.i64_in _ (by omega)
  clear q1 q2 q3 H
  generalize place P t = p at *
  generalize σ.op 1 p false 0 = σ2 at *
  generalize σ.get p = x at *
  go_enter Try.func71, Try.ntmps71
  go_wp2_with fail
  go_region_held3 (fun V => V.cell? ⟨gl, 0, none⟩ = some (.pointer (some ⟨ga, 0, none⟩)))
    (first | exact q0 | exact k2)
    (first
      | (go_at_call 44; refine (HC.out 1).mono ?_; rintro e w1 ⟨rfl, n1, rfl⟩)
      | (go_at_call 80; refine (HL.out _ (HH.out.drewN _)).mono ?_; rintro e w2 ⟨rfl, ha2, hm2⟩; have k2 := keepM hm2 (show (w.drewN _).cell? _ = _ from q0) (by simp; omega)))
  go_wp2_with fail
  go_ret
  exact ⟨rfl, (HH.out.drewN _).arena ha2 hm2, ((Mod.refl _ _).drewN _).trans hm2⟩
omit hP in
set_option maxRecDepth 100000 in
theorem last_lk (ho : σ.ops ≤ 1000000) (t : Int) (t0 : 0 ≤ t) (t1 : t ≤ 1000000) : Calls Try.prog 72 #[.pointer (some ⟨gl, 0, none⟩), .int .i64 t] w fun e w' => e = .returned (.bool (σ.get P.next == t + 1)) ∧ LkAt w' gl ga ha hs P (σ.op 1 P.next false 0) sp ∧ Mod [ga, ha] w w' := by
  obtain ⟨⟨cc, q0, q1, q2, q3⟩, hl⟩ := H.heads
  obtain ⟨d1, d2, d3, d4, d5⟩ := H.2.2.2.2
  have HL := Lib.hid (fun W K => load_any ga ha σ W (K : LkAt W gl ga ha hs P σ sp).1 ho P.next)
  have HH := Lib.hid H
  have e1 : IntKind.i64.wrap (t + 1) = t + 1 := IntWalk.i64_in _ (by omega)
  clear q2 q3 H
  generalize σ.op 1 P.next false 0 = σ2 at *
  generalize σ.get P.next = x at *
  go_enter Try.func72, Try.ntmps72
  go_wp2_with fail
  go_region_held3 (fun V => V.cell? ⟨gl, 0, none⟩ = some (.pointer (some ⟨ga, 0, none⟩)) ∧ V.cell? ⟨gl, 1, none⟩ = some (.int .i64 P.next))
    (first | exact ⟨q0, q1⟩ | exact k2)
    (first
      | (go_at_call 80; refine (HL.out _ (HH.out.drewN 1)).mono ?_; rintro e w2 ⟨rfl, ha2, hm2⟩; have k2 := And.intro (keepM hm2 (show (w.drewN _).cell? _ = _ from q0) (by simp; omega)) (keepM hm2 (show (w.drewN _).cell? _ = _ from q1) (by simp; omega))))
  go_wp2_with fail
  go_ret
  exact ⟨rfl, (HH.out.drewN 1).arena ha2 hm2, ((Mod.refl _ _).drewN _).trans hm2⟩
end
/-- Spots whose tickets are in range. -/
def SOk (sp : List Sp) : Prop := ∀ k (h : k < sp.length), 0 ≤ sp[k].a ∧ sp[k].a ≤ 1000000
section
variable (gl ga ha hs : Nat) (P : Par) (σ : Ar) (sp : List Sp) (w : World) (H : LkAt w gl ga ha hs P σ sp)
include H
set_option maxRecDepth 100000 in
theorem asks_served (hP : POk P) (hS : SOk sp) (ho : σ.ops ≤ 1000000) (i : Int) : Calls Try.prog 70 #[.pointer (some ⟨gl, 0, none⟩), .int .i64 i, .int .i64 2, .func (.func 71) #[] #[]] w fun e w' =>
    e = .returned (.bool (if (spOf sp i).pc = 2 then σ.get (place P (spOf sp i).a) == (spOf sp i).a + 1 else false)) ∧ LkAt w' gl ga ha hs P (if (spOf sp i).pc = 2 then σ.op 1 (place P (spOf sp i).a) false 0 else σ) sp ∧ Mod [ga, ha] w w' := by
  by_cases hi : i < 0 ∨ (sp.length : Int) ≤ i
  · rw [spOf_out hi]
    have HS := Lib.hid (spot_out_lk gl ga ha hs P σ sp w H i hi)
    have HH := Lib.hid H
    rw [if_neg (show ¬ sp0.pc = 2 by decide), if_neg (show ¬ sp0.pc = 2 by decide)]
    clear H hi
    go_enter Try.func70, Try.ntmps70
    go_wp2_with fail
    refine (HS.out).mono ?_
    rintro e wx ⟨rfl, hwx⟩
    obtain rfl := hwx.symm
    go_wp2_with fail
    go_ret
    exact ⟨rfl, HH.out, Mod.refl _ _⟩
  · obtain ⟨k, rfl⟩ := Int.eq_ofNat_of_zero_le (show 0 ≤ i by omega)
    have hk : k < sp.length := by omega
    have HS := Lib.hid (spot_in_lk gl ga ha hs P σ sp w H k hk)
    have c0 := (H.2.1.cells k hk).1
    have c1 := (H.2.1.cells k hk).2.1
    obtain ⟨a0, a1⟩ := hS k hk
    have e0 := spOf_in hk
    have HH := Lib.hid H
    rw [e0]
    by_cases hp : sp[k].pc = 2
    · have HC := Lib.hid (fun W (K : LkAt W gl ga ha hs P σ sp) => served_lk gl ga ha hs P σ sp W K hP ho sp[k].a a0 a1)
      rw [if_pos hp, if_pos hp]
      rw [hp] at c0
      generalize sp[k].a = x at *
      clear H hi e0 hk hp a0 a1
      generalize (σ.get (place P x) == x + 1) = y at *
      generalize σ.op 1 (place P x) false 0 = σ2 at *
      go_enter Try.func70, Try.ntmps70
      go_wp2_with fail
      refine (HS.out).mono ?_
      rintro e wx ⟨rfl, hwx⟩
      obtain rfl := hwx.symm
      go_wp2_with fail
      refine (HC.out _ HH.out).mono ?_
      rintro e w2 ⟨rfl, h2, hm2⟩
      go_wp2_with fail
      go_ret
      exact ⟨rfl, h2, hm2⟩
    · rw [if_neg hp, if_neg hp]
      have e1 := ibeq_no hp
      generalize sp[k].pc = y at *
      clear H hi e0 hk hp a0 a1 c1
      go_enter Try.func70, Try.ntmps70
      go_wp2_with fail
      refine (HS.out).mono ?_
      rintro e wx ⟨rfl, hwx⟩
      obtain rfl := hwx.symm
      go_wp2_with fail
      go_ret
      exact ⟨rfl, HH.out, Mod.refl _ _⟩
set_option maxRecDepth 100000 in
theorem asks_last (hS : SOk sp) (ho : σ.ops ≤ 1000000) (i : Int) : Calls Try.prog 70 #[.pointer (some ⟨gl, 0, none⟩), .int .i64 i, .int .i64 10, .func (.func 72) #[] #[]] w fun e w' =>
    e = .returned (.bool (if (spOf sp i).pc = 10 then σ.get P.next == (spOf sp i).a + 1 else false)) ∧ LkAt w' gl ga ha hs P (if (spOf sp i).pc = 10 then σ.op 1 P.next false 0 else σ) sp ∧ Mod [ga, ha] w w' := by
  by_cases hi : i < 0 ∨ (sp.length : Int) ≤ i
  · rw [spOf_out hi]
    have HS := Lib.hid (spot_out_lk gl ga ha hs P σ sp w H i hi)
    have HH := Lib.hid H
    rw [if_neg (show ¬ sp0.pc = 10 by decide), if_neg (show ¬ sp0.pc = 10 by decide)]
    clear H hi
    go_enter Try.func70, Try.ntmps70
    go_wp2_with fail
    refine (HS.out).mono ?_
    rintro e wx ⟨rfl, hwx⟩
    obtain rfl := hwx.symm
    go_wp2_with fail
    go_ret
    exact ⟨rfl, HH.out, Mod.refl _ _⟩
  · obtain ⟨k, rfl⟩ := Int.eq_ofNat_of_zero_le (show 0 ≤ i by omega)
    have hk : k < sp.length := by omega
    have HS := Lib.hid (spot_in_lk gl ga ha hs P σ sp w H k hk)
    have c0 := (H.2.1.cells k hk).1
    have c1 := (H.2.1.cells k hk).2.1
    obtain ⟨a0, a1⟩ := hS k hk
    have e0 := spOf_in hk
    have HH := Lib.hid H
    rw [e0]
    by_cases hp : sp[k].pc = 10
    · have HC := Lib.hid (fun W (K : LkAt W gl ga ha hs P σ sp) => last_lk gl ga ha hs P σ sp W K ho sp[k].a a0 a1)
      rw [if_pos hp, if_pos hp]
      rw [hp] at c0
      generalize sp[k].a = x at *
      clear H hi e0 hk hp a0 a1
      generalize (σ.get P.next == x + 1) = y at *
      generalize σ.op 1 P.next false 0 = σ2 at *
      go_enter Try.func70, Try.ntmps70
      go_wp2_with fail
      refine (HS.out).mono ?_
      rintro e wx ⟨rfl, hwx⟩
      obtain rfl := hwx.symm
      go_wp2_with fail
      refine (HC.out _ HH.out).mono ?_
      rintro e w2 ⟨rfl, h2, hm2⟩
      go_wp2_with fail
      go_ret
      exact ⟨rfl, h2, hm2⟩
    · rw [if_neg hp, if_neg hp]
      have e1 := ibeq_no hp
      generalize sp[k].pc = y at *
      clear H hi e0 hk hp a0 a1 c1
      go_enter Try.func70, Try.ntmps70
      go_wp2_with fail
      refine (HS.out).mono ?_
      rintro e wx ⟨rfl, hwx⟩
      obtain rfl := hwx.symm
      go_wp2_with fail
      go_ret
      exact ⟨rfl, HH.out, Mod.refl _ _⟩
theorem alone_lk (hS : SOk sp) (ho : σ.ops ≤ 1000000) (i : Int) : Calls Try.prog 38 #[.pointer (some ⟨gl, 0, none⟩), .int .i64 i] w fun e w' => e = .returned (.bool (aloneP P σ sp i).1) ∧ LkAt w' gl ga ha hs P (aloneP P σ sp i).2 sp ∧ Mod [ga, ha] w w' := by
  have HC := Lib.hid (asks_last gl ga ha hs P σ sp w H hS ho i)
  have e1 : (aloneP P σ sp i).1 = (if (spOf sp i).pc = 10 then σ.get P.next == (spOf sp i).a + 1 else false) := by unfold aloneP; split <;> rfl
  have e2 : (aloneP P σ sp i).2 = (if (spOf sp i).pc = 10 then σ.op 1 P.next false 0 else σ) := by unfold aloneP; split <;> rfl
  rw [← e1, ← e2] at HC
  clear e1 e2 H
  generalize (aloneP P σ sp i).1 = b at *
  generalize (aloneP P σ sp i).2 = σ2 at *
  go_enter Try.func38, Try.ntmps38
  go_wp2_with fail
  refine HC.out.mono ?_
  rintro e w2 ⟨rfl, h2, hm⟩
  go_wp2_with fail
  go_ret
  exact ⟨rfl, h2, hm⟩
end
end Go.Proofs.Ythffhhgaeolpgaa.Pt
