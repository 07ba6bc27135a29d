/- Layer 1's law: do, whole. -/
import Derived.Test.YtfdcojhgpfmloaaAl2
namespace Go.Proofs.Ytfdcojhgpfmloaa.Ara
open Go.RowKit


set_option maxHeartbeats 4000000 in
set_option maxRecDepth 100000 in
theorem do_store (q : Option Addr) (g h gr base : Nat) (σ : Ar) (ρ : Rf) (w : World) (H : Sys q g h gr base w σ ρ) (ho : σ.ops < 1000000) (p a b : Int) :
    Calls Try.prog 30 #[.pointer q, .pointer (some ⟨gr, 0, none⟩), .agg #[.int .i64 2, .int .i64 p, .int .i64 a, .int .i64 b]] w fun e w' => e = .returned (.bool true) ∧ SysE q g h gr base w' (actS σ ⟨2, p, a, b⟩) ∧ Upd base (gr :: ms q g h) w w' := by
  rw [act2]
  have HS := (show Sys q g h gr base (w.alloc (boxAc ⟨2, p, a, b⟩)) σ ρ from H.step (below_new _ _))
  have HB := (show (w.alloc (boxAc ⟨2, p, a, b⟩)).heap[w.heap.size]? = some (boxAc ⟨2, p, a, b⟩) from blk_new _ _)
  have hU0 : Upd base (gr :: ms q g h) w (w.alloc (boxAc ⟨2, p, a, b⟩)) := Upd.of_below ((below_new _ _).mono H.2.1.2.1)
  have hbz : base ≤ w.heap.size := H.2.1.2.1
  have hO := Lib.hid ho
  have hR := Lib.hid (show ρ.ops < 1000000 by rw [H.2.2.1.2.2.2.2.1]; exact ho)
  have hO2 := Lib.hid (show σ.ops ≤ 1000000 by omega)
  have HL := Lib.hid H.2.2.1
  clear H ho
  simp only [boxAc] at HS HB hU0
  have HS := Lib.hid HS
  have HB := Lib.hid HB
  have HU := Lib.hid hU0
  clear hU0
  go_enter Try.func30, Try.ntmps30
  go_wp2_with fail
  generalize w.alloc (.cells #[.int .i64 2, .int .i64 p, .int .i64 a, .int .i64 b] 54) = W1 at *
  generalize w.heap.size = bx at *
  refine (store_ao q g h σ _ HS.out.1 hO2.out p a).mono ?_
  rintro e w2 ⟨rfl, ha2, hm2⟩
  obtain ⟨hr2, bx2⟩ := sys_mid (x := ⟨2, p, a, b⟩) HS.out HB.out hbz hm2
  obtain ⟨c0, c1, c2, c3⟩ := cellsA bx2
  go_wp2_with fail
  refine (rstore_any gr base ρ _ hr2 p hR.out a).mono ?_
  rintro e w3 ⟨rfl, hr3, hrm3⟩
  obtain ⟨hs, hu, _⟩ := sys_end HS.out hm2 ha2 bx2 hbz hr3 hrm3 (HL.out.op 2 p a true)
  clear c0 c1 c2 c3
  go_wp2_with fail
  go_ret
  exact ⟨rfl, ⟨_, hs⟩, HU.out.trans hu⟩
set_option maxHeartbeats 4000000 in
set_option maxRecDepth 100000 in
theorem do_take (q : Option Addr) (g h gr base : Nat) (σ : Ar) (ρ : Rf) (w : World) (H : Sys q g h gr base w σ ρ) (ho : σ.ops < 1000000) (p a b : Int) :
    Calls Try.prog 30 #[.pointer q, .pointer (some ⟨gr, 0, none⟩), .agg #[.int .i64 0, .int .i64 p, .int .i64 a, .int .i64 b]] w fun e w' => e = .returned (.bool true) ∧ SysE q g h gr base w' (actS σ ⟨0, p, a, b⟩) ∧ Upd base (gr :: ms q g h) w w' := by
  rw [act0]
  obtain ⟨ht1, ht2⟩ := H.2.2.1.take a
  have HAL := Lib.hid ht2
  have HCA := Lib.hid (fun W hA => take_ao q g h σ W hA a)
  have HCR := Lib.hid (fun W hr2 => rtake_any gr base ρ W hr2 a)
  rw [ht1] at HCR
  clear ht1 ht2
  generalize (σ.take a).2 = σ2 at *
  generalize (ρ.take a).2 = ρ2 at *
  generalize (σ.take a).1.1 = y1 at *
  generalize (σ.take a).1.2 = y2 at *
  have e1 := ibeq (rfl : y1 = y1)
  have e2 := ibeq (rfl : y2 = y2)
  have HS := (show Sys q g h gr base (w.alloc (boxAc ⟨0, p, a, b⟩)) σ ρ from H.step (below_new _ _))
  have HB := (show (w.alloc (boxAc ⟨0, p, a, b⟩)).heap[w.heap.size]? = some (boxAc ⟨0, p, a, b⟩) from blk_new _ _)
  have hU0 : Upd base (gr :: ms q g h) w (w.alloc (boxAc ⟨0, p, a, b⟩)) := Upd.of_below ((below_new _ _).mono H.2.1.2.1)
  have hbz : base ≤ w.heap.size := H.2.1.2.1
  have hO := Lib.hid ho
  have hR := Lib.hid (show ρ.ops < 1000000 by rw [H.2.2.1.2.2.2.2.1]; exact ho)
  have hO2 := Lib.hid (show σ.ops ≤ 1000000 by omega)
  have HL := Lib.hid H.2.2.1
  clear H ho
  simp only [boxAc] at HS HB hU0
  have HS := Lib.hid HS
  have HB := Lib.hid HB
  have HU := Lib.hid hU0
  clear hU0
  go_enter Try.func30, Try.ntmps30
  go_wp2_with fail
  generalize w.alloc (.cells #[.int .i64 0, .int .i64 p, .int .i64 a, .int .i64 b] 54) = W1 at *
  generalize w.heap.size = bx at *
  refine (HCA.out _ HS.out.1).mono ?_
  rintro e w2 ⟨rfl, ha2, hm2⟩
  obtain ⟨hr2, bx2⟩ := sys_mid (x := ⟨0, p, a, b⟩) HS.out HB.out hbz hm2
  obtain ⟨c0, c1, c2, c3⟩ := cellsA bx2
  go_wp2_with fail
  refine (HCR.out _ hr2).mono ?_
  rintro e w3 ⟨rfl, hr3, hrm3⟩
  obtain ⟨hs, hu, _⟩ := sys_end HS.out hm2 ha2 bx2 hbz hr3 hrm3 HAL.out
  clear c0 c1 c2 c3
  go_wp2_with fail
  go_ret
  exact ⟨rfl, ⟨_, hs⟩, HU.out.trans hu⟩
set_option maxHeartbeats 4000000 in
set_option maxRecDepth 100000 in
theorem do_other (q : Option Addr) (g h gr base : Nat) (σ : Ar) (ρ : Rf) (w : World) (H : Sys q g h gr base w σ ρ) (kd p a b : Int) (hk : kd < 0 ∨ 5 < kd) :
    Calls Try.prog 30 #[.pointer q, .pointer (some ⟨gr, 0, none⟩), .agg #[.int .i64 kd, .int .i64 p, .int .i64 a, .int .i64 b]] w fun e w' => e = .returned (.bool true) ∧ SysE q g h gr base w' (actS σ ⟨kd, p, a, b⟩) ∧ Upd base (gr :: ms q g h) w w' := by
  have hst : actS σ ⟨kd, p, a, b⟩ = σ := by
    unfold actS
    rw [if_neg (by simp; omega), if_neg (by simp; omega), if_neg (by simp; omega), if_neg (by simp; omega), if_neg (by simp; omega), if_neg (by simp; omega)]
  rw [hst]
  have k0 := ibeq_no (show ¬ kd = 0 by omega)
  have k1 := ibeq_no (show ¬ kd = 1 by omega)
  have k2 := ibeq_no (show ¬ kd = 2 by omega)
  have k3 := ibeq_no (show ¬ kd = 3 by omega)
  have k4 := ibeq_no (show ¬ kd = 4 by omega)
  have k5 := ibeq_no (show ¬ kd = 5 by omega)
  have HS := Lib.hid (show Sys q g h gr base (w.alloc (boxAc ⟨kd, p, a, b⟩)) σ ρ from H.step (below_new _ _))
  have HU := Lib.hid (show Upd base (gr :: ms q g h) w (w.alloc (boxAc ⟨kd, p, a, b⟩)) from Upd.of_below ((below_new _ _).mono H.2.1.2.1))
  clear H hst hk
  go_enter Try.func30, Try.ntmps30
  go_wp2_with fail
  go_ret
  exact ⟨rfl, ⟨_, HS.out⟩, HU.out⟩
theorem do_any (q : Option Addr) (g h gr base : Nat) (σ : Ar) (w : World) (H : SysE q g h gr base w σ) (ho : σ.ops < 1000000) (x : Ac) :
    Calls Try.prog 30 #[.pointer q, .pointer (some ⟨gr, 0, none⟩), .agg (decAc x).toArray] w fun e w' => e = .returned (.bool true) ∧ SysE q g h gr base w' (actS σ x) ∧ Upd base (gr :: ms q g h) w w' := by
  obtain ⟨ρ, H⟩ := H
  obtain ⟨kd, p, a, b⟩ := x
  by_cases hk : kd < 0 ∨ 5 < kd
  · exact do_other q g h gr base σ ρ w H kd p a b hk
  rcases (show kd = 0 ∨ kd = 1 ∨ kd = 2 ∨ kd = 3 ∨ kd = 4 ∨ kd = 5 by omega) with rfl | rfl | rfl | rfl | rfl | rfl
  · exact do_take q g h gr base σ ρ w H ho p a b
  · exact do_load q g h gr base σ ρ w H ho p a b
  · exact do_store q g h gr base σ ρ w H ho p a b
  · exact do_swap q g h gr base σ ρ w H ho p a b
  · exact do_cas q g h gr base σ ρ w H ho p a b
  · exact do_add q g h gr base σ ρ w H ho p a b
end Go.Proofs.Ytfdcojhgpfmloaa.Ara
