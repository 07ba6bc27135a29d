/- Layer 1's law: do. -/
import Derived.Test.YtfdcojhgpfmloaaAl1
namespace Go.Proofs.Ytfdcojhgpfmloaa.Ara
open Go.RowKit

structure Ac where
  kind : Int
  pos : Int
  a : Int
  b : Int
def decAc (x : Ac) : List Value := [.int .i64 x.kind, .int .i64 x.pos, .int .i64 x.a, .int .i64 x.b]
def boxAc (x : Ac) : Obj := .cells #[.int .i64 x.kind, .int .i64 x.pos, .int .i64 x.a, .int .i64 x.b] 54 (0, 0)
def actS (σ : Ar) (x : Ac) : Ar :=
  if x.kind = 0 then (σ.take x.a).2 else if x.kind = 1 then σ.op 1 x.pos false 0 else if x.kind = 2 then σ.op 2 x.pos true x.a else if x.kind = 3 then σ.op 3 x.pos true x.a
  else if x.kind = 4 then σ.op 4 x.pos (σ.has x.pos && (σ.get x.pos == x.a)) x.b else if x.kind = 5 then σ.op 5 x.pos true (wrap64 (σ.get x.pos + x.a)) else σ

/-- Both arenas in memory, alike. -/
def Sys (q : Option Addr) (g h gr base : Nat) (W : World) (σ : Ar) (ρ : Rf) : Prop :=
  AO q g h W σ ∧ RfAt W gr base ρ ∧ Alk σ ρ ∧ ∀ x ∈ ms q g h, x < base ∧ x ≠ gr
theorem Sys.step {q : Option Addr} {g h gr base : Nat} {W W' : World} {σ : Ar} {ρ : Rf} (k : Sys q g h gr base W σ ρ) (hb : Below W.heap.size W W') : Sys q g h gr base W' σ ρ :=
  ⟨k.1.step hb, k.2.1.step hb, k.2.2⟩
theorem cas_same {σ : Ar} {ρ : Rf} (h : Alk σ ρ) (p old v : Int) : Alk (σ.op 4 p (σ.has p && (σ.get p == old)) v) (ρ.op 4 p (ρ.get p == old) v) := by
  rw [h.get]
  cases hh : σ.has p
  · rw [Ar.op_out hh]
    unfold Rf.op
    rw [h.has, hh, if_neg (by decide)]
    exact h
  · rw [Bool.true_and]
    exact h.op 4 p v _

theorem cellsA {W : World} {b : Nat} {x : Ac} (h : W.heap[b]? = some (boxAc x)) : W.cell? ⟨b, 0, none⟩ = some (.int .i64 x.kind) ∧ W.cell? ⟨b, 1, none⟩ = some (.int .i64 x.pos) ∧ W.cell? ⟨b, 2, none⟩ = some (.int .i64 x.a) ∧ W.cell? ⟨b, 3, none⟩ = some (.int .i64 x.b) := by
  unfold boxAc at h
  exact ⟨blk_cell h 0 (by simp), blk_cell h 1 (by simp), blk_cell h 2 (by simp), blk_cell h 3 (by simp)⟩

/-- An op of each, one behind the other: what the second one needs, and what is left. -/
theorem AO.updm {B : Nat} {S : List Nat} {w w' : World} {q : Option Addr} {g h : Nat} {σ : Ar} (k : AO q g h w σ) (hm : Upd B S w w') (hq : ∀ x ∈ ms q g h, x < B ∧ x ∉ S) : AO q g h w' σ := by
  rcases k with ⟨rfl, h2⟩ | h1
  · exact .inl ⟨rfl, h2.upd hm (hq g (by simp [ms])).1 (hq h (by simp [ms])).1 (hq g (by simp [ms])).2 (hq h (by simp [ms])).2⟩
  · exact .inr h1
theorem sys_mid {q : Option Addr} {g h gr base bx : Nat} {W W2 : World} {σ : Ar} {ρ : Rf} {x : Ac} (k : Sys q g h gr base W σ ρ) (hx : W.heap[bx]? = some (boxAc x)) (hbx : base ≤ bx) (hm : Mod (ms q g h) W W2) :
    RfAt W2 gr base ρ ∧ W2.heap[bx]? = some (boxAc x) := by
  obtain ⟨_, k2, _, k4⟩ := k
  exact ⟨k2.mod hm k4, hm.blk hx (fun e => by have := (k4 _ e).1; omega)⟩
theorem sys_end {q : Option Addr} {g h gr base bx : Nat} {W W2 W3 : World} {σ σ' : Ar} {ρ ρ' : Rf} {x : Ac} (k : Sys q g h gr base W σ ρ) (hm : Mod (ms q g h) W W2) (ha : AO q g h W2 σ') (hx : W2.heap[bx]? = some (boxAc x)) (hbx : base ≤ bx) (hr : RfAt W3 gr base ρ') (hrm : RMod base gr W2 W3) (hal : Alk σ' ρ') :
    Sys q g h gr base W3 σ' ρ' ∧ Upd base (gr :: ms q g h) W W3 ∧ W3.heap[bx]? = some (boxAc x) := by
  obtain ⟨k1, k2, _, k4⟩ := k
  have hz : base ≤ W2.heap.size := Nat.le_trans k2.2.1 hm.size
  refine ⟨⟨ha.updm (hrm.upd hz) (fun y hy => ⟨(k4 y hy).1, by simpa using (k4 y hy).2⟩), hr, hal, k4⟩, ((Upd.of_mod hm k2.2.1).sub (Nat.le_refl _) (fun k hk => List.mem_cons_of_mem _ hk)).trans ((hrm.upd hz).sub (Nat.le_refl _) (by simp)), hrm.blk hx (by decide) (by have := k2.1; omega)⟩

theorem drew0 {W : World} : Below W.heap.size W W.drew := Below.drew (Below.refl _ _)
/-- Both arenas, alike, whatever the reference's numbers. -/
def SysE (q : Option Addr) (g h gr base : Nat) (W : World) (σ : Ar) : Prop := ∃ ρ, Sys q g h gr base W σ ρ
theorem act0 (σ : Ar) (p a b : Int) : actS σ ⟨0, p, a, b⟩ = (σ.take a).2 := rfl
theorem act1 (σ : Ar) (p a b : Int) : actS σ ⟨1, p, a, b⟩ = σ.op 1 p false 0 := rfl
theorem act2 (σ : Ar) (p a b : Int) : actS σ ⟨2, p, a, b⟩ = σ.op 2 p true a := rfl
theorem act3 (σ : Ar) (p a b : Int) : actS σ ⟨3, p, a, b⟩ = σ.op 3 p true a := rfl
theorem act4 (σ : Ar) (p a b : Int) : actS σ ⟨4, p, a, b⟩ = σ.op 4 p (σ.has p && (σ.get p == a)) b := rfl
theorem act5 (σ : Ar) (p a b : Int) : actS σ ⟨5, p, a, b⟩ = σ.op 5 p true (wrap64 (σ.get p + a)) := rfl


set_option maxHeartbeats 4000000 in
set_option maxRecDepth 100000 in
theorem do_load (q : Option Addr) (g h gr base : Nat) (σ : Ar) (ρ : Rf) (w : World) (H : Sys q g h gr base w σ ρ) (ho : σ.ops < 1000000) (p a b : Int) :
    Calls Try.prog 30 #[.pointer q, .pointer (some ⟨gr, 0, none⟩), .agg #[.int .i64 1, .int .i64 p, .int .i64 a, .int .i64 b]] w fun e w' => e = .returned (.bool true) ∧ SysE q g h gr base w' (actS σ ⟨1, p, a, b⟩) ∧ Upd base (gr :: ms q g h) w w' := by
  rw [act1]
  have HS := (show Sys q g h gr base (w.alloc (boxAc ⟨1, p, a, b⟩)) σ ρ from H.step (below_new _ _))
  have HB := (show (w.alloc (boxAc ⟨1, p, a, b⟩)).heap[w.heap.size]? = some (boxAc ⟨1, p, a, b⟩) from blk_new _ _)
  have hU0 : Upd base (gr :: ms q g h) w (w.alloc (boxAc ⟨1, p, a, b⟩)) := Upd.of_below ((below_new _ _).mono H.2.1.2.1)
  have hbz : base ≤ w.heap.size := H.2.1.2.1
  have hO := Lib.hid ho
  have hR := Lib.hid (show ρ.ops < 1000000 by rw [H.2.2.1.2.2.2.2.1]; exact ho)
  have hO2 := Lib.hid (show σ.ops ≤ 1000000 by omega)
  have HL := Lib.hid H.2.2.1
  clear H ho
  simp only [boxAc] at HS HB hU0
  have HS := Lib.hid HS
  have HB := Lib.hid HB
  have HU := Lib.hid hU0
  clear hU0
  go_enter Try.func30, Try.ntmps30
  go_wp2_with fail
  generalize w.alloc (.cells #[.int .i64 1, .int .i64 p, .int .i64 a, .int .i64 b] 54) = W1 at *
  generalize w.heap.size = bx at *
  have ee := ibeq (HL.out.get p).symm
  obtain ⟨c0, c1, c2, c3⟩ := cellsA (x := ⟨1, p, a, b⟩) HB.out
  go_region_held3 (fun V => V.cell? ⟨bx, 0, none⟩ = some (.int .i64 1) ∧ V.cell? ⟨bx, 1, none⟩ = some (.int .i64 p) ∧ V.cell? ⟨bx, 2, none⟩ = some (.int .i64 a) ∧ V.cell? ⟨bx, 3, none⟩ = some (.int .i64 b))
    (first | exact ⟨c0, c1, c2, c3⟩ | exact cellsA (x := ⟨1, p, a, b⟩) bx3 | exact cellsA (x := ⟨1, p, a, b⟩) bx2)
    (first
      | (go_at_call 37; refine (load_ao q g h σ _ (HS.out.step drew0).1 hO2.out p).mono ?_; rintro e w2 ⟨rfl, ha2, hm2⟩; obtain ⟨hr2, bx2⟩ := sys_mid (x := ⟨1, p, a, b⟩) (HS.out.step drew0) HB.out hbz hm2)
      | (go_at_call 73; refine (rload_any gr base ρ _ hr2 p hR.out).mono ?_; rintro e w3 ⟨rfl, hr3, hrm3⟩; have bx3 := hrm3.blk bx2 (by decide) (by have := hr2.1; omega)))
  go_wp2_with fail
  obtain ⟨hs, hu, _⟩ := sys_end (HS.out.step drew0) hm2 ha2 bx2 hbz hr3 hrm3 (HL.out.op 1 p 0 false)
  go_ret
  exact ⟨rfl, ⟨_, hs⟩, HU.out.trans ((Upd.of_below (drew0.mono HS.out.2.1.2.1)).trans hu)⟩
set_option maxHeartbeats 4000000 in
set_option maxRecDepth 100000 in
theorem do_swap (q : Option Addr) (g h gr base : Nat) (σ : Ar) (ρ : Rf) (w : World) (H : Sys q g h gr base w σ ρ) (ho : σ.ops < 1000000) (p a b : Int) :
    Calls Try.prog 30 #[.pointer q, .pointer (some ⟨gr, 0, none⟩), .agg #[.int .i64 3, .int .i64 p, .int .i64 a, .int .i64 b]] w fun e w' => e = .returned (.bool true) ∧ SysE q g h gr base w' (actS σ ⟨3, p, a, b⟩) ∧ Upd base (gr :: ms q g h) w w' := by
  rw [act3]
  have HS := (show Sys q g h gr base (w.alloc (boxAc ⟨3, p, a, b⟩)) σ ρ from H.step (below_new _ _))
  have HB := (show (w.alloc (boxAc ⟨3, p, a, b⟩)).heap[w.heap.size]? = some (boxAc ⟨3, p, a, b⟩) from blk_new _ _)
  have hU0 : Upd base (gr :: ms q g h) w (w.alloc (boxAc ⟨3, p, a, b⟩)) := Upd.of_below ((below_new _ _).mono H.2.1.2.1)
  have hbz : base ≤ w.heap.size := H.2.1.2.1
  have hO := Lib.hid ho
  have hR := Lib.hid (show ρ.ops < 1000000 by rw [H.2.2.1.2.2.2.2.1]; exact ho)
  have hO2 := Lib.hid (show σ.ops ≤ 1000000 by omega)
  have HL := Lib.hid H.2.2.1
  clear H ho
  simp only [boxAc] at HS HB hU0
  have HS := Lib.hid HS
  have HB := Lib.hid HB
  have HU := Lib.hid hU0
  clear hU0
  go_enter Try.func30, Try.ntmps30
  go_wp2_with fail
  generalize w.alloc (.cells #[.int .i64 3, .int .i64 p, .int .i64 a, .int .i64 b] 54) = W1 at *
  generalize w.heap.size = bx at *
  have ee := ibeq (HL.out.get p).symm
  obtain ⟨c0, c1, c2, c3⟩ := cellsA (x := ⟨3, p, a, b⟩) HB.out
  go_region_held3 (fun V => V.cell? ⟨bx, 0, none⟩ = some (.int .i64 3) ∧ V.cell? ⟨bx, 1, none⟩ = some (.int .i64 p) ∧ V.cell? ⟨bx, 2, none⟩ = some (.int .i64 a) ∧ V.cell? ⟨bx, 3, none⟩ = some (.int .i64 b))
    (first | exact ⟨c0, c1, c2, c3⟩ | exact cellsA (x := ⟨3, p, a, b⟩) bx3 | exact cellsA (x := ⟨3, p, a, b⟩) bx2)
    (first
      | (go_at_call 39; refine (swap_ao q g h σ _ (HS.out.step drew0).1 hO2.out p a).mono ?_; rintro e w2 ⟨rfl, ha2, hm2⟩; obtain ⟨hr2, bx2⟩ := sys_mid (x := ⟨3, p, a, b⟩) (HS.out.step drew0) HB.out hbz hm2)
      | (go_at_call 75; refine (rswap_any gr base ρ _ hr2 p hR.out a).mono ?_; rintro e w3 ⟨rfl, hr3, hrm3⟩; have bx3 := hrm3.blk bx2 (by decide) (by have := hr2.1; omega)))
  go_wp2_with fail
  obtain ⟨hs, hu, _⟩ := sys_end (HS.out.step drew0) hm2 ha2 bx2 hbz hr3 hrm3 (HL.out.op 3 p a true)
  go_ret
  exact ⟨rfl, ⟨_, hs⟩, HU.out.trans ((Upd.of_below (drew0.mono HS.out.2.1.2.1)).trans hu)⟩
set_option maxHeartbeats 4000000 in
set_option maxRecDepth 100000 in
theorem do_cas (q : Option Addr) (g h gr base : Nat) (σ : Ar) (ρ : Rf) (w : World) (H : Sys q g h gr base w σ ρ) (ho : σ.ops < 1000000) (p a b : Int) :
    Calls Try.prog 30 #[.pointer q, .pointer (some ⟨gr, 0, none⟩), .agg #[.int .i64 4, .int .i64 p, .int .i64 a, .int .i64 b]] w fun e w' => e = .returned (.bool true) ∧ SysE q g h gr base w' (actS σ ⟨4, p, a, b⟩) ∧ Upd base (gr :: ms q g h) w w' := by
  rw [act4]
  have hl := H.2.2.1
  have hro : ρ.ops < 1000000 := by rw [hl.2.2.2.2.1]; exact ho
  have ee : ((σ.has p && (σ.get p == a)) == (ρ.has p && (ρ.get p == a))) = true := by rw [hl.has, hl.get]; simp
  have HAL := Lib.hid (cas_same hl p a b)
  have HCA := Lib.hid (fun W hA => cas_ao q g h σ W hA (by omega) p a b)
  have HCR := Lib.hid (fun W hr2 => rcas_any gr base ρ W hr2 p hro a b)
  generalize σ.op 4 p (σ.has p && (σ.get p == a)) b = σ2 at *
  generalize ρ.op 4 p (ρ.get p == a) b = ρ2 at *
  generalize (σ.has p && (σ.get p == a)) = y1 at *
  generalize (ρ.has p && (ρ.get p == a)) = y2 at *
  clear hl hro
  have HS := (show Sys q g h gr base (w.alloc (boxAc ⟨4, p, a, b⟩)) σ ρ from H.step (below_new _ _))
  have HB := (show (w.alloc (boxAc ⟨4, p, a, b⟩)).heap[w.heap.size]? = some (boxAc ⟨4, p, a, b⟩) from blk_new _ _)
  have hU0 : Upd base (gr :: ms q g h) w (w.alloc (boxAc ⟨4, p, a, b⟩)) := Upd.of_below ((below_new _ _).mono H.2.1.2.1)
  have hbz : base ≤ w.heap.size := H.2.1.2.1
  have hO := Lib.hid ho
  have hR := Lib.hid (show ρ.ops < 1000000 by rw [H.2.2.1.2.2.2.2.1]; exact ho)
  have hO2 := Lib.hid (show σ.ops ≤ 1000000 by omega)
  have HL := Lib.hid H.2.2.1
  clear H ho
  simp only [boxAc] at HS HB hU0
  have HS := Lib.hid HS
  have HB := Lib.hid HB
  have HU := Lib.hid hU0
  clear hU0
  go_enter Try.func30, Try.ntmps30
  go_wp2_with fail
  generalize w.alloc (.cells #[.int .i64 4, .int .i64 p, .int .i64 a, .int .i64 b] 54) = W1 at *
  generalize w.heap.size = bx at *
  obtain ⟨c0, c1, c2, c3⟩ := cellsA (x := ⟨4, p, a, b⟩) HB.out
  go_region_held3 (fun V => V.cell? ⟨bx, 0, none⟩ = some (.int .i64 4) ∧ V.cell? ⟨bx, 1, none⟩ = some (.int .i64 p) ∧ V.cell? ⟨bx, 2, none⟩ = some (.int .i64 a) ∧ V.cell? ⟨bx, 3, none⟩ = some (.int .i64 b))
    (first | exact ⟨c0, c1, c2, c3⟩ | exact cellsA (x := ⟨4, p, a, b⟩) bx3 | exact cellsA (x := ⟨4, p, a, b⟩) bx2)
    (first
      | (go_at_call 40; refine (HCA.out _ (HS.out.step drew0).1).mono ?_; rintro e w2 ⟨rfl, ha2, hm2⟩; obtain ⟨hr2, bx2⟩ := sys_mid (x := ⟨4, p, a, b⟩) (HS.out.step drew0) HB.out hbz hm2)
      | (go_at_call 76; refine (HCR.out _ hr2).mono ?_; rintro e w3 ⟨rfl, hr3, hrm3⟩; have bx3 := hrm3.blk bx2 (by decide) (by have := hr2.1; omega)))
  go_wp2_with fail
  obtain ⟨hs, hu, _⟩ := sys_end (HS.out.step drew0) hm2 ha2 bx2 hbz hr3 hrm3 HAL.out
  go_ret
  exact ⟨rfl, ⟨_, hs⟩, HU.out.trans ((Upd.of_below (drew0.mono HS.out.2.1.2.1)).trans hu)⟩
set_option maxHeartbeats 4000000 in
set_option maxRecDepth 100000 in
theorem do_add (q : Option Addr) (g h gr base : Nat) (σ : Ar) (ρ : Rf) (w : World) (H : Sys q g h gr base w σ ρ) (ho : σ.ops < 1000000) (p a b : Int) :
    Calls Try.prog 30 #[.pointer q, .pointer (some ⟨gr, 0, none⟩), .agg #[.int .i64 5, .int .i64 p, .int .i64 a, .int .i64 b]] w fun e w' => e = .returned (.bool true) ∧ SysE q g h gr base w' (actS σ ⟨5, p, a, b⟩) ∧ Upd base (gr :: ms q g h) w w' := by
  rw [act5]
  have hl := H.2.2.1
  have hro : ρ.ops < 1000000 := by rw [hl.2.2.2.2.1]; exact ho
  have ee : ((if σ.has p then wrap64 (σ.get p + a) else 0) == (if ρ.has p then wrap64 (ρ.get p + a) else 0)) = true := by rw [hl.has, hl.get]; simp
  have HAL := Lib.hid (show Alk (σ.op 5 p true (wrap64 (σ.get p + a))) (ρ.op 5 p true (wrap64 (ρ.get p + a))) by rw [hl.get]; exact hl.op 5 p _ true)
  have HCA := Lib.hid (fun W hA => add_ao q g h σ W hA (by omega) p a)
  have HCR := Lib.hid (fun W hr2 => radd_any gr base ρ W hr2 p hro a)
  generalize σ.op 5 p true (wrap64 (σ.get p + a)) = σ2 at *
  generalize ρ.op 5 p true (wrap64 (ρ.get p + a)) = ρ2 at *
  generalize (if σ.has p then wrap64 (σ.get p + a) else 0) = y1 at *
  generalize (if ρ.has p then wrap64 (ρ.get p + a) else 0) = y2 at *
  clear hl hro
  have HS := (show Sys q g h gr base (w.alloc (boxAc ⟨5, p, a, b⟩)) σ ρ from H.step (below_new _ _))
  have HB := (show (w.alloc (boxAc ⟨5, p, a, b⟩)).heap[w.heap.size]? = some (boxAc ⟨5, p, a, b⟩) from blk_new _ _)
  have hU0 : Upd base (gr :: ms q g h) w (w.alloc (boxAc ⟨5, p, a, b⟩)) := Upd.of_below ((below_new _ _).mono H.2.1.2.1)
  have hbz : base ≤ w.heap.size := H.2.1.2.1
  have hO := Lib.hid ho
  have hR := Lib.hid (show ρ.ops < 1000000 by rw [H.2.2.1.2.2.2.2.1]; exact ho)
  have hO2 := Lib.hid (show σ.ops ≤ 1000000 by omega)
  have HL := Lib.hid H.2.2.1
  clear H ho
  simp only [boxAc] at HS HB hU0
  have HS := Lib.hid HS
  have HB := Lib.hid HB
  have HU := Lib.hid hU0
  clear hU0
  go_enter Try.func30, Try.ntmps30
  go_wp2_with fail
  generalize w.alloc (.cells #[.int .i64 5, .int .i64 p, .int .i64 a, .int .i64 b] 54) = W1 at *
  generalize w.heap.size = bx at *
  obtain ⟨c0, c1, c2, c3⟩ := cellsA (x := ⟨5, p, a, b⟩) HB.out
  go_region_held3 (fun V => V.cell? ⟨bx, 0, none⟩ = some (.int .i64 5) ∧ V.cell? ⟨bx, 1, none⟩ = some (.int .i64 p) ∧ V.cell? ⟨bx, 2, none⟩ = some (.int .i64 a) ∧ V.cell? ⟨bx, 3, none⟩ = some (.int .i64 b))
    (first | exact ⟨c0, c1, c2, c3⟩ | exact cellsA (x := ⟨5, p, a, b⟩) bx3 | exact cellsA (x := ⟨5, p, a, b⟩) bx2)
    (first
      | (go_at_call 41; refine (HCA.out _ (HS.out.step drew0).1).mono ?_; rintro e w2 ⟨rfl, ha2, hm2⟩; obtain ⟨hr2, bx2⟩ := sys_mid (x := ⟨5, p, a, b⟩) (HS.out.step drew0) HB.out hbz hm2)
      | (go_at_call 77; refine (HCR.out _ hr2).mono ?_; rintro e w3 ⟨rfl, hr3, hrm3⟩; have bx3 := hrm3.blk bx2 (by decide) (by have := hr2.1; omega)))
  go_wp2_with fail
  obtain ⟨hs, hu, _⟩ := sys_end (HS.out.step drew0) hm2 ha2 bx2 hbz hr3 hrm3 HAL.out
  go_ret
  exact ⟨rfl, ⟨_, hs⟩, HU.out.trans ((Upd.of_below (drew0.mono HS.out.2.1.2.1)).trans hu)⟩
end Go.Proofs.Ytfdcojhgpfmloaa.Ara
