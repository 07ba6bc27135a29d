/- Merged texts: Na3, Na4, DoorN, Na6, TpB, NaF, Na5, NaB. -/
import Derived.Test.YtfnmggmgdmokcaaGreatDoorNq22
import Derived.Test.YtfnmggmgdmokcaaGreatDoorOpen
import Derived.HandedShaped
import Derived.SevenTiedAt
import Derived.LaidOnce
import Derived.Lay
import Derived.OpenShut
set_option linter.unusedVariables false
/- Package named: how many words a lock takes; which keep order; what must come, whatever the arguments are. -/
namespace Go.Proofs.YtfnmggmgdmokcaaGreatDoor.Na
open Go.RowKit Go.Sort Go.Proofs.YtfnmggmgdmokcaaGreatDoor.Li Go.Proofs.YtfnmggmgdmokcaaGreatDoor.De Go.Proofs.YtfnmggmgdmokcaaGreatDoor.Tp Go.Proofs.YtfnmggmgdmokcaaGreatDoor.Ara Go.Proofs.YtfnmggmgdmokcaaGreatDoor.Fl Go.Proofs.YtfnmggmgdmokcaaGreatDoor.Co Go.Proofs.YtfnmggmgdmokcaaGreatDoor.Cm

theorem few_any (p t : List Int) (A B : Option Addr) (c d : Nat) (w : World) : Calls Tryz.prog 9 #[(.agg #[.slice A p.length c, .slice B t.length d])] w fun e w' => e = .returned (.bool (decide (p.length ≤ 60) && decide (t.length ≤ 60))) ∧ Below w.heap.size w w' := by
  have HX := Lib.hid (Bx.made w (.slice A p.length c) (.slice B t.length d) 33)
  obtain ⟨r, hr⟩ : ∃ r, (decide (p.length ≤ 60) && decide (t.length ≤ 60)) = r := ⟨_, rfl⟩
  rw [hr]
  by_cases h : p.length ≤ 60
  · have i1 : (p.length : Int) ≤ 60 := by omega
    by_cases h2 : t.length ≤ 60
    · have i2 : (t.length : Int) ≤ 60 := by omega
      have HN := Lib.hid (show r = true by rw [← hr]; simp [h, h2])
      clear hr
      go_enter Tryz.func9, Tryz.ntmps9
      go_wp2_with fail
      go_ret
      exact ⟨by rw [HN.out]; rfl, HX.out.1⟩
    · have i2 : ¬ (t.length : Int) ≤ 60 := by omega
      have HN := Lib.hid (show r = false by rw [← hr]; simp [h2])
      clear hr
      go_enter Tryz.func9, Tryz.ntmps9
      go_wp2_with fail
      go_ret
      exact ⟨by rw [HN.out]; rfl, HX.out.1⟩
  · have i1 : ¬ (p.length : Int) ≤ 60 := by omega
    have HN := Lib.hid (show r = false by rw [← hr]; simp [h])
    clear hr
    go_enter Tryz.func9, Tryz.ntmps9
    go_wp2_with fail
    go_ret
    exact ⟨by rw [HN.out]; rfl, HX.out.1⟩
structure May (p t : List Int) (kg kl par bud : Int) (M : Nat) : Prop where
  k : chk p t = 0
  b : Bud.right bud = true
  o : (nwOf p t kg kl par bud).Ok
  r : (nwOf p t kg kl par bud).tN 0 (lvs p).length ≤ M
def NaR (p t : List Int) (kg kl par bud : Int) (M ga ha : Nat) (w : World) (e : Ending) (w' : World) : Prop :=
  (May p t kg kl par bud M ∧ NewC (nwOf p t kg kl par bud) (Ar.fresh M) ga ha w e w') ∨ (¬ May p t kg kl par bud M ∧ ∃ er, er ≠ 0 ∧ NErr er ga ha w e w')
theorem len_fresh (M : Nat) : (Ar.fresh M).ws.length = M := by simp [Ar.fresh, zerosW]
section
variable (p t : List Int) (A B : Option Addr) (c d : Nat) (w : World) (hs : Sl w w.heap.size A (p.flatMap decI)) (ht : Sl w w.heap.size B (t.flatMap decI)) (kg kl par bud : Int)
include hs ht
theorem new_any (M ga ha : Nat) (hM : M ≤ 4096) (hA : ArAt w ga ha (Ar.fresh M)) (hha : ha < w.heap.size) (hne : ga ≠ ha) :
    Calls Tryz.prog 11 #[.pointer (some ⟨ga, 0, none⟩), (.agg #[.slice A p.length c, .slice B t.length d]), (.agg #[.int .i64 kg, .int .i64 kl, .int .i64 par, .int .i64 bud])] w (NaR p t kg kl par bud M ga ha w) := by
  by_cases hck : chk p t = 0
  · cases hB : Bud.right bud with
    | false => exact (new_bad p t A B c d w hck hs ht _ kg kl par bud hB).mono fun e w' h => .inr ⟨fun m => absurd (hB.symm.trans m.b) (by decide), 1, (by decide), h.1, Mod.of_below h.2⟩
    | true =>
      refine (new_right p t A B c d w hck hs ht ga ha (Ar.fresh M) hA hha hne kg kl par bud hB (Nat.zero_le _) (by rw [len_fresh]; exact hM) (show 0 ≤ 1000 by omega)).mono fun e w' h => ?_
      rcases h with ⟨h1, h2, h3⟩ | ⟨h1, h2⟩
      · rw [len_fresh] at h2
        exact .inl ⟨⟨hck, hB, h1, h2⟩, h3⟩
      · rw [len_fresh] at h1
        exact .inr ⟨fun m => h1 ⟨m.o, m.r⟩, h2⟩
  · exact (new_no p t A B c d w hs ht hck _ kg kl par bud).mono fun e w' h => .inr ⟨fun m => hck m.k, chk p t, hck, h.1, Mod.of_below h.2⟩
def SzR (p t : List Int) (kg kl par bud : Int) (w : World) (e : Ending) (w' : World) : Prop :=
  Below w.heap.size w w' ∧ ((May p t kg kl par bud 4096 ∧ e = .returned (.tuple #[.int .i64 ((nwOf p t kg kl par bud).tN 0 (lvs p).length : Int), .int .i64 0])) ∨ (¬ May p t kg kl par bud 4096 ∧ ∃ er, er ≠ 0 ∧ e = .returned (.tuple #[.int .i64 0, .int .i64 er])))
omit hs ht in
theorem tot_t {M : Nat} (m : May p t kg kl par bud M) : ((nwOf p t kg kl par bud).st (Ar.fresh M)).σ.t = (nwOf p t kg kl par bud).tN 0 (lvs p).length :=
  (Nw.σ_gr m.o (σ0 := Ar.fresh M) (by rw [len_fresh]; exact m.r) _ (Nat.le_refl _)).2
set_option maxRecDepth 100000 in
theorem size_any : Calls Tryz.prog 8 #[(.agg #[.slice A p.length c, .slice B t.length d]), (.agg #[.int .i64 kg, .int .i64 kl, .int .i64 par, .int .i64 bud])] w (SzR p t kg kl par bud w) := by
  have HX := Lib.hid ((Bx.made w (.slice A p.length c) (.slice B t.length d) 33).step (below_new _ (.cells #[.int .i64 kg, .int .i64 kl, .int .i64 par, .int .i64 bud] 23)))
  have hx := blk_new (w.alloc (.cells #[.slice A p.length c, .slice B t.length d] 33)) (.cells #[.int .i64 kg, .int .i64 kl, .int .i64 par, .int .i64 bud] 23)
  have HS := Lib.hid hs
  have HT := Lib.hid ht
  have HN := Lib.hid (fun W h1 h2 M ga ha h3 h4 h5 h6 => new_any p t A B c d W h1 h2 kg kl par bud M ga ha h3 h4 h5 h6)
  clear hs ht
  have hz : (w.alloc (.cells #[.slice A p.length c, .slice B t.length d] 33)).heap.size = w.heap.size + 1 := by simp
  rw [hz] at hx
  go_enter Tryz.func8, Tryz.ntmps8
  go_upto_region 1 with fail
  generalize (w.alloc (.cells #[.slice A p.length c, .slice B t.length d] 33)).alloc (.cells #[.int .i64 kg, .int .i64 kl, .int .i64 par, .int .i64 bud] 23) = W0 at *
  have HQ := Lib.hid hx
  have c0 := HX.out.2.2.1
  have c1 := HX.out.2.2.2
  clear hx hz
  go_wp2_with fail
  refine (new_in 4096 _).mono ?_
  rintro e w1 ⟨rfl, ha1, hz1, b1⟩
  have HX1 := Lib.hid (HX.out.step b1)
  have hq1 := (b1.block _ (lt_of_blk HQ.out)).trans HQ.out
  have HA1 := Lib.hid (show ArAt w1 (W0.heap.size + 1) W0.heap.size (Ar.fresh 4096) from ha1)
  have hw0 := HX.out.1.size
  have hz2 : W0.heap.size < w1.heap.size := by omega
  clear ha1 b1 c0 c1 HX HQ hz1
  have c0 := HX1.out.2.2.1
  have c1 := HX1.out.2.2.2
  have q0 := blk_cell hq1 0 (by simp)
  have q1 := blk_cell hq1 1 (by simp)
  have q2 := blk_cell hq1 2 (by simp)
  have q3 := blk_cell hq1 3 (by simp)
  simp at q0 q1 q2 q3
  clear hq1
  generalize W0.heap.size = z at *
  go_wp2_with fail
  refine (HN.out _ (HX1.out.sl HS.out) (HX1.out.sl HT.out) 4096 (z + 1) z (Nat.le_refl _) HA1.out hz2 (by omega)).mono ?_
  rintro e w2 (⟨hm, cd, rfl, hK, ⟨g1, g2, g3⟩, hcol, hm2⟩ | ⟨hm, er, her, rfl, hm2⟩)
  · have HB2 := Lib.hid (Mod.below_of HX1.out.1 hm2 HX1.out.1.size (by simp; omega))
    have HM := Lib.hid hm
    have HL := Lib.hid (len_any cd.ga cd.ha _ w2 hK.d.ar)
    rw [tot_t p t kg kl par bud hm, g1] at HL
    clear hm hK g1 g2 g3 hcol hm2 HN HX1 HA1 c0 c1 q0 q1 q2 q3
    go_wp2_with fail
    refine HL.out.mono ?_
    rintro e wx ⟨rfl, hwx⟩
    obtain rfl := hwx.symm
    go_wp2_with fail
    go_ret2
    exact ⟨HB2.out, .inl ⟨HM.out, rfl⟩⟩
  · have HB2 := Lib.hid (Mod.below_of HX1.out.1 hm2 HX1.out.1.size (by simp; omega))
    have HM := Lib.hid hm
    have HE := Lib.hid her
    have q9 := ibne her
    clear hm her hm2 HN HX1 HA1 c0 c1 q0 q1 q2 q3
    go_wp2_with fail
    go_ret2
    exact ⟨HB2.out, .inr ⟨HM.out, er, HE.out, rfl⟩⟩
end
end Go.Proofs.YtfnmggmgdmokcaaGreatDoor.Na

/- The law's awake of layer 25. -/
namespace Go.Proofs.YtfnmggmgdmokcaaGreatDoor.Na
open Go.RowKit Go.Sort Go.Proofs.YtfnmggmgdmokcaaGreatDoor.Li Go.Proofs.YtfnmggmgdmokcaaGreatDoor.De Go.Proofs.YtfnmggmgdmokcaaGreatDoor.Tp Go.Proofs.YtfnmggmgdmokcaaGreatDoor.Ara Go.Proofs.YtfnmggmgdmokcaaGreatDoor.Fl Go.Proofs.YtfnmggmgdmokcaaGreatDoor.Co Go.Proofs.YtfnmggmgdmokcaaGreatDoor.Cm

set_option maxHeartbeats 4000000 in
theorem eqPr (a b c d : Int) (W : World) : (binOp .eql 23 (.agg #[.int .i64 a, .int .i64 b, .int .i64 c, .int .i64 d]) (.agg #[.int .i64 a, .int .i64 b, .int .i64 c, .int .i64 d])).run Tryz.prog W = .ok (.bool true) W := by
  have hp : Tryz.prog.stoodInHeld 23 = false := by kernel_rfl
  have key : ∀ n, (Op.equalIn (n + 1 + 1) 23 (.agg #[.int .i64 a, .int .i64 b, .int .i64 c, .int .i64 d]) (.agg #[.int .i64 a, .int .i64 b, .int .i64 c, .int .i64 d])).run Tryz.prog W = .ok true W := by
    intro n
    simp only [Op.equalIn, Sem.run_bind, run_underlying Tryz.underlying23, Result.andThen_ok, run_program, hp, Bool.false_eq_true, if_false]
    rw [← Array.forIn_toList]
    simp [go_sem]
  have k := key 9998
  simp only [binOp]
  simp [Op.equal, Op.maxDepth, k]
set_option maxHeartbeats 4000000 in
theorem nePr (a b c d : Int) (W : World) : (binOp .neq 23 (.agg #[.int .i64 a, .int .i64 b, .int .i64 c, .int .i64 d]) (.agg #[.int .i64 a, .int .i64 b, .int .i64 c, .int .i64 d])).run Tryz.prog W = .ok (.bool false) W := by
  have hp : Tryz.prog.stoodInHeld 23 = false := by kernel_rfl
  have key : ∀ n, (Op.equalIn (n + 1 + 1) 23 (.agg #[.int .i64 a, .int .i64 b, .int .i64 c, .int .i64 d]) (.agg #[.int .i64 a, .int .i64 b, .int .i64 c, .int .i64 d])).run Tryz.prog W = .ok true W := by
    intro n
    simp only [Op.equalIn, Sem.run_bind, run_underlying Tryz.underlying23, Result.andThen_ok, run_program, hp, Bool.false_eq_true, if_false]
    rw [← Array.forIn_toList]
    simp [go_sem]
  have k := key 9998
  simp only [binOp]
  simp [Op.equal, Op.maxDepth, k]
theorem eqGPr (x y : Operand) (xs ys : Array Value) (W : World) : (eqGuard .eql 23 x y (.agg xs) (.agg ys)).run Tryz.prog W = .ok () W := by
  have hm : Tryz.prog.eqGuardType Tryz.prog.depth 23 = false := by kernel_rfl
  simp [eqGuard, run_program, hm]
theorem neGPr (x y : Operand) (xs ys : Array Value) (W : World) : (eqGuard .neq 23 x y (.agg xs) (.agg ys)).run Tryz.prog W = .ok () W := by
  have hm : Tryz.prog.eqGuardType Tryz.prog.depth 23 = false := by kernel_rfl
  simp [eqGuard, run_program, hm]
theorem fifo_yes (w : World) : Calls Tryz.prog 13 #[.agg #[.int .i64 2, .int .i64 4, .int .i64 1, .int .i64 4]] w fun e w' => e = .returned (.bool true) ∧ Below w.heap.size w w' := by
  have hb := Lib.hid (below_new w (.cells #[.int .i64 2, .int .i64 4, .int .i64 1, .int .i64 4] 23))
  have k2 := Lib.hid (fun W => show Calls Tryz.prog 16 #[.int .i64 2] W fun e w' => e = .returned (.bool true) ∧ w' = W from kind_any 2 W)
  have k4 := Lib.hid (fun W => show Calls Tryz.prog 16 #[.int .i64 4] W fun e w' => e = .returned (.bool true) ∧ w' = W from kind_any 4 W)
  go_enter Tryz.func13, Tryz.ntmps13
  go_wp2_with fail
  refine (k2.out _).mono ?_
  rintro e wx ⟨rfl, hwx⟩
  obtain rfl := hwx.symm
  go_wp2_with fail
  refine (k4.out _).mono ?_
  rintro e wx ⟨rfl, hwx⟩
  obtain rfl := hwx.symm
  go_wp2_with fail
  go_ret
  exact ⟨rfl, hb.out⟩
theorem fifo_no (w : World) : Calls Tryz.prog 13 #[.agg #[.int .i64 1, .int .i64 2, .int .i64 0, .int .i64 0]] w fun e w' => e = .returned (.bool false) ∧ Below w.heap.size w w' := by
  have hb := Lib.hid (below_new w (.cells #[.int .i64 1, .int .i64 2, .int .i64 0, .int .i64 0] 23))
  have k2 := Lib.hid (fun W => show Calls Tryz.prog 16 #[.int .i64 1] W fun e w' => e = .returned (.bool true) ∧ w' = W from kind_any 1 W)
  have k4 := Lib.hid (fun W => show Calls Tryz.prog 16 #[.int .i64 2] W fun e w' => e = .returned (.bool true) ∧ w' = W from kind_any 2 W)
  go_enter Tryz.func13, Tryz.ntmps13
  go_wp2_with fail
  refine (k2.out _).mono ?_
  rintro e wx ⟨rfl, hwx⟩
  obtain rfl := hwx.symm
  go_wp2_with fail
  refine (k4.out _).mono ?_
  rintro e wx ⟨rfl, hwx⟩
  obtain rfl := hwx.symm
  go_wp2_with fail
  go_ret
  exact ⟨rfl, hb.out⟩
def pA : List Int := [-1, 0, 0]
def tA : List Int := [1, 1, 2]
theorem hckN : chk pA tA = 0 := by decide
theorem mayA : May pA tA 2 4 1 4 4096 := ⟨hckN, by decide, nw_ok hckN (by decide) (by decide) (by decide) (by decide), by decide⟩
theorem totA : (nwOf pA tA 2 4 1 4).tN 0 (lvs pA).length = 12 := by decide
def s1A : List UInt8 := [67, 45, 84, 75, 84, 45, 77, 67, 83, 47, 52, 47, 49]
def s2A : List UInt8 := [67, 45, 84, 75, 84, 45, 88, 47, 52, 47, 49]
theorem p1A : parseN s1A = ((2, 4, 1, 4), 0) := by kernel_rfl
theorem p2A : parseN s2A = ((0, 0, 0, 0), 7) := by kernel_rfl
theorem t1A : textN 1 5 8 0 = ([67, 45, 66, 79, 45, 67, 76, 72, 47, 48, 47, 56], 0) := by kernel_rfl
theorem parse1 (w : World) (hN : Nk w) : Calls Tryz.prog 7 #[.string ⟨#[67, 45, 84, 75, 84, 45, 77, 67, 83, 47, 52, 47, 49]⟩] w fun e w' => e = .returned (.tuple #[.agg #[.int .i64 2, .int .i64 4, .int .i64 1, .int .i64 4], .int .i64 0]) ∧ Below w.heap.size w w' := by
  have h := nparse_any s1A (by decide) w hN
  rw [p1A] at h
  exact h
theorem parse2 (w : World) (hN : Nk w) : Calls Tryz.prog 7 #[.string ⟨#[67, 45, 84, 75, 84, 45, 88, 47, 52, 47, 49]⟩] w fun e w' => e = .returned (.tuple #[.agg #[.int .i64 0, .int .i64 0, .int .i64 0, .int .i64 0], .int .i64 7]) ∧ Below w.heap.size w w' := by
  have h := nparse_any s2A (by decide) w hN
  rw [p2A] at h
  exact h
theorem text1 (w : World) (hN : Nk w) : Calls Tryz.prog 6 #[.agg #[.int .i64 1, .int .i64 5, .int .i64 8, .int .i64 0]] w fun e w' => e = .returned (.tuple #[.string ⟨#[67, 45, 66, 79, 45, 67, 76, 72, 47, 48, 47, 56]⟩, .int .i64 0]) ∧ Below w.heap.size w w' := by
  have h := ntext_any 1 5 8 0 (by omega) w hN
  rw [t1A] at h
  exact h
theorem size1 (A B : Option Addr) (w : World) (h1 : Sl w w.heap.size A (pA.flatMap decI)) (h2 : Sl w w.heap.size B (tA.flatMap decI)) : Calls Tryz.prog 8 #[.agg #[.slice A 3 3, .slice B 3 3], .agg #[.int .i64 2, .int .i64 4, .int .i64 1, .int .i64 4]] w fun e w' => e = .returned (.tuple #[.int .i64 12, .int .i64 0]) ∧ Below w.heap.size w w' := by
  refine (size_any pA tA A B 3 3 w h1 h2 2 4 1 4).mono ?_
  rintro e w' ⟨hb, (⟨hm, rfl⟩ | ⟨hm, _⟩)⟩
  · rw [totA]
    exact ⟨rfl, hb⟩
  · exact absurd mayA hm
theorem sl_names {W : World} {g : Nat} (h : Rw5 g W) : Sl W W.heap.size (some ⟨g, 0, none⟩) (nmL.map vS) := by
  refine .inr ⟨g, 0, rfl, h.l, fun j hj => ?_⟩
  have hj5 : j < 5 := hj
  rw [Nat.zero_add, h.c j hj5]
  rcases (show j = 0 ∨ j = 1 ∨ j = 2 ∨ j = 3 ∨ j = 4 by omega) with rfl | rfl | rfl | rfl | rfl <;> rfl
theorem same1 (A C : Option Addr) (c1 c2 : Nat) (w : World) (h1 : Sl w w.heap.size A (nmL.map vS)) (h2 : Sl w w.heap.size C (nmL.map vS)) : Calls Tryz.prog 14 #[.slice A 5 c1, .slice C 5 c2] w fun e w' => e = .returned (.bool true) ∧ Below w.heap.size w w' := by
  refine (rsame_any nmL nmL A C c1 c2 w (by decide) (by decide) h1 h2).mono ?_
  rintro e w' ⟨rfl, n, rfl⟩
  exact ⟨by rw [decide_eq_true rfl], below_drewN (Below.refl _ _) _⟩
structure Aw (w W : World) : Prop where
  b : Below w.heap.size w W
  n : Nk W
theorem Aw.step {w W V : World} (h : Aw w W) (b : Below W.heap.size W V) : Aw w V := ⟨h.b.trans (b.mono h.b.size), h.n.step b⟩
set_option maxRecDepth 100000 in
set_option maxHeartbeats 8000000 in
theorem nawake (w : World) (hN : Nk w) : Calls Tryz.prog 5 #[] w fun e w' => e = .returned (.bool true) ∧ Below w.heap.size w w' := by
  have HN := Lib.hid hN
  have q1 := fun a b c d W => eqPr a b c d W
  have q2 := fun x y xs ys W => eqGPr x y xs ys W
  clear hN
  go_enter Tryz.func5, Tryz.ntmps5
  go_wp2_with fail
  refine (parse1 _ HN.out).mono ?_
  rintro e w1 ⟨rfl, b1⟩
  have HA1 := Lib.hid ((Aw.step ⟨Below.refl _ _, HN.out⟩ b1).step (below_new w1 (.cells #[.int .i64 2, .int .i64 4, .int .i64 1, .int .i64 4] 23)))
  have HX := Lib.hid (blk_new w1 (.cells #[.int .i64 2, .int .i64 4, .int .i64 1, .int .i64 4] 23))
  clear b1 HN
  go_upto_region 2 with fail
  generalize w1.alloc (.cells #[.int .i64 2, .int .i64 4, .int .i64 1, .int .i64 4] 23) = W1 at *
  generalize w1.heap.size = bx at *
  go_wp2_with fail
  refine (parse2 _ HA1.out.n).mono ?_
  rintro e w2 ⟨rfl, b2⟩
  have HA2 := Lib.hid ((HA1.out.step b2).step (below_new w2 (.cells #[.int .i64 0, .int .i64 0, .int .i64 0, .int .i64 0] 23)))
  replace HX := Lib.hid (((below_new w2 (.cells #[.int .i64 0, .int .i64 0, .int .i64 0, .int .i64 0] 23)).block _ (Nat.lt_of_lt_of_le (lt_of_blk HX.out) b2.size)).trans ((b2.block _ (lt_of_blk HX.out)).trans HX.out))
  clear b2 HA1
  go_upto_region 3 with fail
  generalize w2.alloc (.cells #[.int .i64 0, .int .i64 0, .int .i64 0, .int .i64 0] 23) = W2 at *
  go_wp2_with fail
  refine (text1 _ HA2.out.n).mono ?_
  rintro e w3 ⟨rfl, b3⟩
  have HA3 := Lib.hid (HA2.out.step b3)
  replace HX := Lib.hid ((b3.block _ (lt_of_blk HX.out)).trans HX.out)
  clear b3 HA2
  have x0 := blk_cell HX.out 0 (by simp)
  have x1 := blk_cell HX.out 1 (by simp)
  have x2 := blk_cell HX.out 2 (by simp)
  have x3 := blk_cell HX.out 3 (by simp)
  simp at x0 x1 x2 x3
  have hl := lt_of_blk HX.out
  go_wp2_with fail
  have s1 := (Sl.made w3 #[.int .i64 (-1), .int .i64 0, .int .i64 0] 3).push (.cells #[.int .i64 1, .int .i64 1, .int .i64 2] 3)
  have s2 := Sl.made (w3.alloc (.cells #[.int .i64 (-1), .int .i64 0, .int .i64 0] 3)) #[.int .i64 1, .int .i64 1, .int .i64 2] 3
  have b4 := (below_new w3 (.cells #[.int .i64 (-1), .int .i64 0, .int .i64 0] 3)).trans ((below_new (w3.alloc (.cells #[.int .i64 (-1), .int .i64 0, .int .i64 0] 3)) (.cells #[.int .i64 1, .int .i64 1, .int .i64 2] 3)).mono (by simp))
  have hz : (w3.alloc (.cells #[.int .i64 (-1), .int .i64 0, .int .i64 0] 3)).heap.size = w3.heap.size + 1 := by simp
  rw [hz] at s2
  have HA4 := Lib.hid (HA3.out.step b4)
  replace HX := Lib.hid ((b4.block _ (lt_of_blk HX.out)).trans HX.out)
  clear x0 x1 x2 x3 b4 hz HA3
  generalize (w3.alloc (.cells #[.int .i64 (-1), .int .i64 0, .int .i64 0] 3)).alloc (.cells #[.int .i64 1, .int .i64 1, .int .i64 2] 3) = W4 at *
  refine (size1 _ _ _ s1 s2).mono ?_
  rintro e w5 ⟨rfl, b5⟩
  clear s1 s2
  have HA5 := Lib.hid (HA4.out.step b5)
  replace HX := Lib.hid ((b5.block _ (lt_of_blk HX.out)).trans HX.out)
  clear b5 HA4 hl
  have x0 := blk_cell HX.out 0 (by simp)
  have x1 := blk_cell HX.out 1 (by simp)
  have x2 := blk_cell HX.out 2 (by simp)
  have x3 := blk_cell HX.out 3 (by simp)
  simp at x0 x1 x2 x3
  go_wp2_with fail
  refine (fifo_yes _).mono ?_
  rintro e w6 ⟨rfl, b6⟩
  have HA6 := Lib.hid (HA5.out.step b6)
  clear b6 HA5 x0 x1 x2 x3 HX
  go_wp2_with fail
  refine (fifo_no _).mono ?_
  rintro e w7 ⟨rfl, b7⟩
  have HA7 := Lib.hid (HA6.out.step b7)
  clear b7 HA6
  go_wp2_with fail
  refine (names_any _ HA7.out.n).mono ?_
  rintro e w8 ⟨g8, c8, rfl, hn8, hg8, b8⟩
  have HA8 := Lib.hid (HA7.out.step b8)
  have HR := Lib.hid (show Rw5 g8 w8 from ⟨hn8, hg8⟩)
  clear b8 HA7 hn8 hg8
  go_wp2_with fail
  have b9 := below_new w8 (.cells #[.string ⟨#[66, 79]⟩, .string ⟨#[84, 75, 84]⟩, .string ⟨#[80, 84, 76]⟩, .string ⟨#[77, 67, 83]⟩, .string ⟨#[67, 76, 72]⟩] 9)
  have s3 := sl_names (HR.out.step b9)
  have s4 := Sl.made w8 #[.string ⟨#[66, 79]⟩, .string ⟨#[84, 75, 84]⟩, .string ⟨#[80, 84, 76]⟩, .string ⟨#[77, 67, 83]⟩, .string ⟨#[67, 76, 72]⟩] 9
  have HA9 := Lib.hid (HA8.out.step b9)
  clear b9 HA8 HR
  generalize w8.alloc (.cells #[.string ⟨#[66, 79]⟩, .string ⟨#[84, 75, 84]⟩, .string ⟨#[80, 84, 76]⟩, .string ⟨#[77, 67, 83]⟩, .string ⟨#[67, 76, 72]⟩] 9) = W9 at *
  refine (same1 _ _ _ _ _ s3 s4).mono ?_
  rintro e w10 ⟨rfl, b10⟩
  have HB := Lib.hid (HA9.out.step b10).b
  clear b10 HA9 s3 s4
  go_wp2_with fail
  go_ret
  exact ⟨rfl, HB.out⟩
end Go.Proofs.YtfnmggmgdmokcaaGreatDoor.Na

/- A law whose row lists tables that are laid: the wrap that hands on the world's shape and the tables' reading; what the names' table holds. -/
namespace Go.Proofs.YtfnmggmgdmokcaaGreatDoor
open Go.RowKit Go.ChangeShapes Go.WideShapes Go.Deep

theorem handed_laid2 {H : Type} {enc : TypeId × Value → H} {C : Checked} {os : Os} {f : FuncId} {fn : Func} {s : ChangeSpec} {conds : List PathCond} {fresh handsOn again : Bool} {X : World → Array Value → Prop}
    (hX : ∀ w w' args, w.heap = w'.heap → X w args → X w' args)
    (own : ownKnob C.prog.godebug = none) (started : os.Started) (noInit : C.prog.inits.idxOf? f = none) (hfn : C.prog.funcs[f]? = some fn)
    (witness : ∃ (w : World) (tape : Tape) (i : Input), w.os = os ∧ (w.forCall tape i).Shaped C.prog ∧ i.vars = [] ∧ Input.okWide C.prog (w.forCall tape i) .any w.heap.size f i ∧
      ((s.pre enc C.prog fn conds false (w.forCall tape i).memory i.args ∧ X (w.forCall tape i).memory i.args) ∧ sizedMet enc C.prog fn (OpenSpec.ofChange s) false (w.forCall tape i).memory i.args) ∧ ({} : Assume).holds C.prog (lone (Frame.enter C.prog f i.args .normal) [] (w.forCall tape i)))
    (contract : ∀ (W : World) (base : Nat) (args : Array Value) (ds gs : List (DataW H)) (before : List MemPlace), W.ShapedOpen C.prog → X W args →
      (∀ (j : Nat) t v, fn.params[j]? = some t → args[j]? = some v → Value.okWide C.prog W .any base t v) →
      DataW.Whole enc C.prog fn.params.toList s.vars false W args.toList ds gs before →
      Calls C.prog f args W fun e W' => ∃ v, e = .returned v ∧ s.post enc C.prog fn false fresh handsOn again W args v W') :
    ReturnsInHanded {} C os f .any (fun w args => (s.pre enc C.prog fn conds false w args ∧ X w args) ∧ sizedMet enc C.prog fn (OpenSpec.ofChange s) false w args) (s.post enc C.prog fn false fresh handsOn again) := by
  refine returnsInHanded_of_calls own started noInit witness ?_
  intro w tape i _ hsh _ hok hpre _
  obtain ⟨_, _, _, g, hg, _, _, _, _, hval⟩ := hok
  obtain rfl : g = fn := Option.some.inj (hg.symm.trans hfn)
  obtain ⟨⟨⟨ds, gs, before, hw, _⟩, hx⟩, _⟩ := hpre
  refine (contract (w.forCall tape i) w.heap.size i.args ds gs before hsh (hX _ (w.forCall tape i) _ (by rfl) hx) hval (DataW.Whole.of_heap (w' := w.forCall tape i) (by rfl) hw)).mono fun e W' ⟨v, he, hp⟩ => ?_
  subst he
  exact ChangeSpec.post_blind hp
namespace Na
theorem names_laid {W : World} (h : laidMetH Tryz.prog Rows.namedBackRow.laid W) : ∀ j, j < 5 → W.cell? ⟨0, j, none⟩ = some (Li.vS (nmA j)) := by
  rw [MakeChecks.laidMetH_plain _ _ _ (by kernel_rfl)] at h
  obtain ⟨ps, ⟨_, _, _, _, _, _, _, _, _, _, ⟨g, t, cs, fuel, p, q, hg, ht, hv, hd, _, _⟩, _⟩, _, _⟩ := h
  obtain rfl := Option.some.inj ((show Tryz.prog.globalNamed "kissgate/named.names" = some 0 by kernel_rfl).symm.trans hg)
  obtain rfl := Option.some.inj ((show (Tryz.prog.globals[0]?).map (·.type) = some 49 by kernel_rfl).symm.trans ht)
  obtain ⟨xs, m, _, ex, _, hl, hel⟩ := DataW.trod_array Tryz.underlying49 hd
  have c9 : Tryz.prog.cellsOf 9 = 1 := by kernel_rfl
  intro j hj
  have hE := hel j hj
  rw [c9, Nat.mul_one, List.getElem?_eq_getElem (by omega)] at hE
  obtain ⟨z, e1, e2, _⟩ := DataW.trod_string Tryz.underlying9 hE
  have e3 : xs.map (·.1) = ([.lit (.string [66, 79]), .lit (.string [84, 75, 84]), .lit (.string [80, 84, 76]), .lit (.string [77, 67, 83]), .lit (.string [67, 76, 72])] : List (DataW Unit)) := (DataW.agg.inj (Prod.mk.inj ex).1).symm
  have e4 : (xs.map (·.1))[j]? = some (.lit (.string (nmA j))) := by
    rw [e3]
    rcases (show j = 0 ∨ j = 1 ∨ j = 2 ∨ j = 3 ∨ j = 4 by omega) with rfl | rfl | rfl | rfl | rfl <;> rfl
  rw [List.getElem?_map, List.getElem?_eq_getElem (by omega : j < xs.length), e2] at e4
  have hz : z = Li.B (nmA j) := by
    simp only [Option.map_some, Option.some.injEq, DataW.lit.injEq, Lit.string.injEq] at e4
    rw [← Li.B_L z]
    exact congrArg Li.B e4
  rw [World.var?_cell hg hv j]
  show cs[j]? = some (.string (Li.B (nmA j)))
  rw [← hz]
  have : cs.toList[j]? = some (.string z) := by
    have h0 : ((cs.toList.drop j).take 1)[0]? = some (.string z) := by rw [e1]; rfl
    simpa using h0
  simpa using this
theorem nk_of {W : World} (hm : ∃ m : Int, W.cell? ⟨1, 0, none⟩ = some (.int .i64 m)) (h : laidMetH Tryz.prog Rows.namedBackRow.laid W) : Nk W := by
  refine ⟨hm, names_laid h, ?_⟩
  obtain ⟨m, hm⟩ := hm
  rcases Nat.lt_or_ge 1 W.heap.size with k | k
  · exact k
  · have : W.heap[1]? = none := Array.getElem?_eq_none k
    simp [World.cell?, this] at hm
structure Pr4 where
  g : Int
  l : Int
  par : Int
  b : Int
def decPr (e : Pr4) : List Value := [.int .i64 e.g, .int .i64 e.l, .int .i64 e.par, .int .i64 e.b]
theorem reads_pr {H : Type} {enc : TypeId × Value → H} : Reads enc Tryz.prog 23 decPr (fun e => isI64 e.par) :=
  (reads_s4 (d0 := Value.int .i64) (d1 := Value.int .i64) (d2 := Value.int .i64) (d3 := Value.int .i64) Tryz.underlying23 (by kernel_rfl) (by kernel_rfl) (reads_i64 Tryz.underlying3) (reads_i64 Tryz.underlying3) (reads_i64 Tryz.underlying3) (reads_i64 Tryz.underlying3)).map
    (fun p => ⟨p.1, p.2.1, p.2.2.1, p.2.2.2⟩) (fun _ => rfl) (fun _ h => h.2.2.1)
end Na
end Go.Proofs.YtfnmggmgdmokcaaGreatDoor

/- The law NamedFits: a lock fits into as many words as are told, and into no fewer. -/
namespace Go.Proofs.YtfnmggmgdmokcaaGreatDoor.Na
open Go.RowKit Go.Sort Go.Proofs.YtfnmggmgdmokcaaGreatDoor.Li Go.Proofs.YtfnmggmgdmokcaaGreatDoor.De Go.Proofs.YtfnmggmgdmokcaaGreatDoor.Tp Go.Proofs.YtfnmggmgdmokcaaGreatDoor.Ara Go.Proofs.YtfnmggmgdmokcaaGreatDoor.Fl Go.Proofs.YtfnmggmgdmokcaaGreatDoor.Co Go.Proofs.YtfnmggmgdmokcaaGreatDoor.Cm

theorem size_pos (kind : Int) (n : Nat) (par : Int) : 1 ≤ sizeK kind n par := by
  unfold sizeK
  repeat' split
  all_goals omega
structure Fb (w : World) (X Y : Value) (kg kl par bud : Int) (W : World) : Prop where
  b : Bx w W X Y
  q : W.heap[w.heap.size + 1]? = some (.cells #[.int .i64 kg, .int .i64 kl, .int .i64 par, .int .i64 bud] 23 (0, 0))
  n : Nk W
theorem Fb.mod {w : World} {X Y : Value} {kg kl par bud : Int} {W V : World} {S : List Nat} (h : Fb w X Y kg kl par bud W) (hm : Mod S W V) (hS : ∀ b ∈ S, w.heap.size + 1 < b) (h2 : 2 ≤ w.heap.size) : Fb w X Y kg kl par bud V := by
  obtain ⟨b1, b2, b3, b4⟩ := h.b
  have no : ∀ q, q ≤ w.heap.size + 1 → q ∉ S := fun q hq hx => by have := hS q hx; omega
  have hs := h.n.sz
  obtain ⟨m, hm2⟩ := h.n.mx
  exact ⟨⟨Mod.below_of b1 hm b1.size (fun b hb => by have := hS b hb; omega), Nat.lt_of_lt_of_le b2 hm.size, (cell_mod hm (p := ⟨w.heap.size, 0, none⟩) b2 (no _ (Nat.le_succ _))).trans b3, (cell_mod hm (p := ⟨w.heap.size, 1, none⟩) b2 (no _ (Nat.le_succ _))).trans b4⟩, hm.blk h.q (no _ (Nat.le_refl _)),
    ⟨⟨m, (cell_mod hm (p := ⟨1, 0, none⟩) (by show 1 < _; omega) (no _ (by show 1 ≤ _; omega))).trans hm2⟩, fun j hj => (cell_mod hm (p := ⟨0, j, none⟩) (by show 0 < _; omega) (no _ (Nat.zero_le _))).trans (h.n.nm j hj), Nat.le_trans hs hm.size⟩⟩
theorem Fb.step {w : World} {X Y : Value} {kg kl par bud : Int} {W V : World} (h : Fb w X Y kg kl par bud W) (b : Below W.heap.size W V) : Fb w X Y kg kl par bud V :=
  ⟨h.b.step b, (b.block _ (lt_of_blk h.q)).trans h.q, h.n.step b⟩
section
variable (p t : List Int) (A B : Option Addr) (c d : Nat) (w : World) (hN : Nk w) (hs : Sl w w.heap.size A (p.flatMap decI)) (ht : Sl w w.heap.size B (t.flatMap decI)) (kg kl par bud : Int)
include hN hs ht
set_option maxRecDepth 100000 in
set_option maxHeartbeats 8000000 in
theorem nfits : Calls Tryz.prog 4 #[(.agg #[.slice A p.length c, .slice B t.length d]), (.agg #[.int .i64 kg, .int .i64 kl, .int .i64 par, .int .i64 bud])] w fun e w' => e = .returned (.bool true) ∧ Below w.heap.size w w' := by
  have HAW := Lib.hid (fun W (h : Nk W) => nawake W h)
  have HS := Lib.hid hs
  have HT := Lib.hid ht
  have HSZ := Lib.hid (fun W h1 h2 => size_any p t A B c d W h1 h2 kg kl par bud)
  have HNW := Lib.hid (fun W h1 h2 M ga ha h3 h4 h5 h6 => new_any p t A B c d W h1 h2 kg kl par bud M ga ha h3 h4 h5 h6)
  have HFW := Lib.hid (fun W => few_any p t A B c d W)
  have h2 := hN.sz
  have HF0 := Lib.hid (show Fb w (.slice A p.length c) (.slice B t.length d) kg kl par bud ((w.alloc (.cells #[.slice A p.length c, .slice B t.length d] 33)).alloc (.cells #[.int .i64 kg, .int .i64 kl, .int .i64 par, .int .i64 bud] 23)) by
    have hx := blk_new (w.alloc (.cells #[.slice A p.length c, .slice B t.length d] 33)) (.cells #[.int .i64 kg, .int .i64 kl, .int .i64 par, .int .i64 bud] 23)
    rw [show (w.alloc (.cells #[.slice A p.length c, .slice B t.length d] 33)).heap.size = w.heap.size + 1 by simp] at hx
    exact ⟨(Bx.made w _ _ 33).step (below_new _ (.cells #[.int .i64 kg, .int .i64 kl, .int .i64 par, .int .i64 bud] 23)), hx, (hN.step (below_new w (.cells #[.slice A p.length c, .slice B t.length d] 33))).step (below_new _ (.cells #[.int .i64 kg, .int .i64 kl, .int .i64 par, .int .i64 bud] 23))⟩)
  clear hs ht hN
  go_enter Tryz.func4, Tryz.ntmps4
  go_upto_region 1 with fail
  generalize (w.alloc (.cells #[.slice A p.length c, .slice B t.length d] 33)).alloc (.cells #[.int .i64 kg, .int .i64 kl, .int .i64 par, .int .i64 bud] 23) = W0 at *
  have c0 := (HF0.out).b.2.2.1
  have c1 := (HF0.out).b.2.2.2
  have q0 := blk_cell (HF0.out).q 0 (by simp)
  have q1 := blk_cell (HF0.out).q 1 (by simp)
  have q2 := blk_cell (HF0.out).q 2 (by simp)
  have q3 := blk_cell (HF0.out).q 3 (by simp)
  simp at q0 q1 q2 q3
  go_wp2_with fail
  refine (HSZ.out _ (HF0.out.b.sl HS.out) (HF0.out.b.sl HT.out)).mono ?_
  rintro e w1 ⟨b1, (⟨hm, rfl⟩ | ⟨hm, er, her, rfl⟩)⟩
  · have HF1 := Lib.hid (HF0.out.step b1)
    clear b1 HF0 c0 c1 q0 q1 q2 q3 HSZ
    obtain ⟨l1, l2, l3, l4⟩ := chk_len hm.k
    rw [decide_eq_true (show p.length ≤ 60 by omega), decide_eq_true (show t.length ≤ 60 by omega)] at HFW
    obtain ⟨n, hn⟩ : ∃ n, (nwOf p t kg kl par bud).tN 0 (lvs p).length = n := ⟨_, rfl⟩
    have hn1 : 1 ≤ n := by
      have h3 := (nwOf p t kg kl par bud).tN_le 0 (Nat.zero_le (lvs p).length)
      have h4 : (nwOf p t kg kl par bud).tN 0 0 = 0 + sizeK kg (lvs p).length par := rfl
      have h5 := size_pos kg (lvs p).length par
      omega
    have hn2 : n ≤ 4096 := by have := hm.r; omega
    have HMY := Lib.hid (show May p t kg kl par bud n from ⟨hm.k, hm.b, hm.o, Nat.le_of_eq hn⟩)
    have HTT := Lib.hid ((tot_t p t kg kl par bud (show May p t kg kl par bud n from ⟨hm.k, hm.b, hm.o, Nat.le_of_eq hn⟩)).trans hn)
    have HFL := Lib.hid (fun W h1 h2 ga ha (hA : ArAt W ga ha (Ar.fresh (n - 1))) h4 h5 => new_full p t A B c d W hm.k h1 h2 ga ha (Ar.fresh (n - 1)) hA h4 h5 kg kl par bud hm.b (Nat.zero_le _) (by rw [len_fresh]; omega) (show 0 ≤ 1000 by omega) hm.o (by rw [len_fresh]; show ¬ (nwOf p t kg kl par bud).tN 0 (lvs p).length ≤ n - 1; omega))
    have hr1 : room (n : Int) = n := by unfold room; rw [if_neg (by omega), if_neg (by omega)]; omega
    have hr2 : room ((n : Int) - 1) = n - 1 := by unfold room; rw [if_neg (by omega), if_neg (by omega)]; omega
    have HR1 := Lib.hid hr1
    have HR2 := Lib.hid hr2
    rw [hn]
    clear hm hn l1 l2 l3 l4 hr1 hr2
    have c0 := HF1.out.b.2.2.1
    have c1 := HF1.out.b.2.2.2
    have i1 : (0 : Int) < (n : Int) := by omega
    have i2 : (n : Int) ≤ 4096 := by omega
    have e1 : IntKind.i64.wrap ((n : Int) - 1) = (n : Int) - 1 := IntWalk.i64_in _ (by omega)
    go_wp2_with fail
    refine (HFW.out _).mono ?_
    rintro e w2 ⟨rfl, b2⟩
    have HF2 := Lib.hid (HF1.out.step b2)
    clear b2 HF1 c0 c1 HFW
    go_wp2_with fail
    refine (new_in (n : Int) _).mono ?_
    rintro e w3 ⟨rfl, ha3, hz3, b3⟩
    rw [HR1.out] at ha3
    have HA3 := Lib.hid ha3
    have HF3 := Lib.hid (HF2.out.step b3)
    have hw2 : w.heap.size + 1 < w2.heap.size := lt_of_blk HF2.out.q
    have hl3 : w2.heap.size + 1 < w3.heap.size := by omega
    clear ha3 b3 HF2 HR1 hz3
    generalize w2.heap.size = z2 at *
    go_wp2_with fail
    refine (new_in ((n : Int) - 1) _).mono ?_
    rintro e w4 ⟨rfl, ha4, hz4, b4⟩
    rw [HR2.out] at ha4
    have HA4 := Lib.hid ha4
    replace HA3 := Lib.hid (HA3.out.step b4)
    have HF4 := Lib.hid (HF3.out.step b4)
    have hl4 : w3.heap.size + 1 < w4.heap.size := by omega
    clear ha4 b4 HF3 HR2 hz4
    generalize w3.heap.size = z3 at *
    have c0 := (HF4.out).b.2.2.1
    have c1 := (HF4.out).b.2.2.2
    have q0 := blk_cell (HF4.out).q 0 (by simp)
    have q1 := blk_cell (HF4.out).q 1 (by simp)
    have q2 := blk_cell (HF4.out).q 2 (by simp)
    have q3 := blk_cell (HF4.out).q 3 (by simp)
    simp at q0 q1 q2 q3
    go_wp2_with fail
    refine (HNW.out _ (HF4.out.b.sl HS.out) (HF4.out.b.sl HT.out) n (z2 + 1) z2 hn2 HA3.out (by omega) (by omega)).mono ?_
    rintro e w5 (⟨-, cd, rfl, hK, ⟨g1, g2, g3⟩, hcol, hm5⟩ | ⟨hm, _⟩)
    · have hk := hK.d.ar
      rw [g1, g2] at hk
      have HK := Lib.hid hk
      replace HA4 := Lib.hid (HA4.out.mod hm5 (by simp; omega) (by simp; omega))
      have HF5 := Lib.hid (HF4.out.mod hm5 (by simp; omega) h2)
      have hz5 := hm5.size
      clear hk hK g1 g2 g3 hcol hm5 HF4 HA3 HNW c0 c1 q0 q1 q2 q3
      have c0 := (HF5.out).b.2.2.1
      have c1 := (HF5.out).b.2.2.2
      have q0 := blk_cell (HF5.out).q 0 (by simp)
      have q1 := blk_cell (HF5.out).q 1 (by simp)
      have q2 := blk_cell (HF5.out).q 2 (by simp)
      have q3 := blk_cell (HF5.out).q 3 (by simp)
      simp at q0 q1 q2 q3
      go_wp2_with fail
      refine (HFL.out _ (HF5.out.b.sl HS.out) (HF5.out.b.sl HT.out) (z3 + 1) z3 HA4.out (by omega) (by omega)).mono ?_
      rintro e w6 ⟨rfl, hm6⟩
      have HK6 := Lib.hid (len_any _ _ _ _ (HK.out.mod hm6 (by simp; omega) (by simp; omega)))
      rw [HTT.out] at HK6
      have HF6 := Lib.hid (HF5.out.mod hm6 (by simp; omega) h2)
      clear hm6 HF5 HA4 HFL HK HTT c0 c1 q0 q1 q2 q3
      go_wp2_with fail
      refine HK6.out.mono ?_
      rintro e wx ⟨rfl, hwx⟩
      obtain rfl := hwx.symm
      go_wp2_with fail
      refine (HAW.out _ HF6.out.n).mono ?_
      rintro e w9 ⟨rfl, b9⟩
      have HB := Lib.hid (HF6.out.b.1.trans (b9.mono HF6.out.b.1.size))
      clear b9
      go_wp2_with fail
      go_ret
      exact ⟨rfl, HB.out⟩
    · exact absurd HMY.out hm
  · have HF1 := Lib.hid (HF0.out.step b1)
    have q9 := ibne her
    clear b1 HF0 c0 c1 q0 q1 q2 q3 HSZ hm her
    have c0 := HF1.out.b.2.2.1
    have c1 := HF1.out.b.2.2.2
    generalize (decide (p.length ≤ 60) && decide (t.length ≤ 60)) = fw at *
    cases fw <;>
    · go_wp2_with fail
      refine (HFW.out _).mono ?_
      rintro e w2 ⟨rfl, b2⟩
      have HF2 := Lib.hid (HF1.out.step b2)
      clear b2 HF1 c0 c1 HFW
      go_wp2_with fail
      refine (HAW.out _ HF2.out.n).mono ?_
      rintro e w9 ⟨rfl, b9⟩
      have HB := Lib.hid (HF2.out.b.1.trans (b9.mono HF2.out.b.1.size))
      clear b9
      go_wp2_with fail
      go_ret
      exact ⟨rfl, HB.out⟩
end
end Go.Proofs.YtfnmggmgdmokcaaGreatDoor.Na

/- A topology as an argument: how it is read. -/
namespace Go.Proofs.YtfnmggmgdmokcaaGreatDoor.Tp
open Go.RowKit Go.ChangeShapes Go.WideShapes Go.Deep Go.Proofs.YtfnmggmgdmokcaaGreatDoor.Li Go.Proofs.YtfnmggmgdmokcaaGreatDoor.De Go.Proofs.YtfnmggmgdmokcaaGreatDoor.Ara Go.Proofs.YtfnmggmgdmokcaaGreatDoor.Ara
theorem arg_topo {H : Type} {enc : TypeId × Value → H} {w : World} {base : Nat} {spare : Nat → Bool} {held : Bool} {v : Value} {D : DataW H} {pl : List MemPlace} (hv : ∃ cs, v = .agg cs) (h : DataW.Trod enc Tryz.prog w base spare held 33 v D pl) :
    ∃ (A B : Option Addr) (c d : Nat) (p t : List Int), v = .agg #[.slice A p.length c, .slice B t.length d] ∧ p.length ≤ c ∧ c ≤ maxLen ∧ t.length ≤ d ∧ d ≤ maxLen ∧ Sl w w.heap.size A (p.flatMap decI) ∧ Sl w w.heap.size B (t.flatMap decI) := by
  obtain ⟨cs, rfl⟩ := hv
  obtain ⟨fuel, hf⟩ := h
  obtain ⟨hl, hfl⟩ := fields_of Tryz.underlying33 (by kernel_rfl) (by kernel_rfl) hf
  have hl2 : cs.toList.length = 2 := hl
  obtain ⟨x, y, e⟩ := list2 hl2
  have e' : (Value.agg cs).cells.toList = [x, y] := e
  rw [e'] at hfl
  obtain ⟨_, _, g0⟩ := hfl 0 _ x rfl rfl
  obtain ⟨_, _, g1⟩ := hfl 1 _ y rfl rfl
  obtain ⟨A, n, c, p, h1, rfl, h2, h3, _, h4⟩ := slice_of (k := 1) Tryz.underlying31 (by kernel_rfl) (fun _ => rfl) (reads_i64 Tryz.underlying3) g0
  obtain ⟨B, m, d, t, k1, rfl, k2, k3, _, k4⟩ := slice_of (k := 1) Tryz.underlying31 (by kernel_rfl) (fun _ => rfl) (reads_i64 Tryz.underlying3) g1
  injection h1 with h1
  injection k1 with k1
  subst h1 k1
  refine ⟨A, B, c, d, p, t, ?_, h2, h3, k2, k3, h4, k4⟩
  congr 1
  apply Array.ext'
  rw [e]
end Go.Proofs.YtfnmggmgdmokcaaGreatDoor.Tp

/- The law NamedFits, its arguments as they are read. -/
namespace Go.Proofs.YtfnmggmgdmokcaaGreatDoor.Na
open Go.RowKit Go.Proofs.YtfnmggmgdmokcaaGreatDoor.Tp Go.Proofs.YtfnmggmgdmokcaaGreatDoor.Li Go.Proofs.YtfnmggmgdmokcaaGreatDoor.De Go.Proofs.YtfnmggmgdmokcaaGreatDoor.Ara
theorem fits_law (w : World) (hN : Nk w) (A B : Option Addr) (c d : Nat) (p t : List Int) (_hc : p.length ≤ c) (_hm : c ≤ maxLen) (_hd : t.length ≤ d) (_hn : d ≤ maxLen) (hs : Sl w w.heap.size A (p.flatMap decI)) (ht : Sl w w.heap.size B (t.flatMap decI)) (x : Pr4) (_h : isI64 x.par) :
    Calls Tryz.prog 4 #[.agg #[.slice A p.length c, .slice B t.length d], .agg (decPr x).toArray] w fun e w' => e = .returned (.bool true) ∧ Below w.heap.size w w' := nfits p t A B c d w hN hs ht x.g x.l x.par x.b
end Go.Proofs.YtfnmggmgdmokcaaGreatDoor.Na

/- The law NamedBack: a lock comes back from its name, and a name is its lock's. -/
namespace Go.Proofs.YtfnmggmgdmokcaaGreatDoor.Na
open Go.RowKit Go.Sort Go.Proofs.YtfnmggmgdmokcaaGreatDoor.Li Go.Proofs.YtfnmggmgdmokcaaGreatDoor.De Go.Proofs.YtfnmggmgdmokcaaGreatDoor.Tp Go.Proofs.YtfnmggmgdmokcaaGreatDoor.Ara Go.Proofs.YtfnmggmgdmokcaaGreatDoor.Fl Go.Proofs.YtfnmggmgdmokcaaGreatDoor.Co Go.Proofs.YtfnmggmgdmokcaaGreatDoor.Cm

theorem text_len {g l par b : Int} (hp : -9223372036854775808 ≤ par ∧ par ≤ 9223372036854775807) : (textN g l par b).1.length ≤ 4000 := by
  unfold textN
  by_cases hk : (kok g && kok l) = true
  · rw [if_pos hk]
    rw [Bool.and_eq_true] at hk
    by_cases hb : bok b = true
    · rw [if_pos hb]
      have hb' : -9223372036854775808 ≤ b ∧ b ≤ 9223372036854775807 := by
        unfold bok at hb
        rw [Bool.and_eq_true, decide_eq_true_iff, decide_eq_true_iff] at hb
        omega
      have := body_len hk.1 hk.2 hp hb'
      show (bodyN g l par b).length ≤ 4000
      omega
    · rw [if_neg hb]
      decide
  · rw [if_neg hk]
    decide
theorem z64 : -9223372036854775808 ≤ (0 : Int) ∧ (0 : Int) ≤ 9223372036854775807 := by decide
theorem parse_par (s : List UInt8) : -9223372036854775808 ≤ (parseN s).1.2.2.1 ∧ (parseN s).1.2.2.1 ≤ 9223372036854775807 := by
  unfold parseN
  cases three (cut 47 [] s) with
  | none => exact z64
  | some abc =>
    obtain ⟨a, b, c⟩ := abc
    show -9223372036854775808 ≤ (partsN (three (cut 45 [] a)) (prs b) (prs c)).1.2.2.1 ∧ (partsN (three (cut 45 [] a)) (prs b) (prs c)).1.2.2.1 ≤ 9223372036854775807
    cases three (cut 45 [] a) with
    | none => exact z64
    | some xyz =>
      obtain ⟨x, y, z⟩ := xyz
      cases hb : prs b with
      | none => exact z64
      | some n =>
        cases hc : prs c with
        | none => exact z64
        | some par =>
          show -9223372036854775808 ≤ (fillN x y z n par).1.2.2.1 ∧ (fillN x y z n par).1.2.2.1 ≤ 9223372036854775807
          unfold fillN
          split
          · split
            · exact (prs_some hc).1
            · exact z64
          · exact z64
set_option maxRecDepth 100000 in
set_option maxHeartbeats 8000000 in
theorem nback (w : World) (hN : Nk w) (g l par b : Int) (hp : -9223372036854775808 ≤ par ∧ par ≤ 9223372036854775807) (s : List UInt8) (hs : s.length ≤ 9223372036854775807) :
    Calls Tryz.prog 3 #[(.agg #[.int .i64 g, .int .i64 l, .int .i64 par, .int .i64 b]), vS s] w fun e w' => e = .returned (.bool true) ∧ Below w.heap.size w w' := by
  have hsB := size_B s
  have HAW := Lib.hid (fun W (h : Nk W) => nawake W h)
  have HA0 := Lib.hid (Aw.step ⟨Below.refl _ _, hN⟩ (below_new w (.cells #[.int .i64 g, .int .i64 l, .int .i64 par, .int .i64 b] 23)))
  have HX0 := Lib.hid (blk_new w (.cells #[.int .i64 g, .int .i64 l, .int .i64 par, .int .i64 b] 23))
  by_cases hlen : s.length ≤ 100
  · have i1 : ¬ (100 : Int) < (s.length : Int) := by omega
    have q1 := fun a b c d W => eqPr a b c d W
    have q2 := fun x y xs ys W => eqGPr x y xs ys W
    have q3 := fun a b c d W => nePr a b c d W
    have q4 := fun x y xs ys W => neGPr x y xs ys W
    have HPT := Lib.hid (fun h => parse_text (g := g) (l := l) (par := par) (b := b) h hp)
    have HS1 := Lib.hid (fun W (h : Nk W) => nparse_any (textN g l par b).1 (text_len hp) W h)
    have HT1 := Lib.hid (fun W (h : Nk W) => ntext_any g l par b hp W h)
    generalize textN g l par b = tx at *
    obtain ⟨tt, er⟩ := tx
    simp only at HPT HS1 HT1
    clear hN hsB
    by_cases h0 : er = 0
    · subst h0
      rw [HPT.out rfl] at HS1
      clear HPT
      go_enter Tryz.func3, Tryz.ntmps3
      go_upto_region 1 with fail
      generalize w.alloc (.cells #[.int .i64 g, .int .i64 l, .int .i64 par, .int .i64 b] 23) = W0 at *
      have HA := HA0
      have HX := HX0
      have x0 := blk_cell HX.out 0 (by simp)
      have x1 := blk_cell HX.out 1 (by simp)
      have x2 := blk_cell HX.out 2 (by simp)
      have x3 := blk_cell HX.out 3 (by simp)
      simp at x0 x1 x2 x3
      go_wp2_with fail
      refine (HT1.out _ HA.out.n).mono ?_
      rintro e w1 ⟨rfl, b1'⟩
      replace HA := Lib.hid (HA.out.step b1')
      replace HX := Lib.hid ((b1'.block _ (lt_of_blk HX.out)).trans HX.out)
      clear x0 x1 x2 x3 b1'
      go_wp2_with fail
      refine (HS1.out _ HA.out.n).mono ?_
      rintro e w2 ⟨rfl, b2'⟩
      simp only
      replace HA := Lib.hid (HA.out.step b2')
      replace HX := Lib.hid ((b2'.block _ (lt_of_blk HX.out)).trans HX.out)
      clear b2'
      replace HA := Lib.hid (HA.out.step (below_new w2 (.cells #[.int .i64 g, .int .i64 l, .int .i64 par, .int .i64 b] 23)))
      have HX2 := Lib.hid (((below_new w2 (.cells #[.int .i64 g, .int .i64 l, .int .i64 par, .int .i64 b] 23)).block _ (lt_of_blk HX.out)).trans HX.out)
      have HY := Lib.hid (blk_new w2 (.cells #[.int .i64 g, .int .i64 l, .int .i64 par, .int .i64 b] 23))
      go_upto_region 5 with fail
      generalize w2.alloc (.cells #[.int .i64 g, .int .i64 l, .int .i64 par, .int .i64 b] 23) = W2 at *
      generalize w2.heap.size = b7 at *
      clear HX
      have x0 := blk_cell HX2.out 0 (by simp)
      have x1 := blk_cell HX2.out 1 (by simp)
      have x2 := blk_cell HX2.out 2 (by simp)
      have x3 := blk_cell HX2.out 3 (by simp)
      simp at x0 x1 x2 x3
      have y0 := blk_cell HY.out 0 (by simp)
      have y1 := blk_cell HY.out 1 (by simp)
      have y2 := blk_cell HY.out 2 (by simp)
      have y3 := blk_cell HY.out 3 (by simp)
      simp at y0 y1 y2 y3
      go_upto_region 7 with fail
      clear x0 x1 x2 x3 y0 y1 y2 y3 HX2 HY HS1 HT1 HX0 HA0
      have HQ := Lib.hid (text_parse s)
      have HPI := Lib.hid (parse_par s)
      have HS := Lib.hid (fun W (h : Nk W) => nparse_any s (by omega) W h)
      generalize parseN s = R at *
      obtain ⟨⟨g2, l2, p2, b2⟩, er2⟩ := R
      have HT2 := Lib.hid (fun W (h : Nk W) => ntext_any g2 l2 p2 b2 HPI.out W h)
      go_wp2_with fail
      refine (HS.out _ HA.out.n).mono ?_
      rintro e w3 ⟨rfl, b3⟩
      simp only
      replace HA := Lib.hid ((HA.out.step b3).step (below_new w3 (.cells #[.int .i64 g2, .int .i64 l2, .int .i64 p2, .int .i64 b2] 23)))
      have HZ := Lib.hid (blk_new w3 (.cells #[.int .i64 g2, .int .i64 l2, .int .i64 p2, .int .i64 b2] 23))
      clear b3
      go_upto_region 8 with fail
      generalize w3.alloc (.cells #[.int .i64 g2, .int .i64 l2, .int .i64 p2, .int .i64 b2] 23) = W3 at *
      generalize w3.heap.size = bz at *
      have x0 := blk_cell HZ.out 0 (by simp)
      have x1 := blk_cell HZ.out 1 (by simp)
      have x2 := blk_cell HZ.out 2 (by simp)
      have x3 := blk_cell HZ.out 3 (by simp)
      simp at x0 x1 x2 x3
      go_wp2_with fail
      refine (HT2.out _ HA.out.n).mono ?_
      rintro e w4 ⟨rfl, b4⟩
      replace HA := Lib.hid (HA.out.step b4)
      replace HZ := Lib.hid ((b4.block _ (lt_of_blk HZ.out)).trans HZ.out)
      clear x0 x1 x2 x3 b4
      by_cases h0 : er2 = 0
      · subst h0
        have HE := Lib.hid (HQ.out.1 rfl)
        simp only at HE
        rw [HE.out]
        have qs : ((s : List UInt8) == s) = true := beq_self_eq_true s
        go_wp2_with fail
        refine (HAW.out _ HA.out.n).mono ?_
        rintro e w9 ⟨rfl, b9⟩
        replace HA := Lib.hid (HA.out.step b9)
        clear b9
        go_wp2_with fail
        go_ret
        exact ⟨rfl, HA.out.b⟩
      · have q1 := ibne h0
        have q2 := ibeq_no h0
        have HE := Lib.hid (HQ.out.2 h0)
        simp only at HE
        obtain ⟨rfl, rfl, rfl, rfl⟩ : g2 = 0 ∧ l2 = 0 ∧ p2 = 0 ∧ b2 = 0 := by
          have h := HE.out
          injection h with h1 h
          injection h with h2 h
          injection h with h3 h4
          exact ⟨h1, h2, h3, h4⟩
        clear HE
        have x0 := blk_cell HZ.out 0 (by simp)
        have x1 := blk_cell HZ.out 1 (by simp)
        have x2 := blk_cell HZ.out 2 (by simp)
        have x3 := blk_cell HZ.out 3 (by simp)
        simp at x0 x1 x2 x3
        go_wp2_with fail
        refine (HAW.out _ HA.out.n).mono ?_
        rintro e w9 ⟨rfl, b9⟩
        replace HA := Lib.hid (HA.out.step b9)
        clear b9
        go_wp2_with fail
        go_ret
        exact ⟨rfl, HA.out.b⟩
    · have q9 := ibeq_no h0
      generalize parseN tt = R1 at *
      obtain ⟨⟨g1, l1, p1, b1⟩, er1⟩ := R1
      clear HPT h0
      go_enter Tryz.func3, Tryz.ntmps3
      go_upto_region 1 with fail
      generalize w.alloc (.cells #[.int .i64 g, .int .i64 l, .int .i64 par, .int .i64 b] 23) = W0 at *
      have HA := HA0
      have HX := HX0
      have x0 := blk_cell HX.out 0 (by simp)
      have x1 := blk_cell HX.out 1 (by simp)
      have x2 := blk_cell HX.out 2 (by simp)
      have x3 := blk_cell HX.out 3 (by simp)
      simp at x0 x1 x2 x3
      go_wp2_with fail
      refine (HT1.out _ HA.out.n).mono ?_
      rintro e w1 ⟨rfl, b1'⟩
      replace HA := Lib.hid (HA.out.step b1')
      replace HX := Lib.hid ((b1'.block _ (lt_of_blk HX.out)).trans HX.out)
      clear x0 x1 x2 x3 b1'
      go_wp2_with fail
      refine (HS1.out _ HA.out.n).mono ?_
      rintro e w2 ⟨rfl, b2'⟩
      simp only
      replace HA := Lib.hid (HA.out.step b2')
      replace HX := Lib.hid ((b2'.block _ (lt_of_blk HX.out)).trans HX.out)
      clear b2'
      replace HA := Lib.hid (HA.out.step (below_new w2 (.cells #[.int .i64 g1, .int .i64 l1, .int .i64 p1, .int .i64 b1] 23)))
      clear HX
      go_upto_region 5 with fail
      generalize w2.alloc (.cells #[.int .i64 g1, .int .i64 l1, .int .i64 p1, .int .i64 b1] 23) = W2 at *
      generalize w2.heap.size = b7 at *
      go_upto_region 7 with fail
      clear HS1 HT1 HX0 HA0
      have HQ := Lib.hid (text_parse s)
      have HPI := Lib.hid (parse_par s)
      have HS := Lib.hid (fun W (h : Nk W) => nparse_any s (by omega) W h)
      generalize parseN s = R at *
      obtain ⟨⟨g2, l2, p2, b2⟩, er2⟩ := R
      have HT2 := Lib.hid (fun W (h : Nk W) => ntext_any g2 l2 p2 b2 HPI.out W h)
      go_wp2_with fail
      refine (HS.out _ HA.out.n).mono ?_
      rintro e w3 ⟨rfl, b3⟩
      simp only
      replace HA := Lib.hid ((HA.out.step b3).step (below_new w3 (.cells #[.int .i64 g2, .int .i64 l2, .int .i64 p2, .int .i64 b2] 23)))
      have HZ := Lib.hid (blk_new w3 (.cells #[.int .i64 g2, .int .i64 l2, .int .i64 p2, .int .i64 b2] 23))
      clear b3
      go_upto_region 8 with fail
      generalize w3.alloc (.cells #[.int .i64 g2, .int .i64 l2, .int .i64 p2, .int .i64 b2] 23) = W3 at *
      generalize w3.heap.size = bz at *
      have x0 := blk_cell HZ.out 0 (by simp)
      have x1 := blk_cell HZ.out 1 (by simp)
      have x2 := blk_cell HZ.out 2 (by simp)
      have x3 := blk_cell HZ.out 3 (by simp)
      simp at x0 x1 x2 x3
      go_wp2_with fail
      refine (HT2.out _ HA.out.n).mono ?_
      rintro e w4 ⟨rfl, b4⟩
      replace HA := Lib.hid (HA.out.step b4)
      replace HZ := Lib.hid ((b4.block _ (lt_of_blk HZ.out)).trans HZ.out)
      clear x0 x1 x2 x3 b4
      by_cases h0 : er2 = 0
      · subst h0
        have HE := Lib.hid (HQ.out.1 rfl)
        simp only at HE
        rw [HE.out]
        have qs : ((s : List UInt8) == s) = true := beq_self_eq_true s
        go_wp2_with fail
        refine (HAW.out _ HA.out.n).mono ?_
        rintro e w9 ⟨rfl, b9⟩
        replace HA := Lib.hid (HA.out.step b9)
        clear b9
        go_wp2_with fail
        go_ret
        exact ⟨rfl, HA.out.b⟩
      · have q1 := ibne h0
        have q2 := ibeq_no h0
        have HE := Lib.hid (HQ.out.2 h0)
        simp only at HE
        obtain ⟨rfl, rfl, rfl, rfl⟩ : g2 = 0 ∧ l2 = 0 ∧ p2 = 0 ∧ b2 = 0 := by
          have h := HE.out
          injection h with h1 h
          injection h with h2 h
          injection h with h3 h4
          exact ⟨h1, h2, h3, h4⟩
        clear HE
        have x0 := blk_cell HZ.out 0 (by simp)
        have x1 := blk_cell HZ.out 1 (by simp)
        have x2 := blk_cell HZ.out 2 (by simp)
        have x3 := blk_cell HZ.out 3 (by simp)
        simp at x0 x1 x2 x3
        go_wp2_with fail
        refine (HAW.out _ HA.out.n).mono ?_
        rintro e w9 ⟨rfl, b9⟩
        replace HA := Lib.hid (HA.out.step b9)
        clear b9
        go_wp2_with fail
        go_ret
        exact ⟨rfl, HA.out.b⟩
  · have i1 : (100 : Int) < (s.length : Int) := by omega
    clear hN
    go_enter Tryz.func3, Tryz.ntmps3
    go_upto_region 1 with fail
    generalize w.alloc (.cells #[.int .i64 g, .int .i64 l, .int .i64 par, .int .i64 b] 23) = W0 at *
    have HA := HA0
    go_wp2_with fail
    refine (HAW.out _ HA.out.n).mono ?_
    rintro e w9 ⟨rfl, b9⟩
    replace HA := Lib.hid (HA.out.step b9)
    clear b9
    go_wp2_with fail
    go_ret
    exact ⟨rfl, HA.out.b⟩
end Go.Proofs.YtfnmggmgdmokcaaGreatDoor.Na

/- The law NamedBack, its arguments as they are read. -/
namespace Go.Proofs.YtfnmggmgdmokcaaGreatDoor.Na
open Go.RowKit Go.Proofs.YtfnmggmgdmokcaaGreatDoor.Li Go.Proofs.YtfnmggmgdmokcaaGreatDoor.De Go.Proofs.YtfnmggmgdmokcaaGreatDoor.Ara
theorem back_law (w : World) (hN : Nk w) (x : Pr4) (h : isI64 x.par) (s : ByteArray) (hs : s.size ≤ maxLen) : Calls Tryz.prog 3 #[.agg (decPr x).toArray, .string s] w fun e w' => e = .returned (.bool true) ∧ Below w.heap.size w w' := by
  have := nback w hN x.g x.l x.par x.b h (L s) (by rw [← size_L]; exact hs)
  rw [vS, B_L] at this
  exact this
end Go.Proofs.YtfnmggmgdmokcaaGreatDoor.Na

