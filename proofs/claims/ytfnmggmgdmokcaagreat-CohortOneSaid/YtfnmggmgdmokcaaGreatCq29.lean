/- Merged texts: Cm17, Co18, TpB, Cm18. -/
import Derived.Test.YtfnmggmgdmokcaaGreatCq28
set_option linter.unusedVariables false
/- The law's awake. -/
namespace Go.Proofs.YtfnmggmgdmokcaaGreat.Cm
open Go.RowKit Go.Proofs.YtfnmggmgdmokcaaGreat.Tp Go.Proofs.YtfnmggmgdmokcaaGreat.Ara Go.Proofs.YtfnmggmgdmokcaaGreat.Lok Go.Proofs.YtfnmggmgdmokcaaGreat.Fl Go.Proofs.YtfnmggmgdmokcaaGreat.Co

def nwA : Nw := nwOf twoP twoT 2 4 1 1
def pmA : Pm := nwA.pm (Ar.fresh 99)
def xA0 : CS := nwA.st (Ar.fresh 99)
def xA1 : CS := askC pmA xA0 0
def xA2 : CS := (stepsC pmA 20 xA1 0).2
def xA3 : CS := askC pmA xA2 1
def xA4 : CS := (stepsC pmA 20 xA3 1).2
def xA5 : CS := askC pmA xA4 2
def xA6 : CS := (stepsC pmA 20 xA5 2).2
def xA7 : CS := leaveC xA6 0
def xA8 : CS := (stepsC pmA 20 xA7 0).2
def xA9 : CS := (stepsC pmA 9 xA8 2).2
def xA10 : CS := (stepsC pmA 9 xA9 1).2
def xA11 : CS := leaveC xA10 1
def xA12 : CS := (stepsC pmA 20 xA11 1).2
def xA13 : CS := (stepsC pmA 9 xA12 2).2
theorem a0 : turnB xA0.S 0 0 = true := by kernel_rfl
theorem a1 : (stepsC pmA 20 xA1 0).1 = true := by kernel_rfl
theorem a2 : cntV (spOf xA2.S 0) = 1 := by kernel_rfl
theorem a3 : turnB xA2.S 1 0 = true := by kernel_rfl
theorem a4 : (stepsC pmA 20 xA3 1).1 = false := by kernel_rfl
theorem a5 : turnB xA4.S 2 0 = true := by kernel_rfl
theorem a6 : (stepsC pmA 20 xA5 2).1 = false := by kernel_rfl
theorem a7 : pasB pmA xA6 1 = true := by kernel_rfl
theorem a8 : gloV pmA xA6 0 = 3 := by kernel_rfl
theorem a9 : gloV pmA xA6 1 = 2 := by kernel_rfl
theorem a10 : turnB xA6.S 0 10 = true := by kernel_rfl
theorem a11 : (stepsC pmA 20 xA7 0).1 = true := by kernel_rfl
theorem a12 : (stepsC pmA 9 xA8 2).1 = false := by kernel_rfl
theorem a13 : (stepsC pmA 9 xA9 1).1 = true := by kernel_rfl
theorem a14 : cntV (spOf xA10.S 1) = 2 := by kernel_rfl
theorem a15 : turnB xA10.S 1 10 = true := by kernel_rfl
theorem a16 : (stepsC pmA 20 xA11 1).1 = true := by kernel_rfl
theorem a17 : (stepsC pmA 9 xA12 2).1 = true := by kernel_rfl
theorem a18 : cntV (spOf xA13.S 2) = 1 := by kernel_rfl
theorem hckA : chk twoP twoT = 0 := by decide
theorem okA : nwA.Ok := nw_ok hckA (by decide) (by decide) (by decide) (by decide)
theorem roomA : nwA.tN (Ar.fresh 99).t nwA.NN ≤ (Ar.fresh 99).ws.length := by decide
theorem brA : Bud.right pmA.B = true := by decide
theorem djA : Dj pmA := Nw.dj okA roomA
theorem c0A : CI pmA xA0 3 := Nw.ci okA roomA (fun k _ => zeros_at 99 k) (by decide) (by decide)
theorem c1A : CI pmA xA1 4 := c0A.ask djA 0
theorem c2A : CI pmA xA2 24 := stepsC_ci djA 0 20 c1A
theorem c3A : CI pmA xA3 25 := c2A.ask djA 1
theorem c4A : CI pmA xA4 45 := stepsC_ci djA 1 20 c3A
theorem c5A : CI pmA xA5 46 := c4A.ask djA 2
theorem c6A : CI pmA xA6 66 := stepsC_ci djA 2 20 c5A
theorem c7A : CI pmA xA7 67 := c6A.leave djA 0
theorem c8A : CI pmA xA8 87 := stepsC_ci djA 0 20 c7A
theorem c9A : CI pmA xA9 96 := stepsC_ci djA 2 9 c8A
theorem c10A : CI pmA xA10 105 := stepsC_ci djA 1 9 c9A
theorem c11A : CI pmA xA11 106 := c10A.leave djA 1
theorem c12A : CI pmA xA12 126 := stepsC_ci djA 1 20 c11A
section
variable {W : World} {c : Cd}
abbrev KA (W0 W : World) (c : Cd) (x : CS) : Prop := CoAt W c pmA x ∧ Below W0.heap.size W0 W
theorem kA {W0 W W' : World} {x' : CS} (hc : ∀ b, b < W0.heap.size → c.col b = 0) (hb : Below W0.heap.size W0 W) (h : CoAt W' c pmA x') (k : Kp c.col W W') : KA W0 W' c x' := ⟨h, hb.trans (k.below hb.size hc)⟩
theorem kB {W0 W W' : World} {x : CS} (h : KA W0 W c x) (b : Below W.heap.size W W') : KA W0 W' c x := ⟨h.1.same b, h.2.trans (b.mono h.2.size)⟩
end
set_option maxRecDepth 100000 in
set_option maxHeartbeats 4000000 in
theorem awake_any (w : World) : Calls Tryz.prog 10 #[] w fun e w' => e = .returned (.bool true) ∧ Below w.heap.size w w' := by
  go_enter Tryz.func10, Tryz.ntmps10
  go_wp2_with fail
  refine (new_in 99 _).mono ?_
  rintro e w1 ⟨rfl, ha1, hz1, b1⟩
  have HA1 := Lib.hid ha1
  have HB1 := Lib.hid b1
  clear ha1 b1
  go_wp2_with fail
  refine (two_any _).mono ?_
  rintro e w2 ⟨A, B, rfl, s1, s2, b2⟩
  have hz2 := b2.size
  have HNW := Lib.hid (new_co twoP twoT A B 3 4 w2 hckA s1 s2 (w.heap.size + 1) w.heap.size (Ar.fresh 99) (HA1.out.step b2) (by omega) (by omega) 2 4 1 1 okA brA roomA (by decide) (by decide))
  have HB2 := Lib.hid (HB1.out.trans (b2.mono HB1.out.size))
  clear s1 s2 b2
  go_wp2_with fail
  refine HNW.out.mono ?_
  rintro e w3 ⟨cd, rfl, hK, ⟨g1, g2, g3⟩, hcol, hm3⟩
  have HCOL := Lib.hid (show ∀ b, b < w.heap.size → cd.col b = 0 from fun b hb => hcol b (by omega) (by omega) (by omega))
  have HGA := Lib.hid g1
  have HK := Lib.hid (show KA w w3 cd xA0 from ⟨hK, HB2.out.trans (hm3.below (by omega) (by simp))⟩)
  clear hK g1 g2 g3 hcol hm3 HNW HA1
  go_wp2_with fail
  refine (ask_co HK.out.1 djA c0A (by decide) 0).mono ?_
  rintro e w9 ⟨rfl, hk9, hp9⟩
  have HK9 := Lib.hid (kA HCOL.out HK.out.2 hk9 hp9)
  clear hk9 hp9 HK
  have HK := Lib.hid (show KA w w9 cd xA1 from HK9.out)
  clear HK9
  rw [a0]
  go_wp2_with fail
  refine (steps_co HK.out.1 djA c1A 20 (by decide) brA 0).mono ?_
  rintro e w9 ⟨rfl, hk9, hp9⟩
  have HK9 := Lib.hid (kA HCOL.out HK.out.2 hk9 hp9)
  clear hk9 hp9 HK
  have HK := Lib.hid (show KA w w9 cd xA2 from HK9.out)
  clear HK9
  rw [a1]
  go_wp2_with fail
  refine (count_co HK.out.1 0).mono ?_
  rintro e w9 ⟨rfl, hb9⟩
  have HK9 := Lib.hid (kB HK.out hb9)
  clear hb9 HK
  have HK := Lib.hid HK9.out
  clear HK9
  rw [a2]
  go_wp2_with fail
  refine (ask_co HK.out.1 djA c2A (by decide) 1).mono ?_
  rintro e w9 ⟨rfl, hk9, hp9⟩
  have HK9 := Lib.hid (kA HCOL.out HK.out.2 hk9 hp9)
  clear hk9 hp9 HK
  have HK := Lib.hid (show KA w w9 cd xA3 from HK9.out)
  clear HK9
  rw [a3]
  go_wp2_with fail
  refine (steps_co HK.out.1 djA c3A 20 (by decide) brA 1).mono ?_
  rintro e w9 ⟨rfl, hk9, hp9⟩
  have HK9 := Lib.hid (kA HCOL.out HK.out.2 hk9 hp9)
  clear hk9 hp9 HK
  have HK := Lib.hid (show KA w w9 cd xA4 from HK9.out)
  clear HK9
  rw [a4]
  go_wp2_with fail
  refine (ask_co HK.out.1 djA c4A (by decide) 2).mono ?_
  rintro e w9 ⟨rfl, hk9, hp9⟩
  have HK9 := Lib.hid (kA HCOL.out HK.out.2 hk9 hp9)
  clear hk9 hp9 HK
  have HK := Lib.hid (show KA w w9 cd xA5 from HK9.out)
  clear HK9
  rw [a5]
  go_wp2_with fail
  refine (steps_co HK.out.1 djA c5A 20 (by decide) brA 2).mono ?_
  rintro e w9 ⟨rfl, hk9, hp9⟩
  have HK9 := Lib.hid (kA HCOL.out HK.out.2 hk9 hp9)
  clear hk9 hp9 HK
  have HK := Lib.hid (show KA w w9 cd xA6 from HK9.out)
  clear HK9
  rw [a6]
  go_wp2_with fail
  refine (passed_co HK.out.1 djA 1).mono ?_
  rintro e w9 ⟨rfl, hb9⟩
  have HK9 := Lib.hid (kB HK.out hb9)
  clear hb9 HK
  have HK := Lib.hid HK9.out
  clear HK9
  rw [a7]
  go_wp2_with fail
  refine (global_co HK.out.1 0).mono ?_
  rintro e w9 ⟨rfl, hb9⟩
  have HK9 := Lib.hid (kB HK.out hb9)
  clear hb9 HK
  have HK := Lib.hid HK9.out
  clear HK9
  rw [a8]
  go_wp2_with fail
  refine (global_co HK.out.1 1).mono ?_
  rintro e w9 ⟨rfl, hb9⟩
  have HK9 := Lib.hid (kB HK.out hb9)
  clear hb9 HK
  have HK := Lib.hid HK9.out
  clear HK9
  rw [a9]
  go_wp2_with fail
  refine (leave_co HK.out.1 0).mono ?_
  rintro e w9 ⟨rfl, hk9, hp9⟩
  have HK9 := Lib.hid (kA HCOL.out HK.out.2 hk9 hp9)
  clear hk9 hp9 HK
  have HK := Lib.hid (show KA w w9 cd xA7 from HK9.out)
  clear HK9
  rw [a10]
  go_wp2_with fail
  refine (steps_co HK.out.1 djA c7A 20 (by decide) brA 0).mono ?_
  rintro e w9 ⟨rfl, hk9, hp9⟩
  have HK9 := Lib.hid (kA HCOL.out HK.out.2 hk9 hp9)
  clear hk9 hp9 HK
  have HK := Lib.hid (show KA w w9 cd xA8 from HK9.out)
  clear HK9
  rw [a11]
  go_wp2_with fail
  refine (steps_co HK.out.1 djA c8A 9 (by decide) brA 2).mono ?_
  rintro e w9 ⟨rfl, hk9, hp9⟩
  have HK9 := Lib.hid (kA HCOL.out HK.out.2 hk9 hp9)
  clear hk9 hp9 HK
  have HK := Lib.hid (show KA w w9 cd xA9 from HK9.out)
  clear HK9
  rw [a12]
  go_wp2_with fail
  refine (steps_co HK.out.1 djA c9A 9 (by decide) brA 1).mono ?_
  rintro e w9 ⟨rfl, hk9, hp9⟩
  have HK9 := Lib.hid (kA HCOL.out HK.out.2 hk9 hp9)
  clear hk9 hp9 HK
  have HK := Lib.hid (show KA w w9 cd xA10 from HK9.out)
  clear HK9
  rw [a13]
  go_wp2_with fail
  refine (count_co HK.out.1 1).mono ?_
  rintro e w9 ⟨rfl, hb9⟩
  have HK9 := Lib.hid (kB HK.out hb9)
  clear hb9 HK
  have HK := Lib.hid HK9.out
  clear HK9
  rw [a14]
  go_wp2_with fail
  refine (leave_co HK.out.1 1).mono ?_
  rintro e w9 ⟨rfl, hk9, hp9⟩
  have HK9 := Lib.hid (kA HCOL.out HK.out.2 hk9 hp9)
  clear hk9 hp9 HK
  have HK := Lib.hid (show KA w w9 cd xA11 from HK9.out)
  clear HK9
  rw [a15]
  go_wp2_with fail
  refine (steps_co HK.out.1 djA c11A 20 (by decide) brA 1).mono ?_
  rintro e w9 ⟨rfl, hk9, hp9⟩
  have HK9 := Lib.hid (kA HCOL.out HK.out.2 hk9 hp9)
  clear hk9 hp9 HK
  have HK := Lib.hid (show KA w w9 cd xA12 from HK9.out)
  clear HK9
  rw [a16]
  go_wp2_with fail
  refine (steps_co HK.out.1 djA c12A 9 (by decide) brA 2).mono ?_
  rintro e w9 ⟨rfl, hk9, hp9⟩
  have HK9 := Lib.hid (kA HCOL.out HK.out.2 hk9 hp9)
  clear hk9 hp9 HK
  have HK := Lib.hid (show KA w w9 cd xA13 from HK9.out)
  clear HK9
  rw [a17]
  go_wp2_with fail
  refine (count_co HK.out.1 2).mono ?_
  rintro e w9 ⟨rfl, hb9⟩
  have HK9 := Lib.hid (kB HK.out hb9)
  clear hb9 HK
  have HK := Lib.hid HK9.out
  clear HK9
  rw [a18]
  go_wp2_with fail
  refine (two_any _).mono ?_
  rintro e w10 ⟨A2, B2, rfl, s1, s2, b2⟩
  have HK9 := Lib.hid (kB HK.out b2)
  have HBD := Lib.hid (new_bad twoP twoT A2 B2 3 4 w10 hckA s1 s2 (some ⟨w.heap.size + 1, 0, none⟩) 2 2 1 (-1) (by decide))
  clear s1 s2 b2 HK
  go_wp2_with fail
  refine HBD.out.mono ?_
  rintro e w11 ⟨rfl, b3⟩
  have HK := Lib.hid (kB HK9.out b3)
  clear b3 HK9 HBD
  go_wp2_with fail
  refine (threads_co HK.out.1).mono ?_
  rintro e wx ⟨rfl, hwx⟩
  obtain rfl := hwx.symm
  go_wp2_with fail
  go_ret
  exact ⟨rfl, HK.out.2⟩
end Go.Proofs.YtfnmggmgdmokcaaGreat.Cm

/- A global lock of nodes, a local one of the threads of each: how many ops an act does; how many hold: the plain law. -/
namespace Go.Proofs.YtfnmggmgdmokcaaGreat.Co
open Go.RowKit Go.Proofs.YtfnmggmgdmokcaaGreat.Ara Go.Proofs.YtfnmggmgdmokcaaGreat.Lok Go.Proofs.YtfnmggmgdmokcaaGreat.Fl

theorem op_le (σ : Ar) (kd p v : Int) (wr : Bool) : (σ.op kd p wr v).ops ≤ σ.ops + 1 := by
  rw [op_ops]
  split <;> omega
theorem doC_ops (P : Pm) (x : CS) (kd i : Int) : (doC P x kd i).σ.ops ≤ x.σ.ops + 1 ∧ (kd ≠ 0 → (doC P x kd i).σ.ops = x.σ.ops) := by
  have hd := fun p sp kd i => (do_ops p x.σ sp kd i).1
  have ho := fun kd p v wr => op_le x.σ kd p v wr
  unfold doC
  split
  · rename_i h
    refine ⟨?_, fun h2 => absurd h h2⟩
    unfold stepC
    split
    · omega
    · split
      · unfold inC
        split
        · exact hd _ _ _ _
        · split
          · split <;> exact ho _ _ _ _
          · split
            · exact hd _ _ _ _
            · split
              · exact ho _ _ _ _
              · omega
      · unfold outC
        split
        · exact ho _ _ _ _
        · split
          · exact hd _ _ _ _
          · split
            · exact ho _ _ _ _
            · split
              · exact ho _ _ _ _
              · split
                · split <;> exact hd _ _ _ _
                · split
                  · exact hd _ _ _ _
                  · omega
  · split
    · unfold askC
      split
      · exact ⟨Nat.le_succ _, fun _ => rfl⟩
      · exact ⟨Nat.le_succ _, fun _ => rfl⟩
    · split
      · exact ⟨Nat.le_succ _, fun _ => rfl⟩
      · exact ⟨Nat.le_succ _, fun _ => rfl⟩
def cntH (x : CS) : Nat → Nat
  | 0 => 0
  | j + 1 => cntH x j + if pcT x j = 10 then 1 else 0
theorem cntH_some {x : CS} : ∀ {j : Nat}, 0 < cntH x j → ∃ t, t < j ∧ pcT x t = 10
  | 0, h => by simp [cntH] at h
  | j + 1, h => by
    by_cases e : pcT x j = 10
    · exact ⟨j, by omega, e⟩
    · have h : 0 < cntH x j + if pcT x j = 10 then 1 else 0 := h
      rw [if_neg e] at h
      obtain ⟨t, h1, h2⟩ := cntH_some (j := j) (by omega)
      exact ⟨t, by omega, h2⟩
theorem cntH_bound (x : CS) : ∀ j, cntH x j ≤ j
  | 0 => Nat.le_refl _
  | j + 1 => by
    have := cntH_bound x j
    show cntH x j + _ ≤ _
    split <;> omega
theorem CI.few {P : Pm} {x : CS} {m : Nat} (D : Dj P) (H : CI P x m) : ∀ j, j ≤ P.T → cntH x j ≤ 1
  | 0, _ => Nat.zero_le _
  | j + 1, hj => by
    have ih := CI.few D H j (by omega)
    show cntH x j + (if pcT x j = 10 then 1 else 0) ≤ 1
    split
    · rename_i e
      rcases Nat.eq_zero_or_pos (cntH x j) with h | h
      · omega
      · obtain ⟨t, h1, h2⟩ := cntH_some h
        have := H.one D (show t < P.T by omega) (show j < P.T by omega) h2 e
        omega
    · omega
end Go.Proofs.YtfnmggmgdmokcaaGreat.Co

/- A topology as an argument: how it is read. -/
namespace Go.Proofs.YtfnmggmgdmokcaaGreat.Tp
open Go.RowKit Go.ChangeShapes Go.WideShapes Go.Deep Go.Proofs.YtfnmggmgdmokcaaGreat.Li Go.Proofs.YtfnmggmgdmokcaaGreat.De Go.Proofs.YtfnmggmgdmokcaaGreat.Ara Go.Proofs.YtfnmggmgdmokcaaGreat.Ara
theorem arg_topo {H : Type} {enc : TypeId × Value → H} {w : World} {base : Nat} {spare : Nat → Bool} {held : Bool} {v : Value} {D : DataW H} {pl : List MemPlace} (hv : ∃ cs, v = .agg cs) (h : DataW.Trod enc Tryz.prog w base spare held 24 v D pl) :
    ∃ (A B : Option Addr) (c d : Nat) (p t : List Int), v = .agg #[.slice A p.length c, .slice B t.length d] ∧ p.length ≤ c ∧ c ≤ maxLen ∧ t.length ≤ d ∧ d ≤ maxLen ∧ Sl w w.heap.size A (p.flatMap decI) ∧ Sl w w.heap.size B (t.flatMap decI) := by
  obtain ⟨cs, rfl⟩ := hv
  obtain ⟨fuel, hf⟩ := h
  obtain ⟨hl, hfl⟩ := fields_of Tryz.underlying24 (by kernel_rfl) (by kernel_rfl) hf
  have hl2 : cs.toList.length = 2 := hl
  obtain ⟨x, y, e⟩ := list2 hl2
  have e' : (Value.agg cs).cells.toList = [x, y] := e
  rw [e'] at hfl
  obtain ⟨_, _, g0⟩ := hfl 0 _ x rfl rfl
  obtain ⟨_, _, g1⟩ := hfl 1 _ y rfl rfl
  obtain ⟨A, n, c, p, h1, rfl, h2, h3, _, h4⟩ := slice_of (k := 1) Tryz.underlying22 (by kernel_rfl) (fun _ => rfl) (reads_i64 Tryz.underlying3) g0
  obtain ⟨B, m, d, t, k1, rfl, k2, k3, _, k4⟩ := slice_of (k := 1) Tryz.underlying22 (by kernel_rfl) (fun _ => rfl) (reads_i64 Tryz.underlying3) g1
  injection h1 with h1
  injection k1 with k1
  subst h1 k1
  refine ⟨A, B, c, d, p, t, ?_, h2, h3, k2, k3, h4, k4⟩
  congr 1
  apply Array.ext'
  rw [e]
end Go.Proofs.YtfnmggmgdmokcaaGreat.Tp

/- The law CohortOne: no two threads hold at once; a step is one op at most. -/
namespace Go.Proofs.YtfnmggmgdmokcaaGreat.Cm
open Go.RowKit Go.Proofs.YtfnmggmgdmokcaaGreat.Tp Go.Proofs.YtfnmggmgdmokcaaGreat.Ara Go.Proofs.YtfnmggmgdmokcaaGreat.Lok Go.Proofs.YtfnmggmgdmokcaaGreat.Fl Go.Proofs.YtfnmggmgdmokcaaGreat.Co

theorem reads_ac {H : Type} {enc : TypeId × Value → H} : Reads enc Tryz.prog 37 decAc (fun e => isI64 e.kind ∧ isI64 e.i) :=
  (reads_s2 (d0 := Value.int .i64) (d1 := Value.int .i64) Tryz.underlying37 (by kernel_rfl) (by kernel_rfl) (reads_i64 Tryz.underlying3) (reads_i64 Tryz.underlying3)).map
    (fun p => ⟨p.1, p.2⟩) (fun _ => rfl) (fun _ h => h)

theorem Bx_kp {w W W' : World} {x y : Value} {col : Nat → Nat} (h : Bx w W x y) (k : Kp col W W') (hc : ∀ q, q < w.heap.size + 1 → col q = 0) : Bx w W' x y := by
  obtain ⟨h1, h2, h3, h4⟩ := h
  exact ⟨h1.trans (k.below h1.size (fun b hb => hc b (by omega))), Nat.lt_of_lt_of_le h2 k.size, (k.cell (p := ⟨w.heap.size, 0, none⟩) h2 (hc _ (Nat.lt_succ_self _))).trans h3, (k.cell (p := ⟨w.heap.size, 1, none⟩) h2 (hc _ (Nat.lt_succ_self _))).trans h4⟩
structure LpW (w : World) (cd : Cd) (P : Pm) (x : CS) (m : Nat) (X Y : Value) (W : World) : Prop where
  k : CoAt W cd P x
  h : CI P x m
  b : Bx w W X Y
theorem LpW.same {w : World} {cd : Cd} {P : Pm} {x : CS} {m : Nat} {X Y : Value} {W W' : World} (h : LpW w cd P x m X Y W) (b : Below W.heap.size W W') : LpW w cd P x m X Y W' := ⟨h.k.same b, h.h, h.b.step b⟩
theorem LpW.act {w : World} {cd : Cd} {P : Pm} {x : CS} {m : Nat} {X Y : Value} {W W' : World} (h : LpW w cd P x m X Y W) (D : Dj P) (hc : ∀ q, q < w.heap.size + 1 → cd.col q = 0) (kd i : Int) (k : CoAt W' cd P (doC P x kd i)) (kp : Kp cd.col W W') : LpW w cd P (doC P x kd i) (m + 1) X Y W' := ⟨k, h.h.act D kd i, Bx_kp h.b kp hc⟩
def OnJ (w : World) (cd : Cd) (P : Pm) (X Y : Value) (C : Option Addr) (cap : Nat) (l : List Ac) (a : Act) (W : World) : Prop :=
  a.tmps.size = 97 ∧ a.defers = [] ∧ a.tmps.getD 2 undef = .slice C l.length cap ∧ a.tmps.getD 3 undef = .pointer (some ⟨w.heap.size, 0, none⟩) ∧ a.tmps.getD 7 undef = .pointer (some ⟨cd.ga, 0, none⟩) ∧ a.tmps.getD 8 undef = .pointer (some ⟨cd.gl, 0, none⟩) ∧
    ∃ (k : Nat) (x : CS), a.tmps.getD 11 undef = .int .i64 (k : Int) ∧ k ≤ l.length ∧ LpW w cd P x (33 + k) X Y W
def OnI (w : World) (cd : Cd) (P : Pm) (X Y : Value) (C : Option Addr) (cap : Nat) (l : List Ac) (k : Nat) (x : CS) (a : Act) (W : World) : Prop :=
  a.tmps.size = 97 ∧ a.defers = [] ∧ a.tmps.getD 2 undef = .slice C l.length cap ∧ a.tmps.getD 3 undef = .pointer (some ⟨w.heap.size, 0, none⟩) ∧ a.tmps.getD 7 undef = .pointer (some ⟨cd.ga, 0, none⟩) ∧ a.tmps.getD 8 undef = .pointer (some ⟨cd.gl, 0, none⟩) ∧ a.tmps.getD 11 undef = .int .i64 (k : Int) ∧
    ∃ j : Nat, a.tmps.getD 14 undef = .int .i64 (j : Int) ∧ a.tmps.getD 13 undef = .int .i64 (cntH x j : Int) ∧ j ≤ P.T ∧ LpW w cd P x (33 + (k + 1)) X Y W
section
variable (p t : List Int) (A B : Option Addr) (c d : Nat) (w : World) (hs : Sl w w.heap.size A (p.flatMap decI)) (ht : Sl w w.heap.size B (t.flatMap decI)) (n0 n1 n2 : Int) (h0 : 0 ≤ n0 ∧ n0 ≤ 255) (h1 : 0 ≤ n1 ∧ n1 ≤ 255) (h2 : 0 ≤ n2 ∧ n2 ≤ 255) (C : Option Addr) (cap : Nat) (l : List Ac) (hlc : l.length ≤ cap) (hcm : cap ≤ maxLen) (hl : Sl w w.heap.size C (l.flatMap decAc))
include hs ht h0 h1 h2 hlc hcm hl
set_option maxRecDepth 100000 in
set_option maxHeartbeats 8000000 in
theorem one_walk : Calls Tryz.prog 4 #[(.agg #[.slice A p.length c, .slice B t.length d]), .agg #[.int .u8 n0, .int .u8 n1, .int .u8 n2], .slice C l.length cap] w fun e w' => e = .returned (.bool true) ∧ Below w.heap.size w w' := by
  have HAW := Lib.hid (fun W => awake_any W)
  have i9 : (l.length : Int) ≤ 9223372036854775807 := by simp only [maxLen] at hcm; omega
  have HS := Lib.hid hs
  have HT := Lib.hid ht
  have HLS := Lib.hid hl
  clear hs ht hl
  by_cases hlen : l.length ≤ 150
  · have i1 : ¬ (150 : Int) < (l.length : Int) := by omega
    by_cases hok : chk p t = 0 ∧ t.length ≤ 8
    · obtain ⟨hck, h8⟩ := hok
      obtain ⟨l1, l2, l3, l4⟩ := chk_len hck
      have HMD := Lib.hid (fun W h3 h4 => made_ok p t A B c d W h3 h4 n0 n1 n2 h0 h1 h2 false hck h8)
      have HND := Lib.hid (fun W h3 h4 k hk => Rn.rnode_in p t A B c d W h3 h4 hck k hk)
      have q1 := fun a b c d W => fld0 a b c d W
      have HOK := Lib.hid (show (mwOf p t n0 n1 n2 false).Ok from nw_ok hck (by unfold kgOf; rw [if_neg (by decide)]; omega) (by unfold kgOf; rw [if_neg (by decide)]; omega) (by omega) (by omega))
      have HRM := Lib.hid (show (mwOf p t n0 n1 n2 false).tN (Ar.fresh 4096).t (mwOf p t n0 n1 n2 false).NN ≤ (Ar.fresh 4096).ws.length from nw_fits hck HOK.out (by omega))
      have HDJ := Lib.hid (Nw.dj HOK.out HRM.out)
      have HBR := Lib.hid (show Bud.right ((mwOf p t n0 n1 n2 false).pm (Ar.fresh 4096)).B = true from Bud.right_iff.2 ⟨by show 0 ≤ n2 % 4; omega, by show n2 % 4 ≤ 1000; omega⟩)
      have HC0 := Lib.hid (Nw.ci HOK.out HRM.out (fun k _ => zeros_at 4096 k) (by decide) (m := 33) (by show 0 + (lvs p).length + 1 ≤ 33; have := lvs_len p; omega))
      have HPT := Lib.hid (show ((mwOf p t n0 n1 n2 false).pm (Ar.fresh 4096)).T = t.length ∧ ∀ k, ((mwOf p t n0 n1 n2 false).pm (Ar.fresh 4096)).nd k = ndI p t k from ⟨rfl, fun _ => rfl⟩)
      clear h0 h1 h2
      go_enter Tryz.func4, Tryz.ntmps4
      go_upto_region 3 with fail
      have HX := Lib.hid ((Bx.made w (.slice A p.length c) (.slice B t.length d) 24).step (below_new _ (.cells #[.int .u8 n0, .int .u8 n1, .int .u8 n2] 25)))
      have hx9 := blk_new (w.alloc (.cells #[.slice A p.length c, .slice B t.length d] 24)) (.cells #[.int .u8 n0, .int .u8 n1, .int .u8 n2] 25)
      have hz9 : (w.alloc (.cells #[.slice A p.length c, .slice B t.length d] 24)).heap.size = w.heap.size + 1 := by simp
      rw [hz9] at hx9
      generalize (w.alloc (.cells #[.slice A p.length c, .slice B t.length d] 24)).alloc (.cells #[.int .u8 n0, .int .u8 n1, .int .u8 n2] 25) = W1 at *
      have c0 := HX.out.2.2.1
      have c1 := HX.out.2.2.2
      have d0 := blk_cell hx9 0 (by simp)
      have d1 := blk_cell hx9 1 (by simp)
      have d2 := blk_cell hx9 2 (by simp)
      simp at d0 d1 d2
      have hlt9 := lt_of_blk hx9
      clear hx9 hz9
      go_wp2_with fail
      refine (HMD.out _ (HX.out.sl HS.out) (HX.out.sl HT.out)).mono ?_
      rintro e W2 ⟨cd, rfl, hK, hcol, hb2⟩
      have HCOL := Lib.hid (show ∀ q, q < w.heap.size + 1 → cd.col q = 0 from fun q hq => hcol q (by omega))
      generalize (mwOf p t n0 n1 n2 false).pm (Ar.fresh 4096) = P at *
      generalize (mwOf p t n0 n1 n2 false).st (Ar.fresh 4096) = x0 at *
      have HL2 := Lib.hid (show LpW w cd P x0 33 (.slice A p.length c) (.slice B t.length d) W2 from ⟨hK, HC0.out, HX.out.step hb2⟩)
      clear hK hcol hb2 HX c0 c1 d0 d1 d2 HC0 HMD HOK HRM
      simp only [mpOf]
      go_wp2_with fail
      refine wp_loop (OnJ w cd P (.slice A p.length c) (.slice B t.length d) C cap l) (fun a' _ => l.length - (intOf (a'.tmps.getD 11 undef)).toNat) ?_ ?_
      · exact ⟨rfl, rfl, rfl, rfl, rfl, rfl, 0, x0, rfl, Nat.zero_le _, HL2.out.same (below_new W2 _)⟩
      · clear HL2
        rintro a' W ⟨hsz, hdf, s2, s3, s7, s8, k, x, s11, hk, hL⟩
        obtain ⟨u, rfl, hu⟩ := frame97 hsz hdf
        rw [hu] at s2 s3 s7 s8 s11
        simp only [s2, s3, s7, s8, s11]
        clear hsz hdf s2 s3 s7 s8 s11 hu
        have HL := Lib.hid hL
        by_cases hlt : k < l.length
        · have i2 : (k : Int) < (l.length : Int) := by omega
          obtain ⟨b, off, rfl, hbb, hcell⟩ := Sl_at (dec := decAc) (k := 2) (fun _ => rfl) (by omega) HLS.out (by omega)
          have e0 := hcell k hlt 0 (by omega)
          have e1 := hcell k hlt 1 (by omega)
          simp only [decAc, List.getElem?_cons_zero, List.getElem?_cons_succ, Nat.add_zero, ← Nat.add_assoc] at e0 e1
          generalize l[k] = ac at *
          obtain ⟨kd, i⟩ := ac
          simp only at e0 e1
          have HE := Lib.hid (fun W' (h : Below w.heap.size w W') => And.intro ((h.cell (p := ⟨b, off + k * 2, none⟩) hbb).trans e0) ((h.cell (p := ⟨b, off + k * 2 + 1, none⟩) hbb).trans e1))
          clear e0 e1 hcell
          obtain ⟨e0, e1⟩ := HE.out W hL.b.1
          have HO := Lib.hid (ops_any cd.ga cd.ha x.σ W hL.k.d.ar)
          have HD := Lib.hid (do_co hL.k HDJ.out hL.h (by omega) HBR.out kd i)
          have hop := doC_ops P x kd i
          have hob : x.σ.ops ≤ 1000 := by have := hL.h.ops; omega
          have HX' := Lib.hid (fun W' (k4 : CoAt W' cd P (doC P x kd i)) (p4 : Kp cd.col W W') => hL.act HDJ.out HCOL.out kd i k4 p4)
          clear hL HL
          generalize doC P x kd i = x' at *
          go_wp2_with fail
          refine (HO.out).mono ?_
          rintro e wx ⟨rfl, hwx⟩
          obtain rfl := hwx.symm
          go_wp2_with fail
          refine HD.out.mono ?_
          rintro e w4 ⟨rfl, hk4, hp4⟩
          have hL4 := HX'.out _ hk4 hp4
          have HL4 := Lib.hid hL4
          clear e0 e1
          obtain ⟨e0, e1⟩ := HE.out w4 hL4.b.1
          have HO4 := Lib.hid (ops_any cd.ga cd.ha x'.σ w4 hL4.k.d.ar)
          clear hk4 hp4 hL4 HD HO HX'
          generalize x.σ.ops = o at *
          generalize ho' : x'.σ.ops = o' at *
          clear ho'
          have i3 : ¬ (o : Int) + 1 < (o' : Int) := by omega
          by_cases hk0 : kd = 0
          · have g0 := ibne_no hk0
            clear hk0
            go_upto_region 13 with first
              | (go_at_call 17; refine HO4.out.mono ?_; rintro e wx ⟨rfl, hwx⟩; obtain rfl := hwx.symm)
            go_wp2_with fail
            refine wp_loop (OnI w cd P (.slice A p.length c) (.slice B t.length d) (some ⟨b, off, none⟩) cap l k x') (fun a' _ => P.T - (intOf (a'.tmps.getD 14 undef)).toNat) ?_ ?_
            · exact ⟨rfl, rfl, rfl, rfl, rfl, rfl, rfl, 0, rfl, rfl, Nat.zero_le _, HL4.out⟩
            · clear HL4 HO4 e0 e1
              rintro a' W5 ⟨hsz, hdf, s2, s3, s7, s8, s11, j, s14, s13, hj, hL5⟩
              obtain ⟨u, rfl, hu⟩ := frame97 hsz hdf
              rw [hu] at s2 s3 s7 s8 s11 s14 s13
              simp only [s2, s3, s7, s8, s11, s14, s13]
              clear hsz hdf s2 s3 s7 s8 s11 s14 s13 hu
              have HL5 := Lib.hid hL5
              have c1 := hL5.b.2.2.2
              have hTT := HPT.out.1
              have hcb := cntH_bound x' j
              by_cases hjt : j < t.length
              · have i4 : (j : Int) < (t.length : Int) := by omega
                have hjT : j < P.T := by omega
                have HSP := Lib.hid (spot_co hL5.k (j : Int))
                by_cases h10 : pcT x' j = 10
                · have HCN := Lib.hid (show cntH x' (j + 1) = cntH x' j + 1 by show cntH x' j + (if pcT x' j = 10 then 1 else 0) = _; rw [if_pos h10])
                  have hN := hL5.h.nod j hjT
                  unfold nodP at hN
                  obtain ⟨hc0, hg0⟩ := hN.2.2.1 (.inl h10)
                  have hac := hN.2.2.2.1 h10
                  have hcv : cntV (spOf x'.S (j : Int)) = (spOf x'.S (j : Int)).a := if_pos h10
                  have hgv : gloV P x' (ndI p t j : Int) = 3 := by
                    rw [HPT.out.2 j] at hg0
                    have hg1 : (spOf x'.g ((ndI p t j : Nat) : Int)).pc = 10 := hg0
                    unfold gloV
                    rw [if_neg (by omega), if_neg (by omega), if_pos hg1]
                  have HCO := Lib.hid (fun W' (K' : CoAt W' cd P x') => count_co K' (j : Int))
                  have HGO := Lib.hid (fun W' (K' : CoAt W' cd P x') => global_co K' (ndI p t j : Int))
                  rw [hcv] at HCO
                  rw [hgv] at HGO
                  have i5 : ¬ (spOf x'.S (j : Int)).a < 1 := by omega
                  clear hN hc0 hg0 hac hcv hgv hL5
                  have h10 : (spOf x'.S (j : Int)).pc = 10 := h10
                  generalize spOf x'.S (j : Int) = sp at *
                  obtain ⟨xp, xa, xb, xc⟩ := sp
                  simp only at HSP HCO h10 i5
                  subst h10
                  go_wp2_with fail
                  refine HSP.out.mono ?_
                  rintro e w6 ⟨rfl, hb6⟩
                  have HL6 := Lib.hid (HL5.out.same hb6)
                  clear hb6 c1
                  go_wp2_with fail
                  refine (HCO.out _ HL6.out.k).mono ?_
                  rintro e w7 ⟨rfl, hb7⟩
                  have HL7 := Lib.hid (HL6.out.same hb7)
                  have c0 := HL7.out.b.2.2.1
                  have c1 := HL7.out.b.2.2.2
                  clear hb7
                  go_wp2_with fail
                  refine (HND.out _ (HL7.out.b.sl HS.out) (HL7.out.b.sl HT.out) j hjt).mono ?_
                  rintro e w8 ⟨rfl, hb8⟩
                  have HL8 := Lib.hid (HL7.out.same hb8)
                  clear hb8 c0 c1
                  go_wp2_with fail
                  refine (HGO.out _ HL8.out.k).mono ?_
                  rintro e w9 ⟨rfl, hb9⟩
                  have HL9 := Lib.hid (HL8.out.same hb9)
                  clear hb9
                  go_wp2_with fail
                  go_roundw
                  case rel => exact ⟨rfl, rfl, rfl, rfl, rfl, rfl, rfl, j + 1, by go_num, by rw [HCN.out]; go_num, by omega, HL9.out⟩
                  case measure => simp [intOf]; omega
                · have HCN := Lib.hid (show cntH x' (j + 1) = cntH x' j by show cntH x' j + (if pcT x' j = 10 then 1 else 0) = _; rw [if_neg h10]; rfl)
                  have g9 := ibeq_no (show ¬ (spOf x'.S (j : Int)).pc = 10 from h10)
                  clear hL5
                  generalize spOf x'.S (j : Int) = sp at *
                  obtain ⟨xp, xa, xb, xc⟩ := sp
                  simp only at HSP g9
                  clear h10
                  go_wp2_with fail
                  refine HSP.out.mono ?_
                  rintro e w6 ⟨rfl, hb6⟩
                  have HL6 := Lib.hid (HL5.out.same hb6)
                  clear hb6 c1
                  go_wp2_with fail
                  go_roundw
                  case rel => exact ⟨rfl, rfl, rfl, rfl, rfl, rfl, rfl, j + 1, by go_num, by rw [HCN.out]; rfl, by omega, HL6.out⟩
                  case measure => simp [intOf]; omega
              · obtain rfl : j = t.length := by omega
                have i4 : ¬ (t.length : Int) < (t.length : Int) := by omega
                have hfew := hL5.h.few HDJ.out t.length (by omega)
                have i5 : ¬ (1 : Int) < (cntH x' t.length : Int) := by omega
                clear hL5
                go_wp2_with fail
                go_roundw
                case rel => exact ⟨rfl, rfl, rfl, rfl, rfl, rfl, k + 1, x', by go_num, by omega, HL5.out⟩
                case measure => simp [intOf]; omega
          · have g0 := ibne hk0
            have g1 := nbne_no (hop.2 hk0)
            clear hk0
            go_upto_region 13 with first
              | (go_at_call 17; refine HO4.out.mono ?_; rintro e wx ⟨rfl, hwx⟩; obtain rfl := hwx.symm)
            go_wp2_with fail
            refine wp_loop (OnI w cd P (.slice A p.length c) (.slice B t.length d) (some ⟨b, off, none⟩) cap l k x') (fun a' _ => P.T - (intOf (a'.tmps.getD 14 undef)).toNat) ?_ ?_
            · exact ⟨rfl, rfl, rfl, rfl, rfl, rfl, rfl, 0, rfl, rfl, Nat.zero_le _, HL4.out⟩
            · clear HL4 HO4 e0 e1
              rintro a' W5 ⟨hsz, hdf, s2, s3, s7, s8, s11, j, s14, s13, hj, hL5⟩
              obtain ⟨u, rfl, hu⟩ := frame97 hsz hdf
              rw [hu] at s2 s3 s7 s8 s11 s14 s13
              simp only [s2, s3, s7, s8, s11, s14, s13]
              clear hsz hdf s2 s3 s7 s8 s11 s14 s13 hu
              have HL5 := Lib.hid hL5
              have c1 := hL5.b.2.2.2
              have hTT := HPT.out.1
              have hcb := cntH_bound x' j
              by_cases hjt : j < t.length
              · have i4 : (j : Int) < (t.length : Int) := by omega
                have hjT : j < P.T := by omega
                have HSP := Lib.hid (spot_co hL5.k (j : Int))
                by_cases h10 : pcT x' j = 10
                · have HCN := Lib.hid (show cntH x' (j + 1) = cntH x' j + 1 by show cntH x' j + (if pcT x' j = 10 then 1 else 0) = _; rw [if_pos h10])
                  have hN := hL5.h.nod j hjT
                  unfold nodP at hN
                  obtain ⟨hc0, hg0⟩ := hN.2.2.1 (.inl h10)
                  have hac := hN.2.2.2.1 h10
                  have hcv : cntV (spOf x'.S (j : Int)) = (spOf x'.S (j : Int)).a := if_pos h10
                  have hgv : gloV P x' (ndI p t j : Int) = 3 := by
                    rw [HPT.out.2 j] at hg0
                    have hg1 : (spOf x'.g ((ndI p t j : Nat) : Int)).pc = 10 := hg0
                    unfold gloV
                    rw [if_neg (by omega), if_neg (by omega), if_pos hg1]
                  have HCO := Lib.hid (fun W' (K' : CoAt W' cd P x') => count_co K' (j : Int))
                  have HGO := Lib.hid (fun W' (K' : CoAt W' cd P x') => global_co K' (ndI p t j : Int))
                  rw [hcv] at HCO
                  rw [hgv] at HGO
                  have i5 : ¬ (spOf x'.S (j : Int)).a < 1 := by omega
                  clear hN hc0 hg0 hac hcv hgv hL5
                  have h10 : (spOf x'.S (j : Int)).pc = 10 := h10
                  generalize spOf x'.S (j : Int) = sp at *
                  obtain ⟨xp, xa, xb, xc⟩ := sp
                  simp only at HSP HCO h10 i5
                  subst h10
                  go_wp2_with fail
                  refine HSP.out.mono ?_
                  rintro e w6 ⟨rfl, hb6⟩
                  have HL6 := Lib.hid (HL5.out.same hb6)
                  clear hb6 c1
                  go_wp2_with fail
                  refine (HCO.out _ HL6.out.k).mono ?_
                  rintro e w7 ⟨rfl, hb7⟩
                  have HL7 := Lib.hid (HL6.out.same hb7)
                  have c0 := HL7.out.b.2.2.1
                  have c1 := HL7.out.b.2.2.2
                  clear hb7
                  go_wp2_with fail
                  refine (HND.out _ (HL7.out.b.sl HS.out) (HL7.out.b.sl HT.out) j hjt).mono ?_
                  rintro e w8 ⟨rfl, hb8⟩
                  have HL8 := Lib.hid (HL7.out.same hb8)
                  clear hb8 c0 c1
                  go_wp2_with fail
                  refine (HGO.out _ HL8.out.k).mono ?_
                  rintro e w9 ⟨rfl, hb9⟩
                  have HL9 := Lib.hid (HL8.out.same hb9)
                  clear hb9
                  go_wp2_with fail
                  go_roundw
                  case rel => exact ⟨rfl, rfl, rfl, rfl, rfl, rfl, rfl, j + 1, by go_num, by rw [HCN.out]; go_num, by omega, HL9.out⟩
                  case measure => simp [intOf]; omega
                · have HCN := Lib.hid (show cntH x' (j + 1) = cntH x' j by show cntH x' j + (if pcT x' j = 10 then 1 else 0) = _; rw [if_neg h10]; rfl)
                  have g9 := ibeq_no (show ¬ (spOf x'.S (j : Int)).pc = 10 from h10)
                  clear hL5
                  generalize spOf x'.S (j : Int) = sp at *
                  obtain ⟨xp, xa, xb, xc⟩ := sp
                  simp only at HSP g9
                  clear h10
                  go_wp2_with fail
                  refine HSP.out.mono ?_
                  rintro e w6 ⟨rfl, hb6⟩
                  have HL6 := Lib.hid (HL5.out.same hb6)
                  clear hb6 c1
                  go_wp2_with fail
                  go_roundw
                  case rel => exact ⟨rfl, rfl, rfl, rfl, rfl, rfl, rfl, j + 1, by go_num, by rw [HCN.out]; rfl, by omega, HL6.out⟩
                  case measure => simp [intOf]; omega
              · obtain rfl : j = t.length := by omega
                have i4 : ¬ (t.length : Int) < (t.length : Int) := by omega
                have hfew := hL5.h.few HDJ.out t.length (by omega)
                have i5 : ¬ (1 : Int) < (cntH x' t.length : Int) := by omega
                clear hL5
                go_wp2_with fail
                go_roundw
                case rel => exact ⟨rfl, rfl, rfl, rfl, rfl, rfl, k + 1, x', by go_num, by omega, HL5.out⟩
                case measure => simp [intOf]; omega
        · obtain rfl : k = l.length := by omega
          have i2 : ¬ (l.length : Int) < (l.length : Int) := by omega
          clear hL
          go_wp2_with fail
          refine (HAW.out _).mono ?_
          rintro e w5 ⟨rfl, hb5⟩
          have HB5 := Lib.hid (HL.out.b.1.trans (hb5.mono HL.out.b.1.size))
          clear hb5
          go_wp2_with fail
          go_ret
          exact ⟨rfl, HB5.out⟩
    · have HMD := Lib.hid (fun W h3 h4 => made_no p t A B c d W h3 h4 n0 n1 n2 h0 h1 h2 false hok)
      have hsm := fun W h3 h4 => Rn.small_any p t A B c d W h3 h4 8
      rw [show (decide (chk p t = 0) && decide ((t.length : Int) ≤ 8)) = false by
        rcases Classical.em (chk p t = 0) with h9 | h9
        · rw [decide_eq_false (show ¬ (t.length : Int) ≤ 8 by omega), Bool.and_false]
        · rw [decide_eq_false h9, Bool.false_and]] at hsm
      have HSM := Lib.hid hsm
      clear h0 h1 h2 hsm hok
      go_enter Tryz.func4, Tryz.ntmps4
      go_upto_region 3 with fail
      have HX := Lib.hid ((Bx.made w (.slice A p.length c) (.slice B t.length d) 24).step (below_new _ (.cells #[.int .u8 n0, .int .u8 n1, .int .u8 n2] 25)))
      have hx9 := blk_new (w.alloc (.cells #[.slice A p.length c, .slice B t.length d] 24)) (.cells #[.int .u8 n0, .int .u8 n1, .int .u8 n2] 25)
      have hz9 : (w.alloc (.cells #[.slice A p.length c, .slice B t.length d] 24)).heap.size = w.heap.size + 1 := by simp
      rw [hz9] at hx9
      generalize (w.alloc (.cells #[.slice A p.length c, .slice B t.length d] 24)).alloc (.cells #[.int .u8 n0, .int .u8 n1, .int .u8 n2] 25) = W1 at *
      have c0 := HX.out.2.2.1
      have c1 := HX.out.2.2.2
      have d0 := blk_cell hx9 0 (by simp)
      have d1 := blk_cell hx9 1 (by simp)
      have d2 := blk_cell hx9 2 (by simp)
      simp at d0 d1 d2
      have hlt9 := lt_of_blk hx9
      clear hx9 hz9
      go_wp2_with fail
      refine (HMD.out _ (HX.out.sl HS.out) (HX.out.sl HT.out)).mono ?_
      rintro e W2 ⟨rfl, hb2⟩
      have HX2 := Lib.hid (HX.out.step hb2)
      clear hb2 HX c0 c1 d0 d1 d2 HMD
      simp only [mpOf]
      have HX3 := Lib.hid (HX2.out.step (below_new W2 (.cells #[.int .i64 (kgOf n0 false), .int .i64 (kgOf n1 false), .int .i64 (1 + n2 / 4 % 4), .int .i64 (n2 % 4)] 30)))
      have c0 := HX3.out.2.2.1
      have c1 := HX3.out.2.2.2
      go_wp2_with fail
      refine (HSM.out _ (HX3.out.sl HS.out) (HX3.out.sl HT.out)).mono ?_
      rintro e W3 ⟨rfl, hb3⟩
      have HX4 := Lib.hid (HX3.out.step hb3)
      clear hb3 c0 c1
      go_wp2_with fail
      refine (HAW.out _).mono ?_
      rintro e w5 ⟨rfl, hb5⟩
      have HB5 := Lib.hid (HX4.out.1.trans (hb5.mono HX4.out.1.size))
      clear hb5
      go_wp2_with fail
      go_ret
      exact ⟨rfl, HB5.out⟩
  · have i1 : (150 : Int) < (l.length : Int) := by omega
    have hb0 := (below_new w (.cells #[.slice A p.length c, .slice B t.length d] 24)).trans ((below_new (w.alloc (.cells #[.slice A p.length c, .slice B t.length d] 24)) (.cells #[.int .u8 n0, .int .u8 n1, .int .u8 n2] 25)).mono (by simp))
    have HB0 := Lib.hid hb0
    clear hb0
    go_enter Tryz.func4, Tryz.ntmps4
    go_wp2_with fail
    refine (HAW.out _).mono ?_
    rintro e w5 ⟨rfl, hb5⟩
    have HB5 := Lib.hid (HB0.out.trans (hb5.mono HB0.out.size))
    clear hb5
    go_wp2_with fail
    go_ret
    exact ⟨rfl, HB5.out⟩
end
theorem list3 {α : Type} {l : List α} (h : l.length = 3) : ∃ a b c, l = [a, b, c] := by
  match l, h with
  | [a, b, c], _ => exact ⟨a, b, c, rfl⟩
theorem one_law (w : World) (A B : Option Addr) (c d : Nat) (p t : List Int) (_hc : p.length ≤ c) (_hm : c ≤ maxLen) (_hd : t.length ≤ d) (_hn : d ≤ maxLen) (hs : Sl w w.heap.size A (p.flatMap decI)) (ht : Sl w w.heap.size B (t.flatMap decI)) (n : List Int) (hn : n.length = 3 ∧ ∀ a ∈ n, isU8 a)
    (C : Option Addr) (cap : Nat) (l : List Ac) (hlc : l.length ≤ cap) (hcm : cap ≤ maxLen) (_w0 : ∀ e ∈ l, isI64 e.kind ∧ isI64 e.i) (hl : Sl w w.heap.size C (l.flatMap decAc)) :
    Calls Tryz.prog 4 #[(.agg #[.slice A p.length c, .slice B t.length d]), .agg (n.flatMap fun n => [.int .u8 n]).toArray, .slice C l.length cap] w fun e w' => e = .returned (.bool true) ∧ Below w.heap.size w w' := by
  obtain ⟨n0, n1, n2, rfl⟩ := list3 hn.1
  exact one_walk p t A B c d w hs ht n0 n1 n2 (hn.2 n0 (by simp)) (hn.2 n1 (by simp)) (hn.2 n2 (by simp)) C cap l hlc hcm hl
end Go.Proofs.YtfnmggmgdmokcaaGreat.Cm

